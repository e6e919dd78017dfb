/- Texts laid as one: AbBase AbOps AbSim AbWorld AbComp AbSound AbStep AbStep2. -/
import Derived.WalkKit
import Derived.KernelRfl
import Derived.Laws.StructEq
set_option maxRecDepth 100000
set_option maxHeartbeats 4000000
set_option linter.unusedSimpArgs false
set_option linter.unusedVariables false
namespace Go.Ab
inductive AV where
 |b (x:Bool)
 |i (k:IntKind) (n:Int)
 |s (l:List UInt8)
 |np
 |p (b o:Nat)
 |ns
 |sl (b o len cap:Nat)
 |sg (b o len:Nat)
 |fn (f:FuncId) (caps:List AV)
 |bm (f:FuncId) (first:List AV)
 |nf
 |ni
 |agg (l:List AV)
 |tup (l:List AV)
 |fz (l:List AV) (n:Nat)
 |fp (l:List AV) (k:Nat)
 |ze
 |en
 |any
 |yl (L:Nat) (r:Go.Loop) (ts:List Nat) (l:List AV)
 |k (t:TypeId) (v:Value)
 |m (b:Nat)
 |nm
instance:Inhabited AV:=⟨.np⟩
structure Phi where
 blk:Nat->Nat
 off:Nat->Nat
 cap:Nat->Nat
 esz:Nat->Nat
 fz:Nat->Option (Array Value):=fun _=>none
 lp:Nat->Option Go.Loop:=fun _=>none
structure Agree (D:Nat->Prop) (φ φ':Phi):Prop where
 at_: ∀b,D b->φ'.blk b=φ.blk b/\φ'.off b=φ.off b/\φ'.cap b=φ.cap b/\φ'.esz b=φ.esz b
 fz: ∀B vs,φ.fz B=some vs->φ'.fz B=some vs
 lp:φ'.lp=φ.lp
instance {D:Nat->Prop} {φ φ':Phi}:CoeFun (Agree D φ φ') (fun _=> ∀b,D b->φ'.blk b=φ.blk b/\φ'.off b=φ.off b/\φ'.cap b=φ.cap b/\φ'.esz b=φ.esz b):=⟨Agree.at_⟩
def YB:Nat:=1099511627776
inductive VRel (D:Nat->Prop) (φ:Phi):AV->Value->Prop
 |b (x:Bool):VRel D φ (.b x) (.bool x)
 |i (k:IntKind) (n:Int):VRel D φ (.i k n) (.int k n)
 |s (l:List UInt8):VRel D φ (.s l) (.string ⟨l.toArray⟩)
 |np:VRel D φ .np (.pointer none)
 |p (b o:Nat) (h:D b):VRel D φ (.p b o) (.pointer (some ⟨φ.blk b,φ.off b+o,none⟩))
 |ns:VRel D φ .ns (.slice none 0 0)
 |sl (b o len cap:Nat) (h:D b):VRel D φ (.sl b o len cap) (.slice (some ⟨φ.blk b,φ.off b+o,none⟩) len cap)
 |sg (b o len j cap:Nat) (h:D b) (hj:j*φ.esz b=o) (hc:j+cap=φ.cap b) (hl:len<=cap):
  VRel D φ (.sg b o len) (.slice (some ⟨φ.blk b,φ.off b+o,none⟩) len cap)
 |fn (f:FuncId) (l:List AV) (cs:Array Value) (hf:f≠YB) (hl:l.length=cs.size) (h: ∀(i:Nat) (a:AV) (u:Value),l[i]? =some a->cs[i]? =some u->VRel D φ a u):
  VRel D φ (.fn f l) (.func (.func f) #[] cs)
 |bm (f:FuncId) (l:List AV) (cs:Array Value) (hf:f≠YB) (hl:l.length=cs.size) (h: ∀(i:Nat) (a:AV) (u:Value),l[i]? =some a->cs[i]? =some u->VRel D φ a u):
  VRel D φ (.bm f l) (.func (.func f) cs #[])
 |nf:VRel D φ .nf .nilFunc
 |ni:VRel D φ .ni .nilIface
 |agg (l:List AV) (cs:Array Value) (hl:l.length=cs.size) (h: ∀(i:Nat) (a:AV) (u:Value),l[i]? =some a->cs[i]? =some u->VRel D φ a u):
  VRel D φ (.agg l) (.agg cs)
 |tup (l:List AV) (cs:Array Value) (hl:l.length=cs.size) (h: ∀(i:Nat) (a:AV) (u:Value),l[i]? =some a->cs[i]? =some u->VRel D φ a u):
  VRel D φ (.tup l) (.tuple cs)
 |fz (l:List AV) (n B o cap:Nat) (vs:Array Value) (hB:φ.fz B=some vs) (hc:n<=cap) (hs: ∀i,i<l.length->o+i<vs.size) (h: ∀(i:Nat) (a:AV) (u:Value),l[i]? =some a->vs[o+i]? =some u->VRel D φ a u):
  VRel D φ (.fz l n) (.slice (some ⟨B,o,none⟩) n cap)
 |fz0 (l:List AV) (x:Option Addr) (cap:Nat) (hc:x=none->cap=0):VRel D φ (.fz l 0) (.slice x 0 cap)
 |fp (l:List AV) (k B o:Nat) (vs:Array Value) (hB:φ.fz B=some vs) (hs: ∀i,i<l.length->o+i<vs.size) (h: ∀(i:Nat) (a:AV) (u:Value),l[i]? =some a->vs[o+i]? =some u->VRel D φ a u):
  VRel D φ (.fp l k) (.pointer (some ⟨B,o+k,none⟩))
 |ze (x:Option Addr):VRel D φ .ze (.slice x 0 0)
 |en (x:Addr) (cap:Nat):VRel D φ .en (.slice (some x) 0 cap)
 |any (u:Value):VRel D φ .any u
 |yl (L:Nat) (r:Go.Loop) (ts:List Nat) (l:List AV) (hL:φ.lp L=some r) (h: ∀(i t:Nat) (a:AV),ts[i]? =some t->l[i]? =some a->VRel D φ a (r.tmps.getD t undef)):VRel D φ (.yl L r ts l) (.func (.yield L) #[] #[])
 |k (t:TypeId) (v:Value):VRel D φ (.k t v) (.iface t v)
 |m (b:Nat) (h:D b):VRel D φ (.m b) (.map (some (φ.blk b)))
 |nm:VRel D φ .nm (.map none)
theorem VRel.mono' {D D':Nat->Prop} {φ φ':Phi} (hD: ∀b,D b->D' b) (hφ: ∀b,D b->φ'.blk b=φ.blk b/\φ'.off b=φ.off b/\φ'.cap b=φ.cap b/\φ'.esz b=φ.esz b) (hz: ∀B vs,φ.fz B=some vs->φ'.fz B=some vs) (hl: ∀L r,φ.lp L=some r->φ'.lp L=some r) {v:AV} {u:Value} (h:VRel D φ v u):VRel D' φ' v u:=by
 induction h with
 |b x=>exact .b x
 |i k n=>exact .i k n
 |s l=>exact .s l
 |np=>exact .np
 |p b o h=>obtain ⟨h1,h2,_,_⟩:=hφ b h;rw [<-h1,<-h2];exact .p b o (hD b h)
 |ns=>exact .ns
 |sl b o len cap h=>obtain ⟨h1,h2,_,_⟩:=hφ b h;rw [<-h1,<-h2];exact .sl b o len cap (hD b h)
 |sg b o len j cap h hj hc hl=>obtain ⟨h1,h2,h3,h4⟩:=hφ b h;rw [<-h1,<-h2];exact .sg b o len j cap (hD b h) (by rw [h4];exact hj) (by rw [h3];exact hc) hl
 |fn f l cs hf hl h ih=>exact .fn f l cs hf hl ih
 |bm f l cs hf hl h ih=>exact .bm f l cs hf hl ih
 |nf=>exact .nf
 |ni=>exact .ni
 |agg l cs hl h ih=>exact .agg l cs hl ih
 |tup l cs hl h ih=>exact .tup l cs hl ih
 |fz l n B o cap vs hB hc hs h ih=>exact .fz l n B o cap vs (hz _ _ hB) hc hs ih
 |fz0 l x cap hc=>exact .fz0 l x cap hc
 |fp l k B o vs hB hs h ih=>exact .fp l k B o vs (hz _ _ hB) hs ih
 |ze x=>exact .ze x
 |en x cap=>exact .en x cap
 |any u=>exact .any u
 |yl L r ts l hL h ih=>exact .yl L r ts l (hl _ _ hL) ih
 |k t v=>exact .k t v
 |m b h=>obtain ⟨h1,_⟩:=hφ b h;rw [<-h1];exact .m b (hD b h)
 |nm=>exact .nm
theorem VRel.mono {D D':Nat->Prop} {φ φ':Phi} (hD: ∀b,D b->D' b) (hφ:Agree D φ φ') {v:AV} {u:Value} (h:VRel D φ v u):VRel D' φ' v u:=
 h.mono' hD hφ.at_ hφ.fz (fun L r hL=>by rw [hφ.lp];exact hL)
def All2 (D:Nat->Prop) (φ:Phi) (l:List AV) (m:List Value):Prop:=
 l.length=m.length/\ ∀(i:Nat) (a:AV) (u:Value),l[i]? =some a->m[i]? =some u->VRel D φ a u
theorem All2.nil {D:Nat->Prop} {φ:Phi}:All2 D φ [] []:=⟨rfl,fun i a u h=>by simp at h⟩
theorem All2.cons {D:Nat->Prop} {φ:Phi} {a:AV} {u:Value} {l:List AV} {m:List Value} (h:VRel D φ a u) (t:All2 D φ l m):All2 D φ (a::l) (u::m):=by
 refine ⟨by simp [t.1],fun i x y hx hy=> ?_⟩
 cases i with
 |zero=>simp at hx hy;subst hx;subst hy;exact h
 |succ i=>simp at hx hy;exact t.2 i x y hx hy
theorem All2.uncons {D:Nat->Prop} {φ:Phi} {a:AV} {l:List AV} {m:List Value} (h:All2 D φ (a::l) m): ∃u m',m=u::m'/\VRel D φ a u/\All2 D φ l m':=by
 cases m with
 |nil=>have:=h.1;simp at this
 |cons u m'=>
  refine ⟨u,m',rfl,h.2 0 a u (by simp) (by simp),by have:=h.1;simpa using this,fun i x y hx hy=>h.2 (i+1) x y (by simpa using hx) (by simpa using hy)⟩
theorem All2.unnil {D:Nat->Prop} {φ:Phi} {m:List Value} (h:All2 D φ [] m):m=[]:=by
 cases m with
 |nil=>rfl
 |cons u m'=>have:=h.1;simp at this
theorem All2.mono {D D':Nat->Prop} {φ φ':Phi} (hD: ∀b,D b->D' b) (hφ:Agree D φ φ') {l:List AV} {m:List Value} (h:All2 D φ l m):All2 D' φ' l m:=
 ⟨h.1,fun i a u ha hu=>(h.2 i a u ha hu).mono hD hφ⟩
theorem All2.get {D:Nat->Prop} {φ:Phi} {l:List AV} {m:List Value} (h:All2 D φ l m) {i:Nat} {a:AV} (ha:l[i]? =some a): ∃u,m[i]? =some u/\VRel D φ a u:=by
 have hi:i<l.length:=by
  rcases Nat.lt_or_ge i l.length with h'|h'
  ·exact h'
  ·rw [List.getElem?_eq_none h'] at ha;cases ha
 have hm:i<m.length:=by rw [<-h.1];exact hi
 exact ⟨m[i],by simp [hm],h.2 i a _ ha (by simp [hm])⟩
theorem All2.append {D:Nat->Prop} {φ:Phi} {l l':List AV} {m m':List Value} (h:All2 D φ l m) (h':All2 D φ l' m'):All2 D φ (l++l') (m++m'):=by
 refine ⟨by simp [h.1,h'.1],fun i a u ha hu=> ?_⟩
 by_cases hi:i<l.length
 ·rw [List.getElem?_append_left hi] at ha;rw [List.getElem?_append_left (by rw [<-h.1];exact hi)] at hu
  exact h.2 i a u ha hu
 ·rw [List.getElem?_append_right (by omega)] at ha
  rw [List.getElem?_append_right (by rw [<-h.1];omega),<-h.1] at hu
  exact h'.2 _ a u ha hu
theorem All2.drop {D:Nat->Prop} {φ:Phi} {l:List AV} {m:List Value} (n:Nat) (h:All2 D φ l m):All2 D φ (l.drop n) (m.drop n):=
 ⟨by simp [h.1],fun i a u ha hu=>h.2 (n+i) a u (by simpa using ha) (by simpa using hu)⟩
theorem All2.take {D:Nat->Prop} {φ:Phi} {l:List AV} {m:List Value} (n:Nat) (h:All2 D φ l m):All2 D φ (l.take n) (m.take n):=by
 refine ⟨by simp [h.1],fun i a u ha hu=> ?_⟩
 rw [List.getElem?_take] at ha hu;split at ha
 ·rename_i hi;rw [if_pos hi] at hu;exact h.2 i a u ha hu
 ·cases ha
theorem VRel.agg' {D:Nat->Prop} {φ:Phi} {l:List AV} {m:List Value} (h:All2 D φ l m):VRel D φ (.agg l) (.agg m.toArray):=
 .agg l m.toArray (by simp [h.1]) (fun i a u ha hu=>h.2 i a u ha (by simpa using hu))
theorem VRel.tup' {D:Nat->Prop} {φ:Phi} {l:List AV} {m:List Value} (h:All2 D φ l m):VRel D φ (.tup l) (.tuple m.toArray):=
 .tup l m.toArray (by simp [h.1]) (fun i a u ha hu=>h.2 i a u ha (by simpa using hu))
theorem VRel.fn' {D:Nat->Prop} {φ:Phi} {f:FuncId} {l:List AV} {m:List Value} (hf:f≠YB) (h:All2 D φ l m):VRel D φ (.fn f l) (.func (.func f) #[] m.toArray):=
 .fn f l m.toArray hf (by simp [h.1]) (fun i a u ha hu=>h.2 i a u ha (by simpa using hu))
theorem VRel.agg_inv {D:Nat->Prop} {φ:Phi} {l:List AV} {u:Value} (h:VRel D φ (.agg l) u): ∃m:List Value,u= .agg m.toArray/\All2 D φ l m:=by
 cases h with
 |agg _ cs hl h=>exact ⟨cs.toList,rfl,by simpa using hl,fun i a u ha hu=>h i a u ha (by simpa using hu)⟩
theorem VRel.tup_inv {D:Nat->Prop} {φ:Phi} {l:List AV} {u:Value} (h:VRel D φ (.tup l) u): ∃m:List Value,u= .tuple m.toArray/\All2 D φ l m:=by
 cases h with
 |tup _ cs hl h=>exact ⟨cs.toList,rfl,by simpa using hl,fun i a u ha hu=>h i a u ha (by simpa using hu)⟩
theorem VRel.bm' {D:Nat->Prop} {φ:Phi} {f:FuncId} {l:List AV} {m:List Value} (hf:f≠YB) (h:All2 D φ l m):VRel D φ (.bm f l) (.func (.func f) m.toArray #[]):=
 .bm f l m.toArray hf (by simp [h.1]) (fun i a u ha hu=>h.2 i a u ha (by simpa using hu))
theorem VRel.bm_inv {D:Nat->Prop} {φ:Phi} {f:FuncId} {l:List AV} {u:Value} (h:VRel D φ (.bm f l) u):f≠YB/\ ∃m:List Value,u= .func (.func f) m.toArray #[]/\All2 D φ l m:=by
 cases h with
 |bm _ _ cs hf hl h=>exact ⟨hf,cs.toList,rfl,by simpa using hl,fun i a u ha hu=>h i a u ha (by simpa using hu)⟩
theorem VRel.fn_inv {D:Nat->Prop} {φ:Phi} {f:FuncId} {l:List AV} {u:Value} (h:VRel D φ (.fn f l) u):f≠YB/\ ∃m:List Value,u= .func (.func f) #[] m.toArray/\All2 D φ l m:=by
 cases h with
 |fn _ _ cs hf hl h=>exact ⟨hf,cs.toList,rfl,by simpa using hl,fun i a u ha hu=>h i a u ha (by simpa using hu)⟩
inductive MKeys where
 |i (l:List Int)
 |s (l:List (List UInt8))
 |a (l:List (List Int))
def MKeys.vals:MKeys->List Value
 | .i l=>l.map fun x=> .int .i64 x
 | .s l=>l.map fun x=> .string ⟨x.toArray⟩
 | .a l=>l.map fun x=> .agg (x.map fun y=>Value.int .i64 y).toArray
structure Blk where
 cells:List AV
 ro:Bool:=false
 gr:Option Nat:=none
 gid:Option Nat:=none
 mp:Option MKeys:=none
abbrev Hf:=Nat->Option Blk
def MKeys.find:MKeys->AV->Option (Option Nat)
 | .i l,.i .i64 x=> .some (l.findIdx? (x== ·))
 | .s l,.s x=> .some (l.findIdx? (x== ·))
 |_,_=>none
def MKeys.push:MKeys->AV->MKeys
 | .i l,.i _ x=> .i (l++[x])
 | .s l,.s x=> .s (l++[x])
 |ks,_=>ks
def MKeys.del:MKeys->Nat->MKeys
 | .i l,j=> .i (l.eraseIdx j)
 | .s l,j=> .s (l.eraseIdx j)
 | .a l,j=> .a (l.eraseIdx j)
def MKeys.len:MKeys->Nat
 | .i l=>l.length
 | .s l=>l.length
 | .a l=>l.length
theorem MKeys.vals_len (ks:MKeys):ks.vals.length=ks.len:=by cases ks<;>simp [MKeys.vals,MKeys.len]
def MKeys.kd:MKeys->Nat
 | .i _=>0
 | .s _=>1
 | .a _=>2
def keyKd (P:Program) (t:TypeId):Option Nat:=match P.underlying t with
 |some (.int _)=>some 0
 |some .string=>some 1
 |_=>none
def MKeys.ok (P:Program) (t:TypeId):MKeys->Bool
 | .i _=>match P.underlying t with
  |some (.int _)=>true
  |_=>false
 | .s _=>match P.underlying t with
  |some .string=>true
  |_=>false
 | .a _=>false
theorem keyKd_ok {P:Program} {t:TypeId} {ks:MKeys} (h:keyKd P t=some ks.kd):ks.ok P t=true:=by
 unfold keyKd at h;split at h
 ·rename_i hu;cases ks<;>simp [MKeys.kd] at h;simp [MKeys.ok,hu]
 ·rename_i hu;cases ks<;>simp [MKeys.kd] at h;simp [MKeys.ok,hu]
 ·cases h
def ObAs (mp:Option MKeys) (o:Option Obj) (cs:Array Value) (elem:TypeId) (fr:Nat×Nat):Prop:=
 match mp with
 |none=>o=some (.cells cs elem fr)
 |some ks=> ∃es clk,o=some (.map es clk)/\es.toList.map (·.val)=cs.toList/\es.toList.map (·.key)=ks.vals
theorem ObAs.cells {mp:Option MKeys} {o:Option Obj} {cs:Array Value} {elem:TypeId} {fr:Nat×Nat} (h:ObAs mp o cs elem fr) (hm:mp=none):o=some (.cells cs elem fr):=by subst hm;exact h
theorem ObAs.mk {mp:Option MKeys} {o:Option Obj} {cs:Array Value} {elem:TypeId} {fr:Nat×Nat} (hm:mp=none) (h:o=some (.cells cs elem fr)):ObAs mp o cs elem fr:=by subst hm;exact h
theorem ObAs.of {mp:Option MKeys} {o:Option Obj} {cs cs0:Array Value} {elem elem0:TypeId} {fr fr0:Nat×Nat} (h:ObAs mp o cs0 elem0 fr0) (ho:o=some (.cells cs elem fr)):mp=none/\cs=cs0/\elem=elem0/\fr=fr0:=by
 unfold ObAs at h;split at h
 ·rw [ho] at h;cases h;exact ⟨rfl,rfl,rfl,rfl⟩
 ·obtain ⟨es,clk,h,_⟩:=h;rw [ho] at h;cases h
theorem ObAs.some {mp:Option MKeys} {o:Option Obj} {cs:Array Value} {elem:TypeId} {fr:Nat×Nat} (h:ObAs mp o cs elem fr): ∃x,o= .some x/\(∀r,x≠ .loop r):=by
 unfold ObAs at h;split at h
 ·exact ⟨_,h,fun r e=>by cases e⟩
 ·obtain ⟨es,clk,h,_⟩:=h;exact ⟨_,h,fun r e=>by cases e⟩
structure BRel (D:Nat->Prop) (φ:Phi) (w:World) (b:Nat) (k:Blk):Prop where
 ex: ∃cs elem fr,ObAs k.mp (w.heap[φ.blk b]?) cs elem fr∧
  (∀(i:Nat) (v:AV),k.cells[i]? =some v-> ∃u,cs[φ.off b+i]? =some u/\VRel D φ v u)∧
  (k.ro=false->(k.gr=none->φ.off b=0)/\ ∀i,(i<cs.size\/i=cs.size/\k.gr≠some 1)-> ¬(fr.1<=i/\i<fr.2))∧
  (∀e,k.gr=some e->k.ro=false/\φ.esz b=e/\cs.size=φ.off b+φ.cap b*e)
 gid: ∀g,k.gid=some g->φ.blk b=g/\φ.off b=0
structure HR0 (D:Nat->Prop) (φ:Phi) (H:Hf) (w:World):Prop where
 at_: ∀b k,H b=some k->D b/\BRel D φ w b k
 sep: ∀b1 b2 k1 k2,b1≠b2->H b1=some k1->H b2=some k2->k1.ro=false->φ.blk b1≠φ.blk b2
structure HR (D:Nat->Prop) (φ:Phi) (H:Hf) (w:World):Prop extends HR0 D φ H w where
 fz: ∀B vs,φ.fz B=some vs-> ∃elem fr,w.heap[B]? =some (.cells vs elem fr)
 lp: ∀L r,φ.lp L=some r->w.heap[L]? =some (.loop r)
 fsep: ∀b k B vs,H b=some k->k.ro=false->φ.fz B=some vs->φ.blk b≠B
structure FRM (H:Hf) (φ:Phi) (w w':World):Prop where
 os:w'.os=w.os
 tape:w'.tape=w.tape
 output:w'.output=w.output
 size:w.heap.size<=w'.heap.size
 block: ∀c,c<w.heap.size->(∀b k,H b=some k->k.ro=false->φ.blk b≠c)->w'.heap[c]? =w.heap[c]?
structure Stp (D:Nat->Prop) (φ:Phi) (H:Hf) (w:World) (D':Nat->Prop) (φ':Phi) (H':Hf) (w':World):Prop where
 sub: ∀b,D b->D' b
 agree:Agree D φ φ'
 hr:HR D' φ' H' w'
 frm:FRM H φ w w'
 img: ∀b k,H' b=some k->k.ro=false->w.heap.size<=φ'.blk b\/ ∃m km,H m=some km/\km.ro=false/\φ.blk m=φ'.blk b
 fnew: ∀B vs,φ'.fz B=some vs->φ.fz B=some vs\/(w.heap.size<=B\/ ∃m km,H m=some km/\km.ro=false/\φ.blk m=B)
theorem Agree.refl (D:Nat->Prop) (φ:Phi):Agree D φ φ:=⟨fun _ _=>⟨rfl,rfl,rfl,rfl⟩,fun _ _ h=>h,rfl⟩
theorem Agree.trans {D D':Nat->Prop} {φ φ' φ'':Phi} (hs: ∀b,D b->D' b) (h:Agree D φ φ') (h':Agree D' φ' φ''):Agree D φ φ'':=⟨fun b hb=>by
 obtain ⟨a1,a2,a3,a4⟩:=h b hb;obtain ⟨b1,b2,b3,b4⟩:=h' b (hs b hb);exact ⟨b1.trans a1,b2.trans a2,b3.trans a3,b4.trans a4⟩,fun B vs hB=>h'.fz B vs (h.fz B vs hB),h'.lp.trans h.lp⟩
theorem FRM.refl (H:Hf) (φ:Phi) (w:World):FRM H φ w w:=⟨rfl,rfl,rfl,Nat.le_refl _,fun _ _ _=>rfl⟩
theorem BRel.lt {D:Nat->Prop} {φ:Phi} {w:World} {b:Nat} {k:Blk} (h:BRel D φ w b k):φ.blk b<w.heap.size:=by
 obtain ⟨⟨cs,elem,fr,h1,_⟩,_⟩:=h;rcases Nat.lt_or_ge (φ.blk b) w.heap.size with h'|h'
 ·exact h'
 ·obtain ⟨x,h2,_⟩:=h1.some;rw [Array.getElem?_eq_none h'] at h2;cases h2
theorem BRel.mono {D D':Nat->Prop} {φ φ':Phi} {w w':World} {b:Nat} {k:Blk} (hD: ∀b,D b->D' b) (hφ:Agree D φ φ') (hb:D b) (hw:w'.heap[φ.blk b]? =w.heap[φ.blk b]?)
 (h:BRel D φ w b k):BRel D' φ' w' b k:=by
 obtain ⟨⟨cs,elem,fr,h1,h2,h3,h4⟩,h5⟩:=h;obtain ⟨e1,e2,e3,e4⟩:=hφ b hb;refine ⟨⟨cs,elem,fr,by rw [e1,hw];exact h1,fun i v hv=> ?_,fun hr=>by rw [e2];exact h3 hr,fun e he=>by rw [e2,e3,e4];exact h4 e he⟩,fun g hg=>by rw [e1,e2];exact h5 g hg⟩
 obtain ⟨u,hu,hvu⟩:=h2 i v hv;exact ⟨u,by rw [e2];exact hu,hvu.mono hD hφ⟩
theorem HR.sub {D:Nat->Prop} {φ:Phi} {H H':Hf} {w:World} (h:HR D φ H w) (hs: ∀b k,H' b=some k->H b=some k):HR D φ H' w:=
 ⟨⟨fun b k hb=>h.at_ b k (hs b k hb),fun b1 b2 k1 k2 hne h1 h2 hk=>h.sep b1 b2 k1 k2 hne (hs _ _ h1) (hs _ _ h2) hk⟩,h.fz,h.lp,fun b k B vs hb hk hB=>h.fsep b k B vs (hs _ _ hb) hk hB⟩
theorem HR.world {D:Nat->Prop} {φ:Phi} {H:Hf} {w w':World} (h:HR D φ H w) (hw:w'.heap=w.heap):HR D φ H w':=
 ⟨⟨fun b k hb=>⟨(h.at_ b k hb).1,⟨by rw [hw];exact (h.at_ b k hb).2.ex,(h.at_ b k hb).2.gid⟩⟩,h.sep⟩,fun B vs hB=>by rw [hw];exact h.fz B vs hB,fun L r hL=>by rw [hw];exact h.lp L r hL,h.fsep⟩
theorem HR.grow {D D':Nat->Prop} {φ:Phi} {H:Hf} {w:World} (hD: ∀b,D b->D' b) (h:HR D φ H w):HR D' φ H w:=
 ⟨⟨fun b k hb=>⟨hD b (h.at_ b k hb).1,(h.at_ b k hb).2.mono hD (Agree.refl _ _) (h.at_ b k hb).1 rfl⟩,h.sep⟩,h.fz,h.lp,h.fsep⟩
theorem Stp.refl {D:Nat->Prop} {φ:Phi} {H:Hf} {w:World} (h:HR D φ H w):Stp D φ H w D φ H w:=
 ⟨fun _ h=>h,Agree.refl _ _,h,FRM.refl _ _ _,fun b k hb hk=> .inr ⟨b,k,hb,hk,rfl⟩,fun _ _ h=> .inl h⟩
theorem Stp.trans {D D1 D2:Nat->Prop} {φ φ1 φ2:Phi} {H H1 H2:Hf} {w w1 w2:World} (h:Stp D φ H w D1 φ1 H1 w1) (h':Stp D1 φ1 H1 w1 D2 φ2 H2 w2):
 Stp D φ H w D2 φ2 H2 w2:=by
 refine ⟨fun b hb=>h'.sub b (h.sub b hb),h.agree.trans h.sub h'.agree,h'.hr,⟨h'.frm.os.trans h.frm.os,h'.frm.tape.trans h.frm.tape,h'.frm.output.trans h.frm.output,Nat.le_trans h.frm.size h'.frm.size,fun c hc hn=> ?_⟩,fun b k hb hk=> ?_,fun B vs hB=> ?_⟩
 ·rw [h'.frm.block c (Nat.lt_of_lt_of_le hc h.frm.size) (fun b k hb hk he=> ?_)]
  ·exact h.frm.block c hc hn
  ·rcases h.img b k hb hk with h1|⟨m,km,h1,h2,h3⟩
   ·rw [he] at h1;omega
   ·exact hn m km h1 h2 (h3.trans he)
 ·rcases h'.img b k hb hk with h1|⟨m,km,h1,h2,h3⟩
  ·exact .inl (Nat.le_trans h.frm.size h1)
  ·rcases h.img m km h1 h2 with h4|⟨m',km',h4,h5,h6⟩
   ·exact .inl (by rw [<-h3];exact h4)
   ·exact .inr ⟨m',km',h4,h5,h6.trans h3⟩
 ·rcases h'.fnew B vs hB with h1|h1|⟨m,km,h1,h2,h3⟩
  ·exact h.fnew B vs h1
  ·exact .inr (.inl (Nat.le_trans h.frm.size h1))
  ·rcases h.img m km h1 h2 with h4|⟨m',km',h4,h5,h6⟩
   ·exact .inr (.inl (by rw [<-h3];exact h4))
   ·exact .inr (.inr ⟨m',km',h4,h5,h6.trans h3⟩)
theorem HR.lp_stays {D:Nat->Prop} {φ:Phi} {H:Hf} {w w':World} (hH:HR D φ H w) (frm:FRM H φ w w') {L:Nat} {r:Go.Loop} (hL:φ.lp L=some r):w'.heap[L]? =some (.loop r):=by
 have h1:=hH.lp L r hL;have hlt:L<w.heap.size:=by
  rcases Nat.lt_or_ge L w.heap.size with h'|h'
  ·exact h'
  ·rw [Array.getElem?_eq_none h'] at h1;cases h1
 rw [frm.block L hlt (fun b k hb hk he=> ?_)]
 ·exact h1
 ·obtain ⟨⟨cs,elem,fr,h2,_⟩,_⟩:=(hH.at_ b k hb).2;obtain ⟨x,h3,h4⟩:=h2.some;rw [he,h1] at h3;cases h3;exact h4 r rfl
theorem Stp.mk' {D D':Nat->Prop} {φ φ':Phi} {H H':Hf} {w w':World} (hH:HR D φ H w) (hfz:φ'.fz=φ.fz) (hlp:φ'.lp=φ.lp) (sub: ∀b,D b->D' b)
 (agree: ∀b,D b->φ'.blk b=φ.blk b/\φ'.off b=φ.off b/\φ'.cap b=φ.cap b/\φ'.esz b=φ.esz b)
 (hr:HR0 D' φ' H' w') (frm:FRM H φ w w') (img: ∀b k,H' b=some k->k.ro=false->w.heap.size<=φ'.blk b\/ ∃m km,H m=some km/\km.ro=false/\φ.blk m=φ'.blk b):
 Stp D φ H w D' φ' H' w':=by
 refine ⟨sub,⟨agree,fun B vs h=>by rw [hfz];exact h,hlp⟩,⟨hr,fun B vs hB=> ?_,fun L r hL=>by rw [hlp] at hL;exact hH.lp_stays frm hL,fun b k B vs hb hk hB=> ?_⟩,frm,img,fun B vs h=> .inl (by rw [<-hfz];exact h)⟩
 ·rw [hfz] at hB;obtain ⟨elem,fr,h1⟩:=hH.fz B vs hB;refine ⟨elem,fr,?_⟩;rw [frm.block B ?_ (fun b k hb hk=>hH.fsep b k B vs hb hk hB)]
  ·exact h1
  ·rcases Nat.lt_or_ge B w.heap.size with h'|h'
   ·exact h'
   ·rw [Array.getElem?_eq_none h'] at h1;cases h1
 ·rw [hfz] at hB;obtain ⟨elem,fr,h1⟩:=hH.fz B vs hB;have hlt:B<w.heap.size:=by
   rcases Nat.lt_or_ge B w.heap.size with h'|h'
   ·exact h'
   ·rw [Array.getElem?_eq_none h'] at h1;cases h1
  rcases img b k hb hk with h2|⟨m,km,h2,h3,h4⟩
  ·omega
  ·rw [<-h4];exact hH.fsep m km B vs h2 h3 hB
theorem Stp.frame {D D':Nat->Prop} {φ φ':Phi} {H0 H0' H:Hf} {w w':World} (hH:HR D φ H w) (hsub: ∀b k,H0 b=some k->H b=some k) (h:Stp D φ H0 w D' φ' H0' w')
 (H':Hf) (hH': ∀b k,H' b=some k->H0' b=some k\/(H b=some k/\H0 b=none))
 (hro: ∀b k,H0' b=some k->k.ro=true->H0 b=some k):
 Stp D φ H w D' φ' H' w':=by
 have old: ∀b k,H b=some k->H0 b=none-> ∀m km,H0 m=some km->km.ro=false->φ.blk m≠φ.blk b:=fun b k hb h0 m km hm hk=>
  hH.sep m b km k (by intro e;rw [e] at hm;rw [hm] at h0;cases h0) (hsub m km hm) hb hk
 have stays: ∀b k,H b=some k->H0 b=none->w'.heap[φ.blk b]? =w.heap[φ.blk b]? :=fun b k hb h0=>
  h.frm.block _ (hH.at_ b k hb).2.lt (fun m km hm hk=>old b k hb h0 m km hm hk)
 -- an old block outside the part against a changed or new one inside it
 have apart: ∀b1 k1 b2 k2,H' b1=some k1->H' b2=some k2->H0' b1=some k1->H b2=some k2->H0 b2=none->b1≠b2->(k1.ro=false\/k2.ro=false)->φ'.blk b1≠φ'.blk b2:=by
  intro b1 k1 b2 k2 g1 g2 h1 h2 h20 hne hk;have hD2:=(hH.at_ b2 k2 h2);have e2:=(h.agree b2 hD2.1).1;rw [e2];by_cases hk1:k1.ro=false
  ·rcases h.img b1 k1 h1 hk1 with h3|⟨m,km,h3,h4,h5⟩
   ·have:=hD2.2.lt;omega
   ·rw [<-h5];exact old b2 k2 h2 h20 m km h3 h4
  ·have hk1':k1.ro=true:=by simpa using hk1
   have h10:=hro b1 k1 h1 hk1';have hD1:=hH.at_ b1 k1 (hsub b1 k1 h10);rw [(h.agree b1 hD1.1).1];have hk2:k2.ro=false:=hk.resolve_left hk1;exact fun e=>hH.sep b2 b1 k2 k1 (Ne.symm hne) h2 (hsub b1 k1 h10) hk2 e.symm
 refine ⟨h.sub,h.agree,⟨⟨fun b k hb=> ?_,fun b1 b2 k1 k2 hne h1 h2 hk=> ?_⟩,h.hr.fz,h.hr.lp,fun b k B vs hb hk hB=> ?_⟩,⟨h.frm.os,h.frm.tape,h.frm.output,h.frm.size,fun c hc hn=>h.frm.block c hc (fun b k hb hk=>hn b k (hsub b k hb) hk)⟩,fun b k hb hk=> ?_,fun B vs hB=> ?_⟩
 ·rcases hH' b k hb with h1|⟨h1,h2⟩
  ·exact h.hr.at_ b k h1
  ·have hb':=hH.at_ b k h1;exact ⟨h.sub b hb'.1,hb'.2.mono h.sub h.agree hb'.1 (stays b k h1 h2)⟩
 ·rcases hH' b1 k1 h1 with g1|⟨g1,g10⟩<;>rcases hH' b2 k2 h2 with g2|⟨g2,g20⟩
  ·exact h.hr.sep b1 b2 k1 k2 hne g1 g2 hk
  ·exact apart b1 k1 b2 k2 h1 h2 g1 g2 g20 hne (.inl hk)
  ·exact fun e=>apart b2 k2 b1 k1 h2 h1 g2 g1 g10 (Ne.symm hne) (.inr hk) e.symm
  ·rw [(h.agree b1 (hH.at_ b1 k1 g1).1).1,(h.agree b2 (hH.at_ b2 k2 g2).1).1];exact hH.sep b1 b2 k1 k2 hne g1 g2 hk
 ·rcases hH' b k hb with h1|⟨h1,h2⟩
  ·exact h.hr.fsep b k B vs h1 hk hB
  ·rw [(h.agree b (hH.at_ b k h1).1).1];rcases h.fnew B vs hB with g|g
   ·exact hH.fsep b k B vs h1 hk g
   ·rcases g with g|⟨m,km,g1,g2,g3⟩
    ·have:=(hH.at_ b k h1).2.lt;omega
    ·intro e;exact old b k h1 h2 m km g1 g2 (g3.trans e.symm)
 ·rcases hH' b k hb with h1|⟨h1,h2⟩
  ·rcases h.img b k h1 hk with h3|⟨m,km,h3,h4,h5⟩
   ·exact .inl h3
   ·exact .inr ⟨m,km,hsub m km h3,h4,h5⟩
  ·exact .inr ⟨b,k,h1,hk,((h.agree b (hH.at_ b k h1).1).1).symm⟩
 ·rcases h.fnew B vs hB with h1|h1|⟨m,km,h1,h2,h3⟩
  ·exact .inl h1
  ·exact .inr (.inl h1)
  ·exact .inr (.inr ⟨m,km,hsub m km h1,h2,h3⟩)
theorem HR.same {D:Nat->Prop} {φ:Phi} {H:Hf} {w w':World} (h:HR D φ H w) (hc: ∀(c:Nat) (cs:Array Value) (elem:TypeId) (fr:Nat×Nat),w.heap[c]? =some (.cells cs elem fr)->w'.heap[c]? =some (.cells cs elem fr)) (hcm: ∀(c:Nat) (es:Array MapEntry) (clk:Nat),w.heap[c]? =some (.map es clk)->w'.heap[c]? =some (.map es clk)) (hl: ∀L r,φ.lp L=some r->w'.heap[L]? =some (.loop r)):HR D φ H w':=
 ⟨⟨fun b k hb=>⟨(h.at_ b k hb).1,by
   obtain ⟨⟨cs,elem,fr,h1,h2⟩,h5⟩:=(h.at_ b k hb).2;refine ⟨⟨cs,elem,fr,?_,h2⟩,h5⟩;revert h1;unfold ObAs;cases k.mp with
   |none=>exact hc _ _ _ _
   |some ks=>exact fun ⟨es,clk,h1,h3⟩=>⟨es,clk,hcm _ _ _ h1,h3⟩⟩,h.sep⟩,fun B vs hB=>by
   obtain ⟨elem,fr,h1⟩:=h.fz B vs hB;exact ⟨elem,fr,hc _ _ _ _ h1⟩,hl,h.fsep⟩
theorem Stp.same {D D':Nat->Prop} {φ φ':Phi} {H H':Hf} {w w' w'':World} (h:Stp D φ H w D' φ' H' w') (hr:HR D' φ' H' w'') (hos:w''.os=w'.os) (ht:w''.tape=w'.tape) (ho:w''.output=w'.output) (hsz:w'.heap.size<=w''.heap.size)
 (hb: ∀c,c<w.heap.size->w''.heap[c]? =w'.heap[c]?):Stp D φ H w D' φ' H' w'':=
 ⟨h.sub,h.agree,hr,⟨hos.trans h.frm.os,ht.trans h.frm.tape,ho.trans h.frm.output,Nat.le_trans h.frm.size hsz,fun c hc hn=>(hb c hc).trans (h.frm.block c hc hn)⟩,h.img,h.fnew⟩
abbrev Hp:=List (Nat×Blk)
abbrev Env:=List (Nat×AV)
def hget:Hp->Hf
 |[],_=>none
 |(c,k)::r,b=>bif Nat.beq c b then some k else hget r b
def eget:Env->Nat->Option AV
 |[],_=>none
 |(c,k)::r,b=>bif Nat.beq c b then some k else eget r b
def hset:Hp->Nat->Blk->Hp
 |[],b,x=>[(b,x)]
 |(c,k)::r,b,x=>bif Nat.beq c b then (c,x)::r else (c,k)::hset r b x
def Blk.pln (k:Blk):Option Blk:=match k.mp with
 |none=>some k
 |some _=>none
def hgc (h:Hp) (b:Nat):Option Blk:=(hget h b).bind Blk.pln
theorem hgc_some {h:Hp} {b:Nat} {k:Blk} (hk:hgc h b=some k):hget h b=some k/\k.mp=none:=by
 simp only [hgc,Option.bind_eq_some_iff] at hk;obtain ⟨k',h1,h2⟩:=hk;revert h2;unfold Blk.pln;cases hm:k'.mp
 ·intro h2;cases h2;exact ⟨h1,hm⟩
 ·intro h2;cases h2
theorem hgc_of {h:Hp} {b:Nat} {k:Blk} (hk:hget h b=some k) (hm:k.mp=none):hgc h b=some k:=by simp only [hgc,hk,Option.bind_some,Blk.pln,hm]
def hdel:Hp->Nat->Hp
 |[],_=>[]
 |(c,k)::r,b=>bif Nat.beq c b then hdel r b else (c,k)::hdel r b
def hglob:Hp->Nat->Option AV
 |[],_=>none
 |(c,k)::r,g=>match k.gid with
  |some g'=>bif Nat.beq g' g then some (.p c 0) else hglob r g
  |none=>hglob r g
def hglobC (h:Hp) (g:Nat):Option AV:=(hglob h g).bind fun v=>match v with
 | .p c _=>(hget h c).bind fun k=>match k.gid with
  |some g'=>bif Nat.beq g' g then some (.p c 0) else none
  |none=>none
 |_=>none
inductive Opd where
 |t (n:Nat)
 |c (v:AV)
 |g (n:Nat)
def Opd.ev (e:Env) (h:Hp):Opd->Option AV
 | .t n=>eget e n
 | .c v=>some v
 | .g n=>hglobC h n
def evs (e:Env) (h:Hp):List Opd->Option (List AV)
 |[]=>some []
 |x::r=>(x.ev e h).bind fun v=>(evs e h r).bind fun vs=>some (v::vs)
def evps (e:Env) (h:Hp):List (Nat×Nat×Opd)->Option (List (Nat×Nat×AV))
 |[]=>some []
 |(o,z,x)::r=>(x.ev e h).bind fun v=>(evps e h r).bind fun vs=>some ((o,z,v)::vs)
inductive Kd where
 |b|i|s
inductive IOp where
 |mv (x:Opd)
 |pick (c a b:Opd)
 |new (z:List AV)
 |box (x:Opd)
 |build (z:List AV) (ps:List (Nat×Nat×Opd))
 |bsl (z:List AV) (len:Nat) (ps:List (Nat×Nat×Opd))
 |ld (agg:Bool) (sz:Nat) (a:Opd)
 |st (sz:Nat) (a x:Opd)
 |nck (x:Opd)
 |bin (op:BinOp) (x y:Opd)
 |eqk (neg agg:Bool) (ks:List Kd) (x y:Opd)
 |eqn (neg:Bool) (k:Nat) (x y:Opd)
 |not (x:Opd)
 |neg (x:Opd)
 |i2i (k:IntKind) (x:Opd)
 |s2b (x:Opd)
 |b2s (x:Opd)
 |idc (x:Opd)
 |mkf (f:FuncId) (caps:List Opd)
 |mkm (f:FuncId) (first:List Opd)
 |slS (x:Opd) (lo hi:Option Opd)
 |slV (esz:Nat) (x:Opd) (lo hi mx:Option Opd)
 |slA (n esz:Nat) (x:Opd) (lo hi mx:Option Opd)
 |fa (off:Nat) (x:Opd)
 |fld (agg:Bool) (sz off:Nat) (x:Opd)
 |ixaA (n esz:Nat) (x i:Opd)
 |ixaV (esz:Nat) (x i:Opd)
 |ixA (n esz:Nat) (agg:Bool) (x i:Opd)
 |ixS (x i:Opd)
 |ext (x:Opd) (i:Nat)
 |lenS (x:Opd)
 |lenV (x:Opd)
 |lenC (n:Nat)
 |capV (x:Opd)
 |mn (x:Opd) (xs:List Opd)
 |mx (x:Opd) (xs:List Opd)
 |mks (esz bytes:Nat) (z:List AV) (l c:Opd)
 |app (esz bytes:Nat) (z:List AV) (s x:Opd)
 |apz (esz bytes:Nat) (z:List AV) (s k:Opd)
 |cpy (esz:Nat) (d s:Opd)
 |clr (esz:Nat) (z:List AV) (x:Opd)
 |mki (t:TypeId) (x:Opd)
 |mpN (ks:MKeys)
 |mpG (kd:Nat) (ok:Bool) (z:AV) (m k:Opd)
 |mpU (kd:Nat) (m k x:Opd)
 |mpD (kd:Nat) (m k:Opd)
 |tas (t:TypeId) (z:AV) (x:Opd)
 |eqi (neg:Bool) (x:Opd)
 |pan (x:Opd)
 |rcv
 |dfr (f:Opd) (args:List Opd)
 |call (f:Opd) (args:List Opd)
 |bad
structure IOper where
 dst:Option Nat
 op:IOp
 guard:Option (Nat×Bool)
 spl:Bool
abbrev oo (d:Nat) (x:IOp):IOper:=⟨some d,x,none,false⟩
abbrev ot (d:Nat) (x:IOp):IOper:=⟨some d,x,none,true⟩
abbrev on_ (x:IOp):IOper:=⟨none,x,none,false⟩
abbrev og (d:Nat) (x:IOp) (g:Nat) (b s:Bool):IOper:=⟨some d,x,some (g,b),s⟩
structure Eff where
 v:AV
 n:Nat
 rd:List Nat:=[]
 md:List (Nat×Option Blk):=[]
 nw:List (Nat×Blk):=[]
 pn:Option Value:=none
def mget:List (Nat×Option Blk)->Nat->Option (Option Blk)
 |[],_=>none
 |(c,k)::r,b=>bif Nat.beq c b then some k else mget r b
def Eff.app (E:Eff) (H:Hf):Hf:=fun b=>
 match mget E.md b with
 |some r=>r
 |none=>match hget E.nw b with
  |some k=>some k
  |none=>H b
def hmods (h:Hp):List (Nat×Option Blk)->Hp
 |[]=>h
 |(b,some k)::r=>hset (hmods h r) b k
 |(b,none)::r=>hdel (hmods h r) b
def Eff.appL (E:Eff) (h:Hp):Hp:=hmods (E.nw++h) E.md
def inl:List Nat->Nat->Bool
 |[],_=>false
 |c::r,b=>Nat.beq c b||inl r b
def only (H:Hf) (rd:List Nat):Hf:=fun b=>bif inl rd b then H b else none
def pe (v:AV) (n:Nat):Option (Bool×Eff):=some (true,{v,n})
/-! ### single operations -/
def AV.cells:AV->List AV
 | .agg l=>l
 |v=>[v]
def AV.one:AV->Bool
 | .agg _| .tup _| .any=>false
 |_=>true
def AV.isAny:AV->Bool
 | .any=>true
 |_=>false
def cellsAt (l:List AV) (o z:Nat):List AV:=(l.drop o).take z
def splice (l:List AV) (o:Nat) (xs:List AV):List AV:=l.take o++xs++l.drop (o+xs.length)
def fills:List AV->List (Nat×Nat×AV)->Option (List AV)
 |z,[]=>some z
 |z,(o,sz,v)::r=>bif Nat.beq v.cells.length sz&&Nat.ble (o+sz) z.length&& !v.isAny then fills (splice z o v.cells) r else none
def eqn:Nat->AV->AV->Option Bool
 |0,.np,.np=>some true
 |0,.p _ _,.np=>some false
 |0,.np,.p _ _=>some false
 |1,.ns,.ns=>some true
 |1,.sl _ _ _ _,.ns=>some false
 |1,.sg _ _ _,.ns=>some false
 |1,.ns,.sl _ _ _ _=>some false
 |1,.ns,.sg _ _ _=>some false
 |0,.fp _ _,.np=>some false
 |0,.np,.fp _ _=>some false
 |1,.fz _ (_+1),.ns=>some false
 |1,.en,.ns=>some false
 |1,.ns,.fz _ (_+1)=>some false
 |2,.fn _ _,.nf=>some false
 |2,.nf,.fn _ _=>some false
 |2,.nf,.nf=>some true
 |_,_,_=>none
def eq1:Kd->AV->AV->Option Bool
 | .b,.b x,.b y=>some (x==y)
 | .i,.i k x,.i k' y=>if k=k' then some (x==y) else none
 | .s,.s x,.s y=>some (x==y)
 |_,_,_=>none
def eqs:List Kd->List AV->List AV->Option Bool
 |[],[],[]=>some true
 |k::ks,x::xs,y::ys=>(eq1 k x y).bind fun a=>(eqs ks xs ys).bind fun b=>some (a&&b)
 |_,_,_=>none
def eqk (agg:Bool) (ks:List Kd) (x y:AV):Option Bool:=
 match agg,x,y with
 |true,.agg xs,.agg ys=>eqs ks xs ys
 |false,x,y=>eqs ks [x] [y]
 |_,_,_=>none
def binI (op:BinOp) (k:IntKind) (a b:Int):Option (Bool×AV):=
 match op with
 | .add=>some (true,.i k (k.wrap (a+b)))
 | .sub=>some (true,.i k (k.wrap (a-b)))
 | .mul=>some (true,.i k (k.wrap (a*b)))
 | .quo=>some (b !=0,.i k (k.wrap (a.tdiv b)))
 | .rem=>some (b !=0,.i k (a.tmod b))
 | .and=>some (true,.i k (k.wrap (BitVec.ofInt k.bits a &&& BitVec.ofInt k.bits b).toNat))
 | .or=>some (true,.i k (k.wrap (BitVec.ofInt k.bits a ||| BitVec.ofInt k.bits b).toNat))
 | .xor=>some (true,.i k (k.wrap (BitVec.ofInt k.bits a ^^^ BitVec.ofInt k.bits b).toNat))
 | .andNot=>some (true,.i k (k.wrap (BitVec.ofInt k.bits a &&& ~~~(BitVec.ofInt k.bits b)).toNat))
 | .eql=>some (true,.b (a==b))
 | .neq=>some (true,.b (a !=b))
 | .lss=>some (true,.b (decide (a<b)))
 | .leq=>some (true,.b (decide (a<=b)))
 | .gtr=>some (true,.b (decide (a>b)))
 | .geq=>some (true,.b (decide (a>=b)))
 | .shl=>none
 | .shr=>none
def shI (op:BinOp) (k:IntKind) (a b:Int):Option (Bool×AV):=
 match op with
 | .shl=>some (decide (0<=b),.i k (k.wrap (a*2^(Nat.min b.toNat k.bits))))
 | .shr=>some (decide (0<=b),.i k (a.fdiv (2^(Nat.min b.toNat k.bits))))
 |_=>none
def binS (op:BinOp) (a b:List UInt8):Option (Bool×AV):=
 match op with
 | .add=>some (decide (a.length+b.length<=9223372036854775807),.s (a++b))
 | .eql=>some (true,.b (a==b))
 | .neq=>some (true,.b !(a==b))
 | .lss=>some (true,.b (Op.bytesLess a b))
 | .leq=>some (true,.b (Op.bytesLess a b||a==b))
 | .gtr=>some (true,.b !(Op.bytesLess a b||a==b))
 | .geq=>some (true,.b !(Op.bytesLess a b))
 |_=>none
def bin (op:BinOp) (x y:AV):Option (Bool×AV):=
 match x,y with
 | .i k a,.i k' b=>match op with
  | .shl=>shI .shl k a b
  | .shr=>shI .shr k a b
  |op=>if k=k' then binI op k a b else none
 | .s a,.s b=>binS op a b
 |_,_=>none
def asI:AV->Option Int
 | .i .i64 n=>some n
 |_=>none
def asJ:AV->Option Int
 | .i _ n=>some n
 |_=>none
def minI (k:IntKind):Int->List AV->Option Int
 |a,[]=>some a
 |a,.i k' y::r=>if k=k' then minI k (if y<a then y else a) r else none
 |_,_=>none
def maxI (k:IntKind):Int->List AV->Option Int
 |a,[]=>some a
 |a,.i k' y::r=>if k=k' then maxI k (if y>a then y else a) r else none
 |_,_=>none
def asK:AV->Option (IntKind×Int)
 | .i k n=>some (k,n)
 |_=>none
def sbound (len cap:Nat) (lo hi mx:Option Int):Bool×Nat×Nat×Nat:=
 let m:Int:=mx.getD cap;let h:Int:=hi.getD len;let l:Int:=lo.getD 0
 (decide (0<=l/\l<=h/\0<=h/\h<=m/\0<=m/\m<=cap),l.toNat,h.toNat,m.toNat)
def obind {α:Type} (e:Env) (h:Hp) (o:Option Opd) (k:Option Int->Option α):Option α:=
 match o with
 |none=>k none
 |some x=>(x.ev e h).bind fun v=>(asJ v).bind fun n=>k (some n)
def bytesOf:List AV->Option (List UInt8)
 |[]=>some []
 | .i .u8 n::r=>(bytesOf r).bind fun l=>some (UInt8.ofNat n.toNat::l)
 |_=>none
def zeros (z:List AV):Nat->List AV
 |0=>[]
 |n+1=>z++zeros z n
def slParts:AV->Option (Nat×Nat×Nat)
 | .sl b o len _=>some (b,o,len)
 | .sg b o len=>some (b,o,len)
 |_=>none
def srcCells (h:Hp) (esz:Nat):AV->Option (List Nat×Nat×List AV×Bool)
 | .ns=>some ([],0,[],true)
 | .s l=>some ([],l.length,l.map (fun b=> .i .u8 b.toNat),Nat.beq esz 1)
 | .sl b o len _=>(hgc h b).bind fun k=>some ([b],len,cellsAt k.cells o (len*esz),decide ((cellsAt k.cells o (len*esz)).length=len*esz))
 | .sg b o len=>(hgc h b).bind fun k=>some ([b],len,cellsAt k.cells o (len*esz),decide ((cellsAt k.cells o (len*esz)).length=len*esz))
 | .fz l len=>some ([],len,cellsAt l 0 (len*esz),decide ((cellsAt l 0 (len*esz)).length=len*esz))
 | .ze=>some ([],0,[],true)
 | .en=>some ([],0,[],true)
 |_=>none
def growMax:Nat:=140737488355328
def oneAll:List AV->Bool
 |[]=>true
 |v::r=>v.one&&oneAll r
def toV1:AV->Option Value
 | .b x=>some (.bool x)
 | .i k n=>some (.int k n)
 | .s l=>some (.string ⟨l.toArray⟩)
 |_=>none
def toVs:List AV->Option (List Value)
 |[]=>some []
 |v::r=>(toV1 v).bind fun x=>(toVs r).bind fun xs=>some (x::xs)
def toV:AV->Option Value
 | .agg l=>(toVs l).bind fun us=>some (.agg us.toArray)
 |v=>toV1 v
def avOf1:Value->Option AV
 | .bool b=>some (.b b)
 | .int k n=>some (.i k n)
 | .string s=>some (.s s.data.toList)
 | .pointer none=>some .np
 | .slice none 0 0=>some .ns
 | .nilFunc=>some .nf
 | .nilIface=>some .ni
 | .map none=>some .nm
 |_=>none
def avsOf:List Value->Option (List AV)
 |[]=>some []
 |v::r=>(avOf1 v).bind fun x=>(avsOf r).bind fun xs=>some (x::xs)
def avOf:Value->Option AV
 | .agg cs=>(avsOf cs.toList).map .agg
 | .tuple cs=>(avsOf cs.toList).map .tup
 |v=>avOf1 v
def mapAt (h:Hp) (kd:Nat) (m k:AV):Option (Nat×Blk×MKeys×Option Nat):=match m with
 | .m b=>(hget h b).bind fun K=>match K.ro,K.gr,K.mp with
  |false,none,some ks=>match Nat.beq ks.kd kd with
   |true=>(ks.find k).bind fun r=>some (b,K,ks,r)
   |false=>none
  |_,_,_=>none
 |_=>none
def step (o:IOp) (e:Env) (h:Hp) (n:Nat):Option (Bool×Eff):=
 match o with
 | .mv x=>(x.ev e h).bind fun v=>pe v n
 | .pick c a b=>(c.ev e h).bind fun v=>match v with
  | .b true=>(a.ev e h).bind fun v=>pe v n
  | .b false=>(b.ev e h).bind fun v=>pe v n
  |_=>none
 | .new z=>some (true,{v:= .p n 0,n:=n+1,nw:=[(n,{cells:=z})]})
 | .box x=>(x.ev e h).bind fun v=>some (!v.isAny,{v:= .p n 0,n:=n+1,nw:=[(n,{cells:=v.cells})]})
 | .build z ps=>(evps e h ps).bind fun l=>(fills z l).bind fun cs=>pe (.agg cs) n
 | .bsl z len ps=>(evps e h ps).bind fun l=>(fills z l).bind fun cs=>some (true,{v:= .sl n 0 len len,n:=n+1,nw:=[(n,{cells:=cs})]})
 | .ld agg z a=>(a.ev e h).bind fun v=>match v with
  | .p b o=>(hgc h b).bind fun k=>
   match agg with
   |true=>some (decide ((cellsAt k.cells o z).length=z),{v:= .agg (cellsAt k.cells o z),n,rd:=[b]})
   |false=>(k.cells[o]?).bind fun v=>some (true,{v,n,rd:=[b]})
  | .fp l o=>match agg with
   |true=>some (decide ((cellsAt l o z).length=z),{v:= .agg (cellsAt l o z),n})
   |false=>(l[o]?).bind fun v=>some (true,{v,n})
  |_=>none
 | .st z a x=>(a.ev e h).bind fun v=>match v with
  | .p b o=>(hgc h b).bind fun k=>(x.ev e h).bind fun y=>
   match k.ro with
   |true=>none
   |false=>some (oneAll y.cells&&Nat.beq y.cells.length z&&decide (o+z<=k.cells.length),{v:= .tup [],n,rd:=[b],md:=[(b,some {k with cells:=splice k.cells o y.cells})]})
  |_=>none
 | .nck x=>(x.ev e h).bind fun v=>match v with
  | .p b o=>pe (.p b o) n
  | .fn f l=>pe (.fn f l) n
  | .bm f l=>pe (.bm f l) n
  | .fp l o=>pe (.fp l o) n
  |_=>none
 | .bin op x y=>(x.ev e h).bind fun a=>(y.ev e h).bind fun b=>(bin op a b).bind fun r=>some (r.1,{v:=r.2,n})
 | .eqk neg agg ks x y=>(x.ev e h).bind fun a=>(y.ev e h).bind fun b=>(eqk agg ks a b).bind fun r=>pe (.b (bif neg then !r else r)) n
 | .eqn neg k x y=>(x.ev e h).bind fun a=>(y.ev e h).bind fun b=>(eqn k a b).bind fun r=>pe (.b (bif neg then !r else r)) n
 | .not x=>(x.ev e h).bind fun v=>match v with
  | .b c=>pe (.b !c) n
  |_=>none
 | .neg x=>(x.ev e h).bind fun v=>match v with
  | .i k m=>pe (.i k (k.wrap (0-m))) n
  |_=>none
 | .i2i k x=>(x.ev e h).bind fun v=>match v with
  | .i _ m=>pe (.i k (k.wrap m)) n
  |_=>none
 | .s2b x=>(x.ev e h).bind fun v=>match v with
  | .s l=>some (true,{v:= .sg n 0 l.length,n:=n+1,nw:=[(n,{cells:=l.map fun b=> .i .u8 b.toNat,gr:=some 1})]})
  |_=>none
 | .b2s x=>(x.ev e h).bind fun v=>match v with
  | .ns=>pe (.s []) n
  | .fz l m=>(bytesOf (l.take m)).bind fun s=>some (decide (s.length=m),{v:= .s s,n})
  |v=>(slParts v).bind fun q=>(hgc h q.1).bind fun k=>(bytesOf (cellsAt k.cells q.2.1 q.2.2)).bind fun l=>
   some (decide (l.length=q.2.2),{v:= .s l,n,rd:=[q.1]})
 | .idc x=>(x.ev e h).bind fun v=>match v with
  | .s l=>pe (.s l) n
  |_=>none
 | .mkf f caps=>(evs e h caps).bind fun l=>pe (.fn f l) n
 | .mkm f first=>(evs e h first).bind fun l=>pe (.bm f l) n
 | .slS x lo hi=>(x.ev e h).bind fun v=>match v with
  | .s l=>obind e h lo fun lo=>obind e h hi fun hi=>
   let r:=sbound l.length l.length lo hi none
   some (r.1,{v:= .s ((l.take r.2.2.1).drop r.2.1),n})
  |_=>none
 | .slV z x lo hi mx=>(x.ev e h).bind fun v=>match v with
  | .ns=>obind e h lo fun lo=>obind e h hi fun hi=>obind e h mx fun mx=>
   let r:=sbound 0 0 lo hi mx
   some (r.1,{v:= .ns,n})
  | .sl b o len cap=>obind e h lo fun lo=>obind e h hi fun hi=>obind e h mx fun mx=>
   let r:=sbound len cap lo hi mx
   some (r.1,{v:= .sl b (if r.2.2.2=r.2.1 then o else o+r.2.1*z) (r.2.2.1-r.2.1) (r.2.2.2-r.2.1),n})
  | .sg b o len=>match mx with
   |some _=>none
   |none=>(hgc h b).bind fun k=>obind e h lo fun lo=>obind e h hi fun hi=>
    let r:=sbound len len lo hi none
    match k.gr with
    |some z'=>match decide (r.2.1=0\/r.2.1<len) with
     |true=>some (r.1&&Nat.beq z z',{v:= .sg b (o+r.2.1*z) (r.2.2.1-r.2.1),n,rd:=[b]})
     |false=>some (r.1&&Nat.beq z z',{v:= .en,n,rd:=[b]})
    |none=>none
  | .fz l len=>obind e h lo fun lo=>obind e h hi fun hi=>obind e h mx fun mx=>
   let r:=sbound len len lo hi mx
   some (r.1,{v:=if mx.isSome/\r.2.2.2=r.2.1 then .ze else .fz (l.drop (r.2.1*z)) (r.2.2.1-r.2.1),n})
  | .ze=>obind e h lo fun lo=>obind e h hi fun hi=>obind e h mx fun mx=>
   let r:=sbound 0 0 lo hi mx
   some (r.1,{v:= .ze,n})
  |_=>none
 | .slA m z x lo hi mx=>(x.ev e h).bind fun v=>match v with
  | .p b o=>obind e h lo fun lo=>obind e h hi fun hi=>obind e h mx fun mx=>
   let r:=sbound m m lo hi mx
   some (r.1,{v:= .sl b (if r.2.2.2=r.2.1 then o else o+r.2.1*z) (r.2.2.1-r.2.1) (r.2.2.2-r.2.1),n})
  |_=>none
 | .fa off x=>(x.ev e h).bind fun v=>match v with
  | .p b o=>pe (.p b (o+off)) n
  | .fp l o=>pe (.fp l (o+off)) n
  |_=>none
 | .fld agg z off x=>(x.ev e h).bind fun v=>match v with
  | .agg l=>match agg with
   |true=>some (decide (off+z<=l.length),{v:= .agg (cellsAt l off z),n})
   |false=>(l[off]?).bind fun v=>pe v n
  |_=>none
 | .ixaA m z x i=>(x.ev e h).bind fun v=>(i.ev e h).bind fun i=>(asJ i).bind fun i=>match v with
  | .p b o=>some (decide (0<=i/\i<m),{v:= .p b (o+i.toNat*z),n})
  | .fp l o=>some (decide (0<=i/\i<m),{v:= .fp l (o+i.toNat*z),n})
  |_=>none
 | .ixaV z x i=>(x.ev e h).bind fun v=>(i.ev e h).bind fun i=>(asJ i).bind fun i=>match v with
  | .fz l len=>some (decide (0<=i/\i<len),{v:= .fp l (i.toNat*z),n})
  |v=>(slParts v).bind fun q=>some (decide (0<=i/\i<q.2.2),{v:= .p q.1 (q.2.1+i.toNat*z),n})
 | .ixA m z agg x i=>(x.ev e h).bind fun v=>(i.ev e h).bind fun i=>(asJ i).bind fun i=>match v with
  | .agg l=>match agg with
   |true=>some (decide (0<=i/\i<m)&&decide (i.toNat*z+z<=l.length),{v:= .agg (cellsAt l (i.toNat*z) z),n})
   |false=>(l[i.toNat*z]?).bind fun v=>some (decide (0<=i/\i<m),{v,n})
  |_=>none
 | .ixS x i=>(x.ev e h).bind fun v=>(i.ev e h).bind fun i=>(asJ i).bind fun i=>match v with
  | .s l=>some (decide (0<=i/\i<l.length),{v:= .i .u8 ((l[i.toNat]?).getD 0).toNat,n})
  |_=>none
 | .ext x i=>(x.ev e h).bind fun v=>match v with
  | .tup l=>(l[i]?).bind fun v=>pe v n
  |_=>none
 | .lenS x=>(x.ev e h).bind fun v=>match v with
  | .s l=>pe (.i .i64 l.length) n
  |_=>none
 | .lenV x=>(x.ev e h).bind fun v=>match v with
  | .ns=>pe (.i .i64 0) n
  | .fz _ len=>pe (.i .i64 len) n
  | .ze=>pe (.i .i64 0) n
  | .en=>pe (.i .i64 0) n
  |v=>(slParts v).bind fun q=>pe (.i .i64 q.2.2) n
 | .lenC m=>pe (.i .i64 m) n
 | .capV x=>(x.ev e h).bind fun v=>match v with
  | .ns=>pe (.i .i64 0) n
  | .sl _ _ _ cap=>pe (.i .i64 cap) n
  | .ze=>pe (.i .i64 0) n
  |_=>none
 | .mn x xs=>(x.ev e h).bind fun v=>(asK v).bind fun a=>(evs e h xs).bind fun l=>(minI a.1 a.2 l).bind fun m=>pe (.i a.1 m) n
 | .mx x xs=>(x.ev e h).bind fun v=>(asK v).bind fun a=>(evs e h xs).bind fun l=>(maxI a.1 a.2 l).bind fun m=>pe (.i a.1 m) n
 | .mks z bytes zs l c=>(l.ev e h).bind fun l=>(asI l).bind fun l=>(c.ev e h).bind fun c=>(asI c).bind fun c=>
  some (decide (0<=l/\l<=c/\bytes*c<=281474976710656/\c<=9223372036854775807),{v:= .sl n 0 l.toNat c.toNat,n:=n+1,nw:=[(n,{cells:=zeros zs c.toNat})]})
 | .app z bytes zs s x=>(s.ev e h).bind fun s=>(x.ev e h).bind fun x=>(srcCells h z x).bind fun r=>
  if r.2.1=0 then (match s with
   | .ns=>some (r.2.2.2,{v:= .ns,n,rd:=r.1})
   | .sl b o len cap=>some (r.2.2.2&&decide (len<=cap),{v:= .sl b o len cap,n,rd:=r.1})
   | .sg b o len=>some (r.2.2.2,{v:= .sg b o len,n,rd:=r.1})
   | .ze=>some (r.2.2.2,{v:= .ze,n,rd:=r.1})
   | .fz l len=>some (r.2.2.2,{v:= .fz l len,n,rd:=r.1})
   |_=>none)
  else match s with
  | .ns=>some (r.2.2.2&&decide (bytes*r.2.1<=growMax),{v:= .sg n 0 r.2.1,n:=n+1,rd:=r.1,nw:=[(n,{cells:=r.2.2.1,gr:=some z})]})
  | .ze=>some (r.2.2.2&&decide (bytes*r.2.1<=growMax),{v:= .sg n 0 r.2.1,n:=n+1,rd:=r.1,nw:=[(n,{cells:=r.2.2.1,gr:=some z})]})
  | .sl b o len cap=>(hgc h b).bind fun k=>
   if len+r.2.1<=cap then
    match k.ro with
    |true=>none
    |false=>some (r.2.2.2&&decide (o+len*z+r.2.2.1.length<=k.cells.length)&&oneAll r.2.2.1,{v:= .sl b o (len+r.2.1) cap,n,rd:=b::r.1,md:=[(b,some {k with cells:=splice k.cells (o+len*z) r.2.2.1})]})
   else some (r.2.2.2&&decide (bytes*(len+r.2.1)<=growMax)&&decide ((cellsAt k.cells o (len*z)).length=len*z)&&decide (len<=cap),{v:= .sg n 0 (len+r.2.1),n:=n+1,rd:=b::r.1,nw:=[(n,{cells:=cellsAt k.cells o (len*z)++r.2.2.1,gr:=some z})]})
  | .sg b o len=>(hgc h b).bind fun k=>
   match k.gr with
   |some z'=>some (r.2.2.2&&decide (bytes*(len+r.2.1)<=growMax)&&Nat.beq z z'&&decide (k.cells.length=o+len*z)&&oneAll r.2.2.1,{v:= .sg n 0 (len+r.2.1),n:=n+1,rd:=b::r.1,md:=[(b,none)],nw:=[(n,{cells:=k.cells.drop o++r.2.2.1,gr:=some z})]})
   |none=>none
  |_=>none
 | .apz z bytes zs s x=>(s.ev e h).bind fun s=>(x.ev e h).bind fun x=>(asI x).bind fun m=>match s with
  | .sl b o len cap=>(hgc h b).bind fun k=>
   some (decide (0<m)&&decide (cap<len+m.toNat)&&decide (bytes*(len+m.toNat)<=growMax)&&decide ((cellsAt k.cells o (len*z)).length=len*z),{v:= .sg n 0 (len+m.toNat),n:=n+1,rd:=[b],nw:=[(n,{cells:=cellsAt k.cells o (len*z)++zeros zs m.toNat,gr:=some z})]})
  |_=>none
 | .cpy z d s=>(d.ev e h).bind fun d=>(s.ev e h).bind fun s=>(srcCells h z s).bind fun r=>
  match d with
  | .ns=>some (r.2.2.2,{v:= .i .i64 0,n,rd:=r.1})
  | .en=>some (r.2.2.2,{v:= .i .i64 0,n,rd:=r.1})
  |d=>(slParts d).bind fun q=>(hgc h q.1).bind fun k=>
   match k.ro with
   |true=>none
   |false=>some (r.2.2.2&&(oneAll r.2.2.1||oneAll (r.2.2.1.take (Nat.min r.2.1 q.2.2*z)))&&decide (q.2.1+Nat.min r.2.1 q.2.2*z<=k.cells.length),{v:= .i .i64 (Nat.min r.2.1 q.2.2),n,rd:=q.1::r.1,md:=[(q.1,some {k with cells:=splice k.cells q.2.1 (r.2.2.1.take (Nat.min r.2.1 q.2.2*z))})]})
 | .clr z zs x=>(x.ev e h).bind fun v=>match v with
  | .ns=>pe (.tup []) n
  |v=>(slParts v).bind fun q=>(hgc h q.1).bind fun k=>
   match k.ro with
   |true=>none
   |false=>some (oneAll zs&&Nat.beq zs.length z&&decide (q.2.1+q.2.2*z<=k.cells.length),{v:= .tup [],n,rd:=[q.1],md:=[(q.1,some {k with cells:=splice k.cells q.2.1 (zeros zs q.2.2)})]})
 | .mki t x=>(x.ev e h).bind fun v=>(toV v).bind fun u=>pe (.k t u) n
 | .mpN ks=>some (true,{v:= .m n,n:=n+1,nw:=[(n,{cells:=[],mp:=some ks})]})
 | .mpG kd ok z m k=>(m.ev e h).bind fun m=>(k.ev e h).bind fun k=>(mapAt h kd m k).bind fun q=>match q.2.2.2 with
  |some i=>(q.2.1.cells[i]?).bind fun v=>some (true,{v:=bif ok then .tup [v,.b true] else v,n,rd:=[q.1]})
  |none=>some (true,{v:=bif ok then .tup [z,.b false] else z,n,rd:=[q.1]})
 | .mpU kd m k x=>(m.ev e h).bind fun m=>(k.ev e h).bind fun k=>(x.ev e h).bind fun x=>(mapAt h kd m k).bind fun q=>match q.2.2.2 with
  |some i=>some (true,{v:= .tup [],n,rd:=[q.1],md:=[(q.1,some {q.2.1 with cells:=q.2.1.cells.set i x,mp:=some q.2.2.1})]})
  |none=>some (Nat.beq q.2.1.cells.length q.2.2.1.len,{v:= .tup [],n,rd:=[q.1],md:=[(q.1,some {q.2.1 with cells:=q.2.1.cells++[x],mp:=some (q.2.2.1.push k)})]})
 | .mpD kd m k=>(m.ev e h).bind fun m=>(k.ev e h).bind fun k=>(mapAt h kd m k).bind fun q=>match q.2.2.2 with
  |some i=>some (true,{v:= .tup [],n,rd:=[q.1],md:=[(q.1,some {q.2.1 with cells:=q.2.1.cells.eraseIdx i,mp:=some (q.2.2.1.del i)})]})
  |none=>some (true,{v:= .tup [],n,rd:=[q.1],md:=[(q.1,some {q.2.1 with cells:=q.2.1.cells,mp:=some q.2.2.1})]})
 | .tas t z x=>(x.ev e h).bind fun v=>match v with
  | .ni=>pe (.tup [z,.b false]) n
  | .k t' u=>match Nat.beq t' t with
   |true=>(avOf u).bind fun v=>pe (.tup [v,.b true]) n
   |false=>pe (.tup [z,.b false]) n
  |_=>none
 | .eqi neg x=>(x.ev e h).bind fun v=>match v with
  | .ni=>pe (.b (!neg)) n
  | .k _ _=>pe (.b neg) n
  |_=>none
 | .pan _=>none
 | .rcv=>none
 | .dfr _ _=>none
 | .call _ _=>none
 | .bad=>none
def Dn (D:Nat->Prop) (n m:Nat):Nat->Prop:=fun b=>D b\/(n<=b/\b<m)
def Sim (P:Program) (D:Nat->Prop) (φ:Phi) (H:Hf) (w:World) (n:Nat) (E:Eff) (r:Result Next):Prop:=
 ∃φ' u nx w',r= .ok nx w'/\(nx= .value u\/(nx= .skip/\u=undef))/\n<=E.n/\VRel (Dn D n E.n) φ' E.v u/\Stp D φ H w (Dn D n E.n) φ' (E.app H) w'∧
  (∀b k,E.app H b=some k->k.ro=true->H b=some k)/\(∀b r,mget E.md b=some r->inl E.rd b=true)/\(∀b k,hget E.nw b=some k->n<=b/\b<E.n)
theorem Dn_self {D:Nat->Prop} {n:Nat} {b:Nat}:Dn D n n b↔D b:=
 ⟨fun h=>h.elim id (fun h=>by omega),.inl⟩
theorem Sim.pure {P:Program} {D:Nat->Prop} {φ:Phi} {H:Hf} {w:World} {n:Nat} {v:AV} {rd:List Nat} {u:Value} {r:Result Next} (hr:r= .ok (.value u) w) (hH:HR D φ H w) (hv:VRel D φ v u):
 Sim P D φ H w n {v,n,rd} r:=by
 have e:(Eff.app {v,n,rd} H)=H:=by funext b;rfl
 have hd: ∀b,D b->Dn D n n b:=fun b h=> .inl h;refine ⟨φ,u,_,w,hr,.inl rfl,Nat.le_refl _,hv.mono hd (Agree.refl _ _),?_,fun b k h _=>by rw [e] at h;exact h,fun b r h=>by simp [mget] at h,fun b k h=>by simp [hget] at h⟩
 rw [e];exact Stp.mk' hH rfl rfl hd (Agree.refl D φ).at_ ⟨fun b k hb=>⟨hd b (hH.at_ b k hb).1,(hH.at_ b k hb).2.mono hd (Agree.refl _ _) (hH.at_ b k hb).1 rfl⟩,hH.sep⟩ (FRM.refl _ _ _) fun b k hb hk=> .inr ⟨b,k,hb,hk,rfl⟩
def Phi.set (φ:Phi) (n blk cap esz:Nat):Phi where
 blk b:=if b=n then blk else φ.blk b
 off b:=if b=n then 0 else φ.off b
 cap b:=if b=n then cap else φ.cap b
 esz b:=if b=n then esz else φ.esz b
 fz:=φ.fz
 lp:=φ.lp
theorem Phi.set_agree {D:Nat->Prop} {φ:Phi} {n blk cap esz:Nat} (hn: ¬D n):Agree D φ (φ.set n blk cap esz):=⟨fun b hb=>by
 have:b≠n:=fun e=>hn (e▸hb);simp [Phi.set,this],fun _ _ h=>h,rfl⟩
def Phi.setO (φ:Phi) (n blk off cap esz:Nat):Phi where
 blk b:=if b=n then blk else φ.blk b
 off b:=if b=n then off else φ.off b
 cap b:=if b=n then cap else φ.cap b
 esz b:=if b=n then esz else φ.esz b
 fz:=φ.fz
 lp:=φ.lp
theorem Phi.setO_agree {D:Nat->Prop} {φ:Phi} {n blk off cap esz:Nat} (hn: ¬D n):Agree D φ (φ.setO n blk off cap esz):=⟨fun b hb=>by
 have:b≠n:=fun e=>hn (e▸hb);simp [Phi.setO,this],fun _ _ h=>h,rfl⟩
theorem getElem?_push_lt' {l:Array Obj} {o:Obj} {c:Nat} (h:c<l.size):(l.push o)[c]? =l[c]? :=by
 rw [Array.getElem?_push];rw [if_neg (by omega)]
theorem Stp.alloc {D:Nat->Prop} {φ:Phi} {H:Hf} {w w':World} {n:Nat} {z:List AV} {cs:Array Value} {elem:TypeId} {fr:Nat×Nat} {g:Option Nat} {cap esz:Nat}
 (hH:HR D φ H w) (hn: ¬D n) (hw:w'.heap=w.heap.push (.cells cs elem fr)) (hos:w'.os=w.os) (htape:w'.tape=w.tape) (hout:w'.output=w.output)
 (hz: ∀(i:Nat) (v:AV),z[i]? =some v-> ∃u,cs[i]? =some u/\VRel D φ v u) (hfr: ∀i,(i<cs.size\/i=cs.size/\g≠some 1)-> ¬(fr.1<=i/\i<fr.2)) (hg: ∀e,g=some e->esz=e/\cs.size=cap*e):
 Stp D φ H w (Dn D n (n+1)) (φ.set n w.heap.size cap esz) (fun b=>if b=n then some {cells:=z,gr:=g} else H b) w':=by
 have hD: ∀b,D b->Dn D n (n+1) b:=fun b h=> .inl h;have hnn: ¬D n:=hn;have hag:= @Phi.set_agree D φ n w.heap.size cap esz hnn;have hold: ∀c,c<w.heap.size->w'.heap[c]? =w.heap[c]? :=fun c hc=>by rw [hw];exact getElem?_push_lt' hc
 have hsz:w'.heap.size=w.heap.size+1:=by rw [hw];simp
 have hne: ∀b k,H b=some k->b≠n:=fun b k hb e=>hnn (e▸(hH.at_ b k hb).1);refine Stp.mk' hH rfl rfl hD hag.at_ ⟨fun b k hb=> ?_,fun b1 b2 k1 k2 hne' h1 h2 hk=> ?_⟩ ⟨hos,htape,hout,by omega,fun c hc _=>hold c hc⟩ fun b k hb hk=> ?_
 ·by_cases hbn:b=n
  ·subst hbn;simp at hb;subst hb;refine ⟨.inr ⟨Nat.le_refl _,by omega⟩,⟨⟨cs,elem,fr,.mk rfl (by simp [Phi.set,hw]),fun i v hv=> ?_,fun _=>⟨by simp [Phi.set],hfr⟩,fun e he=>⟨rfl,by simp [Phi.set];exact (hg e he).1,by simp [Phi.set];exact (hg e he).2⟩⟩,fun g' h=>by simp at h⟩⟩
   obtain ⟨u,hu,hvu⟩:=hz i v hv;exact ⟨u,by simpa [Phi.set] using hu,hvu.mono hD hag⟩
  ·rw [if_neg hbn] at hb;have h':=hH.at_ b k hb;exact ⟨hD b h'.1,h'.2.mono hD hag h'.1 (hold _ h'.2.lt)⟩
 ·by_cases hb1:b1=n<;>by_cases hb2:b2=n
  ·exact absurd (hb1.trans hb2.symm) hne'
  ·rw [if_neg hb2] at h2;have:=(hH.at_ b2 k2 h2).2.lt;simp [Phi.set,hb1,hb2];omega
  ·rw [if_neg hb1] at h1;have:=(hH.at_ b1 k1 h1).2.lt;simp [Phi.set,hb1,hb2];omega
  ·rw [if_neg hb1] at h1;rw [if_neg hb2] at h2;simp [Phi.set,hb1,hb2];exact hH.sep b1 b2 k1 k2 hne' h1 h2 hk
 ·by_cases hbn:b=n
  ·left;simp [Phi.set,hbn]
  ·rw [if_neg hbn] at hb;right;exact ⟨b,k,hb,hk,by simp [Phi.set,hbn]⟩
theorem app_alloc {v:AV} {n m:Nat} {rd:List Nat} {k:Blk} {H:Hf}:(Eff.app {v,n:=m,rd,nw:=[(n,k)]} H)=fun b=>if b=n then some k else H b:=by
 funext b;simp only [Eff.app,mget,hget];by_cases h:b=n
 ·subst h;simp
 ·have:Nat.beq n b=false:=by
   rw [Bool.eq_false_iff];intro h';exact h (Nat.eq_of_beq_eq_true h').symm
  simp [this,h]
theorem Sim.alloc {P:Program} {D:Nat->Prop} {φ:Phi} {H:Hf} {w w':World} {n:Nat} {z:List AV} {cs:Array Value} {elem:TypeId} {fr:Nat×Nat} {g:Option Nat} {cap esz:Nat} {v:AV} {rd:List Nat} {u:Value} {r:Result Next}
 (hr:r= .ok (.value u) w')
 (hH:HR D φ H w) (hn: ¬D n) (hw:w'.heap=w.heap.push (.cells cs elem fr)) (hos:w'.os=w.os) (htape:w'.tape=w.tape) (hout:w'.output=w.output)
 (hz: ∀(i:Nat) (v:AV),z[i]? =some v-> ∃u,cs[i]? =some u/\VRel D φ v u) (hfr: ∀i,(i<cs.size\/i=cs.size/\g≠some 1)-> ¬(fr.1<=i/\i<fr.2)) (hg: ∀e,g=some e->esz=e/\cs.size=cap*e)
 (hv:VRel (Dn D n (n+1)) (φ.set n w.heap.size cap esz) v u):
 Sim P D φ H w n {v,n:=n+1,rd,nw:=[(n,{cells:=z,gr:=g})]} r:=by
 have hnn: ∀b k,H b=some k->b≠n:=fun b k hb e=>hn (e▸(hH.at_ b k hb).1);refine ⟨φ.set n w.heap.size cap esz,u,_,w',hr,.inl rfl,by show n<=n+1;omega,hv,by rw [app_alloc];exact Stp.alloc hH hn hw hos htape hout hz hfr hg,fun b k hb hk=> ?_,fun b r h=>by simp [mget] at h,fun b k h=> ?_⟩
 ·rw [app_alloc] at hb;by_cases hbn:b=n
  ·simp [hbn] at hb;subst hb;simp at hk
  ·simpa [hbn] using hb
 ·simp only [hget] at h;by_cases hbn:Nat.beq n b=true
  ·have:=Nat.eq_of_beq_eq_true hbn;show n<=b/\b<n+1;omega
  ·simp [hbn] at h
theorem getElem?_setIfInBounds' {l:Array Obj} {o:Obj} {c d:Nat} (hc:c<l.size):(l.setIfInBounds c o)[d]? =if c=d then some o else l[d]? :=by
 rw [Array.getElem?_setIfInBounds];split<;>simp_all
theorem Stp.write {D:Nat->Prop} {φ:Phi} {H:Hf} {w w':World} {b:Nat} {k:Blk} {cs cs':Array Value} {elem:TypeId} {fr:Nat×Nat} {xs:List AV}
 (hH:HR D φ H w) (hb:H b=some k) (hro:k.ro=false) (hk:w.heap[φ.blk b]? =some (.cells cs elem fr)) (hw:w'.heap=w.heap.setIfInBounds (φ.blk b) (.cells cs' elem fr))
 (hos:w'.os=w.os) (htape:w'.tape=w.tape) (hout:w'.output=w.output) (hsize:cs'.size=cs.size)
 (hz: ∀(i:Nat) (v:AV),xs[i]? =some v-> ∃u,cs'[φ.off b+i]? =some u/\VRel D φ v u):
 Stp D φ H w D φ (fun c=>if c=b then some {k with cells:=xs} else H c) w':=by
 have hlt:=(hH.at_ b k hb).2.lt;have hne: ∀c,c≠φ.blk b->w'.heap[c]? =w.heap[c]? :=fun c hc=>by rw [hw,getElem?_setIfInBounds' hlt,if_neg (Ne.symm hc)]
 refine Stp.mk' hH rfl rfl (fun _ h=>h) (Agree.refl D φ).at_ ⟨fun c k' hc=> ?_,fun b1 b2 k1 k2 hne' h1 h2 hk'=> ?_⟩ ⟨hos,htape,hout,by rw [hw];simp,fun c hc hn=>hne c (fun e=>hn b k hb hro e.symm)⟩ fun c k' hc hk'=> ?_
 ·by_cases hcb:c=b
  ·subst hcb;simp at hc;subst hc;obtain ⟨hd,⟨⟨cs0,elem0,fr0,h1,h2,h3,h4⟩,h5⟩⟩:=hH.at_ c k hb;obtain ⟨hmp,rfl,rfl,rfl⟩:=h1.of hk;refine ⟨hd,⟨⟨cs',elem,fr,.mk hmp (by rw [hw,getElem?_setIfInBounds' hlt];simp),fun i v hv=> ?_,fun _=>⟨(h3 hro).1,fun i hi=>(h3 hro).2 i (by rw [<-hsize];exact hi)⟩,fun e he=>⟨hro,(h4 e he).2.1,by rw [hsize];exact (h4 e he).2.2⟩⟩,h5⟩⟩
   exact hz i v hv
  ·rw [if_neg hcb] at hc;have h':=hH.at_ c k' hc;exact ⟨h'.1,h'.2.mono (fun _ h=>h) (Agree.refl _ _) h'.1 (hne _ (fun e=>hH.sep b c k k' (Ne.symm hcb) hb hc hro e.symm))⟩
 ·have key: ∀c k',(if c=b then some {k with cells:=xs} else H c)=some k'-> ∃k0,H c=some k0/\k0.ro=k'.ro:=fun c k' hc=>by
   by_cases hcb:c=b
   ·subst hcb;simp at hc;subst hc;exact ⟨k,hb,rfl⟩
   ·rw [if_neg hcb] at hc;exact ⟨k',hc,rfl⟩
  obtain ⟨k10,g1,r1⟩:=key b1 k1 h1;obtain ⟨k20,g2,r2⟩:=key b2 k2 h2;exact hH.sep b1 b2 k10 k20 hne' g1 g2 (r1.trans hk')
 ·by_cases hcb:c=b
  ·subst hcb;exact .inr ⟨c,k,hb,hro,rfl⟩
  ·rw [if_neg hcb] at hc;exact .inr ⟨c,k',hc,hk',rfl⟩
theorem beq_ne {n b:Nat} (h: ¬b=n):Nat.beq n b=false:=by
 rw [Bool.eq_false_iff];intro h';exact h (Nat.eq_of_beq_eq_true h').symm
theorem app_write {v:AV} {n b:Nat} {rd:List Nat} {k:Blk} {H:Hf}:(Eff.app {v,n,rd,md:=[(b,some k)]} H)=fun c=>if c=b then some k else H c:=by
 funext c;simp only [Eff.app,mget,hget];by_cases h:c=b
 ·subst h;simp
 ·simp [beq_ne h,h]
theorem Sim.write {P:Program} {D:Nat->Prop} {φ:Phi} {H:Hf} {w w':World} {n b:Nat} {k:Blk} {cs cs':Array Value} {elem:TypeId} {fr:Nat×Nat} {xs:List AV} {v:AV} {u:Value} {nx:Next} {rd:List Nat} {r:Result Next}
 (hr:r= .ok nx w') (hnx:nx= .value u\/(nx= .skip/\u=undef)) (hv:VRel D φ v u) (hrd:inl rd b=true)
 (hH:HR D φ H w) (hb:H b=some k) (hro:k.ro=false) (hk:w.heap[φ.blk b]? =some (.cells cs elem fr)) (hw:w'.heap=w.heap.setIfInBounds (φ.blk b) (.cells cs' elem fr))
 (hos:w'.os=w.os) (htape:w'.tape=w.tape) (hout:w'.output=w.output) (hsize:cs'.size=cs.size)
 (hz: ∀(i:Nat) (v:AV),xs[i]? =some v-> ∃u,cs'[φ.off b+i]? =some u/\VRel D φ v u):
 Sim P D φ H w n {v,n,rd,md:=[(b,some {k with cells:=xs})]} r:=by
 have h:=Stp.write hH hb hro hk hw hos htape hout hsize hz;have hd: ∀b,D b->Dn D n n b:=fun b h=> .inl h;have e:Dn D n n=D:=by funext b;exact propext Dn_self
 refine ⟨φ,u,nx,w',hr,hnx,Nat.le_refl _,hv.mono hd (Agree.refl _ _),by rw [app_write,e];exact h,fun c k' hc hk'=> ?_,fun c r hc=> ?_,fun b k h=>by simp [hget] at h⟩
 ·rw [app_write] at hc;by_cases hcb:c=b
  ·simp [hcb] at hc;subst hc;simp [hro] at hk'
  ·simpa [hcb] using hc
 ·simp only [mget] at hc;by_cases hcb:c=b
  ·subst hcb;exact hrd
  ·simp [beq_ne hcb] at hc
theorem Sim.growIn {P:Program} {D:Nat->Prop} {φ:Phi} {H:Hf} {w w':World} {n b e p cp:Nat} {k:Blk} {cs cs':Array Value} {elem:TypeId} {fr:Nat×Nat} {xs:List AV} {v:AV} {u:Value} {rd:List Nat} {r:Result Next}
 (hr:r= .ok (.value u) w') (hrd:inl rd b=true) (hn: ¬D n)
 (hH:HR D φ H w) (hb:H b=some k) (hgr:k.gr=some e) (hk:w.heap[φ.blk b]? =some (.cells cs elem fr)) (hw:w'.heap=w.heap.setIfInBounds (φ.blk b) (.cells cs' elem fr))
 (hos:w'.os=w.os) (htape:w'.tape=w.tape) (hout:w'.output=w.output) (hsize:cs'.size=cs.size)
 (hp:p+cp*e=cs.size) (hz: ∀(i:Nat) (v:AV),xs[i]? =some v-> ∃u,cs'[p+i]? =some u/\VRel D φ v u)
 (hv:VRel (Dn D n (n+1)) (φ.setO n (φ.blk b) p cp e) v u):
 Sim P D φ H w n {v,n:=n+1,rd,md:=[(b,none)],nw:=[(n,{cells:=xs,gr:=some e})]} r:=by
 have hD: ∀b,D b->Dn D n (n+1) b:=fun b h=> .inl h;have hnn: ¬D n:=hn;have hag:= @Phi.setO_agree D φ n (φ.blk b) p cp e hnn;obtain ⟨hdb,⟨⟨cs0,elem0,fr0,h1,h2,h3,h4⟩,h5⟩⟩:=hH.at_ b k hb;have hlt:=(hH.at_ b k hb).2.lt;obtain ⟨hmp,rfl,rfl,rfl⟩:=h1.of hk;obtain ⟨hro,hesz,hcap⟩:=h4 e hgr;have hbn:b≠n:=fun e=>hnn (e▸hdb);have happ:(Eff.app {v,n:=n+1,rd,md:=[(b,none)],nw:=[(n,{cells:=xs,gr:=some e})]} H)=fun c=>if c=b then none else if c=n then some {cells:=xs,gr:=some e} else H c:=by
  funext c;simp only [Eff.app,mget,hget];by_cases h:c=b
  ·subst h;simp
  ·by_cases h':c=n
   ·subst h';simp [beq_ne h,h]
   ·simp [beq_ne h,beq_ne h',h,h']
 have hne: ∀c,c≠φ.blk b->w'.heap[c]? =w.heap[c]? :=fun c hc=>by rw [hw,getElem?_setIfInBounds' hlt,if_neg (Ne.symm hc)]
 refine ⟨φ.setO n (φ.blk b) p cp e,u,_,w',hr,.inl rfl,by show n<=n+1;omega,hv,?_,fun c k' hc hk'=> ?_,fun c r hc=> ?_,fun c k' h=> ?_⟩
 ·rw [happ];refine Stp.mk' hH rfl rfl hD hag.at_ ⟨fun c k' hc=> ?_,fun b1 b2 k1 k2 hne' g1 g2 hk'=> ?_⟩ ⟨hos,htape,hout,by rw [hw];simp,fun c hc hn=>hne c (fun e=>hn b k hb hro e.symm)⟩ fun c k' hc hk'=> ?_
  ·by_cases hcb:c=b
   ·simp [hcb] at hc
   ·rw [if_neg hcb] at hc;by_cases hcn:c=n
    ·subst hcn;simp at hc;subst hc;refine ⟨.inr ⟨Nat.le_refl _,Nat.lt_succ_self _⟩,⟨⟨cs',elem,fr,.mk rfl (by simp [Phi.setO];rw [hw,getElem?_setIfInBounds' hlt];simp),fun i v hv=> ?_,fun _=>⟨fun h=>(by cases h),fun i hi=>(h3 hro).2 i (by rw [<-hsize,hgr];exact hi)⟩,fun e' he=> ?_⟩,fun g' h=>by simp at h⟩⟩
     ·obtain ⟨u,hu,hvu⟩:=hz i v hv;exact ⟨u,by simpa [Phi.setO] using hu,hvu.mono hD hag⟩
     ·simp at he;subst he;exact ⟨rfl,by simp [Phi.setO],by simp [Phi.setO];rw [hsize];exact hp.symm⟩
    ·rw [if_neg hcn] at hc;have h':=hH.at_ c k' hc;exact ⟨hD c h'.1,h'.2.mono hD hag h'.1 (hne _ (fun e=>hH.sep b c k k' (Ne.symm hcb) hb hc hro e.symm))⟩
  ·have hb1:b1≠b:=fun e=>by simp [e] at g1
   have hb2:b2≠b:=fun e=>by simp [e] at g2
   rw [if_neg hb1] at g1;rw [if_neg hb2] at g2;by_cases hb1n:b1=n<;>by_cases hb2n:b2=n
   ·exact absurd (hb1n.trans hb2n.symm) hne'
   ·rw [if_neg hb2n] at g2;simp [Phi.setO,hb1n,hb2n];exact hH.sep b b2 k k2 (Ne.symm hb2) hb g2 hro
   ·rw [if_neg hb1n] at g1;simp [Phi.setO,hb1n,hb2n];exact hH.sep b1 b k1 k hb1 g1 hb hk'
   ·rw [if_neg hb1n] at g1;rw [if_neg hb2n] at g2;simp [Phi.setO,hb1n,hb2n];exact hH.sep b1 b2 k1 k2 hne' g1 g2 hk'
  ·have hcb:c≠b:=fun e=>by simp [e] at hc
   rw [if_neg hcb] at hc;by_cases hcn:c=n
   ·right;exact ⟨b,k,hb,hro,by simp [Phi.setO,hcn]⟩
   ·rw [if_neg hcn] at hc;right;exact ⟨c,k',hc,hk',by simp [Phi.setO,hcn]⟩
 ·rw [happ] at hc;by_cases hcb:c=b
  ·simp [hcb] at hc
  ·simp only [hcb,if_false] at hc;by_cases hcn:c=n
   ·simp [hcn] at hc;subst hc;simp at hk'
   ·simpa [hcn] using hc
 ·simp only [mget] at hc;by_cases hcb:c=b
  ·subst hcb;exact hrd
  ·simp [beq_ne hcb] at hc
 ·simp only [hget] at h;by_cases hcn:c=n
  ·show n<=c/\c<n+1;omega
  ·simp [beq_ne hcn] at h
theorem Sim.growOut {P:Program} {D:Nat->Prop} {φ:Phi} {H:Hf} {w w':World} {n b e cap:Nat} {cs:Array Value} {elem:TypeId} {fr:Nat×Nat} {xs:List AV} {v:AV} {u:Value} {rd:List Nat} {r:Result Next}
 (hr:r= .ok (.value u) w') (hrd:inl rd b=true) (hn: ¬D n) (hdb:D b)
 (hH:HR D φ H w) (hw:w'.heap=w.heap.push (.cells cs elem fr)) (hos:w'.os=w.os) (htape:w'.tape=w.tape) (hout:w'.output=w.output)
 (hz: ∀(i:Nat) (v:AV),xs[i]? =some v-> ∃u,cs[i]? =some u/\VRel D φ v u) (hfr: ∀i,(i<cs.size\/i=cs.size/\some e≠some 1)-> ¬(fr.1<=i/\i<fr.2)) (hcap:cs.size=cap*e)
 (hv:VRel (Dn D n (n+1)) (φ.set n w.heap.size cap e) v u):
 Sim P D φ H w n {v,n:=n+1,rd,md:=[(b,none)],nw:=[(n,{cells:=xs,gr:=some e})]} r:=by
 have hnn: ¬D n:=hn;have hbn:b≠n:=fun e=>hnn (e▸hdb);have hst:= @Stp.alloc D φ H w w' n xs cs elem fr (some e) cap e hH hn hw hos htape hout hz hfr (fun e' he=>by simp at he;subst he;exact ⟨rfl,hcap⟩)
 have happ:(Eff.app {v,n:=n+1,rd,md:=[(b,none)],nw:=[(n,{cells:=xs,gr:=some e})]} H)=fun c=>if c=b then none else if c=n then some {cells:=xs,gr:=some e} else H c:=by
  funext c;simp only [Eff.app,mget,hget];by_cases h:c=b
  ·subst h;simp
  ·by_cases h':c=n
   ·subst h';simp [beq_ne h,h]
   ·simp [beq_ne h,beq_ne h',h,h']
 refine ⟨φ.set n w.heap.size cap e,u,_,w',hr,.inl rfl,by show n<=n+1;omega,hv,?_,fun c k' hc hk'=> ?_,fun c r hc=> ?_,fun c k' h=> ?_⟩
 ·rw [happ];have sub: ∀c k,(if c=b then none else if c=n then some {cells:=xs,gr:=some e} else H c)=some k->(if c=n then some {cells:=xs,gr:=some e} else H c)=some k:=fun c k hc=>by
   by_cases hcb:c=b
   ·simp [hcb] at hc
   ·simpa [hcb] using hc
  exact Stp.mk' hH rfl rfl hst.sub hst.agree.at_ ⟨fun c k hc=>hst.hr.at_ c k (sub c k hc),fun b1 b2 k1 k2 hne h1 h2 hk=>hst.hr.sep b1 b2 k1 k2 hne (sub _ _ h1) (sub _ _ h2) hk⟩ hst.frm fun c k hc hk=>hst.img c k (sub c k hc) hk
 ·rw [happ] at hc;by_cases hcb:c=b
  ·simp [hcb] at hc
  ·simp only [hcb,if_false] at hc;by_cases hcn:c=n
   ·simp [hcn] at hc;subst hc;simp at hk'
   ·simpa [hcn] using hc
 ·simp only [mget] at hc;by_cases hcb:c=b
  ·subst hcb;exact hrd
  ·simp [beq_ne hcb] at hc
 ·simp only [hget] at h;by_cases hcn:c=n
  ·show n<=c/\c<n+1;omega
  ·simp [beq_ne hcn] at h
theorem Addr.add_eq (b o i:Nat):(⟨b,o,none⟩:Addr).add i=⟨b,o+i,none⟩:=by
 unfold Addr.add;split
 ·rename_i h;subst h;rfl
 ·rfl
theorem cell?_at {w:World} {c o:Nat} {cs:Array Value} {elem:TypeId} {fr:Nat×Nat} (h:w.heap[c]? =some (.cells cs elem fr)):w.cell? ⟨c,o,none⟩=cs[o]? :=by
 simp [World.cell?,h]
theorem frozen?_at {w:World} {c o:Nat} {cs:Array Value} {elem:TypeId} {lo hi:Nat} (h:w.heap[c]? =some (.cells cs elem (lo,hi))):w.frozen? ⟨c,o,none⟩=(decide (lo<=o)&&decide (o<hi)):=by
 simp [World.frozen?,h]
theorem run_load_at {P:Program} {w:World} {c o:Nat} {cs:Array Value} {elem:TypeId} {fr:Nat×Nat} {u:Value} (h:w.heap[c]? =some (.cells cs elem fr)) (hu:cs[o]? =some u):
 (load ⟨c,o,none⟩).run P w= .ok u w:=by
 rw [run_load,cell?_at h,hu]
theorem run_loadCellsFrom {P:Program} {w:World} {c o:Nat} {cs:Array Value} {elem:TypeId} {fr:Nat×Nat} (h:w.heap[c]? =some (.cells cs elem fr)):
 ∀(n i:Nat) (acc:Array Value),o+i+n<=cs.size->(loadCellsFrom ⟨c,o,none⟩ i n acc).run P w= .ok (acc++(cs.toList.drop (o+i)).take n) w:=by
 intro n;induction n with
 |zero=>intro i acc _;simp [loadCellsFrom]
 |succ n ih=>
  intro i acc hle;have hlt:o+i<cs.size:=by omega
  have hu:cs[o+i]? =some cs[o+i]:=by simp [hlt]
  simp only [loadCellsFrom,Sem.run_bind,Addr.add_eq];rw [run_load_at h hu];simp only [Result.andThen_ok];rw [ih (i+1) _ (by omega)]
  congr 1;have e1:List.drop (o+i) cs.toList=cs[o+i]::List.drop (o+(i+1)) cs.toList:=by
   rw [show o+(i+1)=(o+i)+1 from rfl]
   rw [<-Array.getElem_toList (by simpa using hlt)]
   exact List.drop_eq_getElem_cons (by simpa using hlt)
  rw [e1,List.take_succ_cons];apply Array.ext';simp
theorem run_loadCells {P:Program} {w:World} {c o n:Nat} {cs:Array Value} {elem:TypeId} {fr:Nat×Nat} (h:w.heap[c]? =some (.cells cs elem fr)) (hle:o+n<=cs.size):
 (loadCells ⟨c,o,none⟩ n).run P w= .ok ((cs.toList.drop o).take n).toArray w:=by
 unfold loadCells;rw [run_loadCellsFrom h n 0 #[] (by omega)]
 simp
theorem run_storeCells {P:Program} {c o:Nat} {elem:TypeId} {lo hi:Nat}:
 ∀(vs:List Value) (i:Nat) (w:World) (cs:Array Value),w.heap[c]? =some (.cells cs elem (lo,hi))->(∀j,j<cs.size-> ¬(lo<=j/\j<hi))->o+i+vs.length<=cs.size→
  (∀v∈vs,v.oneCell'=true)→
  ∃w',(storeCells ⟨c,o,none⟩ vs i).run P w= .ok () w'/\w'.os=w.os/\w'.tape=w.tape/\w'.output=w.output∧
   w'.heap=w.heap.setIfInBounds c (.cells (cs.toList.take (o+i)++vs++cs.toList.drop (o+i+vs.length)).toArray elem (lo,hi)):=by
 intro vs;induction vs with
 |nil=>
  intro i w cs h _ _ _;have hlt:c<w.heap.size:=by
   rcases Nat.lt_or_ge c w.heap.size with h'|h'
   ·exact h'
   ·rw [Array.getElem?_eq_none h'] at h;cases h
  refine ⟨w,by simp [storeCells],rfl,rfl,rfl,?_⟩
  simp only [List.append_nil,List.length_nil,Nat.add_zero,List.take_append_drop];apply Array.ext_getElem?;intro d;rw [getElem?_setIfInBounds' hlt];split
  ·rename_i e;subst e;exact h
  ·rfl
 |cons v vs ih=>
  intro i w cs h hfr hle hone;have hlt:c<w.heap.size:=by
   rcases Nat.lt_or_ge c w.heap.size with h'|h'
   ·exact h'
   ·rw [Array.getElem?_eq_none h'] at h;cases h
  simp only [List.length_cons] at hle;have hoi:o+i<cs.size:=by omega
  have hset:(w.setCell ⟨c,o+i,none⟩ v).heap=w.heap.setIfInBounds c (.cells (cs.setIfInBounds (o+i) v) elem (lo,hi)):=by
   apply Array.ext_getElem?;intro d;rw [getElem?_setIfInBounds' hlt];simp only [World.setCell,Array.getElem?_modify];split
   ·rename_i e;subst e;simp [h]
   ·rfl
  have h1:(w.setCell ⟨c,o+i,none⟩ v).heap[c]? =some (.cells (cs.setIfInBounds (o+i) v) elem (lo,hi)):=by
   rw [hset,getElem?_setIfInBounds' hlt];simp
  obtain ⟨w',hr,ho,ht,hou,hh⟩:=ih (i+1) _ _ h1 (fun j hj=>hfr j (by simpa using hj)) (by simp;omega) (fun x hx=>hone x (List.mem_cons_of_mem _ hx))
  refine ⟨w',?_,ho.trans rfl,ht.trans rfl,hou.trans rfl,?_⟩
  ·simp only [storeCells,Sem.run_bind,Addr.add_eq];rw [run_store _ _ _ _ _ (hone v (List.mem_cons_self)),cell?_at h,frozen?_at h];have hf:(decide (lo<=o+i)&&decide (o+i<hi))=false:=by
    have:=hfr (o+i) hoi;rw [Bool.and_eq_false_iff];by_cases hh:lo<=o+i
    ·right;simp;omega
    ·left;simp;omega
   have hc:cs[o+i]? =some cs[o+i]:=by simp [hoi]
   rw [hc,hf];simp only [Bool.false_eq_true,if_false,Result.andThen_ok];exact hr
  ·rw [hh,hset];apply Array.ext_getElem?;intro d;rw [getElem?_setIfInBounds' (by simpa using hlt),getElem?_setIfInBounds' hlt,getElem?_setIfInBounds' hlt]
   split
   ·congr 2;apply Array.ext';simp only [Array.toList_setIfInBounds,List.length_cons];apply List.ext_getElem?;intro j;have hl:cs.toList.length=cs.size:=by simp
    simp only [List.getElem?_append,List.getElem?_take,List.getElem?_drop,List.length_append,List.length_take,List.length_set,List.getElem?_set,hl,List.getElem?_cons,List.length_cons];by_cases c1:j<o+i
    ·simp [c1,show j<o+(i+1) by omega,show j<cs.size by omega,show ¬(o+i=j) by omega,show min (o+(i+1)) cs.size=o+(i+1) by omega,show min (o+i) cs.size=o+i by omega,show j<o+(i+1)+vs.length by omega,show j<o+i+(vs.length+1) by omega]
    ·by_cases c2:j=o+i
     ·subst c2;simp [show min (o+(i+1)) cs.size=o+(i+1) by omega,show min (o+i) cs.size=o+i by omega,show o+i<o+(i+1) by omega,show o+i<o+(i+1)+vs.length by omega,show o+i<o+i+(vs.length+1) by omega,hoi]
     ·by_cases c3:j<o+(i+1)+vs.length
      ·simp [show min (o+(i+1)) cs.size=o+(i+1) by omega,show min (o+i) cs.size=o+i by omega,c3,show j<o+i+(vs.length+1) by omega,show ¬j<o+(i+1) by omega,c1,show ¬(j-(o+i)=0) by omega,show j-(o+i)-1=j-(o+(i+1)) by omega]
      ·simp [show min (o+(i+1)) cs.size=o+(i+1) by omega,show min (o+i) cs.size=o+i by omega,c3,show ¬j<o+i+(vs.length+1) by omega,show o+(i+1)+vs.length+(j-(o+(i+1)+vs.length))=o+i+(vs.length+1)+(j-(o+i+(vs.length+1))) by omega]
       intro hx;omega
   ·rfl
def cO:Operand->Option Opd
 | .tmp t=>some (.t t)
 | .const v=>(avOf v).map .c
 | .global g=>some (.g g)
 | .func f=>if Nat.beq f YB then none else some (.c (.fn f []))
def cOs:List Operand->Option (List Opd)
 |[]=>some []
 |y::r=>(cO y).bind fun x=>(cOs r).bind fun xs=>some (x::xs)
def cOo:Option Operand->Option (Option Opd)
 |none=>some none
 |some y=>(cO y).map some
def tyAgg (P:Program) (t:TypeId):Option Bool:=
 match P.underlying t with
 |some (.struct _)=>some true
 |some (.array _ _)=>some true
 |some _=>some false
 |none=>none
def tySz (P:Program) (t:TypeId):Option Nat:=(P.info? t).map (·.size)
def tyZero (P:Program) (t:TypeId):Option (List AV):=(P.info? t).bind fun i=>i.zero.bind fun z=>avsOf z.cells.toList
def zI:List Value->Nat->Bool
 |[],n=>match n with
  |0=>true
  |_+1=>false
 |x::r,n=>match n with
  |0=>false
  |m+1=>match x with
   | .int .i64 (.ofNat 0)=>zI r m
   |_=>false
def zB:List Value->Nat->Bool
 |[],n=>match n with
  |0=>true
  |_+1=>false
 |x::r,n=>match n with
  |0=>false
  |m+1=>match x with
   | .bool false=>zB r m
   |_=>false
def bigZ (n:Nat) (v:AV):List AV:=List.replicate n v
theorem zI_eq: ∀{l:List Value} {n:Nat},zI l n=true->avsOf l=some (bigZ n (.i .i64 0))
 |[],0,_=>rfl
 |[],_+1,h=>by simp [zI] at h
 |_::_,0,h=>by simp [zI] at h
 |x::r,m+1,h=>by
  simp only [zI] at h;split at h
  ·simp only [avsOf,avOf1,Option.bind_some,zI_eq h,bigZ,List.replicate_succ];rfl
  ·cases h
theorem zB_eq: ∀{l:List Value} {n:Nat},zB l n=true->avsOf l=some (bigZ n (.b false))
 |[],0,_=>rfl
 |[],_+1,h=>by simp [zB] at h
 |_::_,0,h=>by simp [zB] at h
 |x::r,m+1,h=>by
  simp only [zB] at h;split at h
  ·simp only [avsOf,avOf1,Option.bind_some,zB_eq h,bigZ,List.replicate_succ]
  ·cases h
def tyZeroA (P:Program) (t:TypeId):Option (List AV):=match P.underlying t with
 |some (.array m _)=>match Nat.ble 1000 m with
  |true=>(P.info? t).bind fun i=>i.zero.bind fun z=>match zI z.cells.toList m with
   |true=>some (bigZ m (.i .i64 0))
   |false=>match zB z.cells.toList m with
    |true=>some (bigZ m (.b false))
    |false=>none
  |false=>tyZero P t
 |_=>tyZero P t
theorem tyZeroA_eq {P:Program} {t:TypeId} {z:List AV} (h:tyZeroA P t=some z):tyZero P t=some z:=by
 unfold tyZeroA at h;split at h
 ·split at h
  ·simp only [Option.bind_eq_some_iff] at h;obtain ⟨i,hi,u,hu,h⟩:=h;simp only [tyZero,hi,hu,Option.bind_some];split at h
   ·rename_i hz;cases h;exact zI_eq hz
   ·split at h
    ·rename_i hz;cases h;exact zB_eq hz
    ·cases h
  ·exact h
 ·exact h
def tyField (P:Program) (t:TypeId) (f:Nat):Option (Nat×Nat×TypeId):=
 match P.underlying t with
 |some (.struct fs)=>(fs[f]?).bind fun fl=>(tySz P fl.type).map fun z=>(fl.offset,z,fl.type)
 |_=>none
def cPartsS (P:Program) (t:TypeId):List (Nat×Operand)->Option (List (Nat×Nat×Opd))
 |[]=>some []
 |(i,y)::r=>(tyField P t i).bind fun q=>(cO y).bind fun x=>(cPartsS P t r).bind fun xs=>some ((q.1,q.2.1,x)::xs)
def cPartsA (z:Nat):List (Nat×Operand)->Option (List (Nat×Nat×Opd))
 |[]=>some []
 |(i,y)::r=>(cO y).bind fun x=>(cPartsA z r).bind fun xs=>some ((i*z,z,x)::xs)
def kdFields (P:Program) (f:TypeId->Option (List Kd)):List Field->Nat->Option (List Kd)
 |[],_=>some []
 |fl::r,off=>if fl.name≠ "_" ∧fl.offset=off then (f fl.type).bind fun ks=>if tySz P fl.type=some ks.length then (kdFields P f r (off+ks.length)).map (ks++ ·) else none else none
def kdRep (ks:List Kd):Nat->List Kd
 |0=>[]
 |n+1=>ks++kdRep ks n
def kdOf (P:Program):Nat->TypeId->Option (List Kd)
 |0,_=>none
 |d+1,t=>match P.underlying t with
  |some .bool=>some [.b]
  |some (.int _)=>some [.i]
  |some .string=>some [.s]
  |some (.struct fs)=>if P.stoodInHeld t=false then kdFields P (kdOf P d) fs.toList 0 else none
  |some (.array len e)=>(kdOf P d e).bind fun ks=>if tySz P e=some ks.length then some (kdRep ks len) else none
  |_=>none
def guardOk (P:Program) (t:TypeId):Bool:= !P.eqGuardType P.depth t
def nilTy (P:Program) (t:TypeId):Option Nat:=
 match P.underlying t with
 |some (.pointer _)=>some 0
 |some (.slice _)=>some 1
 |some (.func _ _ _)=>some 2
 |_=>none
def bad:Option IOp:=some .bad
def orBad (o:Option IOp):IOp:=o.getD .bad
def compOp (P:Program) (o:Op):IOp:=
 match o with
 | .move x=>orBad<|(cO x).map .mv
 | .assign x=>orBad<|(cO x).map .mv
 | .pick c a b=>orBad<|(cO c).bind fun c=>(cO a).bind fun a=>(cO b).map fun b=> .pick c a b
 | .alloc t=>orBad<|(tyZeroA P t).map .new
 | .box t x=>orBad<|(cO x).map .box
 | .build t ps=>match P.underlying t with
  |some (.struct fs)=>orBad<|(tyZero P t).bind fun z=>if fs.all fun f=>(P.info? f.type).isSome then (cPartsS P t ps.toList).map fun l=> .build z l else none
  |some (.array _ e)=>orBad<|(tyZero P t).bind fun z=>(tySz P e).bind fun s=>(cPartsA s ps.toList).map fun l=> .build z l
  |_=> .bad
 | .buildSlice t len ps=>match P.underlying t with
  |some (.slice e)=>orBad<|(tyZero P e).bind fun z=>(tySz P e).bind fun s=>if z.length=s/\len*s<=2^24 then (cPartsA s ps.toList).map fun l=> .bsl (zeros z len) len l else none
  |_=> .bad
 | .load t a=>orBad<|(tyAgg P t).bind fun g=>(tySz P t).bind fun z=>(cO a).map fun a=> .ld g z a
 | .store t a x=>orBad<|(tySz P t).bind fun z=>(cO a).bind fun a=>(cO x).map fun x=> .st z a x
 | .nilCheck x=>orBad<|(cO x).map .nck
 | .binOp op t x y _=>match P.underlying t with
  |some (.int _)=>orBad<|(cO x).bind fun x=>(cO y).map fun y=> .bin op x y
  |some .string=>orBad<|(cO x).bind fun x=>(cO y).map fun y=> .bin op x y
  |some (.interface _)=>match op,y with
   | .eql,.const .nilIface=>orBad<|(cO x).map fun x=> .eqi false x
   | .neq,.const .nilIface=>orBad<|(cO x).map fun x=> .eqi true x
   |_,_=> .bad
  |_=>match nilTy P t with
   |some k=>(match op with
    | .eql=>orBad<|(cO x).bind fun x=>(cO y).map fun y=> .eqn false k x y
    | .neq=>orBad<|(cO x).bind fun x=>(cO y).map fun y=> .eqn true k x y
    |_=> .bad)
   |none=>if guardOk P t then (match op with
    | .eql=>orBad<|(kdOf P 9 t).bind fun ks=>(tyAgg P t).bind fun g=>(cO x).bind fun x=>(cO y).map fun y=> .eqk false g ks x y
    | .neq=>orBad<|(kdOf P 9 t).bind fun ks=>(tyAgg P t).bind fun g=>(cO x).bind fun x=>(cO y).map fun y=> .eqk true g ks x y
    |_=> .bad) else .bad
 | .unOp op _ x=>match op with
  | .not=>orBad<|(cO x).map .not
  | .neg=>orBad<|(cO x).map .neg
  |_=> .bad
 | .convert s d x=>match P.underlying s,P.underlying d with
  |some (.int _),some (.int k)=>orBad<|(cO x).map fun x=> .i2i k x
  |some .string,some .string=>orBad<|(cO x).map .idc
  |some .string,some (.slice e)=>match P.underlying e with
   |some (.int .u8)=>orBad<|(cO x).map .s2b
   |_=> .bad
  |some (.slice e),some .string=>match P.underlying e with
   |some (.int .u8)=>orBad<|(cO x).map .b2s
   |_=> .bad
  |_,_=> .bad
 | .makeFunc (.func f) first caps=>if first.size=0&& !Nat.beq f YB then orBad<|(cOs caps.toList).map fun l=> .mkf f l else if caps.size=0&& !Nat.beq f YB then orBad<|(cOs first.toList).map fun l=> .mkm f l else .bad
 | .slice t x lo hi mx=>if mx.isSome&&hi.isNone then .bad else match P.underlying t with
  |some .string=>match mx with
   |none=>orBad<|(cO x).bind fun x=>(cOo lo).bind fun lo=>(cOo hi).map fun hi=> .slS x lo hi
   |some _=> .bad
  |some (.slice e)=>orBad<|(tySz P e).bind fun z=>(cO x).bind fun x=>(cOo lo).bind fun lo=>(cOo hi).bind fun hi=>(cOo mx).map fun mx=> .slV z x lo hi mx
  |some (.array n e)=>orBad<|(tySz P e).bind fun z=>(cO x).bind fun x=>(cOo lo).bind fun lo=>(cOo hi).bind fun hi=>(cOo mx).map fun mx=> .slA n z x lo hi mx
  |_=> .bad
 | .fieldAddr t x f=>orBad<|(tyField P t f).bind fun q=>if q.2.1=0 then none else (cO x).map fun x=> .fa q.1 x
 | .field t x f=>orBad<|(tyField P t f).bind fun q=>(tyAgg P q.2.2).bind fun g=>(cO x).map fun x=> .fld g q.2.1 q.1 x
 | .indexAddr t x i=>match P.underlying t with
  |some (.array n e)=>orBad<|(tySz P e).bind fun z=>(cO x).bind fun x=>(cO i).map fun i=> .ixaA n z x i
  |some (.slice e)=>orBad<|(tySz P e).bind fun z=>(cO x).bind fun x=>(cO i).map fun i=> .ixaV z x i
  |_=> .bad
 | .index t x i=>match P.underlying t with
  |some (.array n e)=>orBad<|(tySz P e).bind fun z=>(tyAgg P e).bind fun g=>(cO x).bind fun x=>(cO i).map fun i=> .ixA n z g x i
  |some .string=>orBad<|(cO x).bind fun x=>(cO i).map fun i=> .ixS x i
  |_=> .bad
 | .extract x i=>orBad<|(cO x).map fun x=> .ext x i
 | .makeInterface t x=>match P.underlying t with
  |some (.interface _)=> .bad
  |some _=>orBad<|(cO x).map fun x=> .mki t x
  |none=> .bad
 | .typeAssert x _ t commaOk=>match commaOk,P.underlying t with
  |true,some (.interface _)=> .bad
  |true,some _=>orBad<|(P.info? t).bind fun i=>i.zero.bind fun z=>(avOf z).bind fun z=>(cO x).map fun x=> .tas t z x
  |_,_=> .bad
 | .panic x=>orBad<|(cO x).map .pan
 | .defer c=>match c.callee with
  | .value f=>orBad<|(cO f).bind fun f=>(cOs c.args.toList).map fun l=> .dfr f l
  |_=> .bad
 | .call c=>match c.callee with
  | .value f=>orBad<|(cO f).bind fun f=>(cOs c.args.toList).map fun l=> .call f l
  | .builtin b=>match b,c.args.toList,c.argTypes.toList with
   | .len,[x],[t]=>match P.underlying t with
    |some .string=>orBad<|(cO x).map .lenS
    |some (.slice _)=>orBad<|(cO x).map .lenV
    |some (.array n _)=> .lenC n
    |some (.pointer a)=>match P.underlying a with
     |some (.array n _)=> .lenC n
     |_=> .bad
    |_=> .bad
   | .cap,[x],[t]=>match P.underlying t with
    |some (.slice _)=>orBad<|(cO x).map .capV
    |_=> .bad
   | .min,x::xs,_=>orBad<|(cO x).bind fun x=>(cOs xs).map fun l=> .mn x l
   | .max,x::xs,_=>orBad<|(cO x).bind fun x=>(cOs xs).map fun l=> .mx x l
   | .append,[s,x],[t,u]=>match P.underlying t,P.underlying u with
    |some (.slice e),some (.int _)=>orBad<|(P.info? e).bind fun i=>(tyZero P e).bind fun z=>if z.length=i.size/\0<i.size/\i.bytes≠0 then (cO s).bind fun s=>(cO x).map fun x=> .apz i.size i.bytes z s x else none
    |some (.slice e),some _=>orBad<|(P.info? e).bind fun i=>(tyZero P e).bind fun z=>if z.length=i.size/\i.bytes≠0 then (cO s).bind fun s=>(cO x).map fun x=> .app i.size i.bytes z s x else none
    |_,_=> .bad
   | .copy,[d,s],t::_=>match P.underlying t with
    |some (.slice e)=>orBad<|(tySz P e).bind fun z=>(cO d).bind fun d=>(cO s).map fun s=> .cpy z d s
    |_=> .bad
   | .delete,[m,k],t::_=>match P.underlying t with
    |some (.map kt _)=>orBad<|(keyKd P kt).bind fun kd=>(cO m).bind fun m=>(cO k).map fun k=> .mpD kd m k
    |_=> .bad
   | .recover,[],_=> .rcv
   | .clear,[x],[t]=>match P.underlying t with
    |some (.slice e)=>orBad<|(tyZero P e).bind fun zs=>(tySz P e).bind fun z=>(cO x).map fun x=> .clr z zs x
    |_=> .bad
   |_,_,_=> .bad
  |_=> .bad
 | .makeMap t r=>match r with
  |some _=> .bad
  |none=>match P.underlying t with
   |some (.map kt _)=>match keyKd P kt with
    |some 0=> .mpN (.i [])
    |some 1=> .mpN (.s [])
    |_=> .bad
   |_=> .bad
 | .lookup t x k ok=>match P.underlying t with
  |some (.map kt et)=>orBad<|(keyKd P kt).bind fun kd=>(P.info? et).bind fun i=>i.zero.bind fun z=>(avOf z).bind fun z=>(cO x).bind fun m=>(cO k).map fun k=> .mpG kd ok z m k
  |_=> .bad
 | .mapUpdate t m k x=>match P.underlying t with
  |some (.map kt _)=>orBad<|(keyKd P kt).bind fun kd=>(cO m).bind fun m=>(cO k).bind fun k=>(cO x).map fun x=> .mpU kd m k x
  |_=> .bad
 | .insert t m k x=>match P.underlying t with
  |some (.map kt _)=>orBad<|(keyKd P kt).bind fun kd=>(cO m).bind fun m=>(cO k).bind fun k=>(cO x).map fun x=> .mpU kd m k x
  |_=> .bad
 | .makeSlice t l c=>match P.underlying t with
  |some (.slice e)=>orBad<|(P.info? e).bind fun i=>(tyZero P e).bind fun z=>if z.length=i.size then (cO l).bind fun l=>(cO c).map fun c=> .mks i.size i.bytes z l c else none
  |_=> .bad
 |_=> .bad
end Go.Ab
namespace Go.Ab
theorem avOf1_rel {D:Nat->Prop} {φ:Phi} {u:Value} {v:AV} (h:avOf1 u=some v):VRel D φ v u:=by
 unfold avOf1 at h;split at h<;>cases h
 ·exact .b _
 ·exact .i _ _
 ·rename_i s;have:=VRel.s (D:=D) (φ:=φ) s.data.toList;simpa using this
 ·exact .np
 ·exact .ns
 ·exact .nf
 ·exact .ni
 ·exact .nm
theorem avsOf_rel {D:Nat->Prop} {φ:Phi}: ∀{l:List Value} {m:List AV},avsOf l=some m->All2 D φ m l
 |[],m,h=>by simp [avsOf] at h;subst h;exact .nil
 |u::l,m,h=>by
  simp only [avsOf,Option.bind_eq_some_iff] at h;obtain ⟨x,hx,xs,hxs,h⟩:=h;cases h;exact .cons (avOf1_rel hx) (avsOf_rel hxs)
theorem avOf_rel {D:Nat->Prop} {φ:Phi} {u:Value} {v:AV} (h:avOf u=some v):VRel D φ v u:=by
 unfold avOf at h;split at h
 ·obtain ⟨m,hm,rfl⟩:=Option.map_eq_some_iff.1 h;have:=VRel.agg' (avsOf_rel (D:=D) (φ:=φ) hm);simpa using this
 ·obtain ⟨m,hm,rfl⟩:=Option.map_eq_some_iff.1 h;have:=VRel.tup' (avsOf_rel (D:=D) (φ:=φ) hm);simpa using this
 ·exact avOf1_rel h
theorem VRel.one {D:Nat->Prop} {φ:Phi} {v:AV} {u:Value} (h:VRel D φ v u) (h1:v.one=true):u.oneCell'=true:=by
 cases h<;>first|rfl|(simp [AV.one] at h1)
theorem VRel.cells {D:Nat->Prop} {φ:Phi} {v:AV} {u:Value} (h:VRel D φ v u) (hn:v.isAny=false):All2 D φ v.cells u.cells.toList:=by
 cases h with
 |agg l cs hl h=>exact ⟨by simpa [AV.cells,Value.cells] using hl,fun i a u ha hu=>h i a u ha (by simpa [Value.cells] using hu)⟩
 |sl b o len cap h=>exact .cons (.sl b o len cap h) .nil
 |p b o h=>exact .cons (.p b o h) .nil
 |sg b o len j cap h hj hc hl=>exact .cons (.sg b o len j cap h hj hc hl) .nil
 |fn f l cs hf hl h=>exact .cons (.fn f l cs hf hl h) .nil
 |bm f l cs hf hl h=>exact .cons (.bm f l cs hf hl h) .nil
 |yl L r ts l hL h=>exact .cons (.yl L r ts l hL h) .nil
 |fz0 l x cap hc=>exact .cons (.fz0 l x cap hc) .nil
 |tup l cs hl h=>exact .cons (.tup l cs hl h) .nil
 |fz l n B o cap vs hB hc hs h=>exact .cons (.fz l n B o cap vs hB hc hs h) .nil
 |fp l k B o vs hB hs h=>exact .cons (.fp l k B o vs hB hs h) .nil
 |any u=>simp [AV.isAny] at hn
 |m b h=>exact .cons (.m b h) .nil
 |_=>exact .cons (by constructor) .nil
section
variable {P:Program} {D:Nat->Prop} {φ:Phi} {H:Hf} {w:World} {n:Nat}
theorem run_v (s:Sem Value) (w:World):(do pure (Next.value (<-s)):Sem Next).run P w=(s.run P w).andThen fun a w'=> .ok (.value a) w':=by simp
theorem run_typeInfo {t:TypeId} {i:TypeInfo} (h:P.info? t=some i) (w:World):(typeInfo t).run P w= .ok i w:=by
 simp [typeInfo,h]
theorem run_sizeOf {t:TypeId} {z:Nat} (h:tySz P t=some z) (w:World):(sizeOf t).run P w= .ok z w:=by
 obtain ⟨i,hi,rfl⟩:=Option.map_eq_some_iff.1 h;simp [sizeOf,run_typeInfo hi]
theorem run_isAgg {t:TypeId} {g:Bool} (h:tyAgg P t=some g) (w:World):(isAgg t).run P w= .ok g w:=by
 unfold tyAgg at h;split at h<;>cases h
 ·rename_i hu;simp [isAgg,run_underlying hu]
 ·rename_i hu;simp [isAgg,run_underlying hu]
 ·rename_i d hs ha hu;simp only [isAgg,Sem.run_bind,run_underlying hu,Result.andThen_ok];cases d<;>first|rfl|(exact absurd rfl (hs _))|(exact absurd rfl (ha _ _))
theorem run_zero {t:TypeId} {z:List AV} (h:tyZero P t=some z) (w:World): ∃u,(zeroValue t).run P w= .ok u w/\avsOf u.cells.toList=some z:=by
 simp only [tyZero,Option.bind_eq_some_iff] at h;obtain ⟨i,hi,u,hu,hz⟩:=h;exact ⟨u,by simp [zeroValue,run_typeInfo hi,hu],hz⟩
theorem HR.row (hH:HR D φ H w) {b:Nat} {k:Blk} (hb:H b=some k) (hm:k.mp=none) {o z:Nat} (hz:(cellsAt k.cells o z).length=z):
 ∃us:List Value,(loadCells ⟨φ.blk b,φ.off b+o,none⟩ z).run P w= .ok us.toArray w/\All2 D φ (cellsAt k.cells o z) us:=by
 obtain ⟨_,⟨⟨cs,elem,fr,h1,h2,_,_⟩,_⟩⟩:=hH.at_ b k hb;have h1:=h1.cells hm;by_cases h0:z=0
 ·subst h0;exact ⟨[],by simp [loadCells,loadCellsFrom],by simp [cellsAt];exact .nil⟩
 ·have hz':=hz;simp [cellsAt] at hz;have hin: ∀i,i<k.cells.length->φ.off b+i<cs.size:=fun i hi=>by
   obtain ⟨u,hu,_⟩:=h2 i _ (List.getElem?_eq_getElem hi);rcases Nat.lt_or_ge (φ.off b+i) cs.size with h'|h'
   ·exact h'
   ·rw [Array.getElem?_eq_none h'] at hu;cases hu
  have hle:φ.off b+o+z<=cs.size:=by have:=hin (o+z-1) (by omega);omega
  refine ⟨(cs.toList.drop (φ.off b+o)).take z,run_loadCells h1 hle,by rw [hz'];simp;omega,fun i a u ha hu=> ?_⟩
  simp only [cellsAt,List.getElem?_take,List.getElem?_drop] at ha hu;split at ha
  ·rename_i hi;rw [if_pos hi] at hu;obtain ⟨u',hu',hr⟩:=h2 (o+i) a ha;rw [Array.getElem?_toList,show φ.off b+o+i=φ.off b+(o+i) by omega,hu'] at hu
   cases hu;exact hr
  ·cases ha
theorem HR.cell (hH:HR D φ H w) {b:Nat} {k:Blk} (hb:H b=some k) (hm:k.mp=none) {o:Nat} {v:AV} (hv:k.cells[o]? =some v):
 ∃u,(load ⟨φ.blk b,φ.off b+o,none⟩).run P w= .ok u w/\VRel D φ v u:=by
 obtain ⟨_,⟨⟨cs,elem,fr,h1,h2,_,_⟩,_⟩⟩:=hH.at_ b k hb;have h1:=h1.cells hm;obtain ⟨u,hu,hr⟩:=h2 o v hv;exact ⟨u,run_load_at h1 hu,hr⟩
theorem HR.frow (hH:HR D φ H w) {l:List AV} {B o z k:Nat} {vs:Array Value} (hB:φ.fz B=some vs) (hs: ∀i,i<l.length->o+i<vs.size) (h: ∀(i:Nat) (a:AV) (u:Value),l[i]? =some a->vs[o+i]? =some u->VRel D φ a u) (hz:(cellsAt l k z).length=z):
 ∃us:List Value,(loadCells ⟨B,o+k,none⟩ z).run P w= .ok us.toArray w/\All2 D φ (cellsAt l k z) us:=by
 obtain ⟨elem,fr,h1⟩:=hH.fz B vs hB;by_cases h0:z=0
 ·subst h0;exact ⟨[],by simp [loadCells,loadCellsFrom],by simp [cellsAt];exact .nil⟩
 ·have hz':=hz;simp [cellsAt] at hz;have hle:o+k+z<=vs.size:=by have:=hs (k+z-1) (by omega);omega
  refine ⟨(vs.toList.drop (o+k)).take z,run_loadCells h1 hle,by rw [hz'];simp;omega,fun i a u ha hu=> ?_⟩
  simp only [cellsAt,List.getElem?_take,List.getElem?_drop] at ha hu;split at ha
  ·rename_i hi;rw [if_pos hi] at hu;rw [Array.getElem?_toList,show o+k+i=o+(k+i) by omega] at hu
   exact h (k+i) a u ha hu
  ·cases ha
theorem HR.fcell (hH:HR D φ H w) {l:List AV} {B o k:Nat} {vs:Array Value} (hB:φ.fz B=some vs) (hs: ∀i,i<l.length->o+i<vs.size) (h: ∀(i:Nat) (a:AV) (u:Value),l[i]? =some a->vs[o+i]? =some u->VRel D φ a u) {v:AV} (hv:l[k]? =some v):
 ∃u,(load ⟨B,o+k,none⟩).run P w= .ok u w/\VRel D φ v u:=by
 obtain ⟨elem,fr,h1⟩:=hH.fz B vs hB;have hk:k<l.length:=by
  rcases Nat.lt_or_ge k l.length with h'|h'
  ·exact h'
  ·rw [List.getElem?_eq_none h'] at hv;cases hv
 have hu:vs[o+k]? =some (vs[o+k]'(hs k hk)):=Array.getElem?_eq_getElem (hs k hk);exact ⟨vs[o+k]'(hs k hk),run_load_at h1 hu,h k v _ hv hu⟩
theorem only_get {h:Hp} {rd:List Nat} {b:Nat} (hb:inl rd b=true):only (hget h) rd b=hget h b:=by simp [only,hb]
theorem oneAll_spec: ∀{xs:List AV} {us:List Value},oneAll xs=true->All2 D φ xs us-> ∀u∈us,u.oneCell'=true
 |[],us,_,h,u,hu=>by rw [h.unnil] at hu;cases hu
 |x::xs,us,ho,h,u,hu=>by
  obtain ⟨u0,us',rfl,h1,h2⟩:=h.uncons;simp only [oneAll,Bool.and_eq_true] at ho;rcases List.mem_cons.1 hu with rfl|hu
  ·exact h1.one ho.1
  ·exact oneAll_spec ho.2 h2 u hu
theorem HR.stores (hH:HR D φ H w) {b:Nat} {k:Blk} (hb:H b=some k) (hm:k.mp=none) (hro:k.ro=false) {o:Nat} {xs:List AV} {us:List Value} (hxs:All2 D φ xs us) (hone:oneAll xs=true)
 (hle:o+xs.length<=k.cells.length):
 ∃w' cs cs' elem fr,(storeCells ⟨φ.blk b,φ.off b+o,none⟩ us 0).run P w= .ok () w'/\w.heap[φ.blk b]? =some (.cells cs elem fr)/\w'.heap=w.heap.setIfInBounds (φ.blk b) (.cells cs' elem fr)∧
  w'.os=w.os/\w'.tape=w.tape/\w'.output=w.output/\cs'.size=cs.size∧
  ∀(i:Nat) (v:AV),(splice k.cells o xs)[i]? =some v-> ∃u,cs'[φ.off b+i]? =some u/\VRel D φ v u:=by
 obtain ⟨_,⟨⟨cs,elem,⟨lo,hi⟩,h1,h2,h3,_⟩,_⟩⟩:=hH.at_ b k hb;have h1:=h1.cells hm;have hfr:=(h3 hro).2;generalize φ.off b=f at*;have hin: ∀i,i<k.cells.length->f+i<cs.size:=fun i hi=>by
  obtain ⟨u,hu,_⟩:=h2 i _ (List.getElem?_eq_getElem hi);rcases Nat.lt_or_ge (f+i) cs.size with h'|h'
  ·exact h'
  ·rw [Array.getElem?_eq_none h'] at hu;cases hu
 have hlen:us.length=xs.length:=hxs.1.symm;have hsz:f+o+us.length<=cs.size\/us.length=0:=by
  by_cases he:us.length=0
  ·exact .inr he
  ·left;have:=hin (o+us.length-1) (by omega);omega
 by_cases he:us.length=0
 ·have hu:us=[]:=List.eq_nil_of_length_eq_zero he;have hx:xs=[]:=List.eq_nil_of_length_eq_zero (by omega)
  subst hu;subst hx;refine ⟨w,cs,cs,elem,(lo,hi),by simp [storeCells],h1,?_,rfl,rfl,rfl,rfl,fun i v hv=> ?_⟩
  ·apply Array.ext_getElem?;intro d;rw [getElem?_setIfInBounds' (hH.at_ b k hb).2.lt];split
   ·rename_i e;subst e;exact h1
   ·rfl
  ·simp [splice] at hv;obtain ⟨u,hu,hr⟩:=h2 i v hv;exact ⟨u,hu,hr⟩
 ·have hle':f+o+us.length<=cs.size:=hsz.resolve_right he;obtain ⟨w',hr,ho,ht,hou,hh⟩:= @run_storeCells P (φ.blk b) (f+o) elem lo hi us 0 w cs h1 (fun j hj=>hfr j (.inl hj)) (by omega) (oneAll_spec hone hxs)
  refine ⟨w',cs,_,elem,(lo,hi),hr,h1,hh,ho,ht,hou,by simp;omega,fun i v hv=> ?_⟩
  simp only [Nat.add_zero];simp only [splice,List.getElem?_append,List.length_append,List.length_take,List.getElem?_take,List.getElem?_drop] at hv;have hl:cs.toList.length=cs.size:=by simp
  simp only [List.getElem?_toArray,List.getElem?_append,List.length_append,List.length_take,List.getElem?_take,List.getElem?_drop,hl,hlen];have m1:min o k.cells.length=o:=by omega
  have m2:min (f+o) cs.size=f+o:=by omega
  rw [m1] at hv;rw [m2];by_cases c1:i<o+xs.length
  ·rw [if_pos c1] at hv;rw [if_pos (show f+i<f+o+xs.length by omega)]
   by_cases c2:i<o
   ·rw [if_pos c2] at hv;rw [if_pos c2] at hv;rw [if_pos (show f+i<f+o by omega),if_pos (show f+i<f+o by omega)]
    obtain ⟨u,hu,hr⟩:=h2 i v hv;exact ⟨u,by rw [Array.getElem?_toList];exact hu,hr⟩
   ·rw [if_neg c2] at hv;rw [if_neg (show ¬f+i<f+o by omega),show f+i-(f+o)=i-o by omega]
    exact hxs.get hv
  ·rw [if_neg c1] at hv;rw [if_neg (show ¬f+i<f+o+xs.length by omega)]
   have e1:o+xs.length+(i-(o+xs.length))=i:=by omega
   have e2:f+o+xs.length+(f+i-(f+o+xs.length))=f+i:=by omega
   rw [e1] at hv;rw [e2];obtain ⟨u,hu,hr⟩:=h2 i v hv;exact ⟨u,by rw [Array.getElem?_toList];exact hu,hr⟩
/-! ### fills -/
theorem foldl_set (vs:List Value): ∀(k off:Nat) (cs:Array Value),
 ((vs.zipIdx k).foldl (fun (cs:Array Value) (x:Value×Nat)=>cs.setIfInBounds (off+x.2) x.1) cs).toList.length=cs.size∧
 ∀j,((vs.zipIdx k).foldl (fun (cs:Array Value) (x:Value×Nat)=>cs.setIfInBounds (off+x.2) x.1) cs)[j]? =if off+k<=j/\j<off+k+vs.length/\j<cs.size then vs[j-(off+k)]? else cs[j]? :=by
 induction vs with
 |nil=>intro k off cs;refine ⟨by simp,fun j=> ?_⟩;simp;omega
 |cons v vs ih=>
  intro k off cs;simp only [List.zipIdx_cons,List.foldl_cons];obtain ⟨h1,h2⟩:=ih (k+1) off (cs.setIfInBounds (off+k) v);refine ⟨by rw [h1];simp,fun j=> ?_⟩
  rw [h2 j];simp only [Array.size_setIfInBounds,List.length_cons];by_cases c1:off+(k+1)<=j/\j<off+(k+1)+vs.length/\j<cs.size
  ·rw [if_pos c1,if_pos (by omega)]
   rw [show j-(off+k)=(j-(off+(k+1)))+1 by omega]
   simp
  ·rw [if_neg c1,Array.getElem?_setIfInBounds];by_cases c2:off+k=j
   ·rw [if_pos c2];by_cases c3:off+k<cs.size
    ·rw [if_pos c3,if_pos (by omega)];simp [c2]
    ·rw [if_neg c3,if_neg (by omega)]
     rw [Array.getElem?_eq_none (by omega)]
   ·rw [if_neg c2];rw [if_neg (by omega)]
theorem fill_rel {place:Nat->Option (Nat×Nat)}: ∀{ps:List (Nat×Nat×AV)} {qs:List (Nat×Value)} {z z':List AV} {cs:Array Value},
 All2 D φ z cs.toList->ps.length=qs.length->(∀(j:Nat) a q,ps[j]? =some a->qs[j]? =some q->place q.1=some (a.1,a.2.1)/\VRel D φ a.2.2 q.2)->fills z ps=some z'→
 ∃cs',Instr.fill place cs qs=some cs'/\All2 D φ z' cs'.toList
 |[],qs,z,z',cs,hz,hl,_,hf=>by
  have:qs=[]:=List.eq_nil_of_length_eq_zero (by simpa using hl.symm)
  subst this;simp [fills] at hf;subst hf;exact ⟨cs,rfl,hz⟩
 |(o,sz,v)::ps,[],z,z',cs,hz,hl,_,hf=>by simp at hl
 |(o,sz,v)::ps,(i,u)::qs,z,z',cs,hz,hl,hp,hf=>by
  obtain ⟨hpl,hvu⟩:=hp 0 _ _ rfl rfl;simp only at hpl hvu;simp only [fills] at hf;by_cases hcond:(Nat.beq v.cells.length sz&&Nat.ble (o+sz) z.length&& !v.isAny)=true
  ·rw [hcond,cond_true] at hf;rw [Bool.and_eq_true,Bool.and_eq_true] at hcond;have hc:=hvu.cells (by simpa using hcond.2)
   have hcond:=hcond.1;have e1:v.cells.length=sz:=Nat.eq_of_beq_eq_true hcond.1;have e2:o+sz<=z.length:=Nat.le_of_ble_eq_true hcond.2;have hus:u.cells.size=sz:=by have:=hc.1;simp at this;omega
   have hcs:cs.size=z.length:=by have:=hz.1;simp at this;omega
   simp only [Instr.fill,hpl];rw [if_neg (by simp [hus];omega)]
   refine fill_rel (z:=splice z o v.cells) (cs:=_) ?_ (by simpa using hl) (fun j a q ha hq=>hp (j+1) a q (by simpa using ha) (by simpa using hq)) hf
   have hfs:=foldl_set u.cells.toList 0 o cs;have e3:(u.cells.zipIdx.foldl (fun (cs:Array Value) (x:Value×Nat)=>cs.setIfInBounds (o+x.2) x.1) cs)=((u.cells.toList.zipIdx 0).foldl (fun (cs:Array Value) (x:Value×Nat)=>cs.setIfInBounds (o+x.2) x.1) cs):=by
    rw [<-Array.foldl_toList];simp
   rw [e3];refine ⟨by rw [hfs.1];simp [splice];omega,fun j a y ha hy=> ?_⟩
   rw [Array.getElem?_toList,hfs.2 j] at hy;simp only [Nat.add_zero,Array.length_toList] at hy;simp only [splice,List.getElem?_append,List.length_append,List.length_take,List.getElem?_take,List.getElem?_drop,show min o z.length=o by omega] at ha
   by_cases c1:j<o
   ·rw [if_pos (by omega),if_pos c1,if_pos c1] at ha
    rw [if_neg (by omega)] at hy
    exact hz.2 j a y ha (by simpa using hy)
   ·by_cases c2:j<o+v.cells.length
    ·rw [if_pos c2,if_neg c1] at ha;rw [if_pos (by omega)] at hy
     exact hc.2 (j-o) a y ha (by simpa using hy)
    ·rw [if_neg c2,show o+v.cells.length+(j-(o+v.cells.length))=j by omega] at ha
     rw [if_neg (by omega)] at hy
     exact hz.2 j a y ha (by simpa using hy)
  ·rw [Bool.not_eq_true] at hcond;rw [hcond] at hf;simp at hf
theorem zeros_rel {z:List AV} {cs:Array Value} (hz:All2 D φ z cs.toList): ∀n,All2 D φ (zeros z n) ((Array.range (n*cs.size)).map (fun i=>cs[i % cs.size]!)).toList:=by
 intro n;refine ⟨?_,fun i a u ha hu=> ?_⟩
 ·simp;induction n with
  |zero=>simp [zeros]
  |succ n ih=>simp [zeros,ih,Nat.succ_mul,hz.1];omega
 ·have hu':i<n*cs.size/\u=cs[i % cs.size]! :=by
   simp only [Array.toList_map,List.getElem?_map,Array.toList_range,Option.map_eq_some_iff] at hu;obtain ⟨j,hj,rfl⟩:=hu;have:=List.getElem?_range (n:=n*cs.size) (i:=i);by_cases hi:i<n*cs.size
   ·rw [List.getElem?_range hi] at hj;cases hj;exact ⟨hi,rfl⟩
   ·rw [List.getElem?_eq_none (by simp;omega)] at hj;cases hj
  obtain ⟨hi,rfl⟩:=hu';have hpos:0<cs.size:=by
   rcases Nat.eq_zero_or_pos cs.size with h|h
   ·rw [h] at hi;simp at hi
   ·exact h
  have hlt:=Nat.mod_lt i hpos;have key: ∀n i,i<n*cs.size->(zeros z n)[i]? =z[i % cs.size]? :=by
   intro n;induction n with
   |zero=>intro i hi;simp at hi
   |succ n ih=>
    intro i hi;have hl:z.length=cs.size:=by have:=hz.1;simpa using this
    simp only [zeros,List.getElem?_append,hl];split
    ·rename_i h;rw [Nat.mod_eq_of_lt h]
    ·rename_i h;rw [ih _ (by rw [Nat.succ_mul] at hi;omega)]
     rw [Nat.mod_eq_sub_mod (by omega) (a:=i)]
  rw [key n i hi] at ha;exact hz.2 (i % cs.size) a _ ha (by simp [hlt])
end
end Go.Ab
namespace Go.Ab
section
variable {P:Program} {D:Nat->Prop} {φ:Phi} {w:World} {n:Nat} {e:Env} {h:Hp} {E:Eff} {ρ:Operand->Value}
def OK1 (D:Nat->Prop) (φ:Phi) (e:Env) (h:Hp) (x:Opd) (u:Value):Prop:= ∀v,x.ev e h=some v->VRel D φ v u
theorem evs_rel: ∀{ys:List Operand} {xs:List Opd} {vs:List AV},cOs ys=some xs->evs e h xs=some vs→
 (∀y∈ys,∀x,cO y=some x->OK1 D φ e h x (ρ y))->All2 D φ vs (ys.map ρ)
 |[],xs,vs,h1,h2,_=>by simp [cOs] at h1;subst h1;simp [evs] at h2;subst h2;exact .nil
 |y::ys,xs,vs,h1,h2,hk=>by
  simp only [cOs,Option.bind_eq_some_iff] at h1;obtain ⟨x,hx,xs',hxs,h1⟩:=h1;cases h1;simp only [evs,Option.bind_eq_some_iff] at h2;obtain ⟨v,hv,vs',hvs,h2⟩:=h2;cases h2;exact .cons (hk y (List.mem_cons_self) x hx v hv) (evs_rel hxs hvs (fun y hy=>hk y (List.mem_cons_of_mem _ hy)))
theorem pe_inv {v:AV} {c:Bool} (hs:pe v n=some (c,E)):c=true/\E={v,n}:=by
 simp only [pe,Option.some.injEq,Prod.mk.injEq] at hs;exact ⟨hs.1.symm,hs.2.symm⟩
theorem snd_pure {v:AV} {c:Bool} {r:Result Next} {u:Value} (hs:pe v n=some (c,E)) (hH:HR D φ (only (hget h) E.rd) w) (hr:r= .ok (.value u) w) (hv:VRel D φ v u):
 Sim P D φ (only (hget h) E.rd) w n E r:=by
 obtain ⟨_,rfl⟩:=pe_inv hs;exact Sim.pure hr hH hv
theorem snd_pure' {v:AV} {rd:List Nat} {r:Result Next} {u:Value} (hE:E={v,n,rd}) (hH:HR D φ (only (hget h) E.rd) w) (hr:r= .ok (.value u) w) (hv:VRel D φ v u):
 Sim P D φ (only (hget h) E.rd) w n E r:=by
 subst hE;exact Sim.pure hr hH hv
theorem snd_mv {x:Opd} {u:Value} {c:Bool} (hs:step (.mv x) e h n=some (c,E)) (hx:OK1 D φ e h x u) (hH:HR D φ (only (hget h) E.rd) w):
 Sim P D φ (only (hget h) E.rd) w n E ((pure (.value u):Sem Next).run P w):=by
 simp only [step,Option.bind_eq_some_iff] at hs;obtain ⟨v,hv,hs⟩:=hs;exact snd_pure hs hH rfl (hx v hv)
theorem snd_pick {c a b:Opd} {uc ua ub:Value} {cc:Bool} (hs:step (.pick c a b) e h n=some (cc,E)) (hc:OK1 D φ e h c uc) (ha:OK1 D φ e h a ua) (hb:OK1 D φ e h b ub) (hH:HR D φ (only (hget h) E.rd) w):
 Sim P D φ (only (hget h) E.rd) w n E ((do pure (.value (if <-asBool uc then ua else ub)):Sem Next).run P w):=by
 simp only [step,Option.bind_eq_some_iff] at hs;obtain ⟨v,hv,hs⟩:=hs;have hcv:=hc v hv;split at hs
 ·simp only [Option.bind_eq_some_iff] at hs;obtain ⟨x,hx,hs⟩:=hs;cases hcv;exact snd_pure hs hH (by simp [asBool]) (ha x hx)
 ·simp only [Option.bind_eq_some_iff] at hs;obtain ⟨x,hx,hs⟩:=hs;cases hcv;exact snd_pure hs hH (by simp [asBool]) (hb x hx)
 ·cases hs
theorem All2.push {z:List AV} {cs:Array Value} (hz:All2 D φ z cs.toList): ∀(i:Nat) (v:AV),z[i]? =some v-> ∃u,cs[i]? =some u/\VRel D φ v u:=fun i v hv=>by
 obtain ⟨u,hu,hr⟩:=hz.get hv;exact ⟨u,by simpa using hu,hr⟩
theorem run_newRow (t:TypeId) (cs:Array Value) (w:World):(newRow t cs).run P w= .ok ⟨w.heap.size,0,none⟩ {w with heap:=w.heap.push (.cells cs t)}:=by
 simp [newRow]
theorem ptr_new {m cap esz:Nat}:VRel (Dn D n (n+1)) (φ.set n m cap esz) (.p n 0) (.pointer (some ⟨m,0,none⟩)):=by
 have:=VRel.p (D:=Dn D n (n+1)) (φ:=φ.set n m cap esz) n 0 (.inr ⟨Nat.le_refl _,Nat.lt_succ_self _⟩);simpa [Phi.set] using this
theorem sl_new {m cap esz l c:Nat}:VRel (Dn D n (n+1)) (φ.set n m cap esz) (.sl n 0 l c) (.slice (some ⟨m,0,none⟩) l c):=by
 have:=VRel.sl (D:=Dn D n (n+1)) (φ:=φ.set n m cap esz) n 0 l c (.inr ⟨Nat.le_refl _,Nat.lt_succ_self _⟩);simpa [Phi.set] using this
theorem sg_new {m cap esz l:Nat} (hl:l<=cap):VRel (Dn D n (n+1)) (φ.set n m cap esz) (.sg n 0 l) (.slice (some ⟨m,0,none⟩) l cap):=by
 have:=VRel.sg (D:=Dn D n (n+1)) (φ:=φ.set n m cap esz) n 0 l 0 cap (.inr ⟨Nat.le_refl _,Nat.lt_succ_self _⟩) (by simp) (by simp [Phi.set]) hl
 simpa [Phi.set] using this
theorem snd_new {z:List AV} {t:TypeId} {c:Bool} (hs:step (.new z) e h n=some (c,E)) (hz:tyZero P t=some z) (hn:n<E.n-> ¬D n) (hH:HR D φ (only (hget h) E.rd) w):
 Sim P D φ (only (hget h) E.rd) w n E ((do pure (Next.value (<-Instr.alloc t true (.tuple #[]))):Sem Next).run P w):=by
 simp only [step,Option.some.injEq,Prod.mk.injEq] at hs;obtain ⟨_,rfl⟩:=hs;obtain ⟨u,hu,hz'⟩:=run_zero hz w;refine Sim.alloc (g:=none) (cap:=0) (esz:=0) (cs:=u.cells) (elem:=t) (fr:=(0,0)) (w':={w with heap:=w.heap.push (.cells u.cells t)}) (u:= .pointer (some ⟨w.heap.size,0,none⟩)) ?_ hH (hn (Nat.lt_succ_self _)) rfl rfl rfl rfl (avsOf_rel hz').push (fun i _=>by simp) (fun e he=>by cases he) ptr_new
 simp [Instr.alloc,hu,newVar,run_newRow]
theorem snd_box {x:Opd} {u:Value} {t:TypeId} {c:Bool} (hs:step (.box x) e h n=some (c,E)) (hc:c=true) (hx:OK1 D φ e h x u) (hn:n<E.n-> ¬D n) (hH:HR D φ (only (hget h) E.rd) w):
 Sim P D φ (only (hget h) E.rd) w n E ((do pure (Next.value (<-Instr.box t u)):Sem Next).run P w):=by
 simp only [step,Option.bind_eq_some_iff,Option.some.injEq,Prod.mk.injEq] at hs;obtain ⟨v,hv,hna,rfl⟩:=hs;have hna:v.isAny=false:=by rw [hc] at hna;simpa using hna
 refine Sim.alloc (g:=none) (cap:=0) (esz:=0) (cs:=u.cells) (elem:=t) (fr:=(0,0)) (w':={w with heap:=w.heap.push (.cells u.cells t)}) (u:= .pointer (some ⟨w.heap.size,0,none⟩)) ?_ hH (hn (Nat.lt_succ_self _)) rfl rfl rfl rfl ((hx v hv).cells hna).push (fun i _=>by simp) (fun e he=>by cases he) ptr_new
 simp [Instr.box,newVar,run_newRow]
theorem run_loadAt_one {t:TypeId} {a:Addr} {y:Value} (hg:tyAgg P t=some false) (hy:(load a).run P w= .ok y w):(Instr.loadAt t (.pointer (some a))).run P w= .ok y w:=by
 simp only [Instr.loadAt,Instr.sureAddr,loadVar,Sem.run_bind,Sem.run_pure,Result.andThen_ok,run_isAgg hg,Bool.false_eq_true,if_false];exact hy
theorem run_loadAt_agg {t:TypeId} {a:Addr} {z:Nat} {us:Array Value} (hg:tyAgg P t=some true) (hz:tySz P t=some z) (hy:(loadCells a z).run P w= .ok us w):(Instr.loadAt t (.pointer (some a))).run P w= .ok (.agg us) w:=by
 simp only [Instr.loadAt,Instr.sureAddr,loadVar,Sem.run_bind,Sem.run_pure,Result.andThen_ok,run_isAgg hg,if_true,run_sizeOf hz];rw [hy];rfl
theorem snd_ld {agg:Bool} {z:Nat} {a:Opd} {u:Value} {t:TypeId} {c:Bool} (hs:step (.ld agg z a) e h n=some (c,E)) (hc:c=true) (hg:tyAgg P t=some agg) (hz:tySz P t=some z) (ha:OK1 D φ e h a u)
 (hH:HR D φ (only (hget h) E.rd) w):Sim P D φ (only (hget h) E.rd) w n E ((do pure (Next.value (<-Instr.loadAt t u)):Sem Next).run P w):=by
 simp only [step,Option.bind_eq_some_iff] at hs;obtain ⟨v,hv,hs⟩:=hs;have hr:=ha v hv;split at hs
 ·rename_i b o;simp only [Option.bind_eq_some_iff] at hs;obtain ⟨k,hk,hs⟩:=hs;cases hr;cases agg
  ·simp only [Option.bind_eq_some_iff,Option.some.injEq,Prod.mk.injEq] at hs;obtain ⟨x,hx,_,rfl⟩:=hs;obtain ⟨hk,hmp⟩:=hgc_some hk;have hkk:only (hget h) [b] b=some k:=by rw [only_get (by simp [inl])];exact hk
   obtain ⟨y,hy,hyr⟩:=HR.cell (P:=P) hH hkk hmp hx;exact snd_pure' rfl hH (by rw [run_v,run_loadAt_one hg hy];rfl) hyr
  ·simp only [Option.some.injEq,Prod.mk.injEq] at hs;obtain ⟨h1,rfl⟩:=hs;rw [hc] at h1;obtain ⟨hk,hmp⟩:=hgc_some hk;have hkk:only (hget h) [b] b=some k:=by rw [only_get (by simp [inl])];exact hk
   obtain ⟨us,hy,hyr⟩:=HR.row (P:=P) hH hkk hmp (of_decide_eq_true h1);exact snd_pure' rfl hH (by rw [run_v,run_loadAt_agg hg hz hy];rfl) (VRel.agg' hyr)
 ·rename_i l o;cases hr with
  |fp _ _ B o' vs hB hsz hl=>
  cases agg
  ·simp only [Option.bind_eq_some_iff,Option.some.injEq,Prod.mk.injEq] at hs;obtain ⟨x,hx,_,rfl⟩:=hs;obtain ⟨y,hy,hyr⟩:=HR.fcell (P:=P) hH hB hsz hl hx;exact snd_pure' rfl hH (by rw [run_v,run_loadAt_one hg hy];rfl) hyr
  ·simp only [Option.some.injEq,Prod.mk.injEq] at hs;obtain ⟨h1,rfl⟩:=hs;rw [hc] at h1;obtain ⟨us,hy,hyr⟩:=HR.frow (P:=P) hH hB hsz hl (of_decide_eq_true h1);exact snd_pure' rfl hH (by rw [run_v,run_loadAt_agg hg hz hy];rfl) (VRel.agg' hyr)
 ·cases hs
theorem snd_st {z:Nat} {a x:Opd} {u y:Value} {t:TypeId} {c:Bool} (hs:step (.st z a x) e h n=some (c,E)) (hc:c=true) (hz:tySz P t=some z) (ha:OK1 D φ e h a u) (hx:OK1 D φ e h x y)
 (hH:HR D φ (only (hget h) E.rd) w):Sim P D φ (only (hget h) E.rd) w n E ((do Instr.storeAt t u y;pure Next.skip:Sem Next).run P w):=by
 simp only [step,Option.bind_eq_some_iff] at hs;obtain ⟨v,hv,hs⟩:=hs;have hr:=ha v hv;split at hs
 ·rename_i b o;simp only [Option.bind_eq_some_iff] at hs;obtain ⟨k,hk,y',hy,hs⟩:=hs;have hyr:=hx y' hy;cases hr;split at hs
  ·cases hs
  ·rename_i hro;simp only [Option.some.injEq,Prod.mk.injEq] at hs;obtain ⟨h1,rfl⟩:=hs;rw [hc] at h1;simp only [Bool.and_eq_true,decide_eq_true_eq] at h1;obtain ⟨⟨h2,h3⟩,h4⟩:=h1;have h3:=Nat.eq_of_beq_eq_true h3;obtain ⟨hk,hmp⟩:=hgc_some hk;have hkk:only (hget h) [b] b=some k:=by rw [only_get (by simp [inl])];exact hk
   have hna:y'.isAny=false:=by cases y'<;>first|rfl|simp [AV.cells,oneAll,AV.one] at h2
   obtain ⟨w',cs,cs',elem,fr,g1,g2,g3,g4,g5,g6,g7,g8⟩:=HR.stores (P:=P) hH hkk hmp hro (hyr.cells hna) h2 (by rw [h3];exact h4)
   have hsz:y.cells.size=z:=by have:=(hyr.cells hna).1;simp at this;omega
   refine Sim.write (nx:= .skip) (u:=undef) ?_ (.inr ⟨rfl,rfl⟩) (VRel.tup [] #[] rfl (fun i a u ha=>by simp at ha)) (by simp [inl]) hH hkk hro g2 g3 g4 g5 g6 g7 g8
   simp [Instr.storeAt,Instr.sureAddr,storeVar,run_sizeOf hz,hsz,g1]
 ·cases hs
theorem snd_nck {x:Opd} {u:Value} {c:Bool} (hs:step (.nck x) e h n=some (c,E)) (hx:OK1 D φ e h x u) (hH:HR D φ (only (hget h) E.rd) w) {o:Oper} {y:Operand} (ho:o.op= .nilCheck y) (hy:ρ y=u):
 Sim P D φ (only (hget h) E.rd) w n E ((execOp ρ o).run P w):=by
 simp only [step,Option.bind_eq_some_iff] at hs;obtain ⟨v,hv,hs⟩:=hs;have hr:=hx v hv;split at hs
 ·refine snd_pure (u:=u) hs hH ?_ hr;cases hr;simp [execOp,ho,hy]
 ·refine snd_pure (u:=u) hs hH ?_ hr;cases hr;simp [execOp,ho,hy]
 ·refine snd_pure (u:=u) hs hH ?_ hr;cases hr;simp [execOp,ho,hy]
 ·refine snd_pure (u:=u) hs hH ?_ hr;cases hr;simp [execOp,ho,hy]
 ·cases hs
theorem wf_toList (l:List UInt8):(ByteArray.mk l.toArray).toList=l:=by
 rw [ByteArray.toList_eq]
theorem size_mk (l:List UInt8):(ByteArray.mk l.toArray).size=l.length:=by simp [ByteArray.size]
theorem append_mk (a b:List UInt8):(ByteArray.mk a.toArray)++(ByteArray.mk b.toArray)=ByteArray.mk (a++b).toArray:=by
 apply ByteArray.ext;simp
theorem bin_rel {op:BinOp} {a b:AV} {x y:Value} {t:TypeId} {r:Bool×AV} (hb:bin op a b=some r) (hr:r.1=true) (ha:VRel D φ a x) (hb':VRel D φ b y):
 ∃u,(binOp op t x y).run P w= .ok u w/\VRel D φ r.2 u:=by
 unfold bin at hb;split at hb
 ·rename_i k m k' m';cases ha;cases hb';split at hb
  ·simp only [shI,Option.some.injEq] at hb;subst hb;have h0:0<=m':=of_decide_eq_true hr;refine ⟨_,?_,.i _ _⟩;simp [binOp,Op.shift,show ¬m'<0 by omega,Nat.min_def]
  ·simp only [shI,Option.some.injEq] at hb;subst hb;have h0:0<=m':=of_decide_eq_true hr;refine ⟨_,?_,.i _ _⟩;simp [binOp,Op.shift,show ¬m'<0 by omega,Nat.min_def]
  ·rename_i hn1 hn2;split at hb
   ·rename_i hk;subst hk;cases op<;>simp only [binI,Option.some.injEq,reduceCtorEq] at hb<;>subst hb<;>
     first
      |(refine ⟨_,?_,.b _⟩;simp [binOp,Op.intArith,Op.intBits,Op.intCmp];done)
      |(refine ⟨_,?_,.i _ _⟩;simp [binOp,Op.intArith,Op.intBits,Op.intCmp];done)
      |(have h0: ¬m'=0:=by simpa using hr
        refine ⟨_,?_,.i _ _⟩;simp [binOp,Op.intDiv,h0];done)
   ·cases hb
 ·cases ha;cases hb';rename_i l m;cases op<;>simp only [binS,Option.some.injEq,reduceCtorEq] at hb<;>subst hb
  ·have h0:=of_decide_eq_true hr;refine ⟨.string ⟨(l++m).toArray⟩,?_,.s _⟩;simp only [binOp,Op.stringOp,size_mk];rw [if_neg (by simp [IntKind.max,IntKind.signed,IntKind.bits];omega)]
   simp [append_mk]
  all_goals exact ⟨_,by simp [binOp,Op.stringOp,wf_toList],.b _⟩
 ·cases hb
theorem run_eqGuard_of {op:BinOp} {t:TypeId} {x y:Operand} {a b:Value} (hg:(∀xs,a≠ .agg xs)\/P.eqGuardType P.depth t=false) (hi:a≠ .nilIface):(eqGuard op t x y a b).run P w= .ok () w:=by
 cases a with
 |nilIface=>exact absurd rfl hi
 |agg xs=>
  have hg':P.eqGuardType P.depth t=false:=hg.resolve_left (fun h=>h xs rfl);cases op<;>cases b<;>simp [eqGuard,hg']
 |_=>cases op<;>simp [eqGuard]
theorem bin_kind {op:BinOp} {a b:AV} {x y:Value} {r:Bool×AV} (hb:bin op a b=some r) (ha:VRel D φ a x):(∀xs,x≠ .agg xs)/\x≠ .nilIface:=by
 unfold bin at hb;split at hb<;>first|(cases hb;done)|(cases ha;exact ⟨fun xs=>by simp,by simp⟩)
theorem snd_bin {op:BinOp} {x y:Opd} {a b:Value} {t:TypeId} {xo yo:Operand} {c:Bool} (hs:step (.bin op x y) e h n=some (c,E)) (hc:c=true) (hx:OK1 D φ e h x a) (hy:OK1 D φ e h y b) (hH:HR D φ (only (hget h) E.rd) w):
 Sim P D φ (only (hget h) E.rd) w n E ((do pure (Next.value (<-(do eqGuard op t xo yo a b;binOp op t a b))):Sem Next).run P w):=by
 simp only [step,Option.bind_eq_some_iff,Option.some.injEq,Prod.mk.injEq] at hs;obtain ⟨v,hv,v',hv',r,hr,h1,rfl⟩:=hs;obtain ⟨u,hu,hur⟩:=bin_rel (P:=P) (w:=w) (t:=t) hr (h1.trans hc) (hx v hv) (hy v' hv');have hk:=bin_kind (y:=b) hr (hx v hv);exact snd_pure' (rd:=[]) rfl hH (by simp [run_eqGuard_of (.inl hk.1) hk.2,hu]) hur
/-! ### equality -/
def kdTy (P:Program) (t:TypeId):Kd->Prop
 | .b=>P.underlying t=some .bool
 | .i=> ∃j,P.underlying t=some (.int j)
 | .s=>P.underlying t=some .string
theorem eq1_rel {k:Kd} {a b:AV} {r:Bool} {t:TypeId} {x y:Value} {d:Nat} (hr:eq1 k a b=some r)
 (hk:kdTy P t k)
 (ha:VRel D φ a x) (hb:VRel D φ b y):(Op.equalIn (d+1) t x y).run P w= .ok r w:=by
 unfold eq1 at hr;split at hr
 ·cases hr;cases ha;cases hb;exact run_equalIn_bool' _ _ _ _ _ hk
 ·by_cases e: ‹IntKind› = ‹IntKind›
  ·rename_i k x k' y;by_cases e:k=k'
   ·subst e;simp only [if_true,Option.some.injEq] at hr;subst hr;cases ha;cases hb;obtain ⟨j,hk⟩:=hk;exact run_equalIn_int _ _ _ _ j _ _ hk
   ·rw [if_neg e] at hr;cases hr
  ·exact absurd rfl e
 ·cases hr;cases ha;cases hb;rw [run_equalIn_string _ _ _ _ _ hk];simp [wf_toList]
 ·cases hr
theorem eqs_nil {xs ys:List AV} {r:Bool} (h:eqs [] xs ys=some r):r=true:=by
 cases xs<;>cases ys<;>simp [eqs] at h;exact h
theorem eqs_append: ∀{ks ks':List Kd} {xs ys:List AV} {r:Bool},eqs (ks++ks') xs ys=some r→
 ∃r1 r2,eqs ks (xs.take ks.length) (ys.take ks.length)=some r1/\eqs ks' (xs.drop ks.length) (ys.drop ks.length)=some r2/\r=(r1&&r2)
 |[],ks',xs,ys,r,h=>⟨true,r,rfl,by simpa using h,by simp⟩
 |k::ks,ks',[],ys,r,h=>by cases ys<;>simp [eqs] at h
 |k::ks,ks',x::xs,[],r,h=>by simp [eqs] at h
 |k::ks,ks',x::xs,y::ys,r,h=>by
  simp only [List.cons_append,eqs,Option.bind_eq_some_iff,Option.some.injEq] at h;obtain ⟨a,ha,b,hb,rfl⟩:=h;obtain ⟨r1,r2,h1,h2,rfl⟩:=eqs_append hb;exact ⟨a&&r1,r2,by simp [eqs,ha,h1],by simpa using h2,by simp [Bool.and_assoc]⟩
theorem eqs_length: ∀{ks:List Kd} {xs ys:List AV} {r:Bool},eqs ks xs ys=some r->xs.length=ks.length/\ys.length=ks.length
 |[],[],[],_,_=>⟨rfl,rfl⟩
 |[],[],_::_,_,h=>by simp [eqs] at h
 |[],_::_,_,_,h=>by simp [eqs] at h
 |_::_,[],ys,_,h=>by cases ys<;>simp [eqs] at h
 |_::_,_::_,[],_,h=>by simp [eqs] at h
 |k::ks,x::xs,y::ys,r,h=>by
  simp only [eqs,Option.bind_eq_some_iff] at h;obtain ⟨a,ha,b,hb,_⟩:=h;have:=eqs_length hb;simp [this.1,this.2]
def asTy (P:Program) (t:TypeId) (cs:List Value):Value->Prop:=fun v=>(tyAgg P t=some true/\v= .agg cs.toArray)\/(tyAgg P t=some false/\cs=[v])
theorem run_part {t:TypeId} {cs:Array Value} {off z:Nat} {g:Bool} (hg:tyAgg P t=some g) (hz:tySz P t=some z) (hz1:g=false->z=1) (hle:off+z<=cs.size):
 ∃v,(part t cs off).run P w= .ok v w/\asTy P t ((cs.toList.drop off).take z) v:=by
 cases g
 ·have:=hz1 rfl;subst this;have hlt:off<cs.size:=by omega
  refine ⟨cs[off],?_,.inr ⟨hg,?_⟩⟩
  ·simp only [part,Sem.run_bind,run_isAgg hg,Result.andThen_ok,Bool.false_eq_true,if_false];simp [hlt]
  ·rw [List.drop_eq_getElem_cons (by simpa using hlt)];simp
 ·refine ⟨.agg (cs.extract off (off+z)),?_,.inl ⟨hg,?_⟩⟩
  ·simp only [part,Sem.run_bind,run_isAgg hg,Result.andThen_ok,if_true,run_sizeOf hz,Sem.run_pure]
  ·congr 1;apply Array.ext';simp [List.take_drop]
theorem kdOf_agg {d:Nat} {t:TypeId} {ks:List Kd} (h:kdOf P d t=some ks): ∃g,tyAgg P t=some g/\(g=false->ks.length=1):=by
 cases d with
 |zero=>simp [kdOf] at h
 |succ d=>
  simp only [kdOf] at h;split at h<;>rename_i hu
  ·cases h;exact ⟨false,by simp [tyAgg,hu],fun _=>rfl⟩
  ·cases h;exact ⟨false,by simp [tyAgg,hu],fun _=>rfl⟩
  ·cases h;exact ⟨false,by simp [tyAgg,hu],fun _=>rfl⟩
  ·exact ⟨true,by simp [tyAgg,hu],fun h=>by cases h⟩
  ·exact ⟨true,by simp [tyAgg,hu],fun h=>by cases h⟩
  ·cases h
theorem eqTy: ∀(d:Nat) (t:TypeId) (ks:List Kd),kdOf P d t=some ks-> ∀(dd:Nat),d<=dd-> ∀(xs ys:List AV) (us vs:List Value) (x y:Value) (r:Bool),eqs ks xs ys=some r→
 All2 D φ xs us->All2 D φ ys vs->asTy P t us x->asTy P t vs y->(Op.equalIn dd t x y).run P w= .ok r w
 |0,t,ks,h,_,_,_,_,_,_,_,_,_,_,_,_,_,_=>by simp [kdOf] at h
 |d+1,t,ks,h,dd,hd,xs,ys,us,vs,x,y,r,hr,hxu,hyv,hx,hy=>by
  obtain ⟨dd,rfl⟩: ∃e,dd=e+1:=⟨dd-1,by omega⟩
  have scalar: ∀k,ks=[k]->tyAgg P t=some false->kdTy P t k->(Op.equalIn (dd+1) t x y).run P w= .ok r w:=by
   intro k hk hag hty;subst hk;obtain ⟨hl1,hl2⟩:=eqs_length hr;rcases hx with ⟨h1,_⟩|⟨_,rfl⟩
   ·rw [hag] at h1;cases h1
   rcases hy with ⟨h1,_⟩|⟨_,rfl⟩
   ·rw [hag] at h1;cases h1
   match xs,ys,hl1,hl2 with
   |[a],[b],_,_=>
    simp only [eqs,Option.bind_eq_some_iff,Option.some.injEq] at hr;obtain ⟨r1,h1,r2,h2,rfl⟩:=hr;subst h2;rw [Bool.and_true];exact eq1_rel h1 hty (hxu.2 0 a x rfl rfl) (hyv.2 0 b y rfl rfl)
  simp only [kdOf] at h;split at h<;>rename_i hu
  ·cases h;exact scalar .b rfl (by simp [tyAgg,hu]) hu
  ·cases h;exact scalar .i rfl (by simp [tyAgg,hu]) ⟨_,hu⟩
  ·cases h;exact scalar .s rfl (by simp [tyAgg,hu]) hu
  ·rename_i fs;split at h
   ·rename_i hst;have hag:tyAgg P t=some true:=by simp [tyAgg,hu]
    rcases hx with ⟨_,rfl⟩|⟨h1,_⟩
    ·rcases hy with ⟨_,rfl⟩|⟨h1,_⟩
     ·have hfs:P.fieldsOf t=fs:=by simp [Program.fieldsOf,hu]
      rw [run_equalIn_struct w dd t us.toArray vs.toArray (by rw [hfs];exact hu) hst,hfs]
      have key: ∀(l:List Field) (off:Nat) (ks':List Kd) (r':Bool),kdFields P (kdOf P d) l off=some ks'->off+ks'.length<=us.length->off+ks'.length<=vs.length->eqs ks' ((xs.drop off).take ks'.length) ((ys.drop off).take ks'.length)=some r'→
       (Op.eqFields dd us.toArray vs.toArray l).run P w= .ok r' w:=by
       intro l;induction l with
       |nil=>intro off ks' r' h1 _ _ h2;simp [kdFields] at h1;subst h1;simp [eqs] at h2;subst h2;simp [Op.eqFields]
       |cons f l ih=>
        intro off ks' r' h1 hl1 hl2 h2;simp only [kdFields] at h1;split at h1
        ·rename_i hc;obtain ⟨hname,hoff⟩:=hc;simp only [Option.bind_eq_some_iff] at h1;obtain ⟨k1,hk1,h1⟩:=h1;split at h1
         ·rename_i hsz;obtain ⟨k2,hk2,rfl⟩:=Option.map_eq_some_iff.1 h1;obtain ⟨r1,r2,g1,g2,rfl⟩:=eqs_append h2;obtain ⟨g,hg,hg1⟩:=kdOf_agg hk1;simp only [List.length_append] at hl1 hl2 g1 g2 h2;obtain ⟨v1,p1,q1⟩:=run_part (P:=P) (w:=w) (cs:=us.toArray) (off:=off) hg hsz hg1 (by simp;omega)
          obtain ⟨v2,p2,q2⟩:=run_part (P:=P) (w:=w) (cs:=vs.toArray) (off:=off) hg hsz hg1 (by simp;omega)
          have e1: ∀(m:List AV),((m.drop off).take (k1.length+k2.length)).take k1.length=(m.drop off).take k1.length:=fun m=>by rw [List.take_take];congr 1;omega
          have e2: ∀(m:List AV),((m.drop off).take (k1.length+k2.length)).drop k1.length=(m.drop (off+k1.length)).take k2.length:=fun m=>by rw [List.drop_take,List.drop_drop];congr 1;omega
          rw [e1,e1] at g1;rw [e2,e2] at g2;have hrec:=eqTy d f.type k1 hk1 dd (by omega) _ _ _ _ v1 v2 r1 g1 ((hxu.drop off).take k1.length) ((hyv.drop off).take k1.length) q1 q2
          have hih:=ih (off+k1.length) k2 r2 hk2 (by omega) (by omega) g2
          simp only [Op.eqFields];rw [if_pos hname];simp only [Sem.run_bind,hoff,p1,p2,Result.andThen_ok,hrec];cases r1
          ·simp
          ·simp [hih]
         ·cases h1
        ·cases h1
      have hl:=eqs_length hr;refine key fs.toList 0 ks r h (by rw [<-hxu.1];omega) (by rw [<-hyv.1];omega) ?_
      rw [List.drop_zero,List.drop_zero,<-hl.1,List.take_length,hl.1,<-hl.2,List.take_length];exact hr
     ·rw [hag] at h1;cases h1
    ·rw [hag] at h1;cases h1
   ·cases h
  ·rename_i len el;have hag:tyAgg P t=some true:=by simp [tyAgg,hu]
   rcases hx with ⟨_,rfl⟩|⟨h1,_⟩
   ·rcases hy with ⟨_,rfl⟩|⟨h1,_⟩
    ·simp only [Option.bind_eq_some_iff] at h;obtain ⟨k1,hk1,h⟩:=h;split at h
     ·rename_i hsz;cases h;obtain ⟨g,hg,hg1⟩:=kdOf_agg hk1;simp only [Op.equalIn,Sem.run_bind,run_underlying hu,Result.andThen_ok,run_sizeOf hsz];rw [Std.Legacy.Range.forIn_eq_forIn_range'];have hsize:[:len].size=len:=by simp [Std.Legacy.Range.size]
      show ((Sem.run P (forIn (List.range' 0 [:len].size 1) _ _) w).andThen _)=_;rw [hsize];have hlr:=eqs_length hr;have hrl: ∀m,(kdRep k1 m).length=m*k1.length:=fun m=>by
       induction m with
       |zero=>simp [kdRep]
       |succ m ih=>simp [kdRep,ih,Nat.succ_mul];omega
      have key: ∀(m i:Nat) (r':Bool),i+m=len->eqs (kdRep k1 m) (xs.drop (i*k1.length)) (ys.drop (i*k1.length))=some r'→
       (forIn (List.range' i m 1) ((none,()):Option Bool×Unit) fun i __s=>do
         let __do_lift <-part el us.toArray (i*k1.length);let __do_lift_1 <-part el vs.toArray (i*k1.length);let __do_lift <-Op.equalIn dd el __do_lift __do_lift_1
         if (!__do_lift)=true then pure (ForInStep.done (some false,())) else pure (ForInStep.yield (none,()))).run P w= .ok (if r' then (none,()) else (some false,())) w:=by
       intro m;induction m with
       |zero=>intro i r' _ h2;simp only [kdRep] at h2;simp [eqs_nil h2]
       |succ m ih=>
        intro i r' hi h2;simp only [kdRep] at h2;obtain ⟨r1,r2,g1,g2,rfl⟩:=eqs_append h2;have hle:i*k1.length+k1.length<=len*k1.length:=by
         have:i*k1.length+k1.length=(i+1)*k1.length:=by rw [Nat.succ_mul]
         rw [this];exact Nat.mul_le_mul_right _ (by omega)
        rw [hrl] at hlr;obtain ⟨v1,p1,q1⟩:=run_part (P:=P) (w:=w) (cs:=us.toArray) (off:=i*k1.length) hg hsz hg1 (by simp [<-hxu.1,hlr.1];omega)
        obtain ⟨v2,p2,q2⟩:=run_part (P:=P) (w:=w) (cs:=vs.toArray) (off:=i*k1.length) hg hsz hg1 (by simp [<-hyv.1,hlr.2];omega)
        have hrec:=eqTy d el k1 hk1 dd (by omega) _ _ _ _ v1 v2 r1 g1 ((hxu.drop _).take k1.length) ((hyv.drop _).take k1.length) q1 q2
        rw [List.drop_drop,List.drop_drop,show i*k1.length+k1.length=(i+1)*k1.length by rw [Nat.succ_mul]] at g2
        have hih:=ih (i+1) r2 (by omega) g2
        simp only [List.range'_succ,List.forIn_cons,Sem.run_bind,p1,p2,Result.andThen_ok,hrec];cases r1
        ·simp
        ·simp only [Bool.not_true,Bool.false_eq_true,if_false,Sem.run_pure,Result.andThen_ok,Bool.true_and];exact hih
      rw [key len 0 r (by omega) (by simpa using hr)]
      cases r<;>simp
     ·cases h
    ·rw [hag] at h1;cases h1
   ·rw [hag] at h1;cases h1
  ·cases h
end
end Go.Ab
namespace Go.Ab
section
variable {P:Program} {D:Nat->Prop} {φ:Phi} {w:World} {n:Nat} {e:Env} {h:Hp} {E:Eff} {ρ:Operand->Value}
theorem snd_eqk {neg g:Bool} {ks:List Kd} {x y:Opd} {a b:Value} {t:TypeId} {xo yo:Operand} {c:Bool} (hs:step (.eqk neg g ks x y) e h n=some (c,E)) (hk:kdOf P 9 t=some ks) (hg:tyAgg P t=some g) (hgd:guardOk P t=true)
 (hnk:(∀k,P.underlying t≠some (.int k))/\P.underlying t≠some .string)
 (hx:OK1 D φ e h x a) (hy:OK1 D φ e h y b) (hH:HR D φ (only (hget h) E.rd) w):
 Sim P D φ (only (hget h) E.rd) w n E ((do pure (Next.value (<-(do eqGuard (if neg then .neq else .eql) t xo yo a b;binOp (if neg then .neq else .eql) t a b))):Sem Next).run P w):=by
 simp only [step,Option.bind_eq_some_iff] at hs;obtain ⟨v,hv,v',hv',r,hr,hs⟩:=hs;have ha:=hx v hv;have hb:=hy v' hv';refine snd_pure (u:= .bool (bif neg then !r else r)) hs hH ?_ (.b _)
 have hgd':P.eqGuardType P.depth t=false:=by simpa [guardOk] using hgd
 have key:(Op.equal t a b).run P w= .ok r w/\a≠ .nilIface/\((∃q,a= .bool q)/\(∃q,b= .bool q)\/(∃q,a= .agg q)/\(∃q,b= .agg q)):=by
  unfold eqk at hr;split at hr
  ·obtain ⟨us,rfl,h1⟩:=ha.agg_inv;obtain ⟨vs,rfl,h2⟩:=hb.agg_inv;exact ⟨eqTy 9 t ks hk Op.maxDepth (by decide) _ _ us vs _ _ r hr h1 h2 (.inl ⟨hg,rfl⟩) (.inl ⟨hg,rfl⟩),by simp,.inr ⟨⟨_,rfl⟩,⟨_,rfl⟩⟩⟩
  ·have hu:P.underlying t=some .bool:=by
    unfold tyAgg at hg;simp only [kdOf] at hk;split at hk<;>rename_i hu
    ·exact hu
    ·exact absurd hu (hnk.1 _)
    ·exact absurd hu hnk.2
    ·rw [hu] at hg;cases hg
    ·rw [hu] at hg;cases hg
    ·cases hk
   have hks:ks=[.b]:=by simp only [kdOf,hu] at hk;cases hk;rfl
   subst hks;have h1:(Op.equal t a b).run P w= .ok r w:=eqTy 9 t [.b] hk Op.maxDepth (by decide) _ _ [a] [b] _ _ r hr (.cons ha .nil) (.cons hb .nil) (.inr ⟨hg,rfl⟩) (.inr ⟨hg,rfl⟩)
   simp only [eqs,Option.bind_eq_some_iff] at hr;obtain ⟨q,hq,_⟩:=hr;unfold eq1 at hq;split at hq
   ·cases ha;cases hb;exact ⟨h1,by simp,.inl ⟨⟨_,rfl⟩,⟨_,rfl⟩⟩⟩
   ·contradiction
   ·contradiction
   ·cases hq
  ·cases hr
 obtain ⟨h1,h2,h3⟩:=key;have hge:=run_eqGuard_of (P:=P) (w:=w) (op:=if neg then .neq else .eql) (t:=t) (x:=xo) (y:=yo) (b:=b) (.inr hgd') h2
 have hb2:(binOp (if neg then .neq else .eql) t a b).run P w= .ok (.bool (bif neg then !r else r)) w:=by
  rcases h3 with ⟨⟨q,rfl⟩,⟨q',rfl⟩⟩|⟨⟨q,rfl⟩,⟨q',rfl⟩⟩<;>cases neg<;>simp [binOp,h1]
 simp [hge,hb2]
theorem eqn_eq {k:Nat} {t:TypeId} {a b:AV} {x y:Value} {r:Bool} {d:Nat} (hk:nilTy P t=some k) (hr:eqn k a b=some r) (ha:VRel D φ a x) (hb:VRel D φ b y):
 (Op.equalIn (d+1) t x y).run P w= .ok r w/\x≠ .nilIface/\(∀q,x≠ .agg q)/\(∀neg:Bool,(binOp (if neg then .neq else .eql) t x y).run P w=((Op.equal t x y).run P w).andThen fun r w'=> .ok (.bool (bif neg then !r else r)) w'):=by
 unfold nilTy at hk;split at hk<;>rename_i hu<;>cases hk<;>unfold eqn at hr<;>split at hr<;>first|contradiction|cases hr<;>cases ha<;>cases hb<;>
  refine ⟨by simp only [Op.equalIn,Sem.run_bind,run_underlying hu,Result.andThen_ok];simp,by simp,by simp,fun neg=>by cases neg<;>simp only [binOp,Sem.run_bind,Bool.false_eq_true,if_false,if_true,Sem.run_pure,cond_true,cond_false]⟩
theorem snd_eqn {neg:Bool} {k:Nat} {x y:Opd} {a b:Value} {t:TypeId} {xo yo:Operand} {c:Bool} (hs:step (.eqn neg k x y) e h n=some (c,E)) (hk:nilTy P t=some k)
 (hx:OK1 D φ e h x a) (hy:OK1 D φ e h y b) (hH:HR D φ (only (hget h) E.rd) w):
 Sim P D φ (only (hget h) E.rd) w n E ((do pure (Next.value (<-(do eqGuard (if neg then .neq else .eql) t xo yo a b;binOp (if neg then .neq else .eql) t a b))):Sem Next).run P w):=by
 simp only [step,Option.bind_eq_some_iff] at hs;obtain ⟨v,hv,v',hv',r,hr,hs⟩:=hs;have ha:=hx v hv;have hb:=hy v' hv';refine snd_pure (u:= .bool (bif neg then !r else r)) hs hH ?_ (.b _)
 obtain ⟨h1,h2,h3,h4⟩:=eqn_eq (P:=P) (w:=w) (d:=9999) hk hr ha hb;have h1:(Op.equal t a b).run P w= .ok r w:=h1;have hge:=run_eqGuard_of (P:=P) (w:=w) (op:=if neg then .neq else .eql) (t:=t) (x:=xo) (y:=yo) (b:=b) (.inl h3) h2
 simp only [Sem.run_bind,hge,h4 neg,h1,Result.andThen_ok,Sem.run_pure]
theorem snd_not {x:Opd} {u:Value} {c:Bool} (hs:step (.not x) e h n=some (c,E)) (hx:OK1 D φ e h x u) (hH:HR D φ (only (hget h) E.rd) w):
 Sim P D φ (only (hget h) E.rd) w n E ((do pure (Next.value (<-Op.unary .not u)):Sem Next).run P w):=by
 simp only [step,Option.bind_eq_some_iff] at hs;obtain ⟨v,hv,hs⟩:=hs;have hr:=hx v hv;split at hs
 ·cases hr;exact snd_pure hs hH (by simp [Op.unary]) (.b _)
 ·cases hs
theorem snd_neg {x:Opd} {u:Value} {c:Bool} (hs:step (.neg x) e h n=some (c,E)) (hx:OK1 D φ e h x u) (hH:HR D φ (only (hget h) E.rd) w):
 Sim P D φ (only (hget h) E.rd) w n E ((do pure (Next.value (<-Op.unary .neg u)):Sem Next).run P w):=by
 simp only [step,Option.bind_eq_some_iff] at hs;obtain ⟨v,hv,hs⟩:=hs;have hr:=hx v hv;split at hs
 ·cases hr;exact snd_pure hs hH (by simp [Op.unary,Op.intArith]) (.i _ _)
 ·cases hs
theorem snd_i2i {k:IntKind} {x:Opd} {u:Value} {s d:TypeId} {c:Bool} (hs:step (.i2i k x) e h n=some (c,E)) (h1: ∃j,P.underlying s=some (.int j)) (h2:P.underlying d=some (.int k)) (hx:OK1 D φ e h x u) (hH:HR D φ (only (hget h) E.rd) w):
 Sim P D φ (only (hget h) E.rd) w n E ((do pure (Next.value (<-convert s d u)):Sem Next).run P w):=by
 obtain ⟨j,h1⟩:=h1;simp only [step,Option.bind_eq_some_iff] at hs;obtain ⟨v,hv,hs⟩:=hs;have hr:=hx v hv;split at hs
 ·cases hr;exact snd_pure hs hH (by simp [convert,run_underlying h1,run_underlying h2,Conv.intToInt]) (.i _ _)
 ·cases hs
theorem snd_idc {x:Opd} {u:Value} {s d:TypeId} {c:Bool} (hs:step (.idc x) e h n=some (c,E)) (h1:P.underlying s=some .string) (h2:P.underlying d=some .string) (hx:OK1 D φ e h x u) (hH:HR D φ (only (hget h) E.rd) w):
 Sim P D φ (only (hget h) E.rd) w n E ((do pure (Next.value (<-convert s d u)):Sem Next).run P w):=by
 simp only [step,Option.bind_eq_some_iff] at hs;obtain ⟨v,hv,hs⟩:=hs;have hr:=hx v hv;split at hs
 ·cases hr;exact snd_pure hs hH (by simp [convert,run_underlying h1,run_underlying h2]) (.s _)
 ·cases hs
theorem run_markStringish {a:Addr} {cs:Array Value} {el:TypeId} {fr:Nat×Nat} (hw:w.heap[a.block]? =some (.cells cs el fr)):(markStringish a).run P w= .ok () (w.freeze {block:=a.block,off:=cs.size} 1):=by
 have hsh:w.shape? a.block=some (el,cs.size):=by simp [World.shape?,hw]
 simp only [markStringish,Sem.run_bind,run_shape,Result.andThen_ok,hsh,run_freeze]
theorem freeze_new {w:World} {cs:Array Value} {el:TypeId} {m:Nat} (hm:m=w.heap.size):(World.freeze {w with heap:=w.heap.push (.cells cs el)} ⟨m,cs.size,none⟩ 1)={w with heap:=w.heap.push (.cells cs el (cs.size,cs.size+1))}:=by
 subst hm;simp only [World.freeze];rw [if_neg (by decide)]
 congr 1;apply Array.ext_getElem?;intro d;simp only [Array.getElem?_modify,Array.getElem?_push];by_cases hd:d=w.heap.size
 ·subst hd;simp
 ·simp [hd,show ¬w.heap.size=d from fun e=>hd e.symm]
def sbCells (s:ByteArray) (cap:Nat):Array Value:=s.data.map (fun b:UInt8=>Value.int .u8 b.toNat)++Array.replicate (cap-s.size) (Value.int .u8 0)
theorem run_stringToBytes (el:TypeId) (s:ByteArray) (w:World): ∃cap,s.size<=cap/\(Conv.stringToBytes el s).run P w=
 .ok (.slice (some ⟨w.heap.size,0,none⟩) s.size cap)
  {w with drawn:=w.drawn+1,heap:=w.heap.push (.cells (sbCells s cap) el ((sbCells s cap).size,(sbCells s cap).size+1))}:=by
 refine ⟨(Question.appendCap s.size 0 el).cut (w.tape w.drawn (.appendCap s.size 0 el)),?_,?_⟩
 ·show s.size<=s.size+_;omega
 ·simp only [Conv.stringToBytes,Sem.run_bind,run_choose];rw [if_neg (by simp [Question.forced])]
  simp only [Result.andThen_ok,run_newRow];generalize (Question.appendCap s.size 0 el).cut (w.tape w.drawn (.appendCap s.size 0 el))=cap;have hcs:(s.data.map (fun b:UInt8=>Value.int .u8 b.toNat)++Array.replicate (cap-s.size) (Value.int .u8 0))=sbCells s cap:=rfl;rw [hcs];generalize sbCells s cap=cs;rw [run_markStringish (cs:=cs) (el:=el) (fr:=(0,0)) (by simp)]
  simp only [Result.andThen_ok,Sem.run_pure];rw [freeze_new (w:={w with drawn:=w.drawn+1}) rfl]
theorem snd_s2b {x:Opd} {u:Value} {s d el:TypeId} {c:Bool} (hs:step (.s2b x) e h n=some (c,E)) (h1:P.underlying s=some .string) (h2:P.underlying d=some (.slice el)) (h3:P.underlying el=some (.int .u8)) (hn:n<E.n-> ¬D n)
 (hx:OK1 D φ e h x u) (hH:HR D φ (only (hget h) E.rd) w):
 Sim P D φ (only (hget h) E.rd) w n E ((do pure (Next.value (<-convert s d u)):Sem Next).run P w):=by
 simp only [step,Option.bind_eq_some_iff] at hs;obtain ⟨v,hv,hs⟩:=hs;have hr:=hx v hv;split at hs
 ·rename_i l;cases hr;simp only [Option.some.injEq,Prod.mk.injEq] at hs;obtain ⟨_,rfl⟩:=hs;obtain ⟨cap,hcap,hrun⟩:=run_stringToBytes (P:=P) el ⟨l.toArray⟩ w;rw [size_mk] at hcap hrun;have hsz:(sbCells ⟨l.toArray⟩ cap).size=cap:=by simp [sbCells,size_mk];omega
  generalize hcs:sbCells ⟨l.toArray⟩ cap=cs at hrun hsz;refine Sim.alloc (g:=some 1) (cap:=cap) (esz:=1) (cs:=cs) (elem:=el) (fr:=(cs.size,cs.size+1)) (w':={w with drawn:=w.drawn+1,heap:=w.heap.push (.cells cs el (cs.size,cs.size+1))}) (u:= .slice (some ⟨w.heap.size,0,none⟩) l.length cap) ?_ hH (hn (Nat.lt_succ_self _)) rfl rfl rfl rfl (fun i v hv=> ?_) (fun i hi=>by show ¬(cs.size<=i/\i<cs.size+1);rcases hi with hi|⟨_,hi⟩;omega;exact absurd rfl hi) (fun e he=>by cases he;exact ⟨rfl,by omega⟩) (sg_new hcap)
  ·rw [run_v];simp only [convert,Sem.run_bind,run_underlying h1,run_underlying h2,run_underlying h3,Result.andThen_ok];rw [hrun];rfl
  ·have hi:i<l.length:=by
    rcases Nat.lt_or_ge i l.length with h'|h'
    ·exact h'
    ·rw [List.getElem?_eq_none (by simpa using h')] at hv;cases hv
   refine ⟨.int .u8 l[i].toNat,?_,?_⟩
   ·rw [<-hcs];simp [sbCells,Array.getElem?_append,hi]
   ·simp [hi] at hv;subst hv;exact .i _ _
 ·cases hs
end
end Go.Ab
