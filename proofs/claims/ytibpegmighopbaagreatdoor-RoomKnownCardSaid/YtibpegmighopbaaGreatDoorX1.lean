/- Texts laid as one. -/
import Derived.WalkKit
import Derived.KernelRfl
import Derived.Laws.StructEq
import Derived.Lib.AppendZerosOnto
import Derived.MapKept
set_option maxRecDepth 100000
set_option maxHeartbeats 20000000
set_option linter.unusedSimpArgs false
set_option linter.unusedVariables false
theorem Ae:type_of% @Nat.mul_le_mul_right:=@Nat.mul_le_mul_right
theorem dN:type_of% @List.length_append:=@List.length_append
theorem ie:type_of% @Bool.and_true:=@Bool.and_true
theorem cu:type_of% @if_true:=@if_true
theorem Cg:type_of% @Nat.le_trans:=@Nat.le_trans
theorem sJ:type_of% @Int.fdiv_eq_ediv_of_nonneg:=@Int.fdiv_eq_ediv_of_nonneg
theorem D5:type_of% @List.nodup_cons:=@List.nodup_cons
theorem NI:type_of% @List.replicate_succ:=@List.replicate_succ
theorem C1:type_of% @Nat.sub_zero:=@Nat.sub_zero
theorem h9:type_of% @List.take_of_length_le:=@List.take_of_length_le
theorem rN:type_of% @List.drop_of_length_le:=@List.drop_of_length_le
theorem wC:type_of% @List.drop_length:=@List.drop_length
theorem cM:type_of% @List.append_nil:=@List.append_nil
theorem nu:type_of% @Option.getD_none:=@Option.getD_none
theorem eB:type_of% @Nat.zero_le:=@Nat.zero_le
theorem fu:type_of% @Nat.add_zero:=@Nat.add_zero
theorem bV:type_of% @if_false:=@if_false
theorem gw:type_of% @Array.getElem?_eq_none:=@Array.getElem?_eq_none
theorem eV:type_of% @Bool.false_and:=@Bool.false_and
theorem yJ:type_of% @List.take_append:=@List.take_append
theorem fG:type_of% @List.append_assoc:=@List.append_assoc
theorem fN:type_of% @Option.map_some:=@Option.map_some
theorem bq:type_of% @Prod.mk.injEq:=@Prod.mk.injEq
theorem vT:type_of% @List.getElem?_of_mem:=@List.getElem?_of_mem
theorem mE:type_of% @List.all_nil:=@List.all_nil
theorem AT:type_of% @List.toList_toArray:=@List.toList_toArray
theorem EW:type_of% @List.getElem?_eraseIdx:=@List.getElem?_eraseIdx
theorem vJ:type_of% @List.mem_append:=@List.mem_append
theorem Er:type_of% @Nat.le_of_ble_eq_true:=@Nat.le_of_ble_eq_true
theorem gF:type_of% @List.getElem?_map:=@List.getElem?_map
theorem fy:type_of% @List.drop_zero:=@List.drop_zero
theorem jG:type_of% @List.eq_nil_of_length_eq_zero:=@List.eq_nil_of_length_eq_zero
theorem fA:type_of% @Bool.not_false:=@Bool.not_false
theorem oI:type_of% @List.getD_eq_getElem?_getD:=@List.getD_eq_getElem?_getD
theorem aS:type_of% @Option.bind_some:=@Option.bind_some
theorem iq:type_of% @List.getElem?_drop:=@List.getElem?_drop
theorem dK:type_of% @Nat.mul_one:=@Nat.mul_one
theorem Bs:type_of% @Option.toList_some:=@Option.toList_some
theorem AZ:type_of% @Nat.eq_zero_or_pos:=@Nat.eq_zero_or_pos
theorem yx:type_of% @Bool.and_assoc:=@Bool.and_assoc
theorem kv:type_of% @List.length_nil:=@List.length_nil
theorem gv:type_of% @Nat.zero_add:=@Nat.zero_add
theorem lX:type_of% @Array.getD_eq_getD_getElem?:=@Array.getD_eq_getD_getElem?
theorem az:type_of% @Bool.and_self:=@Bool.and_self
theorem iZ:type_of% @List.mem_cons_of_mem:=@List.mem_cons_of_mem
theorem Ci:type_of% @Array.getElem?_modify:=@Array.getElem?_modify
theorem ja:type_of% @List.mem_cons_self:=@List.mem_cons_self
theorem ju:type_of% @Bool.not_eq_true:=@Bool.not_eq_true
theorem A5:type_of% @Nat.lt_succ_iff_lt_or_eq:=@Nat.lt_succ_iff_lt_or_eq
theorem ur:type_of% @Nat.add_comm:=@Nat.add_comm
theorem gO:type_of% @List.length_take:=@List.length_take
theorem jX:type_of% @Array.getElem?_toList:=@Array.getElem?_toList
theorem tI:type_of% @List.size_toArray:=@List.size_toArray
theorem sv:type_of% @Nat.one_mul:=@Nat.one_mul
theorem pU:type_of% @and_self:=@and_self
theorem Ez:type_of% @Option.isNone_iff_eq_none:=@Option.isNone_iff_eq_none
theorem eJ:type_of% @Bool.true_and:=@Bool.true_and
theorem fI:type_of% @Bool.not_true:=@Bool.not_true
theorem jB:type_of% @Bool.and_eq_true_iff:=@Bool.and_eq_true_iff
theorem cS:type_of% @congrArg:=@congrArg
theorem wT:type_of% @beq_eq_false_iff_ne:=@beq_eq_false_iff_ne
theorem fM:type_of% @List.getElem?_eq_none:=@List.getElem?_eq_none
theorem AG:type_of% @Array.getElem?_push:=@Array.getElem?_push
theorem lg:type_of% @Array.ext':=@Array.ext'
theorem gU:type_of% @Array.getElem?_eq_some_iff:=@Array.getElem?_eq_some_iff
theorem aP:type_of% @Option.some.injEq:=@Option.some.injEq
theorem oK:type_of% @Nat.min_eq_left:=@Nat.min_eq_left
theorem Fe:type_of% @Array.getElem?_eq_getElem:=@Array.getElem?_eq_getElem
theorem qg:type_of% @Ne.symm:=@Ne.symm
theorem nG:type_of% @List.length_singleton:=@List.length_singleton
theorem gq:type_of% @Option.getD_some:=@Option.getD_some
theorem Bj:type_of% @Array.getElem?_append_left:=@Array.getElem?_append_left
theorem nq:type_of% @true_and:=@true_and
theorem aw:type_of% @Bool.and_eq_true:=@Bool.and_eq_true
theorem r9:type_of% @List.length_pos_iff:=@List.length_pos_iff
theorem ee:type_of% @List.cons_append:=@List.cons_append
theorem lR:type_of% @Int.toNat_natCast:=@Int.toNat_natCast
theorem kQ:type_of% @List.take_append_drop:=@List.take_append_drop
theorem dC:type_of% @Nat.eq_of_beq_eq_true:=@Nat.eq_of_beq_eq_true
theorem p0:type_of% @List.getElem?_append:=@List.getElem?_append
theorem yr:type_of% @List.getElem?_set:=@List.getElem?_set
theorem dw:type_of% @Nat.lt_or_ge:=@Nat.lt_or_ge
theorem xO:type_of% @List.foldl_cons:=@List.foldl_cons
theorem iG:type_of% @Bool.eq_iff_iff:=@Bool.eq_iff_iff
theorem cN:type_of% @decide_eq_false:=@decide_eq_false
theorem iH:type_of% @Bool.not_eq_true':=@Bool.not_eq_true'
theorem jz:type_of% @List.take_add_one:=@List.take_add_one
theorem v8:type_of% @List.getElem?_append_right:=@List.getElem?_append_right
theorem aN:type_of% @if_neg:=@if_neg
theorem eK:type_of% @List.getElem?_eq_some_iff:=@List.getElem?_eq_some_iff
theorem jD:type_of% @List.mem_cons:=@List.mem_cons
theorem im:type_of% @Nat.add_assoc:=@Nat.add_assoc
theorem cY:type_of% @Bool.false_eq_true:=@Bool.false_eq_true
theorem xF:type_of% @List.cons.injEq:=@List.cons.injEq
theorem lU:type_of% @beq_iff_eq:=@beq_iff_eq
theorem pX:type_of% @decide_true:=@decide_true
theorem jA:type_of% @List.getElem?_take:=@List.getElem?_take
theorem ob:type_of% @of_decide_eq_false:=@of_decide_eq_false
theorem gZ:type_of% @Bool.or_false:=@Bool.or_false
theorem er:type_of% @List.all_eq_true:=@List.all_eq_true
theorem qi:type_of% @List.length_drop:=@List.length_drop
theorem fU:type_of% @List.take_length:=@List.take_length
theorem qp:type_of% @List.drop_drop:=@List.drop_drop
theorem lH:type_of% @List.ext_getElem?:=@List.ext_getElem?
theorem s9:type_of% @Prod.mk.inj:=@Prod.mk.inj
theorem af:type_of% @Option.bind_eq_some_iff:=@Option.bind_eq_some_iff
theorem bc:type_of% @Option.map_eq_some_iff:=@Option.map_eq_some_iff
theorem oh:type_of% @List.mem_range:=@List.mem_range
theorem ql:type_of% @beq_self_eq_true:=@beq_self_eq_true
theorem aY:type_of% @List.getElem?_eq_getElem:=@List.getElem?_eq_getElem
theorem oy:type_of% @Prod.ext:=@Prod.ext
theorem qu:type_of% @Nat.mul_comm:=@Nat.mul_comm
theorem dW:type_of% @Bool.and_false:=@Bool.and_false
theorem ah:type_of% @decide_eq_true:=@decide_eq_true
theorem qF:type_of% @decide_eq_decide:=@decide_eq_decide
theorem fX:type_of% @Bool.true_or:=@Bool.true_or
theorem sY:type_of% @Array.ext_getElem?:=@Array.ext_getElem?
theorem y5:type_of% @List.pairwise_iff_getElem:=@List.pairwise_iff_getElem
theorem dr:type_of% @and_true:=@and_true
theorem iX:type_of% @List.length_map:=@List.length_map
theorem fg:type_of% @Bool.false_or:=@Bool.false_or
theorem vh:type_of% @List.drop_append:=@List.drop_append
theorem oa:type_of% @Nat.succ_mul:=@Nat.succ_mul
theorem iS:type_of% @Bool.or_eq_true:=@Bool.or_eq_true
theorem bR:type_of% @List.mem_of_getElem?:=@List.mem_of_getElem?
theorem kW:type_of% @List.drop_eq_getElem_cons:=@List.drop_eq_getElem_cons
theorem bx:type_of% @Nat.le_refl:=@Nat.le_refl
theorem qL:type_of% @List.getElem?_append_left:=@List.getElem?_append_left
theorem sF:type_of% @Nat.sub_self:=@Nat.sub_self
theorem eU:type_of% @Bool.or_true:=@Bool.or_true
theorem s8:type_of% @List.take_zero:=@List.take_zero
theorem wO:type_of% @Nat.lt_of_lt_of_le:=@Nat.lt_of_lt_of_le
theorem aM:type_of% @if_pos:=@if_pos
theorem jU:type_of% @List.map_cons:=@List.map_cons
theorem mL:type_of% @Nat.mod_eq_of_lt:=@Nat.mod_eq_of_lt
theorem bO:type_of% @of_decide_eq_true:=@of_decide_eq_true
theorem dF:type_of% @Nat.add_mul:=@Nat.add_mul
theorem fL:type_of% @List.all_cons:=@List.all_cons
theorem ez:type_of% @Nat.lt_succ_self:=@Nat.lt_succ_self
theorem zt:type_of% @List.getElem_cons_drop:=@List.getElem_cons_drop
theorem wv:type_of% @List.getElem?_cons_succ:=@List.getElem?_cons_succ
theorem mK:type_of% @Option.isSome_iff_exists:=@Option.isSome_iff_exists
theorem aV:type_of% @decide_eq_true_eq:=@decide_eq_true_eq
namespace Go.Ab
inductive AV where
 |b (x:Bool)
 |i (k:IntKind) (n:Int)
 |s (l:List UInt8)
 |np
 |p (b o:Nat)
 |ns
 |sl (b o len cap:Nat)
 |sg (b o len:Nat)
 |fn (f:FuncId) (caps:List AV)
 |bm (f:FuncId) (first:List AV)
 |nf
 |ni
 |agg (l:List AV)
 |bg (l:List AV)
 |fz (l:List AV) (n:Nat)
 |fp (l:List AV) (k:Nat)
 |ze
 |en
 |any
 |yl (L:Nat) (r:Go.Loop) (ts:List Nat) (l:List AV)
 |k (t:TypeId) (v:Value)
 |m (b:Nat)
 |nm
instance:Inhabited AV:=⟨.np⟩
structure bU where
 cW:Nat->Nat
 off:Nat->Nat
 cap:Nat->Nat
 fK:Nat->Nat
 fz:Nat->Option (Array Value):=fun _=>none
 lp:Nat->Option Go.Loop:=fun _=>none
structure dh (D:Nat->Prop) (φ φ':bU):Prop where
 at_: ∀b,D b->φ'.cW b=φ.cW b/\φ'.off b=φ.off b/\φ'.cap b=φ.cap b/\φ'.fK b=φ.fK b
 fz: ∀B vs,φ.fz B=some vs->φ'.fz B=some vs
 lp:φ'.lp=φ.lp
instance {D:Nat->Prop} {φ φ':bU}:CoeFun (dh D φ φ') (fun _=> ∀b,D b->φ'.cW b=φ.cW b/\φ'.off b=φ.off b/\φ'.cap b=φ.cap b/\φ'.fK b=φ.fK b):=⟨dh.at_⟩
def YB:Nat:=1099511627776
inductive aI (D:Nat->Prop) (φ:bU):AV->Value->Prop
 |b (x:Bool):aI D φ (.b x) (.bool x)
 |i (k:IntKind) (n:Int):aI D φ (.i k n) (.int k n)
 |s (l:List UInt8):aI D φ (.s l) (.string ⟨l.toArray⟩)
 |np:aI D φ .np (.pointer none)
 |p (b o:Nat) (h:D b):aI D φ (.p b o) (.pointer (some ⟨φ.cW b,φ.off b+o,none⟩))
 |ns:aI D φ .ns (.slice none 0 0)
 |sl (b o len cap:Nat) (h:D b):aI D φ (.sl b o len cap) (.slice (some ⟨φ.cW b,φ.off b+o,none⟩) len cap)
 |sg (b o len j cap:Nat) (h:D b) (hj:j*φ.fK b=o) (hc:j+cap=φ.cap b) (hl:len<=cap):
  aI D φ (.sg b o len) (.slice (some ⟨φ.cW b,φ.off b+o,none⟩) len cap)
 |fn (f:FuncId) (l:List AV) (cs:Array Value) (hf:f≠YB) (hl:l.length=cs.size) (h: ∀(i:Nat) (a:AV) (u:Value),l[i]? =some a->cs[i]? =some u->aI D φ a u):
  aI D φ (.fn f l) (.func (.func f) #[] cs)
 |bm (f:FuncId) (l:List AV) (cs:Array Value) (hf:f≠YB) (hl:l.length=cs.size) (h: ∀(i:Nat) (a:AV) (u:Value),l[i]? =some a->cs[i]? =some u->aI D φ a u):
  aI D φ (.bm f l) (.func (.func f) cs #[])
 |nf:aI D φ .nf .nilFunc
 |ni:aI D φ .ni .nilIface
 |agg (l:List AV) (cs:Array Value) (hl:l.length=cs.size) (h: ∀(i:Nat) (a:AV) (u:Value),l[i]? =some a->cs[i]? =some u->aI D φ a u):
  aI D φ (.agg l) (.agg cs)
 |bg (l:List AV) (cs:Array Value) (hl:l.length=cs.size) (h: ∀(i:Nat) (a:AV) (u:Value),l[i]? =some a->cs[i]? =some u->aI D φ a u):
  aI D φ (.bg l) (.tuple cs)
 |fz (l:List AV) (n B o cap:Nat) (vs:Array Value) (hB:φ.fz B=some vs) (hc:n<=cap) (hs: ∀i,i<l.length->o+i<vs.size) (h: ∀(i:Nat) (a:AV) (u:Value),l[i]? =some a->vs[o+i]? =some u->aI D φ a u):
  aI D φ (.fz l n) (.slice (some ⟨B,o,none⟩) n cap)
 |mI (l:List AV) (x:Option Addr) (cap:Nat) (hc:x=none->cap=0):aI D φ (.fz l 0) (.slice x 0 cap)
 |fp (l:List AV) (k B o:Nat) (vs:Array Value) (hB:φ.fz B=some vs) (hs: ∀i,i<l.length->o+i<vs.size) (h: ∀(i:Nat) (a:AV) (u:Value),l[i]? =some a->vs[o+i]? =some u->aI D φ a u):
  aI D φ (.fp l k) (.pointer (some ⟨B,o+k,none⟩))
 |ze (x:Option Addr):aI D φ .ze (.slice x 0 0)
 |en (x:Addr) (cap:Nat):aI D φ .en (.slice (some x) 0 cap)
 |any (u:Value):aI D φ .any u
 |yl (L:Nat) (r:Go.Loop) (ts:List Nat) (l:List AV) (hL:φ.lp L=some r) (h: ∀(i t:Nat) (a:AV),ts[i]? =some t->l[i]? =some a->aI D φ a (r.tmps.getD t undef)):aI D φ (.yl L r ts l) (.func (.yield L) #[] #[])
 |k (t:TypeId) (v:Value):aI D φ (.k t v) (.iface t v)
 |m (b:Nat) (h:D b):aI D φ (.m b) (.map (some (φ.cW b)))
 |nm:aI D φ .nm (.map none)
theorem aI.tQ {D D':Nat->Prop} {φ φ':bU} (hD: ∀b,D b->D' b) (hφ: ∀b,D b->φ'.cW b=φ.cW b/\φ'.off b=φ.off b/\φ'.cap b=φ.cap b/\φ'.fK b=φ.fK b) (hz: ∀B vs,φ.fz B=some vs->φ'.fz B=some vs) (hl: ∀L r,φ.lp L=some r->φ'.lp L=some r) {v:AV} {u:Value} (h:aI D φ v u):aI D' φ' v u:=by
 induction h with
 |b x=>exact .b x
 |i k n=>exact .i k n
 |s l=>exact .s l
 |np=>exact .np
 |p b o h=>obtain ⟨h1,h2,_,_⟩:=hφ b h;rw [<-h1,<-h2];exact .p b o (hD b h)
 |ns=>exact .ns
 |sl b o len cap h=>obtain ⟨h1,h2,_,_⟩:=hφ b h;rw [<-h1,<-h2];exact .sl b o len cap (hD b h)
 |sg b o len j cap h hj hc hl=>obtain ⟨h1,h2,h3,h4⟩:=hφ b h;rw [<-h1,<-h2];exact .sg b o len j cap (hD b h) (by rw [h4];exact hj) (by rw [h3];exact hc) hl
 |fn f l cs hf hl h ih=>exact .fn f l cs hf hl ih
 |bm f l cs hf hl h ih=>exact .bm f l cs hf hl ih
 |nf=>exact .nf
 |ni=>exact .ni
 |agg l cs hl h ih=>exact .agg l cs hl ih
 |bg l cs hl h ih=>exact .bg l cs hl ih
 |fz l n B o cap vs hB hc hs h ih=>exact .fz l n B o cap vs (hz _ _ hB) hc hs ih
 |mI l x cap hc=>exact .mI l x cap hc
 |fp l k B o vs hB hs h ih=>exact .fp l k B o vs (hz _ _ hB) hs ih
 |ze x=>exact .ze x
 |en x cap=>exact .en x cap
 |any u=>exact .any u
 |yl L r ts l hL h ih=>exact .yl L r ts l (hl _ _ hL) ih
 |k t v=>exact .k t v
 |m b h=>obtain ⟨h1,_⟩:=hφ b h;rw [<-h1];exact .m b (hD b h)
 |nm=>exact .nm
theorem aI.mono {D D':Nat->Prop} {φ φ':bU} (hD: ∀b,D b->D' b) (hφ:dh D φ φ') {v:AV} {u:Value} (h:aI D φ v u):aI D' φ' v u:=
 h.tQ hD hφ.at_ hφ.fz (fun L r hL=>by rw [hφ.lp];exact hL)
def cJ (D:Nat->Prop) (φ:bU) (l:List AV) (m:List Value):Prop:=
 l.length=m.length/\ ∀(i:Nat) (a:AV) (u:Value),l[i]? =some a->m[i]? =some u->aI D φ a u
theorem cJ.nil {D:Nat->Prop} {φ:bU}:cJ D φ [] []:=⟨rfl,fun i a u h=>by simp at h⟩
theorem cJ.cons {D:Nat->Prop} {φ:bU} {a:AV} {u:Value} {l:List AV} {m:List Value} (h:aI D φ a u) (t:cJ D φ l m):cJ D φ (a::l) (u::m):=by
 refine ⟨by simp [t.1],fun i x y hx hy=> ?_⟩
 cases i with
 |zero=>simp at hx hy;subst hx;subst hy;exact h
 |succ i=>simp at hx hy;exact t.2 i x y hx hy
theorem cJ.dZ {D:Nat->Prop} {φ:bU} {a:AV} {l:List AV} {m:List Value} (h:cJ D φ (a::l) m): ∃u m',m=u::m'/\aI D φ a u/\cJ D φ l m':=by
 cases m with
 |nil=>have:=h.1;simp at this
 |cons u m'=>
  refine ⟨u,m',rfl,h.2 0 a u (by simp) (by simp),by have:=h.1;simpa using this,fun i x y hx hy=>h.2 (i+1) x y (by simpa using hx) (by simpa using hy)⟩
theorem cJ.kK {D:Nat->Prop} {φ:bU} {m:List Value} (h:cJ D φ [] m):m=[]:=by
 cases m with
 |nil=>rfl
 |cons u m'=>have:=h.1;simp at this
theorem cJ.mono {D D':Nat->Prop} {φ φ':bU} (hD: ∀b,D b->D' b) (hφ:dh D φ φ') {l:List AV} {m:List Value} (h:cJ D φ l m):cJ D' φ' l m:=
 ⟨h.1,fun i a u ha hu=>(h.2 i a u ha hu).mono hD hφ⟩
theorem cJ.get {D:Nat->Prop} {φ:bU} {l:List AV} {m:List Value} (h:cJ D φ l m) {i:Nat} {a:AV} (ha:l[i]? =some a): ∃u,m[i]? =some u/\aI D φ a u:=by
 have hi:i<l.length:=by
  rcases dw i l.length with h'|h'
  ·exact h'
  ·rw [fM h'] at ha;cases ha
 have hm:i<m.length:=by rw [<-h.1];exact hi
 exact ⟨m[i],by simp [hm],h.2 i a _ ha (by simp [hm])⟩
theorem cJ.append {D:Nat->Prop} {φ:bU} {l l':List AV} {m m':List Value} (h:cJ D φ l m) (h':cJ D φ l' m'):cJ D φ (l++l') (m++m'):=by
 refine ⟨by simp [h.1,h'.1],fun i a u ha hu=> ?_⟩
 by_cases hi:i<l.length
 ·rw [qL hi] at ha;rw [qL (by rw [<-h.1];exact hi)] at hu
  exact h.2 i a u ha hu
 ·rw [v8 (by omega)] at ha
  rw [v8 (by rw [<-h.1];omega),<-h.1] at hu
  exact h'.2 _ a u ha hu
theorem cJ.drop {D:Nat->Prop} {φ:bU} {l:List AV} {m:List Value} (n:Nat) (h:cJ D φ l m):cJ D φ (l.drop n) (m.drop n):=
 ⟨by simp [h.1],fun i a u ha hu=>h.2 (n+i) a u (by simpa using ha) (by simpa using hu)⟩
theorem cJ.take {D:Nat->Prop} {φ:bU} {l:List AV} {m:List Value} (n:Nat) (h:cJ D φ l m):cJ D φ (l.take n) (m.take n):=by
 refine ⟨by simp [h.1],fun i a u ha hu=> ?_⟩
 rw [jA] at ha hu;split at ha
 ·rename_i hi;rw [aM hi] at hu;exact h.2 i a u ha hu
 ·cases ha
theorem aI.uP {D:Nat->Prop} {φ:bU} {l:List AV} {m:List Value} (h:cJ D φ l m):aI D φ (.agg l) (.agg m.toArray):=
 .agg l m.toArray (by simp [h.1]) (fun i a u ha hu=>h.2 i a u ha (by simpa using hu))
theorem aI.By {D:Nat->Prop} {φ:bU} {l:List AV} {m:List Value} (h:cJ D φ l m):aI D φ (.bg l) (.tuple m.toArray):=
 .bg l m.toArray (by simp [h.1]) (fun i a u ha hu=>h.2 i a u ha (by simpa using hu))
theorem aI.fn' {D:Nat->Prop} {φ:bU} {f:FuncId} {l:List AV} {m:List Value} (hf:f≠YB) (h:cJ D φ l m):aI D φ (.fn f l) (.func (.func f) #[] m.toArray):=
 .fn f l m.toArray hf (by simp [h.1]) (fun i a u ha hu=>h.2 i a u ha (by simpa using hu))
theorem aI.ph {D:Nat->Prop} {φ:bU} {l:List AV} {u:Value} (h:aI D φ (.agg l) u): ∃m:List Value,u= .agg m.toArray/\cJ D φ l m:=by
 cases h with
 |agg _ cs hl h=>exact ⟨cs.toList,rfl,by simpa using hl,fun i a u ha hu=>h i a u ha (by simpa using hu)⟩
theorem aI.EP {D:Nat->Prop} {φ:bU} {l:List AV} {u:Value} (h:aI D φ (.bg l) u): ∃m:List Value,u= .tuple m.toArray/\cJ D φ l m:=by
 cases h with
 |bg _ cs hl h=>exact ⟨cs.toList,rfl,by simpa using hl,fun i a u ha hu=>h i a u ha (by simpa using hu)⟩
theorem aI.bm' {D:Nat->Prop} {φ:bU} {f:FuncId} {l:List AV} {m:List Value} (hf:f≠YB) (h:cJ D φ l m):aI D φ (.bm f l) (.func (.func f) m.toArray #[]):=
 .bm f l m.toArray hf (by simp [h.1]) (fun i a u ha hu=>h.2 i a u ha (by simpa using hu))
theorem aI.aai {D:Nat->Prop} {φ:bU} {f:FuncId} {l:List AV} {u:Value} (h:aI D φ (.bm f l) u):f≠YB/\ ∃m:List Value,u= .func (.func f) m.toArray #[]/\cJ D φ l m:=by
 cases h with
 |bm _ _ cs hf hl h=>exact ⟨hf,cs.toList,rfl,by simpa using hl,fun i a u ha hu=>h i a u ha (by simpa using hu)⟩
theorem aI.wR {D:Nat->Prop} {φ:bU} {f:FuncId} {l:List AV} {u:Value} (h:aI D φ (.fn f l) u):f≠YB/\ ∃m:List Value,u= .func (.func f) #[] m.toArray/\cJ D φ l m:=by
 cases h with
 |fn _ _ cs hf hl h=>exact ⟨hf,cs.toList,rfl,by simpa using hl,fun i a u ha hu=>h i a u ha (by simpa using hu)⟩
inductive cy where
 |i (l:List Int)
 |s (l:List (List UInt8))
 |a (l:List (List Int))
def cy.kY:cy->List Value
 | .i l=>l.map fun x=> .int .i64 x
 | .s l=>l.map fun x=> .string ⟨x.toArray⟩
 | .a l=>l.map fun x=> .agg (x.map fun y=>Value.int .i64 y).toArray
structure aW where
 cells:List AV
 ro:Bool:=false
 gr:Option Nat:=none
 gid:Option Nat:=none
 mp:Option cy:=none
abbrev Hf:=Nat->Option aW
def cy.find:cy->AV->Option (Option Nat)
 | .i l,.i .i64 x=> .some (l.findIdx? (x== ·))
 | .s l,.s x=> .some (l.findIdx? (x== ·))
 |_,_=>none
def cy.push:cy->AV->cy
 | .i l,.i _ x=> .i (l++[x])
 | .s l,.s x=> .s (l++[x])
 |ks,_=>ks
def cy.del:cy->Nat->cy
 | .i l,j=> .i (l.eraseIdx j)
 | .s l,j=> .s (l.eraseIdx j)
 | .a l,j=> .a (l.eraseIdx j)
def cy.len:cy->Nat
 | .i l=>l.length
 | .s l=>l.length
 | .a l=>l.length
theorem cy.Bg (ks:cy):ks.kY.length=ks.len:=by cases ks<;>simp [cy.kY,cy.len]
def cy.kd:cy->Nat
 | .i _=>0
 | .s _=>1
 | .a _=>2
def p6 (P:Program) (t:TypeId):Option Nat:=match P.underlying t with
 |some (.int _)=>some 0
 |some .string=>some 1
 |_=>none
def cy.ok (P:Program) (t:TypeId):cy->Bool
 | .i _=>match P.underlying t with
  |some (.int _)=>true
  |_=>false
 | .s _=>match P.underlying t with
  |some .string=>true
  |_=>false
 | .a _=>false
theorem rL {P:Program} {t:TypeId} {ks:cy} (h:p6 P t=some ks.kd):ks.ok P t=true:=by
 unfold p6 at h;split at h
 ·rename_i hu;cases ks<;>simp [cy.kd] at h;simp [cy.ok,hu]
 ·rename_i hu;cases ks<;>simp [cy.kd] at h;simp [cy.ok,hu]
 ·cases h
def qj (mp:Option cy) (o:Option Obj) (cs:Array Value) (elem:TypeId) (fr:Nat×Nat):Prop:=
 match mp with
 |none=>o=some (.cells cs elem fr)
 |some ks=> ∃es clk,o=some (.map es clk)/\es.toList.map (·.val)=cs.toList/\es.toList.map (·.key)=ks.kY
theorem qj.cells {mp:Option cy} {o:Option Obj} {cs:Array Value} {elem:TypeId} {fr:Nat×Nat} (h:qj mp o cs elem fr) (hm:mp=none):o=some (.cells cs elem fr):=by subst hm;exact h
theorem qj.mk {mp:Option cy} {o:Option Obj} {cs:Array Value} {elem:TypeId} {fr:Nat×Nat} (hm:mp=none) (h:o=some (.cells cs elem fr)):qj mp o cs elem fr:=by subst hm;exact h
theorem qj.of {mp:Option cy} {o:Option Obj} {cs cs0:Array Value} {elem elem0:TypeId} {fr fr0:Nat×Nat} (h:qj mp o cs0 elem0 fr0) (ho:o=some (.cells cs elem fr)):mp=none/\cs=cs0/\elem=elem0/\fr=fr0:=by
 unfold qj at h;split at h
 ·rw [ho] at h;cases h;exact ⟨rfl,rfl,rfl,rfl⟩
 ·obtain ⟨es,clk,h,_⟩:=h;rw [ho] at h;cases h
theorem qj.some {mp:Option cy} {o:Option Obj} {cs:Array Value} {elem:TypeId} {fr:Nat×Nat} (h:qj mp o cs elem fr): ∃x,o= .some x/\(∀r,x≠ .loop r):=by
 unfold qj at h;split at h
 ·exact ⟨_,h,fun r e=>by cases e⟩
 ·obtain ⟨es,clk,h,_⟩:=h;exact ⟨_,h,fun r e=>by cases e⟩
structure De (D:Nat->Prop) (φ:bU) (w:World) (b:Nat) (k:aW):Prop where
 ex: ∃cs elem fr,qj k.mp (w.heap[φ.cW b]?) cs elem fr∧
  (∀(i:Nat) (v:AV),k.cells[i]? =some v-> ∃u,cs[φ.off b+i]? =some u/\aI D φ v u)∧
  (k.ro=false->(k.gr=none->φ.off b=0)/\ ∀i,(i<cs.size\/i=cs.size/\k.gr≠some 1)-> ¬(fr.1<=i/\i<fr.2))∧
  (∀e,k.gr=some e->k.ro=false/\φ.fK b=e/\cs.size=φ.off b+φ.cap b*e)
 gid: ∀g,k.gid=some g->φ.cW b=g/\φ.off b=0
structure HR0 (D:Nat->Prop) (φ:bU) (H:Hf) (w:World):Prop where
 at_: ∀b k,H b=some k->D b/\De D φ w b k
 sep: ∀b1 b2 k1 k2,b1≠b2->H b1=some k1->H b2=some k2->k1.ro=false->φ.cW b1≠φ.cW b2
structure HR (D:Nat->Prop) (φ:bU) (H:Hf) (w:World):Prop extends HR0 D φ H w where
 fz: ∀B vs,φ.fz B=some vs-> ∃elem fr,w.heap[B]? =some (.cells vs elem fr)
 lp: ∀L r,φ.lp L=some r->w.heap[L]? =some (.loop r)
 kD: ∀b k B vs,H b=some k->k.ro=false->φ.fz B=some vs->φ.cW b≠B
structure FO (H:Hf) (φ:bU) (w w':World):Prop where
 os:w'.os=w.os
 tape:w'.tape=w.tape
 output:w'.output=w.output
 size:w.heap.size<=w'.heap.size
 block: ∀c,c<w.heap.size->(∀b k,H b=some k->k.ro=false->φ.cW b≠c)->w'.heap[c]? =w.heap[c]?
structure dR (D:Nat->Prop) (φ:bU) (H:Hf) (w:World) (D':Nat->Prop) (φ':bU) (H':Hf) (w':World):Prop where
 sub: ∀b,D b->D' b
 agree:dh D φ φ'
 hr:HR D' φ' H' w'
 eC:FO H φ w w'
 oY: ∀b k,H' b=some k->k.ro=false->w.heap.size<=φ'.cW b\/ ∃m km,H m=some km/\km.ro=false/\φ.cW m=φ'.cW b
 jO: ∀B vs,φ'.fz B=some vs->φ.fz B=some vs\/(w.heap.size<=B\/ ∃m km,H m=some km/\km.ro=false/\φ.cW m=B)
theorem dh.refl (D:Nat->Prop) (φ:bU):dh D φ φ:=⟨fun _ _=>⟨rfl,rfl,rfl,rfl⟩,fun _ _ h=>h,rfl⟩
theorem dh.trans {D D':Nat->Prop} {φ φ' φ'':bU} (hs: ∀b,D b->D' b) (h:dh D φ φ') (h':dh D' φ' φ''):dh D φ φ'':=⟨fun b hb=>by
 obtain ⟨a1,a2,a3,a4⟩:=h b hb;obtain ⟨b1,b2,b3,b4⟩:=h' b (hs b hb);exact ⟨b1.trans a1,b2.trans a2,b3.trans a3,b4.trans a4⟩,fun B vs hB=>h'.fz B vs (h.fz B vs hB),h'.lp.trans h.lp⟩
theorem FO.refl (H:Hf) (φ:bU) (w:World):FO H φ w w:=⟨rfl,rfl,rfl,bx _,fun _ _ _=>rfl⟩
theorem De.lt {D:Nat->Prop} {φ:bU} {w:World} {b:Nat} {k:aW} (h:De D φ w b k):φ.cW b<w.heap.size:=by
 obtain ⟨⟨cs,elem,fr,h1,_⟩,_⟩:=h;rcases dw (φ.cW b) w.heap.size with h'|h'
 ·exact h'
 ·obtain ⟨x,h2,_⟩:=h1.some;rw [gw h'] at h2;cases h2
theorem De.mono {D D':Nat->Prop} {φ φ':bU} {w w':World} {b:Nat} {k:aW} (hD: ∀b,D b->D' b) (hφ:dh D φ φ') (hb:D b) (hw:w'.heap[φ.cW b]? =w.heap[φ.cW b]?)
 (h:De D φ w b k):De D' φ' w' b k:=by
 obtain ⟨⟨cs,elem,fr,h1,h2,h3,h4⟩,h5⟩:=h;obtain ⟨e1,e2,e3,e4⟩:=hφ b hb;refine ⟨⟨cs,elem,fr,by rw [e1,hw];exact h1,fun i v hv=> ?_,fun hr=>by rw [e2];exact h3 hr,fun e he=>by rw [e2,e3,e4];exact h4 e he⟩,fun g hg=>by rw [e1,e2];exact h5 g hg⟩
 obtain ⟨u,hu,hvu⟩:=h2 i v hv;exact ⟨u,by rw [e2];exact hu,hvu.mono hD hφ⟩
theorem HR.sub {D:Nat->Prop} {φ:bU} {H H':Hf} {w:World} (h:HR D φ H w) (hs: ∀b k,H' b=some k->H b=some k):HR D φ H' w:=
 ⟨⟨fun b k hb=>h.at_ b k (hs b k hb),fun b1 b2 k1 k2 hne h1 h2 hk=>h.sep b1 b2 k1 k2 hne (hs _ _ h1) (hs _ _ h2) hk⟩,h.fz,h.lp,fun b k B vs hb hk hB=>h.kD b k B vs (hs _ _ hb) hk hB⟩
theorem HR.world {D:Nat->Prop} {φ:bU} {H:Hf} {w w':World} (h:HR D φ H w) (hw:w'.heap=w.heap):HR D φ H w':=
 ⟨⟨fun b k hb=>⟨(h.at_ b k hb).1,⟨by rw [hw];exact (h.at_ b k hb).2.ex,(h.at_ b k hb).2.gid⟩⟩,h.sep⟩,fun B vs hB=>by rw [hw];exact h.fz B vs hB,fun L r hL=>by rw [hw];exact h.lp L r hL,h.kD⟩
theorem HR.grow {D D':Nat->Prop} {φ:bU} {H:Hf} {w:World} (hD: ∀b,D b->D' b) (h:HR D φ H w):HR D' φ H w:=
 ⟨⟨fun b k hb=>⟨hD b (h.at_ b k hb).1,(h.at_ b k hb).2.mono hD (dh.refl _ _) (h.at_ b k hb).1 rfl⟩,h.sep⟩,h.fz,h.lp,h.kD⟩
theorem dR.refl {D:Nat->Prop} {φ:bU} {H:Hf} {w:World} (h:HR D φ H w):dR D φ H w D φ H w:=
 ⟨fun _ h=>h,dh.refl _ _,h,FO.refl _ _ _,fun b k hb hk=> .inr ⟨b,k,hb,hk,rfl⟩,fun _ _ h=> .inl h⟩
theorem dR.trans {D D1 D2:Nat->Prop} {φ φ1 φ2:bU} {H H1 H2:Hf} {w w1 w2:World} (h:dR D φ H w D1 φ1 H1 w1) (h':dR D1 φ1 H1 w1 D2 φ2 H2 w2):
 dR D φ H w D2 φ2 H2 w2:=by
 refine ⟨fun b hb=>h'.sub b (h.sub b hb),h.agree.trans h.sub h'.agree,h'.hr,⟨h'.eC.os.trans h.eC.os,h'.eC.tape.trans h.eC.tape,h'.eC.output.trans h.eC.output,Cg h.eC.size h'.eC.size,fun c hc hn=> ?_⟩,fun b k hb hk=> ?_,fun B vs hB=> ?_⟩
 ·rw [h'.eC.block c (wO hc h.eC.size) (fun b k hb hk he=> ?_)]
  ·exact h.eC.block c hc hn
  ·rcases h.oY b k hb hk with h1|⟨m,km,h1,h2,h3⟩
   ·rw [he] at h1;omega
   ·exact hn m km h1 h2 (h3.trans he)
 ·rcases h'.oY b k hb hk with h1|⟨m,km,h1,h2,h3⟩
  ·exact .inl (Cg h.eC.size h1)
  ·rcases h.oY m km h1 h2 with h4|⟨m',km',h4,h5,h6⟩
   ·exact .inl (by rw [<-h3];exact h4)
   ·exact .inr ⟨m',km',h4,h5,h6.trans h3⟩
 ·rcases h'.jO B vs hB with h1|h1|⟨m,km,h1,h2,h3⟩
  ·exact h.jO B vs h1
  ·exact .inr (.inl (Cg h.eC.size h1))
  ·rcases h.oY m km h1 h2 with h4|⟨m',km',h4,h5,h6⟩
   ·exact .inr (.inl (by rw [<-h3];exact h4))
   ·exact .inr (.inr ⟨m',km',h4,h5,h6.trans h3⟩)
theorem HR.Jb {D:Nat->Prop} {φ:bU} {H:Hf} {w w':World} (hH:HR D φ H w) (eC:FO H φ w w') {L:Nat} {r:Go.Loop} (hL:φ.lp L=some r):w'.heap[L]? =some (.loop r):=by
 have h1:=hH.lp L r hL;have hlt:L<w.heap.size:=by
  rcases dw L w.heap.size with h'|h'
  ·exact h'
  ·rw [gw h'] at h1;cases h1
 rw [eC.block L hlt (fun b k hb hk he=> ?_)]
 ·exact h1
 ·obtain ⟨⟨cs,elem,fr,h2,_⟩,_⟩:=(hH.at_ b k hb).2;obtain ⟨x,h3,h4⟩:=h2.some;rw [he,h1] at h3;cases h3;exact h4 r rfl
theorem dR.mk' {D D':Nat->Prop} {φ φ':bU} {H H':Hf} {w w':World} (hH:HR D φ H w) (hfz:φ'.fz=φ.fz) (hlp:φ'.lp=φ.lp) (sub: ∀b,D b->D' b)
 (agree: ∀b,D b->φ'.cW b=φ.cW b/\φ'.off b=φ.off b/\φ'.cap b=φ.cap b/\φ'.fK b=φ.fK b)
 (hr:HR0 D' φ' H' w') (eC:FO H φ w w') (oY: ∀b k,H' b=some k->k.ro=false->w.heap.size<=φ'.cW b\/ ∃m km,H m=some km/\km.ro=false/\φ.cW m=φ'.cW b):
 dR D φ H w D' φ' H' w':=by
 refine ⟨sub,⟨agree,fun B vs h=>by rw [hfz];exact h,hlp⟩,⟨hr,fun B vs hB=> ?_,fun L r hL=>by rw [hlp] at hL;exact hH.Jb eC hL,fun b k B vs hb hk hB=> ?_⟩,eC,oY,fun B vs h=> .inl (by rw [<-hfz];exact h)⟩
 ·rw [hfz] at hB;obtain ⟨elem,fr,h1⟩:=hH.fz B vs hB;refine ⟨elem,fr,?_⟩;rw [eC.block B ?_ (fun b k hb hk=>hH.kD b k B vs hb hk hB)]
  ·exact h1
  ·rcases dw B w.heap.size with h'|h'
   ·exact h'
   ·rw [gw h'] at h1;cases h1
 ·rw [hfz] at hB;obtain ⟨elem,fr,h1⟩:=hH.fz B vs hB;have hlt:B<w.heap.size:=by
   rcases dw B w.heap.size with h'|h'
   ·exact h'
   ·rw [gw h'] at h1;cases h1
  rcases oY b k hb hk with h2|⟨m,km,h2,h3,h4⟩
  ·omega
  ·rw [<-h4];exact hH.kD m km B vs h2 h3 hB
theorem dR.frame {D D':Nat->Prop} {φ φ':bU} {H0 H0' H:Hf} {w w':World} (hH:HR D φ H w) (hsub: ∀b k,H0 b=some k->H b=some k) (h:dR D φ H0 w D' φ' H0' w')
 (H':Hf) (hH': ∀b k,H' b=some k->H0' b=some k\/(H b=some k/\H0 b=none))
 (hro: ∀b k,H0' b=some k->k.ro=true->H0 b=some k):
 dR D φ H w D' φ' H' w':=by
 have old: ∀b k,H b=some k->H0 b=none-> ∀m km,H0 m=some km->km.ro=false->φ.cW m≠φ.cW b:=fun b k hb h0 m km hm hk=>
  hH.sep m b km k (by intro e;rw [e] at hm;rw [hm] at h0;cases h0) (hsub m km hm) hb hk
 have stays: ∀b k,H b=some k->H0 b=none->w'.heap[φ.cW b]? =w.heap[φ.cW b]? :=fun b k hb h0=>
  h.eC.block _ (hH.at_ b k hb).2.lt (fun m km hm hk=>old b k hb h0 m km hm hk)
 -- an old block outside the part against a changed or new one inside it
 have apart: ∀b1 k1 b2 k2,H' b1=some k1->H' b2=some k2->H0' b1=some k1->H b2=some k2->H0 b2=none->b1≠b2->(k1.ro=false\/k2.ro=false)->φ'.cW b1≠φ'.cW b2:=by
  intro b1 k1 b2 k2 g1 g2 h1 h2 h20 hne hk;have hD2:=(hH.at_ b2 k2 h2);have e2:=(h.agree b2 hD2.1).1;rw [e2];by_cases hk1:k1.ro=false
  ·rcases h.oY b1 k1 h1 hk1 with h3|⟨m,km,h3,h4,h5⟩
   ·have:=hD2.2.lt;omega
   ·rw [<-h5];exact old b2 k2 h2 h20 m km h3 h4
  ·have hk1':k1.ro=true:=by simpa using hk1
   have h10:=hro b1 k1 h1 hk1';have hD1:=hH.at_ b1 k1 (hsub b1 k1 h10);rw [(h.agree b1 hD1.1).1];have hk2:k2.ro=false:=hk.resolve_left hk1;exact fun e=>hH.sep b2 b1 k2 k1 (qg hne) h2 (hsub b1 k1 h10) hk2 e.symm
 refine ⟨h.sub,h.agree,⟨⟨fun b k hb=> ?_,fun b1 b2 k1 k2 hne h1 h2 hk=> ?_⟩,h.hr.fz,h.hr.lp,fun b k B vs hb hk hB=> ?_⟩,⟨h.eC.os,h.eC.tape,h.eC.output,h.eC.size,fun c hc hn=>h.eC.block c hc (fun b k hb hk=>hn b k (hsub b k hb) hk)⟩,fun b k hb hk=> ?_,fun B vs hB=> ?_⟩
 ·rcases hH' b k hb with h1|⟨h1,h2⟩
  ·exact h.hr.at_ b k h1
  ·have hb':=hH.at_ b k h1;exact ⟨h.sub b hb'.1,hb'.2.mono h.sub h.agree hb'.1 (stays b k h1 h2)⟩
 ·rcases hH' b1 k1 h1 with g1|⟨g1,g10⟩<;>rcases hH' b2 k2 h2 with g2|⟨g2,g20⟩
  ·exact h.hr.sep b1 b2 k1 k2 hne g1 g2 hk
  ·exact apart b1 k1 b2 k2 h1 h2 g1 g2 g20 hne (.inl hk)
  ·exact fun e=>apart b2 k2 b1 k1 h2 h1 g2 g1 g10 (qg hne) (.inr hk) e.symm
  ·rw [(h.agree b1 (hH.at_ b1 k1 g1).1).1,(h.agree b2 (hH.at_ b2 k2 g2).1).1];exact hH.sep b1 b2 k1 k2 hne g1 g2 hk
 ·rcases hH' b k hb with h1|⟨h1,h2⟩
  ·exact h.hr.kD b k B vs h1 hk hB
  ·rw [(h.agree b (hH.at_ b k h1).1).1];rcases h.jO B vs hB with g|g
   ·exact hH.kD b k B vs h1 hk g
   ·rcases g with g|⟨m,km,g1,g2,g3⟩
    ·have:=(hH.at_ b k h1).2.lt;omega
    ·intro e;exact old b k h1 h2 m km g1 g2 (g3.trans e.symm)
 ·rcases hH' b k hb with h1|⟨h1,h2⟩
  ·rcases h.oY b k h1 hk with h3|⟨m,km,h3,h4,h5⟩
   ·exact .inl h3
   ·exact .inr ⟨m,km,hsub m km h3,h4,h5⟩
  ·exact .inr ⟨b,k,h1,hk,((h.agree b (hH.at_ b k h1).1).1).symm⟩
 ·rcases h.jO B vs hB with h1|h1|⟨m,km,h1,h2,h3⟩
  ·exact .inl h1
  ·exact .inr (.inl h1)
  ·exact .inr (.inr ⟨m,km,hsub m km h1,h2,h3⟩)
theorem HR.same {D:Nat->Prop} {φ:bU} {H:Hf} {w w':World} (h:HR D φ H w) (hc: ∀(c:Nat) (cs:Array Value) (elem:TypeId) (fr:Nat×Nat),w.heap[c]? =some (.cells cs elem fr)->w'.heap[c]? =some (.cells cs elem fr)) (hcm: ∀(c:Nat) (es:Array MapEntry) (clk:Nat),w.heap[c]? =some (.map es clk)->w'.heap[c]? =some (.map es clk)) (hl: ∀L r,φ.lp L=some r->w'.heap[L]? =some (.loop r)):HR D φ H w':=
 ⟨⟨fun b k hb=>⟨(h.at_ b k hb).1,by
   obtain ⟨⟨cs,elem,fr,h1,h2⟩,h5⟩:=(h.at_ b k hb).2;refine ⟨⟨cs,elem,fr,?_,h2⟩,h5⟩;revert h1;unfold qj;cases k.mp with
   |none=>exact hc _ _ _ _
   |some ks=>exact fun ⟨es,clk,h1,h3⟩=>⟨es,clk,hcm _ _ _ h1,h3⟩⟩,h.sep⟩,fun B vs hB=>by
   obtain ⟨elem,fr,h1⟩:=h.fz B vs hB;exact ⟨elem,fr,hc _ _ _ _ h1⟩,hl,h.kD⟩
theorem dR.same {D D':Nat->Prop} {φ φ':bU} {H H':Hf} {w w' w'':World} (h:dR D φ H w D' φ' H' w') (hr:HR D' φ' H' w'') (hos:w''.os=w'.os) (ht:w''.tape=w'.tape) (ho:w''.output=w'.output) (hsz:w'.heap.size<=w''.heap.size)
 (hb: ∀c,c<w.heap.size->w''.heap[c]? =w'.heap[c]?):dR D φ H w D' φ' H' w'':=
 ⟨h.sub,h.agree,hr,⟨hos.trans h.eC.os,ht.trans h.eC.tape,ho.trans h.eC.output,Cg h.eC.size hsz,fun c hc hn=>(hb c hc).trans (h.eC.block c hc hn)⟩,h.oY,h.jO⟩
abbrev Hp:=List (Nat×aW)
abbrev Env:=List (Nat×AV)
def ab:Hp->Hf
 |[],_=>none
 |(c,k)::r,b=>bif Nat.beq c b then some k else ab r b
def cV:Env->Nat->Option AV
 |[],_=>none
 |(c,k)::r,b=>bif Nat.beq c b then some k else cV r b
def ig:Hp->Nat->aW->Hp
 |[],b,x=>[(b,x)]
 |(c,k)::r,b,x=>bif Nat.beq c b then (c,x)::r else (c,k)::ig r b x
def aW.DH (k:aW):Option aW:=match k.mp with
 |none=>some k
 |some _=>none
def iO (h:Hp) (b:Nat):Option aW:=(ab h b).bind aW.DH
theorem dO {h:Hp} {b:Nat} {k:aW} (hk:iO h b=some k):ab h b=some k/\k.mp=none:=by
 simp only [iO,af] at hk;obtain ⟨k',h1,h2⟩:=hk;revert h2;unfold aW.DH;cases hm:k'.mp
 ·intro h2;cases h2;exact ⟨h1,hm⟩
 ·intro h2;cases h2
theorem IS {h:Hp} {b:Nat} {k:aW} (hk:ab h b=some k) (hm:k.mp=none):iO h b=some k:=by simp only [iO,hk,aS,aW.DH,hm]
def nH:Hp->Nat->Hp
 |[],_=>[]
 |(c,k)::r,b=>bif Nat.beq c b then nH r b else (c,k)::nH r b
def vW:Hp->Nat->Option AV
 |[],_=>none
 |(c,k)::r,g=>match k.gid with
  |some g'=>bif Nat.beq g' g then some (.p c 0) else vW r g
  |none=>vW r g
def iC (h:Hp) (g:Nat):Option AV:=(vW h g).bind fun v=>match v with
 | .p c _=>(ab h c).bind fun k=>match k.gid with
  |some g'=>bif Nat.beq g' g then some (.p c 0) else none
  |none=>none
 |_=>none
inductive cC where
 |t (n:Nat)
 |c (v:AV)
 |g (n:Nat)
def cC.ev (e:Env) (h:Hp):cC->Option AV
 | .t n=>cV e n
 | .c v=>some v
 | .g n=>iC h n
def xn (e:Env) (h:Hp):List cC->Option (List AV)
 |[]=>some []
 |x::r=>(x.ev e h).bind fun v=>(xn e h r).bind fun vs=>some (v::vs)
def sd (e:Env) (h:Hp):List (Nat×Nat×cC)->Option (List (Nat×Nat×AV))
 |[]=>some []
 |(o,z,x)::r=>(x.ev e h).bind fun v=>(sd e h r).bind fun vs=>some ((o,z,v)::vs)
inductive Kd where
 |b|i|s
inductive jJ where
 |mv (x:cC)
 |pick (c a b:cC)
 |new (z:List AV)
 |box (x:cC)
 |build (z:List AV) (ps:List (Nat×Nat×cC))
 |lC (z:List AV) (len:Nat) (ps:List (Nat×Nat×cC))
 |ld (agg:Bool) (sz:Nat) (a:cC)
 |st (sz:Nat) (a x:cC)
 |nck (x:cC)
 |bin (op:BinOp) (x y:cC)
 |ye (neg agg:Bool) (ks:List Kd) (x y:cC)
 |EO (neg:Bool) (k:Nat) (x y:cC)
 |not (x:cC)
 |neg (x:cC)
 |yk (k:IntKind) (x:cC)
 |s2b (x:cC)
 |b2s (x:cC)
 |idc (x:cC)
 |Co (f:FuncId) (caps:List cC)
 |mkm (f:FuncId) (first:List cC)
 |Vi (x:cC) (lo hi:Option cC)
 |qT (fK:Nat) (x:cC) (lo hi mx:Option cC)
 |slA (n fK:Nat) (x:cC) (lo hi mx:Option cC)
 |fa (off:Nat) (x:cC)
 |fld (agg:Bool) (sz off:Nat) (x:cC)
 |Ii (n fK:Nat) (x i:cC)
 |qO (fK:Nat) (x i:cC)
 |Rg (n fK:Nat) (agg:Bool) (x i:cC)
 |uZ (x i:cC)
 |ext (x:cC) (i:Nat)
 |BH (x:cC)
 |oF (x:cC)
 |Mn (n:Nat)
 |Jy (x:cC)
 |mn (x:cC) (xs:List cC)
 |mx (x:cC) (xs:List cC)
 |R7 (fK bytes:Nat) (z:List AV) (l c:cC)
 |app (fK bytes:Nat) (z:List AV) (s x:cC)
 |apz (fK bytes:Nat) (z:List AV) (s k:cC)
 |FW (fK:Nat) (d s:cC)
 |Rt (fK:Nat) (z:List AV) (x:cC)
 |Kw (t:TypeId) (x:cC)
 |Qb (ks:cy)
 |mpG (kd:Nat) (ok:Bool) (z:AV) (m k:cC)
 |KB (kd:Nat) (m k x:cC)
 |mpD (kd:Nat) (m k:cC)
 |J1 (m:cC)
 |OH (t:TypeId) (z:AV) (x:cC)
 |WM (neg:Bool) (x:cC)
 |MJ (x:cC)
 |Q9
 |w9 (f:cC) (args:List cC)
 |call (f:cC) (args:List cC)
 |bad
structure aj where
 dst:Option Nat
 op:jJ
 guard:Option (Nat×Bool)
 spl:Bool
abbrev oo (d:Nat) (x:jJ):aj:=⟨some d,x,none,false⟩
abbrev ot (d:Nat) (x:jJ):aj:=⟨some d,x,none,true⟩
abbrev xp (x:jJ):aj:=⟨none,x,none,false⟩
abbrev og (d:Nat) (x:jJ) (g:Nat) (b s:Bool):aj:=⟨some d,x,some (g,b),s⟩
abbrev aa (a:Nat)(b:Nat):aj:=oo a (.mv (.t b))
abbrev ak (a:Nat)(b:Nat)(c:Nat):aj:=oo a (.fa b (.t c))
abbrev aB (a:Nat)(b:Nat)(c:Nat):aj:=oo a (.ld false b (.t c))
abbrev aO (a:Nat)(b:Nat):aj:=ot a (.mv (.t b))
abbrev aZ (a:Nat)(b:Nat)(c:Nat):aj:=xp (.st a (.t b) (.t c))
abbrev bh (a:Nat)(b:Nat)(c:Nat):aj:=oo a (.ext (.t b) c)
abbrev bE (a:Nat)(b:Nat):aj:=oo a (.nck (.t b))
abbrev bF (a:Nat)(b:Nat)(c:Nat):aj:=oo a (.pick (.t b) (.t c) (.c (.b false)))
abbrev bI (a:Nat)(b:Nat)(c:Nat):aj:=oo a (.ld true b (.t c))
abbrev bT (a:Nat)(b:Int):aj:=oo a (.mv (.c (.i .i64 b)))
abbrev bb (a:Nat)(b:Nat)(c:Nat):aj:=og a (.mv (.t b)) c true false
abbrev cm (a:Nat)(b:Nat):aj:=oo a (.oF (.t b))
abbrev cr (a:Nat)(b:Nat)(c:Nat)(d:Nat):aj:=og a (.fa b (.t c)) d true false
abbrev cq (a:Nat)(b:Nat)(c:Int)(d:Nat):aj:=og a (.bin .eql (.t b) (.c (.i .i64 c))) d true false
abbrev cw (a:Nat)(b:Nat)(c:Nat)(d:Nat):aj:=og a (.ld false b (.t c)) d true false
abbrev cD (a:Nat)(b:Nat):aj:=oo a (.box (.t b))
abbrev cE (a:Nat)(b:Nat)(c:Nat)(d:Nat):aj:=og a (.fa b (.t c)) d false false
abbrev cI (a:Nat):aj:=oo a (.mv (.c (.b false)))
abbrev cK (a:Nat)(b:Nat)(c:Nat)(d:Nat):aj:=oo a (.call (.c (.fn b [])) [.t c,.t d])
abbrev cP (a:Nat)(b:Nat)(c:Nat)(d:Nat):aj:=og a (.ld false b (.t c)) d false false
abbrev cU (a:Nat)(b:Nat)(c:Nat)(d:Nat):aj:=oo a (.qO b (.t c) (.t d))
abbrev dk (a:Nat):aj:=oo a (.new [.ns,.ns,.ns])
abbrev du (a:Nat)(b:Nat)(c:Nat):aj:=oo a (.call (.c (.fn b [])) [.t c])
abbrev dA (a:Nat)(b:Nat)(c:Int):aj:=oo a (.bin .add (.t b) (.c (.i .i64 c)))
abbrev ei (a:Nat)(b:Nat)(c:Nat):aj:=ot a (.bin .lss (.t b) (.t c))
abbrev ep (a:Nat)(b:Nat)(c:Nat):aj:=oo a (.pick (.t b) (.c (.b true)) (.t c))
abbrev fB (a:Nat)(b:Nat)(c:Nat):aj:=og a (.mv (.t b)) c false false
abbrev fY (a:Nat)(b:Nat)(c:Nat)(d:Nat):aj:=og a (.ld true b (.t c)) d true false
abbrev gA (a:Nat):aj:=oo a (.mv (.c (.ns)))
abbrev jd (a:Nat)(b:Nat)(c:Nat)(d:Int):aj:=oo a (.call (.c (.fn b [])) [.t c,.c (.i .i64 d)])
abbrev jx (a:Nat)(b:Nat)(c:Nat):aj:=og a (.not (.t b)) c false false
abbrev jF (a:Nat)(b:Nat)(c:Int):aj:=oo a (.bin .eql (.t b) (.c (.i .u8 c)))
abbrev jV (a:Nat)(b:Nat)(c:Nat):aj:=ot a (.pick (.t b) (.c (.b true)) (.t c))
abbrev jW (a:Nat)(b:Nat):aj:=oo a (.yk .i64 (.t b))
abbrev jZ (a:Nat)(b:Nat)(c:Int):aj:=oo a (.bin .eql (.t b) (.c (.i .i64 c)))
abbrev kU (a:Nat)(b:Nat)(c:Nat):aj:=og a (.oF (.t b)) c false false
abbrev kB (a:Nat)(b:Nat)(c:Int):aj:=oo a (.bin .sub (.t b) (.c (.i .i64 c)))
abbrev kE (a:Nat)(b:Int)(c:Nat)(d:Nat)(e:Nat)(f:Int)(g:Nat):aj:=og a (.lC [.i .i64 b] c [(d,e,.c (.i .i64 f))]) g true false
abbrev lu (a:Nat)(b:Nat)(c:Int)(d:Nat):aj:=og a (.bin .neq (.t b) (.c (.i .i64 c))) d false false
abbrev mq (a:Nat)(b:Nat)(c:Nat)(d:Nat):aj:=og a (.bin .eql (.t b) (.t c)) d true false
abbrev lV (a:Nat)(b:Nat):aj:=oo a (.not (.t b))
abbrev lN (a:Nat)(b:Nat)(c:Nat):aj:=oo a (.bin .add (.t b) (.t c))
abbrev lZ (a:Nat)(b:Nat)(c:Nat)(d:Int):aj:=oo a (.qO b (.t c) (.c (.i .i64 d)))
abbrev nB (a:Nat)(b:Nat)(c:Int):aj:=ot a (.bin .lss (.t b) (.c (.i .i64 c)))
abbrev nC (a:Nat)(b:Nat):aj:=ot a (.not (.t b))
abbrev nA (a:Nat)(b:Nat)(c:Int):aj:=xp (.st a (.t b) (.c (.i .i64 c)))
abbrev nF (a:Nat)(b:Nat)(c:Nat)(d:Int)(e:Int):aj:=oo a (.call (.c (.fn b [])) [.t c,.c (.i .i64 d),.c (.i .i64 e)])
abbrev nE (a:Nat)(b:Nat)(c:Nat)(d:Int)(e:Int)(f:Int)(g:Int)(h:Int)(j:Int)(k:Nat):aj:=og a (.call (.t b) [.t c,.c (.i .i64 d),.c (.i .i64 e),.c (.i .i64 f),.c (.i .i64 g),.c (.i .i64 h),.c (.i .i64 j)]) k true false
abbrev oV (a:Nat)(b:Nat)(c:Nat):aj:=oo a (.Co b [.t c])
abbrev pY (a:Nat):aj:=oo a (.mv (.c (.b true)))
abbrev qe (a:Nat)(b:Nat)(c:Int)(d:Nat)(e:Nat)(f:Int)(g:Nat):aj:=og a (.call (.t b) [.c (.i .i64 c),.t d,.t e,.c (.i .u64 f)]) g true false
abbrev pV (a:Nat)(b:Nat)(c:Nat)(d:Nat):aj:=og a (.call (.t b) [.c (.fn c [])]) d true false
abbrev qZ (a:Nat)(b:Int)(c:Int):aj:=oo a (.new [.i .i64 b,.ns,.ns,.i .u64 c])
abbrev rS (a:Nat)(b:Nat)(c:Nat):aj:=og a (.oF (.t b)) c true false
abbrev rI (a:Nat):aj:=oo a (.mv (.c (.s [])))
abbrev r7 (a:Nat)(b:Nat)(c:Int):aj:=oo a (.bin .shr (.t b) (.c (.i .u64 c)))
abbrev so (a:Nat)(b:Nat)(c:Nat)(d:Nat)(e:Nat):aj:=og a (.call (.c (.fn b [])) [.t c,.t d]) e true false
abbrev rH (a:Nat)(b:Int)(c:Nat)(d:Nat)(e:Nat)(f:Int):aj:=oo a (.lC [.i .i64 b] c [(d,e,.c (.i .i64 f))])
abbrev uf (a:Nat)(b:Nat)(c:Nat)(d:Nat):aj:=og a (.ld true b (.t c)) d false false
abbrev uD (a:Nat)(b:Nat)(c:Nat):aj:=ot a (.bin .neq (.t b) (.t c))
abbrev tJ (a:Nat)(b:Nat)(c:Nat):aj:=og a (.mv (.t b)) c true true
abbrev uy (a:Nat)(b:Nat)(c:Nat)(d:Nat):aj:=og a (.pick (.t b) (.c (.b true)) (.t c)) d true false
abbrev uq (a:Nat)(b:Nat)(c:Int):aj:=oo a (.bin .lss (.t b) (.c (.i .i64 c)))
abbrev uF (a:Nat)(b:Nat)(c:Nat):aj:=oo a (.mkm b [.t c])
abbrev uC (a:Nat)(b:Nat):aj:=oo a (.yk .u8 (.t b))
abbrev uj (a:Nat)(b:Nat)(c:Nat):aj:=og a (.nck (.t b)) c false false
abbrev uw (a:Nat)(b:Nat)(c:Nat):aj:=og a (.nck (.t b)) c true false
abbrev uG (a:Nat)(b:Nat)(c:Nat)(d:Nat):aj:=oo a (.Co b [.t c,.t d])
abbrev wx (a:Nat)(b:Nat)(c:Nat)(d:Nat):aj:=og a (.bin .neq (.t b) (.t c)) d false false
abbrev vV (a:Nat)(b:Nat)(c:Int):aj:=ot a (.bin .neq (.t b) (.c (.i .i64 c)))
abbrev vC (a:Nat)(b:Nat)(c:Int):aj:=oo a (.bin .geq (.t b) (.c (.i .i64 c)))
abbrev wJ (a:Nat)(b:Nat)(c:Int):aj:=oo a (.bin .and (.t b) (.c (.i .u8 c)))
abbrev vg (a:Nat)(b:Nat):aj:=oo a (.yk .u32 (.t b))
abbrev wm (a:Nat)(b:Int):aj:=oo a (.new [.i .i64 b])
abbrev yn (a:Nat)(b:Nat)(c:Nat):aj:=oo a (.bin .neq (.t b) (.t c))
abbrev xW (a:Nat)(b:Nat)(c:Nat)(d:Nat)(e:Nat):aj:=og a (.call (.c (.fn b [])) [.t c,.t d]) e false false
abbrev yt (a:Nat)(b:Nat)(c:Nat)(d:Nat):aj:=og a (.call (.c (.fn b [])) [.t c]) d false false
abbrev yb (a:Nat)(b:Nat)(c:Nat):aj:=oo a (.bin .eql (.t b) (.t c))
abbrev yc (a:Nat)(b:Nat)(c:Int)(d:Nat)(e:Nat):aj:=oo a (.call (.c (.fn b [])) [.c (.i .i64 c),.t d,.t e])
abbrev xM (a:Nat)(b:Nat)(c:Nat)(d:Nat)(e:Nat):aj:=oo a (.call (.c (.fn b [])) [.t c,.t d,.t e])
abbrev yz (a:Nat)(b:Nat)(c:Nat)(d:Nat):aj:=og a (.bin .shr (.t b) (.t c)) d false false
abbrev xP (a:Nat)(b:Nat)(c:Nat):aj:=oo a (.bin .sub (.t b) (.t c))
abbrev xU (a:Nat)(b:Nat)(c:Nat):aj:=oo a (.bin .mul (.t b) (.t c))
abbrev yH (a:Nat)(b:Int)(c:Int)(d:Nat)(e:Nat)(f:Nat)(g:Int)(h:Nat)(j:Nat)(k:Int):aj:=oo a (.lC [.i .i64 b,.i .i64 c] d [(e,f,.c (.i .i64 g)),(h,j,.c (.i .i64 k))])
abbrev yq (a:Nat)(b:Nat)(c:Nat):aj:=oo a (.bin .rem (.t b) (.t c))
abbrev BP (a:Nat)(b:Nat)(c:Int)(d:Nat)(e:Nat):aj:=og a (.call (.c (.fn b [])) [.c (.i .i64 c),.t d]) e true false
abbrev B8 (a:Nat)(b:Nat)(c:Int):aj:=oo a (.uZ (.t b) (.c (.i .i64 c)))
abbrev BD (a:Nat)(b:Nat)(c:Int):aj:=oo a (.bin .neq (.t b) (.c (.i .u8 c)))
abbrev BZ (a:Nat)(b:Nat)(c:Nat)(d:Nat):aj:=og a (.call (.c (.fn b [])) [.t c]) d true false
abbrev Bf (a:Nat)(b:Nat):aj:=oo a (.lC [] b [])
abbrev Cd (a:Nat)(b:Nat)(c:Nat)(d:Int)(e:Nat)(f:Nat):aj:=oo a (.app b c [.i .i64 d] (.t e) (.t f))
abbrev A8 (a:Nat)(b:Nat)(c:Int)(d:Nat)(e:Int)(f:Nat):aj:=og a (.call (.c (.fn b [])) [.c (.i .i64 c),.t d,.c (.i .i64 e)]) f true false
abbrev BG (a:Nat)(b:Nat)(c:Int)(d:Nat):aj:=og a (.bin .sub (.t b) (.c (.i .i64 c))) d true false
abbrev A0 (a:Nat)(b:Nat)(c:Int)(d:Nat)(e:Nat)(f:Nat):aj:=og a (.call (.c (.fn b [])) [.c (.i .i64 c),.t d,.t e]) f true false
abbrev AL (a:Nat)(b:Nat):aj:=oo a (.call (.t b) [])
abbrev BQ (a:Nat)(b:Nat)(c:Nat)(d:Nat):aj:=og a (.bin .leq (.t b) (.t c)) d true false
abbrev Bv (a:Nat)(b:Nat):aj:=oo a (.yk .u16 (.t b))
abbrev Bu (a:Nat):aj:=xp (.MJ (.t a))
abbrev AN (a:Nat):aj:=oo a (.new [.ns])
abbrev BE (a:Nat)(b:Nat)(c:Nat)(d:Nat):aj:=oo a (.qT b (.t c) (some (.t d)) none none)
abbrev wX (a:Nat)(b:Nat):aj:=oo a (.yk .u64 (.t b))
abbrev vD (a:Nat)(b:Nat)(c:Nat)(d:Nat):aj:=oo a (.call (.t b) [.t c,.t d])
abbrev wE (a:Nat)(b:Nat)(c:Nat)(d:Int)(e:Int)(f:Int)(g:Int)(h:Int)(j:Int):aj:=oo a (.call (.c (.fn b [])) [.t c,.c (.i .i64 d),.c (.i .i64 e),.c (.i .i64 f),.c (.i .i64 g),.c (.i .i64 h),.c (.i .i64 j)])
abbrev wc (a:Nat)(b:Nat)(c:Nat)(d:Int)(e:Nat)(f:Nat)(g:Int):aj:=oo a (.call (.c (.fn b [])) [.t c,.c (.i .i64 d),.t e,.t f,.c (.i .u64 g)])
abbrev wz (a:Nat)(b:Nat)(c:Nat)(d:Int)(e:Nat)(f:Nat):aj:=og a (.call (.c (.fn b [])) [.t c,.c (.i .i64 d),.t e]) f true false
abbrev Aj (a:Nat)(b:Nat)(c:Int)(d:Nat):aj:=og a (.bin .sub (.t b) (.c (.i .i64 c))) d false false
abbrev zZ (a:Nat)(b:Nat)(c:Int):aj:=oo a (.bin .shl (.t b) (.c (.i .u64 c)))
abbrev Ag (a:Nat)(b:Nat)(c:Int)(d:Nat)(e:Int)(f:Nat):aj:=og a (.call (.c (.fn b [])) [.c (.i .i64 c),.t d,.c (.i .i64 e)]) f false false
abbrev zf (a:Nat)(b:Nat)(c:Nat):aj:=ot a (.pick (.t b) (.t c) (.c (.b false)))
abbrev zX (a:Nat)(b:Nat)(c:Nat):aj:=ot a (.bin .eql (.t b) (.t c))
abbrev Aw (a:Nat)(b:Nat)(c:Int)(d:Nat)(e:Nat):aj:=og a (.call (.c (.fn b [])) [.c (.i .i64 c),.t d]) e false false
abbrev zc (a:Nat)(b:Nat)(c:Nat)(d:Nat):aj:=oo a (.qT b (.t c) none (some (.t d)) none)
abbrev Ak (a:Nat)(b:Int)(c:Int)(d:Nat)(e:Nat)(f:Nat)(g:Nat):aj:=oo a (.lC [.i .i64 b,.ns,.ns,.i .u64 c] d [(e,f,.t g)])
abbrev yQ (a:Nat)(b:Nat)(c:Nat)(d:Int)(e:Int)(f:Nat)(g:Nat):aj:=oo a (.app b c [.i .i64 d,.ns,.ns,.i .u64 e] (.t f) (.t g))
abbrev zk (a:Nat)(b:Nat)(c:Nat)(d:Int)(e:Nat)(f:Nat):aj:=oo a (.app b c [.s [],.i .i64 d] (.t e) (.t f))
abbrev yV (a:Nat)(b:Int):aj:=oo a (.mv (.c (.i .u64 b)))
abbrev Ao (a:Nat)(b:Nat)(c:Nat)(d:Int)(e:Nat):aj:=og a (.qO b (.t c) (.c (.i .i64 d))) e true false
abbrev zm (a:Nat)(b:Nat)(c:Nat)(d:Int)(e:Nat):aj:=og a (.qO b (.t c) (.c (.i .i64 d))) e false false
abbrev CW (a:Nat)(b:Int)(c:Int)(d:Int)(e:Int):aj:=oo a (.new [.b false,.b false,.b false,.b false,.i .i64 b,.i .i64 c,.i .i64 d,.i .i64 e])
abbrev Dx (a:Nat)(b:Nat)(c:Int)(d:Nat):aj:=oo a (.call (.c (.fn b [])) [.c (.i .i64 c),.t d])
abbrev DU (a:Nat)(b:Nat)(c:Int)(d:Nat):aj:=og a (.bin .leq (.t b) (.c (.i .i64 c))) d true false
abbrev CM (a:Nat)(b:Nat)(c:Nat):aj:=ot a (.EO false b (.t c) (.c (.ns)))
abbrev DJ (a:Nat)(b:Nat)(c:Int):aj:=oo a (.bin .neq (.t b) (.c (.i .i64 c)))
abbrev D6 (a:Nat)(b:Nat)(c:Int)(d:Nat)(e:Int):aj:=oo a (.call (.c (.fn b [])) [.c (.i .i64 c),.t d,.c (.i .i64 e)])
abbrev C9 (a:Nat)(b:Int)(c:Int)(d:Int)(e:Int)(f:Int):aj:=oo a (.new [.b false,.i .i64 b,.i .i64 c,.i .i64 d,.i .i64 e,.ns,.ns,.i .i64 f,.s []])
abbrev Dg (a:Nat)(b:Nat)(c:Int)(d:Nat):aj:=og a (.bin .gtr (.t b) (.c (.i .i64 c))) d false false
abbrev CJ (a:Nat)(b:Nat)(c:Int)(d:Nat):aj:=og a (.bin .lss (.t b) (.c (.i .i64 c))) d false false
abbrev CU (a:Nat)(b:Nat)(c:Int):aj:=ot a (.bin .eql (.t b) (.c (.i .i64 c)))
abbrev Da (a:Nat)(b:Nat)(c:Int):aj:=oo a (.bin .and (.t b) (.c (.i .u64 c)))
abbrev Dj (a:Nat)(b:Nat):aj:=oo a (.call (.c (.fn b [])) [])
abbrev DZ (a:Nat)(b:Nat)(c:Nat)(d:Int)(e:Nat):aj:=oo a (.call (.c (.fn b [])) [.t c,.c (.i .i64 d),.t e])
abbrev Dw (a:Nat)(b:Nat)(c:Int):aj:=oo a (.call (.c (.fn b [])) [.c (.i .i64 c)])
abbrev Cy (a:Nat)(b:Nat)(c:Nat)(d:Int)(e:Int)(f:Int)(g:Int)(h:Int)(j:Int):aj:=oo a (.call (.t b) [.t c,.c (.i .i64 d),.c (.i .i64 e),.c (.i .i64 f),.c (.i .i64 g),.c (.i .i64 h),.c (.i .i64 j)])
abbrev CF (a:Nat)(b:Nat)(c:Int):aj:=ot a (.bin .gtr (.t b) (.c (.i .i64 c)))
abbrev Du (a:Nat)(b:Nat)(c:Int):aj:=oo a (.bin .rem (.t b) (.c (.i .u8 c)))
abbrev Hs (a:Nat)(b:Int)(c:Int)(d:Int)(e:Int):aj:=oo a (.build [.b false,.b false,.b false,.b false,.i .i64 b,.i .i64 c,.i .i64 d,.i .i64 e] [])
abbrev nK:List AV:=[.i .i64 0,.i .i64 0,.i .i64 0,.i .i64 0,.ns,.i .i64 0,.i .i64 0,.i .i64 0,.i .i64 0,.i .i64 0,.i .i64 0,.i .i64 0,.i .i64 0,.b false,.i .i64 0,.i .i64 0,.i .i64 0,.i .i64 0,.i .i64 0,.i .i64 0,.i .i64 0,.i .i64 0]
abbrev pJ:List AV:=[.ns,.i .i64 0,.i .i64 0,.i .i64 0,.i .i64 0,.i .i64 0,.i .i64 0,.i .i64 0,.i .i64 0,.b false,.i .i64 0,.i .i64 0,.i .i64 0,.i .i64 0,.i .i64 0,.i .i64 0,.i .i64 0,.i .i64 0]
abbrev aoW:List AV:=[.b false,.b false,.b false,.b false,.i .i64 0,.i .i64 0,.i .i64 0,.i .i64 0]
abbrev ak6:List AV:=[.i .i64 0,.i .i64 0,.i .i64 0,.i .i64 0,.i .i64 0]
abbrev xz:List AV:=[.i .i64 0,.i .i64 0,.i .i64 0,.i .i64 0]
structure bX where
 v:AV
 n:Nat
 rd:List Nat:=[]
 md:List (Nat×Option aW):=[]
 nw:List (Nat×aW):=[]
 pn:Option Value:=none
def dH:List (Nat×Option aW)->Nat->Option (Option aW)
 |[],_=>none
 |(c,k)::r,b=>bif Nat.beq c b then some k else dH r b
def bX.app (E:bX) (H:Hf):Hf:=fun b=>
 match dH E.md b with
 |some r=>r
 |none=>match ab E.nw b with
  |some k=>some k
  |none=>H b
def jb (h:Hp):List (Nat×Option aW)->Hp
 |[]=>h
 |(b,some k)::r=>ig (jb h r) b k
 |(b,none)::r=>nH (jb h r) b
def bX.fe (E:bX) (h:Hp):Hp:=jb (E.nw++h) E.md
def inl:List Nat->Nat->Bool
 |[],_=>false
 |c::r,b=>Nat.beq c b||inl r b
def only (H:Hf) (rd:List Nat):Hf:=fun b=>bif inl rd b then H b else none
def pe (v:AV) (n:Nat):Option (Bool×bX):=some (true,{v,n})
/-! ### single operations -/
def AV.cells:AV->List AV
 | .agg l=>l
 |v=>[v]
def AV.one:AV->Bool
 | .agg _| .bg _| .any=>false
 |_=>true
def AV.isAny:AV->Bool
 | .any=>true
 |_=>false
def aA (l:List AV) (o z:Nat):List AV:=(l.drop o).take z
def eF (l:List AV) (o:Nat) (xs:List AV):List AV:=l.take o++xs++l.drop (o+xs.length)
def lv:List AV->List (Nat×Nat×AV)->Option (List AV)
 |z,[]=>some z
 |z,(o,sz,v)::r=>bif Nat.beq v.cells.length sz&&Nat.ble (o+sz) z.length&& !v.isAny then lv (eF z o v.cells) r else none
def EO:Nat->AV->AV->Option Bool
 |0,.np,.np=>some true
 |0,.p _ _,.np=>some false
 |0,.np,.p _ _=>some false
 |1,.ns,.ns=>some true
 |1,.sl _ _ _ _,.ns=>some false
 |1,.sg _ _ _,.ns=>some false
 |1,.ns,.sl _ _ _ _=>some false
 |1,.ns,.sg _ _ _=>some false
 |0,.fp _ _,.np=>some false
 |0,.np,.fp _ _=>some false
 |1,.fz _ (_+1),.ns=>some false
 |1,.en,.ns=>some false
 |1,.ns,.fz _ (_+1)=>some false
 |2,.fn _ _,.nf=>some false
 |2,.nf,.fn _ _=>some false
 |2,.nf,.nf=>some true
 |_,_,_=>none
def Ml:Kd->AV->AV->Option Bool
 | .b,.b x,.b y=>some (x==y)
 | .i,.i k x,.i k' y=>if k=k' then some (x==y) else none
 | .s,.s x,.s y=>some (x==y)
 |_,_,_=>none
def eqs:List Kd->List AV->List AV->Option Bool
 |[],[],[]=>some true
 |k::ks,x::xs,y::ys=>(Ml k x y).bind fun a=>(eqs ks xs ys).bind fun b=>some (a&&b)
 |_,_,_=>none
def ye (agg:Bool) (ks:List Kd) (x y:AV):Option Bool:=
 match agg,x,y with
 |true,.agg xs,.agg ys=>eqs ks xs ys
 |false,x,y=>eqs ks [x] [y]
 |_,_,_=>none
def sm (op:BinOp) (k:IntKind) (a b:Int):Option (Bool×AV):=
 match op with
 | .add=>some (true,.i k (k.wrap (a+b)))
 | .sub=>some (true,.i k (k.wrap (a-b)))
 | .mul=>some (true,.i k (k.wrap (a*b)))
 | .quo=>some (b !=0,.i k (k.wrap (a.tdiv b)))
 | .rem=>some (b !=0,.i k (a.tmod b))
 | .and=>some (true,.i k (k.wrap (BitVec.ofInt k.bits a &&& BitVec.ofInt k.bits b).toNat))
 | .or=>some (true,.i k (k.wrap (BitVec.ofInt k.bits a ||| BitVec.ofInt k.bits b).toNat))
 | .xor=>some (true,.i k (k.wrap (BitVec.ofInt k.bits a ^^^ BitVec.ofInt k.bits b).toNat))
 | .andNot=>some (true,.i k (k.wrap (BitVec.ofInt k.bits a &&& ~~~(BitVec.ofInt k.bits b)).toNat))
 | .eql=>some (true,.b (a==b))
 | .neq=>some (true,.b (a !=b))
 | .lss=>some (true,.b (decide (a<b)))
 | .leq=>some (true,.b (decide (a<=b)))
 | .gtr=>some (true,.b (decide (a>b)))
 | .geq=>some (true,.b (decide (a>=b)))
 | .shl=>none
 | .shr=>none
def mG (op:BinOp) (k:IntKind) (a b:Int):Option (Bool×AV):=
 match op with
 | .shl=>some (decide (0<=b),.i k (k.wrap (a*2^(Nat.min b.toNat k.bits))))
 | .shr=>some (decide (0<=b),.i k (a.fdiv (2^(Nat.min b.toNat k.bits))))
 |_=>none
def Jr (op:BinOp) (a b:List UInt8):Option (Bool×AV):=
 match op with
 | .add=>some (decide (a.length+b.length<=9223372036854775807),.s (a++b))
 | .eql=>some (true,.b (a==b))
 | .neq=>some (true,.b !(a==b))
 | .lss=>some (true,.b (Op.bytesLess a b))
 | .leq=>some (true,.b (Op.bytesLess a b||a==b))
 | .gtr=>some (true,.b !(Op.bytesLess a b||a==b))
 | .geq=>some (true,.b !(Op.bytesLess a b))
 |_=>none
def bin (op:BinOp) (x y:AV):Option (Bool×AV):=
 match x,y with
 | .i k a,.i k' b=>match op with
  | .shl=>mG .shl k a b
  | .shr=>mG .shr k a b
  |op=>if k=k' then sm op k a b else none
 | .s a,.s b=>Jr op a b
 |_,_=>none
def Kv:AV->Option Int
 | .i .i64 n=>some n
 |_=>none
def Cs:AV->Option Int
 | .i _ n=>some n
 |_=>none
def qW (k:IntKind):Int->List AV->Option Int
 |a,[]=>some a
 |a,.i k' y::r=>if k=k' then qW k (if y<a then y else a) r else none
 |_,_=>none
def xm (k:IntKind):Int->List AV->Option Int
 |a,[]=>some a
 |a,.i k' y::r=>if k=k' then xm k (if y>a then y else a) r else none
 |_,_=>none
def asK:AV->Option (IntKind×Int)
 | .i k n=>some (k,n)
 |_=>none
def aJ (len cap:Nat) (lo hi mx:Option Int):Bool×Nat×Nat×Nat:=
 let m:Int:=mx.getD cap;let h:Int:=hi.getD len;let l:Int:=lo.getD 0
 (decide (0<=l/\l<=h/\0<=h/\h<=m/\0<=m/\m<=cap),l.toNat,h.toNat,m.toNat)
def dp {α:Type} (e:Env) (h:Hp) (o:Option cC) (k:Option Int->Option α):Option α:=
 match o with
 |none=>k none
 |some x=>(x.ev e h).bind fun v=>(Cs v).bind fun n=>k (some n)
def bytesOf:List AV->Option (List UInt8)
 |[]=>some []
 | .i .u8 n::r=>(bytesOf r).bind fun l=>some (UInt8.ofNat n.toNat::l)
 |_=>none
def dI (z:List AV):Nat->List AV
 |0=>[]
 |n+1=>z++dI z n
def iv:AV->Option (Nat×Nat×Nat)
 | .sl b o len _=>some (b,o,len)
 | .sg b o len=>some (b,o,len)
 |_=>none
def kV (h:Hp) (fK:Nat):AV->Option (List Nat×Nat×List AV×Bool)
 | .ns=>some ([],0,[],true)
 | .s l=>some ([],l.length,l.map (fun b=> .i .u8 b.toNat),Nat.beq fK 1)
 | .sl b o len _=>(iO h b).bind fun k=>some ([b],len,aA k.cells o (len*fK),decide ((aA k.cells o (len*fK)).length=len*fK))
 | .sg b o len=>(iO h b).bind fun k=>some ([b],len,aA k.cells o (len*fK),decide ((aA k.cells o (len*fK)).length=len*fK))
 | .fz l len=>some ([],len,aA l 0 (len*fK),decide ((aA l 0 (len*fK)).length=len*fK))
 | .ze=>some ([],0,[],true)
 | .en=>some ([],0,[],true)
 |_=>none
def aE:Nat:=140737488355328
def aX:List AV->Bool
 |[]=>true
 |v::r=>v.one&&aX r
def IQ:AV->Option Value
 | .b x=>some (.bool x)
 | .i k n=>some (.int k n)
 | .s l=>some (.string ⟨l.toArray⟩)
 |_=>none
def GK:List AV->Option (List Value)
 |[]=>some []
 |v::r=>(IQ v).bind fun x=>(GK r).bind fun xs=>some (x::xs)
def toV:AV->Option Value
 | .agg l=>(GK l).bind fun us=>some (.agg us.toArray)
 |v=>IQ v
def wB:Value->Option AV
 | .bool b=>some (.b b)
 | .int k n=>some (.i k n)
 | .string s=>some (.s s.data.toList)
 | .pointer none=>some .np
 | .slice none 0 0=>some .ns
 | .nilFunc=>some .nf
 | .nilIface=>some .ni
 | .map none=>some .nm
 |_=>none
def lT:List Value->Option (List AV)
 |[]=>some []
 |v::r=>(wB v).bind fun x=>(lT r).bind fun xs=>some (x::xs)
def vZ:Value->Option AV
 | .agg cs=>(lT cs.toList).map .agg
 | .tuple cs=>(lT cs.toList).map .bg
 |v=>wB v
def uh (h:Hp) (kd:Nat) (m k:AV):Option (Nat×aW×cy×Option Nat):=match m with
 | .m b=>(ab h b).bind fun K=>match K.ro,K.gr,K.mp with
  |false,none,some ks=>match Nat.beq ks.kd kd with
   |true=>(ks.find k).bind fun r=>some (b,K,ks,r)
   |false=>none
  |_,_,_=>none
 |_=>none
def step (o:jJ) (e:Env) (h:Hp) (n:Nat):Option (Bool×bX):=
 match o with
 | .mv x=>(x.ev e h).bind fun v=>pe v n
 | .pick c a b=>(c.ev e h).bind fun v=>match v with
  | .b true=>(a.ev e h).bind fun v=>pe v n
  | .b false=>(b.ev e h).bind fun v=>pe v n
  |_=>none
 | .new z=>some (true,{v:= .p n 0,n:=n+1,nw:=[(n,{cells:=z})]})
 | .box x=>(x.ev e h).bind fun v=>some (!v.isAny,{v:= .p n 0,n:=n+1,nw:=[(n,{cells:=v.cells})]})
 | .build z ps=>(sd e h ps).bind fun l=>(lv z l).bind fun cs=>pe (.agg cs) n
 | .lC z len ps=>(sd e h ps).bind fun l=>(lv z l).bind fun cs=>some (true,{v:= .sl n 0 len len,n:=n+1,nw:=[(n,{cells:=cs})]})
 | .ld agg z a=>(a.ev e h).bind fun v=>match v with
  | .p b o=>(iO h b).bind fun k=>
   match agg with
   |true=>some (decide ((aA k.cells o z).length=z),{v:= .agg (aA k.cells o z),n,rd:=[b]})
   |false=>(k.cells[o]?).bind fun v=>some (true,{v,n,rd:=[b]})
  | .fp l o=>match agg with
   |true=>some (decide ((aA l o z).length=z),{v:= .agg (aA l o z),n})
   |false=>(l[o]?).bind fun v=>some (true,{v,n})
  |_=>none
 | .st z a x=>(a.ev e h).bind fun v=>match v with
  | .p b o=>(iO h b).bind fun k=>(x.ev e h).bind fun y=>
   match k.ro with
   |true=>none
   |false=>some (aX y.cells&&Nat.beq y.cells.length z&&decide (o+z<=k.cells.length),{v:= .bg [],n,rd:=[b],md:=[(b,some {k with cells:=eF k.cells o y.cells})]})
  |_=>none
 | .nck x=>(x.ev e h).bind fun v=>match v with
  | .p b o=>pe (.p b o) n
  | .fn f l=>pe (.fn f l) n
  | .bm f l=>pe (.bm f l) n
  | .fp l o=>pe (.fp l o) n
  |_=>none
 | .bin op x y=>(x.ev e h).bind fun a=>(y.ev e h).bind fun b=>(bin op a b).bind fun r=>some (r.1,{v:=r.2,n})
 | .ye neg agg ks x y=>(x.ev e h).bind fun a=>(y.ev e h).bind fun b=>(ye agg ks a b).bind fun r=>pe (.b (bif neg then !r else r)) n
 | .EO neg k x y=>(x.ev e h).bind fun a=>(y.ev e h).bind fun b=>(EO k a b).bind fun r=>pe (.b (bif neg then !r else r)) n
 | .not x=>(x.ev e h).bind fun v=>match v with
  | .b c=>pe (.b !c) n
  |_=>none
 | .neg x=>(x.ev e h).bind fun v=>match v with
  | .i k m=>pe (.i k (k.wrap (0-m))) n
  |_=>none
 | .yk k x=>(x.ev e h).bind fun v=>match v with
  | .i _ m=>pe (.i k (k.wrap m)) n
  |_=>none
 | .s2b x=>(x.ev e h).bind fun v=>match v with
  | .s l=>some (true,{v:= .sg n 0 l.length,n:=n+1,nw:=[(n,{cells:=l.map fun b=> .i .u8 b.toNat,gr:=some 1})]})
  |_=>none
 | .b2s x=>(x.ev e h).bind fun v=>match v with
  | .ns=>pe (.s []) n
  | .fz l m=>(bytesOf (l.take m)).bind fun s=>some (decide (s.length=m),{v:= .s s,n})
  |v=>(iv v).bind fun q=>(iO h q.1).bind fun k=>(bytesOf (aA k.cells q.2.1 q.2.2)).bind fun l=>
   some (decide (l.length=q.2.2),{v:= .s l,n,rd:=[q.1]})
 | .idc x=>(x.ev e h).bind fun v=>match v with
  | .s l=>pe (.s l) n
  |_=>none
 | .Co f caps=>(xn e h caps).bind fun l=>pe (.fn f l) n
 | .mkm f first=>(xn e h first).bind fun l=>pe (.bm f l) n
 | .Vi x lo hi=>(x.ev e h).bind fun v=>match v with
  | .s l=>dp e h lo fun lo=>dp e h hi fun hi=>
   let r:=aJ l.length l.length lo hi none
   some (r.1,{v:= .s ((l.take r.2.2.1).drop r.2.1),n})
  |_=>none
 | .qT z x lo hi mx=>(x.ev e h).bind fun v=>match v with
  | .ns=>dp e h lo fun lo=>dp e h hi fun hi=>dp e h mx fun mx=>
   let r:=aJ 0 0 lo hi mx
   some (r.1,{v:= .ns,n})
  | .sl b o len cap=>dp e h lo fun lo=>dp e h hi fun hi=>dp e h mx fun mx=>
   let r:=aJ len cap lo hi mx
   some (r.1,{v:= .sl b (if r.2.2.2=r.2.1 then o else o+r.2.1*z) (r.2.2.1-r.2.1) (r.2.2.2-r.2.1),n})
  | .sg b o len=>match mx with
   |some _=>none
   |none=>(iO h b).bind fun k=>dp e h lo fun lo=>dp e h hi fun hi=>
    let r:=aJ len len lo hi none
    match k.gr with
    |some z'=>match decide (r.2.1=0\/r.2.1<len) with
     |true=>some (r.1&&Nat.beq z z',{v:= .sg b (o+r.2.1*z) (r.2.2.1-r.2.1),n,rd:=[b]})
     |false=>some (r.1&&Nat.beq z z',{v:= .en,n,rd:=[b]})
    |none=>none
  | .fz l len=>dp e h lo fun lo=>dp e h hi fun hi=>dp e h mx fun mx=>
   let r:=aJ len len lo hi mx
   some (r.1,{v:=if mx.isSome/\r.2.2.2=r.2.1 then .ze else .fz (l.drop (r.2.1*z)) (r.2.2.1-r.2.1),n})
  | .ze=>dp e h lo fun lo=>dp e h hi fun hi=>dp e h mx fun mx=>
   let r:=aJ 0 0 lo hi mx
   some (r.1,{v:= .ze,n})
  |_=>none
 | .slA m z x lo hi mx=>(x.ev e h).bind fun v=>match v with
  | .p b o=>dp e h lo fun lo=>dp e h hi fun hi=>dp e h mx fun mx=>
   let r:=aJ m m lo hi mx
   some (r.1,{v:= .sl b (if r.2.2.2=r.2.1 then o else o+r.2.1*z) (r.2.2.1-r.2.1) (r.2.2.2-r.2.1),n})
  |_=>none
 | .fa off x=>(x.ev e h).bind fun v=>match v with
  | .p b o=>pe (.p b (o+off)) n
  | .fp l o=>pe (.fp l (o+off)) n
  |_=>none
 | .fld agg z off x=>(x.ev e h).bind fun v=>match v with
  | .agg l=>match agg with
   |true=>some (decide (off+z<=l.length),{v:= .agg (aA l off z),n})
   |false=>(l[off]?).bind fun v=>pe v n
  |_=>none
 | .Ii m z x i=>(x.ev e h).bind fun v=>(i.ev e h).bind fun i=>(Cs i).bind fun i=>match v with
  | .p b o=>some (decide (0<=i/\i<m),{v:= .p b (o+i.toNat*z),n})
  | .fp l o=>some (decide (0<=i/\i<m),{v:= .fp l (o+i.toNat*z),n})
  |_=>none
 | .qO z x i=>(x.ev e h).bind fun v=>(i.ev e h).bind fun i=>(Cs i).bind fun i=>match v with
  | .fz l len=>some (decide (0<=i/\i<len),{v:= .fp l (i.toNat*z),n})
  |v=>(iv v).bind fun q=>some (decide (0<=i/\i<q.2.2),{v:= .p q.1 (q.2.1+i.toNat*z),n})
 | .Rg m z agg x i=>(x.ev e h).bind fun v=>(i.ev e h).bind fun i=>(Cs i).bind fun i=>match v with
  | .agg l=>match agg with
   |true=>some (decide (0<=i/\i<m)&&decide (i.toNat*z+z<=l.length),{v:= .agg (aA l (i.toNat*z) z),n})
   |false=>(l[i.toNat*z]?).bind fun v=>some (decide (0<=i/\i<m),{v,n})
  |_=>none
 | .uZ x i=>(x.ev e h).bind fun v=>(i.ev e h).bind fun i=>(Cs i).bind fun i=>match v with
  | .s l=>some (decide (0<=i/\i<l.length),{v:= .i .u8 ((l[i.toNat]?).getD 0).toNat,n})
  |_=>none
 | .ext x i=>(x.ev e h).bind fun v=>match v with
  | .bg l=>(l[i]?).bind fun v=>pe v n
  |_=>none
 | .BH x=>(x.ev e h).bind fun v=>match v with
  | .s l=>pe (.i .i64 l.length) n
  |_=>none
 | .oF x=>(x.ev e h).bind fun v=>match v with
  | .ns=>pe (.i .i64 0) n
  | .fz _ len=>pe (.i .i64 len) n
  | .ze=>pe (.i .i64 0) n
  | .en=>pe (.i .i64 0) n
  |v=>(iv v).bind fun q=>pe (.i .i64 q.2.2) n
 | .Mn m=>pe (.i .i64 m) n
 | .Jy x=>(x.ev e h).bind fun v=>match v with
  | .ns=>pe (.i .i64 0) n
  | .sl _ _ _ cap=>pe (.i .i64 cap) n
  | .ze=>pe (.i .i64 0) n
  |_=>none
 | .mn x xs=>(x.ev e h).bind fun v=>(asK v).bind fun a=>(xn e h xs).bind fun l=>(qW a.1 a.2 l).bind fun m=>pe (.i a.1 m) n
 | .mx x xs=>(x.ev e h).bind fun v=>(asK v).bind fun a=>(xn e h xs).bind fun l=>(xm a.1 a.2 l).bind fun m=>pe (.i a.1 m) n
 | .R7 z bytes zs l c=>(l.ev e h).bind fun l=>(Kv l).bind fun l=>(c.ev e h).bind fun c=>(Kv c).bind fun c=>
  some (decide (0<=l/\l<=c/\bytes*c<=281474976710656/\c<=9223372036854775807),{v:= .sl n 0 l.toNat c.toNat,n:=n+1,nw:=[(n,{cells:=dI zs c.toNat})]})
 | .app z bytes zs s x=>(s.ev e h).bind fun s=>(x.ev e h).bind fun x=>(kV h z x).bind fun r=>
  if r.2.1=0 then (match s with
   | .ns=>some (r.2.2.2,{v:= .ns,n,rd:=r.1})
   | .sl b o len cap=>some (r.2.2.2&&decide (len<=cap),{v:= .sl b o len cap,n,rd:=r.1})
   | .sg b o len=>some (r.2.2.2,{v:= .sg b o len,n,rd:=r.1})
   | .ze=>some (r.2.2.2,{v:= .ze,n,rd:=r.1})
   | .fz l len=>some (r.2.2.2,{v:= .fz l len,n,rd:=r.1})
   |_=>none)
  else match s with
  | .ns=>some (r.2.2.2&&decide (bytes*r.2.1<=aE),{v:= .sg n 0 r.2.1,n:=n+1,rd:=r.1,nw:=[(n,{cells:=r.2.2.1,gr:=some z})]})
  | .ze=>some (r.2.2.2&&decide (bytes*r.2.1<=aE),{v:= .sg n 0 r.2.1,n:=n+1,rd:=r.1,nw:=[(n,{cells:=r.2.2.1,gr:=some z})]})
  | .sl b o len cap=>(iO h b).bind fun k=>
   if len+r.2.1<=cap then
    match k.ro with
    |true=>none
    |false=>some (r.2.2.2&&decide (o+len*z+r.2.2.1.length<=k.cells.length)&&aX r.2.2.1,{v:= .sl b o (len+r.2.1) cap,n,rd:=b::r.1,md:=[(b,some {k with cells:=eF k.cells (o+len*z) r.2.2.1})]})
   else some (r.2.2.2&&decide (bytes*(len+r.2.1)<=aE)&&decide ((aA k.cells o (len*z)).length=len*z)&&decide (len<=cap),{v:= .sg n 0 (len+r.2.1),n:=n+1,rd:=b::r.1,nw:=[(n,{cells:=aA k.cells o (len*z)++r.2.2.1,gr:=some z})]})
  | .sg b o len=>(iO h b).bind fun k=>
   match k.gr with
   |some z'=>some (r.2.2.2&&decide (bytes*(len+r.2.1)<=aE)&&Nat.beq z z'&&decide (k.cells.length=o+len*z)&&aX r.2.2.1,{v:= .sg n 0 (len+r.2.1),n:=n+1,rd:=b::r.1,md:=[(b,none)],nw:=[(n,{cells:=k.cells.drop o++r.2.2.1,gr:=some z})]})
   |none=>none
  |_=>none
 | .apz z bytes zs s x=>(s.ev e h).bind fun s=>(x.ev e h).bind fun x=>(Kv x).bind fun m=>match s with
  | .sl b o len cap=>(iO h b).bind fun k=>
   some (decide (0<m)&&decide (cap<len+m.toNat)&&decide (bytes*(len+m.toNat)<=aE)&&decide ((aA k.cells o (len*z)).length=len*z),{v:= .sg n 0 (len+m.toNat),n:=n+1,rd:=[b],nw:=[(n,{cells:=aA k.cells o (len*z)++dI zs m.toNat,gr:=some z})]})
  |_=>none
 | .FW z d s=>(d.ev e h).bind fun d=>(s.ev e h).bind fun s=>(kV h z s).bind fun r=>
  match d with
  | .ns=>some (r.2.2.2,{v:= .i .i64 0,n,rd:=r.1})
  | .en=>some (r.2.2.2,{v:= .i .i64 0,n,rd:=r.1})
  |d=>(iv d).bind fun q=>(iO h q.1).bind fun k=>
   match k.ro with
   |true=>none
   |false=>some (r.2.2.2&&(aX r.2.2.1||aX (r.2.2.1.take (Nat.min r.2.1 q.2.2*z)))&&decide (q.2.1+Nat.min r.2.1 q.2.2*z<=k.cells.length),{v:= .i .i64 (Nat.min r.2.1 q.2.2),n,rd:=q.1::r.1,md:=[(q.1,some {k with cells:=eF k.cells q.2.1 (r.2.2.1.take (Nat.min r.2.1 q.2.2*z))})]})
 | .Rt z zs x=>(x.ev e h).bind fun v=>match v with
  | .ns=>pe (.bg []) n
  |v=>(iv v).bind fun q=>(iO h q.1).bind fun k=>
   match k.ro with
   |true=>none
   |false=>some (aX zs&&Nat.beq zs.length z&&decide (q.2.1+q.2.2*z<=k.cells.length),{v:= .bg [],n,rd:=[q.1],md:=[(q.1,some {k with cells:=eF k.cells q.2.1 (dI zs q.2.2)})]})
 | .Kw t x=>(x.ev e h).bind fun v=>(toV v).bind fun u=>pe (.k t u) n
 | .Qb ks=>some (true,{v:= .m n,n:=n+1,nw:=[(n,{cells:=[],mp:=some ks})]})
 | .mpG kd ok z m k=>(m.ev e h).bind fun m=>(k.ev e h).bind fun k=>(uh h kd m k).bind fun q=>match q.2.2.2 with
  |some i=>(q.2.1.cells[i]?).bind fun v=>some (true,{v:=bif ok then .bg [v,.b true] else v,n,rd:=[q.1]})
  |none=>some (true,{v:=bif ok then .bg [z,.b false] else z,n,rd:=[q.1]})
 | .KB kd m k x=>(m.ev e h).bind fun m=>(k.ev e h).bind fun k=>(x.ev e h).bind fun x=>(uh h kd m k).bind fun q=>match q.2.2.2 with
  |some i=>some (true,{v:= .bg [],n,rd:=[q.1],md:=[(q.1,some {q.2.1 with cells:=q.2.1.cells.set i x,mp:=some q.2.2.1})]})
  |none=>some (Nat.beq q.2.1.cells.length q.2.2.1.len,{v:= .bg [],n,rd:=[q.1],md:=[(q.1,some {q.2.1 with cells:=q.2.1.cells++[x],mp:=some (q.2.2.1.push k)})]})
 | .J1 m=>(m.ev e h).bind fun m=>match m with
  | .m b=>(ab h b).bind fun K=>match K.ro,K.gr,K.mp with
   |false,none,some ks=>some (true,{v:= .i .i64 ks.len,n,rd:=[b]})
   |_,_,_=>none
  |_=>none
 | .mpD kd m k=>(m.ev e h).bind fun m=>(k.ev e h).bind fun k=>(uh h kd m k).bind fun q=>match q.2.2.2 with
  |some i=>some (true,{v:= .bg [],n,rd:=[q.1],md:=[(q.1,some {q.2.1 with cells:=q.2.1.cells.eraseIdx i,mp:=some (q.2.2.1.del i)})]})
  |none=>some (true,{v:= .bg [],n,rd:=[q.1],md:=[(q.1,some {q.2.1 with cells:=q.2.1.cells,mp:=some q.2.2.1})]})
 | .OH t z x=>(x.ev e h).bind fun v=>match v with
  | .ni=>pe (.bg [z,.b false]) n
  | .k t' u=>match Nat.beq t' t with
   |true=>(vZ u).bind fun v=>pe (.bg [v,.b true]) n
   |false=>pe (.bg [z,.b false]) n
  |_=>none
 | .WM neg x=>(x.ev e h).bind fun v=>match v with
  | .ni=>pe (.b (!neg)) n
  | .k _ _=>pe (.b neg) n
  |_=>none
 | .MJ _=>none
 | .Q9=>none
 | .w9 _ _=>none
 | .call _ _=>none
 | .bad=>none
def Dn (D:Nat->Prop) (n m:Nat):Nat->Prop:=fun b=>D b\/(n<=b/\b<m)
def fv (P:Program) (D:Nat->Prop) (φ:bU) (H:Hf) (w:World) (n:Nat) (E:bX) (r:Result Next):Prop:=
 ∃φ' u nx w',r= .ok nx w'/\(nx= .value u\/(nx= .skip/\u=undef))/\n<=E.n/\aI (Dn D n E.n) φ' E.v u/\dR D φ H w (Dn D n E.n) φ' (E.app H) w'∧
  (∀b k,E.app H b=some k->k.ro=true->H b=some k)/\(∀b r,dH E.md b=some r->inl E.rd b=true)/\(∀b k,ab E.nw b=some k->n<=b/\b<E.n)
theorem FQ {D:Nat->Prop} {n:Nat} {b:Nat}:Dn D n n b↔D b:=
 ⟨fun h=>h.elim id (fun h=>by omega),.inl⟩
theorem fv.pure {P:Program} {D:Nat->Prop} {φ:bU} {H:Hf} {w:World} {n:Nat} {v:AV} {rd:List Nat} {u:Value} {r:Result Next} (hr:r= .ok (.value u) w) (hH:HR D φ H w) (hv:aI D φ v u):
 fv P D φ H w n {v,n,rd} r:=by
 have e:(bX.app {v,n,rd} H)=H:=by funext b;rfl
 have hd: ∀b,D b->Dn D n n b:=fun b h=> .inl h;refine ⟨φ,u,_,w,hr,.inl rfl,bx _,hv.mono hd (dh.refl _ _),?_,fun b k h _=>by rw [e] at h;exact h,fun b r h=>by simp [dH] at h,fun b k h=>by simp [ab] at h⟩
 rw [e];exact dR.mk' hH rfl rfl hd (dh.refl D φ).at_ ⟨fun b k hb=>⟨hd b (hH.at_ b k hb).1,(hH.at_ b k hb).2.mono hd (dh.refl _ _) (hH.at_ b k hb).1 rfl⟩,hH.sep⟩ (FO.refl _ _ _) fun b k hb hk=> .inr ⟨b,k,hb,hk,rfl⟩
def bU.set (φ:bU) (n cW cap fK:Nat):bU where
 cW b:=if b=n then cW else φ.cW b
 off b:=if b=n then 0 else φ.off b
 cap b:=if b=n then cap else φ.cap b
 fK b:=if b=n then fK else φ.fK b
 fz:=φ.fz
 lp:=φ.lp
theorem bU.yA {D:Nat->Prop} {φ:bU} {n cW cap fK:Nat} (hn: ¬D n):dh D φ (φ.set n cW cap fK):=⟨fun b hb=>by
 have:b≠n:=fun e=>hn (e▸hb);simp [bU.set,this],fun _ _ h=>h,rfl⟩
def bU.pG (φ:bU) (n cW off cap fK:Nat):bU where
 cW b:=if b=n then cW else φ.cW b
 off b:=if b=n then off else φ.off b
 cap b:=if b=n then cap else φ.cap b
 fK b:=if b=n then fK else φ.fK b
 fz:=φ.fz
 lp:=φ.lp
theorem bU.CN {D:Nat->Prop} {φ:bU} {n cW off cap fK:Nat} (hn: ¬D n):dh D φ (φ.pG n cW off cap fK):=⟨fun b hb=>by
 have:b≠n:=fun e=>hn (e▸hb);simp [bU.pG,this],fun _ _ h=>h,rfl⟩
theorem gI {l:Array Obj} {o:Obj} {c:Nat} (h:c<l.size):(l.push o)[c]? =l[c]? :=by
 rw [AG];rw [aN (by omega)]
theorem dR.alloc {D:Nat->Prop} {φ:bU} {H:Hf} {w w':World} {n:Nat} {z:List AV} {cs:Array Value} {elem:TypeId} {fr:Nat×Nat} {g:Option Nat} {cap fK:Nat}
 (hH:HR D φ H w) (hn: ¬D n) (hw:w'.heap=w.heap.push (.cells cs elem fr)) (hos:w'.os=w.os) (htape:w'.tape=w.tape) (hout:w'.output=w.output)
 (hz: ∀(i:Nat) (v:AV),z[i]? =some v-> ∃u,cs[i]? =some u/\aI D φ v u) (hfr: ∀i,(i<cs.size\/i=cs.size/\g≠some 1)-> ¬(fr.1<=i/\i<fr.2)) (hg: ∀e,g=some e->fK=e/\cs.size=cap*e):
 dR D φ H w (Dn D n (n+1)) (φ.set n w.heap.size cap fK) (fun b=>if b=n then some {cells:=z,gr:=g} else H b) w':=by
 have hD: ∀b,D b->Dn D n (n+1) b:=fun b h=> .inl h;have hnn: ¬D n:=hn;have hag:= @bU.yA D φ n w.heap.size cap fK hnn;have hold: ∀c,c<w.heap.size->w'.heap[c]? =w.heap[c]? :=fun c hc=>by rw [hw];exact gI hc
 have hsz:w'.heap.size=w.heap.size+1:=by rw [hw];simp
 have hne: ∀b k,H b=some k->b≠n:=fun b k hb e=>hnn (e▸(hH.at_ b k hb).1);refine dR.mk' hH rfl rfl hD hag.at_ ⟨fun b k hb=> ?_,fun b1 b2 k1 k2 hne' h1 h2 hk=> ?_⟩ ⟨hos,htape,hout,by omega,fun c hc _=>hold c hc⟩ fun b k hb hk=> ?_
 ·by_cases hbn:b=n
  ·subst hbn;simp at hb;subst hb;refine ⟨.inr ⟨bx _,by omega⟩,⟨⟨cs,elem,fr,.mk rfl (by simp [bU.set,hw]),fun i v hv=> ?_,fun _=>⟨by simp [bU.set],hfr⟩,fun e he=>⟨rfl,by simp [bU.set];exact (hg e he).1,by simp [bU.set];exact (hg e he).2⟩⟩,fun g' h=>by simp at h⟩⟩
   obtain ⟨u,hu,hvu⟩:=hz i v hv;exact ⟨u,by simpa [bU.set] using hu,hvu.mono hD hag⟩
  ·rw [aN hbn] at hb;have h':=hH.at_ b k hb;exact ⟨hD b h'.1,h'.2.mono hD hag h'.1 (hold _ h'.2.lt)⟩
 ·by_cases hb1:b1=n<;>by_cases hb2:b2=n
  ·exact absurd (hb1.trans hb2.symm) hne'
  ·rw [aN hb2] at h2;have:=(hH.at_ b2 k2 h2).2.lt;simp [bU.set,hb1,hb2];omega
  ·rw [aN hb1] at h1;have:=(hH.at_ b1 k1 h1).2.lt;simp [bU.set,hb1,hb2];omega
  ·rw [aN hb1] at h1;rw [aN hb2] at h2;simp [bU.set,hb1,hb2];exact hH.sep b1 b2 k1 k2 hne' h1 h2 hk
 ·by_cases hbn:b=n
  ·left;simp [bU.set,hbn]
  ·rw [aN hbn] at hb;right;exact ⟨b,k,hb,hk,by simp [bU.set,hbn]⟩
theorem pD {v:AV} {n m:Nat} {rd:List Nat} {k:aW} {H:Hf}:(bX.app {v,n:=m,rd,nw:=[(n,k)]} H)=fun b=>if b=n then some k else H b:=by
 funext b;simp only [bX.app,dH,ab];by_cases h:b=n
 ·subst h;simp
 ·have:Nat.beq n b=false:=by
   rw [Bool.eq_false_iff];intro h';exact h (dC h').symm
  simp [this,h]
theorem fv.alloc {P:Program} {D:Nat->Prop} {φ:bU} {H:Hf} {w w':World} {n:Nat} {z:List AV} {cs:Array Value} {elem:TypeId} {fr:Nat×Nat} {g:Option Nat} {cap fK:Nat} {v:AV} {rd:List Nat} {u:Value} {r:Result Next}
 (hr:r= .ok (.value u) w')
 (hH:HR D φ H w) (hn: ¬D n) (hw:w'.heap=w.heap.push (.cells cs elem fr)) (hos:w'.os=w.os) (htape:w'.tape=w.tape) (hout:w'.output=w.output)
 (hz: ∀(i:Nat) (v:AV),z[i]? =some v-> ∃u,cs[i]? =some u/\aI D φ v u) (hfr: ∀i,(i<cs.size\/i=cs.size/\g≠some 1)-> ¬(fr.1<=i/\i<fr.2)) (hg: ∀e,g=some e->fK=e/\cs.size=cap*e)
 (hv:aI (Dn D n (n+1)) (φ.set n w.heap.size cap fK) v u):
 fv P D φ H w n {v,n:=n+1,rd,nw:=[(n,{cells:=z,gr:=g})]} r:=by
 have hnn: ∀b k,H b=some k->b≠n:=fun b k hb e=>hn (e▸(hH.at_ b k hb).1);refine ⟨φ.set n w.heap.size cap fK,u,_,w',hr,.inl rfl,by show n<=n+1;omega,hv,by rw [pD];exact dR.alloc hH hn hw hos htape hout hz hfr hg,fun b k hb hk=> ?_,fun b r h=>by simp [dH] at h,fun b k h=> ?_⟩
 ·rw [pD] at hb;by_cases hbn:b=n
  ·simp [hbn] at hb;subst hb;simp at hk
  ·simpa [hbn] using hb
 ·simp only [ab] at h;by_cases hbn:Nat.beq n b=true
  ·have:=dC hbn;show n<=b/\b<n+1;omega
  ·simp [hbn] at h
theorem bM {l:Array Obj} {o:Obj} {c d:Nat} (hc:c<l.size):(l.setIfInBounds c o)[d]? =if c=d then some o else l[d]? :=by
 rw [Array.getElem?_setIfInBounds];split<;>simp_all
theorem dR.write {D:Nat->Prop} {φ:bU} {H:Hf} {w w':World} {b:Nat} {k:aW} {cs cs':Array Value} {elem:TypeId} {fr:Nat×Nat} {xs:List AV}
 (hH:HR D φ H w) (hb:H b=some k) (hro:k.ro=false) (hk:w.heap[φ.cW b]? =some (.cells cs elem fr)) (hw:w'.heap=w.heap.setIfInBounds (φ.cW b) (.cells cs' elem fr))
 (hos:w'.os=w.os) (htape:w'.tape=w.tape) (hout:w'.output=w.output) (hsize:cs'.size=cs.size)
 (hz: ∀(i:Nat) (v:AV),xs[i]? =some v-> ∃u,cs'[φ.off b+i]? =some u/\aI D φ v u):
 dR D φ H w D φ (fun c=>if c=b then some {k with cells:=xs} else H c) w':=by
 have hlt:=(hH.at_ b k hb).2.lt;have hne: ∀c,c≠φ.cW b->w'.heap[c]? =w.heap[c]? :=fun c hc=>by rw [hw,bM hlt,aN (qg hc)]
 refine dR.mk' hH rfl rfl (fun _ h=>h) (dh.refl D φ).at_ ⟨fun c k' hc=> ?_,fun b1 b2 k1 k2 hne' h1 h2 hk'=> ?_⟩ ⟨hos,htape,hout,by rw [hw];simp,fun c hc hn=>hne c (fun e=>hn b k hb hro e.symm)⟩ fun c k' hc hk'=> ?_
 ·by_cases hcb:c=b
  ·subst hcb;simp at hc;subst hc;obtain ⟨hd,⟨⟨cs0,elem0,fr0,h1,h2,h3,h4⟩,h5⟩⟩:=hH.at_ c k hb;obtain ⟨hmp,rfl,rfl,rfl⟩:=h1.of hk;refine ⟨hd,⟨⟨cs',elem,fr,.mk hmp (by rw [hw,bM hlt];simp),fun i v hv=> ?_,fun _=>⟨(h3 hro).1,fun i hi=>(h3 hro).2 i (by rw [<-hsize];exact hi)⟩,fun e he=>⟨hro,(h4 e he).2.1,by rw [hsize];exact (h4 e he).2.2⟩⟩,h5⟩⟩
   exact hz i v hv
  ·rw [aN hcb] at hc;have h':=hH.at_ c k' hc;exact ⟨h'.1,h'.2.mono (fun _ h=>h) (dh.refl _ _) h'.1 (hne _ (fun e=>hH.sep b c k k' (qg hcb) hb hc hro e.symm))⟩
 ·have key: ∀c k',(if c=b then some {k with cells:=xs} else H c)=some k'-> ∃k0,H c=some k0/\k0.ro=k'.ro:=fun c k' hc=>by
   by_cases hcb:c=b
   ·subst hcb;simp at hc;subst hc;exact ⟨k,hb,rfl⟩
   ·rw [aN hcb] at hc;exact ⟨k',hc,rfl⟩
  obtain ⟨KF,g1,r1⟩:=key b1 k1 h1;obtain ⟨F3,g2,r2⟩:=key b2 k2 h2;exact hH.sep b1 b2 KF F3 hne' g1 g2 (r1.trans hk')
 ·by_cases hcb:c=b
  ·subst hcb;exact .inr ⟨c,k,hb,hro,rfl⟩
  ·rw [aN hcb] at hc;exact .inr ⟨c,k',hc,hk',rfl⟩
theorem bz {n b:Nat} (h: ¬b=n):Nat.beq n b=false:=by
 rw [Bool.eq_false_iff];intro h';exact h (dC h').symm
theorem pC {v:AV} {n b:Nat} {rd:List Nat} {k:aW} {H:Hf}:(bX.app {v,n,rd,md:=[(b,some k)]} H)=fun c=>if c=b then some k else H c:=by
 funext c;simp only [bX.app,dH,ab];by_cases h:c=b
 ·subst h;simp
 ·simp [bz h,h]
theorem fv.write {P:Program} {D:Nat->Prop} {φ:bU} {H:Hf} {w w':World} {n b:Nat} {k:aW} {cs cs':Array Value} {elem:TypeId} {fr:Nat×Nat} {xs:List AV} {v:AV} {u:Value} {nx:Next} {rd:List Nat} {r:Result Next}
 (hr:r= .ok nx w') (hnx:nx= .value u\/(nx= .skip/\u=undef)) (hv:aI D φ v u) (hrd:inl rd b=true)
 (hH:HR D φ H w) (hb:H b=some k) (hro:k.ro=false) (hk:w.heap[φ.cW b]? =some (.cells cs elem fr)) (hw:w'.heap=w.heap.setIfInBounds (φ.cW b) (.cells cs' elem fr))
 (hos:w'.os=w.os) (htape:w'.tape=w.tape) (hout:w'.output=w.output) (hsize:cs'.size=cs.size)
 (hz: ∀(i:Nat) (v:AV),xs[i]? =some v-> ∃u,cs'[φ.off b+i]? =some u/\aI D φ v u):
 fv P D φ H w n {v,n,rd,md:=[(b,some {k with cells:=xs})]} r:=by
 have h:=dR.write hH hb hro hk hw hos htape hout hsize hz;have hd: ∀b,D b->Dn D n n b:=fun b h=> .inl h;have e:Dn D n n=D:=by funext b;exact propext FQ
 refine ⟨φ,u,nx,w',hr,hnx,bx _,hv.mono hd (dh.refl _ _),by rw [pC,e];exact h,fun c k' hc hk'=> ?_,fun c r hc=> ?_,fun b k h=>by simp [ab] at h⟩
 ·rw [pC] at hc;by_cases hcb:c=b
  ·simp [hcb] at hc;subst hc;simp [hro] at hk'
  ·simpa [hcb] using hc
 ·simp only [dH] at hc;by_cases hcb:c=b
  ·subst hcb;exact hrd
  ·simp [bz hcb] at hc
theorem fv.UH {P:Program} {D:Nat->Prop} {φ:bU} {H:Hf} {w w':World} {n b e p cp:Nat} {k:aW} {cs cs':Array Value} {elem:TypeId} {fr:Nat×Nat} {xs:List AV} {v:AV} {u:Value} {rd:List Nat} {r:Result Next}
 (hr:r= .ok (.value u) w') (hrd:inl rd b=true) (hn: ¬D n)
 (hH:HR D φ H w) (hb:H b=some k) (hgr:k.gr=some e) (hk:w.heap[φ.cW b]? =some (.cells cs elem fr)) (hw:w'.heap=w.heap.setIfInBounds (φ.cW b) (.cells cs' elem fr))
 (hos:w'.os=w.os) (htape:w'.tape=w.tape) (hout:w'.output=w.output) (hsize:cs'.size=cs.size)
 (hp:p+cp*e=cs.size) (hz: ∀(i:Nat) (v:AV),xs[i]? =some v-> ∃u,cs'[p+i]? =some u/\aI D φ v u)
 (hv:aI (Dn D n (n+1)) (φ.pG n (φ.cW b) p cp e) v u):
 fv P D φ H w n {v,n:=n+1,rd,md:=[(b,none)],nw:=[(n,{cells:=xs,gr:=some e})]} r:=by
 have hD: ∀b,D b->Dn D n (n+1) b:=fun b h=> .inl h;have hnn: ¬D n:=hn;have hag:= @bU.CN D φ n (φ.cW b) p cp e hnn;obtain ⟨hdb,⟨⟨cs0,elem0,fr0,h1,h2,h3,h4⟩,h5⟩⟩:=hH.at_ b k hb;have hlt:=(hH.at_ b k hb).2.lt;obtain ⟨hmp,rfl,rfl,rfl⟩:=h1.of hk;obtain ⟨hro,hesz,hcap⟩:=h4 e hgr;have hbn:b≠n:=fun e=>hnn (e▸hdb);have happ:(bX.app {v,n:=n+1,rd,md:=[(b,none)],nw:=[(n,{cells:=xs,gr:=some e})]} H)=fun c=>if c=b then none else if c=n then some {cells:=xs,gr:=some e} else H c:=by
  funext c;simp only [bX.app,dH,ab];by_cases h:c=b
  ·subst h;simp
  ·by_cases h':c=n
   ·subst h';simp [bz h,h]
   ·simp [bz h,bz h',h,h']
 have hne: ∀c,c≠φ.cW b->w'.heap[c]? =w.heap[c]? :=fun c hc=>by rw [hw,bM hlt,aN (qg hc)]
 refine ⟨φ.pG n (φ.cW b) p cp e,u,_,w',hr,.inl rfl,by show n<=n+1;omega,hv,?_,fun c k' hc hk'=> ?_,fun c r hc=> ?_,fun c k' h=> ?_⟩
 ·rw [happ];refine dR.mk' hH rfl rfl hD hag.at_ ⟨fun c k' hc=> ?_,fun b1 b2 k1 k2 hne' g1 g2 hk'=> ?_⟩ ⟨hos,htape,hout,by rw [hw];simp,fun c hc hn=>hne c (fun e=>hn b k hb hro e.symm)⟩ fun c k' hc hk'=> ?_
  ·by_cases hcb:c=b
   ·simp [hcb] at hc
   ·rw [aN hcb] at hc;by_cases hcn:c=n
    ·subst hcn;simp at hc;subst hc;refine ⟨.inr ⟨bx _,ez _⟩,⟨⟨cs',elem,fr,.mk rfl (by simp [bU.pG];rw [hw,bM hlt];simp),fun i v hv=> ?_,fun _=>⟨fun h=>(by cases h),fun i hi=>(h3 hro).2 i (by rw [<-hsize,hgr];exact hi)⟩,fun e' he=> ?_⟩,fun g' h=>by simp at h⟩⟩
     ·obtain ⟨u,hu,hvu⟩:=hz i v hv;exact ⟨u,by simpa [bU.pG] using hu,hvu.mono hD hag⟩
     ·simp at he;subst he;exact ⟨rfl,by simp [bU.pG],by simp [bU.pG];rw [hsize];exact hp.symm⟩
    ·rw [aN hcn] at hc;have h':=hH.at_ c k' hc;exact ⟨hD c h'.1,h'.2.mono hD hag h'.1 (hne _ (fun e=>hH.sep b c k k' (qg hcb) hb hc hro e.symm))⟩
  ·have hb1:b1≠b:=fun e=>by simp [e] at g1
   have hb2:b2≠b:=fun e=>by simp [e] at g2
   rw [aN hb1] at g1;rw [aN hb2] at g2;by_cases hb1n:b1=n<;>by_cases hb2n:b2=n
   ·exact absurd (hb1n.trans hb2n.symm) hne'
   ·rw [aN hb2n] at g2;simp [bU.pG,hb1n,hb2n];exact hH.sep b b2 k k2 (qg hb2) hb g2 hro
   ·rw [aN hb1n] at g1;simp [bU.pG,hb1n,hb2n];exact hH.sep b1 b k1 k hb1 g1 hb hk'
   ·rw [aN hb1n] at g1;rw [aN hb2n] at g2;simp [bU.pG,hb1n,hb2n];exact hH.sep b1 b2 k1 k2 hne' g1 g2 hk'
  ·have hcb:c≠b:=fun e=>by simp [e] at hc
   rw [aN hcb] at hc;by_cases hcn:c=n
   ·right;exact ⟨b,k,hb,hro,by simp [bU.pG,hcn]⟩
   ·rw [aN hcn] at hc;right;exact ⟨c,k',hc,hk',by simp [bU.pG,hcn]⟩
 ·rw [happ] at hc;by_cases hcb:c=b
  ·simp [hcb] at hc
  ·simp only [hcb,bV] at hc;by_cases hcn:c=n
   ·simp [hcn] at hc;subst hc;simp at hk'
   ·simpa [hcn] using hc
 ·simp only [dH] at hc;by_cases hcb:c=b
  ·subst hcb;exact hrd
  ·simp [bz hcb] at hc
 ·simp only [ab] at h;by_cases hcn:c=n
  ·show n<=c/\c<n+1;omega
  ·simp [bz hcn] at h
theorem fv.OG {P:Program} {D:Nat->Prop} {φ:bU} {H:Hf} {w w':World} {n b e cap:Nat} {cs:Array Value} {elem:TypeId} {fr:Nat×Nat} {xs:List AV} {v:AV} {u:Value} {rd:List Nat} {r:Result Next}
 (hr:r= .ok (.value u) w') (hrd:inl rd b=true) (hn: ¬D n) (hdb:D b)
 (hH:HR D φ H w) (hw:w'.heap=w.heap.push (.cells cs elem fr)) (hos:w'.os=w.os) (htape:w'.tape=w.tape) (hout:w'.output=w.output)
 (hz: ∀(i:Nat) (v:AV),xs[i]? =some v-> ∃u,cs[i]? =some u/\aI D φ v u) (hfr: ∀i,(i<cs.size\/i=cs.size/\some e≠some 1)-> ¬(fr.1<=i/\i<fr.2)) (hcap:cs.size=cap*e)
 (hv:aI (Dn D n (n+1)) (φ.set n w.heap.size cap e) v u):
 fv P D φ H w n {v,n:=n+1,rd,md:=[(b,none)],nw:=[(n,{cells:=xs,gr:=some e})]} r:=by
 have hnn: ¬D n:=hn;have hbn:b≠n:=fun e=>hnn (e▸hdb);have hst:= @dR.alloc D φ H w w' n xs cs elem fr (some e) cap e hH hn hw hos htape hout hz hfr (fun e' he=>by simp at he;subst he;exact ⟨rfl,hcap⟩)
 have happ:(bX.app {v,n:=n+1,rd,md:=[(b,none)],nw:=[(n,{cells:=xs,gr:=some e})]} H)=fun c=>if c=b then none else if c=n then some {cells:=xs,gr:=some e} else H c:=by
  funext c;simp only [bX.app,dH,ab];by_cases h:c=b
  ·subst h;simp
  ·by_cases h':c=n
   ·subst h';simp [bz h,h]
   ·simp [bz h,bz h',h,h']
 refine ⟨φ.set n w.heap.size cap e,u,_,w',hr,.inl rfl,by show n<=n+1;omega,hv,?_,fun c k' hc hk'=> ?_,fun c r hc=> ?_,fun c k' h=> ?_⟩
 ·rw [happ];have sub: ∀c k,(if c=b then none else if c=n then some {cells:=xs,gr:=some e} else H c)=some k->(if c=n then some {cells:=xs,gr:=some e} else H c)=some k:=fun c k hc=>by
   by_cases hcb:c=b
   ·simp [hcb] at hc
   ·simpa [hcb] using hc
  exact dR.mk' hH rfl rfl hst.sub hst.agree.at_ ⟨fun c k hc=>hst.hr.at_ c k (sub c k hc),fun b1 b2 k1 k2 hne h1 h2 hk=>hst.hr.sep b1 b2 k1 k2 hne (sub _ _ h1) (sub _ _ h2) hk⟩ hst.eC fun c k hc hk=>hst.oY c k (sub c k hc) hk
 ·rw [happ] at hc;by_cases hcb:c=b
  ·simp [hcb] at hc
  ·simp only [hcb,bV] at hc;by_cases hcn:c=n
   ·simp [hcn] at hc;subst hc;simp at hk'
   ·simpa [hcn] using hc
 ·simp only [dH] at hc;by_cases hcb:c=b
  ·subst hcb;exact hrd
  ·simp [bz hcb] at hc
 ·simp only [ab] at h;by_cases hcn:c=n
  ·show n<=c/\c<n+1;omega
  ·simp [bz hcn] at h
theorem Addr.add_eq (b o i:Nat):(⟨b,o,none⟩:Addr).add i=⟨b,o+i,none⟩:=by
 unfold Addr.add;split
 ·rename_i h;subst h;rfl
 ·rfl
theorem Br {w:World} {c o:Nat} {cs:Array Value} {elem:TypeId} {fr:Nat×Nat} (h:w.heap[c]? =some (.cells cs elem fr)):w.cell? ⟨c,o,none⟩=cs[o]? :=by
 simp [World.cell?,h]
theorem DX {w:World} {c o:Nat} {cs:Array Value} {elem:TypeId} {lo hi:Nat} (h:w.heap[c]? =some (.cells cs elem (lo,hi))):w.frozen? ⟨c,o,none⟩=(decide (lo<=o)&&decide (o<hi)):=by
 simp [World.frozen?,h]
theorem oP {P:Program} {w:World} {c o:Nat} {cs:Array Value} {elem:TypeId} {fr:Nat×Nat} {u:Value} (h:w.heap[c]? =some (.cells cs elem fr)) (hu:cs[o]? =some u):
 (load ⟨c,o,none⟩).run P w= .ok u w:=by
 rw [run_load,Br h,hu]
theorem run_loadCellsFrom {P:Program} {w:World} {c o:Nat} {cs:Array Value} {elem:TypeId} {fr:Nat×Nat} (h:w.heap[c]? =some (.cells cs elem fr)):
 ∀(n i:Nat) (acc:Array Value),o+i+n<=cs.size->(loadCellsFrom ⟨c,o,none⟩ i n acc).run P w= .ok (acc++(cs.toList.drop (o+i)).take n) w:=by
 intro n;induction n with
 |zero=>intro i acc _;simp [loadCellsFrom]
 |succ n ih=>
  intro i acc hle;have hlt:o+i<cs.size:=by omega
  have hu:cs[o+i]? =some cs[o+i]:=by simp [hlt]
  simp only [loadCellsFrom,Sem.run_bind,Addr.add_eq];rw [oP h hu];simp only [Result.andThen_ok];rw [ih (i+1) _ (by omega)]
  congr 1;have e1:List.drop (o+i) cs.toList=cs[o+i]::List.drop (o+(i+1)) cs.toList:=by
   rw [show o+(i+1)=(o+i)+1 from rfl]
   rw [<-Array.getElem_toList (by simpa using hlt)]
   exact kW (by simpa using hlt)
  rw [e1,List.take_succ_cons];apply lg;simp
theorem run_loadCells {P:Program} {w:World} {c o n:Nat} {cs:Array Value} {elem:TypeId} {fr:Nat×Nat} (h:w.heap[c]? =some (.cells cs elem fr)) (hle:o+n<=cs.size):
 (loadCells ⟨c,o,none⟩ n).run P w= .ok ((cs.toList.drop o).take n).toArray w:=by
 unfold loadCells;rw [run_loadCellsFrom h n 0 #[] (by omega)]
 simp
theorem oW {P:Program} {c o:Nat} {elem:TypeId} {lo hi:Nat}:
 ∀(vs:List Value) (i:Nat) (w:World) (cs:Array Value),w.heap[c]? =some (.cells cs elem (lo,hi))->(∀j,j<cs.size-> ¬(lo<=j/\j<hi))->o+i+vs.length<=cs.size→
  (∀v∈vs,v.oneCell'=true)→
  ∃w',(storeCells ⟨c,o,none⟩ vs i).run P w= .ok () w'/\w'.os=w.os/\w'.tape=w.tape/\w'.output=w.output∧
   w'.heap=w.heap.setIfInBounds c (.cells (cs.toList.take (o+i)++vs++cs.toList.drop (o+i+vs.length)).toArray elem (lo,hi)):=by
 intro vs;induction vs with
 |nil=>
  intro i w cs h _ _ _;have hlt:c<w.heap.size:=by
   rcases dw c w.heap.size with h'|h'
   ·exact h'
   ·rw [gw h'] at h;cases h
  refine ⟨w,by simp [storeCells],rfl,rfl,rfl,?_⟩
  simp only [cM,kv,fu,kQ];apply sY;intro d;rw [bM hlt];split
  ·rename_i e;subst e;exact h
  ·rfl
 |cons v vs ih=>
  intro i w cs h hfr hle hone;have hlt:c<w.heap.size:=by
   rcases dw c w.heap.size with h'|h'
   ·exact h'
   ·rw [gw h'] at h;cases h
  simp only [List.length_cons] at hle;have hoi:o+i<cs.size:=by omega
  have ig:(w.setCell ⟨c,o+i,none⟩ v).heap=w.heap.setIfInBounds c (.cells (cs.setIfInBounds (o+i) v) elem (lo,hi)):=by
   apply sY;intro d;rw [bM hlt];simp only [World.setCell,Ci];split
   ·rename_i e;subst e;simp [h]
   ·rfl
  have h1:(w.setCell ⟨c,o+i,none⟩ v).heap[c]? =some (.cells (cs.setIfInBounds (o+i) v) elem (lo,hi)):=by
   rw [ig,bM hlt];simp
  obtain ⟨w',hr,ho,ht,hou,hh⟩:=ih (i+1) _ _ h1 (fun j hj=>hfr j (by simpa using hj)) (by simp;omega) (fun x hx=>hone x (iZ _ hx))
  refine ⟨w',?_,ho.trans rfl,ht.trans rfl,hou.trans rfl,?_⟩
  ·simp only [storeCells,Sem.run_bind,Addr.add_eq];rw [run_store _ _ _ _ _ (hone v (ja)),Br h,DX h];have hf:(decide (lo<=o+i)&&decide (o+i<hi))=false:=by
    have:=hfr (o+i) hoi;rw [Bool.and_eq_false_iff];by_cases hh:lo<=o+i
    ·right;simp;omega
    ·left;simp;omega
   have hc:cs[o+i]? =some cs[o+i]:=by simp [hoi]
   rw [hc,hf];simp only [cY,bV,Result.andThen_ok];exact hr
  ·rw [hh,ig];apply sY;intro d;rw [bM (by simpa using hlt),bM hlt,bM hlt]
   split
   ·congr 2;apply lg;simp only [Array.toList_setIfInBounds,List.length_cons];apply lH;intro j;have hl:cs.toList.length=cs.size:=by simp
    simp only [p0,jA,iq,dN,gO,List.length_set,yr,hl,List.getElem?_cons,List.length_cons];by_cases c1:j<o+i
    ·simp [c1,show j<o+(i+1) by omega,show j<cs.size by omega,show ¬(o+i=j) by omega,show min (o+(i+1)) cs.size=o+(i+1) by omega,show min (o+i) cs.size=o+i by omega,show j<o+(i+1)+vs.length by omega,show j<o+i+(vs.length+1) by omega]
    ·by_cases c2:j=o+i
     ·subst c2;simp [show min (o+(i+1)) cs.size=o+(i+1) by omega,show min (o+i) cs.size=o+i by omega,show o+i<o+(i+1) by omega,show o+i<o+(i+1)+vs.length by omega,show o+i<o+i+(vs.length+1) by omega,hoi]
     ·by_cases c3:j<o+(i+1)+vs.length
      ·simp [show min (o+(i+1)) cs.size=o+(i+1) by omega,show min (o+i) cs.size=o+i by omega,c3,show j<o+i+(vs.length+1) by omega,show ¬j<o+(i+1) by omega,c1,show ¬(j-(o+i)=0) by omega,show j-(o+i)-1=j-(o+(i+1)) by omega]
      ·simp [show min (o+(i+1)) cs.size=o+(i+1) by omega,show min (o+i) cs.size=o+i by omega,c3,show ¬j<o+i+(vs.length+1) by omega,show o+(i+1)+vs.length+(j-(o+(i+1)+vs.length))=o+i+(vs.length+1)+(j-(o+i+(vs.length+1))) by omega]
       intro hx;omega
   ·rfl
def cO:Operand->Option cC
 | .tmp t=>some (.t t)
 | .const v=>(vZ v).map .c
 | .global g=>some (.g g)
 | .func f=>if Nat.beq f YB then none else some (.c (.fn f []))
def vr:List Operand->Option (List cC)
 |[]=>some []
 |y::r=>(cO y).bind fun x=>(vr r).bind fun xs=>some (x::xs)
def CH:Option Operand->Option (Option cC)
 |none=>some none
 |some y=>(cO y).map some
def eQ (P:Program) (t:TypeId):Option Bool:=
 match P.underlying t with
 |some (.struct _)=>some true
 |some (.array _ _)=>some true
 |some _=>some false
 |none=>none
def e9 (P:Program) (t:TypeId):Option Nat:=(P.info? t).map (·.size)
def eI (P:Program) (t:TypeId):Option (List AV):=(P.info? t).bind fun i=>i.zero.bind fun z=>lT z.cells.toList
def zI:List Value->Nat->Bool
 |[],n=>match n with
  |0=>true
  |_+1=>false
 |x::r,n=>match n with
  |0=>false
  |m+1=>match x with
   | .int .i64 (.ofNat 0)=>zI r m
   |_=>false
def zB:List Value->Nat->Bool
 |[],n=>match n with
  |0=>true
  |_+1=>false
 |x::r,n=>match n with
  |0=>false
  |m+1=>match x with
   | .bool false=>zB r m
   |_=>false
def GC (n:Nat) (v:AV):List AV:=List.replicate n v
theorem Qf: ∀{l:List Value} {n:Nat},zI l n=true->lT l=some (GC n (.i .i64 0))
 |[],0,_=>rfl
 |[],_+1,h=>by simp [zI] at h
 |_::_,0,h=>by simp [zI] at h
 |x::r,m+1,h=>by
  simp only [zI] at h;split at h
  ·simp only [lT,wB,aS,Qf h,GC,NI];rfl
  ·cases h
theorem QO: ∀{l:List Value} {n:Nat},zB l n=true->lT l=some (GC n (.b false))
 |[],0,_=>rfl
 |[],_+1,h=>by simp [zB] at h
 |_::_,0,h=>by simp [zB] at h
 |x::r,m+1,h=>by
  simp only [zB] at h;split at h
  ·simp only [lT,wB,aS,QO h,GC,NI]
  ·cases h
def Ay (P:Program) (t:TypeId):Option (List AV):=match P.underlying t with
 |some (.array m _)=>match Nat.ble 1000 m with
  |true=>(P.info? t).bind fun i=>i.zero.bind fun z=>match zI z.cells.toList m with
   |true=>some (GC m (.i .i64 0))
   |false=>match zB z.cells.toList m with
    |true=>some (GC m (.b false))
    |false=>none
  |false=>eI P t
 |_=>eI P t
theorem Dl {P:Program} {t:TypeId} {z:List AV} (h:Ay P t=some z):eI P t=some z:=by
 unfold Ay at h;split at h
 ·split at h
  ·simp only [af] at h;obtain ⟨i,hi,u,hu,h⟩:=h;simp only [eI,hi,hu,aS];split at h
   ·rename_i hz;cases h;exact Qf hz
   ·split at h
    ·rename_i hz;cases h;exact QO hz
    ·cases h
  ·exact h
 ·exact h
def mN (P:Program) (t:TypeId) (f:Nat):Option (Nat×Nat×TypeId):=
 match P.underlying t with
 |some (.struct fs)=>(fs[f]?).bind fun fl=>(e9 P fl.type).map fun z=>(fl.offset,z,fl.type)
 |_=>none
def o0 (P:Program) (t:TypeId):List (Nat×Operand)->Option (List (Nat×Nat×cC))
 |[]=>some []
 |(i,y)::r=>(mN P t i).bind fun q=>(cO y).bind fun x=>(o0 P t r).bind fun xs=>some ((q.1,q.2.1,x)::xs)
def lz (z:Nat):List (Nat×Operand)->Option (List (Nat×Nat×cC))
 |[]=>some []
 |(i,y)::r=>(cO y).bind fun x=>(lz z r).bind fun xs=>some ((i*z,z,x)::xs)
def oG (P:Program) (f:TypeId->Option (List Kd)):List Field->Nat->Option (List Kd)
 |[],_=>some []
 |fl::r,off=>if fl.name≠ "_" ∧fl.offset=off then (f fl.type).bind fun ks=>if e9 P fl.type=some ks.length then (oG P f r (off+ks.length)).map (ks++ ·) else none else none
def tG (ks:List Kd):Nat->List Kd
 |0=>[]
 |n+1=>ks++tG ks n
def rE (P:Program):Nat->TypeId->Option (List Kd)
 |0,_=>none
 |d+1,t=>match P.underlying t with
  |some .bool=>some [.b]
  |some (.int _)=>some [.i]
  |some .string=>some [.s]
  |some (.struct fs)=>if P.stoodInHeld t=false then oG P (rE P d) fs.toList 0 else none
  |some (.array len e)=>(rE P d e).bind fun ks=>if e9 P e=some ks.length then some (tG ks len) else none
  |_=>none
def zn (P:Program) (t:TypeId):Bool:= !P.eqGuardType P.depth t
def EU (P:Program) (t:TypeId):Option Nat:=
 match P.underlying t with
 |some (.pointer _)=>some 0
 |some (.slice _)=>some 1
 |some (.func _ _ _)=>some 2
 |_=>none
def bad:Option jJ:=some .bad
def bK (o:Option jJ):jJ:=o.getD .bad
def db (P:Program) (o:Op):jJ:=
 match o with
 | .move x=>bK<|(cO x).map .mv
 | .assign x=>bK<|(cO x).map .mv
 | .pick c a b=>bK<|(cO c).bind fun c=>(cO a).bind fun a=>(cO b).map fun b=> .pick c a b
 | .alloc t=>bK<|(Ay P t).map .new
 | .box t x=>bK<|(cO x).map .box
 | .build t ps=>match P.underlying t with
  |some (.struct fs)=>bK<|(eI P t).bind fun z=>if fs.all fun f=>(P.info? f.type).isSome then (o0 P t ps.toList).map fun l=> .build z l else none
  |some (.array _ e)=>bK<|(eI P t).bind fun z=>(e9 P e).bind fun s=>(lz s ps.toList).map fun l=> .build z l
  |_=> .bad
 | .buildSlice t len ps=>match P.underlying t with
  |some (.slice e)=>bK<|(eI P e).bind fun z=>(e9 P e).bind fun s=>if z.length=s/\len*s<=2^24 then (lz s ps.toList).map fun l=> .lC (dI z len) len l else none
  |_=> .bad
 | .load t a=>bK<|(eQ P t).bind fun g=>(e9 P t).bind fun z=>(cO a).map fun a=> .ld g z a
 | .store t a x=>bK<|(e9 P t).bind fun z=>(cO a).bind fun a=>(cO x).map fun x=> .st z a x
 | .nilCheck x=>bK<|(cO x).map .nck
 | .binOp op t x y _=>match P.underlying t with
  |some (.int _)=>bK<|(cO x).bind fun x=>(cO y).map fun y=> .bin op x y
  |some .string=>bK<|(cO x).bind fun x=>(cO y).map fun y=> .bin op x y
  |some (.interface _)=>match op,y with
   | .eql,.const .nilIface=>bK<|(cO x).map fun x=> .WM false x
   | .neq,.const .nilIface=>bK<|(cO x).map fun x=> .WM true x
   |_,_=> .bad
  |_=>match EU P t with
   |some k=>(match op with
    | .eql=>bK<|(cO x).bind fun x=>(cO y).map fun y=> .EO false k x y
    | .neq=>bK<|(cO x).bind fun x=>(cO y).map fun y=> .EO true k x y
    |_=> .bad)
   |none=>if zn P t then (match op with
    | .eql=>bK<|(rE P 9 t).bind fun ks=>(eQ P t).bind fun g=>(cO x).bind fun x=>(cO y).map fun y=> .ye false g ks x y
    | .neq=>bK<|(rE P 9 t).bind fun ks=>(eQ P t).bind fun g=>(cO x).bind fun x=>(cO y).map fun y=> .ye true g ks x y
    |_=> .bad) else .bad
 | .unOp op _ x=>match op with
  | .not=>bK<|(cO x).map .not
  | .neg=>bK<|(cO x).map .neg
  |_=> .bad
 | .convert s d x=>match P.underlying s,P.underlying d with
  |some (.int _),some (.int k)=>bK<|(cO x).map fun x=> .yk k x
  |some .string,some .string=>bK<|(cO x).map .idc
  |some .string,some (.slice e)=>match P.underlying e with
   |some (.int .u8)=>bK<|(cO x).map .s2b
   |_=> .bad
  |some (.slice e),some .string=>match P.underlying e with
   |some (.int .u8)=>bK<|(cO x).map .b2s
   |_=> .bad
  |_,_=> .bad
 | .makeFunc (.func f) first caps=>if first.size=0&& !Nat.beq f YB then bK<|(vr caps.toList).map fun l=> .Co f l else if caps.size=0&& !Nat.beq f YB then bK<|(vr first.toList).map fun l=> .mkm f l else .bad
 | .slice t x lo hi mx=>if mx.isSome&&hi.isNone then .bad else match P.underlying t with
  |some .string=>match mx with
   |none=>bK<|(cO x).bind fun x=>(CH lo).bind fun lo=>(CH hi).map fun hi=> .Vi x lo hi
   |some _=> .bad
  |some (.slice e)=>bK<|(e9 P e).bind fun z=>(cO x).bind fun x=>(CH lo).bind fun lo=>(CH hi).bind fun hi=>(CH mx).map fun mx=> .qT z x lo hi mx
  |some (.array n e)=>bK<|(e9 P e).bind fun z=>(cO x).bind fun x=>(CH lo).bind fun lo=>(CH hi).bind fun hi=>(CH mx).map fun mx=> .slA n z x lo hi mx
  |_=> .bad
 | .fieldAddr t x f=>bK<|(mN P t f).bind fun q=>if q.2.1=0 then none else (cO x).map fun x=> .fa q.1 x
 | .field t x f=>bK<|(mN P t f).bind fun q=>(eQ P q.2.2).bind fun g=>(cO x).map fun x=> .fld g q.2.1 q.1 x
 | .indexAddr t x i=>match P.underlying t with
  |some (.array n e)=>bK<|(e9 P e).bind fun z=>(cO x).bind fun x=>(cO i).map fun i=> .Ii n z x i
  |some (.slice e)=>bK<|(e9 P e).bind fun z=>(cO x).bind fun x=>(cO i).map fun i=> .qO z x i
  |_=> .bad
 | .index t x i=>match P.underlying t with
  |some (.array n e)=>bK<|(e9 P e).bind fun z=>(eQ P e).bind fun g=>(cO x).bind fun x=>(cO i).map fun i=> .Rg n z g x i
  |some .string=>bK<|(cO x).bind fun x=>(cO i).map fun i=> .uZ x i
  |_=> .bad
 | .extract x i=>bK<|(cO x).map fun x=> .ext x i
 | .makeInterface t x=>match P.underlying t with
  |some (.interface _)=> .bad
  |some _=>bK<|(cO x).map fun x=> .Kw t x
  |none=> .bad
 | .typeAssert x _ t commaOk=>match commaOk,P.underlying t with
  |true,some (.interface _)=> .bad
  |true,some _=>bK<|(P.info? t).bind fun i=>i.zero.bind fun z=>(vZ z).bind fun z=>(cO x).map fun x=> .OH t z x
  |_,_=> .bad
 | .panic x=>bK<|(cO x).map .MJ
 | .defer c=>match c.callee with
  | .value f=>bK<|(cO f).bind fun f=>(vr c.args.toList).map fun l=> .w9 f l
  |_=> .bad
 | .call c=>match c.callee with
  | .value f=>bK<|(cO f).bind fun f=>(vr c.args.toList).map fun l=> .call f l
  | .builtin b=>match b,c.args.toList,c.argTypes.toList with
   | .len,[x],[t]=>match P.underlying t with
    |some .string=>bK<|(cO x).map .BH
    |some (.slice _)=>bK<|(cO x).map .oF
    |some (.map _ _)=>bK<|(cO x).map .J1
    |some (.array n _)=> .Mn n
    |some (.pointer a)=>match P.underlying a with
     |some (.array n _)=> .Mn n
     |_=> .bad
    |_=> .bad
   | .cap,[x],[t]=>match P.underlying t with
    |some (.slice _)=>bK<|(cO x).map .Jy
    |_=> .bad
   | .min,x::xs,_=>bK<|(cO x).bind fun x=>(vr xs).map fun l=> .mn x l
   | .max,x::xs,_=>bK<|(cO x).bind fun x=>(vr xs).map fun l=> .mx x l
   | .append,[s,x],[t,u]=>match P.underlying t,P.underlying u with
    |some (.slice e),some (.int _)=>bK<|(P.info? e).bind fun i=>(eI P e).bind fun z=>if z.length=i.size/\0<i.size/\i.bytes≠0 then (cO s).bind fun s=>(cO x).map fun x=> .apz i.size i.bytes z s x else none
    |some (.slice e),some _=>bK<|(P.info? e).bind fun i=>(eI P e).bind fun z=>if z.length=i.size/\i.bytes≠0 then (cO s).bind fun s=>(cO x).map fun x=> .app i.size i.bytes z s x else none
    |_,_=> .bad
   | .copy,[d,s],t::_=>match P.underlying t with
    |some (.slice e)=>bK<|(e9 P e).bind fun z=>(cO d).bind fun d=>(cO s).map fun s=> .FW z d s
    |_=> .bad
   | .delete,[m,k],t::_=>match P.underlying t with
    |some (.map kt _)=>bK<|(p6 P kt).bind fun kd=>(cO m).bind fun m=>(cO k).map fun k=> .mpD kd m k
    |_=> .bad
   | .recover,[],_=> .Q9
   | .clear,[x],[t]=>match P.underlying t with
    |some (.slice e)=>bK<|(eI P e).bind fun zs=>(e9 P e).bind fun z=>(cO x).map fun x=> .Rt z zs x
    |_=> .bad
   |_,_,_=> .bad
  |_=> .bad
 | .makeMap t r=>match r with
  |some _=> .bad
  |none=>match P.underlying t with
   |some (.map kt _)=>match p6 P kt with
    |some 0=> .Qb (.i [])
    |some 1=> .Qb (.s [])
    |_=> .bad
   |_=> .bad
 | .lookup t x k ok=>match P.underlying t with
  |some (.map kt et)=>bK<|(p6 P kt).bind fun kd=>(P.info? et).bind fun i=>i.zero.bind fun z=>(vZ z).bind fun z=>(cO x).bind fun m=>(cO k).map fun k=> .mpG kd ok z m k
  |_=> .bad
 | .mapUpdate t m k x=>match P.underlying t with
  |some (.map kt _)=>bK<|(p6 P kt).bind fun kd=>(cO m).bind fun m=>(cO k).bind fun k=>(cO x).map fun x=> .KB kd m k x
  |_=> .bad
 | .insert t m k x=>match P.underlying t with
  |some (.map kt _)=>bK<|(p6 P kt).bind fun kd=>(cO m).bind fun m=>(cO k).bind fun k=>(cO x).map fun x=> .KB kd m k x
  |_=> .bad
 | .makeSlice t l c=>match P.underlying t with
  |some (.slice e)=>bK<|(P.info? e).bind fun i=>(eI P e).bind fun z=>if z.length=i.size then (cO l).bind fun l=>(cO c).map fun c=> .R7 i.size i.bytes z l c else none
  |_=> .bad
 |_=> .bad
end Go.Ab
namespace Go.Ab
theorem xN {D:Nat->Prop} {φ:bU} {u:Value} {v:AV} (h:wB u=some v):aI D φ v u:=by
 unfold wB at h;split at h<;>cases h
 ·exact .b _
 ·exact .i _ _
 ·rename_i s;have:=aI.s (D:=D) (φ:=φ) s.data.toList;simpa using this
 ·exact .np
 ·exact .ns
 ·exact .nf
 ·exact .ni
 ·exact .nm
theorem gC {D:Nat->Prop} {φ:bU}: ∀{l:List Value} {m:List AV},lT l=some m->cJ D φ m l
 |[],m,h=>by simp [lT] at h;subst h;exact .nil
 |u::l,m,h=>by
  simp only [lT,af] at h;obtain ⟨x,hx,xs,hxs,h⟩:=h;cases h;exact .cons (xN hx) (gC hxs)
theorem kZ {D:Nat->Prop} {φ:bU} {u:Value} {v:AV} (h:vZ u=some v):aI D φ v u:=by
 unfold vZ at h;split at h
 ·obtain ⟨m,hm,rfl⟩:=bc.1 h;have:=aI.uP (gC (D:=D) (φ:=φ) hm);simpa using this
 ·obtain ⟨m,hm,rfl⟩:=bc.1 h;have:=aI.By (gC (D:=D) (φ:=φ) hm);simpa using this
 ·exact xN h
theorem aI.one {D:Nat->Prop} {φ:bU} {v:AV} {u:Value} (h:aI D φ v u) (h1:v.one=true):u.oneCell'=true:=by
 cases h<;>first|rfl|(simp [AV.one] at h1)
theorem aI.cells {D:Nat->Prop} {φ:bU} {v:AV} {u:Value} (h:aI D φ v u) (hn:v.isAny=false):cJ D φ v.cells u.cells.toList:=by
 cases h with
 |agg l cs hl h=>exact ⟨by simpa [AV.cells,Value.cells] using hl,fun i a u ha hu=>h i a u ha (by simpa [Value.cells] using hu)⟩
 |sl b o len cap h=>exact .cons (.sl b o len cap h) .nil
 |p b o h=>exact .cons (.p b o h) .nil
 |sg b o len j cap h hj hc hl=>exact .cons (.sg b o len j cap h hj hc hl) .nil
 |fn f l cs hf hl h=>exact .cons (.fn f l cs hf hl h) .nil
 |bm f l cs hf hl h=>exact .cons (.bm f l cs hf hl h) .nil
 |yl L r ts l hL h=>exact .cons (.yl L r ts l hL h) .nil
 |mI l x cap hc=>exact .cons (.mI l x cap hc) .nil
 |bg l cs hl h=>exact .cons (.bg l cs hl h) .nil
 |fz l n B o cap vs hB hc hs h=>exact .cons (.fz l n B o cap vs hB hc hs h) .nil
 |fp l k B o vs hB hs h=>exact .cons (.fp l k B o vs hB hs h) .nil
 |any u=>simp [AV.isAny] at hn
 |m b h=>exact .cons (.m b h) .nil
 |_=>exact .cons (by constructor) .nil
section
variable {P:Program} {D:Nat->Prop} {φ:bU} {H:Hf} {w:World} {n:Nat}
theorem cZ (s:Sem Value) (w:World):(do pure (Next.value (<-s)):Sem Next).run P w=(s.run P w).andThen fun a w'=> .ok (.value a) w':=by simp
theorem run_typeInfo {t:TypeId} {i:TypeInfo} (h:P.info? t=some i) (w:World):(typeInfo t).run P w= .ok i w:=by
 simp [typeInfo,h]
theorem run_sizeOf {t:TypeId} {z:Nat} (h:e9 P t=some z) (w:World):(sizeOf t).run P w= .ok z w:=by
 obtain ⟨i,hi,rfl⟩:=bc.1 h;simp [sizeOf,run_typeInfo hi]
theorem iI {t:TypeId} {g:Bool} (h:eQ P t=some g) (w:World):(isAgg t).run P w= .ok g w:=by
 unfold eQ at h;split at h<;>cases h
 ·rename_i hu;simp [isAgg,run_underlying hu]
 ·rename_i hu;simp [isAgg,run_underlying hu]
 ·rename_i d hs ha hu;simp only [isAgg,Sem.run_bind,run_underlying hu,Result.andThen_ok];cases d<;>first|rfl|(exact absurd rfl (hs _))|(exact absurd rfl (ha _ _))
theorem mu {t:TypeId} {z:List AV} (h:eI P t=some z) (w:World): ∃u,(zeroValue t).run P w= .ok u w/\lT u.cells.toList=some z:=by
 simp only [eI,af] at h;obtain ⟨i,hi,u,hu,hz⟩:=h;exact ⟨u,by simp [zeroValue,run_typeInfo hi,hu],hz⟩
theorem HR.row (hH:HR D φ H w) {b:Nat} {k:aW} (hb:H b=some k) (hm:k.mp=none) {o z:Nat} (hz:(aA k.cells o z).length=z):
 ∃us:List Value,(loadCells ⟨φ.cW b,φ.off b+o,none⟩ z).run P w= .ok us.toArray w/\cJ D φ (aA k.cells o z) us:=by
 obtain ⟨_,⟨⟨cs,elem,fr,h1,h2,_,_⟩,_⟩⟩:=hH.at_ b k hb;have h1:=h1.cells hm;by_cases h0:z=0
 ·subst h0;exact ⟨[],by simp [loadCells,loadCellsFrom],by simp [aA];exact .nil⟩
 ·have hz':=hz;simp [aA] at hz;have hin: ∀i,i<k.cells.length->φ.off b+i<cs.size:=fun i hi=>by
   obtain ⟨u,hu,_⟩:=h2 i _ (aY hi);rcases dw (φ.off b+i) cs.size with h'|h'
   ·exact h'
   ·rw [gw h'] at hu;cases hu
  have hle:φ.off b+o+z<=cs.size:=by have:=hin (o+z-1) (by omega);omega
  refine ⟨(cs.toList.drop (φ.off b+o)).take z,run_loadCells h1 hle,by rw [hz'];simp;omega,fun i a u ha hu=> ?_⟩
  simp only [aA,jA,iq] at ha hu;split at ha
  ·rename_i hi;rw [aM hi] at hu;obtain ⟨u',hu',hr⟩:=h2 (o+i) a ha;rw [jX,show φ.off b+o+i=φ.off b+(o+i) by omega,hu'] at hu
   cases hu;exact hr
  ·cases ha
theorem HR.cell (hH:HR D φ H w) {b:Nat} {k:aW} (hb:H b=some k) (hm:k.mp=none) {o:Nat} {v:AV} (hv:k.cells[o]? =some v):
 ∃u,(load ⟨φ.cW b,φ.off b+o,none⟩).run P w= .ok u w/\aI D φ v u:=by
 obtain ⟨_,⟨⟨cs,elem,fr,h1,h2,_,_⟩,_⟩⟩:=hH.at_ b k hb;have h1:=h1.cells hm;obtain ⟨u,hu,hr⟩:=h2 o v hv;exact ⟨u,oP h1 hu,hr⟩
theorem HR.afU (hH:HR D φ H w) {l:List AV} {B o z k:Nat} {vs:Array Value} (hB:φ.fz B=some vs) (hs: ∀i,i<l.length->o+i<vs.size) (h: ∀(i:Nat) (a:AV) (u:Value),l[i]? =some a->vs[o+i]? =some u->aI D φ a u) (hz:(aA l k z).length=z):
 ∃us:List Value,(loadCells ⟨B,o+k,none⟩ z).run P w= .ok us.toArray w/\cJ D φ (aA l k z) us:=by
 obtain ⟨elem,fr,h1⟩:=hH.fz B vs hB;by_cases h0:z=0
 ·subst h0;exact ⟨[],by simp [loadCells,loadCellsFrom],by simp [aA];exact .nil⟩
 ·have hz':=hz;simp [aA] at hz;have hle:o+k+z<=vs.size:=by have:=hs (k+z-1) (by omega);omega
  refine ⟨(vs.toList.drop (o+k)).take z,run_loadCells h1 hle,by rw [hz'];simp;omega,fun i a u ha hu=> ?_⟩
  simp only [aA,jA,iq] at ha hu;split at ha
  ·rename_i hi;rw [aM hi] at hu;rw [jX,show o+k+i=o+(k+i) by omega] at hu
   exact h (k+i) a u ha hu
  ·cases ha
theorem HR.al5 (hH:HR D φ H w) {l:List AV} {B o k:Nat} {vs:Array Value} (hB:φ.fz B=some vs) (hs: ∀i,i<l.length->o+i<vs.size) (h: ∀(i:Nat) (a:AV) (u:Value),l[i]? =some a->vs[o+i]? =some u->aI D φ a u) {v:AV} (hv:l[k]? =some v):
 ∃u,(load ⟨B,o+k,none⟩).run P w= .ok u w/\aI D φ v u:=by
 obtain ⟨elem,fr,h1⟩:=hH.fz B vs hB;have hk:k<l.length:=by
  rcases dw k l.length with h'|h'
  ·exact h'
  ·rw [fM h'] at hv;cases hv
 have hu:vs[o+k]? =some (vs[o+k]'(hs k hk)):=Fe (hs k hk);exact ⟨vs[o+k]'(hs k hk),oP h1 hu,h k v _ hv hu⟩
theorem ec {h:Hp} {rd:List Nat} {b:Nat} (hb:inl rd b=true):only (ab h) rd b=ab h b:=by simp [only,hb]
theorem oX: ∀{xs:List AV} {us:List Value},aX xs=true->cJ D φ xs us-> ∀u∈us,u.oneCell'=true
 |[],us,_,h,u,hu=>by rw [h.kK] at hu;cases hu
 |x::xs,us,ho,h,u,hu=>by
  obtain ⟨u0,us',rfl,h1,h2⟩:=h.dZ;simp only [aX,aw] at ho;rcases jD.1 hu with rfl|hu
  ·exact h1.one ho.1
  ·exact oX ho.2 h2 u hu
theorem HR.zw (hH:HR D φ H w) {b:Nat} {k:aW} (hb:H b=some k) (hm:k.mp=none) (hro:k.ro=false) {o:Nat} {xs:List AV} {us:List Value} (hxs:cJ D φ xs us) (hone:aX xs=true)
 (hle:o+xs.length<=k.cells.length):
 ∃w' cs cs' elem fr,(storeCells ⟨φ.cW b,φ.off b+o,none⟩ us 0).run P w= .ok () w'/\w.heap[φ.cW b]? =some (.cells cs elem fr)/\w'.heap=w.heap.setIfInBounds (φ.cW b) (.cells cs' elem fr)∧
  w'.os=w.os/\w'.tape=w.tape/\w'.output=w.output/\cs'.size=cs.size∧
  ∀(i:Nat) (v:AV),(eF k.cells o xs)[i]? =some v-> ∃u,cs'[φ.off b+i]? =some u/\aI D φ v u:=by
 obtain ⟨_,⟨⟨cs,elem,⟨lo,hi⟩,h1,h2,h3,_⟩,_⟩⟩:=hH.at_ b k hb;have h1:=h1.cells hm;have hfr:=(h3 hro).2;generalize φ.off b=f at*;have hin: ∀i,i<k.cells.length->f+i<cs.size:=fun i hi=>by
  obtain ⟨u,hu,_⟩:=h2 i _ (aY hi);rcases dw (f+i) cs.size with h'|h'
  ·exact h'
  ·rw [gw h'] at hu;cases hu
 have hlen:us.length=xs.length:=hxs.1.symm;have hsz:f+o+us.length<=cs.size\/us.length=0:=by
  by_cases he:us.length=0
  ·exact .inr he
  ·left;have:=hin (o+us.length-1) (by omega);omega
 by_cases he:us.length=0
 ·have hu:us=[]:=jG he;have hx:xs=[]:=jG (by omega)
  subst hu;subst hx;refine ⟨w,cs,cs,elem,(lo,hi),by simp [storeCells],h1,?_,rfl,rfl,rfl,rfl,fun i v hv=> ?_⟩
  ·apply sY;intro d;rw [bM (hH.at_ b k hb).2.lt];split
   ·rename_i e;subst e;exact h1
   ·rfl
  ·simp [eF] at hv;obtain ⟨u,hu,hr⟩:=h2 i v hv;exact ⟨u,hu,hr⟩
 ·have hle':f+o+us.length<=cs.size:=hsz.resolve_right he;obtain ⟨w',hr,ho,ht,hou,hh⟩:= @oW P (φ.cW b) (f+o) elem lo hi us 0 w cs h1 (fun j hj=>hfr j (.inl hj)) (by omega) (oX hone hxs)
  refine ⟨w',cs,_,elem,(lo,hi),hr,h1,hh,ho,ht,hou,by simp;omega,fun i v hv=> ?_⟩
  simp only [fu];simp only [eF,p0,dN,gO,jA,iq] at hv;have hl:cs.toList.length=cs.size:=by simp
  simp only [List.getElem?_toArray,p0,dN,gO,jA,iq,hl,hlen];have m1:min o k.cells.length=o:=by omega
  have m2:min (f+o) cs.size=f+o:=by omega
  rw [m1] at hv;rw [m2];by_cases c1:i<o+xs.length
  ·rw [aM c1] at hv;rw [aM (show f+i<f+o+xs.length by omega)]
   by_cases c2:i<o
   ·rw [aM c2] at hv;rw [aM c2] at hv;rw [aM (show f+i<f+o by omega),aM (show f+i<f+o by omega)]
    obtain ⟨u,hu,hr⟩:=h2 i v hv;exact ⟨u,by rw [jX];exact hu,hr⟩
   ·rw [aN c2] at hv;rw [aN (show ¬f+i<f+o by omega),show f+i-(f+o)=i-o by omega]
    exact hxs.get hv
  ·rw [aN c1] at hv;rw [aN (show ¬f+i<f+o+xs.length by omega)]
   have e1:o+xs.length+(i-(o+xs.length))=i:=by omega
   have e2:f+o+xs.length+(f+i-(f+o+xs.length))=f+i:=by omega
   rw [e1] at hv;rw [e2];obtain ⟨u,hu,hr⟩:=h2 i v hv;exact ⟨u,by rw [jX];exact hu,hr⟩
/-! ### fills -/
theorem Gc (vs:List Value): ∀(k off:Nat) (cs:Array Value),
 ((vs.zipIdx k).foldl (fun (cs:Array Value) (x:Value×Nat)=>cs.setIfInBounds (off+x.2) x.1) cs).toList.length=cs.size∧
 ∀j,((vs.zipIdx k).foldl (fun (cs:Array Value) (x:Value×Nat)=>cs.setIfInBounds (off+x.2) x.1) cs)[j]? =if off+k<=j/\j<off+k+vs.length/\j<cs.size then vs[j-(off+k)]? else cs[j]? :=by
 induction vs with
 |nil=>intro k off cs;refine ⟨by simp,fun j=> ?_⟩;simp;omega
 |cons v vs ih=>
  intro k off cs;simp only [List.zipIdx_cons,xO];obtain ⟨h1,h2⟩:=ih (k+1) off (cs.setIfInBounds (off+k) v);refine ⟨by rw [h1];simp,fun j=> ?_⟩
  rw [h2 j];simp only [Array.size_setIfInBounds,List.length_cons];by_cases c1:off+(k+1)<=j/\j<off+(k+1)+vs.length/\j<cs.size
  ·rw [aM c1,aM (by omega)]
   rw [show j-(off+k)=(j-(off+(k+1)))+1 by omega]
   simp
  ·rw [aN c1,Array.getElem?_setIfInBounds];by_cases c2:off+k=j
   ·rw [aM c2];by_cases c3:off+k<cs.size
    ·rw [aM c3,aM (by omega)];simp [c2]
    ·rw [aN c3,aN (by omega)]
     rw [gw (by omega)]
   ·rw [aN c2];rw [aN (by omega)]
theorem sn {place:Nat->Option (Nat×Nat)}: ∀{ps:List (Nat×Nat×AV)} {qs:List (Nat×Value)} {z z':List AV} {cs:Array Value},
 cJ D φ z cs.toList->ps.length=qs.length->(∀(j:Nat) a q,ps[j]? =some a->qs[j]? =some q->place q.1=some (a.1,a.2.1)/\aI D φ a.2.2 q.2)->lv z ps=some z'→
 ∃cs',Instr.fill place cs qs=some cs'/\cJ D φ z' cs'.toList
 |[],qs,z,z',cs,hz,hl,_,hf=>by
  have:qs=[]:=jG (by simpa using hl.symm)
  subst this;simp [lv] at hf;subst hf;exact ⟨cs,rfl,hz⟩
 |(o,sz,v)::ps,[],z,z',cs,hz,hl,_,hf=>by simp at hl
 |(o,sz,v)::ps,(i,u)::qs,z,z',cs,hz,hl,hp,hf=>by
  obtain ⟨hpl,hvu⟩:=hp 0 _ _ rfl rfl;simp only at hpl hvu;simp only [lv] at hf;by_cases hcond:(Nat.beq v.cells.length sz&&Nat.ble (o+sz) z.length&& !v.isAny)=true
  ·rw [hcond,cond_true] at hf;rw [aw,aw] at hcond;have hc:=hvu.cells (by simpa using hcond.2)
   have hcond:=hcond.1;have e1:v.cells.length=sz:=dC hcond.1;have e2:o+sz<=z.length:=Er hcond.2;have hus:u.cells.size=sz:=by have:=hc.1;simp at this;omega
   have hcs:cs.size=z.length:=by have:=hz.1;simp at this;omega
   simp only [Instr.fill,hpl];rw [aN (by simp [hus];omega)]
   refine sn (z:=eF z o v.cells) (cs:=_) ?_ (by simpa using hl) (fun j a q ha hq=>hp (j+1) a q (by simpa using ha) (by simpa using hq)) hf
   have hfs:=Gc u.cells.toList 0 o cs;have e3:(u.cells.zipIdx.foldl (fun (cs:Array Value) (x:Value×Nat)=>cs.setIfInBounds (o+x.2) x.1) cs)=((u.cells.toList.zipIdx 0).foldl (fun (cs:Array Value) (x:Value×Nat)=>cs.setIfInBounds (o+x.2) x.1) cs):=by
    rw [<-Array.foldl_toList];simp
   rw [e3];refine ⟨by rw [hfs.1];simp [eF];omega,fun j a y ha hy=> ?_⟩
   rw [jX,hfs.2 j] at hy;simp only [fu,Array.length_toList] at hy;simp only [eF,p0,dN,gO,jA,iq,show min o z.length=o by omega] at ha
   by_cases c1:j<o
   ·rw [aM (by omega),aM c1,aM c1] at ha
    rw [aN (by omega)] at hy
    exact hz.2 j a y ha (by simpa using hy)
   ·by_cases c2:j<o+v.cells.length
    ·rw [aM c2,aN c1] at ha;rw [aM (by omega)] at hy
     exact hc.2 (j-o) a y ha (by simpa using hy)
    ·rw [aN c2,show o+v.cells.length+(j-(o+v.cells.length))=j by omega] at ha
     rw [aN (by omega)] at hy
     exact hz.2 j a y ha (by simpa using hy)
  ·rw [ju] at hcond;rw [hcond] at hf;simp at hf
theorem sW {z:List AV} {cs:Array Value} (hz:cJ D φ z cs.toList): ∀n,cJ D φ (dI z n) ((Array.range (n*cs.size)).map (fun i=>cs[i % cs.size]!)).toList:=by
 intro n;refine ⟨?_,fun i a u ha hu=> ?_⟩
 ·simp;induction n with
  |zero=>simp [dI]
  |succ n ih=>simp [dI,ih,oa,hz.1];omega
 ·have hu':i<n*cs.size/\u=cs[i % cs.size]! :=by
   simp only [Array.toList_map,gF,Array.toList_range,bc] at hu;obtain ⟨j,hj,rfl⟩:=hu;have:=List.getElem?_range (n:=n*cs.size) (i:=i);by_cases hi:i<n*cs.size
   ·rw [List.getElem?_range hi] at hj;cases hj;exact ⟨hi,rfl⟩
   ·rw [fM (by simp;omega)] at hj;cases hj
  obtain ⟨hi,rfl⟩:=hu';have hpos:0<cs.size:=by
   rcases AZ cs.size with h|h
   ·rw [h] at hi;simp at hi
   ·exact h
  have hlt:=Nat.mod_lt i hpos;have key: ∀n i,i<n*cs.size->(dI z n)[i]? =z[i % cs.size]? :=by
   intro n;induction n with
   |zero=>intro i hi;simp at hi
   |succ n ih=>
    intro i hi;have hl:z.length=cs.size:=by have:=hz.1;simpa using this
    simp only [dI,p0,hl];split
    ·rename_i h;rw [mL h]
    ·rename_i h;rw [ih _ (by rw [oa] at hi;omega)]
     rw [Nat.mod_eq_sub_mod (by omega) (a:=i)]
  rw [key n i hi] at ha;exact hz.2 (i % cs.size) a _ ha (by simp [hlt])
end
end Go.Ab
namespace Go.Ab
section
variable {P:Program} {D:Nat->Prop} {φ:bU} {w:World} {n:Nat} {e:Env} {h:Hp} {E:bX} {ρ:Operand->Value}
def gi (D:Nat->Prop) (φ:bU) (e:Env) (h:Hp) (x:cC) (u:Value):Prop:= ∀v,x.ev e h=some v->aI D φ v u
theorem lq: ∀{ys:List Operand} {xs:List cC} {vs:List AV},vr ys=some xs->xn e h xs=some vs→
 (∀y∈ys,∀x,cO y=some x->gi D φ e h x (ρ y))->cJ D φ vs (ys.map ρ)
 |[],xs,vs,h1,h2,_=>by simp [vr] at h1;subst h1;simp [xn] at h2;subst h2;exact .nil
 |y::ys,xs,vs,h1,h2,hk=>by
  simp only [vr,af] at h1;obtain ⟨x,hx,xs',hxs,h1⟩:=h1;cases h1;simp only [xn,af] at h2;obtain ⟨v,hv,vs',hvs,h2⟩:=h2;cases h2;exact .cons (hk y (ja) x hx v hv) (lq hxs hvs (fun y hy=>hk y (iZ _ hy)))
theorem Xp {v:AV} {c:Bool} (hs:pe v n=some (c,E)):c=true/\E={v,n}:=by
 simp only [pe,aP,bq] at hs;exact ⟨hs.1.symm,hs.2.symm⟩
theorem bW {v:AV} {c:Bool} {r:Result Next} {u:Value} (hs:pe v n=some (c,E)) (hH:HR D φ (only (ab h) E.rd) w) (hr:r= .ok (.value u) w) (hv:aI D φ v u):
 fv P D φ (only (ab h) E.rd) w n E r:=by
 obtain ⟨_,rfl⟩:=Xp hs;exact fv.pure hr hH hv
theorem cz {v:AV} {rd:List Nat} {r:Result Next} {u:Value} (hE:E={v,n,rd}) (hH:HR D φ (only (ab h) E.rd) w) (hr:r= .ok (.value u) w) (hv:aI D φ v u):
 fv P D φ (only (ab h) E.rd) w n E r:=by
 subst hE;exact fv.pure hr hH hv
theorem IJ {x:cC} {u:Value} {c:Bool} (hs:step (.mv x) e h n=some (c,E)) (hx:gi D φ e h x u) (hH:HR D φ (only (ab h) E.rd) w):
 fv P D φ (only (ab h) E.rd) w n E ((pure (.value u):Sem Next).run P w):=by
 simp only [step,af] at hs;obtain ⟨v,hv,hs⟩:=hs;exact bW hs hH rfl (hx v hv)
theorem Ik {c a b:cC} {uc ua ub:Value} {cc:Bool} (hs:step (.pick c a b) e h n=some (cc,E)) (hc:gi D φ e h c uc) (ha:gi D φ e h a ua) (hb:gi D φ e h b ub) (hH:HR D φ (only (ab h) E.rd) w):
 fv P D φ (only (ab h) E.rd) w n E ((do pure (.value (if <-asBool uc then ua else ub)):Sem Next).run P w):=by
 simp only [step,af] at hs;obtain ⟨v,hv,hs⟩:=hs;have hcv:=hc v hv;split at hs
 ·simp only [af] at hs;obtain ⟨x,hx,hs⟩:=hs;cases hcv;exact bW hs hH (by simp [asBool]) (ha x hx)
 ·simp only [af] at hs;obtain ⟨x,hx,hs⟩:=hs;cases hcv;exact bW hs hH (by simp [asBool]) (hb x hx)
 ·cases hs
theorem cJ.push {z:List AV} {cs:Array Value} (hz:cJ D φ z cs.toList): ∀(i:Nat) (v:AV),z[i]? =some v-> ∃u,cs[i]? =some u/\aI D φ v u:=fun i v hv=>by
 obtain ⟨u,hu,hr⟩:=hz.get hv;exact ⟨u,by simpa using hu,hr⟩
theorem gR (t:TypeId) (cs:Array Value) (w:World):(newRow t cs).run P w= .ok ⟨w.heap.size,0,none⟩ {w with heap:=w.heap.push (.cells cs t)}:=by
 simp [newRow]
theorem Eu {m cap fK:Nat}:aI (Dn D n (n+1)) (φ.set n m cap fK) (.p n 0) (.pointer (some ⟨m,0,none⟩)):=by
 have:=aI.p (D:=Dn D n (n+1)) (φ:=φ.set n m cap fK) n 0 (.inr ⟨bx _,ez _⟩);simpa [bU.set] using this
theorem HW {m cap fK l c:Nat}:aI (Dn D n (n+1)) (φ.set n m cap fK) (.sl n 0 l c) (.slice (some ⟨m,0,none⟩) l c):=by
 have:=aI.sl (D:=Dn D n (n+1)) (φ:=φ.set n m cap fK) n 0 l c (.inr ⟨bx _,ez _⟩);simpa [bU.set] using this
theorem th {m cap fK l:Nat} (hl:l<=cap):aI (Dn D n (n+1)) (φ.set n m cap fK) (.sg n 0 l) (.slice (some ⟨m,0,none⟩) l cap):=by
 have:=aI.sg (D:=Dn D n (n+1)) (φ:=φ.set n m cap fK) n 0 l 0 cap (.inr ⟨bx _,ez _⟩) (by simp) (by simp [bU.set]) hl
 simpa [bU.set] using this
theorem LO {z:List AV} {t:TypeId} {c:Bool} (hs:step (.new z) e h n=some (c,E)) (hz:eI P t=some z) (hn:n<E.n-> ¬D n) (hH:HR D φ (only (ab h) E.rd) w):
 fv P D φ (only (ab h) E.rd) w n E ((do pure (Next.value (<-Instr.alloc t true (.tuple #[]))):Sem Next).run P w):=by
 simp only [step,aP,bq] at hs;obtain ⟨_,rfl⟩:=hs;obtain ⟨u,hu,hz'⟩:=mu hz w;refine fv.alloc (g:=none) (cap:=0) (fK:=0) (cs:=u.cells) (elem:=t) (fr:=(0,0)) (w':={w with heap:=w.heap.push (.cells u.cells t)}) (u:= .pointer (some ⟨w.heap.size,0,none⟩)) ?_ hH (hn (ez _)) rfl rfl rfl rfl (gC hz').push (fun i _=>by simp) (fun e he=>by cases he) Eu
 simp [Instr.alloc,hu,newVar,gR]
theorem MC {x:cC} {u:Value} {t:TypeId} {c:Bool} (hs:step (.box x) e h n=some (c,E)) (hc:c=true) (hx:gi D φ e h x u) (hn:n<E.n-> ¬D n) (hH:HR D φ (only (ab h) E.rd) w):
 fv P D φ (only (ab h) E.rd) w n E ((do pure (Next.value (<-Instr.box t u)):Sem Next).run P w):=by
 simp only [step,af,aP,bq] at hs;obtain ⟨v,hv,hna,rfl⟩:=hs;have hna:v.isAny=false:=by rw [hc] at hna;simpa using hna
 refine fv.alloc (g:=none) (cap:=0) (fK:=0) (cs:=u.cells) (elem:=t) (fr:=(0,0)) (w':={w with heap:=w.heap.push (.cells u.cells t)}) (u:= .pointer (some ⟨w.heap.size,0,none⟩)) ?_ hH (hn (ez _)) rfl rfl rfl rfl ((hx v hv).cells hna).push (fun i _=>by simp) (fun e he=>by cases he) Eu
 simp [Instr.box,newVar,gR]
theorem nR {t:TypeId} {a:Addr} {y:Value} (hg:eQ P t=some false) (hy:(load a).run P w= .ok y w):(Instr.loadAt t (.pointer (some a))).run P w= .ok y w:=by
 simp only [Instr.loadAt,Instr.sureAddr,loadVar,Sem.run_bind,Sem.run_pure,Result.andThen_ok,iI hg,cY,bV];exact hy
theorem oT {t:TypeId} {a:Addr} {z:Nat} {us:Array Value} (hg:eQ P t=some true) (hz:e9 P t=some z) (hy:(loadCells a z).run P w= .ok us w):(Instr.loadAt t (.pointer (some a))).run P w= .ok (.agg us) w:=by
 simp only [Instr.loadAt,Instr.sureAddr,loadVar,Sem.run_bind,Sem.run_pure,Result.andThen_ok,iI hg,cu,run_sizeOf hz];rw [hy];rfl
theorem XO {agg:Bool} {z:Nat} {a:cC} {u:Value} {t:TypeId} {c:Bool} (hs:step (.ld agg z a) e h n=some (c,E)) (hc:c=true) (hg:eQ P t=some agg) (hz:e9 P t=some z) (ha:gi D φ e h a u)
 (hH:HR D φ (only (ab h) E.rd) w):fv P D φ (only (ab h) E.rd) w n E ((do pure (Next.value (<-Instr.loadAt t u)):Sem Next).run P w):=by
 simp only [step,af] at hs;obtain ⟨v,hv,hs⟩:=hs;have hr:=ha v hv;split at hs
 ·rename_i b o;simp only [af] at hs;obtain ⟨k,hk,hs⟩:=hs;cases hr;cases agg
  ·simp only [af,aP,bq] at hs;obtain ⟨x,hx,_,rfl⟩:=hs;obtain ⟨hk,hmp⟩:=dO hk;have hkk:only (ab h) [b] b=some k:=by rw [ec (by simp [inl])];exact hk
   obtain ⟨y,hy,hyr⟩:=HR.cell (P:=P) hH hkk hmp hx;exact cz rfl hH (by rw [cZ,nR hg hy];rfl) hyr
  ·simp only [aP,bq] at hs;obtain ⟨h1,rfl⟩:=hs;rw [hc] at h1;obtain ⟨hk,hmp⟩:=dO hk;have hkk:only (ab h) [b] b=some k:=by rw [ec (by simp [inl])];exact hk
   obtain ⟨us,hy,hyr⟩:=HR.row (P:=P) hH hkk hmp (bO h1);exact cz rfl hH (by rw [cZ,oT hg hz hy];rfl) (aI.uP hyr)
 ·rename_i l o;cases hr with
  |fp _ _ B o' vs hB hsz hl=>
  cases agg
  ·simp only [af,aP,bq] at hs;obtain ⟨x,hx,_,rfl⟩:=hs;obtain ⟨y,hy,hyr⟩:=HR.al5 (P:=P) hH hB hsz hl hx;exact cz rfl hH (by rw [cZ,nR hg hy];rfl) hyr
  ·simp only [aP,bq] at hs;obtain ⟨h1,rfl⟩:=hs;rw [hc] at h1;obtain ⟨us,hy,hyr⟩:=HR.afU (P:=P) hH hB hsz hl (bO h1);exact cz rfl hH (by rw [cZ,oT hg hz hy];rfl) (aI.uP hyr)
 ·cases hs
theorem aeo {z:Nat} {a x:cC} {u y:Value} {t:TypeId} {c:Bool} (hs:step (.st z a x) e h n=some (c,E)) (hc:c=true) (hz:e9 P t=some z) (ha:gi D φ e h a u) (hx:gi D φ e h x y)
 (hH:HR D φ (only (ab h) E.rd) w):fv P D φ (only (ab h) E.rd) w n E ((do Instr.storeAt t u y;pure Next.skip:Sem Next).run P w):=by
 simp only [step,af] at hs;obtain ⟨v,hv,hs⟩:=hs;have hr:=ha v hv;split at hs
 ·rename_i b o;simp only [af] at hs;obtain ⟨k,hk,y',hy,hs⟩:=hs;have hyr:=hx y' hy;cases hr;split at hs
  ·cases hs
  ·rename_i hro;simp only [aP,bq] at hs;obtain ⟨h1,rfl⟩:=hs;rw [hc] at h1;simp only [aw,aV] at h1;obtain ⟨⟨h2,h3⟩,h4⟩:=h1;have h3:=dC h3;obtain ⟨hk,hmp⟩:=dO hk;have hkk:only (ab h) [b] b=some k:=by rw [ec (by simp [inl])];exact hk
   have hna:y'.isAny=false:=by cases y'<;>first|rfl|simp [AV.cells,aX,AV.one] at h2
   obtain ⟨w',cs,cs',elem,fr,g1,g2,g3,g4,g5,g6,g7,g8⟩:=HR.zw (P:=P) hH hkk hmp hro (hyr.cells hna) h2 (by rw [h3];exact h4)
   have hsz:y.cells.size=z:=by have:=(hyr.cells hna).1;simp at this;omega
   refine fv.write (nx:= .skip) (u:=undef) ?_ (.inr ⟨rfl,rfl⟩) (aI.bg [] #[] rfl (fun i a u ha=>by simp at ha)) (by simp [inl]) hH hkk hro g2 g3 g4 g5 g6 g7 g8
   simp [Instr.storeAt,Instr.sureAddr,storeVar,run_sizeOf hz,hsz,g1]
 ·cases hs
theorem Lz {x:cC} {u:Value} {c:Bool} (hs:step (.nck x) e h n=some (c,E)) (hx:gi D φ e h x u) (hH:HR D φ (only (ab h) E.rd) w) {o:Oper} {y:Operand} (ho:o.op= .nilCheck y) (hy:ρ y=u):
 fv P D φ (only (ab h) E.rd) w n E ((execOp ρ o).run P w):=by
 simp only [step,af] at hs;obtain ⟨v,hv,hs⟩:=hs;have hr:=hx v hv;split at hs
 ·refine bW (u:=u) hs hH ?_ hr;cases hr;simp [execOp,ho,hy]
 ·refine bW (u:=u) hs hH ?_ hr;cases hr;simp [execOp,ho,hy]
 ·refine bW (u:=u) hs hH ?_ hr;cases hr;simp [execOp,ho,hy]
 ·refine bW (u:=u) hs hH ?_ hr;cases hr;simp [execOp,ho,hy]
 ·cases hs
theorem xD (l:List UInt8):(ByteArray.mk l.toArray).toList=l:=by
 rw [ByteArray.toList_eq]
theorem size_mk (l:List UInt8):(ByteArray.mk l.toArray).size=l.length:=by simp [ByteArray.size]
theorem GV (a b:List UInt8):(ByteArray.mk a.toArray)++(ByteArray.mk b.toArray)=ByteArray.mk (a++b).toArray:=by
 apply ByteArray.ext;simp
theorem Nd {op:BinOp} {a b:AV} {x y:Value} {t:TypeId} {r:Bool×AV} (hb:bin op a b=some r) (hr:r.1=true) (ha:aI D φ a x) (hb':aI D φ b y):
 ∃u,(binOp op t x y).run P w= .ok u w/\aI D φ r.2 u:=by
 unfold bin at hb;split at hb
 ·rename_i k m k' m';cases ha;cases hb';split at hb
  ·simp only [mG,aP] at hb;subst hb;have h0:0<=m':=bO hr;refine ⟨_,?_,.i _ _⟩;simp [binOp,Op.shift,show ¬m'<0 by omega,Nat.min_def]
  ·simp only [mG,aP] at hb;subst hb;have h0:0<=m':=bO hr;refine ⟨_,?_,.i _ _⟩;simp [binOp,Op.shift,show ¬m'<0 by omega,Nat.min_def]
  ·rename_i hn1 hn2;split at hb
   ·rename_i hk;subst hk;cases op<;>simp only [sm,aP,reduceCtorEq] at hb<;>subst hb<;>
     first
      |(refine ⟨_,?_,.b _⟩;simp [binOp,Op.intArith,Op.intBits,Op.intCmp];done)
      |(refine ⟨_,?_,.i _ _⟩;simp [binOp,Op.intArith,Op.intBits,Op.intCmp];done)
      |(have h0: ¬m'=0:=by simpa using hr
        refine ⟨_,?_,.i _ _⟩;simp [binOp,Op.intDiv,h0];done)
   ·cases hb
 ·cases ha;cases hb';rename_i l m;cases op<;>simp only [Jr,aP,reduceCtorEq] at hb<;>subst hb
  ·have h0:=bO hr;refine ⟨.string ⟨(l++m).toArray⟩,?_,.s _⟩;simp only [binOp,Op.stringOp,size_mk];rw [aN (by simp [IntKind.max,IntKind.signed,IntKind.bits];omega)]
   simp [GV]
  all_goals exact ⟨_,by simp [binOp,Op.stringOp,xD],.b _⟩
 ·cases hb
theorem kI {op:BinOp} {t:TypeId} {x y:Operand} {a b:Value} (hg:(∀xs,a≠ .agg xs)\/P.eqGuardType P.depth t=false) (hi:a≠ .nilIface):(eqGuard op t x y a b).run P w= .ok () w:=by
 cases a with
 |nilIface=>exact absurd rfl hi
 |agg xs=>
  have hg':P.eqGuardType P.depth t=false:=hg.resolve_left (fun h=>h xs rfl);cases op<;>cases b<;>simp [eqGuard,hg']
 |_=>cases op<;>simp [eqGuard]
theorem Kf {op:BinOp} {a b:AV} {x y:Value} {r:Bool×AV} (hb:bin op a b=some r) (ha:aI D φ a x):(∀xs,x≠ .agg xs)/\x≠ .nilIface:=by
 unfold bin at hb;split at hb<;>first|(cases hb;done)|(cases ha;exact ⟨fun xs=>by simp,by simp⟩)
theorem FL {op:BinOp} {x y:cC} {a b:Value} {t:TypeId} {xo yo:Operand} {c:Bool} (hs:step (.bin op x y) e h n=some (c,E)) (hc:c=true) (hx:gi D φ e h x a) (hy:gi D φ e h y b) (hH:HR D φ (only (ab h) E.rd) w):
 fv P D φ (only (ab h) E.rd) w n E ((do pure (Next.value (<-(do eqGuard op t xo yo a b;binOp op t a b))):Sem Next).run P w):=by
 simp only [step,af,aP,bq] at hs;obtain ⟨v,hv,v',hv',r,hr,h1,rfl⟩:=hs;obtain ⟨u,hu,hur⟩:=Nd (P:=P) (w:=w) (t:=t) hr (h1.trans hc) (hx v hv) (hy v' hv');have hk:=Kf (y:=b) hr (hx v hv);exact cz (rd:=[]) rfl hH (by simp [kI (.inl hk.1) hk.2,hu]) hur
/-! ### equality -/
def ag5 (P:Program) (t:TypeId):Kd->Prop
 | .b=>P.underlying t=some .bool
 | .i=> ∃j,P.underlying t=some (.int j)
 | .s=>P.underlying t=some .string
theorem Mv {k:Kd} {a b:AV} {r:Bool} {t:TypeId} {x y:Value} {d:Nat} (hr:Ml k a b=some r)
 (hk:ag5 P t k)
 (ha:aI D φ a x) (hb:aI D φ b y):(Op.equalIn (d+1) t x y).run P w= .ok r w:=by
 unfold Ml at hr;split at hr
 ·cases hr;cases ha;cases hb;exact run_equalIn_bool' _ _ _ _ _ hk
 ·by_cases e: ‹IntKind› = ‹IntKind›
  ·rename_i k x k' y;by_cases e:k=k'
   ·subst e;simp only [cu,aP] at hr;subst hr;cases ha;cases hb;obtain ⟨j,hk⟩:=hk;exact run_equalIn_int _ _ _ _ j _ _ hk
   ·rw [aN e] at hr;cases hr
  ·exact absurd rfl e
 ·cases hr;cases ha;cases hb;rw [run_equalIn_string _ _ _ _ _ hk];simp [xD]
 ·cases hr
theorem Oc {xs ys:List AV} {r:Bool} (h:eqs [] xs ys=some r):r=true:=by
 cases xs<;>cases ys<;>simp [eqs] at h;exact h
theorem qM: ∀{ks ks':List Kd} {xs ys:List AV} {r:Bool},eqs (ks++ks') xs ys=some r→
 ∃r1 r2,eqs ks (xs.take ks.length) (ys.take ks.length)=some r1/\eqs ks' (xs.drop ks.length) (ys.drop ks.length)=some r2/\r=(r1&&r2)
 |[],ks',xs,ys,r,h=>⟨true,r,rfl,by simpa using h,by simp⟩
 |k::ks,ks',[],ys,r,h=>by cases ys<;>simp [eqs] at h
 |k::ks,ks',x::xs,[],r,h=>by simp [eqs] at h
 |k::ks,ks',x::xs,y::ys,r,h=>by
  simp only [ee,eqs,af,aP] at h;obtain ⟨a,ha,b,hb,rfl⟩:=h;obtain ⟨r1,r2,h1,h2,rfl⟩:=qM hb;exact ⟨a&&r1,r2,by simp [eqs,ha,h1],by simpa using h2,by simp [yx]⟩
theorem mM: ∀{ks:List Kd} {xs ys:List AV} {r:Bool},eqs ks xs ys=some r->xs.length=ks.length/\ys.length=ks.length
 |[],[],[],_,_=>⟨rfl,rfl⟩
 |[],[],_::_,_,h=>by simp [eqs] at h
 |[],_::_,_,_,h=>by simp [eqs] at h
 |_::_,[],ys,_,h=>by cases ys<;>simp [eqs] at h
 |_::_,_::_,[],_,h=>by simp [eqs] at h
 |k::ks,x::xs,y::ys,r,h=>by
  simp only [eqs,af] at h;obtain ⟨a,ha,b,hb,_⟩:=h;have:=mM hb;simp [this.1,this.2]
def TQ (P:Program) (t:TypeId) (cs:List Value):Value->Prop:=fun v=>(eQ P t=some true/\v= .agg cs.toArray)\/(eQ P t=some false/\cs=[v])
theorem ri {t:TypeId} {cs:Array Value} {off z:Nat} {g:Bool} (hg:eQ P t=some g) (hz:e9 P t=some z) (hz1:g=false->z=1) (hle:off+z<=cs.size):
 ∃v,(part t cs off).run P w= .ok v w/\TQ P t ((cs.toList.drop off).take z) v:=by
 cases g
 ·have:=hz1 rfl;subst this;have hlt:off<cs.size:=by omega
  refine ⟨cs[off],?_,.inr ⟨hg,?_⟩⟩
  ·simp only [part,Sem.run_bind,iI hg,Result.andThen_ok,cY,bV];simp [hlt]
  ·rw [kW (by simpa using hlt)];simp
 ·refine ⟨.agg (cs.extract off (off+z)),?_,.inl ⟨hg,?_⟩⟩
  ·simp only [part,Sem.run_bind,iI hg,Result.andThen_ok,cu,run_sizeOf hz,Sem.run_pure]
  ·congr 1;apply lg;simp [List.take_drop]
theorem AP {d:Nat} {t:TypeId} {ks:List Kd} (h:rE P d t=some ks): ∃g,eQ P t=some g/\(g=false->ks.length=1):=by
 cases d with
 |zero=>simp [rE] at h
 |succ d=>
  simp only [rE] at h;split at h<;>rename_i hu
  ·cases h;exact ⟨false,by simp [eQ,hu],fun _=>rfl⟩
  ·cases h;exact ⟨false,by simp [eQ,hu],fun _=>rfl⟩
  ·cases h;exact ⟨false,by simp [eQ,hu],fun _=>rfl⟩
  ·exact ⟨true,by simp [eQ,hu],fun h=>by cases h⟩
  ·exact ⟨true,by simp [eQ,hu],fun h=>by cases h⟩
  ·cases h
theorem KV: ∀(d:Nat) (t:TypeId) (ks:List Kd),rE P d t=some ks-> ∀(dd:Nat),d<=dd-> ∀(xs ys:List AV) (us vs:List Value) (x y:Value) (r:Bool),eqs ks xs ys=some r→
 cJ D φ xs us->cJ D φ ys vs->TQ P t us x->TQ P t vs y->(Op.equalIn dd t x y).run P w= .ok r w
 |0,t,ks,h,_,_,_,_,_,_,_,_,_,_,_,_,_,_=>by simp [rE] at h
 |d+1,t,ks,h,dd,hd,xs,ys,us,vs,x,y,r,hr,hxu,hyv,hx,hy=>by
  obtain ⟨dd,rfl⟩: ∃e,dd=e+1:=⟨dd-1,by omega⟩
  have scalar: ∀k,ks=[k]->eQ P t=some false->ag5 P t k->(Op.equalIn (dd+1) t x y).run P w= .ok r w:=by
   intro k hk hag hty;subst hk;obtain ⟨hl1,hl2⟩:=mM hr;rcases hx with ⟨h1,_⟩|⟨_,rfl⟩
   ·rw [hag] at h1;cases h1
   rcases hy with ⟨h1,_⟩|⟨_,rfl⟩
   ·rw [hag] at h1;cases h1
   match xs,ys,hl1,hl2 with
   |[a],[b],_,_=>
    simp only [eqs,af,aP] at hr;obtain ⟨r1,h1,r2,h2,rfl⟩:=hr;subst h2;rw [ie];exact Mv h1 hty (hxu.2 0 a x rfl rfl) (hyv.2 0 b y rfl rfl)
  simp only [rE] at h;split at h<;>rename_i hu
  ·cases h;exact scalar .b rfl (by simp [eQ,hu]) hu
  ·cases h;exact scalar .i rfl (by simp [eQ,hu]) ⟨_,hu⟩
  ·cases h;exact scalar .s rfl (by simp [eQ,hu]) hu
  ·rename_i fs;split at h
   ·rename_i hst;have hag:eQ P t=some true:=by simp [eQ,hu]
    rcases hx with ⟨_,rfl⟩|⟨h1,_⟩
    ·rcases hy with ⟨_,rfl⟩|⟨h1,_⟩
     ·have hfs:P.fieldsOf t=fs:=by simp [Program.fieldsOf,hu]
      rw [run_equalIn_struct w dd t us.toArray vs.toArray (by rw [hfs];exact hu) hst,hfs]
      have key: ∀(l:List Field) (off:Nat) (ks':List Kd) (r':Bool),oG P (rE P d) l off=some ks'->off+ks'.length<=us.length->off+ks'.length<=vs.length->eqs ks' ((xs.drop off).take ks'.length) ((ys.drop off).take ks'.length)=some r'→
       (Op.eqFields dd us.toArray vs.toArray l).run P w= .ok r' w:=by
       intro l;induction l with
       |nil=>intro off ks' r' h1 _ _ h2;simp [oG] at h1;subst h1;simp [eqs] at h2;subst h2;simp [Op.eqFields]
       |cons f l ih=>
        intro off ks' r' h1 hl1 hl2 h2;simp only [oG] at h1;split at h1
        ·rename_i hc;obtain ⟨hname,hoff⟩:=hc;simp only [af] at h1;obtain ⟨k1,hk1,h1⟩:=h1;split at h1
         ·rename_i hsz;obtain ⟨k2,hk2,rfl⟩:=bc.1 h1;obtain ⟨r1,r2,g1,g2,rfl⟩:=qM h2;obtain ⟨g,hg,hg1⟩:=AP hk1;simp only [dN] at hl1 hl2 g1 g2 h2;obtain ⟨v1,p1,q1⟩:=ri (P:=P) (w:=w) (cs:=us.toArray) (off:=off) hg hsz hg1 (by simp;omega)
          obtain ⟨v2,p2,q2⟩:=ri (P:=P) (w:=w) (cs:=vs.toArray) (off:=off) hg hsz hg1 (by simp;omega)
          have e1: ∀(m:List AV),((m.drop off).take (k1.length+k2.length)).take k1.length=(m.drop off).take k1.length:=fun m=>by rw [List.take_take];congr 1;omega
          have e2: ∀(m:List AV),((m.drop off).take (k1.length+k2.length)).drop k1.length=(m.drop (off+k1.length)).take k2.length:=fun m=>by rw [List.drop_take,qp];congr 1;omega
          rw [e1,e1] at g1;rw [e2,e2] at g2;have hrec:=KV d f.type k1 hk1 dd (by omega) _ _ _ _ v1 v2 r1 g1 ((hxu.drop off).take k1.length) ((hyv.drop off).take k1.length) q1 q2
          have hih:=ih (off+k1.length) k2 r2 hk2 (by omega) (by omega) g2
          simp only [Op.eqFields];rw [aM hname];simp only [Sem.run_bind,hoff,p1,p2,Result.andThen_ok,hrec];cases r1
          ·simp
          ·simp [hih]
         ·cases h1
        ·cases h1
      have hl:=mM hr;refine key fs.toList 0 ks r h (by rw [<-hxu.1];omega) (by rw [<-hyv.1];omega) ?_
      rw [fy,fy,<-hl.1,fU,hl.1,<-hl.2,fU];exact hr
     ·rw [hag] at h1;cases h1
    ·rw [hag] at h1;cases h1
   ·cases h
  ·rename_i len el;have hag:eQ P t=some true:=by simp [eQ,hu]
   rcases hx with ⟨_,rfl⟩|⟨h1,_⟩
   ·rcases hy with ⟨_,rfl⟩|⟨h1,_⟩
    ·simp only [af] at h;obtain ⟨k1,hk1,h⟩:=h;split at h
     ·rename_i hsz;cases h;obtain ⟨g,hg,hg1⟩:=AP hk1;simp only [Op.equalIn,Sem.run_bind,run_underlying hu,Result.andThen_ok,run_sizeOf hsz];rw [Std.Legacy.Range.forIn_eq_forIn_range'];have hsize:[:len].size=len:=by simp [Std.Legacy.Range.size]
      show ((Sem.run P (forIn (List.range' 0 [:len].size 1) _ _) w).andThen _)=_;rw [hsize];have hlr:=mM hr;have hrl: ∀m,(tG k1 m).length=m*k1.length:=fun m=>by
       induction m with
       |zero=>simp [tG]
       |succ m ih=>simp [tG,ih,oa];omega
      have key: ∀(m i:Nat) (r':Bool),i+m=len->eqs (tG k1 m) (xs.drop (i*k1.length)) (ys.drop (i*k1.length))=some r'→
       (forIn (List.range' i m 1) ((none,()):Option Bool×Unit) fun i __s=>do
         let __do_lift <-part el us.toArray (i*k1.length);let __do_lift_1 <-part el vs.toArray (i*k1.length);let __do_lift <-Op.equalIn dd el __do_lift __do_lift_1
         if (!__do_lift)=true then pure (ForInStep.done (some false,())) else pure (ForInStep.yield (none,()))).run P w= .ok (if r' then (none,()) else (some false,())) w:=by
       intro m;induction m with
       |zero=>intro i r' _ h2;simp only [tG] at h2;simp [Oc h2]
       |succ m ih=>
        intro i r' hi h2;simp only [tG] at h2;obtain ⟨r1,r2,g1,g2,rfl⟩:=qM h2;have hle:i*k1.length+k1.length<=len*k1.length:=by
         have:i*k1.length+k1.length=(i+1)*k1.length:=by rw [oa]
         rw [this];exact Ae _ (by omega)
        rw [hrl] at hlr;obtain ⟨v1,p1,q1⟩:=ri (P:=P) (w:=w) (cs:=us.toArray) (off:=i*k1.length) hg hsz hg1 (by simp [<-hxu.1,hlr.1];omega)
        obtain ⟨v2,p2,q2⟩:=ri (P:=P) (w:=w) (cs:=vs.toArray) (off:=i*k1.length) hg hsz hg1 (by simp [<-hyv.1,hlr.2];omega)
        have hrec:=KV d el k1 hk1 dd (by omega) _ _ _ _ v1 v2 r1 g1 ((hxu.drop _).take k1.length) ((hyv.drop _).take k1.length) q1 q2
        rw [qp,qp,show i*k1.length+k1.length=(i+1)*k1.length by rw [oa]] at g2
        have hih:=ih (i+1) r2 (by omega) g2
        simp only [List.range'_succ,List.forIn_cons,Sem.run_bind,p1,p2,Result.andThen_ok,hrec];cases r1
        ·simp
        ·simp only [fI,cY,bV,Sem.run_pure,Result.andThen_ok,eJ];exact hih
      rw [key len 0 r (by omega) (by simpa using hr)]
      cases r<;>simp
     ·cases h
    ·rw [hag] at h1;cases h1
   ·rw [hag] at h1;cases h1
  ·cases h
end
end Go.Ab
namespace Go.Ab
section
variable {P:Program} {D:Nat->Prop} {φ:bU} {w:World} {n:Nat} {e:Env} {h:Hp} {E:bX} {ρ:Operand->Value}
theorem ET {neg g:Bool} {ks:List Kd} {x y:cC} {a b:Value} {t:TypeId} {xo yo:Operand} {c:Bool} (hs:step (.ye neg g ks x y) e h n=some (c,E)) (hk:rE P 9 t=some ks) (hg:eQ P t=some g) (hgd:zn P t=true)
 (hnk:(∀k,P.underlying t≠some (.int k))/\P.underlying t≠some .string)
 (hx:gi D φ e h x a) (hy:gi D φ e h y b) (hH:HR D φ (only (ab h) E.rd) w):
 fv P D φ (only (ab h) E.rd) w n E ((do pure (Next.value (<-(do eqGuard (if neg then .neq else .eql) t xo yo a b;binOp (if neg then .neq else .eql) t a b))):Sem Next).run P w):=by
 simp only [step,af] at hs;obtain ⟨v,hv,v',hv',r,hr,hs⟩:=hs;have ha:=hx v hv;have hb:=hy v' hv';refine bW (u:= .bool (bif neg then !r else r)) hs hH ?_ (.b _)
 have hgd':P.eqGuardType P.depth t=false:=by simpa [zn] using hgd
 have key:(Op.equal t a b).run P w= .ok r w/\a≠ .nilIface/\((∃q,a= .bool q)/\(∃q,b= .bool q)\/(∃q,a= .agg q)/\(∃q,b= .agg q)):=by
  unfold ye at hr;split at hr
  ·obtain ⟨us,rfl,h1⟩:=ha.ph;obtain ⟨vs,rfl,h2⟩:=hb.ph;exact ⟨KV 9 t ks hk Op.maxDepth (by decide) _ _ us vs _ _ r hr h1 h2 (.inl ⟨hg,rfl⟩) (.inl ⟨hg,rfl⟩),by simp,.inr ⟨⟨_,rfl⟩,⟨_,rfl⟩⟩⟩
  ·have hu:P.underlying t=some .bool:=by
    unfold eQ at hg;simp only [rE] at hk;split at hk<;>rename_i hu
    ·exact hu
    ·exact absurd hu (hnk.1 _)
    ·exact absurd hu hnk.2
    ·rw [hu] at hg;cases hg
    ·rw [hu] at hg;cases hg
    ·cases hk
   have hks:ks=[.b]:=by simp only [rE,hu] at hk;cases hk;rfl
   subst hks;have h1:(Op.equal t a b).run P w= .ok r w:=KV 9 t [.b] hk Op.maxDepth (by decide) _ _ [a] [b] _ _ r hr (.cons ha .nil) (.cons hb .nil) (.inr ⟨hg,rfl⟩) (.inr ⟨hg,rfl⟩)
   simp only [eqs,af] at hr;obtain ⟨q,hq,_⟩:=hr;unfold Ml at hq;split at hq
   ·cases ha;cases hb;exact ⟨h1,by simp,.inl ⟨⟨_,rfl⟩,⟨_,rfl⟩⟩⟩
   ·contradiction
   ·contradiction
   ·cases hq
  ·cases hr
 obtain ⟨h1,h2,h3⟩:=key;have hge:=kI (P:=P) (w:=w) (op:=if neg then .neq else .eql) (t:=t) (x:=xo) (y:=yo) (b:=b) (.inr hgd') h2
 have hb2:(binOp (if neg then .neq else .eql) t a b).run P w= .ok (.bool (bif neg then !r else r)) w:=by
  rcases h3 with ⟨⟨q,rfl⟩,⟨q',rfl⟩⟩|⟨⟨q,rfl⟩,⟨q',rfl⟩⟩<;>cases neg<;>simp [binOp,h1]
 simp [hge,hb2]
theorem V6 {k:Nat} {t:TypeId} {a b:AV} {x y:Value} {r:Bool} {d:Nat} (hk:EU P t=some k) (hr:EO k a b=some r) (ha:aI D φ a x) (hb:aI D φ b y):
 (Op.equalIn (d+1) t x y).run P w= .ok r w/\x≠ .nilIface/\(∀q,x≠ .agg q)/\(∀neg:Bool,(binOp (if neg then .neq else .eql) t x y).run P w=((Op.equal t x y).run P w).andThen fun r w'=> .ok (.bool (bif neg then !r else r)) w'):=by
 unfold EU at hk;split at hk<;>rename_i hu<;>cases hk<;>unfold EO at hr<;>split at hr<;>first|contradiction|cases hr<;>cases ha<;>cases hb<;>
  refine ⟨by simp only [Op.equalIn,Sem.run_bind,run_underlying hu,Result.andThen_ok];simp,by simp,by simp,fun neg=>by cases neg<;>simp only [binOp,Sem.run_bind,cY,bV,cu,Sem.run_pure,cond_true,cond_false]⟩
theorem Eh {neg:Bool} {k:Nat} {x y:cC} {a b:Value} {t:TypeId} {xo yo:Operand} {c:Bool} (hs:step (.EO neg k x y) e h n=some (c,E)) (hk:EU P t=some k)
 (hx:gi D φ e h x a) (hy:gi D φ e h y b) (hH:HR D φ (only (ab h) E.rd) w):
 fv P D φ (only (ab h) E.rd) w n E ((do pure (Next.value (<-(do eqGuard (if neg then .neq else .eql) t xo yo a b;binOp (if neg then .neq else .eql) t a b))):Sem Next).run P w):=by
 simp only [step,af] at hs;obtain ⟨v,hv,v',hv',r,hr,hs⟩:=hs;have ha:=hx v hv;have hb:=hy v' hv';refine bW (u:= .bool (bif neg then !r else r)) hs hH ?_ (.b _)
 obtain ⟨h1,h2,h3,h4⟩:=V6 (P:=P) (w:=w) (d:=9999) hk hr ha hb;have h1:(Op.equal t a b).run P w= .ok r w:=h1;have hge:=kI (P:=P) (w:=w) (op:=if neg then .neq else .eql) (t:=t) (x:=xo) (y:=yo) (b:=b) (.inl h3) h2
 simp only [Sem.run_bind,hge,h4 neg,h1,Result.andThen_ok,Sem.run_pure]
theorem MG {x:cC} {u:Value} {c:Bool} (hs:step (.not x) e h n=some (c,E)) (hx:gi D φ e h x u) (hH:HR D φ (only (ab h) E.rd) w):
 fv P D φ (only (ab h) E.rd) w n E ((do pure (Next.value (<-Op.unary .not u)):Sem Next).run P w):=by
 simp only [step,af] at hs;obtain ⟨v,hv,hs⟩:=hs;have hr:=hx v hv;split at hs
 ·cases hr;exact bW hs hH (by simp [Op.unary]) (.b _)
 ·cases hs
theorem KK {x:cC} {u:Value} {c:Bool} (hs:step (.neg x) e h n=some (c,E)) (hx:gi D φ e h x u) (hH:HR D φ (only (ab h) E.rd) w):
 fv P D φ (only (ab h) E.rd) w n E ((do pure (Next.value (<-Op.unary .neg u)):Sem Next).run P w):=by
 simp only [step,af] at hs;obtain ⟨v,hv,hs⟩:=hs;have hr:=hx v hv;split at hs
 ·cases hr;exact bW hs hH (by simp [Op.unary,Op.intArith]) (.i _ _)
 ·cases hs
theorem NM {k:IntKind} {x:cC} {u:Value} {s d:TypeId} {c:Bool} (hs:step (.yk k x) e h n=some (c,E)) (h1: ∃j,P.underlying s=some (.int j)) (h2:P.underlying d=some (.int k)) (hx:gi D φ e h x u) (hH:HR D φ (only (ab h) E.rd) w):
 fv P D φ (only (ab h) E.rd) w n E ((do pure (Next.value (<-convert s d u)):Sem Next).run P w):=by
 obtain ⟨j,h1⟩:=h1;simp only [step,af] at hs;obtain ⟨v,hv,hs⟩:=hs;have hr:=hx v hv;split at hs
 ·cases hr;exact bW hs hH (by simp [convert,run_underlying h1,run_underlying h2,Conv.intToInt]) (.i _ _)
 ·cases hs
theorem Lv {x:cC} {u:Value} {s d:TypeId} {c:Bool} (hs:step (.idc x) e h n=some (c,E)) (h1:P.underlying s=some .string) (h2:P.underlying d=some .string) (hx:gi D φ e h x u) (hH:HR D φ (only (ab h) E.rd) w):
 fv P D φ (only (ab h) E.rd) w n E ((do pure (Next.value (<-convert s d u)):Sem Next).run P w):=by
 simp only [step,af] at hs;obtain ⟨v,hv,hs⟩:=hs;have hr:=hx v hv;split at hs
 ·cases hr;exact bW hs hH (by simp [convert,run_underlying h1,run_underlying h2]) (.s _)
 ·cases hs
theorem sj {a:Addr} {cs:Array Value} {el:TypeId} {fr:Nat×Nat} (hw:w.heap[a.block]? =some (.cells cs el fr)):(markStringish a).run P w= .ok () (w.freeze {block:=a.block,off:=cs.size} 1):=by
 have hsh:w.shape? a.block=some (el,cs.size):=by simp [World.shape?,hw]
 simp only [markStringish,Sem.run_bind,run_shape,Result.andThen_ok,hsh,run_freeze]
theorem DL {w:World} {cs:Array Value} {el:TypeId} {m:Nat} (hm:m=w.heap.size):(World.freeze {w with heap:=w.heap.push (.cells cs el)} ⟨m,cs.size,none⟩ 1)={w with heap:=w.heap.push (.cells cs el (cs.size,cs.size+1))}:=by
 subst hm;simp only [World.freeze];rw [aN (by decide)]
 congr 1;apply sY;intro d;simp only [Ci,AG];by_cases hd:d=w.heap.size
 ·subst hd;simp
 ·simp [hd,show ¬w.heap.size=d from fun e=>hd e.symm]
def j6 (s:ByteArray) (cap:Nat):Array Value:=s.data.map (fun b:UInt8=>Value.int .u8 b.toNat)++Array.replicate (cap-s.size) (Value.int .u8 0)
theorem rU (el:TypeId) (s:ByteArray) (w:World): ∃cap,s.size<=cap/\(Conv.stringToBytes el s).run P w=
 .ok (.slice (some ⟨w.heap.size,0,none⟩) s.size cap)
  {w with drawn:=w.drawn+1,heap:=w.heap.push (.cells (j6 s cap) el ((j6 s cap).size,(j6 s cap).size+1))}:=by
 refine ⟨(Question.appendCap s.size 0 el).cut (w.tape w.drawn (.appendCap s.size 0 el)),?_,?_⟩
 ·show s.size<=s.size+_;omega
 ·simp only [Conv.stringToBytes,Sem.run_bind,run_choose];rw [aN (by simp [Question.forced])]
  simp only [Result.andThen_ok,gR];generalize (Question.appendCap s.size 0 el).cut (w.tape w.drawn (.appendCap s.size 0 el))=cap;have hcs:(s.data.map (fun b:UInt8=>Value.int .u8 b.toNat)++Array.replicate (cap-s.size) (Value.int .u8 0))=j6 s cap:=rfl;rw [hcs];generalize j6 s cap=cs;rw [sj (cs:=cs) (el:=el) (fr:=(0,0)) (by simp)]
  simp only [Result.andThen_ok,Sem.run_pure];rw [DL (w:={w with drawn:=w.drawn+1}) rfl]
theorem Pk {x:cC} {u:Value} {s d el:TypeId} {c:Bool} (hs:step (.s2b x) e h n=some (c,E)) (h1:P.underlying s=some .string) (h2:P.underlying d=some (.slice el)) (h3:P.underlying el=some (.int .u8)) (hn:n<E.n-> ¬D n)
 (hx:gi D φ e h x u) (hH:HR D φ (only (ab h) E.rd) w):
 fv P D φ (only (ab h) E.rd) w n E ((do pure (Next.value (<-convert s d u)):Sem Next).run P w):=by
 simp only [step,af] at hs;obtain ⟨v,hv,hs⟩:=hs;have hr:=hx v hv;split at hs
 ·rename_i l;cases hr;simp only [aP,bq] at hs;obtain ⟨_,rfl⟩:=hs;obtain ⟨cap,hcap,hrun⟩:=rU (P:=P) el ⟨l.toArray⟩ w;rw [size_mk] at hcap hrun;have hsz:(j6 ⟨l.toArray⟩ cap).size=cap:=by simp [j6,size_mk];omega
  generalize hcs:j6 ⟨l.toArray⟩ cap=cs at hrun hsz;refine fv.alloc (g:=some 1) (cap:=cap) (fK:=1) (cs:=cs) (elem:=el) (fr:=(cs.size,cs.size+1)) (w':={w with drawn:=w.drawn+1,heap:=w.heap.push (.cells cs el (cs.size,cs.size+1))}) (u:= .slice (some ⟨w.heap.size,0,none⟩) l.length cap) ?_ hH (hn (ez _)) rfl rfl rfl rfl (fun i v hv=> ?_) (fun i hi=>by show ¬(cs.size<=i/\i<cs.size+1);rcases hi with hi|⟨_,hi⟩;omega;exact absurd rfl hi) (fun e he=>by cases he;exact ⟨rfl,by omega⟩) (th hcap)
  ·rw [cZ];simp only [convert,Sem.run_bind,run_underlying h1,run_underlying h2,run_underlying h3,Result.andThen_ok];rw [hrun];rfl
  ·have hi:i<l.length:=by
    rcases dw i l.length with h'|h'
    ·exact h'
    ·rw [fM (by simpa using h')] at hv;cases hv
   refine ⟨.int .u8 l[i].toNat,?_,?_⟩
   ·rw [<-hcs];simp [j6,Array.getElem?_append,hi]
   ·simp [hi] at hv;subst hv;exact .i _ _
 ·cases hs
end
end Go.Ab
namespace Go.Ab
section
variable {P:Program} {D:Nat->Prop} {φ:bU} {w:World} {n:Nat} {e:Env} {h:Hp} {E:bX} {ρ:Operand->Value}
theorem K5 {f:FuncId} {caps:List cC} {us:List Operand} {c:Bool} (hfy:f≠YB) (hs:step (.Co f caps) e h n=some (c,E)) (hc:vr us=some caps) (hk: ∀y∈us,∀x,cO y=some x->gi D φ e h x (ρ y)) (hH:HR D φ (only (ab h) E.rd) w):
 fv P D φ (only (ab h) E.rd) w n E ((do pure (Next.value (<-Instr.makeFunc (.func f) #[] (us.map ρ).toArray)):Sem Next).run P w):=by
 simp only [step,af] at hs;obtain ⟨v,hv,hs⟩:=hs;exact bW hs hH (by simp [Instr.makeFunc]) (aI.fn' hfy (lq hc hv hk))
theorem PV {f:FuncId} {caps:List cC} {us:List Operand} {c:Bool} (hfy:f≠YB) (hs:step (.mkm f caps) e h n=some (c,E)) (hc:vr us=some caps) (hk: ∀y∈us,∀x,cO y=some x->gi D φ e h x (ρ y)) (hH:HR D φ (only (ab h) E.rd) w):
 fv P D φ (only (ab h) E.rd) w n E ((do pure (Next.value (<-Instr.makeFunc (.func f) (us.map ρ).toArray #[])):Sem Next).run P w):=by
 simp only [step,af] at hs;obtain ⟨v,hv,hs⟩:=hs;exact bW hs hH (by simp [Instr.makeFunc]) (aI.bm' hfy (lq hc hv hk))
theorem sc {v:AV} {u:Value} {i:Int} (h:Cs v=some i) (hv:aI D φ v u): ∃k,u= .int k i:=by
 unfold Cs at h;split at h<;>cases h;cases hv;exact ⟨_,rfl⟩
theorem FH {v:AV} {u:Value} {i:Int} (h:Kv v=some i) (hv:aI D φ v u):u= .int .i64 i:=by
 unfold Kv at h;split at h<;>cases h;cases hv;rfl
def Kt (D:Nat->Prop) (φ:bU) (e:Env) (h:Hp) (x:Option cC) (u:Option Value):Prop:=
 match x,u with
 |none,none=>True
 |some x,some u=>gi D φ e h x u
 |_,_=>False
def Bd (i:Option Int) (u:Option Value):Prop:=
 match i,u with
 |none,none=>True
 |some i,some u=> ∃k,u= .int k i
 |_,_=>False
theorem dG {α:Type} {x:Option cC} {u:Option Value} {k:Option Int->Option α} {r:α} (hb:dp e h x k=some r) (hx:Kt D φ e h x u): ∃i,Bd i u/\k i=some r:=by
 cases x with
 |none=>cases u with
  |none=>exact ⟨none,trivial,hb⟩
  |some u=>exact hx.elim
 |some x=>cases u with
  |none=>exact hx.elim
  |some u=>
   simp only [dp,af] at hb;obtain ⟨v,hv,i,hi,hb⟩:=hb;obtain ⟨k',rfl⟩:=sc hi (hx v hv);exact ⟨some i,⟨k',rfl⟩,hb⟩
theorem run_sliceBound {k:IntKind} {i:Int} {y:Nat} {code:BoundsCode} (h:0<=i/\i<=y):(Instr.sliceBound (.int k i) y code).run P w= .ok i.toNat w:=by
 simp [Instr.sliceBound,asIntOf,h]
theorem dY {b:Bool} {len cap:Nat} {lo hi mx:Option Int} {ulo uhi umx:Option Value} (h:(aJ len cap lo hi mx).1=true) (hl:Bd lo ulo) (hh:Bd hi uhi) (hm:Bd mx umx) (hmh:mx=none\/ ∃v,hi=some v):
 (Instr.sliceBounds b len cap ulo uhi umx).run P w= .ok ((aJ len cap lo hi mx).2.1,(aJ len cap lo hi mx).2.2.1,(aJ len cap lo hi mx).2.2.2) w:=by
 simp only [aJ,aV] at h ⊢;cases mx with
 |none=>
  cases umx with
  |some u=>exact hm.elim
  |none=>
   simp only [nu] at h ⊢;cases hi with
   |none=>cases uhi with
    |some u=>exact hh.elim
    |none=>
     cases lo with
     |none=>cases ulo with
      |some u=>exact hl.elim
      |none=>simp [Instr.sliceBounds]
     |some l=>cases ulo with
      |none=>exact hl.elim
      |some u=>
       obtain ⟨k,rfl⟩:=hl;simp only [nu,gq] at h ⊢;simp [Instr.sliceBounds,run_sliceBound (P:=P) (w:=w) (k:=k) (i:=l) (y:=len) (code:= .sliceB) ⟨h.1,by omega⟩]
   |some i=>cases uhi with
    |none=>exact hh.elim
    |some u=>
     obtain ⟨k,rfl⟩:=hh;simp only [gq] at h ⊢;have h1: ∀code,(Instr.sliceBound (.int k i) cap code).run P w= .ok i.toNat w:=fun code=>run_sliceBound ⟨by omega,by omega⟩
     cases lo with
     |none=>cases ulo with
      |some u=>exact hl.elim
      |none=>simp [Instr.sliceBounds,h1]
     |some l=>cases ulo with
      |none=>exact hl.elim
      |some u=>
       obtain ⟨k',rfl⟩:=hl;simp only [gq] at h ⊢;have h2: ∀code,(Instr.sliceBound (.int k' l) i.toNat code).run P w= .ok l.toNat w:=fun code=>run_sliceBound ⟨by omega,by omega⟩
       simp [Instr.sliceBounds,h1,h2]
 |some m=>
  cases umx with
  |none=>exact hm.elim
  |some u=>
   obtain ⟨k0,rfl⟩:=hm;obtain ⟨i,rfl⟩:=hmh.resolve_left (by simp)
   cases uhi with
   |none=>exact hh.elim
   |some u=>
    obtain ⟨k,rfl⟩:=hh;simp only [gq] at h ⊢;have h0: ∀code,(Instr.sliceBound (.int k0 m) cap code).run P w= .ok m.toNat w:=fun code=>run_sliceBound ⟨by omega,by omega⟩
    have h1: ∀code,(Instr.sliceBound (.int k i) m.toNat code).run P w= .ok i.toNat w:=fun code=>run_sliceBound ⟨by omega,by omega⟩
    cases lo with
    |none=>cases ulo with
     |some u=>exact hl.elim
     |none=>simp [Instr.sliceBounds,h0,h1]
    |some l=>cases ulo with
     |none=>exact hl.elim
     |some u=>
      obtain ⟨k',rfl⟩:=hl;simp only [gq] at h ⊢;have h2: ∀code,(Instr.sliceBound (.int k' l) i.toNat code).run P w= .ok l.toNat w:=fun code=>run_sliceBound ⟨by omega,by omega⟩
      simp [Instr.sliceBounds,h0,h1,h2]
theorem extract_mk (l:List UInt8) (a b:Nat):(ByteArray.mk l.toArray).extract a b=ByteArray.mk ((l.take b).drop a).toArray:=by
 apply ByteArray.ext;simp [ByteArray.data_extract,List.drop_take]
theorem Nz {x:cC} {lo hi:Option cC} {u:Value} {ulo uhi:Option Value} {t:TypeId} {c:Bool} (hs:step (.Vi x lo hi) e h n=some (c,E)) (hc:c=true) (ht:P.underlying t=some .string) (hx:gi D φ e h x u) (hlo:Kt D φ e h lo ulo) (hhi:Kt D φ e h hi uhi)
 (hH:HR D φ (only (ab h) E.rd) w):fv P D φ (only (ab h) E.rd) w n E ((do pure (Next.value (<-Instr.sliceAt t u ulo uhi none)):Sem Next).run P w):=by
 simp only [step,af] at hs;obtain ⟨v,hv,hs⟩:=hs;have hr:=hx v hv;split at hs
 ·rename_i l;cases hr;obtain ⟨lo',hl,hs⟩:=dG hs hlo;obtain ⟨hi',hh,hs⟩:=dG hs hhi;simp only [aP,bq] at hs;obtain ⟨h1,rfl⟩:=hs;have hb:=dY (P:=P) (w:=w) (b:=false) (ulo:=ulo) (uhi:=uhi) (umx:=none) (h1.trans hc) hl hh trivial (.inl rfl);refine cz (rd:=[]) rfl hH ?_ (.s _);rw [cZ];simp only [Instr.sliceAt,Sem.run_bind,run_underlying ht,Result.andThen_ok,Instr.slice,Option.isSome_none,cY,bV,size_mk,hb,Sem.run_pure,extract_mk]
 ·cases hs
theorem mj {len cap:Nat} {lo hi mx:Option Int} (h:(aJ len cap lo hi mx).1=true):
 (aJ len cap lo hi mx).2.1<=(aJ len cap lo hi mx).2.2.1/\(aJ len cap lo hi mx).2.2.1<=(aJ len cap lo hi mx).2.2.2/\(aJ len cap lo hi mx).2.2.2<=cap:=by
 simp only [aJ,aV] at h ⊢;omega
theorem Mp {z:Nat} {x:cC} {lo hi mx:Option cC} {u:Value} {ulo uhi umx:Option Value} {t el:TypeId} {c:Bool} (hs:step (.qT z x lo hi mx) e h n=some (c,E)) (hc:c=true) (ht:P.underlying t=some (.slice el)) (hz:e9 P el=some z)
 (hx:gi D φ e h x u) (hlo:Kt D φ e h lo ulo) (hhi:Kt D φ e h hi uhi) (hmx:Kt D φ e h mx umx) (hmh:mx=none\/hi.isSome=true)
 (hH:HR D φ (only (ab h) E.rd) w):fv P D φ (only (ab h) E.rd) w n E ((do pure (Next.value (<-Instr.sliceAt t u ulo uhi umx)):Sem Next).run P w):=by
 simp only [step,af] at hs;obtain ⟨v,hv,hs⟩:=hs;have hr:=hx v hv;have hmh': ∀hi' mx',Bd hi' uhi->Bd mx' umx->mx'=none\/ ∃v,hi'=some v:=fun hi' mx' h1 h2=>by
  rcases hmh with rfl|h3
  ·cases umx with
   |none=>cases mx' with
    |none=>exact .inl rfl
    |some _=>exact h2.elim
   |some _=>exact hmx.elim
  ·cases hi with
   |none=>simp at h3
   |some _=>cases uhi with
    |none=>exact hhi.elim
    |some _=>cases hi' with
     |none=>exact h1.elim
     |some q=>exact .inr ⟨q,rfl⟩
 split at hs
 ·cases hr;obtain ⟨lo',hl,hs⟩:=dG hs hlo;obtain ⟨hi',hh,hs⟩:=dG hs hhi;obtain ⟨mx',hm,hs⟩:=dG hs hmx;simp only [aP,bq] at hs;obtain ⟨h1,rfl⟩:=hs;have hb:=dY (P:=P) (w:=w) (b:=true) (h1.trans hc) hl hh hm (hmh' _ _ hh hm);have hle:=mj (h1.trans hc);refine cz (rd:=[]) rfl hH ?_ .ns;rw [cZ];simp only [Instr.sliceAt,Sem.run_bind,run_underlying ht,Result.andThen_ok,Instr.slice,hb,run_sizeOf hz,Sem.run_pure,Option.map_none,ite_self];rw [show (aJ 0 0 lo' hi' mx').2.2.1-(aJ 0 0 lo' hi' mx').2.1=0 by omega,show (aJ 0 0 lo' hi' mx').2.2.2-(aJ 0 0 lo' hi' mx').2.1=0 by omega]
 ·rename_i b o len cap;cases hr with
  |sl _ _ _ _ hD=>
  obtain ⟨lo',hl,hs⟩:=dG hs hlo;obtain ⟨hi',hh,hs⟩:=dG hs hhi;obtain ⟨mx',hm,hs⟩:=dG hs hmx;simp only [aP,bq] at hs;obtain ⟨h1,rfl⟩:=hs;have hb:=dY (P:=P) (w:=w) (b:=true) (h1.trans hc) hl hh hm (hmh' _ _ hh hm);refine cz (rd:=[]) rfl hH ?_ (.sl _ _ _ _ hD);rw [cZ];simp only [Instr.sliceAt,Sem.run_bind,run_underlying ht,Result.andThen_ok,Instr.slice,hb,run_sizeOf hz,Sem.run_pure,fN,Addr.add_eq];split
  ·rfl
  ·simp only [im]
 ·rename_i b o len;cases hr with
  |sg _ _ _ j cap hD hj hcap hlen=>
  split at hs
  ·cases hs
  ·simp only [af] at hs;obtain ⟨k,hk,hs⟩:=hs;obtain ⟨lo',hl,hs⟩:=dG hs hlo;obtain ⟨hi',hh,hs⟩:=dG hs hhi;cases umx with
   |some _=>exact hmx.elim
   |none=>
   split at hs
   ·rename_i z' hgr;split at hs;rotate_left
    ·rename_i hge;simp only [aP,bq] at hs;obtain ⟨h1,rfl⟩:=hs;rw [hc] at h1;simp only [aw] at h1;obtain ⟨h1,h3⟩:=h1;have h2:=ob hge;have hle:=mj h1;have h1':(aJ len cap lo' hi' none).1=true:=by simp only [aJ,aV] at h1 ⊢;simp only [nu] at h1 ⊢;omega
     have hb:=dY (P:=P) (w:=w) (b:=true) h1' hl hh (mx:=none) (umx:=none) trivial (.inl rfl);have e1:(aJ len cap lo' hi' none).2.1=(aJ len len lo' hi' none).2.1:=rfl;have e2:(aJ len cap lo' hi' none).2.2.1=(aJ len len lo' hi' none).2.2.1:=rfl;have e3:(aJ len cap lo' hi' none).2.2.2=cap:=by simp [aJ]
     have e4:(aJ len len lo' hi' none).2.2.2=len:=by simp [aJ]
     rw [e1,e2,e3] at hb;rw [e4] at hle;generalize (aJ len len lo' hi' none).2.1=l at*;generalize (aJ len len lo' hi' none).2.2.1=hh' at*;have hz0:hh'-l=0:=by omega
     refine cz rfl hH ?_ (aI.en (if cap=l then ⟨φ.cW b,φ.off b+o,none⟩ else (⟨φ.cW b,φ.off b+o,none⟩:Addr).add (l*z)) (cap-l))
     rw [cZ];simp only [Instr.sliceAt,Sem.run_bind,run_underlying ht,Result.andThen_ok,Instr.slice,hb,run_sizeOf hz,Sem.run_pure,fN,hz0];by_cases hcl:cap=l
     ·rw [aM hcl,aM hcl]
     ·rw [aN hcl,aN hcl]
    rename_i hge;have h2:=bO hge;simp only [aP,bq] at hs;obtain ⟨h1,rfl⟩:=hs;rw [hc] at h1;simp only [aw] at h1;obtain ⟨h1,h3⟩:=h1;have h3:=dC h3;subst h3;obtain ⟨hk,hmp⟩:=dO hk;have hkk:only (ab h) [b] b=some k:=by rw [ec (by simp [inl])];exact hk
    obtain ⟨_,⟨⟨cs,elem,fr,_,_,_,h4⟩,_⟩⟩:=hH.at_ b k hkk;obtain ⟨_,h5,_⟩:=h4 z hgr;have hle:=mj h1;have h1':(aJ len cap lo' hi' none).1=true:=by simp only [aJ,aV] at h1 ⊢;simp only [nu] at h1 ⊢;omega
    have hb:=dY (P:=P) (w:=w) (b:=true) h1' hl hh (mx:=none) (umx:=none) trivial (.inl rfl);have e1:(aJ len cap lo' hi' none).2.1=(aJ len len lo' hi' none).2.1:=rfl;have e2:(aJ len cap lo' hi' none).2.2.1=(aJ len len lo' hi' none).2.2.1:=rfl;have e3:(aJ len cap lo' hi' none).2.2.2=cap:=by simp [aJ]
    rw [e1,e2,e3] at hb;generalize (aJ len len lo' hi' none).2.1=l at*;generalize (aJ len len lo' hi' none).2.2.1=hh' at*;have hv2:aI D φ (.sg b (o+l*z) (hh'-l)) (.slice (some ⟨φ.cW b,φ.off b+(o+l*z),none⟩) (hh'-l) (cap-l)):=
     .sg b (o+l*z) (hh'-l) (j+l) (cap-l) hD (by rw [h5,dF,<-hj,h5]) (by omega) (by omega)
    refine cz rfl hH ?_ hv2;rw [cZ];simp only [Instr.sliceAt,Sem.run_bind,run_underlying ht,Result.andThen_ok,Instr.slice,hb,run_sizeOf hz,Sem.run_pure,fN,Addr.add_eq];split
    ·rename_i hcl;have:l=0:=by omega
     subst this;simp
    ·simp only [im]
   ·cases hs
 ·rename_i l len;obtain ⟨lo',hl,hs⟩:=dG hs hlo;obtain ⟨hi',hh,hs⟩:=dG hs hhi;obtain ⟨mx',hm,hs⟩:=dG hs hmx;simp only [aP,bq] at hs;obtain ⟨h1,rfl⟩:=hs;have h1:=h1.trans hc;have key: ∀cap,len<=cap-> ∃M,(Instr.sliceBounds true len cap ulo uhi umx).run P w= .ok ((aJ len len lo' hi' mx').2.1,(aJ len len lo' hi' mx').2.2.1,M) w∧
   (aJ len len lo' hi' mx').2.2.2<=M/\(mx'.isSome=true->M=(aJ len len lo' hi' mx').2.2.2)/\M<=cap:=fun cap hcap=>by
   have h1':(aJ len cap lo' hi' mx').1=true:=by
    simp only [aJ,aV] at h1 ⊢;cases mx'<;>simp only [nu,gq] at h1 ⊢ <;>omega
   refine ⟨_,dY (P:=P) (w:=w) (b:=true) h1' hl hh hm (hmh' _ _ hh hm),?_,fun hs=> ?_,?_⟩
   ·cases mx'<;>simp [aJ,hcap]
   ·cases mx'
    ·simp at hs
    ·simp [aJ]
   ·simp only [aJ,aV] at h1';cases mx'<;>simp only [aJ,nu,gq] at h1' ⊢ <;>omega
  have hle:=mj h1;generalize (aJ len len lo' hi' mx').2.1=l1 at*;generalize (aJ len len lo' hi' mx').2.2.1=l2 at*;generalize (aJ len len lo' hi' mx').2.2.2=l3 at*;have run: ∀x cap,len<=cap->u= .slice x len cap-> ∃M,l3<=M/\(mx'.isSome=true->M=l3)/\M<=cap/\((do pure (Next.value (<-Instr.sliceAt t u ulo uhi umx)):Sem Next).run P w)= .ok (.value (.slice (if M=l1 then x else x.map (·.add (l1*z))) (l2-l1) (M-l1))) w:=fun x cap hcap hu=>by
   obtain ⟨M,hb,hM,hM',hMc⟩:=key cap hcap;refine ⟨M,hM,hM',hMc,?_⟩;subst hu;rw [cZ];simp only [Instr.sliceAt,Sem.run_bind,run_underlying ht,Result.andThen_ok,Instr.slice,hb,run_sizeOf hz,Sem.run_pure]
  cases hr with
  |fz _ _ B o cap vs hB hcap hsz hv=>
   obtain ⟨M,hM,hM',hMc,hrun⟩:=run _ cap hcap rfl;refine cz (rd:=[]) rfl hH hrun ?_;split
   ·rename_i hz0;have:=hM' hz0.1;rw [show l2-l1=0 by omega,show M-l1=0 by omega]
    exact .ze _
   ·by_cases hMl:M=l1
    ·rw [show l2-l1=0 by omega];exact .mI _ _ _ (fun h=>by rw [aM hMl] at h;cases h)
    ·rw [aN hMl];simp only [fN,Addr.add_eq];refine .fz _ _ B (o+l1*z) _ vs hB (by omega) (fun i hi=> ?_) (fun i a u ha hu=> ?_)
     ·simp at hi;have:=hsz (l1*z+i) (by omega);omega
     ·rw [iq] at ha;exact hv (l1*z+i) a u ha (by rw [<-hu];congr 1;omega)
  |mI _ x cap hc0=>
   obtain ⟨M,hM,hM',hMc,hrun⟩:=run x cap (eB _) rfl;refine cz (rd:=[]) rfl hH hrun ?_;split
   ·rename_i hz0;have:=hM' hz0.1;rw [show l2-l1=0 by omega,show M-l1=0 by omega]
    exact .ze _
   ·rw [show l2-l1=0 by omega];exact .mI _ _ _ (fun h=>by
     have:x=none:=by
      split at h
      ·exact h
      ·simpa using h
     have:=hc0 this;omega)
 ·cases hr with
  |ze x=>
  obtain ⟨lo',hl,hs⟩:=dG hs hlo;obtain ⟨hi',hh,hs⟩:=dG hs hhi;obtain ⟨mx',hm,hs⟩:=dG hs hmx;simp only [aP,bq] at hs;obtain ⟨h1,rfl⟩:=hs;have hb:=dY (P:=P) (w:=w) (b:=true) (h1.trans hc) hl hh hm (hmh' _ _ hh hm);have hle:=mj (h1.trans hc);refine cz (rd:=[]) (u:= .slice (if (aJ 0 0 lo' hi' mx').2.2.2=(aJ 0 0 lo' hi' mx').2.1 then x else x.map (·.add ((aJ 0 0 lo' hi' mx').2.1*z))) 0 0) rfl hH ?_ (.ze _)
  rw [cZ];simp only [Instr.sliceAt,Sem.run_bind,run_underlying ht,Result.andThen_ok,Instr.slice,hb,run_sizeOf hz,Sem.run_pure];rw [show (aJ 0 0 lo' hi' mx').2.2.1-(aJ 0 0 lo' hi' mx').2.1=0 by omega,show (aJ 0 0 lo' hi' mx').2.2.2-(aJ 0 0 lo' hi' mx').2.1=0 by omega]
 ·cases hs
theorem PU {m z:Nat} {x:cC} {lo hi mx:Option cC} {u:Value} {ulo uhi umx:Option Value} {t el:TypeId} {c:Bool} (hs:step (.slA m z x lo hi mx) e h n=some (c,E)) (hc:c=true) (ht:P.underlying t=some (.array m el)) (hz:e9 P el=some z)
 (hx:gi D φ e h x u) (hlo:Kt D φ e h lo ulo) (hhi:Kt D φ e h hi uhi) (hmx:Kt D φ e h mx umx) (hmh:mx=none\/hi.isSome=true)
 (hH:HR D φ (only (ab h) E.rd) w):fv P D φ (only (ab h) E.rd) w n E ((do pure (Next.value (<-Instr.sliceAt t u ulo uhi umx)):Sem Next).run P w):=by
 simp only [step,af] at hs;obtain ⟨v,hv,hs⟩:=hs;have hr:=hx v hv;have hmh': ∀hi' mx',Bd hi' uhi->Bd mx' umx->mx'=none\/ ∃v,hi'=some v:=fun hi' mx' h1 h2=>by
  rcases hmh with rfl|h3
  ·cases umx with
   |none=>cases mx' with
    |none=>exact .inl rfl
    |some _=>exact h2.elim
   |some _=>exact hmx.elim
  ·cases hi with
   |none=>simp at h3
   |some _=>cases uhi with
    |none=>exact hhi.elim
    |some _=>cases hi' with
     |none=>exact h1.elim
     |some q=>exact .inr ⟨q,rfl⟩
 split at hs
 ·rename_i b o;cases hr with
  |p _ _ hD=>
  obtain ⟨lo',hl,hs⟩:=dG hs hlo;obtain ⟨hi',hh,hs⟩:=dG hs hhi;obtain ⟨mx',hm,hs⟩:=dG hs hmx;simp only [aP,bq] at hs;obtain ⟨h1,rfl⟩:=hs;have hb:=dY (P:=P) (w:=w) (b:=false) (h1.trans hc) hl hh hm (hmh' _ _ hh hm);refine cz (rd:=[]) rfl hH ?_ (.sl _ _ _ _ hD);rw [cZ];simp only [Instr.sliceAt,Instr.sureAddr,Sem.run_bind,run_underlying ht,Result.andThen_ok,hb,run_sizeOf hz,Sem.run_pure,Addr.add_eq];split
  ·rfl
  ·simp only [im]
 ·cases hs
theorem oQ {t:TypeId} {f:Nat} {q:Nat×Nat×TypeId} (h:mN P t f=some q): ∃fs fl,P.underlying t=some (.struct fs)/\fs[f]? =some fl/\fl.offset=q.1/\e9 P fl.type=some q.2.1/\fl.type=q.2.2:=by
 unfold mN at h;split at h
 ·rename_i fs hu;simp only [af] at h;obtain ⟨fl,hfl,h⟩:=h;obtain ⟨z,hz,rfl⟩:=bc.1 h;exact ⟨fs,fl,hu,hfl,rfl,hz,rfl⟩
 ·cases h
theorem abF {x:cC} {u:Value} {t:TypeId} {f:Nat} {q:Nat×Nat×TypeId} {c:Bool} (hs:step (.fa q.1 x) e h n=some (c,E)) (hq:mN P t f=some q) (hq0:q.2.1≠0) (hx:gi D φ e h x u) (hH:HR D φ (only (ab h) E.rd) w):
 fv P D φ (only (ab h) E.rd) w n E ((do pure (Next.value (<-Instr.fieldAt t u f)):Sem Next).run P w):=by
 obtain ⟨fs,fl,h1,h2,h3,h4,h5⟩:=oQ hq;simp only [step,af] at hs;obtain ⟨v,hv,hs⟩:=hs;have hr:=hx v hv;split at hs
 ·rename_i b o;cases hr with
  |p _ _ hD=>
  refine bW hs hH ?_ (.p _ _ hD);rw [cZ];simp only [Instr.fieldAt,Sem.run_bind,run_underlying h1,Result.andThen_ok,h2,Instr.sureAddr,Sem.run_pure,fieldPlace,run_sizeOf h4,hq0,bV,Addr.add_eq,h3,im]
 ·rename_i l o;cases hr with
  |fp _ _ B o' vs hB hsz hv=>
  refine bW hs hH ?_ (.fp _ _ B o' vs hB hsz hv);rw [cZ];simp only [Instr.fieldAt,Sem.run_bind,run_underlying h1,Result.andThen_ok,h2,Instr.sureAddr,Sem.run_pure,fieldPlace,run_sizeOf h4,hq0,bV,Addr.add_eq,h3,im]
 ·cases hs
theorem lj {t:TypeId} {cs:List Value} {l:List AV} {off z:Nat} (hl:cJ D φ l cs) {g:Bool} (hg:eQ P t=some g) (hz:e9 P t=some z) (hle:g=true->off+z<=l.length) {v:AV} (hv:(if g then some (.agg (aA l off z)) else l[off]?)=some v):
 ∃u,(part t cs.toArray off).run P w= .ok u w/\aI D φ v u:=by
 cases g
 ·simp only [cY,bV] at hv;obtain ⟨u,hu,hr⟩:=hl.get hv;refine ⟨u,?_,hr⟩;simp only [part,Sem.run_bind,iI hg,Result.andThen_ok,cY,bV,List.getElem?_toArray,hu,Sem.run_pure]
 ·simp only [cu,aP] at hv;subst hv;refine ⟨.agg ((cs.drop off).take z).toArray,?_,aI.uP ((hl.drop off).take z)⟩;simp only [part,Sem.run_bind,iI hg,Result.andThen_ok,cu,run_sizeOf hz,Sem.run_pure];congr 2;apply lg;simp [List.take_drop]
theorem PX {x:cC} {u:Value} {t:TypeId} {f:Nat} {q:Nat×Nat×TypeId} {g:Bool} {c:Bool} (hs:step (.fld g q.2.1 q.1 x) e h n=some (c,E)) (hc:c=true) (hq:mN P t f=some q) (hg:eQ P q.2.2=some g) (hx:gi D φ e h x u) (hH:HR D φ (only (ab h) E.rd) w):
 fv P D φ (only (ab h) E.rd) w n E ((do pure (Next.value (<-Instr.field t u f)):Sem Next).run P w):=by
 obtain ⟨fs,fl,h1,h2,h3,h4,h5⟩:=oQ hq;simp only [step,af] at hs;obtain ⟨v,hv,hs⟩:=hs;have hr:=hx v hv;split at hs
 ·rename_i l;obtain ⟨us,rfl,hl⟩:=hr.ph;rw [<-h5] at hg;have hrun: ∀u w',(part fl.type us.toArray q.1).run P w= .ok u w'->(do pure (Next.value (<-Instr.field t (.agg us.toArray) f)):Sem Next).run P w= .ok (.value u) w':=fun u w' hp=>by
   rw [cZ];simp only [Instr.field,Sem.run_bind,run_underlying h1,Result.andThen_ok,h2,asAgg,Sem.run_pure,h3];rw [hp];rfl
  cases g
  ·simp only [af] at hs;obtain ⟨v,hv,hs⟩:=hs;obtain ⟨y,hy,hyr⟩:=lj (P:=P) (w:=w) hl hg h4 (by simp) (v:=v) (by simpa using hv)
   exact bW hs hH (hrun _ _ hy) hyr
  ·simp only [aP,bq] at hs;obtain ⟨h6,rfl⟩:=hs;rw [hc] at h6;obtain ⟨y,hy,hyr⟩:=lj (P:=P) (w:=w) hl hg h4 (fun _=>bO h6) (v:= .agg (aA l q.1 q.2.1)) (by simp)
   exact cz (rd:=[]) rfl hH (hrun _ _ hy) hyr
 ·cases hs
theorem jv {v:AV} {u:Value} {q:Nat×Nat×Nat} (h:iv v=some q) (hv:aI D φ v u): ∃cap,u= .slice (some ⟨φ.cW q.1,φ.off q.1+q.2.1,none⟩) q.2.2 cap/\D q.1:=by
 unfold iv at h;split at h<;>cases h<;>cases hv<;>exact ⟨_,rfl,by assumption⟩
theorem JX {m z:Nat} {x i:cC} {u ui:Value} {t el:TypeId} {c:Bool} (hs:step (.Ii m z x i) e h n=some (c,E)) (hc:c=true) (ht:P.underlying t=some (.array m el)) (hz:e9 P el=some z) (hx:gi D φ e h x u) (hi:gi D φ e h i ui) (hH:HR D φ (only (ab h) E.rd) w):
 fv P D φ (only (ab h) E.rd) w n E ((do pure (Next.value (<-Instr.indexAt t u ui)):Sem Next).run P w):=by
 simp only [step,af] at hs;obtain ⟨v,hv,vi,hvi,j,hj,hs⟩:=hs;have hr:=hx v hv;obtain ⟨k,rfl⟩:=sc hj (hi vi hvi);split at hs
 ·rename_i b o;cases hr with
  |p _ _ hD=>
  simp only [aP,bq] at hs;obtain ⟨h1,rfl⟩:=hs;rw [hc] at h1;have h1:=bO h1;refine cz (rd:=[]) rfl hH ?_ (.p _ _ hD);rw [cZ];simp only [Instr.indexAt,asIntOf,Sem.run_bind,Sem.run_pure,run_underlying ht,Result.andThen_ok,Instr.sureAddr];rw [aM h1];simp only [Sem.run_bind,run_sizeOf hz,Result.andThen_ok,Sem.run_pure,Addr.add_eq,im]
 ·rename_i l o;cases hr with
  |fp _ _ B o' vs hB hsz hv=>
  simp only [aP,bq] at hs;obtain ⟨h1,rfl⟩:=hs;rw [hc] at h1;have h1:=bO h1;refine cz (rd:=[]) rfl hH ?_ (.fp _ _ B o' vs hB hsz hv);rw [cZ];simp only [Instr.indexAt,asIntOf,Sem.run_bind,Sem.run_pure,run_underlying ht,Result.andThen_ok,Instr.sureAddr];rw [aM h1];simp only [Sem.run_bind,run_sizeOf hz,Result.andThen_ok,Sem.run_pure,Addr.add_eq,im]
 ·cases hs
theorem J5 {z:Nat} {x i:cC} {u ui:Value} {t el:TypeId} {c:Bool} (hs:step (.qO z x i) e h n=some (c,E)) (hc:c=true) (ht:P.underlying t=some (.slice el)) (hz:e9 P el=some z) (hx:gi D φ e h x u) (hi:gi D φ e h i ui) (hH:HR D φ (only (ab h) E.rd) w):
 fv P D φ (only (ab h) E.rd) w n E ((do pure (Next.value (<-Instr.indexAt t u ui)):Sem Next).run P w):=by
 simp only [step,af] at hs;obtain ⟨v,hv,vi,hvi,j,hj,hs⟩:=hs;obtain ⟨k,rfl⟩:=sc hj (hi vi hvi);have hr:=hx v hv;split at hs
 ·rename_i l len;simp only [aP,bq] at hs;obtain ⟨h1,rfl⟩:=hs;rw [hc] at h1;have h1:=bO h1;cases hr with
  |mI _ _ _ _=>omega
  |fz _ _ B o' cap vs hB hcap hsz hv=>
  refine cz (rd:=[]) rfl hH ?_ (.fp _ _ B o' vs hB hsz hv);rw [cZ];simp only [Instr.indexAt,asIntOf,Sem.run_bind,Sem.run_pure,run_underlying ht,Result.andThen_ok,Instr.sureAddr];rw [aM h1];simp only [Sem.run_bind,run_sizeOf hz,Result.andThen_ok,Sem.run_pure,Addr.add_eq,im]
 simp only [af] at hs;obtain ⟨q,hq,hs⟩:=hs;obtain ⟨cap,rfl,hD⟩:=jv hq hr;simp only [aP,bq] at hs;obtain ⟨h1,rfl⟩:=hs;rw [hc] at h1;have h1:=bO h1;refine cz (rd:=[]) rfl hH ?_ (.p _ _ hD);rw [cZ];simp only [Instr.indexAt,asIntOf,Sem.run_bind,Sem.run_pure,run_underlying ht,Result.andThen_ok,Instr.sureAddr];rw [aM h1];simp only [Sem.run_bind,run_sizeOf hz,Result.andThen_ok,Sem.run_pure,Addr.add_eq,im]
theorem OP {m z:Nat} {g:Bool} {x i:cC} {u ui:Value} {t el:TypeId} {c:Bool} (hs:step (.Rg m z g x i) e h n=some (c,E)) (hc:c=true) (ht:P.underlying t=some (.array m el)) (hz:e9 P el=some z) (hg:eQ P el=some g) (hx:gi D φ e h x u) (hi:gi D φ e h i ui) (hH:HR D φ (only (ab h) E.rd) w):
 fv P D φ (only (ab h) E.rd) w n E ((do pure (Next.value (<-Instr.index t u ui)):Sem Next).run P w):=by
 simp only [step,af] at hs;obtain ⟨v,hv,vi,hvi,j,hj,hs⟩:=hs;have hr:=hx v hv;obtain ⟨k,rfl⟩:=sc hj (hi vi hvi);split at hs
 ·rename_i l;obtain ⟨us,rfl,hl⟩:=hr.ph;have hrun:0<=j/\j<m-> ∀u w',(part el us.toArray (j.toNat*z)).run P w= .ok u w'->(do pure (Next.value (<-Instr.index t (.agg us.toArray) (.int k j))):Sem Next).run P w= .ok (.value u) w':=fun hjm u w' hp=>by
   rw [cZ];simp only [Instr.index,asIntOf,Sem.run_bind,Sem.run_pure,run_underlying ht,Result.andThen_ok];rw [aM hjm];simp only [Sem.run_bind,run_sizeOf hz,Result.andThen_ok];rw [hp];rfl
  cases g
  ·simp only [af,aP,bq] at hs;obtain ⟨v,hv,h1,rfl⟩:=hs;rw [hc] at h1;obtain ⟨y,hy,hyr⟩:=lj (P:=P) (w:=w) hl hg hz (by simp) (v:=v) (by simpa using hv)
   exact cz (rd:=[]) rfl hH (hrun (bO h1) _ _ hy) hyr
  ·simp only [aP,bq] at hs;obtain ⟨h6,rfl⟩:=hs;rw [hc,aw] at h6;obtain ⟨y,hy,hyr⟩:=lj (P:=P) (w:=w) hl hg hz (fun _=>bO h6.2) (v:= .agg (aA l (j.toNat*z) z)) (by simp)
   exact cz (rd:=[]) rfl hH (hrun (bO h6.1) _ _ hy) hyr
 ·cases hs
theorem Mi {x i:cC} {u ui:Value} {t:TypeId} {c:Bool} (hs:step (.uZ x i) e h n=some (c,E)) (hc:c=true) (ht:P.underlying t=some .string) (hx:gi D φ e h x u) (hi:gi D φ e h i ui) (hH:HR D φ (only (ab h) E.rd) w):
 fv P D φ (only (ab h) E.rd) w n E ((do pure (Next.value (<-Instr.index t u ui)):Sem Next).run P w):=by
 simp only [step,af] at hs;obtain ⟨v,hv,vi,hvi,j,hj,hs⟩:=hs;have hr:=hx v hv;obtain ⟨k,rfl⟩:=sc hj (hi vi hvi);split at hs
 ·rename_i l;cases hr;simp only [aP,bq] at hs;obtain ⟨h1,rfl⟩:=hs;rw [hc] at h1;have h1:=bO h1;refine cz (rd:=[]) rfl hH ?_ (.i _ _);rw [cZ];simp only [Instr.index,asIntOf,Sem.run_bind,Sem.run_pure,run_underlying ht,Result.andThen_ok];have hlt:j.toNat<l.length:=by omega
  have hb:((if 0<=j then (ByteArray.mk l.toArray)[j.toNat]? else none):Option UInt8)=some l[j.toNat]:=by
   rw [aM h1.1];have:j.toNat<(ByteArray.mk l.toArray).size:=by rw [size_mk];exact hlt
   rw [getElem?_pos (ByteArray.mk l.toArray) j.toNat this];rfl
  rw [hb];simp [hlt]
 ·cases hs
theorem K9 {x:cC} {u:Value} {i:Nat} {c:Bool} (hs:step (.ext x i) e h n=some (c,E)) (hx:gi D φ e h x u) (hH:HR D φ (only (ab h) E.rd) w):
 fv P D φ (only (ab h) E.rd) w n E ((do pure (Next.value (<-Instr.extract u i)):Sem Next).run P w):=by
 simp only [step,af] at hs;obtain ⟨v,hv,hs⟩:=hs;have hr:=hx v hv;split at hs
 ·rename_i l;obtain ⟨us,rfl,hl⟩:=hr.EP;simp only [af] at hs;obtain ⟨v,hv,hs⟩:=hs;obtain ⟨y,hy,hyr⟩:=hl.get hv;exact bW hs hH (by simp [Instr.extract,hy]) hyr
 ·cases hs
end
end Go.Ab
namespace Go.Ab
section
variable {P:Program} {D:Nat->Prop} {φ:bU} {w:World} {n:Nat} {e:Env} {h:Hp} {E:bX} {ρ:Operand->Value}
theorem JL {x:cC} {u:Value} {t tt:TypeId} {c:Bool} (hs:step (.BH x) e h n=some (c,E)) (ht:P.underlying t=some .string) (hx:gi D φ e h x u) (hH:HR D φ (only (ab h) E.rd) w):
 fv P D φ (only (ab h) E.rd) w n E ((do pure (Next.value (<-Builtin.len_ #[t] tt #[u])):Sem Next).run P w):=by
 simp only [step,af] at hs;obtain ⟨v,hv,hs⟩:=hs;have hr:=hx v hv;split at hs
 ·cases hr;refine bW hs hH ?_ (.i _ _);rw [cZ];simp [Builtin.len_,run_underlying ht,size_mk,goInt]
 ·cases hs
theorem IL {x:cC} {u:Value} {t tt el:TypeId} {c:Bool} (hs:step (.oF x) e h n=some (c,E)) (ht:P.underlying t=some (.slice el)) (hx:gi D φ e h x u) (hH:HR D φ (only (ab h) E.rd) w):
 fv P D φ (only (ab h) E.rd) w n E ((do pure (Next.value (<-Builtin.len_ #[t] tt #[u])):Sem Next).run P w):=by
 simp only [step,af] at hs;obtain ⟨v,hv,hs⟩:=hs;have hr:=hx v hv;split at hs
 ·cases hr;refine bW hs hH ?_ (.i _ _);rw [cZ];simp [Builtin.len_,run_underlying ht,goInt]
 ·refine bW hs hH ?_ (.i _ _);rw [cZ];cases hr<;>simp [Builtin.len_,run_underlying ht,goInt]
 ·refine bW hs hH ?_ (.i _ _);rw [cZ];cases hr<;>simp [Builtin.len_,run_underlying ht,goInt]
 ·refine bW hs hH ?_ (.i _ _);rw [cZ];cases hr<;>simp [Builtin.len_,run_underlying ht,goInt]
 ·simp only [af] at hs;obtain ⟨q,hq,hs⟩:=hs;obtain ⟨cap,rfl,_⟩:=jv hq hr;refine bW hs hH ?_ (.i _ _);rw [cZ];simp [Builtin.len_,run_underlying ht,goInt]
theorem AR {m:Nat} {u:Value} {t tt:TypeId} {c:Bool} (hs:step (.Mn m) e h n=some (c,E)) (ht:(∃el,P.underlying t=some (.array m el))\/ ∃a el,P.underlying t=some (.pointer a)/\P.underlying a=some (.array m el)) (hH:HR D φ (only (ab h) E.rd) w):
 fv P D φ (only (ab h) E.rd) w n E ((do pure (Next.value (<-Builtin.len_ #[t] tt #[u])):Sem Next).run P w):=by
 refine bW hs hH ?_ (.i _ _);rw [cZ];rcases ht with ⟨el,ht⟩|⟨a,el,ht,ha⟩
 ·simp [Builtin.len_,run_underlying ht,goInt]
 ·simp [Builtin.len_,run_underlying ht,run_underlying ha,goInt]
theorem HC {x:cC} {u:Value} {t tt el:TypeId} {c:Bool} (hs:step (.Jy x) e h n=some (c,E)) (ht:P.underlying t=some (.slice el)) (hx:gi D φ e h x u) (hH:HR D φ (only (ab h) E.rd) w):
 fv P D φ (only (ab h) E.rd) w n E ((do pure (Next.value (<-Builtin.cap_ #[t] tt #[u])):Sem Next).run P w):=by
 simp only [step,af] at hs;obtain ⟨v,hv,hs⟩:=hs;have hr:=hx v hv;split at hs
 ·cases hr;refine bW hs hH ?_ (.i _ _);rw [cZ];simp [Builtin.cap_,run_underlying ht,goInt]
 ·cases hr;refine bW hs hH ?_ (.i _ _);rw [cZ];simp [Builtin.cap_,run_underlying ht,goInt]
 ·refine bW hs hH ?_ (.i _ _);rw [cZ];cases hr<;>simp [Builtin.cap_,run_underlying ht,goInt]
 ·cases hs
theorem AK {k:IntKind}: ∀{l:List AV} {us:List Value} {a m:Int},qW k a l=some m->cJ D φ l us->(us.foldlM Builtin.min2 (.int k a)).run P w= .ok (.int k m) w
 |[],us,a,m,hm,hl=>by rw [hl.kK];simp [qW] at hm;subst hm;simp
 |v::l,us,a,m,hm,hl=>by
  obtain ⟨u,us',rfl,hv,hl'⟩:=hl.dZ;unfold qW at hm;split at hm
  ·contradiction
  ·rename_i k' y r heq;cases heq;split at hm
   ·rename_i e;subst e;cases hv;simp only [List.foldlM_cons,Sem.run_bind,Builtin.min2,Sem.run_pure,Result.andThen_ok];exact AK hm hl'
   ·cases hm
  ·cases hm
theorem AS {k:IntKind}: ∀{l:List AV} {us:List Value} {a m:Int},xm k a l=some m->cJ D φ l us->(us.foldlM Builtin.max2 (.int k a)).run P w= .ok (.int k m) w
 |[],us,a,m,hm,hl=>by rw [hl.kK];simp [xm] at hm;subst hm;simp
 |v::l,us,a,m,hm,hl=>by
  obtain ⟨u,us',rfl,hv,hl'⟩:=hl.dZ;unfold xm at hm;split at hm
  ·contradiction
  ·rename_i k' y r heq;cases heq;split at hm
   ·rename_i e;subst e;cases hv;simp only [List.foldlM_cons,Sem.run_bind,Builtin.max2,Sem.run_pure,Result.andThen_ok];exact AS hm hl'
   ·cases hm
  ·cases hm
theorem Fk {v:AV} {u:Value} {q:IntKind×Int} (h:asK v=some q) (hv:aI D φ v u):u= .int q.1 q.2:=by
 unfold asK at h;split at h<;>cases h;cases hv;rfl
theorem TD {x:cC} {xs:List cC} {u:Value} {ys:List Operand} {ats:Array TypeId} {tt:TypeId} {c:Bool} (hs:step (.mn x xs) e h n=some (c,E)) (hc:vr ys=some xs) (hx:gi D φ e h x u) (hk: ∀y∈ys,∀x,cO y=some x->gi D φ e h x (ρ y)) (hH:HR D φ (only (ab h) E.rd) w):
 fv P D φ (only (ab h) E.rd) w n E ((do pure (Next.value (<-Builtin.min_ ats tt (u::ys.map ρ).toArray)):Sem Next).run P w):=by
 simp only [step,af] at hs;obtain ⟨v,hv,q,hq,l,hl,m,hm,hs⟩:=hs;have:=Fk hq (hx v hv);subst this;refine bW hs hH ?_ (.i _ _);rw [cZ];simp only [Builtin.min_];rw [AK hm (lq hc hl hk)];rfl
theorem X1 {x:cC} {xs:List cC} {u:Value} {ys:List Operand} {ats:Array TypeId} {tt:TypeId} {c:Bool} (hs:step (.mx x xs) e h n=some (c,E)) (hc:vr ys=some xs) (hx:gi D φ e h x u) (hk: ∀y∈ys,∀x,cO y=some x->gi D φ e h x (ρ y)) (hH:HR D φ (only (ab h) E.rd) w):
 fv P D φ (only (ab h) E.rd) w n E ((do pure (Next.value (<-Builtin.max_ ats tt (u::ys.map ρ).toArray)):Sem Next).run P w):=by
 simp only [step,af] at hs;obtain ⟨v,hv,q,hq,l,hl,m,hm,hs⟩:=hs;have:=Fk hq (hx v hv);subst this;refine bW hs hH ?_ (.i _ _);rw [cZ];simp only [Builtin.max_];rw [AS hm (lq hc hl hk)];rfl
theorem j8 {z:Nat} {x:AV} {u:Value} {r:List Nat×Nat×List AV×Bool} (hs:kV h z x=some r) (hr:r.2.2.2=true) {rd:List Nat} (hrd: ∀b,inl r.1 b=true->inl rd b=true)
 (hx:aI D φ x u) (hH:HR D φ (only (ab h) rd) w):
 (Builtin.lenOf u).run P w= .ok r.2.1 w/\ ∃us:List Value,(Builtin.firstCells z r.2.1 u).run P w= .ok us.toArray w/\cJ D φ r.2.2.1 us/\r.2.2.1.length=r.2.1*z∧
  ∀m,m<=r.2.1->(Builtin.firstCells z m u).run P w= .ok (us.take (m*z)).toArray w:=by
 have row: ∀(b o len cap:Nat) (k:aW),iO h b=some k->inl rd b=true->(aA k.cells o (len*z)).length=len*z-> ∃us:List Value,(Builtin.firstCells z len (.slice (some ⟨φ.cW b,φ.off b+o,none⟩) len cap)).run P w= .ok us.toArray w/\cJ D φ (aA k.cells o (len*z)) us∧
  ∀m,m<=len->(Builtin.firstCells z m (.slice (some ⟨φ.cW b,φ.off b+o,none⟩) len cap)).run P w= .ok (us.take (m*z)).toArray w:=fun b o len cap k hk hb hl=>by
  obtain ⟨hk,hmp⟩:=dO hk;have hkk:only (ab h) rd b=some k:=by rw [ec hb];exact hk
  obtain ⟨us,h1,h2⟩:=HR.row (P:=P) hH hkk hmp hl;refine ⟨us,by simpa [Builtin.firstCells] using h1,h2,fun m hm=> ?_⟩
  have hmz:m*z<=len*z:=Ae _ hm;have hl':(aA k.cells o (m*z)).length=m*z:=by simp [aA] at hl ⊢;omega
  obtain ⟨us',h3,h4⟩:=HR.row (P:=P) hH hkk hmp hl';simp only [Builtin.firstCells];rw [h3];congr 2
  -- both are the same cells of the world
  obtain ⟨_,⟨⟨cs,elem,fr,g1,_⟩,_⟩⟩:=hH.at_ b k hkk;by_cases h0:len*z=0
  ·have h0':m*z=0:=by omega
   have:us'.length=0:=by rw [<-h4.1,hl'];exact h0'
   rw [jG this,h0'];simp
  ·obtain ⟨_,⟨⟨cs,elem,fr,g1,g2,_⟩,_⟩⟩:=hH.at_ b k hkk;have g1:=g1.cells hmp;have hin: ∀i,i<k.cells.length->φ.off b+i<cs.size:=fun i hi=>by
    obtain ⟨u,hu,_⟩:=g2 i _ (aY hi);rcases dw (φ.off b+i) cs.size with h'|h'
    ·exact h'
    ·rw [gw h'] at hu;cases hu
   have hle:φ.off b+o+len*z<=cs.size:=by
    simp [aA] at hl;have:=hin (o+len*z-1) (by omega);omega
   have e1:=run_loadCells (P:=P) (o:=φ.off b+o) (n:=len*z) g1 hle;have e2:=run_loadCells (P:=P) (o:=φ.off b+o) (n:=m*z) g1 (by omega)
   rw [h1] at e1;rw [h3] at e2;simp only [Result.ok.injEq,dr] at e1 e2;have e1':us=List.take (len*z) (List.drop (φ.off b+o) cs.toList):=by simpa using cS Array.toList e1
   have e2':us'=List.take (m*z) (List.drop (φ.off b+o) cs.toList):=by simpa using cS Array.toList e2
   rw [e1',e2',List.take_take,oK hmz]
 unfold kV at hs;split at hs
 ·cases hs;cases hx;refine ⟨by simp [Builtin.lenOf],[],by simp [Builtin.firstCells],.nil,by simp,fun m hm=>by simp [Builtin.firstCells]⟩
 ·rename_i l;cases hs;cases hx;have hz:z=1:=dC hr;subst hz;refine ⟨by simp [Builtin.lenOf,size_mk],l.map (fun b=>Value.int .u8 b.toNat),?_,⟨by simp,fun i a u ha hu=> ?_⟩,by simp,fun m hm=> ?_⟩
  ·simp [Builtin.firstCells,<-size_mk l]
  ·simp only [gF,bc] at ha hu;obtain ⟨b,hb,rfl⟩:=ha;obtain ⟨b',hb',rfl⟩:=hu;rw [hb] at hb';cases hb';exact .i _ _
  ·simp [Builtin.firstCells,ByteArray.data_extract,List.map_take]
 ·rename_i b o len cap;simp only [af,aP] at hs;obtain ⟨k,hk,rfl⟩:=hs;cases hx;have hl:=bO hr;obtain ⟨us,h1,h2,h3⟩:=row b o len cap k hk (hrd b (by simp [inl])) hl
  exact ⟨by simp [Builtin.lenOf],us,h1,h2,hl,h3⟩
 ·rename_i b o len;simp only [af,aP] at hs;obtain ⟨k,hk,rfl⟩:=hs;cases hx;have hl:=bO hr;obtain ⟨us,h1,h2,h3⟩:=row b o len _ k hk (hrd b (by simp [inl])) hl
  exact ⟨by simp [Builtin.lenOf],us,h1,h2,hl,h3⟩
 ·rename_i l len;cases hs;have hl:=bO hr;cases hx with
  |mI _ x cap hc0=>
   refine ⟨by simp [Builtin.lenOf],[],?_,by simp [aA];exact .nil,by simp [aA],fun m hm=> ?_⟩
   ·cases x<;>simp [Builtin.firstCells,loadCells,loadCellsFrom]
   ·have:m=0:=by simpa using hm
    subst this;cases x<;>simp [Builtin.firstCells,loadCells,loadCellsFrom]
  |fz _ _ B o cap vs hB hcap hsz hv=>
   obtain ⟨us,h1,h2⟩:=HR.afU (P:=P) hH hB hsz hv hl;refine ⟨by simp [Builtin.lenOf],us,by simpa [Builtin.firstCells] using h1,h2,hl,fun m hm=> ?_⟩
   have hmz:m*z<=len*z:=Ae _ hm;obtain ⟨elem,fr,g1⟩:=hH.fz B vs hB;simp only [Builtin.firstCells];by_cases h0:len*z=0
   ·have h0':m*z=0:=by omega
    rw [h0'];simp [loadCells,loadCellsFrom]
   ·have hle:o+len*z<=vs.size:=by
     simp [aA] at hl;have:=hsz (len*z-1) (by omega);omega
    have e1:=run_loadCells (P:=P) (o:=o) (n:=len*z) g1 hle;have e2:=run_loadCells (P:=P) (o:=o) (n:=m*z) g1 (by omega)
    rw [fu] at h1;rw [h1] at e1;simp only [Result.ok.injEq,dr] at e1;have e1':us=List.take (len*z) (List.drop o vs.toList):=by simpa using cS Array.toList e1
    rw [e2,e1',List.take_take,oK hmz]
 ·cases hs;cases hx with
  |ze x=>
  refine ⟨by simp [Builtin.lenOf],[],?_,.nil,by simp,fun m hm=> ?_⟩
  ·cases x<;>simp [Builtin.firstCells,loadCells,loadCellsFrom]
  ·have:m=0:=by simpa using hm
   subst this;cases x<;>simp [Builtin.firstCells,loadCells,loadCellsFrom]
 ·cases hs;cases hx with
  |en x cap=>
  refine ⟨by simp [Builtin.lenOf],[],?_,.nil,by simp,fun m hm=> ?_⟩
  ·simp [Builtin.firstCells,loadCells,loadCellsFrom]
  ·have:m=0:=by simpa using hm
   subst this;simp [Builtin.firstCells,loadCells,loadCellsFrom]
 ·cases hs
theorem vQ {ats:Array TypeId} {t tt el:TypeId} {z m:Nat} {us:Value} {base:Option Addr} {len cap:Nat} {cells:Array Value} (h0:ats[0]? =some t) (ht:P.underlying t=some (.slice el)) (hz:e9 P el=some z)
 (hl:(Builtin.lenOf us).run P w= .ok m w) (hf:(Builtin.firstCells z (Nat.min m len) us).run P w= .ok cells w):
 (Builtin.copy_ ats tt #[.slice base len cap,us]).run P w=((match base with|some a=>storeCells a cells.toList|none=>pure ():Sem Unit).run P w).andThen fun _ w'=> .ok (goInt (Nat.min m len)) w':=by
 have e0:(#[Value.slice base len cap,us]:Array Value)[0]? =some (Value.slice base len cap):=rfl;have e1:(#[Value.slice base len cap,us]:Array Value)[1]? =some us:=rfl;unfold Builtin.copy_;rw [h0,e0,e1];simp only [Sem.run_bind,run_underlying ht,Result.andThen_ok,hl,run_sizeOf hz,hf];cases base<;>simp only [Sem.run_bind,Sem.run_pure,Result.andThen_ok]
theorem A6 {rd rd':List Nat} {D:Nat->Prop} {φ:bU} {w:World} {h:Hp}:HR D φ (only (ab h) rd) w->(∀b,inl rd' b=true->inl rd b=true)->HR D φ (only (ab h) rd') w:=fun hh hs=>
 ⟨⟨fun b k hb=>hh.at_ b k (by
    unfold only at hb ⊢;cases hb':inl rd' b
    ·simp [hb'] at hb
    ·rw [hs b hb'];simpa [hb'] using hb),
  fun b1 b2 k1 k2 hne h1 h2 hk=>hh.sep b1 b2 k1 k2 hne (by
   unfold only at h1 ⊢;cases hb':inl rd' b1
   ·simp [hb'] at h1
   ·rw [hs b1 hb'];simpa [hb'] using h1) (by
   unfold only at h2 ⊢;cases hb':inl rd' b2
   ·simp [hb'] at h2
   ·rw [hs b2 hb'];simpa [hb'] using h2) hk⟩,hh.fz,hh.lp,fun b k B vs hb hk hB=>hh.kD b k B vs (by
   unfold only at hb ⊢;cases hb':inl rd' b
   ·simp [hb'] at hb
   ·rw [hs b hb'];simpa [hb'] using hb) hk hB⟩
theorem tF: ∀{xs:List AV} (m:Nat),aX xs=true->aX (xs.take m)=true
 |[],m,h=>by simp [aX]
 |x::xs,0,h=>by simp [aX]
 |x::xs,m+1,h=>by
  simp only [aX,aw,List.take_succ_cons] at h ⊢;exact ⟨h.1,tF m h.2⟩
theorem MP {z:Nat} {d s:cC} {ud us:Value} {ats:Array TypeId} {t tt el:TypeId} {c:Bool} (hs:step (.FW z d s) e h n=some (c,E)) (hc:c=true) (h0:ats[0]? =some t) (ht:P.underlying t=some (.slice el)) (hz:e9 P el=some z)
 (hd:gi D φ e h d ud) (hss:gi D φ e h s us) (hH:HR D φ (only (ab h) E.rd) w):
 fv P D φ (only (ab h) E.rd) w n E ((do pure (Next.value (<-Builtin.copy_ ats tt #[ud,us])):Sem Next).run P w):=by
 simp only [step,af] at hs;obtain ⟨vd,hvd,vs,hvs,r,hr,hs⟩:=hs;have hrd:=hd vd hvd;have hrs:=hss vs hvs;split at hs
 ·cases hrd;simp only [aP,bq] at hs;obtain ⟨h1,rfl⟩:=hs;obtain ⟨hl,us',hf,hu,hul,hft⟩:=j8 (P:=P) hr (h1.trans hc) (rd:=r.1) (fun b hb=>hb) hrs hH;refine cz rfl hH ?_ (.i .i64 0);rw [cZ,vQ h0 ht hz hl (hft _ (Nat.min_le_left _ _))];simp [goInt]
 ·cases hrd;simp only [aP,bq] at hs;obtain ⟨h1,rfl⟩:=hs;obtain ⟨hl,us',hf,hu,hul,hft⟩:=j8 (P:=P) hr (h1.trans hc) (rd:=r.1) (fun b hb=>hb) hrs hH;refine cz rfl hH ?_ (.i .i64 0);rw [cZ,vQ h0 ht hz hl (hft _ (Nat.min_le_left _ _))];simp [goInt,storeCells]
 ·simp only [af] at hs;obtain ⟨q,hq,k,hk,hs⟩:=hs;obtain ⟨cap,rfl,hDq⟩:=jv hq hrd;split at hs
  ·cases hs
  ·rename_i hro;simp only [aP,bq] at hs;obtain ⟨h1,rfl⟩:=hs;rw [hc] at h1;simp only [aw,aV] at h1;obtain ⟨⟨h1,h2⟩,h3⟩:=h1;have h2:aX (r.2.2.1.take (Nat.min r.2.1 q.2.2*z))=true:=by
    rw [iS] at h2;exact h2.elim (tF _) id
   have hi:inl (q.1::r.1) q.1=true:=by simp [inl]
   obtain ⟨hl,us',hf,hu,hul,hft⟩:=j8 (P:=P) hr h1 (rd:=q.1::r.1) (fun b hb=>by simp [inl,hb]) hrs hH
   have hmm:=Nat.min_le_left r.2.1 q.2.2;obtain ⟨hk,hmp⟩:=dO hk;have hkk:only (ab h) (q.1::r.1) q.1=some k:=by rw [ec hi];exact hk
   have hmz:Nat.min r.2.1 q.2.2*z<=r.2.1*z:=Ae _ hmm;obtain ⟨w',cs,cs',elem,fr,g1,g2,g3,g4,g5,g6,g7,g8⟩:=HR.zw (P:=P) hH hkk hmp hro (hu.take (Nat.min r.2.1 q.2.2*z)) h2 (o:=q.2.1) (by simp [hul];omega)
   refine fv.write (nx:= .value (goInt (Nat.min r.2.1 q.2.2))) ?_ (.inl rfl) (.i _ _) hi hH hkk hro g2 g3 g4 g5 g6 g7 g8;rw [cZ,vQ h0 ht hz hl (hft _ hmm)];simp only [AT];rw [g1];rfl
theorem PD {z:Nat} {zs:List AV} {x:cC} {u:Value} {t tt el:TypeId} {c:Bool} (hs:step (.Rt z zs x) e h n=some (c,E)) (hc:c=true) (ht:P.underlying t=some (.slice el)) (hz:e9 P el=some z) (hzs:eI P el=some zs)
 (hx:gi D φ e h x u) (hH:HR D φ (only (ab h) E.rd) w):
 fv P D φ (only (ab h) E.rd) w n E ((do pure (Next.value (<-Builtin.clear_ #[t] tt #[u])):Sem Next).run P w):=by
 simp only [step,af] at hs;obtain ⟨v,hv,hs⟩:=hs;have hr:=hx v hv;have hund:aI D φ (.bg []) undef:=aI.bg [] #[] rfl (fun i a u ha=>by simp at ha)
 split at hs
 ·cases hr;refine bW (u:=undef) hs hH ?_ hund;rw [cZ];simp [Builtin.clear_,run_underlying ht,undef]
 ·simp only [af] at hs;obtain ⟨q,hq,k,hk,hs⟩:=hs;obtain ⟨cap,rfl,hDq⟩:=jv hq hr;split at hs
  ·cases hs
  ·rename_i hro;simp only [aP,bq] at hs;obtain ⟨h1,rfl⟩:=hs;rw [hc] at h1;simp only [aw,aV] at h1;obtain ⟨⟨h1,h2⟩,h3⟩:=h1;have h2:=dC h2;have hi:inl [q.1] q.1=true:=by simp [inl]
   obtain ⟨hk,hmp⟩:=dO hk;have hkk:only (ab h) [q.1] q.1=some k:=by rw [ec hi];exact hk
   obtain ⟨uz,huz,hzz⟩:=mu hzs w;have hzr:=gC (D:=D) (φ:=φ) hzz;have hsz:uz.cells.size=z:=by have:=hzr.1;simp at this;omega
   have hrow:=sW hzr q.2.2;have hone: ∀m,aX (dI zs m)=true:=fun m=>by
    have happ: ∀a b:List AV,aX a=true->aX b=true->aX (a++b)=true:=fun a b ha hb=>by
     induction a with
     |nil=>exact hb
     |cons x a ih=>simp only [ee,aX,aw] at ha ⊢;exact ⟨ha.1,ih ha.2⟩
    induction m with
    |zero=>rfl
    |succ m ih=>exact happ _ _ h1 ih
   have hzl: ∀m,(dI zs m).length=m*z:=fun m=>by
    induction m with
    |zero=>simp [dI]
    |succ m ih=>simp [dI,ih,oa];omega
   obtain ⟨w',cs,cs',elem,fr,g1,g2,g3,g4,g5,g6,g7,g8⟩:=HR.zw (P:=P) hH hkk hmp hro hrow (hone _) (o:=q.2.1) (by rw [hzl];exact h3)
   refine fv.write (nx:= .value undef) ?_ (.inl rfl) hund hi hH hkk hro g2 g3 g4 g5 g6 g7 g8;rw [cZ];have e0:(#[Value.slice (some ⟨φ.cW q.1,φ.off q.1+q.2.1,none⟩) q.2.2 cap]:Array Value)[0]? =some (Value.slice (some ⟨φ.cW q.1,φ.off q.1+q.2.1,none⟩) q.2.2 cap):=rfl;have e1:(#[t]:Array TypeId)[0]? =some t:=rfl;unfold Builtin.clear_;rw [e0,e1];simp only [Sem.run_bind,run_underlying ht,Result.andThen_ok];by_cases hq0:q.2.2=0
   ·rw [hq0] at g1 ⊢;simp [storeCells] at g1;subst g1;simp [undef]
   ·obtain ⟨m,hm⟩: ∃m,q.2.2=m+1:=⟨q.2.2-1,by omega⟩
    rw [hm] at g1 ⊢;simp only [Sem.run_bind,huz,Result.andThen_ok,Builtin.zeroCells];rw [g1];rfl
theorem nX {f:Value->ByteArray->Sem (ForInStep ByteArray)} (hf: ∀n s,f (.int .u8 n) s=pure (ForInStep.yield (s.push (UInt8.ofNat n.toNat)))):
 ∀{l:List AV} {us:List Value} {m:List UInt8} (s:ByteArray),bytesOf l=some m->cJ D φ l us→
 (forIn us s f:Sem ByteArray).run P w= .ok (ByteArray.mk (s.data++m.toArray)) w
 |[],us,m,s,hm,hl=>by rw [hl.kK];simp [bytesOf] at hm;subst hm;simp
 |v::l,us,m,s,hm,hl=>by
  obtain ⟨u,us',rfl,hv,hl'⟩:=hl.dZ;unfold bytesOf at hm;split at hm
  ·contradiction
  ·rename_i k r heq;cases heq;cases hv;simp only [af,aP] at hm;obtain ⟨m',hm',rfl⟩:=hm;simp only [List.forIn_cons,Sem.run_bind,hf,Sem.run_pure,Result.andThen_ok];rw [nX hf _ hm' hl'];congr 2;apply lg;simp [ByteArray.push]
  ·cases hm
theorem uo {a:List AV} {b:List UInt8} (hh:bytesOf a=some b):a.length=b.length:=by
 induction a generalizing b with
 |nil=>simp [bytesOf] at hh;subst hh;rfl
 |cons v a ih=>
  unfold bytesOf at hh;split at hh
  ·contradiction
  ·rename_i k r heq;cases heq;simp only [af,aP] at hh;obtain ⟨m',hm',rfl⟩:=hh;simp [ih hm']
  ·cases hh
theorem Nh {x:cC} {u:Value} {s d el:TypeId} {c:Bool} (hs:step (.b2s x) e h n=some (c,E)) (hc:c=true) (h1:P.underlying s=some (.slice el)) (h2:P.underlying d=some .string) (h3:P.underlying el=some (.int .u8))
 (hx:gi D φ e h x u) (hH:HR D φ (only (ab h) E.rd) w):
 fv P D φ (only (ab h) E.rd) w n E ((do pure (Next.value (<-convert s d u)):Sem Next).run P w):=by
 simp only [step,af] at hs;obtain ⟨v,hv,hs⟩:=hs;have hr:=hx v hv;split at hs
 ·cases hr;refine bW hs hH ?_ (.s []);rw [cZ];simp only [convert,Sem.run_bind,run_underlying h1,run_underlying h2,run_underlying h3,Result.andThen_ok,Conv.bytesToString,Sem.run_pure];rfl
 ·rename_i l m;simp only [af,aP,bq] at hs;obtain ⟨s',hl,hcc,rfl⟩:=hs;rw [hc] at hcc;have hcc:=bO hcc;have hlen:=uo hl;rw [hcc] at hlen;refine cz rfl hH ?_ (.s s');rw [cZ];have fin: ∀(a:Addr) (cap:Nat) (us:List Value),(loadCells a m).run P w= .ok us.toArray w->cJ D φ (l.take m) us->Sem.run P (Conv.bytesToString (.slice (some a) m cap)) w= .ok (.string ⟨s'.toArray⟩) w:=fun a cap us g1 g2=>by
   simp only [Conv.bytesToString,Sem.run_bind,g1,Result.andThen_ok];rw [<-Array.forIn_toList];simp only [AT];rw [nX (fun _ _=>rfl) ByteArray.empty hl g2];simp [ByteArray.empty,ByteArray.emptyWithCapacity];rfl
  cases hr with
  |fz _ _ B o cap vs hB hcap hsz hrel=>
   simp only [convert,Sem.run_bind,run_underlying h1,run_underlying h2,run_underlying h3,Result.andThen_ok];obtain ⟨elem,fr,hw⟩:=hH.fz B vs hB;by_cases h0:m=0
   ·subst h0;rw [fin _ _ [] (by simp [loadCells,loadCellsFrom]) (by simp;exact .nil)]
    rfl
   ·rw [gO] at hlen;have hle:o+m<=vs.size:=by have:=hsz (m-1) (by omega);omega
    rw [fin _ _ _ (run_loadCells hw hle) ⟨by simp;omega,fun i a u ha hu=> ?_⟩]
    ·rfl
    ·rw [jA] at ha hu;split at ha
     ·rename_i hi;rw [aM hi,iq,jX] at hu;exact hrel i a u ha hu
     ·cases ha
  |mI _ x cap hc0=>
   cases x with
   |none=>
    have:s'=[]:=by simpa [bytesOf] using hl.symm
    subst this;simp only [convert,Sem.run_bind,run_underlying h1,run_underlying h2,run_underlying h3,Result.andThen_ok];rfl
   |some a=>
    simp only [convert,Sem.run_bind,run_underlying h1,run_underlying h2,run_underlying h3,Result.andThen_ok];rw [fin _ _ [] (by simp [loadCells,loadCellsFrom]) (by simp;exact .nil)]
    rfl
 ·simp only [af,aP,bq] at hs;obtain ⟨q,hq,k,hk,l,hl,hcc,rfl⟩:=hs;rw [hc] at hcc;have hcc:=bO hcc;obtain ⟨cap,rfl,hDq⟩:=jv hq hr;obtain ⟨hk,hmp⟩:=dO hk;have hkk:only (ab h) [q.1] q.1=some k:=by rw [ec (by simp [inl])];exact hk
  obtain ⟨us,g1,g2⟩:=HR.row (P:=P) hH hkk hmp (o:=q.2.1) (z:=q.2.2) (by rw [uo hl];exact hcc)
  refine cz rfl hH ?_ (.s l);rw [cZ];simp only [convert,Sem.run_bind,run_underlying h1,run_underlying h2,run_underlying h3,Result.andThen_ok,Conv.bytesToString,g1];rw [<-Array.forIn_toList];simp only [AT];rw [nX (fun _ _=>rfl) ByteArray.empty hl g2];simp [ByteArray.empty,ByteArray.emptyWithCapacity];rfl
end
end Go.Ab
namespace Go.Ab
section
variable {P:Program} {D:Nat->Prop} {φ:bU} {w:World} {n:Nat} {e:Env} {h:Hp} {E:bX} {ρ:Operand->Value}
theorem oq {z:Nat}: ∀{ps:List (Nat×Operand)} {xs:List (Nat×Nat×cC)} {vs:List (Nat×Nat×AV)},lz z ps=some xs->sd e h xs=some vs→
 (∀q∈ps,∀x,cO q.2=some x->gi D φ e h x (ρ q.2))->vs.length=(ps.map (fun q=>(q.1,ρ q.2))).length∧
  ∀(j:Nat) a q,vs[j]? =some a->(ps.map (fun q=>(q.1,ρ q.2)))[j]? =some q->(some (q.1*z,z):Option (Nat×Nat))=some (a.1,a.2.1)/\aI D φ a.2.2 q.2
 |[],xs,vs,h1,h2,_=>by
  simp [lz] at h1;subst h1;simp [sd] at h2;subst h2;exact ⟨rfl,fun j a q ha=>by simp at ha⟩
 |(i,y)::ps,xs,vs,h1,h2,hk=>by
  simp only [lz,af] at h1;obtain ⟨x,hx,xs',hxs,h1⟩:=h1;cases h1;simp only [sd,af] at h2;obtain ⟨v,hv,vs',hvs,h2⟩:=h2;cases h2;obtain ⟨i1,i2⟩:=oq hxs hvs (fun q hq=>hk q (iZ _ hq));refine ⟨by simp [i1],fun j a q ha hq=> ?_⟩
  cases j with
  |zero=>simp at ha hq;subst ha;subst hq;exact ⟨rfl,hk (i,y) (ja) x hx v hv⟩
  |succ j=>exact i2 j a q (by simpa using ha) (by simpa using hq)
theorem nt: ∀(fs:List Field),(∀f∈fs,(P.info? f.type).isSome=true)→
 (fs.mapM (fun f=>do pure (f.offset,<-sizeOf f.type):Field->Sem (Nat×Nat))).run P w= .ok (fs.map fun f=>(f.offset,(e9 P f.type).getD 0)) w
 |[],_=>by simp
 |f::fs,hf=>by
  obtain ⟨i,hi⟩:=mK.1 (hf f (ja));have hz:e9 P f.type=some i.size:=by simp [e9,hi]
  have ih:=nt fs (fun g hg=>hf g (iZ _ hg));simp only [List.mapM_cons,Sem.run_bind,run_sizeOf hz,Sem.run_pure,Result.andThen_ok,ih,jU,hz,gq]
theorem tP {t:TypeId} {fs:Array Field} (ht:P.underlying t=some (.struct fs)): ∀{ps:List (Nat×Operand)} {xs:List (Nat×Nat×cC)} {vs:List (Nat×Nat×AV)},o0 P t ps=some xs->sd e h xs=some vs→
 (∀q∈ps,∀x,cO q.2=some x->gi D φ e h x (ρ q.2))->vs.length=(ps.map (fun q=>(q.1,ρ q.2))).length∧
  ∀(j:Nat) a q,vs[j]? =some a->(ps.map (fun q=>(q.1,ρ q.2)))[j]? =some q->(fs.map fun f=>(f.offset,(e9 P f.type).getD 0))[q.1]? =some (a.1,a.2.1)/\aI D φ a.2.2 q.2
 |[],xs,vs,h1,h2,_=>by
  simp [o0] at h1;subst h1;simp [sd] at h2;subst h2;exact ⟨rfl,fun j a q ha=>by simp at ha⟩
 |(i,y)::ps,xs,vs,h1,h2,hk=>by
  simp only [o0,af] at h1;obtain ⟨qq,hqq,x,hx,xs',hxs,h1⟩:=h1;cases h1;simp only [sd,af] at h2;obtain ⟨v,hv,vs',hvs,h2⟩:=h2;cases h2;obtain ⟨i1,i2⟩:=tP ht hxs hvs (fun q hq=>hk q (iZ _ hq));refine ⟨by simp [i1],fun j a q ha hq=> ?_⟩
  cases j with
  |zero=>
   simp at ha hq;subst ha;subst hq;obtain ⟨fs',fl,g1,g2,g3,g4,g5⟩:=oQ hqq;rw [ht] at g1;cases g1;refine ⟨?_,hk (i,y) (ja) x hx v hv⟩;rw [Array.getElem?_map,g2];simp [g3,g4]
  |succ j=>exact i2 j a q (by simpa using ha) (by simpa using hq)
theorem CR {z:List AV} {ps:List (Nat×Nat×cC)} {parts:Array (Nat×Operand)} {t:TypeId} {fs:Array Field} {c:Bool} (hs:step (.build z ps) e h n=some (c,E)) (ht:P.underlying t=some (.struct fs)) (hz:eI P t=some z)
 (hall:fs.all (fun f=>(P.info? f.type).isSome)=true) (hc:o0 P t parts.toList=some ps) (hk: ∀q∈parts.toList,∀x,cO q.2=some x->gi D φ e h x (ρ q.2)) (hH:HR D φ (only (ab h) E.rd) w):
 fv P D φ (only (ab h) E.rd) w n E ((do pure (Next.value (<-Instr.build t (parts.map fun (i,x)=>(i,ρ x)))):Sem Next).run P w):=by
 simp only [step,af] at hs;obtain ⟨l,hl,cs,hcs,hs⟩:=hs;obtain ⟨uz,huz,hzz⟩:=mu hz w;obtain ⟨e1,e2⟩:=tP (ρ:=ρ) ht hc hl hk;obtain ⟨cs',hf,hr⟩:=sn (place:=fun i=>(fs.map fun f=>(f.offset,(e9 P f.type).getD 0))[i]?) (cs:=uz.cells) (gC (D:=D) (φ:=φ) hzz) e1 e2 hcs;have hv:=aI.uP hr;refine bW (u:= .agg cs') hs hH ?_ (by simpa using hv)
 rw [cZ];have hm:(fs.mapM (fun f=>do pure (f.offset,<-sizeOf f.type):Field->Sem (Nat×Nat))).run P w= .ok (fs.map fun f=>(f.offset,(e9 P f.type).getD 0)) w:=by
  rw [Array.mapM_eq_mapM_toList];simp only [Sem.run_map];rw [nt fs.toList (fun f hf=>by rw [Array.all_eq_true_iff_forall_mem] at hall;exact hall f (by simpa using hf))]
  simp only [Result.andThen_ok];congr 1;apply lg;simp
 simp only [Instr.build,Sem.run_bind,huz,Result.andThen_ok,run_underlying ht];rw [hm];have hq:(parts.map (fun x=>match x with|(i,x)=>(i,ρ x))).toList=(parts.toList.map (fun q=>(q.1,ρ q.2))):=by simp
 simp only [Result.andThen_ok,hq];rw [hf];rfl
theorem CA {z:List AV} {s:Nat} {ps:List (Nat×Nat×cC)} {parts:Array (Nat×Operand)} {t el:TypeId} {m:Nat} {c:Bool} (hs:step (.build z ps) e h n=some (c,E)) (ht:P.underlying t=some (.array m el)) (hz:eI P t=some z)
 (hsz:e9 P el=some s) (hc:lz s parts.toList=some ps) (hk: ∀q∈parts.toList,∀x,cO q.2=some x->gi D φ e h x (ρ q.2)) (hH:HR D φ (only (ab h) E.rd) w):
 fv P D φ (only (ab h) E.rd) w n E ((do pure (Next.value (<-Instr.build t (parts.map fun (i,x)=>(i,ρ x)))):Sem Next).run P w):=by
 simp only [step,af] at hs;obtain ⟨l,hl,cs,hcs,hs⟩:=hs;obtain ⟨uz,huz,hzz⟩:=mu hz w;obtain ⟨e1,e2⟩:=oq (ρ:=ρ) hc hl hk;obtain ⟨cs',hf,hr⟩:=sn (place:=fun i=>some (i*s,s)) (cs:=uz.cells) (gC (D:=D) (φ:=φ) hzz) e1 e2 hcs;have hv:=aI.uP hr;refine bW (u:= .agg cs') hs hH ?_ (by simpa using hv)
 rw [cZ];simp only [Instr.build,Sem.run_bind,huz,Result.andThen_ok,run_underlying ht,run_sizeOf hsz];have hq:(parts.map (fun x=>match x with|(i,x)=>(i,ρ x))).toList=(parts.toList.map (fun q=>(q.1,ρ q.2))):=by simp
 simp only [hq];rw [hf];rfl
theorem BC {z:List AV} {el:TypeId} {s:Nat} (hz:eI P el=some z) (hs:z.length=s) (m:Nat):
 ∃zero uz:Array Value,(m*s=0->zero= #[])/\(m*s≠0-> ∃u:Value,(zeroValue el).run P w= .ok u w/\u.cells=zero)/\cJ D φ (dI z m) ((Array.range (m*s)).map (fun i=>zero[i % zero.size]!)).toList:=by
 obtain ⟨uz,huz,hzz⟩:=mu hz w;have hzr:=gC (D:=D) (φ:=φ) hzz;have hus:uz.cells.size=s:=by have:=hzr.1;simp at this;omega
 by_cases h0:m*s=0
 ·refine ⟨#[],#[],fun _=>rfl,fun h=>absurd h0 h,?_⟩;have hzl: ∀m,(dI z m).length=m*z.length:=fun m=>by
   induction m with
   |zero=>simp [dI]
   |succ m ih=>simp [dI,ih,oa];omega
  have:dI z m=[]:=jG (by rw [hzl,hs];exact h0)
  rw [this,h0];simpa using cJ.nil
 ·refine ⟨uz.cells,#[],fun h=>absurd h h0,fun _=>⟨uz,huz,rfl⟩,?_⟩;have:=sW hzr m;rwa [hus] at this ⊢
theorem NX {z:List AV} {s len:Nat} {ps:List (Nat×Nat×cC)} {parts:Array (Nat×Operand)} {t el:TypeId} {c:Bool} (hs:step (.lC (dI z len) len ps) e h n=some (c,E)) (ht:P.underlying t=some (.slice el)) (hz:eI P el=some z)
 (hsz:e9 P el=some s) (hzl:z.length=s) (hlim:len*s<=2^24) (hc:lz s parts.toList=some ps) (hk: ∀q∈parts.toList,∀x,cO q.2=some x->gi D φ e h x (ρ q.2)) (hn:n<E.n-> ¬D n) (hH:HR D φ (only (ab h) E.rd) w):
 fv P D φ (only (ab h) E.rd) w n E ((do pure (Next.value (<-Instr.buildSlice t len (parts.map fun (i,x)=>(i,ρ x)))):Sem Next).run P w):=by
 simp only [step,af,aP,bq] at hs;obtain ⟨l,hl,cs,hcs,_,rfl⟩:=hs;obtain ⟨zero,_,hz1,hz1',hz2⟩:=BC (P:=P) (D:=D) (φ:=φ) (w:=w) hz hzl len;obtain ⟨e1,e2⟩:=oq (ρ:=ρ) hc hl hk;obtain ⟨cs',hf,hr⟩:=sn (place:=fun i=>some (i*s,s)) (cs:=(Array.range (len*s)).map (fun i=>zero[i % zero.size]!)) hz2 e1 e2 hcs;refine fv.alloc (g:=none) (cap:=0) (fK:=0) (cs:=cs') (elem:=el) (fr:=(0,0)) (w':={w with heap:=w.heap.push (.cells cs' el)}) (u:= .slice (some ⟨w.heap.size,0,none⟩) len len) ?_ hH (hn (ez _)) rfl rfl rfl rfl hr.push (fun i _=>by simp) (fun e he=>by cases he) HW
 rw [cZ];simp only [Instr.buildSlice,Sem.run_bind,run_underlying ht,Result.andThen_ok,run_sizeOf hsz];have hq:(parts.map (fun x=>match x with|(i,x)=>(i,ρ x))).toList=(parts.toList.map (fun q=>(q.1,ρ q.2))):=by simp
 have hlim': ¬(len*s>2^24):=by omega
 simp only [hlim',bV,hq];by_cases h0:len*s=0
 ·have:=hz1 h0;subst this;simp only [h0,cu,Sem.run_bind,Sem.run_pure,Result.andThen_ok];rw [h0] at hf;rw [hf];simp only [Sem.run_bind,gR,Result.andThen_ok,Sem.run_pure]
 ·obtain ⟨u,hu,hu'⟩:=hz1' h0;simp only [h0,bV,Sem.run_bind,Sem.run_pure,Result.andThen_ok,hu,hu'];rw [hf];simp only [Sem.run_bind,gR,Result.andThen_ok,Sem.run_pure]
theorem yg {i:Int} (h1:0<=i) (h2:i<=9223372036854775807):IntKind.i64.wrap i=i:=by
 exact IntWalk.i64_in i ⟨by omega,by omega⟩
theorem N8 {z bytes:Nat} {zs:List AV} {l cc:cC} {ul uc:Value} {t el:TypeId} {i:TypeInfo} {c:Bool} (hs:step (.R7 i.size i.bytes zs l cc) e h n=some (c,E)) (hc:c=true) (ht:P.underlying t=some (.slice el)) (hi:P.info? el=some i) (hz:eI P el=some zs)
 (hzl:zs.length=i.size) (hl:gi D φ e h l ul) (hcc:gi D φ e h cc uc) (hn:n<E.n-> ¬D n) (hH:HR D φ (only (ab h) E.rd) w):
 fv P D φ (only (ab h) E.rd) w n E ((do pure (Next.value (<-Instr.makeSlice t ul uc)):Sem Next).run P w):=by
 simp only [step,af,aP,bq] at hs;obtain ⟨vl,hvl,a,ha,vc,hvc,b,hb,h1,rfl⟩:=hs;have:=FH ha (hl vl hvl);subst this;have:=FH hb (hcc vc hvc);subst this;rw [hc] at h1;obtain ⟨h2,h3,h4,h5⟩:=bO h1;obtain ⟨zero,_,hz1,hz1',hz2⟩:=BC (P:=P) (D:=D) (φ:=φ) (w:=w) hz hzl b.toNat;refine fv.alloc (g:=none) (cap:=0) (fK:=0) (cs:=(Array.range (b.toNat*i.size)).map (fun i=>zero[i % zero.size]!)) (elem:=el) (fr:=(0,0)) (w':={w with heap:=w.heap.push (.cells ((Array.range (b.toNat*i.size)).map (fun i=>zero[i % zero.size]!)) el)}) (u:= .slice (some ⟨w.heap.size,0,none⟩) a.toNat b.toNat) ?_ hH (hn (ez _)) rfl rfl rfl rfl hz2.push (fun i _=>by simp) (fun e he=>by cases he) HW
 have hsz:e9 P el=some i.size:=by simp [e9,hi]
 rw [cZ];simp only [Instr.makeSlice,Sem.run_bind,run_underlying ht,Result.andThen_ok,asInt,asIntOf,Sem.run_pure,run_typeInfo hi,yg h2 (by omega),yg (show 0<=b by omega) h5]
 rw [aN (by simp;omega)]
 simp only [Sem.run_bind,run_askRoom,Result.andThen_ok,run_sizeOf hsz,Sem.run_pure];by_cases h0:b.toNat*i.size=0
 ·have:=hz1 h0;subst this;simp only [h0,cu,Sem.run_bind,Sem.run_pure,Result.andThen_ok,gR]
 ·obtain ⟨u,hu,hu'⟩:=hz1' h0;simp only [h0,bV,Sem.run_bind,Sem.run_pure,Result.andThen_ok,gR,hu,hu']
theorem ya (newLen:Nat): ∀(r c:Nat),256<=c->c<2*newLen->Builtin.growBy newLen r c<=2*newLen
 |0,c,_,h=>by simp [Builtin.growBy];omega
 |r+1,c,h0,h=>by
  simp only [Builtin.growBy];split
  ·omega
  ·exact ya newLen r _ (by omega) (by omega)
theorem nextslicecap_le {newLen cap:Nat} (h:cap<newLen):Builtin.nextslicecap newLen cap<=2*newLen:=by
 unfold Builtin.nextslicecap;split
 ·omega
 ·split
  ·omega
  ·exact ya newLen 4 cap (by omega) (by omega)
theorem fS {a:Addr}: ∀{n i:Nat} {acc us:Array Value} {w:World},(loadCellsFrom a i n acc).run P w= .ok us w-> ∀d,(loadCellsFrom a i n acc).run P {w with drawn:=d}= .ok us {w with drawn:=d}
 |0,i,acc,us,w,h,d=>by simp only [loadCellsFrom,Sem.run_pure] at h ⊢;cases h;rfl
 |n+1,i,acc,us,w,h,d=>by
  simp only [loadCellsFrom,Sem.run_bind,run_load] at h ⊢;have hc:({w with drawn:=d}:World).cell? (a.add i)=w.cell? (a.add i):=rfl
  rw [hc];cases hcell:w.cell? (a.add i) with
  |some v=>
   rw [hcell] at h;simp only [Result.andThen_ok] at h ⊢;exact fS h d
  |none=>
   rw [hcell] at h;have hf:World.farLoad P ({w with drawn:=d}:World) (a.add i) (Mode.plain==Mode.atomic)=World.farLoad P w (a.add i) (Mode.plain==Mode.atomic):=rfl
   simp only [hf] at h ⊢;cases hfl:World.farLoad P w (a.add i) (Mode.plain==Mode.atomic) with
   |ok x=>
    rw [hfl] at h;simp only [Result.andThen_ok] at h ⊢;exact fS h d
   |error e=>
    rw [hfl] at h;simp [Result.andThen] at h
theorem hU {a:Addr} {n:Nat} {us:Array Value} (h:(loadCells a n).run P w= .ok us w) (d:Nat):(loadCells a n).run P {w with drawn:=d}= .ok us {w with drawn:=d}:=
 fS h d
theorem run_append_grow {t tt el xt:TypeId} {d:TypeDesc} {i:TypeInfo} {zs:List AV} {base:Option Addr} {len cap m:Nat} {ux:Value} {old new:Array Value} (ht:P.underlying t=some (.slice el)) (hxt:P.underlying xt=some d) (hd: ∀k,d≠ .int k)
 (hi:P.info? el=some i) (hzs:eI P el=some zs) (hzl:zs.length=i.size) (hl:(Builtin.lenOf ux).run P w= .ok m w) (hcap:cap<len+m) (hbytes:i.bytes*(len+m)<=140737488355328) (hb0:i.bytes≠0)
 (hold:(Builtin.firstCells i.size len (.slice base len cap)).run P w= .ok old w) (hnew:(Builtin.firstCells i.size m ux).run P w= .ok new w)
 (hos:old.size=len*i.size) (hns:new.size=m*i.size):
 ∃(cap':Nat) (cs:Array Value),len+m<=cap'/\cs.size=cap'*i.size/\(∀j,j<(old++new).size->cs[j]? =(old++new)[j]?)∧
  (Builtin.append_ #[t,xt] tt #[.slice base len cap,ux]).run P w= .ok (.slice (some ⟨w.heap.size,0,none⟩) (len+m) cap') {w with drawn:=w.drawn+1,heap:=w.heap.push (.cells cs el)}:=by
 obtain ⟨uz,huz,hzz⟩:=mu hzs w;have hzr:=gC (D:=fun _=>True) (φ:=⟨id,id,id,id,fun _=>none,fun _=>none⟩) hzz;have hus:uz.cells.size=i.size:=by have:=hzr.1;simp at this;omega
 have hsz:e9 P el=some i.size:=by simp [e9,hi]
 let q:Question:= .appendCap (len+m) cap el;let cap':=q.cut (w.tape w.drawn q);have hcap':len+m<=cap':=by show len+m<=len+m+_;omega
 refine ⟨cap',old++new++Builtin.zeroCells uz.cells (cap'-(len+m)),hcap',?_,fun j hj=> ?_,?_⟩
 ·simp only [Array.size_append,hos,hns,Builtin.zeroCells,Array.size_map,Array.size_range,hus];rw [<-dF,<-dF];congr 1;omega
 ·rw [Bj hj]
 ·have e0:(#[t,xt]:Array TypeId)[0]? =some t:=rfl;have e1:(#[t,xt]:Array TypeId)[1]? =some xt:=rfl;have e2:(#[Value.slice base len cap,ux]:Array Value)[0]? =some (.slice base len cap):=rfl;have e3:(#[Value.slice base len cap,ux]:Array Value)[1]? =some ux:=rfl;have hz0:(match d with| .int k=>true|_=>false)=false:=by
   cases d<;>first|rfl|exact absurd rfl (hd _)
  have hnx:=nextslicecap_le hcap;have hb2: ¬(Builtin.nextslicecap (len+m) cap*i.bytes>2^48):=by
   have:Builtin.nextslicecap (len+m) cap*i.bytes<=2*(len+m)*i.bytes:=Ae _ hnx;have e:2*(len+m)*i.bytes=2*(i.bytes*(len+m)):=by rw [Nat.mul_assoc,qu (len+m)]
   rw [e] at this;omega
  unfold Builtin.append_;rw [e0,e2,e3];simp only [Sem.run_bind,run_underlying ht,Result.andThen_ok,run_sizeOf hsz,e1,run_underlying hxt,Sem.run_pure,hz0,cY,bV,hl];have hcap2: ¬(len+m<=cap):=by omega
  simp only [hcap2,bV,Sem.run_bind,run_typeInfo hi,Result.andThen_ok,hb0,or_false,and_false,hb2,run_choose];rw [aN (by simp [Question.forced])]
  have hold': ∀d,(Builtin.firstCells i.size len (.slice base len cap)).run P {w with drawn:=d}= .ok old {w with drawn:=d}:=fun d=>by
   cases base with
   |none=>simp only [Builtin.firstCells,Sem.run_pure] at hold ⊢;cases hold;rfl
   |some a=>exact hU hold d
  have hnew': ∀d,(Builtin.firstCells i.size m ux).run P {w with drawn:=d}= .ok new {w with drawn:=d}:=fun d=>by
   cases ux<;>simp only [Builtin.firstCells,run_stuck] at hnew ⊢ <;>first|(cases hnew;done)|skip
   ·simp only [Sem.run_pure] at hnew ⊢;cases hnew;rfl
   ·rename_i a l c;cases a with
    |none=>simp only [Sem.run_pure] at hnew ⊢;cases hnew;rfl
    |some a=>exact hU hnew d
  have huz': ∀d,(zeroValue el).run P {w with drawn:=d}= .ok uz {w with drawn:=d}:=fun d=>by
   simp only [eI,af] at hzs;obtain ⟨i',hi',u',hu',_⟩:=hzs;simp only [zeroValue,Sem.run_bind,run_typeInfo hi',Result.andThen_ok,hu',Sem.run_pure] at huz ⊢;cases huz;rfl
  simp only [Result.andThen_ok,run_typeInfo hi,run_askRoom,hold',fA,cu,hnew',huz',gR,Sem.run_pure];rfl
end
end Go.Ab
namespace Go.Ab
section
variable {P:Program} {D:Nat->Prop} {φ:bU} {w:World} {n:Nat} {e:Env} {h:Hp} {E:bX} {ρ:Operand->Value}
theorem lG {t tt el xt:TypeId} {d:TypeDesc} {z:Nat} {base:Option Addr} {len cap m:Nat} {ux:Value} {new:Array Value} (ht:P.underlying t=some (.slice el)) (hxt:P.underlying xt=some d) (hd: ∀k,d≠ .int k)
 (hsz:e9 P el=some z) (hl:(Builtin.lenOf ux).run P w= .ok m w) (hcap:len+m<=cap) (hnew:(Builtin.firstCells z m ux).run P w= .ok new w):
 (Builtin.append_ #[t,xt] tt #[.slice base len cap,ux]).run P w=((match base with|some a=>storeCells (a.add (len*z)) new.toList|none=>pure ():Sem Unit).run P w).andThen fun _ w'=> .ok (.slice base (len+m) cap) w':=by
 have e0:(#[t,xt]:Array TypeId)[0]? =some t:=rfl;have e1:(#[t,xt]:Array TypeId)[1]? =some xt:=rfl;have e2:(#[Value.slice base len cap,ux]:Array Value)[0]? =some (.slice base len cap):=rfl;have e3:(#[Value.slice base len cap,ux]:Array Value)[1]? =some ux:=rfl;have hz0:(match d with| .int k=>true|_=>false)=false:=by
  cases d<;>first|rfl|exact absurd rfl (hd _)
 unfold Builtin.append_;rw [e0,e2,e3];simp only [Sem.run_bind,run_underlying ht,Result.andThen_ok,run_sizeOf hsz,e1,run_underlying hxt,Sem.run_pure,hz0,cY,bV,hl,hcap,cu,fA,hnew];cases base<;>simp only [Sem.run_bind,Sem.run_pure,Result.andThen_ok]
theorem ku:aE=140737488355328:=rfl
set_option maxHeartbeats 1000000 in
theorem Nr {zs:List AV} {s x:cC} {us ux:Value} {t xt tt el:TypeId} {d:TypeDesc} {i:TypeInfo} {c:Bool} (hs:step (.app i.size i.bytes zs s x) e h n=some (c,E)) (hc:c=true) (ht:P.underlying t=some (.slice el)) (hxt:P.underlying xt=some d) (hd: ∀k,d≠ .int k)
 (hi:P.info? el=some i) (hzs:eI P el=some zs) (hzl:zs.length=i.size) (hb0:i.bytes≠0) (hss:gi D φ e h s us) (hxx:gi D φ e h x ux) (hn:n<E.n-> ¬D n) (hH:HR D φ (only (ab h) E.rd) w):
 fv P D φ (only (ab h) E.rd) w n E ((do pure (Next.value (<-Builtin.append_ #[t,xt] tt #[us,ux])):Sem Next).run P w):=by
 simp only [step,af] at hs;obtain ⟨vs,hvs,vx,hvx,r,hr,hs⟩:=hs;have hrs:=hss vs hvs;have hrx:=hxx vx hvx;have hsz:e9 P el=some i.size:=by simp [e9,hi]
 split at hs
 · -- nothing is appended
   rename_i hm;have key: ∀rd,(∀b,inl r.1 b=true->inl rd b=true)->HR D φ (only (ab h) rd) w->r.2.2.2=true-> ∀base len cap,len<=cap->(Builtin.append_ #[t,xt] tt #[.slice base len cap,ux]).run P w= .ok (.slice base len cap) w:=by
    intro rd hrd hH' hok base len cap hle;obtain ⟨hl,us',hf,hu,hul,hft⟩:=j8 (P:=P) hr hok (rd:=rd) hrd hrx hH';rw [lG (z:=i.size) ht hxt hd hsz hl (by omega) hf]
    have hnil:us'=[]:=jG (by rw [<-hu.1,hul,hm];simp)
    subst hnil;cases base<;>simp [storeCells,hm]
   split at hs
   ·cases hrs;simp only [aP,bq] at hs;obtain ⟨h1,rfl⟩:=hs;refine cz rfl hH ?_ .ns;rw [cZ,key r.1 (fun b hb=>hb) hH (h1.trans hc) none 0 0 (bx _)];rfl
   ·cases hrs with
    |sl b o len cap hD=>
    simp only [aP,bq] at hs;obtain ⟨h1,rfl⟩:=hs;rw [hc,aw] at h1;refine cz rfl hH ?_ (.sl _ _ _ _ hD);rw [cZ,key r.1 (fun b hb=>hb) hH h1.1 _ _ _ (bO h1.2)];rfl
   ·cases hrs with
    |sg b o len j cap hD hj hcap hlen=>
    simp only [aP,bq] at hs;obtain ⟨h1,rfl⟩:=hs;refine cz rfl hH ?_ (.sg _ _ _ j cap hD hj hcap hlen);rw [cZ,key r.1 (fun b hb=>hb) hH (h1.trans hc) _ _ _ hlen];rfl
   ·cases hrs with
    |ze x=>
    simp only [aP,bq] at hs;obtain ⟨h1,rfl⟩:=hs;refine cz rfl hH ?_ (.ze x);rw [cZ,key r.1 (fun b hb=>hb) hH (h1.trans hc) _ _ _ (bx _)];rfl
   ·simp only [aP,bq] at hs;obtain ⟨h1,rfl⟩:=hs;refine cz (u:=us) rfl hH ?_ hrs;cases hrs with
    |mI _ x cap hc0=>rw [cZ,key r.1 (fun b hb=>hb) hH (h1.trans hc) _ _ _ (eB _)];rfl
    |fz _ _ B o cap vs hB hcap hsz hv=>rw [cZ,key r.1 (fun b hb=>hb) hH (h1.trans hc) _ _ _ hcap];rfl
   ·cases hs
 ·rename_i hm;split at hs
  · -- onto nil
    cases hrs;simp only [aP,bq] at hs;obtain ⟨h1,rfl⟩:=hs;rw [hc,aw,aV] at h1;obtain ⟨hok,hby⟩:=h1;rw [ku] at hby;obtain ⟨hl,us',hf,hu,hul,hft⟩:=j8 (P:=P) hr hok (rd:=r.1) (fun b hb=>hb) hrx hH;obtain ⟨cap',cs,h2,h3,h4,h5⟩:=run_append_grow (P:=P) (tt:=tt) (base:=none) (len:=0) (cap:=0) (old:= #[]) ht hxt hd hi hzs hzl hl (by omega) (by simpa using hby) hb0 (by simp [Builtin.firstCells]) hf (by simp) (by simp [<-hu.1,hul])
    refine fv.alloc (g:=some i.size) (cap:=cap') (fK:=i.size) (cs:=cs) (elem:=el) (fr:=(0,0)) (w':={w with drawn:=w.drawn+1,heap:=w.heap.push (.cells cs el)}) (u:= .slice (some ⟨w.heap.size,0,none⟩) r.2.1 cap') ?_ hH (hn (ez _)) rfl rfl rfl rfl (fun j v hv=> ?_) (fun i _=>by simp) (fun e he=>by cases he;exact ⟨rfl,h3⟩) (th (by omega))
    ·rw [cZ,h5];simp
    ·obtain ⟨u,hu1,hu2⟩:=hu.get hv;have hj:j<us'.length:=by
      rcases dw j us'.length with h'|h'
      ·exact h'
      ·rw [fM h'] at hu1;cases hu1
     exact ⟨u,by rw [h4 j (by simp;exact hj)];simpa using hu1,hu2⟩
  · -- onto an empty slice without room
    cases hrs with
    |ze x=>
    simp only [aP,bq] at hs;obtain ⟨h1,rfl⟩:=hs;rw [hc,aw,aV] at h1;obtain ⟨hok,hby⟩:=h1;rw [ku] at hby;obtain ⟨hl,us',hf,hu,hul,hft⟩:=j8 (P:=P) hr hok (rd:=r.1) (fun b hb=>hb) hrx hH;obtain ⟨cap',cs,h2,h3,h4,h5⟩:=run_append_grow (P:=P) (tt:=tt) (base:=x) (len:=0) (cap:=0) (old:= #[]) ht hxt hd hi hzs hzl hl (by omega) (by simpa using hby) hb0 (by cases x<;>simp [Builtin.firstCells,loadCells,loadCellsFrom]) hf (by simp) (by simp [<-hu.1,hul])
    refine fv.alloc (g:=some i.size) (cap:=cap') (fK:=i.size) (cs:=cs) (elem:=el) (fr:=(0,0)) (w':={w with drawn:=w.drawn+1,heap:=w.heap.push (.cells cs el)}) (u:= .slice (some ⟨w.heap.size,0,none⟩) r.2.1 cap') ?_ hH (hn (ez _)) rfl rfl rfl rfl (fun j v hv=> ?_) (fun i _=>by simp) (fun e he=>by cases he;exact ⟨rfl,h3⟩) (th (by omega))
    ·rw [cZ,h5];simp
    ·obtain ⟨u,hu1,hu2⟩:=hu.get hv;have hj:j<us'.length:=by
      rcases dw j us'.length with h'|h'
      ·exact h'
      ·rw [fM h'] at hu1;cases hu1
     exact ⟨u,by rw [h4 j (by simp;exact hj)];simpa using hu1,hu2⟩
  · -- onto a slice whose capacity is known
    rename_i b o len cap;cases hrs with
    |sl _ _ _ _ hD=>
    simp only [af] at hs;obtain ⟨k,hk,hs⟩:=hs;have hib:inl (b::r.1) b=true:=by simp [inl]
    split at hs
    ·rename_i hle;split at hs
     ·cases hs
     ·rename_i hro;simp only [aP,bq] at hs;obtain ⟨h1,rfl⟩:=hs;rw [hc] at h1;simp only [aw,aV] at h1;obtain ⟨⟨hok,hfit⟩,hone⟩:=h1;obtain ⟨hk,hmp⟩:=dO hk;have hkk:only (ab h) (b::r.1) b=some k:=by rw [ec hib];exact hk
      obtain ⟨hl,us',hf,hu,hul,hft⟩:=j8 (P:=P) hr hok (rd:=b::r.1) (fun b hb=>by simp [inl,hb]) hrx hH
      obtain ⟨w',cs,cs',elem,fr,g1,g2,g3,g4,g5,g6,g7,g8⟩:=HR.zw (P:=P) hH hkk hmp hro hu hone (o:=o+len*i.size) hfit;refine fv.write (nx:= .value (.slice (some ⟨φ.cW b,φ.off b+o,none⟩) (len+r.2.1) cap)) ?_ (.inl rfl) (.sl _ _ _ _ hD) hib hH hkk hro g2 g3 g4 g5 g6 g7 g8;rw [cZ,lG (z:=i.size) ht hxt hd hsz hl hle hf];simp only [Addr.add_eq,AT,im] at g1 ⊢;rw [g1];rfl
    ·rename_i hle;simp only [aP,bq] at hs;obtain ⟨h1,rfl⟩:=hs;rw [hc] at h1;simp only [aw,aV] at h1;obtain ⟨⟨⟨hok,hby⟩,hold⟩,hlc⟩:=h1;rw [ku] at hby;obtain ⟨hk,hmp⟩:=dO hk;have hkk:only (ab h) (b::r.1) b=some k:=by rw [ec hib];exact hk
     obtain ⟨hl,us',hf,hu,hul,hft⟩:=j8 (P:=P) hr hok (rd:=b::r.1) (fun b hb=>by simp [inl,hb]) hrx hH
     obtain ⟨os,ho1,ho2⟩:=HR.row (P:=P) hH hkk hmp hold;obtain ⟨cap',cs,h2,h3,h4,h5⟩:=run_append_grow (P:=P) (tt:=tt) (base:=some ⟨φ.cW b,φ.off b+o,none⟩) (len:=len) (cap:=cap) (old:=os.toArray) ht hxt hd hi hzs hzl hl (by omega) hby hb0 (by simpa [Builtin.firstCells] using ho1) hf (by simp [<-ho2.1,hold]) (by simp [<-hu.1,hul])
     refine fv.alloc (g:=some i.size) (cap:=cap') (fK:=i.size) (cs:=cs) (elem:=el) (fr:=(0,0)) (w':={w with drawn:=w.drawn+1,heap:=w.heap.push (.cells cs el)}) (u:= .slice (some ⟨w.heap.size,0,none⟩) (len+r.2.1) cap') ?_ hH (hn (ez _)) rfl rfl rfl rfl (fun j v hv=> ?_) (fun i _=>by simp) (fun e he=>by cases he;exact ⟨rfl,h3⟩) (th h2)
     ·rw [cZ,h5];rfl
     ·obtain ⟨u,hu1,hu2⟩:=(ho2.append hu).get hv;have hj:j<(os++us').length:=by
       rcases dw j (os++us').length with h'|h'
       ·exact h'
       ·rw [fM h'] at hu1;cases hu1
      exact ⟨u,by rw [h4 j (by simpa using hj)];simpa using hu1,hu2⟩
  · -- onto a slice that was grown
    rename_i b o len;cases hrs with
    |sg _ _ _ j cap hD hj hcap hlen=>
    simp only [af] at hs;obtain ⟨k,hk,hs⟩:=hs;have hib:inl (b::r.1) b=true:=by simp [inl]
    split at hs
    ·rename_i z' hgr;simp only [aP,bq] at hs;obtain ⟨h1,rfl⟩:=hs;rw [hc] at h1;simp only [aw,aV] at h1;obtain ⟨⟨⟨⟨hok,hby⟩,hzz⟩,hlen2⟩,hone⟩:=h1;have hzz:=dC hzz;rw [ku] at hby;obtain ⟨hk,hmp⟩:=dO hk;have hkk:only (ab h) (b::r.1) b=some k:=by rw [ec hib];exact hk
     obtain ⟨hl,us',hf,hu,hul,hft⟩:=j8 (P:=P) hr hok (rd:=b::r.1) (fun b hb=>by simp [inl,hb]) hrx hH
     obtain ⟨hDb,⟨⟨cs0,elem0,⟨lo,hi'⟩,q1,q2,q3,q4⟩,_⟩⟩:=hH.at_ b k hkk;have q1:=q1.cells hmp;obtain ⟨hro,hesz,hcsz⟩:=q4 z' hgr;have hfr:=(q3 hro).2;have hjz:j*i.size=o:=by rw [<-hj,hesz,hzz]
     have hcapk:cs0.size=φ.off b+(o+cap*i.size):=by rw [hcsz,<-hzz,<-hcap,dF,hjz]
     -- the slice's own cells,as a list of values
     have hcells:aA k.cells o (len*i.size)=k.cells.drop o:=h9 (by rw [qi];omega)
     have hold:(aA k.cells o (len*i.size)).length=len*i.size:=by rw [hcells,qi];omega
     by_cases hle:len+r.2.1<=cap
     · -- there is room
       have hlm:(len+r.2.1)*i.size<=cap*i.size:=Ae _ hle;rw [dF] at hlm;have hul':us'.length=r.2.1*i.size:=by rw [<-hu.1,hul]
       obtain ⟨w',g1,g4,g5,g6,g3⟩:= @oW P (φ.cW b) (φ.off b+o+len*i.size) elem0 lo hi' us' 0 w cs0 q1 (fun j hj=>hfr j (.inl hj)) (by omega) (oX hone hu)
       refine fv.UH (p:=φ.off b+o) (cp:=cap) (e:=i.size) (xs:=k.cells.drop o++r.2.2.1) (cs':=_) (u:= .slice (some ⟨φ.cW b,φ.off b+o,none⟩) (len+r.2.1) cap) ?_ hib (hn (ez _)) hH hkk (by rw [hgr,hzz]) q1 g3 g4 g5 g6 (by simp;omega) (by omega) (fun jj v hv=> ?_) ?_
       ·rw [cZ,lG (z:=i.size) ht hxt hd hsz hl hle hf];simp only [Addr.add_eq,AT,gv,fu] at g1 ⊢;rw [g1];rfl
       ·simp only [p0,qi] at hv;simp only [fu,gv,List.getElem?_toArray,p0,dN,gO,Array.length_toList,jA,iq];have hlz:φ.off b+o+len*i.size<=cs0.size:=by omega
        rw [oK hlz];split at hv
        ·rename_i hjl;rw [aM (by omega),aM (by omega),aM (by omega)]
         rw [iq] at hv;obtain ⟨u,hu1,hu2⟩:=q2 (o+jj) v hv;exact ⟨u,by rw [jX,im];exact hu1,hu2⟩
        ·rename_i hjl;rw [show k.cells.length-o=len*i.size by omega] at hv hjl
         obtain ⟨u,hu1,hu2⟩:=hu.get hv;have hjj:jj-len*i.size<us'.length:=by
          rcases dw (jj-len*i.size) us'.length with h'|h'
          ·exact h'
          ·rw [fM h'] at hu1;cases hu1
         rw [aM (by omega),aN (by omega),show φ.off b+o+jj-(φ.off b+o+len*i.size)=jj-len*i.size by omega]
         exact ⟨u,hu1,hu2⟩
       ·have:=aI.sg (D:=Dn D n (n+1)) (φ:=φ.pG n (φ.cW b) (φ.off b+o) cap i.size) n 0 (len+r.2.1) 0 cap (.inr ⟨bx _,ez _⟩) (by simp) (by simp [bU.pG]) (by omega)
        simpa [bU.pG] using this
     · -- it grows
       obtain ⟨os,ho1,ho2⟩:=HR.row (P:=P) hH hkk hmp hold;obtain ⟨cap',cs,h2,h3,h4,h5⟩:=run_append_grow (P:=P) (tt:=tt) (base:=some ⟨φ.cW b,φ.off b+o,none⟩) (len:=len) (cap:=cap) (old:=os.toArray) ht hxt hd hi hzs hzl hl (by omega) hby hb0 (by simpa [Builtin.firstCells] using ho1) hf (by simp [<-ho2.1,hold]) (by simp [<-hu.1,hul])
       rw [hcells] at ho2;refine fv.OG (cap:=cap') (cs:=cs) (elem:=el) (fr:=(0,0)) (w':={w with drawn:=w.drawn+1,heap:=w.heap.push (.cells cs el)}) (u:= .slice (some ⟨w.heap.size,0,none⟩) (len+r.2.1) cap') ?_ hib (hn (ez _)) hD hH rfl rfl rfl rfl (fun j v hv=> ?_) (fun i _=>by simp) h3 (th h2)
       ·rw [cZ,h5];rfl
       ·obtain ⟨u,hu1,hu2⟩:=(ho2.append hu).get hv;have hj:j<(os++us').length:=by
         rcases dw j (os++us').length with h'|h'
         ·exact h'
         ·rw [fM h'] at hu1;cases hu1
        exact ⟨u,by rw [h4 j (by simpa using hj)];simpa using hu1,hu2⟩
    ·cases hs
  ·cases hs
theorem Lt {zs:List AV} {s x:cC} {us ux:Value} {t xt tt el:TypeId} {kn:IntKind} {i:TypeInfo} {c:Bool} (hs:step (.apz i.size i.bytes zs s x) e h n=some (c,E)) (hc:c=true) (ht:P.underlying t=some (.slice el)) (hxt:P.underlying xt=some (.int kn))
 (hi:P.info? el=some i) (hzs:eI P el=some zs) (hzl:zs.length=i.size) (hz0:0<i.size) (hb0:i.bytes≠0) (hss:gi D φ e h s us) (hxx:gi D φ e h x ux) (hn:n<E.n-> ¬D n) (hH:HR D φ (only (ab h) E.rd) w):
 fv P D φ (only (ab h) E.rd) w n E ((do pure (Next.value (<-Builtin.append_ #[t,xt] tt #[us,ux])):Sem Next).run P w):=by
 simp only [step,af] at hs;obtain ⟨vs,hvs,vx,hvx,m,hm,hs⟩:=hs;have hrs:=hss vs hvs;have hrx:=hxx vx hvx;split at hs
 ·rename_i b o len cap;cases hrs with
  |sl _ _ _ _ hD=>
  simp only [af,aP,bq] at hs;obtain ⟨k,hk,h1,rfl⟩:=hs;rw [hc] at h1;simp only [aw,aV] at h1;obtain ⟨⟨⟨h0,hg⟩,hby⟩,hold⟩:=h1;rw [ku] at hby;have hib:inl [b] b=true:=by simp [inl]
  obtain ⟨hk,hmp⟩:=dO hk;have hkk:only (ab h) [b] b=some k:=by rw [ec hib];exact hk
  have hux:ux= .int .i64 (m.toNat:Int):=by
   unfold Kv at hm;split at hm
   ·cases hm;cases hrx;congr 1;omega
   ·cases hm
  subst hux;have hr0:0<m.toNat:=by omega
  generalize m.toNat=r at*;have hzs':=hzs;simp only [eI,hi,aS,af] at hzs';obtain ⟨z,hz,hzz⟩:=hzs';have hzr:=gC (D:=D) (φ:=φ) hzz;have hsz:z.cells.size=i.size:=by have:=hzr.1;simp at this;omega
  obtain ⟨os,ho1,ho2⟩:=HR.row (P:=P) hH hkk hmp hold;have hosl:os.length=len*i.size:=by rw [<-ho2.1,hold]
  have hle:i.bytes*(len+r)=(len+r)*i.bytes:=qu _ _;by_cases hbig:len+r<=9223372036854775807
  ·have h48:r*i.bytes<=281474976710656:=by
    have:r*i.bytes<=(len+r)*i.bytes:=Ae _ (by omega)
    omega
   have hrun:=Lib.run_append_grow_zeros (P:=P) w t xt tt el i z .i64 kn ht hxt hi hz (some ⟨φ.cW b,φ.off b+o,none⟩) len cap os (by simpa [Builtin.firstCells] using hU ho1 (w.drawn+1)) r (by omega) hz0 hg (by omega) h48 (growslice_fits hg (by omega))
   have hge:=grownCap_ge w (len+r) cap el;generalize grownCap w (len+r) cap el=G at*;have hrow:cJ D φ (aA k.cells o (len*i.size)++dI zs r) (os++(Builtin.zeroCells z.cells r).toList):=by
    refine ho2.append ?_;have:=sW (D:=D) (φ:=φ) (cs:=z.cells) hzr r;simpa [Builtin.zeroCells] using this
   refine fv.alloc (g:=some i.size) (cap:=G) (fK:=i.size) (cs:=os.toArray++Builtin.zeroCells z.cells r++Builtin.zeroCells z.cells (G-(len+r))) (elem:=el) (fr:=(0,0)) (w':={w with drawn:=w.drawn+1,heap:=w.heap.push (.cells (os.toArray++Builtin.zeroCells z.cells r++Builtin.zeroCells z.cells (G-(len+r))) el)}) (u:= .slice (some ⟨w.heap.size,0,none⟩) (len+r) G) ?_ hH (hn (ez _)) rfl rfl rfl rfl (fun j v hv=> ?_) (fun i _=>by simp) (fun e he=> ?_) (th hge)
   ·rw [cZ,hrun];rfl
   ·obtain ⟨u,hu1,hu2⟩:=hrow.get hv;have hj:j<(os++(Builtin.zeroCells z.cells r).toList).length:=by
     rcases dw j (os++(Builtin.zeroCells z.cells r).toList).length with h'|h'
     ·exact h'
     ·rw [fM h'] at hu1;cases hu1
    refine ⟨u,?_,hu2⟩;rw [Bj (by simpa using hj),<-jX,Array.toList_append]
    exact hu1
   ·cases he;refine ⟨rfl,?_⟩;simp only [Array.size_append,tI,size_zeroCells,hsz,hosl,<-dF];congr 1;omega
  ·exfalso;have:(len+r)*i.bytes<=140737488355328:=by omega
   have:(len+r)*1<=(len+r)*i.bytes:=Nat.mul_le_mul_left _ (by omega)
   omega
 ·cases hs
end
end Go.Ab
namespace Go.Ab
section
variable {P:Program} {D:Nat->Prop} {φ:bU} {w:World} {n:Nat} {e:Env} {h:Hp} {E:bX} {ρ:Operand->Value}
theorem BF {v:AV} {u u':Value} (hv:aI D φ v u) (h:IQ v=some u'):u=u':=by
 unfold IQ at h;split at h<;>cases h<;>cases hv<;>rfl
theorem BR: ∀{l:List AV} {us us':List Value},cJ D φ l us->GK l=some us'->us=us'
 |[],us,us',hv,h=>by simp [GK] at h;subst h;exact hv.kK
 |v::l,us,us',hv,h=>by
  obtain ⟨u,m,rfl,h1,h2⟩:=hv.dZ;simp only [GK,af] at h;obtain ⟨x,hx,xs,hxs,h⟩:=h;cases h;rw [BF h1 hx,BR h2 hxs]
theorem Pp {v:AV} {u u':Value} (hv:aI D φ v u) (h:toV v=some u'):u=u':=by
 unfold toV at h;split at h
 ·obtain ⟨m,rfl,hm⟩:=hv.ph;simp only [af] at h;obtain ⟨us,hus,h⟩:=h;cases h;rw [BR hm hus]
 ·exact BF hv h
theorem Nc {t:TypeId} {x:cC} {u:Value} {d:TypeDesc} {c:Bool} (hs:step (.Kw t x) e h n=some (c,E)) (ht:P.underlying t=some d) (hd: ∀m,d≠ .interface m) (hx:gi D φ e h x u) (hH:HR D φ (only (ab h) E.rd) w):
 fv P D φ (only (ab h) E.rd) w n E ((do pure (Next.value (<-Instr.makeInterface t u)):Sem Next).run P w):=by
 simp only [step,af] at hs;obtain ⟨v,hv,u',hu',hs⟩:=hs;have:=Pp (hx v hv) hu';subst this;refine bW (u:= .iface t u) hs hH ?_ (.k t u);simp only [Instr.makeInterface,Sem.run_bind,run_underlying ht,Result.andThen_ok];simp
theorem L1 {t xt:TypeId} {i:TypeInfo} {z:Value} {zz:AV} {x:cC} {u:Value} {d:TypeDesc} {c:Bool} (hs:step (.OH t zz x) e h n=some (c,E)) (ht:P.underlying t=some d) (hd: ∀m,d≠ .interface m) (hi:P.info? t=some i) (hz:i.zero=some z) (hzz:vZ z=some zz)
 (hx:gi D φ e h x u) (hH:HR D φ (only (ab h) E.rd) w):
 fv P D φ (only (ab h) E.rd) w n E ((do pure (Next.value (<-Instr.typeAssert u xt t true)):Sem Next).run P w):=by
 simp only [step,af] at hs;obtain ⟨v,hv,hs⟩:=hs;have hvr:=hx v hv;have hzr:(zeroValue t).run P w= .ok z w:=by simp [zeroValue,run_typeInfo hi,hz]
 split at hs
 ·cases hvr;refine bW (u:= .tuple #[z,.bool false]) hs hH ?_ (aI.By (m:=[z,.bool false]) (.cons (kZ hzz) (.cons (.b _) .nil)));simp only [Instr.typeAssert,Sem.run_bind,run_underlying ht,Result.andThen_ok];cases d with
  |interface m=>exact absurd rfl (hd m)
  |_=>simp [hzr]
 ·rename_i t' u';cases hvr;by_cases hb:t'=t
  ·subst hb;rw [show Nat.beq t' t'=true from Nat.beq_refl t'] at hs
   simp only [af] at hs;obtain ⟨q,hq,hs⟩:=hs;refine bW (u:= .tuple #[u',.bool true]) hs hH ?_ (aI.By (m:=[u',.bool true]) (.cons (kZ hq) (.cons (.b _) .nil)));simp only [Instr.typeAssert,Sem.run_bind,run_underlying ht,Result.andThen_ok];cases d with
   |interface m=>exact absurd rfl (hd m)
   |_=>simp
  ·rw [bz (fun e=>hb e.symm)] at hs;refine bW (u:= .tuple #[z,.bool false]) hs hH ?_ (aI.By (m:=[z,.bool false]) (.cons (kZ hzz) (.cons (.b _) .nil)));simp only [Instr.typeAssert,Sem.run_bind,run_underlying ht,Result.andThen_ok];cases d with
   |interface m=>exact absurd rfl (hd m)
   |_=>simp [hzr,hb]
 ·cases hs
theorem Ep {neg:Bool} {x:cC} {a b:Value} {t:TypeId} {xo:Operand} {m:Array (String×TypeId)} {c:Bool} (hs:step (.WM neg x) e h n=some (c,E)) (ht:P.underlying t=some (.interface m)) (hb:b= .nilIface)
 (hx:gi D φ e h x a) (hH:HR D φ (only (ab h) E.rd) w):
 fv P D φ (only (ab h) E.rd) w n E ((do pure (Next.value (<-(do eqGuard (if neg then .neq else .eql) t xo (.const .nilIface) a b;binOp (if neg then .neq else .eql) t a b))):Sem Next).run P w):=by
 simp only [step,af] at hs;obtain ⟨v,hv,hs⟩:=hs;have ha:=hx v hv;subst hb;have hn0: ∀d,(Op.equalIn (d+1) t .nilIface .nilIface).run P w= .ok true w:=fun d=>by
  simp only [Op.equalIn,Sem.run_bind,run_underlying ht,Result.andThen_ok];simp
 have hk0: ∀d t' v',(Op.equalIn (d+1) t (.iface t' v') .nilIface).run P w= .ok false w:=fun d t' v'=>by
  simp only [Op.equalIn,Sem.run_bind,run_underlying ht,Result.andThen_ok];simp
 have hn:(Op.equal t .nilIface .nilIface).run P w= .ok true w:=hn0 9999;have hk: ∀t' v',(Op.equal t (.iface t' v') .nilIface).run P w= .ok false w:=fun t' v'=>hk0 9999 t' v';split at hs
 ·cases ha;refine bW (u:= .bool (!neg)) hs hH ?_ (.b _);cases neg<;>simp [eqGuard,binOp,hn]
 ·cases ha;refine bW (u:= .bool neg) hs hH ?_ (.b _);cases neg<;>simp [eqGuard,binOp,hk]
 ·cases hs
end
end Go.Ab
namespace Go.Ab
theorem Jw {ks:cy} {o:Option Obj} {cs:Array Value} {elem:TypeId} {fr:Nat×Nat} (h:qj (some ks) o cs elem fr): ∃es clk,o=some (.map es clk)/\es.toList.map (·.val)=cs.toList/\es.toList.map (·.key)=ks.kY:=h
theorem Fm {ks:cy} {o:Option Obj} {es:Array MapEntry} {clk:Nat} {cs:Array Value} {elem:TypeId} {fr:Nat×Nat} (h:o=some (.map es clk)) (h1:es.toList.map (·.val)=cs.toList) (h2:es.toList.map (·.key)=ks.kY):qj (some ks) o cs elem fr:=⟨es,clk,h,h1,h2⟩
theorem dR.Di {D:Nat->Prop} {φ:bU} {H:Hf} {w w':World} {n:Nat} {ks:cy} (hks:ks.kY=[])
 (hH:HR D φ H w) (hn: ¬D n) (hw:w'.heap=w.heap.push (.map #[] 0)) (hos:w'.os=w.os) (htape:w'.tape=w.tape) (hout:w'.output=w.output):
 dR D φ H w (Dn D n (n+1)) (φ.set n w.heap.size 0 0) (fun b=>if b=n then some {cells:=[],mp:=some ks} else H b) w':=by
 have hD: ∀b,D b->Dn D n (n+1) b:=fun b h=> .inl h;have hnn: ¬D n:=hn;have hag:= @bU.yA D φ n w.heap.size 0 0 hnn;have hold: ∀c,c<w.heap.size->w'.heap[c]? =w.heap[c]? :=fun c hc=>by rw [hw];exact gI hc
 have hsz:w'.heap.size=w.heap.size+1:=by rw [hw];simp
 have hne: ∀b k,H b=some k->b≠n:=fun b k hb e=>hnn (e▸(hH.at_ b k hb).1);refine dR.mk' hH rfl rfl hD hag.at_ ⟨fun b k hb=> ?_,fun b1 b2 k1 k2 hne' h1 h2 hk=> ?_⟩ ⟨hos,htape,hout,by omega,fun c hc _=>hold c hc⟩ fun b k hb hk=> ?_
 ·by_cases hbn:b=n
  ·subst hbn;simp at hb;subst hb;exact ⟨.inr ⟨bx _,by omega⟩,⟨⟨#[],default,(0,0),Fm (es:= #[]) (clk:=0) (by simp [bU.set,hw]) rfl (by rw [hks];rfl),fun i v hv=>by simp at hv,fun _=>⟨by simp [bU.set],fun i _=>by omega⟩,fun e he=>by cases he⟩,fun g' h=>by simp at h⟩⟩
  ·rw [aN hbn] at hb;have h':=hH.at_ b k hb;exact ⟨hD b h'.1,h'.2.mono hD hag h'.1 (hold _ h'.2.lt)⟩
 ·by_cases hb1:b1=n<;>by_cases hb2:b2=n
  ·exact absurd (hb1.trans hb2.symm) hne'
  ·rw [aN hb2] at h2;have:=(hH.at_ b2 k2 h2).2.lt;simp [bU.set,hb1,hb2];omega
  ·rw [aN hb1] at h1;have:=(hH.at_ b1 k1 h1).2.lt;simp [bU.set,hb1,hb2];omega
  ·rw [aN hb1] at h1;rw [aN hb2] at h2;simp [bU.set,hb1,hb2];exact hH.sep b1 b2 k1 k2 hne' h1 h2 hk
 ·by_cases hbn:b=n
  ·left;simp [bU.set,hbn]
  ·rw [aN hbn] at hb;right;exact ⟨b,k,hb,hk,by simp [bU.set,hbn]⟩
theorem fv.Di {P:Program} {D:Nat->Prop} {φ:bU} {H:Hf} {w w':World} {n:Nat} {ks:cy} {rd:List Nat} {r:Result Next} (hks:ks.kY=[])
 (hr:r= .ok (.value (.map (some w.heap.size))) w') (hH:HR D φ H w) (hn: ¬D n) (hw:w'.heap=w.heap.push (.map #[] 0)) (hos:w'.os=w.os) (htape:w'.tape=w.tape) (hout:w'.output=w.output):
 fv P D φ H w n {v:= .m n,n:=n+1,rd,nw:=[(n,{cells:=[],mp:=some ks})]} r:=by
 have hv:aI (Dn D n (n+1)) (φ.set n w.heap.size 0 0) (.m n) (.map (some w.heap.size)):=by
  have:=aI.m (D:=Dn D n (n+1)) (φ:=φ.set n w.heap.size 0 0) n (.inr ⟨bx _,ez _⟩);simpa [bU.set] using this
 refine ⟨φ.set n w.heap.size 0 0,_,_,w',hr,.inl rfl,by show n<=n+1;omega,hv,by rw [pD];exact dR.Di hks hH hn hw hos htape hout,fun b k hb hk=> ?_,fun b r h=>by simp [dH] at h,fun b k h=> ?_⟩
 ·rw [pD] at hb;by_cases hbn:b=n
  ·simp [hbn] at hb;subst hb;simp at hk
  ·simpa [hbn] using hb
 ·simp only [ab] at h;by_cases hbn:Nat.beq n b=true
  ·have:=dC hbn;show n<=b/\b<n+1;omega
  ·simp [hbn] at h
theorem dR.sP {D:Nat->Prop} {φ:bU} {H:Hf} {w w':World} {b:Nat} {k:aW} {es':Array MapEntry} {clk':Nat} {ks':cy} {xs:List AV}
 (hH:HR D φ H w) (hb:H b=some k) (hro:k.ro=false) (hgr:k.gr=none) (hw:w'.heap=w.heap.setIfInBounds (φ.cW b) (.map es' clk'))
 (hos:w'.os=w.os) (htape:w'.tape=w.tape) (hout:w'.output=w.output) (hks:es'.toList.map (·.key)=ks'.kY)
 (hz: ∀(i:Nat) (v:AV),xs[i]? =some v-> ∃e,es'.toList[i]? =some e/\aI D φ v e.val):
 dR D φ H w D φ (fun c=>if c=b then some {k with cells:=xs,mp:=some ks'} else H c) w':=by
 have hlt:=(hH.at_ b k hb).2.lt;have hne: ∀c,c≠φ.cW b->w'.heap[c]? =w.heap[c]? :=fun c hc=>by rw [hw,bM hlt,aN (qg hc)]
 refine dR.mk' hH rfl rfl (fun _ h=>h) (dh.refl D φ).at_ ⟨fun c k' hc=> ?_,fun b1 b2 k1 k2 hne' h1 h2 hk'=> ?_⟩ ⟨hos,htape,hout,by rw [hw];simp,fun c hc hn=>hne c (fun e=>hn b k hb hro e.symm)⟩ fun c k' hc hk'=> ?_
 ·by_cases hcb:c=b
  ·subst hcb;simp at hc;subst hc;obtain ⟨hd,⟨⟨cs0,elem0,fr0,h1,h2,h3,h4⟩,h5⟩⟩:=hH.at_ c k hb;have hoff:=(h3 hro).1 hgr;refine ⟨hd,⟨⟨(es'.toList.map (·.val)).toArray,elem0,(0,0),Fm (es:=es') (clk:=clk') (by rw [hw,bM hlt];simp) rfl hks,fun i v hv=> ?_,fun _=>⟨fun _=>hoff,fun i _=>by omega⟩,fun e he=>by rw [hgr] at he;cases he⟩,h5⟩⟩
   obtain ⟨e,he,hr⟩:=hz i v hv;exact ⟨e.val,by rw [hoff,gv];simp [<-jX,he],hr⟩
  ·rw [aN hcb] at hc;have h':=hH.at_ c k' hc;exact ⟨h'.1,h'.2.mono (fun _ h=>h) (dh.refl _ _) h'.1 (hne _ (fun e=>hH.sep b c k k' (qg hcb) hb hc hro e.symm))⟩
 ·have key: ∀c k',(if c=b then some {k with cells:=xs,mp:=some ks'} else H c)=some k'-> ∃k0,H c=some k0/\k0.ro=k'.ro:=fun c k' hc=>by
   by_cases hcb:c=b
   ·subst hcb;simp at hc;subst hc;exact ⟨k,hb,rfl⟩
   ·rw [aN hcb] at hc;exact ⟨k',hc,rfl⟩
  obtain ⟨KF,g1,r1⟩:=key b1 k1 h1;obtain ⟨F3,g2,r2⟩:=key b2 k2 h2;exact hH.sep b1 b2 KF F3 hne' g1 g2 (r1.trans hk')
 ·by_cases hcb:c=b
  ·subst hcb;exact .inr ⟨c,k,hb,hro,rfl⟩
  ·rw [aN hcb] at hc;exact .inr ⟨c,k',hc,hk',rfl⟩
theorem fv.sP {P:Program} {D:Nat->Prop} {φ:bU} {H:Hf} {w w':World} {n b:Nat} {k:aW} {es':Array MapEntry} {clk':Nat} {ks':cy} {xs:List AV} {v:AV} {u:Value} {nx:Next} {rd:List Nat} {r:Result Next}
 (hr:r= .ok nx w') (hnx:nx= .value u\/(nx= .skip/\u=undef)) (hv:aI D φ v u) (hrd:inl rd b=true)
 (hH:HR D φ H w) (hb:H b=some k) (hro:k.ro=false) (hgr:k.gr=none) (hw:w'.heap=w.heap.setIfInBounds (φ.cW b) (.map es' clk'))
 (hos:w'.os=w.os) (htape:w'.tape=w.tape) (hout:w'.output=w.output) (hks:es'.toList.map (·.key)=ks'.kY)
 (hz: ∀(i:Nat) (v:AV),xs[i]? =some v-> ∃e,es'.toList[i]? =some e/\aI D φ v e.val):
 fv P D φ H w n {v,n,rd,md:=[(b,some {k with cells:=xs,mp:=some ks'})]} r:=by
 have h:=dR.sP hH hb hro hgr hw hos htape hout hks hz;have hd: ∀b,D b->Dn D n n b:=fun b h=> .inl h;have e:Dn D n n=D:=by funext b;exact propext FQ
 refine ⟨φ,u,nx,w',hr,hnx,bx _,hv.mono hd (dh.refl _ _),by rw [pC,e];exact h,fun c k' hc hk'=> ?_,fun c r hc=> ?_,fun b k h=>by simp [ab] at h⟩
 ·rw [pC] at hc;by_cases hcb:c=b
  ·simp [hcb] at hc;subst hc;simp [hro] at hk'
  ·simpa [hcb] using hc
 ·simp only [dH] at hc;by_cases hcb:c=b
  ·subst hcb;exact hrd
  ·simp [bz hcb] at hc
theorem vS (l:List Int):(cy.i l).kY=l.map fun x=> .int .i64 x:=rfl
theorem vo (l:List (List UInt8)):(cy.s l).kY=l.map fun x=> .string ⟨x.toArray⟩:=rfl
theorem xT (κ:IntKind) (x:Int): ∀(es:List MapEntry) (l:List Int) (j:Nat),es.map (·.key)=(cy.i l).kY->Instr.findNow (.int κ) (.int .i64 x) es j=some ((l.findIdx? (x== ·)).bind fun i=>(es[i]?).map fun e=>(j+i,e.val))
 |[],[],j,_=>rfl
 |[],_::_,j,h=>by simp [vS] at h
 |_::_,[],j,h=>by simp [vS] at h
 |e::es,y::l,j,h=>by
  simp only [vS,jU,xF] at h;obtain ⟨h1,h2⟩:=h;simp only [Instr.findNow,h1,Instr.sameNow,cu,List.findIdx?_cons];cases hc:x==y
  ·simp only [cY,bV];rw [xT κ x es l (j+1) h2];cases l.findIdx? (x== ·) with
   |none=>rfl
   |some i=>simp only [fN,aS,wv];rw [im,ur 1 i]
  ·simp
theorem Hk (x y:List UInt8):((⟨x.toArray⟩:ByteArray)==⟨y.toArray⟩)=(x==y):=by
 show (x.toArray==y.toArray)=(x==y);simp
theorem Kg (x:List UInt8):((⟨x.toArray⟩:ByteArray)==⟨x.toArray⟩)=true:=by rw [Hk];simp
theorem yO (x:List UInt8): ∀(es:List MapEntry) (l:List (List UInt8)) (j:Nat),es.map (·.key)=(cy.s l).kY->Instr.findNow .string (.string ⟨x.toArray⟩) es j=some ((l.findIdx? (x== ·)).bind fun i=>(es[i]?).map fun e=>(j+i,e.val))
 |[],[],j,_=>rfl
 |[],_::_,j,h=>by simp [vo] at h
 |_::_,[],j,h=>by simp [vo] at h
 |e::es,y::l,j,h=>by
  simp only [vo,jU,xF] at h;obtain ⟨h1,h2⟩:=h;have hb:((⟨x.toArray⟩:ByteArray)==⟨y.toArray⟩)=(x==y):=by
   exact Hk x y
  simp only [Instr.findNow,h1,Instr.sameNow,hb,List.findIdx?_cons];cases hc:x==y
  ·simp only [cY,bV];rw [yO x es l (j+1) h2];cases l.findIdx? (x== ·) with
   |none=>rfl
   |some i=>simp only [fN,aS,wv];rw [im,ur 1 i]
  ·simp
theorem qY {P:Program} {D:Nat->Prop} {φ:bU} {w:World} {ks:cy} {k:AV} {u:Value} {r:Option Nat} {t:TypeId} {es:List MapEntry} (hf:ks.find k=some r) (ht:ks.ok P t=true) (hk:aI D φ k u) (he:es.map (·.key)=ks.kY):
 (∀b,(Instr.checkKey b 10000 t u).run P w= .ok () w)/\(Instr.findKey t u es).run P w= .ok (r.bind fun i=>(es[i]?).map fun e=>(i,e.val)) w/\(∀i,r=some i-> ∃e,es[i]? =some e/\e.key=u)/\Instr.sameBits 10000 u u=true/\(ks.push k).kY=ks.kY++[u]:=by
 unfold cy.find at hf;split at hf
 ·rename_i l x;cases hf;cases hk;unfold cy.ok at ht;dsimp only at ht;split at ht
  ·rename_i κ hu;have hck: ∀(n:Nat) (b:Bool),(Instr.checkKey b (n+1) t (.int .i64 x)).run P w= .ok () w:=fun n b=>by simp [Instr.checkKey,run_underlying hu]
   have hsb: ∀n:Nat,Instr.sameBits (n+1) (.int .i64 x) (.int .i64 x)=true:=fun n=>by simp [Instr.sameBits]
   refine ⟨hck 9999,?_,fun i hi=> ?_,hsb 9999,by simp [cy.push,cy.kY]⟩
   ·simp only [Instr.findKey,Sem.run_bind,run_underlying hu,Result.andThen_ok,xT κ x es l 0 he,gv,Sem.run_pure]
   ·obtain ⟨hlt,hx,_⟩:=List.findIdx?_eq_some_iff_getElem.1 hi;have hlen:es.length=l.length:=by simpa [vS] using cS List.length he
    have:=cS (fun m=>m[i]?) he;simp only [vS,gF,aY hlt,aY (show i<es.length by omega),fN,aP] at this
    exact ⟨es[i]'(by omega),aY _,by rw [this];congr 1;exact (by simpa using hx:x=l[i]).symm⟩
  ·cases ht
 ·rename_i l x;cases hf;cases hk;unfold cy.ok at ht;dsimp only at ht;split at ht
  ·rename_i hu;have hck: ∀(n:Nat) (b:Bool),(Instr.checkKey b (n+1) t (.string ⟨x.toArray⟩)).run P w= .ok () w:=fun n b=>by simp [Instr.checkKey,run_underlying hu]
   have hsb: ∀n:Nat,Instr.sameBits (n+1) (.string ⟨x.toArray⟩) (.string ⟨x.toArray⟩)=true:=fun n=>by simp [Instr.sameBits,Kg]
   refine ⟨hck 9999,?_,fun i hi=> ?_,hsb 9999,by simp [cy.push,cy.kY]⟩
   ·simp only [Instr.findKey,Sem.run_bind,run_underlying hu,Result.andThen_ok,yO x es l 0 he,gv,Sem.run_pure]
   ·obtain ⟨hlt,hx,_⟩:=List.findIdx?_eq_some_iff_getElem.1 hi;have hlen:es.length=l.length:=by simpa [vo] using cS List.length he
    have:=cS (fun m=>m[i]?) he;simp only [vo,gF,aY hlt,aY (show i<es.length by omega),fN,aP] at this
    exact ⟨es[i]'(by omega),aY _,by rw [this,(by simpa using hx:x=l[i])]⟩
  ·cases ht
 ·cases hf
end Go.Ab
namespace Go.Ab
section
variable {P:Program} {D:Nat->Prop} {φ:bU} {w:World} {n:Nat} {e:Env} {h:Hp} {E:bX}
theorem jy {r:Nat} {es:Array MapEntry} {clk:Nat} (h:w.heap[r]? =some (.map es clk)):(getObj r).run P w= .ok (.map es clk) w:=by simp [getObj,Sem.run,h]
theorem sA {r:Nat} {es:Array MapEntry} {clk:Nat} (o:Obj) (h:w.heap[r]? =some (.map es clk)):(setObj r o).run P w= .ok () {w with heap:=w.heap.setIfInBounds r o}:=by simp [setObj,Sem.run,h]
theorem qI {kd:Nat} {m k:AV} {q:Nat×aW×cy×Option Nat} (hq:uh h kd m k=some q): ∃b,m= .m b/\q.1=b/\ab h b=some q.2.1/\q.2.1.ro=false/\q.2.1.gr=none/\q.2.1.mp=some q.2.2.1/\q.2.2.1.kd=kd/\q.2.2.1.find k=some q.2.2.2:=by
 unfold uh at hq;split at hq
 ·rename_i b;simp only [af] at hq;obtain ⟨K,hK,hq⟩:=hq;split at hq
  ·rename_i ks hr0 hg hm;split at hq
   ·rename_i hb;simp only [af] at hq;obtain ⟨r,hr,hq⟩:=hq;cases hq;exact ⟨b,rfl,rfl,hK,hr0,hg,hm,dC hb,hr⟩
   ·cases hq
  ·cases hq
 ·cases hq
theorem wj {b:Nat} {K:aW} {ks:cy} {rd:List Nat} (hH:HR D φ (only (ab h) rd) w) (hb:inl rd b=true) (hK:ab h b=some K) (hro:K.ro=false) (hg:K.gr=none) (hm:K.mp=some ks):
 only (ab h) rd b=some K/\ ∃es clk,w.heap[φ.cW b]? =some (.map es clk)/\es.toList.map (·.key)=ks.kY/\ ∀(i:Nat) (v:AV),K.cells[i]? =some v-> ∃e,es.toList[i]? =some e/\aI D φ v e.val:=by
 have hkk:only (ab h) rd b=some K:=by rw [ec hb];exact hK
 obtain ⟨_,⟨⟨cs,elem,fr,h1,h2,h3,_⟩,_⟩⟩:=hH.at_ b K hkk;rw [hm] at h1;obtain ⟨es,clk,g1,g2,g3⟩:=Jw h1;refine ⟨hkk,es,clk,g1,g3,fun i v hv=> ?_⟩;obtain ⟨u,hu,hr⟩:=h2 i v hv;rw [(h3 hro).1 hg,gv,<-jX,<-g2,gF,bc] at hu;obtain ⟨e,he,rfl⟩:=hu;exact ⟨e,he,hr⟩
theorem HG {ks:cy} {i:Nat}:(ks.del i).kY=ks.kY.eraseIdx i:=by
 apply lH;intro j;cases ks<;>simp only [cy.del,cy.kY,gF,EW]<;>split<;>rfl
theorem EK {ks:cy} {t:TypeId} {c:Bool} (hs:step (.Qb ks) e h n=some (c,E)) (hks:ks.kY=[]) (hn:n<E.n-> ¬D n) (hH:HR D φ (only (ab h) E.rd) w):
 fv P D φ (only (ab h) E.rd) w n E ((do pure (Next.value (<-Instr.makeMap t none)):Sem Next).run P w):=by
 simp only [step,aP,bq] at hs;obtain ⟨_,rfl⟩:=hs;refine fv.Di (w':=w.alloc (.map #[] 0)) hks ?_ hH (hn (ez n)) rfl rfl rfl rfl;simp [Instr.makeMap]
theorem Fi {kd:Nat} {m k x:cC} {um uk ux:Value} {t kt et:TypeId} {c:Bool} (hs:step (.KB kd m k x) e h n=some (c,E)) (hc:c=true) (ht:P.underlying t=some (.map kt et)) (hkt:p6 P kt=some kd)
 (hm:gi D φ e h m um) (hk:gi D φ e h k uk) (hx:gi D φ e h x ux) (hH:HR D φ (only (ab h) E.rd) w):
 fv P D φ (only (ab h) E.rd) w n E ((do Instr.mapUpdate t um uk ux;pure Next.skip:Sem Next).run P w):=by
 simp only [step,af] at hs;obtain ⟨vm,hvm,vk,hvk,vx,hvx,q,hq,hs⟩:=hs;obtain ⟨b,rfl,hqb,hK,hro,hg,hmp,hkd,hf⟩:=qI hq;obtain ⟨q1,K,ks,r⟩:=q;dsimp only at hqb hK hro hg hmp hkd hf hs;subst hqb;have hmr:=hm _ hvm;cases hmr;have hrd:inl E.rd q1=true:=by
  split at hs<;>cases hs<;>simp [inl]
 obtain ⟨hkk,es,clk,g1,g2,g3⟩:=wj hH hrd hK hro hg hmp;obtain ⟨f1,f2,f3,f4,f5⟩:=qY (P:=P) (w:=w) hf (rL (by rw [hkt,hkd])) (hk _ hvk) g2
 have hget0:=jy (P:=P) g1;split at hs
 ·rename_i i;cases hs;obtain ⟨e0,he0,hkey⟩:=f3 i rfl;have he0':es[i]? =some e0:=by rw [<-jX];exact he0
  have hsz:i<es.size:=(gU.1 he0').1;refine fv.sP (nx:= .skip) (u:=undef) (w':={w with heap:=w.heap.setIfInBounds (φ.cW q1) (.map (es.modify i fun e=>{e with key:=uk,val:=ux}) clk)}) (es':=es.modify i fun e=>{e with key:=uk,val:=ux}) (clk':=clk) ?_ (.inr ⟨rfl,rfl⟩) (aI.bg [] #[] rfl (fun i a u ha=>by simp at ha)) (by simp [inl]) hH hkk hro hg rfl rfl rfl rfl ?_ (fun j v hv=> ?_)
  ·simp only [Instr.mapUpdate,Sem.run_bind,run_underlying ht,Result.andThen_ok,hget0,f1,f2,aS,he0,fN,he0',gq,Instr.keyThatStays,hkey,f4,cu,Sem.run_pure,sA _ g1]
  ·rw [<-g2];apply lH;intro j;simp only [gF,jX,Ci];by_cases hij:i=j
   ·subst hij;simp [he0',hkey]
   ·simp [hij]
  ·rw [yr] at hv;simp only [jX,Ci];by_cases hij:i=j
   ·subst hij;simp only [cu] at hv;split at hv
    ·cases hv;exact ⟨{key:=uk,val:=ux,born:=e0.born},by simp [he0'],hx _ hvx⟩
    ·cases hv
   ·rw [aN hij] at hv;obtain ⟨e1,h1,h2⟩:=g3 j v hv;exact ⟨e1,by rw [aN hij,<-jX];exact h1,h2⟩
 ·simp only [aP,bq] at hs;obtain ⟨hlen,rfl⟩:=hs;rw [hc] at hlen;have hlen:K.cells.length=es.size:=by
   rw [dC hlen,<-cy.Bg,<-g2];simp
  refine fv.sP (nx:= .skip) (u:=undef) (w':={w with heap:=w.heap.setIfInBounds (φ.cW q1) (.map (es.push {key:=uk,val:=ux,born:=clk}) (clk+1))}) (es':=es.push {key:=uk,val:=ux,born:=clk}) (clk':=clk+1) ?_ (.inr ⟨rfl,rfl⟩) (aI.bg [] #[] rfl (fun i a u ha=>by simp at ha)) (by simp [inl]) hH hkk hro hg rfl rfl rfl rfl ?_ (fun j v hv=> ?_)
  ·simp only [Instr.mapUpdate,Sem.run_bind,run_underlying ht,Result.andThen_ok,hget0,f1,f2,Option.bind_none,Sem.run_pure,sA _ g1]
  ·rw [f5,<-g2];simp
  ·rw [p0] at hv;simp only [Array.toList_push];rw [p0,show es.toList.length=K.cells.length by simp [hlen]]
   split at hv
   ·rename_i hj;rw [aM hj];exact g3 j v hv
   ·rename_i hj;rw [aN hj];have:j-K.cells.length=0:=by
     rcases AZ (j-K.cells.length) with h0|h0
     ·exact h0
     ·rw [fM (by simp;omega)] at hv;cases hv
    rw [this] at hv ⊢;simp at hv;subst hv;exact ⟨_,rfl,hx _ hvx⟩
theorem No {kd:Nat} {ok:Bool} {z:AV} {m k:cC} {um uk zv:Value} {t kt et:TypeId} {i:TypeInfo} {c:Bool} (hs:step (.mpG kd ok z m k) e h n=some (c,E)) (ht:P.underlying t=some (.map kt et)) (hkt:p6 P kt=some kd)
 (hi:P.info? et=some i) (hz:i.zero=some zv) (hzz:vZ zv=some z) (hm:gi D φ e h m um) (hk:gi D φ e h k uk) (hH:HR D φ (only (ab h) E.rd) w):
 fv P D φ (only (ab h) E.rd) w n E ((do pure (Next.value (<-Instr.lookup t um uk ok)):Sem Next).run P w):=by
 simp only [step,af] at hs;obtain ⟨vm,hvm,vk,hvk,q,hq,hs⟩:=hs;obtain ⟨b,rfl,hqb,hK,hro,hg,hmp,hkd,hf⟩:=qI hq;obtain ⟨q1,K,ks,r⟩:=q;dsimp only at hqb hK hro hg hmp hkd hf hs;subst hqb;have hmr:=hm _ hvm;cases hmr;have hzr:(zeroValue et).run P w= .ok zv w:=by simp [zeroValue,run_typeInfo hi,hz]
 split at hs
 ·rename_i j;simp only [af,aP,bq] at hs;obtain ⟨v,hv,_,rfl⟩:=hs;obtain ⟨hkk,es,clk,g1,g2,g3⟩:=wj hH (by simp [inl]) hK hro hg hmp
  obtain ⟨f1,f2,f3,f4,f5⟩:=qY (P:=P) (w:=w) hf (rL (by rw [hkt,hkd])) (hk _ hvk) g2
  obtain ⟨e0,he0,hr0⟩:=g3 j v hv;have he0':es[j]? =some e0:=by rw [<-jX];exact he0
  cases ok
  ·refine fv.pure (u:=e0.val) ?_ hH hr0;simp [Instr.lookup,run_underlying ht,jy g1,f1,f2,he0',Result.andThen_ok]
  ·refine fv.pure (u:= .tuple #[e0.val,.bool true]) ?_ hH (aI.By (m:=[e0.val,.bool true]) (.cons hr0 (.cons (.b _) .nil)));simp [Instr.lookup,run_underlying ht,jy g1,f1,f2,he0',Result.andThen_ok]
 ·simp only [aP,bq] at hs;obtain ⟨_,rfl⟩:=hs;obtain ⟨hkk,es,clk,g1,g2,g3⟩:=wj hH (by simp [inl]) hK hro hg hmp
  obtain ⟨f1,f2,f3,f4,f5⟩:=qY (P:=P) (w:=w) hf (rL (by rw [hkt,hkd])) (hk _ hvk) g2
  cases ok
  ·refine fv.pure (u:=zv) ?_ hH (kZ hzz);simp [Instr.lookup,run_underlying ht,jy g1,f1,f2,hzr,Result.andThen_ok]
  ·refine fv.pure (u:= .tuple #[zv,.bool false]) ?_ hH (aI.By (m:=[zv,.bool false]) (.cons (kZ hzz) (.cons (.b _) .nil)));simp [Instr.lookup,run_underlying ht,jy g1,f1,f2,hzr,Result.andThen_ok]
theorem JJ {x:cC} {u:Value} {t tt kt et:TypeId} {c:Bool} (hs:step (.J1 x) e h n=some (c,E)) (ht:P.underlying t=some (.map kt et)) (hx:gi D φ e h x u) (hH:HR D φ (only (ab h) E.rd) w):
 fv P D φ (only (ab h) E.rd) w n E ((do pure (Next.value (<-Builtin.len_ #[t] tt #[u])):Sem Next).run P w):=by
 simp only [step,af] at hs;obtain ⟨v,hv,hs⟩:=hs;have hr:=hx v hv;split at hs
 ·simp only [af] at hs;obtain ⟨K,hK,hs⟩:=hs;split at hs
  ·rename_i b _ _ _ ks hro hg hm;cases hs;cases hr;obtain ⟨hkk,es,clk,g1,g2,g3⟩:=wj hH (by simp [inl]) hK hro hg hm
   have hlen:es.size=ks.len:=by
    have:=cS List.length g2;simpa [cy.Bg] using this
   refine fv.pure (u:= .int .i64 (ks.len:Int)) ?_ hH (.i _ _);simp [Builtin.len_,run_underlying ht,jy g1,goInt,hlen,Result.andThen_ok]
  ·cases hs
 ·cases hs
theorem NP {kd:Nat} {m k:cC} {um uk:Value} {t kt et:TypeId} {tys:Array TypeId} {rt:TypeId} {c:Bool} (hs:step (.mpD kd m k) e h n=some (c,E)) (h0:tys[0]? =some t) (ht:P.underlying t=some (.map kt et)) (hkt:p6 P kt=some kd)
 (hm:gi D φ e h m um) (hk:gi D φ e h k uk) (hH:HR D φ (only (ab h) E.rd) w):
 fv P D φ (only (ab h) E.rd) w n E ((do pure (Next.value (<-Builtin.delete_ tys rt #[um,uk])):Sem Next).run P w):=by
 simp only [step,af] at hs;obtain ⟨vm,hvm,vk,hvk,q,hq,hs⟩:=hs;obtain ⟨b,rfl,hqb,hK,hro,hg,hmp,hkd,hf⟩:=qI hq;obtain ⟨q1,K,ks,r⟩:=q;dsimp only at hqb hK hro hg hmp hkd hf hs;subst hqb;have hmr:=hm _ hvm;cases hmr;have hrd:inl E.rd q1=true:=by split at hs<;>cases hs<;>simp [inl]
 obtain ⟨hkk,es,clk,g1,g2,g3⟩:=wj hH hrd hK hro hg hmp;obtain ⟨f1,f2,f3,f4,f5⟩:=qY (P:=P) (w:=w) hf (rL (by rw [hkt,hkd])) (hk _ hvk) g2
 split at hs
 ·rename_i i;cases hs;obtain ⟨e0,he0,hkey⟩:=f3 i rfl;have he0':es[i]? =some e0:=by rw [<-jX];exact he0
  have hlt:i<es.size:=(gU.1 he0').1;have hel:(es.eraseIdxIfInBounds i).toList=es.toList.eraseIdx i:=by simp [Array.eraseIdxIfInBounds,hlt]
  refine fv.sP (nx:= .value (.tuple #[])) (u:= .tuple #[]) (w':={w with heap:=w.heap.setIfInBounds (φ.cW q1) (.map (es.eraseIdxIfInBounds i) clk)}) (es':=es.eraseIdxIfInBounds i) (clk':=clk) ?_ (.inl rfl) (aI.bg [] #[] rfl (fun i a u ha=>by simp at ha)) (by simp [inl]) hH hkk hro hg rfl rfl rfl rfl ?_ (fun j v hv=> ?_)
  ·simp [Builtin.delete_,h0,run_underlying ht,jy g1,f1,f2,he0',Result.andThen_ok,sA _ g1]
  ·rw [hel,HG,<-g2];apply lH;intro j;simp only [gF,EW];split<;>rfl
  ·rw [hel,EW];rw [EW] at hv;split at hv
   ·rename_i hj;rw [aM hj];exact g3 j v hv
   ·rename_i hj;rw [aN hj];exact g3 (j+1) v hv
 ·cases hs;refine fv.sP (nx:= .value (.tuple #[])) (u:= .tuple #[]) (w':={w with heap:=w.heap.setIfInBounds (φ.cW q1) (.map es clk)}) (es':=es) (clk':=clk) ?_ (.inl rfl) (aI.bg [] #[] rfl (fun i a u ha=>by simp at ha)) (by simp [inl]) hH hkk hro hg rfl rfl rfl rfl g2 g3
  simp [Builtin.delete_,h0,run_underlying ht,jy g1,f1,f2,Result.andThen_ok,sA _ g1]
end
end Go.Ab
