/- Texts laid as one. -/
import Derived.WalkKit
import Derived.KernelRfl
import Derived.Laws.StructEq
import Derived.Lib.AppendZerosOnto
import Derived.MapKept
import Derived.WideKeyRuns
set_option maxRecDepth 100000
set_option maxHeartbeats 20000000
set_option linter.unusedSimpArgs false
set_option linter.unusedVariables false
theorem kA:type_of% @Nat.add_zero:=@Nat.add_zero
theorem HK:type_of% @List.foldl_cons:=@List.foldl_cons
theorem Jx:type_of% @List.findIdx?_cons:=@List.findIdx?_cons
theorem jy:type_of% @List.append_assoc:=@List.append_assoc
theorem yQ:type_of% @List.cons.injEq:=@List.cons.injEq
theorem dC:type_of% @congrArg:=@congrArg
theorem tM:type_of% @of_decide_eq_false:=@of_decide_eq_false
theorem iI:type_of% @Option.map_some:=@Option.map_some
theorem JE:type_of% @Array.getElem?_eq_none:=@Array.getElem?_eq_none
theorem mP:type_of% @Bool.true_and:=@Bool.true_and
theorem Aa:type_of% @List.getElem?_set:=@List.getElem?_set
theorem rE:type_of% @List.drop_eq_getElem_cons:=@List.drop_eq_getElem_cons
theorem Gj:type_of% @decide_eq_false_iff_not:=@decide_eq_false_iff_not
theorem zO:type_of% @List.getElem?_append_left:=@List.getElem?_append_left
theorem bJ:type_of% @List.mem_of_getElem?:=@List.mem_of_getElem?
theorem dh:type_of% @List.append_nil:=@List.append_nil
theorem LK:type_of% @Std.Legacy.Range.forIn_eq_forIn_range':=@Std.Legacy.Range.forIn_eq_forIn_range'
theorem jd:type_of% @List.getD_eq_getElem?_getD:=@List.getD_eq_getElem?_getD
theorem bj:type_of% @List.getElem?_eq_getElem:=@List.getElem?_eq_getElem
theorem av:type_of% @Option.bind_eq_some_iff:=@Option.bind_eq_some_iff
theorem fM:type_of% @Option.getD_some:=@Option.getD_some
theorem iz:type_of% @List.all_cons:=@List.all_cons
theorem j5:type_of% @Bool.false_and:=@Bool.false_and
theorem iQ:type_of% @List.mem_cons_self:=@List.mem_cons_self
theorem C1:type_of% @Nat.lt_of_lt_of_le:=@Nat.lt_of_lt_of_le
theorem Dj:type_of% @Int.fdiv_eq_ediv_of_nonneg:=@Int.fdiv_eq_ediv_of_nonneg
theorem ph:type_of% @Int.emod_nonneg:=@Int.emod_nonneg
theorem fJ:type_of% @List.map_cons:=@List.map_cons
theorem Cd:type_of% @List.nodup_nil:=@List.nodup_nil
theorem aY:type_of% @if_neg:=@if_neg
theorem vJ:type_of% @Nat.succ_mul:=@Nat.succ_mul
theorem gG:type_of% @Bool.not_eq_true':=@Bool.not_eq_true'
theorem mj:type_of% @Nat.add_assoc:=@Nat.add_assoc
theorem zi:type_of% @Prod.mk.inj:=@Prod.mk.inj
theorem gw:type_of% @Nat.lt_succ_self:=@Nat.lt_succ_self
theorem qj:type_of% @decide_true:=@decide_true
theorem cM:type_of% @if_true:=@if_true
theorem mA:type_of% @Bool.or_eq_true:=@Bool.or_eq_true
theorem Fq:type_of% @Array.getElem?_toList:=@Array.getElem?_toList
theorem dN:type_of% @List.take_of_length_le:=@List.take_of_length_le
theorem oE:type_of% @List.drop_of_length_le:=@List.drop_of_length_le
theorem rG:type_of% @Array.getD_eq_getD_getElem?:=@Array.getD_eq_getD_getElem?
theorem hJ:type_of% @List.mem_cons_of_mem:=@List.mem_cons_of_mem
theorem zx:type_of% @Nat.zero_mul:=@Nat.zero_mul
theorem ee:type_of% @Nat.eq_of_beq_eq_true:=@Nat.eq_of_beq_eq_true
theorem dP:type_of% @if_false:=@if_false
theorem CA:type_of% @beq_eq_false_iff_ne:=@beq_eq_false_iff_ne
theorem jW:type_of% @Bool.and_true:=@Bool.and_true
theorem s5:type_of% @Ne.symm:=@Ne.symm
theorem tJ:type_of% @Bool.not_true:=@Bool.not_true
theorem vN:type_of% @Nat.add_comm:=@Nat.add_comm
theorem ik:type_of% @beq_iff_eq:=@beq_iff_eq
theorem yq:type_of% @List.size_toArray:=@List.size_toArray
theorem kJ:type_of% @List.getElem?_take:=@List.getElem?_take
theorem Fj:type_of% @List.set_append_right:=@List.set_append_right
theorem vC:type_of% @List.mem_range:=@List.mem_range
theorem vp:type_of% @Bool.false_or:=@Bool.false_or
theorem fy:type_of% @Nat.zero_add:=@Nat.zero_add
theorem oD:type_of% @List.take_zero:=@List.take_zero
theorem Cy:type_of% @Option.some.inj:=@Option.some.inj
theorem vE:type_of% @List.getElem?_append_right:=@List.getElem?_append_right
theorem kG:type_of% @Bool.not_eq_true:=@Bool.not_eq_true
theorem ig:type_of% @List.length_map:=@List.length_map
theorem lu:type_of% @List.getElem?_eq_none:=@List.getElem?_eq_none
theorem tG:type_of% @List.drop_drop:=@List.drop_drop
theorem lP:type_of% @Bool.and_eq_true_iff:=@Bool.and_eq_true_iff
theorem FK:type_of% @List.take_succ_cons:=@List.take_succ_cons
theorem x7:type_of% @Option.toList_some:=@Option.toList_some
theorem sO:type_of% @List.length_pos_iff:=@List.length_pos_iff
theorem mC:type_of% @Bool.and_false:=@Bool.and_false
theorem af:type_of% @decide_eq_true:=@decide_eq_true
theorem j3:type_of% @Int.toNat_natCast:=@Int.toNat_natCast
theorem ei:type_of% @Bool.false_eq_true:=@Bool.false_eq_true
theorem vH:type_of% @Nat.mul_le_mul_right:=@Nat.mul_le_mul_right
theorem gi:type_of% @Nat.add_mul:=@Nat.add_mul
theorem du:type_of% @List.all_eq_true:=@List.all_eq_true
theorem tF:type_of% @Option.getD_none:=@Option.getD_none
theorem xU:type_of% @Nat.lt_succ_iff_lt_or_eq:=@Nat.lt_succ_iff_lt_or_eq
theorem ak:type_of% @Bool.and_eq_true:=@Bool.and_eq_true
theorem jh:type_of% @List.take_length:=@List.take_length
theorem bK:type_of% @Option.map_eq_some_iff:=@Option.map_eq_some_iff
theorem aG:type_of% @Bool.and_self:=@Bool.and_self
theorem jY:type_of% @List.take_add_one:=@List.take_add_one
theorem Gb:type_of% @List.contains_iff_mem:=@List.contains_iff_mem
theorem bw:type_of% @decide_eq_false:=@decide_eq_false
theorem xv:type_of% @Int.le_refl:=@Int.le_refl
theorem nk:type_of% @List.ext_getElem?:=@List.ext_getElem?
theorem ez:type_of% @List.cons_append:=@List.cons_append
theorem zS:type_of% @Bool.or_true:=@Bool.or_true
theorem bg:type_of% @decide_eq_true_eq:=@decide_eq_true_eq
theorem tx:type_of% @Option.isSome_iff_exists:=@Option.isSome_iff_exists
theorem xn:type_of% @List.mem_append:=@List.mem_append
theorem GO:type_of% @List.replicate_succ:=@List.replicate_succ
theorem di:type_of% @Nat.mul_one:=@Nat.mul_one
theorem Dd:type_of% @Nat.add_sub_cancel:=@Nat.add_sub_cancel
theorem C3:type_of% @List.pairwise_iff_getElem:=@List.pairwise_iff_getElem
theorem kE:type_of% @Array.getElem?_eq_some_iff:=@Array.getElem?_eq_some_iff
theorem rh:type_of% @Bool.eq_iff_iff:=@Bool.eq_iff_iff
theorem oA:type_of% @List.getElem?_drop:=@List.getElem?_drop
theorem tC:type_of% @List.nodup_cons:=@List.nodup_cons
theorem fP:type_of% @List.length_nil:=@List.length_nil
theorem dX:type_of% @List.getElem?_map:=@List.getElem?_map
theorem pY:type_of% @Nat.min_eq_left:=@Nat.min_eq_left
theorem aI:type_of% @Option.some.injEq:=@Option.some.injEq
theorem su:type_of% @List.getElem?_cons_succ:=@List.getElem?_cons_succ
theorem oP:type_of% @Nat.le_trans:=@Nat.le_trans
theorem fY:type_of% @List.length_take:=@List.length_take
theorem rZ:type_of% @List.drop_length:=@List.drop_length
theorem aT:type_of% @if_pos:=@if_pos
theorem dk:type_of% @List.drop_zero:=@List.drop_zero
theorem eV:type_of% @Nat.lt_or_ge:=@Nat.lt_or_ge
theorem kl:type_of% @Bool.not_false:=@Bool.not_false
theorem gP:type_of% @List.mem_cons:=@List.mem_cons
theorem fq:type_of% @List.eq_nil_of_length_eq_zero:=@List.eq_nil_of_length_eq_zero
theorem gF:type_of% @List.getElem?_of_mem:=@List.getElem?_of_mem
theorem o8:type_of% @and_self:=@and_self
theorem bN:type_of% @of_decide_eq_true:=@of_decide_eq_true
theorem uA:type_of% @List.mem_take_iff_getElem:=@List.mem_take_iff_getElem
theorem BF:type_of% @Option.isNone_iff_eq_none:=@Option.isNone_iff_eq_none
theorem jr:type_of% @List.take_append_drop:=@List.take_append_drop
theorem lI:type_of% @true_and:=@true_and
theorem bx:type_of% @Nat.le_refl:=@Nat.le_refl
theorem ju:type_of% @List.all_nil:=@List.all_nil
theorem e9:type_of% @and_true:=@and_true
theorem fA:type_of% @Int.tmod_eq_emod_of_nonneg:=@Int.tmod_eq_emod_of_nonneg
theorem aC:type_of% @Option.bind_some:=@Option.bind_some
theorem rL:type_of% @Nat.mod_eq_of_lt:=@Nat.mod_eq_of_lt
theorem mM:type_of% @List.getElem?_append:=@List.getElem?_append
theorem cv:type_of% @List.getElem?_eq_some_iff:=@List.getElem?_eq_some_iff
theorem AQ:type_of% @List.findIdx?_eq_some_iff_getElem:=@List.findIdx?_eq_some_iff_getElem
theorem cm:type_of% @List.length_append:=@List.length_append
theorem cr:type_of% @Nat.zero_le:=@Nat.zero_le
theorem yt:type_of% @List.length_drop:=@List.length_drop
theorem pD:type_of% @Nat.one_mul:=@Nat.one_mul
theorem mK:type_of% @Int.emod_lt_of_pos:=@Int.emod_lt_of_pos
theorem uU:type_of% @List.length_singleton:=@List.length_singleton
theorem aV:type_of% @Prod.mk.injEq:=@Prod.mk.injEq
namespace Go.Ab
inductive AV where
 |b (x:Bool)
 |i (k:IntKind) (n:Int)
 |s (l:List UInt8)
 |np
 |p (b o:Nat)
 |ns
 |sl (b o len cap:Nat)
 |sg (b o len:Nat)
 |fn (f:FuncId) (caps:List AV)
 |bm (f:FuncId) (first:List AV)
 |nf
 |ni
 |agg (l:List AV)
 |bz (l:List AV)
 |fz (l:List AV) (n:Nat)
 |fp (l:List AV) (k:Nat)
 |ze
 |en
 |any
 |yl (L:Nat) (r:Go.Loop) (ts:List Nat) (l:List AV)
 |k (t:TypeId) (v:Value)
 |m (b:Nat)
 |nm
instance:Inhabited AV:=⟨.np⟩
structure bP where
 cI:Nat->Nat
 off:Nat->Nat
 cap:Nat->Nat
 fO:Nat->Nat
 fz:Nat->Option (Array Value):=λ_=>none
 lp:Nat->Option Go.Loop:=λ_=>none
structure cT (D:Nat->Prop) (φ φ':bP):Prop where
 at_: ∀b,D b->φ'.cI b=φ.cI b/\φ'.off b=φ.off b/\φ'.cap b=φ.cap b/\φ'.fO b=φ.fO b
 fz: ∀B vs,φ.fz B=some vs->φ'.fz B=some vs
 lp:φ'.lp=φ.lp
instance {D:Nat->Prop} {φ φ':bP}:CoeFun (cT D φ φ') (λ_=> ∀b,D b->φ'.cI b=φ.cI b/\φ'.off b=φ.off b/\φ'.cap b=φ.cap b/\φ'.fO b=φ.fO b):=⟨cT.at_⟩
def YB:Nat:=1099511627776
inductive aK (D:Nat->Prop) (φ:bP):AV->Value->Prop
 |b (x:Bool):aK D φ (.b x) (.bool x)
 |i (k:IntKind) (n:Int):aK D φ (.i k n) (.int k n)
 |s (l:List UInt8):aK D φ (.s l) (.string ⟨l.toArray⟩)
 |np:aK D φ .np (.pointer none)
 |p (b o:Nat) (h:D b):aK D φ (.p b o) (.pointer (some ⟨φ.cI b,φ.off b+o,none⟩))
 |ns:aK D φ .ns (.slice none 0 0)
 |sl (b o len cap:Nat) (h:D b):aK D φ (.sl b o len cap) (.slice (some ⟨φ.cI b,φ.off b+o,none⟩) len cap)
 |sg (b o len j cap:Nat) (h:D b) (hj:j*φ.fO b=o) (hc:j+cap=φ.cap b) (hl:len<=cap):
  aK D φ (.sg b o len) (.slice (some ⟨φ.cI b,φ.off b+o,none⟩) len cap)
 |fn (f:FuncId) (l:List AV) (cs:Array Value) (hf:f≠YB) (hl:l.length=cs.size) (h: ∀(i:Nat) (a:AV) (u:Value),l[i]? =some a->cs[i]? =some u->aK D φ a u):
  aK D φ (.fn f l) (.func (.func f) #[] cs)
 |bm (f:FuncId) (l:List AV) (cs:Array Value) (hf:f≠YB) (hl:l.length=cs.size) (h: ∀(i:Nat) (a:AV) (u:Value),l[i]? =some a->cs[i]? =some u->aK D φ a u):
  aK D φ (.bm f l) (.func (.func f) cs #[])
 |nf:aK D φ .nf .nilFunc
 |ni:aK D φ .ni .nilIface
 |agg (l:List AV) (cs:Array Value) (hl:l.length=cs.size) (h: ∀(i:Nat) (a:AV) (u:Value),l[i]? =some a->cs[i]? =some u->aK D φ a u):
  aK D φ (.agg l) (.agg cs)
 |bz (l:List AV) (cs:Array Value) (hl:l.length=cs.size) (h: ∀(i:Nat) (a:AV) (u:Value),l[i]? =some a->cs[i]? =some u->aK D φ a u):
  aK D φ (.bz l) (.tuple cs)
 |fz (l:List AV) (n B o cap:Nat) (vs:Array Value) (hB:φ.fz B=some vs) (hc:n<=cap) (hs: ∀i,i<l.length->o+i<vs.size) (h: ∀(i:Nat) (a:AV) (u:Value),l[i]? =some a->vs[o+i]? =some u->aK D φ a u):
  aK D φ (.fz l n) (.slice (some ⟨B,o,none⟩) n cap)
 |nS (l:List AV) (x:Option Addr) (cap:Nat) (hc:x=none->cap=0):aK D φ (.fz l 0) (.slice x 0 cap)
 |fp (l:List AV) (k B o:Nat) (vs:Array Value) (hB:φ.fz B=some vs) (hs: ∀i,i<l.length->o+i<vs.size) (h: ∀(i:Nat) (a:AV) (u:Value),l[i]? =some a->vs[o+i]? =some u->aK D φ a u):
  aK D φ (.fp l k) (.pointer (some ⟨B,o+k,none⟩))
 |ze (x:Option Addr):aK D φ .ze (.slice x 0 0)
 |en (x:Addr) (cap:Nat):aK D φ .en (.slice (some x) 0 cap)
 |any (u:Value):aK D φ .any u
 |yl (L:Nat) (r:Go.Loop) (ts:List Nat) (l:List AV) (hL:φ.lp L=some r) (h: ∀(i t:Nat) (a:AV),ts[i]? =some t->l[i]? =some a->aK D φ a (r.tmps.getD t undef)):aK D φ (.yl L r ts l) (.func (.yield L) #[] #[])
 |k (t:TypeId) (v:Value):aK D φ (.k t v) (.iface t v)
 |m (b:Nat) (h:D b):aK D φ (.m b) (.map (some (φ.cI b)))
 |nm:aK D φ .nm (.map none)
theorem aK.vz {D D':Nat->Prop} {φ φ':bP} (hD: ∀b,D b->D' b) (hφ: ∀b,D b->φ'.cI b=φ.cI b/\φ'.off b=φ.off b/\φ'.cap b=φ.cap b/\φ'.fO b=φ.fO b) (hz: ∀B vs,φ.fz B=some vs->φ'.fz B=some vs) (hl: ∀L r,φ.lp L=some r->φ'.lp L=some r) {v:AV} {u:Value} (h:aK D φ v u):aK D' φ' v u:=by
 induction h with
 |b x=>exact .b x
 |i k n=>exact .i k n
 |s l=>exact .s l
 |np=>exact .np
 |p b o h=>obtain ⟨h1,h2,_,_⟩:=hφ b h;rw [<-h1,<-h2];exact .p b o (hD b h)
 |ns=>exact .ns
 |sl b o len cap h=>obtain ⟨h1,h2,_,_⟩:=hφ b h;rw [<-h1,<-h2];exact .sl b o len cap (hD b h)
 |sg b o len j cap h hj hc hl=>obtain ⟨h1,h2,h3,h4⟩:=hφ b h;rw [<-h1,<-h2];exact .sg b o len j cap (hD b h) (by grind) (by omega) hl
 |fn f l cs hf hl h ih=>exact .fn f l cs hf hl ih
 |bm f l cs hf hl h ih=>exact .bm f l cs hf hl ih
 |nf=>exact .nf
 |ni=>exact .ni
 |agg l cs hl h ih=>exact .agg l cs hl ih
 |bz l cs hl h ih=>exact .bz l cs hl ih
 |fz l n B o cap vs hB hc hs h ih=>exact .fz l n B o cap vs (hz _ _ hB) hc hs ih
 |nS l x cap hc=>exact .nS l x cap hc
 |fp l k B o vs hB hs h ih=>exact .fp l k B o vs (hz _ _ hB) hs ih
 |ze x=>exact .ze x
 |en x cap=>exact .en x cap
 |any u=>exact .any u
 |yl L r ts l hL h ih=>exact .yl L r ts l (hl _ _ hL) ih
 |k t v=>exact .k t v
 |m b h=>obtain ⟨h1,_⟩:=hφ b h;rw [<-h1];exact .m b (hD b h)
 |nm=>exact .nm
theorem aK.mono {D D':Nat->Prop} {φ φ':bP} (hD: ∀b,D b->D' b) (hφ:cT D φ φ') {v:AV} {u:Value} (h:aK D φ v u):aK D' φ' v u:=
 h.vz hD hφ.at_ hφ.fz (λL r hL=>by rw [hφ.lp];exact hL)
def cw (D:Nat->Prop) (φ:bP) (l:List AV) (m:List Value):Prop:=
 l.length=m.length/\ ∀(i:Nat) (a:AV) (u:Value),l[i]? =some a->m[i]? =some u->aK D φ a u
theorem cw.nil {D:Nat->Prop} {φ:bP}:cw D φ [] []:=⟨rfl,λi a u h=>by simp at h⟩
theorem cw.cons {D:Nat->Prop} {φ:bP} {a:AV} {u:Value} {l:List AV} {m:List Value} (h:aK D φ a u) (t:cw D φ l m):cw D φ (a::l) (u::m):=by
 refine ⟨by simp [t.1],λi x y hx hy=> ?_⟩
 cases i with
 |zero=>simp at hx hy;subst hx;subst hy;exact h
 |succ i=>simp at hx hy;exact t.2 i x y hx hy
theorem cw.eB {D:Nat->Prop} {φ:bP} {a:AV} {l:List AV} {m:List Value} (h:cw D φ (a::l) m): ∃u m',m=u::m'/\aK D φ a u/\cw D φ l m':=by
 cases m with
 |nil=>have:=h.1;simp at this
 |cons u m'=>
  refine ⟨u,m',rfl,h.2 0 a u (by simp) (by simp),by have:=h.1;grind,λi x y hx hy=>h.2 (i+1) x y (by grind) (by grind)⟩
theorem cw.mq {D:Nat->Prop} {φ:bP} {m:List Value} (h:cw D φ [] m):m=[]:=by
 cases m with
 |nil=>rfl
 |cons u m'=>have:=h.1;simp at this
theorem cw.mono {D D':Nat->Prop} {φ φ':bP} (hD: ∀b,D b->D' b) (hφ:cT D φ φ') {l:List AV} {m:List Value} (h:cw D φ l m):cw D' φ' l m:=
 ⟨h.1,λi a u ha hu=>(h.2 i a u ha hu).mono hD hφ⟩
theorem cw.get {D:Nat->Prop} {φ:bP} {l:List AV} {m:List Value} (h:cw D φ l m) {i:Nat} {a:AV} (ha:l[i]? =some a): ∃u,m[i]? =some u/\aK D φ a u:=by
 have hi:i<l.length:=by
  grind
 have hm:i<m.length:=by rw [<-h.1];exact hi
 exact ⟨m[i],by simp [hm],h.2 i a _ ha (by simp [hm])⟩
theorem cw.append {D:Nat->Prop} {φ:bP} {l l':List AV} {m m':List Value} (h:cw D φ l m) (h':cw D φ l' m'):cw D φ (l++l') (m++m'):=by
 refine ⟨by simp [h.1,h'.1],λi a u ha hu=> ?_⟩
 by_cases hi:i<l.length
 ·rw [zO hi] at ha;rw [zO (by rw [<-h.1];exact hi)] at hu
  exact h.2 i a u ha hu
 ·rw [vE (by omega)] at ha
  rw [vE (by rw [<-h.1];omega),<-h.1] at hu
  exact h'.2 _ a u ha hu
theorem cw.drop {D:Nat->Prop} {φ:bP} {l:List AV} {m:List Value} (n:Nat) (h:cw D φ l m):cw D φ (l.drop n) (m.drop n):=
 ⟨by simp [h.1],λi a u ha hu=>h.2 (n+i) a u (by grind) (by grind)⟩
theorem cw.take {D:Nat->Prop} {φ:bP} {l:List AV} {m:List Value} (n:Nat) (h:cw D φ l m):cw D φ (l.take n) (m.take n):=by
 refine ⟨by simp [h.1],λi a u ha hu=> ?_⟩
 rw [kJ] at ha hu;split at ha
 ·rename_i hi;rw [aT hi] at hu;exact h.2 i a u ha hu
 ·cases ha
theorem cw.set {D:Nat->Prop} {φ:bP} {l:List AV} {m:List Value} {j:Nat} {x:AV} {y:Value} (h:cw D φ l m) (hx:aK D φ x y):cw D φ (l.set j x) (m.set j y):=by
 refine ⟨by simp [h.1],λi a u ha hu=> ?_⟩
 rw [Aa] at ha hu;by_cases hij:j=i
 ·grind
 ·rw [aY hij] at ha hu;exact h.2 i a u ha hu
theorem aK.wb {D:Nat->Prop} {φ:bP} {l:List AV} {m:List Value} (h:cw D φ l m):aK D φ (.agg l) (.agg m.toArray):=
 .agg l m.toArray (by simp [h.1]) (λi a u ha hu=>h.2 i a u ha (by grind))
theorem aK.Dc {D:Nat->Prop} {φ:bP} {l:List AV} {m:List Value} (h:cw D φ l m):aK D φ (.bz l) (.tuple m.toArray):=
 .bz l m.toArray (by simp [h.1]) (λi a u ha hu=>h.2 i a u ha (by grind))
theorem aK.fn' {D:Nat->Prop} {φ:bP} {f:FuncId} {l:List AV} {m:List Value} (hf:f≠YB) (h:cw D φ l m):aK D φ (.fn f l) (.func (.func f) #[] m.toArray):=
 .fn f l m.toArray hf (by simp [h.1]) (λi a u ha hu=>h.2 i a u ha (by grind))
theorem aK.oh {D:Nat->Prop} {φ:bP} {l:List AV} {u:Value} (h:aK D φ (.agg l) u): ∃m:List Value,u= .agg m.toArray/\cw D φ l m:=by
 cases h with
 |agg _ cs hl h=>exact ⟨cs.toList,rfl,by omega,λi a u ha hu=>h i a u ha (by grind)⟩
theorem aK.Fe {D:Nat->Prop} {φ:bP} {l:List AV} {u:Value} (h:aK D φ (.bz l) u): ∃m:List Value,u= .tuple m.toArray/\cw D φ l m:=by
 cases h with
 |bz _ cs hl h=>exact ⟨cs.toList,rfl,by omega,λi a u ha hu=>h i a u ha (by grind)⟩
theorem aK.bm' {D:Nat->Prop} {φ:bP} {f:FuncId} {l:List AV} {m:List Value} (hf:f≠YB) (h:cw D φ l m):aK D φ (.bm f l) (.func (.func f) m.toArray #[]):=
 .bm f l m.toArray hf (by simp [h.1]) (λi a u ha hu=>h.2 i a u ha (by grind))
theorem aK.Xc {D:Nat->Prop} {φ:bP} {f:FuncId} {l:List AV} {u:Value} (h:aK D φ (.bm f l) u):f≠YB/\ ∃m:List Value,u= .func (.func f) m.toArray #[]/\cw D φ l m:=by
 cases h with
 |bm _ _ cs hf hl h=>exact ⟨hf,cs.toList,rfl,by omega,λi a u ha hu=>h i a u ha (by grind)⟩
theorem aK.yd {D:Nat->Prop} {φ:bP} {f:FuncId} {l:List AV} {u:Value} (h:aK D φ (.fn f l) u):f≠YB/\ ∃m:List Value,u= .func (.func f) #[] m.toArray/\cw D φ l m:=by
 cases h with
 |fn _ _ cs hf hl h=>exact ⟨hf,cs.toList,rfl,by omega,λi a u ha hu=>h i a u ha (by grind)⟩
inductive bL where
 |i (l:List Int)
 |s (l:List (List UInt8))
 |a (l:List (Int×Int))
def bL.jL:bL->List Value
 | .i l=>l.map λx=> .int .i64 x
 | .s l=>l.map λx=> .string ⟨x.toArray⟩
 | .a l=>l.map λx=> .agg #[.int .i64 x.1,.int .i64 x.2]
structure bp where
 cells:List AV
 ro:Bool:=false
 gr:Option Nat:=none
 gid:Option Nat:=none
 mp:Option bL:=none
abbrev Hf:=Nat->Option bp
def bL.find:bL->AV->Option (Option Nat)
 | .i l,.i .i64 x=> .some (l.findIdx? (x== ·))
 | .s l,.s x=> .some (l.findIdx? (x== ·))
 | .a l,.agg [.i .i64 x,.i .i64 y]=> .some (l.findIdx? ((x,y)== ·))
 |_,_=>none
def bL.push:bL->AV->bL
 | .i l,.i _ x=> .i (l++[x])
 | .s l,.s x=> .s (l++[x])
 | .a l,.agg [.i _ x,.i _ y]=> .a (l++[(x,y)])
 |ks,_=>ks
def bL.del:bL->Nat->bL
 | .i l,j=> .i (l.eraseIdx j)
 | .s l,j=> .s (l.eraseIdx j)
 | .a l,j=> .a (l.eraseIdx j)
def bL.len:bL->Nat
 | .i l=>l.length
 | .s l=>l.length
 | .a l=>l.length
theorem bL.CP (ks:bL):ks.jL.length=ks.len:=by cases ks<;>simp [bL.jL,bL.len]
def bL.kd:bL->Nat
 | .i _=>0
 | .s _=>1
 | .a _=>2
def Kn (P:Program) (t:TypeId):Bool:=match P.underlying t with
 |some (.array 2 e)=>(match P.underlying e,P.info? e with
  |some (.int _),some i=>Nat.beq i.size 1
  |_,_=>false)
 |_=>false
def rC (P:Program) (t:TypeId):Option Nat:=match P.underlying t with
 |some (.int _)=>some 0
 |some .string=>some 1
 |some (.array _ _)=>bif Kn P t then some 2 else none
 |_=>none
def bL.ok (P:Program) (t:TypeId):bL->Bool
 | .i _=>match P.underlying t with
  |some (.int _)=>true
  |_=>false
 | .s _=>match P.underlying t with
  |some .string=>true
  |_=>false
 | .a _=>Kn P t
theorem sM {P:Program} {t:TypeId} {ks:bL} (h:rC P t=some ks.kd):ks.ok P t=true:=by
 unfold rC at h;split at h
 ·rename_i hu;cases ks<;>simp [bL.kd] at h;simp [bL.ok,hu]
 ·rename_i hu;cases ks<;>simp [bL.kd] at h;simp [bL.ok,hu]
 ·cases hk:Kn P t
  ·rw [hk] at h;cases h
  ·rw [hk] at h;cases ks<;>simp [bL.kd] at h;exact hk
 ·cases h
def rP (mp:Option bL) (o:Option Obj) (cs:Array Value) (elem:TypeId) (fr:Nat×Nat):Prop:=
 match mp with
 |none=>o=some (.cells cs elem fr)
 |some ks=> ∃es clk,o=some (.map es clk)/\es.toList.map (·.val)=cs.toList/\es.toList.map (·.key)=ks.jL
theorem rP.cells {mp:Option bL} {o:Option Obj} {cs:Array Value} {elem:TypeId} {fr:Nat×Nat} (h:rP mp o cs elem fr) (hm:mp=none):o=some (.cells cs elem fr):=by subst hm;exact h
theorem rP.mk {mp:Option bL} {o:Option Obj} {cs:Array Value} {elem:TypeId} {fr:Nat×Nat} (hm:mp=none) (h:o=some (.cells cs elem fr)):rP mp o cs elem fr:=by subst hm;exact h
theorem rP.of {mp:Option bL} {o:Option Obj} {cs cs0:Array Value} {elem elem0:TypeId} {fr fr0:Nat×Nat} (h:rP mp o cs0 elem0 fr0) (ho:o=some (.cells cs elem fr)):mp=none/\cs=cs0/\elem=elem0/\fr=fr0:=by
 unfold rP at h
 grind
theorem rP.some {mp:Option bL} {o:Option Obj} {cs:Array Value} {elem:TypeId} {fr:Nat×Nat} (h:rP mp o cs elem fr): ∃x,o= .some x/\(∀r,x≠ .loop r):=by
 unfold rP at h
 grind
structure Ew (D:Nat->Prop) (φ:bP) (w:World) (b:Nat) (k:bp):Prop where
 ex: ∃cs elem fr,rP k.mp (w.heap[φ.cI b]?) cs elem fr∧
  (∀(i:Nat) (v:AV),k.cells[i]? =some v-> ∃u,cs[φ.off b+i]? =some u/\aK D φ v u)∧
  (k.ro=false->(k.gr=none->φ.off b=0)/\ ∀i,(i<cs.size\/i=cs.size/\k.gr≠some 1)-> ¬(fr.1<=i/\i<fr.2))∧
  (∀e,k.gr=some e->k.ro=false/\φ.fO b=e/\cs.size=φ.off b+φ.cap b*e)
 gid: ∀g,k.gid=some g->φ.cI b=g/\φ.off b=0
structure HR0 (D:Nat->Prop) (φ:bP) (H:Hf) (w:World):Prop where
 at_: ∀b k,H b=some k->D b/\Ew D φ w b k
 sep: ∀b1 b2 k1 k2,b1≠b2->H b1=some k1->H b2=some k2->k1.ro=false->φ.cI b1≠φ.cI b2
structure HR (D:Nat->Prop) (φ:bP) (H:Hf) (w:World):Prop extends HR0 D φ H w where
 fz: ∀B vs,φ.fz B=some vs-> ∃elem fr,w.heap[B]? =some (.cells vs elem fr)
 lp: ∀L r,φ.lp L=some r->w.heap[L]? =some (.loop r)
 lS: ∀b k B vs,H b=some k->k.ro=false->φ.fz B=some vs->φ.cI b≠B
structure GN (H:Hf) (φ:bP) (w w':World):Prop where
 os:w'.os=w.os
 tape:w'.tape=w.tape
 output:w'.output=w.output
 size:w.heap.size<=w'.heap.size
 block: ∀c,c<w.heap.size->(∀b k,H b=some k->k.ro=false->φ.cI b≠c)->w'.heap[c]? =w.heap[c]?
structure dU (D:Nat->Prop) (φ:bP) (H:Hf) (w:World) (D':Nat->Prop) (φ':bP) (H':Hf) (w':World):Prop where
 sub: ∀b,D b->D' b
 agree:cT D φ φ'
 hr:HR D' φ' H' w'
 eF:GN H φ w w'
 qL: ∀b k,H' b=some k->k.ro=false->w.heap.size<=φ'.cI b\/ ∃m km,H m=some km/\km.ro=false/\φ.cI m=φ'.cI b
 kj: ∀B vs,φ'.fz B=some vs->φ.fz B=some vs\/(w.heap.size<=B\/ ∃m km,H m=some km/\km.ro=false/\φ.cI m=B)
theorem cT.refl (D:Nat->Prop) (φ:bP):cT D φ φ:=⟨λ_ _=>⟨rfl,rfl,rfl,rfl⟩,λ_ _ h=>h,rfl⟩
theorem cT.trans {D D':Nat->Prop} {φ φ' φ'':bP} (hs: ∀b,D b->D' b) (h:cT D φ φ') (h':cT D' φ' φ''):cT D φ φ'':=⟨λb hb=>by
 obtain ⟨a1,a2,a3,a4⟩:=h b hb;obtain ⟨b1,b2,b3,b4⟩:=h' b (hs b hb);omega,λB vs hB=>h'.fz B vs (h.fz B vs hB),h'.lp.trans h.lp⟩
theorem GN.refl (H:Hf) (φ:bP) (w:World):GN H φ w w:=⟨rfl,rfl,rfl,bx _,λ_ _ _=>rfl⟩
theorem Ew.lt {D:Nat->Prop} {φ:bP} {w:World} {b:Nat} {k:bp} (h:Ew D φ w b k):φ.cI b<w.heap.size:=by
 obtain ⟨⟨cs,elem,fr,h1,_⟩,_⟩:=h;rcases eV (φ.cI b) w.heap.size with h'|h'
 ·exact h'
 ·obtain ⟨x,h2,_⟩:=h1.some
  grind
theorem Ew.mono {D D':Nat->Prop} {φ φ':bP} {w w':World} {b:Nat} {k:bp} (hD: ∀b,D b->D' b) (hφ:cT D φ φ') (hb:D b) (hw:w'.heap[φ.cI b]? =w.heap[φ.cI b]?)
 (h:Ew D φ w b k):Ew D' φ' w' b k:=by
 obtain ⟨⟨cs,elem,fr,h1,h2,h3,h4⟩,h5⟩:=h;obtain ⟨e1,e2,e3,e4⟩:=hφ b hb;refine ⟨⟨cs,elem,fr,by grind,λi v hv=> ?_,λhr=>by grind,λe he=>by grind⟩,λg hg=>by grind⟩
 obtain ⟨u,hu,hvu⟩:=h2 i v hv;exact ⟨u,by grind,hvu.mono hD hφ⟩
theorem HR.sub {D:Nat->Prop} {φ:bP} {H H':Hf} {w:World} (h:HR D φ H w) (hs: ∀b k,H' b=some k->H b=some k):HR D φ H' w:=
 ⟨⟨λb k hb=>h.at_ b k (hs b k hb),λb1 b2 k1 k2 hne h1 h2 hk=>h.sep b1 b2 k1 k2 hne (hs _ _ h1) (hs _ _ h2) hk⟩,h.fz,h.lp,λb k B vs hb hk hB=>h.lS b k B vs (hs _ _ hb) hk hB⟩
theorem HR.world {D:Nat->Prop} {φ:bP} {H:Hf} {w w':World} (h:HR D φ H w) (hw:w'.heap=w.heap):HR D φ H w':=
 ⟨⟨λb k hb=>⟨(h.at_ b k hb).1,⟨by rw [hw];exact (h.at_ b k hb).2.ex,(h.at_ b k hb).2.gid⟩⟩,h.sep⟩,λB vs hB=>by rw [hw];exact h.fz B vs hB,λL r hL=>by rw [hw];exact h.lp L r hL,h.lS⟩
theorem HR.grow {D D':Nat->Prop} {φ:bP} {H:Hf} {w:World} (hD: ∀b,D b->D' b) (h:HR D φ H w):HR D' φ H w:=
 ⟨⟨λb k hb=>⟨hD b (h.at_ b k hb).1,(h.at_ b k hb).2.mono hD (cT.refl _ _) (h.at_ b k hb).1 rfl⟩,h.sep⟩,h.fz,h.lp,h.lS⟩
theorem dU.refl {D:Nat->Prop} {φ:bP} {H:Hf} {w:World} (h:HR D φ H w):dU D φ H w D φ H w:=
 ⟨λ_ h=>h,cT.refl _ _,h,GN.refl _ _ _,λb k hb hk=> .inr ⟨b,k,hb,hk,rfl⟩,λ_ _ h=> .inl h⟩
theorem dU.trans {D D1 D2:Nat->Prop} {φ φ1 φ2:bP} {H H1 H2:Hf} {w w1 w2:World} (h:dU D φ H w D1 φ1 H1 w1) (h':dU D1 φ1 H1 w1 D2 φ2 H2 w2):
 dU D φ H w D2 φ2 H2 w2:=by
 refine ⟨λb hb=>h'.sub b (h.sub b hb),h.agree.trans h.sub h'.agree,h'.hr,⟨h'.eF.os.trans h.eF.os,h'.eF.tape.trans h.eF.tape,h'.eF.output.trans h.eF.output,oP h.eF.size h'.eF.size,λc hc hn=> ?_⟩,λb k hb hk=> ?_,λB vs hB=> ?_⟩
 ·rw [h'.eF.block c (C1 hc h.eF.size) (λb k hb hk he=> ?_)]
  ·exact h.eF.block c hc hn
  ·rcases h.qL b k hb hk with h1|⟨m,km,h1,h2,h3⟩
   all_goals grind
 ·rcases h'.qL b k hb hk with h1|⟨m,km,h1,h2,h3⟩
  ·exact .inl (oP h.eF.size h1)
  ·rcases h.qL m km h1 h2 with h4|⟨m',km',h4,h5,h6⟩
   all_goals grind
 ·rcases h'.kj B vs hB with h1|h1|⟨m,km,h1,h2,h3⟩
  ·exact h.kj B vs h1
  ·exact .inr (.inl (oP h.eF.size h1))
  ·rcases h.qL m km h1 h2 with h4|⟨m',km',h4,h5,h6⟩
   all_goals grind
theorem HR.Ly {D:Nat->Prop} {φ:bP} {H:Hf} {w w':World} (hH:HR D φ H w) (eF:GN H φ w w') {L:Nat} {r:Go.Loop} (hL:φ.lp L=some r):w'.heap[L]? =some (.loop r):=by
 have h1:=hH.lp L r hL;have hlt:L<w.heap.size:=by
  grind
 rw [eF.block L hlt (λb k hb hk he=> ?_)]
 ·exact h1
 ·obtain ⟨⟨cs,elem,fr,h2,_⟩,_⟩:=(hH.at_ b k hb).2;obtain ⟨x,h3,h4⟩:=h2.some
  grind
theorem dU.mk' {D D':Nat->Prop} {φ φ':bP} {H H':Hf} {w w':World} (hH:HR D φ H w) (hfz:φ'.fz=φ.fz) (hlp:φ'.lp=φ.lp) (sub: ∀b,D b->D' b)
 (agree: ∀b,D b->φ'.cI b=φ.cI b/\φ'.off b=φ.off b/\φ'.cap b=φ.cap b/\φ'.fO b=φ.fO b)
 (hr:HR0 D' φ' H' w') (eF:GN H φ w w') (qL: ∀b k,H' b=some k->k.ro=false->w.heap.size<=φ'.cI b\/ ∃m km,H m=some km/\km.ro=false/\φ.cI m=φ'.cI b):
 dU D φ H w D' φ' H' w':=by
 refine ⟨sub,⟨agree,λB vs h=>by grind,hlp⟩,⟨hr,λB vs hB=> ?_,λL r hL=>by rw [hlp] at hL;exact hH.Ly eF hL,λb k B vs hb hk hB=> ?_⟩,eF,qL,λB vs h=> .inl (by grind)⟩
 ·rw [hfz] at hB;obtain ⟨elem,fr,h1⟩:=hH.fz B vs hB;refine ⟨elem,fr,?_⟩;rw [eF.block B ?_ (λb k hb hk=>hH.lS b k B vs hb hk hB)];all_goals grind
 ·rw [hfz] at hB;obtain ⟨elem,fr,h1⟩:=hH.fz B vs hB;have hlt:B<w.heap.size:=by
   grind
  rcases qL b k hb hk with h2|⟨m,km,h2,h3,h4⟩
  ·omega
  ·rw [<-h4];exact hH.lS m km B vs h2 h3 hB
theorem dU.frame {D D':Nat->Prop} {φ φ':bP} {H0 H0' H:Hf} {w w':World} (hH:HR D φ H w) (hsub: ∀b k,H0 b=some k->H b=some k) (h:dU D φ H0 w D' φ' H0' w')
 (H':Hf) (hH': ∀b k,H' b=some k->H0' b=some k\/(H b=some k/\H0 b=none))
 (hro: ∀b k,H0' b=some k->k.ro=true->H0 b=some k):
 dU D φ H w D' φ' H' w':=by
 have old: ∀b k,H b=some k->H0 b=none-> ∀m km,H0 m=some km->km.ro=false->φ.cI m≠φ.cI b:=λb k hb h0 m km hm hk=>
  hH.sep m b km k (by grind) (hsub m km hm) hb hk
 have stays: ∀b k,H b=some k->H0 b=none->w'.heap[φ.cI b]? =w.heap[φ.cI b]? :=λb k hb h0=>
  h.eF.block _ (hH.at_ b k hb).2.lt (λm km hm hk=>old b k hb h0 m km hm hk)
 -- an old block outside the part against a changed or new one inside it
 have apart: ∀b1 k1 b2 k2,H' b1=some k1->H' b2=some k2->H0' b1=some k1->H b2=some k2->H0 b2=none->b1≠b2->(k1.ro=false\/k2.ro=false)->φ'.cI b1≠φ'.cI b2:=by
  intro b1 k1 b2 k2 g1 g2 h1 h2 h20 hne hk;have hD2:=(hH.at_ b2 k2 h2);have e2:=(h.agree b2 hD2.1).1;rw [e2];by_cases hk1:k1.ro=false
  ·rcases h.qL b1 k1 h1 hk1 with h3|⟨m,km,h3,h4,h5⟩
   ·have:=hD2.2.lt;omega
   grind
  ·have hk1':k1.ro=true:=by grind
   have h10:=hro b1 k1 h1 hk1';have hD1:=hH.at_ b1 k1 (hsub b1 k1 h10);rw [(h.agree b1 hD1.1).1];have hk2:k2.ro=false:=hk.resolve_left hk1;exact λe=>hH.sep b2 b1 k2 k1 (s5 hne) h2 (hsub b1 k1 h10) hk2 e.symm
 refine ⟨h.sub,h.agree,⟨⟨λb k hb=> ?_,λb1 b2 k1 k2 hne h1 h2 hk=> ?_⟩,h.hr.fz,h.hr.lp,λb k B vs hb hk hB=> ?_⟩,⟨h.eF.os,h.eF.tape,h.eF.output,h.eF.size,λc hc hn=>h.eF.block c hc (λb k hb hk=>hn b k (hsub b k hb) hk)⟩,λb k hb hk=> ?_,λB vs hB=> ?_⟩
 ·rcases hH' b k hb with h1|⟨h1,h2⟩
  ·exact h.hr.at_ b k h1
  ·have hb':=hH.at_ b k h1;exact ⟨h.sub b hb'.1,hb'.2.mono h.sub h.agree hb'.1 (stays b k h1 h2)⟩
 ·rcases hH' b1 k1 h1 with g1|⟨g1,g10⟩<;>rcases hH' b2 k2 h2 with g2|⟨g2,g20⟩
  ·exact h.hr.sep b1 b2 k1 k2 hne g1 g2 hk
  ·grind
  ·grind
  ·rw [(h.agree b1 (hH.at_ b1 k1 g1).1).1,(h.agree b2 (hH.at_ b2 k2 g2).1).1];exact hH.sep b1 b2 k1 k2 hne g1 g2 hk
 ·rcases hH' b k hb with h1|⟨h1,h2⟩
  ·exact h.hr.lS b k B vs h1 hk hB
  ·rw [(h.agree b (hH.at_ b k h1).1).1];rcases h.kj B vs hB with g|g
   ·exact hH.lS b k B vs h1 hk g
   ·rcases g with g|⟨m,km,g1,g2,g3⟩
    ·have:=(hH.at_ b k h1).2.lt;omega
    grind
 ·rcases hH' b k hb with h1|⟨h1,h2⟩
  ·rcases h.qL b k h1 hk with h3|⟨m,km,h3,h4,h5⟩
   all_goals grind
  ·exact .inr ⟨b,k,h1,hk,((h.agree b (hH.at_ b k h1).1).1).symm⟩
 ·rcases h.kj B vs hB with h1|h1|⟨m,km,h1,h2,h3⟩
  all_goals grind
theorem HR.same {D:Nat->Prop} {φ:bP} {H:Hf} {w w':World} (h:HR D φ H w) (hc: ∀(c:Nat) (cs:Array Value) (elem:TypeId) (fr:Nat×Nat),w.heap[c]? =some (.cells cs elem fr)->w'.heap[c]? =some (.cells cs elem fr)) (hcm: ∀(c:Nat) (es:Array MapEntry) (clk:Nat),w.heap[c]? =some (.map es clk)->w'.heap[c]? =some (.map es clk)) (hl: ∀L r,φ.lp L=some r->w'.heap[L]? =some (.loop r)):HR D φ H w':=
 ⟨⟨λb k hb=>⟨(h.at_ b k hb).1,by
   obtain ⟨⟨cs,elem,fr,h1,h2⟩,h5⟩:=(h.at_ b k hb).2;refine ⟨⟨cs,elem,fr,?_,h2⟩,h5⟩;revert h1;unfold rP
   grind⟩,h.sep⟩,λB vs hB=>by
   obtain ⟨elem,fr,h1⟩:=h.fz B vs hB
   grind,hl,h.lS⟩
theorem dU.same {D D':Nat->Prop} {φ φ':bP} {H H':Hf} {w w' w'':World} (h:dU D φ H w D' φ' H' w') (hr:HR D' φ' H' w'') (hos:w''.os=w'.os) (ht:w''.tape=w'.tape) (ho:w''.output=w'.output) (hsz:w'.heap.size<=w''.heap.size)
 (hb: ∀c,c<w.heap.size->w''.heap[c]? =w'.heap[c]?):dU D φ H w D' φ' H' w'':=
 ⟨h.sub,h.agree,hr,⟨hos.trans h.eF.os,ht.trans h.eF.tape,ho.trans h.eF.output,oP h.eF.size hsz,λc hc hn=>(hb c hc).trans (h.eF.block c hc hn)⟩,h.qL,h.kj⟩
abbrev Hp:=List (Nat×bp)
abbrev Env:=List (Nat×AV)
def aa:Hp->Hf
 |[],_=>none
 |(c,k)::r,b=>bif Nat.beq c b then some k else aa r b
def bC:Env->Nat->Option AV
 |[],_=>none
 |(c,k)::r,b=>bif Nat.beq c b then some k else bC r b
def iH:Hp->Nat->bp->Hp
 |[],b,x=>[(b,x)]
 |(c,k)::r,b,x=>bif Nat.beq c b then (c,x)::r else (c,k)::iH r b x
def bp.F6 (k:bp):Option bp:=match k.mp with
 |none=>some k
 |some _=>none
def jo (h:Hp) (b:Nat):Option bp:=(aa h b).bind bp.F6
theorem dL {h:Hp} {b:Nat} {k:bp} (hk:jo h b=some k):aa h b=some k/\k.mp=none:=by
 grind [jo,av,bp.F6]
theorem JT {h:Hp} {b:Nat} {k:bp} (hk:aa h b=some k) (hm:k.mp=none):jo h b=some k:=by grind [jo,aC,bp.F6]
def oH:Hp->Nat->Hp
 |[],_=>[]
 |(c,k)::r,b=>bif Nat.beq c b then oH r b else (c,k)::oH r b
def Ae:Hp->Nat->Option AV
 |[],_=>none
 |(c,k)::r,g=>match k.gid with
  |some g'=>bif Nat.beq g' g then some (.p c 0) else Ae r g
  |none=>Ae r g
def iZ (h:Hp) (g:Nat):Option AV:=(Ae h g).bind λv=>match v with
 | .p c _=>(aa h c).bind λk=>match k.gid with
  |some g'=>bif Nat.beq g' g then some (.p c 0) else none
  |none=>none
 |_=>none
inductive cq where
 |t (n:Nat)
 |c (v:AV)
 |g (n:Nat)
def cq.ev (e:Env) (h:Hp):cq->Option AV
 | .t n=>bC e n
 | .c v=>some v
 | .g n=>iZ h n
def yM (e:Env) (h:Hp):List cq->Option (List AV)
 |[]=>some []
 |x::r=>(x.ev e h).bind λv=>(yM e h r).bind λvs=>some (v::vs)
def th (e:Env) (h:Hp):List (Nat×Nat×cq)->Option (List (Nat×Nat×AV))
 |[]=>some []
 |(o,z,x)::r=>(x.ev e h).bind λv=>(th e h r).bind λvs=>some ((o,z,v)::vs)
inductive Kd where
 |b|i|s
inductive j8 where
 |mv (x:cq)
 |pick (c a b:cq)
 |new (z:List AV)
 |box (x:cq)
 |build (z:List AV) (ps:List (Nat×Nat×cq))
 |ZX (z:List AV) (len:Nat) (ps:List (Nat×Nat×cq))
 |ld (agg:Bool) (sz:Nat) (a:cq)
 |st (sz:Nat) (a x:cq)
 |ZH (x:cq)
 |bin (op:BinOp) (x y:cq)
 |J4 (neg agg:Bool) (ks:List Kd) (x y:cq)
 |Iz (neg:Bool) (k:Nat) (x y:cq)
 |not (x:cq)
 |neg (x:cq)
 |Dw (k:IntKind) (x:cq)
 |s2b (x:cq)
 |b2s (x:cq)
 |idc (x:cq)
 |N7 (f:FuncId) (caps:List cq)
 |mkm (f:FuncId) (first:List cq)
 |slS (x:cq) (lo hi:Option cq)
 |vW (fO:Nat) (x:cq) (lo hi mx:Option cq)
 |slA (n fO:Nat) (x:cq) (lo hi mx:Option cq)
 |fa (off:Nat) (x:cq)
 |fld (agg:Bool) (sz off:Nat) (x:cq)
 |PV (n fO:Nat) (x i:cq)
 |uS (fO:Nat) (x i:cq)
 |ixA (n fO:Nat) (agg:Bool) (x i:cq)
 |oJ (x i:cq)
 |ext (x:cq) (i:Nat)
 |Ru (x:cq)
 |lh (x:cq)
 |SZ (n:Nat)
 |LW (x:cq)
 |mn (x:cq) (xs:List cq)
 |mx (x:cq) (xs:List cq)
 |mks (fO bytes:Nat) (z:List AV) (l c:cq)
 |app (fO bytes:Nat) (z:List AV) (s x:cq)
 |apz (fO bytes:Nat) (z:List AV) (s k:cq)
 |JR (fO:Nat) (d s:cq)
 |ZZ (fO:Nat) (z:List AV) (x:cq)
 |ZU (t:TypeId) (x:cq)
 |Zl (ks:bL)
 |mpG (kd:Nat) (ok:Bool) (z:AV) (m k:cq)
 |ZA (kd:Nat) (m k x:cq)
 |mpD (kd:Nat) (m k:cq)
 |Q5 (m:cq)
 |tas (t:TypeId) (z:AV) (x:cq)
 |ZK (neg:Bool) (x:cq)
 |S6 (x:cq)
 |rcv
 |BW (f:cq) (args:List cq)
 |call (f:cq) (args:List cq)
 |bad
structure bq where
 dst:Option Nat
 op:j8
 guard:Option (Nat×Bool)
 ZR:Bool
abbrev oo (d:Nat) (x:j8):bq:=⟨some d,x,none,false⟩
abbrev ot (d:Nat) (x:j8):bq:=⟨some d,x,none,true⟩
abbrev ZL (x:j8):bq:=⟨none,x,none,false⟩
abbrev og (d:Nat) (x:j8) (g:Nat) (b s:Bool):bq:=⟨some d,x,some (g,b),s⟩
abbrev cA (a:Nat)(b:Nat)(c:Nat):bq:=oo a (.fa b (.t c))
abbrev fH (a:Nat)(b:Nat):bq:=oo a (.mv (.t b))
abbrev gk (a:Nat)(b:Nat):bq:=oo a (.ZH (.t b))
abbrev iL (a:Nat)(b:Nat)(c:Nat):bq:=oo a (.ld false b (.t c))
abbrev qW (a:Nat)(b:Nat)(c:Nat):bq:=ZL (.st a (.t b) (.t c))
abbrev AP (a:Nat)(b:Nat)(c:Nat)(d:Nat):bq:=og a (.fa b (.t c)) d false false
abbrev B5 (a:Nat)(b:Nat)(c:Nat)(d:Nat):bq:=oo a (.call (.c (.fn b [])) [.t c,.t d])
abbrev IK (a:Nat)(b:Nat)(c:Nat):bq:=og a (.mv (.t b)) c false false
abbrev Js (a:Nat)(b:Nat)(c:Nat):bq:=og a (.ZH (.t b)) c false false
abbrev Jf (a:Nat)(b:Nat)(c:Nat)(d:Nat):bq:=og a (.ld false b (.t c)) d false false
abbrev KA (a:Nat)(b:Nat)(c:Nat):bq:=oo a (.pick (.t b) (.c (.b true)) (.t c))
abbrev I6 (a:Nat)(b:Nat)(c:Int):bq:=oo a (.bin .add (.t b) (.c (.i .i64 c)))
abbrev acY:List AV:=[.ns,.ns,.ns,.ns,.ns,.ns,.ns,.ns,.ns,.ns,.ns,.ns,.ns,.ns,.ns,.ns,.ns,.ns,.i .i64 0,.i .i64 0,.i .i64 0,.i .i64 0,.i .i64 0,.i .i64 0,.i .i64 0,.i .i64 0,.i .i64 0,.i .i64 0,.i .i64 0,.i .i64 0,.i .i64 0,.i .i64 0,.i .i64 0]
abbrev ac3:List AV:=[.i .i64 0,.i .i64 0,.i .i64 0,.i .i64 0,.ns,.i .i64 0,.i .i64 0,.i .i64 0,.i .i64 0,.i .i64 0,.i .i64 0,.i .i64 0,.i .i64 0,.b false,.i .i64 0,.i .i64 0,.i .i64 0,.i .i64 0,.i .i64 0,.i .i64 0,.i .i64 0,.i .i64 0]
structure bV where
 v:AV
 n:Nat
 rd:List Nat:=[]
 md:List (Nat×Option bp):=[]
 nw:List (Nat×bp):=[]
 pn:Option Value:=none
def cy:List (Nat×Option bp)->Nat->Option (Option bp)
 |[],_=>none
 |(c,k)::r,b=>bif Nat.beq c b then some k else cy r b
def bV.app (E:bV) (H:Hf):Hf:=λb=>
 match cy E.md b with
 |some r=>r
 |none=>match aa E.nw b with
  |some k=>some k
  |none=>H b
def ja (h:Hp):List (Nat×Option bp)->Hp
 |[]=>h
 |(b,some k)::r=>iH (ja h r) b k
 |(b,none)::r=>oH (ja h r) b
def bV.fg (E:bV) (h:Hp):Hp:=ja (E.nw++h) E.md
def inl:List Nat->Nat->Bool
 |[],_=>false
 |c::r,b=>Nat.beq c b||inl r b
def only (H:Hf) (rd:List Nat):Hf:=λb=>bif inl rd b then H b else none
def pe (v:AV) (n:Nat):Option (Bool×bV):=some (true,{v,n})
/-! ### single operations -/
def AV.cells:AV->List AV
 | .agg l=>l
 |v=>[v]
def AV.one:AV->Bool
 | .agg _| .bz _| .any=>false
 |_=>true
def AV.isAny:AV->Bool
 | .any=>true
 |_=>false
def aD (l:List AV) (o z:Nat):List AV:=(l.drop o).take z
def eU (l:List AV) (o:Nat) (xs:List AV):List AV:=l.take o++xs++l.drop (o+xs.length)
def oC:List AV->List (Nat×Nat×AV)->Option (List AV)
 |z,[]=>some z
 |z,(o,sz,v)::r=>bif Nat.beq v.cells.length sz&&Nat.ble (o+sz) z.length&& !v.isAny then oC (eU z o v.cells) r else none
def Iz:Nat->AV->AV->Option Bool
 |0,.np,.np=>some true
 |0,.p _ _,.np=>some false
 |0,.np,.p _ _=>some false
 |1,.ns,.ns=>some true
 |1,.sl _ _ _ _,.ns=>some false
 |1,.sg _ _ _,.ns=>some false
 |1,.ns,.sl _ _ _ _=>some false
 |1,.ns,.sg _ _ _=>some false
 |0,.fp _ _,.np=>some false
 |0,.np,.fp _ _=>some false
 |1,.fz _ (_+1),.ns=>some false
 |1,.en,.ns=>some false
 |1,.ns,.fz _ (_+1)=>some false
 |2,.fn _ _,.nf=>some false
 |2,.nf,.fn _ _=>some false
 |2,.nf,.nf=>some true
 |_,_,_=>none
def T2:Kd->AV->AV->Option Bool
 | .b,.b x,.b y=>some (x==y)
 | .i,.i k x,.i k' y=>if k=k' then some (x==y) else none
 | .s,.s x,.s y=>some (x==y)
 |_,_,_=>none
def eqs:List Kd->List AV->List AV->Option Bool
 |[],[],[]=>some true
 |k::ks,x::xs,y::ys=>(T2 k x y).bind λa=>(eqs ks xs ys).bind λb=>some (a&&b)
 |_,_,_=>none
def J4 (agg:Bool) (ks:List Kd) (x y:AV):Option Bool:=
 match agg,x,y with
 |true,.agg xs,.agg ys=>eqs ks xs ys
 |false,x,y=>eqs ks [x] [y]
 |_,_,_=>none
def qU (op:BinOp) (k:IntKind) (a b:Int):Option (Bool×AV):=
 match op with
 | .add=>some (true,.i k (k.wrap (a+b)))
 | .sub=>some (true,.i k (k.wrap (a-b)))
 | .mul=>some (true,.i k (k.wrap (a*b)))
 | .quo=>some (b !=0,.i k (k.wrap (a.tdiv b)))
 | .rem=>some (b !=0,.i k (a.tmod b))
 | .and=>some (true,.i k (k.wrap (BitVec.ofInt k.bits a &&& BitVec.ofInt k.bits b).toNat))
 | .or=>some (true,.i k (k.wrap (BitVec.ofInt k.bits a ||| BitVec.ofInt k.bits b).toNat))
 | .xor=>some (true,.i k (k.wrap (BitVec.ofInt k.bits a ^^^ BitVec.ofInt k.bits b).toNat))
 | .andNot=>some (true,.i k (k.wrap (BitVec.ofInt k.bits a &&& ~~~(BitVec.ofInt k.bits b)).toNat))
 | .eql=>some (true,.b (a==b))
 | .neq=>some (true,.b (a !=b))
 | .lss=>some (true,.b (decide (a<b)))
 | .leq=>some (true,.b (decide (a<=b)))
 | .gtr=>some (true,.b (decide (a>b)))
 | .geq=>some (true,.b (decide (a>=b)))
 | .shl=>none
 | .shr=>none
def mJ (op:BinOp) (k:IntKind) (a b:Int):Option (Bool×AV):=
 match op with
 | .shl=>some (decide (0<=b),.i k (k.wrap (a*2^(Nat.min b.toNat k.bits))))
 | .shr=>some (decide (0<=b),.i k (a.fdiv (2^(Nat.min b.toNat k.bits))))
 |_=>none
def IN (op:BinOp) (a b:List UInt8):Option (Bool×AV):=
 match op with
 | .add=>some (decide (a.length+b.length<=9223372036854775807),.s (a++b))
 | .eql=>some (true,.b (a==b))
 | .neq=>some (true,.b !(a==b))
 | .lss=>some (true,.b (Op.bytesLess a b))
 | .leq=>some (true,.b (Op.bytesLess a b||a==b))
 | .gtr=>some (true,.b !(Op.bytesLess a b||a==b))
 | .geq=>some (true,.b !(Op.bytesLess a b))
 |_=>none
def bin (op:BinOp) (x y:AV):Option (Bool×AV):=
 match x,y with
 | .i k a,.i k' b=>match op with
  | .shl=>mJ .shl k a b
  | .shr=>mJ .shr k a b
  |op=>if k=k' then qU op k a b else none
 | .s a,.s b=>IN op a b
 |_,_=>none
def Mw:AV->Option Int
 | .i .i64 n=>some n
 |_=>none
def Dx:AV->Option Int
 | .i _ n=>some n
 |_=>none
def yJ (k:IntKind):Int->List AV->Option Int
 |a,[]=>some a
 |a,.i k' y::r=>if k=k' then yJ k (if y<a then y else a) r else none
 |_,_=>none
def yU (k:IntKind):Int->List AV->Option Int
 |a,[]=>some a
 |a,.i k' y::r=>if k=k' then yU k (if y>a then y else a) r else none
 |_,_=>none
def VR:AV->Option (IntKind×Int)
 | .i k n=>some (k,n)
 |_=>none
def aM (len cap:Nat) (lo hi mx:Option Int):Bool×Nat×Nat×Nat:=
 let m:Int:=mx.getD cap;let h:Int:=hi.getD len;let l:Int:=lo.getD 0
 (decide (0<=l/\l<=h/\0<=h/\h<=m/\0<=m/\m<=cap),l.toNat,h.toNat,m.toNat)
def da {α:Type} (e:Env) (h:Hp) (o:Option cq) (k:Option Int->Option α):Option α:=
 match o with
 |none=>k none
 |some x=>(x.ev e h).bind λv=>(Dx v).bind λn=>k (some n)
def bytesOf:List AV->Option (List UInt8)
 |[]=>some []
 | .i .u8 n::r=>(bytesOf r).bind λl=>some (UInt8.ofNat n.toNat::l)
 |_=>none
def dA (z:List AV):Nat->List AV
 |0=>[]
 |n+1=>z++dA z n
def iG:AV->Option (Nat×Nat×Nat)
 | .sl b o len _=>some (b,o,len)
 | .sg b o len=>some (b,o,len)
 |_=>none
def lF (h:Hp) (fO:Nat):AV->Option (List Nat×Nat×List AV×Bool)
 | .ns=>some ([],0,[],true)
 | .s l=>some ([],l.length,l.map (λb=> .i .u8 b.toNat),Nat.beq fO 1)
 | .sl b o len _=>(jo h b).bind λk=>some ([b],len,aD k.cells o (len*fO),decide ((aD k.cells o (len*fO)).length=len*fO))
 | .sg b o len=>(jo h b).bind λk=>some ([b],len,aD k.cells o (len*fO),decide ((aD k.cells o (len*fO)).length=len*fO))
 | .fz l len=>some ([],len,aD l 0 (len*fO),decide ((aD l 0 (len*fO)).length=len*fO))
 | .ze=>some ([],0,[],true)
 | .en=>some ([],0,[],true)
 |_=>none
def az:Nat:=140737488355328
def aL:List AV->Bool
 |[]=>true
 |v::r=>v.one&&aL r
def KY:AV->Option Value
 | .b x=>some (.bool x)
 | .i k n=>some (.int k n)
 | .s l=>some (.string ⟨l.toArray⟩)
 |_=>none
def Il:List AV->Option (List Value)
 |[]=>some []
 |v::r=>(KY v).bind λx=>(Il r).bind λxs=>some (x::xs)
def toV:AV->Option Value
 | .agg l=>(Il l).bind λus=>some (.agg us.toArray)
 |v=>KY v
def yh:Value->Option AV
 | .bool b=>some (.b b)
 | .int k n=>some (.i k n)
 | .string s=>some (.s s.data.toList)
 | .pointer none=>some .np
 | .slice none 0 0=>some .ns
 | .nilFunc=>some .nf
 | .nilIface=>some .ni
 | .map none=>some .nm
 |_=>none
def nF:List Value->Option (List AV)
 |[]=>some []
 |v::r=>(yh v).bind λx=>(nF r).bind λxs=>some (x::xs)
def xS:Value->Option AV
 | .agg cs=>(nF cs.toList).map .agg
 | .tuple cs=>(nF cs.toList).map .bz
 |v=>yh v
def tT (h:Hp) (kd:Nat) (m k:AV):Option (Nat×bp×bL×Option Nat):=match m with
 | .m b=>(aa h b).bind λK=>match K.ro,K.gr,K.mp with
  |false,none,some ks=>match Nat.beq ks.kd kd with
   |true=>(ks.find k).bind λr=>some (b,K,ks,r)
   |false=>none
  |_,_,_=>none
 |_=>none
def step (o:j8) (e:Env) (h:Hp) (n:Nat):Option (Bool×bV):=
 match o with
 | .mv x=>(x.ev e h).bind λv=>pe v n
 | .pick c a b=>(c.ev e h).bind λv=>match v with
  | .b true=>(a.ev e h).bind λv=>pe v n
  | .b false=>(b.ev e h).bind λv=>pe v n
  |_=>none
 | .new z=>some (true,{v:= .p n 0,n:=n+1,nw:=[(n,{cells:=z})]})
 | .box x=>(x.ev e h).bind λv=>some (!v.isAny,{v:= .p n 0,n:=n+1,nw:=[(n,{cells:=v.cells})]})
 | .build z ps=>(th e h ps).bind λl=>(oC z l).bind λcs=>pe (.agg cs) n
 | .ZX z len ps=>(th e h ps).bind λl=>(oC z l).bind λcs=>some (true,{v:= .sl n 0 len len,n:=n+1,nw:=[(n,{cells:=cs})]})
 | .ld agg z a=>(a.ev e h).bind λv=>match v with
  | .p b o=>(jo h b).bind λk=>
   match agg with
   |true=>some (decide ((aD k.cells o z).length=z),{v:= .agg (aD k.cells o z),n,rd:=[b]})
   |false=>(k.cells[o]?).bind λv=>some (true,{v,n,rd:=[b]})
  | .fp l o=>match agg with
   |true=>some (decide ((aD l o z).length=z),{v:= .agg (aD l o z),n})
   |false=>(l[o]?).bind λv=>some (true,{v,n})
  |_=>none
 | .st z a x=>(a.ev e h).bind λv=>match v with
  | .p b o=>(jo h b).bind λk=>(x.ev e h).bind λy=>
   match k.ro with
   |true=>none
   |false=>some (aL y.cells&&Nat.beq y.cells.length z&&decide (o+z<=k.cells.length),{v:= .bz [],n,rd:=[b],md:=[(b,some {k with cells:=eU k.cells o y.cells})]})
  |_=>none
 | .ZH x=>(x.ev e h).bind λv=>match v with
  | .p b o=>pe (.p b o) n
  | .fn f l=>pe (.fn f l) n
  | .bm f l=>pe (.bm f l) n
  | .fp l o=>pe (.fp l o) n
  |_=>none
 | .bin op x y=>(x.ev e h).bind λa=>(y.ev e h).bind λb=>(bin op a b).bind λr=>some (r.1,{v:=r.2,n})
 | .J4 neg agg ks x y=>(x.ev e h).bind λa=>(y.ev e h).bind λb=>(J4 agg ks a b).bind λr=>pe (.b (bif neg then !r else r)) n
 | .Iz neg k x y=>(x.ev e h).bind λa=>(y.ev e h).bind λb=>(Iz k a b).bind λr=>pe (.b (bif neg then !r else r)) n
 | .not x=>(x.ev e h).bind λv=>match v with
  | .b c=>pe (.b !c) n
  |_=>none
 | .neg x=>(x.ev e h).bind λv=>match v with
  | .i k m=>pe (.i k (k.wrap (0-m))) n
  |_=>none
 | .Dw k x=>(x.ev e h).bind λv=>match v with
  | .i _ m=>pe (.i k (k.wrap m)) n
  |_=>none
 | .s2b x=>(x.ev e h).bind λv=>match v with
  | .s l=>some (true,{v:= .sg n 0 l.length,n:=n+1,nw:=[(n,{cells:=l.map λb=> .i .u8 b.toNat,gr:=some 1})]})
  |_=>none
 | .b2s x=>(x.ev e h).bind λv=>match v with
  | .ns=>pe (.s []) n
  | .fz l m=>(bytesOf (l.take m)).bind λs=>some (decide (s.length=m),{v:= .s s,n})
  |v=>(iG v).bind λq=>(jo h q.1).bind λk=>(bytesOf (aD k.cells q.2.1 q.2.2)).bind λl=>
   some (decide (l.length=q.2.2),{v:= .s l,n,rd:=[q.1]})
 | .idc x=>(x.ev e h).bind λv=>match v with
  | .s l=>pe (.s l) n
  |_=>none
 | .N7 f caps=>(yM e h caps).bind λl=>pe (.fn f l) n
 | .mkm f first=>(yM e h first).bind λl=>pe (.bm f l) n
 | .slS x lo hi=>(x.ev e h).bind λv=>match v with
  | .s l=>da e h lo λlo=>da e h hi λhi=>
   let r:=aM l.length l.length lo hi none
   some (r.1,{v:= .s ((l.take r.2.2.1).drop r.2.1),n})
  |_=>none
 | .vW z x lo hi mx=>(x.ev e h).bind λv=>match v with
  | .ns=>da e h lo λlo=>da e h hi λhi=>da e h mx λmx=>
   let r:=aM 0 0 lo hi mx
   some (r.1,{v:= .ns,n})
  | .sl b o len cap=>da e h lo λlo=>da e h hi λhi=>da e h mx λmx=>
   let r:=aM len cap lo hi mx
   some (r.1,{v:= .sl b (if r.2.2.2=r.2.1 then o else o+r.2.1*z) (r.2.2.1-r.2.1) (r.2.2.2-r.2.1),n})
  | .sg b o len=>match mx with
   |some _=>none
   |none=>(jo h b).bind λk=>da e h lo λlo=>da e h hi λhi=>
    let r:=aM len len lo hi none
    match k.gr with
    |some z'=>match decide (r.2.1=0\/r.2.1<len) with
     |true=>some (r.1&&Nat.beq z z',{v:= .sg b (o+r.2.1*z) (r.2.2.1-r.2.1),n,rd:=[b]})
     |false=>some (r.1&&Nat.beq z z',{v:= .en,n,rd:=[b]})
    |none=>none
  | .fz l len=>da e h lo λlo=>da e h hi λhi=>da e h mx λmx=>
   let r:=aM len len lo hi mx
   some (r.1,{v:=if mx.isSome/\r.2.2.2=r.2.1 then .ze else .fz (l.drop (r.2.1*z)) (r.2.2.1-r.2.1),n})
  | .ze=>da e h lo λlo=>da e h hi λhi=>da e h mx λmx=>
   let r:=aM 0 0 lo hi mx
   some (r.1,{v:= .ze,n})
  |_=>none
 | .slA m z x lo hi mx=>(x.ev e h).bind λv=>match v with
  | .p b o=>da e h lo λlo=>da e h hi λhi=>da e h mx λmx=>
   let r:=aM m m lo hi mx
   some (r.1,{v:= .sl b (if r.2.2.2=r.2.1 then o else o+r.2.1*z) (r.2.2.1-r.2.1) (r.2.2.2-r.2.1),n})
  |_=>none
 | .fa off x=>(x.ev e h).bind λv=>match v with
  | .p b o=>pe (.p b (o+off)) n
  | .fp l o=>pe (.fp l (o+off)) n
  |_=>none
 | .fld agg z off x=>(x.ev e h).bind λv=>match v with
  | .agg l=>match agg with
   |true=>some (decide (off+z<=l.length),{v:= .agg (aD l off z),n})
   |false=>(l[off]?).bind λv=>pe v n
  |_=>none
 | .PV m z x i=>(x.ev e h).bind λv=>(i.ev e h).bind λi=>(Dx i).bind λi=>match v with
  | .p b o=>some (decide (0<=i/\i<m),{v:= .p b (o+i.toNat*z),n})
  | .fp l o=>some (decide (0<=i/\i<m),{v:= .fp l (o+i.toNat*z),n})
  |_=>none
 | .uS z x i=>(x.ev e h).bind λv=>(i.ev e h).bind λi=>(Dx i).bind λi=>match v with
  | .fz l len=>some (decide (0<=i/\i<len),{v:= .fp l (i.toNat*z),n})
  |v=>(iG v).bind λq=>some (decide (0<=i/\i<q.2.2),{v:= .p q.1 (q.2.1+i.toNat*z),n})
 | .ixA m z agg x i=>(x.ev e h).bind λv=>(i.ev e h).bind λi=>(Dx i).bind λi=>match v with
  | .agg l=>match agg with
   |true=>some (decide (0<=i/\i<m)&&decide (i.toNat*z+z<=l.length),{v:= .agg (aD l (i.toNat*z) z),n})
   |false=>(l[i.toNat*z]?).bind λv=>some (decide (0<=i/\i<m),{v,n})
  |_=>none
 | .oJ x i=>(x.ev e h).bind λv=>(i.ev e h).bind λi=>(Dx i).bind λi=>match v with
  | .s l=>some (decide (0<=i/\i<l.length),{v:= .i .u8 ((l[i.toNat]?).getD 0).toNat,n})
  |_=>none
 | .ext x i=>(x.ev e h).bind λv=>match v with
  | .bz l=>(l[i]?).bind λv=>pe v n
  |_=>none
 | .Ru x=>(x.ev e h).bind λv=>match v with
  | .s l=>pe (.i .i64 l.length) n
  |_=>none
 | .lh x=>(x.ev e h).bind λv=>match v with
  | .ns=>pe (.i .i64 0) n
  | .fz _ len=>pe (.i .i64 len) n
  | .ze=>pe (.i .i64 0) n
  | .en=>pe (.i .i64 0) n
  |v=>(iG v).bind λq=>pe (.i .i64 q.2.2) n
 | .SZ m=>pe (.i .i64 m) n
 | .LW x=>(x.ev e h).bind λv=>match v with
  | .ns=>pe (.i .i64 0) n
  | .sl _ _ _ cap=>pe (.i .i64 cap) n
  | .ze=>pe (.i .i64 0) n
  |_=>none
 | .mn x xs=>(x.ev e h).bind λv=>(VR v).bind λa=>(yM e h xs).bind λl=>(yJ a.1 a.2 l).bind λm=>pe (.i a.1 m) n
 | .mx x xs=>(x.ev e h).bind λv=>(VR v).bind λa=>(yM e h xs).bind λl=>(yU a.1 a.2 l).bind λm=>pe (.i a.1 m) n
 | .mks z bytes zs l c=>(l.ev e h).bind λl=>(Mw l).bind λl=>(c.ev e h).bind λc=>(Mw c).bind λc=>
  some (decide (0<=l/\l<=c/\bytes*c<=281474976710656/\c<=9223372036854775807),{v:= .sl n 0 l.toNat c.toNat,n:=n+1,nw:=[(n,{cells:=dA zs c.toNat})]})
 | .app z bytes zs s x=>(s.ev e h).bind λs=>(x.ev e h).bind λx=>(lF h z x).bind λr=>
  if r.2.1=0 then (match s with
   | .ns=>some (r.2.2.2,{v:= .ns,n,rd:=r.1})
   | .sl b o len cap=>some (r.2.2.2&&decide (len<=cap),{v:= .sl b o len cap,n,rd:=r.1})
   | .sg b o len=>some (r.2.2.2,{v:= .sg b o len,n,rd:=r.1})
   | .ze=>some (r.2.2.2,{v:= .ze,n,rd:=r.1})
   | .fz l len=>some (r.2.2.2,{v:= .fz l len,n,rd:=r.1})
   |_=>none)
  else match s with
  | .ns=>some (r.2.2.2&&decide (bytes*r.2.1<=az),{v:= .sg n 0 r.2.1,n:=n+1,rd:=r.1,nw:=[(n,{cells:=r.2.2.1,gr:=some z})]})
  | .ze=>some (r.2.2.2&&decide (bytes*r.2.1<=az),{v:= .sg n 0 r.2.1,n:=n+1,rd:=r.1,nw:=[(n,{cells:=r.2.2.1,gr:=some z})]})
  | .sl b o len cap=>(jo h b).bind λk=>
   if len+r.2.1<=cap then
    match k.ro with
    |true=>none
    |false=>some (r.2.2.2&&decide (o+len*z+r.2.2.1.length<=k.cells.length)&&aL r.2.2.1,{v:= .sl b o (len+r.2.1) cap,n,rd:=b::r.1,md:=[(b,some {k with cells:=eU k.cells (o+len*z) r.2.2.1})]})
   else some (r.2.2.2&&decide (bytes*(len+r.2.1)<=az)&&decide ((aD k.cells o (len*z)).length=len*z)&&decide (len<=cap),{v:= .sg n 0 (len+r.2.1),n:=n+1,rd:=b::r.1,nw:=[(n,{cells:=aD k.cells o (len*z)++r.2.2.1,gr:=some z})]})
  | .sg b o len=>(jo h b).bind λk=>
   match k.gr with
   |some z'=>bif decide (k.cells.length=o+len*z) then some (r.2.2.2&&decide (bytes*(len+r.2.1)<=az)&&Nat.beq z z'&&decide (k.cells.length=o+len*z)&&aL r.2.2.1,{v:= .sg n 0 (len+r.2.1),n:=n+1,rd:=b::r.1,md:=[(b,none)],nw:=[(n,{cells:=k.cells.drop o++r.2.2.1,gr:=some z})]})
    else some (r.2.2.2&&decide (bytes*(len+r.2.1)<=az)&&Nat.beq z z'&&decide (o+len*z<=k.cells.length)&&aL r.2.2.1,{v:= .sg n 0 (len+r.2.1),n:=n+1,rd:=b::r.1,md:=[(b,none)],nw:=[(n,{cells:=aD k.cells o (len*z)++r.2.2.1,gr:=some z})]})
   |none=>none
  |_=>none
 | .apz z bytes zs s x=>(s.ev e h).bind λs=>(x.ev e h).bind λx=>(Mw x).bind λm=>match s with
  | .sl b o len cap=>(jo h b).bind λk=>
   some (decide (0<m)&&decide (cap<len+m.toNat)&&decide (bytes*(len+m.toNat)<=az)&&decide ((aD k.cells o (len*z)).length=len*z),{v:= .sg n 0 (len+m.toNat),n:=n+1,rd:=[b],nw:=[(n,{cells:=aD k.cells o (len*z)++dA zs m.toNat,gr:=some z})]})
  |_=>none
 | .JR z d s=>(d.ev e h).bind λd=>(s.ev e h).bind λs=>(lF h z s).bind λr=>
  match d with
  | .ns=>some (r.2.2.2,{v:= .i .i64 0,n,rd:=r.1})
  | .en=>some (r.2.2.2,{v:= .i .i64 0,n,rd:=r.1})
  |d=>(iG d).bind λq=>(jo h q.1).bind λk=>
   match k.ro with
   |true=>none
   |false=>some (r.2.2.2&&(aL r.2.2.1||aL (r.2.2.1.take (Nat.min r.2.1 q.2.2*z)))&&decide (q.2.1+Nat.min r.2.1 q.2.2*z<=k.cells.length),{v:= .i .i64 (Nat.min r.2.1 q.2.2),n,rd:=q.1::r.1,md:=[(q.1,some {k with cells:=eU k.cells q.2.1 (r.2.2.1.take (Nat.min r.2.1 q.2.2*z))})]})
 | .ZZ z zs x=>(x.ev e h).bind λv=>match v with
  | .ns=>pe (.bz []) n
  |v=>(iG v).bind λq=>(jo h q.1).bind λk=>
   match k.ro with
   |true=>none
   |false=>some (aL zs&&Nat.beq zs.length z&&decide (q.2.1+q.2.2*z<=k.cells.length),{v:= .bz [],n,rd:=[q.1],md:=[(q.1,some {k with cells:=eU k.cells q.2.1 (dA zs q.2.2)})]})
 | .ZU t x=>(x.ev e h).bind λv=>(toV v).bind λu=>pe (.k t u) n
 | .Zl ks=>some (true,{v:= .m n,n:=n+1,nw:=[(n,{cells:=[],mp:=some ks})]})
 | .mpG kd ok z m k=>(m.ev e h).bind λm=>(k.ev e h).bind λk=>(tT h kd m k).bind λq=>match q.2.2.2 with
  |some i=>(q.2.1.cells[i]?).bind λv=>some (true,{v:=bif ok then .bz [v,.b true] else v,n,rd:=[q.1]})
  |none=>some (true,{v:=bif ok then .bz [z,.b false] else z,n,rd:=[q.1]})
 | .ZA kd m k x=>(m.ev e h).bind λm=>(k.ev e h).bind λk=>(x.ev e h).bind λx=>(tT h kd m k).bind λq=>match q.2.2.2 with
  |some i=>some (true,{v:= .bz [],n,rd:=[q.1],md:=[(q.1,some {q.2.1 with cells:=q.2.1.cells.set i x,mp:=some q.2.2.1})]})
  |none=>some (Nat.beq q.2.1.cells.length q.2.2.1.len,{v:= .bz [],n,rd:=[q.1],md:=[(q.1,some {q.2.1 with cells:=q.2.1.cells++[x],mp:=some (q.2.2.1.push k)})]})
 | .Q5 m=>(m.ev e h).bind λm=>match m with
  | .m b=>(aa h b).bind λK=>match K.ro,K.gr,K.mp with
   |false,none,some ks=>some (true,{v:= .i .i64 ks.len,n,rd:=[b]})
   |_,_,_=>none
  |_=>none
 | .mpD kd m k=>(m.ev e h).bind λm=>(k.ev e h).bind λk=>(tT h kd m k).bind λq=>match q.2.2.2 with
  |some i=>some (true,{v:= .bz [],n,rd:=[q.1],md:=[(q.1,some {q.2.1 with cells:=q.2.1.cells.eraseIdx i,mp:=some (q.2.2.1.del i)})]})
  |none=>some (true,{v:= .bz [],n,rd:=[q.1],md:=[(q.1,some {q.2.1 with cells:=q.2.1.cells,mp:=some q.2.2.1})]})
 | .tas t z x=>(x.ev e h).bind λv=>match v with
  | .ni=>pe (.bz [z,.b false]) n
  | .k t' u=>match Nat.beq t' t with
   |true=>(xS u).bind λv=>pe (.bz [v,.b true]) n
   |false=>pe (.bz [z,.b false]) n
  |_=>none
 | .ZK neg x=>(x.ev e h).bind λv=>match v with
  | .ni=>pe (.b (!neg)) n
  | .k _ _=>pe (.b neg) n
  |_=>none
 | .S6 _=>none
 | .rcv=>none
 | .BW _ _=>none
 | .call _ _=>none
 | .bad=>none
def Dn (D:Nat->Prop) (n m:Nat):Nat->Prop:=λb=>D b\/(n<=b/\b<m)
def fE (P:Program) (D:Nat->Prop) (φ:bP) (H:Hf) (w:World) (n:Nat) (E:bV) (r:Result Next):Prop:=
 ∃φ' u nx w',r= .ok nx w'/\(nx= .value u\/(nx= .skip/\u=undef))/\n<=E.n/\aK (Dn D n E.n) φ' E.v u/\dU D φ H w (Dn D n E.n) φ' (E.app H) w'∧
  (∀b k,E.app H b=some k->k.ro=true->H b=some k)/\(∀b r,cy E.md b=some r->inl E.rd b=true)/\(∀b k,aa E.nw b=some k->n<=b/\b<E.n)
theorem F4 {D:Nat->Prop} {n:Nat} {b:Nat}:Dn D n n b↔D b:=
 ⟨λh=>h.elim id (λh=>by omega),.inl⟩
theorem fE.pure {P:Program} {D:Nat->Prop} {φ:bP} {H:Hf} {w:World} {n:Nat} {v:AV} {rd:List Nat} {u:Value} {r:Result Next} (hr:r= .ok (.value u) w) (hH:HR D φ H w) (hv:aK D φ v u):
 fE P D φ H w n {v,n,rd} r:=by
 have e:(bV.app {v,n,rd} H)=H:=by funext b;rfl
 have hd: ∀b,D b->Dn D n n b:=λb h=> .inl h;refine ⟨φ,u,_,w,hr,.inl rfl,bx _,hv.mono hd (cT.refl _ _),?_,λb k h _=>by simp_all,λb r h=>by simp [cy] at h,λb k h=>by simp [aa] at h⟩
 rw [e];exact dU.mk' hH rfl rfl hd (cT.refl D φ).at_ ⟨λb k hb=>⟨hd b (hH.at_ b k hb).1,(hH.at_ b k hb).2.mono hd (cT.refl _ _) (hH.at_ b k hb).1 rfl⟩,hH.sep⟩ (GN.refl _ _ _) λb k hb hk=> .inr ⟨b,k,hb,hk,rfl⟩
def bP.set (φ:bP) (n cI cap fO:Nat):bP where
 cI b:=if b=n then cI else φ.cI b
 off b:=if b=n then 0 else φ.off b
 cap b:=if b=n then cap else φ.cap b
 fO b:=if b=n then fO else φ.fO b
 fz:=φ.fz
 lp:=φ.lp
theorem bP.y5 {D:Nat->Prop} {φ:bP} {n cI cap fO:Nat} (hn: ¬D n):cT D φ (φ.set n cI cap fO):=⟨λb hb=>by
 grind [bP.set],λ_ _ h=>h,rfl⟩
def bP.rQ (φ:bP) (n cI off cap fO:Nat):bP where
 cI b:=if b=n then cI else φ.cI b
 off b:=if b=n then off else φ.off b
 cap b:=if b=n then cap else φ.cap b
 fO b:=if b=n then fO else φ.fO b
 fz:=φ.fz
 lp:=φ.lp
theorem bP.Dy {D:Nat->Prop} {φ:bP} {n cI off cap fO:Nat} (hn: ¬D n):cT D φ (φ.rQ n cI off cap fO):=⟨λb hb=>by
 grind [bP.rQ],λ_ _ h=>h,rfl⟩
theorem mD {l:Array Obj} {o:Obj} {c:Nat} (h:c<l.size):(l.push o)[c]? =l[c]? :=by
 grind
theorem dU.alloc {D:Nat->Prop} {φ:bP} {H:Hf} {w w':World} {n:Nat} {z:List AV} {cs:Array Value} {elem:TypeId} {fr:Nat×Nat} {g:Option Nat} {cap fO:Nat}
 (hH:HR D φ H w) (hn: ¬D n) (hw:w'.heap=w.heap.push (.cells cs elem fr)) (hos:w'.os=w.os) (htape:w'.tape=w.tape) (hout:w'.output=w.output)
 (hz: ∀(i:Nat) (v:AV),z[i]? =some v-> ∃u,cs[i]? =some u/\aK D φ v u) (hfr: ∀i,(i<cs.size\/i=cs.size/\g≠some 1)-> ¬(fr.1<=i/\i<fr.2)) (hg: ∀e,g=some e->fO=e/\cs.size=cap*e):
 dU D φ H w (Dn D n (n+1)) (φ.set n w.heap.size cap fO) (λb=>if b=n then some {cells:=z,gr:=g} else H b) w':=by
 have hD: ∀b,D b->Dn D n (n+1) b:=λb h=> .inl h;have hnn: ¬D n:=hn;have hag:= @bP.y5 D φ n w.heap.size cap fO hnn;have hold: ∀c,c<w.heap.size->w'.heap[c]? =w.heap[c]? :=λc hc=>by grind
 have hsz:w'.heap.size=w.heap.size+1:=by rw [hw];simp
 have hne: ∀b k,H b=some k->b≠n:=λb k hb e=>hnn (e▸(hH.at_ b k hb).1);refine dU.mk' hH rfl rfl hD hag.at_ ⟨λb k hb=> ?_,λb1 b2 k1 k2 hne' h1 h2 hk=> ?_⟩ ⟨hos,htape,hout,by omega,λc hc _=>hold c hc⟩ λb k hb hk=> ?_
 ·by_cases hbn:b=n
  ·subst hbn;simp at hb;subst hb;refine ⟨.inr ⟨bx _,by omega⟩,⟨⟨cs,elem,fr,.mk rfl (by simp [bP.set,hw]),λi v hv=> ?_,λ_=>⟨by simp [bP.set],hfr⟩,λe he=>⟨rfl,by grind [bP.set],by grind [bP.set]⟩⟩,λg' h=>by simp at h⟩⟩
   obtain ⟨u,hu,hvu⟩:=hz i v hv;exact ⟨u,by grind [bP.set],hvu.mono hD hag⟩
  ·rw [aY hbn] at hb;have h':=hH.at_ b k hb;exact ⟨hD b h'.1,h'.2.mono hD hag h'.1 (hold _ h'.2.lt)⟩
 ·by_cases hb1:b1=n<;>by_cases hb2:b2=n
  ·omega
  ·rw [aY hb2] at h2;have:=(hH.at_ b2 k2 h2).2.lt
   grind [bP.set]
  ·rw [aY hb1] at h1;have:=(hH.at_ b1 k1 h1).2.lt
   grind [bP.set]
  ·rw [aY hb1] at h1;rw [aY hb2] at h2;simp [bP.set,hb1,hb2];exact hH.sep b1 b2 k1 k2 hne' h1 h2 hk
 ·by_cases hbn:b=n
  ·grind [bP.set]
  ·rw [aY hbn] at hb
   grind [bP.set]
theorem qx {v:AV} {n m:Nat} {rd:List Nat} {k:bp} {H:Hf}:(bV.app {v,n:=m,rd,nw:=[(n,k)]} H)=λb=>if b=n then some k else H b:=by
 funext b;simp only [bV.app,cy,aa];by_cases h:b=n
 ·subst h;simp
 ·have:Nat.beq n b=false:=by
   rw [Bool.eq_false_iff];simp_all;omega
  grind
theorem fE.alloc {P:Program} {D:Nat->Prop} {φ:bP} {H:Hf} {w w':World} {n:Nat} {z:List AV} {cs:Array Value} {elem:TypeId} {fr:Nat×Nat} {g:Option Nat} {cap fO:Nat} {v:AV} {rd:List Nat} {u:Value} {r:Result Next}
 (hr:r= .ok (.value u) w')
 (hH:HR D φ H w) (hn: ¬D n) (hw:w'.heap=w.heap.push (.cells cs elem fr)) (hos:w'.os=w.os) (htape:w'.tape=w.tape) (hout:w'.output=w.output)
 (hz: ∀(i:Nat) (v:AV),z[i]? =some v-> ∃u,cs[i]? =some u/\aK D φ v u) (hfr: ∀i,(i<cs.size\/i=cs.size/\g≠some 1)-> ¬(fr.1<=i/\i<fr.2)) (hg: ∀e,g=some e->fO=e/\cs.size=cap*e)
 (hv:aK (Dn D n (n+1)) (φ.set n w.heap.size cap fO) v u):
 fE P D φ H w n {v,n:=n+1,rd,nw:=[(n,{cells:=z,gr:=g})]} r:=by
 have hnn: ∀b k,H b=some k->b≠n:=λb k hb e=>hn (e▸(hH.at_ b k hb).1);refine ⟨φ.set n w.heap.size cap fO,u,_,w',hr,.inl rfl,by simp,hv,by rw [qx];exact dU.alloc hH hn hw hos htape hout hz hfr hg,λb k hb hk=> ?_,λb r h=>by simp [cy] at h,λb k h=> ?_⟩
 all_goals grind [qx,aa,Nat.beq,ee]
theorem dq {l:Array Obj} {o:Obj} {c d:Nat} (hc:c<l.size):(l.setIfInBounds c o)[d]? =if c=d then some o else l[d]? :=by
 grind
theorem dU.write {D:Nat->Prop} {φ:bP} {H:Hf} {w w':World} {b:Nat} {k:bp} {cs cs':Array Value} {elem:TypeId} {fr:Nat×Nat} {xs:List AV}
 (hH:HR D φ H w) (hb:H b=some k) (hro:k.ro=false) (hk:w.heap[φ.cI b]? =some (.cells cs elem fr)) (hw:w'.heap=w.heap.setIfInBounds (φ.cI b) (.cells cs' elem fr))
 (hos:w'.os=w.os) (htape:w'.tape=w.tape) (hout:w'.output=w.output) (hsize:cs'.size=cs.size)
 (hz: ∀(i:Nat) (v:AV),xs[i]? =some v-> ∃u,cs'[φ.off b+i]? =some u/\aK D φ v u):
 dU D φ H w D φ (λc=>if c=b then some {k with cells:=xs} else H c) w':=by
 have hlt:=(hH.at_ b k hb).2.lt;have hne: ∀c,c≠φ.cI b->w'.heap[c]? =w.heap[c]? :=λc hc=>by grind
 refine dU.mk' hH rfl rfl (λ_ h=>h) (cT.refl D φ).at_ ⟨λc k' hc=> ?_,λb1 b2 k1 k2 hne' h1 h2 hk'=> ?_⟩ ⟨hos,htape,hout,by rw [hw];simp,λc hc hn=>hne c (λe=>hn b k hb hro e.symm)⟩ λc k' hc hk'=> ?_
 ·by_cases hcb:c=b
  ·subst hcb;simp at hc;subst hc;obtain ⟨hd,⟨⟨cs0,elem0,fr0,h1,h2,h3,h4⟩,h5⟩⟩:=hH.at_ c k hb;obtain ⟨hmp,rfl,rfl,rfl⟩:=h1.of hk;refine ⟨hd,⟨⟨cs',elem,fr,.mk hmp (by grind),λi v hv=> ?_,λ_=>⟨(h3 hro).1,λi hi=>(h3 hro).2 i (by grind)⟩,λe he=>⟨hro,(h4 e he).2.1,by grind⟩⟩,h5⟩⟩
   grind
  ·rw [aY hcb] at hc;have h':=hH.at_ c k' hc;exact ⟨h'.1,h'.2.mono (λ_ h=>h) (cT.refl _ _) h'.1 (hne _ (λe=>hH.sep b c k k' (s5 hcb) hb hc hro e.symm))⟩
 ·have key: ∀c k',(if c=b then some {k with cells:=xs} else H c)=some k'-> ∃k0,H c=some k0/\k0.ro=k'.ro:=λc k' hc=>by
   grind
  obtain ⟨Mq,g1,r1⟩:=key b1 k1 h1;obtain ⟨Ks,g2,r2⟩:=key b2 k2 h2;exact hH.sep b1 b2 Mq Ks hne' g1 g2 (r1.trans hk')
 grind
theorem bO {n b:Nat} (h: ¬b=n):Nat.beq n b=false:=by
 rw [Bool.eq_false_iff];simp_all;omega
theorem qN {v:AV} {n b:Nat} {rd:List Nat} {k:bp} {H:Hf}:(bV.app {v,n,rd,md:=[(b,some k)]} H)=λc=>if c=b then some k else H c:=by
 funext c;simp only [bV.app,cy,aa];by_cases h:c=b
 all_goals simp_all [bO]
theorem fE.write {P:Program} {D:Nat->Prop} {φ:bP} {H:Hf} {w w':World} {n b:Nat} {k:bp} {cs cs':Array Value} {elem:TypeId} {fr:Nat×Nat} {xs:List AV} {v:AV} {u:Value} {nx:Next} {rd:List Nat} {r:Result Next}
 (hr:r= .ok nx w') (hnx:nx= .value u\/(nx= .skip/\u=undef)) (hv:aK D φ v u) (hrd:inl rd b=true)
 (hH:HR D φ H w) (hb:H b=some k) (hro:k.ro=false) (hk:w.heap[φ.cI b]? =some (.cells cs elem fr)) (hw:w'.heap=w.heap.setIfInBounds (φ.cI b) (.cells cs' elem fr))
 (hos:w'.os=w.os) (htape:w'.tape=w.tape) (hout:w'.output=w.output) (hsize:cs'.size=cs.size)
 (hz: ∀(i:Nat) (v:AV),xs[i]? =some v-> ∃u,cs'[φ.off b+i]? =some u/\aK D φ v u):
 fE P D φ H w n {v,n,rd,md:=[(b,some {k with cells:=xs})]} r:=by
 have h:=dU.write hH hb hro hk hw hos htape hout hsize hz;have hd: ∀b,D b->Dn D n n b:=λb h=> .inl h;have e:Dn D n n=D:=by grind [F4]
 refine ⟨φ,u,nx,w',hr,hnx,bx _,hv.mono hd (cT.refl _ _),by grind [qN],λc k' hc hk'=> ?_,λc r hc=> ?_,λb k h=>by simp [aa] at h⟩
 all_goals grind [qN,cy,bO]
theorem fE.U0 {P:Program} {D:Nat->Prop} {φ:bP} {H:Hf} {w w':World} {n b e p cp:Nat} {k:bp} {cs cs':Array Value} {elem:TypeId} {fr:Nat×Nat} {xs:List AV} {v:AV} {u:Value} {rd:List Nat} {r:Result Next}
 (hr:r= .ok (.value u) w') (hrd:inl rd b=true) (hn: ¬D n)
 (hH:HR D φ H w) (hb:H b=some k) (hgr:k.gr=some e) (hk:w.heap[φ.cI b]? =some (.cells cs elem fr)) (hw:w'.heap=w.heap.setIfInBounds (φ.cI b) (.cells cs' elem fr))
 (hos:w'.os=w.os) (htape:w'.tape=w.tape) (hout:w'.output=w.output) (hsize:cs'.size=cs.size)
 (hp:p+cp*e=cs.size) (hz: ∀(i:Nat) (v:AV),xs[i]? =some v-> ∃u,cs'[p+i]? =some u/\aK D φ v u)
 (hv:aK (Dn D n (n+1)) (φ.rQ n (φ.cI b) p cp e) v u):
 fE P D φ H w n {v,n:=n+1,rd,md:=[(b,none)],nw:=[(n,{cells:=xs,gr:=some e})]} r:=by
 have hD: ∀b,D b->Dn D n (n+1) b:=λb h=> .inl h;have hnn: ¬D n:=hn;have hag:= @bP.Dy D φ n (φ.cI b) p cp e hnn;obtain ⟨hdb,⟨⟨cs0,elem0,fr0,h1,h2,h3,h4⟩,h5⟩⟩:=hH.at_ b k hb;have hlt:=(hH.at_ b k hb).2.lt;obtain ⟨hmp,rfl,rfl,rfl⟩:=h1.of hk;obtain ⟨hro,hesz,hcap⟩:=h4 e hgr;have hbn:b≠n:=λe=>hnn (e▸hdb);have happ:(bV.app {v,n:=n+1,rd,md:=[(b,none)],nw:=[(n,{cells:=xs,gr:=some e})]} H)=λc=>if c=b then none else if c=n then some {cells:=xs,gr:=some e} else H c:=by
  funext c;simp only [bV.app,cy,aa];by_cases h:c=b
  ·subst h;simp
  ·by_cases h':c=n
   all_goals simp_all [bO]
 have hne: ∀c,c≠φ.cI b->w'.heap[c]? =w.heap[c]? :=λc hc=>by grind
 refine ⟨φ.rQ n (φ.cI b) p cp e,u,_,w',hr,.inl rfl,by simp,hv,?_,λc k' hc hk'=> ?_,λc r hc=> ?_,λc k' h=> ?_⟩
 ·rw [happ];refine dU.mk' hH rfl rfl hD hag.at_ ⟨λc k' hc=> ?_,λb1 b2 k1 k2 hne' g1 g2 hk'=> ?_⟩ ⟨hos,htape,hout,by rw [hw];simp,λc hc hn=>hne c (λe=>hn b k hb hro e.symm)⟩ λc k' hc hk'=> ?_
  ·by_cases hcb:c=b
   ·grind
   ·rw [aY hcb] at hc;by_cases hcn:c=n
    ·subst hcn;simp at hc;subst hc;refine ⟨.inr ⟨bx _,gw _⟩,⟨⟨cs',elem,fr,.mk rfl (by grind [bP.rQ,dq]),λi v hv=> ?_,λ_=>⟨λh=>(by cases h),λi hi=>(h3 hro).2 i (by grind)⟩,λe' he=> ?_⟩,λg' h=>by simp at h⟩⟩
     ·obtain ⟨u,hu,hvu⟩:=hz i v hv;exact ⟨u,by grind [bP.rQ],hvu.mono hD hag⟩
     grind [bP.rQ]
    ·rw [aY hcn] at hc;have h':=hH.at_ c k' hc;exact ⟨hD c h'.1,h'.2.mono hD hag h'.1 (hne _ (λe=>hH.sep b c k k' (s5 hcb) hb hc hro e.symm))⟩
  ·have hb1:b1≠b:=λe=>by grind
   have hb2:b2≠b:=λe=>by grind
   rw [aY hb1] at g1;rw [aY hb2] at g2;by_cases hb1n:b1=n<;>by_cases hb2n:b2=n
   ·omega
   ·rw [aY hb2n] at g2;simp [bP.rQ,hb1n,hb2n];exact hH.sep b b2 k k2 (s5 hb2) hb g2 hro
   ·rw [aY hb1n] at g1;simp [bP.rQ,hb1n,hb2n];exact hH.sep b1 b k1 k hb1 g1 hb hk'
   ·rw [aY hb1n] at g1;rw [aY hb2n] at g2;simp [bP.rQ,hb1n,hb2n];exact hH.sep b1 b2 k1 k2 hne' g1 g2 hk'
  ·have hcb:c≠b:=λe=>by grind
   rw [aY hcb] at hc;by_cases hcn:c=n
   ·grind [bP.rQ]
   ·rw [aY hcn] at hc
    grind [bP.rQ]
 ·grind
 all_goals grind [cy,bO,aa]
theorem fE.NM {P:Program} {D:Nat->Prop} {φ:bP} {H:Hf} {w w':World} {n b e cap:Nat} {cs:Array Value} {elem:TypeId} {fr:Nat×Nat} {xs:List AV} {v:AV} {u:Value} {rd:List Nat} {r:Result Next}
 (hr:r= .ok (.value u) w') (hrd:inl rd b=true) (hn: ¬D n) (hdb:D b)
 (hH:HR D φ H w) (hw:w'.heap=w.heap.push (.cells cs elem fr)) (hos:w'.os=w.os) (htape:w'.tape=w.tape) (hout:w'.output=w.output)
 (hz: ∀(i:Nat) (v:AV),xs[i]? =some v-> ∃u,cs[i]? =some u/\aK D φ v u) (hfr: ∀i,(i<cs.size\/i=cs.size/\some e≠some 1)-> ¬(fr.1<=i/\i<fr.2)) (hcap:cs.size=cap*e)
 (hv:aK (Dn D n (n+1)) (φ.set n w.heap.size cap e) v u):
 fE P D φ H w n {v,n:=n+1,rd,md:=[(b,none)],nw:=[(n,{cells:=xs,gr:=some e})]} r:=by
 have hnn: ¬D n:=hn;have hbn:b≠n:=λe=>hnn (e▸hdb);have hst:= @dU.alloc D φ H w w' n xs cs elem fr (some e) cap e hH hn hw hos htape hout hz hfr (λe' he=>by grind)
 have happ:(bV.app {v,n:=n+1,rd,md:=[(b,none)],nw:=[(n,{cells:=xs,gr:=some e})]} H)=λc=>if c=b then none else if c=n then some {cells:=xs,gr:=some e} else H c:=by
  funext c;simp only [bV.app,cy,aa];by_cases h:c=b
  ·subst h;simp
  ·by_cases h':c=n
   all_goals simp_all [bO]
 refine ⟨φ.set n w.heap.size cap e,u,_,w',hr,.inl rfl,by simp,hv,?_,λc k' hc hk'=> ?_,λc r hc=> ?_,λc k' h=> ?_⟩
 ·rw [happ];have sub: ∀c k,(if c=b then none else if c=n then some {cells:=xs,gr:=some e} else H c)=some k->(if c=n then some {cells:=xs,gr:=some e} else H c)=some k:=λc k hc=>by
   grind
  exact dU.mk' hH rfl rfl hst.sub hst.agree.at_ ⟨λc k hc=>hst.hr.at_ c k (sub c k hc),λb1 b2 k1 k2 hne h1 h2 hk=>hst.hr.sep b1 b2 k1 k2 hne (sub _ _ h1) (sub _ _ h2) hk⟩ hst.eF λc k hc hk=>hst.qL c k (sub c k hc) hk
 ·grind
 all_goals grind [cy,bO,aa]
theorem Addr.add_eq (b o i:Nat):(⟨b,o,none⟩:Addr).add i=⟨b,o+i,none⟩:=by
 simp [Addr.add]
theorem Cq {w:World} {c o:Nat} {cs:Array Value} {elem:TypeId} {fr:Nat×Nat} (h:w.heap[c]? =some (.cells cs elem fr)):w.cell? ⟨c,o,none⟩=cs[o]? :=by
 simp [World.cell?,h]
theorem Em {w:World} {c o:Nat} {cs:Array Value} {elem:TypeId} {lo hi:Nat} (h:w.heap[c]? =some (.cells cs elem (lo,hi))):w.frozen? ⟨c,o,none⟩=(decide (lo<=o)&&decide (o<hi)):=by
 simp [World.frozen?,h]
theorem pg {P:Program} {w:World} {c o:Nat} {cs:Array Value} {elem:TypeId} {fr:Nat×Nat} {u:Value} (h:w.heap[c]? =some (.cells cs elem fr)) (hu:cs[o]? =some u):
 (load ⟨c,o,none⟩).run P w= .ok u w:=by
 rw [run_load,Cq h,hu]
theorem run_loadCellsFrom {P:Program} {w:World} {c o:Nat} {cs:Array Value} {elem:TypeId} {fr:Nat×Nat} (h:w.heap[c]? =some (.cells cs elem fr)):
 ∀(n i:Nat) (acc:Array Value),o+i+n<=cs.size->(loadCellsFrom ⟨c,o,none⟩ i n acc).run P w= .ok (acc++(cs.toList.drop (o+i)).take n) w:=by
 intro n;induction n with
 |zero=>intro i acc _;simp [loadCellsFrom]
 |succ n ih=>
  intro i acc hle;have hlt:o+i<cs.size:=by omega
  have hu:cs[o+i]? =some cs[o+i]:=by simp [hlt]
  simp only [loadCellsFrom,Sem.run_bind,Addr.add_eq];rw [pg h hu];simp only [Result.andThen_ok];rw [ih (i+1) _ (by omega)]
  congr 1;have e1:List.drop (o+i) cs.toList=cs[o+i]::List.drop (o+(i+1)) cs.toList:=by
   grind [Array.getElem_toList,rE]
  rw [e1,FK];apply Array.ext';simp
theorem run_loadCells {P:Program} {w:World} {c o n:Nat} {cs:Array Value} {elem:TypeId} {fr:Nat×Nat} (h:w.heap[c]? =some (.cells cs elem fr)) (hle:o+n<=cs.size):
 (loadCells ⟨c,o,none⟩ n).run P w= .ok ((cs.toList.drop o).take n).toArray w:=by
 grind [loadCells,run_loadCellsFrom]
theorem qa {P:Program} {c o:Nat} {elem:TypeId} {lo hi:Nat}:
 ∀(vs:List Value) (i:Nat) (w:World) (cs:Array Value),w.heap[c]? =some (.cells cs elem (lo,hi))->(∀j,j<cs.size-> ¬(lo<=j/\j<hi))->o+i+vs.length<=cs.size→
  (∀v∈vs,v.oneCell'=true)→
  ∃w',(storeCells ⟨c,o,none⟩ vs i).run P w= .ok () w'/\w'.os=w.os/\w'.tape=w.tape/\w'.output=w.output∧
   w'.heap=w.heap.setIfInBounds c (.cells (cs.toList.take (o+i)++vs++cs.toList.drop (o+i+vs.length)).toArray elem (lo,hi)):=by
 intro vs;induction vs with
 |nil=>
  intro i w cs h _ _ _;have hlt:c<w.heap.size:=by
   grind
  refine ⟨w,by rfl,rfl,rfl,rfl,?_⟩
  simp only [dh,fP,kA,jr];apply Array.ext_getElem?;intro d;rw [dq hlt];split
  ·simp_all
  ·rfl
 |cons v vs ih=>
  intro i w cs h hfr hle hone;have hlt:c<w.heap.size:=by
   grind
  simp only [List.length_cons] at hle;have hoi:o+i<cs.size:=by omega
  have iH:(w.setCell ⟨c,o+i,none⟩ v).heap=w.heap.setIfInBounds c (.cells (cs.setIfInBounds (o+i) v) elem (lo,hi)):=by
   apply Array.ext_getElem?
   grind [dq,World.setCell,Array.getElem?_modify]
  have h1:(w.setCell ⟨c,o+i,none⟩ v).heap[c]? =some (.cells (cs.setIfInBounds (o+i) v) elem (lo,hi)):=by
   grind
  obtain ⟨w',hr,ho,ht,hou,hh⟩:=ih (i+1) _ _ h1 (λj hj=>hfr j (by grind)) (by simp;omega) (λx hx=>hone x (hJ _ hx))
  refine ⟨w',?_,ho.trans rfl,ht.trans rfl,hou.trans rfl,?_⟩
  ·simp only [storeCells,Sem.run_bind,Addr.add_eq];rw [run_store _ _ _ _ _ (hone v (iQ)),Cq h,Em h];simp_all
  ·rw [hh,iH];apply Array.ext_getElem?;intro d;rw [dq (by grind),dq hlt,dq hlt]
   split
   ·congr 2;apply Array.ext';simp only [Array.toList_setIfInBounds,List.length_cons];apply nk;intro j;have hl:cs.toList.length=cs.size:=by simp
    simp only [mM,kJ,oA,cm,fY,List.length_set,Aa,hl,List.getElem?_cons,List.length_cons]
    grind
   ·rfl
def cO:Operand->Option cq
 | .tmp t=>some (.t t)
 | .const v=>(xS v).map .c
 | .global g=>some (.g g)
 | .func f=>if Nat.beq f YB then none else some (.c (.fn f []))
def yu:List Operand->Option (List cq)
 |[]=>some []
 |y::r=>(cO y).bind λx=>(yu r).bind λxs=>some (x::xs)
def Dz:Option Operand->Option (Option cq)
 |none=>some none
 |some y=>(cO y).map some
def eY (P:Program) (t:TypeId):Option Bool:=
 match P.underlying t with
 |some (.struct _)=>some true
 |some (.array _ _)=>some true
 |some _=>some false
 |none=>none
def fh (P:Program) (t:TypeId):Option Nat:=(P.info? t).map (·.size)
def eW (P:Program) (t:TypeId):Option (List AV):=(P.info? t).bind λi=>i.zero.bind λz=>nF z.cells.toList
def zI:List Value->Nat->Bool
 |[],n=>match n with
  |0=>true
  |_+1=>false
 |x::r,n=>match n with
  |0=>false
  |m+1=>match x with
   | .int .i64 (.ofNat 0)=>zI r m
   |_=>false
def zB:List Value->Nat->Bool
 |[],n=>match n with
  |0=>true
  |_+1=>false
 |x::r,n=>match n with
  |0=>false
  |m+1=>match x with
   | .bool false=>zB r m
   |_=>false
def Ia (n:Nat) (v:AV):List AV:=List.replicate n v
theorem T7: ∀{l:List Value} {n:Nat},zI l n=true->nF l=some (Ia n (.i .i64 0))
 |[],0,_=>rfl
 |[],_+1,h=>by simp [zI] at h
 |_::_,0,h=>by simp [zI] at h
 |x::r,m+1,h=>by
  simp only [zI] at h;split at h
  ·simp only [nF,yh,aC,T7 h,Ia,GO];rfl
  ·cases h
theorem Uf: ∀{l:List Value} {n:Nat},zB l n=true->nF l=some (Ia n (.b false))
 |[],0,_=>rfl
 |[],_+1,h=>by simp [zB] at h
 |_::_,0,h=>by simp [zB] at h
 |x::r,m+1,h=>by
  simp only [zB] at h;split at h
  ·simp only [nF,yh,aC,Uf h,Ia,GO]
  ·cases h
def Bu (P:Program) (t:TypeId):Option (List AV):=match P.underlying t with
 |some (.array m _)=>match Nat.ble 1000 m with
  |true=>(P.info? t).bind λi=>i.zero.bind λz=>match zI z.cells.toList m with
   |true=>some (Ia m (.i .i64 0))
   |false=>match zB z.cells.toList m with
    |true=>some (Ia m (.b false))
    |false=>none
  |false=>eW P t
 |_=>eW P t
theorem Ea {P:Program} {t:TypeId} {z:List AV} (h:Bu P t=some z):eW P t=some z:=by
 unfold Bu at h
 grind [av,eW,aC,T7,Uf]
def nY (P:Program) (t:TypeId) (f:Nat):Option (Nat×Nat×TypeId):=
 match P.underlying t with
 |some (.struct fs)=>(fs[f]?).bind λfl=>(fh P fl.type).map λz=>(fl.offset,z,fl.type)
 |_=>none
def qP (P:Program) (t:TypeId):List (Nat×Operand)->Option (List (Nat×Nat×cq))
 |[]=>some []
 |(i,y)::r=>(nY P t i).bind λq=>(cO y).bind λx=>(qP P t r).bind λxs=>some ((q.1,q.2.1,x)::xs)
def mg (z:Nat):List (Nat×Operand)->Option (List (Nat×Nat×cq))
 |[]=>some []
 |(i,y)::r=>(cO y).bind λx=>(mg z r).bind λxs=>some ((i*z,z,x)::xs)
def pj (P:Program) (f:TypeId->Option (List Kd)):List Field->Nat->Option (List Kd)
 |[],_=>some []
 |fl::r,off=>if fl.name≠ "_" ∧fl.offset=off then (f fl.type).bind λks=>if fh P fl.type=some ks.length then (pj P f r (off+ks.length)).map (ks++ ·) else none else none
def vI (ks:List Kd):Nat->List Kd
 |0=>[]
 |n+1=>ks++vI ks n
def s9 (P:Program):Nat->TypeId->Option (List Kd)
 |0,_=>none
 |d+1,t=>match P.underlying t with
  |some .bool=>some [.b]
  |some (.int _)=>some [.i]
  |some .string=>some [.s]
  |some (.struct fs)=>if P.stoodInHeld t=false then pj P (s9 P d) fs.toList 0 else none
  |some (.array len e)=>(s9 P d e).bind λks=>if fh P e=some ks.length then some (vI ks len) else none
  |_=>none
def AB (P:Program) (t:TypeId):Bool:= !P.eqGuardType P.depth t
def Gv (P:Program) (t:TypeId):Option Nat:=
 match P.underlying t with
 |some (.pointer _)=>some 0
 |some (.slice _)=>some 1
 |some (.func _ _ _)=>some 2
 |_=>none
def bad:Option j8:=some .bad
def bE (o:Option j8):j8:=o.getD .bad
def cN (P:Program) (o:Op):j8:=
 match o with
 | .move x=>bE<|(cO x).map .mv
 | .assign x=>bE<|(cO x).map .mv
 | .pick c a b=>bE<|(cO c).bind λc=>(cO a).bind λa=>(cO b).map λb=> .pick c a b
 | .alloc t=>bE<|(Bu P t).map .new
 | .box t x=>bE<|(cO x).map .box
 | .build t ps=>match P.underlying t with
  |some (.struct fs)=>bE<|(eW P t).bind λz=>if fs.all λf=>(P.info? f.type).isSome then (qP P t ps.toList).map λl=> .build z l else none
  |some (.array _ e)=>bE<|(eW P t).bind λz=>(fh P e).bind λs=>(mg s ps.toList).map λl=> .build z l
  |_=> .bad
 | .buildSlice t len ps=>match P.underlying t with
  |some (.slice e)=>bE<|(eW P e).bind λz=>(fh P e).bind λs=>if z.length=s/\len*s<=2^24 then (mg s ps.toList).map λl=> .ZX (dA z len) len l else none
  |_=> .bad
 | .load t a=>bE<|(eY P t).bind λg=>(fh P t).bind λz=>(cO a).map λa=> .ld g z a
 | .store t a x=>bE<|(fh P t).bind λz=>(cO a).bind λa=>(cO x).map λx=> .st z a x
 | .nilCheck x=>bE<|(cO x).map .ZH
 | .binOp op t x y _=>match P.underlying t with
  |some (.int _)=>bE<|(cO x).bind λx=>(cO y).map λy=> .bin op x y
  |some .string=>bE<|(cO x).bind λx=>(cO y).map λy=> .bin op x y
  |some (.interface _)=>match op,y with
   | .eql,.const .nilIface=>bE<|(cO x).map λx=> .ZK false x
   | .neq,.const .nilIface=>bE<|(cO x).map λx=> .ZK true x
   |_,_=> .bad
  |_=>match Gv P t with
   |some k=>(match op with
    | .eql=>bE<|(cO x).bind λx=>(cO y).map λy=> .Iz false k x y
    | .neq=>bE<|(cO x).bind λx=>(cO y).map λy=> .Iz true k x y
    |_=> .bad)
   |none=>if AB P t then (match op with
    | .eql=>bE<|(s9 P 9 t).bind λks=>(eY P t).bind λg=>(cO x).bind λx=>(cO y).map λy=> .J4 false g ks x y
    | .neq=>bE<|(s9 P 9 t).bind λks=>(eY P t).bind λg=>(cO x).bind λx=>(cO y).map λy=> .J4 true g ks x y
    |_=> .bad) else .bad
 | .unOp op _ x=>match op with
  | .not=>bE<|(cO x).map .not
  | .neg=>bE<|(cO x).map .neg
  |_=> .bad
 | .convert s d x=>match P.underlying s,P.underlying d with
  |some (.int _),some (.int k)=>bE<|(cO x).map λx=> .Dw k x
  |some .string,some .string=>bE<|(cO x).map .idc
  |some .string,some (.slice e)=>match P.underlying e with
   |some (.int .u8)=>bE<|(cO x).map .s2b
   |_=> .bad
  |some (.slice e),some .string=>match P.underlying e with
   |some (.int .u8)=>bE<|(cO x).map .b2s
   |_=> .bad
  |_,_=> .bad
 | .makeFunc (.func f) first caps=>if first.size=0&& !Nat.beq f YB then bE<|(yu caps.toList).map λl=> .N7 f l else if caps.size=0&& !Nat.beq f YB then bE<|(yu first.toList).map λl=> .mkm f l else .bad
 | .slice t x lo hi mx=>if mx.isSome&&hi.isNone then .bad else match P.underlying t with
  |some .string=>match mx with
   |none=>bE<|(cO x).bind λx=>(Dz lo).bind λlo=>(Dz hi).map λhi=> .slS x lo hi
   |some _=> .bad
  |some (.slice e)=>bE<|(fh P e).bind λz=>(cO x).bind λx=>(Dz lo).bind λlo=>(Dz hi).bind λhi=>(Dz mx).map λmx=> .vW z x lo hi mx
  |some (.array n e)=>bE<|(fh P e).bind λz=>(cO x).bind λx=>(Dz lo).bind λlo=>(Dz hi).bind λhi=>(Dz mx).map λmx=> .slA n z x lo hi mx
  |_=> .bad
 | .fieldAddr t x f=>bE<|(nY P t f).bind λq=>if q.2.1=0 then none else (cO x).map λx=> .fa q.1 x
 | .field t x f=>bE<|(nY P t f).bind λq=>(eY P q.2.2).bind λg=>(cO x).map λx=> .fld g q.2.1 q.1 x
 | .indexAddr t x i=>match P.underlying t with
  |some (.array n e)=>bE<|(fh P e).bind λz=>(cO x).bind λx=>(cO i).map λi=> .PV n z x i
  |some (.slice e)=>bE<|(fh P e).bind λz=>(cO x).bind λx=>(cO i).map λi=> .uS z x i
  |_=> .bad
 | .index t x i=>match P.underlying t with
  |some (.array n e)=>bE<|(fh P e).bind λz=>(eY P e).bind λg=>(cO x).bind λx=>(cO i).map λi=> .ixA n z g x i
  |some .string=>bE<|(cO x).bind λx=>(cO i).map λi=> .oJ x i
  |_=> .bad
 | .extract x i=>bE<|(cO x).map λx=> .ext x i
 | .makeInterface t x=>match P.underlying t with
  |some (.interface _)=> .bad
  |some _=>bE<|(cO x).map λx=> .ZU t x
  |none=> .bad
 | .typeAssert x _ t commaOk=>match commaOk,P.underlying t with
  |true,some (.interface _)=> .bad
  |true,some _=>bE<|(P.info? t).bind λi=>i.zero.bind λz=>(xS z).bind λz=>(cO x).map λx=> .tas t z x
  |_,_=> .bad
 | .panic x=>bE<|(cO x).map .S6
 | .defer c=>match c.callee with
  | .value f=>bE<|(cO f).bind λf=>(yu c.args.toList).map λl=> .BW f l
  |_=> .bad
 | .call c=>match c.callee with
  | .value f=>bE<|(cO f).bind λf=>(yu c.args.toList).map λl=> .call f l
  | .builtin b=>match b,c.args.toList,c.argTypes.toList with
   | .len,[x],[t]=>match P.underlying t with
    |some .string=>bE<|(cO x).map .Ru
    |some (.slice _)=>bE<|(cO x).map .lh
    |some (.map _ _)=>bE<|(cO x).map .Q5
    |some (.array n _)=> .SZ n
    |some (.pointer a)=>match P.underlying a with
     |some (.array n _)=> .SZ n
     |_=> .bad
    |_=> .bad
   | .cap,[x],[t]=>match P.underlying t with
    |some (.slice _)=>bE<|(cO x).map .LW
    |_=> .bad
   | .min,x::xs,_=>bE<|(cO x).bind λx=>(yu xs).map λl=> .mn x l
   | .max,x::xs,_=>bE<|(cO x).bind λx=>(yu xs).map λl=> .mx x l
   | .append,[s,x],[t,u]=>match P.underlying t,P.underlying u with
    |some (.slice e),some (.int _)=>bE<|(P.info? e).bind λi=>(eW P e).bind λz=>if z.length=i.size/\0<i.size/\i.bytes≠0 then (cO s).bind λs=>(cO x).map λx=> .apz i.size i.bytes z s x else none
    |some (.slice e),some _=>bE<|(P.info? e).bind λi=>(eW P e).bind λz=>if z.length=i.size/\i.bytes≠0 then (cO s).bind λs=>(cO x).map λx=> .app i.size i.bytes z s x else none
    |_,_=> .bad
   | .copy,[d,s],t::_=>match P.underlying t with
    |some (.slice e)=>bE<|(fh P e).bind λz=>(cO d).bind λd=>(cO s).map λs=> .JR z d s
    |_=> .bad
   | .delete,[m,k],t::_=>match P.underlying t with
    |some (.map kt _)=>bE<|(rC P kt).bind λkd=>(cO m).bind λm=>(cO k).map λk=> .mpD kd m k
    |_=> .bad
   | .recover,[],_=> .rcv
   | .clear,[x],[t]=>match P.underlying t with
    |some (.slice e)=>bE<|(eW P e).bind λzs=>(fh P e).bind λz=>(cO x).map λx=> .ZZ z zs x
    |_=> .bad
   |_,_,_=> .bad
  |_=> .bad
 | .makeMap t r=>match r with
  |some _=> .bad
  |none=>match P.underlying t with
   |some (.map kt _)=>match rC P kt with
    |some 0=> .Zl (.i [])
    |some 1=> .Zl (.s [])
    |some 2=> .Zl (.a [])
    |_=> .bad
   |_=> .bad
 | .lookup t x k ok=>match P.underlying t with
  |some (.map kt et)=>bE<|(rC P kt).bind λkd=>(P.info? et).bind λi=>i.zero.bind λz=>(xS z).bind λz=>(cO x).bind λm=>(cO k).map λk=> .mpG kd ok z m k
  |_=> .bad
 | .mapUpdate t m k x=>match P.underlying t with
  |some (.map kt _)=>bE<|(rC P kt).bind λkd=>(cO m).bind λm=>(cO k).bind λk=>(cO x).map λx=> .ZA kd m k x
  |_=> .bad
 | .insert t m k x=>match P.underlying t with
  |some (.map kt _)=>bE<|(rC P kt).bind λkd=>(cO m).bind λm=>(cO k).bind λk=>(cO x).map λx=> .ZA kd m k x
  |_=> .bad
 | .makeSlice t l c=>match P.underlying t with
  |some (.slice e)=>bE<|(P.info? e).bind λi=>(eW P e).bind λz=>if z.length=i.size then (cO l).bind λl=>(cO c).map λc=> .mks i.size i.bytes z l c else none
  |_=> .bad
 |_=> .bad
end Go.Ab
namespace Go.Ab
theorem zw {D:Nat->Prop} {φ:bP} {u:Value} {v:AV} (h:yh u=some v):aK D φ v u:=by
 unfold yh at h;split at h<;>cases h
 ·exact .b _
 ·exact .i _ _
 ·rename_i s;have:=aK.s (D:=D) (φ:=φ) s.data.toList;omega
 ·exact .np
 ·exact .ns
 ·exact .nf
 ·exact .ni
 ·exact .nm
theorem gN {D:Nat->Prop} {φ:bP}: ∀{l:List Value} {m:List AV},nF l=some m->cw D φ m l
 |[],m,h=>by simp [nF] at h;subst h;exact .nil
 |u::l,m,h=>by
  simp only [nF,av] at h;obtain ⟨x,hx,xs,hxs,h⟩:=h;cases h;exact .cons (zw hx) (gN hxs)
theorem lA {D:Nat->Prop} {φ:bP} {u:Value} {v:AV} (h:xS u=some v):aK D φ v u:=by
 unfold xS at h;split at h
 ·obtain ⟨m,hm,rfl⟩:=bK.1 h;have:=aK.wb (gN (D:=D) (φ:=φ) hm);omega
 ·obtain ⟨m,hm,rfl⟩:=bK.1 h;have:=aK.Dc (gN (D:=D) (φ:=φ) hm);omega
 ·exact zw h
theorem aK.one {D:Nat->Prop} {φ:bP} {v:AV} {u:Value} (h:aK D φ v u) (h1:v.one=true):u.oneCell'=true:=by
 cases h<;>first|rfl|(simp [AV.one] at h1)
theorem aK.cells {D:Nat->Prop} {φ:bP} {v:AV} {u:Value} (h:aK D φ v u) (hn:v.isAny=false):cw D φ v.cells u.cells.toList:=by
 cases h with
 |agg l cs hl h=>exact ⟨by grind [AV.cells,Value.cells],λi a u ha hu=>h i a u ha (by grind [Value.cells])⟩
 |sl b o len cap h=>exact .cons (.sl b o len cap h) .nil
 |p b o h=>exact .cons (.p b o h) .nil
 |sg b o len j cap h hj hc hl=>exact .cons (.sg b o len j cap h hj hc hl) .nil
 |fn f l cs hf hl h=>exact .cons (.fn f l cs hf hl h) .nil
 |bm f l cs hf hl h=>exact .cons (.bm f l cs hf hl h) .nil
 |yl L r ts l hL h=>exact .cons (.yl L r ts l hL h) .nil
 |nS l x cap hc=>exact .cons (.nS l x cap hc) .nil
 |bz l cs hl h=>exact .cons (.bz l cs hl h) .nil
 |fz l n B o cap vs hB hc hs h=>exact .cons (.fz l n B o cap vs hB hc hs h) .nil
 |fp l k B o vs hB hs h=>exact .cons (.fp l k B o vs hB hs h) .nil
 |any u=>simp [AV.isAny] at hn
 |m b h=>exact .cons (.m b h) .nil
 |_=>exact .cons (by constructor) .nil
section
variable {P:Program} {D:Nat->Prop} {φ:bP} {H:Hf} {w:World} {n:Nat}
theorem dK (s:Sem Value) (w:World):(do pure (Next.value (<-s)):Sem Next).run P w=(s.run P w).andThen λa w'=> .ok (.value a) w':=by simp
theorem run_typeInfo {t:TypeId} {i:TypeInfo} (h:P.info? t=some i) (w:World):(typeInfo t).run P w= .ok i w:=by
 simp [typeInfo,h]
theorem run_sizeOf {t:TypeId} {z:Nat} (h:fh P t=some z) (w:World):(sizeOf t).run P w= .ok z w:=by
 obtain ⟨i,hi,rfl⟩:=bK.1 h;simp [sizeOf,run_typeInfo hi]
theorem iT {t:TypeId} {g:Bool} (h:eY P t=some g) (w:World):(isAgg t).run P w= .ok g w:=by
 unfold eY at h;split at h<;>cases h;all_goals simp_all [isAgg,run_underlying,Sem.run_bind,Result.andThen_ok]
theorem nC {t:TypeId} {z:List AV} (h:eW P t=some z) (w:World): ∃u,(zeroValue t).run P w= .ok u w/\nF u.cells.toList=some z:=by
 simp only [eW,av] at h;obtain ⟨i,hi,u,hu,hz⟩:=h;simp_all [zeroValue,run_typeInfo]
theorem HR.row (hH:HR D φ H w) {b:Nat} {k:bp} (hb:H b=some k) (hm:k.mp=none) {o z:Nat} (hz:(aD k.cells o z).length=z):
 ∃us:List Value,(loadCells ⟨φ.cI b,φ.off b+o,none⟩ z).run P w= .ok us.toArray w/\cw D φ (aD k.cells o z) us:=by
 obtain ⟨_,⟨⟨cs,elem,fr,h1,h2,_,_⟩,_⟩⟩:=hH.at_ b k hb;have h1:=h1.cells hm;by_cases h0:z=0
 ·subst h0;exact ⟨[],by rfl,by simp [aD];exact .nil⟩
 ·have hz':=hz;simp [aD] at hz;have hin: ∀i,i<k.cells.length->φ.off b+i<cs.size:=λi hi=>by
   obtain ⟨u,hu,_⟩:=h2 i _ (bj hi)
   grind
  have hle:φ.off b+o+z<=cs.size:=by have:=hin (o+z-1) (by omega);omega
  refine ⟨(cs.toList.drop (φ.off b+o)).take z,run_loadCells h1 hle,by grind,λi a u ha hu=> ?_⟩
  simp only [aD,kJ,oA] at ha hu
  grind
theorem HR.cell (hH:HR D φ H w) {b:Nat} {k:bp} (hb:H b=some k) (hm:k.mp=none) {o:Nat} {v:AV} (hv:k.cells[o]? =some v):
 ∃u,(load ⟨φ.cI b,φ.off b+o,none⟩).run P w= .ok u w/\aK D φ v u:=by
 obtain ⟨_,⟨⟨cs,elem,fr,h1,h2,_,_⟩,_⟩⟩:=hH.at_ b k hb;have h1:=h1.cells hm
 grind [pg]
theorem HR.ae2 (hH:HR D φ H w) {l:List AV} {B o z k:Nat} {vs:Array Value} (hB:φ.fz B=some vs) (hs: ∀i,i<l.length->o+i<vs.size) (h: ∀(i:Nat) (a:AV) (u:Value),l[i]? =some a->vs[o+i]? =some u->aK D φ a u) (hz:(aD l k z).length=z):
 ∃us:List Value,(loadCells ⟨B,o+k,none⟩ z).run P w= .ok us.toArray w/\cw D φ (aD l k z) us:=by
 obtain ⟨elem,fr,h1⟩:=hH.fz B vs hB;by_cases h0:z=0
 ·subst h0;exact ⟨[],by rfl,by simp [aD];exact .nil⟩
 ·have hz':=hz;simp [aD] at hz;have hle:o+k+z<=vs.size:=by have:=hs (k+z-1) (by omega);omega
  refine ⟨(vs.toList.drop (o+k)).take z,run_loadCells h1 hle,by grind,λi a u ha hu=> ?_⟩
  simp only [aD,kJ,oA] at ha hu
  grind
theorem HR.aaS (hH:HR D φ H w) {l:List AV} {B o k:Nat} {vs:Array Value} (hB:φ.fz B=some vs) (hs: ∀i,i<l.length->o+i<vs.size) (h: ∀(i:Nat) (a:AV) (u:Value),l[i]? =some a->vs[o+i]? =some u->aK D φ a u) {v:AV} (hv:l[k]? =some v):
 ∃u,(load ⟨B,o+k,none⟩).run P w= .ok u w/\aK D φ v u:=by
 obtain ⟨elem,fr,h1⟩:=hH.fz B vs hB;have hk:k<l.length:=by
  grind
 have hu:vs[o+k]? =some (vs[o+k]'(hs k hk)):=Array.getElem?_eq_getElem (hs k hk)
 grind [pg]
theorem ep {h:Hp} {rd:List Nat} {b:Nat} (hb:inl rd b=true):only (aa h) rd b=aa h b:=by simp [only,hb]
theorem qh: ∀{xs:List AV} {us:List Value},aL xs=true->cw D φ xs us-> ∀u∈us,u.oneCell'=true
 |[],us,_,h,u,hu=>by rw [h.mq] at hu;cases hu
 |x::xs,us,ho,h,u,hu=>by
  obtain ⟨u0,us',rfl,h1,h2⟩:=h.eB;simp only [aL,ak] at ho;rcases gP.1 hu with rfl|hu
  ·exact h1.one ho.1
  ·exact qh ho.2 h2 u hu
theorem HR.Am (hH:HR D φ H w) {b:Nat} {k:bp} (hb:H b=some k) (hm:k.mp=none) (hro:k.ro=false) {o:Nat} {xs:List AV} {us:List Value} (hxs:cw D φ xs us) (hone:aL xs=true)
 (hle:o+xs.length<=k.cells.length):
 ∃w' cs cs' elem fr,(storeCells ⟨φ.cI b,φ.off b+o,none⟩ us 0).run P w= .ok () w'/\w.heap[φ.cI b]? =some (.cells cs elem fr)/\w'.heap=w.heap.setIfInBounds (φ.cI b) (.cells cs' elem fr)∧
  w'.os=w.os/\w'.tape=w.tape/\w'.output=w.output/\cs'.size=cs.size∧
  ∀(i:Nat) (v:AV),(eU k.cells o xs)[i]? =some v-> ∃u,cs'[φ.off b+i]? =some u/\aK D φ v u:=by
 obtain ⟨_,⟨⟨cs,elem,⟨lo,hi⟩,h1,h2,h3,_⟩,_⟩⟩:=hH.at_ b k hb;have h1:=h1.cells hm;have hfr:=(h3 hro).2;generalize φ.off b=f at*;have hin: ∀i,i<k.cells.length->f+i<cs.size:=λi hi=>by
  obtain ⟨u,hu,_⟩:=h2 i _ (bj hi)
  grind
 have hlen:us.length=xs.length:=hxs.1.symm;have hsz:f+o+us.length<=cs.size\/us.length=0:=by
  by_cases he:us.length=0
  ·exact .inr he
  ·left;have:=hin (o+us.length-1) (by omega);omega
 by_cases he:us.length=0
 ·have hu:us=[]:=fq he;have hx:xs=[]:=fq (by omega)
  subst hu;subst hx;refine ⟨w,cs,cs,elem,(lo,hi),by rfl,h1,?_,rfl,rfl,rfl,rfl,λi v hv=> ?_⟩
  ·grind
  simp_all [eU]
 ·have hle':f+o+us.length<=cs.size:=hsz.resolve_right he;obtain ⟨w',hr,ho,ht,hou,hh⟩:= @qa P (φ.cI b) (f+o) elem lo hi us 0 w cs h1 (λj hj=>hfr j (.inl hj)) (by omega) (qh hone hxs)
  refine ⟨w',cs,_,elem,(lo,hi),hr,h1,hh,ho,ht,hou,by simp;omega,λi v hv=> ?_⟩
  simp only [kA];simp only [eU,mM,cm,fY,kJ,oA] at hv;have hl:cs.toList.length=cs.size:=by simp
  simp only [List.getElem?_toArray,mM,cm,fY,kJ,oA,hl,hlen];have m1:min o k.cells.length=o:=by omega
  have m2:min (f+o) cs.size=f+o:=by omega
  rw [m1] at hv;rw [m2];by_cases c1:i<o+xs.length
  ·rw [aT c1] at hv;rw [aT (show f+i<f+o+xs.length by omega)]
   by_cases c2:i<o
   ·grind
   ·rw [aY c2] at hv;rw [aY (show ¬f+i<f+o by omega),show f+i-(f+o)=i-o by omega]
    exact hxs.get hv
  ·rw [aY c1] at hv;rw [aY (show ¬f+i<f+o+xs.length by omega)]
   have e1:o+xs.length+(i-(o+xs.length))=i:=by omega
   have e2:f+o+xs.length+(f+i-(f+o+xs.length))=f+i:=by omega
   grind
/-! ### fills -/
theorem Io (vs:List Value): ∀(k off:Nat) (cs:Array Value),
 ((vs.zipIdx k).foldl (λ(cs:Array Value) (x:Value×Nat)=>cs.setIfInBounds (off+x.2) x.1) cs).toList.length=cs.size∧
 ∀j,((vs.zipIdx k).foldl (λ(cs:Array Value) (x:Value×Nat)=>cs.setIfInBounds (off+x.2) x.1) cs)[j]? =if off+k<=j/\j<off+k+vs.length/\j<cs.size then vs[j-(off+k)]? else cs[j]? :=by
 induction vs with
 |nil=>intro k off cs;refine ⟨by simp,λj=> ?_⟩;simp;omega
 |cons v vs ih=>
  intro k off cs;simp only [List.zipIdx_cons,HK];obtain ⟨h1,h2⟩:=ih (k+1) off (cs.setIfInBounds (off+k) v);refine ⟨by rw [h1];simp,λj=> ?_⟩
  rw [h2 j];simp only [Array.size_setIfInBounds,List.length_cons];by_cases c1:off+(k+1)<=j/\j<off+(k+1)+vs.length/\j<cs.size
  ·grind
  ·grind
theorem tU {place:Nat->Option (Nat×Nat)}: ∀{ps:List (Nat×Nat×AV)} {qs:List (Nat×Value)} {z z':List AV} {cs:Array Value},
 cw D φ z cs.toList->ps.length=qs.length->(∀(j:Nat) a q,ps[j]? =some a->qs[j]? =some q->place q.1=some (a.1,a.2.1)/\aK D φ a.2.2 q.2)->oC z ps=some z'→
 ∃cs',Instr.fill place cs qs=some cs'/\cw D φ z' cs'.toList
 |[],qs,z,z',cs,hz,hl,_,hf=>by
  have:qs=[]:=fq (by grind)
  subst this;simp [oC] at hf;subst hf;exact ⟨cs,rfl,hz⟩
 |(o,sz,v)::ps,[],z,z',cs,hz,hl,_,hf=>by simp at hl
 |(o,sz,v)::ps,(i,u)::qs,z,z',cs,hz,hl,hp,hf=>by
  obtain ⟨hpl,hvu⟩:=hp 0 _ _ rfl rfl;simp only at hpl hvu;simp only [oC] at hf;by_cases hcond:(Nat.beq v.cells.length sz&&Nat.ble (o+sz) z.length&& !v.isAny)=true
  ·rw [hcond,cond_true] at hf;rw [ak,ak] at hcond;have hc:=hvu.cells (by grind)
   have hcond:=hcond.1;have e1:v.cells.length=sz:=ee hcond.1;have e2:o+sz<=z.length:=Nat.le_of_ble_eq_true hcond.2;have hus:u.cells.size=sz:=by have:=hc.1;grind
   have hcs:cs.size=z.length:=by have:=hz.1;grind
   simp only [Instr.fill,hpl];rw [aY (by grind)]
   refine tU (z:=eU z o v.cells) (cs:=_) ?_ (by grind) (λj a q ha hq=>hp (j+1) a q (by grind) (by grind)) hf
   have hfs:=Io u.cells.toList 0 o cs;have e3:(u.cells.zipIdx.foldl (λ(cs:Array Value) (x:Value×Nat)=>cs.setIfInBounds (o+x.2) x.1) cs)=((u.cells.toList.zipIdx 0).foldl (λ(cs:Array Value) (x:Value×Nat)=>cs.setIfInBounds (o+x.2) x.1) cs):=by
    rw [<-Array.foldl_toList];simp
   rw [e3];refine ⟨by grind [eU],λj a y ha hy=> ?_⟩
   rw [Fq,hfs.2 j] at hy;simp only [kA,Array.length_toList] at hy;simp only [eU,mM,cm,fY,kJ,oA,show min o z.length=o by omega] at ha
   by_cases c1:j<o
   ·rw [aT (by omega),aT c1,aT c1] at ha
    rw [aY (by omega)] at hy
    exact hz.2 j a y ha (by grind)
   ·by_cases c2:j<o+v.cells.length
    ·rw [aT c2,aY c1] at ha;rw [aT (by omega)] at hy
     exact hc.2 (j-o) a y ha (by omega)
    ·rw [aY c2,show o+v.cells.length+(j-(o+v.cells.length))=j by omega] at ha
     rw [aY (by omega)] at hy
     exact hz.2 j a y ha (by grind)
  grind
theorem uV {z:List AV} {cs:Array Value} (hz:cw D φ z cs.toList): ∀n,cw D φ (dA z n) ((Array.range (n*cs.size)).map (λi=>cs[i % cs.size]!)).toList:=by
 intro n;refine ⟨?_,λi a u ha hu=> ?_⟩
 ·simp;induction n with
  |zero=>simp [dA]
  |succ n ih=>simp [dA,ih,vJ,hz.1];omega
 ·have hu':i<n*cs.size/\u=cs[i % cs.size]! :=by
   grind
  obtain ⟨hi,rfl⟩:=hu';have hpos:0<cs.size:=by
   grind
  have hlt:=Nat.mod_lt i hpos;have key: ∀n i,i<n*cs.size->(dA z n)[i]? =z[i % cs.size]? :=by
   intro n;induction n with
   |zero=>intro i hi;simp at hi
   |succ n ih=>
    intro i hi;have hl:z.length=cs.size:=by have:=hz.1;omega
    simp only [dA,mM,hl];split
    ·grind [rL]
    ·grind [vJ,Nat.mod_eq_sub_mod]
  rw [key n i hi] at ha;exact hz.2 (i % cs.size) a _ ha (by simp [hlt])
end
end Go.Ab
namespace Go.Ab
section
variable {P:Program} {D:Nat->Prop} {φ:bP} {w:World} {n:Nat} {e:Env} {h:Hp} {E:bV} {ρ:Operand->Value}
def gD (D:Nat->Prop) (φ:bP) (e:Env) (h:Hp) (x:cq) (u:Value):Prop:= ∀v,x.ev e h=some v->aK D φ v u
theorem mc: ∀{ys:List Operand} {xs:List cq} {vs:List AV},yu ys=some xs->yM e h xs=some vs→
 (∀y∈ys,∀x,cO y=some x->gD D φ e h x (ρ y))->cw D φ vs (ys.map ρ)
 |[],xs,vs,h1,h2,_=>by simp [yu] at h1;subst h1;simp [yM] at h2;subst h2;exact .nil
 |y::ys,xs,vs,h1,h2,hk=>by
  simp only [yu,av] at h1;obtain ⟨x,hx,xs',hxs,h1⟩:=h1;cases h1;simp only [yM,av] at h2;obtain ⟨v,hv,vs',hvs,h2⟩:=h2;cases h2;exact .cons (hk y (iQ) x hx v hv) (mc hxs hvs (λy hy=>hk y (hJ _ hy)))
theorem Vq {v:AV} {c:Bool} (hs:pe v n=some (c,E)):c=true/\E={v,n}:=by
 grind [pe,aI,aV]
theorem bU {v:AV} {c:Bool} {r:Result Next} {u:Value} (hs:pe v n=some (c,E)) (hH:HR D φ (only (aa h) E.rd) w) (hr:r= .ok (.value u) w) (hv:aK D φ v u):
 fE P D φ (only (aa h) E.rd) w n E r:=by
 obtain ⟨_,rfl⟩:=Vq hs
 grind [fE.pure]
theorem ck {v:AV} {rd:List Nat} {r:Result Next} {u:Value} (hE:E={v,n,rd}) (hH:HR D φ (only (aa h) E.rd) w) (hr:r= .ok (.value u) w) (hv:aK D φ v u):
 fE P D φ (only (aa h) E.rd) w n E r:=by
 grind [fE.pure]
theorem KC {x:cq} {u:Value} {c:Bool} (hs:step (.mv x) e h n=some (c,E)) (hx:gD D φ e h x u) (hH:HR D φ (only (aa h) E.rd) w):
 fE P D φ (only (aa h) E.rd) w n E ((pure (.value u):Sem Next).run P w):=by
 simp only [step,av] at hs;obtain ⟨v,hv,hs⟩:=hs;exact bU hs hH rfl (hx v hv)
theorem Lv {c a b:cq} {uc ua ub:Value} {cc:Bool} (hs:step (.pick c a b) e h n=some (cc,E)) (hc:gD D φ e h c uc) (ha:gD D φ e h a ua) (hb:gD D φ e h b ub) (hH:HR D φ (only (aa h) E.rd) w):
 fE P D φ (only (aa h) E.rd) w n E ((do pure (.value (if <-asBool uc then ua else ub)):Sem Next).run P w):=by
 simp only [step,av] at hs;obtain ⟨v,hv,hs⟩:=hs;have hcv:=hc v hv;split at hs
 ·simp only [av] at hs;obtain ⟨x,hx,hs⟩:=hs;cases hcv;exact bU hs hH (by simp [asBool]) (ha x hx)
 ·simp only [av] at hs;obtain ⟨x,hx,hs⟩:=hs;cases hcv;exact bU hs hH (by simp [asBool]) (hb x hx)
 ·cases hs
theorem cw.push {z:List AV} {cs:Array Value} (hz:cw D φ z cs.toList): ∀(i:Nat) (v:AV),z[i]? =some v-> ∃u,cs[i]? =some u/\aK D φ v u:=λi v hv=>by
 obtain ⟨u,hu,hr⟩:=hz.get hv
 grind
theorem iN (t:TypeId) (cs:Array Value) (w:World):(newRow t cs).run P w= .ok ⟨w.heap.size,0,none⟩ {w with heap:=w.heap.push (.cells cs t)}:=by
 simp [newRow]
theorem GM {m cap fO:Nat}:aK (Dn D n (n+1)) (φ.set n m cap fO) (.p n 0) (.pointer (some ⟨m,0,none⟩)):=by
 have:=aK.p (D:=Dn D n (n+1)) (φ:=φ.set n m cap fO) n 0 (.inr ⟨bx _,gw _⟩)
 grind [bP.set]
theorem IV {m cap fO l c:Nat}:aK (Dn D n (n+1)) (φ.set n m cap fO) (.sl n 0 l c) (.slice (some ⟨m,0,none⟩) l c):=by
 have:=aK.sl (D:=Dn D n (n+1)) (φ:=φ.set n m cap fO) n 0 l c (.inr ⟨bx _,gw _⟩)
 grind [bP.set]
theorem uF {m cap fO l:Nat} (hl:l<=cap):aK (Dn D n (n+1)) (φ.set n m cap fO) (.sg n 0 l) (.slice (some ⟨m,0,none⟩) l cap):=by
 have:=aK.sg (D:=Dn D n (n+1)) (φ:=φ.set n m cap fO) n 0 l 0 cap (.inr ⟨bx _,gw _⟩) (by simp) (by simp [bP.set]) hl
 grind [bP.set]
theorem Qi {z:List AV} {t:TypeId} {c:Bool} (hs:step (.new z) e h n=some (c,E)) (hz:eW P t=some z) (hn:n<E.n-> ¬D n) (hH:HR D φ (only (aa h) E.rd) w):
 fE P D φ (only (aa h) E.rd) w n E ((do pure (Next.value (<-Instr.alloc t true (.tuple #[]))):Sem Next).run P w):=by
 simp only [step,aI,aV] at hs;obtain ⟨_,rfl⟩:=hs;obtain ⟨u,hu,hz'⟩:=nC hz w;refine fE.alloc (g:=none) (cap:=0) (fO:=0) (cs:=u.cells) (elem:=t) (fr:=(0,0)) (w':={w with heap:=w.heap.push (.cells u.cells t)}) (u:= .pointer (some ⟨w.heap.size,0,none⟩)) ?_ hH (hn (gw _)) rfl rfl rfl rfl (gN hz').push (λi _=>by simp) (λe he=>by cases he) GM
 simp [Instr.alloc,hu,newVar,iN]
theorem OA {x:cq} {u:Value} {t:TypeId} {c:Bool} (hs:step (.box x) e h n=some (c,E)) (hc:c=true) (hx:gD D φ e h x u) (hn:n<E.n-> ¬D n) (hH:HR D φ (only (aa h) E.rd) w):
 fE P D φ (only (aa h) E.rd) w n E ((do pure (Next.value (<-Instr.box t u)):Sem Next).run P w):=by
 simp only [step,av,aI,aV] at hs;obtain ⟨v,hv,hna,rfl⟩:=hs;have hna:v.isAny=false:=by grind
 refine fE.alloc (g:=none) (cap:=0) (fO:=0) (cs:=u.cells) (elem:=t) (fr:=(0,0)) (w':={w with heap:=w.heap.push (.cells u.cells t)}) (u:= .pointer (some ⟨w.heap.size,0,none⟩)) ?_ hH (hn (gw _)) rfl rfl rfl rfl ((hx v hv).cells hna).push (λi _=>by simp) (λe he=>by cases he) GM
 rfl
theorem pU {t:TypeId} {a:Addr} {y:Value} (hg:eY P t=some false) (hy:(load a).run P w= .ok y w):(Instr.loadAt t (.pointer (some a))).run P w= .ok y w:=by
 simp_all [Instr.loadAt,Instr.sureAddr,loadVar,Sem.run_bind,Result.andThen_ok,iT,ei]
theorem pQ {t:TypeId} {a:Addr} {z:Nat} {us:Array Value} (hg:eY P t=some true) (hz:fh P t=some z) (hy:(loadCells a z).run P w= .ok us w):(Instr.loadAt t (.pointer (some a))).run P w= .ok (.agg us) w:=by
 simp_all [Instr.loadAt,Instr.sureAddr,loadVar,Sem.run_bind,Result.andThen_ok,iT,run_sizeOf]
theorem Zd {agg:Bool} {z:Nat} {a:cq} {u:Value} {t:TypeId} {c:Bool} (hs:step (.ld agg z a) e h n=some (c,E)) (hc:c=true) (hg:eY P t=some agg) (hz:fh P t=some z) (ha:gD D φ e h a u)
 (hH:HR D φ (only (aa h) E.rd) w):fE P D φ (only (aa h) E.rd) w n E ((do pure (Next.value (<-Instr.loadAt t u)):Sem Next).run P w):=by
 simp only [step,av] at hs;obtain ⟨v,hv,hs⟩:=hs;have hr:=ha v hv;split at hs
 ·rename_i b o;simp only [av] at hs;obtain ⟨k,hk,hs⟩:=hs;cases hr;cases agg
  ·simp only [av,aI,aV] at hs;obtain ⟨x,hx,_,rfl⟩:=hs;obtain ⟨hk,hmp⟩:=dL hk;have hkk:only (aa h) [b] b=some k:=by simp_all [ep,inl]
   obtain ⟨y,hy,hyr⟩:=HR.cell (P:=P) hH hkk hmp hx;exact ck rfl hH (by rw [dK,pU hg hy];rfl) hyr
  ·simp only [aI,aV] at hs;obtain ⟨h1,rfl⟩:=hs;rw [hc] at h1;obtain ⟨hk,hmp⟩:=dL hk;have hkk:only (aa h) [b] b=some k:=by simp_all [ep,inl]
   obtain ⟨us,hy,hyr⟩:=HR.row (P:=P) hH hkk hmp (bN h1);exact ck rfl hH (by simp_all [pQ]) (aK.wb hyr)
 ·rename_i l o;cases hr with
  |fp _ _ B o' vs hB hsz hl=>
  cases agg
  ·simp only [av,aI,aV] at hs;obtain ⟨x,hx,_,rfl⟩:=hs;obtain ⟨y,hy,hyr⟩:=HR.aaS (P:=P) hH hB hsz hl hx;exact ck rfl hH (by rw [dK,pU hg hy];rfl) hyr
  ·simp only [aI,aV] at hs;obtain ⟨h1,rfl⟩:=hs;rw [hc] at h1;obtain ⟨us,hy,hyr⟩:=HR.ae2 (P:=P) hH hB hsz hl (bN h1);exact ck rfl hH (by simp_all [pQ]) (aK.wb hyr)
 ·cases hs
theorem VQ {z:Nat} {a x:cq} {u y:Value} {t:TypeId} {c:Bool} (hs:step (.st z a x) e h n=some (c,E)) (hc:c=true) (hz:fh P t=some z) (ha:gD D φ e h a u) (hx:gD D φ e h x y)
 (hH:HR D φ (only (aa h) E.rd) w):fE P D φ (only (aa h) E.rd) w n E ((do Instr.storeAt t u y;pure Next.skip:Sem Next).run P w):=by
 simp only [step,av] at hs;obtain ⟨v,hv,hs⟩:=hs;have hr:=ha v hv;split at hs
 ·rename_i b o;simp only [av] at hs;obtain ⟨k,hk,y',hy,hs⟩:=hs;have hyr:=hx y' hy;cases hr;split at hs
  ·cases hs
  ·rename_i hro;simp only [aI,aV] at hs;obtain ⟨h1,rfl⟩:=hs;rw [hc] at h1;simp only [ak,bg] at h1;obtain ⟨⟨h2,h3⟩,h4⟩:=h1;have h3:=ee h3;obtain ⟨hk,hmp⟩:=dL hk;have hkk:only (aa h) [b] b=some k:=by simp_all [ep,inl]
   have hna:y'.isAny=false:=by cases y'<;>first|rfl|simp [AV.cells,aL,AV.one] at h2
   obtain ⟨w',cs,cs',elem,fr,g1,g2,g3,g4,g5,g6,g7,g8⟩:=HR.Am (P:=P) hH hkk hmp hro (hyr.cells hna) h2 (by rw [h3];exact h4)
   have hsz:y.cells.size=z:=by have:=(hyr.cells hna).1;grind
   refine fE.write (nx:= .skip) (u:=undef) ?_ (.inr ⟨rfl,rfl⟩) (aK.bz [] #[] rfl (λi a u ha=>by simp at ha)) (by simp [inl]) hH hkk hro g2 g3 g4 g5 g6 g7 g8
   simp_all [Instr.storeAt,Instr.sureAddr,storeVar,run_sizeOf]
 ·cases hs
theorem Sx {x:cq} {u:Value} {c:Bool} (hs:step (.ZH x) e h n=some (c,E)) (hx:gD D φ e h x u) (hH:HR D φ (only (aa h) E.rd) w) {o:Oper} {y:Operand} (ho:o.op= .nilCheck y) (hy:ρ y=u):
 fE P D φ (only (aa h) E.rd) w n E ((execOp ρ o).run P w):=by
 simp only [step,av] at hs;obtain ⟨v,hv,hs⟩:=hs;have hr:=hx v hv;split at hs
 ·refine bU (u:=u) hs hH ?_ hr;cases hr;simp [execOp,ho,hy]
 ·refine bU (u:=u) hs hH ?_ hr;cases hr;simp [execOp,ho,hy]
 ·refine bU (u:=u) hs hH ?_ hr;cases hr;simp [execOp,ho,hy]
 ·refine bU (u:=u) hs hH ?_ hr;cases hr;simp [execOp,ho,hy]
 ·cases hs
theorem size_mk (l:List UInt8):(ByteArray.mk l.toArray).size=l.length:=by simp [ByteArray.size]
theorem N4 {op:BinOp} {a b:AV} {x y:Value} {t:TypeId} {r:Bool×AV} (hb:bin op a b=some r) (hr:r.1=true) (ha:aK D φ a x) (hb':aK D φ b y):
 ∃u,(binOp op t x y).run P w= .ok u w/\aK D φ r.2 u:=by
 unfold bin at hb;split at hb
 ·rename_i k m k' m';cases ha;cases hb';split at hb
  ·simp only [mJ,aI] at hb;subst hb;have h0:0<=m':=bN hr;refine ⟨_,?_,.i _ _⟩;simp [binOp,Op.shift,show ¬m'<0 by omega,Nat.min_def]
  ·simp only [mJ,aI] at hb;subst hb;have h0:0<=m':=bN hr;refine ⟨_,?_,.i _ _⟩;simp [binOp,Op.shift,show ¬m'<0 by omega,Nat.min_def]
  ·rename_i hn1 hn2;split at hb
   ·rename_i hk;subst hk;cases op<;>simp only [qU,aI,reduceCtorEq] at hb<;>subst hb<;>
     first
      |(refine ⟨_,?_,.b _⟩;simp [binOp,Op.intCmp];done)
      |(refine ⟨_,?_,.i _ _⟩;simp [binOp,Op.intArith,Op.intBits];done)
      |(have h0: ¬m'=0:=by grind
        refine ⟨_,?_,.i _ _⟩;simp [binOp,Op.intDiv,h0];done)
   ·cases hb
 ·cases ha;cases hb';rename_i l m;cases op<;>simp only [IN,aI,reduceCtorEq] at hb<;>subst hb
  ·have h0:=bN hr;refine ⟨.string ⟨(l++m).toArray⟩,?_,.s _⟩;simp only [binOp,Op.stringOp,size_mk];rw [aY (by simp_all;omega)]
   rfl
  all_goals exact ⟨_,by simp [binOp,Op.stringOp],.b _⟩
 ·cases hb
theorem lq {op:BinOp} {t:TypeId} {x y:Operand} {a b:Value} (hg:(∀xs,a≠ .agg xs)\/P.eqGuardType P.depth t=false) (hi:a≠ .nilIface):(eqGuard op t x y a b).run P w= .ok () w:=by
 cases a with
 |nilIface=>exact absurd rfl hi
 |agg xs=>
  have hg':P.eqGuardType P.depth t=false:=hg.resolve_left (λh=>h xs rfl);cases op<;>cases b<;>simp [eqGuard,hg']
 |_=>cases op<;>simp [eqGuard]
theorem Lp {op:BinOp} {a b:AV} {x y:Value} {r:Bool×AV} (hb:bin op a b=some r) (ha:aK D φ a x):(∀xs,x≠ .agg xs)/\x≠ .nilIface:=by
 unfold bin at hb;split at hb<;>first|(cases hb;done)|(cases ha;exact ⟨λxs=>by simp,by simp⟩)
theorem Gy {op:BinOp} {x y:cq} {a b:Value} {t:TypeId} {xo yo:Operand} {c:Bool} (hs:step (.bin op x y) e h n=some (c,E)) (hc:c=true) (hx:gD D φ e h x a) (hy:gD D φ e h y b) (hH:HR D φ (only (aa h) E.rd) w):
 fE P D φ (only (aa h) E.rd) w n E ((do pure (Next.value (<-(do eqGuard op t xo yo a b;binOp op t a b))):Sem Next).run P w):=by
 simp only [step,av,aI,aV] at hs;obtain ⟨v,hv,v',hv',r,hr,h1,rfl⟩:=hs;obtain ⟨u,hu,hur⟩:=N4 (P:=P) (w:=w) (t:=t) hr (h1.trans hc) (hx v hv) (hy v' hv');have hk:=Lp (y:=b) hr (hx v hv);exact ck (rd:=[]) rfl hH (by simp_all [lq]) hur
/-! ### equality -/
def aaN (P:Program) (t:TypeId):Kd->Prop
 | .b=>P.underlying t=some .bool
 | .i=> ∃j,P.underlying t=some (.int j)
 | .s=>P.underlying t=some .string
theorem Pf {k:Kd} {a b:AV} {r:Bool} {t:TypeId} {x y:Value} {d:Nat} (hr:T2 k a b=some r)
 (hk:aaN P t k)
 (ha:aK D φ a x) (hb:aK D φ b y):(Op.equalIn (d+1) t x y).run P w= .ok r w:=by
 unfold T2 at hr;split at hr
 ·cases hr;cases ha;cases hb;exact run_equalIn_bool' _ _ _ _ _ hk
 ·by_cases e: ‹IntKind› = ‹IntKind›
  ·rename_i k x k' y;by_cases e:k=k'
   ·subst e;simp only [cM,aI] at hr;subst hr;cases ha;cases hb;obtain ⟨j,hk⟩:=hk;grind [run_equalIn_int]
   grind
  grind
 ·cases hr;cases ha;cases hb;rw [run_equalIn_string _ _ _ _ _ hk];simp []
 ·cases hr
theorem P3 {xs ys:List AV} {r:Bool} (h:eqs [] xs ys=some r):r=true:=by
 grind [eqs]
theorem sI: ∀{ks ks':List Kd} {xs ys:List AV} {r:Bool},eqs (ks++ks') xs ys=some r→
 ∃r1 r2,eqs ks (xs.take ks.length) (ys.take ks.length)=some r1/\eqs ks' (xs.drop ks.length) (ys.drop ks.length)=some r2/\r=(r1&&r2)
 |[],ks',xs,ys,r,h=>⟨true,r,rfl,by simpa using h,by simp⟩
 |k::ks,ks',[],ys,r,h=>by grind [eqs]
 |k::ks,ks',x::xs,[],r,h=>by simp [eqs] at h
 |k::ks,ks',x::xs,y::ys,r,h=>by
  simp only [ez,eqs,av,aI] at h;obtain ⟨a,ha,b,hb,rfl⟩:=h;obtain ⟨r1,r2,h1,h2,rfl⟩:=sI hb
  grind [eqs,Bool.and_assoc]
theorem ob: ∀{ks:List Kd} {xs ys:List AV} {r:Bool},eqs ks xs ys=some r->xs.length=ks.length/\ys.length=ks.length
 |[],[],[],_,_=>⟨rfl,rfl⟩
 |[],[],_::_,_,h=>by simp [eqs] at h
 |[],_::_,_,_,h=>by simp [eqs] at h
 |_::_,[],ys,_,h=>by grind [eqs]
 |_::_,_::_,[],_,h=>by simp [eqs] at h
 |k::ks,x::xs,y::ys,r,h=>by
  simp only [eqs,av] at h;obtain ⟨a,ha,b,hb,_⟩:=h;have:=ob hb
  grind
def VU (P:Program) (t:TypeId) (cs:List Value):Value->Prop:=λv=>(eY P t=some true/\v= .agg cs.toArray)\/(eY P t=some false/\cs=[v])
theorem s8 {t:TypeId} {cs:Array Value} {off z:Nat} {g:Bool} (hg:eY P t=some g) (hz:fh P t=some z) (hz1:g=false->z=1) (hle:off+z<=cs.size):
 ∃v,(part t cs off).run P w= .ok v w/\VU P t ((cs.toList.drop off).take z) v:=by
 cases g
 ·have:=hz1 rfl;subst this;have hlt:off<cs.size:=by omega
  refine ⟨cs[off],?_,.inr ⟨hg,?_⟩⟩;all_goals simp_all [part,Sem.run_bind,iT,Result.andThen_ok,ei,rE]
 ·refine ⟨.agg (cs.extract off (off+z)),?_,.inl ⟨hg,?_⟩⟩
  ·simp_all [part,Sem.run_bind,iT,Result.andThen_ok,run_sizeOf]
  ·congr 1
   grind
theorem CB {d:Nat} {t:TypeId} {ks:List Kd} (h:s9 P d t=some ks): ∃g,eY P t=some g/\(g=false->ks.length=1):=by
 cases d with
 |zero=>simp [s9] at h
 |succ d=>
  simp only [s9] at h;split at h<;>rename_i hu
  ·cases h;simp_all [eY]
  ·cases h;simp_all [eY]
  ·cases h;simp_all [eY]
  ·simp_all [eY]
  ·simp_all [eY]
  ·cases h
theorem SJ: ∀(d:Nat) (t:TypeId) (ks:List Kd),s9 P d t=some ks-> ∀(dd:Nat),d<=dd-> ∀(xs ys:List AV) (us vs:List Value) (x y:Value) (r:Bool),eqs ks xs ys=some r→
 cw D φ xs us->cw D φ ys vs->VU P t us x->VU P t vs y->(Op.equalIn dd t x y).run P w= .ok r w
 |0,t,ks,h,_,_,_,_,_,_,_,_,_,_,_,_,_,_=>by simp [s9] at h
 |d+1,t,ks,h,dd,hd,xs,ys,us,vs,x,y,r,hr,hxu,hyv,hx,hy=>by
  obtain ⟨dd,rfl⟩: ∃e,dd=e+1:=⟨dd-1,by omega⟩
  have scalar: ∀k,ks=[k]->eY P t=some false->aaN P t k->(Op.equalIn (dd+1) t x y).run P w= .ok r w:=by
   intro k hk hag hty;subst hk;obtain ⟨hl1,hl2⟩:=ob hr;rcases hx with ⟨h1,_⟩|⟨_,rfl⟩
   ·grind
   rcases hy with ⟨h1,_⟩|⟨_,rfl⟩
   ·grind
   match xs,ys,hl1,hl2 with
   |[a],[b],_,_=>
    simp only [eqs,av,aI] at hr;obtain ⟨r1,h1,r2,h2,rfl⟩:=hr;subst h2;rw [jW];exact Pf h1 hty (hxu.2 0 a x rfl rfl) (hyv.2 0 b y rfl rfl)
  simp only [s9] at h;split at h<;>rename_i hu
  ·cases h;exact scalar .b rfl (by simp [eY,hu]) hu
  ·cases h;exact scalar .i rfl (by simp [eY,hu]) ⟨_,hu⟩
  ·cases h;exact scalar .s rfl (by simp [eY,hu]) hu
  ·rename_i fs;split at h
   ·rename_i hst;have hag:eY P t=some true:=by simp [eY,hu]
    rcases hx with ⟨_,rfl⟩|⟨h1,_⟩
    ·rcases hy with ⟨_,rfl⟩|⟨h1,_⟩
     ·have hfs:P.fieldsOf t=fs:=by simp [Program.fieldsOf,hu]
      rw [run_equalIn_struct w dd t us.toArray vs.toArray (by grind) hst,hfs]
      have key: ∀(l:List Field) (off:Nat) (ks':List Kd) (r':Bool),pj P (s9 P d) l off=some ks'->off+ks'.length<=us.length->off+ks'.length<=vs.length->eqs ks' ((xs.drop off).take ks'.length) ((ys.drop off).take ks'.length)=some r'→
       (Op.eqFields dd us.toArray vs.toArray l).run P w= .ok r' w:=by
       intro l;induction l with
       |nil=>intro off ks' r' h1 _ _ h2;simp [pj] at h1;subst h1;simp [eqs] at h2;subst h2;simp [Op.eqFields]
       |cons f l ih=>
        intro off ks' r' h1 hl1 hl2 h2;simp only [pj] at h1;split at h1
        ·rename_i hc;obtain ⟨hname,hoff⟩:=hc;simp only [av] at h1;obtain ⟨k1,hk1,h1⟩:=h1;split at h1
         ·rename_i hsz;obtain ⟨k2,hk2,rfl⟩:=bK.1 h1;obtain ⟨r1,r2,g1,g2,rfl⟩:=sI h2;obtain ⟨g,hg,hg1⟩:=CB hk1;simp only [cm] at hl1 hl2 g1 g2 h2;obtain ⟨v1,p1,q1⟩:=s8 (P:=P) (w:=w) (cs:=us.toArray) (off:=off) hg hsz hg1 (by simp;omega)
          obtain ⟨v2,p2,q2⟩:=s8 (P:=P) (w:=w) (cs:=vs.toArray) (off:=off) hg hsz hg1 (by simp;omega)
          have e1: ∀(m:List AV),((m.drop off).take (k1.length+k2.length)).take k1.length=(m.drop off).take k1.length:=λm=>by grind
          have e2: ∀(m:List AV),((m.drop off).take (k1.length+k2.length)).drop k1.length=(m.drop (off+k1.length)).take k2.length:=λm=>by simp [List.drop_take,tG]
          rw [e1,e1] at g1;rw [e2,e2] at g2;have hrec:=SJ d f.type k1 hk1 dd (by omega) _ _ _ _ v1 v2 r1 g1 ((hxu.drop off).take k1.length) ((hyv.drop off).take k1.length) q1 q2
          have hih:=ih (off+k1.length) k2 r2 hk2 (by omega) (by omega) g2
          simp only [Op.eqFields];rw [aT hname];simp only [Sem.run_bind,hoff,p1,p2,Result.andThen_ok,hrec];cases r1;all_goals simp_all
         ·cases h1
        ·cases h1
      have hl:=ob hr;refine key fs.toList 0 ks r h (by rw [<-hxu.1];omega) (by rw [<-hyv.1];omega) ?_
      grind
     grind
    grind
   ·cases h
  ·rename_i len el;have hag:eY P t=some true:=by simp [eY,hu]
   rcases hx with ⟨_,rfl⟩|⟨h1,_⟩
   ·rcases hy with ⟨_,rfl⟩|⟨h1,_⟩
    ·simp only [av] at h;obtain ⟨k1,hk1,h⟩:=h;split at h
     ·rename_i hsz;cases h;obtain ⟨g,hg,hg1⟩:=CB hk1;simp only [Op.equalIn,Sem.run_bind,run_underlying hu,Result.andThen_ok,run_sizeOf hsz];rw [LK];have hsize:[:len].size=len:=by simp
      show ((Sem.run P (forIn (List.range' 0 [:len].size 1) _ _) w).andThen _)=_;rw [hsize];have hlr:=ob hr;have hrl: ∀m,(vI k1 m).length=m*k1.length:=λm=>by
       induction m with
       |zero=>simp [vI]
       |succ m ih=>simp [vI,ih,vJ];omega
      have key: ∀(m i:Nat) (r':Bool),i+m=len->eqs (vI k1 m) (xs.drop (i*k1.length)) (ys.drop (i*k1.length))=some r'→
       (forIn (List.range' i m 1) ((none,()):Option Bool×Unit) λi __s=>do
         let __do_lift <-part el us.toArray (i*k1.length);let __do_lift_1 <-part el vs.toArray (i*k1.length);let __do_lift <-Op.equalIn dd el __do_lift __do_lift_1
         if (!__do_lift)=true then pure (ForInStep.done (some false,())) else pure (ForInStep.yield (none,()))).run P w= .ok (if r' then (none,()) else (some false,())) w:=by
       intro m;induction m with
       |zero=>intro i r' _ h2;simp only [vI] at h2;simp [P3 h2]
       |succ m ih=>
        intro i r' hi h2;simp only [vI] at h2;obtain ⟨r1,r2,g1,g2,rfl⟩:=sI h2;have hle:i*k1.length+k1.length<=len*k1.length:=by
         grind [vJ,vH]
        rw [hrl] at hlr;obtain ⟨v1,p1,q1⟩:=s8 (P:=P) (w:=w) (cs:=us.toArray) (off:=i*k1.length) hg hsz hg1 (by simp [<-hxu.1,hlr.1];omega)
        obtain ⟨v2,p2,q2⟩:=s8 (P:=P) (w:=w) (cs:=vs.toArray) (off:=i*k1.length) hg hsz hg1 (by simp [<-hyv.1,hlr.2];omega)
        have hrec:=SJ d el k1 hk1 dd (by omega) _ _ _ _ v1 v2 r1 g1 ((hxu.drop _).take k1.length) ((hyv.drop _).take k1.length) q1 q2
        rw [tG,tG,show i*k1.length+k1.length=(i+1)*k1.length by rw [vJ]] at g2
        have hih:=ih (i+1) r2 (by omega) g2
        simp only [List.range'_succ,List.forIn_cons,Sem.run_bind,p1,p2,Result.andThen_ok,hrec];cases r1
        ·simp
        ·simp_all
      rw [key len 0 r (by omega) (by grind)]
      cases r<;>simp
     ·cases h
    grind
   grind
  ·cases h
end
end Go.Ab
namespace Go.Ab
section
variable {P:Program} {D:Nat->Prop} {φ:bP} {w:World} {n:Nat} {e:Env} {h:Hp} {E:bV} {ρ:Operand->Value}
theorem FT {neg g:Bool} {ks:List Kd} {x y:cq} {a b:Value} {t:TypeId} {xo yo:Operand} {c:Bool} (hs:step (.J4 neg g ks x y) e h n=some (c,E)) (hk:s9 P 9 t=some ks) (hg:eY P t=some g) (hgd:AB P t=true)
 (hnk:(∀k,P.underlying t≠some (.int k))/\P.underlying t≠some .string)
 (hx:gD D φ e h x a) (hy:gD D φ e h y b) (hH:HR D φ (only (aa h) E.rd) w):
 fE P D φ (only (aa h) E.rd) w n E ((do pure (Next.value (<-(do eqGuard (if neg then .neq else .eql) t xo yo a b;binOp (if neg then .neq else .eql) t a b))):Sem Next).run P w):=by
 simp only [step,av] at hs;obtain ⟨v,hv,v',hv',r,hr,hs⟩:=hs;have ha:=hx v hv;have hb:=hy v' hv';refine bU (u:= .bool (bif neg then !r else r)) hs hH ?_ (.b _)
 have hgd':P.eqGuardType P.depth t=false:=by grind [AB]
 have key:(Op.equal t a b).run P w= .ok r w/\a≠ .nilIface/\((∃q,a= .bool q)/\(∃q,b= .bool q)\/(∃q,a= .agg q)/\(∃q,b= .agg q)):=by
  unfold J4 at hr;split at hr
  ·obtain ⟨us,rfl,h1⟩:=ha.oh;obtain ⟨vs,rfl,h2⟩:=hb.oh;exact ⟨SJ 9 t ks hk Op.maxDepth (by decide) _ _ us vs _ _ r hr h1 h2 (.inl ⟨hg,rfl⟩) (.inl ⟨hg,rfl⟩),by simp,.inr ⟨⟨_,rfl⟩,⟨_,rfl⟩⟩⟩
  ·have hu:P.underlying t=some .bool:=by
    grind [eY,s9,absurd]
   have hks:ks=[.b]:=by grind [s9]
   subst hks;have h1:(Op.equal t a b).run P w= .ok r w:=SJ 9 t [.b] hk Op.maxDepth (by decide) _ _ [a] [b] _ _ r hr (.cons ha .nil) (.cons hb .nil) (.inr ⟨hg,rfl⟩) (.inr ⟨hg,rfl⟩)
   simp only [eqs,av] at hr;obtain ⟨q,hq,_⟩:=hr;unfold T2 at hq;split at hq
   ·cases ha;cases hb;grind
   all_goals grind
  ·cases hr
 obtain ⟨h1,h2,h3⟩:=key;have hge:=lq (P:=P) (w:=w) (op:=if neg then .neq else .eql) (t:=t) (x:=xo) (y:=yo) (b:=b) (.inr hgd') h2
 have hb2:(binOp (if neg then .neq else .eql) t a b).run P w= .ok (.bool (bif neg then !r else r)) w:=by
  rcases h3 with ⟨⟨q,rfl⟩,⟨q',rfl⟩⟩|⟨⟨q,rfl⟩,⟨q',rfl⟩⟩<;>cases neg<;>simp [binOp,h1]
 simp_all
theorem Xi {k:Nat} {t:TypeId} {a b:AV} {x y:Value} {r:Bool} {d:Nat} (hk:Gv P t=some k) (hr:Iz k a b=some r) (ha:aK D φ a x) (hb:aK D φ b y):
 (Op.equalIn (d+1) t x y).run P w= .ok r w/\x≠ .nilIface/\(∀q,x≠ .agg q)/\(∀neg:Bool,(binOp (if neg then .neq else .eql) t x y).run P w=((Op.equal t x y).run P w).andThen λr w'=> .ok (.bool (bif neg then !r else r)) w'):=by
 unfold Gv at hk;split at hk<;>rename_i hu<;>cases hk<;>unfold Iz at hr<;>split at hr<;>first|contradiction|cases hr<;>cases ha<;>cases hb<;>
  refine ⟨by simp only [Op.equalIn,Sem.run_bind,run_underlying hu,Result.andThen_ok];simp,by simp,by simp,λneg=>by cases neg<;>simp only [binOp,Sem.run_bind,ei,dP,cM,Sem.run_pure,cond_true,cond_false]⟩
theorem GZ {neg:Bool} {k:Nat} {x y:cq} {a b:Value} {t:TypeId} {xo yo:Operand} {c:Bool} (hs:step (.Iz neg k x y) e h n=some (c,E)) (hk:Gv P t=some k)
 (hx:gD D φ e h x a) (hy:gD D φ e h y b) (hH:HR D φ (only (aa h) E.rd) w):
 fE P D φ (only (aa h) E.rd) w n E ((do pure (Next.value (<-(do eqGuard (if neg then .neq else .eql) t xo yo a b;binOp (if neg then .neq else .eql) t a b))):Sem Next).run P w):=by
 simp only [step,av] at hs;obtain ⟨v,hv,v',hv',r,hr,hs⟩:=hs;have ha:=hx v hv;have hb:=hy v' hv';refine bU (u:= .bool (bif neg then !r else r)) hs hH ?_ (.b _)
 obtain ⟨h1,h2,h3,h4⟩:=Xi (P:=P) (w:=w) (d:=9999) hk hr ha hb;have h1:(Op.equal t a b).run P w= .ok r w:=h1;have hge:=lq (P:=P) (w:=w) (op:=if neg then .neq else .eql) (t:=t) (x:=xo) (y:=yo) (b:=b) (.inl h3) h2
 simp [*]
theorem MV {x:cq} {u:Value} {c:Bool} (hs:step (.not x) e h n=some (c,E)) (hx:gD D φ e h x u) (hH:HR D φ (only (aa h) E.rd) w):
 fE P D φ (only (aa h) E.rd) w n E ((do pure (Next.value (<-Op.unary .not u)):Sem Next).run P w):=by
 simp only [step,av] at hs;obtain ⟨v,hv,hs⟩:=hs;have hr:=hx v hv;split at hs
 ·cases hr;exact bU hs hH (by rfl) (.b _)
 ·cases hs
theorem PZ {x:cq} {u:Value} {c:Bool} (hs:step (.neg x) e h n=some (c,E)) (hx:gD D φ e h x u) (hH:HR D φ (only (aa h) E.rd) w):
 fE P D φ (only (aa h) E.rd) w n E ((do pure (Next.value (<-Op.unary .neg u)):Sem Next).run P w):=by
 simp only [step,av] at hs;obtain ⟨v,hv,hs⟩:=hs;have hr:=hx v hv;split at hs
 ·cases hr;exact bU hs hH (by rfl) (.i _ _)
 ·cases hs
theorem Rg {k:IntKind} {x:cq} {u:Value} {s d:TypeId} {c:Bool} (hs:step (.Dw k x) e h n=some (c,E)) (h1: ∃j,P.underlying s=some (.int j)) (h2:P.underlying d=some (.int k)) (hx:gD D φ e h x u) (hH:HR D φ (only (aa h) E.rd) w):
 fE P D φ (only (aa h) E.rd) w n E ((do pure (Next.value (<-convert s d u)):Sem Next).run P w):=by
 obtain ⟨j,h1⟩:=h1;simp only [step,av] at hs;obtain ⟨v,hv,hs⟩:=hs;have hr:=hx v hv;split at hs
 ·cases hr;exact bU hs hH (by simp_all [convert,run_underlying,Conv.intToInt]) (.i _ _)
 ·cases hs
theorem Rk {x:cq} {u:Value} {s d:TypeId} {c:Bool} (hs:step (.idc x) e h n=some (c,E)) (h1:P.underlying s=some .string) (h2:P.underlying d=some .string) (hx:gD D φ e h x u) (hH:HR D φ (only (aa h) E.rd) w):
 fE P D φ (only (aa h) E.rd) w n E ((do pure (Next.value (<-convert s d u)):Sem Next).run P w):=by
 simp only [step,av] at hs;obtain ⟨v,hv,hs⟩:=hs;have hr:=hx v hv;split at hs
 ·cases hr;exact bU hs hH (by simp_all [convert,run_underlying]) (.s _)
 ·cases hs
theorem sW {a:Addr} {cs:Array Value} {el:TypeId} {fr:Nat×Nat} (hw:w.heap[a.block]? =some (.cells cs el fr)):(markStringish a).run P w= .ok () (w.freeze {block:=a.block,off:=cs.size} 1):=by
 grind [World.shape?,markStringish,Sem.run_bind,run_shape,Result.andThen_ok,run_freeze]
theorem E4 {w:World} {cs:Array Value} {el:TypeId} {m:Nat} (hm:m=w.heap.size):(World.freeze {w with heap:=w.heap.push (.cells cs el)} ⟨m,cs.size,none⟩ 1)={w with heap:=w.heap.push (.cells cs el (cs.size,cs.size+1))}:=by
 subst hm;simp only [World.freeze];rw [aY (by decide)]
 congr 1
 grind
def k8 (s:ByteArray) (cap:Nat):Array Value:=s.data.map (λb:UInt8=>Value.int .u8 b.toNat)++Array.replicate (cap-s.size) (Value.int .u8 0)
theorem tN (el:TypeId) (s:ByteArray) (w:World): ∃cap,s.size<=cap/\(Conv.stringToBytes el s).run P w=
 .ok (.slice (some ⟨w.heap.size,0,none⟩) s.size cap)
  {w with drawn:=w.drawn+1,heap:=w.heap.push (.cells (k8 s cap) el ((k8 s cap).size,(k8 s cap).size+1))}:=by
 refine ⟨(Question.appendCap s.size 0 el).cut (w.tape w.drawn (.appendCap s.size 0 el)),?_,?_⟩
 ·show s.size<=s.size+_;omega
 ·simp only [Conv.stringToBytes,Sem.run_bind,run_choose];rw [aY (by simp [Question.forced])]
  simp only [Result.andThen_ok,iN];generalize (Question.appendCap s.size 0 el).cut (w.tape w.drawn (.appendCap s.size 0 el))=cap;have hcs:(s.data.map (λb:UInt8=>Value.int .u8 b.toNat)++Array.replicate (cap-s.size) (Value.int .u8 0))=k8 s cap:=rfl;rw [hcs];generalize k8 s cap=cs;rw [sW (cs:=cs) (el:=el) (fr:=(0,0)) (by simp)]
  simp only [Result.andThen_ok,Sem.run_pure];rw [E4 (w:={w with drawn:=w.drawn+1}) rfl]
theorem O5 {x:cq} {u:Value} {s d el:TypeId} {c:Bool} (hs:step (.s2b x) e h n=some (c,E)) (h1:P.underlying s=some .string) (h2:P.underlying d=some (.slice el)) (h3:P.underlying el=some (.int .u8)) (hn:n<E.n-> ¬D n)
 (hx:gD D φ e h x u) (hH:HR D φ (only (aa h) E.rd) w):
 fE P D φ (only (aa h) E.rd) w n E ((do pure (Next.value (<-convert s d u)):Sem Next).run P w):=by
 simp only [step,av] at hs;obtain ⟨v,hv,hs⟩:=hs;have hr:=hx v hv;split at hs
 ·rename_i l;cases hr;simp only [aI,aV] at hs;obtain ⟨_,rfl⟩:=hs;obtain ⟨cap,hcap,hrun⟩:=tN (P:=P) el ⟨l.toArray⟩ w;rw [size_mk] at hcap hrun;have hsz:(k8 ⟨l.toArray⟩ cap).size=cap:=by grind [k8,size_mk]
  generalize hcs:k8 ⟨l.toArray⟩ cap=cs at hrun hsz;refine fE.alloc (g:=some 1) (cap:=cap) (fO:=1) (cs:=cs) (elem:=el) (fr:=(cs.size,cs.size+1)) (w':={w with drawn:=w.drawn+1,heap:=w.heap.push (.cells cs el (cs.size,cs.size+1))}) (u:= .slice (some ⟨w.heap.size,0,none⟩) l.length cap) ?_ hH (hn (gw _)) rfl rfl rfl rfl (λi v hv=> ?_) (λi hi=>by grind) (λe he=>by grind) (uF hcap)
  ·simp_all [convert,Sem.run_bind,run_underlying,Result.andThen_ok]
  ·have hi:i<l.length:=by
    grind
   refine ⟨.int .u8 l[i].toNat,?_,?_⟩
   ·grind [k8,Array.getElem?_append]
   ·simp [hi] at hv;subst hv;exact .i _ _
 ·cases hs
end
end Go.Ab
namespace Go.Ab
section
variable {P:Program} {D:Nat->Prop} {φ:bP} {w:World} {n:Nat} {e:Env} {h:Hp} {E:bV} {ρ:Operand->Value}
theorem Nj {f:FuncId} {caps:List cq} {us:List Operand} {c:Bool} (hfy:f≠YB) (hs:step (.N7 f caps) e h n=some (c,E)) (hc:yu us=some caps) (hk: ∀y∈us,∀x,cO y=some x->gD D φ e h x (ρ y)) (hH:HR D φ (only (aa h) E.rd) w):
 fE P D φ (only (aa h) E.rd) w n E ((do pure (Next.value (<-Instr.makeFunc (.func f) #[] (us.map ρ).toArray)):Sem Next).run P w):=by
 simp only [step,av] at hs;obtain ⟨v,hv,hs⟩:=hs;exact bU hs hH (by rfl) (aK.fn' hfy (mc hc hv hk))
theorem Sv {f:FuncId} {caps:List cq} {us:List Operand} {c:Bool} (hfy:f≠YB) (hs:step (.mkm f caps) e h n=some (c,E)) (hc:yu us=some caps) (hk: ∀y∈us,∀x,cO y=some x->gD D φ e h x (ρ y)) (hH:HR D φ (only (aa h) E.rd) w):
 fE P D φ (only (aa h) E.rd) w n E ((do pure (Next.value (<-Instr.makeFunc (.func f) (us.map ρ).toArray #[])):Sem Next).run P w):=by
 simp only [step,av] at hs;obtain ⟨v,hv,hs⟩:=hs;exact bU hs hH (by rfl) (aK.bm' hfy (mc hc hv hk))
theorem tf {v:AV} {u:Value} {i:Int} (h:Dx v=some i) (hv:aK D φ v u): ∃k,u= .int k i:=by
 unfold Dx at h;split at h<;>cases h;cases hv;simp
theorem Fz {v:AV} {u:Value} {i:Int} (h:Mw v=some i) (hv:aK D φ v u):u= .int .i64 i:=by
 unfold Mw at h;split at h<;>cases h;cases hv;rfl
def Mp (D:Nat->Prop) (φ:bP) (e:Env) (h:Hp) (x:Option cq) (u:Option Value):Prop:=
 match x,u with
 |none,none=>True
 |some x,some u=>gD D φ e h x u
 |_,_=>False
def Bd (i:Option Int) (u:Option Value):Prop:=
 match i,u with
 |none,none=>True
 |some i,some u=> ∃k,u= .int k i
 |_,_=>False
theorem dx {α:Type} {x:Option cq} {u:Option Value} {k:Option Int->Option α} {r:α} (hb:da e h x k=some r) (hx:Mp D φ e h x u): ∃i,Bd i u/\k i=some r:=by
 cases x with
 |none=>cases u with
  |none=>exact ⟨none,trivial,hb⟩
  |some u=>exact hx.elim
 |some x=>cases u with
  |none=>exact hx.elim
  |some u=>
   simp only [da,av] at hb;obtain ⟨v,hv,i,hi,hb⟩:=hb;obtain ⟨k',rfl⟩:=tf hi (hx v hv);exact ⟨some i,⟨k',rfl⟩,hb⟩
theorem run_sliceBound {k:IntKind} {i:Int} {y:Nat} {code:BoundsCode} (h:0<=i/\i<=y):(Instr.sliceBound (.int k i) y code).run P w= .ok i.toNat w:=by
 simp [Instr.sliceBound,asIntOf,h]
theorem eh {b:Bool} {len cap:Nat} {lo hi mx:Option Int} {ulo uhi umx:Option Value} (h:(aM len cap lo hi mx).1=true) (hl:Bd lo ulo) (hh:Bd hi uhi) (hm:Bd mx umx) (hmh:mx=none\/ ∃v,hi=some v):
 (Instr.sliceBounds b len cap ulo uhi umx).run P w= .ok ((aM len cap lo hi mx).2.1,(aM len cap lo hi mx).2.2.1,(aM len cap lo hi mx).2.2.2) w:=by
 simp only [aM,bg] at h ⊢;cases mx with
 |none=>
  cases umx with
  |some u=>exact hm.elim
  |none=>
   simp only [tF] at h ⊢;cases hi with
   |none=>cases uhi with
    |some u=>exact hh.elim
    |none=>
     cases lo with
     |none=>cases ulo with
      |some u=>exact hl.elim
      |none=>simp [Instr.sliceBounds]
     |some l=>cases ulo with
      |none=>exact hl.elim
      |some u=>
       obtain ⟨k,rfl⟩:=hl;simp only [tF,fM] at h ⊢;simp [Instr.sliceBounds,run_sliceBound (P:=P) (w:=w) (k:=k) (i:=l) (y:=len) (code:= .sliceB) ⟨h.1,by omega⟩]
   |some i=>cases uhi with
    |none=>exact hh.elim
    |some u=>
     obtain ⟨k,rfl⟩:=hh;simp only [fM] at h ⊢;have h1: ∀code,(Instr.sliceBound (.int k i) cap code).run P w= .ok i.toNat w:=λcode=>run_sliceBound ⟨by omega,by omega⟩
     cases lo with
     |none=>cases ulo with
      |some u=>exact hl.elim
      |none=>simp [Instr.sliceBounds,h1]
     |some l=>cases ulo with
      |none=>exact hl.elim
      |some u=>
       obtain ⟨k',rfl⟩:=hl;simp only [fM] at h ⊢;have h2: ∀code,(Instr.sliceBound (.int k' l) i.toNat code).run P w= .ok l.toNat w:=λcode=>run_sliceBound ⟨by omega,by omega⟩
       simp [Instr.sliceBounds,h1,h2]
 |some m=>
  cases umx with
  |none=>exact hm.elim
  |some u=>
   obtain ⟨k0,rfl⟩:=hm;obtain ⟨i,rfl⟩:=hmh.resolve_left (by simp)
   cases uhi with
   |none=>exact hh.elim
   |some u=>
    obtain ⟨k,rfl⟩:=hh;simp only [fM] at h ⊢;have h0: ∀code,(Instr.sliceBound (.int k0 m) cap code).run P w= .ok m.toNat w:=λcode=>run_sliceBound ⟨by omega,by omega⟩
    have h1: ∀code,(Instr.sliceBound (.int k i) m.toNat code).run P w= .ok i.toNat w:=λcode=>run_sliceBound ⟨by omega,by omega⟩
    cases lo with
    |none=>cases ulo with
     |some u=>exact hl.elim
     |none=>simp [Instr.sliceBounds,h0,h1]
    |some l=>cases ulo with
     |none=>exact hl.elim
     |some u=>
      obtain ⟨k',rfl⟩:=hl;simp only [fM] at h ⊢;have h2: ∀code,(Instr.sliceBound (.int k' l) i.toNat code).run P w= .ok l.toNat w:=λcode=>run_sliceBound ⟨by omega,by omega⟩
      simp [Instr.sliceBounds,h0,h1,h2]
theorem extract_mk (l:List UInt8) (a b:Nat):(ByteArray.mk l.toArray).extract a b=ByteArray.mk ((l.take b).drop a).toArray:=by
 apply ByteArray.ext;simp [ByteArray.data_extract,List.drop_take]
theorem Sd {x:cq} {lo hi:Option cq} {u:Value} {ulo uhi:Option Value} {t:TypeId} {c:Bool} (hs:step (.slS x lo hi) e h n=some (c,E)) (hc:c=true) (ht:P.underlying t=some .string) (hx:gD D φ e h x u) (hlo:Mp D φ e h lo ulo) (hhi:Mp D φ e h hi uhi)
 (hH:HR D φ (only (aa h) E.rd) w):fE P D φ (only (aa h) E.rd) w n E ((do pure (Next.value (<-Instr.sliceAt t u ulo uhi none)):Sem Next).run P w):=by
 simp only [step,av] at hs;obtain ⟨v,hv,hs⟩:=hs;have hr:=hx v hv;split at hs
 ·rename_i l;cases hr;obtain ⟨lo',hl,hs⟩:=dx hs hlo;obtain ⟨hi',hh,hs⟩:=dx hs hhi;simp only [aI,aV] at hs;obtain ⟨h1,rfl⟩:=hs;have hb:=eh (P:=P) (w:=w) (b:=false) (ulo:=ulo) (uhi:=uhi) (umx:=none) (h1.trans hc) hl hh trivial (.inl rfl);refine ck (rd:=[]) rfl hH ?_ (.s _);simp_all [Instr.sliceAt,Sem.run_bind,run_underlying,Result.andThen_ok,Instr.slice,Option.isSome_none,ei,size_mk,extract_mk]
 ·cases hs
theorem nJ {len cap:Nat} {lo hi mx:Option Int} (h:(aM len cap lo hi mx).1=true):
 (aM len cap lo hi mx).2.1<=(aM len cap lo hi mx).2.2.1/\(aM len cap lo hi mx).2.2.1<=(aM len cap lo hi mx).2.2.2/\(aM len cap lo hi mx).2.2.2<=cap:=by
 simp only [aM,bg] at h ⊢;omega
theorem M0 {z:Nat} {x:cq} {lo hi mx:Option cq} {u:Value} {ulo uhi umx:Option Value} {t el:TypeId} {c:Bool} (hs:step (.vW z x lo hi mx) e h n=some (c,E)) (hc:c=true) (ht:P.underlying t=some (.slice el)) (hz:fh P el=some z)
 (hx:gD D φ e h x u) (hlo:Mp D φ e h lo ulo) (hhi:Mp D φ e h hi uhi) (hmx:Mp D φ e h mx umx) (hmh:mx=none\/hi.isSome=true)
 (hH:HR D φ (only (aa h) E.rd) w):fE P D φ (only (aa h) E.rd) w n E ((do pure (Next.value (<-Instr.sliceAt t u ulo uhi umx)):Sem Next).run P w):=by
 simp only [step,av] at hs;obtain ⟨v,hv,hs⟩:=hs;have hr:=hx v hv;have hmh': ∀hi' mx',Bd hi' uhi->Bd mx' umx->mx'=none\/ ∃v,hi'=some v:=λhi' mx' h1 h2=>by
  rcases hmh with rfl|h3
  ·cases umx with
   |none=>cases mx' with
    |none=>exact .inl rfl
    |some _=>exact h2.elim
   |some _=>exact hmx.elim
  ·cases hi with
   |none=>simp at h3
   |some _=>cases uhi with
    |none=>exact hhi.elim
    |some _=>cases hi' with
     |none=>exact h1.elim
     |some q=>exact .inr ⟨q,rfl⟩
 split at hs
 ·cases hr;obtain ⟨lo',hl,hs⟩:=dx hs hlo;obtain ⟨hi',hh,hs⟩:=dx hs hhi;obtain ⟨mx',hm,hs⟩:=dx hs hmx;simp only [aI,aV] at hs;obtain ⟨h1,rfl⟩:=hs;have hb:=eh (P:=P) (w:=w) (b:=true) (h1.trans hc) hl hh hm (hmh' _ _ hh hm);have hle:=nJ (h1.trans hc);refine ck (rd:=[]) rfl hH ?_ .ns;rw [dK];simp only [Instr.sliceAt,Sem.run_bind,run_underlying ht,Result.andThen_ok,Instr.slice,hb,run_sizeOf hz,Sem.run_pure,Option.map_none,ite_self]
  grind
 ·rename_i b o len cap;cases hr with
  |sl _ _ _ _ hD=>
  obtain ⟨lo',hl,hs⟩:=dx hs hlo;obtain ⟨hi',hh,hs⟩:=dx hs hhi;obtain ⟨mx',hm,hs⟩:=dx hs hmx;simp only [aI,aV] at hs;obtain ⟨h1,rfl⟩:=hs;have hb:=eh (P:=P) (w:=w) (b:=true) (h1.trans hc) hl hh hm (hmh' _ _ hh hm);refine ck (rd:=[]) rfl hH ?_ (.sl _ _ _ _ hD);rw [dK];simp only [Instr.sliceAt,Sem.run_bind,run_underlying ht,Result.andThen_ok,Instr.slice,hb,run_sizeOf hz,Sem.run_pure,iI,Addr.add_eq];split
  ·rfl
  ·simp
 ·rename_i b o len;cases hr with
  |sg _ _ _ j cap hD hj hcap hlen=>
  split at hs
  ·cases hs
  ·simp only [av] at hs;obtain ⟨k,hk,hs⟩:=hs;obtain ⟨lo',hl,hs⟩:=dx hs hlo;obtain ⟨hi',hh,hs⟩:=dx hs hhi;cases umx with
   |some _=>exact hmx.elim
   |none=>
   split at hs
   ·rename_i z' hgr;split at hs;rotate_left
    ·rename_i hge;simp only [aI,aV] at hs;obtain ⟨h1,rfl⟩:=hs;rw [hc] at h1;simp only [ak] at h1;obtain ⟨h1,h3⟩:=h1;have h2:=tM hge;have hle:=nJ h1;have h1':(aM len cap lo' hi' none).1=true:=by simp only [aM,bg] at h1 ⊢;grind
     have hb:=eh (P:=P) (w:=w) (b:=true) h1' hl hh (mx:=none) (umx:=none) trivial (.inl rfl);have e1:(aM len cap lo' hi' none).2.1=(aM len len lo' hi' none).2.1:=rfl;have e2:(aM len cap lo' hi' none).2.2.1=(aM len len lo' hi' none).2.2.1:=rfl;have e3:(aM len cap lo' hi' none).2.2.2=cap:=by simp [aM]
     have e4:(aM len len lo' hi' none).2.2.2=len:=by simp [aM]
     rw [e1,e2,e3] at hb;rw [e4] at hle;generalize (aM len len lo' hi' none).2.1=l at*;generalize (aM len len lo' hi' none).2.2.1=hh' at*;have hz0:hh'-l=0:=by omega
     refine ck rfl hH ?_ (aK.en (if cap=l then ⟨φ.cI b,φ.off b+o,none⟩ else (⟨φ.cI b,φ.off b+o,none⟩:Addr).add (l*z)) (cap-l))
     rw [dK];simp only [Instr.sliceAt,Sem.run_bind,run_underlying ht,Result.andThen_ok,Instr.slice,hb,run_sizeOf hz,Sem.run_pure,iI,hz0]
     grind
    rename_i hge;have h2:=bN hge;simp only [aI,aV] at hs;obtain ⟨h1,rfl⟩:=hs;rw [hc] at h1;simp only [ak] at h1;obtain ⟨h1,h3⟩:=h1;have h3:=ee h3;subst h3;obtain ⟨hk,hmp⟩:=dL hk;have hkk:only (aa h) [b] b=some k:=by simp_all [ep,inl]
    obtain ⟨_,⟨⟨cs,elem,fr,_,_,_,h4⟩,_⟩⟩:=hH.at_ b k hkk;obtain ⟨_,h5,_⟩:=h4 z hgr;have hle:=nJ h1;have h1':(aM len cap lo' hi' none).1=true:=by simp only [aM,bg] at h1 ⊢;grind
    have hb:=eh (P:=P) (w:=w) (b:=true) h1' hl hh (mx:=none) (umx:=none) trivial (.inl rfl);have e1:(aM len cap lo' hi' none).2.1=(aM len len lo' hi' none).2.1:=rfl;have e2:(aM len cap lo' hi' none).2.2.1=(aM len len lo' hi' none).2.2.1:=rfl;have e3:(aM len cap lo' hi' none).2.2.2=cap:=by simp [aM]
    rw [e1,e2,e3] at hb;generalize (aM len len lo' hi' none).2.1=l at*;generalize (aM len len lo' hi' none).2.2.1=hh' at*;have hv2:aK D φ (.sg b (o+l*z) (hh'-l)) (.slice (some ⟨φ.cI b,φ.off b+(o+l*z),none⟩) (hh'-l) (cap-l)):=
     .sg b (o+l*z) (hh'-l) (j+l) (cap-l) hD (by grind) (by omega) (by omega)
    refine ck rfl hH ?_ hv2;rw [dK];simp only [Instr.sliceAt,Sem.run_bind,run_underlying ht,Result.andThen_ok,Instr.slice,hb,run_sizeOf hz,Sem.run_pure,iI,Addr.add_eq]
    grind
   ·cases hs
 ·rename_i l len;obtain ⟨lo',hl,hs⟩:=dx hs hlo;obtain ⟨hi',hh,hs⟩:=dx hs hhi;obtain ⟨mx',hm,hs⟩:=dx hs hmx;simp only [aI,aV] at hs;obtain ⟨h1,rfl⟩:=hs;have h1:=h1.trans hc;have key: ∀cap,len<=cap-> ∃M,(Instr.sliceBounds true len cap ulo uhi umx).run P w= .ok ((aM len len lo' hi' mx').2.1,(aM len len lo' hi' mx').2.2.1,M) w∧
   (aM len len lo' hi' mx').2.2.2<=M/\(mx'.isSome=true->M=(aM len len lo' hi' mx').2.2.2)/\M<=cap:=λcap hcap=>by
   have h1':(aM len cap lo' hi' mx').1=true:=by
    simp only [aM,bg] at h1 ⊢;cases mx'<;>simp only [tF,fM] at h1 ⊢ <;>omega
   refine ⟨_,eh (P:=P) (w:=w) (b:=true) h1' hl hh hm (hmh' _ _ hh hm),?_,λhs=> ?_,?_⟩
   ·cases mx'<;>simp [aM,hcap]
   ·cases mx';all_goals grind [aM]
   simp_all [aM,bg]
  have hle:=nJ h1;generalize (aM len len lo' hi' mx').2.1=l1 at*;generalize (aM len len lo' hi' mx').2.2.1=l2 at*;generalize (aM len len lo' hi' mx').2.2.2=l3 at*;have run: ∀x cap,len<=cap->u= .slice x len cap-> ∃M,l3<=M/\(mx'.isSome=true->M=l3)/\M<=cap/\((do pure (Next.value (<-Instr.sliceAt t u ulo uhi umx)):Sem Next).run P w)= .ok (.value (.slice (if M=l1 then x else x.map (·.add (l1*z))) (l2-l1) (M-l1))) w:=λx cap hcap hu=>by
   obtain ⟨M,hb,hM,hM',hMc⟩:=key cap hcap;refine ⟨M,hM,hM',hMc,?_⟩;simp_all [Instr.sliceAt,Sem.run_bind,run_underlying,Result.andThen_ok,Instr.slice,run_sizeOf]
  cases hr with
  |fz _ _ B o cap vs hB hcap hsz hv=>
   obtain ⟨M,hM,hM',hMc,hrun⟩:=run _ cap hcap rfl;refine ck (rd:=[]) rfl hH hrun ?_;split
   ·rename_i hz0;have:=hM' hz0.1;rw [show l2-l1=0 by omega,show M-l1=0 by omega]
    exact .ze _
   ·by_cases hMl:M=l1
    ·rw [show l2-l1=0 by omega];exact .nS _ _ _ (λh=>by omega)
    ·rw [aY hMl];simp only [iI,Addr.add_eq];refine .fz _ _ B (o+l1*z) _ vs hB (by omega) (λi hi=> ?_) (λi a u ha hu=> ?_)
     ·simp at hi;have:=hsz (l1*z+i) (by omega);omega
     grind
  |nS _ x cap hc0=>
   obtain ⟨M,hM,hM',hMc,hrun⟩:=run x cap (cr _) rfl;refine ck (rd:=[]) rfl hH hrun ?_;split
   ·rename_i hz0;have:=hM' hz0.1;rw [show l2-l1=0 by omega,show M-l1=0 by omega]
    exact .ze _
   ·rw [show l2-l1=0 by omega];exact .nS _ _ _ (λh=>by
     have:x=none:=by
      split at h;all_goals simp_all
     grind)
 ·cases hr with
  |ze x=>
  obtain ⟨lo',hl,hs⟩:=dx hs hlo;obtain ⟨hi',hh,hs⟩:=dx hs hhi;obtain ⟨mx',hm,hs⟩:=dx hs hmx;simp only [aI,aV] at hs;obtain ⟨h1,rfl⟩:=hs;have hb:=eh (P:=P) (w:=w) (b:=true) (h1.trans hc) hl hh hm (hmh' _ _ hh hm);have hle:=nJ (h1.trans hc);refine ck (rd:=[]) (u:= .slice (if (aM 0 0 lo' hi' mx').2.2.2=(aM 0 0 lo' hi' mx').2.1 then x else x.map (·.add ((aM 0 0 lo' hi' mx').2.1*z))) 0 0) rfl hH ?_ (.ze _)
  rw [dK];simp only [Instr.sliceAt,Sem.run_bind,run_underlying ht,Result.andThen_ok,Instr.slice,hb,run_sizeOf hz,Sem.run_pure];rw [show (aM 0 0 lo' hi' mx').2.2.1-(aM 0 0 lo' hi' mx').2.1=0 by omega,show (aM 0 0 lo' hi' mx').2.2.2-(aM 0 0 lo' hi' mx').2.1=0 by omega]
 ·cases hs
theorem Nd {m z:Nat} {x:cq} {lo hi mx:Option cq} {u:Value} {ulo uhi umx:Option Value} {t el:TypeId} {c:Bool} (hs:step (.slA m z x lo hi mx) e h n=some (c,E)) (hc:c=true) (ht:P.underlying t=some (.array m el)) (hz:fh P el=some z)
 (hx:gD D φ e h x u) (hlo:Mp D φ e h lo ulo) (hhi:Mp D φ e h hi uhi) (hmx:Mp D φ e h mx umx) (hmh:mx=none\/hi.isSome=true)
 (hH:HR D φ (only (aa h) E.rd) w):fE P D φ (only (aa h) E.rd) w n E ((do pure (Next.value (<-Instr.sliceAt t u ulo uhi umx)):Sem Next).run P w):=by
 simp only [step,av] at hs;obtain ⟨v,hv,hs⟩:=hs;have hr:=hx v hv;have hmh': ∀hi' mx',Bd hi' uhi->Bd mx' umx->mx'=none\/ ∃v,hi'=some v:=λhi' mx' h1 h2=>by
  rcases hmh with rfl|h3
  ·cases umx with
   |none=>cases mx' with
    |none=>exact .inl rfl
    |some _=>exact h2.elim
   |some _=>exact hmx.elim
  ·cases hi with
   |none=>simp at h3
   |some _=>cases uhi with
    |none=>exact hhi.elim
    |some _=>cases hi' with
     |none=>exact h1.elim
     |some q=>exact .inr ⟨q,rfl⟩
 split at hs
 ·rename_i b o;cases hr with
  |p _ _ hD=>
  obtain ⟨lo',hl,hs⟩:=dx hs hlo;obtain ⟨hi',hh,hs⟩:=dx hs hhi;obtain ⟨mx',hm,hs⟩:=dx hs hmx;simp only [aI,aV] at hs;obtain ⟨h1,rfl⟩:=hs;have hb:=eh (P:=P) (w:=w) (b:=false) (h1.trans hc) hl hh hm (hmh' _ _ hh hm);refine ck (rd:=[]) rfl hH ?_ (.sl _ _ _ _ hD);rw [dK];simp only [Instr.sliceAt,Instr.sureAddr,Sem.run_bind,run_underlying ht,Result.andThen_ok,hb,run_sizeOf hz,Sem.run_pure,Addr.add_eq];split
  ·rfl
  ·simp
 ·cases hs
theorem qe {t:TypeId} {f:Nat} {q:Nat×Nat×TypeId} (h:nY P t f=some q): ∃fs fl,P.underlying t=some (.struct fs)/\fs[f]? =some fl/\fl.offset=q.1/\fh P fl.type=some q.2.1/\fl.type=q.2.2:=by
 grind [nY,av,bK]
theorem UH {x:cq} {u:Value} {t:TypeId} {f:Nat} {q:Nat×Nat×TypeId} {c:Bool} (hs:step (.fa q.1 x) e h n=some (c,E)) (hq:nY P t f=some q) (hq0:q.2.1≠0) (hx:gD D φ e h x u) (hH:HR D φ (only (aa h) E.rd) w):
 fE P D φ (only (aa h) E.rd) w n E ((do pure (Next.value (<-Instr.fieldAt t u f)):Sem Next).run P w):=by
 obtain ⟨fs,fl,h1,h2,h3,h4,h5⟩:=qe hq;simp only [step,av] at hs;obtain ⟨v,hv,hs⟩:=hs;have hr:=hx v hv;split at hs
 ·rename_i b o;cases hr with
  |p _ _ hD=>
  refine bU hs hH ?_ (.p _ _ hD);rw [dK];simp only [Instr.fieldAt,Sem.run_bind,run_underlying h1,Result.andThen_ok,h2,Instr.sureAddr,Sem.run_pure,fieldPlace,run_sizeOf h4,hq0,dP,Addr.add_eq,h3,mj]
 ·rename_i l o;cases hr with
  |fp _ _ B o' vs hB hsz hv=>
  refine bU hs hH ?_ (.fp _ _ B o' vs hB hsz hv);rw [dK];simp only [Instr.fieldAt,Sem.run_bind,run_underlying h1,Result.andThen_ok,h2,Instr.sureAddr,Sem.run_pure,fieldPlace,run_sizeOf h4,hq0,dP,Addr.add_eq,h3,mj]
 ·cases hs
theorem l9 {t:TypeId} {cs:List Value} {l:List AV} {off z:Nat} (hl:cw D φ l cs) {g:Bool} (hg:eY P t=some g) (hz:fh P t=some z) (hle:g=true->off+z<=l.length) {v:AV} (hv:(if g then some (.agg (aD l off z)) else l[off]?)=some v):
 ∃u,(part t cs.toArray off).run P w= .ok u w/\aK D φ v u:=by
 cases g
 ·simp only [ei,dP] at hv;obtain ⟨u,hu,hr⟩:=hl.get hv;simp_all [part,Sem.run_bind,iT,Result.andThen_ok,ei,List.getElem?_toArray,Sem.run_pure]
 ·simp only [cM,aI] at hv;subst hv;refine ⟨.agg ((cs.drop off).take z).toArray,?_,aK.wb ((hl.drop off).take z)⟩;simp_all [part,Sem.run_bind,iT,Result.andThen_ok,run_sizeOf,List.take_drop]
theorem OH {x:cq} {u:Value} {t:TypeId} {f:Nat} {q:Nat×Nat×TypeId} {g:Bool} {c:Bool} (hs:step (.fld g q.2.1 q.1 x) e h n=some (c,E)) (hc:c=true) (hq:nY P t f=some q) (hg:eY P q.2.2=some g) (hx:gD D φ e h x u) (hH:HR D φ (only (aa h) E.rd) w):
 fE P D φ (only (aa h) E.rd) w n E ((do pure (Next.value (<-Instr.field t u f)):Sem Next).run P w):=by
 obtain ⟨fs,fl,h1,h2,h3,h4,h5⟩:=qe hq;simp only [step,av] at hs;obtain ⟨v,hv,hs⟩:=hs;have hr:=hx v hv;split at hs
 ·rename_i l;obtain ⟨us,rfl,hl⟩:=hr.oh;rw [<-h5] at hg;have hrun: ∀u w',(part fl.type us.toArray q.1).run P w= .ok u w'->(do pure (Next.value (<-Instr.field t (.agg us.toArray) f)):Sem Next).run P w= .ok (.value u) w':=λu w' hp=>by
   simp_all [Instr.field,Sem.run_bind,run_underlying,Result.andThen_ok,asAgg]
  cases g
  ·simp only [av] at hs;obtain ⟨v,hv,hs⟩:=hs;obtain ⟨y,hy,hyr⟩:=l9 (P:=P) (w:=w) hl hg h4 (by simp) (v:=v) (by simpa using hv)
   grind [bU]
  ·simp only [aI,aV] at hs;obtain ⟨h6,rfl⟩:=hs;rw [hc] at h6;obtain ⟨y,hy,hyr⟩:=l9 (P:=P) (w:=w) hl hg h4 (λ_=>bN h6) (v:= .agg (aD l q.1 q.2.1)) (by simp)
   exact ck (rd:=[]) rfl hH (hrun _ _ hy) hyr
 ·cases hs
theorem jV {v:AV} {u:Value} {q:Nat×Nat×Nat} (h:iG v=some q) (hv:aK D φ v u): ∃cap,u= .slice (some ⟨φ.cI q.1,φ.off q.1+q.2.1,none⟩) q.2.2 cap/\D q.1:=by
 unfold iG at h;split at h<;>cases h<;>cases hv<;>exact ⟨_,rfl,by assumption⟩
theorem Ml {m z:Nat} {x i:cq} {u ui:Value} {t el:TypeId} {c:Bool} (hs:step (.PV m z x i) e h n=some (c,E)) (hc:c=true) (ht:P.underlying t=some (.array m el)) (hz:fh P el=some z) (hx:gD D φ e h x u) (hi:gD D φ e h i ui) (hH:HR D φ (only (aa h) E.rd) w):
 fE P D φ (only (aa h) E.rd) w n E ((do pure (Next.value (<-Instr.indexAt t u ui)):Sem Next).run P w):=by
 simp only [step,av] at hs;obtain ⟨v,hv,vi,hvi,j,hj,hs⟩:=hs;have hr:=hx v hv;obtain ⟨k,rfl⟩:=tf hj (hi vi hvi);split at hs
 ·rename_i b o;cases hr with
  |p _ _ hD=>
  simp only [aI,aV] at hs;obtain ⟨h1,rfl⟩:=hs;rw [hc] at h1;have h1:=bN h1;refine ck (rd:=[]) rfl hH ?_ (.p _ _ hD);rw [dK];simp only [Instr.indexAt,asIntOf,Sem.run_bind,Sem.run_pure,run_underlying ht,Result.andThen_ok,Instr.sureAddr];rw [aT h1];simp only [Sem.run_bind,run_sizeOf hz,Result.andThen_ok,Sem.run_pure,Addr.add_eq,mj]
 ·rename_i l o;cases hr with
  |fp _ _ B o' vs hB hsz hv=>
  simp only [aI,aV] at hs;obtain ⟨h1,rfl⟩:=hs;rw [hc] at h1;have h1:=bN h1;refine ck (rd:=[]) rfl hH ?_ (.fp _ _ B o' vs hB hsz hv);rw [dK];simp only [Instr.indexAt,asIntOf,Sem.run_bind,Sem.run_pure,run_underlying ht,Result.andThen_ok,Instr.sureAddr];rw [aT h1];simp only [Sem.run_bind,run_sizeOf hz,Result.andThen_ok,Sem.run_pure,Addr.add_eq,mj]
 ·cases hs
theorem Kg {z:Nat} {x i:cq} {u ui:Value} {t el:TypeId} {c:Bool} (hs:step (.uS z x i) e h n=some (c,E)) (hc:c=true) (ht:P.underlying t=some (.slice el)) (hz:fh P el=some z) (hx:gD D φ e h x u) (hi:gD D φ e h i ui) (hH:HR D φ (only (aa h) E.rd) w):
 fE P D φ (only (aa h) E.rd) w n E ((do pure (Next.value (<-Instr.indexAt t u ui)):Sem Next).run P w):=by
 simp only [step,av] at hs;obtain ⟨v,hv,vi,hvi,j,hj,hs⟩:=hs;obtain ⟨k,rfl⟩:=tf hj (hi vi hvi);have hr:=hx v hv;split at hs
 ·rename_i l len;simp only [aI,aV] at hs;obtain ⟨h1,rfl⟩:=hs;rw [hc] at h1;have h1:=bN h1;cases hr with
  |nS _ _ _ _=>omega
  |fz _ _ B o' cap vs hB hcap hsz hv=>
  refine ck (rd:=[]) rfl hH ?_ (.fp _ _ B o' vs hB hsz hv);rw [dK];simp only [Instr.indexAt,asIntOf,Sem.run_bind,Sem.run_pure,run_underlying ht,Result.andThen_ok,Instr.sureAddr];rw [aT h1];simp only [Sem.run_bind,run_sizeOf hz,Result.andThen_ok,Sem.run_pure,Addr.add_eq]
 simp only [av] at hs;obtain ⟨q,hq,hs⟩:=hs;obtain ⟨cap,rfl,hD⟩:=jV hq hr;simp only [aI,aV] at hs;obtain ⟨h1,rfl⟩:=hs;rw [hc] at h1;have h1:=bN h1;refine ck (rd:=[]) rfl hH ?_ (.p _ _ hD);rw [dK];simp only [Instr.indexAt,asIntOf,Sem.run_bind,Sem.run_pure,run_underlying ht,Result.andThen_ok,Instr.sureAddr];simp_all [run_sizeOf,Result.andThen_ok,Addr.add_eq,mj]
theorem SU {m z:Nat} {g:Bool} {x i:cq} {u ui:Value} {t el:TypeId} {c:Bool} (hs:step (.ixA m z g x i) e h n=some (c,E)) (hc:c=true) (ht:P.underlying t=some (.array m el)) (hz:fh P el=some z) (hg:eY P el=some g) (hx:gD D φ e h x u) (hi:gD D φ e h i ui) (hH:HR D φ (only (aa h) E.rd) w):
 fE P D φ (only (aa h) E.rd) w n E ((do pure (Next.value (<-Instr.index t u ui)):Sem Next).run P w):=by
 simp only [step,av] at hs;obtain ⟨v,hv,vi,hvi,j,hj,hs⟩:=hs;have hr:=hx v hv;obtain ⟨k,rfl⟩:=tf hj (hi vi hvi);split at hs
 ·rename_i l;obtain ⟨us,rfl,hl⟩:=hr.oh;have hrun:0<=j/\j<m-> ∀u w',(part el us.toArray (j.toNat*z)).run P w= .ok u w'->(do pure (Next.value (<-Instr.index t (.agg us.toArray) (.int k j))):Sem Next).run P w= .ok (.value u) w':=λhjm u w' hp=>by
   simp_all [Instr.index,asIntOf,Sem.run_bind,run_underlying,Result.andThen_ok,run_sizeOf]
  cases g
  ·simp only [av,aI,aV] at hs;obtain ⟨v,hv,h1,rfl⟩:=hs;rw [hc] at h1;obtain ⟨y,hy,hyr⟩:=l9 (P:=P) (w:=w) hl hg hz (by simp) (v:=v) (by simpa using hv)
   exact ck (rd:=[]) rfl hH (hrun (bN h1) _ _ hy) hyr
  ·simp only [aI,aV] at hs;obtain ⟨h6,rfl⟩:=hs;rw [hc,ak] at h6;obtain ⟨y,hy,hyr⟩:=l9 (P:=P) (w:=w) hl hg hz (λ_=>bN h6.2) (v:= .agg (aD l (j.toNat*z) z)) (by simp)
   exact ck (rd:=[]) rfl hH (hrun (bN h6.1) _ _ hy) hyr
 ·cases hs
theorem O8 {x i:cq} {u ui:Value} {t:TypeId} {c:Bool} (hs:step (.oJ x i) e h n=some (c,E)) (hc:c=true) (ht:P.underlying t=some .string) (hx:gD D φ e h x u) (hi:gD D φ e h i ui) (hH:HR D φ (only (aa h) E.rd) w):
 fE P D φ (only (aa h) E.rd) w n E ((do pure (Next.value (<-Instr.index t u ui)):Sem Next).run P w):=by
 simp only [step,av] at hs;obtain ⟨v,hv,vi,hvi,j,hj,hs⟩:=hs;have hr:=hx v hv;obtain ⟨k,rfl⟩:=tf hj (hi vi hvi);split at hs
 ·rename_i l;cases hr;simp only [aI,aV] at hs;obtain ⟨h1,rfl⟩:=hs;rw [hc] at h1;have h1:=bN h1;refine ck (rd:=[]) rfl hH ?_ (.i _ _);rw [dK];simp only [Instr.index,asIntOf,Sem.run_bind,Sem.run_pure,run_underlying ht,Result.andThen_ok];have hlt:j.toNat<l.length:=by omega
  have hb:((if 0<=j then (ByteArray.mk l.toArray)[j.toNat]? else none):Option UInt8)=some l[j.toNat]:=by
   rw [aT h1.1];have:j.toNat<(ByteArray.mk l.toArray).size:=by grind [size_mk]
   rw [getElem?_pos (ByteArray.mk l.toArray) j.toNat this];rfl
  simp_all
 ·cases hs
theorem Ro {x:cq} {u:Value} {i:Nat} {c:Bool} (hs:step (.ext x i) e h n=some (c,E)) (hx:gD D φ e h x u) (hH:HR D φ (only (aa h) E.rd) w):
 fE P D φ (only (aa h) E.rd) w n E ((do pure (Next.value (<-Instr.extract u i)):Sem Next).run P w):=by
 simp only [step,av] at hs;obtain ⟨v,hv,hs⟩:=hs;have hr:=hx v hv;split at hs
 ·rename_i l;obtain ⟨us,rfl,hl⟩:=hr.Fe;simp only [av] at hs;obtain ⟨v,hv,hs⟩:=hs;obtain ⟨y,hy,hyr⟩:=hl.get hv;exact bU hs hH (by simp [Instr.extract,hy]) hyr
 ·cases hs
end
end Go.Ab
namespace Go.Ab
section
variable {P:Program} {D:Nat->Prop} {φ:bP} {w:World} {n:Nat} {e:Env} {h:Hp} {E:bV} {ρ:Operand->Value}
theorem Ll {x:cq} {u:Value} {t tt:TypeId} {c:Bool} (hs:step (.Ru x) e h n=some (c,E)) (ht:P.underlying t=some .string) (hx:gD D φ e h x u) (hH:HR D φ (only (aa h) E.rd) w):
 fE P D φ (only (aa h) E.rd) w n E ((do pure (Next.value (<-Builtin.len_ #[t] tt #[u])):Sem Next).run P w):=by
 simp only [step,av] at hs;obtain ⟨v,hv,hs⟩:=hs;have hr:=hx v hv;split at hs
 ·cases hr;refine bU hs hH ?_ (.i _ _);simp_all [Builtin.len_,run_underlying,size_mk,goInt]
 ·cases hs
theorem IT {x:cq} {u:Value} {t tt el:TypeId} {c:Bool} (hs:step (.lh x) e h n=some (c,E)) (ht:P.underlying t=some (.slice el)) (hx:gD D φ e h x u) (hH:HR D φ (only (aa h) E.rd) w):
 fE P D φ (only (aa h) E.rd) w n E ((do pure (Next.value (<-Builtin.len_ #[t] tt #[u])):Sem Next).run P w):=by
 simp only [step,av] at hs;obtain ⟨v,hv,hs⟩:=hs;have hr:=hx v hv;split at hs
 ·cases hr;refine bU hs hH ?_ (.i _ _);simp_all [Builtin.len_,run_underlying,goInt]
 ·refine bU hs hH ?_ (.i _ _);rw [dK];cases hr<;>simp [Builtin.len_,run_underlying ht,goInt]
 ·refine bU hs hH ?_ (.i _ _);rw [dK];cases hr<;>simp [Builtin.len_,run_underlying ht,goInt]
 ·refine bU hs hH ?_ (.i _ _);rw [dK];cases hr<;>simp [Builtin.len_,run_underlying ht,goInt]
 ·simp only [av] at hs;obtain ⟨q,hq,hs⟩:=hs;obtain ⟨cap,rfl,_⟩:=jV hq hr;refine bU hs hH ?_ (.i _ _);simp_all [Builtin.len_,run_underlying,goInt]
theorem CK {m:Nat} {u:Value} {t tt:TypeId} {c:Bool} (hs:step (.SZ m) e h n=some (c,E)) (ht:(∃el,P.underlying t=some (.array m el))\/ ∃a el,P.underlying t=some (.pointer a)/\P.underlying a=some (.array m el)) (hH:HR D φ (only (aa h) E.rd) w):
 fE P D φ (only (aa h) E.rd) w n E ((do pure (Next.value (<-Builtin.len_ #[t] tt #[u])):Sem Next).run P w):=by
 refine bU hs hH ?_ (.i _ _);rw [dK];rcases ht with ⟨el,ht⟩|⟨a,el,ht,ha⟩
 all_goals simp_all [Builtin.len_,run_underlying,goInt]
theorem KW {x:cq} {u:Value} {t tt el:TypeId} {c:Bool} (hs:step (.LW x) e h n=some (c,E)) (ht:P.underlying t=some (.slice el)) (hx:gD D φ e h x u) (hH:HR D φ (only (aa h) E.rd) w):
 fE P D φ (only (aa h) E.rd) w n E ((do pure (Next.value (<-Builtin.cap_ #[t] tt #[u])):Sem Next).run P w):=by
 simp only [step,av] at hs;obtain ⟨v,hv,hs⟩:=hs;have hr:=hx v hv;split at hs
 ·cases hr;refine bU hs hH ?_ (.i _ _);simp_all [Builtin.cap_,run_underlying,goInt]
 ·cases hr;refine bU hs hH ?_ (.i _ _);simp_all [Builtin.cap_,run_underlying,goInt]
 ·refine bU hs hH ?_ (.i _ _);rw [dK];cases hr<;>simp [Builtin.cap_,run_underlying ht,goInt]
 ·cases hs
theorem Cz {k:IntKind}: ∀{l:List AV} {us:List Value} {a m:Int},yJ k a l=some m->cw D φ l us->(us.foldlM Builtin.min2 (.int k a)).run P w= .ok (.int k m) w
 |[],us,a,m,hm,hl=>by rw [hl.mq];simp_all [yJ]
 |v::l,us,a,m,hm,hl=>by
  obtain ⟨u,us',rfl,hv,hl'⟩:=hl.eB;unfold yJ at hm;split at hm
  ·contradiction
  ·rename_i k' y r heq;cases heq;split at hm
   ·rename_i e;subst e;cases hv;simp only [List.foldlM_cons,Sem.run_bind,Builtin.min2,Sem.run_pure,Result.andThen_ok];exact Cz hm hl'
   ·cases hm
  ·cases hm
theorem BZ {k:IntKind}: ∀{l:List AV} {us:List Value} {a m:Int},yU k a l=some m->cw D φ l us->(us.foldlM Builtin.max2 (.int k a)).run P w= .ok (.int k m) w
 |[],us,a,m,hm,hl=>by rw [hl.mq];simp_all [yU]
 |v::l,us,a,m,hm,hl=>by
  obtain ⟨u,us',rfl,hv,hl'⟩:=hl.eB;unfold yU at hm;split at hm
  ·contradiction
  ·rename_i k' y r heq;cases heq;split at hm
   ·rename_i e;subst e;cases hv;simp only [List.foldlM_cons,Sem.run_bind,Builtin.max2,Sem.run_pure,Result.andThen_ok];exact BZ hm hl'
   ·cases hm
  ·cases hm
theorem Fh {v:AV} {u:Value} {q:IntKind×Int} (h:VR v=some q) (hv:aK D φ v u):u= .int q.1 q.2:=by
 unfold VR at h;split at h<;>cases h;cases hv;rfl
theorem X5 {x:cq} {xs:List cq} {u:Value} {ys:List Operand} {ats:Array TypeId} {tt:TypeId} {c:Bool} (hs:step (.mn x xs) e h n=some (c,E)) (hc:yu ys=some xs) (hx:gD D φ e h x u) (hk: ∀y∈ys,∀x,cO y=some x->gD D φ e h x (ρ y)) (hH:HR D φ (only (aa h) E.rd) w):
 fE P D φ (only (aa h) E.rd) w n E ((do pure (Next.value (<-Builtin.min_ ats tt (u::ys.map ρ).toArray)):Sem Next).run P w):=by
 simp only [step,av] at hs;obtain ⟨v,hv,q,hq,l,hl,m,hm,hs⟩:=hs;have:=Fh hq (hx v hv);subst this;refine bU hs hH ?_ (.i _ _);rw [dK];simp only [Builtin.min_];rw [Cz hm (mc hc hl hk)];rfl
theorem XT {x:cq} {xs:List cq} {u:Value} {ys:List Operand} {ats:Array TypeId} {tt:TypeId} {c:Bool} (hs:step (.mx x xs) e h n=some (c,E)) (hc:yu ys=some xs) (hx:gD D φ e h x u) (hk: ∀y∈ys,∀x,cO y=some x->gD D φ e h x (ρ y)) (hH:HR D φ (only (aa h) E.rd) w):
 fE P D φ (only (aa h) E.rd) w n E ((do pure (Next.value (<-Builtin.max_ ats tt (u::ys.map ρ).toArray)):Sem Next).run P w):=by
 simp only [step,av] at hs;obtain ⟨v,hv,q,hq,l,hl,m,hm,hs⟩:=hs;have:=Fh hq (hx v hv);subst this;refine bU hs hH ?_ (.i _ _);rw [dK];simp only [Builtin.max_];rw [BZ hm (mc hc hl hk)];rfl
theorem kU {z:Nat} {x:AV} {u:Value} {r:List Nat×Nat×List AV×Bool} (hs:lF h z x=some r) (hr:r.2.2.2=true) {rd:List Nat} (hrd: ∀b,inl r.1 b=true->inl rd b=true)
 (hx:aK D φ x u) (hH:HR D φ (only (aa h) rd) w):
 (Builtin.lenOf u).run P w= .ok r.2.1 w/\ ∃us:List Value,(Builtin.firstCells z r.2.1 u).run P w= .ok us.toArray w/\cw D φ r.2.2.1 us/\r.2.2.1.length=r.2.1*z∧
  ∀m,m<=r.2.1->(Builtin.firstCells z m u).run P w= .ok (us.take (m*z)).toArray w:=by
 have row: ∀(b o len cap:Nat) (k:bp),jo h b=some k->inl rd b=true->(aD k.cells o (len*z)).length=len*z-> ∃us:List Value,(Builtin.firstCells z len (.slice (some ⟨φ.cI b,φ.off b+o,none⟩) len cap)).run P w= .ok us.toArray w/\cw D φ (aD k.cells o (len*z)) us∧
  ∀m,m<=len->(Builtin.firstCells z m (.slice (some ⟨φ.cI b,φ.off b+o,none⟩) len cap)).run P w= .ok (us.take (m*z)).toArray w:=λb o len cap k hk hb hl=>by
  obtain ⟨hk,hmp⟩:=dL hk;have hkk:only (aa h) rd b=some k:=by grind [ep]
  obtain ⟨us,h1,h2⟩:=HR.row (P:=P) hH hkk hmp hl;refine ⟨us,by grind [Builtin.firstCells],h2,λm hm=> ?_⟩
  have hmz:m*z<=len*z:=vH _ hm;have hl':(aD k.cells o (m*z)).length=m*z:=by grind [aD]
  obtain ⟨us',h3,h4⟩:=HR.row (P:=P) hH hkk hmp hl';simp only [Builtin.firstCells];rw [h3];congr 2
  -- both are the same cells of the world
  obtain ⟨_,⟨⟨cs,elem,fr,g1,_⟩,_⟩⟩:=hH.at_ b k hkk;by_cases h0:len*z=0
  ·have h0':m*z=0:=by omega
   have:us'.length=0:=by rw [<-h4.1,hl'];exact h0'
   grind
  ·obtain ⟨_,⟨⟨cs,elem,fr,g1,g2,_⟩,_⟩⟩:=hH.at_ b k hkk;have g1:=g1.cells hmp;have hin: ∀i,i<k.cells.length->φ.off b+i<cs.size:=λi hi=>by
    obtain ⟨u,hu,_⟩:=g2 i _ (bj hi)
    grind
   have hle:φ.off b+o+len*z<=cs.size:=by
    simp [aD] at hl;have:=hin (o+len*z-1) (by omega);omega
   have e1:=run_loadCells (P:=P) (o:=φ.off b+o) (n:=len*z) g1 hle;have e2:=run_loadCells (P:=P) (o:=φ.off b+o) (n:=m*z) g1 (by omega)
   grind
 unfold lF at hs;split at hs
 ·cases hs;cases hx;refine ⟨by rfl,[],by rfl,.nil,by simp,λm hm=>by simp [Builtin.firstCells]⟩
 ·rename_i l;cases hs;cases hx;have hz:z=1:=ee hr;subst hz;refine ⟨by rfl,l.map (λb=>Value.int .u8 b.toNat),?_,⟨by simp,λi a u ha hu=> ?_⟩,by simp,λm hm=> ?_⟩
  ·simp [Builtin.firstCells]
  ·simp only [dX,bK] at ha hu;obtain ⟨b,hb,rfl⟩:=ha;obtain ⟨b',hb',rfl⟩:=hu;rw [hb] at hb';cases hb';exact .i _ _
  ·simp [Builtin.firstCells,ByteArray.data_extract,List.map_take]
 ·rename_i b o len cap;simp only [av,aI] at hs;obtain ⟨k,hk,rfl⟩:=hs;cases hx;have hl:=bN hr;simp_all [inl,Builtin.lenOf]
 ·rename_i b o len;simp only [av,aI] at hs;obtain ⟨k,hk,rfl⟩:=hs;cases hx;have hl:=bN hr;simp_all [inl,Builtin.lenOf]
 ·rename_i l len;cases hs;have hl:=bN hr;cases hx with
  |nS _ x cap hc0=>
   refine ⟨by rfl,[],?_,by simp [aD];exact .nil,by omega,λm hm=> ?_⟩
   ·cases x<;>simp [Builtin.firstCells,loadCells,loadCellsFrom]
   ·have:m=0:=by grind
    subst this;cases x<;>simp [Builtin.firstCells,loadCells,loadCellsFrom]
  |fz _ _ B o cap vs hB hcap hsz hv=>
   obtain ⟨us,h1,h2⟩:=HR.ae2 (P:=P) hH hB hsz hv hl;refine ⟨by rfl,us,by grind [Builtin.firstCells],h2,hl,λm hm=> ?_⟩
   have hmz:m*z<=len*z:=vH _ hm;obtain ⟨elem,fr,g1⟩:=hH.fz B vs hB;simp only [Builtin.firstCells];by_cases h0:len*z=0
   ·simp_all [loadCells,loadCellsFrom]
   ·have hle:o+len*z<=vs.size:=by
     simp [aD] at hl;have:=hsz (len*z-1) (by omega);omega
    have e1:=run_loadCells (P:=P) (o:=o) (n:=len*z) g1 hle;have e2:=run_loadCells (P:=P) (o:=o) (n:=m*z) g1 (by omega)
    grind
 ·cases hs;cases hx with
  |ze x=>
  refine ⟨by rfl,[],?_,.nil,by simp,λm hm=> ?_⟩
  ·cases x<;>simp [Builtin.firstCells,loadCells,loadCellsFrom]
  ·have:m=0:=by grind
   subst this;cases x<;>simp [Builtin.firstCells,loadCells,loadCellsFrom]
 ·cases hs;cases hx with
  |en x cap=>
  refine ⟨by rfl,[],?_,.nil,by simp,λm hm=> ?_⟩
  ·simp [Builtin.firstCells,loadCells,loadCellsFrom]
  ·simp_all [Builtin.firstCells,loadCells,loadCellsFrom]
 ·cases hs
theorem xi {ats:Array TypeId} {t tt el:TypeId} {z m:Nat} {us:Value} {base:Option Addr} {len cap:Nat} {cells:Array Value} (h0:ats[0]? =some t) (ht:P.underlying t=some (.slice el)) (hz:fh P el=some z)
 (hl:(Builtin.lenOf us).run P w= .ok m w) (hf:(Builtin.firstCells z (Nat.min m len) us).run P w= .ok cells w):
 (Builtin.copy_ ats tt #[.slice base len cap,us]).run P w=((match base with|some a=>storeCells a cells.toList|none=>pure ():Sem Unit).run P w).andThen λ_ w'=> .ok (goInt (Nat.min m len)) w':=by
 have e0:(#[Value.slice base len cap,us]:Array Value)[0]? =some (Value.slice base len cap):=rfl;have e1:(#[Value.slice base len cap,us]:Array Value)[1]? =some us:=rfl;unfold Builtin.copy_;rw [h0,e0,e1];simp only [Sem.run_bind,run_underlying ht,Result.andThen_ok,hl,run_sizeOf hz,hf]
 grind [Sem.run_bind,Sem.run_pure,Result.andThen_ok]
theorem C8 {rd rd':List Nat} {D:Nat->Prop} {φ:bP} {w:World} {h:Hp}:HR D φ (only (aa h) rd) w->(∀b,inl rd' b=true->inl rd b=true)->HR D φ (only (aa h) rd') w:=λhh hs=>
 ⟨⟨λb k hb=>hh.at_ b k (by
    grind [only,inl]),
  λb1 b2 k1 k2 hne h1 h2 hk=>hh.sep b1 b2 k1 k2 hne (by
   grind [only,inl]) (by
   grind [only,inl]) hk⟩,hh.fz,hh.lp,λb k B vs hb hk hB=>hh.lS b k B vs (by
   grind [only,inl]) hk hB⟩
theorem vM: ∀{xs:List AV} (m:Nat),aL xs=true->aL (xs.take m)=true
 |[],m,h=>by simp [aL]
 |x::xs,0,h=>by simp [aL]
 |x::xs,m+1,h=>by
  simp only [aL,ak,FK] at h ⊢;exact ⟨h.1,vM m h.2⟩
theorem O9 {z:Nat} {d s:cq} {ud us:Value} {ats:Array TypeId} {t tt el:TypeId} {c:Bool} (hs:step (.JR z d s) e h n=some (c,E)) (hc:c=true) (h0:ats[0]? =some t) (ht:P.underlying t=some (.slice el)) (hz:fh P el=some z)
 (hd:gD D φ e h d ud) (hss:gD D φ e h s us) (hH:HR D φ (only (aa h) E.rd) w):
 fE P D φ (only (aa h) E.rd) w n E ((do pure (Next.value (<-Builtin.copy_ ats tt #[ud,us])):Sem Next).run P w):=by
 simp only [step,av] at hs;obtain ⟨vd,hvd,vs,hvs,r,hr,hs⟩:=hs;have hrd:=hd vd hvd;have hrs:=hss vs hvs;split at hs
 ·cases hrd;simp only [aI,aV] at hs;obtain ⟨h1,rfl⟩:=hs;obtain ⟨hl,us',hf,hu,hul,hft⟩:=kU (P:=P) hr (h1.trans hc) (rd:=r.1) (λb hb=>hb) hrs hH;refine ck rfl hH ?_ (.i .i64 0);simp_all [xi,goInt]
 ·cases hrd;simp only [aI,aV] at hs;obtain ⟨h1,rfl⟩:=hs;obtain ⟨hl,us',hf,hu,hul,hft⟩:=kU (P:=P) hr (h1.trans hc) (rd:=r.1) (λb hb=>hb) hrs hH;refine ck rfl hH ?_ (.i .i64 0);simp_all [xi,goInt,storeCells]
 ·simp only [av] at hs;obtain ⟨q,hq,k,hk,hs⟩:=hs;obtain ⟨cap,rfl,hDq⟩:=jV hq hrd;split at hs
  ·cases hs
  ·rename_i hro;simp only [aI,aV] at hs;obtain ⟨h1,rfl⟩:=hs;rw [hc] at h1;simp only [ak,bg] at h1;obtain ⟨⟨h1,h2⟩,h3⟩:=h1;have h2:aL (r.2.2.1.take (Nat.min r.2.1 q.2.2*z))=true:=by
    rw [mA] at h2
    grind [vM,id]
   have hi:inl (q.1::r.1) q.1=true:=by simp [inl]
   obtain ⟨hl,us',hf,hu,hul,hft⟩:=kU (P:=P) hr h1 (rd:=q.1::r.1) (λb hb=>by simp [inl,hb]) hrs hH
   have hmm:=Nat.min_le_left r.2.1 q.2.2;obtain ⟨hk,hmp⟩:=dL hk;have hkk:only (aa h) (q.1::r.1) q.1=some k:=by grind [ep]
   have hmz:Nat.min r.2.1 q.2.2*z<=r.2.1*z:=vH _ hmm;obtain ⟨w',cs,cs',elem,fr,g1,g2,g3,g4,g5,g6,g7,g8⟩:=HR.Am (P:=P) hH hkk hmp hro (hu.take (Nat.min r.2.1 q.2.2*z)) h2 (o:=q.2.1) (by grind)
   refine fE.write (nx:= .value (goInt (Nat.min r.2.1 q.2.2))) ?_ (.inl rfl) (.i _ _) hi hH hkk hro g2 g3 g4 g5 g6 g7 g8;simp_all [xi]
theorem Nb {z:Nat} {zs:List AV} {x:cq} {u:Value} {t tt el:TypeId} {c:Bool} (hs:step (.ZZ z zs x) e h n=some (c,E)) (hc:c=true) (ht:P.underlying t=some (.slice el)) (hz:fh P el=some z) (hzs:eW P el=some zs)
 (hx:gD D φ e h x u) (hH:HR D φ (only (aa h) E.rd) w):
 fE P D φ (only (aa h) E.rd) w n E ((do pure (Next.value (<-Builtin.clear_ #[t] tt #[u])):Sem Next).run P w):=by
 simp only [step,av] at hs;obtain ⟨v,hv,hs⟩:=hs;have hr:=hx v hv;have hund:aK D φ (.bz []) undef:=aK.bz [] #[] rfl (λi a u ha=>by simp at ha)
 split at hs
 ·cases hr;refine bU (u:=undef) hs hH ?_ hund;simp_all [Builtin.clear_,run_underlying,undef]
 ·simp only [av] at hs;obtain ⟨q,hq,k,hk,hs⟩:=hs;obtain ⟨cap,rfl,hDq⟩:=jV hq hr;split at hs
  ·cases hs
  ·rename_i hro;simp only [aI,aV] at hs;obtain ⟨h1,rfl⟩:=hs;rw [hc] at h1;simp only [ak,bg] at h1;obtain ⟨⟨h1,h2⟩,h3⟩:=h1;have h2:=ee h2;have hi:inl [q.1] q.1=true:=by simp [inl]
   obtain ⟨hk,hmp⟩:=dL hk;have hkk:only (aa h) [q.1] q.1=some k:=by grind [ep]
   obtain ⟨uz,huz,hzz⟩:=nC hzs w;have hzr:=gN (D:=D) (φ:=φ) hzz;have hsz:uz.cells.size=z:=by have:=hzr.1;grind
   have hrow:=uV hzr q.2.2;have hone: ∀m,aL (dA zs m)=true:=λm=>by
    have happ: ∀a b:List AV,aL a=true->aL b=true->aL (a++b)=true:=λa b ha hb=>by
     induction a with
     |nil=>exact hb
     |cons x a ih=>simp only [ez,aL,ak] at ha ⊢;exact ⟨ha.1,ih ha.2⟩
    induction m with
    |zero=>rfl
    |succ m ih=>exact happ _ _ h1 ih
   have hzl: ∀m,(dA zs m).length=m*z:=λm=>by
    induction m with
    |zero=>simp [dA]
    |succ m ih=>simp [dA,ih,vJ];omega
   obtain ⟨w',cs,cs',elem,fr,g1,g2,g3,g4,g5,g6,g7,g8⟩:=HR.Am (P:=P) hH hkk hmp hro hrow (hone _) (o:=q.2.1) (by grind)
   refine fE.write (nx:= .value undef) ?_ (.inl rfl) hund hi hH hkk hro g2 g3 g4 g5 g6 g7 g8;rw [dK];have e0:(#[Value.slice (some ⟨φ.cI q.1,φ.off q.1+q.2.1,none⟩) q.2.2 cap]:Array Value)[0]? =some (Value.slice (some ⟨φ.cI q.1,φ.off q.1+q.2.1,none⟩) q.2.2 cap):=rfl;have e1:(#[t]:Array TypeId)[0]? =some t:=rfl;unfold Builtin.clear_;rw [e0,e1];simp only [Sem.run_bind,run_underlying ht,Result.andThen_ok];by_cases hq0:q.2.2=0
   ·rw [hq0] at g1 ⊢;simp [storeCells] at g1;subst g1;simp [undef]
   ·obtain ⟨m,hm⟩: ∃m,q.2.2=m+1:=⟨q.2.2-1,by omega⟩
    rw [hm] at g1 ⊢;simp only [Sem.run_bind,huz,Result.andThen_ok,Builtin.zeroCells];rw [g1];rfl
theorem pH {f:Value->ByteArray->Sem (ForInStep ByteArray)} (hf: ∀n s,f (.int .u8 n) s=pure (ForInStep.yield (s.push (UInt8.ofNat n.toNat)))):
 ∀{l:List AV} {us:List Value} {m:List UInt8} (s:ByteArray),bytesOf l=some m->cw D φ l us→
 (forIn us s f:Sem ByteArray).run P w= .ok (ByteArray.mk (s.data++m.toArray)) w
 |[],us,m,s,hm,hl=>by rw [hl.mq];simp_all [bytesOf]
 |v::l,us,m,s,hm,hl=>by
  obtain ⟨u,us',rfl,hv,hl'⟩:=hl.eB;unfold bytesOf at hm;split at hm
  ·contradiction
  ·rename_i k r heq;cases heq;cases hv;simp only [av,aI] at hm;obtain ⟨m',hm',rfl⟩:=hm;simp only [List.forIn_cons,Sem.run_bind,hf,Sem.run_pure,Result.andThen_ok];rw [pH hf _ hm' hl'];simp
  ·cases hm
theorem vP {a:List AV} {b:List UInt8} (hh:bytesOf a=some b):a.length=b.length:=by
 induction a generalizing b with
 |nil=>simp [bytesOf] at hh;subst hh;rfl
 |cons v a ih=>
  unfold bytesOf at hh;split at hh
  ·contradiction
  ·grind [av,aI]
  ·cases hh
theorem NG {x:cq} {u:Value} {s d el:TypeId} {c:Bool} (hs:step (.b2s x) e h n=some (c,E)) (hc:c=true) (h1:P.underlying s=some (.slice el)) (h2:P.underlying d=some .string) (h3:P.underlying el=some (.int .u8))
 (hx:gD D φ e h x u) (hH:HR D φ (only (aa h) E.rd) w):
 fE P D φ (only (aa h) E.rd) w n E ((do pure (Next.value (<-convert s d u)):Sem Next).run P w):=by
 simp only [step,av] at hs;obtain ⟨v,hv,hs⟩:=hs;have hr:=hx v hv;split at hs
 ·cases hr;refine bU hs hH ?_ (.s []);rw [dK];simp only [convert,Sem.run_bind,run_underlying h1,run_underlying h2,run_underlying h3,Result.andThen_ok,Conv.bytesToString,Sem.run_pure];rfl
 ·rename_i l m;simp only [av,aI,aV] at hs;obtain ⟨s',hl,hcc,rfl⟩:=hs;rw [hc] at hcc;have hcc:=bN hcc;have hlen:=vP hl;rw [hcc] at hlen;refine ck rfl hH ?_ (.s s');rw [dK];have fin: ∀(a:Addr) (cap:Nat) (us:List Value),(loadCells a m).run P w= .ok us.toArray w->cw D φ (l.take m) us->Sem.run P (Conv.bytesToString (.slice (some a) m cap)) w= .ok (.string ⟨s'.toArray⟩) w:=λa cap us g1 g2=>by
   simp only [Conv.bytesToString,Sem.run_bind,g1,Result.andThen_ok];rw [<-Array.forIn_toList];simp only [];rw [pH (λ_ _=>rfl) ByteArray.empty hl g2];simp
  cases hr with
  |fz _ _ B o cap vs hB hcap hsz hrel=>
   simp only [convert,Sem.run_bind,run_underlying h1,run_underlying h2,run_underlying h3,Result.andThen_ok];obtain ⟨elem,fr,hw⟩:=hH.fz B vs hB;by_cases h0:m=0
   ·subst h0;rw [fin _ _ [] (by rfl) (by simp;exact .nil)]
    rfl
   ·rw [fY] at hlen;have hle:o+m<=vs.size:=by have:=hsz (m-1) (by omega);omega
    rw [fin _ _ _ (run_loadCells hw hle) ⟨by simp;omega,λi a u ha hu=> ?_⟩]
    ·rfl
    grind
  |nS _ x cap hc0=>
   cases x with
   |none=>
    have:s'=[]:=by grind
    subst this;simp only [convert,Sem.run_bind,run_underlying h1,run_underlying h2,run_underlying h3,Result.andThen_ok];rfl
   |some a=>
    simp only [convert,Sem.run_bind,run_underlying h1,run_underlying h2,run_underlying h3,Result.andThen_ok];rw [fin _ _ [] (by rfl) (by simp;exact .nil)]
    rfl
 ·simp only [av,aI,aV] at hs;obtain ⟨q,hq,k,hk,l,hl,hcc,rfl⟩:=hs;rw [hc] at hcc;have hcc:=bN hcc;obtain ⟨cap,rfl,hDq⟩:=jV hq hr;obtain ⟨hk,hmp⟩:=dL hk;have hkk:only (aa h) [q.1] q.1=some k:=by simp_all [ep,inl]
  obtain ⟨us,g1,g2⟩:=HR.row (P:=P) hH hkk hmp (o:=q.2.1) (z:=q.2.2) (by grind [vP])
  refine ck rfl hH ?_ (.s l);rw [dK];simp only [convert,Sem.run_bind,run_underlying h1,run_underlying h2,run_underlying h3,Result.andThen_ok,Conv.bytesToString,g1];rw [<-Array.forIn_toList];simp only [];rw [pH (λ_ _=>rfl) ByteArray.empty hl g2];simp
end
end Go.Ab
namespace Go.Ab
section
variable {P:Program} {D:Nat->Prop} {φ:bP} {w:World} {n:Nat} {e:Env} {h:Hp} {E:bV} {ρ:Operand->Value}
theorem oV {z:Nat}: ∀{ps:List (Nat×Operand)} {xs:List (Nat×Nat×cq)} {vs:List (Nat×Nat×AV)},mg z ps=some xs->th e h xs=some vs→
 (∀q∈ps,∀x,cO q.2=some x->gD D φ e h x (ρ q.2))->vs.length=(ps.map (λq=>(q.1,ρ q.2))).length∧
  ∀(j:Nat) a q,vs[j]? =some a->(ps.map (λq=>(q.1,ρ q.2)))[j]? =some q->(some (q.1*z,z):Option (Nat×Nat))=some (a.1,a.2.1)/\aK D φ a.2.2 q.2
 |[],xs,vs,h1,h2,_=>by
  grind [mg,th]
 |(i,y)::ps,xs,vs,h1,h2,hk=>by
  simp only [mg,av] at h1;obtain ⟨x,hx,xs',hxs,h1⟩:=h1;cases h1;simp only [th,av] at h2;obtain ⟨v,hv,vs',hvs,h2⟩:=h2;cases h2;obtain ⟨i1,i2⟩:=oV hxs hvs (λq hq=>hk q (hJ _ hq));refine ⟨by simp [i1],λj a q ha hq=> ?_⟩
  cases j with
  |zero=>simp at ha hq;subst ha;subst hq;exact ⟨rfl,hk (i,y) (iQ) x hx v hv⟩
  |succ j=>exact i2 j a q (by grind) (by grind)
theorem oz: ∀(fs:List Field),(∀f∈fs,(P.info? f.type).isSome=true)→
 (fs.mapM (λf=>do pure (f.offset,<-sizeOf f.type):Field->Sem (Nat×Nat))).run P w= .ok (fs.map λf=>(f.offset,(fh P f.type).getD 0)) w
 |[],_=>by simp
 |f::fs,hf=>by
  obtain ⟨i,hi⟩:=tx.1 (hf f (iQ));have hz:fh P f.type=some i.size:=by simp [fh,hi]
  have ih:=oz fs (λg hg=>hf g (hJ _ hg));simp_all [List.mapM_cons,Sem.run_bind,run_sizeOf,Result.andThen_ok,fJ,fM]
theorem vF {t:TypeId} {fs:Array Field} (ht:P.underlying t=some (.struct fs)): ∀{ps:List (Nat×Operand)} {xs:List (Nat×Nat×cq)} {vs:List (Nat×Nat×AV)},qP P t ps=some xs->th e h xs=some vs→
 (∀q∈ps,∀x,cO q.2=some x->gD D φ e h x (ρ q.2))->vs.length=(ps.map (λq=>(q.1,ρ q.2))).length∧
  ∀(j:Nat) a q,vs[j]? =some a->(ps.map (λq=>(q.1,ρ q.2)))[j]? =some q->(fs.map λf=>(f.offset,(fh P f.type).getD 0))[q.1]? =some (a.1,a.2.1)/\aK D φ a.2.2 q.2
 |[],xs,vs,h1,h2,_=>by
  grind [qP,th]
 |(i,y)::ps,xs,vs,h1,h2,hk=>by
  simp only [qP,av] at h1;obtain ⟨qq,hqq,x,hx,xs',hxs,h1⟩:=h1;cases h1;simp only [th,av] at h2;obtain ⟨v,hv,vs',hvs,h2⟩:=h2;cases h2;obtain ⟨i1,i2⟩:=vF ht hxs hvs (λq hq=>hk q (hJ _ hq));refine ⟨by simp [i1],λj a q ha hq=> ?_⟩
  cases j with
  |zero=>
   simp at ha hq;subst ha;subst hq;obtain ⟨fs',fl,g1,g2,g3,g4,g5⟩:=qe hqq;rw [ht] at g1;cases g1;refine ⟨?_,hk (i,y) (iQ) x hx v hv⟩;rw [Array.getElem?_map,g2];simp [g3,g4]
  |succ j=>exact i2 j a q (by grind) (by grind)
theorem Ec {z:List AV} {ps:List (Nat×Nat×cq)} {parts:Array (Nat×Operand)} {t:TypeId} {fs:Array Field} {c:Bool} (hs:step (.build z ps) e h n=some (c,E)) (ht:P.underlying t=some (.struct fs)) (hz:eW P t=some z)
 (hall:fs.all (λf=>(P.info? f.type).isSome)=true) (hc:qP P t parts.toList=some ps) (hk: ∀q∈parts.toList,∀x,cO q.2=some x->gD D φ e h x (ρ q.2)) (hH:HR D φ (only (aa h) E.rd) w):
 fE P D φ (only (aa h) E.rd) w n E ((do pure (Next.value (<-Instr.build t (parts.map λ(i,x)=>(i,ρ x)))):Sem Next).run P w):=by
 simp only [step,av] at hs;obtain ⟨l,hl,cs,hcs,hs⟩:=hs;obtain ⟨uz,huz,hzz⟩:=nC hz w;obtain ⟨e1,e2⟩:=vF (ρ:=ρ) ht hc hl hk;obtain ⟨cs',hf,hr⟩:=tU (place:=λi=>(fs.map λf=>(f.offset,(fh P f.type).getD 0))[i]?) (cs:=uz.cells) (gN (D:=D) (φ:=φ) hzz) e1 e2 hcs;have hv:=aK.wb hr;refine bU (u:= .agg cs') hs hH ?_ (by omega)
 rw [dK];have hm:(fs.mapM (λf=>do pure (f.offset,<-sizeOf f.type):Field->Sem (Nat×Nat))).run P w= .ok (fs.map λf=>(f.offset,(fh P f.type).getD 0)) w:=by
  rw [Array.mapM_eq_mapM_toList];simp only [Sem.run_map];rw [oz fs.toList (λf hf=>by grind [Array.all_eq_true_iff_forall_mem])]
  simp only [Result.andThen_ok];congr 1
  grind
 simp_all [Instr.build,Sem.run_bind,Result.andThen_ok,run_underlying]
theorem Ez {z:List AV} {s:Nat} {ps:List (Nat×Nat×cq)} {parts:Array (Nat×Operand)} {t el:TypeId} {m:Nat} {c:Bool} (hs:step (.build z ps) e h n=some (c,E)) (ht:P.underlying t=some (.array m el)) (hz:eW P t=some z)
 (hsz:fh P el=some s) (hc:mg s parts.toList=some ps) (hk: ∀q∈parts.toList,∀x,cO q.2=some x->gD D φ e h x (ρ q.2)) (hH:HR D φ (only (aa h) E.rd) w):
 fE P D φ (only (aa h) E.rd) w n E ((do pure (Next.value (<-Instr.build t (parts.map λ(i,x)=>(i,ρ x)))):Sem Next).run P w):=by
 simp only [step,av] at hs;obtain ⟨l,hl,cs,hcs,hs⟩:=hs;obtain ⟨uz,huz,hzz⟩:=nC hz w;obtain ⟨e1,e2⟩:=oV (ρ:=ρ) hc hl hk;obtain ⟨cs',hf,hr⟩:=tU (place:=λi=>some (i*s,s)) (cs:=uz.cells) (gN (D:=D) (φ:=φ) hzz) e1 e2 hcs;have hv:=aK.wb hr;refine bU (u:= .agg cs') hs hH ?_ (by omega)
 simp_all [Instr.build,Sem.run_bind,Result.andThen_ok,run_underlying,run_sizeOf]
theorem Dk {z:List AV} {el:TypeId} {s:Nat} (hz:eW P el=some z) (hs:z.length=s) (m:Nat):
 ∃zero uz:Array Value,(m*s=0->zero= #[])/\(m*s≠0-> ∃u:Value,(zeroValue el).run P w= .ok u w/\u.cells=zero)/\cw D φ (dA z m) ((Array.range (m*s)).map (λi=>zero[i % zero.size]!)).toList:=by
 obtain ⟨uz,huz,hzz⟩:=nC hz w;have hzr:=gN (D:=D) (φ:=φ) hzz;have hus:uz.cells.size=s:=by have:=hzr.1;grind
 by_cases h0:m*s=0
 ·refine ⟨#[],#[],λ_=>rfl,λh=>absurd h0 h,?_⟩;have hzl: ∀m,(dA z m).length=m*z.length:=λm=>by
   induction m with
   |zero=>simp [dA]
   |succ m ih=>simp [dA,ih,vJ];omega
  grind [dA,fq,cw.nil]
 ·refine ⟨uz.cells,#[],λh=>absurd h h0,λ_=>⟨uz,huz,rfl⟩,?_⟩
  grind [uV]
theorem PA {z:List AV} {s len:Nat} {ps:List (Nat×Nat×cq)} {parts:Array (Nat×Operand)} {t el:TypeId} {c:Bool} (hs:step (.ZX (dA z len) len ps) e h n=some (c,E)) (ht:P.underlying t=some (.slice el)) (hz:eW P el=some z)
 (hsz:fh P el=some s) (hzl:z.length=s) (hlim:len*s<=2^24) (hc:mg s parts.toList=some ps) (hk: ∀q∈parts.toList,∀x,cO q.2=some x->gD D φ e h x (ρ q.2)) (hn:n<E.n-> ¬D n) (hH:HR D φ (only (aa h) E.rd) w):
 fE P D φ (only (aa h) E.rd) w n E ((do pure (Next.value (<-Instr.buildSlice t len (parts.map λ(i,x)=>(i,ρ x)))):Sem Next).run P w):=by
 simp only [step,av,aI,aV] at hs;obtain ⟨l,hl,cs,hcs,_,rfl⟩:=hs;obtain ⟨zero,_,hz1,hz1',hz2⟩:=Dk (P:=P) (D:=D) (φ:=φ) (w:=w) hz hzl len;obtain ⟨e1,e2⟩:=oV (ρ:=ρ) hc hl hk;obtain ⟨cs',hf,hr⟩:=tU (place:=λi=>some (i*s,s)) (cs:=(Array.range (len*s)).map (λi=>zero[i % zero.size]!)) hz2 e1 e2 hcs;refine fE.alloc (g:=none) (cap:=0) (fO:=0) (cs:=cs') (elem:=el) (fr:=(0,0)) (w':={w with heap:=w.heap.push (.cells cs' el)}) (u:= .slice (some ⟨w.heap.size,0,none⟩) len len) ?_ hH (hn (gw _)) rfl rfl rfl rfl hr.push (λi _=>by simp) (λe he=>by cases he) IV
 rw [dK];simp only [Instr.buildSlice,Sem.run_bind,run_underlying ht,Result.andThen_ok,run_sizeOf hsz];have hq:(parts.map (λx=>match x with|(i,x)=>(i,ρ x))).toList=(parts.toList.map (λq=>(q.1,ρ q.2))):=by simp
 have hlim': ¬(len*s>2^24):=by omega
 simp only [hlim',dP,hq];by_cases h0:len*s=0
 ·simp_all [Result.andThen_ok,iN]
 ·obtain ⟨u,hu,hu'⟩:=hz1' h0;simp_all [Sem.run_bind,Result.andThen_ok,iN]
theorem zQ {i:Int} (h1:0<=i) (h2:i<=9223372036854775807):IntKind.i64.wrap i=i:=by
 grind [IntWalk.i64_in]
theorem Rq {z bytes:Nat} {zs:List AV} {l cc:cq} {ul uc:Value} {t el:TypeId} {i:TypeInfo} {c:Bool} (hs:step (.mks i.size i.bytes zs l cc) e h n=some (c,E)) (hc:c=true) (ht:P.underlying t=some (.slice el)) (hi:P.info? el=some i) (hz:eW P el=some zs)
 (hzl:zs.length=i.size) (hl:gD D φ e h l ul) (hcc:gD D φ e h cc uc) (hn:n<E.n-> ¬D n) (hH:HR D φ (only (aa h) E.rd) w):
 fE P D φ (only (aa h) E.rd) w n E ((do pure (Next.value (<-Instr.makeSlice t ul uc)):Sem Next).run P w):=by
 simp only [step,av,aI,aV] at hs;obtain ⟨vl,hvl,a,ha,vc,hvc,b,hb,h1,rfl⟩:=hs;have:=Fz ha (hl vl hvl);subst this;have:=Fz hb (hcc vc hvc);subst this;rw [hc] at h1;obtain ⟨h2,h3,h4,h5⟩:=bN h1;obtain ⟨zero,_,hz1,hz1',hz2⟩:=Dk (P:=P) (D:=D) (φ:=φ) (w:=w) hz hzl b.toNat;refine fE.alloc (g:=none) (cap:=0) (fO:=0) (cs:=(Array.range (b.toNat*i.size)).map (λi=>zero[i % zero.size]!)) (elem:=el) (fr:=(0,0)) (w':={w with heap:=w.heap.push (.cells ((Array.range (b.toNat*i.size)).map (λi=>zero[i % zero.size]!)) el)}) (u:= .slice (some ⟨w.heap.size,0,none⟩) a.toNat b.toNat) ?_ hH (hn (gw _)) rfl rfl rfl rfl hz2.push (λi _=>by simp) (λe he=>by cases he) IV
 have hsz:fh P el=some i.size:=by simp [fh,hi]
 rw [dK];simp only [Instr.makeSlice,Sem.run_bind,run_underlying ht,Result.andThen_ok,asInt,asIntOf,Sem.run_pure,run_typeInfo hi,zQ h2 (by omega),zQ (show 0<=b by omega) h5]
 rw [aY (by simp;omega)]
 simp only [Sem.run_bind,run_askRoom,Result.andThen_ok,run_sizeOf hsz];by_cases h0:b.toNat*i.size=0
 ·simp_all [Result.andThen_ok,iN]
 ·obtain ⟨u,hu,hu'⟩:=hz1' h0;simp_all [Sem.run_bind,Result.andThen_ok,iN]
theorem z6 (newLen:Nat): ∀(r c:Nat),256<=c->c<2*newLen->Builtin.growBy newLen r c<=2*newLen
 |0,c,_,h=>by simp [Builtin.growBy];omega
 |r+1,c,h0,h=>by
  simp only [Builtin.growBy];split
  ·omega
  ·exact z6 newLen r _ (by omega) (by omega)
theorem nextslicecap_le {newLen cap:Nat} (h:cap<newLen):Builtin.nextslicecap newLen cap<=2*newLen:=by
 grind [Builtin.nextslicecap,z6]
theorem fV {a:Addr}: ∀{n i:Nat} {acc us:Array Value} {w:World},(loadCellsFrom a i n acc).run P w= .ok us w-> ∀d,(loadCellsFrom a i n acc).run P {w with drawn:=d}= .ok us {w with drawn:=d}
 |0,i,acc,us,w,h,d=>by grind [loadCellsFrom,Sem.run_pure]
 |n+1,i,acc,us,w,h,d=>by
  simp only [loadCellsFrom,Sem.run_bind,run_load] at h ⊢;have hc:({w with drawn:=d}:World).cell? (a.add i)=w.cell? (a.add i):=rfl
  rw [hc];cases hcell:w.cell? (a.add i) with
  |some v=>
   rw [hcell] at h;simp only [Result.andThen_ok] at h ⊢;exact fV h d
  |none=>
   rw [hcell] at h;have hf:World.farLoad P ({w with drawn:=d}:World) (a.add i) (Mode.plain==Mode.atomic)=World.farLoad P w (a.add i) (Mode.plain==Mode.atomic):=rfl
   simp only [hf] at h ⊢;cases hfl:World.farLoad P w (a.add i) (Mode.plain==Mode.atomic) with
   |ok x=>
    rw [hfl] at h;simp only [Result.andThen_ok] at h ⊢;exact fV h d
   |error e=>
    rw [hfl] at h;simp [Result.andThen] at h
theorem ir {a:Addr} {n:Nat} {us:Array Value} (h:(loadCells a n).run P w= .ok us w) (d:Nat):(loadCells a n).run P {w with drawn:=d}= .ok us {w with drawn:=d}:=
 fV h d
theorem run_append_grow {t tt el xt:TypeId} {d:TypeDesc} {i:TypeInfo} {zs:List AV} {base:Option Addr} {len cap m:Nat} {ux:Value} {old new:Array Value} (ht:P.underlying t=some (.slice el)) (hxt:P.underlying xt=some d) (hd: ∀k,d≠ .int k)
 (hi:P.info? el=some i) (hzs:eW P el=some zs) (hzl:zs.length=i.size) (hl:(Builtin.lenOf ux).run P w= .ok m w) (hcap:cap<len+m) (hbytes:i.bytes*(len+m)<=140737488355328) (hb0:i.bytes≠0)
 (hold:(Builtin.firstCells i.size len (.slice base len cap)).run P w= .ok old w) (hnew:(Builtin.firstCells i.size m ux).run P w= .ok new w)
 (hos:old.size=len*i.size) (hns:new.size=m*i.size):
 ∃(cap':Nat) (cs:Array Value),len+m<=cap'/\cs.size=cap'*i.size/\(∀j,j<(old++new).size->cs[j]? =(old++new)[j]?)∧
  (Builtin.append_ #[t,xt] tt #[.slice base len cap,ux]).run P w= .ok (.slice (some ⟨w.heap.size,0,none⟩) (len+m) cap') {w with drawn:=w.drawn+1,heap:=w.heap.push (.cells cs el)}:=by
 obtain ⟨uz,huz,hzz⟩:=nC hzs w;have hzr:=gN (D:=λ_=>True) (φ:=⟨id,id,id,id,λ_=>none,λ_=>none⟩) hzz;have hus:uz.cells.size=i.size:=by have:=hzr.1;grind
 have hsz:fh P el=some i.size:=by simp [fh,hi]
 let q:Question:= .appendCap (len+m) cap el;let cap':=q.cut (w.tape w.drawn q);have hcap':len+m<=cap':=by show len+m<=len+m+_;omega
 refine ⟨cap',old++new++Builtin.zeroCells uz.cells (cap'-(len+m)),hcap',?_,λj hj=> ?_,?_⟩
 ·simp only [Array.size_append,hos,hns,Builtin.zeroCells,Array.size_map,Array.size_range,hus];rw [<-gi,<-gi]
  grind
 ·grind
 ·have e0:(#[t,xt]:Array TypeId)[0]? =some t:=rfl;have e1:(#[t,xt]:Array TypeId)[1]? =some xt:=rfl;have e2:(#[Value.slice base len cap,ux]:Array Value)[0]? =some (.slice base len cap):=rfl;have e3:(#[Value.slice base len cap,ux]:Array Value)[1]? =some ux:=rfl;have hz0:(match d with| .int k=>true|_=>false)=false:=by
   simp
  have hnx:=nextslicecap_le hcap;have hb2: ¬(Builtin.nextslicecap (len+m) cap*i.bytes>2^48):=by
   have:Builtin.nextslicecap (len+m) cap*i.bytes<=2*(len+m)*i.bytes:=vH _ hnx
   grind
  unfold Builtin.append_;rw [e0,e2,e3];simp only [Sem.run_bind,run_underlying ht,Result.andThen_ok,run_sizeOf hsz,e1,run_underlying hxt,Sem.run_pure,ei,dP,hl];have hcap2: ¬(len+m<=cap):=by omega
  simp only [hcap2,dP,Sem.run_bind,run_typeInfo hi,Result.andThen_ok,hb0,or_false,and_false,hb2,run_choose];rw [aY (by simp [Question.forced])]
  have hold': ∀d,(Builtin.firstCells i.size len (.slice base len cap)).run P {w with drawn:=d}= .ok old {w with drawn:=d}:=λd=>by
   cases base with
   |none=>simp only [Builtin.firstCells,Sem.run_pure] at hold ⊢;cases hold;rfl
   |some a=>exact ir hold d
  have hnew': ∀d,(Builtin.firstCells i.size m ux).run P {w with drawn:=d}= .ok new {w with drawn:=d}:=λd=>by
   cases ux<;>simp only [Builtin.firstCells,run_stuck] at hnew ⊢ <;>first|(cases hnew;done)|skip
   ·simp_all
   ·rename_i a l c;cases a with
    |none=>simp only [Sem.run_pure] at hnew ⊢;cases hnew;rfl
    |some a=>exact ir hnew d
  have huz': ∀d,(zeroValue el).run P {w with drawn:=d}= .ok uz {w with drawn:=d}:=λd=>by
   simp only [eW,av] at hzs;obtain ⟨i',hi',u',hu',_⟩:=hzs;simp_all [zeroValue,Sem.run_bind,run_typeInfo,Result.andThen_ok,Sem.run_pure]
  simp only [Result.andThen_ok,run_askRoom,hold',kl,cM,hnew',huz',iN,Sem.run_pure];rfl
end
end Go.Ab
namespace Go.Ab
section
variable {P:Program} {D:Nat->Prop} {φ:bP} {w:World} {n:Nat} {e:Env} {h:Hp} {E:bV} {ρ:Operand->Value}
theorem mI {t tt el xt:TypeId} {d:TypeDesc} {z:Nat} {base:Option Addr} {len cap m:Nat} {ux:Value} {new:Array Value} (ht:P.underlying t=some (.slice el)) (hxt:P.underlying xt=some d) (hd: ∀k,d≠ .int k)
 (hsz:fh P el=some z) (hl:(Builtin.lenOf ux).run P w= .ok m w) (hcap:len+m<=cap) (hnew:(Builtin.firstCells z m ux).run P w= .ok new w):
 (Builtin.append_ #[t,xt] tt #[.slice base len cap,ux]).run P w=((match base with|some a=>storeCells (a.add (len*z)) new.toList|none=>pure ():Sem Unit).run P w).andThen λ_ w'=> .ok (.slice base (len+m) cap) w':=by
 have e0:(#[t,xt]:Array TypeId)[0]? =some t:=rfl;have e1:(#[t,xt]:Array TypeId)[1]? =some xt:=rfl;have e2:(#[Value.slice base len cap,ux]:Array Value)[0]? =some (.slice base len cap):=rfl;have e3:(#[Value.slice base len cap,ux]:Array Value)[1]? =some ux:=rfl;have hz0:(match d with| .int k=>true|_=>false)=false:=by
  simp
 unfold Builtin.append_;rw [e0,e2,e3];simp only [Sem.run_bind,run_underlying ht,Result.andThen_ok,run_sizeOf hsz,e1,run_underlying hxt,Sem.run_pure,ei,dP,hl,hcap,cM,kl,hnew]
 grind [Sem.run_bind,Sem.run_pure,Result.andThen_ok]
theorem ly:az=140737488355328:=rfl
set_option maxHeartbeats 1000000 in
theorem PM {zs:List AV} {s x:cq} {us ux:Value} {t xt tt el:TypeId} {d:TypeDesc} {i:TypeInfo} {c:Bool} (hs:step (.app i.size i.bytes zs s x) e h n=some (c,E)) (hc:c=true) (ht:P.underlying t=some (.slice el)) (hxt:P.underlying xt=some d) (hd: ∀k,d≠ .int k)
 (hi:P.info? el=some i) (hzs:eW P el=some zs) (hzl:zs.length=i.size) (hb0:i.bytes≠0) (hss:gD D φ e h s us) (hxx:gD D φ e h x ux) (hn:n<E.n-> ¬D n) (hH:HR D φ (only (aa h) E.rd) w):
 fE P D φ (only (aa h) E.rd) w n E ((do pure (Next.value (<-Builtin.append_ #[t,xt] tt #[us,ux])):Sem Next).run P w):=by
 simp only [step,av] at hs;obtain ⟨vs,hvs,vx,hvx,r,hr,hs⟩:=hs;have hrs:=hss vs hvs;have hrx:=hxx vx hvx;have hsz:fh P el=some i.size:=by simp [fh,hi]
 split at hs
 · -- nothing is appended
   rename_i hm;have key: ∀rd,(∀b,inl r.1 b=true->inl rd b=true)->HR D φ (only (aa h) rd) w->r.2.2.2=true-> ∀base len cap,len<=cap->(Builtin.append_ #[t,xt] tt #[.slice base len cap,ux]).run P w= .ok (.slice base len cap) w:=by
    intro rd hrd hH' hok base len cap hle;obtain ⟨hl,us',hf,hu,hul,hft⟩:=kU (P:=P) hr hok (rd:=rd) hrd hrx hH';rw [mI (z:=i.size) ht hxt hd hsz hl (by omega) hf]
    have hnil:us'=[]:=fq (by rw [<-hu.1,hul,hm];simp)
    subst hnil;cases base<;>simp [storeCells,hm]
   split at hs
   ·cases hrs;simp only [aI,aV] at hs;obtain ⟨h1,rfl⟩:=hs;refine ck rfl hH ?_ .ns;rw [dK,key r.1 (λb hb=>hb) hH (h1.trans hc) none 0 0 (bx _)];rfl
   ·cases hrs with
    |sl b o len cap hD=>
    simp only [aI,aV] at hs;obtain ⟨h1,rfl⟩:=hs;rw [hc,ak] at h1;refine ck rfl hH ?_ (.sl _ _ _ _ hD);rw [dK,key r.1 (λb hb=>hb) hH h1.1 _ _ _ (bN h1.2)];rfl
   ·cases hrs with
    |sg b o len j cap hD hj hcap hlen=>
    simp only [aI,aV] at hs;obtain ⟨h1,rfl⟩:=hs;refine ck rfl hH ?_ (.sg _ _ _ j cap hD hj hcap hlen);rw [dK,key r.1 (λb hb=>hb) hH (h1.trans hc) _ _ _ hlen];rfl
   ·cases hrs with
    |ze x=>
    simp only [aI,aV] at hs;obtain ⟨h1,rfl⟩:=hs;refine ck rfl hH ?_ (.ze x);rw [dK,key r.1 (λb hb=>hb) hH (h1.trans hc) _ _ _ (bx _)];rfl
   ·simp only [aI,aV] at hs;obtain ⟨h1,rfl⟩:=hs;refine ck (u:=us) rfl hH ?_ hrs;cases hrs with
    |nS _ x cap hc0=>rw [dK,key r.1 (λb hb=>hb) hH (h1.trans hc) _ _ _ (cr _)];rfl
    |fz _ _ B o cap vs hB hcap hsz hv=>rw [dK,key r.1 (λb hb=>hb) hH (h1.trans hc) _ _ _ hcap];rfl
   ·cases hs
 ·rename_i hm;split at hs
  · -- onto nil
    cases hrs;simp only [aI,aV] at hs;obtain ⟨h1,rfl⟩:=hs;rw [hc,ak,bg] at h1;obtain ⟨hok,hby⟩:=h1;rw [ly] at hby;obtain ⟨hl,us',hf,hu,hul,hft⟩:=kU (P:=P) hr hok (rd:=r.1) (λb hb=>hb) hrx hH;obtain ⟨cap',cs,h2,h3,h4,h5⟩:=run_append_grow (P:=P) (tt:=tt) (base:=none) (len:=0) (cap:=0) (old:= #[]) ht hxt hd hi hzs hzl hl (by omega) (by simpa using hby) hb0 (by simp [Builtin.firstCells]) hf (by simp) (by simp [<-hu.1,hul])
    refine fE.alloc (g:=some i.size) (cap:=cap') (fO:=i.size) (cs:=cs) (elem:=el) (fr:=(0,0)) (w':={w with drawn:=w.drawn+1,heap:=w.heap.push (.cells cs el)}) (u:= .slice (some ⟨w.heap.size,0,none⟩) r.2.1 cap') ?_ hH (hn (gw _)) rfl rfl rfl rfl (λj v hv=> ?_) (λi _=>by simp) (λe he=>by cases he;exact ⟨rfl,h3⟩) (uF (by omega))
    ·rw [dK,h5];simp
    ·obtain ⟨u,hu1,hu2⟩:=hu.get hv;have hj:j<us'.length:=by
      rcases eV j us'.length with h'|h'
      ·exact h'
      ·rw [lu h'] at hu1;cases hu1
     exact ⟨u,by rw [h4 j (by simp;exact hj)];simpa using hu1,hu2⟩
  · -- onto an empty slice without room
    cases hrs with
    |ze x=>
    simp only [aI,aV] at hs;obtain ⟨h1,rfl⟩:=hs;rw [hc,ak,bg] at h1;obtain ⟨hok,hby⟩:=h1;rw [ly] at hby;obtain ⟨hl,us',hf,hu,hul,hft⟩:=kU (P:=P) hr hok (rd:=r.1) (λb hb=>hb) hrx hH;obtain ⟨cap',cs,h2,h3,h4,h5⟩:=run_append_grow (P:=P) (tt:=tt) (base:=x) (len:=0) (cap:=0) (old:= #[]) ht hxt hd hi hzs hzl hl (by omega) (by simpa using hby) hb0 (by cases x<;>simp [Builtin.firstCells,loadCells,loadCellsFrom]) hf (by simp) (by simp [<-hu.1,hul])
    refine fE.alloc (g:=some i.size) (cap:=cap') (fO:=i.size) (cs:=cs) (elem:=el) (fr:=(0,0)) (w':={w with drawn:=w.drawn+1,heap:=w.heap.push (.cells cs el)}) (u:= .slice (some ⟨w.heap.size,0,none⟩) r.2.1 cap') ?_ hH (hn (gw _)) rfl rfl rfl rfl (λj v hv=> ?_) (λi _=>by simp) (λe he=>by cases he;exact ⟨rfl,h3⟩) (uF (by omega))
    ·rw [dK,h5];simp
    ·obtain ⟨u,hu1,hu2⟩:=hu.get hv;have hj:j<us'.length:=by
      rcases eV j us'.length with h'|h'
      ·exact h'
      ·rw [lu h'] at hu1;cases hu1
     exact ⟨u,by rw [h4 j (by simp;exact hj)];simpa using hu1,hu2⟩
  · -- onto a slice whose capacity is known
    rename_i b o len cap;cases hrs with
    |sl _ _ _ _ hD=>
    simp only [av] at hs;obtain ⟨k,hk,hs⟩:=hs;have hib:inl (b::r.1) b=true:=by simp [inl]
    split at hs
    ·rename_i hle;split at hs
     ·cases hs
     ·rename_i hro;simp only [aI,aV] at hs;obtain ⟨h1,rfl⟩:=hs;rw [hc] at h1;simp only [ak,bg] at h1;obtain ⟨⟨hok,hfit⟩,hone⟩:=h1;obtain ⟨hk,hmp⟩:=dL hk;have hkk:only (aa h) (b::r.1) b=some k:=by rw [ep hib];exact hk
      obtain ⟨hl,us',hf,hu,hul,hft⟩:=kU (P:=P) hr hok (rd:=b::r.1) (λb hb=>by simp [inl,hb]) hrx hH
      obtain ⟨w',cs,cs',elem,fr,g1,g2,g3,g4,g5,g6,g7,g8⟩:=HR.Am (P:=P) hH hkk hmp hro hu hone (o:=o+len*i.size) hfit;refine fE.write (nx:= .value (.slice (some ⟨φ.cI b,φ.off b+o,none⟩) (len+r.2.1) cap)) ?_ (.inl rfl) (.sl _ _ _ _ hD) hib hH hkk hro g2 g3 g4 g5 g6 g7 g8;rw [dK,mI (z:=i.size) ht hxt hd hsz hl hle hf];simp only [Addr.add_eq,List.toList_toArray,mj] at g1 ⊢;rw [g1];rfl
    ·rename_i hle;simp only [aI,aV] at hs;obtain ⟨h1,rfl⟩:=hs;rw [hc] at h1;simp only [ak,bg] at h1;obtain ⟨⟨⟨hok,hby⟩,hold⟩,hlc⟩:=h1;rw [ly] at hby;obtain ⟨hk,hmp⟩:=dL hk;have hkk:only (aa h) (b::r.1) b=some k:=by rw [ep hib];exact hk
     obtain ⟨hl,us',hf,hu,hul,hft⟩:=kU (P:=P) hr hok (rd:=b::r.1) (λb hb=>by simp [inl,hb]) hrx hH
     obtain ⟨os,ho1,ho2⟩:=HR.row (P:=P) hH hkk hmp hold;obtain ⟨cap',cs,h2,h3,h4,h5⟩:=run_append_grow (P:=P) (tt:=tt) (base:=some ⟨φ.cI b,φ.off b+o,none⟩) (len:=len) (cap:=cap) (old:=os.toArray) ht hxt hd hi hzs hzl hl (by omega) hby hb0 (by simpa [Builtin.firstCells] using ho1) hf (by simp [<-ho2.1,hold]) (by simp [<-hu.1,hul])
     refine fE.alloc (g:=some i.size) (cap:=cap') (fO:=i.size) (cs:=cs) (elem:=el) (fr:=(0,0)) (w':={w with drawn:=w.drawn+1,heap:=w.heap.push (.cells cs el)}) (u:= .slice (some ⟨w.heap.size,0,none⟩) (len+r.2.1) cap') ?_ hH (hn (gw _)) rfl rfl rfl rfl (λj v hv=> ?_) (λi _=>by simp) (λe he=>by cases he;exact ⟨rfl,h3⟩) (uF h2)
     ·rw [dK,h5];rfl
     ·obtain ⟨u,hu1,hu2⟩:=(ho2.append hu).get hv;have hj:j<(os++us').length:=by
       rcases eV j (os++us').length with h'|h'
       ·exact h'
       ·rw [lu h'] at hu1;cases hu1
      exact ⟨u,by rw [h4 j (by simpa using hj)];simpa using hu1,hu2⟩
  · -- onto a slice that was grown
    rename_i b o len;cases hrs with
    |sg _ _ _ j cap hD hj hcap hlen=>
    simp only [av] at hs;obtain ⟨k,hk,hs⟩:=hs;have hib:inl (b::r.1) b=true:=by simp [inl]
    split at hs
    ·rename_i z' hgr;obtain ⟨h1,hEe⟩:(r.2.2.2&&decide (i.bytes*(len+r.2.1)<=az)&&Nat.beq i.size z'&&decide (o+len*i.size<=k.cells.length)&&aL r.2.2.1)=c/\({v:= .sg n 0 (len+r.2.1),n:=n+1,rd:=b::r.1,md:=[(b,none)],nw:=[(n,{cells:=aD k.cells o (len*i.size)++r.2.2.1,gr:=some i.size})]}:bV)=E:=by
      cases hq:decide (k.cells.length=o+len*i.size)
      ·rw [hq] at hs;simp only [cond_false,aI,aV] at hs;exact hs
      ·rw [hq] at hs;have hq:=bN hq;have e1:aD k.cells o (len*i.size)=k.cells.drop o:=dN (by rw [yt];omega)
       rw [e1,af (show o+len*i.size<=k.cells.length by omega)]
       simp only [cond_true,aI,aV] at hs;exact hs
     subst hEe;rw [hc] at h1;simp only [ak,bg] at h1;obtain ⟨⟨⟨⟨hok,hby⟩,hzz⟩,hlen2⟩,hone⟩:=h1;have hzz:=ee hzz;rw [ly] at hby;obtain ⟨hk,hmp⟩:=dL hk;have hkk:only (aa h) (b::r.1) b=some k:=by rw [ep hib];exact hk
     obtain ⟨hl,us',hf,hu,hul,hft⟩:=kU (P:=P) hr hok (rd:=b::r.1) (λb hb=>by simp [inl,hb]) hrx hH
     obtain ⟨hDb,⟨⟨cs0,elem0,⟨lo,hi'⟩,q1,q2,q3,q4⟩,_⟩⟩:=hH.at_ b k hkk;have q1:=q1.cells hmp;obtain ⟨hro,hesz,hcsz⟩:=q4 z' hgr;have hfr:=(q3 hro).2;have hjz:j*i.size=o:=by rw [<-hj,hesz,hzz]
     have hcapk:cs0.size=φ.off b+(o+cap*i.size):=by rw [hcsz,<-hzz,<-hcap,gi,hjz]
     -- the slice's own cells,as a list of values
     have hold:(aD k.cells o (len*i.size)).length=len*i.size:=by simp only [aD,fY,yt];omega
     have hxat: ∀jj,jj<len*i.size->(aD k.cells o (len*i.size))[jj]? =k.cells[o+jj]? :=λjj hjj=>by simp only [aD,kJ,aT hjj,oA]
     by_cases hle:len+r.2.1<=cap
     · -- there is room
       have hlm:(len+r.2.1)*i.size<=cap*i.size:=vH _ hle;rw [gi] at hlm;have hul':us'.length=r.2.1*i.size:=by rw [<-hu.1,hul]
       obtain ⟨w',g1,g4,g5,g6,g3⟩:= @qa P (φ.cI b) (φ.off b+o+len*i.size) elem0 lo hi' us' 0 w cs0 q1 (λj hj=>hfr j (.inl hj)) (by omega) (qh hone hu)
       refine fE.U0 (p:=φ.off b+o) (cp:=cap) (e:=i.size) (xs:=aD k.cells o (len*i.size)++r.2.2.1) (cs':=_) (u:= .slice (some ⟨φ.cI b,φ.off b+o,none⟩) (len+r.2.1) cap) ?_ hib (hn (gw _)) hH hkk (by rw [hgr,hzz]) q1 g3 g4 g5 g6 (by simp;omega) (by omega) (λjj v hv=> ?_) ?_
       ·rw [dK,mI (z:=i.size) ht hxt hd hsz hl hle hf];simp only [Addr.add_eq,List.toList_toArray,fy,kA] at g1 ⊢;rw [g1];rfl
       ·simp only [mM,hold] at hv;simp only [kA,fy,List.getElem?_toArray,mM,cm,fY,Array.length_toList,kJ,oA];have hlz:φ.off b+o+len*i.size<=cs0.size:=by omega
        rw [pY hlz];split at hv
        ·rename_i hjl;rw [aT (by omega),aT (by omega),aT (by omega)]
         rw [hxat jj hjl] at hv;obtain ⟨u,hu1,hu2⟩:=q2 (o+jj) v hv;exact ⟨u,by rw [Fq,mj];exact hu1,hu2⟩
        ·rename_i hjl;obtain ⟨u,hu1,hu2⟩:=hu.get hv;have hjj:jj-len*i.size<us'.length:=by
          rcases eV (jj-len*i.size) us'.length with h'|h'
          ·exact h'
          ·rw [lu h'] at hu1;cases hu1
         rw [aT (by omega),aY (by omega),show φ.off b+o+jj-(φ.off b+o+len*i.size)=jj-len*i.size by omega]
         exact ⟨u,hu1,hu2⟩
       ·have:=aK.sg (D:=Dn D n (n+1)) (φ:=φ.rQ n (φ.cI b) (φ.off b+o) cap i.size) n 0 (len+r.2.1) 0 cap (.inr ⟨bx _,gw _⟩) (by simp) (by simp [bP.rQ]) (by omega)
        simpa [bP.rQ] using this
     · -- it grows
       obtain ⟨os,ho1,ho2⟩:=HR.row (P:=P) hH hkk hmp hold;obtain ⟨cap',cs,h2,h3,h4,h5⟩:=run_append_grow (P:=P) (tt:=tt) (base:=some ⟨φ.cI b,φ.off b+o,none⟩) (len:=len) (cap:=cap) (old:=os.toArray) ht hxt hd hi hzs hzl hl (by omega) hby hb0 (by simpa [Builtin.firstCells] using ho1) hf (by simp [<-ho2.1,hold]) (by simp [<-hu.1,hul])
       refine fE.NM (cap:=cap') (cs:=cs) (elem:=el) (fr:=(0,0)) (w':={w with drawn:=w.drawn+1,heap:=w.heap.push (.cells cs el)}) (u:= .slice (some ⟨w.heap.size,0,none⟩) (len+r.2.1) cap') ?_ hib (hn (gw _)) hD hH rfl rfl rfl rfl (λj v hv=> ?_) (λi _=>by simp) h3 (uF h2)
       ·rw [dK,h5];rfl
       ·obtain ⟨u,hu1,hu2⟩:=(ho2.append hu).get hv;have hj:j<(os++us').length:=by
         rcases eV j (os++us').length with h'|h'
         ·exact h'
         ·rw [lu h'] at hu1;cases hu1
        exact ⟨u,by rw [h4 j (by simpa using hj)];simpa using hu1,hu2⟩
    ·cases hs
  ·cases hs
theorem Q4 {zs:List AV} {s x:cq} {us ux:Value} {t xt tt el:TypeId} {kn:IntKind} {i:TypeInfo} {c:Bool} (hs:step (.apz i.size i.bytes zs s x) e h n=some (c,E)) (hc:c=true) (ht:P.underlying t=some (.slice el)) (hxt:P.underlying xt=some (.int kn))
 (hi:P.info? el=some i) (hzs:eW P el=some zs) (hzl:zs.length=i.size) (hz0:0<i.size) (hb0:i.bytes≠0) (hss:gD D φ e h s us) (hxx:gD D φ e h x ux) (hn:n<E.n-> ¬D n) (hH:HR D φ (only (aa h) E.rd) w):
 fE P D φ (only (aa h) E.rd) w n E ((do pure (Next.value (<-Builtin.append_ #[t,xt] tt #[us,ux])):Sem Next).run P w):=by
 simp only [step,av] at hs;obtain ⟨vs,hvs,vx,hvx,m,hm,hs⟩:=hs;have hrs:=hss vs hvs;have hrx:=hxx vx hvx;split at hs
 ·rename_i b o len cap;cases hrs with
  |sl _ _ _ _ hD=>
  simp only [av,aI,aV] at hs;obtain ⟨k,hk,h1,rfl⟩:=hs;rw [hc] at h1;simp only [ak,bg] at h1;obtain ⟨⟨⟨h0,hg⟩,hby⟩,hold⟩:=h1;rw [ly] at hby;have hib:inl [b] b=true:=by simp [inl]
  obtain ⟨hk,hmp⟩:=dL hk;have hkk:only (aa h) [b] b=some k:=by grind [ep]
  have hux:ux= .int .i64 (m.toNat:Int):=by
   unfold Mw at hm;split at hm
   ·cases hm;cases hrx;grind
   ·cases hm
  subst hux;have hr0:0<m.toNat:=by omega
  generalize m.toNat=r at*;have hzs':=hzs;simp only [eW,hi,aC,av] at hzs';obtain ⟨z,hz,hzz⟩:=hzs';have hzr:=gN (D:=D) (φ:=φ) hzz;have hsz:z.cells.size=i.size:=by have:=hzr.1;grind
  obtain ⟨os,ho1,ho2⟩:=HR.row (P:=P) hH hkk hmp hold;have hosl:os.length=len*i.size:=by rw [<-ho2.1,hold]
  have hle:i.bytes*(len+r)=(len+r)*i.bytes:=Nat.mul_comm _ _;by_cases hbig:len+r<=9223372036854775807
  ·have h48:r*i.bytes<=281474976710656:=by
    grind
   have hrun:=Lib.run_append_grow_zeros (P:=P) w t xt tt el i z .i64 kn ht hxt hi hz (some ⟨φ.cI b,φ.off b+o,none⟩) len cap os (by simpa [Builtin.firstCells] using ir ho1 (w.drawn+1)) r (by omega) hz0 hg (by omega) h48 (growslice_fits hg (by omega))
   have hge:=grownCap_ge w (len+r) cap el;generalize grownCap w (len+r) cap el=G at*;have hrow:cw D φ (aD k.cells o (len*i.size)++dA zs r) (os++(Builtin.zeroCells z.cells r).toList):=by
    refine ho2.append ?_
    grind [uV,Builtin.zeroCells]
   refine fE.alloc (g:=some i.size) (cap:=G) (fO:=i.size) (cs:=os.toArray++Builtin.zeroCells z.cells r++Builtin.zeroCells z.cells (G-(len+r))) (elem:=el) (fr:=(0,0)) (w':={w with drawn:=w.drawn+1,heap:=w.heap.push (.cells (os.toArray++Builtin.zeroCells z.cells r++Builtin.zeroCells z.cells (G-(len+r))) el)}) (u:= .slice (some ⟨w.heap.size,0,none⟩) (len+r) G) ?_ hH (hn (gw _)) rfl rfl rfl rfl (λj v hv=> ?_) (λi _=>by simp) (λe he=> ?_) (uF hge)
   ·rw [dK,hrun];rfl
   ·obtain ⟨u,hu1,hu2⟩:=hrow.get hv
    grind
   ·cases he;refine ⟨rfl,?_⟩;simp only [Array.size_append,yq,size_zeroCells,hsz,hosl,<-gi]
    grind
  ·exfalso;have:(len+r)*i.bytes<=140737488355328:=by omega
   have:(len+r)*1<=(len+r)*i.bytes:=Nat.mul_le_mul_left _ (by omega)
   omega
 ·cases hs
end
end Go.Ab
namespace Go.Ab
section
variable {P:Program} {D:Nat->Prop} {φ:bP} {w:World} {n:Nat} {e:Env} {h:Hp} {E:bV} {ρ:Operand->Value}
theorem C6 {v:AV} {u u':Value} (hv:aK D φ v u) (h:KY v=some u'):u=u':=by
 unfold KY at h;split at h<;>cases h<;>cases hv<;>rfl
theorem Dg: ∀{l:List AV} {us us':List Value},cw D φ l us->Il l=some us'->us=us'
 |[],us,us',hv,h=>by simp [Il] at h;subst h;exact hv.mq
 |v::l,us,us',hv,h=>by
  obtain ⟨u,m,rfl,h1,h2⟩:=hv.eB;simp only [Il,av] at h;obtain ⟨x,hx,xs,hxs,h⟩:=h;cases h;rw [C6 h1 hx,Dg h2 hxs]
theorem M7 {v:AV} {u u':Value} (hv:aK D φ v u) (h:toV v=some u'):u=u':=by
 unfold toV at h;split at h
 ·obtain ⟨m,rfl,hm⟩:=hv.oh
  grind [av,Dg]
 grind [C6]
theorem O7 {t:TypeId} {x:cq} {u:Value} {d:TypeDesc} {c:Bool} (hs:step (.ZU t x) e h n=some (c,E)) (ht:P.underlying t=some d) (hd: ∀m,d≠ .interface m) (hx:gD D φ e h x u) (hH:HR D φ (only (aa h) E.rd) w):
 fE P D φ (only (aa h) E.rd) w n E ((do pure (Next.value (<-Instr.makeInterface t u)):Sem Next).run P w):=by
 simp only [step,av] at hs;obtain ⟨v,hv,u',hu',hs⟩:=hs;have:=M7 (hx v hv) hu';subst this;refine bU (u:= .iface t u) hs hH ?_ (.k t u);simp_all [Instr.makeInterface,Sem.run_bind,run_underlying,Result.andThen_ok]
theorem R7 {t xt:TypeId} {i:TypeInfo} {z:Value} {zz:AV} {x:cq} {u:Value} {d:TypeDesc} {c:Bool} (hs:step (.tas t zz x) e h n=some (c,E)) (ht:P.underlying t=some d) (hd: ∀m,d≠ .interface m) (hi:P.info? t=some i) (hz:i.zero=some z) (hzz:xS z=some zz)
 (hx:gD D φ e h x u) (hH:HR D φ (only (aa h) E.rd) w):
 fE P D φ (only (aa h) E.rd) w n E ((do pure (Next.value (<-Instr.typeAssert u xt t true)):Sem Next).run P w):=by
 simp only [step,av] at hs;obtain ⟨v,hv,hs⟩:=hs;have hvr:=hx v hv;have hzr:(zeroValue t).run P w= .ok z w:=by simp [zeroValue,run_typeInfo hi,hz]
 split at hs
 ·cases hvr;refine bU (u:= .tuple #[z,.bool false]) hs hH ?_ (aK.Dc (m:=[z,.bool false]) (.cons (lA hzz) (.cons (.b _) .nil)));simp_all [Instr.typeAssert,Sem.run_bind,run_underlying,Result.andThen_ok]
 ·rename_i t' u';cases hvr;by_cases hb:t'=t
  ·subst hb;rw [show Nat.beq t' t'=true from Nat.beq_refl t'] at hs
   simp only [av] at hs;obtain ⟨q,hq,hs⟩:=hs;refine bU (u:= .tuple #[u',.bool true]) hs hH ?_ (aK.Dc (m:=[u',.bool true]) (.cons (lA hq) (.cons (.b _) .nil)));simp_all [Instr.typeAssert,Sem.run_bind,run_underlying,Result.andThen_ok]
  ·rw [bO (λe=>hb e.symm)] at hs;refine bU (u:= .tuple #[z,.bool false]) hs hH ?_ (aK.Dc (m:=[z,.bool false]) (.cons (lA hzz) (.cons (.b _) .nil)));simp_all [Instr.typeAssert,Sem.run_bind,run_underlying,Result.andThen_ok]
 ·cases hs
theorem GL {neg:Bool} {x:cq} {a b:Value} {t:TypeId} {xo:Operand} {m:Array (String×TypeId)} {c:Bool} (hs:step (.ZK neg x) e h n=some (c,E)) (ht:P.underlying t=some (.interface m)) (hb:b= .nilIface)
 (hx:gD D φ e h x a) (hH:HR D φ (only (aa h) E.rd) w):
 fE P D φ (only (aa h) E.rd) w n E ((do pure (Next.value (<-(do eqGuard (if neg then .neq else .eql) t xo (.const .nilIface) a b;binOp (if neg then .neq else .eql) t a b))):Sem Next).run P w):=by
 simp only [step,av] at hs;obtain ⟨v,hv,hs⟩:=hs;have ha:=hx v hv;subst hb;have hn0: ∀d,(Op.equalIn (d+1) t .nilIface .nilIface).run P w= .ok true w:=λd=>by
  simp only [Op.equalIn,Sem.run_bind,run_underlying ht,Result.andThen_ok];simp
 have hk0: ∀d t' v',(Op.equalIn (d+1) t (.iface t' v') .nilIface).run P w= .ok false w:=λd t' v'=>by
  simp only [Op.equalIn,Sem.run_bind,run_underlying ht,Result.andThen_ok];simp
 have hn:(Op.equal t .nilIface .nilIface).run P w= .ok true w:=hn0 9999;have hk: ∀t' v',(Op.equal t (.iface t' v') .nilIface).run P w= .ok false w:=λt' v'=>hk0 9999 t' v';split at hs
 ·cases ha;refine bU (u:= .bool (!neg)) hs hH ?_ (.b _);cases neg<;>simp [eqGuard,binOp,hn]
 ·cases ha;refine bU (u:= .bool neg) hs hH ?_ (.b _);cases neg<;>simp [eqGuard,binOp,hk]
 ·cases hs
end
end Go.Ab
namespace Go.Ab
theorem IQ {ks:bL} {o:Option Obj} {cs:Array Value} {elem:TypeId} {fr:Nat×Nat} (h:rP (some ks) o cs elem fr): ∃es clk,o=some (.map es clk)/\es.toList.map (·.val)=cs.toList/\es.toList.map (·.key)=ks.jL:=h
theorem Fv {ks:bL} {o:Option Obj} {es:Array MapEntry} {clk:Nat} {cs:Array Value} {elem:TypeId} {fr:Nat×Nat} (h:o=some (.map es clk)) (h1:es.toList.map (·.val)=cs.toList) (h2:es.toList.map (·.key)=ks.jL):rP (some ks) o cs elem fr:=⟨es,clk,h,h1,h2⟩
theorem dU.EH {D:Nat->Prop} {φ:bP} {H:Hf} {w w':World} {n:Nat} {ks:bL} (hks:ks.jL=[])
 (hH:HR D φ H w) (hn: ¬D n) (hw:w'.heap=w.heap.push (.map #[] 0)) (hos:w'.os=w.os) (htape:w'.tape=w.tape) (hout:w'.output=w.output):
 dU D φ H w (Dn D n (n+1)) (φ.set n w.heap.size 0 0) (λb=>if b=n then some {cells:=[],mp:=some ks} else H b) w':=by
 have hD: ∀b,D b->Dn D n (n+1) b:=λb h=> .inl h;have hnn: ¬D n:=hn;have hag:= @bP.y5 D φ n w.heap.size 0 0 hnn;have hold: ∀c,c<w.heap.size->w'.heap[c]? =w.heap[c]? :=λc hc=>by grind
 have hsz:w'.heap.size=w.heap.size+1:=by rw [hw];simp
 have hne: ∀b k,H b=some k->b≠n:=λb k hb e=>hnn (e▸(hH.at_ b k hb).1);refine dU.mk' hH rfl rfl hD hag.at_ ⟨λb k hb=> ?_,λb1 b2 k1 k2 hne' h1 h2 hk=> ?_⟩ ⟨hos,htape,hout,by omega,λc hc _=>hold c hc⟩ λb k hb hk=> ?_
 ·by_cases hbn:b=n
  ·subst hbn;simp at hb;subst hb;exact ⟨.inr ⟨bx _,by omega⟩,⟨⟨#[],default,(0,0),Fv (es:= #[]) (clk:=0) (by simp [bP.set,hw]) rfl (by rw [hks];rfl),λi v hv=>by simp at hv,λ_=>⟨by simp [bP.set],λi _=>by omega⟩,λe he=>by cases he⟩,λg' h=>by simp at h⟩⟩
  ·rw [aY hbn] at hb;have h':=hH.at_ b k hb;exact ⟨hD b h'.1,h'.2.mono hD hag h'.1 (hold _ h'.2.lt)⟩
 ·by_cases hb1:b1=n<;>by_cases hb2:b2=n
  ·omega
  ·rw [aY hb2] at h2;have:=(hH.at_ b2 k2 h2).2.lt
   grind [bP.set]
  ·rw [aY hb1] at h1;have:=(hH.at_ b1 k1 h1).2.lt
   grind [bP.set]
  ·rw [aY hb1] at h1;rw [aY hb2] at h2;simp [bP.set,hb1,hb2];exact hH.sep b1 b2 k1 k2 hne' h1 h2 hk
 ·by_cases hbn:b=n
  ·grind [bP.set]
  ·rw [aY hbn] at hb
   grind [bP.set]
theorem fE.EH {P:Program} {D:Nat->Prop} {φ:bP} {H:Hf} {w w':World} {n:Nat} {ks:bL} {rd:List Nat} {r:Result Next} (hks:ks.jL=[])
 (hr:r= .ok (.value (.map (some w.heap.size))) w') (hH:HR D φ H w) (hn: ¬D n) (hw:w'.heap=w.heap.push (.map #[] 0)) (hos:w'.os=w.os) (htape:w'.tape=w.tape) (hout:w'.output=w.output):
 fE P D φ H w n {v:= .m n,n:=n+1,rd,nw:=[(n,{cells:=[],mp:=some ks})]} r:=by
 have hv:aK (Dn D n (n+1)) (φ.set n w.heap.size 0 0) (.m n) (.map (some w.heap.size)):=by
  have:=aK.m (D:=Dn D n (n+1)) (φ:=φ.set n w.heap.size 0 0) n (.inr ⟨bx _,gw _⟩)
  grind [bP.set]
 refine ⟨φ.set n w.heap.size 0 0,_,_,w',hr,.inl rfl,by simp,hv,by grind [qx,dU.EH],λb k hb hk=> ?_,λb r h=>by simp [cy] at h,λb k h=> ?_⟩
 all_goals grind [qx,aa,Nat.beq,ee]
theorem dU.uG {D:Nat->Prop} {φ:bP} {H:Hf} {w w':World} {b:Nat} {k:bp} {es':Array MapEntry} {clk':Nat} {ks':bL} {xs:List AV}
 (hH:HR D φ H w) (hb:H b=some k) (hro:k.ro=false) (hgr:k.gr=none) (hw:w'.heap=w.heap.setIfInBounds (φ.cI b) (.map es' clk'))
 (hos:w'.os=w.os) (htape:w'.tape=w.tape) (hout:w'.output=w.output) (hks:es'.toList.map (·.key)=ks'.jL)
 (hz: ∀(i:Nat) (v:AV),xs[i]? =some v-> ∃e,es'.toList[i]? =some e/\aK D φ v e.val):
 dU D φ H w D φ (λc=>if c=b then some {k with cells:=xs,mp:=some ks'} else H c) w':=by
 have hlt:=(hH.at_ b k hb).2.lt;have hne: ∀c,c≠φ.cI b->w'.heap[c]? =w.heap[c]? :=λc hc=>by grind
 refine dU.mk' hH rfl rfl (λ_ h=>h) (cT.refl D φ).at_ ⟨λc k' hc=> ?_,λb1 b2 k1 k2 hne' h1 h2 hk'=> ?_⟩ ⟨hos,htape,hout,by rw [hw];simp,λc hc hn=>hne c (λe=>hn b k hb hro e.symm)⟩ λc k' hc hk'=> ?_
 ·by_cases hcb:c=b
  ·subst hcb;simp at hc;subst hc;obtain ⟨hd,⟨⟨cs0,elem0,fr0,h1,h2,h3,h4⟩,h5⟩⟩:=hH.at_ c k hb;have hoff:=(h3 hro).1 hgr;refine ⟨hd,⟨⟨(es'.toList.map (·.val)).toArray,elem0,(0,0),Fv (es:=es') (clk:=clk') (by grind) rfl hks,λi v hv=> ?_,λ_=>⟨λ_=>hoff,λi _=>by omega⟩,λe he=>by grind⟩,h5⟩⟩
   grind
  ·rw [aY hcb] at hc;have h':=hH.at_ c k' hc;exact ⟨h'.1,h'.2.mono (λ_ h=>h) (cT.refl _ _) h'.1 (hne _ (λe=>hH.sep b c k k' (s5 hcb) hb hc hro e.symm))⟩
 ·have key: ∀c k',(if c=b then some {k with cells:=xs,mp:=some ks'} else H c)=some k'-> ∃k0,H c=some k0/\k0.ro=k'.ro:=λc k' hc=>by
   grind
  obtain ⟨Mq,g1,r1⟩:=key b1 k1 h1;obtain ⟨Ks,g2,r2⟩:=key b2 k2 h2;exact hH.sep b1 b2 Mq Ks hne' g1 g2 (r1.trans hk')
 grind
theorem fE.uG {P:Program} {D:Nat->Prop} {φ:bP} {H:Hf} {w w':World} {n b:Nat} {k:bp} {es':Array MapEntry} {clk':Nat} {ks':bL} {xs:List AV} {v:AV} {u:Value} {nx:Next} {rd:List Nat} {r:Result Next}
 (hr:r= .ok nx w') (hnx:nx= .value u\/(nx= .skip/\u=undef)) (hv:aK D φ v u) (hrd:inl rd b=true)
 (hH:HR D φ H w) (hb:H b=some k) (hro:k.ro=false) (hgr:k.gr=none) (hw:w'.heap=w.heap.setIfInBounds (φ.cI b) (.map es' clk'))
 (hos:w'.os=w.os) (htape:w'.tape=w.tape) (hout:w'.output=w.output) (hks:es'.toList.map (·.key)=ks'.jL)
 (hz: ∀(i:Nat) (v:AV),xs[i]? =some v-> ∃e,es'.toList[i]? =some e/\aK D φ v e.val):
 fE P D φ H w n {v,n,rd,md:=[(b,some {k with cells:=xs,mp:=some ks'})]} r:=by
 have h:=dU.uG hH hb hro hgr hw hos htape hout hks hz;have hd: ∀b,D b->Dn D n n b:=λb h=> .inl h;have e:Dn D n n=D:=by grind [F4]
 refine ⟨φ,u,nx,w',hr,hnx,bx _,hv.mono hd (cT.refl _ _),by grind [qN],λc k' hc hk'=> ?_,λc r hc=> ?_,λb k h=>by simp [aa] at h⟩
 all_goals grind [qN,cy,bO]
end Go.Ab
namespace Go.Ab
theorem xY (l:List Int):(bL.i l).jL=l.map λx=> .int .i64 x:=rfl
theorem ya (l:List (List UInt8)):(bL.s l).jL=l.map λx=> .string ⟨x.toArray⟩:=rfl
theorem zm (κ:IntKind) (x:Int): ∀(es:List MapEntry) (l:List Int) (j:Nat),es.map (·.key)=(bL.i l).jL->Instr.findNow (.int κ) (.int .i64 x) es j=some ((l.findIdx? (x== ·)).bind λi=>(es[i]?).map λe=>(j+i,e.val))
 |[],[],j,_=>rfl
 |[],_::_,j,h=>by simp [xY] at h
 |_::_,[],j,h=>by simp [xY] at h
 |e::es,y::l,j,h=>by
  simp only [xY,fJ,yQ] at h;obtain ⟨h1,h2⟩:=h;simp only [Instr.findNow,h1,Instr.sameNow,cM,Jx];cases hc:x==y
  ·simp only [ei,dP];rw [zm κ x es l (j+1) h2];cases l.findIdx? (x== ·) with
   |none=>rfl
   |some i=>simp only [iI,aC,su];rw [mj,vN 1 i]
  ·simp
theorem KF (x y:List UInt8):((⟨x.toArray⟩:ByteArray)==⟨y.toArray⟩)=(x==y):=by
 show (x.toArray==y.toArray)=(x==y);simp
theorem JY (x:List UInt8):((⟨x.toArray⟩:ByteArray)==⟨x.toArray⟩)=true:=by rw [KF];simp
theorem zd (x:List UInt8): ∀(es:List MapEntry) (l:List (List UInt8)) (j:Nat),es.map (·.key)=(bL.s l).jL->Instr.findNow .string (.string ⟨x.toArray⟩) es j=some ((l.findIdx? (x== ·)).bind λi=>(es[i]?).map λe=>(j+i,e.val))
 |[],[],j,_=>rfl
 |[],_::_,j,h=>by simp [ya] at h
 |_::_,[],j,h=>by simp [ya] at h
 |e::es,y::l,j,h=>by
  simp only [ya,fJ,yQ] at h;obtain ⟨h1,h2⟩:=h;have hb:((⟨x.toArray⟩:ByteArray)==⟨y.toArray⟩)=(x==y):=by
   exact KF x y
  simp only [Instr.findNow,h1,Instr.sameNow,hb,Jx];cases hc:x==y
  ·simp only [ei,dP];rw [zd x es l (j+1) h2];cases l.findIdx? (x== ·) with
   |none=>rfl
   |some i=>simp only [iI,aC,su];rw [mj,vN 1 i]
  ·simp
theorem xe (l:List (Int×Int)):(bL.a l).jL=l.map λx=> .agg #[.int .i64 x.1,.int .i64 x.2]:=rfl
theorem cw.acH {D:Nat->Prop} {φ:bP} {x y:Int} {m:List Value} (h:cw D φ [.i .i64 x,.i .i64 y] m):m=[.int .i64 x,.int .i64 y]:=by
 obtain ⟨hl,h⟩:=h
 match m,hl with
 |[a,b],_=>
  have h0:=h 0 _ _ rfl rfl;have h1:=h 1 _ _ rfl rfl;cases h0;cases h1;rfl
theorem Vv {P:Program} {t:TypeId} (h:Kn P t=true): ∃e κ i,P.underlying t=some (.array 2 e)/\P.underlying e=some (.int κ)/\P.info? e=some i/\i.size=1:=by
 unfold Kn at h;split at h
 ·rename_i e hu;split at h
  ·rename_i κ i he hi;exact ⟨e,κ,i,hu,he,hi,ee h⟩
  ·cases h
 ·cases h
section
variable {P:Program} {w:World} {t e:TypeId} {κ:IntKind} {i:TypeInfo}
theorem qS (he:P.underlying e=some (.int κ)) {xs:Array Value} {k:Nat} {v:Value} (hx:xs[k]? =some v):(part e xs k).run P w= .ok v w:=by
 have hp:P.plainKey e=true:=by unfold Program.plainKey;rw [he]
 exact run_part_plain w hp hx
theorem za (hi:P.info? e=some i) (h1:i.size=1):(sizeOf e).run P w= .ok 1 w:=by
 first|simp [sizeOf,run_typeInfo hi w,h1]|simp [sizeOf,run_typeInfo w hi,h1]
theorem Kt (hu:P.underlying t=some (.array 2 e)) (he:P.underlying e=some (.int κ)) (hi:P.info? e=some i) (h1:i.size=1) (n:Nat) (b:Bool) (x y:Int):(Instr.checkKey b (n+2) t (.agg #[.int .i64 x,.int .i64 y])).run P w= .ok () w:=by
 have hc: ∀z:Int,(Instr.checkKey b (n+1) e (.int .i64 z)).run P w= .ok () w:=λz=>by simp [Instr.checkKey,run_underlying he]
 have p0:=qS (w:=w) he (xs:= #[Value.int .i64 x,.int .i64 y]) (k:=0) (v:= .int .i64 x) rfl;have p1:=qS (w:=w) he (xs:= #[Value.int .i64 x,.int .i64 y]) (k:=1) (v:= .int .i64 y) rfl;have hs:=za (w:=w) hi h1;rw [Instr.checkKey];simp only [Sem.run_bind,run_underlying hu,Result.andThen_ok,LK,Std.Legacy.Range.size,Nat.sub_zero,Nat.add_one_sub_one,Nat.div_one,List.range',List.forIn_cons,List.forIn_nil,hs,p0,p1,hc,zx,di,fy,Sem.run_pure]
theorem SQ (hu:P.underlying t=some (.array 2 e)) (he:P.underlying e=some (.int κ)) (hi:P.info? e=some i) (h1:i.size=1) (x y x' y':Int):(Op.equal t (.agg #[.int .i64 x,.int .i64 y]) (.agg #[.int .i64 x',.int .i64 y'])).run P w= .ok ((x,y)==(x',y')) w:=by
 have hc: ∀(z z':Int) (n:Nat),(Op.equalIn (n+1) e (.int .i64 z) (.int .i64 z')).run P w= .ok (z==z') w:=λz z' n=>by simp [Op.equalIn,run_underlying he]
 have p0:=λx y:Int=>qS (w:=w) he (xs:= #[Value.int .i64 x,.int .i64 y]) (k:=0) (v:= .int .i64 x) rfl;have p1:=λx y:Int=>qS (w:=w) he (xs:= #[Value.int .i64 x,.int .i64 y]) (k:=1) (v:= .int .i64 y) rfl;have hs:=za (w:=w) hi h1;have h0:((x,y)==(x',y'))=((x==x')&&(y==y')):=rfl;rw [h0];show (Op.equalIn (9998+1+1) t _ _).run P w=_;rw [Op.equalIn];cases hx:x==x'<;>cases hy:y==y'<;>
  simp [run_underlying hu,LK,Std.Legacy.Range.size,List.range',hs,p0,p1,hc,hx,hy,Result.andThen_ok]
theorem Cj (hu:P.underlying t=some (.array 2 e)) (he:P.underlying e=some (.int κ)) (hi:P.info? e=some i) (h1:i.size=1) (x y:Int): ∀(es:List MapEntry) (l:List (Int×Int)) (j:Nat),es.map (·.key)=(bL.a l).jL->(Instr.findAsking t (.agg #[.int .i64 x,.int .i64 y]) es j).run P w= .ok ((l.findIdx? ((x,y)== ·)).bind λi=>(es[i]?).map λe=>(j+i,e.val)) w
 |[],[],j,_=>by simp [Instr.findAsking]
 |[],_::_,j,h=>by simp [xe] at h
 |_::_,[],j,h=>by simp [xe] at h
 |e0::es,z::l,j,h=>by
  simp only [xe,fJ,yQ] at h;obtain ⟨g1,g2⟩:=h;have ih:=Cj hu he hi h1 x y es l (j+1) g2;have hq:=SQ (w:=w) hu he hi h1 x y z.1 z.2;have hz:((x,y)==(z.1,z.2))=((x,y)==z):=rfl;rw [hz] at hq;simp only [Instr.findAsking,g1,Sem.run_bind,hq,Result.andThen_ok,Jx];cases hc:(x,y)==z
  ·simp only [ei,dP,ih];cases l.findIdx? ((x,y)== ·) with
   |none=>rfl
   |some i=>simp only [iI,aC,su];rw [mj,vN 1 i]
  ·simp
theorem PE (hu:P.underlying t=some (.array 2 e)) (he:P.underlying e=some (.int κ)) (hi:P.info? e=some i) (h1:i.size=1) (x y:Int) (es:List MapEntry) (l:List (Int×Int)) (h:es.map (·.key)=(bL.a l).jL):(Instr.findKey t (.agg #[.int .i64 x,.int .i64 y]) es).run P w= .ok ((l.findIdx? ((x,y)== ·)).bind λi=>(es[i]?).map λe=>(i,e.val)) w:=by
 rw [run_findKey_eq w (by rw [hu]) _ es,Cj hu he hi h1 x y es l 0 h]
 simp only [fy]
end
theorem sQ {P:Program} {D:Nat->Prop} {φ:bP} {w:World} {ks:bL} {k:AV} {u:Value} {r:Option Nat} {t:TypeId} {es:List MapEntry} (hf:ks.find k=some r) (ht:ks.ok P t=true) (hk:aK D φ k u) (he:es.map (·.key)=ks.jL):
 (∀b,(Instr.checkKey b 10000 t u).run P w= .ok () w)/\(Instr.findKey t u es).run P w= .ok (r.bind λi=>(es[i]?).map λe=>(i,e.val)) w/\(∀i,r=some i-> ∃e,es[i]? =some e/\e.key=u)/\Instr.sameBits 10000 u u=true/\(ks.push k).jL=ks.jL++[u]:=by
 unfold bL.find at hf;split at hf
 ·rename_i l x;cases hf;cases hk;unfold bL.ok at ht;dsimp only at ht;split at ht
  ·rename_i κ hu;have hck: ∀(n:Nat) (b:Bool),(Instr.checkKey b (n+1) t (.int .i64 x)).run P w= .ok () w:=λn b=>by simp [Instr.checkKey,run_underlying hu]
   have hsb: ∀n:Nat,Instr.sameBits (n+1) (.int .i64 x) (.int .i64 x)=true:=λn=>by simp [Instr.sameBits]
   refine ⟨hck 9999,?_,λi hi=> ?_,hsb 9999,by simp [bL.push,bL.jL]⟩
   ·simp only [Instr.findKey,Sem.run_bind,run_underlying hu,Result.andThen_ok,zm κ x es l 0 he,fy,Sem.run_pure]
   ·obtain ⟨hlt,hx,_⟩:=AQ.1 hi;have hlen:es.length=l.length:=by simpa [xY] using dC List.length he
    have:=dC (λm=>m[i]?) he
    grind [xY,dX,bj,iI,aI]
  ·cases ht
 ·rename_i l x;cases hf;cases hk;unfold bL.ok at ht;dsimp only at ht;split at ht
  ·rename_i hu;have hck: ∀(n:Nat) (b:Bool),(Instr.checkKey b (n+1) t (.string ⟨x.toArray⟩)).run P w= .ok () w:=λn b=>by simp [Instr.checkKey,run_underlying hu]
   have hsb: ∀n:Nat,Instr.sameBits (n+1) (.string ⟨x.toArray⟩) (.string ⟨x.toArray⟩)=true:=λn=>by simp [Instr.sameBits,JY]
   refine ⟨hck 9999,?_,λi hi=> ?_,hsb 9999,by simp [bL.push,bL.jL]⟩
   ·simp only [Instr.findKey,Sem.run_bind,run_underlying hu,Result.andThen_ok,zd x es l 0 he,fy,Sem.run_pure]
   ·obtain ⟨hlt,hx,_⟩:=AQ.1 hi;have hlen:es.length=l.length:=by simpa [ya] using dC List.length he
    have:=dC (λm=>m[i]?) he
    grind [ya,dX,bj,iI,aI]
  ·cases ht
 ·rename_i l x y;cases hf;obtain ⟨m,rfl,hm⟩:=hk.oh;obtain ⟨e,κ,i,hu,he',hi,h1⟩:=Vv (by exact ht)
  have h2:m=[.int .i64 x,.int .i64 y]:=hm.acH;subst h2;have hck: ∀(n:Nat) (b:Bool),(Instr.checkKey b (n+2) t (.agg #[.int .i64 x,.int .i64 y])).run P w= .ok () w:=λn b=>Kt hu he' hi h1 n b x y;refine ⟨hck 9998,PE hu he' hi h1 x y es l he,λi hi=> ?_,by simp [Instr.sameBits],by simp [bL.push,bL.jL]⟩
  obtain ⟨hlt,hx,_⟩:=AQ.1 hi;have hlen:es.length=l.length:=by simpa [xe] using dC List.length he
  have:=dC (λm=>m[i]?) he;have hx:(x,y)=l[i]:=by simpa using hx
  simp only [xe,dX,bj hlt,iI,<-hx,bj (show i<es.length by omega),aI] at this
  exact ⟨es[i],bj (by omega),this⟩
 ·cases hf
end Go.Ab
namespace Go.Ab
section
variable {P:Program} {D:Nat->Prop} {φ:bP} {w:World} {n:Nat} {e:Env} {h:Hp} {E:bV}
theorem jT {r:Nat} {es:Array MapEntry} {clk:Nat} (h:w.heap[r]? =some (.map es clk)):(getObj r).run P w= .ok (.map es clk) w:=by simp [getObj,Sem.run,h]
theorem sP {r:Nat} {es:Array MapEntry} {clk:Nat} (o:Obj) (h:w.heap[r]? =some (.map es clk)):(setObj r o).run P w= .ok () {w with heap:=w.heap.setIfInBounds r o}:=by simp [setObj,Sem.run,h]
theorem sm {kd:Nat} {m k:AV} {q:Nat×bp×bL×Option Nat} (hq:tT h kd m k=some q): ∃b,m= .m b/\q.1=b/\aa h b=some q.2.1/\q.2.1.ro=false/\q.2.1.gr=none/\q.2.1.mp=some q.2.2.1/\q.2.2.1.kd=kd/\q.2.2.1.find k=some q.2.2.2:=by
 unfold tT at hq
 grind [av,ee]
theorem xZ {b:Nat} {K:bp} {ks:bL} {rd:List Nat} (hH:HR D φ (only (aa h) rd) w) (hb:inl rd b=true) (hK:aa h b=some K) (hro:K.ro=false) (hg:K.gr=none) (hm:K.mp=some ks):
 only (aa h) rd b=some K/\ ∃es clk,w.heap[φ.cI b]? =some (.map es clk)/\es.toList.map (·.key)=ks.jL/\ ∀(i:Nat) (v:AV),K.cells[i]? =some v-> ∃e,es.toList[i]? =some e/\aK D φ v e.val:=by
 have hkk:only (aa h) rd b=some K:=by grind [ep]
 obtain ⟨_,⟨⟨cs,elem,fr,h1,h2,h3,_⟩,_⟩⟩:=hH.at_ b K hkk;rw [hm] at h1;obtain ⟨es,clk,g1,g2,g3⟩:=IQ h1;refine ⟨hkk,es,clk,g1,g3,λi v hv=> ?_⟩;obtain ⟨u,hu,hr⟩:=h2 i v hv;rw [(h3 hro).1 hg,fy,<-Fq,<-g2,dX,bK] at hu
 grind
theorem L3 {ks:bL} {i:Nat}:(ks.del i).jL=ks.jL.eraseIdx i:=by
 apply nk;intro j;cases ks<;>simp only [bL.del,bL.jL,dX,List.getElem?_eraseIdx]<;>split<;>rfl
theorem By {ks:bL} {t:TypeId} {c:Bool} (hs:step (.Zl ks) e h n=some (c,E)) (hks:ks.jL=[]) (hn:n<E.n-> ¬D n) (hH:HR D φ (only (aa h) E.rd) w):
 fE P D φ (only (aa h) E.rd) w n E ((do pure (Next.value (<-Instr.makeMap t none)):Sem Next).run P w):=by
 simp only [step,aI,aV] at hs;obtain ⟨_,rfl⟩:=hs;refine fE.EH (w':=w.alloc (.map #[] 0)) hks ?_ hH (hn (gw n)) rfl rfl rfl rfl;rfl
theorem GP {kd:Nat} {m k x:cq} {um uk ux:Value} {t kt et:TypeId} {c:Bool} (hs:step (.ZA kd m k x) e h n=some (c,E)) (hc:c=true) (ht:P.underlying t=some (.map kt et)) (hkt:rC P kt=some kd)
 (hm:gD D φ e h m um) (hk:gD D φ e h k uk) (hx:gD D φ e h x ux) (hH:HR D φ (only (aa h) E.rd) w):
 fE P D φ (only (aa h) E.rd) w n E ((do Instr.mapUpdate t um uk ux;pure Next.skip:Sem Next).run P w):=by
 simp only [step,av] at hs;obtain ⟨vm,hvm,vk,hvk,vx,hvx,q,hq,hs⟩:=hs;obtain ⟨b,rfl,hqb,hK,hro,hg,hmp,hkd,hf⟩:=sm hq;obtain ⟨q1,K,ks,r⟩:=q;dsimp only at hqb hK hro hg hmp hkd hf hs;subst hqb;have hmr:=hm _ hvm;cases hmr;have hrd:inl E.rd q1=true:=by
  split at hs<;>cases hs<;>simp [inl]
 obtain ⟨hkk,es,clk,g1,g2,g3⟩:=xZ hH hrd hK hro hg hmp;obtain ⟨f1,f2,f3,f4,f5⟩:=sQ (P:=P) (w:=w) hf (sM (by rw [hkt,hkd])) (hk _ hvk) g2
 have hget0:=jT (P:=P) g1;split at hs
 ·rename_i i;cases hs;obtain ⟨e0,he0,hkey⟩:=f3 i rfl;have he0':es[i]? =some e0:=by grind
  have hsz:i<es.size:=(kE.1 he0').1;refine fE.uG (nx:= .skip) (u:=undef) (w':={w with heap:=w.heap.setIfInBounds (φ.cI q1) (.map (es.modify i λe=>{e with key:=uk,val:=ux}) clk)}) (es':=es.modify i λe=>{e with key:=uk,val:=ux}) (clk':=clk) ?_ (.inr ⟨rfl,rfl⟩) (aK.bz [] #[] rfl (λi a u ha=>by simp at ha)) (by simp [inl]) hH hkk hro hg rfl rfl rfl rfl ?_ (λj v hv=> ?_)
  ·simp only [Instr.mapUpdate,Sem.run_bind,run_underlying ht,Result.andThen_ok,hget0,f1,f2,aC,he0,iI,he0',fM,Instr.keyThatStays,hkey,f4,cM,Sem.run_pure,sP _ g1]
  ·rw [<-g2];apply nk
   grind
  ·rw [Aa] at hv;simp only [Fq,Array.getElem?_modify];by_cases hij:i=j
   ·subst hij;simp only [cM] at hv;split at hv
    ·cases hv;exact ⟨{key:=uk,val:=ux,born:=e0.born},by simp [he0'],hx _ hvx⟩
    ·cases hv
   grind
 ·simp only [aI,aV] at hs;obtain ⟨hlen,rfl⟩:=hs;rw [hc] at hlen;have hlen:K.cells.length=es.size:=by
   grind [ee,bL.CP]
  refine fE.uG (nx:= .skip) (u:=undef) (w':={w with heap:=w.heap.setIfInBounds (φ.cI q1) (.map (es.push {key:=uk,val:=ux,born:=clk}) (clk+1))}) (es':=es.push {key:=uk,val:=ux,born:=clk}) (clk':=clk+1) ?_ (.inr ⟨rfl,rfl⟩) (aK.bz [] #[] rfl (λi a u ha=>by simp at ha)) (by simp [inl]) hH hkk hro hg rfl rfl rfl rfl ?_ (λj v hv=> ?_)
  ·simp only [Instr.mapUpdate,Sem.run_bind,run_underlying ht,Result.andThen_ok,hget0,f1,f2,Option.bind_none,Sem.run_pure,sP _ g1]
  ·grind
  ·rw [mM] at hv;simp only [Array.toList_push];rw [mM,show es.toList.length=K.cells.length by simp [hlen]]
   split at hv
   ·grind
   ·rename_i hj;rw [aY hj];have:j-K.cells.length=0:=by
     grind
    rw [this] at hv ⊢;simp at hv;subst hv;exact ⟨_,rfl,hx _ hvx⟩
theorem Qh {kd:Nat} {ok:Bool} {z:AV} {m k:cq} {um uk zv:Value} {t kt et:TypeId} {i:TypeInfo} {c:Bool} (hs:step (.mpG kd ok z m k) e h n=some (c,E)) (ht:P.underlying t=some (.map kt et)) (hkt:rC P kt=some kd)
 (hi:P.info? et=some i) (hz:i.zero=some zv) (hzz:xS zv=some z) (hm:gD D φ e h m um) (hk:gD D φ e h k uk) (hH:HR D φ (only (aa h) E.rd) w):
 fE P D φ (only (aa h) E.rd) w n E ((do pure (Next.value (<-Instr.lookup t um uk ok)):Sem Next).run P w):=by
 simp only [step,av] at hs;obtain ⟨vm,hvm,vk,hvk,q,hq,hs⟩:=hs;obtain ⟨b,rfl,hqb,hK,hro,hg,hmp,hkd,hf⟩:=sm hq;obtain ⟨q1,K,ks,r⟩:=q;dsimp only at hqb hK hro hg hmp hkd hf hs;subst hqb;have hmr:=hm _ hvm;cases hmr;have hzr:(zeroValue et).run P w= .ok zv w:=by simp [zeroValue,run_typeInfo hi,hz]
 split at hs
 ·rename_i j;simp only [av,aI,aV] at hs;obtain ⟨v,hv,_,rfl⟩:=hs;obtain ⟨hkk,es,clk,g1,g2,g3⟩:=xZ hH (by simp [inl]) hK hro hg hmp
  obtain ⟨f1,f2,f3,f4,f5⟩:=sQ (P:=P) (w:=w) hf (sM (by rw [hkt,hkd])) (hk _ hvk) g2
  obtain ⟨e0,he0,hr0⟩:=g3 j v hv;have he0':es[j]? =some e0:=by grind
  cases ok
  ·refine fE.pure (u:=e0.val) ?_ hH hr0;simp [Instr.lookup,run_underlying ht,jT g1,f1,f2,he0',Result.andThen_ok]
  ·refine fE.pure (u:= .tuple #[e0.val,.bool true]) ?_ hH (aK.Dc (m:=[e0.val,.bool true]) (.cons hr0 (.cons (.b _) .nil)));simp [Instr.lookup,run_underlying ht,jT g1,f1,f2,he0',Result.andThen_ok]
 ·simp only [aI,aV] at hs;obtain ⟨_,rfl⟩:=hs;obtain ⟨hkk,es,clk,g1,g2,g3⟩:=xZ hH (by simp [inl]) hK hro hg hmp
  obtain ⟨f1,f2,f3,f4,f5⟩:=sQ (P:=P) (w:=w) hf (sM (by rw [hkt,hkd])) (hk _ hvk) g2
  cases ok
  ·refine fE.pure (u:=zv) ?_ hH (lA hzz);simp [Instr.lookup,run_underlying ht,jT g1,f1,f2,hzr,Result.andThen_ok]
  ·refine fE.pure (u:= .tuple #[zv,.bool false]) ?_ hH (aK.Dc (m:=[zv,.bool false]) (.cons (lA hzz) (.cons (.b _) .nil)));simp [Instr.lookup,run_underlying ht,jT g1,f1,f2,hzr,Result.andThen_ok]
theorem IC {x:cq} {u:Value} {t tt kt et:TypeId} {c:Bool} (hs:step (.Q5 x) e h n=some (c,E)) (ht:P.underlying t=some (.map kt et)) (hx:gD D φ e h x u) (hH:HR D φ (only (aa h) E.rd) w):
 fE P D φ (only (aa h) E.rd) w n E ((do pure (Next.value (<-Builtin.len_ #[t] tt #[u])):Sem Next).run P w):=by
 simp only [step,av] at hs;obtain ⟨v,hv,hs⟩:=hs;have hr:=hx v hv;split at hs
 ·simp only [av] at hs;obtain ⟨K,hK,hs⟩:=hs;split at hs
  ·rename_i b _ _ _ ks hro hg hm;cases hs;cases hr;obtain ⟨hkk,es,clk,g1,g2,g3⟩:=xZ hH (by simp [inl]) hK hro hg hm
   have hlen:es.size=ks.len:=by
    have:=dC List.length g2
    grind [bL.CP]
   refine fE.pure (u:= .int .i64 (ks.len:Int)) ?_ hH (.i _ _);simp [Builtin.len_,run_underlying ht,jT g1,goInt,hlen,Result.andThen_ok]
  ·cases hs
 ·cases hs
theorem Sy {kd:Nat} {m k:cq} {um uk:Value} {t kt et:TypeId} {tys:Array TypeId} {rt:TypeId} {c:Bool} (hs:step (.mpD kd m k) e h n=some (c,E)) (h0:tys[0]? =some t) (ht:P.underlying t=some (.map kt et)) (hkt:rC P kt=some kd)
 (hm:gD D φ e h m um) (hk:gD D φ e h k uk) (hH:HR D φ (only (aa h) E.rd) w):
 fE P D φ (only (aa h) E.rd) w n E ((do pure (Next.value (<-Builtin.delete_ tys rt #[um,uk])):Sem Next).run P w):=by
 simp only [step,av] at hs;obtain ⟨vm,hvm,vk,hvk,q,hq,hs⟩:=hs;obtain ⟨b,rfl,hqb,hK,hro,hg,hmp,hkd,hf⟩:=sm hq;obtain ⟨q1,K,ks,r⟩:=q;dsimp only at hqb hK hro hg hmp hkd hf hs;subst hqb;have hmr:=hm _ hvm;cases hmr;have hrd:inl E.rd q1=true:=by split at hs<;>cases hs<;>simp [inl]
 obtain ⟨hkk,es,clk,g1,g2,g3⟩:=xZ hH hrd hK hro hg hmp;obtain ⟨f1,f2,f3,f4,f5⟩:=sQ (P:=P) (w:=w) hf (sM (by rw [hkt,hkd])) (hk _ hvk) g2
 split at hs
 ·rename_i i;cases hs;obtain ⟨e0,he0,hkey⟩:=f3 i rfl;have he0':es[i]? =some e0:=by grind
  have hlt:i<es.size:=(kE.1 he0').1;have hel:(es.eraseIdxIfInBounds i).toList=es.toList.eraseIdx i:=by simp
  refine fE.uG (nx:= .value (.tuple #[])) (u:= .tuple #[]) (w':={w with heap:=w.heap.setIfInBounds (φ.cI q1) (.map (es.eraseIdxIfInBounds i) clk)}) (es':=es.eraseIdxIfInBounds i) (clk':=clk) ?_ (.inl rfl) (aK.bz [] #[] rfl (λi a u ha=>by simp at ha)) (by simp [inl]) hH hkk hro hg rfl rfl rfl rfl ?_ (λj v hv=> ?_)
  ·simp [Builtin.delete_,h0,run_underlying ht,jT g1,f1,f2,he0',Result.andThen_ok,sP _ g1]
  ·rw [hel,L3,<-g2];apply nk
   grind
  grind
 ·cases hs;refine fE.uG (nx:= .value (.tuple #[])) (u:= .tuple #[]) (w':={w with heap:=w.heap.setIfInBounds (φ.cI q1) (.map es clk)}) (es':=es) (clk':=clk) ?_ (.inl rfl) (aK.bz [] #[] rfl (λi a u ha=>by simp at ha)) (by simp [inl]) hH hkk hro hg rfl rfl rfl rfl g2 g3
  simp [Builtin.delete_,h0,run_underlying ht,jT g1,f1,f2,Result.andThen_ok,sP _ g1]
end
end Go.Ab
namespace Go.Ab
section
variable {P:Program} {D:Nat->Prop} {φ:bP} {w:World} {n:Nat} {e:Env} {h:Hp} {E:bV} {ρ:Operand->Value}
theorem aR {x:Option j8} {r:Bool×bV} (hs:step (bE x) e h n=some r): ∃y,x=some y/\step y e h n=some r:=by
 cases x with
 |none=>simp [bE,step] at hs
 |some y=>exact ⟨y,rfl,by grind [bE]⟩
theorem bY {r:Bool×bV} (hs:step .bad e h n=some r):False:=by simp [step] at hs
def ZV (D:Nat->Prop) (φ:bP) (e:Env) (h:Hp) (ρ:Operand->Value) (o:Op):Prop:= ∀y∈o.operands.toList,∀x,cO y=some x->gD D φ e h x (ρ y)
theorem mh {y:Option Operand} {x:Option cq} (hc:Dz y=some x) (hk: ∀q,y=some q-> ∀x,cO q=some x->gD D φ e h x (ρ q)):Mp D φ e h x (y.map ρ):=by
 cases y with
 |none=>simp [Dz] at hc;subst hc;trivial
 |some q=>
  simp only [Dz] at hc;obtain ⟨x',hx,rfl⟩:=bK.1 hc;exact hk q rfl x' hx
set_option maxHeartbeats 4000000 in
theorem xG {o:Oper} {c:Bool} (hs:step (cN P o.op) e h n=some (c,E)) (hc:c=true) (hn:n<E.n-> ¬D n) (hk:ZV D φ e h ρ o.op)
 (hH:HR D φ (only (aa h) E.rd) w):fE P D φ (only (aa h) E.rd) w n E ((execOp ρ o).run P w):=by
 cases hop:o.op<;>rw [hop] at hs hk<;>simp only [cN] at hs<;>simp only [ZV,Op.operands] at hk
 case move x=>
  obtain ⟨y,hy,hs⟩:=aR hs;obtain ⟨x',hx,rfl⟩:=bK.1 hy;simp only [execOp,hop];exact KC hs (hk x (by simp) x' hx) hH
 case assign x=>
  obtain ⟨y,hy,hs⟩:=aR hs;obtain ⟨x',hx,rfl⟩:=bK.1 hy;simp only [execOp,hop];exact KC hs (hk x (by simp) x' hx) hH
 case pick a b d=>
  obtain ⟨y,hy,hs⟩:=aR hs;simp only [av,bK] at hy;obtain ⟨a',ha,b',hb,d',hd,rfl⟩:=hy;simp only [execOp,hop];exact Lv hs (hk a (by simp) a' ha) (hk b (by simp) b' hb) (hk d (by simp) d' hd) hH
 case alloc t=>
  obtain ⟨y,hy,hs⟩:=aR hs;obtain ⟨z,hz,rfl⟩:=bK.1 hy;simp only [execOp,hop];exact Qi hs (Ea hz) hn hH
 case box t x=>
  obtain ⟨y,hy,hs⟩:=aR hs;obtain ⟨x',hx,rfl⟩:=bK.1 hy;simp only [execOp,hop];exact OA hs hc (hk x (by simp) x' hx) hn hH
 case build t ps=>
  have hk': ∀q∈ps.toList,∀x,cO q.2=some x->gD D φ e h x (ρ q.2):=λq hq x hx=>hk q.2 (by simp;exact ⟨q.1,by simpa using hq⟩) x hx
  split at hs
  ·rename_i fs hu;obtain ⟨y,hy,hs⟩:=aR hs;simp only [av] at hy;obtain ⟨z,hz,hy⟩:=hy;split at hy
   ·rename_i hall;obtain ⟨l,hl,rfl⟩:=bK.1 hy;simp only [execOp,hop];exact Ec hs hu hz hall hl hk' hH
   ·cases hy
  ·rename_i m el hu;obtain ⟨y,hy,hs⟩:=aR hs;simp only [av,bK] at hy;obtain ⟨z,hz,s,hsz,l,hl,rfl⟩:=hy;simp only [execOp,hop];exact Ez hs hu hz hsz hl hk' hH
  ·exact (bY hs).elim
 case buildSlice t len ps=>
  have hk': ∀q∈ps.toList,∀x,cO q.2=some x->gD D φ e h x (ρ q.2):=λq hq x hx=>hk q.2 (by simp;exact ⟨q.1,by simpa using hq⟩) x hx
  split at hs
  ·rename_i el hu;obtain ⟨y,hy,hs⟩:=aR hs;simp only [av] at hy;obtain ⟨z,hz,s,hsz,hy⟩:=hy;split at hy
   ·rename_i hcond;obtain ⟨l,hl,rfl⟩:=bK.1 hy;simp only [execOp,hop];exact PA hs hu hz hsz hcond.1 hcond.2 hl hk' hn hH
   ·cases hy
  ·exact (bY hs).elim
 case load t a=>
  obtain ⟨y,hy,hs⟩:=aR hs;simp only [av,bK] at hy;obtain ⟨g,hg,z,hz,a',ha,rfl⟩:=hy;simp only [execOp,hop];exact Zd hs hc hg hz (hk a (by simp) a' ha) hH
 case store t a x=>
  obtain ⟨y,hy,hs⟩:=aR hs;simp only [av,bK] at hy;obtain ⟨z,hz,a',ha,x',hx,rfl⟩:=hy;simp only [execOp,hop];exact VQ hs hc hz (hk a (by simp) a' ha) (hk x (by simp) x' hx) hH
 case nilCheck x=>
  obtain ⟨y,hy,hs⟩:=aR hs;obtain ⟨x',hx,rfl⟩:=bK.1 hy;exact Sx hs (hk x (by simp) x' hx) hH hop rfl
 case binOp op t x y _=>
  split at hs
  ·obtain ⟨q,hq,hs⟩:=aR hs;simp only [av,bK] at hq;obtain ⟨x',hx,y',hy,rfl⟩:=hq;simp only [execOp,hop];exact Gy hs hc (hk x (by simp) x' hx) (hk y (by simp) y' hy) hH
  ·obtain ⟨q,hq,hs⟩:=aR hs;simp only [av,bK] at hq;obtain ⟨x',hx,y',hy,rfl⟩:=hq;simp only [execOp,hop];exact Gy hs hc (hk x (by simp) x' hx) (hk y (by simp) y' hy) hH
  ·rename_i m hmi;have hb: ∀(v':Nat),y= .const .nilIface->ρ y= .nilIface:=λv' hy=>by
    have h1:=hk y (by simp) (.c .ni) (by rw [hy];rfl) .ni rfl
    generalize ρ y=u0 at h1;cases h1;rfl
   split at hs
   ·obtain ⟨q,hq,hs⟩:=aR hs;obtain ⟨x',hx,rfl⟩:=bK.1 hq;simp only [execOp,hop];exact GL (neg:=false) hs hmi (hb 0 rfl) (hk x (by simp) x' hx) hH
   ·obtain ⟨q,hq,hs⟩:=aR hs;obtain ⟨x',hx,rfl⟩:=bK.1 hq;simp only [execOp,hop];exact GL (neg:=true) hs hmi (hb 0 rfl) (hk x (by simp) x' hx) hH
   ·exact (bY hs).elim
  ·rename_i hni hns _;split at hs
   ·rename_i k hnil;split at hs
    ·obtain ⟨q,hq,hs⟩:=aR hs;simp only [av,bK] at hq;obtain ⟨x',hx,y',hy,rfl⟩:=hq;simp only [execOp,hop];exact GZ (neg:=false) hs hnil (hk x (by simp) x' hx) (hk y (by simp) y' hy) hH
    ·obtain ⟨q,hq,hs⟩:=aR hs;simp only [av,bK] at hq;obtain ⟨x',hx,y',hy,rfl⟩:=hq;simp only [execOp,hop];exact GZ (neg:=true) hs hnil (hk x (by simp) x' hx) (hk y (by simp) y' hy) hH
    ·exact (bY hs).elim
   ·split at hs
    ·rename_i hgd;split at hs
     ·obtain ⟨q,hq,hs⟩:=aR hs;simp only [av,bK] at hq;obtain ⟨ks,hks,g,hg,x',hx,y',hy,rfl⟩:=hq;simp only [execOp,hop];exact FT (neg:=false) hs hks hg hgd ⟨λk hk=>hni k hk,hns⟩ (hk x (by simp) x' hx) (hk y (by simp) y' hy) hH
     ·obtain ⟨q,hq,hs⟩:=aR hs;simp only [av,bK] at hq;obtain ⟨ks,hks,g,hg,x',hx,y',hy,rfl⟩:=hq;simp only [execOp,hop];exact FT (neg:=true) hs hks hg hgd ⟨λk hk=>hni k hk,hns⟩ (hk x (by simp) x' hx) (hk y (by simp) y' hy) hH
     ·exact (bY hs).elim
    ·exact (bY hs).elim
 case unOp op t x=>
  split at hs
  ·obtain ⟨y,hy,hs⟩:=aR hs;obtain ⟨x',hx,rfl⟩:=bK.1 hy;simp only [execOp,hop];exact MV hs (hk x (by simp) x' hx) hH
  ·obtain ⟨y,hy,hs⟩:=aR hs;obtain ⟨x',hx,rfl⟩:=bK.1 hy;simp only [execOp,hop];exact PZ hs (hk x (by simp) x' hx) hH
  ·exact (bY hs).elim
 case convert s d x=>
  split at hs
  ·rename_i j k h1 h2;obtain ⟨y,hy,hs⟩:=aR hs;obtain ⟨x',hx,rfl⟩:=bK.1 hy;simp only [execOp,hop];exact Rg hs ⟨_,h1⟩ h2 (hk x (by simp) x' hx) hH
  ·rename_i h1 h2;obtain ⟨y,hy,hs⟩:=aR hs;obtain ⟨x',hx,rfl⟩:=bK.1 hy;simp only [execOp,hop];exact Rk hs h1 h2 (hk x (by simp) x' hx) hH
  ·rename_i h1 h2;split at hs
   ·rename_i h3;obtain ⟨y,hy,hs⟩:=aR hs;obtain ⟨x',hx,rfl⟩:=bK.1 hy;simp only [execOp,hop];exact O5 hs h1 h2 h3 hn (hk x (by simp) x' hx) hH
   ·exact (bY hs).elim
  ·rename_i h1 h2;split at hs
   ·rename_i h3;obtain ⟨y,hy,hs⟩:=aR hs;obtain ⟨x',hx,rfl⟩:=bK.1 hy;simp only [execOp,hop];exact NG hs hc h1 h2 h3 (hk x (by simp) x' hx) hH
   ·exact (bY hs).elim
  ·exact (bY hs).elim
 case makeFunc fn first caps=>
  cases fn with
  |func f=>
   simp only at hs;split at hs
   ·rename_i hf0;obtain ⟨y,hy,hs⟩:=aR hs;obtain ⟨l,hl,rfl⟩:=bK.1 hy;simp only [ak,bg,gG] at hf0;have hfe:first= #[]:=Array.eq_empty_of_size_eq_zero hf0.1
    subst hfe;have hfy:f≠YB:=λh=>by have:=hf0.2;rw [h] at this;simp at this
    have:=Nj (P:=P) (w:=w) (ρ:=ρ) hfy hs hl (λy hy x hx=>hk y (by simpa using hy) x hx) hH
    simp only [execOp,hop];have hmap:(caps.toList.map ρ).toArray=caps.map ρ:=by apply Array.ext';simp
    rw [hmap] at this;simpa using this
   ·split at hs
    ·rename_i hf0;obtain ⟨y,hy,hs⟩:=aR hs;obtain ⟨l,hl,rfl⟩:=bK.1 hy;simp only [ak,bg,gG] at hf0;have hfe:caps= #[]:=Array.eq_empty_of_size_eq_zero hf0.1;subst hfe;have hfy:f≠YB:=λh=>by have:=hf0.2;rw [h] at this;simp at this
     have:=Sv (P:=P) (w:=w) (ρ:=ρ) hfy hs hl (λy hy x hx=>hk y (by simpa using hy) x hx) hH
     simp only [execOp,hop];have hmap:(first.toList.map ρ).toArray=first.map ρ:=by apply Array.ext';simp
     rw [hmap] at this;simpa using this
    ·exact (bY hs).elim
  |_=>exact (bY hs).elim
 case slice t x lo hi mx=>
  have hlo: ∀q,lo=some q-> ∀x,cO q=some x->gD D φ e h x (ρ q):=λq hq x hx=>hk q (by simp [hq]) x hx
  have hhi: ∀q,hi=some q-> ∀x,cO q=some x->gD D φ e h x (ρ q):=λq hq x hx=>hk q (by simp [hq]) x hx
  have hm: ∀q,mx=some q-> ∀x,cO q=some x->gD D φ e h x (ρ q):=λq hq x hx=>hk q (by simp [hq]) x hx
  split at hs
  ·exact (bY hs).elim
  rename_i hmm0;have hmh:mx=none\/hi.isSome=true:=by cases mx<;>cases hi<;>simp_all
  have hmh': ∀hi' mx',Dz hi=some hi'->Dz mx=some mx'->mx'=none\/hi'.isSome=true:=λhi' mx' h1 h2=>by
   rcases hmh with rfl|hh
   ·simp [Dz] at h2;exact .inl h2.symm
   ·cases hi with
    |none=>simp at hh
    |some q=>simp only [Dz] at h1;obtain ⟨y,_,rfl⟩:=bK.1 h1;exact .inr rfl
  split at hs
  ·rename_i hu;split at hs
   ·obtain ⟨y,hy,hs⟩:=aR hs;simp only [av,bK] at hy;obtain ⟨x',hx,lo',hl,hi',hh,rfl⟩:=hy;simp only [execOp,hop];exact Sd hs hc hu (hk x (by simp) x' hx) (mh hl hlo) (mh hh hhi) hH
   ·exact (bY hs).elim
  ·rename_i el hu;obtain ⟨y,hy,hs⟩:=aR hs;simp only [av,bK] at hy;obtain ⟨z,hz,x',hx,lo',hl,hi',hh,mx',hmm,rfl⟩:=hy;simp only [execOp,hop];exact M0 hs hc hu hz (hk x (by simp) x' hx) (mh hl hlo) (mh hh hhi) (mh hmm hm) (hmh' _ _ hh hmm) hH
  ·rename_i m el hu;obtain ⟨y,hy,hs⟩:=aR hs;simp only [av,bK] at hy;obtain ⟨z,hz,x',hx,lo',hl,hi',hh,mx',hmm,rfl⟩:=hy;simp only [execOp,hop];exact Nd hs hc hu hz (hk x (by simp) x' hx) (mh hl hlo) (mh hh hhi) (mh hmm hm) (hmh' _ _ hh hmm) hH
  ·exact (bY hs).elim
 case fieldAddr t x f=>
  obtain ⟨y,hy,hs⟩:=aR hs;simp only [av] at hy;obtain ⟨q,hq,hy⟩:=hy;split at hy
  ·cases hy
  ·rename_i hq0;obtain ⟨x',hx,rfl⟩:=bK.1 hy;simp only [execOp,hop];exact UH hs hq hq0 (hk x (by simp) x' hx) hH
 case field t x f=>
  obtain ⟨y,hy,hs⟩:=aR hs;simp only [av,bK] at hy;obtain ⟨q,hq,g,hg,x',hx,rfl⟩:=hy;simp only [execOp,hop];exact OH hs hc hq hg (hk x (by simp) x' hx) hH
 case indexAddr t x i=>
  split at hs
  ·rename_i m el hu;obtain ⟨y,hy,hs⟩:=aR hs;simp only [av,bK] at hy;obtain ⟨z,hz,x',hx,i',hi,rfl⟩:=hy;simp only [execOp,hop];exact Ml hs hc hu hz (hk x (by simp) x' hx) (hk i (by simp) i' hi) hH
  ·rename_i el hu;obtain ⟨y,hy,hs⟩:=aR hs;simp only [av,bK] at hy;obtain ⟨z,hz,x',hx,i',hi,rfl⟩:=hy;simp only [execOp,hop];exact Kg hs hc hu hz (hk x (by simp) x' hx) (hk i (by simp) i' hi) hH
  ·exact (bY hs).elim
 case index t x i=>
  split at hs
  ·rename_i m el hu;obtain ⟨y,hy,hs⟩:=aR hs;simp only [av,bK] at hy;obtain ⟨z,hz,g,hg,x',hx,i',hi,rfl⟩:=hy;simp only [execOp,hop];exact SU hs hc hu hz hg (hk x (by simp) x' hx) (hk i (by simp) i' hi) hH
  ·rename_i hu;obtain ⟨y,hy,hs⟩:=aR hs;simp only [av,bK] at hy;obtain ⟨x',hx,i',hi,rfl⟩:=hy;simp only [execOp,hop];exact O8 hs hc hu (hk x (by simp) x' hx) (hk i (by simp) i' hi) hH
  ·exact (bY hs).elim
 case extract x i=>
  obtain ⟨y,hy,hs⟩:=aR hs;obtain ⟨x',hx,rfl⟩:=bK.1 hy;simp only [execOp,hop];exact Ro hs (hk x (by simp) x' hx) hH
 case makeInterface t x=>
  split at hs
  ·exact (bY hs).elim
  ·rename_i d hd hu;obtain ⟨y,hy,hs⟩:=aR hs;obtain ⟨x',hx,rfl⟩:=bK.1 hy;simp only [execOp,hop];exact O7 hs hu (λm hm=>hd m hm) (hk x (by simp) x' hx) hH
  ·exact (bY hs).elim
 case typeAssert x xt t ok=>
  split at hs
  ·exact (bY hs).elim
  ·rename_i d hd hu;obtain ⟨y,hy,hs⟩:=aR hs;simp only [av,bK] at hy;obtain ⟨i,hi,z,hz,zz,hzz,x',hx,rfl⟩:=hy;simp only [execOp,hop];exact R7 hs hu (λm hm=>hd m hm) hi hz hzz (hk x (by simp) x' hx) hH
  ·exact (bY hs).elim
 case panic x=>
  obtain ⟨y,hy,hs⟩:=aR hs;obtain ⟨x',hx,rfl⟩:=bK.1 hy;simp [step] at hs
 case defer cl=>
  split at hs
  ·obtain ⟨y,hy,hs⟩:=aR hs;simp only [av,bK] at hy;obtain ⟨f',_,l,_,rfl⟩:=hy;simp [step] at hs
  ·exact (bY hs).elim
 case makeMap t r=>
  split at hs
  ·exact (bY hs).elim
  ·split at hs
   ·rename_i kt et hu;split at hs
    ·simp only [execOp,hop,Option.map_none];exact By hs rfl hn hH
    ·simp only [execOp,hop,Option.map_none];exact By hs rfl hn hH
    ·simp only [execOp,hop,Option.map_none];exact By hs rfl hn hH
    ·exact (bY hs).elim
   ·exact (bY hs).elim
 case lookup t x k ok=>
  split at hs
  ·rename_i kt et hu;obtain ⟨y,hy,hs⟩:=aR hs;simp only [av,bK] at hy;obtain ⟨kd,hkd,i,hi,z,hz,zz,hzz,m',hm,k',hkk,rfl⟩:=hy;simp only [execOp,hop];exact Qh hs hu hkd hi hz hzz (hk x (by simp) m' hm) (hk k (by simp) k' hkk) hH
  ·exact (bY hs).elim
 case mapUpdate t m k x=>
  split at hs
  ·rename_i kt et hu;obtain ⟨y,hy,hs⟩:=aR hs;simp only [av,bK] at hy;obtain ⟨kd,hkd,m',hm,k',hkk,x',hx,rfl⟩:=hy;simp only [execOp,hop];exact GP hs hc hu hkd (hk m (by simp) m' hm) (hk k (by simp) k' hkk) (hk x (by simp) x' hx) hH
  ·exact (bY hs).elim
 case insert t m k x=>
  split at hs
  ·rename_i kt et hu;obtain ⟨y,hy,hs⟩:=aR hs;simp only [av,bK] at hy;obtain ⟨kd,hkd,m',hm,k',hkk,x',hx,rfl⟩:=hy;simp only [execOp,hop];exact GP hs hc hu hkd (hk m (by simp) m' hm) (hk k (by simp) k' hkk) (hk x (by simp) x' hx) hH
  ·exact (bY hs).elim
 case makeSlice t l cc=>
  split at hs
  ·rename_i el hu;obtain ⟨y,hy,hs⟩:=aR hs;simp only [av] at hy;obtain ⟨i,hi,z,hz,hy⟩:=hy;split at hy
   ·rename_i hzl;simp only [av,bK] at hy;obtain ⟨l',hl,c',hcc,rfl⟩:=hy;simp only [execOp,hop];exact Rq (z:=0) (bytes:=0) hs hc hu hi hz hzl (hk l (by simp) l' hl) (hk cc (by simp) c' hcc) hn hH
   ·cases hy
  ·exact (bY hs).elim
 case call cl=>
  split at hs
  ·rename_i f hcal;obtain ⟨y,hy,hs⟩:=aR hs;simp only [av,bK] at hy;obtain ⟨f',_,l,_,rfl⟩:=hy;simp [step] at hs
  ·rename_i b hcal;obtain ⟨callee,args,argTypes⟩:=cl;simp only at hcal;subst hcal;obtain ⟨argl⟩:=args;obtain ⟨tyl⟩:=argTypes;simp only [Call.operands] at hk;simp only at hs;have hkl: ∀y∈argl,∀x,cO y=some x->gD D φ e h x (ρ y):=λy hy=>hk y (by simpa using hy)
   have hbt: ∀(s:Sem Value),(execOp ρ o).run P w=(do let d <-resolve ρ {callee:= .builtin b,args:=⟨argl⟩,argTypes:=⟨tyl⟩} o.type;invoke d.target d.args:Sem Next).run P w:=λs=>by simp only [execOp,hop]
   rw [hbt (pure undef)];simp only [resolve,Sem.run_bind,Sem.run_pure,Result.andThen_ok,invoke];split at hs
   ·rename_i x t;simp only [builtin];have harg:(Array.map ρ ⟨[x]⟩)= #[ρ x]:=by simp
    have htl:(⟨[t]⟩:Array TypeId)= #[t]:=rfl;rw [harg,htl];split at hs
    ·rename_i hu;obtain ⟨y,hy,hs⟩:=aR hs;obtain ⟨x',hx,rfl⟩:=bK.1 hy;exact Ll hs hu (hkl x (by simp) x' hx) hH
    ·rename_i el hu;obtain ⟨y,hy,hs⟩:=aR hs;obtain ⟨x',hx,rfl⟩:=bK.1 hy;exact IT hs hu (hkl x (by simp) x' hx) hH
    ·rename_i kt et hu;obtain ⟨y,hy,hs⟩:=aR hs;obtain ⟨x',hx,rfl⟩:=bK.1 hy;exact IC hs hu (hkl x (by simp) x' hx) hH
    ·rename_i m el hu;exact CK hs (.inl ⟨_,hu⟩) hH
    ·rename_i a hu;split at hs
     ·rename_i m el ha;exact CK hs (.inr ⟨_,_,hu,ha⟩) hH
     ·exact (bY hs).elim
    ·exact (bY hs).elim
   ·rename_i x t;simp only [builtin];have harg:(Array.map ρ ⟨[x]⟩)= #[ρ x]:=by simp
    have htl:(⟨[t]⟩:Array TypeId)= #[t]:=rfl;rw [harg,htl];split at hs
    ·rename_i el hu;obtain ⟨y,hy,hs⟩:=aR hs;obtain ⟨x',hx,rfl⟩:=bK.1 hy;exact KW hs hu (hkl x (by simp) x' hx) hH
    ·exact (bY hs).elim
   ·rename_i x xs;obtain ⟨y,hy,hs⟩:=aR hs;simp only [av,bK] at hy;obtain ⟨x',hx,l,hl,rfl⟩:=hy;simp only [builtin];have harg:(Array.map ρ ⟨x::xs⟩)=(ρ x::xs.map ρ).toArray:=by simp
    rw [harg];exact X5 hs hl (hkl x (by simp) x' hx) (λy hy=>hkl y (by simp [hy])) hH
   ·rename_i x xs;obtain ⟨y,hy,hs⟩:=aR hs;simp only [av,bK] at hy;obtain ⟨x',hx,l,hl,rfl⟩:=hy;simp only [builtin];have harg:(Array.map ρ ⟨x::xs⟩)=(ρ x::xs.map ρ).toArray:=by simp
    rw [harg];exact XT hs hl (hkl x (by simp) x' hx) (λy hy=>hkl y (by simp [hy])) hH
   ·rename_i s x t u;simp only [builtin];have harg:(Array.map ρ ⟨[s,x]⟩)= #[ρ s,ρ x]:=by simp
    have htl:(⟨[t,u]⟩:Array TypeId)= #[t,u]:=rfl;rw [harg,htl];split at hs
    ·rename_i el kn hu hu2;obtain ⟨y,hy,hs⟩:=aR hs;simp only [av] at hy;obtain ⟨i,hi,z,hz,hy⟩:=hy;split at hy
     ·rename_i hzl;simp only [av,bK] at hy;obtain ⟨s',hs',x',hx,rfl⟩:=hy;exact Q4 hs hc hu hu2 hi hz hzl.1 hzl.2.1 hzl.2.2 (hkl s (by simp) s' hs') (hkl x (by simp) x' hx) hn hH
     ·cases hy
    ·rename_i el d hu hu2 hnint;obtain ⟨y,hy,hs⟩:=aR hs;simp only [av] at hy;obtain ⟨i,hi,z,hz,hy⟩:=hy;split at hy
     ·rename_i hzl;simp only [av,bK] at hy;obtain ⟨s',hs',x',hx,rfl⟩:=hy;exact PM hs hc hu2 hnint (λk hk=>by subst hk;simp_all) hi hz hzl.1 hzl.2 (hkl s (by simp) s' hs') (hkl x (by simp) x' hx) hn hH
     ·cases hy
    ·exact (bY hs).elim
   ·rename_i dd s t tl;simp only [builtin];have harg:(Array.map ρ ⟨[dd,s]⟩)= #[ρ dd,ρ s]:=by simp
    rw [harg];split at hs
    ·rename_i el hu;obtain ⟨y,hy,hs⟩:=aR hs;simp only [av,bK] at hy;obtain ⟨z,hz,d',hd,s',hs',rfl⟩:=hy;exact O9 hs hc (by simp) hu hz (hkl dd (by simp) d' hd) (hkl s (by simp) s' hs') hH
    ·exact (bY hs).elim
   ·rename_i m k t tl;simp only [builtin];have harg:(Array.map ρ ⟨[m,k]⟩)= #[ρ m,ρ k]:=by simp
    rw [harg];split at hs
    ·rename_i kt et hu;obtain ⟨y,hy,hs⟩:=aR hs;simp only [av,bK] at hy;obtain ⟨kd,hkd,m',hm,k',hkk,rfl⟩:=hy;exact Sy hs (by simp) hu hkd (hkl m (by simp) m' hm) (hkl k (by simp) k' hkk) hH
    ·exact (bY hs).elim
   ·simp [step] at hs
   ·rename_i x t;simp only [builtin];have harg:(Array.map ρ ⟨[x]⟩)= #[ρ x]:=by simp
    have htl:(⟨[t]⟩:Array TypeId)= #[t]:=rfl;rw [harg,htl];split at hs
    ·rename_i el hu;obtain ⟨y,hy,hs⟩:=aR hs;simp only [av,bK] at hy;obtain ⟨zs,hzs,z,hz,x',hx,rfl⟩:=hy;exact Nb hs hc hu hz hzs (hkl x (by simp) x' hx) hH
    ·exact (bY hs).elim
   ·exact (bY hs).elim
  ·exact (bY hs).elim
 all_goals exact (bY hs).elim
end
end Go.Ab
