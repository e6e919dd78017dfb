/- Texts laid as one: AbStep3 AbStep4 AbStep5 AbStep6 AbStepP AbMapS AbMapT AbMapU AbStep7. -/
import Derived.Test.YthnmkedknannhaaX1
import Derived.Lib.AppendZerosOnto
import Derived.MapKept
set_option maxRecDepth 100000
set_option maxHeartbeats 4000000
set_option linter.unusedSimpArgs false
set_option linter.unusedVariables false
namespace Go.Ab
section
variable {P:Program} {D:Nat->Prop} {φ:Phi} {w:World} {n:Nat} {e:Env} {h:Hp} {E:Eff} {ρ:Operand->Value}
theorem snd_mkf {f:FuncId} {caps:List Opd} {us:List Operand} {c:Bool} (hfy:f≠YB) (hs:step (.mkf f caps) e h n=some (c,E)) (hc:cOs us=some caps) (hk: ∀y∈us,∀x,cO y=some x->OK1 D φ e h x (ρ y)) (hH:HR D φ (only (hget h) E.rd) w):
 Sim P D φ (only (hget h) E.rd) w n E ((do pure (Next.value (<-Instr.makeFunc (.func f) #[] (us.map ρ).toArray)):Sem Next).run P w):=by
 simp only [step,Option.bind_eq_some_iff] at hs;obtain ⟨v,hv,hs⟩:=hs;exact snd_pure hs hH (by simp [Instr.makeFunc]) (VRel.fn' hfy (evs_rel hc hv hk))
theorem snd_mkm {f:FuncId} {caps:List Opd} {us:List Operand} {c:Bool} (hfy:f≠YB) (hs:step (.mkm f caps) e h n=some (c,E)) (hc:cOs us=some caps) (hk: ∀y∈us,∀x,cO y=some x->OK1 D φ e h x (ρ y)) (hH:HR D φ (only (hget h) E.rd) w):
 Sim P D φ (only (hget h) E.rd) w n E ((do pure (Next.value (<-Instr.makeFunc (.func f) (us.map ρ).toArray #[])):Sem Next).run P w):=by
 simp only [step,Option.bind_eq_some_iff] at hs;obtain ⟨v,hv,hs⟩:=hs;exact snd_pure hs hH (by simp [Instr.makeFunc]) (VRel.bm' hfy (evs_rel hc hv hk))
theorem asJ_rel {v:AV} {u:Value} {i:Int} (h:asJ v=some i) (hv:VRel D φ v u): ∃k,u= .int k i:=by
 unfold asJ at h;split at h<;>cases h;cases hv;exact ⟨_,rfl⟩
theorem asI_rel {v:AV} {u:Value} {i:Int} (h:asI v=some i) (hv:VRel D φ v u):u= .int .i64 i:=by
 unfold asI at h;split at h<;>cases h;cases hv;rfl
def OKo (D:Nat->Prop) (φ:Phi) (e:Env) (h:Hp) (x:Option Opd) (u:Option Value):Prop:=
 match x,u with
 |none,none=>True
 |some x,some u=>OK1 D φ e h x u
 |_,_=>False
def Bd (i:Option Int) (u:Option Value):Prop:=
 match i,u with
 |none,none=>True
 |some i,some u=> ∃k,u= .int k i
 |_,_=>False
theorem obind_rel {α:Type} {x:Option Opd} {u:Option Value} {k:Option Int->Option α} {r:α} (hb:obind e h x k=some r) (hx:OKo D φ e h x u): ∃i,Bd i u/\k i=some r:=by
 cases x with
 |none=>cases u with
  |none=>exact ⟨none,trivial,hb⟩
  |some u=>exact hx.elim
 |some x=>cases u with
  |none=>exact hx.elim
  |some u=>
   simp only [obind,Option.bind_eq_some_iff] at hb;obtain ⟨v,hv,i,hi,hb⟩:=hb;obtain ⟨k',rfl⟩:=asJ_rel hi (hx v hv);exact ⟨some i,⟨k',rfl⟩,hb⟩
theorem run_sliceBound {k:IntKind} {i:Int} {y:Nat} {code:BoundsCode} (h:0<=i/\i<=y):(Instr.sliceBound (.int k i) y code).run P w= .ok i.toNat w:=by
 simp [Instr.sliceBound,asIntOf,h]
theorem run_sliceBounds {b:Bool} {len cap:Nat} {lo hi mx:Option Int} {ulo uhi umx:Option Value} (h:(sbound len cap lo hi mx).1=true) (hl:Bd lo ulo) (hh:Bd hi uhi) (hm:Bd mx umx) (hmh:mx=none\/ ∃v,hi=some v):
 (Instr.sliceBounds b len cap ulo uhi umx).run P w= .ok ((sbound len cap lo hi mx).2.1,(sbound len cap lo hi mx).2.2.1,(sbound len cap lo hi mx).2.2.2) w:=by
 simp only [sbound,decide_eq_true_eq] at h ⊢;cases mx with
 |none=>
  cases umx with
  |some u=>exact hm.elim
  |none=>
   simp only [Option.getD_none] at h ⊢;cases hi with
   |none=>cases uhi with
    |some u=>exact hh.elim
    |none=>
     cases lo with
     |none=>cases ulo with
      |some u=>exact hl.elim
      |none=>simp [Instr.sliceBounds]
     |some l=>cases ulo with
      |none=>exact hl.elim
      |some u=>
       obtain ⟨k,rfl⟩:=hl;simp only [Option.getD_none,Option.getD_some] at h ⊢;simp [Instr.sliceBounds,run_sliceBound (P:=P) (w:=w) (k:=k) (i:=l) (y:=len) (code:= .sliceB) ⟨h.1,by omega⟩]
   |some i=>cases uhi with
    |none=>exact hh.elim
    |some u=>
     obtain ⟨k,rfl⟩:=hh;simp only [Option.getD_some] at h ⊢;have h1: ∀code,(Instr.sliceBound (.int k i) cap code).run P w= .ok i.toNat w:=fun code=>run_sliceBound ⟨by omega,by omega⟩
     cases lo with
     |none=>cases ulo with
      |some u=>exact hl.elim
      |none=>simp [Instr.sliceBounds,h1]
     |some l=>cases ulo with
      |none=>exact hl.elim
      |some u=>
       obtain ⟨k',rfl⟩:=hl;simp only [Option.getD_some] at h ⊢;have h2: ∀code,(Instr.sliceBound (.int k' l) i.toNat code).run P w= .ok l.toNat w:=fun code=>run_sliceBound ⟨by omega,by omega⟩
       simp [Instr.sliceBounds,h1,h2]
 |some m=>
  cases umx with
  |none=>exact hm.elim
  |some u=>
   obtain ⟨k0,rfl⟩:=hm;obtain ⟨i,rfl⟩:=hmh.resolve_left (by simp)
   cases uhi with
   |none=>exact hh.elim
   |some u=>
    obtain ⟨k,rfl⟩:=hh;simp only [Option.getD_some] at h ⊢;have h0: ∀code,(Instr.sliceBound (.int k0 m) cap code).run P w= .ok m.toNat w:=fun code=>run_sliceBound ⟨by omega,by omega⟩
    have h1: ∀code,(Instr.sliceBound (.int k i) m.toNat code).run P w= .ok i.toNat w:=fun code=>run_sliceBound ⟨by omega,by omega⟩
    cases lo with
    |none=>cases ulo with
     |some u=>exact hl.elim
     |none=>simp [Instr.sliceBounds,h0,h1]
    |some l=>cases ulo with
     |none=>exact hl.elim
     |some u=>
      obtain ⟨k',rfl⟩:=hl;simp only [Option.getD_some] at h ⊢;have h2: ∀code,(Instr.sliceBound (.int k' l) i.toNat code).run P w= .ok l.toNat w:=fun code=>run_sliceBound ⟨by omega,by omega⟩
      simp [Instr.sliceBounds,h0,h1,h2]
theorem extract_mk (l:List UInt8) (a b:Nat):(ByteArray.mk l.toArray).extract a b=ByteArray.mk ((l.take b).drop a).toArray:=by
 apply ByteArray.ext;simp [ByteArray.data_extract,List.drop_take]
theorem snd_slS {x:Opd} {lo hi:Option Opd} {u:Value} {ulo uhi:Option Value} {t:TypeId} {c:Bool} (hs:step (.slS x lo hi) e h n=some (c,E)) (hc:c=true) (ht:P.underlying t=some .string) (hx:OK1 D φ e h x u) (hlo:OKo D φ e h lo ulo) (hhi:OKo D φ e h hi uhi)
 (hH:HR D φ (only (hget h) E.rd) w):Sim P D φ (only (hget h) E.rd) w n E ((do pure (Next.value (<-Instr.sliceAt t u ulo uhi none)):Sem Next).run P w):=by
 simp only [step,Option.bind_eq_some_iff] at hs;obtain ⟨v,hv,hs⟩:=hs;have hr:=hx v hv;split at hs
 ·rename_i l;cases hr;obtain ⟨lo',hl,hs⟩:=obind_rel hs hlo;obtain ⟨hi',hh,hs⟩:=obind_rel hs hhi;simp only [Option.some.injEq,Prod.mk.injEq] at hs;obtain ⟨h1,rfl⟩:=hs;have hb:=run_sliceBounds (P:=P) (w:=w) (b:=false) (ulo:=ulo) (uhi:=uhi) (umx:=none) (h1.trans hc) hl hh trivial (.inl rfl);refine snd_pure' (rd:=[]) rfl hH ?_ (.s _);rw [run_v];simp only [Instr.sliceAt,Sem.run_bind,run_underlying ht,Result.andThen_ok,Instr.slice,Option.isSome_none,Bool.false_eq_true,if_false,size_mk,hb,Sem.run_pure,extract_mk]
 ·cases hs
theorem sbound_le {len cap:Nat} {lo hi mx:Option Int} (h:(sbound len cap lo hi mx).1=true):
 (sbound len cap lo hi mx).2.1<=(sbound len cap lo hi mx).2.2.1/\(sbound len cap lo hi mx).2.2.1<=(sbound len cap lo hi mx).2.2.2/\(sbound len cap lo hi mx).2.2.2<=cap:=by
 simp only [sbound,decide_eq_true_eq] at h ⊢;omega
theorem snd_slV {z:Nat} {x:Opd} {lo hi mx:Option Opd} {u:Value} {ulo uhi umx:Option Value} {t el:TypeId} {c:Bool} (hs:step (.slV z x lo hi mx) e h n=some (c,E)) (hc:c=true) (ht:P.underlying t=some (.slice el)) (hz:tySz P el=some z)
 (hx:OK1 D φ e h x u) (hlo:OKo D φ e h lo ulo) (hhi:OKo D φ e h hi uhi) (hmx:OKo D φ e h mx umx) (hmh:mx=none\/hi.isSome=true)
 (hH:HR D φ (only (hget h) E.rd) w):Sim P D φ (only (hget h) E.rd) w n E ((do pure (Next.value (<-Instr.sliceAt t u ulo uhi umx)):Sem Next).run P w):=by
 simp only [step,Option.bind_eq_some_iff] at hs;obtain ⟨v,hv,hs⟩:=hs;have hr:=hx v hv;have hmh': ∀hi' mx',Bd hi' uhi->Bd mx' umx->mx'=none\/ ∃v,hi'=some v:=fun hi' mx' h1 h2=>by
  rcases hmh with rfl|h3
  ·cases umx with
   |none=>cases mx' with
    |none=>exact .inl rfl
    |some _=>exact h2.elim
   |some _=>exact hmx.elim
  ·cases hi with
   |none=>simp at h3
   |some _=>cases uhi with
    |none=>exact hhi.elim
    |some _=>cases hi' with
     |none=>exact h1.elim
     |some q=>exact .inr ⟨q,rfl⟩
 split at hs
 ·cases hr;obtain ⟨lo',hl,hs⟩:=obind_rel hs hlo;obtain ⟨hi',hh,hs⟩:=obind_rel hs hhi;obtain ⟨mx',hm,hs⟩:=obind_rel hs hmx;simp only [Option.some.injEq,Prod.mk.injEq] at hs;obtain ⟨h1,rfl⟩:=hs;have hb:=run_sliceBounds (P:=P) (w:=w) (b:=true) (h1.trans hc) hl hh hm (hmh' _ _ hh hm);have hle:=sbound_le (h1.trans hc);refine snd_pure' (rd:=[]) rfl hH ?_ .ns;rw [run_v];simp only [Instr.sliceAt,Sem.run_bind,run_underlying ht,Result.andThen_ok,Instr.slice,hb,run_sizeOf hz,Sem.run_pure,Option.map_none,ite_self];rw [show (sbound 0 0 lo' hi' mx').2.2.1-(sbound 0 0 lo' hi' mx').2.1=0 by omega,show (sbound 0 0 lo' hi' mx').2.2.2-(sbound 0 0 lo' hi' mx').2.1=0 by omega]
 ·rename_i b o len cap;cases hr with
  |sl _ _ _ _ hD=>
  obtain ⟨lo',hl,hs⟩:=obind_rel hs hlo;obtain ⟨hi',hh,hs⟩:=obind_rel hs hhi;obtain ⟨mx',hm,hs⟩:=obind_rel hs hmx;simp only [Option.some.injEq,Prod.mk.injEq] at hs;obtain ⟨h1,rfl⟩:=hs;have hb:=run_sliceBounds (P:=P) (w:=w) (b:=true) (h1.trans hc) hl hh hm (hmh' _ _ hh hm);refine snd_pure' (rd:=[]) rfl hH ?_ (.sl _ _ _ _ hD);rw [run_v];simp only [Instr.sliceAt,Sem.run_bind,run_underlying ht,Result.andThen_ok,Instr.slice,hb,run_sizeOf hz,Sem.run_pure,Option.map_some,Addr.add_eq];split
  ·rfl
  ·simp only [Nat.add_assoc]
 ·rename_i b o len;cases hr with
  |sg _ _ _ j cap hD hj hcap hlen=>
  split at hs
  ·cases hs
  ·simp only [Option.bind_eq_some_iff] at hs;obtain ⟨k,hk,hs⟩:=hs;obtain ⟨lo',hl,hs⟩:=obind_rel hs hlo;obtain ⟨hi',hh,hs⟩:=obind_rel hs hhi;cases umx with
   |some _=>exact hmx.elim
   |none=>
   split at hs
   ·rename_i z' hgr;split at hs;rotate_left
    ·rename_i hge;simp only [Option.some.injEq,Prod.mk.injEq] at hs;obtain ⟨h1,rfl⟩:=hs;rw [hc] at h1;simp only [Bool.and_eq_true] at h1;obtain ⟨h1,h3⟩:=h1;have h2:=of_decide_eq_false hge;have hle:=sbound_le h1;have h1':(sbound len cap lo' hi' none).1=true:=by simp only [sbound,decide_eq_true_eq] at h1 ⊢;simp only [Option.getD_none] at h1 ⊢;omega
     have hb:=run_sliceBounds (P:=P) (w:=w) (b:=true) h1' hl hh (mx:=none) (umx:=none) trivial (.inl rfl);have e1:(sbound len cap lo' hi' none).2.1=(sbound len len lo' hi' none).2.1:=rfl;have e2:(sbound len cap lo' hi' none).2.2.1=(sbound len len lo' hi' none).2.2.1:=rfl;have e3:(sbound len cap lo' hi' none).2.2.2=cap:=by simp [sbound]
     have e4:(sbound len len lo' hi' none).2.2.2=len:=by simp [sbound]
     rw [e1,e2,e3] at hb;rw [e4] at hle;generalize (sbound len len lo' hi' none).2.1=l at*;generalize (sbound len len lo' hi' none).2.2.1=hh' at*;have hz0:hh'-l=0:=by omega
     refine snd_pure' rfl hH ?_ (VRel.en (if cap=l then ⟨φ.blk b,φ.off b+o,none⟩ else (⟨φ.blk b,φ.off b+o,none⟩:Addr).add (l*z)) (cap-l))
     rw [run_v];simp only [Instr.sliceAt,Sem.run_bind,run_underlying ht,Result.andThen_ok,Instr.slice,hb,run_sizeOf hz,Sem.run_pure,Option.map_some,hz0];by_cases hcl:cap=l
     ·rw [if_pos hcl,if_pos hcl]
     ·rw [if_neg hcl,if_neg hcl]
    rename_i hge;have h2:=of_decide_eq_true hge;simp only [Option.some.injEq,Prod.mk.injEq] at hs;obtain ⟨h1,rfl⟩:=hs;rw [hc] at h1;simp only [Bool.and_eq_true] at h1;obtain ⟨h1,h3⟩:=h1;have h3:=Nat.eq_of_beq_eq_true h3;subst h3;obtain ⟨hk,hmp⟩:=hgc_some hk;have hkk:only (hget h) [b] b=some k:=by rw [only_get (by simp [inl])];exact hk
    obtain ⟨_,⟨⟨cs,elem,fr,_,_,_,h4⟩,_⟩⟩:=hH.at_ b k hkk;obtain ⟨_,h5,_⟩:=h4 z hgr;have hle:=sbound_le h1;have h1':(sbound len cap lo' hi' none).1=true:=by simp only [sbound,decide_eq_true_eq] at h1 ⊢;simp only [Option.getD_none] at h1 ⊢;omega
    have hb:=run_sliceBounds (P:=P) (w:=w) (b:=true) h1' hl hh (mx:=none) (umx:=none) trivial (.inl rfl);have e1:(sbound len cap lo' hi' none).2.1=(sbound len len lo' hi' none).2.1:=rfl;have e2:(sbound len cap lo' hi' none).2.2.1=(sbound len len lo' hi' none).2.2.1:=rfl;have e3:(sbound len cap lo' hi' none).2.2.2=cap:=by simp [sbound]
    rw [e1,e2,e3] at hb;generalize (sbound len len lo' hi' none).2.1=l at*;generalize (sbound len len lo' hi' none).2.2.1=hh' at*;have hv2:VRel D φ (.sg b (o+l*z) (hh'-l)) (.slice (some ⟨φ.blk b,φ.off b+(o+l*z),none⟩) (hh'-l) (cap-l)):=
     .sg b (o+l*z) (hh'-l) (j+l) (cap-l) hD (by rw [h5,Nat.add_mul,<-hj,h5]) (by omega) (by omega)
    refine snd_pure' rfl hH ?_ hv2;rw [run_v];simp only [Instr.sliceAt,Sem.run_bind,run_underlying ht,Result.andThen_ok,Instr.slice,hb,run_sizeOf hz,Sem.run_pure,Option.map_some,Addr.add_eq];split
    ·rename_i hcl;have:l=0:=by omega
     subst this;simp
    ·simp only [Nat.add_assoc]
   ·cases hs
 ·rename_i l len;obtain ⟨lo',hl,hs⟩:=obind_rel hs hlo;obtain ⟨hi',hh,hs⟩:=obind_rel hs hhi;obtain ⟨mx',hm,hs⟩:=obind_rel hs hmx;simp only [Option.some.injEq,Prod.mk.injEq] at hs;obtain ⟨h1,rfl⟩:=hs;have h1:=h1.trans hc;have key: ∀cap,len<=cap-> ∃M,(Instr.sliceBounds true len cap ulo uhi umx).run P w= .ok ((sbound len len lo' hi' mx').2.1,(sbound len len lo' hi' mx').2.2.1,M) w∧
   (sbound len len lo' hi' mx').2.2.2<=M/\(mx'.isSome=true->M=(sbound len len lo' hi' mx').2.2.2)/\M<=cap:=fun cap hcap=>by
   have h1':(sbound len cap lo' hi' mx').1=true:=by
    simp only [sbound,decide_eq_true_eq] at h1 ⊢;cases mx'<;>simp only [Option.getD_none,Option.getD_some] at h1 ⊢ <;>omega
   refine ⟨_,run_sliceBounds (P:=P) (w:=w) (b:=true) h1' hl hh hm (hmh' _ _ hh hm),?_,fun hs=> ?_,?_⟩
   ·cases mx'<;>simp [sbound,hcap]
   ·cases mx'
    ·simp at hs
    ·simp [sbound]
   ·simp only [sbound,decide_eq_true_eq] at h1';cases mx'<;>simp only [sbound,Option.getD_none,Option.getD_some] at h1' ⊢ <;>omega
  have hle:=sbound_le h1;generalize (sbound len len lo' hi' mx').2.1=l1 at*;generalize (sbound len len lo' hi' mx').2.2.1=l2 at*;generalize (sbound len len lo' hi' mx').2.2.2=l3 at*;have run: ∀x cap,len<=cap->u= .slice x len cap-> ∃M,l3<=M/\(mx'.isSome=true->M=l3)/\M<=cap/\((do pure (Next.value (<-Instr.sliceAt t u ulo uhi umx)):Sem Next).run P w)= .ok (.value (.slice (if M=l1 then x else x.map (·.add (l1*z))) (l2-l1) (M-l1))) w:=fun x cap hcap hu=>by
   obtain ⟨M,hb,hM,hM',hMc⟩:=key cap hcap;refine ⟨M,hM,hM',hMc,?_⟩;subst hu;rw [run_v];simp only [Instr.sliceAt,Sem.run_bind,run_underlying ht,Result.andThen_ok,Instr.slice,hb,run_sizeOf hz,Sem.run_pure]
  cases hr with
  |fz _ _ B o cap vs hB hcap hsz hv=>
   obtain ⟨M,hM,hM',hMc,hrun⟩:=run _ cap hcap rfl;refine snd_pure' (rd:=[]) rfl hH hrun ?_;split
   ·rename_i hz0;have:=hM' hz0.1;rw [show l2-l1=0 by omega,show M-l1=0 by omega]
    exact .ze _
   ·by_cases hMl:M=l1
    ·rw [show l2-l1=0 by omega];exact .fz0 _ _ _ (fun h=>by rw [if_pos hMl] at h;cases h)
    ·rw [if_neg hMl];simp only [Option.map_some,Addr.add_eq];refine .fz _ _ B (o+l1*z) _ vs hB (by omega) (fun i hi=> ?_) (fun i a u ha hu=> ?_)
     ·simp at hi;have:=hsz (l1*z+i) (by omega);omega
     ·rw [List.getElem?_drop] at ha;exact hv (l1*z+i) a u ha (by rw [<-hu];congr 1;omega)
  |fz0 _ x cap hc0=>
   obtain ⟨M,hM,hM',hMc,hrun⟩:=run x cap (Nat.zero_le _) rfl;refine snd_pure' (rd:=[]) rfl hH hrun ?_;split
   ·rename_i hz0;have:=hM' hz0.1;rw [show l2-l1=0 by omega,show M-l1=0 by omega]
    exact .ze _
   ·rw [show l2-l1=0 by omega];exact .fz0 _ _ _ (fun h=>by
     have:x=none:=by
      split at h
      ·exact h
      ·simpa using h
     have:=hc0 this;omega)
 ·cases hr with
  |ze x=>
  obtain ⟨lo',hl,hs⟩:=obind_rel hs hlo;obtain ⟨hi',hh,hs⟩:=obind_rel hs hhi;obtain ⟨mx',hm,hs⟩:=obind_rel hs hmx;simp only [Option.some.injEq,Prod.mk.injEq] at hs;obtain ⟨h1,rfl⟩:=hs;have hb:=run_sliceBounds (P:=P) (w:=w) (b:=true) (h1.trans hc) hl hh hm (hmh' _ _ hh hm);have hle:=sbound_le (h1.trans hc);refine snd_pure' (rd:=[]) (u:= .slice (if (sbound 0 0 lo' hi' mx').2.2.2=(sbound 0 0 lo' hi' mx').2.1 then x else x.map (·.add ((sbound 0 0 lo' hi' mx').2.1*z))) 0 0) rfl hH ?_ (.ze _)
  rw [run_v];simp only [Instr.sliceAt,Sem.run_bind,run_underlying ht,Result.andThen_ok,Instr.slice,hb,run_sizeOf hz,Sem.run_pure];rw [show (sbound 0 0 lo' hi' mx').2.2.1-(sbound 0 0 lo' hi' mx').2.1=0 by omega,show (sbound 0 0 lo' hi' mx').2.2.2-(sbound 0 0 lo' hi' mx').2.1=0 by omega]
 ·cases hs
theorem snd_slA {m z:Nat} {x:Opd} {lo hi mx:Option Opd} {u:Value} {ulo uhi umx:Option Value} {t el:TypeId} {c:Bool} (hs:step (.slA m z x lo hi mx) e h n=some (c,E)) (hc:c=true) (ht:P.underlying t=some (.array m el)) (hz:tySz P el=some z)
 (hx:OK1 D φ e h x u) (hlo:OKo D φ e h lo ulo) (hhi:OKo D φ e h hi uhi) (hmx:OKo D φ e h mx umx) (hmh:mx=none\/hi.isSome=true)
 (hH:HR D φ (only (hget h) E.rd) w):Sim P D φ (only (hget h) E.rd) w n E ((do pure (Next.value (<-Instr.sliceAt t u ulo uhi umx)):Sem Next).run P w):=by
 simp only [step,Option.bind_eq_some_iff] at hs;obtain ⟨v,hv,hs⟩:=hs;have hr:=hx v hv;have hmh': ∀hi' mx',Bd hi' uhi->Bd mx' umx->mx'=none\/ ∃v,hi'=some v:=fun hi' mx' h1 h2=>by
  rcases hmh with rfl|h3
  ·cases umx with
   |none=>cases mx' with
    |none=>exact .inl rfl
    |some _=>exact h2.elim
   |some _=>exact hmx.elim
  ·cases hi with
   |none=>simp at h3
   |some _=>cases uhi with
    |none=>exact hhi.elim
    |some _=>cases hi' with
     |none=>exact h1.elim
     |some q=>exact .inr ⟨q,rfl⟩
 split at hs
 ·rename_i b o;cases hr with
  |p _ _ hD=>
  obtain ⟨lo',hl,hs⟩:=obind_rel hs hlo;obtain ⟨hi',hh,hs⟩:=obind_rel hs hhi;obtain ⟨mx',hm,hs⟩:=obind_rel hs hmx;simp only [Option.some.injEq,Prod.mk.injEq] at hs;obtain ⟨h1,rfl⟩:=hs;have hb:=run_sliceBounds (P:=P) (w:=w) (b:=false) (h1.trans hc) hl hh hm (hmh' _ _ hh hm);refine snd_pure' (rd:=[]) rfl hH ?_ (.sl _ _ _ _ hD);rw [run_v];simp only [Instr.sliceAt,Instr.sureAddr,Sem.run_bind,run_underlying ht,Result.andThen_ok,hb,run_sizeOf hz,Sem.run_pure,Addr.add_eq];split
  ·rfl
  ·simp only [Nat.add_assoc]
 ·cases hs
theorem tyField_inv {t:TypeId} {f:Nat} {q:Nat×Nat×TypeId} (h:tyField P t f=some q): ∃fs fl,P.underlying t=some (.struct fs)/\fs[f]? =some fl/\fl.offset=q.1/\tySz P fl.type=some q.2.1/\fl.type=q.2.2:=by
 unfold tyField at h;split at h
 ·rename_i fs hu;simp only [Option.bind_eq_some_iff] at h;obtain ⟨fl,hfl,h⟩:=h;obtain ⟨z,hz,rfl⟩:=Option.map_eq_some_iff.1 h;exact ⟨fs,fl,hu,hfl,rfl,hz,rfl⟩
 ·cases h
theorem snd_fa {x:Opd} {u:Value} {t:TypeId} {f:Nat} {q:Nat×Nat×TypeId} {c:Bool} (hs:step (.fa q.1 x) e h n=some (c,E)) (hq:tyField P t f=some q) (hq0:q.2.1≠0) (hx:OK1 D φ e h x u) (hH:HR D φ (only (hget h) E.rd) w):
 Sim P D φ (only (hget h) E.rd) w n E ((do pure (Next.value (<-Instr.fieldAt t u f)):Sem Next).run P w):=by
 obtain ⟨fs,fl,h1,h2,h3,h4,h5⟩:=tyField_inv hq;simp only [step,Option.bind_eq_some_iff] at hs;obtain ⟨v,hv,hs⟩:=hs;have hr:=hx v hv;split at hs
 ·rename_i b o;cases hr with
  |p _ _ hD=>
  refine snd_pure hs hH ?_ (.p _ _ hD);rw [run_v];simp only [Instr.fieldAt,Sem.run_bind,run_underlying h1,Result.andThen_ok,h2,Instr.sureAddr,Sem.run_pure,fieldPlace,run_sizeOf h4,hq0,if_false,Addr.add_eq,h3,Nat.add_assoc]
 ·rename_i l o;cases hr with
  |fp _ _ B o' vs hB hsz hv=>
  refine snd_pure hs hH ?_ (.fp _ _ B o' vs hB hsz hv);rw [run_v];simp only [Instr.fieldAt,Sem.run_bind,run_underlying h1,Result.andThen_ok,h2,Instr.sureAddr,Sem.run_pure,fieldPlace,run_sizeOf h4,hq0,if_false,Addr.add_eq,h3,Nat.add_assoc]
 ·cases hs
theorem run_part_of {t:TypeId} {cs:List Value} {l:List AV} {off z:Nat} (hl:All2 D φ l cs) {g:Bool} (hg:tyAgg P t=some g) (hz:tySz P t=some z) (hle:g=true->off+z<=l.length) {v:AV} (hv:(if g then some (.agg (cellsAt l off z)) else l[off]?)=some v):
 ∃u,(part t cs.toArray off).run P w= .ok u w/\VRel D φ v u:=by
 cases g
 ·simp only [Bool.false_eq_true,if_false] at hv;obtain ⟨u,hu,hr⟩:=hl.get hv;refine ⟨u,?_,hr⟩;simp only [part,Sem.run_bind,run_isAgg hg,Result.andThen_ok,Bool.false_eq_true,if_false,List.getElem?_toArray,hu,Sem.run_pure]
 ·simp only [if_true,Option.some.injEq] at hv;subst hv;refine ⟨.agg ((cs.drop off).take z).toArray,?_,VRel.agg' ((hl.drop off).take z)⟩;simp only [part,Sem.run_bind,run_isAgg hg,Result.andThen_ok,if_true,run_sizeOf hz,Sem.run_pure];congr 2;apply Array.ext';simp [List.take_drop]
theorem snd_fld {x:Opd} {u:Value} {t:TypeId} {f:Nat} {q:Nat×Nat×TypeId} {g:Bool} {c:Bool} (hs:step (.fld g q.2.1 q.1 x) e h n=some (c,E)) (hc:c=true) (hq:tyField P t f=some q) (hg:tyAgg P q.2.2=some g) (hx:OK1 D φ e h x u) (hH:HR D φ (only (hget h) E.rd) w):
 Sim P D φ (only (hget h) E.rd) w n E ((do pure (Next.value (<-Instr.field t u f)):Sem Next).run P w):=by
 obtain ⟨fs,fl,h1,h2,h3,h4,h5⟩:=tyField_inv hq;simp only [step,Option.bind_eq_some_iff] at hs;obtain ⟨v,hv,hs⟩:=hs;have hr:=hx v hv;split at hs
 ·rename_i l;obtain ⟨us,rfl,hl⟩:=hr.agg_inv;rw [<-h5] at hg;have hrun: ∀u w',(part fl.type us.toArray q.1).run P w= .ok u w'->(do pure (Next.value (<-Instr.field t (.agg us.toArray) f)):Sem Next).run P w= .ok (.value u) w':=fun u w' hp=>by
   rw [run_v];simp only [Instr.field,Sem.run_bind,run_underlying h1,Result.andThen_ok,h2,asAgg,Sem.run_pure,h3];rw [hp];rfl
  cases g
  ·simp only [Option.bind_eq_some_iff] at hs;obtain ⟨v,hv,hs⟩:=hs;obtain ⟨y,hy,hyr⟩:=run_part_of (P:=P) (w:=w) hl hg h4 (by simp) (v:=v) (by simpa using hv)
   exact snd_pure hs hH (hrun _ _ hy) hyr
  ·simp only [Option.some.injEq,Prod.mk.injEq] at hs;obtain ⟨h6,rfl⟩:=hs;rw [hc] at h6;obtain ⟨y,hy,hyr⟩:=run_part_of (P:=P) (w:=w) hl hg h4 (fun _=>of_decide_eq_true h6) (v:= .agg (cellsAt l q.1 q.2.1)) (by simp)
   exact snd_pure' (rd:=[]) rfl hH (hrun _ _ hy) hyr
 ·cases hs
theorem slParts_rel {v:AV} {u:Value} {q:Nat×Nat×Nat} (h:slParts v=some q) (hv:VRel D φ v u): ∃cap,u= .slice (some ⟨φ.blk q.1,φ.off q.1+q.2.1,none⟩) q.2.2 cap/\D q.1:=by
 unfold slParts at h;split at h<;>cases h<;>cases hv<;>exact ⟨_,rfl,by assumption⟩
theorem snd_ixaA {m z:Nat} {x i:Opd} {u ui:Value} {t el:TypeId} {c:Bool} (hs:step (.ixaA m z x i) e h n=some (c,E)) (hc:c=true) (ht:P.underlying t=some (.array m el)) (hz:tySz P el=some z) (hx:OK1 D φ e h x u) (hi:OK1 D φ e h i ui) (hH:HR D φ (only (hget h) E.rd) w):
 Sim P D φ (only (hget h) E.rd) w n E ((do pure (Next.value (<-Instr.indexAt t u ui)):Sem Next).run P w):=by
 simp only [step,Option.bind_eq_some_iff] at hs;obtain ⟨v,hv,vi,hvi,j,hj,hs⟩:=hs;have hr:=hx v hv;obtain ⟨k,rfl⟩:=asJ_rel hj (hi vi hvi);split at hs
 ·rename_i b o;cases hr with
  |p _ _ hD=>
  simp only [Option.some.injEq,Prod.mk.injEq] at hs;obtain ⟨h1,rfl⟩:=hs;rw [hc] at h1;have h1:=of_decide_eq_true h1;refine snd_pure' (rd:=[]) rfl hH ?_ (.p _ _ hD);rw [run_v];simp only [Instr.indexAt,asIntOf,Sem.run_bind,Sem.run_pure,run_underlying ht,Result.andThen_ok,Instr.sureAddr];rw [if_pos h1];simp only [Sem.run_bind,run_sizeOf hz,Result.andThen_ok,Sem.run_pure,Addr.add_eq,Nat.add_assoc]
 ·rename_i l o;cases hr with
  |fp _ _ B o' vs hB hsz hv=>
  simp only [Option.some.injEq,Prod.mk.injEq] at hs;obtain ⟨h1,rfl⟩:=hs;rw [hc] at h1;have h1:=of_decide_eq_true h1;refine snd_pure' (rd:=[]) rfl hH ?_ (.fp _ _ B o' vs hB hsz hv);rw [run_v];simp only [Instr.indexAt,asIntOf,Sem.run_bind,Sem.run_pure,run_underlying ht,Result.andThen_ok,Instr.sureAddr];rw [if_pos h1];simp only [Sem.run_bind,run_sizeOf hz,Result.andThen_ok,Sem.run_pure,Addr.add_eq,Nat.add_assoc]
 ·cases hs
theorem snd_ixaV {z:Nat} {x i:Opd} {u ui:Value} {t el:TypeId} {c:Bool} (hs:step (.ixaV z x i) e h n=some (c,E)) (hc:c=true) (ht:P.underlying t=some (.slice el)) (hz:tySz P el=some z) (hx:OK1 D φ e h x u) (hi:OK1 D φ e h i ui) (hH:HR D φ (only (hget h) E.rd) w):
 Sim P D φ (only (hget h) E.rd) w n E ((do pure (Next.value (<-Instr.indexAt t u ui)):Sem Next).run P w):=by
 simp only [step,Option.bind_eq_some_iff] at hs;obtain ⟨v,hv,vi,hvi,j,hj,hs⟩:=hs;obtain ⟨k,rfl⟩:=asJ_rel hj (hi vi hvi);have hr:=hx v hv;split at hs
 ·rename_i l len;simp only [Option.some.injEq,Prod.mk.injEq] at hs;obtain ⟨h1,rfl⟩:=hs;rw [hc] at h1;have h1:=of_decide_eq_true h1;cases hr with
  |fz0 _ _ _ _=>omega
  |fz _ _ B o' cap vs hB hcap hsz hv=>
  refine snd_pure' (rd:=[]) rfl hH ?_ (.fp _ _ B o' vs hB hsz hv);rw [run_v];simp only [Instr.indexAt,asIntOf,Sem.run_bind,Sem.run_pure,run_underlying ht,Result.andThen_ok,Instr.sureAddr];rw [if_pos h1];simp only [Sem.run_bind,run_sizeOf hz,Result.andThen_ok,Sem.run_pure,Addr.add_eq,Nat.add_assoc]
 simp only [Option.bind_eq_some_iff] at hs;obtain ⟨q,hq,hs⟩:=hs;obtain ⟨cap,rfl,hD⟩:=slParts_rel hq hr;simp only [Option.some.injEq,Prod.mk.injEq] at hs;obtain ⟨h1,rfl⟩:=hs;rw [hc] at h1;have h1:=of_decide_eq_true h1;refine snd_pure' (rd:=[]) rfl hH ?_ (.p _ _ hD);rw [run_v];simp only [Instr.indexAt,asIntOf,Sem.run_bind,Sem.run_pure,run_underlying ht,Result.andThen_ok,Instr.sureAddr];rw [if_pos h1];simp only [Sem.run_bind,run_sizeOf hz,Result.andThen_ok,Sem.run_pure,Addr.add_eq,Nat.add_assoc]
theorem snd_ixA {m z:Nat} {g:Bool} {x i:Opd} {u ui:Value} {t el:TypeId} {c:Bool} (hs:step (.ixA m z g x i) e h n=some (c,E)) (hc:c=true) (ht:P.underlying t=some (.array m el)) (hz:tySz P el=some z) (hg:tyAgg P el=some g) (hx:OK1 D φ e h x u) (hi:OK1 D φ e h i ui) (hH:HR D φ (only (hget h) E.rd) w):
 Sim P D φ (only (hget h) E.rd) w n E ((do pure (Next.value (<-Instr.index t u ui)):Sem Next).run P w):=by
 simp only [step,Option.bind_eq_some_iff] at hs;obtain ⟨v,hv,vi,hvi,j,hj,hs⟩:=hs;have hr:=hx v hv;obtain ⟨k,rfl⟩:=asJ_rel hj (hi vi hvi);split at hs
 ·rename_i l;obtain ⟨us,rfl,hl⟩:=hr.agg_inv;have hrun:0<=j/\j<m-> ∀u w',(part el us.toArray (j.toNat*z)).run P w= .ok u w'->(do pure (Next.value (<-Instr.index t (.agg us.toArray) (.int k j))):Sem Next).run P w= .ok (.value u) w':=fun hjm u w' hp=>by
   rw [run_v];simp only [Instr.index,asIntOf,Sem.run_bind,Sem.run_pure,run_underlying ht,Result.andThen_ok];rw [if_pos hjm];simp only [Sem.run_bind,run_sizeOf hz,Result.andThen_ok];rw [hp];rfl
  cases g
  ·simp only [Option.bind_eq_some_iff,Option.some.injEq,Prod.mk.injEq] at hs;obtain ⟨v,hv,h1,rfl⟩:=hs;rw [hc] at h1;obtain ⟨y,hy,hyr⟩:=run_part_of (P:=P) (w:=w) hl hg hz (by simp) (v:=v) (by simpa using hv)
   exact snd_pure' (rd:=[]) rfl hH (hrun (of_decide_eq_true h1) _ _ hy) hyr
  ·simp only [Option.some.injEq,Prod.mk.injEq] at hs;obtain ⟨h6,rfl⟩:=hs;rw [hc,Bool.and_eq_true] at h6;obtain ⟨y,hy,hyr⟩:=run_part_of (P:=P) (w:=w) hl hg hz (fun _=>of_decide_eq_true h6.2) (v:= .agg (cellsAt l (j.toNat*z) z)) (by simp)
   exact snd_pure' (rd:=[]) rfl hH (hrun (of_decide_eq_true h6.1) _ _ hy) hyr
 ·cases hs
theorem snd_ixS {x i:Opd} {u ui:Value} {t:TypeId} {c:Bool} (hs:step (.ixS x i) e h n=some (c,E)) (hc:c=true) (ht:P.underlying t=some .string) (hx:OK1 D φ e h x u) (hi:OK1 D φ e h i ui) (hH:HR D φ (only (hget h) E.rd) w):
 Sim P D φ (only (hget h) E.rd) w n E ((do pure (Next.value (<-Instr.index t u ui)):Sem Next).run P w):=by
 simp only [step,Option.bind_eq_some_iff] at hs;obtain ⟨v,hv,vi,hvi,j,hj,hs⟩:=hs;have hr:=hx v hv;obtain ⟨k,rfl⟩:=asJ_rel hj (hi vi hvi);split at hs
 ·rename_i l;cases hr;simp only [Option.some.injEq,Prod.mk.injEq] at hs;obtain ⟨h1,rfl⟩:=hs;rw [hc] at h1;have h1:=of_decide_eq_true h1;refine snd_pure' (rd:=[]) rfl hH ?_ (.i _ _);rw [run_v];simp only [Instr.index,asIntOf,Sem.run_bind,Sem.run_pure,run_underlying ht,Result.andThen_ok];have hlt:j.toNat<l.length:=by omega
  have hb:((if 0<=j then (ByteArray.mk l.toArray)[j.toNat]? else none):Option UInt8)=some l[j.toNat]:=by
   rw [if_pos h1.1];have:j.toNat<(ByteArray.mk l.toArray).size:=by rw [size_mk];exact hlt
   rw [getElem?_pos (ByteArray.mk l.toArray) j.toNat this];rfl
  rw [hb];simp [hlt]
 ·cases hs
theorem snd_ext {x:Opd} {u:Value} {i:Nat} {c:Bool} (hs:step (.ext x i) e h n=some (c,E)) (hx:OK1 D φ e h x u) (hH:HR D φ (only (hget h) E.rd) w):
 Sim P D φ (only (hget h) E.rd) w n E ((do pure (Next.value (<-Instr.extract u i)):Sem Next).run P w):=by
 simp only [step,Option.bind_eq_some_iff] at hs;obtain ⟨v,hv,hs⟩:=hs;have hr:=hx v hv;split at hs
 ·rename_i l;obtain ⟨us,rfl,hl⟩:=hr.tup_inv;simp only [Option.bind_eq_some_iff] at hs;obtain ⟨v,hv,hs⟩:=hs;obtain ⟨y,hy,hyr⟩:=hl.get hv;exact snd_pure hs hH (by simp [Instr.extract,hy]) hyr
 ·cases hs
end
end Go.Ab
namespace Go.Ab
section
variable {P:Program} {D:Nat->Prop} {φ:Phi} {w:World} {n:Nat} {e:Env} {h:Hp} {E:Eff} {ρ:Operand->Value}
theorem snd_lenS {x:Opd} {u:Value} {t tt:TypeId} {c:Bool} (hs:step (.lenS x) e h n=some (c,E)) (ht:P.underlying t=some .string) (hx:OK1 D φ e h x u) (hH:HR D φ (only (hget h) E.rd) w):
 Sim P D φ (only (hget h) E.rd) w n E ((do pure (Next.value (<-Builtin.len_ #[t] tt #[u])):Sem Next).run P w):=by
 simp only [step,Option.bind_eq_some_iff] at hs;obtain ⟨v,hv,hs⟩:=hs;have hr:=hx v hv;split at hs
 ·cases hr;refine snd_pure hs hH ?_ (.i _ _);rw [run_v];simp [Builtin.len_,run_underlying ht,size_mk,goInt]
 ·cases hs
theorem snd_lenV {x:Opd} {u:Value} {t tt el:TypeId} {c:Bool} (hs:step (.lenV x) e h n=some (c,E)) (ht:P.underlying t=some (.slice el)) (hx:OK1 D φ e h x u) (hH:HR D φ (only (hget h) E.rd) w):
 Sim P D φ (only (hget h) E.rd) w n E ((do pure (Next.value (<-Builtin.len_ #[t] tt #[u])):Sem Next).run P w):=by
 simp only [step,Option.bind_eq_some_iff] at hs;obtain ⟨v,hv,hs⟩:=hs;have hr:=hx v hv;split at hs
 ·cases hr;refine snd_pure hs hH ?_ (.i _ _);rw [run_v];simp [Builtin.len_,run_underlying ht,goInt]
 ·refine snd_pure hs hH ?_ (.i _ _);rw [run_v];cases hr<;>simp [Builtin.len_,run_underlying ht,goInt]
 ·refine snd_pure hs hH ?_ (.i _ _);rw [run_v];cases hr<;>simp [Builtin.len_,run_underlying ht,goInt]
 ·refine snd_pure hs hH ?_ (.i _ _);rw [run_v];cases hr<;>simp [Builtin.len_,run_underlying ht,goInt]
 ·simp only [Option.bind_eq_some_iff] at hs;obtain ⟨q,hq,hs⟩:=hs;obtain ⟨cap,rfl,_⟩:=slParts_rel hq hr;refine snd_pure hs hH ?_ (.i _ _);rw [run_v];simp [Builtin.len_,run_underlying ht,goInt]
theorem snd_lenC {m:Nat} {u:Value} {t tt:TypeId} {c:Bool} (hs:step (.lenC m) e h n=some (c,E)) (ht:(∃el,P.underlying t=some (.array m el))\/ ∃a el,P.underlying t=some (.pointer a)/\P.underlying a=some (.array m el)) (hH:HR D φ (only (hget h) E.rd) w):
 Sim P D φ (only (hget h) E.rd) w n E ((do pure (Next.value (<-Builtin.len_ #[t] tt #[u])):Sem Next).run P w):=by
 refine snd_pure hs hH ?_ (.i _ _);rw [run_v];rcases ht with ⟨el,ht⟩|⟨a,el,ht,ha⟩
 ·simp [Builtin.len_,run_underlying ht,goInt]
 ·simp [Builtin.len_,run_underlying ht,run_underlying ha,goInt]
theorem snd_capV {x:Opd} {u:Value} {t tt el:TypeId} {c:Bool} (hs:step (.capV x) e h n=some (c,E)) (ht:P.underlying t=some (.slice el)) (hx:OK1 D φ e h x u) (hH:HR D φ (only (hget h) E.rd) w):
 Sim P D φ (only (hget h) E.rd) w n E ((do pure (Next.value (<-Builtin.cap_ #[t] tt #[u])):Sem Next).run P w):=by
 simp only [step,Option.bind_eq_some_iff] at hs;obtain ⟨v,hv,hs⟩:=hs;have hr:=hx v hv;split at hs
 ·cases hr;refine snd_pure hs hH ?_ (.i _ _);rw [run_v];simp [Builtin.cap_,run_underlying ht,goInt]
 ·cases hr;refine snd_pure hs hH ?_ (.i _ _);rw [run_v];simp [Builtin.cap_,run_underlying ht,goInt]
 ·refine snd_pure hs hH ?_ (.i _ _);rw [run_v];cases hr<;>simp [Builtin.cap_,run_underlying ht,goInt]
 ·cases hs
theorem minI_rel {k:IntKind}: ∀{l:List AV} {us:List Value} {a m:Int},minI k a l=some m->All2 D φ l us->(us.foldlM Builtin.min2 (.int k a)).run P w= .ok (.int k m) w
 |[],us,a,m,hm,hl=>by rw [hl.unnil];simp [minI] at hm;subst hm;simp
 |v::l,us,a,m,hm,hl=>by
  obtain ⟨u,us',rfl,hv,hl'⟩:=hl.uncons;unfold minI at hm;split at hm
  ·contradiction
  ·rename_i k' y r heq;cases heq;split at hm
   ·rename_i e;subst e;cases hv;simp only [List.foldlM_cons,Sem.run_bind,Builtin.min2,Sem.run_pure,Result.andThen_ok];exact minI_rel hm hl'
   ·cases hm
  ·cases hm
theorem maxI_rel {k:IntKind}: ∀{l:List AV} {us:List Value} {a m:Int},maxI k a l=some m->All2 D φ l us->(us.foldlM Builtin.max2 (.int k a)).run P w= .ok (.int k m) w
 |[],us,a,m,hm,hl=>by rw [hl.unnil];simp [maxI] at hm;subst hm;simp
 |v::l,us,a,m,hm,hl=>by
  obtain ⟨u,us',rfl,hv,hl'⟩:=hl.uncons;unfold maxI at hm;split at hm
  ·contradiction
  ·rename_i k' y r heq;cases heq;split at hm
   ·rename_i e;subst e;cases hv;simp only [List.foldlM_cons,Sem.run_bind,Builtin.max2,Sem.run_pure,Result.andThen_ok];exact maxI_rel hm hl'
   ·cases hm
  ·cases hm
theorem asK_rel {v:AV} {u:Value} {q:IntKind×Int} (h:asK v=some q) (hv:VRel D φ v u):u= .int q.1 q.2:=by
 unfold asK at h;split at h<;>cases h;cases hv;rfl
theorem snd_mn {x:Opd} {xs:List Opd} {u:Value} {ys:List Operand} {ats:Array TypeId} {tt:TypeId} {c:Bool} (hs:step (.mn x xs) e h n=some (c,E)) (hc:cOs ys=some xs) (hx:OK1 D φ e h x u) (hk: ∀y∈ys,∀x,cO y=some x->OK1 D φ e h x (ρ y)) (hH:HR D φ (only (hget h) E.rd) w):
 Sim P D φ (only (hget h) E.rd) w n E ((do pure (Next.value (<-Builtin.min_ ats tt (u::ys.map ρ).toArray)):Sem Next).run P w):=by
 simp only [step,Option.bind_eq_some_iff] at hs;obtain ⟨v,hv,q,hq,l,hl,m,hm,hs⟩:=hs;have:=asK_rel hq (hx v hv);subst this;refine snd_pure hs hH ?_ (.i _ _);rw [run_v];simp only [Builtin.min_];rw [minI_rel hm (evs_rel hc hl hk)];rfl
theorem snd_mx {x:Opd} {xs:List Opd} {u:Value} {ys:List Operand} {ats:Array TypeId} {tt:TypeId} {c:Bool} (hs:step (.mx x xs) e h n=some (c,E)) (hc:cOs ys=some xs) (hx:OK1 D φ e h x u) (hk: ∀y∈ys,∀x,cO y=some x->OK1 D φ e h x (ρ y)) (hH:HR D φ (only (hget h) E.rd) w):
 Sim P D φ (only (hget h) E.rd) w n E ((do pure (Next.value (<-Builtin.max_ ats tt (u::ys.map ρ).toArray)):Sem Next).run P w):=by
 simp only [step,Option.bind_eq_some_iff] at hs;obtain ⟨v,hv,q,hq,l,hl,m,hm,hs⟩:=hs;have:=asK_rel hq (hx v hv);subst this;refine snd_pure hs hH ?_ (.i _ _);rw [run_v];simp only [Builtin.max_];rw [maxI_rel hm (evs_rel hc hl hk)];rfl
theorem src_rel {z:Nat} {x:AV} {u:Value} {r:List Nat×Nat×List AV×Bool} (hs:srcCells h z x=some r) (hr:r.2.2.2=true) {rd:List Nat} (hrd: ∀b,inl r.1 b=true->inl rd b=true)
 (hx:VRel D φ x u) (hH:HR D φ (only (hget h) rd) w):
 (Builtin.lenOf u).run P w= .ok r.2.1 w/\ ∃us:List Value,(Builtin.firstCells z r.2.1 u).run P w= .ok us.toArray w/\All2 D φ r.2.2.1 us/\r.2.2.1.length=r.2.1*z∧
  ∀m,m<=r.2.1->(Builtin.firstCells z m u).run P w= .ok (us.take (m*z)).toArray w:=by
 have row: ∀(b o len cap:Nat) (k:Blk),hgc h b=some k->inl rd b=true->(cellsAt k.cells o (len*z)).length=len*z-> ∃us:List Value,(Builtin.firstCells z len (.slice (some ⟨φ.blk b,φ.off b+o,none⟩) len cap)).run P w= .ok us.toArray w/\All2 D φ (cellsAt k.cells o (len*z)) us∧
  ∀m,m<=len->(Builtin.firstCells z m (.slice (some ⟨φ.blk b,φ.off b+o,none⟩) len cap)).run P w= .ok (us.take (m*z)).toArray w:=fun b o len cap k hk hb hl=>by
  obtain ⟨hk,hmp⟩:=hgc_some hk;have hkk:only (hget h) rd b=some k:=by rw [only_get hb];exact hk
  obtain ⟨us,h1,h2⟩:=HR.row (P:=P) hH hkk hmp hl;refine ⟨us,by simpa [Builtin.firstCells] using h1,h2,fun m hm=> ?_⟩
  have hmz:m*z<=len*z:=Nat.mul_le_mul_right _ hm;have hl':(cellsAt k.cells o (m*z)).length=m*z:=by simp [cellsAt] at hl ⊢;omega
  obtain ⟨us',h3,h4⟩:=HR.row (P:=P) hH hkk hmp hl';simp only [Builtin.firstCells];rw [h3];congr 2
  -- both are the same cells of the world
  obtain ⟨_,⟨⟨cs,elem,fr,g1,_⟩,_⟩⟩:=hH.at_ b k hkk;by_cases h0:len*z=0
  ·have h0':m*z=0:=by omega
   have:us'.length=0:=by rw [<-h4.1,hl'];exact h0'
   rw [List.eq_nil_of_length_eq_zero this,h0'];simp
  ·obtain ⟨_,⟨⟨cs,elem,fr,g1,g2,_⟩,_⟩⟩:=hH.at_ b k hkk;have g1:=g1.cells hmp;have hin: ∀i,i<k.cells.length->φ.off b+i<cs.size:=fun i hi=>by
    obtain ⟨u,hu,_⟩:=g2 i _ (List.getElem?_eq_getElem hi);rcases Nat.lt_or_ge (φ.off b+i) cs.size with h'|h'
    ·exact h'
    ·rw [Array.getElem?_eq_none h'] at hu;cases hu
   have hle:φ.off b+o+len*z<=cs.size:=by
    simp [cellsAt] at hl;have:=hin (o+len*z-1) (by omega);omega
   have e1:=run_loadCells (P:=P) (o:=φ.off b+o) (n:=len*z) g1 hle;have e2:=run_loadCells (P:=P) (o:=φ.off b+o) (n:=m*z) g1 (by omega)
   rw [h1] at e1;rw [h3] at e2;simp only [Result.ok.injEq,and_true] at e1 e2;have e1':us=List.take (len*z) (List.drop (φ.off b+o) cs.toList):=by simpa using congrArg Array.toList e1
   have e2':us'=List.take (m*z) (List.drop (φ.off b+o) cs.toList):=by simpa using congrArg Array.toList e2
   rw [e1',e2',List.take_take,Nat.min_eq_left hmz]
 unfold srcCells at hs;split at hs
 ·cases hs;cases hx;refine ⟨by simp [Builtin.lenOf],[],by simp [Builtin.firstCells],.nil,by simp,fun m hm=>by simp [Builtin.firstCells]⟩
 ·rename_i l;cases hs;cases hx;have hz:z=1:=Nat.eq_of_beq_eq_true hr;subst hz;refine ⟨by simp [Builtin.lenOf,size_mk],l.map (fun b=>Value.int .u8 b.toNat),?_,⟨by simp,fun i a u ha hu=> ?_⟩,by simp,fun m hm=> ?_⟩
  ·simp [Builtin.firstCells,<-size_mk l]
  ·simp only [List.getElem?_map,Option.map_eq_some_iff] at ha hu;obtain ⟨b,hb,rfl⟩:=ha;obtain ⟨b',hb',rfl⟩:=hu;rw [hb] at hb';cases hb';exact .i _ _
  ·simp [Builtin.firstCells,ByteArray.data_extract,List.map_take]
 ·rename_i b o len cap;simp only [Option.bind_eq_some_iff,Option.some.injEq] at hs;obtain ⟨k,hk,rfl⟩:=hs;cases hx;have hl:=of_decide_eq_true hr;obtain ⟨us,h1,h2,h3⟩:=row b o len cap k hk (hrd b (by simp [inl])) hl
  exact ⟨by simp [Builtin.lenOf],us,h1,h2,hl,h3⟩
 ·rename_i b o len;simp only [Option.bind_eq_some_iff,Option.some.injEq] at hs;obtain ⟨k,hk,rfl⟩:=hs;cases hx;have hl:=of_decide_eq_true hr;obtain ⟨us,h1,h2,h3⟩:=row b o len _ k hk (hrd b (by simp [inl])) hl
  exact ⟨by simp [Builtin.lenOf],us,h1,h2,hl,h3⟩
 ·rename_i l len;cases hs;have hl:=of_decide_eq_true hr;cases hx with
  |fz0 _ x cap hc0=>
   refine ⟨by simp [Builtin.lenOf],[],?_,by simp [cellsAt];exact .nil,by simp [cellsAt],fun m hm=> ?_⟩
   ·cases x<;>simp [Builtin.firstCells,loadCells,loadCellsFrom]
   ·have:m=0:=by simpa using hm
    subst this;cases x<;>simp [Builtin.firstCells,loadCells,loadCellsFrom]
  |fz _ _ B o cap vs hB hcap hsz hv=>
   obtain ⟨us,h1,h2⟩:=HR.frow (P:=P) hH hB hsz hv hl;refine ⟨by simp [Builtin.lenOf],us,by simpa [Builtin.firstCells] using h1,h2,hl,fun m hm=> ?_⟩
   have hmz:m*z<=len*z:=Nat.mul_le_mul_right _ hm;obtain ⟨elem,fr,g1⟩:=hH.fz B vs hB;simp only [Builtin.firstCells];by_cases h0:len*z=0
   ·have h0':m*z=0:=by omega
    rw [h0'];simp [loadCells,loadCellsFrom]
   ·have hle:o+len*z<=vs.size:=by
     simp [cellsAt] at hl;have:=hsz (len*z-1) (by omega);omega
    have e1:=run_loadCells (P:=P) (o:=o) (n:=len*z) g1 hle;have e2:=run_loadCells (P:=P) (o:=o) (n:=m*z) g1 (by omega)
    rw [Nat.add_zero] at h1;rw [h1] at e1;simp only [Result.ok.injEq,and_true] at e1;have e1':us=List.take (len*z) (List.drop o vs.toList):=by simpa using congrArg Array.toList e1
    rw [e2,e1',List.take_take,Nat.min_eq_left hmz]
 ·cases hs;cases hx with
  |ze x=>
  refine ⟨by simp [Builtin.lenOf],[],?_,.nil,by simp,fun m hm=> ?_⟩
  ·cases x<;>simp [Builtin.firstCells,loadCells,loadCellsFrom]
  ·have:m=0:=by simpa using hm
   subst this;cases x<;>simp [Builtin.firstCells,loadCells,loadCellsFrom]
 ·cases hs;cases hx with
  |en x cap=>
  refine ⟨by simp [Builtin.lenOf],[],?_,.nil,by simp,fun m hm=> ?_⟩
  ·simp [Builtin.firstCells,loadCells,loadCellsFrom]
  ·have:m=0:=by simpa using hm
   subst this;simp [Builtin.firstCells,loadCells,loadCellsFrom]
 ·cases hs
theorem run_copy {ats:Array TypeId} {t tt el:TypeId} {z m:Nat} {us:Value} {base:Option Addr} {len cap:Nat} {cells:Array Value} (h0:ats[0]? =some t) (ht:P.underlying t=some (.slice el)) (hz:tySz P el=some z)
 (hl:(Builtin.lenOf us).run P w= .ok m w) (hf:(Builtin.firstCells z (Nat.min m len) us).run P w= .ok cells w):
 (Builtin.copy_ ats tt #[.slice base len cap,us]).run P w=((match base with|some a=>storeCells a cells.toList|none=>pure ():Sem Unit).run P w).andThen fun _ w'=> .ok (goInt (Nat.min m len)) w':=by
 have e0:(#[Value.slice base len cap,us]:Array Value)[0]? =some (Value.slice base len cap):=rfl;have e1:(#[Value.slice base len cap,us]:Array Value)[1]? =some us:=rfl;unfold Builtin.copy_;rw [h0,e0,e1];simp only [Sem.run_bind,run_underlying ht,Result.andThen_ok,hl,run_sizeOf hz,hf];cases base<;>simp only [Sem.run_bind,Sem.run_pure,Result.andThen_ok]
theorem only_sub {rd rd':List Nat} {D:Nat->Prop} {φ:Phi} {w:World} {h:Hp}:HR D φ (only (hget h) rd) w->(∀b,inl rd' b=true->inl rd b=true)->HR D φ (only (hget h) rd') w:=fun hh hs=>
 ⟨⟨fun b k hb=>hh.at_ b k (by
    unfold only at hb ⊢;cases hb':inl rd' b
    ·simp [hb'] at hb
    ·rw [hs b hb'];simpa [hb'] using hb),
  fun b1 b2 k1 k2 hne h1 h2 hk=>hh.sep b1 b2 k1 k2 hne (by
   unfold only at h1 ⊢;cases hb':inl rd' b1
   ·simp [hb'] at h1
   ·rw [hs b1 hb'];simpa [hb'] using h1) (by
   unfold only at h2 ⊢;cases hb':inl rd' b2
   ·simp [hb'] at h2
   ·rw [hs b2 hb'];simpa [hb'] using h2) hk⟩,hh.fz,hh.lp,fun b k B vs hb hk hB=>hh.fsep b k B vs (by
   unfold only at hb ⊢;cases hb':inl rd' b
   ·simp [hb'] at hb
   ·rw [hs b hb'];simpa [hb'] using hb) hk hB⟩
theorem oneAll_take: ∀{xs:List AV} (m:Nat),oneAll xs=true->oneAll (xs.take m)=true
 |[],m,h=>by simp [oneAll]
 |x::xs,0,h=>by simp [oneAll]
 |x::xs,m+1,h=>by
  simp only [oneAll,Bool.and_eq_true,List.take_succ_cons] at h ⊢;exact ⟨h.1,oneAll_take m h.2⟩
theorem snd_cpy {z:Nat} {d s:Opd} {ud us:Value} {ats:Array TypeId} {t tt el:TypeId} {c:Bool} (hs:step (.cpy z d s) e h n=some (c,E)) (hc:c=true) (h0:ats[0]? =some t) (ht:P.underlying t=some (.slice el)) (hz:tySz P el=some z)
 (hd:OK1 D φ e h d ud) (hss:OK1 D φ e h s us) (hH:HR D φ (only (hget h) E.rd) w):
 Sim P D φ (only (hget h) E.rd) w n E ((do pure (Next.value (<-Builtin.copy_ ats tt #[ud,us])):Sem Next).run P w):=by
 simp only [step,Option.bind_eq_some_iff] at hs;obtain ⟨vd,hvd,vs,hvs,r,hr,hs⟩:=hs;have hrd:=hd vd hvd;have hrs:=hss vs hvs;split at hs
 ·cases hrd;simp only [Option.some.injEq,Prod.mk.injEq] at hs;obtain ⟨h1,rfl⟩:=hs;obtain ⟨hl,us',hf,hu,hul,hft⟩:=src_rel (P:=P) hr (h1.trans hc) (rd:=r.1) (fun b hb=>hb) hrs hH;refine snd_pure' rfl hH ?_ (.i .i64 0);rw [run_v,run_copy h0 ht hz hl (hft _ (Nat.min_le_left _ _))];simp [goInt]
 ·cases hrd;simp only [Option.some.injEq,Prod.mk.injEq] at hs;obtain ⟨h1,rfl⟩:=hs;obtain ⟨hl,us',hf,hu,hul,hft⟩:=src_rel (P:=P) hr (h1.trans hc) (rd:=r.1) (fun b hb=>hb) hrs hH;refine snd_pure' rfl hH ?_ (.i .i64 0);rw [run_v,run_copy h0 ht hz hl (hft _ (Nat.min_le_left _ _))];simp [goInt,storeCells]
 ·simp only [Option.bind_eq_some_iff] at hs;obtain ⟨q,hq,k,hk,hs⟩:=hs;obtain ⟨cap,rfl,hDq⟩:=slParts_rel hq hrd;split at hs
  ·cases hs
  ·rename_i hro;simp only [Option.some.injEq,Prod.mk.injEq] at hs;obtain ⟨h1,rfl⟩:=hs;rw [hc] at h1;simp only [Bool.and_eq_true,decide_eq_true_eq] at h1;obtain ⟨⟨h1,h2⟩,h3⟩:=h1;have h2:oneAll (r.2.2.1.take (Nat.min r.2.1 q.2.2*z))=true:=by
    rw [Bool.or_eq_true] at h2;exact h2.elim (oneAll_take _) id
   have hi:inl (q.1::r.1) q.1=true:=by simp [inl]
   obtain ⟨hl,us',hf,hu,hul,hft⟩:=src_rel (P:=P) hr h1 (rd:=q.1::r.1) (fun b hb=>by simp [inl,hb]) hrs hH
   have hmm:=Nat.min_le_left r.2.1 q.2.2;obtain ⟨hk,hmp⟩:=hgc_some hk;have hkk:only (hget h) (q.1::r.1) q.1=some k:=by rw [only_get hi];exact hk
   have hmz:Nat.min r.2.1 q.2.2*z<=r.2.1*z:=Nat.mul_le_mul_right _ hmm;obtain ⟨w',cs,cs',elem,fr,g1,g2,g3,g4,g5,g6,g7,g8⟩:=HR.stores (P:=P) hH hkk hmp hro (hu.take (Nat.min r.2.1 q.2.2*z)) h2 (o:=q.2.1) (by simp [hul];omega)
   refine Sim.write (nx:= .value (goInt (Nat.min r.2.1 q.2.2))) ?_ (.inl rfl) (.i _ _) hi hH hkk hro g2 g3 g4 g5 g6 g7 g8;rw [run_v,run_copy h0 ht hz hl (hft _ hmm)];simp only [List.toList_toArray];rw [g1];rfl
theorem snd_clr {z:Nat} {zs:List AV} {x:Opd} {u:Value} {t tt el:TypeId} {c:Bool} (hs:step (.clr z zs x) e h n=some (c,E)) (hc:c=true) (ht:P.underlying t=some (.slice el)) (hz:tySz P el=some z) (hzs:tyZero P el=some zs)
 (hx:OK1 D φ e h x u) (hH:HR D φ (only (hget h) E.rd) w):
 Sim P D φ (only (hget h) E.rd) w n E ((do pure (Next.value (<-Builtin.clear_ #[t] tt #[u])):Sem Next).run P w):=by
 simp only [step,Option.bind_eq_some_iff] at hs;obtain ⟨v,hv,hs⟩:=hs;have hr:=hx v hv;have hund:VRel D φ (.tup []) undef:=VRel.tup [] #[] rfl (fun i a u ha=>by simp at ha)
 split at hs
 ·cases hr;refine snd_pure (u:=undef) hs hH ?_ hund;rw [run_v];simp [Builtin.clear_,run_underlying ht,undef]
 ·simp only [Option.bind_eq_some_iff] at hs;obtain ⟨q,hq,k,hk,hs⟩:=hs;obtain ⟨cap,rfl,hDq⟩:=slParts_rel hq hr;split at hs
  ·cases hs
  ·rename_i hro;simp only [Option.some.injEq,Prod.mk.injEq] at hs;obtain ⟨h1,rfl⟩:=hs;rw [hc] at h1;simp only [Bool.and_eq_true,decide_eq_true_eq] at h1;obtain ⟨⟨h1,h2⟩,h3⟩:=h1;have h2:=Nat.eq_of_beq_eq_true h2;have hi:inl [q.1] q.1=true:=by simp [inl]
   obtain ⟨hk,hmp⟩:=hgc_some hk;have hkk:only (hget h) [q.1] q.1=some k:=by rw [only_get hi];exact hk
   obtain ⟨uz,huz,hzz⟩:=run_zero hzs w;have hzr:=avsOf_rel (D:=D) (φ:=φ) hzz;have hsz:uz.cells.size=z:=by have:=hzr.1;simp at this;omega
   have hrow:=zeros_rel hzr q.2.2;have hone: ∀m,oneAll (zeros zs m)=true:=fun m=>by
    have happ: ∀a b:List AV,oneAll a=true->oneAll b=true->oneAll (a++b)=true:=fun a b ha hb=>by
     induction a with
     |nil=>exact hb
     |cons x a ih=>simp only [List.cons_append,oneAll,Bool.and_eq_true] at ha ⊢;exact ⟨ha.1,ih ha.2⟩
    induction m with
    |zero=>rfl
    |succ m ih=>exact happ _ _ h1 ih
   have hzl: ∀m,(zeros zs m).length=m*z:=fun m=>by
    induction m with
    |zero=>simp [zeros]
    |succ m ih=>simp [zeros,ih,Nat.succ_mul];omega
   obtain ⟨w',cs,cs',elem,fr,g1,g2,g3,g4,g5,g6,g7,g8⟩:=HR.stores (P:=P) hH hkk hmp hro hrow (hone _) (o:=q.2.1) (by rw [hzl];exact h3)
   refine Sim.write (nx:= .value undef) ?_ (.inl rfl) hund hi hH hkk hro g2 g3 g4 g5 g6 g7 g8;rw [run_v];have e0:(#[Value.slice (some ⟨φ.blk q.1,φ.off q.1+q.2.1,none⟩) q.2.2 cap]:Array Value)[0]? =some (Value.slice (some ⟨φ.blk q.1,φ.off q.1+q.2.1,none⟩) q.2.2 cap):=rfl;have e1:(#[t]:Array TypeId)[0]? =some t:=rfl;unfold Builtin.clear_;rw [e0,e1];simp only [Sem.run_bind,run_underlying ht,Result.andThen_ok];by_cases hq0:q.2.2=0
   ·rw [hq0] at g1 ⊢;simp [storeCells] at g1;subst g1;simp [undef]
   ·obtain ⟨m,hm⟩: ∃m,q.2.2=m+1:=⟨q.2.2-1,by omega⟩
    rw [hm] at g1 ⊢;simp only [Sem.run_bind,huz,Result.andThen_ok,Builtin.zeroCells];rw [g1];rfl
theorem bytesOf_rel {f:Value->ByteArray->Sem (ForInStep ByteArray)} (hf: ∀n s,f (.int .u8 n) s=pure (ForInStep.yield (s.push (UInt8.ofNat n.toNat)))):
 ∀{l:List AV} {us:List Value} {m:List UInt8} (s:ByteArray),bytesOf l=some m->All2 D φ l us→
 (forIn us s f:Sem ByteArray).run P w= .ok (ByteArray.mk (s.data++m.toArray)) w
 |[],us,m,s,hm,hl=>by rw [hl.unnil];simp [bytesOf] at hm;subst hm;simp
 |v::l,us,m,s,hm,hl=>by
  obtain ⟨u,us',rfl,hv,hl'⟩:=hl.uncons;unfold bytesOf at hm;split at hm
  ·contradiction
  ·rename_i k r heq;cases heq;cases hv;simp only [Option.bind_eq_some_iff,Option.some.injEq] at hm;obtain ⟨m',hm',rfl⟩:=hm;simp only [List.forIn_cons,Sem.run_bind,hf,Sem.run_pure,Result.andThen_ok];rw [bytesOf_rel hf _ hm' hl'];congr 2;apply Array.ext';simp [ByteArray.push]
  ·cases hm
theorem bytesOf_len {a:List AV} {b:List UInt8} (hh:bytesOf a=some b):a.length=b.length:=by
 induction a generalizing b with
 |nil=>simp [bytesOf] at hh;subst hh;rfl
 |cons v a ih=>
  unfold bytesOf at hh;split at hh
  ·contradiction
  ·rename_i k r heq;cases heq;simp only [Option.bind_eq_some_iff,Option.some.injEq] at hh;obtain ⟨m',hm',rfl⟩:=hh;simp [ih hm']
  ·cases hh
theorem snd_b2s {x:Opd} {u:Value} {s d el:TypeId} {c:Bool} (hs:step (.b2s x) e h n=some (c,E)) (hc:c=true) (h1:P.underlying s=some (.slice el)) (h2:P.underlying d=some .string) (h3:P.underlying el=some (.int .u8))
 (hx:OK1 D φ e h x u) (hH:HR D φ (only (hget h) E.rd) w):
 Sim P D φ (only (hget h) E.rd) w n E ((do pure (Next.value (<-convert s d u)):Sem Next).run P w):=by
 simp only [step,Option.bind_eq_some_iff] at hs;obtain ⟨v,hv,hs⟩:=hs;have hr:=hx v hv;split at hs
 ·cases hr;refine snd_pure hs hH ?_ (.s []);rw [run_v];simp only [convert,Sem.run_bind,run_underlying h1,run_underlying h2,run_underlying h3,Result.andThen_ok,Conv.bytesToString,Sem.run_pure];rfl
 ·rename_i l m;simp only [Option.bind_eq_some_iff,Option.some.injEq,Prod.mk.injEq] at hs;obtain ⟨s',hl,hcc,rfl⟩:=hs;rw [hc] at hcc;have hcc:=of_decide_eq_true hcc;have hlen:=bytesOf_len hl;rw [hcc] at hlen;refine snd_pure' rfl hH ?_ (.s s');rw [run_v];have fin: ∀(a:Addr) (cap:Nat) (us:List Value),(loadCells a m).run P w= .ok us.toArray w->All2 D φ (l.take m) us->Sem.run P (Conv.bytesToString (.slice (some a) m cap)) w= .ok (.string ⟨s'.toArray⟩) w:=fun a cap us g1 g2=>by
   simp only [Conv.bytesToString,Sem.run_bind,g1,Result.andThen_ok];rw [<-Array.forIn_toList];simp only [List.toList_toArray];rw [bytesOf_rel (fun _ _=>rfl) ByteArray.empty hl g2];simp [ByteArray.empty,ByteArray.emptyWithCapacity];rfl
  cases hr with
  |fz _ _ B o cap vs hB hcap hsz hrel=>
   simp only [convert,Sem.run_bind,run_underlying h1,run_underlying h2,run_underlying h3,Result.andThen_ok];obtain ⟨elem,fr,hw⟩:=hH.fz B vs hB;by_cases h0:m=0
   ·subst h0;rw [fin _ _ [] (by simp [loadCells,loadCellsFrom]) (by simp;exact .nil)]
    rfl
   ·rw [List.length_take] at hlen;have hle:o+m<=vs.size:=by have:=hsz (m-1) (by omega);omega
    rw [fin _ _ _ (run_loadCells hw hle) ⟨by simp;omega,fun i a u ha hu=> ?_⟩]
    ·rfl
    ·rw [List.getElem?_take] at ha hu;split at ha
     ·rename_i hi;rw [if_pos hi,List.getElem?_drop,Array.getElem?_toList] at hu;exact hrel i a u ha hu
     ·cases ha
  |fz0 _ x cap hc0=>
   cases x with
   |none=>
    have:s'=[]:=by simpa [bytesOf] using hl.symm
    subst this;simp only [convert,Sem.run_bind,run_underlying h1,run_underlying h2,run_underlying h3,Result.andThen_ok];rfl
   |some a=>
    simp only [convert,Sem.run_bind,run_underlying h1,run_underlying h2,run_underlying h3,Result.andThen_ok];rw [fin _ _ [] (by simp [loadCells,loadCellsFrom]) (by simp;exact .nil)]
    rfl
 ·simp only [Option.bind_eq_some_iff,Option.some.injEq,Prod.mk.injEq] at hs;obtain ⟨q,hq,k,hk,l,hl,hcc,rfl⟩:=hs;rw [hc] at hcc;have hcc:=of_decide_eq_true hcc;obtain ⟨cap,rfl,hDq⟩:=slParts_rel hq hr;obtain ⟨hk,hmp⟩:=hgc_some hk;have hkk:only (hget h) [q.1] q.1=some k:=by rw [only_get (by simp [inl])];exact hk
  obtain ⟨us,g1,g2⟩:=HR.row (P:=P) hH hkk hmp (o:=q.2.1) (z:=q.2.2) (by rw [bytesOf_len hl];exact hcc)
  refine snd_pure' rfl hH ?_ (.s l);rw [run_v];simp only [convert,Sem.run_bind,run_underlying h1,run_underlying h2,run_underlying h3,Result.andThen_ok,Conv.bytesToString,g1];rw [<-Array.forIn_toList];simp only [List.toList_toArray];rw [bytesOf_rel (fun _ _=>rfl) ByteArray.empty hl g2];simp [ByteArray.empty,ByteArray.emptyWithCapacity];rfl
end
end Go.Ab
namespace Go.Ab
section
variable {P:Program} {D:Nat->Prop} {φ:Phi} {w:World} {n:Nat} {e:Env} {h:Hp} {E:Eff} {ρ:Operand->Value}
theorem cPartsA_rel {z:Nat}: ∀{ps:List (Nat×Operand)} {xs:List (Nat×Nat×Opd)} {vs:List (Nat×Nat×AV)},cPartsA z ps=some xs->evps e h xs=some vs→
 (∀q∈ps,∀x,cO q.2=some x->OK1 D φ e h x (ρ q.2))->vs.length=(ps.map (fun q=>(q.1,ρ q.2))).length∧
  ∀(j:Nat) a q,vs[j]? =some a->(ps.map (fun q=>(q.1,ρ q.2)))[j]? =some q->(some (q.1*z,z):Option (Nat×Nat))=some (a.1,a.2.1)/\VRel D φ a.2.2 q.2
 |[],xs,vs,h1,h2,_=>by
  simp [cPartsA] at h1;subst h1;simp [evps] at h2;subst h2;exact ⟨rfl,fun j a q ha=>by simp at ha⟩
 |(i,y)::ps,xs,vs,h1,h2,hk=>by
  simp only [cPartsA,Option.bind_eq_some_iff] at h1;obtain ⟨x,hx,xs',hxs,h1⟩:=h1;cases h1;simp only [evps,Option.bind_eq_some_iff] at h2;obtain ⟨v,hv,vs',hvs,h2⟩:=h2;cases h2;obtain ⟨i1,i2⟩:=cPartsA_rel hxs hvs (fun q hq=>hk q (List.mem_cons_of_mem _ hq));refine ⟨by simp [i1],fun j a q ha hq=> ?_⟩
  cases j with
  |zero=>simp at ha hq;subst ha;subst hq;exact ⟨rfl,hk (i,y) (List.mem_cons_self) x hx v hv⟩
  |succ j=>exact i2 j a q (by simpa using ha) (by simpa using hq)
theorem run_mapM_fields: ∀(fs:List Field),(∀f∈fs,(P.info? f.type).isSome=true)→
 (fs.mapM (fun f=>do pure (f.offset,<-sizeOf f.type):Field->Sem (Nat×Nat))).run P w= .ok (fs.map fun f=>(f.offset,(tySz P f.type).getD 0)) w
 |[],_=>by simp
 |f::fs,hf=>by
  obtain ⟨i,hi⟩:=Option.isSome_iff_exists.1 (hf f (List.mem_cons_self));have hz:tySz P f.type=some i.size:=by simp [tySz,hi]
  have ih:=run_mapM_fields fs (fun g hg=>hf g (List.mem_cons_of_mem _ hg));simp only [List.mapM_cons,Sem.run_bind,run_sizeOf hz,Sem.run_pure,Result.andThen_ok,ih,List.map_cons,hz,Option.getD_some]
theorem cPartsS_rel {t:TypeId} {fs:Array Field} (ht:P.underlying t=some (.struct fs)): ∀{ps:List (Nat×Operand)} {xs:List (Nat×Nat×Opd)} {vs:List (Nat×Nat×AV)},cPartsS P t ps=some xs->evps e h xs=some vs→
 (∀q∈ps,∀x,cO q.2=some x->OK1 D φ e h x (ρ q.2))->vs.length=(ps.map (fun q=>(q.1,ρ q.2))).length∧
  ∀(j:Nat) a q,vs[j]? =some a->(ps.map (fun q=>(q.1,ρ q.2)))[j]? =some q->(fs.map fun f=>(f.offset,(tySz P f.type).getD 0))[q.1]? =some (a.1,a.2.1)/\VRel D φ a.2.2 q.2
 |[],xs,vs,h1,h2,_=>by
  simp [cPartsS] at h1;subst h1;simp [evps] at h2;subst h2;exact ⟨rfl,fun j a q ha=>by simp at ha⟩
 |(i,y)::ps,xs,vs,h1,h2,hk=>by
  simp only [cPartsS,Option.bind_eq_some_iff] at h1;obtain ⟨qq,hqq,x,hx,xs',hxs,h1⟩:=h1;cases h1;simp only [evps,Option.bind_eq_some_iff] at h2;obtain ⟨v,hv,vs',hvs,h2⟩:=h2;cases h2;obtain ⟨i1,i2⟩:=cPartsS_rel ht hxs hvs (fun q hq=>hk q (List.mem_cons_of_mem _ hq));refine ⟨by simp [i1],fun j a q ha hq=> ?_⟩
  cases j with
  |zero=>
   simp at ha hq;subst ha;subst hq;obtain ⟨fs',fl,g1,g2,g3,g4,g5⟩:=tyField_inv hqq;rw [ht] at g1;cases g1;refine ⟨?_,hk (i,y) (List.mem_cons_self) x hx v hv⟩;rw [Array.getElem?_map,g2];simp [g3,g4]
  |succ j=>exact i2 j a q (by simpa using ha) (by simpa using hq)
theorem snd_buildS {z:List AV} {ps:List (Nat×Nat×Opd)} {parts:Array (Nat×Operand)} {t:TypeId} {fs:Array Field} {c:Bool} (hs:step (.build z ps) e h n=some (c,E)) (ht:P.underlying t=some (.struct fs)) (hz:tyZero P t=some z)
 (hall:fs.all (fun f=>(P.info? f.type).isSome)=true) (hc:cPartsS P t parts.toList=some ps) (hk: ∀q∈parts.toList,∀x,cO q.2=some x->OK1 D φ e h x (ρ q.2)) (hH:HR D φ (only (hget h) E.rd) w):
 Sim P D φ (only (hget h) E.rd) w n E ((do pure (Next.value (<-Instr.build t (parts.map fun (i,x)=>(i,ρ x)))):Sem Next).run P w):=by
 simp only [step,Option.bind_eq_some_iff] at hs;obtain ⟨l,hl,cs,hcs,hs⟩:=hs;obtain ⟨uz,huz,hzz⟩:=run_zero hz w;obtain ⟨e1,e2⟩:=cPartsS_rel (ρ:=ρ) ht hc hl hk;obtain ⟨cs',hf,hr⟩:=fill_rel (place:=fun i=>(fs.map fun f=>(f.offset,(tySz P f.type).getD 0))[i]?) (cs:=uz.cells) (avsOf_rel (D:=D) (φ:=φ) hzz) e1 e2 hcs;have hv:=VRel.agg' hr;refine snd_pure (u:= .agg cs') hs hH ?_ (by simpa using hv)
 rw [run_v];have hm:(fs.mapM (fun f=>do pure (f.offset,<-sizeOf f.type):Field->Sem (Nat×Nat))).run P w= .ok (fs.map fun f=>(f.offset,(tySz P f.type).getD 0)) w:=by
  rw [Array.mapM_eq_mapM_toList];simp only [Sem.run_map];rw [run_mapM_fields fs.toList (fun f hf=>by rw [Array.all_eq_true_iff_forall_mem] at hall;exact hall f (by simpa using hf))]
  simp only [Result.andThen_ok];congr 1;apply Array.ext';simp
 simp only [Instr.build,Sem.run_bind,huz,Result.andThen_ok,run_underlying ht];rw [hm];have hq:(parts.map (fun x=>match x with|(i,x)=>(i,ρ x))).toList=(parts.toList.map (fun q=>(q.1,ρ q.2))):=by simp
 simp only [Result.andThen_ok,hq];rw [hf];rfl
theorem snd_buildA {z:List AV} {s:Nat} {ps:List (Nat×Nat×Opd)} {parts:Array (Nat×Operand)} {t el:TypeId} {m:Nat} {c:Bool} (hs:step (.build z ps) e h n=some (c,E)) (ht:P.underlying t=some (.array m el)) (hz:tyZero P t=some z)
 (hsz:tySz P el=some s) (hc:cPartsA s parts.toList=some ps) (hk: ∀q∈parts.toList,∀x,cO q.2=some x->OK1 D φ e h x (ρ q.2)) (hH:HR D φ (only (hget h) E.rd) w):
 Sim P D φ (only (hget h) E.rd) w n E ((do pure (Next.value (<-Instr.build t (parts.map fun (i,x)=>(i,ρ x)))):Sem Next).run P w):=by
 simp only [step,Option.bind_eq_some_iff] at hs;obtain ⟨l,hl,cs,hcs,hs⟩:=hs;obtain ⟨uz,huz,hzz⟩:=run_zero hz w;obtain ⟨e1,e2⟩:=cPartsA_rel (ρ:=ρ) hc hl hk;obtain ⟨cs',hf,hr⟩:=fill_rel (place:=fun i=>some (i*s,s)) (cs:=uz.cells) (avsOf_rel (D:=D) (φ:=φ) hzz) e1 e2 hcs;have hv:=VRel.agg' hr;refine snd_pure (u:= .agg cs') hs hH ?_ (by simpa using hv)
 rw [run_v];simp only [Instr.build,Sem.run_bind,huz,Result.andThen_ok,run_underlying ht,run_sizeOf hsz];have hq:(parts.map (fun x=>match x with|(i,x)=>(i,ρ x))).toList=(parts.toList.map (fun q=>(q.1,ρ q.2))):=by simp
 simp only [hq];rw [hf];rfl
theorem zero_row {z:List AV} {el:TypeId} {s:Nat} (hz:tyZero P el=some z) (hs:z.length=s) (m:Nat):
 ∃zero uz:Array Value,(m*s=0->zero= #[])/\(m*s≠0-> ∃u:Value,(zeroValue el).run P w= .ok u w/\u.cells=zero)/\All2 D φ (zeros z m) ((Array.range (m*s)).map (fun i=>zero[i % zero.size]!)).toList:=by
 obtain ⟨uz,huz,hzz⟩:=run_zero hz w;have hzr:=avsOf_rel (D:=D) (φ:=φ) hzz;have hus:uz.cells.size=s:=by have:=hzr.1;simp at this;omega
 by_cases h0:m*s=0
 ·refine ⟨#[],#[],fun _=>rfl,fun h=>absurd h0 h,?_⟩;have hzl: ∀m,(zeros z m).length=m*z.length:=fun m=>by
   induction m with
   |zero=>simp [zeros]
   |succ m ih=>simp [zeros,ih,Nat.succ_mul];omega
  have:zeros z m=[]:=List.eq_nil_of_length_eq_zero (by rw [hzl,hs];exact h0)
  rw [this,h0];simpa using All2.nil
 ·refine ⟨uz.cells,#[],fun h=>absurd h h0,fun _=>⟨uz,huz,rfl⟩,?_⟩;have:=zeros_rel hzr m;rwa [hus] at this ⊢
theorem snd_bsl {z:List AV} {s len:Nat} {ps:List (Nat×Nat×Opd)} {parts:Array (Nat×Operand)} {t el:TypeId} {c:Bool} (hs:step (.bsl (zeros z len) len ps) e h n=some (c,E)) (ht:P.underlying t=some (.slice el)) (hz:tyZero P el=some z)
 (hsz:tySz P el=some s) (hzl:z.length=s) (hlim:len*s<=2^24) (hc:cPartsA s parts.toList=some ps) (hk: ∀q∈parts.toList,∀x,cO q.2=some x->OK1 D φ e h x (ρ q.2)) (hn:n<E.n-> ¬D n) (hH:HR D φ (only (hget h) E.rd) w):
 Sim P D φ (only (hget h) E.rd) w n E ((do pure (Next.value (<-Instr.buildSlice t len (parts.map fun (i,x)=>(i,ρ x)))):Sem Next).run P w):=by
 simp only [step,Option.bind_eq_some_iff,Option.some.injEq,Prod.mk.injEq] at hs;obtain ⟨l,hl,cs,hcs,_,rfl⟩:=hs;obtain ⟨zero,_,hz1,hz1',hz2⟩:=zero_row (P:=P) (D:=D) (φ:=φ) (w:=w) hz hzl len;obtain ⟨e1,e2⟩:=cPartsA_rel (ρ:=ρ) hc hl hk;obtain ⟨cs',hf,hr⟩:=fill_rel (place:=fun i=>some (i*s,s)) (cs:=(Array.range (len*s)).map (fun i=>zero[i % zero.size]!)) hz2 e1 e2 hcs;refine Sim.alloc (g:=none) (cap:=0) (esz:=0) (cs:=cs') (elem:=el) (fr:=(0,0)) (w':={w with heap:=w.heap.push (.cells cs' el)}) (u:= .slice (some ⟨w.heap.size,0,none⟩) len len) ?_ hH (hn (Nat.lt_succ_self _)) rfl rfl rfl rfl hr.push (fun i _=>by simp) (fun e he=>by cases he) sl_new
 rw [run_v];simp only [Instr.buildSlice,Sem.run_bind,run_underlying ht,Result.andThen_ok,run_sizeOf hsz];have hq:(parts.map (fun x=>match x with|(i,x)=>(i,ρ x))).toList=(parts.toList.map (fun q=>(q.1,ρ q.2))):=by simp
 have hlim': ¬(len*s>2^24):=by omega
 simp only [hlim',if_false,hq];by_cases h0:len*s=0
 ·have:=hz1 h0;subst this;simp only [h0,if_true,Sem.run_bind,Sem.run_pure,Result.andThen_ok];rw [h0] at hf;rw [hf];simp only [Sem.run_bind,run_newRow,Result.andThen_ok,Sem.run_pure]
 ·obtain ⟨u,hu,hu'⟩:=hz1' h0;simp only [h0,if_false,Sem.run_bind,Sem.run_pure,Result.andThen_ok,hu,hu'];rw [hf];simp only [Sem.run_bind,run_newRow,Result.andThen_ok,Sem.run_pure]
theorem wrap64_id {i:Int} (h1:0<=i) (h2:i<=9223372036854775807):IntKind.i64.wrap i=i:=by
 exact IntWalk.i64_in i ⟨by omega,by omega⟩
theorem snd_mks {z bytes:Nat} {zs:List AV} {l cc:Opd} {ul uc:Value} {t el:TypeId} {i:TypeInfo} {c:Bool} (hs:step (.mks i.size i.bytes zs l cc) e h n=some (c,E)) (hc:c=true) (ht:P.underlying t=some (.slice el)) (hi:P.info? el=some i) (hz:tyZero P el=some zs)
 (hzl:zs.length=i.size) (hl:OK1 D φ e h l ul) (hcc:OK1 D φ e h cc uc) (hn:n<E.n-> ¬D n) (hH:HR D φ (only (hget h) E.rd) w):
 Sim P D φ (only (hget h) E.rd) w n E ((do pure (Next.value (<-Instr.makeSlice t ul uc)):Sem Next).run P w):=by
 simp only [step,Option.bind_eq_some_iff,Option.some.injEq,Prod.mk.injEq] at hs;obtain ⟨vl,hvl,a,ha,vc,hvc,b,hb,h1,rfl⟩:=hs;have:=asI_rel ha (hl vl hvl);subst this;have:=asI_rel hb (hcc vc hvc);subst this;rw [hc] at h1;obtain ⟨h2,h3,h4,h5⟩:=of_decide_eq_true h1;obtain ⟨zero,_,hz1,hz1',hz2⟩:=zero_row (P:=P) (D:=D) (φ:=φ) (w:=w) hz hzl b.toNat;refine Sim.alloc (g:=none) (cap:=0) (esz:=0) (cs:=(Array.range (b.toNat*i.size)).map (fun i=>zero[i % zero.size]!)) (elem:=el) (fr:=(0,0)) (w':={w with heap:=w.heap.push (.cells ((Array.range (b.toNat*i.size)).map (fun i=>zero[i % zero.size]!)) el)}) (u:= .slice (some ⟨w.heap.size,0,none⟩) a.toNat b.toNat) ?_ hH (hn (Nat.lt_succ_self _)) rfl rfl rfl rfl hz2.push (fun i _=>by simp) (fun e he=>by cases he) sl_new
 have hsz:tySz P el=some i.size:=by simp [tySz,hi]
 rw [run_v];simp only [Instr.makeSlice,Sem.run_bind,run_underlying ht,Result.andThen_ok,asInt,asIntOf,Sem.run_pure,run_typeInfo hi,wrap64_id h2 (by omega),wrap64_id (show 0<=b by omega) h5]
 rw [if_neg (by simp;omega)]
 simp only [Sem.run_bind,run_askRoom,Result.andThen_ok,run_sizeOf hsz,Sem.run_pure];by_cases h0:b.toNat*i.size=0
 ·have:=hz1 h0;subst this;simp only [h0,if_true,Sem.run_bind,Sem.run_pure,Result.andThen_ok,run_newRow]
 ·obtain ⟨u,hu,hu'⟩:=hz1' h0;simp only [h0,if_false,Sem.run_bind,Sem.run_pure,Result.andThen_ok,run_newRow,hu,hu']
theorem growBy_le (newLen:Nat): ∀(r c:Nat),256<=c->c<2*newLen->Builtin.growBy newLen r c<=2*newLen
 |0,c,_,h=>by simp [Builtin.growBy];omega
 |r+1,c,h0,h=>by
  simp only [Builtin.growBy];split
  ·omega
  ·exact growBy_le newLen r _ (by omega) (by omega)
theorem nextslicecap_le {newLen cap:Nat} (h:cap<newLen):Builtin.nextslicecap newLen cap<=2*newLen:=by
 unfold Builtin.nextslicecap;split
 ·omega
 ·split
  ·omega
  ·exact growBy_le newLen 4 cap (by omega) (by omega)
theorem run_loadCellsFrom_drawn {a:Addr}: ∀{n i:Nat} {acc us:Array Value} {w:World},(loadCellsFrom a i n acc).run P w= .ok us w-> ∀d,(loadCellsFrom a i n acc).run P {w with drawn:=d}= .ok us {w with drawn:=d}
 |0,i,acc,us,w,h,d=>by simp only [loadCellsFrom,Sem.run_pure] at h ⊢;cases h;rfl
 |n+1,i,acc,us,w,h,d=>by
  simp only [loadCellsFrom,Sem.run_bind,run_load] at h ⊢;have hc:({w with drawn:=d}:World).cell? (a.add i)=w.cell? (a.add i):=rfl
  rw [hc];cases hcell:w.cell? (a.add i) with
  |some v=>
   rw [hcell] at h;simp only [Result.andThen_ok] at h ⊢;exact run_loadCellsFrom_drawn h d
  |none=>
   rw [hcell] at h;have hf:World.farLoad P ({w with drawn:=d}:World) (a.add i) (Mode.plain==Mode.atomic)=World.farLoad P w (a.add i) (Mode.plain==Mode.atomic):=rfl
   simp only [hf] at h ⊢;cases hfl:World.farLoad P w (a.add i) (Mode.plain==Mode.atomic) with
   |ok x=>
    rw [hfl] at h;simp only [Result.andThen_ok] at h ⊢;exact run_loadCellsFrom_drawn h d
   |error e=>
    rw [hfl] at h;simp [Result.andThen] at h
theorem run_loadCells_drawn {a:Addr} {n:Nat} {us:Array Value} (h:(loadCells a n).run P w= .ok us w) (d:Nat):(loadCells a n).run P {w with drawn:=d}= .ok us {w with drawn:=d}:=
 run_loadCellsFrom_drawn h d
theorem run_append_grow {t tt el xt:TypeId} {d:TypeDesc} {i:TypeInfo} {zs:List AV} {base:Option Addr} {len cap m:Nat} {ux:Value} {old new:Array Value} (ht:P.underlying t=some (.slice el)) (hxt:P.underlying xt=some d) (hd: ∀k,d≠ .int k)
 (hi:P.info? el=some i) (hzs:tyZero P el=some zs) (hzl:zs.length=i.size) (hl:(Builtin.lenOf ux).run P w= .ok m w) (hcap:cap<len+m) (hbytes:i.bytes*(len+m)<=140737488355328) (hb0:i.bytes≠0)
 (hold:(Builtin.firstCells i.size len (.slice base len cap)).run P w= .ok old w) (hnew:(Builtin.firstCells i.size m ux).run P w= .ok new w)
 (hos:old.size=len*i.size) (hns:new.size=m*i.size):
 ∃(cap':Nat) (cs:Array Value),len+m<=cap'/\cs.size=cap'*i.size/\(∀j,j<(old++new).size->cs[j]? =(old++new)[j]?)∧
  (Builtin.append_ #[t,xt] tt #[.slice base len cap,ux]).run P w= .ok (.slice (some ⟨w.heap.size,0,none⟩) (len+m) cap') {w with drawn:=w.drawn+1,heap:=w.heap.push (.cells cs el)}:=by
 obtain ⟨uz,huz,hzz⟩:=run_zero hzs w;have hzr:=avsOf_rel (D:=fun _=>True) (φ:=⟨id,id,id,id,fun _=>none,fun _=>none⟩) hzz;have hus:uz.cells.size=i.size:=by have:=hzr.1;simp at this;omega
 have hsz:tySz P el=some i.size:=by simp [tySz,hi]
 let q:Question:= .appendCap (len+m) cap el;let cap':=q.cut (w.tape w.drawn q);have hcap':len+m<=cap':=by show len+m<=len+m+_;omega
 refine ⟨cap',old++new++Builtin.zeroCells uz.cells (cap'-(len+m)),hcap',?_,fun j hj=> ?_,?_⟩
 ·simp only [Array.size_append,hos,hns,Builtin.zeroCells,Array.size_map,Array.size_range,hus];rw [<-Nat.add_mul,<-Nat.add_mul];congr 1;omega
 ·rw [Array.getElem?_append_left hj]
 ·have e0:(#[t,xt]:Array TypeId)[0]? =some t:=rfl;have e1:(#[t,xt]:Array TypeId)[1]? =some xt:=rfl;have e2:(#[Value.slice base len cap,ux]:Array Value)[0]? =some (.slice base len cap):=rfl;have e3:(#[Value.slice base len cap,ux]:Array Value)[1]? =some ux:=rfl;have hz0:(match d with| .int k=>true|_=>false)=false:=by
   cases d<;>first|rfl|exact absurd rfl (hd _)
  have hnx:=nextslicecap_le hcap;have hb2: ¬(Builtin.nextslicecap (len+m) cap*i.bytes>2^48):=by
   have:Builtin.nextslicecap (len+m) cap*i.bytes<=2*(len+m)*i.bytes:=Nat.mul_le_mul_right _ hnx;have e:2*(len+m)*i.bytes=2*(i.bytes*(len+m)):=by rw [Nat.mul_assoc,Nat.mul_comm (len+m)]
   rw [e] at this;omega
  unfold Builtin.append_;rw [e0,e2,e3];simp only [Sem.run_bind,run_underlying ht,Result.andThen_ok,run_sizeOf hsz,e1,run_underlying hxt,Sem.run_pure,hz0,Bool.false_eq_true,if_false,hl];have hcap2: ¬(len+m<=cap):=by omega
  simp only [hcap2,if_false,Sem.run_bind,run_typeInfo hi,Result.andThen_ok,hb0,or_false,and_false,hb2,run_choose];rw [if_neg (by simp [Question.forced])]
  have hold': ∀d,(Builtin.firstCells i.size len (.slice base len cap)).run P {w with drawn:=d}= .ok old {w with drawn:=d}:=fun d=>by
   cases base with
   |none=>simp only [Builtin.firstCells,Sem.run_pure] at hold ⊢;cases hold;rfl
   |some a=>exact run_loadCells_drawn hold d
  have hnew': ∀d,(Builtin.firstCells i.size m ux).run P {w with drawn:=d}= .ok new {w with drawn:=d}:=fun d=>by
   cases ux<;>simp only [Builtin.firstCells,run_stuck] at hnew ⊢ <;>first|(cases hnew;done)|skip
   ·simp only [Sem.run_pure] at hnew ⊢;cases hnew;rfl
   ·rename_i a l c;cases a with
    |none=>simp only [Sem.run_pure] at hnew ⊢;cases hnew;rfl
    |some a=>exact run_loadCells_drawn hnew d
  have huz': ∀d,(zeroValue el).run P {w with drawn:=d}= .ok uz {w with drawn:=d}:=fun d=>by
   simp only [tyZero,Option.bind_eq_some_iff] at hzs;obtain ⟨i',hi',u',hu',_⟩:=hzs;simp only [zeroValue,Sem.run_bind,run_typeInfo hi',Result.andThen_ok,hu',Sem.run_pure] at huz ⊢;cases huz;rfl
  simp only [Result.andThen_ok,run_typeInfo hi,run_askRoom,hold',Bool.not_false,if_true,hnew',huz',run_newRow,Sem.run_pure];rfl
end
end Go.Ab
namespace Go.Ab
section
variable {P:Program} {D:Nat->Prop} {φ:Phi} {w:World} {n:Nat} {e:Env} {h:Hp} {E:Eff} {ρ:Operand->Value}
theorem run_append_in {t tt el xt:TypeId} {d:TypeDesc} {z:Nat} {base:Option Addr} {len cap m:Nat} {ux:Value} {new:Array Value} (ht:P.underlying t=some (.slice el)) (hxt:P.underlying xt=some d) (hd: ∀k,d≠ .int k)
 (hsz:tySz P el=some z) (hl:(Builtin.lenOf ux).run P w= .ok m w) (hcap:len+m<=cap) (hnew:(Builtin.firstCells z m ux).run P w= .ok new w):
 (Builtin.append_ #[t,xt] tt #[.slice base len cap,ux]).run P w=((match base with|some a=>storeCells (a.add (len*z)) new.toList|none=>pure ():Sem Unit).run P w).andThen fun _ w'=> .ok (.slice base (len+m) cap) w':=by
 have e0:(#[t,xt]:Array TypeId)[0]? =some t:=rfl;have e1:(#[t,xt]:Array TypeId)[1]? =some xt:=rfl;have e2:(#[Value.slice base len cap,ux]:Array Value)[0]? =some (.slice base len cap):=rfl;have e3:(#[Value.slice base len cap,ux]:Array Value)[1]? =some ux:=rfl;have hz0:(match d with| .int k=>true|_=>false)=false:=by
  cases d<;>first|rfl|exact absurd rfl (hd _)
 unfold Builtin.append_;rw [e0,e2,e3];simp only [Sem.run_bind,run_underlying ht,Result.andThen_ok,run_sizeOf hsz,e1,run_underlying hxt,Sem.run_pure,hz0,Bool.false_eq_true,if_false,hl,hcap,if_true,Bool.not_false,hnew];cases base<;>simp only [Sem.run_bind,Sem.run_pure,Result.andThen_ok]
theorem growMax_eq:growMax=140737488355328:=rfl
set_option maxHeartbeats 1000000 in
theorem snd_app {zs:List AV} {s x:Opd} {us ux:Value} {t xt tt el:TypeId} {d:TypeDesc} {i:TypeInfo} {c:Bool} (hs:step (.app i.size i.bytes zs s x) e h n=some (c,E)) (hc:c=true) (ht:P.underlying t=some (.slice el)) (hxt:P.underlying xt=some d) (hd: ∀k,d≠ .int k)
 (hi:P.info? el=some i) (hzs:tyZero P el=some zs) (hzl:zs.length=i.size) (hb0:i.bytes≠0) (hss:OK1 D φ e h s us) (hxx:OK1 D φ e h x ux) (hn:n<E.n-> ¬D n) (hH:HR D φ (only (hget h) E.rd) w):
 Sim P D φ (only (hget h) E.rd) w n E ((do pure (Next.value (<-Builtin.append_ #[t,xt] tt #[us,ux])):Sem Next).run P w):=by
 simp only [step,Option.bind_eq_some_iff] at hs;obtain ⟨vs,hvs,vx,hvx,r,hr,hs⟩:=hs;have hrs:=hss vs hvs;have hrx:=hxx vx hvx;have hsz:tySz P el=some i.size:=by simp [tySz,hi]
 split at hs
 · -- nothing is appended
   rename_i hm;have key: ∀rd,(∀b,inl r.1 b=true->inl rd b=true)->HR D φ (only (hget h) rd) w->r.2.2.2=true-> ∀base len cap,len<=cap->(Builtin.append_ #[t,xt] tt #[.slice base len cap,ux]).run P w= .ok (.slice base len cap) w:=by
    intro rd hrd hH' hok base len cap hle;obtain ⟨hl,us',hf,hu,hul,hft⟩:=src_rel (P:=P) hr hok (rd:=rd) hrd hrx hH';rw [run_append_in (z:=i.size) ht hxt hd hsz hl (by omega) hf]
    have hnil:us'=[]:=List.eq_nil_of_length_eq_zero (by rw [<-hu.1,hul,hm];simp)
    subst hnil;cases base<;>simp [storeCells,hm]
   split at hs
   ·cases hrs;simp only [Option.some.injEq,Prod.mk.injEq] at hs;obtain ⟨h1,rfl⟩:=hs;refine snd_pure' rfl hH ?_ .ns;rw [run_v,key r.1 (fun b hb=>hb) hH (h1.trans hc) none 0 0 (Nat.le_refl _)];rfl
   ·cases hrs with
    |sl b o len cap hD=>
    simp only [Option.some.injEq,Prod.mk.injEq] at hs;obtain ⟨h1,rfl⟩:=hs;rw [hc,Bool.and_eq_true] at h1;refine snd_pure' rfl hH ?_ (.sl _ _ _ _ hD);rw [run_v,key r.1 (fun b hb=>hb) hH h1.1 _ _ _ (of_decide_eq_true h1.2)];rfl
   ·cases hrs with
    |sg b o len j cap hD hj hcap hlen=>
    simp only [Option.some.injEq,Prod.mk.injEq] at hs;obtain ⟨h1,rfl⟩:=hs;refine snd_pure' rfl hH ?_ (.sg _ _ _ j cap hD hj hcap hlen);rw [run_v,key r.1 (fun b hb=>hb) hH (h1.trans hc) _ _ _ hlen];rfl
   ·cases hrs with
    |ze x=>
    simp only [Option.some.injEq,Prod.mk.injEq] at hs;obtain ⟨h1,rfl⟩:=hs;refine snd_pure' rfl hH ?_ (.ze x);rw [run_v,key r.1 (fun b hb=>hb) hH (h1.trans hc) _ _ _ (Nat.le_refl _)];rfl
   ·simp only [Option.some.injEq,Prod.mk.injEq] at hs;obtain ⟨h1,rfl⟩:=hs;refine snd_pure' (u:=us) rfl hH ?_ hrs;cases hrs with
    |fz0 _ x cap hc0=>rw [run_v,key r.1 (fun b hb=>hb) hH (h1.trans hc) _ _ _ (Nat.zero_le _)];rfl
    |fz _ _ B o cap vs hB hcap hsz hv=>rw [run_v,key r.1 (fun b hb=>hb) hH (h1.trans hc) _ _ _ hcap];rfl
   ·cases hs
 ·rename_i hm;split at hs
  · -- onto nil
    cases hrs;simp only [Option.some.injEq,Prod.mk.injEq] at hs;obtain ⟨h1,rfl⟩:=hs;rw [hc,Bool.and_eq_true,decide_eq_true_eq] at h1;obtain ⟨hok,hby⟩:=h1;rw [growMax_eq] at hby;obtain ⟨hl,us',hf,hu,hul,hft⟩:=src_rel (P:=P) hr hok (rd:=r.1) (fun b hb=>hb) hrx hH;obtain ⟨cap',cs,h2,h3,h4,h5⟩:=run_append_grow (P:=P) (tt:=tt) (base:=none) (len:=0) (cap:=0) (old:= #[]) ht hxt hd hi hzs hzl hl (by omega) (by simpa using hby) hb0 (by simp [Builtin.firstCells]) hf (by simp) (by simp [<-hu.1,hul])
    refine Sim.alloc (g:=some i.size) (cap:=cap') (esz:=i.size) (cs:=cs) (elem:=el) (fr:=(0,0)) (w':={w with drawn:=w.drawn+1,heap:=w.heap.push (.cells cs el)}) (u:= .slice (some ⟨w.heap.size,0,none⟩) r.2.1 cap') ?_ hH (hn (Nat.lt_succ_self _)) rfl rfl rfl rfl (fun j v hv=> ?_) (fun i _=>by simp) (fun e he=>by cases he;exact ⟨rfl,h3⟩) (sg_new (by omega))
    ·rw [run_v,h5];simp
    ·obtain ⟨u,hu1,hu2⟩:=hu.get hv;have hj:j<us'.length:=by
      rcases Nat.lt_or_ge j us'.length with h'|h'
      ·exact h'
      ·rw [List.getElem?_eq_none h'] at hu1;cases hu1
     exact ⟨u,by rw [h4 j (by simp;exact hj)];simpa using hu1,hu2⟩
  · -- onto an empty slice without room
    cases hrs with
    |ze x=>
    simp only [Option.some.injEq,Prod.mk.injEq] at hs;obtain ⟨h1,rfl⟩:=hs;rw [hc,Bool.and_eq_true,decide_eq_true_eq] at h1;obtain ⟨hok,hby⟩:=h1;rw [growMax_eq] at hby;obtain ⟨hl,us',hf,hu,hul,hft⟩:=src_rel (P:=P) hr hok (rd:=r.1) (fun b hb=>hb) hrx hH;obtain ⟨cap',cs,h2,h3,h4,h5⟩:=run_append_grow (P:=P) (tt:=tt) (base:=x) (len:=0) (cap:=0) (old:= #[]) ht hxt hd hi hzs hzl hl (by omega) (by simpa using hby) hb0 (by cases x<;>simp [Builtin.firstCells,loadCells,loadCellsFrom]) hf (by simp) (by simp [<-hu.1,hul])
    refine Sim.alloc (g:=some i.size) (cap:=cap') (esz:=i.size) (cs:=cs) (elem:=el) (fr:=(0,0)) (w':={w with drawn:=w.drawn+1,heap:=w.heap.push (.cells cs el)}) (u:= .slice (some ⟨w.heap.size,0,none⟩) r.2.1 cap') ?_ hH (hn (Nat.lt_succ_self _)) rfl rfl rfl rfl (fun j v hv=> ?_) (fun i _=>by simp) (fun e he=>by cases he;exact ⟨rfl,h3⟩) (sg_new (by omega))
    ·rw [run_v,h5];simp
    ·obtain ⟨u,hu1,hu2⟩:=hu.get hv;have hj:j<us'.length:=by
      rcases Nat.lt_or_ge j us'.length with h'|h'
      ·exact h'
      ·rw [List.getElem?_eq_none h'] at hu1;cases hu1
     exact ⟨u,by rw [h4 j (by simp;exact hj)];simpa using hu1,hu2⟩
  · -- onto a slice whose capacity is known
    rename_i b o len cap;cases hrs with
    |sl _ _ _ _ hD=>
    simp only [Option.bind_eq_some_iff] at hs;obtain ⟨k,hk,hs⟩:=hs;have hib:inl (b::r.1) b=true:=by simp [inl]
    split at hs
    ·rename_i hle;split at hs
     ·cases hs
     ·rename_i hro;simp only [Option.some.injEq,Prod.mk.injEq] at hs;obtain ⟨h1,rfl⟩:=hs;rw [hc] at h1;simp only [Bool.and_eq_true,decide_eq_true_eq] at h1;obtain ⟨⟨hok,hfit⟩,hone⟩:=h1;obtain ⟨hk,hmp⟩:=hgc_some hk;have hkk:only (hget h) (b::r.1) b=some k:=by rw [only_get hib];exact hk
      obtain ⟨hl,us',hf,hu,hul,hft⟩:=src_rel (P:=P) hr hok (rd:=b::r.1) (fun b hb=>by simp [inl,hb]) hrx hH
      obtain ⟨w',cs,cs',elem,fr,g1,g2,g3,g4,g5,g6,g7,g8⟩:=HR.stores (P:=P) hH hkk hmp hro hu hone (o:=o+len*i.size) hfit;refine Sim.write (nx:= .value (.slice (some ⟨φ.blk b,φ.off b+o,none⟩) (len+r.2.1) cap)) ?_ (.inl rfl) (.sl _ _ _ _ hD) hib hH hkk hro g2 g3 g4 g5 g6 g7 g8;rw [run_v,run_append_in (z:=i.size) ht hxt hd hsz hl hle hf];simp only [Addr.add_eq,List.toList_toArray,Nat.add_assoc] at g1 ⊢;rw [g1];rfl
    ·rename_i hle;simp only [Option.some.injEq,Prod.mk.injEq] at hs;obtain ⟨h1,rfl⟩:=hs;rw [hc] at h1;simp only [Bool.and_eq_true,decide_eq_true_eq] at h1;obtain ⟨⟨⟨hok,hby⟩,hold⟩,hlc⟩:=h1;rw [growMax_eq] at hby;obtain ⟨hk,hmp⟩:=hgc_some hk;have hkk:only (hget h) (b::r.1) b=some k:=by rw [only_get hib];exact hk
     obtain ⟨hl,us',hf,hu,hul,hft⟩:=src_rel (P:=P) hr hok (rd:=b::r.1) (fun b hb=>by simp [inl,hb]) hrx hH
     obtain ⟨os,ho1,ho2⟩:=HR.row (P:=P) hH hkk hmp hold;obtain ⟨cap',cs,h2,h3,h4,h5⟩:=run_append_grow (P:=P) (tt:=tt) (base:=some ⟨φ.blk b,φ.off b+o,none⟩) (len:=len) (cap:=cap) (old:=os.toArray) ht hxt hd hi hzs hzl hl (by omega) hby hb0 (by simpa [Builtin.firstCells] using ho1) hf (by simp [<-ho2.1,hold]) (by simp [<-hu.1,hul])
     refine Sim.alloc (g:=some i.size) (cap:=cap') (esz:=i.size) (cs:=cs) (elem:=el) (fr:=(0,0)) (w':={w with drawn:=w.drawn+1,heap:=w.heap.push (.cells cs el)}) (u:= .slice (some ⟨w.heap.size,0,none⟩) (len+r.2.1) cap') ?_ hH (hn (Nat.lt_succ_self _)) rfl rfl rfl rfl (fun j v hv=> ?_) (fun i _=>by simp) (fun e he=>by cases he;exact ⟨rfl,h3⟩) (sg_new h2)
     ·rw [run_v,h5];rfl
     ·obtain ⟨u,hu1,hu2⟩:=(ho2.append hu).get hv;have hj:j<(os++us').length:=by
       rcases Nat.lt_or_ge j (os++us').length with h'|h'
       ·exact h'
       ·rw [List.getElem?_eq_none h'] at hu1;cases hu1
      exact ⟨u,by rw [h4 j (by simpa using hj)];simpa using hu1,hu2⟩
  · -- onto a slice that was grown
    rename_i b o len;cases hrs with
    |sg _ _ _ j cap hD hj hcap hlen=>
    simp only [Option.bind_eq_some_iff] at hs;obtain ⟨k,hk,hs⟩:=hs;have hib:inl (b::r.1) b=true:=by simp [inl]
    split at hs
    ·rename_i z' hgr;simp only [Option.some.injEq,Prod.mk.injEq] at hs;obtain ⟨h1,rfl⟩:=hs;rw [hc] at h1;simp only [Bool.and_eq_true,decide_eq_true_eq] at h1;obtain ⟨⟨⟨⟨hok,hby⟩,hzz⟩,hlen2⟩,hone⟩:=h1;have hzz:=Nat.eq_of_beq_eq_true hzz;rw [growMax_eq] at hby;obtain ⟨hk,hmp⟩:=hgc_some hk;have hkk:only (hget h) (b::r.1) b=some k:=by rw [only_get hib];exact hk
     obtain ⟨hl,us',hf,hu,hul,hft⟩:=src_rel (P:=P) hr hok (rd:=b::r.1) (fun b hb=>by simp [inl,hb]) hrx hH
     obtain ⟨hDb,⟨⟨cs0,elem0,⟨lo,hi'⟩,q1,q2,q3,q4⟩,_⟩⟩:=hH.at_ b k hkk;have q1:=q1.cells hmp;obtain ⟨hro,hesz,hcsz⟩:=q4 z' hgr;have hfr:=(q3 hro).2;have hjz:j*i.size=o:=by rw [<-hj,hesz,hzz]
     have hcapk:cs0.size=φ.off b+(o+cap*i.size):=by rw [hcsz,<-hzz,<-hcap,Nat.add_mul,hjz]
     -- the slice's own cells,as a list of values
     have hcells:cellsAt k.cells o (len*i.size)=k.cells.drop o:=List.take_of_length_le (by rw [List.length_drop];omega)
     have hold:(cellsAt k.cells o (len*i.size)).length=len*i.size:=by rw [hcells,List.length_drop];omega
     by_cases hle:len+r.2.1<=cap
     · -- there is room
       have hlm:(len+r.2.1)*i.size<=cap*i.size:=Nat.mul_le_mul_right _ hle;rw [Nat.add_mul] at hlm;have hul':us'.length=r.2.1*i.size:=by rw [<-hu.1,hul]
       obtain ⟨w',g1,g4,g5,g6,g3⟩:= @run_storeCells P (φ.blk b) (φ.off b+o+len*i.size) elem0 lo hi' us' 0 w cs0 q1 (fun j hj=>hfr j (.inl hj)) (by omega) (oneAll_spec hone hu)
       refine Sim.growIn (p:=φ.off b+o) (cp:=cap) (e:=i.size) (xs:=k.cells.drop o++r.2.2.1) (cs':=_) (u:= .slice (some ⟨φ.blk b,φ.off b+o,none⟩) (len+r.2.1) cap) ?_ hib (hn (Nat.lt_succ_self _)) hH hkk (by rw [hgr,hzz]) q1 g3 g4 g5 g6 (by simp;omega) (by omega) (fun jj v hv=> ?_) ?_
       ·rw [run_v,run_append_in (z:=i.size) ht hxt hd hsz hl hle hf];simp only [Addr.add_eq,List.toList_toArray,Nat.zero_add,Nat.add_zero] at g1 ⊢;rw [g1];rfl
       ·simp only [List.getElem?_append,List.length_drop] at hv;simp only [Nat.add_zero,Nat.zero_add,List.getElem?_toArray,List.getElem?_append,List.length_append,List.length_take,Array.length_toList,List.getElem?_take,List.getElem?_drop];have hlz:φ.off b+o+len*i.size<=cs0.size:=by omega
        rw [Nat.min_eq_left hlz];split at hv
        ·rename_i hjl;rw [if_pos (by omega),if_pos (by omega),if_pos (by omega)]
         rw [List.getElem?_drop] at hv;obtain ⟨u,hu1,hu2⟩:=q2 (o+jj) v hv;exact ⟨u,by rw [Array.getElem?_toList,Nat.add_assoc];exact hu1,hu2⟩
        ·rename_i hjl;rw [show k.cells.length-o=len*i.size by omega] at hv hjl
         obtain ⟨u,hu1,hu2⟩:=hu.get hv;have hjj:jj-len*i.size<us'.length:=by
          rcases Nat.lt_or_ge (jj-len*i.size) us'.length with h'|h'
          ·exact h'
          ·rw [List.getElem?_eq_none h'] at hu1;cases hu1
         rw [if_pos (by omega),if_neg (by omega),show φ.off b+o+jj-(φ.off b+o+len*i.size)=jj-len*i.size by omega]
         exact ⟨u,hu1,hu2⟩
       ·have:=VRel.sg (D:=Dn D n (n+1)) (φ:=φ.setO n (φ.blk b) (φ.off b+o) cap i.size) n 0 (len+r.2.1) 0 cap (.inr ⟨Nat.le_refl _,Nat.lt_succ_self _⟩) (by simp) (by simp [Phi.setO]) (by omega)
        simpa [Phi.setO] using this
     · -- it grows
       obtain ⟨os,ho1,ho2⟩:=HR.row (P:=P) hH hkk hmp hold;obtain ⟨cap',cs,h2,h3,h4,h5⟩:=run_append_grow (P:=P) (tt:=tt) (base:=some ⟨φ.blk b,φ.off b+o,none⟩) (len:=len) (cap:=cap) (old:=os.toArray) ht hxt hd hi hzs hzl hl (by omega) hby hb0 (by simpa [Builtin.firstCells] using ho1) hf (by simp [<-ho2.1,hold]) (by simp [<-hu.1,hul])
       rw [hcells] at ho2;refine Sim.growOut (cap:=cap') (cs:=cs) (elem:=el) (fr:=(0,0)) (w':={w with drawn:=w.drawn+1,heap:=w.heap.push (.cells cs el)}) (u:= .slice (some ⟨w.heap.size,0,none⟩) (len+r.2.1) cap') ?_ hib (hn (Nat.lt_succ_self _)) hD hH rfl rfl rfl rfl (fun j v hv=> ?_) (fun i _=>by simp) h3 (sg_new h2)
       ·rw [run_v,h5];rfl
       ·obtain ⟨u,hu1,hu2⟩:=(ho2.append hu).get hv;have hj:j<(os++us').length:=by
         rcases Nat.lt_or_ge j (os++us').length with h'|h'
         ·exact h'
         ·rw [List.getElem?_eq_none h'] at hu1;cases hu1
        exact ⟨u,by rw [h4 j (by simpa using hj)];simpa using hu1,hu2⟩
    ·cases hs
  ·cases hs
theorem snd_apz {zs:List AV} {s x:Opd} {us ux:Value} {t xt tt el:TypeId} {kn:IntKind} {i:TypeInfo} {c:Bool} (hs:step (.apz i.size i.bytes zs s x) e h n=some (c,E)) (hc:c=true) (ht:P.underlying t=some (.slice el)) (hxt:P.underlying xt=some (.int kn))
 (hi:P.info? el=some i) (hzs:tyZero P el=some zs) (hzl:zs.length=i.size) (hz0:0<i.size) (hb0:i.bytes≠0) (hss:OK1 D φ e h s us) (hxx:OK1 D φ e h x ux) (hn:n<E.n-> ¬D n) (hH:HR D φ (only (hget h) E.rd) w):
 Sim P D φ (only (hget h) E.rd) w n E ((do pure (Next.value (<-Builtin.append_ #[t,xt] tt #[us,ux])):Sem Next).run P w):=by
 simp only [step,Option.bind_eq_some_iff] at hs;obtain ⟨vs,hvs,vx,hvx,m,hm,hs⟩:=hs;have hrs:=hss vs hvs;have hrx:=hxx vx hvx;split at hs
 ·rename_i b o len cap;cases hrs with
  |sl _ _ _ _ hD=>
  simp only [Option.bind_eq_some_iff,Option.some.injEq,Prod.mk.injEq] at hs;obtain ⟨k,hk,h1,rfl⟩:=hs;rw [hc] at h1;simp only [Bool.and_eq_true,decide_eq_true_eq] at h1;obtain ⟨⟨⟨h0,hg⟩,hby⟩,hold⟩:=h1;rw [growMax_eq] at hby;have hib:inl [b] b=true:=by simp [inl]
  obtain ⟨hk,hmp⟩:=hgc_some hk;have hkk:only (hget h) [b] b=some k:=by rw [only_get hib];exact hk
  have hux:ux= .int .i64 (m.toNat:Int):=by
   unfold asI at hm;split at hm
   ·cases hm;cases hrx;congr 1;omega
   ·cases hm
  subst hux;have hr0:0<m.toNat:=by omega
  generalize m.toNat=r at*;have hzs':=hzs;simp only [tyZero,hi,Option.bind_some,Option.bind_eq_some_iff] at hzs';obtain ⟨z,hz,hzz⟩:=hzs';have hzr:=avsOf_rel (D:=D) (φ:=φ) hzz;have hsz:z.cells.size=i.size:=by have:=hzr.1;simp at this;omega
  obtain ⟨os,ho1,ho2⟩:=HR.row (P:=P) hH hkk hmp hold;have hosl:os.length=len*i.size:=by rw [<-ho2.1,hold]
  have hle:i.bytes*(len+r)=(len+r)*i.bytes:=Nat.mul_comm _ _;by_cases hbig:len+r<=9223372036854775807
  ·have h48:r*i.bytes<=281474976710656:=by
    have:r*i.bytes<=(len+r)*i.bytes:=Nat.mul_le_mul_right _ (by omega)
    omega
   have hrun:=Lib.run_append_grow_zeros (P:=P) w t xt tt el i z .i64 kn ht hxt hi hz (some ⟨φ.blk b,φ.off b+o,none⟩) len cap os (by simpa [Builtin.firstCells] using run_loadCells_drawn ho1 (w.drawn+1)) r (by omega) hz0 hg (by omega) h48 (growslice_fits hg (by omega))
   have hge:=grownCap_ge w (len+r) cap el;generalize grownCap w (len+r) cap el=G at*;have hrow:All2 D φ (cellsAt k.cells o (len*i.size)++zeros zs r) (os++(Builtin.zeroCells z.cells r).toList):=by
    refine ho2.append ?_;have:=zeros_rel (D:=D) (φ:=φ) (cs:=z.cells) hzr r;simpa [Builtin.zeroCells] using this
   refine Sim.alloc (g:=some i.size) (cap:=G) (esz:=i.size) (cs:=os.toArray++Builtin.zeroCells z.cells r++Builtin.zeroCells z.cells (G-(len+r))) (elem:=el) (fr:=(0,0)) (w':={w with drawn:=w.drawn+1,heap:=w.heap.push (.cells (os.toArray++Builtin.zeroCells z.cells r++Builtin.zeroCells z.cells (G-(len+r))) el)}) (u:= .slice (some ⟨w.heap.size,0,none⟩) (len+r) G) ?_ hH (hn (Nat.lt_succ_self _)) rfl rfl rfl rfl (fun j v hv=> ?_) (fun i _=>by simp) (fun e he=> ?_) (sg_new hge)
   ·rw [run_v,hrun];rfl
   ·obtain ⟨u,hu1,hu2⟩:=hrow.get hv;have hj:j<(os++(Builtin.zeroCells z.cells r).toList).length:=by
     rcases Nat.lt_or_ge j (os++(Builtin.zeroCells z.cells r).toList).length with h'|h'
     ·exact h'
     ·rw [List.getElem?_eq_none h'] at hu1;cases hu1
    refine ⟨u,?_,hu2⟩;rw [Array.getElem?_append_left (by simpa using hj),<-Array.getElem?_toList,Array.toList_append]
    exact hu1
   ·cases he;refine ⟨rfl,?_⟩;simp only [Array.size_append,List.size_toArray,size_zeroCells,hsz,hosl,<-Nat.add_mul];congr 1;omega
  ·exfalso;have:(len+r)*i.bytes<=140737488355328:=by omega
   have:(len+r)*1<=(len+r)*i.bytes:=Nat.mul_le_mul_left _ (by omega)
   omega
 ·cases hs
end
end Go.Ab
namespace Go.Ab
section
variable {P:Program} {D:Nat->Prop} {φ:Phi} {w:World} {n:Nat} {e:Env} {h:Hp} {E:Eff} {ρ:Operand->Value}
theorem toV1_rel {v:AV} {u u':Value} (hv:VRel D φ v u) (h:toV1 v=some u'):u=u':=by
 unfold toV1 at h;split at h<;>cases h<;>cases hv<;>rfl
theorem toVs_rel: ∀{l:List AV} {us us':List Value},All2 D φ l us->toVs l=some us'->us=us'
 |[],us,us',hv,h=>by simp [toVs] at h;subst h;exact hv.unnil
 |v::l,us,us',hv,h=>by
  obtain ⟨u,m,rfl,h1,h2⟩:=hv.uncons;simp only [toVs,Option.bind_eq_some_iff] at h;obtain ⟨x,hx,xs,hxs,h⟩:=h;cases h;rw [toV1_rel h1 hx,toVs_rel h2 hxs]
theorem toV_rel {v:AV} {u u':Value} (hv:VRel D φ v u) (h:toV v=some u'):u=u':=by
 unfold toV at h;split at h
 ·obtain ⟨m,rfl,hm⟩:=hv.agg_inv;simp only [Option.bind_eq_some_iff] at h;obtain ⟨us,hus,h⟩:=h;cases h;rw [toVs_rel hm hus]
 ·exact toV1_rel hv h
theorem snd_mki {t:TypeId} {x:Opd} {u:Value} {d:TypeDesc} {c:Bool} (hs:step (.mki t x) e h n=some (c,E)) (ht:P.underlying t=some d) (hd: ∀m,d≠ .interface m) (hx:OK1 D φ e h x u) (hH:HR D φ (only (hget h) E.rd) w):
 Sim P D φ (only (hget h) E.rd) w n E ((do pure (Next.value (<-Instr.makeInterface t u)):Sem Next).run P w):=by
 simp only [step,Option.bind_eq_some_iff] at hs;obtain ⟨v,hv,u',hu',hs⟩:=hs;have:=toV_rel (hx v hv) hu';subst this;refine snd_pure (u:= .iface t u) hs hH ?_ (.k t u);simp only [Instr.makeInterface,Sem.run_bind,run_underlying ht,Result.andThen_ok];simp
theorem snd_tas {t xt:TypeId} {i:TypeInfo} {z:Value} {zz:AV} {x:Opd} {u:Value} {d:TypeDesc} {c:Bool} (hs:step (.tas t zz x) e h n=some (c,E)) (ht:P.underlying t=some d) (hd: ∀m,d≠ .interface m) (hi:P.info? t=some i) (hz:i.zero=some z) (hzz:avOf z=some zz)
 (hx:OK1 D φ e h x u) (hH:HR D φ (only (hget h) E.rd) w):
 Sim P D φ (only (hget h) E.rd) w n E ((do pure (Next.value (<-Instr.typeAssert u xt t true)):Sem Next).run P w):=by
 simp only [step,Option.bind_eq_some_iff] at hs;obtain ⟨v,hv,hs⟩:=hs;have hvr:=hx v hv;have hzr:(zeroValue t).run P w= .ok z w:=by simp [zeroValue,run_typeInfo hi,hz]
 split at hs
 ·cases hvr;refine snd_pure (u:= .tuple #[z,.bool false]) hs hH ?_ (VRel.tup' (m:=[z,.bool false]) (.cons (avOf_rel hzz) (.cons (.b _) .nil)));simp only [Instr.typeAssert,Sem.run_bind,run_underlying ht,Result.andThen_ok];cases d with
  |interface m=>exact absurd rfl (hd m)
  |_=>simp [hzr]
 ·rename_i t' u';cases hvr;by_cases hb:t'=t
  ·subst hb;rw [show Nat.beq t' t'=true from Nat.beq_refl t'] at hs
   simp only [Option.bind_eq_some_iff] at hs;obtain ⟨q,hq,hs⟩:=hs;refine snd_pure (u:= .tuple #[u',.bool true]) hs hH ?_ (VRel.tup' (m:=[u',.bool true]) (.cons (avOf_rel hq) (.cons (.b _) .nil)));simp only [Instr.typeAssert,Sem.run_bind,run_underlying ht,Result.andThen_ok];cases d with
   |interface m=>exact absurd rfl (hd m)
   |_=>simp
  ·rw [beq_ne (fun e=>hb e.symm)] at hs;refine snd_pure (u:= .tuple #[z,.bool false]) hs hH ?_ (VRel.tup' (m:=[z,.bool false]) (.cons (avOf_rel hzz) (.cons (.b _) .nil)));simp only [Instr.typeAssert,Sem.run_bind,run_underlying ht,Result.andThen_ok];cases d with
   |interface m=>exact absurd rfl (hd m)
   |_=>simp [hzr,hb]
 ·cases hs
theorem snd_eqi {neg:Bool} {x:Opd} {a b:Value} {t:TypeId} {xo:Operand} {m:Array (String×TypeId)} {c:Bool} (hs:step (.eqi neg x) e h n=some (c,E)) (ht:P.underlying t=some (.interface m)) (hb:b= .nilIface)
 (hx:OK1 D φ e h x a) (hH:HR D φ (only (hget h) E.rd) w):
 Sim P D φ (only (hget h) E.rd) w n E ((do pure (Next.value (<-(do eqGuard (if neg then .neq else .eql) t xo (.const .nilIface) a b;binOp (if neg then .neq else .eql) t a b))):Sem Next).run P w):=by
 simp only [step,Option.bind_eq_some_iff] at hs;obtain ⟨v,hv,hs⟩:=hs;have ha:=hx v hv;subst hb;have hn0: ∀d,(Op.equalIn (d+1) t .nilIface .nilIface).run P w= .ok true w:=fun d=>by
  simp only [Op.equalIn,Sem.run_bind,run_underlying ht,Result.andThen_ok];simp
 have hk0: ∀d t' v',(Op.equalIn (d+1) t (.iface t' v') .nilIface).run P w= .ok false w:=fun d t' v'=>by
  simp only [Op.equalIn,Sem.run_bind,run_underlying ht,Result.andThen_ok];simp
 have hn:(Op.equal t .nilIface .nilIface).run P w= .ok true w:=hn0 9999;have hk: ∀t' v',(Op.equal t (.iface t' v') .nilIface).run P w= .ok false w:=fun t' v'=>hk0 9999 t' v';split at hs
 ·cases ha;refine snd_pure (u:= .bool (!neg)) hs hH ?_ (.b _);cases neg<;>simp [eqGuard,binOp,hn]
 ·cases ha;refine snd_pure (u:= .bool neg) hs hH ?_ (.b _);cases neg<;>simp [eqGuard,binOp,hk]
 ·cases hs
end
end Go.Ab
namespace Go.Ab
theorem obAs_map {ks:MKeys} {o:Option Obj} {cs:Array Value} {elem:TypeId} {fr:Nat×Nat} (h:ObAs (some ks) o cs elem fr): ∃es clk,o=some (.map es clk)/\es.toList.map (·.val)=cs.toList/\es.toList.map (·.key)=ks.vals:=h
theorem obAs_mk {ks:MKeys} {o:Option Obj} {es:Array MapEntry} {clk:Nat} {cs:Array Value} {elem:TypeId} {fr:Nat×Nat} (h:o=some (.map es clk)) (h1:es.toList.map (·.val)=cs.toList) (h2:es.toList.map (·.key)=ks.vals):ObAs (some ks) o cs elem fr:=⟨es,clk,h,h1,h2⟩
theorem Stp.allocM {D:Nat->Prop} {φ:Phi} {H:Hf} {w w':World} {n:Nat} {ks:MKeys} (hks:ks.vals=[])
 (hH:HR D φ H w) (hn: ¬D n) (hw:w'.heap=w.heap.push (.map #[] 0)) (hos:w'.os=w.os) (htape:w'.tape=w.tape) (hout:w'.output=w.output):
 Stp D φ H w (Dn D n (n+1)) (φ.set n w.heap.size 0 0) (fun b=>if b=n then some {cells:=[],mp:=some ks} else H b) w':=by
 have hD: ∀b,D b->Dn D n (n+1) b:=fun b h=> .inl h;have hnn: ¬D n:=hn;have hag:= @Phi.set_agree D φ n w.heap.size 0 0 hnn;have hold: ∀c,c<w.heap.size->w'.heap[c]? =w.heap[c]? :=fun c hc=>by rw [hw];exact getElem?_push_lt' hc
 have hsz:w'.heap.size=w.heap.size+1:=by rw [hw];simp
 have hne: ∀b k,H b=some k->b≠n:=fun b k hb e=>hnn (e▸(hH.at_ b k hb).1);refine Stp.mk' hH rfl rfl hD hag.at_ ⟨fun b k hb=> ?_,fun b1 b2 k1 k2 hne' h1 h2 hk=> ?_⟩ ⟨hos,htape,hout,by omega,fun c hc _=>hold c hc⟩ fun b k hb hk=> ?_
 ·by_cases hbn:b=n
  ·subst hbn;simp at hb;subst hb;exact ⟨.inr ⟨Nat.le_refl _,by omega⟩,⟨⟨#[],default,(0,0),obAs_mk (es:= #[]) (clk:=0) (by simp [Phi.set,hw]) rfl (by rw [hks];rfl),fun i v hv=>by simp at hv,fun _=>⟨by simp [Phi.set],fun i _=>by omega⟩,fun e he=>by cases he⟩,fun g' h=>by simp at h⟩⟩
  ·rw [if_neg hbn] at hb;have h':=hH.at_ b k hb;exact ⟨hD b h'.1,h'.2.mono hD hag h'.1 (hold _ h'.2.lt)⟩
 ·by_cases hb1:b1=n<;>by_cases hb2:b2=n
  ·exact absurd (hb1.trans hb2.symm) hne'
  ·rw [if_neg hb2] at h2;have:=(hH.at_ b2 k2 h2).2.lt;simp [Phi.set,hb1,hb2];omega
  ·rw [if_neg hb1] at h1;have:=(hH.at_ b1 k1 h1).2.lt;simp [Phi.set,hb1,hb2];omega
  ·rw [if_neg hb1] at h1;rw [if_neg hb2] at h2;simp [Phi.set,hb1,hb2];exact hH.sep b1 b2 k1 k2 hne' h1 h2 hk
 ·by_cases hbn:b=n
  ·left;simp [Phi.set,hbn]
  ·rw [if_neg hbn] at hb;right;exact ⟨b,k,hb,hk,by simp [Phi.set,hbn]⟩
theorem Sim.allocM {P:Program} {D:Nat->Prop} {φ:Phi} {H:Hf} {w w':World} {n:Nat} {ks:MKeys} {rd:List Nat} {r:Result Next} (hks:ks.vals=[])
 (hr:r= .ok (.value (.map (some w.heap.size))) w') (hH:HR D φ H w) (hn: ¬D n) (hw:w'.heap=w.heap.push (.map #[] 0)) (hos:w'.os=w.os) (htape:w'.tape=w.tape) (hout:w'.output=w.output):
 Sim P D φ H w n {v:= .m n,n:=n+1,rd,nw:=[(n,{cells:=[],mp:=some ks})]} r:=by
 have hv:VRel (Dn D n (n+1)) (φ.set n w.heap.size 0 0) (.m n) (.map (some w.heap.size)):=by
  have:=VRel.m (D:=Dn D n (n+1)) (φ:=φ.set n w.heap.size 0 0) n (.inr ⟨Nat.le_refl _,Nat.lt_succ_self _⟩);simpa [Phi.set] using this
 refine ⟨φ.set n w.heap.size 0 0,_,_,w',hr,.inl rfl,by show n<=n+1;omega,hv,by rw [app_alloc];exact Stp.allocM hks hH hn hw hos htape hout,fun b k hb hk=> ?_,fun b r h=>by simp [mget] at h,fun b k h=> ?_⟩
 ·rw [app_alloc] at hb;by_cases hbn:b=n
  ·simp [hbn] at hb;subst hb;simp at hk
  ·simpa [hbn] using hb
 ·simp only [hget] at h;by_cases hbn:Nat.beq n b=true
  ·have:=Nat.eq_of_beq_eq_true hbn;show n<=b/\b<n+1;omega
  ·simp [hbn] at h
theorem Stp.writeM {D:Nat->Prop} {φ:Phi} {H:Hf} {w w':World} {b:Nat} {k:Blk} {es':Array MapEntry} {clk':Nat} {ks':MKeys} {xs:List AV}
 (hH:HR D φ H w) (hb:H b=some k) (hro:k.ro=false) (hgr:k.gr=none) (hw:w'.heap=w.heap.setIfInBounds (φ.blk b) (.map es' clk'))
 (hos:w'.os=w.os) (htape:w'.tape=w.tape) (hout:w'.output=w.output) (hks:es'.toList.map (·.key)=ks'.vals)
 (hz: ∀(i:Nat) (v:AV),xs[i]? =some v-> ∃e,es'.toList[i]? =some e/\VRel D φ v e.val):
 Stp D φ H w D φ (fun c=>if c=b then some {k with cells:=xs,mp:=some ks'} else H c) w':=by
 have hlt:=(hH.at_ b k hb).2.lt;have hne: ∀c,c≠φ.blk b->w'.heap[c]? =w.heap[c]? :=fun c hc=>by rw [hw,getElem?_setIfInBounds' hlt,if_neg (Ne.symm hc)]
 refine Stp.mk' hH rfl rfl (fun _ h=>h) (Agree.refl D φ).at_ ⟨fun c k' hc=> ?_,fun b1 b2 k1 k2 hne' h1 h2 hk'=> ?_⟩ ⟨hos,htape,hout,by rw [hw];simp,fun c hc hn=>hne c (fun e=>hn b k hb hro e.symm)⟩ fun c k' hc hk'=> ?_
 ·by_cases hcb:c=b
  ·subst hcb;simp at hc;subst hc;obtain ⟨hd,⟨⟨cs0,elem0,fr0,h1,h2,h3,h4⟩,h5⟩⟩:=hH.at_ c k hb;have hoff:=(h3 hro).1 hgr;refine ⟨hd,⟨⟨(es'.toList.map (·.val)).toArray,elem0,(0,0),obAs_mk (es:=es') (clk:=clk') (by rw [hw,getElem?_setIfInBounds' hlt];simp) rfl hks,fun i v hv=> ?_,fun _=>⟨fun _=>hoff,fun i _=>by omega⟩,fun e he=>by rw [hgr] at he;cases he⟩,h5⟩⟩
   obtain ⟨e,he,hr⟩:=hz i v hv;exact ⟨e.val,by rw [hoff,Nat.zero_add];simp [<-Array.getElem?_toList,he],hr⟩
  ·rw [if_neg hcb] at hc;have h':=hH.at_ c k' hc;exact ⟨h'.1,h'.2.mono (fun _ h=>h) (Agree.refl _ _) h'.1 (hne _ (fun e=>hH.sep b c k k' (Ne.symm hcb) hb hc hro e.symm))⟩
 ·have key: ∀c k',(if c=b then some {k with cells:=xs,mp:=some ks'} else H c)=some k'-> ∃k0,H c=some k0/\k0.ro=k'.ro:=fun c k' hc=>by
   by_cases hcb:c=b
   ·subst hcb;simp at hc;subst hc;exact ⟨k,hb,rfl⟩
   ·rw [if_neg hcb] at hc;exact ⟨k',hc,rfl⟩
  obtain ⟨k10,g1,r1⟩:=key b1 k1 h1;obtain ⟨k20,g2,r2⟩:=key b2 k2 h2;exact hH.sep b1 b2 k10 k20 hne' g1 g2 (r1.trans hk')
 ·by_cases hcb:c=b
  ·subst hcb;exact .inr ⟨c,k,hb,hro,rfl⟩
  ·rw [if_neg hcb] at hc;exact .inr ⟨c,k',hc,hk',rfl⟩
theorem Sim.writeM {P:Program} {D:Nat->Prop} {φ:Phi} {H:Hf} {w w':World} {n b:Nat} {k:Blk} {es':Array MapEntry} {clk':Nat} {ks':MKeys} {xs:List AV} {v:AV} {u:Value} {nx:Next} {rd:List Nat} {r:Result Next}
 (hr:r= .ok nx w') (hnx:nx= .value u\/(nx= .skip/\u=undef)) (hv:VRel D φ v u) (hrd:inl rd b=true)
 (hH:HR D φ H w) (hb:H b=some k) (hro:k.ro=false) (hgr:k.gr=none) (hw:w'.heap=w.heap.setIfInBounds (φ.blk b) (.map es' clk'))
 (hos:w'.os=w.os) (htape:w'.tape=w.tape) (hout:w'.output=w.output) (hks:es'.toList.map (·.key)=ks'.vals)
 (hz: ∀(i:Nat) (v:AV),xs[i]? =some v-> ∃e,es'.toList[i]? =some e/\VRel D φ v e.val):
 Sim P D φ H w n {v,n,rd,md:=[(b,some {k with cells:=xs,mp:=some ks'})]} r:=by
 have h:=Stp.writeM hH hb hro hgr hw hos htape hout hks hz;have hd: ∀b,D b->Dn D n n b:=fun b h=> .inl h;have e:Dn D n n=D:=by funext b;exact propext Dn_self
 refine ⟨φ,u,nx,w',hr,hnx,Nat.le_refl _,hv.mono hd (Agree.refl _ _),by rw [app_write,e];exact h,fun c k' hc hk'=> ?_,fun c r hc=> ?_,fun b k h=>by simp [hget] at h⟩
 ·rw [app_write] at hc;by_cases hcb:c=b
  ·simp [hcb] at hc;subst hc;simp [hro] at hk'
  ·simpa [hcb] using hc
 ·simp only [mget] at hc;by_cases hcb:c=b
  ·subst hcb;exact hrd
  ·simp [beq_ne hcb] at hc
theorem vals_i (l:List Int):(MKeys.i l).vals=l.map fun x=> .int .i64 x:=rfl
theorem vals_s (l:List (List UInt8)):(MKeys.s l).vals=l.map fun x=> .string ⟨x.toArray⟩:=rfl
theorem findNow_i (κ:IntKind) (x:Int): ∀(es:List MapEntry) (l:List Int) (j:Nat),es.map (·.key)=(MKeys.i l).vals->Instr.findNow (.int κ) (.int .i64 x) es j=some ((l.findIdx? (x== ·)).bind fun i=>(es[i]?).map fun e=>(j+i,e.val))
 |[],[],j,_=>rfl
 |[],_::_,j,h=>by simp [vals_i] at h
 |_::_,[],j,h=>by simp [vals_i] at h
 |e::es,y::l,j,h=>by
  simp only [vals_i,List.map_cons,List.cons.injEq] at h;obtain ⟨h1,h2⟩:=h;simp only [Instr.findNow,h1,Instr.sameNow,if_true,List.findIdx?_cons];cases hc:x==y
  ·simp only [Bool.false_eq_true,if_false];rw [findNow_i κ x es l (j+1) h2];cases l.findIdx? (x== ·) with
   |none=>rfl
   |some i=>simp only [Option.map_some,Option.bind_some,List.getElem?_cons_succ];rw [Nat.add_assoc,Nat.add_comm 1 i]
  ·simp
theorem bas_eq (x y:List UInt8):((⟨x.toArray⟩:ByteArray)==⟨y.toArray⟩)=(x==y):=by
 show (x.toArray==y.toArray)=(x==y);simp
theorem bas_refl (x:List UInt8):((⟨x.toArray⟩:ByteArray)==⟨x.toArray⟩)=true:=by rw [bas_eq];simp
theorem findNow_s (x:List UInt8): ∀(es:List MapEntry) (l:List (List UInt8)) (j:Nat),es.map (·.key)=(MKeys.s l).vals->Instr.findNow .string (.string ⟨x.toArray⟩) es j=some ((l.findIdx? (x== ·)).bind fun i=>(es[i]?).map fun e=>(j+i,e.val))
 |[],[],j,_=>rfl
 |[],_::_,j,h=>by simp [vals_s] at h
 |_::_,[],j,h=>by simp [vals_s] at h
 |e::es,y::l,j,h=>by
  simp only [vals_s,List.map_cons,List.cons.injEq] at h;obtain ⟨h1,h2⟩:=h;have hb:((⟨x.toArray⟩:ByteArray)==⟨y.toArray⟩)=(x==y):=by
   exact bas_eq x y
  simp only [Instr.findNow,h1,Instr.sameNow,hb,List.findIdx?_cons];cases hc:x==y
  ·simp only [Bool.false_eq_true,if_false];rw [findNow_s x es l (j+1) h2];cases l.findIdx? (x== ·) with
   |none=>rfl
   |some i=>simp only [Option.map_some,Option.bind_some,List.getElem?_cons_succ];rw [Nat.add_assoc,Nat.add_comm 1 i]
  ·simp
theorem run_find {P:Program} {D:Nat->Prop} {φ:Phi} {w:World} {ks:MKeys} {k:AV} {u:Value} {r:Option Nat} {t:TypeId} {es:List MapEntry} (hf:ks.find k=some r) (ht:ks.ok P t=true) (hk:VRel D φ k u) (he:es.map (·.key)=ks.vals):
 (∀b,(Instr.checkKey b 10000 t u).run P w= .ok () w)/\(Instr.findKey t u es).run P w= .ok (r.bind fun i=>(es[i]?).map fun e=>(i,e.val)) w/\(∀i,r=some i-> ∃e,es[i]? =some e/\e.key=u)/\Instr.sameBits 10000 u u=true/\(ks.push k).vals=ks.vals++[u]:=by
 unfold MKeys.find at hf;split at hf
 ·rename_i l x;cases hf;cases hk;unfold MKeys.ok at ht;dsimp only at ht;split at ht
  ·rename_i κ hu;have hck: ∀(n:Nat) (b:Bool),(Instr.checkKey b (n+1) t (.int .i64 x)).run P w= .ok () w:=fun n b=>by simp [Instr.checkKey,run_underlying hu]
   have hsb: ∀n:Nat,Instr.sameBits (n+1) (.int .i64 x) (.int .i64 x)=true:=fun n=>by simp [Instr.sameBits]
   refine ⟨hck 9999,?_,fun i hi=> ?_,hsb 9999,by simp [MKeys.push,MKeys.vals]⟩
   ·simp only [Instr.findKey,Sem.run_bind,run_underlying hu,Result.andThen_ok,findNow_i κ x es l 0 he,Nat.zero_add,Sem.run_pure]
   ·obtain ⟨hlt,hx,_⟩:=List.findIdx?_eq_some_iff_getElem.1 hi;have hlen:es.length=l.length:=by simpa [vals_i] using congrArg List.length he
    have:=congrArg (fun m=>m[i]?) he;simp only [vals_i,List.getElem?_map,List.getElem?_eq_getElem hlt,List.getElem?_eq_getElem (show i<es.length by omega),Option.map_some,Option.some.injEq] at this
    exact ⟨es[i]'(by omega),List.getElem?_eq_getElem _,by rw [this];congr 1;exact (by simpa using hx:x=l[i]).symm⟩
  ·cases ht
 ·rename_i l x;cases hf;cases hk;unfold MKeys.ok at ht;dsimp only at ht;split at ht
  ·rename_i hu;have hck: ∀(n:Nat) (b:Bool),(Instr.checkKey b (n+1) t (.string ⟨x.toArray⟩)).run P w= .ok () w:=fun n b=>by simp [Instr.checkKey,run_underlying hu]
   have hsb: ∀n:Nat,Instr.sameBits (n+1) (.string ⟨x.toArray⟩) (.string ⟨x.toArray⟩)=true:=fun n=>by simp [Instr.sameBits,bas_refl]
   refine ⟨hck 9999,?_,fun i hi=> ?_,hsb 9999,by simp [MKeys.push,MKeys.vals]⟩
   ·simp only [Instr.findKey,Sem.run_bind,run_underlying hu,Result.andThen_ok,findNow_s x es l 0 he,Nat.zero_add,Sem.run_pure]
   ·obtain ⟨hlt,hx,_⟩:=List.findIdx?_eq_some_iff_getElem.1 hi;have hlen:es.length=l.length:=by simpa [vals_s] using congrArg List.length he
    have:=congrArg (fun m=>m[i]?) he;simp only [vals_s,List.getElem?_map,List.getElem?_eq_getElem hlt,List.getElem?_eq_getElem (show i<es.length by omega),Option.map_some,Option.some.injEq] at this
    exact ⟨es[i]'(by omega),List.getElem?_eq_getElem _,by rw [this,(by simpa using hx:x=l[i])]⟩
  ·cases ht
 ·cases hf
end Go.Ab
namespace Go.Ab
section
variable {P:Program} {D:Nat->Prop} {φ:Phi} {w:World} {n:Nat} {e:Env} {h:Hp} {E:Eff}
theorem run_getM {r:Nat} {es:Array MapEntry} {clk:Nat} (h:w.heap[r]? =some (.map es clk)):(getObj r).run P w= .ok (.map es clk) w:=by simp [getObj,Sem.run,h]
theorem run_setM {r:Nat} {es:Array MapEntry} {clk:Nat} (o:Obj) (h:w.heap[r]? =some (.map es clk)):(setObj r o).run P w= .ok () {w with heap:=w.heap.setIfInBounds r o}:=by simp [setObj,Sem.run,h]
theorem mapAt_spec {kd:Nat} {m k:AV} {q:Nat×Blk×MKeys×Option Nat} (hq:mapAt h kd m k=some q): ∃b,m= .m b/\q.1=b/\hget h b=some q.2.1/\q.2.1.ro=false/\q.2.1.gr=none/\q.2.1.mp=some q.2.2.1/\q.2.2.1.kd=kd/\q.2.2.1.find k=some q.2.2.2:=by
 unfold mapAt at hq;split at hq
 ·rename_i b;simp only [Option.bind_eq_some_iff] at hq;obtain ⟨K,hK,hq⟩:=hq;split at hq
  ·rename_i ks hr0 hg hm;split at hq
   ·rename_i hb;simp only [Option.bind_eq_some_iff] at hq;obtain ⟨r,hr,hq⟩:=hq;cases hq;exact ⟨b,rfl,rfl,hK,hr0,hg,hm,Nat.eq_of_beq_eq_true hb,hr⟩
   ·cases hq
  ·cases hq
 ·cases hq
theorem map_at {b:Nat} {K:Blk} {ks:MKeys} {rd:List Nat} (hH:HR D φ (only (hget h) rd) w) (hb:inl rd b=true) (hK:hget h b=some K) (hro:K.ro=false) (hg:K.gr=none) (hm:K.mp=some ks):
 only (hget h) rd b=some K/\ ∃es clk,w.heap[φ.blk b]? =some (.map es clk)/\es.toList.map (·.key)=ks.vals/\ ∀(i:Nat) (v:AV),K.cells[i]? =some v-> ∃e,es.toList[i]? =some e/\VRel D φ v e.val:=by
 have hkk:only (hget h) rd b=some K:=by rw [only_get hb];exact hK
 obtain ⟨_,⟨⟨cs,elem,fr,h1,h2,h3,_⟩,_⟩⟩:=hH.at_ b K hkk;rw [hm] at h1;obtain ⟨es,clk,g1,g2,g3⟩:=obAs_map h1;refine ⟨hkk,es,clk,g1,g3,fun i v hv=> ?_⟩;obtain ⟨u,hu,hr⟩:=h2 i v hv;rw [(h3 hro).1 hg,Nat.zero_add,<-Array.getElem?_toList,<-g2,List.getElem?_map,Option.map_eq_some_iff] at hu;obtain ⟨e,he,rfl⟩:=hu;exact ⟨e,he,hr⟩
theorem del_vals {ks:MKeys} {i:Nat}:(ks.del i).vals=ks.vals.eraseIdx i:=by
 apply List.ext_getElem?;intro j;cases ks<;>simp only [MKeys.del,MKeys.vals,List.getElem?_map,List.getElem?_eraseIdx]<;>split<;>rfl
theorem snd_mpN {ks:MKeys} {t:TypeId} {c:Bool} (hs:step (.mpN ks) e h n=some (c,E)) (hks:ks.vals=[]) (hn:n<E.n-> ¬D n) (hH:HR D φ (only (hget h) E.rd) w):
 Sim P D φ (only (hget h) E.rd) w n E ((do pure (Next.value (<-Instr.makeMap t none)):Sem Next).run P w):=by
 simp only [step,Option.some.injEq,Prod.mk.injEq] at hs;obtain ⟨_,rfl⟩:=hs;refine Sim.allocM (w':=w.alloc (.map #[] 0)) hks ?_ hH (hn (Nat.lt_succ_self n)) rfl rfl rfl rfl;simp [Instr.makeMap]
theorem snd_mpU {kd:Nat} {m k x:Opd} {um uk ux:Value} {t kt et:TypeId} {c:Bool} (hs:step (.mpU kd m k x) e h n=some (c,E)) (hc:c=true) (ht:P.underlying t=some (.map kt et)) (hkt:keyKd P kt=some kd)
 (hm:OK1 D φ e h m um) (hk:OK1 D φ e h k uk) (hx:OK1 D φ e h x ux) (hH:HR D φ (only (hget h) E.rd) w):
 Sim P D φ (only (hget h) E.rd) w n E ((do Instr.mapUpdate t um uk ux;pure Next.skip:Sem Next).run P w):=by
 simp only [step,Option.bind_eq_some_iff] at hs;obtain ⟨vm,hvm,vk,hvk,vx,hvx,q,hq,hs⟩:=hs;obtain ⟨b,rfl,hqb,hK,hro,hg,hmp,hkd,hf⟩:=mapAt_spec hq;obtain ⟨q1,K,ks,r⟩:=q;dsimp only at hqb hK hro hg hmp hkd hf hs;subst hqb;have hmr:=hm _ hvm;cases hmr;have hrd:inl E.rd q1=true:=by
  split at hs<;>cases hs<;>simp [inl]
 obtain ⟨hkk,es,clk,g1,g2,g3⟩:=map_at hH hrd hK hro hg hmp;obtain ⟨f1,f2,f3,f4,f5⟩:=run_find (P:=P) (w:=w) hf (keyKd_ok (by rw [hkt,hkd])) (hk _ hvk) g2
 have hget0:=run_getM (P:=P) g1;split at hs
 ·rename_i i;cases hs;obtain ⟨e0,he0,hkey⟩:=f3 i rfl;have he0':es[i]? =some e0:=by rw [<-Array.getElem?_toList];exact he0
  have hsz:i<es.size:=(Array.getElem?_eq_some_iff.1 he0').1;refine Sim.writeM (nx:= .skip) (u:=undef) (w':={w with heap:=w.heap.setIfInBounds (φ.blk q1) (.map (es.modify i fun e=>{e with key:=uk,val:=ux}) clk)}) (es':=es.modify i fun e=>{e with key:=uk,val:=ux}) (clk':=clk) ?_ (.inr ⟨rfl,rfl⟩) (VRel.tup [] #[] rfl (fun i a u ha=>by simp at ha)) (by simp [inl]) hH hkk hro hg rfl rfl rfl rfl ?_ (fun j v hv=> ?_)
  ·simp only [Instr.mapUpdate,Sem.run_bind,run_underlying ht,Result.andThen_ok,hget0,f1,f2,Option.bind_some,he0,Option.map_some,he0',Option.getD_some,Instr.keyThatStays,hkey,f4,if_true,Sem.run_pure,run_setM _ g1]
  ·rw [<-g2];apply List.ext_getElem?;intro j;simp only [List.getElem?_map,Array.getElem?_toList,Array.getElem?_modify];by_cases hij:i=j
   ·subst hij;simp [he0',hkey]
   ·simp [hij]
  ·rw [List.getElem?_set] at hv;simp only [Array.getElem?_toList,Array.getElem?_modify];by_cases hij:i=j
   ·subst hij;simp only [if_true] at hv;split at hv
    ·cases hv;exact ⟨{key:=uk,val:=ux,born:=e0.born},by simp [he0'],hx _ hvx⟩
    ·cases hv
   ·rw [if_neg hij] at hv;obtain ⟨e1,h1,h2⟩:=g3 j v hv;exact ⟨e1,by rw [if_neg hij,<-Array.getElem?_toList];exact h1,h2⟩
 ·simp only [Option.some.injEq,Prod.mk.injEq] at hs;obtain ⟨hlen,rfl⟩:=hs;rw [hc] at hlen;have hlen:K.cells.length=es.size:=by
   rw [Nat.eq_of_beq_eq_true hlen,<-MKeys.vals_len,<-g2];simp
  refine Sim.writeM (nx:= .skip) (u:=undef) (w':={w with heap:=w.heap.setIfInBounds (φ.blk q1) (.map (es.push {key:=uk,val:=ux,born:=clk}) (clk+1))}) (es':=es.push {key:=uk,val:=ux,born:=clk}) (clk':=clk+1) ?_ (.inr ⟨rfl,rfl⟩) (VRel.tup [] #[] rfl (fun i a u ha=>by simp at ha)) (by simp [inl]) hH hkk hro hg rfl rfl rfl rfl ?_ (fun j v hv=> ?_)
  ·simp only [Instr.mapUpdate,Sem.run_bind,run_underlying ht,Result.andThen_ok,hget0,f1,f2,Option.bind_none,Sem.run_pure,run_setM _ g1]
  ·rw [f5,<-g2];simp
  ·rw [List.getElem?_append] at hv;simp only [Array.toList_push];rw [List.getElem?_append,show es.toList.length=K.cells.length by simp [hlen]]
   split at hv
   ·rename_i hj;rw [if_pos hj];exact g3 j v hv
   ·rename_i hj;rw [if_neg hj];have:j-K.cells.length=0:=by
     rcases Nat.eq_zero_or_pos (j-K.cells.length) with h0|h0
     ·exact h0
     ·rw [List.getElem?_eq_none (by simp;omega)] at hv;cases hv
    rw [this] at hv ⊢;simp at hv;subst hv;exact ⟨_,rfl,hx _ hvx⟩
theorem snd_mpG {kd:Nat} {ok:Bool} {z:AV} {m k:Opd} {um uk zv:Value} {t kt et:TypeId} {i:TypeInfo} {c:Bool} (hs:step (.mpG kd ok z m k) e h n=some (c,E)) (ht:P.underlying t=some (.map kt et)) (hkt:keyKd P kt=some kd)
 (hi:P.info? et=some i) (hz:i.zero=some zv) (hzz:avOf zv=some z) (hm:OK1 D φ e h m um) (hk:OK1 D φ e h k uk) (hH:HR D φ (only (hget h) E.rd) w):
 Sim P D φ (only (hget h) E.rd) w n E ((do pure (Next.value (<-Instr.lookup t um uk ok)):Sem Next).run P w):=by
 simp only [step,Option.bind_eq_some_iff] at hs;obtain ⟨vm,hvm,vk,hvk,q,hq,hs⟩:=hs;obtain ⟨b,rfl,hqb,hK,hro,hg,hmp,hkd,hf⟩:=mapAt_spec hq;obtain ⟨q1,K,ks,r⟩:=q;dsimp only at hqb hK hro hg hmp hkd hf hs;subst hqb;have hmr:=hm _ hvm;cases hmr;have hzr:(zeroValue et).run P w= .ok zv w:=by simp [zeroValue,run_typeInfo hi,hz]
 split at hs
 ·rename_i j;simp only [Option.bind_eq_some_iff,Option.some.injEq,Prod.mk.injEq] at hs;obtain ⟨v,hv,_,rfl⟩:=hs;obtain ⟨hkk,es,clk,g1,g2,g3⟩:=map_at hH (by simp [inl]) hK hro hg hmp
  obtain ⟨f1,f2,f3,f4,f5⟩:=run_find (P:=P) (w:=w) hf (keyKd_ok (by rw [hkt,hkd])) (hk _ hvk) g2
  obtain ⟨e0,he0,hr0⟩:=g3 j v hv;have he0':es[j]? =some e0:=by rw [<-Array.getElem?_toList];exact he0
  cases ok
  ·refine Sim.pure (u:=e0.val) ?_ hH hr0;simp [Instr.lookup,run_underlying ht,run_getM g1,f1,f2,he0',Result.andThen_ok]
  ·refine Sim.pure (u:= .tuple #[e0.val,.bool true]) ?_ hH (VRel.tup' (m:=[e0.val,.bool true]) (.cons hr0 (.cons (.b _) .nil)));simp [Instr.lookup,run_underlying ht,run_getM g1,f1,f2,he0',Result.andThen_ok]
 ·simp only [Option.some.injEq,Prod.mk.injEq] at hs;obtain ⟨_,rfl⟩:=hs;obtain ⟨hkk,es,clk,g1,g2,g3⟩:=map_at hH (by simp [inl]) hK hro hg hmp
  obtain ⟨f1,f2,f3,f4,f5⟩:=run_find (P:=P) (w:=w) hf (keyKd_ok (by rw [hkt,hkd])) (hk _ hvk) g2
  cases ok
  ·refine Sim.pure (u:=zv) ?_ hH (avOf_rel hzz);simp [Instr.lookup,run_underlying ht,run_getM g1,f1,f2,hzr,Result.andThen_ok]
  ·refine Sim.pure (u:= .tuple #[zv,.bool false]) ?_ hH (VRel.tup' (m:=[zv,.bool false]) (.cons (avOf_rel hzz) (.cons (.b _) .nil)));simp [Instr.lookup,run_underlying ht,run_getM g1,f1,f2,hzr,Result.andThen_ok]
theorem snd_mpD {kd:Nat} {m k:Opd} {um uk:Value} {t kt et:TypeId} {tys:Array TypeId} {rt:TypeId} {c:Bool} (hs:step (.mpD kd m k) e h n=some (c,E)) (h0:tys[0]? =some t) (ht:P.underlying t=some (.map kt et)) (hkt:keyKd P kt=some kd)
 (hm:OK1 D φ e h m um) (hk:OK1 D φ e h k uk) (hH:HR D φ (only (hget h) E.rd) w):
 Sim P D φ (only (hget h) E.rd) w n E ((do pure (Next.value (<-Builtin.delete_ tys rt #[um,uk])):Sem Next).run P w):=by
 simp only [step,Option.bind_eq_some_iff] at hs;obtain ⟨vm,hvm,vk,hvk,q,hq,hs⟩:=hs;obtain ⟨b,rfl,hqb,hK,hro,hg,hmp,hkd,hf⟩:=mapAt_spec hq;obtain ⟨q1,K,ks,r⟩:=q;dsimp only at hqb hK hro hg hmp hkd hf hs;subst hqb;have hmr:=hm _ hvm;cases hmr;have hrd:inl E.rd q1=true:=by split at hs<;>cases hs<;>simp [inl]
 obtain ⟨hkk,es,clk,g1,g2,g3⟩:=map_at hH hrd hK hro hg hmp;obtain ⟨f1,f2,f3,f4,f5⟩:=run_find (P:=P) (w:=w) hf (keyKd_ok (by rw [hkt,hkd])) (hk _ hvk) g2
 split at hs
 ·rename_i i;cases hs;obtain ⟨e0,he0,hkey⟩:=f3 i rfl;have he0':es[i]? =some e0:=by rw [<-Array.getElem?_toList];exact he0
  have hlt:i<es.size:=(Array.getElem?_eq_some_iff.1 he0').1;have hel:(es.eraseIdxIfInBounds i).toList=es.toList.eraseIdx i:=by simp [Array.eraseIdxIfInBounds,hlt]
  refine Sim.writeM (nx:= .value (.tuple #[])) (u:= .tuple #[]) (w':={w with heap:=w.heap.setIfInBounds (φ.blk q1) (.map (es.eraseIdxIfInBounds i) clk)}) (es':=es.eraseIdxIfInBounds i) (clk':=clk) ?_ (.inl rfl) (VRel.tup [] #[] rfl (fun i a u ha=>by simp at ha)) (by simp [inl]) hH hkk hro hg rfl rfl rfl rfl ?_ (fun j v hv=> ?_)
  ·simp [Builtin.delete_,h0,run_underlying ht,run_getM g1,f1,f2,he0',Result.andThen_ok,run_setM _ g1]
  ·rw [hel,del_vals,<-g2];apply List.ext_getElem?;intro j;simp only [List.getElem?_map,List.getElem?_eraseIdx];split<;>rfl
  ·rw [hel,List.getElem?_eraseIdx];rw [List.getElem?_eraseIdx] at hv;split at hv
   ·rename_i hj;rw [if_pos hj];exact g3 j v hv
   ·rename_i hj;rw [if_neg hj];exact g3 (j+1) v hv
 ·cases hs;refine Sim.writeM (nx:= .value (.tuple #[])) (u:= .tuple #[]) (w':={w with heap:=w.heap.setIfInBounds (φ.blk q1) (.map es clk)}) (es':=es) (clk':=clk) ?_ (.inl rfl) (VRel.tup [] #[] rfl (fun i a u ha=>by simp at ha)) (by simp [inl]) hH hkk hro hg rfl rfl rfl rfl g2 g3
  simp [Builtin.delete_,h0,run_underlying ht,run_getM g1,f1,f2,Result.andThen_ok,run_setM _ g1]
end
end Go.Ab
namespace Go.Ab
section
variable {P:Program} {D:Nat->Prop} {φ:Phi} {w:World} {n:Nat} {e:Env} {h:Hp} {E:Eff} {ρ:Operand->Value}
theorem orBad_some {x:Option IOp} {r:Bool×Eff} (hs:step (orBad x) e h n=some r): ∃y,x=some y/\step y e h n=some r:=by
 cases x with
 |none=>simp [orBad,step] at hs
 |some y=>exact ⟨y,rfl,by simpa [orBad] using hs⟩
theorem bad_none {r:Bool×Eff} (hs:step .bad e h n=some r):False:=by simp [step] at hs
def OKs (D:Nat->Prop) (φ:Phi) (e:Env) (h:Hp) (ρ:Operand->Value) (o:Op):Prop:= ∀y∈o.operands.toList,∀x,cO y=some x->OK1 D φ e h x (ρ y)
theorem cOo_rel {y:Option Operand} {x:Option Opd} (hc:cOo y=some x) (hk: ∀q,y=some q-> ∀x,cO q=some x->OK1 D φ e h x (ρ q)):OKo D φ e h x (y.map ρ):=by
 cases y with
 |none=>simp [cOo] at hc;subst hc;trivial
 |some q=>
  simp only [cOo] at hc;obtain ⟨x',hx,rfl⟩:=Option.map_eq_some_iff.1 hc;exact hk q rfl x' hx
set_option maxHeartbeats 4000000 in
theorem step_sound {o:Oper} {c:Bool} (hs:step (compOp P o.op) e h n=some (c,E)) (hc:c=true) (hn:n<E.n-> ¬D n) (hk:OKs D φ e h ρ o.op)
 (hH:HR D φ (only (hget h) E.rd) w):Sim P D φ (only (hget h) E.rd) w n E ((execOp ρ o).run P w):=by
 cases hop:o.op<;>rw [hop] at hs hk<;>simp only [compOp] at hs<;>simp only [OKs,Op.operands] at hk
 case move x=>
  obtain ⟨y,hy,hs⟩:=orBad_some hs;obtain ⟨x',hx,rfl⟩:=Option.map_eq_some_iff.1 hy;simp only [execOp,hop];exact snd_mv hs (hk x (by simp) x' hx) hH
 case assign x=>
  obtain ⟨y,hy,hs⟩:=orBad_some hs;obtain ⟨x',hx,rfl⟩:=Option.map_eq_some_iff.1 hy;simp only [execOp,hop];exact snd_mv hs (hk x (by simp) x' hx) hH
 case pick a b d=>
  obtain ⟨y,hy,hs⟩:=orBad_some hs;simp only [Option.bind_eq_some_iff,Option.map_eq_some_iff] at hy;obtain ⟨a',ha,b',hb,d',hd,rfl⟩:=hy;simp only [execOp,hop];exact snd_pick hs (hk a (by simp) a' ha) (hk b (by simp) b' hb) (hk d (by simp) d' hd) hH
 case alloc t=>
  obtain ⟨y,hy,hs⟩:=orBad_some hs;obtain ⟨z,hz,rfl⟩:=Option.map_eq_some_iff.1 hy;simp only [execOp,hop];exact snd_new hs (tyZeroA_eq hz) hn hH
 case box t x=>
  obtain ⟨y,hy,hs⟩:=orBad_some hs;obtain ⟨x',hx,rfl⟩:=Option.map_eq_some_iff.1 hy;simp only [execOp,hop];exact snd_box hs hc (hk x (by simp) x' hx) hn hH
 case build t ps=>
  have hk': ∀q∈ps.toList,∀x,cO q.2=some x->OK1 D φ e h x (ρ q.2):=fun q hq x hx=>hk q.2 (by simp;exact ⟨q.1,by simpa using hq⟩) x hx
  split at hs
  ·rename_i fs hu;obtain ⟨y,hy,hs⟩:=orBad_some hs;simp only [Option.bind_eq_some_iff] at hy;obtain ⟨z,hz,hy⟩:=hy;split at hy
   ·rename_i hall;obtain ⟨l,hl,rfl⟩:=Option.map_eq_some_iff.1 hy;simp only [execOp,hop];exact snd_buildS hs hu hz hall hl hk' hH
   ·cases hy
  ·rename_i m el hu;obtain ⟨y,hy,hs⟩:=orBad_some hs;simp only [Option.bind_eq_some_iff,Option.map_eq_some_iff] at hy;obtain ⟨z,hz,s,hsz,l,hl,rfl⟩:=hy;simp only [execOp,hop];exact snd_buildA hs hu hz hsz hl hk' hH
  ·exact (bad_none hs).elim
 case buildSlice t len ps=>
  have hk': ∀q∈ps.toList,∀x,cO q.2=some x->OK1 D φ e h x (ρ q.2):=fun q hq x hx=>hk q.2 (by simp;exact ⟨q.1,by simpa using hq⟩) x hx
  split at hs
  ·rename_i el hu;obtain ⟨y,hy,hs⟩:=orBad_some hs;simp only [Option.bind_eq_some_iff] at hy;obtain ⟨z,hz,s,hsz,hy⟩:=hy;split at hy
   ·rename_i hcond;obtain ⟨l,hl,rfl⟩:=Option.map_eq_some_iff.1 hy;simp only [execOp,hop];exact snd_bsl hs hu hz hsz hcond.1 hcond.2 hl hk' hn hH
   ·cases hy
  ·exact (bad_none hs).elim
 case load t a=>
  obtain ⟨y,hy,hs⟩:=orBad_some hs;simp only [Option.bind_eq_some_iff,Option.map_eq_some_iff] at hy;obtain ⟨g,hg,z,hz,a',ha,rfl⟩:=hy;simp only [execOp,hop];exact snd_ld hs hc hg hz (hk a (by simp) a' ha) hH
 case store t a x=>
  obtain ⟨y,hy,hs⟩:=orBad_some hs;simp only [Option.bind_eq_some_iff,Option.map_eq_some_iff] at hy;obtain ⟨z,hz,a',ha,x',hx,rfl⟩:=hy;simp only [execOp,hop];exact snd_st hs hc hz (hk a (by simp) a' ha) (hk x (by simp) x' hx) hH
 case nilCheck x=>
  obtain ⟨y,hy,hs⟩:=orBad_some hs;obtain ⟨x',hx,rfl⟩:=Option.map_eq_some_iff.1 hy;exact snd_nck hs (hk x (by simp) x' hx) hH hop rfl
 case binOp op t x y _=>
  split at hs
  ·obtain ⟨q,hq,hs⟩:=orBad_some hs;simp only [Option.bind_eq_some_iff,Option.map_eq_some_iff] at hq;obtain ⟨x',hx,y',hy,rfl⟩:=hq;simp only [execOp,hop];exact snd_bin hs hc (hk x (by simp) x' hx) (hk y (by simp) y' hy) hH
  ·obtain ⟨q,hq,hs⟩:=orBad_some hs;simp only [Option.bind_eq_some_iff,Option.map_eq_some_iff] at hq;obtain ⟨x',hx,y',hy,rfl⟩:=hq;simp only [execOp,hop];exact snd_bin hs hc (hk x (by simp) x' hx) (hk y (by simp) y' hy) hH
  ·rename_i m hmi;have hb: ∀(v':Nat),y= .const .nilIface->ρ y= .nilIface:=fun v' hy=>by
    have h1:=hk y (by simp) (.c .ni) (by rw [hy];rfl) .ni rfl
    generalize ρ y=u0 at h1;cases h1;rfl
   split at hs
   ·obtain ⟨q,hq,hs⟩:=orBad_some hs;obtain ⟨x',hx,rfl⟩:=Option.map_eq_some_iff.1 hq;simp only [execOp,hop];exact snd_eqi (neg:=false) hs hmi (hb 0 rfl) (hk x (by simp) x' hx) hH
   ·obtain ⟨q,hq,hs⟩:=orBad_some hs;obtain ⟨x',hx,rfl⟩:=Option.map_eq_some_iff.1 hq;simp only [execOp,hop];exact snd_eqi (neg:=true) hs hmi (hb 0 rfl) (hk x (by simp) x' hx) hH
   ·exact (bad_none hs).elim
  ·rename_i hni hns _;split at hs
   ·rename_i k hnil;split at hs
    ·obtain ⟨q,hq,hs⟩:=orBad_some hs;simp only [Option.bind_eq_some_iff,Option.map_eq_some_iff] at hq;obtain ⟨x',hx,y',hy,rfl⟩:=hq;simp only [execOp,hop];exact snd_eqn (neg:=false) hs hnil (hk x (by simp) x' hx) (hk y (by simp) y' hy) hH
    ·obtain ⟨q,hq,hs⟩:=orBad_some hs;simp only [Option.bind_eq_some_iff,Option.map_eq_some_iff] at hq;obtain ⟨x',hx,y',hy,rfl⟩:=hq;simp only [execOp,hop];exact snd_eqn (neg:=true) hs hnil (hk x (by simp) x' hx) (hk y (by simp) y' hy) hH
    ·exact (bad_none hs).elim
   ·split at hs
    ·rename_i hgd;split at hs
     ·obtain ⟨q,hq,hs⟩:=orBad_some hs;simp only [Option.bind_eq_some_iff,Option.map_eq_some_iff] at hq;obtain ⟨ks,hks,g,hg,x',hx,y',hy,rfl⟩:=hq;simp only [execOp,hop];exact snd_eqk (neg:=false) hs hks hg hgd ⟨fun k hk=>hni k hk,hns⟩ (hk x (by simp) x' hx) (hk y (by simp) y' hy) hH
     ·obtain ⟨q,hq,hs⟩:=orBad_some hs;simp only [Option.bind_eq_some_iff,Option.map_eq_some_iff] at hq;obtain ⟨ks,hks,g,hg,x',hx,y',hy,rfl⟩:=hq;simp only [execOp,hop];exact snd_eqk (neg:=true) hs hks hg hgd ⟨fun k hk=>hni k hk,hns⟩ (hk x (by simp) x' hx) (hk y (by simp) y' hy) hH
     ·exact (bad_none hs).elim
    ·exact (bad_none hs).elim
 case unOp op t x=>
  split at hs
  ·obtain ⟨y,hy,hs⟩:=orBad_some hs;obtain ⟨x',hx,rfl⟩:=Option.map_eq_some_iff.1 hy;simp only [execOp,hop];exact snd_not hs (hk x (by simp) x' hx) hH
  ·obtain ⟨y,hy,hs⟩:=orBad_some hs;obtain ⟨x',hx,rfl⟩:=Option.map_eq_some_iff.1 hy;simp only [execOp,hop];exact snd_neg hs (hk x (by simp) x' hx) hH
  ·exact (bad_none hs).elim
 case convert s d x=>
  split at hs
  ·rename_i j k h1 h2;obtain ⟨y,hy,hs⟩:=orBad_some hs;obtain ⟨x',hx,rfl⟩:=Option.map_eq_some_iff.1 hy;simp only [execOp,hop];exact snd_i2i hs ⟨_,h1⟩ h2 (hk x (by simp) x' hx) hH
  ·rename_i h1 h2;obtain ⟨y,hy,hs⟩:=orBad_some hs;obtain ⟨x',hx,rfl⟩:=Option.map_eq_some_iff.1 hy;simp only [execOp,hop];exact snd_idc hs h1 h2 (hk x (by simp) x' hx) hH
  ·rename_i h1 h2;split at hs
   ·rename_i h3;obtain ⟨y,hy,hs⟩:=orBad_some hs;obtain ⟨x',hx,rfl⟩:=Option.map_eq_some_iff.1 hy;simp only [execOp,hop];exact snd_s2b hs h1 h2 h3 hn (hk x (by simp) x' hx) hH
   ·exact (bad_none hs).elim
  ·rename_i h1 h2;split at hs
   ·rename_i h3;obtain ⟨y,hy,hs⟩:=orBad_some hs;obtain ⟨x',hx,rfl⟩:=Option.map_eq_some_iff.1 hy;simp only [execOp,hop];exact snd_b2s hs hc h1 h2 h3 (hk x (by simp) x' hx) hH
   ·exact (bad_none hs).elim
  ·exact (bad_none hs).elim
 case makeFunc fn first caps=>
  cases fn with
  |func f=>
   simp only at hs;split at hs
   ·rename_i hf0;obtain ⟨y,hy,hs⟩:=orBad_some hs;obtain ⟨l,hl,rfl⟩:=Option.map_eq_some_iff.1 hy;simp only [Bool.and_eq_true,decide_eq_true_eq,Bool.not_eq_true'] at hf0;have hfe:first= #[]:=Array.eq_empty_of_size_eq_zero hf0.1
    subst hfe;have hfy:f≠YB:=fun h=>by have:=hf0.2;rw [h] at this;simp at this
    have:=snd_mkf (P:=P) (w:=w) (ρ:=ρ) hfy hs hl (fun y hy x hx=>hk y (by simpa using hy) x hx) hH
    simp only [execOp,hop];have hmap:(caps.toList.map ρ).toArray=caps.map ρ:=by apply Array.ext';simp
    rw [hmap] at this;simpa using this
   ·split at hs
    ·rename_i hf0;obtain ⟨y,hy,hs⟩:=orBad_some hs;obtain ⟨l,hl,rfl⟩:=Option.map_eq_some_iff.1 hy;simp only [Bool.and_eq_true,decide_eq_true_eq,Bool.not_eq_true'] at hf0;have hfe:caps= #[]:=Array.eq_empty_of_size_eq_zero hf0.1;subst hfe;have hfy:f≠YB:=fun h=>by have:=hf0.2;rw [h] at this;simp at this
     have:=snd_mkm (P:=P) (w:=w) (ρ:=ρ) hfy hs hl (fun y hy x hx=>hk y (by simpa using hy) x hx) hH
     simp only [execOp,hop];have hmap:(first.toList.map ρ).toArray=first.map ρ:=by apply Array.ext';simp
     rw [hmap] at this;simpa using this
    ·exact (bad_none hs).elim
  |_=>exact (bad_none hs).elim
 case slice t x lo hi mx=>
  have hlo: ∀q,lo=some q-> ∀x,cO q=some x->OK1 D φ e h x (ρ q):=fun q hq x hx=>hk q (by simp [hq]) x hx
  have hhi: ∀q,hi=some q-> ∀x,cO q=some x->OK1 D φ e h x (ρ q):=fun q hq x hx=>hk q (by simp [hq]) x hx
  have hm: ∀q,mx=some q-> ∀x,cO q=some x->OK1 D φ e h x (ρ q):=fun q hq x hx=>hk q (by simp [hq]) x hx
  split at hs
  ·exact (bad_none hs).elim
  rename_i hmm0;have hmh:mx=none\/hi.isSome=true:=by cases mx<;>cases hi<;>simp_all
  have hmh': ∀hi' mx',cOo hi=some hi'->cOo mx=some mx'->mx'=none\/hi'.isSome=true:=fun hi' mx' h1 h2=>by
   rcases hmh with rfl|hh
   ·simp [cOo] at h2;exact .inl h2.symm
   ·cases hi with
    |none=>simp at hh
    |some q=>simp only [cOo] at h1;obtain ⟨y,_,rfl⟩:=Option.map_eq_some_iff.1 h1;exact .inr rfl
  split at hs
  ·rename_i hu;split at hs
   ·obtain ⟨y,hy,hs⟩:=orBad_some hs;simp only [Option.bind_eq_some_iff,Option.map_eq_some_iff] at hy;obtain ⟨x',hx,lo',hl,hi',hh,rfl⟩:=hy;simp only [execOp,hop];exact snd_slS hs hc hu (hk x (by simp) x' hx) (cOo_rel hl hlo) (cOo_rel hh hhi) hH
   ·exact (bad_none hs).elim
  ·rename_i el hu;obtain ⟨y,hy,hs⟩:=orBad_some hs;simp only [Option.bind_eq_some_iff,Option.map_eq_some_iff] at hy;obtain ⟨z,hz,x',hx,lo',hl,hi',hh,mx',hmm,rfl⟩:=hy;simp only [execOp,hop];exact snd_slV hs hc hu hz (hk x (by simp) x' hx) (cOo_rel hl hlo) (cOo_rel hh hhi) (cOo_rel hmm hm) (hmh' _ _ hh hmm) hH
  ·rename_i m el hu;obtain ⟨y,hy,hs⟩:=orBad_some hs;simp only [Option.bind_eq_some_iff,Option.map_eq_some_iff] at hy;obtain ⟨z,hz,x',hx,lo',hl,hi',hh,mx',hmm,rfl⟩:=hy;simp only [execOp,hop];exact snd_slA hs hc hu hz (hk x (by simp) x' hx) (cOo_rel hl hlo) (cOo_rel hh hhi) (cOo_rel hmm hm) (hmh' _ _ hh hmm) hH
  ·exact (bad_none hs).elim
 case fieldAddr t x f=>
  obtain ⟨y,hy,hs⟩:=orBad_some hs;simp only [Option.bind_eq_some_iff] at hy;obtain ⟨q,hq,hy⟩:=hy;split at hy
  ·cases hy
  ·rename_i hq0;obtain ⟨x',hx,rfl⟩:=Option.map_eq_some_iff.1 hy;simp only [execOp,hop];exact snd_fa hs hq hq0 (hk x (by simp) x' hx) hH
 case field t x f=>
  obtain ⟨y,hy,hs⟩:=orBad_some hs;simp only [Option.bind_eq_some_iff,Option.map_eq_some_iff] at hy;obtain ⟨q,hq,g,hg,x',hx,rfl⟩:=hy;simp only [execOp,hop];exact snd_fld hs hc hq hg (hk x (by simp) x' hx) hH
 case indexAddr t x i=>
  split at hs
  ·rename_i m el hu;obtain ⟨y,hy,hs⟩:=orBad_some hs;simp only [Option.bind_eq_some_iff,Option.map_eq_some_iff] at hy;obtain ⟨z,hz,x',hx,i',hi,rfl⟩:=hy;simp only [execOp,hop];exact snd_ixaA hs hc hu hz (hk x (by simp) x' hx) (hk i (by simp) i' hi) hH
  ·rename_i el hu;obtain ⟨y,hy,hs⟩:=orBad_some hs;simp only [Option.bind_eq_some_iff,Option.map_eq_some_iff] at hy;obtain ⟨z,hz,x',hx,i',hi,rfl⟩:=hy;simp only [execOp,hop];exact snd_ixaV hs hc hu hz (hk x (by simp) x' hx) (hk i (by simp) i' hi) hH
  ·exact (bad_none hs).elim
 case index t x i=>
  split at hs
  ·rename_i m el hu;obtain ⟨y,hy,hs⟩:=orBad_some hs;simp only [Option.bind_eq_some_iff,Option.map_eq_some_iff] at hy;obtain ⟨z,hz,g,hg,x',hx,i',hi,rfl⟩:=hy;simp only [execOp,hop];exact snd_ixA hs hc hu hz hg (hk x (by simp) x' hx) (hk i (by simp) i' hi) hH
  ·rename_i hu;obtain ⟨y,hy,hs⟩:=orBad_some hs;simp only [Option.bind_eq_some_iff,Option.map_eq_some_iff] at hy;obtain ⟨x',hx,i',hi,rfl⟩:=hy;simp only [execOp,hop];exact snd_ixS hs hc hu (hk x (by simp) x' hx) (hk i (by simp) i' hi) hH
  ·exact (bad_none hs).elim
 case extract x i=>
  obtain ⟨y,hy,hs⟩:=orBad_some hs;obtain ⟨x',hx,rfl⟩:=Option.map_eq_some_iff.1 hy;simp only [execOp,hop];exact snd_ext hs (hk x (by simp) x' hx) hH
 case makeInterface t x=>
  split at hs
  ·exact (bad_none hs).elim
  ·rename_i d hd hu;obtain ⟨y,hy,hs⟩:=orBad_some hs;obtain ⟨x',hx,rfl⟩:=Option.map_eq_some_iff.1 hy;simp only [execOp,hop];exact snd_mki hs hu (fun m hm=>hd m hm) (hk x (by simp) x' hx) hH
  ·exact (bad_none hs).elim
 case typeAssert x xt t ok=>
  split at hs
  ·exact (bad_none hs).elim
  ·rename_i d hd hu;obtain ⟨y,hy,hs⟩:=orBad_some hs;simp only [Option.bind_eq_some_iff,Option.map_eq_some_iff] at hy;obtain ⟨i,hi,z,hz,zz,hzz,x',hx,rfl⟩:=hy;simp only [execOp,hop];exact snd_tas hs hu (fun m hm=>hd m hm) hi hz hzz (hk x (by simp) x' hx) hH
  ·exact (bad_none hs).elim
 case panic x=>
  obtain ⟨y,hy,hs⟩:=orBad_some hs;obtain ⟨x',hx,rfl⟩:=Option.map_eq_some_iff.1 hy;simp [step] at hs
 case defer cl=>
  split at hs
  ·obtain ⟨y,hy,hs⟩:=orBad_some hs;simp only [Option.bind_eq_some_iff,Option.map_eq_some_iff] at hy;obtain ⟨f',_,l,_,rfl⟩:=hy;simp [step] at hs
  ·exact (bad_none hs).elim
 case makeMap t r=>
  split at hs
  ·exact (bad_none hs).elim
  ·split at hs
   ·rename_i kt et hu;split at hs
    ·simp only [execOp,hop,Option.map_none];exact snd_mpN hs rfl hn hH
    ·simp only [execOp,hop,Option.map_none];exact snd_mpN hs rfl hn hH
    ·exact (bad_none hs).elim
   ·exact (bad_none hs).elim
 case lookup t x k ok=>
  split at hs
  ·rename_i kt et hu;obtain ⟨y,hy,hs⟩:=orBad_some hs;simp only [Option.bind_eq_some_iff,Option.map_eq_some_iff] at hy;obtain ⟨kd,hkd,i,hi,z,hz,zz,hzz,m',hm,k',hkk,rfl⟩:=hy;simp only [execOp,hop];exact snd_mpG hs hu hkd hi hz hzz (hk x (by simp) m' hm) (hk k (by simp) k' hkk) hH
  ·exact (bad_none hs).elim
 case mapUpdate t m k x=>
  split at hs
  ·rename_i kt et hu;obtain ⟨y,hy,hs⟩:=orBad_some hs;simp only [Option.bind_eq_some_iff,Option.map_eq_some_iff] at hy;obtain ⟨kd,hkd,m',hm,k',hkk,x',hx,rfl⟩:=hy;simp only [execOp,hop];exact snd_mpU hs hc hu hkd (hk m (by simp) m' hm) (hk k (by simp) k' hkk) (hk x (by simp) x' hx) hH
  ·exact (bad_none hs).elim
 case insert t m k x=>
  split at hs
  ·rename_i kt et hu;obtain ⟨y,hy,hs⟩:=orBad_some hs;simp only [Option.bind_eq_some_iff,Option.map_eq_some_iff] at hy;obtain ⟨kd,hkd,m',hm,k',hkk,x',hx,rfl⟩:=hy;simp only [execOp,hop];exact snd_mpU hs hc hu hkd (hk m (by simp) m' hm) (hk k (by simp) k' hkk) (hk x (by simp) x' hx) hH
  ·exact (bad_none hs).elim
 case makeSlice t l cc=>
  split at hs
  ·rename_i el hu;obtain ⟨y,hy,hs⟩:=orBad_some hs;simp only [Option.bind_eq_some_iff] at hy;obtain ⟨i,hi,z,hz,hy⟩:=hy;split at hy
   ·rename_i hzl;simp only [Option.bind_eq_some_iff,Option.map_eq_some_iff] at hy;obtain ⟨l',hl,c',hcc,rfl⟩:=hy;simp only [execOp,hop];exact snd_mks (z:=0) (bytes:=0) hs hc hu hi hz hzl (hk l (by simp) l' hl) (hk cc (by simp) c' hcc) hn hH
   ·cases hy
  ·exact (bad_none hs).elim
 case call cl=>
  split at hs
  ·rename_i f hcal;obtain ⟨y,hy,hs⟩:=orBad_some hs;simp only [Option.bind_eq_some_iff,Option.map_eq_some_iff] at hy;obtain ⟨f',_,l,_,rfl⟩:=hy;simp [step] at hs
  ·rename_i b hcal;obtain ⟨callee,args,argTypes⟩:=cl;simp only at hcal;subst hcal;obtain ⟨argl⟩:=args;obtain ⟨tyl⟩:=argTypes;simp only [Call.operands] at hk;simp only at hs;have hkl: ∀y∈argl,∀x,cO y=some x->OK1 D φ e h x (ρ y):=fun y hy=>hk y (by simpa using hy)
   have hbt: ∀(s:Sem Value),(execOp ρ o).run P w=(do let d <-resolve ρ {callee:= .builtin b,args:=⟨argl⟩,argTypes:=⟨tyl⟩} o.type;invoke d.target d.args:Sem Next).run P w:=fun s=>by simp only [execOp,hop]
   rw [hbt (pure undef)];simp only [resolve,Sem.run_bind,Sem.run_pure,Result.andThen_ok,invoke];split at hs
   ·rename_i x t;simp only [builtin];have harg:(Array.map ρ ⟨[x]⟩)= #[ρ x]:=by simp
    have htl:(⟨[t]⟩:Array TypeId)= #[t]:=rfl;rw [harg,htl];split at hs
    ·rename_i hu;obtain ⟨y,hy,hs⟩:=orBad_some hs;obtain ⟨x',hx,rfl⟩:=Option.map_eq_some_iff.1 hy;exact snd_lenS hs hu (hkl x (by simp) x' hx) hH
    ·rename_i el hu;obtain ⟨y,hy,hs⟩:=orBad_some hs;obtain ⟨x',hx,rfl⟩:=Option.map_eq_some_iff.1 hy;exact snd_lenV hs hu (hkl x (by simp) x' hx) hH
    ·rename_i m el hu;exact snd_lenC hs (.inl ⟨_,hu⟩) hH
    ·rename_i a hu;split at hs
     ·rename_i m el ha;exact snd_lenC hs (.inr ⟨_,_,hu,ha⟩) hH
     ·exact (bad_none hs).elim
    ·exact (bad_none hs).elim
   ·rename_i x t;simp only [builtin];have harg:(Array.map ρ ⟨[x]⟩)= #[ρ x]:=by simp
    have htl:(⟨[t]⟩:Array TypeId)= #[t]:=rfl;rw [harg,htl];split at hs
    ·rename_i el hu;obtain ⟨y,hy,hs⟩:=orBad_some hs;obtain ⟨x',hx,rfl⟩:=Option.map_eq_some_iff.1 hy;exact snd_capV hs hu (hkl x (by simp) x' hx) hH
    ·exact (bad_none hs).elim
   ·rename_i x xs;obtain ⟨y,hy,hs⟩:=orBad_some hs;simp only [Option.bind_eq_some_iff,Option.map_eq_some_iff] at hy;obtain ⟨x',hx,l,hl,rfl⟩:=hy;simp only [builtin];have harg:(Array.map ρ ⟨x::xs⟩)=(ρ x::xs.map ρ).toArray:=by simp
    rw [harg];exact snd_mn hs hl (hkl x (by simp) x' hx) (fun y hy=>hkl y (by simp [hy])) hH
   ·rename_i x xs;obtain ⟨y,hy,hs⟩:=orBad_some hs;simp only [Option.bind_eq_some_iff,Option.map_eq_some_iff] at hy;obtain ⟨x',hx,l,hl,rfl⟩:=hy;simp only [builtin];have harg:(Array.map ρ ⟨x::xs⟩)=(ρ x::xs.map ρ).toArray:=by simp
    rw [harg];exact snd_mx hs hl (hkl x (by simp) x' hx) (fun y hy=>hkl y (by simp [hy])) hH
   ·rename_i s x t u;simp only [builtin];have harg:(Array.map ρ ⟨[s,x]⟩)= #[ρ s,ρ x]:=by simp
    have htl:(⟨[t,u]⟩:Array TypeId)= #[t,u]:=rfl;rw [harg,htl];split at hs
    ·rename_i el kn hu hu2;obtain ⟨y,hy,hs⟩:=orBad_some hs;simp only [Option.bind_eq_some_iff] at hy;obtain ⟨i,hi,z,hz,hy⟩:=hy;split at hy
     ·rename_i hzl;simp only [Option.bind_eq_some_iff,Option.map_eq_some_iff] at hy;obtain ⟨s',hs',x',hx,rfl⟩:=hy;exact snd_apz hs hc hu hu2 hi hz hzl.1 hzl.2.1 hzl.2.2 (hkl s (by simp) s' hs') (hkl x (by simp) x' hx) hn hH
     ·cases hy
    ·rename_i el d hu hu2 hnint;obtain ⟨y,hy,hs⟩:=orBad_some hs;simp only [Option.bind_eq_some_iff] at hy;obtain ⟨i,hi,z,hz,hy⟩:=hy;split at hy
     ·rename_i hzl;simp only [Option.bind_eq_some_iff,Option.map_eq_some_iff] at hy;obtain ⟨s',hs',x',hx,rfl⟩:=hy;exact snd_app hs hc hu2 hnint (fun k hk=>by subst hk;simp_all) hi hz hzl.1 hzl.2 (hkl s (by simp) s' hs') (hkl x (by simp) x' hx) hn hH
     ·cases hy
    ·exact (bad_none hs).elim
   ·rename_i dd s t tl;simp only [builtin];have harg:(Array.map ρ ⟨[dd,s]⟩)= #[ρ dd,ρ s]:=by simp
    rw [harg];split at hs
    ·rename_i el hu;obtain ⟨y,hy,hs⟩:=orBad_some hs;simp only [Option.bind_eq_some_iff,Option.map_eq_some_iff] at hy;obtain ⟨z,hz,d',hd,s',hs',rfl⟩:=hy;exact snd_cpy hs hc (by simp) hu hz (hkl dd (by simp) d' hd) (hkl s (by simp) s' hs') hH
    ·exact (bad_none hs).elim
   ·rename_i m k t tl;simp only [builtin];have harg:(Array.map ρ ⟨[m,k]⟩)= #[ρ m,ρ k]:=by simp
    rw [harg];split at hs
    ·rename_i kt et hu;obtain ⟨y,hy,hs⟩:=orBad_some hs;simp only [Option.bind_eq_some_iff,Option.map_eq_some_iff] at hy;obtain ⟨kd,hkd,m',hm,k',hkk,rfl⟩:=hy;exact snd_mpD hs (by simp) hu hkd (hkl m (by simp) m' hm) (hkl k (by simp) k' hkk) hH
    ·exact (bad_none hs).elim
   ·simp [step] at hs
   ·rename_i x t;simp only [builtin];have harg:(Array.map ρ ⟨[x]⟩)= #[ρ x]:=by simp
    have htl:(⟨[t]⟩:Array TypeId)= #[t]:=rfl;rw [harg,htl];split at hs
    ·rename_i el hu;obtain ⟨y,hy,hs⟩:=orBad_some hs;simp only [Option.bind_eq_some_iff,Option.map_eq_some_iff] at hy;obtain ⟨zs,hzs,z,hz,x',hx,rfl⟩:=hy;exact snd_clr hs hc hu hz hzs (hkl x (by simp) x' hx) hH
    ·exact (bad_none hs).elim
   ·exact (bad_none hs).elim
  ·exact (bad_none hs).elim
 all_goals exact (bad_none hs).elim
end
end Go.Ab
