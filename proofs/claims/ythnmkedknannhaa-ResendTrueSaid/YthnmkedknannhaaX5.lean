/- Texts laid as one: AbGen AbSh2 AbSh3 AbSh4 AbSh5 AbSh6 AbGq AbCut AbSeam AbForm AbJoin AbFz AbNest AbFze AbVw AbVwF AbMed AbDel AbRf AbRf2. -/
import Derived.Test.YthnmkedknannhaaX4
set_option maxRecDepth 100000
set_option maxHeartbeats 4000000
set_option linter.unusedSimpArgs false
set_option linter.unusedVariables false
namespace Go.Ab
def chiG (n k:Nat) (ψ:Nat->Nat) (b:Nat):Nat:=if b<k then ψ b else n+b
def mdG (χ:Nat->Nat) (M:Nat->Bool) (hR:Hp):Hp->List (Nat×Option Blk)
 |[]=>[]
 |(b,_)::r=>bif M b then (χ b,(hget hR b).map (Blk.ren χ))::mdG χ M hR r else mdG χ M hR r
def nwG (χ:Nat->Nat) (k:Nat):Hp->Hp
 |[]=>[]
 |(b,kk)::r=>bif Nat.ble k b then (χ b,kk.ren χ)::nwG χ k r else nwG χ k r
def rdG (ψ:Nat->Nat):Hp->List Nat
 |[]=>[]
 |(b,_)::r=>ψ b::rdG ψ r
theorem mdG_some {χ:Nat->Nat} {M:Nat->Bool} {hR:Hp}: ∀{hL:Hp} {c:Nat} {r:Option Blk},mget (mdG χ M hR hL) c=some r-> ∃b kk,(b,kk)∈hL/\M b=true/\c=χ b/\r=(hget hR b).map (Blk.ren χ)
 |[],c,r,h=>by simp [mdG,mget] at h
 |(b,kk)::l,c,r,h=>by
  simp only [mdG] at h;cases hm:M b with
  |true=>
   rw [hm] at h;simp only [cond_true,mget] at h;by_cases hc:c=χ b
   ·rw [hc] at h;simp at h;exact ⟨b,kk,List.mem_cons_self,hm,hc,h.symm⟩
   ·rw [beq_ne hc] at h;obtain ⟨b',kk',h1,h2⟩:=mdG_some h;exact ⟨b',kk',List.mem_cons_of_mem _ h1,h2⟩
  |false=>
   rw [hm] at h;obtain ⟨b',kk',h1,h2⟩:=mdG_some h;exact ⟨b',kk',List.mem_cons_of_mem _ h1,h2⟩
theorem mdG_none {χ:Nat->Nat} {M:Nat->Bool} {hR:Hp}: ∀{hL:Hp} {c b:Nat} {kk:Blk},mget (mdG χ M hR hL) c=none->(b,kk)∈hL->M b=true->c≠χ b
 |[],c,b,kk,_,hm,_=>by cases hm
 |(d,kd)::l,c,b,kk,h,hm,hb=>by
  simp only [mdG] at h;rcases List.mem_cons.1 hm with h1|h1
  ·cases h1;rw [hb] at h;simp only [cond_true,mget] at h;intro hc;rw [hc] at h;simp at h
  ·cases hd:M d with
   |true=>
    rw [hd] at h;simp only [cond_true,mget] at h;by_cases hc:c=χ d
    ·rw [hc] at h;simp at h
    ·rw [beq_ne hc] at h;exact mdG_none h h1 hb
   |false=>rw [hd] at h;exact mdG_none h h1 hb
theorem nwG_some {χ:Nat->Nat} {k:Nat}: ∀{hR:Hp} {c:Nat} {kk:Blk},hget (nwG χ k hR) c=some kk-> ∃b kb,(b,kb)∈hR/\k<=b/\c=χ b/\kk=kb.ren χ
 |[],c,kk,h=>by simp [nwG,hget] at h
 |(b,kb)::l,c,kk,h=>by
  simp only [nwG,nble] at h;by_cases hb:k<=b
  ·rw [decide_eq_true hb] at h;simp only [cond_true,hget_cons] at h;by_cases hc:χ b=c
   ·rw [if_pos hc] at h;cases h;exact ⟨b,kb,List.mem_cons_self,hb,hc.symm,rfl⟩
   ·rw [if_neg hc] at h;obtain ⟨b',kb',h1,h2⟩:=nwG_some h;exact ⟨b',kb',List.mem_cons_of_mem _ h1,h2⟩
  ·rw [decide_eq_false hb] at h;obtain ⟨b',kb',h1,h2⟩:=nwG_some h;exact ⟨b',kb',List.mem_cons_of_mem _ h1,h2⟩
theorem rdG_in {ψ:Nat->Nat}: ∀{hL:Hp} {b:Nat} {kk:Blk},(b,kk)∈hL->inl (rdG ψ hL) (ψ b)=true
 |[],b,kk,h=>by cases h
 |(d,kd)::l,b,kk,h=>by
  simp only [rdG,inl_cons];rcases List.mem_cons.1 h with h1|h1
  ·cases h1;simp
  ·rw [rdG_in h1];simp
theorem rdG_out {ψ:Nat->Nat}: ∀{hL:Hp} {c:Nat},inl (rdG ψ hL) c=true-> ∃b kk,(b,kk)∈hL/\ψ b=c
 |[],c,h=>by simp [rdG,inl] at h
 |(d,kd)::l,c,h=>by
  simp only [rdG,inl_cons] at h;by_cases hd:ψ d=c
  ·exact ⟨d,kd,List.mem_cons_self,hd⟩
  ·rw [if_neg hd] at h;obtain ⟨b,kk,h1,h2⟩:=rdG_out h;exact ⟨b,kk,List.mem_cons_of_mem _ h1,h2⟩
section
variable {P:Program}
theorem CallOK.gen {f:FuncId} {argsL:List AV} {hL hR h:Hp} {k kR n:Nat} {vR:AV} (ψ:Nat->Nat) (M:Nat->Bool) (hc:Go.Ab.callable P f=true) (hk:k<=kR) (hbel:belL k argsL=true)
 (hft:FTL P f argsL hL k vR hR kR)
 (hnd: ∀b kk,(b,kk)∈hL->hget hL b=some kk) (hndR: ∀b kk,(b,kk)∈hR->hget hR b=some kk)
 (hψ: ∀b,b<k->hget hL b=none->ψ b=n+b) (hhb: ∀b kk,(b,kk)∈hL->b<k/\belL k kk.cells=true)
 (hheap: ∀b kk,(b,kk)∈hL->hget h (ψ b)=some (kk.ren ψ))
 (hinj: ∀b1 b2 k1 k2,(b1,k1)∈hL->(b2,k2)∈hL->k1.ro=false->ψ b1=ψ b2->b1=b2)
 (hM: ∀b kk,(b,kk)∈hL->M b=true->kk.ro=false) (hMR: ∀b kk,(b,kk)∈hR->M b=true\/k<=b->kk.ro=false)
 (hkeep: ∀b kk,(b,kk)∈hL->M b=false->hget hR b=some kk) (hR_lt: ∀b kk,(b,kk)∈hR->b<kR):
 CallOK P f (renL ψ argsL) h n {v:=vR.ren (chiG n k ψ),n:=n+kR,rd:=rdG ψ hL,md:=mdG (chiG n k ψ) M hR hL,nw:=nwG (chiG n k ψ) k hR}:=by
 have hchi: ∀b,b<k->chiG n k ψ b=ψ b:=fun b hb=>by simp [chiG,hb]
 have hren: ∀{kk:Blk},belL k kk.cells=true->kk.ren (chiG n k ψ)=kk.ren ψ:=fun {kk} hb=>by
  simp only [Blk.ren,Blk.mk.injEq,and_true];exact renL_congr (m:=k) (fun b hb=>hchi b hb) _ hb
 refine CallOK.of_FTL2 (ψ:=ψ) hc hft hk hbel hψ (fun b kk hb=>hhb b kk (hget_mem hb)) rfl (fun b kk hb=> ?_) (fun b1 b2 k1 k2 h1 h2=>hinj b1 b2 k1 k2 (hget_mem h1) (hget_mem h2)) rfl rfl (fun b r hb=> ?_) (fun b kk hb=> ?_) (fun c kk hh=> ?_)
 ·have hm:=hget_mem hb;simp only [only,rdG_in hm,cond_true];exact hheap b kk hm
 ·obtain ⟨b',kk,h1,_,rfl,_⟩:=mdG_some hb;rw [hchi b' (hhb _ _ h1).1];exact rdG_in h1
 ·obtain ⟨b',kb,h1,h2,rfl,_⟩:=nwG_some hb;have:=hR_lt _ _ h1;show n<=chiG n k ψ b'/\chiG n k ψ b'<n+kR;simp only [chiG,show ¬b'<k by omega,if_false]
  omega
 ·simp only [Eff.app] at hh;cases hm:mget (mdG (chiG n k ψ) M hR hL) c with
  |some r=>
   rw [hm] at hh;obtain ⟨b,kb,h1,h2,rfl,rfl⟩:=mdG_some hm;simp only [Option.map_eq_some_iff] at hh;obtain ⟨kx,hx,rfl⟩:=hh;have hb:=(hhb _ _ h1).1;exact ⟨b,kx,hx,by omega,rfl,rfl,fun hro=>by rw [hMR b kx (hget_mem hx) (.inl h2)] at hro;cases hro⟩
  |none=>
   rw [hm] at hh;simp only at hh;cases hw:hget (nwG (chiG n k ψ) k hR) c with
   |some k'=>
    rw [hw] at hh;cases hh;obtain ⟨b,kb,h1,h2,rfl,rfl⟩:=nwG_some hw;exact ⟨b,kb,hndR _ _ h1,hR_lt _ _ h1,rfl,rfl,fun hro=>by rw [hMR b kb h1 (.inr h2)] at hro;cases hro⟩
   |none=>
    rw [hw] at hh;simp only [only] at hh;cases hi:inl (rdG ψ hL) c with
    |false=>rw [hi] at hh;cases hh
    |true=>
     rw [hi] at hh;simp only [cond_true] at hh;obtain ⟨b,kb,h1,rfl⟩:=rdG_out hi;rw [hheap b kb h1] at hh;cases hh;have hb:=hhb _ _ h1;have hMb:M b=false:=by
      cases hMb:M b with
      |false=>rfl
      |true=>exact absurd (hchi b hb.1).symm (mdG_none hm h1 hMb)
     refine ⟨b,kb,hkeep b kb h1 hMb,by omega,?_,?_,fun _=>⟨hb.1,hnd _ _ h1⟩⟩
     ·simp [hb.1]
     ·exact (hren hb.2).symm
end
end Go.Ab
namespace Go.Ab
section
variable {α:Type} {f:α->List AV} {z:Nat}
end
end Go.Ab
namespace Go.Ab
def Sh.o:Sh->Nat
 | .nil=>0
 | .sl _ o _ _=>o
 | .sg _ o _=>o
def Sh.blk:Sh->Blk
 | .nil=>{cells:=[]}
 | .sl k _ _ _=>k
 | .sg k _ _=>k
section
variable {s t:Sh} {b c:Nat} {h r:Hp}
theorem Sh.is.cells {α:Type} {f:α->List AV} {z:Nat} {l:List α} (hs:s.is f z l) (hne:s≠ .nil):cellsAt s.blk.cells s.o (l.length*z)=rows f l/\belL 0 s.blk.cells=true:=by
 obtain ⟨h1,h2,h3⟩:=hs;rw [<-h2];cases s with
 |nil=>exact absurd rfl hne
 |sl k o l c=>exact ⟨h3,(Bool.and_eq_true_iff.1 h1).2⟩
 |sg k o l=>exact ⟨h3,(Bool.and_eq_true_iff.1 h1).2⟩
end
end Go.Ab
namespace Go.Ab
end Go.Ab
namespace Go.Ab
theorem sv_lenV2 {cx:Cx} {e:Env} {h:Hp} {n:Nat} {x:Opd}:stepC cx (.lenV x) e h n=(x.ev e h).bind fun v=>onEn v (some (true,{v:= .i .i64 0,n}))<|onF v (fun l m=>some (true,{v:= .i .i64 (m:Int),n})) (some (true,{v:= .i .i64 0,n})) fun v=>onV v (some (true,{v:= .i .i64 0,n})) (fun b o l c=>some (true,{v:= .i .i64 (l:Int),n})) (fun b o l=>some (true,{v:= .i .i64 (l:Int),n})):=sv_lenV
attribute [go_sem ↓ high] sv_lenV2
end Go.Ab
namespace Go.Ab
attribute [go_sem] ne_eq not_false_eq_true
end Go.Ab
namespace Go.Ab
theorem v_cells2 {s:Sh} {b:Nat}:(s.v b).cells=[s.v b]:=v_cells
theorem v_one2 {s:Sh} {b:Nat}:(s.v b).one=true:=v_one
attribute [go_sem ↓ high] v_cells2 v_one2
end Go.Ab
namespace Go.Ab
theorem CallOK.boxM {P:Program} {f:FuncId} {A C C':Nat->List AV} {s:Sh} {v u:AV} {h:Hp} {n b:Nat} (M:Bool) (hc:Go.Ab.callable P f=true) (hbel:belL 2 (A 0)=true) (hCb:belL 2 (C 1)=true) (hb:hget h b=some {cells:=C (shB v)}) (hat:shAt v h=some s) (hp:s.plain=true) (hd:shR v≠[]->b≠shB v)
 (hA: ∀ψ:Nat->Nat,renL ψ (A 0)=A (ψ 0)) (hC: ∀ψ:Nat->Nat,renL ψ (C 1)=C (ψ 1)) (hC': ∀ψ:Nat->Nat,renL ψ (C' 1)=C' (ψ 1)) (hCn:s= .nil-> ∀i j,C i=C j) (hCn':s= .nil-> ∀i j,C' i=C' j) (hu:u.bel 0=true) (hM:M=false->C'=C)
 (hft:FTL P f (A 0) ((0,{cells:=C 1})::s.h 1) 2 u ((0,{cells:=C' 1})::s.h 1) 2):CallOK P f (A b) h n {v:=u,n:=n+2,rd:=b::shR v,md:=bif M then [(b,some {cells:=C' (shB v)})] else []}:=by
 obtain ⟨h1,h2,h3⟩:=shAt_inv hat;have fin: ∀(c:Nat),(∀kk,hget (s.h 1) 1=some kk->hget h c=some kk)->(s= .nil->c=n+1)->C (shB v)=C c->C' (shB v)=C' c->(s≠ .nil->b≠c)->CallOK P f (A b) h n {v:=u,n:=n+2,rd:=rdG (fun i=>if i=0 then b else c) ((0,{cells:=C 1})::s.h 1),md:=bif M then [(b,some {cells:=C' c})] else []}:=by
  intro c hk hnil hvc hvc' hbc;have hat': ∀x∈s.h 1,x.1=1/\hget (s.h 1) 1=some x.2:=by
   intro x hx;cases s<;>simp [Sh.h] at hx<;>subst hx<;>simp [Sh.h,hget]
  have h11: ∀(χ:Nat->Nat),mdG χ (fun i=>bif Nat.beq i 0 then M else false) ((0,{cells:=C' 1})::s.h 1) (s.h 1)=[]:=by
   intro χ;cases s<;>simp [Sh.h,mdG,nbeq]
  refine (CallOK.gen (h:=h) (n:=n) (hL:=(0,{cells:=C 1})::s.h 1) (hR:=(0,{cells:=C' 1})::s.h 1) (k:=2) (kR:=2) (fun i=>if i=0 then b else c) (fun i=>bif Nat.beq i 0 then M else false) hc (Nat.le_refl _) hbel hft ?_ ?_ ?_ ?_ ?_ ?_ ?_ ?_ ?_ ?_).cast ?_ ?_
  ·intro i kk hi;rcases List.mem_cons.1 hi with e|e
   ·cases e;simp [hget]
   ·obtain ⟨e1,e2⟩:=hat' _ e;simp only at e1 e2;subst e1;simp [hget_cons,e2]
  ·intro i kk hi;rcases List.mem_cons.1 hi with e|e
   ·cases e;simp [hget]
   ·obtain ⟨e1,e2⟩:=hat' _ e;simp only at e1 e2;subst e1;simp [hget_cons,e2]
  ·intro i hi hno;have:i=0\/i=1:=by omega
   rcases this with rfl|rfl
   ·simp [hget_cons] at hno
   ·have hs:s= .nil:=by cases s<;>simp [Sh.h,hget_cons,hget_nil] at hno ⊢
    simp [hnil hs]
  ·intro i kk hi;rcases List.mem_cons.1 hi with e|e
   ·cases e;exact ⟨by omega,hCb⟩
   ·obtain ⟨e1,e2⟩:=hat' _ e;simp only at e1 e2;subst e1;exact ⟨by omega,belL_mono0 _ (shH_bel hp e2).2.1⟩
  ·intro i kk hi;rcases List.mem_cons.1 hi with e|e
   ·cases e;simp only [if_true,hb,Blk.ren,hC,hvc];simp
   ·obtain ⟨e1,e2⟩:=hat' _ e;simp only at e1 e2;subst e1;rw [ren_plain (shH_bel hp e2).2.1];exact hk _ e2
  ·intro i1 i2 k1 k2 e1 e2 _ he;have key: ∀(i:Nat) (kk:Blk),(i,kk)∈((0,({cells:=C 1}:Blk))::s.h 1)->i=0\/(i=1/\s≠ .nil):=by
    intro i kk hi;rcases List.mem_cons.1 hi with e|e
    ·cases e;exact .inl rfl
    ·obtain ⟨q1,q2⟩:=hat' _ e;exact .inr ⟨q1,by rintro rfl;simp [Sh.h,hget] at q2⟩
   rcases key i1 k1 e1 with rfl|⟨rfl,n1⟩<;>rcases key i2 k2 e2 with rfl|⟨rfl,n2⟩
   ·rfl
   ·simp at he;exact absurd he (hbc n2)
   ·simp at he;exact absurd he.symm (hbc n1)
   ·rfl
  ·intro i kk hi hm;rcases List.mem_cons.1 hi with e|e
   ·cases e;rfl
   ·obtain ⟨e1,e2⟩:=hat' _ e;simp only at e1;subst e1;simp at hm
  ·intro i kk hi hm;rcases List.mem_cons.1 hi with e|e
   ·cases e;rfl
   ·exfalso;obtain ⟨e1,_⟩:=hat' _ e;simp only at e1;subst e1;rcases hm with hm|hm
    ·simp at hm
    ·omega
  ·intro i kk hi hm;rcases List.mem_cons.1 hi with e|e
   ·cases e;simp at hm;rw [hM hm];simp [hget]
   ·obtain ⟨e1,e2⟩:=hat' _ e;simp only at e1 e2;subst e1;simp [hget_cons,e2]
  ·intro i kk hi;rcases List.mem_cons.1 hi with e|e
   ·cases e;omega
   ·obtain ⟨e1,_⟩:=hat' _ e;simp only at e1;omega
  ·rw [hA];simp
  ·have hnw:nwG (chiG n 2 fun i=>if i=0 then b else c) 2 ((0,{cells:=C' 1})::s.h 1)=[]:=by
    cases s<;>rfl
   rw [hnw,ren_fix0 _ hu];congr 1;simp only [mdG,h11];cases M with
   |false=>rfl
   |true=>simp [hget,Blk.ren,hC',chiG]
 cases hs:s with
 |nil=>
  refine (fin (n+1) (fun kk hk=>by rw [hs] at hk;simp [Sh.h,hget] at hk) (fun _=>rfl) (hCn hs _ _) (hCn' hs _ _) (fun h0=>absurd hs h0)).cast rfl ?_
  rw [h2,hs,hCn' hs (n+1) (shB v)];rfl
 |sl k o l c=>
  have hsn:s≠ .nil:=by rw [hs];simp
  refine (fin (shB v) (fun kk hk=>h3 _ _ (by rw [hs] at hk ⊢;simp [Sh.h,hget] at hk ⊢;exact hk)) (fun h0=>absurd h0 hsn) rfl rfl (fun _=>hd (by rw [h2,hs];simp [Sh.bl]))).cast rfl ?_
  rw [h2,hs];rfl
 |sg k o l=>
  have hsn:s≠ .nil:=by rw [hs];simp
  refine (fin (shB v) (fun kk hk=>h3 _ _ (by rw [hs] at hk ⊢;simp [Sh.h,hget] at hk ⊢;exact hk)) (fun h0=>absurd h0 hsn) rfl rfl (fun _=>hd (by rw [h2,hs];simp [Sh.bl]))).cast rfl ?_
  rw [h2,hs];rfl
theorem Ends.boxM {s:Sh} {C:Nat->List AV} {n:Nat} {r:Hp} {v v2:AV} (hp:s.plain=true) (hv:v=v2) (hb:v2.bel 0=true) (hC:renL (rn []) (C 1)=C 1) (hCb:belL 2 (C 1)=true) (h0:hget r 0=some {cells:=C 1}) (hh:hasS r s 1):Go.Ab.Ends 2 v r n v2 ((0,{cells:=C 1})::s.h 1) 2:=
 Go.Ab.Ends.R [] (by decide) (by decide) (by rw [hv,ren_fix0 _ hb]) (by have:=belL_mono0 (m:=2) [v2] (by simp [belL,hb]);simpa [belL] using this) (by
  rw [HpR_cons,HpR_app0 hp (by decide)]
  exact ⟨by show hget r 0=some _;rw [h0,Blk.ren,hC],hCb,by decide,hh⟩)
end Go.Ab
namespace Go.Ab
def noneL:List Nat->List (Nat×Option Blk)
 |[]=>[]
 |b::r=>(b,none)::noneL r
end Go.Ab
namespace Go.Ab
end Go.Ab
namespace Go.Ab
section
variable {v:AV} {n b c:Nat} {rd:List Nat} {s:Sh} {h:Hp} {k:Blk} {md:List (Nat×Option Blk)}
end
end Go.Ab
namespace Go.Ab
end Go.Ab
namespace Go.Ab
section
variable {n b:Nat} {s:Sh} {h r:Hp}
end
end Go.Ab
namespace Go.Ab
section
variable {v:AV} {n b c:Nat} {rd:List Nat} {s t:Sh} {h:Hp}
end
end Go.Ab
namespace Go.Ab
end Go.Ab
namespace Go.Ab
def appV (z bytes n:Nat) (h:Hp) (r0:List Nat) (m:Nat) (cs:List AV) (ok:Bool) (s:AV):Option (Bool×Eff):=
 onF s (fun l len=>iteD (decide (m=0)) (some (ok,{v:= .fz l len,n,rd:=r0})) none) (iteD (decide (m=0)) (some (ok,{v:= .ze,n,rd:=r0})) (some (ok&&decide (bytes*m<=growMax),{v:= .sg n 0 m,n:=n+1,rd:=r0,nw:=[(n,{cells:=cs,gr:=some z})]}))) fun s=>onV s
  (iteD (decide (m=0)) (some (ok,{v:= .ns,n,rd:=r0})) (some (ok&&decide (bytes*m<=growMax),{v:= .sg n 0 m,n:=n+1,rd:=r0,nw:=[(n,{cells:=cs,gr:=some z})]})))
  (fun b o len cap=>iteD (decide (m=0)) (some (ok&&decide (len<=cap),{v:= .sl b o len cap,n,rd:=r0}))
    ((hgc h b).bind fun k=>iteD (decide (len+m<=cap))
      (roK k.ro (some (ok&&decide (o+len*z+cs.length<=k.cells.length)&&oneAll cs,{v:= .sl b o (len+m) cap,n,rd:=b::r0,md:=[(b,some {k with cells:=splice k.cells (o+len*z) cs})]})))
      (some (ok&&decide (bytes*(len+m)<=growMax)&&decide ((cellsAt k.cells o (len*z)).length=len*z)&&decide (len<=cap),{v:= .sg n 0 (len+m),n:=n+1,rd:=b::r0,nw:=[(n,{cells:=cellsAt k.cells o (len*z)++cs,gr:=some z})]}))))
  (fun b o len=>iteD (decide (m=0)) (some (ok,{v:= .sg b o len,n,rd:=r0}))
    ((hgc h b).bind fun k=>grK k.gr fun z'=>some (ok&&decide (bytes*(len+m)<=growMax)&&Nat.beq z z'&&decide (k.cells.length=o+len*z)&&oneAll cs,{v:= .sg n 0 (len+m),n:=n+1,rd:=b::r0,md:=[(b,none)],nw:=[(n,{cells:=k.cells.drop o++cs,gr:=some z})]})))
@[congr] theorem appV_congr {z bytes n m:Nat} {h:Hp} {r0:List Nat} {cs cs':List AV} {ok ok':Bool} {s s':AV} (h1:cs=cs') (h2:ok=ok') (h3:s=s'):appV z bytes n h r0 m cs ok s=appV z bytes n h r0 m cs' ok' s':=by rw [h1,h2,h3]
section
variable {cx:Cx} {e:Env} {h:Hp} {n z bytes:Nat} {r0:List Nat} {m:Nat} {cs:List AV} {ok:Bool}
theorem sv_app2 {zs:List AV} {s x:Opd}:stepC cx (.app z bytes zs s x) e h n=(s.ev e h).bind fun s=>(x.ev e h).bind fun x=>srcK h z x fun r0 m cs ok=>appV z bytes n h r0 m cs ok s:=sv_app
theorem appV_z:appV z bytes n h r0 m cs ok .ze=(iteD (decide (m=0)) (some (ok,{v:= .ze,n,rd:=r0})) (some (ok&&decide (bytes*m<=growMax),{v:= .sg n 0 m,n:=n+1,rd:=r0,nw:=[(n,{cells:=cs,gr:=some z})]}))):=(rfl)
theorem appV_s {b o len cap:Nat}:appV z bytes n h r0 m cs ok (.sl b o len cap)=(iteD (decide (m=0)) (some (ok&&decide (len<=cap),{v:= .sl b o len cap,n,rd:=r0}))
 ((hgc h b).bind fun k=>iteD (decide (len+m<=cap))
   (roK k.ro (some (ok&&decide (o+len*z+cs.length<=k.cells.length)&&oneAll cs,{v:= .sl b o (len+m) cap,n,rd:=b::r0,md:=[(b,some {k with cells:=splice k.cells (o+len*z) cs})]})))
   (some (ok&&decide (bytes*(len+m)<=growMax)&&decide ((cellsAt k.cells o (len*z)).length=len*z)&&decide (len<=cap),{v:= .sg n 0 (len+m),n:=n+1,rd:=b::r0,nw:=[(n,{cells:=cellsAt k.cells o (len*z)++cs,gr:=some z})]})))):=(rfl)
theorem appV_g {b len:Nat}:appV z bytes n h r0 m cs ok (.sg b 0 len)=(iteD (decide (m=0)) (some (ok,{v:= .sg b 0 len,n,rd:=r0}))
 ((hgc h b).bind fun k=>grK k.gr fun z'=>some (ok&&decide (bytes*(len+m)<=growMax)&&Nat.beq z z'&&decide (k.cells.length=len*z)&&oneAll cs,{v:= .sg n 0 (len+m),n:=n+1,rd:=b::r0,md:=[(b,none)],nw:=[(n,{cells:=k.cells++cs,gr:=some z})]}))):=by
 have e:appV z bytes n h r0 m cs ok (.sg b 0 len)=(iteD (decide (m=0)) (some (ok,{v:= .sg b 0 len,n,rd:=r0}))
  ((hgc h b).bind fun k=>grK k.gr fun z'=>some (ok&&decide (bytes*(len+m)<=growMax)&&Nat.beq z z'&&decide (k.cells.length=0+len*z)&&oneAll cs,{v:= .sg n 0 (len+m),n:=n+1,rd:=b::r0,md:=[(b,none)],nw:=[(n,{cells:=k.cells.drop 0++cs,gr:=some z})]}))):=rfl
 rw [e];simp only [List.drop_zero,Nat.zero_add]
theorem appV_gs {b o len:Nat}:appV z bytes n h r0 m cs ok (.sg b (o+1) len)=(iteD (decide (m=0)) (some (ok,{v:= .sg b (o+1) len,n,rd:=r0}))
 ((hgc h b).bind fun k=>grK k.gr fun z'=>some (ok&&decide (bytes*(len+m)<=growMax)&&Nat.beq z z'&&decide (k.cells.length=o+1+len*z)&&oneAll cs,{v:= .sg n 0 (len+m),n:=n+1,rd:=b::r0,md:=[(b,none)],nw:=[(n,{cells:=k.cells.drop (o+1)++cs,gr:=some z})]}))):=(rfl)
end
attribute [go_sem ↓ high] sv_app2
attribute [go_sem ↓] appV_s appV_g appV_gs appV_z
def gQ {α:Type} (f:α->List AV) (z:Nat) (l:List α):Sh:=if l.length=0 then .nil else .sg {cells:=rows f l,gr:=some z} 0 l.length
def gS {α:Type} (f:α->List AV) (z:Nat) (l:List α) (cs:List AV):Sh:= .sg {cells:=rows f l++cs,gr:=some z} 0 (l.length+1)
section
variable {α:Type} {f:α->List AV} {z:Nat} {l:List α}
theorem gQ_nil:gQ f z []= .nil:=rfl
theorem gQ_snoc {a:α}:gQ f z (l++[a])=gS f z l (f a):=by
 unfold gQ gS;rw [if_neg (by simp),rows_append,List.length_append]
 simp [rows]
theorem gQ_is (hb: ∀a,belL 0 (f a)=true) (hf: ∀a,(f a).length=z) (l:List α):(gQ f z l).is f z l:=by
 unfold gQ;split
 ·rename_i h;have:l=[]:=List.eq_nil_of_length_eq_zero h;subst this;exact ⟨rfl,rfl,rfl⟩
 ·exact ⟨rows_bel hb,rfl,by show cellsAt _ 0 _=_;unfold cellsAt;rw [List.drop_zero,<-rows_len (f:=f) (z:=z) hf,List.take_length]⟩
theorem gQ_fresh (l:List α):(gQ f z l).fresh=true:=by unfold gQ;split<;>rfl
end
def hdels (s:Sh) (b:Nat) (h:Hp):Hp:=hmods h (noneL (s.bl b))
section
variable {s t:Sh} {b c:Nat} {h r:Hp} {k:Blk}
theorem hdels_nil:hdels s b []=[]:=by cases s<;>rfl
theorem hdels_cons (hc:c≠b):hdels s b ((c,k)::r)=(c,k)::hdels s b r:=by
 cases s with
 |nil=>rfl
 |sl k o l cc=>exact (hdel_cons (c:=c)).trans (if_neg hc)
 |sg k o l=>exact (hdel_cons (c:=c)).trans (if_neg hc)
theorem hdels_hit:hdels s b (s.h b++r)=hdels s b r:=by
 cases s with
 |nil=>rfl
 |sl k o l cc=>exact (hdel_cons (c:=b)).trans (if_pos rfl)
 |sg k o l=>exact (hdel_cons (c:=b)).trans (if_pos rfl)
theorem hdels_skip (hc:c≠b):hdels s b (t.h c++r)=t.h c++hdels s b r:=by
 cases t with
 |nil=>rfl
 |sl k o l cc=>exact hdels_cons hc
 |sg k o l=>exact hdels_cons hc
end
theorem appL_gq {pn:Option Value} {v:AV} {n b c:Nat} {rd:List Nat} {s t:Sh} {h:Hp}:(Eff.mk v n rd (noneL (s.bl b)) (t.h c) pn).appL h=hdels s b (t.h c++h):=(rfl)
section
variable {α:Type} {f:α->List AV} {z bytes n b:Nat} {l:List α} {h:Hp} {r0:List Nat} {cs:List AV} {ok:Bool}
theorem appV_q (hh:hasS h (gQ f z l) b) (ho:oneAll cs=true) (hf:(rows f l).length=l.length*z):appV z bytes n h r0 1 cs ok ((gQ f z l).v b)=
 some (ok&&decide (bytes*(l.length+1)<=growMax),{v:=(gS f z l cs).v n,n:=n+1,rd:=(gQ f z l).bl b++r0,md:=noneL ((gQ f z l).bl b),nw:=(gS f z l cs).h n}):=by
 revert hh;unfold gQ;split
 ·rename_i hl;have:l=[]:=List.eq_nil_of_length_eq_zero hl;subst this;intro _;rfl
 ·intro hh;have:=hgc_of (hh b {cells:=rows f l,gr:=some z} (by simp [Sh.h,hget])) rfl
  show appV z bytes n h r0 1 cs ok (.sg b 0 l.length)=_;rw [appV_g,this,decide_eq_false (by decide: ¬(1:Nat)=0),iteD_f,bind_some']
  simp only [grK_s,ho,hf,Bool.and_true,decide_true,nbeq];rfl
end
attribute [go_sem ↓] appL_gq
attribute [go_sem] appV_q hdels_nil hdels_cons hdels_hit hdels_skip
end Go.Ab
namespace Go.Ab
def cutV (z n:Nat) (h:Hp) (m:Int) (v:AV):Option (Bool×Eff):=onF v (fun l len=>some ((sbound len len none (some m) none).1,{v:= .fz (l.drop ((sbound len len none (some m) none).2.1*z)) ((sbound len len none (some m) none).2.2.1-(sbound len len none (some m) none).2.1),n}))
 (some ((sbound 0 0 none (some m) none).1,{v:= .ze,n})) fun v=>onV v
 (some ((sbound 0 0 none (some m) none).1,{v:= .ns,n}))
 (fun b o len cap=>some ((sbound len cap none (some m) none).1,{v:= .sl b (if (sbound len cap none (some m) none).2.2.2=(sbound len cap none (some m) none).2.1 then o else o+(sbound len cap none (some m) none).2.1*z) ((sbound len cap none (some m) none).2.2.1-(sbound len cap none (some m) none).2.1) ((sbound len cap none (some m) none).2.2.2-(sbound len cap none (some m) none).2.1),n}))
 (fun b o len=>(hgc h b).bind fun k=>grK k.gr fun z'=>
   iteD (decide ((sbound len len none (some m) none).2.1=0\/(sbound len len none (some m) none).2.1<len)) (some ((sbound len len none (some m) none).1&&Nat.beq z z',{v:= .sg b (o+(sbound len len none (some m) none).2.1*z) ((sbound len len none (some m) none).2.2.1-(sbound len len none (some m) none).2.1),n,rd:=[b]})) (some ((sbound len len none (some m) none).1&&Nat.beq z z',{v:= .en,n,rd:=[b]})))
section
variable {cx:Cx} {e:Env} {h:Hp} {n z:Nat} {m:Int}
theorem sv_cut {x hi:Opd}:stepC cx (.slV z x none (some hi) none) e h n=(x.ev e h).bind fun v=>(hi.ev e h).bind fun w=>(asJ w).bind fun m=>cutV z n h m v:=by
 rw [sv_slV];cases hx:x.ev e h with
 |none=>rfl
 |some v=>
  simp only [Option.bind_some,obind_none,obind_some];cases hhi:hi.ev e h with
  |none=>
   simp only [Option.bind_none];cases v<;>try rfl
   ·simp only [onF_g,onV_g];cases hgc h _<;>rfl
  |some w=>
   simp only [Option.bind_some];cases asJ w with
   |none=>
    simp only [Option.bind_none];cases v<;>try rfl
    ·simp only [onF_g,onV_g];cases hgc h _<;>rfl
   |some m=>rfl
theorem cutV_f {l:List AV} {len:Nat}:cutV z n h m (.fz l len)=some (decide (0<=m/\m<=(len:Int)),{v:= .fz l m.toNat,n}):=by
 show some (_,_)=some (_,_);refine congrArg some (Prod.ext (decide_eq_decide.2 ?_) ?_)
 ·simp only [Option.getD_some,Option.getD_none];omega
 ·simp [sbound]
theorem cutV_g {b o len:Nat}:cutV z n h m (.sg b o len)=(hgc h b).bind fun k=>grK k.gr fun z'=>some (decide (0<=m/\m<=(len:Int))&&Nat.beq z z',{v:= .sg b o m.toNat,n,rd:=[b]}):=by
 show (hgc h b).bind _=(hgc h b).bind _;congr 1;funext k;congr 1;funext z';refine congrArg some (Prod.ext ?_ ?_)
 ·show (_&&_)=(_&&_);congr 1;refine decide_eq_decide.2 ?_;simp only [Option.getD_some,Option.getD_none];omega
 ·simp [sbound]
end
def Sh.cut (s:Sh) (m:Nat):Sh:=match s with
 | .nil=> .nil
 | .sl k o _ cap=> .sl k o m cap
 | .sg k o _=> .sg k o m
section
variable {s:Sh} {b c z n:Nat} {h r:Hp} {m:Int}
theorem cut_len {k:Nat} (hk:k<=s.len):(s.cut k).len=k:=by cases s<;>simp_all [Sh.cut,Sh.len]
theorem cut_plain {k:Nat}:(s.cut k).plain=s.plain:=by cases s<;>rfl
theorem Sh.is.cut {α:Type} {f:α->List AV} {l:List α} (hf: ∀a,(f a).length=z) (hs:s.is f z l) {k:Nat} (hk:k<=l.length):(s.cut k).is f z (l.take k):=by
 have hln:=hs.ln;refine ⟨by rw [cut_plain];exact hs.pl,by rw [cut_len (by omega),List.length_take];omega,?_⟩
 have hc:=hs.cs;have key: ∀(c:List AV) (o:Nat),cellsAt c o (l.length*z)=rows f l->cellsAt c o (k*z)=rows f (l.take k):=by
  intro c o hco;rw [<-rows_take hf,<-hco];unfold cellsAt;rw [List.take_take];congr 1;have:=Nat.mul_le_mul_right z hk;omega
 cases s with
 |nil=>
  simp only [Sh.len] at hln;have:l=[]:=List.eq_nil_of_length_eq_zero hln.symm;subst this;simp [Sh.cut,Sh.cs,rows]
 |sl q o len cap=>
  simp only [Sh.len] at hln;simp only [Sh.cs,hln] at hc;exact key _ _ hc
 |sg q o len=>
  simp only [Sh.len] at hln;simp only [Sh.cs,hln] at hc;exact key _ _ hc
end
attribute [go_sem ↓ high] sv_cut
attribute [go_sem ↓] cutV_g cutV_f
attribute [go_sem] cut_plain
end Go.Ab
namespace Go.Ab
def Seam (F:Fx) (c:ICode) (K:Kont) (e:Env) (h:Hp) (n:Nat):Prop:= ∀c',compC F.P F.ct F.N c'=c->WP F.P F.N F.n0 c' K e h n
section
variable {F:Fx} {a b c:ICode} {K:Kont} {e:Env} {h:Hp} {n:Nat}
theorem Seam.run (hcx:Sound F.P F.cx) (hm:F.P.follows .mixedOrders=true) (hi:jw F c K e h n):Seam F c K e h n:=fun c' hc'=>iw_sound F hcx hm c' _ _ _ _ (by rw [hc'];exact iw_of_jw hi)
theorem Seam.seq (hi:Seam F a (thenK K (Seam F b K)) e h n):Seam F (.seq a b) K e h n:=fun c' hc'=>by
 obtain ⟨x,y,rfl,hx,hy⟩:=inv_seq hc';intro ro hro B D0 φ0 H0 w0 h1 h2 D φ a w hR hS;refine wpIn_seq (wpIn_mono (hi x hx ro (hro.imp _root_.id (fun h=>by simp only [noRF,Bool.and_eq_true] at h;exact h.1)) B D0 φ0 H0 w0 h1 h2 D φ a w hR hS) (fun ex a' w' hp=> ?_))
 obtain ⟨D',φ',e',h',n',hk,hn',hR',hS'⟩:=hp;cases ex with
 |normal=>exact hk y hy ro (hro.imp _root_.id (fun h=>by simp only [noRF,Bool.and_eq_true] at h;exact h.2)) B D0 φ0 H0 w0 h1 hn' D' φ' a' w' hR' hS'
 |exit id=>exact ⟨D',φ',e',h',n',hk,hn',hR',hS'⟩
 |goto l=>exact ⟨D',φ',e',h',n',hk,hn',hR',hS'⟩
 |ret=>exact ⟨D',φ',e',h',n',hk,hn',hR',hS'⟩
 |panic ch=>exact ⟨D',φ',e',h',n',hk,hn',hR',hS'⟩
 |outgrown=>exact ⟨D',φ',e',h',n',hk,hn',hR',hS'⟩
theorem Seam.part (hcx:Sound F.P F.cx) (hm:F.P.follows .mixedOrders=true) (hi:jw F a (thenK K (Seam F b K)) e h n):Seam F (.seq a b) K e h n:=Seam.seq (Seam.run hcx hm hi)
theorem Seam.block {id:Nat} (hi:Seam F a (blockK id K) e h n):Seam F (.block id a) K e h n:=fun c' hc'=>by
 obtain ⟨x,rfl,hx⟩:=inv_block hc';intro ro hro B D0 φ0 H0 w0 h1 h2 D φ a w hR hS;refine wpIn_block (wpIn_mono (hi x hx ro hro B D0 φ0 H0 w0 h1 h2 D φ a w hR hS) (fun ex a' w' hp=> ?_));obtain ⟨D',φ',e',h',n',hk,hn',hR',hS'⟩:=hp;cases ex with
 |exit i=>
  simp only [blockK] at hk;simp only [Exit.inBlock];split
  ·rename_i hid;rw [if_pos hid] at hk;exact ⟨D',φ',e',h',n',hk,hn',hR',hS'⟩
  ·rename_i hid;rw [if_neg hid] at hk;exact ⟨D',φ',e',h',n',hk,hn',hR',hS'⟩
 |normal=>exact ⟨D',φ',e',h',n',hk,hn',hR',hS'⟩
 |goto l=>exact ⟨D',φ',e',h',n',hk,hn',hR',hS'⟩
 |ret=>exact ⟨D',φ',e',h',n',hk,hn',hR',hS'⟩
 |panic ch=>exact ⟨D',φ',e',h',n',hk,hn',hR',hS'⟩
 |outgrown=>exact ⟨D',φ',e',h',n',hk,hn',hR',hS'⟩
theorem Seam.ren {e2:Env} {h2:Hp} {n2:Nat} (m:List (Nat×Nat)) (hs:Seam F c K e2 h2 n2) (hn:F.n0<=n2) (hm:rnOK m F.n0 n2=true) (he:EnvR n2 m e e2) (hh:HpR n2 m h h2):Seam F c K e h n:=
 fun c' hc'=>WP.weaken (Wk.ofR hn hm he hh) (hs c' hc')
end
section
variable {α:Type} {f:α->List AV} {z:Nat} {l:List α} {s:Sh} {b:Nat} {h:Hp}
theorem oneAll_append {x y:List AV}:oneAll (x++y)=(oneAll x&&oneAll y):=by
 induction x with
 |nil=>rfl
 |cons a x ih=>simp only [List.cons_append,oneAll,ih,Bool.and_assoc]
theorem rows_one1 (h1: ∀a,oneAll (f a)=true): ∀l:List α,oneAll (rows f l)=true
 |[]=>rfl
 |a::l=>by rw [rows_cons,oneAll_append,h1,rows_one1 h1 l];rfl
theorem splice_row (hf: ∀a,(f a).length=z) {i j:Nat} {a a':α} {v:AV} (hi:l[i]? =some a) (hj:j<z) (ha:f a'=splice (f a) j [v]):splice (rows f l) (i*z+j) [v]=rows f (l.set i a'):=by
 induction l generalizing i with
 |nil=>simp at hi
 |cons x l ih=>
  cases i with
  |zero=>
   simp at hi;subst hi;rw [List.set_cons_zero,rows_cons,rows_cons,ha,Nat.zero_mul,Nat.zero_add];unfold splice;rw [List.take_append_of_le_length (by rw [hf];omega),List.drop_append_of_le_length (by rw [hf];simp;omega)]
   simp
  |succ i=>
   simp at hi;have:=ih hi;rw [List.set_cons_succ,rows_cons,rows_cons,<-this];unfold splice;rw [show (i+1)*z+j=z+(i*z+j) by rw [Nat.add_mul];omega]
   have e1:List.take (z+(i*z+j)) (f x++rows f l)=f x++List.take (i*z+j) (rows f l):=by
    rw [List.take_append,hf,List.take_of_length_le (by rw [hf];omega)]
    congr 2;omega
   have e2:List.drop (z+(i*z+j)+[v].length) (f x++rows f l)=List.drop (i*z+j+[v].length) (rows f l):=by
    rw [List.drop_append,hf,List.drop_of_length_le (by rw [hf];simp;omega),List.nil_append]
    congr 1;simp;omega
   rw [e1,e2];simp
end
end Go.Ab
namespace Go.Ab
section
variable {k:Blk} {o l c b:Nat} {h:Hp}
theorem fv_n:Sh.nil.v b= .ns:=(rfl)
theorem fh_n:Sh.nil.h b=[]:=(rfl)
end
attribute [go_sem] fv_n fh_n
end Go.Ab
namespace Go.Ab
theorem flat_rows {α:Type} {T:Ty} {f:α->List AV} {ok:α->Bool} (h: ∀x,Flat T x-> ∃a,x=f a/\ok a=true): ∀ls:List (List AV),(∀x∈ls,Flat T x)-> ∃l:List α,ls.flatten=rows f l/\l.length=ls.length/\l.all ok=true
 |[],_=>⟨[],rfl,rfl,rfl⟩
 |x::ls,hx=>by
  obtain ⟨a,rfl,ha⟩:=h x (hx x List.mem_cons_self);obtain ⟨l,h1,h2,h3⟩:=flat_rows h ls (fun y hy=>hx y (List.mem_cons_of_mem _ hy));exact ⟨a::l,by rw [List.flatten_cons,h1];rfl,by simp [h2],by simp [ha,h3]⟩
end Go.Ab
namespace Go.Ab
mutual
def AV.pl:AV->Bool
 | .p _ _=>false
 | .sl _ _ _ _=>false
 | .sg _ _ _=>false
 | .fn _ l=>plL l
 | .bm _ l=>plL l
 | .agg l=>plL l
 | .tup l=>plL l
 | .b _=>true
 | .i _ _=>true
 | .s _=>true
 | .np=>true
 | .ns=>true
 | .nf=>true
 | .ni=>true
 | .fz _ _=>false
 | .fp _ _=>false
 | .ze=>true
 | .en=>true
 | .any=>true
 | .k _ _=>true
 | .m _=>false
 | .nm=>true
 | .yl _ _ _ _=>false
def plL:List AV->Bool
 |[]=>true
 |v::r=>v.pl&&plL r
end
theorem plL_spec: ∀{l:List AV},plL l=true-> ∀v∈l,v.pl=true
 |[],_,v,hv=>by cases hv
 |x::r,h,v,hv=>by
  simp only [plL,Bool.and_eq_true] at h;rcases List.mem_cons.1 hv with rfl|hv
  ·exact h.1
  ·exact plL_spec h.2 v hv
theorem VRel.pl {D D':Nat->Prop} {φ φ':Phi} {v:AV} {u:Value} (h:VRel D φ v u):v.pl=true->VRel D' φ' v u:=by
 induction h with
 |b x=>intro _;exact .b x
 |i k n=>intro _;exact .i k n
 |s l=>intro _;exact .s l
 |np=>intro _;exact .np
 |p b o h=>intro hp;cases hp
 |ns=>intro _;exact .ns
 |sl b o len cap h=>intro hp;cases hp
 |sg b o len j cap h hj hc hl=>intro hp;cases hp
 |fn f l cs hf hl h ih=>intro hp;exact .fn f l cs hf hl (fun i a u ha hu=>ih i a u ha hu (plL_spec hp a (List.mem_of_getElem? ha)))
 |bm f l cs hf hl h ih=>intro hp;exact .bm f l cs hf hl (fun i a u ha hu=>ih i a u ha hu (plL_spec hp a (List.mem_of_getElem? ha)))
 |nf=>intro _;exact .nf
 |ni=>intro _;exact .ni
 |agg l cs hl h ih=>intro hp;exact .agg l cs hl (fun i a u ha hu=>ih i a u ha hu (plL_spec hp a (List.mem_of_getElem? ha)))
 |tup l cs hl h ih=>intro hp;exact .tup l cs hl (fun i a u ha hu=>ih i a u ha hu (plL_spec hp a (List.mem_of_getElem? ha)))
 |fz l n B o cap vs hB hc hs h ih=>intro hp;cases hp
 |fz0 l x cap hc=>intro hp;cases hp
 |fp l k B o vs hB hs h ih=>intro hp;cases hp
 |ze x=>intro _;exact .ze x
 |en x cap=>intro _;exact .en x cap
 |any u=>intro _;exact .any u
 |k t u=>intro _;exact .k t u
 |m b h=>intro hp;cases hp
 |nm=>intro _;exact .nm
 |yl L r ts l hL h ih=>intro hp;cases hp
theorem VRel.bel0 {D D':Nat->Prop} {φ:Phi} {v:AV} {u:Value} (h:VRel D φ v u):v.bel 0=true->VRel D' φ v u:=by
 induction h with
 |b x=>intro _;exact .b x
 |i k n=>intro _;exact .i k n
 |s l=>intro _;exact .s l
 |np=>intro _;exact .np
 |p b o h=>intro hp;simp [AV.bel,Nat.blt] at hp
 |ns=>intro _;exact .ns
 |sl b o len cap h=>intro hp;simp [AV.bel,Nat.blt] at hp
 |sg b o len j cap h hj hc hl=>intro hp;simp [AV.bel,Nat.blt] at hp
 |fn f l cs hf hl h ih=>intro hp;exact .fn f l cs hf hl (fun i a u ha hu=>ih i a u ha hu (belL_spec hp a (List.mem_of_getElem? ha)))
 |bm f l cs hf hl h ih=>intro hp;exact .bm f l cs hf hl (fun i a u ha hu=>ih i a u ha hu (belL_spec hp a (List.mem_of_getElem? ha)))
 |nf=>intro _;exact .nf
 |ni=>intro _;exact .ni
 |agg l cs hl h ih=>intro hp;exact .agg l cs hl (fun i a u ha hu=>ih i a u ha hu (belL_spec hp a (List.mem_of_getElem? ha)))
 |tup l cs hl h ih=>intro hp;exact .tup l cs hl (fun i a u ha hu=>ih i a u ha hu (belL_spec hp a (List.mem_of_getElem? ha)))
 |fz l n B o cap vs hB hc hs h ih=>intro hp;exact .fz l n B o cap vs hB hc hs (fun i a u ha hu=>ih i a u ha hu (belL_spec hp a (List.mem_of_getElem? ha)))
 |fz0 l x cap hc=>intro _;exact .fz0 l x cap hc
 |fp l k B o vs hB hs h ih=>intro hp;exact .fp l k B o vs hB hs (fun i a u ha hu=>ih i a u ha hu (belL_spec hp a (List.mem_of_getElem? ha)))
 |ze x=>intro _;exact .ze x
 |en x cap=>intro _;exact .en x cap
 |any u=>intro _;exact .any u
 |k t u=>intro _;exact .k t u
 |m b h=>intro hp;simp [AV.bel,Nat.blt] at hp
 |nm=>intro _;exact .nm
 |yl L r ts l hL h ih=>intro hp;exact .yl L r ts l hL (fun i t a ht ha=>ih i t a ht ha (belL_spec hp a (List.mem_of_getElem? ha)))
noncomputable def Phi.frz (φ:Phi) (H:Hf) (w:World):Phi:={φ with fz:=fun B=>open Classical in if (∃b k,H b=some k/\φ.blk b=B) then fzW w B else φ.fz B}
theorem HR.fz_eq {D:Nat->Prop} {φ:Phi} {H:Hf} {w:World} (hH:HR D φ H w) {B:Nat} {vs:Array Value} (hB:φ.fz B=some vs):fzW w B=some vs:=by
 obtain ⟨elem,fr,h⟩:=hH.fz B vs hB;simp [fzW,h]
theorem Phi.frz_agree {D:Nat->Prop} {φ:Phi} {H:Hf} {w:World} (hH:HR D φ H w) (D':Nat->Prop):Agree D' φ (φ.frz H w):=⟨fun b _=>⟨rfl,rfl,rfl,rfl⟩,fun B vs hB=>by
 simp only [Phi.frz];split
 ·exact hH.fz_eq hB
 ·exact hB,rfl⟩
theorem Phi.frz_at {D:Nat->Prop} {φ:Phi} {H:Hf} {w:World} {b:Nat} {k:Blk} (hb:H b=some k):(φ.frz H w).fz (φ.blk b)=fzW w (φ.blk b):=by
 simp only [Phi.frz];exact if_pos ⟨b,k,hb,rfl⟩
def vwK {α:Type} (h:Hp) (z:Nat) (x:AV) (k:List Nat->Nat->List AV->Bool->Option α):Option α:=match x with
 | .ns=>k [] 0 [] true
 | .ze=>k [] 0 [] true
 | .fz l m=>k [] m (cellsAt l 0 (m*z)) (decide ((cellsAt l 0 (m*z)).length=m*z))
 | .sl b o m c=>(hgc h b).bind fun q=>k [b] m (cellsAt q.cells o (m*z)) (decide ((cellsAt q.cells o (m*z)).length=m*z)&&decide (m<=c))
 | .sg b o m=>(hgc h b).bind fun q=>k [b] m (cellsAt q.cells o (m*z)) (decide ((cellsAt q.cells o (m*z)).length=m*z))
 |_=>none
section
variable {α:Type} {h:Hp} {z:Nat} {k:List Nat->Nat->List AV->Bool->Option α}
theorem vwK_n:vwK h z .ns k=k [] 0 [] true:=(rfl)
theorem vwK_z:vwK h z .ze k=k [] 0 [] true:=(rfl)
theorem vwK_f {l:List AV} {m:Nat}:vwK h z (.fz l m) k=k [] m (cellsAt l 0 (m*z)) (decide ((cellsAt l 0 (m*z)).length=m*z)):=(rfl)
theorem vwK_s {b o m c:Nat}:vwK h z (.sl b o m c) k=((hget h b).bind Blk.pln).bind fun q=>k [b] m (cellsAt q.cells o (m*z)) (decide ((cellsAt q.cells o (m*z)).length=m*z)&&decide (m<=c)):=(rfl)
theorem vwK_g {b o m:Nat}:vwK h z (.sg b o m) k=((hget h b).bind Blk.pln).bind fun q=>k [b] m (cellsAt q.cells o (m*z)) (decide ((cellsAt q.cells o (m*z)).length=m*z)):=(rfl)
end
theorem VRel.view {D D':Nat->Prop} {φ:Phi} {h:Hp} {w:World} {z:Nat} {x:AV} {u:Value} {rd:List Nat} {m:Nat} {cs:List AV} (hH:HR D φ (only (hget h) rd) w) (hx:VRel D φ x u)
 (hv:vwK h z x (fun rd m cs ok=>some (rd,m,cs,ok))=some (rd,m,cs,true)) (hcs:belL 0 cs=true):VRel D' (φ.frz (only (hget h) rd) w) (.fz cs m) u:=by
 have cell: ∀b k o,only (hget h) rd b=some k->k.mp=none->cs=cellsAt k.cells o (m*z)-> ∃vs,(φ.frz (only (hget h) rd) w).fz (φ.blk b)=some vs/\(∀i,i<cs.length->φ.off b+o+i<vs.size)∧
  ∀(i:Nat) (a:AV) (u:Value),cs[i]? =some a->vs[φ.off b+o+i]? =some u->VRel D' (φ.frz (only (hget h) rd) w) a u:=fun b k o hb hm hc=>by
  obtain ⟨_,⟨⟨vs,elem,fr,h1,h2,_⟩,_⟩⟩:=hH.at_ b k hb;have h1:=h1.cells hm;have get: ∀(i:Nat) (a:AV),cs[i]? =some a-> ∃u,vs[φ.off b+o+i]? =some u/\VRel D φ a u:=fun i a ha=>by
   rw [hc] at ha;simp only [cellsAt,List.getElem?_take,List.getElem?_drop] at ha;split at ha
   ·obtain ⟨u,hu,hr⟩:=h2 _ a ha;exact ⟨u,by rw [Nat.add_assoc];exact hu,hr⟩
   ·cases ha
  refine ⟨vs,by rw [Phi.frz_at (D:=D) hb];simp [fzW,h1],fun i hi=> ?_,fun i a u ha hu=> ?_⟩
  ·obtain ⟨u,hu,_⟩:=get i _ (List.getElem?_eq_getElem hi);rcases Nat.lt_or_ge (φ.off b+o+i) vs.size with h'|h'
   ·exact h'
   ·rw [Array.getElem?_eq_none h'] at hu;cases hu
  ·obtain ⟨u',hu',hr⟩:=get i a ha;rw [hu] at hu';cases hu';exact (hr.mono (D':=D) (fun _ h=>h) (Phi.frz_agree hH D)).bel0 (belL_spec hcs a (List.mem_of_getElem? ha))
 cases hx with
 |ns=>simp only [vwK_n,Option.some.injEq,Prod.mk.injEq] at hv;obtain ⟨_,rfl,_⟩:=hv;exact .fz0 _ _ _ (fun _=>rfl)
 |ze x=>simp only [vwK_z,Option.some.injEq,Prod.mk.injEq] at hv;obtain ⟨_,rfl,_⟩:=hv;exact .fz0 _ _ _ (fun _=>rfl)
 |fz0 l x cap hc0=>simp only [vwK_f,Option.some.injEq,Prod.mk.injEq] at hv;obtain ⟨_,rfl,_⟩:=hv;exact .fz0 _ _ _ hc0
 |fz l n B o cap vs hB hc hs h=>
  simp only [vwK_f,Option.some.injEq,Prod.mk.injEq] at hv;obtain ⟨_,rfl,rfl,_⟩:=hv;have ag:=Phi.frz_agree hH D;refine .fz _ _ B o cap vs (ag.fz _ _ hB) hc (fun i hi=> ?_) (fun i a u ha hu=> ?_)
  ·simp [cellsAt] at hi;exact hs i (by omega)
  ·have hb:=belL_spec hcs a (List.mem_of_getElem? ha);simp only [cellsAt,List.drop_zero,List.getElem?_take] at ha;split at ha
   ·exact ((h i a u ha hu).mono (D':=D) (fun _ h=>h) ag).bel0 hb
   ·cases ha
 |sl b o len cap hD=>
  simp only [vwK,Option.bind_eq_some_iff,Option.some.injEq,Prod.mk.injEq,Bool.and_eq_true,decide_eq_true_eq] at hv;obtain ⟨k,hk,rfl,rfl,rfl,_,hc⟩:=hv;obtain ⟨hk,hmp⟩:=hgc_some hk;obtain ⟨vs,g1,g2,g3⟩:=cell b k o (by rw [only_get (by simp [inl])];exact hk) hmp rfl
  exact .fz _ _ _ _ _ vs g1 hc g2 g3
 |sg b o len j cap hD hj hc hl=>
  simp only [vwK,Option.bind_eq_some_iff,Option.some.injEq,Prod.mk.injEq,decide_eq_true_eq] at hv;obtain ⟨k,hk,rfl,rfl,rfl,_⟩:=hv;obtain ⟨hk,hmp⟩:=hgc_some hk;obtain ⟨vs,g1,g2,g3⟩:=cell b k o (by rw [only_get (by simp [inl])];exact hk) hmp rfl
  exact .fz _ _ _ _ _ vs g1 hl g2 g3
 |b x=>cases hv
 |i k n=>cases hv
 |s l=>cases hv
 |np=>cases hv
 |p b o h=>cases hv
 |fn f l cs hf hl h=>cases hv
 |bm f l cs hf hl h=>cases hv
 |yl L r ts l hL h=>cases hv
 |nf=>cases hv
 |ni=>cases hv
 |agg l cs hl h=>cases hv
 |tup l cs hl h=>cases hv
 |fp l k B o vs hB hs h=>cases hv
 |en x cap=>cases hv
 |any u=>cases hv
 |k t v=>cases hv
 |m b h=>cases hv
 |nm=>cases hv
end Go.Ab
namespace Go.Ab
open Go.ChangeShapes Go.WideShapes Go.RowKit
inductive TyF where
 |f (T:Ty)
 |sl (E:TyF)
 |st (l:List TyF)
 |an (n:Nat) (E:TyF)
mutual
def TyF.size:TyF->Nat
 | .f T=>T.size
 | .sl _=>1
 | .st l=>fsizeL l
 | .an n E=>n*E.size
def fsizeL:List TyF->Nat
 |[]=>0
 |T::r=>T.size+fsizeL r
end
mutual
def tyFIs (P:Program):TyF->TypeId->Bool
 | .f T,t=>tyIs P T t
 | .sl E,t=>match P.underlying t with|some (.slice e)=>tyFIs P E e&&Nat.beq (P.cellsOf t) 1&&Nat.blt 0 E.size|_=>false
 | .st Ts,t=>match P.underlying t with|some (.struct fs)=>fldFIs P Ts fs.toList 0&&Nat.beq (P.cellsOf t) (fsizeL Ts)|_=>false
 | .an n E,t=>match P.underlying t with|some (.array n' e)=>Nat.beq n' n&&tyFIs P E e&&Nat.beq (P.cellsOf t) (n*E.size)|_=>false
def fldFIs (P:Program):List TyF->List Field->Nat->Bool
 |[],[],_=>true
 |T::Ts,f::fs,o=>Nat.beq f.offset o&&tyFIs P T f.type&&fldFIs P Ts fs (o+T.size)
 |_,_,_=>false
end
mutual
def FShp:TyF->List AV->Prop
 | .f T,l=>Flat T l
 | .sl E,l=> ∃ls:List (List AV),(∀x∈ls,FShp E x)/\ls.length<=maxLen/\l=[.fz ls.flatten ls.length]
 | .st Ts,l=>FShps Ts l
 | .an n E,l=> ∃ls:List (List AV),ls.length=n/\(∀x∈ls,FShp E x)/\l=ls.flatten
def FShps:List TyF->List AV->Prop
 |[],l=>l=[]
 |T::Ts,l=> ∃a r,l=a++r/\FShp T a/\FShps Ts r
end
def mkArgF (T:TyF) (l:List AV):AV:=
 match T with
 | .f T=>mkArg T l
 | .sl _=>l.headD .np
 | .st _=> .agg l
 | .an _ _=> .agg l
def ArgsF:List TyF->List AV->Prop
 |[],vs=>vs=[]
 |T::Ts,vs=> ∃l vs',vs=mkArgF T l::vs'/\FShp T l/\ArgsF Ts vs'
def tysF (P:Program):List TyF->List TypeId->Bool
 |[],[]=>true
 |T::Ts,t::ts=>tyFIs P T t&&tysF P Ts ts
 |_,_=>false
section
variable {H:Type} {enc:TypeId×Value->H} {P:Program} {W:World} {sp:Nat->Bool} {held:Bool}
theorem tyFIs_cells: ∀{T:TyF} {t:TypeId},tyFIs P T t=true->P.cellsOf t=T.size
 | .f T,t,h=>tyIs_cells (T:=T) (by simpa only [tyFIs] using h)
 | .sl T,t,h=>by
  simp only [tyFIs] at h;split at h
  ·simp only [Bool.and_eq_true] at h;exact Nat.eq_of_beq_eq_true h.1.2
  ·cases h
 | .st Ts,t,h=>by
  simp only [tyFIs] at h;split at h
  ·simp only [Bool.and_eq_true] at h;exact Nat.eq_of_beq_eq_true h.2
  ·cases h
 | .an n E,t,h=>by
  simp only [tyFIs] at h;split at h
  ·simp only [Bool.and_eq_true] at h;exact Nat.eq_of_beq_eq_true h.2
  ·cases h
theorem cell_inv {a:Addr} {v:Value} (h:W.cell? a=some v):a.spot=none/\ ∃vs,fzW W a.block=some vs/\vs[a.off]? =some v:=by
 unfold World.cell? at h;split at h
 ·rename_i c e f hb;split at h
  ·cases h
  ·rename_i hs;exact ⟨by simpa using hs,c,by simp [fzW,hb],h⟩
 ·cases h
theorem add_none (a:Addr) (n:Nat) (h:a.spot=none):a.add n=⟨a.block,a.off+n,none⟩:=by
 unfold Addr.add;split
 ·rename_i hn;subst hn;cases a;simp_all
 ·rfl
theorem slice_openF {E:TyF} {t e:TypeId} {fuel:Nat} {cs:List Value} {x:DataW H×List MemPlace} (hu:P.underlying t=some (.slice e)) (hT:P.cellsOf e=E.size) (h0:0<E.size)
 (one: ∀{fuel:Nat} {cs:List Value} {x:DataW H×List MemPlace},DataW.trod enc P W 0 (fun _=>true) held fuel e cs=some x-> ∃l,FShp E l/\ ∀(D:Nat->Prop) (φ:Phi),φ.fz=fzW W->All2 D φ l cs)
 (h:DataW.trod enc P W 0 (fun _=>true) held fuel t cs=some x): ∃l,FShp (.sl E) l/\ ∀(D:Nat->Prop) (φ:Phi),φ.fz=fzW W->All2 D φ l cs:=by
 rcases DataW.trod_slice hu h with ⟨hc,_⟩|⟨a,l',c,elems,rest,n,_,hc,_,hb,hl,hm,hlen,hel,_⟩
 ·subst hc;exact ⟨[.fz [] 0],⟨[],(fun x hx=>by cases hx),by simp [maxLen],rfl⟩,fun D φ _=> .cons (.fz0 _ _ _ (fun _=>rfl)) .nil⟩
 ·subst hc;have key: ∀m',m'<=l'-> ∃ls:List (List AV),ls.length=m'/\(∀x∈ls,FShp E x)/\ ∃us:List Value,us.length=m'*E.size/\(∀(D:Nat->Prop) (φ:Phi),φ.fz=fzW W->All2 D φ ls.flatten us)/\ ∀i,i<m'*E.size->(a.spot=none->W.cell? ⟨a.block,a.off+i,none⟩=us[i]?):=by
   intro m';induction m' with
   |zero=>intro _;exact ⟨[],rfl,(fun x hx=>by cases hx),[],by simp,(fun D φ _=>by simpa using All2.nil),fun i hi=>by simp at hi⟩
   |succ m' ih=>
    intro hm';obtain ⟨ls,h1,h2,us,h3,h4,h5⟩:=ih (by omega)
    have hy:=hel m' (by omega)
    rw [List.getElem?_eq_getElem (by omega),Option.bind_eq_some_iff,hT] at hy
    obtain ⟨cs,hcs,hy⟩:=hy;obtain ⟨_,g1,g2⟩:=World.cells?_some hcs;obtain ⟨l,f1,f2⟩:=one hy;refine ⟨ls++[l],by simp [h1],fun x hx=> ?_,us++cs,by simp [h3,g1,Nat.add_mul],fun D φ hφ=> ?_,fun i hi hspot=> ?_⟩
    ·rcases List.mem_append.1 hx with hx|hx
     ·exact h2 x hx
     ·simp at hx;subst hx;exact f1
    ·simpa using (h4 D φ hφ).append (f2 D φ hφ)
    ·by_cases hlt:i<m'*E.size
     ·rw [List.getElem?_append_left (by omega)];exact h5 i hlt hspot
     ·rw [Nat.add_mul,Nat.one_mul] at hi;rw [List.getElem?_append_right (by omega),h3]
      have:=g2 (i-m'*E.size) (by omega)
      rw [<-this];congr 1;have hs2:(a.add (m'*E.size)).spot=none:=by rw [add_none a _ hspot]
      rw [add_none _ _ hs2,add_none a _ hspot];simp only [Addr.mk.injEq,and_true,true_and];omega
  obtain ⟨ls,h1,h2,us,h3,h4,h5⟩:=key l' (Nat.le_refl _);refine ⟨[.fz ls.flatten ls.length],⟨ls,h2,by omega,rfl⟩,fun D φ hφ=> .cons ?_ .nil⟩
  by_cases hz:l'=0
  ·rw [h1,hz];exact .fz0 _ _ _ (fun h=>by cases h)
  · -- the first cell shows where the row lies
    have hy:=hel 0 (by omega)
    rw [List.getElem?_eq_getElem (by omega),Option.bind_eq_some_iff,hT,Nat.zero_mul] at hy
    obtain ⟨cs,hcs,_⟩:=hy;obtain ⟨_,g1,g2⟩:=World.cells?_some hcs;have g3:=g2 0 h0;rw [List.getElem?_eq_getElem (by omega)] at g3
    have ha0:(a.add 0).add 0=a:=by simp [Addr.add]
    rw [ha0] at g3;obtain ⟨hs,vs,hvs,_⟩:=cell_inv g3;have hA:=h4 D φ hφ;have cellv: ∀i,i<us.length->vs[a.off+i]? =us[i]? :=fun i hi=>by
     have:=h5 i (by omega) hs
     rw [List.getElem?_eq_getElem hi] at this ⊢;obtain ⟨_,vs',q1,q2⟩:=cell_inv this;rw [hvs] at q1;cases q1;exact q2
    have ha:a=⟨a.block,a.off,none⟩:=by cases a;simp_all
    rw [ha,h1];refine .fz _ _ a.block a.off c vs (by rw [hφ];exact hvs) hl (fun i hi=> ?_) (fun i v u hv' hu'=> ?_)
    ·have hi':i<us.length:=by rw [<-hA.1];exact hi
     have:=cellv i hi';rw [List.getElem?_eq_getElem hi'] at this;rcases Nat.lt_or_ge (a.off+i) vs.size with h'|h'
     ·exact h'
     ·rw [Array.getElem?_eq_none h'] at this;cases this
    ·obtain ⟨u',q1,q2⟩:=hA.get hv';have hi':i<us.length:=(List.getElem?_eq_some_iff.1 q1).1;have:=cellv i hi';rw [hu',q1] at this;cases this;exact q2
mutual
theorem open_f: ∀{T:TyF} {t:TypeId} {fuel:Nat} {cs:List Value} {x:DataW H×List MemPlace},tyFIs P T t=true->DataW.trod enc P W 0 (fun _=>true) held fuel t cs=some x→
 ∃l,FShp T l/\ ∀(D:Nat->Prop) (φ:Phi),φ.fz=fzW W->All2 D φ l cs
 | .f T,t,fuel,cs,x,hT,h=>by
  simp only [tyFIs] at hT;obtain ⟨l,f1,f2⟩:=open_flat (D:=fun _=>False) (φ:=⟨fun _=>0,fun _=>0,fun _=>0,fun _=>0,fun _=>none,fun _=>none⟩) hT h;exact ⟨l,f1,fun D φ _=>⟨f2.1,fun i x u hx hu=>(f2.2 i x u hx hu).mono' (fun b hb=>hb.elim) (fun b hb=>hb.elim) (fun _ _ h=>by cases h) (fun _ _ h=>by cases h)⟩⟩
 | .sl E,t,fuel,cs,x,hT,h=>by
  simp only [tyFIs] at hT;split at hT
  ·rename_i e hu;simp only [Bool.and_eq_true] at hT;have hb:Nat.blt 0 E.size=true:=hT.2;rw [Nat.blt_eq] at hb;exact slice_openF hu (tyFIs_cells hT.1.1) hb (fun h=>open_f hT.1.1 h) h
  ·cases hT
 | .st Ts,t,fuel,cs,x,hT,h=>by
  simp only [tyFIs] at hT;split at hT
  ·rename_i fs hu;simp only [Bool.and_eq_true] at hT;obtain ⟨xs,n,_,_,hl,hxl,hall⟩:=DataW.trod_struct hu h;rw [Nat.eq_of_beq_eq_true hT.2] at hl;obtain ⟨l,h1,h2⟩:=open_fs (fuel:=n) (cs:=cs) hT.1 (by omega) (fun f hf=>by
    obtain ⟨i,hi⟩:=List.getElem?_of_mem hf;have h1:=hall i f (by simpa using hi)
    have hlt:i<fs.size:=by
     have:=(List.getElem?_eq_some_iff.1 hi).1;simpa using this
    rw [h1];exact ⟨xs[i],by simp [hxl,hlt]⟩)
   exact ⟨l,h1,by simpa only [List.drop_zero] using h2⟩
  ·cases hT
 | .an n E,t,fuel,cs,x,hT,h=>by
  simp only [tyFIs] at hT;split at hT
  ·rename_i n' e hu;simp only [Bool.and_eq_true] at hT;obtain ⟨⟨hn,hT1⟩,hT2⟩:=hT;have hn:=Nat.eq_of_beq_eq_true hn;subst hn;obtain ⟨m,hl,hall⟩:=trod_array hu h;rw [Nat.eq_of_beq_eq_true hT2] at hl;have hsz:=tyFIs_cells hT1;have key: ∀m',m'<=n'-> ∃ls:List (List AV),ls.length=m'/\(∀x∈ls,FShp E x)/\ ∀(D:Nat->Prop) (φ:Phi),φ.fz=fzW W->All2 D φ ls.flatten (cs.take (m'*E.size)):=by
    intro m';induction m' with
    |zero=>intro _;exact ⟨[],rfl,(fun x hx=>by cases hx),fun D φ _=>by simpa using All2.nil⟩
    |succ m' ih=>
     intro hm;obtain ⟨ls,h1,h2,h3⟩:=ih (by omega)
     obtain ⟨y,hy⟩:=hall m' (by omega)
     rw [hsz] at hy;obtain ⟨l,g1,g2⟩:=open_f hT1 hy;refine ⟨ls++[l],by simp [h1],fun x hx=> ?_,fun D φ hφ=> ?_⟩
     ·rcases List.mem_append.1 hx with hx|hx
      ·exact h2 x hx
      ·simp at hx;subst hx;exact g1
     ·have:cs.take ((m'+1)*E.size)=cs.take (m'*E.size)++(cs.drop (m'*E.size)).take E.size:=by
       rw [Nat.add_mul,Nat.one_mul,List.take_add]
      rw [this];simpa using (h3 D φ hφ).append (g2 D φ hφ)
   obtain ⟨ls,h1,h2,h3⟩:=key n' (Nat.le_refl _);refine ⟨ls.flatten,⟨ls,h1,h2,rfl⟩,fun D φ hφ=> ?_⟩;have:=h3 D φ hφ;rwa [List.take_of_length_le (by omega)] at this
  ·cases hT
theorem open_fs: ∀{Ts:List TyF} {fs:List Field} {o:Nat} {fuel:Nat} {cs:List Value},fldFIs P Ts fs o=true->cs.length=o+fsizeL Ts->(∀f∈fs,∃y,DataW.trod enc P W 0 (fun _=>true) held fuel f.type ((cs.drop f.offset).take (P.cellsOf f.type))=some y)→
 ∃l,FShps Ts l/\ ∀(D:Nat->Prop) (φ:Phi),φ.fz=fzW W->All2 D φ l (cs.drop o)
 |[],[],o,fuel,cs,_,hl,_=>⟨[],rfl,fun D φ _=>by
  rw [List.drop_of_length_le (by simp only [fsizeL] at hl;omega)];exact .nil⟩
 |[],_::_,o,fuel,cs,h,_,_=>by simp [fldFIs] at h
 |_::_,[],o,fuel,cs,h,_,_=>by simp [fldFIs] at h
 |T::Ts,f::fs,o,fuel,cs,h,hl,hall=>by
  simp only [fldFIs,Bool.and_eq_true] at h;obtain ⟨⟨ho,hT⟩,hr⟩:=h;have ho:=Nat.eq_of_beq_eq_true ho;obtain ⟨y,hy⟩:=hall f List.mem_cons_self;rw [ho,tyFIs_cells hT] at hy;obtain ⟨a,g1,g2⟩:=open_f hT hy;simp only [fsizeL] at hl;obtain ⟨r,g3,g4⟩:=open_fs (cs:=cs) hr (by omega) (fun f hf=>hall f (List.mem_cons_of_mem _ hf))
  refine ⟨a++r,⟨a,r,rfl,g1,g3⟩,fun D φ hφ=> ?_⟩;have hA:=(g2 D φ hφ).append (g4 D φ hφ);rwa [<-List.drop_drop,List.take_append_drop] at hA
end
theorem arg_f {T:TyF} {t:TypeId} {r:Reach} {base:Nat} {v:Value} {d:DataW H} {ps:List MemPlace} (hT:tyFIs P T t=true) (hval:Value.okWide P W r base t v)
 (h:DataW.Trod enc P W 0 (fun _=>true) held t v d ps): ∃l,FShp T l/\ ∀(D:Nat->Prop) (φ:Phi),φ.fz=fzW W->VRel D φ (mkArgF T l) v:=by
 match T with
 | .f T=>
  simp only [tyFIs] at hT;obtain ⟨l,f1,f2⟩:=arg_plain (D:=fun _=>False) (φ:=⟨fun _=>0,fun _=>0,fun _=>0,fun _=>0,fun _=>none,fun _=>none⟩) hT hval h;exact ⟨l,f1,fun D φ _=>f2.mono' (fun b hb=>hb.elim) (fun b hb=>hb.elim) (fun _ _ h=>by cases h) (fun _ _ h=>by cases h)⟩
 | .sl E=>
  have hT0:=hT;obtain ⟨fuel,h⟩:=h;simp only [tyFIs] at hT;split at hT
  ·rename_i e hu;simp only [Value.okWide,hu] at hval;have hcs:v.cells.toList=[v]:=by
    simp only [Cell.okWide,hu] at hval;cases v<;>simp [Cell.ok,hu] at hval<;>rfl
   rw [hcs] at h;obtain ⟨l,g1,g2⟩:=open_f hT0 h;refine ⟨l,g1,fun D φ hφ=> ?_⟩;have k1:=g2 D φ hφ;obtain ⟨ls,_,_,rfl⟩:=g1;obtain ⟨u,m,he,hr,_⟩:=k1.uncons;simp at he;rw [<-he.1] at hr;exact hr
  ·cases hT
 | .st Ts=>
  have hT':=hT;simp only [tyFIs] at hT';split at hT'
  ·rename_i fs hu;simp only [Value.okWide,hu] at hval;obtain ⟨cs,rfl,_,ts,_,_,hrow⟩:=hval;obtain ⟨fuel,h⟩:=h;simp only [Value.cells] at h;obtain ⟨l,g1,g2⟩:=open_f hT h;refine ⟨l,g1,fun D φ hφ=> ?_⟩;have:VRel D φ (.agg l) (.agg cs):=by
    have:=VRel.agg' (g2 D φ hφ);simpa using this
   exact this
  ·cases hT'
 | .an n E=>
  have hT':=hT;simp only [tyFIs] at hT';split at hT'
  ·rename_i n' e hu;simp only [Value.okWide,hu] at hval;obtain ⟨cs,rfl,_⟩:=hval;obtain ⟨fuel,h⟩:=h;simp only [Value.cells] at h;obtain ⟨l,g1,g2⟩:=open_f hT h;refine ⟨l,g1,fun D φ hφ=> ?_⟩;have:VRel D φ (.agg l) (.agg cs):=by
    have:=VRel.agg' (g2 D φ hφ);simpa using this
   exact this
  ·cases hT'
theorem open_argsF {r:Reach} {base:Nat}: ∀{Ts:List TyF} {ts:List TypeId} {vs:List Value} {ds:List (DataW H)} {ps:List MemPlace},tysF P Ts ts=true->(∀(i:Nat) t v,ts[i]? =some t->vs[i]? =some v->Value.okWide P W r base t v)→
 DataW.TrodAll enc P W 0 (fun _=>true) held ts vs ds ps-> ∃avs,ArgsF Ts avs/\ ∀(D:Nat->Prop) (φ:Phi),φ.fz=fzW W->All2 D φ avs vs
 |[],[],vs,ds,ps,_,_,h=>by
  cases vs with
  |nil=>exact ⟨[],rfl,fun D φ _=> .nil⟩
  |cons v vs=>cases ds<;>exact h.elim
 |T::Ts,t::ts,vs,ds,ps,hT,hv,h=>by
  simp only [tysF,Bool.and_eq_true] at hT
  match vs,ds,h with
  |v::vs,d::ds,⟨p,q,h1,h2,_⟩=>
   obtain ⟨avs,g1,g2⟩:=open_argsF hT.2 (fun i t v ht hv'=>hv (i+1) t v (by simpa using ht) (by simpa using hv')) h2
   obtain ⟨l,k1,k2⟩:=arg_f hT.1 (hv 0 t v rfl rfl) h1;exact ⟨mkArgF T l::avs,⟨l,avs,rfl,k1,g1⟩,fun D φ hφ=> .cons (k2 D φ hφ) (g2 D φ hφ)⟩
 |[],_::_,vs,ds,ps,hT,_,h=>by simp [tysF] at hT
 |_::_,[],vs,ds,ps,hT,_,h=>by simp [tysF] at hT
theorem law_callsF {f:FuncId} {Ts:List TyF} {ts:List TypeId} {args:Array Value} {ds:List (DataW H)} {ps:List MemPlace} {r:Reach} {base n':Nat} {h':Hp} {v:Bool} (Gs:List (Nat×List AV)) (hG: ∀x∈Gs,GlobOK W x) (hT:tysF P Ts ts=true)
 (hv: ∀(i:Nat) t v,ts[i]? =some t->args.toList[i]? =some v->Value.okWide P W r base t v) (h:DataW.TrodAll enc P W 0 (fun _=>true) true ts args.toList ds ps)
 (core: ∀avs,ArgsF Ts avs->FTL P f avs (glH 0 Gs) Gs.length (.b v) h' n') (hy:f≠YB:=by decide) (he:ext P f=false:=by kernel_rfl):Calls P f args W fun e W'=>e= .returned (.bool v)/\Below W.heap.size W W':=by
 obtain ⟨avs,g1,g2⟩:=open_argsF hT hv h;let φ:Phi:=⟨fun b=>((Gs[b]?).map (·.1)).getD 0,fun b=>0,fun _=>0,fun _=>0,fzW W,fun _=>none⟩;have k1:=g2 (fun b=>b<Gs.length) φ rfl;have k4:RoOK 0 Gs.length (glH 0 Gs) (fun b=>b<Gs.length) φ W:=⟨fun b k hb=>by
  obtain ⟨q1,q2,g,c,q3,rfl⟩:=glH_get hb;obtain ⟨cs,elem,fr,q4,q5⟩:=hG (g,c) (List.mem_of_getElem? q3);have hblk:φ.blk b=g:=by simp only [Nat.sub_zero] at q3;simp [φ,q3]
  refine ⟨q1,by omega,rfl,by simpa using q2,⟨⟨cs,elem,fr,by rw [hblk];exact q4,fun i v hi=> ?_,fun hr=>(by cases hr),fun e he=>(by cases he)⟩,fun g' hg'=> ?_⟩⟩
  ·obtain ⟨u,h1,h2⟩:=q5 (fun b=>b<Gs.length) φ i v hi;exact ⟨u,by show cs[0+i]? =_;rw [Nat.zero_add];exact h1,h2⟩
  ·simp only [Option.some.injEq] at hg';subst hg';exact ⟨hblk,rfl⟩⟩
 have hH:HR (fun b=>b<Gs.length) φ (hget (glH 0 Gs)) W:=
  ⟨⟨fun b k hb=>⟨(k4.at_ b k hb).2.2.2.1,(k4.at_ b k hb).2.2.2.2⟩,fun b1 b2 x1 x2 _ hb1 _ hro=>by rw [(k4.at_ b1 x1 hb1).2.2.1] at hro;cases hro⟩,(fun B vs h=>fzW_spec h),(fun L r h=>by cases h),(fun b k B vs hb hro _=>by rw [(k4.at_ b k hb).2.2.1] at hro;cases hro)⟩
 have:=core avs g1 (fun b=>b<Gs.length) φ W args.toList (fun b hb=>hb) hH k1;simp only [Array.toArray_toList] at this;refine (this.calls hy he).mono fun e w' hx=> ?_;obtain ⟨D',φ',u,rfl,_,hr,hS⟩:=hx;cases hr;exact ⟨rfl,FRM.below k4 hS.frm⟩
theorem law_postF {f:FuncId} {fn:Func} {s:ChangeSpec} {Ts:List TyF} {args:Array Value} {ds gs:List (DataW H)} {before:List MemPlace} {r:Reach} {base n':Nat} {h':Hp} {tb:TypeId} {fresh handsOn:Bool} (Gs:List (Nat×List AV)) (hG: ∀x∈Gs,GlobOK W x)
 (hT:tysF P Ts fn.params.toList=true) (hl:laidOutB P=true) (hread:(fn.params.toList.all fun t=>P.readableRec t&&decide (t<P.types.size))=true) (hres:fn.resultTypes= #[tb]) (htb:P.underlying tb=some .bool) (hvars:s.vars=[])
 (hspec: ∀(l:List (DataW H)),l.length=Ts.length->s.fn H l={results:=[.lit (.bool true)],args:=l})
 (hv: ∀(j:Nat) t v,fn.params[j]? =some t->args[j]? =some v->Value.okWide P W r base t v) (hW:DataW.Whole enc P fn.params.toList s.vars false W args.toList ds gs before)
 (core: ∀avs,ArgsF Ts avs->FTL P f avs (glH 0 Gs) Gs.length (.b true) h' n') (hy:f≠YB:=by decide) (he:ext P f=false:=by kernel_rfl):Calls P f args W fun e W'=> ∃v,e= .returned v/\s.post enc P fn false fresh handsOn false W args v W':=by
 have hW':=hW;have hlt:=hW.lt;obtain ⟨p,q,hA,hV,rfl,hfz,hnd⟩:=hW;rw [hvars] at hV;obtain ⟨rfl,rfl⟩:=trodVars_none hV;refine (law_callsF Gs hG hT (fun i t v ht hv'=>hv i t v (by simpa using ht) (by simpa using hv')) hA core hy he).mono fun e W' hx=> ?_
 obtain ⟨rfl,hB⟩:=hx;have hlen:ds.length=Ts.length:=by
  have h1: ∀{ts:List TypeId} {vs:List Value} {ds:List (DataW H)} {ps:List MemPlace},DataW.TrodAll enc P W 0 (fun _=>true) true ts vs ds ps->ds.length=ts.length:=by
   intro ts;induction ts with
   |nil=>intro vs ds ps h;obtain ⟨_,rfl,_⟩:=trodAll_nil h;rfl
   |cons t ts ih=>intro vs ds ps h;obtain ⟨_,_,_,_,_,_,_,rfl,_,_,h2⟩:=trodAll_cons h;simp [ih h2]
  have h2: ∀{Ts:List TyF} {ts:List TypeId},tysF P Ts ts=true->Ts.length=ts.length:=by
   intro Ts;induction Ts with
   |nil=>intro ts h;cases ts with
    |nil=>rfl
    |cons=>simp [tysF] at h
   |cons T Ts ih=>intro ts h;cases ts with
    |nil=>simp [tysF] at h
    |cons t ts=>simp only [tysF,Bool.and_eq_true] at h;simp [ih h.2]
  rw [h1 hA,h2 hT]
 have hfn:=hspec (ds++[]) (by simpa using hlen)
 have hlt': ∀x∈p,x.block<W.heap.size:=fun x hx=>hlt x (by simpa using hx)
 refine ⟨_,rfl,ds,[],p++[],[],p,[],hW',?_,?_,?_,hB.frame _,fun h=>by cases h⟩
 ·rw [hfn,hres];exact trodAll_mk1 (shut_bool htb _)
 ·rw [hfn];simpa using Below.trodAll hl hB hread hlt' hA
 ·rw [hfn,hvars];rfl
end
end Go.Ab
namespace Go.Ab
def CovS (n0:Nat) (v:AV) (h:Hp) (n:Nat) (v2:AV) (h2:Hp) (n2:Nat):Prop:=
 ∀(D:Nat->Prop) (φ:Phi) (w:World) (D0:Nat->Prop) (φ0:Phi) (H0:Hf) (w0:World) (u:Value),(∀b,D0 b->b<n0)->(∀b,D b->b<n)->VRel D φ v u->HR D φ (hget h) w->Stp D0 φ0 H0 w0 D φ (hget h) w→
  ∃D' φ',(∀b,D' b->b<n2)/\VRel D' φ' v2 u/\Stp D0 φ0 H0 w0 D' φ' (hget h2) w
theorem CovS.ends {n0 n n2:Nat} {v v2:AV} {h h2:Hp} (he:Ends n0 v h n v2 h2 n2):CovS n0 v h n v2 h2 n2:=Cov.ends _ _ _ _ _ _ _ he
theorem Cov.covs:Cov CovS:=fun _ _ _ _ _ _ _ hW=>hW
theorem FTL.of_covs {f:FuncId} {P:Program} {fn:Func} {I:IFn} {args:List AV} {n:Nat} {h:Hp} {v2:AV} {h2:Hp} {n2:Nat} (hf:P.funcs[f]? =some fn) (hI:compF P fn=some I) (hnp:args.length<=I.N)
 (hi: ∀c,compC P I.ct I.N c=I.code->WP P I.N n c (retK I.res fun v h' n'=>CovS n v h' n' v2 h2 n2) (argEnv 0 args) h n):FTL P f args h n v2 h2 n2:=
 FTLx.of_wpC Cov.covs hf hI hnp (fun c hc=>(hi c hc).mono (retX_of_retK fun _ _ _ h=>⟨rfl,h⟩))
theorem FTL.of_cov {f:FuncId} {P:Program} {fn:Func} {I:IFn} {cx:Cx} {args:List AV} {n:Nat} {h:Hp} {v2:AV} {h2:Hp} {n2:Nat} (hcx:Sound P cx) (hm:P.follows .mixedOrders=true) (hf:P.funcs[f]? =some fn) (hI:compF P fn=some I) (hnp:args.length<=I.N)
 (hi:iw ⟨P,cx,I.ct,I.N,n⟩ I.code (retK I.res fun v h' n'=>CovS n v h' n' v2 h2 n2) (argEnv 0 args) h n):FTL P f args h n v2 h2 n2:=
 FTL.of_covs hf hI hnp (fun c hc=>iw_sound ⟨P,cx,I.ct,I.N,n⟩ hcx hm c _ _ _ _ (by show iw _ (compC P I.ct I.N c) _ _ _ _;rw [hc];exact hi))
theorem FTL.of_seamC {f:FuncId} {P:Program} {fn:Func} {I:IFn} {cx:Cx} {args:List AV} {n:Nat} {h:Hp} {v2:AV} {h2:Hp} {n2:Nat} (hf:P.funcs[f]? =some fn) (hI:compF P fn=some I) (hnp:args.length<=I.N)
 (hi:Seam ⟨P,cx,I.ct,I.N,n⟩ I.code (retK I.res fun v h' n'=>CovS n v h' n' v2 h2 n2) (argEnv 0 args) h n):FTL P f args h n v2 h2 n2:=
 FTL.of_covs hf hI hnp (fun c hc=>hi c hc)
def FzV (x y:AV) (v v':AV):Prop:= ∀(D:Nat->Prop) (φ:Phi) (u:Value),(∀u1,VRel D φ x u1->VRel D φ y u1)->VRel D φ v u->VRel D φ v' u
theorem FzV.hit {x y:AV}:FzV x y x y:=fun D φ u h hv=>h u hv
theorem FzV.refl {x y v:AV}:FzV x y v v:=fun D φ u h hv=>hv
def FzVs (x y:AV):List AV->List AV->Prop
 |[],[]=>True
 |a::l,b::m=>FzV x y a b/\FzVs x y l m
 |_,_=>False
theorem FzVs.len {x y:AV}: ∀{l m:List AV},FzVs x y l m->l.length=m.length
 |[],[],_=>rfl
 |a::l,b::m,h=>by simp [FzVs.len h.2]
 |[],_::_,h=>h.elim
 |_::_,[],h=>h.elim
theorem FzVs.get {x y:AV}: ∀{l m:List AV} {i:Nat} {b:AV},FzVs x y l m->m[i]? =some b-> ∃a,l[i]? =some a/\FzV x y a b
 |[],[],i,b,_,hi=>by simp at hi
 |a::l,c::m,0,b,h,hi=>by simp at hi;subst hi;exact ⟨a,rfl,h.1⟩
 |a::l,c::m,i+1,b,h,hi=>by
  obtain ⟨a',h1,h2⟩:=FzVs.get h.2 (by simpa using hi)
  exact ⟨a',by simpa using h1,h2⟩
 |[],_::_,_,_,h,_=>h.elim
 |_::_,[],_,_,h,_=>h.elim
theorem FzV.agg {x y:AV} {l m:List AV} (h:FzVs x y l m):FzV x y (.agg l) (.agg m):=fun D φ u hx hv=>by
 cases hv with
 |agg _ cs hl hh=>
  refine .agg m cs (by rw [<-hl,h.len]) (fun i b u hb hu=> ?_)
  obtain ⟨a,h1,h2⟩:=h.get hb;exact h2 D φ u hx (hh i a u h1 hu)
theorem FzV.tup {x y:AV} {l m:List AV} (h:FzVs x y l m):FzV x y (.tup l) (.tup m):=fun D φ u hx hv=>by
 cases hv with
 |tup _ cs hl hh=>
  refine .tup m cs (by rw [<-hl,h.len]) (fun i b u hb hu=> ?_)
  obtain ⟨a,h1,h2⟩:=h.get hb;exact h2 D φ u hx (hh i a u h1 hu)
theorem CovS.frz {n0 n n2:Nat} {v v' v2:AV} {h h' h2:Hp} {x:AV} {b:Nat} {k:Blk} {cs:List AV} {m o:Nat} (hk:hget h b=some k) (hro:k.ro=false) (hx:(∃cap,x= .sl b o m cap/\m<=cap)\/x= .sg b o m) (hcs:cs=k.cells.drop o\/cs=(k.cells.drop o).take cs.length) (hf:FzV x (.fz cs m) v v')
 (hh: ∀c kk,hget h' c=some kk->c≠b/\hget h c=some kk) (hc:CovS n0 v' h' n v2 h2 n2) (hmp:k.mp=none:=by rfl):CovS n0 v h n v2 h2 n2:=by
 intro D φ w D0 φ0 H0 w0 u hD0 hD hv hH hS;obtain ⟨hdb,⟨⟨vs,elem,fr,q1,q2,q3,q4⟩,q5⟩⟩:=hH.at_ b k hk;have q1:=q1.cells hmp;let φ1:Phi:={φ with fz:=fun B=>if B=φ.blk b then some vs else φ.fz B}
 have ag:Agree D φ φ1:=⟨fun c _=>⟨rfl,rfl,rfl,rfl⟩,fun B vs' hB=>by
  simp only [φ1];split
  ·rename_i hBb;subst hBb;obtain ⟨elem',fr',h1⟩:=hH.fz _ _ hB;rw [q1] at h1;simp only [Option.some.injEq,Obj.cells.injEq] at h1;rw [h1.1]
  ·exact hB,rfl⟩
 have hxy: ∀u1,VRel D φ1 x u1->VRel D φ1 (.fz cs m) u1:=fun u1 h1=>by
  have get: ∀(i:Nat) (a:AV),cs[i]? =some a-> ∃u,vs[φ.off b+o+i]? =some u/\VRel D φ a u:=fun i a ha=>by
   have ha':k.cells[o+i]? =some a:=by
    rcases hcs with e|e
    ·rw [e,List.getElem?_drop] at ha;exact ha
    ·rw [e,List.getElem?_take,List.getElem?_drop] at ha;split at ha
     ·exact ha
     ·cases ha
   obtain ⟨u,hu,hr⟩:=q2 _ a ha';exact ⟨u,by rw [Nat.add_assoc];exact hu,hr⟩
  have g1:φ1.fz (φ.blk b)=some vs:=by simp [φ1]
  have g2: ∀i,i<cs.length->φ.off b+o+i<vs.size:=fun i hi=>by
   obtain ⟨u,hu,_⟩:=get i _ (List.getElem?_eq_getElem hi);rcases Nat.lt_or_ge (φ.off b+o+i) vs.size with h'|h'
   ·exact h'
   ·rw [Array.getElem?_eq_none h'] at hu;cases hu
  have g3: ∀(i:Nat) (a:AV) (u:Value),cs[i]? =some a->vs[φ.off b+o+i]? =some u->VRel D φ1 a u:=fun i a u ha hu=>by
   obtain ⟨u',hu',hr⟩:=get i a ha;rw [hu] at hu';cases hu';exact hr.mono (fun _ h=>h) ag
  rcases hx with ⟨cap,rfl,hcap⟩|rfl
  ·cases h1 with
   |sl _ _ _ _ _=>exact .fz _ _ _ _ _ vs g1 hcap g2 g3
  ·cases h1 with
   |sg _ _ _ j cap _ _ _ hl=>exact .fz _ _ _ _ _ vs g1 hl g2 g3
 have hv1:VRel D φ1 v' u:=hf D φ1 u hxy (hv.mono (fun _ h=>h) ag);have hH1:HR D φ1 (hget h') w:=by
  refine ⟨⟨fun c kk hc=> ?_,fun b1 b2 k1 k2 hne h1 h2 hr=> ?_⟩,fun B vs' hB=> ?_,hH.lp,fun c kk B vs' hc hr hB=> ?_⟩
  ·obtain ⟨_,h2⟩:=hh c kk hc;have h3:=hH.at_ c kk h2;exact ⟨h3.1,h3.2.mono (fun _ h=>h) ag h3.1 rfl⟩
  ·exact hH.sep b1 b2 k1 k2 hne (hh _ _ h1).2 (hh _ _ h2).2 hr
  ·simp only [φ1] at hB;split at hB
   ·rename_i e;subst e;cases hB;exact ⟨elem,fr,q1⟩
   ·exact hH.fz B vs' hB
  ·obtain ⟨h1,h2⟩:=hh c kk hc;simp only [φ1] at hB;split at hB
   ·rename_i e;subst e;exact hH.sep c b kk k h1 h2 hk hr
   ·exact hH.fsep c kk B vs' h2 hr hB
 refine hc D φ1 w D0 φ0 H0 w0 u hD0 hD hv1 hH1 ⟨hS.sub,⟨hS.agree.at_,fun B vs' hB=>ag.fz B vs' (hS.agree.fz B vs' hB),hS.agree.lp⟩,hH1,hS.frm,fun c kk hc hr=>hS.img c kk (hh c kk hc).2 hr,fun B vs' hB=> ?_⟩;simp only [φ1] at hB;split at hB
 ·rename_i e;subst e;exact .inr (hS.img b k hk hro)
 ·exact hS.fnew B vs' hB
theorem CovS.frzN {n0 n n2:Nat} {v v' v2:AV} {h h2:Hp} {l:List AV} (hf:FzV .ns (.fz l 0) v v') (hc:CovS n0 v' h n v2 h2 n2):CovS n0 v h n v2 h2 n2:=by
 intro D φ w D0 φ0 H0 w0 u hD0 hD hv hH hS;exact hc D φ w D0 φ0 H0 w0 u hD0 hD (hf D φ u (fun u1 h1=>by cases h1;exact .fz0 _ _ _ (fun _=>rfl)) hv) hH hS
def Sh.capOK:Sh->Prop
 | .sl _ _ m c=>m<=c
 |_=>True
theorem CovS.frzS {α:Type} {f:α->List AV} {z:Nat} {l:List α} {s:Sh} {b:Nat} {n0 n n2:Nat} {v v' v2:AV} {h h' h2:Hp} (hs:s.is f z l) (hfr:s.fresh=true) (hcap:s.capOK) (hh0:hasS h s b) (hf:FzV (s.v b) (.fz (rows f l) l.length) v v')
 (hh: ∀c kk,hget h' c=some kk->c≠b/\hget h c=some kk) (hc:CovS n0 v' h' n v2 h2 n2):CovS n0 v h n v2 h2 n2:=by
 obtain ⟨h1,h2',h3⟩:=hs;cases s with
 |nil=>
  have h0:l.length=0:=h2'.symm;rw [h0] at hf;refine CovS.frzN hf ?_;intro D φ w D0 φ0 H0 w0 u hD0 hD hv hH hS;exact hc D φ w D0 φ0 H0 w0 u hD0 hD hv (hH.sub fun c kk hc=>(hh c kk hc).2) ⟨hS.sub,hS.agree,hH.sub fun c kk hc=>(hh c kk hc).2,hS.frm,fun c kk hc hr=>hS.img c kk (hh c kk hc).2 hr,hS.fnew⟩
 |sl k o m c=>
  have hm:m=l.length:=h2';subst hm;refine CovS.frz (k:=k) (o:=o) (cs:=rows f l) (hh0 b k (by simp [Sh.h,hget])) (by simpa [Sh.fresh] using hfr) (.inl ⟨c,rfl,hcap⟩) (.inr ?_) hf hh hc (Option.isNone_iff_eq_none.1 (Bool.and_eq_true_iff.1 h1).1)
  have h3:cellsAt k.cells o (l.length*z)=rows f l:=h3;rw [<-h3,cellsAt,List.length_take];exact List.take_eq_take_min
 |sg k o m=>
  have hm:m=l.length:=h2';subst hm;refine CovS.frz (k:=k) (o:=o) (cs:=rows f l) (hh0 b k (by simp [Sh.h,hget])) (by simpa [Sh.fresh] using hfr) (.inr rfl) (.inr ?_) hf hh hc (Option.isNone_iff_eq_none.1 (Bool.and_eq_true_iff.1 h1).1)
  have h3:cellsAt k.cells o (l.length*z)=rows f l:=h3;rw [<-h3,cellsAt,List.length_take];exact List.take_eq_take_min
end Go.Ab
namespace Go.Ab
def VwV (h:Hp) (rd:List Nat) (a aF:AV):Prop:= ∀(D D':Nat->Prop) (φ:Phi) (w:World) (u:Value),HR D φ (only (hget h) rd) w->VRel D φ a u->VRel D' (φ.frz (only (hget h) rd) w) aF u
def VwL (h:Hp) (rd:List Nat):List AV->List AV->Prop
 |[],[]=>True
 |a::l,b::m=>VwV h rd a b/\VwL h rd l m
 |_,_=>False
section
variable {h:Hp} {rd:List Nat}
theorem VwV.same {a:AV} (ha:a.bel 0=true):VwV h rd a a:=fun D D' φ w u hH hv=>(hv.mono (D':=D) (fun _ h=>h) (Phi.frz_agree hH D)).bel0 ha
theorem VwL.len: ∀{l m:List AV},VwL h rd l m->l.length=m.length
 |[],[],_=>rfl
 |a::l,b::m,h=>by simp [VwL.len h.2]
 |[],_::_,h=>h.elim
 |_::_,[],h=>h.elim
theorem VwL.get: ∀{l m:List AV} {i:Nat} {b:AV},VwL h rd l m->m[i]? =some b-> ∃a,l[i]? =some a/\VwV h rd a b
 |[],[],i,b,_,hi=>by simp at hi
 |a::l,c::m,0,b,h,hi=>by simp at hi;subst hi;exact ⟨a,rfl,h.1⟩
 |a::l,c::m,i+1,b,h,hi=>by
  obtain ⟨a',h1,h2⟩:=VwL.get h.2 (by simpa using hi)
  exact ⟨a',by simpa using h1,h2⟩
 |[],_::_,_,_,h,_=>h.elim
 |_::_,[],_,_,h,_=>h.elim
theorem VwV.fn {f:FuncId} {l m:List AV} (hl:VwL h rd l m):VwV h rd (.fn f l) (.fn f m):=fun D D' φ w u hH hv=>by
 cases hv with
 |fn _ _ cs hf hlen hh=>
  refine .fn f m cs hf (by rw [<-hlen,hl.len]) (fun i b u hb hu=> ?_)
  obtain ⟨a,h1,h2⟩:=hl.get hb;exact h2 D D' φ w u hH (hh i a u h1 hu)
theorem VwV.p {b o:Nat} {k:Blk} (hb:only (hget h) rd b=some k) (hk:belL 0 k.cells=true) (hmp:k.mp=none:=by rfl):VwV h rd (.p b o) (.fp k.cells o):=fun D D' φ w u hH hv=>by
 cases hv with
 |p _ _ hD=>
  obtain ⟨_,⟨⟨vs,elem,fr,h1,h2,_⟩,_⟩⟩:=hH.at_ b k hb;have h1:=h1.cells hmp;have:=VRel.fp (D:=D') (φ:=φ.frz (only (hget h) rd) w) k.cells o (φ.blk b) (φ.off b) vs (by rw [Phi.frz_at (D:=D) hb];simp [fzW,h1]) (fun i hi=>by
   obtain ⟨u,hu,_⟩:=h2 i _ (List.getElem?_eq_getElem hi);rcases Nat.lt_or_ge (φ.off b+i) vs.size with h'|h'
   ·exact h'
   ·rw [Array.getElem?_eq_none h'] at hu;cases hu) (fun i a u ha hu=>by
   obtain ⟨u',hu',hr⟩:=h2 i a ha;rw [hu] at hu';cases hu';exact (hr.mono (D':=D) (fun _ h=>h) (Phi.frz_agree hH D)).bel0 (belL_spec hk a (List.mem_of_getElem? ha)))
  exact this
theorem vwK_sub {z:Nat} {x:AV} {rd':List Nat} {m:Nat} {cs:List AV}
 (hv:vwK h z x (fun rd m cs ok=>some (rd,m,cs,ok))=some (rd',m,cs,true)) (hcs:belL 0 cs=true) (hrd: ∀b,inl rd' b=true->inl rd b=true):VwV h rd x (.fz cs m):=fun D D' φ w u hH hx=>by
 have h1:=VRel.view (D':=D') (only_sub hH hrd) hx hv hcs;refine VRel.mono (φ:=φ.frz (only (hget h) rd') w) (fun _ h=>h) ?_ h1;refine ⟨fun b _=>⟨rfl,rfl,rfl,rfl⟩,fun B vs hB=> ?_,rfl⟩;simp only [Phi.frz] at hB ⊢;split at hB
 ·rename_i hex;obtain ⟨b,k,hb,hbB⟩:=hex;have hb2:only (hget h) rd b=some k:=by
   unfold only at hb ⊢;cases hb':inl rd' b
   ·simp [hb'] at hb
   ·rw [hrd b hb'];simpa [hb'] using hb
  rw [if_pos ⟨b,k,hb2,hbB⟩];exact hB
 ·split
  ·exact hH.fz_eq hB
  ·exact hB
end
theorem CallOK.viewG {P:Program} {f:FuncId} {args argsF:List AV} {h:Hp} {n:Nat} {rd:List Nat} {v:AV} (hc:Go.Ab.callable P f=true)
 (hv:VwL h rd args argsF) (hpl:v.pl=true) (hf:FTL P f argsF [] 0 v [] 0):CallOK P f args h n {v,n,rd}:=by
 refine ⟨hc,Nat.le_refl _,fun b r hb=>by simp [mget] at hb,fun b kk hb=>by simp [hget] at hb,fun D φ w us hfresh hH hA=> ?_⟩
 let φ1:=φ.frz (only (hget h) rd) w;have hH1:HR (fun _=>False) φ1 (hget []) w:=⟨⟨fun b k hb=>by simp [hget] at hb,fun b1 b2 k1 k2 _ hb=>by simp [hget] at hb⟩,fun B vs hB=>by
  simp only [φ1,Phi.frz] at hB;split at hB
  ·exact fzW_spec hB
  ·exact hH.fz B vs hB,hH.lp,fun b k B vs hb=>by simp [hget] at hb⟩
 have hA1:All2 (fun _=>False) φ1 argsF us:=⟨by rw [<-hv.len];exact hA.1,fun i a u ha hu=>by
  obtain ⟨a',h1,h2⟩:=hv.get ha;exact h2 D _ φ w u hH (hA.2 i a' u h1 hu)⟩
 refine (hf (fun _=>False) φ1 w us (fun _ h=>h.elim) hH1 hA1).mono fun e w' hx=> ?_;obtain ⟨D',φ',u,rfl,hD',hr,hS⟩:=hx;have hd: ∀b,D b->Dn D n n b:=fun b h=> .inl h;have e:(Eff.app {v,n,rd} (only (hget h) rd))=only (hget h) rd:=by funext b;rfl
 have hst: ∀c,c<w.heap.size->w'.heap[c]? =w.heap[c]? :=fun c hc=>hS.frm.block c hc (fun b k hb=>by simp [hget] at hb)
 refine ⟨u,φ,rfl,hr.pl hpl,?_,fun c kk hc _=>by rw [e] at hc;exact hc⟩
 show Stp D φ _ w (Dn D n n) φ (Eff.app _ _) w';rw [e];exact Stp.mk' hH rfl rfl hd (Agree.refl D φ).at_ ⟨fun b k hb=>⟨hd b (hH.at_ b k hb).1,(hH.at_ b k hb).2.mono hd (Agree.refl _ _) (hH.at_ b k hb).1 (hst _ (hH.at_ b k hb).2.lt)⟩,hH.sep⟩
  ⟨hS.frm.os,hS.frm.tape,hS.frm.output,hS.frm.size,fun c hc _=>hst c hc⟩ (fun b k hb hk=> .inr ⟨b,k,hb,hk,rfl⟩)
abbrev ixfC (z:Nat) (agg:Bool):ICode:=(.seq (.reg [⟨some 4,.mv (.c (.i .i64 0)),none,false⟩]) (.seq (.seq (.reg [⟨some 6,.mv (.t 0),none,false⟩,⟨some 7,.lenV (.t 6),none,false⟩,⟨some 8,.mv (.c (.i .i64 0)),none,false⟩])
 (.block 0 (.loop (.seq (.reg [⟨some 9,.bin .lss (.t 8) (.t 7),none,true⟩]) (.seq (.cond (.t 9) .skip (.exit 0)) (.seq (.block 1 (.seq (.reg [⟨some 10,.mv (.t 8),none,false⟩,⟨some 5,.mv (.t 10),none,false⟩])
   (.seq (.reg [⟨some 11,.mv (.t 1),none,false⟩,⟨some 12,.mv (.t 0),none,false⟩,⟨some 13,.mv (.t 5),none,false⟩,⟨some 14,.ixaV z (.t 12) (.t 13),none,false⟩,⟨some 15,.ld agg z (.t 14),none,false⟩,⟨some 16,.call (.t 11) [.t 15],none,true⟩])
     (.cond (.t 16) (.seq (.reg [⟨some 17,.mv (.t 5),none,false⟩,⟨some 4,.mv (.t 17),none,false⟩]) .ret) .skip)))) (.reg [⟨some 18,.bin .add (.t 8) (.c (.i .i64 1)),none,false⟩,⟨some 8,.mv (.t 18),none,false⟩])))))))
 (.seq (.reg [⟨some 4,.mv (.c (.i .i64 (-1))),none,false⟩]) .ret)))
def ixfI (z:Nat) (agg:Bool):IFn:={np:=2,N:=19,ct:=[9,16],code:=ixfC z agg,res:=[.t 4]}
abbrev cofC (g:FuncId):ICode:=(.seq (.reg [⟨some 4,.mv (.c (.b false)),none,false⟩]) (.seq (.reg [⟨some 5,.mv (.t 0),none,false⟩,⟨some 6,.mv (.t 1),none,false⟩,⟨some 7,.call (.c (.fn g [])) [.t 5,.t 6],none,false⟩,⟨some 8,.bin .geq (.t 7) (.c (.i .i64 0)),none,false⟩,⟨some 4,.mv (.t 8),none,false⟩]) .ret))
def cofI (g:FuncId):IFn:={np:=2,N:=9,ct:=[],code:=cofC g,res:=[.t 4]}
def ixf {α:Type} (p:α->Bool):List α->Int->Int
 |[],_=> -1
 |x::r,i=>if p x then i else ixf p r (i+1)
theorem ixf_neg {α:Type} (p:α->Bool): ∀(l:List α) (i:Int),0<=i->(decide (0<=ixf p l i)=l.any p)
 |[],i,_=>rfl
 |x::r,i,h=>by
  simp only [ixf,List.any_cons];by_cases hx:p x=true
  ·simp [hx,h]
  ·simp [hx,ixf_neg p r (i+1) (by omega)]
theorem ixf_drop {α:Type} {p:α->Bool}: ∀{l:List α} {k:Nat} (i:Int),(∀x∈l.take k,p x=false)->ixf p l i=ixf p (l.drop k) (i+k)
 |l,0,i,_=>by simp
 |[],k+1,i,_=>rfl
 |x::r,k+1,i,h=>by
  simp only [ixf,h x (by simp),Bool.false_eq_true,if_false,List.drop_succ_cons]
  rw [ixf_drop (l:=r) (k:=k) (i+1) (fun y hy=>h y (by simp [hy]))]
  congr 1;omega
noncomputable def cxP {α:Type} (g:FuncId) (caps:List AV) (el:α->AV) (p:α->Bool) (l:List α):Cx:=fun f args h n=>
 open Classical in if hx:f=g/\ ∃a,a∈l/\args=el a::caps then some (true,{v:= .b (p hx.2.choose),n}) else none
theorem cxP_at {α:Type} {g:FuncId} {caps:List AV} {el:α->AV} {p:α->Bool} {l:List α} (hp: ∀a b,el a=el b->p a=p b) {a:α} (ha:a∈l) {h:Hp} {n:Nat}:cxP g caps el p l g (el a::caps) h n=some (true,{v:= .b (p a),n}):=by
 unfold cxP;have hx:g=g/\ ∃b,b∈l/\el a::caps=el b::caps:=⟨rfl,a,ha,rfl⟩;rw [dif_pos hx];have h2:el a=el hx.2.choose:=(List.cons.inj hx.2.choose_spec.2).1;exact congrArg (fun b=>some (true,({v:= .b b,n}:Eff))) (hp _ _ h2).symm
theorem cxP_sound {P:Program} {α:Type} {g:FuncId} {caps:List AV} {el:α->AV} {p:α->Bool} {l:List α} (hc:callable P g=true) (hel: ∀a,(el a).bel 0=true) (hcaps:belL 0 caps=true)
 (hf: ∀a∈l,FTL P g (el a::caps) [] 0 (.b (p a)) [] 0):Sound P (cxP g caps el p l):=fun f args h n c E hx hc'=>by
 unfold cxP at hx;split at hx
 ·rename_i hy;obtain ⟨h1,h2⟩:=hy.2.choose_spec;simp only [Option.some.injEq,Prod.mk.injEq] at hx;obtain ⟨_,rfl⟩:=hx;obtain ⟨a,ha⟩: ∃a,a=hy.2.choose:=⟨_,rfl⟩;rw [<-ha] at h1 h2 ⊢;clear ha;obtain ⟨rfl,_⟩:=hy;rw [h2];exact CallOK.pure hc (by simp [belL,hel,hcaps]) rfl (hf _ h1) h n
 ·cases hx
end Go.Ab
namespace Go.Ab
section
variable {P:Program} {α:Type} {row:α->List AV} {el:α->AV} {p:α->Bool} {g:FuncId} {caps:List AV}
theorem ixf_fz {z:Nat} {f:FuncId} {fn:Func} (hm:P.follows .mixedOrders=true) (hf:P.funcs[f]? =some fn) (hI:compF P fn=some (ixfI z true)) (hg:callable P g=true) (hlen: ∀a,(row a).length=z) (hbel: ∀a,belL 0 (row a)=true) (hcaps:belL 0 caps=true)
 (hel: ∀a,el a= .agg (row a)) (hp: ∀a b,el a=el b->p a=p b) (l:List α) (hl:l.length<=9223372036854775807) (hF: ∀a∈l,FTL P g (el a::caps) [] 0 (.b (p a)) [] 0):FTL P f [.fz (rows row l) l.length,.fn g caps] [] 0 (.i .i64 (ixf p l 0)) [] 0:=by
 have hcx:Sound P (cxP g caps el p l):=cxP_sound hg (fun a=>by rw [hel];exact hbel a) hcaps hF
 have hat: ∀(a:α) (h:Hp) (n:Nat),a∈l->cxP g caps el p l g (.agg (row a)::caps) h n=some (true,{v:= .b (p a),n}):=fun a h n ha=>by rw [<-hel];exact cxP_at hp ha
 generalize cxP g caps el p l=cx at hcx hat;refine FTL.of_iw hcx hm hf hI (by simp [ixfI]) (iw_of_jw ?_)
 dsimp only [ixfI];generalize hR:ixf p l 0=R;have hLb:belL 0 (rows row l)=true:=rows_bel hbel;have hL: ∀(k:Nat) x,l[k]? =some x->List.take z (List.drop (k*z) (rows row l))=row x:=fun k x hk=>rows_at hlen hk;generalize rows row l=L at hL hLb ⊢;simp only [go_sem,simprocAttr];refine Loop.countI (F:=⟨P,cx,[9,16],19,0⟩) hcx hm l.length (fun k=> ∀x∈l.take k,p x=false)
  (fun k=>[(0,.fz L l.length),(1,.fn g caps),(7,.i .i64 (l.length:Int)),(8,.i .i64 (k:Int))])
  (fun k=>[]) 0 (Nat.le_refl 0) (by simp) ?_ ?_ (fun k hk ho=> ?_)
 ·simp only [go_sem,AV.bel,belL,nblt,hLb,hcaps,simprocAttr]
 ·simp only [go_sem,simprocAttr]
 ·by_cases hlt:k<l.length
  ·have c1:decide ((k:Int)<(l.length:Int))=true:=decide_eq_true (by omega)
   have c2:decide (0<=(k:Int)/\(k:Int)<(l.length:Int))=true:=decide_eq_true (by omega)
   have hx:=hL k l[k] (List.getElem?_eq_getElem hlt);have hw:IntKind.i64.wrap ((k:Int)+1)=((k+1:Nat):Int):=by rw [wrapL (by omega) (by omega)];omega
   have hdr:l.drop k=l[k]::l.drop (k+1):=List.drop_eq_getElem_cons hlt;have ha:=fun h n=>hat l[k] h n (List.getElem_mem hlt);have hlz:=hlen l[k];cases hin:p l[k]
   ·have hnext: ∀x∈l.take (k+1),p x=false:=by
     intro x hx;rw [List.take_add_one,List.getElem?_eq_getElem hlt] at hx;rcases List.mem_append.1 hx with hx|hx
     ·exact ho x hx
     ·simp at hx;subst hx;exact hin
    simp only [go_sem,c1,c2,hx,ha,hlz,hin,hw,hlt,AV.bel,belL,nblt,hLb,hcaps,simprocAttr];exact hnext
   ·have hfo:R=(k:Int):=by
     rw [<-hR,ixf_drop 0 ho,hdr];simp [ixf,hin]
    simp only [go_sem,c1,c2,hx,ha,hlz,hin,simprocAttr];exact Ends.pureE rfl (by rw [hfo])
  ·have c1:decide ((k:Int)<(l.length:Int))=false:=decide_eq_false (by omega)
   have hkl:k=l.length:=by omega
   have hfo:R= -1:=by
    rw [<-hR,ixf_drop 0 ho,hkl,List.drop_length];rfl
   simp only [go_sem,c1,simprocAttr];exact Ends.pureE rfl (by rw [hfo])
theorem ixf_fz1 {f:FuncId} {fn:Func} (hm:P.follows .mixedOrders=true) (hf:P.funcs[f]? =some fn) (hI:compF P fn=some (ixfI 1 false)) (hg:callable P g=true) (hbel: ∀a,(el a).bel 0=true) (hcaps:belL 0 caps=true)
 (hrow: ∀a,row a=[el a]) (hp: ∀a b,el a=el b->p a=p b) (l:List α) (hl:l.length<=9223372036854775807) (hF: ∀a∈l,FTL P g (el a::caps) [] 0 (.b (p a)) [] 0):FTL P f [.fz (rows row l) l.length,.fn g caps] [] 0 (.i .i64 (ixf p l 0)) [] 0:=by
 have hcx:Sound P (cxP g caps el p l):=cxP_sound hg hbel hcaps hF;have hat: ∀(a:α) (h:Hp) (n:Nat),a∈l->cxP g caps el p l g (el a::caps) h n=some (true,{v:= .b (p a),n}):=fun a h n ha=>cxP_at hp ha;generalize cxP g caps el p l=cx at hcx hat;refine FTL.of_iw hcx hm hf hI (by simp [ixfI]) (iw_of_jw ?_)
 dsimp only [ixfI];generalize hR:ixf p l 0=R;have hLb:belL 0 (rows row l)=true:=rows_bel (fun a=>by simp [hrow,belL,hbel])
 have hL: ∀(k:Nat) x,l[k]? =some x->(rows row l)[k*1]? =some (el x):=fun k x hk=>rows_get (f:=row) (z:=1) (j:=0) (v:=el x) (fun a=>by simp [hrow]) hk (by simp [hrow])
 generalize rows row l=L at hL hLb ⊢;simp only [go_sem,simprocAttr];refine Loop.countI (F:=⟨P,cx,[9,16],19,0⟩) hcx hm l.length (fun k=> ∀x∈l.take k,p x=false)
  (fun k=>[(0,.fz L l.length),(1,.fn g caps),(7,.i .i64 (l.length:Int)),(8,.i .i64 (k:Int))])
  (fun k=>[]) 0 (Nat.le_refl 0) (by simp) ?_ ?_ (fun k hk ho=> ?_)
 ·simp only [go_sem,AV.bel,belL,nblt,hLb,hcaps,simprocAttr]
 ·simp only [go_sem,simprocAttr]
 ·by_cases hlt:k<l.length
  ·have c1:decide ((k:Int)<(l.length:Int))=true:=decide_eq_true (by omega)
   have c2:decide (0<=(k:Int)/\(k:Int)<(l.length:Int))=true:=decide_eq_true (by omega)
   have hx:=hL k l[k] (List.getElem?_eq_getElem hlt);rw [Nat.mul_one] at hx;have hw:IntKind.i64.wrap ((k:Int)+1)=((k+1:Nat):Int):=by rw [wrapL (by omega) (by omega)];omega
   have hdr:l.drop k=l[k]::l.drop (k+1):=List.drop_eq_getElem_cons hlt;have ha:=fun h n=>hat l[k] h n (List.getElem_mem hlt);cases hin:p l[k]
   ·have hnext: ∀x∈l.take (k+1),p x=false:=by
     intro x hx;rw [List.take_add_one,List.getElem?_eq_getElem hlt] at hx;rcases List.mem_append.1 hx with hx|hx
     ·exact ho x hx
     ·simp at hx;subst hx;exact hin
    simp only [go_sem,c1,c2,hx,ha,hin,hw,hlt,AV.bel,belL,nblt,hLb,hcaps,Nat.mul_one,simprocAttr];exact hnext
   ·have hfo:R=(k:Int):=by
     rw [<-hR,ixf_drop 0 ho,hdr];simp [ixf,hin]
    simp only [go_sem,c1,c2,hx,ha,hin,Nat.mul_one,simprocAttr];exact Ends.pureE rfl (by rw [hfo])
  ·have c1:decide ((k:Int)<(l.length:Int))=false:=decide_eq_false (by omega)
   have hkl:k=l.length:=by omega
   have hfo:R= -1:=by
    rw [<-hR,ixf_drop 0 ho,hkl,List.drop_length];rfl
   simp only [go_sem,c1,simprocAttr];exact Ends.pureE rfl (by rw [hfo])
theorem cof_fz {f g2:FuncId} {fn:Func} {L:List AV} {m:Nat} {R:Int} {b:Bool} (hm:P.follows .mixedOrders=true) (hf:P.funcs[f]? =some fn) (hI:compF P fn=some (cofI g2)) (hg:callable P g2=true) (hL:belL 0 L=true) (hcaps:belL 0 caps=true)
 (hix:FTL P g2 [.fz L m,.fn g caps] [] 0 (.i .i64 R) [] 0) (hR:decide (0<=R)=b):FTL P f [.fz L m,.fn g caps] [] 0 (.b b) [] 0:=by
 let cx:Cx:=fun f args h n=>open Classical in if f=g2/\args=[.fz L m,.fn g caps] then some (true,{v:= .i .i64 R,n}) else none
 have hcx:Sound P cx:=fun f args h n c E hx hc=>by
  simp only [cx] at hx;split at hx
  ·rename_i hy;obtain ⟨rfl,rfl⟩:=hy;cases hx;exact CallOK.pure hg (by simp [belL,AV.bel,hL,hcaps]) rfl hix h n
  ·cases hx
 have hat: ∀(h:Hp) (n:Nat),cx g2 [.fz L m,.fn g caps] h n=some (true,{v:= .i .i64 R,n}):=fun h n=>if_pos ⟨rfl,rfl⟩;generalize cx=cx at hcx hat;refine FTL.of_iw hcx hm hf hI (by simp [cofI]) (iw_of_jw ?_)
 dsimp only [cofI];simp only [go_sem,hat,simprocAttr];exact Ends.pureE rfl (by rw [<-hR])
end
end Go.Ab
namespace Go.Ab
abbrev Xt:=Int×List UInt8
def xtR (x:Xt):List AV:=[.i .i64 x.1,.s x.2]
theorem xtR_len: ∀x,(xtR x).length=2:=fun _=>rfl
theorem xtR_bel: ∀x,belL 0 (xtR x)=true:=fun _=>rfl
structure Md where
 ma:Bool
 ty:Int
 sq:Int
 tm:Int
 ss:Int
 cs:List Int
 xs:List Xt
 pd:Int
 pl:List UInt8
def Md.l (p:Md):List AV:=[.b p.ma,.i .i64 p.ty,.i .i64 p.sq,.i .i64 p.tm,.i .i64 p.ss,.fz (rows int1 p.cs) p.cs.length,.fz (rows xtR p.xs) p.xs.length,.i .i64 p.pd,.s p.pl]
theorem Md.len: ∀p:Md,p.l.length=9:=fun _=>rfl
theorem Md.bel: ∀p:Md,belL 0 p.l=true:=fun p=>by
 simp only [Md.l,belL,AV.bel,rows_bel int1_bel,rows_bel xtR_bel,Bool.and_self]
theorem rows_inj {α:Type} {f:α->List AV} {z:Nat} (hf: ∀a,(f a).length=z) (hi: ∀a b,f a=f b->a=b): ∀{l m:List α},l.length=m.length->rows f l=rows f m->l=m
 |[],[],_,_=>rfl
 |a::l,b::m,hl,h=>by
  rw [rows_cons,rows_cons] at h;obtain ⟨h1,h2⟩:=List.append_inj h (by rw [hf,hf])
  rw [hi _ _ h1,rows_inj hf hi (by simpa using hl) h2]
 |[],_::_,h,_=>by simp at h
 |_::_,[],h,_=>by simp at h
theorem Md.inj {p q:Md} (h:p.l=q.l):p=q:=by
 obtain ⟨a1,a2,a3,a4,a5,a6,a7,a8,a9⟩:=p;obtain ⟨b1,b2,b3,b4,b5,b6,b7,b8,b9⟩:=q;simp only [Md.l,List.cons.injEq,AV.b.injEq,AV.i.injEq,AV.fz.injEq,AV.s.injEq,true_and,and_true] at h;obtain ⟨rfl,rfl,rfl,rfl,rfl,⟨h6,l6⟩,⟨h7,l7⟩,rfl,rfl⟩:=h;have e6:=rows_inj (f:=int1) int1_len (fun a b e=>by simpa [int1] using e) l6 h6
 have e7:=rows_inj (f:=xtR) xtR_len (fun a b e=>by
  simp only [xtR,List.cons.injEq,AV.i.injEq,AV.s.injEq,true_and,and_true] at e;exact Prod.ext e.1 e.2) l7 h7
 rw [e6,e7]
def Md.fin (p:Md):Bool:=decide (p.cs.length<=9223372036854775807)&&decide (p.xs.length<=9223372036854775807)&&(p.xs.all fun x=>decide (x.2.length<=9223372036854775807))&&decide (p.pl.length<=9223372036854775807)
def fitB (bits n:Int):Bool:=decide (0<=n)&&(n.fdiv (2^(Nat.min bits.toNat 64))==0)
def inZ (lo hi x:Int):Bool:=decide (lo<=x)&&decide (x<=hi)
theorem inZ_iff {lo hi x:Int}:inZ lo hi x=true↔lo<=x/\x<=hi:=by simp [inZ]
theorem fit_eq {b:Int} {m:Int} (hm:(2:Int)^(Nat.min b.toNat 64)=m+1) (hm0:0<=m) (n:Int):fitB b n=inZ 0 m n:=by
 rw [Bool.eq_iff_iff,inZ_iff];simp only [fitB,hm,Bool.and_eq_true,decide_eq_true_eq,beq_iff_eq];constructor
 ·rintro ⟨h1,h2⟩;rw [Int.fdiv_eq_ediv_of_nonneg _ (by omega)] at h2
  refine ⟨h1,?_⟩;have:=Int.mul_ediv_add_emod n (m+1);have hlt:=Int.emod_lt_of_pos n (show 0<m+1 by omega)
  rw [h2] at this;omega
 ·rintro ⟨h1,h2⟩;refine ⟨h1,?_⟩;rw [Int.fdiv_eq_ediv_of_nonneg _ (by omega)]
  exact Int.ediv_eq_zero_of_lt h1 (by omega)
theorem fit7 (n:Int):fitB 7 n=inZ 0 127 n:=fit_eq (by rfl) (by omega) n
theorem fit8 (n:Int):fitB 8 n=inZ 0 255 n:=fit_eq (by rfl) (by omega) n
theorem fit16 (n:Int):fitB 16 n=inZ 0 65535 n:=fit_eq (by rfl) (by omega) n
theorem fit32 (n:Int):fitB 32 n=inZ 0 4294967295 n:=fit_eq (by rfl) (by omega) n
def xtOK (l:List Xt) (i:Nat):Bool:=match l[i]? with
 |none=>true
 |some x=>inZ 0 255 x.1&&inZ 0 255 (x.2.length:Int)&&decide (0<x.1)&&(i==0||(match l[i-1]? with|some y=>decide (y.1<x.1)|none=>true))
def mdPre (p:Md):Bool:=inZ 0 127 p.ty&&inZ 0 65535 p.sq&&(inZ 0 4294967295 p.tm&&inZ 0 4294967295 p.ss)&&p.cs.all (inZ 0 4294967295)&&inZ 0 255 p.pd&&decide (p.cs.length<=15)&&decide (p.xs.length<=16)
def allN (f:Nat->Bool):Nat->Bool
 |0=>true
 |k+1=>allN f k&&f k
def mdB (p:Md):Bool:=mdPre p&&allN (xtOK p.xs) p.xs.length
def u32R (x:Int):List AV:=[.i .u32 x]
def pcR (x:Int×List UInt8):List AV:=[.i .u8 x.1,.s x.2]
theorem u32R_bel: ∀x,belL 0 (u32R x)=true:=fun _=>rfl
theorem pcR_bel: ∀x,belL 0 (pcR x)=true:=fun _=>rfl
structure Dm where
 ma:Bool
 ty:Int
 sq:Int
 tm:Int
 ss:Int
 cs:List Int
 xs:List Xt
 pd:Int
 pl:List UInt8
def Dm.l (p:Dm):List AV:=[.b p.ma,.i .u8 p.ty,.i .u16 p.sq,.i .u32 p.tm,.i .u32 p.ss,.fz (rows u32R p.cs) p.cs.length,.fz (rows pcR p.xs) p.xs.length,.i .u8 p.pd,.s p.pl]
theorem Dm.bel: ∀p:Dm,belL 0 p.l=true:=fun p=>by
 simp only [Dm.l,belL,AV.bel,rows_bel u32R_bel,rows_bel pcR_bel,Bool.and_self]
def extD:Int->List Xt->List Xt
 |_,[]=>[]
 |id,x::r=>(id+1+x.1 % 60,x.2.take 20)::extD (id+1+x.1 % 60) r
def Dm.md (p:Dm):Md:=⟨p.ma,p.ty % 128,p.sq,p.tm,p.ss,p.cs.take 3,extD 0 (p.xs.take 4),p.pd,p.pl.take 60⟩
structure Dm.ok (p:Dm):Prop where
 ty:0<=p.ty/\p.ty<=255
 sq:0<=p.sq/\p.sq<=65535
 tm:0<=p.tm/\p.tm<=4294967295
 ss:0<=p.ss/\p.ss<=4294967295
 pd:0<=p.pd/\p.pd<=255
 cs: ∀x∈p.cs,0<=x/\x<=4294967295
 xs: ∀x∈p.xs,0<=x.1/\x.1<=255
theorem vwK_rows {α β:Type} {h:Hp} {f:α->List AV} {z:Nat} (hf: ∀a,(f a).length=z) {l:List α} {k:List Nat->Nat->List AV->Bool->Option β}:vwK h z (.fz (rows f l) l.length) k=k [] l.length (rows f l) true:=by
 have e:cellsAt (rows f l) 0 (l.length*z)=rows f l:=by
  rw [cellsAt,List.drop_zero,<-rows_len (f:=f) (z:=z) hf,List.take_length]
 rw [vwK_f,e,rows_len hf,decide_eq_true rfl]
theorem vwK_eq {α:Type} {h:Hp} {z:Nat} {x:AV} {k:List Nat->Nat->List AV->Bool->Option α}:vwK h z x k=(vwK h z x (fun a b c d=>some (a,b,c,d))).bind fun r=>k r.1 r.2.1 r.2.2.1 r.2.2.2:=by
 cases x<;>simp only [vwK,Option.bind_some,Option.bind_none]<;>(cases hgc h _<;>rfl)
def xtV:List AV->Option Xt
 |[.i .i64 x,.s l]=>some (x,l)
 |_=>none
theorem xtV_eq (c:List AV) (a:Xt) (h:xtV c=some a):c=xtR a:=by
 unfold xtV at h;split at h
 ·cases h;rfl
 ·cases h
def mapN {α:Type} (g:Nat->α):Nat->List α
 |0=>[]
 |k+1=>mapN g k++[g k]
theorem mapN_z {α:Type} {g:Nat->α}:mapN g 0=[]:=(rfl)
theorem mapN_s {α:Type} {g:Nat->α} {k:Nat}:mapN g (k+1)=mapN g k++[g k]:=(rfl)
theorem mapN_len {α:Type} {g:Nat->α}: ∀k,(mapN g k).length=k
 |0=>rfl
 |k+1=>by rw [mapN_s,List.length_append,mapN_len k];rfl
theorem mapN_get {α:Type} {g:Nat->α}: ∀{k i:Nat},i<k->(mapN g k)[i]? =some (g i)
 |k+1,i,h=>by
  rw [mapN_s];rcases Nat.lt_succ_iff_lt_or_eq.1 h with h'|h'
  ·rw [List.getElem?_append_left (by rw [mapN_len];exact h')];exact mapN_get h'
  ·subst h';rw [List.getElem?_append_right (by rw [mapN_len];omega),mapN_len];simp
def md9:List AV->Option Md
 |[.b ma,.i .i64 ty,.i .i64 sq,.i .i64 tm,.i .i64 ss,.fz C c,.fz X x,.i .i64 pd,.s pl]=>(unrows 1 intV c C).bind fun cs=>(unrows 2 xtV x X).bind fun xs=>some ⟨ma,ty,sq,tm,ss,cs,xs,pd,pl⟩
 |_=>none
theorem md9_eq {l:List AV} {p:Md} (h:md9 l=some p):l=p.l:=by
 unfold md9 at h;split at h
 ·simp only [Option.bind_eq_some_iff,Option.some.injEq] at h;obtain ⟨cs,h1,xs,h2,rfl⟩:=h;obtain ⟨rfl,rfl⟩:=unrows_eq (f:=int1) intV_eq h1;obtain ⟨rfl,rfl⟩:=unrows_eq (f:=xtR) xtV_eq h2;rfl
 ·cases h
theorem md9_l (p:Md):md9 p.l=some p:=by
 have h1:unrows 1 intV p.cs.length (rows int1 p.cs)=some p.cs:=unrows_rows int1_len (fun _=>rfl) p.cs;have h2:unrows 2 xtV p.xs.length (rows xtR p.xs)=some p.xs:=unrows_rows xtR_len (fun _=>rfl) p.xs;simp only [md9,Md.l,h1,h2,Option.bind_some]
def Dm.okB (p:Dm):Bool:=inZ 0 255 p.ty&&(inZ 0 65535 p.sq&&(inZ 0 4294967295 p.tm&&(inZ 0 4294967295 p.ss&&(inZ 0 255 p.pd&&(p.cs.all (inZ 0 4294967295)&&p.xs.all fun x=>inZ 0 255 x.1)))))
theorem splice_set {α:Type} {f:α->List AV} {z:Nat} (hf: ∀a,(f a).length=z) {a:α}: ∀{l:List α} {i:Nat},i<l.length->splice (rows f l) (i*z) (f a)=rows f (l.set i a)
 |[],i,h=>by simp at h
 |x::l,0,_=>by
  rw [List.set_cons_zero,rows_cons,rows_cons];unfold splice;rw [Nat.zero_mul,List.take_zero,List.nil_append,Nat.zero_add,hf,<-hf x,List.drop_left]
 |x::l,i+1,h=>by
  rw [List.set_cons_succ,rows_cons,rows_cons,<-splice_set hf (l:=l) (i:=i) (by simpa using h)]
  unfold splice;rw [Nat.add_mul,Nat.one_mul,Nat.add_comm (i*z) z,<-hf x,List.take_length_add_append,Nat.add_assoc,List.drop_length_add_append,List.append_assoc,List.append_assoc,List.append_assoc]
end Go.Ab
namespace Go.Ab
theorem FTL.nilOr {P:Program} {f:FuncId} {pre post:List AV} {l:List AV} {h h':Hp} {n n':Nat} {v':AV} (h1:FTL P f (pre++ .ns::post) h n v' h' n') (h2:FTL P f (pre++ .en::post) h n v' h' n'):FTL P f (pre++ .fz l 0::post) h n v' h' n':=by
 intro D φ w us hD hH hA;have hi:(pre++ .fz l 0::post)[pre.length]? =some (.fz l 0):=by simp
 obtain ⟨u,hu,hr⟩:=hA.get hi;have go: ∀y,VRel D φ y u->All2 D φ (pre++y::post) us:=fun y hy=>⟨by have:=hA.1;simp at this ⊢;exact this,fun i a u' ha hu'=>by
  by_cases hip:i=pre.length
  ·subst hip;simp at ha;subst ha;rw [hu] at hu';cases hu';exact hy
  ·refine hA.2 i a u' ?_ hu';rcases Nat.lt_or_ge i pre.length with hlt|hge
   ·rw [List.getElem?_append_left hlt] at ha ⊢;exact ha
   ·rw [List.getElem?_append_right hge] at ha ⊢;obtain ⟨j,hj⟩: ∃j,i-pre.length=j+1:=⟨i-pre.length-1,by omega⟩
    rw [hj] at ha ⊢;simpa using ha⟩
 cases hr with
 |fz _ _ B o cap vs hB hc hs hh=>exact h2 D φ w us hD hH (go _ (.en _ _))
 |fz0 _ x cap hc0=>
  cases x with
  |some x=>exact h2 D φ w us hD hH (go _ (.en _ _))
  |none=>
   exact h1 D φ w us hD hH (go _ (by rw [hc0 rfl];exact .ns))
theorem CovS.trunc {n0 n n2:Nat} {v v2:AV} {h h' h2:Hp} {b m:Nat} {k:Blk} (hk:hget h b=some k) (hh: ∀c kk,hget h' c=some kk->(c=b/\kk={k with cells:=k.cells.take m})\/hget h c=some kk)
 (hc:CovS n0 v h' n v2 h2 n2):CovS n0 v h n v2 h2 n2:=by
 intro D φ w D0 φ0 H0 w0 u hD0 hD hv hH hS;have get: ∀c kk,hget h' c=some kk-> ∃k0,hget h c=some k0/\k0.ro=kk.ro/\k0.gr=kk.gr/\k0.gid=kk.gid/\k0.mp=kk.mp/\ ∀(i:Nat) (v:AV),kk.cells[i]? =some v->k0.cells[i]? =some v:=fun c kk hc=>by
  rcases hh c kk hc with ⟨rfl,rfl⟩|h1
  ·refine ⟨k,hk,rfl,rfl,rfl,rfl,fun i v hv=> ?_⟩;simp only [List.getElem?_take] at hv;split at hv
   ·exact hv
   ·cases hv
  ·exact ⟨kk,h1,rfl,rfl,rfl,rfl,fun _ _ h=>h⟩
 have hH1:HR D φ (hget h') w:=by
  refine ⟨⟨fun c kk hc=> ?_,fun b1 b2 k1 k2 hne h1 h2 hr=> ?_⟩,hH.fz,hH.lp,fun c kk B vs hc hr hB=> ?_⟩
  ·obtain ⟨k0,g1,g2,g3,g4,g6,g5⟩:=get c kk hc;obtain ⟨hd,⟨⟨cs,elem,fr,q1,q2,q3,q4⟩,q5⟩⟩:=hH.at_ c k0 g1;rw [g6] at q1;exact ⟨hd,⟨⟨cs,elem,fr,q1,fun i v hv=>q2 i v (g5 i v hv),fun hr=>⟨fun h=>(q3 (g2.trans hr)).1 (g3.trans h),fun i hi=>(q3 (g2.trans hr)).2 i (by rw [g3];exact hi)⟩,fun e he=>by
    obtain ⟨r1,r2,r3⟩:=q4 e (g3.trans he);exact ⟨g2.symm.trans r1,r2,r3⟩⟩,fun g hg=>q5 g (g4.trans hg)⟩⟩
  ·obtain ⟨k10,g1,g2,_⟩:=get b1 k1 h1;obtain ⟨k20,g3,_⟩:=get b2 k2 h2;exact hH.sep b1 b2 k10 k20 hne g1 g3 (g2.trans hr)
  ·obtain ⟨k0,g1,g2,_⟩:=get c kk hc;exact hH.fsep c k0 B vs g1 (g2.trans hr) hB
 exact hc D φ w D0 φ0 H0 w0 u hD0 hD hv hH1 ⟨hS.sub,hS.agree,hH1,hS.frm,fun c kk hc hr=>by
  obtain ⟨k0,g1,g2,_⟩:=get c kk hc;exact hS.img c k0 g1 (g2.trans hr),hS.fnew⟩
theorem CovS.zeS {n0 n n2:Nat} {v v' v2:AV} {h h2:Hp} {b o:Nat} (hf:FzV (.sl b o 0 0) .ze v v') (hc:CovS n0 v' h n v2 h2 n2):CovS n0 v h n v2 h2 n2:=by
 intro D φ w D0 φ0 H0 w0 u hD0 hD hv hH hS;exact hc D φ w D0 φ0 H0 w0 u hD0 hD (hf D φ u (fun u1 h1=>by cases h1;exact .ze _) hv) hH hS
theorem CovS.zeN {n0 n n2:Nat} {v v' v2:AV} {h h2:Hp} (hf:FzV .ns .ze v v') (hc:CovS n0 v' h n v2 h2 n2):CovS n0 v h n v2 h2 n2:=by
 intro D φ w D0 φ0 H0 w0 u hD0 hD hv hH hS;exact hc D φ w D0 φ0 H0 w0 u hD0 hD (hf D φ u (fun u1 h1=>by cases h1;exact .ze _) hv) hH hS
abbrev clnC (z bytes:Nat) (zs:List AV):ICode:=(.seq (.reg [⟨some 2,.mv (.c .ns),none,false⟩]) (.seq (.seq (.reg [⟨some 3,.mv (.t 0),none,false⟩,⟨some 4,.eqn false 1 (.t 3) (.c .ns),none,true⟩]) (.cond (.t 4) (.seq (.reg [⟨some 2,.mv (.c .ns),none,false⟩]) .ret) .skip))
 (.seq (.reg [⟨some 5,.bsl [] 0 [],none,false⟩,⟨some 6,.mv (.t 0),none,false⟩,⟨some 7,.app z bytes zs (.t 5) (.t 6),none,false⟩,⟨some 2,.mv (.t 7),none,false⟩]) .ret)))
def clnI (z bytes:Nat) (zs:List AV):IFn:={np:=1,N:=8,ct:=[4],code:=clnC z bytes zs,res:=[.t 2]}
section
variable {P:Program} {f:FuncId} {fn:Func} {z bytes:Nat} {zs:List AV}
theorem cln_0 (hm:P.follows .mixedOrders=true) (hf:P.funcs[f]? =some fn) (hI:compF P fn=some (clnI z bytes zs)) (l:List AV):FTL P f [.fz l 0] [] 0 .ze [] 0:=by
 refine FTL.nilOr (pre:=[]) (post:=[]) ?_ ?_
 ·refine FTL.of_cov (cx:=cxT []) Sound.nil hm hf hI (by simp [clnI]) (iw_of_jw ?_)
  dsimp only [clnI];simp only [go_sem,simprocAttr];exact CovS.zeN FzV.hit (CovS.ends (Ends.pureE rfl rfl))
 ·refine FTL.of_cov (cx:=cxT []) Sound.nil hm hf hI (by simp [clnI]) (iw_of_jw ?_)
  dsimp only [clnI];simp only [go_sem,simprocAttr];exact CovS.zeS FzV.hit (CovS.ends (Ends.pureE rfl rfl))
theorem cln_1 (hm:P.follows .mixedOrders=true) (hf:P.funcs[f]? =some fn) (hI:compF P fn=some (clnI z bytes zs)) {L:List AV} {m:Nat} (hL:L.length=(m+1)*z) (hone:oneAll L=true) (hb:belL 0 L=true) (hz:bytes*(m+1)<=growMax):
 FTL P f [.fz L (m+1)] [] 0 (.sg 0 0 (m+1)) [(0,{cells:=L,gr:=some z})] 1:=by
 refine FTL.of_iw (cx:=cxT []) Sound.nil hm hf hI (by simp [clnI]) (iw_of_jw ?_)
 dsimp only [clnI];have h1:List.take ((m+1)*z) L=L:=List.take_of_length_le (by omega)
 have h2:decide (bytes*(m+1)<=growMax)=true:=decide_eq_true hz;simp only [go_sem,h1,h2,hL,hone,Nat.zero_add,List.drop_zero,Nat.zero_mul,simprocAttr];exact Ends.new1 (b:=1) (by decide) rfl rfl rfl hb rfl
end
abbrev dlr6 (z:Nat) (zs:List AV):List IOper:=[⟨some 22,.mv (.t 0),none,false⟩,⟨some 23,.mv (.t 6),none,false⟩,⟨some 24,.ixaV z (.t 22) (.t 23),none,false⟩,⟨some 25,.ld true z (.t 24),none,false⟩,⟨some 7,.new zs,none,false⟩,⟨none,.st z (.t 7) (.t 25),none,false⟩]
abbrev dlr7 (z:Nat):List IOper:=[⟨some 26,.mv (.t 1),none,false⟩,⟨some 27,.ld true z (.t 7),none,false⟩,⟨some 28,.call (.t 26) [.t 27],none,false⟩,⟨some 29,.not (.t 28),none,true⟩]
abbrev dlr8 (z:Nat):List IOper:=[⟨some 30,.mv (.t 0),none,false⟩,⟨some 31,.mv (.t 5),none,false⟩,⟨some 32,.ld true z (.t 7),none,false⟩,⟨some 33,.ixaV z (.t 30) (.t 31),none,false⟩,⟨none,.st z (.t 33) (.t 32),none,false⟩]
abbrev dll (z:Nat) (zs:List AV):ICode:=(.seq (.seq (.reg [⟨some 16,.mv (.t 6),none,false⟩,⟨some 17,.mv (.t 0),none,false⟩,⟨some 18,.lenV (.t 17),none,false⟩,⟨some 19,.bin .lss (.t 16) (.t 18),none,true⟩]) (.cond (.t 19) .skip (.exit 0)))
 (.seq (.block 1 (.seq (.reg (dlr6 z zs)) (.seq (.reg (dlr7 z)) (.cond (.t 29) (.seq (.reg (dlr8 z)) (.reg [⟨some 34,.mv (.t 5),none,false⟩,⟨some 35,.bin .add (.t 34) (.c (.i .i64 1)),none,false⟩,⟨some 5,.mv (.t 35),none,false⟩])) .skip)))) (.reg [⟨some 20,.mv (.t 6),none,false⟩,⟨some 21,.bin .add (.t 20) (.c (.i .i64 1)),none,false⟩,⟨some 6,.mv (.t 21),none,false⟩])))
abbrev dlC (z:Nat) (zs:List AV) (ix:Nat):ICode:=(.seq (.reg [⟨some 4,.mv (.c .ns),none,false⟩]) (.seq (.reg [⟨some 8,.mv (.t 0),none,false⟩,⟨some 9,.mv (.t 1),none,false⟩,⟨some 10,.call (.c (.fn ix [])) [.t 8,.t 9],none,false⟩,⟨some 5,.mv (.t 10),none,false⟩])
 (.seq (.seq (.reg [⟨some 11,.mv (.t 5),none,false⟩,⟨some 12,.bin .eql (.t 11) (.c (.i .i64 (-1))),none,true⟩]) (.cond (.t 12) (.seq (.reg [⟨some 13,.mv (.t 0),none,false⟩,⟨some 4,.mv (.t 13),none,false⟩]) .ret) .skip))
 (.seq (.seq (.reg [⟨some 14,.mv (.t 5),none,false⟩,⟨some 15,.bin .add (.t 14) (.c (.i .i64 1)),none,false⟩,⟨some 6,.mv (.t 15),none,false⟩]) (.block 0 (.loop (dll z zs))))
 (.seq (.reg [⟨some 36,.mv (.t 0),none,false⟩,⟨some 37,.mv (.t 5),none,false⟩,⟨some 38,.slV z (.t 36) (some (.t 37)) none none,none,false⟩,⟨none,.clr z zs (.t 38),none,false⟩])
 (.seq (.reg [⟨some 39,.mv (.t 0),none,false⟩,⟨some 40,.mv (.t 5),none,false⟩,⟨some 41,.slV z (.t 39) none (some (.t 40)) none,none,false⟩,⟨some 4,.mv (.t 41),none,false⟩]) .ret))))))
def dlI (z:Nat) (zs:List AV) (ix:Nat):IFn:={np:=2,N:=42,ct:=[12,19,29],code:=dlC z zs ix,res:=[.t 4]}
abbrev dlH (z:Nat) (L:List AV) (x1 x2 x3:Int):Hp:=[(0,{cells:=L,gr:=some z}),(1,{cells:=int1 x1}),(2,{cells:=int1 x2}),(3,{cells:=int1 x3})]
def cntF {α:Type} (p:α->Bool) (l:List α) (k:Nat):Nat:=((l.take k).filter fun a=> !p a).length
theorem cntF_s {α:Type} {p:α->Bool} {l:List α} {k:Nat} {a:α} (h:l[k]? =some a):cntF p l (k+1)=if p a then cntF p l k else cntF p l k+1:=by
 unfold cntF;rw [List.take_add_one,h,List.filter_append,List.length_append];cases hp:p a<;>simp [hp]
theorem ixf_some {α:Type} {p:α->Bool}: ∀(l:List α) (i:Int),0<=i->ixf p l i= -1\/ ∃k:Nat,k<l.length/\ixf p l i=i+k/\(∀x∈l.take k,p x=false)/\ ∃a,l[k]? =some a/\p a=true
 |[],i,_=> .inl rfl
 |x::r,i,hi=>by
  simp only [ixf];by_cases hx:p x=true
  ·right;rw [if_pos hx];exact ⟨0,by simp,by simp,by simp,x,rfl,hx⟩
  ·rw [if_neg hx];rcases ixf_some r (i+1) (by omega) with h|⟨k,h1,h2,h3,a,h4,h5⟩
   ·exact .inl h
   ·right;refine ⟨k+1,by simp;omega,by rw [h2];omega,fun y hy=> ?_,a,by simpa using h4,h5⟩
    rcases List.mem_cons.1 (by simpa using hy) with rfl|hy
    ·simpa using hx
    ·exact h3 y hy
theorem ixf_m1 {α:Type} {p:α->Bool}: ∀(l:List α) (i:Int),0<=i->ixf p l i= -1-> ∀x∈l,p x=false
 |[],i,_,_,x,hx=>by cases hx
 |y::r,i,hi,h,x,hx=>by
  simp only [ixf] at h;split at h
  ·omega
  ·rename_i hy;rcases List.mem_cons.1 hx with rfl|hx
   ·simpa using hy
   ·exact ixf_m1 r (i+1) (by omega) h x hx
theorem del_fz {P:Program} {f:FuncId} {fn:Func} {α:Type} {row:α->List AV} {p:α->Bool} {g ix z:Nat} {zs:List AV} {x1 x2 x3:Int} {cx:Cx} (hcx:Sound P cx) (hm:P.follows .mixedOrders=true) (hf:P.funcs[f]? =some fn) (hI:compF P fn=some (dlI z zs ix))
 (hz0:0<z) (hlen: ∀a,(row a).length=z) (hbel: ∀a,belL 0 (row a)=true) (hone: ∀a,oneAll (row a)=true) (hzs:zs.length=z) (hzb:belL 0 zs=true) (hzo:oneAll zs=true) (l:List α) (hl:l.length<=1000000000)
 {rd0 rd1:List Nat} (hix:cx ix [.sg 0 0 l.length,.fn g [.p 1 0,.p 2 0,.p 3 0]] (dlH z (rows row l) x1 x2 x3) 4=some (true,{v:= .i .i64 (ixf p l 0),n:=4,rd:=rd0}))
 (hp: ∀a∈l,∀(L:List AV) (k:Blk),cx g [.agg (row a),.p 1 0,.p 2 0,.p 3 0] ((4,k)::dlH z L x1 x2 x3) 5=some (true,{v:= .b (p a),n:=5,rd:=rd1})):
 FTL P f [.sg 0 0 l.length,.fn g [.p 1 0,.p 2 0,.p 3 0]] (dlH z (rows row l) x1 x2 x3) 4 (.sg 0 0 (l.filter fun a=> !p a).length) (dlH z (rows row (l.filter fun a=> !p a)) x1 x2 x3) 4:=by
 refine FTL.of_cov (cx:=cx) hcx hm hf hI (by simp [dlI]) (iw_of_jw ?_)
 dsimp only [dlI];have hLb: ∀m:List α,belL 4 (rows row m)=true:=fun m=>belL_mono0 _ (rows_bel hbel);rcases ixf_some (p:=p) l 0 (by omega) with hno|⟨k0,hk0,hk1,hk2,a0,ha0,hp0⟩
 ·have hall:=ixf_m1 l 0 (by omega) hno
  have hfl:(l.filter fun a=> !p a)=l:=List.filter_eq_self.2 (fun a ha=>by simp [hall a ha])
  rw [hno] at hix;rw [hfl];simp only [go_sem,hix,simprocAttr];refine CovS.ends (Ends.keepL ?_ rfl ?_)
  ·rfl
  ·simp only [go_sem,dlH,AV.bel,belL,nblt,hLb,int1,simprocAttr]
 ·have hr0:ixf p l 0=(k0:Int):=by omega
  rw [hr0] at hix;have d1:((k0:Int)== -1)=false:=beq_eq_false_iff_ne.2 (by omega)
  have w1:IntKind.i64.wrap ((k0:Int)+1)=((k0+1:Nat):Int):=by rw [wrapL (by omega) (by omega)];omega
  have c0:cntF p l k0=k0:=by
   unfold cntF;rw [List.filter_eq_self.2 (fun a ha=>by simp [hk2 a ha]),List.length_take];omega
  have c1:cntF p l (k0+1)=k0:=by rw [cntF_s ha0,if_pos hp0,c0]
  generalize hF:(l.filter fun a=> !p a)=F;simp only [go_sem,hix,d1,w1,simprocAttr];have mk1: ∀m:List α,belL 4 (rows row m)=true:=hLb;have hrr: ∀(ψ:Nat->Nat) (m:List α),renL ψ (rows row m)=rows row m:=fun ψ m=>renL_fix0 _ (rows_bel hbel);refine Loop.stepR (F:=⟨P,cx,[12,19,29],42,4⟩) hcx hm (X:=Nat×List α)
   (fun x=>x.1<=l.length/\cntF p l x.1<x.1/\x.2.length=l.length/\x.2.take (cntF p l x.1)=(l.take x.1).filter (fun a=> !p a)/\x.2.drop x.1=l.drop x.1)
   (fun x=>l.length-x.1)
   (fun x=>[(0,.sg 0 0 l.length),(1,.fn g [.p 1 0,.p 2 0,.p 3 0]),(5,.i .i64 (cntF p l x.1:Int)),(6,.i .i64 (x.1:Int))])
   (fun x=>dlH z (rows row x.2) x1 x2 x3) 4 (k0+1,l) (fun x=>(x.1+1,match l[x.1]? with|some a=>if p a then x.2 else x.2.set (cntF p l x.1) a|none=>x.2)) [] (fun _=>[]) (Nat.le_refl 4) (by show rnOK [] 4 4=true;decide) (fun _=>by show rnOK [] 4 4=true;decide) ⟨by omega,by rw [c1];omega,rfl,?_,rfl⟩ ?_ ?_ (fun x hx=> ?_)
  ·show l.take (cntF p l (k0+1))=(l.take (k0+1)).filter (fun a=> !p a);rw [c1,List.take_add_one,ha0,List.filter_append,List.filter_eq_self.2 (fun a ha=>by simp [hk2 a ha])]
   simp [hp0]
  ·simp only [go_sem,c1,AV.bel,belL,nblt,AV.ren,renL,simprocAttr]
  ·simp only [go_sem,dlH,AV.bel,belL,nblt,hLb,int1,Blk.ren,AV.ren,renL,hrr,simprocAttr]
  ·obtain ⟨j,L⟩:=x;obtain ⟨hj,hcj,hLl,hLt,hLd⟩:=hx;dsimp only at hj hcj hLl hLt hLd ⊢;have hLen:(rows row L).length=l.length*z:=by rw [rows_len hlen,hLl]
   by_cases hlt:j<l.length
   ·have e1:decide ((j:Int)<(l.length:Int))=true:=decide_eq_true (by omega)
    have e2:decide (0<=(j:Int)/\(j:Int)<(l.length:Int))=true:=decide_eq_true (by omega)
    have e3:decide (0<=(cntF p l j:Int)/\(cntF p l j:Int)<(l.length:Int))=true:=decide_eq_true (by omega)
    have w2:IntKind.i64.wrap ((j:Int)+1)=((j+1:Nat):Int):=by rw [wrapL (by omega) (by omega)];omega
    have w3:IntKind.i64.wrap ((cntF p l j:Int)+1)=((cntF p l j+1:Nat):Int):=by rw [wrapL (by omega) (by omega)];omega
    obtain ⟨a,ha⟩: ∃a,l[j]? =some a:=⟨_,List.getElem?_eq_getElem hlt⟩;have hLa:L[j]? =some a:=by
     have h1:(L.drop j)[0]? =(l.drop j)[0]? :=by rw [hLd]
     simpa [ha] using h1
    have hcell:List.take z (List.drop (j*z) (rows row L))=row a:=rows_at hlen hLa;have hpa:=hp a (List.mem_of_getElem? ha);have hs:=cntF_s (p:=p) ha;have hds:L.drop (j+1)=l.drop (j+1):=by rw [<-List.drop_drop,<-List.drop_drop,hLd]
    have htk:(l.take (j+1)).filter (fun a=> !p a)=(l.take j).filter (fun a=> !p a)++(if p a then [] else [a]):=by
     rw [List.take_add_one,ha,List.filter_append];cases hq:p a<;>simp [hq]
    have hlz:=hlen a;have b2:cntF p l j*z+z<=l.length*z:=by rw [<-Nat.succ_mul];exact Nat.mul_le_mul_right _ (by omega)
    have e4:decide (cntF p l j*z+z<=l.length*z)=true:=decide_eq_true b2;have hoa:=hone a;have hrt:List.take z (row a)=row a:=List.take_of_length_le (by omega)
    have hdz:List.drop z zs=[]:=List.drop_of_length_le (by omega)
    have h1z:z<=z:=Nat.le_refl z;have hsk:l.length-(j+1)<l.length-j:=by omega
    have hra: ∀ψ:Nat->Nat,renL ψ (row a)=row a:=fun ψ=>renL_fix0 _ (hbel a);cases hq:p a
    ·rw [hq] at hs htk hpa;simp only [Bool.false_eq_true,if_false] at hs htk;have hsp:List.take (cntF p l j*z) (rows row L)++row a++List.drop (cntF p l j*z+z) (rows row L)=rows row (L.set (cntF p l j) a):=by
      have:=splice_set (f:=row) hlen (a:=a) (l:=L) (i:=cntF p l j) (by omega)
      rw [<-this,splice,hlz]
     have g1:j+1<=l.length/\cntF p l (j+1)<j+1/\(L.set (cntF p l j) a).length=l.length/\(L.set (cntF p l j) a).take (cntF p l (j+1))=(l.take (j+1)).filter (fun a=> !p a)/\(L.set (cntF p l j) a).drop (j+1)=l.drop (j+1):=by
      refine ⟨hlt,by omega,by simpa using hLl,?_,?_⟩
      ·rw [hs,htk,<-hLt,List.take_add_one,List.getElem?_set_self (by omega),List.take_set_of_le (Nat.le_refl _)]
       rfl
      ·rw [List.drop_set_of_lt (by omega),hds]
     simp only [go_sem,e1,e2,e3,e4,w2,w3,hcell,hpa,hlz,hoa,hrt,hdz,hzs,hLen,hsp,hq,ha,hs,g1,hsk,AV.bel,belL,nblt,hLb,int1,Blk.ren,AV.ren,renL,hrr,Nat.zero_add,Int.toNat_natCast,List.take_zero,List.drop_zero,h1z,Nat.le_refl,Bool.false_eq_true,if_false,and_self,simprocAttr];exact ⟨by omega,by rw [<-hs];exact g1.2.2.2.1⟩
    ·rw [hq] at hs htk hpa;simp only [if_true,List.append_nil] at hs htk;have g1:j+1<=l.length/\cntF p l (j+1)<j+1/\L.length=l.length/\L.take (cntF p l (j+1))=(l.take (j+1)).filter (fun a=> !p a)/\L.drop (j+1)=l.drop (j+1):=
      ⟨hlt,by omega,hLl,by rw [hs,htk,hLt],hds⟩
     simp only [go_sem,e1,e2,e3,e4,w2,w3,hcell,hpa,hlz,hoa,hrt,hdz,hzs,hLen,hq,ha,hs,g1,hsk,AV.bel,belL,nblt,hLb,int1,Blk.ren,AV.ren,renL,hrr,Nat.zero_add,Int.toNat_natCast,List.take_zero,List.drop_zero,h1z,Nat.le_refl,if_true,and_self,simprocAttr];exact ⟨by omega,by rw [<-hs];exact g1.2.2.2.1⟩
   ·obtain rfl:j=l.length:=by omega
    have e1:decide ((l.length:Int)<(l.length:Int))=false:=decide_eq_false (by omega)
    have hcF:cntF p l l.length=F.length:=by unfold cntF;rw [List.take_length,hF]
    rw [hcF] at hcj hLt ⊢;rw [List.take_length,hF] at hLt;have sb1:sbound l.length l.length (some (F.length:Int)) none none=(true,F.length,l.length,l.length):=by simp [sbound];omega
    have e5:decide (F.length=0\/F.length<l.length)=true:=decide_eq_true (by omega)
    have e6:decide (F.length*z+(l.length-F.length)*z<=l.length*z)=true:=decide_eq_true (by rw [<-Nat.add_mul];exact Nat.mul_le_mul_right _ (by omega))
    have e7:decide (0<=(F.length:Int)/\(F.length:Int)<=(l.length:Int))=true:=decide_eq_true (by omega)
    simp only [go_sem,e1,sb1,e5,e6,e7,hLen,hzs,hzo,Nat.zero_add,Int.toNat_natCast,simprocAttr];refine andB_i (decide_eq_true (by omega)) ?_
    have hA:List.take (F.length*z) (rows row L)=rows row F:=by rw [rows_take hlen,hLt]
    have hAl:(rows row F).length=F.length*z:=rows_len hlen;rw [hA];generalize zeros zs (l.length-F.length)=Z;generalize List.drop (F.length*z+Z.length) (rows row L)=T;refine CovS.trunc (b:=0) (m:=F.length*z) (h':=dlH z (rows row F) x1 x2 x3) rfl (fun c kk hc=> ?_) (CovS.ends (Ends.keepL rfl rfl ?_))
    ·have hm:=hget_mem hc;simp only [List.mem_cons,Prod.mk.injEq,List.not_mem_nil,or_false] at hm;rcases hm with ⟨rfl,rfl⟩|⟨rfl,rfl⟩|⟨rfl,rfl⟩|⟨rfl,rfl⟩
     ·left;refine ⟨rfl,?_⟩;congr 1;rw [List.append_assoc,List.take_append_of_le_length (by omega),List.take_of_length_le (by omega)]
     ·right;rfl
     ·right;rfl
     ·right;rfl
    ·simp only [go_sem,dlH,AV.bel,belL,nblt,hLb,int1,simprocAttr]
theorem CallOK.del {P:Program} {f g:FuncId} {α:Type} {row:α->List AV} {z:Nat} {l F:List α} {x1 x2 x3:Int} {b a1 a2 a3 n:Nat} {h:Hp} (hc:Go.Ab.callable P f=true) (hbel: ∀a,belL 0 (row a)=true)
 (hft:FTL P f [.sg 0 0 l.length,.fn g [.p 1 0,.p 2 0,.p 3 0]] (dlH z (rows row l) x1 x2 x3) 4 (.sg 0 0 F.length) (dlH z (rows row F) x1 x2 x3) 4)
 (hb:hget h b=some {cells:=rows row l,gr:=some z}) (h1:hget h a1=some {cells:=int1 x1}) (h2:hget h a2=some {cells:=int1 x2}) (h3:hget h a3=some {cells:=int1 x3})
 (hd:(b≠a1/\b≠a2/\b≠a3)/\(a1≠a2/\a1≠a3/\a2≠a3)):
 CallOK P f [.sg b 0 l.length,.fn g [.p a1 0,.p a2 0,.p a3 0]] h n {v:= .sg b 0 F.length,n:=n+4,rd:=[b,a1,a2,a3],md:=[(b,some {cells:=rows row F,gr:=some z})]}:=by
 have hr: ∀(ψ:Nat->Nat) (m:List α),renL ψ (rows row m)=rows row m:=fun ψ m=>renL_fix0 _ (rows_bel hbel);have hm: ∀{c:Nat} {kk:Blk} {L:List AV},(c,kk)∈dlH z L x1 x2 x3->(c=0/\kk={cells:=L,gr:=some z})\/(c=1/\kk={cells:=int1 x1})\/(c=2/\kk={cells:=int1 x2})\/(c=3/\kk={cells:=int1 x3}):=fun h=>by
  simpa using h
 refine (CallOK.gen (k:=4) (kR:=4) (n:=n) (fun i=>if i=0 then b else if i=1 then a1 else if i=2 then a2 else a3) (fun i=>i==0) hc (Nat.le_refl _) rfl hft (fun c kk hh=> ?_) (fun c kk hh=> ?_) (fun c hc hh=> ?_) (fun c kk hh=> ?_) (fun c kk hh=> ?_) (fun c1 c2 k1 k2 q1 q2 _ he=> ?_) (fun c kk hh _=> ?_) (fun c kk hh _=> ?_) (fun c kk hh hf=> ?_) (fun c kk hh=> ?_)).cast ?_ ?_
 ·rcases hm hh with ⟨rfl,rfl⟩|⟨rfl,rfl⟩|⟨rfl,rfl⟩|⟨rfl,rfl⟩<;>rfl
 ·rcases hm hh with ⟨rfl,rfl⟩|⟨rfl,rfl⟩|⟨rfl,rfl⟩|⟨rfl,rfl⟩<;>rfl
 ·match c,hc with
  |0,_=>exact (Option.some_ne_none _ (show some ({cells:=rows row l,gr:=some z}:Blk)=none from hh)).elim
  |1,_=>exact (Option.some_ne_none _ (show some ({cells:=int1 x1}:Blk)=none from hh)).elim
  |2,_=>exact (Option.some_ne_none _ (show some ({cells:=int1 x2}:Blk)=none from hh)).elim
  |3,_=>exact (Option.some_ne_none _ (show some ({cells:=int1 x3}:Blk)=none from hh)).elim
 ·rcases hm hh with ⟨rfl,rfl⟩|⟨rfl,rfl⟩|⟨rfl,rfl⟩|⟨rfl,rfl⟩
  ·exact ⟨by decide,belL_mono0 _ (rows_bel hbel)⟩
  all_goals exact ⟨by decide,rfl⟩
 ·rcases hm hh with ⟨rfl,rfl⟩|⟨rfl,rfl⟩|⟨rfl,rfl⟩|⟨rfl,rfl⟩
  ·simp only [if_true,Blk.ren,hr];exact hb
  ·exact h1
  ·exact h2
  ·exact h3
 ·obtain ⟨⟨d1,d2,d3⟩,d4,d5,d6⟩:=hd;rcases hm q1 with ⟨rfl,rfl⟩|⟨rfl,rfl⟩|⟨rfl,rfl⟩|⟨rfl,rfl⟩<;>rcases hm q2 with ⟨rfl,rfl⟩|⟨rfl,rfl⟩|⟨rfl,rfl⟩|⟨rfl,rfl⟩<;>simp at he<;>first|rfl|(subst he;simp at*)
 ·rcases hm hh with ⟨rfl,rfl⟩|⟨rfl,rfl⟩|⟨rfl,rfl⟩|⟨rfl,rfl⟩<;>rfl
 ·rcases hm hh with ⟨rfl,rfl⟩|⟨rfl,rfl⟩|⟨rfl,rfl⟩|⟨rfl,rfl⟩<;>rfl
 ·rcases hm hh with ⟨rfl,rfl⟩|⟨rfl,rfl⟩|⟨rfl,rfl⟩|⟨rfl,rfl⟩
  ·cases hf
  all_goals rfl
 ·rcases hm hh with ⟨rfl,rfl⟩|⟨rfl,rfl⟩|⟨rfl,rfl⟩|⟨rfl,rfl⟩<;>decide
 ·rfl
 ·simp [mdG,nwG,rdG,chiG,hget,Blk.ren,hr,AV.ren];rfl
end Go.Ab
namespace Go.Ab
open Go.RowKit
mutual
def AV.nyl:AV->Bool
 | .p _ _=>true
 | .sl _ _ _ _=>true
 | .sg _ _ _=>true
 | .fn _ l=>nylL l
 | .bm _ l=>nylL l
 | .agg l=>nylL l
 | .tup l=>nylL l
 | .b _=>true
 | .i _ _=>true
 | .s _=>true
 | .np=>true
 | .ns=>true
 | .nf=>true
 | .ni=>true
 | .fz l _=>nylL l
 | .fp l _=>nylL l
 | .ze=>true
 | .en=>true
 | .any=>true
 | .k _ _=>true
 | .m _=>true
 | .nm=>true
 | .yl _ _ _ _=>false
def nylL:List AV->Bool
 |[]=>true
 |v::r=>v.nyl&&nylL r
end
theorem nylL_spec: ∀{l:List AV},nylL l=true-> ∀v∈l,v.nyl=true
 |[],_,v,hv=>by cases hv
 |x::r,h,v,hv=>by
  simp only [nylL,Bool.and_eq_true] at h;rcases List.mem_cons.1 hv with rfl|hv
  ·exact h.1
  ·exact nylL_spec h.2 v hv
theorem nylL_append {a b:List AV}:nylL (a++b)=(nylL a&&nylL b):=by
 induction a with
 |nil=>rfl
 |cons x a ih=>simp only [List.cons_append,nylL,ih,Bool.and_assoc]
def Phi.lpT (φ:Phi) (X:Nat->Option Go.Loop):Phi:={φ with lp:=X}
theorem VRel.nyl {D:Nat->Prop} {φ:Phi} {X:Nat->Option Go.Loop} {v:AV} {u:Value} (h:VRel D φ v u):v.nyl=true->VRel D (φ.lpT X) v u:=by
 induction h with
 |b x=>intro _;exact .b x
 |i k n=>intro _;exact .i k n
 |s l=>intro _;exact .s l
 |np=>intro _;exact .np
 |p b o h=>intro _;exact .p (φ:=φ.lpT X) b o h
 |ns=>intro _;exact .ns
 |sl b o len cap h=>intro _;exact .sl (φ:=φ.lpT X) b o len cap h
 |sg b o len j cap h hj hc hl=>intro _;exact .sg (φ:=φ.lpT X) b o len j cap h hj hc hl
 |fn f l cs hf hl h ih=>intro hp;exact .fn f l cs hf hl (fun i a u ha hu=>ih i a u ha hu (nylL_spec hp a (List.mem_of_getElem? ha)))
 |bm f l cs hf hl h ih=>intro hp;exact .bm f l cs hf hl (fun i a u ha hu=>ih i a u ha hu (nylL_spec hp a (List.mem_of_getElem? ha)))
 |nf=>intro _;exact .nf
 |ni=>intro _;exact .ni
 |agg l cs hl h ih=>intro hp;exact .agg l cs hl (fun i a u ha hu=>ih i a u ha hu (nylL_spec hp a (List.mem_of_getElem? ha)))
 |tup l cs hl h ih=>intro hp;exact .tup l cs hl (fun i a u ha hu=>ih i a u ha hu (nylL_spec hp a (List.mem_of_getElem? ha)))
 |fz l n B o cap vs hB hc hs h ih=>intro hp;exact .fz (φ:=φ.lpT X) l n B o cap vs hB hc hs (fun i a u ha hu=>ih i a u ha hu (nylL_spec hp a (List.mem_of_getElem? ha)))
 |fz0 l x cap hc=>intro _;exact .fz0 l x cap hc
 |fp l k B o vs hB hs h ih=>intro hp;exact .fp (φ:=φ.lpT X) l k B o vs hB hs (fun i a u ha hu=>ih i a u ha hu (nylL_spec hp a (List.mem_of_getElem? ha)))
 |ze x=>intro _;exact .ze x
 |en x cap=>intro _;exact .en x cap
 |any u=>intro _;exact .any u
 |k t u=>intro _;exact .k t u
 |m b h=>intro _;exact .m (φ:=φ.lpT X) b h
 |nm=>intro _;exact .nm
 |yl L r ts l hL h ih=>intro hp;cases hp
theorem VRel.lpUp {D:Nat->Prop} {φ:Phi} {X:Nat->Option Go.Loop} {v:AV} {u:Value} (hX: ∀L r,φ.lp L=some r->X L=some r) (h:VRel D φ v u):VRel D (φ.lpT X) v u:=
 VRel.mono' (φ:=φ) (φ':=φ.lpT X) (fun _ h=>h) (fun _ _=>⟨rfl,rfl,rfl,rfl⟩) (fun _ _ h=>h) hX h
theorem HR.lpT {D:Nat->Prop} {φ:Phi} {X:Nat->Option Go.Loop} {H:Hf} {w:World} (h:HR D φ H w) (hv: ∀b k v u,H b=some k->v∈k.cells->VRel D φ v u->VRel D (φ.lpT X) v u) (hl: ∀L r,X L=some r->w.heap[L]? =some (.loop r)):HR D (φ.lpT X) H w:=
 ⟨⟨fun b k hb=>⟨(h.at_ b k hb).1,by
   obtain ⟨⟨cs,elem,fr,h1,h2,h3,h4⟩,h5⟩:=(h.at_ b k hb).2;refine ⟨⟨cs,elem,fr,h1,fun i v hv'=> ?_,h3,h4⟩,h5⟩;obtain ⟨u,hu,hr⟩:=h2 i v hv';exact ⟨u,hu,hv b k v u hb (List.mem_of_getElem? hv') hr⟩⟩,h.sep⟩,h.fz,hl,h.fsep⟩
theorem Stp.lpT {D D':Nat->Prop} {φ φ':Phi} {X:Nat->Option Go.Loop} {H H':Hf} {w w':World} (h:Stp D φ H w D' φ' H' w') (hr:HR D' (φ'.lpT X) H' w'):Stp D (φ.lpT X) H w D' (φ'.lpT X) H' w':=
 ⟨h.sub,⟨h.agree.at_,h.agree.fz,rfl⟩,hr,⟨h.frm.os,h.frm.tape,h.frm.output,h.frm.size,h.frm.block⟩,h.img,h.fnew⟩
theorem Stp.turn {D D':Nat->Prop} {φ φ':Phi} {H H':Hf} {w w1 w' w1':World} (h:Stp D φ H w D' φ' H' w1) (hr:HR D' φ' H' w1') (hos:w1'.os=w'.os) (ht:w1'.tape=w'.tape) (ho:w1'.output=w'.output) (hsz:w'.heap.size=w.heap.size) (hsz1:w1'.heap.size=w1.heap.size) (L:Nat)
 (hb: ∀c,c≠L->w'.heap[c]? =w.heap[c]?) (hb1: ∀c,c≠L->w1'.heap[c]? =w1.heap[c]?) (hL:w1'.heap[L]? =w'.heap[L]?):Stp D φ H w' D' φ' H' w1':=
 ⟨h.sub,h.agree,hr,⟨hos,ht,ho,by rw [hsz,hsz1];exact h.frm.size,fun c hc hn=>by
   by_cases hcL:c=L
   ·rw [hcL];exact hL
   ·rw [hb1 c hcL,hb c hcL];exact h.frm.block c (by rw [<-hsz];exact hc) hn⟩,fun b k hb' hk=>by rw [hsz];exact h.img b k hb' hk,fun B vs hB=>by rw [hsz];exact h.fnew B vs hB⟩
def nrI:ICode->Bool
 | .seq a b=>nrI a&&nrI b
 | .cond _ a b=>nrI a&&nrI b
 | .block _ c=>nrI c
 | .loop c=>nrI c
 | .scope c=>nrI c
 | .rfunc _ _ _ _=>false
 | .bad=>false
 |_=>true
theorem nrI_spec {P:Program} {ct:List Nat} {N:Nat}: ∀{c:Code},nrI (compC P ct N c)=true->noRF c=true:=by
 intro c;induction c with
 |seq a b iha ihb=>intro h;simp only [compC,nrI,Bool.and_eq_true] at h;simp only [noRF,Bool.and_eq_true];exact ⟨iha h.1,ihb h.2⟩
 |cond x a b iha ihb=>
  intro h;simp only [compC] at h;split at h
  ·simp [nrI] at h
  ·simp only [nrI,Bool.and_eq_true] at h;simp only [noRF,Bool.and_eq_true];exact ⟨iha h.1,ihb h.2⟩
  ·simp [nrI] at h
 |block id c ih=>intro h;exact ih h
 |loop c ih=>intro h;exact ih h
 |scope c ih=>intro h;exact ih h
 |rangeFunc g ps a b iha ihb=>
  intro h;simp only [compC] at h;split at h<;>simp [nrI] at h
 |_=>intro h;rfl
def asg:List Nat->List AV->Env->Env
 |t::ts,a::as,e=>asg ts as ((t,a)::e)
 |_,_,e=>e
def zipE:List Nat->List AV->Env
 |t::ts,a::as=>(t,a)::zipE ts as
 |_,_=>[]
theorem zipE_get {t:Nat} {v:AV}: ∀{ts:List Nat} {l:List AV},eget (zipE ts l) t=some v-> ∃i:Nat,ts[i]? =some t/\l[i]? =some v
 |[],_,h=>by simp [zipE,eget] at h
 |_::_,[],h=>by simp [zipE,eget] at h
 |s::ts,a::l,h=>by
  simp only [zipE,eget] at h;by_cases hs:t=s
  ·subst hs;simp at h;subst h;exact ⟨0,rfl,rfl⟩
  ·rw [beq_ne hs] at h;obtain ⟨i,h1,h2⟩:=zipE_get h;exact ⟨i+1,by simpa using h1,by simpa using h2⟩
theorem asg_rel {D:Nat->Prop} {φ:Phi}: ∀{ts:List Nat} {as:List AV} {vs:List Value} {e:Env} {T:Array Value},All2 D φ as vs->ts.length=as.length->(∀t∈ts,t<T.size)->(∀t v,eget e t=some v->VRel D φ v (T.getD t undef))→
 ∀t v,eget (asg ts as e) t=some v->VRel D φ v (((ts.zip vs).foldl (fun (T:Array Value) (x:Nat×Value)=>T.setIfInBounds x.1 x.2) T).getD t undef)
 |[],as,vs,e,T,_,_,_,he,t,v,h=>he t v (by simpa [asg] using h)
 |s::ts,[],vs,e,T,_,hl,_,he,t,v,h=>by simp at hl
 |s::ts,a::as,vs,e,T,ha,hl,hT,he,t,v,h=>by
  obtain ⟨u,vs',rfl,hu,ha'⟩:=ha.uncons;simp only [List.zip_cons_cons,List.foldl_cons];refine asg_rel ha' (by simpa using hl) (fun t' ht'=>by simp;exact hT t' (List.mem_cons_of_mem _ ht')) (fun t' v' h'=> ?_) t v h
  simp only [eget] at h';by_cases hs:t'=s
  ·subst hs;simp at h';subst h';have:t'<T.size:=hT t' List.mem_cons_self;rw [Array.getD_eq_getD_getElem?];simp [this];exact hu
  ·rw [beq_ne hs] at h';have:=he t' v' (by simpa using h')
   rw [Array.getD_eq_getD_getElem?] at this ⊢;rw [Array.getElem?_setIfInBounds_ne (fun e=>hs e.symm)];exact this
theorem foldl_size: ∀(l:List (Nat×Value)) (T:Array Value),(l.foldl (fun (T:Array Value) (x:Nat×Value)=>T.setIfInBounds x.1 x.2) T).size=T.size
 |[],T=>rfl
 |x::l,T=>by simp only [List.foldl_cons];rw [foldl_size l];simp
def RoundW (F:Fx) (ps:List Nat) (A B:ICode) (ts:List Nat) (cs as:List AV) (h1:Hp) (n1:Nat) (h2:Hp) (n2:Nat):Prop:=
 iw {F with n0:=n1} A (thenK (fun _ _ _ _=>False) fun e h n=>iw {F with n0:=n1} B (fun ex e3 h3 n3=>match ex with| .normal=>Ends n1 (.b true) h3 n3 (.b true) h2 n2|_=>False) e h n) (asg ps as (zipE ts cs)) h1 n1
structure RecOK (F:Fx) (ps:List Nat) (A B:ICode) (r:Go.Loop):Prop where
 state:r.state= .ready
 pending:r.pending=none
 params:r.params=ps.toArray
 as:compC F.P F.ct F.N r.assign=A
 bd:compC F.P F.ct F.N r.body=B
 size:r.tmps.size=F.N
theorem FTL.round {F:Fx} (hcx:Sound F.P F.cx) (hm:F.P.follows .mixedOrders=true) {ps:List Nat} {A B:ICode} {L:Nat} {r:Go.Loop} (hr:RecOK F ps A B r) (hnA:nrI A=true) (hnB:nrI B=true) (hps:(ps.all fun t=>decide (t<F.N))=true)
 {ts:List Nat} {cs as:List AV} {h1:Hp} {n1:Nat} {h2:Hp} {n2:Nat} (hlen:ps.length=as.length) (hyc:nylL cs=true) (hya:nylL as=true) (hyh: ∀b k,hget h1 b=some k->nylL k.cells=true)
 (hw:RoundW F ps A B ts cs as h1 n1 h2 n2):FTL F.P YB (.yl L r ts cs::as) h1 n1 (.b true) h2 n2:=by
 intro D φ w us hD0 hH hargs;obtain ⟨u0,vs,rfl,hu0,hvs⟩:=hargs.uncons;generalize hgen:AV.yl L r ts cs=y at hu0;cases hu0<;>cases hgen;rename_i hL henv;have hLw:=hH.lp L r hL;let X:Nat->Option Go.Loop:=fun L'=>if L'=L then none else φ.lp L'
 let D1:Nat->Prop:=fun b=>b<n1
 -- the relation,but for this loop's record
 have hHb:HR D1 (φ.lpT X) (hget h1) w:=by
  refine ((hH.lpT (X:=X) (fun b k v u hb hv hr=>hr.nyl (nylL_spec (hyh b k hb) v hv)) (fun L' r' h=> ?_)).grow (D':=D1) hD0);simp only [X] at h;split at h
  ·cases h
  ·exact hH.lp L' r' h
 have hvsb:All2 D1 (φ.lpT X) as vs:=⟨hvs.1,fun i a u ha hu=>((hvs.2 i a u ha hu).nyl (nylL_spec hya a (List.mem_of_getElem? ha))).mono hD0 (Agree.refl _ _)⟩;unfold Ans;rw [if_pos rfl];refine ⟨L,vs.toArray,by simp,r.fn,_,r.assign,r.body,run_yield hLw (by rw [hr.params];simp;rw [hlen];exact hvs.1.symm),?_⟩
 refine roundIn_of_wpIn (F:=Fence.wide) trivial ?_;have hfold:(r.params.zip vs.toArray).foldl (fun tmps (x:Nat×Value)=>tmps.setIfInBounds x.1 x.2) r.tmps=(ps.zip vs).foldl (fun (T:Array Value) (x:Nat×Value)=>T.setIfInBounds x.1 x.2) r.tmps:=by
  rw [hr.params];simp
 have hR:Rel D1 (φ.lpT X) (asg ps as (zipE ts cs)) h1 n1 F.N (w.heap.size,[]) {tmps:=(r.params.zip vs.toArray).foldl (fun tmps (x:Nat×Value)=>tmps.setIfInBounds x.1 x.2) r.tmps,defers:=[]} w:=by
  refine ⟨fun b hb=>hb,fun t v hv=> ?_,hHb,?_,Mk.nil⟩
  ·show VRel _ _ v (Array.getD ((r.params.zip vs.toArray).foldl (fun tmps (x:Nat×Value)=>tmps.setIfInBounds x.1 x.2) r.tmps) t undef);rw [hfold];refine asg_rel hvsb hlen (fun t ht=>by rw [hr.size];exact of_decide_eq_true (List.all_eq_true.1 hps t ht)) (fun t v hv=> ?_) t v hv
   obtain ⟨i,g1,g2⟩:=zipE_get hv;exact ((henv i t v g1 g2).nyl (nylL_spec hyc v (List.mem_of_getElem? g2))).mono hD0 (Agree.refl _ _)
  ·show Array.size ((r.params.zip vs.toArray).foldl (fun tmps (x:Nat×Value)=>tmps.setIfInBounds x.1 x.2) r.tmps)=F.N;rw [hfold,foldl_size];exact hr.size
 have hA:WP F.P F.N n1 r.assign _ (asg ps as (zipE ts cs)) h1 n1:=iw_sound {F with n0:=n1} hcx hm r.assign _ _ _ _ (by show iw _ (compC F.P F.ct F.N r.assign) _ _ _ _;rw [hr.as];exact hw)
 have h1w:=hA (some L) (.inr (nrI_spec (by rw [hr.as];exact hnA))) [] D1 (φ.lpT X) (hget h1) w (fun b hb=>hb) (Nat.le_refl _) D1 (φ.lpT X) _ w hR (Stp.refl hHb)
 refine wpIn_mono (F:=Fw (some L)) h1w (fun ex a1 w1 hp=> ?_);obtain ⟨D',φ',e1,hh1,nn1,hk,hn',hR',hS'⟩:=hp;cases ex with
 |normal=>
  have hL1:w1.heap[L]? =some (.loop r):=hHb.stays hS'.frm hLw (fun _ _ _ e=>by cases e) (fun _ _ e=>by cases e)
  have hltL:L<w.heap.size:=(Array.getElem?_eq_some_iff.1 hLw).1;refine ⟨_,run_beginRound hL1 hr.state,?_⟩;have hlpX:φ'.lp=X:=hS'.agree.lp;have hne: ∀{c:Nat} {o:Obj} {w1:World},w1.heap[c]? =some o->(∃r',w1.heap[L]? =some (.loop r'))->(∀r',o≠ .loop r')->c≠L:=fun hc hl ho e=>by
   obtain ⟨r',hl⟩:=hl;rw [e,hl] at hc;cases hc;exact ho _ rfl
  -- the loop's record is turned
  have turnHR: ∀{D':Nat->Prop} {φ':Phi} {H':Hf} {w1:World} (o:Obj),φ'.lp=X->(∃r',w1.heap[L]? =some (.loop r'))->HR D' φ' H' w1->HR D' φ' H' (w1.putObj L o):=fun o hX hl hh=>
   hh.same (fun c cs elem fr hc=>by rw [World.putObj_heap_other (hne hc hl (fun _ e=>by cases e))];exact hc) (fun c es clk hc=>by rw [World.putObj_heap_other (hne hc hl (fun _ e=>by cases e))];exact hc) (fun L' r' h=>by
    have h':=h;rw [hX] at h';simp only [X] at h';split at h'
    ·cases h'
    ·rename_i hL';rw [World.putObj_heap_other hL'];exact hh.lp L' r' h)
  have turnMk: ∀{m:Nat×List Deferred} {l:List Deferred} {w1:World} (o:Obj),(∃r',w1.heap[L]? =some (.loop r'))->Mk m l w1->Mk m l (w1.putObj L o):=fun o hl ⟨ds,g1,g2,g3⟩=>
   ⟨ds,g1,g2,fun D hD=>⟨(g3 D hD).1,by rw [World.putObj_heap_other (hne (g3 D hD).2 hl (fun _ e=>by cases e))];exact (g3 D hD).2⟩⟩
  have hr2:=turnHR (.loop {r with state:= .busy}) hlpX ⟨r,hL1⟩ hR'.heap
  have hS2:Stp D1 (φ.lpT X) (hget h1) (w.putObj L (.loop {r with state:= .busy})) D' φ' (hget hh1) (w1.putObj L (.loop {r with state:= .busy})):=
   hS'.turn hr2 hS'.frm.os hS'.frm.tape hS'.frm.output (by simp) (by simp) L (fun c hc=>World.putObj_heap_other hc) (fun c hc=>World.putObj_heap_other hc)
    (by rw [World.putObj_heap_same (Nat.lt_of_lt_of_le hltL hS'.frm.size),World.putObj_heap_same hltL])
  have hR2:Rel D' φ' e1 hh1 nn1 F.N ((w.putObj L (.loop {r with state:= .busy})).heap.size,[]) a1 (w1.putObj L (.loop {r with state:= .busy})):=
   ⟨hR'.lt,hR'.env,hr2,hR'.size,by rw [World.putObj_size];exact turnMk _ ⟨r,hL1⟩ hR'.defers⟩
  have hB:WP F.P F.N n1 r.body _ e1 hh1 nn1:=iw_sound {F with n0:=n1} hcx hm r.body _ _ _ _ (by show iw _ (compC F.P F.ct F.N r.body) _ _ _ _;rw [hr.bd];exact hk)
  have h2w:=hB (some L) (.inr (nrI_spec (by rw [hr.bd];exact hnB))) [] D1 (φ.lpT X) (hget h1) _ (fun b hb=>hb) hn' D' φ' a1 _ hR2 hS2
  refine wpIn_mono (F:=Fw (some L)) h2w (fun ex a3 w3 hp=> ?_);obtain ⟨D3,φ3,e3,h3,n3,hk3,hn3,hR3,hS3⟩:=hp;cases ex with
  |normal=>
   obtain ⟨ψ,hW⟩:=hk3;have hHwb:HR D1 (φ.lpT X) (hget h1) (w.putObj L (.loop {r with state:= .busy})):=turnHR _ rfl ⟨r,hLw⟩ hHb
   have hL3:w3.heap[L]? =some (.loop {r with state:= .busy}):=hHwb.stays hS3.frm (World.putObj_heap_same hltL) (fun _ _ _ e=>by cases e) (fun _ _ e=>by cases e)
   refine ⟨_,_,run_endRound none hL3,?_⟩;have hrec:({({r with state:= .busy}:Go.Loop) with state:=if (none:Option Code).isNone then .ready else .done,pending:=none}:Go.Loop)=r:=by
    obtain ⟨st,pe,f',tm,pa,as',bd,de⟩:=r;have:=hr.state;have:=hr.pending;simp at*;simp [*]
   rw [hrec]
   -- the result
   have hR4:Rel D3 φ3 [(0,.b true)] h3 n3 1 (0,[]) {tmps:= #[.bool true],defers:=[]} w3:=by
    refine ⟨hR3.lt,fun t v hv=> ?_,hR3.heap,rfl,Mk.nil⟩;simp only [eget] at hv;by_cases ht:t=0
    ·subst ht;simp at hv;subst hv;exact .b true
    ·rw [beq_ne ht] at hv;simp at hv
   obtain ⟨hR5,hS5⟩:=Rel.weaken hW (fun b hb=>hb) hR4 hS3;have hlp3:(φ3.comp ψ).lp=X:=hS5.agree.lp;have hr5:=turnHR (.loop r) hlp3 ⟨_,hL3⟩ hR5.heap;have hltL3:L<w3.heap.size:=(Array.getElem?_eq_some_iff.1 hL3).1;have hS6:Stp D1 (φ.lpT X) (hget h1) w _ (φ3.comp ψ) (hget h2) (w3.putObj L (.loop r)):=
    hS5.turn hr5 hS5.frm.os hS5.frm.tape hS5.frm.output (by simp) (by simp) L (fun c hc=>(World.putObj_heap_other hc).symm) (fun c hc=>World.putObj_heap_other hc)
     (by rw [World.putObj_heap_same hltL3];exact hLw.symm)
   have hr7:HR _ ((φ3.comp ψ).lpT φ.lp) (hget h2) (w3.putObj L (.loop r)):=hr5.lpT (fun b k v u _ _ h=>h.lpUp (fun L' r' h'=>by
    rw [hlp3] at h';simp only [X] at h';split at h'
    ·cases h'
    ·exact h')) (fun L' r' h'=>by
     by_cases hL':L'=L
     ·rw [hL',World.putObj_heap_same hltL3];rw [hL',hL] at h';cases h';rfl
     ·have:X L'=some r':=by simp only [X,hL',if_false];exact h'
      rw [<-hlp3] at this;exact hr5.lp L' r' this)
   have hS7:Stp D1 φ (hget h1) w _ ((φ3.comp ψ).lpT φ.lp) (hget h2) (w3.putObj L (.loop r)):=hS6.lpT (X:=φ.lp) hr7;refine ⟨_,_,_,rfl,hR5.lt,VRel.b true,⟨fun b hb=>hS7.sub b (hD0 b hb),⟨fun b hb=>hS7.agree.at_ b (hD0 b hb),hS7.agree.fz,hS7.agree.lp⟩,hS7.hr,hS7.frm,hS7.img,hS7.fnew⟩⟩
  |_=>exact hk3.elim
 |_=>exact hk.elim
theorem RFunc.intro {F:Fx} (hcx:Sound F.P F.cx) (hm:F.P.follows .mixedOrders=true) {g:Opd} {ps:List Nat} {A B:ICode} {K:Kont} {e:Env} {h:Hp} {n:Nat} {gf:Nat} {caps:List AV} {v':AV} {h':Hp} {n':Nat} (ts:List Nat) (cs:List AV)
 (hg:g.ev e h=some (.fn gf caps)) (hcal:(callable F.P gf&& !ext F.P gf)=true) (hnA:nrI A=true) (hnB:nrI B=true) (hps:(ps.all fun t=>decide (t<F.N))=true)
 (hts: ∀(i t:Nat) (a:AV),ts[i]? =some t->cs[i]? =some a->eget e t=some a)
 (hit: ∀L r,(∀cs as h1 n1 h2 n2,ps.length=as.length->nylL cs=true->nylL as=true->(∀b k,hget h1 b=some k->nylL k.cells=true)->RoundW F ps A B ts cs as h1 n1 h2 n2->FTL F.P YB (.yl L r ts cs::as) h1 n1 (.b true) h2 n2)→
   FTL F.P gf (.yl L r ts cs::caps) h n v' h' n')
 (hy': ∀b k,hget h' b=some k->nylL k.cells=true) (hn':F.n0<=n') (hk:K .normal e h' n'):RFunc F.P F.ct F.N F.n0 g ps A B K e h n:=by
 rw [Bool.and_eq_true,Bool.not_eq_true'] at hcal;intro c' hc' ro hro Bd D0 φ0 H0 w0 hd0 hn0 D φ a w hR hS
 -- the code
 obtain ⟨g',ps',A',B',rfl,hg',hpe,hA',hB',hgg⟩: ∃g' ps' A' B',c'= .rangeFunc g' ps' A' B'/\cO g'=some g/\ps'.toList=ps/\compC F.P F.ct F.N A'=A/\compC F.P F.ct F.N B'=B/\ ∀k,g≠ .g k:=by
  cases c' with
  |rangeFunc g' ps' A' B'=>
   simp only [compC] at hc';split at hc'
   ·cases hc'
   ·rename_i x hng hx;cases hc';exact ⟨g',ps',A',B',rfl,hx,rfl,rfl,rfl,fun k hk=>hng k hk⟩
   ·cases hc'
  |region id ops draw=>simp only [compC] at hc';split at hc'<;>(try split at hc')<;>cases hc'
  |cond x y z=>simp only [compC] at hc';split at hc'<;>cases hc'
  |_=>simp [compC] at hc'
 have hro':ro=none:=hro.resolve_right (by simp [noRF])
 subst hro';have hvf:=opd_rel (fun t v _ hv=>hR.env t v hv) hg' (fun k hk=>by subst hk;simp only [cO,Option.some.injEq] at hg';exact hgg k hg'.symm) hg
 obtain ⟨hgy,capsV,hev,hcaps⟩:=hvf.fn_inv;refine wpIn_rangeFunc ?_;intro fn hfn;obtain ⟨r,hrdef⟩: ∃r:Go.Loop,r={state:= .ready,pending:=none,fn,tmps:=a.tmps,params:=ps',assign:=A',body:=B',defers:=w.heap.size}:=⟨_,rfl⟩;have hrec:RecOK F ps A B r:=by rw [hrdef];exact ⟨rfl,rfl,by rw [<-hpe],hA',hB',hR.size⟩
 obtain ⟨W1,hW1⟩: ∃W1,(w.alloc (.deferred (some []))).alloc (.loop r)=W1:=⟨_,rfl⟩;have hsz1:W1.heap.size=w.heap.size+2:=by rw [<-hW1];simp
 have hL1:W1.heap[w.heap.size+1]? =some (.loop r):=by
  rw [<-hW1];have:=World.alloc_heap_new (w.alloc (.deferred (some []))) (.loop r);rwa [World.size_alloc] at this
 have hK1:W1.heap[w.heap.size]? =some (.deferred (some [])):=by
  rw [<-hW1];exact (Below.heap_alloc _ _ _ (by simp)).trans (World.alloc_heap_new w _)
 have hold: ∀c,c<w.heap.size->W1.heap[c]? =w.heap[c]? :=fun c hc=>by
  rw [<-hW1];exact (Below.heap_alloc _ _ _ (by simp;omega)).trans (Below.heap_alloc _ _ _ hc)
 have hHw1:HR D φ (hget h) W1:=hR.heap.same (fun c cs elem fr hc=>by rw [hold c (Array.getElem?_eq_some_iff.1 hc).1];exact hc) (fun c es clk hc=>by rw [hold c (Array.getElem?_eq_some_iff.1 hc).1];exact hc) (fun L r' hL=>by
  have:=hR.heap.lp L r' hL;rw [hold L (Array.getElem?_eq_some_iff.1 this).1];exact this)
 have hS1:Stp D φ (hget h) w D φ (hget h) W1:=(Stp.refl hR.heap).same hHw1 (by rw [<-hW1];rfl) (by rw [<-hW1];rfl) (by rw [<-hW1];rfl) (by omega) hold
 let X:Nat->Option Go.Loop:=fun L'=>if L'=w.heap.size+1 then some r else φ.lp L'
 have hXup: ∀L r',φ.lp L=some r'->X L=some r':=fun L r' hL=>by
  have h1:=hR.heap.lp L r' hL;have:=(Array.getElem?_eq_some_iff.1 h1).1;simp only [X];rw [if_neg (by omega)];exact hL
 have hHX:HR D (φ.lpT X) (hget h) W1:=hHw1.lpT (fun b k v u _ _ hv=>hv.lpUp hXup) (fun L r' hL=>by
  simp only [X] at hL;split at hL
  ·rename_i e;cases hL;rw [e];exact hL1
  ·exact hHw1.lp L r' hL)
 have hy0:VRel D (φ.lpT X) (.yl (w.heap.size+1) r ts cs) (.func (.yield (w.heap.size+1)) #[] #[]):=by
  refine .yl (φ:=φ.lpT X) _ _ _ _ (by simp [Phi.lpT,X]) (fun i t a ht ha=> ?_)
  have:=hR.env t a (hts i t a ht ha);rw [hrdef];exact this.lpUp hXup
 have hcaps':All2 D (φ.lpT X) caps capsV:=⟨hcaps.1,fun i a u ha hu=>(hcaps.2 i a u ha hu).lpUp hXup⟩;have hF:=hit (w.heap.size+1) r (fun cs as h1 n1 h2 n2 q1 q2 q3 q4 q5=>FTL.round hcx hm hrec hnA hnB hps q1 q2 q3 q4 q5) D (φ.lpT X) W1 _ hR.lt hHX (.cons hy0 hcaps');refine ⟨w.heap.size+1,[{target:= .collected w.heap.size,args:= #[]}],W1,{target:= .fn (.func gf) capsV.toArray,args:= #[.func (.yield (w.heap.size+1)) #[] #[]]},W1,gf,
  #[.func (.yield (w.heap.size+1)) #[] #[]]++capsV.toArray,W1,?_,?_,fun _ _=>trivial,?_,fun hd=>(by cases hd),?_⟩
 ·rw [<-hW1,hrdef];exact run_enterLoop_outer _ _ _ _ _
 ·simp only [resolve,hev];simp [go_sem]
 ·simp only [invoke,callFunc_run hgy hcal.1 hcal.2]
 ·refine callsIn_Fw ?_;have hF2:=hF.calls hgy hcal.2;rw [show (Value.func (.yield (w.heap.size+1)) #[] #[]::capsV).toArray= #[.func (.yield (w.heap.size+1)) #[] #[]]++capsV.toArray by simp] at hF2
  refine Calls.mono hF2 fun ex w2 hx=> ?_;obtain ⟨D',φ',u,rfl,hlt',hv',hS2⟩:=hx;have hlp2:φ'.lp=X:=hS2.agree.lp;have hL2:w2.heap[w.heap.size+1]? =some (.loop r):=hHX.stays hS2.frm hL1 (fun _ _ _ e=>by cases e) (fun _ _ e=>by cases e)
  have hK2:w2.heap[w.heap.size]? =some (.deferred (some [])):=hHX.stays hS2.frm hK1 (fun _ _ _ e=>by cases e) (fun _ _ e=>by cases e)
  have hlt2:w.heap.size+1<w2.heap.size:=(Array.getElem?_eq_some_iff.1 hL2).1;have hpend:r.pending=none:=hrec.pending;refine ⟨none,w2.putObj (w.heap.size+1) (.loop {r with state:= .exhausted}),(by have:=run_endLoop (P:=F.P) hL2 (by rw [hrec.state];simp);rw [this,hpend]),?_⟩
  -- the relation behind
  have hHr:HR D' (φ'.lpT φ.lp) (hget h') w2:=hS2.hr.lpT (fun b k v u hb hv hvr=>hvr.nyl (nylL_spec (hy' b k hb) v hv)) (fun L r' hL=>by
   have:=hXup L r' hL;rw [<-hlp2] at this;exact hS2.hr.lp L r' this)
  have hS3:Stp D φ (hget h) W1 D' (φ'.lpT φ.lp) (hget h') w2:=hS2.lpT (X:=φ.lp) hHr;have hHe:HR D' (φ'.lpT φ.lp) (hget h') (w2.putObj (w.heap.size+1) (.loop {r with state:= .exhausted})):=hHr.same (fun c cs elem fr hc=>by
   rw [World.putObj_heap_other (fun e=>by rw [e,hL2] at hc;cases hc)];exact hc) (fun c es clk hc=>by
   rw [World.putObj_heap_other (fun e=>by rw [e,hL2] at hc;cases hc)];exact hc) (fun L r' hL=>by
   have h1:=hR.heap.lp L r' hL;have h2:=(Array.getElem?_eq_some_iff.1 h1).1;rw [World.putObj_heap_other (by omega)]
   exact hHr.lp L r' hL)
  have hS4:Stp D φ (hget h) w D' (φ'.lpT φ.lp) (hget h') (w2.putObj (w.heap.size+1) (.loop {r with state:= .exhausted})):=
   (hS1.trans hS3).same hHe rfl rfl rfl (by simp) (fun c hc=>World.putObj_heap_other (by omega))
  refine ⟨D',φ'.lpT φ.lp,e,h',n',hk,hn',⟨hlt',fun t v hv=> ?_,hHe,hR.size,?_⟩,hS.trans hS4⟩
  ·exact (hR.env t v hv).mono hS4.sub hS4.agree
  ·obtain ⟨ds,q1,q2,q3⟩:=hR.defers;refine ⟨w.heap.size::ds,by simp [q1],List.nodup_cons.2 ⟨fun hin=> ?_,q2⟩,fun E hE=> ?_⟩
   ·have:=(Array.getElem?_eq_some_iff.1 (q3 _ hin).2).1;omega
   ·rcases List.mem_cons.1 hE with rfl|hE
    ·exact ⟨hS.frm.size,by rw [World.putObj_heap_other (by omega)];exact hK2⟩
    ·have h1:=(q3 E hE).2;have h2:=(Array.getElem?_eq_some_iff.1 h1).1;refine ⟨(q3 E hE).1,?_⟩;rw [World.putObj_heap_other (by omega)]
     exact (hHX.stays hS2.frm (by rw [hold E h2];exact h1) (fun _ _ _ e=>by cases e) (fun _ _ e=>by cases e))
end Go.Ab
namespace Go.Ab
noncomputable def cx1 (f0:FuncId) (a0:List AV) (h0:Hp) (n0:Nat) (E0:Eff):Cx:=fun f a h n=>open Classical in if f=f0/\a=a0/\h=h0/\n=n0 then some (true,E0) else none
theorem cx1_at {f0:FuncId} {a0:List AV} {h0:Hp} {n0:Nat} {E0:Eff}:cx1 f0 a0 h0 n0 E0 f0 a0 h0 n0=some (true,E0):=if_pos ⟨rfl,rfl,rfl,rfl⟩
theorem cx1_sound {P:Program} {f0:FuncId} {a0:List AV} {h0:Hp} {n0:Nat} {E0:Eff} (hc:CallOK P f0 a0 h0 n0 E0):Sound P (cx1 f0 a0 h0 n0 E0):=fun f a h n c E he ht=>by
 unfold cx1 at he;split at he
 ·rename_i hh;obtain ⟨rfl,rfl,rfl,rfl⟩:=hh;cases he;exact hc
 ·cases he
theorem Loop.stepX {F:Fx} (hm:F.P.follows .mixedOrders=true) {c:ICode} {K:Kont} {X:Type} (ok:X->Prop) (μ:X->Nat) (E:X->Env) (H:X->Hp) (n2:Nat) (x0:X) (nx:X->X) (m0:List (Nat×Nat)) (m:X->List (Nat×Nat))
 {e:Env} {h:Hp} {n:Nat} (hn:F.n0<=n2) (hm0:rnOK m0 F.n0 n2=true) (hm1: ∀x,rnOK (m x) F.n0 n2=true) (h0:ok x0) (he:EnvR n2 m0 e (E x0)) (hh:HpR n2 m0 h (H x0))
 (round: ∀x,ok x-> ∃cx,Sound F.P cx/\jw {F with cx:=cx} c (thenK K fun e' h' n'=>(ok (nx x)/\μ (nx x)<μ x)/\EnvR n2 (m x) e' (E (nx x))/\HpR n2 (m x) h' (H (nx x))) (E x) (H x) n2):Loop F.P F.ct F.N F.n0 c K e h n:=by
 refine Loop.invW (F:=F) (X:={x:X // ok x}) (fun k=>(E k.1,H k.1,n2)) (fun k=>μ k.1) ⟨x0,h0⟩ (rn m0) (Wk.ofR hn hm0 he hh) (fun k c' hc'=> ?_);obtain ⟨cx,hcx,hr⟩:=round k.1 k.2;refine iw_sound {F with cx:=cx} hcx hm c' _ _ _ _ (by
  show iw _ (compC F.P F.ct F.N c') _ _ _ _;rw [hc'];refine iw_mono (fun ex e' h' n' hx=> ?_) (iw_of_jw hr);cases ex with
  |normal=>
   obtain ⟨⟨h1,h2⟩,h3,h4⟩:=hx;exact ⟨⟨nx k.1,h1⟩,rn (m k.1),Wk.ofR hn (hm1 k.1) h3 h4,h2⟩
  |_=>exact hx)
def nylH:Hp->Bool
 |[]=>true
 |(_,k)::r=>nylL k.cells&&nylH r
theorem nylH_spec: ∀{h:Hp} {b:Nat} {k:Blk},nylH h=true->hget h b=some k->nylL k.cells=true
 |[],b,k,_,hb=>by simp [hget] at hb
 |(c,j)::r,b,k,h,hb=>by
  simp only [nylH,Bool.and_eq_true] at h;simp only [hget] at hb;by_cases hc:b=c
  ·subst hc;simp at hb;subst hb;exact h.1
  ·rw [beq_ne hc] at hb;exact nylH_spec h.2 hb
theorem rows_nyl {α:Type} {f:α->List AV} (hf: ∀a,nylL (f a)=true): ∀{l:List α},nylL (rows f l)=true
 |[]=>rfl
 |a::l=>by rw [rows_cons,nylL_append,hf,rows_nyl hf];rfl
def rdK (Q:Env->Hp->Nat->Prop):Kont:=fun ex e h n=>match ex with
 | .normal=>Q e h n
 |_=>False
theorem rdK_n {Q:Env->Hp->Nat->Prop} {e:Env} {h:Hp} {n:Nat}:rdK Q .normal e h n=Q e h n:=(rfl)
attribute [go_sem ↓] rdK_n
theorem RoundW.of_jw {F:Fx} {ps:List Nat} {A B:ICode} {ts:List Nat} {cs as':List AV} {h1:Hp} {n1:Nat} {h2:Hp} {n2:Nat}
 (hj:jw {F with n0:=n1} A (rdK fun e h n=>jw {F with n0:=n1} B (rdK fun e3 h3 n3=>Ends n1 (.b true) h3 n3 (.b true) h2 n2) e h n) (asg ps as' (zipE ts cs)) h1 n1):RoundW F ps A B ts cs as' h1 n1 h2 n2:=by
 refine iw_mono (fun ex e h n hx=> ?_) (iw_of_jw hj);cases ex with
 |normal=>
  refine iw_mono (fun ex e h n hx=> ?_) (iw_of_jw hx);cases ex<;>exact hx
 |_=>exact hx.elim
theorem CovS.frzZ {n0 n n2:Nat} {v v' v2:AV} {h h2:Hp} {l:List AV} (hf:FzV .ze (.fz l 0) v v') (hc:CovS n0 v' h n v2 h2 n2):CovS n0 v h n v2 h2 n2:=by
 intro D φ w D0 φ0 H0 w0 u hD0 hD hv hH hS;exact hc D φ w D0 φ0 H0 w0 u hD0 hD (hf D φ u (fun u1 h1=>by cases h1;exact .fz0 _ _ _ (fun _=>rfl)) hv) hH hS
end Go.Ab
