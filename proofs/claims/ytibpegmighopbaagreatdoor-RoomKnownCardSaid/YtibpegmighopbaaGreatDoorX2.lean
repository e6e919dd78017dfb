/- Texts laid as one. -/
import Derived.Test.YtibpegmighopbaaGreatDoorX1
import Derived.RangeFuncSeq
import Derived.RangeFuncLeaves
import Derived.OrdersIn
import Derived.TacticsIn
import Derived.LoopNIn
import Derived.Scope
set_option maxRecDepth 100000
set_option maxHeartbeats 20000000
set_option linter.unusedSimpArgs false
set_option linter.unusedVariables false
namespace Go.Ab
section
variable {P:Program} {D:Nat->Prop} {φ:bU} {w:World} {n:Nat} {e:Env} {h:Hp} {E:bX} {ρ:Operand->Value}
theorem aR {x:Option jJ} {r:Bool×bX} (hs:step (bK x) e h n=some r): ∃y,x=some y/\step y e h n=some r:=by
 cases x with
 |none=>simp [bK,step] at hs
 |some y=>exact ⟨y,rfl,by simpa [bK] using hs⟩
theorem cf {r:Bool×bX} (hs:step .bad e h n=some r):False:=by simp [step] at hs
def OKs (D:Nat->Prop) (φ:bU) (e:Env) (h:Hp) (ρ:Operand->Value) (o:Op):Prop:= ∀y∈o.operands.toList,∀x,cO y=some x->gi D φ e h x (ρ y)
theorem lx {y:Option Operand} {x:Option cC} (hc:CH y=some x) (hk: ∀q,y=some q-> ∀x,cO q=some x->gi D φ e h x (ρ q)):Kt D φ e h x (y.map ρ):=by
 cases y with
 |none=>simp [CH] at hc;subst hc;trivial
 |some q=>
  simp only [CH] at hc;obtain ⟨x',hx,rfl⟩:=bc.1 hc;exact hk q rfl x' hx
set_option maxHeartbeats 4000000 in
theorem vn {o:Oper} {c:Bool} (hs:step (db P o.op) e h n=some (c,E)) (hc:c=true) (hn:n<E.n-> ¬D n) (hk:OKs D φ e h ρ o.op)
 (hH:HR D φ (only (ab h) E.rd) w):fv P D φ (only (ab h) E.rd) w n E ((execOp ρ o).run P w):=by
 cases hop:o.op<;>rw [hop] at hs hk<;>simp only [db] at hs<;>simp only [OKs,Op.operands] at hk
 case move x=>
  obtain ⟨y,hy,hs⟩:=aR hs;obtain ⟨x',hx,rfl⟩:=bc.1 hy;simp only [execOp,hop];exact IJ hs (hk x (by simp) x' hx) hH
 case assign x=>
  obtain ⟨y,hy,hs⟩:=aR hs;obtain ⟨x',hx,rfl⟩:=bc.1 hy;simp only [execOp,hop];exact IJ hs (hk x (by simp) x' hx) hH
 case pick a b d=>
  obtain ⟨y,hy,hs⟩:=aR hs;simp only [af,bc] at hy;obtain ⟨a',ha,b',hb,d',hd,rfl⟩:=hy;simp only [execOp,hop];exact Ik hs (hk a (by simp) a' ha) (hk b (by simp) b' hb) (hk d (by simp) d' hd) hH
 case alloc t=>
  obtain ⟨y,hy,hs⟩:=aR hs;obtain ⟨z,hz,rfl⟩:=bc.1 hy;simp only [execOp,hop];exact LO hs (Dl hz) hn hH
 case box t x=>
  obtain ⟨y,hy,hs⟩:=aR hs;obtain ⟨x',hx,rfl⟩:=bc.1 hy;simp only [execOp,hop];exact MC hs hc (hk x (by simp) x' hx) hn hH
 case build t ps=>
  have hk': ∀q∈ps.toList,∀x,cO q.2=some x->gi D φ e h x (ρ q.2):=fun q hq x hx=>hk q.2 (by simp;exact ⟨q.1,by simpa using hq⟩) x hx
  split at hs
  ·rename_i fs hu;obtain ⟨y,hy,hs⟩:=aR hs;simp only [af] at hy;obtain ⟨z,hz,hy⟩:=hy;split at hy
   ·rename_i hall;obtain ⟨l,hl,rfl⟩:=bc.1 hy;simp only [execOp,hop];exact CR hs hu hz hall hl hk' hH
   ·cases hy
  ·rename_i m el hu;obtain ⟨y,hy,hs⟩:=aR hs;simp only [af,bc] at hy;obtain ⟨z,hz,s,hsz,l,hl,rfl⟩:=hy;simp only [execOp,hop];exact CA hs hu hz hsz hl hk' hH
  ·exact (cf hs).elim
 case buildSlice t len ps=>
  have hk': ∀q∈ps.toList,∀x,cO q.2=some x->gi D φ e h x (ρ q.2):=fun q hq x hx=>hk q.2 (by simp;exact ⟨q.1,by simpa using hq⟩) x hx
  split at hs
  ·rename_i el hu;obtain ⟨y,hy,hs⟩:=aR hs;simp only [af] at hy;obtain ⟨z,hz,s,hsz,hy⟩:=hy;split at hy
   ·rename_i hcond;obtain ⟨l,hl,rfl⟩:=bc.1 hy;simp only [execOp,hop];exact NX hs hu hz hsz hcond.1 hcond.2 hl hk' hn hH
   ·cases hy
  ·exact (cf hs).elim
 case load t a=>
  obtain ⟨y,hy,hs⟩:=aR hs;simp only [af,bc] at hy;obtain ⟨g,hg,z,hz,a',ha,rfl⟩:=hy;simp only [execOp,hop];exact XO hs hc hg hz (hk a (by simp) a' ha) hH
 case store t a x=>
  obtain ⟨y,hy,hs⟩:=aR hs;simp only [af,bc] at hy;obtain ⟨z,hz,a',ha,x',hx,rfl⟩:=hy;simp only [execOp,hop];exact aeo hs hc hz (hk a (by simp) a' ha) (hk x (by simp) x' hx) hH
 case nilCheck x=>
  obtain ⟨y,hy,hs⟩:=aR hs;obtain ⟨x',hx,rfl⟩:=bc.1 hy;exact Lz hs (hk x (by simp) x' hx) hH hop rfl
 case binOp op t x y _=>
  split at hs
  ·obtain ⟨q,hq,hs⟩:=aR hs;simp only [af,bc] at hq;obtain ⟨x',hx,y',hy,rfl⟩:=hq;simp only [execOp,hop];exact FL hs hc (hk x (by simp) x' hx) (hk y (by simp) y' hy) hH
  ·obtain ⟨q,hq,hs⟩:=aR hs;simp only [af,bc] at hq;obtain ⟨x',hx,y',hy,rfl⟩:=hq;simp only [execOp,hop];exact FL hs hc (hk x (by simp) x' hx) (hk y (by simp) y' hy) hH
  ·rename_i m hmi;have hb: ∀(v':Nat),y= .const .nilIface->ρ y= .nilIface:=fun v' hy=>by
    have h1:=hk y (by simp) (.c .ni) (by rw [hy];rfl) .ni rfl
    generalize ρ y=u0 at h1;cases h1;rfl
   split at hs
   ·obtain ⟨q,hq,hs⟩:=aR hs;obtain ⟨x',hx,rfl⟩:=bc.1 hq;simp only [execOp,hop];exact Ep (neg:=false) hs hmi (hb 0 rfl) (hk x (by simp) x' hx) hH
   ·obtain ⟨q,hq,hs⟩:=aR hs;obtain ⟨x',hx,rfl⟩:=bc.1 hq;simp only [execOp,hop];exact Ep (neg:=true) hs hmi (hb 0 rfl) (hk x (by simp) x' hx) hH
   ·exact (cf hs).elim
  ·rename_i hni hns _;split at hs
   ·rename_i k hnil;split at hs
    ·obtain ⟨q,hq,hs⟩:=aR hs;simp only [af,bc] at hq;obtain ⟨x',hx,y',hy,rfl⟩:=hq;simp only [execOp,hop];exact Eh (neg:=false) hs hnil (hk x (by simp) x' hx) (hk y (by simp) y' hy) hH
    ·obtain ⟨q,hq,hs⟩:=aR hs;simp only [af,bc] at hq;obtain ⟨x',hx,y',hy,rfl⟩:=hq;simp only [execOp,hop];exact Eh (neg:=true) hs hnil (hk x (by simp) x' hx) (hk y (by simp) y' hy) hH
    ·exact (cf hs).elim
   ·split at hs
    ·rename_i hgd;split at hs
     ·obtain ⟨q,hq,hs⟩:=aR hs;simp only [af,bc] at hq;obtain ⟨ks,hks,g,hg,x',hx,y',hy,rfl⟩:=hq;simp only [execOp,hop];exact ET (neg:=false) hs hks hg hgd ⟨fun k hk=>hni k hk,hns⟩ (hk x (by simp) x' hx) (hk y (by simp) y' hy) hH
     ·obtain ⟨q,hq,hs⟩:=aR hs;simp only [af,bc] at hq;obtain ⟨ks,hks,g,hg,x',hx,y',hy,rfl⟩:=hq;simp only [execOp,hop];exact ET (neg:=true) hs hks hg hgd ⟨fun k hk=>hni k hk,hns⟩ (hk x (by simp) x' hx) (hk y (by simp) y' hy) hH
     ·exact (cf hs).elim
    ·exact (cf hs).elim
 case unOp op t x=>
  split at hs
  ·obtain ⟨y,hy,hs⟩:=aR hs;obtain ⟨x',hx,rfl⟩:=bc.1 hy;simp only [execOp,hop];exact MG hs (hk x (by simp) x' hx) hH
  ·obtain ⟨y,hy,hs⟩:=aR hs;obtain ⟨x',hx,rfl⟩:=bc.1 hy;simp only [execOp,hop];exact KK hs (hk x (by simp) x' hx) hH
  ·exact (cf hs).elim
 case convert s d x=>
  split at hs
  ·rename_i j k h1 h2;obtain ⟨y,hy,hs⟩:=aR hs;obtain ⟨x',hx,rfl⟩:=bc.1 hy;simp only [execOp,hop];exact NM hs ⟨_,h1⟩ h2 (hk x (by simp) x' hx) hH
  ·rename_i h1 h2;obtain ⟨y,hy,hs⟩:=aR hs;obtain ⟨x',hx,rfl⟩:=bc.1 hy;simp only [execOp,hop];exact Lv hs h1 h2 (hk x (by simp) x' hx) hH
  ·rename_i h1 h2;split at hs
   ·rename_i h3;obtain ⟨y,hy,hs⟩:=aR hs;obtain ⟨x',hx,rfl⟩:=bc.1 hy;simp only [execOp,hop];exact Pk hs h1 h2 h3 hn (hk x (by simp) x' hx) hH
   ·exact (cf hs).elim
  ·rename_i h1 h2;split at hs
   ·rename_i h3;obtain ⟨y,hy,hs⟩:=aR hs;obtain ⟨x',hx,rfl⟩:=bc.1 hy;simp only [execOp,hop];exact Nh hs hc h1 h2 h3 (hk x (by simp) x' hx) hH
   ·exact (cf hs).elim
  ·exact (cf hs).elim
 case makeFunc fn first caps=>
  cases fn with
  |func f=>
   simp only at hs;split at hs
   ·rename_i hf0;obtain ⟨y,hy,hs⟩:=aR hs;obtain ⟨l,hl,rfl⟩:=bc.1 hy;simp only [aw,aV,iH] at hf0;have hfe:first= #[]:=Array.eq_empty_of_size_eq_zero hf0.1
    subst hfe;have hfy:f≠YB:=fun h=>by have:=hf0.2;rw [h] at this;simp at this
    have:=K5 (P:=P) (w:=w) (ρ:=ρ) hfy hs hl (fun y hy x hx=>hk y (by simpa using hy) x hx) hH
    simp only [execOp,hop];have hmap:(caps.toList.map ρ).toArray=caps.map ρ:=by apply lg;simp
    rw [hmap] at this;simpa using this
   ·split at hs
    ·rename_i hf0;obtain ⟨y,hy,hs⟩:=aR hs;obtain ⟨l,hl,rfl⟩:=bc.1 hy;simp only [aw,aV,iH] at hf0;have hfe:caps= #[]:=Array.eq_empty_of_size_eq_zero hf0.1;subst hfe;have hfy:f≠YB:=fun h=>by have:=hf0.2;rw [h] at this;simp at this
     have:=PV (P:=P) (w:=w) (ρ:=ρ) hfy hs hl (fun y hy x hx=>hk y (by simpa using hy) x hx) hH
     simp only [execOp,hop];have hmap:(first.toList.map ρ).toArray=first.map ρ:=by apply lg;simp
     rw [hmap] at this;simpa using this
    ·exact (cf hs).elim
  |_=>exact (cf hs).elim
 case slice t x lo hi mx=>
  have hlo: ∀q,lo=some q-> ∀x,cO q=some x->gi D φ e h x (ρ q):=fun q hq x hx=>hk q (by simp [hq]) x hx
  have hhi: ∀q,hi=some q-> ∀x,cO q=some x->gi D φ e h x (ρ q):=fun q hq x hx=>hk q (by simp [hq]) x hx
  have hm: ∀q,mx=some q-> ∀x,cO q=some x->gi D φ e h x (ρ q):=fun q hq x hx=>hk q (by simp [hq]) x hx
  split at hs
  ·exact (cf hs).elim
  rename_i hmm0;have hmh:mx=none\/hi.isSome=true:=by cases mx<;>cases hi<;>simp_all
  have hmh': ∀hi' mx',CH hi=some hi'->CH mx=some mx'->mx'=none\/hi'.isSome=true:=fun hi' mx' h1 h2=>by
   rcases hmh with rfl|hh
   ·simp [CH] at h2;exact .inl h2.symm
   ·cases hi with
    |none=>simp at hh
    |some q=>simp only [CH] at h1;obtain ⟨y,_,rfl⟩:=bc.1 h1;exact .inr rfl
  split at hs
  ·rename_i hu;split at hs
   ·obtain ⟨y,hy,hs⟩:=aR hs;simp only [af,bc] at hy;obtain ⟨x',hx,lo',hl,hi',hh,rfl⟩:=hy;simp only [execOp,hop];exact Nz hs hc hu (hk x (by simp) x' hx) (lx hl hlo) (lx hh hhi) hH
   ·exact (cf hs).elim
  ·rename_i el hu;obtain ⟨y,hy,hs⟩:=aR hs;simp only [af,bc] at hy;obtain ⟨z,hz,x',hx,lo',hl,hi',hh,mx',hmm,rfl⟩:=hy;simp only [execOp,hop];exact Mp hs hc hu hz (hk x (by simp) x' hx) (lx hl hlo) (lx hh hhi) (lx hmm hm) (hmh' _ _ hh hmm) hH
  ·rename_i m el hu;obtain ⟨y,hy,hs⟩:=aR hs;simp only [af,bc] at hy;obtain ⟨z,hz,x',hx,lo',hl,hi',hh,mx',hmm,rfl⟩:=hy;simp only [execOp,hop];exact PU hs hc hu hz (hk x (by simp) x' hx) (lx hl hlo) (lx hh hhi) (lx hmm hm) (hmh' _ _ hh hmm) hH
  ·exact (cf hs).elim
 case fieldAddr t x f=>
  obtain ⟨y,hy,hs⟩:=aR hs;simp only [af] at hy;obtain ⟨q,hq,hy⟩:=hy;split at hy
  ·cases hy
  ·rename_i hq0;obtain ⟨x',hx,rfl⟩:=bc.1 hy;simp only [execOp,hop];exact abF hs hq hq0 (hk x (by simp) x' hx) hH
 case field t x f=>
  obtain ⟨y,hy,hs⟩:=aR hs;simp only [af,bc] at hy;obtain ⟨q,hq,g,hg,x',hx,rfl⟩:=hy;simp only [execOp,hop];exact PX hs hc hq hg (hk x (by simp) x' hx) hH
 case indexAddr t x i=>
  split at hs
  ·rename_i m el hu;obtain ⟨y,hy,hs⟩:=aR hs;simp only [af,bc] at hy;obtain ⟨z,hz,x',hx,i',hi,rfl⟩:=hy;simp only [execOp,hop];exact JX hs hc hu hz (hk x (by simp) x' hx) (hk i (by simp) i' hi) hH
  ·rename_i el hu;obtain ⟨y,hy,hs⟩:=aR hs;simp only [af,bc] at hy;obtain ⟨z,hz,x',hx,i',hi,rfl⟩:=hy;simp only [execOp,hop];exact J5 hs hc hu hz (hk x (by simp) x' hx) (hk i (by simp) i' hi) hH
  ·exact (cf hs).elim
 case index t x i=>
  split at hs
  ·rename_i m el hu;obtain ⟨y,hy,hs⟩:=aR hs;simp only [af,bc] at hy;obtain ⟨z,hz,g,hg,x',hx,i',hi,rfl⟩:=hy;simp only [execOp,hop];exact OP hs hc hu hz hg (hk x (by simp) x' hx) (hk i (by simp) i' hi) hH
  ·rename_i hu;obtain ⟨y,hy,hs⟩:=aR hs;simp only [af,bc] at hy;obtain ⟨x',hx,i',hi,rfl⟩:=hy;simp only [execOp,hop];exact Mi hs hc hu (hk x (by simp) x' hx) (hk i (by simp) i' hi) hH
  ·exact (cf hs).elim
 case extract x i=>
  obtain ⟨y,hy,hs⟩:=aR hs;obtain ⟨x',hx,rfl⟩:=bc.1 hy;simp only [execOp,hop];exact K9 hs (hk x (by simp) x' hx) hH
 case makeInterface t x=>
  split at hs
  ·exact (cf hs).elim
  ·rename_i d hd hu;obtain ⟨y,hy,hs⟩:=aR hs;obtain ⟨x',hx,rfl⟩:=bc.1 hy;simp only [execOp,hop];exact Nc hs hu (fun m hm=>hd m hm) (hk x (by simp) x' hx) hH
  ·exact (cf hs).elim
 case typeAssert x xt t ok=>
  split at hs
  ·exact (cf hs).elim
  ·rename_i d hd hu;obtain ⟨y,hy,hs⟩:=aR hs;simp only [af,bc] at hy;obtain ⟨i,hi,z,hz,zz,hzz,x',hx,rfl⟩:=hy;simp only [execOp,hop];exact L1 hs hu (fun m hm=>hd m hm) hi hz hzz (hk x (by simp) x' hx) hH
  ·exact (cf hs).elim
 case panic x=>
  obtain ⟨y,hy,hs⟩:=aR hs;obtain ⟨x',hx,rfl⟩:=bc.1 hy;simp [step] at hs
 case defer cl=>
  split at hs
  ·obtain ⟨y,hy,hs⟩:=aR hs;simp only [af,bc] at hy;obtain ⟨f',_,l,_,rfl⟩:=hy;simp [step] at hs
  ·exact (cf hs).elim
 case makeMap t r=>
  split at hs
  ·exact (cf hs).elim
  ·split at hs
   ·rename_i kt et hu;split at hs
    ·simp only [execOp,hop,Option.map_none];exact EK hs rfl hn hH
    ·simp only [execOp,hop,Option.map_none];exact EK hs rfl hn hH
    ·exact (cf hs).elim
   ·exact (cf hs).elim
 case lookup t x k ok=>
  split at hs
  ·rename_i kt et hu;obtain ⟨y,hy,hs⟩:=aR hs;simp only [af,bc] at hy;obtain ⟨kd,hkd,i,hi,z,hz,zz,hzz,m',hm,k',hkk,rfl⟩:=hy;simp only [execOp,hop];exact No hs hu hkd hi hz hzz (hk x (by simp) m' hm) (hk k (by simp) k' hkk) hH
  ·exact (cf hs).elim
 case mapUpdate t m k x=>
  split at hs
  ·rename_i kt et hu;obtain ⟨y,hy,hs⟩:=aR hs;simp only [af,bc] at hy;obtain ⟨kd,hkd,m',hm,k',hkk,x',hx,rfl⟩:=hy;simp only [execOp,hop];exact Fi hs hc hu hkd (hk m (by simp) m' hm) (hk k (by simp) k' hkk) (hk x (by simp) x' hx) hH
  ·exact (cf hs).elim
 case insert t m k x=>
  split at hs
  ·rename_i kt et hu;obtain ⟨y,hy,hs⟩:=aR hs;simp only [af,bc] at hy;obtain ⟨kd,hkd,m',hm,k',hkk,x',hx,rfl⟩:=hy;simp only [execOp,hop];exact Fi hs hc hu hkd (hk m (by simp) m' hm) (hk k (by simp) k' hkk) (hk x (by simp) x' hx) hH
  ·exact (cf hs).elim
 case makeSlice t l cc=>
  split at hs
  ·rename_i el hu;obtain ⟨y,hy,hs⟩:=aR hs;simp only [af] at hy;obtain ⟨i,hi,z,hz,hy⟩:=hy;split at hy
   ·rename_i hzl;simp only [af,bc] at hy;obtain ⟨l',hl,c',hcc,rfl⟩:=hy;simp only [execOp,hop];exact N8 (z:=0) (bytes:=0) hs hc hu hi hz hzl (hk l (by simp) l' hl) (hk cc (by simp) c' hcc) hn hH
   ·cases hy
  ·exact (cf hs).elim
 case call cl=>
  split at hs
  ·rename_i f hcal;obtain ⟨y,hy,hs⟩:=aR hs;simp only [af,bc] at hy;obtain ⟨f',_,l,_,rfl⟩:=hy;simp [step] at hs
  ·rename_i b hcal;obtain ⟨callee,args,argTypes⟩:=cl;simp only at hcal;subst hcal;obtain ⟨argl⟩:=args;obtain ⟨tyl⟩:=argTypes;simp only [Call.operands] at hk;simp only at hs;have hkl: ∀y∈argl,∀x,cO y=some x->gi D φ e h x (ρ y):=fun y hy=>hk y (by simpa using hy)
   have hbt: ∀(s:Sem Value),(execOp ρ o).run P w=(do let d <-resolve ρ {callee:= .builtin b,args:=⟨argl⟩,argTypes:=⟨tyl⟩} o.type;invoke d.target d.args:Sem Next).run P w:=fun s=>by simp only [execOp,hop]
   rw [hbt (pure undef)];simp only [resolve,Sem.run_bind,Sem.run_pure,Result.andThen_ok,invoke];split at hs
   ·rename_i x t;simp only [builtin];have harg:(Array.map ρ ⟨[x]⟩)= #[ρ x]:=by simp
    have htl:(⟨[t]⟩:Array TypeId)= #[t]:=rfl;rw [harg,htl];split at hs
    ·rename_i hu;obtain ⟨y,hy,hs⟩:=aR hs;obtain ⟨x',hx,rfl⟩:=bc.1 hy;exact JL hs hu (hkl x (by simp) x' hx) hH
    ·rename_i el hu;obtain ⟨y,hy,hs⟩:=aR hs;obtain ⟨x',hx,rfl⟩:=bc.1 hy;exact IL hs hu (hkl x (by simp) x' hx) hH
    ·rename_i kt et hu;obtain ⟨y,hy,hs⟩:=aR hs;obtain ⟨x',hx,rfl⟩:=bc.1 hy;exact JJ hs hu (hkl x (by simp) x' hx) hH
    ·rename_i m el hu;exact AR hs (.inl ⟨_,hu⟩) hH
    ·rename_i a hu;split at hs
     ·rename_i m el ha;exact AR hs (.inr ⟨_,_,hu,ha⟩) hH
     ·exact (cf hs).elim
    ·exact (cf hs).elim
   ·rename_i x t;simp only [builtin];have harg:(Array.map ρ ⟨[x]⟩)= #[ρ x]:=by simp
    have htl:(⟨[t]⟩:Array TypeId)= #[t]:=rfl;rw [harg,htl];split at hs
    ·rename_i el hu;obtain ⟨y,hy,hs⟩:=aR hs;obtain ⟨x',hx,rfl⟩:=bc.1 hy;exact HC hs hu (hkl x (by simp) x' hx) hH
    ·exact (cf hs).elim
   ·rename_i x xs;obtain ⟨y,hy,hs⟩:=aR hs;simp only [af,bc] at hy;obtain ⟨x',hx,l,hl,rfl⟩:=hy;simp only [builtin];have harg:(Array.map ρ ⟨x::xs⟩)=(ρ x::xs.map ρ).toArray:=by simp
    rw [harg];exact TD hs hl (hkl x (by simp) x' hx) (fun y hy=>hkl y (by simp [hy])) hH
   ·rename_i x xs;obtain ⟨y,hy,hs⟩:=aR hs;simp only [af,bc] at hy;obtain ⟨x',hx,l,hl,rfl⟩:=hy;simp only [builtin];have harg:(Array.map ρ ⟨x::xs⟩)=(ρ x::xs.map ρ).toArray:=by simp
    rw [harg];exact X1 hs hl (hkl x (by simp) x' hx) (fun y hy=>hkl y (by simp [hy])) hH
   ·rename_i s x t u;simp only [builtin];have harg:(Array.map ρ ⟨[s,x]⟩)= #[ρ s,ρ x]:=by simp
    have htl:(⟨[t,u]⟩:Array TypeId)= #[t,u]:=rfl;rw [harg,htl];split at hs
    ·rename_i el kn hu hu2;obtain ⟨y,hy,hs⟩:=aR hs;simp only [af] at hy;obtain ⟨i,hi,z,hz,hy⟩:=hy;split at hy
     ·rename_i hzl;simp only [af,bc] at hy;obtain ⟨s',hs',x',hx,rfl⟩:=hy;exact Lt hs hc hu hu2 hi hz hzl.1 hzl.2.1 hzl.2.2 (hkl s (by simp) s' hs') (hkl x (by simp) x' hx) hn hH
     ·cases hy
    ·rename_i el d hu hu2 hnint;obtain ⟨y,hy,hs⟩:=aR hs;simp only [af] at hy;obtain ⟨i,hi,z,hz,hy⟩:=hy;split at hy
     ·rename_i hzl;simp only [af,bc] at hy;obtain ⟨s',hs',x',hx,rfl⟩:=hy;exact Nr hs hc hu2 hnint (fun k hk=>by subst hk;simp_all) hi hz hzl.1 hzl.2 (hkl s (by simp) s' hs') (hkl x (by simp) x' hx) hn hH
     ·cases hy
    ·exact (cf hs).elim
   ·rename_i dd s t tl;simp only [builtin];have harg:(Array.map ρ ⟨[dd,s]⟩)= #[ρ dd,ρ s]:=by simp
    rw [harg];split at hs
    ·rename_i el hu;obtain ⟨y,hy,hs⟩:=aR hs;simp only [af,bc] at hy;obtain ⟨z,hz,d',hd,s',hs',rfl⟩:=hy;exact MP hs hc (by simp) hu hz (hkl dd (by simp) d' hd) (hkl s (by simp) s' hs') hH
    ·exact (cf hs).elim
   ·rename_i m k t tl;simp only [builtin];have harg:(Array.map ρ ⟨[m,k]⟩)= #[ρ m,ρ k]:=by simp
    rw [harg];split at hs
    ·rename_i kt et hu;obtain ⟨y,hy,hs⟩:=aR hs;simp only [af,bc] at hy;obtain ⟨kd,hkd,m',hm,k',hkk,rfl⟩:=hy;exact NP hs (by simp) hu hkd (hkl m (by simp) m' hm) (hkl k (by simp) k' hkk) hH
    ·exact (cf hs).elim
   ·simp [step] at hs
   ·rename_i x t;simp only [builtin];have harg:(Array.map ρ ⟨[x]⟩)= #[ρ x]:=by simp
    have htl:(⟨[t]⟩:Array TypeId)= #[t]:=rfl;rw [harg,htl];split at hs
    ·rename_i el hu;obtain ⟨y,hy,hs⟩:=aR hs;simp only [af,bc] at hy;obtain ⟨zs,hzs,z,hz,x',hx,rfl⟩:=hy;exact PD hs hc hu hz hzs (hkl x (by simp) x' hx) hH
    ·exact (cf hs).elim
   ·exact (cf hs).elim
  ·exact (cf hs).elim
 all_goals exact (cf hs).elim
end
end Go.Ab
namespace Go.Ab
abbrev Cx:=FuncId->List AV->Hp->Nat->Option (Bool×bX)
def ext (P:Program) (f:FuncId):Bool:=match P.funcs[f]? with
 |some fn=>fn.body.isNone
 |none=>false
def bJ (P:Program) (f:FuncId):Bool:=
 Nat.beq f YB||match P.funcs[f]? with
 |some fn=>fn.body.isNone|| !(fn.name== "runtime.NumGoroutine")
 |none=>false
def rT (P:Program) (f:FuncId) (us:Array Value) (w:World) (R:Ending->World->Prop):Prop:=
 if f=YB then ∃L vs,us= #[.func (.yield L) #[] #[]]++vs/\YieldAt Fence.wide 0 P L vs w R else if ext P f=true then ∃u w',(callFunc f us).run P w= .ok (.value u) w'/\R (.returned u) w' else Calls P f us w R
theorem rT.mono {P:Program} {f:FuncId} {us:Array Value} {w:World} {R R':Ending->World->Prop} (h:rT P f us w R) (hr: ∀e w',R e w'->R' e w'):rT P f us w R':=by
 unfold rT at h ⊢;split
 ·rename_i hf;rw [aM hf] at h;obtain ⟨L,vs,h1,fn,tmps,as,bd,h2,h3⟩:=h;exact ⟨L,vs,h1,fn,tmps,as,bd,h2,h3.mono hr⟩
 ·rename_i hf;rw [aN hf] at h;split
  ·rename_i he;rw [aM he] at h;obtain ⟨u,w',h1,h2⟩:=h;exact ⟨u,w',h1,hr _ _ h2⟩
  ·rename_i he;rw [aN he] at h;exact Calls.mono h hr
theorem rT.calls {P:Program} {f:FuncId} {us:Array Value} {w:World} {R:Ending->World->Prop} (h:rT P f us w R) (hf:f≠YB) (he:ext P f=false):Calls P f us w R:=by
 unfold rT at h;rwa [aN hf,aN (by rw [he];decide)] at h
theorem rT.of {P:Program} {f:FuncId} {us:Array Value} {w:World} {R:Ending->World->Prop} (h:Calls P f us w R) (hf:f≠YB) (he:ext P f=false):rT P f us w R:=by
 unfold rT;rwa [aN hf,aN (by rw [he];decide)]
theorem rT.ext {P:Program} {f:FuncId} {us:Array Value} {w:World} {R:Ending->World->Prop} (h:rT P f us w R) (hf:f≠YB) (he:ext P f=true): ∃u w',(callFunc f us).run P w= .ok (.value u) w'/\R (.returned u) w':=by
 unfold rT at h;rwa [aN hf,aM he] at h
theorem rT.Ss {P:Program} {f:FuncId} {us:Array Value} {w w':World} {u:Value} {R:Ending->World->Prop} (hf:f≠YB) (he:Go.Ab.ext P f=true) (h:(callFunc f us).run P w= .ok (.value u) w') (hr:R (.returned u) w'):rT P f us w R:=by
 unfold rT;rw [aN hf,aM he];exact ⟨u,w',h,hr⟩
theorem px {P:Program} {f:FuncId} {fn:Func} {c:Code} (hf:P.funcs[f]? =some fn) (hc:fn.body=some c):Go.Ab.ext P f=false:=by
 unfold Go.Ab.ext;rw [hf];simp [hc]
def Fw (ro:Option Nat):Fence:={Fence.wide with round:=ro}
def GQ:Option Value->Value->Ending
 |none,u=> .returned u
 |some p,_=> .panicked [{v:=p,recovered:=false}]
structure ax (P:Program) (f:FuncId) (args:List AV) (h:Hp) (n:Nat) (E:bX):Prop where
 bJ:bJ P f=true
 le:n<=E.n
 md: ∀b r,dH E.md b=some r->inl E.rd b=true
 nw: ∀b k,ab E.nw b=some k->n<=b/\b<E.n
 run: ∀(D:Nat->Prop) (φ:bU) (w:World) (us:List Value),(∀b,n<=b->b<E.n-> ¬D b)->HR D φ (only (ab h) E.rd) w->cJ D φ args us→
  rT P f us.toArray w fun e w'=> ∃u φ',e=GQ E.pn u/\aI (Dn D n E.n) φ' E.v u/\dR D φ (only (ab h) E.rd) w (Dn D n E.n) φ' (E.app (only (ab h) E.rd)) w'∧
   (∀b k,E.app (only (ab h) E.rd) b=some k->k.ro=true->only (ab h) E.rd b=some k)
def Sound (P:Program) (cx:Cx):Prop:= ∀f args h n c E,cx f args h n=some (c,E)->c=true->ax P f args h n E
def cA (cx:Cx) (o:jJ) (e:Env) (h:Hp) (n:Nat):Option (Bool×bX):=
 match o with
 | .call f args=>(f.ev e h).bind fun v=>match v with
  | .fn g caps=>(xn e h args).bind fun l=>cx g (l++caps) h n
  | .bm g fs=>(xn e h args).bind fun l=>cx g (fs++l) h n
  | .yl L r ts cs=>(xn e h args).bind fun l=>cx YB (.yl L r ts cs::l) h n
  |_=>none
 | .MJ x=>(x.ev e h).bind fun v=>match v with
  | .k t u=>some (true,{v:= .bg [],n,pn:=some (.iface t u)})
  |_=>none
 |o=>step o e h n
theorem nM (a b:Hp) (c:Nat):ab (a++b) c=match ab a c with|some k=>some k|none=>ab b c:=by
 induction a with
 |nil=>rfl
 |cons x a ih=>
  obtain ⟨d,k⟩:=x;simp only [ee,ab];cases Nat.beq d c<;>simp [ih]
theorem l9 (h:Hp) (b:Nat) (k:aW) (c:Nat):ab (ig h b k) c=if c=b then some k else ab h c:=by
 induction h with
 |nil=>
  simp only [ig,ab];by_cases hc:c=b
  ·subst hc;simp
  ·simp [bz hc,hc]
 |cons x h ih=>
  obtain ⟨d,j⟩:=x;simp only [ig,ab];by_cases hd:Nat.beq d b=true
  ·have:=dC hd;subst this;simp only [hd,cond_true,ab];by_cases hc:c=d
   ·subst hc;simp
   ·simp [bz hc,hc]
  ·rw [ju] at hd;simp only [hd,cond_false,ab];by_cases hc:Nat.beq d c=true
   ·have:=dC hc;subst this;have hdb: ¬d=b:=fun e=>by rw [e] at hd;simp at hd
    simp [hdb]
   ·rw [ju] at hc;simp [hc,ih]
theorem FT (h:Hp) (b:Nat) (c:Nat):ab (nH h b) c=if c=b then none else ab h c:=by
 induction h with
 |nil=>simp [nH,ab]
 |cons x h ih=>
  obtain ⟨d,j⟩:=x;simp only [nH,ab];by_cases hd:Nat.beq d b=true
  ·have:=dC hd;subst this;simp only [hd,cond_true,ih];by_cases hc:c=d
   ·simp [hc]
   ·simp [hc,bz hc]
  ·rw [ju] at hd;simp only [hd,cond_false,ab];by_cases hc:Nat.beq d c=true
   ·have:=dC hc;subst this;have hdb: ¬d=b:=fun e=>by rw [e] at hd;simp at hd
    simp [hdb]
   ·rw [ju] at hc;simp [hc,ih]
theorem qH (h:Hp): ∀(md:List (Nat×Option aW)) (c:Nat),ab (jb h md) c=match dH md c with|some r=>r|none=>ab h c
 |[],c=>rfl
 |(b,some k)::r,c=>by
  simp only [jb,dH,l9];by_cases hc:c=b
  ·subst hc;simp
  ·simp [hc,bz hc,qH h r c]
 |(b,none)::r,c=>by
  simp only [jb,dH,FT];by_cases hc:c=b
  ·subst hc;simp
  ·simp [hc,bz hc,qH h r c]
theorem oC (E:bX) (h:Hp):ab (E.fe h)=E.app (ab h):=by
 funext c;simp only [bX.fe,bX.app,qH,nM];cases dH E.md c<;>rfl
section
variable {P:Program} {D:Nat->Prop} {φ:bU} {w:World} {n:Nat} {e:Env} {h:Hp} {E:bX} {cx:Cx}
theorem nb {H:Hf} {φ':bU} {w':World} {D':Nat->Prop} (hH:HR D φ H w) (hsub: ∀b k,only (ab h) E.rd b=some k->H b=some k)
 (hmd: ∀b r,dH E.md b=some r->inl E.rd b=true)
 (h1:dR D φ (only (ab h) E.rd) w D' φ' (E.app (only (ab h) E.rd)) w')
 (hro: ∀b k,E.app (only (ab h) E.rd) b=some k->k.ro=true->only (ab h) E.rd b=some k)
 (hex: ∀b,inl E.rd b=true->ab h b=none->dH E.md b=none->ab E.nw b=none->H b=none\/True):
 dR D φ H w D' φ' (E.app H) w':=by
 refine dR.frame hH hsub h1 (E.app H) (fun b k hb=> ?_) hro;simp only [bX.app] at hb ⊢;cases hm:dH E.md b with
 |some r=>rw [hm] at hb;exact .inl hb
 |none=>
  rw [hm] at hb;cases hn:ab E.nw b with
  |some k'=>rw [hn] at hb;exact .inl hb
  |none=>
   rw [hn] at hb;simp only at hb ⊢;cases ho:only (ab h) E.rd b with
   |some k'=>left;rw [hsub b k' ho] at hb;exact hb
   |none=>right;exact ⟨hb,rfl⟩
theorem j4 {f:FuncId} (hfy:f≠YB) (hf:bJ P f=true) (he:ext P f=false) (args:Array Value) (w:World):(callFunc f args).run P w= .ok (.enter f args) w:=by
 unfold bJ at hf;rw [show Nat.beq f YB=false from bz (fun e=>hfy e.symm),fg] at hf
 split at hf
 ·rename_i fn hfn;have hb':fn.body.isNone=false:=by unfold ext at he;rwa [hfn] at he
  have hn':(fn.name== "runtime.NumGoroutine")=false:=by rw [hb'] at hf;simpa using hf
  simp only [callFunc,Sem.run_bind,run_program,Result.andThen_ok,hfn,hn',cY,bV,hb',Sem.run_pure]
 ·cases hf
def hJ:jJ->Bool
 | .call _ _=>false
 | .MJ _=>false
 |_=>true
def NC (x:Option jJ):Prop:= ∀y,x=some y->hJ y=true
theorem NC.bind {α:Type} {x:Option α} {f:α->Option jJ} (h: ∀a,NC (f a)):NC (x.bind f):=fun y hy=>by
 simp only [af] at hy;obtain ⟨a,_,hy⟩:=hy;exact h a y hy
theorem NC.map {α:Type} {x:Option α} {f:α->jJ} (h: ∀a,hJ (f a)=true):NC (x.map f):=fun y hy=>by
 obtain ⟨a,_,rfl⟩:=bc.1 hy;exact h a
theorem NC.none:NC none:=fun y hy=>by cases hy
theorem NC.ite {c:Prop} [Decidable c] {x y:Option jJ} (h1:NC x) (h2:NC y):NC (if c then x else y):=by split<;>assumption
theorem NC.bK {x:Option jJ} (h:NC x):hJ (bK x)=true:=by
 cases x with
 |none=>rfl
 |some y=>exact h y rfl
theorem eX {o:Op} (ho: ∀f args tys,o≠ .call ⟨.value f,args,tys⟩) (hp: ∀x,o≠ .panic x):hJ (db P o)=true:=by
 cases o<;>simp only [db]
 case call c=>
  obtain ⟨callee,args,tys⟩:=c;cases callee with
  |value f=>exact absurd rfl (ho f args tys)
  |invoke r m=>rfl
  |builtin b=>
   simp only;repeat' split
   all_goals first
    |rfl
    |(refine NC.bK ?_;repeat (first|(refine NC.bind (fun _=> ?_))|exact NC.map (fun _=>rfl)|exact NC.none|refine NC.ite ?_ ?_))
 case panic x=>exact absurd rfl (hp x)
 case makeFunc fn first caps=>
  cases fn with
  |func f=>simp only;repeat' split
           all_goals first|rfl|exact NC.bK (NC.map (fun _=>rfl))
  |_=>rfl
 all_goals (repeat' split)
 all_goals first
  |rfl
  |(refine NC.bK ?_;repeat (first|(refine NC.bind (fun _=> ?_))|exact NC.map (fun _=>rfl)|exact NC.none|refine NC.ite ?_ ?_))
theorem qA {ro:Option Nat} {f:FuncId} {args:Array Value} {R:Ending->World->Prop} (h:Calls P f args w R):CallsIn (Fw ro) (0-1) P f args w R:=by
 have h1:CallsIn Fence.wide (0-1) P f args w R:=callsIn_wide.2 h;exact h1
def uR (x:Option (Bool×bX)):Prop:= ∀c E,x=some (c,E)->E.pn=none
theorem uR.bind {α:Type} {x:Option α} {f:α->Option (Bool×bX)} (h: ∀a,uR (f a)):uR (x.bind f):=fun c E hy=>by
 simp only [af] at hy;obtain ⟨a,_,hy⟩:=hy;exact h a c E hy
theorem uR.none:uR none:=fun c E h=>by cases h
theorem uR.pe {v:AV} {n:Nat}:uR (pe v n):=fun c E h=>by simp only [Go.Ab.pe,aP,bq] at h;rw [<-h.2]
theorem uR.some {c:Bool} {v:AV} {n:Nat} {rd:List Nat} {md:List (Nat×Option aW)} {nw:List (Nat×aW)}:uR (some (c,{v,n,rd,md,nw})):=fun c E h=>by simp only [aP,bq] at h;rw [<-h.2]
theorem uR.dp {e:Env} {h:Hp} {o:Option cC} {k:Option Int->Option (Bool×bX)} (hk: ∀a,uR (k a)):uR (dp e h o k):=by
 cases o with
 |none=>exact hk _
 |some x=>exact uR.bind fun v=>uR.bind fun a=>hk _
theorem uR.ite {c:Prop} [Decidable c] {x y:Option (Bool×bX)} (h1:uR x) (h2:uR y):uR (if c then x else y):=by split<;>assumption
theorem Ob (o:jJ):uR (step o e h n):=by
 cases o<;>simp only [step];all_goals repeat' (first
  |exact uR.none
  |exact uR.pe
  |exact uR.some
  |refine uR.bind fun _=> ?_
  |refine uR.dp fun _=> ?_
  |refine uR.ite ?_ ?_
  |split)
theorem BV {D:Nat->Prop} {φ:bU}:aI D φ (.bg []) undef:=aI.bg [] #[] rfl (fun i a u ha=>by simp at ha)
theorem dR.HA {D:Nat->Prop} {φ:bU} {H:Hf} {w:World} {n:Nat} {v:AV} {p:Option Value} (hH:HR D φ H w):dR D φ H w (Dn D n n) φ (bX.app {v,n,pn:=p} H) w:=by
 have e:(bX.app {v,n,pn:=p} H)=H:=by funext b;rfl
 have hd: ∀b,D b->Dn D n n b:=fun b h=> .inl h;rw [e];exact dR.mk' hH rfl rfl hd (dh.refl D φ).at_ ⟨fun b k hb=>⟨hd b (hH.at_ b k hb).1,(hH.at_ b k hb).2.mono hd (dh.refl _ _) (hH.at_ b k hb).1 rfl⟩,hH.sep⟩ (FO.refl _ _ _) fun b k hb hk=> .inr ⟨b,k,hb,hk,rfl⟩
theorem HM {c:Call}:step (db P (.defer c)) e h n=none:=by
 simp only [db];split
 ·rename_i f hf;cases hq:((cO f).bind fun f=>(vr c.args.toList).map fun l=>jJ.w9 f l) with
  |none=>rfl
  |some y=>
   simp only [af,bc] at hq;obtain ⟨_,_,_,_,rfl⟩:=hq;rfl
 ·rfl
theorem JY {ro:Option Nat} {o:Oper} {a:Act} {next:Act->World->Prop} {Q:Exit->Act->World->Prop} (hcx:Sound P cx) (hs:cA cx (db P o.op) e h n=some (true,E)) (hn: ∀b,n<=b->b<E.n-> ¬D b)
 (hk:OKs D φ e h a.eval o.op) (hH:HR D φ (only (ab h) E.rd) w)
 (hnext: ∀φ' u w',n<=E.n->aI (Dn D n E.n) φ' E.v u->dR D φ (only (ab h) E.rd) w (Dn D n E.n) φ' (E.app (only (ab h) E.rd)) w'→
   (∀b k,E.app (only (ab h) E.rd) b=some k->k.ro=true->only (ab h) E.rd b=some k)->(∀b r,dH E.md b=some r->inl E.rd b=true)->(∀b k,ab E.nw b=some k->n<=b/\b<E.n)→
   match E.pn with|none=>next (a.put o.dst u) w'|some p=>Q (.panic [{v:=p,recovered:=false}]) a w'):
 o.wpIn (Fw ro) 0 P a w next Q:=by
 have hsem:(∀c,o.op≠ .defer c)->o.semAt (Fw ro).round a.eval=execOp a.eval o:=Oper.semAt_eq _ _ _;have ends: ∀{φ':bU} {u:Value} {w':World} {ex:Ending},ex=GQ E.pn u->(match E.pn with|none=>next (a.put o.dst u) w'|some p=>Q (.panic [{v:=p,recovered:=false}]) a w')→
  (match ex,w' with| .returned v,w''=>next (a.put o.dst v) w''| .panicked chain,w''=>Q (.panic chain) a w''| .outgrown,_=>LetsOut Q):=fun {φ' u w' ex} hx hn=>by
  cases hp:E.pn with
  |none=>rw [hp] at hx hn;subst hx;exact hn
  |some p=>rw [hp] at hx hn;subst hx;exact hn
 refine ⟨fun _ _=>trivial,?_⟩;have plain:step (db P o.op) e h n=some (true,E)->o.uponIn (Fw ro) 0 P a next Q ((o.semAt (Fw ro).round a.eval).run P w):=fun hs=>by
  rw [hsem (fun c hc=>by rw [hc,HM] at hs;cases hs)]
  have hpn:=Ob _ _ _ hs;obtain ⟨φ',u,nx,w',hr,hnx,hle,hv,hst,hro,hmd,hnw⟩:=vn (P:=P) (ρ:=a.eval) (w:=w) hs rfl (fun hlt=>hn n (bx _) hlt) hk hH;rw [hr];rcases hnx with rfl|⟨rfl,rfl⟩
  ·have:=hnext φ' u w' hle hv hst hro hmd hnw;rw [hpn] at this;exact this
  ·have:=hnext φ' undef w' hle hv hst hro hmd hnw;rw [hpn] at this;exact this
 unfold cA at hs;split at hs
 ·rename_i f args hcall
  -- a call
  simp only [af] at hs;obtain ⟨v,hv,hs⟩:=hs;split at hs
  ·rename_i g caps;simp only [af] at hs;obtain ⟨l,hl,hs⟩:=hs;have hok:=hcx g (l++caps) h n true E hs rfl
   -- the model's call
   cases hop:o.op with
   |call c=>
    rw [hop] at hcall hk;simp only [db] at hcall;obtain ⟨callee,cargs,ctys⟩:=c;cases callee with
    |value fo=>
     simp only at hcall;cases hf:cO fo with
     |none=>simp [hf,bK] at hcall
     |some f'=>
      cases ha:vr cargs.toList with
      |none=>simp [hf,ha,bK] at hcall
      |some l'=>
       simp only [hf,ha,aS,fN,bK,gq,jJ.call.injEq] at hcall;obtain ⟨rfl,rfl⟩:=hcall;simp only [OKs,Op.operands,Call.operands] at hk;have h1:=hk fo (by simp) f' hf _ hv
       obtain ⟨hgy,cs,hcs,hcaps⟩:=h1.wR;have h2:=lq (ρ:=a.eval) ha hl (fun y hy x hx=>hk y (by simp at hy ⊢;exact .inr hy) x hx)
       rw [hsem (fun c hc=>by rw [hop] at hc;cases hc)]
       have hans:=hok.run D φ w (cargs.toList.map a.eval++cs) hn hH (h2.append hcaps);cases hext:ext P g
       ·have hrun:(execOp a.eval o).run P w= .ok (.enter g ((cargs.toList.map a.eval++cs).toArray)) w:=by
         simp only [execOp,hop,resolve,Sem.run_bind,hcs,Deferred.ofValue,Sem.run_pure,Result.andThen_ok,invoke];rw [j4 hgy hok.bJ hext];congr 2;apply lg;simp
        rw [hrun];rw [Oper.uponIn_enter];refine ⟨fun hd=>(by cases hd),?_⟩
        refine qA ?_;refine (hans.calls hgy hext).mono fun ex w' hx=> ?_;obtain ⟨u,φ',hex,hv',hst,hro⟩:=hx;exact ends (φ':=φ') hex (hnext φ' u w' hok.le hv' hst hro hok.md hok.nw)
       ·obtain ⟨u,w',hr1,hr2⟩:=hans.ext hgy hext;have hrun:(execOp a.eval o).run P w= .ok (.value u) w':=by
         simp only [execOp,hop,resolve,Sem.run_bind,hcs,Deferred.ofValue,Sem.run_pure,Result.andThen_ok,invoke];rw [<-hr1];congr 2;apply lg;simp
        rw [hrun];obtain ⟨u',φ',hu',hv',hst,hro⟩:=hr2;have:=hnext φ' u' w' hok.le hv' hst hro hok.md hok.nw;cases hp:E.pn with
        |none=>rw [hp] at hu' this;cases hu';exact this
        |some p=>rw [hp] at hu';cases hu'
    |invoke r m=>simp at hcall
    |builtin b=>
     exfalso;have h0:=eX (P:=P) (o:= .call ⟨.builtin b,cargs,ctys⟩) (fun _ _ _ h=>by simp at h) (fun _ h=>by simp at h)
     simp only [db] at h0;simp only at hcall;rw [hcall] at h0;simp [hJ] at h0
   |panic y=>
    exfalso;rw [hop] at hcall;simp only [db] at hcall;cases hy:cO y<;>simp [hy,bK] at hcall
   |_=>
    exfalso;rw [hop] at hcall;have h0:hJ (db P o.op)=true:=eX (by rw [hop];simp) (by rw [hop];simp)
    rw [hop,hcall] at h0;simp [hJ] at h0
  ·rename_i g fs;simp only [af] at hs;obtain ⟨l,hl,hs⟩:=hs;have hok:=hcx g (fs++l) h n true E hs rfl
   -- the model's call
   cases hop:o.op with
   |call c=>
    rw [hop] at hcall hk;simp only [db] at hcall;obtain ⟨callee,cargs,ctys⟩:=c;cases callee with
    |value fo=>
     simp only at hcall;cases hf:cO fo with
     |none=>simp [hf,bK] at hcall
     |some f'=>
      cases ha:vr cargs.toList with
      |none=>simp [hf,ha,bK] at hcall
      |some l'=>
       simp only [hf,ha,aS,fN,bK,gq,jJ.call.injEq] at hcall;obtain ⟨rfl,rfl⟩:=hcall;simp only [OKs,Op.operands,Call.operands] at hk;have h1:=hk fo (by simp) f' hf _ hv
       obtain ⟨hgy,cs,hcs,hcaps⟩:=h1.aai;have h2:=lq (ρ:=a.eval) ha hl (fun y hy x hx=>hk y (by simp at hy ⊢;exact .inr hy) x hx)
       rw [hsem (fun c hc=>by rw [hop] at hc;cases hc)]
       have hans:=hok.run D φ w (cs++cargs.toList.map a.eval) hn hH (hcaps.append h2);cases hext:ext P g
       ·have hrun:(execOp a.eval o).run P w= .ok (.enter g ((cs++cargs.toList.map a.eval).toArray)) w:=by
         simp only [execOp,hop,resolve,Sem.run_bind,hcs,Deferred.ofValue,Sem.run_pure,Result.andThen_ok,invoke];rw [j4 hgy hok.bJ hext];congr 2;apply lg;simp
        rw [hrun];rw [Oper.uponIn_enter];refine ⟨fun hd=>(by cases hd),?_⟩
        refine qA ?_;refine (hans.calls hgy hext).mono fun ex w' hx=> ?_;obtain ⟨u,φ',hex,hv',hst,hro⟩:=hx;exact ends (φ':=φ') hex (hnext φ' u w' hok.le hv' hst hro hok.md hok.nw)
       ·obtain ⟨u,w',hr1,hr2⟩:=hans.ext hgy hext;have hrun:(execOp a.eval o).run P w= .ok (.value u) w':=by
         simp only [execOp,hop,resolve,Sem.run_bind,hcs,Deferred.ofValue,Sem.run_pure,Result.andThen_ok,invoke];rw [<-hr1];congr 2;apply lg;simp
        rw [hrun];obtain ⟨u',φ',hu',hv',hst,hro⟩:=hr2;have:=hnext φ' u' w' hok.le hv' hst hro hok.md hok.nw;cases hp:E.pn with
        |none=>rw [hp] at hu' this;cases hu';exact this
        |some p=>rw [hp] at hu';cases hu'
    |invoke r m=>simp at hcall
    |builtin b=>
     exfalso;have h0:=eX (P:=P) (o:= .call ⟨.builtin b,cargs,ctys⟩) (fun _ _ _ h=>by simp at h) (fun _ h=>by simp at h)
     simp only [db] at h0;simp only at hcall;rw [hcall] at h0;simp [hJ] at h0
   |panic y=>
    exfalso;rw [hop] at hcall;simp only [db] at hcall;cases hy:cO y<;>simp [hy,bK] at hcall
   |_=>
    exfalso;rw [hop] at hcall;have h0:hJ (db P o.op)=true:=eX (by rw [hop];simp) (by rw [hop];simp)
    rw [hop,hcall] at h0;simp [hJ] at h0
  ·rename_i L r ts cs0;simp only [af] at hs;obtain ⟨l,hl,hs⟩:=hs;have hok:=hcx YB (.yl L r ts cs0::l) h n true E hs rfl
   -- the model's call
   cases hop:o.op with
   |call c=>
    rw [hop] at hcall hk;simp only [db] at hcall;obtain ⟨callee,cargs,ctys⟩:=c;cases callee with
    |value fo=>
     simp only at hcall;cases hf:cO fo with
     |none=>simp [hf,bK] at hcall
     |some f'=>
      cases ha:vr cargs.toList with
      |none=>simp [hf,ha,bK] at hcall
      |some l'=>
       simp only [hf,ha,aS,fN,bK,gq,jJ.call.injEq] at hcall;obtain ⟨rfl,rfl⟩:=hcall;simp only [OKs,Op.operands,Call.operands] at hk;have h1:=hk fo (by simp) f' hf _ hv
       have h2:=lq (ρ:=a.eval) ha hl (fun y hy x hx=>hk y (by simp at hy ⊢;exact .inr hy) x hx)
       rw [hsem (fun c hc=>by rw [hop] at hc;cases hc)]
       generalize hcs:a.eval fo=u0 at h1;have hans:=hok.run D φ w (u0::cargs.toList.map a.eval) hn hH (.cons h1 h2);cases h1;unfold rT at hans;rw [aM rfl] at hans;obtain ⟨L',vs,hus,hy⟩:=hans;have hus':=cS Array.toList hus;simp only [Array.toList_append,ee,List.nil_append,xF,Value.func.injEq,Fn.yield.injEq,nq,dr] at hus';obtain ⟨rfl,hvs⟩:=hus';obtain ⟨fn,tmps,as,bd,g1,g2⟩:=hy;have hrun:(execOp a.eval o).run P w= .ok (.round L fn tmps as bd) w:=by
        simp only [execOp,hop,resolve,Sem.run_bind,hcs,Deferred.ofValue,Sem.run_pure,Result.andThen_ok,invoke];rw [<-g1];congr 2;apply lg;simp [hvs]
       rw [hrun];rw [Oper.uponIn_round];refine ⟨fun hd=>(by cases hd),?_⟩
       have g3:RoundIn (Fw ro) (0-1) P L fn tmps as bd w _:=g2;refine g3.mono fun ex w' hx=> ?_;obtain ⟨u,φ',hex,hv',hst,hro⟩:=hx;exact ends (φ':=φ') hex (hnext φ' u w' hok.le hv' hst hro hok.md hok.nw)
    |invoke r m=>simp at hcall
    |builtin b=>
     exfalso;have h0:=eX (P:=P) (o:= .call ⟨.builtin b,cargs,ctys⟩) (fun _ _ _ h=>by simp at h) (fun _ h=>by simp at h)
     simp only [db] at h0;simp only at hcall;rw [hcall] at h0;simp [hJ] at h0
   |panic y=>
    exfalso;rw [hop] at hcall;simp only [db] at hcall;cases hy:cO y<;>simp [hy,bK] at hcall
   |_=>
    exfalso;rw [hop] at hcall;have h0:hJ (db P o.op)=true:=eX (by rw [hop];simp) (by rw [hop];simp)
    rw [hop,hcall] at h0;simp [hJ] at h0
  ·cases hs
 ·rename_i x hpan;simp only [af] at hs;obtain ⟨v,hv,hs⟩:=hs;split at hs
  ·rename_i t u;simp only [aP,bq,nq] at hs;subst hs;cases hop:o.op with
   |panic y=>
    rw [hop] at hpan hk;simp only [db] at hpan;cases hy:cO y with
    |none=>simp [hy,bK] at hpan
    |some x'=>
     simp only [hy,fN,bK,gq,jJ.MJ.injEq] at hpan;subst hpan;have h1:=hk y (by simp [Op.operands]) x' hy _ hv
     generalize hu:a.eval y=u0 at h1;cases h1;rw [hsem (fun c hc=>by rw [hop] at hc;cases hc)]
     have hrun:(execOp a.eval o).run P w= .halt (.panic (.iface t u)) w:=by
      simp only [execOp,hop,hu,Instr.panic,goPanic];rfl
     rw [hrun,Oper.uponIn_panic];exact hnext φ undef w (bx _) BV (dR.HA hH) (fun b k hb _=>hb) (fun b r hb=>by simp [dH] at hb) (fun b k hb=>by simp [ab] at hb)
   |call c=>
    exfalso;obtain ⟨callee,cargs,ctys⟩:=c;rw [hop] at hpan;cases callee with
    |value f=>
     simp only [db] at hpan;cases hf:cO f with
     |none=>simp [hf,bK] at hpan
     |some f'=>cases hl:vr cargs.toList<;>simp [hf,hl,bK] at hpan
    |invoke r m=>simp [db] at hpan
    |builtin b=>
     have h0:=eX (P:=P) (o:= .call ⟨.builtin b,cargs,ctys⟩) (fun _ _ _ h=>by simp at h) (fun _ h=>by simp at h)
     rw [hpan] at h0;simp [hJ] at h0
   |_=>
    exfalso;rw [hop] at hpan;have h0:hJ (db P o.op)=true:=eX (by rw [hop];simp) (by rw [hop];simp)
    rw [hop,hpan] at h0;simp [hJ] at h0
  ·cases hs
 ·exact plain hs
end
end Go.Ab
namespace Go.Ab
inductive bG where
 |skip
 |cQ (ops:List aj)
 |cG (ops:List (aj×List Nat))
 |seq (a b:bG)
 |cond (c:cC) (a b:bG)
 |block (id:Nat) (c:bG)
 |loop (c:bG)
 |scope (c:bG)
 |oO (g:cC) (ps:List Nat) (a b:bG)
 |exit (id:Nat)
 |ret
 |bad
abbrev ay(x:List aj)(y:bG):bG:=.seq (.cQ x) y
def bp (P:Program) (ops:List Oper) (sp:List Nat) (o:Oper):aj:=
 match o.guard with
 |none=>{dst:=o.dst,op:=db P o.op,guard:=none,spl:=match o.dst with|some d=>inl sp d|none=>false}
 |some (j,b)=>match (ops[j]?).bind (·.dst) with
  |some d=>{dst:=o.dst,op:=db P o.op,guard:=some (d,b),spl:=match o.dst with|some d=>inl sp d|none=>false}
  |none=>{dst:=o.dst,op:= .bad,guard:=none,spl:=false}
def kl (ops:List Oper):List Nat:=ops.filterMap fun o=>match o.guard with
 |some (j,_)=>(ops[j]?).bind (·.dst)
 |none=>none
def ij (d:Option Nat) (v:AV) (e:Env):Env:=
 match d with
 |some t=>(t,v)::e
 |none=>e
def Hb (c:Bool) (a b:Prop):Prop:=(c=true->a)/\(c=false->b)
def gY (s:Bool) (v:AV) (k:AV->Prop):Prop:=
 match s,v with
 |true,.b c=>Hb c (k (.b true)) (k (.b false))
 |_,v=>k v
theorem o9 {s:Bool} {v:AV} {k:AV->Prop} (h:gY s v k):k v:=by
 unfold gY at h;split at h
 ·rename_i c;cases c
  ·exact h.2 rfl
  ·exact h.1 rfl
 ·exact h
def jn (e:Env):Option (Nat×Bool)->Option Bool
 |none=>some true
 |some (t,b)=>match cV e t with
  |some (.b c)=>some (c==b)
  |some (.bg [])=>some false
  |_=>none
def gd {α:Type} (x:Option α) (k:α->Prop):Prop:=
 match x with
 |some a=>k a
 |none=>False
theorem fw {α:Type} {x:Option α} {k:α->Prop} (h:gd x k): ∃a,x=some a/\k a:=by
 cases x with
 |none=>exact h.elim
 |some a=>exact ⟨a,rfl,h⟩
abbrev cF:=Exit->Env->Hp->Nat->Prop
def DY (p:Option Value) (K:cF) (e:Env) (h:Hp) (n:Nat) (k:Prop):Prop:=
 match p with
 |none=>k
 |some u=>K (.panic [{v:=u,recovered:=false}]) e h n
def ic (cx:Cx):List aj->Env->Hp->Nat->cF->Prop
 |[],e,h,n,K=>K .normal e h n
 |o::os,e,h,n,K=>gd (jn e o.guard) fun b=>match b with
  |true=>gd (cA cx o.op e h n) fun r=>r.1=true/\DY r.2.pn K e (r.2.fe h) r.2.n (gY o.spl r.2.v fun v=>ic cx os (ij o.dst v e) (r.2.fe h) r.2.n K)
  |false=>ic cx os (ij o.dst (.bg []) e) h n K
def Mk (m:Nat×List Deferred) (l:List Deferred) (w:World):Prop:=
 ∃ds:List Nat,l=ds.map (fun D=>{target:= .collected D,args:= #[]})++m.2/\ds.Nodup/\ ∀D∈ds,m.1<=D/\w.heap[D]? =some (.deferred (some []))
theorem Mk.nil {m:Nat} {B:List Deferred} {w:World}:Mk (m,B) B w:=⟨[],rfl,List.nodup_nil,fun D h=>by cases h⟩
theorem HR.stays {D:Nat->Prop} {φ:bU} {H:Hf} {w w':World} (hH:HR D φ H w) (eC:FO H φ w w') {c:Nat} {o:Obj} (hc:w.heap[c]? =some o) (ho: ∀(cs:Array Value) (elem:TypeId) (fr:Nat×Nat),o≠ .cells cs elem fr) (hom: ∀(es:Array MapEntry) (clk:Nat),o≠ .map es clk):w'.heap[c]? =some o:=by
 have hlt:c<w.heap.size:=by
  rcases dw c w.heap.size with h'|h'
  ·exact h'
  ·rw [gw h'] at hc;cases hc
 rw [eC.block c hlt (fun b k hb hk he=> ?_)]
 ·exact hc
 ·obtain ⟨⟨cs,elem,fr,h2,_⟩,_⟩:=(hH.at_ b k hb).2;rw [he,hc] at h2;unfold qj at h2;split at h2
  ·cases h2;exact ho _ _ _ rfl
  ·obtain ⟨es,clk,h2,_⟩:=h2;cases h2;exact hom _ _ rfl
theorem Mk.stays {m:Nat×List Deferred} {l:List Deferred} {D:Nat->Prop} {φ:bU} {H:Hf} {w w':World} (h:Mk m l w) (hH:HR D φ H w) (eC:FO H φ w w'):Mk m l w':=
 let ⟨ds,h1,h2,h3⟩:=h;⟨ds,h1,h2,fun D hD=>⟨(h3 D hD).1,hH.stays eC (h3 D hD).2 (fun _ _ _ e=>by cases e) (fun _ _ e=>by cases e)⟩⟩
structure Rel (D:Nat->Prop) (φ:bU) (e:Env) (h:Hp) (n N:Nat) (m:Nat×List Deferred) (a:Act) (w:World):Prop where
 lt: ∀b,D b->b<n
 env: ∀t v,cV e t=some v->aI D φ v (a.tmps.getD t undef)
 heap:HR D φ (ab h) w
 size:a.tmps.size=N
 defers:Mk m a.defers w
def oz (N n0:Nat) (B:List Deferred) (D0:Nat->Prop) (φ0:bU) (H0:Hf) (w0:World) (K:cF) (ex:Exit) (a:Act) (w:World):Prop:=
 ∃D φ e h n,K ex e h n/\n0<=n/\Rel D φ e h n N (w0.heap.size,B) a w/\dR D0 φ0 H0 w0 D φ (ab h) w
def jC:Code->Bool
 | .seq a b=>jC a&&jC b
 | .cond _ a b=>jC a&&jC b
 | .block _ c=>jC c
 | .loop c=>jC c
 | .scope c=>jC c
 | .rangeFunc _ _ _ _=>false
 |_=>true
def WP (P:Program) (N n0:Nat) (c:Code) (K:cF) (e:Env) (h:Hp) (n:Nat):Prop:=
 ∀ro,(ro=none\/jC c=true)-> ∀B D0 φ0 H0 w0,(∀b,D0 b->b<n0)->n0<=n-> ∀D φ a w,Rel D φ e h n N (w0.heap.size,B) a w->dR D0 φ0 H0 w0 D φ (ab h) w→
  c.wpIn (Fw ro) 0 P (fun ex a' w'=>oz N n0 B D0 φ0 H0 w0 K ex a' w') a w
section
variable {P:Program} {D:Nat->Prop} {φ:bU} {w:World} {n N n0:Nat} {e:Env} {h:Hp} {E:bX} {cx:Cx} {a:Act}
theorem tX {h:Hp} {g:Nat} {v:AV} (hv:iC h g=some v): ∃c k,v= .p c 0/\ab h c=some k/\k.gid=some g:=by
 unfold iC at hv;simp only [af] at hv;obtain ⟨u,_,hv⟩:=hv;cases u with
 |p c o=>
  simp only [af] at hv;obtain ⟨k,hk,hv⟩:=hv;cases hg:k.gid with
  |none=>rw [hg] at hv;cases hv
  |some g'=>
   rw [hg] at hv;simp only at hv;cases hb:Nat.beq g' g
   ·rw [hb] at hv;simp at hv
   ·rw [hb] at hv;simp only [cond_true,aP] at hv;have:=dC hb;subst this;exact ⟨c,k,hv.symm,hk,hg⟩
 |_=>cases hv
theorem nZ {D:Nat->Prop} {φ:bU} {e:Env} {h:Hp} {a:Act} {w:World} {y:Operand} {x:cC} {v:AV} (hR: ∀t v,y= .tmp t->cV e t=some v->aI D φ v (a.tmps.getD t undef)) (hc:cO y=some x) (hH:HR D φ (ab h) w) (hv:x.ev e h=some v):aI D φ v (a.eval y):=by
 cases y with
 |tmp t=>
  simp only [cO,aP] at hc;subst hc;exact hR t v rfl hv
 |const u=>
  simp only [cO] at hc;obtain ⟨q,hq,rfl⟩:=bc.1 hc;simp only [cC.ev,aP] at hv;subst hv;exact kZ hq
 |global g=>
  simp only [cO,aP] at hc;subst hc;obtain ⟨c,k,rfl,hk,hg⟩:=tX hv;obtain ⟨hd,hb⟩:=hH.at_ c k hk;obtain ⟨h1,h2⟩:=hb.gid g hg;have:=aI.p (D:=D) (φ:=φ) c 0 hd;rw [h1,h2] at this;exact this
 |func f=>
  simp only [cO] at hc;split at hc
  ·cases hc
  ·rename_i hf;simp only [aP] at hc;subst hc;simp only [cC.ev,aP] at hv;subst hv;exact aI.fn' (fun e=>hf (by rw [e];simp)) .nil
theorem qU {y:Operand} {x:cC} {v:AV} (hR: ∀t v,y= .tmp t->cV e t=some v->aI D φ v (a.tmps.getD t undef)) (hc:cO y=some x) (hg: ∀g,y≠ .global g) (hv:x.ev e h=some v):aI D φ v (a.eval y):=by
 cases y with
 |tmp t=>
  simp only [cO,aP] at hc;subst hc;exact hR t v rfl hv
 |const u=>
  simp only [cO] at hc;obtain ⟨q,hq,rfl⟩:=bc.1 hc;simp only [cC.ev,aP] at hv;subst hv;exact kZ hq
 |global g=>exact absurd rfl (hg g)
 |func f=>
  simp only [cO] at hc;split at hc
  ·cases hc
  ·rename_i hf;simp only [aP] at hc;subst hc;simp only [cC.ev,aP] at hv;subst hv;exact aI.fn' (fun e=>hf (by rw [e];simp)) .nil
theorem Gk {d:Option Nat} {v:AV} {t:Nat} {u:AV} (h:cV (ij d v e) t=some u):(d=some t/\u=v)\/(d≠some t/\cV e t=some u):=by
 cases d with
 |none=>exact .inr ⟨by simp,h⟩
 |some s=>
  simp only [ij,cV] at h;by_cases hs:t=s
  ·subst hs;simp at h;exact .inl ⟨rfl,h.symm⟩
  ·rw [bz hs] at h;exact .inr ⟨by simp;exact fun e=>hs e.symm,h⟩
theorem wI {a:Act} {d:Option Nat} {u:Value} {t:Nat} (hd:d≠some t):(a.put d u).tmps.getD t undef=a.tmps.getD t undef:=by
 cases d with
 |none=>rfl
 |some s=>
  have:s≠t:=fun e=>hd (by rw [e])
  simp [Act.put,lX,Array.getElem?_setIfInBounds_ne this]
theorem p5 {a:Act} {t:Nat} {u:Value} (ht:t<a.tmps.size):(a.put (some t) u).tmps.getD t undef=u:=by
 simp [Act.put,ht]
theorem wq {a:Act} {d:Option Nat} {u:Value}:(a.put d u).tmps.size=a.tmps.size:=by
 cases d<;>simp [Act.put]
theorem put_defers {a:Act} {d:Option Nat} {u:Value}:(a.put d u).defers=a.defers:=by
 cases d<;>rfl
theorem zW:aI D φ (.bg []) undef:=aI.bg [] #[] rfl (fun i a u ha=>by simp at ha)
theorem Rel.put {d:Option Nat} {v:AV} {u:Value} {D':Nat->Prop} {φ':bU} {h':Hp} {n':Nat} {w':World} {m:Nat×List Deferred} (hR:Rel D φ e h n N m a w) (hmk:Mk m a.defers w') (hd: ∀t,d=some t->t<N) (hsub: ∀b,D b->D' b) (hag:dh D φ φ')
 (hlt: ∀b,D' b->b<n') (hv:aI D' φ' v u) (hh:HR D' φ' (ab h') w'):Rel D' φ' (ij d v e) h' n' N m (a.put d u) w':=by
 refine ⟨hlt,fun t x hx=> ?_,hh,by rw [wq];exact hR.size,by rw [put_defers];exact hmk⟩
 rcases Gk hx with ⟨rfl,rfl⟩|⟨hne,hx⟩
 ·rw [p5 (by rw [hR.size];exact hd t rfl)];exact hv
 ·rw [wI hne];exact (hR.env t x hx).mono hsub hag
theorem qk {ops:Array Oper} {o:Oper} {io:aj} {b:Bool} (hR: ∀d c v,io.guard=some (d,c)->cV e d=some v->aI D φ v (a.tmps.getD d undef)) (hio:io.guard=(bp P ops.toList [] o).guard) (hg: ∀j c,o.guard=some (j,c)->((ops.toList[j]?).bind (·.dst)).isSome=true)
 (hw:jn e io.guard=some b):Region.wanted o (yielded ops a.tmps)=b:=by
 have hR':=hR;rw [hio] at hw hR';cases hog:o.guard with
 |none=>simp [bp,hog,jn] at hw;subst hw;simp [Region.wanted,hog]
 |some q=>
  obtain ⟨j,c⟩:=q;obtain ⟨d,hd⟩:=mK.1 (hg j c hog);simp only [bp,hog,hd,jn] at hw;have hR':=fun v=>hR' d c v (by simp only [bp,hog,hd])
  simp only [Region.wanted,hog,yielded];have hd':(ops[j]?).bind (·.dst)=some d:=by rw [<-hd];simp
  rw [hd'];split at hw
  ·rename_i x hx;cases hw;have:=hR' _ hx;generalize hu:a.tmps.getD d undef=u at this;cases this;have hlt:d<a.tmps.size:=by
    rcases dw d a.tmps.size with h'|h'
    ·exact h'
    ·simp [lX,gw h',undef] at hu
   have hg':a.tmps[d]? =some (.bool x):=by
    rw [Fe hlt];simp [Array.getD,hlt] at hu;rw [hu]
   simp [hg']
  ·rename_i hx;cases hw;have:=hR' _ hx;obtain ⟨m,hm,hl⟩:=this.EP;have:=hl.kK;subst this;cases hg':a.tmps[d]? with
   |none=>simp only [aS,hg'];cases c<;>rfl
   |some u=>
    have:u= .tuple #[]:=by
     simp [lX,hg'] at hm;exact hm
    subst this;simp only [aS,hg'];cases c<;>rfl
  ·cases hw
def kL (N:Nat) (ops:List Oper):Bool:=ops.all fun o=>match o.dst with|some d=>decide (d<N)|none=>true
def lh (ops:List Oper):Bool:=ops.all fun o=>match o.guard with
 |some (j,_)=>((ops[j]?).bind (·.dst)).isSome
 |none=>true
def Dz (ops:List Oper):Bool:=ops.all fun o=>o.op.operands.all fun y=>match y with| .global _=>false|_=>true
theorem rQ {ro:Option Nat} {B:List Deferred} (hcx:Sound P cx) {K:cF} {D0:Nat->Prop} {φ0:bU} {H0:Hf} {w0:World} {ops:Array Oper} {sp:List Nat} (hn0: ∀b,D0 b->b<n0) (hgu:lh ops.toList=true):
 ∀(l:List Oper),(∀o∈l,o∈ops.toList)->kL N l=true-> ∀(e:Env) (h:Hp) (n:Nat) (D:Nat->Prop) (φ:bU) (a:Act) (w:World),n0<=n→
  ic cx (l.map (bp P ops.toList sp)) e h n K->Rel D φ e h n N (w0.heap.size,B) a w->dR D0 φ0 H0 w0 D φ (ab h) w→
  wpListIn (Fw ro) 0 P ops (fun ex a' w'=>oz N n0 B D0 φ0 H0 w0 K ex a' w') l a w
 |[],_,_,e,h,n,D,φ,a,w,hn,hrun,hR,hS=>⟨D,φ,e,h,n,hrun,hn,hR,hS⟩
 |o::l,hmem,hdst,e,h,n,D,φ,a,w,hn,hrun,hR,hS=>by
  simp only [jU,ic] at hrun;obtain ⟨b,hb,hrun⟩:=fw hrun;simp only [kL,fL,aw] at hdst;have hog: ∀j c,o.guard=some (j,c)->((ops.toList[j]?).bind (·.dst)).isSome=true:=fun j c hg=>by
   have:=er.1 hgu o (hmem o (ja));simpa [hg] using this
  have hgeq:(bp P ops.toList sp o).guard=(bp P ops.toList [] o).guard:=by
   unfold bp;split
   ·rfl
   ·split<;>rfl
  have hdeq:(bp P ops.toList sp o).dst=o.dst:=by
   unfold bp;split
   ·rfl
   ·split<;>rfl
  have hopeq:(bp P ops.toList sp o).op=db P o.op:=by
   unfold bp;split
   ·rfl
   ·rename_i j c hg;obtain ⟨d,hd⟩:=mK.1 (hog j c hg);rw [hd]
  have hdN: ∀t,o.dst=some t->t<N:=fun t ht=>by
   have:=hdst.1;rw [ht] at this;exact bO this
  have hw:=qk (P:=P) (o:=o) (D:=D) (φ:=φ) (a:=a) (fun d c v _ hv=>hR.env d v hv) hgeq hog hb;have ih:=fun e h n D φ a w=>rQ (ro:=ro) (B:=B) hcx (K:=K) (sp:=sp) (D0:=D0) (φ0:=φ0) (H0:=H0) (w0:=w0) hn0 hgu l (fun o ho=>hmem o (iZ _ ho)) hdst.2 e h n D φ a w;unfold wpListIn;rw [hw];cases b
  ·simp only [cY,bV];simp only at hrun;rw [hdeq] at hrun;exact ⟨fun _ _=>trivial,ih _ h n D φ _ w hn hrun (hR.put hR.defers hdN (fun _ h=>h) (dh.refl _ _) hR.lt zW hR.heap) hS⟩
  ·simp only [cu];simp only at hrun;obtain ⟨r,hr,hrun⟩:=fw hrun;obtain ⟨c,E⟩:=r;obtain ⟨hc,hrun⟩:=hrun;simp only at hc hrun;subst hc;rw [hopeq] at hr;rw [hdeq] at hrun;have hfresh: ∀b,n<=b->b<E.n-> ¬D b:=fun b hb _ hD=>by have:=hR.lt b hD;omega
   have hH0:HR D φ (only (ab h) E.rd) w:=hR.heap.sub (fun b k hb=>by
    unfold only at hb;cases hi:inl E.rd b<;>simp [hi] at hb;exact hb)
   refine JY hcx hr hfresh (fun y hy x hx v hv=>nZ (fun t v _ hv=>hR.env t v hv) hx hR.heap hv) hH0 (fun φ' u w' hle hv hst hro hmd hnw=> ?_)
   ·have hfull:=nb hR.heap (fun b k hb=>by unfold only at hb;cases hi:inl E.rd b<;>simp [hi] at hb;exact hb) hmd hst hro (fun _ _ _ _ _=> .inr trivial)
    rw [<-oC] at hfull;have hlt: ∀b,Dn D n E.n b->b<E.n:=fun b hb=>hb.elim (fun h=>by have:=hR.lt b h;omega) (fun h=>h.2)
    unfold DY at hrun;cases hp:E.pn with
    |none=>
     rw [hp] at hrun;exact ih _ _ _ _ φ' _ w' (by omega) (o9 hrun) (hR.put (hR.defers.stays hR.heap hfull.eC) hdN hfull.sub hfull.agree hlt hv hfull.hr) (hS.trans hfull)
    |some p=>
     rw [hp] at hrun;exact ⟨_,φ',e,_,_,hrun,by omega,⟨hlt,fun t v hv=>(hR.env t v hv).mono hfull.sub hfull.agree,hfull.hr,hR.size,hR.defers.stays hR.heap hfull.eC⟩,hS.trans hfull⟩
end
end Go.Ab
namespace Go.Ab
def G6:List (Nat×Option aW)->List Nat->Bool
 |[],_=>true
 |(b,_)::r,rd=> !(inl rd b)&&G6 r rd
def Ps:List (Nat×aW)->List Nat->Bool
 |[],_=>true
 |(b,_)::r,rd=> !(inl rd b)&&Ps r rd
def jm (E Ej:bX):Bool:=G6 Ej.md E.rd&&G6 E.md Ej.rd&&Ps Ej.nw E.rd
def pQ (un:List Nat) (E:bX):List (Nat×bX)->Bool
 |[]=>true
 |(j,Ej)::r=>(!(inl un j)||jm E Ej)&&pQ un E r
def zo:List (Nat×Option aW)->List Nat->Bool
 |[],_=>true
 |(b,_)::r,rd=>inl rd b&&zo r rd
def BO (n m:Nat):List (Nat×aW)->Bool
 |[]=>true
 |(b,_)::r=>decide (n<=b)&&decide (b<m)&&BO n m r
def AW (h:Hp):List (Nat×Option aW)->Bool
 |[]=>true
 |(b,_)::r=>(ab h b).isSome&&AW h r
def nV (h:Hp) (n:Nat) (E:bX):Bool:=decide (n<=E.n)&&zo E.md E.rd&&BO n E.n E.nw&&AW h E.md
def l0 (i:Nat) (E:bX) (done:List (Nat×bX)):List (Nat×bX):=
 match E.rd,E.md,E.nw with
 |[],[],[]=>done
 |_,_,_=>(i,E)::done
def FG (p:Option Value) (un:List Nat) (os:List (aj×List Nat)) (K:cF) (e:Env) (h:Hp) (n:Nat) (k:Prop):Prop:=
 match p with
 |none=>k
 |some u=>(un=[]/\os=[])/\K (.panic [{v:=u,recovered:=false}]) e h n
def pH (cx:Cx):List (aj×List Nat)->Nat->List (Nat×bX)->Env->Hp->Nat->cF->Prop
 |[],_,_,e,h,n,K=>K .normal e h n
 |(o,un)::os,i,done,e,h,n,K=>gd (jn e o.guard) fun b=>match b with
  |true=>gd (cA cx o.op e h n) fun r=>(r.1&&nV h n r.2&&pQ un r.2 done)=true/\FG r.2.pn un os K e (r.2.fe h) r.2.n (gY o.spl r.2.v fun v=>pH cx os (i+1) (l0 i r.2 done) (ij o.dst v e) (r.2.fe h) r.2.n K)
  |false=>pH cx os (i+1) done (ij o.dst (.bg []) e) h n K
def Cp (ops:Array Oper):List (List Nat):=
 (List.range ops.size).map fun i=>(List.range i).filter fun j=> !((Region.before ops).getD i 0).testBit j
def rk (ops:List Oper) (o:Oper):List Nat:=
 (o.op.operands.toList.filterMap fun y=>match y with| .tmp t=>some t|_=>none)++
 (match o.guard with
  |some (j,_)=>((ops[j]?).bind (·.dst)).toList
  |none=>[])
def UX (ops:Array Oper):Bool:=
 (List.range ops.size).all fun i=>(List.range ops.size).all fun j=>
  match ops[i]?,ops[j]? with
  |some oi,some oj=>match oj.dst with
   |some t=>(i==j||oi.dst !=some t)&&(!((rk ops.toList oi).contains t)||(decide (j<i)&&((Region.before ops).getD i 0).testBit j)||(decide (i<j)&&((Region.before ops).getD j 0).testBit i))
   |none=>true
  |_,_=>true
def PS (ops:Array Oper):Bool:=
 (List.range ops.size).all fun i=>match ops[i]? with
  |some o=>o.after.all fun e=> !Region.binds .any e||decide (e.on<i)
  |none=>true
def y8 (ops:Array Oper):Bool:=UX ops&&PS ops
/-! ### the run as a row of states -/
abbrev St:=Env×Hp×Nat
def Hu (cx:Cx) (io:aj) (un:List Nat) (s s':St) (t:Option bX) (before:Nat->bX->Prop):Prop:=
 (t=none/\jn s.1 io.guard=some false/\s'=(ij io.dst (.bg []) s.1,s.2.1,s.2.2))∨
 ∃E,t=some E/\jn s.1 io.guard=some true/\cA cx io.op s.1 s.2.1 s.2.2=some (true,E)/\nV s.2.1 s.2.2 E=true/\s'=(ij io.dst E.v s.1,E.fe s.2.1,E.n)∧
  ∀j Ej,before j Ej->inl un j=true->jm E Ej=true
theorem vA {un:List Nat} {E:bX}: ∀{done:List (Nat×bX)},pQ un E done=true-> ∀j Ej,(j,Ej)∈done->inl un j=true->jm E Ej=true
 |[],_,j,Ej,hm,_=>by cases hm
 |(i,Ei)::r,h,j,Ej,hm,hu=>by
  simp only [pQ,aw,iS,iH] at h;rcases jD.1 hm with heq|hm
  ·cases heq;rcases h.1 with h1|h1
   ·rw [hu] at h1;cases h1
   ·exact h1
  ·exact vA h.2 j Ej hm hu
theorem EM: ∀(l:List (Nat×Option aW)),G6 l []=true
 |[]=>rfl
 |(b,_)::r=>by simp [G6,inl,EM r]
theorem wK {i j:Nat} {E Ej:bX} {done:List (Nat×bX)} (h:(j=i/\Ej=E)\/(j,Ej)∈done):(j,Ej)∈l0 i E done\/ ∀E',jm E' Ej=true:=by
 unfold l0;split
 ·rename_i h1 h2 h3;rcases h with ⟨rfl,rfl⟩|h
  ·right;intro E';simp [jm,h1,h2,h3,G6,Ps,EM]
  ·exact .inl h
 ·rcases h with ⟨rfl,rfl⟩|h
  ·exact .inl (ja)
  ·exact .inl (iZ _ h)
def Kh (K:cF) (S:Nat->St) (T:Nat->Option bX) (l:List (aj×List Nat)):Prop:=
 ((∀i E,i<l.length->T i=some E->E.pn=none)/\K .normal (S l.length).1 (S l.length).2.1 (S l.length).2.2)∨
 ∃i E io,l[i]? =some (io,[])/\i+1=l.length/\T i=some E/\(∀j,j<i-> ∀E,T j=some E->E.pn=none)/\ ∃u,E.pn=some u/\K (.panic [{v:=u,recovered:=false}]) (S i).1 (E.fe (S i).2.1) E.n
theorem Kh.shift {K:cF} {S S':Nat->St} {T T':Nat->Option bX} {l:List (aj×List Nat)} {x:aj×List Nat} (h:Kh K S T l) (hS:(fun i=>S' (i+1))=S) (hT:(fun i=>T' (i+1))=T) (hz:True=True) (h0: ∀E,T' 0=some E->E.pn=none):Kh K S' T' (x::l):=by
 subst hS;subst hT;rcases h with ⟨h1,h2⟩|⟨i,E,io,h1,h2,h3,h4,h5⟩
 ·refine .inl ⟨fun i E hi hE=> ?_,h2⟩;cases i with
  |zero=>exact h0 E hE
  |succ i=>exact h1 i E (by simpa using hi) hE
 ·refine .inr ⟨i+1,E,io,by simpa using h1,by simp [h2],h3,fun j hj E' hE'=> ?_,h5⟩
  cases j with
  |zero=>exact h0 E' hE'
  |succ j=>exact h4 j (by omega) E' hE'
theorem qC {cx:Cx}: ∀(l:List (aj×List Nat)) (k:Nat) (done:List (Nat×bX)) (e:Env) (h:Hp) (n:Nat) (K:cF) (B:Nat->bX->Prop),
 (∀j Ej,B j Ej->(j,Ej)∈done\/ ∀E',jm E' Ej=true)->pH cx l k done e h n K→
 ∃(S:Nat->St) (T:Nat->Option bX),S 0=(e,h,n)/\Kh K S T l∧
  ∀i io un,l[i]? =some (io,un)->Hu cx io un (S i) (S (i+1)) (T i) (fun j Ej=>B j Ej\/ ∃m,m<i/\j=k+m/\T m=some Ej)
 |[],k,done,e,h,n,K,B,hB,hr=>⟨fun _=>(e,h,n),fun _=>none,rfl,.inl ⟨fun i E hi _=>by simp at hi,hr⟩,fun i io un hi=>by simp at hi⟩
 |(o,un)::os,k,done,e,h,n,K,B,hB,hr=>by
  simp only [pH] at hr;obtain ⟨b,hb,hr⟩:=fw hr;cases b
  ·simp only at hr;obtain ⟨S,T,h0,hK,hst⟩:=qC os (k+1) done _ h n K B hB hr;refine ⟨fun i=>match i with|0=>(e,h,n)|i+1=>S i,fun i=>match i with|0=>none|i+1=>T i,rfl,hK.shift rfl rfl rfl (fun E h=>by cases h),fun i io un' hi=> ?_⟩
   cases i with
   |zero=>
    simp at hi;obtain ⟨rfl,rfl⟩:=hi;exact .inl ⟨rfl,hb,h0⟩
   |succ i=>
    have:=hst i io un' (by simpa using hi)
    rcases this with ⟨h1,h2,h3⟩|⟨E,h1,h2,h3,h4,h5,h6⟩
    ·exact .inl ⟨h1,h2,h3⟩
    ·refine .inr ⟨E,h1,h2,h3,h4,h5,fun j Ej hj hu=>h6 j Ej ?_ hu⟩;rcases hj with hj|⟨m,hm,rfl,hT⟩
     ·exact .inl hj
     ·cases m with
      |zero=>simp at hT
      |succ m=>exact .inr ⟨m,by omega,by omega,hT⟩
  ·simp only at hr;obtain ⟨r,hr1,hr⟩:=fw hr;obtain ⟨c,E⟩:=r;obtain ⟨hc,hr⟩:=hr;simp only [aw] at hc;obtain ⟨⟨hc1,hc2⟩,hc3⟩:=hc;subst hc1;simp only at hr;cases hp:E.pn with
   |some u=>
    have hq:(un=[]/\os=[])/\K (.panic [{v:=u,recovered:=false}]) e (E.fe h) E.n:=by rw [hp] at hr;exact hr
    obtain ⟨⟨rfl,rfl⟩,hq⟩:=hq;refine ⟨fun i=>match i with|0=>(e,h,n)|i+1=>(ij o.dst E.v e,E.fe h,E.n),fun i=>match i with|0=>some E|i+1=>none,rfl,.inr ⟨0,E,o,rfl,rfl,rfl,fun j hj=>by omega,u,hp,hq⟩,fun i io un' hi=> ?_⟩
    cases i with
    |zero=>
     simp at hi;obtain ⟨rfl,rfl⟩:=hi;exact .inr ⟨E,rfl,hb,hr1,hc2,rfl,fun j Ej hj hu=>by simp [inl] at hu⟩
    |succ i=>simp at hi
   |none=>
   have hr:=o9 (s:=o.spl) (v:=E.v) (k:=fun v=>pH cx os (k+1) (l0 k E done) (ij o.dst v e) (E.fe h) E.n K) (by rw [hp] at hr;exact hr)
   obtain ⟨S,T,h0,hK,hst⟩:=qC os (k+1) (l0 k E done) _ _ _ K (fun j Ej=>B j Ej\/(j=k/\Ej=E)) (fun j Ej hj=>by
    rcases hj with hj|hj
    ·rcases hB j Ej hj with h1|h1
     ·exact wK (.inr h1)
     ·exact .inr h1
    ·exact wK (.inl hj)) hr
   refine ⟨fun i=>match i with|0=>(e,h,n)|i+1=>S i,fun i=>match i with|0=>some E|i+1=>T i,rfl,hK.shift rfl rfl rfl (fun E' h=>by cases h;exact hp),fun i io un' hi=> ?_⟩
   cases i with
   |zero=>
    simp at hi;obtain ⟨rfl,rfl⟩:=hi;refine .inr ⟨E,rfl,hb,hr1,hc2,h0,fun j Ej hj hu=> ?_⟩;rcases hj with hj|⟨m,hm,_⟩
    ·rcases hB j Ej hj with h1|h1
     ·exact vA hc3 j Ej h1 hu
     ·exact h1 E
    ·omega
   |succ i=>
    have:=hst i io un' (by simpa using hi)
    rcases this with ⟨h1,h2,h3⟩|⟨E',h1,h2,h3,h4,h5,h6⟩
    ·exact .inl ⟨h1,h2,h3⟩
    ·refine .inr ⟨E',h1,h2,h3,h4,h5,fun j Ej hj hu=>h6 j Ej ?_ hu⟩;rcases hj with hj|⟨m,hm,rfl,hT⟩
     ·exact .inl (.inl hj)
     ·cases m with
      |zero=>simp at hT;exact .inl (.inr ⟨by omega,hT.symm⟩)
      |succ m=>exact .inr ⟨m,by omega,by omega,hT⟩
/-! ### before -/
theorem tY (l:List Oper) (acc:Array Nat):(l.foldl (fun acc o=>acc.push (o.after.foldl (fun s e=>if Region.binds .any e then s ||| 2^e.on ||| acc.getD e.on 0 else s) 0)) acc).size=acc.size+l.length∧
 ∀i,i<acc.size->(l.foldl (fun acc o=>acc.push (o.after.foldl (fun s e=>if Region.binds .any e then s ||| 2^e.on ||| acc.getD e.on 0 else s) 0)) acc)[i]? =acc[i]? :=by
 induction l generalizing acc with
 |nil=>exact ⟨by simp,fun i _=>rfl⟩
 |cons o l ih=>
  simp only [xO];obtain ⟨h1,h2⟩:=ih (acc.push (o.after.foldl (fun s e=>if Region.binds .any e then s ||| 2^e.on ||| acc.getD e.on 0 else s) 0))
  refine ⟨by rw [h1];simp;omega,fun i hi=> ?_⟩
  rw [h2 i (by simp;omega)]
  exact Array.gI hi
where
 Array.gI {l:Array Nat} {o:Nat} {c:Nat} (h:c<l.size):(l.push o)[c]? =l[c]? :=by
  rw [AG];rw [aN (by omega)]
theorem L9 (f:Edge->Nat) (l:List Edge) (s j:Nat):(l.foldl (fun s e=>if Region.binds .any e then s ||| 2^e.on ||| f e else s) s).testBit j=true→
 s.testBit j=true\/ ∃e∈l,Region.binds .any e=true/\(e.on=j\/(f e).testBit j=true):=by
 induction l generalizing s with
 |nil=>intro h;exact .inl h
 |cons e l ih=>
  intro h;simp only [xO] at h;rcases ih _ h with h1|⟨e',h1,h2,h3⟩
  ·by_cases hb:Region.binds .any e=true
   ·rw [aM hb] at h1;simp only [Nat.testBit_or,iS] at h1;rcases h1 with (h1|h1)|h1
    ·exact .inl h1
    ·right;refine ⟨e,ja,hb,.inl ?_⟩;rw [Nat.testBit_two_pow] at h1;exact bO h1
    ·exact .inr ⟨e,ja,hb,.inr h1⟩
   ·rw [aN hb] at h1;exact .inl h1
  ·exact .inr ⟨e',iZ _ h1,h2,h3⟩
theorem Bw {ops:Array Oper} {i j:Nat} {o:Oper} (ho:ops[i]? =some o) (h:((Region.before ops).getD i 0).testBit j=true):
 ∃e∈o.after.toList,Region.binds .any e=true/\(e.on=j\/(e.on<i/\((Region.before ops).getD e.on 0).testBit j=true)):=by
 have hlt:i<ops.size:=(gU.1 ho).1;have hsplit:ops.toList=ops.toList.take i++o::ops.toList.drop (i+1):=by
  have:ops.toList[i]? =some o:=by simpa using ho
  obtain ⟨hl,hx⟩:=eK.1 this;rw [<-hx,zt,kQ]
 have hb:Region.before ops=ops.toList.foldl (fun acc o=>acc.push (o.after.foldl (fun s e=>if Region.binds .any e then s ||| 2^e.on ||| acc.getD e.on 0 else s) 0)) #[]:=by
  unfold Region.before;rw [Array.foldl_toList]
 rw [hsplit,List.foldl_append,xO] at hb;have hA:=tY (ops.toList.take i) #[];generalize hacc:(ops.toList.take i).foldl (fun acc o=>acc.push (o.after.foldl (fun s e=>if Region.binds .any e then s ||| 2^e.on ||| acc.getD e.on 0 else s) 0)) #[]=acc at hb hA
 have hsz:acc.size=i:=by rw [hA.1];simp;omega
 have hB:=tY (ops.toList.drop (i+1)) (acc.push (o.after.foldl (fun s e=>if Region.binds .any e then s ||| 2^e.on ||| acc.getD e.on 0 else s) 0))
 rw [<-hb] at hB;have hi:(Region.before ops).getD i 0=o.after.foldl (fun s e=>if Region.binds .any e then s ||| 2^e.on ||| acc.getD e.on 0 else s) 0:=by
  rw [lX,hB.2 i (by simp;omega)]
  rw [AG,aM hsz.symm];rfl
 have hold: ∀m,m<i->acc.getD m 0=(Region.before ops).getD m 0:=fun m hm=>by
  rw [lX,lX,hB.2 m (by simp;omega),AG,aN (by omega)]
 rw [hi,<-Array.foldl_toList] at h;rcases L9 (fun e=>acc.getD e.on 0) o.after.toList 0 j h with h1|⟨e,h1,h2,h3⟩
 ·simp at h1
 ·refine ⟨e,h1,h2,?_⟩;rcases h3 with h3|h3
  ·exact .inl h3
  ·by_cases hlt':e.on<i
   ·right;exact ⟨hlt',by rw [<-hold _ hlt'];exact h3⟩
   ·simp [lX,gw (show acc.size<=e.on by omega)] at h3
def Cl (ops:Array Oper) (listed:Array Bool):Prop:= ∀j o,listed.getD j false=true->ops[j]? =some o-> ∀e∈o.after.toList,Region.binds .any e=true->listed.getD e.on false=true
theorem p4 {ops:Array Oper} {listed:Array Bool} (hcl:Cl ops listed) (hsz:listed.size=ops.size): ∀(i:Nat) (o:Oper),ops[i]? =some o->(∀e∈o.after.toList,Region.binds .any e=true->listed.getD e.on false=true)→
 ∀j,((Region.before ops).getD i 0).testBit j=true->listed.getD j false=true:=by
 intro i;induction i using Nat.strongRecOn with
 |_ i ih=>
  intro o ho hpre j hj;obtain ⟨e,he,hb,h3⟩:=Bw ho hj;have hl:=hpre e he hb;rcases h3 with h3|⟨hlt,h3⟩
  ·rw [<-h3];exact hl
  ·have hlt':e.on<ops.size:=by have:=(gU.1 ho).1;omega
   exact ih e.on hlt ops[e.on] (by simp [hlt']) (hcl e.on _ hl (by simp [hlt'])) j h3
end Go.Ab
namespace Go.Ab
theorem vG: ∀{l:List (Nat×Option aW)} {rd:List Nat},G6 l rd=true-> ∀b r,dH l b=some r->inl rd b=false
 |[],_,_,b,r,h=>by simp [dH] at h
 |(c,k)::l,rd,hd,b,r,h=>by
  simp only [G6,aw,iH] at hd;simp only [dH] at h;by_cases hc:Nat.beq c b=true
  ·have:=dC hc;subst this;exact hd.1
  ·rw [ju] at hc;rw [hc] at h;exact vG hd.2 b r h
theorem wy: ∀{l:List (Nat×aW)} {rd:List Nat},Ps l rd=true-> ∀b r,ab l b=some r->inl rd b=false
 |[],_,_,b,r,h=>by simp [ab] at h
 |(c,k)::l,rd,hd,b,r,h=>by
  simp only [Ps,aw,iH] at hd;simp only [ab] at h;by_cases hc:Nat.beq c b=true
  ·have:=dC hc;subst this;exact hd.1
  ·rw [ju] at hc;rw [hc] at h;exact wy hd.2 b r h
theorem yL: ∀{l:List (Nat×Option aW)} {rd:List Nat},zo l rd=true-> ∀b r,dH l b=some r->inl rd b=true
 |[],_,_,b,r,h=>by simp [dH] at h
 |(c,k)::l,rd,hd,b,r,h=>by
  simp only [zo,aw] at hd;simp only [dH] at h;by_cases hc:Nat.beq c b=true
  ·have:=dC hc;subst this;exact hd.1
  ·rw [ju] at hc;rw [hc] at h;exact yL hd.2 b r h
theorem yy: ∀{l:List (Nat×aW)} {n m:Nat},BO n m l=true-> ∀b r,ab l b=some r->n<=b/\b<m
 |[],_,_,_,b,r,h=>by simp [ab] at h
 |(c,k)::l,n,m,hd,b,r,h=>by
  simp only [BO,aw,aV] at hd;simp only [ab] at h;by_cases hc:Nat.beq c b=true
  ·have:=dC hc;subst this;exact hd.1
  ·rw [ju] at hc;rw [hc] at h;exact yy hd.2 b r h
def zx (E:bX) (b:Nat):Option (Option aW):=
 match dH E.md b with
 |some r=>some r
 |none=>(ab E.nw b).map some
theorem zV (E:bX) (H:Hf) (b:Nat):E.app H b=(zx E b).getD (H b):=by
 unfold bX.app zx;cases dH E.md b with
 |some r=>rfl
 |none=>cases ab E.nw b<;>rfl
def HS (H0:Hf) (T:Nat->Option bX) (p:Nat->Bool):Nat->Hf
 |0=>H0
 |m+1=>fun b=>match p m,T m with
  |true,some E=>(zx E b).getD (HS H0 T p m b)
  |_,_=>HS H0 T p m b
section
variable {P:Program} {N n0:Nat} {cx:Cx}
theorem sU (H0:Hf) (T:Nat->Option bX) (p q:Nat->Bool) (b:Nat): ∀m,(∀j E r,j<m->T j=some E->zx E b=some r->p j=q j)->HS H0 T p m b=HS H0 T q m b
 |0,_=>rfl
 |m+1,h=>by
  have ih:=sU H0 T p q b m (fun j E r hj=>h j E r (by omega))
  simp only [HS];cases hT:T m with
  |none=>cases p m<;>cases q m<;>exact ih
  |some E=>
   cases hu:zx E b with
   |none=>cases p m<;>cases q m<;>simp [hu,ih]
   |some r=>
    have:=h m E r (by omega) hT hu
    rw [this];cases q m<;>simp [hu,ih]
theorem uX (H0:Hf) (T:Nat->Option bX) (p:Nat->Bool) (b i:Nat): ∀m,i<=m->(∀j E r,i<=j->j<m->p j=true->T j=some E->zx E b=some r->False)->HS H0 T p m b=HS H0 T p i b
 |0,hi,_=>by have:i=0:=by omega
             subst this;rfl
 |m+1,hi,h=>by
  by_cases him:i=m+1
  ·subst him;rfl
  ·have ih:=uX H0 T p b i m (by omega) (fun j E r h1 h2=>h j E r h1 (by omega))
   simp only [HS];split
   ·rename_i E hp hT;cases hu:zx E b with
    |none=>simpa using ih
    |some r=>exact (h m E r (by omega) (by omega) hp hT hu).elim
   ·exact ih
set_option maxHeartbeats 1000000 in
theorem tT {B:List Deferred} {ro:Option Nat} (hcx:Sound P cx) (hm:P.follows .mixedOrders=true) {K:cF} {D0:Nat->Prop} {φ0:bU} {H0:Hf} {w0:World} {ops:Array Oper} {sp:List Nat} {id:Nat} (hn0: ∀b,D0 b->b<n0)
 (hgu:lh ops.toList=true) (hdst:kL N ops.toList=true) (hgl:Dz ops.toList=true) (hdr:y8 ops=true)
 {e:Env} {h:Hp} {n:Nat} {D:Nat->Prop} {φ:bU} {a:Act} {w:World} (hn:n0<=n)
 (hrun:pH cx (List.zip (ops.toList.map (bp P ops.toList sp)) (Cp ops)) 0 [] e h n K) (hR:Rel D φ e h n N (w0.heap.size,B) a w) (hS:dR D0 φ0 H0 w0 D φ (ab h) w):
 (Code.region id ops true).wpIn (Fw ro) 0 P (fun ex a' w'=>oz N n0 B D0 φ0 H0 w0 K ex a' w'/\a'.defers=a.defers) a w:=by
 obtain ⟨S,T,hS0,hK,hst⟩:=qC _ 0 [] e h n _ (fun _ _=>False) (fun _ _ h=>h.elim) hrun;have hlen:(List.zip (ops.toList.map (bp P ops.toList sp)) (Cp ops)).length=ops.size:=by simp [Cp]
 unfold Kh at hK;rw [hlen] at hK
 -- static facts
 simp only [y8,aw] at hdr;obtain ⟨htm,hed⟩:=hdr;have hgeq: ∀o,(bp P ops.toList sp o).guard=(bp P ops.toList [] o).guard:=fun o=>by
  unfold bp;split
  ·rfl
  ·split<;>rfl
 have hdeq: ∀o,(bp P ops.toList sp o).dst=o.dst:=fun o=>by
  unfold bp;split
  ·rfl
  ·split<;>rfl
 have hog: ∀o∈ops.toList,∀j c,o.guard=some (j,c)->((ops.toList[j]?).bind (·.dst)).isSome=true:=fun o ho j c hg=>by
  have:=er.1 hgu o ho;simpa [hg] using this
 have hopeq: ∀o∈ops.toList,(bp P ops.toList sp o).op=db P o.op:=fun o ho=>by
  unfold bp;split
  ·rfl
  ·rename_i j c hg;obtain ⟨d,hd⟩:=mK.1 (hog o ho j c hg);rw [hd]
 have hdN: ∀o∈ops.toList,∀t,o.dst=some t->t<N:=fun o ho t ht=>by
  have:=er.1 hdst o ho;rw [ht] at this;exact bO this
 have hmem: ∀i o,ops[i]? =some o->o∈ops.toList:=fun i o ho=>by
  exact bR (i:=i) (by simpa using ho)
 have hun: ∀i j,i<ops.size->j<i->((Region.before ops).getD i 0).testBit j=false->inl ((Cp ops).getD i []) j=true:=fun i j hi hj hb=>by
  have:(Cp ops).getD i []=(List.range i).filter fun j=> !((Region.before ops).getD i 0).testBit j:=by
   simp [Cp,oI,hi]
  rw [this];have hin:j∈(List.range i).filter fun j=> !((Region.before ops).getD i 0).testBit j:=by
   rw [List.mem_filter];exact ⟨oh.2 hj,by rw [hb];rfl⟩
  revert hin;generalize (List.range i).filter (fun j=> !((Region.before ops).getD i 0).testBit j)=l;intro hin;induction l with
  |nil=>cases hin
  |cons x l ih=>
   simp only [inl,iS];rcases jD.1 hin with rfl|hin
   ·left;simp
   ·right;exact ih hin
 have hstep: ∀i o,ops[i]? =some o->Hu cx (bp P ops.toList sp o) ((Cp ops).getD i []) (S i) (S (i+1)) (T i) (fun j Ej=>j<i/\T j=some Ej):=fun i o ho=>by
  have hi:i<ops.size:=(gU.1 ho).1;have hz:(List.zip (ops.toList.map (bp P ops.toList sp)) (Cp ops))[i]? =some (bp P ops.toList sp o,(Cp ops).getD i []):=by
   rw [List.getElem?_zip_eq_some];refine ⟨by simp;exact ⟨o,by simpa using ho,rfl⟩,?_⟩
   rw [oI,aY (by simp [Cp];exact hi)];rfl
  rcases hst i _ _ hz with h1|⟨E,h1,h2,h3,h4,h5,h6⟩
  ·exact .inl h1
  ·exact .inr ⟨E,h1,h2,h3,h4,h5,fun j Ej hj hu=>h6 j Ej (.inr ⟨j,hj.1,by omega,hj.2⟩) hu⟩
 have hdd: ∀i j oi oj t,ops[i]? =some oi->ops[j]? =some oj->oj.dst=some t->(i=j\/oi.dst≠some t)/\((rk ops.toList oi).contains t=true->(j<i/\((Region.before ops).getD i 0).testBit j=true)\/(i<j/\((Region.before ops).getD j 0).testBit i=true)):=fun i j oi oj t hi hj ht=>by
  have hli:=(gU.1 hi).1;have hlj:=(gU.1 hj).1;have h1:=er.1 htm i (oh.2 hli);have h2:=er.1 h1 j (oh.2 hlj);simp only [hi,hj,ht,aw,iS,lU,bne_iff_ne,ne_eq,iH,aV] at h2;refine ⟨h2.1,fun hc=> ?_⟩;rcases h2.2 with (h3|h3)|h3
  ·rw [hc] at h3;cases h3
  ·exact .inl h3
  ·exact .inr h3
 -- numbers grow
 have hnle: ∀i,i<ops.size->(S i).2.2<=(S (i+1)).2.2:=fun i hi=>by
  rcases hstep i ops[i] (by simp [hi]) with ⟨_,_,h3⟩|⟨E,_,_,_,h4,h5,_⟩
  ·rw [h3];exact bx _
  ·rw [h5];simp only [nV,aw,aV] at h4;exact h4.1.1.1
 have hnmono: ∀j i,i<=j->j<=ops.size->(S i).2.2<=(S j).2.2:=fun j=>by
  induction j with
  |zero=>intro i hi _;have:i=0:=by omega
         subst this;exact bx _
  |succ j ih=>
   intro i hi hj;by_cases hij:i=j+1
   ·subst hij;exact bx _
   ·exact Cg (ih i (by omega) (by omega)) (hnle j (by omega))
 have hn00:(S 0).2.2=n:=by rw [hS0]
 -- the text's states
 have htext: ∀m,m<=ops.size->ab (S m).2.1=HS (ab h) T (fun _=>true) m:=fun m=>by
  induction m with
  |zero=>intro _;rw [hS0];rfl
  |succ m ih=>
   intro hm;rcases hstep m ops[m] (by simp) with ⟨h1,_,h3⟩|⟨E,h1,_,_,_,h5,_⟩
   ·rw [h3];simp only [HS,h1];rw [<-ih (by omega)]
   ·rw [h5];simp only [HS,h1];rw [oC,ih (by omega)];funext b;exact zV _ _ _
 have heff: ∀i E,i<ops.size->T i=some E->nV (S i).2.1 (S i).2.2 E=true/\(S (i+1)).2.2=E.n:=fun i E hi hT=>by
  rcases hstep i ops[i] (by simp [hi]) with ⟨h1,_,_⟩|⟨E',h1,_,_,h4,h5,_⟩
  ·rw [hT] at h1;cases h1
  ·rw [hT] at h1;cases h1;exact ⟨h4,by rw [h5]⟩
 have hnew: ∀i E b k,i<ops.size->T i=some E->ab E.nw b=some k->(S i).2.2<=b/\b<(S (i+1)).2.2:=fun i E b k hi hT hb=>by
  obtain ⟨h1,h2⟩:=heff i E hi hT;simp only [nV,aw] at h1;rw [h2];exact yy h1.1.2 b k hb
 have hsub: ∀i E b r,i<ops.size->T i=some E->dH E.md b=some r->inl E.rd b=true:=fun i E b r hi hT hb=>by
  obtain ⟨h1,h2⟩:=heff i E hi hT;simp only [nV,aw] at h1;exact yL h1.1.1.2 b r hb
 have hhas: ∀i E b r,i<ops.size->T i=some E->dH E.md b=some r-> ∃k,ab (S i).2.1 b=some k:=fun i E b r hi hT hb=>by
  obtain ⟨h1,h2⟩:=heff i E hi hT;simp only [nV,aw] at h1;have h3:=h1.2;revert h3 hb;generalize E.md=l;intro hb h3;induction l with
  |nil=>simp [dH] at hb
  |cons x l ih=>
   obtain ⟨c,k⟩:=x;simp only [AW,aw] at h3;simp only [dH] at hb;by_cases hc:Nat.beq c b=true
   ·have:=dC hc;subst this;exact mK.1 h3.1
   ·rw [ju] at hc;rw [hc] at hb;exact ih hb h3.2
 -- names in the text's heaps are below the number
 have hbelow: ∀m,m<=ops.size-> ∀b k,ab (S m).2.1 b=some k->b<(S m).2.2:=fun m=>by
  induction m with
  |zero=>intro _ b k hb;rw [hS0] at hb ⊢;exact hR.lt b (hR.heap.at_ b k hb).1
  |succ m ih=>
   intro hm b k hb;rcases hstep m ops[m] (by simp) with ⟨_,_,h3⟩|⟨E,h1,_,_,_,h5,_⟩
   ·rw [h3] at hb ⊢;exact ih (by omega) b k hb
   ·have hle:=hnle m (by omega)
    rw [h5] at hb;rw [oC,zV] at hb;cases hu:zx E b with
    |none=>rw [hu] at hb;exact wO (ih (by omega) b k hb) hle
    |some r=>
     unfold zx at hu;cases hmd:dH E.md b with
     |some r'=>
      obtain ⟨k',hk'⟩:=hhas m E b r' (by omega) h1 hmd
      exact wO (ih (by omega) b k' hk') hle
     |none=>
      rw [hmd] at hu;obtain ⟨k',hk',_⟩:=bc.1 hu;exact (hnew m E b k' (by omega) h1 hk').2
 -- the text's environments
 have henv: ∀m,m<=ops.size-> ∀t,(∀j o,j<m->ops[j]? =some o->o.dst=some t->cV (S m).1 t=some (match T j with|some E=>E.v|none=> .bg []))∧
  ((∀j o,j<m->ops[j]? =some o->o.dst≠some t)->cV (S m).1 t=cV e t):=fun m=>by
  induction m with
  |zero=>intro _ t;exact ⟨fun j o hj=>by omega,fun _=>by rw [hS0]⟩
  |succ m ih=>
   intro hm t;have hmlt:m<ops.size:=by omega
   have hom:ops[m]? =some ops[m]:=by simp [hmlt]
   obtain ⟨v,hv1,hv2⟩: ∃v,(S (m+1)).1=ij (bp P ops.toList sp ops[m]).dst v (S m).1/\v=(match T m with|some E=>E.v|none=> .bg []):=by
    rcases hstep m ops[m] hom with ⟨h1,_,h3⟩|⟨E,h1,_,_,_,h5,_⟩
    ·exact ⟨_,by rw [h3],by rw [h1]⟩
    ·exact ⟨_,by rw [h5],by rw [h1]⟩
   rw [hdeq] at hv1;have hput: ∀t,cV (ij ops[m].dst v (S m).1) t=if ops[m].dst=some t then some v else cV (S m).1 t:=fun t=>by
    cases hd:ops[m].dst with
    |none=>simp [ij]
    |some s=>
     simp only [ij,cV];by_cases hs:t=s
     ·subst hs;simp
     ·rw [bz hs];simp [show ¬s=t from fun e=>hs e.symm]
   rw [hv1,hput];refine ⟨fun j o hj ho hd=> ?_,fun hno=> ?_⟩
   ·by_cases hjm:j=m
    ·subst hjm;rw [hom] at ho;cases ho;rw [aM hd,hv2]
    ·have hne:ops[m].dst≠some t:=((hdd m j _ _ t hom ho hd).1).resolve_left (fun e=>hjm e.symm);rw [aN hne];exact (ih (by omega) t).1 j o (by omega) ho hd
   ·rw [aN (hno m _ (by omega) hom)]
    exact (ih (by omega) t).2 (fun j o hj=>hno j o (by omega))
 -- the invariant
 let pl:Array Bool->Nat->Bool:=fun listed j=>listed.getD j false;let DS:Array Bool->Nat->Prop:=fun listed b=>D b\/ ∃j,j<ops.size/\listed.getD j false=true/\(S j).2.2<=b/\b<(S (j+1)).2.2;let V:Nat->AV:=fun j=>match T j with|some E=>E.v|none=> .bg []
 let Inv:Array Bool->Act->World->Prop:=fun listed a' w'=>listed.size=ops.size/\Cl ops listed/\a'.tmps.size=N/\a'.defers=a.defers/\(∀j E,listed.getD j false=true->T j=some E->E.pn=none)/\ ∃φ',
  (∀j o t,ops[j]? =some o->listed.getD j false=true->o.dst=some t->aI (DS listed) φ' (V j) (a'.tmps.getD t undef))∧
  (∀t v,(∀j o,ops[j]? =some o->listed.getD j false=true->o.dst≠some t)->cV e t=some v->aI (DS listed) φ' v (a'.tmps.getD t undef))∧
  dR D φ (ab h) w (DS listed) φ' (HS (ab h) T (pl listed) ops.size) w'
 have hone: ∀listed a' w' i,Inv listed a' w'->i∈Region.ready .any ops listed->wpOpIn (Fw ro) 0 P ops (fun ex a' w'=>oz N n0 B D0 φ0 H0 w0 K ex a' w'/\a'.defers=a.defers) i (fun a'' w''=>Inv (listed.setIfInBounds i true) a'' w'') a' w':=by
  intro listed a' w' i hI hr;obtain ⟨hsz,hcl,hN,hdef,hpI,φ',hE1,hE2,hStp⟩:=hI;obtain ⟨hun_i,o,ho,hall⟩:=mem_ready.1 hr;have hi:i<ops.size:=(gU.1 ho).1;have hpre: ∀ed∈o.after.toList,Region.binds .any ed=true->listed.getD ed.on false=true:=fun ed hed hb=>hall ed (by simpa using hed) hb
  have hul:listed.getD i false=false:=by
   have:i<listed.size:=by omega
   simp [Array.getD,this] at hun_i ⊢;exact hun_i
  have hanc: ∀j,((Region.before ops).getD i 0).testBit j=true->listed.getD j false=true:=p4 hcl hsz i o ho hpre;have hdesc: ∀j,listed.getD j false=true->((Region.before ops).getD j 0).testBit i=true->False:=fun j hj hb=>by
   have hj':j<ops.size:=by
    rcases dw j listed.size with h'|h'
    ·omega
    ·simp [lX,gw h'] at hj
   have:=p4 hcl hsz j ops[j] (by simp [hj']) (hcl j _ hj (by simp [hj'])) i hb
   rw [hul] at this;cases this
  -- the new row of marks
  have hnl: ∀j,(listed.setIfInBounds i true).getD j false=if j=i then true else listed.getD j false:=fun j=>by
   by_cases hji:j=i
   ·subst hji;simp [show j<listed.size by omega]
   ·rw [getD_set_ne false (qg hji),aN hji]
  have hcl':Cl ops (listed.setIfInBounds i true):=fun j o' hj ho' ed hed hb=>by
   rw [hnl] at hj ⊢;by_cases hji:j=i
   ·subst hji;rw [ho] at ho';cases ho';split
    ·rfl
    ·exact hpre ed hed hb
   ·rw [aN hji] at hj;split
    ·rfl
    ·exact hcl j o' hj ho' ed hed hb
  have hlook: ∀t v,(rk ops.toList o).contains t=true->cV (S i).1 t=some v->aI (DS listed) φ' v (a'.tmps.getD t undef):=fun t v ht hv=>by
   by_cases hex: ∃(j:Nat) (oj:Oper),ops[j]? =some oj/\oj.dst=some t
   ·obtain ⟨j,oj,hoj,hd⟩:=hex;rcases (hdd i j o oj t ho hoj hd).2 ht with ⟨hji,hb⟩|⟨hij,hb⟩
    ·have h1:=(henv i (by omega) t).1 j oj hji hoj hd
     rw [h1] at hv;cases hv;exact hE1 j oj t hoj (hanc j hb) hd
    ·have h1:=(henv i (by omega) t).2 (fun j' o' hj' ho' hd'=>by
      rcases (hdd j' j o' oj t ho' hoj hd).1 with h2|h2
      ·omega
      ·exact h2 hd')
     rw [h1] at hv;refine hE2 t v (fun j' o' ho' hl' hd'=> ?_) hv;rcases (hdd j' j o' oj t ho' hoj hd).1 with h2|h2
     ·subst h2;exact hdesc j' hl' hb
     ·exact h2 hd'
   ·have h1:=(henv i (by omega) t).2 (fun j' o' hj' ho' hd'=>hex ⟨j',o',ho',hd'⟩)
    rw [h1] at hv;exact hE2 t v (fun j' o' ho' hl' hd'=>hex ⟨j',o',ho',hd'⟩) hv
  -- wanted
  have hw: ∀b,jn (S i).1 (bp P ops.toList sp o).guard=some b->Region.wanted o (yielded ops a'.tmps)=b:=fun b hb=>by
   refine qk (P:=P) (o:=o) (D:=DS listed) (φ:=φ') (a:=a') (fun d c v hg hv=>hlook d v ?_ hv) (hgeq o) (hog o (hmem i o ho)) hb;unfold rk;rw [hgeq] at hg;cases hoguard:o.guard with
   |none=>simp [bp,hoguard] at hg
   |some q=>
    obtain ⟨j,c'⟩:=q;obtain ⟨d',hd'⟩:=mK.1 (hog o (hmem i o ho) j c' hoguard);simp only [bp,hoguard,hd',aP,bq] at hg;obtain ⟨rfl,rfl⟩:=hg;simp only [hd'];simp
  have hDSsub: ∀b,DS listed b->DS (listed.setIfInBounds i true) b:=fun b hb=>hb.imp _root_.id (fun ⟨j,h1,h2,h3⟩=>⟨j,h1,by rw [hnl];split<;>simp_all,h3⟩)
  -- the new temporaries
  have hE: ∀(u:Value) (φ2:bU),aI (DS (listed.setIfInBounds i true)) φ2 (V i) u->dh (DS listed) φ' φ2→
   (∀j o' t,ops[j]? =some o'->(listed.setIfInBounds i true).getD j false=true->o'.dst=some t->aI (DS (listed.setIfInBounds i true)) φ2 (V j) ((a'.put o.dst u).tmps.getD t undef))∧
   (∀t v,(∀j o',ops[j]? =some o'->(listed.setIfInBounds i true).getD j false=true->o'.dst≠some t)->cV e t=some v->aI (DS (listed.setIfInBounds i true)) φ2 v ((a'.put o.dst u).tmps.getD t undef)):=fun u φ2 hu hag=>by
   refine ⟨fun j o' t ho' hl hd=> ?_,fun t v hno hv=> ?_⟩
   ·rw [hnl] at hl;by_cases hji:j=i
    ·subst hji;rw [ho] at ho';cases ho';rw [hd,p5 (by rw [hN];exact hdN o (hmem j o ho) t hd)]
     exact hu
    ·rw [aN hji] at hl;have hne:o.dst≠some t:=((hdd i j o o' t ho ho' hd).1).resolve_left (fun e=>hji e.symm);rw [wI hne];exact (hE1 j o' t ho' hl hd).mono hDSsub hag
   ·have hne:o.dst≠some t:=hno i o ho (by rw [hnl];simp)
    rw [wI hne];exact (hE2 t v (fun j o' ho' hl=>hno j o' ho' (by rw [hnl];split<;>simp_all)) hv).mono hDSsub hag
  unfold wpOpIn;rw [ho];simp only;rcases hstep i o ho with ⟨hT,hwi,hSn⟩|⟨E,hT,hwi,hsc,heo,hSn,hpair⟩
  · -- passed over
    rw [hw false hwi];simp only [cY,bV];have hV:V i= .bg []:=by simp [V,hT]
    obtain ⟨g1,g2⟩:=hE undef φ' (by rw [hV];exact zW) (dh.refl _ _)
    refine ⟨fun _ _=>trivial,by simp [hsz],hcl',by rw [wq];exact hN,by rw [put_defers];exact hdef,(fun j Ej hj hTj=>by
     rw [hnl] at hj;by_cases hji:j=i
     ·subst hji;rw [hT] at hTj;cases hTj
     ·rw [aN hji] at hj;exact hpI j Ej hj hTj),φ',g1,g2,?_⟩
    have hHS:HS (ab h) T (pl (listed.setIfInBounds i true)) ops.size=HS (ab h) T (pl listed) ops.size:=by
     funext b;refine sU _ _ _ _ b ops.size (fun j E r hj hTj hu=> ?_);show (listed.setIfInBounds i true).getD j false=listed.getD j false;rw [hnl];split
     ·rename_i hji;subst hji;rw [hT] at hTj;cases hTj
     ·rfl
    rw [hHS];exact ⟨fun b hb=>hDSsub b (hStp.sub b hb),hStp.agree,hStp.hr.grow hDSsub,hStp.eC,hStp.oY,hStp.jO⟩
  · -- carried out
    rw [hw true hwi];simp only [cu];have hni:(S (i+1)).2.2=E.n:=by rw [hSn]
    have hfresh: ∀b,(S i).2.2<=b->b<E.n-> ¬DS listed b:=fun b hb1 hb2 hD=>by
     rcases hD with hD|⟨j,hj,hl,h1,h2⟩
     ·have:=hR.lt b hD;have:=hnmono i 0 (by omega) (by omega)
      omega
     ·by_cases hji:j=i
      ·subst hji;rw [hul] at hl;cases hl
      ·rcases dw j i with h3|h3
       ·have:=hnmono i (j+1) (by omega) (by omega);omega
       ·have:=hnmono j (i+1) (by omega) (by omega);omega
    -- what is looked at is as in the text
    have hpairs: ∀j Ej b r,j<ops.size->j≠i->listed.getD j false=true->T j=some Ej->zx Ej b=some r->inl E.rd b=true->i<j->(S i).2.2<=b->False\/True:=fun _ _ _ _ _ _ _ _ _ _ _ _=> .inr trivial;have hAfter: ∀j Ej b r k,i<j->j<ops.size->listed.getD j false=true->T j=some Ej->zx Ej b=some r->inl E.rd b=true->ab (S i).2.1 b=some k->False:=fun j Ej b r k hij hj hl hTj hu hrd hk=>by
     have hnb:((Region.before ops).getD j 0).testBit i=false:=by
      cases hb:((Region.before ops).getD j 0).testBit i
      ·rfl
      ·exact (hdesc j hl hb).elim
     rcases hstep j ops[j] (by simp [hj]) with ⟨h1,_,_⟩|⟨Ej',h1,_,_,_,_,h6⟩
     ·rw [hTj] at h1;cases h1
     ·rw [hTj] at h1;cases h1;have hp:=h6 i E ⟨hij,hT⟩ (hun j i hj hij hnb);simp only [jm,aw] at hp;unfold zx at hu;cases hmd:dH Ej.md b with
      |some r'=>have:=vG hp.1.2 b r' hmd;rw [hrd] at this;cases this
      |none=>
       rw [hmd] at hu;obtain ⟨k',hk',_⟩:=bc.1 hu;have h7:=hnew j Ej b k' hj hTj hk';have h8:=hbelow i (by omega) b k hk
       have:=hnmono j i (by omega) (by omega)
       omega
    have hBefore: ∀j Ej b r,j<i->T j=some Ej->zx Ej b=some r->inl E.rd b=true->listed.getD j false=true:=fun j Ej b r hji hTj hu hrd=>by
     cases hb:((Region.before ops).getD i 0).testBit j
     ·exfalso;have hp:=hpair j Ej ⟨hji,hTj⟩ (hun i j hi hji hb);simp only [jm,aw] at hp;unfold zx at hu;cases hmd:dH Ej.md b with
      |some r'=>have:=vG hp.1.1 b r' hmd;rw [hrd] at this;cases this
      |none=>
       rw [hmd] at hu;obtain ⟨k',hk',_⟩:=bc.1 hu;have:=wy hp.2 b k' hk';rw [hrd] at this;cases this
     ·exact hanc j hb
    have hA: ∀b k,only (ab (S i).2.1) E.rd b=some k->HS (ab h) T (pl listed) ops.size b=some k:=fun b k hb=>by
     unfold only at hb;cases hrd:inl E.rd b
     ·simp [hrd] at hb
     ·simp only [hrd,cond_true] at hb;rw [uX (ab h) T (pl listed) b i ops.size (by omega) (fun j Ej r hij hj hl hTj hu=>by
       by_cases hji:j=i
       ·subst hji;have:listed.getD j false=true:=hl;rw [hul] at this;cases this
       ·exact hAfter j Ej b r k (by omega) hj hl hTj hu hrd hb)]
      rw [sU (ab h) T (pl listed) (fun _=>true) b i (fun j Ej r hji hTj hu=>hBefore j Ej b r hji hTj hu hrd),<-htext i (by omega)]
      exact hb
    have hHR:=hStp.hr.sub hA;refine JY hcx (by rw [<-hopeq o (hmem i o ho)];exact hsc) hfresh (fun y hy x hx v hv=> ?_) hHR (fun φ2 u w2 hle hv hst hro hmd hnw=> ?_)
    ·refine qU (fun t v ht hv=>hlook t v ?_ hv) hx (fun g hg=> ?_) hv
     ·unfold rk;have:Operand.tmp t∈o.op.operands.toList:=by rw [<-ht];exact hy
      simp only [List.contains_eq_mem,vJ,List.mem_filterMap,aV];left;exact ⟨_,this,rfl⟩
     ·have:=er.1 hgl o (hmem i o ho);rw [Array.all_eq_true_iff_forall_mem] at this;have:=this y (by simpa using hy)
      rw [hg] at this;simp at this
    · -- the new state
      have hfull:=nb hStp.hr hA hmd hst hro (fun _ _ _ _ _=> .inr trivial);have hDSeq: ∀b,Dn (DS listed) (S i).2.2 E.n b↔DS (listed.setIfInBounds i true) b:=fun b=>by
       constructor
       ·rintro (hb|⟨h1,h2⟩)
        ·exact hDSsub b hb
        ·exact .inr ⟨i,hi,by rw [hnl];simp,h1,by rw [hni];exact h2⟩
       ·rintro (hb|⟨j,hj,hl,h1,h2⟩)
        ·exact .inl (.inl hb)
        ·rw [hnl] at hl;by_cases hji:j=i
         ·subst hji;rw [hni] at h2;exact .inr ⟨h1,h2⟩
         ·rw [aN hji] at hl;exact .inl (.inr ⟨j,hj,hl,h1,h2⟩)
      have hDSe:Dn (DS listed) (S i).2.2 E.n=DS (listed.setIfInBounds i true):=by funext b;exact propext (hDSeq b)
      rw [hDSe] at hfull hv;have hHS:E.app (HS (ab h) T (pl listed) ops.size)=HS (ab h) T (pl (listed.setIfInBounds i true)) ops.size:=by
       funext b;rw [zV];have hsame: ∀j,j≠i->pl (listed.setIfInBounds i true) j=pl listed j:=fun j hji=>by
        show (listed.setIfInBounds i true).getD j false=listed.getD j false;rw [hnl,aN hji]
       cases hu:zx E b with
       |none=>
        simp only [nu];refine sU _ _ _ _ b ops.size (fun j Ej r hj hTj huj=> ?_);by_cases hji:j=i
        ·subst hji;rw [hT] at hTj;cases hTj;rw [hu] at huj;cases huj
        ·exact (hsame j hji).symm
       |some r=>
        simp only [gq];rw [uX (ab h) T (pl (listed.setIfInBounds i true)) b (i+1) ops.size (by omega) (fun j Ej rj hij hj hl hTj huj=>by
         have hl':listed.getD j false=true:=by
          have:=hsame j (by omega)
          have hl2:pl listed j=true:=by rw [<-this];exact hl
          exact hl2
         unfold zx at hu;cases hmd':dH E.md b with
         |some r'=>
          obtain ⟨k,hk⟩:=hhas i E b r' hi hT hmd';exact hAfter j Ej b rj k (by omega) hj hl' hTj huj (hsub i E b r' hi hT hmd') hk
         |none=>
          rw [hmd'] at hu;obtain ⟨k',hk',_⟩:=bc.1 hu;have hrng:=hnew i E b k' hi hT hk';unfold zx at huj;cases hmdj:dH Ej.md b with
          |some r'=>
           have hrdj:=hsub j Ej b r' hj hTj hmdj;have hnb:((Region.before ops).getD j 0).testBit i=false:=by
            cases hb:((Region.before ops).getD j 0).testBit i
            ·rfl
            ·exact (hdesc j hl' hb).elim
           rcases hstep j ops[j] (by simp [hj]) with ⟨h1,_,_⟩|⟨Ej',h1,_,_,_,_,h6⟩
           ·rw [hTj] at h1;cases h1
           ·rw [hTj] at h1;cases h1;have hp:=h6 i E ⟨by omega,hT⟩ (hun j i hj (by omega) hnb)
            simp only [jm,aw] at hp;have:=wy hp.2 b k' hk';rw [hrdj] at this;cases this
          |none=>
           rw [hmdj] at huj;obtain ⟨k2,hk2,_⟩:=bc.1 huj;have h7:=hnew j Ej b k2 hj hTj hk2;have:=hnmono j (i+1) (by omega) (by omega)
           omega)]
        simp only [HS];have hpi:pl (listed.setIfInBounds i true) i=true:=by
         show (listed.setIfInBounds i true).getD i false=true;rw [hnl];simp
        rw [hpi,hT];simp [hu]
      rw [hHS] at hfull;cases hpn:E.pn with
      |some u0=>
       -- a panic:the last operation,all others done
       rcases hK with ⟨hK1,_⟩|⟨i',E',io',k1,k2,k3,k4,u1,k5,k6⟩
       ·have:=hK1 i E hi hT;rw [hpn] at this;cases this
       ·have hii:i=i':=by
         rcases dw i i' with hlt|hge
         ·have:=k4 i hlt E hT;rw [hpn] at this;cases this
         ·omega
        subst hii;rw [hT] at k3;cases k3;rw [hpn] at k5;cases k5;have hune:(Cp ops).getD i []=[]:=by
         have hz:(List.zip (ops.toList.map (bp P ops.toList sp)) (Cp ops))[i]? =some (bp P ops.toList sp o,(Cp ops).getD i []):=by
          rw [List.getElem?_zip_eq_some];refine ⟨by simp;exact ⟨o,by simpa using ho,rfl⟩,?_⟩
          rw [oI,aY (by simp [Cp];exact hi)];rfl
         rw [hz] at k1;exact (s9 (Option.some.inj k1)).2
        have hall: ∀j,j<i->listed.getD j false=true:=fun j hj=>hanc j (by
         cases hb:((Region.before ops).getD i 0).testBit j
         ·have:=hun i j hi hj hb;rw [hune] at this;simp [inl] at this
         ·rfl)
        have hall': ∀j,j<ops.size->(listed.setIfInBounds i true).getD j false=true:=fun j hj=>by
         rw [hnl];by_cases hji:j=i
         ·simp [hji]
         ·rw [aN hji];exact hall j (by omega)
        have hHS2:HS (ab h) T (pl (listed.setIfInBounds i true)) ops.size=ab (E.fe (S i).2.1):=by
         have h5:E.fe (S i).2.1=(S ops.size).2.1:=by
          rcases hstep i o ho with ⟨h1,_,_⟩|⟨E2,h1,_,_,_,h5,_⟩
          ·rw [hT] at h1;cases h1
          ·rw [hT] at h1;cases h1;rw [<-k2,h5]
         rw [h5,htext ops.size (bx _)];funext b;exact sU _ _ _ _ b ops.size (fun j Ej r hj _ _=>hall' j hj)
        rw [hHS2] at hfull;have hst2:=hStp.trans hfull;have hnn:n<=E.n:=by
         have h1:=hnmono ops.size 0 (by omega) (by omega)
         rw [hn00,<-k2,hni] at h1;exact h1
        refine ⟨⟨DS (listed.setIfInBounds i true),φ2,(S i).1,E.fe (S i).2.1,E.n,k6,by omega,⟨fun b hb=> ?_,fun t v hv=> ?_,hst2.hr,hN,by rw [hdef];exact hR.defers.stays hR.heap hst2.eC⟩,hS.trans hst2⟩,hdef⟩
        ·rcases hb with hb|⟨j,hj,_,_,h2⟩
         ·have:=hR.lt b hb;omega
         ·have h3:=hnmono ops.size (j+1) (by omega) (by omega)
          rw [<-k2,hni] at h3;omega
        ·by_cases hex: ∃(j:Nat) (oj:Oper),j<i/\ops[j]? =some oj/\oj.dst=some t
         ·obtain ⟨j,oj,hji,hoj,hd⟩:=hex;have h1:=(henv i (by omega) t).1 j oj hji hoj hd
          rw [h1] at hv;cases hv;exact (hE1 j oj t hoj (hall j hji) hd).mono hfull.sub hfull.agree
         ·have h1:=(henv i (by omega) t).2 (fun j' o' hj' ho' hd'=>hex ⟨j',o',hj',ho',hd'⟩)
          rw [h1] at hv;refine (hE2 t v (fun j' o' ho' hl' hd'=>hex ⟨j',o',?_,ho',hd'⟩) hv).mono hfull.sub hfull.agree;have hj':=(gU.1 ho').1;rcases dw j' i with h'|h'
          ·exact h'
          ·have:j'=i:=by omega
           subst this;rw [hul] at hl';cases hl'
      |none=>
      have hV:V i=E.v:=by simp [V,hT]
      obtain ⟨g1,g2⟩:=hE u φ2 (by rw [hV];exact hv) hfull.agree
      exact ⟨by simp [hsz],hcl',by rw [wq];exact hN,by rw [put_defers];exact hdef,fun j Ej hj hTj=>by
       rw [hnl] at hj;by_cases hji:j=i
       ·subst hji;rw [hT] at hTj;cases hTj;exact hpn
       ·rw [aN hji] at hj;exact hpI j Ej hj hTj,φ2,g1,g2,hStp.trans hfull⟩
 -- the end
 have hend: ∀listed a' w',Inv listed a' w'->(∀i,i<ops.size->listed.getD i false=true)->oz N n0 B D0 φ0 H0 w0 K .normal a' w'/\a'.defers=a.defers:=by
  intro listed a' w' hI hall;obtain ⟨hsz,hcl,hN,hdef,hpI,φ',hE1,hE2,hStp⟩:=hI;have hK:K .normal (S ops.size).1 (S ops.size).2.1 (S ops.size).2.2:=by
   rcases hK with ⟨_,hK⟩|⟨i,E,io,k1,k2,k3,k4,u,k5,k6⟩
   ·exact hK
   ·have:=hpI i E (hall i (by omega)) k3;rw [k5] at this;cases this
  have hHS:HS (ab h) T (pl listed) ops.size=ab (S ops.size).2.1:=by
   rw [htext ops.size (bx _)];funext b;exact sU _ _ _ _ b ops.size (fun j Ej r hj _ _=>hall j hj)
  rw [hHS] at hStp;have hnn:n<=(S ops.size).2.2:=by rw [<-hn00];exact hnmono ops.size 0 (by omega) (by omega)
  refine ⟨⟨DS listed,φ',(S ops.size).1,(S ops.size).2.1,(S ops.size).2.2,hK,by omega,⟨fun b hb=> ?_,fun t v hv=> ?_,hStp.hr,hN,by rw [hdef];exact hR.defers.stays hR.heap hStp.eC⟩,hS.trans hStp⟩,hdef⟩
  ·rcases hb with hb|⟨j,hj,_,_,h2⟩
   ·have:=hR.lt b hb;omega
   ·have:=hnmono ops.size (j+1) (by omega) (by omega);omega
  ·by_cases hex: ∃(j:Nat) (oj:Oper),ops[j]? =some oj/\oj.dst=some t
   ·obtain ⟨j,oj,hoj,hd⟩:=hex;have hj:=(gU.1 hoj).1;have h1:=(henv ops.size (bx _) t).1 j oj hj hoj hd;rw [h1] at hv;cases hv;exact hE1 j oj t hoj (hall j hj) hd
   ·have h1:=(henv ops.size (bx _) t).2 (fun j' o' hj' ho' hd'=>hex ⟨j',o',ho',hd'⟩);rw [h1] at hv;exact hE2 t v (fun j' o' ho' hl' hd'=>hex ⟨j',o',ho',hd'⟩) hv
 have hready: ∀listed a' w',Inv listed a' w'->Region.ready .any ops listed=[]-> ∀i,i<ops.size->listed.getD i false=true:=by
  intro listed a' w' hI hnil i;induction i using Nat.strongRecOn with
  |_ i ih=>
   intro hi;cases hl:listed.getD i false
   ·exfalso;have hsz:=hI.1;have:i∈Region.ready .any ops listed:=mem_ready.2 ⟨by
     have:i<listed.size:=by omega
     simp [Array.getD,this] at hl ⊢;exact hl,ops[i],by simp [hi],fun ed hed' hb=>by
      have h1:=er.1 hed i (oh.2 hi);simp only [Fe hi,Array.all_eq_true_iff_forall_mem] at h1;have h2:=h1 ed hed';rw [hb] at h2;simp at h2;exact ih ed.on h2 (by omega)⟩
    rw [hnil] at this;cases this
   ·rfl
 -- the count
 have hloop: ∀(fuel:Nat) (listed:Array Bool) (a':Act) (w':World),Inv listed a' w'->((List.range ops.size).filter (fun i=> !listed.getD i false)).length<=fuel→
  wpAnyIn (Fw ro) 0 P .any ops (fun ex a' w'=>oz N n0 B D0 φ0 H0 w0 K ex a' w'/\a'.defers=a.defers) fuel listed a' w':=by
  intro fuel;induction fuel with
  |zero=>
   intro listed a' w' hI hc;have hall: ∀i,i<ops.size->listed.getD i false=true:=fun i hi=>by
    cases hl:listed.getD i false
    ·exfalso;have:i∈(List.range ops.size).filter (fun i=> !listed.getD i false):=by rw [List.mem_filter];exact ⟨oh.2 hi,by simp [hl]⟩
     have:=List.length_pos_of_mem this;omega
    ·rfl
   refine ⟨?_,hend listed a' w' hI hall⟩;cases hr:Region.ready .any ops listed with
   |nil=>rfl
   |cons x l=>
    exfalso;have hx:x∈Region.ready .any ops listed:=by rw [hr];exact ja
    obtain ⟨h1,o,ho,_⟩:=mem_ready.1 hx;have hlt:=(gU.1 ho).1;have h2:=hall x hlt;have hsz:=hI.1;have:x<listed.size:=by omega
    simp [Array.getD,this] at h1 h2;rw [h1] at h2;cases h2
  |succ fuel ih=>
   intro listed a' w' hI hc;refine ⟨fun hnil=>hend listed a' w' hI (hready listed a' w' hI hnil),fun i hi=> ?_⟩;refine wpOpIn_mono (fun a'' w'' hI'=>ih _ a'' w'' hI' ?_) (hone listed a' w' i hI hi)
   -- one fewer
   obtain ⟨h1,o,ho,_⟩:=mem_ready.1 hi;have hlt:=(gU.1 ho).1;have hsz:=hI.1;have hcount: ∀m,((List.range m).filter (fun j=> !(listed.setIfInBounds i true).getD j false)).length+(if i<m then 1 else 0)<=((List.range m).filter (fun j=> !listed.getD j false)).length:=fun m=>by
    induction m with
    |zero=>simp
    |succ m ihm=>
     rw [List.range_succ,List.filter_append,List.filter_append,dN,dN];by_cases him:i=m
     ·subst him;have e1:(listed.setIfInBounds i true).getD i false=true:=by simp [show i<listed.size by omega]
      have e2:listed.getD i false=false:=by
       have:i<listed.size:=by omega
       simp [Array.getD,this] at h1 ⊢;exact h1
      simp only [List.filter_cons,List.filter_nil,e1,e2,fI,fA,cu,cY,bV,kv,List.length_cons] at*;simp at ihm ⊢;omega
     ·have e1:(listed.setIfInBounds i true).getD m false=listed.getD m false:=getD_set_ne false him;simp only [List.filter_cons,List.filter_nil,e1];have:(if i<m+1 then 1 else 0)=(if i<m then 1 else 0:Nat):=by
       by_cases hh:i<m
       ·simp [hh,show i<m+1 by omega]
       ·simp [hh,show ¬i<m+1 by omega]
      rw [this];omega
   have:=hcount ops.size;rw [aM hlt] at this;omega
 refine wpIn_region_any hm (hloop ops.size _ a _ ?_ (by
  refine Cg (List.length_filter_le _ _) (by simp)))
 have hfalse: ∀j,(Array.replicate ops.size false).getD j false=false:=fun j=>by
  rw [lX];cases hj:(Array.replicate ops.size false)[j]? with
  |none=>rfl
  |some x=>
   rw [Array.getElem?_replicate] at hj;split at hj
   ·cases hj;rfl
   ·cases hj
 have hHS0:HS (ab h) T (pl (Array.replicate ops.size false)) ops.size=ab h:=by
  funext b;rw [uX (ab h) T _ b 0 ops.size (by omega) (fun j Ej r _ _ hl=>by
   have:(Array.replicate ops.size false).getD j false=true:=hl;rw [hfalse] at this;cases this)]
  rfl
 refine ⟨by simp,(fun j o hj=>by rw [hfalse] at hj;cases hj),hR.size,rfl,(fun j E hj=>by rw [hfalse] at hj;cases hj),φ,(fun j o t _ hj=>by rw [hfalse] at hj;cases hj),fun t v _ hv=>(hR.env t v hv).mono (fun b hb=> .inl hb) (dh.refl _ _),?_⟩
 rw [hHS0];have hsubD: ∀b,D b->DS (Array.replicate ops.size false) b:=fun b hb=> .inl hb;have hR1:=hR.heap.world (w':={w with drawn:=w.drawn+1}) rfl
 exact ⟨hsubD,dh.refl _ _,hR1.grow hsubD,⟨rfl,rfl,rfl,bx _,fun _ _ _=>rfl⟩,fun b k hb hk=> .inr ⟨b,k,hb,hk,rfl⟩,fun _ _ h=> .inl h⟩
theorem Cw {B:List Deferred} {ro:Option Nat} (hcx:Sound P cx) (hm:P.follows .mixedOrders=true) {K:cF} {D0:Nat->Prop} {φ0:bU} {H0:Hf} {w0:World} {ops:Array Oper} {sp:List Nat} {id:Nat} (hn0: ∀b,D0 b->b<n0)
 (hgu:lh ops.toList=true) (hdst:kL N ops.toList=true) (hgl:Dz ops.toList=true) (hdr:y8 ops=true)
 {e:Env} {h:Hp} {n:Nat} {D:Nat->Prop} {φ:bU} {a:Act} {w:World} (hn:n0<=n)
 (hrun:pH cx (List.zip (ops.toList.map (bp P ops.toList sp)) (Cp ops)) 0 [] e h n K) (hR:Rel D φ e h n N (w0.heap.size,B) a w) (hS:dR D0 φ0 H0 w0 D φ (ab h) w):
 (Code.region id ops true).wpIn (Fw ro) 0 P (fun ex a' w'=>oz N n0 B D0 φ0 H0 w0 K ex a' w') a w:=
 wpIn_mono (tT hcx hm hn0 hgu hdst hgl hdr hn hrun hR hS) (fun _ _ _ h=>h.1)
end
end Go.Ab
namespace Go.Ab
def dq:Code->List Nat
 | .cond (.tmp t) a b=>t::(dq a++dq b)
 | .cond _ a b=>dq a++dq b
 | .seq a b=>dq a++dq b
 | .block _ c=>dq c
 | .loop c=>dq c
 | .scope c=>dq c
 | .rangeFunc _ _ a b=>dq a++dq b
 |_=>[]
def bH (P:Program) (ct:List Nat) (N:Nat):Code->bG
 | .skip=> .skip
 | .region _ ops draw=>
  let l:=ops.toList;let sp:=kl l++ct
  if kL N l&&lh l&&(!draw||(Dz l&&y8 ops)) then
   (if draw then .cG (List.zip (l.map (bp P l sp)) (Cp ops)) else .cQ (l.map (bp P l sp)))
  else .bad
 | .seq a b=> .seq (bH P ct N a) (bH P ct N b)
 | .cond c a b=>match cO c with
  |some (.g _)=> .bad
  |some x=> .cond x (bH P ct N a) (bH P ct N b)
  |none=> .bad
 | .block id c=> .block id (bH P ct N c)
 | .loop c=> .loop (bH P ct N c)
 | .scope c=> .scope (bH P ct N c)
 | .label _=> .skip
 | .rangeFunc g ps a b=>match cO g with
  |some (.g _)=> .bad
  |some x=> .oO x ps.toList (bH P ct N a) (bH P ct N b)
  |none=> .bad
 | .exit id=> .exit id
 | .ret=> .ret
 |_=> .bad
def Loop (P:Program) (ct:List Nat) (N n0:Nat) (c:bG) (K:cF) (e:Env) (h:Hp) (n:Nat):Prop:=
 ∀c',bH P ct N c'=c->WP P N n0 (.loop c') K e h n
def oA (P:Program) (ct:List Nat) (N n0:Nat) (g:cC) (ps:List Nat) (a b:bG) (K:cF) (e:Env) (h:Hp) (n:Nat):Prop:=
 ∀c',bH P ct N c'= .oO g ps a b->WP P N n0 c' K e h n
structure Fx where
 P:Program
 cx:Cx
 ct:List Nat
 N:Nat
 n0:Nat
def gH (K:cF) (k:Env->Hp->Nat->Prop):cF:=fun ex e h n=>
 match ex with
 | .normal=>k e h n
 |ex=>K ex e h n
def iz (id:Nat) (K:cF):cF:=fun ex e h n=>
 match ex with
 | .exit i=>if i=id then K .normal e h n else K (.exit i) e h n
 |ex=>K ex e h n
def Dy (K:cF):cF:=fun ex e h n=>
 match ex with
 | .goto _=>False
 |ex=>K ex e h n
def iw (F:Fx):bG->cF->Env->Hp->Nat->Prop
 | .skip,K,e,h,n=>K .normal e h n
 | .cQ ops,K,e,h,n=>ic F.cx ops e h n K
 | .cG ops,K,e,h,n=>pH F.cx ops 0 [] e h n K
 | .seq a b,K,e,h,n=>iw F a (gH K (iw F b K)) e h n
 | .cond c a b,K,e,h,n=>gd (c.ev e h) fun v=>match v with
  | .b x=>Hb x (iw F a K e h n) (iw F b K e h n)
  |_=>False
 | .block id c,K,e,h,n=>iw F c (iz id K) e h n
 | .loop c,K,e,h,n=>Loop F.P F.ct F.N F.n0 c K e h n
 | .scope c,K,e,h,n=>iw F c (Dy K) e h n
 | .oO g ps a b,K,e,h,n=>oA F.P F.ct F.N F.n0 g ps a b K e h n
 | .exit id,K,e,h,n=>K (.exit id) e h n
 | .ret,K,e,h,n=>K .ret e h n
 | .bad,_,_,_,_=>False
theorem oz.mono {B:List Deferred} {N n0:Nat} {D0:Nat->Prop} {φ0:bU} {H0:Hf} {w0:World} {K K':cF} (hk: ∀ex e h n,K ex e h n->K' ex e h n) {ex:Exit} {a:Act} {w:World} (h:oz N n0 B D0 φ0 H0 w0 K ex a w):
 oz N n0 B D0 φ0 H0 w0 K' ex a w:=
 let ⟨D,φ,e,h',n,h1,h2⟩:=h;⟨D,φ,e,h',n,hk _ _ _ _ h1,h2⟩
theorem WP.mono {P:Program} {N n0:Nat} {c:Code} {K K':cF} {e:Env} {h:Hp} {n:Nat} (hk: ∀ex e h n,K ex e h n->K' ex e h n) (hw:WP P N n0 c K e h n):WP P N n0 c K' e h n:=
 fun ro hro B D0 φ0 H0 w0 h1 h2 D φ a w hR hS=>wpIn_mono (hw ro hro B D0 φ0 H0 w0 h1 h2 D φ a w hR hS) (fun ex a' w' hp=>hp.mono hk)
theorem jY {F:Fence} {n:Nat} {P:Program} {Q:Exit->Act->World->Prop} {a:Act} {w:World} {c:Code} (h:c.wpIn F n P (Exit.noGoto Q) a w):(Code.scope c).wpIn F n P Q a w:=by
 intro b k cs hro hb hr;have h0:(lone (b.atR a (.code (.scope c)::k)) cs w).fenced P F:=fenced_calm hb hr rfl;have s1:Go.step P (lone (b.atR a (.code (.scope c)::k)) cs w)= .next (lone (b.atR a (.code c:: .inScope c::k)) cs w):=step_lone_go (by simp [stepG,stepG.exec,Frame.atR])
 have s2: ∀a w,Go.step P (lone (b.atR a (.inScope c::k)) cs w)= .next (lone (b.atR a k) cs w):=fun a w=>step_lone_go (by simp [stepG,stepG.exec,Frame.atR])
 obtain ⟨e,a₁,w₁,hq,harr⟩:=h b (.inScope c::k) cs hro hb hr;cases e with
 |normal=>exact ⟨.normal,a₁,w₁,hq,.head h0 s1 (StepsIn.trans harr (.one (fenced_calm hb hr rfl) (s2 _ _)))⟩
 |exit id'=>
  have hx:exitTo id' (.inScope c::k)=exitTo id' k:=by simp [exitTo]
  exact ⟨.exit id',a₁,w₁,hq,fun k' hk=> .head h0 s1 (harr.1 k' (by rw [hx];exact hk)),
   fun hr' hk=>let ⟨k₁,h1,h2⟩:=harr.2 hr' (by rw [hx];exact hk);⟨k₁,h1,.head h0 s1 h2⟩⟩
 |goto l=>exact hq.elim
 |ret=>exact ⟨_,a₁,w₁,hq,.of_steps (.one h0 s1) harr⟩
 |panic ch=>exact ⟨_,a₁,w₁,hq,.of_steps (.one h0 s1) harr⟩
 |outgrown=>exact ⟨_,a₁,w₁,hq,.of_steps (.one h0 s1) harr⟩
theorem gL (F:Fx) (hcx:Sound F.P F.cx) (hm:F.P.follows .mixedOrders=true): ∀(c:Code) (K:cF) (e:Env) (h:Hp) (n:Nat),iw F (bH F.P F.ct F.N c) K e h n->WP F.P F.N F.n0 c K e h n:=by
 intro c;induction c with
 |skip=>intro K e h n hi ro hro B D0 φ0 H0 w0 h1 h2 D φ a w hR hS;exact wpIn_skip ⟨D,φ,e,h,n,hi,h2,hR,hS⟩
 |region id ops draw=>
  intro K e h n hi ro hro B D0 φ0 H0 w0 h1 h2 D φ a w hR hS;simp only [bH] at hi;split at hi
  ·rename_i hc;simp only [aw,iS,iH] at hc;obtain ⟨⟨hc1,hc2⟩,hc4⟩:=hc;cases draw
   ·simp only [cY,bV,iw] at hi;exact wpIn_region_list (rQ hcx h1 hc2 ops.toList (fun o ho=>ho) hc1 e h n D φ a w h2 hi hR hS)
   ·simp only [cu,iw] at hi;exact Cw hcx hm h1 hc2 hc1 (hc4.resolve_left (by simp)).1 (hc4.resolve_left (by simp)).2 h2 hi hR hS
  ·exact hi.elim
 |seq x y ihx ihy=>
  intro K e h n hi ro hro B D0 φ0 H0 w0 h1 h2 D φ a w hR hS;simp only [bH,iw] at hi;have hro1:ro=none\/(jC x=true/\jC y=true):=hro.imp _root_.id (fun h=>by simpa [jC] using h)
  refine wpIn_seq (wpIn_mono (ihx _ e h n hi ro (hro1.imp _root_.id (·.1)) B D0 φ0 H0 w0 h1 h2 D φ a w hR hS) (fun ex a' w' hp=> ?_));obtain ⟨D',φ',e',h',n',hk,hn',hR',hS'⟩:=hp;cases ex with
  |normal=>exact ihy K e' h' n' hk ro (hro1.imp _root_.id (·.2)) B D0 φ0 H0 w0 h1 hn' D' φ' a' w' hR' hS'
  |exit id=>exact ⟨D',φ',e',h',n',hk,hn',hR',hS'⟩
  |goto l=>exact ⟨D',φ',e',h',n',hk,hn',hR',hS'⟩
  |ret=>exact ⟨D',φ',e',h',n',hk,hn',hR',hS'⟩
  |panic ch=>exact ⟨D',φ',e',h',n',hk,hn',hR',hS'⟩
  |outgrown=>exact ⟨D',φ',e',h',n',hk,hn',hR',hS'⟩
 |cond c x y ihx ihy=>
  intro K e h n hi ro hro B D0 φ0 H0 w0 h1 h2 D φ a w hR hS;have hro1:ro=none\/(jC x=true/\jC y=true):=hro.imp _root_.id (fun h=>by simpa [jC] using h)
  simp only [bH] at hi;split at hi
  ·exact hi.elim
  ·rename_i x' hng hc;simp only [iw] at hi;obtain ⟨v,hv,hi⟩:=fw hi;split at hi
   ·rename_i b;have hvr:aI D φ (.b b) (a.eval c):=qU (fun t v _ hv=>hR.env t v hv) hc (fun g hg=>by subst hg;simp only [cO,aP] at hc;exact hng g hc.symm) hv
    generalize hu:a.eval c=u at hvr;cases hvr;cases b
    ·exact wpIn_cond_false hu (ihy K e h n (hi.2 rfl) ro (hro1.imp _root_.id (·.2)) B D0 φ0 H0 w0 h1 h2 D φ a w hR hS)
    ·exact wpIn_cond_true hu (ihx K e h n (hi.1 rfl) ro (hro1.imp _root_.id (·.1)) B D0 φ0 H0 w0 h1 h2 D φ a w hR hS)
   ·exact hi.elim
  ·exact hi.elim
 |block id c ih=>
  intro K e h n hi ro hro B D0 φ0 H0 w0 h1 h2 D φ a w hR hS;simp only [bH,iw] at hi;refine wpIn_block (wpIn_mono (ih _ e h n hi ro (hro.imp _root_.id (fun h=>by simpa [jC] using h)) B D0 φ0 H0 w0 h1 h2 D φ a w hR hS) (fun ex a' w' hp=> ?_))
  obtain ⟨D',φ',e',h',n',hk,hn',hR',hS'⟩:=hp;cases ex with
  |exit i=>
   simp only [iz] at hk;simp only [Exit.inBlock];split
   ·rename_i hid;rw [aM hid] at hk;exact ⟨D',φ',e',h',n',hk,hn',hR',hS'⟩
   ·rename_i hid;rw [aN hid] at hk;exact ⟨D',φ',e',h',n',hk,hn',hR',hS'⟩
  |normal=>exact ⟨D',φ',e',h',n',hk,hn',hR',hS'⟩
  |goto l=>exact ⟨D',φ',e',h',n',hk,hn',hR',hS'⟩
  |ret=>exact ⟨D',φ',e',h',n',hk,hn',hR',hS'⟩
  |panic ch=>exact ⟨D',φ',e',h',n',hk,hn',hR',hS'⟩
  |outgrown=>exact ⟨D',φ',e',h',n',hk,hn',hR',hS'⟩
 |loop c ih=>intro K e h n hi;simp only [bH,iw] at hi;exact hi c rfl
 |rangeFunc g ps x y ihx ihy=>
  intro K e h n hi;cases hg:cO g with
  |none=>simp only [bH,hg,iw] at hi
  |some o=>
   cases o with
   |g _=>simp only [bH,hg,iw] at hi
   |t _=>simp only [bH,hg,iw] at hi;exact hi (.rangeFunc g ps x y) (by simp only [bH,hg])
   |c _=>simp only [bH,hg,iw] at hi;exact hi (.rangeFunc g ps x y) (by simp only [bH,hg])
 |scope c ih=>
  intro K e h n hi ro hro B D0 φ0 H0 w0 h1 h2 D φ a w hR hS;simp only [bH,iw] at hi;refine jY (wpIn_mono (ih _ e h n hi ro (hro.imp _root_.id (fun h=>by simpa [jC] using h)) B D0 φ0 H0 w0 h1 h2 D φ a w hR hS) (fun ex a' w' hp=> ?_))
  obtain ⟨D',φ',e',h',n',hk,hn',hR',hS'⟩:=hp;cases ex with
  |goto l=>exact hk.elim
  |_=>exact ⟨D',φ',e',h',n',hk,hn',hR',hS'⟩
 |label l=>intro K e h n hi ro hro B D0 φ0 H0 w0 h1 h2 D φ a w hR hS;exact wpIn_label ⟨D,φ,e,h,n,hi,h2,hR,hS⟩
 |exit id=>intro K e h n hi ro hro B D0 φ0 H0 w0 h1 h2 D φ a w hR hS;exact wpIn_exit ⟨D,φ,e,h,n,hi,h2,hR,hS⟩
 |ret=>intro K e h n hi ro hro B D0 φ0 H0 w0 h1 h2 D φ a w hR hS;exact wpIn_ret ⟨D,φ,e,h,n,hi,h2,hR,hS⟩
 |_=>intro K e h n hi;exact hi.elim
/-! ### renaming and forgetting -/
mutual
def AV.aH (ψ:Nat->Nat):AV->AV
 | .p b o=> .p (ψ b) o
 | .sl b o l c=> .sl (ψ b) o l c
 | .sg b o l=> .sg (ψ b) o l
 | .fn f l=> .fn f (aL ψ l)
 | .bm f l=> .bm f (aL ψ l)
 | .agg l=> .agg (aL ψ l)
 | .bg l=> .bg (aL ψ l)
 | .b x=> .b x
 | .i k n=> .i k n
 | .s l=> .s l
 | .np=> .np
 | .ns=> .ns
 | .nf=> .nf
 | .ni=> .ni
 | .fz l n=> .fz (aL ψ l) n
 | .fp l k=> .fp (aL ψ l) k
 | .ze=> .ze
 | .en=> .en
 | .any=> .any
 | .k t u=> .k t u
 | .m b=> .m (ψ b)
 | .nm=> .nm
 | .yl L r ts l=> .yl L r ts (aL ψ l)
def aL (ψ:Nat->Nat):List AV->List AV
 |[]=>[]
 |v::r=>v.aH ψ::aL ψ r
end
mutual
def AV.al (m:Nat):AV->Bool
 | .p b _=>Nat.blt b m
 | .sl b _ _ _=>Nat.blt b m
 | .sg b _ _=>Nat.blt b m
 | .fn _ l=>ae m l
 | .bm _ l=>ae m l
 | .agg l=>ae m l
 | .bg l=>ae m l
 | .b _=>true
 | .i _ _=>true
 | .s _=>true
 | .np=>true
 | .ns=>true
 | .nf=>true
 | .ni=>true
 | .fz l _=>ae m l
 | .fp l _=>ae m l
 | .ze=>true
 | .en=>true
 | .any=>true
 | .k _ _=>true
 | .m b=>Nat.blt b m
 | .nm=>true
 | .yl _ _ _ l=>ae m l
def ae (m:Nat):List AV->Bool
 |[]=>true
 |v::r=>v.al m&&ae m r
end
theorem iD {a b:Nat} (h:Nat.blt a b=true):a<b:=by rw [Nat.blt_eq] at h;exact h
theorem dM (ψ:Nat->Nat): ∀l,aL ψ l=l.map (AV.aH ψ)
 |[]=>rfl
 |v::r=>by simp [aL,dM ψ r]
theorem cX {m:Nat}: ∀{l:List AV},ae m l=true-> ∀v∈l,v.al m=true
 |[],_,v,hv=>by cases hv
 |x::r,h,v,hv=>by
  simp only [ae,aw] at h;rcases jD.1 hv with rfl|hv
  ·exact h.1
  ·exact cX h.2 v hv
def bU.comp (φ:bU) (ψ:Nat->Nat):bU where
 cW b:=φ.cW (ψ b)
 off b:=φ.off (ψ b)
 cap b:=φ.cap (ψ b)
 fK b:=φ.fK (ψ b)
 fz:=φ.fz
 lp:=φ.lp
theorem aI.Ed {D:Nat->Prop} {φ:bU} {ψ:Nat->Nat} {m:Nat} {v':AV} {u:Value} (h:aI D φ v' u): ∀v:AV,v'=v.aH ψ->v.al m=true->aI (fun b=>b<m/\D (ψ b)) (φ.comp ψ) v u:=by
 induction h with
 |b x=>intro v hv hb;cases v<;>simp [AV.aH] at hv;subst hv;exact .b _
 |i k n=>intro v hv hb;cases v<;>simp [AV.aH] at hv;obtain ⟨rfl,rfl⟩:=hv;exact .i _ _
 |s l=>intro v hv hb;cases v<;>simp [AV.aH] at hv;subst hv;exact .s _
 |np=>intro v hv hb;cases v<;>simp [AV.aH] at hv;exact .np
 |p b o h=>
  intro v hv hb;cases v<;>simp [AV.aH] at hv;obtain ⟨rfl,rfl⟩:=hv;exact .p _ _ ⟨iD hb,h⟩
 |ns=>intro v hv hb;cases v<;>simp [AV.aH] at hv;exact .ns
 |sl b o len cap h=>
  intro v hv hb;cases v<;>simp [AV.aH] at hv;obtain ⟨rfl,rfl,rfl,rfl⟩:=hv;exact .sl _ _ _ _ ⟨iD hb,h⟩
 |sg b o len j cap h hj hc hl=>
  intro v hv hb;cases v<;>simp [AV.aH] at hv;obtain ⟨rfl,rfl,rfl⟩:=hv;exact .sg _ _ _ j cap ⟨iD hb,h⟩ hj hc hl
 |fn f l cs hf hl h ih=>
  intro v hv hb;cases v<;>simp [AV.aH] at hv;rename_i f' l';obtain ⟨rfl,rfl⟩:=hv;rw [dM] at hl h ih;refine .fn _ _ cs hf (by simpa using hl) (fun i a u ha hu=>ih i (a.aH ψ) u (by simp [ha]) hu a rfl ?_)
  exact cX hb a (bR ha)
 |bm f l cs hf hl h ih=>
  intro v hv hb;cases v<;>simp [AV.aH] at hv;rename_i f' l';obtain ⟨rfl,rfl⟩:=hv;rw [dM] at hl h ih;refine .bm _ _ cs hf (by simpa using hl) (fun i a u ha hu=>ih i (a.aH ψ) u (by simp [ha]) hu a rfl ?_)
  exact cX hb a (bR ha)
 |nf=>intro v hv hb;cases v<;>simp [AV.aH] at hv;exact .nf
 |ni=>intro v hv hb;cases v<;>simp [AV.aH] at hv;exact .ni
 |agg l cs hl h ih=>
  intro v hv hb;cases v<;>simp [AV.aH] at hv;rename_i l';subst hv;rw [dM] at hl h ih;refine .agg _ cs (by simpa using hl) (fun i a u ha hu=>ih i (a.aH ψ) u (by simp [ha]) hu a rfl ?_)
  exact cX hb a (bR ha)
 |bg l cs hl h ih=>
  intro v hv hb;cases v<;>simp [AV.aH] at hv;rename_i l';subst hv;rw [dM] at hl h ih;refine .bg _ cs (by simpa using hl) (fun i a u ha hu=>ih i (a.aH ψ) u (by simp [ha]) hu a rfl ?_)
  exact cX hb a (bR ha)
 |fz l n B o cap vs hB hc hs h ih=>
  intro v hv hb;cases v<;>simp [AV.aH] at hv;rename_i l' n';obtain ⟨rfl,rfl⟩:=hv;rw [dM] at hs h ih;refine .fz _ _ B o cap vs hB hc (by simpa using hs) (fun i a u ha hu=>ih i (a.aH ψ) u (by simp [ha]) hu a rfl ?_)
  exact cX hb a (bR ha)
 |mI l x cap hc=>
  intro v hv hb;cases v<;>simp [AV.aH] at hv;obtain ⟨rfl,h0⟩:=hv;rw [<-h0];exact .mI _ _ _ hc
 |fp l k B o vs hB hs h ih=>
  intro v hv hb;cases v<;>simp [AV.aH] at hv;rename_i l' n';obtain ⟨rfl,rfl⟩:=hv;rw [dM] at hs h ih;refine .fp _ _ B o vs hB (by simpa using hs) (fun i a u ha hu=>ih i (a.aH ψ) u (by simp [ha]) hu a rfl ?_)
  exact cX hb a (bR ha)
 |ze x=>intro v hv hb;cases v<;>simp [AV.aH] at hv;exact .ze _
 |en x cap=>intro v hv hb;cases v<;>simp [AV.aH] at hv;exact .en _ _
 |any u=>intro v hv hb;cases v<;>simp [AV.aH] at hv;exact .any _
 |k t u=>intro v hv hb;cases v<;>simp [AV.aH] at hv;obtain ⟨rfl,rfl⟩:=hv;exact .k _ _
 |m b h=>intro v hv hb;cases v<;>simp [AV.aH] at hv;subst hv;exact .m _ ⟨iD hb,h⟩
 |nm=>intro v hv hb;cases v<;>simp [AV.aH] at hv;exact .nm
 |yl L r ts l hL h ih=>
  intro v hv hb;cases v<;>simp [AV.aH] at hv;rename_i L' r' ts' l';obtain ⟨rfl,rfl,rfl,rfl⟩:=hv;rw [dM] at h ih;refine .yl _ _ _ _ hL (fun i t a ht ha=>ih i t (a.aH ψ) ht (by simp [ha]) a rfl ?_)
  exact cX hb a (bR ha)
theorem aI.aH {D2:Nat->Prop} {D:Nat->Prop} {φ2 φ:bU} {ψ:Nat->Nat} {v:AV} {u:Value} (h:aI D2 φ2 v u) (hD: ∀b,D2 b->D (ψ b)) (hφ: ∀b,D2 b->φ2.cW b=φ.cW (ψ b)/\φ2.off b=φ.off (ψ b)/\φ2.cap b=φ.cap (ψ b)/\φ2.fK b=φ.fK (ψ b)) (hz: ∀B vs,φ2.fz B=some vs->φ.fz B=some vs) (hl: ∀L r,φ2.lp L=some r->φ.lp L=some r):
 aI D φ (v.aH ψ) u:=by
 induction h with
 |b x=>exact .b _
 |i k n=>exact .i _ _
 |s l=>exact .s _
 |np=>exact .np
 |p b o h=>obtain ⟨h1,h2,_⟩:=hφ b h;rw [h1,h2];exact .p _ _ (hD b h)
 |ns=>exact .ns
 |sl b o len cap h=>obtain ⟨h1,h2,_⟩:=hφ b h;rw [h1,h2];exact .sl _ _ _ _ (hD b h)
 |sg b o len j cap h hj hc hl=>obtain ⟨h1,h2,h3,h4⟩:=hφ b h;rw [h1,h2];exact .sg _ _ _ j cap (hD b h) (by rw [<-h4];exact hj) (by rw [<-h3];exact hc) hl
 |fn f l cs hf hl h ih=>
  refine .fn _ _ cs hf (by rw [dM];simpa using hl) (fun i a u ha hu=> ?_)
  rw [dM,gF,bc] at ha;obtain ⟨a',ha',rfl⟩:=ha;exact ih i a' u ha' hu
 |bm f l cs hf hl h ih=>
  refine .bm _ _ cs hf (by rw [dM];simpa using hl) (fun i a u ha hu=> ?_)
  rw [dM,gF,bc] at ha;obtain ⟨a',ha',rfl⟩:=ha;exact ih i a' u ha' hu
 |nf=>exact .nf
 |ni=>exact .ni
 |m b h=>obtain ⟨h1,_⟩:=hφ b h;rw [h1];exact .m _ (hD b h)
 |nm=>exact .nm
 |agg l cs hl h ih=>
  refine .agg _ cs (by rw [dM];simpa using hl) (fun i a u ha hu=> ?_)
  rw [dM,gF,bc] at ha;obtain ⟨a',ha',rfl⟩:=ha;exact ih i a' u ha' hu
 |bg l cs hl h ih=>
  refine .bg _ cs (by rw [dM];simpa using hl) (fun i a u ha hu=> ?_)
  rw [dM,gF,bc] at ha;obtain ⟨a',ha',rfl⟩:=ha;exact ih i a' u ha' hu
 |fz l n B o cap vs hB hc hs h ih=>
  refine .fz _ _ B o cap vs (hz _ _ hB) hc (by rw [dM];simpa using hs) (fun i a u ha hu=> ?_)
  rw [dM,gF,bc] at ha;obtain ⟨a',ha',rfl⟩:=ha;exact ih i a' u ha' hu
 |mI l x cap hc=>exact .mI _ _ _ hc
 |fp l k B o vs hB hs h ih=>
  refine .fp _ _ B o vs (hz _ _ hB) (by rw [dM];simpa using hs) (fun i a u ha hu=> ?_)
  rw [dM,gF,bc] at ha;obtain ⟨a',ha',rfl⟩:=ha;exact ih i a' u ha' hu
 |ze x=>exact .ze _
 |en x cap=>exact .en _ _
 |any u=>exact .any _
 |k t u=>exact .k _ _
 |yl L r ts l hL h ih=>
  refine .yl _ _ _ _ (hl _ _ hL) (fun i t a ht ha=> ?_);rw [dM,gF,bc] at ha;obtain ⟨a',ha',rfl⟩:=ha;exact ih i t a' ht ha'
def aW.aH (ψ:Nat->Nat) (k:aW):aW:={k with cells:=aL ψ k.cells}
structure Wk (n0:Nat) (ψ:Nat->Nat) (e:Env) (h:Hp) (n:Nat) (e2:Env) (h2:Hp) (n2:Nat):Prop where
 OV:n0<=n2
 fix: ∀b,b<n0->ψ b=b
 env: ∀t v,cV e2 t=some v->cV e t=some (v.aH ψ)/\v.al n2=true
 heap: ∀b k,ab h2 b=some k->ab h (ψ b)=some (k.aH ψ)/\ae n2 k.cells=true/\b<n2
 inj: ∀b1 b2 k1 k2,ab h2 b1=some k1->ab h2 b2=some k2->k1.ro=false->ψ b1=ψ b2->b1=b2
theorem Rel.weaken {m:Nat×List Deferred} {D:Nat->Prop} {φ:bU} {ψ:Nat->Nat} {n0 n n2 N:Nat} {e e2:Env} {h h2:Hp} {a:Act} {w:World} {D0:Nat->Prop} {φ0:bU} {H0:Hf} {w0:World} (hW:Wk n0 ψ e h n e2 h2 n2) (hn0: ∀b,D0 b->b<n0)
 (hR:Rel D φ e h n N m a w) (hS:dR D0 φ0 H0 w0 D φ (ab h) w):
 Rel (fun b=>b<n2/\D (ψ b)) (φ.comp ψ) e2 h2 n2 N m a w/\dR D0 φ0 H0 w0 (fun b=>b<n2/\D (ψ b)) (φ.comp ψ) (ab h2) w:=by
 have hheap:HR (fun b=>b<n2/\D (ψ b)) (φ.comp ψ) (ab h2) w:=by
  refine ⟨⟨fun b k hb=> ?_,fun b1 b2 k1 k2 hne h1 h2' hk=> ?_⟩,hR.heap.fz,hR.heap.lp,fun b k B vs hb hk hB=>hR.heap.kD (ψ b) (k.aH ψ) B vs (hW.heap b k hb).1 hk hB⟩
  ·obtain ⟨g1,g2,g3⟩:=hW.heap b k hb;obtain ⟨hd,⟨⟨cs,elem,fr,q1,q2,q3,q4⟩,q5⟩⟩:=hR.heap.at_ (ψ b) _ g1;refine ⟨⟨g3,hd⟩,⟨⟨cs,elem,fr,q1,fun i v hv=> ?_,q3,q4⟩,q5⟩⟩;obtain ⟨u,hu,hr⟩:=q2 i (v.aH ψ) (by simp [aW.aH,dM,hv])
   exact ⟨u,hu,hr.Ed v rfl (cX g2 v (bR hv))⟩
  ·obtain ⟨g1,_,_⟩:=hW.heap b1 k1 h1;obtain ⟨g2,_,_⟩:=hW.heap b2 k2 h2';exact hR.heap.sep (ψ b1) (ψ b2) _ _ (fun e=>hne (hW.inj b1 b2 k1 k2 h1 h2' hk e)) g1 g2 hk
 refine ⟨⟨fun b hb=>hb.1,fun t v hv=> ?_,hheap,hR.size,hR.defers⟩,⟨fun b hb=> ?_,⟨fun b hb=> ?_,hS.agree.fz,hS.agree.lp⟩,hheap,hS.eC,fun b k hb hk=> ?_,hS.jO⟩⟩
 ·obtain ⟨g1,g2⟩:=hW.env t v hv;exact (hR.env t _ g1).Ed v rfl g2
 ·have:=hn0 b hb;exact ⟨wO this hW.OV,by rw [hW.fix b this];exact hS.sub b hb⟩
 ·have:=hn0 b hb;simp only [bU.comp,hW.fix b this];exact hS.agree.at_ b hb
 ·obtain ⟨g1,_,_⟩:=hW.heap b k hb;exact hS.oY (ψ b) _ g1 hk
theorem WP.weaken {P:Program} {N n0:Nat} {c:Code} {K:cF} {ψ:Nat->Nat} {e e2:Env} {h h2:Hp} {n n2:Nat} (hW:Wk n0 ψ e h n e2 h2 n2) (hw:WP P N n0 c K e2 h2 n2):WP P N n0 c K e h n:=
 fun ro hro B D0 φ0 H0 w0 h1 h2 D φ a w hR hS=>
  let ⟨hR',hS'⟩:=Rel.weaken hW h1 hR hS
  hw ro hro B D0 φ0 H0 w0 h1 hW.OV _ _ a w hR' hS'
theorem Loop.ak0 {F:Fx} {c:bG} {K:cF} {X:Type} (I:X->Env×Hp×Nat) (μ:X->Nat) {e:Env} {h:Hp} {n:Nat} (x0:X) (ψ0:Nat->Nat)
 (h0:Wk F.n0 ψ0 e h n (I x0).1 (I x0).2.1 (I x0).2.2)
 (round: ∀x c',bH F.P F.ct F.N c'=c->WP F.P F.N F.n0 c' (gH K fun e' h' n'=> ∃x' ψ,Wk F.n0 ψ e' h' n' (I x').1 (I x').2.1 (I x').2.2/\μ x'<μ x) (I x).1 (I x).2.1 (I x).2.2):
 Loop F.P F.ct F.N F.n0 c K e h n:=by
 intro c' hc';have hround:=fun x=>round x c' hc';intro ro hro B D0 φ0 H0 w0 h1 h2 D φ a w hR hS;intro b k cs hro' hb hr;have key: ∀m x,μ x=m-> ∀D φ a w,Rel D φ (I x).1 (I x).2.1 (I x).2.2 F.N (w0.heap.size,B) a w->dR D0 φ0 H0 w0 D φ (ab (I x).2.1) w->F.n0<=(I x).2.2→
  ∃ex a' w',oz F.N F.n0 B D0 φ0 H0 w0 K ex a' w'/\ArrivesIn (Machine.fenced F.P (Fw ro)) F.P (lone (b.atR a (.code c':: .inLoop c'::k)) cs w) b k cs ex a' w':=by
  intro m;induction m using Nat.strongRecOn with
  |_ m ih=>
   intro x hx D φ a w hR hS hn;obtain ⟨ex,a1,w1,hq,harr⟩:=hround x ro hro B D0 φ0 H0 w0 h1 hn D φ a w hR hS b (.inLoop c'::k) cs hro' hb hr;obtain ⟨D',φ',e',h',n',hk,hn',hR',hS'⟩:=hq;cases ex with
   |normal=>
    obtain ⟨x',ψ,hW,hlt⟩:=hk;obtain ⟨hR2,hS2⟩:=Rel.weaken hW h1 hR' hS';obtain ⟨e2,a2,w2,hq2,harr2⟩:=ih (μ x') (hx▸hlt) x' rfl _ _ a1 w1 hR2 hS2 hW.OV;exact ⟨e2,a2,w2,hq2,.of_steps (StepsIn.trans harr (.one (fenced_calm hb hr rfl) stepR_inLoop)) harr2⟩
   |exit id=>exact ⟨_,a1,w1,⟨D',φ',e',h',n',hk,hn',hR',hS'⟩,.pass (x:= .inLoop c') rfl (fun _ _=> .inl (by simp)) harr⟩
   |goto l=>exact ⟨_,a1,w1,⟨D',φ',e',h',n',hk,hn',hR',hS'⟩,.pass (x:= .inLoop c') rfl (fun _ _=> .inl (by simp)) harr⟩
   |ret=>exact ⟨_,a1,w1,⟨D',φ',e',h',n',hk,hn',hR',hS'⟩,.pass (x:= .inLoop c') rfl (fun _ _=> .inl (by simp)) harr⟩
   |panic ch=>exact ⟨_,a1,w1,⟨D',φ',e',h',n',hk,hn',hR',hS'⟩,.pass (x:= .inLoop c') rfl (fun _ _=> .inl (by simp)) harr⟩
   |outgrown=>exact ⟨_,a1,w1,⟨D',φ',e',h',n',hk,hn',hR',hS'⟩,.pass (x:= .inLoop c') rfl (fun _ _=> .inl (by simp)) harr⟩
 obtain ⟨hR',hS'⟩:=Rel.weaken h0 h1 hR hS;obtain ⟨ex,a',w',hq,harr⟩:=key (μ x0) x0 rfl _ _ a w hR' hS' h0.OV;exact ⟨ex,a',w',hq,.of_steps (.one (fenced_calm hb hr rfl) stepR_loop) harr⟩
theorem Loop.inv {F:Fx} (hcx:Sound F.P F.cx) (hm:F.P.follows .mixedOrders=true) {c:bG} {K:cF} {X:Type} (I:X->Env×Hp×Nat) (μ:X->Nat) {e:Env} {h:Hp} {n:Nat} (x0:X) (ψ0:Nat->Nat)
 (h0:Wk F.n0 ψ0 e h n (I x0).1 (I x0).2.1 (I x0).2.2)
 (round: ∀x,iw F c (gH K fun e' h' n'=> ∃x' ψ,Wk F.n0 ψ e' h' n' (I x').1 (I x').2.1 (I x').2.2/\μ x'<μ x) (I x).1 (I x).2.1 (I x).2.2):
 Loop F.P F.ct F.N F.n0 c K e h n:=
 Loop.ak0 I μ x0 ψ0 h0 (fun x c' hc'=>gL F hcx hm c' _ _ _ _ (by rw [hc'];exact round x))
end Go.Ab
namespace Go.Ab
inductive lO where
 |t (n:Nat)
 |c (n:Nat) (agg:Bool) (sz:Nat)
structure dm where
 np:Nat
 N:Nat
 ct:List Nat
 code:bG
 res:List lO
def kh (P:Program):List ResultVar->Option (List lO)
 |[]=>some []
 | .tmp t::r=>(kh P r).map (.t t:: ·)
 | .cell a t::r=>(eQ P t).bind fun g=>(e9 P t).bind fun z=>(kh P r).map (.c a g z:: ·)
def aK (P:Program) (fn:Func):Option dm:=
 fn.body.bind fun c=>(kh P fn.results.toList).bind fun rs=>
  if (decide (fn.params.size+fn.nfree<=fn.ntmps)&&Nat.ble P.funcs.size YB)=true then some {np:=fn.params.size+fn.nfree,N:=fn.ntmps,ct:=dq c,code:=bH P (dq c) fn.ntmps c,res:=rs} else none
def kS (e:Env) (h:Hp):List lO->Option (Bool×List AV)
 |[]=>some (true,[])
 | .t n::r=>(cV e n).bind fun v=>(kS e h r).bind fun q=>some (q.1,v::q.2)
 | .c n agg z::r=>(cV e n).bind fun v=>match v with
  | .p b o=>(iO h b).bind fun k=>match agg with
   |true=>(kS e h r).bind fun q=>some (decide ((aA k.cells o z).length=z)&&q.1,.agg (aA k.cells o z)::q.2)
   |false=>(k.cells[o]?).bind fun v=>(kS e h r).bind fun q=>some (q.1,v::q.2)
  |_=>none
def Ia:List AV->AV
 |[v]=>v
 |l=> .bg l
def Jp:List Value->Value
 |[u]=>u
 |l=> .tuple l.toArray
theorem JZ {D:Nat->Prop} {φ:bU}: ∀{l:List AV} {us:List Value},cJ D φ l us->aI D φ (Ia l) (Jp us)
 |[],us,h=>by rw [h.kK];exact aI.By .nil
 |[v],us,h=>by
  obtain ⟨u,m,rfl,h1,h2⟩:=h.dZ;rw [h2.kK];exact h1
 |x::y::l,us,h=>by
  obtain ⟨u,m,rfl,h1,h2⟩:=h.dZ;obtain ⟨u',m',rfl,h3,h4⟩:=h2.dZ;exact aI.By (.cons h1 (.cons h3 h4))
def sM (rs:List lO) (e:Env) (h:Hp):Option (Bool×AV):=
 (kS e h rs).bind fun q=>some (q.1,Ia q.2)
mutual
theorem AV.yC {ψ χ:Nat->Nat} {m:Nat} (hψ: ∀b,b<m->ψ b=χ b): ∀v:AV,v.al m=true->v.aH ψ=v.aH χ
 | .p b o,h=>by simp only [AV.aH,hψ b (iD h)]
 | .sl b o l c,h=>by simp only [AV.aH,hψ b (iD h)]
 | .sg b o l,h=>by simp only [AV.aH,hψ b (iD h)]
 | .fn f l,h=>by simp only [AV.aH,ft hψ l h]
 | .bm f l,h=>by simp only [AV.aH,ft hψ l h]
 | .agg l,h=>by simp only [AV.aH,ft hψ l h]
 | .bg l,h=>by simp only [AV.aH,ft hψ l h]
 | .b x,_=>rfl
 | .i k n,_=>rfl
 | .s l,_=>rfl
 | .np,_=>rfl
 | .ns,_=>rfl
 | .nf,_=>rfl
 | .ni,_=>rfl
 | .fz l n,h=>by simp only [AV.aH,ft hψ l h]
 | .fp l n,h=>by simp only [AV.aH,ft hψ l h]
 | .ze,_=>rfl
 | .en,_=>rfl
 | .any,_=>rfl
 | .k _ _,_=>rfl
 | .m b,h=>by simp only [AV.aH,hψ b (iD h)]
 | .nm,_=>rfl
 | .yl L r ts l,h=>by simp only [AV.aH,ft hψ l h]
theorem ft {ψ χ:Nat->Nat} {m:Nat} (hψ: ∀b,b<m->ψ b=χ b): ∀l:List AV,ae m l=true->aL ψ l=aL χ l
 |[],_=>rfl
 |v::r,h=>by
  simp only [ae,aw] at h;simp only [aL,AV.yC hψ v h.1,ft hψ r h.2]
end
mutual
theorem AV.pE {ψ:Nat->Nat} {m:Nat} (hψ: ∀b,b<m->ψ b=b): ∀v:AV,v.al m=true->v.aH ψ=v
 | .p b o,h=>by simp only [AV.aH,hψ b (iD h)]
 | .sl b o l c,h=>by simp only [AV.aH,hψ b (iD h)]
 | .sg b o l,h=>by simp only [AV.aH,hψ b (iD h)]
 | .fn f l,h=>by simp only [AV.aH,gk hψ l h]
 | .bm f l,h=>by simp only [AV.aH,gk hψ l h]
 | .agg l,h=>by simp only [AV.aH,gk hψ l h]
 | .bg l,h=>by simp only [AV.aH,gk hψ l h]
 | .b x,_=>rfl
 | .i k n,_=>rfl
 | .s l,_=>rfl
 | .np,_=>rfl
 | .ns,_=>rfl
 | .nf,_=>rfl
 | .ni,_=>rfl
 | .fz l n,h=>by simp only [AV.aH,gk hψ l h]
 | .fp l n,h=>by simp only [AV.aH,gk hψ l h]
 | .ze,_=>rfl
 | .en,_=>rfl
 | .any,_=>rfl
 | .k _ _,_=>rfl
 | .m b,h=>by simp only [AV.aH,hψ b (iD h)]
 | .nm,_=>rfl
 | .yl L r ts l,h=>by simp only [AV.aH,gk hψ l h]
theorem gk {ψ:Nat->Nat} {m:Nat} (hψ: ∀b,b<m->ψ b=b): ∀l:List AV,ae m l=true->aL ψ l=l
 |[],_=>rfl
 |v::r,h=>by
  simp only [ae,aw] at h;simp only [aL,AV.pE hψ v h.1,gk hψ r h.2]
end
def qS (rs:List lO) (Q:AV->Hp->Nat->Prop):cF:=fun ex e h n=>
 match ex with
 | .normal=>gd (sM rs e h) fun r=>r.1=true/\Q r.2 h n
 | .ret=>gd (sM rs e h) fun r=>r.1=true/\Q r.2 h n
 |_=>False
def eS:Nat->List AV->Env
 |_,[]=>[]
 |i,v::r=>(i,v)::eS (i+1) r
theorem qP: ∀{l:List AV} {i t:Nat} {v:AV},cV (eS i l) t=some v->i<=t/\l[t-i]? =some v
 |[],_,_,_,h=>by simp [eS,cV] at h
 |x::l,i,t,v,h=>by
  simp only [eS,cV] at h;by_cases hit:t=i
  ·subst hit;simp at h;subst h;simp
  ·rw [bz hit] at h;obtain ⟨h1,h2⟩:=qP h;refine ⟨by omega,?_⟩
   rw [show t-i=(t-(i+1))+1 by omega]
   simpa using h2
section
variable {P:Program} {D:Nat->Prop} {φ:bU} {w:World} {n N:Nat} {e:Env} {h:Hp} {a:Act}
theorem wS (ad:Addr) (w:World):(asAddr (.pointer (some ad))).run P w= .ok ad w:=rfl
def HB (tmps:Array Value):ResultVar->Sem Value
 | .tmp t=>pure (tmps.getD t undef)
 | .cell ad t=>do loadVar t (<-asAddr (tmps.getD ad undef))
theorem D8 (fn:Func) (tmps:Array Value):results fn tmps=(do let vs <-fn.results.mapM (HB tmps);pure (if h:vs.size=1 then vs[0] else .tuple vs)):=rfl
theorem o7 {m:Nat×List Deferred} (hR:Rel D φ e h n N m a w):
 ∀{rv:List ResultVar} {rs:List lO} {q:Bool×List AV},kh P rv=some rs->kS e h rs=some q->q.1=true→
 ∃us:List Value,(rv.mapM (HB a.tmps)).run P w= .ok us w/\cJ D φ q.2 us
 |[],rs,q,h1,h2,_=>by simp [kh] at h1;subst h1;simp [kS] at h2;subst h2;exact ⟨[],by simp,.nil⟩
 | .tmp t::rv,rs,q,h1,h2,hq=>by
  simp only [kh] at h1;obtain ⟨rs',hrs,rfl⟩:=bc.1 h1;simp only [kS,af,aP] at h2;obtain ⟨v,hv,q',hq',rfl⟩:=h2;obtain ⟨us,g1,g2⟩:=o7 hR hrs hq' hq;refine ⟨a.tmps.getD t undef::us,?_,.cons (hR.env t v hv) g2⟩;simp only [List.mapM_cons,Sem.run_bind,HB,Sem.run_pure,Result.andThen_ok];rw [g1];rfl
 | .cell ad t::rv,rs,q,h1,h2,hq=>by
  simp only [kh,af] at h1;obtain ⟨g,hg,z,hz,h1⟩:=h1;obtain ⟨rs',hrs,rfl⟩:=bc.1 h1;simp only [kS,af] at h2;obtain ⟨v,hv,h2⟩:=h2;have hvr:=hR.env ad v hv;split at h2
  ·rename_i b o;simp only [af] at h2;obtain ⟨k,hk,h2⟩:=h2;obtain ⟨hk,hmp⟩:=dO hk;generalize hu:a.tmps.getD ad undef=u at hvr;cases hvr;cases g
   ·simp only [af,aP] at h2;obtain ⟨x,hx,q',hq',rfl⟩:=h2;obtain ⟨us,g1,g2⟩:=o7 hR hrs hq' hq;obtain ⟨y,hy,hyr⟩:=HR.cell (P:=P) hR.heap hk hmp hx;refine ⟨y::us,?_,.cons hyr g2⟩;have hl:(loadVar t ⟨φ.cW b,φ.off b+o,none⟩).run P w= .ok y w:=by
     simp only [loadVar,Sem.run_bind,iI hg,Result.andThen_ok,cY,bV];exact hy
    simp only [List.mapM_cons,Sem.run_bind,HB,hu,wS,Result.andThen_ok,hl,g1,Sem.run_pure]
   ·simp only [af,aP] at h2;obtain ⟨q',hq',rfl⟩:=h2;simp only [aw] at hq;obtain ⟨us,g1,g2⟩:=o7 hR hrs hq' hq.2;obtain ⟨ys,hy,hyr⟩:=HR.row (P:=P) hR.heap hk hmp (bO hq.1);refine ⟨.agg ys.toArray::us,?_,.cons (aI.uP hyr) g2⟩;have hl:(loadVar t ⟨φ.cW b,φ.off b+o,none⟩).run P w= .ok (.agg ys.toArray) w:=by
     simp only [loadVar,Sem.run_bind,iI hg,Result.andThen_ok,cu,run_sizeOf hz,hy,Sem.run_pure]
    simp only [List.mapM_cons,Sem.run_bind,HB,hu,wS,Result.andThen_ok,hl,g1,Sem.run_pure]
  ·cases h2
def cL (P:Program) (f:FuncId) (args:List AV) (h:Hp) (n:Nat) (pn:Option Value) (v:AV) (h':Hp) (n':Nat):Prop:=
 ∀D φ w (us:List Value),(∀b,D b->b<n)->HR D φ (ab h) w->cJ D φ args us→
  rT P f us.toArray w fun e w'=> ∃D' φ' u,e=GQ pn u/\(∀b,D' b->b<n')/\aI D' φ' v u/\dR D φ (ab h) w D' φ' (ab h') w'
abbrev bt (P:Program) (f:FuncId) (args:List AV) (h:Hp) (n:Nat) (v:AV) (h':Hp) (n':Nat):Prop:=cL P f args h n none v h' n'
def C4 (rs:List lO) (Q:Option Value->AV->Hp->Nat->Prop):cF:=fun ex e h n=>
 match ex with
 | .normal=>gd (sM rs e h) fun r=>r.1=true/\Q none r.2 h n
 | .ret=>gd (sM rs e h) fun r=>r.1=true/\Q none r.2 h n
 | .panic [en]=>en.recovered=false/\en.goexit=false/\Q (some en.v) (.bg []) h n
 |_=>False
theorem sr {rs:List lO} {Q:AV->Hp->Nat->Prop} {Q':Option Value->AV->Hp->Nat->Prop} (hq: ∀v h n,Q v h n->Q' none v h n) (ex:Exit) (e:Env) (h:Hp) (n:Nat) (hk:qS rs Q ex e h n):C4 rs Q' ex e h n:=by
 cases ex with
 |normal=>obtain ⟨r,h1,h2,h3⟩:=fw hk;show gd _ _;rw [h1];exact ⟨h2,hq _ _ _ h3⟩
 |ret=>obtain ⟨r,h1,h2,h3⟩:=fw hk;show gd _ _;rw [h1];exact ⟨h2,hq _ _ _ h3⟩
 |_=>exact hk.elim
def Ends (n0:Nat) (v:AV) (h:Hp) (n:Nat) (v2:AV) (h2:Hp) (n2:Nat):Prop:= ∃ψ,Wk n0 ψ [(0,v)] h n [(0,v2)] h2 n2
theorem EJ {P:Program} {f:FuncId} {fn:Func} (hf:P.funcs[f]? =some fn) (hs:Nat.ble P.funcs.size YB=true):f≠YB:=fun e=>by
 have h1:=(gU.1 hf).1;have h2:=Er hs;rw [e] at h1;exact absurd h1 (Nat.not_lt.2 h2)
theorem oM {P:Program} {f:FuncId} {fn:Func} {c:Code} {args:Array Value} {w:World} {R:Ending->World->Prop} (hf:P.funcs[f]? =some fn) (hb:fn.body=some c)
 (h:c.wpIn (Fw none) 0 P (bodyPostM (Fw none) 0 P fn R) {tmps:=args++Array.replicate (fn.ntmps-args.size) undef,defers:=[]} w):Calls P f args w R:=by
 have h1:CallsIn (Fw none) 0 P f args w R:=callsIn_of_wp_marks hf hb trivial h;have h2:CallsIn Fence.wide 0 P f args w R:=h1;exact callsIn_wide.1 h2
theorem rW {P:Program} {fn:Func} {tmps:Array Value} {R:Ending->World->Prop} {m:Nat} {B:List Deferred} {u:FrameMode} (hu:u≠ .run) (S:World->Prop) (JB: ∀w D,S w->m<=D->w.heap[D]? =some (.deferred (some []))->S (w.putObj D (.deferred none)))
 (fin: ∀w,S w->LeavesInM (Fw none) 0 P fn tmps R B u w): ∀(ds:List Nat) (w:World),ds.Nodup->(∀D∈ds,m<=D/\w.heap[D]? =some (.deferred (some [])))->S w→
  LeavesInM (Fw none) 0 P fn tmps R ((ds.map fun D=>{target:= .collected D,args:= #[]})++B) u w
 |[],w,_,_,h=>fin w h
 |D::ds,w,hn,hd,h=>by
  have h0:=hd D ja;refine ⟨hu,.inl ⟨D,_,rfl,run_takeDeferred h0.2,rW hu S JB fin ds _ (D5.1 hn).2 (fun E hE=>⟨(hd E (iZ _ hE)).1,?_⟩) (JB w D h h0.1 h0.2)⟩⟩;have hne:E≠D:=fun e=>(D5.1 hn).1 (e▸hE);rw [World.putObj_heap_other hne];exact (hd E (iZ _ hE)).2
theorem qv {P:Program} {fn:Func} {R:Ending->World->Prop} {N n':Nat} {B:List Deferred} {u:FrameMode} {e':Env} {h':Hp} {D D':Nat->Prop} {φ φ':bU} {H:Hf} {a':Act} {w w':World} (hu:u≠ .run) (hR:Rel D' φ' e' h' n' N (w.heap.size,B) a' w') (hS:dR D φ H w D' φ' (ab h') w')
 (fin: ∀w',Rel D' φ' e' h' n' N (w.heap.size,B) {a' with defers:=B} w'->dR D φ H w D' φ' (ab h') w'->LeavesInM (Fw none) 0 P fn a'.tmps R B u w'):LeavesInM (Fw none) 0 P fn a'.tmps R a'.defers u w':=by
 obtain ⟨ds,h1,h2,h3⟩:=hR.defers;rw [h1];refine rW (m:=w.heap.size) hu (fun w'=>Rel D' φ' e' h' n' N (w.heap.size,B) {a' with defers:=B} w'/\dR D φ H w D' φ' (ab h') w') (fun w1 D1 hs hm hd=> ?_) (fun w' hs=>fin _ hs.1 hs.2) ds w' h2 h3 ⟨⟨hR.lt,hR.env,hR.heap,hR.size,Mk.nil⟩,hS⟩
 have hr:HR D' φ' (ab h') (w1.putObj D1 (.deferred none)):=hs.1.heap.same (fun c cs elem fr hc=>by
  rw [World.putObj_heap_other (fun e=>by rw [e,hd] at hc;cases hc)];exact hc) (fun c es clk hc=>by
  rw [World.putObj_heap_other (fun e=>by rw [e,hd] at hc;cases hc)];exact hc) (fun L r' hL=>by
  have:=hs.1.heap.lp L r' hL;rw [World.putObj_heap_other (fun e=>by rw [e,hd] at this;cases this)];exact this)
 exact ⟨⟨hs.1.lt,hs.1.env,hr,hs.1.size,Mk.nil⟩,hs.2.same hr rfl rfl rfl (by simp [World.putObj]) (fun c hc=>World.putObj_heap_other (by omega))⟩
theorem yZ {P:Program} {fn:Func} {N n':Nat} {m:Nat×List Deferred} {rs:List lO} {q:Bool×AV} {e':Env} {h':Hp} {D':Nat->Prop} {φ':bU} {a':Act} {w':World} (hR':Rel D' φ' e' h' n' N m a' w') (hrs:kh P fn.results.toList=some rs) (hr:sM rs e' h'=some q) (hq:q.1=true):
 ∃u,(results fn a'.tmps).run P w'= .ok u w'/\aI D' φ' q.2 u:=by
 simp only [sM,af] at hr;obtain ⟨q',hq',hr⟩:=hr;simp only [aP] at hr;subst hr;obtain ⟨us',g1,g2⟩:=o7 hR' hrs hq' hq;refine ⟨Jp us',?_,JZ g2⟩;rw [D8];simp only [Sem.run_bind];rw [Array.mapM_eq_mapM_toList];simp only [Sem.run_map];rw [g1];simp only [Result.andThen_ok,Sem.run_pure];congr 1
 match us' with
 |[]=>rfl
 |[u]=>rfl
 |_::_::_=>simp [Jp]
theorem Ba {n0 n n2:Nat} {v v2:AV} {h h2:Hp} {D D0:Nat->Prop} {φ φ0:bU} {H0:Hf} {w w0:World} {u:Value} (hW:Ends n0 v h n v2 h2 n2) (hD0: ∀b,D0 b->b<n0) (hD: ∀b,D b->b<n) (hv:aI D φ v u) (hH:HR D φ (ab h) w) (hS:dR D0 φ0 H0 w0 D φ (ab h) w):
 ∃D' φ',(∀b,D' b->b<n2)/\aI D' φ' v2 u/\dR D0 φ0 H0 w0 D' φ' (ab h2) w:=by
 obtain ⟨ψ,hW⟩:=hW;have hR2:Rel D φ [(0,v)] h n 1 (0,[]) {tmps:= #[u],defers:=[]} w:=by
  refine ⟨hD,fun t x hx=> ?_,hH,rfl,Mk.nil⟩;simp only [cV] at hx;by_cases ht:t=0
  ·subst ht;simp at hx;subst hx;exact hv
  ·rw [bz ht] at hx;simp at hx
 obtain ⟨hR3,hS3⟩:=Rel.weaken hW hD0 hR2 hS;exact ⟨_,_,hR3.lt,hR3.env 0 v2 (by simp [cV]),hS3⟩
def z7 (C:Nat->AV->Hp->Nat->AV->Hp->Nat->Prop):Prop:= ∀n0 v h n v2 h2 n2,C n0 v h n v2 h2 n2-> ∀(D:Nat->Prop) (φ:bU) (w:World) (D0:Nat->Prop) (φ0:bU) (H0:Hf) (w0:World) (u:Value),(∀b,D0 b->b<n0)->(∀b,D b->b<n)->aI D φ v u->HR D φ (ab h) w->dR D0 φ0 H0 w0 D φ (ab h) w→
 ∃D' φ',(∀b,D' b->b<n2)/\aI D' φ' v2 u/\dR D0 φ0 H0 w0 D' φ' (ab h2) w
theorem z7.ends:z7 Ends:=fun _ _ _ _ _ _ _ hW D φ w D0 φ0 H0 w0 u h1 h2 h3 h4 h5=>Ba hW h1 h2 h3 h4 h5
theorem cL.Dt {C:Nat->AV->Hp->Nat->AV->Hp->Nat->Prop} (hC:z7 C) {f:FuncId} {fn:Func} {I:dm} {args:List AV} {pn:Option Value} {v2:AV} {h2:Hp} {n2:Nat} (hf:P.funcs[f]? =some fn) (hI:aK P fn=some I) (hnp:args.length<=I.N)
 (hi: ∀c,bH P I.ct I.N c=I.code->WP P I.N n c (C4 I.res fun p v h' n'=>p=pn/\C n v h' n' v2 h2 n2) (eS 0 args) h n):cL P f args h n pn v2 h2 n2:=by
 intro D φ w us hD0 hH hargs;have hD: ∀b,(fun b=>b<n) b->b<n:=fun b hb=>hb;have hH:HR (fun b=>b<n) φ (ab h) w:=hH.grow hD0;have hargs:cJ (fun b=>b<n) φ args us:=hargs.mono hD0 (dh.refl _ _);have hout: ∀D' φ' H' w',dR (fun b=>b<n) φ (ab h) w D' φ' H' w'->dR D φ (ab h) w D' φ' H' w':=fun D' φ' H' w' hs=>⟨fun b hb=>hs.sub b (hD0 b hb),⟨fun b hb=>hs.agree b (hD0 b hb),hs.agree.fz,hs.agree.lp⟩,hs.hr,hs.eC,hs.oY,hs.jO⟩;simp only [aK,af] at hI;obtain ⟨c,hc,rs,hrs,hI⟩:=hI;split at hI
 ·rename_i hle;rw [aw] at hle;have hfy:f≠YB:=EJ hf hle.2;have hle:=bO hle.1;simp only [aP] at hI;subst hI;simp only at hi hnp;refine rT.of (oM hf hc ?_) hfy (px hf hc);have hsz:(us.toArray++Array.replicate (fn.ntmps-us.toArray.size) undef).size=fn.ntmps:=by
   have:=hargs.1;simp;omega
  have hR:Rel (fun b=>b<n) φ (eS 0 args) h n fn.ntmps (w.heap.size,[]) {tmps:=us.toArray++Array.replicate (fn.ntmps-us.toArray.size) undef,defers:=[]} w:=by
   refine ⟨hD,fun t v hv=> ?_,hH,hsz,Mk.nil⟩;obtain ⟨_,hv'⟩:=qP hv;obtain ⟨u,hu,hr⟩:=hargs.get hv';have hlt:t<us.length:=by
    rcases dw t us.length with h'|h'
    ·exact h'
    ·rw [C1,fM h'] at hu;cases hu
   have:(us.toArray++Array.replicate (fn.ntmps-us.toArray.size) undef).getD t undef=u:=by
    rw [lX,Bj (by simpa using hlt)]
    simp at hu ⊢;simp [hu]
   rw [this];exact hr
  have hw:=hi c rfl none (.inl rfl) [] _ φ (ab h) w hD (bx _) _ φ _ w hR (dR.refl hH);refine wpIn_mono hw (fun ex a' w' hp=> ?_);have fin:(∃D' φ' e' h' n',(gd (sM rs e' h') fun r=>r.1=true/\none=pn/\C n r.2 h' n' v2 h2 n2)/\Rel D' φ' e' h' n' fn.ntmps (w.heap.size,[]) a' w'/\dR (fun b=>b<n) φ (ab h) w D' φ' (ab h') w')→
   LeavesInM (Fw none) 0 P fn a'.tmps (fun e w'=> ∃D' φ' u,e=GQ pn u/\(∀b,D' b->b<n2)/\aI D' φ' v2 u/\dR D φ (ab h) w D' φ' (ab h2) w') a'.defers .returning w':=by
   rintro ⟨D',φ',e',h',n',hret,hR',hS'⟩;refine qv (by simp) hR' hS' (fun w' hR' hS'=> ?_)
   obtain ⟨r,hr,hrc,rfl,hW⟩:=fw hret;obtain ⟨u,hres,hvr⟩:=yZ hR' hrs hr hrc;obtain ⟨D3,φ3,k1,k2,k3⟩:=hC _ _ _ _ _ _ _ hW D' φ' w' _ φ _ w _ hD hR'.lt hvr hR'.heap hS';exact ⟨_,hres,_,_,_,rfl,k1,k2,hout _ _ _ _ k3⟩
  obtain ⟨D',φ',e',h',n',hk,hn',hR',hS'⟩:=hp;cases ex with
  |normal=>exact fin ⟨D',φ',e',h',n',hk,hR',hS'⟩
  |ret=>exact fin ⟨D',φ',e',h',n',hk,hR',hS'⟩
  |panic ch=>
   unfold C4 at hk
   match ch,hk with
   |[en],hk=>
    obtain ⟨h1,h2,rfl,hW⟩:=hk;obtain ⟨v0,r0,g0⟩:=en;simp only at h1 h2;subst h1;subst h2;refine qv (by simp) hR' hS' (fun w' hR' hS'=> ?_)
    obtain ⟨D3,φ3,k1,k2,k3⟩:=hC _ _ _ _ _ _ _ hW D' φ' w' _ φ _ w undef hD hR'.lt BV hR'.heap hS';exact ⟨_,_,_,rfl,k1,k2,hout _ _ _ _ k3⟩
   |[],hk=>exact hk.elim
   |_::_::_,hk=>exact hk.elim
  |_=>exact hk.elim
 ·cases hI
theorem bt.of_wp {f:FuncId} {fn:Func} {I:dm} {args:List AV} {v2:AV} {h2:Hp} {n2:Nat} (hf:P.funcs[f]? =some fn) (hI:aK P fn=some I) (hnp:args.length<=I.N)
 (hi: ∀c,bH P I.ct I.N c=I.code->WP P I.N n c (qS I.res fun v h' n'=>Ends n v h' n' v2 h2 n2) (eS 0 args) h n):bt P f args h n v2 h2 n2:=
 cL.Dt z7.ends hf hI hnp (fun c hc=>(hi c hc).mono (sr fun _ _ _ h=>⟨rfl,h⟩))
theorem cL.dQ {f:FuncId} {fn:Func} {I:dm} {cx:Cx} {args:List AV} {pn:Option Value} {v2:AV} {h2:Hp} {n2:Nat} (hcx:Sound P cx) (hm:P.follows .mixedOrders=true) (hf:P.funcs[f]? =some fn) (hI:aK P fn=some I) (hnp:args.length<=I.N)
 (hi:iw ⟨P,cx,I.ct,I.N,n⟩ I.code (C4 I.res fun p v h' n'=>p=pn/\Ends n v h' n' v2 h2 n2) (eS 0 args) h n):cL P f args h n pn v2 h2 n2:=
 cL.Dt z7.ends hf hI hnp (fun c hc=>gL ⟨P,cx,I.ct,I.N,n⟩ hcx hm c _ _ _ _ (by show iw _ (bH P I.ct I.N c) _ _ _ _;rw [hc];exact hi))
theorem bt.dQ {f:FuncId} {fn:Func} {I:dm} {cx:Cx} {args:List AV} {v2:AV} {h2:Hp} {n2:Nat} (hcx:Sound P cx) (hm:P.follows .mixedOrders=true) (hf:P.funcs[f]? =some fn) (hI:aK P fn=some I) (hnp:args.length<=I.N)
 (hi:iw ⟨P,cx,I.ct,I.N,n⟩ I.code (qS I.res fun v h' n'=>Ends n v h' n' v2 h2 n2) (eS 0 args) h n):bt P f args h n v2 h2 n2:=
 bt.of_wp hf hI hnp (fun c hc=>gL ⟨P,cx,I.ct,I.N,n⟩ hcx hm c _ _ _ _ (by show iw _ (bH P I.ct I.N c) _ _ _ _;rw [hc];exact hi))
theorem Ends.pure {n0 n:Nat} {v:AV} {h:Hp} (hv:v.al n0=true):Ends n0 v h n v [] n0:=by
 refine ⟨_root_.id,bx _,fun _ _=>rfl,fun t x hx=> ?_,fun b k hb=>by simp [ab] at hb,fun b1 b2 k1 k2 hb=>by simp [ab] at hb⟩
 simp only [cV] at hx;by_cases ht:t=0
 ·subst ht;simp at hx;subst hx;exact ⟨by simp [cV,AV.pE (ψ:=_root_.id) (fun _ _=>rfl) v hv],hv⟩
 ·rw [bz ht] at hx;simp at hx
theorem kr {h:Hp} {b:Nat} {k:aW} (hb:ab h b=some k):(b,k)∈h:=by
 induction h with
 |nil=>simp [ab] at hb
 |cons x h ih=>
  obtain ⟨c,j⟩:=x;simp only [ab] at hb;by_cases hc:b=c
  ·subst hc;simp at hb;subst hb;exact ja
  ·rw [bz hc] at hb;exact iZ _ (ih hb)
theorem Ends.MZ {n0 n:Nat} {v:AV} {h h2:Hp} (hv:v.al n0=true) (hh: ∀b k,(b,k)∈h2->ab h b=some k/\ae n0 k.cells=true/\b<n0):Ends n0 v h n v h2 n0:=by
 refine ⟨_root_.id,bx _,fun _ _=>rfl,fun t x hx=> ?_,fun b k hb=> ?_,fun b1 b2 k1 k2 _ _ _ he=>he⟩
 ·simp only [cV] at hx;by_cases ht:t=0
  ·subst ht;simp at hx;subst hx;exact ⟨by simp [cV,AV.pE (ψ:=_root_.id) (fun _ _=>rfl) v hv],hv⟩
  ·rw [bz ht] at hx;simp at hx
 ·obtain ⟨h1,h2,h3⟩:=hh b k (kr hb);refine ⟨?_,h2,h3⟩;simp only [_root_.id,aW.aH,gk (ψ:=_root_.id) (fun _ _=>rfl) k.cells h2];exact h1
theorem ax.uV {pn:Option Value} {f:FuncId} {argsL args:List AV} {hL hR h:Hp} {k kR n:Nat} {vR:AV} {E:bX} {ψ:Nat->Nat} (hc:Go.Ab.bJ P f=true) (hft:cL P f argsL hL k pn vR hR kR) (hpn:E.pn=pn) (hk:k<=kR)
 (hbel:ae k argsL=true) (hcov: ∀b,b<k-> ∃kk,ab hL b=some kk) (hhb: ∀b kk,ab hL b=some kk->b<k/\ae k kk.cells=true) (hargs:args=aL ψ argsL)
 (hheap: ∀b kk,ab hL b=some kk->only (ab h) E.rd (ψ b)=some (kk.aH ψ))
 (hinj: ∀b1 b2 k1 k2,ab hL b1=some k1->ab hL b2=some k2->k1.ro=false->ψ b1=ψ b2->b1=b2)
 (hn:E.n=n+(kR-k)) (hv:E.v=vR.aH (fun b=>if b<k then ψ b else n+(b-k)))
 (hmd: ∀b r,dH E.md b=some r->inl E.rd b=true) (hnw: ∀b kk,ab E.nw b=some kk->n<=b/\b<E.n)
 (hE: ∀c kk,E.app (only (ab h) E.rd) c=some kk-> ∃b kb,ab hR b=some kb/\b<kR/\c=(if b<k then ψ b else n+(b-k))/\kk=kb.aH (fun b=>if b<k then ψ b else n+(b-k))/\(kb.ro=true->b<k/\ab hL b=some kb)):ax P f args h n E:=by
 refine ⟨hc,by omega,hmd,hnw,fun D φ w us hfresh hH hA=> ?_⟩
 subst hargs
 -- the callee's own names
 have hD: ∀b,(b<k/\D (ψ b))->b<k:=fun b hb=>hb.1;have hHL:HR (fun b=>b<k/\D (ψ b)) (φ.comp ψ) (ab hL) w:=by
  refine ⟨⟨fun b kk hb=> ?_,fun b1 b2 k1 k2 hne h1 h2 hro=> ?_⟩,hH.fz,hH.lp,fun b kk B vs hb hk hB=>hH.kD (ψ b) (kk.aH ψ) B vs (hheap b kk hb) hk hB⟩
  ·obtain ⟨g1,g2⟩:=hhb b kk hb;obtain ⟨hd,⟨⟨cs,elem,fr,q1,q2,q3,q4⟩,q5⟩⟩:=hH.at_ (ψ b) _ (hheap b kk hb);refine ⟨⟨g1,hd⟩,⟨⟨cs,elem,fr,q1,fun i v hv=> ?_,q3,q4⟩,q5⟩⟩;obtain ⟨u,hu,hr⟩:=q2 i (v.aH ψ) (by simp [aW.aH,dM,hv])
   exact ⟨u,hu,hr.Ed v rfl (cX g2 v (bR hv))⟩
  ·exact hH.sep (ψ b1) (ψ b2) _ _ (fun e=>hne (hinj b1 b2 k1 k2 h1 h2 hro e)) (hheap b1 k1 h1) (hheap b2 k2 h2) hro
 have hAL:cJ (fun b=>b<k/\D (ψ b)) (φ.comp ψ) argsL us:=by
  rw [dM] at hA;refine ⟨by simpa using hA.1,fun i a u ha hu=> ?_⟩
  exact (hA.2 i (a.aH ψ) u (by simp [ha]) hu).Ed a rfl (cX hbel a (bR ha))
 have hlt: ∀b,(b<k/\D (ψ b))->b<k:=fun b hb=>hb.1;have hHL':HR (fun b=>b<k) (φ.comp ψ) (ab hL) w:=hHL.grow hlt;refine (hft (fun b=>b<k) (φ.comp ψ) w us (fun b hb=>hb) hHL' (hAL.mono hlt (dh.refl _ _))).mono fun e w' hx=> ?_;obtain ⟨D',φ',u,rfl,hD',hv',hS⟩:=hx;subst hpn;have hcovD: ∀b,b<k->D (ψ b):=fun b hb=>by
  obtain ⟨kk,hkk⟩:=hcov b hb;exact (hHL.at_ b kk hkk).1.2
 -- back to the caller's
 let χ:Nat->Nat:=fun b=>if b<k then ψ b else n+(b-k)
 let φ2:bU:={cW:=fun c=>if n<=c/\c<E.n then φ'.cW (k+(c-n)) else φ.cW c,off:=fun c=>if n<=c/\c<E.n then φ'.off (k+(c-n)) else φ.off c,cap:=fun c=>if n<=c/\c<E.n then φ'.cap (k+(c-n)) else φ.cap c,fK:=fun c=>if n<=c/\c<E.n then φ'.fK (k+(c-n)) else φ.fK c,fz:=φ'.fz,lp:=φ'.lp}
 have hDm: ∀c,D c->Dn D n E.n c:=fun c hc=> .inl hc;have hag:dh D φ φ2:=⟨fun c hc=>by
  have: ¬(n<=c/\c<E.n):=fun hh=>hfresh c hh.1 hh.2 hc;simp [φ2,this],hS.agree.fz,hS.agree.lp⟩
 have hχD: ∀b,D' b->Dn D n E.n (χ b):=fun b hb=>by
  have:=hD' b hb;by_cases hbk:b<k
  ·simp only [χ,hbk,cu];exact .inl (hcovD b hbk)
  ·simp only [χ,hbk,bV];exact .inr ⟨by omega,by omega⟩
 have hφχ: ∀b,b<kR->φ'.cW b=φ2.cW (χ b)/\φ'.off b=φ2.off (χ b)/\φ'.cap b=φ2.cap (χ b)/\φ'.fK b=φ2.fK (χ b):=fun b hb=>by
  by_cases hbk:b<k
  ·have h1: ¬(n<=ψ b/\ψ b<E.n):=fun hh=>hfresh _ hh.1 hh.2 (hcovD b hbk);have h2:=hS.agree b hbk;simp only [χ,hbk,cu,φ2,h1,bV];exact h2
  ·have h1:n<=n+(b-k)/\n+(b-k)<E.n:=⟨by omega,by omega⟩
   have h2:k+(n+(b-k)-n)=b:=by omega
   simp only [χ,hbk,bV,φ2,h1,pU,cu,h2]
 refine ⟨u,φ2,rfl,?_,⟨hDm,hag,⟨⟨fun c kk hc=> ?_,fun c1 c2 k1 k2 hne h1 h2 hro=> ?_⟩,hS.hr.fz,hS.hr.lp,fun c kk B vs hc hro hB=> ?_⟩,⟨hS.eC.os,hS.eC.tape,hS.eC.output,hS.eC.size,fun c hc hno=>hS.eC.block c hc (fun b kb hb hro=> ?_)⟩,fun c kk hc hro=> ?_,fun B vs hB=> ?_⟩,fun c kk hc hro=> ?_⟩
 ·rw [hv];exact hv'.aH hχD (fun b hb=>hφχ b (hD' b hb)) (fun _ _ h=>h) (fun _ _ h=>h)
 ·obtain ⟨b,kb,g1,g2,rfl,rfl,g5⟩:=hE c kk hc;obtain ⟨hd,⟨⟨cs,elem,fr,q1,q2,q3,q4⟩,q5⟩⟩:=hS.hr.at_ b kb g1;obtain ⟨f1,f2,f3,f4⟩:=hφχ b g2;refine ⟨hχD b hd,⟨⟨cs,elem,fr,by rw [<-f1];exact q1,fun i v hv=> ?_,fun hr=>by rw [<-f2];exact q3 hr,fun e he=>by rw [<-f2,<-f3,<-f4];exact q4 e he⟩,fun g hg=>by rw [<-f1,<-f2];exact q5 g hg⟩⟩
  simp only [aW.aH,dM,gF,bc] at hv;obtain ⟨v',hv',rfl⟩:=hv;obtain ⟨u',hu',hr'⟩:=q2 i v' hv';exact ⟨u',by rw [<-f2];exact hu',hr'.aH hχD (fun b hb=>hφχ b (hD' b hb)) (fun _ _ h=>h) (fun _ _ h=>h)⟩
 ·obtain ⟨b1,kb1,g1,g2,rfl,rfl,_⟩:=hE c1 k1 h1;obtain ⟨b2,kb2,g3,g4,rfl,rfl,_⟩:=hE c2 k2 h2;have e1:=(hφχ b1 g2).1;have e2:=(hφχ b2 g4).1;show φ2.cW (χ b1)≠φ2.cW (χ b2);rw [<-e1,<-e2];exact hS.hr.sep b1 b2 kb1 kb2 (fun e=>hne (by rw [e])) g1 g3 hro
 ·obtain ⟨b,kb,g1,g2,rfl,rfl,_⟩:=hE c kk hc;show φ2.cW (χ b)≠B;rw [<-(hφχ b g2).1];exact hS.hr.kD b kb B vs g1 hro hB
 ·exact hno (ψ b) _ (hheap b kb hb) hro
 ·obtain ⟨b,kb,g1,g2,rfl,rfl,_⟩:=hE c kk hc;have e1:=(hφχ b g2).1;show w.heap.size<=φ2.cW (χ b)\/ ∃m km,only (ab h) E.rd m=some km/\km.ro=false/\φ.cW m=φ2.cW (χ b);rw [<-e1];rcases hS.oY b kb g1 hro with h1|⟨m,km,h1,h2,h3⟩
  ·exact .inl h1
  ·exact .inr ⟨ψ m,_,hheap m km h1,h2,h3⟩
 ·rcases hS.jO B vs hB with h1|h1|⟨m,km,h1,h2,h3⟩
  ·exact .inl h1
  ·exact .inr (.inl h1)
  ·exact .inr (.inr ⟨ψ m,_,hheap m km h1,h2,h3⟩)
 ·obtain ⟨b,kb,g1,g2,rfl,rfl,g5⟩:=hE c kk hc;obtain ⟨h1,h2⟩:=g5 hro;rw [aM h1,hheap b kb h2];congr 1;simp only [aW.aH,aW.mk.injEq,dr];exact ft (m:=k) (fun b hb=>by simp [hb]) _ (hhb b kb h2).2
theorem ax.IG {f:FuncId} {argsL args:List AV} {hL hR h:Hp} {k kR n:Nat} {vR:AV} {E:bX} {ψ:Nat->Nat} (hc:Go.Ab.bJ P f=true) (hft:bt P f argsL hL k vR hR kR) (hk:k<=kR)
 (hbel:ae k argsL=true) (hcov: ∀b,b<k-> ∃kk,ab hL b=some kk) (hhb: ∀b kk,ab hL b=some kk->b<k/\ae k kk.cells=true) (hargs:args=aL ψ argsL)
 (hheap: ∀b kk,ab hL b=some kk->only (ab h) E.rd (ψ b)=some (kk.aH ψ))
 (hinj: ∀b1 b2 k1 k2,ab hL b1=some k1->ab hL b2=some k2->k1.ro=false->ψ b1=ψ b2->b1=b2)
 (hn:E.n=n+(kR-k)) (hv:E.v=vR.aH (fun b=>if b<k then ψ b else n+(b-k)))
 (hmd: ∀b r,dH E.md b=some r->inl E.rd b=true) (hnw: ∀b kk,ab E.nw b=some kk->n<=b/\b<E.n)
 (hE: ∀c kk,E.app (only (ab h) E.rd) c=some kk-> ∃b kb,ab hR b=some kb/\b<kR/\c=(if b<k then ψ b else n+(b-k))/\kk=kb.aH (fun b=>if b<k then ψ b else n+(b-k))/\(kb.ro=true->b<k/\ab hL b=some kb)) (hpn:E.pn=none:=by rfl):ax P f args h n E:=
 ax.uV hc hft hpn hk hbel hcov hhb hargs hheap hinj hn hv hmd hnw hE
end
end Go.Ab
namespace Go.Ab
@[congr] theorem gd_congr {α:Type} {x y:Option α} {k:α->Prop} (h:x=y):gd x k=gd y k:=by rw [h]
theorem KQ {α:Type} {a:α} {k:α->Prop}:gd (some a) k=k a:=(rfl)
@[congr] theorem bind_congr' {α β:Type} {x y:Option α} {k:α->Option β} (h:x=y):x.bind k=y.bind k:=by rw [h]
theorem qG {α β:Type} {a:α} {k:α->Option β}:(some a).bind k=k a:=(rfl)
def iV (c:Bool) (k:Prop):Prop:=c=true/\k
theorem zK {k:Prop}:iV true k=k:=by simp [iV]
theorem jP {c:Bool} {k:Prop} (h1:c=true) (h2:k):iV c k:=⟨h1,h2⟩
def lk (cx:Cx) (o:jJ) (e:Env) (h:Hp) (n:Nat):Option (Bool×Option Value×AV×Hp×Nat):=
 (cA cx o e h n).bind fun r=>some (r.1,r.2.pn,r.2.v,r.2.fe h,r.2.n)
def GZ (x:Option (Bool×Option Value×AV×Hp×Nat)) (k:Bool->Option Value->AV->Hp->Nat->Prop):Prop:=
 match x with
 |some (c,p,v,h,n)=>k c p v h n
 |none=>False
@[congr] theorem gd4_congr {x y:Option (Bool×Option Value×AV×Hp×Nat)} {k:Bool->Option Value->AV->Hp->Nat->Prop} (h:x=y):GZ x k=GZ y k:=by rw [h]
theorem Jc {c:Bool} {p:Option Value} {v:AV} {h:Hp} {n:Nat} {k:Bool->Option Value->AV->Hp->Nat->Prop}:GZ (some (c,p,v,h,n)) k=k c p v h n:=(rfl)
theorem ama {K:cF} {e:Env} {h:Hp} {n:Nat} {k:Prop}:DY none K e h n k=k:=(rfl)
theorem agi {u:Value} {K:cF} {e:Env} {h:Hp} {n:Nat} {k:Prop}:DY (some u) K e h n k=K (.panic [{v:=u,recovered:=false}]) e h n:=(rfl)
def p3 (cx:Cx) (un:List Nat) (i:Nat) (dn:List (Nat×bX)) (o:jJ) (e:Env) (h:Hp) (n:Nat):Option (Bool×Option Value×AV×Hp×Nat×List (Nat×bX)):=
 (cA cx o e h n).bind fun r=>some (r.1&&nV h n r.2&&pQ un r.2 dn,r.2.pn,r.2.v,r.2.fe h,r.2.n,l0 i r.2 dn)
def KJ (x:Option (Bool×Option Value×AV×Hp×Nat×List (Nat×bX))) (k:Bool->Option Value->AV->Hp->Nat->List (Nat×bX)->Prop):Prop:=
 match x with
 |some (c,p,v,h,n,d)=>k c p v h n d
 |none=>False
@[congr] theorem gd5_congr {x y:Option (Bool×Option Value×AV×Hp×Nat×List (Nat×bX))} {k:Bool->Option Value->AV->Hp->Nat->List (Nat×bX)->Prop} (h:x=y):KJ x k=KJ y k:=by rw [h]
theorem Ke {c:Bool} {p:Option Value} {v:AV} {h:Hp} {n:Nat} {d:List (Nat×bX)} {k:Bool->Option Value->AV->Hp->Nat->List (Nat×bX)->Prop}:KJ (some (c,p,v,h,n,d)) k=k c p v h n d:=(rfl)
theorem am7 {un:List Nat} {os:List (aj×List Nat)} {K:cF} {e:Env} {h:Hp} {n:Nat} {k:Prop}:FG none un os K e h n k=k:=(rfl)
theorem ang {u:Value} {K:cF} {e:Env} {h:Hp} {n:Nat} {k:Prop}:FG (some u) [] [] K e h n k=K (.panic [{v:=u,recovered:=false}]) e h n:=by simp [FG]
theorem vM {p:Option Value} {un:List Nat} {os:List (aj×List Nat)} {K K':cF} {e:Env} {h:Hp} {n:Nat} {k k':Prop} (hK: ∀ex e h n,K ex e h n->K' ex e h n) (hk:k->k') (hp:FG p un os K e h n k):FG p un os K' e h n k':=by
 cases p with
 |none=>exact hk hp
 |some u=>exact ⟨hp.1,hK _ _ _ _ hp.2⟩
def kF (v:AV) (b:Bool) (y n:Prop):Prop:=
 match v,b with
 | .b true,true=>y
 | .b false,false=>y
 | .b true,false=>n
 | .b false,true=>n
 | .bg [],_=>n
 |_,_=>False
theorem HY {y n:Prop}:kF (.b true) true y n=y:=(rfl)
theorem J4 {y n:Prop}:kF (.b false) false y n=y:=(rfl)
theorem I0 {y n:Prop}:kF (.b true) false y n=n:=(rfl)
theorem Jd {y n:Prop}:kF (.b false) true y n=n:=(rfl)
theorem OW {b:Bool} {y n:Prop}:kF (.bg []) b y n=n:=by cases b<;>rfl
theorem E8 {e:Env} {t:Nat} {b:Bool} {k:Bool->Prop}:(gd (cV e t) fun v=>kF v b (k true) (k false))->gd (jn e (some (t,b))) k:=fun h=>by
 obtain ⟨v,hv,h⟩:=fw h;simp only [jn,hv];unfold kF at h;split at h
 ·exact h
 ·exact h
 ·exact h
 ·exact h
 ·exact h
 ·exact h.elim
def uv (v:AV) (y n:Prop):Prop:=
 match v with
 | .b true=>y
 | .b false=>n
 |_=>False
theorem Oq {y n:Prop}:uv (.b true) y n=y:=(rfl)
theorem Nj {y n:Prop}:uv (.b false) y n=n:=(rfl)
def jR (cx:Cx):List aj->Env->Hp->Nat->cF->Prop
 |[],e,h,n,K=>K .normal e h n
 |⟨d,o,none,s⟩::os,e,h,n,K=>GZ (lk cx o e h n) fun c p v h n=>iV c (DY p K e h n (gY s v fun v=>jR cx os (ij d v e) h n K))
 |⟨d,o,some (t,b),s⟩::os,e,h,n,K=>gd (cV e t) fun v=>kF v b
  (GZ (lk cx o e h n) fun c p v h n=>iV c (DY p K e h n (gY s v fun v=>jR cx os (ij d v e) h n K)))
  (jR cx os (ij d (.bg []) e) h n K)
section
variable {cx:Cx} {d:Nat} {o:jJ} {s:Bool} {os:List aj} {e:Env} {h:Hp} {n t:Nat} {b:Bool} {K:cF}
theorem ID:jR cx [] e h n K=K .normal e h n:=(rfl)
theorem XR:jR cx (⟨some d,o,none,s⟩::os) e h n K=GZ (lk cx o e h n) fun c p v h n=>iV c (DY p K e h n (gY s v fun v=>jR cx os ((d,v)::e) h n K)):=(rfl)
theorem adG:jR cx (⟨none,o,none,s⟩::os) e h n K=GZ (lk cx o e h n) fun c p v h n=>iV c (DY p K e h n (gY s v fun _=>jR cx os e h n K)):=(rfl)
theorem Oo:jR cx (⟨some d,o,some (t,b),s⟩::os) e h n K=gd (cV e t) fun v=>kF v b (jR cx (⟨some d,o,none,s⟩::os) e h n K) (jR cx os ((d,.bg [])::e) h n K):=(rfl)
end
theorem vU {p:Option Value} {K K':cF} {e:Env} {h:Hp} {n:Nat} {k k':Prop} (hK: ∀ex e h n,K ex e h n->K' ex e h n) (hk:k->k') (hp:DY p K e h n k):DY p K' e h n k':=by
 cases p with
 |none=>exact hk hp
 |some u=>exact hK _ _ _ _ hp
theorem I2 {cx:Cx} {o:jJ} {e:Env} {h:Hp} {n:Nat} {s:Bool} {K:cF} {k k':AV->Hp->Nat->Prop} (hr:GZ (lk cx o e h n) fun c p v h n=>iV c (DY p K e h n (gY s v fun v=>k v h n)))
 (hk: ∀{s v} {k k':AV->Prop},(∀v,k v->k' v)->gY s v k->gY s v k') (hkk: ∀v h n,k v h n->k' v h n):gd (cA cx o e h n) fun r=>r.1=true/\DY r.2.pn K e (r.2.fe h) r.2.n (gY s r.2.v fun v=>k' v (r.2.fe h) r.2.n):=by
 unfold lk at hr;cases hx:cA cx o e h n with
 |none=>rw [hx] at hr;exact hr.elim
 |some r=>rw [hx] at hr;exact ⟨hr.1,vU (fun _ _ _ _ h=>h) (hk (fun v hv=>hkk _ _ _ hv)) hr.2⟩
theorem jk {s:Bool} {v:AV} {k k':AV->Prop} (hk: ∀v,k v->k' v) (h:gY s v k):gY s v k':=by
 unfold gY at h ⊢;split
 ·exact ⟨fun hc=>hk _ (h.1 hc),fun hc=>hk _ (h.2 hc)⟩
 ·rename_i hno;split at h
  ·rename_i c;exact (hno c rfl rfl).elim
  ·exact hk _ h
theorem gX {α:Type} {x:Option α} {k k':α->Prop} (hk: ∀a,k a->k' a) (h:gd x k):gd x k':=by
 cases x with
 |none=>exact h
 |some a=>exact hk a h
theorem fq {cx:Cx}: ∀{l:List aj} {e:Env} {h:Hp} {n:Nat} {K:cF},jR cx l e h n K->ic cx l e h n K
 |[],e,h,n,K,hr=>hr
 |⟨d,o,none,s⟩::os,e,h,n,K,hr=>by
  simp only [jR] at hr;rw [ic];show gd (cA cx o e h n) _;exact I2 hr jk (fun v h n hv=>fq hv)
 |⟨d,o,some (t,b),s⟩::os,e,h,n,K,hr=>by
  simp only [jR] at hr;unfold ic;refine E8 (gX (fun v hv=> ?_) hr);unfold kF at hv ⊢;split at hv<;>first
   |exact I2 hv jk (fun v h n hv=>fq hv)
   |exact fq hv
   |exact hv.elim
def rD (cx:Cx):List (aj×List Nat)->Nat->List (Nat×bX)->Env->Hp->Nat->cF->Prop
 |[],_,_,e,h,n,K=>K .normal e h n
 |(⟨d,o,none,s⟩,un)::os,i,dn,e,h,n,K=>KJ (p3 cx un i dn o e h n) fun c p v h n dn=>iV c (FG p un os K e h n (gY s v fun v=>rD cx os (i+1) dn (ij d v e) h n K))
 |(⟨d,o,some (t,b),s⟩,un)::os,i,dn,e,h,n,K=>gd (cV e t) fun v=>kF v b
  (KJ (p3 cx un i dn o e h n) fun c p v h n dn=>iV c (FG p un os K e h n (gY s v fun v=>rD cx os (i+1) dn (ij d v e) h n K)))
  (rD cx os (i+1) dn (ij d (.bg []) e) h n K)
section
variable {cx:Cx} {d:Nat} {o:jJ} {s:Bool} {un:List Nat} {os:List (aj×List Nat)} {e:Env} {h:Hp} {i n t:Nat} {dn:List (Nat×bX)} {b:Bool} {K:cF}
theorem SS:rD cx [] i dn e h n K=K .normal e h n:=(rfl)
theorem ark:rD cx ((⟨some d,o,none,s⟩,un)::os) i dn e h n K=KJ (p3 cx un i dn o e h n) fun c p v h n dn=>iV c (FG p un os K e h n (gY s v fun v=>rD cx os (i+1) dn ((d,v)::e) h n K)):=(rfl)
theorem ar6:rD cx ((⟨none,o,none,s⟩,un)::os) i dn e h n K=KJ (p3 cx un i dn o e h n) fun c p v h n dn=>iV c (FG p un os K e h n (gY s v fun _=>rD cx os (i+1) dn e h n K)):=(rfl)
theorem afq:rD cx ((⟨some d,o,some (t,b),s⟩,un)::os) i dn e h n K=gd (cV e t) fun v=>kF v b (rD cx ((⟨some d,o,none,s⟩,un)::os) i dn e h n K) (rD cx os (i+1) dn ((d,.bg [])::e) h n K):=(rfl)
end
theorem Iq {cx:Cx} {un:List Nat} {i:Nat} {dn:List (Nat×bX)} {o:jJ} {e:Env} {h:Hp} {n:Nat} {s:Bool} {os:List (aj×List Nat)} {K:cF} {k k':AV->Hp->Nat->List (Nat×bX)->Prop} (hr:KJ (p3 cx un i dn o e h n) fun c p v h n dn=>iV c (FG p un os K e h n (gY s v fun v=>k v h n dn)))
 (hkk: ∀v h n d,k v h n d->k' v h n d):gd (cA cx o e h n) fun r=>(r.1&&nV h n r.2&&pQ un r.2 dn)=true/\FG r.2.pn un os K e (r.2.fe h) r.2.n (gY s r.2.v fun v=>k' v (r.2.fe h) r.2.n (l0 i r.2 dn)):=by
 unfold p3 at hr;cases hx:cA cx o e h n with
 |none=>rw [hx] at hr;exact hr.elim
 |some r=>rw [hx] at hr;exact ⟨hr.1,vM (fun _ _ _ _ h=>h) (jk (fun v hv=>hkk _ _ _ _ hv)) hr.2⟩
theorem kM {cx:Cx}: ∀{l:List (aj×List Nat)} {i:Nat} {dn:List (Nat×bX)} {e:Env} {h:Hp} {n:Nat} {K:cF},rD cx l i dn e h n K->pH cx l i dn e h n K
 |[],i,dn,e,h,n,K,hr=>hr
 |(⟨d,o,none,s⟩,un)::os,i,dn,e,h,n,K,hr=>by
  simp only [rD] at hr;rw [pH];show gd (cA cx o e h n) _;exact Iq (k':=fun v h n dn=>pH cx os (i+1) dn (ij d v e) h n K) hr (fun v h n dn hv=>kM hv)
 |(⟨d,o,some (t,b),s⟩,un)::os,i,dn,e,h,n,K,hr=>by
  simp only [rD] at hr;unfold pH;refine E8 (gX (fun v hv=> ?_) hr);unfold kF at hv ⊢;split at hv<;>first
   |exact Iq (k':=fun v h n dn=>pH cx os (i+1) dn (ij d v e) h n K) hv (fun v h n dn hv=>kM hv)
   |exact kM hv
   |exact hv.elim
def jw (F:Fx):bG->cF->Env->Hp->Nat->Prop
 | .skip,K,e,h,n=>K .normal e h n
 | .cQ ops,K,e,h,n=>jR F.cx ops e h n K
 | .cG ops,K,e,h,n=>rD F.cx ops 0 [] e h n K
 | .seq a b,K,e,h,n=>jw F a (gH K (jw F b K)) e h n
 | .cond c a b,K,e,h,n=>gd (c.ev e h) fun v=>uv v (jw F a K e h n) (jw F b K e h n)
 | .block id c,K,e,h,n=>jw F c (iz id K) e h n
 | .loop c,K,e,h,n=>Loop F.P F.ct F.N F.n0 c K e h n
 | .scope c,K,e,h,n=>jw F c (Dy K) e h n
 | .oO g ps a b,K,e,h,n=>oA F.P F.ct F.N F.n0 g ps a b K e h n
 | .exit id,K,e,h,n=>K (.exit id) e h n
 | .ret,K,e,h,n=>K .ret e h n
 | .bad,_,_,_,_=>False
theorem iK {cx:Cx}: ∀{l:List aj} {e:Env} {h:Hp} {n:Nat} {K K':cF},(∀ex e h n,K ex e h n->K' ex e h n)->ic cx l e h n K->ic cx l e h n K'
 |[],e,h,n,K,K',hk,hr=>hk _ _ _ _ hr
 |o::os,e,h,n,K,K',hk,hr=>by
  simp only [ic] at hr ⊢;refine gX (fun b hb=> ?_) hr;cases b
  ·exact iK hk hb
  ·exact gX (fun r hr=>⟨hr.1,vU hk (jk (fun v hv=>iK hk hv)) hr.2⟩) hb
theorem tr {cx:Cx}: ∀{l:List (aj×List Nat)} {i:Nat} {dn:List (Nat×bX)} {e:Env} {h:Hp} {n:Nat} {K K':cF},(∀ex e h n,K ex e h n->K' ex e h n)->pH cx l i dn e h n K->pH cx l i dn e h n K'
 |[],i,dn,e,h,n,K,K',hk,hr=>hk _ _ _ _ hr
 |o::os,i,dn,e,h,n,K,K',hk,hr=>by
  obtain ⟨o,un⟩:=o;simp only [pH] at hr ⊢;refine gX (fun b hb=> ?_) hr;cases b
  ·exact tr hk hb
  ·exact gX (fun r hr=>⟨hr.1,vM hk (jk (fun v hv=>tr hk hv)) hr.2⟩) hb
theorem Loop.mono {P:Program} {ct:List Nat} {N n0:Nat} {c:bG} {K K':cF} {e:Env} {h:Hp} {n:Nat} (hk: ∀ex e h n,K ex e h n->K' ex e h n) (hl:Loop P ct N n0 c K e h n):Loop P ct N n0 c K' e h n:=
 fun c' hc=>(hl c' hc).mono hk
theorem oA.mono {P:Program} {ct:List Nat} {N n0:Nat} {g:cC} {ps:List Nat} {a b:bG} {K K':cF} {e:Env} {h:Hp} {n:Nat} (hk: ∀ex e h n,K ex e h n->K' ex e h n) (hl:oA P ct N n0 g ps a b K e h n):oA P ct N n0 g ps a b K' e h n:=
 fun c' hc=>(hl c' hc).mono hk
theorem pv {F:Fx}: ∀{c:bG} {K K':cF} {e:Env} {h:Hp} {n:Nat},(∀ex e h n,K ex e h n->K' ex e h n)->iw F c K e h n->iw F c K' e h n:=by
 intro c;induction c with
 |skip=>intro K K' e h n hk hi;exact hk _ _ _ _ hi
 |cQ ops=>intro K K' e h n hk hi;exact iK hk hi
 |cG ops=>intro K K' e h n hk hi;exact tr hk hi
 |seq a b iha ihb=>
  intro K K' e h n hk hi;exact iha (fun ex e h n hx=>by cases ex<;>first|exact ihb hk hx|exact hk _ _ _ _ hx) hi
 |cond c a b iha ihb=>
  intro K K' e h n hk hi;refine gX (fun v hv=> ?_) hi;split at hv
  ·exact ⟨fun hc=>iha hk (hv.1 hc),fun hc=>ihb hk (hv.2 hc)⟩
  ·exact hv.elim
 |block id c ih=>
  intro K K' e h n hk hi;exact ih (fun ex e h n hx=>by
   cases ex with
   |exit i=>simp only [iz] at hx ⊢;split<;>rename_i hid<;>simp only [hid,cu,bV] at hx<;>exact hk _ _ _ _ hx
   |_=>exact hk _ _ _ _ hx) hi
 |loop c ih=>intro K K' e h n hk hi;exact Loop.mono hk hi
 |oO g ps a b=>intro K K' e h n hk hi;exact oA.mono hk hi
 |scope c ih=>intro K K' e h n hk hi;exact ih (fun ex e h n hx=>by cases ex<;>first|exact hx.elim|exact hk _ _ _ _ hx) hi
 |exit id=>intro K K' e h n hk hi;exact hk _ _ _ _ hi
 |ret=>intro K K' e h n hk hi;exact hk _ _ _ _ hi
 |bad=>intro K K' e h n hk hi;exact hi.elim
theorem aQ {F:Fx}: ∀{c:bG} {K:cF} {e:Env} {h:Hp} {n:Nat},jw F c K e h n->iw F c K e h n:=by
 intro c;induction c with
 |skip=>intro K e h n hi;exact hi
 |cQ ops=>intro K e h n hi;exact fq hi
 |cG ops=>intro K e h n hi;exact kM hi
 |seq a b iha ihb=>
  intro K e h n hi;have hi2:iw F a (gH K (jw F b K)) e h n:=iha hi;show iw F a (gH K (iw F b K)) e h n;exact pv (fun ex e h n hx=>by cases ex<;>first|exact ihb hx|exact hx) hi2
 |cond c a b iha ihb=>
  intro K e h n hi;simp only [jw] at hi;unfold iw;refine gX (fun v hv=> ?_) hi;unfold uv at hv;split at hv
  ·exact ⟨fun _=>iha hv,fun hc=>by cases hc⟩
  ·exact ⟨fun hc=>Bool.noConfusion hc,fun _=>ihb hv⟩
  ·exact hv.elim
 |block id c ih=>intro K e h n hi;exact ih hi
 |loop c ih=>intro K e h n hi;exact hi
 |oO g ps a b=>intro K e h n hi;exact hi
 |scope c ih=>intro K e h n hi;exact ih hi
 |exit id=>intro K e h n hi;exact hi
 |ret=>intro K e h n hi;exact hi
 |bad=>intro K e h n hi;exact hi.elim
end Go.Ab
namespace Go.Ab
theorem Gn {c:Nat} {k:AV} {r:Env} {b:Nat}:cV ((c,k)::r) b=if c=b then some k else cV r b:=by
 simp only [cV];by_cases h:c=b
 ·subst h;simp
 ·rw [aN h,bz (fun e=>h e.symm)];rfl
theorem Yl {h:Hp} {b:Nat}:iO h b=(ab h b).bind aW.DH:=(rfl)
@[simp] theorem dV {c:List AV} {r:Bool} {g i:Option Nat}:aW.DH ⟨c,r,g,i,none⟩=some ⟨c,r,g,i,none⟩:=(rfl)
theorem pb {c:Nat} {k:aW} {r:Hp} {b:Nat}:ab ((c,k)::r) b=if c=b then some k else ab r b:=by
 simp only [ab];by_cases h:c=b
 ·subst h;simp
 ·rw [aN h,bz (fun e=>h e.symm)];rfl
theorem yE {c:Nat} {k x:aW} {r:Hp} {b:Nat}:ig ((c,k)::r) b x=if c=b then (c,x)::r else (c,k)::ig r b x:=by
 simp only [ig];by_cases h:c=b
 ·subst h;simp
 ·rw [aN h,bz (fun e=>h e.symm)];rfl
theorem Iy {b:Nat}:nH [] b=[]:=(rfl)
theorem l5 {c:Nat} {k:aW} {r:Hp} {b:Nat}:nH ((c,k)::r) b=if c=b then nH r b else (c,k)::nH r b:=by
 simp only [nH];by_cases h:c=b
 ·subst h;simp
 ·rw [aN h,bz (fun e=>h e.symm)];rfl
theorem atZ {e:Env} {h:Hp} {n:Nat}:(cC.t n).ev e h=cV e n:=(rfl)
theorem arO {e:Env} {h:Hp} {v:AV}:(cC.c v).ev e h=some v:=(rfl)
theorem KW {e:Env} {h:Hp}:xn e h []=some []:=(rfl)
theorem J9 {e:Env} {h:Hp} {x:cC} {r:List cC}:xn e h (x::r)=(x.ev e h).bind fun v=>(xn e h r).bind fun vs=>some (v::vs):=(rfl)
theorem Jt {e:Env} {h:Hp}:sd e h []=some []:=(rfl)
theorem Gp {e:Env} {h:Hp} {o z:Nat} {x:cC} {r:List (Nat×Nat×cC)}:sd e h ((o,z,x)::r)=(x.ev e h).bind fun v=>(sd e h r).bind fun vs=>some ((o,z,v)::vs):=(rfl)
theorem Ht {pn:Option Value} {v:AV} {n:Nat} {rd:List Nat} {h:Hp}:(bX.mk v n rd [] [] pn).fe h=h:=(rfl)
theorem HZ {pn:Option Value} {v:AV} {n:Nat} {rd:List Nat} {x:Nat×aW} {h:Hp}:(bX.mk v n rd [] [x] pn).fe h=x::h:=(rfl)
theorem GD {pn:Option Value} {v:AV} {n:Nat} {rd:List Nat} {x y:Nat×aW} {h:Hp}:(bX.mk v n rd [] [x,y] pn).fe h=x::y::h:=(rfl)
theorem Ju {pn:Option Value} {v:AV} {n:Nat} {rd:List Nat} {b:Nat} {k:aW} {h:Hp}:(bX.mk v n rd [(b,some k)] [] pn).fe h=ig h b k:=(rfl)
theorem Gg {pn:Option Value} {v:AV} {n:Nat} {rd:List Nat} {b:Nat} {x:Nat×aW} {h:Hp}:(bX.mk v n rd [(b,none)] [x] pn).fe h=nH (x::h) b:=(rfl)
theorem an4 {a b:Prop}:Hb true a b=a:=by simp [Hb]
theorem af1 {a b:Prop}:Hb false a b=b:=by simp [Hb]
theorem Z9 {v:AV} {k:AV->Prop}:gY false v k=k v:=(rfl)
theorem acN {k:AV->Prop}:gY true (.b true) k=k (.b true):=by simp [gY,Hb]
theorem ab6 {k:AV->Prop}:gY true (.b false) k=k (.b false):=by simp [gY,Hb]
theorem acG {c:Bool} {k:AV->Prop}:gY true (.b c) k=Hb c (k (.b true)) (k (.b false)):=(rfl)
section
variable {cx:Cx} {e:Env} {h:Hp} {n:Nat}
theorem am4 {x:cC}:cA cx (.mv x) e h n=(x.ev e h).bind fun v=>some (true,{v,n}):=(rfl)
def Ki (v:AV) (a b:Option (Bool×bX)):Option (Bool×bX):=match v with
 | .b true=>a
 | .b false=>b
 |_=>none
theorem MY {a b:Option (Bool×bX)}:Ki (.b true) a b=a:=(rfl)
theorem Pm {a b:Option (Bool×bX)}:Ki (.b false) a b=b:=(rfl)
theorem Pg {c a b:cC}:cA cx (.pick c a b) e h n=(c.ev e h).bind fun v=>Ki v ((a.ev e h).bind fun v=>some (true,{v,n})) ((b.ev e h).bind fun v=>some (true,{v,n})):=(rfl)
theorem ZB {z:List AV}:cA cx (.new z) e h n=some (true,{v:= .p n 0,n:=n+1,nw:=[(n,{cells:=z})]}):=(rfl)
theorem abn {x:cC}:cA cx (.box x) e h n=(x.ev e h).bind fun v=>some (!v.isAny,{v:= .p n 0,n:=n+1,nw:=[(n,{cells:=v.cells})]}):=(rfl)
theorem Jl {z:List AV} {ps:List (Nat×Nat×cC)}:cA cx (.build z ps) e h n=(sd e h ps).bind fun l=>(lv z l).bind fun cs=>some (true,{v:= .agg cs,n}):=(rfl)
theorem acV {z:List AV} {len:Nat} {ps:List (Nat×Nat×cC)}:cA cx (.lC z len ps) e h n=(sd e h ps).bind fun l=>(lv z l).bind fun cs=>some (true,{v:= .sl n 0 len len,n:=n+1,nw:=[(n,{cells:=cs})]}):=(rfl)
def Wo (v:AV) (k:Nat->Nat->Option (Bool×bX)):Option (Bool×bX):=match v with
 | .p b o=>k b o
 |_=>none
theorem Ui {b o:Nat} {k:Nat->Nat->Option (Bool×bX)}:Wo (.p b o) k=k b o:=(rfl)
def yi (v:AV) (k:Nat->Nat->Option (Bool×bX)) (kf:List AV->Nat->Option (Bool×bX)):Option (Bool×bX):=match v with
 | .p b o=>k b o
 | .fp l o=>kf l o
 |_=>none
theorem KM {b o:Nat} {k:Nat->Nat->Option (Bool×bX)} {kf:List AV->Nat->Option (Bool×bX)}:yi (.p b o) k kf=k b o:=(rfl)
theorem MV {l:List AV} {o:Nat} {k:Nat->Nat->Option (Bool×bX)} {kf:List AV->Nat->Option (Bool×bX)}:yi (.fp l o) k kf=kf l o:=(rfl)
def FN {α:Type} (v:AV) (kf:List AV->Nat->Option α) (kz:Option α) (k:AV->Option α):Option α:=match v with
 | .fz l n=>kf l n
 | .ze=>kz
 |v=>k v
section
variable {α:Type} {kf:List AV->Nat->Option α} {kz:Option α} {k:AV->Option α}
theorem Is {l:List AV} {n:Nat}:FN (.fz l n) kf kz k=kf l n:=(rfl)
theorem ahL:FN .ze kf kz k=kz:=(rfl)
theorem ail:FN .ns kf kz k=k .ns:=(rfl)
theorem aiN {b o l c:Nat}:FN (.sl b o l c) kf kz k=k (.sl b o l c):=(rfl)
theorem EN {b o l:Nat}:FN (.sg b o l) kf kz k=k (.sg b o l):=(rfl)
end
theorem ZF {z:Nat} {a:cC}:cA cx (.ld true z a) e h n=(a.ev e h).bind fun v=>yi v (fun b o=>(iO h b).bind fun k=>some (decide ((aA k.cells o z).length=z),{v:= .agg (aA k.cells o z),n,rd:=[b]})) (fun l o=>some (decide ((aA l o z).length=z),{v:= .agg (aA l o z),n})):=(rfl)
theorem YZ {z:Nat} {a:cC}:cA cx (.ld false z a) e h n=(a.ev e h).bind fun v=>yi v (fun b o=>(iO h b).bind fun k=>(k.cells[o]?).bind fun v=>some (true,{v,n,rd:=[b]})) (fun l o=>(l[o]?).bind fun v=>some (true,{v,n})):=(rfl)
def OA (r:Bool) (k:Option (Bool×bX)):Option (Bool×bX):=match r with
 |true=>none
 |false=>k
theorem alX {k:Option (Bool×bX)}:OA false k=k:=(rfl)
theorem ahE {z:Nat} {a x:cC}:cA cx (.st z a x) e h n=(a.ev e h).bind fun v=>Wo v fun b o=>(iO h b).bind fun k=>(x.ev e h).bind fun y=>
 OA k.ro (some (aX y.cells&&Nat.beq y.cells.length z&&decide (o+z<=k.cells.length),{v:= .bg [],n,rd:=[b],md:=[(b,some {k with cells:=eF k.cells o y.cells})]})):=(rfl)
def W6 (v:AV) (k:AV->Option (Bool×bX)):Option (Bool×bX):=match v with
 | .p b o=>k (.p b o)
 | .fn f l=>k (.fn f l)
 | .bm f l=>k (.bm f l)
 | .fp l o=>k (.fp l o)
 |_=>none
theorem Vx {b o:Nat} {k:AV->Option (Bool×bX)}:W6 (.p b o) k=k (.p b o):=(rfl)
theorem Mq {l:List AV} {o:Nat} {k:AV->Option (Bool×bX)}:W6 (.fp l o) k=k (.fp l o):=(rfl)
theorem aer {x:cC}:cA cx (.nck x) e h n=(x.ev e h).bind fun v=>W6 v fun v=>some (true,{v,n}):=(rfl)
theorem V0 {op:BinOp} {x y:cC}:cA cx (.bin op x y) e h n=(x.ev e h).bind fun a=>(y.ev e h).bind fun b=>(bin op a b).bind fun r=>some (r.1,{v:=r.2,n}):=(rfl)
theorem aaC {neg agg:Bool} {ks:List Kd} {x y:cC}:cA cx (.ye neg agg ks x y) e h n=(x.ev e h).bind fun a=>(y.ev e h).bind fun b=>(ye agg ks a b).bind fun r=>some (true,{v:= .b (bif neg then !r else r),n}):=(rfl)
theorem Y3 {neg:Bool} {k:Nat} {x y:cC}:cA cx (.EO neg k x y) e h n=(x.ev e h).bind fun a=>(y.ev e h).bind fun b=>(EO k a b).bind fun r=>some (true,{v:= .b (bif neg then !r else r),n}):=(rfl)
def amc (v:AV) (k:Bool->Option (Bool×bX)):Option (Bool×bX):=match v with
 | .b c=>k c
 |_=>none
theorem Zk {c:Bool} {k:Bool->Option (Bool×bX)}:amc (.b c) k=k c:=(rfl)
theorem aas {x:cC}:cA cx (.not x) e h n=(x.ev e h).bind fun v=>amc v fun c=>some (true,{v:= .b !c,n}):=(rfl)
def Xq (v:AV) (k:IntKind->Int->Option (Bool×bX)):Option (Bool×bX):=match v with
 | .i t c=>k t c
 |_=>none
theorem W0 {t:IntKind} {c:Int} {k:IntKind->Int->Option (Bool×bX)}:Xq (.i t c) k=k t c:=(rfl)
theorem Sx {x:cC}:cA cx (.neg x) e h n=(x.ev e h).bind fun v=>Xq v fun k m=>some (true,{v:= .i k (k.wrap (0-m)),n}):=(rfl)
theorem aaw {t:IntKind} {x:cC}:cA cx (.yk t x) e h n=(x.ev e h).bind fun v=>Xq v fun k m=>some (true,{v:= .i t (t.wrap m),n}):=(rfl)
def Kc (v:AV) (k:List UInt8->Option (Bool×bX)):Option (Bool×bX):=match v with
 | .s l=>k l
 |_=>none
theorem ab8 {l:List UInt8} {k:List UInt8->Option (Bool×bX)}:Kc (.s l) k=k l:=(rfl)
theorem X9 {x:cC}:cA cx (.b2s x) e h n=(x.ev e h).bind fun v=>match v with
 | .ns=>some (true,{v:= .s [],n})
 | .fz l m=>(bytesOf (l.take m)).bind fun s=>some (decide (s.length=m),{v:= .s s,n})
 |v=>(iv v).bind fun q=>(iO h q.1).bind fun k=>(bytesOf (aA k.cells q.2.1 q.2.2)).bind fun l=>
  some (decide (l.length=q.2.2),{v:= .s l,n,rd:=[q.1]}):=(rfl)
theorem VQ {f:FuncId} {caps:List cC}:cA cx (.mkm f caps) e h n=(xn e h caps).bind fun l=>some (true,{v:= .bm f l,n}):=(rfl)
theorem YI {f:FuncId} {caps:List cC}:cA cx (.Co f caps) e h n=(xn e h caps).bind fun l=>some (true,{v:= .fn f l,n}):=(rfl)
theorem adR {x:cC} {lo hi:Option cC}:cA cx (.Vi x lo hi) e h n=(x.ev e h).bind fun v=>Kc v fun l=>dp e h lo fun lo=>dp e h hi fun hi=>
 some ((aJ l.length l.length lo hi none).1,{v:= .s ((l.take (aJ l.length l.length lo hi none).2.2.1).drop (aJ l.length l.length lo hi none).2.1),n}):=(rfl)
theorem ajC {off:Nat} {x:cC}:cA cx (.fa off x) e h n=(x.ev e h).bind fun v=>yi v (fun b o=>some (true,{v:= .p b (o+off),n})) (fun l o=>some (true,{v:= .fp l (o+off),n})):=(rfl)
def ahh (v:AV) (k:List AV->Option (Bool×bX)):Option (Bool×bX):=match v with
 | .agg l=>k l
 |_=>none
theorem RG {l:List AV} {k:List AV->Option (Bool×bX)}:ahh (.agg l) k=k l:=(rfl)
theorem Mm {m z:Nat} {x i:cC}:cA cx (.Ii m z x i) e h n=(x.ev e h).bind fun v=>(i.ev e h).bind fun i=>(Cs i).bind fun i=>yi v (fun b o=>some (decide (0<=i/\i<m),{v:= .p b (o+i.toNat*z),n})) (fun l o=>some (decide (0<=i/\i<m),{v:= .fp l (o+i.toNat*z),n})):=(rfl)
theorem Ox {z:Nat} {x i:cC}:cA cx (.qO z x i) e h n=(x.ev e h).bind fun v=>(i.ev e h).bind fun i=>(Cs i).bind fun i=>FN v (fun l len=>some (decide (0<=i/\i<len),{v:= .fp l (i.toNat*z),n})) none fun v=>(iv v).bind fun q=>
 some (decide (0<=i/\i<q.2.2),{v:= .p q.1 (q.2.1+i.toNat*z),n}):=by
 show (x.ev e h).bind _=_;congr 1;funext v;congr 1;funext i;congr 1;funext i;cases v<;>rfl
theorem LC {m z:Nat} {x i:cC}:cA cx (.Rg m z false x i) e h n=(x.ev e h).bind fun v=>(i.ev e h).bind fun i=>(Cs i).bind fun i=>ahh v fun l=>(l[i.toNat*z]?).bind fun v=>some (decide (0<=i/\i<m),{v,n}):=(rfl)
theorem SR {x i:cC}:cA cx (.uZ x i) e h n=(x.ev e h).bind fun v=>(i.ev e h).bind fun i=>(Cs i).bind fun i=>Kc v fun l=>some (decide (0<=i/\i<l.length),{v:= .i .u8 ((l[i.toNat]?).getD 0).toNat,n}):=(rfl)
def GN (v:AV) (k:List AV->Option (Bool×bX)):Option (Bool×bX):=match v with
 | .bg l=>k l
 |_=>none
theorem ZY {l:List AV} {k:List AV->Option (Bool×bX)}:GN (.bg l) k=k l:=(rfl)
theorem Y1 {x:cC} {i:Nat}:cA cx (.ext x i) e h n=(x.ev e h).bind fun v=>GN v fun l=>(l[i]?).bind fun v=>some (true,{v,n}):=(rfl)
theorem OO {x:cC}:cA cx (.BH x) e h n=(x.ev e h).bind fun v=>Kc v fun l=>some (true,{v:= .i .i64 l.length,n}):=(rfl)
theorem EF {x:cC}:cA cx (.oF x) e h n=(x.ev e h).bind fun v=>match v with
 | .ns=>some (true,{v:= .i .i64 0,n})
 | .fz _ len=>some (true,{v:= .i .i64 len,n})
 | .ze=>some (true,{v:= .i .i64 0,n})
 | .en=>some (true,{v:= .i .i64 0,n})
 |v=>(iv v).bind fun q=>some (true,{v:= .i .i64 q.2.2,n}):=(rfl)
theorem ajv {x:cC} {xs:List cC}:cA cx (.mn x xs) e h n=(x.ev e h).bind fun v=>(asK v).bind fun a=>(xn e h xs).bind fun l=>(qW a.1 a.2 l).bind fun m=>some (true,{v:= .i a.1 m,n}):=(rfl)
theorem aiy {x:cC} {xs:List cC}:cA cx (.mx x xs) e h n=(x.ev e h).bind fun v=>(asK v).bind fun a=>(xn e h xs).bind fun l=>(xm a.1 a.2 l).bind fun m=>some (true,{v:= .i a.1 m,n}):=(rfl)
def LA (v:AV) (k km:FuncId->List AV->Option (Bool×bX)) (ky:AV->Option (Bool×bX)):Option (Bool×bX):=match v with
 | .fn g l=>k g l
 | .bm g l=>km g l
 | .yl L r ts l=>ky (.yl L r ts l)
 |_=>none
theorem XX {g:FuncId} {l:List AV} {k km:FuncId->List AV->Option (Bool×bX)} {ky:AV->Option (Bool×bX)}:LA (.fn g l) k km ky=k g l:=(rfl)
theorem abU {g:FuncId} {l:List AV} {k km:FuncId->List AV->Option (Bool×bX)} {ky:AV->Option (Bool×bX)}:LA (.bm g l) k km ky=km g l:=(rfl)
theorem Sk {L:Nat} {r:Go.Loop} {ts:List Nat} {l:List AV} {k km:FuncId->List AV->Option (Bool×bX)} {ky:AV->Option (Bool×bX)}:LA (.yl L r ts l) k km ky=ky (.yl L r ts l):=(rfl)
def F5 (v:AV) (kn:Option (Bool×bX)) (k:TypeId->Value->Option (Bool×bX)):Option (Bool×bX):=match v with
 | .ni=>kn
 | .k t u=>k t u
 |_=>none
theorem Ye {kn:Option (Bool×bX)} {k:TypeId->Value->Option (Bool×bX)}:F5 .ni kn k=kn:=(rfl)
theorem abC {t:TypeId} {u:Value} {kn:Option (Bool×bX)} {k:TypeId->Value->Option (Bool×bX)}:F5 (.k t u) kn k=k t u:=(rfl)
def Lu {α:Type} (o:Option Nat) (f:Nat->Option α) (g:Option α):Option α:=match o with
 |some i=>f i
 |none=>g
theorem adg {α:Type} {i:Nat} {f:Nat->Option α} {g:Option α}:Lu (some i) f g=f i:=(rfl)
theorem adJ {α:Type} {f:Nat->Option α} {g:Option α}:Lu none f g=g:=(rfl)
def Yu (kd:Nat) (k:AV) (b:Nat) (K:aW):Option (Nat×aW×cy×Option Nat):=match K.ro,K.gr,K.mp with
 |false,none,some ks=>match Nat.beq ks.kd kd with
  |true=>(ks.find k).bind fun r=>some (b,K,ks,r)
  |false=>none
 |_,_,_=>none
def akF (b n:Nat) (K:aW):Option (Bool×bX):=match K.ro,K.gr,K.mp with
 |false,none,some ks=>some (true,{v:= .i .i64 ks.len,n,rd:=[b]})
 |_,_,_=>none
theorem Ug {b n:Nat} {c:List AV} {g:Option Nat} {ks:cy}:akF b n ⟨c,false,none,g,some ks⟩=some (true,{v:= .i .i64 ks.len,n,rd:=[b]}):=(rfl)
def getM (v:AV) (f:Nat->Option (Bool×bX)):Option (Bool×bX):=match v with
 | .m b=>f b
 |_=>none
theorem adu {b:Nat} {f:Nat->Option (Bool×bX)}:getM (.m b) f=f b:=(rfl)
theorem OE {x:cC}:cA cx (.J1 x) e h n=(x.ev e h).bind fun v=>getM v fun b=>(ab h b).bind fun K=>akF b n K:=(rfl)
theorem LR {kd b:Nat} {k:AV}:uh h kd (.m b) k=(ab h b).bind fun K=>Yu kd k b K:=(rfl)
theorem SM {b:Nat} {k:AV} {c:List AV} {g:Option Nat} {l:List Int}:Yu 0 k b ⟨c,false,none,g,some (.i l)⟩=((cy.i l).find k).bind fun r=>some (b,⟨c,false,none,g,some (.i l)⟩,.i l,r):=(rfl)
theorem Sd {b:Nat} {k:AV} {c:List AV} {g:Option Nat} {l:List (List UInt8)}:Yu 1 k b ⟨c,false,none,g,some (.s l)⟩=((cy.s l).find k).bind fun r=>some (b,⟨c,false,none,g,some (.s l)⟩,.s l,r):=(rfl)
theorem Sn {ks:cy}:cA cx (.Qb ks) e h n=some (true,{v:= .m n,n:=n+1,nw:=[(n,{cells:=[],mp:=some ks})]}):=(rfl)
theorem aaH {kd:Nat} {ok:Bool} {z:AV} {m k:cC}:cA cx (.mpG kd ok z m k) e h n=(m.ev e h).bind fun m=>(k.ev e h).bind fun k=>(uh h kd m k).bind fun q=>Lu q.2.2.2
 (fun i=>(q.2.1.cells[i]?).bind fun v=>some (true,{v:=bif ok then .bg [v,.b true] else v,n,rd:=[q.1]})) (some (true,{v:=bif ok then .bg [z,.b false] else z,n,rd:=[q.1]})):=(rfl)
theorem aah {kd:Nat} {m k x:cC}:cA cx (.KB kd m k x) e h n=(m.ev e h).bind fun m=>(k.ev e h).bind fun k=>(x.ev e h).bind fun x=>(uh h kd m k).bind fun q=>Lu q.2.2.2
 (fun i=>some (true,{v:= .bg [],n,rd:=[q.1],md:=[(q.1,some {q.2.1 with cells:=q.2.1.cells.set i x,mp:=some q.2.2.1})]}))
 (some (Nat.beq q.2.1.cells.length q.2.2.1.len,{v:= .bg [],n,rd:=[q.1],md:=[(q.1,some {q.2.1 with cells:=q.2.1.cells++[x],mp:=some (q.2.2.1.push k)})]})):=(rfl)
theorem Lf {l:List Int}:(cy.i l).len=l.length:=(rfl)
theorem M0 {l:List (List UInt8)}:(cy.s l).len=l.length:=(rfl)
theorem PO {l:List Int} {k:IntKind} {x:Int}:(cy.i l).push (.i k x)= .i (l++[x]):=(rfl)
theorem MB {l:List (List UInt8)} {x:List UInt8}:(cy.s l).push (.s x)= .s (l++[x]):=(rfl)
theorem acb {t:TypeId} {x:cC}:cA cx (.Kw t x) e h n=(x.ev e h).bind fun v=>(toV v).bind fun u=>some (true,{v:= .k t u,n}):=(rfl)
theorem R6 {t:TypeId} {z:AV} {x:cC}:cA cx (.OH t z x) e h n=(x.ev e h).bind fun v=>F5 v (some (true,{v:= .bg [z,.b false],n})) fun t' u=>if t'=t then (vZ u).bind fun v=>some (true,{v:= .bg [v,.b true],n}) else some (true,{v:= .bg [z,.b false],n}):=by
 show (x.ev e h).bind _=_;congr 1;funext v;cases v<;>try rfl
 rename_i t' u;simp only [F5];by_cases hb:t'=t
 ·subst hb;simp [pe]
 ·simp [bz (fun e=>hb e.symm),hb,pe]
theorem Xk {neg:Bool} {x:cC}:cA cx (.WM neg x) e h n=(x.ev e h).bind fun v=>F5 v (some (true,{v:= .b (!neg),n})) fun _ _=>some (true,{v:= .b neg,n}):=by
 simp only [cA,step];cases hx:x.ev e h with
 |none=>rfl
 |some v=>cases v<;>rfl
theorem Vj {x:cC}:cA cx (.MJ x) e h n=(x.ev e h).bind fun v=>F5 v none fun t u=>some (true,{v:= .bg [],n,pn:=some (.iface t u)}):=by
 simp only [cA];cases hx:x.ev e h with
 |none=>rfl
 |some v=>cases v<;>rfl
theorem PE {f:cC} {args:List cC}:cA cx (.call f args) e h n=(f.ev e h).bind fun v=>LA v (fun g caps=>(xn e h args).bind fun l=>cx g (l++caps) h n) (fun g fs=>(xn e h args).bind fun l=>cx g (fs++l) h n) fun y=>(xn e h args).bind fun l=>cx YB (y::l) h n:=by
 show (f.ev e h).bind _=_;congr 1
end
theorem It {cx:Cx} {o:jJ} {e:Env} {h:Hp} {n:Nat}:lk cx o e h n=(cA cx o e h n).bind fun r=>some (r.1,r.2.pn,r.2.v,r.2.fe h,r.2.n):=(rfl)
theorem IU {cx:Cx} {un:List Nat} {i:Nat} {dn:List (Nat×bX)} {o:jJ} {e:Env} {h:Hp} {n:Nat}:p3 cx un i dn o e h n=(cA cx o e h n).bind fun r=>some (r.1&&nV h n r.2&&pQ un r.2 dn,r.2.pn,r.2.v,r.2.fe h,r.2.n,l0 i r.2 dn):=(rfl)
theorem Oh {pn:Option Value} {i:Nat} {v:AV} {n:Nat} {dn:List (Nat×bX)}:l0 i (bX.mk v n [] [] [] pn) dn=dn:=(rfl)
theorem PN {pn:Option Value} {i:Nat} {v:AV} {n:Nat} {dn:List (Nat×bX)} {x:Nat} {rd:List Nat} {md:List (Nat×Option aW)} {nw:List (Nat×aW)}:l0 i (bX.mk v n (x::rd) md nw pn) dn=(i,bX.mk v n (x::rd) md nw pn)::dn:=(rfl)
theorem KP {pn:Option Value} {i:Nat} {v:AV} {n:Nat} {dn:List (Nat×bX)} {x:Nat×aW} {nw:List (Nat×aW)}:l0 i (bX.mk v n [] [] (x::nw) pn) dn=(i,bX.mk v n [] [] (x::nw) pn)::dn:=(rfl)
theorem JS {pn:Option Value} {h:Hp} {n:Nat} {v:AV} {m:Nat} {rd:List Nat} {md:List (Nat×Option aW)} {nw:List (Nat×aW)}:nV h n (bX.mk v m rd md nw pn)=(decide (n<=m)&&zo md rd&&BO n m nw&&AW h md):=(rfl)
theorem On {b:Nat}:inl [] b=false:=(rfl)
theorem iQ {c b:Nat} {r:List Nat}:inl (c::r) b=if c=b then true else inl r b:=by
 simp only [inl];by_cases h:c=b
 ·subst h;simp
 ·rw [aN h,bz (fun e=>h e.symm)];rfl
theorem LJ {F:Fx} {K:cF} {e:Env} {h:Hp} {n:Nat}:jw F .skip K e h n=K .normal e h n:=(rfl)
theorem ZU {F:Fx} {ops:List aj} {K:cF} {e:Env} {h:Hp} {n:Nat}:jw F (.cQ ops) K e h n=jR F.cx ops e h n K:=(rfl)
theorem P5 {F:Fx} {ops:List (aj×List Nat)} {K:cF} {e:Env} {h:Hp} {n:Nat}:jw F (.cG ops) K e h n=rD F.cx ops 0 [] e h n K:=(rfl)
theorem adB {F:Fx} {a b:bG} {K:cF} {e:Env} {h:Hp} {n:Nat}:jw F (.seq a b) K e h n=jw F a (gH K (jw F b K)) e h n:=(rfl)
theorem Ow {F:Fx} {c:cC} {a b:bG} {K:cF} {e:Env} {h:Hp} {n:Nat}:jw F (.cond c a b) K e h n=gd (c.ev e h) fun v=>uv v (jw F a K e h n) (jw F b K e h n):=(rfl)
theorem IN {F:Fx} {i:Nat} {c:bG} {K:cF} {e:Env} {h:Hp} {n:Nat}:jw F (.block i c) K e h n=jw F c (iz i K) e h n:=(rfl)
theorem Pa {F:Fx} {c:bG} {K:cF} {e:Env} {h:Hp} {n:Nat}:jw F (.loop c) K e h n=Loop F.P F.ct F.N F.n0 c K e h n:=(rfl)
theorem OJ {K:cF} {k:Env->Hp->Nat->Prop} {c:List PanicEntry} {e:Env} {h:Hp} {n:Nat}:gH K k (.panic c) e h n=K (.panic c) e h n:=(rfl)
theorem IZ {K:cF} {i:Nat} {c:List PanicEntry} {e:Env} {h:Hp} {n:Nat}:iz i K (.panic c) e h n=K (.panic c) e h n:=(rfl)
theorem OU {F:Fx} {i:Nat} {K:cF} {e:Env} {h:Hp} {n:Nat}:jw F (.exit i) K e h n=K (.exit i) e h n:=(rfl)
theorem R0 {F:Fx} {K:cF} {e:Env} {h:Hp} {n:Nat}:jw F .ret K e h n=K .ret e h n:=(rfl)
theorem j5 {K:cF} {k:Env->Hp->Nat->Prop} {e:Env} {h:Hp} {n:Nat}:gH K k .normal e h n=k e h n:=(rfl)
theorem ME {K:cF} {k:Env->Hp->Nat->Prop} {e:Env} {h:Hp} {n:Nat}:gH K k .ret e h n=K .ret e h n:=(rfl)
theorem NQ {K:cF} {k:Env->Hp->Nat->Prop} {i:Nat} {e:Env} {h:Hp} {n:Nat}:gH K k (.exit i) e h n=K (.exit i) e h n:=(rfl)
theorem Js {K:cF} {i:Nat} {e:Env} {h:Hp} {n:Nat}:iz i K .normal e h n=K .normal e h n:=(rfl)
theorem Hw {K:cF} {i:Nat} {e:Env} {h:Hp} {n:Nat}:iz i K .ret e h n=K .ret e h n:=(rfl)
theorem iW {K:cF} {i j:Nat} {e:Env} {h:Hp} {n:Nat}:iz i K (.exit j) e h n=if j=i then K .normal e h n else K (.exit j) e h n:=(rfl)
theorem nr {c:Bool} {a b:Prop} (h1:c=true->a) (h2:c=false->b):Hb c a b:=⟨h1,h2⟩
theorem Gf {e:Env} {h:Hp}:kS e h []=some (true,[]):=(rfl)
theorem L8 {e:Env} {h:Hp} {n:Nat} {r:List lO}:kS e h (.t n::r)=(cV e n).bind fun v=>(kS e h r).bind fun q=>some (q.1,v::q.2):=(rfl)
def Ra (x:Option (Bool×AV)) (k:Bool->AV->Prop):Prop:=
 match x with
 |some (c,v)=>k c v
 |none=>False
@[congr] theorem gd2_congr {x y:Option (Bool×AV)} {k:Bool->AV->Prop} (h:x=y):Ra x k=Ra y k:=by rw [h]
theorem Hn {c:Bool} {v:AV} {k:Bool->AV->Prop}:Ra (some (c,v)) k=k c v:=(rfl)
theorem As {x:Option (Bool×AV)} {Q:AV->Prop}:(gd x fun r=>r.1=true/\Q r.2)=Ra x fun c v=>iV c (Q v):=by cases x<;>rfl
theorem Un {rs:List lO} {Q:AV->Hp->Nat->Prop} {e:Env} {h:Hp} {n:Nat}:qS rs Q .normal e h n=Ra (sM rs e h) fun c v=>iV c (Q v h n):=As (Q:=fun v=>Q v h n)
theorem Vk {rs:List lO} {Q:Option Value->AV->Hp->Nat->Prop} {e:Env} {h:Hp} {n:Nat}:C4 rs Q .normal e h n=Ra (sM rs e h) fun c v=>iV c (Q none v h n):=As (Q:=fun v=>Q none v h n)
theorem Yt {rs:List lO} {Q:Option Value->AV->Hp->Nat->Prop} {u:Value} {e:Env} {h:Hp} {n:Nat}:C4 rs Q (.panic [{v:=u,recovered:=false}]) e h n=Q (some u) (.bg []) h n:=by simp [C4]
theorem aaf {rs:List lO} {Q:AV->Hp->Nat->Prop} {e:Env} {h:Hp} {n:Nat}:qS rs Q .ret e h n=Ra (sM rs e h) fun c v=>iV c (Q v h n):=As (Q:=fun v=>Q v h n)
end Go.Ab
namespace Go.Ab
abbrev Ct:=List AV->Hp->Nat->Option (Bool×bX)
def bZ:List (Nat×Ct)->Cx
 |[],_,_,_,_=>none
 |(g,k)::r,f,a,h,n=>if g=f then k a h n else bZ r f a h n
theorem H5 {g f:Nat} {k:Ct} {r:List (Nat×Ct)} {a:List AV} {h:Hp} {n:Nat}:bZ ((g,k)::r) f a h n=if g=f then k a h n else bZ r f a h n:=(rfl)
def aq (P:Program) (f:FuncId) (k:Ct):Prop:= ∀args h n c E,k args h n=some (c,E)->c=true->ax P f args h n E
theorem Sound.nil {P:Program}:Sound P (bZ []):=fun f args h n c E hc=>by cases hc
theorem Sound.cons {P:Program} {f:Nat} {k:Ct} {r:List (Nat×Ct)} (h1:aq P f k) (h2:Sound P (bZ r)):Sound P (bZ ((f,k)::r)):=fun g args h n c E hc ht=>by
 simp only [bZ] at hc;split at hc
 ·rename_i hg;subst hg;exact h1 _ _ _ _ _ hc ht
 ·exact h2 _ _ _ _ _ _ hc ht
theorem Ends.au {n0 n:Nat} {v v2:AV} {h:Hp} (hv:v.al n0=true) (he:v=v2):Ends n0 v h n v2 [] n0:=by subst he;exact Ends.pure hv
theorem aU {ψ:Nat->Nat} (l:List AV) (h:ae 0 l=true):aL ψ l=l:=by
 rw [ft (χ:=_root_.id) (m:=0) (fun b hb=>absurd hb (by omega)) l h]
 exact gk (m:=0) (fun _ _=>rfl) l h
theorem lS {ψ:Nat->Nat} (v:AV) (h:v.al 0=true):v.aH ψ=v:=by
 rw [AV.yC (χ:=_root_.id) (m:=0) (fun b hb=>absurd hb (by omega)) v h]
 exact AV.pE (m:=0) (fun _ _=>rfl) v h
theorem ax.pure {P:Program} {f:FuncId} {args:List AV} {v:AV} (hc:Go.Ab.bJ P f=true) (ha:ae 0 args=true) (hv:v.al 0=true) (hf:bt P f args [] 0 v [] 0) (h:Hp) (n:Nat):ax P f args h n {v,n}:=by
 refine ax.IG (ψ:=fun b=>b) hc hf (bx _) ha (fun b hb=>absurd hb (by omega)) (fun b kk hb=>by simp [ab] at hb) (aU _ ha).symm (fun b kk hb=>by simp [ab] at hb) (fun b1 b2 k1 k2 hb=>by simp [ab] at hb) (by simp) (lS _ hv).symm
  (fun b r hb=>by simp [dH] at hb) (fun b kk hb=>by simp [ab] at hb) (fun c kk hc=> ?_)
 simp [bX.app,dH,ab,only,inl] at hc
def lp (F:Fx) (c:bG) (K:cF):Nat->Env->Hp->Nat->Prop
 |0,_,_,_=>False
 |m+1,e,h,n=>jw F c (gH K (lp F c K m)) e h n
theorem PQ {F:Fx} {c:bG} {K:cF} {m:Nat} {e:Env} {h:Hp} {n:Nat}:lp F c K (m+1) e h n=jw F c (gH K (lp F c K m)) e h n:=(rfl)
theorem Loop.rounds {F:Fx} (m:Nat) (hcx:Sound F.P F.cx) (hm:F.P.follows .mixedOrders=true) {c:bG} {K:cF} {e:Env} {h:Hp} {n:Nat}
 (hi:lp F c K m e h n):Loop F.P F.ct F.N F.n0 c K e h n:=by
 intro c' hc' ro hro B D0 φ0 H0 w0 h1 h2 D φ a w hR hS;refine wpIn_loop_rounds m ?_;induction m generalizing e h n D φ a w with
 |zero=>exact hi.elim
 |succ m ih=>
  have hw:WP F.P F.N F.n0 c' (gH K (lp F c K m)) e h n:=gL F hcx hm c' _ _ _ _ (by rw [hc'];exact aQ hi)
  refine wpIn_mono (hw ro hro B D0 φ0 H0 w0 h1 h2 D φ a w hR hS) (fun ex a' w' hp=> ?_);obtain ⟨D',φ',e',h',n',hk,hn',hR',hS'⟩:=hp;cases ex with
  |normal=>exact ih hk hn' D' φ' a' w' hR' hS'
  |exit id=>exact ⟨D',φ',e',h',n',hk,hn',hR',hS'⟩
  |goto l=>exact ⟨D',φ',e',h',n',hk,hn',hR',hS'⟩
  |ret=>exact ⟨D',φ',e',h',n',hk,hn',hR',hS'⟩
  |panic ch=>exact ⟨D',φ',e',h',n',hk,hn',hR',hS'⟩
  |outgrown=>exact ⟨D',φ',e',h',n',hk,hn',hR',hS'⟩
theorem F0 {α:Type} {a:α} {l:List α} {i:Nat}:(a::l)[i]? =if i=0 then some a else l[i-1]? :=by
 cases i<;>simp
theorem CI {α:Type} {a:α} {l:List α} {i:Nat}:(a::l).drop i=if i=0 then a::l else l.drop (i-1):=by
 cases i<;>simp
theorem C6 {α:Type} {a:α} {l:List α} {i:Nat}:(a::l).take i=if i=0 then [] else a::l.take (i-1):=by
 cases i<;>simp
theorem cj {a b:Nat}:Nat.beq a b=decide (a=b):=by
 by_cases h:a=b
 ·subst h;simp
 ·rw [cN h];exact bz (fun e=>h e.symm)
def Xf (v:AV) (k:Nat->Nat->Option (Bool×List AV)):Option (Bool×List AV):=match v with
 | .p b o=>k b o
 |_=>none
theorem Yw {b o:Nat} {k:Nat->Nat->Option (Bool×List AV)}:Xf (.p b o) k=k b o:=(rfl)
theorem Hr {e:Env} {h:Hp} {n z:Nat} {r:List lO}:kS e h (.c n true z::r)=(cV e n).bind fun v=>Xf v fun b o=>
 (iO h b).bind fun k=>(kS e h r).bind fun q=>some (decide ((aA k.cells o z).length=z)&&q.1,.agg (aA k.cells o z)::q.2):=(rfl)
theorem JC {e:Env} {h:Hp} {n z:Nat} {r:List lO}:kS e h (.c n false z::r)=(cV e n).bind fun v=>Xf v fun b o=>
 (iO h b).bind fun k=>(k.cells[o]?).bind fun v=>(kS e h r).bind fun q=>some (q.1,v::q.2):=(rfl)
def vX (z:List AV) (o sz:Nat) (v:AV):Option (List AV):=bif Nat.beq v.cells.length sz&&Nat.ble (o+sz) z.length&& !v.isAny then some (eF z o v.cells) else none
theorem FY {z:List AV}:lv z []=some z:=(rfl)
theorem C0 {z:List AV} {o sz:Nat} {v:AV} {r:List (Nat×Nat×AV)}:lv z ((o,sz,v)::r)=(vX z o sz v).bind fun z=>lv z r:=by
 simp only [lv,vX];cases (Nat.beq v.cells.length sz&&Nat.ble (o+sz) z.length&& !v.isAny)<;>rfl
theorem anL {a b:Nat}:Nat.ble a b=decide (a<=b):=by
 by_cases h:a<=b
 ·rw [ah h];exact Nat.ble_eq_true_of_le h
 ·rw [cN h];cases hb:Nat.ble a b
  ·rfl
  ·exact absurd (Er hb) h
theorem tU {c c':Bool} {a a':Prop} (h:c=c') (h1:c'=true->a=a'):iV c a=iV c' a':=by
 subst h;cases c
 ·simp [iV]
 ·simp [iV,h1 rfl]
def nS (n:Nat) (e:Env):Env->Prop
 |[]=>True
 |(t,v)::r=>cV e t=some v/\v.al n=true/\nS n e r
def uN (n:Nat) (h:Hp):Hp->Prop
 |[]=>True
 |(b,k)::r=>ab h b=some k/\ae n k.cells=true/\b<n/\uN n h r
theorem nS.get {n:Nat} {e:Env}: ∀{e2:Env},nS n e e2-> ∀t v,cV e2 t=some v->cV e t=some v/\v.al n=true
 |[],_,t,v,h=>by simp [cV] at h
 |(s,u)::r,hi,t,v,h=>by
  simp only [cV] at h;by_cases hs:t=s
  ·subst hs;simp at h;subst h;exact ⟨hi.1,hi.2.1⟩
  ·rw [bz hs] at h;exact nS.get hi.2.2 t v h
theorem uN.get {n:Nat} {h:Hp}: ∀{h2:Hp},uN n h h2-> ∀b k,ab h2 b=some k->ab h b=some k/\ae n k.cells=true/\b<n
 |[],_,t,v,h=>by simp [ab] at h
 |(s,u)::r,hi,t,v,h=>by
  simp only [ab] at h;by_cases hs:t=s
  ·subst hs;simp at h;subst h;exact ⟨hi.1,hi.2.1,hi.2.2.1⟩
  ·rw [bz hs] at h;exact uN.get hi.2.2.2 t v h
theorem Wk.MZ {n0 n n2:Nat} {e e2:Env} {h h2:Hp} (hn:n0<=n2) (he:nS n2 e e2) (hh:uN n2 h h2):Wk n0 _root_.id e h n e2 h2 n2:=by
 refine ⟨hn,fun _ _=>rfl,fun t v ht=> ?_,fun b k hb=> ?_,fun b1 b2 k1 k2 _ _ _ he=>he⟩
 ·obtain ⟨h1,h2⟩:=he.get t v ht;exact ⟨by rw [AV.pE (ψ:=_root_.id) (fun _ _=>rfl) v h2];exact h1,h2⟩
 ·obtain ⟨h1,h2,h3⟩:=hh.get b k hb;refine ⟨?_,h2,h3⟩;simp only [_root_.id,aW.aH,gk (ψ:=_root_.id) (fun _ _=>rfl) k.cells h2];exact h1
attribute [go_sem] nS uN
theorem ar4 {a b:Nat}:Nat.min a b=if a<=b then a else b:=(rfl)
theorem Dk {b o l c:Nat}:iv (.sl b o l c)=some (b,o,l):=(rfl)
theorem Df {b o l:Nat}:iv (.sg b o l)=some (b,o,l):=(rfl)
theorem BS:bytesOf []=some []:=(rfl)
theorem zC {n:Int} {r:List AV}:bytesOf (.i .u8 n::r)=(bytesOf r).bind fun l=>some (UInt8.ofNat n.toNat::l):=(rfl)
theorem ahZ {k:IntKind} {n:Int}:Cs (.i k n)=some n:=(rfl)
theorem aou {n:Int}:Kv (.i .i64 n)=some n:=(rfl)
theorem Hv {k:IntKind} {a:Int}:qW k a []=some a:=(rfl)
theorem GR {k:IntKind} {a y:Int} {r:List AV}:qW k a (.i k y::r)=qW k (min a y) r:=by
 simp only [qW,cu];congr 1;omega
theorem Ko {k:IntKind} {a:Int}:xm k a []=some a:=(rfl)
theorem GI {k:IntKind} {a y:Int} {r:List AV}:xm k a (.i k y::r)=xm k (max a y) r:=by
 simp only [xm,cu];congr 1;omega
theorem aiq {k:IntKind} {n:Int}:asK (.i k n)=some (k,n):=(rfl)
theorem kA {α:Type} {e:Env} {h:Hp} {k:Option Int->Option α}:dp e h none k=k none:=(rfl)
theorem qE {α:Type} {e:Env} {h:Hp} {x:cC} {k:Option Int->Option α}:dp e h (some x) k=(x.ev e h).bind fun v=>(Cs v).bind fun n=>k (some n):=(rfl)
def iU (k:IntKind) (a b:Int):Int:=k.wrap (BitVec.ofInt k.bits a &&& BitVec.ofInt k.bits b).toNat
def orI (k:IntKind) (a b:Int):Int:=k.wrap (BitVec.ofInt k.bits a ||| BitVec.ofInt k.bits b).toNat
section
variable {k:IntKind} {a b:Int}
theorem MR:sm .add k a b=some (true,.i k (k.wrap (a+b))):=(rfl)
theorem Pu:sm .sub k a b=some (true,.i k (k.wrap (a-b))):=(rfl)
theorem K8:sm .mul k a b=some (true,.i k (k.wrap (a*b))):=(rfl)
theorem NT:sm .rem k a b=some (b !=0,.i k (a.tmod b)):=(rfl)
theorem L7:sm .and k a b=some (true,.i k (iU k a b)):=(rfl)
theorem Vb:sm .or k a b=some (true,.i k (orI k a b)):=(rfl)
theorem M7:sm .eql k a b=some (true,.b (a==b)):=(rfl)
theorem Ov:sm .neq k a b=some (true,.b (a !=b)):=(rfl)
theorem M9:sm .lss k a b=some (true,.b (decide (a<b))):=(rfl)
theorem PF:sm .leq k a b=some (true,.b (decide (a<=b))):=(rfl)
theorem Ny:sm .gtr k a b=some (true,.b (decide (a>b))):=(rfl)
theorem NF:sm .geq k a b=some (true,.b (decide (a>=b))):=(rfl)
end
theorem HE {a b:List UInt8}:Jr .add a b=some (decide (a.length+b.length<=9223372036854775807),.s (a++b)):=(rfl)
theorem Kq {a b:List UInt8}:Jr .eql a b=some (true,.b (a==b)):=(rfl)
theorem JA {a b:List UInt8}:Jr .neq a b=some (true,.b !(a==b)):=(rfl)
attribute [go_sem] HE Kq JA ye eqs Ml EO
attribute [go_sem] cj anL vX ar4 mG MR Pu K8 NT L7 Vb M7 Ov M9 PF Ny NF
attribute [go_sem ↓] Hv GR Ko GI Dk Df BS zC ahZ aou aiq kA qE
attribute [go_sem ↓] FY C0
attribute [go_sem ↓] Hr JC Yw
theorem LB {cx:Cx} {e:Env} {h:Hp} {n:Nat} {x lo:cC}:cA cx (.Vi x (some lo) none) e h n=(x.ev e h).bind fun v=>Kc v fun l=>(lo.ev e h).bind fun v=>(Cs v).bind fun lo=>
 some (decide (0<=lo/\lo<=(l.length:Int)),{v:= .s (l.drop lo.toNat),n}):=by
 rw [adR];simp only [kA,qE,aJ,gq,nu,lR,fU];congr 1;funext v;congr 1;funext l;congr 1;funext v;congr 1;funext m;refine cS some (oy ?_ rfl);show decide _=decide _;exact qF.2 (by omega)
attribute [go_sem] List.drop_nil List.take_nil F0 CI C6 aA eF ee List.nil_append cM List.length_cons kv AV.cells aX AV.one AV.isAny ie eJ dW eV fI fA cond_true cond_false eU fX gZ fg pX decide_false
attribute [go_sem ↓] Yl dV Gn pb yE Iy l5 atZ arO KW J9 Jt Gp Ht HZ GD Ju Gg an4 af1 Z9 acN ab6 am4 MY Pm Pg ZB abn Jl acV Ui KM MV Is ahL ail aiN EN Mq ZF YZ alX ahE Vx aer V0 aaC Y3 Zk aas W0 Sx aaw ab8 X9 YI VQ LB ajC RG Mm Ox LC SR ZY Y1 OO EF ajv aiy XX abU Sk PE Ye abC acb OE adu Ug Sn aaH aah LR SM Sd adg adJ Lf M0 PO MB R6 Xk Vj ama agi am7 ang Vk Yt OJ IZ Gf L8 Un aaf KQ Hn Jc Ke zK qG HY J4 I0 Jd OW Oq Nj ID XR adG Oo SS ark ar6 afq LJ ZU P5 adB Ow IN Pa OU R0 j5 ME NQ Js Hw iW It IU On iQ Oh PN KP JS PQ H5
attribute [go_sem] eS bin sM Ia zo BO AW pQ jm G6 Ps
attribute [go_sem ↓ low] acG
attribute [go_sem] toV IQ GK vZ wB lT
end Go.Ab
namespace Go.Ab
inductive XE where
 |n
 |x (i:Nat)
 |r
def idx:List Nat->Nat->Nat
 |[],_=>0
 |c::r,b=>bif Nat.beq c b then 0 else idx r b+1
def nth:List Nat->Nat->Nat
 |[],_=>0
 |c::_,0=>c
 |_::r,i+1=>nth r i
def nodup:List Nat->Bool
 |[]=>true
 |c::r=> !(inl r c)&&nodup r
theorem Ar: ∀{R:List Nat} {b:Nat},inl R b=true->idx R b<R.length/\nth R (idx R b)=b
 |[],b,h=>by simp [inl] at h
 |c::r,b,h=>by
  simp only [inl,iS] at h;simp only [idx];cases hc:Nat.beq c b
  ·rw [hc] at h;obtain ⟨h1,h2⟩:=Ar (h.resolve_left (by simp))
   simp only [cond_false];exact ⟨by simp;omega,h2⟩
  ·have:=dC hc;exact ⟨by simp,by simp [nth,this]⟩
theorem zd: ∀{R:List Nat} {i:Nat},i<R.length->inl R (nth R i)=true
 |[],i,h=>by simp at h
 |c::r,0,h=>by simp [inl,nth]
 |c::r,i+1,h=>by
  simp only [nth,inl,iS];exact .inr (zd (by simpa using h))
theorem yS: ∀{R:List Nat} {i:Nat},nodup R=true->i<R.length->idx R (nth R i)=i
 |[],i,_,h=>by simp at h
 |c::r,0,_,h=>by simp [idx,nth]
 |c::r,i+1,hn,h=>by
  simp only [nodup,aw,iH] at hn;have h1:=zd (R:=r) (i:=i) (by simpa using h)
  simp only [nth,idx];cases hc:Nat.beq c (nth r i)
  ·simp only [cond_false];rw [yS hn.2 (by simpa using h)]
  ·have:=dC hc;rw [this,h1] at hn;exact absurd hn.1 (by simp)
def al0:IntKind->IntKind->Bool
 | .i8,.i8=>true
 | .i16,.i16=>true
 | .i32,.i32=>true
 | .i64,.i64=>true
 | .u8,.u8=>true
 | .u16,.u16=>true
 | .u32,.u32=>true
 | .u64,.u64=>true
 |_,_=>false
theorem P6 {k j:IntKind} (h:al0 k j=true):k=j:=by
 cases k<;>cases j<;>first|rfl|cases h
mutual
def AV.same:AV->AV->Bool
 | .b x,.b y=>x==y
 | .i k x,.i j y=>al0 k j&&x==y
 | .s x,.s y=>x==y
 | .np,.np=>true
 | .p b o,.p c q=>Nat.beq b c&&Nat.beq o q
 | .ns,.ns=>true
 | .sl b o l c,.sl b' o' l' c'=>Nat.beq b b'&&Nat.beq o o'&&Nat.beq l l'&&Nat.beq c c'
 | .sg b o l,.sg b' o' l'=>Nat.beq b b'&&Nat.beq o o'&&Nat.beq l l'
 | .fn f l,.fn g m=>Nat.beq f g&&qa l m
 | .bm f l,.bm g m=>Nat.beq f g&&qa l m
 | .nf,.nf=>true
 | .ni,.ni=>true
 | .agg l,.agg m=>qa l m
 | .bg l,.bg m=>qa l m
 | .fz l a,.fz m b=>Nat.beq a b&&qa l m
 | .fp l a,.fp m b=>Nat.beq a b&&qa l m
 | .ze,.ze=>true
 | .en,.en=>true
 | .any,.any=>true
 |_,_=>false
def qa:List AV->List AV->Bool
 |[],[]=>true
 |x::l,y::m=>x.same y&&qa l m
 |_,_=>false
end
mutual
theorem AV.Lo: ∀{x y:AV},x.same y=true->x=y
 | .b x,y,h=>by cases y<;>simp_all [AV.same]
 | .i k x,y,h=>by
  cases y<;>simp [AV.same] at h;obtain ⟨h1,h2⟩:=h;rw [P6 h1,h2]
 | .s x,y,h=>by cases y<;>simp_all [AV.same]
 | .np,y,h=>by cases y<;>simp_all [AV.same]
 | .p b o,y,h=>by cases y<;>simp_all [AV.same]
 | .ns,y,h=>by cases y<;>simp_all [AV.same]
 | .sl b o l c,y,h=>by cases y<;>simp_all [AV.same]
 | .sg b o l,y,h=>by cases y<;>simp_all [AV.same]
 | .fn f l,y,h=>by
  cases y<;>simp [AV.same] at h;rw [h.1,jt h.2]
 | .bm f l,y,h=>by
  cases y<;>simp [AV.same] at h;rw [h.1,jt h.2]
 | .nf,y,h=>by cases y<;>simp_all [AV.same]
 | .ni,y,h=>by cases y<;>simp_all [AV.same]
 | .agg l,y,h=>by
  cases y<;>simp [AV.same] at h;rw [jt h]
 | .bg l,y,h=>by
  cases y<;>simp [AV.same] at h;rw [jt h]
 | .fz l a,y,h=>by
  cases y<;>simp [AV.same] at h;rw [h.1,jt h.2]
 | .fp l a,y,h=>by
  cases y<;>simp [AV.same] at h;rw [h.1,jt h.2]
 | .ze,y,h=>by cases y<;>simp_all [AV.same]
 | .en,y,h=>by cases y<;>simp_all [AV.same]
 | .any,y,h=>by cases y<;>simp_all [AV.same]
theorem jt: ∀{l m:List AV},qa l m=true->l=m
 |[],[],_=>rfl
 |x::l,y::m,h=>by
  simp only [qa,aw] at h;rw [AV.Lo h.1,jt h.2]
 |[],_::_,h=>by cases h
 |_::_,[],h=>by cases h
end
def LG:Option Nat->Option Nat->Bool
 |none,none=>true
 |some a,some b=>Nat.beq a b
 |_,_=>false
theorem EB {a b:Option Nat} (h:LG a b=true):a=b:=by
 cases a<;>cases b<;>simp_all [LG]
def dy (h0:Hp) (n0 b:Nat) (k:aW):Bool:=
 match k.ro with
 |false=>true
 |true=>Nat.blt b n0&&(match ab h0 b with
  |some j=>j.ro&&qa j.cells k.cells&&LG j.gr k.gr&&LG j.gid k.gid&&(j.mp.isNone&&k.mp.isNone)
  |none=>false)
theorem Ce {h0:Hp} {n0 b:Nat} {k:aW} (h:dy h0 n0 b k=true) (hr:k.ro=true):b<n0/\ab h0 b=some k:=by
 unfold dy at h;rw [hr] at h;simp only [aw] at h;obtain ⟨h1,h2⟩:=h;refine ⟨iD h1,?_⟩;split at h2
 ·rename_i j hj;simp only [aw] at h2;rw [hj];obtain ⟨c,r,g,d,m⟩:=k;obtain ⟨c',r',g',d',m'⟩:=j;simp only [Ez] at h2 hr;rw [jt h2.1.1.1.2,EB h2.1.1.2,EB h2.1.2,h2.1.1.1.1,hr,h2.2.1,h2.2.2]
 ·cases h2
def ko (h0:Hp) (n0 n:Nat):Hp->Bool
 |[]=>true
 |(b,k)::r=>Nat.blt b n&&ae n k.cells&&dy h0 n0 b k&&ko h0 n0 n r
theorem se {h0:Hp} {n0 n:Nat}: ∀{h:Hp},ko h0 n0 n h=true-> ∀b k,ab h b=some k->b<n/\ae n k.cells=true/\(k.ro=true->b<n0/\ab h0 b=some k)
 |[],_,b,k,hb=>by simp [ab] at hb
 |(c,j)::r,h,b,k,hb=>by
  simp only [ko,aw] at h;simp only [ab] at hb;by_cases hc:b=c
  ·subst hc;simp at hb;subst hb;exact ⟨iD h.1.1.1,h.1.1.2,fun hr=>Ce h.1.2 hr⟩
  ·rw [bz hc] at hb;exact se h.2 b k hb
def aei:List (Nat×dm)->Nat->Option dm
 |[],_=>none
 |(g,I)::r,f=>bif Nat.beq g f then some I else aei r f
def fE (χ:Nat->Nat) (m:Nat):Hp->List (Nat×aW)
 |[]=>[]
 |(b,k)::r=>bif Nat.blt b m then fE χ m r else (χ b,k.aH χ)::fE χ m r
def ix (R:List Nat) (n:Nat):Nat->Nat:=fun b=>if b<R.length then nth R b else n+(b-R.length)
end Go.Ab
namespace Go.Ab
section
variable {P:Program} {N n0:Nat}
theorem WP.seq {a b:Code} {K:cF} {e:Env} {h:Hp} {n:Nat} (hw:WP P N n0 a (gH K fun e h n=>WP P N n0 b K e h n) e h n):WP P N n0 (.seq a b) K e h n:=by
 intro ro hro B D0 φ0 H0 w0 h1 h2 D φ a w hR hS;refine wpIn_seq (wpIn_mono (hw ro (hro.imp _root_.id (fun h=>by simp only [jC,aw] at h;exact h.1)) B D0 φ0 H0 w0 h1 h2 D φ a w hR hS) (fun ex a' w' hp=> ?_))
 obtain ⟨D',φ',e',h',n',hk,hn',hR',hS'⟩:=hp;cases ex with
 |normal=>exact hk ro (hro.imp _root_.id (fun h=>by simp only [jC,aw] at h;exact h.2)) B D0 φ0 H0 w0 h1 hn' D' φ' a' w' hR' hS'
 |exit id=>exact ⟨D',φ',e',h',n',hk,hn',hR',hS'⟩
 |goto l=>exact ⟨D',φ',e',h',n',hk,hn',hR',hS'⟩
 |ret=>exact ⟨D',φ',e',h',n',hk,hn',hR',hS'⟩
 |panic ch=>exact ⟨D',φ',e',h',n',hk,hn',hR',hS'⟩
 |outgrown=>exact ⟨D',φ',e',h',n',hk,hn',hR',hS'⟩
theorem WP.scope {c:Code} {K:cF} {e:Env} {h:Hp} {n:Nat} (hw:WP P N n0 c (Dy K) e h n):WP P N n0 (.scope c) K e h n:=by
 intro ro hro B D0 φ0 H0 w0 h1 h2 D φ a w hR hS;refine jY (wpIn_mono (hw ro hro B D0 φ0 H0 w0 h1 h2 D φ a w hR hS) (fun ex a' w' hp=> ?_));obtain ⟨D',φ',e',h',n',hk,hn',hR',hS'⟩:=hp;cases ex with
 |goto l=>exact hk.elim
 |_=>exact ⟨D',φ',e',h',n',hk,hn',hR',hS'⟩
theorem WP.block {c:Code} {id:Nat} {K:cF} {e:Env} {h:Hp} {n:Nat} (hw:WP P N n0 c (iz id K) e h n):WP P N n0 (.block id c) K e h n:=by
 intro ro hro B D0 φ0 H0 w0 h1 h2 D φ a w hR hS;refine wpIn_block (wpIn_mono (hw ro hro B D0 φ0 H0 w0 h1 h2 D φ a w hR hS) (fun ex a' w' hp=> ?_));obtain ⟨D',φ',e',h',n',hk,hn',hR',hS'⟩:=hp;cases ex with
 |exit i=>
  simp only [iz] at hk;simp only [Exit.inBlock];split
  ·rename_i hid;rw [aM hid] at hk;exact ⟨D',φ',e',h',n',hk,hn',hR',hS'⟩
  ·rename_i hid;rw [aN hid] at hk;exact ⟨D',φ',e',h',n',hk,hn',hR',hS'⟩
 |normal=>exact ⟨D',φ',e',h',n',hk,hn',hR',hS'⟩
 |goto l=>exact ⟨D',φ',e',h',n',hk,hn',hR',hS'⟩
 |ret=>exact ⟨D',φ',e',h',n',hk,hn',hR',hS'⟩
 |panic ch=>exact ⟨D',φ',e',h',n',hk,hn',hR',hS'⟩
 |outgrown=>exact ⟨D',φ',e',h',n',hk,hn',hR',hS'⟩
theorem WP.cond {c:Operand} {x:cC} {a b:Code} {K:cF} {e:Env} {h:Hp} {n:Nat} {v:Bool} (hc:cO c=some x) (hg: ∀g,x≠ .g g) (hv:x.ev e h=some (.b v))
 (hw:match v with|true=>WP P N n0 a K e h n|false=>WP P N n0 b K e h n):WP P N n0 (.cond c a b) K e h n:=by
 intro ro hro B D0 φ0 H0 w0 h1 h2 D φ a w hR hS;have hvr:aI D φ (.b v) (a.eval c):=qU (fun t v _ hv=>hR.env t v hv) hc (fun g hgg=>by subst hgg;simp only [cO,aP] at hc;exact hg g hc.symm) hv
 generalize hu:a.eval c=u at hvr;cases hvr;cases v
 ·exact wpIn_cond_false hu (hw ro (hro.imp _root_.id (fun h=>by simp only [jC,aw] at h;exact h.2)) B D0 φ0 H0 w0 h1 h2 D φ a w hR hS)
 ·exact wpIn_cond_true hu (hw ro (hro.imp _root_.id (fun h=>by simp only [jC,aw] at h;exact h.1)) B D0 φ0 H0 w0 h1 h2 D φ a w hR hS)
end
section
variable {P:Program} {ct:List Nat} {N:Nat}
theorem M1 {c:Code} {a b:bG} (h:bH P ct N c= .seq a b): ∃a' b',c= .seq a' b'/\bH P ct N a'=a/\bH P ct N b'=b:=by
 cases c with
 |seq a' b'=>simp only [bH,bG.seq.injEq] at h;exact ⟨a',b',rfl,h.1,h.2⟩
 |region id ops draw=>simp only [bH] at h;split at h<;>(try split at h)<;>cases h
 |cond x y z=>simp only [bH] at h;split at h<;>cases h
 |rangeFunc g ps x y=>simp only [bH] at h;split at h<;>cases h
 |_=>simp [bH] at h
theorem Gl {c:Code} {id:Nat} {a:bG} (h:bH P ct N c= .block id a): ∃a',c= .block id a'/\bH P ct N a'=a:=by
 cases c with
 |block i a'=>simp only [bH,bG.block.injEq] at h;obtain ⟨rfl,h⟩:=h;exact ⟨a',rfl,h⟩
 |region id ops draw=>simp only [bH] at h;split at h<;>(try split at h)<;>cases h
 |cond x y z=>simp only [bH] at h;split at h<;>cases h
 |rangeFunc g ps x y=>simp only [bH] at h;split at h<;>cases h
 |_=>simp [bH] at h
end
def Valid (P:Program) (T:List (Nat×dm)):Prop:= ∀f I,aei T f=some I-> ∃fn,P.funcs[f]? =some fn/\aK P fn=some I/\bJ P f=true
theorem Valid.nil {P:Program}:Valid P []:=fun f I h=>by cases h
theorem Valid.cons {P:Program} {T:List (Nat×dm)} {f:Nat} {I:dm} {fn:Func} (h1:P.funcs[f]? =some fn) (h2:aK P fn=some I) (h3:bJ P f=true) (h:Valid P T):Valid P ((f,I)::T):=fun g J hg=>by
 simp only [aei] at hg;cases hfg:Nat.beq f g
 ·rw [hfg] at hg;exact h g J hg
 ·rw [hfg] at hg;have:=dC hfg;subst this;simp only [cond_true,aP] at hg;subst hg;exact ⟨fn,h1,h2,h3⟩
theorem pt {χ:Nat->Nat} {m n:Nat} (hχ: ∀b,m<=b->χ b=n+(b-m)): ∀{hR:Hp} {c:Nat} {kk:aW},ab (fE χ m hR) c=some kk-> ∃b kb,ab hR b=some kb/\m<=b/\c=χ b/\kk=kb.aH χ
 |[],c,kk,h=>by simp [fE,ab] at h
 |(b0,k0)::r,c,kk,h=>by
  simp only [fE] at h;cases hb:Nat.blt b0 m
  ·rw [hb] at h;simp only [cond_false,ab] at h;have hm:m<=b0:=by
    rcases dw b0 m with h'|h'
    ·have:Nat.blt b0 m=true:=by rw [Nat.blt_eq];exact h'
     rw [this] at hb;cases hb
    ·exact h'
   by_cases hc:c=χ b0
   ·subst hc;simp at h;exact ⟨b0,k0,by simp [ab],hm,rfl,h.symm⟩
   ·rw [bz hc] at h;obtain ⟨b,kb,h1,h2,h3,h4⟩:=pt hχ h;refine ⟨b,kb,?_,h2,h3,h4⟩;have:b≠b0:=fun e=>hc (by rw [h3,e])
    simp only [ab,bz this];exact h1
  ·rw [hb] at h;simp only [cond_true] at h;obtain ⟨b,kb,h1,h2,h3,h4⟩:=pt hχ h;refine ⟨b,kb,?_,h2,h3,h4⟩;have:b≠b0:=fun e=>by have:=iD hb;omega
   simp only [ab,bz this];exact h1
end Go.Ab
namespace Go.Ab
mutual
theorem AV.GL {m:Nat}: ∀v:AV,v.al 0=true->v.al m=true
 | .p b o,h=>by simp [AV.al,Nat.blt] at h
 | .sl b o l c,h=>by simp [AV.al,Nat.blt] at h
 | .sg b o l,h=>by simp [AV.al,Nat.blt] at h
 | .fn f l,h=>aD l h
 | .bm f l,h=>aD l h
 | .agg l,h=>aD l h
 | .bg l,h=>aD l h
 | .b x,_=>rfl
 | .i k n,_=>rfl
 | .s l,_=>rfl
 | .np,_=>rfl
 | .ns,_=>rfl
 | .nf,_=>rfl
 | .ni,_=>rfl
 | .fz l _,h=>aD l h
 | .fp l _,h=>aD l h
 | .ze,_=>rfl
 | .en,_=>rfl
 | .any,_=>rfl
 | .k _ _,_=>rfl
 | .m b,h=>by simp [AV.al,Nat.blt] at h
 | .nm,_=>rfl
 | .yl _ _ _ l,h=>aD l h
theorem aD {m:Nat}: ∀l:List AV,ae 0 l=true->ae m l=true
 |[],_=>rfl
 |v::r,h=>by
  simp only [ae,aw] at h ⊢;exact ⟨AV.GL v h.1,aD r h.2⟩
end
theorem ax.afM {P:Program} {f:FuncId} {argsL:List AV} {v:AV} {k:aW} {b n:Nat} {h:Hp} (hc:Go.Ab.bJ P f=true) (ha:ae 1 argsL=true) (hk:ae 0 k.cells=true) (hv:v.al 0=true) (hb:ab h b=some k)
 (hf:bt P f argsL [(0,k)] 1 v [(0,k)] 1):ax P f (aL (fun _=>b) argsL) h n {v,n,rd:=[b]}:=by
 have hkr:k.aH (fun _=>b)=k:=by simp only [aW.aH,aU k.cells hk]
 have h0: ∀c kk,ab [(0,k)] c=some kk->c=0/\kk=k:=fun c kk hh=>by
  simp only [ab] at hh;by_cases hc:c=0
  ·subst hc;simp at hh;exact ⟨rfl,hh.symm⟩
  ·rw [bz hc] at hh;simp at hh
 have hbel1:ae 1 k.cells=true:=aD _ hk;refine ax.IG (ψ:=fun _=>b) hc hf (bx _) ha (fun c hc=>⟨k,by rw [show c=0 by omega];rfl⟩) (fun c kk hh=> ?_) rfl (fun c kk hh=> ?_) (fun b1 b2 k1 k2 h1 h2 _ _=> ?_) (by simp) (lS _ hv).symm (fun c r hh=>by simp [dH] at hh) (fun c kk hh=>by simp [ab] at hh) (fun c kk hh=> ?_)
 ·obtain ⟨rfl,rfl⟩:=h0 c kk hh;exact ⟨by omega,hbel1⟩
 ·obtain ⟨rfl,rfl⟩:=h0 c kk hh;rw [hkr];simp [only,inl,hb]
 ·rw [(h0 b1 k1 h1).1,(h0 b2 k2 h2).1]
 ·simp only [bX.app,dH,ab] at hh;simp only [only,inl,gZ] at hh;by_cases hcb:b=c
  ·subst hcb;simp [hb] at hh;subst hh;exact ⟨0,k,rfl,by omega,by simp,by simp only [aW.aH,aU k.cells hk],fun _=>⟨by omega,rfl⟩⟩
  ·rw [bz (fun e=>hcb e.symm)] at hh;simp at hh
theorem Loop.by {F:Fx} (hcx:Sound F.P F.cx) (hm:F.P.follows .mixedOrders=true) {c:bG} {K:cF} {X:Type} (ok:X->Prop) (μ:X->Nat) (E:X->Env) (H:X->Hp) (n2:Nat) (x0:X) {e:Env} {h:Hp} {n:Nat} (hn:F.n0<=n2)
 (h0:ok x0) (he:nS n2 e (E x0)) (hh:uN n2 h (H x0))
 (round: ∀x,ok x->jw F c (gH K fun e' h' n'=> ∃x',(ok x'/\μ x'<μ x)/\nS n2 e' (E x')/\uN n2 h' (H x')) (E x) (H x) n2):Loop F.P F.ct F.N F.n0 c K e h n:=by
 refine Loop.inv (F:=F) hcx hm (X:={x:X // ok x}) (fun k=>(E k.1,H k.1,n2)) (fun k=>μ k.1) ⟨x0,h0⟩ _root_.id (Wk.MZ hn he hh) (fun k=> ?_);refine pv (fun ex e' h' n' hx=> ?_) (aQ (round k.1 k.2));cases ex with
 |normal=>
  obtain ⟨x',⟨h1,h2⟩,h3,h4⟩:=hx;exact ⟨⟨x',h1⟩,_root_.id,Wk.MZ hn h3 h4,h2⟩
 |_=>exact hx
theorem aG {a b:Nat}:Nat.blt a b=decide (a<b):=by
 unfold Nat.blt;rw [anL];exact qF.2 Nat.succ_le_iff
theorem Ends.gu {n:Nat} {v v2:AV} {h:Hp} {k k2:aW} (hv:v.al 1=true) (hb:ab h 0=some k) (hk:ae 1 k.cells=true) (he:v=v2) (hkk:k=k2):Ends 1 v h n v2 [(0,k2)] 1:=by
 subst he hkk;refine Ends.MZ hv (fun b x hx=> ?_);simp only [jD,bq,List.not_mem_nil,or_false] at hx;obtain ⟨rfl,rfl⟩:=hx;exact ⟨hb,hk,by omega⟩
theorem bS {n:Int} (h: -9223372036854775808<=n) (h':n<=9223372036854775807):IntKind.i64.wrap n=n:=by
 simp only [IntKind.wrap,IntKind.bits,IntKind.signed];simp;split<;>omega
theorem qN (n:Int):IntKind.u8.wrap n=n % 256:=by
 simp [IntKind.wrap,IntKind.bits,IntKind.signed]
theorem mY (n:Int):IntKind.u16.wrap n=n % 65536:=by
 simp [IntKind.wrap,IntKind.bits,IntKind.signed]
theorem mO (n:Int):IntKind.u32.wrap n=n % 4294967296:=by
 simp [IntKind.wrap,IntKind.bits,IntKind.signed]
theorem EH (n:Int):IntKind.u64.wrap n=n % 18446744073709551616:=by
 simp [IntKind.wrap,IntKind.bits,IntKind.signed]
theorem zU (k:Nat) (m n:Int) (hk:k<=62) (hm:m=2^k-1):iU .i64 n m=n % 2^k:=by
 have hp:(2:Int)^k=((2^k:Nat):Int):=by simp
 have hle:(2:Nat)^k<=2^62:=Nat.pow_le_pow_right (by decide) hk
 have h62:(2:Nat)^62=4611686018427387904:=by decide
 have hpos:0<(2:Nat)^k:=Nat.two_pow_pos k;unfold iU;have h:(BitVec.ofInt 64 n &&& BitVec.ofInt 64 m).toNat=(n % 2^k).toNat:=by
  rw [BitVec.toNat_and];have e:(BitVec.ofInt 64 m).toNat=2^k-1:=by
   rw [BitVec.toNat_ofInt,hm,hp];omega
  rw [e,Nat.and_two_pow_sub_one_eq_mod,BitVec.toNat_ofInt];have hd:((2^k:Nat):Int) ∣ ((2^64:Nat):Int):=Int.natCast_dvd_natCast.2 (Nat.pow_dvd_pow 2 (by omega))
  have h2:(n % ((2^64:Nat):Int)) % ((2^k:Nat):Int)=n % ((2^k:Nat):Int):=Int.emod_emod_of_dvd n hd;have h3:0<=n % ((2^64:Nat):Int):=Int.emod_nonneg _ (by decide)
  rw [hp,<-h2];generalize n % ((2^64:Nat):Int)=q at h3;obtain ⟨q',rfl⟩:=Int.eq_ofNat_of_zero_le h3;have h4:((q':Nat):Int) % ((2^k:Nat):Int)=((q' % 2^k:Nat):Int):=by omega
  show (((q':Nat):Int)).toNat % 2^k=_;rw [h4,lR,lR]
 show IntKind.i64.wrap ((BitVec.ofInt 64 n &&& BitVec.ofInt 64 m).toNat:Int)=n % 2^k;rw [h,hp];have h1:0<=n % ((2^k:Nat):Int):=Int.emod_nonneg _ (by omega)
 have h2:n % ((2^k:Nat):Int)<((2^k:Nat):Int):=Int.emod_lt_of_pos _ (by omega)
 rw [bS (by omega) (by omega)]
 omega
theorem Qi (n:Int):iU .i64 n 32767=n % 32768:=zU 15 _ n (by decide) (by decide)
theorem akG (n:Int):iU .i64 n 65535=n % 65536:=zU 16 _ n (by decide) (by decide)
theorem aki (n:Int):iU .i64 n 4294967295=n % 4294967296:=zU 32 _ n (by decide) (by decide)
def Kp (p:Nat->Bool):Bool:=(List.range 256).all p
theorem xx {p:Nat->Bool} (h:Kp p=true) (a:UInt8):p a.toNat=true:=by
 simp only [Kp,er,oh] at h;exact h _ a.toNat_lt
end Go.Ab
namespace Go.Ab
def GJ {α:Type} (v:AV) (kn:Option α) (ks:Nat->Nat->Nat->Nat->Option α) (kg:Nat->Nat->Nat->Option α):Option α:=match v with
 | .ns=>kn
 | .sl b o l c=>ks b o l c
 | .sg b o l=>kg b o l
 |_=>none
def afe {α:Type} (v:AV) (ks:Nat->Nat->Nat->Nat->Option α):Option α:=match v with
 | .sl b o l c=>ks b o l c
 |_=>none
theorem Pd {α:Type} {b o l c:Nat} {ks:Nat->Nat->Nat->Nat->Option α}:afe (.sl b o l c) ks=ks b o l c:=(rfl)
theorem ae7 {α:Type} {kn:Option α} {ks:Nat->Nat->Nat->Nat->Option α} {kg:Nat->Nat->Nat->Option α}:GJ .ns kn ks kg=kn:=(rfl)
theorem aoJ {α:Type} {b o l c:Nat} {kn:Option α} {ks:Nat->Nat->Nat->Nat->Option α} {kg:Nat->Nat->Nat->Option α}:GJ (.sl b o l c) kn ks kg=ks b o l c:=(rfl)
theorem Fb {α:Type} {b o l:Nat} {kn:Option α} {ks:Nat->Nat->Nat->Nat->Option α} {kg:Nat->Nat->Nat->Option α}:GJ (.sg b o l) kn ks kg=kg b o l:=(rfl)
def Be {α:Type} (v:AV) (ke k:Option α):Option α:=match v with
 | .en=>ke
 |_=>k
theorem acE {α:Type} {l:List AV} {m:Nat} {ke k:Option α}:Be (.fz l m) ke k=k:=(rfl)
theorem Tb {α:Type} {ke k:Option α}:Be .ze ke k=k:=(rfl)
theorem Ym {α:Type} {ke k:Option α}:Be .ns ke k=k:=(rfl)
theorem aao {α:Type} {b o l c:Nat} {ke k:Option α}:Be (.sl b o l c) ke k=k:=(rfl)
theorem Y8 {α:Type} {b o l:Nat} {ke k:Option α}:Be (.sg b o l) ke k=k:=(rfl)
def jS {α:Type} (c:Bool) (a b:Option α):Option α:=bif c then a else b
@[congr] theorem iteD_congr {α:Type} {c c':Bool} {a b:Option α} (h:c=c'):jS c a b=jS c' a b:=by rw [h]
theorem Dc {α:Type} {a b:Option α}:jS true a b=a:=(rfl)
theorem sX {α:Type} {a b:Option α}:jS false a b=b:=(rfl)
def Qt (g:Option Nat) (k:Nat->Option (Bool×bX)):Option (Bool×bX):=match g with
 |some z=>k z
 |none=>none
theorem HL {z:Nat} {k:Nat->Option (Bool×bX)}:Qt (some z) k=k z:=(rfl)
section
variable {cx:Cx} {e:Env} {h:Hp} {n:Nat}
theorem Ec {x:cC}:cA cx (.oF x) e h n=(x.ev e h).bind fun v=>Be v (some (true,{v:= .i .i64 0,n}))<|FN v (fun l m=>some (true,{v:= .i .i64 (m:Int),n})) (some (true,{v:= .i .i64 0,n})) fun v=>GJ v (some (true,{v:= .i .i64 0,n})) (fun b o l c=>some (true,{v:= .i .i64 (l:Int),n})) (fun b o l=>some (true,{v:= .i .i64 (l:Int),n})):=by
 rw [EF];congr 1;funext v;cases v<;>rfl
theorem Nk {x:cC}:cA cx (.Jy x) e h n=(x.ev e h).bind fun v=>FN v (fun l m=>none) (some (true,{v:= .i .i64 0,n})) fun v=>GJ v (some (true,{v:= .i .i64 0,n})) (fun b o l c=>some (true,{v:= .i .i64 (c:Int),n})) (fun b o l=>none):=by
 show (x.ev e h).bind _=_;congr 1;funext v;cases v<;>rfl
theorem UC {m z:Nat} {x:cC} {lo hi mx:Option cC}:cA cx (.slA m z x lo hi mx) e h n=(x.ev e h).bind fun v=>Wo v fun b o=>dp e h lo fun lo=>dp e h hi fun hi=>dp e h mx fun mx=>
 some ((aJ m m lo hi mx).1,{v:= .sl b (if (aJ m m lo hi mx).2.2.2=(aJ m m lo hi mx).2.1 then o else o+(aJ m m lo hi mx).2.1*z) ((aJ m m lo hi mx).2.2.1-(aJ m m lo hi mx).2.1) ((aJ m m lo hi mx).2.2.2-(aJ m m lo hi mx).2.1),n}):=(rfl)
theorem UN {α:Type} {c:Bool} {a b:Option α}:(match c with|true=>a|false=>b)=jS c a b:=by cases c<;>rfl
theorem IM {z:Nat} {x:cC} {lo hi:Option cC}:cA cx (.qT z x lo hi none) e h n=(x.ev e h).bind fun v=>FN v (fun l len=>dp e h lo fun lo=>dp e h hi fun hi=>some ((aJ len len lo hi none).1,{v:= .fz (l.drop ((aJ len len lo hi none).2.1*z)) ((aJ len len lo hi none).2.2.1-(aJ len len lo hi none).2.1),n}))
 (dp e h lo fun lo=>dp e h hi fun hi=>some ((aJ 0 0 lo hi none).1,{v:= .ze,n})) fun v=>GJ v
 (dp e h lo fun lo=>dp e h hi fun hi=>some ((aJ 0 0 lo hi none).1,{v:= .ns,n}))
 (fun b o len cap=>dp e h lo fun lo=>dp e h hi fun hi=>some ((aJ len cap lo hi none).1,{v:= .sl b (if (aJ len cap lo hi none).2.2.2=(aJ len cap lo hi none).2.1 then o else o+(aJ len cap lo hi none).2.1*z) ((aJ len cap lo hi none).2.2.1-(aJ len cap lo hi none).2.1) ((aJ len cap lo hi none).2.2.2-(aJ len cap lo hi none).2.1),n}))
 (fun b o len=>(iO h b).bind fun k=>dp e h lo fun lo=>dp e h hi fun hi=>Qt k.gr fun z'=>
   jS (decide ((aJ len len lo hi none).2.1=0\/(aJ len len lo hi none).2.1<len)) (some ((aJ len len lo hi none).1&&Nat.beq z z',{v:= .sg b (o+(aJ len len lo hi none).2.1*z) ((aJ len len lo hi none).2.2.1-(aJ len len lo hi none).2.1),n,rd:=[b]})) (some ((aJ len len lo hi none).1&&Nat.beq z z',{v:= .en,n,rd:=[b]}))):=by
 show (x.ev e h).bind _=_;congr 1;funext v;cases v<;>first|rfl|(simp only [EN,Fb];congr 1;funext k;congr 1;funext lo;congr 1;funext hi;cases k.gr with|none=>rfl|some z'=>exact UN)|(simp only [Is,kA,Option.isSome_none,cY,false_and,bV])
theorem OL {z:Nat} {x:cC} {lo hi:Option cC} {m:cC}:cA cx (.qT z x lo hi (some m)) e h n=(x.ev e h).bind fun v=>FN v (fun l len=>dp e h lo fun lo=>dp e h hi fun hi=>dp e h (some m) fun mx=>some ((aJ len len lo hi mx).1,{v:=if mx.isSome/\(aJ len len lo hi mx).2.2.2=(aJ len len lo hi mx).2.1 then .ze else .fz (l.drop ((aJ len len lo hi mx).2.1*z)) ((aJ len len lo hi mx).2.2.1-(aJ len len lo hi mx).2.1),n}))
 (dp e h lo fun lo=>dp e h hi fun hi=>dp e h (some m) fun mx=>some ((aJ 0 0 lo hi mx).1,{v:= .ze,n})) fun v=>GJ v
 (dp e h lo fun lo=>dp e h hi fun hi=>dp e h (some m) fun mx=>some ((aJ 0 0 lo hi mx).1,{v:= .ns,n}))
 (fun b o len cap=>dp e h lo fun lo=>dp e h hi fun hi=>dp e h (some m) fun mx=>some ((aJ len cap lo hi mx).1,{v:= .sl b (if (aJ len cap lo hi mx).2.2.2=(aJ len cap lo hi mx).2.1 then o else o+(aJ len cap lo hi mx).2.1*z) ((aJ len cap lo hi mx).2.2.1-(aJ len cap lo hi mx).2.1) ((aJ len cap lo hi mx).2.2.2-(aJ len cap lo hi mx).2.1),n}))
 (fun b o len=>none):=by
 show (x.ev e h).bind _=_;congr 1;funext v;cases v<;>first|rfl|(simp only [Is,kA,Option.isSome_none,cY,false_and,bV])
theorem Tq {z bytes:Nat} {zs:List AV} {l c:cC}:cA cx (.R7 z bytes zs l c) e h n=(l.ev e h).bind fun l=>(Kv l).bind fun l=>(c.ev e h).bind fun c=>(Kv c).bind fun c=>
 some (decide (0<=l/\l<=c/\bytes*c<=281474976710656/\c<=9223372036854775807),{v:= .sl n 0 l.toNat c.toNat,n:=n+1,nw:=[(n,{cells:=dI zs c.toNat})]}):=(rfl)
theorem Ti {z:Nat} {zs:List AV} {x:cC}:cA cx (.Rt z zs x) e h n=(x.ev e h).bind fun v=>GJ v (some (true,{v:= .bg [],n}))
 (fun b o l c=>(iO h b).bind fun k=>OA k.ro (some (aX zs&&Nat.beq zs.length z&&decide (o+l*z<=k.cells.length),{v:= .bg [],n,rd:=[b],md:=[(b,some {k with cells:=eF k.cells o (dI zs l)})]})))
 (fun b o l=>(iO h b).bind fun k=>OA k.ro (some (aX zs&&Nat.beq zs.length z&&decide (o+l*z<=k.cells.length),{v:= .bg [],n,rd:=[b],md:=[(b,some {k with cells:=eF k.cells o (dI zs l)})]}))):=by
 show (x.ev e h).bind _=_;congr 1;funext v;cases v<;>rfl
def AF (h:Hp) (z:Nat) (x:AV) (k:List Nat->Nat->List AV->Bool->Option (Bool×bX)):Option (Bool×bX):=(kV h z x).bind fun r=>k r.1 r.2.1 r.2.2.1 r.2.2.2
section
variable {z:Nat} {k:List Nat->Nat->List AV->Bool->Option (Bool×bX)}
theorem Tg:AF h z .en k=k [] 0 [] true:=(rfl)
theorem WV {l:List AV} {len:Nat}:AF h z (.fz l len) k=k [] len (aA l 0 (len*z)) (decide ((aA l 0 (len*z)).length=len*z)):=(rfl)
theorem KL {b o len cap:Nat}:AF h z (.sl b o len cap) k=(iO h b).bind fun q=>k [b] len (aA q.cells o (len*z)) (decide ((aA q.cells o (len*z)).length=len*z)):=by
 show ((iO h b).bind _).bind _=_;cases iO h b<;>rfl
end
theorem JF {z bytes:Nat} {zs:List AV} {s x:cC}:cA cx (.app z bytes zs s x) e h n=(s.ev e h).bind fun s=>(x.ev e h).bind fun x=>AF h z x fun r0 m cs ok=>
 FN s (fun l len=>jS (decide (m=0)) (some (ok,{v:= .fz l len,n,rd:=r0})) none) (jS (decide (m=0)) (some (ok,{v:= .ze,n,rd:=r0})) (some (ok&&decide (bytes*m<=aE),{v:= .sg n 0 m,n:=n+1,rd:=r0,nw:=[(n,{cells:=cs,gr:=some z})]}))) fun s=>GJ s
  (jS (decide (m=0)) (some (ok,{v:= .ns,n,rd:=r0})) (some (ok&&decide (bytes*m<=aE),{v:= .sg n 0 m,n:=n+1,rd:=r0,nw:=[(n,{cells:=cs,gr:=some z})]})))
  (fun b o len cap=>jS (decide (m=0)) (some (ok&&decide (len<=cap),{v:= .sl b o len cap,n,rd:=r0}))
    ((iO h b).bind fun k=>jS (decide (len+m<=cap))
      (OA k.ro (some (ok&&decide (o+len*z+cs.length<=k.cells.length)&&aX cs,{v:= .sl b o (len+m) cap,n,rd:=b::r0,md:=[(b,some {k with cells:=eF k.cells (o+len*z) cs})]})))
      (some (ok&&decide (bytes*(len+m)<=aE)&&decide ((aA k.cells o (len*z)).length=len*z)&&decide (len<=cap),{v:= .sg n 0 (len+m),n:=n+1,rd:=b::r0,nw:=[(n,{cells:=aA k.cells o (len*z)++cs,gr:=some z})]}))))
  (fun b o len=>jS (decide (m=0)) (some (ok,{v:= .sg b o len,n,rd:=r0}))
    ((iO h b).bind fun k=>Qt k.gr fun z'=>some (ok&&decide (bytes*(len+m)<=aE)&&Nat.beq z z'&&decide (k.cells.length=o+len*z)&&aX cs,{v:= .sg n 0 (len+m),n:=n+1,rd:=b::r0,md:=[(b,none)],nw:=[(n,{cells:=k.cells.drop o++cs,gr:=some z})]}))):=by
 show (s.ev e h).bind _=_;congr 1;funext s;congr 1;funext x;unfold AF;cases kV h z x with
 |none=>rfl
 |some r=>
  obtain ⟨r0,m,cs,ok⟩:=r;simp only [aS];show (if m=0 then _ else _)=_
  by_cases hm:m=0
  ·subst hm;simp only [cu,pX,Dc];cases s<;>rfl
  ·simp only [hm,bV,decide_false,sX];cases s with
   |sl b o len cap=>
    show (iO h b).bind _=(iO h b).bind _;congr 1;funext k;by_cases hc:len+m<=cap
    ·simp only [hc,cu,pX,Dc];cases k.ro<;>rfl
    ·simp only [hc,bV,decide_false,sX]
   |_=>rfl
theorem Y6 {z:Nat} {d s:cC}:cA cx (.FW z d s) e h n=(d.ev e h).bind fun d=>(s.ev e h).bind fun s=>AF h z s fun r0 m cs ok=>Be d (some (ok,{v:= .i .i64 0,n,rd:=r0}))<|GJ d (some (ok,{v:= .i .i64 0,n,rd:=r0}))
 (fun b o l c=>(iO h b).bind fun k=>OA k.ro (some (ok&&(aX cs||aX (cs.take (Nat.min m l*z)))&&decide (o+Nat.min m l*z<=k.cells.length),{v:= .i .i64 (Nat.min m l),n,rd:=b::r0,md:=[(b,some {k with cells:=eF k.cells o (cs.take (Nat.min m l*z))})]})))
 (fun b o l=>(iO h b).bind fun k=>OA k.ro (some (ok&&(aX cs||aX (cs.take (Nat.min m l*z)))&&decide (o+Nat.min m l*z<=k.cells.length),{v:= .i .i64 (Nat.min m l),n,rd:=b::r0,md:=[(b,some {k with cells:=eF k.cells o (cs.take (Nat.min m l*z))})]}))):=by
 show (d.ev e h).bind _=_;congr 1;funext d;congr 1;funext s;unfold AF;cases kV h z s with
 |none=>rfl
 |some r=>obtain ⟨r0,m,cs,ok⟩:=r;cases d<;>rfl
theorem abE {z bytes:Nat} {zs:List AV} {s x:cC}:cA cx (.apz z bytes zs s x) e h n=(s.ev e h).bind fun s=>(x.ev e h).bind fun x=>(Kv x).bind fun m=>afe s fun b o len cap=>(iO h b).bind fun k=>
 some (decide (0<m)&&decide (cap<len+m.toNat)&&decide (bytes*(len+m.toNat)<=aE)&&decide ((aA k.cells o (len*z)).length=len*z),{v:= .sg n 0 (len+m.toNat),n:=n+1,rd:=[b],nw:=[(n,{cells:=aA k.cells o (len*z)++dI zs m.toNat,gr:=some z})]}):=by
 show (s.ev e h).bind _=_;cases s<;>rfl
end
theorem LK {z:List AV}:dI z 0=[]:=(rfl)
theorem rq {z:List AV} {n:Nat}:dI z (n+1)=z++dI z n:=(rfl)
attribute [go_sem ↓] acE Tb Ym aao Y8 Ec Nk UC IM OL Tq Ti JF Y6 abE Pd ae7 aoJ Fb Dc sX HL Tg WV KL LK rq
attribute [go_sem] aJ nu
attribute [go_sem] ql bne_self_eq_false Int.cast_ofNat_Int Int.lt_irrefl Int.le_refl IntKind.bits Nat.zero_ne_one Nat.one_ne_zero pU dr nq gq Option.isSome_some bS gt_iff_lt ge_iff_le lR C1 ite_self gv fu
end Go.Ab
namespace Go.Ab
theorem Loop.fj {F:Fx} (hcx:Sound F.P F.cx) (hm:F.P.follows .mixedOrders=true) {c:bG} {K:cF} (m:Nat) (ok:Nat->Prop) (E:Nat->Env) (H:Nat->Hp) (n2:Nat) {e:Env} {h:Hp} {n:Nat} (hn:F.n0<=n2)
 (h0:ok 0) (he:nS n2 e (E 0)) (hh:uN n2 h (H 0))
 (round: ∀k,k<=m->ok k->jw F c (gH K fun e' h' n'=>(k<m/\ok (k+1))/\nS n2 e' (E (k+1))/\uN n2 h' (H (k+1))) (E k) (H k) n2):Loop F.P F.ct F.N F.n0 c K e h n:=by
 refine Loop.by (F:=F) hcx hm (X:=Nat) (fun k=>k<=m/\ok k) (fun k=>m-k) E H n2 0 hn ⟨eB _,h0⟩ he hh (fun k hk=> ?_)
 have h1:=round k hk.1 hk.2;have key: ∀{c:bG} {K K':cF} {e:Env} {h:Hp} {n:Nat},(∀ex e h n,K ex e h n->K' ex e h n)->jw F c K e h n->jw F c K' e h n:=by
  intro c;induction c with
  |skip=>intro K K' e h n hk hi;exact hk _ _ _ _ hi
  |cQ ops=>
   intro K K' e h n hk hi;have mono: ∀{l:List aj} {e:Env} {h:Hp} {n:Nat} {K K':cF},(∀ex e h n,K ex e h n->K' ex e h n)->jR F.cx l e h n K->jR F.cx l e h n K':=by
    intro l;induction l with
    |nil=>intro e h n K K' hk hr;exact hk _ _ _ _ hr
    |cons o os ih=>
     intro e h n K K' hk hr;have g4: ∀{d:Option Nat} {op:jJ} {s:Bool} {e:Env} {h:Hp} {n:Nat},(GZ (lk F.cx op e h n) fun c p v h n=>iV c (DY p K e h n (gY s v fun v=>jR F.cx os (ij d v e) h n K)))->GZ (lk F.cx op e h n) fun c p v h n=>iV c (DY p K' e h n (gY s v fun v=>jR F.cx os (ij d v e) h n K')):=by
      intro d op s e h n hg;cases hx:lk F.cx op e h n with
      |none=>rw [hx] at hg;exact hg.elim
      |some r=>rw [hx] at hg;exact ⟨hg.1,vU hk (jk (fun v hv=>ih hk hv)) hg.2⟩
     obtain ⟨d,op,g,s⟩:=o;cases g with
     |none=>simp only [jR] at hr ⊢;exact g4 hr
     |some g=>
      obtain ⟨t,b⟩:=g;simp only [jR] at hr ⊢;refine gX (fun v hv=> ?_) hr;unfold kF at hv ⊢;split at hv<;>first
       |exact g4 hv
       |exact ih hk hv
       |exact hv.elim
   exact mono hk hi
  |cG ops=>
   intro K K' e h n hk hi;have mono: ∀{l:List (aj×List Nat)} {i:Nat} {dn:List (Nat×bX)} {e:Env} {h:Hp} {n:Nat} {K K':cF},(∀ex e h n,K ex e h n->K' ex e h n)->rD F.cx l i dn e h n K->rD F.cx l i dn e h n K':=by
    intro l;induction l with
    |nil=>intro i dn e h n K K' hk hr;exact hk _ _ _ _ hr
    |cons o os ih=>
     intro i dn e h n K K' hk hr;have g5: ∀{un:List Nat} {d:Option Nat} {op:jJ} {s:Bool} {e:Env} {h:Hp} {n:Nat},(KJ (p3 F.cx un i dn op e h n) fun c p v h n dn=>iV c (FG p un os K e h n (gY s v fun v=>rD F.cx os (i+1) dn (ij d v e) h n K)))->KJ (p3 F.cx un i dn op e h n) fun c p v h n dn=>iV c (FG p un os K' e h n (gY s v fun v=>rD F.cx os (i+1) dn (ij d v e) h n K')):=by
      intro un d op s e h n hg;cases hx:p3 F.cx un i dn op e h n with
      |none=>rw [hx] at hg;exact hg.elim
      |some r=>rw [hx] at hg;exact ⟨hg.1,vM hk (jk (fun v hv=>ih hk hv)) hg.2⟩
     obtain ⟨⟨d,op,g,s⟩,un⟩:=o;cases g with
     |none=>simp only [rD] at hr ⊢;exact g5 hr
     |some g=>
      obtain ⟨t,b⟩:=g;simp only [rD] at hr ⊢;refine gX (fun v hv=> ?_) hr;unfold kF at hv ⊢;split at hv<;>first
       |exact g5 hv
       |exact ih hk hv
       |exact hv.elim
   exact mono hk hi
  |seq a b iha ihb=>
   intro K K' e h n hk hi;exact iha (fun ex e h n hx=>by cases ex<;>first|exact ihb hk hx|exact hk _ _ _ _ hx) hi
  |cond c a b iha ihb=>
   intro K K' e h n hk hi;refine gX (fun v hv=> ?_) hi;unfold uv at hv ⊢;split at hv
   ·exact iha hk hv
   ·exact ihb hk hv
   ·exact hv.elim
  |block id c ih=>
   intro K K' e h n hk hi;exact ih (fun ex e h n hx=>by
    cases ex with
    |exit i=>simp only [iz] at hx ⊢;split<;>rename_i hid<;>simp only [hid,cu,bV] at hx<;>exact hk _ _ _ _ hx
    |_=>exact hk _ _ _ _ hx) hi
  |loop c ih=>intro K K' e h n hk hi;exact Loop.mono hk hi
  |oO g ps a b=>intro K K' e h n hk hi;exact oA.mono hk hi
  |scope c ih=>intro K K' e h n hk hi;exact ih (fun ex e h n hx=>by cases ex<;>first|exact hx.elim|exact hk _ _ _ _ hx) hi
  |exit id=>intro K K' e h n hk hi;exact hk _ _ _ _ hi
  |ret=>intro K K' e h n hk hi;exact hk _ _ _ _ hi
  |bad=>intro K K' e h n hk hi;exact hi.elim
 refine key (fun ex e' h' n' hx=> ?_) h1;cases ex with
 |normal=>
  obtain ⟨⟨h1,h2⟩,h3,h4⟩:=hx;exact ⟨k+1,⟨⟨h1,h2⟩,by omega⟩,h3,h4⟩
 |_=>exact hx
end Go.Ab
namespace Go.Ab
def rows {α:Type} (f:α->List AV) (l:List α):List AV:=(l.map f).flatten
section
variable {α:Type} {f:α->List AV} {z:Nat}
theorem Ih:rows f []=[]:=rfl
theorem cT {a:α} {l:List α}:rows f (a::l)=f a++rows f l:=rfl
theorem df {l m:List α}:rows f (l++m)=rows f l++rows f m:=by simp [rows]
theorem aT (hf: ∀a,(f a).length=z): ∀{l:List α},(rows f l).length=l.length*z
 |[]=>by simp [rows]
 |a::l=>by rw [cT,dN,hf,aT hf,List.length_cons,dF,sv,ur]
theorem yh (hf: ∀a,(f a).length=z): ∀{l:List α} {k:Nat},(rows f l).drop (k*z)=rows f (l.drop k)
 |l,0=>by simp
 |[],k+1=>by simp [rows]
 |a::l,k+1=>by
  rw [cT,vh,hf,rN (l:=f a) (by rw [hf,dF];omega),List.nil_append,show (k+1)*z-z=k*z by rw [dF];omega,yh hf]
  rfl
theorem sS (hf: ∀a,(f a).length=z): ∀{l:List α} {k:Nat},(rows f l).take (k*z)=rows f (l.take k)
 |l,0=>by simp [rows]
 |[],k+1=>by simp [rows]
 |a::l,k+1=>by
  rw [cT,yJ,hf,h9 (l:=f a) (by rw [hf,dF];omega),show (k+1)*z-z=k*z by rw [dF];omega,sS hf]
  rfl
theorem eo (hf: ∀a,(f a).length=z) {l:List α} {k:Nat} {a:α} (h:l[k]? =some a):aA (rows f l) (k*z) z=f a:=by
 unfold aA;rw [yh hf];have hk:k<l.length:=by
  rcases dw k l.length with h'|h'
  ·exact h'
  ·rw [fM h'] at h;cases h
 rw [kW hk,cT];have:l[k]=a:=by rw [aY hk] at h;exact Option.some.inj h
 rw [this,yJ,hf,sF,s8,cM,h9 (by rw [hf];omega)]
theorem cn (hf: ∀a,(f a).length=z) {l:List α} {k j:Nat} {a:α} {v:AV} (h:l[k]? =some a) (hj:(f a)[j]? =some v):(rows f l)[k*z+j]? =some v:=by
 have h1:=eo hf h;have hlt:j<z:=by
  rcases dw j z with h'|h'
  ·exact h'
  ·rw [fM (by rw [hf];omega)] at hj;cases hj
 rw [<-h1] at hj;unfold aA at hj;rw [List.getElem?_take_of_lt hlt,iq] at hj;exact hj
theorem eY {m:Nat}: ∀{l r:List AV},ae m (l++r)=(ae m l&&ae m r)
 |[],r=>by simp [ae]
 |a::l,r=>by simp [ae,eY (l:=l),yx]
theorem bN {m:Nat} (hb: ∀a,ae m (f a)=true): ∀{l:List α},ae m (rows f l)=true
 |[]=>rfl
 |a::l=>by rw [cT,eY,hb,bN hb];rfl
def bk (z:Nat) (g:List AV->Option α):Nat->List AV->Option (List α)
 |0,[]=>some []
 |0,_=>none
 |n+1,c=>(g (c.take z)).bind fun a=>(bk z g n (c.drop z)).bind fun l=>some (a::l)
theorem bD {g:List AV->Option α} (hg: ∀c a,g c=some a->c=f a): ∀{n:Nat} {c:List AV} {l:List α},bk z g n c=some l->c=rows f l/\l.length=n
 |0,[],l,h=>by simp only [bk,aP] at h;subst h;exact ⟨rfl,rfl⟩
 |0,_::_,l,h=>by simp [bk] at h
 |n+1,c,l,h=>by
  simp only [bk,af,aP] at h;obtain ⟨a,ha,m,hm,rfl⟩:=h;obtain ⟨h1,h2⟩:=bD hg hm;refine ⟨?_,by simp [h2]⟩
  rw [cT,<-h1,<-hg _ _ ha,kQ]
theorem eu {g:List AV->Option α} (hf: ∀a,(f a).length=z) (hg: ∀a,g (f a)=some a): ∀l:List α,bk z g l.length (rows f l)=some l
 |[]=>rfl
 |a::l=>by
  show (g ((rows f (a::l)).take z)).bind _=_;have h1:(rows f (a::l)).take z=f a:=by rw [cT,yJ,hf,sF,s8,cM,h9 (by rw [hf];omega)]
  have h2:(rows f (a::l)).drop z=rows f l:=by rw [cT,vh,hf,sF,fy,rN (by rw [hf];omega)];rfl
  rw [h1,hg,aS,h2,eu hf hg l];rfl
end
end Go.Ab
namespace Go.Ab
def aC (x:Int):List AV:=[.i .i64 x]
def dJ:List AV->Option Int
 |[.i .i64 x]=>some x
 |_=>none
theorem dx (c:List AV) (a:Int) (h:dJ c=some a):c=aC a:=by
 unfold dJ at h;split at h
 ·cases h;rfl
 ·cases h
theorem bP (x:Int):(aC x).length=1:=rfl
theorem gN (x:Int):ae 0 (aC x)=true:=rfl
def PZ:aW->Option Int
 |⟨[.i .i64 x],false,none,none,none⟩=>some x
 |_=>none
theorem zg {k:aW} {x:Int} (h:PZ k=some x):k={cells:=aC x}:=by
 unfold PZ at h;split at h
 ·cases h;rfl
 ·cases h
theorem Ends.AQ {n0 n:Nat} {v v2:AV} {h h2:Hp} (hv:v.al n0=true) (he:v=v2) (hh:uN n0 h h2):Ends n0 v h n v2 h2 n0:=by
 subst he;refine ⟨_root_.id,bx _,fun _ _=>rfl,fun t x hx=> ?_,fun b k hb=> ?_,fun b1 b2 k1 k2 _ _ _ he=>he⟩
 ·simp only [cV] at hx;by_cases ht:t=0
  ·subst ht;simp at hx;subst hx;exact ⟨by simp [cV,AV.pE (ψ:=_root_.id) (fun _ _=>rfl) v hv],hv⟩
  ·rw [bz ht] at hx;simp at hx
 ·obtain ⟨h1,h2,h3⟩:=hh.get b k hb;refine ⟨?_,h2,h3⟩;simp only [_root_.id,aW.aH,gk (ψ:=_root_.id) (fun _ _=>rfl) k.cells h2];exact h1
theorem Ends.K7 {n0 n b:Nat} {v v2:AV} {h:Hp} {k k2:aW} (hb:n0<=b) (hv:v2.aH (fun i=>if i=n0 then b else i)=v) (hvb:v2.al (n0+1)=true) (hk:ab h b=some k) (hkb:ae 0 k2.cells=true) (hkk:k=k2):Ends n0 v h n v2 [(n0,k2)] (n0+1):=by
 subst hkk;refine ⟨fun i=>if i=n0 then b else i,by omega,fun i hi=>by simp [show i≠n0 by omega],fun t x hx=> ?_,fun c kk hc=> ?_,fun b1 b2 k1 k2 h1 h2 _ _=> ?_⟩
 ·simp only [cV] at hx;by_cases ht:t=0
  ·subst ht;simp at hx;subst hx;exact ⟨by simp [cV,hv],hvb⟩
  ·rw [bz ht] at hx;simp at hx
 ·have hm:=kr hc;simp only [jD,bq,List.not_mem_nil,or_false] at hm;obtain ⟨rfl,rfl⟩:=hm;refine ⟨?_,aD _ hkb,by omega⟩
  simp only [cu,hk];simp only [aW.aH,aU _ hkb]
 ·have hm1:=kr h1;have hm2:=kr h2;simp only [jD,bq,List.not_mem_nil,or_false] at hm1 hm2;rw [hm1.1,hm2.1]
end Go.Ab
namespace Go.Ab
inductive Sh where
 |nil
 |sl (k:aW) (o len cap:Nat)
 |sg (k:aW) (o len:Nat)
def Sh.v:Sh->Nat->AV
 | .nil,_=> .ns
 | .sl _ o len cap,b=> .sl b o len cap
 | .sg _ o len,b=> .sg b o len
def Sh.h:Sh->Nat->Hp
 | .nil,_=>[]
 | .sl k _ _ _,b=>[(b,k)]
 | .sg k _ _,b=>[(b,k)]
def Sh.bl:Sh->Nat->List Nat
 | .nil,_=>[]
 | .sl _ _ _ _,b=>[b]
 | .sg _ _ _,b=>[b]
def Sh.len:Sh->Nat
 | .nil=>0
 | .sl _ _ len _=>len
 | .sg _ _ len=>len
def Sh.cs (z:Nat):Sh->List AV
 | .nil=>[]
 | .sl k o len _=>aA k.cells o (len*z)
 | .sg k o len=>aA k.cells o (len*z)
def Sh.plain:Sh->Bool
 | .nil=>true
 | .sl k _ _ _=>k.mp.isNone&&ae 0 k.cells
 | .sg k _ _=>k.mp.isNone&&ae 0 k.cells
structure Sh.is {α:Type} (f:α->List AV) (z:Nat) (s:Sh) (l:List α):Prop where
 pl:s.plain=true
 ln:s.len=l.length
 cs:s.cs z=rows f l
def VR:AV->Nat
 | .sl b _ _ _=>b
 | .sg b _ _=>b
 |_=>0
section
variable {s t:Sh} {b c:Nat} {h r:Hp} {k:aW}
theorem xC (hc:c≠b):ab (t.h c++r) b=ab r b:=by
 cases t<;>simp [Sh.h,pb,hc]
theorem Gj (hc:c≠b):ig (t.h c++r) b k=t.h c++ig r b k:=by
 cases t<;>simp [Sh.h,yE,hc]
theorem DC {l:List Nat} (hb:b≠c):inl (s.bl b++l) c=inl l c:=by cases s<;>simp [Sh.bl,iQ,hb]
theorem FE:(s.v b).cells=[s.v b]:=by cases s<;>rfl
theorem Qd:(s.v b).one=true:=by cases s<;>rfl
theorem ajH {ψ:Nat->Nat}:(s.v b).aH ψ=s.v (ψ b):=by cases s<;>rfl
theorem ai5 {m:Nat} (hb:b<m):(s.v b).al m=true:=by cases s<;>simp [Sh.v,AV.al,aG,hb]
theorem Mu {n m:Nat} (h1:n<=b) (h2:b<m):BO n m (s.h b)=true:=by
 cases s<;>simp [Sh.h,BO,h1,h2]
theorem aaN {rd:List Nat} (h1:inl rd b=false):Ps (s.h b) rd=true:=by
 cases s<;>simp [Sh.h,Ps,h1]
end
section
variable {P:Program}
theorem yp {ψ:Nat->Nat} {k:aW} (hk:ae 0 k.cells=true):k.aH ψ=k:=by simp only [aW.aH,aU _ hk]
end
end Go.Ab
namespace Go.Ab
section
variable {P:Program}
theorem ax.cast {f:FuncId} {args args':List AV} {h:Hp} {n:Nat} {E E':bX} (hk:ax P f args h n E) (ha:args=args') (hE:E=E'):ax P f args' h n E':=by
 subst ha hE;exact hk
def Sh.fresh:Sh->Bool
 | .nil=>true
 | .sl k _ _ _=> !k.ro
 | .sg k _ _=> !k.ro
end
def rn:List (Nat×Nat)->Nat->Nat
 |[],b=>b
 |(c,d)::r,b=>if b=c then d else rn r b
theorem adH {b:Nat}:rn [] b=b:=(rfl)
theorem Pe {c d b:Nat} {r:List (Nat×Nat)}:rn ((c,d)::r) b=if b=c then d else rn r b:=(rfl)
def uJ (m:List (Nat×Nat)) (n0 n2:Nat):Bool:=
 (List.range n0).all (fun b=>rn m b==b)&&(List.range n2).all fun b=>(List.range n2).all fun c=> !(rn m b==rn m c)||b==c
def na (n:Nat) (m:List (Nat×Nat)) (e:Env):Env->Prop
 |[]=>True
 |(t,v)::r=>cV e t=some (v.aH (rn m))/\v.al n=true/\na n m e r
def iy (n:Nat) (m:List (Nat×Nat)) (h:Hp):Hp->Prop
 |[]=>True
 |(b,k)::r=>ab h (rn m b)=some (k.aH (rn m))/\ae n k.cells=true/\b<n/\iy n m h r
def tk (h:Hp) (s:Sh) (c:Nat):Prop:= ∀d kk,ab (s.h c) d=some kk->ab h d=some kk
section
variable {n:Nat} {m:List (Nat×Nat)} {e:Env} {h r:Hp} {s t:Sh} {b c d:Nat} {k:aW}
theorem JM:na n m e []=True:=(rfl)
theorem Gt {v:AV} {r:Env}:na n m e ((b,v)::r)=(cV e b=some (v.aH (rn m))/\v.al n=true/\na n m e r):=(rfl)
theorem Pt:iy n m h []=True:=(rfl)
theorem HD:iy n m h ((b,k)::r)=(ab h (rn m b)=some (k.aH (rn m))/\ae n k.cells=true/\b<n/\iy n m h r):=(rfl)
theorem r8:tk (s.h c++r) s c=True:=by
 refine eq_true fun d kk hh=> ?_;rw [nM,hh]
theorem py:tk (s.h c) s c=True:=eq_true fun d kk hh=>hh
theorem pA (hd:d≠c):tk ((d,k)::r) s c=tk r s c:=by
 have key: ∀i kk,ab (s.h c) i=some kk->i=c:=fun i kk hh=>by have:=kr hh;cases s<;>simp [Sh.h] at this<;>exact this.1
 refine propext ⟨fun hh i kk hi=> ?_,fun hh i kk hi=> ?_⟩
 ·have:=hh i kk hi;rw [pb,aN (by rw [key i kk hi];exact hd)] at this;exact this
 ·rw [pb,aN (by rw [key i kk hi];exact hd)];exact hh i kk hi
theorem sN (hd:d≠c):tk (t.h d++r) s c=tk r s c:=by
 cases t<;>simp only [Sh.h,List.nil_append,ee]<;>exact pA hd
theorem FJ (hp:s.plain=true) (hb:b<n):iy n m h (s.h b++r)=(tk h s (rn m b)/\iy n m h r):=by
 cases s with
 |nil=>simp [Sh.h,tk,ab]
 |sl k o l cc=>
  have hp':ae 0 k.cells=true:=(jB.1 hp).2;simp only [Sh.h,ee,List.nil_append,iy,hb,aD _ hp',nq,yp hp'];refine propext ⟨fun hh=>⟨fun i kk hi=> ?_,hh.2⟩,fun hh=>⟨hh.1 _ _ (by simp [Sh.h,ab]),hh.2⟩⟩
  have:=kr hi;simp [Sh.h] at this;obtain ⟨rfl,rfl⟩:=this;exact hh.1
 |sg k o l=>
  have hp':ae 0 k.cells=true:=(jB.1 hp).2;simp only [Sh.h,ee,List.nil_append,iy,hb,aD _ hp',nq,yp hp'];refine propext ⟨fun hh=>⟨fun i kk hi=> ?_,hh.2⟩,fun hh=>⟨hh.1 _ _ (by simp [Sh.h,ab]),hh.2⟩⟩
  have:=kr hi;simp [Sh.h] at this;obtain ⟨rfl,rfl⟩:=this;exact hh.1
theorem IE (hp:s.plain=true) (hb:b<n):iy n m h (s.h b)=tk h s (rn m b):=by
 have:=FJ (m:=m) (h:=h) (r:=[]) hp hb;simpa [iy] using this
end
theorem na.get {n:Nat} {m:List (Nat×Nat)} {e:Env}: ∀{e2:Env},na n m e e2-> ∀t v,cV e2 t=some v->cV e t=some (v.aH (rn m))/\v.al n=true
 |[],_,t,v,h=>by simp [cV] at h
 |(s,u)::r,hi,t,v,h=>by
  simp only [cV] at h;by_cases hs:t=s
  ·subst hs;simp at h;subst h;exact ⟨hi.1,hi.2.1⟩
  ·rw [bz hs] at h;exact na.get hi.2.2 t v h
theorem iy.get {n:Nat} {m:List (Nat×Nat)} {h:Hp}: ∀{h2:Hp},iy n m h h2-> ∀b k,ab h2 b=some k->ab h (rn m b)=some (k.aH (rn m))/\ae n k.cells=true/\b<n
 |[],_,t,v,h=>by simp [ab] at h
 |(s,u)::r,hi,t,v,h=>by
  simp only [ab] at h;by_cases hs:t=s
  ·subst hs;simp at h;subst h;exact ⟨hi.1,hi.2.1,hi.2.2.1⟩
  ·rw [bz hs] at h;exact iy.get hi.2.2.2 t v h
theorem Wk.ofR {n0 n n2:Nat} {m:List (Nat×Nat)} {e e2:Env} {h h2:Hp} (hn:n0<=n2) (hm:uJ m n0 n2=true) (he:na n2 m e e2) (hh:iy n2 m h h2):Wk n0 (rn m) e h n e2 h2 n2:=by
 simp only [uJ,aw,er,oh,iS,iH,lU,wT] at hm;refine ⟨hn,fun b hb=>hm.1 b hb,fun t v ht=>he.get t v ht,fun b k hb=>hh.get b k hb,fun b1 b2 k1 k2 h1 h2 _ hE=> ?_⟩;rcases hm.2 b1 (hh.get b1 k1 h1).2.2 b2 (hh.get b2 k2 h2).2.2 with h'|h'
 ·exact absurd hE h'
 ·exact h'
theorem Ends.R {n0 n n2:Nat} (m:List (Nat×Nat)) {v v2:AV} {h h2:Hp} (hn:n0<=n2) (hm:uJ m n0 n2=true) (hv:v=v2.aH (rn m)) (hb:v2.al n2=true) (hh:iy n2 m h h2):Ends n0 v h n v2 h2 n2:=
 ⟨rn m,Wk.ofR hn hm ⟨by rw [<-hv];simp [cV],hb,trivial⟩ hh⟩
theorem Loop.uE {F:Fx} (hcx:Sound F.P F.cx) (hm:F.P.follows .mixedOrders=true) {c:bG} {K:cF} {X:Type} (ok:X->Prop) (μ:X->Nat) (E:X->Env) (H:X->Hp) (n2:Nat) (x0:X) (nx:X->X) (m0:List (Nat×Nat)) (m:X->List (Nat×Nat))
 {e:Env} {h:Hp} {n:Nat} (hn:F.n0<=n2) (hm0:uJ m0 F.n0 n2=true) (hm1: ∀x,uJ (m x) F.n0 n2=true) (h0:ok x0) (he:na n2 m0 e (E x0)) (hh:iy n2 m0 h (H x0))
 (round: ∀x,ok x->jw F c (gH K fun e' h' n'=>(ok (nx x)/\μ (nx x)<μ x)/\na n2 (m x) e' (E (nx x))/\iy n2 (m x) h' (H (nx x))) (E x) (H x) n2):Loop F.P F.ct F.N F.n0 c K e h n:=by
 refine Loop.inv (F:=F) hcx hm (X:={x:X // ok x}) (fun k=>(E k.1,H k.1,n2)) (fun k=>μ k.1) ⟨x0,h0⟩ (rn m0) (Wk.ofR hn hm0 he hh) (fun k=> ?_);refine pv (fun ex e' h' n' hx=> ?_) (aQ (round k.1 k.2));cases ex with
 |normal=>
  obtain ⟨⟨h1,h2⟩,h3,h4⟩:=hx;exact ⟨⟨nx k.1,h1⟩,rn (m k.1),Wk.ofR hn (hm1 k.1) h3 h4,h2⟩
 |_=>exact hx
attribute [go_sem] xC Gj DC FE Qd ajH ai5 Mu aaN adH Pe JM Gt Pt HD FJ IE r8 py pA sN
end Go.Ab
namespace Go.Ab
section
variable {P:Program}
end
end Go.Ab
namespace Go.Ab
section
variable {α:Type} {f:α->List AV} {z:Nat}
end
end Go.Ab
namespace Go.Ab
def Sh.o:Sh->Nat
 | .nil=>0
 | .sl _ o _ _=>o
 | .sg _ o _=>o
def Sh.cW:Sh->aW
 | .nil=>{cells:=[]}
 | .sl k _ _ _=>k
 | .sg k _ _=>k
section
variable {s t:Sh} {b c:Nat} {h r:Hp}
theorem Sh.is.cells {α:Type} {f:α->List AV} {z:Nat} {l:List α} (hs:s.is f z l) (hne:s≠ .nil):aA s.cW.cells s.o (l.length*z)=rows f l/\ae 0 s.cW.cells=true:=by
 obtain ⟨h1,h2,h3⟩:=hs;rw [<-h2];cases s with
 |nil=>exact absurd rfl hne
 |sl k o l c=>exact ⟨h3,(jB.1 h1).2⟩
 |sg k o l=>exact ⟨h3,(jB.1 h1).2⟩
end
end Go.Ab
namespace Go.Ab
end Go.Ab
namespace Go.Ab
theorem Ji {cx:Cx} {e:Env} {h:Hp} {n:Nat} {x:cC}:cA cx (.oF x) e h n=(x.ev e h).bind fun v=>Be v (some (true,{v:= .i .i64 0,n}))<|FN v (fun l m=>some (true,{v:= .i .i64 (m:Int),n})) (some (true,{v:= .i .i64 0,n})) fun v=>GJ v (some (true,{v:= .i .i64 0,n})) (fun b o l c=>some (true,{v:= .i .i64 (l:Int),n})) (fun b o l=>some (true,{v:= .i .i64 (l:Int),n})):=Ec
attribute [go_sem ↓ high] Ji
end Go.Ab
namespace Go.Ab
attribute [go_sem] ne_eq not_false_eq_true
end Go.Ab
namespace Go.Ab
theorem H4 {s:Sh} {b:Nat}:(s.v b).cells=[s.v b]:=FE
theorem XY {s:Sh} {b:Nat}:(s.v b).one=true:=Qd
attribute [go_sem ↓ high] H4 XY
end Go.Ab
namespace Go.Ab
end Go.Ab
namespace Go.Ab
def nz:List Nat->List (Nat×Option aW)
 |[]=>[]
 |b::r=>(b,none)::nz r
end Go.Ab
namespace Go.Ab
end Go.Ab
namespace Go.Ab
section
variable {v:AV} {n b c:Nat} {rd:List Nat} {s:Sh} {h:Hp} {k:aW} {md:List (Nat×Option aW)}
theorem Ga:jb h []=h:=(rfl)
theorem Db:jb h ((b,some k)::md)=ig (jb h md) b k:=(rfl)
theorem DW:jb h ((b,none)::md)=nH (jb h md) b:=(rfl)
end
attribute [go_sem ↓] Ga Db DW
end Go.Ab
namespace Go.Ab
end Go.Ab
namespace Go.Ab
section
variable {n b:Nat} {s:Sh} {h r:Hp}
end
end Go.Ab
namespace Go.Ab
section
variable {v:AV} {n b c:Nat} {rd:List Nat} {s t:Sh} {h:Hp}
end
end Go.Ab
namespace Go.Ab
theorem CV {un:List Nat} {E E':bX} {i:Nat} {dn:List (Nat×bX)}:pQ un E (l0 i E' dn)=((!(inl un i)||jm E E')&&pQ un E dn):=by
 have hn: ∀md:List (Nat×Option aW),G6 md []=true:=by
  intro md;induction md with
  |nil=>rfl
  |cons x r ih=>simp [G6,inl,ih]
 unfold l0;split
 ·rename_i h1 h2 h3;have:jm E E'=true:=by simp [jm,h1,h2,h3,G6,Ps,hn]
  simp [this]
 ·rfl
attribute [go_sem] CV
end Go.Ab
