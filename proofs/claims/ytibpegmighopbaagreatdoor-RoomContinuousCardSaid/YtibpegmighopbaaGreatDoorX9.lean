/- Texts laid as one. -/
import Derived.Test.YtibpegmighopbaaGreatDoorX8
import Derived.Below
import Derived.Laws.Externs
import GoSem.Extern.SlicesOverlaps
set_option maxRecDepth 100000
set_option maxHeartbeats 20000000
set_option linter.unusedSimpArgs false
set_option linter.unusedVariables false
namespace Go.Ab
def FzE (x y:AV) (e:Env):Env->Prop
 |[]=>True
 |(t,v2)::r=>(∃v,bC e t=some v/\bW x y v v2)/\FzE x y e r
theorem FzE.get {x y:AV} {e:Env}: ∀{e2:Env},FzE x y e e2-> ∀t v2,bC e2 t=some v2-> ∃v,bC e t=some v/\bW x y v v2
 |[],_,t,v2,h=>by simp [bC] at h
 |(s,u)::r,hf,t,v2,h=>by
  simp only [bC] at h;by_cases hs:t=s
  ·subst hs;simp at h;subst h;exact hf.1
  ·rw [bO hs] at h;exact FzE.get hf.2 t v2 h
def wR (x y:AV) (b:Nat) (h:Hp):Hp->Prop
 |[]=>True
 |(c,k2)::r=>(c≠b/\ ∃k,aa h c=some k/\k2.ro=k.ro/\k2.gr=k.gr/\(k2.gid,k2.mp)=(k.gid,k.mp)/\dZ x y k.cells k2.cells)/\wR x y b h r
theorem wR.get {x y:AV} {b:Nat} {h:Hp}: ∀{h2:Hp},wR x y b h h2-> ∀c k2,aa h2 c=some k2->c≠b/\ ∃k,aa h c=some k/\k2.ro=k.ro/\k2.gr=k.gr/\(k2.gid,k2.mp)=(k.gid,k.mp)/\dZ x y k.cells k2.cells
 |[],_,c,k2,h=>by simp [aa] at h
 |(s,u)::r,hf,c,k2,h=>by
  simp only [aa] at h;by_cases hs:c=s
  ·subst hs;simp at h;subst h;exact hf.1
  ·rw [bO hs] at h;exact wR.get hf.2 c k2 h
theorem wR.app {x y:AV} {b:Nat} {h:Hp}: ∀{a r:Hp},wR x y b h a->wR x y b h r->wR x y b h (a++r)
 |[],r,_,hr=>hr
 |_::a,r,ha,hr=>⟨ha.1,wR.app ha.2 hr⟩
theorem dZ.refl {x y:AV}: ∀{l:List AV},dZ x y l l
 |[]=>trivial
 |a::l=>⟨bW.refl,dZ.refl⟩
theorem cU.nA {F:Fx} {c:bb} {K:bX} {e e2:Env} {h h2:Hp} {n b m o:Nat} {x:AV} {k:bp} {cs:List AV} (hs:cU F c K e2 h2 n) (hk:aa h b=some k) (hro:k.ro=false) (hx:(∃cap,x= .sl b o m cap/\m<=cap)\/x= .sg b o m) (hcs:cs=k.cells.drop o\/cs=(k.cells.drop o).take cs.length)
 (he:FzE x (.fz cs m) e e2) (hh:wR x (.fz cs m) b h h2) (hmp:k.mp=none:=by rfl):cU F c K e h n:=by
 intro c' hc' ro hro0 Bd D0 φ0 H0 w0 g1 g2 D φ a w hR hS;have hH:=hR.heap;obtain ⟨hdb,⟨⟨vs,elem,fr,q1,q2,q3,q4⟩,q5⟩⟩:=hH.at_ b k hk;have q1:=q1.cells hmp;let φ1:bP:={φ with fz:=λB=>if B=φ.cI b then some vs else φ.fz B}
 have ag:cT D φ φ1:=⟨λc _=>⟨rfl,rfl,rfl,rfl⟩,λB vs' hB=>by
  simp only [φ1];split
  ·rename_i hBb;subst hBb;obtain ⟨elem',fr',h1⟩:=hH.fz _ _ hB
   grind
  ·exact hB,rfl⟩
 have hxy: ∀u1,aK D φ1 x u1->aK D φ1 (.fz cs m) u1:=λu1 h1=>by
  have get: ∀(i:Nat) (a:AV),cs[i]? =some a-> ∃u,vs[φ.off b+o+i]? =some u/\aK D φ a u:=λi a ha=>by
   grind
  have g1:φ1.fz (φ.cI b)=some vs:=by simp [φ1]
  have g2: ∀i,i<cs.length->φ.off b+o+i<vs.size:=λi hi=>by
   obtain ⟨u,hu,_⟩:=get i _ (bj hi)
   grind
  have g3: ∀(i:Nat) (a:AV) (u:Value),cs[i]? =some a->vs[φ.off b+o+i]? =some u->aK D φ1 a u:=λi a u ha hu=>by
   obtain ⟨u',hu',hr⟩:=get i a ha;rw [hu] at hu';cases hu';exact hr.mono (λ_ h=>h) ag
  rcases hx with ⟨cap,rfl,hcap⟩|rfl
  ·cases h1 with
   |sl _ _ _ _ _=>exact .fz _ _ _ _ _ vs g1 hcap g2 g3
  ·cases h1 with
   |sg _ _ _ j cap _ _ _ hl=>exact .fz _ _ _ _ _ vs g1 hl g2 g3
 have hH1:HR D φ1 (aa h2) w:=by
  refine ⟨⟨λc kk2 hc=> ?_,λb1 b2 k1 k2 hne h1 h2' hr=> ?_⟩,λB vs' hB=> ?_,hH.lp,λc kk B vs' hc hr hB=> ?_⟩
  ·obtain ⟨hne,kk,h3,e1,e2',e3,hv⟩:=hh.get c kk2 hc;obtain ⟨d1,⟨⟨vs',elem',fr',r1,r2,r3,r4⟩,r5⟩⟩:=hH.at_ c kk h3;obtain ⟨e3,e4⟩:=zi e3;refine ⟨d1,⟨⟨vs',elem',fr',by grind,λi v2 hi=> ?_,by grind,by grind⟩,by grind⟩⟩
   obtain ⟨v,hv1,hv2⟩:=hv.get hi;obtain ⟨u,hu,hur⟩:=r2 i v hv1;exact ⟨u,hu,hv2 D φ1 u hxy (hur.mono (λ_ h=>h) ag)⟩
  ·obtain ⟨_,kk1,a1,a2,_⟩:=hh.get _ _ h1;obtain ⟨_,kk2,b1',b2',_⟩:=hh.get _ _ h2';exact hH.sep b1 b2 kk1 kk2 hne a1 b1' (by grind)
  ·simp only [φ1] at hB;split at hB
   ·grind
   ·exact hH.fz B vs' hB
  ·obtain ⟨hne,kk1,a1,a2,_⟩:=hh.get _ _ hc;simp only [φ1] at hB;split at hB
   ·rename_i e;subst e;exact hH.sep c b kk1 k hne a1 hk (by grind)
   ·exact hH.lS c kk1 B vs' a1 (by grind) hB
 refine hs c' hc' ro hro0 Bd D0 φ0 H0 w0 g1 g2 D φ1 a w ⟨hR.lt,λt v2 ht=> ?_,hH1,hR.size,hR.defers⟩ ⟨hS.sub,⟨hS.agree.at_,λB vs' hB=>ag.fz B vs' (hS.agree.fz B vs' hB),hS.agree.lp⟩,hH1,hS.eF,λc kk hc hr=> ?_,λB vs' hB=> ?_⟩
 ·obtain ⟨v,hv1,hv2⟩:=he.get t v2 ht;exact hv2 D φ1 _ hxy ((hR.env t v hv1).mono (λ_ h=>h) ag)
 ·obtain ⟨_,kk1,a1,a2,_⟩:=hh.get _ _ hc;exact hS.qL c kk1 a1 (by grind)
 ·simp only [φ1] at hB;split at hB
  ·rename_i e;subst e;exact .inr (hS.qL b k hk hro)
  ·exact hS.kj B vs' hB
theorem aZ.rY {n0 n n2:Nat} {v v' v2:AV} {h h' h2:Hp} {x:AV} {b:Nat} {k:bp} {cs:List AV} {m o:Nat} (hk:aa h b=some k) (hro:k.ro=false) (hx:(∃cap,x= .sl b o m cap/\m<=cap)\/x= .sg b o m) (hcs:cs=k.cells.drop o\/cs=(k.cells.drop o).take cs.length) (hf:bW x (.fz cs m) v v')
 (hh:wR x (.fz cs m) b h h') (hc:aZ n0 v' h' n v2 h2 n2) (hmp:k.mp=none:=by rfl):aZ n0 v h n v2 h2 n2:=by
 intro D φ w D0 φ0 H0 w0 u hD0 hD hv hH hS;obtain ⟨hdb,⟨⟨vs,elem,fr,q1,q2,q3,q4⟩,q5⟩⟩:=hH.at_ b k hk;have q1:=q1.cells hmp;let φ1:bP:={φ with fz:=λB=>if B=φ.cI b then some vs else φ.fz B}
 have ag:cT D φ φ1:=⟨λc _=>⟨rfl,rfl,rfl,rfl⟩,λB vs' hB=>by
  simp only [φ1];split
  ·rename_i hBb;subst hBb;obtain ⟨elem',fr',h1⟩:=hH.fz _ _ hB
   grind
  ·exact hB,rfl⟩
 have hxy: ∀u1,aK D φ1 x u1->aK D φ1 (.fz cs m) u1:=λu1 h1=>by
  have get: ∀(i:Nat) (a:AV),cs[i]? =some a-> ∃u,vs[φ.off b+o+i]? =some u/\aK D φ a u:=λi a ha=>by
   grind
  have g1:φ1.fz (φ.cI b)=some vs:=by simp [φ1]
  have g2: ∀i,i<cs.length->φ.off b+o+i<vs.size:=λi hi=>by
   obtain ⟨u,hu,_⟩:=get i _ (bj hi)
   grind
  have g3: ∀(i:Nat) (a:AV) (u:Value),cs[i]? =some a->vs[φ.off b+o+i]? =some u->aK D φ1 a u:=λi a u ha hu=>by
   obtain ⟨u',hu',hr⟩:=get i a ha;rw [hu] at hu';cases hu';exact hr.mono (λ_ h=>h) ag
  rcases hx with ⟨cap,rfl,hcap⟩|rfl
  ·cases h1 with
   |sl _ _ _ _ _=>exact .fz _ _ _ _ _ vs g1 hcap g2 g3
  ·cases h1 with
   |sg _ _ _ j cap _ _ _ hl=>exact .fz _ _ _ _ _ vs g1 hl g2 g3
 have hH1:HR D φ1 (aa h') w:=by
  refine ⟨⟨λc kk2 hc=> ?_,λb1 b2 k1 k2 hne h1 h2' hr=> ?_⟩,λB vs' hB=> ?_,hH.lp,λc kk B vs' hc hr hB=> ?_⟩
  ·obtain ⟨hne,kk,h3,e1,e2',e3,hv⟩:=hh.get c kk2 hc;obtain ⟨d1,⟨⟨vs',elem',fr',r1,r2,r3,r4⟩,r5⟩⟩:=hH.at_ c kk h3;obtain ⟨e3,e4⟩:=zi e3;refine ⟨d1,⟨⟨vs',elem',fr',by grind,λi v2 hi=> ?_,by grind,by grind⟩,by grind⟩⟩
   obtain ⟨v,hv1,hv2⟩:=hv.get hi;obtain ⟨u,hu,hur⟩:=r2 i v hv1;exact ⟨u,hu,hv2 D φ1 u hxy (hur.mono (λ_ h=>h) ag)⟩
  ·obtain ⟨_,kk1,a1,a2,_⟩:=hh.get _ _ h1;obtain ⟨_,kk2,b1',b2',_⟩:=hh.get _ _ h2';exact hH.sep b1 b2 kk1 kk2 hne a1 b1' (by grind)
  ·simp only [φ1] at hB;split at hB
   ·grind
   ·exact hH.fz B vs' hB
  ·obtain ⟨hne,kk1,a1,a2,_⟩:=hh.get _ _ hc;simp only [φ1] at hB;split at hB
   ·rename_i e;subst e;exact hH.sep c b kk1 k hne a1 hk (by grind)
   ·exact hH.lS c kk1 B vs' a1 (by grind) hB
 refine hc D φ1 w D0 φ0 H0 w0 u hD0 hD (hf D φ1 u hxy (hv.mono (λ_ h=>h) ag)) hH1 ⟨hS.sub,⟨hS.agree.at_,λB vs' hB=>ag.fz B vs' (hS.agree.fz B vs' hB),hS.agree.lp⟩,hH1,hS.eF,λc kk2 hc hr=> ?_,λB vs' hB=> ?_⟩
 ·obtain ⟨_,kk1,a1,a2,_⟩:=hh.get _ _ hc;exact hS.qL c kk1 a1 (by grind)
 ·simp only [φ1] at hB;split at hB
  ·rename_i e;subst e;exact .inr (hS.qL b k hk hro)
  ·exact hS.kj B vs' hB
end Go.Ab
namespace Go.Ab
section
variable {P:Program} {α:Type} {row:α->List AV} {g:FuncId} {caps:List AV}
end
end Go.Ab
namespace Go.Ab
def eE {α:Type} (p:Nat->α->Bool):List α->Nat->Bool
 |[],_=>true
 |x::r,i=>p i x&&eE p r (i+1)
theorem dt {α:Type} {p:Nat->α->Bool}: ∀(l:List α) (i:Nat),eE p l i=true↔ ∀(k:Nat) (x:α),l[k]? =some x->p (i+k) x=true
 |[],i=>by simp [eE]
 |x::r,i=>by
  simp only [eE,ak,dt r (i+1)];constructor
  ·rintro ⟨h1,h2⟩ k y hy;cases k with
   |zero=>simp at hy;subst hy;exact h1
   |succ k=>simp at hy;have:=h2 k y hy;rwa [show i+(k+1)=i+1+k by omega]
  ·intro h;refine ⟨h 0 x rfl,λk y hy=> ?_⟩;have:=h (k+1) y (by simpa using hy)
   rwa [show i+1+k=i+(k+1) by omega]
theorem nc {α:Type} {p:Nat->α->Bool} {l:List α} {k:Nat} {x:α} (h:l[k]? =some x):eE p (l.drop k) k=(p k x&&eE p (l.drop (k+1)) (k+1)):=by
 have hlt:=(cv.1 h).1;have hx:l[k]=x:=(cv.1 h).2;rw [rE hlt,hx];rfl
theorem EJ {α:Type} {p:α->Bool}: ∀(l:List α) (i:Nat),eE (λ_ x=>p x) l i=l.all p
 |[],_=>rfl
 |x::r,i=>by simp only [eE,iz,EJ r (i+1)]
noncomputable def Tz {α:Type} (g:FuncId) (caps:List AV) (el:α->AV) (p:Nat->α->Bool) (l:List α):Ct:=λargs h n=>
 open Classical in if hx: ∃(k:Nat) (a:α),l[k]? =some a/\args= .i .i64 (k:Int)::el a::caps then some (true,{v:= .b (p hx.choose hx.choose_spec.choose),n}) else none
theorem Al {α:Type} {g:FuncId} {caps:List AV} {el:α->AV} {p:Nat->α->Bool} {l:List α} {k:Nat} {a:α} (ha:l[k]? =some a) (h:Hp) (n:Nat):Tz g caps el p l (.i .i64 (k:Int)::el a::caps) h n=some (true,{v:= .b (p k a),n}):=by
 unfold Tz;have hx: ∃(j:Nat) (b:α),l[j]? =some b/\AV.i .i64 (k:Int)::el a::caps= .i .i64 (j:Int)::el b::caps:=⟨k,a,ha,rfl⟩;rw [dif_pos hx];obtain ⟨h1,h2⟩:=hx.choose_spec.choose_spec;have h3:=(List.cons.inj h2).1;simp only [AV.i.injEq,lI,Int.natCast_inj] at h3;generalize hx.choose_spec.choose=b at h1 ⊢;rw [<-h3] at h1 ⊢;rw [ha] at h1;cases h1;rfl
theorem qQ {P:Program} {α:Type} {g:FuncId} {caps:List AV} {el:α->AV} {p:Nat->α->Bool} {l:List α} (hc:bH P g=true) (hel: ∀a,(el a).aj 0=true) (hcaps:ab 0 caps=true)
 (hf: ∀(k:Nat) (a:α),l[k]? =some a->bG P g (.i .i64 (k:Int)::el a::caps) [] 0 (.b (p k a)) [] 0):ax P g (Tz g caps el p l):=λargs h n c E hx hc'=>by
 unfold Tz at hx;split at hx
 ·rename_i hy;obtain ⟨h1,h2⟩:=hy.choose_spec.choose_spec;simp only [aI,aV] at hx;obtain ⟨_,rfl⟩:=hx;generalize hy.choose_spec.choose=a at h1 h2 ⊢;generalize hy.choose=k at h1 h2 ⊢;rw [h2];exact aA.pure hc (by simp only [ab,AV.aj,hel,hcaps,aG]) rfl (hf k a h1) h n
 ·cases hx
def j4:List Nat->List (Nat×Option bp)
 |[]=>[]
 |b::r=>(b,none)::j4 r
theorem jE {c:Nat}: ∀{l:List Nat},cy (j4 l) c=if inl l c=true then some none else none
 |[]=>rfl
 |b::r=>by
  simp only [j4,cy,jb];by_cases h:c=b
  ·subst h;simp
  ·have h': ¬b=c:=λe=>h e.symm;rw [bO h];simp [h',jE (l:=r)]
def wN (h:Hp):List Nat->Bool
 |[]=>true
 |b::r=>(match aa h b with|some k=> !k.ro|none=>true)&&wN h r
theorem tj {h:Hp}: ∀{l:List Nat} {b:Nat} {k:bp},wN h l=true->inl l b=true->aa h b=some k->k.ro=false
 |[],b,k,_,hb,_=>by simp [inl] at hb
 |c::r,b,k,hw,hb,hk=>by
  simp only [wN,ak] at hw;rw [jb] at hb;by_cases h:c=b
  ·subst h;rw [hk] at hw;simpa using hw.1
  ·rw [aY h] at hb;exact tj hw.2 hb hk
theorem aA.agd {P:Program} {f:FuncId} {args argsF:List AV} {h:Hp} {n:Nat} {rd:List Nat} {v:AV} (hc:Go.Ab.bH P f=true)
 (hv:yG h rd args argsF) (hb:v.aj 0=true) (hw:wN h rd=true) (hf:bG P f argsF [] 0 v [] 0):aA P f args h n {v,n,rd,md:=j4 rd}:=by
 have happ:(bV.app {v,n,rd,md:=j4 rd} (only (aa h) rd))=λ_=>none:=by
  grind [bV.app,jE,only,aa,inl]
 refine ⟨hc,bx _,λb r hb=>(by simp_all [jE]),λb kk hb=>(by simp [aa] at hb),λD φ w us hfresh hH hA=> ?_⟩
 let φ1:=φ.nA (only (aa h) rd) w;have hH1:HR (λ_=>False) φ1 (aa []) w:=⟨⟨λb k hb=>by simp [aa] at hb,λb1 b2 k1 k2 _ hb=>by simp [aa]⟩,λB vs hB=>by
  simp only [φ1,bP.nA] at hB;split at hB
  ·exact nP hB
  ·exact hH.fz B vs hB,hH.lp,λb k B vs hb=>by simp [aa] at hb⟩
 have hA1:cw (λ_=>False) φ1 argsF us:=⟨by rw [<-hv.len];exact hA.1,λi a u ha hu=>by
  obtain ⟨a',h1,h2⟩:=hv.get ha;exact h2 D _ φ w u hH (hA.2 i a' u h1 hu)⟩
 refine (hf (λ_=>False) φ1 w us (λ_ h=>h.elim) hH1 hA1).mono λe w' hx=> ?_;obtain ⟨D',φ2,u,rfl,hD',hr,hS⟩:=hx;have ag1:=bP.gO hH D;let φ3:bP:={φ with fz:=φ2.fz,lp:=φ2.lp}
 have hst: ∀c,c<w.heap.size->w'.heap[c]? =w.heap[c]? :=λc hc=>hS.eF.block c hc (λb k hb=>by simp [aa] at hb)
 refine ⟨u,φ3,rfl,?_,?_,λc kk hc _=>by grind⟩
 ·have h1:aK (λ_=>False) φ2 v u:=hr.BH hb;exact aK.vz (φ:=φ2) (φ':=φ3) (λ_ h=>h.elim) (λ_ h=>h.elim) (λ_ _ h=>h) (λ_ _ h=>h) h1
 show dU D φ _ w (Dn D n n) φ3 (bV.app _ _) w';rw [happ];refine ⟨λb h=> .inl h,⟨λb _=>⟨rfl,rfl,rfl,rfl⟩,λB vs hB=>hS.agree.fz B vs (ag1.fz B vs hB),hS.agree.lp⟩,⟨⟨λb k hb=>(by cases hb),λb1 b2 k1 k2 _ hb=>(by cases hb)⟩,hS.hr.fz,hS.hr.lp,λb k B vs hb=>(by cases hb)⟩,
  ⟨hS.eF.os,hS.eF.tape,hS.eF.output,hS.eF.size,λc hc _=>hst c hc⟩,λb k hb=>(by cases hb),λB vs hB=> ?_⟩
 rcases hS.kj B vs hB with h1|h1|⟨m,km,h1,_⟩
 all_goals grind [bP.nA,only,inl,tj,aa]
theorem Hw {pn:Option Value} {v:AV} {n:Nat} {rd:List Nat} {b:Nat} {h:Hp}:(bV.mk v n rd [(b,none)] [] pn).fg h=oH h b:=(rfl)
attribute [go_sem ↓] Hw
end Go.Ab
namespace Go.Ab
theorem jR.wkN {h:Hp} {rd:List Nat} {a b c:AV} (hv:jR h rd a b) (hw:lH b c):jR h rd a c:=λD D' φ w u hH hu=>hw _ _ _ (hv D D' φ w u hH hu)
theorem jR.agN {h:Hp} {rd:List Nat} {l m:List AV} (hl:yG h rd l m):jR h rd (.agg l) (.agg m):=λD D' φ w u hH hv=>by
 cases hv with
 |agg _ cs hlen hh=>
  refine .agg m cs (by rw [<-hlen,hl.len]) (λi b u hb hu=> ?_)
  obtain ⟨a,h1,h2⟩:=hl.get hb;exact h2 D D' φ w u hH (hh i a u h1 hu)
theorem DD {h:Hp} {rd:List Nat} {b o n:Nat} {k:bp} {cs:List AV} {D D':Nat->Prop} {φ:bP} {w:World} (hb:only (aa h) rd b=some k) (hmp:k.mp=none) (hl:yG h rd (aD k.cells o n) cs) (hH:HR D φ (only (aa h) rd) w): ∃vs,(φ.nA (only (aa h) rd) w).fz (φ.cI b)=some vs/\(∀i,i<cs.length->φ.off b+o+i<vs.size)∧
 ∀(i:Nat) (a:AV) (u:Value),cs[i]? =some a->vs[φ.off b+o+i]? =some u->aK D' (φ.nA (only (aa h) rd) w) a u:=by
 obtain ⟨_,⟨⟨vs,elem,fr,h1,h2,_⟩,_⟩⟩:=hH.at_ b k hb;have h1:=h1.cells hmp;have get: ∀(i:Nat) (a:AV),cs[i]? =some a-> ∃u a',vs[φ.off b+o+i]? =some u/\aK D φ a' u/\jR h rd a' a:=λi a ha=>by
  obtain ⟨a',h3,h4⟩:=hl.get ha
  grind [aD,kJ,oA,mj]
 refine ⟨vs,by rw [bP.En (D:=D) hb];simp [y4,h1],λi hi=> ?_,λi a u ha hu=> ?_⟩
 ·obtain ⟨u,_,hu,_⟩:=get i _ (bj hi)
  grind
 ·obtain ⟨u',a',hu',hr,hv⟩:=get i a ha;rw [hu] at hu';cases hu';exact hv D D' φ w u hH hr
theorem jR.slN {h:Hp} {rd:List Nat} {b o m c n:Nat} {k:bp} {cs:List AV} (hb:only (aa h) rd b=some k) (hm:m<=c) (hl:yG h rd (aD k.cells o n) cs) (hmp:k.mp=none:=by rfl):jR h rd (.sl b o m c) (.fz cs m):=λD D' φ w u hH hv=>by
 cases hv with
 |sl _ _ _ _ hD=>
  obtain ⟨vs,g1,g2,g3⟩:=DD (D':=D') hb hmp hl hH;exact .fz _ _ _ _ _ vs g1 hm g2 g3
theorem jR.sgN {h:Hp} {rd:List Nat} {b o m n:Nat} {k:bp} {cs:List AV} (hb:only (aa h) rd b=some k) (hl:yG h rd (aD k.cells o n) cs) (hmp:k.mp=none:=by rfl):jR h rd (.sg b o m) (.fz cs m):=λD D' φ w u hH hv=>by
 cases hv with
 |sg _ _ _ j cap hD hj hc hle=>
  obtain ⟨vs,g1,g2,g3⟩:=DD (D':=D') hb hmp hl hH;exact .fz _ _ _ _ _ vs g1 hle g2 g3
theorem jR.pN {h:Hp} {rd:List Nat} {b o:Nat} {k:bp} {cs:List AV} (hb:only (aa h) rd b=some k) (hl:yG h rd k.cells cs) (hmp:k.mp=none:=by rfl):jR h rd (.p b o) (.fp cs o):=λD D' φ w u hH hv=>by
 cases hv with
 |p _ _ hD=>
  have hc:aD k.cells 0 k.cells.length=k.cells:=by simp [aD]
  obtain ⟨vs,g1,g2,g3⟩:=DD (D':=D') (o:=0) (n:=k.cells.length) hb hmp (by rw [hc];exact hl) hH
  have:=aK.fp (D:=D') (φ:=φ.nA (only (aa h) rd) w) cs o (φ.cI b) (φ.off b) vs g1 (λi hi=>by grind) (λi a u ha hu=>g3 i a u ha (by omega))
  exact this
def lV (g:AV->Option (List Nat×AV)):List AV->Option (List Nat×List AV)
 |[]=>some ([],[])
 |a::l=>(g a).bind λx=>(lV g l).bind λy=>some (x.1++y.1,x.2::y.2)
def nv (h:Hp):Nat->AV->Option (List Nat×AV)
 |f,.agg l=>match f with
  |0=>none
  |f+1=>(lV (nv h f) l).bind λr=>some (r.1,.agg r.2)
 |f,.sl b o m c=>match f with
  |0=>none
  |f+1=>((aa h b).bind bp.F6).bind λq=>(lV (nv h f) (aD q.cells o (m*(q.cells.length/c)))).bind λr=>bif decide (m<=c) then some (b::r.1,.fz r.2 m) else none
 |f,.sg b o m=>match f with
  |0=>none
  |f+1=>((aa h b).bind bp.F6).bind λq=>q.gr.bind λz=>(lV (nv h f) (aD q.cells o (m*z))).bind λr=>some (b::r.1,.fz r.2 m)
 |f,.p b o=>match f with
  |0=>none
  |f+1=>((aa h b).bind bp.F6).bind λq=>(lV (nv h f) q.cells).bind λr=>some (b::r.1,.fp r.2 o)
 |f,.fn g l=>match f with
  |0=>none
  |f+1=>(lV (nv h f) l).bind λr=>some (r.1,.fn g r.2)
 |_,.ns=>some ([],.fz [] 0)
 |_,.ze=>some ([],.fz [] 0)
 |_,v=>bif v.aj 0 then some ([],v) else none
theorem F5 {l m:List Nat} {b:Nat}:inl (l++m) b=(inl l b||inl m b):=by
 induction l with
 |nil=>rfl
 |cons c l ih=>simp only [ez,inl,ih,Bool.or_assoc]
theorem oX {h:Hp} {rd:List Nat} {g:AV->Option (List Nat×AV)} (hg: ∀a r,g a=some r->(∀b,inl r.1 b=true->inl rd b=true)->jR h rd a r.2/\r.2.aj 0=true):
 ∀{l:List AV} {r:List Nat×List AV},lV g l=some r->(∀b,inl r.1 b=true->inl rd b=true)->yG h rd l r.2/\ab 0 r.2=true
 |[],r,hr,_=>by cases hr;exact ⟨trivial,rfl⟩
 |a::l,r,hr,hi=>by
  simp only [lV,av] at hr;obtain ⟨x,hx,y,hy,he⟩:=hr;cases he;have h1:=hg a x hx (λb hb=>hi b (by grind [F5]))
  have h2:=oX hg hy (λb hb=>hi b (by rw [F5,hb,zS]))
  exact ⟨⟨h1.1,h2.1⟩,by grind [ab,aG]⟩
theorem TU {h:Hp} {rd:List Nat}: ∀(f:Nat) (a:AV) (r:List Nat×AV),nv h f a=some r->(∀b,inl r.1 b=true->inl rd b=true)->jR h rd a r.2/\r.2.aj 0=true:=by
 intro f;induction f with
 |zero=>
  intro a r hr hi;cases a<;>simp only [nv] at hr
  case agg=>cases hr
  case sl=>cases hr
  case sg=>cases hr
  case p=>cases hr
  case fn=>cases hr
  case ns=>cases hr;exact ⟨jR.wkN (jR.same rfl) lH.ns,rfl⟩
  case ze=>cases hr;exact ⟨jR.wkN (jR.same rfl) lH.ze,rfl⟩
  all_goals
   revert hr;cases hc:AV.aj 0 _
   ·simp
   ·grind [jR.same]
 |succ f ih=>
  intro a r hr hi;cases a<;>simp only [nv] at hr
  case ns=>cases hr;exact ⟨jR.wkN (jR.same rfl) lH.ns,rfl⟩
  case ze=>cases hr;exact ⟨jR.wkN (jR.same rfl) lH.ze,rfl⟩
  case agg l=>
   simp only [av] at hr;obtain ⟨x,hx,he⟩:=hr
   grind [oX,jR.agN,AV.aj]
  case sl b o m c=>
   simp only [av] at hr;obtain ⟨q,⟨q',hq',hq⟩,x,hx,he⟩:=hr;obtain ⟨hq,hmp⟩:=dL (show jo h b=some q by simp only [jo,hq',aC,hq])
   revert he;cases hm:decide (m<=c)
   ·simp
   ·intro h;cases h;obtain ⟨h1,h2⟩:=oX ih hx (λb hb=>hi b (by simp only [inl,hb,zS]))
    exact ⟨jR.slN (by simp_all [only,inl]) (bN hm) h1 hmp,by grind [AV.aj]⟩
  case sg b o m=>
   simp only [av] at hr;obtain ⟨q,⟨q',hq',hq⟩,z,hz,x,hx,he⟩:=hr;obtain ⟨hq,hmp⟩:=dL (show jo h b=some q by simp only [jo,hq',aC,hq])
   cases he;obtain ⟨h1,h2⟩:=oX ih hx (λb hb=>hi b (by simp only [inl,hb,zS]))
   exact ⟨jR.sgN (by simp_all [only,inl]) h1 hmp,by grind [AV.aj]⟩
  case p b o=>
   simp only [av] at hr;obtain ⟨q,⟨q',hq',hq⟩,x,hx,he⟩:=hr;obtain ⟨hq,hmp⟩:=dL (show jo h b=some q by simp only [jo,hq',aC,hq])
   cases he;obtain ⟨h1,h2⟩:=oX ih hx (λb hb=>hi b (by simp only [inl,hb,zS]))
   simp_all [jR.pN,only,inl,AV.aj]
  case fn g l=>
   simp only [av] at hr;obtain ⟨x,hx,he⟩:=hr
   grind [oX,jR.fn,AV.aj]
  all_goals
   revert hr;cases hc:AV.aj 0 _
   ·simp
   ·grind [jR.same]
theorem bG.Gf {P:Program} {f:FuncId} {args:List AV} {v:AV} (h:aA P f args [] 0 {v,n:=0}):bG P f args [] 0 v [] 0:=λD φ w us hD hH hA=>by
 have hno:only (aa []) []=aa []:=by funext b;rfl
 have:=h.run D φ w us (λb h1 h2=>by grind) (by grind) hA
 refine this.mono λe w' hx=> ?_;obtain ⟨u,φ',he,hr,hS,_⟩:=hx;refine ⟨Dn D 0 0,φ',u,he,λb hb=> ?_,hr,?_⟩
 ·rcases hb with hb|hb
  all_goals grind
 ·have ha:bV.app {v,n:=0} (only (aa []) [])=aa []:=by funext b;rfl
  grind
def bV.plain (E:bV):Bool:=E.rd.isEmpty&&(E.md.isEmpty&&(E.nw.isEmpty&&(Nat.beq E.n 0&&E.pn.isNone)))
theorem bV.Dq {E:bV} (h:E.plain=true):E={v:=E.v,n:=0}:=by
 obtain ⟨v,n,rd,md,nw,pn⟩:=E;simp_all [bV.plain,ak,List.isEmpty_iff,BF]
def cu (k:Ct):Ct:=λargs h n=>(lV (nv h 6) args).bind λr=>(k r.2 [] 0).bind λq=>bif q.1&&(q.2.plain&&q.2.v.pl) then some (true,{v:=q.2.v,n,rd:=r.1}) else none
theorem ax.nv {P:Program} {f:FuncId} {k:Ct} (hk:ax P f k):ax P f (cu k):=λargs h n c E hc ht=>by
 simp only [cu,av] at hc;obtain ⟨r,hr,q,hq,he⟩:=hc;revert he;cases hb:q.1&&(q.2.plain&&q.2.v.pl)
 ·simp
 ·intro h;cases h;simp only [ak] at hb;obtain ⟨b1,b2,b3⟩:=hb;obtain ⟨c0,E0⟩:=q;have hok:=hk r.2 [] 0 c0 E0 hq b1;dsimp only at b2 b3;rw [bV.Dq b2] at hok;exact aA.C0 hok.bH (oX (TU 6) hr (λb h=>h)).1 b3 (bG.Gf hok)
def ff (k:Ct):Ct:=λargs h n=>(lV (Ab.nv h 6) args).bind λr=>(k r.2 [] 0).bind λq=>bif q.1&&(q.2.plain&&(q.2.v.aj 0&&wN h r.1)) then some (true,{v:=q.2.v,n,rd:=r.1,md:=j4 r.1}) else none
theorem ax.ng {P:Program} {f:FuncId} {k:Ct} (hk:ax P f k):ax P f (ff k):=λargs h n c E hc ht=>by
 simp only [ff,av] at hc;obtain ⟨r,hr,q,hq,he⟩:=hc;revert he;cases hb:q.1&&(q.2.plain&&(q.2.v.aj 0&&wN h r.1))
 ·simp
 ·intro h;cases h;simp only [ak] at hb;obtain ⟨b1,b2,b3,b4⟩:=hb;obtain ⟨c0,E0⟩:=q;have hok:=hk r.2 [] 0 c0 E0 hq b1;dsimp only at b2 b3;rw [bV.Dq b2] at hok;exact aA.agd hok.bH (oX (TU 6) hr (λb h=>h)).1 b3 b4 (bG.Gf hok)
section
variable {h:Hp} {f:Nat}
theorem lj {l:List AV}:nv h (f+1) (.agg l)=(lV (nv h f) l).bind λr=>some (r.1,.agg r.2):=(rfl)
theorem jH {b o:Nat}:nv h (f+1) (.p b o)=((aa h b).bind bp.F6).bind λq=>(lV (nv h f) q.cells).bind λr=>some (b::r.1,.fp r.2 o):=(rfl)
theorem Gk {b o m:Nat}:nv h (f+1) (.sg b o m)=((aa h b).bind bp.F6).bind λq=>q.gr.bind λz=>(lV (nv h f) (aD q.cells o (m*z))).bind λr=>some (b::r.1,.fz r.2 m):=(rfl)
theorem kC {g:FuncId} {l:List AV}:nv h (f+1) (.fn g l)=(lV (nv h f) l).bind λr=>some (r.1,.fn g r.2):=(rfl)
theorem kN {k:IntKind} {x:Int}:nv h f (.i k x)=some ([],.i k x):=by cases f<;>rfl
theorem Vl {x:Bool}:nv h f (.b x)=some ([],.b x):=by cases f<;>rfl
theorem DF {x:List UInt8}:nv h f (.s x)=some ([],.s x):=by cases f<;>rfl
theorem BX:nv h f .ns=some ([],.fz [] 0):=by cases f<;>rfl
theorem aeX:nv h f .ze=some ([],.fz [] 0):=by cases f<;>rfl
theorem ef {l:List AV} {m:Nat} (hl:ab 0 l=true):nv h f (.fz l m)=some ([],.fz l m):=by
 cases f<;>(show (bif ab 0 l then _ else _)=_;rw [hl];rfl)
theorem vA {l:List AV} {m:Nat} (hl:ab 0 l=true):nv h f (.fp l m)=some ([],.fp l m):=by
 cases f<;>(show (bif ab 0 l then _ else _)=_;rw [hl];rfl)
theorem bI {g:AV->Option (List Nat×AV)}:lV g []=some ([],[]):=(rfl)
theorem bn {g:AV->Option (List Nat×AV)} {a:AV} {l:List AV}:lV g (a::l)=(g a).bind λx=>(lV g l).bind λy=>some (x.1++y.1,x.2::y.2):=(rfl)
theorem FZ {g:AV->Option (List Nat×AV)}: ∀{a b a' b':List AV},lV g a=some ([],a')->lV g b=some ([],b')->lV g (a++b)=some ([],a'++b')
 |[],b,a',b',h1,h2=>by cases h1;exact h2
 |x::a,b,a',b',h1,h2=>by
  simp only [lV,av,aI,aV] at h1;obtain ⟨y,hy,z,hz,e1,e2⟩:=h1;obtain ⟨f1,f2⟩:=List.append_eq_nil_iff.1 e1;have hz':lV g a=some ([],z.2):=by grind
  simp only [ez,lV,hy,FZ hz' h2,aC,f1,<-e2,List.nil_append,ez]
theorem nj {α:Type} {row:α->List AV} {g:AV->Option (List Nat×AV)} (hr: ∀a,lV g (row a)=some ([],row a)): ∀l:List α,lV g (rows row l)=some ([],rows row l)
 |[]=>rfl
 |a::l=>FZ (a:=row a) (b:=rows row l) (hr a) (nj hr l)
end
end Go.Ab
section
end
namespace Go.Ab
open Go.RowKit
theorem dU.below {D:Nat->Prop} {φ:bP} {w w':World} (hH:HR D φ (aa []) w) (hb:Below w.heap.size w w'):dU D φ (aa []) w D φ (aa []) w':=
 dU.mk' hH rfl rfl (λ_ h=>h) (cT.refl D φ).at_ ⟨λb k hh=>by simp [aa] at hh,λb1 b2 k1 k2 _ hh=>by simp [aa]⟩ ⟨hb.os,hb.tape,hb.output,hb.size,λc hc _=>hb.block c hc⟩ λb k hh=>by grind
theorem bG.Jp {P:Program} {f:FuncId} {args:List AV} {v:AV} {n:Nat} (hc: ∀D φ us,cw D φ args us-> ∃u,aK D φ v u/\ ∀w,Calls P f us.toArray w λe w'=>e= .returned u/\Below w.heap.size w w') (he:ext P f=false) (hy:f≠YB:=by decide):bG P f args [] n v [] n:=by
 intro D φ w us hD hH ha;obtain ⟨u,hv,hcl⟩:=hc D φ us ha;refine tu.of ((hcl w).mono λe w' hx=> ?_) hy he;obtain ⟨rfl,hb⟩:=hx;exact ⟨D,φ,u,rfl,hD,hv,dU.below hH hb⟩
end Go.Ab
namespace Go.Ab
def ae5 (cx:Cx) (ops:List bq) (K:bX):bX:=λex e h n=>match ex with
 | .normal=>iv cx ops e h n K
 |_=>False
theorem JS {P:Program} {ct:List Nat} {N:Nat} {c:Code} {os:List bq} (h1:bt P ct N c= .dY os): ∃id rops,c= .region id rops false/\(jU N rops.toList=true/\jP rops.toList=true)/\rops.toList.map (bk P rops.toList (iS rops.toList++ct))=os:=by
 cases c with
 |seq _ _=>simp [bt] at h1
 |region id ops draw=>
  simp only [bt] at h1;split at h1
  ·rename_i hcnd;cases draw;all_goals grind
  ·cases h1
 |cond x y z=>simp only [bt] at h1;split at h1<;>cases h1
 |rangeFunc g' ps' A' B'=>simp only [bt] at h1;split at h1<;>cases h1
 |_=>simp [bt] at h1
section
variable {P:Program}
theorem cz.PJ {C:Nat->AV->Hp->Nat->AV->Hp->Nat->Prop} (hC:AZ C) {f g:FuncId} {fn gn:Func} {I Ig:cZ} {cx:Cx} {args:List AV} {pn:Option Value} {n:Nat} {h:Hp} {v2:AV} {h2:Hp} {n2:Nat} {pre ops:List bq} {x:cq} {s:Bool} {rest:bb}
 (hcx:Sound P cx) (hm:P.follows .mixedOrders=true) (hf:P.funcs[f]? =some fn) (hI:ah P fn=some I) (hnp:args.length<=I.N) (hcode:I.code= .seq (.dY pre) (.seq (.dY (ops++[⟨none,.BW x [],none,s⟩])) rest))
 (hcal:bH P g=true) (hg:P.funcs[g]? =some gn) (hIg:ah P gn=some Ig) (hgr:Ig.res=[])
 (hi:iv cx pre (fx 0 args) h n (ae5 cx ops (ET x g λGs e h' n'=>Gs.length<=Ig.N/\cU ⟨P,cx,I.ct,I.N,n⟩ rest (yp I.res Ig.code Gs λp v h' n'=>p=pn/\C n v h' n' v2 h2 n2) e h' n'))):cz P f args h n pn v2 h2 n2:=by
 intro D φ w us hD0 hH hargs;have hD: ∀b,(λb=>b<n) b->b<n:=λb hb=>hb;have hH:HR (λb=>b<n) φ (aa h) w:=hH.grow hD0;have hargs:cw (λb=>b<n) φ args us:=hargs.mono hD0 (cT.refl _ _);have hout: ∀D' φ' H' w',dU (λb=>b<n) φ (aa h) w D' φ' H' w'->dU D φ (aa h) w D' φ' H' w':=λD' φ' H' w' hs=>⟨λb hb=>hs.sub b (hD0 b hb),⟨λb hb=>hs.agree b (hD0 b hb),hs.agree.fz,hs.agree.lp⟩,hs.hr,hs.eF,hs.qL,hs.kj⟩;simp only [ah,av] at hI;obtain ⟨c,hc,rs,hrs,hI⟩:=hI;split at hI
 ·rename_i hle;rw [ak] at hle;have hfy:f≠YB:=FI hf hle.2;have hle:=bN hle.1;simp only [aI] at hI;subst hI;simp only at hi hnp hcode;refine tu.of (qf hf hc ?_) hfy (qH hf hc)
  -- the code
  obtain ⟨c0,c1,c2,rfl,q0,q1,q2⟩: ∃c0 c1 c2,c= .seq c0 (.seq c1 c2)/\bt P (db c) fn.ntmps c0= .dY pre/\bt P (db c) fn.ntmps c1= .dY (ops++[⟨none,.BW x [],none,s⟩])/\bt P (db c) fn.ntmps c2=rest:=by
   revert hcode;generalize db c=ct;intro hcode;cases c with
   |seq c0 c3=>
    simp only [bt,bb.seq.injEq] at hcode;obtain ⟨h0,hcode⟩:=hcode;cases c3 with
    |seq c1 c2=>simp only [bt,bb.seq.injEq] at hcode;exact ⟨c0,c1,c2,rfl,h0,hcode.1,hcode.2⟩
    |region id ops draw=>simp only [bt] at hcode;split at hcode<;>(try split at hcode)<;>cases hcode
    |cond x y z=>simp only [bt] at hcode;split at hcode<;>cases hcode
    |rangeFunc g' ps' A' B'=>simp only [bt] at hcode;split at hcode<;>cases hcode
    |_=>simp [bt] at hcode
   |region id ops draw=>simp only [bt] at hcode;split at hcode<;>(try split at hcode)<;>cases hcode
   |cond x y z=>simp only [bt] at hcode;split at hcode<;>cases hcode
   |rangeFunc g' ps' A' B'=>simp only [bt] at hcode;split at hcode<;>cases hcode
   |_=>simp [bt] at hcode
  generalize hct:db (.seq c0 (.seq c1 c2))=ct at q0 q1 q2;obtain ⟨id0,rops0,rfl,hok0,hmap0⟩:=JS q0;obtain ⟨id,rops,rfl,hok,hmap⟩:=JS q1;generalize iS rops0.toList++ct=sp0 at hmap0;generalize iS rops.toList++ct=sp at hmap;obtain ⟨l,od,hsplit,hmapl,hod⟩: ∃l od,rops.toList=l++[od]/\l.map (bk P rops.toList sp)=ops/\bk P rops.toList sp od=⟨none,.BW x [],none,s⟩:=by
   obtain ⟨l1,l2,e1,e2,e3⟩:=List.map_eq_append_iff.1 hmap;cases l2 with
   |nil=>simp at e3
   |cons od l3=>
    cases l3 with
    |nil=>simp at e3;exact ⟨l1,od,e1,e2,e3⟩
    |cons _ _=>simp at e3
  -- the statement 'defer'
  obtain ⟨hog,hodst,cd,fo,hop,hcf,hfo,hca⟩:od.guard=none/\od.dst=none/\ ∃cd fo,od.op= .defer cd/\cd.callee= .value fo/\cO fo=some x/\cd.args= #[]:=by
   unfold bk at hod;split at hod
   ·rename_i hg0;simp only [bq.mk.injEq] at hod;obtain ⟨g1,g2,_⟩:=hod;refine ⟨hg0,g1,?_⟩;have h0: ∀o:Op,cN P o= .BW x []-> ∃cd fo,o= .defer cd/\cd.callee= .value fo/\cO fo=some x/\cd.args= #[]:=λo ho=>by
     cases o with
     |defer cd=>
      simp only [cN] at ho;split at ho
      ·rename_i fo hfo;cases hx:cO fo with
       |none=>simp [hx,bE] at ho
       |some x'=>
        cases hl:yu cd.args.toList with
        |none=>simp [hx,hl,bE] at ho
        |some l'=>
         simp only [hx,hl,aC,iI,bE,fM,j8.BW.injEq] at ho;obtain ⟨rfl,rfl⟩:=ho;refine ⟨cd,fo,rfl,hfo,hx,?_⟩;cases hal:cd.args.toList with
         |nil=>exact Array.toList_inj.1 (by omega)
         |cons y r=>
          rw [hal] at hl;simp only [yu,av] at hl;obtain ⟨_,_,_,_,hl⟩:=hl;cases hl
      ·cases ho
     |_=>
      exfalso;exact zA (ru (by simp)) ho
    exact h0 _ g2
   grind
  have hR:=DA (N:=fn.ntmps) (m:=(w.heap.size,[])) hD hH (us:=us.toArray) (args:=args) (by omega) hnp rfl
  refine wpIn_seq (wpIn_region_list ?_);rw [show rops0.toList=rops0.toList++[] from (dh _).symm]
  refine nW (n0:=n) hcx (M:=(w.heap.size,[])) (sp:=sp0) hD hok0.2 rops0.toList (λo ho=>ho) hok0.1 (fx 0 args) h n _ φ _ w (bx _) (by rw [hmap0];exact hi) hR (dU.refl hH) (λD2 φ2 e2' h2' n2' a2 w2 hK hn2 hd2 hR2' hS2'=> ?_) (λch e h n hk=>hk)
  unfold wpListIn;show Code.wpIn _ _ _ _ _ _ _;refine wpIn_seq (wpIn_region_list ?_);rw [hsplit];have hmem: ∀o∈l,o∈rops.toList:=λo ho=>by grind
  have hdl:jU fn.ntmps l=true:=by
   simp_all [jU,List.all_append]
  refine nW (n0:=n) hcx (M:=(w.heap.size,[])) (sp:=sp) hD hok.2 l hmem hdl e2' h2' n2' D2 φ2 a2 w2 hn2 (by rw [hmapl];exact hK) hR2' hS2' (λD1 φ1 e1 h1 n1 a1 w1 hK hn1 hd1' hR1 hS1=> ?_) (λch e h n hk=>hk)
  have hd1:a1.defers=[]:=hd1'.trans hd2
  -- at the statement
  obtain ⟨v,hv,hK1⟩:=fD hK;obtain ⟨g',caps,hvg,hgg,hK2⟩:=xj hK1;clear hK1 hK;subst hvg;subst hgg;obtain ⟨bs,hbs,hnd,hK⟩:=fD hK2;clear hK2
  ·obtain ⟨rfl,hbk⟩:=uB hbs;have hvr:=pV (λt v _ hv=>hR1.env t v hv) hfo hR1.heap hv;obtain ⟨hgy,capsV,hev,hcv⟩:=hvr.yd;have hcapsV:=wV hR1.heap hbk hcv;obtain ⟨hHG,hkG⟩:=CM hnd hbk hR1.heap;have hGnd:=xa hR1.heap hnd hbk;obtain ⟨hGN,hseam⟩:=hK (bs.map φ1.cI) (by simp) hGnd
   -- the step
   unfold wpListIn;have hwant:Region.wanted od (yielded rops a1.tmps)=true:=by simp [Region.wanted,hog]
   rw [hwant];simp only [cM];refine ⟨λ_ _=>trivial,?_⟩;show od.uponIn (Fw none) 0 P a1 _ _ ((od.semAt none a1.eval).run P w1);rw [Oper.semAt_none];have hrun:(execOp a1.eval od).run P w1= .ok (.defer {target:= .fn (.func g') capsV.toArray,args:= #[]}) w1:=by
    grind [execOp,resolve,Sem.run_bind,Deferred.ofValue,Sem.run_pure,Result.andThen_ok]
   rw [hrun,Oper.uponIn_defer,hd1,hodst];unfold wpListIn;show Code.wpIn _ _ _ _ _ _ _;have hS2:dU (λb=>b<n) φ (aa h) w D1 φ1 (aa (nZ h1 bs (bs.map φ1.cI))) w1:=
    ⟨hS1.sub,hS1.agree,hHG,hS1.eF,λb k hb hk=>by
      obtain ⟨k0,hk0,hro⟩:=hkG b k hb;exact hS1.qL b k0 hk0 (by grind),hS1.kj⟩
   have hR2:Rel D1 φ1 e1 (nZ h1 bs (bs.map φ1.cI)) n1 fn.ntmps (w.heap.size,[{target:= .fn (.func g') capsV.toArray,args:= #[]}]) ({a1 with defers:=[{target:= .fn (.func g') capsV.toArray,args:= #[]}]}.put none undef) w1:=
    ⟨hR1.lt,hR1.env,hHG,hR1.size,Mk.nil⟩
   have hw:=hseam c2 (by grind) none (.inl rfl) [{target:= .fn (.func g') capsV.toArray,args:= #[]}] _ φ (aa h) w hD hn1 D1 φ1 _ w1 hR2 hS2
   refine wpIn_mono hw (λex a' w' hp=> ?_);obtain ⟨D',φ',e',h',n',hk,hn',hR',hS'⟩:=hp;rw [hcapsV] at hR';have leave: ∀m0:FrameMode,m0≠ .run->yf rs Ig.code (bs.map φ1.cI) (λp v h' n'=>p=pn/\C n v h' n' v2 h2 n2) m0 e' h' n'→
    LeavesInM (Fw none) 0 P fn a'.tmps (λe w'=> ∃D' φ' u,e=HM pn u/\(∀b,D' b->b<n2)/\aK D' φ' v2 u/\dU D φ (aa h) w D' φ' (aa h2) w') a'.defers m0 w':=λm0 hm0 hk=>by
    refine zh hm hcal hg hIg hgr hGN hrs hm0 hk hR' hS' (λD3 φ3 v3 h3 n3 u w3 hQ hlt3 hv3 hH3 hS3=> ?_);obtain ⟨hpn,hW⟩:=hQ;subst hpn;obtain ⟨D4,φ4,k1,k2,k3⟩:=hC _ _ _ _ _ _ _ hW D3 φ3 w3 _ φ _ w u hD hlt3 hv3 hH3 hS3;exact ⟨_,_,_,rfl,k1,k2,hout _ _ _ _ k3⟩
   cases ex with
   |normal=>exact leave .returning (by simp) hk
   |ret=>exact leave .returning (by simp) hk
   |panic ch=>exact leave (.panicking ch) (by simp) hk
   |_=>exact hk.elim
 ·cases hI
def ve (cx:Cx) (ops:List bq) (K:bX):bX:=λex e h n=>match ex with
 | .normal=>kr cx ops e h n K
 |_=>False
theorem cz.oQ {C:Nat->AV->Hp->Nat->AV->Hp->Nat->Prop} (hC:AZ C) {f g:FuncId} {fn gn:Func} {I Ig:cZ} {cx:Cx} {args:List AV} {pn:Option Value} {n:Nat} {h:Hp} {v2:AV} {h2:Hp} {n2:Nat} {pre ops:List bq} {x:cq} {s:Bool} {rest:bb}
 (hcx:Sound P cx) (hm:P.follows .mixedOrders=true) (hf:P.funcs[f]? =some fn) (hI:ah P fn=some I) (hnp:args.length<=I.N) (hcode:I.code= .seq (.dY pre) (.seq (.dY (ops++[⟨none,.BW x [],none,s⟩])) rest))
 (hcal:bH P g=true) (hg:P.funcs[g]? =some gn) (hIg:ah P gn=some Ig) (hgr:Ig.res=[])
 (hi:kr cx pre (fx 0 args) h n (ve cx ops (ET x g λGs e h' n'=>Gs.length<=Ig.N/\jw ⟨P,cx,I.ct,I.N,n⟩ rest (yp I.res Ig.code Gs λp v h' n'=>p=pn/\C n v h' n' v2 h2 n2) e h' n'))):cz P f args h n pn v2 h2 n2:=
 cz.PJ hC hcx hm hf hI hnp hcode hcal hg hIg hgr (iU (λex e h n hk=>by
  cases ex with
  |normal=>exact iU (y7 λGs e h n hk=>⟨hk.1,λc' hc'=>gZ ⟨P,cx,I.ct,I.N,_⟩ hcx hm c' _ _ _ _ (by grind [aO])⟩) (ft hk)
  |_=>exact hk) (ft hi))
end
end Go.Ab
namespace Go.Ab
def iP:List bp->Nat->Hp
 |[],_=>[]
 |k::r,i=>(i,k)::iP r (i+1)
def IX (R:List Nat) (h:Hp):List Nat->List bp->Prop
 |[],[]=>True
 |b::r,k::ks=>(aa h b=some (k.aQ (nth R))/\ab R.length k.cells=true)/\IX R h r ks
 |_,_=>False
theorem ta: ∀(ks:List bp) (i b:Nat),aa (iP ks i) b=if i<=b then ks[b-i]? else none
 |[],i,b=>by simp [iP,aa]
 |k::r,i,b=>by
  simp only [iP,aa];by_cases hb:b=i
  ·subst hb;simp
  ·rw [bO hb,cond_false,ta r (i+1) b];by_cases hi:i+1<=b
   ·rw [aT hi,aT (by omega),show b-i=(b-(i+1))+1 by omega,su]
   ·rw [aY hi,aY (by omega)]
theorem wA {R:List Nat} {h:Hp}: ∀{r:List Nat} {ks:List bp},IX R h r ks->r.length=ks.length
 |[],[],_=>rfl
 |b::r,k::ks,h=>by simp [wA h.2]
 |[],_::_,h=>h.elim
 |_::_,[],h=>h.elim
theorem AH {R:List Nat} {h:Hp}: ∀{r:List Nat} {ks:List bp} {i:Nat} {k:bp},IX R h r ks->ks[i]? =some k->aa h (nth r i)=some (k.aQ (nth R))/\ab R.length k.cells=true
 |b::r,k0::ks,0,k,h,hi=>by simp at hi;subst hi;exact h.1
 |b::r,k0::ks,i+1,k,h,hi=>by simp at hi;exact AH (r:=r) h.2 hi
 |[],[],i,k,_,hi=>by simp at hi
 |[],_::_,_,_,h,_=>h.elim
 |_::_,[],_,_,h,_=>h.elim
def nR (χ:Nat->Nat) (hR:Hp):List Nat->Nat->List (Nat×Option bp)
 |[],_=>[]
 |b::r,i=>(b,(aa hR i).map (bp.aQ χ))::nR χ hR r (i+1)
theorem oY {χ:Nat->Nat} {hR:Hp}: ∀{r:List Nat} {i c:Nat},cy (nR χ hR r i) c=if inl r c=true then some ((aa hR (i+idx r c)).map (bp.aQ χ)) else none
 |[],i,c=>by rfl
 |b::r,i,c=>by
  by_cases hb:b=c
  ·simp_all [nR,cy,inl,idx]
  ·have h1:Nat.beq b c=false:=by grind [Nat.beq,absurd,ee]
   simp only [nR,cy,inl,idx,h1,cond_false,vp];rw [oY (r:=r) (i:=i+1) (c:=c),show i+1+idx r c=i+(idx r c+1) by omega]
theorem aA.canon {P:Program} {f:FuncId} {argsL:List AV} {h hR:Hp} {n kR:Nat} {pn:Option Value} {v:AV} (R:List Nat) (ks:List bp) (hcall:Go.Ab.bH P f=true) (hnd:nodup R=true)
 (hin:ab R.length argsL=true) (hat:IX R h R ks) (hft:cz P f argsL (iP ks 0) R.length pn v hR kR) (hk:R.length<=kR) (hok:l5 (iP ks 0) R.length kR hR=true):
 aA P f (aS (nth R) argsL) h n {v:=v.aQ (jA R n),n:=n+(kR-R.length),rd:=R,md:=nR (jA R n) hR R 0,nw:=fL (jA R n) R.length hR,pn}:=by
 have hlen:=wA hat;have hget0: ∀b kk,aa (iP ks 0) b=some kk->b<R.length/\aa h (nth R b)=some (kk.aQ (nth R))/\ab R.length kk.cells=true:=λb kk hb=>by
  rw [ta,aT (cr _),Nat.sub_zero] at hb
  grind [cv,AH]
 have hchi:jA R n=λb=>if b<R.length then nth R b else n+(b-R.length):=rfl
 have hχ: ∀b,R.length<=b->jA R n b=n+(b-R.length):=λb hb=>by grind
 refine aA.wB (ψ:=nth R) hcall hft rfl hk hin (λb hb=> ?_) (λb kk hb=>⟨(hget0 b kk hb).1,(hget0 b kk hb).2.2⟩) rfl (λb kk hb=> ?_) (λb1 b2 k1 k2 hb1 hb2 _ he=> ?_) rfl rfl (λb r hb=>by
  grind [oY])
  (λb kk hb=> ?_) (λc kk hc=> ?_)
 ·simp_all [ta,cr,Nat.sub_zero]
 ·simp_all [only,A6,cond_true]
 ·grind [F0]
 ·obtain ⟨b',kb,h1,h2,rfl,_⟩:=qK hχ hb;have:=(tX hok b' kb h1).1
  grind
 ·simp only [bV.app] at hc;split at hc
  ·rename_i r hr;rw [oY] at hr;split at hr
   ·rename_i h1;cases hr;rw [fy] at hc;obtain ⟨kb,hkb,rfl⟩:=bK.1 hc;obtain ⟨h2,h3⟩:=Ap h1;obtain ⟨h4,_,h6⟩:=tX hok _ kb hkb
    grind
   ·cases hr
  ·rename_i hmn;split at hc
   ·rename_i k1 hnw;cases hc;obtain ⟨b',kb,h1,h2,rfl,rfl⟩:=qK hχ hnw;obtain ⟨h4,_,h6⟩:=tX hok _ kb h1
    grind
   ·rw [oY] at hmn;split at hmn;all_goals simp_all [only,cond_false]
theorem Mc {pn:Option Value} {v:AV} {n:Nat} {rd:List Nat} {x y:Nat×Option bp} {r:List (Nat×Option bp)} {h:Hp}:(bV.mk v n rd (x::y::r) [] pn).fg h=ja h (x::y::r):=(rfl)
theorem Jc {pn:Option Value} {v:AV} {n:Nat} {rd:List Nat} {x y:Nat×Option bp} {r:List (Nat×Option bp)} {a:Nat×bp} {h:Hp}:(bV.mk v n rd (x::y::r) [a] pn).fg h=ja (a::h) (x::y::r):=(rfl)
theorem JD {pn:Option Value} {v:AV} {n:Nat} {rd:List Nat} {b:Nat} {k:bp} {a:Nat×bp} {h:Hp}:(bV.mk v n rd [(b,some k)] [a] pn).fg h=iH (a::h) b k:=(rfl)
attribute [go_sem] Mc Jc JD
def gM {α:Type} (f:α->List AV) (z:Nat) (l:List α) (cs:List AV) (m:Nat):Sh:= .sg {cells:=rows f l++cs,gr:=some z} 0 (l.length+m)
section
variable {α:Type} {f:α->List AV} {z bytes n b m:Nat} {l:List α} {h:Hp} {r0:List Nat} {cs:List AV} {ok:Bool}
theorem EY {a:List α} (ha:0<a.length):gQ f z (l++a)=gM f z l (rows f a) a.length:=by
 unfold gQ gM;rw [aY (by grind),dO,cm]
theorem pW (hl:0<l.length):gQ f z l= .sg {cells:=rows f l,gr:=some z} 0 l.length:=by
 unfold gQ;grind
theorem AF (hh:sC h (gQ f z l) b) (ho:aL cs=true) (hf:(rows f l).length=l.length*z) (hm:decide (m=0)=false):uw z bytes n h r0 m cs ok ((gQ f z l).v b)=
 some (ok&&decide (bytes*(l.length+m)<=az),{v:=(gM f z l cs m).v n,n:=n+1,rd:=(gQ f z l).bl b++r0,md:=mz ((gQ f z l).bl b),nw:=(gM f z l cs m).h n}):=by
 revert hh;unfold gQ;split
 ·grind [fq,uw,bytes,LZ,uJ,gM,Sh.v,Sh.h,Sh.bl,mz,rows]
 ·intro hh;have:=JT (hh b {cells:=rows f l,gr:=some z} (by simp [Sh.h,aa])) rfl
  show uw z bytes n h r0 m cs ok (.sg b 0 l.length)=_;rw [Et,this,hm,uJ,rX];simp only [KZ,ho,hf,jW,qj,eu];rfl
end
end Go.Ab
namespace Go.Ab
def WkE (e:Env):Env->Prop
 |[]=>True
 |(t,v2)::r=>(∃v,bC e t=some v/\lH v v2)/\WkE e r
theorem WkE.get {e:Env}: ∀{e2:Env},WkE e e2-> ∀t v2,bC e2 t=some v2-> ∃v,bC e t=some v/\lH v v2
 |[],_,t,v2,h=>by simp [bC] at h
 |(s,u)::r,hf,t,v2,h=>by
  simp only [bC] at h;by_cases hs:t=s
  ·subst hs;simp at h;subst h;exact hf.1
  ·rw [bO hs] at h;exact WkE.get hf.2 t v2 h
def ZM (h:Hp):Hp->Prop
 |[]=>True
 |(c,k2)::r=>(∃k,aa h c=some k/\k2.ro=k.ro/\k2.gr=k.gr/\(k2.gid,k2.mp)=(k.gid,k.mp)/\lZ k.cells k2.cells)/\ZM h r
theorem ZM.get {h:Hp}: ∀{h2:Hp},ZM h h2-> ∀c k2,aa h2 c=some k2-> ∃k,aa h c=some k/\k2.ro=k.ro/\k2.gr=k.gr/\(k2.gid,k2.mp)=(k.gid,k.mp)/\lZ k.cells k2.cells
 |[],_,c,k2,h=>by simp [aa] at h
 |(s,u)::r,hf,c,k2,h=>by
  simp only [aa] at h;by_cases hs:c=s
  ·subst hs;simp at h;subst h;exact hf.1
  ·rw [bO hs] at h;exact ZM.get hf.2 c k2 h
theorem Loop.aee {F:Fx} {c:bb} {K:bX} {X:Type} (ok:X->Prop) (μ:X->Nat) (E:X->Env) (H:X->Hp) (n2:Nat) (x0:X) (nx:X->X) (m0:List (Nat×Nat)) (m:X->List (Nat×Nat))
 {e:Env} {h:Hp} {n:Nat} (hn:F.n0<=n2) (hm0:sE m0 F.n0 n2=true) (hm1: ∀x,sE (m x) F.n0 n2=true) (h0:ok x0) (he:jz n2 m0 e (E x0)) (hh:iW n2 m0 h (H x0))
 (round: ∀x,ok x->cU F c (fR K λe' h' n'=>(ok (nx x)/\μ (nx x)<μ x)/\jz n2 (m x) e' (E (nx x))/\iW n2 (m x) h' (H (nx x))) (E x) (H x) n2):Loop F.P F.ct F.N F.n0 c K e h n:=by
 refine Loop.XZ (F:=F) (X:={x:X // ok x}) (λk=>(E k.1,H k.1,n2)) (λk=>μ k.1) ⟨x0,h0⟩ (rn m0) (Wk.TR hn hm0 he hh) (λk c' hc'=> ?_);refine (round k.1 k.2 c' hc').mono (λex e' h' n' hx=> ?_);cases ex with
 |normal=>
  obtain ⟨⟨h1,h2⟩,h3,h4⟩:=hx;exact ⟨⟨nx k.1,h1⟩,rn (m k.1),Wk.TR hn (hm1 k.1) h3 h4,h2⟩
 |_=>exact hx
theorem cU.cut {F:Fx} {c:bb} {K:bX} {e:Env} {h:Hp} {n:Nat} (hs: ∀K1,K1=K->cU F c K1 e h n):cU F c K e h n:=hs K rfl
theorem lH.en:lH .en (.fz [] 0):=λ_ _ _ h=>by cases h;exact .nS _ _ _ (λe=>by cases e)
noncomputable def kP (a0:List AV) (v0:AV):List AV->Hp->Nat->Option (Bool×bV):=λa h n=>open Classical in if a=a0 then some (true,{v:=v0,n}) else none
theorem gC {a0:List AV} {v0:AV} (h:Hp) (n:Nat):kP a0 v0 a0 h n=some (true,{v:=v0,n}):=aT rfl
theorem dc {P:Program} {f:FuncId} {a0:List AV} {v0:AV} (hc:Go.Ab.bH P f=true) (ha:ab 0 a0=true) (hv:v0.aj 0=true) (hf:bG P f a0 [] 0 v0 [] 0):ax P f (kP a0 v0):=λargs h n c E he ht=>by
 grind [kP,aA.pure]
theorem dZ.app {x y:AV}: ∀{a a' b b':List AV},dZ x y a a'->dZ x y b b'->dZ x y (a++b) (a'++b')
 |[],[],_,_,_,h=>h
 |_::_,_::_,_,_,h1,h2=>⟨h1.1,dZ.app h1.2 h2⟩
theorem aZ.wkH {n0 n n2:Nat} {v v' v2:AV} {h h' h2:Hp} (hv:lH v v') (hh:ZM h h') (hc:aZ n0 v' h' n v2 h2 n2):aZ n0 v h n v2 h2 n2:=by
 intro D φ w D0 φ0 H0 w0 u hD0 hD hv0 hH hS;have hH1:HR D φ (aa h') w:=by
  refine ⟨⟨λc kk2 hc=> ?_,λb1 b2 k1 k2 hne h1 h2' hr=> ?_⟩,hH.fz,hH.lp,λc kk B vs' hc hr hB=> ?_⟩
  ·obtain ⟨kk,h3,e1,e2',e3,hv⟩:=hh.get c kk2 hc;obtain ⟨d1,⟨⟨vs',elem',fr',r1,r2,r3,r4⟩,r5⟩⟩:=hH.at_ c kk h3;obtain ⟨e3,e4⟩:=zi e3;refine ⟨d1,⟨⟨vs',elem',fr',by grind,λi v2 hi=> ?_,by grind,by grind⟩,by grind⟩⟩
   obtain ⟨v,hv1,hv2⟩:=hv.get hi;obtain ⟨u,hu,hur⟩:=r2 i v hv1;exact ⟨u,hu,hv2 D φ u hur⟩
  ·obtain ⟨kk1,a1,a2,_⟩:=hh.get _ _ h1;obtain ⟨kk2,b1',b2',_⟩:=hh.get _ _ h2';exact hH.sep b1 b2 kk1 kk2 hne a1 b1' (by grind)
  ·obtain ⟨kk1,a1,a2,_⟩:=hh.get _ _ hc;exact hH.lS c kk1 B vs' a1 (by grind) hB
 refine hc D φ w D0 φ0 H0 w0 u hD0 hD (hv D φ u hv0) hH1 ⟨hS.sub,hS.agree,hH1,hS.eF,λc kk hc hr=> ?_,hS.kj⟩;obtain ⟨kk1,a1,a2,_⟩:=hh.get _ _ hc;exact hS.qL c kk1 a1 (by grind)
theorem Af {a b:AV} (h:bW .ns (.fz [] 0) a b):lH a b:=λD φ u hu=>h D φ u (λu1 h1=>lH.ns D φ u1 h1) hu
theorem yj: ∀{l m:List AV},dZ .ns (.fz [] 0) l m->lZ l m
 |[],[],_=>trivial
 |_::_,_::_,h=>⟨Af h.1,yj h.2⟩
 |[],_::_,h=>h.elim
 |_::_,[],h=>h.elim
theorem zG {b:Nat} {h:Hp}: ∀{h':Hp},wR .ns (.fz [] 0) b h h'->ZM h h'
 |[],_=>trivial
 |(c,k2)::r,⟨⟨_,k,h1,h2,h3,h4,h5⟩,h6⟩=>⟨⟨k,h1,h2,h3,h4,yj h5⟩,zG h6⟩
theorem aZ.Cw {α:Type} {f:α->List AV} {z:Nat} {l:List α} {b n0 n n2:Nat} {v v' v2:AV} {h h' h2:Hp} (hh0:sC h (gQ f z l) b)
 (hf:bW ((gQ f z l).v b) (.fz (rows f l) l.length) v v') (hh:wR ((gQ f z l).v b) (.fz (rows f l) l.length) b h h') (hc:aZ n0 v' h' n v2 h2 n2):aZ n0 v h n v2 h2 n2:=by
 by_cases h0:l.length=0
 ·have:l=[]:=fq h0;subst this;exact aZ.wkH (Af hf) (zG hh) hc
 ·have e:gQ f z l= .sg {cells:=rows f l,gr:=some z} 0 l.length:=pW (by omega)
  rw [e] at hh0 hf hh;exact aZ.rY (b:=b) (x:= .sg b 0 l.length) (k:={cells:=rows f l,gr:=some z}) (o:=0) (m:=l.length) (cs:=rows f l) (hh0 b _ (by simp [Sh.h,aa])) rfl (.inr rfl) (.inl rfl) hf hh hc
theorem cz.cov {P:Program} {f:FuncId} {args:List AV} {h h' h2:Hp} {n n' n2:Nat} {pn:Option Value} {v v2:AV} (hF:cz P f args h n pn v h' n') (hc:aZ n v h' n' v2 h2 n2):cz P f args h n pn v2 h2 n2:=λD φ w us hD hH hA=>
 (hF D φ w us hD hH hA).mono λe w' ⟨D',φ',u,he,hD',hr,hS⟩=>by
  obtain ⟨D2,φ2,g1,g2,g3⟩:=hc D' φ' w' D φ (aa h) w u hD hD' hr hS.hr hS
  grind
noncomputable def kH (R:List Nat) (ks:List bp) (argsL:List AV) (v:AV) (hR:Hp) (kR:Nat) (pn:Option Value):Ct:=λa h n=>
 open Classical in if a=aS (nth R) argsL/\IX R h R ks then some (true,{v:=v.aQ (jA R n),n:=n+(kR-R.length),rd:=R,md:=nR (jA R n) hR R 0,nw:=fL (jA R n) R.length hR,pn}) else none
theorem acz {R:List Nat} {ks:List bp} {argsL:List AV} {v:AV} {hR:Hp} {kR:Nat} {pn:Option Value} {h:Hp} {n:Nat} (hat:IX R h R ks):
 kH R ks argsL v hR kR pn (aS (nth R) argsL) h n=some (true,{v:=v.aQ (jA R n),n:=n+(kR-R.length),rd:=R,md:=nR (jA R n) hR R 0,nw:=fL (jA R n) R.length hR,pn}):=aT ⟨rfl,hat⟩
theorem ej {R:List Nat} {ks:List bp} {argsL a:List AV} {v:AV} {hR:Hp} {kR:Nat} {pn:Option Value} {h:Hp} {n:Nat} {E:bV} (ha:aS (nth R) argsL=a) (hat:IX R h R ks)
 (hE:({v:=v.aQ (jA R n),n:=n+(kR-R.length),rd:=R,md:=nR (jA R n) hR R 0,nw:=fL (jA R n) R.length hR,pn}:bV)=E):kH R ks argsL v hR kR pn a h n=some (true,E):=by
 grind [acz]
theorem cK {P:Program} {f:FuncId} {R:List Nat} {ks:List bp} {argsL:List AV} {v:AV} {hR:Hp} {kR:Nat} {pn:Option Value} (hcall:Go.Ab.bH P f=true) (hnd:nodup R=true)
 (hin:ab R.length argsL=true) (hft:cz P f argsL (iP ks 0) R.length pn v hR kR) (hk:R.length<=kR) (hok:l5 (iP ks 0) R.length kR hR=true):ax P f (kH R ks argsL v hR kR pn):=λargs h n c E he ht=>by
 grind [kH,aA.canon]
def gX (n:Nat):List AV:=List.replicate n .any
theorem oS {n:Nat}:(gX n).length=n:=by simp [gX]
theorem px {j:Nat}: ∀{n:Nat},ab j (gX n)=true
 |0=>rfl
 |n+1=>by
  have:= @px j n;simp_all [gX,GO,ab,AV.aj]
theorem J8 {n i:Nat} {a:AV} (h:(gX n)[i]? =some a):a= .any:=by
 grind [gX,List.getElem?_replicate]
def V0 (h:Hp) (z:Nat):AV->Option (Nat×Nat×List AV×Bool)
 | .sg b o m=>(jo h b).bind λk=>some (b,m,aD k.cells o (m*z),!k.ro&&(match k.gr with|some z'=>Nat.beq z z'|none=>false)&&decide ((aD k.cells o (m*z)).length=m*z))
 | .sl b o m c=>(jo h b).bind λk=>some (b,m,aD k.cells o (m*z),!k.ro&&(match k.gr with|some _=>false|none=>true)&&decide ((aD k.cells o (m*z)).length=m*z)&&decide (m<=c)&&decide (o+c*z<=k.cells.length))
 |_=>none
theorem IJ {h:Hp} {z b o m:Nat}:V0 h z (.sg b o m)=((aa h b).bind bp.F6).bind λk=>some (b,m,aD k.cells o (m*z),!k.ro&&(match k.gr with|some z'=>Nat.beq z z'|none=>false)&&decide ((aD k.cells o (m*z)).length=m*z)):=(rfl)
theorem rN {P:Program} (w:World) (tS e:TypeId) (tR:Array TypeId) (ts:Array TypeId) (h0:ts[0]? =some tS) (ht:P.underlying tS=some (.slice e)) (size:Nat) (hz:fh P e=some size)
 (a b:Option Addr) (la ca lb cb:Nat) (hab:la≠0->lb≠0-> ∃a' b',a=some a'/\b=some b'/\a'.block≠b'.block/\(∃vs el fr,w.heap[a'.block]? =some (.cells vs el fr)/\vs.size≠0)/\ ∃vs el fr,w.heap[b'.block]? =some (.cells vs el fr)/\ ¬(fr.1<=b'.off/\b'.off<fr.2)/\ ¬(fr.1<=vs.size/\vs.size<fr.2)):
 (Extern.SlicesOverlaps.overlaps ts tR #[.slice a la ca,.slice b lb cb]).run P w= .ok (.bool false) w:=by
 change Sem.run P (α:=Value) (do
  let some t:=ts[0]? |stuck "slices.overlaps: no parameter types"
  let .slice elem ←underlying t|stuck "slices.overlaps: slice type expected"
  let size <-sizeOf elem
  match (a:Option Addr),(b:Option Addr) with
  |some a,some b=>
   if la=0\/lb=0\/size=0 then pure (Value.bool false)
   else if a.block !=b.block&&(<-frozen a)&&(<-frozen b) then unsupported .addressObserved
   else do
    if a.block !=b.block then do
     noView a;noView b
     if ←mayBeOne a b then return Value.bool ((←choose (.extern "sameAddr.stringBytes" 2))==1)
    pure (Value.bool (a.block==b.block&&a.off<b.off+lb*size&&b.off<a.off+la*size))
  |_,_=>pure (Value.bool false)) w=_
 by_cases h1:la=0\/lb=0
 ·cases a<;>cases b<;>simp [h0,run_underlying ht,run_sizeOf hz];omega
 ·obtain ⟨a',b',rfl,rfl,hne,⟨va,ea,fa,q1,q2⟩,vb,eb,⟨f1,f2⟩,r1,r2,r3⟩:=hab (λh=>h1 (.inl h)) (λh=>h1 (.inr h));have hnb:(a'.block !=b'.block)=true:=by grind
  have hnb':(a'.block==b'.block)=false:=by grind
  have hsa:w.shape? a'.block=some (ea,va.size):=by simp [World.shape?,q1]
  have hsb:w.shape? b'.block=some (eb,vb.size):=by simp [World.shape?,r1]
  have hfb:w.frozen? b'=false:=by grind [World.frozen?]
  have hfe:w.frozen? {block:=b'.block,off:=vb.size}=false:=by grind [World.frozen?]
  obtain ⟨ka,hka⟩: ∃ka,va.size=ka+1:=⟨va.size-1,by omega⟩
  rw [hka] at hsa;cases hA:w.frozen? a'<;>cases hB:w.frozen? {block:=a'.block,off:=ka+1}<;>
   simp [h0,run_underlying ht,run_sizeOf hz,hnb,hnb',frozen,noView,viewAt,mayBeOne,stringish,shape,Sem.run,hsa,hsb,hfb,hfe,hA,hB]<;>(try split)<;>simp
def aam (P:Program) (fn:Func):Bool:=match fn.params[0]? with
 |some t=>match P.underlying t with
  |some (.slice e)=>(fh P e).isSome
  |_=>false
 |none=>false
end Go.Ab
namespace Go.Ab
abbrev adP (z bytes:Nat) (zs:List AV) (fo fr:FuncId):List bq:=[⟨some 6,.mv (.c (.ns)),none,false⟩]
abbrev aaJ (z bytes:Nat) (zs:List AV) (fo fr:FuncId):List bq:=[⟨some 10,.mv (.t 0),none,false⟩,⟨some 11,.mv (.t 1),none,false⟩,⟨some 12,.vW z (.t 10) (some (.t 11)) none none,none,false⟩]
abbrev aeU (z bytes:Nat) (zs:List AV) (fo fr:FuncId):List bq:=[⟨some 13,.mv (.t 2),none,false⟩,⟨some 14,.lh (.t 13),none,false⟩,⟨some 7,.mv (.t 14),none,false⟩]
abbrev aci (z bytes:Nat) (zs:List AV) (fo fr:FuncId):List bq:=[⟨some 15,.mv (.t 7),none,false⟩,⟨some 16,.bin .eql (.t 15) (.c (.i .i64 0)),none,true⟩]
abbrev aao (z bytes:Nat) (zs:List AV) (fo fr:FuncId):List bq:=[⟨some 17,.mv (.t 0),none,false⟩,⟨some 6,.mv (.t 17),none,false⟩]
abbrev abE (z bytes:Nat) (zs:List AV) (fo fr:FuncId):List bq:=[⟨some 18,.mv (.t 0),none,false⟩,⟨some 19,.lh (.t 18),none,false⟩,⟨some 8,.mv (.t 19),none,false⟩]
abbrev ad5 (z bytes:Nat) (zs:List AV) (fo fr:FuncId):List bq:=[⟨some 20,.mv (.t 1),none,false⟩,⟨some 21,.mv (.t 8),none,false⟩,⟨some 22,.bin .eql (.t 20) (.t 21),none,true⟩]
abbrev aeD (z bytes:Nat) (zs:List AV) (fo fr:FuncId):List bq:=[⟨some 23,.mv (.t 0),none,false⟩,⟨some 24,.mv (.t 2),none,false⟩,⟨some 25,.app z bytes zs (.t 23) (.t 24),none,false⟩,⟨some 6,.mv (.t 25),none,false⟩]
abbrev acm (z bytes:Nat) (zs:List AV) (fo fr:FuncId):List bq:=[⟨some 26,.mv (.t 8),none,false⟩,⟨some 27,.mv (.t 7),none,false⟩,⟨some 28,.bin .add (.t 26) (.t 27),none,false⟩,⟨some 29,.mv (.t 0),none,false⟩,⟨some 30,.LW (.t 29),none,false⟩,⟨some 31,.bin .gtr (.t 28) (.t 30),none,true⟩]
abbrev aeg (z bytes:Nat) (zs:List AV) (fo fr:FuncId):List bq:=[⟨some 32,.mv (.t 0),none,false⟩,⟨some 33,.mv (.t 1),none,false⟩,⟨some 34,.vW z (.t 32) none (some (.t 33)) none,none,false⟩,⟨some 35,.mv (.t 8),none,false⟩,⟨some 36,.mv (.t 7),none,false⟩,⟨some 37,.bin .add (.t 35) (.t 36),none,false⟩,⟨some 38,.mv (.t 1),none,false⟩,⟨some 39,.bin .sub (.t 37) (.t 38),none,false⟩,⟨some 40,.apz z bytes zs (.t 34) (.t 39),none,false⟩,⟨some 9,.mv (.t 40),none,false⟩]
abbrev Wf (z bytes:Nat) (zs:List AV) (fo fr:FuncId):List bq:=[⟨some 41,.mv (.t 9),none,false⟩,⟨some 42,.mv (.t 1),none,false⟩,⟨some 43,.vW z (.t 41) (some (.t 42)) none none,none,false⟩,⟨some 44,.mv (.t 2),none,false⟩,⟨some 45,.JR z (.t 43) (.t 44),none,false⟩]
abbrev Xa (z bytes:Nat) (zs:List AV) (fo fr:FuncId):List (bq×List Nat):=[(⟨some 46,.mv (.t 9),none,false⟩,[]),(⟨some 47,.mv (.t 1),none,false⟩,[0]),(⟨some 48,.mv (.t 7),none,false⟩,[0,1]),(⟨some 49,.bin .add (.t 47) (.t 48),none,false⟩,[0]),(⟨some 50,.vW z (.t 46) (some (.t 49)) none none,none,false⟩,[]),(⟨some 51,.mv (.t 0),none,false⟩,[0,1,2,3,4]),(⟨some 52,.mv (.t 1),none,false⟩,[0,1,2,3,4,5]),(⟨some 53,.vW z (.t 51) (some (.t 52)) none none,none,false⟩,[0,1,2,3,4]),(⟨some 54,.JR z (.t 50) (.t 53),none,false⟩,[])]
abbrev Yd (z bytes:Nat) (zs:List AV) (fo fr:FuncId):List bq:=[⟨some 55,.mv (.t 9),none,false⟩,⟨some 6,.mv (.t 55),none,false⟩]
abbrev Y6 (z bytes:Nat) (zs:List AV) (fo fr:FuncId):List bq:=[⟨some 56,.mv (.t 0),none,false⟩,⟨some 57,.mv (.t 8),none,false⟩,⟨some 58,.mv (.t 7),none,false⟩,⟨some 59,.bin .add (.t 57) (.t 58),none,false⟩,⟨some 60,.vW z (.t 56) none (some (.t 59)) none,none,false⟩,⟨some 0,.mv (.t 60),none,false⟩]
abbrev X8 (z bytes:Nat) (zs:List AV) (fo fr:FuncId):List bq:=[⟨some 61,.mv (.t 2),none,false⟩,⟨some 62,.mv (.t 0),none,false⟩,⟨some 63,.mv (.t 1),none,false⟩,⟨some 64,.mv (.t 7),none,false⟩,⟨some 65,.bin .add (.t 63) (.t 64),none,false⟩,⟨some 66,.vW z (.t 62) (some (.t 65)) none none,none,false⟩,⟨some 67,.call (.c (.fn fo [])) [.t 61,.t 66],none,false⟩,⟨some 68,.not (.t 67),none,true⟩]
abbrev VW (z bytes:Nat) (zs:List AV) (fo fr:FuncId):List (bq×List Nat):=[(⟨some 69,.mv (.t 0),none,false⟩,[]),(⟨some 70,.mv (.t 1),none,false⟩,[0]),(⟨some 71,.mv (.t 7),none,false⟩,[0,1]),(⟨some 72,.bin .add (.t 70) (.t 71),none,false⟩,[0]),(⟨some 73,.vW z (.t 69) (some (.t 72)) none none,none,false⟩,[]),(⟨some 74,.mv (.t 0),none,false⟩,[0,1,2,3,4]),(⟨some 75,.mv (.t 1),none,false⟩,[0,1,2,3,4,5]),(⟨some 76,.vW z (.t 74) (some (.t 75)) none none,none,false⟩,[0,1,2,3,4]),(⟨some 77,.JR z (.t 73) (.t 76),none,false⟩,[])]
abbrev V7 (z bytes:Nat) (zs:List AV) (fo fr:FuncId):List bq:=[⟨some 78,.mv (.t 0),none,false⟩,⟨some 79,.mv (.t 1),none,false⟩,⟨some 80,.vW z (.t 78) (some (.t 79)) none none,none,false⟩,⟨some 81,.mv (.t 2),none,false⟩,⟨some 82,.JR z (.t 80) (.t 81),none,false⟩]
abbrev YT (z bytes:Nat) (zs:List AV) (fo fr:FuncId):List bq:=[⟨some 83,.mv (.t 0),none,false⟩,⟨some 6,.mv (.t 83),none,false⟩]
abbrev UP (z bytes:Nat) (zs:List AV) (fo fr:FuncId):List bq:=[⟨some 84,.mv (.t 0),none,false⟩,⟨some 85,.mv (.t 8),none,false⟩,⟨some 86,.vW z (.t 84) (some (.t 85)) none none,none,false⟩,⟨some 87,.mv (.t 2),none,false⟩,⟨some 88,.JR z (.t 86) (.t 87),none,false⟩]
abbrev V2 (z bytes:Nat) (zs:List AV) (fo fr:FuncId):List bq:=[⟨some 89,.mv (.t 0),none,false⟩,⟨some 90,.mv (.t 1),none,false⟩,⟨some 91,.vW z (.t 89) (some (.t 90)) none none,none,false⟩,⟨some 92,.mv (.t 7),none,false⟩,⟨some 93,.call (.c (.fn fr [])) [.t 91,.t 92],none,false⟩]
abbrev Zv (z bytes:Nat) (zs:List AV) (fo fr:FuncId):List bq:=[⟨some 94,.mv (.t 0),none,false⟩,⟨some 6,.mv (.t 94),none,false⟩]
abbrev ahz (z bytes:Nat) (zs:List AV) (fo fr:FuncId):bb:=(.seq (.dY (adP z bytes zs fo fr)) (.seq (.dY (aaJ z bytes zs fo fr)) (.seq (.dY (aeU z bytes zs fo fr)) (.seq (.seq (.dY (aci z bytes zs fo fr)) (.cond (.t 16) (.seq (.dY (aao z bytes zs fo fr)) .ret) .skip)) (.seq (.dY (abE z bytes zs fo fr)) (.seq (.seq (.dY (ad5 z bytes zs fo fr)) (.cond (.t 22) (.seq (.dY (aeD z bytes zs fo fr)) .ret) .skip)) (.seq (.seq (.dY (acm z bytes zs fo fr)) (.cond (.t 31) (.seq (.dY (aeg z bytes zs fo fr)) (.seq (.dY (Wf z bytes zs fo fr)) (.seq (.jv (Xa z bytes zs fo fr)) (.seq (.dY (Yd z bytes zs fo fr)) .ret)))) .skip)) (.seq (.dY (Y6 z bytes zs fo fr)) (.seq (.seq (.dY (X8 z bytes zs fo fr)) (.cond (.t 68) (.seq (.jv (VW z bytes zs fo fr)) (.seq (.dY (V7 z bytes zs fo fr)) (.seq (.dY (YT z bytes zs fo fr)) .ret))) .skip)) (.seq (.dY (UP z bytes zs fo fr)) (.seq (.dY (V2 z bytes zs fo fr)) (.seq (.dY (Zv z bytes zs fo fr)) .ret))))))))))))
def uq (z bytes:Nat) (zs:List AV) (fo fr:FuncId):cZ:={np:=3,N:=95,ct:=[16,22,31,68],code:=ahz z bytes zs fo fr,res:=[.t 6]}
theorem Iv {Q R:List AV} {p:Nat} (h:Q.length=p):List.drop p (Q++R)=R:=by subst h;simp
theorem HF {Q R:List AV} {p:Nat} (h:Q.length=p):List.take p (Q++R)=Q:=by subst h;simp
theorem JK (L:List AV) {a b:Nat} (h:L.length=a+b): ∃x y:List AV,L=x++y/\x.length=a/\y.length=b:=⟨L.take a,L.drop a,(jr a L).symm,by grind,by grind⟩
section
variable {P:Program} {α:Type} {row:α->List AV} {z bytes:Nat} {zs:List AV} {f fo fr:FuncId} {fn:Func}
def qZ (l xs:List α) (i:Nat):List α:=l.take i++(xs++l.drop i)
end
end Go.Ab
namespace Go.Ab
abbrev aiT (z bytes:Nat) (zs:List AV):bb:=
 (.seq (.dY [oo 6 (.mv (.c (.ns)))])
 (.seq (.dY [oo 8 (.mv (.t 0)),oo 9 (.mv (.t 1)),oo 10 (.mv (.t 2)),oo 11 (.mv (.t 0)),oo 12 (.lh (.t 11)),oo 13 (.vW z (.t 8) (some (.t 9)) (some (.t 10)) (some (.t 12)))])
 (.seq (.seq (.dY [oo 14 (.mv (.t 1)),oo 15 (.mv (.t 2)),ot 16 (.bin .eql (.t 14) (.t 15))]) (.cond (.t 16) (.seq (.dY [oo 17 (.mv (.t 0)),oo 6 (.mv (.t 17))]) .ret) .skip))
 (.seq (.dY [oo 18 (.mv (.t 0)),oo 19 (.lh (.t 18)),oo 7 (.mv (.t 19))])
 (.seq (.jv [(oo 20 (.mv (.t 0)),[]),(oo 21 (.mv (.t 1)),[0]),(oo 22 (.vW z (.t 20) none (some (.t 21)) none),[]),(oo 23 (.mv (.t 0)),[0,1,2]),(oo 24 (.mv (.t 2)),[0,1,2,3]),(oo 25 (.vW z (.t 23) (some (.t 24)) none none),[0,1,2]),(oo 26 (.app z bytes zs (.t 22) (.t 25)),[]),(oo 0 (.mv (.t 26)),[])])
 (.seq (.dY [oo 27 (.mv (.t 0)),oo 28 (.mv (.t 0)),oo 29 (.lh (.t 28)),oo 30 (.mv (.t 7)),oo 31 (.vW z (.t 27) (some (.t 29)) (some (.t 30)) none),ZL (.ZZ z zs (.t 31))])
 (.seq (.dY [oo 32 (.mv (.t 0)),oo 6 (.mv (.t 32))]) .ret)))))))
def Zh (z bytes:Nat) (zs:List AV):cZ:={np:=3,N:=33,ct:=[16],code:=aiT z bytes zs,res:=[.t 6]}
section
variable {P:Program} {α:Type} {row:α->List AV} {z bytes:Nat} {zs:List AV} {f:FuncId} {fn:Func}
end
end Go.Ab
namespace Go.Ab
abbrev YX:bb:=(.seq (.dY [oo 4 (.mv (.c (.i .u64 0))),oo 5 (.mv (.c (.i .u64 0)))]) (.seq (.dY [oo 14 (.mv (.t 0)),oo 15 (.bin .and (.t 14) (.c (.i .u64 4294967295))),oo 6 (.mv (.t 15))]) (.seq (.dY [oo 16 (.mv (.t 0)),oo 17 (.bin .shr (.t 16) (.c (.i .u64 32))),oo 7 (.mv (.t 17))]) (.seq (.dY [oo 18 (.mv (.t 1)),oo 19 (.bin .and (.t 18) (.c (.i .u64 4294967295))),oo 8 (.mv (.t 19))]) (.seq (.dY [oo 20 (.mv (.t 1)),oo 21 (.bin .shr (.t 20) (.c (.i .u64 32))),oo 9 (.mv (.t 21))]) (.seq (.dY [oo 22 (.mv (.t 6)),oo 23 (.mv (.t 8)),oo 24 (.bin .mul (.t 22) (.t 23)),oo 10 (.mv (.t 24))]) (.seq (.dY [oo 25 (.mv (.t 7)),oo 26 (.mv (.t 8)),oo 27 (.bin .mul (.t 25) (.t 26)),oo 28 (.mv (.t 10)),oo 29 (.bin .shr (.t 28) (.c (.i .u64 32))),oo 30 (.bin .add (.t 27) (.t 29)),oo 11 (.mv (.t 30))]) (.seq (.dY [oo 31 (.mv (.t 11)),oo 32 (.bin .and (.t 31) (.c (.i .u64 4294967295))),oo 12 (.mv (.t 32))]) (.seq (.dY [oo 33 (.mv (.t 11)),oo 34 (.bin .shr (.t 33) (.c (.i .u64 32))),oo 13 (.mv (.t 34))]) (.seq (.dY [oo 35 (.mv (.t 12)),oo 36 (.mv (.t 6)),oo 37 (.mv (.t 9)),oo 38 (.bin .mul (.t 36) (.t 37)),oo 39 (.bin .add (.t 35) (.t 38)),oo 12 (.mv (.t 39))]) (.seq (.dY [oo 40 (.mv (.t 7)),oo 41 (.mv (.t 9)),oo 42 (.bin .mul (.t 40) (.t 41)),oo 43 (.mv (.t 13)),oo 44 (.bin .add (.t 42) (.t 43)),oo 45 (.mv (.t 12)),oo 46 (.bin .shr (.t 45) (.c (.i .u64 32))),oo 47 (.bin .add (.t 44) (.t 46)),oo 4 (.mv (.t 47))]) (.seq (.dY [oo 48 (.mv (.t 0)),oo 49 (.mv (.t 1)),oo 50 (.bin .mul (.t 48) (.t 49)),oo 5 (.mv (.t 50))]) .ret))))))))))))
def AI:cZ:={np:=2,N:=51,ct:=[],code:=YX,res:=[.t 4,.t 5]}
abbrev mulC (f32 f64:FuncId):bb:=(.seq (.dY [oo 4 (.mv (.c (.i .u64 0))),oo 5 (.mv (.c (.i .u64 0)))]) (.seq (.cond (.c (.b false)) (.seq (.dY [oo 11 (.mv (.t 0)),oo 12 (.Dw .u32 (.t 11)),oo 13 (.mv (.t 1)),oo 14 (.Dw .u32 (.t 13)),oo 15 (.call (.c (.fn f32 [])) [.t 12,.t 14]),oo 10 (.mv (.t 15)),oo 16 (.ext (.t 10) 0),oo 17 (.ext (.t 10) 1),oo 6 (.mv (.t 16)),oo 7 (.mv (.t 17))]) (.seq (.dY [oo 18 (.mv (.t 6)),oo 19 (.Dw .u64 (.t 18)),oo 20 (.mv (.t 7)),oo 21 (.Dw .u64 (.t 20)),oo 4 (.mv (.t 19)),oo 5 (.mv (.t 21))]) .ret)) .skip) (.seq (.dY [oo 23 (.mv (.t 0)),oo 24 (.mv (.t 1)),oo 25 (.call (.c (.fn f64 [])) [.t 23,.t 24]),oo 22 (.mv (.t 25)),oo 26 (.ext (.t 22) 0),oo 27 (.ext (.t 22) 1),oo 8 (.mv (.t 26)),oo 9 (.mv (.t 27))]) (.seq (.dY [oo 28 (.mv (.t 8)),oo 29 (.mv (.t 9)),oo 4 (.mv (.t 28)),oo 5 (.mv (.t 29))]) .ret))))
def Sp (f32 f64:FuncId):cZ:={np:=2,N:=30,ct:=[],code:=mulC f32 f64,res:=[.t 4,.t 5]}
def wm:Ct
 |[.i .u64 1,.i .u64 c],_,n=>some (decide (0<=c/\c<=255),{v:= .bz [.i .u64 0,.i .u64 c],n})
 |_,_,_=>none
theorem Xk {c:Int} (hc:0<=c/\c<=255):iO .u64 c 4294967295=c:=by
 obtain ⟨k,rfl⟩:=Int.eq_ofNat_of_zero_le hc.1;have h: ∀k:Fin 256,iO .u64 ((k.1:Nat):Int) 4294967295=((k.1:Nat):Int):=by decide
 exact h ⟨k,by omega⟩
section
variable {P:Program} {f f32 f64 fm:FuncId} {fn:Func}
theorem Om (hm:P.follows .mixedOrders=true) (hf:P.funcs[f]? =some fn) (hI:ah P fn=some AI) (c:Int) (hc:0<=c/\c<=255):
 bG P f [.i .u64 1,.i .u64 c] [] 0 (.bz [.i .u64 0,.i .u64 c]) [] 0:=by
 refine bG.dQ (cx:=cj []) Sound.nil hm hf hI (by simp [AI]) (aO ?_)
 dsimp only [AI];have e1:=Xk hc;have e2:(c).fdiv 4294967296=0:=by grind
 have e3:IntKind.u64.wrap c=c:=by rw [oe];omega
 have e4:iO .u64 1 4294967295=1:=by decide
 have e5:iO .u64 0 4294967295=0:=by decide
 have e6:IntKind.u64.wrap 0=0:=by decide
 simp only [go_sem,e1,e2,e3,e4,e5,e6,Int.zero_mul,Int.one_mul,Int.add_zero,Int.zero_fdiv,simprocAttr];exact Ends.aw rfl rfl
theorem NO (hm:P.follows .mixedOrders=true) (hc:Go.Ab.bH P f=true) (hf:P.funcs[f]? =some fn) (hI:ah P fn=some AI):ax P f wm:=λargs h n c E hk ht=>by
 unfold wm at hk;split at hk
 ·cases hk;exact aA.pure hc rfl rfl (Om hm hf hI _ (bN ht)) _ _
 ·cases hk
theorem adA (hm:P.follows .mixedOrders=true) (hf:P.funcs[f]? =some fn) (hI:ah P fn=some (Sp f32 f64)) (h64:ax P f64 wm) (c:Int) (hc:0<=c/\c<=255):
 bG P f [.i .u64 1,.i .u64 c] [] 0 (.bz [.i .u64 0,.i .u64 c]) [] 0:=by
 refine bG.dQ (cx:=cj [(f64,wm)]) (Sound.cons h64 Sound.nil) hm hf hI (by simp [Sp]) (aO ?_)
 dsimp only [Sp];have e1:decide (0<=c/\c<=255)=true:=af hc;simp only [go_sem,e1,wm,simprocAttr];exact Ends.aw rfl rfl
theorem aav (hm:P.follows .mixedOrders=true) (hc:Go.Ab.bH P f=true) (hf:P.funcs[f]? =some fn) (hI:ah P fn=some (Sp f32 f64)) (h64:ax P f64 wm):ax P f wm:=λargs h n c E hk ht=>by
 unfold wm at hk;split at hk
 ·cases hk;exact aA.pure hc rfl rfl (adA hm hf hI h64 _ (bN ht)) _ _
 ·cases hk
end
/-! Repeat -/
def ai8:List UInt8:=[99,97,110,110,111,116,32,98,101,32,110,101,103,97,116,105,118,101]
def ah8:List UInt8:=[116,104,101,32,114,101,115,117,108,116,32,111,102,32,40,108,101,110,40,120,41,32,42,32,99,111,117,110,116,41,32,111,118,101,114,102,108,111,119,115]
abbrev aij (z:Nat):bb:=(.seq (.seq (.dY [oo 34 (.mv (.t 8)),oo 35 (.mv (.t 7)),oo 36 (.lh (.t 35)),ot 37 (.bin .lss (.t 34) (.t 36))]) (.cond (.t 37) .skip (.exit 0))) (.block 1 (.jv [(oo 38 (.mv (.t 8)),[]),(oo 39 (.mv (.t 7)),[0]),(oo 40 (.mv (.t 8)),[0,1]),(oo 41 (.vW z (.t 39) (some (.t 40)) none none),[0]),(oo 42 (.mv (.t 7)),[0,1,2,3]),(oo 43 (.mv (.t 8)),[0,1,2,3,4]),(oo 44 (.vW z (.t 42) none (some (.t 43)) none),[0,1,2,3]),(oo 45 (.JR z (.t 41) (.t 44)),[0]),(oo 46 (.bin .add (.t 38) (.t 45)),[]),(oo 8 (.mv (.t 46)),[])])))
abbrev ahY (z bytes:Nat) (zs:List AV) (ts:TypeId) (fm:FuncId):bb:=(.seq (.dY [oo 4 (.mv (.c (.ns)))])
 (.seq (.seq (.dY [oo 9 (.mv (.t 1)),ot 10 (.bin .lss (.t 9) (.c (.i .i64 0)))]) (.cond (.t 10) (.dY [oo 11 (.ZU ts (.c (.s ai8))),ZL (.S6 (.t 11))]) .skip))
 (.seq (.dY [oo 13 (.mv (.t 0)),oo 14 (.lh (.t 13)),oo 15 (.Dw .u64 (.t 14)),oo 16 (.mv (.t 1)),oo 17 (.Dw .u64 (.t 16)),oo 18 (.call (.c (.fn fm [])) [.t 15,.t 17]),oo 12 (.mv (.t 18)),oo 19 (.ext (.t 12) 0),oo 20 (.ext (.t 12) 1),oo 5 (.mv (.t 19)),oo 6 (.mv (.t 20))])
 (.seq (.seq (.dY [oo 21 (.mv (.t 5)),oo 22 (.bin .gtr (.t 21) (.c (.i .u64 0))),ot 23 (.mv (.t 22)),og 24 (.mv (.t 6)) 23 false false,og 25 (.bin .gtr (.t 24) (.c (.i .u64 9223372036854775807))) 23 false false,ot 26 (.pick (.t 23) (.c (.b true)) (.t 25))]) (.cond (.t 26) (.dY [oo 27 (.ZU ts (.c (.s ah8))),ZL (.S6 (.t 27))]) .skip))
 (.seq (.dY [oo 28 (.mv (.t 6)),oo 29 (.Dw .i64 (.t 28)),oo 30 (.mks z bytes zs (.t 29) (.t 29)),oo 7 (.mv (.t 30))])
 (.seq (.dY [oo 31 (.mv (.t 7)),oo 32 (.mv (.t 0)),oo 33 (.JR z (.t 31) (.t 32)),oo 8 (.mv (.t 33))])
 (.seq (.block 0 (.loop (aij z)))
 (.seq (.dY [oo 47 (.mv (.t 7)),oo 4 (.mv (.t 47))]) .ret))))))))
def VK (z bytes:Nat) (zs:List AV) (ts:TypeId) (fm:FuncId):cZ:={np:=2,N:=48,ct:=[10,26,37],code:=ahY z bytes zs ts fm,res:=[.t 4]}
section
variable {P:Program} {α:Type} {row:α->List AV} {z bytes:Nat} {zs:List AV} {ts:TypeId} {f fm:FuncId} {fn:Func}
theorem zJ: ∀{m:Nat},zs.length=z->(dA zs m).length=m*z
 |0,_=>by simp [dA]
 |m+1,h=>by rw [tY,cm,zJ h,h,gi,pD,vN]
theorem Hd (m n:Nat):dA zs (m+n)=dA zs m++dA zs n:=by
 induction m with
 |zero=>simp [dA]
 |succ m ih=>rw [Nat.succ_add,tY,tY,ih,jy]
end
end Go.Ab
namespace Go.Ab
section
variable {P:Program} {α:Type} {row:α->List AV} {z bytes:Nat} {zs:List AV} {ts:TypeId} {f fm:FuncId} {fn:Func}
theorem L1 (hm:P.follows .mixedOrders=true) (hf:P.funcs[f]? =some fn) (hI:ah P fn=some (VK z bytes zs ts fm)) (hmul:ax P fm wm) (hlen: ∀a,(row a).length=z) (hzl:zs.length=z) (hbel: ∀a,ab 0 (row a)=true) (hone: ∀a,aL (row a)=true) (hzb:ab 0 zs=true)
 (a:α) (k:Nat) (hk:k<=255) (hg:bytes*k<=281474976710656):
 bG P f [.sl 0 0 1 1,.i .i64 k] [(0,{cells:=row a})] 1 (.sl 1 0 k k) [(1,{cells:=rows row (List.replicate k a)})] 2:=by
 have hR: ∀j,(rows row (List.replicate j a)).length=j*z:=λj=>by rw [aU hlen,List.length_replicate]
 have hRa: ∀i j,rows row (List.replicate (i+j) a)=rows row (List.replicate i a)++rows row (List.replicate j a):=λi j=>by rw [<-dO,List.replicate_append_replicate]
 have hR1:rows row (List.replicate 1 a)=row a:=by simp [rows]
 have hRb: ∀n j,ab n (rows row (List.replicate j a))=true:=λn j=>au _ (bh hbel);have hRo: ∀j,aL (rows row (List.replicate j a))=true:=λj=>dr hone _;generalize hRR:(λj=>rows row (List.replicate j a))=R at*;have hRe: ∀j,rows row (List.replicate j a)=R j:=λj=>by rw [<-hRR]
 simp only [hRe] at*;rw [<-hR1];have hZ: ∀m,(dA zs m).length=m*z:=λm=>zJ hzl;have hZa:=Hd (zs:=zs);have hZb: ∀n m,ab n (dA zs m)=true:=λn m=>by
  induction m with
  |zero=>rfl
  |succ m ih=>rw [tY,dj,ih,au _ hzb];rfl
 generalize hZZ:(λm=>dA zs m)=Z at*;have hZe: ∀m,dA zs m=Z m:=λm=>by rw [<-hZZ]
 simp only [hZe] at hZ hZa hZb;refine bG.dQ (cx:=cj [(fm,wm)]) (Sound.cons hmul Sound.nil) hm hf hI (by simp [VK]) (aO ?_)
 dsimp only [VK];have c0:decide ((k:Int)<0)=false:=bw (by omega)
 have w1:IntKind.u64.wrap 1=1:=by decide
 have w2:IntKind.u64.wrap (k:Int)=(k:Int):=by rw [oe];omega
 have w3:IntKind.i64.wrap (k:Int)=(k:Int):=aN (by omega) (by omega)
 have c1:decide (0<=(k:Int)/\(k:Int)<=255)=true:=af (by omega)
 have c2:decide ((0:Int)<0)=false:=by decide
 have c3:decide (9223372036854775807<(k:Int))=false:=bw (by omega)
 have c4:decide (0<=(k:Int)/\(k:Int)<=(k:Int)/\bytes*k<=281474976710656/\(k:Int)<=9223372036854775807)=true:=af (by omega)
 have t1:List.take (1*z) (R 1)=R 1:=dN (by grind)
 have c4':decide (0<=(k:Int)/\(bytes:Int)*(k:Int)<=281474976710656/\(k:Int)<=9223372036854775807)=true:=af (by
  omega)
 obtain ⟨j0,hj0⟩: ∃j0,(if 1<=k then 1 else k)=j0:=⟨_,rfl⟩
 have hj0k:j0<=1/\j0<=k/\(1<=j0\/k=0):=by grind
 have hcut: ∀i j,i<=j->List.take (i*z) (R j)=R i:=λi j h=>by
  rw [show j=i+(j-i) by omega,hRa];grind
 have hzm: ∀i j,i<=j->i*z<=j*z:=λi j h=>vH _ h;have hzd: ∀i j,i<=j->List.drop (i*z) (Z j)=Z (j-i):=λi j h=>by
  conv=>lhs;rw [show j=i+(j-i) by omega,hZa]
  grind
 have t2:=hcut j0 1 hj0k.1;have t3:decide (j0*z<=k*z)=true:=af (hzm _ _ hj0k.2.1);have t4:=hzd j0 k hj0k.2.1;simp only [go_sem,wm,c0,c1,c3,c4',w1,w2,w3,hR,hZe,hZ,hRo,dk,oD,t1,t2,t3,t4,hj0,simprocAttr];refine Loop.by (F:=⟨P,cj [(fm,wm)],[10,26,37],48,1⟩) (Sound.cons hmul Sound.nil) hm (X:=Nat) (λj=>j<=k/\(1<=j\/k=0)) (λj=>k-j)
  (λj=>[(8,.i .i64 (j:Int)),(7,.sl 1 0 k k)]) (λj=>[(1,{cells:=R j++Z (k-j)})]) 2 j0 (show 1<=2 by decide) hj0k.2 ?_ ?_ (λj hj=> ?_)
 ·simp only [go_sem,AV.aj,aP,simprocAttr]
 ·simp only [go_sem,dj,hRb,hZb,simprocAttr]
 by_cases hlt:j<k
 ·have d1:decide ((j:Int)<(k:Int))=true:=af (by omega)
  have d2:decide (0<=(j:Int)/\(j:Int)<=(k:Int)/\0<=(k:Int))=true:=af (by omega)
  have d3:decide (0<=(j:Int)/\(j:Int)<=(k:Int))=true:=af (by omega)
  obtain ⟨mn,hmn⟩: ∃mn,(if j<=k-j then j else k-j)=mn:=⟨_,rfl⟩
  have hmn':1<=mn/\mn<=j/\j+mn<=k:=by rw [<-hmn];split<;>omega
  have u1:List.take (j*z) (R j++Z (k-j))=R j:=HF (hR j);have u2:=hcut mn j hmn'.2.1;have a1: ¬k=j:=by omega
  have u3:List.drop (j*z+mn*z) (R j++Z (k-j))=Z (k-(j+mn)):=by
   rw [show k-j=mn+(k-(j+mn)) by omega,hZa,<-jy]
   grind
  have u4:decide (j*z+mn*z<=(R j++Z (k-j)).length)=true:=af (by
   grind)
  have w4:IntKind.i64.wrap ((j:Int)+(mn:Int))=((j+mn:Nat):Int):=by grind [aN]
  simp only [go_sem,d1,d2,d3,hR,hRo,hmn,u1,u2,u3,u4,a1,w4,dk,AV.aj,aP,simprocAttr];refine ⟨j+mn,⟨⟨hmn'.2.2,.inl (by omega)⟩,by omega⟩,rfl,?_,?_⟩
  all_goals grind [dj,aG]
 ·have d1:decide ((j:Int)<(k:Int))=false:=bw (by omega)
  obtain rfl:j=k:=by omega
  simp only [go_sem,simprocAttr];have hz0:Z (j-j)=[]:=fq (by rw [hZ];simp)
  rw [hz0,dh];exact Ends.R [] (by decide) (by decide) rfl rfl (by simp_all [iW,aa,rn,bp.aQ,aJ])
end
end Go.Ab
namespace Go.Ab
theorem aA.same {P:Program} {f:FuncId} {args:List AV} {h:Hp} {n:Nat} {E:bV} (hc:aA P f args h n E) (hw:E.nw=[]) (hs: ∀b r,cy E.md b=some r->r=aa h b):aA P f args h n {E with md:=[]}:=by
 have ha:({E with md:=[]}:bV).app (only (aa h) E.rd)=E.app (only (aa h) E.rd):=by
  funext c;simp only [bV.app,cy,hw,aa];cases hm:cy E.md c with
  |none=>rfl
  |some r=>
   have h1:=hs c r hm;have h2:=hc.md c r hm;simp only [only,h2,cond_true,h1]
 refine ⟨hc.bH,hc.le,λb r hb=>(by cases hb),hc.nw,λD φ w us h1 h2 h3=> ?_⟩
 rw [ha];exact hc.run D φ w us h1 h2 h3
theorem CW {χ:Nat->Nat} {m:Nat}: ∀(ks:List bp) (i:Nat),i+ks.length<=m->fL χ m (iP ks i)=[]
 |[],_,_=>rfl
 |k::ks,i,h=>by
  simp only [List.length_cons] at h;have hb:Nat.blt i m=true:=by simp_all;omega
  simp only [iP,fL,hb,cond_true];exact CW ks (i+1) (by omega)
noncomputable def WK (R:List Nat) (ks:List bp) (argsL:List AV) (v:AV):Ct:=λa h n=>
 open Classical in if a=aS (nth R) argsL/\IX R h R ks then some (true,{v:=v.aQ (jA R n),n,rd:=R}) else none
theorem Aj {R:List Nat} {ks:List bp} {argsL a:List AV} {v v2:AV} {h:Hp} {n:Nat} (ha:aS (nth R) argsL=a) (hat:IX R h R ks) (hv:v.aQ (jA R n)=v2):WK R ks argsL v a h n=some (true,{v:=v2,n,rd:=R}):=by
 subst ha hv;exact aT ⟨rfl,hat⟩
theorem qE {P:Program} {f:FuncId} {R:List Nat} {ks:List bp} {argsL:List AV} {v:AV} (hcall:Go.Ab.bH P f=true) (hnd:nodup R=true)
 (hin:ab R.length argsL=true) (hft:bG P f argsL (iP ks 0) R.length v (iP ks 0) R.length) (hok:l5 (iP ks 0) R.length R.length (iP ks 0)=true):ax P f (WK R ks argsL v):=λargs h n c E he ht=>by
 unfold WK at he;split at he
 ·rename_i hh;obtain ⟨rfl,hat⟩:=hh;cases he;have hc:=aA.canon (n:=n) R ks hcall hnd hin hat hft (bx _) hok;have hnw:fL (jA R n) R.length (iP ks 0)=[]:=CW ks 0 (by grind [wA])
  refine (aA.same hc hnw (λb r hb=> ?_)).cast rfl (by grind)
  rw [oY] at hb;split at hb
  ·rename_i hi;cases hb;have hlt:=Ap hi;obtain ⟨k,hk⟩: ∃k,ks[idx R b]? =some k:=⟨_,bj (by grind [wA])⟩
   have h2:=AH hat hk;rw [hlt.2] at h2;rw [h2.1,ta,aT (cr _),fy,Nat.sub_zero,hk];simp only [iI,aI,bp.aQ];rw [fu (ψ:=jA R n) (χ:=nth R) (λc hc=>by simp_all [jA]) _ h2.2]
  ·cases hb
 ·cases he
theorem aZ.ahe {n0 n n2:Nat} {v v' v2:AV} {h h' h2:Hp} {x:AV} {b:Nat} {k:bp} {o:Nat} (hk:aa h b=some k) (hro:k.ro=false) (hx:x= .p b o) (hf:bW x (.fp k.cells o) v v')
 (hh:wR x (.fp k.cells o) b h h') (hc:aZ n0 v' h' n v2 h2 n2) (hmp:k.mp=none:=by rfl):aZ n0 v h n v2 h2 n2:=by
 intro D φ w D0 φ0 H0 w0 u hD0 hD hv hH hS;obtain ⟨hdb,⟨⟨vs,elem,fr,q1,q2,q3,q4⟩,q5⟩⟩:=hH.at_ b k hk;have q1:=q1.cells hmp;let φ1:bP:={φ with fz:=λB=>if B=φ.cI b then some vs else φ.fz B}
 have ag:cT D φ φ1:=⟨λc _=>⟨rfl,rfl,rfl,rfl⟩,λB vs' hB=>by
  simp only [φ1];split
  ·rename_i hBb;subst hBb;obtain ⟨elem',fr',h1⟩:=hH.fz _ _ hB
   grind
  ·exact hB,rfl⟩
 have hxy: ∀u1,aK D φ1 x u1->aK D φ1 (.fp k.cells o) u1:=λu1 h1=>by
  subst hx;have g1:φ1.fz (φ.cI b)=some vs:=by simp [φ1]
  cases h1 with
  |p _ _ hd=>
   rw [vN];rw [show o+φ1.off b=φ.off b+o from vN _ _]
   refine .fp _ _ _ _ vs g1 (λi hi=> ?_) (λi a u ha hu=> ?_)
   ·obtain ⟨u,hu,_⟩:=q2 i _ (bj hi)
    grind
   ·obtain ⟨u',hu',hr⟩:=q2 i a ha;rw [hu] at hu';cases hu';exact hr.mono (λ_ h=>h) ag
 have hH1:HR D φ1 (aa h') w:=by
  refine ⟨⟨λc kk2 hc=> ?_,λb1 b2 k1 k2 hne h1 h2' hr=> ?_⟩,λB vs' hB=> ?_,hH.lp,λc kk B vs' hc hr hB=> ?_⟩
  ·obtain ⟨hne,kk,h3,e1,e2',e3,hv⟩:=hh.get c kk2 hc;obtain ⟨d1,⟨⟨vs',elem',fr',r1,r2,r3,r4⟩,r5⟩⟩:=hH.at_ c kk h3;obtain ⟨e3,e4⟩:=zi e3;refine ⟨d1,⟨⟨vs',elem',fr',by grind,λi v2 hi=> ?_,by grind,by grind⟩,by grind⟩⟩
   obtain ⟨v,hv1,hv2⟩:=hv.get hi;obtain ⟨u,hu,hur⟩:=r2 i v hv1;exact ⟨u,hu,hv2 D φ1 u hxy (hur.mono (λ_ h=>h) ag)⟩
  ·obtain ⟨_,kk1,a1,a2,_⟩:=hh.get _ _ h1;obtain ⟨_,kk2,b1',b2',_⟩:=hh.get _ _ h2';exact hH.sep b1 b2 kk1 kk2 hne a1 b1' (by grind)
  ·simp only [φ1] at hB;split at hB
   ·grind
   ·exact hH.fz B vs' hB
  ·obtain ⟨hne,kk1,a1,a2,_⟩:=hh.get _ _ hc;simp only [φ1] at hB;split at hB
   ·rename_i e;subst e;exact hH.sep c b kk1 k hne a1 hk (by grind)
   ·exact hH.lS c kk1 B vs' a1 (by grind) hB
 refine hc D φ1 w D0 φ0 H0 w0 u hD0 hD (hf D φ1 u hxy (hv.mono (λ_ h=>h) ag)) hH1 ⟨hS.sub,⟨hS.agree.at_,λB vs' hB=>ag.fz B vs' (hS.agree.fz B vs' hB),hS.agree.lp⟩,hH1,hS.eF,λc kk2 hc hr=> ?_,λB vs' hB=> ?_⟩
 ·obtain ⟨_,kk1,a1,a2,_⟩:=hh.get _ _ hc;exact hS.qL c kk1 a1 (by grind)
 ·simp only [φ1] at hB;split at hB
  ·rename_i e;subst e;exact .inr (hS.qL b k hk hro)
  ·exact hS.kj B vs' hB
end Go.Ab
namespace Go.Ab
def zL:Ct
 |[.fz L m,.sl b o len cap],h,n=>(jo h b).bind λk=>some (decide (0<L.length)&& !k.ro&&(match k.gr with|some z'=> !(Nat.beq z' 1)|none=>true)&&decide (o<k.cells.length),{v:= .b false,n,rd:=[b]})
 |_,_,_=>none
theorem Su {P:Program} {f:FuncId} {fn:Func} (hfy:f≠YB) (hf:P.funcs[f]? =some fn) (hname:(fn.name== "runtime.NumGoroutine")=false) (hb:fn.body.isNone=true) (hn:Extern.findNext fn=none) (he:Extern.find fn=some (Extern.SlicesOverlaps.overlaps fn.params fn.resultTypes))
 (hT:aam P fn=true):ax P f zL:=λargs h n c E hc hct=>by
 obtain ⟨t,e,z,h0,ht,hz⟩: ∃t e z,fn.params[0]? =some t/\P.underlying t=some (.slice e)/\fh P e=some z:=by
  unfold aam at hT;split at hT
  ·rename_i t ht;split at hT
   ·rename_i e he;obtain ⟨z,hz⟩:=tx.1 hT;exact ⟨t,e,z,ht,he,hz⟩
   ·cases hT
  ·cases hT
 unfold zL at hc;split at hc
 ·rename_i L m b o len cap;simp only [av,aI,aV] at hc;obtain ⟨k,hk,h1,rfl⟩:=hc;obtain ⟨hk,hmp⟩:=dL hk;rw [hct] at h1;simp only [ak,bg,gG] at h1;obtain ⟨⟨⟨hL,hro⟩,hgr⟩,ho⟩:=h1;have hext:ext P f=true:=by unfold ext;rw [hf];exact hb
  refine ⟨by unfold bH;rw [hf];simp [hb],bx _,λb r hb=>by simp [cy] at hb,λb k hb=>by simp [aa] at hb,λD φ w us hfresh hH hA=> ?_⟩
  have hin:inl [b] b=true:=by simp [inl]
  have hkk:only (aa h) [b] b=some k:=by rw [ep hin];exact hk
  obtain ⟨u1,us1,rfl,hv1,hA1⟩:=hA.eB;obtain ⟨u2,us2,rfl,hv2,hA2⟩:=hA1.eB;rw [hA2.mq];obtain ⟨_,⟨⟨vs,elem,fr,q1,q2,q3,q4⟩,_⟩⟩:=hH.at_ b k hkk;have q1:=q1.cells hmp;have hgr':k.gr≠some 1:=λe=>by rw [e] at hgr;cases hgr
  have hos:φ.off b+o<vs.size:=by
   obtain ⟨u,hu,_⟩:=q2 o _ (bj ho);rcases eV (φ.off b+o) vs.size with h'|h'
   ·exact h'
   ·rw [JE h'] at hu;cases hu
  have key: ∀a ca,(m≠0-> ∃a',a=some a'/\a'.block≠φ.cI b/\ ∃vs el fr,w.heap[a'.block]? =some (.cells vs el fr)/\vs.size≠0)→
   (callFunc f #[.slice a m ca,.slice (some ⟨φ.cI b,φ.off b+o,none⟩) len cap]).run P w= .ok (.value (.bool false)) w:=λa ca ha=>by
   rw [run_callFunc_extern hf hname hb hn he,rN w t e fn.resultTypes fn.params h0 ht z hz _ _ _ _ _ _ (λhm hl=> ?_)]
   ·rfl
   ·obtain ⟨a',rfl,g1,g2⟩:=ha hm;exact ⟨a',_,rfl,rfl,g1,g2,vs,elem,fr,q1,(q3 hro).2 _ (.inl hos),(q3 hro).2 _ (.inr ⟨rfl,hgr'⟩)⟩
  have fin: ∀u1,(∃a ca,u1= .slice a m ca/\(m≠0-> ∃a',a=some a'/\a'.block≠φ.cI b/\ ∃vs el fr,w.heap[a'.block]? =some (.cells vs el fr)/\vs.size≠0))->tu P f [u1,.slice (some ⟨φ.cI b,φ.off b+o,none⟩) len cap].toArray w λe w'=> ∃u φ',e= .returned u/\aK (Dn D n n) φ' (.b false) u/\dU D φ (only (aa h) [b]) w (Dn D n n) φ' (bV.app {v:= .b false,n,rd:=[b]} (only (aa h) [b])) w'∧
   (∀b' k,bV.app {v:= .b false,n,rd:=[b]} (only (aa h) [b]) b'=some k->k.ro=true->only (aa h) [b] b'=some k):=λu1 hu=>by
   obtain ⟨a,ca,rfl,ha⟩:=hu;refine tu.U6 hfy hext (key a ca ha) ?_;have e:(bV.app {v:= .b false,n,rd:=[b]} (only (aa h) [b]))=only (aa h) [b]:=by funext b;rfl
   rw [e];have hd: ∀b,D b->Dn D n n b:=λb h=> .inl h;refine ⟨_,φ,rfl,.b _,?_,λb' k hb _=>hb⟩;have hR:=hH.grow hd;exact ⟨hd,cT.refl _ _,hR,GN.refl _ _ _,λb k hb hk=> .inr ⟨b,k,hb,hk,rfl⟩,λ_ _ h=> .inl h⟩
  cases hv2 with
  |sl _ _ _ _ hD=>
  cases hv1 with
  |nS _ x ca hc0=>exact fin _ ⟨x,ca,rfl,λh=>absurd rfl h⟩
  |fz _ _ B p ca vs1 hB hcap hs hh=>
   obtain ⟨e1,f1,g1⟩:=hH.fz B vs1 hB;exact fin _ ⟨_,ca,rfl,λ_=>⟨_,rfl,λe=>hH.lS b k B vs1 hkk hro hB e.symm,vs1,e1,f1,g1,by have:=hs 0 hL;omega⟩⟩
 ·cases hc
def ae6 (P:Program) (f:FuncId) (post:List AV) (z c m m':Nat) (cs cs':List AV):Prop:= ∀p,
 (m'<=c/\ ∃T,bG P f (.sl 0 p m c::post) [(0,{cells:=gX p++(cs++gX ((c-m)*z)),gr:=some z})] 1 (.sl 0 p m' c) [(0,{cells:=gX p++(cs'++T),gr:=some z})] 1)∨
 bG P f (.sl 0 p m c::post) [(0,{cells:=gX p++(cs++gX ((c-m)*z)),gr:=some z})] 1 (.sg 1 0 m') [(1,{cells:=cs',gr:=some z})] 2
theorem Na {D:Nat->Prop} {φ:bP} {h:Hp} {w:World} {z:Nat} {b o m:Nat} {u:Value} {cs:List AV} {rd:List Nat} {b':Nat} (hH:HR D φ (only (aa h) (b::rd)) w) (hx:aK D φ (.sg b o m) u) (hg:V0 h z (.sg b o m)=some (b',m,cs,true)):
 cs.length=m*z/\ ∃k p c elem fr vs,aa h b=some k/\k.ro=false/\m<=c/\u= .slice (some ⟨φ.cI b,p,none⟩) m c/\w.heap[φ.cI b]? =some (.cells vs elem fr)/\vs.size=p+c*z∧
  (∀(i:Nat) (a:AV),cs[i]? =some a-> ∃u,vs[p+i]? =some u/\aK D φ a u)/\(z≠1-> ∀i,i<=vs.size-> ¬(fr.1<=i/\i<fr.2)):=by
 have hin:inl (b::rd) b=true:=by simp [inl]
 cases hx with
 |sg _ _ _ j cap hD hj hcap hlen=>
  simp only [V0,av,aI,aV,ak,gG,bg] at hg;obtain ⟨k,hk,rfl,_,rfl,⟨hro,hgr⟩,hl⟩:=hg;obtain ⟨hk,hmp⟩:=dL hk;have hkk:only (aa h) (b::rd) b=some k:=by rw [ep hin];exact hk
  obtain ⟨_,⟨⟨vs,elem,fr,q1,q2,q3,q4⟩,_⟩⟩:=hH.at_ b k hkk;have q1:=q1.cells hmp;split at hgr
  ·rename_i z' hz';have hz:=ee hgr;subst hz;obtain ⟨_,hes,hsz⟩:=q4 z hz';have ho:φ.cap b*z=o+cap*z:=by rw [<-hcap,gi,<-hj,hes]
   refine ⟨hl,k,φ.off b+o,cap,elem,fr,vs,hk,hro,hlen,rfl,q1,by omega,λi a ha=> ?_,λh1 i hi=>(q3 hro).2 i (by rw [hz'];rcases eV i vs.size with h'|h';exact .inl h';exact .inr ⟨Nat.le_antisymm hi h',by simpa using h1⟩)⟩
   simp only [aD,kJ,oA] at ha;split at ha
   ·obtain ⟨u,h1,h2⟩:=q2 _ a ha;exact ⟨u,by rw [mj];exact h1,h2⟩
   ·cases ha
  ·cases hgr
theorem aA.Uk {P:Program} {f:FuncId} {post postF:List AV} {h:Hp} {n z b o m m':Nat} {cs cs':List AV} {rd:List Nat} (hc:Go.Ab.bH P f=true) (hg:V0 h z (.sg b o m)=some (b,m,cs,true)) (hcs:ab 0 cs=true) (hcs':ab 0 cs'=true)
 (hv:yG h rd post postF) (hbr:inl rd b=false) (hz0:0<z) (hz1:z≠1) (hw:wN h rd=true)
 (hf: ∀c,m<=c->ae6 P f postF z c m m' cs cs'):aA P f (.sg b o m::post) h n {v:= .sg n 0 m',n:=n+1,rd:=b::rd,md:=j4 (b::rd),nw:=[(n,{cells:=cs',gr:=some z})]}:=by
 have happ:(bV.app {v:= .sg n 0 m',n:=n+1,rd:=b::rd,md:=j4 (b::rd),nw:=[(n,{cells:=cs',gr:=some z})]} (only (aa h) (b::rd)))=λc=>if inl (b::rd) c=true then none else if c=n then some {cells:=cs',gr:=some z} else none:=by
  funext c;simp only [bV.app,jE,only,aa];by_cases hcn:c=n
  ·subst hcn;cases hi:inl (b::rd) c<;>simp
  ·cases hi:inl (b::rd) c<;>simp [bO hcn,hcn]
 refine ⟨hc,Nat.le_succ _,λb' r hb=>(by rw [jE] at hb;split at hb;assumption;cases hb),λc kk hc=> ?_,λD φ w us hfresh hH hA=> ?_⟩
 ·simp only [aa] at hc;by_cases hcn:c=n
  ·subst hcn;show c<=c/\c<c+1;omega
  ·rw [bO hcn] at hc;cases hc
 have hnD: ¬D n:=hfresh n (bx _) (gw _);obtain ⟨ux,us',rfl,hx,hA'⟩:=hA.eB;obtain ⟨hcl,k,p,c,elem,fr,vs,hk,hro,hmc,rfl,q1,q2,q3,q4⟩:=Na hH hx hg;have q4:=q4 hz1;have hin:inl (b::rd) b=true:=by simp [inl]
 have hkk:only (aa h) (b::rd) b=some k:=by rw [ep hin];exact hk
 have hHr:HR D φ (only (aa h) rd) w:=C8 hH (λc hc=>by rw [jb];by_cases e:b=c<;>simp [e,hc])
 let D1:Nat->Prop:=λx=>x=0;let φ1:bP:={(φ.nA (only (aa h) rd) w) with cI:=λ_=>φ.cI b,off:=λ_=>p,cap:=λ_=>c,fO:=λ_=>z}
 have hnb: ∀B vs,φ1.fz B=some vs->φ.cI b≠B:=λB vs hB=>by
  simp only [φ1,bP.nA] at hB;split at hB
  ·rename_i hex;obtain ⟨b',k',hb',rfl⟩:=hex;have hbb:b≠b':=λe=>by
    subst e;unfold only at hb';rw [hbr] at hb';cases hb'
   have hb2:only (aa h) (b::rd) b'=some k':=by
    unfold only at hb' ⊢;cases hi:inl rd b'
    ·rw [hi] at hb';cases hb'
    ·rw [jb,aY hbb,hi];rw [hi] at hb';exact hb'
   exact hH.sep b b' k k' hbb hkk hb2 hro
  ·exact hH.lS b k B vs hkk hro hB
 have hfz1: ∀B vs,φ1.fz B=some vs-> ∃elem fr,w.heap[B]? =some (.cells vs elem fr):=λB vs hB=>by
  simp only [φ1,bP.nA] at hB;split at hB
  ·exact nP hB
  ·exact hH.fz B vs hB
 have hup: ∀{a:AV} {u:Value},aK (λ_=>False) (φ.nA (only (aa h) rd) w) a u->aK D1 φ1 a u:=λhv=>aK.vz (D:=λ_=>False) (D':=D1) (φ:=φ.nA (only (aa h) rd) w) (φ':=φ1) (λ_ h=>h.elim) (λ_ h=>h.elim) (λ_ _ h=>h) (λ_ _ h=>h) hv;have hcz:m*z+(c-m)*z=c*z:=by rw [<-gi];congr 1;omega
 have hcel: ∀(i:Nat) (a:AV),(gX 0++(cs++gX ((c-m)*z)))[i]? =some a-> ∃u,vs[p+i]? =some u/\aK D1 φ1 a u:=λi a ha=>by
  replace ha:(cs++gX ((c-m)*z))[i]? =some a:=ha;have hlt:i<m*z+(c-m)*z:=by
   rcases eV i (cs++gX ((c-m)*z)).length with h'|h'
   ·simp only [cm,oS,hcl] at h';omega
   ·rw [lu h'] at ha;cases ha
  have hi:p+i<vs.size:=by omega
  by_cases c2:i<cs.length
  ·rw [zO c2] at ha;obtain ⟨u,h1,h2⟩:=q3 _ a ha;refine ⟨u,h1,hup ?_⟩;exact (h2.mono (D':=D) (λ_ h=>h) (bP.gO hHr D)).BH (cE hcs a (bJ ha))
  ·rw [vE (by omega)] at ha
   cases J8 ha;exact ⟨vs[p+i],Array.getElem?_eq_getElem hi,.any _⟩
 have hH1:HR D1 φ1 (aa [(0,{cells:=gX 0++(cs++gX ((c-m)*z)),gr:=some z})]) w:=by
  refine ⟨⟨λb' k' hb'=> ?_,λb1 b2 k1 k2 hne h1 h2=> ?_⟩,hfz1,hH.lp,λb' k' B vs' hb' _ hB=>hnb B vs' hB⟩
  ·simp only [aa] at hb';by_cases e:b'=0
   ·subst e;simp at hb';subst hb';refine ⟨rfl,⟨⟨vs,elem,(fr.1,fr.2),q1,λi v hv=>hcel i v (by simpa using hv),λ_=>⟨λh=>(by cases h),λi hi=>q4 i (by rcases hi with hi|⟨hi,_⟩<;>omega)⟩,λe he=> ?_⟩,λg hg=>by cases hg⟩⟩
    simp at he;subst he;exact ⟨rfl,rfl,q2⟩
   ·rw [bO e] at hb';cases hb'
  ·simp only [aa] at h1 h2;by_cases e1:b1=0
   ·by_cases e2:b2=0
    ·exact absurd (e1.trans e2.symm) hne
    ·rw [bO e2] at h2;cases h2
   ·rw [bO e1] at h1;cases h1
 have hA1:cw D1 φ1 (.sl 0 0 m c::postF) (.slice (some ⟨φ.cI b,p,none⟩) m c::us'):=by
  refine .cons ?_ ⟨by rw [<-hv.len];exact hA'.1,λi a u ha hu=> ?_⟩
  ·have:=aK.sl (D:=D1) (φ:=φ1) 0 0 m c rfl;simpa [φ1] using this
  ·obtain ⟨a',h1,h2⟩:=hv.get ha;exact hup (h2 D _ φ w u hHr (hA'.2 i a' u h1 hu))
 -- both ends in one form
 have key:tu P f (Value.slice (some ⟨φ.cI b,p,none⟩) m c::us').toArray w λe w'=> ∃D' φ2 H2 r k2 cap u,e= .returned u/\dU D1 φ1 (aa [(0,{cells:=gX 0++(cs++gX ((c-m)*z)),gr:=some z})]) w D' φ2 H2 w'/\H2 r=some k2/\(k2.gr,k2.mp)=(some z,none)/\(∀(i:Nat) (a:AV),cs'[i]? =some a->k2.cells[i]? =some a)/\u= .slice (some ⟨φ2.cI r,φ2.off r,none⟩) m' cap/\cap=φ2.cap r/\m'<=cap:=by
  rcases hf c hmc 0 with ⟨hm',T,hF⟩|hF
  ·refine (hF D1 φ1 w _ (λb hb=>by cases hb;exact gw _) hH1 hA1).mono λe w' hx=> ?_
   obtain ⟨D',φ2,u,rfl,hD',hr,hS⟩:=hx;cases hr with
   |sl _ _ _ _ hd=>
    refine ⟨D',φ2,_,0,{cells:=gX 0++(cs'++T),gr:=some z},c,_,rfl,hS,by simp [aa],rfl,λi a ha=> ?_,rfl,?_,hm'⟩
    ·show (cs'++T)[i]? =some a;rw [zO (cv.1 ha).1];exact ha
    ·exact ((hS.agree.at_ 0 rfl).2.2.1).symm
  ·refine (hF D1 φ1 w _ (λb hb=>by cases hb;exact gw _) hH1 hA1).mono λe w' hx=> ?_
   obtain ⟨D',φ2,u,rfl,hD',hr,hS⟩:=hx;have hb1:=hS.hr.at_ 1 {cells:=cs',gr:=some z} (by simp [aa])
   obtain ⟨_,⟨⟨vs',elem',fr',r1,r2,r3,r4⟩,_⟩⟩:=hb1;obtain ⟨_,hes,_⟩:=r4 z rfl;cases hr with
   |sg _ _ _ j cap hd hj hcap hl=>
    rw [hes] at hj;have hj0:j=0:=by
     rcases Nat.eq_zero_or_pos j with h|h
     ·exact h
     ·have:=Nat.mul_pos h hz0;omega
    subst hj0;exact ⟨D',φ2,_,1,{cells:=cs',gr:=some z},cap,_,rfl,hS,by simp [aa],rfl,λi a ha=>ha,rfl,by omega,hl⟩
 refine key.mono λe w' hx=> ?_;obtain ⟨D',φ2,H2,r,k2,cap,u,rfl,hS,hr2,hgr2,hcell,rfl,hcap,hm'⟩:=hx;obtain ⟨hgr2,hmp2⟩:=zi hgr2;obtain ⟨hDr,⟨⟨vs',elem',fr',r1,r2,r3,r4⟩,r5⟩⟩:=hS.hr.at_ r k2 hr2;rw [hmp2] at r1;obtain ⟨hro2,hes2,hsz2⟩:=r4 z hgr2;let φ3:bP:={cI:=λx=>if x=n then φ2.cI r else φ.cI x,off:=λx=>if x=n then φ2.off r else φ.off x,cap:=λx=>if x=n then φ2.cap r else φ.cap x,fO:=λx=>if x=n then z else φ.fO x,fz:=φ2.fz,lp:=φ2.lp}
 have ag3: ∀b,D b->φ3.cI b=φ.cI b/\φ3.off b=φ.off b/\φ3.cap b=φ.cap b/\φ3.fO b=φ.fO b:=λb hb=>by
  have:b≠n:=λe=>hnD (e▸hb);simp [φ3,this]
 have hst: ∀c,c<w.heap.size->φ.cI b≠c->w'.heap[c]? =w.heap[c]? :=λc hc hne=>hS.eF.block c hc (λb' k' hb' _=>by
  simp only [aa] at hb';by_cases e:b'=0
  ·exact hne
  ·rw [bO e] at hb';cases hb')
 have h3: ∀(i:Nat) (a:AV),cs'[i]? =some a-> ∃u,vs'[φ2.off r+i]? =some u/\aK (Dn D n (n+1)) φ3 a u:=λi a ha=>by
  obtain ⟨u,hu,hur⟩:=r2 i a (hcell i a ha);refine ⟨u,hu,?_⟩;have h1:aK (λ_=>False) φ2 a u:=hur.BH (cE hcs' a (bJ ha));exact aK.vz (φ:=φ2) (φ':=φ3) (λ_ h=>h.elim) (λ_ h=>h.elim) (λ_ _ h=>h) (λ_ _ h=>h) h1
 have himg:w.heap.size<=φ2.cI r\/φ.cI b=φ2.cI r:=by
  rcases hS.qL r k2 hr2 hro2 with h1|⟨m0,km,h1,_,h2⟩
  ·exact .inl h1
  ·exact .inr h2
 refine ⟨_,φ3,rfl,?_,?_,λc kk hc hk=> ?_⟩
 ·have:=aK.sg (D:=Dn D n (n+1)) (φ:=φ3) n 0 m' 0 cap (.inr ⟨bx _,gw _⟩) (by simp) (by simp [φ3,hcap]) hm'
  simpa [φ3] using this
 ·show dU D φ _ w (Dn D n (n+1)) φ3 (bV.app _ _) w';rw [happ];have ag1:=bP.gO hHr D;have get: ∀{c kk},(if inl (b::rd) c=true then none else if c=n then some {cells:=cs',gr:=some z} else none:Option bp)=some kk->c=n/\kk={cells:=cs',gr:=some z}:=λ{c kk} hc=>by
   split at hc
   ·cases hc
   ·split at hc
    ·rename_i e;cases hc;exact ⟨e,rfl⟩
    ·cases hc
  refine ⟨λb h=> .inl h,⟨ag3,λB vs hB=>hS.agree.fz B vs (ag1.fz B vs hB),hS.agree.lp⟩,⟨⟨λc kk hc=> ?_,λb1 b2 k1 k2 hne h1 h2 _=>absurd ((get h1).1.trans (get h2).1.symm) hne⟩,hS.hr.fz,hS.hr.lp,λc kk B vs hc _ hB=> ?_⟩,
   ⟨hS.eF.os,hS.eF.tape,hS.eF.output,hS.eF.size,λc hc hne=>hst c hc (hne b k hkk hro)⟩,λc kk hc _=> ?_,λB vs hB=> ?_⟩
  ·obtain ⟨rfl,rfl⟩:=get hc;refine ⟨.inr ⟨bx _,gw _⟩,⟨⟨vs',elem',fr',by simpa [φ3] using r1,λi v hv=> ?_,λ_=>⟨λh=>(by cases h),λi hi=>(r3 hro2).2 i (by rw [hgr2];exact hi)⟩,λe he=> ?_⟩,λg hg=>by cases hg⟩⟩
   ·obtain ⟨u,h1,h2⟩:=h3 i v hv;exact ⟨u,by simpa [φ3] using h1,h2⟩
   ·simp at he;subst he;exact ⟨rfl,by simp [φ3],by simpa [φ3] using hsz2⟩
  ·obtain ⟨rfl,rfl⟩:=get hc;have:=hS.hr.lS r k2 B vs hr2 hro2 hB;simpa [φ3] using this
  ·obtain ⟨rfl,rfl⟩:=get hc;rcases himg with h1|h1
   ·left;simpa [φ3] using h1
   ·right;exact ⟨b,k,hkk,hro,by simpa [φ3] using h1⟩
  ·rcases hS.kj B vs hB with h1|h1|⟨m',km,h1,h2,h3⟩
   ·simp only [φ1,bP.nA] at h1;split at h1
    ·rename_i hx;obtain ⟨b',k',hbk,hB'⟩:=hx;right;right;have hi:inl rd b'=true:=by
      cases hi:inl rd b'
      ·unfold only at hbk;rw [hi] at hbk;cases hbk
      ·rfl
     have hbk':aa h b'=some k':=by unfold only at hbk;rw [hi] at hbk;exact hbk
     refine ⟨b',k',?_,tj hw hi hbk',hB'⟩;unfold only;have:inl (b::rd) b'=true:=by
      rw [jb];by_cases e:b=b'
      ·rw [aT e]
      ·rw [aY e];exact hi
     rw [this];exact hbk'
    ·exact .inl h1
   ·exact .inr (.inl h1)
   ·right;right;exact ⟨b,k,hkk,hro,h3⟩
 ·rw [happ] at hc;dsimp only at hc;split at hc
  ·cases hc
  ·split at hc
   ·cases hc;cases hk
   ·cases hc
theorem aA.aaW {P:Program} {f:FuncId} {args argsF:List AV} {h:Hp} {n:Nat} {rd:List Nat} {z m:Nat} {cs:List AV} (hc:Go.Ab.bH P f=true)
 (hv:yG h rd args argsF) (hb:ab 0 cs=true) (hw:wN h rd=true) (hf:bG P f argsF [] 0 (.sg 0 0 m) [(0,{cells:=cs,gr:=some z})] 1):aA P f args h n {v:= .sg n 0 m,n:=n+1,rd,md:=j4 rd,nw:=[(n,{cells:=cs,gr:=some z})]}:=by
 have happ:(bV.app {v:= .sg n 0 m,n:=n+1,rd,md:=j4 rd,nw:=[(n,{cells:=cs,gr:=some z})]} (only (aa h) rd))=λc=>if inl rd c=true then none else if c=n then some {cells:=cs,gr:=some z} else none:=by
  funext c;simp only [bV.app,jE,only,aa];by_cases hcn:c=n
  ·subst hcn;cases hi:inl rd c<;>simp
  ·cases hi:inl rd c<;>simp [bO hcn,hcn]
 refine ⟨hc,Nat.le_succ _,λb r hb=>(by rw [jE] at hb;by_cases hi:inl rd b=true;exact hi;rw [aY hi] at hb;cases hb),λc kk hc=> ?_,λD φ w us hfresh hH hA=> ?_⟩
 ·simp only [aa] at hc;by_cases hcn:c=n
  ·subst hcn;show c<=c/\c<c+1;omega
  ·rw [bO hcn] at hc;cases hc
 have hnD: ¬D n:=hfresh n (bx _) (gw _);let φ1:=φ.nA (only (aa h) rd) w;have hH1:HR (λ_=>False) φ1 (aa []) w:=⟨⟨λb k hb=>by simp [aa] at hb,λb1 b2 k1 k2 _ hb=>by simp [aa] at hb⟩,λB vs hB=>by
  simp only [φ1,bP.nA] at hB;split at hB
  ·exact nP hB
  ·exact hH.fz B vs hB,hH.lp,λb k B vs hb=>by simp [aa] at hb⟩
 have hA1:cw (λ_=>False) φ1 argsF us:=⟨by rw [<-hv.len];exact hA.1,λi a u ha hu=>by
  obtain ⟨a',h1,h2⟩:=hv.get ha;exact h2 D _ φ w u hH (hA.2 i a' u h1 hu)⟩
 refine (hf (λ_=>False) φ1 w us (λ_ h=>h.elim) hH1 hA1).mono λe w' hx=> ?_;obtain ⟨D',φ2,u,rfl,hD',hr,hS⟩:=hx;obtain ⟨hDr,⟨⟨vs',elem',fr',r1,r2,r3,r4⟩,r5⟩⟩:=hS.hr.at_ 0 {cells:=cs,gr:=some z} (by simp [aa])
 have hr2:aa [(0,({cells:=cs,gr:=some z}:bp))] 0=some {cells:=cs,gr:=some z}:=by simp [aa]
 obtain ⟨hro2,hes2,hsz2⟩:=r4 z rfl;have ag1:=bP.gO hH D;let φ3:bP:={cI:=λx=>if x=n then φ2.cI 0 else φ.cI x,off:=λx=>if x=n then φ2.off 0 else φ.off x,cap:=λx=>if x=n then φ2.cap 0 else φ.cap x,fO:=λx=>if x=n then φ2.fO 0 else φ.fO x,fz:=φ2.fz,lp:=φ2.lp}
 have ag3: ∀b,D b->φ3.cI b=φ.cI b/\φ3.off b=φ.off b/\φ3.cap b=φ.cap b/\φ3.fO b=φ.fO b:=λb hb=>by
  have:b≠n:=λe=>hnD (e▸hb);simp [φ3,this]
 have hst: ∀c,c<w.heap.size->w'.heap[c]? =w.heap[c]? :=λc hc=>hS.eF.block c hc (λb k hb=>by simp [aa] at hb)
 have h3: ∀(i:Nat) (a:AV),cs[i]? =some a-> ∃u,vs'[φ2.off 0+i]? =some u/\aK (Dn D n (n+1)) φ3 a u:=λi a ha=>by
  obtain ⟨u,hu,hur⟩:=r2 i a ha;refine ⟨u,hu,?_⟩;have h1:aK (λ_=>False) φ2 a u:=hur.BH (cE hb a (bJ ha));exact aK.vz (φ:=φ2) (φ':=φ3) (λ_ h=>h.elim) (λ_ h=>h.elim) (λ_ _ h=>h) (λ_ _ h=>h) h1
 have himg:w.heap.size<=φ2.cI 0:=by
  rcases hS.qL 0 _ hr2 hro2 with h1|⟨m0,km,h1,_,h2⟩
  ·exact h1
  ·simp [aa] at h1
 refine ⟨u,φ3,rfl,?_,?_,λc kk hc hk=> ?_⟩
 ·have:aK (λx=>x=0) φ2 (.sg 0 0 m) u:=by
   cases hr with
   |sg _ _ _ j cap hd hj hcap hl=>exact .sg 0 0 m j cap rfl hj hcap hl
  cases this with
  |sg _ _ _ j cap hd hj hcap hl=>
   have:=aK.sg (D:=Dn D n (n+1)) (φ:=φ3) n 0 m j cap (.inr ⟨bx _,gw _⟩) (by simpa [φ3] using hj) (by simpa [φ3] using hcap) hl
   simpa [φ3] using this
 ·show dU D φ _ w (Dn D n (n+1)) φ3 (bV.app _ _) w';rw [happ];have get: ∀{c kk},(if inl rd c=true then none else if c=n then some {cells:=cs,gr:=some z} else none:Option bp)=some kk->c=n/\kk={cells:=cs,gr:=some z}:=λ{c kk} hc=>by
   split at hc
   ·cases hc
   ·split at hc
    ·rename_i e;cases hc;exact ⟨e,rfl⟩
    ·cases hc
  refine ⟨λb h=> .inl h,⟨ag3,λB vs hB=>hS.agree.fz B vs (ag1.fz B vs hB),hS.agree.lp⟩,⟨⟨λc kk hc=> ?_,λb1 b2 k1 k2 hne h1 h2 _=>absurd ((get h1).1.trans (get h2).1.symm) hne⟩,hS.hr.fz,hS.hr.lp,λc kk B vs hc _ hB=> ?_⟩,
   ⟨hS.eF.os,hS.eF.tape,hS.eF.output,hS.eF.size,λc hc _=>hst c hc⟩,λc kk hc _=> ?_,λB vs hB=> ?_⟩
  ·obtain ⟨rfl,rfl⟩:=get hc;refine ⟨.inr ⟨bx _,gw _⟩,⟨⟨vs',elem',fr',by simpa [φ3] using r1,λi v hv=> ?_,λ_=>⟨λh=>(by cases h),λi hi=>(r3 rfl).2 i hi⟩,λe he=> ?_⟩,λg hg=>by cases hg⟩⟩
   ·obtain ⟨u,h1,h2⟩:=h3 i v hv;exact ⟨u,by simpa [φ3] using h1,h2⟩
   ·simp at he;subst he;exact ⟨rfl,by simpa [φ3] using hes2,by simpa [φ3] using hsz2⟩
  ·obtain ⟨rfl,rfl⟩:=get hc;have:=hS.hr.lS 0 _ B vs hr2 hro2 hB;simpa [φ3] using this
  ·obtain ⟨rfl,rfl⟩:=get hc;left;simpa [φ3] using himg
  ·rcases hS.kj B vs hB with h1|h1|⟨m,km,h1,_⟩
   ·simp only [φ1,bP.nA] at h1;split at h1
    ·rename_i hx;obtain ⟨b,k,hbk,hB'⟩:=hx;right;right;refine ⟨b,k,hbk,?_,hB'⟩;simp only [only] at hbk;cases hi:inl rd b
     ·rw [hi] at hbk;cases hbk
     ·rw [hi] at hbk;exact tj hw hi hbk
    ·exact .inl h1
   ·exact .inr (.inl h1)
   ·simp [aa] at h1
 ·rw [happ] at hc;dsimp only at hc;split at hc
  ·cases hc
  ·split at hc
   ·cases hc;cases hk
   ·cases hc
section
variable {P:Program} {α:Type} {row:α->List AV} {z bytes:Nat} {zs:List AV} {f fo fr:FuncId} {fn:Func}
theorem OX (hm:P.follows .mixedOrders=true) (hf:P.funcs[f]? =some fn) (hI:ah P fn=some (uq z bytes zs fo fr)) (hlen: ∀a,(row a).length=z) (hbel: ∀a,ab 0 (row a)=true) (xs:List α) (h0:0<xs.length) (hg:bytes*xs.length<=az):
 bG P f [.ns,.i .i64 0,.fz (rows row xs) xs.length] [] 0 (.sg 0 0 xs.length) [(0,{cells:=rows row xs,gr:=some z})] 1:=by
 refine bG.dy (cx:=cj []) Sound.nil hm hf hI (by simp [uq]) (aO ?_)
 dsimp only [uq];have hl:(rows row xs).length=xs.length*z:=aU hlen;have hb:ab 0 (rows row xs)=true:=bh hbel;generalize rows row xs=L at*;have e1:((xs.length:Int)==0)=false:=by rw [CA];omega
 have e2:decide (xs.length=0)=false:=bw (by omega)
 have e3:decide (bytes*xs.length<=az)=true:=af hg;have e4:List.take (xs.length*z) L=L:=dN (by omega)
 simp only [go_sem,e1,e2,e3,e4,hl,dk,simprocAttr];exact aZ.ends (Ends.Qo (b:=0) (bx _) rfl rfl rfl hb rfl)
theorem ON (hm:P.follows .mixedOrders=true) (hf:P.funcs[f]? =some fn) (hI:ah P fn=some (uq z bytes zs fo fr)) (ho:ax P fo zL) (hlen: ∀a,(row a).length=z) (hz0:0<z) (hz1:z≠1) (hzl:zs.length=z) (hbel: ∀a,ab 0 (row a)=true) (hone: ∀a,aL (row a)=true)
 (l xs:List α) (i c:Nat) (hi:i<=l.length) (hc:l.length<=c) (h0:0<xs.length) (hg:bytes*(l.length+xs.length)<=az) (hbig:l.length+xs.length<=9223372036854775807):
 ae6 P f [.i .i64 i,.fz (rows row xs) xs.length] z c l.length (l.length+xs.length) (rows row l) (rows row (qZ l xs i)):=by
 intro p;have hzb:Nat.beq z 1=false:=bO (λe=>hz1 e.symm);have hT:Sound P (cj [(fo,zL)]):=Sound.cons ho Sound.nil;have hl:(rows row xs).length=xs.length*z:=aU hlen;have hb:ab 0 (rows row xs)=true:=bh hbel;have h1:aL (rows row xs)=true:=dr hone _;have hlL:(rows row l).length=l.length*z:=aU hlen;have hbL:ab 0 (rows row l)=true:=bh hbel;have h1A:aL (rows row (l.take i))=true:=dr hone _;have h1B:aL (rows row (l.drop i))=true:=dr hone _;have hAB:rows row l=rows row (l.take i)++rows row (l.drop i):=by rw [<-dO,jr]
 have hA:(rows row (l.take i)).length=i*z:=by rw [aU hlen,fY,pY hi]
 have hB:(rows row (l.drop i)).length=(l.length-i)*z:=by rw [aU hlen,yt]
 have hb3:ab 0 (rows row (qZ l xs i))=true:=bh hbel;have hins:rows row (qZ l xs i)=rows row (l.take i)++(rows row xs++rows row (l.drop i)):=by rw [qZ,dO,dO]
 rw [hins] at hb3 ⊢;rw [hAB] at hbL hlL ⊢;have hb0:=hb3;have hb3:=au (m:=1) _ hb3;generalize rows row (l.take i)=A at*;generalize rows row (l.drop i)=B at*;generalize rows row xs=X at*;generalize l.length=N at*;generalize xs.length=m at*;clear hins hAB;have hAn:(gX p).length=p:=oS;have hQb:ab 1 (gX p)=true:=px;have hSb:ab 1 (gX ((c-N)*z))=true:=px;have hSn:(gX ((c-N)*z)).length=(c-N)*z:=oS;generalize gX ((c-N)*z)=S at*;generalize gX p=Q at*;have hNz:i*z+(N-i)*z=N*z:=by rw [<-gi];congr 1;omega
 have e1:((m:Int)==0)=false:=by rw [CA];omega
 have e2:decide (m=0)=false:=bw (by omega)
 have e3:decide (bytes*(N+m)<=az)=true:=af hg;have e4:List.take (m*z) X=X:=dN (by omega)
 have e5:decide (0<=(i:Int)/\(i:Int)<=(N:Int)/\0<=(N:Int)/\(N:Int)<=(c:Int)/\0<=(c:Int))=true:=af (by omega)
 have w1:IntKind.i64.wrap ((N:Int)+(m:Int))=((N+m:Nat):Int):=by rw [aN (by omega) (by omega)];omega
 have w2:IntKind.i64.wrap (((N+m:Nat):Int)-(i:Int))=((N+m-i:Nat):Int):=by rw [aN (by omega) (by omega)];omega
 have w3:IntKind.i64.wrap ((i:Int)+(m:Int))=((i+m:Nat):Int):=by rw [aN (by omega) (by omega)];omega
 have hcz:N*z+(c-N)*z=c*z:=by rw [<-gi];congr 1;omega
 rcases eV i N with hlt|hge
 ·have d1:((i:Int)==(N:Int))=false:=by rw [CA];omega
  by_cases hroom:N+m<=c
  · -- there is room
    have d2:decide ((c:Int)<((N+m:Nat):Int))=false:=bw (by omega)
    have a2: ¬c=i:=by omega
    have a3: ¬c=0:=by omega
    have a4: ¬c=i+m:=by omega
    have him:(i+m)*z=i*z+m*z:=gi _ _ _;have hZz:(N+m-i)*z=(N-i)*z+m*z:=by rw [<-gi];congr 1;omega
    have hcm:(c-N)*z=m*z+(c-N-m)*z:=by rw [<-gi];congr 1;omega
    obtain ⟨Y,S2,rfl,hY,hS2⟩:=JK S (hSn.trans hcm)
    -- what lies behind the place,parted where the tail will come to lie
    obtain ⟨W,V,hWV,hW,hV⟩:=JK (B++Y) (a:=m*z) (b:=(N-i)*z) (by rw [cm];omega)
    have k1:List.take ((N+m-i)*z) (List.drop (p+i*z) (Q++(A++B++(Y++S2))))=B++Y:=by
     rw [show Q++(A++B++(Y++S2))=(Q++A)++((B++Y)++S2) by simp only [jy],Iv (by rw [cm];omega),HF (by rw [cm];omega)]
    have k2:List.take ((N-i)*z) (B++Y)=B:=HF hB;have k3:List.take (p+(i+m)*z) (Q++(A++B++(Y++S2)))=Q++(A++W):=by
     rw [show Q++(A++B++(Y++S2))=(Q++(A++W))++(V++S2) by
      have:A++B++(Y++S2)=A++((B++Y)++S2):=by simp only [jy]
      rw [this,hWV];simp only [jy]]
     exact HF (by simp only [cm];omega)
    have k4:List.drop (p+(i+m)*z+(N-i)*z) (Q++(A++B++(Y++S2)))=S2:=by
     rw [show Q++(A++B++(Y++S2))=(Q++(A++(B++Y)))++S2 by simp only [jy]]
     exact Iv (by simp only [cm];omega)
    have k5:List.take (p+i*z) (Q++(A++W)++B++S2)=Q++A:=by
     rw [show Q++(A++W)++B++S2=(Q++A)++(W++(B++S2)) by simp only [jy]]
     exact HF (by simp only [cm];omega)
    have k6:List.drop (p+i*z+m*z) (Q++(A++W)++B++S2)=B++S2:=by
     rw [show Q++(A++W)++B++S2=(Q++(A++W))++(B++S2) by simp only [jy]]
     exact Iv (by simp only [cm];omega)
    have i1:(if N+m-i<=N+m-(i+m) then N+m-i else N+m-(i+m))=N-i:=by rw [aY (by omega)];omega
    have i2:(if m<=N+m-i then m else N+m-i)=m:=aT (by omega)
    have hXp:0<X.length:=by rw [hl];exact Nat.mul_pos h0 hz0
    have hBp:0<(N-i)*z:=Nat.mul_pos (by omega) hz0
    have hHl:(Q++(A++B++(Y++S2))).length=p+(i*z+((N-i)*z+(m*z+(c-N-m)*z))):=by simp only [cm];omega
    have c1:decide (0<=((N+m:Nat):Int)/\((N+m:Nat):Int)<=(c:Int))=true:=af (by omega)
    have c2:decide (0<=((i+m:Nat):Int)/\((i+m:Nat):Int)<=((N+m:Nat):Int)/\0<=((N+m:Nat):Int)/\((N+m:Nat):Int)<=(c:Int)/\0<=(c:Int))=true:=af (by omega)
    have c3:decide (0<m*z)=true:=af (Nat.mul_pos h0 hz0);have c4:decide (p+(i+m)*z<(Q++(A++B++(Y++S2))).length)=true:=af (by rw [hHl];omega)
    have c5:decide (0<=(i:Int)/\(i:Int)<=((N+m:Nat):Int)/\0<=((N+m:Nat):Int)/\((N+m:Nat):Int)<=(c:Int)/\0<=(c:Int))=true:=af (by omega)
    have c6:decide ((B++Y).length=(N+m-i)*z)=true:=af (by rw [cm];omega)
    have c7:decide (p+(i+m)*z+(N-i)*z<=(Q++(A++B++(Y++S2))).length)=true:=af (by rw [hHl];omega)
    have c8:decide (p+i*z+m*z<=(Q++(A++W)++B++S2).length)=true:=af (by simp only [cm];omega)
    have c9:0<1:=Nat.one_pos;refine .inl ⟨hroom,S2,?_⟩;refine bG.dy hT hm hf hI (by simp [uq]) (aO ?_)
    dsimp only [uq];simp only [go_sem,e1,e2,e4,e5,hl,dk,w1,w2,w3,d1,d2,a2,a3,a4,dP,h1,h1B,hA,hB,i1,i2,k1,k2,k3,k4,k5,k6,zL,hzb,c1,c2,c3,c4,c5,c6,c7,c8,c9,simprocAttr];exact aZ.ends (Ends.gH rfl rfl (by simp only [dj,ak] at hSb hb3 hQb ⊢;simp only [hSb,hb3,hQb,o8]) rfl (by simp only [jy]))
  · -- a new row
    have d2:decide ((c:Int)<((N+m:Nat):Int))=true:=af (by omega)
    have a1:i+(N+m-i)=N+m:=by omega
    have a2: ¬c=i:=by omega
    have t1:List.take (i*z) (List.drop p (Q++(A++B++S)))=A:=by rw [Iv hAn,jy,HF hA]
    have t2:List.take ((N-i)*z) (List.drop (p+i*z) (Q++(A++B++S)))=B:=by
     rw [show Q++(A++B++S)=(Q++A)++(B++S) by simp only [jy],Iv (by rw [cm];omega),HF hB]
    have hZ:(dA zs (N+m-i)).length=(N+m-i)*z:=by
     generalize N+m-i=r;induction r with
     |zero=>simp [dA]
     |succ r ih=>simp [dA,ih,hzl,vJ];omega
    generalize hZe:dA zs (N+m-i)=Z at*;have hZz:(N+m-i)*z=m*z+(N-i)*z:=by rw [<-gi];congr 1;omega
    have hNm:(N+m)*z=i*z+(m*z+(N-i)*z):=by rw [<-gi,<-gi];congr 1;omega
    have him:(i+m)*z=i*z+m*z:=gi _ _ _;obtain ⟨Z1,Z2,rfl,hZ1,hZ2⟩:=JK Z (hZ.trans hZz);have i1:(if m<=N+m-i then m else N+m-i)=m:=aT (by omega)
    have i2:(if N-i<=N+m-(i+m) then N-i else N+m-(i+m))=N-i:=aT (by omega)
    have e6:List.take ((N-i)*z) B=B:=dN (by omega)
    have s1:List.take (i*z) (A++(Z1++Z2))=A:=HF hA;have s2:List.drop (i*z+m*z) (A++(Z1++Z2))=Z2:=by rw [<-jy];exact Iv (by rw [cm];omega)
    have s3:List.take ((i+m)*z) (A++X++Z2)=A++X:=HF (by rw [cm];omega)
    have s4:List.drop ((i+m)*z+(N-i)*z) (A++X++Z2)=[]:=oE (by simp only [cm];omega)
    have c1:decide (0<=(i:Int)/\(i:Int)<=(c:Int))=true:=af (by omega)
    have c2:decide (0<((N+m-i:Nat):Int))=true:=af (by omega)
    have c3:decide (c<N+m)=true:=af (by omega)
    have c4:decide (0<=(i:Int)/\(i:Int)<=((N+m:Nat):Int)/\0<=((N+m:Nat):Int))=true:=af (by omega)
    have c5:decide (i=0\/i<N+m)=true:=af (by omega)
    have c6:decide (i*z+m*z<=(A++(Z1++Z2)).length)=true:=af (by simp only [cm];omega)
    have c7:decide (0<=((i+m:Nat):Int)/\((i+m:Nat):Int)<=((N+m:Nat):Int)/\0<=((N+m:Nat):Int))=true:=af (by omega)
    have c8:decide (i+m=0\/i+m<N+m)=true:=af (by omega)
    have c9:decide ((i+m)*z+(N-i)*z<=(A++X++Z2).length)=true:=af (by simp only [cm];omega)
    refine .inr ?_;refine bG.dy hT hm hf hI (by simp [uq]) (aO ?_)
    dsimp only [uq];simp only [go_sem,e1,e2,e3,e4,e5,e6,hl,hlL,dk,w1,w2,w3,d1,d2,a1,a2,t1,t2,dP,h1,h1B,hA,hB,hZe,i1,i2,s1,s2,s3,s4,c1,c2,c3,c4,c5,c6,c7,c8,c9,simprocAttr];exact aZ.ends (Ends.Qo (b:=1) (bx _) rfl rfl rfl hb0 (by simp only [jy]))
 · -- at the end
   obtain rfl:i=N:=by omega
   have hBn:B=[]:=fq (by rw [hB];simp)
   subst hBn;have d1:((i:Int)==(i:Int))=true:=beq_self_eq_true _;simp only [dh] at hb3 hb0 ⊢;have e8:decide (0<=(i:Int)/\0<=(i:Int)/\(i:Int)<=(c:Int)/\0<=(c:Int))=true:=af (by omega)
   by_cases hroom:i+m<=c
   ·have r1:decide (i+m<=c)=true:=af hroom;have hcm:(c-i)*z=m*z+(c-i-m)*z:=by rw [<-gi];congr 1;omega
    obtain ⟨Y,S2,rfl,hY,hS2⟩:=JK S (hSn.trans hcm);have k1:List.take (p+i*z) (Q++(A++(Y++S2)))=Q++A:=by
     rw [<-jy];exact HF (by simp only [cm];omega)
    have k2:List.drop (p+i*z+m*z) (Q++(A++(Y++S2)))=S2:=by
     rw [show Q++(A++(Y++S2))=(Q++(A++Y))++S2 by simp]
     exact Iv (by simp only [cm];omega)
    have c1:decide (p+i*z+m*z<=(Q++(A++(Y++S2))).length)=true:=af (by simp only [cm];omega)
    refine .inl ⟨hroom,S2,?_⟩;refine bG.dy hT hm hf hI (by simp [uq]) (aO ?_)
    dsimp only [uq];simp only [go_sem,e1,e2,e3,e4,e8,hl,dk,d1,r1,h1,k1,k2,c1,simprocAttr];exact aZ.ends (Ends.gH rfl rfl (by simp only [dj,ak] at hSb hb3 hQb ⊢;simp only [hSb,hb3,hQb,o8]) rfl (by simp only [jy]))
   ·have r1:decide (i+m<=c)=false:=bw hroom;have t1:List.take (i*z) (List.drop p (Q++(A++S)))=A:=by rw [Iv hAn,HF hA]
    have c2:decide (i<=c)=true:=af hc;refine .inr ?_;refine bG.dy hT hm hf hI (by simp [uq]) (aO ?_)
    dsimp only [uq];simp only [go_sem,e1,e2,e3,e4,e8,hl,hA,dk,d1,r1,h1,t1,c2,simprocAttr];exact aZ.ends (Ends.Qo (b:=1) (bx _) rfl rfl rfl hb0 (by simp only [jy]))
end
end Go.Ab
namespace Go.Ab
section
variable {P:Program} {α:Type} {row:α->List AV} {z bytes:Nat} {zs:List AV} {f:FuncId} {fn:Func}
theorem QN (hm:P.follows .mixedOrders=true) (hf:P.funcs[f]? =some fn) (hI:ah P fn=some (Zh z bytes zs)) (hlen: ∀a,(row a).length=z) (hz0:0<z) (hz1':z≠1) (hzl:zs.length=z) (hz1:aL zs=true) (hzB:ab 0 zs=true) (hbel: ∀a,ab 0 (row a)=true) (hone: ∀a,aL (row a)=true)
 (l:List α) (i p c:Nat) (hi:i<l.length) (hc:l.length<=c) (hbig:l.length<=9223372036854775807):
 ∃T,bG P f [.sl 0 p l.length c,.i .i64 i,.i .i64 ((i:Int)+1)] [(0,{cells:=gX p++(rows row l++gX ((c-l.length)*z)),gr:=some z})] 1 (.sl 0 p (l.length-1) c) [(0,{cells:=gX p++(rows row (l.take i++l.drop (i+1))++T),gr:=some z})] 1:=by
 have hzb:Nat.beq z 1=false:=bO (λe=>hz1' e.symm);have hlL:(rows row l).length=l.length*z:=aU hlen;have h1B:aL (rows row (l.drop (i+1)))=true:=dr hone _;have hA:(rows row (l.take i)).length=i*z:=by grind [aU,fY,pY]
 have hB:(rows row (l.drop (i+1))).length=(l.length-(i+1))*z:=by rw [aU hlen,yt]
 obtain ⟨a,ha⟩: ∃a,l[i]? =some a:=⟨_,bj hi⟩;have hX:(row a).length=z:=hlen a;have hAB:rows row l=rows row (l.take i)++(row a++rows row (l.drop (i+1))):=by
  grind [jr,dO,rE,cX,bj,Cy]
 have hb3:ab 0 (rows row (l.take i++l.drop (i+1)))=true:=bh hbel;rw [dO] at hb3 ⊢;rw [hAB] at hlL ⊢;have hb3:=au (m:=1) _ hb3;generalize rows row (l.take i)=A at*;generalize rows row (l.drop (i+1))=B at*;generalize row a=X at*;generalize l.length=N at*;clear hAB ha;have hAn:(gX p).length=p:=oS;have hSn:(gX ((c-N)*z)).length=(c-N)*z:=oS;have hQb:ab 1 (gX p)=true:=px;have hSb:ab 1 (gX ((c-N)*z))=true:=px;have hZb:=au (m:=1) _ hzB;generalize gX ((c-N)*z)=S at*;generalize gX p=Q at*;refine ⟨zs++S,?_⟩;obtain ⟨r,rfl⟩: ∃r,N=i+1+r:=⟨N-(i+1),by omega⟩
 have g1:i+1+r-(i+1)=r:=by omega
 have g2:i+1+r-1=i+r:=by omega
 rw [g1] at hB;have e0:((i:Int)==(i:Int)+1)=false:=by grind
 have t1:((i:Int)+1).toNat=i+1:=by omega
 have c1:decide (0<=(i:Int)/\(i:Int)<=(i:Int)+1/\0<=(i:Int)+1/\(i:Int)+1<=((i+1+r:Nat):Int)/\0<=((i+1+r:Nat):Int)/\((i+1+r:Nat):Int)<=(c:Int))=true:=af (by omega)
 have c2:decide (0<=(i:Int)/\(i:Int)<=(c:Int))=true:=af (by omega)
 have c3:decide (0<=(i:Int)+1/\(i:Int)+1<=((i+1+r:Nat):Int)/\0<=((i+1+r:Nat):Int)/\((i+1+r:Nat):Int)<=(c:Int))=true:=af (by omega)
 have c4:decide (i<=c)=true:=af (by omega)
 have m1:(i+1)*z=i*z+z:=by grind
 have m2:(i+r)*z=i*z+r*z:=gi _ _ _;have hzz:(dA zs 1).length=z:=by simp [dA,hzl]
 generalize hZe:dA zs 1=Z at hzz;refine bG.dy (cx:=cj []) Sound.nil hm hf hI (by simp [Zh]) (aO ?_)
 dsimp only [Zh];by_cases hr:r=0
 ·subst hr;have hBn:B=[]:=fq (by rw [hB];simp)
  subst hBn;have q1:decide (0<=(i:Int)+1/\(i:Int)+1<=((i+1:Nat):Int)/\0<=((i+1:Nat):Int)/\((i+1:Nat):Int)<=(c:Int)/\0<=(c:Int))=true:=af (by omega)
  have q2:decide (0<=(i:Int)/\(i:Int)<=((i+1:Nat):Int)/\0<=((i+1:Nat):Int)/\((i+1:Nat):Int)<=(c:Int)/\0<=(c:Int))=true:=af (by omega)
  have a2: ¬c=i:=by omega
  have a3:i+1-i=1:=by omega
  have k1:List.take (p+i*z) (Q++(A++X++S))=Q++A:=by
   grind
  have k2:List.drop (p+i*z+z) (Q++(A++X++S))=S:=by
   grind [jy,Iv,cm]
  have q3:decide (p+i*z+z<=(Q++(A++X++S)).length)=true:=af (by grind)
  simp only [go_sem,e0,t1,g1,g2,c1,c2,c4,hB,q1,q2,q3,a2,a3,k1,k2,hzl,hz1,zx,oD,pD,simprocAttr];simp only [dh] at hb3;exact aZ.ends (Ends.gH rfl rfl (by simp_all [dj,ak,o8]) rfl (by simp))
 ·have d0:decide (r=0)=false:=bw hr;have q1:decide (0<=(i:Int)+1/\(i:Int)+1<=((i+1+r:Nat):Int)/\0<=((i+1+r:Nat):Int)/\((i+1+r:Nat):Int)<=(c:Int)/\0<=(c:Int))=true:=af (by omega)
  have d1:decide (i+r<=c)=true:=af (by omega)
  have a1: ¬c=i+1:=by omega
  have k1:List.take (r*z) (List.drop (p+(i+1)*z) (Q++(A++(X++B)++S)))=B:=by
   rw [show Q++(A++(X++B)++S)=(Q++(A++X))++(B++S) by simp only [jy],Iv (by grind),HF hB]
  have a3:i+1+r-(i+r)=1:=by omega
  have q2:decide (0<=((i+r:Nat):Int)/\((i+r:Nat):Int)<=((i+1+r:Nat):Int)/\0<=((i+1+r:Nat):Int)/\((i+1+r:Nat):Int)<=(c:Int)/\0<=(c:Int))=true:=af (by omega)
  have a2: ¬c=i+r:=by omega
  obtain ⟨W,V,hWV,hW,hV⟩:=JK (X++B) (a:=r*z) (b:=z) (by grind)
  have k2:List.take (p+i*z) (Q++(A++(X++B)++S))=Q++A:=by
   grind
  have k3:List.drop (p+i*z+r*z) (Q++(A++(X++B)++S))=V++S:=by
   grind [jy,Iv,cm]
  have q3:decide (p+i*z+r*z<=(Q++(A++(X++B)++S)).length)=true:=af (by grind)
  have k4:List.take (p+(i+r)*z) (Q++A++B++(V++S))=Q++A++B:=HF (by grind)
  have k5:List.drop (p+(i+r)*z+z) (Q++A++B++(V++S))=S:=by
   grind [jy,Iv,cm]
  have q4:decide (p+(i+r)*z+z<=(Q++A++B++(V++S)).length)=true:=af (by grind)
  simp only [go_sem,e0,t1,g1,g2,c1,c2,d0,hB,q1,q2,q3,q4,d1,a1,a2,a3,k1,k2,k3,k4,k5,h1B,hzl,hz1,pD,simprocAttr];exact aZ.ends (Ends.gH rfl rfl (by simp_all [dj,ak,o8]) rfl (by simp))
end
end Go.Ab
