/- Texts laid as one. -/
import Derived.Test.YtibpegmighopbaaGreatDoorX3
import Derived.Test.YtibpegmighopbaaGreatDoorProg
set_option maxRecDepth 100000
set_option maxHeartbeats 20000000
set_option linter.unusedSimpArgs false
set_option linter.unusedVariables false
namespace Go.Ab
def ym:Ct
 |[.fz L m,.sl b o len cap],h,n=>(iO h b).bind fun k=>some (decide (0<L.length)&& !k.ro&&(match k.gr with|some z'=> !(Nat.beq z' 1)|none=>true)&&decide (o<k.cells.length),{v:= .b false,n,rd:=[b]})
 |_,_,_=>none
theorem OD {P:Program} {f:FuncId} {fn:Func} (hfy:f≠YB) (hf:P.funcs[f]? =some fn) (hname:(fn.name== "runtime.NumGoroutine")=false) (hb:fn.body.isNone=true) (hn:Extern.findNext fn=none) (he:Extern.find fn=some (Extern.SlicesOverlaps.overlaps fn.params fn.resultTypes))
 (hT:ahs P fn=true):aq P f ym:=fun args h n c E hc hct=>by
 obtain ⟨t,e,z,h0,ht,hz⟩: ∃t e z,fn.params[0]? =some t/\P.underlying t=some (.slice e)/\e9 P e=some z:=by
  unfold ahs at hT;split at hT
  ·rename_i t ht;split at hT
   ·rename_i e he;obtain ⟨z,hz⟩:=mK.1 hT;exact ⟨t,e,z,ht,he,hz⟩
   ·cases hT
  ·cases hT
 unfold ym at hc;split at hc
 ·rename_i L m b o len cap;simp only [af,aP,bq] at hc;obtain ⟨k,hk,h1,rfl⟩:=hc;obtain ⟨hk,hmp⟩:=dO hk;rw [hct] at h1;simp only [aw,aV,iH] at h1;obtain ⟨⟨⟨hL,hro⟩,hgr⟩,ho⟩:=h1;have hext:ext P f=true:=by unfold ext;rw [hf];exact hb
  refine ⟨by unfold bJ;rw [hf];simp [hb],bx _,fun b r hb=>by simp [dH] at hb,fun b k hb=>by simp [ab] at hb,fun D φ w us hfresh hH hA=> ?_⟩
  have hin:inl [b] b=true:=by simp [inl]
  have hkk:only (ab h) [b] b=some k:=by rw [ec hin];exact hk
  obtain ⟨u1,us1,rfl,hv1,hA1⟩:=hA.dZ;obtain ⟨u2,us2,rfl,hv2,hA2⟩:=hA1.dZ;rw [hA2.kK];obtain ⟨_,⟨⟨vs,elem,fr,q1,q2,q3,q4⟩,_⟩⟩:=hH.at_ b k hkk;have q1:=q1.cells hmp;have hgr':k.gr≠some 1:=fun e=>by rw [e] at hgr;cases hgr
  have hos:φ.off b+o<vs.size:=by
   obtain ⟨u,hu,_⟩:=q2 o _ (aY ho);rcases dw (φ.off b+o) vs.size with h'|h'
   ·exact h'
   ·rw [gw h'] at hu;cases hu
  have key: ∀a ca,(m≠0-> ∃a',a=some a'/\a'.block≠φ.cW b/\ ∃vs el fr,w.heap[a'.block]? =some (.cells vs el fr)/\vs.size≠0)→
   (callFunc f #[.slice a m ca,.slice (some ⟨φ.cW b,φ.off b+o,none⟩) len cap]).run P w= .ok (.value (.bool false)) w:=fun a ca ha=>by
   rw [run_callFunc_extern hf hname hb hn he,qJ w t e fn.resultTypes fn.params h0 ht z hz _ _ _ _ _ _ (fun hm hl=> ?_)]
   ·rfl
   ·obtain ⟨a',rfl,g1,g2⟩:=ha hm;exact ⟨a',_,rfl,rfl,g1,g2,vs,elem,fr,q1,(q3 hro).2 _ (.inl hos),(q3 hro).2 _ (.inr ⟨rfl,hgr'⟩)⟩
  have fin: ∀u1,(∃a ca,u1= .slice a m ca/\(m≠0-> ∃a',a=some a'/\a'.block≠φ.cW b/\ ∃vs el fr,w.heap[a'.block]? =some (.cells vs el fr)/\vs.size≠0))->rT P f [u1,.slice (some ⟨φ.cW b,φ.off b+o,none⟩) len cap].toArray w fun e w'=> ∃u φ',e= .returned u/\aI (Dn D n n) φ' (.b false) u/\dR D φ (only (ab h) [b]) w (Dn D n n) φ' (bX.app {v:= .b false,n,rd:=[b]} (only (ab h) [b])) w'∧
   (∀b' k,bX.app {v:= .b false,n,rd:=[b]} (only (ab h) [b]) b'=some k->k.ro=true->only (ab h) [b] b'=some k):=fun u1 hu=>by
   obtain ⟨a,ca,rfl,ha⟩:=hu;refine rT.Ss hfy hext (key a ca ha) ?_;have e:(bX.app {v:= .b false,n,rd:=[b]} (only (ab h) [b]))=only (ab h) [b]:=by funext b;rfl
   rw [e];have hd: ∀b,D b->Dn D n n b:=fun b h=> .inl h;refine ⟨_,φ,rfl,.b _,?_,fun b' k hb _=>hb⟩;have hR:=hH.grow hd;exact ⟨hd,dh.refl _ _,hR,FO.refl _ _ _,fun b k hb hk=> .inr ⟨b,k,hb,hk,rfl⟩,fun _ _ h=> .inl h⟩
  cases hv2 with
  |sl _ _ _ _ hD=>
  cases hv1 with
  |mI _ x ca hc0=>exact fin _ ⟨x,ca,rfl,fun h=>absurd rfl h⟩
  |fz _ _ B p ca vs1 hB hcap hs hh=>
   obtain ⟨e1,f1,g1⟩:=hH.fz B vs1 hB;exact fin _ ⟨_,ca,rfl,fun _=>⟨_,rfl,fun e=>hH.kD b k B vs1 hkk hro hB e.symm,vs1,e1,f1,g1,by have:=hs 0 hL;omega⟩⟩
 ·cases hc
def amW (P:Program) (f:FuncId) (post:List AV) (z c m m':Nat) (cs cs':List AV):Prop:= ∀p,
 (m'<=c/\ ∃T,bt P f (.sl 0 p m c::post) [(0,{cells:=gP p++(cs++gP ((c-m)*z)),gr:=some z})] 1 (.sl 0 p m' c) [(0,{cells:=gP p++(cs'++T),gr:=some z})] 1)∨
 bt P f (.sl 0 p m c::post) [(0,{cells:=gP p++(cs++gP ((c-m)*z)),gr:=some z})] 1 (.sg 1 0 m') [(1,{cells:=cs',gr:=some z})] 2
theorem Pb {D:Nat->Prop} {φ:bU} {h:Hp} {w:World} {z:Nat} {b o m:Nat} {u:Value} {cs:List AV} {rd:List Nat} {b':Nat} (hH:HR D φ (only (ab h) (b::rd)) w) (hx:aI D φ (.sg b o m) u) (hg:gvK h z (.sg b o m)=some (b',m,cs,true)):
 cs.length=m*z/\ ∃k p c elem fr vs,ab h b=some k/\k.ro=false/\m<=c/\u= .slice (some ⟨φ.cW b,p,none⟩) m c/\w.heap[φ.cW b]? =some (.cells vs elem fr)/\vs.size=p+c*z∧
  (∀(i:Nat) (a:AV),cs[i]? =some a-> ∃u,vs[p+i]? =some u/\aI D φ a u)/\(z≠1-> ∀i,i<=vs.size-> ¬(fr.1<=i/\i<fr.2)):=by
 have hin:inl (b::rd) b=true:=by simp [inl]
 cases hx with
 |sg _ _ _ j cap hD hj hcap hlen=>
  simp only [gvK,af,aP,bq,aw,iH,aV] at hg;obtain ⟨k,hk,rfl,_,rfl,⟨hro,hgr⟩,hl⟩:=hg;obtain ⟨hk,hmp⟩:=dO hk;have hkk:only (ab h) (b::rd) b=some k:=by rw [ec hin];exact hk
  obtain ⟨_,⟨⟨vs,elem,fr,q1,q2,q3,q4⟩,_⟩⟩:=hH.at_ b k hkk;have q1:=q1.cells hmp;split at hgr
  ·rename_i z' hz';have hz:=dC hgr;subst hz;obtain ⟨_,hes,hsz⟩:=q4 z hz';have ho:φ.cap b*z=o+cap*z:=by rw [<-hcap,dF,<-hj,hes]
   refine ⟨hl,k,φ.off b+o,cap,elem,fr,vs,hk,hro,hlen,rfl,q1,by omega,fun i a ha=> ?_,fun h1 i hi=>(q3 hro).2 i (by rw [hz'];rcases dw i vs.size with h'|h';exact .inl h';exact .inr ⟨Nat.le_antisymm hi h',by simpa using h1⟩)⟩
   simp only [aA,jA,iq] at ha;split at ha
   ·obtain ⟨u,h1,h2⟩:=q2 _ a ha;exact ⟨u,by rw [im];exact h1,h2⟩
   ·cases ha
  ·cases hgr
theorem ax.QA {P:Program} {f:FuncId} {post postF:List AV} {h:Hp} {n z b o m m':Nat} {cs cs':List AV} {rd:List Nat} (hc:Go.Ab.bJ P f=true) (hg:gvK h z (.sg b o m)=some (b,m,cs,true)) (hcs:ae 0 cs=true) (hcs':ae 0 cs'=true)
 (hv:xy h rd post postF) (hbr:inl rd b=false) (hz0:0<z) (hz1:z≠1) (hw:vO h rd=true)
 (hf: ∀c,m<=c->amW P f postF z c m m' cs cs'):ax P f (.sg b o m::post) h n {v:= .sg n 0 m',n:=n+1,rd:=b::rd,md:=jM (b::rd),nw:=[(n,{cells:=cs',gr:=some z})]}:=by
 have happ:(bX.app {v:= .sg n 0 m',n:=n+1,rd:=b::rd,md:=jM (b::rd),nw:=[(n,{cells:=cs',gr:=some z})]} (only (ab h) (b::rd)))=fun c=>if inl (b::rd) c=true then none else if c=n then some {cells:=cs',gr:=some z} else none:=by
  funext c;simp only [bX.app,jh,only,ab];by_cases hcn:c=n
  ·subst hcn;cases hi:inl (b::rd) c<;>simp
  ·cases hi:inl (b::rd) c<;>simp [bz hcn,hcn]
 refine ⟨hc,Nat.le_succ _,fun b' r hb=>(by rw [jh] at hb;split at hb;assumption;cases hb),fun c kk hc=> ?_,fun D φ w us hfresh hH hA=> ?_⟩
 ·simp only [ab] at hc;by_cases hcn:c=n
  ·subst hcn;show c<=c/\c<c+1;omega
  ·rw [bz hcn] at hc;cases hc
 have hnD: ¬D n:=hfresh n (bx _) (ez _);obtain ⟨ux,us',rfl,hx,hA'⟩:=hA.dZ;obtain ⟨hcl,k,p,c,elem,fr,vs,hk,hro,hmc,rfl,q1,q2,q3,q4⟩:=Pb hH hx hg;have q4:=q4 hz1;have hin:inl (b::rd) b=true:=by simp [inl]
 have hkk:only (ab h) (b::rd) b=some k:=by rw [ec hin];exact hk
 have hHr:HR D φ (only (ab h) rd) w:=A6 hH (fun c hc=>by rw [iQ];by_cases e:b=c<;>simp [e,hc])
 let D1:Nat->Prop:=fun x=>x=0;let φ1:bU:={(φ.nJ (only (ab h) rd) w) with cW:=fun _=>φ.cW b,off:=fun _=>p,cap:=fun _=>c,fK:=fun _=>z}
 have hnb: ∀B vs,φ1.fz B=some vs->φ.cW b≠B:=fun B vs hB=>by
  simp only [φ1,bU.nJ] at hB;split at hB
  ·rename_i hex;obtain ⟨b',k',hb',rfl⟩:=hex;have hbb:b≠b':=fun e=>by
    subst e;unfold only at hb';rw [hbr] at hb';cases hb'
   have hb2:only (ab h) (b::rd) b'=some k':=by
    unfold only at hb' ⊢;cases hi:inl rd b'
    ·rw [hi] at hb';cases hb'
    ·rw [iQ,aN hbb,hi];rw [hi] at hb';exact hb'
   exact hH.sep b b' k k' hbb hkk hb2 hro
  ·exact hH.kD b k B vs hkk hro hB
 have hfz1: ∀B vs,φ1.fz B=some vs-> ∃elem fr,w.heap[B]? =some (.cells vs elem fr):=fun B vs hB=>by
  simp only [φ1,bU.nJ] at hB;split at hB
  ·exact lP hB
  ·exact hH.fz B vs hB
 have hup: ∀{a:AV} {u:Value},aI (fun _=>False) (φ.nJ (only (ab h) rd) w) a u->aI D1 φ1 a u:=fun hv=>aI.tQ (D:=fun _=>False) (D':=D1) (φ:=φ.nJ (only (ab h) rd) w) (φ':=φ1) (fun _ h=>h.elim) (fun _ h=>h.elim) (fun _ _ h=>h) (fun _ _ h=>h) hv;have hcz:m*z+(c-m)*z=c*z:=by rw [<-dF];congr 1;omega
 have hcel: ∀(i:Nat) (a:AV),(gP 0++(cs++gP ((c-m)*z)))[i]? =some a-> ∃u,vs[p+i]? =some u/\aI D1 φ1 a u:=fun i a ha=>by
  replace ha:(cs++gP ((c-m)*z))[i]? =some a:=ha;have hlt:i<m*z+(c-m)*z:=by
   rcases dw i (cs++gP ((c-m)*z)).length with h'|h'
   ·simp only [dN,oE,hcl] at h';omega
   ·rw [fM h'] at ha;cases ha
  have hi:p+i<vs.size:=by omega
  by_cases c2:i<cs.length
  ·rw [qL c2] at ha;obtain ⟨u,h1,h2⟩:=q3 _ a ha;refine ⟨u,h1,hup ?_⟩;exact (h2.mono (D':=D) (fun _ h=>h) (bU.gD hHr D)).y7 (cX hcs a (bR ha))
  ·rw [v8 (by omega)] at ha
   cases JI ha;exact ⟨vs[p+i],Fe hi,.any _⟩
 have hH1:HR D1 φ1 (ab [(0,{cells:=gP 0++(cs++gP ((c-m)*z)),gr:=some z})]) w:=by
  refine ⟨⟨fun b' k' hb'=> ?_,fun b1 b2 k1 k2 hne h1 h2=> ?_⟩,hfz1,hH.lp,fun b' k' B vs' hb' _ hB=>hnb B vs' hB⟩
  ·simp only [ab] at hb';by_cases e:b'=0
   ·subst e;simp at hb';subst hb';refine ⟨rfl,⟨⟨vs,elem,(fr.1,fr.2),q1,fun i v hv=>hcel i v (by simpa using hv),fun _=>⟨fun h=>(by cases h),fun i hi=>q4 i (by rcases hi with hi|⟨hi,_⟩<;>omega)⟩,fun e he=> ?_⟩,fun g hg=>by cases hg⟩⟩
    simp at he;subst he;exact ⟨rfl,rfl,q2⟩
   ·rw [bz e] at hb';cases hb'
  ·simp only [ab] at h1 h2;by_cases e1:b1=0
   ·by_cases e2:b2=0
    ·exact absurd (e1.trans e2.symm) hne
    ·rw [bz e2] at h2;cases h2
   ·rw [bz e1] at h1;cases h1
 have hA1:cJ D1 φ1 (.sl 0 0 m c::postF) (.slice (some ⟨φ.cW b,p,none⟩) m c::us'):=by
  refine .cons ?_ ⟨by rw [<-hv.len];exact hA'.1,fun i a u ha hu=> ?_⟩
  ·have:=aI.sl (D:=D1) (φ:=φ1) 0 0 m c rfl;simpa [φ1] using this
  ·obtain ⟨a',h1,h2⟩:=hv.get ha;exact hup (h2 D _ φ w u hHr (hA'.2 i a' u h1 hu))
 -- both ends in one form
 have key:rT P f (Value.slice (some ⟨φ.cW b,p,none⟩) m c::us').toArray w fun e w'=> ∃D' φ2 H2 r k2 cap u,e= .returned u/\dR D1 φ1 (ab [(0,{cells:=gP 0++(cs++gP ((c-m)*z)),gr:=some z})]) w D' φ2 H2 w'/\H2 r=some k2/\(k2.gr,k2.mp)=(some z,none)/\(∀(i:Nat) (a:AV),cs'[i]? =some a->k2.cells[i]? =some a)/\u= .slice (some ⟨φ2.cW r,φ2.off r,none⟩) m' cap/\cap=φ2.cap r/\m'<=cap:=by
  rcases hf c hmc 0 with ⟨hm',T,hF⟩|hF
  ·refine (hF D1 φ1 w _ (fun b hb=>by cases hb;exact ez _) hH1 hA1).mono fun e w' hx=> ?_
   obtain ⟨D',φ2,u,rfl,hD',hr,hS⟩:=hx;cases hr with
   |sl _ _ _ _ hd=>
    refine ⟨D',φ2,_,0,{cells:=gP 0++(cs'++T),gr:=some z},c,_,rfl,hS,by simp [ab],rfl,fun i a ha=> ?_,rfl,?_,hm'⟩
    ·show (cs'++T)[i]? =some a;rw [qL (eK.1 ha).1];exact ha
    ·exact ((hS.agree.at_ 0 rfl).2.2.1).symm
  ·refine (hF D1 φ1 w _ (fun b hb=>by cases hb;exact ez _) hH1 hA1).mono fun e w' hx=> ?_
   obtain ⟨D',φ2,u,rfl,hD',hr,hS⟩:=hx;have hb1:=hS.hr.at_ 1 {cells:=cs',gr:=some z} (by simp [ab])
   obtain ⟨_,⟨⟨vs',elem',fr',r1,r2,r3,r4⟩,_⟩⟩:=hb1;obtain ⟨_,hes,_⟩:=r4 z rfl;cases hr with
   |sg _ _ _ j cap hd hj hcap hl=>
    rw [hes] at hj;have hj0:j=0:=by
     rcases AZ j with h|h
     ·exact h
     ·have:=Nat.mul_pos h hz0;omega
    subst hj0;exact ⟨D',φ2,_,1,{cells:=cs',gr:=some z},cap,_,rfl,hS,by simp [ab],rfl,fun i a ha=>ha,rfl,by omega,hl⟩
 refine key.mono fun e w' hx=> ?_;obtain ⟨D',φ2,H2,r,k2,cap,u,rfl,hS,hr2,hgr2,hcell,rfl,hcap,hm'⟩:=hx;obtain ⟨hgr2,hmp2⟩:=s9 hgr2;obtain ⟨hDr,⟨⟨vs',elem',fr',r1,r2,r3,r4⟩,r5⟩⟩:=hS.hr.at_ r k2 hr2;rw [hmp2] at r1;obtain ⟨hro2,hes2,hsz2⟩:=r4 z hgr2;let φ3:bU:={cW:=fun x=>if x=n then φ2.cW r else φ.cW x,off:=fun x=>if x=n then φ2.off r else φ.off x,cap:=fun x=>if x=n then φ2.cap r else φ.cap x,fK:=fun x=>if x=n then z else φ.fK x,fz:=φ2.fz,lp:=φ2.lp}
 have ag3: ∀b,D b->φ3.cW b=φ.cW b/\φ3.off b=φ.off b/\φ3.cap b=φ.cap b/\φ3.fK b=φ.fK b:=fun b hb=>by
  have:b≠n:=fun e=>hnD (e▸hb);simp [φ3,this]
 have hst: ∀c,c<w.heap.size->φ.cW b≠c->w'.heap[c]? =w.heap[c]? :=fun c hc hne=>hS.eC.block c hc (fun b' k' hb' _=>by
  simp only [ab] at hb';by_cases e:b'=0
  ·exact hne
  ·rw [bz e] at hb';cases hb')
 have h3: ∀(i:Nat) (a:AV),cs'[i]? =some a-> ∃u,vs'[φ2.off r+i]? =some u/\aI (Dn D n (n+1)) φ3 a u:=fun i a ha=>by
  obtain ⟨u,hu,hur⟩:=r2 i a (hcell i a ha);refine ⟨u,hu,?_⟩;have h1:aI (fun _=>False) φ2 a u:=hur.y7 (cX hcs' a (bR ha));exact aI.tQ (φ:=φ2) (φ':=φ3) (fun _ h=>h.elim) (fun _ h=>h.elim) (fun _ _ h=>h) (fun _ _ h=>h) h1
 have himg:w.heap.size<=φ2.cW r\/φ.cW b=φ2.cW r:=by
  rcases hS.oY r k2 hr2 hro2 with h1|⟨m0,km,h1,_,h2⟩
  ·exact .inl h1
  ·exact .inr h2
 refine ⟨_,φ3,rfl,?_,?_,fun c kk hc hk=> ?_⟩
 ·have:=aI.sg (D:=Dn D n (n+1)) (φ:=φ3) n 0 m' 0 cap (.inr ⟨bx _,ez _⟩) (by simp) (by simp [φ3,hcap]) hm'
  simpa [φ3] using this
 ·show dR D φ _ w (Dn D n (n+1)) φ3 (bX.app _ _) w';rw [happ];have ag1:=bU.gD hHr D;have get: ∀{c kk},(if inl (b::rd) c=true then none else if c=n then some {cells:=cs',gr:=some z} else none:Option aW)=some kk->c=n/\kk={cells:=cs',gr:=some z}:=fun {c kk} hc=>by
   split at hc
   ·cases hc
   ·split at hc
    ·rename_i e;cases hc;exact ⟨e,rfl⟩
    ·cases hc
  refine ⟨fun b h=> .inl h,⟨ag3,fun B vs hB=>hS.agree.fz B vs (ag1.fz B vs hB),hS.agree.lp⟩,⟨⟨fun c kk hc=> ?_,fun b1 b2 k1 k2 hne h1 h2 _=>absurd ((get h1).1.trans (get h2).1.symm) hne⟩,hS.hr.fz,hS.hr.lp,fun c kk B vs hc _ hB=> ?_⟩,
   ⟨hS.eC.os,hS.eC.tape,hS.eC.output,hS.eC.size,fun c hc hne=>hst c hc (hne b k hkk hro)⟩,fun c kk hc _=> ?_,fun B vs hB=> ?_⟩
  ·obtain ⟨rfl,rfl⟩:=get hc;refine ⟨.inr ⟨bx _,ez _⟩,⟨⟨vs',elem',fr',by simpa [φ3] using r1,fun i v hv=> ?_,fun _=>⟨fun h=>(by cases h),fun i hi=>(r3 hro2).2 i (by rw [hgr2];exact hi)⟩,fun e he=> ?_⟩,fun g hg=>by cases hg⟩⟩
   ·obtain ⟨u,h1,h2⟩:=h3 i v hv;exact ⟨u,by simpa [φ3] using h1,h2⟩
   ·simp at he;subst he;exact ⟨rfl,by simp [φ3],by simpa [φ3] using hsz2⟩
  ·obtain ⟨rfl,rfl⟩:=get hc;have:=hS.hr.kD r k2 B vs hr2 hro2 hB;simpa [φ3] using this
  ·obtain ⟨rfl,rfl⟩:=get hc;rcases himg with h1|h1
   ·left;simpa [φ3] using h1
   ·right;exact ⟨b,k,hkk,hro,by simpa [φ3] using h1⟩
  ·rcases hS.jO B vs hB with h1|h1|⟨m',km,h1,h2,h3⟩
   ·simp only [φ1,bU.nJ] at h1;split at h1
    ·rename_i hx;obtain ⟨b',k',hbk,hB'⟩:=hx;right;right;have hi:inl rd b'=true:=by
      cases hi:inl rd b'
      ·unfold only at hbk;rw [hi] at hbk;cases hbk
      ·rfl
     have hbk':ab h b'=some k':=by unfold only at hbk;rw [hi] at hbk;exact hbk
     refine ⟨b',k',?_,qX hw hi hbk',hB'⟩;unfold only;have:inl (b::rd) b'=true:=by
      rw [iQ];by_cases e:b=b'
      ·rw [aM e]
      ·rw [aN e];exact hi
     rw [this];exact hbk'
    ·exact .inl h1
   ·exact .inr (.inl h1)
   ·right;right;exact ⟨b,k,hkk,hro,h3⟩
 ·rw [happ] at hc;dsimp only at hc;split at hc
  ·cases hc
  ·split at hc
   ·cases hc;cases hk
   ·cases hc
theorem ax.agO {P:Program} {f:FuncId} {args argsF:List AV} {h:Hp} {n:Nat} {rd:List Nat} {z m:Nat} {cs:List AV} (hc:Go.Ab.bJ P f=true)
 (hv:xy h rd args argsF) (hb:ae 0 cs=true) (hw:vO h rd=true) (hf:bt P f argsF [] 0 (.sg 0 0 m) [(0,{cells:=cs,gr:=some z})] 1):ax P f args h n {v:= .sg n 0 m,n:=n+1,rd,md:=jM rd,nw:=[(n,{cells:=cs,gr:=some z})]}:=by
 have happ:(bX.app {v:= .sg n 0 m,n:=n+1,rd,md:=jM rd,nw:=[(n,{cells:=cs,gr:=some z})]} (only (ab h) rd))=fun c=>if inl rd c=true then none else if c=n then some {cells:=cs,gr:=some z} else none:=by
  funext c;simp only [bX.app,jh,only,ab];by_cases hcn:c=n
  ·subst hcn;cases hi:inl rd c<;>simp
  ·cases hi:inl rd c<;>simp [bz hcn,hcn]
 refine ⟨hc,Nat.le_succ _,fun b r hb=>(by rw [jh] at hb;by_cases hi:inl rd b=true;exact hi;rw [aN hi] at hb;cases hb),fun c kk hc=> ?_,fun D φ w us hfresh hH hA=> ?_⟩
 ·simp only [ab] at hc;by_cases hcn:c=n
  ·subst hcn;show c<=c/\c<c+1;omega
  ·rw [bz hcn] at hc;cases hc
 have hnD: ¬D n:=hfresh n (bx _) (ez _);let φ1:=φ.nJ (only (ab h) rd) w;have hH1:HR (fun _=>False) φ1 (ab []) w:=⟨⟨fun b k hb=>by simp [ab] at hb,fun b1 b2 k1 k2 _ hb=>by simp [ab] at hb⟩,fun B vs hB=>by
  simp only [φ1,bU.nJ] at hB;split at hB
  ·exact lP hB
  ·exact hH.fz B vs hB,hH.lp,fun b k B vs hb=>by simp [ab] at hb⟩
 have hA1:cJ (fun _=>False) φ1 argsF us:=⟨by rw [<-hv.len];exact hA.1,fun i a u ha hu=>by
  obtain ⟨a',h1,h2⟩:=hv.get ha;exact h2 D _ φ w u hH (hA.2 i a' u h1 hu)⟩
 refine (hf (fun _=>False) φ1 w us (fun _ h=>h.elim) hH1 hA1).mono fun e w' hx=> ?_;obtain ⟨D',φ2,u,rfl,hD',hr,hS⟩:=hx;obtain ⟨hDr,⟨⟨vs',elem',fr',r1,r2,r3,r4⟩,r5⟩⟩:=hS.hr.at_ 0 {cells:=cs,gr:=some z} (by simp [ab])
 have hr2:ab [(0,({cells:=cs,gr:=some z}:aW))] 0=some {cells:=cs,gr:=some z}:=by simp [ab]
 obtain ⟨hro2,hes2,hsz2⟩:=r4 z rfl;have ag1:=bU.gD hH D;let φ3:bU:={cW:=fun x=>if x=n then φ2.cW 0 else φ.cW x,off:=fun x=>if x=n then φ2.off 0 else φ.off x,cap:=fun x=>if x=n then φ2.cap 0 else φ.cap x,fK:=fun x=>if x=n then φ2.fK 0 else φ.fK x,fz:=φ2.fz,lp:=φ2.lp}
 have ag3: ∀b,D b->φ3.cW b=φ.cW b/\φ3.off b=φ.off b/\φ3.cap b=φ.cap b/\φ3.fK b=φ.fK b:=fun b hb=>by
  have:b≠n:=fun e=>hnD (e▸hb);simp [φ3,this]
 have hst: ∀c,c<w.heap.size->w'.heap[c]? =w.heap[c]? :=fun c hc=>hS.eC.block c hc (fun b k hb=>by simp [ab] at hb)
 have h3: ∀(i:Nat) (a:AV),cs[i]? =some a-> ∃u,vs'[φ2.off 0+i]? =some u/\aI (Dn D n (n+1)) φ3 a u:=fun i a ha=>by
  obtain ⟨u,hu,hur⟩:=r2 i a ha;refine ⟨u,hu,?_⟩;have h1:aI (fun _=>False) φ2 a u:=hur.y7 (cX hb a (bR ha));exact aI.tQ (φ:=φ2) (φ':=φ3) (fun _ h=>h.elim) (fun _ h=>h.elim) (fun _ _ h=>h) (fun _ _ h=>h) h1
 have himg:w.heap.size<=φ2.cW 0:=by
  rcases hS.oY 0 _ hr2 hro2 with h1|⟨m0,km,h1,_,h2⟩
  ·exact h1
  ·simp [ab] at h1
 refine ⟨u,φ3,rfl,?_,?_,fun c kk hc hk=> ?_⟩
 ·have:aI (fun x=>x=0) φ2 (.sg 0 0 m) u:=by
   cases hr with
   |sg _ _ _ j cap hd hj hcap hl=>exact .sg 0 0 m j cap rfl hj hcap hl
  cases this with
  |sg _ _ _ j cap hd hj hcap hl=>
   have:=aI.sg (D:=Dn D n (n+1)) (φ:=φ3) n 0 m j cap (.inr ⟨bx _,ez _⟩) (by simpa [φ3] using hj) (by simpa [φ3] using hcap) hl
   simpa [φ3] using this
 ·show dR D φ _ w (Dn D n (n+1)) φ3 (bX.app _ _) w';rw [happ];have get: ∀{c kk},(if inl rd c=true then none else if c=n then some {cells:=cs,gr:=some z} else none:Option aW)=some kk->c=n/\kk={cells:=cs,gr:=some z}:=fun {c kk} hc=>by
   split at hc
   ·cases hc
   ·split at hc
    ·rename_i e;cases hc;exact ⟨e,rfl⟩
    ·cases hc
  refine ⟨fun b h=> .inl h,⟨ag3,fun B vs hB=>hS.agree.fz B vs (ag1.fz B vs hB),hS.agree.lp⟩,⟨⟨fun c kk hc=> ?_,fun b1 b2 k1 k2 hne h1 h2 _=>absurd ((get h1).1.trans (get h2).1.symm) hne⟩,hS.hr.fz,hS.hr.lp,fun c kk B vs hc _ hB=> ?_⟩,
   ⟨hS.eC.os,hS.eC.tape,hS.eC.output,hS.eC.size,fun c hc _=>hst c hc⟩,fun c kk hc _=> ?_,fun B vs hB=> ?_⟩
  ·obtain ⟨rfl,rfl⟩:=get hc;refine ⟨.inr ⟨bx _,ez _⟩,⟨⟨vs',elem',fr',by simpa [φ3] using r1,fun i v hv=> ?_,fun _=>⟨fun h=>(by cases h),fun i hi=>(r3 rfl).2 i hi⟩,fun e he=> ?_⟩,fun g hg=>by cases hg⟩⟩
   ·obtain ⟨u,h1,h2⟩:=h3 i v hv;exact ⟨u,by simpa [φ3] using h1,h2⟩
   ·simp at he;subst he;exact ⟨rfl,by simpa [φ3] using hes2,by simpa [φ3] using hsz2⟩
  ·obtain ⟨rfl,rfl⟩:=get hc;have:=hS.hr.kD 0 _ B vs hr2 hro2 hB;simpa [φ3] using this
  ·obtain ⟨rfl,rfl⟩:=get hc;left;simpa [φ3] using himg
  ·rcases hS.jO B vs hB with h1|h1|⟨m,km,h1,_⟩
   ·simp only [φ1,bU.nJ] at h1;split at h1
    ·rename_i hx;obtain ⟨b,k,hbk,hB'⟩:=hx;right;right;refine ⟨b,k,hbk,?_,hB'⟩;simp only [only] at hbk;cases hi:inl rd b
     ·rw [hi] at hbk;cases hbk
     ·rw [hi] at hbk;exact qX hw hi hbk
    ·exact .inl h1
   ·exact .inr (.inl h1)
   ·simp [ab] at h1
 ·rw [happ] at hc;dsimp only at hc;split at hc
  ·cases hc
  ·split at hc
   ·cases hc;cases hk
   ·cases hc
section
variable {P:Program} {α:Type} {row:α->List AV} {z bytes:Nat} {zs:List AV} {f fo fr:FuncId} {fn:Func}
theorem OZ (hm:P.follows .mixedOrders=true) (hf:P.funcs[f]? =some fn) (hI:aK P fn=some (sG z bytes zs fo fr)) (hlen: ∀a,(row a).length=z) (hbel: ∀a,ae 0 (row a)=true) (xs:List α) (h0:0<xs.length) (hg:bytes*xs.length<=aE):
 bt P f [.ns,.i .i64 0,.fz (rows row xs) xs.length] [] 0 (.sg 0 0 xs.length) [(0,{cells:=rows row xs,gr:=some z})] 1:=by
 refine bt.dU (cx:=bZ []) Sound.nil hm hf hI (by simp [sG]) (aQ ?_)
 dsimp only [sG];have hl:(rows row xs).length=xs.length*z:=aT hlen;have hb:ae 0 (rows row xs)=true:=bN hbel;generalize rows row xs=L at*;have e1:((xs.length:Int)==0)=false:=by rw [wT];omega
 have e2:decide (xs.length=0)=false:=cN (by omega)
 have e3:decide (bytes*xs.length<=aE)=true:=ah hg;have e4:List.take (xs.length*z) L=L:=h9 (by omega)
 simp only [go_sem,e1,e2,e3,e4,hl,fy,simprocAttr];exact bw.ends (Ends.K7 (b:=0) (bx _) rfl rfl rfl hb rfl)
theorem Nw (hm:P.follows .mixedOrders=true) (hf:P.funcs[f]? =some fn) (hI:aK P fn=some (sG z bytes zs fo fr)) (ho:aq P fo ym) (hlen: ∀a,(row a).length=z) (hz0:0<z) (hz1:z≠1) (hzl:zs.length=z) (hbel: ∀a,ae 0 (row a)=true) (hone: ∀a,aX (row a)=true)
 (l xs:List α) (i c:Nat) (hi:i<=l.length) (hc:l.length<=c) (h0:0<xs.length) (hg:bytes*(l.length+xs.length)<=aE) (hbig:l.length+xs.length<=9223372036854775807):
 amW P f [.i .i64 i,.fz (rows row xs) xs.length] z c l.length (l.length+xs.length) (rows row l) (rows row (pK l xs i)):=by
 intro p;have hzb:Nat.beq z 1=false:=bz (fun e=>hz1 e.symm);have hT:Sound P (bZ [(fo,ym)]):=Sound.cons ho Sound.nil;have hl:(rows row xs).length=xs.length*z:=aT hlen;have hb:ae 0 (rows row xs)=true:=bN hbel;have h1:aX (rows row xs)=true:=fF hone _;have hlL:(rows row l).length=l.length*z:=aT hlen;have hbL:ae 0 (rows row l)=true:=bN hbel;have h1A:aX (rows row (l.take i))=true:=fF hone _;have h1B:aX (rows row (l.drop i))=true:=fF hone _;have hAB:rows row l=rows row (l.take i)++rows row (l.drop i):=by rw [<-df,kQ]
 have hA:(rows row (l.take i)).length=i*z:=by rw [aT hlen,gO,oK hi]
 have hB:(rows row (l.drop i)).length=(l.length-i)*z:=by rw [aT hlen,qi]
 have hb3:ae 0 (rows row (pK l xs i))=true:=bN hbel;have hins:rows row (pK l xs i)=rows row (l.take i)++(rows row xs++rows row (l.drop i)):=by rw [pK,df,df]
 rw [hins] at hb3 ⊢;rw [hAB] at hbL hlL ⊢;have hb0:=hb3;have hb3:=aD (m:=1) _ hb3;generalize rows row (l.take i)=A at*;generalize rows row (l.drop i)=B at*;generalize rows row xs=X at*;generalize l.length=N at*;generalize xs.length=m at*;clear hins hAB;have hAn:(gP p).length=p:=oE;have hQb:ae 1 (gP p)=true:=oL;have hSb:ae 1 (gP ((c-N)*z))=true:=oL;have hSn:(gP ((c-N)*z)).length=(c-N)*z:=oE;generalize gP ((c-N)*z)=S at*;generalize gP p=Q at*;have hNz:i*z+(N-i)*z=N*z:=by rw [<-dF];congr 1;omega
 have e1:((m:Int)==0)=false:=by rw [wT];omega
 have e2:decide (m=0)=false:=cN (by omega)
 have e3:decide (bytes*(N+m)<=aE)=true:=ah hg;have e4:List.take (m*z) X=X:=h9 (by omega)
 have e5:decide (0<=(i:Int)/\(i:Int)<=(N:Int)/\0<=(N:Int)/\(N:Int)<=(c:Int)/\0<=(c:Int))=true:=ah (by omega)
 have w1:IntKind.i64.wrap ((N:Int)+(m:Int))=((N+m:Nat):Int):=by rw [bS (by omega) (by omega)];omega
 have w2:IntKind.i64.wrap (((N+m:Nat):Int)-(i:Int))=((N+m-i:Nat):Int):=by rw [bS (by omega) (by omega)];omega
 have w3:IntKind.i64.wrap ((i:Int)+(m:Int))=((i+m:Nat):Int):=by rw [bS (by omega) (by omega)];omega
 have hcz:N*z+(c-N)*z=c*z:=by rw [<-dF];congr 1;omega
 rcases dw i N with hlt|hge
 ·have d1:((i:Int)==(N:Int))=false:=by rw [wT];omega
  by_cases hroom:N+m<=c
  · -- there is room
    have d2:decide ((c:Int)<((N+m:Nat):Int))=false:=cN (by omega)
    have a2: ¬c=i:=by omega
    have a3: ¬c=0:=by omega
    have a4: ¬c=i+m:=by omega
    have him:(i+m)*z=i*z+m*z:=dF _ _ _;have hZz:(N+m-i)*z=(N-i)*z+m*z:=by rw [<-dF];congr 1;omega
    have hcm:(c-N)*z=m*z+(c-N-m)*z:=by rw [<-dF];congr 1;omega
    obtain ⟨Y,S2,rfl,hY,hS2⟩:=Il S (hSn.trans hcm)
    -- what lies behind the place,parted where the tail will come to lie
    obtain ⟨W,V,hWV,hW,hV⟩:=Il (B++Y) (a:=m*z) (b:=(N-i)*z) (by rw [dN];omega)
    have k1:List.take ((N+m-i)*z) (List.drop (p+i*z) (Q++(A++B++(Y++S2))))=B++Y:=by
     rw [show Q++(A++B++(Y++S2))=(Q++A)++((B++Y)++S2) by simp only [fG],Fh (by rw [dN];omega),Cv (by rw [dN];omega)]
    have k2:List.take ((N-i)*z) (B++Y)=B:=Cv hB;have k3:List.take (p+(i+m)*z) (Q++(A++B++(Y++S2)))=Q++(A++W):=by
     rw [show Q++(A++B++(Y++S2))=(Q++(A++W))++(V++S2) by
      have:A++B++(Y++S2)=A++((B++Y)++S2):=by simp only [fG]
      rw [this,hWV];simp only [fG]]
     exact Cv (by simp only [dN];omega)
    have k4:List.drop (p+(i+m)*z+(N-i)*z) (Q++(A++B++(Y++S2)))=S2:=by
     rw [show Q++(A++B++(Y++S2))=(Q++(A++(B++Y)))++S2 by simp only [fG]]
     exact Fh (by simp only [dN];omega)
    have k5:List.take (p+i*z) (Q++(A++W)++B++S2)=Q++A:=by
     rw [show Q++(A++W)++B++S2=(Q++A)++(W++(B++S2)) by simp only [fG]]
     exact Cv (by simp only [dN];omega)
    have k6:List.drop (p+i*z+m*z) (Q++(A++W)++B++S2)=B++S2:=by
     rw [show Q++(A++W)++B++S2=(Q++(A++W))++(B++S2) by simp only [fG]]
     exact Fh (by simp only [dN];omega)
    have i1:(if N+m-i<=N+m-(i+m) then N+m-i else N+m-(i+m))=N-i:=by rw [aN (by omega)];omega
    have i2:(if m<=N+m-i then m else N+m-i)=m:=aM (by omega)
    have hXp:0<X.length:=by rw [hl];exact Nat.mul_pos h0 hz0
    have hBp:0<(N-i)*z:=Nat.mul_pos (by omega) hz0
    have hHl:(Q++(A++B++(Y++S2))).length=p+(i*z+((N-i)*z+(m*z+(c-N-m)*z))):=by simp only [dN];omega
    have c1:decide (0<=((N+m:Nat):Int)/\((N+m:Nat):Int)<=(c:Int))=true:=ah (by omega)
    have c2:decide (0<=((i+m:Nat):Int)/\((i+m:Nat):Int)<=((N+m:Nat):Int)/\0<=((N+m:Nat):Int)/\((N+m:Nat):Int)<=(c:Int)/\0<=(c:Int))=true:=ah (by omega)
    have c3:decide (0<m*z)=true:=ah (Nat.mul_pos h0 hz0);have c4:decide (p+(i+m)*z<(Q++(A++B++(Y++S2))).length)=true:=ah (by rw [hHl];omega)
    have c5:decide (0<=(i:Int)/\(i:Int)<=((N+m:Nat):Int)/\0<=((N+m:Nat):Int)/\((N+m:Nat):Int)<=(c:Int)/\0<=(c:Int))=true:=ah (by omega)
    have c6:decide ((B++Y).length=(N+m-i)*z)=true:=ah (by rw [dN];omega)
    have c7:decide (p+(i+m)*z+(N-i)*z<=(Q++(A++B++(Y++S2))).length)=true:=ah (by rw [hHl];omega)
    have c8:decide (p+i*z+m*z<=(Q++(A++W)++B++S2).length)=true:=ah (by simp only [dN];omega)
    have c9:0<1:=Nat.one_pos;refine .inl ⟨hroom,S2,?_⟩;refine bt.dU hT hm hf hI (by simp [sG]) (aQ ?_)
    dsimp only [sG];simp only [go_sem,e1,e2,e4,e5,hl,fy,w1,w2,w3,d1,d2,a2,a3,a4,bV,h1,h1B,hA,hB,i1,i2,k1,k2,k3,k4,k5,k6,ym,hzb,c1,c2,c3,c4,c5,c6,c7,c8,c9,simprocAttr];exact bw.ends (Ends.gu rfl rfl (by simp only [eY,aw] at hSb hb3 hQb ⊢;simp only [hSb,hb3,hQb,pU]) rfl (by simp only [fG]))
  · -- a new row
    have d2:decide ((c:Int)<((N+m:Nat):Int))=true:=ah (by omega)
    have a1:i+(N+m-i)=N+m:=by omega
    have a2: ¬c=i:=by omega
    have t1:List.take (i*z) (List.drop p (Q++(A++B++S)))=A:=by rw [Fh hAn,fG,Cv hA]
    have t2:List.take ((N-i)*z) (List.drop (p+i*z) (Q++(A++B++S)))=B:=by
     rw [show Q++(A++B++S)=(Q++A)++(B++S) by simp only [fG],Fh (by rw [dN];omega),Cv hB]
    have hZ:(dI zs (N+m-i)).length=(N+m-i)*z:=by
     generalize N+m-i=r;induction r with
     |zero=>simp [dI]
     |succ r ih=>simp [dI,ih,hzl,oa];omega
    generalize hZe:dI zs (N+m-i)=Z at*;have hZz:(N+m-i)*z=m*z+(N-i)*z:=by rw [<-dF];congr 1;omega
    have hNm:(N+m)*z=i*z+(m*z+(N-i)*z):=by rw [<-dF,<-dF];congr 1;omega
    have him:(i+m)*z=i*z+m*z:=dF _ _ _;obtain ⟨Z1,Z2,rfl,hZ1,hZ2⟩:=Il Z (hZ.trans hZz);have i1:(if m<=N+m-i then m else N+m-i)=m:=aM (by omega)
    have i2:(if N-i<=N+m-(i+m) then N-i else N+m-(i+m))=N-i:=aM (by omega)
    have e6:List.take ((N-i)*z) B=B:=h9 (by omega)
    have s1:List.take (i*z) (A++(Z1++Z2))=A:=Cv hA;have s2:List.drop (i*z+m*z) (A++(Z1++Z2))=Z2:=by rw [<-fG];exact Fh (by rw [dN];omega)
    have s3:List.take ((i+m)*z) (A++X++Z2)=A++X:=Cv (by rw [dN];omega)
    have s4:List.drop ((i+m)*z+(N-i)*z) (A++X++Z2)=[]:=rN (by simp only [dN];omega)
    have c1:decide (0<=(i:Int)/\(i:Int)<=(c:Int))=true:=ah (by omega)
    have c2:decide (0<((N+m-i:Nat):Int))=true:=ah (by omega)
    have c3:decide (c<N+m)=true:=ah (by omega)
    have c4:decide (0<=(i:Int)/\(i:Int)<=((N+m:Nat):Int)/\0<=((N+m:Nat):Int))=true:=ah (by omega)
    have c5:decide (i=0\/i<N+m)=true:=ah (by omega)
    have c6:decide (i*z+m*z<=(A++(Z1++Z2)).length)=true:=ah (by simp only [dN];omega)
    have c7:decide (0<=((i+m:Nat):Int)/\((i+m:Nat):Int)<=((N+m:Nat):Int)/\0<=((N+m:Nat):Int))=true:=ah (by omega)
    have c8:decide (i+m=0\/i+m<N+m)=true:=ah (by omega)
    have c9:decide ((i+m)*z+(N-i)*z<=(A++X++Z2).length)=true:=ah (by simp only [dN];omega)
    refine .inr ?_;refine bt.dU hT hm hf hI (by simp [sG]) (aQ ?_)
    dsimp only [sG];simp only [go_sem,e1,e2,e3,e4,e5,e6,hl,hlL,fy,w1,w2,w3,d1,d2,a1,a2,t1,t2,bV,h1,h1B,hA,hB,hZe,i1,i2,s1,s2,s3,s4,c1,c2,c3,c4,c5,c6,c7,c8,c9,simprocAttr];exact bw.ends (Ends.K7 (b:=1) (bx _) rfl rfl rfl hb0 (by simp only [fG]))
 · -- at the end
   obtain rfl:i=N:=by omega
   have hBn:B=[]:=jG (by rw [hB];simp)
   subst hBn;have d1:((i:Int)==(i:Int))=true:=ql _;simp only [cM] at hb3 hb0 ⊢;have e8:decide (0<=(i:Int)/\0<=(i:Int)/\(i:Int)<=(c:Int)/\0<=(c:Int))=true:=ah (by omega)
   by_cases hroom:i+m<=c
   ·have r1:decide (i+m<=c)=true:=ah hroom;have hcm:(c-i)*z=m*z+(c-i-m)*z:=by rw [<-dF];congr 1;omega
    obtain ⟨Y,S2,rfl,hY,hS2⟩:=Il S (hSn.trans hcm);have k1:List.take (p+i*z) (Q++(A++(Y++S2)))=Q++A:=by
     rw [<-fG];exact Cv (by simp only [dN];omega)
    have k2:List.drop (p+i*z+m*z) (Q++(A++(Y++S2)))=S2:=by
     rw [show Q++(A++(Y++S2))=(Q++(A++Y))++S2 by simp]
     exact Fh (by simp only [dN];omega)
    have c1:decide (p+i*z+m*z<=(Q++(A++(Y++S2))).length)=true:=ah (by simp only [dN];omega)
    refine .inl ⟨hroom,S2,?_⟩;refine bt.dU hT hm hf hI (by simp [sG]) (aQ ?_)
    dsimp only [sG];simp only [go_sem,e1,e2,e3,e4,e8,hl,fy,d1,r1,h1,k1,k2,c1,simprocAttr];exact bw.ends (Ends.gu rfl rfl (by simp only [eY,aw] at hSb hb3 hQb ⊢;simp only [hSb,hb3,hQb,pU]) rfl (by simp only [fG]))
   ·have r1:decide (i+m<=c)=false:=cN hroom;have t1:List.take (i*z) (List.drop p (Q++(A++S)))=A:=by rw [Fh hAn,Cv hA]
    have c2:decide (i<=c)=true:=ah hc;refine .inr ?_;refine bt.dU hT hm hf hI (by simp [sG]) (aQ ?_)
    dsimp only [sG];simp only [go_sem,e1,e2,e3,e4,e8,hl,hA,fy,d1,r1,h1,t1,c2,simprocAttr];exact bw.ends (Ends.K7 (b:=1) (bx _) rfl rfl rfl hb0 (by simp only [fG]))
end
end Go.Ab
namespace Go.Ab
section
variable {P:Program} {α:Type} {row:α->List AV} {z bytes:Nat} {zs:List AV} {f:FuncId} {fn:Func}
theorem Ot (hm:P.follows .mixedOrders=true) (hf:P.funcs[f]? =some fn) (hI:aK P fn=some (TP z bytes zs)) (hlen: ∀a,(row a).length=z) (hz0:0<z) (hz1':z≠1) (hzl:zs.length=z) (hz1:aX zs=true) (hzB:ae 0 zs=true) (hbel: ∀a,ae 0 (row a)=true) (hone: ∀a,aX (row a)=true)
 (l:List α) (i p c:Nat) (hi:i<l.length) (hc:l.length<=c) (hbig:l.length<=9223372036854775807):
 ∃T,bt P f [.sl 0 p l.length c,.i .i64 i,.i .i64 ((i:Int)+1)] [(0,{cells:=gP p++(rows row l++gP ((c-l.length)*z)),gr:=some z})] 1 (.sl 0 p (l.length-1) c) [(0,{cells:=gP p++(rows row (l.take i++l.drop (i+1))++T),gr:=some z})] 1:=by
 have hzb:Nat.beq z 1=false:=bz (fun e=>hz1' e.symm);have hlL:(rows row l).length=l.length*z:=aT hlen;have h1B:aX (rows row (l.drop (i+1)))=true:=fF hone _;have hA:(rows row (l.take i)).length=i*z:=by rw [aT hlen,gO,oK (by omega)]
 have hB:(rows row (l.drop (i+1))).length=(l.length-(i+1))*z:=by rw [aT hlen,qi]
 obtain ⟨a,ha⟩: ∃a,l[i]? =some a:=⟨_,aY hi⟩;have hX:(row a).length=z:=hlen a;have hAB:rows row l=rows row (l.take i)++(row a++rows row (l.drop (i+1))):=by
  conv=>lhs;rw [<-kQ i l]
  rw [df,kW hi,cT];rw [aY hi] at ha;rw [Option.some.inj ha]
 have hb3:ae 0 (rows row (l.take i++l.drop (i+1)))=true:=bN hbel;rw [df] at hb3 ⊢;rw [hAB] at hlL ⊢;have hb3:=aD (m:=1) _ hb3;generalize rows row (l.take i)=A at*;generalize rows row (l.drop (i+1))=B at*;generalize row a=X at*;generalize l.length=N at*;clear hAB ha;have hAn:(gP p).length=p:=oE;have hSn:(gP ((c-N)*z)).length=(c-N)*z:=oE;have hQb:ae 1 (gP p)=true:=oL;have hSb:ae 1 (gP ((c-N)*z))=true:=oL;have hZb:=aD (m:=1) _ hzB;generalize gP ((c-N)*z)=S at*;generalize gP p=Q at*;refine ⟨zs++S,?_⟩;obtain ⟨r,rfl⟩: ∃r,N=i+1+r:=⟨N-(i+1),by omega⟩
 have g1:i+1+r-(i+1)=r:=by omega
 have g2:i+1+r-1=i+r:=by omega
 rw [g1] at hB;have e0:((i:Int)==(i:Int)+1)=false:=by rw [wT];omega
 have t1:((i:Int)+1).toNat=i+1:=by omega
 have c1:decide (0<=(i:Int)/\(i:Int)<=(i:Int)+1/\0<=(i:Int)+1/\(i:Int)+1<=((i+1+r:Nat):Int)/\0<=((i+1+r:Nat):Int)/\((i+1+r:Nat):Int)<=(c:Int))=true:=ah (by omega)
 have c2:decide (0<=(i:Int)/\(i:Int)<=(c:Int))=true:=ah (by omega)
 have c3:decide (0<=(i:Int)+1/\(i:Int)+1<=((i+1+r:Nat):Int)/\0<=((i+1+r:Nat):Int)/\((i+1+r:Nat):Int)<=(c:Int))=true:=ah (by omega)
 have c4:decide (i<=c)=true:=ah (by omega)
 have m1:(i+1)*z=i*z+z:=by rw [dF,sv]
 have m2:(i+r)*z=i*z+r*z:=dF _ _ _;have hzz:(dI zs 1).length=z:=by simp [dI,hzl]
 generalize hZe:dI zs 1=Z at hzz;refine bt.dU (cx:=bZ []) Sound.nil hm hf hI (by simp [TP]) (aQ ?_)
 dsimp only [TP];by_cases hr:r=0
 ·subst hr;have hBn:B=[]:=jG (by rw [hB];simp)
  subst hBn;have q1:decide (0<=(i:Int)+1/\(i:Int)+1<=((i+1:Nat):Int)/\0<=((i+1:Nat):Int)/\((i+1:Nat):Int)<=(c:Int)/\0<=(c:Int))=true:=ah (by omega)
  have q2:decide (0<=(i:Int)/\(i:Int)<=((i+1:Nat):Int)/\0<=((i+1:Nat):Int)/\((i+1:Nat):Int)<=(c:Int)/\0<=(c:Int))=true:=ah (by omega)
  have a2: ¬c=i:=by omega
  have a3:i+1-i=1:=by omega
  have k1:List.take (p+i*z) (Q++(A++X++S))=Q++A:=by
   rw [show Q++(A++X++S)=(Q++A)++(X++S) by simp only [fG]];exact Cv (by rw [dN];omega)
  have k2:List.drop (p+i*z+z) (Q++(A++X++S))=S:=by
   rw [show Q++(A++X++S)=(Q++(A++X))++S by simp only [fG]];exact Fh (by simp only [dN];omega)
  have q3:decide (p+i*z+z<=(Q++(A++X++S)).length)=true:=ah (by simp only [dN];omega)
  simp only [go_sem,e0,t1,g1,g2,c1,c2,c3,c4,hA,hB,hX,q1,q2,q3,a2,a3,k1,k2,hZe,hzz,hzl,hz1,Nat.zero_mul,s8,bV,sv,hzb,simprocAttr];simp only [cM] at hb3;exact bw.ends (Ends.gu rfl rfl (by simp only [eY,aw] at hSb hb3 hQb hZb ⊢;simp only [hSb,hb3,hQb,hZb,pU]) rfl (by simp only [fG]))
 ·have d0:decide (r=0)=false:=cN hr;have q1:decide (0<=(i:Int)+1/\(i:Int)+1<=((i+1+r:Nat):Int)/\0<=((i+1+r:Nat):Int)/\((i+1+r:Nat):Int)<=(c:Int)/\0<=(c:Int))=true:=ah (by omega)
  have d1:decide (i+r<=c)=true:=ah (by omega)
  have a1: ¬c=i+1:=by omega
  have k1:List.take (r*z) (List.drop (p+(i+1)*z) (Q++(A++(X++B)++S)))=B:=by
   rw [show Q++(A++(X++B)++S)=(Q++(A++X))++(B++S) by simp only [fG],Fh (by simp only [dN];omega),Cv hB]
  have a3:i+1+r-(i+r)=1:=by omega
  have q2:decide (0<=((i+r:Nat):Int)/\((i+r:Nat):Int)<=((i+1+r:Nat):Int)/\0<=((i+1+r:Nat):Int)/\((i+1+r:Nat):Int)<=(c:Int)/\0<=(c:Int))=true:=ah (by omega)
  have a2: ¬c=i+r:=by omega
  obtain ⟨W,V,hWV,hW,hV⟩:=Il (X++B) (a:=r*z) (b:=z) (by rw [dN];omega)
  have k2:List.take (p+i*z) (Q++(A++(X++B)++S))=Q++A:=by
   rw [show Q++(A++(X++B)++S)=(Q++A)++(X++B++S) by simp only [fG]];exact Cv (by rw [dN];omega)
  have k3:List.drop (p+i*z+r*z) (Q++(A++(X++B)++S))=V++S:=by
   rw [hWV,show Q++(A++(W++V)++S)=(Q++(A++W))++(V++S) by simp only [fG]];exact Fh (by simp only [dN];omega)
  have q3:decide (p+i*z+r*z<=(Q++(A++(X++B)++S)).length)=true:=ah (by simp only [dN];omega)
  have k4:List.take (p+(i+r)*z) (Q++A++B++(V++S))=Q++A++B:=Cv (by simp only [dN];omega)
  have k5:List.drop (p+(i+r)*z+z) (Q++A++B++(V++S))=S:=by
   rw [<-fG];exact Fh (by simp only [dN];omega)
  have q4:decide (p+(i+r)*z+z<=(Q++A++B++(V++S)).length)=true:=ah (by simp only [dN];omega)
  simp only [go_sem,e0,t1,g1,g2,c1,c2,c3,c4,d0,hA,hB,hX,q1,q2,q3,q4,d1,a1,a2,a3,k1,k2,k3,k4,k5,h1B,hZe,hzz,hzl,hz1,bV,sv,hzb,simprocAttr];exact bw.ends (Ends.gu rfl rfl (by simp only [eY,aw] at hSb hb3 hQb hZb ⊢;simp only [hSb,hb3,hQb,hZb,pU]) rfl (by simp only [fG]))
end
end Go.Ab
noncomputable abbrev Go.Proofs.av:=Go.Proofs.Tryz.prog
namespace Go.Proofs.Rom
open Go.Ab
abbrev age:=[cD 2 0,cD 3 1,cI 4]
abbrev af8:=[ak 12 0 2,aB 13 1 12,cm 14 13,ak 15 0 3,aB 16 1 15,cm 17 16,yn 18 14 17,aO 19 18,cE 20 1 2 19,cP 21 1 20 19,kU 22 21 19,cE 23 1 3 19,cP 24 1 23 19,kU 25 24 19,wx 26 22 25 19,ep 27 19 26,aO 28 27,cE 29 2 2 28,cP 30 1 29 28,kU 31 30 28,cE 32 2 3 28,cP 33 1 32 28,kU 34 33 28,wx 35 31 34 28,jV 36 28 35]
abbrev ae5:=[cI 4]
abbrev aoP:=[bT 5 0]
abbrev amG:=[aa 37 5,ak 38 0 2,aB 39 1 38,cm 40 39,ei 41 37 40]
abbrev amV:List (aj×List Nat):=[(ak 44 0 2,[]),(aB 45 1 44,[]),(aa 46 5,[0,1]),(cU 47 2 45 46,[]),(bI 48 2 47,[]),(ak 49 0 3,[0,1,2,3,4]),(aB 50 1 49,[0,1,2,3,4]),(aa 51 5,[0,1,2,3,4,5,6]),(cU 52 2 50 51,[0,1,2,3,4]),(bI 53 2 52,[0,1,2,3,4]),(ot 54 (.ye true true [.s,.i] (.t 48) (.t 53)),[])]
abbrev aoV:=[cI 4]
abbrev alq:=[aa 42 5,dA 43 42 1,aa 5 43]
abbrev afv:bG:=(.seq (ay amG (.cond (.t 41) .skip (.exit 0))) (.seq (.block 1 (.seq (.cG amV) (.cond (.t 54) (ay aoV .ret) .skip))) (.cQ alq)))
abbrev aoQ:=[bT 6 0]
abbrev aaM:=[aa 55 6,ak 56 1 2,aB 57 1 56,cm 58 57,ei 59 55 58]
abbrev aeb:List (aj×List Nat):=[(ak 62 1 2,[]),(aB 63 1 62,[]),(aa 64 6,[0,1]),(cU 65 4 63 64,[]),(bI 66 4 65,[]),(ak 67 1 3,[0,1,2,3,4]),(aB 68 1 67,[0,1,2,3,4]),(aa 69 6,[0,1,2,3,4,5,6]),(cU 70 4 68 69,[0,1,2,3,4]),(bI 71 4 70,[0,1,2,3,4]),(qZ 7 0 0,[0,1,2,3,4,5,6,7,8,9]),(qZ 8 0 0,[0,1,2,3,4,5,6,7,8,9,10]),(aZ 4 7 66,[5,6,7,8,9]),(aZ 4 8 71,[])]
abbrev XT:=[ak 72 0 7,aB 73 1 72,ak 74 0 8,aB 75 1 74,yn 76 73 75,aO 77 76,cE 78 3 7 77,cP 79 1 78 77,cE 80 3 8 77,cP 81 1 80 77,wx 82 79 81 77,ep 83 77 82,aO 84 83,cE 85 1 7 84,cP 86 1 85 84,cE 87 1 8 84,cP 88 1 87 84,xW 89 87 86 88 84,jx 90 89 84,ep 91 84 90,aO 92 91,cE 93 2 7 92,cP 94 1 93 92,cE 95 2 8 92,cP 96 1 95 92,xW 97 87 94 96 92,jx 98 97 92,jV 99 92 98]
abbrev Xd:=[cI 4]
abbrev X5:=[aa 60 6,dA 61 60 1,aa 6 61]
abbrev UM:bG:=(.seq (ay aaM (.cond (.t 59) .skip (.exit 2))) (.seq (.block 3 (.seq (.cG aeb) (ay XT (.cond (.t 99) (ay Xd .ret) .skip)))) (.cQ X5)))
abbrev Vm:=[bT 9 0]
abbrev Sq:=[aa 100 9,ak 101 2 2,aB 102 1 101,cm 103 102,ei 104 100 103]
abbrev WD:List (aj×List Nat):=[(ak 107 2 2,[]),(aB 108 1 107,[]),(aa 109 9,[0,1]),(cU 110 22 108 109,[]),(bI 111 22 110,[]),(ak 112 2 3,[0,1,2,3,4]),(aB 113 1 112,[0,1,2,3,4]),(aa 114 9,[0,1,2,3,4,5,6]),(cU 115 22 113 114,[0,1,2,3,4]),(bI 116 22 115,[0,1,2,3,4]),(oo 10 (.new nK),[0,1,2,3,4,5,6,7,8,9]),(oo 11 (.new nK),[0,1,2,3,4,5,6,7,8,9,10]),(aZ 22 10 111,[5,6,7,8,9]),(aZ 22 11 116,[])]
abbrev Sr:=[ak 117 0 10,aB 118 1 117,ak 119 0 11,aB 120 1 119,yn 121 118 120,aO 122 121,cE 123 1 10 122,cP 124 1 123 122,cE 125 1 11 122,cP 126 1 125 122,wx 127 124 126 122,ep 128 122 127,aO 129 128,cE 130 2 10 129,cP 131 1 130 129,cE 132 2 11 129,cP 133 1 132 129,wx 134 131 133 129,ep 135 129 134,aO 136 135,cE 137 3 10 136,cP 138 1 137 136,cE 139 3 11 136,cP 140 1 139 136,wx 141 138 140 136,ep 142 136 141,aO 143 142,cE 144 4 10 143,uf 145 18 144 143,cE 146 4 11 143,uf 147 18 146 143,xW 148 88 145 147 143,jx 149 148 143,jV 150 143 149]
abbrev aaU:=[cI 4]
abbrev aa1:=[aa 105 9,dA 106 105 1,aa 9 106]
abbrev UT:bG:=(.seq (ay Sq (.cond (.t 104) .skip (.exit 4))) (.seq (.block 5 (.seq (.cG WD) (ay Sr (.cond (.t 150) (ay aaU .ret) .skip)))) (.cQ aa1)))
abbrev U9:=[pY 4]
abbrev ar5:=(ay age (.seq (ay af8 (.cond (.t 36) (ay ae5 .ret) .skip)) (.seq (ay aoP (.block 0 (.loop afv))) (.seq (ay aoQ (.block 2 (.loop UM))) (.seq (ay Vm (.block 4 (.loop UT))) (ay U9 .ret))))))
def i21:dm:=⟨2,151,[36,41,54,59,99,104,150],ar5,[.t 4]⟩
theorem abq:aK av Tryz.f21=some i21:=by kernel_rfl
abbrev afg:=[cI 4]
abbrev ah1:=[aa 5 0,aa 6 1,cK 7 87 5 6,aa 4 7]
abbrev ar1:=(ay afg (ay ah1 .ret))
def i43:dm:=⟨2,8,[],ar1,[.t 4]⟩
theorem TO:aK av Tryz.f43=some i43:=by kernel_rfl
abbrev ahT:=[cI 4]
abbrev aoL:=[aa 6 0,cm 7 6,aa 8 1,cm 9 8,uD 10 7 9]
abbrev anT:=[cI 4]
abbrev amE:=[bT 5 0]
abbrev akp:=[aa 11 5,aa 12 0,cm 13 12,ei 14 11 13]
abbrev ag9:List (aj×List Nat):=[(aa 17 0,[]),(aa 18 5,[0]),(cU 19 1 17 18,[]),(aB 20 1 19,[]),(aa 21 1,[0,1,2,3]),(aa 22 5,[0,1,2,3,4]),(cU 23 1 21 22,[0,1,2,3]),(aB 24 1 23,[0,1,2,3]),(uD 25 20 24,[])]
abbrev alj:=[cI 4]
abbrev aid:=[aa 15 5,dA 16 15 1,aa 5 16]
abbrev afJ:bG:=(.seq (ay akp (.cond (.t 14) .skip (.exit 0))) (.seq (.block 1 (.seq (.cG ag9) (.cond (.t 25) (ay alj .ret) .skip))) (.cQ aid)))
abbrev akq:=[pY 4]
abbrev ass:=(ay ahT (.seq (ay aoL (.cond (.t 10) (ay anT .ret) .skip)) (.seq (ay amE (.block 0 (.loop afJ))) (ay akq .ret))))
def i87:dm:=⟨2,26,[10,14,25],ass,[.t 4]⟩
theorem Wl:aK av Tryz.f87=some i87:=by kernel_rfl
abbrev al4:=[cD 2 0,cD 3 1,oo 4 (.new pJ),gA 5,bT 6 0]
abbrev af9:=[bI 14 18 2,du 15 121 14,aa 7 15]
abbrev aiK:=[aa 16 7,vV 17 16 0]
abbrev akS:=[oo 18 (.build pJ []),aa 19 7,aZ 18 4 18,gA 5,aa 6 19]
abbrev af0:=[bI 20 9 3,du 21 61 20,aa 8 21]
abbrev aiX:=[aa 22 8,vV 23 22 0]
abbrev aof:=[oo 24 (.build pJ []),aa 25 8,aZ 18 4 24,gA 5,aa 6 25]
abbrev ano:=[ak 26 0 2,aB 27 1 26,ak 28 4 3,aB 29 1 28,cK 30 122 27 29,aa 9 30]
abbrev agr:=[aa 31 9,nB 32 31 0]
abbrev aop:=[oo 33 (.build pJ []),aZ 18 4 33,gA 5,bT 6 4]
abbrev Zl:=[ak 35 8 3,aB 36 1 35,du 37 66 36,aa 34 37,bh 38 34 0,bh 39 34 1,bh 40 34 2,CW 10 0 0 0 0,aZ 8 10 38,aa 11 39,aa 12 40]
abbrev UY:=[aa 41 12,vV 42 41 0]
abbrev UW:=[oo 43 (.build pJ []),aa 44 12,aZ 18 4 43,gA 5,aa 6 44]
abbrev aca:=[ak 45 0 2,aB 46 1 45,du 47 90 46,ak 48 0 2,aZ 1 48 47]
abbrev W4:=[bI 49 18 2,aa 50 9,bI 51 9 3,bI 52 8 10,oo 53 (.build [.ns,.i .i64 0,.i .i64 0,.i .i64 0,.i .i64 0,.i .i64 0,.i .i64 0,.i .i64 0,.i .i64 0,.b false,.i .i64 0,.i .i64 0,.i .i64 0,.i .i64 0,.i .i64 0,.i .i64 0,.i .i64 0,.i .i64 0,.i .i64 0,.b false,.i .i64 0,.i .i64 0,.i .i64 0,.i .i64 0,.ns,.ns,.i .i64 0,.s [],.b false,.b false,.b false,.b false,.i .i64 0,.i .i64 0,.i .i64 0,.i .i64 0,.ns] [(0,18,.t 49),(18,1,.t 50),(19,9,.t 51),(28,8,.t 52)]),cD 54 53,aa 13 54]
abbrev YO:=[aa 55 13,du 56 123 55]
abbrev V7:List (aj×List Nat):=[(aa 57 13,[]),(bE 58 57,[]),(ak 59 0 58,[]),(bI 60 18 59,[]),(aa 61 13,[0,1,2,3]),(bE 62 61,[0,1,2,3]),(ak 63 36 62,[0,1,2,3]),(aB 64 1 63,[0,1,2,3]),(aZ 18 4 60,[4,5,6,7]),(aa 5 64,[]),(bT 6 0,[])]
abbrev aud:=(ay al4 (.seq (ay af9 (ay aiK (.cond (.t 17) (ay akS .ret) .skip))) (.seq (ay af0 (ay aiX (.cond (.t 23) (ay aof .ret) .skip))) (ay ano (.seq (ay agr (.cond (.t 32) (ay aop .ret) .skip)) (ay Zl (.seq (ay UY (.cond (.t 42) (ay UW .ret) .skip)) (ay aca (ay W4 (ay YO (.seq (.cG V7) .ret)))))))))))
def i50:dm:=⟨2,65,[17,23,32,42],aud,[.c 4 true 18,.t 5,.t 6]⟩
theorem XM:aK av Tryz.f50=some i50:=by kernel_rfl
abbrev ae4:=[cD 1 0,bT 2 0]
abbrev ao0:=[ak 6 1 1,aB 7 1 6,oo 8 (.lC [.i .i64 0] 1 [(0,1,.t 7)]),Dx 9 136 7 8,aO 10 9,cr 11 2 1 10,cw 12 1 11 10,og 13 (.lC [.i .i64 0] 1 [(0,1,.t 12)]) 10 true false,BP 14 136 16 13 10,bF 15 10 14,aO 16 15,cr 17 3 1 16,cw 18 1 17 16,cr 19 4 1 16,cw 20 1 19 16,og 21 (.lC [.i .i64 0,.i .i64 0] 2 [(0,1,.t 18),(1,1,.t 20)]) 16 true false,BP 22 136 32 21 16,bF 23 16 22,aO 24 23,cr 25 5 1 24,cw 26 1 25 24,BP 27 136 32 26 24,bF 28 24 27,aO 29 28,cr 30 7 1 29,cw 31 1 30 29,og 32 (.lC [.i .i64 0] 1 [(0,1,.t 31)]) 29 true false,BP 33 136 8 32 29,bF 34 29 33,aO 35 34,cr 36 5 1 35,cw 37 1 36 35,rS 38 37 35,DU 39 38 15 35,bF 40 35 39,aO 41 40,cr 42 6 1 41,cw 43 1 42 41,rS 44 43 41,DU 45 44 16 41,bF 46 41 45,aa 3 46]
abbrev anP:=[ak 47 6 1,aB 48 1 47,cm 49 48,bT 50 0]
abbrev aiP:=[ei 51 50 49]
abbrev aix:=[aa 52 50,cU 53 2 48 50,bI 54 2 53,oo 5 (.new [.i .i64 0,.s []]),aa 4 52,aZ 2 5 54]
abbrev ak2:List (aj×List Nat):=[(aa 55 3,[]),(aO 56 55,[]),(cr 57 0 5 56,[]),(cw 58 1 57 56,[]),(cr 59 1 5 56,[2,3]),(cw 60 1 59 56,[2,3]),(og 61 (.BH (.t 60)) 56 true false,[2,3]),(og 62 (.lC [.i .i64 0,.i .i64 0] 2 [(0,1,.t 58),(1,1,.t 61)]) 56 true false,[]),(BP 63 136 8 62 56,[]),(bF 64 56 63,[]),(aO 65 64,[]),(cr 66 0 5 65,[]),(cw 67 1 66 65,[]),(og 68 (.bin .gtr (.t 67) (.c (.i .i64 0))) 65 true false,[]),(bF 69 65 68,[]),(aO 70 69,[]),(bb 71 4 70,[]),(cq 72 71 0 70,[]),(tJ 73 72 70,[]),(cE 74 0 5 73,[]),(cP 75 1 74 73,[]),(cE 76 6 1 73,[19,20]),(cP 77 1 76 73,[19,20]),(fB 78 4 73,[19,20,21,22]),(Aj 79 78 1 73,[19,20,21,22]),(og 80 (.qO 2 (.t 77) (.t 79)) 73 false false,[19,20]),(cE 81 0 80 73,[19,20]),(cP 82 1 81 73,[19,20]),(og 83 (.bin .gtr (.t 75) (.t 82)) 73 false false,[]),(uy 84 73 83 70,[]),(bF 85 70 84,[]),(aa 3 85,[])]
abbrev agP:=[dA 86 50 1,aa 50 86]
abbrev QW:=(ay aiP (.seq (.cond (.t 51) .skip (.exit 0)) (.seq (.block 1 (ay aix (.cG ak2))) (.cQ agP))))
abbrev Qc:=[aa 87 3,nC 88 87]
abbrev QU:=[bT 2 230]
abbrev Hl:=[bT 2 0]
abbrev auz:=(ay ae4 (ay ao0 (.seq (ay anP (.block 0 (.loop QW))) (.seq (ay Qc (.cond (.t 88) (ay QU .ret) .skip)) (ay Hl .ret)))))
def i61:dm:=⟨1,89,[51,88],auz,[.t 2]⟩
theorem U7:aK av Tryz.f61=some i61:=by kernel_rfl
abbrev ajr:=[cI 4]
abbrev ajG:=[aa 5 0,aa 6 1,cK 7 122 5 6,vC 8 7 0,aa 4 8]
abbrev aqn:=(ay ajr (ay ajG .ret))
def i65:dm:=⟨2,9,[],aqn,[.t 4]⟩
theorem Ws:aK av Tryz.f65=some i65:=by kernel_rfl
abbrev an3:=[CW 2 0 0 0 0,rI 3,bT 4 0]
abbrev aoj:=[aa 7 0,oo 8 (.BH (.t 7)),nB 9 8 5]
abbrev afY:=[Hs 10 0 0 0 0,aZ 8 2 10,rI 3,bT 4 7]
abbrev anA:List (aj×List Nat):=[(aa 11 0,[]),(B8 12 11 0,[]),(aa 13 0,[0,1]),(B8 14 13 4,[0,1]),(aa 5 12,[2,3]),(aa 6 14,[])]
abbrev anz:List (aj×List Nat):=[(aa 15 5,[]),(wJ 16 15 64,[]),(BD 17 16 0,[]),(aa 18 5,[0,1,2]),(wJ 19 18 32,[0,1,2]),(BD 20 19 0,[0,1,2]),(aa 21 5,[0,1,2,3,4,5]),(wJ 22 21 16,[0,1,2,3,4,5]),(BD 23 22 0,[0,1,2,3,4,5]),(aa 24 5,[0,1,2,3,4,5,6,7,8]),(wJ 25 24 8,[0,1,2,3,4,5,6,7,8]),(BD 26 25 0,[0,1,2,3,4,5,6,7,8]),(aa 27 0,[0,1,2,3,4,5,6,7,8,9,10,11]),(B8 28 27 1,[0,1,2,3,4,5,6,7,8,9,10,11]),(wJ 29 28 127,[0,1,2,3,4,5,6,7,8,9,10,11]),(jW 30 29,[0,1,2,3,4,5,6,7,8,9,10,11]),(zZ 31 30 8,[0,1,2,3,4,5,6,7,8,9,10,11]),(aa 32 0,[0,1,2,3,4,5,6,7,8,9,10,11,12,13,14,15,16]),(B8 33 32 2,[0,1,2,3,4,5,6,7,8,9,10,11,12,13,14,15,16]),(jW 34 33,[0,1,2,3,4,5,6,7,8,9,10,11,12,13,14,15,16]),(oo 35 (.bin .or (.t 31) (.t 34)),[0,1,2,3,4,5,6,7,8,9,10,11]),(aa 36 0,[0,1,2,3,4,5,6,7,8,9,10,11,12,13,14,15,16,17,18,19,20]),(B8 37 36 3,[0,1,2,3,4,5,6,7,8,9,10,11,12,13,14,15,16,17,18,19,20]),(jW 38 37,[0,1,2,3,4,5,6,7,8,9,10,11,12,13,14,15,16,17,18,19,20]),(aa 39 6,[0,1,2,3,4,5,6,7,8,9,10,11,12,13,14,15,16,17,18,19,20,21,22,23]),(r7 40 39 6,[0,1,2,3,4,5,6,7,8,9,10,11,12,13,14,15,16,17,18,19,20,21,22,23]),(jW 41 40,[0,1,2,3,4,5,6,7,8,9,10,11,12,13,14,15,16,17,18,19,20,21,22,23]),(aa 42 6,[0,1,2,3,4,5,6,7,8,9,10,11,12,13,14,15,16,17,18,19,20,21,22,23,24,25,26]),(r7 43 42 4,[0,1,2,3,4,5,6,7,8,9,10,11,12,13,14,15,16,17,18,19,20,21,22,23,24,25,26]),(wJ 44 43 3,[0,1,2,3,4,5,6,7,8,9,10,11,12,13,14,15,16,17,18,19,20,21,22,23,24,25,26]),(jW 45 44,[0,1,2,3,4,5,6,7,8,9,10,11,12,13,14,15,16,17,18,19,20,21,22,23,24,25,26]),(oo 46 (.build aoW [(0,1,.t 17),(1,1,.t 20),(2,1,.t 23),(3,1,.t 26),(4,1,.t 35),(5,1,.t 38),(6,1,.t 41),(7,1,.t 45)]),[]),(aZ 8 2 46,[])]
abbrev afh:=[aa 47 5,wJ 48 47 135,BD 49 48 128,aO 50 49,fB 51 0 50,og 52 (.uZ (.t 51) (.c (.i .i64 1))) 50 false false,og 53 (.bin .lss (.t 52) (.c (.i .u8 128))) 50 false false,ep 54 50 53,aO 55 54,fB 56 6 55,og 57 (.bin .and (.t 56) (.c (.i .u8 15))) 55 false false,og 58 (.bin .neq (.t 57) (.c (.i .u8 0))) 55 false false,ep 59 55 58,aO 60 59,uf 61 8 2 60,yt 62 137 61 60,lu 63 62 0 60,jV 64 60 63]
abbrev ak5:=[Hs 65 0 0 0 0,aZ 8 2 65,rI 3,bT 4 5]
abbrev aoK:List (aj×List Nat):=[(bI 66 8 2,[]),(aa 67 0,[0]),(oo 68 (.Vi (.t 67) (some (.c (.i .i64 5))) none),[0]),(aZ 8 2 66,[1,2]),(aa 3 68,[]),(bT 4 0,[])]
abbrev ath:=(ay an3 (.seq (ay aoj (.cond (.t 9) (ay afY .ret) .skip)) (.seq (.cG anA) (.seq (.cG anz) (.seq (ay afh (.cond (.t 64) (ay ak5 .ret) .skip)) (.seq (.cG aoK) .ret))))))
def i66:dm:=⟨1,69,[9,64],ath,[.c 2 true 8,.t 3,.t 4]⟩
theorem aaF:aK av Tryz.f66=some i66:=by kernel_rfl
abbrev agA:=[cD 7 3,oo 8 (.new pJ),bT 9 0]
abbrev afQ:List (aj×List Nat):=[(aa 11 0,[]),(du 12 90 11,[]),(aa 13 1,[0,1]),(aa 14 2,[0,1,2]),(bI 15 4 7,[0,1,2,3]),(oo 16 (.build pJ [(0,1,.t 12),(1,1,.t 13),(2,1,.t 14),(3,1,.c (.i .i64 (-1))),(4,1,.c (.i .i64 (-1))),(14,4,.t 15)]),[]),(oo 10 (.new pJ),[0,1,2,3,4,5]),(aZ 18 10 16,[])]
abbrev ai6:=[bI 17 18 10,du 18 121 17,vV 19 18 0]
abbrev aik:=[oo 20 (.build pJ []),aZ 18 8 20,bT 9 2]
abbrev amZ:=[bI 21 18 10,aZ 18 8 21,bT 9 0]
abbrev arl:=(ay agA (.seq (.cG afQ) (.seq (ay ai6 (.cond (.t 19) (ay aik .ret) .skip)) (ay amZ .ret))))
def i70:dm:=⟨4,22,[19],arl,[.c 8 true 18,.t 9]⟩
theorem abK:aK av Tryz.f70=some i70:=by kernel_rfl
abbrev amn:=[cD 2 0,cD 3 1,cI 4]
abbrev aiG:=[ak 6 0 2,aB 7 1 6,cm 8 7,ak 9 0 3,aB 10 1 9,cm 11 10,uD 12 8 11]
abbrev anD:=[cI 4]
abbrev anv:=[bT 5 0]
abbrev aoF:=[aa 13 5,ak 14 0 2,aB 15 1 14,cm 16 15,ei 17 13 16]
abbrev alk:List (aj×List Nat):=[(ak 20 0 2,[]),(aB 21 1 20,[]),(aa 22 5,[0,1]),(cU 23 1 21 22,[]),(aB 24 1 23,[]),(ak 25 0 3,[0,1,2,3,4]),(aB 26 1 25,[0,1,2,3,4]),(aa 27 5,[0,1,2,3,4,5,6]),(cU 28 1 26 27,[0,1,2,3,4]),(aB 29 1 28,[0,1,2,3,4]),(uD 30 24 29,[])]
abbrev aoY:=[cI 4]
abbrev aiB:=[aa 18 5,dA 19 18 1,aa 5 19]
abbrev ajp:bG:=(.seq (ay aoF (.cond (.t 17) .skip (.exit 0))) (.seq (.block 1 (.seq (.cG alk) (.cond (.t 30) (ay aoY .ret) .skip))) (.cQ aiB)))
abbrev alT:List (aj×List Nat):=[(ak 31 1 2,[]),(aB 32 1 31,[]),(ak 33 1 3,[0,1]),(aB 34 1 33,[0,1]),(yb 35 32 34,[]),(aO 36 35,[]),(cr 37 2 2 36,[]),(cw 38 1 37 36,[]),(cr 39 2 3 36,[6,7]),(cw 40 1 39 36,[6,7]),(mq 41 38 40 36,[]),(bF 42 36 41,[]),(aO 43 42,[]),(cr 44 3 2 43,[]),(cw 45 1 44 43,[]),(cr 46 3 3 43,[13,14]),(cw 47 1 46 43,[13,14]),(mq 48 45 47 43,[]),(bF 49 43 48,[]),(aO 50 49,[]),(cr 51 4 2 50,[]),(cw 52 1 51 50,[]),(cr 53 4 3 50,[20,21]),(cw 54 1 53 50,[20,21]),(mq 55 52 54 50,[]),(bF 56 50 55,[]),(aO 57 56,[]),(cr 58 5 2 57,[]),(cw 59 1 58 57,[]),(cr 60 5 3 57,[27,28]),(cw 61 1 60 57,[27,28]),(mq 62 59 61 57,[]),(bF 63 57 62,[]),(aO 64 63,[]),(cr 65 6 2 64,[]),(cw 66 1 65 64,[]),(cr 67 6 3 64,[34,35]),(cw 68 1 67 64,[34,35]),(mq 69 66 68 64,[]),(bF 70 64 69,[]),(aO 71 70,[]),(cr 72 7 2 71,[]),(cw 73 1 72 71,[]),(cr 74 7 3 71,[41,42]),(cw 75 1 74 71,[41,42]),(mq 76 73 75 71,[]),(bF 77 71 76,[]),(aO 78 77,[]),(cr 79 8 2 78,[]),(cw 80 1 79 78,[]),(cr 81 8 3 78,[48,49]),(cw 82 1 81 78,[48,49]),(mq 83 80 82 78,[]),(bF 84 78 83,[]),(aO 85 84,[]),(cr 86 9 2 85,[]),(cw 87 1 86 85,[]),(cr 88 9 3 85,[55,56]),(cw 89 1 88 85,[55,56]),(og 90 (.ye false false [.b] (.t 87) (.t 89)) 85 true false,[]),(bF 91 85 90,[]),(aO 92 91,[]),(fY 93 18 2 92,[]),(BZ 94 156 93 92,[]),(fY 95 18 3 92,[62,63]),(BZ 96 156 95 92,[]),(og 97 (.ye false true [.i,.i,.i,.i] (.t 94) (.t 96)) 92 true false,[]),(bF 98 92 97,[]),(aO 99 98,[]),(cr 100 14 2 99,[]),(fY 101 4 100 99,[]),(cr 102 14 3 99,[69,70]),(fY 103 4 102 99,[69,70]),(og 104 (.ye false true [.i,.i,.i,.i] (.t 101) (.t 103)) 99 true false,[]),(bF 105 99 104,[]),(aa 4 105,[])]
abbrev aq0:=(ay amn (.seq (ay aiG (.cond (.t 12) (ay anD .ret) .skip)) (.seq (ay anv (.block 0 (.loop ajp))) (.seq (.cG alT) .ret))))
def i88:dm:=⟨2,106,[12,17,30],aq0,[.t 4]⟩
theorem Xg:aK av Tryz.f88=some i88:=by kernel_rfl
abbrev aiT:=[gA 2]
abbrev ahK:=[aa 3 0,CM 4 1 3]
abbrev akW:=[gA 2]
abbrev ajJ:=[Bf 5 0,aa 6 0,Cd 7 1 8 0 5 6,aa 2 7]
abbrev aq5:=(ay aiT (.seq (ay ahK (.cond (.t 4) (ay akW .ret) .skip)) (ay ajJ .ret)))
def i90:dm:=⟨1,8,[4],aq5,[.t 2]⟩
theorem we:aK av Tryz.f90=some i90:=by kernel_rfl
abbrev abY:=[cD 1 0,rI 2,bT 3 0]
abbrev adY:=[bI 5 8 1,du 6 137 5,aa 4 6]
abbrev R8:=[aa 7 4,vV 8 7 0]
abbrev Um:=[aa 9 4,rI 2,aa 3 9]
abbrev abJ:=[bI 10 8 1,du 11 169 10,aa 2 11,bT 3 0]
abbrev al1:=(ay abY (.seq (ay adY (ay R8 (.cond (.t 8) (ay Um .ret) .skip))) (ay abJ .ret)))
def i102:dm:=⟨1,12,[8],al1,[.t 2,.t 3]⟩
theorem MK:aK av Tryz.f102=some i102:=by kernel_rfl
abbrev abB:=[cD 1 0,bT 2 0,bT 3 0]
abbrev WB:=[bI 5 18 1,du 6 121 5,DJ 7 6 0,aO 4 7]
abbrev aed:=[bT 2 0,bT 3 410]
abbrev Xs:=[ak 9 4 1,aB 10 1 9,uq 11 10 0,aO 12 11,cE 13 4 1 12,cP 14 1 13 12,cE 15 3 1 12,cP 16 1 15 12,og 17 (.bin .eql (.t 14) (.t 16)) 12 false false,ep 18 12 17,aO 8 18]
abbrev W3:=[bT 2 0,bT 3 4]
abbrev Xl:=[ak 19 4 1,aB 20 1 19,aa 2 20,bT 3 0]
abbrev afC:=(ay abB (.seq (.block 0 (ay WB (.cond (.t 4) (ay aed .ret) (ay Xs (.cond (.t 8) (ay W3 .ret) .skip))))) (ay Xl .ret)))
def i105:dm:=⟨1,21,[4,8],afC,[.t 2,.t 3]⟩
theorem P4:aK av Tryz.f105=some i105:=by kernel_rfl
abbrev abR:=[cD 1 0,bT 2 0]
abbrev YW:=[ak 5 0 1,aB 6 1 5,cm 7 6,aa 3 7]
abbrev Ub:=[aa 8 3,D6 9 182 1 8 3,aO 10 9,cr 11 0 1 10,cw 12 1 11 10,BZ 13 183 12 10,bF 14 10 13,aO 15 14,cr 16 1 1 15,cw 17 1 16 15,og 18 (.lC [.i .i64 0] 1 [(0,1,.t 17)]) 15 true false,BZ 19 183 18 15,bF 20 15 19,aO 21 20,cr 22 2 1 21,cw 23 1 22 21,A8 24 182 1 23 90000 21,bF 25 21 24,aO 26 25,cr 27 3 1 26,cw 28 1 27 26,bb 29 3 26,BG 30 29 1 26,A0 31 182 (-1) 28 30 26,bF 32 26 31,aO 33 32,cr 34 4 1 33,cw 35 1 34 33,bb 36 3 33,BG 37 36 1 33,A0 38 182 (-1) 35 37 33,bF 39 33 38,aa 4 39]
abbrev Za:=[aa 40 4,lV 41 40,aO 42 41,cE 43 5 1 42,cP 44 1 43 42,Ag 45 182 0 44 3 42,jx 46 45 42,ep 47 42 46,aO 48 47,cE 49 6 1 48,cP 50 1 49 48,Ag 51 182 0 50 3 48,jx 52 51 48,ep 53 48 52,aO 54 53,uf 55 18 1 54,yt 56 185 55 54,yt 57 184 56 54,jx 58 57 54,ep 59 54 58,aO 60 59,cE 61 14 1 60,uf 62 4 61 60,yt 63 184 62 60,jx 64 63 60,ep 65 60 64,aO 66 65,cE 67 7 1 66,cP 68 1 67 66,cE 69 8 1 66,cP 70 1 69 66,og 71 (.build xz [(0,1,.t 68),(2,1,.t 70)]) 66 false false,yt 72 184 71 66,jx 73 72 66,jV 74 66 73]
abbrev ab5:=[bT 2 410]
abbrev WW:=[ak 75 3 1,aB 76 1 75,uq 77 76 0,aO 78 77,cr 79 5 1 78,cw 80 1 79 78,og 81 (.bin .neq (.t 80) (.c (.i .i64 0))) 78 true false,tJ 82 81 78,cE 83 7 1 82,cP 84 1 83 82,lu 85 84 0 82,uy 86 82 85 78,tJ 87 86 78,cE 88 8 1 87,cP 89 1 88 87,lu 90 89 0 87,uy 91 87 90 78,tJ 92 91 78,cE 93 9 1 92,cP 94 1 93 92,uy 95 92 94 78,tJ 96 95 78,uf 97 18 1 96,yt 98 185 97 96,og 99 (.build xz []) 96 false false,og 100 (.ye true true [.i,.i,.i,.i] (.t 98) (.t 99)) 96 false false,uy 101 96 100 78,zf 102 78 101]
abbrev Zd:=[bT 2 410]
abbrev WK:=[bT 2 0]
abbrev agV:=(ay abR (ay YW (ay Ub (.seq (ay Za (.cond (.t 74) (ay ab5 .ret) .skip)) (.seq (ay WW (.cond (.t 102) (ay Zd .ret) .skip)) (ay WK .ret))))))
def i121:dm:=⟨1,103,[74,102],agV,[.t 2]⟩
theorem NO:aK av Tryz.f121=some i121:=by kernel_rfl
abbrev V9:=[bT 4 0]
abbrev UZ:=[aa 6 0,cm 7 6,bT 8 0]
abbrev Zx:=[ei 9 8 7]
abbrev ZL:=[aa 10 8,aa 5 10]
abbrev abr:=[aa 11 1,aa 12 0,aa 13 5,cU 14 1 12 13,aB 15 1 14,zX 16 11 15]
abbrev ade:=[aa 17 5,aa 4 17]
abbrev XQ:=[dA 18 8 1,aa 8 18]
abbrev adp:=(ay Zx (.seq (.cond (.t 9) .skip (.exit 0)) (.seq (.block 1 (ay ZL (ay abr (.cond (.t 16) (ay ade .ret) .skip)))) (.cQ XQ))))
abbrev YH:=[bT 4 (-1)]
abbrev alY:=(ay V9 (.seq (ay UZ (.block 0 (.loop adp))) (ay YH .ret)))
def i122:dm:=⟨2,19,[9,16],alY,[.t 4]⟩
theorem Lw:aK av Tryz.f122=some i122:=by kernel_rfl
abbrev UJ:=[xp (.w9 (.c (.fn 186 [])) [])]
abbrev Yp:=[aa 4 0,uF 5 187 4,aa 6 0,uF 7 188 6,aa 8 0,uF 9 189 8,aa 10 0,uF 11 190 10,aa 12 0,uF 13 191 12,oo 14 (.build [.nf,.nf,.nf,.nf,.nf] [(0,1,.t 5),(1,1,.t 7),(2,1,.t 9),(3,1,.t 11),(4,1,.t 13)]),bT 15 0]
abbrev XG:=[nB 16 15 5]
abbrev VN:=[oo 17 (.Rg 5 1 false (.t 14) (.t 15)),aa 3 17]
abbrev Yf:=[aa 18 3,AL 19 18]
abbrev Uo:=[dA 20 15 1,aa 15 20]
abbrev acJ:=(ay XG (.seq (.cond (.t 16) .skip (.exit 0)) (.seq (.block 1 (ay VN (.cQ Yf))) (.cQ Uo))))
abbrev anw:=(ay UJ (ay Yp (.block 0 (.loop acJ))))
def i123:dm:=⟨1,21,[16],anw,[]⟩
theorem MH:aK av Tryz.f123=some i123:=by kernel_rfl
abbrev VC:=[cD 2 0,cI 4]
abbrev aaG:=[aa 5 1,oV 6 195 2,cK 7 194 5 6,lV 8 7,aa 4 8]
abbrev aeW:=(ay VC (ay aaG .ret))
def i136:dm:=⟨2,9,[],aeW,[.t 4]⟩
theorem Oa:aK av Tryz.f136=some i136:=by kernel_rfl
abbrev Sz:=[cD 1 0,bT 2 0]
abbrev aaq:=[ak 3 4 1,aB 4 1 3,Dx 5 196 32767 4,lV 6 5,aO 7 6,cE 8 5 1 7,cP 9 1 8 7,Aw 10 196 255 9 7,jx 11 10 7,ep 12 7 11,aO 13 12,cE 14 6 1 13,cP 15 1 14 13,Aw 16 196 3 15 13,jx 17 16 13,ep 18 13 17,aO 19 18,cE 20 7 1 19,cP 21 1 20 19,Aw 22 196 2 21 19,jx 23 22 19,ep 24 19 23,aO 25 24,cE 26 1 1 25,cP 27 1 26 25,og 28 (.mv (.t 27)) 25 false true,cr 29 6 1 28,cw 30 1 29 28,og 31 (.bin .gtr (.t 30) (.c (.i .i64 0))) 28 true false,og 32 (.pick (.t 28) (.t 31) (.c (.b false))) 25 false false,ep 33 25 32,aO 34 33,cE 35 2 1 34,cP 36 1 35 34,og 37 (.mv (.t 36)) 34 false true,cr 38 6 1 37,cw 39 1 38 37,cq 40 39 0 37,og 41 (.pick (.t 37) (.t 40) (.c (.b false))) 34 false false,jV 42 34 41]
abbrev Uz:=[bT 2 400]
abbrev aa3:=[bT 2 0]
abbrev af3:=(ay Sz (.seq (ay aaq (.cond (.t 42) (ay Uz .ret) .skip)) (ay aa3 .ret)))
def i137:dm:=⟨1,43,[42],af3,[.t 2]⟩
theorem Of:aK av Tryz.f137=some i137:=by kernel_rfl
abbrev abV:=[cD 3 0,oo 6 (.new pJ),bT 7 0]
abbrev SQ:=[bI 9 18 3,du 10 121 9,DJ 11 10 0,aO 8 11]
abbrev aam:=[oo 12 (.build pJ []),aZ 18 6 12,bT 7 410]
abbrev acU:=[aa 14 1,ak 15 0 3,aB 16 1 15,cm 17 16,kB 18 17 1,yc 19 182 (-1) 14 18,lV 20 19,aO 21 20,fB 22 2 21,Ag 23 182 0 22 3 21,jx 24 23 21,ep 25 21 24,aO 13 25]
abbrev S8:=[oo 26 (.build pJ []),aZ 18 6 26,bT 7 2]
abbrev aac:=[aa 28 1,uq 29 28 0,aO 27 29]
abbrev Yb:List (aj×List Nat):=[(ak 30 0 3,[]),(aB 31 1 30,[]),(du 32 90 31,[]),(ak 33 1 3,[0,1,2]),(aB 34 1 33,[0,1,2]),(ak 35 2 3,[0,1,2,3,4]),(aB 36 1 35,[0,1,2,3,4]),(aa 37 2,[0,1,2,3,4,5,6]),(ak 38 14 3,[0,1,2,3,4,5,6,7]),(bI 39 4 38,[0,1,2,3,4,5,6,7]),(oo 40 (.build pJ [(0,1,.t 32),(1,1,.t 34),(2,1,.t 36),(3,1,.c (.i .i64 (-1))),(4,1,.c (.i .i64 (-1))),(6,1,.t 37),(14,4,.t 39)]),[]),(aZ 18 6 40,[]),(bT 7 0,[])]
abbrev VI:=[ak 41 0 3,aB 42 1 41,du 43 90 42,aa 44 1,aa 45 2,ak 46 0 3,aZ 1 46 43,ak 47 4 3,aZ 1 47 44,ak 48 6 3,aZ 1 48 45]
abbrev WR:=[bI 49 18 3,aZ 18 6 49,bT 7 0]
abbrev aiE:=(ay abV (.seq (.block 0 (ay SQ (.cond (.t 8) (ay aam .ret) (ay acU (.cond (.t 13) (ay S8 .ret) (ay aac (.cond (.t 27) (.seq (.cG Yb) .ret) .skip))))))) (ay VI (ay WR .ret))))
def i143:dm:=⟨3,50,[8,13,27],aiE,[.c 6 true 18,.t 7]⟩
theorem Ph:aK av Tryz.f143=some i143:=by kernel_rfl
abbrev YX:=[cD 1 0,oo 2 (.new xz)]
abbrev Zp:=[ak 3 10 1,aB 4 1 3,ak 5 11 1,aB 6 1 5,ak 7 12 1,aB 8 1 7,ak 9 13 1,aB 10 1 9,oo 11 (.build xz [(0,1,.t 4),(1,1,.t 6),(2,1,.t 8),(3,1,.t 10)]),aZ 4 2 11]
abbrev aos:=(ay YX (ay Zp .ret))
def i156:dm:=⟨1,12,[],aos,[.c 2 true 4]⟩
theorem PJ:aK av Tryz.f156=some i156:=by kernel_rfl
abbrev aen:=[cD 1 0,rI 2]
abbrev Xy:List (aj×List Nat):=[(ak 3 0 1,[]),(aB 4 1 3,[]),(ak 5 1 1,[0,1]),(aB 6 1 5,[0,1]),(ak 7 2 1,[0,1,2,3]),(aB 8 1 7,[0,1,2,3]),(ak 9 3 1,[0,1,2,3,4,5]),(aB 10 1 9,[0,1,2,3,4,5]),(oo 11 (.lC [.b false,.b false,.b false,.b false,.b false,.b false,.b false,.b false] 8 [(0,1,.c (.b true)),(1,1,.t 4),(2,1,.t 6),(3,1,.t 8),(4,1,.t 10),(5,1,.c (.b false)),(6,1,.c (.b false)),(7,1,.c (.b false))]),[]),(du 12 210 11,[]),(ak 13 4 1,[0,1,2,3,4,5,6,7,8,9]),(aB 14 1 13,[0,1,2,3,4,5,6,7,8,9]),(r7 15 14 8,[0,1,2,3,4,5,6,7,8,9]),(uC 16 15,[0,1,2,3,4,5,6,7,8,9]),(oo 17 (.bin .or (.c (.i .u8 128)) (.t 16)),[0,1,2,3,4,5,6,7,8,9]),(ak 18 4 1,[0,1,2,3,4,5,6,7,8,9,10,11,12,13,14]),(aB 19 1 18,[0,1,2,3,4,5,6,7,8,9,10,11,12,13,14]),(uC 20 19,[0,1,2,3,4,5,6,7,8,9,10,11,12,13,14]),(ak 21 5 1,[0,1,2,3,4,5,6,7,8,9,10,11,12,13,14,15,16,17]),(aB 22 1 21,[0,1,2,3,4,5,6,7,8,9,10,11,12,13,14,15,16,17]),(uC 23 22,[0,1,2,3,4,5,6,7,8,9,10,11,12,13,14,15,16,17]),(ak 24 6 1,[0,1,2,3,4,5,6,7,8,9,10,11,12,13,14,15,16,17,18,19,20]),(aB 25 1 24,[0,1,2,3,4,5,6,7,8,9,10,11,12,13,14,15,16,17,18,19,20]),(zZ 26 25 6,[0,1,2,3,4,5,6,7,8,9,10,11,12,13,14,15,16,17,18,19,20]),(ak 27 7 1,[0,1,2,3,4,5,6,7,8,9,10,11,12,13,14,15,16,17,18,19,20,21,22,23]),(aB 28 1 27,[0,1,2,3,4,5,6,7,8,9,10,11,12,13,14,15,16,17,18,19,20,21,22,23]),(zZ 29 28 4,[0,1,2,3,4,5,6,7,8,9,10,11,12,13,14,15,16,17,18,19,20,21,22,23]),(oo 30 (.bin .or (.t 26) (.t 29)),[0,1,2,3,4,5,6,7,8,9,10,11,12,13,14,15,16,17,18,19,20]),(uC 31 30,[0,1,2,3,4,5,6,7,8,9,10,11,12,13,14,15,16,17,18,19,20]),(oo 32 (.lC [.i .u8 0,.i .u8 0,.i .u8 0,.i .u8 0,.i .u8 0] 5 [(0,1,.t 12),(1,1,.t 17),(2,1,.t 20),(3,1,.t 23),(4,1,.t 31)]),[]),(oo 33 (.b2s (.t 32)),[]),(aa 2 33,[])]
abbrev ajy:=(ay aen (.seq (.cG Xy) .ret))
def i169:dm:=⟨1,34,[],ajy,[.t 2]⟩
theorem LL:aK av Tryz.f169=some i169:=by kernel_rfl
abbrev aaK:=[cI 6]
abbrev U2:=[aa 7 1,aa 8 0,oo 9 (.bin .geq (.t 7) (.t 8)),aO 10 9,bb 11 1 10,bb 12 2 10,BQ 13 11 12 10,bF 14 10 13,aa 6 14]
abbrev amU:=(ay aaK (ay U2 .ret))
def i182:dm:=⟨3,15,[],amU,[.t 6]⟩
theorem Mf:aK av Tryz.f182=some i182:=by kernel_rfl
abbrev adP:=[cI 2]
abbrev acZ:=[aa 5 0,cm 6 5,bT 7 0]
abbrev TY:=[ei 8 7 6]
abbrev Xw:=[aa 9 7,cU 10 1 5 7,aB 11 1 10,aa 3 9,aa 4 11]
abbrev W7:=[aa 12 4,aa 13 4,vg 14 13,jW 15 14,yn 16 12 15,aO 17 16,fB 18 0 17,fB 19 3 17,og 20 (.qT 1 (.t 18) none (some (.t 19)) none) 17 false false,fB 21 4 17,xW 22 65 20 21 17,jV 23 17 22]
abbrev aec:=[cI 2]
abbrev Xh:=[dA 24 7 1,aa 7 24]
abbrev aeg:=(ay TY (.seq (.cond (.t 8) .skip (.exit 0)) (.seq (.block 1 (ay Xw (ay W7 (.cond (.t 23) (ay aec .ret) .skip)))) (.cQ Xh))))
abbrev adT:=[pY 2]
abbrev an1:=(ay adP (.seq (ay acZ (.block 0 (.loop aeg))) (ay adT .ret)))
def i183:dm:=⟨1,25,[8,23],an1,[.t 2]⟩
theorem PA:aK av Tryz.f183=some i183:=by kernel_rfl
abbrev YG:=[cD 1 0,cI 2]
abbrev adD:=[ak 3 0 1,aB 4 1 3,ak 5 0 1,aB 6 1 5,Bv 7 6,jW 8 7,yb 9 4 8,aO 10 9,cr 11 1 1 10,cw 12 1 11 10,cr 13 1 1 10,cw 14 1 13 10,og 15 (.yk .u32 (.t 14)) 10 true false,og 16 (.yk .i64 (.t 15)) 10 true false,mq 17 12 16 10,bF 18 10 17,aO 19 18,cr 20 2 1 19,cw 21 1 20 19,cr 22 2 1 19,cw 23 1 22 19,og 24 (.bin .and (.t 23) (.c (.i .i64 32767))) 19 true false,mq 25 21 24 19,bF 26 19 25,aO 27 26,cr 28 3 1 27,cw 29 1 28 27,cr 30 3 1 27,cw 31 1 30 27,og 32 (.yk .u8 (.t 31)) 27 true false,og 33 (.yk .i64 (.t 32)) 27 true false,mq 34 29 33 27,bF 35 27 34,aa 2 35]
abbrev ag4:=(ay YG (ay adD .ret))
def i184:dm:=⟨1,36,[],ag4,[.t 2]⟩
theorem PY:aK av Tryz.f184=some i184:=by kernel_rfl
abbrev Vr:=[cD 1 0,oo 2 (.new xz)]
abbrev Tt:=[ak 3 10 1,aB 4 1 3,ak 5 11 1,aB 6 1 5,ak 7 12 1,aB 8 1 7,ak 9 13 1,aB 10 1 9,oo 11 (.build xz [(0,1,.t 4),(1,1,.t 6),(2,1,.t 8),(3,1,.t 10)]),aZ 4 2 11]
abbrev amA:=(ay Vr (ay Tt .ret))
def i185:dm:=⟨1,12,[],amA,[.c 2 true 4]⟩
theorem Lr:aK av Tryz.f185=some i185:=by kernel_rfl
abbrev ac8:=[oo 3 .Q9,aa 0 3]
abbrev Vz:=[aa 4 0,ot 5 (.WM true (.t 4))]
abbrev TJ:=[aa 7 0,oo 8 (.OH 265 (.agg []) (.t 7)),aa 6 8,bh 9 6 0,bh 10 6 1,oo 1 (.new []),aZ 0 1 9,aa 2 10]
abbrev adL:=[aa 11 2,nC 12 11]
abbrev UU:=[aa 13 0,Bu 13]
abbrev agU:=(ay ac8 (ay Vz (.cond (.t 5) (ay TJ (ay adL (.cond (.t 12) (.cQ UU) .skip))) .skip)))
def i186:dm:=⟨0,14,[5,12],agU,[]⟩
theorem PG:aK av Tryz.f186=some i186:=by kernel_rfl
abbrev ZA:List (aj×List Nat):=[(aa 2 0,[]),(bE 3 2,[]),(ak 4 18 3,[]),(aB 5 1 4,[]),(aa 6 0,[0,1,2,3]),(bE 7 6,[0,1,2,3]),(ak 8 0 7,[0,1,2,3]),(ak 9 4 8,[0,1,2,3]),(aB 10 1 9,[0,1,2,3]),(yn 11 5 10,[]),(aO 12 11,[]),(fB 13 0 12,[]),(uj 14 13 12,[]),(cE 15 18 14 12,[]),(cP 16 1 15 12,[]),(fB 17 0 12,[11,12,13,14]),(uj 18 17 12,[11,12,13,14]),(cE 19 0 18 12,[11,12,13,14]),(cE 20 3 19 12,[11,12,13,14]),(cP 21 1 20 12,[11,12,13,14]),(og 22 (.bin .eql (.t 16) (.t 21)) 12 false false,[]),(ep 23 12 22,[]),(aO 24 23,[]),(fB 25 0 24,[]),(uj 26 25 24,[]),(cE 27 28 26 24,[]),(cE 28 0 27 24,[]),(cP 29 1 28 24,[]),(jx 30 29 24,[]),(ep 31 24 30,[]),(aO 32 31,[]),(fB 33 0 32,[]),(uj 34 33 32,[]),(cE 35 28 34 32,[]),(cE 36 1 35 32,[]),(cP 37 1 36 32,[]),(jx 38 37 32,[]),(ep 39 32 38,[]),(aO 40 39,[]),(fB 41 0 40,[]),(uj 42 41 40,[]),(cE 43 28 42 40,[]),(cE 44 7 43 40,[]),(cP 45 1 44 40,[]),(lu 46 45 0 40,[]),(jV 47 40 46,[])]
abbrev aaL:List (aj×List Nat):=[(aa 48 0,[]),(aa 49 0,[0]),(aa 50 0,[0,1]),(aa 51 0,[0,1,2]),(aa 52 0,[0,1,2,3]),(bE 53 52,[0,1,2,3]),(ak 54 18 53,[0,1,2,3]),(aB 55 1 54,[0,1,2,3]),(aa 56 0,[0,1,2,3,4,5,6,7]),(bE 57 56,[0,1,2,3,4,5,6,7]),(ak 58 28 57,[0,1,2,3,4,5,6,7]),(ak 59 4 58,[0,1,2,3,4,5,6,7]),(aB 60 1 59,[0,1,2,3,4,5,6,7]),(bE 61 48,[1,2,3]),(ak 62 0 61,[1,2,3]),(ak 63 3 62,[1,2,3]),(aZ 1 63 55,[1,2,3]),(bE 64 49,[2,3]),(ak 65 0 64,[2,3]),(ak 66 8 65,[2,3]),(aZ 1 66 60,[2,3]),(bE 67 50,[3]),(ak 68 0 67,[3]),(ak 69 9 68,[3]),(xp (.st 1 (.t 69) (.c (.b true))),[3]),(bE 70 51,[]),(ak 71 0 70,[]),(ak 72 5 71,[]),(nA 1 72 0,[])]
abbrev YV:List (aj×List Nat):=[(aa 73 0,[]),(aa 74 0,[0]),(bE 75 74,[0]),(ak 76 0 75,[0]),(ak 77 14 76,[0]),(ak 78 0 77,[0]),(aB 79 1 78,[0]),(dA 80 79 1,[0]),(aa 81 0,[0,1,2,3,4,5,6,7]),(bE 82 81,[0,1,2,3,4,5,6,7]),(ak 83 19 82,[0,1,2,3,4,5,6,7]),(ak 84 2 83,[0,1,2,3,4,5,6,7]),(aB 85 1 84,[0,1,2,3,4,5,6,7]),(cK 86 225 80 85,[0]),(bE 87 73,[]),(ak 88 0 87,[]),(ak 89 10 88,[]),(aZ 1 89 86,[])]
abbrev W2:List (aj×List Nat):=[(aa 90 0,[]),(aa 91 0,[0]),(bE 92 91,[0]),(ak 93 0 92,[0]),(ak 94 14 93,[0]),(ak 95 1 94,[0]),(aB 96 1 95,[0]),(aa 97 0,[0,1,2,3,4,5,6]),(bE 98 97,[0,1,2,3,4,5,6]),(ak 99 0 98,[0,1,2,3,4,5,6]),(ak 100 2 99,[0,1,2,3,4,5,6]),(aB 101 1 100,[0,1,2,3,4,5,6]),(lN 102 96 101,[0]),(aa 103 0,[0,1,2,3,4,5,6,7,8,9,10,11,12]),(bE 104 103,[0,1,2,3,4,5,6,7,8,9,10,11,12]),(ak 105 19 104,[0,1,2,3,4,5,6,7,8,9,10,11,12]),(ak 106 3 105,[0,1,2,3,4,5,6,7,8,9,10,11,12]),(aB 107 1 106,[0,1,2,3,4,5,6,7,8,9,10,11,12]),(cK 108 226 102 107,[0]),(bE 109 90,[]),(ak 110 0 109,[]),(ak 111 11 110,[]),(aZ 1 111 108,[])]
abbrev Uq:List (aj×List Nat):=[(aa 112 0,[]),(aa 113 0,[0]),(bE 114 113,[0]),(ak 115 0 114,[0]),(ak 116 14 115,[0]),(ak 117 2 116,[0]),(aB 118 1 117,[0]),(dA 119 118 1,[0]),(aa 120 0,[0,1,2,3,4,5,6,7]),(bE 121 120,[0,1,2,3,4,5,6,7]),(ak 122 28 121,[0,1,2,3,4,5,6,7]),(ak 123 4 122,[0,1,2,3,4,5,6,7]),(aB 124 1 123,[0,1,2,3,4,5,6,7]),(oo 125 (.neg (.t 124)),[0,1,2,3,4,5,6,7]),(cK 126 227 119 125,[0]),(bE 127 112,[]),(ak 128 0 127,[]),(ak 129 12 128,[]),(aZ 1 129 126,[])]
abbrev acy:List (aj×List Nat):=[(aa 130 0,[]),(aa 131 0,[0]),(bE 132 131,[0]),(ak 133 0 132,[0]),(ak 134 14 133,[0]),(ak 135 3 134,[0]),(aB 136 1 135,[0]),(dA 137 136 1,[0]),(aa 138 0,[0,1,2,3,4,5,6,7]),(bE 139 138,[0,1,2,3,4,5,6,7]),(ak 140 28 139,[0,1,2,3,4,5,6,7]),(ak 141 5 140,[0,1,2,3,4,5,6,7]),(aB 142 1 141,[0,1,2,3,4,5,6,7]),(cK 143 228 137 142,[0]),(bE 144 130,[]),(ak 145 0 144,[]),(ak 146 13 145,[]),(aZ 1 146 143,[])]
abbrev Xz:=[aa 147 0,aa 148 0,bE 149 148,ak 150 19 149,ak 151 2 150,aB 152 1 151,jd 153 225 152 1,bE 154 147,ak 155 0 154,ak 156 7 155,aZ 1 156 153]
abbrev ahg:bG:=(.seq (.seq (.cG ZA) (.cond (.t 47) .ret .skip)) (.seq (.cG aaL) (.seq (.cG YV) (.seq (.cG W2) (.seq (.cG Uq) (.seq (.cG acy) (.cQ Xz)))))))
def i187:dm:=⟨1,157,[47],ahg,[]⟩
theorem O9:aK av Tryz.f187=some i187:=by kernel_rfl
abbrev Wc:List (aj×List Nat):=[(aa 4 0,[]),(bE 5 4,[]),(ak 6 18 5,[]),(aB 7 1 6,[]),(aa 8 0,[0,1,2,3]),(bE 9 8,[0,1,2,3]),(ak 10 0 9,[0,1,2,3]),(ak 11 3 10,[0,1,2,3]),(aB 12 1 11,[0,1,2,3]),(yb 13 7 12,[]),(du 14 229 13,[])]
abbrev abp:List (aj×List Nat):=[(aa 16 0,[]),(bE 17 16,[]),(ak 18 19 17,[]),(ak 19 2 18,[]),(aB 20 1 19,[]),(aa 21 0,[0,1,2,3,4]),(bE 22 21,[0,1,2,3,4]),(ak 23 0 22,[0,1,2,3,4]),(ak 24 7 23,[0,1,2,3,4]),(aB 25 1 24,[0,1,2,3,4]),(oo 26 (.call (.c (.fn 230 [])) [.t 20,.t 25,.c (.i .i64 16)]),[]),(aa 15 26,[]),(bh 27 15 0,[]),(bh 28 15 1,[12]),(aa 2 27,[13]),(aa 3 28,[])]
abbrev Y0:=[aa 29 3,jZ 30 29 0,aO 31 30,bb 32 2 31,bF 33 31 32,du 34 229 33]
abbrev UI:=[aa 35 0,aa 36 0,bE 37 36,ak 38 19 37,ak 39 2 38,aB 40 1 39,bE 41 35,ak 42 0 41,ak 43 7 42,aZ 1 43 40]
abbrev aom:bG:=(.seq (.cG Wc) (.seq (.cG abp) (ay Y0 (.cQ UI))))
def i188:dm:=⟨1,44,[],aom,[]⟩
theorem Nn:aK av Tryz.f188=some i188:=by kernel_rfl
abbrev Yk:List (aj×List Nat):=[(aa 2 0,[]),(bE 3 2,[]),(ak 4 28 3,[]),(ak 5 4 4,[]),(aB 6 1 5,[]),(aa 7 0,[0,1,2,3,4]),(bE 8 7,[0,1,2,3,4]),(ak 9 0 8,[0,1,2,3,4]),(ak 10 8 9,[0,1,2,3,4]),(aB 11 1 10,[0,1,2,3,4]),(zX 12 6 11,[])]
abbrev abb:List (aj×List Nat):=[(aa 13 0,[]),(aa 14 0,[0]),(aa 15 0,[0,1]),(bE 16 15,[0,1]),(ak 17 28 16,[0,1]),(ak 18 4 17,[0,1]),(aB 19 1 18,[0,1]),(aa 20 0,[0,1,2,3,4,5,6]),(bE 21 20,[0,1,2,3,4,5,6]),(ak 22 0 21,[0,1,2,3,4,5,6]),(ak 23 5 22,[0,1,2,3,4,5,6]),(aB 24 1 23,[0,1,2,3,4,5,6]),(aa 25 0,[0,1,2,3,4,5,6,7,8,9,10,11]),(bE 26 25,[0,1,2,3,4,5,6,7,8,9,10,11]),(ak 27 0 26,[0,1,2,3,4,5,6,7,8,9,10,11]),(ak 28 6 27,[0,1,2,3,4,5,6,7,8,9,10,11]),(aB 29 1 28,[0,1,2,3,4,5,6,7,8,9,10,11]),(oo 30 (.mn (.t 24) [.t 29]),[0,1,2,3,4,5,6]),(bE 31 13,[1,17]),(ak 32 0 31,[1,17]),(ak 33 8 32,[1,17]),(aZ 1 33 19,[1,17]),(bE 34 14,[]),(ak 35 0 34,[]),(ak 36 5 35,[]),(aZ 1 36 30,[])]
abbrev aav:=[aa 37 0,bE 38 37,ak 39 28 38,ak 40 1 39,ot 41 (.ld false 1 (.t 40))]
abbrev Zm:=[aa 42 0,bE 43 42,ak 44 0 43,ak 45 5 44,nA 1 45 0]
abbrev SU:List (aj×List Nat):=[(aa 46 0,[]),(bE 47 46,[]),(ak 48 28 47,[]),(ak 49 2 48,[]),(aB 50 1 49,[]),(aO 51 50,[]),(bb 52 0 51,[]),(uw 53 52 51,[]),(cr 54 28 53 51,[]),(cr 55 6 54 51,[]),(cw 56 1 55 51,[]),(bb 57 0 51,[6,7,8,9,10]),(uw 58 57 51,[6,7,8,9,10]),(cr 59 0 58 51,[6,7,8,9,10]),(cr 60 5 59 51,[6,7,8,9,10]),(cw 61 1 60 51,[6,7,8,9,10]),(og 62 (.bin .add (.t 61) (.c (.i .i64 1))) 51 true false,[6,7,8,9,10]),(mq 63 56 62 51,[]),(bF 64 51 63,[]),(aO 65 64,[]),(bb 66 0 65,[]),(uw 67 66 65,[]),(cr 68 28 67 65,[]),(cr 69 6 68 65,[]),(cw 70 1 69 65,[]),(bb 71 0 65,[20,21,22,23,24]),(uw 72 71 65,[20,21,22,23,24]),(cr 73 0 72 65,[20,21,22,23,24]),(cr 74 6 73 65,[20,21,22,23,24]),(cw 75 1 74 65,[20,21,22,23,24]),(BQ 76 70 75 65,[]),(zf 77 65 76,[])]
abbrev RO:=[aa 78 0,bE 79 78,ak 80 0 79,ak 81 5 80,aB 82 1 81,dA 83 82 1,bE 84 78,ak 85 0 84,ak 86 5 85,aZ 1 86 83]
abbrev acI:List (aj×List Nat):=[(aa 87 0,[]),(aa 88 0,[0]),(bE 89 88,[0]),(ak 90 28 89,[0]),(ak 91 6 90,[0]),(aB 92 1 91,[0]),(aa 93 0,[0,1,2,3,4,5]),(bE 94 93,[0,1,2,3,4,5]),(ak 95 0 94,[0,1,2,3,4,5]),(ak 96 5 95,[0,1,2,3,4,5]),(aB 97 1 96,[0,1,2,3,4,5]),(oo 98 (.bin .leq (.t 92) (.t 97)),[0]),(bE 99 87,[]),(ak 100 0 99,[]),(ak 101 9 100,[]),(aZ 1 101 98,[])]
abbrev RP:=[aa 102 0,bE 103 102,ak 104 0 103,ak 105 9 104,aB 106 1 105,nC 107 106]
abbrev aa5:=[aa 108 0,aa 109 0,bE 110 109,ak 111 0 110,ak 112 12 111,aB 113 1 112,jd 114 227 113 (-1),bE 115 108,ak 116 0 115,ak 117 12 116,aZ 1 117 114]
abbrev ah3:bG:=(.seq (.seq (.cG Yk) (.cond (.t 12) .ret .skip)) (.seq (.cG abb) (.seq (ay aav (.cond (.t 41) (.cQ Zm) .skip)) (.seq (.seq (.cG SU) (.cond (.t 77) (.cQ RO) .skip)) (.seq (.cG acI) (ay RP (.cond (.t 107) (.cQ aa5) .skip)))))))
def i189:dm:=⟨1,118,[12,41,77,107],ah3,[]⟩
theorem NW:aK av Tryz.f189=some i189:=by kernel_rfl
abbrev V3:=[aa 2 0,bE 3 2,ak 4 0 3,ak 5 9 4,aB 6 1 5,lV 7 6,aO 8 7,fB 9 0 8,uj 10 9 8,cE 11 28 10 8,cE 12 7 11 8,cP 13 1 12 8,lu 14 13 0 8,jV 15 8 14]
abbrev aaZ:=[aa 16 0,aa 17 0,bE 18 17,ak 19 0 18,ak 20 10 19,aB 21 1 20,jd 22 225 21 1,bE 23 16,ak 24 0 23,ak 25 10 24,aZ 1 25 22]
abbrev YQ:=[oo 26 (.call (.c (.fn 229 [])) [.c (.b false)])]
abbrev akm:=(ay V3 (.cond (.t 15) (ay aaZ (.cQ YQ)) .skip))
def i190:dm:=⟨1,27,[15],akm,[]⟩
theorem OC:aK av Tryz.f190=some i190:=by kernel_rfl
abbrev T7:List (aj×List Nat):=[(aa 5 0,[]),(aa 6 0,[0]),(bE 7 6,[0]),(ak 8 19 7,[0]),(ak 9 2 8,[0]),(aB 10 1 9,[0]),(aa 11 0,[0,1,2,3,4,5]),(bE 12 11,[0,1,2,3,4,5]),(ak 13 0 12,[0,1,2,3,4,5]),(ak 14 10 13,[0,1,2,3,4,5]),(aB 15 1 14,[0,1,2,3,4,5]),(cK 16 231 10 15,[0]),(aa 17 0,[0,1,2,3,4,5,6,7,8,9,10,11]),(bE 18 17,[0,1,2,3,4,5,6,7,8,9,10,11]),(ak 19 19 18,[0,1,2,3,4,5,6,7,8,9,10,11]),(ak 20 3 19,[0,1,2,3,4,5,6,7,8,9,10,11]),(aB 21 1 20,[0,1,2,3,4,5,6,7,8,9,10,11]),(aa 22 0,[0,1,2,3,4,5,6,7,8,9,10,11,12,13,14,15,16]),(bE 23 22,[0,1,2,3,4,5,6,7,8,9,10,11,12,13,14,15,16]),(ak 24 0 23,[0,1,2,3,4,5,6,7,8,9,10,11,12,13,14,15,16]),(ak 25 11 24,[0,1,2,3,4,5,6,7,8,9,10,11,12,13,14,15,16]),(aB 26 1 25,[0,1,2,3,4,5,6,7,8,9,10,11,12,13,14,15,16]),(cK 27 232 21 26,[0]),(aa 28 0,[0,1,2,3,4,5,6,7,8,9,10,11,12,13,14,15,16,17,18,19,20,21,22]),(bE 29 28,[0,1,2,3,4,5,6,7,8,9,10,11,12,13,14,15,16,17,18,19,20,21,22]),(ak 30 28 29,[0,1,2,3,4,5,6,7,8,9,10,11,12,13,14,15,16,17,18,19,20,21,22]),(ak 31 4 30,[0,1,2,3,4,5,6,7,8,9,10,11,12,13,14,15,16,17,18,19,20,21,22]),(aB 32 1 31,[0,1,2,3,4,5,6,7,8,9,10,11,12,13,14,15,16,17,18,19,20,21,22]),(aa 33 0,[0,1,2,3,4,5,6,7,8,9,10,11,12,13,14,15,16,17,18,19,20,21,22,23,24,25,26,27]),(bE 34 33,[0,1,2,3,4,5,6,7,8,9,10,11,12,13,14,15,16,17,18,19,20,21,22,23,24,25,26,27]),(ak 35 0 34,[0,1,2,3,4,5,6,7,8,9,10,11,12,13,14,15,16,17,18,19,20,21,22,23,24,25,26,27]),(ak 36 12 35,[0,1,2,3,4,5,6,7,8,9,10,11,12,13,14,15,16,17,18,19,20,21,22,23,24,25,26,27]),(aB 37 1 36,[0,1,2,3,4,5,6,7,8,9,10,11,12,13,14,15,16,17,18,19,20,21,22,23,24,25,26,27]),(cK 38 227 32 37,[0]),(aa 39 0,[0,1,2,3,4,5,6,7,8,9,10,11,12,13,14,15,16,17,18,19,20,21,22,23,24,25,26,27,28,29,30,31,32,33]),(bE 40 39,[0,1,2,3,4,5,6,7,8,9,10,11,12,13,14,15,16,17,18,19,20,21,22,23,24,25,26,27,28,29,30,31,32,33]),(ak 41 28 40,[0,1,2,3,4,5,6,7,8,9,10,11,12,13,14,15,16,17,18,19,20,21,22,23,24,25,26,27,28,29,30,31,32,33]),(ak 42 5 41,[0,1,2,3,4,5,6,7,8,9,10,11,12,13,14,15,16,17,18,19,20,21,22,23,24,25,26,27,28,29,30,31,32,33]),(aB 43 1 42,[0,1,2,3,4,5,6,7,8,9,10,11,12,13,14,15,16,17,18,19,20,21,22,23,24,25,26,27,28,29,30,31,32,33]),(aa 44 0,[0,1,2,3,4,5,6,7,8,9,10,11,12,13,14,15,16,17,18,19,20,21,22,23,24,25,26,27,28,29,30,31,32,33,34,35,36,37,38]),(bE 45 44,[0,1,2,3,4,5,6,7,8,9,10,11,12,13,14,15,16,17,18,19,20,21,22,23,24,25,26,27,28,29,30,31,32,33,34,35,36,37,38]),(ak 46 0 45,[0,1,2,3,4,5,6,7,8,9,10,11,12,13,14,15,16,17,18,19,20,21,22,23,24,25,26,27,28,29,30,31,32,33,34,35,36,37,38]),(ak 47 13 46,[0,1,2,3,4,5,6,7,8,9,10,11,12,13,14,15,16,17,18,19,20,21,22,23,24,25,26,27,28,29,30,31,32,33,34,35,36,37,38]),(aB 48 1 47,[0,1,2,3,4,5,6,7,8,9,10,11,12,13,14,15,16,17,18,19,20,21,22,23,24,25,26,27,28,29,30,31,32,33,34,35,36,37,38]),(cK 49 233 43 48,[0]),(oo 50 (.build xz [(0,1,.t 16),(1,1,.t 27),(2,1,.t 38),(3,1,.t 49)]),[0]),(bE 51 5,[]),(ak 52 0 51,[]),(ak 53 14 52,[]),(aZ 4 53 50,[])]
abbrev VB:=[aa 54 0,bE 55 54,ak 56 19 55,bI 57 9 56,C9 2 0 0 0 0 0,aZ 9 2 57]
abbrev VZ:List (aj×List Nat):=[(ak 59 8 2,[]),(aB 60 1 59,[]),(aa 61 0,[0,1]),(bE 62 61,[0,1]),(ak 63 0 62,[0,1]),(ak 64 14 63,[0,1]),(ak 65 2 64,[0,1]),(aB 66 1 65,[0,1]),(aa 67 0,[0,1,2,3,4,5,6,7]),(bE 68 67,[0,1,2,3,4,5,6,7]),(ak 69 0 68,[0,1,2,3,4,5,6,7]),(ak 70 14 69,[0,1,2,3,4,5,6,7]),(ak 71 3 70,[0,1,2,3,4,5,6,7]),(aB 72 1 71,[0,1,2,3,4,5,6,7]),(xM 73 234 60 66 72,[]),(aa 58 73,[]),(bh 74 58 0,[]),(bh 75 58 1,[16]),(aa 3 74,[17]),(aa 4 75,[])]
abbrev Xn:=[aa 76 4,jZ 77 76 0,du 78 229 77]
abbrev ZR:List (aj×List Nat):=[(aa 79 0,[]),(bE 80 79,[]),(ak 81 0 80,[]),(ak 82 1 81,[]),(aB 83 1 82,[]),(aa 84 0,[0,1,2,3,4]),(bE 85 84,[0,1,2,3,4]),(ak 86 0 85,[0,1,2,3,4]),(ak 87 14 86,[0,1,2,3,4]),(ak 88 0 87,[0,1,2,3,4]),(aB 89 1 88,[0,1,2,3,4]),(aa 90 0,[0,1,2,3,4,5,6,7,8,9,10]),(bE 91 90,[0,1,2,3,4,5,6,7,8,9,10]),(ak 92 0 91,[0,1,2,3,4,5,6,7,8,9,10]),(ak 93 14 92,[0,1,2,3,4,5,6,7,8,9,10]),(ak 94 1 93,[0,1,2,3,4,5,6,7,8,9,10]),(aB 95 1 94,[0,1,2,3,4,5,6,7,8,9,10]),(aa 96 3,[0,1,2,3,4,5,6,7,8,9,10,11,12,13,14,15,16]),(ak 97 4 2,[5,6,7,8,9,10,11,12,13,14,15,16,17]),(aZ 1 97 83,[5,6,7,8,9,10,11,12,13,14,15,16,17]),(ak 98 2 2,[11,12,13,14,15,16,17]),(aZ 1 98 89,[11,12,13,14,15,16,17]),(ak 99 3 2,[17]),(aZ 1 99 95,[17]),(ak 100 8 2,[]),(aZ 1 100 96,[])]
abbrev TW:List (aj×List Nat):=[(ak 101 5 2,[]),(aB 102 1 101,[]),(du 103 90 102,[]),(ak 104 6 2,[0,1,2]),(aB 105 1 104,[0,1,2]),(du 106 235 105,[]),(ak 107 5 2,[5]),(aZ 1 107 103,[]),(ak 108 6 2,[]),(aZ 1 108 106,[])]
abbrev ZS:List (aj×List Nat):=[(aa 109 0,[]),(aa 110 0,[0]),(bE 111 110,[0]),(ak 112 36 111,[0]),(aB 113 1 112,[0]),(bI 114 9 2,[0,1,2,3,4]),(oo 115 (.lC [.b false,.i .i64 0,.i .i64 0,.i .i64 0,.i .i64 0,.ns,.ns,.i .i64 0,.s []] 1 [(0,9,.t 114)]),[0,1,2,3,4]),(oo 116 (.app 9 112 [.b false,.i .i64 0,.i .i64 0,.i .i64 0,.i .i64 0,.ns,.ns,.i .i64 0,.s []] (.t 113) (.t 115)),[0]),(bE 117 109,[]),(ak 118 36 117,[]),(aZ 1 118 116,[])]
abbrev alP:bG:=(.seq (.cG T7) (ay VB (.seq (.cG VZ) (ay Xn (.seq (.cG ZR) (.seq (.cG TW) (.cG ZS)))))))
def i191:dm:=⟨1,119,[],alP,[]⟩
theorem L5:aK av Tryz.f191=some i191:=by kernel_rfl
abbrev Xj:=[cI 4]
abbrev Y5:=[aa 5 0,aa 6 1,cK 7 236 5 6,vC 8 7 0,aa 4 8]
abbrev aoh:=(ay Xj (ay Y5 .ret))
def i194:dm:=⟨2,9,[],aoh,[.t 4]⟩
theorem N5:aK av Tryz.f194=some i194:=by kernel_rfl
abbrev Tf:=[cI 3]
abbrev Xb:=[aa 4 0,uq 5 4 0,aO 6 5,fB 7 0 6,cP 8 1 1 6,yz 9 7 8 6,lu 10 9 0 6,ep 11 6 10,aa 3 11]
abbrev ahf:=(ay Tf (ay Xb .ret))
def i195:dm:=⟨2,12,[],ahf,[.t 3]⟩
theorem M3:aK av Tryz.f195=some i195:=by kernel_rfl
abbrev UG:=[cI 4]
abbrev Yi:=[aa 5 1,vC 6 5 0,aO 7 6,bb 8 1 7,bb 9 0 7,BQ 10 8 9 7,bF 11 7 10,aa 4 11]
abbrev ak1:=(ay UG (ay Yi .ret))
def i196:dm:=⟨2,12,[],ak1,[.t 4]⟩
theorem O5:aK av Tryz.f196=some i196:=by kernel_rfl
abbrev Up:=[oo 2 (.mv (.c (.i .u8 0)))]
abbrev Sl:=[oo 3 (.mv (.c (.i .u8 0)))]
abbrev VK:=[aa 6 0,cm 7 6,bT 8 0]
abbrev Y7:=[ei 9 8 7]
abbrev W8:=[cU 10 1 6 8,aB 11 1 10,aa 5 11]
abbrev UR:=[aa 12 3,zZ 13 12 1,aa 3 13]
abbrev U8:=[aO 14 5]
abbrev V1:=[aa 15 3,oo 16 (.bin .or (.t 15) (.c (.i .u8 1))),aa 3 16]
abbrev Wb:=[dA 17 8 1,aa 8 17]
abbrev Sa:=(ay Y7 (.seq (.cond (.t 9) .skip (.exit 0)) (.seq (.block 1 (ay W8 (ay UR (ay U8 (.cond (.t 14) (.cQ V1) .skip))))) (.cQ Wb))))
abbrev Py:=[aa 18 3,aa 2 18]
abbrev ahO:=(ay Up (ay Sl (.seq (ay VK (.block 0 (.loop Sa))) (ay Py .ret))))
def i210:dm:=⟨1,19,[9,14],ahO,[.t 2]⟩
theorem Lc:aK av Tryz.f210=some i210:=by kernel_rfl
abbrev aaR:=[bT 4 0]
abbrev aaB:=[aa 5 0,Bv 6 5,aa 7 1,Bv 8 7,xP 9 6 8,jW 10 9,aa 4 10]
abbrev amw:=(ay aaR (ay aaB .ret))
def i225:dm:=⟨2,11,[],amw,[.t 4]⟩
theorem NL:aK av Tryz.f225=some i225:=by kernel_rfl
abbrev YR:=[bT 4 0]
abbrev abf:=[aa 5 0,vg 6 5,aa 7 1,vg 8 7,xP 9 6 8,jW 10 9,aa 4 10]
abbrev ahj:=(ay YR (ay abf .ret))
def i226:dm:=⟨2,11,[],ahj,[.t 4]⟩
theorem N7:aK av Tryz.f226=some i226:=by kernel_rfl
abbrev Yv:=[bT 4 0]
abbrev R4:=[aa 5 0,aa 6 1,lN 7 5 6,oo 8 (.bin .and (.t 7) (.c (.i .i64 32767))),aa 4 8]
abbrev ak8:=(ay Yv (ay R4 .ret))
def i227:dm:=⟨2,9,[],ak8,[.t 4]⟩
theorem NK:aK av Tryz.f227=some i227:=by kernel_rfl
abbrev acD:=[bT 4 0]
abbrev ael:=[aa 5 0,uC 6 5,aa 7 1,uC 8 7,xP 9 6 8,jW 10 9,aa 4 10]
abbrev anx:=(ay acD (ay ael .ret))
def i228:dm:=⟨2,11,[],anx,[.t 4]⟩
theorem OS:aK av Tryz.f228=some i228:=by kernel_rfl
abbrev abk:=[aa 2 0,nC 3 2]
abbrev VS:=[oo 4 (.build [] []),oo 5 (.Kw 265 (.t 4)),Bu 5]
abbrev anM:=(ay abk (.cond (.t 3) (.cQ VS) .skip))
def i229:dm:=⟨1,6,[3],anM,[]⟩
theorem FB:aK av Tryz.f229=some i229:=by kernel_rfl
abbrev aeq:=[cI 6,bT 7 0]
abbrev acR:=[aa 11 0,aa 12 1,aa 13 2,xM 14 248 11 12 13,aa 10 14,bh 15 10 0,bh 16 10 1,aa 8 15,aa 9 16]
abbrev U6:=[aa 17 8,oo 18 (.bin .gtr (.t 17) (.c (.i .i64 0))),aa 19 9,aa 6 18,aa 7 19]
abbrev afo:=(ay aeq (ay acR (ay U6 .ret)))
def i230:dm:=⟨3,20,[],afo,[.t 6,.t 7]⟩
theorem Mz:aK av Tryz.f230=some i230:=by kernel_rfl
abbrev adh:=[bT 4 0]
abbrev Wp:=[aa 5 0,Bv 6 5,aa 7 1,Bv 8 7,lN 9 6 8,jW 10 9,aa 4 10]
abbrev anb:=(ay adh (ay Wp .ret))
def i231:dm:=⟨2,11,[],anb,[.t 4]⟩
theorem Mo:aK av Tryz.f231=some i231:=by kernel_rfl
abbrev abi:=[bT 4 0]
abbrev Xx:=[aa 5 0,vg 6 5,aa 7 1,vg 8 7,lN 9 6 8,jW 10 9,aa 4 10]
abbrev an2:=(ay abi (ay Xx .ret))
def i232:dm:=⟨2,11,[],an2,[.t 4]⟩
theorem LX:aK av Tryz.f232=some i232:=by kernel_rfl
abbrev Vs:=[bT 4 0]
abbrev VH:=[aa 5 0,uC 6 5,aa 7 1,uC 8 7,lN 9 6 8,jW 10 9,aa 4 10]
abbrev afr:=(ay Vs (ay VH .ret))
def i233:dm:=⟨2,11,[],afr,[.t 4]⟩
theorem PB:aK av Tryz.f233=some i233:=by kernel_rfl
abbrev Yr:=[rI 6,bT 7 0]
abbrev RQ:=[aa 12 0,du 13 66 12,aa 11 13,bh 14 11 0,bh 15 11 1,bh 16 11 2,CW 8 0 0 0 0,aZ 8 8 14,aa 9 15,aa 10 16]
abbrev abu:=[aa 17 10,vV 18 17 0]
abbrev U0:=[aa 19 10,rI 6,aa 7 19]
abbrev Ur:=[aa 20 1,Dx 21 196 32767 20,lV 22 21,aO 23 22,fB 24 2 23,Aw 25 196 255 24 23,jx 26 25 23,jV 27 23 26]
abbrev U3:=[rI 6,bT 7 2]
abbrev YM:=[aa 28 1,aa 29 2,ak 30 4 8,aZ 1 30 28,ak 31 5 8,aZ 1 31 29]
abbrev Wh:=[bI 32 8 8,du 33 169 32,aa 34 9,lN 35 33 34,aa 6 35,bT 7 0]
abbrev aiZ:=(ay Yr (ay RQ (.seq (ay abu (.cond (.t 18) (ay U0 .ret) .skip)) (.seq (ay Ur (.cond (.t 27) (ay U3 .ret) .skip)) (ay YM (ay Wh .ret))))))
def i234:dm:=⟨3,36,[18,27],aiZ,[.t 6,.t 7]⟩
theorem P0:aK av Tryz.f234=some i234:=by kernel_rfl
abbrev ac2:=[gA 2]
abbrev V4:=[aa 3 0,CM 4 1 3]
abbrev Vt:=[gA 2]
abbrev ZD:=[Bf 5 0,aa 6 0,oo 7 (.app 2 24 [.i .i64 0,.s []] (.t 5) (.t 6)),aa 2 7]
abbrev aoI:=(ay ac2 (.seq (ay V4 (.cond (.t 4) (ay Vt .ret) .skip)) (ay ZD .ret)))
def i235:dm:=⟨1,8,[4],aoI,[.t 2]⟩
theorem PH:aK av Tryz.f235=some i235:=by kernel_rfl
abbrev X4:=[bT 4 0]
abbrev adN:=[aa 6 0,cm 7 6,bT 8 0]
abbrev abx:=[ei 9 8 7]
abbrev Xi:=[aa 10 8,aa 5 10]
abbrev Vn:=[aa 11 1,aa 12 0,aa 13 5,cU 14 1 12 13,aB 15 1 14,ot 16 (.call (.t 11) [.t 15])]
abbrev ZJ:=[aa 17 5,aa 4 17]
abbrev RT:=[dA 18 8 1,aa 8 18]
abbrev ac6:=(ay abx (.seq (.cond (.t 9) .skip (.exit 0)) (.seq (.block 1 (ay Xi (ay Vn (.cond (.t 16) (ay ZJ .ret) .skip)))) (.cQ RT))))
abbrev aaW:=[bT 4 (-1)]
abbrev aj0:=(ay X4 (.seq (ay adN (.block 0 (.loop ac6))) (ay aaW .ret)))
def i236:dm:=⟨2,19,[9,16],aj0,[.t 4]⟩
theorem NS:aK av Tryz.f236=some i236:=by kernel_rfl
abbrev Yd:=[bT 6 0,bT 7 0]
abbrev ZO:=[aa 9 2,uq 10 9 1,aO 11 10,fB 12 2 11,Dg 13 12 32 11,ep 14 11 13,aO 15 14,fB 16 0 15,CJ 17 16 0 15,ep 18 15 17,aO 19 18,fB 20 0 19,fB 21 2 19,yz 22 20 21 19,lu 23 22 0 19,ep 24 19 23,aO 25 24,fB 26 1 25,CJ 27 26 0 25,ep 28 25 27,aO 29 28,fB 30 1 29,fB 31 2 29,yz 32 30 31 29,lu 33 32 0 29,jV 34 29 33]
abbrev T8:=[bT 6 0,bT 7 2]
abbrev UO:=[aa 35 0,aa 36 1,xP 37 35 36,aa 38 2,oo 39 (.bin .shl (.c (.i .i64 1)) (.t 38)),kB 40 39 1,oo 41 (.bin .and (.t 37) (.t 40)),aa 8 41]
abbrev Yz:=[aa 42 8,aa 43 2,kB 44 43 1,oo 45 (.bin .shr (.t 42) (.t 44)),CU 46 45 1]
abbrev Uc:=[aa 47 8,aa 48 2,oo 49 (.bin .shl (.c (.i .i64 1)) (.t 48)),xP 50 47 49,aa 8 50]
abbrev Vo:=[aa 51 8,aa 6 51,bT 7 0]
abbrev ami:=(ay Yd (.seq (ay ZO (.cond (.t 34) (ay T8 .ret) .skip)) (ay UO (.seq (ay Yz (.cond (.t 46) (.cQ Uc) .skip)) (ay Vo .ret)))))
def i248:dm:=⟨3,52,[34,46],ami,[.t 6,.t 7]⟩
theorem Ef:aK av Tryz.f248=some i248:=by kernel_rfl
theorem mo:Tryz.prog.follows .mixedOrders=true:=by kernel_rfl
theorem dT {f:FuncId} {fn:Func} {I:dm} {cx:Cx} {args:List AV} {h:Hp} {n:Nat} {v2:AV} {h2:Hp} {n2:Nat} (a:Sound av cx) (b:Tryz.prog.funcs[f]? =some fn) (c:aK av fn=some I) (d:jw ⟨av,cx,I.ct,I.N,n⟩ I.code (qS I.res fun v h' n'=>Go.Ab.Ends n v h' n' v2 h2 n2) (eS 0 args) h n) (e:Nat.ble args.length I.N=true:=by rfl):bt av f args h n v2 h2 n2:=bt.dQ a mo b c (Er e) (aQ d)
def da (lo hi x:Int):Bool:=decide (lo<=x)&&decide (x<=hi)
theorem at6 (lo x hi:Int):bt av 182 [.i .i64 lo,.i .i64 x,.i .i64 hi] [] 0 (.b (da lo hi x)) [] 0:=by
 refine dT Sound.nil Tryz.func182 Mf ?_
 dsimp only [i182];simp only [go_sem,simprocAttr];repeat' (first|refine nr (fun _=> ?_) (fun _=> ?_)|refine jP ?_ ?_)
 all_goals (refine Ends.au rfl (cS _ ?_);simp [da] at *;try omega)
def j9:Ct
 |[.i .i64 lo,.i .i64 x,.i .i64 hi],_,n=>some (true,{v:= .b (da lo hi x),n})
 |_,_,_=>none
theorem afp:aq av 182 j9:=fun args h n c E hc ht=>by
 unfold j9 at hc;split at hc
 ·cases hc;exact ax.pure (by kernel_rfl) rfl rfl (at6 _ _ _) _ _
 ·cases hc
theorem w8k (x:Int):(x==IntKind.i64.wrap (IntKind.u8.wrap x))=da 0 255 x:=by
 rw [qN,bS (by omega) (by omega),iG];simp [da];omega
theorem ary (x:Int):(x==IntKind.i64.wrap (IntKind.u16.wrap x))=da 0 65535 x:=by
 rw [mY,bS (by omega) (by omega),iG];simp [da];omega
theorem af2 (x:Int):(x==IntKind.i64.wrap (IntKind.u32.wrap x))=da 0 4294967295 x:=by
 rw [mO,bS (by omega) (by omega),iG];simp [da];omega
theorem atu (x:Int):(x==iU .i64 x 32767)=da 0 32767 x:=by
 rw [Qi,iG];simp [da];omega
def tw (s t i b:Int):Bool:=da 0 65535 s&&(da 0 4294967295 t&&(da 0 32767 i&&da 0 255 b))
theorem aqE (s t i b:Int):bt av 184 [.agg [.i .i64 s,.i .i64 t,.i .i64 i,.i .i64 b]] [] 0 (.b (tw s t i b)) [] 0:=by
 refine dT Sound.nil Tryz.func184 PY ?_
 dsimp only [i184];simp only [go_sem,w8k,ary,af2,atu,simprocAttr];repeat' (first|refine nr (fun _=> ?_) (fun _=> ?_)|refine jP ?_ ?_)
 all_goals (refine Ends.au rfl (cS _ ?_);simp [tw, *])
def mC:Ct
 |[.agg [.i .i64 s,.i .i64 t,.i .i64 i,.i .i64 b]],_,n=>some (true,{v:= .b (tw s t i b),n})
 |_,_,_=>none
theorem aqi:aq av 184 mC:=fun args h n c E hc ht=>by
 unfold mC at hc;split at hc
 ·cases hc;exact ax.pure (by kernel_rfl) rfl rfl (aqE _ _ _ _) _ _
 ·cases hc
/-! switches -/
structure Sw where
 l:List Int
 ou:Int
 st:Int
 nw:Int
 wa:Int
 ca:Int
 ai:Int
 tp:Int
 fr:Int
 kp:Bool
 sq:Int
 tm:Int
 id:Int
 ba:Int
 ss:Int
 sT:Int
 si:Int
 sb:Int
def Sw.c (s:Sw) (v:AV):List AV:=[v,.i .i64 s.ou,.i .i64 s.st,.i .i64 s.nw,.i .i64 s.wa,.i .i64 s.ca,.i .i64 s.ai,.i .i64 s.tp,.i .i64 s.fr,.b s.kp,.i .i64 s.sq,.i .i64 s.tm,.i .i64 s.id,.i .i64 s.ba,.i .i64 s.ss,.i .i64 s.sT,.i .i64 s.si,.i .i64 s.sb]
def Sw.a (s:Sw):List AV:=[.fz (rows aC s.l) s.l.length,.i .i64 s.ou,.i .i64 s.st,.i .i64 s.nw,.i .i64 s.wa,.i .i64 s.ca,.i .i64 s.ai,.i .i64 s.tp,.i .i64 s.fr,.b s.kp,.i .i64 s.sq,.i .i64 s.tm,.i .i64 s.id,.i .i64 s.ba,.i .i64 s.ss,.i .i64 s.sT,.i .i64 s.si,.i .i64 s.sb]
theorem ib (j:Nat) (l:List Int):ae j (rows aC l)=true:=aD _ (bN gN)
theorem Sw.al (j:Nat) (s:Sw):ae j s.a=true:=by simp only [Sw.a,ae,AV.al,ib,az]
theorem eE (l:List Int):bk 1 dJ l.length (rows aC l)=some l:=eu bP (fun a=>rfl) l
def EX:List AV->Option Sw
 |[.fz L m,.i .i64 ou,.i .i64 st,.i .i64 nw,.i .i64 wa,.i .i64 ca,.i .i64 ai,.i .i64 tp,.i .i64 fr,.b kp,.i .i64 sq,.i .i64 tm,.i .i64 id,.i .i64 ba,.i .i64 ss,.i .i64 sT,.i .i64 si,.i .i64 sb]=>
  (bk 1 dJ m L).bind fun l=>some ⟨l,ou,st,nw,wa,ca,ai,tp,fr,kp,sq,tm,id,ba,ss,sT,si,sb⟩
 |_=>none
theorem lQ (s:Sw):EX s.a=some s:=by
 obtain ⟨l,ou,st,nw,wa,ca,ai,tp,fr,kp,sq,tm,id,ba,ss,sT,si,sb⟩:=s;simp only [EX,Sw.a,eE,aS]
theorem mZ {c:List AV} {s:Sw} (e:EX c=some s):c=s.a:=by
 unfold EX at e;split at e
 ·simp only [af,aP] at e;obtain ⟨l,hl,rfl⟩:=e;obtain ⟨rfl,hm⟩:=bD (f:=aC) (fun c a h=>dx c a h) hl;subst hm;rfl
 ·cases e
theorem atc (s:Sw):bt av 185 [.agg s.a] [] 0 (.agg [.i .i64 s.sq,.i .i64 s.tm,.i .i64 s.id,.i .i64 s.ba]) [] 0:=by
 refine dT Sound.nil Tryz.func185 Lr ?_
 dsimp only [i185];simp only [Sw.a];simp only [go_sem,simprocAttr];exact Ends.au rfl rfl
theorem asc (s:Sw):bt av 156 [.agg s.a] [] 0 (.agg [.i .i64 s.sq,.i .i64 s.tm,.i .i64 s.id,.i .i64 s.ba]) [] 0:=by
 refine dT Sound.nil Tryz.func156 PJ ?_
 dsimp only [i156];simp only [Sw.a];simp only [go_sem,simprocAttr];exact Ends.au rfl rfl
def j7:Ct
 |[.agg c],_,n=>(EX c).bind fun s=>some (true,{v:= .agg [.i .i64 s.sq,.i .i64 s.tm,.i .i64 s.id,.i .i64 s.ba],n})
 |_,_,_=>none
theorem auR:aq av 185 j7:=fun args h n c E hc ht=>by
 unfold j7 at hc;split at hc
 ·simp only [af,aP,bq] at hc;obtain ⟨s,hs,_,rfl⟩:=hc;rw [mZ hs];exact ax.pure (by kernel_rfl) (by simp only [ae,AV.al,Sw.al,az]) rfl (atc _) _ _
 ·cases hc
theorem asS:aq av 156 j7:=fun args h n c E hc ht=>by
 unfold j7 at hc;split at hc
 ·simp only [af,aP,bq] at hc;obtain ⟨s,hs,_,rfl⟩:=hc;rw [mZ hs];exact ax.pure (by kernel_rfl) (by simp only [ae,AV.al,Sw.al,az]) rfl (asc _) _ _
 ·cases hc
def uZ (l:List Int) (x:Int):Int:=x5 (fun y=>x==y) l 0
theorem ai9 {l:List Int} (h:l.length<=3):l=[]\/(∃a,l=[a])\/(∃a b,l=[a,b])\/ ∃a b c,l=[a,b,c]:=by
 match l,h with
 |[],_=>exact .inl rfl
 |[a],_=>exact .inr (.inl ⟨a,rfl⟩)
 |[a,b],_=>exact .inr (.inr (.inl ⟨a,b,rfl⟩))
 |[a,b,c],_=>exact .inr (.inr (.inr ⟨a,b,c,rfl⟩))
 |_::_::_::_::_,h=>exact absurd h (by simp)
theorem apU (l:List Int) (x:Int) (hl:l.length<=3):bt av 122 [.fz (rows aC l) l.length,.i .i64 x] [] 0 (.i .i64 (uZ l x)) [] 0:=by
 refine dT Sound.nil Tryz.func122 Lw ?_
 dsimp only [i122];rcases ai9 hl with rfl|⟨a,rfl⟩|⟨a,b,rfl⟩|⟨a,b,c,rfl⟩
 all_goals (
  simp only [rows,aC,jU,List.map_nil,List.flatten_cons,List.flatten_nil,cM,ee,List.nil_append,List.length_cons,kv];simp only [go_sem,simprocAttr];refine Loop.rounds (F:=⟨av,bZ [],[9,16],19,0⟩) 4 Sound.nil mo ?_;simp only [go_sem,simprocAttr];repeat' (first|refine nr (fun _=> ?_) (fun _=> ?_)|refine jP ?_ ?_)
  all_goals (refine Ends.au rfl (cS _ ?_);simp only [uZ,x5, *];try rfl))
def Bb:Ct
 |[v,.i .i64 x],h,n=>wH h 1 v fun rd m cs ok=>(bk 1 dJ m cs).bind fun l=>some (ok&&decide (l.length<=3),{v:= .i .i64 (uZ l x),n,rd})
 |_,_,_=>none
theorem aoZ:aq av 122 Bb:=fun args h n c E hc ht=>by
 unfold Bb at hc;split at hc
 ·rename_i v x;rw [oS] at hc;simp only [af,aP,bq] at hc;obtain ⟨⟨rd,m,cs,ok⟩,hv,l,hl,hc,rfl⟩:=hc;subst hc;simp only [aw,aV] at ht;obtain ⟨rfl,h3⟩:=ht;obtain ⟨rfl,rfl⟩:=bD (f:=aC) (fun c a h=>dx c a h) hl;exact ax.view (pre:=[]) (post:=[.i .i64 x]) (by kernel_rfl) hv (ib 0 l) rfl rfl rfl (apU l x h3)
 ·cases hc
def T65:List (Nat×Ct):=[(122,Bb)]
theorem aun:Sound av (bZ T65):=Sound.cons aoZ Sound.nil
theorem HT (l:List Int) (x:Int):decide (0<=uZ l x)=l.any fun y=>x==y:=uY _ l 0 (by omega)
theorem w65 (l:List Int) (x:Int) (hl:l.length<=3):bt av 65 [.fz (rows aC l) l.length,.i .i64 x] [] 0 (.b (l.any fun y=>x==y)) [] 0:=by
 refine dT aun Tryz.func65 Ws ?_
 dsimp only [i65,T65];have h1:=fun k=>mF (α:=Int) (β:=Bool×bX) (h:=([]:Hp)) (f:=aC) bP (l:=l) (k:=k);have h3:decide (l.length<=3)=true:=ah hl;have h4:=HT l x;simp only [go_sem,Bb,h1,eE,h3,h4,ge_iff_le,simprocAttr];exact Ends.au rfl rfl
def QJ:Ct
 |[v,.i .i64 x],h,n=>wH h 1 v fun rd m cs ok=>(bk 1 dJ m cs).bind fun l=>some (ok&&decide (l.length<=3),{v:= .b (l.any fun y=>x==y),n,rd})
 |_,_,_=>none
theorem s65:aq av 65 QJ:=fun args h n c E hc ht=>by
 unfold QJ at hc;split at hc
 ·rename_i v x;rw [oS] at hc;simp only [af,aP,bq] at hc;obtain ⟨⟨rd,m,cs,ok⟩,hv,l,hl,hc,rfl⟩:=hc;subst hc;simp only [aw,aV] at ht;obtain ⟨rfl,h3⟩:=ht;obtain ⟨rfl,rfl⟩:=bD (f:=aC) (fun c a h=>dx c a h) hl;exact ax.view (pre:=[]) (post:=[.i .i64 x]) (by kernel_rfl) hv (ib 0 l) rfl rfl rfl (w65 l x h3)
 ·cases hc
def Q0 (l:List Int):Bool:=ji (fun i=>da 0 4294967295 (l.getD i 0)&& !((l.take i).any fun y=>l.getD i 0==y)) l.length
def abo:List (Nat×Ct):=[(65,QJ)]
theorem Qv:Sound av (bZ abo):=Sound.cons s65 Sound.nil
theorem arU (x:Int):(x !=IntKind.i64.wrap (IntKind.u32.wrap x))= !da 0 4294967295 x:=by rw [<-af2];rfl
theorem apY (l:List Int) (hl:l.length<=3):bt av 183 [.fz (rows aC l) l.length] [] 0 (.b (Q0 l)) [] 0:=by
 refine dT Qv Tryz.func183 PA ?_
 dsimp only [i183];rcases ai9 hl with rfl|⟨a,rfl⟩|⟨a,b,rfl⟩|⟨a,b,c,rfl⟩
 all_goals (
  simp only [rows,aC,jU,List.map_nil,List.flatten_cons,List.flatten_nil,cM,ee,List.nil_append,List.length_cons,kv];simp only [go_sem,simprocAttr];refine Loop.rounds (F:=⟨av,bZ abo,[8,23],25,0⟩) 4 Qv mo ?_;dsimp only [abo];simp only [go_sem,QJ,arU,wY,bk,dJ,List.any_cons,List.any_nil,gZ,simprocAttr];repeat' (first|refine nr (fun _=> ?_) (fun _=> ?_)|refine jP ?_ ?_)
  all_goals (refine Ends.au rfl (cS _ ?_);simp_all [Q0,ji];try grind))
def mf:Ct
 |[v],h,n=>wH h 1 v fun rd m cs ok=>(bk 1 dJ m cs).bind fun l=>some (ok&&decide (l.length<=3),{v:= .b (Q0 l),n,rd})
 |_,_,_=>none
theorem ard:aq av 183 mf:=fun args h n c E hc ht=>by
 unfold mf at hc;split at hc
 ·rename_i v;rw [oS] at hc;simp only [af,aP,bq] at hc;obtain ⟨⟨rd,m,cs,ok⟩,hv,l,hl,hc,rfl⟩:=hc;subst hc;simp only [aw,aV] at ht;obtain ⟨rfl,h3⟩:=ht;obtain ⟨rfl,rfl⟩:=bD (f:=aC) (fun c a h=>dx c a h) hl;exact ax.view (pre:=[]) (post:=[]) (by kernel_rfl) hv (ib 0 l) rfl rfl rfl (apY l h3)
 ·cases hc
def dL (s:Sw):Bool:=
 (da 1 3 s.l.length&&(Q0 s.l&&(da 0 4294967295 s.ou&&(da 1 90000 s.st&&(da (-1) (s.l.length-1) s.nw&&da (-1) (s.l.length-1) s.wa)))))&&
 ((da 0 3 s.ca&&(da 0 3 s.ai&&(tw s.sq s.tm s.id s.ba&&(tw s.ss s.sT s.si s.sb&&tw s.tp 0 s.fr 0))))&&
 (!decide (s.nw<0)||(s.ca==0&&(s.tp==0&&(s.fr==0&&(!s.kp&&(s.sq==0&&(s.tm==0&&(s.id==0&&s.ba==0)))))))))
def amt:List (Nat×Ct):=[(182,j9),(183,mf),(184,mC),(185,j7)]
theorem ahY:Sound av (bZ amt):=Sound.cons afp (Sound.cons ard (Sound.cons aqi (Sound.cons auR Sound.nil)))
theorem Ca (x:Int):Q0 [x]=da 0 4294967295 x:=by simp [Q0,ji]
theorem aq7 (s:Sw) (hl:s.l.length<=9223372036854775807):bt av 121 [.agg s.a] [] 0 (.i .i64 (if dL s then 0 else 410)) [] 0:=by
 have hlen:IntKind.i64.wrap ((s.l.length:Int)-1)=(s.l.length:Int)-1:=bS (by omega) (by omega)
 refine dT ahY Tryz.func121 NO ?_
 dsimp only [i121,amt];have hgd:dL s=((da 1 3 s.l.length&&(Q0 s.l&&(da 0 4294967295 s.ou&&(da 1 90000 s.st&&(da (-1) (s.l.length-1) s.nw&&da (-1) (s.l.length-1) s.wa)))))&&
 ((da 0 3 s.ca&&(da 0 3 s.ai&&(tw s.sq s.tm s.id s.ba&&(tw s.ss s.sT s.si s.sb&&tw s.tp 0 s.fr 0))))&&
 (!decide (s.nw<0)||(s.ca==0&&(s.tp==0&&(s.fr==0&&(!s.kp&&(s.sq==0&&(s.tm==0&&(s.id==0&&s.ba==0)))))))))):=rfl
 have h3:da 1 3 s.l.length=true->decide (s.l.length<=3)=true:=fun h=>by
  simp only [da,aw,aV] at h ⊢;omega
 have hsw:=lQ s;have hr:=fun h k=>mF (α:=Int) (β:=Bool×bX) (h:=h) (f:=aC) bP (l:=s.l) (k:=k);generalize dL s=gd at*;obtain ⟨l,ou,st,nw,wa,ca,ai,tp,fr,kp,sq,tm,id,ba,ss,sT,si,sb⟩:=s;simp only [Sw.a] at hsw ⊢;dsimp only at hl hlen hgd h3 hr;cases a1:da 1 3 (l.length:Int)
 ·simp only [go_sem,j9,mf,mC,j7,hsw,hlen,eE,Ca,eM,hr,bk,dJ,h9,aT,bP,dK,a1,simprocAttr];exact Ends.au rfl (by rw [hgd];simp only [a1,eV,dW,eJ,ie,fI,fA,fX,eU,fg,gZ,cY,bV,cu])
 have b3:=h3 a1;cases a2:Q0 l
 ·simp only [go_sem,j9,mf,mC,j7,hsw,hlen,eE,Ca,eM,hr,bk,dJ,h9,aT,bP,dK,a1,a2,b3,simprocAttr];exact Ends.au rfl (by rw [hgd];simp only [a1,a2,eV,dW,eJ,ie,fI,fA,fX,eU,fg,gZ,cY,bV,cu])
 cases a3:da 0 4294967295 ou
 ·simp only [go_sem,j9,mf,mC,j7,hsw,hlen,eE,Ca,eM,hr,bk,dJ,h9,aT,bP,dK,a1,a2,a3,b3,simprocAttr];exact Ends.au rfl (by rw [hgd];simp only [a1,a2,a3,eV,dW,eJ,ie,fI,fA,fX,eU,fg,gZ,cY,bV,cu])
 cases a4:da 1 90000 st
 ·simp only [go_sem,j9,mf,mC,j7,hsw,hlen,eE,Ca,eM,hr,bk,dJ,h9,aT,bP,dK,a1,a2,a3,a4,b3,simprocAttr];exact Ends.au rfl (by rw [hgd];simp only [a1,a2,a3,a4,eV,dW,eJ,ie,fI,fA,fX,eU,fg,gZ,cY,bV,cu])
 cases a5:da (-1) ((l.length:Int)-1) nw
 ·simp only [go_sem,j9,mf,mC,j7,hsw,hlen,eE,Ca,eM,hr,bk,dJ,h9,aT,bP,dK,a1,a2,a3,a4,a5,b3,simprocAttr];exact Ends.au rfl (by rw [hgd];simp only [a1,a2,a3,a4,a5,eV,dW,eJ,ie,fI,fA,fX,eU,fg,gZ,cY,bV,cu])
 cases a6:da (-1) ((l.length:Int)-1) wa
 ·simp only [go_sem,j9,mf,mC,j7,hsw,hlen,eE,Ca,eM,hr,bk,dJ,h9,aT,bP,dK,a1,a2,a3,a4,a5,a6,b3,simprocAttr];exact Ends.au rfl (by rw [hgd];simp only [a1,a2,a3,a4,a5,a6,eV,dW,eJ,ie,fI,fA,fX,eU,fg,gZ,cY,bV,cu])
 cases a7:da 0 3 ca
 ·simp only [go_sem,j9,mf,mC,j7,hsw,hlen,eE,Ca,eM,hr,bk,dJ,h9,aT,bP,dK,a1,a2,a3,a4,a5,a6,a7,b3,simprocAttr];exact Ends.au rfl (by rw [hgd];simp only [a1,a2,a3,a4,a5,a6,a7,eV,dW,eJ,ie,fI,fA,fX,eU,fg,gZ,cY,bV,cu])
 cases a8:da 0 3 ai
 ·simp only [go_sem,j9,mf,mC,j7,hsw,hlen,eE,Ca,eM,hr,bk,dJ,h9,aT,bP,dK,a1,a2,a3,a4,a5,a6,a7,a8,b3,simprocAttr];exact Ends.au rfl (by rw [hgd];simp only [a1,a2,a3,a4,a5,a6,a7,a8,eV,dW,eJ,ie,fI,fA,fX,eU,fg,gZ,cY,bV,cu])
 cases a9:tw sq tm id ba
 ·simp only [go_sem,j9,mf,mC,j7,hsw,hlen,eE,Ca,eM,hr,bk,dJ,h9,aT,bP,dK,a1,a2,a3,a4,a5,a6,a7,a8,a9,b3,simprocAttr];exact Ends.au rfl (by rw [hgd];simp only [a1,a2,a3,a4,a5,a6,a7,a8,a9,eV,dW,eJ,ie,fI,fA,fX,eU,fg,gZ,cY,bV,cu])
 cases yU:tw ss sT si sb
 ·simp only [go_sem,j9,mf,mC,j7,hsw,hlen,eE,Ca,eM,hr,bk,dJ,h9,aT,bP,dK,a1,a2,a3,a4,a5,a6,a7,a8,a9,yU,b3,simprocAttr];exact Ends.au rfl (by rw [hgd];simp only [a1,a2,a3,a4,a5,a6,a7,a8,a9,yU,eV,dW,eJ,ie,fI,fA,fX,eU,fg,gZ,cY,bV,cu])
 cases Bi:tw tp 0 fr 0
 ·simp only [go_sem,j9,mf,mC,j7,hsw,hlen,eE,Ca,eM,hr,bk,dJ,h9,aT,bP,dK,a1,a2,a3,a4,a5,a6,a7,a8,a9,yU,Bi,b3,simprocAttr];exact Ends.au rfl (by rw [hgd];simp only [a1,a2,a3,a4,a5,a6,a7,a8,a9,yU,Bi,eV,dW,eJ,ie,fI,fA,fX,eU,fg,gZ,cY,bV,cu])
 cases a12:decide (nw<0)
 ·simp only [go_sem,j9,mf,mC,j7,hsw,hlen,eE,Ca,eM,hr,bk,dJ,h9,aT,bP,dK,a1,a2,a3,a4,a5,a6,a7,a8,a9,yU,Bi,a12,b3,simprocAttr];exact Ends.au rfl (by rw [hgd];simp only [a1,a2,a3,a4,a5,a6,a7,a8,a9,yU,Bi,a12,eV,dW,eJ,ie,fI,fA,fX,eU,fg,gZ,cY,bV,cu])
 cases z1:(ca==0)
 ·have y1:(ca !=0)=true:=by simp only [bne,z1,fA]
  simp only [go_sem,j9,mf,mC,j7,hsw,hlen,eE,Ca,eM,hr,bk,dJ,h9,aT,bP,dK,a1,a2,a3,a4,a5,a6,a7,a8,a9,yU,Bi,a12,z1,y1,b3,simprocAttr];exact Ends.au rfl (by rw [hgd];simp only [a1,a2,a3,a4,a5,a6,a7,a8,a9,yU,Bi,a12,z1,eV,dW,eJ,ie,fI,fA,fX,eU,fg,gZ,cY,bV,cu])
 have y1:(ca !=0)=false:=by simp only [bne,z1,fI]
 cases z2:(tp==0)
 ·have y2:(tp !=0)=true:=by simp only [bne,z2,fA]
  simp only [go_sem,j9,mf,mC,j7,hsw,hlen,eE,Ca,eM,hr,bk,dJ,h9,aT,bP,dK,a1,a2,a3,a4,a5,a6,a7,a8,a9,yU,Bi,a12,z1,z2,y1,y2,b3,simprocAttr];exact Ends.au rfl (by rw [hgd];simp only [a1,a2,a3,a4,a5,a6,a7,a8,a9,yU,Bi,a12,z1,z2,eV,dW,eJ,ie,fI,fA,fX,eU,fg,gZ,cY,bV,cu])
 have y2:(tp !=0)=false:=by simp only [bne,z2,fI]
 cases z3:(fr==0)
 ·have y3:(fr !=0)=true:=by simp only [bne,z3,fA]
  simp only [go_sem,j9,mf,mC,j7,hsw,hlen,eE,Ca,eM,hr,bk,dJ,h9,aT,bP,dK,a1,a2,a3,a4,a5,a6,a7,a8,a9,yU,Bi,a12,z1,z2,z3,y1,y2,y3,b3,simprocAttr];exact Ends.au rfl (by rw [hgd];simp only [a1,a2,a3,a4,a5,a6,a7,a8,a9,yU,Bi,a12,z1,z2,z3,eV,dW,eJ,ie,fI,fA,fX,eU,fg,gZ,cY,bV,cu])
 have y3:(fr !=0)=false:=by simp only [bne,z3,fI]
 cases kp
 case true=>
  simp only [go_sem,j9,mf,mC,j7,hsw,hlen,eE,Ca,eM,hr,bk,dJ,h9,aT,bP,dK,a1,a2,a3,a4,a5,a6,a7,a8,a9,yU,Bi,a12,z1,z2,z3,y1,y2,y3,b3,simprocAttr];exact Ends.au rfl (by rw [hgd];simp only [a1,a2,a3,a4,a5,a6,a7,a8,a9,yU,Bi,a12,z1,z2,z3,eV,dW,eJ,ie,fI,fA,fX,eU,fg,gZ,cY,bV,cu])
 generalize hE:((sq==0)&&((tm==0)&&((id==0)&&(ba==0))))=Z at hgd;simp only [go_sem,j9,mf,mC,j7,hsw,hlen,eE,Ca,eM,hr,bk,dJ,h9,aT,bP,dK,ye,eqs,Ml,hE,a1,a2,a3,a4,a5,a6,a7,a8,a9,yU,Bi,a12,z1,z2,z3,y1,y2,y3,b3,simprocAttr];cases Z
 ·simp only [go_sem,simprocAttr];exact Ends.au rfl (by rw [hgd];simp only [a1,a2,a3,a4,a5,a6,a7,a8,a9,yU,Bi,a12,z1,z2,z3,eV,dW,eJ,ie,fI,fA,fX,eU,fg,gZ,cY,bV,cu])
 ·simp only [go_sem,simprocAttr];exact Ends.au rfl (by rw [hgd];simp only [a1,a2,a3,a4,a5,a6,a7,a8,a9,yU,Bi,a12,z1,z2,z3,eV,dW,eJ,ie,fI,fA,fX,eU,fg,gZ,cY,bV,cu])
def ki:Ct
 |[.agg c],_,n=>(EX c).bind fun s=>some (decide (s.l.length<=9223372036854775807),{v:= .i .i64 (if dL s then 0 else 410),n})
 |_,_,_=>none
theorem IW:aq av 121 ki:=fun args h n c E hc ht=>by
 unfold ki at hc;split at hc
 ·simp only [af,aP,bq] at hc;obtain ⟨s,hs,rfl,rfl⟩:=hc;rw [mZ hs];exact ax.pure (by kernel_rfl) (by simp only [ae,AV.al,Sw.al,az]) rfl (aq7 _ (bO ht)) _ _
 ·cases hc
theorem jE.agg {h:Hp} {rd:List Nat} {l m:List AV} (hl:xy h rd l m):jE h rd (.agg l) (.agg m):=fun D D' φ w u hH hv=>by
 cases hv with
 |agg _ cs hlen hh=>
  refine .agg m cs (by rw [<-hlen,hl.len]) (fun i b u hb hu=> ?_)
  obtain ⟨a,h1,h2⟩:=hl.get hb;exact h2 D D' φ w u hH (hh i a u h1 hu)
/-! Needs -/
def gj (s:Sw):Int×Int:=bif dL s then (bif decide (s.wa<0)||s.wa==s.nw then (0,4) else (s.wa,0)) else (0,410)
theorem n9 {s:Sw} (h:dL s=true):1<=s.l.length/\s.l.length<=3:=by
 simp only [dL,da,aw,aV] at h;omega
def an8:List (Nat×Ct):=[(121,ki)]
theorem amy:Sound av (bZ an8):=Sound.cons IW Sound.nil
theorem atg (s:Sw) (hl:s.l.length<=9223372036854775807):bt av 105 [.agg s.a] [] 0 (.bg [.i .i64 (gj s).1,.i .i64 (gj s).2]) [] 0:=by
 have hR:gj s=bif dL s then (bif decide (s.wa<0)||s.wa==s.nw then (0,4) else (s.wa,0)) else (0,410):=rfl
 have hsw:=lQ s;have hll:decide (s.l.length<=9223372036854775807)=true:=ah hl;generalize gj s=R at*;refine dT amy Tryz.func105 P4 ?_
 dsimp only [i105,an8];generalize hg:dL s=gd at*;obtain ⟨l,ou,st,nw,wa,ca,ai,tp,fr,kp,sq,tm,id,ba,ss,sT,si,sb⟩:=s;simp only [Sw.a] at hsw ⊢;dsimp only at hl hR hll;cases gd
 ·simp only [go_sem,ki,hsw,hll,hg,cY,bV,simprocAttr];exact Ends.au rfl (by rw [hR];rfl)
 cases a1:decide (wa<0)
 ·cases a2:(wa==nw)
  ·simp only [go_sem,ki,hsw,hll,hg,cu,a1,a2,simprocAttr];exact Ends.au rfl (by rw [hR,a1,a2];rfl)
  ·simp only [go_sem,ki,hsw,hll,hg,cu,a1,a2,simprocAttr];exact Ends.au rfl (by rw [hR,a1,a2];rfl)
 ·simp only [go_sem,ki,hsw,hll,hg,cu,a1,simprocAttr];exact Ends.au rfl (by rw [hR,a1];rfl)
def DT:Ct
 |[.agg c],_,n=>(EX c).bind fun s=>some (decide (s.l.length<=9223372036854775807),{v:= .bg [.i .i64 (gj s).1,.i .i64 (gj s).2],n})
 |_,_,_=>none
theorem arc:aq av 105 DT:=fun args h n c E hc ht=>by
 unfold DT at hc;split at hc
 ·simp only [af,aP,bq] at hc;obtain ⟨s,hs,rfl,rfl⟩:=hc;rw [mZ hs];exact ax.pure (by kernel_rfl) (by simp only [ae,AV.al,Sw.al,az]) rfl (atg _ (bO ht)) _ _
 ·cases hc
/-! Clone -/
theorem w90 (l:List Int) (hz:8*l.length<=aE):bt av 90 [.fz (rows aC l) l.length] [] 0 (.fz (rows aC l) l.length) [] 0:=
 Rr (z:=1) (bytes:=8) (zs:=[.i .i64 0]) mo Tryz.func90 we (by simp [aT bP]) (fF (fun _=>rfl) l) (ib 0 l) hz
def tK:Ct
 |[.fz L m],_,n=>(bk 1 dJ m L).bind fun l=>some (decide (8*l.length<=aE),{v:= .fz (rows aC l) l.length,n})
 |_,_,_=>none
theorem s90:aq av 90 tK:=fun args h n c E hc ht=>by
 unfold tK at hc;split at hc
 ·simp only [af,aP,bq] at hc;obtain ⟨l,hl,rfl,rfl⟩:=hc;obtain ⟨rfl,rfl⟩:=bD (f:=aC) (fun c a h=>dx c a h) hl;exact ax.pure (by kernel_rfl) (by simp only [ae,AV.al,ib,az]) (by simp only [AV.al,ib]) (w90 _ (bO ht)) _ _
 ·cases hc
/-! Want -/
def Ad:Sw:=⟨[],0,0,0,0,0,0,0,0,false,0,0,0,0,0,0,0,0⟩
def KE (r:Sw×Int):AV:= .bg [.agg r.1.a,.i .i64 r.2]
theorem Ew (r:Sw×Int):(KE r).al 0=true:=by simp only [KE,AV.al,ae,Sw.al,az]
def aod (s:Sw) (ai:Int):Sw:=⟨s.l,s.ou,s.st,-1,-1,0,ai,0,0,false,0,0,0,0,s.ss,s.sT,s.si,s.sb⟩
def iJ (s:Sw) (la ai:Int):Sw×Int:=
 bif dL s then (bif da (-1) ((s.l.length:Int)-1) la&&da 0 3 ai then (bif decide (la<0) then aod s ai else {s with wa:=la,ai:=ai},0) else (Ad,2)) else (Ad,410)
theorem LP {e:Int} {h:Hp} {n:Nat}:bw 0 (.bg [.agg [.ns,.i .i64 0,.i .i64 0,.i .i64 0,.i .i64 0,.i .i64 0,.i .i64 0,.i .i64 0,.i .i64 0,.b false,.i .i64 0,.i .i64 0,.i .i64 0,.i .i64 0,.i .i64 0,.i .i64 0,.i .i64 0,.i .i64 0],.i .i64 e]) h n (KE (Ad,e)) [] 0:=by
 refine bw.xe (l:=[]) (v':=KE (Ad,e)) (dj.bg ⟨dj.agg ⟨dj.hit,dj.refl,dj.refl,dj.refl,dj.refl,dj.refl,dj.refl,dj.refl,dj.refl,dj.refl,dj.refl,dj.refl,dj.refl,dj.refl,dj.refl,dj.refl,dj.refl,dj.refl,trivial⟩,dj.refl,trivial⟩) ?_;exact bw.ends (Ends.au rfl rfl)
def af4:List (Nat×Ct):=[(121,ki),(182,j9),(90,tK)]
theorem ahq:Sound av (bZ af4):=Sound.cons IW (Sound.cons afp (Sound.cons s90 Sound.nil))
theorem atj (s:Sw) (la aim:Int) (hl:s.l.length<=9223372036854775807):bt av 143 [.agg s.a,.i .i64 la,.i .i64 aim] [] 0 (KE (iJ s la aim)) [] 0:=by
 have hR:iJ s la aim=bif dL s then (bif da (-1) ((s.l.length:Int)-1) la&&da 0 3 aim then (bif decide (la<0) then aod s aim else {s with wa:=la,ai:=aim},0) else (Ad,2)) else (Ad,410):=rfl
 have hsw:=lQ s;have hll:decide (s.l.length<=9223372036854775807)=true:=ah hl;have hlen:IntKind.i64.wrap ((s.l.length:Int)-1)=(s.l.length:Int)-1:=bS (by omega) (by omega)
 have hgr:dL s=true->decide (8*s.l.length<=aE)=true:=fun h=>ah (by have:=n9 h;simp only [aE];omega)
 generalize iJ s la aim=R at*;refine bt.dU ahq mo Tryz.func143 Ph (by simp [i143]) (aQ ?_)
 dsimp only [i143,af4];generalize hg:dL s=gd at*;obtain ⟨l,ou,st,nw,wa,ca,ai,tp,fr,kp,sq,tm,id,ba,ss,sT,si,sb⟩:=s;simp only [Sw.a] at hsw ⊢;dsimp only at hl hR hll hlen hgr;cases gd
 ·simp only [go_sem,ki,hsw,hll,hg,cY,bV,simprocAttr];rw [hR];exact LP
 have hgr:=hgr rfl;cases a1:da (-1) ((l.length:Int)-1) la
 ·simp only [go_sem,ki,j9,hsw,hll,hg,cu,hlen,a1,simprocAttr];rw [hR,a1];exact LP
 cases a2:da 0 3 aim
 ·simp only [go_sem,ki,j9,hsw,hll,hg,cu,hlen,a1,a2,simprocAttr];rw [hR,a1,a2];exact LP
 cases a3:decide (la<0);all_goals (
  simp only [go_sem,ki,j9,tK,hsw,hll,hg,cu,hlen,a1,a2,a3,eE,hgr,simprocAttr];rw [hR,a1,a2,a3];exact bw.ends (Ends.au (by simp only [AV.al,ae,ib,az]) rfl))
def G2:Ct
 |[.agg c,.i .i64 la,.i .i64 aim],_,n=>(EX c).bind fun s=>some (decide (s.l.length<=9223372036854775807),{v:=KE (iJ s la aim),n})
 |_,_,_=>none
theorem auH:aq av 143 G2:=fun args h n c E hc ht=>by
 unfold G2 at hc;split at hc
 ·simp only [af,aP,bq] at hc;obtain ⟨s,hs,rfl,rfl⟩:=hc;rw [mZ hs];exact ax.pure (by kernel_rfl) (by simp only [ae,AV.al,Sw.al,az]) (Ew _) (atj _ _ _ (bO ht)) _ _
 ·cases hc
/-! New -/
def Cj (l:List Int) (ou st a b c d:Int):Sw×Int:=
 bif dL ⟨l,ou,st,-1,-1,0,0,0,0,false,0,0,0,0,a,b,c,d⟩ then (⟨l,ou,st,-1,-1,0,0,0,0,false,0,0,0,0,a,b,c,d⟩,0) else (Ad,2)
def T70:List (Nat×Ct):=[(121,ki),(90,tK)]
theorem at0:Sound av (bZ T70):=Sound.cons IW (Sound.cons s90 Sound.nil)
theorem w70 (l:List Int) (ou st a b c d:Int) (hl:8*l.length<=aE):bt av 70 [.fz (rows aC l) l.length,.i .i64 ou,.i .i64 st,.agg [.i .i64 a,.i .i64 b,.i .i64 c,.i .i64 d]] [] 0 (KE (Cj l ou st a b c d)) [] 0:=by
 have hR:Cj l ou st a b c d=bif dL ⟨l,ou,st,-1,-1,0,0,0,0,false,0,0,0,0,a,b,c,d⟩ then (⟨l,ou,st,-1,-1,0,0,0,0,false,0,0,0,0,a,b,c,d⟩,0) else (Ad,2):=rfl
 have hsw:=lQ ⟨l,ou,st,-1,-1,0,0,0,0,false,0,0,0,0,a,b,c,d⟩;simp only [Sw.a] at hsw;have hgr:decide (8*l.length<=aE)=true:=ah hl;have hll:decide (l.length<=9223372036854775807)=true:=ah (by simp only [aE] at hl;omega)
 generalize Cj l ou st a b c d=R at*;refine bt.dU at0 mo Tryz.func70 abK (by simp [i70]) (aQ ?_)
 dsimp only [i70,T70];cases hg:dL ⟨l,ou,st,-1,-1,0,0,0,0,false,0,0,0,0,a,b,c,d⟩
 ·simp only [go_sem,ki,tK,hsw,hgr,hll,eE,hg,cY,bV,simprocAttr];rw [hR,hg];exact LP
 ·simp only [go_sem,ki,tK,hsw,hgr,hll,eE,hg,cu,simprocAttr];rw [hR,hg];exact bw.ends (Ends.au (by simp only [AV.al,ae,ib,az]) rfl)
def Ff:Ct
 |[.fz L m,.i .i64 ou,.i .i64 st,.agg [.i .i64 a,.i .i64 b,.i .i64 c,.i .i64 d]],_,n=>(bk 1 dJ m L).bind fun l=>some (decide (8*l.length<=aE),{v:=KE (Cj l ou st a b c d),n})
 |_,_,_=>none
theorem s70:aq av 70 Ff:=fun args h n c E hc ht=>by
 unfold Ff at hc;split at hc
 ·simp only [af,aP,bq] at hc;obtain ⟨l,hl,rfl,rfl⟩:=hc;obtain ⟨rfl,rfl⟩:=bD (f:=aC) (fun c a h=>dx c a h) hl;exact ax.pure (by kernel_rfl) (by simp only [ae,AV.al,ib,az]) (Ew _) (w70 _ _ _ _ _ _ _ (bO ht)) _ _
 ·cases hc
/-! Check of the reference -/
/-! Same (of equal switches) -/
def T88:List (Nat×Ct):=[(156,j7)]
theorem aju:Sound av (bZ T88):=Sound.cons asS Sound.nil
theorem auw {l:List Int} {k:Nat} {x:Int} (h:l[k]? =some x):(rows aC l)[k]? =some (.i .i64 x):=by
 have:=cn (f:=aC) bP h (j:=0) (v:= .i .i64 x) rfl;simpa using this
theorem w88 (s:Sw) (hl:s.l.length<=9223372036854775807):bt av 88 [.agg s.a,.agg s.a] [] 0 (.b true) [] 0:=by
 have hsw:=lQ s;refine dT aju Tryz.func88 Xg ?_
 dsimp only [i88,T88];obtain ⟨l,ou,st,nw,wa,ca,ai,tp,fr,kp,sq,tm,id,ba,ss,sT,si,sb⟩:=s;simp only [Sw.a] at hsw ⊢;dsimp only at hl;simp only [go_sem,bne,ql,simprocAttr];generalize hB:({cells:=[.fz (rows aC l) l.length,.i .i64 ou,.i .i64 st,.i .i64 nw,.i .i64 wa,.i .i64 ca,.i .i64 ai,.i .i64 tp,.i .i64 fr,.b kp,.i .i64 sq,.i .i64 tm,.i .i64 id,.i .i64 ba,.i .i64 ss,.i .i64 sT,.i .i64 si,.i .i64 sb]}:aW)=B;refine Loop.fj (F:=⟨av,bZ T88,[12,17,30],106,0⟩) aju mo l.length (fun k=>True)
  (fun k=>[(2,.p 0 0),(3,.p 1 0),(5,.i .i64 (k:Int))])
  (fun k=>[(1,B),(0,B)]) 2 (by decide) trivial ?_ ?_ (fun k hk _=> ?_)
 ·simp only [go_sem,AV.al,ae,aG,simprocAttr]
 ·subst hB;have hLb: ∀j,ae j (rows aC l)=true:=fun j=>ib j l;simp only [go_sem,hLb,AV.al,ae,aG,simprocAttr]
 subst hB;have hLb: ∀j,ae j (rows aC l)=true:=fun j=>ib j l;dsimp only [T88];by_cases hlt:k<l.length
 ·have c1:decide ((k:Int)<(l.length:Int))=true:=ah (by omega)
  have c2:decide (0<=(k:Int)/\(k:Int)<(l.length:Int))=true:=ah (by omega)
  have hw:IntKind.i64.wrap ((k:Int)+1)=((k+1:Nat):Int):=by rw [bS (by omega) (by omega)];omega
  obtain ⟨x,hx⟩: ∃x,l[k]? =some x:=⟨_,aY hlt⟩;have hr:=auw hx;simp only [go_sem,c1,c2,hr,hw,hlt,hLb,AV.al,ae,aG,bne,ql,dK,simprocAttr]
 ·have c1:decide ((k:Int)<(l.length:Int))=false:=cN (by omega)
  simp only [go_sem,c1,j7,hsw,ye,eqs,Ml,ql,simprocAttr];exact Ends.au rfl rfl
noncomputable def k88:Ct
 |[.agg c,.agg c'],_,n=>(EX c).bind fun s=>open Classical in if c=c' then some (decide (s.l.length<=9223372036854775807),{v:= .b true,n}) else none
 |_,_,_=>none
theorem am8 (s:Sw) (h:Hp) (n:Nat):k88 [.agg s.a,.agg s.a] h n=some (decide (s.l.length<=9223372036854775807),{v:= .b true,n}):=by
 simp only [k88,lQ,aS,cu]
theorem s88:aq av 88 k88:=fun args h n c E hc ht=>by
 unfold k88 at hc;split at hc
 ·simp only [af] at hc;obtain ⟨s,hs,he⟩:=hc;split at he
  ·rename_i hab;subst hab;rw [mZ hs];cases he;exact ax.pure (by kernel_rfl) (by simp only [ae,AV.al,Sw.al,az]) rfl (w88 s (bO ht)) _ _
  ·cases he
 ·cases hc
theorem jg {lo hi x:Int} (h:lo<=x/\x<=hi):da lo hi x=true:=by simp only [da,aw,aV];exact h
theorem dD {lo hi x:Int} (h:da lo hi x=true):lo<=x/\x<=hi:=by simpa only [da,aw,aV] using h
theorem csB (j:Nat) (l:List Int):ae j (rows aC l)=true:=aD _ (bN gN)
theorem Qg (j:Nat) (l:List Xt):ae j (rows wu l)=true:=aD _ (bN sf)
end Go.Proofs.Rom
namespace Go.Proofs.Rom
open Go.Ab
structure Sh where
 st:Bool
 ky:Bool
 sy:Bool
 la:Bool
 id:Int
 ba:Int
 te:Int
 sp:Int
def Sh.l (s:Sh):List AV:=[.b s.st,.b s.ky,.b s.sy,.b s.la,.i .i64 s.id,.i .i64 s.ba,.i .i64 s.te,.i .i64 s.sp]
def Sh.pO (s:Sh):Bool:=decide (0<=s.id)&&decide (s.id<=32767)&&decide (0<=s.ba)&&decide (s.ba<=255)&&decide (0<=s.te)&&decide (s.te<=3)&&decide (0<=s.sp)&&decide (s.sp<=2)&& !(s.ky&&decide (s.te>0))&& !(s.sy&&(s.te==0))
theorem apT (a b:Int):bt av 196 [.i .i64 a,.i .i64 b] [] 0 (.b (decide (0<=b)&&decide (b<=a))) [] 0:=by
 refine dT Sound.nil Tryz.func196 O5 ?_
 dsimp only [i196];simp only [go_sem,simprocAttr];repeat' (first|refine nr (fun _=> ?_) (fun _=> ?_)|refine jP ?_ ?_)
 all_goals (refine Ends.au rfl (cS _ ?_);simp at *;omega)
def A7:Ct
 |[.i .i64 a,.i .i64 b],_,n=>some (true,{v:= .b (decide (0<=b)&&decide (b<=a)),n})
 |_,_,_=>none
theorem Wg:aq av 196 A7:=fun args h n c E hc _=>by
 unfold A7 at hc;split at hc
 ·cases hc;exact ax.pure (by kernel_rfl) rfl rfl (apT _ _) _ _
 ·cases hc
def TP1:List (Nat×Ct):=[(196,A7)]
theorem aqj:Sound av (bZ TP1):=Sound.cons Wg Sound.nil
theorem asZ (st ky sy la:Bool) (id ba te sp:Int):bt av 137 [.agg [.b st,.b ky,.b sy,.b la,.i .i64 id,.i .i64 ba,.i .i64 te,.i .i64 sp]] [] 0
 (.i .i64 (if (Sh.mk st ky sy la id ba te sp).pO then 0 else 400)) [] 0:=by
 refine dT aqj Tryz.func137 Of ?_
 dsimp only [i137,TP1];simp only [go_sem,A7,simprocAttr];repeat' (first|refine nr (fun _=> ?_) (fun _=> ?_)|refine jP ?_ ?_)
 all_goals (refine Ends.au rfl (cS _ ?_);simp only [Sh.pO];grind)
def CB:Ct
 |[.agg [.b st,.b ky,.b sy,.b la,.i .i64 id,.i .i64 ba,.i .i64 te,.i .i64 sp]],_,n=>some (true,{v:= .i .i64 (if (Sh.mk st ky sy la id ba te sp).pO then 0 else 400),n})
 |_,_,_=>none
theorem akv:aq av 137 CB:=fun args h n c E hc _=>by
 unfold CB at hc;split at hc
 ·cases hc;exact ax.pure (by kernel_rfl) rfl rfl (asZ _ _ _ _ _ _ _ _) _ _
 ·cases hc
def HK (a b c d:Bool):Int:=128+(if a then 64 else 0)+(if b then 32 else 0)+(if c then 16 else 0)+(if d then 8 else 0)
def J0:aW->Option Int
 |⟨[.b true,.b a,.b b,.b c,.b d,.b false,.b false,.b false],false,none,none,none⟩=>some (HK a b c d)
 |_=>none
def K4:Ct
 |[.sl b 0 8 8],h,n=>(ab h b).bind fun k=>(J0 k).bind fun m=>some (true,{v:= .i .u8 m,n,rd:=[b]})
 |_,_,_=>none
theorem ar0 (a b c d:Bool):bt av 210 [.sl 0 0 8 8] [(0,{cells:=[.b true,.b a,.b b,.b c,.b d,.b false,.b false,.b false]})] 1 (.i .u8 (HK a b c d)) [(0,{cells:=[.b true,.b a,.b b,.b c,.b d,.b false,.b false,.b false]})] 1:=by
 refine dT Sound.nil Tryz.func210 Lc ?_
 dsimp only [i210];cases a<;>cases b<;>cases c<;>cases d;all_goals (
  simp only [go_sem,simprocAttr];refine Loop.rounds (F:=⟨av,bZ [],[9,14],19,1⟩) 9 Sound.nil mo ?_;simp only [go_sem,lp,simprocAttr];exact Ends.gu rfl rfl rfl (cS _ (by decide)) rfl)
theorem atf:aq av 210 K4:=fun args h n c E hc _=>by
 unfold K4 at hc;split at hc
 ·rename_i b;simp only [af] at hc;obtain ⟨k,hk,m,hm,he⟩:=hc;cases he;unfold J0 at hm;split at hm
  ·cases hm;exact ax.afM (argsL:=[.sl 0 0 8 8]) (by kernel_rfl) rfl rfl rfl hk (ar0 _ _ _ _)
  ·cases hm
 ·cases hc
def TP2:List (Nat×Ct):=[(196,A7),(137,CB),(210,K4)]
theorem an9:Sound av (bZ TP2):=Sound.cons Wg (Sound.cons akv (Sound.cons atf Sound.nil))
def Sh.enc (s:Sh):List UInt8:=[UInt8.ofNat (HK s.st s.ky s.sy s.la).toNat,UInt8.ofNat (128+s.id/256).toNat,UInt8.ofNat (s.id % 256).toNat,UInt8.ofNat s.ba.toNat,UInt8.ofNat (64*s.te+16*s.sp).toNat]
theorem Sh.BU (s:Sh):s.pO=true↔(0<=s.id/\s.id<=32767/\0<=s.ba/\s.ba<=255/\0<=s.te/\s.te<=3/\0<=s.sp/\s.sp<=2/\(s.ky=true->s.te=0)/\(s.sy=true->s.te≠0)):=by
 unfold Sh.pO;simp
 grind
theorem anu: ∀d:Fin 128,orI .u8 128 ((d.val:Nat):Int)=128+((d.val:Nat):Int):=by decide+kernel
theorem orL: ∀(t:Fin 4) (p:Fin 3),IntKind.u8.wrap (orI .i64 (IntKind.i64.wrap (((t.val:Nat):Int)*64)) (IntKind.i64.wrap (((p.val:Nat):Int)*16)))=64*((t.val:Nat):Int)+16*((p.val:Nat):Int):=by decide+kernel
theorem DB (n:Int):IntKind.u8.wrap n=n % 256:=by
 simp [IntKind.wrap,IntKind.bits,IntKind.signed]
theorem asD (st ky sy la:Bool) (id ba te sp:Int) (hg:(Sh.mk st ky sy la id ba te sp).pO=true):bt av 169 [.agg [.b st,.b ky,.b sy,.b la,.i .i64 id,.i .i64 ba,.i .i64 te,.i .i64 sp]] [] 0 (.s (Sh.mk st ky sy la id ba te sp).enc) [] 0:=by
 rw [Sh.BU] at hg;simp only at hg;obtain ⟨h1,h2,h3,h4,h5,h6,h7,h8,-⟩:=hg;refine dT an9 Tryz.func169 LL ?_
 dsimp only [i169,TP2];simp only [go_sem,A7,K4,J0,simprocAttr];refine Ends.au rfl (cS _ ?_);have e1:=anu ⟨(id/256).toNat,by omega⟩
 have e2:=orL ⟨te.toNat,by omega⟩ ⟨sp.toNat,by omega⟩
 have f1:id.fdiv 256=(((id/256).toNat:Nat):Int):=by rw [sJ _ (by omega)];omega
 have f2:te=((te.toNat:Nat):Int):=by omega
 have f3:sp=((sp.toNat:Nat):Int):=by omega
 simp only at e1 e2;rw [<-f1] at e1;rw [<-f2,<-f3] at e2;have f4:IntKind.u8.wrap (id.fdiv 256)=id.fdiv 256:=by rw [DB,f1];omega
 simp only [Sh.enc];rw [f4,e1,e2,DB,DB,sJ _ (by omega),Int.emod_eq_of_lt h3 (by omega)]
theorem wrap64 (n:Int) (h: -9223372036854775808<=n) (h':n<=9223372036854775807):IntKind.i64.wrap n=n:=by
 simp only [IntKind.wrap,IntKind.bits,IntKind.signed];simp;split<;>omega
def C8:Ct
 |[.agg [.b st,.b ky,.b sy,.b la,.i .i64 id,.i .i64 ba,.i .i64 te,.i .i64 sp]],_,n=>some ((Sh.mk st ky sy la id ba te sp).pO,{v:= .s (Sh.mk st ky sy la id ba te sp).enc,n})
 |_,_,_=>none
theorem ams:aq av 169 C8:=fun args h n c E hc ht=>by
 unfold C8 at hc;split at hc
 ·cases hc;exact ax.pure (by kernel_rfl) rfl rfl (asD _ _ _ _ _ _ _ _ ht) _ _
 ·cases hc
theorem Sh.eta (s:Sh):Sh.mk s.st s.ky s.sy s.la s.id s.ba s.te s.sp=s:=rfl
def TP3:List (Nat×Ct):=[(137,CB),(169,C8)]
theorem arP:Sound av (bZ TP3):=Sound.cons akv (Sound.cons ams Sound.nil)
attribute [local congr] tU
theorem atV (st ky sy la:Bool) (id ba te sp:Int):bt av 102 [.agg [.b st,.b ky,.b sy,.b la,.i .i64 id,.i .i64 ba,.i .i64 te,.i .i64 sp]] [] 0
 (.bg [.s (if (Sh.mk st ky sy la id ba te sp).pO then (Sh.mk st ky sy la id ba te sp).enc else []),.i .i64 (if (Sh.mk st ky sy la id ba te sp).pO then 0 else 400)]) [] 0:=by
 refine dT arP Tryz.func102 MK ?_
 dsimp only [i102,TP3];cases hg:(Sh.mk st ky sy la id ba te sp).pO
 ·simp only [go_sem,CB,C8,hg,cY,simprocAttr];exact Ends.au rfl rfl
 ·simp only [go_sem,CB,C8,hg,simprocAttr];exact Ends.au rfl rfl
def Lg:Ct
 |[.agg [.b st,.b ky,.b sy,.b la,.i .i64 id,.i .i64 ba,.i .i64 te,.i .i64 sp]],_,n=>some (true,{v:= .bg [.s (if (Sh.mk st ky sy la id ba te sp).pO then (Sh.mk st ky sy la id ba te sp).enc else []),.i .i64 (if (Sh.mk st ky sy la id ba te sp).pO then 0 else 400)],n})
 |_,_,_=>none
theorem aq3:aq av 102 Lg:=fun args h n c E hc ht=>by
 unfold Lg at hc;split at hc
 ·cases hc;exact ax.pure (by kernel_rfl) rfl rfl (atV _ _ _ _ _ _ _ _) _ _
 ·cases hc
end Go.Proofs.Rom
namespace Go.Proofs.Rom
open Go.Ab
def JW (a b c d e:UInt8):Sh where
 st:=(a.toNat:Int)/64 % 2==1
 ky:=(a.toNat:Int)/32 % 2==1
 sy:=(a.toNat:Int)/16 % 2==1
 la:=(a.toNat:Int)/8 % 2==1
 id:=256*((b.toNat:Int) % 128)+c.toNat
 ba:=d.toNat
 te:=(e.toNat:Int)/64
 sp:=(e.toNat:Int)/16 % 4
def BA (a b c d e:UInt8):Bool:=decide (a.toNat/128=1/\a.toNat % 8=0)&&(decide (b.toNat>=128)&&(decide (e.toNat % 16=0)&&(JW a b c d e).pO))
def zSh:Sh:=⟨false,false,false,false,0,0,0,0⟩
def dec:List UInt8->Sh×List UInt8×Int
 |a::b::c::d::e::r=>if BA a b c d e then (JW a b c d e,r,0) else (zSh,[],5)
 |_=>(zSh,[],7)
def xq (x:Sh×List UInt8×Int):AV:= .bg [.agg x.1.l,.s x.2.1,.i .i64 x.2.2]
def Kp (p:Nat->Bool):Bool:=(List.range 256).all p
theorem xx {p:Nat->Bool} (h:Kp p=true) (a:UInt8):p a.toNat=true:=by
 simp only [Kp,er,oh] at h;exact h _ a.toNat_lt
theorem b64 (a:UInt8):(iU .u8 (a.toNat:Int) 64 !=0)=((a.toNat:Int)/64 % 2==1):=by
 simpa using xx (p:=fun n=>(iU .u8 (n:Int) 64 !=0)==((n:Int)/64 % 2==1)) (by decide+kernel) a
theorem b32 (a:UInt8):(iU .u8 (a.toNat:Int) 32 !=0)=((a.toNat:Int)/32 % 2==1):=by
 simpa using xx (p:=fun n=>(iU .u8 (n:Int) 32 !=0)==((n:Int)/32 % 2==1)) (by decide+kernel) a
theorem b16 (a:UInt8):(iU .u8 (a.toNat:Int) 16 !=0)=((a.toNat:Int)/16 % 2==1):=by
 simpa using xx (p:=fun n=>(iU .u8 (n:Int) 16 !=0)==((n:Int)/16 % 2==1)) (by decide+kernel) a
theorem b8 (a:UInt8):(iU .u8 (a.toNat:Int) 8 !=0)=((a.toNat:Int)/8 % 2==1):=by
 simpa using xx (p:=fun n=>(iU .u8 (n:Int) 8 !=0)==((n:Int)/8 % 2==1)) (by decide+kernel) a
theorem ap5 (a:UInt8):IntKind.i64.wrap (iU .u8 (a.toNat:Int) 127)=(a.toNat:Int) % 128:=by
 simpa using xx (p:=fun n=>IntKind.i64.wrap (iU .u8 (n:Int) 127)==(n:Int) % 128) (by decide+kernel) a
theorem atA (a:UInt8):(iU .u8 (a.toNat:Int) 135 !=128)= !decide (a.toNat/128=1/\a.toNat % 8=0):=by
 simpa using xx (p:=fun n=>(iU .u8 (n:Int) 135 !=128)== !decide (n/128=1/\n % 8=0)) (by decide+kernel) a
theorem b15 (a:UInt8):(iU .u8 (a.toNat:Int) 15 !=0)= !decide (a.toNat % 16=0):=by
 simpa using xx (p:=fun n=>(iU .u8 (n:Int) 15 !=0)== !decide (n % 16=0)) (by decide+kernel) a
theorem s6 (a:UInt8):IntKind.i64.wrap ((a.toNat:Int).fdiv 64)=(a.toNat:Int)/64:=by
 simpa using xx (p:=fun n=>IntKind.i64.wrap ((n:Int).fdiv 64)==(n:Int)/64) (by decide+kernel) a
theorem s4 (a:UInt8):IntKind.i64.wrap (iU .u8 ((a.toNat:Int).fdiv 16) 3)=(a.toNat:Int)/16 % 4:=by
 simpa using xx (p:=fun n=>IntKind.i64.wrap (iU .u8 ((n:Int).fdiv 16) 3)==(n:Int)/16 % 4) (by decide+kernel) a
theorem wu8 (a:UInt8):IntKind.i64.wrap (a.toNat:Int)=(a.toNat:Int):=by
 have:=a.toNat_lt;exact wrap64 _ (by omega) (by omega)
theorem or8: ∀(h:Nat) (l:Nat),h<128->l<256->orI .i64 (IntKind.i64.wrap ((h:Int)*256)) (l:Int)=256*(h:Int)+l:=by
 intro h l hh hl;have e1:IntKind.i64.wrap ((h:Int)*256)=((h*256:Nat):Int):=by rw [wrap64 _ (by omega) (by omega)];omega
 rw [e1];unfold orI;have e2:(BitVec.ofInt IntKind.i64.bits ((h*256:Nat):Int) ||| BitVec.ofInt IntKind.i64.bits (l:Int)).toNat=h*256+l:=by
  show (BitVec.ofInt 64 ((h*256:Nat):Int) ||| BitVec.ofInt 64 (l:Int)).toNat=h*256+l;simp only [BitVec.toNat_or,BitVec.ofInt_natCast,BitVec.toNat_ofNat];rw [mL (by omega),mL (by omega)]
  have:=Nat.two_pow_add_eq_or_of_lt (i:=8) (b:=l) (by omega) h
  rw [qu h 256];exact this.symm
 rw [e2,wrap64 _ (by omega) (by omega)]
 omega
theorem aqX (b c:UInt8):orI .i64 (IntKind.i64.wrap ((b.toNat:Int) % 128*256)) (c.toNat:Int)=256*((b.toNat:Int) % 128)+c.toNat:=by
 have h:=or8 (b.toNat % 128) c.toNat (by omega) c.toNat_lt
 have e:((b.toNat % 128:Nat):Int)=(b.toNat:Int) % 128:=by omega
 rw [e] at h;exact h
theorem F8 {l:List UInt8} (h:l.length<5):dec l=(zSh,[],7):=by
 match l,h with
 |[],_=>rfl
 |[_],_=>rfl
 |[_,_],_=>rfl
 |[_,_,_],_=>rfl
 |[_,_,_,_],_=>rfl
 |_::_::_::_::_::_,h=>exact absurd h (by simp)
theorem auC {l:List UInt8} (h: ¬l.length<5): ∃a b c d e r,l=a::b::c::d::e::r:=by
 match l,h with
 |a::b::c::d::e::r,_=>exact ⟨a,b,c,d,e,r,rfl⟩
 |[],h=>exact absurd (by simp) h
 |[_],h=>exact absurd (by simp) h
 |[_,_],h=>exact absurd (by simp) h
 |[_,_,_],h=>exact absurd (by simp) h
 |[_,_,_,_],h=>exact absurd (by simp) h
theorem w66 (l:List UInt8):bt av 66 [.s l] [] 0 (xq (dec l)) [] 0:=by
 refine dT an9 Tryz.func66 aaF ?_
 dsimp only [i66,TP2];by_cases hl:l.length<5
 ·have hl':(l.length:Int)<5:=by omega
  simp only [go_sem,hl',simprocAttr];rw [F8 hl];exact Ends.pure rfl
 ·obtain ⟨a,b,c,d,e,r,rfl⟩:=auC hl;have n5:((r.length+1+1+1+1+1:Nat):Int)=(r.length:Int)+5:=by omega
  have c0:decide ((0:Int)<(r.length:Int)+5)=true:=ah (by omega)
  have c1:decide ((1:Int)<(r.length:Int)+5)=true:=ah (by omega)
  have c2:decide ((2:Int)<(r.length:Int)+5)=true:=ah (by omega)
  have c3:decide ((3:Int)<(r.length:Int)+5)=true:=ah (by omega)
  have c4:decide ((4:Int)<(r.length:Int)+5)=true:=ah (by omega)
  have c5:decide ((r.length:Int)+5<5)=false:=cN (by omega)
  have ho:=aqX b c;simp only [go_sem,CB,b64,b32,b16,b8,ap5,atA,b15,s6,s4,wu8,n5,c0,c1,c2,c3,c4,c5,ho,fy,List.drop_succ_cons,simprocAttr];have hid: ∀x:Prop,(x↔BA a b c d e=true)->(x->dec (a::b::c::d::e::r)=(JW a b c d e,r,0))/\(¬x->dec (a::b::c::d::e::r)=(zSh,[],5)):=fun x hx=>by
   simp only [dec];constructor
   ·intro h;rw [aM (hx.1 h)]
   ·intro h;rw [aN (fun h'=>h (hx.2 h'))]
  repeat' (first|refine nr (fun _=> ?_) (fun _=> ?_)|refine jP ?_ ?_)
  all_goals first
   |(refine Ends.au rfl ?_
     rw [(hid (BA a b c d e=true) Iff.rfl).2 (by simp only [BA,JW];grind)]
     rfl)
   |(refine Ends.au rfl ?_
     rw [(hid (BA a b c d e=true) Iff.rfl).1 (by simp only [BA,JW];grind)]
     rfl)
   |grind
attribute [local congr] tU in
def Cm:Ct
 |[.s l],_,n=>some (true,{v:=xq (dec l),n})
 |_,_,_=>none
theorem s66:aq av 66 Cm:=fun args h n c E hc ht=>by
 unfold Cm at hc;split at hc
 ·cases hc;exact ax.pure (by kernel_rfl) rfl rfl (w66 _) _ _
 ·cases hc
def TP5:List (Nat×Ct):=[(66,Cm),(196,A7),(169,C8)]
theorem arD:Sound av (bZ TP5):=Sound.cons s66<|Sound.cons Wg<|Sound.cons ams Sound.nil
def Wt (i b:Int):Bool:=decide (0<=i)&&decide (i<=32767)&&(decide (0<=b)&&decide (b<=255))
def uU (l:List UInt8) (i b:Int):List UInt8×Int:=
 if (dec l).2.2 !=0 then ([],(dec l).2.2) else if Wt i b then ({(dec l).1 with id:=i,ba:=b:Sh}.enc++(dec l).2.1,0) else ([],2)
theorem VJ {l:List UInt8} (h:(dec l).2.2=0):(dec l).1.pO=true/\(dec l).2.1.length<=l.length:=by
 unfold dec at h ⊢;split at h
 ·split at h
  ·rename_i hf;simp only [BA,aw] at hf;rw [aM (by simp only [BA,aw];exact hf)]
   exact ⟨hf.2.2.2,by simp;omega⟩
  ·cases h
 ·cases h
theorem I3 {s:Sh} {i b:Int} (hs:s.pO=true) (h:Wt i b=true):({s with id:=i,ba:=b:Sh}).pO=true:=by
 simp only [Wt,aw,aV] at h;rw [Sh.BU] at hs ⊢;exact ⟨h.1.1,h.1.2,h.2.1,h.2.2,hs.2.2.2.2⟩
theorem Pz {s:Sh}:s.enc.length=5:=rfl
theorem auT (l:List UInt8) (i b:Int) (hl:l.length<=1000000000):bt av 234 [.s l,.i .i64 i,.i .i64 b] [] 0 (.bg [.s (uU l i b).1,.i .i64 (uU l i b).2]) [] 0:=by
 refine dT arD Tryz.func234 P0 ?_
 dsimp only [i234,TP5];have hd:= @VJ l;have hg:= @I3 (dec l).1 i b;simp only [go_sem,Cm,A7,C8,xq,Sh.l,simprocAttr];repeat' (first|refine nr (fun _=> ?_) (fun _=> ?_)|refine jP ?_ ?_)
 all_goals first
  |(refine Ends.au rfl ?_
    simp only [uU,Wt]
    grind)
  |(simp only [Wt,Sh.eta,Pz] at*
    grind)
def Pf:Ct
 |[.s l,.i .i64 i,.i .i64 b],_,n=>some (decide (l.length<=1000000000),{v:= .bg [.s (uU l i b).1,.i .i64 (uU l i b).2],n})
 |_,_,_=>none
theorem atO:aq av 234 Pf:=fun args h n c E hc ht=>by
 unfold Pf at hc;split at hc
 ·cases hc;exact ax.pure (by kernel_rfl) rfl rfl (auT _ _ _ (bO ht)) _ _
 ·cases hc
end Go.Proofs.Rom
namespace Go.Proofs.Rom
open Go.Ab
def lead (a b:Int):Int:=if (a-b) % 65536>=32768 then (a-b) % 65536-65536 else (a-b) % 65536
def CG (a b:Int):Int:=if (a-b) % 4294967296>=2147483648 then (a-b) % 4294967296-4294967296 else (a-b) % 4294967296
theorem atw (x y:Int) (hx:0<=x/\x<=65535) (hy:0<=y/\y<=65535):bt av 248 [.i .i64 x,.i .i64 y,.i .i64 16] [] 0 (.bg [.i .i64 (lead x y),.i .i64 0]) [] 0:=by
 refine dT Sound.nil Tryz.func248 Ef ?_
 dsimp only [i248];have f1:x.fdiv 65536=0:=by rw [sJ _ (by omega)];omega
 have f2:y.fdiv 65536=0:=by rw [sJ _ (by omega)];omega
 have c1:decide (x<0)=false:=cN (by omega)
 have c2:decide (y<0)=false:=cN (by omega)
 have g1:IntKind.i64.wrap (x-y)=x-y:=bS (by omega) (by omega)
 have g2:IntKind.i64.wrap 65536=65536:=rfl;have g3:IntKind.i64.wrap 65535=65535:=rfl;have g4:((x-y) % 65536).fdiv 32768=(x-y) % 65536/32768:=sJ _ (by omega)
 have g5:IntKind.i64.wrap ((x-y) % 65536-65536)=(x-y) % 65536-65536:=bS (by omega) (by omega)
 simp only [go_sem,f1,f2,c1,c2,g1,g2,g3,akG,g4,g5,simprocAttr];repeat' (first|refine nr (fun _=> ?_) (fun _=> ?_)|refine jP ?_ ?_)
 all_goals first
  |(refine Ends.au rfl ?_
    simp only [lead]
    grind)
  |rfl
theorem OR (x y:Int) (hx:0<=x/\x<=4294967295) (hy:0<=y/\y<=4294967295):bt av 248 [.i .i64 x,.i .i64 y,.i .i64 32] [] 0 (.bg [.i .i64 (CG x y),.i .i64 0]) [] 0:=by
 refine dT Sound.nil Tryz.func248 Ef ?_
 dsimp only [i248];have f1:x.fdiv 4294967296=0:=by rw [sJ _ (by omega)];omega
 have f2:y.fdiv 4294967296=0:=by rw [sJ _ (by omega)];omega
 have c1:decide (x<0)=false:=cN (by omega)
 have c2:decide (y<0)=false:=cN (by omega)
 have g1:IntKind.i64.wrap (x-y)=x-y:=bS (by omega) (by omega)
 have g2:IntKind.i64.wrap 4294967296=4294967296:=rfl;have g3:IntKind.i64.wrap 4294967295=4294967295:=rfl;have g4:((x-y) % 4294967296).fdiv 2147483648=(x-y) % 4294967296/2147483648:=sJ _ (by omega)
 have g5:IntKind.i64.wrap ((x-y) % 4294967296-4294967296)=(x-y) % 4294967296-4294967296:=bS (by omega) (by omega)
 simp only [go_sem,f1,f2,c1,c2,g1,g2,g3,aki,g4,g5,simprocAttr];repeat' (first|refine nr (fun _=> ?_) (fun _=> ?_)|refine jP ?_ ?_)
 all_goals first
  |(refine Ends.au rfl ?_
    simp only [CG]
    grind)
  |rfl
def NV:Ct
 |[.i .i64 x,.i .i64 y,.i .i64 16],_,n=>some (da 0 65535 x&&da 0 65535 y,{v:= .bg [.i .i64 (lead x y),.i .i64 0],n})
 |[.i .i64 x,.i .i64 y,.i .i64 32],_,n=>some (da 0 4294967295 x&&da 0 4294967295 y,{v:= .bg [.i .i64 (CG x y),.i .i64 0],n})
 |_,_,_=>none
theorem aqq:aq av 248 NV:=fun args h n c E hc ht=>by
 unfold NV at hc;split at hc
 ·cases hc;simp only [aw] at ht;exact ax.pure (by kernel_rfl) rfl rfl (atw _ _ (dD ht.1) (dD ht.2)) _ _
 ·cases hc;simp only [aw] at ht;exact ax.pure (by kernel_rfl) rfl rfl (OR _ _ (dD ht.1) (dD ht.2)) _ _
 ·cases hc
/-! sums -/
theorem m8 (a b:Int):IntKind.i64.wrap (IntKind.u8.wrap (IntKind.u8.wrap a-IntKind.u8.wrap b))=(a-b) % 256:=by
 rw [qN,qN,qN,bS (by omega) (by omega)];omega
theorem m16 (a b:Int):IntKind.i64.wrap (IntKind.u16.wrap (IntKind.u16.wrap a-IntKind.u16.wrap b))=(a-b) % 65536:=by
 rw [mY,mY,mY,bS (by omega) (by omega)];omega
theorem m32 (a b:Int):IntKind.i64.wrap (IntKind.u32.wrap (IntKind.u32.wrap a-IntKind.u32.wrap b))=(a-b) % 4294967296:=by
 rw [mO,mO,mO,bS (by omega) (by omega)];omega
theorem p8 (a b:Int):IntKind.i64.wrap (IntKind.u8.wrap (IntKind.u8.wrap a+IntKind.u8.wrap b))=(a+b) % 256:=by
 rw [qN,qN,qN,bS (by omega) (by omega)];omega
theorem p16 (a b:Int):IntKind.i64.wrap (IntKind.u16.wrap (IntKind.u16.wrap a+IntKind.u16.wrap b))=(a+b) % 65536:=by
 rw [mY,mY,mY,bS (by omega) (by omega)];omega
theorem p32 (a b:Int):IntKind.i64.wrap (IntKind.u32.wrap (IntKind.u32.wrap a+IntKind.u32.wrap b))=(a+b) % 4294967296:=by
 rw [mO,mO,mO,bS (by omega) (by omega)];omega
theorem auE (a:Int):(IntKind.i64.wrap a) % 32768=a % 32768:=by
 have hw:IntKind.i64.wrap a=a\/ ∃k:Int,IntKind.i64.wrap a=a+18446744073709551616*k:=by
  right;simp only [IntKind.wrap,IntKind.bits,IntKind.signed];simp;split
  ·exact ⟨-(a/18446744073709551616)-1,by omega⟩
  ·exact ⟨-(a/18446744073709551616),by omega⟩
 rcases hw with h|⟨k,h⟩<;>rw [h]
 omega
theorem atX (a b:Int):bt av 225 [.i .i64 a,.i .i64 b] [] 0 (.i .i64 ((a-b) % 65536)) [] 0:=by
 refine dT Sound.nil Tryz.func225 NL ?_
 dsimp only [i225];simp only [go_sem,m16,simprocAttr];exact Ends.au rfl rfl
def DA:Ct
 |[.i .i64 a,.i .i64 b],_,n=>some (true,{v:= .i .i64 ((a-b) % 65536),n})
 |_,_,_=>none
theorem ajT:aq av 225 DA:=fun args h n c E hc ht=>by
 unfold DA at hc;split at hc
 ·cases hc;exact ax.pure (by kernel_rfl) rfl rfl (atX _ _) _ _
 ·cases hc
theorem aq6 (a b:Int):bt av 226 [.i .i64 a,.i .i64 b] [] 0 (.i .i64 ((a-b) % 4294967296)) [] 0:=by
 refine dT Sound.nil Tryz.func226 N7 ?_
 dsimp only [i226];simp only [go_sem,m32,simprocAttr];exact Ends.au rfl rfl
def Px:Ct
 |[.i .i64 a,.i .i64 b],_,n=>some (true,{v:= .i .i64 ((a-b) % 4294967296),n})
 |_,_,_=>none
theorem ap7:aq av 226 Px:=fun args h n c E hc ht=>by
 unfold Px at hc;split at hc
 ·cases hc;exact ax.pure (by kernel_rfl) rfl rfl (aq6 _ _) _ _
 ·cases hc
theorem atT (a b:Int):bt av 228 [.i .i64 a,.i .i64 b] [] 0 (.i .i64 ((a-b) % 256)) [] 0:=by
 refine dT Sound.nil Tryz.func228 OS ?_
 dsimp only [i228];simp only [go_sem,m8,simprocAttr];exact Ends.au rfl rfl
def Om:Ct
 |[.i .i64 a,.i .i64 b],_,n=>some (true,{v:= .i .i64 ((a-b) % 256),n})
 |_,_,_=>none
theorem asV:aq av 228 Om:=fun args h n c E hc ht=>by
 unfold Om at hc;split at hc
 ·cases hc;exact ax.pure (by kernel_rfl) rfl rfl (atT _ _) _ _
 ·cases hc
theorem at3 (a b:Int):bt av 231 [.i .i64 a,.i .i64 b] [] 0 (.i .i64 ((a+b) % 65536)) [] 0:=by
 refine dT Sound.nil Tryz.func231 Mo ?_
 dsimp only [i231];simp only [go_sem,p16,simprocAttr];exact Ends.au rfl rfl
def NB:Ct
 |[.i .i64 a,.i .i64 b],_,n=>some (true,{v:= .i .i64 ((a+b) % 65536),n})
 |_,_,_=>none
theorem apK:aq av 231 NB:=fun args h n c E hc ht=>by
 unfold NB at hc;split at hc
 ·cases hc;exact ax.pure (by kernel_rfl) rfl rfl (at3 _ _) _ _
 ·cases hc
theorem arh (a b:Int):bt av 232 [.i .i64 a,.i .i64 b] [] 0 (.i .i64 ((a+b) % 4294967296)) [] 0:=by
 refine dT Sound.nil Tryz.func232 LX ?_
 dsimp only [i232];simp only [go_sem,p32,simprocAttr];exact Ends.au rfl rfl
def OI:Ct
 |[.i .i64 a,.i .i64 b],_,n=>some (true,{v:= .i .i64 ((a+b) % 4294967296),n})
 |_,_,_=>none
theorem ar8:aq av 232 OI:=fun args h n c E hc ht=>by
 unfold OI at hc;split at hc
 ·cases hc;exact ax.pure (by kernel_rfl) rfl rfl (arh _ _) _ _
 ·cases hc
theorem as0 (a b:Int):bt av 233 [.i .i64 a,.i .i64 b] [] 0 (.i .i64 ((a+b) % 256)) [] 0:=by
 refine dT Sound.nil Tryz.func233 PB ?_
 dsimp only [i233];simp only [go_sem,p8,simprocAttr];exact Ends.au rfl rfl
def O2:Ct
 |[.i .i64 a,.i .i64 b],_,n=>some (true,{v:= .i .i64 ((a+b) % 256),n})
 |_,_,_=>none
theorem asO:aq av 233 O2:=fun args h n c E hc ht=>by
 unfold O2 at hc;split at hc
 ·cases hc;exact ax.pure (by kernel_rfl) rfl rfl (as0 _ _) _ _
 ·cases hc
theorem aqu (a b:Int):bt av 227 [.i .i64 a,.i .i64 b] [] 0 (.i .i64 ((a+b) % 32768)) [] 0:=by
 refine dT Sound.nil Tryz.func227 NK ?_
 dsimp only [i227];simp only [go_sem,Qi,auE,simprocAttr];exact Ends.au rfl rfl
def vf:Ct
 |[.i .i64 a,.i .i64 b],_,n=>some (true,{v:= .i .i64 ((a+b) % 32768),n})
 |_,_,_=>none
theorem adw:aq av 227 vf:=fun args h n c E hc ht=>by
 unfold vf at hc;split at hc
 ·cases hc;exact ax.pure (by kernel_rfl) rfl rfl (aqu _ _) _ _
 ·cases hc
def aha:List (Nat×Ct):=[(248,NV)]
theorem agp:Sound av (bZ aha):=Sound.cons aqq Sound.nil
theorem auO (x y:Int) (hx:da 0 65535 x=true) (hy:da 0 65535 y=true):bt av 230 [.i .i64 x,.i .i64 y,.i .i64 16] [] 0 (.bg [.b (decide (lead x y>0)),.i .i64 0]) [] 0:=by
 refine dT agp Tryz.func230 Mz ?_
 dsimp only [i230,aha];simp only [go_sem,NV,hx,hy,simprocAttr];exact Ends.au rfl rfl
def Jg:Ct
 |[.i .i64 x,.i .i64 y,.i .i64 16],_,n=>some (da 0 65535 x&&da 0 65535 y,{v:= .bg [.b (decide (lead x y>0)),.i .i64 0],n})
 |_,_,_=>none
theorem auG:aq av 230 Jg:=fun args h n c E hc ht=>by
 unfold Jg at hc;split at hc
 ·cases hc;simp only [aw] at ht;exact ax.pure (by kernel_rfl) rfl rfl (auO _ _ ht.1 ht.2) _ _
 ·cases hc
/-! must: the first panic -/
def mW:Value:= .iface 265 (.agg #[])
theorem amm:bt av 229 [.b true] [] 0 (.bg []) [] 0:=by
 refine dT Sound.nil Tryz.func229 FB ?_
 dsimp only [i229];simp only [go_sem,simprocAttr];exact Ends.au rfl rfl
theorem agu:cL av 229 [.b false] [] 0 (some mW) (.bg []) [] 0:=by
 refine cL.dQ Sound.nil mo Tryz.func229 FB (by simp [i229]) (aQ ?_)
 dsimp only [i229];simp only [go_sem,lv,simprocAttr];exact ⟨rfl,Ends.au rfl rfl⟩
theorem ax.yK {P:Program} {f:FuncId} {args:List AV} {pn:Option Value} {v:AV} (hc:Go.Ab.bJ P f=true) (ha:ae 0 args=true) (hv:v.al 0=true) (hf:cL P f args [] 0 pn v [] 0) (h:Hp) (n:Nat):ax P f args h n {v,n,pn}:=by
 refine ax.uV (ψ:=fun b=>b) hc hf rfl (bx _) ha (fun b hb=>absurd hb (by omega)) (fun b kk hb=>by simp [ab] at hb) (aU _ ha).symm (fun b kk hb=>by simp [ab] at hb) (fun b1 b2 k1 k2 hb=>by simp [ab] at hb) (by simp) (lS _ hv).symm
  (fun b r hb=>by simp [dH] at hb) (fun b kk hb=>by simp [ab] at hb) (fun c kk hc=> ?_)
 simp [bX.app,dH,ab,only,inl] at hc
def vK:Ct
 |[.b c],_,n=>some (true,{v:= .bg [],n,pn:=bif c then none else some mW})
 |_,_,_=>none
theorem adE:aq av 229 vK:=fun args h n c E hc ht=>by
 unfold vK at hc;split at hc
 ·rename_i b;cases hc;cases b
  ·exact ax.yK (by kernel_rfl) rfl rfl agu _ _
  ·exact ax.yK (pn:=none) (by kernel_rfl) rfl rfl amm _ _
 ·cases hc
theorem auo (n bits:Int) (hb:0<=bits/\bits<=63):bt av 195 [.i .i64 n,.fp [.i .i64 bits] 0] [] 0 (.b !(qn bits n)) [] 0:=by
 refine dT Sound.nil Tryz.func195 M3 ?_
 dsimp only [i195];have c1:decide (0<=bits)=true:=ah hb.1;cases h1:decide (n<0)
 ·have h1':decide (0<=n)=true:=ah (by simpa using h1)
  simp only [go_sem,h1,c1,simprocAttr];have hm:Nat.min bits.toNat 64=bits.toNat:=oK (by omega)
  have hi:bits<=64:=by omega
  exact Ends.au rfl (by simp [qn,h1',bne,hm,hi])
 ·have h1':decide (0<=n)=false:=cN (by simpa using h1)
  simp only [go_sem,h1,c1,simprocAttr];exact Ends.au rfl (by simp [qn,h1'])
theorem auF (l:List Int) (bits:Int) (hb:0<=bits/\bits<=63) (hl:l.length<=9223372036854775807):bt av 236 [.fz (rows aC l) l.length,.fn 195 [.fp [.i .i64 bits] 0]] [] 0 (.i .i64 (x5 (fun n=> !qn bits n) l 0)) [] 0:=
 E3 (el:=fun n=> .i .i64 n) mo Tryz.func236 NS (by kernel_rfl) (fun _=>rfl) rfl (fun _=>rfl) (fun a b h=>by cases h;rfl) l hl (fun n _=>auo n bits hb)
theorem atn (l:List Int) (bits:Int) (hb:0<=bits/\bits<=63) (hl:l.length<=9223372036854775807):bt av 194 [.fz (rows aC l) l.length,.fn 195 [.fp [.i .i64 bits] 0]] [] 0 (.b (l.any fun n=> !qn bits n)) [] 0:=
 Ip mo Tryz.func194 N5 (by kernel_rfl) (bN gN) rfl (auF l bits hb hl) (uY _ l 0 (by omega))
def Ma:Ct
 |[x,.fn 195 [.p b 0]],h,n=>wH h 1 x fun rd m cs ok=>(ab h b).bind fun kb=>(PZ kb).bind fun bits=>(bk 1 dJ m cs).bind fun l=>
  some (ok&&decide (0<=bits/\bits<=63)&&decide (m<=9223372036854775807),{v:= .b (l.any fun n=> !qn bits n),n,rd:=b::rd})
 |_,_,_=>none
theorem arQ:aq av 194 Ma:=fun args h n c E hc ht=>by
 unfold Ma at hc;split at hc
 ·rename_i x b;rw [oS] at hc;simp only [af] at hc;obtain ⟨⟨rd,m,cs,ok⟩,hv,kb,hkb,bits,hbits,l,hl,he⟩:=hc;cases he;simp only [aw,aV] at ht;obtain ⟨⟨rfl,hb⟩,hm⟩:=ht;obtain ⟨rfl,hlm⟩:=bD (f:=aC) dx hl;subst hlm;refine ax.A3 (by kernel_rfl) (argsF:=[.fz (rows aC l) l.length,.fn 195 [.fp kb.cells 0]]) ⟨rF hv (bN gN) (fun c hc=>by rw [iQ];split;rfl;exact hc),jE.fn ⟨jE.p (by simp only [only,iQ,cu,cond_true];exact hkb) ?_ (by rw [zg hbits]),trivial⟩,trivial⟩ rfl ?_
  ·rw [zg hbits];rfl
  ·rw [zg hbits];exact atn l bits hb hm
 ·cases hc
def TM1:List (Nat×Ct):=[(194,Ma)]
theorem arM:Sound av (bZ TM1):=Sound.cons arQ Sound.nil
theorem ap2 (l:List Int) (bits:Int) (hb:0<=bits/\bits<=63) (hl:l.length<=9223372036854775807):bt av 136 [.i .i64 bits,.fz (rows aC l) l.length] [] 0 (.b (l.all (qn bits))) [] 0:=by
 refine dT arM Tryz.func136 Oa ?_
 dsimp only [i136,TM1];have hu:bk 1 dJ l.length (rows aC l)=some l:=eu bP (fun _=>rfl) l;have c1:decide (0<=bits/\bits<=63)=true:=ah hb;have c2:decide (l.length<=9223372036854775807)=true:=ah hl;have hvw: ∀(h:Hp) (k:List Nat->Nat->List AV->Bool->Option (Bool×bX)),wH h 1 (.fz (rows aC l) l.length) k=k [] l.length (rows aC l) true:=fun h k=>mF bP;simp only [go_sem,Ma,hvw,hu,c1,c2,PZ,simprocAttr];refine Ends.au rfl (cS _ ?_);rw [List.any_eq_not_all_not];simp
def oN:Ct
 |[.i .i64 bits,x],h,n=>wH h 1 x fun rd m cs ok=>(bk 1 dJ m cs).bind fun l=>some (ok&&decide (0<=bits/\bits<=63)&&decide (m<=9223372036854775807),{v:= .b (l.all (qn bits)),n,rd})
 |_,_,_=>none
theorem aqG:aq av 136 oN:=fun args h n c E hc ht=>by
 unfold oN at hc;split at hc
 ·rename_i bits x;rw [oS] at hc;simp only [af] at hc;obtain ⟨⟨rd,m,cs,ok⟩,hv,l,hl,he⟩:=hc;cases he;simp only [aw,aV] at ht;obtain ⟨⟨rfl,hb⟩,hm⟩:=ht;obtain ⟨rfl,hlm⟩:=bD (f:=aC) dx hl;subst hlm;exact ax.A3 (by kernel_rfl) (argsF:=[.i .i64 bits,.fz (rows aC l) l.length]) ⟨jE.same rfl,rF hv (bN gN) (fun c hc=>hc),trivial⟩ rfl (ap2 l bits hb hm)
 ·cases hc
def TM2:List (Nat×Ct):=[(136,oN)]
theorem aiV:Sound av (bZ TM2):=Sound.cons aqG Sound.nil
theorem om (p:Md) (hf:p.fin=true) (pre:Bool) {K:cF} {e:Env} {h:Hp} {n:Nat}
 (he:nS 1 e [(1,.p 0 0),(3,.b pre),(48,.fz (rows wu p.xs) p.xs.length),(49,.i .i64 (p.xs.length:Int)),(50,.i .i64 0)])
 (hh:uN 1 h [(0,{cells:=p.l})]) (hK: ∀e' h' n',cV e' 3=some (.b (pre&&ji (k9 p.xs) p.xs.length))->K (.exit 0) e' h' n'):
 Ab.Loop av [51,88] 89 0 QW K e h n:=by
 simp only [Md.fin,aw,aV,er] at hf;obtain ⟨⟨⟨_,hxl⟩,hxd⟩,_⟩:=hf;refine Loop.fj (F:=⟨av,bZ TM2,[51,88],89,0⟩) aiV mo p.xs.length (fun _=>True)
  (fun k=>[(1,.p 0 0),(3,.b (pre&&ji (k9 p.xs) k)),(48,.fz (rows wu p.xs) p.xs.length),(49,.i .i64 (p.xs.length:Int)),(50,.i .i64 (k:Int))])
  (fun k=>[(0,{cells:=p.l})]) 1 (by decide) trivial (by simpa [ji] using he) hh (fun k hk _=> ?_)
 dsimp only [TM2];have hLb:ae 1 p.l=true:=aD _ p.al;have hXb:ae 1 (rows wu p.xs)=true:=aD _ (bN sf);have hCb:ae 1 (rows aC p.cs)=true:=aD _ (bN gN);by_cases hlt:k<p.xs.length
 ·have c1:decide ((k:Int)<(p.xs.length:Int))=true:=ah (by omega)
  have c2:decide (0<=(k:Int)/\(k:Int)<(p.xs.length:Int))=true:=ah (by omega)
  obtain ⟨x,hx⟩: ∃x,p.xs[k]? =some x:=⟨_,aY hlt⟩;have hw:IntKind.i64.wrap ((k:Int)+1)=((k+1:Nat):Int):=by rw [bS (by omega) (by omega)];omega
  have hr:List.take 2 (List.drop (k*2) (rows wu p.xs))=[.i .i64 x.1,.s x.2]:=eo o8 hx;have hxx:=hxd x (bR hx);have hsn:ji (k9 p.xs) (k+1)=(ji (k9 p.xs) k&&k9 p.xs k):=rfl;cases hp:pre&&ji (k9 p.xs) k
  ·have hnx:(pre&&ji (k9 p.xs) (k+1))=false:=by rw [hsn,<-yx,hp];rfl
   simp only [go_sem,c1,c2,hr,hp,hw,hnx,hlt,Md.l,AV.al,ae,aG,hXb,hCb,simprocAttr]
  ·have hnx:(pre&&ji (k9 p.xs) (k+1))=k9 p.xs k:=by rw [hsn,<-yx,hp];rfl
   cases a1:uO 0 255 x.1
   ·have hx0:k9 p.xs k=false:=by simp [k9,hx,a1]
    rw [hx0] at hnx;simp only [go_sem,c1,c2,hr,hp,hw,hnx,hlt,oN,eM,bk,dJ,ta,fL,mE,a1,Md.l,AV.al,ae,aG,hXb,hCb,simprocAttr]
   cases a2:uO 0 255 (x.2.length:Int)
   ·have hx0:k9 p.xs k=false:=by simp [k9,hx,a1,a2]
    rw [hx0] at hnx;simp only [go_sem,c1,c2,hr,hp,hw,hnx,hlt,oN,eM,bk,dJ,ta,fL,mE,a1,a2,Md.l,AV.al,ae,aG,hXb,hCb,simprocAttr]
   cases a3:decide (0<x.1)
   ·have hx0:k9 p.xs k=false:=by simp only [k9,hx,a1,a2,a3,dW,eV]
    rw [hx0] at hnx;simp only [go_sem,c1,c2,hr,hp,hw,hnx,hlt,oN,eM,bk,dJ,ta,fL,mE,a1,a2,a3,Md.l,AV.al,ae,aG,hXb,hCb,simprocAttr]
   by_cases hk0:k=0
   ·have d1:(k==0)=true:=by simp [hk0]
    have hx0:k9 p.xs k=true:=by simp only [k9,hx,a1,a2,a3,d1,az,fX]
    rw [hx0] at hnx;have d0:((k:Int)==0)=true:=by simp [hk0]
    simp only [go_sem,c1,c2,hr,hp,hw,hnx,hlt,oN,eM,bk,dJ,ta,fL,mE,a1,a2,a3,d0,Md.l,AV.al,ae,aG,hXb,hCb,simprocAttr]
   ·have d0:((k:Int)==0)=false:=by simp [hk0]
    have d1:(k==0)=false:=by simp [hk0]
    obtain ⟨y,hy⟩: ∃y,p.xs[k-1]? =some y:=⟨_,aY (by omega)⟩
    have hx0:k9 p.xs k=decide (y.1<x.1):=by simp only [k9,hx,hy,a1,a2,a3,d1,eJ,fg]
    rw [hx0] at hnx;have q2:IntKind.i64.wrap ((k:Int)-1)=((k-1:Nat):Int):=by rw [bS (by omega) (by omega)];omega
    have c3:decide (0<=((k-1:Nat):Int)/\((k-1:Nat):Int)<(p.xs.length:Int))=true:=ah (by omega)
    have hy1:(rows wu p.xs)[(k-1)*2+0]? =some (.i .i64 y.1):=cn (j:=0) o8 hy rfl;rw [fu] at hy1;simp only [go_sem,c1,c2,c3,hr,hp,hw,hnx,hlt,oN,eM,bk,dJ,ta,fL,mE,a1,a2,a3,d0,q2,hy1,Md.l,AV.al,ae,aG,hXb,hCb,simprocAttr];repeat' (first|refine nr (fun _=> ?_) (fun _=> ?_)|refine jP ?_ ?_)
    all_goals skip
 ·have c1:decide ((k:Int)<(p.xs.length:Int))=false:=cN (by omega)
  obtain rfl:k=p.xs.length:=by omega
  simp only [go_sem,c1,simprocAttr];exact hK _ _ _ rfl
theorem w61 (p:Md) (hf:p.fin=true):bt av 61 [.agg p.l] [] 0 (.i .i64 (if uL p then 0 else 230)) [] 0:=by
 have hf':=hf;simp only [Md.fin,aw,aV] at hf';refine dT aiV Tryz.func61 U7 ?_
 dsimp only [i61,TM2];have hu:bk 1 dJ p.cs.length (rows aC p.cs)=some p.cs:=eu bP (fun _=>rfl) p.cs;have hcl:decide (p.cs.length<=9223372036854775807)=true:=ah hf'.1.1.1;have hvw: ∀(h:Hp) (k:List Nat->Nat->List AV->Bool->Option (Bool×bX)),wH h 1 (.fz (rows aC p.cs) p.cs.length) k=k [] p.cs.length (rows aC p.cs) true:=fun h k=>mF bP;have h32:qn 32=uO 0 4294967295:=funext am9;have c15:decide ((p.cs.length:Int)<=15)=decide (p.cs.length<=15):=qF.2 (by omega)
 have c16:decide ((p.xs.length:Int)<=16)=decide (p.xs.length<=16):=qF.2 (by omega)
 have hLb:ae 1 p.l=true:=aD _ p.al;have hXb:ae 1 (rows wu p.xs)=true:=aD _ (bN sf);have hCb:ae 1 (rows aC p.cs)=true:=aD _ (bN gN);have hpre:=rfl (a:=mg p);generalize hR:(if uL p then (0:Int) else 230)=R
 have hrun: ∀(pre:Bool) (e':Env) (h':Hp) (n':Nat),pre=mg p->cV e' 3=some (.b (pre&&ji (k9 p.xs) p.xs.length))→
  jw ⟨av,bZ [(136,oN)],[51,88],89,0⟩ (.seq (.seq (.cQ Qc) (.cond (.t 88) (.seq (.cQ QU) .ret) .skip)) (.seq (.cQ Hl) .ret)) (qS [.t 2] fun v h' n'=>Ab.Ends 0 v h' n' (.i .i64 R) [] 0) e' h' n':=by
  intro pre e' h' n' hp he3;subst hp;cases hb:mg p&&ji (k9 p.xs) p.xs.length
  ·rw [hb] at he3;simp only [go_sem,he3,simprocAttr];exact Ends.au rfl (by rw [<-hR];simp [uL,hb])
  ·rw [hb] at he3;simp only [go_sem,he3,simprocAttr];exact Ends.au rfl (by rw [<-hR];simp [uL,hb])
 cases a1:uO 0 127 p.ty
 ·simp only [go_sem,oN,eM,bk,dJ,AO,ta,tL,h32,fL,mE,hvw,hu,hcl,c15,c16,a1,Md.l,simprocAttr];refine om p hf false ?_ ?_ (fun e' h' n' he=> ?_)
  ·simp only [go_sem,AV.al,ae,aG,hXb,hCb,simprocAttr]
  ·simp only [go_sem,Md.l,AV.al,ae,aG,hXb,hCb,simprocAttr]
  ·simp only [iW,cu,j5];exact hrun _ _ _ _ (by simp only [mg,a1,eV,dW,az]) he
 cases a2:uO 0 65535 p.sq
 ·simp only [go_sem,oN,eM,bk,dJ,AO,ta,tL,h32,fL,mE,hvw,hu,hcl,c15,c16,a1,a2,Md.l,simprocAttr];refine om p hf false ?_ ?_ (fun e' h' n' he=> ?_)
  ·simp only [go_sem,AV.al,ae,aG,hXb,hCb,simprocAttr]
  ·simp only [go_sem,Md.l,AV.al,ae,aG,hXb,hCb,simprocAttr]
  ·simp only [iW,cu,j5];exact hrun _ _ _ _ (by simp only [mg,a1,a2,eV,dW,az]) he
 cases a3:(uO 0 4294967295 p.tm&&uO 0 4294967295 p.ss)
 ·simp only [go_sem,oN,eM,bk,dJ,AO,ta,tL,h32,fL,mE,hvw,hu,hcl,c15,c16,a1,a2,a3,Md.l,simprocAttr];refine om p hf false ?_ ?_ (fun e' h' n' he=> ?_)
  ·simp only [go_sem,AV.al,ae,aG,hXb,hCb,simprocAttr]
  ·simp only [go_sem,Md.l,AV.al,ae,aG,hXb,hCb,simprocAttr]
  ·simp only [iW,cu,j5];exact hrun _ _ _ _ (by simp only [mg,a1,a2,a3,eV,dW,az]) he
 cases a4:p.cs.all (uO 0 4294967295)
 ·simp only [go_sem,oN,eM,bk,dJ,AO,ta,tL,h32,fL,mE,hvw,hu,hcl,c15,c16,a1,a2,a3,a4,Md.l,simprocAttr];refine om p hf false ?_ ?_ (fun e' h' n' he=> ?_)
  ·simp only [go_sem,AV.al,ae,aG,hXb,hCb,simprocAttr]
  ·simp only [go_sem,Md.l,AV.al,ae,aG,hXb,hCb,simprocAttr]
  ·simp only [iW,cu,j5];exact hrun _ _ _ _ (by simp only [mg,a1,a2,a3,a4,eV,dW,az]) he
 cases a5:uO 0 255 p.pd
 ·simp only [go_sem,oN,eM,bk,dJ,AO,ta,tL,h32,fL,mE,hvw,hu,hcl,c15,c16,a1,a2,a3,a4,a5,Md.l,simprocAttr];refine om p hf false ?_ ?_ (fun e' h' n' he=> ?_)
  ·simp only [go_sem,AV.al,ae,aG,hXb,hCb,simprocAttr]
  ·simp only [go_sem,Md.l,AV.al,ae,aG,hXb,hCb,simprocAttr]
  ·simp only [iW,cu,j5];exact hrun _ _ _ _ (by simp only [mg,a1,a2,a3,a4,a5,eV,dW,az]) he
 cases a6:decide (p.cs.length<=15)
 ·simp only [go_sem,oN,eM,bk,dJ,AO,ta,tL,h32,fL,mE,hvw,hu,hcl,c15,c16,a1,a2,a3,a4,a5,a6,Md.l,simprocAttr];refine om p hf false ?_ ?_ (fun e' h' n' he=> ?_)
  ·simp only [go_sem,AV.al,ae,aG,hXb,hCb,simprocAttr]
  ·simp only [go_sem,Md.l,AV.al,ae,aG,hXb,hCb,simprocAttr]
  ·simp only [iW,cu,j5];exact hrun _ _ _ _ (by simp only [mg,a1,a2,a3,a4,a5,a6,eV,dW,az]) he
 cases a7:decide (p.xs.length<=16)
 ·simp only [go_sem,oN,eM,bk,dJ,AO,ta,tL,h32,fL,mE,hvw,hu,hcl,c15,c16,a1,a2,a3,a4,a5,a6,a7,Md.l,simprocAttr];refine om p hf false ?_ ?_ (fun e' h' n' he=> ?_)
  ·simp only [go_sem,AV.al,ae,aG,hXb,hCb,simprocAttr]
  ·simp only [go_sem,Md.l,AV.al,ae,aG,hXb,hCb,simprocAttr]
  ·simp only [iW,cu,j5];exact hrun _ _ _ _ (by simp only [mg,a1,a2,a3,a4,a5,a6,a7,eV,dW,az]) he
 simp only [go_sem,oN,eM,bk,dJ,AO,ta,tL,h32,fL,mE,hvw,hu,hcl,c15,c16,a1,a2,a3,a4,a5,a6,a7,Md.l,simprocAttr];refine om p hf true ?_ ?_ (fun e' h' n' he=> ?_)
 ·simp only [go_sem,AV.al,ae,aG,hXb,hCb,simprocAttr]
 ·simp only [go_sem,Md.l,AV.al,ae,aG,hXb,hCb,simprocAttr]
 ·simp only [iW,cu,j5];exact hrun _ _ _ _ (by simp only [mg,a1,a2,a3,a4,a5,a6,a7,eV,dW,az]) he
def Ai:Ct
 |[.agg l],_,n=>(LW l).bind fun p=>some (p.fin,{v:= .i .i64 (if uL p then 0 else 230),n})
 |_,_,_=>none
theorem s61:aq av 61 Ai:=fun args h n c E hc ht=>by
 unfold Ai at hc;split at hc
 ·simp only [af] at hc;obtain ⟨p,hp,he⟩:=hc;cases he;rw [zi hp];exact ax.pure (by kernel_rfl) (by simp only [ae,AV.al,p.al,az]) rfl (w61 p ht) _ _
 ·cases hc
structure Mx where
 s:Sw
 k:Int
 p:Md
 x:Sh
def Mx.c (m:Mx) (o:AV):List AV:=
 [.fz (rows aC m.s.l) m.s.l.length,.i .i64 m.s.ou,.i .i64 m.s.st,.i .i64 m.s.nw,.i .i64 m.s.wa,.i .i64 m.s.ca,.i .i64 m.s.ai,.i .i64 m.s.tp,.i .i64 m.s.fr,.b m.s.kp,.i .i64 m.s.sq,.i .i64 m.s.tm,.i .i64 m.s.id,.i .i64 m.s.ba,.i .i64 m.s.ss,.i .i64 m.s.sT,.i .i64 m.s.si,.i .i64 m.s.sb,
  .i .i64 m.k,
  .b m.p.ma,.i .i64 m.p.ty,.i .i64 m.p.sq,.i .i64 m.p.tm,.i .i64 m.p.ss,.fz (rows aC m.p.cs) m.p.cs.length,.fz (rows wu m.p.xs) m.p.xs.length,.i .i64 m.p.pd,.s m.p.pl,
  .b m.x.st,.b m.x.ky,.b m.x.sy,.b m.x.la,.i .i64 m.x.id,.i .i64 m.x.ba,.i .i64 m.x.te,.i .i64 m.x.sp,
  o]
theorem Mx.al (m:Mx) {j:Nat} {o:AV} (ho:o.al j=true):ae j (m.c o)=true:=by simp only [Mx.c,ae,AV.al,ib,csB,Qg,ho,az]
def sh8:List AV->Option Sh
 |[.b st,.b ky,.b sy,.b la,.i .i64 id,.i .i64 ba,.i .i64 te,.i .i64 sp]=>some ⟨st,ky,sy,la,id,ba,te,sp⟩
 |_=>none
theorem RC {l:List AV} {x:Sh} (h:sh8 l=some x):l=x.l:=by
 unfold sh8 at h;split at h
 ·cases h;rfl
 ·cases h
def mxL (l:List AV):Option (Mx×AV):=(EX (l.take 18)).bind fun s=>match l.drop 18 with
 | .i .i64 k::r=>(LW (r.take 9)).bind fun p=>(sh8 ((r.drop 9).take 8)).bind fun x=>match r.drop 17 with
  |[o]=>some (⟨s,k,p,x⟩,o)
  |_=>none
 |_=>none
theorem akR (m:Mx) (o:AV):mxL (m.c o)=some (m,o):=by
 obtain ⟨s,k,p,x⟩:=m;show (EX s.a).bind (fun s'=>(LW p.l).bind fun p'=>(sh8 x.l).bind fun x'=>some ((⟨s',k,p',x'⟩:Mx),o))=_;rw [lQ,aS,xS,aS];rfl
theorem qh {α:Type} (l:List α) (n:Nat):l=l.take n++l.drop n:=(kQ n l).symm
theorem RS {l:List AV} {m:Mx} {o:AV} (h:mxL l=some (m,o)):l=m.c o:=by
 unfold mxL at h;simp only [af] at h;obtain ⟨s,hs,h⟩:=h;split at h
 ·rename_i k r hr;simp only [af] at h;obtain ⟨p,hp,x,hx,h⟩:=h;split at h
  ·rename_i o' ho;simp only [aP,bq] at h;obtain ⟨rfl,rfl⟩:=h;rw [qh l 18,hr,mZ hs,qh r 9,zi hp,qh (r.drop 9) 8,RC hx,qp,ho];rfl
  ·cases h
 ·cases h
def KS (k:aW):Option (Mx×AV):=match k with
 |⟨c,false,none,none,none⟩=>mxL c
 |_=>none
theorem Ea (m:Mx) (o:AV):KS {cells:=m.c o}=some (m,o):=akR m o
theorem ti {k:aW} {m:Mx} {o:AV} (h:KS k=some (m,o)):k={cells:=m.c o}:=by
 unfold KS at h;split at h
 ·rw [RS h]
 ·cases h
/-! take -/
def Fz (s:Sw) (k:Int) (x:Sh):Bool:=(k==s.wa)&&(!(k==s.nw)&&(x.st&&(x.ky&&(x.sp==0))))
def eW (s:Sw) (k:Int) (p:Md) (x:Sh):Sw:=bif Fz s k x then
 ⟨s.l,s.ou,s.st,k,s.wa,0,s.ai,(p.sq-1) % 65536,x.id,true,(IntKind.i64.wrap (s.ss+1)-p.sq) % 65536,(IntKind.i64.wrap (s.sT+s.st)-p.tm) % 4294967296,(IntKind.i64.wrap (s.si+1)+IntKind.i64.wrap (0-x.id)) % 32768,(IntKind.i64.wrap (s.sb+1)-x.ba) % 256,s.ss,s.sT,s.si,s.sb⟩ else s
def ajt:List (Nat×Ct):=[(225,DA),(226,Px),(227,vf),(228,Om)]
theorem ah7:Sound av (bZ ajt):=Sound.cons ajT (Sound.cons ap7 (Sound.cons adw (Sound.cons asV Sound.nil)))
theorem art (m:Mx) (o:AV) (ho:o.al 1=true):bt av 187 [.p 0 0] [(0,{cells:=m.c o})] 1 (.bg []) [(0,{cells:=Mx.c {m with s:=eW m.s m.k m.p m.x} o})] 1:=by
 have hR:eW m.s m.k m.p m.x=bif Fz m.s m.k m.x then
  ⟨m.s.l,m.s.ou,m.s.st,m.k,m.s.wa,0,m.s.ai,(m.p.sq-1) % 65536,m.x.id,true,(IntKind.i64.wrap (m.s.ss+1)-m.p.sq) % 65536,(IntKind.i64.wrap (m.s.sT+m.s.st)-m.p.tm) % 4294967296,(IntKind.i64.wrap (m.s.si+1)+IntKind.i64.wrap (0-m.x.id)) % 32768,(IntKind.i64.wrap (m.s.sb+1)-m.x.ba) % 256,m.s.ss,m.s.sT,m.s.si,m.s.sb⟩ else m.s:=rfl
 generalize eW m.s m.k m.p m.x=R at*;obtain ⟨⟨l,ou,st,nw,wa,ca,ai,tp,fr,kp,sq,tm,id,ba,ss,sT,si,sb⟩,k,⟨ma,pty,psq,ptm,pss,cs,xs,pd,pl⟩,⟨xst,xky,xsy,xla,xid,xba,xte,xsp⟩⟩:=m;simp only [Fz] at hR;simp only [Mx.c];refine dT ah7 Tryz.func187 O9 ?_
 dsimp only [i187,ajt];have hB1:=ib 1 l;have hB2:=csB 1 cs;have hB3:=Qg 1 xs;have al:=fun {j:Nat}=> @AV.al j;cases a1:(k==wa)
 ·have b1:(k !=wa)=true:=by simp only [bne,a1,fA]
  simp only [go_sem,b1,simprocAttr];rw [a1] at hR;rw [hR];exact Ends.gu rfl rfl (by simp only [AV.al,ae,hB1,hB2,hB3,ho,az]) rfl rfl
 have b1:(k !=wa)=false:=by simp only [bne,a1,fI]
 cases a2:(k==nw);rotate_left
 ·simp only [go_sem,b1,a2,simprocAttr];rw [a1,a2] at hR;rw [hR];exact Ends.gu rfl rfl (by simp only [AV.al,ae,hB1,hB2,hB3,ho,az]) rfl rfl
 cases xst
 ·simp only [go_sem,b1,a2,simprocAttr];rw [a1,a2] at hR;rw [hR];exact Ends.gu rfl rfl (by simp only [AV.al,ae,hB1,hB2,hB3,ho,az]) rfl rfl
 cases xky
 ·simp only [go_sem,b1,a2,simprocAttr];rw [a1,a2] at hR;rw [hR];exact Ends.gu rfl rfl (by simp only [AV.al,ae,hB1,hB2,hB3,ho,az]) rfl rfl
 cases a3:(xsp==0)
 ·have b3:(xsp !=0)=true:=by simp only [bne,a3,fA]
  simp only [go_sem,b1,a2,b3,simprocAttr];rw [a1,a2,a3] at hR;rw [hR];exact Ends.gu rfl rfl (by simp only [AV.al,ae,hB1,hB2,hB3,ho,az]) rfl rfl
 have b3:(xsp !=0)=false:=by simp only [bne,a3,fI]
 simp only [go_sem,b1,a2,b3,DA,Px,vf,Om,simprocAttr];rw [a1,a2,a3] at hR;rw [hR];exact Ends.gu rfl rfl (by simp only [AV.al,ae,hB1,hB2,hB3,ho,az]) rfl rfl
def G1:Ct
 |[.p b 0],h,n=>(ab h b).bind fun kb=>(KS kb).bind fun mo=>some (mo.2.al 0,{v:= .bg [],n,rd:=[b],md:=[(b,some {cells:=Mx.c {mo.1 with s:=eW mo.1.s mo.1.k mo.1.p mo.1.x} mo.2})]})
 |_,_,_=>none
theorem ax.xX {P:Program} {f:FuncId} {argsL:List AV} {pn:Option Value} {v:AV} {k k':aW} {b n:Nat} {h:Hp} (hc:Go.Ab.bJ P f=true) (ha:ae 1 argsL=true) (hk:ae 0 k.cells=true) (hk':ae 0 k'.cells=true) (hro:k'.ro=false) (hv:v.al 0=true) (hb:ab h b=some k)
 (hf:cL P f argsL [(0,k)] 1 pn v [(0,k')] 1):ax P f (aL (fun _=>b) argsL) h n {v,n,rd:=[b],md:=[(b,some k')],pn}:=by
 have hkr:k.aH (fun _=>b)=k:=by simp only [aW.aH,aU k.cells hk]
 have hkr':k'.aH (fun _=>b)=k':=by simp only [aW.aH,aU k'.cells hk']
 have h0: ∀(k:aW) c kk,ab [(0,k)] c=some kk->c=0/\kk=k:=fun k c kk hh=>by
  simp only [ab] at hh;by_cases hc:c=0
  ·subst hc;simp at hh;exact ⟨rfl,hh.symm⟩
  ·rw [bz hc] at hh;simp at hh
 have hbel1:ae 1 k.cells=true:=aD _ hk;refine ax.uV (ψ:=fun _=>b) hc hf rfl (bx _) ha (fun c hc=>⟨k,by rw [show c=0 by omega];rfl⟩) (fun c kk hh=> ?_) rfl (fun c kk hh=> ?_) (fun b1 b2 k1 k2 h1 h2 _ _=> ?_) (by simp) (lS _ hv).symm (fun c r hh=> ?_) (fun c kk hh=>by simp [ab] at hh) (fun c kk hh=> ?_)
 ·obtain ⟨rfl,rfl⟩:=h0 k c kk hh;exact ⟨by omega,hbel1⟩
 ·obtain ⟨rfl,rfl⟩:=h0 k c kk hh;rw [hkr];simp [only,inl,hb]
 ·rw [(h0 k b1 k1 h1).1,(h0 k b2 k2 h2).1]
 ·simp only [dH] at hh;by_cases hcb:c=b
  ·subst hcb;simp [inl]
  ·rw [bz hcb] at hh;simp at hh
 ·simp only [bX.app,dH,ab] at hh;by_cases hcb:c=b
  ·subst hcb;simp at hh;subst hh;refine ⟨0,k',rfl,by omega,by simp,?_,fun h=>by rw [hro] at h;cases h⟩
   have:(fun b_1=>if b_1<1 then c else n+(b_1-1))=fun b_1=>if b_1<1 then c else n+(b_1-1):=rfl
   simp only [aW.aH];rw [aU k'.cells hk']
  ·rw [bz hcb] at hh;simp only [cond_false,only,inl,bz hcb,gZ] at hh;cases hh
theorem at4:aq av 187 G1:=fun args h n c E hc ht=>by
 unfold G1 at hc;split at hc
 ·rename_i b;simp only [af,aP,bq] at hc;obtain ⟨kb,hkb,⟨m,o⟩,hm,rfl,rfl⟩:=hc;have:=ti hm;subst this;simp only at ht ⊢;have hb1: ∀j,o.al j=true:=fun j=>by
   have:=aD (m:=j) [o] (by simp only [ae,ht,az])
   simpa only [ae,ie] using this
  exact ax.xX (pn:=none) (argsL:=[.p 0 0]) (by kernel_rfl) rfl (m.al ht) (Mx.al _ ht) rfl rfl hkb (art m o (hb1 1))
 ·cases hc
theorem ZP {o:AV} (h:o.al 0=true) (j:Nat):o.al j=true:=by
 have:=aD (m:=j) [o] (by simp only [ae,h,az])
 simpa only [ae,ie] using this
/-! advance -/
def wg (s:Sw) (k:Int) (p:Md):Bool:=(k==s.nw)&&decide (lead p.sq s.tp>0)
def nj (s:Sw) (k:Int) (p:Md):Sw:=bif wg s k p then {s with tp:=p.sq} else s
def aht:List (Nat×Ct):=[(229,vK),(230,Jg)]
theorem aon:Sound av (bZ aht):=Sound.cons adE (Sound.cons auG Sound.nil)
theorem aqI (m:Mx) (o:AV) (ho:o.al 1=true) (h1:da 0 65535 m.p.sq=true) (h2:da 0 65535 m.s.tp=true):
 cL av 188 [.p 0 0] [(0,{cells:=m.c o})] 1 (bif wg m.s m.k m.p then none else some mW) (.bg []) [(0,{cells:=Mx.c {m with s:=nj m.s m.k m.p} o})] 1:=by
 have hR:nj m.s m.k m.p=bif wg m.s m.k m.p then {m.s with tp:=m.p.sq} else m.s:=rfl
 generalize nj m.s m.k m.p=R at*;obtain ⟨⟨l,ou,st,nw,wa,ca,ai,tp,fr,kp,sq,tm,id,ba,ss,sT,si,sb⟩,k,⟨ma,pty,psq,ptm,pss,cs,xs,pd,pl⟩,⟨xst,xky,xsy,xla,xid,xba,xte,xsp⟩⟩:=m;simp only [wg] at hR ⊢;dsimp only at h1 h2;simp only [Mx.c];refine cL.dQ aon mo Tryz.func188 Nn (by simp [i188]) (aQ ?_)
 dsimp only [i188,aht];have hB1:=ib 1 l;have hB2:=csB 1 cs;have hB3:=Qg 1 xs;cases a1:(k==nw)
 ·simp only [go_sem,a1,vK,simprocAttr];rw [a1] at hR;rw [hR];exact Ends.gu rfl rfl (by simp only [AV.al,ae,hB1,hB2,hB3,ho,az]) rfl rfl
 have e0:((0:Int)==0)=true:=rfl;cases a2:decide (lead psq tp>0)
 ·simp only [go_sem,a1,a2,vK,Jg,h1,h2,e0,simprocAttr];rw [a1,a2] at hR;rw [hR];exact Ends.gu rfl rfl (by simp only [AV.al,ae,hB1,hB2,hB3,ho,az]) rfl rfl
 ·simp only [go_sem,a1,a2,vK,Jg,h1,h2,e0,simprocAttr];rw [a1,a2] at hR;rw [hR];exact Ends.gu rfl rfl (by simp only [AV.al,ae,hB1,hB2,hB3,ho,az]) rfl rfl
def GG:Ct
 |[.p b 0],h,n=>(ab h b).bind fun kb=>(KS kb).bind fun mo=>some (mo.2.al 0&&(da 0 65535 mo.1.p.sq&&da 0 65535 mo.1.s.tp),{v:= .bg [],n,rd:=[b],md:=[(b,some {cells:=Mx.c {mo.1 with s:=nj mo.1.s mo.1.k mo.1.p} mo.2})],pn:=bif wg mo.1.s mo.1.k mo.1.p then none else some mW})
 |_,_,_=>none
theorem asr:aq av 188 GG:=fun args h n c E hc ht=>by
 unfold GG at hc;split at hc
 ·rename_i b;simp only [af,aP,bq] at hc;obtain ⟨kb,hkb,⟨m,o⟩,hm,rfl,rfl⟩:=hc;have:=ti hm;subst this;simp only [aw] at ht ⊢;exact ax.xX (argsL:=[.p 0 0]) (by kernel_rfl) rfl (m.al ht.1) (Mx.al _ ht.1) rfl rfl hkb (aqI m o (ZP ht.1 1) ht.2.1 ht.2.2)
 ·cases hc
/-! frame -/
def Bo (s:Sw) (x:Sh):Int:=bif x.ky then 0 else min s.ca s.ai
def AU (s:Sw) (x:Sh):Int:=bif x.sy&&(x.te==IntKind.i64.wrap (Bo s x+1)&&decide (x.te<=s.ai)) then IntKind.i64.wrap (Bo s x+1) else Bo s x
def gK (s:Sw) (x:Sh):Sw:=bif x.id==s.fr then s else
 ⟨s.l,s.ou,s.st,s.nw,s.wa,AU s x,s.ai,s.tp,x.id,decide (x.te<=AU s x),s.sq,s.tm,bif decide (x.te<=AU s x) then s.id else (s.id+ -1) % 32768,s.ba,s.ss,s.sT,s.si,s.sb⟩
def aji:List (Nat×Ct):=[(227,vf)]
theorem al7:Sound av (bZ aji):=Sound.cons adw Sound.nil
theorem aqH (m:Mx) (o:AV) (ho:o.al 1=true):
 bt av 189 [.p 0 0] [(0,{cells:=m.c o})] 1 (.bg []) [(0,{cells:=Mx.c {m with s:=gK m.s m.x} o})] 1:=by
 have hR:gK m.s m.x=bif m.x.id==m.s.fr then m.s else
 ⟨m.s.l,m.s.ou,m.s.st,m.s.nw,m.s.wa,AU m.s m.x,m.s.ai,m.s.tp,m.x.id,decide (m.x.te<=AU m.s m.x),m.s.sq,m.s.tm,bif decide (m.x.te<=AU m.s m.x) then m.s.id else (m.s.id+ -1) % 32768,m.s.ba,m.s.ss,m.s.sT,m.s.si,m.s.sb⟩:=rfl
 have hC:AU m.s m.x=bif m.x.sy&&(m.x.te==IntKind.i64.wrap (Bo m.s m.x+1)&&decide (m.x.te<=m.s.ai)) then IntKind.i64.wrap (Bo m.s m.x+1) else Bo m.s m.x:=rfl
 have hD:Bo m.s m.x=bif m.x.ky then 0 else min m.s.ca m.s.ai:=rfl
 generalize gK m.s m.x=R at*;generalize AU m.s m.x=CT at*;generalize Bo m.s m.x=CS at*;obtain ⟨⟨l,ou,st,nw,wa,ca,ai,tp,fr,kp,sq,tm,id,ba,ss,sT,si,sb⟩,k,⟨ma,pty,psq,ptm,pss,cs,xs,pd,pl⟩,⟨xst,xky,xsy,xla,xid,xba,xte,xsp⟩⟩:=m;dsimp only at hR hC hD;simp only [Mx.c];refine dT al7 Tryz.func189 NW ?_
 dsimp only [i189,aji];have hB1:=ib 1 l;have hB2:=csB 1 cs;have hB3:=Qg 1 xs;have hmin:min ca ai=if ai<ca then ai else ca:=by omega
 rw [hmin] at hD;have hw:IntKind.i64.wrap (0+1)=1:=rfl;cases a1:(xid==fr);rotate_left
 ·simp only [go_sem,a1,simprocAttr];rw [a1] at hR;rw [hR];exact Ends.gu rfl rfl (by simp only [AV.al,ae,hB1,hB2,hB3,ho,az]) rfl rfl
 rw [a1] at hR;cases xky;all_goals (
  cases xsy
  ·have hC':CT=CS:=hC;cases a4:decide (xte<=CT);all_goals (
    rw [a4] at hR;rw [hC',hD] at a4;dsimp only [cond_true,cond_false] at a4;(try simp only [hw] at a4)
    simp only [go_sem,a1,vf,qW,hmin,a4,cond_true,cond_false,simprocAttr];rw [hR,hC',hD];exact Ends.gu rfl rfl (by simp only [AV.al,ae,hB1,hB2,hB3,ho,az]) rfl rfl)
  cases a2:(xte==IntKind.i64.wrap (CS+1))
  ·rw [a2] at hC;have hC':CT=CS:=hC;rw [hD] at a2;dsimp only [cond_true,cond_false] at a2;(try rw [hw] at a2)
   cases a4:decide (xte<=CT);all_goals (
    rw [a4] at hR;rw [hC',hD] at a4;dsimp only [cond_true,cond_false] at a4;(try simp only [hw] at a4)
    simp only [go_sem,a1,a2,vf,qW,hmin,a4,cond_true,cond_false,simprocAttr];rw [hR,hC',hD];exact Ends.gu rfl rfl (by simp only [AV.al,ae,hB1,hB2,hB3,ho,az]) rfl rfl)
  cases a3:decide (xte<=ai)
  ·rw [a2,a3] at hC;have hC':CT=CS:=hC;rw [hD] at a2;dsimp only [cond_true,cond_false] at a2;(try rw [hw] at a2)
   cases a4:decide (xte<=CT);all_goals (
    rw [a4] at hR;rw [hC',hD] at a4;dsimp only [cond_true,cond_false] at a4;(try simp only [hw] at a4)
    simp only [go_sem,a1,a2,a3,vf,qW,hmin,a4,cond_true,cond_false,simprocAttr];rw [hR,hC',hD];exact Ends.gu rfl rfl (by simp only [AV.al,ae,hB1,hB2,hB3,ho,az]) rfl rfl)
  rw [a2,a3] at hC;have hC':CT=IntKind.i64.wrap (CS+1):=hC;rw [hD] at a2;dsimp only [cond_true,cond_false] at a2;(try rw [hw] at a2)
  cases a4:decide (xte<=CT);all_goals (
   rw [a4] at hR;rw [hC',hD] at a4;dsimp only [cond_true,cond_false] at a4;(try simp only [hw] at a4)
   simp only [go_sem,a1,a2,a3,vf,qW,hmin,a4,cond_true,cond_false,simprocAttr];rw [hR,hC',hD];exact Ends.gu rfl rfl (by simp only [AV.al,ae,hB1,hB2,hB3,ho,az]) rfl rfl))
def Ij:Ct
 |[.p b 0],h,n=>(ab h b).bind fun kb=>(KS kb).bind fun mo=>some (mo.2.al 0,{v:= .bg [],n,rd:=[b],md:=[(b,some {cells:=Mx.c {mo.1 with s:=gK mo.1.s mo.1.x} mo.2})]})
 |_,_,_=>none
theorem aqN:aq av 189 Ij:=fun args h n c E hc ht=>by
 unfold Ij at hc;split at hc
 ·rename_i b;simp only [af,aP,bq] at hc;obtain ⟨kb,hkb,⟨m,o⟩,hm,rfl,rfl⟩:=hc;have:=ti hm;subst this;simp only at ht ⊢;exact ax.xX (pn:=none) (argsL:=[.p 0 0]) (by kernel_rfl) rfl (m.al ht) (Mx.al _ ht) rfl rfl hkb (aqH m o (ZP ht 1))
 ·cases hc
/-! drop -/
def nY (s:Sw) (x:Sh):Bool:= !s.kp|| !(x.sp==0)
def uu (s:Sw) (x:Sh):Sw:=bif nY s x then {s with sq:=(s.sq-1) % 65536} else s
def ais:List (Nat×Ct):=[(225,DA),(229,vK)]
theorem afV:Sound av (bZ ais):=Sound.cons ajT (Sound.cons adE Sound.nil)
theorem aq9 (m:Mx) (o:AV) (ho:o.al 1=true):
 cL av 190 [.p 0 0] [(0,{cells:=m.c o})] 1 (bif nY m.s m.x then some mW else none) (.bg []) [(0,{cells:=Mx.c {m with s:=uu m.s m.x} o})] 1:=by
 have hR:uu m.s m.x=bif nY m.s m.x then {m.s with sq:=(m.s.sq-1) % 65536} else m.s:=rfl
 generalize uu m.s m.x=R at*;obtain ⟨⟨l,ou,st,nw,wa,ca,ai,tp,fr,kp,sq,tm,id,ba,ss,sT,si,sb⟩,k,⟨ma,pty,psq,ptm,pss,cs,xs,pd,pl⟩,⟨xst,xky,xsy,xla,xid,xba,xte,xsp⟩⟩:=m;simp only [nY] at hR ⊢;simp only [Mx.c];refine cL.dQ afV mo Tryz.func190 OC (by simp [i190]) (aQ ?_)
 dsimp only [i190,ais];have hB1:=ib 1 l;have hB2:=csB 1 cs;have hB3:=Qg 1 xs;cases kp
 ·simp only [go_sem,DA,vK,simprocAttr];rw [hR];exact Ends.gu rfl rfl (by simp only [AV.al,ae,hB1,hB2,hB3,ho,az]) rfl rfl
 cases a1:(xsp==0);all_goals (
  have b1:(xsp !=0)= !(xsp==0):=rfl;rw [a1] at hR b1;simp only [go_sem,DA,vK,b1,simprocAttr];rw [hR];exact Ends.gu rfl rfl (by simp only [AV.al,ae,hB1,hB2,hB3,ho,az]) rfl rfl)
def Im:Ct
 |[.p b 0],h,n=>(ab h b).bind fun kb=>(KS kb).bind fun mo=>some (mo.2.al 0,{v:= .bg [],n,rd:=[b],md:=[(b,some {cells:=Mx.c {mo.1 with s:=uu mo.1.s mo.1.x} mo.2})],pn:=bif nY mo.1.s mo.1.x then some mW else none})
 |_,_,_=>none
theorem ari:aq av 190 Im:=fun args h n c E hc ht=>by
 unfold Im at hc;split at hc
 ·rename_i b;simp only [af,aP,bq] at hc;obtain ⟨kb,hkb,⟨m,o⟩,hm,rfl,rfl⟩:=hc;have:=ti hm;subst this;simp only at ht ⊢;exact ax.xX (argsL:=[.p 0 0]) (by kernel_rfl) rfl (m.al ht) (Mx.al _ ht) rfl rfl hkb (aq9 m o (ZP ht 1))
 ·cases hc
/-! Clone of extensions -/
theorem arz (l:List (Int×List UInt8)) (hz:24*l.length<=aE):bt av 235 [.fz (rows wu l) l.length] [] 0 (.fz (rows wu l) l.length) [] 0:=
 Rr (z:=2) (bytes:=24) (zs:=[.i .i64 0,.s []]) mo Tryz.func235 PH (aT o8) (fF (fun _=>rfl) l) (bN sf) hz
def MX:Ct
 |[.fz L m],_,n=>(bk 2 xtV m L).bind fun l=>some (decide (24*l.length<=aE),{v:= .fz (rows wu l) l.length,n})
 |_,_,_=>none
theorem aug:aq av 235 MX:=fun args h n c E hc ht=>by
 unfold MX at hc;split at hc
 ·simp only [af,aP,bq] at hc;obtain ⟨l,hl,rfl,rfl⟩:=hc;obtain ⟨rfl,rfl⟩:=bD (f:=wu) (fun c a h=>Jo c a h) hl;exact ax.pure (by kernel_rfl) (by simp only [ae,AV.al,Qg,az]) (by simp only [AV.al,Qg]) (arz _ (bO ht)) _ _
 ·cases hc
/-! send -/
def xJ (s:Sw) (p:Md) (x:Sh):Sw:={s with ss:=(p.sq+s.sq) % 65536,sT:=(p.tm+s.tm) % 4294967296,si:=(x.id+s.id) % 32768,sb:=(x.ba+s.ba) % 256}
def xY (s:Sw) (p:Md) (x:Sh):Md:={p with ss:=s.ou,sq:=(p.sq+s.sq) % 65536,tm:=(p.tm+s.tm) % 4294967296,pl:=(uU p.pl ((x.id+s.id) % 32768) ((x.ba+s.ba) % 256)).1}
def v7 (s:Sw) (p:Md) (x:Sh):Bool:=decide (p.pl.length<=1000000000)&&(decide (8*p.cs.length<=aE)&&(decide (24*p.xs.length<=aE)&&((uU p.pl ((x.id+s.id) % 32768) ((x.ba+s.ba) % 256)).2==0)))
def ajd:List (Nat×Ct):=[(90,tK),(227,vf),(229,vK),(231,NB),(232,OI),(233,O2),(234,Pf),(235,MX)]
theorem aho:Sound av (bZ ajd):=Sound.cons s90 (Sound.cons adw (Sound.cons adE (Sound.cons apK (Sound.cons ar8 (Sound.cons asO (Sound.cons atO (Sound.cons aug Sound.nil)))))))
theorem atS (m:Mx) (hok:v7 m.s m.p m.x=true):
 bt av 191 [.p 0 0] [(0,{cells:=m.c .ns})] 1 (.bg []) [(0,{cells:=Mx.c {m with s:=xJ m.s m.p m.x} (.fz (xY m.s m.p m.x).l 1)})] 1:=by
 have hS:xJ m.s m.p m.x={m.s with ss:=(m.p.sq+m.s.sq) % 65536,sT:=(m.p.tm+m.s.tm) % 4294967296,si:=(m.x.id+m.s.id) % 32768,sb:=(m.x.ba+m.s.ba) % 256}:=rfl
 have hP:xY m.s m.p m.x={m.p with ss:=m.s.ou,sq:=(m.p.sq+m.s.sq) % 65536,tm:=(m.p.tm+m.s.tm) % 4294967296,pl:=(uU m.p.pl ((m.x.id+m.s.id) % 32768) ((m.x.ba+m.s.ba) % 256)).1}:=rfl
 simp only [v7,aw,aV,lU] at hok;generalize xJ m.s m.p m.x=S at*;generalize xY m.s m.p m.x=R at*;obtain ⟨⟨l,ou,st,nw,wa,ca,ai,tp,fr,kp,sq,tm,id,ba,ss,sT,si,sb⟩,k,⟨ma,pty,psq,ptm,pss,cs,xs,pd,pl⟩,⟨xst,xky,xsy,xla,xid,xba,xte,xsp⟩⟩:=m;dsimp only at hS hP hok;obtain ⟨o1,o2,o3,o4⟩:=hok;simp only [Mx.c];refine bt.dU aho mo Tryz.func191 L5 (by simp [i191]) (aQ ?_)
 dsimp only [i191,ajd];have d1:decide (pl.length<=1000000000)=true:=ah o1;have d2:decide (8*cs.length<=aE)=true:=ah o2;have d3:decide (24*xs.length<=aE)=true:=ah o3;have q1:bk 1 dJ cs.length (rows aC cs)=some cs:=eu bP (fun _=>rfl) cs;have q2:bk 2 xtV xs.length (rows wu xs)=some xs:=eu o8 (fun _=>rfl) xs;have hB1: ∀j,ae j (rows aC l)=true:=fun j=>ib j l;have hB2: ∀j,ae j (rows aC cs)=true:=fun j=>csB j cs;have hB3: ∀j,ae j (rows wu xs)=true:=fun j=>Qg j xs;simp only [go_sem,tK,vf,vK,NB,OI,O2,Pf,MX,d1,d2,d3,q1,q2,o4,simprocAttr];subst hS hP;have g1:112<=aE:=by decide
 rw [show decide (112<=aE)=true from ah g1]
 refine ⟨rfl,?_⟩;refine bw.rM (b:=3) (o:=0) (m:=1) (cs:=Md.l ⟨ma,pty,(psq+sq) % 65536,(ptm+tm) % 4294967296,ou,cs,xs,pd,(uU pl ((xid+id) % 32768) ((xba+ba) % 256)).1⟩) (v':= .bg []) (h':=[(0,{cells:=Mx.c ⟨⟨l,ou,st,nw,wa,ca,ai,tp,fr,kp,sq,tm,id,ba,(psq+sq) % 65536,(ptm+tm) % 4294967296,(xid+id) % 32768,(xba+ba) % 256⟩,k,⟨ma,pty,psq,ptm,pss,cs,xs,pd,pl⟩,⟨xst,xky,xsy,xla,xid,xba,xte,xsp⟩⟩ (.fz (Md.l ⟨ma,pty,(psq+sq) % 65536,(ptm+tm) % 4294967296,ou,cs,xs,pd,(uU pl ((xid+id) % 32768) ((xba+ba) % 256)).1⟩) 1)})]) rfl rfl (.inr rfl) (.inl rfl) dj.refl ?_ ?_
 ·refine ⟨⟨by decide,⟨_,rfl,rfl,rfl,rfl,?_⟩⟩,trivial⟩
  dsimp only [Mx.c];repeat (first|exact trivial|refine ⟨dj.refl,?_⟩|refine ⟨dj.hit,?_⟩)
 ·refine bw.ends (Ends.gu rfl rfl ?_ rfl rfl);exact Mx.al _ (by simp only [AV.al,Md.l,ae,hB2,hB3,az])
theorem CZ (p:Md) (j:Nat):ae j p.l=true:=aD _ p.al
def JO:Ct
 |[.p b 0],h,n=>(ab h b).bind fun kb=>(KS kb).bind fun mo=>match mo.2 with
  | .ns=>some (v7 mo.1.s mo.1.p mo.1.x,{v:= .bg [],n,rd:=[b],md:=[(b,some {cells:=Mx.c {mo.1 with s:=xJ mo.1.s mo.1.p mo.1.x} (.fz (xY mo.1.s mo.1.p mo.1.x).l 1)})]})
  |_=>none
 |_,_,_=>none
theorem aua:aq av 191 JO:=fun args h n c E hc ht=>by
 unfold JO at hc;split at hc
 ·rename_i b;simp only [af] at hc;obtain ⟨kb,hkb,⟨m,o⟩,hm,hc⟩:=hc;have:=ti hm;subst this;dsimp only at hc;cases o
  case ns=>
   cases hc;exact ax.xX (pn:=none) (argsL:=[.p 0 0]) (by kernel_rfl) rfl (m.al rfl) (Mx.al _ (by simp only [AV.al,CZ])) rfl rfl hkb (atS m ht)
  all_goals cases hc
 ·cases hc
def AI (p:Md):Bool:=decide (p.pl.length<=1000000000)&&(decide (8*p.cs.length<=aE)&&(decide (24*p.xs.length<=aE)&&((dec p.pl).2.2==0&&da 0 65535 p.sq)))
theorem Zh {l:List UInt8} (h:(dec l).2.2=0) (a b:Int):(uU l (a % 32768) (b % 256)).2=0:=by
 have h1:Wt (a % 32768) (b % 256)=true:=by simp only [Wt,aw,aV];omega
 simp only [uU,h,bne_self_eq_false,cY,bV,h1,cu]
theorem Ge {s:Sw} {p:Md} {x:Sh} (h:AI p=true):v7 s p x=true:=by
 simp only [AI,aw,aV,lU] at h;obtain ⟨h1,h2,h3,h4,h5⟩:=h;simp only [v7,aw,aV,lU];exact ⟨h1,h2,h3,Zh h4 _ _⟩
/-! told -/
def Pl:List (Nat×Ct):=[(187,G1),(188,GG),(189,Ij),(190,Im),(191,JO)]
theorem Q4:Sound av (bZ Pl):=Sound.cons at4 (Sound.cons asr (Sound.cons aqN (Sound.cons ari (Sound.cons aua Sound.nil))))
def oe (s:Sw) (k:Int) (p:Md) (x:Sh):Sw×AV:=
 bif wg (eW s k p x) k p then
  bif nY (gK (nj (eW s k p x) k p) x) x then (uu (gK (nj (eW s k p x) k p) x) x,.ns)
  else (xJ (gK (nj (eW s k p x) k p) x) p x,.fz (xY (gK (nj (eW s k p x) k p) x) p x).l 1)
 else (eW s k p x,.ns)
theorem apL (s:Sw) (k:Int) (p:Md) (x:Sh) (hp:AI p=true) (ht:da 0 65535 (eW s k p x).tp=true):
 bt av 123 [.p 0 0] [(0,{cells:=Mx.c ⟨s,k,p,x⟩ .ns})] 1 (.bg []) [(0,{cells:=Mx.c ⟨(oe s k p x).1,k,p,x⟩ (oe s k p x).2})] 1:=by
 have hsq:da 0 65535 p.sq=true:=by simp only [AI,aw] at hp;exact hp.2.2.2.2
 refine cL.Pn (pn:=none) z7.ends Q4 mo Tryz.func123 MH (by simp [i123]) (ops:=[]) rfl (by kernel_rfl) Tryz.func186 PG rfl ?_
 refine jl (caps:=[]) (bs:=[]) rfl rfl .nil (fun Gs h1 h2=> ?_);obtain rfl:Gs=[]:=List.length_eq_zero_iff.1 h1;refine ⟨eB _,?_⟩;dsimp only [i123,Pl,nd];have hb: ∀(m:Mx) (o:AV),o.al 1=true->ae 1 (m.c o)=true:=fun m o h=>m.al h;simp only [go_sem,simprocAttr];refine Loop.rounds (F:=⟨av,bZ Pl,[16],21,1⟩) 6 Q4 mo ?_;dsimp only [Pl];unfold oe;cases a1:wg (eW s k p x) k p
 ·have e1:nj (eW s k p x) k p=eW s k p x:=by simp only [nj,a1,cond_false]
  simp only [go_sem,lp,G1,GG,Ea,hsq,ht,a1,e1,ie,simprocAttr];simp only [AV.al,zK];dsimp only [i186,mW];simp only [go_sem,simprocAttr];exact Ends.gu rfl rfl (by exact hb _ _ rfl) rfl rfl
 cases a2:nY (gK (nj (eW s k p x) k p) x) x
 ·have e1:uu (gK (nj (eW s k p x) k p) x) x=gK (nj (eW s k p x) k p) x:=by simp only [uu,a2,cond_false]
  simp only [go_sem,lp,G1,GG,Ij,Im,JO,Ea,hsq,ht,a1,a2,e1,Ge,hp,ie,simprocAttr];simp only [AV.al,zK];dsimp only [i186,mW];simp only [go_sem,simprocAttr];exact Ends.gu rfl rfl (by exact hb _ _ (by simp only [AV.al,CZ])) rfl rfl
 ·simp only [go_sem,lp,G1,GG,Ij,Im,JO,Ea,hsq,ht,a1,a2,ie,simprocAttr];simp only [AV.al,zK];dsimp only [i186,mW];simp only [go_sem,simprocAttr];exact Ends.gu rfl rfl (by exact hb _ _ rfl) rfl rfl
def Ol:Ct
 |[.p b 0],h,n=>(ab h b).bind fun kb=>(KS kb).bind fun mo=>match mo.2 with
  | .ns=>some (AI mo.1.p&&da 0 65535 (eW mo.1.s mo.1.k mo.1.p mo.1.x).tp,{v:= .bg [],n,rd:=[b],md:=[(b,some {cells:=Mx.c ⟨(oe mo.1.s mo.1.k mo.1.p mo.1.x).1,mo.1.k,mo.1.p,mo.1.x⟩ (oe mo.1.s mo.1.k mo.1.p mo.1.x).2})]})
  |_=>none
 |_,_,_=>none
theorem FZ (s:Sw) (k:Int) (p:Md) (x:Sh) (j:Nat):(oe s k p x).2.al j=true:=by
 unfold oe;cases wg (eW s k p x) k p
 ·rfl
 ·cases nY (gK (nj (eW s k p x) k p) x) x
  ·simp only [cond_true,cond_false,AV.al,CZ]
  ·rfl
theorem asQ:aq av 123 Ol:=fun args h n c E hc ht=>by
 unfold Ol at hc;split at hc
 ·rename_i b;simp only [af] at hc;obtain ⟨kb,hkb,⟨⟨s,k,p,x⟩,o⟩,hm,hc⟩:=hc;have:=ti hm;subst this;dsimp only at hc;cases o
  case ns=>
   cases hc;simp only [aw] at ht;exact ax.xX (pn:=none) (argsL:=[.p 0 0]) (by kernel_rfl) rfl (Mx.al _ rfl) (Mx.al _ (FZ _ _ _ _ _)) rfl rfl hkb (apL _ _ _ _ ht.1 ht.2)
  all_goals cases hc
 ·cases hc
def mi (s:Sw) (k:Int) (p:Md) (x:Sh):Sw×List Md:=
 bif wg (eW s k p x) k p then
  bif nY (gK (nj (eW s k p x) k p) x) x then (uu (gK (nj (eW s k p x) k p) x) x,[])
  else (xJ (gK (nj (eW s k p x) k p) x) p x,[xY (gK (nj (eW s k p x) k p) x) p x])
 else (eW s k p x,[])
def PI:List Md->AV
 |[]=> .ns
 |l=> .fz (rows Md.l l) l.length
theorem Mr (s:Sw) (k:Int) (p:Md) (x:Sh):oe s k p x=((mi s k p x).1,PI (mi s k p x).2):=by
 unfold oe mi;cases wg (eW s k p x) k p
 ·rfl
 ·cases nY (gK (nj (eW s k p x) k p) x) x
  ·show (_,_)=(_,_);simp only [cond_true,cond_false,PI,rows,jU,List.map_nil,List.flatten_cons,List.flatten_nil,cM,List.length_cons,kv]
  ·rfl
def fi (s:Sw) (p:Md):Sw×List Md×Int:=
 bif dL s then bif uL p then bif decide (uZ s.l p.ss<0) then (Ad,[],4)
 else bif (dec p.pl).2.2==0 then ((mi s (uZ s.l p.ss) p (dec p.pl).1).1,(mi s (uZ s.l p.ss) p (dec p.pl).1).2,0) else (Ad,[],(dec p.pl).2.2)
 else (Ad,[],230) else (Ad,[],410)
def p7 (r:Sw×List Md×Int):AV:= .bg [.agg r.1.a,.fz (rows Md.l r.2.1) r.2.1.length,.i .i64 r.2.2]
theorem MO (l:List Md) (j:Nat):ae j (rows Md.l l)=true:=aD _ (bN (fun p=>p.al))
theorem tg (r:Sw×List Md×Int):(p7 r).al 0=true:=by simp only [p7,AV.al,ae,Sw.al,MO,az]
theorem El {e:Int} {h:Hp} {n:Nat}:bw 0 (.bg [.agg [.ns,.i .i64 0,.i .i64 0,.i .i64 0,.i .i64 0,.i .i64 0,.i .i64 0,.i .i64 0,.i .i64 0,.b false,.i .i64 0,.i .i64 0,.i .i64 0,.i .i64 0,.i .i64 0,.i .i64 0,.i .i64 0,.i .i64 0],.ns,.i .i64 e]) h n (p7 (Ad,[],e)) [] 0:=by
 refine bw.xe (l:=[]) (v':=p7 (Ad,[],e)) (dj.bg ⟨dj.agg ⟨dj.hit,dj.refl,dj.refl,dj.refl,dj.refl,dj.refl,dj.refl,dj.refl,dj.refl,dj.refl,dj.refl,dj.refl,dj.refl,dj.refl,dj.refl,dj.refl,dj.refl,dj.refl,trivial⟩,dj.hit,dj.refl,trivial⟩) ?_;exact bw.ends (Ends.au rfl rfl)
theorem arq {S:Sw} {l:List Md} {h:Hp} {n:Nat}:bw 0 (.bg [.agg S.a,PI l,.i .i64 0]) h n (p7 (S,l,0)) [] 0:=by
 cases l with
 |nil=>
  refine bw.xe (l:=[]) (v':=p7 (S,[],0)) (dj.bg ⟨dj.refl,dj.hit,dj.refl,trivial⟩) ?_;exact bw.ends (Ends.au (tg _) rfl)
 |cons p l=>exact bw.ends (Ends.au (tg (S,p::l,0)) rfl)
theorem Na {s:Sw} {k:Int} {p:Md} {x:Sh} (h:dL s=true):da 0 65535 (eW s k p x).tp=true:=by
 unfold eW;cases Fz s k x
 ·simp only [cond_false];simp only [dL,tw,aw] at h;exact h.2.1.2.2.2.2.1
 ·simp only [cond_true,da,aw,aV];omega
def T50:List (Nat×Ct):=[(121,ki),(66,Cm),(90,tK),(61,Ai),(122,Bb),(123,Ol)]
theorem arN:Sound av (bZ T50):=Sound.cons IW (Sound.cons s66 (Sound.cons s90 (Sound.cons s61 (Sound.cons aoZ (Sound.cons asQ Sound.nil)))))
def Cc (s:Sw) (p:Md):Bool:=decide (s.l.length<=9223372036854775807)&&(p.fin&&decide (p.pl.length<=1000000000))
theorem akM {p:Md} (h:uL p=true):p.cs.length<=15/\p.xs.length<=16/\da 0 65535 p.sq=true:=by
 simp only [uL,mg,uO,da,aw,aV] at h ⊢;omega
theorem w50 (s:Sw) (p:Md) (hc:Cc s p=true):bt av 50 [.agg s.a,.agg p.l] [] 0 (p7 (fi s p)) [] 0:=by
 simp only [Cc,aw,aV] at hc;obtain ⟨c1,c2,c3⟩:=hc;have hR:fi s p=bif dL s then bif uL p then bif decide (uZ s.l p.ss<0) then (Ad,[],4)
  else bif (dec p.pl).2.2==0 then ((mi s (uZ s.l p.ss) p (dec p.pl).1).1,(mi s (uZ s.l p.ss) p (dec p.pl).1).2,0) else (Ad,[],(dec p.pl).2.2)
  else (Ad,[],230) else (Ad,[],410):=rfl
 have hsw:=lQ s;have hmd:=xS p;have hll:decide (s.l.length<=9223372036854775807)=true:=ah c1;have hl3:dL s=true->decide (s.l.length<=3)=true:=fun h=>ah (n9 h).2;have hgr:dL s=true->decide (8*s.l.length<=aE)=true:=fun h=>ah (by have:=n9 h;simp only [aE];omega)
 have hmx:=fun k x=>Ea ⟨s,k,p,x⟩ .ns;have hok:uL p=true->(dec p.pl).2.2=0->AI p=true:=fun h h2=>by
  have h3:=akM h;simp only [AI,aw,aV,lU];exact ⟨c3,by simp only [aE];omega,by simp only [aE];omega,h2,h3.2.2⟩
 have htp: ∀k x,dL s=true->da 0 65535 (eW s k p x).tp=true:=fun k x=>Na;have hto: ∀k x,oe s k p x=((mi s k p x).1,PI (mi s k p x).2):=fun k x=>Mr s k p x;have hct:List.take (s.l.length*1) (rows aC s.l)=rows aC s.l:=by rw [<-aT (f:=aC) (z:=1) bP];exact fU
 have hl1:decide ((rows aC s.l).length=s.l.length*1)=true:=ah (aT bP);generalize fi s p=R at*;refine bt.dU arN mo Tryz.func50 XM (by simp [i50]) (aQ ?_)
 dsimp only [i50,T50];generalize htk:eW s=TK at*;generalize htS:oe s=TS at*;generalize htL:mi s=TL at*;generalize hg:dL s=gd at*;generalize hm:uL p=md at*;generalize hmO:AI p=mk at*;have hfin:=c2;obtain ⟨l,ou,st,nw,wa,ca,ai,tp,fr,kp,sq,tm,id,ba,ss,sT,si,sb⟩:=s;obtain ⟨ma,pty,psq,ptm,pss,cs,xs,pd,pl⟩:=p;simp only [Sw.a,Md.l,Mx.c] at hsw hmd hmx ⊢;dsimp only at*;cases gd
 ·simp only [go_sem,ki,hsw,hll,hg,cY,bV,simprocAttr];rw [hR];exact El
 have hl3:=hl3 rfl;have hgr:=hgr rfl;cases md
 ·simp only [go_sem,ki,Ai,hsw,hmd,hll,hg,hm,hfin,cu,cY,bV,simprocAttr];rw [hR];exact El
 cases a1:decide (uZ l pss<0);rotate_left
 ·simp only [go_sem,ki,Ai,Bb,hsw,hmd,hll,hg,hm,hfin,cu,wY,hct,fy,hl1,eE,hl3,a1,simprocAttr];rw [hR,a1];exact El
 have hd:xq (dec pl)= .bg [.agg (dec pl).1.l,.s (dec pl).2.1,.i .i64 (dec pl).2.2]:=rfl;generalize hdd:dec pl=D at*;obtain ⟨⟨xst,xky,xsy,xla,xid,xba,xte,xsp⟩,rs,e⟩:=D;simp only [Go.Proofs.Rom.Sh.l] at hd;dsimp only at*;cases a2:(e==0)
 ·have b2:(e !=0)=true:=by simp only [bne,a2,fA]
  simp only [go_sem,ki,Cm,Ai,Bb,hsw,hmd,hll,hg,hm,hfin,cu,wY,hct,fy,hl1,eE,hl3,a1,hdd,hd,b2,simprocAttr];rw [hR,a1,a2];exact El
 have b2:(e !=0)=false:=by simp only [bne,a2,fI]
 have hok:=hok rfl (by simpa using a2)
 subst hok;have htp:=htp (uZ l pss) ⟨xst,xky,xsy,xla,xid,xba,xte,xsp⟩ rfl;have hmx:=hmx (uZ l pss) ⟨xst,xky,xsy,xla,xid,xba,xte,xsp⟩;have hto:=hto (uZ l pss) ⟨xst,xky,xsy,xla,xid,xba,xte,xsp⟩;rw [a1,a2] at hR;dsimp only at hmx;generalize TL (uZ l pss) ⟨ma,pty,psq,ptm,pss,cs,xs,pd,pl⟩ ⟨xst,xky,xsy,xla,xid,xba,xte,xsp⟩=Q at*;obtain ⟨⟨rl,rou,rst,rnw,rwa,rca,rai,rtp,rfr,rkp,rsq,rtm,rid,rba,rss,rsT,rsi,rsb⟩,rO⟩:=Q;simp only [go_sem,ki,Cm,tK,Ai,Bb,Ol,hsw,hmd,hll,hg,hm,hfin,cu,wY,hct,fy,hl1,eE,hl3,hgr,a1,hdd,hd,b2,hmx,htk,htS,hto,htp,hmO,Mx.c,simprocAttr];rw [hR];exact arq (S:=⟨rl,rou,rst,rnw,rwa,rca,rai,rtp,rfr,rkp,rsq,rtm,rid,rba,rss,rsT,rsi,rsb⟩)
def k50:Ct
 |[.agg c,.agg d],_,n=>(EX c).bind fun s=>(LW d).bind fun p=>some (Cc s p,{v:=p7 (fi s p),n})
 |_,_,_=>none
theorem s50:aq av 50 k50:=fun args h n c E hc ht=>by
 unfold k50 at hc;split at hc
 ·simp only [af,aP,bq] at hc;obtain ⟨s,hs,p,hp,rfl,rfl⟩:=hc;rw [mZ hs,zi hp];exact ax.pure (by kernel_rfl) (by simp only [ae,AV.al,Sw.al,p.al,az]) (tg _) (w50 _ _ ht) _ _
 ·cases hc
def u8R (x:Int):List AV:=[.i .u8 x]
theorem MT: ∀x,ae 0 (u8R x)=true:=fun _=>rfl
theorem u8B (j:Nat) (l:List Int):ae j (rows u8R l)=true:=aD _ (bN MT)
structure Fl where
 sq:Int
 id:Int
 tm:Int
 ba:Int
 pc:List Int
def Fl.l (f:Fl):List AV:=[.i .u16 f.sq,.i .u16 f.id,.i .u32 f.tm,.i .u8 f.ba,.fz (rows u8R f.pc) f.pc.length]
theorem Fl.al (f:Fl):ae 0 f.l=true:=by simp only [Fl.l,ae,AV.al,u8B,az]
theorem Fl.len: ∀f:Fl,f.l.length=5:=fun _=>rfl
def Fl.ok (f:Fl):Bool:=da 0 65535 f.sq&&(da 0 65535 f.id&&(da 0 4294967295 f.tm&&(da 0 255 f.ba&&(f.pc.all (da 0 255)&&decide (f.pc.length<=9223372036854775807)))))
structure Ac where
 wh:Int
 at_:Int
 la:Int
 ai:Int
def Ac.l (a:Ac):List AV:=[.i .u8 a.wh,.i .u8 a.at_,.i .u8 a.la,.i .u8 a.ai]
theorem Ac.len: ∀a:Ac,a.l.length=4:=fun _=>rfl
theorem Ac.al: ∀a:Ac,ae 0 a.l=true:=fun _=>rfl
def Ac.ok (a:Ac):Bool:=da 0 255 a.wh&&(da 0 255 a.at_&&(da 0 255 a.la&&da 0 255 a.ai))
/-! films' pictures -/
def kd (f:Fl) (i:Nat):Int:=if i=0 then 7 else f.pc.getD (i-1) 0
structure Fs where
 op:Int
 ba:Int
 q:List Md
/-! Ssrcs -/
theorem Sw.one (s:Sw):aX s.a=true:=rfl
theorem Sw.len (s:Sw):s.a.length=18:=rfl
structure Bx where
 wh:Int
 at_:Int
 n:Int
def Bx.a (b:Bx):List AV:=[.i .u8 b.wh,.i .u8 b.at_,.i .i64 b.n]
structure Tx where
 wh:Int
 at_:Int
 oc:Int
 n:Int
def Tx.a (b:Tx):List AV:=[.i .u8 b.wh,.i .u8 b.at_,.i .u8 b.oc,.i .i64 b.n]
def bm (l:List UInt8):List AV:=l.map fun b=> .i .u8 b.toNat
/-! members -/
structure Mb where
 nm:List UInt8
 es:Int
def Mb.l (m:Mb):List AV:=[.s m.nm,.i .i64 m.es]
theorem Mb.len: ∀m:Mb,m.l.length=2:=fun _=>rfl
theorem Mb.al: ∀m:Mb,ae 0 m.l=true:=fun _=>rfl
theorem Mb.one: ∀m:Mb,aX m.l=true:=fun _=>rfl
def QM:List AV->Option Mb
 |[.s a,.i .i64 e]=>some ⟨a,e⟩
 |_=>none
theorem amJ (m:Mb):QM m.l=some m:=rfl
theorem zD (c:List AV) (m:Mb) (h:QM c=some m):c=m.l:=by
 unfold QM at h;split at h
 ·cases h;rfl
 ·cases h
theorem fR (j:Nat) (l:List Mb):ae j (rows Mb.l l)=true:=aD _ (bN Mb.al)
theorem jr (ψ:Nat->Nat) (l:List Mb):aL ψ (rows Mb.l l)=rows Mb.l l:=aU _ (bN Mb.al)
theorem EA (l:List Mb):bk 2 QM l.length (rows Mb.l l)=some l:=eu Mb.len amJ l
/-! shows -/
structure bu where
 ow:Int
 ss:List Int
 rt:List Int
 bl:Int
def bu.l (s:bu):List AV:=[.i .i64 s.ow,.fz (rows aC s.ss) s.ss.length,.fz (rows aC s.rt) s.rt.length,.i .u64 s.bl]
theorem bu.len: ∀s:bu,s.l.length=4:=fun _=>rfl
theorem iB (j:Nat) (l:List Int):ae j (rows aC l)=true:=aD _ (bN gN)
theorem iR (ψ:Nat->Nat) (l:List Int):aL ψ (rows aC l)=rows aC l:=aU _ (bN gN)
theorem bu.al: ∀s:bu,ae 0 s.l=true:=fun s=>by simp only [bu.l,ae,AV.al,iB,az]
theorem bu.one: ∀s:bu,aX s.l=true:=fun _=>rfl
def xB:List AV->Option bu
 |[.i .i64 o,.fz A m,.fz B n,.i .u64 b]=>(bk 1 dJ m A).bind fun s=>(bk 1 dJ n B).bind fun r=>some ⟨o,s,r,b⟩
 |_=>none
theorem kJ (s:bu):xB s.l=some s:=by simp only [xB,bu.l,eE,aS]
theorem q8 (c:List AV) (s:bu) (h:xB c=some s):c=s.l:=by
 unfold xB at h;split at h
 ·simp only [af] at h;obtain ⟨s1,h1,r1,h2,he⟩:=h;cases he;obtain ⟨rfl,rfl⟩:=bD dx h1;obtain ⟨rfl,rfl⟩:=bD dx h2;rfl
 ·cases h
theorem di (j:Nat) (l:List bu):ae j (rows bu.l l)=true:=aD _ (bN bu.al)
theorem ef (ψ:Nat->Nat) (l:List bu):aL ψ (rows bu.l l)=rows bu.l l:=aU _ (bN bu.al)
theorem IV (l:List bu):bk 4 xB l.length (rows bu.l l)=some l:=eu bu.len kJ l
/-! taps -/
structure Tp where
 me:Int
 sh:Int
 wt:Int
 mo:Int
 sw:Sw
def Tp.l (t:Tp):List AV:=[.i .i64 t.me,.i .i64 t.sh,.i .i64 t.wt,.i .i64 t.mo]++t.sw.a
theorem Tp.len: ∀t:Tp,t.l.length=22:=fun _=>rfl
theorem Tp.al: ∀t:Tp,ae 0 t.l=true:=fun t=>by
 have:=t.sw.al;simp only [Tp.l,ee,List.nil_append,ae,AV.al,this,az,eJ]
theorem Tp.one: ∀t:Tp,aX t.l=true:=fun _=>rfl
def sQ:List AV->Option Tp
 | .i .i64 a:: .i .i64 b:: .i .i64 c:: .i .i64 d::r=>(EX r).bind fun s=>some ⟨a,b,c,d,s⟩
 |_=>none
theorem sI (t:Tp):sQ t.l=some t:=by
 show (EX t.sw.a).bind _=_;rw [lQ];rfl
theorem j1 (c:List AV) (t:Tp) (h:sQ c=some t):c=t.l:=by
 unfold sQ at h;split at h
 ·simp only [af] at h;obtain ⟨s,h1,he⟩:=h;cases he;rw [mZ h1];rfl
 ·cases h
theorem ff (j:Nat) (l:List Tp):ae j (rows Tp.l l)=true:=aD _ (bN Tp.al)
theorem je (ψ:Nat->Nat) (l:List Tp):aL ψ (rows Tp.l l)=rows Tp.l l:=aU _ (bN Tp.al)
theorem Fy (l:List Tp):bk 22 sQ l.length (rows Tp.l l)=some l:=eu Tp.len sI l
/-! rooms -/
structure Rm where
 ms:List Mb
 sh:List bu
 tp:List Tp
def Rm.a (r:Rm):List AV:=[.fz (rows Mb.l r.ms) r.ms.length,.fz (rows bu.l r.sh) r.sh.length,.fz (rows Tp.l r.tp) r.tp.length]
theorem Rm.al (j:Nat) (r:Rm):ae j r.a=true:=by simp only [Rm.a,ae,AV.al,fR,di,ff,az]
def qy:List AV->Option Rm
 |[.fz A a,.fz B b,.fz C c]=>(bk 2 QM a A).bind fun m=>(bk 4 xB b B).bind fun s=>(bk 22 sQ c C).bind fun t=>some ⟨m,s,t⟩
 |_=>none
theorem ey (r:Rm):qy r.a=some r:=by simp only [qy,Rm.a,EA,IV,Fy,aS]
theorem eh {c:List AV} {r:Rm} (h:qy c=some r):c=r.a:=by
 unfold qy at h;split at h
 ·simp only [af] at h;obtain ⟨m,h1,s,h2,t,h3,he⟩:=h;cases he;obtain ⟨rfl,rfl⟩:=bD zD h1;obtain ⟨rfl,rfl⟩:=bD q8 h2;obtain ⟨rfl,rfl⟩:=bD j1 h3;rfl
 ·cases h
def bu.fin (s:bu):Bool:=decide (s.ss.length<=9223372036854775807)&&decide (s.rt.length<=9223372036854775807)
def Rm.fin (r:Rm):Bool:=decide (r.ms.length<=9223372036854775807)&&(decide (r.sh.length<=9223372036854775807)&&(decide (r.tp.length<=9223372036854775807)&&(r.sh.all bu.fin&&r.tp.all fun t=>decide (t.sw.l.length<=9223372036854775807))))
end Go.Proofs.Rom
