/- Texts laid as one. -/
import Derived.Test.YtibpegmighopbaaGreatDoorX6
import Derived.Shelf.SlSortCmp.WholeK
import Derived.Shelf.SlicesG.Cmp
import Derived.Test.YtibpegmighopbaaGreatDoorProg
import Derived.LoopN
import Derived.Deep.RegionHeld3
import Derived.Shelf.SlSortCmp.NoneTotal
set_option maxRecDepth 100000
set_option maxHeartbeats 20000000
set_option linter.unusedSimpArgs false
set_option linter.unusedVariables false
namespace Go.Proofs.Rom
open Go.Ab
abbrev mh (l:List Og):aW:={cells:=[.fz (rows Og.l l) l.length]}
abbrev uI:aW:={cells:=[.ns]}
abbrev DG (r:Rm) (p:Md):List aW:=[{cells:=r.a},{cells:=[.fn 60 [.p 2 0,.p 3 0]]},{cells:=p.l},uI]
theorem aj4 {n0 n b:Nat} {v:AV}:bw n0 v [(b,uI)] n v [(b,mh [])] n:=
 bw.wkH (Go.Ab.nL.refl _) (h':=[(b,mh [])]) ⟨⟨uI,by simp [ab],rfl,rfl,rfl,Go.Ab.nL.ns,trivial⟩,trivial⟩ bw.refl
theorem alJ (r:Rm) (hr:r.is=true) (hg:bC r=true) (p:Md) (hp:p.fin=true) (hpl:p.pl.length<=1000000000) (he:lM r p=0):
 bt av 135 [.p 0 0,.p 1 0] (dS (DG r p) 0) 4 (.agg (pM r p).a) [(3,mh (Am r p))] 4:=by
 have a3:r.a.length=3:=rfl;have ao:aX r.a=true:=rfl;have ad:List.take 3 (List.drop 0 r.a)=r.a:=rfl;have pB:=fun j=>aD (m:=j) _ p.al;have pR:=fun g=>aU (ψ:=g) _ p.al;have rB:=fun j=>Rm.al j r;by_cases ht:r.tp=[]
 ·have eR:pM r p=r:=by simp [pM,ht];exact ht.symm▸rfl
  have eL:Am r p=[]:=by simp [Am,ht]
  rw [eR,eL];have hs:=bY (P:=av) (R:=[2,3]) (ks:=[{cells:=p.l},uI]) (by kernel_rfl) (by decide) (by simp only [ae,AV.al,rB];rfl) (aqR r hg p hp he ht) (by decide) (by simp [ko,dS,ab,dy,ae,AV.al,pB,aG,cj])
  have hat: ∀(h:Hp) n,ab h 2=some {cells:=p.l}->ab h 3=some uI->kH [2,3] [{cells:=p.l},uI] [.fp r.a 0,.p 0 0,.p 1 0] (.bg []) [(0,{cells:=p.l}),(1,uI)] 2 none [.fp r.a 0,.p 2 0,.p 3 0] h n=some (true,{v:= .bg [],n,rd:=[2,3],md:=[(2,some {cells:=p.l}),(3,some uI)]}):=fun h n h2 h3=>by
   refine dt (h:=h) (n:=n) (by simp only [aL,AV.aH,nth,aU _ (rB 0)]) ⟨⟨?_,?_⟩,⟨?_,?_⟩,trivial⟩ ?_
   ·rw [h2];simp [aW.aH,pR]
   ·exact pB _
   ·rw [h3];rfl
   ·rfl
   ·simp [lK,fE,aW.aH,aL,AV.aH,ix,nth,ab,pR,aG,cj]
  generalize kH _ _ _ _ _ _ _=kT at hs hat;have hk:=rY hr hg;have hcx:Sound av (bZ [(85,lL),(60,kT)]):=Sound.cons Dd (Sound.cons hs Sound.nil);generalize lL=kb at*;dsimp only [DG,dS];have rB0:=rB 0;generalize r.a=ra at*;generalize p.l=PL at*;refine bt.dU hcx mo Tryz.func135 fQ (by simp [i135]) (aQ ?_)
  dsimp only [i135];simp only [go_sem,a3,ao,ad,hk,hat,simprocAttr];refine bw.trans (h1:=[(3,mh [])]) (n1:=5) (v1:= .agg ra) ?_ (bw.ends (Ends.R [] (by decide) (by decide) (by simp only [AV.aH,aU _ rB0]) (by simp only [AV.al,rB]) (by simp [iy,ab,rn,aW.aH,aL,AV.aH,ae,AV.al,cj,rows])))
  exact bw.wkH (Go.Ab.nL.refl _) (h':=[(3,mh [])]) ⟨⟨uI,by simp [ab,cj],rfl,rfl,rfl,Go.Ab.nL.ns,trivial⟩,trivial⟩ bw.refl
 ·have hs:=bY (P:=av) (R:=[5,2,3,8]) (ks:=[dc r 3,{cells:=p.l},uI,bL r]) (by kernel_rfl) (by decide) rfl (w60 r hg p hp hpl he ht) (by decide) (by simp [ko,dS,ab,dy,ae,AV.al,pB,fR,di,ff,ogB,aG,cj])
  have hat: ∀(h:Hp) n,ab h 5=some (dc r 8)->ab h 2=some {cells:=p.l}->ab h 3=some uI->ab h 8=some (bL r)->kH [5,2,3,8] [dc r 3,{cells:=p.l},uI,bL r] [.p 0 0,.p 1 0,.p 2 0] (.bg []) [(0,dc (pM r p) 3),(2,mh (Am r p)),(3,bL (pM r p))] 4 none [.p 5 0,.p 2 0,.p 3 0] h n=some (true,{v:= .bg [],n,rd:=[5,2,3,8],md:=[(5,some (dc (pM r p) 8)),(2,none),(3,some (mh (Am r p))),(8,some (bL (pM r p)))]}):=fun h n h5 h2 h3 h8=>by
   refine dt (h:=h) (n:=n) rfl ⟨⟨?_,?_⟩,⟨?_,?_⟩,⟨?_,?_⟩,⟨?_,?_⟩,trivial⟩ ?_
   ·rw [h5];simp [aW.aH,aL,AV.aH,nth,jr,ef]
   ·simp [ae,AV.al,fR,di,aG]
   ·rw [h2];simp [aW.aH,pR]
   ·exact pB _
   ·rw [h3];rfl
   ·rfl
   ·rw [h8];simp [aW.aH,je]
   ·exact ff _ _
   ·simp [lK,fE,aW.aH,aL,AV.aH,ix,nth,ab,jr,ef,je,ogR,aG,cj]
  generalize kH _ _ _ _ _ _ _=kT at hs hat;have hk: ∀(h:Hp),fh false false true [.agg r.a] h 5=some (true,{v:= .p 5 0,n:=9,nw:=[(5,dc r 8),(8,bL r)]}):=fun h=>by
   rw [zy hr hg];have e:=tx (f:=Tp.l) (z:=22) (l:=r.tp) (r9.2 ht);unfold fP l4 mV mH sV tV sH tH;rw [e];rfl
  have hcx:Sound av (bZ [(85,fh false false true),(60,kT)]):=Sound.cons (DP _ _ _) (Sound.cons hs Sound.nil);generalize fh false false true=kb at*;have mB:=fun j=>fR j (pM r p).ms;have sB:=fun j=>di j (pM r p).sh;have tB:=fun j=>ff j (pM r p).tp;have oB:=fun j=>ogB j (Am r p);have oR:=fun g=>ogR g (Am r p);have eA:(pM r p).a=[.fz (rows Mb.l (pM r p).ms) (pM r p).ms.length,.fz (rows bu.l (pM r p).sh) (pM r p).sh.length,.fz (rows Tp.l (pM r p).tp) (pM r p).tp.length]:=rfl;dsimp only [DG,dS];rw [eA];generalize r.a=ra at*;generalize pM r p=R2 at*;generalize Am r p=L2 at*;generalize p.l=PL at*;refine bt.dU hcx mo Tryz.func135 fQ (by simp [i135]) (aQ ?_)
  dsimp only [i135];simp only [go_sem,a3,ao,ad,hk,hat,simprocAttr];refine bw.rM (b:=8) (x:= .sg 8 0 R2.tp.length) (k:=bL R2) (o:=0) (m:=R2.tp.length) (cs:=rows Tp.l R2.tp) (v':= .agg [.fz (rows Mb.l R2.ms) R2.ms.length,.fz (rows bu.l R2.sh) R2.sh.length,.fz (rows Tp.l R2.tp) R2.tp.length]) (h':=[(3,mh L2)]) (by simp [ab,cj]) rfl (.inr rfl) (.inl rfl) (dj.agg ⟨dj.refl,dj.refl,dj.hit,trivial⟩) ⟨⟨by decide,mh L2,by simp [ab,cj],rfl,rfl,rfl,gE.refl⟩,trivial⟩ ?_
  exact bw.ends (Ends.R [] (by decide) (by decide) (by simp only [AV.aH,aL,jr,ef,je]) (by simp only [AV.al,ae,mB,sB,tB,az]) (by simp [iy,ab,rn,aW.aH,aL,AV.aH,ae,AV.al,oB,oR,cj]))
theorem aaE (r:Rm) (hr:r.is=true) (p:Md) (hp:p.fin=true) (he:lM r p≠0):
 cL av 135 [.p 0 0,.p 1 0] (dS (DG r p) 0) 4 (some (eD (lM r p))) (.bg []) [(3,mh [])] 4:=by
 have a3:r.a.length=3:=rfl;have ao:aX r.a=true:=rfl;have ad:List.take 3 (List.drop 0 r.a)=r.a:=rfl;have pB:=fun j=>aD (m:=j) _ p.al;have pR:=fun g=>aU (ψ:=g) _ p.al;have rB:=fun j=>Rm.al j r;refine cL.cov (v:= .bg []) (h':=[(3,uI)]) (n':=4) ?_ aj4;cases hg:bC r
 ·have e:lM r p=420:=by simp only [lM,hg];rfl
  rw [e];have hk:=Aq hr hg;have hcx:Sound av (bZ [(85,fh false false false)]):=Sound.cons (DP _ _ _) Sound.nil;generalize fh false false false=kb at*;dsimp only [DG,dS];generalize r.a=ra at*;generalize p.l=PL at*;refine cL.dQ hcx mo Tryz.func135 fQ (by simp [i135]) (aQ ?_)
  dsimp only [i135];simp only [go_sem,a3,ao,ad,hk,simprocAttr];exact Ends.R [] (by decide) (by decide) rfl rfl (by simp [iy,ab,rn,aW.aH,aL,AV.aH,ae,AV.al,cj])
 ·have hs:=bY (P:=av) (R:=[2,3]) (ks:=[{cells:=p.l},uI]) (by kernel_rfl) (by decide) (by simp only [ae,AV.al,rB];rfl) (ash r hg p hp he) (by decide) (by simp [ko,dS,ab,dy,ae,AV.al,pB,aG,cj])
  have hat: ∀(h:Hp) n,ab h 2=some {cells:=p.l}->ab h 3=some uI->kH [2,3] [{cells:=p.l},uI] [.fp r.a 0,.p 0 0,.p 1 0] (.bg []) [(0,{cells:=p.l}),(1,uI)] 2 (some (eD (lM r p))) [.fp r.a 0,.p 2 0,.p 3 0] h n=some (true,{v:= .bg [],n,rd:=[2,3],md:=[(2,some {cells:=p.l}),(3,some uI)],pn:=some (eD (lM r p))}):=fun h n h2 h3=>by
   refine dt (h:=h) (n:=n) (by simp only [aL,AV.aH,nth,aU _ (rB 0)]) ⟨⟨?_,?_⟩,⟨?_,?_⟩,trivial⟩ ?_
   ·rw [h2];simp [aW.aH,pR]
   ·exact pB _
   ·rw [h3];rfl
   ·rfl
   ·simp [lK,fE,aW.aH,aL,AV.aH,ix,nth,ab,pR,aG,cj]
  generalize kH _ _ _ _ _ _ _=kT at hs hat;have hk:=rY hr hg;have hcx:Sound av (bZ [(85,lL),(60,kT)]):=Sound.cons Dd (Sound.cons hs Sound.nil);generalize lL=kb at*;dsimp only [DG,dS];generalize r.a=ra at*;generalize p.l=PL at*;refine cL.dQ hcx mo Tryz.func135 fQ (by simp [i135]) (aQ ?_)
  dsimp only [i135];simp only [go_sem,a3,ao,ad,hk,hat,simprocAttr];exact Ends.R [] (by decide) (by decide) rfl rfl (by simp [iy,ab,rn,aW.aH,aL,AV.aH,ae,AV.al,cj])
def sC (r:Rm) (p:Md):Rm:=if lM r p=0 then pM r p else tn
def BL (r:Rm) (p:Md):List Og:=if lM r p=0 then Am r p else []
theorem Po {g0 g1:Nat} (hne:g0≠g1) (a b c:List AV):iC [(5,{cells:=a,gid:=some g1}),(4,{cells:=b,gid:=some g0}),(3,{cells:=c})] g0=some (.p 4 0)/\iC [(5,{cells:=a,gid:=some g1}),(4,{cells:=b,gid:=some g0}),(3,{cells:=c})] g1=some (.p 5 0):=by
 have b1:g1.beq g0=false:=by
  cases h:g1.beq g0 with
  |false=>rfl
  |true=>exact absurd (dC h).symm hne
 have b2: ∀g:Nat,g.beq g=true:=fun g=>by simp
 constructor<;>simp [iC,vW,ab,b1,b2,cj]
theorem ag7 (r:Rm) (hr:r.is=true) (p:Md) (hp:p.fin=true) (hpl:p.pl.length<=1000000000):
 bt av 134 [.fn 135 [.p 0 0,.p 1 0]] (dS (DG r p) 0) 4 (jK (sC r p,lM r p)) [(3,mh (BL r p))] 4:=by
 have pB:=fun j=>aD (m:=j) _ p.al;have pR:=fun g=>aU (ψ:=g) _ p.al;have rB:=fun j=>Rm.al j r;have rR:=fun g=>aU (ψ:=g) _ (rB 0);by_cases he:lM r p=0
 ·have hg:bC r=true:=by
   cases hg:bC r
   ·simp only [lM,hg] at he;cases he
   ·rfl
  have e1:sC r p=pM r p:=aM he;have e2:BL r p=Am r p:=aM he;rw [e1,e2,he];have oB:=fun j=>ogB j (Am r p);have oR:=fun g=>ogR g (Am r p);have RB:=Rm.al 4 (pM r p);have RR:=fun g=>aU (ψ:=g) _ (Rm.al 0 (pM r p));have hs:=bY (P:=av) (R:=[0,1,2,3]) (ks:=DG r p) (by kernel_rfl) (by decide) rfl (alJ r hr hg p hp hpl he) (by decide) (by simp [ko,dS,ab,dy,ae,AV.al,oB,aG,cj])
  have hat: ∀(h:Hp) n,ab h 0=some {cells:=r.a}->ab h 1=some {cells:=[.fn 60 [.p 2 0,.p 3 0]]}->ab h 2=some {cells:=p.l}->ab h 3=some uI->kH [0,1,2,3] (DG r p) [.p 0 0,.p 1 0] (.agg (pM r p).a) [(3,mh (Am r p))] 4 none [.p 0 0,.p 1 0] h n=some (true,{v:= .agg (pM r p).a,n,rd:=[0,1,2,3],md:=[(0,none),(1,none),(2,none),(3,some (mh (Am r p)))]}):=fun h n h0 h1 h2 h3=>by
   refine dt (h:=h) (n:=n) rfl ⟨⟨?_,?_⟩,⟨?_,?_⟩,⟨?_,?_⟩,⟨?_,?_⟩,trivial⟩ ?_
   ·rw [h0];simp [aW.aH,rR]
   ·exact rB _
   ·rw [h1];rfl
   ·rfl
   ·rw [h2];simp [aW.aH,pR]
   ·exact pB _
   ·rw [h3];rfl
   ·rfl
   ·simp [lK,fE,aW.aH,aL,AV.aH,ix,nth,ab,oR,RR,aG,cj]
  generalize kH _ _ _ _ _ _ _=kT at hs hat;have hcx:Sound av (bZ [(135,kT)]):=Sound.cons hs Sound.nil;have a3:(pM r p).a.length=3:=rfl;have ao:aX (pM r p).a=true:=rfl;have ad:List.take 3 (List.drop 0 (pM r p).a)=(pM r p).a:=rfl;dsimp only [DG,dS,jK];generalize (pM r p).a=RA at*;generalize Am r p=L2 at*;generalize r.a=ra at*;generalize p.l=PL at*;refine cL.nU (pn:=none) z7.F2 hcx mo Tryz.func134 z6 (by simp [i134]) (pre:=zu) (ops:=[oo 4 (.Co 193 [.t 2,.t 3])]) rfl (by kernel_rfl) Tryz.func193 Al rfl ?_
  dsimp only [i134];simp only [go_sem,tu,simprocAttr];refine jl (caps:=[.p 4 0,.p 5 0]) (bs:=[4,5]) rfl rfl (by decide) (fun Gs h1 h2=> ?_)
  obtain ⟨g0,g1,rfl⟩: ∃a b,Gs=[a,b]:=by
   match Gs,h1 with
   |[a,b],_=>exact ⟨a,b,rfl⟩
  refine ⟨by simp [i193],?_⟩
  have hne:g0≠g1:=by simpa using h2
  have hgl0:=fun a b c=>(Po hne a b c).1;have hgl1:=fun a b c=>(Po hne a b c).2;dsimp only [nd,ab] at*;simp only [go_sem,hat,ig,hgl0,hgl1,a3,ao,ad,simprocAttr];dsimp only [i193,eD];simp only [go_sem,a3,ao,ad,simprocAttr];exact bw.ends (Ends.R [] (by decide) (by decide) (by simp only [AV.aH,aL,RR]) (by simp only [AV.al,ae,RB,az]) (by simp [iy,ab,rn,aW.aH,aL,AV.aH,ae,AV.al,oB,oR,cj]))
 ·have e1:sC r p=tn:=aN he;have e2:BL r p=[]:=aN he;rw [e1,e2];have hs:=bY (P:=av) (R:=[0,1,2,3]) (ks:=DG r p) (by kernel_rfl) (by decide) rfl (aaE r hr p hp he) (by decide) (by simp [ko,dS,ab,dy,ae,AV.al,rows,aG,cj])
  have hat: ∀(h:Hp) n,ab h 0=some {cells:=r.a}->ab h 1=some {cells:=[.fn 60 [.p 2 0,.p 3 0]]}->ab h 2=some {cells:=p.l}->ab h 3=some uI->kH [0,1,2,3] (DG r p) [.p 0 0,.p 1 0] (.bg []) [(3,mh [])] 4 (some (eD (lM r p))) [.p 0 0,.p 1 0] h n=some (true,{v:= .bg [],n,rd:=[0,1,2,3],md:=[(0,none),(1,none),(2,none),(3,some (mh []))],pn:=some (eD (lM r p))}):=fun h n h0 h1 h2 h3=>by
   refine dt (h:=h) (n:=n) rfl ⟨⟨?_,?_⟩,⟨?_,?_⟩,⟨?_,?_⟩,⟨?_,?_⟩,trivial⟩ ?_
   ·rw [h0];simp [aW.aH,rR]
   ·exact rB _
   ·rw [h1];rfl
   ·rfl
   ·rw [h2];simp [aW.aH,pR]
   ·exact pB _
   ·rw [h3];rfl
   ·rfl
   ·simp [lK,fE,aW.aH,aL,AV.aH,ix,nth,ab,rows,aG,cj]
  generalize kH _ _ _ _ _ _ _=kT at hs hat;have hcx:Sound av (bZ [(135,kT)]):=Sound.cons hs Sound.nil;dsimp only [DG,dS,jK];generalize lM r p=E at*;generalize r.a=ra at*;generalize p.l=PL at*;refine cL.nU (pn:=none) z7.F2 hcx mo Tryz.func134 z6 (by simp [i134]) (pre:=zu) (ops:=[oo 4 (.Co 193 [.t 2,.t 3])]) rfl (by kernel_rfl) Tryz.func193 Al rfl ?_
  dsimp only [i134];simp only [go_sem,tu,simprocAttr];refine jl (caps:=[.p 4 0,.p 5 0]) (bs:=[4,5]) rfl rfl (by decide) (fun Gs h1 h2=> ?_)
  obtain ⟨g0,g1,rfl⟩: ∃a b,Gs=[a,b]:=by
   match Gs,h1 with
   |[a,b],_=>exact ⟨a,b,rfl⟩
  refine ⟨by simp [i193],?_⟩
  have hne:g0≠g1:=by simpa using h2
  have hgl0:=fun a b c=>(Po hne a b c).1;have hgl1:=fun a b c=>(Po hne a b c).2;dsimp only [nd,ab] at*;simp only [go_sem,hat,ig,hgl0,hgl1,simprocAttr];dsimp only [i193,eD];simp only [go_sem,fN,GN,ig,hgl0,hgl1,simprocAttr];refine bw.xe (l:=[]) (v':= .bg [.agg tn.a,.i .i64 E]) (dj.bg ⟨dj.agg ⟨dj.hit,dj.hit,dj.hit,trivial⟩,dj.refl,trivial⟩) ?_;exact bw.ends (Ends.R [] (by decide) (by decide) rfl rfl (by simp [iy,ab,rn,aW.aH,aL,AV.aH,ae,AV.al,rows,cj]))
theorem asa (r:Rm) (hr:r.is=true) (p:Md) (hp:p.fin=true) (hpl:p.pl.length<=1000000000):
 bt av 59 [.agg r.a,.fn 60 [.p 0 0,.p 1 0]] [(0,{cells:=p.l}),(1,uI)] 2 (jK (sC r p,lM r p)) [(1,mh (BL r p))] 2:=by
 have pB:=fun j=>aD (m:=j) _ p.al;have pR:=fun g=>aU (ψ:=g) _ p.al;have rB:=fun j=>Rm.al j r;have rR:=fun g=>aU (ψ:=g) _ (rB 0);have oB:=fun j=>ogB j (BL r p);have oR:=fun g=>ogR g (BL r p);have vB:=iu (sC r p,lM r p);have vR:=fun g=>lS (ψ:=g) _ vB;have hs:=bY (P:=av) (R:=[2,3,0,1]) (ks:=DG r p) (by kernel_rfl) (by decide) rfl (ag7 r hr p hp hpl) (by decide) (by simp [ko,dS,ab,dy,ae,AV.al,oB,aG,cj])
 have hat: ∀(h:Hp) n,ab h 2=some {cells:=r.a}->ab h 3=some {cells:=[.fn 60 [.p 0 0,.p 1 0]]}->ab h 0=some {cells:=p.l}->ab h 1=some uI->kH [2,3,0,1] (DG r p) [.fn 135 [.p 0 0,.p 1 0]] (jK (sC r p,lM r p)) [(3,mh (BL r p))] 4 none [.fn 135 [.p 2 0,.p 3 0]] h n=some (true,{v:=jK (sC r p,lM r p),n,rd:=[2,3,0,1],md:=[(2,none),(3,none),(0,none),(1,some (mh (BL r p)))]}):=fun h n h0 h1 h2 h3=>by
  refine dt (h:=h) (n:=n) rfl ⟨⟨?_,?_⟩,⟨?_,?_⟩,⟨?_,?_⟩,⟨?_,?_⟩,trivial⟩ ?_
  ·rw [h0];simp [aW.aH,rR]
  ·exact rB _
  ·rw [h1];rfl
  ·rfl
  ·rw [h2];simp [aW.aH,pR]
  ·exact pB _
  ·rw [h3];rfl
  ·rfl
  ·simp [lK,fE,aW.aH,aL,AV.aH,ix,nth,ab,oR,vR,aG,cj]
 generalize kH _ _ _ _ _ _ _=kT at hs hat;have hcx:Sound av (bZ [(134,kT)]):=Sound.cons hs Sound.nil;have a3:r.a.length=3:=rfl;have ro:aX r.a=true:=rfl;have rd:List.take 3 (List.drop 0 r.a)=r.a:=rfl;have ao:aX (sC r p).a=true:=rfl;have ad:List.take 3 (List.drop 0 (sC r p).a)=(sC r p).a:=rfl;have ad3:(sC r p).a.length=3:=rfl;have RB:=Rm.al 2 (sC r p);have RR:=fun g=>aU (ψ:=g) _ (Rm.al 0 (sC r p));simp only [jK] at*;generalize (sC r p).a=RA at*;generalize BL r p=L2 at*;generalize lM r p=E at*;generalize r.a=ra at*;generalize p.l=PL at*;refine dT hcx Tryz.func59 Iw ?_
 dsimp only [i59];simp only [go_sem,a3,ro,rd,hat,ao,ad,ad3,simprocAttr];exact Ends.R [] (by decide) (by decide) (by simp only [AV.aH,aL,RR]) (by simp only [AV.al,ae,RB,az]) (by simp [iy,ab,rn,aW.aH,aL,AV.aH,ae,AV.al,oB,oR,cj])
def puV (r:Rm) (l:List Og) (e:Int):AV:= .bg [.agg r.a,.fz (rows Og.l l) l.length,.i .i64 e]
theorem Fj (r:Rm) (l:List Og) (e:Int):(puV r l e).al 0=true:=by simp only [puV,AV.al,ae,Rm.al,ogB,az]
theorem w13 (r:Rm) (hr:r.is=true) (p:Md) (hp:p.fin=true) (hpl:p.pl.length<=1000000000):
 bt av 13 [.agg r.a,.agg p.l] [] 0 (puV (sC r p) (BL r p) (lM r p)) [] 0:=by
 have pB:=fun j=>aD (m:=j) _ p.al;have pR:=fun g=>aU (ψ:=g) _ p.al;have rB:=fun j=>Rm.al j r;have rR:=fun g=>aU (ψ:=g) _ (rB 0);have oB:=fun j=>ogB j (BL r p);have oR:=fun g=>ogR g (BL r p);have vB:=iu (sC r p,lM r p);have vR:=fun g=>lS (ψ:=g) _ vB;have hs:=bY (P:=av) (R:=[1,3]) (ks:=[{cells:=p.l},uI]) (by kernel_rfl) (by decide) (by simp only [ae,AV.al,rB];rfl) (asa r hr p hp hpl) (by decide) (by simp [ko,dS,ab,dy,ae,AV.al,oB,aG,cj])
 have hat: ∀(h:Hp) n,ab h 1=some {cells:=p.l}->ab h 3=some uI->kH [1,3] [{cells:=p.l},uI] [.agg r.a,.fn 60 [.p 0 0,.p 1 0]] (jK (sC r p,lM r p)) [(1,mh (BL r p))] 2 none [.agg r.a,.fn 60 [.p 1 0,.p 3 0]] h n=some (true,{v:=jK (sC r p,lM r p),n,rd:=[1,3],md:=[(1,none),(3,some (mh (BL r p)))]}):=fun h n h0 h1=>by
  refine dt (h:=h) (n:=n) (by simp only [aL,AV.aH,nth,rR]) ⟨⟨?_,?_⟩,⟨?_,?_⟩,trivial⟩ ?_
  ·rw [h0];simp [aW.aH,pR]
  ·exact pB _
  ·rw [h1];rfl
  ·rfl
  ·simp [lK,fE,aW.aH,aL,AV.aH,ix,nth,ab,oR,vR,aG,cj]
 generalize kH _ _ _ _ _ _ _=kT at hs hat;have hcx:Sound av (bZ [(59,kT)]):=Sound.cons hs Sound.nil;have a3:r.a.length=3:=rfl;have ro:aX r.a=true:=rfl;have rd:List.take 3 (List.drop 0 r.a)=r.a:=rfl;have ao:aX (sC r p).a=true:=rfl;have ad:List.take 3 (List.drop 0 (sC r p).a)=(sC r p).a:=rfl;have ad3:(sC r p).a.length=3:=rfl;have po:aX p.l=true:=rfl;have p9:p.l.length=9:=rfl;have hvb:=Fj (sC r p) (BL r p) (lM r p);simp only [jK,puV] at*;generalize (sC r p).a=RA at*;generalize BL r p=L2 at*;generalize lM r p=E at*;generalize r.a=ra at*;generalize p.l=PL at*;refine dT hcx Tryz.func13 U5 ?_
 dsimp only [i13];simp only [go_sem,a3,ro,rd,po,p9,hat,ao,ad,ad3,simprocAttr];exact Ends.au hvb rfl
def Iz:Ct
 |[.agg c,.agg d],_,n=>(qy c).bind fun r=>(LW d).bind fun p=>some (r.is&&(p.fin&&decide (p.pl.length<=1000000000)),{v:=puV (sC r p) (BL r p) (lM r p),n})
 |_,_,_=>none
theorem s13:aq av 13 Iz:=fun args h n c E hc ht=>by
 unfold Iz at hc;split at hc
 ·simp only [af,aP,bq] at hc;obtain ⟨r,hr,p,hp,rfl,rfl⟩:=hc;rw [eh hr,zi hp];simp only [aw,aV] at ht;exact ax.pure (by kernel_rfl) (by simp only [ae,AV.al,Rm.al,p.al,az]) (Fj _ _ _) (w13 r ht.1 p ht.2.1 ht.2.2) _ _
 ·cases hc
end Go.Proofs.Rom
namespace Go.Proofs
open Go.Shelf
def Tryz.Gz:Go.Shelf.Ren:=⟨fun|6=>106|15=>172|14=>171|28=>219|29=>220|20=>211|21=>212|22=>213|23=>214|24=>215|25=>216|26=>217|27=>218|46=>242|47=>243|48=>244|49=>245|50=>246|57=>252|n=>n,fun|22=>85|24=>121|25=>191|3=>3|39=>67|0=>0|53=>125|55=>247|4=>4|46=>283|45=>282|50=>148|5=>5|9=>9|66=>302|70=>306|76=>311|77=>111|n=>n,fun|n=>n⟩
theorem Tryz.Rj:Go.Proofs.SlLaysF0.n6 av Tryz.Gz:={
 mixed:=by kernel_rfl
 f6:=⟨Tryz.f106.name,by decide,Tryz.func106.trans (cS some (by kernel_rfl))⟩
 f14:=⟨Tryz.f171.name,by decide,Tryz.func171.trans (cS some (by kernel_rfl))⟩
 f15:=Tryz.func172.trans (cS some (by kernel_rfl))
 f20:=⟨Tryz.f211.name,by decide,Tryz.func211.trans (cS some (by kernel_rfl))⟩
 f21:=⟨Tryz.f212.name,by decide,Tryz.func212.trans (cS some (by kernel_rfl))⟩
 f22:=⟨Tryz.f213.name,by decide,Tryz.func213.trans (cS some (by kernel_rfl))⟩
 f23:=⟨Tryz.f214.name,by decide,Tryz.func214.trans (cS some (by kernel_rfl))⟩
 f24:=⟨Tryz.f215.name,by decide,Tryz.func215.trans (cS some (by kernel_rfl))⟩
 f25:=⟨Tryz.f216.name,by decide,Tryz.func216.trans (cS some (by kernel_rfl))⟩
 f26:=⟨Tryz.f217.name,by decide,Tryz.func217.trans (cS some (by kernel_rfl))⟩
 f27:=⟨Tryz.f218.name,by decide,Tryz.func218.trans (cS some (by kernel_rfl))⟩
 f28:=Tryz.func219.trans (cS some (by kernel_rfl))
 f29:=Tryz.func220.trans (cS some (by kernel_rfl))
 f46:=⟨Tryz.f242.name,by decide,Tryz.func242.trans (cS some (by kernel_rfl))⟩
 f47:=Tryz.func243.trans (cS some (by kernel_rfl))
 f48:=Tryz.func244.trans (cS some (by kernel_rfl))
 f49:=⟨Tryz.f245.name,by decide,Tryz.func245.trans (cS some (by kernel_rfl))⟩
 f50:=⟨Tryz.f246.name,by decide,Tryz.func246.trans (cS some (by kernel_rfl))⟩
 f57:=⟨Tryz.f252.name,by decide,Tryz.func252.trans (cS some (by kernel_rfl))⟩
 t0:=Tryz.underlying0
 a0:=Tryz.isAgg0
 z0:=Tryz.sizeOf0
 v0:=Tryz.zeroValue0
 t3:=Tryz.underlying3
 a3:=Tryz.isAgg3
 z3:=Tryz.sizeOf3
 v3:=Tryz.zeroValue3
 t4:=Tryz.underlying4
 a4:=Tryz.isAgg4
 z4:=Tryz.sizeOf4
 v4:=Tryz.zeroValue4
 t5:=Tryz.underlying5
 a5:=Tryz.isAgg5
 z5:=Tryz.sizeOf5
 v5:=Tryz.zeroValue5
 t9:=Tryz.underlying9
 a9:=Tryz.isAgg9
 z9:=Tryz.sizeOf9
 v9:=Tryz.zeroValue9
 t22:=Tryz.underlying85
 a22:=Tryz.isAgg85
 z22:=Tryz.sizeOf85
 v22:=Tryz.zeroValue85
 t25:=Tryz.underlying191
 a25:=Tryz.isAgg191
 z25:=Tryz.sizeOf191
 v25:=Tryz.zeroValue191
 t39:=Tryz.underlying67
 a39:=Tryz.isAgg67
 z39:=Tryz.sizeOf67
 v39:=Tryz.zeroValue67
 t45:=Tryz.underlying282
 a45:=Tryz.isAgg282
 z45:=Tryz.sizeOf282
 v45:=Tryz.zeroValue282
 t46:=Tryz.underlying283
 a46:=Tryz.isAgg283
 z46:=Tryz.sizeOf283
 v46:=Tryz.zeroValue283
 t50:=Tryz.underlying148
 a50:=Tryz.isAgg148
 z50:=Tryz.sizeOf148
 v50:=Tryz.zeroValue148
 t53:=Tryz.underlying125
 a53:=Tryz.isAgg125
 z53:=Tryz.sizeOf125
 v53:=Tryz.zeroValue125
 t55:=Tryz.underlying247
 a55:=Tryz.isAgg247
 z55:=Tryz.sizeOf247
 v55:=Tryz.zeroValue247
 t66:=Tryz.underlying302
 a66:=Tryz.isAgg302
 z66:=Tryz.sizeOf302
 v66:=Tryz.zeroValue302
 t70:=Tryz.underlying306
 a70:=Tryz.isAgg306
 z70:=Tryz.sizeOf306
 v70:=Tryz.zeroValue306
 t76:=Tryz.underlying311
 a76:=Tryz.isAgg311
 z76:=Tryz.sizeOf311
 v76:=Tryz.zeroValue311
 t77:=Tryz.underlying111
 a77:=Tryz.isAgg111
 z77:=Tryz.sizeOf111
 v77:=Tryz.zeroValue111}
def Tryz.D9:Go.Shelf.Ren:=⟨fun|5=>109|7=>173|n=>n,fun|22=>3|3=>3|4=>4|n=>n,fun|n=>n⟩
theorem Tryz.ZC:Go.Proofs.SlLaysC2.n5 av Tryz.D9:={
 mixed:=by kernel_rfl
 f5:=⟨Tryz.f109.name,by decide,Tryz.func109.trans (cS some (by kernel_rfl))⟩
 f7:=⟨Tryz.f173.name,by decide,Tryz.func173.trans (cS some (by kernel_rfl))⟩
 t3:=Tryz.underlying3
 a3:=Tryz.isAgg3
 z3:=Tryz.sizeOf3
 v3:=Tryz.zeroValue3
 t4:=Tryz.underlying4
 a4:=Tryz.isAgg4
 z4:=Tryz.sizeOf4
 v4:=Tryz.zeroValue4
 t22:=Tryz.underlying3
 a22:=Tryz.isAgg3
 z22:=Tryz.sizeOf3
 v22:=Tryz.zeroValue3}
end Go.Proofs
namespace Go.Proofs.Rom
open Go Go.Shelf Go.RowKit Go.Lib Go.Sort
def orZ (a b:Int):Int:=if a≠0 then a else b
theorem or2 (a b:Int) (B:Nat) (W:World) (h0:W.cell? ⟨B,0,none⟩=some (.int .i64 a)) (h1:W.cell? ⟨B,1,none⟩=some (.int .i64 b)):
 Calls av 108 #[.slice (some ⟨B,0,none⟩) 2 2] W fun e w'=>e= .returned (.int .i64 (orZ a b))/\w'=W:=by
 unfold orZ;by_cases ha:a=0<;>by_cases hb:b=0<;>
 ·go_enter Tryz.func108,Tryz.ntmps108
  go_wp2
  refine wp_loop_rounds 3 ?_
  iterate 3 (first|(rw [rounds_succ];go_wp2)|skip)
  all_goals (go_ret;simp [*])
def xA (x y:Int×Int):Int:=orZ (Lib.compareInt x.1 y.1) (Lib.compareInt x.2 y.2)
theorem al2 (u v:Value) (t:TypeId) (W:World) (n:Nat) (hn:W.heap.size=n):(W.alloc (Obj.cells #[u,v] t)).drew.cell? ⟨n,0,none⟩=some u/\(W.alloc (Obj.cells #[u,v] t)).drew.cell? ⟨n,1,none⟩=some v:=by
 subst hn;have e:(W.alloc (Obj.cells #[u,v] t)).drew.heap[W.heap.size]? =some (Obj.cells #[u,v] t):=Array.getElem?_push_size;unfold World.cell?;rw [e];exact ⟨rfl,rfl⟩
theorem aje {W:World} {a b:Obj}:((W.alloc a).alloc b).heap.size=W.heap.size+1+1:=by
 show ((W.heap.push a).push b).size=_;rw [Array.size_push,Array.size_push]
theorem arZ (W:World) (a b c:Obj):(((W.alloc a).alloc b).alloc c).drew=grow (W.drewN 1) #[a,b,c]:=by
 have e:((W.heap.push a).push b).push c=W.heap++ #[a,b,c]:=by
  apply lg;simp
 show ({W with heap:=((W.heap.push a).push b).push c,drawn:=W.drawn+1}:World)={W with heap:=W.heap++ #[a,b,c],drawn:=W.drawn+1}
 rw [e]
theorem agH (x y:Int×Int) (W:World):Calls av 107 #[.agg #[.int .i64 x.1,.int .i64 x.2],.agg #[.int .i64 y.1,.int .i64 y.2]] W fun e w'=>e= .returned (.int .i64 (xA x y))/\ ∃q os',w'=grow (W.drewN q) os':=by
 have hcon:=fun a b W'=>AnyG.cmp_Compare_int Tryz.ZC a b W';change ∀a b W',Calls av 109 _ _ _ at hcon;unfold xA
 go_enter Tryz.func107,Tryz.ntmps107
 go_wp2
 go_region_held3 (fun w'=>w'.cell? ⟨W.heap.size,0,none⟩=some (.int .i64 x.1)/\w'.cell? ⟨W.heap.size,1,none⟩=some (.int .i64 x.2)/\w'.cell? ⟨W.heap.size+1,0,none⟩=some (.int .i64 y.1)/\w'.cell? ⟨W.heap.size+1,1,none⟩=some (.int .i64 y.2)) (go_keep)
  (first
    |(go_at_call 109;refine (hcon _ _ _).mono ?_;rintro e w' ⟨rfl,rfl⟩)
    |(go_at_call 108;refine (or2 (Lib.compareInt x.1 y.1) (Lib.compareInt x.2 y.2) _ _ ?_ ?_).mono ?_;(exact (al2 _ _ _ _ _ aje).1);(exact (al2 _ _ _ _ _ aje).2);rintro e w' ⟨rfl,rfl⟩))
 all_goals go_wp2
 all_goals go_ret
 exact ⟨rfl,1,_,arZ W _ _ _⟩
end Go.Proofs.Rom
namespace Go.Proofs.Rom
open Go Go.Shelf Go.RowKit Go.Lib Go.Sort Go.Ab
def gp (x:Int×Int):List AV:=[.i .i64 x.1,.i .i64 x.2]
theorem ia (x:Int×Int):(gp x).length=2:=rfl
theorem CK (x:Int×Int):ae 0 (gp x)=true:=rfl
def uM (x:Int×Int):List Value:=[.int .i64 x.1,.int .i64 x.2]
theorem dR.stays {D:Nat->Prop} {φ:bU} {H:Go.Ab.Hf} {w w':World} (hH:HR D φ H w) (hos:w'.os=w.os) (ht:w'.tape=w.tape) (ho:w'.output=w.output) (hsz:w.heap.size<=w'.heap.size) (hst: ∀c,c<w.heap.size->w'.heap[c]? =w.heap[c]?):dR D φ H w D φ H w':=
 dR.mk' hH rfl rfl (fun _ h=>h) (dh.refl D φ).at_ ⟨fun b k hb=>⟨(hH.at_ b k hb).1,(hH.at_ b k hb).2.mono (fun _ h=>h) (dh.refl _ _) (hH.at_ b k hb).1 (hst _ (hH.at_ b k hb).2.lt)⟩,hH.sep⟩
  ⟨hos,ht,ho,hsz,fun c hc _=>hst c hc⟩ (fun b k hb hk=> .inr ⟨b,k,hb,hk,rfl⟩)
theorem An {h:Array Obj} {B:Nat} {cs:Array Value} {elem:TypeId} {fr:Nat×Nat} {f:Array Value->Array Value} (hk:h[B]? =some (.cells cs elem fr)):h.modify B (onCells f)=h.setIfInBounds B (.cells (f cs) elem fr):=by
 apply sY;intro c;have hB:B<h.size:=by
  rcases dw B h.size with h'|h'
  ·exact h'
  ·rw [gw h'] at hk;cases hk
 rw [Ci,Array.getElem?_setIfInBounds];by_cases hc:B=c
 ·subst hc;rw [aM rfl,aM rfl,aM hB,hk];rfl
 ·rw [aN hc,aN hc]
theorem RZ {D:Nat->Prop} {φ:bU} {l:List (Int×Int)} {t:Nat} {u:Value} {v:AV} (ht:t<l.length*2) (hv:(rows gp l)[t]? =some v) (hu:aI D φ v u):u=(uM l.toArray[t/2]!)[t % 2]! :=by
 have hk:t/2<l.length:=by omega
 have hg:l[t/2]? =some l[t/2]:=by simp [hk]
 have he:l.toArray[t/2]! =l[t/2]:=by simp [hk]
 rw [he];rcases Nat.mod_two_eq_zero_or_one t with h|h
 ·have:=cn ia (j:=0) (v:= .i .i64 l[t/2].1) hg rfl;rw [show t/2*2+0=t by omega,hv] at this
  cases this;cases hu;rw [h];rfl
 ·have:=cn ia (j:=1) (v:= .i .i64 l[t/2].2) hg rfl;rw [show t/2*2+1=t by omega,hv] at this
  cases this;cases hu;rw [h];rfl
theorem Ze (D:Nat->Prop) (φ:bU) {l:List (Int×Int)} {t:Nat} {v:AV} (hv:(rows gp l)[t]? =some v):aI D φ v (uM l.toArray[t/2]!)[t % 2]! :=by
 have ht:t<l.length*2:=by
  rcases dw t (rows gp l).length with h|h
  ·rwa [aT ia] at h
  ·rw [fM h] at hv;cases hv
 have hk:t/2<l.length:=by omega
 have hg:l[t/2]? =some l[t/2]:=by simp [hk]
 have he:l.toArray[t/2]! =l[t/2]:=by simp [hk]
 rw [he];rcases Nat.mod_two_eq_zero_or_one t with h|h
 ·have:=cn ia (j:=0) (v:= .i .i64 l[t/2].1) hg rfl;rw [show t/2*2+0=t by omega,hv] at this
  cases this;rw [h];exact .i _ _
 ·have:=cn ia (j:=1) (v:= .i .i64 l[t/2].2) hg rfl;rw [show t/2*2+1=t by omega,hv] at this
  cases this;rw [h];exact .i _ _
theorem YE {P:Program} {f g:FuncId} {lt:Int×Int->Int×Int->Bool}
 (hC: ∀(cW off cap:Nat) (d:Array (Int×Int)) (w:World),HoldsK uM 2 w cW off d->cW<w.heap.size->d.size<4611686018427387904->Calls P f #[.slice (some ⟨cW,off,none⟩) d.size cap,.func (.func g) #[] #[]] w fun e w'=>
   e= .returned (.tuple #[])/\ ∃d' n os,PermIn 0 d.size d d'/\SortedIn lt 0 d.size d'/\w'=sortWorldK uM 2 w cW off n d' os)
 (he:ext P f=false) (hy:f≠YB) {l L:List (Int×Int)} (hsz:l.length<4611686018427387904) (hL: ∀m,m.Perm l->(m.Pairwise fun x y=>lt y x=false)->m=L):
 bt P f [.sg 0 0 l.length,.fn g []] [(0,{cells:=rows gp l,gr:=some 2})] 1 (.bg []) [(0,{cells:=rows gp L,gr:=some 2})] 1:=by
 intro D φ w us hD hH ha;obtain ⟨u0,us1,rfl,h0,ha⟩:=ha.dZ;obtain ⟨u1,us2,rfl,h1,ha⟩:=ha.dZ;cases ha.kK;obtain ⟨hg,mm,rfl,hm⟩:=h1.wR;cases hm.kK;cases h0 with
 |sg _ _ _ j cap h hj hc hl=>
 have hb0:=hH.at_ 0 _ rfl;obtain ⟨⟨cs,elem,fr,hk,hcs,hfr,hgr⟩,hgid⟩:=hb0.2;have hk:=hk.cells rfl;have hB:φ.cW 0<w.heap.size:=hb0.2.lt;have cell: ∀t,t<l.length*2->cs[φ.off 0+t]? =some (uM l.toArray[t/2]!)[t % 2]! :=fun t ht=>by
  have h2:t<(rows gp l).length:=by rw [aT ia];exact ht
  obtain ⟨u,h3,h4⟩:=hcs t (rows gp l)[t] (by simp [h2])
  rw [h3,RZ ht (by simp [h2]) h4]
 have HH:HoldsK uM 2 w (φ.cW 0) (φ.off 0+0) l.toArray:=fun t ht=>by
  rw [size_flatK,tI] at ht;rw [get_flatK _ _ _ t (by rw [tI];exact ht)]
  have h3:=cell t ht;have hlt:φ.off 0+t<cs.size:=by
   rcases dw (φ.off 0+t) cs.size with h'|h'
   ·exact h'
   ·rw [gw h'] at h3;cases h3
  refine ⟨?_,?_⟩
  ·simp only [World.cell?,hk,fu,Option.isSome_none,cY,bV,h3];rfl
  ·have:=(hfr rfl).2 (φ.off 0+t) (.inl hlt);simp only [World.frozen?,hk,fu];simpa using this
 have hcall:=hC (φ.cW 0) (φ.off 0+0) cap l.toArray w HH hB (by rw [tI];exact hsz)
 rw [tI] at hcall;refine rT.of (hcall.mono fun e w' hx=> ?_) hy he;obtain ⟨rfl,d',n,os,hp,hs,rfl⟩:=hx;have hsd:d'.size=l.length:=by simpa using hp.1
 have hd:d'.toList=L:=hL _ (by
  have:=hp.2.2;rw [Array.extract_eq_self_of_le (by omega),Array.extract_eq_self_of_le (by simp)] at this
  simpa using this) (by
  refine y5.2 fun i j hi hj hij=> ?_;have:=hs i j (eB _) hij (by simpa [hsd] using hj)
  rw [getElem!_pos d' i (by simpa using hi),getElem!_pos d' j (by simpa using hj)] at this
  simpa using this)
 have hdL:d'=L.toArray:=by rw [<-hd]
 subst hdL;have hLl:L.length=l.length:=by simpa using hsd
 refine ⟨D,φ,_,rfl,hD,.bg [] #[] rfl (fun i a u h1=>by simp at h1),?_⟩
 have s1:dR D φ (ab [(0,{cells:=rows gp l,gr:=some 2})]) w D φ (fun c=>if c=0 then some {cells:=rows gp L,gr:=some 2} else ab [(0,{cells:=rows gp l,gr:=some 2})] c) (putRowK uM 2 (Sort.ahead w n) (φ.cW 0) (φ.off 0+0) L.toArray):=
  dR.write (k:={cells:=rows gp l,gr:=some 2}) (xs:=rows gp L) (cs':=putCells id (φ.off 0+0) (flatK uM 2 L.toArray) cs) hH rfl rfl hk (An (h:=w.heap) hk) rfl rfl rfl (by simp [putCells]) fun i v hv=>by
   have hi:i<L.length*2:=by
    rcases dw i (rows gp L).length with h|h
    ·rwa [aT ia] at h
    ·rw [fM h] at hv;cases hv
   refine ⟨_,?_,Ze D φ hv⟩;rw [putCells,Array.getElem?_mapIdx,cell i (by omega),fN,aM ⟨by omega,by rw [size_flatK,tI];omega⟩]
   rw [show φ.off 0+i-(φ.off 0+0)=i by omega,get_flatK _ _ _ i (by rw [tI];exact hi)]
   rfl
 have eH:(fun c=>if c=0 then some {cells:=rows gp L,gr:=some 2} else ab [(0,{cells:=rows gp l,gr:=some 2})] c)=ab [(0,{cells:=rows gp L,gr:=some 2})]:=by
  funext c;by_cases hc:c=0
  ·subst hc;rfl
  ·rw [aN hc];cases c with
   |zero=>exact absurd rfl hc
   |succ c=>rfl
 rw [eH] at s1;refine s1.trans (dR.stays s1.hr rfl rfl rfl (by rw [sortWorldK,size_grow];exact Nat.le_add_right _ _) fun c hc=> ?_)
 rw [sortWorldK,grow,Bj hc]
end Go.Proofs.Rom
namespace Go.Proofs.Rom
open Go.Ab
def Kx (x y:Int×Int):Bool:=decide (xA x y<0)
theorem pq (x y:Int×Int):Kx x y=true↔x.1<y.1\/(x.1=y.1/\x.2<y.2):=by
 unfold Kx xA orZ Lib.compareInt;rw [aV];by_cases h1:x.1<y.1
 ·rw [aM h1,aM (by decide)];omega
 ·by_cases h2:x.1>y.1
  ·rw [aN h1,aM h2,aM (by decide)];omega
  ·rw [aN h1,aN h2,aN (by simp)]
   by_cases h3:x.2<y.2
   ·rw [aM h3];omega
   ·rw [aN h3];split<;>omega
theorem at1:Go.Sort.SWO (Go.Proofs.ltOf xA) where
 irrefl x:=by
  have:Go.Proofs.ltOf xA x x=Kx x x:=rfl;rw [this,<-ju,pq];omega
 trans x y z h1 h2:=by
  have e: ∀a b,Go.Proofs.ltOf xA a b=Kx a b:=fun _ _=>rfl;rw [e,pq] at *;omega
 ntrans x y z h1 h2:=by
  have e: ∀a b,Go.Proofs.ltOf xA a b=Kx a b:=fun _ _=>rfl;rw [e,<-ju,pq] at *;omega
theorem aog (cW off cap:Nat) (d:Array (Int×Int)) (w:World) (hH:Go.Sort.HoldsK uM 2 w cW off d) (hblk:cW<w.heap.size) (hsz:d.size<4611686018427387904):
 Calls av 106 #[.slice (some ⟨cW,off,none⟩) d.size cap,.func (.func 107) #[] #[]] w fun e w'=>
  e= .returned (.tuple #[])/\ ∃d' n os,Go.Sort.PermIn 0 d.size d d'/\Go.Sort.SortedIn (Go.Proofs.ltOf xA) 0 d.size d'/\w'=Go.Proofs.sortWorldK uM 2 w cW off n d' os:=by
 have eg: ∀args w,(callFunc 107 args).run av w= .ok (.enter 107 args) w:=enters_of Tryz.func107 (by kernel_rfl) rfl
 exact Go.Proofs.AnyQ.slices_SortFunc Tryz.Rj 2 Tryz.isAgg121 Tryz.sizeOf121 uM (fun _=>rfl) (fun x v hv=>by simp [uM] at hv;rcases hv with rfl|rfl<;>rfl) xA at1 107 #[] cW off cap d w eg (fun _ _ _ _ x y=>agH x y _) hH hblk hsz
def kj (l:List (Int×Int)):List (Int×Int):=l.mergeSort fun x y=> !Kx y x
theorem xZ (l:List (Int×Int)):(kj l).Perm l:=List.mergeSort_perm _ _
theorem JP (l:List (Int×Int)):(kj l).Pairwise fun x y=>Kx y x=false:=by
 have h:=List.pairwise_mergeSort (le:=fun x y:Int×Int=> !Kx y x) (fun a b c h1 h2=>by
  simp only [iH,<-ju,pq] at *;omega) (fun a b=>by
  simp only [iS,iH,<-ju,pq];omega) l
 exact h.imp fun h=>by simpa using h
theorem Hg {l m:List (Int×Int)} (hp:m.Perm l) (hs:m.Pairwise fun x y=>Kx y x=false):m=kj l:=by
 refine List.Perm.eq_of_pairwise (le:=fun x y=>Kx y x=false) (fun a b _ _ h1 h2=> ?_) hs (JP l) (hp.trans (xZ l).symm);rw [<-ju,pq] at h1 h2;exact oy (by omega) (by omega)
theorem Hh (l:List (Int×Int)):(gQ gp 2 l).plain=true:=(tE (f:=gp) CK ia l).pl
theorem atB (l:List (Int×Int)) (hl:l.length<=1000) (h0:0<l.length):bt av 106 [.sg 0 0 l.length,.fn 107 []] [(0,{cells:=rows gp l,gr:=some 2})] 1 (.bg []) [(0,{cells:=rows gp (kj l),gr:=some 2})] 1:=
 YE aog (by kernel_rfl) (by decide) (by omega) (fun m hp hs=>Hg hp hs)
theorem akN:bt av 106 [.ns,.fn 107 []] [] 0 (.bg []) [] 0:=by
 intro D φ w us hD hH ha;obtain ⟨u0,us1,rfl,h0,ha⟩:=ha.dZ;obtain ⟨u1,us2,rfl,h1,ha⟩:=ha.dZ;cases ha.kK;cases h0;have hc:=Go.Proofs.AnyF.slices_SortFunc_none Tryz.Rj none 0 u1 w;refine rT.of (hc.mono fun e w' hx=> ?_) (by decide) (by kernel_rfl)
 obtain ⟨rfl,rfl⟩:=hx;exact ⟨D,φ,.tuple #[],rfl,hD,.bg [] #[] rfl (fun i a u h1=>by simp at h1),dR.refl hH⟩
def nn (l:List (Int×Int)):Nat->List (Int×Int)
 |0=>[]
 |j+1=>match l[j]? with
  |some x=>if 0<j/\l[j-1]? =some x then nn l j else nn l j++[x]
  |none=>nn l j
def kO (l:List (Int×Int)):List (Int×Int):=nn l l.length
theorem Qk {l:List (Int×Int)} {j:Nat} {x y:Int×Int} (hx:l[j]? =some x) (hy:l[j-1]? =some y) (hj:0<j):nn l (j+1)=if y=x then nn l j else nn l j++[x]:=by
 simp only [nn,hx,hy,aP,hj,nq]
theorem adU (l:List (Int×Int)) (k:Nat) (x:Int×Int) (hk:k<l.length):List.take (k*2) (rows gp l)++gp x++List.drop (k*2+2) (rows gp l)=rows gp (l.set k x):=by
 have e1:l=l.take k++l[k]::l.drop (k+1):=by rw [zt,kQ]
 have e2:l.set k x=l.take k++x::l.drop (k+1):=by rw [List.set_eq_take_append_cons_drop,aM hk]
 have hl:(rows gp (l.take k)).length=k*2:=by rw [aT ia,gO,oK (by omega)]
 have e3:rows gp l=rows gp (l.take k)++(gp l[k]++rows gp (l.drop (k+1))):=by rw [<-cT,<-df,<-e1]
 rw [e2,df,cT,e3,yJ,vh,hl];rw [show k*2-k*2=0 by omega,show k*2+2-k*2=2 by omega]
 have q1:List.take (k*2) (rows gp (l.take k))=rows gp (l.take k):=h9 (by rw [hl];omega)
 have q2:List.drop (k*2+2) (rows gp (l.take k))=[]:=rN (by rw [hl];omega)
 rw [q1,q2];simp [gp]
theorem Bc (j:Nat) (l:List (Int×Int)):ae j (rows gp l)=true:=aD _ (bN CK)
theorem gpR (ψ:Nat->Nat) (l:List (Int×Int)):aL ψ (rows gp l)=rows gp l:=aU _ (bN CK)
theorem Q5 (x y:Int×Int):eqs [.i,.i] (gp x) (gp y)=some (decide (x=y)):=by
 show some ((x.1==y.1)&&((x.2==y.2)&&true))=_;rw [aP,iG];obtain ⟨a,b⟩:=x;obtain ⟨c,d⟩:=y;simp
theorem ajx:bt av 110 [.ns] [] 0 (.fz [] 0) [] 0:=by
 refine bt.dU (cx:=bZ []) Sound.nil mo Tryz.func110 ES (by simp [i110]) (aQ ?_)
 dsimp only [i110];simp only [go_sem,simprocAttr];refine bw.xe (l:=[]) (v':= .fz [] 0) dj.hit ?_;exact bw.ends (Ends.au rfl rfl)
noncomputable abbrev aj2:Fx:=⟨av,bZ [],[8,13,25,32,44],61,1⟩
theorem aup (l:List (Int×Int)) (hl:l.length<=1000) (h0:0<l.length):bt av 110 [.sg 0 0 l.length] [(0,{cells:=rows gp l,gr:=some 2})] 1 (.fz (rows gp (kO l)) (kO l).length) [] 1:=by
 have hat: ∀(m:List (Int×Int)) (i:Nat) x,m[i]? =some x->List.take 2 (List.drop (i*2) (rows gp m))=gp x:=fun m i x h=>eo (f:=gp) ia h;have g2: ∀x,(gp x).length=2:=ia;refine bt.dU (cx:=bZ []) Sound.nil mo Tryz.func110 ES (by simp [i110]) (aQ ?_)
 dsimp only [i110];cases c0:decide ((l.length:Int)<2);rotate_left
 ·have hd:kO l=l:=by
   have h1:l.length=1:=by have:=bO c0;omega
   match l,h1 with
   |[x],_=>rfl
  rw [hd];simp only [go_sem,c0,simprocAttr];refine bw.rM (b:=0) (x:= .sg 0 0 l.length) (k:={cells:=rows gp l,gr:=some 2}) (o:=0) (m:=l.length) (cs:=rows gp l) (v':= .fz (rows gp l) l.length) (h':=[]) rfl rfl (.inr rfl) (.inl rfl) dj.hit trivial ?_;exact bw.ends (Ends.au (by simp only [AV.al,Bc]) rfl)
 have hn2:2<=l.length:=by have:=ob c0;omega
 simp only [go_sem,c0,simprocAttr];refine Loop.fj (F:=aj2) Sound.nil mo l.length (fun k=>1<=k+1/\k+1<=l.length/\nn l (k+1)=l.take (k+1)) (fun k=>[(0,.sg 0 0 l.length),(3,.i .i64 ((k:Int)+1))]) (fun k=>[(0,{cells:=rows gp l,gr:=some 2})]) 1 (show 1<=1 by decide) ⟨by omega,by omega,?_⟩ ?_ ?_ (fun k hk hok=> ?_)
 ·obtain ⟨x,hx⟩: ∃x,l[0]? =some x:=⟨_,aY (by omega)⟩
  simp only [nn,hx];rw [jz,hx];simp
 ·simp only [go_sem,AV.al,aG,simprocAttr]
 ·simp only [go_sem,Bc,simprocAttr]
 obtain ⟨_,hk1,hdd⟩:=hok;have hcc:((k:Int)+1)=((k+1:Nat):Int):=by omega
 rw [hcc];by_cases hlt:k+1<l.length
 rotate_left
 ·have c1:decide (((k+1:Nat):Int)<(l.length:Int))=false:=cN (by omega)
  have hd:kO l=l:=by
   have e:k+1=l.length:=by omega
   unfold kO;rw [<-e,hdd,e,fU]
  rw [hd];simp only [go_sem,c1,simprocAttr];refine bw.rM (b:=0) (x:= .sg 0 0 l.length) (k:={cells:=rows gp l,gr:=some 2}) (o:=0) (m:=l.length) (cs:=rows gp l) (v':= .fz (rows gp l) l.length) (h':=[]) rfl rfl (.inr rfl) (.inl rfl) dj.hit trivial ?_;exact bw.ends (Ends.au (by simp only [AV.al,Bc]) rfl)
 have c1:decide (((k+1:Nat):Int)<(l.length:Int))=true:=ah (by omega)
 have c2:decide (0<=((k+1:Nat):Int)/\((k+1:Nat):Int)<(l.length:Int))=true:=ah (by omega)
 have c3:decide (0<=(k:Int)/\(k:Int)<(l.length:Int))=true:=ah (by omega)
 have w1:IntKind.i64.wrap (((k+1:Nat):Int)-1)=(k:Int):=by rw [bS (by omega) (by omega)];omega
 have w2:IntKind.i64.wrap (((k+1:Nat):Int)+1)=((k+1:Nat):Int)+1:=bS (by omega) (by omega)
 obtain ⟨x,hx⟩: ∃x,l[k+1]? =some x:=⟨_,aY hlt⟩;obtain ⟨y,hy⟩: ∃y,l[k]? =some y:=⟨_,aY (by omega)⟩
 have gx:=hat l _ x hx;have gy:=hat l _ y hy;have hxy:=Q5 x y;have hds:=Qk hx (y:=y) (by simpa using hy) (by omega)
 have x2:=g2 x;have y2:=g2 y;by_cases hxe:x=y
 rotate_left
 ·rw [cN hxe] at hxy;rw [aN (fun h=>hxe h.symm)] at hds;have hdd2:nn l (k+1+1)=l.take (k+1+1):=by rw [hds,hdd,jz (i:=k+1),hx];rfl
  generalize gp x=GX at*;generalize gp y=GY at*;have hB:=Bc 1 l;generalize rows gp l=L at*;simp only [go_sem,c1,c2,c3,w1,w2,gx,gy,hxy,x2,y2,AV.al,aG,hB,dr,simprocAttr];exact ⟨by omega,by omega,hdd2⟩
 subst hxe;rw [aM rfl] at hds;rw [ah rfl] at hxy;generalize hK0:k+1=K0 at*;have s1:decide (0<=(K0:Int)/\(K0:Int)<=(l.length:Int)/\0<=(l.length:Int))=true:=ah (by omega)
 have s2:decide (K0=0\/K0<l.length)=true:=ah (by omega)
 have gx':=gx;have gy':=gy;have x2':=x2;have hxy':=hxy;generalize gp x=GX at gx' gy' x2' hxy';generalize hLL:rows gp l=L at gx' gy' ⊢;simp only [go_sem,c1,c2,c3,w1,gx',gy',hxy',x2',s1,s2,AV.al,aG,lR,simprocAttr];subst hLL;refine Loop.by (F:=aj2) Sound.nil mo (X:=Nat×List (Int×Int)) (fun x=>1<=x.1/\K0+x.1<=l.length/\x.2.length=l.length/\(nn l (K0+x.1)).length+1<=K0+x.1/\x.2.take (nn l (K0+x.1)).length=nn l (K0+x.1)/\ ∀q,K0+x.1<=q+1->x.2[q]? =l[q]?) (fun x=>l.length-x.1)
  (fun x=>[(0,.sg 0 0 l.length),(3,.i .i64 ((nn l (K0+x.1)).length:Int)),(4,.sg 0 (K0*2) (l.length-K0)),(5,.i .i64 (x.1:Int))])
  (fun x=>[(0,{cells:=rows gp x.2,gr:=some 2})]) 1 (1,l) (show 1<=1 by decide) ⟨by omega,by omega,rfl,?_,?_,fun q hq=>rfl⟩ ?_ ?_ (fun x hxx=> ?_)
 ·rw [hds,hdd,gO];omega
 ·rw [hds,hdd,gO,oK (by omega)]
 ·dsimp only;rw [hds,hdd,gO,oK (by omega)]
  simp only [go_sem,AV.al,aG,simprocAttr]
 ·simp only [go_sem,Bc,simprocAttr]
 obtain ⟨i,M⟩:=x;obtain ⟨i1,i2,i3,i4,i5,i6⟩:=hxx;dsimp only at i1 i2 i3 i4 i5 i6 ⊢;have hp1:(nn l (K0+i)).length<=l.length:=by omega
 by_cases hil:i<l.length-K0
 rotate_left
 ·have e:K0+i=l.length:=by omega
  have d1:decide ((i:Int)<((l.length-K0:Nat):Int))=false:=cN (by omega)
  have hD:nn l (K0+i)=kO l:=by rw [e];rfl
  rw [hD] at i4 i5 hp1 ⊢;have hMl:(rows gp M).length=l.length*2:=by rw [aT ia,i3]
  have hMt:List.take ((kO l).length*2) (rows gp M)=rows gp (kO l):=by rw [sS ia,i5]
  have hDl:(rows gp (kO l)).length=(kO l).length*2:=aT ia;generalize hP:(kO l).length=P at*;have s1:decide (0<=(P:Int)/\(P:Int)<=(l.length:Int)/\0<=(l.length:Int))=true:=ah (by omega)
  have s2:decide (P=0\/P<l.length)=true:=ah (by omega)
  have s3:decide (0<=(P:Int)/\(P:Int)<=(l.length:Int))=true:=ah (by omega)
  have le1:decide (P*2+(l.length-P)*2<=(rows gp M).length)=true:=ah (by omega)
  have hMB:=Bc 1 M;generalize rows gp M=MM at*;simp only [go_sem,d1,s1,s2,s3,le1,hMB,AV.al,aG,lR,simprocAttr];refine bw.rM (b:=0) (x:= .sg 0 0 P) (o:=0) (m:=P) (cs:=rows gp (kO l)) (v':= .fz (rows gp (kO l)) P) (h':=[]) rfl rfl (.inr rfl) (.inr ?_) dj.hit trivial ?_
  ·rw [fy,hMt,fG];exact (List.take_left' rfl).symm
  ·exact bw.ends (Ends.au (by simp only [AV.al,Bc]) rfl)
 have d1:decide ((i:Int)<((l.length-K0:Nat):Int))=true:=ah (by omega)
 have d2:decide (0<=(i:Int)/\(i:Int)<((l.length-K0:Nat):Int))=true:=ah (by omega)
 have d3:decide (0<=(i:Int)-1/\(i:Int)-1<((l.length-K0:Nat):Int))=true:=ah (by omega)
 have v1:IntKind.i64.wrap ((i:Int)-1)=(i:Int)-1:=bS (by omega) (by omega)
 have v2:IntKind.i64.wrap ((i:Int)+1)=((i+1:Nat):Int):=by rw [bS (by omega) (by omega)];omega
 have v3:IntKind.i64.wrap (((nn l (K0+i)).length:Int)+1)=(((nn l (K0+i)).length+1:Nat):Int):=by rw [bS (by omega) (by omega)];omega
 have v4:((i:Int)-1).toNat=i-1:=by omega
 obtain ⟨a,ha⟩: ∃a,l[K0+i]? =some a:=⟨_,aY (by omega)⟩
 obtain ⟨b,hb⟩: ∃b,l[K0+i-1]? =some b:=⟨_,aY (by omega)⟩
 have ga:=hat M (K0+i) a (by rw [i6 _ (by omega)];exact ha)
 have gb:=hat M (K0+(i-1)) b (by rw [i6 _ (by omega),show K0+(i-1)=K0+i-1 by omega];exact hb)
 rw [dF] at ga gb;have hab:=Q5 a b;have a2:=g2 a;have b2:=g2 b;have hds2:=Qk ha hb (by omega)
 by_cases hae:a=b
 ·rw [ah hae] at hab;rw [aM hae.symm] at hds2;have e1:K0+(i+1)=K0+i+1:=rfl;have hMB:=Bc 1 M;have hok:1<=i+1/\K0+(i+1)<=l.length/\M.length=l.length/\(nn l (K0+(i+1))).length+1<=K0+(i+1)/\M.take (nn l (K0+(i+1))).length=nn l (K0+(i+1))/\ ∀q,K0+(i+1)<=q+1->M[q]? =l[q]? :=by
   rw [e1,hds2];exact ⟨by omega,by omega,i3,by omega,i5,fun q hq=>i6 q (by omega)⟩
  generalize hMM:rows gp M=MM at*;generalize gp a=GA at*;generalize gp b=GB at*;simp only [go_sem,d1,d2,d3,v1,v2,v4,ga,gb,hab,a2,b2,AV.al,aG,hMB,simprocAttr];subst hMM;exact ⟨(i+1,M),⟨hok,by dsimp only;omega⟩,⟨by dsimp only;rw [e1,hds2],rfl⟩,rfl,hMB⟩
 ·rw [cN hae] at hab;rw [aN (fun h=>hae h.symm)] at hds2;have e1:K0+(i+1)=K0+i+1:=rfl;have hp2:(nn l (K0+i)).length<M.length:=by omega
  have sp:=adU M (nn l (K0+i)).length a hp2;have p2:decide (0<=((nn l (K0+i)).length:Int)/\((nn l (K0+i)).length:Int)<(l.length:Int))=true:=ah (by omega)
  have hMl:(rows gp M).length=M.length*2:=aT ia;have le1:decide ((nn l (K0+i)).length*2+2<=(rows gp M).length)=true:=ah (by omega)
  have ao:aX (gp a)=true:=rfl;have hMB:=Bc 1 (M.set (nn l (K0+i)).length a);have hok:1<=i+1/\K0+(i+1)<=l.length/\(M.set (nn l (K0+i)).length a).length=l.length/\(nn l (K0+(i+1))).length+1<=K0+(i+1)/\(M.set (nn l (K0+i)).length a).take (nn l (K0+(i+1))).length=nn l (K0+(i+1))/\ ∀q,K0+(i+1)<=q+1->(M.set (nn l (K0+i)).length a)[q]? =l[q]? :=by
   rw [e1,hds2,dN,nG];refine ⟨by omega,by omega,by rw [List.length_set];exact i3,by omega,?_,fun q hq=> ?_⟩
   ·rw [jz,List.take_set_of_le (bx _),i5,List.getElem?_set_self hp2];rfl
   ·rw [List.getElem?_set_ne (by omega)];exact i6 q (by omega)
  have hL2:(nn l (K0+(i+1))).length=(nn l (K0+i)).length+1:=by rw [e1,hds2,dN,nG]
  generalize hMM:rows gp M=MM at*;generalize hMN:rows gp (M.set (nn l (K0+i)).length a)=MN at*;generalize gp a=GA at*;generalize gp b=GB at*;simp only [go_sem,d1,d2,d3,v1,v2,v3,v4,ga,gb,hab,a2,b2,p2,le1,ao,sp,AV.al,aG,hMB,lR,simprocAttr];subst hMN;exact ⟨(i+1,M.set (nn l (K0+i)).length a),⟨hok,by dsimp only;omega⟩,⟨by dsimp only;rw [hL2],rfl⟩,rfl,hMB⟩
def Gq (t:Tp):Option (Int×Int):=if (gj t.sw).2=0 then some (t.sh,(gj t.sw).1) else none
def Kz (tp:List Tp) (k:Nat):List (Int×Int):=(tp.take k).filterMap Gq
def neL (tp:List Tp):List (Int×Int):=kO (kj (tp.filterMap Gq))
theorem afD {tp:List Tp} {k:Nat} {t:Tp} (h:tp[k]? =some t):Kz tp (k+1)=match Gq t with|some x=>Kz tp k++[x]|none=>Kz tp k:=by
 unfold Kz;rw [jz,h,Bs,List.filterMap_append,List.filterMap_cons,List.filterMap_nil];cases Gq t<;>simp
theorem Mc (r:Rm) (hl:r.tp.length<=36) (hok: ∀t∈r.tp,t.sw.l.length<=3) {K:cF} {e:Env} {h:Hp} {n:Nat}
 (he:na 1 [] e [(3,.ns),(14,.fz (rows Tp.l r.tp) r.tp.length),(15,.i .i64 (r.tp.length:Int)),(16,.i .i64 0)]) (hh:iy 1 [] h [])
 (hK: ∀e',cV e' 3=some ((gQ gp 2 (r.tp.filterMap Gq)).v 0)->K (.exit 0) e' ((gQ gp 2 (r.tp.filterMap Gq)).h 0) 1):
 Ab.Loop av [17,27] 40 0 Et K e h n:=by
 have hsB: ∀j,ae j (rows Tp.l r.tp)=true:=fun j=>ff j r.tp;have hsR: ∀g,aL g (rows Tp.l r.tp)=rows Tp.l r.tp:=fun g=>je g r.tp;have hSat: ∀(k:Nat) x,r.tp[k]? =some x->List.take 22 (List.drop (k*22) (rows Tp.l r.tp))=x.l:=fun k x hk=>eo Tp.len hk;have hfin:Kz r.tp r.tp.length=r.tp.filterMap Gq:=by rw [Kz,fU]
 have hKl: ∀k,(Kz r.tp k).length<=k:=fun k=>by
  unfold Kz;have:=List.length_filterMap_le Gq (r.tp.take k);rw [gO] at this;omega
 rw [<-hfin] at hK;have hN0:Kz r.tp 0=[]:=rfl;have hNs:=fun k t h=>afD (tp:=r.tp) (k:=k) (t:=t) h;generalize Kz r.tp=N at*;refine Loop.uE (F:=⟨av,bZ [(105,DT)],[17,27],40,0⟩) (Sound.cons arc Sound.nil) mo (X:=Nat) (fun k=>k<=r.tp.length) (fun k=>r.tp.length-k)
  (fun k=>[(3,(gQ gp 2 (N k)).v 0),(14,.fz (rows Tp.l r.tp) r.tp.length),(15,.i .i64 (r.tp.length:Int)),(16,.i .i64 (k:Int))])
  (fun k=>(gQ gp 2 (N k)).h 0++[]) 1 0 (fun k=>k+1) [] (fun k=>if (N (k+1)).length=(N k).length then [] else [(0,3)]) (eB _) rfl (fun k=>by split<;>rfl) (eB _) ?_ ?_ (fun k hk=> ?_)
 ·rw [hN0,tA];exact he
 ·rw [hN0,tA];exact hh
 by_cases hlt:k<r.tp.length
 rotate_left
 ·have c1:decide ((k:Int)<(r.tp.length:Int))=false:=cN (by omega)
  obtain rfl:k=r.tp.length:=by omega
  simp only [go_sem,c1,cM,simprocAttr];exact hK _ rfl
 have c1:decide ((k:Int)<(r.tp.length:Int))=true:=ah (by omega)
 have c2:decide (0<=(k:Int)/\(k:Int)<(r.tp.length:Int))=true:=ah (by omega)
 have hw:IntKind.i64.wrap ((k:Int)+1)=((k+1:Nat):Int):=by rw [bS (by omega) (by omega)];omega
 obtain ⟨t,ht⟩: ∃t,r.tp[k]? =some t:=⟨_,aY hlt⟩;have hr:=hSat k t ht;have hsk:r.tp.length-(k+1)<r.tp.length-k:=by omega
 have hsl:=hok t (bR ht);have t22:t.l.length=22:=rfl;have tq:aX t.l=true:=rfl;have td:List.take 22 (List.drop 0 t.l)=t.l:=rfl;have t18:List.take 18 (List.drop 4 t.l)=t.sw.a:=rfl;have G4:t.sw.a.length=18:=rfl;have t1:t.l[1]? =some (.i .i64 t.sh):=rfl;have hk5: ∀(h:Hp) n,DT [.agg t.sw.a] h n=some (true,{v:= .bg [.i .i64 (gj t.sw).1,.i .i64 (gj t.sw).2],n}):=fun h n=>by
  simp only [DT,lQ,aS,ah (show t.sw.l.length<=9223372036854775807 by omega)]
 have pk:=Hh (N k);have zR:(rows gp (N k)).length=(N k).length*2:=aT ia;have hn1:=hNs k t ht;have hkl:=hKl k;by_cases he0:(gj t.sw).2=0
 ·have e1:Gq t=some (t.sh,(gj t.sw).1):=aM he0;rw [e1] at hn1;dsimp only at hn1;rw [he0] at hk5;have hne: ¬(N (k+1)).length=(N k).length:=by rw [hn1,dN,nG];omega
  have pk':=Hh (N k++[(t.sh,(gj t.sw).1)]);rw [aN hne,hn1];rw [rp] at pk' ⊢;have gm:decide (16*((N k).length+1)<=aE)=true:=ah (by simp only [aE];omega)
  have eOg:gp (t.sh,(gj t.sw).1)=[.i .i64 t.sh,.i .i64 (gj t.sw).1]:=rfl;simp only [eOg] at pk' ⊢;generalize (gj t.sw).1=N1 at*;generalize N k=Q at*;generalize t.sw.a=SA at*;generalize t.l=TL at*;generalize rows Tp.l r.tp=T at*;generalize DT=q5 at*;simp only [go_sem,c1,c2,hw,hr,hsk,hlt,t22,tq,td,t18,G4,t1,hk5,gm,zR,pk,pk',AV.aH,aL,AV.al,ae,aG,aW.aH,hsB,hsR,simprocAttr];exact hlt
 ·have e1:Gq t=none:=aN he0;rw [e1] at hn1;dsimp only at hn1;have h0:((gj t.sw).2==0)=false:=by simpa using he0
  rw [hn1,aM rfl];generalize (gj t.sw).1=N1 at*;generalize (gj t.sw).2=N2 at*;generalize N k=Q at*;generalize t.sw.a=SA at*;generalize t.l=TL at*;generalize rows Tp.l r.tp=T at*;generalize DT=q5 at*;simp only [go_sem,c1,c2,hw,hr,hsk,hlt,t22,tq,td,t18,G4,hk5,h0,zR,pk,AV.aH,aL,AV.al,ae,aG,aW.aH,hsB,hsR,simprocAttr];exact hlt
def DR (r:Rm):Int:=if bC r then 0 else 420
def Ky (r:Rm):List (Int×Int):=if DR r=0 then neL r.tp else []
theorem agt (r:Rm) (hr:r.is=true) (he:DR r≠0):cL av 104 [.fp r.a 0] [] 0 (some (eD (DR r))) (.bg []) [] 0:=by
 have hg:bC r=false:=by
  cases hg:bC r
  ·rfl
  ·simp only [DR,hg,cu] at he;exact absurd rfl he
 have e:DR r=420:=by simp only [DR,hg];rfl
 rw [e];have a3:r.a.length=3:=rfl;have ad:List.take 3 (List.drop 0 r.a)=r.a:=rfl;have hk:=Aq hr hg;have hcx:Sound av (bZ [(85,fh false false false)]):=Sound.cons (DP false false false) Sound.nil;generalize fh false false false=kb at*;generalize r.a=ra at*;refine cL.dQ hcx mo Tryz.func104 zS (by simp [i104]) (aQ ?_)
 dsimp only [i104];simp only [go_sem,hk,a3,ad,simprocAttr];exact Ends.au rfl rfl
theorem aqB (r:Rm) (hr:r.is=true) (hg:bC r=true):bt av 104 [.fp r.a 0] [] 0 (.fz (rows gp (neL r.tp)) (neL r.tp).length) [] 0:=by
 have hl:=fk hg;have hfin:= @Mc r hl.2.2.1 hl.2.2.2.2;have hk:=rY hr hg;have a3:r.a.length=3:=rfl;have ad:List.take 3 (List.drop 0 r.a)=r.a:=rfl;have g2:r.a[2]? =some (.fz (rows Tp.l r.tp) r.tp.length):=rfl;have tB:=ff 1 r.tp;have tR:=je (rn []) r.tp;have hlen:=List.length_filterMap_le Gq r.tp;have eN:neL r.tp=kO (kj (r.tp.filterMap Gq)):=rfl;rw [eN];generalize r.tp.filterMap Gq=l at*;cases l with
 |nil=>
  have e0:kO (kj [])=[]:=by simp [kj,kO,nn]
  rw [e0];have hs1:=dv (P:=av) (by kernel_rfl) rfl rfl akN
  have hs2:=dv (P:=av) (by kernel_rfl) rfl rfl ajx
  have h1:=fun h n=>gl (a0:=[.ns,.fn 107 []]) (v0:= .bg []) h n;have h2:=fun h n=>gl (a0:=[.ns]) (v0:= .fz [] 0) h n;have hcx:Sound av (bZ [(85,lL),(106,kP [.ns,.fn 107 []] (.bg [])),(110,kP [.ns] (.fz [] 0))]):=Sound.cons Dd (Sound.cons hs1 (Sound.cons hs2 Sound.nil));generalize kP [.ns,.fn 107 []] _=q1 at*;generalize kP [.ns] _=q2 at*;generalize lL=kb at*;generalize r.a=ra at*;refine dT hcx Tryz.func104 zS ?_
  dsimp only [i104];simp only [go_sem,hk,a3,ad,g2,simprocAttr];refine hfin ?_ ?_ (fun e' he5=> ?_)
  ·simp only [go_sem,AV.aH,aL,AV.al,ae,aG,tB,tR,simprocAttr]
  ·trivial
  rw [tA] at he5 ⊢;dsimp only [Go.Ab.Sh.v,Go.Ab.Sh.h] at he5 ⊢;simp only [go_sem,he5,h1,h2,simprocAttr];exact Ends.au rfl rfl
 |cons x l=>
  have lp:0<(x::l).length:=Nat.succ_pos _;have eG:=tx (f:=gp) (z:=2) (l:=x::l) lp;have ll:(kj (x::l)).length=(x::l).length:=(xZ _).length_eq;have hs1:=bY (P:=av) (R:=[0]) (ks:=[{cells:=rows gp (x::l),gr:=some 2}]) (by kernel_rfl) (by decide) rfl (atB (x::l) (by omega) lp) (by decide) (by simp [ko,dS,ab,dy,Bc,aG,cj])
  have w2:=aup (kj (x::l)) (by omega) (by omega)
  rw [ll] at w2;have hs2:=bY (P:=av) (R:=[0]) (ks:=[{cells:=rows gp (kj (x::l)),gr:=some 2}]) (by kernel_rfl) (by decide) rfl w2 (by decide) (by simp [ko])
  have h1: ∀(h:Hp) n,ab h 0=some {cells:=rows gp (x::l),gr:=some 2}->kH [0] [{cells:=rows gp (x::l),gr:=some 2}] [.sg 0 0 (x::l).length,.fn 107 []] (.bg []) [(0,{cells:=rows gp (kj (x::l)),gr:=some 2})] 1 none [.sg 0 0 (x::l).length,.fn 107 []] h n=some (true,{v:= .bg [],n,rd:=[0],md:=[(0,some {cells:=rows gp (kj (x::l)),gr:=some 2})]}):=fun h n h0=>by
   refine dt (h:=h) (n:=n) rfl ⟨⟨?_,Bc _ _⟩,trivial⟩ ?_
   ·rw [h0];simp [aW.aH,gpR]
   ·simp [lK,fE,aW.aH,aL,AV.aH,ix,nth,ab,gpR,aG,cj]
  have h2: ∀(h:Hp) n,ab h 0=some {cells:=rows gp (kj (x::l)),gr:=some 2}->kH [0] [{cells:=rows gp (kj (x::l)),gr:=some 2}] [.sg 0 0 (x::l).length] (.fz (rows gp (kO (kj (x::l)))) (kO (kj (x::l))).length) [] 1 none [.sg 0 0 (x::l).length] h n=some (true,{v:= .fz (rows gp (kO (kj (x::l)))) (kO (kj (x::l))).length,n,rd:=[0],md:=[(0,none)]}):=fun h n h0=>by
   refine dt (h:=h) (n:=n) rfl ⟨⟨?_,Bc _ _⟩,trivial⟩ ?_
   ·rw [h0];simp [aW.aH,gpR]
   ·simp [lK,fE,aW.aH,aL,AV.aH,ix,nth,ab,gpR,aG,cj]
  have hcx:Sound av (bZ [(85,lL),(106,kH _ [{cells:=rows gp (x::l),gr:=some 2}] _ (.bg []) _ _ _),(110,kH _ [{cells:=rows gp (kj (x::l)),gr:=some 2}] _ _ [] _ _)]):=Sound.cons Dd (Sound.cons hs1 (Sound.cons hs2 Sound.nil));generalize kH [0] [{cells:=rows gp (x::l),gr:=some 2}] _ (.bg []) _ _ _=q1 at*;generalize kH [0] [{cells:=rows gp (kj (x::l)),gr:=some 2}] _ _ [] _ _=q2 at*;rw [eG] at hfin;have dB:=Bc 0 (kO (kj (x::l)));generalize kO (kj (x::l))=D at*;generalize kj (x::l)=S at*;generalize (x::l)=l at*;generalize lL=kb at*;generalize r.a=ra at*;refine dT hcx Tryz.func104 zS ?_
  dsimp only [i104];simp only [go_sem,hk,a3,ad,g2,simprocAttr];refine hfin ?_ ?_ (fun e' he5=> ?_)
  ·simp only [go_sem,AV.aH,aL,AV.al,ae,aG,tB,tR,simprocAttr]
  ·trivial
  dsimp only [Go.Ab.Sh.v,Go.Ab.Sh.h] at he5 ⊢;simp only [go_sem,he5,h1,h2,simprocAttr];exact Ends.au (by simp only [AV.al,dB]) rfl
theorem akk {kx:Ct} (hx:aq av 104 kx) (caps:List AV) (hcaps:ae 0 caps=true) (L:List AV) (m:Nat) (hL:ae 0 L=true) (e:Int) (hz:e≠0->L=[]/\m=0)
 (hv:e=0-> ∀(h:Hp) n,kx caps h n=some (true,{v:= .fz L m,n}))
 (hp:e≠0-> ∀(h:Hp) n,kx caps h n=some (true,{v:= .bg [],n,pn:=some (eD e)})):bt av 103 [.fn 104 caps] [] 0 (.bg [.fz L m,.i .i64 e]) [] 0:=by
 have hcx:Sound av (bZ [(104,kx)]):=Sound.cons hx Sound.nil;have hcb: ∀j,ae j caps=true:=fun j=>aD _ hcaps;refine cL.nU (pn:=none) z7.F2 hcx mo Tryz.func103 K6 (by simp [i103]) (pre:=Je) (ops:=[oo 4 (.Co 170 [.t 2,.t 3])]) rfl (by kernel_rfl) Tryz.func170 L4 rfl ?_
 dsimp only [i103];simp only [go_sem,tu,simprocAttr];refine jl (caps:=[.p 0 0,.p 1 0]) (bs:=[0,1]) rfl rfl (by decide) (fun Gs h1 h2=> ?_)
 obtain ⟨g0,g1,rfl⟩: ∃a b,Gs=[a,b]:=by
  match Gs,h1 with
  |[a,b],_=>exact ⟨a,b,rfl⟩
 refine ⟨by simp [i170],?_⟩
 have hne:g0≠g1:=by simpa using h2
 have hgl0:=fun a b=>(Nb hne a b).1;have hgl1:=fun a b=>(Nb hne a b).2;dsimp only [nd,ab] at*;by_cases he:e=0
 ·subst he;have hk:=hv rfl;simp only [go_sem,hk,ig,hgl0,hgl1,simprocAttr];dsimp only [i170,eD];simp only [go_sem,simprocAttr];exact bw.ends (Ends.au (by simp only [AV.al,ae,hL,az]) rfl)
 ·have hk:=hp he;obtain ⟨rfl,rfl⟩:=hz he;simp only [go_sem,hk,ig,hgl0,hgl1,simprocAttr];dsimp only [i170,eD];simp only [go_sem,fN,GN,simprocAttr];refine bw.xe (l:=[]) (v':= .bg [.fz [] 0,.i .i64 e]) (dj.bg ⟨dj.hit,dj.refl,trivial⟩) ?_;exact bw.ends (Ends.au rfl rfl)
def tZ (l:List (Int×Int)) (e:Int):AV:= .bg [.fz (rows gp l) l.length,.i .i64 e]
theorem sL (l:List (Int×Int)) (e:Int):(tZ l e).al 0=true:=by simp only [tZ,AV.al,ae,Bc,az]
theorem w28 (r:Rm) (hr:r.is=true):bt av 28 [.agg r.a] [] 0 (tZ (Ky r) (DR r)) [] 0:=by
 have hrb:=Rm.al 0 r;have hcb:ae 0 [AV.fp r.a 0]=true:=by simp only [ae,AV.al,hrb,az]
 have hw:bt av 103 [.fn 104 [.fp r.a 0]] [] 0 (tZ (Ky r) (DR r)) [] 0:=by
  by_cases he:DR r=0
  ·have hg:bC r=true:=by
    cases hg:bC r
    ·simp only [DR,hg] at he;cases he
    ·rfl
   have e:Ky r=neL r.tp:=aM he;rw [e];exact akk (iP (pn:=none) (by kernel_rfl) hcb (by simp only [AV.al,Bc]) (aqB r hr hg)) _ hcb _ _ (Bc 0 _) _ (fun h=>absurd he h) (fun _ h n=>ru h n) (fun h=>absurd he h)
  ·have e:Ky r=[]:=aN he;rw [e];exact akk (iP (by kernel_rfl) hcb rfl (agt r hr he)) _ hcb [] 0 rfl _ (fun _=>⟨rfl,rfl⟩) (fun h=>absurd h he) (fun _ h n=>ru h n)
 have hst:=dv (by kernel_rfl) (by simp only [ae,AV.al,hrb,az]) (sL (Ky r) (DR r)) hw
 have hat:=fun h n=>gl (a0:=[.fn 104 [.fp r.a 0]]) (v0:=tZ (Ky r) (DR r)) h n;generalize kP _ _=kT at hst hat;have hv:=fun h f=>jQ h f r;have hb:=sL (Ky r) (DR r);have hk: ∀(h:Hp) n,ab h 0=some {cells:=r.a}->ew kT [.fn 104 [.p 0 0]] h n=some (true,{v:=tZ (Ky r) (DR r),n,rd:=[0],md:=[(0,none)]}):=fun h n h1=>by
  simp only [ew,bn,bQ,iE,iL,jf,hv,h1,aS,dV,hat,hb,ee,List.nil_append,cM];simp [bX.plain,vO,h1,jM,cj]
 have hcx:Sound av (bZ [(103,ew kT)]):=Sound.cons hst.ng Sound.nil;have a3:r.a.length=3:=rfl;have ao:aX r.a=true:=rfl;have gB:=Bc 0 (Ky r);simp only [tZ] at*;generalize r.a=ra at*;refine dT hcx Tryz.func28 Wq ?_
 dsimp only [i28];simp only [go_sem,hk,a3,ao,simprocAttr];exact Ends.au (by simp only [AV.al,ae,gB,az]) rfl
def k28:Ct
 |[.agg c],_,n=>(qy c).bind fun r=>some (r.is,{v:=tZ (Ky r) (DR r),n})
 |_,_,_=>none
theorem s28:aq av 28 k28:=fun args h n c E hc ht=>by
 unfold k28 at hc;split at hc
 ·simp only [af,aP,bq] at hc;obtain ⟨r,hr,rfl,rfl⟩:=hc;rw [eh hr];exact ax.pure (by kernel_rfl) (by simp only [ae,AV.al,Rm.al,az]) (sL _ _) (w28 r ht) _ _
 ·cases hc
/-! name -/
/-! blocked -/
/-! same -/
theorem w87 (a b:List Int) (ha:a.length<=9223372036854775807):bt av 87 [.fz (rows aC a) a.length,.fz (rows aC b) b.length] [] 0 (.b (decide (a=b))) [] 0:=by
 have iA:=fun (i:Nat) x (h:a[i]? =some x)=>zL h;have iB':=fun (i:Nat) x (h:b[i]? =some x)=>zL h;have bA:=fun j=>iB j a;have bB:=fun j=>iB j b;refine dT (cx:=bZ []) Sound.nil Tryz.func87 Wl ?_
 dsimp only [i87];by_cases hl:a.length=b.length
 rotate_left
 ·have d:((a.length:Int) !=(b.length:Int))=true:=by simp;omega
  rw [cN (fun h=>hl (by rw [h]))]
  generalize rows aC a=A at*;generalize rows aC b=B at*;simp only [go_sem,d,simprocAttr];exact Ends.au rfl rfl
 have d:((a.length:Int) !=(b.length:Int))=false:=by simp;omega
 generalize rows aC a=A at*;generalize rows aC b=B at*;simp only [go_sem,d,simprocAttr];refine Loop.fj (F:=⟨av,bZ [],[10,14,25],26,0⟩) Sound.nil mo a.length (fun k=> ∀i,i<k->a[i]? =b[i]?) (fun k=>[(0,.fz A a.length),(1,.fz B b.length),(5,.i .i64 (k:Int))]) (fun k=>[]) 0 (eB _) (fun i hi=>absurd hi (by omega)) ?_ ?_ (fun k hk hok=> ?_)
 ·simp only [go_sem,AV.al,bA,bB,simprocAttr]
 ·simp only [go_sem,simprocAttr]
 by_cases hlt:k<a.length
 ·have c1:decide ((k:Int)<(a.length:Int))=true:=ah (by omega)
  have c2:decide (0<=(k:Int)/\(k:Int)<(a.length:Int))=true:=ah (by omega)
  have c3:decide (0<=(k:Int)/\(k:Int)<(b.length:Int))=true:=ah (by omega)
  have hw:IntKind.i64.wrap ((k:Int)+1)=((k+1:Nat):Int):=by rw [bS (by omega) (by omega)];omega
  obtain ⟨x,hx⟩: ∃x,a[k]? =some x:=⟨_,aY hlt⟩;obtain ⟨y,hy⟩: ∃y,b[k]? =some y:=⟨_,aY (by omega)⟩
  have gx:=iA k x hx;have gy:=iB' k y hy;by_cases hxy:x=y
  ·have c4:(x !=y)=false:=by simpa using hxy
   simp only [go_sem,c1,c2,c3,hw,gx,gy,c4,AV.al,bA,bB,dr,dK,simprocAttr];refine ⟨hlt,fun i hi=> ?_⟩;rcases A5.1 hi with h|rfl
   ·exact hok i h
   ·rw [hx,hy,hxy]
  ·have c4:(x !=y)=true:=by simpa using hxy
   rw [cN (fun h=>hxy (by rw [h,hy] at hx;cases hx;rfl))]
   simp only [go_sem,c1,c2,c3,gx,gy,c4,dK,simprocAttr];exact Ends.au rfl rfl
 ·have c1:decide ((k:Int)<(a.length:Int))=false:=cN (by omega)
  obtain rfl:k=a.length:=by omega
  have he:a=b:=lH fun i=>by
   by_cases hi:i<a.length
   ·exact hok i hi
   ·rw [fM (by omega),fM (by omega)]
  rw [ah he];simp only [go_sem,c1,simprocAttr];exact Ends.au rfl rfl
def N3:Ct
 |[.fz A m,.fz B n],_,N=>(bk 1 dJ m A).bind fun a=>(bk 1 dJ n B).bind fun b=>some (decide (m<=9223372036854775807),{v:= .b (decide (a=b)),n:=N})
 |_,_,_=>none
theorem s87:aq av 87 N3:=fun args h n c E hc ht=>by
 unfold N3 at hc;split at hc
 ·simp only [af,aP,bq] at hc;obtain ⟨a,h1,b,h2,rfl,rfl⟩:=hc;obtain ⟨rfl,rfl⟩:=bD dx h1;obtain ⟨rfl,rfl⟩:=bD dx h2;exact ax.pure (by kernel_rfl) (by simp only [ae,AV.al,iB,az]) rfl (w87 a b (bO ht)) _ _
 ·cases hc
/-! twice -/
abbrev ae2:=[cI 0]
abbrev agX:=[Dj 47 18,aa 46 47,bh 48 46 0,bh 49 46 1,dk 1,aZ 3 1 48,aa 2 49]
abbrev alF:=[bI 51 3 1,wE 52 14 51 1 0 2 1 1 3000,aa 50 52,bh 53 50 0,bh 54 50 1,aZ 3 1 53,aa 3 54]
abbrev aoU:=[bI 55 3 1,rH 56 0 1 0 1 (-1),DZ 57 26 55 1 56,aa 4 57]
abbrev alV:=[bI 59 3 1,nF 60 16 59 1 299,aa 58 60,bh 61 58 0,bh 62 58 1,dk 5,aZ 3 5 61,aa 6 62]
abbrev ajP:=[bI 64 3 1,nF 65 16 64 1 300,aa 63 65,bh 66 63 0,bh 67 63 1,dk 7,aZ 3 7 66,aa 8 67]
abbrev aiu:=[bI 69 3 7,du 70 28 69,aa 68 70,bh 71 68 0,bh 72 68 1,aa 9 71,aa 10 72]
abbrev agR:=[bI 74 3 1,wE 75 14 74 2 0 1 0 2 1,aa 73 75,bh 76 73 0,bh 77 73 1,dk 11,aZ 3 11 76,aa 12 77]
abbrev akV:=[bI 79 3 1,wE 80 14 79 0 0 1 0 2 1,aa 78 80,bh 81 78 0,bh 82 78 1,dk 13,aZ 3 13 81,aa 14 82]
abbrev ahD:List (aj×List Nat):=[(bI 84 3 7,[]),(Dw 85 27 20,[0]),(cK 86 13 84 85,[]),(aa 83 86,[]),(bh 87 83 0,[]),(bh 88 83 1,[4]),(bh 89 83 2,[4,5]),(dk 15,[0,1,2,3,4,5,6]),(aZ 3 15 87,[5,6]),(aa 16 88,[6]),(aa 17 89,[])]
abbrev S0:List (aj×List Nat):=[(bI 91 3 7,[]),(Dw 92 27 10,[0]),(cK 93 13 91 92,[]),(aa 90 93,[]),(bh 94 90 0,[]),(bh 95 90 1,[4]),(bh 96 90 2,[4,5]),(dk 18,[0,1,2,3,4,5,6]),(aZ 3 18 94,[5,6]),(aa 19 95,[6]),(aa 20 96,[])]
abbrev TI:=[bI 98 3 1,oo 99 (.call (.c (.fn 24 [])) [.t 98,.c (.s [65,110,110])]),aa 97 99,bh 100 97 0,bh 101 97 1,bh 102 97 2,dk 21,aZ 3 21 100,aa 22 101,aa 23 102]
abbrev aes:=[bI 104 3 1,oo 105 (.call (.c (.fn 24 [])) [.t 104,.c (.s [97,110,110])]),aa 103 105,bh 106 103 0,bh 107 103 1,bh 108 103 2,dk 24,aZ 3 24 106,aa 25 107,aa 26 108]
abbrev acm:=[bI 110 3 1,yH 111 0 0 2 0 1 1 1 1 2,yH 112 0 0 2 0 1 5 1 1 5,wc 113 23 110 0 111 112 0,aa 109 113,bh 114 109 0,bh 115 109 1,bh 116 109 2,dk 27,aZ 3 27 114,aa 28 115,aa 29 116]
abbrev adm:=[bI 118 3 1,oo 119 (.call (.c (.fn 24 [])) [.t 118,.c (.s [99,97,114,108])]),aa 117 119,bh 120 117 0,bh 121 117 1,bh 122 117 2,dk 30,aZ 3 30 120,aa 31 121,aa 32 122]
abbrev S7:=[bI 124 3 30,aa 125 31,yH 126 0 0 2 0 1 40 1 1 41,yH 127 0 0 2 0 1 60 1 1 90,oo 128 (.call (.c (.fn 23 [])) [.t 124,.t 125,.t 126,.t 127,.c (.i .u64 0)]),aa 123 128,bh 129 123 0,bh 130 123 1,bh 131 123 2,aZ 3 30 129,aa 33 130,aa 34 131]
abbrev SN:=[bI 133 3 30,wE 134 14 133 2 1 1 0 3 1,aa 132 134,bh 135 132 0,bh 136 132 1,aZ 3 30 135,aa 35 136]
abbrev Wv:=[bI 138 3 30,aa 139 33,oo 140 (.call (.c (.fn 14 [])) [.t 138,.c (.i .i64 2),.t 139,.c (.i .i64 1),.c (.i .i64 1),.c (.i .i64 4),.c (.i .i64 1)]),aa 137 140,bh 141 137 0,bh 142 137 1,aZ 3 30 141,aa 36 142]
abbrev XZ:=[bI 144 3 30,nF 145 16 144 2 140,aa 143 145,bh 146 143 0,bh 147 143 1,dk 37,aZ 3 37 146,aa 38 147]
abbrev Vd:=[bI 149 3 30,nF 150 16 149 2 110,aa 148 150,bh 151 148 0,bh 152 148 1,dk 39,aZ 3 39 151,aa 40 152]
abbrev acT:=[bI 154 3 30,nF 155 16 154 2 55,aa 153 155,bh 156 153 0,bh 157 153 1,dk 41,aZ 3 41 156,aa 42 157]
abbrev abz:=[aa 158 2,aO 159 158,bb 160 3 159,cq 161 160 0 159,bF 162 159 161,aO 163 162,bb 164 6 163,cq 165 164 0 163,bF 166 163 165,aO 167 166,bb 168 8 167,cq 169 168 0 167,bF 170 167 169,aO 171 170,bb 172 10 171,cq 173 172 0 171,bF 174 171 173,aO 175 174,bb 176 17 175,cq 177 176 0 175,bF 178 175 177,aO 179 178,bb 180 20 179,cq 181 180 0 179,bF 182 179 181,aO 183 182,bb 184 32 183,cq 185 184 0 183,bF 186 183 185,aO 187 186,bb 188 34 187,cq 189 188 0 187,bF 190 187 189,aO 191 190,bb 192 35 191,cq 193 192 0 191,bF 194 191 193,aO 195 194,bb 196 36 195,cq 197 196 0 195,bF 198 195 197,aO 199 198,bb 200 38 199,cq 201 200 0 199,bF 202 199 201,aO 203 202,bb 204 40 203,cq 205 204 0 203,bF 206 203 205,aO 207 206,bb 208 42 207,cq 209 208 0 207,bF 210 207 209,aa 43 210]
abbrev Y9:=[aa 211 4,aO 212 211,fY 213 3 5 212,kE 214 0 1 0 1 0 212,wz 215 26 213 1 214 212,bF 216 212 215,aO 217 216,fY 218 3 7 217,kE 219 0 1 0 1 1 217,wz 220 26 218 1 219 217,bF 221 217 220,aO 222 221,bb 223 9 222,rS 224 223 222,cq 225 224 1 222,bF 226 222 225,aO 227 226,bb 228 9 227,Ao 229 2 228 0 227,fY 230 2 229 227,og 231 (.build [.i .i64 0,.i .i64 0] [(1,1,.c (.i .i64 1))]) 227 true false,og 232 (.ye false true [.i,.i] (.t 230) (.t 231)) 227 true false,bF 233 227 232,aO 234 233,fY 235 3 37 234,og 236 (.lC [.i .i64 0,.i .i64 0] 2 [(0,1,.c (.i .i64 0)),(1,1,.c (.i .i64 1))]) 234 true false,wz 237 26 235 2 236 234,bF 238 234 237,aO 239 238,fY 240 3 39 239,og 241 (.lC [.i .i64 0,.i .i64 0] 2 [(0,1,.c (.i .i64 (-1))),(1,1,.c (.i .i64 1))]) 239 true false,wz 242 26 240 2 241 239,bF 243 239 242,aO 244 243,fY 245 3 41 244,og 246 (.lC [.i .i64 0,.i .i64 0] 2 [(0,1,.c (.i .i64 0)),(1,1,.c (.i .i64 (-1)))]) 244 true false,wz 247 26 245 2 246 244,bF 248 244 247,aa 44 248]
abbrev abX:=[aa 249 16,cm 250 249,jZ 251 250 1,aO 252 251,bb 253 16 252,Ao 254 10 253 0 252,cr 255 0 254 252,cw 256 1 255 252,cq 257 256 1 252,bF 258 252 257,aO 259 258,bb 260 16 259,Ao 261 10 260 0 259,cr 262 1 261 259,cr 263 4 262 259,cw 264 1 263 259,cq 265 264 1 259,bF 266 259 265,aO 267 266,bb 268 16 267,Ao 269 10 268 0 267,cr 270 1 269 267,cr 271 2 270 267,cw 272 1 271 267,cq 273 272 1 267,bF 274 267 273,aO 275 274,bb 276 19 275,rS 277 276 275,cq 278 277 0 275,bF 279 275 278,aa 45 279]
abbrev abO:=[aa 280 43,aO 281 280,bb 282 44 281,bF 283 281 282,aO 284 283,bb 285 45 284,bF 286 284 285,aO 287 286,bb 288 12 287,cq 289 288 421 287,bF 290 287 289,aO 291 290,bb 292 14 291,cq 293 292 421 291,bF 294 291 293,aO 295 294,bb 296 23 295,cq 297 296 2 295,bF 298 295 297,aO 299 298,bb 300 26 299,cq 301 300 2 299,bF 302 299 301,aO 303 302,bb 304 29 303,cq 305 304 2 303,bF 306 303 305,aa 0 306]
abbrev atY:=(ay ae2 (ay agX (ay alF (ay aoU (ay alV (ay ajP (ay aiu (ay agR (ay akV (.seq (.cG ahD) (.seq (.cG S0) (ay TI (ay aes (ay acm (ay adm (ay S7 (ay SN (ay Wv (ay XZ (ay Vd (ay acT (ay abz (ay Y9 (ay abX (ay abO .ret)))))))))))))))))))))))))
def i10:dm:=⟨0,307,[],atY,[.t 0]⟩
theorem ZW:aK av Tryz.f10=some i10:=by kernel_rfl
abbrev aii:=[dk 0,cI 1]
abbrev aoz:=[dk 2]
abbrev agm:=[pY 3]
abbrev am1:=[oo 13 (.build [.s [],.s [],.s []] [(0,1,.c (.s [97,110,110])),(1,1,.c (.s [98,111,98])),(2,1,.c (.s [101,118,101]))]),bT 14 0]
abbrev ajO:=[nB 15 14 3]
abbrev ajQ:=[oo 16 (.Rg 3 1 false (.t 13) (.t 14)),aa 5 16]
abbrev akX:=[bI 18 3 2,aa 19 5,cK 20 24 18 19,aa 17 20,bh 21 17 0,bh 22 17 1,bh 23 17 2,dk 6,aZ 3 6 21,aa 7 22,aa 8 23]
abbrev aor:=[bI 24 3 6,aa 25 3,aO 26 25,bb 27 8 26,cq 28 27 0 26,bF 29 26 28,aZ 3 2 24,aa 3 29]
abbrev alp:=[dA 30 14 1,aa 14 30]
abbrev agc:=(ay ajO (.seq (.cond (.t 15) .skip (.exit 0)) (.seq (.block 1 (ay ajQ (ay akX (.cQ aor)))) (.cQ alp))))
abbrev Ve:=[bI 32 3 2,yH 33 0 0 2 0 1 10 1 1 20,yH 34 0 0 2 0 1 100 1 1 300,wc 35 23 32 0 33 34 4,aa 31 35,bh 36 31 0,bh 37 31 1,bh 38 31 2,aZ 3 2 36,aa 9 37,aa 10 38]
abbrev WJ:=[bI 40 3 2,rH 41 0 1 0 1 30,rH 42 0 1 0 1 50,wc 43 23 40 1 41 42 0,aa 39 43,bh 44 39 0,bh 45 39 1,bh 46 39 2,aZ 3 2 44,aa 11 45,aa 12 46]
abbrev XN:=[bI 47 3 2,aa 48 3,aO 49 48,bb 50 9 49,cq 51 50 0 49,bF 52 49 51,aO 53 52,bb 54 10 53,cq 55 54 0 53,bF 56 53 55,aO 57 56,bb 58 11 57,cq 59 58 1 57,bF 60 57 59,aO 61 60,bb 62 12 61,cq 63 62 0 61,bF 64 61 63,aZ 3 0 47,aa 1 64]
abbrev apO:=(ay aii (ay aoz (ay agm (.seq (ay am1 (.block 0 (.loop agc))) (ay Ve (ay WJ (ay XN .ret)))))))
def i18:dm:=⟨0,65,[15],apO,[.c 0 true 3,.t 1]⟩
theorem SF:aK av Tryz.f18=some i18:=by kernel_rfl
abbrev ans:=[cD 3 0,cI 6]
abbrev ajj:=[bI 10 3 3,aa 11 1,cK 12 20 10 11,aa 9 12,bh 13 9 0,bh 14 9 1,aa 7 13,aa 8 14]
abbrev ahp:=[aa 15 8,jZ 16 15 0,aO 17 16,bb 18 7 17,bb 19 2 17,so 20 43 18 19 17,bF 21 17 20,aa 6 21]
abbrev aqS:=(ay ans (ay ajj (ay ahp .ret)))
def i26:dm:=⟨3,22,[],aqS,[.t 6]⟩
theorem Vp:aK av Tryz.f26=some i26:=by kernel_rfl
abbrev aio:=[C9 2 0 0 0 0 0]
abbrev ags:=[oo 6 (.build aoW [(0,1,.c (.b true)),(1,1,.c (.b true)),(3,1,.c (.b true))]),du 7 102 6,aa 5 7,bh 8 5 0,bh 9 5 1,aa 3 8,aa 4 9]
abbrev aft:=[aa 10 0,aa 11 3,oo 12 (.bin .add (.t 11) (.c (.s [107]))),oo 13 (.build [.b false,.i .i64 0,.i .i64 0,.i .i64 0,.i .i64 0,.ns,.ns,.i .i64 0,.s []] [(4,1,.t 10),(8,1,.t 12)]),aZ 9 2 13]
abbrev auv:=(ay aio (ay ags (ay aft .ret)))
def i27:dm:=⟨1,14,[],auv,[.c 2 true 9]⟩
theorem Tj:aK av Tryz.f27=some i27:=by kernel_rfl
theorem Ah (a b:List Int) (ha:a.length<=9223372036854775807) (h:Hp) (n:Nat):N3 [.fz (rows aC a) a.length,.fz (rows aC b) b.length] h n=some (true,{v:= .b (decide (a=b)),n}):=by
 simp only [N3,eE,aS,ah ha]
theorem w43 (a b:List Int) (ha:a.length<=9223372036854775807):bt av 43 [.fz (rows aC a) a.length,.fz (rows aC b) b.length] [] 0 (.b (decide (a=b))) [] 0:=by
 have q:=Ah a b ha;have hcx:Sound av (bZ [(87,N3)]):=Sound.cons s87 Sound.nil;refine dT hcx Tryz.func43 TO ?_
 dsimp only [i43];generalize decide (a=b)=z at*;generalize rows aC a=A at*;generalize rows aC b=B at*;simp only [go_sem,q,simprocAttr];exact Ends.au rfl rfl
theorem s43:aq av 43 N3:=fun args h n c E hc ht=>by
 unfold N3 at hc;split at hc
 ·simp only [af,aP,bq] at hc;obtain ⟨a,h1,b,h2,rfl,rfl⟩:=hc;obtain ⟨rfl,rfl⟩:=bD dx h1;obtain ⟨rfl,rfl⟩:=bD dx h2;exact ax.pure (by kernel_rfl) (by simp only [ae,AV.al,iB,az]) rfl (w43 a b (bO ht)) _ _
 ·cases hc
/-! ints -/
def inV (r:Rm) (m:Int) (w:List Int):Bool:=lD r m==0&&decide (lB r m=w)
theorem aem (r:Rm) (hr:r.is=true) (m:Int) (h:Hp) (n:Nat):F3 [.agg r.a,.i .i64 m] h n=some (true,{v:=pP (lB r m,lD r m),n}):=by
 simp only [F3,ey,aS,hr]
theorem w26 (r:Rm) (hr:r.is=true) (m:Int) (w:List Int) (hl:(lB r m).length<=9223372036854775807):bt av 26 [.agg r.a,.i .i64 m,.fz (rows aC w) w.length] [] 0 (.b (inV r m w)) [] 0:=by
 have q:=aem r hr m;have q2:=Ah (lB r m) w hl;have b1:=fR 0 r.ms;have b2:=di 0 r.sh;have b3:=ff 0 r.tp;have hcx:Sound av (bZ [(20,F3),(43,N3)]):=Sound.cons s20 (Sound.cons s43 Sound.nil);unfold inV;simp only [pP] at q;refine dT hcx Tryz.func26 Vp ?_
 dsimp only [i26];generalize decide (lB r m=w)=z at*;generalize rows aC (lB r m)=A at*;generalize (lB r m).length=k at*;generalize rows aC w=B at*;dsimp only [Rm.a] at*;generalize rows Mb.l r.ms=ra at*;generalize rows bu.l r.sh=rb at*;generalize rows Tp.l r.tp=rc at*;cases c:lD r m==0
 ·simp only [go_sem,q,q2,c,simprocAttr];exact Ends.au rfl rfl
 ·simp only [go_sem,q,q2,c,simprocAttr];exact Ends.au rfl rfl
def Eo:Ct
 |[.agg c,.i .i64 m,.fz W k],_,n=>(qy c).bind fun r=>(bk 1 dJ k W).bind fun w=>some (r.is&&decide ((lB r m).length<=9223372036854775807),{v:= .b (inV r m w),n})
 |_,_,_=>none
theorem s26:aq av 26 Eo:=fun args h n c E hc ht=>by
 unfold Eo at hc;split at hc
 ·simp only [af,aP,bq] at hc;obtain ⟨r,hr,w,h1,rfl,rfl⟩:=hc;rw [eh hr];obtain ⟨rfl,rfl⟩:=bD dx h1;simp only [aw] at ht;exact ax.pure (by kernel_rfl) (by simp only [ae,AV.al,Rm.al,iB,az]) rfl (w26 r ht.1 _ w (bO ht.2)) _ _
 ·cases hc
/-! key -/
theorem auh (h:Hp) (n:Nat):Lg [.agg [.b true,.b true,.b false,.b true,.i .i64 0,.i .i64 0,.i .i64 0,.i .i64 0]] h n=some (true,{v:= .bg [.s [232,128,0,0,0],.i .i64 0],n}):=by kernel_rfl
theorem w27 (s:Int):bt av 27 [.i .i64 s] [] 0 (.agg [.b false,.i .i64 0,.i .i64 0,.i .i64 0,.i .i64 s,.ns,.ns,.i .i64 0,.s [232,128,0,0,0,107]]) [] 0:=by
 have hcx:Sound av (bZ [(102,Lg)]):=Sound.cons aq3 Sound.nil;refine dT hcx Tryz.func27 Tj ?_
 dsimp only [i27];simp only [go_sem,auh,simprocAttr];exact Ends.au rfl rfl
def k27:Ct
 |[.i .i64 s],_,n=>some (true,{v:= .agg [.b false,.i .i64 0,.i .i64 0,.i .i64 0,.i .i64 s,.ns,.ns,.i .i64 0,.s [232,128,0,0,0,107]],n})
 |_,_,_=>none
theorem s27:aq av 27 k27:=fun args h n c E hc ht=>by
 unfold k27 at hc;split at hc
 ·cases hc;exact ax.pure (by kernel_rfl) rfl rfl (w27 _) _ _
 ·cases hc
/-! chapter -/
def QA0:Rm:=⟨[],[],[]⟩
def QA1:Rm:=(iM QA0 [97,110,110]).1
def QA2:Rm:=(iM QA1 [98,111,98]).1
def QA3:Rm:=(iM QA2 [101,118,101]).1
def QB:Rm:=(ik QA3 ⟨0,[10,20],[100,300],4⟩).1
def QR:Rm:=(ik QB ⟨1,[30],[50],0⟩).1
abbrev Rx (q:Rm):List AV:=[.fz (rows Mb.l q.ms) q.ms.length,.fz (rows bu.l q.sh) q.sh.length,.fz (rows Tp.l q.tp) q.tp.length]
theorem auP (h:Hp) (n:Nat):ew Cu [.agg [.ns,.ns,.ns],.s [97,110,110]] h n=some (true,{v:= .bg [.agg (Rx QA1),.i .i64 0,.i .i64 0],n,rd:=[],md:=[]}):=by kernel_rfl
theorem apM (h:Hp) (n:Nat):ew Cu [.agg (Rx QA1),.s [98,111,98]] h n=some (true,{v:= .bg [.agg (Rx QA2),.i .i64 1,.i .i64 0],n,rd:=[],md:=[]}):=by kernel_rfl
theorem asM (h:Hp) (n:Nat):ew Cu [.agg (Rx QA2),.s [101,118,101]] h n=some (true,{v:= .bg [.agg (Rx QA3),.i .i64 2,.i .i64 0],n,rd:=[],md:=[]}):=by kernel_rfl
theorem rG {h:Hp} (f:Nat) (l:List Int) (b:Nat) (hl:l≠[]) (hb:ab h b=some {cells:=rows aC l}):nv h (f+1) (.sl b 0 l.length l.length)=some ([b],.fz (rows aC l) l.length):=by
 have zl:(rows aC l).length=l.length:=by rw [aT bP,dK]
 have hi:k7 (nv h f) (rows aC l)=some ([],rows aC l):=oJ (fun a=>by simp only [aC,bn,bQ,jN,aS,cM]) l
 have hp:0<l.length:=r9.2 hl;show (((ab h b).bind aW.DH).bind fun q=>(k7 (nv h f) (aA q.cells 0 (l.length*(q.cells.length/l.length)))).bind fun r=>bif decide (l.length<=l.length) then some (b::r.1,AV.fz r.2 l.length) else none)=_
 simp only [hb,aS,dV,zl,Nat.div_self hp,dK];rw [aA,fy,<-zl,fU];simp only [hi,aS,zl,pX,bx,cond_true]
theorem rX (R:Rm) (o bl:Int) (ss rt:List Int) {E:Rm} {i e:Int} (hk: ∀h n,zh [.agg R.a,.i .i64 o,.fz (rows aC ss) ss.length,.fz (rows aC rt) rt.length,.i .u64 bl] h n=some (true,{v:=tc E i e,n})) (h:Hp) (n b c:Nat) (h1:ab h b=some {cells:=rows aC ss}) (h2:ab h c=some {cells:=rows aC rt}) (hs:ss≠[]) (hr:rt≠[]):
 ew zh [.agg R.a,.i .i64 o,.sl b 0 ss.length ss.length,.sl c 0 rt.length rt.length,.i .u64 bl] h n=some (true,{v:=tc E i e,n,rd:=[b,c],md:=[(b,none),(c,none)]}):=by
 have hf:([AV.fz (rows Mb.l R.ms) R.ms.length,.fz (rows bu.l R.sh) R.sh.length,.fz (rows Tp.l R.tp) R.tp.length]:List AV)=R.a:=rfl;have hv: ∀f,k7 (nv h f) R.a=some ([],R.a):=fun f=>by
  simp only [Rm.a,bn,bQ,dz (fR 0 _),dz (di 0 _),dz (ff 0 _),aS,List.nil_append]
 have hb:=Rm.al 0 E;simp only [ew,bn,bQ,iE,jN,hv,rG 5 ss b hs h1,rG 5 rt c hr h2,aS,hk,ee,List.nil_append,cM];simp [bX.plain,vO,h1,h2,jM,cj,tc,AV.al,ae,hb]
theorem ate (h:Hp) (n b c:Nat) (h1:ab h b=some {cells:=[.i .i64 10,.i .i64 20]}) (h2:ab h c=some {cells:=[.i .i64 100,.i .i64 300]}):ew zh [.agg (Rx QA3),.i .i64 0,.sl b 0 2 2,.sl c 0 2 2,.i .u64 4] h n=some (true,{v:= .bg [.agg (Rx QB),.i .i64 0,.i .i64 0],n,rd:=[b,c],md:=[(b,none),(c,none)]}):=
 rX QA3 0 4 [10,20] [100,300] (E:=QB) (i:=0) (e:=0) (fun h n=>by kernel_rfl) h n b c h1 h2 (by simp) (by simp)
theorem aqb (h:Hp) (n b c:Nat) (h1:ab h b=some {cells:=[.i .i64 30]}) (h2:ab h c=some {cells:=[.i .i64 50]}):ew zh [.agg (Rx QB),.i .i64 1,.sl b 0 1 1,.sl c 0 1 1,.i .u64 0] h n=some (true,{v:= .bg [.agg (Rx QR),.i .i64 1,.i .i64 0],n,rd:=[b,c],md:=[(b,none),(c,none)]}):=
 rX QB 1 0 [30] [50] (E:=QR) (i:=1) (e:=0) (fun h n=>by kernel_rfl) h n b c h1 h2 (by simp) (by simp)
def Uf:List (Nat×Ct):=[(24,ew Cu),(23,ew zh)]
theorem amF:Sound av (bZ Uf):=Sound.cons s24.ng (Sound.cons s23.ng Sound.nil)
def Gr:Nat->List AV
 |0=>[.ns,.ns,.ns]
 |1=>(Rx QA1)
 |2=>(Rx QA2)
 |_=>(Rx QA3)
theorem Hd:bt av 18 [] [] 0 (.bg [.agg QR.a,.b true]) [] 0:=by
 have hMB: ∀(Q:Rm) j,ae j (rows Mb.l Q.ms)=true:=fun Q j=>fR j Q.ms;have hSB: ∀(Q:Rm) j,ae j (rows bu.l Q.sh)=true:=fun Q j=>di j Q.sh;have hTB: ∀(Q:Rm) j,ae j (rows Tp.l Q.tp)=true:=fun Q j=>ff j Q.tp;refine dT amF Tryz.func18 SF ?_
 dsimp only [i18,Uf,Rm.a];simp only [go_sem,simprocAttr];refine Loop.fj (F:=⟨av,bZ Uf,[15],65,0⟩) amF mo 3 (fun k=>True) (fun k=>[(0,.p 0 0),(1,.b false),(2,.p 1 0),(3,.b true),(13,.agg [.s [97,110,110],.s [98,111,98],.s [101,118,101]]),(14,.i .i64 (k:Int))]) (fun k=>[(0,{cells:=[.ns,.ns,.ns]}),(1,{cells:=Gr k})]) 2 (eB _) trivial ?_ ?_ (fun k hk _=> ?_)
 ·simp only [go_sem,AV.al,ae,aG,simprocAttr]
 ·simp only [go_sem,Gr,ae,AV.al,az,simprocAttr]
 rcases k with _|_|_|k
 ·dsimp only [Uf,Gr];simp only [go_sem,auP,AV.al,ae,aG,hMB,hSB,hTB,dr,simprocAttr]
 ·dsimp only [Uf,Gr];simp only [go_sem,apM,AV.al,ae,aG,hMB,hSB,hTB,dr,simprocAttr]
 ·dsimp only [Uf,Gr];simp only [go_sem,asM,AV.al,ae,aG,hMB,hSB,hTB,dr,simprocAttr]
 ·obtain rfl:k=0:=by omega
  dsimp only [Uf,Gr];simp only [go_sem,ate,aqb,simprocAttr];exact Ends.au rfl rfl
def k18:Ct
 |[],_,n=>some (true,{v:= .bg [.agg (Rx QR),.b true],n})
 |_,_,_=>none
theorem G4:aq av 18 k18:=fun args h n c E hc ht=>by
 unfold k18 at hc;split at hc
 ·cases hc;exact ax.pure (by kernel_rfl) rfl (by simp only [Rm.a,AV.al,ae,fR,di,ff,az,ie]) Hd _ _
 ·cases hc
theorem tM (R:Rm) (m:Int) (w:List Int) (hk: ∀h n,Eo [.agg R.a,.i .i64 m,.fz (rows aC w) w.length] h n=some (true,{v:= .b true,n})) (h:Hp) (n b:Nat) (h1:ab h b=some {cells:=rows aC w}) (hw:w≠[]):
 bj Eo [.agg R.a,.i .i64 m,.sl b 0 w.length w.length] h n=some (true,{v:= .b true,n,rd:=[b]}):=by
 have hv: ∀f,k7 (nv h f) R.a=some ([],R.a):=fun f=>by
  simp only [Rm.a,bn,bQ,dz (fR 0 _),dz (di 0 _),dz (ff 0 _),aS,List.nil_append]
 simp only [bj,bn,bQ,iE,jN,hv,rG 5 w b hw h1,aS,hk,ee,List.nil_append,cM];rfl
def PK1:Md:=⟨false,0,0,0,10,[],[],0,[232,128,0,0,0,107]⟩
def PK2:Md:=⟨false,0,0,0,20,[],[],0,[232,128,0,0,0,107]⟩
def QF:Rm:=(jT QR 1 0 ⟨2,1,1,3000⟩).1
def QL:Rm:=(mX QF 1 299).1
def QH:Rm:=(mX QF 1 300).1
def QP:Rm:=sC QH PK2
def QS:Rm:=sC QH PK1
def QC:Rm:=(iM QF [99,97,114,108]).1
def QD:Rm:=(ik QC ⟨3,[40,41],[60,90],0⟩).1
def QE:Rm:=(jT QD 2 1 ⟨1,0,3,1⟩).1
def QG:Rm:=(jT QE 2 2 ⟨1,1,4,1⟩).1
def QX:Rm:=(mX QG 2 140).1
def QY:Rm:=(mX QG 2 110).1
def QZ:Rm:=(mX QG 2 55).1
theorem a1 (h:Hp) (n:Nat):AD [.agg (Rx QR),.i .i64 1,.i .i64 0,.i .i64 2,.i .i64 1,.i .i64 1,.i .i64 3000] h n=some (true,{v:= .bg [.agg (Rx QF),.i .i64 0],n}):=by kernel_rfl
theorem a2 (h:Hp) (n b:Nat) (h1:ab h b=some {cells:=[.i .i64 (-1)]}):bj Eo [.agg (Rx QF),.i .i64 1,.sl b 0 1 1] h n=some (true,{v:= .b true,n,rd:=[b]}):=
 tM QF 1 [-1] (fun h n=>by kernel_rfl) h n b h1 (by simp)
theorem a3 (h:Hp) (n:Nat):Gy [.agg (Rx QF),.i .i64 1,.i .i64 299] h n=some (true,{v:= .bg [.agg (Rx QL),.i .i64 0],n}):=by kernel_rfl
theorem a4 (h:Hp) (n:Nat):Gy [.agg (Rx QF),.i .i64 1,.i .i64 300] h n=some (true,{v:= .bg [.agg (Rx QH),.i .i64 0],n}):=by kernel_rfl
theorem a5 (h:Hp) (n:Nat):k28 [.agg (Rx QH)] h n=some (true,{v:= .bg [.fz [.i .i64 0,.i .i64 1] 1,.i .i64 0],n}):=by kernel_rfl
theorem a6 (h:Hp) (n:Nat):AD [.agg (Rx QF),.i .i64 2,.i .i64 0,.i .i64 1,.i .i64 0,.i .i64 2,.i .i64 1] h n=some (true,{v:= .bg [.agg [.fz [] 0,.fz [] 0,.fz [] 0],.i .i64 421],n}):=by kernel_rfl
theorem a7 (h:Hp) (n:Nat):AD [.agg (Rx QF),.i .i64 0,.i .i64 0,.i .i64 1,.i .i64 0,.i .i64 2,.i .i64 1] h n=some (true,{v:= .bg [.agg [.fz [] 0,.fz [] 0,.fz [] 0],.i .i64 421],n}):=by kernel_rfl
theorem a8 (h:Hp) (n:Nat):ew Iz [.agg (Rx QH),.agg [.b false,.i .i64 0,.i .i64 0,.i .i64 0,.i .i64 20,.ns,.ns,.i .i64 0,.s [232,128,0,0,0,107]]] h n=some (true,{v:= .bg [.agg (Rx QP),.fz [.i .i64 1,.b false,.i .i64 0,.i .i64 1,.i .i64 3000,.i .i64 1,.fz [] 0,.fz [] 0,.i .i64 0,.s [232,128,1,1,0,107]] 1,.i .i64 0],n,rd:=[],md:=[]}):=by kernel_rfl
theorem a9 (h:Hp) (n:Nat):ew Iz [.agg (Rx QH),.agg [.b false,.i .i64 0,.i .i64 0,.i .i64 0,.i .i64 10,.ns,.ns,.i .i64 0,.s [232,128,0,0,0,107]]] h n=some (true,{v:= .bg [.agg (Rx QS),.fz [] 0,.i .i64 0],n,rd:=[],md:=[]}):=by kernel_rfl
theorem yU (h:Hp) (n:Nat):Cu [.agg (Rx QF),.s [65,110,110]] h n=some (true,{v:= .bg [.agg [.fz [] 0,.fz [] 0,.fz [] 0],.i .i64 0,.i .i64 2],n}):=by kernel_rfl
theorem Bi (h:Hp) (n:Nat):Cu [.agg (Rx QF),.s [97,110,110]] h n=some (true,{v:= .bg [.agg [.fz [] 0,.fz [] 0,.fz [] 0],.i .i64 0,.i .i64 2],n}):=by kernel_rfl
theorem a12 (h:Hp) (n b c:Nat) (h1:ab h b=some {cells:=[.i .i64 1,.i .i64 2]}) (h2:ab h c=some {cells:=[.i .i64 5,.i .i64 5]}):ew zh [.agg (Rx QF),.i .i64 0,.sl b 0 2 2,.sl c 0 2 2,.i .u64 0] h n=some (true,{v:= .bg [.agg [.fz [] 0,.fz [] 0,.fz [] 0],.i .i64 0,.i .i64 2],n,rd:=[b,c],md:=[(b,none),(c,none)]}):=
 rX QF 0 0 [1,2] [5,5] (E:=tn) (i:=0) (e:=2) (fun h n=>by kernel_rfl) h n b c h1 h2 (by simp) (by simp)
theorem a13 (h:Hp) (n:Nat):Cu [.agg (Rx QF),.s [99,97,114,108]] h n=some (true,{v:= .bg [.agg (Rx QC),.i .i64 3,.i .i64 0],n}):=by kernel_rfl
theorem a14 (h:Hp) (n b c:Nat) (h1:ab h b=some {cells:=[.i .i64 40,.i .i64 41]}) (h2:ab h c=some {cells:=[.i .i64 60,.i .i64 90]}):ew zh [.agg (Rx QC),.i .i64 3,.sl b 0 2 2,.sl c 0 2 2,.i .u64 0] h n=some (true,{v:= .bg [.agg (Rx QD),.i .i64 2,.i .i64 0],n,rd:=[b,c],md:=[(b,none),(c,none)]}):=
 rX QC 3 0 [40,41] [60,90] (E:=QD) (i:=2) (e:=0) (fun h n=>by kernel_rfl) h n b c h1 h2 (by simp) (by simp)
theorem a15 (h:Hp) (n:Nat):AD [.agg (Rx QD),.i .i64 2,.i .i64 1,.i .i64 1,.i .i64 0,.i .i64 3,.i .i64 1] h n=some (true,{v:= .bg [.agg (Rx QE),.i .i64 0],n}):=by kernel_rfl
theorem a16 (h:Hp) (n:Nat):AD [.agg (Rx QE),.i .i64 2,.i .i64 2,.i .i64 1,.i .i64 1,.i .i64 4,.i .i64 1] h n=some (true,{v:= .bg [.agg (Rx QG),.i .i64 0],n}):=by kernel_rfl
theorem a17 (h:Hp) (n:Nat):Gy [.agg (Rx QG),.i .i64 2,.i .i64 140] h n=some (true,{v:= .bg [.agg (Rx QX),.i .i64 0],n}):=by kernel_rfl
theorem a18 (h:Hp) (n:Nat):Gy [.agg (Rx QG),.i .i64 2,.i .i64 110] h n=some (true,{v:= .bg [.agg (Rx QY),.i .i64 0],n}):=by kernel_rfl
theorem a19 (h:Hp) (n:Nat):Gy [.agg (Rx QG),.i .i64 2,.i .i64 55] h n=some (true,{v:= .bg [.agg (Rx QZ),.i .i64 0],n}):=by kernel_rfl
theorem a20 (h:Hp) (n b:Nat) (h1:ab h b=some {cells:=[.i .i64 0]}):bj Eo [.agg (Rx QL),.i .i64 1,.sl b 0 1 1] h n=some (true,{v:= .b true,n,rd:=[b]}):=
 tM QL 1 [0] (fun h n=>by kernel_rfl) h n b h1 (by simp)
theorem a21 (h:Hp) (n b:Nat) (h1:ab h b=some {cells:=[.i .i64 1]}):bj Eo [.agg (Rx QH),.i .i64 1,.sl b 0 1 1] h n=some (true,{v:= .b true,n,rd:=[b]}):=
 tM QH 1 [1] (fun h n=>by kernel_rfl) h n b h1 (by simp)
theorem a22 (h:Hp) (n b:Nat) (h1:ab h b=some {cells:=[.i .i64 0,.i .i64 1]}):bj Eo [.agg (Rx QX),.i .i64 2,.sl b 0 2 2] h n=some (true,{v:= .b true,n,rd:=[b]}):=
 tM QX 2 [0,1] (fun h n=>by kernel_rfl) h n b h1 (by simp)
theorem a23 (h:Hp) (n b:Nat) (h1:ab h b=some {cells:=[.i .i64 (-1),.i .i64 1]}):bj Eo [.agg (Rx QY),.i .i64 2,.sl b 0 2 2] h n=some (true,{v:= .b true,n,rd:=[b]}):=
 tM QY 2 [-1,1] (fun h n=>by kernel_rfl) h n b h1 (by simp)
theorem a24 (h:Hp) (n b:Nat) (h1:ab h b=some {cells:=[.i .i64 0,.i .i64 (-1)]}):bj Eo [.agg (Rx QZ),.i .i64 2,.sl b 0 2 2] h n=some (true,{v:= .b true,n,rd:=[b]}):=
 tM QZ 2 [0,-1] (fun h n=>by kernel_rfl) h n b h1 (by simp)
def T10:List (Nat×Ct):=[(13,ew Iz),(14,AD),(16,Gy),(18,k18),(23,ew zh),(24,Cu),(26,bj Eo),(27,k27),(28,k28)]
theorem as7:Sound av (bZ T10):=Sound.cons s13.ng (Sound.cons s14 (Sound.cons s16 (Sound.cons G4 (Sound.cons s23.ng (Sound.cons s24 (Sound.cons s26.nv (Sound.cons s27 (Sound.cons s28 Sound.nil))))))))
theorem o18 (h:Hp) (n:Nat):k18 [] h n=some (true,{v:= .bg [.agg (Rx QR),.b true],n}):=rfl
theorem o27 (s:Int) (h:Hp) (n:Nat):k27 [.i .i64 s] h n=some (true,{v:= .agg [.b false,.i .i64 0,.i .i64 0,.i .i64 0,.i .i64 s,.ns,.ns,.i .i64 0,.s [232,128,0,0,0,107]],n}):=rfl
theorem w10:bt av 10 [] [] 0 (.b true) [] 0:=by
 refine dT as7 Tryz.func10 ZW ?_
 dsimp only [i10,T10];simp only [go_sem,o18,o27,a1,a2,a3,a4,a5,a6,a7,a8,a9,yU,Bi,a12,a13,a14,a15,a16,a17,a18,a19,a20,a21,a22,a23,a24,simprocAttr];exact Ends.au rfl rfl
def KF:Ct
 |[],_,n=>some (true,{v:= .b true,n})
 |_,_,_=>none
theorem s10:aq av 10 KF:=fun args h n c E hc ht=>by
 unfold KF at hc;split at hc
 ·cases hc;exact ax.pure (by kernel_rfl) rfl rfl w10 _ _
 ·cases hc
abbrev arA:=[cI 0]
abbrev atM:=[Dj 69 10,nC 70 69]
abbrev aqC:=[cI 0]
abbrev aqZ:=[Dj 72 18,aa 71 72,bh 73 71 0,bh 74 71 1,dk 1,aZ 3 1 73,aa 2 74]
abbrev arY:=[oo 3 (.mv (.c (.fn 19 [])))]
abbrev asq:=[bI 76 3 1,wE 77 14 76 1 0 2 1 1 3000,aa 75 77,bh 78 75 0,bh 79 75 1,dk 4,aZ 3 4 78,aa 5 79]
abbrev aqk:=[ak 80 0 4,aB 81 1 80,cm 82 81,DJ 83 82 3,aO 84 83,cE 85 1 4 84,cP 86 1 85 84,kU 87 86 84,lu 88 87 2 84,ep 89 84 88,aO 90 89,cE 91 2 4 90,cP 92 1 91 90,kU 93 92 90,lu 94 93 1 90,ep 95 90 94,aO 96 95,cE 97 1 4 96,cP 98 1 97 96,zm 99 4 98 0 96,cE 100 1 99 96,cP 101 1 100 96,kU 102 101 96,lu 103 102 2 96,ep 104 96 103,aO 105 104,cE 106 1 4 105,cP 107 1 106 105,zm 108 4 107 0 105,cE 109 2 108 105,cP 110 1 109 105,kU 111 110 105,lu 112 111 2 105,ep 113 105 112,aO 114 113,cE 115 1 4 114,cP 116 1 115 114,zm 117 4 116 1 114,cE 118 1 117 114,cP 119 1 118 114,kU 120 119 114,lu 121 120 1 114,ep 122 114 121,aO 123 122,cE 124 1 4 123,cP 125 1 124 123,zm 126 4 125 1 123,cE 127 2 126 123,cP 128 1 127 123,kU 129 128 123,lu 130 129 1 123,jV 131 123 130]
abbrev asx:=[cI 0]
abbrev auj:=[aa 132 3,bI 133 3 1,Cy 134 132 133 3 0 1 0 1 1,jZ 135 134 2,aO 136 135,bb 137 3 136,fY 138 3 1 136,nE 139 137 138 1 2 1 0 1 1 136,cq 140 139 2 136,bF 141 136 140,aO 142 141,bb 143 3 142,fY 144 3 1 142,nE 145 143 144 (-1) 0 1 0 1 1 142,cq 146 145 2 142,bF 147 142 146,aO 148 147,bb 149 3 148,fY 150 3 1 148,nE 151 149 150 2 0 0 9 (-1) 0 148,cq 152 151 421 148,bF 153 148 152,aO 154 153,bb 155 3 154,fY 156 3 1 154,nE 157 155 156 1 0 0 0 1 1 154,cq 158 157 2 154,bF 159 154 158,aO 160 159,bb 161 3 160,fY 162 3 1 160,nE 163 161 162 1 0 11 0 1 1 160,cq 164 163 2 160,bF 165 160 164,aO 166 165,bb 167 3 166,fY 168 3 1 166,nE 169 167 168 1 0 1 2 1 1 166,cq 170 169 2 166,bF 171 166 170,aO 172 171,bb 173 3 172,fY 174 3 1 172,nE 175 173 174 1 0 1 (-1) 1 1 172,cq 176 175 2 172,bF 177 172 176,aO 178 177,bb 179 3 178,fY 180 3 1 178,nE 181 179 180 1 0 1 0 (-1) 1 178,cq 182 181 2 178,bF 183 178 182,aO 184 183,bb 185 3 184,fY 186 3 1 184,nE 187 185 186 1 0 1 0 1 0 184,cq 188 187 2 184,bF 189 184 188,aO 190 189,bb 191 3 190,fY 192 3 1 190,nE 193 191 192 1 0 10 1 4294967295 90000 190,cq 194 193 0 190,bF 195 190 194,aO 196 195,bb 197 3 196,fY 198 3 4 196,nE 199 197 198 1 0 1 0 9 1 196,cq 200 199 2 196,bF 201 196 200,aO 202 201,bb 203 3 202,og 204 (.R7 22 192 nK (.c (.i .i64 1)) (.c (.i .i64 1))) 202 true false,og 205 (.build [.ns,.ns,.ns] [(2,1,.t 204)]) 202 true false,nE 206 203 205 0 0 0 0 0 0 202,cq 207 206 420 202,bF 208 202 207,aa 6 208]
abbrev ata:=[bI 210 3 1,nF 211 15 210 1 0,aa 209 211,bh 212 209 0,bh 213 209 1,dk 7,aZ 3 7 212,aa 8 213]
abbrev amS:=[bI 215 3 4,nF 216 15 215 1 0,aa 214 216,bh 217 214 0,bh 218 214 1,dk 9,aZ 3 9 217,aa 10 218]
abbrev aoa:=[bI 220 3 4,nF 221 15 220 1 7,aa 219 221,bh 222 219 0,bh 223 219 1,dk 11,aZ 3 11 222,aa 12 223]
abbrev ak9:=[bI 225 3 4,nF 226 16 225 1 1073741825,aa 224 226,bh 227 224 0,bh 228 224 1,dk 13,aZ 3 13 227,aa 14 228]
abbrev ajh:=[bI 230 3 4,nF 231 16 230 1 (-1),aa 229 231,bh 232 229 0,bh 233 229 1,dk 15,aZ 3 15 232,aa 16 233]
abbrev ann:=[bI 235 3 4,nF 236 16 235 3 0,aa 234 236,bh 237 234 0,bh 238 234 1,dk 17,aZ 3 17 237,aa 18 238]
abbrev amX:=[bI 240 3 4,jd 241 20 240 3,aa 239 241,bh 242 239 0,bh 243 239 1,aa 19 242,aa 20 243]
abbrev alH:=[aa 244 8,jZ 245 244 4,aO 246 245,bb 247 10 246,cq 248 247 0 246,bF 249 246 248,aO 250 249,fY 251 3 9 250,fY 252 3 1 250,so 253 21 251 252 250,bF 254 250 253,aO 255 254,bb 256 12 255,cq 257 256 2 255,bF 258 255 257,aO 259 258,bb 260 14 259,cq 261 260 2 259,bF 262 259 261,aO 263 262,bb 264 16 263,cq 265 264 2 263,bF 266 263 265,aO 267 266,bb 268 18 267,cq 269 268 2 267,bF 270 267 269,aO 271 270,bb 272 20 271,cq 273 272 2 271,bF 274 271 273,aa 21 274]
abbrev akE:=[oV 275 22 1,aa 22 275]
abbrev anG:=[aa 276 22,rH 277 0 1 0 1 1,rH 278 0 1 0 1 1,oo 279 (.call (.t 276) [.c (.i .i64 3),.t 277,.t 278,.c (.i .u64 0)]),jZ 280 279 2,aO 281 280,bb 282 22 281,kE 283 0 1 0 1 10 281,kE 284 0 1 0 1 1 281,qe 285 282 0 283 284 0 281,cq 286 285 2 281,bF 287 281 286,aO 288 287,bb 289 22 288,og 290 (.lC [.i .i64 0,.i .i64 0] 2 [(0,1,.c (.i .i64 1)),(1,1,.c (.i .i64 1))]) 288 true false,og 291 (.lC [.i .i64 0,.i .i64 0] 2 [(0,1,.c (.i .i64 1)),(1,1,.c (.i .i64 2))]) 288 true false,qe 292 289 0 290 291 0 288,cq 293 292 2 288,bF 294 288 293,aO 295 294,bb 296 22 295,og 297 (.call (.t 296) [.c (.i .i64 0),.c (.ns),.c (.ns),.c (.i .u64 0)]) 295 true false,cq 298 297 2 295,bF 299 295 298,aO 300 299,bb 301 22 300,kE 302 0 1 0 1 1 300,og 303 (.lC [.i .i64 0,.i .i64 0] 2 [(0,1,.c (.i .i64 1)),(1,1,.c (.i .i64 2))]) 300 true false,qe 304 301 0 302 303 0 300,cq 305 304 2 300,bF 306 300 305,aO 307 306,bb 308 22 307,kE 309 0 1 0 1 1 307,kE 310 0 1 0 1 0 307,qe 311 308 0 309 310 0 307,cq 312 311 2 307,bF 313 307 312,aO 314 313,bb 315 22 314,kE 316 0 1 0 1 1 314,kE 317 0 1 0 1 1073741825 314,qe 318 315 0 316 317 0 314,cq 319 318 2 314,bF 320 314 319,aO 321 320,bb 322 22 321,kE 323 0 1 0 1 4294967296 321,kE 324 0 1 0 1 1 321,qe 325 322 0 323 324 0 321,cq 326 325 2 321,bF 327 321 326,aO 328 327,bb 329 22 328,kE 330 0 1 0 1 1 328,kE 331 0 1 0 1 1 328,qe 332 329 0 330 331 1 328,cq 333 332 2 328,bF 334 328 333,aO 335 334,bb 336 22 335,kE 337 0 1 0 1 1 335,kE 338 0 1 0 1 1 335,qe 339 336 0 337 338 8 335,cq 340 339 2 335,bF 341 335 340,aO 342 341,bb 343 22 342,og 344 (.lC xz 4 [(0,1,.c (.i .i64 1)),(1,1,.c (.i .i64 2)),(2,1,.c (.i .i64 3)),(3,1,.c (.i .i64 4))]) 342 true false,og 345 (.lC xz 4 [(0,1,.c (.i .i64 1)),(1,1,.c (.i .i64 2)),(2,1,.c (.i .i64 3)),(3,1,.c (.i .i64 4))]) 342 true false,qe 346 343 0 344 345 0 342,cq 347 346 2 342,bF 348 342 347,aO 349 348,bb 350 22 349,og 351 (.lC [.i .i64 0,.i .i64 0,.i .i64 0] 3 [(0,1,.c (.i .i64 0)),(1,1,.c (.i .i64 1)),(2,1,.c (.i .i64 4294967295))]) 349 true false,og 352 (.lC [.i .i64 0,.i .i64 0,.i .i64 0] 3 [(0,1,.c (.i .i64 1)),(1,1,.c (.i .i64 2)),(2,1,.c (.i .i64 1073741824))]) 349 true false,qe 353 350 2 351 352 3 349,cq 354 353 0 349,bF 355 349 354,aa 23 355]
abbrev afP:=[bI 356 3 1,dk 24,aZ 3 24 356,bT 25 0]
abbrev ahn:=[oo 357 (.build [.s [],.s [],.s []] [(0,1,.c (.s [120])),(1,1,.c (.s [121])),(2,1,.c (.s [122]))]),bT 358 0]
abbrev ahV:=[nB 359 358 3]
abbrev amQ:=[oo 360 (.Rg 3 1 false (.t 357) (.t 358)),aa 27 360]
abbrev ako:=[bI 362 3 24,aa 363 27,cK 364 24 362 363,aa 361 364,bh 365 361 0,bh 366 361 1,bh 367 361 2,aZ 3 24 365]
abbrev ala:=[dA 368 358 1,aa 358 368]
abbrev ant:=(ay ahV (.seq (.cond (.t 359) .skip (.exit 0)) (.seq (.block 1 (ay amQ (.cQ ako))) (.cQ ala))))
abbrev alu:=[bT 369 0]
abbrev ahX:=[nB 370 369 4]
abbrev amv:=[aa 371 369,aa 28 371]
abbrev agk:=[bI 373 3 24,aa 374 28,oo 375 (.bin .add (.c (.i .i64 100)) (.t 374)),oo 376 (.lC [.i .i64 0] 1 [(0,1,.t 375)]),rH 377 0 1 0 1 10,wc 378 23 373 0 376 377 0,aa 372 378,bh 379 372 0,bh 380 372 1,bh 381 372 2,aZ 3 24 379]
abbrev agb:=[dA 382 369 1,aa 369 382]
abbrev ald:=(ay ahX (.seq (.cond (.t 370) .skip (.exit 2)) (.seq (.block 3 (ay amv (.cQ agk))) (.cQ agb))))
abbrev aox:=[bI 384 3 24,oo 385 (.call (.c (.fn 24 [])) [.t 384,.c (.s [119])]),aa 383 385,bh 386 383 0,bh 387 383 1,bh 388 383 2,dk 29,aZ 3 29 386,aa 30 387,aa 31 388]
abbrev ae3:List (aj×List Nat):=[(bI 390 3 24,[]),(oo 391 (.call (.c (.fn 25 [])) [.c (.s [119]),.c (.i .i64 17)]),[0]),(cK 392 24 390 391,[]),(aa 389 392,[]),(bh 393 389 0,[]),(bh 394 389 1,[4]),(bh 395 389 2,[4,5]),(dk 32,[0,1,2,3,4,5,6]),(aZ 3 32 393,[5,6]),(aa 33 394,[6]),(aa 34 395,[])]
abbrev ajo:=[bI 397 3 24,rH 398 0 1 0 1 200,rH 399 0 1 0 1 1,wc 400 23 397 0 398 399 0,aa 396 400,bh 401 396 0,bh 402 396 1,bh 403 396 2,dk 35,aZ 3 35 401,aa 36 402,aa 37 403]
abbrev afX:=[bI 404 3 24,dk 38,aZ 3 38 404]
abbrev afR:=[bT 405 0]
abbrev aeX:=[nB 406 405 5]
abbrev alC:=[aa 407 405,aa 39 407]
abbrev amh:=[bI 409 3 38,aa 410 39,aa 411 39,oo 412 (.call (.c (.fn 14 [])) [.t 409,.c (.i .i64 3),.t 410,.c (.i .i64 1),.c (.i .i64 0),.t 411,.c (.i .i64 1)]),aa 408 412,bh 413 408 0,bh 414 408 1,dk 40,aZ 3 40 413,aa 41 414]
abbrev aoO:=[aa 415 41,CU 416 415 0]
abbrev anf:=[bI 417 3 40,aZ 3 38 417]
abbrev af7:=[aa 418 25,dA 419 418 1,aa 25 419]
abbrev aic:=[dA 420 405 1,aa 405 420]
abbrev ahd:=(ay aeX (.seq (.cond (.t 406) .skip (.exit 4)) (.seq (.block 5 (ay alC (ay amh (ay aoO (.cond (.t 416) (ay anf (.cQ af7)) .skip))))) (.cQ aic))))
abbrev akY:=[aa 421 3,bI 422 3 38,Cy 423 421 422 3 5 1 0 5 1,aa 42 423]
abbrev anN:=[aa 424 3,bI 425 3 38,Cy 426 424 425 3 5 1 0 4 1,aa 43 426]
abbrev agS:=[aa 427 31,jZ 428 427 3,aO 429 428,bb 430 34 429,cq 431 430 2 429,bF 432 429 431,aO 433 432,bb 434 37 433,cq 435 434 3 433,bF 436 433 435,aO 437 436,bb 438 25 437,cq 439 438 5 437,bF 440 437 439,aO 441 440,bb 442 42 441,cq 443 442 3 441,bF 444 441 443,aO 445 444,bb 446 43 445,cq 447 446 2 445,bF 448 445 447,aa 44 448]
abbrev afc:=[bI 450 3 38,nF 451 16 450 3 20,aa 449 451,bh 452 449 0,bh 453 449 1,dk 45,aZ 3 45 452,aa 46 453]
abbrev amf:=[bI 454 3 45,oo 455 (.lC ak6 5 [(0,1,.c (.i .i64 (-1))),(1,1,.c (.i .i64 (-1))),(2,1,.c (.i .i64 (-1))),(3,1,.c (.i .i64 0)),(4,1,.c (.i .i64 0))]),DZ 456 26 454 3 455,aa 47 456]
abbrev akQ:=[bI 457 3 38,oo 458 (.lC ak6 5 [(0,1,.c (.i .i64 (-1))),(1,1,.c (.i .i64 (-1))),(2,1,.c (.i .i64 (-1))),(3,1,.c (.i .i64 (-1))),(4,1,.c (.i .i64 (-1)))]),DZ 459 26 457 3 458,aa 48 459]
abbrev ah2:=[bI 461 3 1,oo 462 (.build [.b false,.i .i64 0,.i .i64 0,.i .i64 0,.i .i64 0,.ns,.ns,.i .i64 0,.s []] [(1,1,.c (.i .i64 128)),(4,1,.c (.i .i64 9))]),cK 463 13 461 462,aa 460 463,bh 464 460 0,bh 465 460 1,bh 466 460 2,dk 49,aZ 3 49 464,aa 50 465,aa 51 466]
abbrev afS:=[bI 468 3 1,oo 469 (.build [.b false,.i .i64 0,.i .i64 0,.i .i64 0,.i .i64 0,.ns,.ns,.i .i64 0,.s []] [(4,1,.c (.i .i64 9)),(8,1,.c (.s [120]))]),cK 470 13 468 469,aa 467 470,bh 471 467 0,bh 472 467 1,bh 473 467 2,dk 52,aZ 3 52 471,aa 53 472,aa 54 473]
abbrev amz:=[bI 475 3 1,oo 476 (.build [.b false,.i .i64 0,.i .i64 0,.i .i64 0,.i .i64 0,.ns,.ns,.i .i64 0,.s []] [(4,1,.c (.i .i64 30)),(8,1,.c (.s [120]))]),cK 477 13 475 476,aa 474 477,bh 478 474 0,bh 479 474 1,bh 480 474 2,dk 55,aZ 3 55 478,aa 56 479,aa 57 480]
abbrev alD:=[bI 482 3 1,oo 483 (.build [.b false,.i .i64 0,.i .i64 0,.i .i64 0,.i .i64 0,.ns,.ns,.i .i64 0,.s []] [(4,1,.c (.i .i64 30)),(8,1,.c (.s [97,98,99,100,101]))]),cK 484 13 482 483,aa 481 484,bh 485 481 0,bh 486 481 1,bh 487 481 2,dk 58,aZ 3 58 485,aa 59 486,aa 60 487]
abbrev aiW:List (aj×List Nat):=[(bI 489 3 1,[]),(Dw 490 27 30,[0]),(cK 491 13 489 490,[]),(aa 488 491,[]),(bh 492 488 0,[]),(bh 493 488 1,[4]),(bh 494 488 2,[4,5]),(dk 61,[0,1,2,3,4,5,6]),(aZ 3 61 492,[5,6]),(aa 62 493,[6]),(aa 63 494,[])]
abbrev aoe:=[bI 496 3 1,du 497 28 496,aa 495 497,bh 498 495 0,bh 499 495 1,aa 64 498,aa 65 499]
abbrev aoy:=[aa 500 51,jZ 501 500 230,aO 502 501,bb 503 54 502,cq 504 503 4 502,bF 505 502 504,aO 506 505,bb 507 57 506,cq 508 507 7 506,bF 509 506 508,aO 510 509,bb 511 60 510,cq 512 511 5 510,bF 513 510 512,aO 514 513,bb 515 63 514,cq 516 515 0 514,bF 517 514 516,aO 518 517,bb 519 62 518,rS 520 519 518,cq 521 520 0 518,bF 522 518 521,aO 523 522,bb 524 65 523,cq 525 524 0 523,bF 526 523 525,aO 527 526,bb 528 64 527,rS 529 528 527,cq 530 529 0 527,bF 531 527 530,aa 66 531]
abbrev akD:=[oV 532 29 4,aa 67 532]
abbrev amC:=[bI 533 3 4,du 534 17 533,jZ 535 534 0,aO 536 535,bb 537 67 536,pV 538 537 31 536,bF 539 536 538,aO 540 539,bb 541 67 540,pV 542 541 32 540,bF 543 540 542,aO 544 543,bb 545 67 544,pV 546 545 33 544,bF 547 544 546,aO 548 547,bb 549 67 548,pV 550 549 34 548,bF 551 548 550,aO 552 551,bb 553 67 552,pV 554 553 35 552,bF 555 552 554,aO 556 555,bb 557 67 556,pV 558 557 36 556,bF 559 556 558,aO 560 559,bb 561 67 560,pV 562 561 37 560,bF 563 560 562,aO 564 563,bb 565 67 564,pV 566 565 38 564,bF 567 564 566,aO 568 567,bb 569 67 568,pV 570 569 39 568,bF 571 568 570,aO 572 571,bb 573 67 572,pV 574 573 40 572,og 575 (.not (.t 574)) 572 true false,bF 576 572 575,aa 68 576]
abbrev ajs:=[ot 577 (.mv (.c (.b true))),bb 578 6 577,bF 579 577 578,aO 580 579,bb 581 21 580,bF 582 580 581,aO 583 582,bb 584 23 583,bF 585 583 584,aO 586 585,bb 587 44 586,bF 588 586 587,aO 589 588,bb 590 47 589,bF 591 589 590,aO 592 591,bb 593 48 592,bF 594 592 593,aO 595 594,bb 596 66 595,bF 597 595 596,aO 598 597,bb 599 68 598,bF 600 598 599,aa 0 600]
abbrev i4c:=(ay arA (.seq (ay atM (.cond (.t 70) (ay aqC .ret) .skip)) (ay aqZ (ay arY (ay asq (.seq (ay aqk (.cond (.t 131) (ay asx .ret) .skip)) (ay auj (ay ata (ay amS (ay aoa (ay ak9 (ay ajh (ay ann (ay amX (ay alH (ay akE (ay anG (ay afP (.seq (ay ahn (.block 0 (.loop ant))) (.seq (ay alu (.block 2 (.loop ald))) (ay aox (.seq (.cG ae3) (ay ajo (ay afX (.seq (ay afR (.block 4 (.loop ahd))) (ay akY (ay anN (ay agS (ay afc (ay amf (ay akQ (ay ah2 (ay afS (ay amz (ay alD (.seq (.cG aiW) (ay aoe (ay aoy (ay akD (ay amC (ay ajs .ret)))))))))))))))))))))))))))))))))))))))))
def i4:dm:=⟨0,601,[70,131,359,370,406,416],i4c,[.t 0]⟩
theorem afl:aK av Tryz.f4=some i4:=by kernel_rfl
abbrev aoc:=[cD 7 0,bT 14 0]
abbrev ak4:=[bI 18 3 7,aa 19 1,aa 20 2,aa 21 3,aa 22 4,aa 23 5,aa 24 6,oo 25 (.call (.c (.fn 14 [])) [.t 18,.t 19,.t 20,.t 21,.t 22,.t 23,.t 24]),aa 17 25,bh 26 17 0,bh 27 17 1,dk 15,aZ 3 15 26,aa 16 27]
abbrev afz:=[aa 28 16,aa 14 28]
abbrev aqs:=(ay aoc (ay ak4 (ay afz .ret)))
def i19:dm:=⟨7,29,[],aqs,[.t 14]⟩
theorem SD:aK av Tryz.f19=some i19:=by kernel_rfl
abbrev alK:=[bT 9 0]
abbrev ahe:=[bI 14 3 4,aa 15 0,aa 16 1,aa 17 2,aa 18 3,oo 19 (.call (.c (.fn 23 [])) [.t 14,.t 15,.t 16,.t 17,.t 18]),aa 13 19,bh 20 13 0,bh 21 13 1,bh 22 13 2,dk 10,aZ 3 10 20,aa 11 21,aa 12 22]
abbrev aln:=[aa 23 12,aa 9 23]
abbrev aqt:=(ay alK (ay ahe (ay aln .ret)))
def i22:dm:=⟨5,24,[],aqt,[.t 9]⟩
theorem acH:aK av Tryz.f22=some i22:=by kernel_rfl
abbrev Q1:=[cI 3]
abbrev Rf:=[oo 5 (.build [.i .u8 0,.i .u8 0,.i .i64 0,.s [],.i .u64 0,.i .u8 0,.i .u8 0,.i .i64 0] [(0,1,.c (.i .u8 17))]),bI 6 3 1,cK 7 30 5 6,dk 4,aZ 3 4 7]
abbrev Q8:=[aa 8 0,oo 9 (.call (.t 8) [.t 4])]
abbrev Q6:=[bI 10 3 4,du 11 17 10,jZ 12 11 420,aa 3 12]
abbrev atF:=(ay Q1 (ay Rf (ay Q8 (ay Q6 .ret))))
def i29:dm:=⟨2,13,[],atF,[.t 3]⟩
theorem lA:aK av Tryz.f29=some i29:=by kernel_rfl
abbrev aeU:=[aa 2 0,bE 3 2,ak 4 0 3,aB 5 1 4,lZ 6 2 5 1,ak 7 0 6,xp (.st 1 (.t 7) (.c (.s [97,110,110])))]
abbrev atl:bG:=(.cQ aeU)
def i31:dm:=⟨1,8,[],atl,[]⟩
theorem XA:aK av Tryz.f31=some i31:=by kernel_rfl
abbrev ahw:=[aa 2 0,bE 3 2,ak 4 0 3,aB 5 1 4,lZ 6 2 5 0,ak 7 0 6,xp (.st 1 (.t 7) (.c (.s [])))]
abbrev atb:bG:=(.cQ ahw)
def i32:dm:=⟨1,8,[],atb,[]⟩
theorem Ya:aK av Tryz.f32=some i32:=by kernel_rfl
abbrev afF:=[aa 2 0,aa 3 0,bE 4 3,ak 5 0 4,aB 6 1 5,oo 7 (.qT 2 (.t 6) none (some (.c (.i .i64 2))) none),bE 8 2,ak 9 0 8,aZ 1 9 7]
abbrev aqc:bG:=(.cQ afF)
def i33:dm:=⟨1,10,[],aqc,[]⟩
theorem Ut:aK av Tryz.f33=some i33:=by kernel_rfl
abbrev ajL:=[aa 2 0,bE 3 2,ak 4 1 3,aB 5 1 4,lZ 6 4 5 0,ak 7 3 6,xp (.st 1 (.t 7) (.c (.i .u64 2)))]
abbrev arb:bG:=(.cQ ajL)
def i34:dm:=⟨1,8,[],arb,[]⟩
theorem ad6:aK av Tryz.f34=some i34:=by kernel_rfl
abbrev akI:=[aa 2 0,bE 3 2,ak 4 1 3,aB 5 1 4,lZ 6 4 5 1,ak 7 1 6,aB 8 1 7,lZ 9 1 8 0,nA 1 9 20]
abbrev aqW:bG:=(.cQ akI)
def i35:dm:=⟨1,10,[],aqW,[]⟩
theorem Wx:aK av Tryz.f35=some i35:=by kernel_rfl
abbrev aob:=[aa 2 0,bE 3 2,ak 4 2 3,aB 5 1 4,lZ 6 22 5 0,ak 7 3 6,nA 1 7 2]
abbrev ar3:bG:=(.cQ aob)
def i36:dm:=⟨1,8,[],ar3,[]⟩
theorem W5:aK av Tryz.f36=some i36:=by kernel_rfl
abbrev aoN:=[aa 2 0,bE 3 2,ak 4 2 3,aB 5 1 4,lZ 6 22 5 0,ak 7 1 6,nA 1 7 1]
abbrev as3:bG:=(.cQ aoN)
def i37:dm:=⟨1,8,[],as3,[]⟩
theorem Zs:aK av Tryz.f37=some i37:=by kernel_rfl
abbrev ame:List (aj×List Nat):=[(aa 2 0,[]),(aa 3 0,[0]),(bE 4 3,[0]),(ak 5 2 4,[0]),(aB 6 1 5,[0]),(aa 7 0,[0,1,2,3,4]),(bE 8 7,[0,1,2,3,4]),(ak 9 2 8,[0,1,2,3,4]),(aB 10 1 9,[0,1,2,3,4]),(lZ 11 22 10 0,[0,1,2,3,4]),(bI 12 22 11,[0,1,2,3,4]),(oo 13 (.lC nK 1 [(0,22,.t 12)]),[0,1,2,3,4]),(oo 14 (.app 22 192 nK (.t 6) (.t 13)),[0]),(bE 15 2,[]),(ak 16 2 15,[]),(aZ 1 16 14,[])]
abbrev atC:bG:=(.cG ame)
def i38:dm:=⟨1,17,[],atC,[]⟩
theorem ad0:aK av Tryz.f38=some i38:=by kernel_rfl
abbrev akl:List (aj×List Nat):=[(aa 2 0,[]),(bE 3 2,[]),(ak 4 2 3,[]),(aB 5 1 4,[]),(aa 6 0,[0,1,2,3]),(bE 7 6,[0,1,2,3]),(ak 8 2 7,[0,1,2,3]),(aB 9 1 8,[0,1,2,3]),(lZ 10 22 5 0,[]),(ak 11 3 10,[]),(nA 1 11 0,[]),(lZ 12 22 9 0,[]),(ak 13 4 12,[]),(ak 14 4 13,[]),(nA 1 14 1,[])]
abbrev apX:bG:=(.cG akl)
def i39:dm:=⟨1,15,[],apX,[]⟩
theorem ZZ:aK av Tryz.f39=some i39:=by kernel_rfl
abbrev afd:=[aa 2 0,bE 3 2,ak 4 2 3,aB 5 1 4,lZ 6 22 5 0,ak 7 4 6,ak 8 4 7,nA 1 8 1]
abbrev arw:bG:=(.cQ afd)
def i40:dm:=⟨1,9,[],arw,[]⟩
theorem ada:aK av Tryz.f40=some i40:=by kernel_rfl
theorem w25 (s:List UInt8) (c:Nat) (hc:s.length*c<=1000000) (hc2:c<=1000000):bt av 25 [.s s,.i .i64 (c:Int)] [] 0 (.s (Go.Lib.repeatL s c)) [] 0:=bt.Bt (fun D φ us ha=>by
 obtain ⟨u,m,rfl,h1,h2⟩:=ha.dZ;obtain ⟨u',m',rfl,h3,h4⟩:=h2.dZ;obtain rfl:=h4.kK;cases h1;cases h3;refine ⟨_,.s (Go.Lib.repeatL s c),fun w=> ?_⟩;refine (Tryz.strings_Repeat ⟨s.toArray⟩ c w (by omega) (by
  show s.toArray.size*c<=_;simp only [tI];omega)).mono fun e w' he=>⟨?_,he.2⟩
 rw [he.1]) (by kernel_rfl)
def k25:Ct
 |[.s s,.i .i64 c],_,n=>some (decide (0<=c/\s.length*c.toNat<=1000000/\c<=1000000),{v:= .s (Go.Lib.repeatL s c.toNat),n})
 |_,_,_=>none
theorem s25:aq av 25 k25:=fun args h n c E hc ht=>by
 unfold k25 at hc;split at hc
 ·rename_i s c;cases hc;obtain ⟨h0,h1,h2⟩:=bO ht;have:=w25 s c.toNat h1 (by omega)
  rw [Int.toNat_of_nonneg h0] at this;exact ax.pure (by kernel_rfl) rfl rfl this _ _
 ·cases hc
/-! Same -/
noncomputable def Jn:List (Nat×Ct):=[(87,N3),(88,k88)]
theorem Oy:Sound av (bZ Jn):=Sound.cons s87 (Sound.cons s88 Sound.nil)
theorem w21 (r:Rm) (hr:r.is=true):bt av 21 [.agg r.a,.agg r.a] [] 0 (.b true) [] 0:=by
 simp only [Rm.is,aw,aV] at hr;obtain ⟨hm,hs,hso,ht,hto⟩:=hr;have hMat: ∀(k:Nat) x,r.ms[k]? =some x->List.take 2 (List.drop (k*2) (rows Mb.l r.ms))=x.l:=fun k x hk=>eo Mb.len hk;have hSat: ∀(k:Nat) x,r.sh[k]? =some x->List.take 4 (List.drop (k*4) (rows bu.l r.sh))=x.l:=fun k x hk=>eo bu.len hk;have hTat: ∀(k:Nat) x,r.tp[k]? =some x->List.take 22 (List.drop (k*22) (rows Tp.l r.tp))=x.l:=fun k x hk=>eo Tp.len hk;have b1:=fun j=>fR j r.ms;have b2:=fun j=>di j r.sh;have b3:=fun j=>ff j r.tp;refine dT Oy Tryz.func21 abq ?_
 dsimp only [i21,Jn,Rm.a];generalize rows Mb.l r.ms=A at*;generalize rows bu.l r.sh=B at*;generalize rows Tp.l r.tp=C at*;simp only [go_sem,simprocAttr];refine Loop.fj (F:=⟨av,bZ Jn,[36,41,54,59,99,104,150],151,0⟩) Oy mo r.ms.length (fun k=>True) (fun k=>[(2,.p 0 0),(3,.p 1 0),(5,.i .i64 (k:Int))]) (fun k=>[(0,{cells:=[.fz A r.ms.length,.fz B r.sh.length,.fz C r.tp.length]}),(1,{cells:=[.fz A r.ms.length,.fz B r.sh.length,.fz C r.tp.length]})]) 2 (eB _) trivial ?_ ?_ (fun k hk _=> ?_)
 ·simp only [go_sem,AV.al,aG,simprocAttr]
 ·simp only [go_sem,AV.al,ae,b1,b2,b3,az,simprocAttr]
 by_cases hlt:k<r.ms.length
 ·have c1:decide ((k:Int)<(r.ms.length:Int))=true:=ah (by omega)
  have c2:decide (0<=(k:Int)/\(k:Int)<(r.ms.length:Int))=true:=ah (by omega)
  have hw:IntKind.i64.wrap ((k:Int)+1)=((k+1:Nat):Int):=by rw [bS (by omega) (by omega)];omega
  obtain ⟨x,hx⟩: ∃x,r.ms[k]? =some x:=⟨_,aY hlt⟩;have hrow:=hMat k x hx;simp only [Mb.l] at hrow;dsimp only [Jn];simp only [go_sem,c1,c2,hw,hrow,AV.al,ae,aG,b1,b2,b3,az,dr,ql,fI,simprocAttr];exact hlt
 have c1:decide ((k:Int)<(r.ms.length:Int))=false:=cN (by omega)
 dsimp only [Jn];simp only [go_sem,c1,simprocAttr];refine Loop.fj (F:=⟨av,bZ Jn,[36,41,54,59,99,104,150],151,0⟩) Oy mo r.sh.length (fun k=>True) (fun k=>[(2,.p 0 0),(3,.p 1 0),(6,.i .i64 (k:Int))]) (fun k=>[(0,{cells:=[.fz A r.ms.length,.fz B r.sh.length,.fz C r.tp.length]}),(1,{cells:=[.fz A r.ms.length,.fz B r.sh.length,.fz C r.tp.length]})]) 2 (eB _) trivial ?_ ?_ (fun k hk _=> ?_)
 ·simp only [go_sem,AV.al,aG,simprocAttr]
 ·simp only [go_sem,AV.al,ae,b1,b2,b3,az,simprocAttr]
 by_cases hlt:k<r.sh.length
 ·have d1:decide ((k:Int)<(r.sh.length:Int))=true:=ah (by omega)
  have d2:decide (0<=(k:Int)/\(k:Int)<(r.sh.length:Int))=true:=ah (by omega)
  have hw:IntKind.i64.wrap ((k:Int)+1)=((k+1:Nat):Int):=by rw [bS (by omega) (by omega)];omega
  obtain ⟨x,hx⟩: ∃x,r.sh[k]? =some x:=⟨_,aY hlt⟩;have hrow:=hSat k x hx;have hok:=er.1 hso x (bR hx);simp only [bu.ok,aw,aV] at hok;have q1:=Ah x.ss x.ss hok.2.1;have q2:=Ah x.rt x.rt hok.2.2;simp only [bu.l] at hrow;simp only [pX] at q1 q2;have e1:=fun j=>iB j x.ss;have e2:=fun j=>iB j x.rt;generalize rows aC x.ss=S1 at*;generalize rows aC x.rt=S2 at*;dsimp only [Jn];simp only [go_sem,d1,d2,hw,hrow,q1,q2,AV.al,ae,aG,b1,b2,b3,az,dr,bne_self_eq_false,simprocAttr];exact hlt
 have d1:decide ((k:Int)<(r.sh.length:Int))=false:=cN (by omega)
 dsimp only [Jn];simp only [go_sem,d1,simprocAttr];refine Loop.fj (F:=⟨av,bZ Jn,[36,41,54,59,99,104,150],151,0⟩) Oy mo r.tp.length (fun k=>True) (fun k=>[(2,.p 0 0),(3,.p 1 0),(9,.i .i64 (k:Int))]) (fun k=>[(0,{cells:=[.fz A r.ms.length,.fz B r.sh.length,.fz C r.tp.length]}),(1,{cells:=[.fz A r.ms.length,.fz B r.sh.length,.fz C r.tp.length]})]) 2 (eB _) trivial ?_ ?_ (fun k hk _=> ?_)
 ·simp only [go_sem,AV.al,aG,simprocAttr]
 ·simp only [go_sem,AV.al,ae,b1,b2,b3,az,simprocAttr]
 by_cases hlt:k<r.tp.length
 ·have d1:decide ((k:Int)<(r.tp.length:Int))=true:=ah (by omega)
  have d2:decide (0<=(k:Int)/\(k:Int)<(r.tp.length:Int))=true:=ah (by omega)
  have hw:IntKind.i64.wrap ((k:Int)+1)=((k+1:Nat):Int):=by rw [bS (by omega) (by omega)];omega
  obtain ⟨x,hx⟩: ∃x,r.tp[k]? =some x:=⟨_,aY hlt⟩;have hrow:=hTat k x hx;have hok:=bO (er.1 hto x (bR hx));have q1: ∀h n,k88 [.agg x.sw.a,.agg x.sw.a] h n=some (true,{v:= .b true,n}):=fun h n=>by rw [am8,ah hok]
  have t0:x.l[0]? =some (.i .i64 x.me):=rfl;have t1:x.l[1]? =some (.i .i64 x.sh):=rfl;have t2:x.l[2]? =some (.i .i64 x.wt):=rfl;have t3:x.l[3]? =some (.i .i64 x.mo):=rfl;have td:List.take 18 (List.drop 4 x.l)=x.sw.a:=rfl;have tl:x.l.length=22:=rfl;have t18:x.sw.a.length=18:=rfl;have t1a:aX x.l=true:=rfl;have tb: ∀j,ae j x.l=true:=fun j=>aD _ (Tp.al x);generalize x.l=TL at*;generalize x.sw.a=SA at*;dsimp only [Jn];simp only [go_sem,d1,d2,hw,hrow,q1,t0,t1,t2,t3,td,tl,t1a,t18,tb,AV.al,ae,aG,b1,b2,b3,az,dr,bne_self_eq_false,simprocAttr];exact hlt
 have d1:decide ((k:Int)<(r.tp.length:Int))=false:=cN (by omega)
 dsimp only [Jn];simp only [go_sem,d1,simprocAttr];exact Ends.au rfl rfl
noncomputable def k21:Ct
 |[.agg c,.agg d],_,n=>(qy c).bind fun r=>open Classical in if c=d then some (r.is,{v:= .b true,n}) else none
 |_,_,_=>none
theorem s21:aq av 21 k21:=fun args h n c E hc ht=>by
 unfold k21 at hc;split at hc
 ·simp only [af] at hc;obtain ⟨r,hr,he⟩:=hc;split at he
  ·rename_i hab;subst hab;cases he;rw [eh hr];exact ax.pure (by kernel_rfl) (by simp only [ae,AV.al,Rm.al,az]) rfl (w21 r ht) _ _
  ·cases he
 ·cases hc
/-! the closures that call Follow and Present -/
theorem w19 (r:Rm) (hr:r.is=true) (m s w o ou st:Int):bt av 19 [.agg r.a,.i .i64 m,.i .i64 s,.i .i64 w,.i .i64 o,.i .i64 ou,.i .i64 st] [] 0 (.i .i64 (jT r m s ⟨w,o,ou,st⟩).2) [] 0:=by
 have q: ∀h n,AD [.agg r.a,.i .i64 m,.i .i64 s,.i .i64 w,.i .i64 o,.i .i64 ou,.i .i64 st] h n=some (true,{v:=jK (jT r m s ⟨w,o,ou,st⟩),n}):=fun h n=>by
  simp only [AD,ey,aS,hr]
 have hcx:Sound av (bZ [(14,AD)]):=Sound.cons s14 Sound.nil;generalize jT r m s ⟨w,o,ou,st⟩=R at*;refine dT hcx Tryz.func19 SD ?_
 dsimp only [i19,Rm.a,jK] at q ⊢;generalize rows Mb.l r.ms=A at*;generalize rows bu.l r.sh=B at*;generalize rows Tp.l r.tp=C at*;simp only [go_sem,q,simprocAttr];exact Ends.au rfl rfl
def AA:Ct
 |[.agg c,.i .i64 m,.i .i64 s,.i .i64 w,.i .i64 o,.i .i64 ou,.i .i64 st],_,n=>(qy c).bind fun r=>some (r.is,{v:= .i .i64 (jT r m s ⟨w,o,ou,st⟩).2,n})
 |_,_,_=>none
theorem s19:aq av 19 AA:=fun args h n c E hc ht=>by
 unfold AA at hc;split at hc
 ·simp only [af,aP,bq] at hc;obtain ⟨r,hr,rfl,rfl⟩:=hc;rw [eh hr];exact ax.pure (by kernel_rfl) (by simp only [ae,AV.al,Rm.al,az]) rfl (w19 r ht _ _ _ _ _ _) _ _
 ·cases hc
def prC (r:Rm) (s:bu):Bool:=r.is&&(bu.ok s&&(decide (s.ss.length<=1000)&&(decide (s.rt.length<=1000)&&decide (r.sh.length<=1000000))))
theorem w22 (r:Rm) (s:bu) (hr:prC r s=true):bt av 22 [.i .i64 s.ow,.fz (rows aC s.ss) s.ss.length,.fz (rows aC s.rt) s.rt.length,.i .u64 s.bl,.fp r.a 0] [] 0 (.i .i64 (ik r s).2) [] 0:=by
 have q: ∀h n,zh [.agg r.a,.i .i64 s.ow,.fz (rows aC s.ss) s.ss.length,.fz (rows aC s.rt) s.rt.length,.i .u64 s.bl] h n=some (true,{v:=tc (ik r s).1 (xK (ik r s).1.sh.length) (ik r s).2,n}):=fun h n=>by
  simp only [zh,ey,eE,aS,prC] at hr ⊢;rw [hr]
 have hcx:Sound av (bZ [(23,zh)]):=Sound.cons s23 Sound.nil;generalize ik r s=R at*;generalize xK R.1.sh.length=L at*;refine dT hcx Tryz.func22 acH ?_
 dsimp only [i22,Rm.a,tc] at q ⊢;generalize rows Mb.l r.ms=A at*;generalize rows bu.l r.sh=B at*;generalize rows Tp.l r.tp=C at*;generalize rows aC s.ss=S1 at*;generalize rows aC s.rt=S2 at*;simp only [go_sem,q,simprocAttr];exact Ends.au rfl rfl
def Bp:Ct
 |[.i .i64 o,.fz L m,.fz K k,.i .u64 b,.fp c 0],_,n=>(qy c).bind fun r=>(bk 1 dJ m L).bind fun ss=>(bk 1 dJ k K).bind fun rt=>some (prC r ⟨o,ss,rt,b⟩,{v:= .i .i64 (ik r ⟨o,ss,rt,b⟩).2,n})
 |_,_,_=>none
theorem s22:aq av 22 Bp:=fun args h n c E hc ht=>by
 unfold Bp at hc;split at hc
 ·simp only [af,aP,bq] at hc;obtain ⟨r,hr,ss,h1,rt,h2,rfl,rfl⟩:=hc;rw [eh hr];obtain ⟨rfl,rfl⟩:=bD dx h1;obtain ⟨rfl,rfl⟩:=bD dx h2;exact ax.pure (by kernel_rfl) (by simp only [ae,AV.al,Rm.al,iB,az]) rfl (w22 r _ ht) _ _
 ·cases hc
abbrev al9:=[cD 2 0,cD 3 1,dk 4]
abbrev agq:=[dk 5]
abbrev aol:=[ak 12 0 5,aB 13 1 12,ak 14 0 3,aB 15 1 14,zk 16 2 24 0 13 15,ak 17 0 5,aZ 1 17 16]
abbrev afO:=[ak 18 1 3,aB 19 1 18,cm 20 19,bT 21 0]
abbrev amT:=[ei 22 21 20]
abbrev aku:=[cU 23 4 19 21,bI 24 4 23,qZ 7 0 0,aZ 4 7 24]
abbrev anI:List (aj×List Nat):=[(Bf 25 0,[]),(ak 26 1 7,[0]),(aB 27 1 26,[0]),(Cd 28 1 8 0 25 27,[]),(Bf 29 0,[0,1,2,3]),(ak 30 2 7,[0,1,2,3,4]),(aB 31 1 30,[0,1,2,3,4]),(Cd 32 1 8 0 29 31,[]),(ak 33 1 7,[4,7]),(aZ 1 33 28,[]),(ak 34 2 7,[]),(aZ 1 34 32,[])]
abbrev agI:=[ak 35 1 5,aB 36 1 35,bI 37 4 7,Ak 38 0 0 1 0 4 37,yQ 39 4 64 0 0 36 38,ak 40 1 5,aZ 1 40 39]
abbrev alz:=[dA 41 21 1,aa 21 41]
abbrev akO:=(ay amT (.seq (.cond (.t 22) .skip (.exit 0)) (.seq (.block 1 (ay aku (.seq (.cG anI) (.cQ agI)))) (.cQ alz))))
abbrev Xu:=[ak 42 2 5,aB 43 1 42,ak 44 2 3,aB 45 1 44,oo 46 (.app 22 192 nK (.t 43) (.t 45)),ak 47 2 5,aZ 1 47 46]
abbrev abm:=[ak 48 1 2,aB 49 1 48,jW 50 49,aa 8 50]
abbrev abI:=[ak 51 0 5,aB 52 1 51,cm 53 52,CF 54 53 0]
abbrev Ww:List (aj×List Nat):=[(ak 55 0 5,[]),(aB 56 1 55,[]),(aa 57 8,[0,1]),(ak 58 0 5,[0,1,2]),(aB 59 1 58,[0,1,2]),(cm 60 59,[0,1,2]),(yq 61 57 60,[0,1]),(cU 62 2 56 61,[]),(aa 9 62,[])]
abbrev TG:=[ak 63 0 2,aB 64 1 63,Du 65 64 18]
abbrev Vl:=[jF 67 65 0,aO 66 67]
abbrev acn:=[aa 68 9,ak 69 3 2,aB 70 1 69,ak 71 3 2,aB 72 1 71,oo 73 (.BH (.t 72)),oo 74 (.mn (.t 73) [.c (.i .i64 20)]),oo 75 (.Vi (.t 70) none (some (.t 74))),bE 76 68,ak 77 0 76,aZ 1 77 75]
abbrev Sm:=[jF 79 65 1,aO 78 79]
abbrev ace:=[aa 80 9,ak 81 2 2,aB 82 1 81,bE 83 80,ak 84 1 83,aZ 1 84 82]
abbrev ack:=[jF 86 65 2,aO 85 86]
abbrev T9:=[ak 87 0 5,aB 88 1 87,ak 89 0 5,aB 90 1 89,cm 91 90,kB 92 91 1,zc 93 2 88 92,ak 94 0 5,aZ 1 94 93]
abbrev R5:=[jF 96 65 3,aO 95 96]
abbrev adA:List (aj×List Nat):=[(ak 97 0 5,[]),(aB 98 1 97,[]),(aa 99 9,[0,1]),(bE 100 99,[0,1]),(bI 101 2 100,[0,1]),(oo 102 (.lC [.s [],.i .i64 0] 1 [(0,2,.t 101)]),[0,1]),(zk 103 2 24 0 98 102,[]),(ak 104 0 5,[]),(aZ 1 104 103,[])]
abbrev Wn:=[ak 105 1 5,aB 106 1 105,cm 107 106,CF 108 107 0]
abbrev XF:List (aj×List Nat):=[(ak 109 1 5,[]),(aB 110 1 109,[]),(aa 111 8,[0,1]),(ak 112 1 5,[0,1,2]),(aB 113 1 112,[0,1,2]),(cm 114 113,[0,1,2]),(yq 115 111 114,[0,1]),(cU 116 4 110 115,[]),(aa 10 116,[])]
abbrev X2:=[ak 117 0 2,aB 118 1 117,Du 119 118 18]
abbrev WQ:=[jF 121 119 4,aO 120 121]
abbrev Wm:=[aa 122 10,ak 123 2 2,aB 124 1 123,bE 125 122,ak 126 0 125,aZ 1 126 124]
abbrev WO:=[jF 128 119 5,aO 127 128]
abbrev T5:List (aj×List Nat):=[(aa 129 10,[]),(bE 130 129,[]),(ak 131 1 130,[]),(aB 132 1 131,[]),(aa 133 8,[0,1,2,3]),(aa 134 10,[0,1,2,3,4]),(bE 135 134,[0,1,2,3,4]),(ak 136 1 135,[0,1,2,3,4]),(aB 137 1 136,[0,1,2,3,4]),(cm 138 137,[0,1,2,3,4]),(yq 139 133 138,[0,1,2,3]),(ak 140 2 2,[0,1,2,3,4,5,6,7,8,9,10]),(aB 141 1 140,[0,1,2,3,4,5,6,7,8,9,10]),(cU 142 1 132 139,[]),(aZ 1 142 141,[])]
abbrev aae:=[jF 144 119 6,aO 143 144]
abbrev UB:List (aj×List Nat):=[(aa 145 10,[]),(bE 146 145,[]),(ak 147 2 146,[]),(aB 148 1 147,[]),(aa 149 8,[0,1,2,3]),(aa 150 10,[0,1,2,3,4]),(bE 151 150,[0,1,2,3,4]),(ak 152 2 151,[0,1,2,3,4]),(aB 153 1 152,[0,1,2,3,4]),(cm 154 153,[0,1,2,3,4]),(yq 155 149 154,[0,1,2,3]),(ak 156 2 2,[0,1,2,3,4,5,6,7,8,9,10]),(aB 157 1 156,[0,1,2,3,4,5,6,7,8,9,10]),(cU 158 1 148 155,[]),(aZ 1 158 157,[])]
abbrev R3:=[jF 160 119 7,aO 159 160]
abbrev Wy:List (aj×List Nat):=[(aa 161 10,[]),(aa 162 10,[0]),(bE 163 162,[0]),(ak 164 2 163,[0]),(aB 165 1 164,[0]),(ak 166 2 2,[0,1,2,3,4]),(aB 167 1 166,[0,1,2,3,4]),(oo 168 (.lC [.i .i64 0] 1 [(0,1,.t 167)]),[0,1,2,3,4]),(Cd 169 1 8 0 165 168,[0]),(bE 170 161,[]),(ak 171 2 170,[]),(aZ 1 171 169,[])]
abbrev aax:=[jF 173 119 8,aO 172 173]
abbrev Uu:=[aa 174 10,ak 175 4 2,aB 176 1 175,bE 177 174,ak 178 3 177,aZ 1 178 176]
abbrev TT:=[jF 180 119 9,aO 179 180]
abbrev Vy:List (aj×List Nat):=[(ak 181 1 5,[]),(aB 182 1 181,[]),(aa 183 10,[0,1]),(bE 184 183,[0,1]),(bI 185 4 184,[0,1]),(Ak 186 0 0 1 0 4 185,[0,1]),(yQ 187 4 64 0 0 182 186,[]),(ak 188 1 5,[]),(aZ 1 188 187,[])]
abbrev acj:=[ak 189 2 5,aB 190 1 189,cm 191 190,CF 192 191 0]
abbrev VF:List (aj×List Nat):=[(ak 193 2 5,[]),(aB 194 1 193,[]),(aa 195 8,[0,1]),(ak 196 2 5,[0,1,2]),(aB 197 1 196,[0,1,2]),(cm 198 197,[0,1,2]),(yq 199 195 198,[0,1]),(cU 200 22 194 199,[]),(aa 11 200,[])]
abbrev WU:=[ak 201 0 2,aB 202 1 201,Du 203 202 18]
abbrev UF:=[jF 214 203 10,aO 213 214]
abbrev Z3:=[aa 215 11,ak 216 2 2,aB 217 1 216,bE 218 215,ak 219 0 218,aZ 1 219 217]
abbrev Sj:=[jF 221 203 11,aO 220 221]
abbrev Yc:=[aa 222 11,ak 223 2 2,aB 224 1 223,bE 225 222,ak 226 1 225,aZ 1 226 224]
abbrev Zc:=[jF 228 203 12,aO 227 228]
abbrev UP:=[aa 229 11,ak 230 2 2,aB 231 1 230,bE 232 229,ak 233 2 232,aZ 1 233 231]
abbrev SI:=[jF 235 203 13,aO 234 235]
abbrev ad8:=[aa 236 11,ak 237 2 2,aB 238 1 237,bE 239 236,ak 240 3 239,aZ 1 240 238]
abbrev RN:=[jF 242 203 14,aO 241 242]
abbrev YC:List (aj×List Nat):=[(aa 243 11,[]),(ak 244 5 2,[0]),(bI 245 3 244,[0]),(aa 246 11,[0,1,2]),(bE 247 246,[0,1,2]),(ak 248 4 247,[0,1,2]),(bI 249 18 248,[0,1,2]),(cK 250 111 245 249,[0]),(bE 251 243,[]),(ak 252 4 251,[]),(aZ 18 252 250,[])]
abbrev adn:=[jF 254 203 15,aO 253 254]
abbrev abT:List (aj×List Nat):=[(ak 255 2 5,[]),(aB 256 1 255,[]),(aa 257 11,[0,1]),(bE 258 257,[0,1]),(bI 259 22 258,[0,1]),(oo 260 (.lC nK 1 [(0,22,.t 259)]),[0,1]),(oo 261 (.app 22 192 nK (.t 256) (.t 260)),[]),(ak 262 2 5,[]),(aZ 1 262 261,[])]
abbrev RJ:=[jF 264 203 16,aO 263 264]
abbrev Z4:List (aj×List Nat):=[(ak 265 2 5,[]),(aB 266 1 265,[]),(aa 267 11,[0,1]),(aa 268 11,[0,1,2]),(bE 269 268,[0,1,2]),(bI 270 22 269,[0,1,2]),(ak 271 2 5,[0,1,2,3,4,5]),(aB 272 1 271,[0,1,2,3,4,5]),(lZ 273 22 272 0,[0,1,2,3,4,5]),(bI 274 22 273,[0,1,2,3,4,5]),(lZ 275 22 266 0,[2]),(aZ 22 275 270,[2]),(bE 276 267,[]),(aZ 22 276 274,[])]
abbrev Vg:List (aj×List Nat):=[(ak 204 2 5,[]),(aB 205 1 204,[]),(aa 206 8,[0,1]),(ak 207 2 5,[0,1,2]),(aB 208 1 207,[0,1,2]),(cm 209 208,[0,1,2]),(yq 210 206 209,[0,1]),(BE 211 22 205 210,[]),(ak 212 2 5,[]),(aZ 1 212 211,[])]
abbrev RM:=[bI 277 3 5,aZ 3 4 277]
abbrev asd:=(ay al9 (ay agq (ay aol (.seq (ay afO (.block 0 (.loop akO))) (ay Xu (ay abm (.seq (ay abI (.cond (.t 54) (.seq (.cG Ww) (ay TG (.block 2 (ay Vl (.cond (.t 66) (.cQ acn) (ay Sm (.cond (.t 78) (.cQ ace) (ay ack (.cond (.t 85) (.cQ T9) (ay R5 (.cond (.t 95) (.cG adA) .skip))))))))))) .skip)) (.seq (ay Wn (.cond (.t 108) (.seq (.cG XF) (ay X2 (.block 3 (ay WQ (.cond (.t 120) (.cQ Wm) (ay WO (.cond (.t 127) (.cG T5) (ay aae (.cond (.t 143) (.cG UB) (ay R3 (.cond (.t 159) (.cG Wy) (ay aax (.cond (.t 172) (.cQ Uu) (ay TT (.cond (.t 179) (.cG Vy) .skip))))))))))))))) .skip)) (.seq (ay acj (.cond (.t 192) (.seq (.cG VF) (ay WU (.block 4 (ay UF (.cond (.t 213) (.cQ Z3) (ay Sj (.cond (.t 220) (.cQ Yc) (ay Zc (.cond (.t 227) (.cQ UP) (ay SI (.cond (.t 234) (.cQ ad8) (ay RN (.cond (.t 241) (.cG YC) (ay adn (.cond (.t 253) (.cG abT) (ay RJ (.cond (.t 263) (.cG Z4) (.cG Vg)))))))))))))))))) .skip)) (ay RM .ret))))))))))
def i30:dm:=⟨2,278,[22,54,66,78,85,95,108,120,127,143,159,172,179,192,213,220,227,234,241,253,263],asd,[.c 4 true 3]⟩
theorem Zj:aK av Tryz.f30=some i30:=by kernel_rfl
def B0:aW:={cells:=[.s [97,110,110],.i .i64 0,.s [98,111,98],.i .i64 0,.s [101,118,101],.i .i64 0],gr:=some 2}
def B1:aW:={cells:=[.i .i64 10,.i .i64 20],gr:=some 1}
def B2:aW:={cells:=[.i .i64 100,.i .i64 300],gr:=some 1}
def B3:aW:={cells:=[.i .i64 30],gr:=some 1}
def B4:aW:={cells:=[.i .i64 50],gr:=some 1}
def B5:aW:={cells:=[.i .i64 0,.sg 1 0 2,.sg 2 0 2,.i .u64 4,.i .i64 1,.sg 3 0 1,.sg 4 0 1,.i .u64 0],gr:=some 4}
def B6:aW:={cells:=[.i .i64 1,.i .i64 0,.i .i64 2,.i .i64 1,.fz [.i .i64 10,.i .i64 20] 2,.i .i64 1,.i .i64 3000,.i .i64 (-1),.i .i64 (-1),.i .i64 0,.i .i64 3,.i .i64 0,.i .i64 0,.b false,.i .i64 0,.i .i64 0,.i .i64 0,.i .i64 0,.i .i64 0,.i .i64 0,.i .i64 0,.i .i64 0],gr:=some 22}
def B7:aW:={cells:=[.sg 0 0 3,.sg 5 0 2,.sg 6 0 1]}
def uK:List AV:=[.fz [.s [97,110,110],.i .i64 0,.s [98,111,98],.i .i64 0,.s [101,118,101],.i .i64 0] 3,.fz [.i .i64 0,.fz [.i .i64 10,.i .i64 20] 2,.fz [.i .i64 100,.i .i64 300] 2,.i .u64 4,.i .i64 1,.fz [.i .i64 30] 1,.fz [.i .i64 50] 1,.i .u64 0] 2,.fz [.i .i64 1,.i .i64 0,.i .i64 2,.i .i64 1,.fz [.i .i64 10,.i .i64 20] 2,.i .i64 1,.i .i64 3000,.i .i64 (-1),.i .i64 (-1),.i .i64 0,.i .i64 3,.i .i64 0,.i .i64 0,.b false,.i .i64 0,.i .i64 0,.i .i64 0,.i .i64 0,.i .i64 0,.i .i64 0,.i .i64 0,.i .i64 0] 1]
theorem xw:QF.a=uK:=by kernel_rfl
def EY:Hp:=[(0,B0),(1,B1),(2,B2),(3,B3),(4,B4),(5,B5),(6,B6)]
def iN:Hp:=[(0,B0),(1,B1),(2,B2),(3,B3),(4,B4),(5,B5),(6,B6),(7,B7)]
def BN:AV:= .agg [.i .u8 17,.i .u8 0,.i .i64 0,.s [],.i .u64 0,.i .u8 0,.i .u8 0,.i .i64 0]
def Gb:AV:= .agg [.sg 0 0 3,.sg 5 0 2,.sg 6 0 1]
theorem gM:decide (72<=aE)=true/\decide (16<=aE)=true/\decide (8<=aE)=true/\decide (64<=aE)=true/\decide (128<=aE)=true/\decide (192<=aE)=true/\decide (384<=aE)=true:=by simp [aE]
theorem jq {v:AV} {n:Nat} {rd:List Nat} {l:List (Nat×aW)} {pn:Option Value}:(bX.mk v n rd [] l pn).fe []=l++[]:=rfl
theorem asm:bt av 30 [BN,.agg uK] [] 0 Gb EY 7:=by
 refine dT (cx:=bZ []) Sound.nil Tryz.func30 Zj ?_
 dsimp only [i30,BN,uK];obtain ⟨g1,g2,g3,g4,g5,g6,g7⟩:=gM;simp only [go_sem,g1,g2,g3,g4,g5,g6,g7,simprocAttr];refine Loop.rounds (F:=⟨av,bZ [],i30.ct,i30.N,0⟩) 3 Sound.nil mo ?_;dsimp only [i30];simp only [go_sem,g1,g2,g3,g4,g5,g6,g7,or_self,pX,simprocAttr];refine Ends.R [(0,4),(1,7),(2,9),(3,14),(4,16),(5,18),(6,19)] (by decide) (by decide) rfl rfl ?_
 simp [iy,EY,B0,B1,B2,B3,B4,B5,B6,ab,rn,aW.aH,aL,AV.aH,ae,AV.al,cj]
noncomputable def k8:Ct:=kH [] [] [BN,.agg uK] Gb EY 7 none
theorem xv:aq av 30 k8:=bY (by kernel_rfl) (by decide) (by kernel_rfl) asm (by decide) (by kernel_rfl)
theorem xi:k8 [BN,.agg uK] [] 0=some (true,{v:=Gb,n:=7,rd:=[],md:=[],nw:=EY}):=dt (by kernel_rfl) trivial (by kernel_rfl)
theorem xg:Hc [0,1,2,3,4,5,6,7] iN [0,1,2,3,4,5,6,7] [B0,B1,B2,B3,B4,B5,B6,B7]:=⟨⟨rfl,rfl⟩,⟨rfl,rfl⟩,⟨rfl,rfl⟩,⟨rfl,rfl⟩,⟨rfl,rfl⟩,⟨rfl,rfl⟩,⟨rfl,rfl⟩,⟨rfl,rfl⟩,trivial⟩
theorem KH:i29.code= .seq (.cQ Q1) (.seq (.cQ Rf) (.seq (.cQ Q8) (.seq (.cQ Q6) .ret))):=rfl
def YD:Hp:=[(0,{cells:=[.s [97,110,110],.i .i64 0,.s [97,110,110],.i .i64 0,.s [101,118,101],.i .i64 0],gr:=some 2}),(1,B1),(2,B2),(3,B3),(4,B4),(5,B5),(6,B6),(7,B7)]
theorem ar2 (n:Nat):bj l8 [.agg [.sg 0 0 3,.sg 5 0 2,.sg 6 0 1]] YD n=some (true,{v:= .i .i64 420,n,rd:=[0,5,1,2,3,4,6]}):=by kernel_rfl
theorem w31:bt av 31 [.p 7 0] iN 8 (.bg []) YD 8:=by
 refine dT (cx:=bZ []) Sound.nil Tryz.func31 XA ?_
 dsimp only [i31,iN,B0,B1,B2,B3,B4,B5,B6,B7];simp only [go_sem,gM,simprocAttr];refine Ends.R [] (by decide) (by decide) rfl rfl ?_
 simp [iy,YD,B0,B1,B2,B3,B4,B5,B6,B7,ab,rn,aW.aH,aL,AV.aH,ae,AV.al,cj]
noncomputable def k31:Ct:=kH [0,1,2,3,4,5,6,7] [B0,B1,B2,B3,B4,B5,B6,B7] [.p 7 0] (.bg []) YD 8 none
theorem s31:aq av 31 k31:=bY (by kernel_rfl) (by decide) (by kernel_rfl) w31 (by decide) (by kernel_rfl)
theorem arT:k31 [.p 7 0] iN 8=some (true,{v:= .bg [],n:=8,rd:=[0,1,2,3,4,5,6,7],md:=[(0,some {cells:=[.s [97,110,110],.i .i64 0,.s [97,110,110],.i .i64 0,.s [101,118,101],.i .i64 0],gr:=some 2}),(1,some B1),(2,some B2),(3,some B3),(4,some B4),(5,some B5),(6,some B6),(7,some B7)],nw:=[]}):=dt (by kernel_rfl) xg (by kernel_rfl)
theorem SY:bt av 29 [.fn 31 [],.fp QF.a 0] [] 0 (.b true) [] 0:=by
 have hcx:Sound av (bZ [(17,bj l8),(30,k8),(31,k31)]):=Sound.cons G5.nv (Sound.cons xv (Sound.cons s31 Sound.nil));rw [xw];have q1:=xi;have q2:=arT;have q3:=ar2;refine bt.jo (cx:=bZ [(17,bj l8),(30,k8),(31,k31)]) Tryz.func29 lA (by simp [i29]) ?_
 rw [KH];refine ck.part hcx mo ?_;dsimp only [i29,uK,BN];dsimp only [uK,BN,Gb,EY] at q1;simp only [go_sem,simprocAttr];refine ck.part hcx mo ?_;simp only [go_sem,q1,jq,cM,simprocAttr];refine ck.aH [] (e2:=[(0,.fn 31 []),(4,.p 7 0)]) (h2:=iN) (n2:=8) ?_ (by decide) (by decide) (by simp only [go_sem,AV.aH,aL,aW.aH,AV.al,ae,aG,simprocAttr]) (by dsimp only [iN,B0,B1,B2,B3,B4,B5,B6,B7];simp only [go_sem,AV.aH,aL,aW.aH,AV.al,ae,aG,simprocAttr])
 refine ck.part hcx mo ?_;dsimp only [iN] at q2 ⊢;simp only [go_sem,q2,simprocAttr];refine ck.aH [] (e2:=[(4,.p 7 0)]) (h2:=YD) (n2:=8) ?_ (by decide) (by decide) (by simp only [go_sem,AV.aH,aL,aW.aH,AV.al,ae,aG,simprocAttr]) (by dsimp only [YD,B0,B1,B2,B3,B4,B5,B6,B7];simp only [go_sem,AV.aH,aL,aW.aH,AV.al,ae,aG,simprocAttr])
 refine ck.run hcx mo ?_;dsimp only [YD,i29,B0,B1,B2,B3,B4,B5,B6,B7] at q3 ⊢;simp only [go_sem,q3,simprocAttr];exact Ends.au rfl rfl
def H32:Hp:=[(0,{cells:=[.s [],.i .i64 0,.s [98,111,98],.i .i64 0,.s [101,118,101],.i .i64 0],gr:=some 2}),(1,B1),(2,B2),(3,B3),(4,B4),(5,B5),(6,B6),(7,B7)]
theorem auf (n:Nat):bj l8 [.agg [.sg 0 0 3,.sg 5 0 2,.sg 6 0 1]] H32 n=some (true,{v:= .i .i64 420,n,rd:=[0,5,1,2,3,4,6]}):=by kernel_rfl
theorem w32:bt av 32 [.p 7 0] iN 8 (.bg []) H32 8:=by
 refine dT (cx:=bZ []) Sound.nil Tryz.func32 Ya ?_
 dsimp only [i32,iN,B0,B1,B2,B3,B4,B5,B6,B7];simp only [go_sem,gM,simprocAttr];refine Ends.R [] (by decide) (by decide) rfl rfl ?_
 simp [iy,H32,B0,B1,B2,B3,B4,B5,B6,B7,ab,rn,aW.aH,aL,AV.aH,ae,AV.al,cj]
noncomputable def k32:Ct:=kH [0,1,2,3,4,5,6,7] [B0,B1,B2,B3,B4,B5,B6,B7] [.p 7 0] (.bg []) H32 8 none
theorem s32:aq av 32 k32:=bY (by kernel_rfl) (by decide) (by kernel_rfl) w32 (by decide) (by kernel_rfl)
theorem aqK:k32 [.p 7 0] iN 8=some (true,{v:= .bg [],n:=8,rd:=[0,1,2,3,4,5,6,7],md:=[(0,some {cells:=[.s [],.i .i64 0,.s [98,111,98],.i .i64 0,.s [101,118,101],.i .i64 0],gr:=some 2}),(1,some B1),(2,some B2),(3,some B3),(4,some B4),(5,some B5),(6,some B6),(7,some B7)],nw:=[]}):=dt (by kernel_rfl) xg (by kernel_rfl)
theorem acY:bt av 29 [.fn 32 [],.fp QF.a 0] [] 0 (.b true) [] 0:=by
 have hcx:Sound av (bZ [(17,bj l8),(30,k8),(32,k32)]):=Sound.cons G5.nv (Sound.cons xv (Sound.cons s32 Sound.nil));rw [xw];have q1:=xi;have q2:=aqK;have q3:=auf;refine bt.jo (cx:=bZ [(17,bj l8),(30,k8),(32,k32)]) Tryz.func29 lA (by simp [i29]) ?_
 rw [KH];refine ck.part hcx mo ?_;dsimp only [i29,uK,BN];dsimp only [uK,BN,Gb,EY] at q1;simp only [go_sem,simprocAttr];refine ck.part hcx mo ?_;simp only [go_sem,q1,jq,cM,simprocAttr];refine ck.aH [] (e2:=[(0,.fn 32 []),(4,.p 7 0)]) (h2:=iN) (n2:=8) ?_ (by decide) (by decide) (by simp only [go_sem,AV.aH,aL,aW.aH,AV.al,ae,aG,simprocAttr]) (by dsimp only [iN,B0,B1,B2,B3,B4,B5,B6,B7];simp only [go_sem,AV.aH,aL,aW.aH,AV.al,ae,aG,simprocAttr])
 refine ck.part hcx mo ?_;dsimp only [iN] at q2 ⊢;simp only [go_sem,q2,simprocAttr];refine ck.aH [] (e2:=[(4,.p 7 0)]) (h2:=H32) (n2:=8) ?_ (by decide) (by decide) (by simp only [go_sem,AV.aH,aL,aW.aH,AV.al,ae,aG,simprocAttr]) (by dsimp only [H32,B0,B1,B2,B3,B4,B5,B6,B7];simp only [go_sem,AV.aH,aL,aW.aH,AV.al,ae,aG,simprocAttr])
 refine ck.run hcx mo ?_;dsimp only [H32,i29,B0,B1,B2,B3,B4,B5,B6,B7] at q3 ⊢;simp only [go_sem,q3,simprocAttr];exact Ends.au rfl rfl
def S3:Hp:=[(0,B0),(1,B1),(2,B2),(3,B3),(4,B4),(5,B5),(6,B6),(7,{cells:=[.sg 0 0 2,.sg 5 0 2,.sg 6 0 1]})]
theorem auu (n:Nat):bj l8 [.agg [.sg 0 0 2,.sg 5 0 2,.sg 6 0 1]] S3 n=some (true,{v:= .i .i64 420,n,rd:=[0,5,1,2,3,4,6]}):=by kernel_rfl
theorem w33:bt av 33 [.p 7 0] iN 8 (.bg []) S3 8:=by
 refine dT (cx:=bZ []) Sound.nil Tryz.func33 Ut ?_
 dsimp only [i33,iN,B0,B1,B2,B3,B4,B5,B6,B7];simp only [go_sem,gM,simprocAttr];refine Ends.R [] (by decide) (by decide) rfl rfl ?_
 simp [iy,S3,B0,B1,B2,B3,B4,B5,B6,B7,ab,rn,aW.aH,aL,AV.aH,ae,AV.al,cj]
noncomputable def k33:Ct:=kH [0,1,2,3,4,5,6,7] [B0,B1,B2,B3,B4,B5,B6,B7] [.p 7 0] (.bg []) S3 8 none
theorem s33:aq av 33 k33:=bY (by kernel_rfl) (by decide) (by kernel_rfl) w33 (by decide) (by kernel_rfl)
theorem ati:k33 [.p 7 0] iN 8=some (true,{v:= .bg [],n:=8,rd:=[0,1,2,3,4,5,6,7],md:=[(0,some B0),(1,some B1),(2,some B2),(3,some B3),(4,some B4),(5,some B5),(6,some B6),(7,some {cells:=[.sg 0 0 2,.sg 5 0 2,.sg 6 0 1]})],nw:=[]}):=dt (by kernel_rfl) xg (by kernel_rfl)
theorem Tk:bt av 29 [.fn 33 [],.fp QF.a 0] [] 0 (.b true) [] 0:=by
 have hcx:Sound av (bZ [(17,bj l8),(30,k8),(33,k33)]):=Sound.cons G5.nv (Sound.cons xv (Sound.cons s33 Sound.nil));rw [xw];have q1:=xi;have q2:=ati;have q3:=auu;refine bt.jo (cx:=bZ [(17,bj l8),(30,k8),(33,k33)]) Tryz.func29 lA (by simp [i29]) ?_
 rw [KH];refine ck.part hcx mo ?_;dsimp only [i29,uK,BN];dsimp only [uK,BN,Gb,EY] at q1;simp only [go_sem,simprocAttr];refine ck.part hcx mo ?_;simp only [go_sem,q1,jq,cM,simprocAttr];refine ck.aH [] (e2:=[(0,.fn 33 []),(4,.p 7 0)]) (h2:=iN) (n2:=8) ?_ (by decide) (by decide) (by simp only [go_sem,AV.aH,aL,aW.aH,AV.al,ae,aG,simprocAttr]) (by dsimp only [iN,B0,B1,B2,B3,B4,B5,B6,B7];simp only [go_sem,AV.aH,aL,aW.aH,AV.al,ae,aG,simprocAttr])
 refine ck.part hcx mo ?_;dsimp only [iN] at q2 ⊢;simp only [go_sem,q2,simprocAttr];refine ck.aH [] (e2:=[(4,.p 7 0)]) (h2:=S3) (n2:=8) ?_ (by decide) (by decide) (by simp only [go_sem,AV.aH,aL,aW.aH,AV.al,ae,aG,simprocAttr]) (by dsimp only [S3,B0,B1,B2,B3,B4,B5,B6,B7];simp only [go_sem,AV.aH,aL,aW.aH,AV.al,ae,aG,simprocAttr])
 refine ck.run hcx mo ?_;dsimp only [S3,i29,B0,B1,B2,B3,B4,B5,B6,B7] at q3 ⊢;simp only [go_sem,q3,simprocAttr];exact Ends.au rfl rfl
def H34:Hp:=[(0,B0),(1,B1),(2,B2),(3,B3),(4,B4),(5,{cells:=[.i .i64 0,.sg 1 0 2,.sg 2 0 2,.i .u64 2,.i .i64 1,.sg 3 0 1,.sg 4 0 1,.i .u64 0],gr:=some 4}),(6,B6),(7,B7)]
theorem atv (n:Nat):bj l8 [.agg [.sg 0 0 3,.sg 5 0 2,.sg 6 0 1]] H34 n=some (true,{v:= .i .i64 420,n,rd:=[0,5,1,2,3,4,6]}):=by kernel_rfl
theorem w34:bt av 34 [.p 7 0] iN 8 (.bg []) H34 8:=by
 refine dT (cx:=bZ []) Sound.nil Tryz.func34 ad6 ?_
 dsimp only [i34,iN,B0,B1,B2,B3,B4,B5,B6,B7];simp only [go_sem,gM,simprocAttr];refine Ends.R [] (by decide) (by decide) rfl rfl ?_
 simp [iy,H34,B0,B1,B2,B3,B4,B5,B6,B7,ab,rn,aW.aH,aL,AV.aH,ae,AV.al,cj]
noncomputable def k34:Ct:=kH [0,1,2,3,4,5,6,7] [B0,B1,B2,B3,B4,B5,B6,B7] [.p 7 0] (.bg []) H34 8 none
theorem s34:aq av 34 k34:=bY (by kernel_rfl) (by decide) (by kernel_rfl) w34 (by decide) (by kernel_rfl)
theorem ap0:k34 [.p 7 0] iN 8=some (true,{v:= .bg [],n:=8,rd:=[0,1,2,3,4,5,6,7],md:=[(0,some B0),(1,some B1),(2,some B2),(3,some B3),(4,some B4),(5,some {cells:=[.i .i64 0,.sg 1 0 2,.sg 2 0 2,.i .u64 2,.i .i64 1,.sg 3 0 1,.sg 4 0 1,.i .u64 0],gr:=some 4}),(6,some B6),(7,some B7)],nw:=[]}):=dt (by kernel_rfl) xg (by kernel_rfl)
theorem aar:bt av 29 [.fn 34 [],.fp QF.a 0] [] 0 (.b true) [] 0:=by
 have hcx:Sound av (bZ [(17,bj l8),(30,k8),(34,k34)]):=Sound.cons G5.nv (Sound.cons xv (Sound.cons s34 Sound.nil));rw [xw];have q1:=xi;have q2:=ap0;have q3:=atv;refine bt.jo (cx:=bZ [(17,bj l8),(30,k8),(34,k34)]) Tryz.func29 lA (by simp [i29]) ?_
 rw [KH];refine ck.part hcx mo ?_;dsimp only [i29,uK,BN];dsimp only [uK,BN,Gb,EY] at q1;simp only [go_sem,simprocAttr];refine ck.part hcx mo ?_;simp only [go_sem,q1,jq,cM,simprocAttr];refine ck.aH [] (e2:=[(0,.fn 34 []),(4,.p 7 0)]) (h2:=iN) (n2:=8) ?_ (by decide) (by decide) (by simp only [go_sem,AV.aH,aL,aW.aH,AV.al,ae,aG,simprocAttr]) (by dsimp only [iN,B0,B1,B2,B3,B4,B5,B6,B7];simp only [go_sem,AV.aH,aL,aW.aH,AV.al,ae,aG,simprocAttr])
 refine ck.part hcx mo ?_;dsimp only [iN] at q2 ⊢;simp only [go_sem,q2,simprocAttr];refine ck.aH [] (e2:=[(4,.p 7 0)]) (h2:=H34) (n2:=8) ?_ (by decide) (by decide) (by simp only [go_sem,AV.aH,aL,aW.aH,AV.al,ae,aG,simprocAttr]) (by dsimp only [H34,B0,B1,B2,B3,B4,B5,B6,B7];simp only [go_sem,AV.aH,aL,aW.aH,AV.al,ae,aG,simprocAttr])
 refine ck.run hcx mo ?_;dsimp only [H34,i29,B0,B1,B2,B3,B4,B5,B6,B7] at q3 ⊢;simp only [go_sem,q3,simprocAttr];exact Ends.au rfl rfl
def H35:Hp:=[(0,B0),(1,B1),(2,B2),(3,{cells:=[.i .i64 20],gr:=some 1}),(4,B4),(5,B5),(6,B6),(7,B7)]
theorem atP (n:Nat):bj l8 [.agg [.sg 0 0 3,.sg 5 0 2,.sg 6 0 1]] H35 n=some (true,{v:= .i .i64 420,n,rd:=[0,5,1,2,3,4,6]}):=by kernel_rfl
theorem w35:bt av 35 [.p 7 0] iN 8 (.bg []) H35 8:=by
 refine dT (cx:=bZ []) Sound.nil Tryz.func35 Wx ?_
 dsimp only [i35,iN,B0,B1,B2,B3,B4,B5,B6,B7];simp only [go_sem,gM,simprocAttr];refine Ends.R [] (by decide) (by decide) rfl rfl ?_
 simp [iy,H35,B0,B1,B2,B3,B4,B5,B6,B7,ab,rn,aW.aH,aL,AV.aH,ae,AV.al,cj]
noncomputable def k35:Ct:=kH [0,1,2,3,4,5,6,7] [B0,B1,B2,B3,B4,B5,B6,B7] [.p 7 0] (.bg []) H35 8 none
theorem s35:aq av 35 k35:=bY (by kernel_rfl) (by decide) (by kernel_rfl) w35 (by decide) (by kernel_rfl)
theorem aqa:k35 [.p 7 0] iN 8=some (true,{v:= .bg [],n:=8,rd:=[0,1,2,3,4,5,6,7],md:=[(0,some B0),(1,some B1),(2,some B2),(3,some {cells:=[.i .i64 20],gr:=some 1}),(4,some B4),(5,some B5),(6,some B6),(7,some B7)],nw:=[]}):=dt (by kernel_rfl) xg (by kernel_rfl)
theorem RU:bt av 29 [.fn 35 [],.fp QF.a 0] [] 0 (.b true) [] 0:=by
 have hcx:Sound av (bZ [(17,bj l8),(30,k8),(35,k35)]):=Sound.cons G5.nv (Sound.cons xv (Sound.cons s35 Sound.nil));rw [xw];have q1:=xi;have q2:=aqa;have q3:=atP;refine bt.jo (cx:=bZ [(17,bj l8),(30,k8),(35,k35)]) Tryz.func29 lA (by simp [i29]) ?_
 rw [KH];refine ck.part hcx mo ?_;dsimp only [i29,uK,BN];dsimp only [uK,BN,Gb,EY] at q1;simp only [go_sem,simprocAttr];refine ck.part hcx mo ?_;simp only [go_sem,q1,jq,cM,simprocAttr];refine ck.aH [] (e2:=[(0,.fn 35 []),(4,.p 7 0)]) (h2:=iN) (n2:=8) ?_ (by decide) (by decide) (by simp only [go_sem,AV.aH,aL,aW.aH,AV.al,ae,aG,simprocAttr]) (by dsimp only [iN,B0,B1,B2,B3,B4,B5,B6,B7];simp only [go_sem,AV.aH,aL,aW.aH,AV.al,ae,aG,simprocAttr])
 refine ck.part hcx mo ?_;dsimp only [iN] at q2 ⊢;simp only [go_sem,q2,simprocAttr];refine ck.aH [] (e2:=[(4,.p 7 0)]) (h2:=H35) (n2:=8) ?_ (by decide) (by decide) (by simp only [go_sem,AV.aH,aL,aW.aH,AV.al,ae,aG,simprocAttr]) (by dsimp only [H35,B0,B1,B2,B3,B4,B5,B6,B7];simp only [go_sem,AV.aH,aL,aW.aH,AV.al,ae,aG,simprocAttr])
 refine ck.run hcx mo ?_;dsimp only [H35,i29,B0,B1,B2,B3,B4,B5,B6,B7] at q3 ⊢;simp only [go_sem,q3,simprocAttr];exact Ends.au rfl rfl
def H36:Hp:=[(0,B0),(1,B1),(2,B2),(3,B3),(4,B4),(5,B5),(6,{cells:=[.i .i64 1,.i .i64 0,.i .i64 2,.i .i64 2,.fz [.i .i64 10,.i .i64 20] 2,.i .i64 1,.i .i64 3000,.i .i64 (-1),.i .i64 (-1),.i .i64 0,.i .i64 3,.i .i64 0,.i .i64 0,.b false,.i .i64 0,.i .i64 0,.i .i64 0,.i .i64 0,.i .i64 0,.i .i64 0,.i .i64 0,.i .i64 0],gr:=some 22}),(7,B7)]
theorem asW (n:Nat):bj l8 [.agg [.sg 0 0 3,.sg 5 0 2,.sg 6 0 1]] H36 n=some (true,{v:= .i .i64 420,n,rd:=[0,5,1,2,3,4,6]}):=by kernel_rfl
theorem w36:bt av 36 [.p 7 0] iN 8 (.bg []) H36 8:=by
 refine dT (cx:=bZ []) Sound.nil Tryz.func36 W5 ?_
 dsimp only [i36,iN,B0,B1,B2,B3,B4,B5,B6,B7];simp only [go_sem,gM,simprocAttr];refine Ends.R [] (by decide) (by decide) rfl rfl ?_
 simp [iy,H36,B0,B1,B2,B3,B4,B5,B6,B7,ab,rn,aW.aH,aL,AV.aH,ae,AV.al,cj]
noncomputable def k36:Ct:=kH [0,1,2,3,4,5,6,7] [B0,B1,B2,B3,B4,B5,B6,B7] [.p 7 0] (.bg []) H36 8 none
theorem s36:aq av 36 k36:=bY (by kernel_rfl) (by decide) (by kernel_rfl) w36 (by decide) (by kernel_rfl)
theorem aqV:k36 [.p 7 0] iN 8=some (true,{v:= .bg [],n:=8,rd:=[0,1,2,3,4,5,6,7],md:=[(0,some B0),(1,some B1),(2,some B2),(3,some B3),(4,some B4),(5,some B5),(6,some {cells:=[.i .i64 1,.i .i64 0,.i .i64 2,.i .i64 2,.fz [.i .i64 10,.i .i64 20] 2,.i .i64 1,.i .i64 3000,.i .i64 (-1),.i .i64 (-1),.i .i64 0,.i .i64 3,.i .i64 0,.i .i64 0,.b false,.i .i64 0,.i .i64 0,.i .i64 0,.i .i64 0,.i .i64 0,.i .i64 0,.i .i64 0,.i .i64 0],gr:=some 22}),(7,some B7)],nw:=[]}):=dt (by kernel_rfl) xg (by kernel_rfl)
theorem Uj:bt av 29 [.fn 36 [],.fp QF.a 0] [] 0 (.b true) [] 0:=by
 have hcx:Sound av (bZ [(17,bj l8),(30,k8),(36,k36)]):=Sound.cons G5.nv (Sound.cons xv (Sound.cons s36 Sound.nil));rw [xw];have q1:=xi;have q2:=aqV;have q3:=asW;refine bt.jo (cx:=bZ [(17,bj l8),(30,k8),(36,k36)]) Tryz.func29 lA (by simp [i29]) ?_
 rw [KH];refine ck.part hcx mo ?_;dsimp only [i29,uK,BN];dsimp only [uK,BN,Gb,EY] at q1;simp only [go_sem,simprocAttr];refine ck.part hcx mo ?_;simp only [go_sem,q1,jq,cM,simprocAttr];refine ck.aH [] (e2:=[(0,.fn 36 []),(4,.p 7 0)]) (h2:=iN) (n2:=8) ?_ (by decide) (by decide) (by simp only [go_sem,AV.aH,aL,aW.aH,AV.al,ae,aG,simprocAttr]) (by dsimp only [iN,B0,B1,B2,B3,B4,B5,B6,B7];simp only [go_sem,AV.aH,aL,aW.aH,AV.al,ae,aG,simprocAttr])
 refine ck.part hcx mo ?_;dsimp only [iN] at q2 ⊢;simp only [go_sem,q2,simprocAttr];refine ck.aH [] (e2:=[(4,.p 7 0)]) (h2:=H36) (n2:=8) ?_ (by decide) (by decide) (by simp only [go_sem,AV.aH,aL,aW.aH,AV.al,ae,aG,simprocAttr]) (by dsimp only [H36,B0,B1,B2,B3,B4,B5,B6,B7];simp only [go_sem,AV.aH,aL,aW.aH,AV.al,ae,aG,simprocAttr])
 refine ck.run hcx mo ?_;dsimp only [H36,i29,B0,B1,B2,B3,B4,B5,B6,B7] at q3 ⊢;simp only [go_sem,q3,simprocAttr];exact Ends.au rfl rfl
def H37:Hp:=[(0,B0),(1,B1),(2,B2),(3,B3),(4,B4),(5,B5),(6,{cells:=[.i .i64 1,.i .i64 1,.i .i64 2,.i .i64 1,.fz [.i .i64 10,.i .i64 20] 2,.i .i64 1,.i .i64 3000,.i .i64 (-1),.i .i64 (-1),.i .i64 0,.i .i64 3,.i .i64 0,.i .i64 0,.b false,.i .i64 0,.i .i64 0,.i .i64 0,.i .i64 0,.i .i64 0,.i .i64 0,.i .i64 0,.i .i64 0],gr:=some 22}),(7,B7)]
theorem at5 (n:Nat):bj l8 [.agg [.sg 0 0 3,.sg 5 0 2,.sg 6 0 1]] H37 n=some (true,{v:= .i .i64 420,n,rd:=[0,5,1,2,3,4,6]}):=by kernel_rfl
theorem w37:bt av 37 [.p 7 0] iN 8 (.bg []) H37 8:=by
 refine dT (cx:=bZ []) Sound.nil Tryz.func37 Zs ?_
 dsimp only [i37,iN,B0,B1,B2,B3,B4,B5,B6,B7];simp only [go_sem,gM,simprocAttr];refine Ends.R [] (by decide) (by decide) rfl rfl ?_
 simp [iy,H37,B0,B1,B2,B3,B4,B5,B6,B7,ab,rn,aW.aH,aL,AV.aH,ae,AV.al,cj]
noncomputable def k37:Ct:=kH [0,1,2,3,4,5,6,7] [B0,B1,B2,B3,B4,B5,B6,B7] [.p 7 0] (.bg []) H37 8 none
theorem s37:aq av 37 k37:=bY (by kernel_rfl) (by decide) (by kernel_rfl) w37 (by decide) (by kernel_rfl)
theorem asB:k37 [.p 7 0] iN 8=some (true,{v:= .bg [],n:=8,rd:=[0,1,2,3,4,5,6,7],md:=[(0,some B0),(1,some B1),(2,some B2),(3,some B3),(4,some B4),(5,some B5),(6,some {cells:=[.i .i64 1,.i .i64 1,.i .i64 2,.i .i64 1,.fz [.i .i64 10,.i .i64 20] 2,.i .i64 1,.i .i64 3000,.i .i64 (-1),.i .i64 (-1),.i .i64 0,.i .i64 3,.i .i64 0,.i .i64 0,.b false,.i .i64 0,.i .i64 0,.i .i64 0,.i .i64 0,.i .i64 0,.i .i64 0,.i .i64 0,.i .i64 0],gr:=some 22}),(7,some B7)],nw:=[]}):=dt (by kernel_rfl) xg (by kernel_rfl)
theorem Zw:bt av 29 [.fn 37 [],.fp QF.a 0] [] 0 (.b true) [] 0:=by
 have hcx:Sound av (bZ [(17,bj l8),(30,k8),(37,k37)]):=Sound.cons G5.nv (Sound.cons xv (Sound.cons s37 Sound.nil));rw [xw];have q1:=xi;have q2:=asB;have q3:=at5;refine bt.jo (cx:=bZ [(17,bj l8),(30,k8),(37,k37)]) Tryz.func29 lA (by simp [i29]) ?_
 rw [KH];refine ck.part hcx mo ?_;dsimp only [i29,uK,BN];dsimp only [uK,BN,Gb,EY] at q1;simp only [go_sem,simprocAttr];refine ck.part hcx mo ?_;simp only [go_sem,q1,jq,cM,simprocAttr];refine ck.aH [] (e2:=[(0,.fn 37 []),(4,.p 7 0)]) (h2:=iN) (n2:=8) ?_ (by decide) (by decide) (by simp only [go_sem,AV.aH,aL,aW.aH,AV.al,ae,aG,simprocAttr]) (by dsimp only [iN,B0,B1,B2,B3,B4,B5,B6,B7];simp only [go_sem,AV.aH,aL,aW.aH,AV.al,ae,aG,simprocAttr])
 refine ck.part hcx mo ?_;dsimp only [iN] at q2 ⊢;simp only [go_sem,q2,simprocAttr];refine ck.aH [] (e2:=[(4,.p 7 0)]) (h2:=H37) (n2:=8) ?_ (by decide) (by decide) (by simp only [go_sem,AV.aH,aL,aW.aH,AV.al,ae,aG,simprocAttr]) (by dsimp only [H37,B0,B1,B2,B3,B4,B5,B6,B7];simp only [go_sem,AV.aH,aL,aW.aH,AV.al,ae,aG,simprocAttr])
 refine ck.run hcx mo ?_;dsimp only [H37,i29,B0,B1,B2,B3,B4,B5,B6,B7] at q3 ⊢;simp only [go_sem,q3,simprocAttr];exact Ends.au rfl rfl
def Wr:Hp:=[(0,B0),(1,B1),(2,B2),(3,B3),(4,B4),(5,B5),(7,{cells:=[.sg 0 0 3,.sg 5 0 2,.sg 9 0 2]}),(9,{cells:=[.i .i64 1,.i .i64 0,.i .i64 2,.i .i64 1,.fz [.i .i64 10,.i .i64 20] 2,.i .i64 1,.i .i64 3000,.i .i64 (-1),.i .i64 (-1),.i .i64 0,.i .i64 3,.i .i64 0,.i .i64 0,.b false,.i .i64 0,.i .i64 0,.i .i64 0,.i .i64 0,.i .i64 0,.i .i64 0,.i .i64 0,.i .i64 0,.i .i64 1,.i .i64 0,.i .i64 2,.i .i64 1,.fz [.i .i64 10,.i .i64 20] 2,.i .i64 1,.i .i64 3000,.i .i64 (-1),.i .i64 (-1),.i .i64 0,.i .i64 3,.i .i64 0,.i .i64 0,.b false,.i .i64 0,.i .i64 0,.i .i64 0,.i .i64 0,.i .i64 0,.i .i64 0,.i .i64 0,.i .i64 0],gr:=some 22})]
theorem atp (n:Nat):bj l8 [.agg [.sg 0 0 3,.sg 5 0 2,.sg 9 0 2]] Wr n=some (true,{v:= .i .i64 420,n,rd:=[0,5,1,2,3,4,9]}):=by kernel_rfl
theorem w38:bt av 38 [.p 7 0] iN 8 (.bg []) Wr 10:=by
 refine dT (cx:=bZ []) Sound.nil Tryz.func38 ad0 ?_
 dsimp only [i38,iN,B0,B1,B2,B3,B4,B5,B6,B7];simp only [go_sem,gM,simprocAttr];refine Ends.R [] (by decide) (by decide) rfl rfl ?_
 simp [iy,Wr,B0,B1,B2,B3,B4,B5,B6,B7,ab,rn,aW.aH,aL,AV.aH,ae,AV.al,cj]
noncomputable def k38:Ct:=kH [0,1,2,3,4,5,6,7] [B0,B1,B2,B3,B4,B5,B6,B7] [.p 7 0] (.bg []) Wr 10 none
theorem s38:aq av 38 k38:=bY (by kernel_rfl) (by decide) (by kernel_rfl) w38 (by decide) (by kernel_rfl)
theorem at7:k38 [.p 7 0] iN 8=some (true,{v:= .bg [],n:=10,rd:=[0,1,2,3,4,5,6,7],md:=[(0,some B0),(1,some B1),(2,some B2),(3,some B3),(4,some B4),(5,some B5),(6,none),(7,some {cells:=[.sg 0 0 3,.sg 5 0 2,.sg 9 0 2]})],nw:=[(9,{cells:=[.i .i64 1,.i .i64 0,.i .i64 2,.i .i64 1,.fz [.i .i64 10,.i .i64 20] 2,.i .i64 1,.i .i64 3000,.i .i64 (-1),.i .i64 (-1),.i .i64 0,.i .i64 3,.i .i64 0,.i .i64 0,.b false,.i .i64 0,.i .i64 0,.i .i64 0,.i .i64 0,.i .i64 0,.i .i64 0,.i .i64 0,.i .i64 0,.i .i64 1,.i .i64 0,.i .i64 2,.i .i64 1,.fz [.i .i64 10,.i .i64 20] 2,.i .i64 1,.i .i64 3000,.i .i64 (-1),.i .i64 (-1),.i .i64 0,.i .i64 3,.i .i64 0,.i .i64 0,.b false,.i .i64 0,.i .i64 0,.i .i64 0,.i .i64 0,.i .i64 0,.i .i64 0,.i .i64 0,.i .i64 0],gr:=some 22})]}):=dt (by kernel_rfl) xg (by kernel_rfl)
theorem XK:bt av 29 [.fn 38 [],.fp QF.a 0] [] 0 (.b true) [] 0:=by
 have hcx:Sound av (bZ [(17,bj l8),(30,k8),(38,k38)]):=Sound.cons G5.nv (Sound.cons xv (Sound.cons s38 Sound.nil));rw [xw];have q1:=xi;have q2:=at7;have q3:=atp;refine bt.jo (cx:=bZ [(17,bj l8),(30,k8),(38,k38)]) Tryz.func29 lA (by simp [i29]) ?_
 rw [KH];refine ck.part hcx mo ?_;dsimp only [i29,uK,BN];dsimp only [uK,BN,Gb,EY] at q1;simp only [go_sem,simprocAttr];refine ck.part hcx mo ?_;simp only [go_sem,q1,jq,cM,simprocAttr];refine ck.aH [] (e2:=[(0,.fn 38 []),(4,.p 7 0)]) (h2:=iN) (n2:=8) ?_ (by decide) (by decide) (by simp only [go_sem,AV.aH,aL,aW.aH,AV.al,ae,aG,simprocAttr]) (by dsimp only [iN,B0,B1,B2,B3,B4,B5,B6,B7];simp only [go_sem,AV.aH,aL,aW.aH,AV.al,ae,aG,simprocAttr])
 refine ck.part hcx mo ?_;dsimp only [iN] at q2 ⊢;simp only [go_sem,q2,simprocAttr];refine ck.aH [] (e2:=[(4,.p 7 0)]) (h2:=Wr) (n2:=10) ?_ (by decide) (by decide) (by simp only [go_sem,AV.aH,aL,aW.aH,AV.al,ae,aG,simprocAttr]) (by dsimp only [Wr,B0,B1,B2,B3,B4,B5,B6,B7];simp only [go_sem,AV.aH,aL,aW.aH,AV.al,ae,aG,simprocAttr])
 refine ck.run hcx mo ?_;dsimp only [Wr,i29,B0,B1,B2,B3,B4,B5,B6,B7] at q3 ⊢;simp only [go_sem,q3,simprocAttr];exact Ends.au rfl rfl
def Sf:Hp:=[(0,B0),(1,B1),(2,B2),(3,B3),(4,B4),(5,B5),(6,{cells:=[.i .i64 1,.i .i64 0,.i .i64 2,.i .i64 0,.fz [.i .i64 10,.i .i64 20] 2,.i .i64 1,.i .i64 3000,.i .i64 (-1),.i .i64 1,.i .i64 0,.i .i64 3,.i .i64 0,.i .i64 0,.b false,.i .i64 0,.i .i64 0,.i .i64 0,.i .i64 0,.i .i64 0,.i .i64 0,.i .i64 0,.i .i64 0],gr:=some 22}),(7,B7)]
theorem aru (n:Nat):bj l8 [.agg [.sg 0 0 3,.sg 5 0 2,.sg 6 0 1]] Sf n=some (true,{v:= .i .i64 420,n,rd:=[0,5,1,2,3,4,6]}):=by kernel_rfl
theorem w39:bt av 39 [.p 7 0] iN 8 (.bg []) Sf 8:=by
 refine dT (cx:=bZ []) Sound.nil Tryz.func39 ZZ ?_
 dsimp only [i39,iN,B0,B1,B2,B3,B4,B5,B6,B7];simp only [go_sem,gM,simprocAttr];refine Ends.R [] (by decide) (by decide) rfl rfl ?_
 simp [iy,Sf,B0,B1,B2,B3,B4,B5,B6,B7,ab,rn,aW.aH,aL,AV.aH,ae,AV.al,cj]
noncomputable def k39:Ct:=kH [0,1,2,3,4,5,6,7] [B0,B1,B2,B3,B4,B5,B6,B7] [.p 7 0] (.bg []) Sf 8 none
theorem s39:aq av 39 k39:=bY (by kernel_rfl) (by decide) (by kernel_rfl) w39 (by decide) (by kernel_rfl)
theorem arR:k39 [.p 7 0] iN 8=some (true,{v:= .bg [],n:=8,rd:=[0,1,2,3,4,5,6,7],md:=[(0,some B0),(1,some B1),(2,some B2),(3,some B3),(4,some B4),(5,some B5),(6,some {cells:=[.i .i64 1,.i .i64 0,.i .i64 2,.i .i64 0,.fz [.i .i64 10,.i .i64 20] 2,.i .i64 1,.i .i64 3000,.i .i64 (-1),.i .i64 1,.i .i64 0,.i .i64 3,.i .i64 0,.i .i64 0,.b false,.i .i64 0,.i .i64 0,.i .i64 0,.i .i64 0,.i .i64 0,.i .i64 0,.i .i64 0,.i .i64 0],gr:=some 22}),(7,some B7)],nw:=[]}):=dt (by kernel_rfl) xg (by kernel_rfl)
theorem Td:bt av 29 [.fn 39 [],.fp QF.a 0] [] 0 (.b true) [] 0:=by
 have hcx:Sound av (bZ [(17,bj l8),(30,k8),(39,k39)]):=Sound.cons G5.nv (Sound.cons xv (Sound.cons s39 Sound.nil));rw [xw];have q1:=xi;have q2:=arR;have q3:=aru;refine bt.jo (cx:=bZ [(17,bj l8),(30,k8),(39,k39)]) Tryz.func29 lA (by simp [i29]) ?_
 rw [KH];refine ck.part hcx mo ?_;dsimp only [i29,uK,BN];dsimp only [uK,BN,Gb,EY] at q1;simp only [go_sem,simprocAttr];refine ck.part hcx mo ?_;simp only [go_sem,q1,jq,cM,simprocAttr];refine ck.aH [] (e2:=[(0,.fn 39 []),(4,.p 7 0)]) (h2:=iN) (n2:=8) ?_ (by decide) (by decide) (by simp only [go_sem,AV.aH,aL,aW.aH,AV.al,ae,aG,simprocAttr]) (by dsimp only [iN,B0,B1,B2,B3,B4,B5,B6,B7];simp only [go_sem,AV.aH,aL,aW.aH,AV.al,ae,aG,simprocAttr])
 refine ck.part hcx mo ?_;dsimp only [iN] at q2 ⊢;simp only [go_sem,q2,simprocAttr];refine ck.aH [] (e2:=[(4,.p 7 0)]) (h2:=Sf) (n2:=8) ?_ (by decide) (by decide) (by simp only [go_sem,AV.aH,aL,aW.aH,AV.al,ae,aG,simprocAttr]) (by dsimp only [Sf,B0,B1,B2,B3,B4,B5,B6,B7];simp only [go_sem,AV.aH,aL,aW.aH,AV.al,ae,aG,simprocAttr])
 refine ck.run hcx mo ?_;dsimp only [Sf,i29,B0,B1,B2,B3,B4,B5,B6,B7] at q3 ⊢;simp only [go_sem,q3,simprocAttr];exact Ends.au rfl rfl
def Vv:Hp:=[(0,B0),(1,B1),(2,B2),(3,B3),(4,B4),(5,B5),(6,{cells:=[.i .i64 1,.i .i64 0,.i .i64 2,.i .i64 1,.fz [.i .i64 10,.i .i64 20] 2,.i .i64 1,.i .i64 3000,.i .i64 (-1),.i .i64 1,.i .i64 0,.i .i64 3,.i .i64 0,.i .i64 0,.b false,.i .i64 0,.i .i64 0,.i .i64 0,.i .i64 0,.i .i64 0,.i .i64 0,.i .i64 0,.i .i64 0],gr:=some 22}),(7,B7)]
theorem auJ (n:Nat):bj l8 [.agg [.sg 0 0 3,.sg 5 0 2,.sg 6 0 1]] Vv n=some (true,{v:= .i .i64 0,n,rd:=[0,5,1,2,3,4,6]}):=by kernel_rfl
theorem w40:bt av 40 [.p 7 0] iN 8 (.bg []) Vv 8:=by
 refine dT (cx:=bZ []) Sound.nil Tryz.func40 ada ?_
 dsimp only [i40,iN,B0,B1,B2,B3,B4,B5,B6,B7];simp only [go_sem,gM,simprocAttr];refine Ends.R [] (by decide) (by decide) rfl rfl ?_
 simp [iy,Vv,B0,B1,B2,B3,B4,B5,B6,B7,ab,rn,aW.aH,aL,AV.aH,ae,AV.al,cj]
noncomputable def k40:Ct:=kH [0,1,2,3,4,5,6,7] [B0,B1,B2,B3,B4,B5,B6,B7] [.p 7 0] (.bg []) Vv 8 none
theorem s40:aq av 40 k40:=bY (by kernel_rfl) (by decide) (by kernel_rfl) w40 (by decide) (by kernel_rfl)
theorem atD:k40 [.p 7 0] iN 8=some (true,{v:= .bg [],n:=8,rd:=[0,1,2,3,4,5,6,7],md:=[(0,some B0),(1,some B1),(2,some B2),(3,some B3),(4,some B4),(5,some B5),(6,some {cells:=[.i .i64 1,.i .i64 0,.i .i64 2,.i .i64 1,.fz [.i .i64 10,.i .i64 20] 2,.i .i64 1,.i .i64 3000,.i .i64 (-1),.i .i64 1,.i .i64 0,.i .i64 3,.i .i64 0,.i .i64 0,.b false,.i .i64 0,.i .i64 0,.i .i64 0,.i .i64 0,.i .i64 0,.i .i64 0,.i .i64 0,.i .i64 0],gr:=some 22}),(7,some B7)],nw:=[]}):=dt (by kernel_rfl) xg (by kernel_rfl)
theorem RE:bt av 29 [.fn 40 [],.fp QF.a 0] [] 0 (.b false) [] 0:=by
 have hcx:Sound av (bZ [(17,bj l8),(30,k8),(40,k40)]):=Sound.cons G5.nv (Sound.cons xv (Sound.cons s40 Sound.nil));rw [xw];have q1:=xi;have q2:=atD;have q3:=auJ;refine bt.jo (cx:=bZ [(17,bj l8),(30,k8),(40,k40)]) Tryz.func29 lA (by simp [i29]) ?_
 rw [KH];refine ck.part hcx mo ?_;dsimp only [i29,uK,BN];dsimp only [uK,BN,Gb,EY] at q1;simp only [go_sem,simprocAttr];refine ck.part hcx mo ?_;simp only [go_sem,q1,jq,cM,simprocAttr];refine ck.aH [] (e2:=[(0,.fn 40 []),(4,.p 7 0)]) (h2:=iN) (n2:=8) ?_ (by decide) (by decide) (by simp only [go_sem,AV.aH,aL,aW.aH,AV.al,ae,aG,simprocAttr]) (by dsimp only [iN,B0,B1,B2,B3,B4,B5,B6,B7];simp only [go_sem,AV.aH,aL,aW.aH,AV.al,ae,aG,simprocAttr])
 refine ck.part hcx mo ?_;dsimp only [iN] at q2 ⊢;simp only [go_sem,q2,simprocAttr];refine ck.aH [] (e2:=[(4,.p 7 0)]) (h2:=Vv) (n2:=8) ?_ (by decide) (by decide) (by simp only [go_sem,AV.aH,aL,aW.aH,AV.al,ae,aG,simprocAttr]) (by dsimp only [Vv,B0,B1,B2,B3,B4,B5,B6,B7];simp only [go_sem,AV.aH,aL,aW.aH,AV.al,ae,aG,simprocAttr])
 refine ck.run hcx mo ?_;dsimp only [Vv,i29,B0,B1,B2,B3,B4,B5,B6,B7] at q3 ⊢;simp only [go_sem,q3,simprocAttr];exact Ends.au rfl rfl
theorem w29 (g:Nat) (h1:31<=g) (h2:g<=40):bt av 29 [.fn g [],.fp QF.a 0] [] 0 (.b (decide (g≠40))) [] 0:=by
 rcases (by omega:g=31\/g=32\/g=33\/g=34\/g=35\/g=36\/g=37\/g=38\/g=39\/g=40) with rfl|rfl|rfl|rfl|rfl|rfl|rfl|rfl|rfl|rfl
 ·exact SY
 ·exact acY
 ·exact Tk
 ·exact aar
 ·exact RU
 ·exact Uj
 ·exact Zw
 ·exact XK
 ·exact Td
 ·exact RE
noncomputable def C3:Ct:=fun a _ n=>match a with
 |[.fn g [],.fp c 0]=>open Classical in if c=QF.a/\31<=g/\g<=40 then some (true,{v:= .b (decide (g≠40)),n}) else none
 |_=>none
theorem s29:aq av 29 C3:=fun args h n c E hc ht=>by
 unfold C3 at hc;split at hc
 ·rename_i g c;split at hc
  ·rename_i hg;obtain ⟨rfl,h1,h2⟩:=hg;cases hc;exact ax.pure (by kernel_rfl) (by simp only [ae,AV.al,Rm.al,az]) rfl (w29 g h1 h2) _ _
  ·cases hc
 ·cases hc
theorem nQ (R:Rm) (o bl:Int) (ss rt:List Int) (e:Int) (hk: ∀h n,Bp [.i .i64 o,.fz (rows aC ss) ss.length,.fz (rows aC rt) rt.length,.i .u64 bl,.fp R.a 0] h n=some (true,{v:= .i .i64 e,n})) (h:Hp) (n b c d:Nat) (h1:ab h b=some {cells:=rows aC ss}) (h2:ab h c=some {cells:=rows aC rt}) (h3:ab h d=some {cells:=R.a}) (hs:ss≠[]) (hr:rt≠[]):
 bj Bp [.i .i64 o,.sl b 0 ss.length ss.length,.sl c 0 rt.length rt.length,.i .u64 bl,.p d 0] h n=some (true,{v:= .i .i64 e,n,rd:=[b,c,d]}):=by
 simp only [bj,bn,bQ,jN,iL,h3,dV,jQ,rG 5 ss b hs h1,rG 5 rt c hr h2,aS,hk,ee,List.nil_append,cM];rfl
theorem pZ (g:Nat) (h1:31<=g) (h2:g<=40) (h:Hp) (n d:Nat) (h3:ab h d=some {cells:=QF.a}):bj C3 [.fn g [],.p d 0] h n=some (true,{v:= .b (decide (g≠40)),n,rd:=[d]}):=by
 simp only [bj,bn,bQ,jf,iL,h3,dV,jQ,aS,C3,h1,h2,pU,cu,ee,List.nil_append,cM];rfl
theorem aiI (R:Rm) (hr:R.is=true) (h:Hp) (n:Nat):k21 [.agg R.a,.agg R.a] h n=some (true,{v:= .b true,n}):=by
 simp only [k21,ey,aS,cu,hr]
def QX1:Rm:=(iM QR [120]).1
def QX2:Rm:=(iM QX1 [121]).1
def QX3:Rm:=(iM QX2 [122]).1
def QW1:Rm:=(ik QX3 ⟨0,[100],[10],0⟩).1
def QW2:Rm:=(ik QW1 ⟨0,[101],[10],0⟩).1
def QW3:Rm:=(ik QW2 ⟨0,[102],[10],0⟩).1
def Ks:Rm:=(ik QW3 ⟨0,[103],[10],0⟩).1
def QM1:Rm:=(jT Ks 3 0 ⟨1,0,0,1⟩).1
def QM2:Rm:=(jT QM1 3 1 ⟨1,0,1,1⟩).1
def QM3:Rm:=(jT QM2 3 2 ⟨1,0,2,1⟩).1
def QM4:Rm:=(jT QM3 3 3 ⟨1,0,3,1⟩).1
def Ro:Rm:=(jT QM4 3 4 ⟨1,0,4,1⟩).1
def QN:Rm:=(mX Ro 3 20).1
def QK:Rm:=sC QR ⟨false,0,0,0,30,[],[],0,[232,128,0,0,0,107]⟩
theorem g1 (h:Hp) (n:Nat):AD [.agg (Rx QR),.i .i64 1,.i .i64 0,.i .i64 2,.i .i64 1,.i .i64 1,.i .i64 3000] h n=some (true,{v:= .bg [.agg (Rx QF),.i .i64 0],n}):=by kernel_rfl
theorem g2:((QF.ms.length:Int) !=3)=false:=by kernel_rfl
theorem g3:((QF.sh.length:Int) !=2)=false:=by kernel_rfl
theorem g4:((QF.tp.length:Int) !=1)=false:=by kernel_rfl
theorem g5:decide ((0:Int)<(QF.sh.length:Int))=true:=by kernel_rfl
theorem g6:decide ((1:Int)<(QF.sh.length:Int))=true:=by kernel_rfl
theorem g7:(rows bu.l QF.sh)[1]? =some (.fz [.i .i64 10,.i .i64 20] 2):=by kernel_rfl
theorem g8:(rows bu.l QF.sh)[2]? =some (.fz [.i .i64 100,.i .i64 300] 2):=by kernel_rfl
theorem g9:(rows bu.l QF.sh)[5]? =some (.fz [.i .i64 30] 1):=by kernel_rfl
theorem g10:(rows bu.l QF.sh)[6]? =some (.fz [.i .i64 50] 1):=by kernel_rfl
theorem g11 (h:Hp) (n:Nat):bj AA [.agg (Rx QR),.i .i64 3,.i .i64 0,.i .i64 1,.i .i64 0,.i .i64 1,.i .i64 1] h n=some (true,{v:= .i .i64 2,n,rd:=[]}):=by kernel_rfl
theorem g12 (h:Hp) (n:Nat):bj AA [.agg (Rx QR),.i .i64 1,.i .i64 2,.i .i64 1,.i .i64 0,.i .i64 1,.i .i64 1] h n=some (true,{v:= .i .i64 2,n,rd:=[]}):=by kernel_rfl
theorem g13 (h:Hp) (n:Nat):bj AA [.agg (Rx QR),.i .i64 (-1),.i .i64 0,.i .i64 1,.i .i64 0,.i .i64 1,.i .i64 1] h n=some (true,{v:= .i .i64 2,n,rd:=[]}):=by kernel_rfl
theorem g14 (h:Hp) (n:Nat):bj AA [.agg (Rx QR),.i .i64 2,.i .i64 0,.i .i64 0,.i .i64 9,.i .i64 (-1),.i .i64 0] h n=some (true,{v:= .i .i64 421,n,rd:=[]}):=by kernel_rfl
theorem g15 (h:Hp) (n:Nat):bj AA [.agg (Rx QR),.i .i64 1,.i .i64 0,.i .i64 0,.i .i64 0,.i .i64 1,.i .i64 1] h n=some (true,{v:= .i .i64 2,n,rd:=[]}):=by kernel_rfl
theorem g16 (h:Hp) (n:Nat):bj AA [.agg (Rx QR),.i .i64 1,.i .i64 0,.i .i64 11,.i .i64 0,.i .i64 1,.i .i64 1] h n=some (true,{v:= .i .i64 2,n,rd:=[]}):=by kernel_rfl
theorem g17 (h:Hp) (n:Nat):bj AA [.agg (Rx QR),.i .i64 1,.i .i64 0,.i .i64 1,.i .i64 2,.i .i64 1,.i .i64 1] h n=some (true,{v:= .i .i64 2,n,rd:=[]}):=by kernel_rfl
theorem g18 (h:Hp) (n:Nat):bj AA [.agg (Rx QR),.i .i64 1,.i .i64 0,.i .i64 1,.i .i64 (-1),.i .i64 1,.i .i64 1] h n=some (true,{v:= .i .i64 2,n,rd:=[]}):=by kernel_rfl
theorem g19 (h:Hp) (n:Nat):bj AA [.agg (Rx QR),.i .i64 1,.i .i64 0,.i .i64 1,.i .i64 0,.i .i64 (-1),.i .i64 1] h n=some (true,{v:= .i .i64 2,n,rd:=[]}):=by kernel_rfl
theorem g20 (h:Hp) (n:Nat):bj AA [.agg (Rx QR),.i .i64 1,.i .i64 0,.i .i64 1,.i .i64 0,.i .i64 1,.i .i64 0] h n=some (true,{v:= .i .i64 2,n,rd:=[]}):=by kernel_rfl
theorem g21 (h:Hp) (n:Nat):bj AA [.agg (Rx QR),.i .i64 1,.i .i64 0,.i .i64 10,.i .i64 1,.i .i64 4294967295,.i .i64 90000] h n=some (true,{v:= .i .i64 0,n,rd:=[]}):=by kernel_rfl
theorem g22 (h:Hp) (n:Nat):bj AA [.agg (Rx QF),.i .i64 1,.i .i64 0,.i .i64 1,.i .i64 0,.i .i64 9,.i .i64 1] h n=some (true,{v:= .i .i64 2,n,rd:=[]}):=by kernel_rfl
theorem g23 (h:Hp) (n b:Nat) (h1:ab h b=some {cells:=[.i .i64 0,.i .i64 0,.i .i64 0,.i .i64 0,.ns,.i .i64 0,.i .i64 0,.i .i64 0,.i .i64 0,.i .i64 0,.i .i64 0,.i .i64 0,.i .i64 0,.b false,.i .i64 0,.i .i64 0,.i .i64 0,.i .i64 0,.i .i64 0,.i .i64 0,.i .i64 0,.i .i64 0]}):bj AA [.agg [.ns,.ns,.sl b 0 1 1],.i .i64 0,.i .i64 0,.i .i64 0,.i .i64 0,.i .i64 0,.i .i64 0] h n=some (true,{v:= .i .i64 420,n,rd:=[b]}):=by
 have e:nv h 5 (.sl b 0 1 1)=some ([b],.fz [.i .i64 0,.i .i64 0,.i .i64 0,.i .i64 0,.fz [] 0,.i .i64 0,.i .i64 0,.i .i64 0,.i .i64 0,.i .i64 0,.i .i64 0,.i .i64 0,.i .i64 0,.b false,.i .i64 0,.i .i64 0,.i .i64 0,.i .i64 0,.i .i64 0,.i .i64 0,.i .i64 0,.i .i64 0] 1):=by
  show (((ab h b).bind aW.DH).bind fun q=>(k7 (nv h 4) (aA q.cells 0 (1*(q.cells.length/1)))).bind fun r=>bif decide (1<=1) then some (b::r.1,AV.fz r.2 1) else none)=_
  rw [h1];rfl
 simp only [bj,bn,bQ,iE,wG,jN,e,aS,cM,List.nil_append];rfl
theorem g24 (h:Hp) (n:Nat):k15 [.agg (Rx QR),.i .i64 1,.i .i64 0] h n=some (true,{v:= .bg [.agg [.fz [] 0,.fz [] 0,.fz [] 0],.i .i64 4],n}):=by kernel_rfl
theorem g25 (h:Hp) (n:Nat):k15 [.agg (Rx QF),.i .i64 1,.i .i64 0] h n=some (true,{v:= .bg [.agg (Rx QR),.i .i64 0],n}):=by kernel_rfl
theorem g26 (h:Hp) (n:Nat):k15 [.agg (Rx QF),.i .i64 1,.i .i64 7] h n=some (true,{v:= .bg [.agg [.fz [] 0,.fz [] 0,.fz [] 0],.i .i64 2],n}):=by kernel_rfl
theorem g27 (h:Hp) (n:Nat):Gy [.agg (Rx QF),.i .i64 1,.i .i64 1073741825] h n=some (true,{v:= .bg [.agg [.fz [] 0,.fz [] 0,.fz [] 0],.i .i64 2],n}):=by kernel_rfl
theorem g28 (h:Hp) (n:Nat):Gy [.agg (Rx QF),.i .i64 1,.i .i64 (-1)] h n=some (true,{v:= .bg [.agg [.fz [] 0,.fz [] 0,.fz [] 0],.i .i64 2],n}):=by kernel_rfl
theorem g29 (h:Hp) (n:Nat):Gy [.agg (Rx QF),.i .i64 3,.i .i64 0] h n=some (true,{v:= .bg [.agg [.fz [] 0,.fz [] 0,.fz [] 0],.i .i64 2],n}):=by kernel_rfl
theorem g30 (h:Hp) (n:Nat):F3 [.agg (Rx QF),.i .i64 3] h n=some (true,{v:= .bg [.fz [] 0,.i .i64 2],n}):=by kernel_rfl
theorem g31 (h:Hp) (n:Nat):k21 [.agg (Rx QR),.agg (Rx QR)] h n=some (true,{v:= .b true,n}):=aiI QR (by kernel_rfl) h n
theorem g32 (h:Hp) (n b c d:Nat) (h1:ab h b=some {cells:=[.i .i64 1]}) (h2:ab h c=some {cells:=[.i .i64 1]}) (h3:ab h d=some {cells:=(Rx QR)}):bj Bp [.i .i64 3,.sl b 0 1 1,.sl c 0 1 1,.i .u64 0,.p d 0] h n=some (true,{v:= .i .i64 2,n,rd:=[b,c,d]}):=
 nQ QR (3) 0 [1] [1] (2) (fun h n=>by kernel_rfl) h n b c d h1 h2 h3 (by simp) (by simp)
theorem g33 (h:Hp) (n b c d:Nat) (h1:ab h b=some {cells:=[.i .i64 10]}) (h2:ab h c=some {cells:=[.i .i64 1]}) (h3:ab h d=some {cells:=(Rx QR)}):bj Bp [.i .i64 0,.sl b 0 1 1,.sl c 0 1 1,.i .u64 0,.p d 0] h n=some (true,{v:= .i .i64 2,n,rd:=[b,c,d]}):=
 nQ QR (0) 0 [10] [1] (2) (fun h n=>by kernel_rfl) h n b c d h1 h2 h3 (by simp) (by simp)
theorem g34 (h:Hp) (n b c d:Nat) (h1:ab h b=some {cells:=[.i .i64 1,.i .i64 1]}) (h2:ab h c=some {cells:=[.i .i64 1,.i .i64 2]}) (h3:ab h d=some {cells:=(Rx QR)}):bj Bp [.i .i64 0,.sl b 0 2 2,.sl c 0 2 2,.i .u64 0,.p d 0] h n=some (true,{v:= .i .i64 2,n,rd:=[b,c,d]}):=
 nQ QR (0) 0 [1,1] [1,2] (2) (fun h n=>by kernel_rfl) h n b c d h1 h2 h3 (by simp) (by simp)
theorem g35 (h:Hp) (n b c d:Nat) (h1:ab h b=some {cells:=[.i .i64 1]}) (h2:ab h c=some {cells:=[.i .i64 1,.i .i64 2]}) (h3:ab h d=some {cells:=(Rx QR)}):bj Bp [.i .i64 0,.sl b 0 1 1,.sl c 0 2 2,.i .u64 0,.p d 0] h n=some (true,{v:= .i .i64 2,n,rd:=[b,c,d]}):=
 nQ QR (0) 0 [1] [1,2] (2) (fun h n=>by kernel_rfl) h n b c d h1 h2 h3 (by simp) (by simp)
theorem g36 (h:Hp) (n b c d:Nat) (h1:ab h b=some {cells:=[.i .i64 1]}) (h2:ab h c=some {cells:=[.i .i64 0]}) (h3:ab h d=some {cells:=(Rx QR)}):bj Bp [.i .i64 0,.sl b 0 1 1,.sl c 0 1 1,.i .u64 0,.p d 0] h n=some (true,{v:= .i .i64 2,n,rd:=[b,c,d]}):=
 nQ QR (0) 0 [1] [0] (2) (fun h n=>by kernel_rfl) h n b c d h1 h2 h3 (by simp) (by simp)
theorem g37 (h:Hp) (n b c d:Nat) (h1:ab h b=some {cells:=[.i .i64 1]}) (h2:ab h c=some {cells:=[.i .i64 1073741825]}) (h3:ab h d=some {cells:=(Rx QR)}):bj Bp [.i .i64 0,.sl b 0 1 1,.sl c 0 1 1,.i .u64 0,.p d 0] h n=some (true,{v:= .i .i64 2,n,rd:=[b,c,d]}):=
 nQ QR (0) 0 [1] [1073741825] (2) (fun h n=>by kernel_rfl) h n b c d h1 h2 h3 (by simp) (by simp)
theorem g38 (h:Hp) (n b c d:Nat) (h1:ab h b=some {cells:=[.i .i64 4294967296]}) (h2:ab h c=some {cells:=[.i .i64 1]}) (h3:ab h d=some {cells:=(Rx QR)}):bj Bp [.i .i64 0,.sl b 0 1 1,.sl c 0 1 1,.i .u64 0,.p d 0] h n=some (true,{v:= .i .i64 2,n,rd:=[b,c,d]}):=
 nQ QR (0) 0 [4294967296] [1] (2) (fun h n=>by kernel_rfl) h n b c d h1 h2 h3 (by simp) (by simp)
theorem g39 (h:Hp) (n b c d:Nat) (h1:ab h b=some {cells:=[.i .i64 1]}) (h2:ab h c=some {cells:=[.i .i64 1]}) (h3:ab h d=some {cells:=(Rx QR)}):bj Bp [.i .i64 0,.sl b 0 1 1,.sl c 0 1 1,.i .u64 1,.p d 0] h n=some (true,{v:= .i .i64 2,n,rd:=[b,c,d]}):=
 nQ QR (0) 1 [1] [1] (2) (fun h n=>by kernel_rfl) h n b c d h1 h2 h3 (by simp) (by simp)
theorem g40 (h:Hp) (n b c d:Nat) (h1:ab h b=some {cells:=[.i .i64 1]}) (h2:ab h c=some {cells:=[.i .i64 1]}) (h3:ab h d=some {cells:=(Rx QR)}):bj Bp [.i .i64 0,.sl b 0 1 1,.sl c 0 1 1,.i .u64 8,.p d 0] h n=some (true,{v:= .i .i64 2,n,rd:=[b,c,d]}):=
 nQ QR (0) 8 [1] [1] (2) (fun h n=>by kernel_rfl) h n b c d h1 h2 h3 (by simp) (by simp)
theorem g41 (h:Hp) (n b c d:Nat) (h1:ab h b=some {cells:=[.i .i64 1,.i .i64 2,.i .i64 3,.i .i64 4]}) (h2:ab h c=some {cells:=[.i .i64 1,.i .i64 2,.i .i64 3,.i .i64 4]}) (h3:ab h d=some {cells:=(Rx QR)}):bj Bp [.i .i64 0,.sl b 0 4 4,.sl c 0 4 4,.i .u64 0,.p d 0] h n=some (true,{v:= .i .i64 2,n,rd:=[b,c,d]}):=
 nQ QR (0) 0 [1,2,3,4] [1,2,3,4] (2) (fun h n=>by kernel_rfl) h n b c d h1 h2 h3 (by simp) (by simp)
theorem g42 (h:Hp) (n b c d:Nat) (h1:ab h b=some {cells:=[.i .i64 0,.i .i64 1,.i .i64 4294967295]}) (h2:ab h c=some {cells:=[.i .i64 1,.i .i64 2,.i .i64 1073741824]}) (h3:ab h d=some {cells:=(Rx QR)}):bj Bp [.i .i64 2,.sl b 0 3 3,.sl c 0 3 3,.i .u64 3,.p d 0] h n=some (true,{v:= .i .i64 0,n,rd:=[b,c,d]}):=
 nQ QR (2) 3 [0,1,4294967295] [1,2,1073741824] (0) (fun h n=>by kernel_rfl) h n b c d h1 h2 h3 (by simp) (by simp)
theorem g43 (h:Hp) (n d:Nat) (h3:ab h d=some {cells:=(Rx QR)}):bj Bp [.i .i64 0,.ns,.ns,.i .u64 0,.p d 0] h n=some (true,{v:= .i .i64 2,n,rd:=[d]}):=by
 have hv: ∀f,k7 (nv h f) QR.a=some ([],QR.a):=fun f=>by
  simp only [Rm.a,bn,bQ,dz (fR 0 _),dz (di 0 _),dz (ff 0 _),aS,List.nil_append]
 have e:nv h 6 (.p d 0)=some ([d],.fp QR.a 0):=by
  have h3':ab h d=some {cells:=QR.a}:=h3;simp only [iL,h3',aS,dV,hv]
 simp only [bj,bn,bQ,wG,jN,e,aS,cM,List.nil_append];rfl
theorem g44 (h:Hp) (n:Nat):Cu [.agg (Rx QR),.s [120]] h n=some (true,{v:= .bg [.agg (Rx QX1),.i .i64 3,.i .i64 0],n}):=by kernel_rfl
theorem g45 (h:Hp) (n:Nat):Cu [.agg (Rx QX1),.s [121]] h n=some (true,{v:= .bg [.agg (Rx QX2),.i .i64 4,.i .i64 0],n}):=by kernel_rfl
theorem g46 (h:Hp) (n:Nat):Cu [.agg (Rx QX2),.s [122]] h n=some (true,{v:= .bg [.agg (Rx QX3),.i .i64 5,.i .i64 0],n}):=by kernel_rfl
theorem g47 (h:Hp) (n b c:Nat) (h1:ab h b=some {cells:=[.i .i64 100]}) (h2:ab h c=some {cells:=[.i .i64 10]}):ew zh [.agg (Rx QX3),.i .i64 0,.sl b 0 1 1,.sl c 0 1 1,.i .u64 0] h n=some (true,{v:= .bg [.agg (Rx QW1),.i .i64 2,.i .i64 0],n,rd:=[b,c],md:=[(b,none),(c,none)]}):=
 rX QX3 0 0 [100] [10] (E:=QW1) (i:=2) (e:=0) (fun h n=>by kernel_rfl) h n b c h1 h2 (by simp) (by simp)
theorem g48 (h:Hp) (n b c:Nat) (h1:ab h b=some {cells:=[.i .i64 101]}) (h2:ab h c=some {cells:=[.i .i64 10]}):ew zh [.agg (Rx QW1),.i .i64 0,.sl b 0 1 1,.sl c 0 1 1,.i .u64 0] h n=some (true,{v:= .bg [.agg (Rx QW2),.i .i64 3,.i .i64 0],n,rd:=[b,c],md:=[(b,none),(c,none)]}):=
 rX QW1 0 0 [101] [10] (E:=QW2) (i:=3) (e:=0) (fun h n=>by kernel_rfl) h n b c h1 h2 (by simp) (by simp)
theorem g49 (h:Hp) (n b c:Nat) (h1:ab h b=some {cells:=[.i .i64 102]}) (h2:ab h c=some {cells:=[.i .i64 10]}):ew zh [.agg (Rx QW2),.i .i64 0,.sl b 0 1 1,.sl c 0 1 1,.i .u64 0] h n=some (true,{v:= .bg [.agg (Rx QW3),.i .i64 4,.i .i64 0],n,rd:=[b,c],md:=[(b,none),(c,none)]}):=
 rX QW2 0 0 [102] [10] (E:=QW3) (i:=4) (e:=0) (fun h n=>by kernel_rfl) h n b c h1 h2 (by simp) (by simp)
theorem g50 (h:Hp) (n b c:Nat) (h1:ab h b=some {cells:=[.i .i64 103]}) (h2:ab h c=some {cells:=[.i .i64 10]}):ew zh [.agg (Rx QW3),.i .i64 0,.sl b 0 1 1,.sl c 0 1 1,.i .u64 0] h n=some (true,{v:= .bg [.agg (Rx Ks),.i .i64 5,.i .i64 0],n,rd:=[b,c],md:=[(b,none),(c,none)]}):=
 rX QW3 0 0 [103] [10] (E:=Ks) (i:=5) (e:=0) (fun h n=>by kernel_rfl) h n b c h1 h2 (by simp) (by simp)
theorem g51 (h:Hp) (n:Nat):Cu [.agg (Rx Ks),.s [119]] h n=some (true,{v:= .bg [.agg [.fz [] 0,.fz [] 0,.fz [] 0],.i .i64 0,.i .i64 3],n}):=by kernel_rfl
theorem g52 (h:Hp) (n:Nat):k25 [.s [119],.i .i64 17] h n=some (true,{v:= .s [119,119,119,119,119,119,119,119,119,119,119,119,119,119,119,119,119],n}):=by kernel_rfl
theorem g53 (h:Hp) (n:Nat):Cu [.agg (Rx Ks),.s [119,119,119,119,119,119,119,119,119,119,119,119,119,119,119,119,119]] h n=some (true,{v:= .bg [.agg [.fz [] 0,.fz [] 0,.fz [] 0],.i .i64 0,.i .i64 2],n}):=by kernel_rfl
theorem g54 (h:Hp) (n b c:Nat) (h1:ab h b=some {cells:=[.i .i64 200]}) (h2:ab h c=some {cells:=[.i .i64 1]}):ew zh [.agg (Rx Ks),.i .i64 0,.sl b 0 1 1,.sl c 0 1 1,.i .u64 0] h n=some (true,{v:= .bg [.agg [.fz [] 0,.fz [] 0,.fz [] 0],.i .i64 0,.i .i64 3],n,rd:=[b,c],md:=[(b,none),(c,none)]}):=
 rX Ks 0 0 [200] [1] (E:=tn) (i:=0) (e:=3) (fun h n=>by kernel_rfl) h n b c h1 h2 (by simp) (by simp)
theorem g55 (h:Hp) (n:Nat):AD [.agg (Rx Ks),.i .i64 3,.i .i64 0,.i .i64 1,.i .i64 0,.i .i64 0,.i .i64 1] h n=some (true,{v:= .bg [.agg (Rx QM1),.i .i64 0],n}):=by kernel_rfl
theorem g56 (h:Hp) (n:Nat):AD [.agg (Rx QM1),.i .i64 3,.i .i64 1,.i .i64 1,.i .i64 0,.i .i64 1,.i .i64 1] h n=some (true,{v:= .bg [.agg (Rx QM2),.i .i64 0],n}):=by kernel_rfl
theorem g57 (h:Hp) (n:Nat):AD [.agg (Rx QM2),.i .i64 3,.i .i64 2,.i .i64 1,.i .i64 0,.i .i64 2,.i .i64 1] h n=some (true,{v:= .bg [.agg (Rx QM3),.i .i64 0],n}):=by kernel_rfl
theorem g58 (h:Hp) (n:Nat):AD [.agg (Rx QM3),.i .i64 3,.i .i64 3,.i .i64 1,.i .i64 0,.i .i64 3,.i .i64 1] h n=some (true,{v:= .bg [.agg (Rx QM4),.i .i64 0],n}):=by kernel_rfl
theorem g59 (h:Hp) (n:Nat):AD [.agg (Rx QM4),.i .i64 3,.i .i64 4,.i .i64 1,.i .i64 0,.i .i64 4,.i .i64 1] h n=some (true,{v:= .bg [.agg (Rx Ro),.i .i64 0],n}):=by kernel_rfl
theorem g60 (h:Hp) (n:Nat):bj AA [.agg (Rx Ro),.i .i64 3,.i .i64 5,.i .i64 1,.i .i64 0,.i .i64 5,.i .i64 1] h n=some (true,{v:= .i .i64 3,n,rd:=[]}):=by kernel_rfl
theorem g61 (h:Hp) (n:Nat):bj AA [.agg (Rx Ro),.i .i64 3,.i .i64 5,.i .i64 1,.i .i64 0,.i .i64 4,.i .i64 1] h n=some (true,{v:= .i .i64 2,n,rd:=[]}):=by kernel_rfl
theorem g62 (h:Hp) (n:Nat):Gy [.agg (Rx Ro),.i .i64 3,.i .i64 20] h n=some (true,{v:= .bg [.agg (Rx QN),.i .i64 0],n}):=by kernel_rfl
theorem g63 (h:Hp) (n b:Nat) (h1:ab h b=some {cells:=[.i .i64 (-1),.i .i64 (-1),.i .i64 (-1),.i .i64 0,.i .i64 0]}):bj Eo [.agg (Rx QN),.i .i64 3,.sl b 0 5 5] h n=some (true,{v:= .b true,n,rd:=[b]}):=
 tM QN 3 [-1,-1,-1,0,0] (fun h n=>by kernel_rfl) h n b h1 (by simp)
theorem g64 (h:Hp) (n b:Nat) (h1:ab h b=some {cells:=[.i .i64 (-1),.i .i64 (-1),.i .i64 (-1),.i .i64 (-1),.i .i64 (-1)]}):bj Eo [.agg (Rx Ro),.i .i64 3,.sl b 0 5 5] h n=some (true,{v:= .b true,n,rd:=[b]}):=
 tM Ro 3 [-1,-1,-1,-1,-1] (fun h n=>by kernel_rfl) h n b h1 (by simp)
theorem g65 (h:Hp) (n:Nat):ew Iz [.agg (Rx QR),.agg [.b false,.i .i64 128,.i .i64 0,.i .i64 0,.i .i64 9,.ns,.ns,.i .i64 0,.s []]] h n=some (true,{v:= .bg [.agg [.fz [] 0,.fz [] 0,.fz [] 0],.fz [] 0,.i .i64 230],n,rd:=[],md:=[]}):=by kernel_rfl
theorem g66 (h:Hp) (n:Nat):ew Iz [.agg (Rx QR),.agg [.b false,.i .i64 0,.i .i64 0,.i .i64 0,.i .i64 9,.ns,.ns,.i .i64 0,.s [120]]] h n=some (true,{v:= .bg [.agg [.fz [] 0,.fz [] 0,.fz [] 0],.fz [] 0,.i .i64 4],n,rd:=[],md:=[]}):=by kernel_rfl
theorem g67 (h:Hp) (n:Nat):ew Iz [.agg (Rx QR),.agg [.b false,.i .i64 0,.i .i64 0,.i .i64 0,.i .i64 30,.ns,.ns,.i .i64 0,.s [120]]] h n=some (true,{v:= .bg [.agg [.fz [] 0,.fz [] 0,.fz [] 0],.fz [] 0,.i .i64 7],n,rd:=[],md:=[]}):=by kernel_rfl
theorem g68 (h:Hp) (n:Nat):ew Iz [.agg (Rx QR),.agg [.b false,.i .i64 0,.i .i64 0,.i .i64 0,.i .i64 30,.ns,.ns,.i .i64 0,.s [97,98,99,100,101]]] h n=some (true,{v:= .bg [.agg [.fz [] 0,.fz [] 0,.fz [] 0],.fz [] 0,.i .i64 5],n,rd:=[],md:=[]}):=by kernel_rfl
theorem g69 (h:Hp) (n:Nat):ew Iz [.agg (Rx QR),.agg [.b false,.i .i64 0,.i .i64 0,.i .i64 0,.i .i64 30,.ns,.ns,.i .i64 0,.s [232,128,0,0,0,107]]] h n=some (true,{v:= .bg [.agg (Rx QK),.fz [] 0,.i .i64 0],n,rd:=[],md:=[]}):=by kernel_rfl
theorem g70 (h:Hp) (n:Nat):k28 [.agg (Rx QR)] h n=some (true,{v:= .bg [.fz [] 0,.i .i64 0],n}):=by kernel_rfl
theorem g71 (h:Hp) (n:Nat):l8 [.agg (Rx QF)] h n=some (true,{v:= .i .i64 0,n}):=by kernel_rfl
theorem g72 (h:Hp) (n d:Nat) (h3:ab h d=some {cells:=(Rx QF)}):bj C3 [.fn 31 [],.p d 0] h n=some (true,{v:= .b true,n,rd:=[d]}):=pZ 31 (by decide) (by decide) h n d h3
theorem g73 (h:Hp) (n d:Nat) (h3:ab h d=some {cells:=(Rx QF)}):bj C3 [.fn 32 [],.p d 0] h n=some (true,{v:= .b true,n,rd:=[d]}):=pZ 32 (by decide) (by decide) h n d h3
theorem g74 (h:Hp) (n d:Nat) (h3:ab h d=some {cells:=(Rx QF)}):bj C3 [.fn 33 [],.p d 0] h n=some (true,{v:= .b true,n,rd:=[d]}):=pZ 33 (by decide) (by decide) h n d h3
theorem g75 (h:Hp) (n d:Nat) (h3:ab h d=some {cells:=(Rx QF)}):bj C3 [.fn 34 [],.p d 0] h n=some (true,{v:= .b true,n,rd:=[d]}):=pZ 34 (by decide) (by decide) h n d h3
theorem g76 (h:Hp) (n d:Nat) (h3:ab h d=some {cells:=(Rx QF)}):bj C3 [.fn 35 [],.p d 0] h n=some (true,{v:= .b true,n,rd:=[d]}):=pZ 35 (by decide) (by decide) h n d h3
theorem g77 (h:Hp) (n d:Nat) (h3:ab h d=some {cells:=(Rx QF)}):bj C3 [.fn 36 [],.p d 0] h n=some (true,{v:= .b true,n,rd:=[d]}):=pZ 36 (by decide) (by decide) h n d h3
theorem g78 (h:Hp) (n d:Nat) (h3:ab h d=some {cells:=(Rx QF)}):bj C3 [.fn 37 [],.p d 0] h n=some (true,{v:= .b true,n,rd:=[d]}):=pZ 37 (by decide) (by decide) h n d h3
theorem g79 (h:Hp) (n d:Nat) (h3:ab h d=some {cells:=(Rx QF)}):bj C3 [.fn 38 [],.p d 0] h n=some (true,{v:= .b true,n,rd:=[d]}):=pZ 38 (by decide) (by decide) h n d h3
theorem g80 (h:Hp) (n d:Nat) (h3:ab h d=some {cells:=(Rx QF)}):bj C3 [.fn 39 [],.p d 0] h n=some (true,{v:= .b true,n,rd:=[d]}):=pZ 39 (by decide) (by decide) h n d h3
theorem g81 (h:Hp) (n d:Nat) (h3:ab h d=some {cells:=(Rx QF)}):bj C3 [.fn 40 [],.p d 0] h n=some (true,{v:= .b false,n,rd:=[d]}):=pZ 40 (by decide) (by decide) h n d h3
noncomputable def T4:List (Nat×Ct):=[(10,KF),(13,ew Iz),(14,AD),(15,k15),(16,Gy),(17,l8),(18,k18),(19,bj AA),(20,F3),(21,k21),(22,bj Bp),(23,ew zh),(24,Cu),(25,k25),(26,bj Eo),(27,k27),(28,k28),(29,bj C3)]
theorem hT4:Sound av (bZ T4):=Sound.cons s10 (Sound.cons s13.ng (Sound.cons s14 (Sound.cons s15 (Sound.cons s16 (Sound.cons G5 (Sound.cons G4 (Sound.cons s19.nv (Sound.cons s20 (Sound.cons s21 (Sound.cons s22.nv (Sound.cons s23.ng (Sound.cons s24 (Sound.cons s25 (Sound.cons s26.nv (Sound.cons s27 (Sound.cons s28 (Sound.cons s29.nv Sound.nil)))))))))))))))))
noncomputable abbrev F4:Fx:=⟨av,bZ T4,i4.ct,i4.N,0⟩
def stX:Nat->List AV
 |0=>(Rx QR)
 |1=>(Rx QX1)
 |2=>(Rx QX2)
 |_=>(Rx QX3)
def Xv:Nat->List AV
 |0=>(Rx QX3)
 |1=>(Rx QW1)
 |2=>(Rx QW2)
 |3=>(Rx QW3)
 |_=>(Rx Ks)
def stM:Nat->List AV
 |0=>(Rx Ks)
 |1=>(Rx QM1)
 |2=>(Rx QM2)
 |3=>(Rx QM3)
 |4=>(Rx QM4)
 |_=>(Rx Ro)
theorem o10 (h:Hp) (n:Nat):KF [] h n=some (true,{v:= .b true,n}):=rfl
theorem w4:bt av 4 [] [] 0 (.b true) [] 0:=by
 have hMB: ∀(Q:Rm) j,ae j (rows Mb.l Q.ms)=true:=fun Q j=>fR j Q.ms;have hSB: ∀(Q:Rm) j,ae j (rows bu.l Q.sh)=true:=fun Q j=>di j Q.sh;have hTB: ∀(Q:Rm) j,ae j (rows Tp.l Q.tp)=true:=fun Q j=>ff j Q.tp;refine dT hT4 Tryz.func4 afl ?_
 dsimp only [i4,T4,Rm.a];simp only [go_sem,o10,o18,g1,g2,g3,g4,g5,g6,g7,g8,g9,g10,g11,g12,g13,g14,g15,g16,g17,g18,g19,g20,g21,g22,g23,g24,g25,g26,g27,g28,g29,g30,g31,g32,g33,g34,g35,g36,g37,g38,g39,g40,g41,g42,g43,simprocAttr];refine Loop.fj (F:=F4) hT4 mo 3 (fun k=>True) (fun k=>[(1,.p 0 0),(3,.fn 19 []),(4,.p 1 0),(6,.b true),(21,.b true),(23,.b true),(24,.p 31 0),(25,.i .i64 0),(357,.agg [.s [120],.s [121],.s [122]]),(358,.i .i64 (k:Int))]) (fun k=>[(0,{cells:=(Rx QR)}),(1,{cells:=(Rx QF)}),(31,{cells:=stX k})]) 32 (eB _) trivial ?_ ?_ (fun k hk _=> ?_)
 ·simp only [go_sem,AV.al,ae,aG,hMB,hSB,hTB,az,dr,simprocAttr]
 ·simp only [go_sem,stX,AV.al,ae,aG,hMB,hSB,hTB,az,dr,simprocAttr]
 rcases k with _|_|_|k
 ·dsimp only [F4,i4,T4,stX];simp only [go_sem,g44,AV.al,ae,aG,hMB,hSB,hTB,az,dr,simprocAttr]
 ·dsimp only [F4,i4,T4,stX];simp only [go_sem,g45,AV.al,ae,aG,hMB,hSB,hTB,az,dr,simprocAttr]
 ·dsimp only [F4,i4,T4,stX];simp only [go_sem,g46,AV.al,ae,aG,hMB,hSB,hTB,az,dr,simprocAttr]
 obtain rfl:k=0:=by omega
 dsimp only [F4,i4,T4,stX];simp only [go_sem,simprocAttr];refine Loop.fj (F:=F4) hT4 mo 4 (fun k=>True) (fun k=>[(1,.p 0 0),(3,.fn 19 []),(4,.p 1 0),(6,.b true),(21,.b true),(23,.b true),(24,.p 31 0),(25,.i .i64 0),(369,.i .i64 (k:Int))]) (fun k=>[(0,{cells:=(Rx QR)}),(1,{cells:=(Rx QF)}),(31,{cells:=Xv k})]) 32 (eB _) trivial ?_ ?_ (fun k hk _=> ?_)
 ·simp only [go_sem,AV.al,ae,aG,hMB,hSB,hTB,az,dr,simprocAttr]
 ·simp only [go_sem,Xv,AV.al,ae,aG,hMB,hSB,hTB,az,dr,simprocAttr]
 rcases k with _|_|_|_|k
 ·dsimp only [F4,i4,T4,Xv];simp only [go_sem,g47,AV.al,ae,aG,hMB,hSB,hTB,az,dr,simprocAttr]
 ·dsimp only [F4,i4,T4,Xv];simp only [go_sem,g48,AV.al,ae,aG,hMB,hSB,hTB,az,dr,simprocAttr]
 ·dsimp only [F4,i4,T4,Xv];simp only [go_sem,g49,AV.al,ae,aG,hMB,hSB,hTB,az,dr,simprocAttr]
 ·dsimp only [F4,i4,T4,Xv];simp only [go_sem,g50,AV.al,ae,aG,hMB,hSB,hTB,az,dr,simprocAttr]
 obtain rfl:k=0:=by omega
 dsimp only [F4,i4,T4,Xv];simp only [go_sem,g51,g52,g53,g54,simprocAttr];refine Loop.fj (F:=F4) hT4 mo 5 (fun k=>True) (fun k=>[(1,.p 0 0),(3,.fn 19 []),(4,.p 1 0),(6,.b true),(21,.b true),(23,.b true),(31,.i .i64 3),(34,.i .i64 2),(37,.i .i64 3),(38,.p 37 0),(25,.i .i64 (k:Int)),(405,.i .i64 (k:Int))]) (fun k=>[(0,{cells:=(Rx QR)}),(1,{cells:=(Rx QF)}),(37,{cells:=stM k})]) 38 (eB _) trivial ?_ ?_ (fun k hk _=> ?_)
 ·simp only [go_sem,AV.al,ae,aG,hMB,hSB,hTB,az,dr,simprocAttr]
 ·simp only [go_sem,stM,AV.al,ae,aG,hMB,hSB,hTB,az,dr,simprocAttr]
 rcases k with _|_|_|_|_|k
 ·dsimp only [F4,i4,T4,stM];simp only [go_sem,g55,AV.al,ae,aG,hMB,hSB,hTB,az,dr,simprocAttr]
 ·dsimp only [F4,i4,T4,stM];simp only [go_sem,g56,AV.al,ae,aG,hMB,hSB,hTB,az,dr,simprocAttr]
 ·dsimp only [F4,i4,T4,stM];simp only [go_sem,g57,AV.al,ae,aG,hMB,hSB,hTB,az,dr,simprocAttr]
 ·dsimp only [F4,i4,T4,stM];simp only [go_sem,g58,AV.al,ae,aG,hMB,hSB,hTB,az,dr,simprocAttr]
 ·dsimp only [F4,i4,T4,stM];simp only [go_sem,g59,AV.al,ae,aG,hMB,hSB,hTB,az,dr,simprocAttr]
 obtain rfl:k=0:=by omega
 dsimp only [F4,i4,T4,stM];simp only [go_sem,o27,g60,g61,g62,g63,g64,g65,g66,g67,g68,g69,g70,g71,g72,g73,g74,g75,g76,g77,g78,g79,g80,g81,simprocAttr];exact Ends.au rfl rfl
end Go.Proofs.Rom
