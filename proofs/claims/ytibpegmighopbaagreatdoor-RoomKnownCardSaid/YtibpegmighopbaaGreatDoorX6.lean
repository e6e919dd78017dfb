/- Texts laid as one. -/
import Derived.Test.YtibpegmighopbaaGreatDoorX5
set_option maxRecDepth 100000
set_option maxHeartbeats 20000000
set_option linter.unusedSimpArgs false
set_option linter.unusedVariables false
namespace Go.Proofs.Rom
open Go.Ab
theorem NU (h:Hp) (f:Nat) (l:List bu):k7 (Go.Ab.nv h f) (rows bu.l l)=some ([],rows bu.l l):=oJ (fun a=>by simp only [bu.l,bn,bQ,jN,dz (iB 0 _),aS,List.nil_append]) l
theorem Kn {h:Hp} {a:Nat} {l:List bu} (f:Nat) (ha:ab h a=some {cells:=rows bu.l l,gr:=some 4}):Go.Ab.nv h (f+1) (.sg a 0 l.length)=some ([a],.fz (rows bu.l l) l.length):=by
 have zR:(rows bu.l l).length=l.length*4:=aT bu.len;have e:aA (rows bu.l l) 0 (l.length*4)=rows bu.l l:=by rw [aA,fy,<-zR,fU]
 simp only [HF,ha,aS,dV,e,NU]
abbrev js (r:Rm):aW:={cells:=rows bu.l r.sh,gr:=some 4}
def j2 (r:Rm) (s:bu):Int:=if dX r.ms.length s&&fV (gV s.ss r.sh r.sh.length) then (if r.sh.length<6 then 0 else 3) else 2
def Gi (r:Rm) (s:bu):Int:=if bC r then j2 r s else 420
def ik (r:Rm) (s:bu):Rm×Int:=(if Gi r s=0 then ⟨r.ms,r.sh++[s],r.tp⟩ else tn,Gi r s)
abbrev il (s:bu):List AV:=[.fp [.i .i64 s.ow] 0,.fp [.fz (rows aC s.ss) s.ss.length] 0,.fp [.fz (rows aC s.rt) s.rt.length] 0,.fp [.i .u64 s.bl] 0]
def T89:List (Nat×Ct):=[(90,tK),(91,bj EL),(92,bj EV),(62,fZ)]
theorem Oe:Sound av (bZ T89):=Sound.cons s90 (Sound.cons s91.nv (Sound.cons s92.nv (Sound.cons x3 Sound.nil)))
def mc (r:Rm) (s:bu):Prop:=r.ms.length<=6/\r.sh.length<=6/\r.sh.all Ap=true/\s.ok=true/\s.ss.length<=1000/\s.rt.length<=1000
theorem ajn {r:Rm} {s:bu} (ho:mc r s) (hm:r.sh≠[]) (b:Nat) (h:Hp) (n:Nat) (h0:ab h 0=some {cells:=[.fz (rows Mb.l r.ms) r.ms.length,.sg 1 0 r.sh.length,.fz (rows Tp.l r.tp) r.tp.length]}) (h1:ab h 1=some (js r)):
 bj EL [.p 0 0,.agg s.l] h n=some (true,{v:= .b (dX r.ms.length s),n,rd:=[0,1]}):=by
 obtain ⟨o1,o2,o3,o4,o5,o6⟩:=ho;have hv:=Kn (h:=h) (a:=1) (l:=r.sh) 4 h1;have hf:([AV.fz (rows Mb.l r.ms) r.ms.length,.fz (rows bu.l r.sh) r.sh.length,.fz (rows Tp.l r.tp) r.tp.length]:List AV)=r.a:=rfl;have hs:k7 (Go.Ab.nv h 5) s.l=some ([],s.l):=by simp only [bu.l,bn,bQ,jN,dz (iB 0 _),aS,List.nil_append]
 simp only [bj,bn,bQ,iL,iE,hs,hv,dz (fR 0 r.ms),dz (ff 0 r.tp),h0,aS,dV,cM,List.nil_append,hf,EL,ey,kJ,o4,ah o1];rfl
theorem ah9 {r:Rm} {s:bu} (ho:mc r s) (hi:da 1 3 (s.ss.length:Int)=true) (hm:r.sh≠[]) (b:Nat) (h:Hp) (n:Nat) (h0:ab h 0=some {cells:=[.fz (rows Mb.l r.ms) r.ms.length,.sg 1 0 r.sh.length,.fz (rows Tp.l r.tp) r.tp.length]}) (h1:ab h 1=some (js r)):
 bj EV [.p 0 0,.fz (rows aC s.ss) s.ss.length] h n=some (true,{v:= .b (fV (gV s.ss r.sh r.sh.length)),n,rd:=[0,1]}):=by
 obtain ⟨o1,o2,o3,o4,o5,o6⟩:=ho;have hv:=Kn (h:=h) (a:=1) (l:=r.sh) 4 h1;have hf:([AV.fz (rows Mb.l r.ms) r.ms.length,.fz (rows bu.l r.sh) r.sh.length,.fz (rows Tp.l r.tp) r.tp.length]:List AV)=r.a:=rfl;simp only [bj,bn,bQ,iL,iE,dz (iB 0 s.ss),hv,dz (fR 0 r.ms),dz (ff 0 r.tp),h0,aS,dV,cM,List.nil_append,hf,EV,ey,eE,o3,hi,ah o2];rfl
theorem ai8 {r:Rm} {s:bu} (ho:mc r s) (hm:r.sh=[]) (h:Hp) (n:Nat) (h0:ab h 0=some {cells:=[.fz (rows Mb.l r.ms) r.ms.length,.ns,.fz (rows Tp.l r.tp) r.tp.length]}):
 bj EL [.p 0 0,.agg s.l] h n=some (true,{v:= .b (dX r.ms.length s),n,rd:=[0]}):=by
 obtain ⟨o1,o2,o3,o4,o5,o6⟩:=ho;have hf:([AV.fz (rows Mb.l r.ms) r.ms.length,.fz [] 0,.fz (rows Tp.l r.tp) r.tp.length]:List AV)=r.a:=by rw [Rm.a,hm];rfl
 have hs:k7 (Go.Ab.nv h 5) s.l=some ([],s.l):=by simp only [bu.l,bn,bQ,jN,dz (iB 0 _),aS,List.nil_append]
 simp only [bj,bn,bQ,iL,iE,hs,wG,dz (fR 0 r.ms),dz (ff 0 r.tp),h0,aS,dV,cM,List.nil_append,hf,EL,ey,kJ,o4,ah o1];rfl
theorem akZ {r:Rm} {s:bu} (ho:mc r s) (hi:da 1 3 (s.ss.length:Int)=true) (hm:r.sh=[]) (h:Hp) (n:Nat) (h0:ab h 0=some {cells:=[.fz (rows Mb.l r.ms) r.ms.length,.ns,.fz (rows Tp.l r.tp) r.tp.length]}):
 bj EV [.p 0 0,.fz (rows aC s.ss) s.ss.length] h n=some (true,{v:= .b (fV (gV s.ss r.sh r.sh.length)),n,rd:=[0]}):=by
 obtain ⟨o1,o2,o3,o4,o5,o6⟩:=ho;have hf:([AV.fz (rows Mb.l r.ms) r.ms.length,.fz [] 0,.fz (rows Tp.l r.tp) r.tp.length]:List AV)=r.a:=by rw [Rm.a,hm];rfl
 simp only [bj,bn,bQ,iL,iE,dz (iB 0 s.ss),wG,dz (fR 0 r.ms),dz (ff 0 r.tp),h0,aS,dV,cM,List.nil_append,hf,EV,ey,eE,o3,hi,ah o2];rfl
theorem sk {n:Nat} {s:bu} (h:dX n s=true):da 1 3 (s.ss.length:Int)=true:=by
 simp only [dX,aw] at h;exact h.2.1
/-! Its runs. -/
theorem apQ (r:Rm) (s:bu) (ho:mc r s) (hm:r.sh≠[]) (he:j2 r s≠0):cL av 89 (.p 0 0::il s) [(0,{cells:=[.fz (rows Mb.l r.ms) r.ms.length,.sg 1 0 r.sh.length,.fz (rows Tp.l r.tp) r.tp.length]}),(1,js r)] 2 (some (eD (j2 r s))) (.bg []) [] 2:=by
 have h1: ∀(h:Hp) n,ab h 0=some {cells:=[.fz (rows Mb.l r.ms) r.ms.length,.sg 1 0 r.sh.length,.fz (rows Tp.l r.tp) r.tp.length]}->ab h 1=some (js r)->bj EL [.p 0 0,.agg [.i .i64 s.ow,.fz (rows aC s.ss) s.ss.length,.fz (rows aC s.rt) s.rt.length,.i .u64 s.bl]] h n=some (true,{v:= .b (dX r.ms.length s),n,rd:=[0,1]}):=fun h n h0 h1=>ajn ho hm 0 h n h0 h1;have h2: ∀(hi:da 1 3 (s.ss.length:Int)=true) (h:Hp) n,ab h 0=some {cells:=[.fz (rows Mb.l r.ms) r.ms.length,.sg 1 0 r.sh.length,.fz (rows Tp.l r.tp) r.tp.length]}->ab h 1=some (js r)->bj EV [.p 0 0,.fz (rows aC s.ss) s.ss.length] h n=some (true,{v:= .b (fV (gV s.ss r.sh r.sh.length)),n,rd:=[0,1]}):=fun hi h n h0 h1=>ah9 ho hi hm 0 h n h0 h1;have hi:= @sk r.ms.length s;have n1:decide (((r.sh.length:Nat):Int)<6)=decide (r.sh.length<6):=by rw [iG];simp;omega
 have z1:decide (8*s.ss.length<=aE)=true:=ah (by have:=ho.2.2.2.2.1;simp only [aE];omega)
 have z2:decide (8*s.rt.length<=aE)=true:=ah (by have:=ho.2.2.2.2.2;simp only [aE];omega)
 have hR:j2 r s=if dX r.ms.length s&&fV (gV s.ss r.sh r.sh.length) then (if r.sh.length<6 then 0 else 3) else 2:=rfl
 generalize j2 r s=R at*;generalize dX r.ms.length s=c1 at*;generalize fV (gV s.ss r.sh r.sh.length)=c2 at*;refine cL.dQ Oe mo Tryz.func89 zj (by simp [i89]) (aQ ?_)
 dsimp only [i89,T89];cases c1
 ·have hR:R=2:=hR;subst hR;simp only [go_sem,tK,eE,z1,z2,h1,fZ,simprocAttr];exact Ends.au rfl rfl
 have h2:=h2 (hi rfl);cases c2
 ·have hR:R=2:=hR;subst hR;simp only [go_sem,tK,eE,z1,z2,h1,h2,fZ,simprocAttr];exact Ends.au rfl rfl
 ·simp only [az,cu] at hR;have c3:decide (r.sh.length<6)=false:=by
   rw [decide_eq_false_iff_not];intro h;rw [aM h] at hR;exact he hR
  rw [aN (ob c3)] at hR;subst hR;simp only [go_sem,tK,eE,z1,z2,h1,h2,n1,c3,fZ,simprocAttr];exact Ends.au rfl rfl
theorem w89 (r:Rm) (s:bu) (ho:mc r s) (hm:r.sh≠[]) (he:j2 r s=0):cL av 89 (.p 0 0::il s) [(0,{cells:=[.fz (rows Mb.l r.ms) r.ms.length,.sg 1 0 r.sh.length,.fz (rows Tp.l r.tp) r.tp.length]}),(1,js r)] 2 none (.bg []) [(0,{cells:=[.fz (rows Mb.l r.ms) r.ms.length,.sg 2 0 (r.sh.length+1),.fz (rows Tp.l r.tp) r.tp.length]}),(2,{cells:=rows bu.l (r.sh++[s]),gr:=some 4})] 3:=by
 have h1: ∀(h:Hp) n,ab h 0=some {cells:=[.fz (rows Mb.l r.ms) r.ms.length,.sg 1 0 r.sh.length,.fz (rows Tp.l r.tp) r.tp.length]}->ab h 1=some (js r)->bj EL [.p 0 0,.agg [.i .i64 s.ow,.fz (rows aC s.ss) s.ss.length,.fz (rows aC s.rt) s.rt.length,.i .u64 s.bl]] h n=some (true,{v:= .b (dX r.ms.length s),n,rd:=[0,1]}):=fun h n h0 h1=>ajn ho hm 0 h n h0 h1;have h2: ∀(hi:da 1 3 (s.ss.length:Int)=true) (h:Hp) n,ab h 0=some {cells:=[.fz (rows Mb.l r.ms) r.ms.length,.sg 1 0 r.sh.length,.fz (rows Tp.l r.tp) r.tp.length]}->ab h 1=some (js r)->bj EV [.p 0 0,.fz (rows aC s.ss) s.ss.length] h n=some (true,{v:= .b (fV (gV s.ss r.sh r.sh.length)),n,rd:=[0,1]}):=fun hi h n h0 h1=>ah9 ho hi hm 0 h n h0 h1;have hi:= @sk r.ms.length s;have n1:decide (((r.sh.length:Nat):Int)<6)=decide (r.sh.length<6):=by rw [iG];simp;omega
 have z1:decide (8*s.ss.length<=aE)=true:=ah (by have:=ho.2.2.2.2.1;simp only [aE];omega)
 have z2:decide (8*s.rt.length<=aE)=true:=ah (by have:=ho.2.2.2.2.2;simp only [aE];omega)
 have hR:j2 r s=if dX r.ms.length s&&fV (gV s.ss r.sh r.sh.length) then (if r.sh.length<6 then 0 else 3) else 2:=rfl
 have hmB:=fun j=>fR j r.ms;have hmR:=fun g=>jr g r.ms;have htB:=fun j=>ff j r.tp;have htR:=fun g=>je g r.tp;have zR:(rows bu.l r.sh).length=r.sh.length*4:=aT bu.len;have ha:rows bu.l (r.sh++[s])=rows bu.l r.sh++[.i .i64 s.ow,.fz (rows aC s.ss) s.ss.length,.fz (rows aC s.rt) s.rt.length,.i .u64 s.bl]:=by rw [df];show rows bu.l r.sh++(s.l++[])=_;rw [cM];rfl
 have hsB:=fun j=>di j (r.sh++[s]);have hsR:=fun g=>ef g (r.sh++[s]);have gm:decide (64*(r.sh.length+1)<=aE)=true:=ah (by have:=ho.2.1;simp only [aE];omega)
 have i1:=fun j=>iB j s.ss;have i2:=fun j=>iB j s.rt;have i3:=fun g=>iR g s.ss;have i4:=fun g=>iR g s.rt;rw [ha] at hsB hsR;rw [ha];rw [hR] at he;have h3:dX r.ms.length s=true/\fV (gV s.ss r.sh r.sh.length)=true/\decide (r.sh.length<6)=true:=by
  split at he
  ·rename_i h;rw [aw] at h;split at he
   ·rename_i h2;exact ⟨h.1,h.2,ah h2⟩
   ·cases he
  ·cases he
 clear hR he;obtain ⟨c1,c2,c3⟩:=h3;have h4:=h2 (hi c1);rw [c1] at h1;rw [c2] at h4;refine cL.dQ Oe mo Tryz.func89 zj (by simp [i89]) (aQ ?_)
 dsimp only [i89,T89];simp only [go_sem,tK,eE,z1,z2,h1,h4,n1,c3,fZ,gm,zR,simprocAttr];refine Ends.R [(2,4)] (by decide) (by decide) rfl rfl ?_
 simp only [go_sem,AV.al,ae,aG,aW.aH,AV.aH,aL,hmB,hmR,htB,htR,hsB,hsR,i1,i2,i3,i4,simprocAttr]
theorem agJ (r:Rm) (s:bu) (ho:mc r s) (hm:r.sh=[]) (he:j2 r s≠0):cL av 89 (.p 0 0::il s) [(0,{cells:=[.fz (rows Mb.l r.ms) r.ms.length,.ns,.fz (rows Tp.l r.tp) r.tp.length]})] 1 (some (eD (j2 r s))) (.bg []) [] 1:=by
 have h1: ∀(h:Hp) n,ab h 0=some {cells:=[.fz (rows Mb.l r.ms) r.ms.length,.ns,.fz (rows Tp.l r.tp) r.tp.length]}->bj EL [.p 0 0,.agg [.i .i64 s.ow,.fz (rows aC s.ss) s.ss.length,.fz (rows aC s.rt) s.rt.length,.i .u64 s.bl]] h n=some (true,{v:= .b (dX r.ms.length s),n,rd:=[0]}):=fun h n h0  =>ai8 ho hm h n h0 ;have h2: ∀(hi:da 1 3 (s.ss.length:Int)=true) (h:Hp) n,ab h 0=some {cells:=[.fz (rows Mb.l r.ms) r.ms.length,.ns,.fz (rows Tp.l r.tp) r.tp.length]}->bj EV [.p 0 0,.fz (rows aC s.ss) s.ss.length] h n=some (true,{v:= .b (fV (gV s.ss r.sh r.sh.length)),n,rd:=[0]}):=fun hi h n h0  =>akZ ho hi hm h n h0 ;have hi:= @sk r.ms.length s;have n1:decide (((r.sh.length:Nat):Int)<6)=decide (r.sh.length<6):=by rw [iG];simp;omega
 have z1:decide (8*s.ss.length<=aE)=true:=ah (by have:=ho.2.2.2.2.1;simp only [aE];omega)
 have z2:decide (8*s.rt.length<=aE)=true:=ah (by have:=ho.2.2.2.2.2;simp only [aE];omega)
 have hR:j2 r s=if dX r.ms.length s&&fV (gV s.ss r.sh r.sh.length) then (if r.sh.length<6 then 0 else 3) else 2:=rfl
 generalize j2 r s=R at*;generalize dX r.ms.length s=c1 at*;generalize fV (gV s.ss r.sh r.sh.length)=c2 at*;refine cL.dQ Oe mo Tryz.func89 zj (by simp [i89]) (aQ ?_)
 dsimp only [i89,T89];cases c1
 ·have hR:R=2:=hR;subst hR;simp only [go_sem,tK,eE,z1,z2,h1,fZ,simprocAttr];exact Ends.au rfl rfl
 have h2:=h2 (hi rfl);cases c2
 ·have hR:R=2:=hR;subst hR;simp only [go_sem,tK,eE,z1,z2,h1,h2,fZ,simprocAttr];exact Ends.au rfl rfl
 ·exfalso;rw [hm] at hR;exact he hR
theorem auK (r:Rm) (s:bu) (ho:mc r s) (hm:r.sh=[]) (he:j2 r s=0):cL av 89 (.p 0 0::il s) [(0,{cells:=[.fz (rows Mb.l r.ms) r.ms.length,.ns,.fz (rows Tp.l r.tp) r.tp.length]})] 1 none (.bg []) [(0,{cells:=[.fz (rows Mb.l r.ms) r.ms.length,.sg 1 0 (r.sh.length+1),.fz (rows Tp.l r.tp) r.tp.length]}),(1,{cells:=rows bu.l (r.sh++[s]),gr:=some 4})] 2:=by
 have h1: ∀(h:Hp) n,ab h 0=some {cells:=[.fz (rows Mb.l r.ms) r.ms.length,.ns,.fz (rows Tp.l r.tp) r.tp.length]}->bj EL [.p 0 0,.agg [.i .i64 s.ow,.fz (rows aC s.ss) s.ss.length,.fz (rows aC s.rt) s.rt.length,.i .u64 s.bl]] h n=some (true,{v:= .b (dX r.ms.length s),n,rd:=[0]}):=fun h n h0  =>ai8 ho hm h n h0 ;have h2: ∀(hi:da 1 3 (s.ss.length:Int)=true) (h:Hp) n,ab h 0=some {cells:=[.fz (rows Mb.l r.ms) r.ms.length,.ns,.fz (rows Tp.l r.tp) r.tp.length]}->bj EV [.p 0 0,.fz (rows aC s.ss) s.ss.length] h n=some (true,{v:= .b (fV (gV s.ss r.sh r.sh.length)),n,rd:=[0]}):=fun hi h n h0  =>akZ ho hi hm h n h0 ;have hi:= @sk r.ms.length s;have n1:decide (((r.sh.length:Nat):Int)<6)=decide (r.sh.length<6):=by rw [iG];simp;omega
 have z1:decide (8*s.ss.length<=aE)=true:=ah (by have:=ho.2.2.2.2.1;simp only [aE];omega)
 have z2:decide (8*s.rt.length<=aE)=true:=ah (by have:=ho.2.2.2.2.2;simp only [aE];omega)
 have hR:j2 r s=if dX r.ms.length s&&fV (gV s.ss r.sh r.sh.length) then (if r.sh.length<6 then 0 else 3) else 2:=rfl
 have hmB:=fun j=>fR j r.ms;have hmR:=fun g=>jr g r.ms;have htB:=fun j=>ff j r.tp;have htR:=fun g=>je g r.tp;have zR:(rows bu.l r.sh).length=r.sh.length*4:=aT bu.len;have ha:rows bu.l (r.sh++[s])=rows bu.l r.sh++[.i .i64 s.ow,.fz (rows aC s.ss) s.ss.length,.fz (rows aC s.rt) s.rt.length,.i .u64 s.bl]:=by rw [df];show rows bu.l r.sh++(s.l++[])=_;rw [cM];rfl
 have hsB:=fun j=>di j (r.sh++[s]);have hsR:=fun g=>ef g (r.sh++[s]);have gm:decide (64*(r.sh.length+1)<=aE)=true:=ah (by have:=ho.2.1;simp only [aE];omega)
 have i1:=fun j=>iB j s.ss;have i2:=fun j=>iB j s.rt;have i3:=fun g=>iR g s.ss;have i4:=fun g=>iR g s.rt;rw [ha] at hsB hsR;rw [ha];rw [hR] at he;have h3:dX r.ms.length s=true/\fV (gV s.ss r.sh r.sh.length)=true/\decide (r.sh.length<6)=true:=by
  split at he
  ·rename_i h;rw [aw] at h;split at he
   ·rename_i h2;exact ⟨h.1,h.2,ah h2⟩
   ·cases he
  ·cases he
 clear hR he;obtain ⟨c1,c2,c3⟩:=h3;have h4:=h2 (hi c1);rw [hm] at c2 h4 gm hsB hsR ha ⊢;have gm:decide (64<=aE)=true:=rfl;have hz0:rows bu.l []=[]:=rfl;simp only [kv,gv,hz0,List.nil_append] at hsB hsR h4 c2 ⊢;rw [c1] at h1;rw [c2] at h4;refine cL.dQ Oe mo Tryz.func89 zj (by simp [i89]) (aQ ?_)
 dsimp only [i89,T89];simp only [go_sem,tK,eE,z1,z2,h1,h4,fZ,gm,simprocAttr];refine Ends.R [(1,3)] (by decide) (by decide) rfl rfl ?_
 simp only [go_sem,AV.al,ae,aG,aW.aH,AV.aH,aL,hmB,hmR,htB,htR,hsB,hsR,i1,i2,i3,i4,simprocAttr]
theorem P7 {r:Rm} (hg:bC r=true):r.sh.all Ap=true:=by
 rw [er];intro s hs;have h0:=hg;simp only [bC,gg,aw] at h0;have:=er.1 h0.2.1.2.1 s hs;exact sk this
theorem Zb {r:Rm} (hg:bC r=true) {s:bu} (hs:s.ok=true) (h1:s.ss.length<=1000) (h2:s.rt.length<=1000):mc r s:=⟨(fk hg).1,(fk hg).2.1,P7 hg,hs,h1,h2⟩
theorem akc {r:Rm} (hr:r.is=true) (hg:bC r=true) (hm:r.sh≠[]) (h:Hp) (n:Nat):fh false true false [.agg r.a] h n=some (true,{v:= .p n 0,n:=n+4,nw:=[(n,{cells:=[.fz (rows Mb.l r.ms) r.ms.length,.sg (n+2) 0 r.sh.length,.fz (rows Tp.l r.tp) r.tp.length]}),(n+2,js r)]}):=by
 simp only [fh,ey,aS,hr,hg,cond_true];have e:=tx (f:=bu.l) (z:=4) (l:=r.sh) (r9.2 hm);unfold fP l4 mV mH sV tV sH tH;rw [e];rfl
theorem Qy {r:Rm} (hr:r.is=true) (hg:bC r=true) (hm:r.sh=[]) (h:Hp) (n:Nat):fh false true false [.agg r.a] h n=some (true,{v:= .p n 0,n:=n+4,nw:=[(n,{cells:=[.fz (rows Mb.l r.ms) r.ms.length,.ns,.fz (rows Tp.l r.tp) r.tp.length]})]}):=by
 simp only [fh,ey,aS,hr,hg,cond_true];unfold fP l4 mV mH sV tV sH tH;rw [hm];rfl
theorem aff (r:Rm) (hr:r.is=true) (hg:bC r=true) (s:bu) (ho:mc r s) (hm:r.sh≠[]) (he:j2 r s=0):bt av 135 [.fp r.a 0,.fp [.fn 89 (il s)] 0] [] 0 (.agg [.fz (rows Mb.l r.ms) r.ms.length,.fz (rows bu.l (r.sh++[s])) (r.sh.length+1),.fz (rows Tp.l r.tp) r.tp.length]) [] 0:=by
 have sB2:=fun j=>di j (r.sh++[s]);have sR2:=fun g=>ef g (r.sh++[s]);have i1:=fun j=>iB j s.ss;have i2:=fun j=>iB j s.rt;have i3:=fun g=>iR g s.ss;have i4:=fun g=>iR g s.rt;have mB:=fun j=>fR j r.ms;have sB:=fun j=>di j r.sh;have tB:=fun j=>ff j r.tp;have mR:=fun g=>jr g r.ms;have sR:=fun g=>ef g r.sh;have tR:=fun g=>je g r.tp;have hs:=bY (R:=[1,3]) (ks:=[{cells:=[.fz (rows Mb.l r.ms) r.ms.length,.sg 1 0 r.sh.length,.fz (rows Tp.l r.tp) r.tp.length]},js r]) (by kernel_rfl) (by decide) (by simp [ae,AV.al,i1,i2,aG]) (w89 r s ho hm he) (by decide) (by simp [ko,dS,mB,sB,tB,ae,AV.al,dy,ab,aG,cj,sB2,sR2,i1,i2,i3,i4])
 have hat: ∀(h:Hp) n,ab h 1=some {cells:=[.fz (rows Mb.l r.ms) r.ms.length,.sg 3 0 r.sh.length,.fz (rows Tp.l r.tp) r.tp.length]}->ab h 3=some (js r)->kH [1,3] [{cells:=[.fz (rows Mb.l r.ms) r.ms.length,.sg 1 0 r.sh.length,.fz (rows Tp.l r.tp) r.tp.length]},js r] (.p 0 0::(il s)) (.bg []) [(0,{cells:=[.fz (rows Mb.l r.ms) r.ms.length,.sg 2 0 (r.sh.length+1),.fz (rows Tp.l r.tp) r.tp.length]}),(2,{cells:=rows bu.l (r.sh++[s]),gr:=some 4})] 3 none (.p 1 0::(il s)) h n=some (true,{v:= .bg [],n:=n+1,rd:=[1,3],md:=[(1,some {cells:=[.fz (rows Mb.l r.ms) r.ms.length,.sg n 0 (r.sh.length+1),.fz (rows Tp.l r.tp) r.tp.length]}),(3,none)],nw:=[(n,{cells:=rows bu.l (r.sh++[s]),gr:=some 4})]}):=fun h n h1 h2=>by
  refine dt (h:=h) (n:=n) (by simp [aL,AV.aH,nth,sB2,sR2,i1,i2,i3,i4]) ⟨⟨?_,?_⟩,⟨?_,?_⟩,trivial⟩ ?_
  ·rw [h1];simp [aW.aH,aL,AV.aH,nth,mR,sR,tR]
  ·simp [ae,AV.al,mB,sB,tB,aG]
  ·rw [h2];simp [aW.aH,mR,sR,tR]
  ·simp [mB,sB,tB]
  ·simp [lK,fE,aW.aH,aL,AV.aH,ix,nth,ab,mR,sR,tR,aG,cj,sB2,sR2,i1,i2,i3,i4]
 generalize kH [1,3] _ _ _ _ _ _=kT at hs hat;have hk: ∀(h:Hp) n,fh false true false [.agg r.a] h n=some (true,{v:= .p n 0,n:=n+4,nw:=[(n,{cells:=[.fz (rows Mb.l r.ms) r.ms.length,.sg (n+2) 0 r.sh.length,.fz (rows Tp.l r.tp) r.tp.length]}),(n+2,js r)]}):=akc hr hg hm;have hcx:=qf (lm:=false) (ls:=true) (lt:=false) hs;generalize fh false true false=kb at*;have a3:r.a.length=3:=rfl;have ad:List.take 3 (List.drop 0 r.a)=r.a:=rfl;generalize r.a=ra at*;refine bt.dU hcx mo Tryz.func135 fQ (by simp [i135]) (aQ ?_)
 dsimp only [i135,wQ];simp only [go_sem,hk,a3,ad,hat,simprocAttr];refine bw.rM (b:=5) (x:= .sg 5 0 (r.sh.length+1)) (o:=0) (m:=r.sh.length+1) (cs:=rows bu.l (r.sh++[s])) (v':= .agg [.fz (rows Mb.l r.ms) r.ms.length,.fz (rows bu.l (r.sh++[s])) (r.sh.length+1),.fz (rows Tp.l r.tp) r.tp.length]) (h':=[]) rfl rfl (.inr rfl) (.inl rfl) (dj.agg ⟨dj.refl,dj.hit,dj.refl,trivial⟩) trivial ?_;exact bw.ends (Ends.au (by simp only [AV.al,ae,mB,di,tB,az]) rfl)
theorem SG (r:Rm) (hr:r.is=true) (hg:bC r=true) (s:bu) (ho:mc r s) (hm:r.sh≠[]) (he:j2 r s≠0):cL av 135 [.fp r.a 0,.fp [.fn 89 (il s)] 0] [] 0 (some (eD (j2 r s))) (.bg []) [] 0:=by
 have sB2:=fun j=>di j (r.sh++[s]);have sR2:=fun g=>ef g (r.sh++[s]);have i1:=fun j=>iB j s.ss;have i2:=fun j=>iB j s.rt;have i3:=fun g=>iR g s.ss;have i4:=fun g=>iR g s.rt;have mB:=fun j=>fR j r.ms;have sB:=fun j=>di j r.sh;have tB:=fun j=>ff j r.tp;have mR:=fun g=>jr g r.ms;have sR:=fun g=>ef g r.sh;have tR:=fun g=>je g r.tp;have hs:=bY (R:=[1,3]) (ks:=[{cells:=[.fz (rows Mb.l r.ms) r.ms.length,.sg 1 0 r.sh.length,.fz (rows Tp.l r.tp) r.tp.length]},js r]) (by kernel_rfl) (by decide) (by simp [ae,AV.al,i1,i2,aG]) (apQ r s ho hm he) (by decide) (by simp [ko,dS,mB,sB,tB,ae,AV.al,dy,ab,aG,cj,sB2,sR2,i1,i2,i3,i4])
 have hat: ∀(h:Hp) n,ab h 1=some {cells:=[.fz (rows Mb.l r.ms) r.ms.length,.sg 3 0 r.sh.length,.fz (rows Tp.l r.tp) r.tp.length]}->ab h 3=some (js r)->kH [1,3] [{cells:=[.fz (rows Mb.l r.ms) r.ms.length,.sg 1 0 r.sh.length,.fz (rows Tp.l r.tp) r.tp.length]},js r] (.p 0 0::(il s)) (.bg []) [] 2 (some (eD (j2 r s))) (.p 1 0::(il s)) h n=some (true,{v:= .bg [],n,rd:=[1,3],md:=[(1,none),(3,none)],pn:=some (eD (j2 r s))}):=fun h n h1 h2=>by
  refine dt (h:=h) (n:=n) (by simp [aL,AV.aH,nth,sB2,sR2,i1,i2,i3,i4]) ⟨⟨?_,?_⟩,⟨?_,?_⟩,trivial⟩ ?_
  ·rw [h1];simp [aW.aH,aL,AV.aH,nth,mR,sR,tR]
  ·simp [ae,AV.al,mB,sB,tB,aG]
  ·rw [h2];simp [aW.aH,mR,sR,tR]
  ·simp [mB,sB,tB]
  ·simp [lK,fE,aW.aH,aL,AV.aH,ix,nth,ab,mR,sR,tR,aG,cj,sB2,sR2,i1,i2,i3,i4]
 generalize kH [1,3] _ _ _ _ _ _=kT at hs hat;have hk: ∀(h:Hp) n,fh false true false [.agg r.a] h n=some (true,{v:= .p n 0,n:=n+4,nw:=[(n,{cells:=[.fz (rows Mb.l r.ms) r.ms.length,.sg (n+2) 0 r.sh.length,.fz (rows Tp.l r.tp) r.tp.length]}),(n+2,js r)]}):=akc hr hg hm;have hcx:=qf (lm:=false) (ls:=true) (lt:=false) hs;generalize fh false true false=kb at*;have a3:r.a.length=3:=rfl;have ad:List.take 3 (List.drop 0 r.a)=r.a:=rfl;generalize r.a=ra at*;refine cL.dQ hcx mo Tryz.func135 fQ (by simp [i135]) (aQ ?_)
 dsimp only [i135,wQ];simp only [go_sem,hk,a3,ad,hat,simprocAttr];exact Ends.au rfl rfl
theorem aad (r:Rm) (hr:r.is=true) (hg:bC r=true) (s:bu) (ho:mc r s) (hm:r.sh=[]) (he:j2 r s=0):bt av 135 [.fp r.a 0,.fp [.fn 89 (il s)] 0] [] 0 (.agg [.fz (rows Mb.l r.ms) r.ms.length,.fz (rows bu.l (r.sh++[s])) (r.sh.length+1),.fz (rows Tp.l r.tp) r.tp.length]) [] 0:=by
 have sB2:=fun j=>di j (r.sh++[s]);have sR2:=fun g=>ef g (r.sh++[s]);have i1:=fun j=>iB j s.ss;have i2:=fun j=>iB j s.rt;have i3:=fun g=>iR g s.ss;have i4:=fun g=>iR g s.rt;have mB:=fun j=>fR j r.ms;have sB:=fun j=>di j r.sh;have tB:=fun j=>ff j r.tp;have mR:=fun g=>jr g r.ms;have sR:=fun g=>ef g r.sh;have tR:=fun g=>je g r.tp;have hs:=bY (R:=[1]) (ks:=[{cells:=[.fz (rows Mb.l r.ms) r.ms.length,.ns,.fz (rows Tp.l r.tp) r.tp.length]}]) (by kernel_rfl) (by decide) (by simp [ae,AV.al,i1,i2,aG]) (auK r s ho hm he) (by decide) (by simp [ko,dS,mB,sB,tB,ae,AV.al,dy,ab,aG,cj,sB2,sR2,i1,i2,i3,i4])
 have hat: ∀(h:Hp) n,ab h 1=some {cells:=[.fz (rows Mb.l r.ms) r.ms.length,.ns,.fz (rows Tp.l r.tp) r.tp.length]}->kH [1] [{cells:=[.fz (rows Mb.l r.ms) r.ms.length,.ns,.fz (rows Tp.l r.tp) r.tp.length]}] (.p 0 0::(il s)) (.bg []) [(0,{cells:=[.fz (rows Mb.l r.ms) r.ms.length,.sg 1 0 (r.sh.length+1),.fz (rows Tp.l r.tp) r.tp.length]}),(1,{cells:=rows bu.l (r.sh++[s]),gr:=some 4})] 2 none (.p 1 0::(il s)) h n=some (true,{v:= .bg [],n:=n+1,rd:=[1],md:=[(1,some {cells:=[.fz (rows Mb.l r.ms) r.ms.length,.sg n 0 (r.sh.length+1),.fz (rows Tp.l r.tp) r.tp.length]})],nw:=[(n,{cells:=rows bu.l (r.sh++[s]),gr:=some 4})]}):=fun h n h1  =>by
  refine dt (h:=h) (n:=n) (by simp [aL,AV.aH,nth,sB2,sR2,i1,i2,i3,i4]) ⟨⟨?_,?_⟩,trivial⟩ ?_
  ·rw [h1];simp [aW.aH,aL,AV.aH,nth,mR,sR,tR]
  ·simp [ae,AV.al,mB,sB,tB,aG]
  ·simp [lK,fE,aW.aH,aL,AV.aH,ix,nth,ab,mR,sR,tR,aG,cj,sB2,sR2,i1,i2,i3,i4]
 generalize kH [1] _ _ _ _ _ _=kT at hs hat;have hk: ∀(h:Hp) n,fh false true false [.agg r.a] h n=some (true,{v:= .p n 0,n:=n+4,nw:=[(n,{cells:=[.fz (rows Mb.l r.ms) r.ms.length,.ns,.fz (rows Tp.l r.tp) r.tp.length]})]}):=Qy hr hg hm;have hcx:=qf (lm:=false) (ls:=true) (lt:=false) hs;generalize fh false true false=kb at*;have a3:r.a.length=3:=rfl;have ad:List.take 3 (List.drop 0 r.a)=r.a:=rfl;generalize r.a=ra at*;refine bt.dU hcx mo Tryz.func135 fQ (by simp [i135]) (aQ ?_)
 dsimp only [i135,wQ];simp only [go_sem,hk,a3,ad,hat,simprocAttr];refine bw.rM (b:=5) (x:= .sg 5 0 (r.sh.length+1)) (o:=0) (m:=r.sh.length+1) (cs:=rows bu.l (r.sh++[s])) (v':= .agg [.fz (rows Mb.l r.ms) r.ms.length,.fz (rows bu.l (r.sh++[s])) (r.sh.length+1),.fz (rows Tp.l r.tp) r.tp.length]) (h':=[]) rfl rfl (.inr rfl) (.inl rfl) (dj.agg ⟨dj.refl,dj.hit,dj.refl,trivial⟩) trivial ?_;exact bw.ends (Ends.au (by simp only [AV.al,ae,mB,di,tB,az]) rfl)
theorem KU (r:Rm) (hr:r.is=true) (hg:bC r=true) (s:bu) (ho:mc r s) (hm:r.sh=[]) (he:j2 r s≠0):cL av 135 [.fp r.a 0,.fp [.fn 89 (il s)] 0] [] 0 (some (eD (j2 r s))) (.bg []) [] 0:=by
 have sB2:=fun j=>di j (r.sh++[s]);have sR2:=fun g=>ef g (r.sh++[s]);have i1:=fun j=>iB j s.ss;have i2:=fun j=>iB j s.rt;have i3:=fun g=>iR g s.ss;have i4:=fun g=>iR g s.rt;have mB:=fun j=>fR j r.ms;have sB:=fun j=>di j r.sh;have tB:=fun j=>ff j r.tp;have mR:=fun g=>jr g r.ms;have sR:=fun g=>ef g r.sh;have tR:=fun g=>je g r.tp;have hs:=bY (R:=[1]) (ks:=[{cells:=[.fz (rows Mb.l r.ms) r.ms.length,.ns,.fz (rows Tp.l r.tp) r.tp.length]}]) (by kernel_rfl) (by decide) (by simp [ae,AV.al,i1,i2,aG]) (agJ r s ho hm he) (by decide) (by simp [ko,dS,mB,sB,tB,ae,AV.al,dy,ab,aG,cj,sB2,sR2,i1,i2,i3,i4])
 have hat: ∀(h:Hp) n,ab h 1=some {cells:=[.fz (rows Mb.l r.ms) r.ms.length,.ns,.fz (rows Tp.l r.tp) r.tp.length]}->kH [1] [{cells:=[.fz (rows Mb.l r.ms) r.ms.length,.ns,.fz (rows Tp.l r.tp) r.tp.length]}] (.p 0 0::(il s)) (.bg []) [] 1 (some (eD (j2 r s))) (.p 1 0::(il s)) h n=some (true,{v:= .bg [],n,rd:=[1],md:=[(1,none)],pn:=some (eD (j2 r s))}):=fun h n h1  =>by
  refine dt (h:=h) (n:=n) (by simp [aL,AV.aH,nth,sB2,sR2,i1,i2,i3,i4]) ⟨⟨?_,?_⟩,trivial⟩ ?_
  ·rw [h1];simp [aW.aH,aL,AV.aH,nth,mR,sR,tR]
  ·simp [ae,AV.al,mB,sB,tB,aG]
  ·simp [lK,fE,aW.aH,aL,AV.aH,ix,nth,ab,mR,sR,tR,aG,cj,sB2,sR2,i1,i2,i3,i4]
 generalize kH [1] _ _ _ _ _ _=kT at hs hat;have hk: ∀(h:Hp) n,fh false true false [.agg r.a] h n=some (true,{v:= .p n 0,n:=n+4,nw:=[(n,{cells:=[.fz (rows Mb.l r.ms) r.ms.length,.ns,.fz (rows Tp.l r.tp) r.tp.length]})]}):=Qy hr hg hm;have hcx:=qf (lm:=false) (ls:=true) (lt:=false) hs;generalize fh false true false=kb at*;have a3:r.a.length=3:=rfl;have ad:List.take 3 (List.drop 0 r.a)=r.a:=rfl;generalize r.a=ra at*;refine cL.dQ hcx mo Tryz.func135 fQ (by simp [i135]) (aQ ?_)
 dsimp only [i135,wQ];simp only [go_sem,hk,a3,ad,hat,simprocAttr];exact Ends.au rfl rfl
theorem yd (s:bu) (h:Hp) (f:Nat):k7 (Go.Ab.nv h f) (il s)=some ([],il s):=by
 have b1:ae 0 [AV.i .i64 s.ow]=true:=rfl;have b2:ae 0 [AV.fz (rows aC s.ss) s.ss.length]=true:=by simp only [ae,AV.al,iB,az]
 have b3:ae 0 [AV.fz (rows aC s.rt) s.rt.length]=true:=by simp only [ae,AV.al,iB,az]
 have b4:ae 0 [AV.i .u64 s.bl]=true:=rfl;simp only [bn,bQ,ny b1,ny b2,ny b3,ny b4,aS,cM]
theorem tf (s:bu):ae 0 (il s)=true:=by simp only [ae,AV.al,iB,az]
theorem aum (r:Rm) (hr:r.is=true) (s:bu) (hs:s.ok=true) (h1:s.ss.length<=1000) (h2:s.rt.length<=1000):bt av 59 [.agg r.a,.fn 89 (il s)] [] 0 (jK (ik r s)) [] 0:=by
 cases hg:bC r
 ·have e:ik r s=(tn,420):=by
   have e0:Gi r s=420:=by simp only [Gi,hg];rfl
   simp only [ik,e0];rfl
  rw [e];exact HN r hr hg 89 _ (yd s) (tf s)
 ·have ho:=Zb hg hs h1 h2;have e2:(ik r s).2=j2 r s:=by simp only [ik,Gi,hg,cu]
  refine za r 89 _ (yd s) (tf s) _ (fun h=> ?_) (fun h=> ?_) (fun h=> ?_)
  ·simp only [ik] at h ⊢;rw [aN h]
  ·have eR:(ik r s).1.a=[.fz (rows Mb.l r.ms) r.ms.length,.fz (rows bu.l (r.sh++[s])) (r.sh.length+1),.fz (rows Tp.l r.tp) r.tp.length]:=by
    have h':Gi r s=0:=h;simp only [ik,h',cu,Rm.a,dN,List.length_cons,kv]
   rw [e2] at h;rw [eR];by_cases hm:r.sh=[]
   ·exact aad r hr hg s ho hm h
   ·exact aff r hr hg s ho hm h
  ·rw [e2] at h ⊢;by_cases hm:r.sh=[]
   ·exact KU r hr hg s ho hm h
   ·exact SG r hr hg s ho hm h
theorem w23 (r:Rm) (hr:r.is=true) (s:bu) (hs:s.ok=true) (h1:s.ss.length<=1000) (h2:s.rt.length<=1000) (hl:r.sh.length<=1000000):
 bt av 23 [.agg r.a,.i .i64 s.ow,.fz (rows aC s.ss) s.ss.length,.fz (rows aC s.rt) s.rt.length,.i .u64 s.bl] [] 0 (tc (ik r s).1 (xK (ik r s).1.sh.length) (ik r s).2) [] 0:=by
 have hb:=iu (ik r s);have hrb:=Rm.al 0 r;have hcb:=tf s;have hst:=dv (by kernel_rfl) (by simp only [ae,AV.al,hrb,iB,az]) hb (aum r hr s hs h1 h2)
 have hat:=fun h n=>gl (a0:=[.agg r.a,.fn 89 (il s)]) (v0:=jK (ik r s)) h n;have hlen:(ik r s).1.sh.length<=1000001:=by
  unfold ik;split
  ·simp only [dN,List.length_cons,kv];omega
  ·exact eB _
 generalize kP _ _=kT at hst hat;have hv:=fun h f=>jQ h f r;have hk: ∀(h:Hp) n,ab h 1=some {cells:=[.i .i64 s.ow]}->ab h 2=some {cells:=[.fz (rows aC s.ss) s.ss.length]}->ab h 3=some {cells:=[.fz (rows aC s.rt) s.rt.length]}->ab h 4=some {cells:=[.i .u64 s.bl]}->ew kT [.agg r.a,.fn 89 [.p 1 0,.p 2 0,.p 3 0,.p 4 0]] h n=some (true,{v:=jK (ik r s),n,rd:=[1,2,3,4],md:=[(1,none),(2,none),(3,none),(4,none)]}):=fun h n h1 h2 h3 h4=>by
  simp only [ew,bn,bQ,iE,iL,jN,jf,dz (iB 0 s.ss),dz (iB 0 s.rt),hv,h1,h2,h3,h4,aS,dV,hat,hb,ee,List.nil_append,cM];simp [bX.plain,vO,h1,h2,h3,h4,jM,cj]
 have hcx:Sound av (bZ [(59,ew kT)]):=Sound.cons hst.ng Sound.nil;have a3:r.a.length=3:=rfl;generalize hR:ik r s=R at*;obtain ⟨R,e⟩:=R;have a0:R.a.length=3:=rfl;have ao:aX R.a=true:=rfl;have ad:List.take 3 (List.drop 0 R.a)=R.a:=rfl;have ad2:List.take 3 (List.drop 0 r.a)=r.a:=rfl;have ag:R.a[1]? =some (.fz (rows bu.l R.sh) R.sh.length):=rfl;have hbR:=Rm.al 0 R;have n1:IntKind.i64.wrap ((R.sh.length:Int)-1)=(R.sh.length:Int)-1:=by dsimp only at hlen;exact bS (by omega) (by omega)
 simp only [jK,tc] at*;generalize R.a=RA at*;generalize r.a=ra at*;refine dT hcx Tryz.func23 YP ?_
 dsimp only [i23];simp only [go_sem,hk,a3,a0,ao,ad,ad2,ag,n1,simprocAttr];exact Ends.au (by simp only [AV.al,ae,hbR,az]) rfl
/-! The contracts. -/
theorem AM (r:Rm) (i e:Int):(tc r i e).al 0=true:=by simp only [tc,AV.al,ae,Rm.al,az]
def Cu:Ct
 |[.agg c,.s s],_,n=>(qy c).bind fun r=>some (r.is&&decide (r.ms.length<=1000000),{v:=tc (iM r s).1 (xK (iM r s).1.ms.length) (iM r s).2,n})
 |_,_,_=>none
theorem s24:aq av 24 Cu:=fun args h n c E hc ht=>by
 unfold Cu at hc;split at hc
 ·simp only [af,aP,bq] at hc;obtain ⟨r,hr,rfl,rfl⟩:=hc;rw [eh hr];simp only [aw,aV] at ht;exact ax.pure (by kernel_rfl) (by simp only [ae,AV.al,Rm.al,az]) (AM _ _ _) (w24 r ht.1 _ ht.2) _ _
 ·cases hc
def zh:Ct
 |[.agg c,.i .i64 o,.fz L m,.fz K k,.i .u64 b],_,n=>(qy c).bind fun r=>(bk 1 dJ m L).bind fun ss=>(bk 1 dJ k K).bind fun rt=>
  some (r.is&&(bu.ok ⟨o,ss,rt,b⟩&&(decide (ss.length<=1000)&&(decide (rt.length<=1000)&&decide (r.sh.length<=1000000)))),{v:=tc (ik r ⟨o,ss,rt,b⟩).1 (xK (ik r ⟨o,ss,rt,b⟩).1.sh.length) (ik r ⟨o,ss,rt,b⟩).2,n})
 |_,_,_=>none
theorem s23:aq av 23 zh:=fun args h n c E hc ht=>by
 unfold zh at hc;split at hc
 ·simp only [af,aP,bq] at hc;obtain ⟨r,hr,ss,h1,rt,h2,rfl,rfl⟩:=hc;rw [eh hr];obtain ⟨rfl,rfl⟩:=bD dx h1;obtain ⟨rfl,rfl⟩:=bD dx h2;simp only [aw,aV] at ht;exact ax.pure (by kernel_rfl) (by simp only [ae,AV.al,Rm.al,iB,az]) (AM _ _ _) (w23 r ht.1 ⟨_,ss,rt,_⟩ ht.2.1 ht.2.2.1 ht.2.2.2.1 ht.2.2.2.2) _ _
 ·cases hc
structure Op where
 wt:Int
 mo:Int
 rt:List Int
def xR (r:Rm) (i:Nat):Op:=match r.tp[i]? with
 |some t=>⟨t.wt,t.mo,if 0<=t.sh then (match r.sh[t.sh.toNat]? with|some s=>s.rt|none=>[]) else []⟩
 |none=>⟨0,0,[]⟩
def cv (r:Rm) (m:Int):List Op:=(dE r.tp m).map (xR r)
def okO (o:Op):Bool:=da 0 10 o.wt&&(da 0 2 o.mo&&(decide (o.mo<o.rt.length)&&(decide (o.rt.length<=3)&&o.rt.all (da 0 1073741824))))
def gW (os:List Op):Bool:=decide (os.length<=5)&&os.all okO
def okX (os:List Op) (k:Nat) (x:Int):Bool:=match os[k]? with
 |some o=>da (-1) o.mo x
 |none=>false
def xV (os:List Op) (c:List Int):Bool:=decide (c.length=os.length)&&eZ (okX os) c 0
def KD (o:Op) (x:Int) (v:Int×Int):Int×Int:=if 0<=x then (v.1+o.wt*(x+1),v.2-o.rt.getD x.toNat 0) else v
def fT (os:List Op) (c:List Int) (b:Int):Nat->Int×Int
 |0=>(0,b)
 |k+1=>match os[k]?,c[k]? with
  |some o,some x=>KD o x (fT os c b k)
  |_,_=>fT os c b k
theorem vN {o:Op} (h:okO o=true):(0<=o.wt/\o.wt<=10)/\(0<=o.mo/\o.mo<=2)/\o.mo<o.rt.length/\o.rt.length<=3/\ ∀(k:Nat) (x:Int),o.rt[k]? =some x->0<=x/\x<=1073741824:=by
 simp only [okO,aw,aV] at h;obtain ⟨h1,h2,h3,h4,h5⟩:=h;exact ⟨dD h1,dD h2,h3,h4,fun k x hk=>dD (er.1 h5 x (bR hk))⟩
theorem ry {os:List Op} (h:gW os=true) {k:Nat} {o:Op} (ho:os[k]? =some o):okO o=true:=by
 simp only [gW,aw] at h;exact er.1 h.2 o (bR ho)
theorem y4 {os:List Op} {c:List Int} (h:xV os c=true) {k:Nat} {o:Op} {x:Int} (ho:os[k]? =some o) (hx:c[k]? =some x): -1<=x/\x<=o.mo:=by
 simp only [xV,aw,fH] at h;have:=h.2 k x hx;simp only [okX,gv,ho] at this;exact dD this
theorem zr {os:List Op} {c:List Int} {b:Int} (h1:gW os=true) (h2:xV os c=true): ∀k,0<=(fT os c b k).1/\(fT os c b k).1<=30*k/\(fT os c b k).2<=b/\b-1073741824*k<=(fT os c b k).2
 |0=>by simp [fT]
 |k+1=>by
  have ih:=zr (b:=b) h1 h2 k;simp only [fT];split
  ·rename_i o x ho hx;obtain ⟨w1,w2,w3,w4,w5⟩:=vN (ry h1 ho);have hxr:=y4 h2 ho hx;unfold KD;split
   ·rename_i h0;obtain ⟨y,hy⟩: ∃y,o.rt[x.toNat]? =some y:=⟨_,aY (by omega)⟩
    have hyr:=w5 _ _ hy;have hg:o.rt.getD x.toNat 0=y:=by rw [oI,hy];rfl
    rw [hg];have hm1:0<=o.wt*(x+1):=Int.mul_nonneg w1.1 (by omega)
    have hm2:o.wt*(x+1)<=30:=by
     have:=Int.mul_le_mul w1.2 (show x+1<=3 by omega) (by omega) (by decide:(0:Int)<=10)
     omega
    dsimp only;omega
   ·omega
  ·omega
abbrev ue (r:Rm) (m:Int):AV:= .fz (rows (mJ (rows Tp.l r.tp)) (dE r.tp m)) (dE r.tp m).length
noncomputable abbrev ajb:Fx:=⟨av,bZ [],[15,20],57,0⟩
theorem auV (r:Rm) (m:Int) (c:List Int) (b:Int) (hos:gW (cv r m)=true) (hc:xV (cv r m) c=true) (hb:0<=b/\b<=1073741824):
 bt av 154 [.fp r.a 0,ue r m,.fz (rows aC c) c.length,.i .i64 b] [] 0 (.agg [.i .i64 (fT (cv r m) c b c.length).1,.i .i64 (fT (cv r m) c b c.length).2]) [] 0:=by
 have hRA:=Rm.al 0 r;have hr1:r.a[1]? =some (.fz (rows bu.l r.sh) r.sh.length):=rfl;have hT:=ff 0 r.tp;have hbd:=zr (b:=b) hos hc;have hcl:c.length=(dE r.tp m).length:=by
  simp only [xV,aw,aV] at hc;rw [hc.1,cv,iX]
 have h5:c.length<=5:=by
  simp only [gW,aw,aV,cv,iX] at hos;omega
 -- what is read in a round
 have hrd: ∀(k:Nat) (x:Int),c[k]? =some x-> ∃(i:Nat) (t:Tp) (o:Op),(dE r.tp m)[k]? =some i/\r.tp[i]? =some t/\o.wt=t.wt/\(fT (cv r m) c b (k+1)=KD o x (fT (cv r m) c b k))/\okO o=true/\ -1<=x/\x<=o.mo/\(∃s:bu,0<=t.sh/\r.sh[t.sh.toNat]? =some s/\o.rt=s.rt):=fun k x hx=>by
  have hlt:=(eK.1 hx).1;obtain ⟨i,hi⟩: ∃i,(dE r.tp m)[k]? =some i:=⟨_,aY (by omega)⟩
  obtain ⟨_,t,ht,_⟩:=iT (bR hi);have ho:(cv r m)[k]? =some (xR r i):=by simp only [cv,gF,hi,fN]
  have hok:=ry hos ho;have hxr:=y4 hc ho hx;refine ⟨i,t,xR r i,hi,ht,by simp only [xR,ht],by simp only [fT,ho,hx],hok,hxr.1,hxr.2,?_⟩
  obtain ⟨_,w2,w3,_,_⟩:=vN hok;have e:(xR r i).rt=if 0<=t.sh then (match r.sh[t.sh.toNat]? with|some s=>s.rt|none=>[]) else []:=by simp only [xR,ht]
  rw [e] at w3;split at w3
  ·rename_i h0;split at w3
   ·rename_i s hs;refine ⟨s,h0,hs,?_⟩;rw [e,aM h0,hs]
   ·simp at w3;omega
  ·simp at w3;omega
 have hV0:fT (cv r m) c b 0=(0,b):=rfl;generalize fT (cv r m) c b=V at*;have hsl:r.sh.length<=9223372036854775807\/True:= .inr trivial;have hS: ∀(i:Nat) (s:bu),r.sh[i]? =some s->(rows bu.l r.sh)[i*4+2]? =some (.fz (rows aC s.rt) s.rt.length):=fun i s hs=>cn (f:=bu.l) (z:=4) (j:=2) (v:= .fz (rows aC s.rt) s.rt.length) bu.len hs rfl;have hT1: ∀(i:Nat) (t:Tp),r.tp[i]? =some t->(rows Tp.l r.tp)[i*22+1]? =some (.i .i64 t.sh):=fun i t ht=>cn (f:=Tp.l) (z:=22) (j:=1) (v:= .i .i64 t.sh) Tp.len ht rfl;have hT2: ∀(i:Nat) (t:Tp),r.tp[i]? =some t->(rows Tp.l r.tp)[i*22+2]? =some (.i .i64 t.wt):=fun i t ht=>cn (f:=Tp.l) (z:=22) (j:=2) (v:= .i .i64 t.wt) Tp.len ht rfl;simp only [ue];have hSB:=di 0 r.sh;generalize r.a=RA at*;generalize rows bu.l r.sh=SL at*;generalize rows Tp.l r.tp=T at*;have hpB: ∀j,ae j (rows (mJ T) (dE r.tp m))=true:=fun j=>aD _ (bN (Jj hT));have hP: ∀(k i:Nat),(dE r.tp m)[k]? =some i->(rows (mJ T) (dE r.tp m))[k]? =some (.fp T (i*22)):=fun k i hi=>by
  have:=cn (f:=mJ T) (z:=1) (j:=0) (v:= .fp T (i*22)) (pg T) hi rfl;simpa using this
 generalize dE r.tp m=q at*;generalize rows (mJ T) q=PL at*;have hcB:=fun j=>iB j c;have hcC:=fun (k:Nat) (x:Int) (hk:c[k]? =some x)=>by
  have:=cn (f:=aC) (z:=1) (j:=0) (v:= .i .i64 x) (fun _=>rfl) hk rfl;simpa using this
 generalize hC:rows aC c=C at*;have hRA': ∀j,ae j RA=true:=fun j=>aD _ hRA;refine dT (cx:=bZ []) Sound.nil Tryz.func154 ED ?_
 dsimp only [i154];simp only [go_sem,simprocAttr];refine Loop.fj (F:=ajb) Sound.nil mo c.length (fun _=>True)
  (fun k=>[(0,.fp RA 0),(1,.fz PL q.length),(3,.i .i64 (V k).2),(8,.p 0 0),(9,.i .i64 (V k).1),(12,.fz C c.length),(13,.i .i64 (c.length:Int)),(14,.i .i64 (k:Int))])
  (fun k=>[(0,{cells:=[.i .i64 0,.i .i64 0]})]) 1 (by decide) trivial ?_ ?_ (fun k hk _=> ?_)
 ·rw [hV0];simp only [go_sem,AV.al,ae,aG,hRA',hpB,hcB,simprocAttr]
 ·simp only [go_sem,AV.al,ae,aG,simprocAttr]
 dsimp only [ajb];by_cases hlt:k<c.length
 rotate_left
 ·have c1:decide ((k:Int)<(c.length:Int))=false:=cN (by omega)
  obtain rfl:k=c.length:=by omega
  simp only [go_sem,c1,simprocAttr];exact Ends.au rfl rfl
 have c1:decide ((k:Int)<(c.length:Int))=true:=ah (by omega)
 have c2:decide (0<=(k:Int)/\(k:Int)<(c.length:Int))=true:=ah (by omega)
 have c3:decide (0<=(k:Int)/\(k:Int)<(q.length:Int))=true:=ah (by omega)
 have hw:IntKind.i64.wrap ((k:Int)+1)=((k+1:Nat):Int):=by rw [bS (by omega) (by omega)];omega
 obtain ⟨x,hx⟩: ∃x,c[k]? =some x:=⟨_,aY hlt⟩;have gx:=hcC k x hx;obtain ⟨i,t,o,hi,ht,owt,hVk,hok,x1,x2,s,sh0,hs,hrt⟩:=hrd k x hx;obtain ⟨o1,o2,o3,o4,o5⟩:=vN hok;have hbk:=hbd k;have hbk1:=hbd (k+1);have gp:=hP k i hi;have g1:=hT1 i t ht;have g2:=hT2 i t ht;have gs:=hS t.sh.toNat s hs;have hsl:=(eK.1 hs).1;have c4:decide (0<=t.sh/\t.sh<(r.sh.length:Int))=true:=ah (by omega)
 rw [hVk] at hbk1 ⊢;generalize V k=v at*;obtain ⟨v1,v2⟩:=v;dsimp only at*;cases d:decide (x>=0)
 ·have d':=ob d;have e:KD o x (v1,v2)=(v1,v2):=aN (by omega)
  rw [e];simp only [go_sem,c1,c2,gx,d,hw,fu,dK,hRA',hpB,hcB,AV.al,ae,aG,dr,simprocAttr];exact hlt
 ·have d':=bO d;obtain ⟨y,hy⟩: ∃y,o.rt[x.toNat]? =some y:=⟨_,aY (by omega)⟩
  have hyr:=o5 _ _ hy;have hg:o.rt.getD x.toNat 0=y:=by rw [oI,hy];rfl
  have e:KD o x (v1,v2)=(v1+t.wt*(x+1),v2-y):=by rw [KD,aM (by omega),hg,owt]
  rw [e] at hbk1 ⊢;rw [hrt] at hy o3 o4;have gr:(rows aC s.rt)[x.toNat]? =some (.i .i64 y):=by
   have:=cn (f:=aC) (z:=1) (j:=0) (v:= .i .i64 y) (fun _=>rfl) hy rfl;simpa using this
  have c5:decide (0<=x/\x<(s.rt.length:Int))=true:=ah (by omega)
  generalize rows aC s.rt=RL at*;rw [owt] at o1;have hm1:0<=t.wt*(x+1):=Int.mul_nonneg o1.1 (by omega)
  have hm2:t.wt*(x+1)<=30:=by
   have:=Int.mul_le_mul o1.2 (show x+1<=3 by omega) (by omega) (by decide:(0:Int)<=10)
   omega
  have k5:(k:Int)<=5:=by omega
  have u1:IntKind.i64.wrap (x+1)=x+1:=bS (by omega) (by omega)
  have u2:IntKind.i64.wrap (t.wt*(x+1))=t.wt*(x+1):=bS (by omega) (by omega)
  have u3:IntKind.i64.wrap (v1+t.wt*(x+1))=v1+t.wt*(x+1):=bS (by omega) (by omega)
  have u4:IntKind.i64.wrap (v2-y)=v2-y:=bS (by omega) (by omega)
  simp only [go_sem,c1,c2,c3,c4,c5,gx,gp,g1,g2,gs,gr,hr1,d,hw,u1,u2,u3,u4,fu,dK,hRA',hpB,hcB,AV.al,ae,aG,dr,simprocAttr];exact hlt
open Classical in
noncomputable def Gx (r:Rm) (m:Int):Ct
 |[w,l,.fz C k,.i .i64 b],_,n=>if w= .fp r.a 0/\l=ue r m then (bk 1 dJ k C).bind fun c=>some (gW (cv r m)&&(xV (cv r m) c&&da 0 1073741824 b),{v:= .agg [.i .i64 (fT (cv r m) c b c.length).1,.i .i64 (fT (cv r m) c b c.length).2],n}) else none
 |_,_,_=>none
theorem asY (r:Rm) (m:Int):aq av 154 (Gx r m):=fun args h n c E hc ht=>by
 unfold Gx at hc;split at hc
 ·split at hc
  ·rename_i hh;obtain ⟨rfl,rfl⟩:=hh;simp only [af,aP,bq] at hc;obtain ⟨l,hl,rfl,rfl⟩:=hc;obtain ⟨rfl,rfl⟩:=bD dx hl;simp only [aw] at ht;have hp:ae 0 (rows (mJ (rows Tp.l r.tp)) (dE r.tp m))=true:=bN (Jj (ff 0 r.tp));exact ax.pure (by kernel_rfl) (by simp only [ae,AV.al,Rm.al,iB,hp,az]) rfl (auV r m l _ ht.1 ht.2.1 (dD ht.2.2)) _ _
  ·cases hc
 ·cases hc
def A4 (a b:Int×Int):Int:=if lJ a.1 b.1=0 then lJ a.2 b.2 else lJ a.1 b.1
theorem auN (a b:Int×Int):bt av 155 [.fz [.i .i64 a.1,.i .i64 a.2] 2,.fz [.i .i64 b.1,.i .i64 b.2] 2] [] 0 (.i .i64 (A4 a b)) [] 0:=by
 have hcx:Sound av (bZ [(109,AX)]):=Sound.cons ajg Sound.nil;obtain ⟨a1,a2⟩:=a;obtain ⟨b1,b2⟩:=b;have hR:A4 (a1,a2) (b1,b2)=if lJ a1 b1=0 then lJ a2 b2 else lJ a1 b1:=rfl
 generalize A4 (a1,a2) (b1,b2)=R at*;have hk1: ∀(h:Hp) n,AX [.i .i64 a1,.i .i64 b1] h n=some (true,{v:= .i .i64 (lJ a1 b1),n}):=fun _ _=>rfl;have hk2: ∀(h:Hp) n,AX [.i .i64 a2,.i .i64 b2] h n=some (true,{v:= .i .i64 (lJ a2 b2),n}):=fun _ _=>rfl;generalize lJ a1 b1=x at*;generalize lJ a2 b2=y at*;generalize AX=kk at*;refine dT hcx Tryz.func155 ON ?_
 dsimp only [i155];cases d1:x !=0
 ·have d1':x=0:=by simpa using d1
  rw [aM d1'] at hR;rw [hR];cases d2:y !=0
  ·have d2':y=0:=by simpa using d2
   simp only [go_sem,simprocAttr];refine Loop.rounds (F:=⟨av,bZ [(109,kk)],[12,19,28,35],36,0⟩) 3 hcx mo ?_;simp only [go_sem,hk1,hk2,d1,d2,simprocAttr];rw [d2'];exact Ends.au rfl rfl
  ·simp only [go_sem,simprocAttr];refine Loop.rounds (F:=⟨av,bZ [(109,kk)],[12,19,28,35],36,0⟩) 3 hcx mo ?_;simp only [go_sem,hk1,hk2,d1,d2,simprocAttr];exact Ends.au rfl rfl
 ·have d1':x≠0:=by simpa using d1
  rw [aN d1'] at hR;rw [hR];simp only [go_sem,simprocAttr];refine Loop.rounds (F:=⟨av,bZ [(109,kk)],[12,19,28,35],36,0⟩) 3 hcx mo ?_;simp only [go_sem,hk1,hk2,d1,simprocAttr];exact Ends.au rfl rfl
def BX:Ct
 |[.fz [.i .i64 a1,.i .i64 a2] 2,.fz [.i .i64 b1,.i .i64 b2] 2],_,n=>some (true,{v:= .i .i64 (A4 (a1,a2) (b1,b2)),n})
 |_,_,_=>none
theorem aiQ:aq av 155 BX:=fun args h n c E hc ht=>by
 unfold BX at hc;split at hc
 ·cases hc;exact ax.pure (by kernel_rfl) rfl rfl (auN (_,_) (_,_)) _ _
 ·cases hc
/-! choices -/
theorem asC (L:List AV) (hL:ae 0 L=true) (k:Nat):bt av 153 [.fz L k] [] 0 (.fn 199 [.p 0 0]) [(0,{cells:=[.fz L k]})] 1:=by
 have hL': ∀j,ae j L=true:=fun j=>aD _ hL;have hLR: ∀g,aL g L=L:=fun g=>aU _ hL;refine dT (cx:=bZ []) Sound.nil Tryz.func153 FD ?_
 dsimp only [i153];simp only [go_sem,simprocAttr];exact Ends.R [] (by decide) (by decide) rfl rfl (by simp [iy,ab,rn,aW.aH,aL,AV.aH,ae,AV.al,hL',hLR])
def F6:Ct
 |[.fz L k],_,n=>some (ae 0 L,{v:= .fn 199 [.p n 0],n:=n+1,nw:=[(n,{cells:=[.fz L k]})]})
 |_,_,_=>none
theorem anO:aq av 153 F6:=fun args h n c E hc ht=>by
 unfold F6 at hc;split at hc
 ·cases hc;rename_i L k;have hL': ∀j,ae j L=true:=fun j=>aD _ ht;have hLR: ∀g,aL g L=L:=fun g=>aU _ ht;refine (ax.canon (n:=n) (pn:=none) [] [] (by kernel_rfl) rfl (argsL:=[.fz L k]) (by simp only [ae,AV.al,hL',az]) trivial (asC L ht k) (eB _) (by simp [ko,ae,AV.al,hL',dy,dS,ab])).cast ?_ ?_
  ·simp only [aL,AV.aH,hLR]
  ·simp [lK,fE,aW.aH,aL,AV.aH,ix,nth,hLR,aG]
 ·cases hc
theorem ae6 (c:List Int) (h0:0<c.length) (h5:c.length<=5):bt av 90 [.sl 0 0 c.length c.length] [(0,{cells:=rows aC c})] 1 (.fz (rows aC c) c.length) [(0,{cells:=rows aC c})] 1:=by
 have hB:=fun j=>iB j c;have hR:=fun g=>iR g c;have hz:(rows aC c).length=c.length*1:=aT bP;have ho:aX (rows aC c)=true:=fF (fun _=>rfl) c;have hn:decide (c.length=0)=false:=cN (by omega)
 have gm:decide (8*c.length<=aE)=true:=ah (by simp only [aE];omega)
 refine bt.dU (cx:=bZ []) Sound.nil mo Tryz.func90 we (by simp [i90]) (aQ ?_)
 dsimp only [i90];have ht:List.take (c.length*1) (rows aC c)=rows aC c:=h9 (by omega)
 have hn2:decide (c.length<=0)=false:=cN (by omega)
 simp only [go_sem,hn,hn2,gm,ho,hz,ht,fy,simprocAttr];refine bw.rM (b:=2) (x:= .sg 2 0 c.length) (o:=0) (m:=c.length) (cs:=rows aC c) (v':= .fz (rows aC c) c.length) (h':=[(0,{cells:=rows aC c})]) rfl rfl (.inr rfl) (.inl rfl) dj.hit ⟨⟨by decide,_,rfl,rfl,rfl,rfl,gE.refl⟩,trivial⟩ ?_
 exact bw.ends (Ends.R [] (by decide) (by decide) (by simp only [AV.aH,hR]) (by simp only [AV.al,hB]) (by simp [iy,ab,rn,aW.aH,hB,hR]))
abbrev Kr:=Option (List Int)×(Int×Int)
def pL (os:List Op) (b:Int) (c:List Int) (s:Kr):Kr:=
 if decide (0<=(fT os c b c.length).2)&&(s.1.isNone||decide (0<A4 (fT os c b c.length) s.2)) then (some c,fT os c b c.length) else s
def fD:Option (List Int)->AV
 |none=> .ns
 |some o=> .fz (rows aC o) o.length
abbrev rJ (r:Rm) (m b:Int) (s:Kr) (Lh:Hp):Hp:=
 (0,{cells:=[.fp r.a 0]})::(1,{cells:=[ue r m]})::(2,{cells:=[.i .i64 b]})::(3,{cells:=[fD s.1]})::(4,{cells:=[.i .i64 s.2.1,.i .i64 s.2.2]})::Lh
abbrev cH (c:List Int) (j:Nat):Hp:=[(j,{cells:=rows aC c})]
theorem Rs {h:Hp} {f b o m c:Nat}:Go.Ab.nv h (f+1) (.sl b o m c)=((ab h b).bind aW.DH).bind fun q=>(k7 (Go.Ab.nv h f) (aA q.cells o (m*(q.cells.length/c)))).bind fun r=>bif decide (m<=c) then some (b::r.1,.fz r.2 m) else none:=(rfl)
theorem Ri {h:Hp} {f b:Nat} {x y:Int} (hb:ab h b=some {cells:=[.i .i64 x,.i .i64 y]}):Go.Ab.nv h (f+1) (.sl b 0 2 2)=some ([b],.fz [.i .i64 x,.i .i64 y] 2):=by
 simp only [Rs,hb,aS,dV];simp [aA,bn,bQ,jN]
theorem u7 (r:Rm) (m:Int) (j:Nat):ae j (rows (mJ (rows Tp.l r.tp)) (dE r.tp m))=true:=aD _ (bN (Jj (ff 0 r.tp)))
open Classical in
def fJ:List Int->Nat
 |[]=>1
 |m::l=>(m.toNat+2)*fJ l
theorem ml: ∀l,0<fJ l
 |[]=>Nat.one_pos
 |m::l=>Nat.mul_pos (by omega) (ml l)
def Ku (ms:List Int) (i:Nat):Nat:=(ms.getD i 0).toNat+2
def dg (ms:List Int) (j i:Nat):Int:=(((j/fJ (ms.drop (i+1))) % Ku ms i:Nat):Int)-1
def Gu (ms:List Int) (j:Nat):List Int:=yW (dg ms j) ms.length
def G9 (ms:List Int) (j k:Nat):List Int:=yW (fun i=>if i<k then dg ms j i else dg ms (j+1) i) ms.length
theorem qQ {α:Type} {f g:Nat->α}: ∀{n:Nat},(∀i,i<n->f i=g i)->yW f n=yW g n
 |0,_=>rfl
 |n+1,h=>by rw [zq,zq,qQ (fun i hi=>h i (by omega)),h n (by omega)]
theorem aks (ms:List Int) (j:Nat):G9 ms j ms.length=Gu ms j:=qQ fun i hi=>aM hi
theorem oZ (ms:List Int) (j k:Nat):(G9 ms j k).length=ms.length:=mD _
theorem mS (ms:List Int) (j:Nat):(Gu ms j).length=ms.length:=mD _
theorem zG {ms:List Int} {j k i:Nat} (hi:i<ms.length):(G9 ms j k)[i]? =some (if i<k then dg ms j i else dg ms (j+1) i):=rP hi
theorem mP {ms:List Int} {k:Nat} (hk:k<ms.length):fJ (ms.drop k)=Ku ms k*fJ (ms.drop (k+1)):=by
 rw [kW hk];simp only [fJ,Ku,oI,aY hk,gq]
theorem yN {ms:List Int}: ∀{k i:Nat},i<=k->k<=ms.length-> ∃R,fJ (ms.drop i)=fJ (ms.drop k)*R:=by
 intro k i hik hk;induction k with
 |zero=>exact ⟨1,by rw [show i=0 by omega];omega⟩
 |succ k ih=>
  by_cases h:i=k+1
  ·subst h;exact ⟨1,by omega⟩
  ·obtain ⟨R,hR⟩:=ih (by omega) (by omega)
   refine ⟨Ku ms k*R,?_⟩;rw [hR,mP (by omega)]
   simp only [qu,Nat.mul_left_comm,Nat.mul_assoc]
def zp (ms:List Int) (j k:Nat):Prop:=(j+1) % fJ (ms.drop k)=0
theorem afk (ms:List Int) (j:Nat):zp ms j ms.length:=by simp [zp,fJ,Nat.mod_one]
theorem Re {W j:Nat} (hW:0<W) (h:(j+1) % W=0): ∃p,j+1=W*(p+1)/\j/W=p/\(j+1)/W=p+1:=by
 obtain ⟨q,hq⟩:=Nat.dvd_of_mod_eq_zero h;obtain ⟨p,rfl⟩: ∃p,q=p+1:=⟨q-1,by
  rcases AZ q with h0|h0
  ·subst h0;simp at hq
  ·omega⟩
 refine ⟨p,hq,?_,by rw [hq];exact Nat.mul_div_cancel_left _ hW⟩
 have e:j=W*p+(W-1):=by rw [Nat.mul_add,dK] at hq;omega
 rw [e,Nat.mul_add_div hW,Nat.div_eq_of_lt (by omega),fu]
theorem acX {ms:List Int} {j k:Nat} {m:Int} (hk:k<ms.length) (hm:ms[k]? =some m) (h0:0<=m) (hi:zp ms j (k+1)) (he:dg ms j k=m):zp ms j k/\dg ms (j+1) k= -1:=by
 have hW:=ml (ms.drop (k+1));obtain ⟨p,h1,h2,h3⟩:=Re hW hi;have hr:Ku ms k=m.toNat+2:=by simp only [Ku,oI,hm,gq]
 unfold dg at he ⊢;rw [h2,hr] at he;rw [h3,hr];have e:p % (m.toNat+2)=m.toNat+1:=by omega
 have e2:(p+1) % (m.toNat+2)=0:=by
  rw [Nat.add_mod,e];rcases AZ m.toNat with h|h
  ·rw [h]
  ·rw [mL (show 1<m.toNat+2 by omega)];exact Nat.mod_self _
 refine ⟨?_,by rw [e2];rfl⟩
 unfold zp;rw [mP hk,hr];obtain ⟨s,hs⟩:=Nat.dvd_of_mod_eq_zero e2;rw [h1,hs,qu (m.toNat+2) (fJ _),<-Nat.mul_assoc];exact Nat.mul_mod_right _ _
theorem ZH {ms:List Int} {j k:Nat} {m:Int} (hk:k<ms.length) (hm:ms[k]? =some m) (h0:0<=m) (hi:zp ms j (k+1)) (he:dg ms j k≠m):
 dg ms (j+1) k=dg ms j k+1/\(∀i,i<k->dg ms (j+1) i=dg ms j i)/\(j+1) % fJ (ms.drop k)≠0:=by
 have hW:=ml (ms.drop (k+1));obtain ⟨p,h1,h2,h3⟩:=Re hW hi;have hr:Ku ms k=m.toNat+2:=by simp only [Ku,oI,hm,gq]
 have hp:=Nat.mod_lt p (show 0<m.toNat+2 by omega)
 have e:p % (m.toNat+2)<m.toNat+1:=by
  rcases dw (p % (m.toNat+2)) (m.toNat+1) with h|h
  ·exact h
  ·exfalso;apply he;unfold dg;rw [h2,hr];omega
 have hdm:p=(m.toNat+2)*(p/(m.toNat+2))+p % (m.toNat+2):=(Nat.div_add_mod _ _).symm;obtain ⟨M,hM⟩: ∃M,m.toNat+2=M:=⟨_,rfl⟩;rw [hM] at hp e hdm hr;have e':p % M+1<M:=by omega
 have e2:(p+1) % M=p % M+1:=by
  rw [Nat.add_mod,mL (show 1<M by omega),mL e']
 have e3:(p+1)/M=p/M:=by
  have:p+1=M*(p/M)+(p % M+1):=by omega
  rw [this,Nat.mul_add_div (by omega),Nat.div_eq_of_lt e',fu]
 refine ⟨?_,fun i hi'=> ?_,?_⟩
 ·unfold dg;rw [h2,h3,hr,e2];omega
 ·obtain ⟨R,hR⟩:=yN (ms:=ms) (i:=i+1) (k:=k) (by omega) (by omega)
  rw [mP hk,hr,qu M,Nat.mul_assoc] at hR;unfold dg;have q: ∀x:Nat,x/(fJ (List.drop (k+1) ms)*(M*R))=x/fJ (List.drop (k+1) ms)/M/R:=fun x=>by rw [<-Nat.div_div_eq_div_mul,<-Nat.div_div_eq_div_mul]
  rw [hR,q,q,h2,h3,e3]
 ·rw [mP hk,hr,h1,qu M];rw [Nat.mul_mod_mul_left];intro h;rcases Nat.mul_eq_zero.1 h with h|h
  ·omega
  ·omega
theorem KT {ms:List Int} {j:Nat} (hj:j<fJ ms) (h:zp ms j 0):j+1=fJ ms:=by
 unfold zp at h;rw [fy] at h;rcases dw (j+1) (fJ ms) with hl|hl
 ·rw [mL hl] at h;omega
 ·omega
theorem Zv {ms:List Int} {j k:Nat} (hk:k<=ms.length) (hj:j<fJ ms) (h:(j+1) % fJ (ms.drop k)≠0):j+1<fJ ms:=by
 rcases dw (j+1) (fJ ms) with hl|hl
 ·exact hl
 ·exfalso;have e:j+1=fJ ms:=by omega
  obtain ⟨R,hR⟩:=yN (ms:=ms) (i:=0) (k:=k) (eB _) hk;rw [fy] at hR;rw [e,hR] at h;exact h (Nat.mul_mod_right _ _)
theorem EI {ms:List Int} {j k:Nat} (hk:k<ms.length) {v:Int} (hv:dg ms (j+1) k=v):(G9 ms j (k+1)).set k v=G9 ms j k:=by
 refine lH fun i=> ?_;by_cases hi:i<ms.length
 ·rw [yr,zG hi,zG hi,oZ];by_cases hik:k=i
  ·subst hik;simp [hk,hv]
  ·rw [aN hik];by_cases h:i<k
   ·rw [aM h,aM (show i<k+1 by omega)]
   ·rw [aN h,aN (show ¬i<k+1 by omega)]
 ·rw [fM (by rw [List.length_set,oZ];omega),fM (by rw [oZ];omega)]
theorem Jh {ms:List Int} {j k:Nat} (h: ∀i,i<k->dg ms (j+1) i=dg ms j i):G9 ms j k=Gu ms (j+1):=qQ fun i hi=>by
 show (if i<k then dg ms j i else dg ms (j+1) i)=dg ms (j+1) i
 split
 ·rename_i hik;exact (h i hik).symm
 ·rfl
theorem QT (ms:List Int) (j:Nat) {i:Nat} {m:Int} (hm:ms[i]? =some m) (h0:0<=m): -1<=dg ms j i/\dg ms j i<=m:=by
 have hr:Ku ms i=m.toNat+2:=by simp only [Ku,oI,hm,gq]
 unfold dg;rw [hr];have:=Nat.mod_lt (j/fJ (ms.drop (i+1))) (show 0<m.toNat+2 by omega)
 omega
theorem Rb (ms:List Int):Gu ms 0=List.replicate ms.length (-1):=by
 refine lH fun i=> ?_;by_cases hi:i<ms.length
 ·rw [Gu,rP hi,List.getElem?_replicate,aM hi];simp [dg]
 ·rw [fM (by rw [mS];omega),fM (by simp;omega)]
/-! The best one. -/
def lE (os:List Op):List Int:=os.map Op.mo
def kC (os:List Op) (b:Int):Nat->Kr
 |0=>(none,(0,0))
 |j+1=>pL os b (Gu (lE os) j) (kC os b j)
def nD (os:List Op) (b:Int):Kr:=kC os b (fJ (lE os))
theorem IK {os:List Op} (hos:gW os=true) (j:Nat):xV os (Gu (lE os) j)=true:=by
 simp only [xV,aw,aV,fH];refine ⟨by rw [mS,lE,iX],fun k x hx=> ?_⟩
 have hk:=(eK.1 hx).1;rw [mS] at hk;rw [Gu,rP hk] at hx;cases hx;have hk':k<os.length:=by rwa [lE,iX] at hk
 obtain ⟨o,ho⟩: ∃o,os[k]? =some o:=⟨_,aY hk'⟩;have:=vN (ry hos ho);have hb:=QT (lE os) j (i:=k) (m:=o.mo) (by rw [lE,gF,ho];rfl) this.2.1.1
 simp only [okX,gv,ho];exact jg hb
theorem vY {os:List Op} {b:Int} (h0:0<os.length): ∀(j:Nat) (o:List Int),(kC os b j).1=some o->0<o.length
 |0,o,h=>by cases h
 |j+1,o,h=>by
  simp only [kC,pL] at h;split at h
  ·cases h;rw [mS,lE,iX];exact h0
  ·exact vY h0 j o h
abbrev yv (L:Nat) (r:Go.Loop):AV:= .yl L r [2,5,6,7,8] [.p 0 0,.p 1 0,.p 2 0,.p 3 0,.p 4 0]
abbrev ksB (r:Rm) (m b:Int) (s:Kr) (c:List Int):List aW:=[{cells:=[.fp r.a 0]},{cells:=[ue r m]},{cells:=[.i .i64 b]},{cells:=[fD s.1]},{cells:=[.i .i64 s.2.1,.i .i64 s.2.2]},{cells:=rows aC c}]
theorem uW (l:List Int):fC (rows aC l)=true:=kG (fun _=>rfl)
theorem CO (l:List Mb):fC (rows Mb.l l)=true:=kG (fun _=>rfl)
theorem zN (l:List bu):fC (rows bu.l l)=true:=kG (fun s=>by simp only [bu.l,fC,AV.Az,uW,az])
theorem yP (l:List Tp):fC (rows Tp.l l)=true:=kG (fun t=>by simp only [Tp.l,Sw.a,tN,fC,AV.Az,uW,az])
theorem H7 (r:Rm):fC r.a=true:=by simp only [Rm.a,fC,AV.Az,CO,zN,yP,az]
theorem IF (r:Rm) (m:Int):fC (rows (mJ (rows Tp.l r.tp)) (dE r.tp m))=true:=
 kG (fun i=>by simp only [mJ,fC,AV.Az,yP,az])
theorem u6 (o:Option (List Int)):(fD o).Az=true:=by
 cases o
 ·rfl
 ·simp only [fD,AV.Az,uW]
theorem Qx (n:Nat) (hn:n<=5):bt av 200 [.sl 0 0 1 1,.i .i64 (n:Int)] [(0,{cells:=[.i .i64 (-1)]})] 1 (.sl 1 0 n n) [(1,{cells:=rows aC (List.replicate n (-1))})] 2:=
 JV (z:=1) (bytes:=8) (zs:=[.i .i64 0]) (row:=aC) (a:= -1) mo Tryz.func200 Ng (akj mo (by kernel_rfl) Tryz.func96 Zi (LY mo (by kernel_rfl) Tryz.func165 M6)) (fun _=>rfl) rfl (fun _=>rfl) (fun _=>rfl) rfl n (by omega) (by omega)
noncomputable def BI (n:Nat):Ct:=kH [6] [{cells:=[.i .i64 (-1)]}] [.sl 0 0 1 1,.i .i64 (n:Int)] (.sl 1 0 n n) [(1,{cells:=rows aC (List.replicate n (-1))})] 2 none
theorem agx (n:Nat) (hn:n<=5):aq av 200 (BI n):=
 bY (by kernel_rfl) (by decide) rfl (Qx n hn) (by decide) (by simp [ko,iB,dS,ab,dy,aG,cj])
theorem OQ (k:Nat) (h:Hp) (n:Nat) (h5:ab h 6=some {cells:=[.i .i64 (-1)]}):BI k [.sl 6 0 1 1,.i .i64 (k:Int)] h n=some (true,{v:= .sl n 0 k k,n:=n+1,rd:=[6],md:=[(6,none)],nw:=[(n,{cells:=rows aC (List.replicate k (-1))})]}):=by
 have hR:=fun g=>iR g (List.replicate k (-1));refine dt (h:=h) (n:=n) rfl ⟨⟨?_,?_⟩,trivial⟩ ?_
 ·rw [h5];simp [aW.aH,aL,AV.aH]
 ·rfl
 ·simp [lK,fE,aW.aH,aL,AV.aH,ix,nth,ab,hR,aG,cj]
theorem Fc (l:List Int) (k:Nat) (v:Int) (hk:k<l.length):List.take k (rows aC l)++[.i .i64 v]++List.drop (k+1) (rows aC l)=rows aC (l.set k v):=by
 have:=vq (f:=aC) (z:=1) (a:=v) bP hk;rw [dK] at this;rw [<-this];simp [eF,aC]
theorem Ck (os:List Op) (b:Int) (n:Nat): ∀k,fT os (List.replicate n (-1)) b k=(0,b)
 |0=>rfl
 |k+1=>by
  simp only [fT,Ck os b n k];split
  ·rename_i o x ho hx;rw [List.getElem?_replicate] at hx;split at hx
   ·cases hx;rfl
   ·cases hx
  ·rfl
theorem Bl {os:List Op} {b:Int} (hb:0<=b): ∀j,∃o,(kC os b (j+1)).1=some o
 |0=>by
  refine ⟨Gu (lE os) 0,?_⟩;simp only [kC,pL,Rb,List.length_replicate,Ck];simp [hb]
 |j+1=>by
  obtain ⟨o,ho⟩:=Bl hb j;rw [kC];unfold pL;split
  ·exact ⟨_,rfl⟩
  ·exact ⟨o,ho⟩
def uH (os:List Op) (b:Int):List Int:=(nD os b).1.getD []
theorem wV (os:List Op) {b:Int} (hb:0<=b):(nD os b).1=some (uH os b):=by
 obtain ⟨j,hj⟩: ∃j,fJ (lE os)=j+1:=⟨fJ (lE os)-1,by have:=ml (lE os);omega⟩
 obtain ⟨o,ho⟩:=Bl (os:=os) hb j;rw [uH,nD,hj,ho];rfl
abbrev M4:bG:=(.seq (.cQ HV) .ret)
theorem afa:bt av 90 [.sl 0 0 0 0] [(0,{cells:=[]})] 1 .ze [(0,{cells:=[]})] 1:=by
 refine bt.dU (cx:=bZ []) Sound.nil mo Tryz.func90 we (by simp [i90]) (aQ ?_)
 dsimp only [i90];simp only [go_sem,simprocAttr];refine bw.zeS (b:=1) (o:=0) (v':= .ze) dj.hit ?_;exact bw.ends (Ends.R [] (by decide) (by decide) rfl rfl (by simp [iy,ab,rn,aW.aH,aL,ae,cj]))
noncomputable def Nu:Ct:=kH [5] [{cells:=[]}] [.sl 0 0 0 0] .ze [(0,{cells:=[]})] 1 none
theorem arj:aq av 90 Nu:=
 bY (by kernel_rfl) (by decide) rfl afa (by decide) (by simp [ko,dS,ab,dy,aG,cj,ae])
theorem L3 (h:Hp) (n:Nat) (h5:ab h 5=some {cells:=[]}):Nu [.sl 5 0 0 0] h n=some (true,{v:= .ze,n,rd:=[5],md:=[(5,some {cells:=[]})]}):=by
 refine dt (h:=h) (n:=n) rfl ⟨⟨?_,?_⟩,trivial⟩ ?_
 ·rw [h5];simp [aW.aH,aL]
 ·rfl
 ·simp [lK,fE,aW.aH,aL,AV.aH,ix,nth,ab,aG,cj]
abbrev hBz (r:Rm) (m b:Int) (Lh:Hp):Hp:=(0,{cells:=[.fp r.a 0]})::(1,{cells:=[ue r m]})::(2,{cells:=[.i .i64 b]})::(3,{cells:=[.ze]})::(4,{cells:=[.i .i64 0,.i .i64 b]})::Lh
noncomputable def xc (r:Rm) (m:Int):List (Nat×Ct):=[(72,Bq),(153,F6),(154,bj (Gx r m)),(90,Nu),(155,bj BX)]
theorem vF (r:Rm) (m:Int):Sound av (bZ (xc r m)):=Sound.cons s72 (Sound.cons anO (Sound.cons (asY r m).nv (Sound.cons arj (Sound.cons aiQ.nv Sound.nil))))
noncomputable abbrev nk (r:Rm) (m:Int):Fx:=⟨av,bZ (xc r m),[43],48,0⟩
theorem ybz (r:Rm) (m b:Int) (hos:gW (cv r m)=true) (hb:0<=b/\b<=1073741824) (h0:dE r.tp m=[]):
 lF (nk r m) [25] w8 vL [2,5,6,7,8] [.p 0 0,.p 1 0,.p 2 0,.p 3 0,.p 4 0] [.sl 5 0 0 0] (rJ r m b (none,(0,0)) [(5,{cells:=[]})]) 6 (hBz r m b [(5,{cells:=[]})]) 6:=by
 have hRB:=fun j=>Rm.al j r;have hPB:=fun j=>u7 r m j;have hRR:=fun g=>aU (ψ:=g) _ (hRB 0);have hPR:=fun g=>aU (ψ:=g) _ (hPB 0);have hop:cv r m=[]:=by rw [cv,h0];rfl
 have hk: ∀(h:Hp) n,ab h 5=some {cells:=[]}->bj (Gx r m) [.fp r.a 0,ue r m,.sl 5 0 0 0,.i .i64 b] h n=some (true,{v:= .agg [.i .i64 0,.i .i64 b],n,rd:=[5]}):=fun h n h5=>by
  have e:Go.Ab.nv h 6 (.sl 5 0 0 0)=some ([5],.fz [] 0):=by simp only [Rs,h5,aS,dV];rfl
  have hu:bk 1 dJ 0 ([]:List AV)=some []:=rfl;have hc:xV (cv r m) []=true:=by rw [hop];rfl
  simp only [bj,bn,bQ,ny (hRB 0),dz (hPB 0),e,jN,aS,cM,List.nil_append,Gx,pU,cu,hu,hos,hc,jg hb,az];rfl
 have hk3:=fun h n=>L3 h n;have d1:decide (0<=b)=true:=ah hb.1;refine lF.Qj ?_;simp only [nk,xc,rJ];generalize bj (Gx r m)=q1 at*;generalize bj BX=q2 at*;generalize Nu=q3 at*;dsimp only [fD];simp only [go_sem,rV,G8,hk,d1,hk3,simprocAttr];refine Ends.R [] (by decide) (by decide) rfl rfl ?_
 simp only [go_sem,aW.aH,AV.aH,aL,AV.al,ae,aG,hRB,hPB,hRR,hPR,simprocAttr]
def YBz (rm:Rm) (m:Int) (L:Nat) (r:Go.Loop):Prop:= ∀cs as' h1 n1 h2 n2,[25].length=as'.length->fC cs=true->fC as'=true->(∀b k,ab h1 b=some k->fC k.cells=true)->lF (nk rm m) [25] w8 vL [2,5,6,7,8] cs as' h1 n1 h2 n2->bt av YB (.yl L r [2,5,6,7,8] cs::as') h1 n1 (.b true) h2 n2
theorem acQ {L:Nat} {r:Go.Loop} {rm:Rm} {m b:Int} (hY:YBz rm m L r) (hos:gW (cv rm m)=true) (hb:0<=b/\b<=1073741824) (h0:dE rm.tp m=[]) (B:aW) (n:Nat):
 ax av YB [yv L r,.sl 7 0 0 0] ((7,{cells:=[]})::rJ rm m b (none,(0,0)) [(5,B)]) n {v:= .b true,n,rd:=[0,1,2,3,4,7],md:=[(0,some {cells:=[.fp rm.a 0]}),(1,some {cells:=[ue rm m]}),(2,some {cells:=[.i .i64 b]}),(3,some {cells:=[.ze]}),(4,some {cells:=[.i .i64 0,.i .i64 b]}),(7,some {cells:=[]})]}:=by
 have hf:=hY [.p 0 0,.p 1 0,.p 2 0,.p 3 0,.p 4 0] [.sl 5 0 0 0] (rJ rm m b (none,(0,0)) [(5,{cells:=[]})]) 6 _ 6 rfl rfl rfl (fun b k hb=>mA (by simp only [Dp,rJ,fC,AV.Az,H7,IF,u6,az]) hb) (ybz rm m b hos hb h0)
 have hRB:=fun j=>Rm.al j rm;have hPB:=fun j=>u7 rm m j;have hRR:=fun g=>aU (ψ:=g) _ (hRB 0);have hPR:=fun g=>aU (ψ:=g) _ (hPB 0);have hz0:rows aC ([]:List Int)=[]:=rfl;refine (ax.canon (n:=n) (h:=(7,{cells:=[]})::rJ rm m b (none,(0,0)) [(5,B)]) (pn:=none) [0,1,2,3,4,7] (ksB rm m b (none,(0,0)) []) (by kernel_rfl) (by decide) (argsL:=[yv L r,.sl 5 0 0 0]) (by simp [ae,AV.al,aG]) ?_ hf (by decide) ?_).cast ?_ ?_
 ·simp [Hc,ab,aW.aH,aL,AV.aH,nth,hRR,hPR,hRB,hPB,ae,AV.al,cj,hz0,fD]
 ·simp [ko,dS,ab,dy,ae,AV.al,hRB,hPB,aG,cj,fD,hz0]
 ·simp [aL,AV.aH,nth]
 ·simp [lK,fE,aW.aH,aL,AV.aH,ix,nth,ab,hRR,hPR,aG,cj,fD,hz0]
theorem aj9 {L:Nat} {r:Go.Loop} {rm:Rm} {m b:Int} (hY:YBz rm m L r) (hos:gW (cv rm m)=true) (hb:0<=b/\b<=1073741824) (h0:dE rm.tp m=[]):
 bt av 199 [yv L r,.p 5 0] (rJ rm m b (none,(0,0)) [(5,{cells:=[ue rm m]})]) 6 (.bg []) (hBz rm m b []) 6:=by
 have hcy:=acQ hY hos hb h0 {cells:=[ue rm m]} 8;have hsy:aq av YB (cx1 YB _ _ _ _ YB):=fun args h n c E hc ht=>yG hcy YB args h n c E hc ht;have hcx:=Sound.cons (agx 0 (by decide)) (Sound.cons hsy Sound.nil)
 have hk:=fun h n=>OQ 0 h n;have hRB:=fun j=>Rm.al j rm;have hPB:=fun j=>u7 rm m j;have hRR:=fun g=>aU (ψ:=g) _ (hRB 0);have hPR:=fun g=>aU (ψ:=g) _ (hPB 0);have hp0:ue rm m= .fz [] 0:=by simp only [ue,h0];rfl
 have hz0:rows aC (List.replicate 0 (-1))=[]:=rfl;have hz1:rows aC ([]:List Int)=[]:=rfl;simp only [hz0] at hk;have hky: ∀(h:Hp) n,h=(7,{cells:=[]})::rJ rm m b (none,(0,0)) [(5,{cells:=[ue rm m]})]->n=8->cx1 YB [yv L r,.sl 7 0 0 0] ((7,{cells:=[]})::rJ rm m b (none,(0,0)) [(5,{cells:=[ue rm m]})]) 8 ({v:= .b true,n:=8,rd:=[0,1,2,3,4,7],md:=[(0,some {cells:=[.fp rm.a 0]}),(1,some {cells:=[ue rm m]}),(2,some {cells:=[.i .i64 b]}),(3,some {cells:=[.ze]}),(4,some {cells:=[.i .i64 0,.i .i64 b]}),(7,some {cells:=[]})]}:bX) YB [yv L r,.sl 7 0 0 0] h n=some (true,({v:= .b true,n:=8,rd:=[0,1,2,3,4,7],md:=[(0,some {cells:=[.fp rm.a 0]}),(1,some {cells:=[ue rm m]}),(2,some {cells:=[.i .i64 b]}),(3,some {cells:=[.ze]}),(4,some {cells:=[.i .i64 0,.i .i64 b]}),(7,some {cells:=[]})]}:bX)):=fun h n e1 e2=>by rw [e1,e2];exact Jv
 generalize cx1 YB [yv L r,.sl 7 0 0 0] _ _ _ YB=ky at*;simp only [rJ,hBz,fD,hp0,hz1,kv,Int.natCast_zero] at hky hk ⊢;refine dT (cx:=bZ [(200,BI 0),(YB,ky)]) hcx Tryz.func199 FK ?_
 dsimp only [i199];simp only [go_sem,hk,simprocAttr];refine Loop.rounds (F:=⟨av,bZ [(200,BI 0),(YB,ky)],[11,30,37],44,6⟩) 1 hcx mo ?_;have hYB:(200=YB)=False:=by simp [YB]
 simp only [go_sem,hky,hYB,bV,simprocAttr];refine Loop.rounds (F:=⟨av,bZ [(200,BI 0),(YB,ky)],[11,30,37],44,6⟩) 1 hcx mo ?_;simp only [go_sem,simprocAttr];refine Ends.R [] (by decide) (by decide) rfl rfl ?_
 simp only [go_sem,aW.aH,AV.aH,aL,AV.al,ae,aG,hRB,hRR,simprocAttr]
theorem ahR (r:Rm) (m b:Int) (hos:gW (cv r m)=true) (hb:0<=b/\b<=1073741824) (h0:dE r.tp m=[]):
 ck (nk r m) (.block 0 (.oO (.t 24) [25] w8 vL)) (gH (qS [.t 4] fun v h' n'=>bw 0 v h' n' .ze [] 0) (ck (nk r m) M4 (qS [.t 4] fun v h' n'=>bw 0 v h' n' .ze [] 0)))
  [(2,.p 0 0),(5,.p 1 0),(6,.p 2 0),(7,.p 3 0),(8,.p 4 0),(24,.fn 199 [.p 5 0])] (rJ r m b (none,(0,0)) [(5,{cells:=[ue r m]})]) 6:=by
 refine ck.block ?_;refine oA.intro (F:=nk r m) (n':=6) (v':= .bg []) (h':=hBz r m b []) (vF r m) mo [2,5,6,7,8] [.p 0 0,.p 1 0,.p 2 0,.p 3 0,.p 4 0] rfl (by kernel_rfl) rfl rfl rfl (fun i t a h1 h2=> ?_) (fun L rr hY=> ?_) (fun b k hb=> ?_) (eB _) ?_
 ·match i with
  |0=>simp at h1 h2;subst h1;subst h2;rfl
  |1=>simp at h1 h2;subst h1;subst h2;rfl
  |2=>simp at h1 h2;subst h1;subst h2;rfl
  |3=>simp at h1 h2;subst h1;subst h2;rfl
  |4=>simp at h1 h2;subst h1;subst h2;rfl
  |i+5=>simp at h1
 ·exact aj9 (fun cs as' h1 n1 h2 n2 q1 q2 q3 q4 q5=>hY cs as' h1 n1 h2 n2 q1 q2 q3 q4 q5) hos hb h0
 ·refine mA ?_ hb;simp only [Dp,rJ,fC,AV.Az,H7,IF,u6,az]
 ·show ck (nk r m) M4 _ _ _ _;refine ck.run (F:=nk r m) (vF r m) mo ?_;dsimp only [nk,xc];simp only [go_sem,rJ,hBz,simprocAttr];exact bw.ends (Ends.au rfl rfl)
theorem aif (r:Rm) (m:Nat) (x:Mb) (hx:r.ms[m]? =some x) (hl:r.tp.length<=1000000000) (hos:gW (cv r m)=true) (hb:0<=x.es/\x.es<=1073741824) (h0:dE r.tp m=[]):
 bt av 86 [.fp r.a 0,.i .i64 m] [] 0 .ze [] 0:=by
 have hk: ∀(h:Hp) n,Bq [.fp r.a 0,.i .i64 m] h n=some (true,{v:=ue r m,n}):=fun h n=>by
  simp only [Bq,ey,aS,ah hl]
 have hPB:=fun j=>u7 r m j;have hPR:=fun g=>aU (ψ:=g) _ (hPB 0);have hRB:=fun j=>Rm.al j r;have hRR:=fun g=>aU (ψ:=g) _ (hRB 0);have hk3: ∀(h:Hp) n,F6 [ue r m] h n=some (true,{v:= .fn 199 [.p n 0],n:=n+1,nw:=[(n,{cells:=[ue r m]})]}):=fun h n=>by
  simp only [F6,hPB]
 have hr0:r.a[0]? =some (.fz (rows Mb.l r.ms) r.ms.length):=rfl;have hml:=(eK.1 hx).1;have c2:decide (0<=(m:Int)/\(m:Int)<(r.ms.length:Int))=true:=ah (by omega)
 have gm:(rows Mb.l r.ms)[m*2+1]? =some (.i .i64 x.es):=cn (f:=Mb.l) (z:=2) (j:=1) (v:= .i .i64 x.es) Mb.len hx rfl;have rf:=ahR r m x.es hos hb h0;simp only [rJ,fD] at rf;refine bt.rz (cx:=bZ (xc r m)) Tryz.func86 Jq (by simp [i86]) ?_
 dsimp only [i86];refine ck.part (F:=nk r m) (vF r m) mo ?_;dsimp only [nk,xc];simp only [go_sem,simprocAttr];refine ck.part (F:=nk r m) (vF r m) mo ?_;dsimp only [nk,xc];simp only [go_sem,hk,hr0,c2,gm,lR,simprocAttr];refine ck.part (F:=nk r m) (vF r m) mo ?_;dsimp only [nk,xc];simp only [go_sem,simprocAttr];refine ck.part (F:=nk r m) (vF r m) mo ?_;dsimp only [nk,xc];simp only [go_sem,simprocAttr];refine ck.seq ?_;refine ck.part (F:=nk r m) (vF r m) mo ?_;dsimp only [nk,xc];simp only [go_sem,hk3,simprocAttr];refine ck.aH [] rf (show 0<=6 by decide) (show uJ [] 0 6=true by decide) ?_ ?_
 ·simp only [go_sem,AV.aH,aL,AV.al,ae,aG,simprocAttr]
 ·simp only [go_sem,aW.aH,AV.aH,aL,AV.al,ae,aG,hPB,hPR,hRB,hRR,simprocAttr]
theorem FR (b:Int):uH [] b=[]:=by
 have h2:nD [] b=pL [] b [] (none,(0,0)):=rfl;rw [uH,h2];unfold pL;split<;>rfl
theorem Bk {os:List Op} {b:Int} (hos:gW os=true): ∀(j:Nat) (o:List Int),(kC os b j).1=some o->xV os o=true
 |0,o,h=>by cases h
 |j+1,o,h=>by
  simp only [kC,pL] at h;split at h
  ·cases h;exact IK hos j
  ·exact Bk hos j o h
theorem Jz {os:List Op} {b:Int} (hos:gW os=true) (hb:0<=b):xV os (uH os b)=true:=Bk hos _ _ (wV os hb)
theorem FV {r:Rm} (hg:bC r=true) {s:bu} (hs:s∈r.sh):dX r.ms.length s=true:=by
 simp only [bC,gg,aw] at hg;exact er.1 hg.2.1.2.1 s hs
theorem P2 {n:Nat} {s:bu} (h:dX n s=true):s.rt.length=s.ss.length/\s.ss.length<=3/\1<=s.ss.length/\ ∀x∈s.rt,1<=x/\x<=1073741824:=by
 simp only [dX,aw,lU] at h;obtain ⟨_,h2,h3,_,_,_,h5⟩:=h;have h2:=dD h2;refine ⟨by omega,by omega,by omega,fun x hx=> ?_⟩
 rw [fH] at h5;obtain ⟨k,hk⟩:=vT hx;have:=h5 k x hk;simp only [Ln,aw] at this;exact dD this.1
theorem vv {r:Rm} (hg:bC r=true) {k:Nat} {t:Tp} (ht:r.tp[k]? =some t):lW r t=true:=by
 simp only [bC,kN,aw] at hg;have:=(fH _ _).1 hg.2.2.1 k t ht;simp only [nh,aw] at this;exact this.1
theorem vp {r:Rm} {t:Tp} (h:lW r t=true):0<=t.sh/\ ∃s,r.sh[t.sh.toNat]? =some s/\pF s t.me=false/\(1<=t.wt/\t.wt<=10)/\(0<=t.mo/\t.mo<=(s.ss.length:Int)-1)/\dL t.sw=true/\t.sw.l=s.ss/\t.sw.wa<=t.mo:=by
 simp only [lW,aw] at h;obtain ⟨_,h2,h3⟩:=h;refine ⟨(dD h2).1,?_⟩;split at h3
 ·rename_i s hs;simp only [aw,aV,iH] at h3;obtain ⟨a,b,c,d,e,f⟩:=h3;exact ⟨s,hs,a,dD b,dD c,d,e,f⟩
 ·cases h3
theorem Nq {r:Rm} (hg:bC r=true) {k:Nat} {t:Tp} (ht:r.tp[k]? =some t):okO (xR r k)=true:=by
 obtain ⟨h0,s,hs,_,hw,hm,_,_,_⟩:=vp (vv hg ht);obtain ⟨a,b,c,d⟩:=P2 (FV hg (bR hs));have e:xR r k=⟨t.wt,t.mo,s.rt⟩:=by simp only [xR,ht,aM h0,hs]
 rw [e];simp only [okO,aw,aV];refine ⟨jg (by omega),jg (by omega),by omega,by omega,?_⟩
 rw [er];exact fun x hx=>jg (by have:=d x hx;omega)
theorem CX {f:Nat->Bool}: ∀{n k:Nat},ji f n=true->k<n->f k=true
 |n+1,k,h,hk=>by
  rw [yR,aw] at h;by_cases hkn:k=n
  ·subst hkn;exact h.2
  ·exact CX h.1 (by omega)
theorem rK {r:Rm} (hg:bC r=true) {m:Nat} (hm:m<r.ms.length):gW (cv r m)=true:=by
 have h0:=hg;simp only [bC,kN,aw] at h0;have h1:=CX h0.2.2.2 hm;simp only [wP,aw,aV] at h1;simp only [gW,aw,aV,cv,iX];refine ⟨h1.2,?_⟩;rw [er];intro o ho;obtain ⟨i,hi,rfl⟩:=List.mem_map.1 ho;obtain ⟨_,t,ht,_⟩:=iT hi;exact Nq hg ht
theorem sx {r:Rm} (hg:bC r=true) {m:Nat} {x:Mb} (hm:r.ms[m]? =some x):0<=x.es/\x.es<=1073741824:=by
 simp only [bC,lf,aw] at hg;have:=(fH _ _).1 hg.1.2 m x hm;simp only [yY,aw] at this;exact dD this.2.1
def qc (i:Nat):List AV:=[.p 1 (i*22)]
theorem ve: ∀i,(qc i).length=1:=fun _=>rfl
theorem ir (j:Nat) (hj:1<j) (q:List Nat):ae j (rows qc q)=true:=by
 induction q with
 |nil=>rfl
 |cons a q ih=>rw [cT,eY,ih];simp [qc,ae,AV.al,hj]
def KC (q:List Nat) (b:Nat):AV:=match q with|[]=> .ns|_=> .sg b 0 q.length
def P3 (q:List Nat) (b:Nat):Hp:=match q with|[]=>[]|_=>[(b,{cells:=rows qc q,gr:=some 1})]
abbrev dc (r:Rm) (b:Nat):aW:={cells:=[.fz (rows Mb.l r.ms) r.ms.length,.fz (rows bu.l r.sh) r.sh.length,.sg b 0 r.tp.length]}
abbrev bL (r:Rm):aW:={cells:=rows Tp.l r.tp,gr:=some 22}
theorem gG (q:List Nat) (g:Nat->Nat) (hg:g 1=1):aL g (rows qc q)=rows qc q:=by
 induction q with
 |nil=>rfl
 |cons a q ih=>rw [cT];simp [qc,aL,AV.aH,hg,ih]
def Cb (tp:List Tp) (m:Int) (k:Nat):List (Nat×Nat):=match tp[k]? with
 |some t=>bif t.me==m then [(2,4)] else []
 |none=>[]
theorem J8 (tp:List Tp) (m:Int) (k:Nat):uJ (Cb tp m k) 2 3=true:=by
 unfold Cb;split
 ·rename_i t _;cases t.me==m<;>rfl
 ·rfl
theorem KY (r:Rm) (m:Int) (hl:r.tp.length<=1000) {K:cF} {e:Env} {h:Hp} {n:Nat}
 (he:na 3 [] e [(0,.p 0 0),(1,.i .i64 m),(5,.ns),(12,.i .i64 (r.tp.length:Int)),(13,.i .i64 0)]) (hh:iy 3 [] h [(0,dc r 1),(1,bL r)])
 (hK: ∀e',cV e' 5=some (KC (dE r.tp m) 2)->K (.exit 0) e' ((0,dc r 1)::(1,bL r)::P3 (dE r.tp m) 2) 3):
 Ab.Loop av [14,26] 39 2 J2 K e h n:=by
 have mB:=fun j=>fR j r.ms;have sB:=fun j=>di j r.sh;have tB:=fun j=>ff j r.tp;have mR:=fun g=>jr g r.ms;have sR:=fun g=>ef g r.sh;have tR:=fun g=>je g r.tp;have hme: ∀(k:Nat) (t:Tp),r.tp[k]? =some t->(rows Tp.l r.tp)[k*22]? =some (.i .i64 t.me):=fun k t hk=>by
  have:=cn (f:=Tp.l) (z:=22) (j:=0) (v:= .i .i64 t.me) Tp.len hk rfl;simpa using this
 have hoS:dE r.tp m=lY r.tp m r.tp.length:=rfl;rw [hoS] at hK;refine Loop.uE (F:=⟨av,bZ [],[14,26],39,2⟩) Sound.nil mo (X:=Nat) (fun k=>k<=r.tp.length) (fun k=>r.tp.length-k)
  (fun k=>[(0,.p 0 0),(1,.i .i64 m),(5,KC (lY r.tp m k) 2),(12,.i .i64 (r.tp.length:Int)),(13,.i .i64 (k:Int))])
  (fun k=>(0,dc r 1)::(1,bL r)::P3 (lY r.tp m k) 2) 3 0 (fun k=>k+1) [] (Cb r.tp m) (by decide) (by decide) (J8 r.tp m) (eB _) he hh (fun k hk=> ?_)
 by_cases hlt:k<r.tp.length
 ·have c1:decide ((k:Int)<(r.tp.length:Int))=true:=ah (by omega)
  have c2:decide (0<=(k:Int)/\(k:Int)<(r.tp.length:Int))=true:=ah (by omega)
  have hw:IntKind.i64.wrap ((k:Int)+1)=((k+1:Nat):Int):=by rw [bS (by omega) (by omega)];omega
  obtain ⟨x,hx⟩: ∃x,r.tp[k]? =some x:=⟨_,aY hlt⟩;have hr:=hme k x hx;have hlen:=vw r.tp m k;have hix:lY r.tp m (k+1)=bif x.me==m then lY r.tp m k++[k] else lY r.tp m k:=by simp only [lY,hx]
  have hrn:Cb r.tp m k=bif x.me==m then [(2,4)] else []:=by simp only [Cb,hx]
  have hsk:r.tp.length-(k+1)<r.tp.length-k:=by omega
  rw [hix,hrn];generalize lY r.tp m k=q at*;dsimp only [dc,bL];generalize rows Tp.l r.tp=T at*;have hq1:q.length<=1000:=by omega
  cases q with
  |nil=>
   cases c3:(x.me==m)
   ·dsimp only [cond_false,KC,P3];simp only [go_sem,c1,c2,hr,hw,c3,hsk,hlt,AV.al,ae,aG,aW.aH,aL,AV.aH,mB,sB,tB,mR,sR,tR,fu,simprocAttr];exact hlt
   ·dsimp only [cond_true,KC,P3,List.nil_append];have gm:decide (8<=aE)=true:=rfl;simp only [go_sem,c1,c2,hr,hw,c3,hsk,hlt,gm,AV.al,ae,aG,aW.aH,aL,AV.aH,mB,sB,tB,mR,sR,tR,fu,cT,Ih,qc,simprocAttr];exact hlt
  |cons a q=>
   have zR:(rows qc (a::q)).length=(q.length+1)*1:=aT ve;have pB:=ir 3 (by decide) (a::q)
   have pR:=fun g hg=>gG (a::q) g hg;simp only [List.length_cons] at hq1;cases c3:(x.me==m)
   ·dsimp only [cond_false,KC,P3,List.length_cons];generalize rows qc (a::q)=P at*;simp only [go_sem,c1,c2,hr,hw,c3,hsk,hlt,AV.al,ae,aG,aW.aH,aL,AV.aH,mB,sB,tB,mR,sR,tR,pB,pR,rn,fu,simprocAttr];exact hlt
   ·have hap:rows qc (a::q++[k])=rows qc (a::q)++[.p 1 (k*22)]:=by rw [df];simp [rows,qc]
    have pB2:=ir 3 (by decide) (a::q++[k])
    have pR2:=fun g hg=>gG (a::q++[k]) g hg;rw [hap] at pB2 pR2;have hpv: ∀b,KC (a::q++[k]) b= .sg b 0 (q.length+1+1):=fun b=>by simp [KC]
    have hph: ∀b,P3 (a::q++[k]) b=[(b,{cells:=rows qc (a::q)++[.p 1 (k*22)],gr:=some 1})]:=fun b=>by rw [<-hap];rfl
    dsimp only [cond_true];rw [hpv,hph];dsimp only [KC,P3,List.length_cons];generalize rows qc (a::q)=P at*;have gm:decide (8*(q.length+1+1)<=aE)=true:=ah (by simp only [aE];omega)
    simp only [go_sem,c1,c2,hr,hw,c3,hsk,hlt,gm,zR,AV.al,ae,aG,aW.aH,aL,AV.aH,mB,sB,tB,mR,sR,tR,pB,pR,pB2,pR2,rn,fu,simprocAttr];exact hlt
 ·have c1:decide ((k:Int)<(r.tp.length:Int))=false:=cN (by omega)
  obtain rfl:k=r.tp.length:=by omega
  simp only [go_sem,c1,simprocAttr];exact hK _ rfl
theorem asG (r:Rm) (m:Int) (hl:r.tp.length<=1000):bt av 72 [.p 0 0,.i .i64 m] [(0,dc r 1),(1,bL r)] 2 (.fz (rows qc (dE r.tp m)) (dE r.tp m).length) [(0,dc r 1),(1,bL r)] 2:=by
 have hfin:= @KY r m hl;have mB:=fun j=>fR j r.ms;have sB:=fun j=>di j r.sh;have tB:=fun j=>ff j r.tp;have mR:=fun g=>jr g r.ms;have sR:=fun g=>ef g r.sh;have tR:=fun g=>je g r.tp;have pB:=ir 2 (by decide) (dE r.tp m)
 have pR:=gG (dE r.tp m) (rn []) rfl;generalize dE r.tp m=q at*;refine bt.dU (cx:=bZ []) Sound.nil mo Tryz.func72 Ds (by simp [i72]) (aQ ?_)
 dsimp only [i72];simp only [go_sem,simprocAttr];refine hfin ?_ ?_ (fun e' he5=> ?_)
 ·simp only [go_sem,AV.al,ae,aG,AV.aH,aL,simprocAttr]
 ·simp only [go_sem,AV.al,ae,aG,AV.aH,aL,aW.aH,mB,sB,tB,mR,sR,tR,simprocAttr]
 cases q with
 |nil=>
  dsimp only [KC,P3] at he5 ⊢;simp only [go_sem,he5,simprocAttr];refine bw.xe (l:=[]) (v':= .fz [] 0) dj.hit ?_;refine bw.ends (Ends.R [] (by decide) (by decide) rfl rfl ?_)
  simp only [go_sem,aW.aH,AV.aH,aL,AV.al,ae,aG,mB,sB,tB,mR,sR,tR,simprocAttr]
 |cons a q=>
  dsimp only [KC,P3] at he5 ⊢;simp only [go_sem,he5,simprocAttr];refine bw.rM (b:=2) (x:= .sg 2 0 (a::q).length) (o:=0) (m:=(a::q).length) (cs:=rows qc (a::q)) (v':= .fz (rows qc (a::q)) (a::q).length) (h':=[(0,dc r 1),(1,bL r)]) rfl rfl (.inr rfl) (.inl rfl) dj.hit ⟨⟨by decide,_,rfl,rfl,rfl,rfl,gE.refl⟩,⟨by decide,_,rfl,rfl,rfl,rfl,gE.refl⟩,trivial⟩ ?_
  refine bw.ends (Ends.R [] (by decide) (by decide) (by simp only [AV.aH,pR,List.length_cons]) (by simp only [AV.al,pB]) ?_)
  simp only [go_sem,aW.aH,AV.aH,aL,AV.al,ae,aG,mB,sB,tB,mR,sR,tR,simprocAttr]
noncomputable abbrev Qa:Fx:=⟨av,bZ [],[15,20],57,3⟩
theorem aj6 (r:Rm) (m:Int) (c:List Int) (b:Int) (hos:gW (cv r m)=true) (hc:xV (cv r m) c=true) (hb:0<=b/\b<=1073741824):
 bt av 154 [.p 0 0,.fz (rows qc (dE r.tp m)) (dE r.tp m).length,.sl 2 0 c.length c.length,.i .i64 b] [(0,dc r 1),(1,bL r),(2,{cells:=rows aC c})] 3 (.agg [.i .i64 (fT (cv r m) c b c.length).1,.i .i64 (fT (cv r m) c b c.length).2]) [(0,dc r 1),(1,bL r),(2,{cells:=rows aC c})] 3:=by
 have mB:=fun j=>fR j r.ms;have sB:=fun j=>di j r.sh;have tB:=fun j=>ff j r.tp;have mR:=fun g=>jr g r.ms;have sR:=fun g=>ef g r.sh;have tR:=fun g=>je g r.tp;have hbd:=zr (b:=b) hos hc;have hcl:c.length=(dE r.tp m).length:=by
  simp only [xV,aw,aV] at hc;rw [hc.1,cv,iX]
 have h5:c.length<=5:=by
  simp only [gW,aw,aV,cv,iX] at hos;omega
 -- what is read in a round
 have hrd: ∀(k:Nat) (x:Int),c[k]? =some x-> ∃(i:Nat) (t:Tp) (o:Op),(dE r.tp m)[k]? =some i/\r.tp[i]? =some t/\o.wt=t.wt/\(fT (cv r m) c b (k+1)=KD o x (fT (cv r m) c b k))/\okO o=true/\ -1<=x/\x<=o.mo/\(∃s:bu,0<=t.sh/\r.sh[t.sh.toNat]? =some s/\o.rt=s.rt):=fun k x hx=>by
  have hlt:=(eK.1 hx).1;obtain ⟨i,hi⟩: ∃i,(dE r.tp m)[k]? =some i:=⟨_,aY (by omega)⟩
  obtain ⟨_,t,ht,_⟩:=iT (bR hi);have ho:(cv r m)[k]? =some (xR r i):=by simp only [cv,gF,hi,fN]
  have hok:=ry hos ho;have hxr:=y4 hc ho hx;refine ⟨i,t,xR r i,hi,ht,by simp only [xR,ht],by simp only [fT,ho,hx],hok,hxr.1,hxr.2,?_⟩
  obtain ⟨_,w2,w3,_,_⟩:=vN hok;have e:(xR r i).rt=if 0<=t.sh then (match r.sh[t.sh.toNat]? with|some s=>s.rt|none=>[]) else []:=by simp only [xR,ht]<;>rfl
  rw [e] at w3;split at w3
  ·rename_i h0;split at w3
   ·rename_i s hs;refine ⟨s,h0,hs,?_⟩;rw [e,aM h0,hs]
   ·simp at w3;omega
  ·simp at w3;omega
 have hV0:fT (cv r m) c b 0=(0,b):=rfl;generalize fT (cv r m) c b=V at*;have hsl:r.sh.length<=9223372036854775807\/True:= .inr trivial;have hS: ∀(i:Nat) (s:bu),r.sh[i]? =some s->(rows bu.l r.sh)[i*4+2]? =some (.fz (rows aC s.rt) s.rt.length):=fun i s hs=>cn (f:=bu.l) (z:=4) (j:=2) (v:= .fz (rows aC s.rt) s.rt.length) bu.len hs rfl;have hT1: ∀(i:Nat) (t:Tp),r.tp[i]? =some t->(rows Tp.l r.tp)[i*22+1]? =some (.i .i64 t.sh):=fun i t ht=>cn (f:=Tp.l) (z:=22) (j:=1) (v:= .i .i64 t.sh) Tp.len ht rfl;have hT2: ∀(i:Nat) (t:Tp),r.tp[i]? =some t->(rows Tp.l r.tp)[i*22+2]? =some (.i .i64 t.wt):=fun i t ht=>cn (f:=Tp.l) (z:=22) (j:=2) (v:= .i .i64 t.wt) Tp.len ht rfl;dsimp only [dc,bL];generalize rows bu.l r.sh=SL at*;generalize rows Tp.l r.tp=T at*;have hpB:=fun j hj=>ir j hj (dE r.tp m);have hP: ∀(k i:Nat),(dE r.tp m)[k]? =some i->(rows qc (dE r.tp m))[k]? =some (.p 1 (i*22)):=fun k i hi=>by
  have:=cn (f:=qc) (z:=1) (j:=0) (v:= .p 1 (i*22)) ve hi rfl;simpa using this
 generalize dE r.tp m=q at*;generalize rows qc q=PL at*;have hcB:=fun j=>iB j c;have hcC:=fun (k:Nat) (x:Int) (hk:c[k]? =some x)=>by
  have:=cn (f:=aC) (z:=1) (j:=0) (v:= .i .i64 x) (fun _=>rfl) hk rfl;simpa using this
 generalize hC:rows aC c=C at*;have hcR:=fun g=>iR g c;rw [hC] at hcR;have hpB4:=hpB 4 (by decide)
 refine dT (cx:=bZ []) Sound.nil Tryz.func154 ED ?_
 dsimp only [i154];simp only [go_sem,simprocAttr];refine Loop.fj (F:=Qa) Sound.nil mo c.length (fun _=>True)
  (fun k=>[(0,.p 0 0),(1,.fz PL q.length),(3,.i .i64 (V k).2),(8,.p 3 0),(9,.i .i64 (V k).1),(12,.sl 2 0 c.length c.length),(13,.i .i64 (c.length:Int)),(14,.i .i64 (k:Int))])
  (fun k=>[(0,{cells:=[.fz (rows Mb.l r.ms) r.ms.length,.fz SL r.sh.length,.sg 1 0 r.tp.length]}),(1,{cells:=T,gr:=some 22}),(2,{cells:=C}),(3,{cells:=[.i .i64 0,.i .i64 0]})]) 4 (show 3<=4 by decide) trivial ?_ ?_ (fun k hk _=> ?_)
 ·rw [hV0];simp only [go_sem,AV.al,ae,aG,hpB4,hcB,mB,sB,tB,simprocAttr]
 ·simp only [go_sem,AV.al,ae,aG,mB,sB,tB,hcB,simprocAttr]
 dsimp only [Qa];by_cases hlt:k<c.length
 rotate_left
 ·have c1:decide ((k:Int)<(c.length:Int))=false:=cN (by omega)
  obtain rfl:k=c.length:=by omega
  simp only [go_sem,c1,simprocAttr];refine Ends.R [] (by decide) (by decide) rfl rfl ?_
  simp only [go_sem,aW.aH,AV.aH,aL,AV.al,ae,aG,mB,sB,tB,mR,sR,tR,hcB,hcR,simprocAttr]
 have c1:decide ((k:Int)<(c.length:Int))=true:=ah (by omega)
 have c2:decide (0<=(k:Int)/\(k:Int)<(c.length:Int))=true:=ah (by omega)
 have c3:decide (0<=(k:Int)/\(k:Int)<(q.length:Int))=true:=ah (by omega)
 have hw:IntKind.i64.wrap ((k:Int)+1)=((k+1:Nat):Int):=by rw [bS (by omega) (by omega)];omega
 obtain ⟨x,hx⟩: ∃x,c[k]? =some x:=⟨_,aY hlt⟩;have gx:=hcC k x hx;obtain ⟨i,t,o,hi,ht,owt,hVk,hok,x1,x2,s,sh0,hs,hrt⟩:=hrd k x hx;obtain ⟨o1,o2,o3,o4,o5⟩:=vN hok;have hbk:=hbd k;have hbk1:=hbd (k+1);have gp:=hP k i hi;have g1:=hT1 i t ht;have g2:=hT2 i t ht;have gs:=hS t.sh.toNat s hs;have hsl:=(eK.1 hs).1;have c4:decide (0<=t.sh/\t.sh<(r.sh.length:Int))=true:=ah (by omega)
 rw [hVk] at hbk1 ⊢;generalize V k=v at*;obtain ⟨v1,v2⟩:=v;dsimp only at*;cases d:decide (x>=0)
 ·have d':=ob d;have e:KD o x (v1,v2)=(v1,v2):=aN (by omega)
  rw [e];simp only [go_sem,c1,c2,gx,d,hw,fu,dK,hpB4,hcB,mB,sB,tB,AV.al,ae,aG,dr,simprocAttr];exact hlt
 ·have d':=bO d;obtain ⟨y,hy⟩: ∃y,o.rt[x.toNat]? =some y:=⟨_,aY (by omega)⟩
  have hyr:=o5 _ _ hy;have hg:o.rt.getD x.toNat 0=y:=by rw [oI,hy];rfl
  have e:KD o x (v1,v2)=(v1+t.wt*(x+1),v2-y):=by rw [KD,aM (by omega),hg,owt]
  rw [e] at hbk1 ⊢;rw [hrt] at hy o3 o4;have gr:(rows aC s.rt)[x.toNat]? =some (.i .i64 y):=by
   have:=cn (f:=aC) (z:=1) (j:=0) (v:= .i .i64 y) (fun _=>rfl) hy rfl;simpa using this
  have c5:decide (0<=x/\x<(s.rt.length:Int))=true:=ah (by omega)
  generalize rows aC s.rt=RL at*;rw [owt] at o1;have hm1:0<=t.wt*(x+1):=Int.mul_nonneg o1.1 (by omega)
  have hm2:t.wt*(x+1)<=30:=by
   have:=Int.mul_le_mul o1.2 (show x+1<=3 by omega) (by omega) (by decide:(0:Int)<=10)
   omega
  have k5:(k:Int)<=5:=by omega
  have u1:IntKind.i64.wrap (x+1)=x+1:=bS (by omega) (by omega)
  have u2:IntKind.i64.wrap (t.wt*(x+1))=t.wt*(x+1):=bS (by omega) (by omega)
  have u3:IntKind.i64.wrap (v1+t.wt*(x+1))=v1+t.wt*(x+1):=bS (by omega) (by omega)
  have u4:IntKind.i64.wrap (v2-y)=v2-y:=bS (by omega) (by omega)
  simp only [go_sem,c1,c2,c3,c4,c5,gx,gp,g1,g2,gs,gr,d,hw,u1,u2,u3,u4,fu,dK,hpB4,hcB,mB,sB,tB,AV.al,ae,aG,dr,simprocAttr];exact hlt
abbrev j3 (r:Rm) (m:Int):AV:= .fz (rows qc (dE r.tp m)) (dE r.tp m).length
noncomputable def kvl (r:Rm) (m b:Int) (c:List Int):Ct:=kH [0,1,7] [dc r 1,bL r,{cells:=rows aC c}] [.p 0 0,j3 r m,.sl 2 0 c.length c.length,.i .i64 b] (.agg [.i .i64 (fT (cv r m) c b c.length).1,.i .i64 (fT (cv r m) c b c.length).2]) [(0,dc r 1),(1,bL r),(2,{cells:=rows aC c})] 3 none
theorem svl (r:Rm) (m b:Int) (c:List Int) (hos:gW (cv r m)=true) (hc:xV (cv r m) c=true) (hb:0<=b/\b<=1073741824):aq av 154 (kvl r m b c):=
 bY (by kernel_rfl) (by decide) (by simp [ae,AV.al,ir 3 (by decide),aG]) (aj6 r m c b hos hc hb) (by decide) (by simp [ko,dS,ab,dy,ae,AV.al,iB,fR,di,ff,aG,cj])
theorem adV (r:Rm) (m b:Int) (c:List Int) (h:Hp) (n:Nat) (h0:ab h 0=some (dc r 1)) (h1:ab h 1=some (bL r)) (h7:ab h 7=some {cells:=rows aC c}):
 kvl r m b c [.p 0 0,j3 r m,.sl 7 0 c.length c.length,.i .i64 b] h n=some (true,{v:= .agg [.i .i64 (fT (cv r m) c b c.length).1,.i .i64 (fT (cv r m) c b c.length).2],n,rd:=[0,1,7],md:=[(0,some (dc r 1)),(1,some (bL r)),(7,some {cells:=rows aC c})]}):=by
 have mB:=fun j=>fR j r.ms;have sB:=fun j=>di j r.sh;have tB:=fun j=>ff j r.tp;have mR:=fun g=>jr g r.ms;have sR:=fun g=>ef g r.sh;have tR:=fun g=>je g r.tp;have cR:=fun g=>iR g c;have cB:=fun j=>iB j c;have pR:=gG (dE r.tp m) (nth [0,1,7]) rfl;refine dt (h:=h) (n:=n) (by simp [aL,AV.aH,nth,pR]) ⟨⟨?_,?_⟩,⟨?_,?_⟩,⟨?_,?_⟩,trivial⟩ ?_
 ·rw [h0];simp [aW.aH,aL,AV.aH,nth,mR,sR]
 ·simp [ae,AV.al,mB,sB,aG]
 ·rw [h1];simp [aW.aH,tR]
 ·simp [tB]
 ·rw [h7];simp [aW.aH,cR]
 ·simp [cB]
 ·simp [lK,fE,aW.aH,aL,AV.aH,ix,nth,ab,mR,sR,tR,cR,aG,cj]
open Classical in
noncomputable def kvG (r:Rm) (m:Int):Ct
 |[.p 0 0,l,.sl 7 0 k k',.i .i64 b],h,n=>(ab h 7).bind fun B=>(bk 1 dJ k B.cells).bind fun c=>if k'=k/\B={cells:=rows aC c}/\l=j3 r m/\ab h 0=some (dc r 1)/\ab h 1=some (bL r) then
  some (gW (cv r m)&&(xV (cv r m) c&&da 0 1073741824 b),{v:= .agg [.i .i64 (fT (cv r m) c b c.length).1,.i .i64 (fT (cv r m) c b c.length).2],n,rd:=[0,1,7],md:=[(0,some (dc r 1)),(1,some (bL r)),(7,some {cells:=rows aC c})]}) else none
 |_,_,_=>none
theorem Yh (r:Rm) (m b:Int) (c:List Int) (hos:gW (cv r m)=true) (hc:xV (cv r m) c=true) (hb:0<=b/\b<=1073741824) (h:Hp) (n:Nat) (h0:ab h 0=some (dc r 1)) (h1:ab h 1=some (bL r)) (h7:ab h 7=some {cells:=rows aC c}):
 kvG r m [.p 0 0,j3 r m,.sl 7 0 c.length c.length,.i .i64 b] h n=some (true,{v:= .agg [.i .i64 (fT (cv r m) c b c.length).1,.i .i64 (fT (cv r m) c b c.length).2],n,rd:=[0,1,7],md:=[(0,some (dc r 1)),(1,some (bL r)),(7,some {cells:=rows aC c})]}):=by
 simp only [kvG,h7,aS,eE,h0,h1,pU,cu,hos,hc,jg hb,az]
theorem svG (r:Rm) (m:Int):aq av 154 (kvG r m):=fun args h n c E hc ht=>by
 unfold kvG at hc;split at hc
 ·simp only [af] at hc;obtain ⟨B,hB,c,h2,hc⟩:=hc;split at hc
  ·rename_i hh;obtain ⟨rfl,rfl,rfl,h0,h1⟩:=hh;cases hc;obtain ⟨_,rfl⟩:=bD dx h2;simp only [aw] at ht;exact svl r m _ c ht.1 ht.2.1 (dD ht.2.2) _ _ _ _ _ (adV r m _ c h n h0 h1 hB) rfl
  ·cases hc
 ·cases hc
abbrev pI (r:Rm) (m b:Int) (s:Kr) (Lh:Hp):Hp:=
 (0,dc r 1)::(1,bL r)::(2,{cells:=[.p 0 0]})::(3,{cells:=[j3 r m]})::(4,{cells:=[.i .i64 b]})::(5,{cells:=[fD s.1]})::(6,{cells:=[.i .i64 s.2.1,.i .i64 s.2.2]})::Lh
noncomputable def aiA (c:List Int):Ct:=kH [7] [{cells:=rows aC c}] [.sl 0 0 c.length c.length] (.fz (rows aC c) c.length) [(0,{cells:=rows aC c})] 1 none
theorem aqm (c:List Int) (h0:0<c.length) (h5:c.length<=5):aq av 90 (aiA c):=
 bY (by kernel_rfl) (by decide) rfl (ae6 c h0 h5) (by decide) (by simp [ko,iB,dS,ab,dy,aG])
theorem Mw (c:List Int) (h:Hp) (n:Nat) (h5:ab h 7=some {cells:=rows aC c}):aiA c [.sl 7 0 c.length c.length] h n=some (true,{v:= .fz (rows aC c) c.length,n,rd:=[7],md:=[(7,some {cells:=rows aC c})]}):=by
 have hB:=fun j=>iB j c;have hR:=fun g=>iR g c;refine dt (h:=h) (n:=n) rfl ⟨⟨?_,?_⟩,trivial⟩ ?_
 ·rw [h5];simp [aW.aH,hR]
 ·simp [hB]
 ·simp [lK,fE,aW.aH,aL,AV.aH,ix,nth,ab,hR,aG,cj]
open Classical in
noncomputable def xH:Ct
 |[.sl 7 0 k k'],h,n=>(ab h 7).bind fun B=>(bk 1 dJ k B.cells).bind fun c=>if k'=k/\B={cells:=rows aC c} then some (decide (0<k)&&decide (k<=5),{v:= .fz (rows aC c) c.length,n,rd:=[7],md:=[(7,some {cells:=rows aC c})]}) else none
 |_,_,_=>none
theorem JG (c:List Int) (h0:0<c.length) (h5:c.length<=5) (h:Hp) (n:Nat) (hb:ab h 7=some {cells:=rows aC c}):xH [.sl 7 0 c.length c.length] h n=some (true,{v:= .fz (rows aC c) c.length,n,rd:=[7],md:=[(7,some {cells:=rows aC c})]}):=by
 simp only [xH,hb,aS,eE,pU,cu,ah h0,ah h5,az]
theorem afG:aq av 90 xH:=fun args h n c E hc ht=>by
 unfold xH at hc;split at hc
 ·simp only [af] at hc;obtain ⟨B,hB,c,h2,hc⟩:=hc;split at hc
  ·rename_i hh;obtain ⟨rfl,rfl⟩:=hh;cases hc;obtain ⟨_,rfl⟩:=bD dx h2;simp only [aw,aV] at ht;exact aqm c ht.1 ht.2 _ _ _ _ _ (Mw c h n hB) rfl
  ·cases hc
 ·cases hc
noncomputable def HQ (r:Rm) (m:Int):List (Nat×Ct):=[(72,Bq),(153,F6),(154,kvG r m),(90,xH),(155,bj BX)]
theorem Qs (r:Rm) (m:Int):Sound av (bZ (HQ r m)):=Sound.cons s72 (Sound.cons anO (Sound.cons (svG r m) (Sound.cons afG (Sound.cons aiQ.nv Sound.nil))))
noncomputable abbrev zJ (r:Rm) (m:Int):Fx:=⟨av,bZ (HQ r m),[43],48,2⟩
theorem ybL (r:Rm) (m b:Int) (s:Kr) (c:List Int) (hos:gW (cv r m)=true) (hc:xV (cv r m) c=true) (hb:0<=b/\b<=1073741824) (h0:0<c.length) (h5c:c.length<=5) (hso: ∀o,s.1=some o->0<o.length):
 lF (zJ r m) [25] w8 vL [2,5,6,7,8] [.p 2 0,.p 3 0,.p 4 0,.p 5 0,.p 6 0] [.sl 7 0 c.length c.length] (pI r m b s (cH c 7)) 8 (pI r m b (pL (cv r m) b c s) (cH c 7)) 8:=by
 have mB:=fun j=>fR j r.ms;have sB:=fun j=>di j r.sh;have tB:=fun j=>ff j r.tp;have mR:=fun g=>jr g r.ms;have sR:=fun g=>ef g r.sh;have tR:=fun g=>je g r.tp;have hPB:=ir 8 (by decide) (dE r.tp m)
 have hPR:=gG (dE r.tp m) (rn []) rfl;have hcB:=fun j=>iB j c;have hcR:=fun g=>iR g c;have hk:=fun h n=>Yh r m b c hos hc hb h n;have hk2: ∀(h:Hp) n x y,ab h 8=some {cells:=[.i .i64 x,.i .i64 y]}->ab h 6=some {cells:=[.i .i64 s.2.1,.i .i64 s.2.2]}->bj BX [.sl 8 0 2 2,.sl 6 0 2 2] h n=some (true,{v:= .i .i64 (A4 (x,y) s.2),n,rd:=[8,6]}):=fun h n x y h6 h4=>by
  simp only [bj,bn,bQ,Ri h6,Ri h4,aS,cM,List.nil_append,ee,BX];rfl
 have hk3:=fun h n=>JG c h0 h5c h n;have hst:pL (cv r m) b c s=if decide (0<=(fT (cv r m) c b c.length).2)&&(s.1.isNone||decide (0<A4 (fT (cv r m) c b c.length) s.2)) then (some c,fT (cv r m) c b c.length) else s:=rfl
 refine lF.Qj ?_;simp only [zJ,HQ,pI,cH];generalize fT (cv r m) c b c.length=v at*;generalize pL (cv r m) b c s=s2 at*;generalize kvG r m=q1 at*;generalize bj BX=q2 at*;generalize xH=q3 at*;obtain ⟨v1,v2⟩:=v;have hoB: ∀(o:Option (List Int)) j,(fD o).al j=true:=fun o j=>by
  cases o
  ·rfl
  ·simp only [fD,AV.al,iB]
 have hoR: ∀(o:Option (List Int)) g,(fD o).aH g=fD o:=fun o g=>by
  cases o
  ·rfl
  ·simp only [fD,AV.aH,iR]
 obtain ⟨ov,mw,mb⟩:=s;dsimp only at*;have hk2:=fun h n=>hk2 h n v1 v2;cases d1:decide (0<=v2)
 ·rw [d1] at hst;rw [hst];simp only [eV,cY,bV];simp only [go_sem,rV,G8,hk,d1,simprocAttr];refine Ends.R [] (by decide) (by decide) rfl rfl ?_
  simp only [go_sem,aW.aH,AV.aH,aL,AV.al,ae,aG,mB,sB,tB,mR,sR,tR,hPB,hPR,hcB,hcR,hoB,hoR,simprocAttr]
 rw [d1] at hst;simp only [eJ] at hst;cases ov with
 |none=>
  have hst:s2=(some c,v1,v2):=by rw [hst];rfl
  rw [hst];dsimp only [fD];simp only [go_sem,rV,G8,hk,d1,hk3,simprocAttr];refine Ends.R [] (by decide) (by decide) rfl rfl ?_
  simp only [go_sem,aW.aH,AV.aH,aL,AV.al,ae,aG,mB,sB,tB,mR,sR,tR,hPB,hPR,hcB,hcR,hoB,hoR,simprocAttr]
 |some o=>
  have hol:=hso o rfl;have n0:decide (o.length=0)=false:=cN (by omega)
  have oB:=fun j=>iB j o;have oR:=fun g=>iR g o;simp only [Option.isNone_some,fg] at hst;dsimp only [fD];cases d2:decide (0<A4 (v1,v2) (mw,mb))
  ·rw [d2] at hst;rw [hst];simp only [cY,bV,fD];obtain ⟨k,hk0⟩: ∃k,o.length=k+1:=⟨o.length-1,by omega⟩
   rw [hk0] at*;simp only [go_sem,rV,G8,hk,hk2,d1,d2,n0,simprocAttr];refine Ends.R [] (by decide) (by decide) rfl rfl ?_
   simp only [go_sem,aW.aH,AV.aH,aL,AV.al,ae,aG,mB,sB,tB,mR,sR,tR,hPB,hPR,hcB,hcR,oB,oR,simprocAttr]
  ·rw [d2] at hst;rw [hst];simp only [cu,fD];obtain ⟨k,hk0⟩: ∃k,o.length=k+1:=⟨o.length-1,by omega⟩
   rw [hk0] at*;simp only [go_sem,rV,G8,hk,hk2,hk3,d1,d2,n0,simprocAttr];refine Ends.R [] (by decide) (by decide) rfl rfl ?_
   simp only [go_sem,aW.aH,AV.aH,aL,AV.al,ae,aG,mB,sB,tB,mR,sR,tR,hPB,hPR,hcB,hcR,oB,oR,simprocAttr]
abbrev yvL (L:Nat) (r:Go.Loop):AV:= .yl L r [2,5,6,7,8] [.p 2 0,.p 3 0,.p 4 0,.p 5 0,.p 6 0]
def YBl (rm:Rm) (m:Int) (L:Nat) (r:Go.Loop):Prop:= ∀cs as' h1 n1 h2 n2,[25].length=as'.length->fC cs=true->fC as'=true->(∀b k,ab h1 b=some k->fC k.cells=true)->lF (zJ rm m) [25] w8 vL [2,5,6,7,8] cs as' h1 n1 h2 n2->bt av YB (.yl L r [2,5,6,7,8] cs::as') h1 n1 (.b true) h2 n2
abbrev ksL (r:Rm) (m b:Int) (s:Kr) (c:List Int):List aW:=[dc r 1,bL r,{cells:=[.p 0 0]},{cells:=[j3 r m]},{cells:=[.i .i64 b]},{cells:=[fD s.1]},{cells:=[.i .i64 s.2.1,.i .i64 s.2.2]},{cells:=rows aC c}]
theorem J3 (q:List Nat):fC (rows qc q)=true:=kG (fun i=>rfl)
theorem anK {L:Nat} {r:Go.Loop} {rm:Rm} {m b:Int} (hY:YBl rm m L r) (s:Kr) (c:List Int) (hos:gW (cv rm m)=true) (hc:xV (cv rm m) c=true) (hb:0<=b/\b<=1073741824) (h0:0<c.length) (h5c:c.length<=5) (hso: ∀o,s.1=some o->0<o.length) (B:aW) (n:Nat):
 ax av YB [yvL L r,.sl 8 0 c.length c.length] (pI rm m b s ((7,B)::cH c 8)) n {v:= .b true,n,rd:=[0,1,2,3,4,5,6,8],md:=[(0,some (dc rm 1)),(1,some (bL rm)),(2,some {cells:=[.p 0 0]}),(3,some {cells:=[j3 rm m]}),(4,some {cells:=[.i .i64 b]}),(5,some {cells:=[fD (pL (cv rm m) b c s).1]}),(6,some {cells:=[.i .i64 (pL (cv rm m) b c s).2.1,.i .i64 (pL (cv rm m) b c s).2.2]}),(8,some {cells:=rows aC c})]}:=by
 have hf:=hY [.p 2 0,.p 3 0,.p 4 0,.p 5 0,.p 6 0] [.sl 7 0 c.length c.length] (pI rm m b s (cH c 7)) 8 _ 8 rfl rfl rfl (fun b k hb=>mA (by simp only [Dp,pI,cH,fC,AV.Az,CO,zN,yP,J3,u6,uW,az]) hb) (ybL rm m b s c hos hc hb h0 h5c hso)
 have mB:=fun j=>fR j rm.ms;have sB:=fun j=>di j rm.sh;have tB:=fun j=>ff j rm.tp;have mR:=fun g=>jr g rm.ms;have sR:=fun g=>ef g rm.sh;have tR:=fun g=>je g rm.tp;have hPB:=ir 8 (by decide) (dE rm.tp m)
 have hPR:=gG (dE rm.tp m) (nth [0,1,2,3,4,5,6,8]) rfl;have hPR2:=gG (dE rm.tp m) (ix [0,1,2,3,4,5,6,8] n) rfl;have hcB:=fun j=>iB j c;have hcR:=fun g=>iR g c;have hoB: ∀(o:Option (List Int)) j,(fD o).al j=true:=fun o j=>by
  cases o
  ·rfl
  ·simp only [fD,AV.al,iB]
 have hoR: ∀(o:Option (List Int)) g,(fD o).aH g=fD o:=fun o g=>by
  cases o
  ·rfl
  ·simp only [fD,AV.aH,iR]
 generalize pL (cv rm m) b c s=s2 at*;refine (ax.canon (n:=n) (h:=pI rm m b s ((7,B)::cH c 8)) (pn:=none) [0,1,2,3,4,5,6,8] (ksL rm m b s c) (by kernel_rfl) (by decide) (argsL:=[yvL L r,.sl 7 0 c.length c.length]) (by simp [ae,AV.al,aG]) ?_ hf (by decide) ?_).cast ?_ ?_
 ·simp [Hc,ab,aW.aH,aL,AV.aH,nth,mR,sR,tR,hPR,hcR,hoR,mB,sB,tB,hPB,hcB,hoB,ae,AV.al,cj,aG]
 ·simp [ko,dS,ab,dy,ae,AV.al,mB,sB,tB,hPB,hcB,hoB,aG,cj]
 ·simp [aL,AV.aH,nth]
 ·simp [lK,fE,aW.aH,aL,AV.aH,ix,nth,ab,mR,sR,tR,hcR,hoR,aG,cj]<;>exact hPR2
noncomputable def Hj (n:Nat):Ct:=kH [8] [{cells:=[.i .i64 (-1)]}] [.sl 0 0 1 1,.i .i64 (n:Int)] (.sl 1 0 n n) [(1,{cells:=rows aC (List.replicate n (-1))})] 2 none
theorem agT (n:Nat) (hn:n<=5):aq av 200 (Hj n):=
 bY (by kernel_rfl) (by decide) rfl (Qx n hn) (by decide) (by simp [ko,iB,dS,ab,dy,aG,cj])
theorem Kb (k:Nat) (h:Hp) (n:Nat) (h5:ab h 8=some {cells:=[.i .i64 (-1)]}):Hj k [.sl 8 0 1 1,.i .i64 (k:Int)] h n=some (true,{v:= .sl n 0 k k,n:=n+1,rd:=[8],md:=[(8,none)],nw:=[(n,{cells:=rows aC (List.replicate k (-1))})]}):=by
 have hR:=fun g=>iR g (List.replicate k (-1));refine dt (h:=h) (n:=n) rfl ⟨⟨?_,?_⟩,trivial⟩ ?_
 ·rw [h5];simp [aW.aH,aL,AV.aH]
 ·rfl
 ·simp [lK,fE,aW.aH,aL,AV.aH,ix,nth,ab,hR,aG,cj]
theorem aoq {L:Nat} {r:Go.Loop} {rm:Rm} {m b:Int} (hY:YBl rm m L r) (hos:gW (cv rm m)=true) (hb:0<=b/\b<=1073741824) (h0:0<(dE rm.tp m).length):
 bt av 199 [yvL L r,.p 7 0] (pI rm m b (none,(0,0)) [(7,{cells:=[j3 rm m]})]) 8 (.bg []) (pI rm m b (nD (cv rm m) b) []) 8:=by
 have hlen:(cv rm m).length=(dE rm.tp m).length:=by rw [cv,iX]
 have h5:(dE rm.tp m).length<=5:=by
  simp only [gW,aw,aV] at hos;omega
 have hml:(lE (cv rm m)).length=(dE rm.tp m).length:=by rw [lE,iX,hlen]
 refine dT (cx:=bZ [(200,Hj (dE rm.tp m).length)]) (Sound.cons (agT _ h5) Sound.nil) Tryz.func199 FK ?_
 dsimp only [i199];have hk:=fun h n=>Kb (dE rm.tp m).length h n;simp only [pI];simp only [go_sem,hk,simprocAttr];have mB:=fun j=>fR j rm.ms;have sB:=fun j=>di j rm.sh;have tB:=fun j=>ff j rm.tp;have mR:=fun g=>jr g rm.ms;have sR:=fun g=>ef g rm.sh;have tR:=fun g=>je g rm.tp;have hqB:=fun j hj=>ir j hj (dE rm.tp m);have hqR:=fun g hg=>gG (dE rm.tp m) g hg;have hP: ∀(k i:Nat),(dE rm.tp m)[k]? =some i->(rows qc (dE rm.tp m))[k]? =some (.p 1 (i*22)):=fun k i hi=>by
  have:=cn (f:=qc) (z:=1) (j:=0) (v:= .p 1 (i*22)) ve hi rfl;simpa using this
 have hT3: ∀(i:Nat) (t:Tp),rm.tp[i]? =some t->(rows Tp.l rm.tp)[i*22+3]? =some (.i .i64 t.mo):=fun i t ht=>cn (f:=Tp.l) (z:=22) (j:=3) (v:= .i .i64 t.mo) Tp.len ht rfl;have hms: ∀k,k<(dE rm.tp m).length-> ∃(i:Nat) (t:Tp),(dE rm.tp m)[k]? =some i/\rm.tp[i]? =some t/\(lE (cv rm m))[k]? =some t.mo/\0<=t.mo/\t.mo<=2:=fun k hk=>by
  obtain ⟨i,hi⟩: ∃i,(dE rm.tp m)[k]? =some i:=⟨_,aY hk⟩;obtain ⟨_,t,ht,_⟩:=iT (bR hi);have ho:(cv rm m)[k]? =some (xR rm i):=by simp only [cv,gF,hi,fN]
  have hok:=vN (ry hos ho);have e:(xR rm i).mo=t.mo:=by simp only [xR,ht]
  rw [e] at hok;exact ⟨i,t,hi,ht,by rw [lE,gF,ho,fN,e],hok.2.1.1,hok.2.1.2⟩
 have hcy: ∀j,_:=fun j=>anK hY (kC (cv rm m) b j) (Gu (lE (cv rm m)) j) hos (IK hos j) hb (by rw [mS];omega) (by rw [mS];omega) (fun o ho=>vY (by omega) j o ho) {cells:=[j3 rm m]} 9
 have hE:nD (cv rm m) b=kC (cv rm m) b (fJ (lE (cv rm m))):=rfl;have h00:(none,(0,0))=kC (cv rm m) b 0:=rfl;have hst: ∀j,pL (cv rm m) b (Gu (lE (cv rm m)) j) (kC (cv rm m) b j)=kC (cv rm m) b (j+1):=fun j=>rfl;simp only [hst,mS,hml] at hcy;have hz:=Rb (lE (cv rm m));rw [hml] at hz;rw [hE,<-hz];generalize lE (cv rm m)=ms at*;generalize kC (cv rm m) b=bf at*;have q1:fD none=fD (bf 0).1:=by rw [<-h00]
 have q2:(0:Int)=(bf 0).2.1:=by rw [<-h00]
 have q3:(0:Int)=(bf 0).2.2:=by rw [<-h00]
 simp only [j3,dc,bL,pI,cH] at*;generalize dE rm.tp m=q at*;generalize rows Tp.l rm.tp=T at*;generalize rows qc q=PL at*;generalize rows Mb.l rm.ms=ML at*;generalize rows bu.l rm.sh=SL at*;have hqB8:=hqB 8 (by decide)
 have hqB9:=hqB 9 (by decide)
 have hqRi:=hqR (rn []) rfl;have hqRx:=hqR (fun x=>x) rfl;have hqR8:=hqR (rn [(8,9)]) rfl;have hoB: ∀(o:Option (List Int)) j,(fD o).al j=true:=fun o j=>by
  cases o
  ·rfl
  ·simp only [fD,AV.al,iB]
 have hoR: ∀(o:Option (List Int)) g,(fD o).aH g=fD o:=fun o g=>by
  cases o
  ·rfl
  ·simp only [fD,AV.aH,iR]
 rw [show ([AV.i .i64 0,.i .i64 0]:List AV)=[.i .i64 (bf 0).2.1,.i .i64 (bf 0).2.2] by rw [<-q2,<-q3],q1]
 refine Loop.ani (F:=⟨av,bZ [],[11,30,37],44,8⟩) mo (X:=Nat) (fun j=>j<fJ ms) (fun j=>fJ ms-j)
  (fun j=>[(0,yvL L r),(1,.p 7 0),(3,.sl 8 0 q.length q.length)])
  (fun j=>[(0,{cells:=[.fz ML rm.ms.length,.fz SL rm.sh.length,.sg 1 0 rm.tp.length]}),(1,{cells:=T,gr:=some 22}),(2,{cells:=[.p 0 0]}),(3,{cells:=[.fz PL q.length]}),(4,{cells:=[.i .i64 b]}),(5,{cells:=[fD (bf j).1]}),(6,{cells:=[.i .i64 (bf j).2.1,.i .i64 (bf j).2.2]}),(7,{cells:=[.fz PL q.length]}),(8,{cells:=rows aC (Gu ms j)})]) 9 0 (fun j=>j+1) [(8,9)] (fun _=>[]) (by decide) (by decide) (fun _=>by decide) (ml ms) ?_ ?_ (fun j hj=> ?_)
 ·simp only [go_sem,AV.al,ae,aG,AV.aH,aL,simprocAttr]
 ·simp only [go_sem,AV.al,ae,aG,AV.aH,aL,aW.aH,mB,sB,tB,mR,sR,tR,hqB8,hqB9,hqRi,hqR8,hoB,hoR,iB,iR,simprocAttr]
 refine ⟨_,yG (hcy j),?_⟩;have hcy:=hcy j;generalize hE0:pL (cv rm m) b (Gu ms j) (bf j)=E0;simp only [go_sem,Jv,simprocAttr];have hcn:=aks ms j;rw [hml] at hcn;rw [<-hcn];refine Loop.by (F:=⟨av,bZ [],[11,30,37],44,8⟩) Sound.nil mo (X:=Nat) (fun k=>k<=q.length/\zp ms j k) (fun k=>k)
  (fun k=>[(0,yvL L r),(1,.p 7 0),(3,.sl 8 0 q.length q.length),(4,.i .i64 ((k:Int)-1))])
  (fun k=>[(0,{cells:=[.fz ML rm.ms.length,.fz SL rm.sh.length,.sg 1 0 rm.tp.length]}),(1,{cells:=T,gr:=some 22}),(2,{cells:=[.p 0 0]}),(3,{cells:=[.fz PL q.length]}),(4,{cells:=[.i .i64 b]}),(5,{cells:=[fD (bf (j+1)).1]}),(6,{cells:=[.i .i64 (bf (j+1)).2.1,.i .i64 (bf (j+1)).2.2]}),(7,{cells:=[.fz PL q.length]}),(8,{cells:=rows aC (G9 ms j k)})]) 9 q.length (show 8<=9 by decide) ⟨bx _,by rw [<-hml];exact afk ms j⟩ ?_ ?_ (fun k hk=> ?_)
 ·have hw:IntKind.i64.wrap ((q.length:Int)-1)=(q.length:Int)-1:=bS (by omega) (by omega)
  simp only [go_sem,AV.al,ae,aG,hw,simprocAttr]
 ·simp only [go_sem,AV.al,ae,aG,mB,sB,tB,hqB8,hqB9,hoB,iB,simprocAttr]
 obtain ⟨hk1,hk2⟩:=hk;cases k with
 |zero=>
  have hje:=KT hj hk2;simp only [go_sem,simprocAttr];rw [hje];exact Ends.R [] (by decide) (by decide) rfl rfl (by simp [iy,ab,rn,aW.aH,aL,AV.aH,ae,AV.al,mB,sB,tB,mR,sR,tR,hqB8,hqB9,hqRi,hqRx,hqR8,hoB,hoR,cj])
 |succ k=>
  have e:((k+1:Nat):Int)-1=(k:Int):=by omega
  rw [e];obtain ⟨i,t,hi,ht,hm,t0,t2⟩:=hms k (by omega)
  have gp:=hP k i hi;have gt:=hT3 i t ht;have gx:=zG (ms:=ms) (j:=j) (k:=k+1) (i:=k) (by omega)
  rw [aM (by omega)] at gx
  have gx':(rows aC (G9 ms j (k+1)))[k]? =some (.i .i64 (dg ms j k)):=by
   have:=cn (f:=aC) (z:=1) (j:=0) (v:= .i .i64 (dg ms j k)) (fun _=>rfl) gx rfl;simpa using this
  have c1:decide ((k:Int)>=0)=true:=ah (by omega)
  have c2:decide (0<=(k:Int)/\(k:Int)<(q.length:Int))=true:=ah (by omega)
  have c3:decide ((k:Int)<0)=false:=cN (by omega)
  have hcl:(rows aC (G9 ms j (k+1))).length=q.length:=by rw [aT bP,oZ,hml,dK]
  have le1:decide (k+1<=(rows aC (G9 ms j (k+1))).length)=true:=ah (by omega)
  have hw2:IntKind.i64.wrap ((k:Int)-1)=(k:Int)-1:=bS (by omega) (by omega)
  have hdb:=QT ms j hm t0;have hw1:IntKind.i64.wrap (dg ms j k+1)=dg ms j k+1:=bS (by omega) (by omega)
  cases d:dg ms j k==t.mo
  ·have d':dg ms j k≠t.mo:=by simpa using d
   obtain ⟨u1,u2,u3⟩:=ZH (by omega) hm t0 hk2 d'
   have u4:=Zv (by omega) hj u3
   have sp:=Fc (G9 ms j (k+1)) k (dg ms j k+1) (by rw [oZ];omega)
   rw [EI (by omega) u1,Jh u2] at sp
   simp only [go_sem,c1,c2,c3,gp,gt,gx',d,dK,fu,le1,hw1,AV.al,ae,aG,AV.aH,aL,aW.aH,mB,sB,tB,mR,sR,tR,hqB8,hqB9,hqRi,hqR8,hoB,hoR,iB,iR,sp,simprocAttr];exact ⟨u4,by omega⟩
  ·have d':dg ms j k=t.mo:=by simpa using d
   obtain ⟨u1,u2⟩:=acX (by omega) hm t0 hk2 d'
   have sp:=Fc (G9 ms j (k+1)) k (-1) (by rw [oZ];omega)
   rw [EI (by omega) u2] at sp
   simp only [go_sem,c1,c2,c3,gp,gt,gx',d,dK,fu,le1,hw2,AV.al,ae,aG,mB,sB,tB,hqB8,hqB9,hoB,iB,sp,simprocAttr];refine ⟨k,⟨⟨by omega,u1⟩,by omega⟩,?_,?_⟩<;>first|rfl|exact ⟨rfl,iB _ _⟩|exact iB _ _|skip
theorem ao2 (r:Rm) (m b:Int) (hos:gW (cv r m)=true) (hb:0<=b/\b<=1073741824) (h0:0<(dE r.tp m).length):
 ck (zJ r m) (.block 0 (.oO (.t 24) [25] w8 vL)) (gH (qS [.t 4] fun v h' n'=>bw 2 v h' n' (fD (nD (cv r m) b).1) [(0,dc r 1),(1,bL r)] 2) (ck (zJ r m) M4 (qS [.t 4] fun v h' n'=>bw 2 v h' n' (fD (nD (cv r m) b).1) [(0,dc r 1),(1,bL r)] 2)))
  [(2,.p 2 0),(5,.p 3 0),(6,.p 4 0),(7,.p 5 0),(8,.p 6 0),(24,.fn 199 [.p 7 0])] (pI r m b (none,(0,0)) [(7,{cells:=[j3 r m]})]) 8:=by
 refine ck.block ?_;refine oA.intro (F:=zJ r m) (n':=8) (v':= .bg []) (h':=pI r m b (nD (cv r m) b) []) (Qs r m) mo [2,5,6,7,8] [.p 2 0,.p 3 0,.p 4 0,.p 5 0,.p 6 0] rfl (by kernel_rfl) rfl rfl rfl (fun i t a h1 h2=> ?_) (fun L rr hY=> ?_) (fun b k hb=> ?_) (show 2<=8 by decide) ?_
 ·match i with
  |0=>simp at h1 h2;subst h1;subst h2;rfl
  |1=>simp at h1 h2;subst h1;subst h2;rfl
  |2=>simp at h1 h2;subst h1;subst h2;rfl
  |3=>simp at h1 h2;subst h1;subst h2;rfl
  |4=>simp at h1 h2;subst h1;subst h2;rfl
  |i+5=>simp at h1
 ·exact aoq (fun cs as' h1 n1 h2 n2 q1 q2 q3 q4 q5=>hY cs as' h1 n1 h2 n2 q1 q2 q3 q4 q5) hos hb h0
 ·refine mA ?_ hb;simp only [Dp,pI,fC,AV.Az,CO,zN,yP,J3,u6,az]
 ·show ck (zJ r m) M4 _ _ _ _;refine ck.run (F:=zJ r m) (Qs r m) mo ?_;have hoB: ∀(o:Option (List Int)) j,(fD o).al j=true:=fun o j=>by
   cases o
   ·rfl
   ·simp only [fD,AV.al,iB]
  have mB:=fun j=>fR j r.ms;have sB:=fun j=>di j r.sh;have tB:=fun j=>ff j r.tp;have mR:=fun g=>jr g r.ms;have sR:=fun g=>ef g r.sh;have tR:=fun g=>je g r.tp;have hoR: ∀(o:Option (List Int)) g,(fD o).aH g=fD o:=fun o g=>by
   cases o
   ·rfl
   ·simp only [fD,AV.aH,iR]
  generalize nD (cv r m) b=B;dsimp only [zJ,HQ];simp only [go_sem,pI,simprocAttr];exact bw.ends (Ends.R [] (by decide) (by decide) (hoR _ _).symm (hoB _ _) (by simp [iy,ab,rn,aW.aH,aL,AV.aH,ae,AV.al,mB,sB,tB,mR,sR,tR,cj]))
theorem anX (r:Rm) (m:Int):aq av 153 (kH [0,1] [dc r 1,bL r] [j3 r m] (.fn 199 [.p 2 0]) [(0,dc r 1),(1,bL r),(2,{cells:=[j3 r m]})] 3 none):=by
 have hB:=ir 2 (by decide) (dE r.tp m)
 have hB3:=ir 3 (by decide) (dE r.tp m)
 have hR:=gG (dE r.tp m) (rn []) rfl;have mB:=fun j=>fR j r.ms;have sB:=fun j=>di j r.sh;have tB:=fun j=>ff j r.tp;have mR:=fun g=>jr g r.ms;have sR:=fun g=>ef g r.sh;have tR:=fun g=>je g r.tp;refine bY (by kernel_rfl) (by decide) (by simp [ae,AV.al,hB]) ?_ (by decide) (by simp [ko,dS,ab,dy,ae,AV.al,hB3,mB,sB,tB,aG,cj])
 refine dT (cx:=bZ []) Sound.nil Tryz.func153 FD ?_
 dsimp only [i153,dS];simp only [go_sem,simprocAttr];exact Ends.R [] (by decide) (by decide) rfl rfl (by simp [iy,ab,rn,aW.aH,aL,AV.aH,ae,AV.al,hB3,mB,sB,tB,mR,sR,tR,cj];exact hR.symm)
noncomputable def uQ (r:Rm) (m:Int):Ct:=YN [0,1] [dc r 1,bL r] [.p 0 0,.i .i64 m] (j3 r m)
theorem XJ (r:Rm) (m:Int) (hl:r.tp.length<=1000):aq av 72 (uQ r m):=
 pf (by kernel_rfl) (by decide) rfl (asG r m hl) (by simp [ko,dS,ab,dy,ae,AV.al,fR,di,ff,aG,cj])
theorem zP (r:Rm) (m:Int) (h:Hp) (n:Nat) (h0:ab h 0=some (dc r 1)) (h1:ab h 1=some (bL r)):
 uQ r m [.p 0 0,.i .i64 m] h n=some (true,{v:=j3 r m,n,rd:=[0,1]}):=by
 have pR:=gG (dE r.tp m) (ix [0,1] n) rfl;refine yX (h:=h) (n:=n) rfl ⟨⟨?_,?_⟩,⟨?_,?_⟩,trivial⟩ ?_
 ·rw [h0];simp [aW.aH,aL,AV.aH,nth,jr,ef]
 ·simp [ae,AV.al,fR,di,aG]
 ·rw [h1];simp [aW.aH,je]
 ·simp [ff]
 ·simp [AV.aH];exact pR
theorem ait (r:Rm) (m:Nat) (x:Mb) (hx:r.ms[m]? =some x) (hl:r.tp.length<=1000) (hos:gW (cv r m)=true) (hb:0<=x.es/\x.es<=1073741824) (h0:0<(dE r.tp m).length):
 bt av 86 [.p 0 0,.i .i64 m] [(0,dc r 1),(1,bL r)] 2 (fD (nD (cv r m) x.es).1) [(0,dc r 1),(1,bL r)] 2:=by
 have mB:=fun j=>fR j r.ms;have sB:=fun j=>di j r.sh;have tB:=fun j=>ff j r.tp;have mR:=fun g=>jr g r.ms;have sR:=fun g=>ef g r.sh;have tR:=fun g=>je g r.tp;have hPB:=ir 8 (by decide) (dE r.tp m)
 have hPR:=gG (dE r.tp m) (rn []) rfl;have hk:=fun h n=>zP r m h n;have hk3: ∀(h:Hp) n,ab h 0=some (dc r 1)->ab h 1=some (bL r)->kH [0,1] [dc r 1,bL r] [j3 r m] (.fn 199 [.p 2 0]) [(0,dc r 1),(1,bL r),(2,{cells:=[j3 r m]})] 3 none [j3 r m] h n=some (true,{v:= .fn 199 [.p n 0],n:=n+1,rd:=[0,1],md:=[(0,some (dc r 1)),(1,some (bL r))],nw:=[(n,{cells:=[j3 r m]})]}):=fun h n h0 h1=>by
  have pR:=gG (dE r.tp m) (ix [0,1] n) rfl;have pN:=gG (dE r.tp m) (nth [0,1]) rfl;refine dt (h:=h) (n:=n) (by simp [aL,AV.aH,pN]) ⟨⟨?_,?_⟩,⟨?_,?_⟩,trivial⟩ ?_
  ·rw [h0];simp [aW.aH,aL,AV.aH,nth,jr,ef]
  ·simp [ae,AV.al,fR,di,aG]
  ·rw [h1];simp [aW.aH,je]
  ·simp [ff]
  ·simp [lK,fE,aW.aH,aL,AV.aH,ix,nth,ab,jr,ef,je,aG,cj];exact pR
 have hcx:Sound av (bZ [(72,uQ r m),(153,_)]):=Sound.cons (XJ r m hl) (Sound.cons (anX r m) Sound.nil);have hr0:(rows Mb.l r.ms)[m*2+1]? =some (.i .i64 x.es):=cn (f:=Mb.l) (z:=2) (j:=1) (v:= .i .i64 x.es) Mb.len hx rfl;have hml:=(eK.1 hx).1;have c2:decide (0<=(m:Int)/\(m:Int)<(r.ms.length:Int))=true:=ah (by omega)
 have rf:=ao2 r m x.es hos hb h0;simp only [pI,fD] at rf;refine bt.rz (cx:=bZ (HQ r m)) Tryz.func86 Jq (by simp [i86]) ?_
 dsimp only [i86];generalize (nD (cv r m) x.es).1=B at*;generalize kH [0,1] [dc r 1,bL r] [j3 r m] _ _ _ _=k3 at*;refine ck.part (F:=⟨av,bZ [(72,uQ r m),(153,k3)],[43],48,2⟩) hcx mo ?_;simp only [go_sem,simprocAttr];refine ck.part (F:=⟨av,bZ [(72,uQ r m),(153,k3)],[43],48,2⟩) hcx mo ?_;simp only [go_sem,hk,hr0,c2,lR,simprocAttr];refine ck.part (F:=⟨av,bZ [(72,uQ r m),(153,k3)],[43],48,2⟩) hcx mo ?_;simp only [go_sem,simprocAttr];refine ck.part (F:=⟨av,bZ [(72,uQ r m),(153,k3)],[43],48,2⟩) hcx mo ?_;simp only [go_sem,simprocAttr];refine ck.seq ?_;refine ck.part (F:=⟨av,bZ [(72,uQ r m),(153,k3)],[43],48,2⟩) hcx mo ?_;simp only [go_sem,hk3,simprocAttr];refine ck.aH [] rf (show 2<=8 by decide) (show uJ [] 2 8=true by decide) ?_ ?_
 ·simp only [go_sem,AV.aH,aL,AV.al,ae,aG,simprocAttr]
 ·simp only [go_sem,aW.aH,AV.aH,aL,AV.al,ae,aG,hPB,hPR,mB,sB,tB,mR,sR,tR,simprocAttr]
def Wi (t:Tp) (x:Int):Tp:={t with sw:=(iJ t.sw x 3).1}
def Cr (tp:List Tp) (q:List Nat) (c:List Int):Nat->List Tp
 |0=>tp
 |k+1=>match q[k]?,c[k]? with
  |some i,some x=>(match tp[i]? with|some t=>(Cr tp q c k).set i (Wi t x)|none=>Cr tp q c k)
  |_,_=>Cr tp q c k
def gz (r:Rm) (m:Nat):List Int:=uH (cv r m) ((r.ms[m]?).elim 0 Mb.es)
def dP (r:Rm) (m:Nat):Rm:=⟨r.ms,r.sh,Cr r.tp (dE r.tp m) (gz r m) (dE r.tp m).length⟩
theorem E9 (tp:List Tp) (q:List Nat) (c:List Int): ∀k,(Cr tp q c k).length=tp.length
 |0=>rfl
 |k+1=>by
  have ih:=E9 tp q c k;simp only [Cr];repeat' (first|split|exact ih|(rw [List.length_set];exact ih))
theorem He {tp:List Tp} {q:List Nat} {c:List Int} {i:Nat}: ∀{k:Nat},(∀j,j<k->q[j]? ≠some i)->(Cr tp q c k)[i]? =tp[i]?
 |0,_=>rfl
 |k+1,h=>by
  have ih:=He (tp:=tp) (c:=c) (k:=k) (fun j hj=>h j (by omega))
  have h1:=h k (by omega)
  simp only [Cr];repeat' (first|split|exact ih)
  rename_i h2 _ _ _ _;rw [yr,aN (fun he=>h1 (by rw [h2,he]))]
  exact ih
theorem zb {tp:List Tp} {m:Int}: ∀{n j k a b:Nat},j<k->(lY tp m n)[j]? =some a->(lY tp m n)[k]? =some b->a<b
 |0,j,k,a,b,_,h,_=>by simp [lY] at h
 |n+1,j,k,a,b,hjk,h1,h2=>by
  have e:lY tp m (n+1)=lY tp m n\/lY tp m (n+1)=lY tp m n++[n]:=by
   simp only [lY];split
   ·rename_i t _;cases t.me==m
    ·exact .inl rfl
    ·exact .inr rfl
   ·exact .inl rfl
  rcases e with e|e
  ·rw [e] at h1 h2;exact zb hjk h1 h2
  ·rw [e] at h1 h2
   ·simp only [p0] at h1 h2;have hk:k<(lY tp m n).length+1:=by
     rcases dw k ((lY tp m n).length+1) with h|h
     ·exact h
     ·rw [aN (by omega),fM (by simp;omega)] at h2;cases h2
    rw [aM (show j<(lY tp m n).length by omega)] at h1
    by_cases hkl:k<(lY tp m n).length
    ·rw [aM hkl] at h2;exact zb hjk h1 h2
    ·rw [aN hkl] at h2;obtain rfl:k=(lY tp m n).length:=by omega
     simp at h2;have:=(iT (bR h1)).1;omega
theorem E1 {l:List Tp} {i:Nat} {t:Tp} (h:l[i]? =some t) (s:Sw):List.take (i*22+4) (rows Tp.l l)++s.a++List.drop (i*22+4+18) (rows Tp.l l)=rows Tp.l (l.set i {t with sw:=s}):=by
 have hi:=(eK.1 h).1;have e1:l=l.take i++t::l.drop (i+1):=by
  have:=(eK.1 h).2;rw [<-this,zt,kQ]
 have e2:l.set i {t with sw:=s}=l.take i++{t with sw:=s}::l.drop (i+1):=by rw [List.set_eq_take_append_cons_drop,aM hi]
 rw [e2,df,cT];have hl:(rows Tp.l (l.take i)).length=i*22:=by rw [aT Tp.len,gO,oK (by omega)]
 have e3:rows Tp.l l=rows Tp.l (l.take i)++(t.l++rows Tp.l (l.drop (i+1))):=by rw [<-cT,<-df,<-e1]
 rw [e3,yJ,vh,hl];rw [show i*22+4-i*22=4 by omega,show i*22+4+18-i*22=22 by omega]
 have q1:List.take (i*22+4) (rows Tp.l (l.take i))=rows Tp.l (l.take i):=h9 (by rw [hl];omega)
 have q2:List.drop (i*22+4+18) (rows Tp.l (l.take i))=[]:=rN (by rw [hl];omega)
 rw [q1,q2];simp [Tp.l,Sw.a]
theorem BK {l:List Tp} {i:Nat} {t:Tp} (h:l[i]? =some t):List.take 18 (List.drop (i*22+4) (rows Tp.l l))=t.sw.a:=by
 have:=eo (f:=Tp.l) Tp.len h;unfold aA at this;rw [show i*22+4=i*22+4 from rfl,<-qp]
 rw [show (18:Nat)=22-4 from rfl,<-List.drop_take,this]
 rfl
noncomputable def NN (r:Rm) (m:Nat) (c:List Int):Ct:=YN [0,1] [dc r 1,bL r] [.p 0 0,.i .i64 m] (.fz (rows aC c) c.length)
theorem aqw (r:Rm) (m:Nat) (x:Mb) (hx:r.ms[m]? =some x) (hl:r.tp.length<=1000) (hos:gW (cv r m)=true) (hb:0<=x.es/\x.es<=1073741824) (h0:0<(dE r.tp m).length):aq av 86 (NN r m (gz r m)):=by
 have h:=ait r m x hx hl hos hb h0;rw [wV _ hb.1] at h;have e:uH (cv r m) x.es=gz r m:=by simp only [gz,hx,Option.elim]
 rw [e] at h;exact pf (by kernel_rfl) (by decide) rfl h (by simp [ko,dS,ab,dy,ae,AV.al,fR,di,ff,aG,cj])
theorem NZ (r:Rm) (m:Nat) (c:List Int) (h:Hp) (n:Nat) (h0:ab h 0=some (dc r 1)) (h1:ab h 1=some (bL r)):
 NN r m c [.p 0 0,.i .i64 m] h n=some (true,{v:= .fz (rows aC c) c.length,n,rd:=[0,1]}):=by
 refine yX (h:=h) (n:=n) rfl ⟨⟨?_,?_⟩,⟨?_,?_⟩,trivial⟩ ?_
 ·rw [h0];simp [aW.aH,aL,AV.aH,nth,jr,ef]
 ·simp [ae,AV.al,fR,di,aG]
 ·rw [h1];simp [aW.aH,je]
 ·simp [ff]
 ·simp [AV.aH,iR]
theorem aqh (r:Rm) (m:Nat) (x:Mb) (hx:r.ms[m]? =some x) (hl:r.tp.length<=1000) (hos:gW (cv r m)=true) (hb:0<=x.es/\x.es<=1073741824) (h0:0<(dE r.tp m).length)
 (hsw: ∀t∈r.tp,dL t.sw=true/\t.mo<=(t.sw.l.length:Int)-1):
 bt av 76 [.p 0 0,.i .i64 m] [(0,dc r 1),(1,bL r)] 2 (.bg []) [(0,dc (dP r m) 1),(1,bL (dP r m))] 2:=by
 have mB:=fun j=>fR j r.ms;have sB:=fun j=>di j r.sh;have mR:=fun g=>jr g r.ms;have sR:=fun g=>ef g r.sh;have hk:=fun h n=>NZ r m (gz r m) h n;have hk2:=fun h n=>zP r m h n;have hcx:Sound av (bZ [(86,NN r m (gz r m)),(72,uQ r m),(143,G2),(62,fZ)]):=Sound.cons (aqw r m x hx hl hos hb h0) (Sound.cons (XJ r m hl) (Sound.cons auH (Sound.cons x3 Sound.nil)));generalize NN r m (gz r m)=q1 at*;generalize uQ r m=q2 at*;have hok:xV (cv r m) (gz r m)=true:=by simp only [gz,hx,Option.elim];exact Jz hos hb.1
 have hcl:(gz r m).length=(dE r.tp m).length:=by
  simp only [xV,aw,aV] at hok;rw [hok.1,cv,iX]
 have h5:(dE r.tp m).length<=5:=by
  simp only [gW,aw,aV,cv,iX] at hos;omega
 have hrd: ∀k,k<(dE r.tp m).length-> ∃(i:Nat) (t:Tp) (y:Int),(dE r.tp m)[k]? =some i/\r.tp[i]? =some t/\(gz r m)[k]? =some y/\(∀j,j<k->(dE r.tp m)[j]? ≠some i)/\(iJ t.sw y 3).2=0/\t.sw.l.length<=9223372036854775807:=fun k hk=>by
  obtain ⟨i,hi⟩: ∃i,(dE r.tp m)[k]? =some i:=⟨_,aY hk⟩;obtain ⟨y,hy⟩: ∃y,(gz r m)[k]? =some y:=⟨_,aY (by omega)⟩
  obtain ⟨_,t,ht,_⟩:=iT (bR hi);have ho:(cv r m)[k]? =some (xR r i):=by simp only [cv,gF,hi,fN]
  have hxr:=y4 hok ho hy;have e:(xR r i).mo=t.mo:=by simp only [xR,ht]
  rw [e] at hxr;obtain ⟨g1,g2⟩:=hsw t (bR ht);refine ⟨i,t,y,hi,ht,hy,fun j hj he=> ?_,?_,by have:=n9 g1;omega⟩
  ·have:=zb hj he hi;omega
  ·simp only [iJ,g1,cond_true,jg (show -1<=y/\y<=(t.sw.l.length:Int)-1 by omega)];rfl
 have hE:dP r m=⟨r.ms,r.sh,Cr r.tp (dE r.tp m) (gz r m) (dE r.tp m).length⟩:=rfl;have hW0:Cr r.tp (dE r.tp m) (gz r m) 0=r.tp:=rfl;have hWl:=E9 r.tp (dE r.tp m) (gz r m);have hWs: ∀(k i:Nat) (t:Tp) (y:Int),(dE r.tp m)[k]? =some i->r.tp[i]? =some t->(gz r m)[k]? =some y->(∀j,j<k->(dE r.tp m)[j]? ≠some i)->(Cr r.tp (dE r.tp m) (gz r m) k)[i]? =some t/\Cr r.tp (dE r.tp m) (gz r m) (k+1)=(Cr r.tp (dE r.tp m) (gz r m) k).set i (Wi t y):=fun k i t y h1 h2 h3 h4=>by
  refine ⟨by rw [He h4,h2],?_⟩
  rw [Cr];simp only [h1,h2,h3]
 have hpB:=ir 2 (by decide) (dE r.tp m)
 have hpR:=fun g hg=>gG (dE r.tp m) g hg;have hP: ∀(k i:Nat),(dE r.tp m)[k]? =some i->(rows qc (dE r.tp m))[k]? =some (.p 1 (i*22)):=fun k i hi=>by
  have:=cn (f:=qc) (z:=1) (j:=0) (v:= .p 1 (i*22)) ve hi rfl;simpa using this
 have hC: ∀(k:Nat) (y:Int),(gz r m)[k]? =some y->(rows aC (gz r m))[k]? =some (.i .i64 y):=fun k y hi=>by
  have:=cn (f:=aC) (z:=1) (j:=0) (v:= .i .i64 y) bP hi rfl;simpa using this
 have cB:=fun j=>iB j (gz r m);have cR:=fun g=>iR g (gz r m);rw [hE];generalize Cr r.tp (dE r.tp m) (gz r m)=W at*;dsimp only [dc,bL,j3] at hk2 hk ⊢;rw [hWl];rw [show rows Tp.l r.tp=rows Tp.l (W 0) by rw [hW0]] at hk hk2 ⊢
 generalize gz r m=c at*;generalize dE r.tp m=q at*;generalize rows qc q=PL at*;generalize rows aC c=CL at*;generalize rows Mb.l r.ms=ML at*;generalize rows bu.l r.sh=SL at*;have c00:decide (0<=q.length)=true:=rfl;refine dT hcx Tryz.func76 HI ?_
 dsimp only [i76];simp only [go_sem,hk,hk2,simprocAttr];refine Loop.uE (F:=⟨av,bZ [(86,q1),(72,q2),(143,G2),(62,fZ)],[17],42,2⟩) hcx mo (X:=Nat) (fun k=>k<=q.length) (fun k=>q.length-k)
  (fun k=>[(0,.p 0 0),(4,.fz CL c.length),(14,.fz PL q.length),(15,.i .i64 (q.length:Int)),(16,.i .i64 (k:Int))])
  (fun k=>[(0,{cells:=[.fz ML r.ms.length,.fz SL r.sh.length,.sg 1 0 r.tp.length]}),(1,{cells:=rows Tp.l (W k),gr:=some 22})]) 2 0 (fun k=>k+1) [] (fun _=>[]) (show 2<=2 by decide) rfl (fun _=>rfl) (eB _) ?_ ?_ (fun k hk=> ?_)
 ·have pr:=hpR (rn []) rfl;simp only [go_sem,AV.aH,aL,AV.al,ae,aG,hpB,cB,cR,pr,simprocAttr]
 ·simp only [go_sem,AV.aH,aL,AV.al,ae,aG,aW.aH,mB,sB,mR,sR,ff,je,simprocAttr]
 by_cases hlt:k<q.length
 ·have c1:decide ((k:Int)<(q.length:Int))=true:=ah (by omega)
  have c2:decide (0<=(k:Int)/\(k:Int)<(q.length:Int))=true:=ah (by omega)
  have c3:decide (0<=(k:Int)/\(k:Int)<(c.length:Int))=true:=ah (by omega)
  have hw:IntKind.i64.wrap ((k:Int)+1)=((k+1:Nat):Int):=by rw [bS (by omega) (by omega)];omega
  obtain ⟨i,t,y,hi,ht,hy,hnj,hz,hsl⟩:=hrd k hlt;obtain ⟨hWi,hW1⟩:=hWs k i t y hi ht hy hnj;have gp:=hP k i hi;have gc:=hC k y hy;have hil:=(eK.1 hWi).1;have gs:=BK hWi;have sp:=E1 hWi (iJ t.sw y 3).1;have hk3: ∀(h:Hp) n,G2 [.agg t.sw.a,.i .i64 y,.i .i64 3] h n=some (true,{v:=KE ((iJ t.sw y 3).1,0),n}):=fun h n=>by
   have e:iJ t.sw y 3=((iJ t.sw y 3).1,0):=by rw [<-hz]
   simp only [G2,lQ,aS,ah hsl];rw [<-e]
  have hln:(rows Tp.l (W k)).length=(W k).length*22:=aT Tp.len;have le1:decide (i*22+4+18<=(rows Tp.l (W k)).length)=true:=ah (by omega)
  have le2:(t.sw.a).length=18:=rfl;have ls:(iJ t.sw y 3).1.a.length=18:=rfl;have lo:aX (iJ t.sw y 3).1.a=true:=rfl;have ld:List.take 18 (List.drop 0 (iJ t.sw y 3).1.a)=(iJ t.sw y 3).1.a:=rfl;have lb:=fun j=>Sw.al j (iJ t.sw y 3).1;have lr:=fun g=>aU (ψ:=g) _ (Sw.al 0 (iJ t.sw y 3).1);rw [hW1];simp only [Wi];have B1:=ff 2 (W k);have R1:=je (rn []) (W k);have B2:=ff 2 ((W k).set i {t with sw:=(iJ t.sw y 3).1})
  have R2:=je (rn []) ((W k).set i {t with sw:=(iJ t.sw y 3).1})
  simp only [KE] at hk3;generalize (iJ t.sw y 3).1.a=SA at*;generalize t.sw.a=SO at*;have hsk:q.length-(k+1)<q.length-k:=by omega
  have pr:=hpR (rn []) rfl;generalize rows Tp.l (W k)=T at*;simp only [go_sem,c1,c2,c3,gp,gc,gs,le1,le2,ls,lo,ld,hk3,fZ,hw,hsk,hlt,sp,AV.aH,aL,AV.al,ae,aG,aW.aH,hpB,cB,cR,pr,mB,sB,mR,sR,B1,R1,B2,R2,lb,lr,fu,dK,simprocAttr];exact hlt
 ·have c1:decide ((k:Int)<(q.length:Int))=false:=cN (by omega)
  obtain rfl:k=q.length:=by omega
  simp only [go_sem,c1,simprocAttr];exact Ends.R [] (by decide) (by decide) rfl rfl (by simp [iy,ab,rn,aW.aH,aL,AV.aH,ae,AV.al,mB,sB,mR,sR,ff,je,cj])
theorem EZ {pn:Option Value} {v:AV} {n:Nat} {rd:List Nat} {l:List (Nat×aW)} {h:Hp}:(bX.mk v n rd [] l pn).fe h=l++h:=(rfl)
abbrev jH (r:Rm) (lm ls lt:Bool):Hp:=fP r lm ls lt 1++[(0,{cells:=[.ns,.ns,.ns]})]
theorem zy {r:Rm} (hr:r.is=true) (hg:bC r=true) (lm ls lt:Bool) (h:Hp) (n:Nat):fh lm ls lt [.agg r.a] h n=some (true,{v:= .p n 0,n:=n+4,nw:=fP r lm ls lt n}):=by
 simp only [fh,ey,aS,hr,hg,cond_true]
theorem Eg {r r':Rm} (hr:r.is=true) (hg:bC r=true) (lm ls lt:Bool) {g:FuncId} {caps:List AV} {kw:Ct} (hs:aq av g kw) (hne:(85=g)=False) {E:bX} {b:Nat} (hb0:b≠0)
 (hE:kw (.p 1 0::caps) (jH r lm ls lt) 5=some (true,E)) (hpn:E.pn=none)
 (h0:ab (E.fe (jH r lm ls lt)) 0=some {cells:=[.ns,.ns,.ns]}) (h1:ab (E.fe (jH r lm ls lt)) 1=some (dc r' b)) (h2:ab (E.fe (jH r lm ls lt)) b=some (bL r')):
 bt av 135 [.fp r.a 0,.fp [.fn g caps] 0] [] 0 (.agg r'.a) [] 0:=by
 have hk:=zy hr hg lm ls lt;have hcx:=qf (lm:=lm) (ls:=ls) (lt:=lt) hs;have mB:=fun j=>fR j r'.ms;have sB:=fun j=>di j r'.sh;have tB:=fun j=>ff j r'.tp;generalize fh lm ls lt=kb at*;have a3:r.a.length=3:=rfl;have ad:List.take 3 (List.drop 0 r.a)=r.a:=rfl;generalize r.a=ra at*;dsimp only [jH] at*;generalize hH:E.fe (fP r lm ls lt 1++[(0,{cells:=[.ns,.ns,.ns]})])=H at*;refine bt.dU hcx mo Tryz.func135 fQ (by simp [i135]) (aQ ?_)
 dsimp only [i135,wQ];simp only [go_sem,hk,a3,ad,hne,bV,hE,hH,hpn,EZ,h0,h1,l9,cu,simprocAttr];refine bw.rM (b:=b) (x:= .sg b 0 r'.tp.length) (k:=bL r') (o:=0) (m:=r'.tp.length) (cs:=rows Tp.l r'.tp) (v':= .agg [.fz (rows Mb.l r'.ms) r'.ms.length,.fz (rows bu.l r'.sh) r'.sh.length,.fz (rows Tp.l r'.tp) r'.tp.length]) (h':=[]) ?_ rfl (.inr rfl) (.inl rfl) (dj.agg ⟨dj.refl,dj.refl,dj.hit,trivial⟩) trivial ?_
 ·rw [l9,aN hb0];exact h2
 exact bw.ends (Ends.au (by simp only [AV.al,ae,mB,sB,tB,az]) rfl)
theorem alI {r r':Rm} (hr:r.is=true) (hg:bC r=true) (lm ls lt:Bool) {g:FuncId} {caps:List AV} {kw:Ct} (hs:aq av g kw) (hne:(85=g)=False) {E:bX}
 (hE:kw (.p 1 0::caps) (jH r lm ls lt) 5=some (true,E)) (hpn:E.pn=none)
 (h0:ab (E.fe (jH r lm ls lt)) 0=some {cells:=[.ns,.ns,.ns]}) (h1:ab (E.fe (jH r lm ls lt)) 1=some {cells:=r'.a}):
 bt av 135 [.fp r.a 0,.fp [.fn g caps] 0] [] 0 (.agg r'.a) [] 0:=by
 have hk:=zy hr hg lm ls lt;have hcx:=qf (lm:=lm) (ls:=ls) (lt:=lt) hs;have hb:=Rm.al 0 r';generalize fh lm ls lt=kb at*;have a3:r.a.length=3:=rfl;have ad:List.take 3 (List.drop 0 r.a)=r.a:=rfl;have b3:r'.a.length=3:=rfl;have bo:aX r'.a=true:=rfl;have bd:List.take 3 (List.drop 0 r'.a)=r'.a:=rfl;generalize r.a=ra at*;generalize r'.a=rb at*;dsimp only [jH] at*;generalize hH:E.fe (fP r lm ls lt 1++[(0,{cells:=[.ns,.ns,.ns]})])=H at*;refine bt.dU hcx mo Tryz.func135 fQ (by simp [i135]) (aQ ?_)
 dsimp only [i135,wQ];simp only [go_sem,hk,a3,ad,b3,bd,bo,hne,bV,hE,hH,hpn,EZ,h0,h1,l9,cu,simprocAttr];exact bw.ends (Ends.au (by simp only [AV.al,hb]) rfl)
theorem arI (r:Rm) (hr:r.is=true) (hg:bC r=true):bt av 85 [.agg r.a] [] 0 (.fp r.a 0) [] 0:=by
 refine cL.cov (ahU r hr hg false false false) ?_;refine bw.auW (b:=0) (o:=0) (x:= .p 0 0) (k:={cells:=r.a}) (v':= .fp r.a 0) (h':=[]) rfl rfl rfl dj.hit trivial ?_;exact bw.ends (Ends.au (by simp only [AV.al,Rm.al]) rfl)
def lL:Ct
 |[.agg c],_,n=>(qy c).bind fun r=>some (r.is&&bC r,{v:= .fp r.a 0,n})
 |_,_,_=>none
theorem Dd:aq av 85 lL:=fun args h n c E hc ht=>by
 unfold lL at hc;split at hc
 ·simp only [af,aP,bq] at hc;obtain ⟨r,hr,rfl,rfl⟩:=hc;rw [eh hr];rw [aw] at ht;exact ax.pure (by kernel_rfl) (by simp only [ae,AV.al,Rm.al,az]) (by simp only [AV.al,Rm.al]) (arI r ht.1 ht.2) _ _
 ·cases hc
theorem II {r:Rm} {e:Int} (hr:r.is=true) (hg:bC r=true) {g:FuncId} {caps:List AV} (hne:(85=g)=False) (hcap:ae 0 caps=true) (hc:Go.Ab.bJ av g=true)
 (hw:cL av g (.fp r.a 0::caps) [] 0 (some (eD e)) (.bg []) [] 0):cL av 135 [.fp r.a 0,.fp [.fn g caps] 0] [] 0 (some (eD e)) (.bg []) [] 0:=by
 have hrb:=Rm.al 0 r;have hs:=iP hc (by simp only [ae,AV.al,hrb,hcap,az]) rfl hw
 have hE:=fun h n=>ru (a0:= .fp r.a 0::caps) (v0:= .bg []) (pn:=some (eD e)) h n;have hk: ∀(h:Hp) n,lL [.agg r.a] h n=some (true,{v:= .fp r.a 0,n}):=fun h n=>by simp only [lL,ey,aS,hr,hg,az]
 have hcx:Sound av (bZ [(85,lL),(g,kX _ _ _)]):=Sound.cons Dd (Sound.cons hs Sound.nil);generalize kX _ _ _=kw at*;generalize lL=kb at*;have a3:r.a.length=3:=rfl;have ad:List.take 3 (List.drop 0 r.a)=r.a:=rfl;generalize r.a=ra at*;refine cL.dQ hcx mo Tryz.func135 fQ (by simp [i135]) (aQ ?_)
 dsimp only [i135];simp only [go_sem,hk,a3,ad,hne,bV,hE,simprocAttr];exact Ends.au rfl rfl
theorem Nf {r:Rm} (ht:r.tp≠[]):fP r false false true 1=[(1,dc r 4),(4,bL r)]:=by
 have e:=tx (f:=Tp.l) (z:=22) (l:=r.tp) (r9.2 ht);unfold fP l4 mV mH sV tV sH tH;rw [e];rfl
theorem Rp {r r':Rm} (hr:r.is=true) (hg:bC r=true) (ht:r.tp≠[]) {g:FuncId} {caps:List AV} (hne:(85=g)=False) (hcap:ae 0 caps=true) (hc:Go.Ab.bJ av g=true) {b kR:Nat} (hb:b=1/\kR=2\/b=2/\kR=3)
 (hw:bt av g (.p 0 0::caps) [(0,dc r 1),(1,bL r)] 2 (.bg []) [(0,dc r' b),(b,bL r')] kR):bt av 135 [.fp r.a 0,.fp [.fn g caps] 0] [] 0 (.agg r'.a) [] 0:=by
 have hb1:ae 2 caps=true:=aD _ hcap;have hb2:aL (nth [1,4]) caps=caps:=aU _ hcap;have h0:kH [1,4] [dc r 1,bL r] (.p 0 0::caps) (.bg []) [(0,dc r' b),(b,bL r')] kR none (.p 1 0::caps) (jH r false false true) 5=_:=dt (by simp [aL,AV.aH,nth,hb2]) ⟨⟨?_,?_⟩,⟨?_,?_⟩,trivial⟩ rfl
 ·rcases hb with ⟨rfl,rfl⟩|⟨rfl,rfl⟩
  ·refine Eg (b:=4) hr hg false false true (bY (R:=[1,4]) (ks:=[dc r 1,bL r]) hc (by decide) (by simp [ae,AV.al,hb1]) hw (by decide) (by simp [ko,dS,ab,dy,ae,AV.al,fR,di,ff,aG,cj])) hne (by decide) h0 rfl ?_ ?_ ?_<;>
    (rw [jH,Nf ht];simp [bX.fe,lK,fE,aW.aH,aL,AV.aH,ix,nth,ab,jr,ef,je,jb,ig,aG,cj])
  ·refine Eg (b:=5) hr hg false false true (bY (R:=[1,4]) (ks:=[dc r 1,bL r]) hc (by decide) (by simp [ae,AV.al,hb1]) hw (by decide) (by simp [ko,dS,ab,dy,ae,AV.al,fR,di,ff,aG,cj])) hne (by decide) h0 rfl ?_ ?_ ?_<;>
    (rw [jH,Nf ht];simp [bX.fe,lK,fE,aW.aH,aL,AV.aH,ix,nth,ab,jr,ef,je,jb,ig,nH,aG,cj])
 ·rw [jH,Nf ht];simp [ab,aW.aH,aL,AV.aH,nth,jr,ef]
 ·simp [ae,AV.al,fR,di,aG]
 ·rw [jH,Nf ht];simp [ab,aW.aH,je,nth,cj]
 ·simp [ff]
def ek (t:Tp):List Tp->Nat
 |[]=>0
 |x::r=>bif decide (fb x t<0) then ek t r+1 else 0
def jL (t:Tp) (l:List Tp):Bool:=match l[ek t l]? with
 |some x=>fb x t==0
 |none=>false
theorem E5 {t:Tp}: ∀{l:List Tp} {i:Nat},i<=l.length->(∀k x,k<i->l[k]? =some x->fb x t<0)->(∀x,l[i]? =some x-> ¬fb x t<0)->ek t l=i
 |[],0,_,_,_=>rfl
 |[],i+1,h,_,_=>by simp at h
 |x::r,0,_,_,h2=>by
  have:=h2 x rfl;simp only [ek,cN this,cond_false]
 |x::r,i+1,h0,h1,h2=>by
  have hx:=h1 0 x (by omega) rfl
  have:=E5 (l:=r) (i:=i) (by simpa using h0) (fun k y hk hy=>h1 (k+1) y (by omega) (by simpa using hy)) (fun y hy=>h2 y (by simpa using hy))
  simp only [ek,ah hx,cond_true,this]
theorem Ax (t:Tp): ∀l,ek t l<=l.length
 |[]=>bx 0
 |x::r=>by
  have:=Ax t r;simp only [ek,List.length_cons];cases decide (fb x t<0)<;>simp only [cond_true,cond_false]<;>omega
def alm (t:Tp) (l:List Tp):Prop:= ∀(i j:Nat) (x y:Tp),i<=j->l[i]? =some x->l[j]? =some y->fb y t<0->fb x t<0
theorem auk (l:List Tp) (t:Tp) (hl:l.length<=1000) (hs:alm t l):
 bt av 138 [.fz (rows Tp.l l) l.length,.agg t.l,.fn 139 []] [] 0 (.bg [.i .i64 (ek t l:Nat),.b (jL t l)]) [] 0:=by
 have h44: ∀(x:Tp) (h:Hp) n,Au [.agg x.l,.agg t.l] h n=some (true,{v:= .i .i64 (fb x t),n}):=fun x h n=>by
  simp only [Au,sI,aS]
 have hcx:Sound av (bZ [(139,Au)]):=Sound.cons afm Sound.nil;generalize Au=kk at*;refine dT hcx Tryz.func138 LD ?_
 dsimp only [i138];have hL: ∀(k:Nat) x,l[k]? =some x->List.take 22 (List.drop (k*22) (rows Tp.l l))=x.l:=fun k x hk=>eo Tp.len hk;have hLb: ∀j,ae j (rows Tp.l l)=true:=fun j=>ff j l;have hlen: ∀x:Tp,x.l.length=22:=fun x=>rfl;have hone:aX t.l=true:=t.one;have ht22:t.l.length=22:=rfl;have htt:List.take 22 (List.drop 0 t.l)=t.l:=rfl;have htB: ∀j,ae j t.l=true:=fun j=>aD _ t.al;generalize rows Tp.l l=L at*;generalize t.l=TL at*;simp only [go_sem,AV.al,ae,aG,hLb,hone,htB,simprocAttr];refine Loop.by (F:=⟨av,bZ [(139,kk)],[17,31],49,0⟩) hcx mo (X:=Nat×Nat) (fun x=>x.1<=x.2/\x.2<=l.length/\(∀k y,k<x.1->l[k]? =some y->fb y t<0)/\(∀k y,x.2<=k->l[k]? =some y-> ¬fb y t<0)) (fun x=>x.2-x.1)
  (fun x=>[(0,.fz L l.length),(4,.p 0 0),(2,.fn 139 []),(8,.i .i64 (l.length:Int)),(9,.i .i64 (x.1:Int)),(10,.i .i64 (x.2:Int))])
  (fun x=>[(0,{cells:=TL})]) 1 (0,l.length) (eB _) ⟨eB _,bx _,fun k y hk=>absurd hk (by omega),fun k y hk hy=>by rw [fM hk] at hy;cases hy⟩ ?_ ?_ (fun x hx=> ?_)
 ·simp only [go_sem,AV.al,ae,aG,hLb,simprocAttr]
 ·simp only [go_sem,AV.al,ae,aG,hLb,htB,simprocAttr]
 ·obtain ⟨i,j⟩:=x;obtain ⟨hij,hjn,hlo,hhi⟩:=hx;dsimp only at hij hjn hlo hhi ⊢;by_cases hlt:i<j
  ·have c1:decide ((i:Int)<(j:Int))=true:=ah (by omega)
   have w1:IntKind.i64.wrap ((i:Int)+(j:Int))=((i+j:Nat):Int):=by rw [bS (by omega) (by omega)];omega
   have w2:IntKind.u64.wrap ((i+j:Nat):Int)=((i+j:Nat):Int):=by simp only [IntKind.wrap,IntKind.bits,IntKind.signed];simp;omega
   have w3:((i+j:Nat):Int).fdiv 2=(((i+j)/2:Nat):Int):=by rw [sJ _ (by decide)];omega
   generalize hh:(i+j)/2=m at*;have w4:IntKind.u64.wrap (m:Int)=(m:Int):=by simp only [IntKind.wrap,IntKind.bits,IntKind.signed];simp;omega
   have w5:IntKind.i64.wrap (m:Int)=(m:Int):=bS (by omega) (by omega)
   have c2:decide (0<=(m:Int)/\(m:Int)<(l.length:Int))=true:=ah (by omega)
   obtain ⟨x,hx⟩: ∃x,l[m]? =some x:=⟨_,aY (by omega)⟩
   have hxx:=hL m x hx;have h44:=fun h n=>h44 x h n;have hle:=hlen x;cases hc:decide (fb x t<0)
   ·simp only [go_sem,c1,w1,w2,w3,w4,w5,c2,hxx,h44,hle,hc,ht22,htt,htB,AV.al,ae,aG,simprocAttr];have hc:=ob hc;refine ⟨(i,m),⟨⟨by dsimp only;omega,by dsimp only;omega,hlo,fun k y hk hy h0=> ?_⟩,by dsimp only;omega⟩,hLb 1,rfl,rfl⟩
    exact hc (hs m k x y hk hx hy h0)
   ·simp only [go_sem,c1,w1,w2,w3,w4,w5,c2,hxx,h44,hle,hc,ht22,htt,htB,AV.al,ae,aG,simprocAttr];have hc:=bO hc;have w6:IntKind.i64.wrap ((m:Int)+1)=((m+1:Nat):Int):=by rw [bS (by omega) (by omega)];omega
    refine ⟨(m+1,j),⟨⟨by dsimp only;omega,by dsimp only;omega,fun k y hk hy=> ?_,hhi⟩,by dsimp only;omega⟩,hLb 1,by rw [w6],rfl⟩
    dsimp only at hk;exact hs k m y x (by omega) hy hx hc
  ·have c1:decide ((i:Int)<(j:Int))=false:=cN (by omega)
   have hpos:ek t l=i:=E5 (by omega) hlo (fun x hx=>hhi i x (by omega) hx)
   have hfnd:jL t l=(match l[i]? with|some x=>fb x t==0|none=>false):=by unfold jL;rw [hpos]
   rw [hpos,hfnd];by_cases hil:i<l.length
   ·obtain ⟨x,hx⟩: ∃x,l[i]? =some x:=⟨_,aY hil⟩;have c2:decide ((i:Int)<(l.length:Int))=true:=ah (by omega)
    have c3:decide (0<=(i:Int)/\(i:Int)<(l.length:Int))=true:=ah (by omega)
    have h44:=fun h n=>h44 x h n;have hle:=hlen x;have hxx:=hL i x hx;rw [hx];simp only [go_sem,c1,c2,c3,h44,hxx,hle,ht22,htt,simprocAttr];exact Ends.au rfl rfl
   ·have c2:decide ((i:Int)<(l.length:Int))=false:=cN (by omega)
    rw [fM (by omega)]
    simp only [go_sem,c1,c2,simprocAttr];exact Ends.au rfl rfl
theorem mU {k:Ct} {args argsF:List AV} {rd:List Nat} {v:AV} {h:Hp} {n:Nat} (h1:k7 (Go.Ab.nv h 6) args=some (rd,argsF)) (h2:k argsF [] 0=some (true,{v,n:=0})) (hp:v.pl=true):bj k args h n=some (true,{v,n,rd}):=by
 have e:({v,n:=0}:bX).plain=true:=rfl;simp only [bj,h1,aS,h2,hp,e,az,cond_true]
/-! find -/
def fx (m s:Int):Tp:=⟨m,s,0,0,Ad⟩
theorem anH {r:Rm} (hg:bC r=true): ∀{j i:Nat} {x y:Tp},i<j->r.tp[i]? =some x->r.tp[j]? =some y->fb x y<0:=by
 simp only [bC,kN,aw] at hg;have h4:=hg.2.2.1;rw [fH] at h4;have key: ∀{k:Nat} {x y:Tp},r.tp[k]? =some x->r.tp[k+1]? =some y->fb x y<0:=fun {k x y} h1 h2=>by
  have:=h4 (k+1) y h2;simp only [nh,aw,gv,Nat.add_sub_cancel,h1] at this;rcases iS _ _▸this.2 with h|h
  ·simp at h;omega
  ·exact bO h
 intro j;induction j with
 |zero=>intro i x y h;omega
 |succ j ih=>
  intro i x y hij hi hj;have hjl:j<r.tp.length:=by have:=(eK.1 hj).1;omega
  obtain ⟨z,hz⟩: ∃z,r.tp[j]? =some z:=⟨_,aY hjl⟩;have h1:=key hz hj;by_cases he:i=j
  ·subst he;rw [hi] at hz;cases hz;exact h1
  ·have h2:=ih (by omega) hi hz
   refine s7 ?_;have:=qm h1;have:=qm h2;omega
theorem Hy {r:Rm} (hg:bC r=true) (t:Tp):alm t r.tp:=fun i j x y hij hi hj h0=>by
 by_cases he:i=j
 ·subst he;rw [hi] at hj;cases hj;exact h0
 ·have h1:=qm (anH hg (show i<j by omega) hi hj)
  have h2:=qm h0;refine s7 ?_;omega
def T68 (k:Ct):List (Nat×Ct):=[(62,fZ),(71,iF),(138,k)]
theorem w68 (r:Rm) (hg:bC r=true) (m s:Int) (hr:(da 0 ((r.ms.length:Int)-1) m&&da 0 ((r.sh.length:Int)-1) s)=true):
 bt av 68 [.fp r.a 0,.i .i64 m,.i .i64 s] [] 0 (.bg [.i .i64 (ek (fx m s) r.tp:Nat),.b (jL (fx m s) r.tp)]) [] 0:=by
 have hl:=fk hg;have hw:=auk r.tp (fx m s) (by omega) (Hy hg _)
 have hs:=dv (by kernel_rfl) (by simp only [ae,AV.al,ff,Tp.al,az]) rfl hw
 have hat:=fun h n=>gl (a0:=[.fz (rows Tp.l r.tp) r.tp.length,.agg (fx m s).l,.fn 139 []]) (v0:= .bg [.i .i64 (ek (fx m s) r.tp:Nat),.b (jL (fx m s) r.tp)]) h n;generalize kP _ _=kT at hs hat;have hk: ∀(h:Hp) n,bj kT [.fz (rows Tp.l r.tp) r.tp.length,.agg [.i .i64 m,.i .i64 s,.i .i64 0,.i .i64 0,.ns,.i .i64 0,.i .i64 0,.i .i64 0,.i .i64 0,.i .i64 0,.i .i64 0,.i .i64 0,.i .i64 0,.b false,.i .i64 0,.i .i64 0,.i .i64 0,.i .i64 0,.i .i64 0,.i .i64 0,.i .i64 0,.i .i64 0],.fn 139 []] h n=some (true,{v:= .bg [.i .i64 (ek (fx m s) r.tp:Nat),.b (jL (fx m s) r.tp)],n}):=fun h n=>by
  exact mU (by simp only [bn,bQ,iE,jf,dz (ff 0 r.tp),jN,aa0,wG,aS,cM,List.nil_append];rfl) (hat [] 0) rfl
 have hcx:Sound av (bZ (T68 (bj kT))):=Sound.cons x3 (Sound.cons DO (Sound.cons hs.nv Sound.nil));simp only [aw] at hr;have n1:IntKind.i64.wrap ((r.ms.length:Int)-1)=(r.ms.length:Int)-1:=bS (by omega) (by omega)
 have n2:IntKind.i64.wrap ((r.sh.length:Int)-1)=(r.sh.length:Int)-1:=bS (by omega) (by omega)
 have g0:r.a[0]? =some (.fz (rows Mb.l r.ms) r.ms.length):=rfl;have g1:r.a[1]? =some (.fz (rows bu.l r.sh) r.sh.length):=rfl;have g2:r.a[2]? =some (.fz (rows Tp.l r.tp) r.tp.length):=rfl;generalize ek (fx m s) r.tp=P at*;generalize jL (fx m s) r.tp=Q at*;generalize r.a=ra at*;generalize bj kT=kk at*;refine dT hcx Tryz.func68 JT ?_
 dsimp only [i68,T68];simp only [go_sem,g0,g1,g2,n1,n2,iF,hr,fZ,hk,simprocAttr];exact Ends.au rfl rfl
theorem ahB (r:Rm) (hg:bC r=true) (m s:Int) (hr:(da 0 ((r.ms.length:Int)-1) m&&da 0 ((r.sh.length:Int)-1) s)=false):
 cL av 68 [.fp r.a 0,.i .i64 m,.i .i64 s] [] 0 (some (eD 2)) (.bg []) [] 0:=by
 have hl:=fk hg;have hcx:Sound av (bZ [(62,fZ),(71,iF)]):=Sound.cons x3 (Sound.cons DO Sound.nil);have n1:IntKind.i64.wrap ((r.ms.length:Int)-1)=(r.ms.length:Int)-1:=bS (by omega) (by omega)
 have n2:IntKind.i64.wrap ((r.sh.length:Int)-1)=(r.sh.length:Int)-1:=bS (by omega) (by omega)
 have g0:r.a[0]? =some (.fz (rows Mb.l r.ms) r.ms.length):=rfl;have g1:r.a[1]? =some (.fz (rows bu.l r.sh) r.sh.length):=rfl;generalize r.a=ra at*;refine cL.dQ hcx mo Tryz.func68 JT (by simp [i68]) (aQ ?_)
 dsimp only [i68];cases h1:da 0 ((r.ms.length:Int)-1) m
 ·simp only [go_sem,g0,g1,n1,n2,iF,h1,fZ,simprocAttr];exact Ends.au rfl rfl
 ·rw [h1,eJ] at hr;simp only [go_sem,g0,g1,n1,n2,iF,h1,hr,fZ,simprocAttr];exact Ends.au rfl rfl
theorem ahA (r:Rm) (m:Nat) (x:Mb) (hx:r.ms[m]? =some x) (hl:r.tp.length<=1000) (hb:0<=x.es/\x.es<=1073741824) (h0:dE r.tp m=[]):bt av 76 [.fp r.a 0,.i .i64 m] [] 0 (.bg []) [] 0:=by
 have hos:gW (cv r m)=true:=by rw [cv,h0];rfl
 have hw:=aif r m x hx (by omega) hos hb h0
 have hs:=dv (by kernel_rfl) (by simp only [ae,AV.al,Rm.al,az]) rfl hw
 have hk:=fun h n=>gl (a0:=[.fp r.a 0,.i .i64 m]) (v0:= .ze) h n;generalize kP _ _=kT at hs hk;have hk2: ∀(h:Hp) n,Bq [.fp r.a 0,.i .i64 m] h n=some (true,{v:= .fz [] 0,n}):=fun h n=>by
  have hp0:ue r m= .fz [] 0:=by simp only [ue,h0];rfl
  simp only [Bq,ey,aS,ah (show r.tp.length<=1000000000 by omega)]
  rw [<-hp0]
 have hcx:Sound av (bZ [(86,kT),(72,Bq)]):=Sound.cons hs (Sound.cons s72 Sound.nil);generalize Bq=k2 at*;generalize r.a=ra at*;refine dT hcx Tryz.func76 HI ?_
 dsimp only [i76];simp only [go_sem,hk,hk2,simprocAttr];refine Loop.rounds (F:=⟨av,bZ [(86,kT),(72,k2)],[17],42,0⟩) 1 hcx mo ?_;simp only [go_sem,simprocAttr];exact Ends.au rfl rfl
theorem Bm {r:Rm} {m:Nat} (h0:dE r.tp m=[]):dP r m=r:=by
 simp only [dP,h0,kv,Cr]
/-! Measure -/
def xu (r:Rm) (m b:Int):Int:=if da 0 ((r.ms.length:Int)-1) m&&da 0 1073741824 b then 0 else 2
def gh (r:Rm) (m:Nat) (b:Int):Rm:=⟨r.ms.modify m fun x=>{x with es:=b},r.sh,r.tp⟩
def mX (r:Rm) (m b:Int):Rm×Int:=if bC r then (if xu r m b=0 then (dP (gh r m.toNat b) m.toNat,0) else (tn,2)) else (tn,420)
abbrev su (m b:Int):List AV:=[.fp [.i .i64 m] 0,.fp [.i .i64 b] 0]
theorem aqz (r:Rm) (h6:r.ms.length<=6) (m b:Int) (he:xu r m b≠0):cL av 79 (.fp r.a 0::su m b) [] 0 (some (eD 2)) (.bg []) [] 0:=by
 have hcx:Sound av (bZ [(62,fZ),(71,iF)]):=Sound.cons x3 (Sound.cons DO Sound.nil);have n1:IntKind.i64.wrap ((r.ms.length:Int)-1)=(r.ms.length:Int)-1:=bS (by omega) (by omega)
 have g0:r.a[0]? =some (.fz (rows Mb.l r.ms) r.ms.length):=rfl;generalize r.a=ra at*;refine cL.dQ hcx mo Tryz.func79 Dh (by simp [i79]) (aQ ?_)
 dsimp only [i79];cases h1:da 0 ((r.ms.length:Int)-1) m
 ·simp only [go_sem,g0,n1,iF,h1,fZ,simprocAttr];exact Ends.au rfl rfl
 cases h2:da 0 1073741824 b
 ·simp only [go_sem,g0,n1,iF,h1,h2,fZ,simprocAttr];exact Ends.au rfl rfl
 ·exfalso;apply he;simp only [xu,h1,h2];rfl
theorem Fp {l:List Mb} {i:Nat} (hi:i<l.length) (b:Int):List.take (i*2+1) (rows Mb.l l)++[AV.i .i64 b]++List.drop (i*2+2) (rows Mb.l l)=rows Mb.l (l.modify i fun x=>{x with es:=b}):=by
 have e1:l=l.take i++l[i]::l.drop (i+1):=by rw [zt,kQ]
 have e2:(l.modify i fun x=>{x with es:=b})=l.take i++{l[i] with es:=b}::l.drop (i+1):=List.modify_eq_take_cons_drop hi
 have hl:(rows Mb.l (l.take i)).length=i*2:=by rw [aT Mb.len,gO,oK (by omega)]
 have e3:rows Mb.l l=rows Mb.l (l.take i)++(l[i].l++rows Mb.l (l.drop (i+1))):=by rw [<-cT,<-df,<-e1]
 rw [e2,df,cT,e3,yJ,vh,hl];rw [show i*2+1-i*2=1 by omega,show i*2+2-i*2=2 by omega]
 have q1:List.take (i*2+1) (rows Mb.l (l.take i))=rows Mb.l (l.take i):=h9 (by rw [hl];omega)
 have q2:List.drop (i*2+2) (rows Mb.l (l.take i))=[]:=rN (by rw [hl];omega)
 rw [q1,q2];simp [Mb.l]
abbrev tW (r:Rm) (a:Nat) (t:AV):aW:={cells:=[.sg a 0 r.ms.length,.fz (rows bu.l r.sh) r.sh.length,t]}
noncomputable def KX (r:Rm) (m b:Nat):Ct:=kH [0,b] [dc r 1,bL r] [.p 0 0,.i .i64 m] (.bg []) [(0,dc (dP r m) 1),(1,bL (dP r m))] 2 none
theorem aot (r:Rm) (m b:Nat) (hb:b≠0) (x:Mb) (hx:r.ms[m]? =some x) (hl:r.tp.length<=1000) (hos:gW (cv r m)=true) (he:0<=x.es/\x.es<=1073741824) (h0:0<(dE r.tp m).length) (hsw: ∀t∈r.tp,dL t.sw=true/\t.mo<=(t.sw.l.length:Int)-1):aq av 76 (KX r m b):=
 bY (by kernel_rfl) (by have:=bz hb.symm;simp [nodup,inl,this]) rfl (aqh r m x hx hl hos he h0 hsw) (by simp) (by simp [ko,dS,ab,dy,ae,AV.al,fR,di,ff,aG,cj])
theorem En (r:Rm) (m b:Nat) (h:Hp) (n:Nat) (h0:ab h 0=some (dc r b)) (h1:ab h b=some (bL r)):
 KX r m b [.p 0 0,.i .i64 m] h n=some (true,{v:= .bg [],n,rd:=[0,b],md:=[(0,some (dc (dP r m) b)),(b,some (bL (dP r m)))]}):=by
 refine dt (h:=h) (n:=n) rfl ⟨⟨?_,?_⟩,⟨?_,?_⟩,trivial⟩ ?_
 ·rw [h0];simp [aW.aH,aL,AV.aH,nth,jr,ef]
 ·simp [ae,AV.al,fR,di,aG]
 ·rw [h1];simp [aW.aH,je]
 ·simp [ff]
 ·simp [lK,fE,aW.aH,aL,AV.aH,ix,nth,ab,jr,ef,je,aG,cj]
theorem Es {r:Rm} (hg:bC r=true): ∀t∈r.tp,dL t.sw=true/\t.mo<=(t.sw.l.length:Int)-1:=fun t ht=>by
 obtain ⟨k,hk⟩:=vT ht;obtain ⟨_,s,_,_,_,h2,h3,h4,_⟩:=vp (vv hg hk);rw [h4];exact ⟨h3,h2.2⟩
theorem apN (r:Rm) (hg:bC r=true) (m:Nat) (b:Int) (he:xu r m b=0) (h0:0<(dE r.tp m).length):
 bt av 79 (.p 0 0::su m b) [(0,tW r 1 (.sg 2 0 r.tp.length)),(1,ej r),(2,bL r)] 3 (.bg []) [(0,dc (dP (gh r m b) m) 2),(2,bL (dP (gh r m b) m))] 3:=by
 have hl:=fk hg;have hh:da 0 ((r.ms.length:Int)-1) (m:Int)=true/\da 0 1073741824 b=true:=by
  unfold xu at he;split at he
  ·rename_i h;exact jB.1 h
  ·cases he
 obtain ⟨i1,i2⟩:=hh;have hm:=(dD i1).2;have hbb:=dD i2;have hml:m<r.ms.length:=by omega
 obtain ⟨x,hx⟩: ∃x,r.ms[m]? =some x:=⟨_,aY hml⟩;have hx1:(gh r m b).ms[m]? =some {x with es:=b}:=by simp only [gh,List.getElem?_modify,hx];simp
 have hs:=aot (gh r m b) m 2 (by decide) _ hx1 (by show r.tp.length<=1000;omega) (show gW (cv r m)=true from rK hg hml) hbb h0 (show ∀t∈r.tp,_ from Es hg)
 have hk:=En (gh r m b) m 2;have hcx:Sound av (bZ [(62,fZ),(71,iF),(76,KX (gh r m b) m 2)]):=Sound.cons x3 (Sound.cons DO (Sound.cons hs Sound.nil));generalize KX (gh r m b) m 2=kc at*;have n1:IntKind.i64.wrap ((r.ms.length:Int)-1)=(r.ms.length:Int)-1:=bS (by omega) (by omega)
 have c2:decide (0<=(m:Int)/\(m:Int)<(r.ms.length:Int))=true:=ah (by omega)
 have zR:(rows Mb.l r.ms).length=r.ms.length*2:=aT Mb.len;have le1:decide (m*2+1+1<=(rows Mb.l r.ms).length)=true:=ah (by omega)
 have sp:=Fp hml b;have e1:dc (gh r m b) 2={cells:=[.fz (rows Mb.l (r.ms.modify m fun x=>{x with es:=b})) r.ms.length,.fz (rows bu.l r.sh) r.sh.length,.sg 2 0 r.tp.length]}:=by simp only [dc,gh,List.length_modify]
 have e2:bL (gh r m b)=bL r:=rfl;rw [e1,e2] at hk;have mB:=fun j=>fR j (dP (gh r m b) m).ms;have sB:=fun j=>di j (dP (gh r m b) m).sh;have tB:=fun j=>ff j (dP (gh r m b) m).tp;have mR:=fun g=>jr g (dP (gh r m b) m).ms;have sR:=fun g=>ef g (dP (gh r m b) m).sh;have tR:=fun g=>je g (dP (gh r m b) m).tp;generalize dP (gh r m b) m=R2 at*;refine bt.rz (cx:=bZ [(62,fZ),(71,iF),(76,kc)]) Tryz.func79 Dh (by simp [i79]) ?_
 dsimp only [i79];refine ck.part (F:=⟨av,bZ [(62,fZ),(71,iF),(76,kc)],[],30,3⟩) hcx mo ?_;simp only [go_sem,n1,iF,i1,i2,fZ,simprocAttr];refine ck.part (F:=⟨av,bZ [(62,fZ),(71,iF),(76,kc)],[],30,3⟩) hcx mo ?_;simp only [go_sem,c2,le1,sp,lR,simprocAttr];refine ck.nJ (b:=1) (x:= .sg 1 0 r.ms.length) (o:=0) (m:=r.ms.length) (k:={cells:=rows Mb.l (r.ms.modify m fun x=>{x with es:=b}),gr:=some 2}) (cs:=rows Mb.l (r.ms.modify m fun x=>{x with es:=b})) (e2:=[(0,.p 0 0),(1,.fp [.i .i64 m] 0)])
  (h2:=[(0,{cells:=[.fz (rows Mb.l (r.ms.modify m fun x=>{x with es:=b})) r.ms.length,.fz (rows bu.l r.sh) r.sh.length,.sg 2 0 r.tp.length]}),(2,bL r)]) ?_ rfl rfl (.inr rfl) (.inl rfl) ⟨⟨_,rfl,dj.refl⟩,⟨_,rfl,dj.refl⟩,trivial⟩ ⟨⟨by decide,_,rfl,rfl,rfl,rfl,dj.hit,dj.refl,dj.refl,trivial⟩,⟨by decide,_,rfl,rfl,rfl,rfl,gE.refl⟩,trivial⟩
 refine ck.run (F:=⟨av,bZ [(62,fZ),(71,iF),(76,kc)],[],30,3⟩) hcx mo ?_;simp only [go_sem,hk,simprocAttr];exact bw.ends (Ends.R [] (by decide) (by decide) rfl rfl (by simp [iy,ab,rn,aW.aH,aL,AV.aH,ae,AV.al,mB,sB,tB,mR,sR,tR,cj]))
theorem auD (r:Rm) (hg:bC r=true) (m:Nat) (b:Int) (he:xu r m b=0) (h0:dE r.tp m=[]):
 bt av 79 (.p 0 0::su m b) [(0,tW r 1 (.fz (rows Tp.l r.tp) r.tp.length)),(1,ej r)] 2 (.bg []) [(0,{cells:=(gh r m b).a})] 2:=by
 have hl:=fk hg;have hh:da 0 ((r.ms.length:Int)-1) (m:Int)=true/\da 0 1073741824 b=true:=by
  unfold xu at he;split at he
  ·rename_i h;exact jB.1 h
  ·cases he
 obtain ⟨i1,i2⟩:=hh;have hm:=(dD i1).2;have hbb:=dD i2;have hml:m<r.ms.length:=by omega
 obtain ⟨x,hx⟩: ∃x,r.ms[m]? =some x:=⟨_,aY hml⟩;have hx1:(gh r m b).ms[m]? =some {x with es:=b}:=by simp only [gh,List.getElem?_modify,hx];simp
 have hs:=dv (by kernel_rfl) (by simp only [ae,AV.al,Rm.al,az]) rfl (ahA (gh r m b) m _ hx1 (by show r.tp.length<=1000;omega) hbb h0)
 have hat:=fun h n=>gl (a0:=[.fp (gh r m b).a 0,.i .i64 m]) (v0:= .bg []) h n;generalize kP [.fp (gh r m b).a 0,.i .i64 m] (.bg [])=kT at hs hat;have hk: ∀(h:Hp) n,ab h 0=some {cells:=(gh r m b).a}->bj kT [.p 0 0,.i .i64 m] h n=some (true,{v:= .bg [],n,rd:=[0]}):=fun h n hb=>by
  have hv:=jQ h 5 (gh r m b);exact mU (by simp only [bn,bQ,iL,jN,hb,hv,dV,aS,cM,List.nil_append]) (hat [] 0) rfl
 have hcx:Sound av (bZ [(62,fZ),(71,iF),(76,bj kT)]):=Sound.cons x3 (Sound.cons DO (Sound.cons hs.nv Sound.nil));generalize bj kT=kc at*;have n1:IntKind.i64.wrap ((r.ms.length:Int)-1)=(r.ms.length:Int)-1:=bS (by omega) (by omega)
 have c2:decide (0<=(m:Int)/\(m:Int)<(r.ms.length:Int))=true:=ah (by omega)
 have zR:(rows Mb.l r.ms).length=r.ms.length*2:=aT Mb.len;have le1:decide (m*2+1+1<=(rows Mb.l r.ms).length)=true:=ah (by omega)
 have sp:=Fp hml b;have hB:=fun j=>Rm.al j (gh r m b);have hR:=fun g=>aU (ψ:=g) _ (hB 0);have e1:(gh r m b).a=[.fz (rows Mb.l (r.ms.modify m fun x=>{x with es:=b})) r.ms.length,.fz (rows bu.l r.sh) r.sh.length,.fz (rows Tp.l r.tp) r.tp.length]:=by simp only [Rm.a,gh,List.length_modify]
 refine bt.rz (cx:=bZ [(62,fZ),(71,iF),(76,kc)]) Tryz.func79 Dh (by simp [i79]) ?_
 dsimp only [i79];refine ck.part (F:=⟨av,bZ [(62,fZ),(71,iF),(76,kc)],[],30,2⟩) hcx mo ?_;simp only [go_sem,n1,iF,i1,i2,fZ,simprocAttr];refine ck.part (F:=⟨av,bZ [(62,fZ),(71,iF),(76,kc)],[],30,2⟩) hcx mo ?_;simp only [go_sem,c2,le1,sp,lR,simprocAttr];refine ck.nJ (b:=1) (x:= .sg 1 0 r.ms.length) (o:=0) (m:=r.ms.length) (k:={cells:=rows Mb.l (r.ms.modify m fun x=>{x with es:=b}),gr:=some 2}) (cs:=rows Mb.l (r.ms.modify m fun x=>{x with es:=b})) (e2:=[(0,.p 0 0),(1,.fp [.i .i64 m] 0)])
  (h2:=[(0,{cells:=(gh r m b).a})]) ?_ rfl rfl (.inr rfl) (.inl rfl) ⟨⟨_,rfl,dj.refl⟩,⟨_,rfl,dj.refl⟩,trivial⟩ (by rw [e1];exact ⟨⟨by decide,_,rfl,rfl,rfl,rfl,dj.hit,dj.refl,dj.refl,trivial⟩,trivial⟩)
 generalize (gh r m b).a=RA at*;refine ck.run (F:=⟨av,bZ [(62,fZ),(71,iF),(76,kc)],[],30,2⟩) hcx mo ?_;simp only [go_sem,hk,simprocAttr];exact bw.ends (Ends.R [] (by decide) (by decide) rfl rfl (by simp [iy,ab,rn,aW.aH,aL,AV.aH,ae,AV.al,hB,hR,cj]))
theorem E7 {r:Rm} (hm:r.ms≠[]) (ht:r.tp≠[]):fP r true false true 1=[(1,tW r 2 (.sg 4 0 r.tp.length)),(2,ej r),(4,bL r)]:=by
 have e:=tx (f:=Tp.l) (z:=22) (l:=r.tp) (r9.2 ht);unfold fP l4 mV mH sV tV sH tH;rw [e];split
 ·rename_i h;exact absurd h hm
 ·rfl
theorem Ta {r:Rm} (hm:r.ms≠[]):fP r true false false 1=[(1,tW r 2 (.fz (rows Tp.l r.tp) r.tp.length)),(2,ej r)]:=by
 unfold fP l4 mV mH sV tV sH tH;split
 ·rename_i h;exact absurd h hm
 ·rfl
theorem aih (r:Rm) (hr:r.is=true) (hg:bC r=true) (m:Nat) (b:Int) (he:xu r m b=0) (hml:m<r.ms.length):bt av 135 [.fp r.a 0,.fp [.fn 79 (su m b)] 0] [] 0 (.agg (dP (gh r m b) m).a) [] 0:=by
 have hm:r.ms≠[]:=fun h=>by rw [h] at hml;simp at hml
 by_cases h0:dE r.tp m=[]
 ·rw [Bm (show dE (gh r m b).tp m=[] from h0)]
  have hk:kH [1,2] [tW r 1 (.fz (rows Tp.l r.tp) r.tp.length),ej r] (.p 0 0::su m b) (.bg []) [(0,{cells:=(gh r m b).a})] 2 none (.p 1 0::su m b) (jH r true false false) 5=_:=dt rfl ⟨⟨?_,?_⟩,⟨?_,?_⟩,trivial⟩ rfl
  ·have hB:=fun j=>Rm.al j (gh r m b);have hR:=fun g=>aU (ψ:=g) _ (hB 0);refine alI hr hg true false false (bY (R:=[1,2]) (ks:=[tW r 1 (.fz (rows Tp.l r.tp) r.tp.length),ej r]) (by kernel_rfl) (by decide) rfl (auD r hg m b he h0) (by decide) (by simp [ko,dS,ab,dy,ae,AV.al,fR,di,ff,hB,aG,cj])) (by decide) hk rfl ?_ ?_<;>
    (rw [jH,Ta hm];simp [bX.fe,lK,fE,aW.aH,aL,AV.aH,ix,nth,ab,jr,ef,je,hR,jb,ig,nH,aG,cj])
  ·rw [jH,Ta hm];simp [ab,aW.aH,aL,AV.aH,nth,jr,ef,je,cj]
  ·simp [ae,AV.al,fR,di,ff,aG]
  ·rw [jH,Ta hm];simp [ab,aW.aH,jr,nth,cj,ej]
  ·simp [fR,ej]
 ·have ht:r.tp≠[]:=fun h=>h0 (by rw [h];rfl)
  have hk:kH [1,2,4] [tW r 1 (.sg 2 0 r.tp.length),ej r,bL r] (.p 0 0::su m b) (.bg []) [(0,dc (dP (gh r m b) m) 2),(2,bL (dP (gh r m b) m))] 3 none (.p 1 0::su m b) (jH r true false true) 5=_:=dt rfl ⟨⟨?_,?_⟩,⟨?_,?_⟩,⟨?_,?_⟩,trivial⟩ rfl
  ·refine Eg (b:=4) hr hg true false true (bY (R:=[1,2,4]) (ks:=[tW r 1 (.sg 2 0 r.tp.length),ej r,bL r]) (by kernel_rfl) (by decide) rfl (apN r hg m b he (r9.2 h0)) (by decide) (by simp [ko,dS,ab,dy,ae,AV.al,fR,di,ff,aG,cj])) (by decide) (by decide) hk rfl ?_ ?_ ?_<;>
    (rw [jH,E7 hm ht];simp [bX.fe,lK,fE,aW.aH,aL,AV.aH,ix,nth,ab,jr,ef,je,jb,ig,nH,aG,cj])
  ·rw [jH,E7 hm ht];simp [ab,aW.aH,aL,AV.aH,nth,jr,ef,je,cj]
  ·simp [ae,AV.al,fR,di,ff,aG]
  ·rw [jH,E7 hm ht];simp [ab,aW.aH,jr,nth,cj,ej]
  ·simp [fR,ej]
  ·rw [jH,E7 hm ht];simp [ab,aW.aH,je,nth,cj]
  ·simp [ff]
theorem D7 {l:List Int} (h:Hp) (f:Nat):k7 (Go.Ab.nv h f) (l.map fun x=>AV.fp [.i .i64 x] 0)=some ([],l.map fun x=>AV.fp [.i .i64 x] 0):=by
 induction l with
 |nil=>rfl
 |cons a l ih=>simp only [jU,bn,ny (show ae 0 [AV.i .i64 a]=true from rfl),ih,aS,cM]
theorem aty (r:Rm) (hr:r.is=true) (m b:Int):bt av 59 [.agg r.a,.fn 79 (su m b)] [] 0 (jK (mX r m b)) [] 0:=by
 have hn:=fun h f=>D7 (l:=[m,b]) h f;cases hg:bC r
 ·have e:mX r m b=(tn,420):=by simp only [mX,hg];rfl
  rw [e];exact HN r hr hg 79 _ hn rfl
 ·by_cases he:xu r m b=0
  ·have e:mX r m b=(dP (gh r m.toNat b) m.toNat,0):=by simp only [mX,hg,he,cu]
   have hi:0<=m/\m<=(r.ms.length:Int)-1:=by
    unfold xu at he;split at he
    ·rename_i h;exact dD (jB.1 h).1
    ·cases he
   have hm:((m.toNat:Nat):Int)=m:=by omega
   rw [e];refine za r 79 _ hn rfl _ (fun h=>absurd rfl h) (fun _=> ?_) (fun h=>absurd rfl h);have:=aih r hr hg m.toNat b (by rw [hm];exact he) (by omega)
   rw [hm] at this;exact this
  ·have e:mX r m b=(tn,2):=by simp only [mX,hg,cu,aN he]
   rw [e];refine za r 79 _ hn rfl _ (fun _=>rfl) (fun h=>by cases h) (fun _=> ?_)
   exact II hr hg (by decide) rfl (by kernel_rfl) (aqz r (fk hg).1 m b he)
theorem w16 (r:Rm) (hr:r.is=true) (m b:Int):bt av 16 [.agg r.a,.i .i64 m,.i .i64 b] [] 0 (jK (mX r m b)) [] 0:=by
 have hb:=iu (mX r m b);have hrb:=Rm.al 0 r;have hst:=dv (by kernel_rfl) (by simp only [ae,AV.al,hrb,az]) hb (aty r hr m b)
 have hat:=fun h n=>gl (a0:=[.agg r.a,.fn 79 [.fp [.i .i64 m] 0,.fp [.i .i64 b] 0]]) (v0:=jK (mX r m b)) h n;generalize kP _ _=kT at hst hat;have hv:=fun h f=>jQ h f r;have hk: ∀(h:Hp) n,ab h 1=some {cells:=[.i .i64 m]}->ab h 2=some {cells:=[.i .i64 b]}->ew kT [.agg r.a,.fn 79 [.p 1 0,.p 2 0]] h n=some (true,{v:=jK (mX r m b),n,rd:=[1,2],md:=[(1,none),(2,none)]}):=fun h n h1 h2=>by
  simp only [ew,bn,bQ,iE,iL,jN,jf,hv,h1,h2,aS,dV,hat,hb,ee,List.nil_append,cM];simp [bX.plain,vO,h1,h2,jM,cj]
 have hcx:Sound av (bZ [(59,ew kT)]):=Sound.cons hst.ng Sound.nil;have a3:r.a.length=3:=rfl;generalize hR:mX r m b=R at*;obtain ⟨R,e⟩:=R;have a0:R.a.length=3:=rfl;have ao:aX R.a=true:=rfl;have ad:List.take 3 (List.drop 0 R.a)=R.a:=rfl;have ad2:List.take 3 (List.drop 0 r.a)=r.a:=rfl;have hbR:=Rm.al 0 R;simp only [jK] at*;generalize R.a=RA at*;generalize r.a=ra at*;refine dT hcx Tryz.func16 acF ?_
 dsimp only [i16];simp only [go_sem,hk,a3,a0,ao,ad,ad2,simprocAttr];exact Ends.au (by simp only [AV.al,ae,hbR,az]) rfl
def Gy:Ct
 |[.agg c,.i .i64 m,.i .i64 b],_,n=>(qy c).bind fun r=>some (r.is,{v:=jK (mX r m b),n})
 |_,_,_=>none
theorem s16:aq av 16 Gy:=fun args h n c E hc ht=>by
 unfold Gy at hc;split at hc
 ·simp only [af,aP,bq] at hc;obtain ⟨r,hr,rfl,rfl⟩:=hc;rw [eh hr];exact ax.pure (by kernel_rfl) (by simp only [ae,AV.al,Rm.al,az]) (iu _) (w16 r ht _ _) _ _
 ·cases hc
def ofM (tp:List Tp) (m:Int):List Tp:=tp.filter fun t=>t.me==m
theorem E4 (tp:List Tp) (m:Int): ∀k,k<=tp.length->(lY tp m k).map (fun i=>tp[i]?)=((tp.take k).filter fun t=>t.me==m).map some
 |0,_=>rfl
 |k+1,hk=>by
  have ih:=E4 tp m k (by omega)
  obtain ⟨t,ht⟩: ∃t,tp[k]? =some t:=⟨_,aY (by omega)⟩
  rw [jz,ht];simp only [lY,ht,Bs,List.filter_append];cases hb:t.me==m
  ·simp only [cond_false,ih];simp [hb]
  ·simp only [cond_true,List.map_append,ih];simp [hb,ht]
theorem E6 (tp:List Tp) (m:Int):(dE tp m).map (fun i=>tp[i]?)=(ofM tp m).map some:=by
 have:=E4 tp m tp.length (bx _);rwa [fU] at this
theorem Aa (tp:List Tp) (m:Int):(dE tp m).length=(ofM tp m).length:=by
 have:=cS List.length (E6 tp m);simpa using this
theorem Rq {β:Type} {f:Nat->β} {g:Tp->β} {tp:List Tp} (hf: ∀i t,tp[i]? =some t->f i=g t) (m:Int):(dE tp m).map f=(ofM tp m).map g:=by
 refine lH fun k=> ?_;have h:=cS (fun l:List (Option Tp)=>l[k]?) (E6 tp m);simp only [gF] at h ⊢;cases h1:(dE tp m)[k]? with
 |none=>
  rw [h1] at h;cases h2:(ofM tp m)[k]? with
  |none=>rfl
  |some t=>rw [h2] at h;cases h
 |some i=>
  rw [h1] at h;cases h2:(ofM tp m)[k]? with
  |none=>rw [h2] at h;cases h
  |some t=>
   rw [h2] at h;simp only [fN,aP] at h ⊢;exact hf i t h
theorem Kj (tp:List Tp) (m:Int):rh tp m=(ofM tp m).map fun t=>t.sw.ou:=Rq (fun i t h=>by simp only [KG,h]) m
theorem Ib (l:List Int):fV l=true↔l.Nodup:=by
 unfold fV;rw [fH,List.nodup_iff_pairwise_ne,y5];constructor
 ·intro h i j hi hj hij he;have:=h j l[j] (aY hj);rw [gv,iH,<-ju,List.contains_iff_mem] at this;apply this;rw [<-he];exact List.mem_take_iff_getElem.2 ⟨i,by omega,rfl⟩
 ·intro h k x hx;rw [gv,iH,<-ju,List.contains_iff_mem];intro hm;obtain ⟨i,hi,he⟩:=List.mem_take_iff_getElem.1 hm;obtain ⟨hk,hx'⟩:=eK.1 hx;exact h i k (by omega) hk (by omega) (by rw [he,hx'])
theorem wW {f:Nat->Bool} {n:Nat}:ji f n=true↔ ∀k,k<n->f k=true:=by
 refine ⟨fun h k hk=>CX h hk,fun h=> ?_⟩;induction n with
 |zero=>rfl
 |succ n ih=>rw [yR,aw];exact ⟨ih fun k hk=>h k (by omega),h n (by omega)⟩
structure Iu (r:Rm):Prop where
 tap: ∀t∈r.tp,lW r t=true
 srt:r.tp.Pairwise fun a b=>fb a b<0
 out: ∀m:Nat,m<r.ms.length->((ofM r.tp m).map fun t=>t.sw.ou).Nodup
 cnt: ∀m:Nat,m<r.ms.length->(ofM r.tp m).length<=5
theorem Ie {a b c:Tp} (h1:fb a b<0) (h2:fb b c<0):fb a c<0:=by
 have:=qm h1;have:=qm h2;exact s7 (by omega)
theorem F1 (r:Rm):kN r=true↔Iu r:=by
 simp only [kN,aw,fH,wW,wP,Ib,Kj,Aa,aV];constructor
 ·rintro ⟨h1,h2⟩;refine ⟨fun t ht=> ?_,?_,fun m hm=>(h2 m hm).1,fun m hm=>(h2 m hm).2⟩
  ·obtain ⟨k,hk⟩:=vT ht;have:=h1 k t hk;simp only [nh,aw] at this;exact this.1
  ·have key: ∀(k:Nat) x y,r.tp[k]? =some x->r.tp[k+1]? =some y->fb x y<0:=fun k x y hx hy=>by
    have:=h1 (k+1) y hy;simp only [nh,aw,gv,Nat.add_sub_cancel,hx] at this;rcases iS _ _▸this.2 with h|h
    ·simp at h;omega
    ·exact bO h
   have all: ∀(d i:Nat) x y,r.tp[i]? =some x->r.tp[i+d+1]? =some y->fb x y<0:=fun d=>by
    induction d with
    |zero=>exact fun i x y hx hy=>key i x y hx hy
    |succ d ih=>
     intro i x y hx hy;obtain ⟨z,hz⟩: ∃z,r.tp[i+d+1]? =some z:=⟨_,aY (by have:=(eK.1 hy).1;omega)⟩
     exact Ie (ih i x z hx hz) (key _ z y hz hy)
   rw [y5];intro i j hi hj hij;exact all (j-i-1) i _ _ (aY hi) (by rw [show i+(j-i-1)+1=j by omega];exact aY hj)
 ·intro h;refine ⟨fun k t ht=> ?_,fun m hm=>⟨h.out m hm,h.cnt m hm⟩⟩;simp only [nh,aw,gv];refine ⟨h.tap t (bR ht),?_⟩;cases k with
  |zero=>rfl
  |succ k=>
   obtain ⟨hk,he⟩:=eK.1 ht;rw [Nat.add_sub_cancel,aY (by omega)]
   have:=y5.1 h.srt k (k+1) (by omega) hk (by omega)
   rw [he] at this;simp only [ah this,eU]
theorem pw (r:Rm):bC r=true↔lf r.ms=true/\gg r=true/\Iu r:=by
 simp only [bC,aw,F1]
theorem yu {r r':Rm} (hm:r'.ms.length=r.ms.length) (hs:r'.sh=r.sh):gg r'=gg r:=by
 simp only [gg,hm,hs]
theorem Ex {r r':Rm} (hm:r'.ms.length=r.ms.length) (hs:r'.sh=r.sh) (t:Tp):lW r' t=lW r t:=by
 simp only [lW,hm,hs]
theorem Jk {r:Rm} (hg:bC r=true) (p:Nat):bC ⟨r.ms,r.sh,r.tp.eraseIdx p⟩=true:=by
 obtain ⟨h1,h2,h3⟩:=(pw r).1 hg;have hsub:(r.tp.eraseIdx p).Sublist r.tp:=List.eraseIdx_sublist _ _;have hf: ∀m,(ofM (r.tp.eraseIdx p) m).Sublist (ofM r.tp m):=fun m=>hsub.filter _;refine (pw _).2 ⟨h1,(yu (r:=r) rfl rfl).trans h2,fun t ht=> ?_,h3.srt.sublist hsub,fun m hm=> ?_,fun m hm=> ?_⟩
 ·exact (Ex (r:=r) rfl rfl t).trans (h3.tap t (hsub.subset ht))
 ·exact (h3.out m hm).sublist ((hf m).map _)
 ·exact Cg (hf m).length_le (h3.cnt m hm)
abbrev ao4:List AV:=[.i .i64 0,.i .i64 0,.i .i64 0,.i .i64 0,.ns,.i .i64 0,.i .i64 0,.i .i64 0,.i .i64 0,.i .i64 0,.i .i64 0,.i .i64 0,.i .i64 0,.b false,.i .i64 0,.i .i64 0,.i .i64 0,.i .i64 0,.i .i64 0,.i .i64 0,.i .i64 0,.i .i64 0]
theorem ae8 {h:Hp} {z b o m b' m':Nat} {cs:List AV} {ok:Bool} (hg:gvK h z (.sg b o m)=some (b',m',cs,ok)):b'=b/\m'=m:=by
 simp only [Iv,af,aP,bq] at hg;obtain ⟨k,_,h1,h2,_⟩:=hg;exact ⟨h1.symm,h2.symm⟩
def k78:Ct
 |[.sg b o q,.i .i64 i,.i .i64 j],h,n=>(gvK h 22 (.sg b o q)).bind fun g=>(bk 22 sQ g.2.1 g.2.2.1).bind fun l=>
  some (vO h []&&(g.2.2.2&&decide (0<=i/\i.toNat<l.length/\j=i+1/\l.length<=1000000)),{v:= .sg n 0 (l.length-1),n:=n+1,rd:=b::[],md:=jM (b::[]),nw:=[(n,{cells:=rows Tp.l (l.eraseIdx i.toNat),gr:=some 22})]})
 |_,_,_=>none
theorem s78:aq av 78 k78:=fun args h n c E hc ht=>by
 unfold k78 at hc;split at hc
 ·rename_i b o q i j;simp only [af,aP,bq] at hc;obtain ⟨⟨b',q',cs',ok'⟩,hg,l,hl,hok,rfl⟩:=hc;rw [ht] at hok;simp only [aw,aV] at hok;obtain ⟨hw,rfl,hi0,hi,rfl,hll⟩:=hok;dsimp only at hl ⊢;obtain ⟨rfl,rfl⟩:=ae8 hg;obtain ⟨rfl,rfl⟩:=bD (f:=Tp.l) j1 hl;have hi':((i.toNat:Nat):Int)=i:=by omega
  refine ax.QA (by kernel_rfl) hg (ff 0 l) (ff 0 _) (post:=[.i .i64 i,.i .i64 (i+1)]) (postF:=[.i .i64 i,.i .i64 (i+1)]) ⟨jE.same rfl,jE.same rfl,trivial⟩ rfl (by decide) (by decide) hw (fun c hc p=> ?_)
  obtain ⟨T,hT⟩:=Ot (row:=Tp.l) (zs:=ao4) (z:=22) (bytes:=192) mo Tryz.func78 adI Tp.len (by decide) (by decide) rfl rfl rfl Tp.al Tp.one l i.toNat p c hi hc (by omega)
  rw [hi',<-List.eraseIdx_eq_take_drop_succ] at hT;exact .inl ⟨by omega,T,hT⟩
 ·cases hc
def my (r:Rm) (p:Nat):Rm:=⟨r.ms,r.sh,r.tp.eraseIdx p⟩
abbrev aaa (m s:Int):List AV:=[.fp [.i .i64 m] 0,.fp [.i .i64 s] 0]
def qK (r:Rm) (m s:Int):Int:=if da 0 ((r.ms.length:Int)-1) m&&da 0 ((r.sh.length:Int)-1) s then (if jL (fx m s) r.tp then 0 else 4) else 2
def sE (r:Rm) (m s:Int):Rm×Int:=if bC r then (if qK r m s=0 then (dP (my r (ek (fx m s) r.tp)) m.toNat,0) else (tn,qK r m s)) else (tn,420)
theorem aa8 (h:Hp) (f:Nat) (l:List Tp):k7 (Go.Ab.nv h f) (rows Tp.l l)=some ([],rows Tp.l l):=oJ (fun a=>by simp only [Tp.l,Sw.a,ee,List.nil_append,bn,bQ,jN,aa0,dz (iB 0 a.sw.l),aS]) l
theorem Rh {h:Hp} {r:Rm} {b:Nat} (h0:ab h 0=some (dc r b)) (h1:ab h b=some (bL r)) (f:Nat):Go.Ab.nv h (f+2) (.p 0 0)=some ([0,b],.fp r.a 0):=by
 have zR:(rows Tp.l r.tp).length=r.tp.length*22:=aT Tp.len;have e:aA (rows Tp.l r.tp) 0 (r.tp.length*22)=rows Tp.l r.tp:=by rw [aA,fy,<-zR,fU]
 have hf:([AV.fz (rows Mb.l r.ms) r.ms.length,.fz (rows bu.l r.sh) r.sh.length,.fz (rows Tp.l r.tp) r.tp.length]:List AV)=r.a:=rfl;simp only [iL,h0,aS,dV,bn,bQ,dz (fR 0 r.ms),dz (di 0 r.sh),HF,h1,e,aa8,cM,List.nil_append,hf]
theorem Ek {kT:Ct} {v:AV} {r:Rm} {b:Nat} {m s:Int} (hat: ∀h n,kT [.fp r.a 0,.i .i64 m,.i .i64 s] h n=some (true,{v,n})) (hp:v.pl=true) (h:Hp) (n:Nat) (h0:ab h 0=some (dc r b)) (h1:ab h b=some (bL r)):bj kT [.p 0 0,.i .i64 m,.i .i64 s] h n=some (true,{v,n,rd:=[0,b]}):=
 mU (by simp only [bn,bQ,Rh h0 h1 4,jN,aS,cM,ee,List.nil_append]) (hat [] 0) hp
theorem ax.zx {P:Program} {f:FuncId} {args:List AV} {h:Hp} {n:Nat} {E:bX} (hc:ax P f args h n E) (hm:E.md=[]) (hw:E.nw=[]) (md:List (Nat×Option aW)) (hs: ∀b r,dH md b=some r->r=ab h b/\inl E.rd b=true):ax P f args h n {E with md:=md}:=by
 have ha:({E with md:=md}:bX).app (only (ab h) E.rd)=E.app (only (ab h) E.rd):=by
  funext c;simp only [bX.app,hm,hw,dH,ab];cases hg:dH md c with
  |none=>rfl
  |some r=>
   obtain ⟨h1,h2⟩:=hs c r hg;simp only [only,h2,cond_true,h1]
 refine ⟨hc.bJ,hc.le,fun b r hb=>(hs b r hb).2,hc.nw,fun D φ w us h1 h2 h3=> ?_⟩;rw [ha];exact hc.run D φ w us h1 h2 h3
open Classical in
noncomputable def Af (r:Rm) (m b:Nat):Ct:=fun a h n=>if a=[.p 0 0,.i .i64 m]/\ab h 0=some (dc r b)/\ab h b=some (bL r) then some (true,{v:= .bg [],n,rd:=[0,b],md:=[(0,some (dc (dP r m) b)),(b,some (bL (dP r m)))]}) else none
theorem zO (r:Rm) (m b:Nat) (h:Hp) (n:Nat) (h0:ab h 0=some (dc r b)) (h1:ab h b=some (bL r)):Af r m b [.p 0 0,.i .i64 m] h n=some (true,{v:= .bg [],n,rd:=[0,b],md:=[(0,some (dc (dP r m) b)),(b,some (bL (dP r m)))]}):=aM ⟨rfl,h0,h1⟩
theorem TU (r:Rm) (m b:Nat) (hb:b≠0) (hg:bC r=true) (x:Mb) (hx:r.ms[m]? =some x):aq av 76 (Af r m b):=fun args h n c E hc ht=>by
 unfold Af at hc;split at hc
 ·rename_i hh;obtain ⟨rfl,h0,h1⟩:=hh;cases hc;have hl:=fk hg;have hml:=(eK.1 hx).1;by_cases he:dE r.tp m=[]
  ·have hs:=(dv (P:=av) (by kernel_rfl) (by simp only [ae,AV.al,Rm.al,az]) rfl (ahA r m x hx (by omega) (sx hg hx) he)).nv
   rw [Bm he];have hk:bj (kP [.fp r.a 0,.i .i64 m] (.bg [])) [.p 0 0,.i .i64 m] h n=some (true,{v:= .bg [],n,rd:=[0,b]}):=
    mU (by simp only [bn,bQ,Rh h0 h1 4,jN,aS,cM,ee,List.nil_append]) (gl (a0:=[.fp r.a 0,.i .i64 m]) (v0:= .bg []) [] 0) rfl
   refine ax.zx (hs _ _ _ _ _ hk rfl) rfl rfl _ (fun c r' hm=> ?_);simp only [dH] at hm;by_cases hc0:c=0
   ·subst hc0;simp at hm;subst hm;exact ⟨h0.symm,rfl⟩
   ·rw [bz hc0] at hm;by_cases hcb:c=b
    ·subst hcb;simp at hm;subst hm;exact ⟨h1.symm,by simp [inl]⟩
    ·rw [bz hcb] at hm;simp at hm
  ·exact aot r m b hb x hx (by omega) (rK hg hml) (sx hg hx) (r9.2 he) (Es hg) _ _ _ _ _ (En r m b h n h0 h1) rfl
 ·cases hc
theorem as6 (r:Rm) (hg:bC r=true) (m s:Int) (he:qK r m s≠0):cL av 77 (.fp r.a 0::aaa m s) [] 0 (some (eD (qK r m s))) (.bg []) [] 0:=by
 have hrb:=Rm.al 0 r;cases hr:da 0 ((r.ms.length:Int)-1) m&&da 0 ((r.sh.length:Int)-1) s
 ·have e:qK r m s=2:=by simp only [qK,hr];rfl
  rw [e];have hs:=iP (P:=av) (by kernel_rfl) (by simp only [ae,AV.al,hrb,az]) rfl (ahB r hg m s hr)
  have hk:=fun h n=>ru (a0:=[.fp r.a 0,.i .i64 m,.i .i64 s]) (v0:= .bg []) (pn:=some (eD 2)) h n;have hcx:Sound av (bZ [(68,kX _ _ _)]):=Sound.cons hs Sound.nil;generalize kX _ _ _=kk at*;generalize r.a=ra at*;refine cL.dQ hcx mo Tryz.func77 CY (by simp [i77]) (aQ ?_)
  dsimp only [i77];simp only [go_sem,hk,simprocAttr];exact Ends.au rfl rfl
 ·have e:qK r m s=4:=by
   simp only [qK,hr,cu] at he ⊢;split
   ·rename_i h;rw [aM h] at he;exact absurd rfl he
   ·rfl
  have hf:jL (fx m s) r.tp=false:=by
   cases hf:jL (fx m s) r.tp
   ·rfl
   ·simp only [qK,hr,hf,cu] at he;exact absurd rfl he
  rw [e];have hw:=w68 r hg m s hr;rw [hf] at hw;have hs:=dv (by kernel_rfl) (by simp only [ae,AV.al,hrb,az]) rfl hw
  have hk:=fun h n=>gl (a0:=[.fp r.a 0,.i .i64 m,.i .i64 s]) (v0:= .bg [.i .i64 (ek (fx m s) r.tp:Nat),.b false]) h n;have hcx:Sound av (bZ [(62,fZ),(68,kP _ _)]):=Sound.cons x3 (Sound.cons hs Sound.nil);generalize kP _ _=kk at*;generalize r.a=ra at*;refine cL.dQ hcx mo Tryz.func77 CY (by simp [i77]) (aQ ?_)
  dsimp only [i77];simp only [go_sem,hk,fZ,simprocAttr];exact Ends.au rfl rfl
theorem Ft {t:Tp} {l:List Tp} (h:jL t l=true):ek t l<l.length:=by
 unfold jL at h;split at h
 ·rename_i x hx;exact (eK.1 hx).1
 ·cases h
theorem w77 (r:Rm) (hg:bC r=true) (m:Nat) (s:Int) (he:qK r m s=0):bt av 77 (.p 0 0::aaa m s) [(0,dc r 1),(1,bL r)] 2 (.bg []) [(0,dc (dP (my r (ek (fx m s) r.tp)) m) 2),(2,bL (dP (my r (ek (fx m s) r.tp)) m))] 3:=by
 have hl:=fk hg;obtain ⟨hr,hf⟩:(da 0 ((r.ms.length:Int)-1) (m:Int)&&da 0 ((r.sh.length:Int)-1) s)=true/\jL (fx m s) r.tp=true:=by
  unfold qK at he;split at he
  ·rename_i h;split at he
   ·rename_i h2;exact ⟨h,h2⟩
   ·cases he
  ·cases he
 have hi:=dD (jB.1 hr).1;have hw:=w68 r hg m s hr;rw [hf] at hw;have hpl:=Ft hf;have hrb:=Rm.al 0 r;have hs1:=dv (by kernel_rfl) (by simp only [ae,AV.al,hrb,az]) rfl hw
 have hk1:=fun h n h0 h1=>Ek (b:=1) (fun h n=>gl (a0:=[.fp r.a 0,.i .i64 m,.i .i64 s]) (v0:= .bg [.i .i64 (ek (fx m s) r.tp:Nat),.b true]) h n) rfl h n h0 h1;have hg2:=Jk hg (ek (fx m s) r.tp);have hln:(r.tp.eraseIdx (ek (fx m s) r.tp)).length=r.tp.length-1:=by rw [List.length_eraseIdx,aM hpl]
 generalize hP:ek (fx m s) r.tp=P at*;obtain ⟨x,hx⟩: ∃x,r.ms[m]? =some x:=⟨_,aY (by omega)⟩
 have hes:=sx hg hx;have hkd: ∀(h:Hp) n,ab h 1=some (bL r)->k78 [.sg 1 0 r.tp.length,.i .i64 P,.i .i64 ((P:Int)+1)] h n=some (true,{v:= .sg n 0 (r.tp.length-1),n:=n+1,rd:=[1],md:=[(1,none)],nw:=[(n,bL (my r P))]}):=fun h n h1=>by
  have zR:(rows Tp.l r.tp).length=r.tp.length*22:=aT Tp.len;have e:List.take (r.tp.length*22) (rows Tp.l r.tp)=rows Tp.l r.tp:=by rw [<-zR,fU]
  have d:decide (0<=(P:Int)/\(P:Int).toNat<r.tp.length/\(P:Int)+1=(P:Int)+1/\r.tp.length<=1000000)=true:=ah (by omega)
  simp [k78,Iv,h1,dV,aA,e,zR,Fy,d,vO,jM,my];omega
 have hc:=TU (my r P) m 2 (by decide) hg2 x hx
 have hkc:=zO (my r P) m 2;have hcx:Sound av (bZ [(62,fZ),(68,bj (kP [.fp r.a 0,.i .i64 m,.i .i64 s] (.bg [.i .i64 (P:Nat),.b true]))),(76,Af (my r P) m 2),(78,k78)]):=Sound.cons x3 (Sound.cons hs1.nv (Sound.cons hc (Sound.cons s78 Sound.nil)));generalize bj (kP _ _)=q1 at*;generalize Af (my r P) m 2=q2 at*;generalize k78=q3 at*;have w1:IntKind.i64.wrap ((P:Int)+1)=(P:Int)+1:=bS (by omega) (by omega)
 have e1:dc (my r P) 2={cells:=[.fz (rows Mb.l r.ms) r.ms.length,.fz (rows bu.l r.sh) r.sh.length,.sg 2 0 (r.tp.length-1)]}:=by simp only [dc,my,hln]
 rw [e1] at hkc;have mB:=fun j=>fR j (dP (my r P) m).ms;have sB:=fun j=>di j (dP (my r P) m).sh;have tB:=fun j=>ff j (dP (my r P) m).tp;have mR:=fun g=>jr g (dP (my r P) m).ms;have sR:=fun g=>ef g (dP (my r P) m).sh;have tR:=fun g=>je g (dP (my r P) m).tp;generalize dP (my r P) m=R2 at*;generalize bL (my r P)=LT at*;generalize hLT:bL r=L0 at*;refine dT hcx Tryz.func77 CY ?_
 dsimp only [i77];simp only [go_sem,hk1,fZ,hkd,hkc,w1,simprocAttr];exact Ends.R [] (by decide) (by decide) rfl rfl (by simp [iy,ab,rn,aW.aH,aL,AV.aH,ae,AV.al,mB,sB,tB,mR,sR,tR,cj])
theorem TC {r:Rm} {m s:Int} (he:qK r m s=0):(0<=m/\m<=(r.ms.length:Int)-1)/\(0<=s/\s<=(r.sh.length:Int)-1)/\jL (fx m s) r.tp=true:=by
 unfold qK at he;split at he
 ·rename_i h;have h:=jB.1 h;split at he
  ·rename_i h2;exact ⟨dD h.1,dD h.2,h2⟩
  ·cases he
 ·cases he
theorem atJ (r:Rm) (hr:r.is=true) (m s:Int):bt av 59 [.agg r.a,.fn 77 (aaa m s)] [] 0 (jK (sE r m s)) [] 0:=by
 have hn:=fun h f=>D7 (l:=[m,s]) h f;cases hg:bC r
 ·have e:sE r m s=(tn,420):=by simp only [sE,hg];rfl
  rw [e];exact HN r hr hg 77 _ hn rfl
 ·by_cases he:qK r m s=0
  ·have e:sE r m s=(dP (my r (ek (fx m s) r.tp)) m.toNat,0):=by simp only [sE,hg,he,cu]
   obtain ⟨hi,_,hf⟩:=TC he;have hm:((m.toNat:Nat):Int)=m:=by omega
   have hpl:=Ft hf;rw [e];refine za r 77 _ hn rfl _ (fun h=>absurd rfl h) (fun _=> ?_) (fun h=>absurd rfl h);have:=w77 r hg m.toNat s (by rw [hm];exact he)
   rw [hm] at this;exact Rp hr hg (fun h=>by rw [h] at hpl;simp at hpl) (by decide) rfl (by kernel_rfl) (.inr ⟨rfl,rfl⟩) this
  ·have e:sE r m s=(tn,qK r m s):=by simp only [sE,hg,cu,aN he]
   rw [e];refine za r 77 _ hn rfl _ (fun _=>rfl) (fun h=>absurd h he) (fun _=> ?_);exact II hr hg (by decide) rfl (by kernel_rfl) (as6 r hg m s he)
theorem w15 (r:Rm) (hr:r.is=true) (m s:Int):bt av 15 [.agg r.a,.i .i64 m,.i .i64 s] [] 0 (jK (sE r m s)) [] 0:=by
 have hb:=iu (sE r m s);have hrb:=Rm.al 0 r;have hst:=dv (by kernel_rfl) (by simp only [ae,AV.al,hrb,az]) hb (atJ r hr m s)
 have hat:=fun h n=>gl (a0:=[.agg r.a,.fn 77 [.fp [.i .i64 m] 0,.fp [.i .i64 s] 0]]) (v0:=jK (sE r m s)) h n;generalize kP _ _=kT at hst hat;have hv:=fun h f=>jQ h f r;have hk: ∀(h:Hp) n,ab h 1=some {cells:=[.i .i64 m]}->ab h 2=some {cells:=[.i .i64 s]}->ew kT [.agg r.a,.fn 77 [.p 1 0,.p 2 0]] h n=some (true,{v:=jK (sE r m s),n,rd:=[1,2],md:=[(1,none),(2,none)]}):=fun h n h1 h2=>by
  simp only [ew,bn,bQ,iE,iL,jN,jf,hv,h1,h2,aS,dV,hat,hb,ee,List.nil_append,cM];simp [bX.plain,vO,h1,h2,jM,cj]
 have hcx:Sound av (bZ [(59,ew kT)]):=Sound.cons hst.ng Sound.nil;have a3:r.a.length=3:=rfl;generalize hR:sE r m s=R at*;obtain ⟨R,e⟩:=R;have a0:R.a.length=3:=rfl;have ao:aX R.a=true:=rfl;have ad:List.take 3 (List.drop 0 R.a)=R.a:=rfl;have ad2:List.take 3 (List.drop 0 r.a)=r.a:=rfl;have hbR:=Rm.al 0 R;simp only [jK] at*;generalize R.a=RA at*;generalize r.a=ra at*;refine dT hcx Tryz.func15 Zy ?_
 dsimp only [i15];simp only [go_sem,hk,a3,a0,ao,ad,ad2,simprocAttr];exact Ends.au (by simp only [AV.al,ae,hbR,az]) rfl
def k15:Ct
 |[.agg c,.i .i64 m,.i .i64 s],_,n=>(qy c).bind fun r=>some (r.is,{v:=jK (sE r m s),n})
 |_,_,_=>none
theorem s15:aq av 15 k15:=fun args h n c E hc ht=>by
 unfold k15 at hc;split at hc
 ·simp only [af,aP,bq] at hc;obtain ⟨r,hr,rfl,rfl⟩:=hc;rw [eh hr];exact ax.pure (by kernel_rfl) (by simp only [ae,AV.al,Rm.al,az]) (iu _) (w15 r ht _ _) _ _
 ·cases hc
theorem w74 (tp:List Tp) (i:Nat) (hi:i<tp.length) (o:Int):bt av 74 [.fp (rows Tp.l tp) (i*22),.fp [.i .i64 o] 0] [] 0 (.b (KG tp i==o)) [] 0:=by
 obtain ⟨t,ht⟩: ∃t,tp[i]? =some t:=⟨_,aY hi⟩;have e:KG tp i=t.sw.ou:=by simp only [KG,ht]
 have g:(rows Tp.l tp)[i*22+4+1]? =some (.i .i64 t.sw.ou):=cn (f:=Tp.l) (z:=22) (j:=5) (v:= .i .i64 t.sw.ou) Tp.len ht rfl;rw [e];generalize rows Tp.l tp=T at*;refine dT (cx:=bZ []) Sound.nil Tryz.func74 U4 ?_
 dsimp only [i74];simp only [go_sem,g,simprocAttr];exact Ends.au rfl rfl
theorem w73 (tp:List Tp) (m o:Int) (hl:tp.length<=1000):bt av 73 [.fz (rows (mJ (rows Tp.l tp)) (dE tp m)) (dE tp m).length,.fn 74 [.fp [.i .i64 o] 0]] [] 0 (.b ((dE tp m).any fun i=>KG tp i==o)) [] 0:=by
 have hb:=ff 0 tp;have hle:(dE tp m).length<=tp.length:=vw tp m _;refine Ip mo Tryz.func73 X8 (by kernel_rfl) (bN (Jj hb)) rfl ?_ (uY _ (dE tp m) 0 (by omega))
 exact E3 (el:=fun i=> .fp (rows Tp.l tp) (i*22)) mo Tryz.func140 MQ (by kernel_rfl) (fun _=>hb) rfl (fun _=>rfl) (fun a b h=>by cases Nat.eq_of_mul_eq_mul_right (by decide) (AV.fp.inj h).2;rfl) _ (by omega) (fun i hi=>w74 tp i (iT hi).1 o)
theorem Fv (tp:List Tp) (m o:Int):((dE tp m).any fun i=>KG tp i==o)=(ofM tp m).any fun t=>t.sw.ou==o:=by
 have h:=cS (fun l:List Bool=>l.any id) (Rq (f:=fun i=>KG tp i==o) (g:=fun t=>t.sw.ou==o) (tp:=tp) (fun i t h=>by simp only [KG,h]) m)
 simpa only [List.any_map,Function.comp_def,id] using h
theorem jE.fzN {h:Hp} {rd:List Nat} {l m:List AV} {n:Nat} (hl:xy h rd l m):jE h rd (.fz l n) (.fz m n):=fun D D' φ w u hH hv=>by
 cases hv with
 |fz _ _ B o cap vs hB hc hs hh=>
  refine .fz m n B o cap vs ((bU.gD hH D).fz B vs hB) hc (fun i hi=>hs i (by rw [hl.len];exact hi)) (fun i b u hb hu=> ?_)
  obtain ⟨a,h1,h2⟩:=hl.get hb;exact h2 D D' φ w u hH (hh i a u h1 hu)
 |mI _ x cap hc=>exact .mI _ x cap hc
theorem Km {h:Hp} {b:Nat} {tp:List Tp} (hb:ab h b=some {cells:=rows Tp.l tp,gr:=some 22}): ∀q:List Nat,xy h [b] (rows (fun i=>[AV.p b (i*22)]) q) (rows (mJ (rows Tp.l tp)) q)
 |[]=>trivial
 |i::q=>by
  refine ⟨jE.p (k:={cells:=rows Tp.l tp,gr:=some 22}) ?_ (ff 0 tp),Km hb q⟩;simp [only,inl,hb]
open Classical in
noncomputable def Hm (r:Rm) (m o:Int):Ct:=fun a h n=>if a=[j3 r m,.fn 74 [.fp [.i .i64 o] 0]]/\ab h 1=some (bL r) then some (true,{v:= .b ((ofM r.tp m).any fun t=>t.sw.ou==o),n,rd:=[1]}) else none
theorem L6 (r:Rm) (m o:Int) (h:Hp) (n:Nat) (h1:ab h 1=some (bL r)):Hm r m o [j3 r m,.fn 74 [.fp [.i .i64 o] 0]] h n=some (true,{v:= .b ((ofM r.tp m).any fun t=>t.sw.ou==o),n,rd:=[1]}):=aM ⟨rfl,h1⟩
theorem aqF (r:Rm) (m o:Int) (hl:r.tp.length<=1000):aq av 73 (Hm r m o):=fun args h n c E hc ht=>by
 unfold Hm at hc;split at hc
 ·rename_i hh;obtain ⟨rfl,h1⟩:=hh;cases hc;have hw:=w73 r.tp m o hl;rw [Fv] at hw;exact ax.A3 (by kernel_rfl) (argsF:=[.fz (rows (mJ (rows Tp.l r.tp)) (dE r.tp m)) (dE r.tp m).length,.fn 74 [.fp [.i .i64 o] 0]]) ⟨jE.fzN (Km h1 _),jE.same rfl,trivial⟩ rfl hw
 ·cases hc
/-! Insert -/
theorem Ev:aK av Tryz.f75=some (sG 22 192 ao4 141 142):=by kernel_rfl
theorem atG:aq av 141 ym:=OD (by decide) Tryz.func141 (by kernel_rfl) (by kernel_rfl) (by kernel_rfl) (by kernel_rfl) (by kernel_rfl)
def KI:Ct
 |[.ns,.i .i64 i,y],h,n=>wH h 22 y fun rd m cs ok=>(sQ cs).bind fun x=>some (ok&&(vO h rd&&decide (i=0/\m=1)),{v:= .sg n 0 1,n:=n+1,rd,md:=jM rd,nw:=[(n,{cells:=rows Tp.l [x],gr:=some 22})]})
 |[.sg b o q,.i .i64 i,y],h,n=>wH h 22 y fun rd m cs ok=>(sQ cs).bind fun x=>(gvK h 22 (.sg b o q)).bind fun g=>(bk 22 sQ g.2.1 g.2.2.1).bind fun l=>
  some (ok&&(vO h rd&&(g.2.2.2&&(!(inl rd b)&&decide (0<=i/\i.toNat<=l.length/\m=1/\l.length<=1000000)))),{v:= .sg n 0 (l.length+1),n:=n+1,rd:=b::rd,md:=jM (b::rd),nw:=[(n,{cells:=rows Tp.l (Go.Ab.pK l [x] i.toNat),gr:=some 22})]})
 |_,_,_=>none
theorem s75:aq av 75 KI:=fun args h n c E hc ht=>by
 unfold KI at hc;split at hc
 ·rename_i i y;rw [oS] at hc;simp only [af,aP,bq] at hc;obtain ⟨⟨rd,m,cs,ok⟩,hv,x,hx,hok,rfl⟩:=hc;dsimp only at hx hok;rw [ht] at hok;simp only [aw,aV] at hok;obtain ⟨rfl,hw,rfl,rfl⟩:=hok;dsimp only at hw ⊢;obtain rfl:=j1 _ _ hx;exact ax.agO (by kernel_rfl) (argsF:=[.ns,.i .i64 0,.fz (rows Tp.l [x]) 1]) ⟨jE.same rfl,jE.same rfl,by rw [show rows Tp.l [x]=x.l by simp [rows]];exact rF hv x.al (fun b h=>h),trivial⟩ (ff _ _) hw (OZ mo Tryz.func75 Ev Tp.len Tp.al [x] Nat.one_pos (by simp only [aE,nG];omega))
 ·rename_i b o q i y;rw [oS] at hc;simp only [af,aP,bq] at hc;obtain ⟨⟨rd,m,cs,ok⟩,hv,x,hx,⟨b',q',cs',ok'⟩,hg,l,hl,hok,rfl⟩:=hc;dsimp only at hx hok;rw [ht] at hok;simp only [aw,aV,iH] at hok;obtain ⟨rfl,hw,rfl,hbr,hi0,hi,rfl,hll⟩:=hok;dsimp only at hw hl hbr ⊢;obtain ⟨rfl,rfl⟩:=ae8 hg;obtain rfl:=j1 _ _ hx;obtain ⟨rfl,rfl⟩:=bD (f:=Tp.l) j1 hl;refine ax.QA (by kernel_rfl) hg (ff _ _) (ff _ _) (postF:=[.i .i64 i,.fz (rows Tp.l [x]) 1]) ⟨jE.same rfl,by rw [show rows Tp.l [x]=x.l by simp [rows]];exact rF hv x.al (fun b h=>h),trivial⟩ hbr (by decide) (by decide) hw (fun c hc=> ?_)
  have:=Nw (P:=av) (row:=Tp.l) mo Tryz.func75 Ev atG Tp.len (by decide) (by decide) rfl Tp.al Tp.one l [x] i.toNat c hi hc Nat.one_pos (by simp only [aE,nG];omega) (by simp only [nG];omega)
  rwa [Int.toNat_of_nonneg hi0] at this
 ·cases hc
theorem vy {t u:Tp} (h1:t.me=u.me) (h2:t.sh=u.sh): ∀l,ek t l=ek u l
 |[]=>rfl
 |x::r=>by
  have e:fb x t=fb x u:=by simp only [fb,h1,h2]
  simp only [ek,e,vy h1 h2 r]
theorem J6 {t u:Tp} (h1:t.me=u.me) (h2:t.sh=u.sh) (l:List Tp):jL t l=jL u l:=by
 have e: ∀x,fb x t=fb x u:=fun x=>by simp only [fb,h1,h2]
 simp only [jL,vy h1 h2,e]
theorem aau {a b:Tp} (h1: ¬fb a b<0) (h2:(fb a b==0)=false):fb b a<0:=by
 refine s7 ?_;by_cases h3:b.me<a.me
 ·exact .inl h3
 ·by_cases h4:a.me<b.me
  ·exact absurd (s7 (.inl h4)) h1
  ·by_cases h5:a.sh<b.sh
   ·exact absurd (s7 (.inr ⟨by omega,h5⟩)) h1
   ·refine .inr ⟨by omega,?_⟩
    by_cases h6:b.sh<a.sh
    ·exact h6
    ·exfalso;have e1:a.me=b.me:=by omega
     have e2:a.sh=b.sh:=by omega
     have:fb a b=0:=by simp [fb,P8,lJ,e1,e2]
     rw [this] at h2;cases h2
theorem JD {t:Tp}: ∀{l:List Tp},(∀x∈l.take (ek t l),fb x t<0)/\ ∀x,l[ek t l]? =some x-> ¬fb x t<0
 |[]=>⟨fun x h=>by simp [ek] at h,fun x h=>by simp at h⟩
 |y::r=>by
  have ih:=JD (t:=t) (l:=r);cases hd:decide (fb y t<0)
  ·have:ek t (y::r)=0:=by simp only [ek,hd,cond_false]
   rw [this];exact ⟨fun x h=>by simp at h,fun x h=>by simp at h;subst h;exact ob hd⟩
  ·have:ek t (y::r)=ek t r+1:=by simp only [ek,hd,cond_true]
   rw [this];refine ⟨fun x h=> ?_,fun x h=>ih.2 x (by simpa using h)⟩
   rw [List.take_succ_cons,jD] at h;rcases h with rfl|h
   ·exact bO hd
   ·exact ih.1 x h
theorem MI {l:List Tp} {t:Tp} (hs:l.Pairwise fun a b=>fb a b<0) (hf:jL t l=false):(pK l [t] (ek t l)).Pairwise fun a b=>fb a b<0:=by
 have hsp:=hs;rw [<-kQ (ek t l) l,List.pairwise_append] at hsp;obtain ⟨h1,h2,h3⟩:=hsp;obtain ⟨p1,p2⟩:=JD (t:=t) (l:=l);have hd: ∀y∈l.drop (ek t l),fb t y<0:=fun y hy=>by
  unfold jL at hf;cases hx:l[ek t l]? with
  |none=>
   rw [rN (by rw [List.getElem?_eq_none_iff] at hx;exact hx)] at hy
   cases hy
  |some x=>
   rw [hx] at hf;obtain ⟨hlt,hxe⟩:=eK.1 hx;have hx0:=aau (p2 x hx) hf;rw [kW hlt,hxe,jD] at hy;rw [kW hlt,hxe,List.pairwise_cons] at h2;rcases hy with rfl|hy
   ·exact hx0
   ·exact Ie hx0 (h2.1 y hy)
 unfold pK;rw [List.pairwise_append];refine ⟨h1,List.pairwise_cons.2 ⟨hd,h2⟩,fun a ha b hb=> ?_⟩;rcases jD.1 hb with rfl|hb
 ·exact p1 a ha
 ·exact h3 a ha b hb
theorem vt (l:List Tp) (t:Tp) (i:Nat):(pK l [t] i).Perm (t::l):=by
 unfold pK;have:=List.perm_middle (l₁:=l.take i) (l₂:=l.drop i) (a:=t);rw [kQ] at this;exact this
theorem HU {r:Rm} (hg:bC r=true) {t:Tp} (ht:lW r t=true) (hf:jL t r.tp=false) (ho:((ofM r.tp t.me).any fun x=>x.sw.ou==t.sw.ou)=false) (hc:(ofM r.tp t.me).length<5):bC ⟨r.ms,r.sh,pK r.tp [t] (ek t r.tp)⟩=true:=by
 obtain ⟨h1,h2,h3⟩:=(pw r).1 hg;have hp:=vt r.tp t (ek t r.tp);have hpf: ∀m,(ofM (pK r.tp [t] (ek t r.tp)) m).Perm (ofM (t::r.tp) m):=fun m=>hp.filter _;have hcase: ∀m,ofM (t::r.tp) m=if t.me=m then t::ofM r.tp m else ofM r.tp m:=fun m=>by
  simp only [ofM,List.filter_cons,lU]
 refine (pw _).2 ⟨h1,(yu (r:=r) rfl rfl).trans h2,fun x hx=> ?_,MI h3.srt hf,fun m hm=> ?_,fun m hm=> ?_⟩
 ·refine (Ex (r:=r) rfl rfl x).trans ?_;rcases jD.1 (hp.mem_iff.1 hx) with rfl|hx
  ·exact ht
  ·exact h3.tap x hx
 ·refine (((hpf m).map _).nodup_iff).2 ?_;rw [hcase];split
  ·rename_i he;rw [jU,D5];refine ⟨fun hmem=> ?_,h3.out m hm⟩;obtain ⟨x,hx,he2⟩:=List.mem_map.1 hmem;rw [he] at ho;have:=List.any_eq_false.1 ho x hx;simp [he2] at this
  ·exact h3.out m hm
 ·rw [(hpf m).length_eq,hcase];split
  ·rename_i he;rw [List.length_cons,<-he];omega
  ·exact h3.cnt m hm
structure Fo where
 wt:Int
 mo:Int
 ou:Int
 st:Int
def gJ (x:bu) (f:Fo):Sw×Int:=Cj x.ss f.ou f.st 0 0 0 0
def Jf (r:Rm) (m s:Int) (x:bu) (f:Fo):Bool:= !jL (fx m s) r.tp&&(da 1 10 f.wt&&(da 0 ((x.ss.length:Int)-1) f.mo&&(gJ x f).2==0))
def I4 (r:Rm) (m s:Int) (x:bu) (f:Fo):Int:=if pF x m then 421 else if Jf r m s x f then (if (ofM r.tp m).any fun t=>t.sw.ou==f.ou then 2 else if (ofM r.tp m).length<5 then 0 else 3) else 2
def uT (r:Rm) (m s:Int) (f:Fo):Int:=if da 0 ((r.ms.length:Int)-1) m&&da 0 ((r.sh.length:Int)-1) s then (match r.sh[s.toNat]? with|some x=>I4 r m s x f|none=>0) else 2
def nc (m s:Int) (x:bu) (f:Fo):Tp:=⟨m,s,f.wt,f.mo,(gJ x f).1⟩
def fO (r:Rm) (m s:Int) (f:Fo):Rm:=match r.sh[s.toNat]? with|some x=>⟨r.ms,r.sh,pK r.tp [nc m s x f] (ek (fx m s) r.tp)⟩|none=>r
def jT (r:Rm) (m s:Int) (f:Fo):Rm×Int:=if bC r then (if uT r m s f=0 then (dP (fO r m s f) m.toNat,0) else (tn,uT r m s f)) else (tn,420)
abbrev w7 (m s:Int) (f:Fo):List AV:=[.fp [.i .i64 m] 0,.fp [.i .i64 s] 0,.fp [.i .i64 f.ou] 0,.fp [.i .i64 f.st] 0,.fp [.i .i64 f.wt] 0,.fp [.i .i64 f.mo] 0]
theorem agF (r:Rm) (m:Int) (hl:r.tp.length<=1000) (h:Hp) (n:Nat):Bq [.fp r.a 0,.i .i64 m] h n=some (true,{v:=ue r m,n}):=by
 simp only [Bq,ey,aS,ah (show r.tp.length<=1000000000 by omega)]
theorem asb (r:Rm) (hr:r.is=true) (hg:bC r=true) (m s:Int) (f:Fo) (he:uT r m s f≠0):cL av 67 (.fp r.a 0::w7 m s f) [] 0 (some (eD (uT r m s f))) (.bg []) [] 0:=by
 have hrb:=Rm.al 0 r;have hl:=fk hg;cases hrg:da 0 ((r.ms.length:Int)-1) m&&da 0 ((r.sh.length:Int)-1) s
 ·have e:uT r m s f=2:=by simp only [uT,hrg];rfl
  rw [e];have hs:=iP (P:=av) (by kernel_rfl) (by simp only [ae,AV.al,hrb,az]) rfl (ahB r hg m s hrg)
  have hk:=fun h n=>ru (a0:=[.fp r.a 0,.i .i64 m,.i .i64 s]) (v0:= .bg []) (pn:=some (eD 2)) h n;have hcx:Sound av (bZ [(68,kX _ _ _)]):=Sound.cons hs Sound.nil;generalize kX _ _ _=kk at*;generalize r.a=ra at*;refine cL.dQ hcx mo Tryz.func67 zH (by simp [i67]) (aQ ?_)
  dsimp only [i67];simp only [go_sem,hk,simprocAttr];exact Ends.au rfl rfl
 have hrg':=jB.1 hrg;have hi1:=dD hrg'.1;have hi2:=dD hrg'.2;obtain ⟨x,hx⟩: ∃x,r.sh[s.toNat]? =some x:=⟨_,aY (by omega)⟩
 have hss:=hl.2.2.2.1 x (bR hx);have hxo:x.ok=true:=by
  have h0:=hr;simp only [Rm.is,aw] at h0;exact er.1 h0.2.2.1 x (bR hx)
 have hbl:da 0 18446744073709551615 x.bl=true:=by
  simp only [bu.ok,aw] at hxo;exact hxo.1
 have e:uT r m s f=I4 r m s x f:=by simp only [uT,hrg,cu,hx]
 rw [e] at he ⊢;have hle:(ofM r.tp m).length<=36:=by have:=List.length_filter_le (fun t:Tp=>t.me==m) r.tp;simp only [ofM];omega
 have hE:I4 r m s x f=if pF x m then 421 else if Jf r m s x f then (if (ofM r.tp m).any fun t=>t.sw.ou==f.ou then 2 else if (ofM r.tp m).length<5 then 0 else 3) else 2:=rfl
 have hs1:=dv (P:=av) (by kernel_rfl) (by simp only [ae,AV.al,hrb,az]) rfl (w68 r hg m s hrg)
 have hk1:=fun h n=>gl (a0:=[.fp r.a 0,.i .i64 m,.i .i64 s]) (v0:= .bg [.i .i64 (ek (fx m s) r.tp:Nat),.b (jL (fx m s) r.tp)]) h n;have hw3:=w73 r.tp m f.ou (by omega)
 rw [Fv] at hw3;have hs3:=dv (P:=av) (by kernel_rfl) (by simp only [ae,AV.al,bN (Jj (ff 0 r.tp)),az]) rfl hw3
 have hk3:=fun h n=>gl (a0:=[ue r m,.fn 74 [.fp [.i .i64 f.ou] 0]]) (v0:= .b ((ofM r.tp m).any fun t=>t.sw.ou==f.ou)) h n;have hcx:Sound av (bZ [(62,fZ),(68,kP [.fp r.a 0,.i .i64 m,.i .i64 s] _),(69,Bz),(70,Ff),(71,iF),(72,Bq),(73,kP [ue r m,.fn 74 [.fp [.i .i64 f.ou] 0]] _)]):=Sound.cons x3 (Sound.cons hs1 (Sound.cons s69 (Sound.cons s70 (Sound.cons DO (Sound.cons s72 (Sound.cons hs3 Sound.nil))))));have hk2:=agF r m (by omega)
 have hkb: ∀(h:Hp) n,Bz [.agg x.l,.i .i64 m] h n=some (true,{v:= .b (pF x m),n}):=fun h n=>by
  simp only [Bz,kJ,aS,hbl,jg (show 0<=m/\m<=6 by omega),az]
 have hkn: ∀(h:Hp) n,Ff [.fz (rows aC x.ss) x.ss.length,.i .i64 f.ou,.i .i64 f.st,.agg [.i .i64 0,.i .i64 0,.i .i64 0,.i .i64 0]] h n=some (true,{v:= .bg [.agg (gJ x f).1.a,.i .i64 (gJ x f).2],n}):=fun h n=>by
  simp only [Ff,eE,aS,ah (show 8*x.ss.length<=aE by simp only [aE];omega)]
  rfl
 have hsl:=(eK.1 hx).1;have c2:decide (0<=s/\s<(r.sh.length:Int))=true:=ah (by omega)
 have hrow:List.take 4 (List.drop (s.toNat*4) (rows bu.l r.sh))=x.l:=eo bu.len hx;have g1:r.a[1]? =some (.fz (rows bu.l r.sh) r.sh.length):=rfl;have n1:IntKind.i64.wrap ((x.ss.length:Int)-1)=(x.ss.length:Int)-1:=bS (by omega) (by omega)
 have x4:x.l.length=4:=rfl;have xo:aX x.l=true:=rfl;have xd:List.take 4 (List.drop 0 x.l)=x.l:=rfl;have x1:x.l[1]? =some (.fz (rows aC x.ss) x.ss.length):=rfl;have Hd:(gJ x f).1.a.length=18:=rfl;have wo:aX (gJ x f).1.a=true:=rfl;have wd:List.take 18 (List.drop 0 (gJ x f).1.a)=(gJ x f).1.a:=rfl;have hA:Jf r m s x f=(!jL (fx m s) r.tp&&(da 1 10 f.wt&&(da 0 ((x.ss.length:Int)-1) f.mo&&(gJ x f).2==0))):=rfl;have n2: ∀l:Nat,l<=36->decide ((l:Int)<5)=decide (l<5):=fun l hl=>by rw [iG];simp;omega
 have n3:=n2 _ hle;have hq:ue r m= .fz (rows (mJ (rows Tp.l r.tp)) (dE r.tp m)) (ofM r.tp m).length:=by rw [<-Aa]
 rw [hq] at hk2 hk3 hcx;generalize I4 r m s x f=R at*;generalize Jf r m s x f=A at*;generalize ((ofM r.tp m).any fun t=>t.sw.ou==f.ou)=C at*;generalize kP _ _=q1 at*;generalize kP _ _=q2 at*;generalize Bz=q3 at*;generalize Ff=q4 at*;generalize Bq=q5 at*;generalize (gJ x f).1.a=WA at*;generalize (gJ x f).2=WE at*;generalize ek (fx m s) r.tp=P at*;generalize jL (fx m s) r.tp=Q at*;generalize r.a=ra at*;generalize rows bu.l r.sh=SL at*;generalize rows (mJ (rows Tp.l r.tp)) (dE r.tp m)=PL at*;generalize (ofM r.tp m).length=N at*;generalize x.l=XL at*;refine cL.dQ hcx mo Tryz.func67 zH (by simp [i67]) (aQ ?_)
 dsimp only [i67];cases h1:pF x m;rotate_left
 ·rw [h1,aM rfl] at hE;rw [hE];rw [h1] at hkb;simp only [go_sem,hk1,g1,c2,hrow,x4,xo,xd,hkb,fZ,simprocAttr];exact Ends.au rfl rfl
 rw [h1] at hkb;simp only [h1,cY,bV] at hE;cases h2:Q;rotate_left
 ·rw [h2,fI,eV] at hA;rw [hA] at hE;rw [hE];rw [h2] at hk1;simp only [go_sem,hk1,g1,c2,hrow,x4,xo,xd,hkb,x1,hkn,Hd,wo,wd,fZ,simprocAttr];exact Ends.au rfl rfl
 rw [h2] at hk1;rw [h2,fA,eJ] at hA;cases h3:da 1 10 f.wt
 ·rw [h3,eV] at hA;rw [hA] at hE;rw [hE];simp only [go_sem,hk1,g1,c2,hrow,x4,xo,xd,hkb,x1,hkn,Hd,wo,wd,iF,h3,fZ,simprocAttr];exact Ends.au rfl rfl
 rw [h3,eJ] at hA;cases h4:da 0 ((x.ss.length:Int)-1) f.mo
 ·rw [h4,eV] at hA;rw [hA] at hE;rw [hE];simp only [go_sem,hk1,g1,c2,hrow,x4,xo,xd,hkb,x1,hkn,Hd,wo,wd,iF,h3,n1,h4,fZ,simprocAttr];exact Ends.au rfl rfl
 rw [h4,eJ] at hA;cases h5:WE==0
 ·rw [h5] at hA;rw [hA] at hE;rw [hE];simp only [go_sem,hk1,g1,c2,hrow,x4,xo,xd,hkb,x1,hkn,Hd,wo,wd,iF,h3,n1,h4,h5,fZ,simprocAttr];exact Ends.au rfl rfl
 rw [h5] at hA;rw [hA] at hE;simp only [cu] at hE;cases h6:C;rotate_left
 ·rw [h6,aM rfl] at hE;rw [hE];rw [h6] at hk3;simp only [go_sem,hk1,g1,c2,hrow,x4,xo,xd,hkb,x1,hkn,Hd,wo,wd,iF,h3,n1,h4,h5,fZ,hk2,hk3,simprocAttr];exact Ends.au rfl rfl
 rw [h6] at hk3;simp only [h6,cY,bV] at hE;by_cases h7:N<5
 ·rw [aM h7] at hE;exact absurd hE he
 ·rw [aN h7] at hE;rw [hE];rw [cN h7] at n3;simp only [go_sem,hk1,g1,c2,hrow,x4,xo,xd,hkb,x1,hkn,Hd,wo,wd,iF,h3,n1,h4,h5,fZ,hk2,hk3,n3,simprocAttr];exact Ends.au rfl rfl
structure xG (r:Rm) (m s:Int) (f:Fo) (x:bu):Prop where
 rg:(da 0 ((r.ms.length:Int)-1) m&&da 0 ((r.sh.length:Int)-1) s)=true
 hx:r.sh[s.toNat]? =some x
 br:pF x m=false
 fd:jL (fx m s) r.tp=false
 wt:da 1 10 f.wt=true
 mo:da 0 ((x.ss.length:Int)-1) f.mo=true
 nw:(gJ x f).2=0
 ou:((ofM r.tp m).any fun t=>t.sw.ou==f.ou)=false
 ct:(ofM r.tp m).length<5
theorem abN {r:Rm} {m s:Int} {f:Fo} (he:uT r m s f=0): ∃x,xG r m s f x:=by
 unfold uT at he;split at he
 ·rename_i h1;have hi:=dD (jB.1 h1).2;obtain ⟨x,hx⟩: ∃x,r.sh[s.toNat]? =some x:=⟨_,aY (by omega)⟩
  rw [hx] at he;dsimp only at he;unfold I4 at he;split at he
  ·cases he
  rename_i h2;split at he
  ·rename_i h3;split at he
   ·cases he
   rename_i h4;split at he
   ·rename_i h5;simp only [Jf,aw,iH,lU] at h3;exact ⟨x,h1,hx,by simpa using h2,h3.1,h3.2.1,h3.2.2.1,h3.2.2.2,by simpa using h4,h5⟩
   ·cases he
  ·cases he
 ·cases he
theorem HO {r:Rm} {m s:Int} {f:Fo} {x:bu} (h:xG r m s f x):fO r m s f=⟨r.ms,r.sh,pK r.tp [nc m s x f] (ek (fx m s) r.tp)⟩:=by simp only [fO,h.hx]
theorem SC {x:bu} {f:Fo} (h:(gJ x f).2=0):dL (gJ x f).1=true/\(gJ x f).1.l=x.ss/\(gJ x f).1.wa= -1/\(gJ x f).1.ou=f.ou:=by
 unfold gJ Cj at h ⊢;cases hg:dL ⟨x.ss,f.ou,f.st,-1,-1,0,0,0,0,false,0,0,0,0,0,0,0,0⟩
 ·rw [hg] at h;cases h
 ·rw [cond_true];exact ⟨hg,rfl,rfl,rfl⟩
theorem AH {r:Rm} (hg:bC r=true) {m s:Int} {f:Fo} {x:bu} (h:xG r m s f x):bC (fO r m s f)=true:=by
 rw [HO h,vy (t:=fx m s) (u:=nc m s x f) rfl rfl];obtain ⟨w1,w2,w3,w4⟩:=SC h.nw;have hm:=dD h.mo;refine HU hg ?_ ?_ ?_ h.ct
 ·have h1:=jB.1 h.rg;simp only [lW,nc,h1.1,h1.2,h.hx,h.br,h.wt,h.mo,w1,w2,w3,fA,eJ];simp;omega
 ·exact (J6 (t:=nc m s x f) (u:=fx m s) rfl rfl _).trans h.fd
 ·show ((ofM r.tp m).any fun t=>t.sw.ou==(gJ x f).1.ou)=false;rw [w4];exact h.ou
theorem w67 (r:Rm) (hr:r.is=true) (hg:bC r=true) (m:Nat) (s:Int) (f:Fo) {x:bu} (ho:xG r m s f x):
 bt av 67 (.p 0 0::w7 m s f) [(0,dc r 1),(1,bL r)] 2 (.bg []) [(0,dc (dP (fO r m s f) m) 2),(2,bL (dP (fO r m s f) m))] 3:=by
 have hrb:=Rm.al 0 r;have hl:=fk hg;have hg2:=AH hg ho;have hR:=HO ho;obtain ⟨hrg,hx,hbr,hfd,hwt,hmo,hnw,hou,hct⟩:=ho;have hrg':=jB.1 hrg;have hi1:=dD hrg'.1;have hi2:=dD hrg'.2;have hss:=hl.2.2.2.1 x (bR hx);have hxo:x.ok=true:=by
  have h0:=hr;simp only [Rm.is,aw] at h0;exact er.1 h0.2.2.1 x (bR hx)
 have hbl:da 0 18446744073709551615 x.bl=true:=by
  simp only [bu.ok,aw] at hxo;exact hxo.1
 have hle:(ofM r.tp m).length<=36:=by omega
 have hw1:=w68 r hg m s hrg;rw [hfd] at hw1;have hs1:=dv (P:=av) (by kernel_rfl) (by simp only [ae,AV.al,hrb,az]) rfl hw1
 have hk1:=fun h n h0 h1=>Ek (b:=1) (fun h n=>gl (a0:=[.fp r.a 0,.i .i64 m,.i .i64 s]) (v0:= .bg [.i .i64 (ek (fx m s) r.tp:Nat),.b false]) h n) rfl h n h0 h1;have hk2:=fun h n=>zP r m h n;have hk3:=fun h n h1=>L6 r m f.ou h n h1;rw [hou] at hk3;have hP:=Ax (fx m s) r.tp;obtain ⟨y,hy⟩: ∃y,r.ms[m]? =some y:=⟨_,aY (by omega)⟩
 have hy2:(fO r m s f).ms[m]? =some y:=by rw [hR];exact hy
 have hc:=TU (fO r m s f) m 5 (by decide) hg2 y hy2
 have hkc:=zO (fO r m s f) m 5;have hcx:Sound av (bZ [(62,fZ),(68,bj (kP [.fp r.a 0,.i .i64 m,.i .i64 s] _)),(69,Bz),(70,Ff),(71,iF),(72,uQ r m),(73,Hm r m f.ou),(75,KI),(76,Af (fO r m s f) m 5)]):=Sound.cons x3 (Sound.cons hs1.nv (Sound.cons s69 (Sound.cons s70 (Sound.cons DO (Sound.cons (XJ r m (by omega)) (Sound.cons (aqF r m f.ou (by omega)) (Sound.cons s75 (Sound.cons hc Sound.nil))))))))
 have hkb: ∀(h:Hp) n,Bz [.agg x.l,.i .i64 m] h n=some (true,{v:= .b (pF x m),n}):=fun h n=>by
  simp only [Bz,kJ,aS,hbl,jg (show 0<=(m:Int)/\(m:Int)<=6 by omega),az]
 rw [hbr] at hkb;have hkn: ∀(h:Hp) n,Ff [.fz (rows aC x.ss) x.ss.length,.i .i64 f.ou,.i .i64 f.st,.agg [.i .i64 0,.i .i64 0,.i .i64 0,.i .i64 0]] h n=some (true,{v:= .bg [.agg (gJ x f).1.a,.i .i64 0],n}):=fun h n=>by
  simp only [Ff,eE,aS,ah (show 8*x.ss.length<=aE by simp only [aE];omega)]
  have e:Cj x.ss f.ou f.st 0 0 0 0=((gJ x f).1,0):=oy rfl hnw;rw [e];rfl
 have hsl:=(eK.1 hx).1;have c2:decide (0<=s/\s<(r.sh.length:Int))=true:=ah (by omega)
 have hrow:List.take 4 (List.drop (s.toNat*4) (rows bu.l r.sh))=x.l:=eo bu.len hx;have n1:IntKind.i64.wrap ((x.ss.length:Int)-1)=(x.ss.length:Int)-1:=bS (by omega) (by omega)
 have x4:x.l.length=4:=rfl;have xo:aX x.l=true:=rfl;have xd:List.take 4 (List.drop 0 x.l)=x.l:=rfl;have x1:x.l[1]? =some (.fz (rows aC x.ss) x.ss.length):=rfl;have Hd:(gJ x f).1.a.length=18:=rfl;have wo:aX (gJ x f).1.a=true:=rfl;have wd:List.take 18 (List.drop 0 (gJ x f).1.a)=(gJ x f).1.a:=rfl;have n3:decide (((ofM r.tp m).length:Int)<5)=true:=ah (by omega)
 have hq:j3 r m= .fz (rows qc (dE r.tp m)) (ofM r.tp m).length:=by rw [<-Aa]
 rw [hq] at hk2 hk3;have hT:(nc m s x f).l=[.i .i64 m,.i .i64 s,.i .i64 f.wt,.i .i64 f.mo]++(gJ x f).1.a:=rfl;have hki: ∀(h:Hp) n,ab h 1=some (bL r)->ab h 4=some {cells:=(nc m s x f).l}->KI [.sg 1 0 r.tp.length,.i .i64 (ek (fx m s) r.tp:Nat),.sl 4 0 1 1] h n=some (true,{v:= .sg n 0 (r.tp.length+1),n:=n+1,rd:=[1,4],md:=[(1,none),(4,none)],nw:=[(n,bL (fO r m s f))]}):=fun h n h1 h4=>by
  have zR:(rows Tp.l r.tp).length=r.tp.length*22:=aT Tp.len;have e:List.take (r.tp.length*22) (rows Tp.l r.tp)=rows Tp.l r.tp:=by rw [<-zR,fU]
  have hlT:(nc m s x f).l.length=22:=rfl;have eT:List.take 22 (nc m s x f).l=(nc m s x f).l:=rfl;rw [hR];generalize nc m s x f=T at*;simp [KI,eM,Iv,h1,h4,dV,aA,e,zR,Fy,vO,jM,hlT,eT,sI,inl,bz];exact ⟨hP,by omega⟩
 have e1:dc (fO r m s f) 5={cells:=[.fz (rows Mb.l r.ms) r.ms.length,.fz (rows bu.l r.sh) r.sh.length,.sg 5 0 (r.tp.length+1)]}:=by
  have hln:(pK r.tp [nc m s x f] (ek (fx m s) r.tp)).length=r.tp.length+1:=by rw [(vt _ _ _).length_eq];rfl
  rw [hR];simp only [dc,hln]
 rw [e1] at hkc;have mB:=fun j=>fR j (dP (fO r m s f) m).ms;have sB:=fun j=>di j (dP (fO r m s f) m).sh;have tB:=fun j=>ff j (dP (fO r m s f) m).tp;have mR:=fun g=>jr g (dP (fO r m s f) m).ms;have sR:=fun g=>ef g (dP (fO r m s f) m).sh;have tR:=fun g=>je g (dP (fO r m s f) m).tp;generalize bj (kP _ _)=q1 at*;generalize uQ r m=q2 at*;generalize Hm r m f.ou=q3 at*;generalize Bz=q4 at*;generalize Ff=q5 at*;generalize KI=q6 at*;generalize Af (fO r m s f) m 5=q7 at*;generalize dP (fO r m s f) m=R2 at*;rw [hT] at hki;generalize (gJ x f).1.a=WA at*;generalize ek (fx m s) r.tp=P at*;generalize x.l=XL at*;generalize rows qc (dE r.tp m)=PL at*;generalize (ofM r.tp m).length=N at*;generalize bL (fO r m s f)=LT at*;refine dT hcx Tryz.func67 zH ?_
 dsimp only [i67];simp only [go_sem,hk1,c2,hrow,x4,xo,xd,hkb,x1,hkn,Hd,wo,wd,iF,hwt,n1,hmo,fZ,hk2,hk3,n3,hki,hkc,simprocAttr];exact Ends.R [(2,5)] (by decide) (by decide) rfl rfl (by simp [iy,ab,rn,aW.aH,aL,AV.aH,ae,AV.al,mB,sB,tB,mR,sR,tR,cj])
abbrev zT (r:Rm):aW:={cells:=[.fz (rows Mb.l r.ms) r.ms.length,.fz (rows bu.l r.sh) r.sh.length,.ns]}
theorem as5 (r:Rm) (m:Int):bt av 72 [.p 0 0,.i .i64 m] [(0,zT r)] 1 .ns [(0,zT r)] 1:=by
 have mB:=fun j=>fR j r.ms;have sB:=fun j=>di j r.sh;have mR:=fun g=>jr g r.ms;have sR:=fun g=>ef g r.sh;refine dT (cx:=bZ []) Sound.nil Tryz.func72 Ds ?_
 dsimp only [i72];simp only [go_sem,simprocAttr];refine Loop.rounds (F:=⟨av,bZ [],[14,26],39,1⟩) 1 Sound.nil mo ?_;simp only [go_sem,simprocAttr];exact Ends.R [] (by decide) (by decide) rfl rfl (by simp [iy,ab,rn,aW.aH,aL,AV.aH,ae,AV.al,mB,sB,mR,sR,cj])
noncomputable def LV (r:Rm) (m:Int):Ct:=YN [0] [zT r] [.p 0 0,.i .i64 m] .ns
theorem aus (r:Rm) (m:Int):aq av 72 (LV r m):=
 pf (by kernel_rfl) (by decide) rfl (as5 r m) (by simp [ko,dS,ab,dy,ae,AV.al,fR,di,aG,cj])
theorem KO (r:Rm) (m:Int) (h:Hp) (n:Nat) (h0:ab h 0=some (zT r)):LV r m [.p 0 0,.i .i64 m] h n=some (true,{v:= .ns,n,rd:=[0]}):=by
 refine yX (h:=h) (n:=n) rfl ⟨⟨?_,?_⟩,trivial⟩ rfl
 ·rw [h0];simp [aW.aH,aL,AV.aH,nth,jr,ef]
 ·simp [ae,AV.al,fR,di,aG]
theorem Nv {kT:Ct} {v:AV} {r:Rm} {m s:Int} (ht:r.tp=[]) (hat: ∀h n,kT [.fp r.a 0,.i .i64 m,.i .i64 s] h n=some (true,{v,n})) (hp:v.pl=true) (h:Hp) (n:Nat) (h0:ab h 0=some (zT r)):bj kT [.p 0 0,.i .i64 m,.i .i64 s] h n=some (true,{v,n,rd:=[0]}):=by
 have hf:([AV.fz (rows Mb.l r.ms) r.ms.length,.fz (rows bu.l r.sh) r.sh.length,.fz [] 0]:List AV)=r.a:=by simp only [Rm.a,ht];rfl
 exact mU (by simp only [bn,bQ,iL,jN,wG,h0,dz (fR 0 r.ms),dz (di 0 r.sh),dV,hf,aS,cM,List.nil_append]) (hat [] 0) hp
theorem asL (r:Rm) (hr:r.is=true) (hg:bC r=true) (m:Nat) (s:Int) (f:Fo) {x:bu} (ho:xG r m s f x) (ht:r.tp=[]):
 bt av 67 (.p 0 0::w7 m s f) [(0,zT r)] 1 (.bg []) [(0,dc (dP (fO r m s f) m) 1),(1,bL (dP (fO r m s f) m))] 2:=by
 have hrb:=Rm.al 0 r;have hl:=fk hg;have hg2:=AH hg ho;have hR:=HO ho;obtain ⟨hrg,hx,hbr,hfd,hwt,hmo,hnw,hou,hct⟩:=ho;have hrg':=jB.1 hrg;have hi1:=dD hrg'.1;have hi2:=dD hrg'.2;have hss:=hl.2.2.2.1 x (bR hx);have hxo:x.ok=true:=by
  have h0:=hr;simp only [Rm.is,aw] at h0;exact er.1 h0.2.2.1 x (bR hx)
 have hbl:da 0 18446744073709551615 x.bl=true:=by
  simp only [bu.ok,aw] at hxo;exact hxo.1
 have hle:(ofM r.tp m).length<=36:=by omega
 have hw1:=w68 r hg m s hrg;rw [hfd] at hw1;have hs1:=dv (P:=av) (by kernel_rfl) (by simp only [ae,AV.al,hrb,az]) rfl hw1
 have hk1:=fun h n h0=>Nv ht (fun h n=>gl (a0:=[.fp r.a 0,.i .i64 m,.i .i64 s]) (v0:= .bg [.i .i64 (ek (fx m s) r.tp:Nat),.b false]) h n) rfl h n h0;have hk2:=fun h n=>KO r m h n;have hw3:=w73 [] m f.ou (by decide)
 have hs3:=dv (P:=av) (a0:=[.fz [] 0,.fn 74 [.fp [.i .i64 f.ou] 0]]) (v0:= .b false) (by kernel_rfl) rfl rfl hw3
 have hk3: ∀(h:Hp) n,bj (kP [.fz [] 0,.fn 74 [.fp [.i .i64 f.ou] 0]] (.b false)) [.ns,.fn 74 [.fp [.i .i64 f.ou] 0]] h n=some (true,{v:= .b false,n}):=fun h n=>
  mU (by simp only [bn,bQ,wG,jf,ny (show ae 0 [AV.i .i64 f.ou]=true from rfl),aS,cM,List.nil_append]) (gl [] 0) rfl
 have hP:=Ax (fx m s) r.tp;obtain ⟨y,hy⟩: ∃y,r.ms[m]? =some y:=⟨_,aY (by omega)⟩
 have hy2:(fO r m s f).ms[m]? =some y:=by rw [hR];exact hy
 have hc:=TU (fO r m s f) m 4 (by decide) hg2 y hy2
 have hkc:=zO (fO r m s f) m 4;have hcx:Sound av (bZ [(62,fZ),(68,bj (kP [.fp r.a 0,.i .i64 m,.i .i64 s] _)),(69,Bz),(70,Ff),(71,iF),(72,LV r m),(73,bj (kP [.fz [] 0,.fn 74 [.fp [.i .i64 f.ou] 0]] (.b false))),(75,KI),(76,Af (fO r m s f) m 4)]):=Sound.cons x3 (Sound.cons hs1.nv (Sound.cons s69 (Sound.cons s70 (Sound.cons DO (Sound.cons (aus r m) (Sound.cons hs3.nv (Sound.cons s75 (Sound.cons hc Sound.nil))))))));have hkb: ∀(h:Hp) n,Bz [.agg x.l,.i .i64 m] h n=some (true,{v:= .b (pF x m),n}):=fun h n=>by
  simp only [Bz,kJ,aS,hbl,jg (show 0<=(m:Int)/\(m:Int)<=6 by omega),az]
 rw [hbr] at hkb;have hkn: ∀(h:Hp) n,Ff [.fz (rows aC x.ss) x.ss.length,.i .i64 f.ou,.i .i64 f.st,.agg [.i .i64 0,.i .i64 0,.i .i64 0,.i .i64 0]] h n=some (true,{v:= .bg [.agg (gJ x f).1.a,.i .i64 0],n}):=fun h n=>by
  simp only [Ff,eE,aS,ah (show 8*x.ss.length<=aE by simp only [aE];omega)]
  have e:Cj x.ss f.ou f.st 0 0 0 0=((gJ x f).1,0):=oy rfl hnw;rw [e];rfl
 have hsl:=(eK.1 hx).1;have c2:decide (0<=s/\s<(r.sh.length:Int))=true:=ah (by omega)
 have hrow:List.take 4 (List.drop (s.toNat*4) (rows bu.l r.sh))=x.l:=eo bu.len hx;have n1:IntKind.i64.wrap ((x.ss.length:Int)-1)=(x.ss.length:Int)-1:=bS (by omega) (by omega)
 have x4:x.l.length=4:=rfl;have xo:aX x.l=true:=rfl;have xd:List.take 4 (List.drop 0 x.l)=x.l:=rfl;have x1:x.l[1]? =some (.fz (rows aC x.ss) x.ss.length):=rfl;have Hd:(gJ x f).1.a.length=18:=rfl;have wo:aX (gJ x f).1.a=true:=rfl;have wd:List.take 18 (List.drop 0 (gJ x f).1.a)=(gJ x f).1.a:=rfl;have hP0:ek (fx m s) r.tp=0:=by rw [ht];rfl
 have hT:(nc m s x f).l=[.i .i64 m,.i .i64 s,.i .i64 f.wt,.i .i64 f.mo]++(gJ x f).1.a:=rfl;have hki: ∀(h:Hp) n,ab h 3=some {cells:=(nc m s x f).l}->KI [.ns,.i .i64 (ek (fx m s) r.tp:Nat),.sl 3 0 1 1] h n=some (true,{v:= .sg n 0 1,n:=n+1,rd:=[3],md:=[(3,none)],nw:=[(n,bL (fO r m s f))]}):=fun h n h4=>by
  have hlT:(nc m s x f).l.length=22:=rfl;have eT:List.take 22 (nc m s x f).l=(nc m s x f).l:=rfl;rw [hR,hP0,ht];generalize nc m s x f=T at*;have e0:pK [] [T] 0=[T]:=rfl;simp [KI,eM,h4,dV,aA,vO,jM,hlT,eT,sI,inl,bz,e0]
 have e1:dc (fO r m s f) 4={cells:=[.fz (rows Mb.l r.ms) r.ms.length,.fz (rows bu.l r.sh) r.sh.length,.sg 4 0 1]}:=by
  have hln:(pK r.tp [nc m s x f] (ek (fx m s) r.tp)).length=1:=by rw [(vt _ _ _).length_eq,ht];rfl
  rw [hR];simp only [dc,hln]
 rw [e1] at hkc;have mB:=fun j=>fR j (dP (fO r m s f) m).ms;have sB:=fun j=>di j (dP (fO r m s f) m).sh;have tB:=fun j=>ff j (dP (fO r m s f) m).tp;have mR:=fun g=>jr g (dP (fO r m s f) m).ms;have sR:=fun g=>ef g (dP (fO r m s f) m).sh;have tR:=fun g=>je g (dP (fO r m s f) m).tp;generalize bj (kP _ (.b false))=q3 at*;generalize bj (kP _ _)=q1 at*;generalize LV r m=q2 at*;generalize Bz=q4 at*;generalize Ff=q5 at*;generalize KI=q6 at*;generalize Af (fO r m s f) m 4=q7 at*;generalize dP (fO r m s f) m=R2 at*;rw [hT] at hki;generalize (gJ x f).1.a=WA at*;generalize ek (fx m s) r.tp=P at*;generalize x.l=XL at*;generalize bL (fO r m s f)=LT at*;refine dT hcx Tryz.func67 zH ?_
 dsimp only [i67];simp only [go_sem,hk1,c2,hrow,x4,xo,xd,hkb,x1,hkn,Hd,wo,wd,iF,hwt,n1,hmo,fZ,hk2,hk3,hki,hkc,simprocAttr];exact Ends.R [(1,4)] (by decide) (by decide) rfl rfl (by simp [iy,ab,rn,aW.aH,aL,AV.aH,ae,AV.al,mB,sB,tB,mR,sR,tR,cj])
theorem amg {r:Rm} (ht:r.tp=[]):fP r false false true 1=[(1,zT r)]:=by
 unfold fP l4 mV mH sV tV sH tH;rw [ht];rfl
theorem ai2 (r:Rm) (hr:r.is=true) (hg:bC r=true) (m:Nat) (s:Int) (f:Fo) {x:bu} (ho:xG r m s f x):bt av 135 [.fp r.a 0,.fp [.fn 67 (w7 m s f)] 0] [] 0 (.agg (dP (fO r m s f) m).a) [] 0:=by
 by_cases ht:r.tp=[]
 ·have hk:kH [1] [zT r] (.p 0 0::w7 m s f) (.bg []) [(0,dc (dP (fO r m s f) m) 1),(1,bL (dP (fO r m s f) m))] 2 none (.p 1 0::w7 m s f) (jH r false false true) 5=_:=dt rfl ⟨⟨?_,?_⟩,trivial⟩ rfl
  ·refine Eg (b:=5) hr hg false false true (bY (R:=[1]) (ks:=[zT r]) (by kernel_rfl) (by decide) rfl (asL r hr hg m s f ho ht) (by decide) (by simp [ko,dS,ab,dy,ae,AV.al,fR,di,ff,aG,cj])) (by decide) (by decide) hk rfl ?_ ?_ ?_<;>
    (rw [jH,amg ht];simp [bX.fe,lK,fE,aW.aH,aL,AV.aH,ix,nth,ab,jr,ef,je,jb,ig,nH,aG,cj])
  ·rw [jH,amg ht];simp [ab,aW.aH,aL,AV.aH,nth,jr,ef,cj]
  ·simp [ae,AV.al,fR,di,aG]
 ·exact Rp hr hg ht (by decide) rfl (by kernel_rfl) (.inr ⟨rfl,rfl⟩) (w67 r hr hg m s f ho)
theorem arE (r:Rm) (hr:r.is=true) (m s:Int) (f:Fo):bt av 59 [.agg r.a,.fn 67 (w7 m s f)] [] 0 (jK (jT r m s f)) [] 0:=by
 have hn:=fun h g=>D7 (l:=[m,s,f.ou,f.st,f.wt,f.mo]) h g;cases hg:bC r
 ·have e:jT r m s f=(tn,420):=by simp only [jT,hg];rfl
  rw [e];exact HN r hr hg 67 _ hn rfl
 ·by_cases he:uT r m s f=0
  ·have e:jT r m s f=(dP (fO r m s f) m.toNat,0):=by simp only [jT,hg,he,cu]
   obtain ⟨x,ho⟩:=abN he;have hi:=dD (jB.1 ho.rg).1;have hm:((m.toNat:Nat):Int)=m:=by omega
   rw [e];refine za r 67 _ hn rfl _ (fun h=>absurd rfl h) (fun _=> ?_) (fun h=>absurd rfl h);have:=ai2 r hr hg m.toNat s f (x:=x) (by rw [hm];exact ho)
   rw [hm] at this;exact this
  ·have e:jT r m s f=(tn,uT r m s f):=by simp only [jT,hg,cu,aN he]
   rw [e];refine za r 67 _ hn rfl _ (fun _=>rfl) (fun h=>absurd h he) (fun _=> ?_);exact II hr hg (by decide) rfl (by kernel_rfl) (asb r hr hg m s f he)
theorem w14 (r:Rm) (hr:r.is=true) (m s:Int) (f:Fo):bt av 14 [.agg r.a,.i .i64 m,.i .i64 s,.i .i64 f.wt,.i .i64 f.mo,.i .i64 f.ou,.i .i64 f.st] [] 0 (jK (jT r m s f)) [] 0:=by
 have hb:=iu (jT r m s f);have hrb:=Rm.al 0 r;have hst:=dv (by kernel_rfl) (by simp only [ae,AV.al,hrb,az]) hb (arE r hr m s f)
 have hat:=fun h n=>gl (a0:=[.agg r.a,.fn 67 [.fp [.i .i64 m] 0,.fp [.i .i64 s] 0,.fp [.i .i64 f.ou] 0,.fp [.i .i64 f.st] 0,.fp [.i .i64 f.wt] 0,.fp [.i .i64 f.mo] 0]]) (v0:=jK (jT r m s f)) h n;generalize kP _ _=kT at hst hat;have hv:=fun h f=>jQ h f r;have hk: ∀(h:Hp) n,ab h 1=some {cells:=[.i .i64 m]}->ab h 2=some {cells:=[.i .i64 s]}->ab h 3=some {cells:=[.i .i64 f.wt]}->ab h 4=some {cells:=[.i .i64 f.mo]}->ab h 5=some {cells:=[.i .i64 f.ou]}->ab h 6=some {cells:=[.i .i64 f.st]}->ew kT [.agg r.a,.fn 67 [.p 1 0,.p 2 0,.p 5 0,.p 6 0,.p 3 0,.p 4 0]] h n=some (true,{v:=jK (jT r m s f),n,rd:=[1,2,5,6,3,4],md:=[(1,none),(2,none),(5,none),(6,none),(3,none),(4,none)]}):=fun h n h1 h2 h3 h4 h5 h6=>by
  simp only [ew,bn,bQ,iE,iL,jN,jf,hv,h1,h2,h3,h4,h5,h6,aS,dV,hat,hb,ee,List.nil_append,cM];simp [bX.plain,vO,h1,h2,h3,h4,h5,h6,jM,cj]
 have hcx:Sound av (bZ [(59,ew kT)]):=Sound.cons hst.ng Sound.nil;have a3:r.a.length=3:=rfl;generalize hR:jT r m s f=R at*;obtain ⟨R,e⟩:=R;have a0:R.a.length=3:=rfl;have ao:aX R.a=true:=rfl;have ad:List.take 3 (List.drop 0 R.a)=R.a:=rfl;have ad2:List.take 3 (List.drop 0 r.a)=r.a:=rfl;have hbR:=Rm.al 0 R;simp only [jK] at*;generalize R.a=RA at*;generalize r.a=ra at*;refine dT hcx Tryz.func14 XS ?_
 dsimp only [i14];simp only [go_sem,hk,a3,a0,ao,ad,ad2,simprocAttr];exact Ends.au (by simp only [AV.al,ae,hbR,az]) rfl
def AD:Ct
 |[.agg c,.i .i64 m,.i .i64 s,.i .i64 w,.i .i64 o,.i .i64 ou,.i .i64 st],_,n=>(qy c).bind fun r=>some (r.is,{v:=jK (jT r m s ⟨w,o,ou,st⟩),n})
 |_,_,_=>none
theorem s14:aq av 14 AD:=fun args h n c E hc ht=>by
 unfold AD at hc;split at hc
 ·simp only [af,aP,bq] at hc;obtain ⟨r,hr,rfl,rfl⟩:=hc;rw [eh hr];exact ax.pure (by kernel_rfl) (by simp only [ae,AV.al,Rm.al,az]) (iu _) (w14 r ht _ _ ⟨_,_,_,_⟩) _ _
 ·cases hc
theorem Nb {g0 g1:Nat} (hne:g0≠g1) (a b:List AV):iC [(1,{cells:=a,gid:=some g1}),(0,{cells:=b,gid:=some g0})] g0=some (.p 0 0)/\iC [(1,{cells:=a,gid:=some g1}),(0,{cells:=b,gid:=some g0})] g1=some (.p 1 0):=by
 have b1:g1.beq g0=false:=by
  cases h:g1.beq g0 with
  |false=>rfl
  |true=>exact absurd (dC h).symm hne
 have z1:Nat.beq 1 0=false:=rfl;have z2:Nat.beq 1 1=true:=rfl;have z3:Nat.beq 0 0=true:=rfl;have b2: ∀g:Nat,g.beq g=true:=fun g=>by simp
 constructor<;>simp [iC,vW,ab,b1,b2,z1,z2,z3]
theorem w83 {kx:Ct} (hx:aq av 84 kx) (caps:List AV) (hcaps:ae 0 caps=true) (L:List AV) (m:Nat) (hL:ae 0 L=true) (e:Int) (hz:e≠0->L=[]/\m=0)
 (hv:e=0-> ∀(h:Hp) n,kx caps h n=some (true,{v:= .fz L m,n}))
 (hp:e≠0-> ∀(h:Hp) n,kx caps h n=some (true,{v:= .bg [],n,pn:=some (eD e)})):bt av 83 [.fn 84 caps] [] 0 (.bg [.fz L m,.i .i64 e]) [] 0:=by
 have hcx:Sound av (bZ [(84,kx)]):=Sound.cons hx Sound.nil;have hcb: ∀j,ae j caps=true:=fun j=>aD _ hcaps;refine cL.nU (pn:=none) z7.F2 hcx mo Tryz.func83 ac9 (by simp [i83]) (pre:=Qm) (ops:=[oo 4 (.Co 151 [.t 2,.t 3])]) rfl (by kernel_rfl) Tryz.func151 MF rfl ?_
 dsimp only [i83];simp only [go_sem,tu,simprocAttr];refine jl (caps:=[.p 0 0,.p 1 0]) (bs:=[0,1]) rfl rfl (by decide) (fun Gs h1 h2=> ?_)
 obtain ⟨g0,g1,rfl⟩: ∃a b,Gs=[a,b]:=by
  match Gs,h1 with
  |[a,b],_=>exact ⟨a,b,rfl⟩
 refine ⟨by simp [i151],?_⟩
 have hne:g0≠g1:=by simpa using h2
 have hgl0:=fun a b=>(Nb hne a b).1;have hgl1:=fun a b=>(Nb hne a b).2;dsimp only [nd,ab] at*;by_cases he:e=0
 ·subst he;have hk:=hv rfl;simp only [go_sem,hk,ig,hgl0,hgl1,simprocAttr];dsimp only [i151,eD];simp only [go_sem,simprocAttr];exact bw.ends (Ends.au (by simp only [AV.al,ae,hL,az]) rfl)
 ·have hk:=hp he;obtain ⟨rfl,rfl⟩:=hz he;simp only [go_sem,hk,ig,hgl0,hgl1,simprocAttr];dsimp only [i151,eD];simp only [go_sem,fN,GN,simprocAttr];refine bw.xe (l:=[]) (v':= .bg [.fz [] 0,.i .i64 e]) (dj.bg ⟨dj.hit,dj.refl,trivial⟩) ?_;exact bw.ends (Ends.au rfl rfl)
def lD (r:Rm) (m:Int):Int:=if bC r then (if da 0 ((r.ms.length:Int)-1) m then 0 else 2) else 420
def lB (r:Rm) (m:Int):List Int:=if lD r m=0 then gz r m.toNat else []
abbrev nW (r:Rm) (m:Int):List AV:=[.fp r.a 0,.fp [.i .i64 m] 0]
theorem Aq {r:Rm} (hr:r.is=true) (hg:bC r=false) (h:Hp) (n:Nat):fh false false false [.agg r.a] h n=some (true,{v:= .bg [],n,pn:=some (eD 420)}):=by
 simp only [fh,ey,aS,hr,hg];rfl
theorem rY {r:Rm} (hr:r.is=true) (hg:bC r=true) (h:Hp) (n:Nat):lL [.agg r.a] h n=some (true,{v:= .fp r.a 0,n}):=by
 simp only [lL,ey,aS,hr,hg,az]
theorem arB (r:Rm) (hr:r.is=true) (m:Int) (he:lD r m≠0):cL av 84 (nW r m) [] 0 (some (eD (lD r m))) (.bg []) [] 0:=by
 have a3:r.a.length=3:=rfl;have ad:List.take 3 (List.drop 0 r.a)=r.a:=rfl;cases hg:bC r
 ·have e:lD r m=420:=by simp only [lD,hg];rfl
  rw [e];have hk:=Aq hr hg;have hcx:Sound av (bZ [(85,fh false false false)]):=Sound.cons (DP false false false) Sound.nil;generalize fh false false false=kb at*;dsimp only [nW];generalize r.a=ra at*;refine cL.dQ hcx mo Tryz.func84 y0 (by simp [i84]) (aQ ?_)
  dsimp only [i84];simp only [go_sem,hk,a3,ad,simprocAttr];exact Ends.au rfl rfl
 ·have hi:da 0 ((r.ms.length:Int)-1) m=false:=by
   cases hi:da 0 ((r.ms.length:Int)-1) m
   ·rfl
   ·simp only [lD,hg,hi,cu] at he;exact absurd rfl he
  have e:lD r m=2:=by simp only [lD,hg,hi];rfl
  rw [e];have hk:=rY hr hg;have hcx:Sound av (bZ [(62,fZ),(71,iF),(85,lL)]):=Sound.cons x3 (Sound.cons DO (Sound.cons Dd Sound.nil));have n1:IntKind.i64.wrap ((r.ms.length:Int)-1)=(r.ms.length:Int)-1:=bS (by have:=(fk hg).1;omega) (by have:=(fk hg).1;omega)
  have g0:r.a[0]? =some (.fz (rows Mb.l r.ms) r.ms.length):=rfl;generalize lL=kb at*;dsimp only [nW];generalize r.a=ra at*;refine cL.dQ hcx mo Tryz.func84 y0 (by simp [i84]) (aQ ?_)
  dsimp only [i84];simp only [go_sem,hk,a3,ad,g0,n1,iF,hi,fZ,simprocAttr];exact Ends.au rfl rfl
theorem ase (r:Rm) (hr:r.is=true) (hg:bC r=true) (m:Nat) (hm:m<r.ms.length) (h0:dE r.tp m=[]):bt av 84 (nW r m) [] 0 (.fz [] 0) [] 0:=by
 have hl:=fk hg;obtain ⟨x,hx⟩: ∃x,r.ms[m]? =some x:=⟨_,aY hm⟩;have hs:=dv (P:=av) (by kernel_rfl) (by simp only [ae,AV.al,Rm.al,az]) rfl (aif r m x hx (by omega) (rK hg hm) (sx hg hx) h0)
 have hk2:=fun h n=>gl (a0:=[.fp r.a 0,.i .i64 m]) (v0:= .ze) h n;have hk:=rY hr hg;have hcx:Sound av (bZ [(62,fZ),(71,iF),(85,lL),(86,kP _ _)]):=Sound.cons x3 (Sound.cons DO (Sound.cons Dd (Sound.cons hs Sound.nil)));have n1:IntKind.i64.wrap ((r.ms.length:Int)-1)=(r.ms.length:Int)-1:=bS (by omega) (by omega)
 have hi:da 0 ((r.ms.length:Int)-1) (m:Int)=true:=jg (by omega)
 have g0:r.a[0]? =some (.fz (rows Mb.l r.ms) r.ms.length):=rfl;have a3:r.a.length=3:=rfl;have ad:List.take 3 (List.drop 0 r.a)=r.a:=rfl;generalize kP _ _=kc at*;generalize lL=kb at*;dsimp only [nW];generalize r.a=ra at*;refine bt.dU hcx mo Tryz.func84 y0 (by simp [i84]) (aQ ?_)
 dsimp only [i84];simp only [go_sem,hk,a3,ad,g0,n1,iF,hi,fZ,hk2,simprocAttr];refine bw.asf (l:=[]) (v':= .fz [] 0) dj.hit ?_;exact bw.ends (Ends.au rfl rfl)
noncomputable def Ly (r:Rm) (m:Nat) (c:List Int) (a b:Nat):Ct:=YN [a,b] [dc r 1,bL r] [.p 0 0,.i .i64 m] (.fz (rows aC c) c.length)
theorem asP (r:Rm) (m:Nat) (x:Mb) (hx:r.ms[m]? =some x) (hl:r.tp.length<=1000) (hos:gW (cv r m)=true) (hb:0<=x.es/\x.es<=1073741824) (h0:0<(dE r.tp m).length) {a b:Nat} (hab:a≠b):aq av 86 (Ly r m (gz r m) a b):=by
 have h:=ait r m x hx hl hos hb h0;rw [wV _ hb.1] at h;have e:uH (cv r m) x.es=gz r m:=by simp only [gz,hx,Option.elim]
 rw [e] at h;exact pf (by kernel_rfl) (by have:=bz (n:=b) (b:=a) hab;simp [nodup,inl,this]) rfl h (by simp [ko,dS,ab,dy,ae,AV.al,fR,di,ff,aG,cj])
theorem Ld (r:Rm) (m:Nat) (c:List Int) (a b:Nat) (h:Hp) (n:Nat) (h0:ab h a=some (dc r b)) (h1:ab h b=some (bL r)):
 Ly r m c a b [.p a 0,.i .i64 m] h n=some (true,{v:= .fz (rows aC c) c.length,n,rd:=[a,b]}):=by
 refine yX (h:=h) (n:=n) rfl ⟨⟨?_,?_⟩,⟨?_,?_⟩,trivial⟩ ?_
 ·rw [h0];simp [aW.aH,aL,AV.aH,nth,jr,ef]
 ·simp [ae,AV.al,fR,di,aG]
 ·rw [h1];simp [aW.aH,je]
 ·simp [ff]
 ·simp [AV.aH,iR]
theorem aso (r:Rm) (hr:r.is=true) (hg:bC r=true) (m:Nat) (hm:m<r.ms.length) (h0:0<(dE r.tp m).length):bt av 84 (nW r m) [] 0 (.fz (rows aC (gz r m)) (gz r m).length) [] 0:=by
 have hl:=fk hg;obtain ⟨x,hx⟩: ∃x,r.ms[m]? =some x:=⟨_,aY hm⟩;have hs:=asP r m x hx (by omega) (rK hg hm) (sx hg hx) h0 (a:=0) (b:=3) (by decide)
 have hk2:=fun h n=>Ld r m (gz r m) 0 3 h n;have ht:r.tp≠[]:=fun h=>by rw [h] at h0;exact Nat.lt_irrefl 0 h0
 have hk: ∀(h:Hp),fh false false true [.agg r.a] h 0=some (true,{v:= .p 0 0,n:=4,nw:=[(0,dc r 3),(3,bL r)]}):=fun h=>by
  rw [zy hr hg];have e:=tx (f:=Tp.l) (z:=22) (l:=r.tp) (r9.2 ht);unfold fP l4 mV mH sV tV sH tH;rw [e];rfl
 have hcx:Sound av (bZ [(62,fZ),(71,iF),(85,fh false false true),(86,Ly r m (gz r m) 0 3)]):=Sound.cons x3 (Sound.cons DO (Sound.cons (DP _ _ _) (Sound.cons hs Sound.nil)));have n1:IntKind.i64.wrap ((r.ms.length:Int)-1)=(r.ms.length:Int)-1:=bS (by omega) (by omega)
 have hi:da 0 ((r.ms.length:Int)-1) (m:Int)=true:=jg (by omega)
 have a3:r.a.length=3:=rfl;have ad:List.take 3 (List.drop 0 r.a)=r.a:=rfl;have cB:=iB 0 (gz r m);generalize Ly r m (gz r m) 0 3=kc at*;generalize fh false false true=kb at*;dsimp only [nW];generalize r.a=ra at*;refine dT hcx Tryz.func84 y0 ?_
 dsimp only [i84];simp only [go_sem,hk,a3,ad,n1,iF,hi,fZ,hk2,simprocAttr];exact Ends.au (by simp only [AV.al,cB]) rfl
theorem WX {r:Rm} {m:Nat} (h0:dE r.tp m=[]):gz r m=[]:=by
 have e:cv r m=[]:=by rw [cv,h0];rfl
 rw [gz,e,FR]
theorem w84 (r:Rm) (hr:r.is=true) (m:Int) (he:lD r m=0):bt av 84 (nW r m) [] 0 (.fz (rows aC (lB r m)) (lB r m).length) [] 0:=by
 have e:lB r m=gz r m.toNat:=by simp only [lB,he,cu]
 unfold lD at he;split at he
 ·rename_i hg;split at he
  ·rename_i hi;have hi:=dD hi;have hm:((m.toNat:Nat):Int)=m:=by omega
   rw [e];by_cases h0:dE r.tp m.toNat=[]
   ·have:=ase r hr hg m.toNat (by omega) h0
    rw [hm] at this;rw [WX h0];exact this
   ·have:=aso r hr hg m.toNat (by omega) (r9.2 h0)
    rw [hm] at this;exact this
  ·cases he
 ·cases he
def pP (c:List Int×Int):AV:= .bg [.fz (rows aC c.1) c.1.length,.i .i64 c.2]
theorem sZ (c:List Int×Int):(pP c).al 0=true:=by simp only [pP,AV.al,ae,iB,az]
theorem w20 (r:Rm) (hr:r.is=true) (m:Int):bt av 20 [.agg r.a,.i .i64 m] [] 0 (pP (lB r m,lD r m)) [] 0:=by
 have hrb:=Rm.al 0 r;have hcb:ae 0 (nW r m)=true:=by simp only [ae,AV.al,hrb,az]
 have hw:bt av 83 [.fn 84 (nW r m)] [] 0 (pP (lB r m,lD r m)) [] 0:=by
  by_cases he:lD r m=0
  ·exact w83 (iP (pn:=none) (by kernel_rfl) hcb (by simp only [AV.al,iB]) (w84 r hr m he)) _ hcb _ _ (iB 0 _) _ (fun h=>absurd he h) (fun _ h n=>ru h n) (fun h=>absurd he h)
  ·have e:lB r m=[]:=aN he;rw [e];exact w83 (iP (by kernel_rfl) hcb rfl (arB r hr m he)) _ hcb [] 0 rfl _ (fun _=>⟨rfl,rfl⟩) (fun h=>absurd h he) (fun _ h n=>ru h n)
 have hst:=dv (by kernel_rfl) (by simp only [ae,AV.al,hrb,az]) (sZ (lB r m,lD r m)) hw
 have hat:=fun h n=>gl (a0:=[.fn 84 (nW r m)]) (v0:=pP (lB r m,lD r m)) h n;generalize kP _ _=kT at hst hat;have hv:=fun h f=>jQ h f r;have hb:=sZ (lB r m,lD r m);have hk: ∀(h:Hp) n,ab h 0=some {cells:=r.a}->ab h 1=some {cells:=[.i .i64 m]}->ew kT [.fn 84 [.p 0 0,.p 1 0]] h n=some (true,{v:=pP (lB r m,lD r m),n,rd:=[0,1],md:=[(0,none),(1,none)]}):=fun h n h1 h2=>by
  simp only [ew,bn,bQ,iE,iL,jN,jf,hv,h1,h2,aS,dV,hat,hb,ee,List.nil_append,cM];simp [bX.plain,vO,h1,h2,jM,cj]
 have hcx:Sound av (bZ [(83,ew kT)]):=Sound.cons hst.ng Sound.nil;have a3:r.a.length=3:=rfl;have ao:aX r.a=true:=rfl;have ad:List.take 3 (List.drop 0 r.a)=r.a:=rfl;have iBc:=iB 0 (lB r m);simp only [pP] at*;generalize r.a=ra at*;refine dT hcx Tryz.func20 T2 ?_
 dsimp only [i20];simp only [go_sem,hk,a3,ao,ad,simprocAttr];exact Ends.au (by simp only [AV.al,ae,iBc,az]) rfl
def F3:Ct
 |[.agg c,.i .i64 m],_,n=>(qy c).bind fun r=>some (r.is,{v:=pP (lB r m,lD r m),n})
 |_,_,_=>none
theorem s20:aq av 20 F3:=fun args h n c E hc ht=>by
 unfold F3 at hc;split at hc
 ·simp only [af,aP,bq] at hc;obtain ⟨r,hr,rfl,rfl⟩:=hc;rw [eh hr];exact ax.pure (by kernel_rfl) (by simp only [ae,AV.al,Rm.al,az]) (sZ _) (w20 r ht _) _ _
 ·cases hc
def VR (ss:Int) (x:bu):Bool:=x.ss.any fun y=>ss==y
def mG (sh:List bu) (ss:Int):Int:=x5 (VR ss) sh 0
theorem w64 (x:bu) (p:Md) (hl:x.ss.length<=3):bt av 64 [.agg x.l,.fp p.l 0] [] 0 (.b (VR p.ss x)) [] 0:=by
 have h1:=fun k=>mF (α:=Int) (β:=Bool×bX) (h:=([]:Hp)) (f:=aC) bP (l:=x.ss) (k:=k);have hk: ∀n,QJ [.fz (rows aC x.ss) x.ss.length,.i .i64 p.ss] [(0,{cells:=x.l})] n=some (true,{v:= .b (VR p.ss x),n}):=fun n=>by
  have h1:=fun k=>mF (α:=Int) (β:=Bool×bX) (h:=([(0,{cells:=x.l})]:Hp)) (f:=aC) bP (l:=x.ss) (k:=k);simp only [QJ,h1,eE,aS,ah hl,ie];rfl
 have hcx:Sound av (bZ [(65,QJ)]):=Sound.cons s65 Sound.nil;have g1:x.l[1]? =some (.fz (rows aC x.ss) x.ss.length):=rfl;have g4:p.l[4]? =some (.i .i64 p.ss):=rfl;have x4:x.l.length=4:=rfl;have xo:aX x.l=true:=rfl;generalize VR p.ss x=R at*;generalize QJ=kk at*;generalize x.l=XL at*;generalize p.l=PL at*;refine dT hcx Tryz.func64 Vw ?_
 dsimp only [i64];simp only [go_sem,g1,g4,x4,xo,hk,simprocAttr];exact Ends.au rfl rfl
theorem PW {a b:bu} (h:a.l=b.l):a=b:=by
 have h1:=kJ a;rw [h,kJ b] at h1;exact (Option.some.inj h1).symm
theorem w63 (sh:List bu) (p:Md) (hl:sh.length<=1000) (h3: ∀x∈sh,x.ss.length<=3):bt av 63 [.fz (rows bu.l sh) sh.length,.fn 64 [.fp p.l 0]] [] 0 (.i .i64 (mG sh p.ss)) [] 0:=
 IH (row:=bu.l) (el:=fun x=> .agg x.l) mo Tryz.func63 (by kernel_rfl) (by kernel_rfl) bu.len bu.al (by simp only [ae,AV.al,p.al,az]) (fun _=>rfl) (fun a b h=>by rw [PW (AV.agg.inj h)]) sh (by omega) (fun x hx=>w64 x p (h3 x hx))
theorem YS (h:Hp) (f:Nat) (p:Md):k7 (Go.Ab.nv h f) p.l=some ([],p.l):=by
 have hx:ae 0 (rows wu p.xs)=true:=by
  have:=p.al;simp only [Md.l,ae,AV.al,aw] at this;exact this.2.2.2.2.2.2.1
 simp only [Md.l,bn,bQ,jN,aa0,DN,dz (iB 0 p.cs),dz hx,aS,cM,List.nil_append]
def lM (r:Rm) (p:Md):Int:=if bC r then (if uL p then (if 0<=mG r.sh p.ss then (dec p.pl).2.2 else 4) else 230) else 420
theorem CD {kT:Ct} {r:Rm} {p:Md} {R:Int} (hat: ∀h n,kT [.fz (rows bu.l r.sh) r.sh.length,.fn 64 [.fp p.l 0]] h n=some (true,{v:= .i .i64 R,n})) (b:Nat) (h:Hp) (n:Nat) (h0:ab h b=some {cells:=p.l}):bj kT [.fz (rows bu.l r.sh) r.sh.length,.fn 64 [.p b 0]] h n=some (true,{v:= .i .i64 R,n,rd:=[b]}):=
 mU (by simp only [bn,bQ,jf,iL,dz (di 0 r.sh),h0,YS,dV,aS,cM,List.nil_append]) (hat [] 0) rfl
theorem ash (r:Rm) (hg:bC r=true) (p:Md) (hp:p.fin=true) (he:lM r p≠0):
 cL av 60 [.fp r.a 0,.p 0 0,.p 1 0] [(0,{cells:=p.l}),(1,{cells:=[.ns]})] 2 (some (eD (lM r p))) (.bg []) [(0,{cells:=p.l}),(1,{cells:=[.ns]})] 2:=by
 have hl:=fk hg;have hE:lM r p=if uL p then (if 0<=mG r.sh p.ss then (dec p.pl).2.2 else 4) else 230:=by simp only [lM,hg,cu]
 have hs3:=dv (P:=av) (by kernel_rfl) (by simp only [ae,AV.al,di,p.al,az]) rfl (w63 r.sh p (by omega) (fun x hx=>(hl.2.2.2.1 x hx).1))
 have hk3:=fun h n h0=>CD (fun h n=>gl (a0:=[.fz (rows bu.l r.sh) r.sh.length,.fn 64 [.fp p.l 0]]) (v0:= .i .i64 (mG r.sh p.ss)) h n) 0 h n h0;have hk1: ∀(h:Hp) n,Ai [.agg p.l] h n=some (true,{v:= .i .i64 (if uL p then 0 else 230),n}):=fun h n=>by simp only [Ai,xS,aS,hp]
 have hk6: ∀(h:Hp) n,Cm [.s p.pl] h n=some (true,{v:=xq (dec p.pl),n}):=fun h n=>rfl;have hcx:Sound av (bZ [(61,Ai),(62,fZ),(63,bj (kP _ _)),(66,Cm)]):=Sound.cons s61 (Sound.cons x3 (Sound.cons hs3.nv (Sound.cons s66 Sound.nil)));have g1:r.a[1]? =some (.fz (rows bu.l r.sh) r.sh.length):=rfl;have g8:p.l[8]? =some (.s p.pl):=rfl;have p9:p.l.length=9:=rfl;have pd:List.take 9 (List.drop 0 p.l)=p.l:=rfl;have pB:=fun j=>aD (m:=j) _ p.al;have pR:=fun g=>aU (ψ:=g) _ p.al;generalize bj (kP _ _)=q3 at*;generalize Ai=q1 at*;generalize Cm=q6 at*;generalize lM r p=R at*;have hd:xq (dec p.pl)= .bg [.agg (dec p.pl).1.l,.s (dec p.pl).2.1,.i .i64 (dec p.pl).2.2]:=rfl;rw [hd] at hk6;generalize (dec p.pl).1.l=D1 at*;generalize (dec p.pl).2.1=D2 at*;generalize (dec p.pl).2.2=D3 at*;generalize mG r.sh p.ss=S at*;generalize r.a=ra at*;generalize p.l=PL at*;refine cL.dQ hcx mo Tryz.func60 DV (by simp [i60]) (aQ ?_)
 dsimp only [i60];cases h1:uL p
 ·rw [h1] at hE hk1;rw [hE];simp only [cY,bV] at hk1 ⊢;simp only [go_sem,p9,pd,hk1,fZ,simprocAttr];exact Ends.R [] (by decide) (by decide) rfl rfl (by simp [iy,ab,rn,aW.aH,aL,AV.aH,ae,AV.al,pB,pR,cj])
 rw [h1] at hE hk1;simp only [cu] at hE hk1;cases h2:decide (0<=S)
 ·rw [aN (ob h2)] at hE;rw [hE];simp only [go_sem,p9,pd,hk1,fZ,g1,hk3,h2,ge_iff_le,simprocAttr];exact Ends.R [] (by decide) (by decide) rfl rfl (by simp [iy,ab,rn,aW.aH,aL,AV.aH,ae,AV.al,pB,pR,cj])
 rw [aM (bO h2)] at hE;have h3:(D3==0)=false:=by rw [wT];rw [hE] at he;exact he
 rw [hE];simp only [go_sem,p9,pd,hk1,fZ,g1,hk3,h2,ge_iff_le,g8,hk6,h3,simprocAttr];exact Ends.R [] (by decide) (by decide) rfl rfl (by simp [iy,ab,rn,aW.aH,aL,AV.aH,ae,AV.al,pB,pR,cj])
theorem aqR (r:Rm) (hg:bC r=true) (p:Md) (hp:p.fin=true) (he:lM r p=0) (ht:r.tp=[]):
 bt av 60 [.fp r.a 0,.p 0 0,.p 1 0] [(0,{cells:=p.l}),(1,{cells:=[.ns]})] 2 (.bg []) [(0,{cells:=p.l}),(1,{cells:=[.ns]})] 2:=by
 have hl:=fk hg;have hE:lM r p=if uL p then (if 0<=mG r.sh p.ss then (dec p.pl).2.2 else 4) else 230:=by simp only [lM,hg,cu]
 have hs3:=dv (P:=av) (by kernel_rfl) (by simp only [ae,AV.al,di,p.al,az]) rfl (w63 r.sh p (by omega) (fun x hx=>(hl.2.2.2.1 x hx).1))
 have hk3:=fun h n h0=>CD (fun h n=>gl (a0:=[.fz (rows bu.l r.sh) r.sh.length,.fn 64 [.fp p.l 0]]) (v0:= .i .i64 (mG r.sh p.ss)) h n) 0 h n h0;have hk1: ∀(h:Hp) n,Ai [.agg p.l] h n=some (true,{v:= .i .i64 (if uL p then 0 else 230),n}):=fun h n=>by simp only [Ai,xS,aS,hp]
 have hk6: ∀(h:Hp) n,Cm [.s p.pl] h n=some (true,{v:=xq (dec p.pl),n}):=fun h n=>rfl;have hcx:Sound av (bZ [(61,Ai),(62,fZ),(63,bj (kP _ _)),(66,Cm)]):=Sound.cons s61 (Sound.cons x3 (Sound.cons hs3.nv (Sound.cons s66 Sound.nil)));have g1:r.a[1]? =some (.fz (rows bu.l r.sh) r.sh.length):=rfl;have g2:r.a[2]? =some (.fz [] 0):=by simp only [Rm.a,ht];rfl
 have g8:p.l[8]? =some (.s p.pl):=rfl;have p9:p.l.length=9:=rfl;have pd:List.take 9 (List.drop 0 p.l)=p.l:=rfl;have pB:=fun j=>aD (m:=j) _ p.al;have pR:=fun g=>aU (ψ:=g) _ p.al;generalize bj (kP _ _)=q3 at*;generalize Ai=q1 at*;generalize Cm=q6 at*;rw [hE] at he;have hd:xq (dec p.pl)= .bg [.agg (dec p.pl).1.l,.s (dec p.pl).2.1,.i .i64 (dec p.pl).2.2]:=rfl;rw [hd] at hk6;have h1:uL p=true:=by
  cases h1:uL p
  ·rw [h1] at he;cases he
  ·rfl
 rw [h1] at hk1 he;simp only [cu] at hk1 he;have h2:decide (0<=mG r.sh p.ss)=true:=by
  rw [aV];by_cases h2:0<=mG r.sh p.ss
  ·exact h2
  ·rw [aN h2] at he;cases he
 rw [aM (bO h2)] at he;rw [he] at hk6;generalize (dec p.pl).1.l=D1 at*;generalize (dec p.pl).2.1=D2 at*;generalize mG r.sh p.ss=S at*;generalize r.a=ra at*;generalize p.l=PL at*;refine dT hcx Tryz.func60 DV ?_
 dsimp only [i60];simp only [go_sem,p9,pd,hk1,fZ,g1,g2,hk3,h2,ge_iff_le,g8,hk6,simprocAttr];refine Loop.rounds (F:=⟨av,bZ [(61,q1),(62,fZ),(63,q3),(66,q6)],[47,61,83],97,2⟩) 1 hcx mo ?_;simp only [go_sem,simprocAttr];exact Ends.R [] (by decide) (by decide) rfl rfl (by simp [iy,ab,rn,aW.aH,aL,AV.aH,ae,AV.al,pB,pR,cj])
structure Og where
 me:Int
 p:Md
def Og.l (o:Og):List AV:= .i .i64 o.me::o.p.l
theorem Og.len: ∀o:Og,o.l.length=10:=fun _=>rfl
theorem Og.al: ∀o:Og,ae 0 o.l=true:=fun o=>by simp only [Og.l,ae,AV.al,o.p.al,az]
theorem Og.one: ∀o:Og,aX o.l=true:=fun _=>rfl
theorem ogB (j:Nat) (l:List Og):ae j (rows Og.l l)=true:=aD _ (bN Og.al)
theorem ogR (ψ:Nat->Nat) (l:List Og):aL ψ (rows Og.l l)=rows Og.l l:=aU _ (bN Og.al)
def puT (k:Int) (p:Md) (t:Tp):Tp:=if t.sh=k then {t with sw:=(fi t.sw p).1} else t
def Z0 (k:Int) (p:Md) (t:Tp):List Og:=if t.sh=k then (fi t.sw p).2.1.map (Og.mk t.me) else []
def pM (r:Rm) (p:Md):Rm:=⟨r.ms,r.sh,r.tp.map (puT (mG r.sh p.ss) p)⟩
def Am (r:Rm) (p:Md):List Og:=r.tp.flatMap (Z0 (mG r.sh p.ss) p)
theorem Ey (s:Sw) (p:Md):(fi s p).2.1=[]\/ ∃q,(fi s p).2.1=[q]:=by
 unfold fi;cases dL s
 ·exact .inl rfl
 cases uL p
 ·exact .inl rfl
 cases decide (uZ s.l p.ss<0);rotate_left
 ·exact .inl rfl
 cases (dec p.pl).2.2==0
 ·exact .inl rfl
 show (mi s _ p _).2=[]\/ ∃q,(mi s _ p _).2=[q];unfold mi;cases wg _ _ _
 ·exact .inl rfl
 cases nY _ _
 ·exact .inr ⟨_,rfl⟩
 ·exact .inl rfl
theorem ajI {r:Rm} (hg:bC r=true) {p:Md} (he:lM r p=0) {t:Tp} (ht:t∈r.tp) (hk:t.sh=mG r.sh p.ss):(fi t.sw p).2.2=0/\dL t.sw=true:=by
 have hE:lM r p=if uL p then (if 0<=mG r.sh p.ss then (dec p.pl).2.2 else 4) else 230:=by simp only [lM,hg,cu]
 rw [hE] at he;split at he
 ·rename_i h1;split at he
  ·rename_i h2;obtain ⟨i,hi⟩:=vT ht;obtain ⟨_,s,hs,_,_,_,hw,hl,_⟩:=vp (vv hg hi);rw [hk] at hs;refine ⟨?_,hw⟩;have hix:uZ t.sw.l p.ss<0↔False:=by
    refine iff_false_intro fun hn=> ?_;have h3:=HT t.sw.l p.ss;rw [cN (by omega),hl] at h3
    rcases BT (p:=VR p.ss) r.sh 0 (Int.le_refl 0) with h4|⟨k,hk1,hk2,_,a,ha,hb⟩
    ·rw [mG,h4] at h2;omega
    ·have e:(mG r.sh p.ss).toNat=k:=by rw [mG,hk2];omega
     rw [e,ha] at hs;cases hs;rw [VR] at hb;rw [hb] at h3;cases h3
   simp only [fi,hw,h1,he,cN (fun h=>hix.1 h),cond_true,cond_false,ql]
  ·cases he
 ·cases he
theorem B9 (q:List Og):(gQ Og.l 10 q).plain=true:=(tE (f:=Og.l) Og.al Og.len q).pl
def Ha (k:Int) (p:Md) (tp:List Tp) (i:Nat):List Tp:=(tp.take i).map (puT k p)++tp.drop i
def Rc (k:Int) (p:Md) (tp:List Tp) (i:Nat):List Og:=(tp.take i).flatMap (Z0 k p)
theorem OY (k:Int) (p:Md) (tp:List Tp) (i:Nat) (hi:i<=tp.length):(Ha k p tp i).length=tp.length:=by
 simp only [Ha,dN,iX,gO,qi];omega
theorem ZN {k:Int} {p:Md} {tp:List Tp} {i:Nat} {t:Tp} (h:tp[i]? =some t):(Ha k p tp i)[i]? =some t/\Ha k p tp (i+1)=(Ha k p tp i).set i (puT k p t):=by
 obtain ⟨hi,he⟩:=eK.1 h;have hl:((tp.take i).map (puT k p)).length=i:=by rw [iX,gO];omega
 constructor
 ·rw [Ha,v8 (by omega),hl,sF,iq];exact h
 ·unfold Ha;rw [List.set_append_right _ _ (by omega),hl,sF,kW hi,List.set_cons_zero,jz,h,Bs,List.map_append]
  simp
theorem ao3 {k:Int} {p:Md} {tp:List Tp} {i:Nat} {t:Tp} (h:tp[i]? =some t):Rc k p tp (i+1)=Rc k p tp i++Z0 k p t:=by
 unfold Rc;rw [jz,h,Bs,List.flatMap_append];simp
theorem VA {x:Nat} (q:List Og):zo (nz ((gQ Og.l 10 q).bl 4)) ((gQ Og.l 10 q).bl 4++[x])=true:=by
 unfold gQ;split<;>rfl
theorem ac5 {a b c:aW} {r:Hp} (q:List Og):AW ((7,a)::(6,b)::(5,c)::((gQ Og.l 10 q).h 4++r)) (nz ((gQ Og.l 10 q).bl 4))=true:=by
 unfold gQ;split<;>rfl
theorem w60 (r:Rm) (hg:bC r=true) (p:Md) (hp:p.fin=true) (hpl:p.pl.length<=1000000000) (he:lM r p=0) (ht:r.tp≠[]):
 bt av 60 [.p 0 0,.p 1 0,.p 2 0] [(0,dc r 3),(1,{cells:=p.l}),(2,{cells:=[.ns]}),(3,bL r)] 4 (.bg []) [(0,dc (pM r p) 3),(2,{cells:=[.fz (rows Og.l (Am r p)) (Am r p).length]}),(3,bL (pM r p))] 4:=by
 have hl:=fk hg;have hE:lM r p=if uL p then (if 0<=mG r.sh p.ss then (dec p.pl).2.2 else 4) else 230:=by simp only [lM,hg,cu]
 have hpo:=fun t ht=>ajI hg he (t:=t) ht;have hs3:=dv (P:=av) (by kernel_rfl) (by simp only [ae,AV.al,di,p.al,az]) rfl (w63 r.sh p (by omega) (fun x hx=>(hl.2.2.2.1 x hx).1))
 have hk3:=fun h n h0=>CD (fun h n=>gl (a0:=[.fz (rows bu.l r.sh) r.sh.length,.fn 64 [.fp p.l 0]]) (v0:= .i .i64 (mG r.sh p.ss)) h n) 1 h n h0;have hk1: ∀(h:Hp) n,Ai [.agg p.l] h n=some (true,{v:= .i .i64 (if uL p then 0 else 230),n}):=fun h n=>by simp only [Ai,xS,aS,hp]
 have hk6: ∀(h:Hp) n,Cm [.s p.pl] h n=some (true,{v:=xq (dec p.pl),n}):=fun h n=>rfl;have hk5: ∀(t:Tp) (h:Hp) n,t∈r.tp->t.sh=mG r.sh p.ss->k50 [.agg t.sw.a,.agg p.l] h n=some (true,{v:= .bg [.agg (fi t.sw p).1.a,.fz (rows Md.l (fi t.sw p).2.1) (fi t.sw p).2.1.length,.i .i64 0],n}):=fun t h n h1 h2=>by
  obtain ⟨e,hw⟩:=hpo t h1 h2;have hlen:=n9 hw;have c:Cc t.sw p=true:=by simp only [Cc,ah (show t.sw.l.length<=9223372036854775807 by omega),hp,ah hpl,az]
  have ev:p7 (fi t.sw p)= .bg [.agg (fi t.sw p).1.a,.fz (rows Md.l (fi t.sw p).2.1) (fi t.sw p).2.1.length,.i .i64 0]:=by rw [p7,e]
  simp only [k50,lQ,xS,aS,c,ev]
 have hcx:Sound av (bZ [(50,k50),(61,Ai),(62,fZ),(63,bj (kP _ _)),(66,Cm)]):=Sound.cons s50 (Sound.cons s61 (Sound.cons x3 (Sound.cons hs3.nv (Sound.cons s66 Sound.nil))));have g8:p.l[8]? =some (.s p.pl):=rfl;have p9:p.l.length=9:=rfl;have po:aX p.l=true:=rfl;have pd:List.take 9 (List.drop 0 p.l)=p.l:=rfl;have pB:=fun j=>aD (m:=j) _ p.al;have pR:=fun g=>aU (ψ:=g) _ p.al;generalize bj (kP _ _)=q3 at*;generalize Ai=q1 at*;generalize Cm=q6 at*;generalize k50=q5 at*;rw [hE] at he;have hd:xq (dec p.pl)= .bg [.agg (dec p.pl).1.l,.s (dec p.pl).2.1,.i .i64 (dec p.pl).2.2]:=rfl;rw [hd] at hk6;have h1:uL p=true:=by
  cases h1:uL p
  ·rw [h1] at he;cases he
  ·rfl
 rw [h1] at hk1 he;simp only [cu] at hk1 he;have h2:decide (0<=mG r.sh p.ss)=true:=by
  rw [aV];by_cases h2:0<=mG r.sh p.ss
  ·exact h2
  ·rw [aN h2] at he;cases he
 rw [aM (bO h2)] at he;rw [he] at hk6;have eR:pM r p=⟨r.ms,r.sh,Ha (mG r.sh p.ss) p r.tp r.tp.length⟩:=by simp [pM,Ha]
 have eL:Am r p=Rc (mG r.sh p.ss) p r.tp r.tp.length:=by simp [Am,Rc]
 have hW0:rows Tp.l r.tp=rows Tp.l (Ha (mG r.sh p.ss) p r.tp 0):=by simp [Ha]
 have hQ0:Rc (mG r.sh p.ss) p r.tp 0=[]:=rfl;have hWl:=fun i hi=>OY (mG r.sh p.ss) p r.tp i hi;have hWa:=fun i t h=>ZN (k:=mG r.sh p.ss) (p:=p) (tp:=r.tp) (i:=i) (t:=t) h;have hQs:=fun i t h=>ao3 (k:=mG r.sh p.ss) (p:=p) (tp:=r.tp) (i:=i) (t:=t) h;have hmem: ∀i t,r.tp[i]? =some t->t∈r.tp:=fun i t h=>bR h;have hQl: ∀i,i<=r.tp.length->(Rc (mG r.sh p.ss) p r.tp i).length<=i:=fun i=>by
  induction i with
  |zero=>intro _;exact bx 0
  |succ i ih=>
   intro hi;obtain ⟨t,ht⟩: ∃t,r.tp[i]? =some t:=⟨_,aY (by omega)⟩
   rw [hQs i t ht,dN];have:=ih (by omega)
   have:(Z0 (mG r.sh p.ss) p t).length<=1:=by
    unfold Z0;split
    ·rcases Ey t.sw p with e|⟨q,e⟩<;>rw [e]<;>simp
    ·simp
   omega
 rw [eR,eL];dsimp only [dc,bL];rw [hWl _ (bx _),hW0];have mB:=fun j=>fR j r.ms;have sB:=fun j=>di j r.sh;have mR:=fun g=>jr g r.ms;have sR:=fun g=>ef g r.sh;generalize Ha (mG r.sh p.ss) p r.tp=W at*;generalize Rc (mG r.sh p.ss) p r.tp=Q at*;generalize hS:mG r.sh p.ss=S at*;generalize (dec p.pl).1.l=D1 at*;generalize (dec p.pl).2.1=D2 at*;generalize rows Mb.l r.ms=ML at*;generalize rows bu.l r.sh=SL at*;generalize hPL:p.l=PL at*;refine bt.dU hcx mo Tryz.func60 DV (by simp [i60]) (aQ ?_)
 dsimp only [i60];simp only [go_sem,p9,pd,hk1,fZ,hk3,h2,ge_iff_le,g8,hk6,simprocAttr];have h36:=hl.2.2.1;refine Loop.uE (F:=⟨av,bZ [(50,q5),(61,q1),(62,fZ),(63,q3),(66,q6)],[47,61,83],97,4⟩) hcx mo (X:=Nat) (fun k=>k<=r.tp.length) (fun k=>r.tp.length-k)
  (fun k=>[(0,.p 0 0),(1,.p 1 0),(2,.p 2 0),(5,.i .i64 S),(45,.i .i64 (r.tp.length:Int)),(46,.i .i64 (k:Int))])
  (fun k=>(gQ Og.l 10 (Q k)).h 4++[(0,{cells:=[.fz ML r.ms.length,.fz SL r.sh.length,.sg 3 0 r.tp.length]}),(1,{cells:=PL}),(2,{cells:=[(gQ Og.l 10 (Q k)).v 4]}),(3,{cells:=rows Tp.l (W k),gr:=some 22})]) 5 0 (fun k=>k+1) []
  (fun k=>if (Q (k+1)).length=(Q k).length then [] else [(4,8)]) (show 4<=5 by decide) rfl (fun k=>by split<;>rfl) (eB _) ?_ ?_ (fun k hk=> ?_)
 ·simp only [go_sem,AV.aH,aL,AV.al,ae,aG,simprocAttr]
 ·rw [hQ0,tA];simp only [go_sem,AV.aH,aL,AV.al,ae,aG,aW.aH,mB,sB,mR,sR,ff,je,pB,pR,simprocAttr]
 by_cases hlt:k<r.tp.length
 rotate_left
 ·have c1:decide ((k:Int)<(r.tp.length:Int))=false:=cN (by omega)
  obtain rfl:k=r.tp.length:=by omega
  simp only [go_sem,c1,simprocAttr];refine bw.Zt (f:=Og.l) (z:=10) (l:=Q r.tp.length) (b:=4) (v':= .bg []) (h':=[(0,{cells:=[.fz ML r.ms.length,.fz SL r.sh.length,.sg 3 0 r.tp.length]}),(2,{cells:=[.fz (rows Og.l (Q r.tp.length)) (Q r.tp.length).length]}),(3,{cells:=rows Tp.l (W r.tp.length),gr:=some 22})]) (by rw [r8];trivial) dj.refl ?_ ?_
  ·have hg4: ∀c,c≠4-> ∀R:Hp,ab ((gQ Og.l 10 (Q r.tp.length)).h 4++R) c=ab R c:=fun c hc R=>xC (t:=gQ Og.l 10 (Q r.tp.length)) (fun h=>hc h.symm);exact ⟨⟨by decide,{cells:=[.fz ML r.ms.length,.fz SL r.sh.length,.sg 3 0 r.tp.length]},(hg4 0 (by decide) _).trans rfl,rfl,rfl,rfl,gE.refl⟩,⟨by decide,{cells:=[(gQ Og.l 10 (Q r.tp.length)).v 4]},(hg4 2 (by decide) _).trans rfl,rfl,rfl,rfl,dj.hit,trivial⟩,⟨by decide,{cells:=rows Tp.l (W r.tp.length),gr:=some 22},(hg4 3 (by decide) _).trans rfl,rfl,rfl,rfl,gE.refl⟩,trivial⟩
  ·exact bw.ends (Ends.R [] (by decide) (by decide) rfl rfl (by simp [iy,ab,rn,aW.aH,aL,AV.aH,ae,AV.al,mB,sB,ff,mR,sR,je,ogB,ogR,cj]))
 have c1:decide ((k:Int)<(r.tp.length:Int))=true:=ah (by omega)
 have c2:decide (0<=(k:Int)/\(k:Int)<(r.tp.length:Int))=true:=ah (by omega)
 have hw:IntKind.i64.wrap ((k:Int)+1)=((k+1:Nat):Int):=by rw [bS (by omega) (by omega)];omega
 obtain ⟨t,ht'⟩: ∃t,r.tp[k]? =some t:=⟨_,aY hlt⟩;obtain ⟨hWk,hW1⟩:=hWa k t ht';have hQ1:=hQs k t ht';have hql:=hQl k hk;have hsk:r.tp.length-(k+1)<r.tp.length-k:=by omega
 have hsh:(rows Tp.l (W k))[k*22+1]? =some (.i .i64 t.sh):=cn (f:=Tp.l) (z:=22) (j:=1) (v:= .i .i64 t.sh) Tp.len hWk rfl;have pk:=B9 (Q k);have zR:(rows Og.l (Q k)).length=(Q k).length*10:=aT Og.len;by_cases hs:t.sh=S
 rotate_left
 ·have e1:W (k+1)=W k:=by
   rw [hW1,puT,aN hs];exact lH fun i=>by
    rw [yr];split
    ·rename_i h;subst h;split<;>simp_all
    ·rfl
  have e2:Q (k+1)=Q k:=by rw [hQ1,Z0,aN hs,cM]
  have c3:(t.sh !=S)=true:=by simpa using hs
  rw [e1,e2,aM rfl];have tB:=ff 5 (W k);have tR:=je (rn []) (W k);generalize rows Tp.l (W k)=TL at*;simp only [go_sem,c1,c2,hw,hsh,c3,hsk,hlt,pk,AV.aH,aL,AV.al,ae,aG,aW.aH,mB,sB,mR,sR,tB,tR,pB,pR,simprocAttr];exact hlt
 have c3:(t.sh !=S)=false:=by simpa using hs
 have hk5:=fun h n=>hk5 t h n (hmem k t ht') hs;have gs:=BK hWk;have gm0:(rows Tp.l (W k))[k*22]? =some (.i .i64 t.me):=by
  have:=cn (f:=Tp.l) (z:=22) (j:=0) (v:= .i .i64 t.me) Tp.len hWk rfl;simpa using this
 have sp:=E1 hWk (fi t.sw p).1;have hln:(rows Tp.l (W k)).length=(W k).length*22:=aT Tp.len;have hwl:=hWl k hk;have le1:decide (k*22+4+18<=(rows Tp.l (W k)).length)=true:=ah (by omega)
 have le2:t.sw.a.length=18:=rfl;have ls:(fi t.sw p).1.a.length=18:=rfl;have lo:aX (fi t.sw p).1.a=true:=rfl;have ld:List.take 18 (List.drop 0 (fi t.sw p).1.a)=(fi t.sw p).1.a:=rfl;have lb:=fun j=>Sw.al j (fi t.sw p).1;have lr:=fun g=>aU (ψ:=g) _ (Sw.al 0 (fi t.sw p).1);have eP:puT S p t={t with sw:=(fi t.sw p).1}:=aM hs
 have eO:Z0 S p t=(fi t.sw p).2.1.map (Og.mk t.me):=aM hs;rw [eP] at hW1;rw [eO] at hQ1;have tB:=ff 5 (W (k+1));have tR:=je (rn []) (W (k+1));have tR2:=je (rn [(4,8)]) (W (k+1));rw [<-hW1] at sp;rcases Ey t.sw p with e|⟨q,e⟩
 ·rw [e] at hk5 hQ1;have e2:Q (k+1)=Q k:=by rw [hQ1,List.map_nil,cM]
  rw [e2,aM rfl];generalize (fi t.sw p).1.a=SA at*;generalize t.sw.a=SO at*;generalize rows Tp.l (W k)=TL at*;generalize rows Tp.l (W (k+1))=TM at*;simp only [go_sem,c1,c2,hw,hsh,c3,gs,hk5,p9,pd,le1,le2,ls,lo,ld,sp,fZ,simprocAttr];refine Loop.rounds (F:=⟨av,bZ [(50,q5),(61,q1),(62,fZ),(63,q3),(66,q6)],[47,61,83],97,4⟩) 1 hcx mo ?_;simp only [go_sem,hw,hsk,hlt,pk,AV.aH,aL,AV.al,ae,aG,aW.aH,mB,sB,mR,sR,tB,tR,pB,pR,simprocAttr];exact hlt
 ·rw [e] at hk5 hQ1;have hQ1:Q (k+1)=Q k++[⟨t.me,q⟩]:=hQ1;have hne: ¬(Q (k+1)).length=(Q k).length:=by rw [hQ1,dN,nG];omega
  have pk':=B9 (Q k++[⟨t.me,q⟩]);rw [aN hne,hQ1];rw [rp] at pk' ⊢;have gm:decide (120*((Q k).length+1)<=aE)=true:=ah (by simp only [aE];omega)
  have Ml:rows Md.l [q]=q.l:=by simp [rows]
  rw [Ml] at hk5;have q9:q.l.length=9:=rfl;have qo:aX q.l=true:=rfl;have qd:List.take 9 (List.drop 0 q.l)=q.l:=rfl;have qz:List.take 9 (List.drop (0*9) q.l)=q.l:=rfl;have qt:List.take 9 q.l=q.l:=rfl;have eOg:Og.l ⟨t.me,q⟩= .i .i64 t.me::q.l:=rfl;have qB:=fun j=>aD (m:=j) _ q.al;have qR:=fun g=>aU (ψ:=g) _ q.al;simp only [eOg] at pk' ⊢;have gm1:(rows Tp.l (W (k+1)))[k*22]? =some (.i .i64 t.me):=by
   rw [hW1];have:=cn (f:=Tp.l) (z:=22) (j:=0) (v:= .i .i64 t.me) (k:=k) (l:=(W k).set k {t with sw:=(fi t.sw p).1}) (a:={t with sw:=(fi t.sw p).1}) Tp.len (by rw [List.getElem?_set_self (by omega)]) rfl
   simpa using this
  generalize (fi t.sw p).1.a=SA at*;generalize t.sw.a=SO at*;generalize q.l=QL at*;generalize Q k=QQ at*;generalize rows Tp.l (W k)=TL at*;generalize rows Tp.l (W (k+1))=TM at*;simp only [go_sem,c1,c2,hw,hsh,c3,gs,hk5,p9,pd,le1,le2,ls,lo,ld,sp,fZ,simprocAttr];refine Loop.rounds (F:=⟨av,bZ [(50,q5),(61,q1),(62,fZ),(63,q3),(66,q6)],[47,61,83],97,4⟩) 2 hcx mo ?_;simp only [go_sem,qd,qz,qt,q9,qo,gm1,gm,zR,pk,pk',eOg,hw,hsk,hlt,AV.aH,aL,AV.al,ae,aG,aW.aH,mB,sB,mR,sR,tB,tR2,pB,pR,qB,qR,simprocAttr];rw [VA,ac5];exact ⟨rfl,hlt⟩
end Go.Proofs.Rom
