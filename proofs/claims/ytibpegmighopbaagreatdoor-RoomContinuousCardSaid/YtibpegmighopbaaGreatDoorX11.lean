/- Texts laid as one. -/
import Derived.Test.YtibpegmighopbaaGreatDoorX10
set_option maxRecDepth 100000
set_option maxHeartbeats 20000000
set_option linter.unusedSimpArgs false
set_option linter.unusedVariables false
namespace Go.Proofs.Rom
open Go.Ab
theorem aZ.refl {n0 n:Nat} {v:AV} {h:Hp}:aZ n0 v h n v h n:=λD φ w D0 φ0 H0 w0 u hD0 hD hv hH hS=>⟨D,φ,hD,hv,hS⟩
theorem aZ.trans {n0 n n1 n2:Nat} {v v1 v2:AV} {h h1 h2:Hp} (a:aZ n0 v h n v1 h1 n1) (b:aZ n0 v1 h1 n1 v2 h2 n2):aZ n0 v h n v2 h2 n2:=λD φ w D0 φ0 H0 w0 u hD0 hD hv hH hS=>by
 obtain ⟨D',φ',g1,g2,g3⟩:=a D φ w D0 φ0 H0 w0 u hD0 hD hv hH hS;exact b D' φ' w D0 φ0 H0 w0 u hD0 g1 g2 g3.hr g3
def mV (r:Rm) (lm:Bool) (a:Nat):AV:=bif lm then (match r.ms with|[]=> .ze|_=> .sg a 0 r.ms.length) else .fz (rows Mb.l r.ms) r.ms.length
def sV (r:Rm) (ls:Bool) (b:Nat):AV:=bif ls then (gQ aW.l 4 r.sh).v b else .fz (rows aW.l r.sh) r.sh.length
def tV (r:Rm) (lt:Bool) (c:Nat):AV:=bif lt then (gQ Tp.l 22 r.tp).v c else .fz (rows Tp.l r.tp) r.tp.length
def mH (r:Rm) (lm:Bool) (a:Nat):Hp:=bif lm then (match r.ms with|[]=>[]|_=>[(a,eS r)]) else []
def sH (r:Rm) (ls:Bool) (b:Nat):Hp:=bif ls then (gQ aW.l 4 r.sh).h b else []
def tH (r:Rm) (lt:Bool) (c:Nat):Hp:=bif lt then (gQ Tp.l 22 r.tp).h c else []
abbrev nh (r:Rm) (lm ls lt:Bool) (a b c:Nat):bp:={cells:=[mV r lm a,sV r ls b,tV r lt c]}
def fS (r:Rm) (lm ls lt:Bool) (n:Nat):Hp:=(n,nh r lm ls lt (n+1) (n+2) (n+3))::(mH r lm (n+1)++(sH r ls (n+2)++tH r lt (n+3)))
theorem adf (r:Rm) (hr:r.is=true) (hg:aX r=true) (lm ls lt:Bool):bG ay 85 [.agg r.a] [] 0 (.p 0 0) (fS r lm ls lt 0) 4:=by
 by_cases h0:r.ms=[]
 ·obtain ⟨hs0,ht0⟩:=Bh hg h0;have hw:=agl r hr hg h0;obtain ⟨ms,sh,tp⟩:=r;dsimp only at h0 hs0 ht0;subst h0 hs0 ht0;refine cz.cov hw ?_;have e: ∀(D:Nat->Prop) (φ:bP) (u:Value),True:=λ_ _ _=>trivial;intro D φ w D0 φ0 H0 w0 u hD0 hD hv hH hS;have key:aZ 0 (.p 0 0) [(0,{cells:=[.ze,.ns,.ns]})] 1 (.p 0 0) (fS ⟨[],[],[]⟩ lm ls lt 0) 1:=by
   refine aZ.wkH (Go.Ab.lH.refl _) (h':=fS ⟨[],[],[]⟩ lm ls lt 0) ?_ aZ.refl;cases lm<;>cases ls<;>cases lt<;>exact ⟨⟨_,rfl,rfl,rfl,rfl,by first|exact Go.Ab.lH.ze|exact Go.Ab.lH.refl _,by first|exact Go.Ab.lH.ns|exact Go.Ab.lH.refl _,by first|exact Go.Ab.lH.ns|exact Go.Ab.lH.refl _,trivial⟩,trivial⟩
  obtain ⟨D',φ',g1,g2,g3⟩:=key D φ w D0 φ0 H0 w0 u hD0 hD hv hH hS
  grind
 ·have hw:=w85 r hr hg h0;have em: ∀a,mV r true a= .sg a 0 r.ms.length:=λa=>by
   simp [mV]
  have emh: ∀a,mH r true a=[(a,eS r)]:=λa=>by
   simp [mH]
  have start:fS r true true true 0=(0,LJ r 1 2 3)::(1,eS r)::((gQ aW.l 4 r.sh).h 2++(gQ Tp.l 22 r.tp).h 3):=by
   simp_all [fS,nh,sV,tV,sH,tH,cond_true]
  rw [<-start] at hw;refine cz.cov hw ?_;have st: ∀(ls:Bool),aZ 0 (.p 0 0) (fS r true ls true 0) 4 (.p 0 0) (fS r true ls lt 0) 4:=λls=>by
   cases lt;rotate_left
   ·exact aZ.refl
   refine aZ.Cw (f:=Tp.l) (z:=22) (l:=r.tp) (b:=3) (v':= .p 0 0) (h':=fS r true ls false 0) ?_ bW.refl ?_ aZ.refl
   ·grind [fS,sH,tH,qG,fI,fW]
   ·cases ls
    ·simp only [fS,nh,em,emh,sV,tV,sH,tH,cond_true,cond_false];exact ⟨⟨by decide,_,rfl,rfl,rfl,rfl,bW.refl,bW.refl,bW.hit,trivial⟩,⟨by decide,_,rfl,rfl,rfl,rfl,dZ.refl⟩,trivial⟩
    ·rcases lz aW.l 4 r.sh with e1|e1
     ·simp only [fS,nh,em,emh,sV,tV,sH,tH,cond_true,cond_false,e1];exact ⟨⟨by decide,_,rfl,rfl,rfl,rfl,bW.refl,bW.refl,bW.hit,trivial⟩,⟨by decide,_,rfl,rfl,rfl,rfl,dZ.refl⟩,trivial⟩
     ·simp only [fS,nh,em,emh,sV,tV,sH,tH,cond_true,cond_false,e1];exact ⟨⟨by decide,_,rfl,rfl,rfl,rfl,bW.refl,bW.refl,bW.hit,trivial⟩,⟨by decide,_,rfl,rfl,rfl,rfl,dZ.refl⟩,⟨by decide,_,rfl,rfl,rfl,rfl,dZ.refl⟩,trivial⟩
  have ss:aZ 0 (.p 0 0) (fS r true true true 0) 4 (.p 0 0) (fS r true ls true 0) 4:=by
   cases ls;rotate_left
   ·exact aZ.refl
   refine aZ.Cw (f:=aW.l) (z:=4) (l:=r.sh) (b:=2) (v':= .p 0 0) (h':=fS r true false true 0) ?_ bW.refl ?_ aZ.refl
   ·simp [fS,emh,sH,tH,qG,fi]
   ·rcases lz Tp.l 22 r.tp with e1|e1
    ·simp only [fS,nh,em,emh,sV,tV,sH,tH,cond_true,cond_false,e1];exact ⟨⟨by decide,_,rfl,rfl,rfl,rfl,bW.refl,bW.hit,bW.refl,trivial⟩,⟨by decide,_,rfl,rfl,rfl,rfl,dZ.refl⟩,trivial⟩
    ·simp only [fS,nh,em,emh,sV,tV,sH,tH,cond_true,cond_false,e1];refine ⟨⟨by decide,_,rfl,rfl,rfl,rfl,bW.refl,bW.hit,bW.refl,trivial⟩,⟨by decide,_,rfl,rfl,rfl,rfl,dZ.refl⟩,⟨by decide,_,?_,rfl,rfl,rfl,dZ.refl⟩,trivial⟩
     rcases lz aW.l 4 r.sh with e2|e2<;>rw [e2]<;>rfl
  refine aZ.trans ss (aZ.trans (st ls) ?_);cases lm;rotate_left
  ·exact aZ.refl
  refine aZ.rY (b:=1) (x:= .sg 1 0 r.ms.length) (k:=eS r) (o:=0) (m:=r.ms.length) (cs:=rows Mb.l r.ms) (v':= .p 0 0) (h':=fS r false ls lt 0) ?_ rfl (.inr rfl) (.inl rfl) bW.refl ?_ aZ.refl
  ·simp only [fS,emh,aa,ez];rfl
  ·rcases lz aW.l 4 r.sh with e1|e1<;>rcases lz Tp.l 22 r.tp with e2|e2<;>cases ls<;>cases lt<;>
    simp only [fS,nh,mV,mH,sV,tV,sH,tH,cond_true,cond_false,e1,e2]<;>
    first
     |exact ⟨⟨by decide,_,rfl,rfl,rfl,rfl,bW.hit,bW.refl,bW.refl,trivial⟩,trivial⟩
     |exact ⟨⟨by decide,_,rfl,rfl,rfl,rfl,bW.hit,bW.refl,bW.refl,trivial⟩,⟨by decide,_,rfl,rfl,rfl,rfl,dZ.refl⟩,trivial⟩
     |exact ⟨⟨by decide,_,rfl,rfl,rfl,rfl,bW.hit,bW.refl,bW.refl,trivial⟩,⟨by decide,_,rfl,rfl,rfl,rfl,dZ.refl⟩,⟨by decide,_,rfl,rfl,rfl,rfl,dZ.refl⟩,trivial⟩
def fj (lm ls lt:Bool):Ct
 |[.agg c],_,n=>(qX c).bind λr=>some (r.is,bif aX r then {v:= .p n 0,n:=n+4,nw:=fS r lm ls lt n} else {v:= .bz [],n,pn:=some (eJ 420)})
 |_,_,_=>none
theorem Es (lm ls lt:Bool):ax ay 85 (fj lm ls lt):=λargs h n c E hc ht=>by
 unfold fj at hc;split at hc
 ·simp only [av] at hc;obtain ⟨r,hr,he⟩:=hc;simp only [aI,aV] at he;obtain ⟨rfl,rfl⟩:=he;rw [dW hr];have hab:ab 0 [AV.agg r.a]=true:=by simp only [ab,AV.aj,Rm.aj,aG]
  cases hg:aX r
  ·exact aA.zY (by kernel_rfl) hab rfl (ahU r ht hg) _ _
  ·simp only [cond_true];have hm:=fT 4 r.ms;have hs:=cG 4 r.sh;have htp:=fb 4 r.tp;have rm:=λg=>jI g r.ms;have rs:=λg=>dT g r.sh;have rt:=λg=>jC g r.tp;have hfx:aS (nth []) [AV.agg r.a]=[AV.agg r.a]:=aJ _ hab;have hmv:(∃x,r.ms=x):=⟨_,rfl⟩;refine (aA.canon (n:=n) (pn:=none) [] [] (by kernel_rfl) rfl (argsL:=[.agg r.a]) hab trivial (adf r ht hg lm ls lt) (cr _) ?_).cast hfx ?_
   ·rcases lz aW.l 4 r.sh with e1|e1<;>rcases lz Tp.l 22 r.tp with e2|e2<;>cases lm<;>cases ls<;>cases lt<;>cases hms:r.ms<;>(try rw [hms] at hm)<;>
     simp [fS,nh,eS,mV,mH,sV,tV,sH,tH,hms,e1,e2,l5,ab,AV.aj,hm,hs,htp,Go.Ab.Sh.v,Go.Ab.Sh.h,aP,dD]
   ·rcases lz aW.l 4 r.sh with e1|e1<;>rcases lz Tp.l 22 r.tp with e2|e2<;>cases lm<;>cases ls<;>cases lt<;>cases hms:r.ms<;>(try rw [hms] at rm)<;>
     simp [fS,nh,eS,mV,mH,sV,tV,sH,tH,hms,e1,e2,nR,fL,bp.aQ,aS,AV.aQ,rm,rs,rt,Go.Ab.Sh.v,Go.Ab.Sh.h,jA,aP]
 ·cases hc
theorem U8 (h:Hp) (f:Nat) (l:List Mb):lV (Go.Ab.nv h f) (rows Mb.l l)=some ([],rows Mb.l l):=nj (λa=>by simp only [Mb.l,bn,bI,DF,kN,aC,List.nil_append]) l
theorem TG {h:Hp} {a:Nat} {l:List Mb} (f:Nat) (ha:aa h a=some {cells:=rows Mb.l l,gr:=some 2}):Go.Ab.nv h (f+1) (.sg a 0 l.length)=some ([a],.fz (rows Mb.l l) l.length):=by
 have zR:(rows Mb.l l).length=l.length*2:=aU Mb.len;have e:aD (rows Mb.l l) 0 (l.length*2)=rows Mb.l l:=by rw [aD,dk,<-zR,jh]
 grind [Gk,aC,eo,U8]
def uy (r:Rm) (s:List UInt8):Int:=if aX r then (if fZ s&&decide (wO r.ms s<0) then (if r.ms.length<6 then 0 else 3) else 2) else 420
def gY (r:Rm) (s:List UInt8):Rm×Int:=(if uy r s=0 then ⟨r.ms++[⟨s,0⟩],r.sh,r.tp⟩ else vr,uy r s)
def oF (ms:List Mb) (s:List UInt8):Int:=if fZ s&&decide (wO ms s<0) then (if ms.length<6 then 0 else 3) else 2
def T93:List (Nat×Ct):=[(62,gA),(94,HQ),(95,cu L8)]
theorem Nl:Sound ay (cj T93):=Sound.cons Ad (Sound.cons s94 (Sound.cons s95.nv Sound.nil))
theorem afM (r:Rm) (s:List UInt8) (h6:r.ms.length<=6) (he:oF r.ms s≠0):cz ay 93 [.p 0 0,.fp [.s s] 0] [(0,{cells:=[.sg 1 0 r.ms.length,.fz (rows aW.l r.sh) r.sh.length,.fz (rows Tp.l r.tp) r.tp.length]}),(1,eS r)] 2 (some (eJ (oF r.ms s))) (.bz []) [] 2:=by
 have hk: ∀(h:Hp) n,aa h 0=some {cells:=[.sg 1 0 r.ms.length,.fz (rows aW.l r.sh) r.sh.length,.fz (rows Tp.l r.tp) r.tp.length]}->aa h 1=some (eS r)->cu L8 [.p 0 0,.s s] h n=some (true,{v:= .i .i64 (wO r.ms s),n,rd:=[0,1]}):=λh n h0 h1=>by
  have hv:=TG (h:=h) (a:=1) (l:=r.ms) 4 h1;have hf:([AV.fz (rows Mb.l r.ms) r.ms.length,.fz (rows aW.l r.sh) r.sh.length,.fz (rows Tp.l r.tp) r.tp.length]:List AV)=r.a:=rfl;simp only [cu,bn,bI,jH,DF,hv,ef (cG 0 r.sh),ef (fb 0 r.tp),h0,aC,eo,dh,hf,L8,dH,af (show r.ms.length<=9223372036854775807 by omega)]
  rfl
 have n1:decide (((r.ms.length:Nat):Int)<6)=decide (r.ms.length<6):=by grind
 obtain ⟨ms,sh,tp⟩:=r;have hR:oF ms s=if fZ s&&decide (wO ms s<0) then (if ms.length<6 then 0 else 3) else 2:=rfl
 dsimp only at*;generalize oF ms s=R at*;refine cz.dQ Nl mo Tryz.func93 Br (by simp [i93]) (aO ?_)
 dsimp only [i93,T93];cases c1:fZ s
 ·rw [c1] at hR;have hR:R=2:=hR;subst hR;simp only [go_sem,HQ,c1,gA,simprocAttr];exact Ends.aw rfl rfl
 cases c2:decide (wO ms s<0)
 ·rw [c1,c2] at hR;have hR:R=2:=hR;subst hR;simp only [go_sem,HQ,c1,hk,c2,gA,simprocAttr];exact Ends.aw rfl rfl
 ·rw [c1,c2] at hR;simp only [aG,cM] at hR;have c3:decide (ms.length<6)=false:=by
   grind
  rw [aY (tM c3)] at hR;subst hR;simp only [go_sem,HQ,c1,hk,c2,n1,c3,gA,simprocAttr];exact Ends.aw rfl rfl
theorem w93 (r:Rm) (s:List UInt8) (h6:r.ms.length<=6) (he:oF r.ms s=0):cz ay 93 [.p 0 0,.fp [.s s] 0] [(0,{cells:=[.sg 1 0 r.ms.length,.fz (rows aW.l r.sh) r.sh.length,.fz (rows Tp.l r.tp) r.tp.length]}),(1,eS r)] 2 none (.bz [])
 [(0,{cells:=[.sg 2 0 (r.ms.length+1),.fz (rows aW.l r.sh) r.sh.length,.fz (rows Tp.l r.tp) r.tp.length]}),(2,{cells:=rows Mb.l (r.ms++[⟨s,0⟩]),gr:=some 2})] 3:=by
 have hk: ∀(h:Hp) n,aa h 0=some {cells:=[.sg 1 0 r.ms.length,.fz (rows aW.l r.sh) r.sh.length,.fz (rows Tp.l r.tp) r.tp.length]}->aa h 1=some (eS r)->cu L8 [.p 0 0,.s s] h n=some (true,{v:= .i .i64 (wO r.ms s),n,rd:=[0,1]}):=λh n h0 h1=>by
  have hv:=TG (h:=h) (a:=1) (l:=r.ms) 4 h1;have hf:([AV.fz (rows Mb.l r.ms) r.ms.length,.fz (rows aW.l r.sh) r.sh.length,.fz (rows Tp.l r.tp) r.tp.length]:List AV)=r.a:=rfl;simp only [cu,bn,bI,jH,DF,hv,ef (cG 0 r.sh),ef (fb 0 r.tp),h0,aC,eo,dh,hf,L8,dH,af (show r.ms.length<=9223372036854775807 by omega)]
  rfl
 have n1:decide (((r.ms.length:Nat):Int)<6)=decide (r.ms.length<6):=by grind
 have hsB:=λj=>cG j r.sh;have htB:=λj=>fb j r.tp;have hsR:=λg=>dT g r.sh;have htR:=λg=>jC g r.tp;have zR:(rows Mb.l r.ms).length=r.ms.length*2:=aU Mb.len;have ha:rows Mb.l (r.ms++[⟨s,0⟩])=rows Mb.l r.ms++[.s s,.i .i64 0]:=by rw [dO];rfl
 have hmB:=λj=>fT j r.ms;have hmR:=λg=>jI g r.ms;have gm:decide (24*(r.ms.length+1)<=az)=true:=af (by grind [az])
 obtain ⟨ms,sh,tp⟩:=r;dsimp only at*;have h3:fZ s=true/\decide (wO ms s<0)=true/\decide (ms.length<6)=true:=by
  unfold oF at he
  grind
 obtain ⟨c1,c2,c3⟩:=h3;rw [ha];refine cz.dQ Nl mo Tryz.func93 Br (by simp [i93]) (aO ?_)
 dsimp only [i93,T93];simp only [go_sem,HQ,c1,hk,c2,n1,c3,gA,gm,zR,simprocAttr];refine Ends.R [(2,3)] (by decide) (by decide) rfl rfl ?_
 have hab: ∀j,ab j (rows Mb.l ms++[.s s,.i .i64 0])=true:=λj=>by grind [fT]
 have har: ∀g,aS g (rows Mb.l ms++[.s s,.i .i64 0])=rows Mb.l ms++[.s s,.i .i64 0]:=λg=>by grind [jI]
 simp only [go_sem,AV.aj,ab,aP,bp.aQ,AV.aQ,aS,hab,har,hsB,hsR,htB,htR,simprocAttr]
theorem aeE (s:List UInt8) (he:fZ s=false):cz ay 93 [.p 0 0,.fp [.s s] 0] [(0,{cells:=[.ze,.fz [] 0,.fz [] 0]})] 1 (some (eJ 2)) (.bz []) [] 1:=by
 refine cz.dQ Nl mo Tryz.func93 Br (by simp [i93]) (aO ?_)
 dsimp only [i93,T93];simp only [go_sem,HQ,he,gA,simprocAttr];exact Ends.aw rfl rfl
theorem agF (s:List UInt8) (he:fZ s=true):cz ay 93 [.p 0 0,.fp [.s s] 0] [(0,{cells:=[.ze,.fz [] 0,.fz [] 0]})] 1 none (.bz [])
 [(0,{cells:=[.sg 1 0 1,.fz [] 0,.fz [] 0]}),(1,{cells:=rows Mb.l [⟨s,0⟩],gr:=some 2})] 2:=by
 have hk: ∀(h:Hp) n,aa h 0=some {cells:=[.ze,.fz [] 0,.fz [] 0]}->cu L8 [.p 0 0,.s s] h n=some (true,{v:= .i .i64 (-1),n,rd:=[0]}):=λh n h0=>by
  simp only [cu,bn,bI,jH,DF,aeX,ef (show ab 0 []=true from rfl),h0,aC,eo,dh]
  rfl
 have ha:rows Mb.l [⟨s,0⟩]=[.s s,.i .i64 0]:=rfl;rw [ha];refine cz.dQ Nl mo Tryz.func93 Br (by simp [i93]) (aO ?_)
 dsimp only [i93,T93];have gm:decide (24<=az)=true:=rfl;simp only [go_sem,HQ,he,gA,hk,gm,simprocAttr];refine Ends.R [(1,2)] (by decide) (by decide) rfl rfl ?_
 simp only [go_sem,AV.aj,ab,aP,bp.aQ,AV.aQ,aS,simprocAttr]
noncomputable def xq (b:Ct) (g:FuncId) (k:Ct):List (Nat×Ct):=[(85,b),(g,k)]
theorem rz {lm ls lt:Bool} {g:FuncId} {k:Ct} (hk:ax ay g k):Sound ay (cj (xq (fj lm ls lt) g k)):=Sound.cons (Es lm ls lt) (Sound.cons hk Sound.nil)
theorem aeV (r:Rm) (hr:r.is=true) (hg:aX r=false) (g:FuncId) (fc:List AV):cz ay 135 [.fp r.a 0,.fp [.fn g fc] 0] [] 0 (some (eJ 420)) (.bz []) [] 0:=by
 have hcx:Sound ay (cj [(85,fj true true true)]):=Sound.cons (Es true true true) Sound.nil;have hk: ∀(h:Hp) n,fj true true true [.agg r.a] h n=some (true,{v:= .bz [],n,pn:=some (eJ 420)}):=λh n=>by
  grind [fj,dH,aC]
 have a3:r.a.length=3:=rfl;have ad:List.take 3 (List.drop 0 r.a)=r.a:=rfl;generalize r.a=ra at*;generalize fj true true true=kb at*;refine cz.dQ hcx mo Tryz.func135 fU (by simp [i135]) (aO ?_)
 dsimp only [i135];simp only [go_sem,hk,a3,ad,simprocAttr];exact Ends.aw rfl rfl
theorem aa9 (r:Rm) (hr:r.is=true) (hg:aX r=true) (s:List UInt8) (hm:r.ms≠[]) (he:oF r.ms s=0):bG ay 135 [.fp r.a 0,.fp [.fn 93 [.fp [.s s] 0]] 0] [] 0 (.agg (gY r s).1.a) [] 0:=by
 have hl:=ek hg;have hB:=fT 3 (r.ms++[⟨s,0⟩]);have hB2:=fT 2 r.ms;have hsB:=λj=>cG j r.sh;have htB:=λj=>fb j r.tp;have hsR:=λg=>dT g r.sh;have htR:=λg=>jC g r.tp;have hmR:=λg=>jI g (r.ms++[⟨s,0⟩]);have hmR2:=λg=>jI g r.ms;have hs:=cK (R:=[1,2]) (ks:=[{cells:=[.sg 1 0 r.ms.length,.fz (rows aW.l r.sh) r.sh.length,.fz (rows Tp.l r.tp) r.tp.length]},eS r]) (by kernel_rfl) (by decide) rfl (w93 r s hl.1 he) (by decide) (by grind [l5,ab,AV.aj,dD,aP])
 have hat: ∀(h:Hp) n,aa h 1=some {cells:=[.sg 2 0 r.ms.length,.fz (rows aW.l r.sh) r.sh.length,.fz (rows Tp.l r.tp) r.tp.length]}->aa h 2=some (eS r)->kH [1,2] [{cells:=[.sg 1 0 r.ms.length,.fz (rows aW.l r.sh) r.sh.length,.fz (rows Tp.l r.tp) r.tp.length]},eS r] [.p 0 0,.fp [.s s] 0] (.bz []) [(0,{cells:=[.sg 2 0 (r.ms.length+1),.fz (rows aW.l r.sh) r.sh.length,.fz (rows Tp.l r.tp) r.tp.length]}),(2,{cells:=rows Mb.l (r.ms++[⟨s,0⟩]),gr:=some 2})] 3 none [.p 1 0,.fp [.s s] 0] h n=some (true,{v:= .bz [],n:=n+1,rd:=[1,2],md:=[(1,some {cells:=[.sg n 0 (r.ms.length+1),.fz (rows aW.l r.sh) r.sh.length,.fz (rows Tp.l r.tp) r.tp.length]}),(2,none)],nw:=[(n,{cells:=rows Mb.l (r.ms++[⟨s,0⟩]),gr:=some 2})]}):=λh n h1 h2=>by
  refine ej (h:=h) (n:=n) rfl ⟨⟨?_,?_⟩,⟨?_,?_⟩,trivial⟩ ?_;all_goals simp_all [bp.aQ,aS,AV.aQ,nth,ab,AV.aj,aP,eS,nR,fL,jA,aa,eu]
 generalize kH [1,2] _ _ _ _ _ _=kT at hs hat;have hk: ∀(h:Hp) n,fj true false false [.agg r.a] h n=some (true,{v:= .p n 0,n:=n+4,nw:=[(n,{cells:=[.sg (n+1) 0 r.ms.length,.fz (rows aW.l r.sh) r.sh.length,.fz (rows Tp.l r.tp) r.tp.length]}),(n+1,eS r)]}):=λh n=>by
  simp_all [fj,dH,aC,cond_true,fS,nh,mV,mH,sV,tV,sH,tH]
 have hcx:=rz (lm:=true) (ls:=false) (lt:=false) hs;generalize fj true false false=kb at*;have a3:r.a.length=3:=rfl;have ad:List.take 3 (List.drop 0 r.a)=r.a:=rfl;generalize r.a=ra at*;have hR:(gY r s).1.a=[.fz (rows Mb.l (r.ms++[⟨s,0⟩])) (r.ms.length+1),.fz (rows aW.l r.sh) r.sh.length,.fz (rows Tp.l r.tp) r.tp.length]:=by
  have e0:uy r s=0:=by simp only [uy,hg,cM];exact he
  simp only [gY,e0,cM,Rm.a,cm,List.length_cons,fP]
 rw [hR];generalize eS r=LM at*;refine bG.dy hcx mo Tryz.func135 fU (by simp [i135]) (aO ?_)
 dsimp only [i135,xq];simp only [go_sem,hk,a3,ad,hat,simprocAttr];refine aZ.rY (b:=5) (x:= .sg 5 0 (r.ms.length+1)) (o:=0) (m:=r.ms.length+1) (cs:=rows Mb.l (r.ms++[⟨s,0⟩])) (v':= .agg [.fz (rows Mb.l (r.ms++[⟨s,0⟩])) (r.ms.length+1),.fz (rows aW.l r.sh) r.sh.length,.fz (rows Tp.l r.tp) r.tp.length]) (h':=[]) rfl rfl (.inr rfl) (.inl rfl) (bW.agg ⟨bW.hit,bW.refl,bW.refl,trivial⟩) trivial ?_
 grind [aZ.ends,Ends.aw,AV.aj,ab,fT,aG]
theorem YH (r:Rm) (hr:r.is=true) (hg:aX r=true) (s:List UInt8) (hm:r.ms≠[]) (he:oF r.ms s≠0):cz ay 135 [.fp r.a 0,.fp [.fn 93 [.fp [.s s] 0]] 0] [] 0 (some (eJ (oF r.ms s))) (.bz []) [] 0:=by
 have hl:=ek hg;have hB2:=fT 2 r.ms;have hsB:=λj=>cG j r.sh;have htB:=λj=>fb j r.tp;have hsR:=λg=>dT g r.sh;have htR:=λg=>jC g r.tp;have hmR2:=λg=>jI g r.ms;have hs:=cK (R:=[1,2]) (ks:=[{cells:=[.sg 1 0 r.ms.length,.fz (rows aW.l r.sh) r.sh.length,.fz (rows Tp.l r.tp) r.tp.length]},eS r]) (by kernel_rfl) (by decide) rfl (afM r s hl.1 he) (by decide) (by simp [l5])
 have hat: ∀(h:Hp) n,aa h 1=some {cells:=[.sg 2 0 r.ms.length,.fz (rows aW.l r.sh) r.sh.length,.fz (rows Tp.l r.tp) r.tp.length]}->aa h 2=some (eS r)->kH [1,2] [{cells:=[.sg 1 0 r.ms.length,.fz (rows aW.l r.sh) r.sh.length,.fz (rows Tp.l r.tp) r.tp.length]},eS r] [.p 0 0,.fp [.s s] 0] (.bz []) [] 2 (some (eJ (oF r.ms s))) [.p 1 0,.fp [.s s] 0] h n=some (true,{v:= .bz [],n,rd:=[1,2],md:=[(1,none),(2,none)],pn:=some (eJ (oF r.ms s))}):=λh n h1 h2=>by
  refine ej (h:=h) (n:=n) rfl ⟨⟨?_,?_⟩,⟨?_,?_⟩,trivial⟩ ?_;all_goals simp_all [bp.aQ,aS,AV.aQ,nth,ab,AV.aj,aP,eS,nR,fL,aa]
 generalize kH [1,2] _ _ _ _ _ _=kT at hs hat;have hk: ∀(h:Hp) n,fj true false false [.agg r.a] h n=some (true,{v:= .p n 0,n:=n+4,nw:=[(n,{cells:=[.sg (n+1) 0 r.ms.length,.fz (rows aW.l r.sh) r.sh.length,.fz (rows Tp.l r.tp) r.tp.length]}),(n+1,eS r)]}):=λh n=>by
  simp_all [fj,dH,aC,cond_true,fS,nh,mV,mH,sV,tV,sH,tH]
 have hcx:=rz (lm:=true) (ls:=false) (lt:=false) hs;generalize fj true false false=kb at*;have a3:r.a.length=3:=rfl;have ad:List.take 3 (List.drop 0 r.a)=r.a:=rfl;generalize r.a=ra at*;generalize eS r=LM at*;refine cz.dQ hcx mo Tryz.func135 fU (by simp [i135]) (aO ?_)
 dsimp only [i135,xq];simp only [go_sem,hk,a3,ad,hat,simprocAttr];exact Ends.aw rfl rfl
theorem Ud {r:Rm} (hr:r.is=true) (hg:aX r=true) (hm:r.ms=[]) (h:Hp) (n:Nat):fj true false false [.agg r.a] h n=some (true,{v:= .p n 0,n:=n+4,nw:=[(n,{cells:=[.ze,.fz [] 0,.fz [] 0]})]}):=by
 obtain ⟨hs0,ht0⟩:=Bh hg hm;simp only [fj,dH,aC,hr,hg,cond_true];obtain ⟨ms,sh,tp⟩:=r;dsimp only at hm hs0 ht0;subst hm hs0 ht0;rfl
theorem aaE (r:Rm) (hr:r.is=true) (hg:aX r=true) (s:List UInt8) (hm:r.ms=[]) (he:fZ s=true):bG ay 135 [.fp r.a 0,.fp [.fn 93 [.fp [.s s] 0]] 0] [] 0 (.agg (gY r s).1.a) [] 0:=by
 have hs:=cK (R:=[1]) (ks:=[{cells:=[.ze,.fz [] 0,.fz [] 0]}]) (by kernel_rfl) (by decide) rfl (agF s he) (by decide) (by rfl)
 have hat: ∀(h:Hp) n,aa h 1=some {cells:=[.ze,.fz [] 0,.fz [] 0]}->kH [1] [{cells:=[.ze,.fz [] 0,.fz [] 0]}] [.p 0 0,.fp [.s s] 0] (.bz []) [(0,{cells:=[.sg 1 0 1,.fz [] 0,.fz [] 0]}),(1,{cells:=rows Mb.l [⟨s,0⟩],gr:=some 2})] 2 none [.p 1 0,.fp [.s s] 0] h n=some (true,{v:= .bz [],n:=n+1,rd:=[1],md:=[(1,some {cells:=[.sg n 0 1,.fz [] 0,.fz [] 0]})],nw:=[(n,{cells:=rows Mb.l [⟨s,0⟩],gr:=some 2})]}):=λh n h1=>by
  refine ej (h:=h) (n:=n) rfl ⟨⟨?_,?_⟩,trivial⟩ ?_;all_goals grind [bp.aQ,aS,AV.aQ,ab,AV.aj,nR,fL,jA,nth,aa,aP,eu,rows,Mb.l]
 generalize kH [1] _ _ _ _ _ _=kT at hs hat;have hk:=Ud hr hg hm;have hcx:=rz (lm:=true) (ls:=false) (lt:=false) hs;generalize fj true false false=kb at*;have hR:(gY r s).1.a=[.fz (rows Mb.l [⟨s,0⟩]) 1,.fz [] 0,.fz [] 0]:=by
  obtain ⟨hs0,ht0⟩:=Bh hg hm;have h1:wO [] s= -1:=rfl;have e0:uy r s=0:=by simp_all [uy]
  simp only [gY,e0,cM,Rm.a,hm,hs0,ht0];rfl
 rw [hR];have a3:r.a.length=3:=rfl;have ad:List.take 3 (List.drop 0 r.a)=r.a:=rfl;generalize r.a=ra at*;refine bG.dy hcx mo Tryz.func135 fU (by simp [i135]) (aO ?_)
 dsimp only [i135,xq];simp only [go_sem,hk,a3,ad,hat,simprocAttr];refine aZ.rY (b:=5) (x:= .sg 5 0 1) (o:=0) (m:=1) (cs:=rows Mb.l [⟨s,0⟩]) (v':= .agg [.fz (rows Mb.l [⟨s,0⟩]) 1,.fz [] 0,.fz [] 0]) (h':=[]) rfl rfl (.inr rfl) (.inl rfl) (bW.agg ⟨bW.hit,bW.refl,bW.refl,trivial⟩) trivial ?_;exact aZ.ends (Ends.aw rfl rfl)
theorem UN (r:Rm) (hr:r.is=true) (hg:aX r=true) (s:List UInt8) (hm:r.ms=[]) (he:fZ s=false):cz ay 135 [.fp r.a 0,.fp [.fn 93 [.fp [.s s] 0]] 0] [] 0 (some (eJ 2)) (.bz []) [] 0:=by
 have hs:=cK (R:=[1]) (ks:=[{cells:=[.ze,.fz [] 0,.fz [] 0]}]) (by kernel_rfl) (by decide) rfl (aeE s he) (by decide) (by simp [l5])
 have hat: ∀(h:Hp) n,aa h 1=some {cells:=[.ze,.fz [] 0,.fz [] 0]}->kH [1] [{cells:=[.ze,.fz [] 0,.fz [] 0]}] [.p 0 0,.fp [.s s] 0] (.bz []) [] 1 (some (eJ 2)) [.p 1 0,.fp [.s s] 0] h n=some (true,{v:= .bz [],n,rd:=[1],md:=[(1,none)],pn:=some (eJ 2)}):=λh n h1=>by
  refine ej (h:=h) (n:=n) rfl ⟨⟨?_,?_⟩,trivial⟩ ?_;all_goals grind [bp.aQ,aS,AV.aQ,ab,AV.aj,nR,fL,aa]
 generalize kH [1] _ _ _ _ _ _=kT at hs hat;have hk:=Ud hr hg hm;have hcx:=rz (lm:=true) (ls:=false) (lt:=false) hs;generalize fj true false false=kb at*;have a3:r.a.length=3:=rfl;have ad:List.take 3 (List.drop 0 r.a)=r.a:=rfl;generalize r.a=ra at*;refine cz.dQ hcx mo Tryz.func135 fU (by simp [i135]) (aO ?_)
 dsimp only [i135,xq];simp only [go_sem,hk,a3,ad,hat,simprocAttr];exact Ends.aw rfl rfl
noncomputable def kX (a0:List AV) (v0:AV) (pn:Option Value):Ct:=λa h n=>open Classical in if a=a0 then some (true,{v:=v0,n,pn}) else none
theorem tE {a0:List AV} {v0:AV} {pn:Option Value} (h:Hp) (n:Nat):kX a0 v0 pn a0 h n=some (true,{v:=v0,n,pn}):=aT rfl
theorem iY {P:Program} {f:FuncId} {a0:List AV} {v0:AV} {pn:Option Value} (hc:Go.Ab.bH P f=true) (ha:ab 0 a0=true) (hv:v0.aj 0=true) (hf:cz P f a0 [] 0 pn v0 [] 0):ax P f (kX a0 v0 pn):=λargs h n c E he ht=>by
 unfold kX at he;split at he
 ·rename_i hh;subst hh;cases he;exact aA.zY hc ha hv hf _ _
 ·cases he
theorem BE (r:Rm) (g:FuncId) (fc:List AV) (hfc: ∀h f,lV (Go.Ab.nv h f) fc=some ([],fc)) (hfb:ab 0 fc=true) (res:Rm×Int) (hz:res.2≠0->res.1=vr)
 (hv:res.2=0->bG ay 135 [.fp r.a 0,.fp [.fn g fc] 0] [] 0 (.agg res.1.a) [] 0)
 (hp:res.2≠0->cz ay 135 [.fp r.a 0,.fp [.fn g fc] 0] [] 0 (some (eJ res.2)) (.bz []) [] 0):bG ay 59 [.agg r.a,.fn g fc] [] 0 (jS res) [] 0:=by
 have hrb:=Rm.aj 0 r;have hb:ab 0 [AV.fp r.a 0,.fp [.fn g fc] 0]=true:=by simp only [ab,AV.aj,hrb,hfb,aG]
 refine w59 r g fc hfc hfb res ?_;by_cases he:res.2=0
 ·exact abR (iY (by kernel_rfl) hb (by simp only [AV.aj,Rm.aj]) (hv he)) _ hb res hz (λ_ h n=>tE h n) (λh=>absurd he h)
 ·exact abR (iY (by kernel_rfl) hb rfl (hp he)) _ hb res hz (λh=>absurd h he) (λ_ h n=>tE h n)
theorem L4 (r:Rm) (hr:r.is=true) (hg:aX r=false) (g:FuncId) (fc:List AV) (hfc: ∀h f,lV (Go.Ab.nv h f) fc=some ([],fc)) (hfb:ab 0 fc=true):bG ay 59 [.agg r.a,.fn g fc] [] 0 (jS (vr,420)) [] 0:=
 BE r g fc hfc hfb (vr,420) (λ_=>rfl) (λh=>by cases h) (λ_=>aeV r hr hg g fc)
theorem Vc {r:Rm} (hg:aX r=true) (s:List UInt8):uy r s=oF r.ms s:=by simp only [uy,hg,cM,oF]
theorem ahn (r:Rm) (hr:r.is=true) (s:List UInt8):bG ay 59 [.agg r.a,.fn 93 [.fp [.s s] 0]] [] 0 (jS (gY r s)) [] 0:=by
 cases hg:aX r
 ·have e:gY r s=(vr,420):=by
   have e0:uy r s=420:=by simp only [uy,hg];rfl
   simp only [gY,e0];rfl
  rw [e];exact L4 r hr hg 93 _ (λh f=>by simp only [bn,bI,vA (show ab 0 [AV.s s]=true from rfl),aC,dh]) rfl
 ·have e2:(gY r s).2=oF r.ms s:=Vc hg s;refine BE r 93 _ (λh f=>by simp only [bn,bI,vA (show ab 0 [AV.s s]=true from rfl),aC,dh]) rfl _ (λh=> ?_) (λh=> ?_) (λh=> ?_)
  ·simp only [gY] at h ⊢;rw [aY h]
  ·rw [e2] at h;by_cases hm:r.ms=[]
   ·refine aaE r hr hg s hm ?_;simp only [oF,hm] at h;cases hn:fZ s
    ·rw [hn] at h;cases h
    ·rfl
   ·exact aa9 r hr hg s hm h
  ·rw [e2] at h ⊢;by_cases hm:r.ms=[]
   ·have h1:wO [] s= -1:=rfl;cases hn:fZ s
    ·have:oF r.ms s=2:=by simp only [oF,hn];rfl
     rw [this];exact UN r hr hg s hm hn
    ·exfalso;apply h;simp only [oF,hn,hm,h1];rfl
   ·exact YH r hr hg s hm h
/-! Enter -/
def jQ (n:Nat):Int:=max 0 ((n:Int)-1)
def k9 (r:Rm) (i e:Int):AV:= .bz [.agg r.a,.i .i64 i,.i .i64 e]
theorem w24 (r:Rm) (hr:r.is=true) (s:List UInt8) (hl:r.ms.length<=1000000):bG ay 24 [.agg r.a,.s s] [] 0 (k9 (gY r s).1 (jQ (gY r s).1.ms.length) (gY r s).2) [] 0:=by
 have hb:=iF (gY r s);have hrb:=Rm.aj 0 r;have hs:=dc (by kernel_rfl) (by simp only [ab,AV.aj,hrb,aG]) hb (ahn r hr s)
 have hat:=λh n=>gC (a0:=[.agg r.a,.fn 93 [.fp [.s s] 0]]) (v0:=jS (gY r s)) h n;have hlen:(gY r s).1.ms.length<=1000001:=by
  unfold gY;split
  ·simp only [cm,List.length_cons,fP];omega
  ·exact cr _
 generalize kP _ _=kT at hs hat;have hv:=λh f=>mY h f r;have hk: ∀(h:Hp) n,aa h 1=some {cells:=[.s s]}->ff kT [.agg r.a,.fn 93 [.p 1 0]] h n=some (true,{v:=jS (gY r s),n,rd:=[1],md:=[(1,none)]}):=λh n h1=>by
  simp only [ff,bn,bI,lj,jH,DF,kC,hv,h1,aC,eo,hat,hb,ez,List.nil_append,dh];simp [bV.plain,wN,h1,j4,eu]
 have hcx:Sound ay (cj [(59,ff kT)]):=Sound.cons hs.ng Sound.nil;have a3:r.a.length=3:=rfl;generalize hR:gY r s=R at*;obtain ⟨R,e⟩:=R;have a0:R.a.length=3:=rfl;have ao:aL R.a=true:=rfl;have ad:List.take 3 (List.drop 0 R.a)=R.a:=rfl;have ad2:List.take 3 (List.drop 0 r.a)=r.a:=rfl;have ag:R.a[0]? =some (.fz (rows Mb.l R.ms) R.ms.length):=rfl;have hbR:=Rm.aj 0 R;have n1:IntKind.i64.wrap ((R.ms.length:Int)-1)=(R.ms.length:Int)-1:=by dsimp only at hlen;exact aN (by omega) (by omega)
 simp only [jS,k9] at*;generalize R.a=RA at*;generalize r.a=ra at*;refine ew hcx Tryz.func24 XJ ?_
 dsimp only [i24];simp only [go_sem,hk,a3,a0,ao,ad,ad2,ag,n1,simprocAttr];exact Ends.aw (by simp only [AV.aj,ab,hbR,aG]) rfl
theorem Q6 (h:Hp) (f:Nat) (l:List aW):lV (Go.Ab.nv h f) (rows aW.l l)=some ([],rows aW.l l):=nj (λa=>by simp [aW.l,bn,bI,kN,ef,iB,aC]) l
theorem LU {h:Hp} {a:Nat} {l:List aW} (f:Nat) (ha:aa h a=some {cells:=rows aW.l l,gr:=some 4}):Go.Ab.nv h (f+1) (.sg a 0 l.length)=some ([a],.fz (rows aW.l l) l.length):=by
 have zR:(rows aW.l l).length=l.length*4:=aU aW.len;have e:aD (rows aW.l l) 0 (l.length*4)=rows aW.l l:=by rw [aD,dk,<-zR,jh]
 grind [Gk,aC,eo,Q6]
abbrev jX (r:Rm):bp:={cells:=rows aW.l r.sh,gr:=some 4}
def j7 (r:Rm) (s:aW):Int:=if cC r.ms.length s&&eQ (dS s.ss r.sh r.sh.length) then (if r.sh.length<6 then 0 else 3) else 2
def tv (r:Rm) (s:aW):Int:=if aX r then j7 r s else 420
def gJ (r:Rm) (s:aW):Rm×Int:=(if tv r s=0 then ⟨r.ms,r.sh++[s],r.tp⟩ else vr,tv r s)
abbrev iC (s:aW):List AV:=[.fp [.i .i64 s.ow] 0,.fp [.fz (rows aq s.ss) s.ss.length] 0,.fp [.fz (rows aq s.rt) s.rt.length] 0,.fp [.i .u64 s.bl] 0]
def T89:List (Nat×Ct):=[(90,vS),(91,cu Fm),(92,cu F9),(62,gA)]
theorem Pc:Sound ay (cj T89):=Sound.cons ZW (Sound.cons s91.nv (Sound.cons s92.nv (Sound.cons Ad Sound.nil)))
def nD (r:Rm) (s:aW):Prop:=r.ms.length<=6/\r.sh.length<=6/\r.sh.all vZ=true/\s.ok=true/\s.ss.length<=1000/\s.rt.length<=1000
theorem aan {r:Rm} {s:aW} (ho:nD r s) (hm:r.sh≠[]) (b:Nat) (h:Hp) (n:Nat) (h0:aa h 0=some {cells:=[.fz (rows Mb.l r.ms) r.ms.length,.sg 1 0 r.sh.length,.fz (rows Tp.l r.tp) r.tp.length]}) (h1:aa h 1=some (jX r)):
 cu Fm [.p 0 0,.agg s.l] h n=some (true,{v:= .b (cC r.ms.length s),n,rd:=[0,1]}):=by
 obtain ⟨o1,o2,o3,o4,o5,o6⟩:=ho;have hv:=LU (h:=h) (a:=1) (l:=r.sh) 4 h1;have hf:([AV.fz (rows Mb.l r.ms) r.ms.length,.fz (rows aW.l r.sh) r.sh.length,.fz (rows Tp.l r.tp) r.tp.length]:List AV)=r.a:=rfl;have hs:lV (Go.Ab.nv h 5) s.l=some ([],s.l):=by simp [aW.l,bn,bI,kN,ef,iB,aC]
 simp only [cu,bn,bI,jH,lj,hs,hv,ef (fT 0 r.ms),ef (fb 0 r.tp),h0,aC,eo,dh,List.nil_append,hf,Fm,dH,ku,o4,af o1];rfl
theorem acK {r:Rm} {s:aW} (ho:nD r s) (hi:bZ 1 3 (s.ss.length:Int)=true) (hm:r.sh≠[]) (b:Nat) (h:Hp) (n:Nat) (h0:aa h 0=some {cells:=[.fz (rows Mb.l r.ms) r.ms.length,.sg 1 0 r.sh.length,.fz (rows Tp.l r.tp) r.tp.length]}) (h1:aa h 1=some (jX r)):
 cu F9 [.p 0 0,.fz (rows aq s.ss) s.ss.length] h n=some (true,{v:= .b (eQ (dS s.ss r.sh r.sh.length)),n,rd:=[0,1]}):=by
 obtain ⟨o1,o2,o3,o4,o5,o6⟩:=ho;have hv:=LU (h:=h) (a:=1) (l:=r.sh) 4 h1;have hf:([AV.fz (rows Mb.l r.ms) r.ms.length,.fz (rows aW.l r.sh) r.sh.length,.fz (rows Tp.l r.tp) r.tp.length]:List AV)=r.a:=rfl;simp only [cu,bn,bI,jH,ef (iB 0 s.ss),hv,ef (fT 0 r.ms),ef (fb 0 r.tp),h0,aC,eo,dh,List.nil_append,hf,F9,dH,eD,o3,hi,af o2];rfl
theorem ae9 {r:Rm} {s:aW} (ho:nD r s) (hm:r.sh=[]) (h:Hp) (n:Nat) (h0:aa h 0=some {cells:=[.fz (rows Mb.l r.ms) r.ms.length,.ns,.fz (rows Tp.l r.tp) r.tp.length]}):
 cu Fm [.p 0 0,.agg s.l] h n=some (true,{v:= .b (cC r.ms.length s),n,rd:=[0]}):=by
 obtain ⟨o1,o2,o3,o4,o5,o6⟩:=ho;have hf:([AV.fz (rows Mb.l r.ms) r.ms.length,.fz [] 0,.fz (rows Tp.l r.tp) r.tp.length]:List AV)=r.a:=by rw [Rm.a,hm];rfl
 have hs:lV (Go.Ab.nv h 5) s.l=some ([],s.l):=by simp [aW.l,bn,bI,kN,ef,iB,aC]
 simp only [cu,bn,bI,jH,lj,hs,BX,ef (fT 0 r.ms),ef (fb 0 r.tp),h0,aC,eo,dh,hf,Fm,dH,ku,o4,af o1];rfl
theorem aeC {r:Rm} {s:aW} (ho:nD r s) (hi:bZ 1 3 (s.ss.length:Int)=true) (hm:r.sh=[]) (h:Hp) (n:Nat) (h0:aa h 0=some {cells:=[.fz (rows Mb.l r.ms) r.ms.length,.ns,.fz (rows Tp.l r.tp) r.tp.length]}):
 cu F9 [.p 0 0,.fz (rows aq s.ss) s.ss.length] h n=some (true,{v:= .b (eQ (dS s.ss r.sh r.sh.length)),n,rd:=[0]}):=by
 obtain ⟨o1,o2,o3,o4,o5,o6⟩:=ho;have hf:([AV.fz (rows Mb.l r.ms) r.ms.length,.fz [] 0,.fz (rows Tp.l r.tp) r.tp.length]:List AV)=r.a:=by rw [Rm.a,hm];rfl
 simp only [cu,bn,bI,jH,ef (iB 0 s.ss),BX,ef (fT 0 r.ms),ef (fb 0 r.tp),h0,aC,eo,dh,hf,F9,dH,eD,o3,hi,af o2];rfl
theorem tr {n:Nat} {s:aW} (h:cC n s=true):bZ 1 3 (s.ss.length:Int)=true:=by
 simp_all [cC,ak]
/-! Its runs. -/
theorem ah3 (r:Rm) (s:aW) (ho:nD r s) (hm:r.sh≠[]) (he:j7 r s≠0):cz ay 89 (.p 0 0::iC s) [(0,{cells:=[.fz (rows Mb.l r.ms) r.ms.length,.sg 1 0 r.sh.length,.fz (rows Tp.l r.tp) r.tp.length]}),(1,jX r)] 2 (some (eJ (j7 r s))) (.bz []) [] 2:=by
 have h1: ∀(h:Hp) n,aa h 0=some {cells:=[.fz (rows Mb.l r.ms) r.ms.length,.sg 1 0 r.sh.length,.fz (rows Tp.l r.tp) r.tp.length]}->aa h 1=some (jX r)->cu Fm [.p 0 0,.agg [.i .i64 s.ow,.fz (rows aq s.ss) s.ss.length,.fz (rows aq s.rt) s.rt.length,.i .u64 s.bl]] h n=some (true,{v:= .b (cC r.ms.length s),n,rd:=[0,1]}):=λh n h0 h1=>aan ho hm 0 h n h0 h1;have h2: ∀(hi:bZ 1 3 (s.ss.length:Int)=true) (h:Hp) n,aa h 0=some {cells:=[.fz (rows Mb.l r.ms) r.ms.length,.sg 1 0 r.sh.length,.fz (rows Tp.l r.tp) r.tp.length]}->aa h 1=some (jX r)->cu F9 [.p 0 0,.fz (rows aq s.ss) s.ss.length] h n=some (true,{v:= .b (eQ (dS s.ss r.sh r.sh.length)),n,rd:=[0,1]}):=λhi h n h0 h1=>acK ho hi hm 0 h n h0 h1;have hi:= @tr r.ms.length s;have n1:decide (((r.sh.length:Nat):Int)<6)=decide (r.sh.length<6):=by grind
 have z1:decide (8*s.ss.length<=az)=true:=af (by have:=ho.2.2.2.2.1;grind [az])
 have z2:decide (8*s.rt.length<=az)=true:=af (by have:=ho.2.2.2.2.2;grind [az])
 have hR:j7 r s=if cC r.ms.length s&&eQ (dS s.ss r.sh r.sh.length) then (if r.sh.length<6 then 0 else 3) else 2:=rfl
 generalize j7 r s=R,cC r.ms.length s=c1,eQ (dS s.ss r.sh r.sh.length)=c2 at*;refine cz.dQ Pc mo Tryz.func89 BG (by simp [i89]) (aO ?_)
 dsimp only [i89,T89];cases c1
 ·have hR:R=2:=hR;subst hR;simp only [go_sem,vS,eD,z1,z2,h1,gA,simprocAttr];exact Ends.aw rfl rfl
 have h2:=h2 (hi rfl);cases c2
 ·have hR:R=2:=hR;subst hR;simp only [go_sem,vS,eD,z1,z2,h1,h2,gA,simprocAttr];exact Ends.aw rfl rfl
 ·simp only [aG,cM] at hR;have c3:decide (r.sh.length<6)=false:=by
   grind
  rw [aY (tM c3)] at hR;subst hR;simp only [go_sem,vS,eD,z1,z2,h1,h2,n1,c3,gA,simprocAttr];exact Ends.aw rfl rfl
theorem w89 (r:Rm) (s:aW) (ho:nD r s) (hm:r.sh≠[]) (he:j7 r s=0):cz ay 89 (.p 0 0::iC s) [(0,{cells:=[.fz (rows Mb.l r.ms) r.ms.length,.sg 1 0 r.sh.length,.fz (rows Tp.l r.tp) r.tp.length]}),(1,jX r)] 2 none (.bz []) [(0,{cells:=[.fz (rows Mb.l r.ms) r.ms.length,.sg 2 0 (r.sh.length+1),.fz (rows Tp.l r.tp) r.tp.length]}),(2,{cells:=rows aW.l (r.sh++[s]),gr:=some 4})] 3:=by
 have h1: ∀(h:Hp) n,aa h 0=some {cells:=[.fz (rows Mb.l r.ms) r.ms.length,.sg 1 0 r.sh.length,.fz (rows Tp.l r.tp) r.tp.length]}->aa h 1=some (jX r)->cu Fm [.p 0 0,.agg [.i .i64 s.ow,.fz (rows aq s.ss) s.ss.length,.fz (rows aq s.rt) s.rt.length,.i .u64 s.bl]] h n=some (true,{v:= .b (cC r.ms.length s),n,rd:=[0,1]}):=λh n h0 h1=>aan ho hm 0 h n h0 h1;have h2: ∀(hi:bZ 1 3 (s.ss.length:Int)=true) (h:Hp) n,aa h 0=some {cells:=[.fz (rows Mb.l r.ms) r.ms.length,.sg 1 0 r.sh.length,.fz (rows Tp.l r.tp) r.tp.length]}->aa h 1=some (jX r)->cu F9 [.p 0 0,.fz (rows aq s.ss) s.ss.length] h n=some (true,{v:= .b (eQ (dS s.ss r.sh r.sh.length)),n,rd:=[0,1]}):=λhi h n h0 h1=>acK ho hi hm 0 h n h0 h1;have hi:= @tr r.ms.length s;have n1:decide (((r.sh.length:Nat):Int)<6)=decide (r.sh.length<6):=by grind
 have z1:decide (8*s.ss.length<=az)=true:=af (by have:=ho.2.2.2.2.1;grind [az])
 have z2:decide (8*s.rt.length<=az)=true:=af (by have:=ho.2.2.2.2.2;grind [az])
 have hR:j7 r s=if cC r.ms.length s&&eQ (dS s.ss r.sh r.sh.length) then (if r.sh.length<6 then 0 else 3) else 2:=rfl
 have hmB:=λj=>fT j r.ms;have hmR:=λg=>jI g r.ms;have htB:=λj=>fb j r.tp;have htR:=λg=>jC g r.tp;have zR:(rows aW.l r.sh).length=r.sh.length*4:=aU aW.len;have ha:rows aW.l (r.sh++[s])=rows aW.l r.sh++[.i .i64 s.ow,.fz (rows aq s.ss) s.ss.length,.fz (rows aq s.rt) s.rt.length,.i .u64 s.bl]:=by simp [rows,aW.l,dh]
 have hsB:=λj=>cG j (r.sh++[s]);have hsR:=λg=>dT g (r.sh++[s]);have gm:decide (64*(r.sh.length+1)<=az)=true:=af (by grind [az])
 have i1:=λj=>iB j s.ss;have i2:=λj=>iB j s.rt;have i3:=λg=>iR g s.ss;have i4:=λg=>iR g s.rt;rw [ha] at hsB hsR;rw [ha];rw [hR] at he;have h3:cC r.ms.length s=true/\eQ (dS s.ss r.sh r.sh.length)=true/\decide (r.sh.length<6)=true:=by
  grind
 clear hR he;obtain ⟨c1,c2,c3⟩:=h3;have h4:=h2 (hi c1);rw [c1] at h1;rw [c2] at h4;refine cz.dQ Pc mo Tryz.func89 BG (by simp [i89]) (aO ?_)
 dsimp only [i89,T89];simp only [go_sem,vS,eD,z1,z2,h1,h4,n1,c3,gA,gm,zR,simprocAttr];refine Ends.R [(2,4)] (by decide) (by decide) rfl rfl ?_
 simp only [go_sem,AV.aj,ab,aP,bp.aQ,AV.aQ,aS,hmB,hmR,htB,htR,hsB,hsR,simprocAttr]
theorem aet (r:Rm) (s:aW) (ho:nD r s) (hm:r.sh=[]) (he:j7 r s≠0):cz ay 89 (.p 0 0::iC s) [(0,{cells:=[.fz (rows Mb.l r.ms) r.ms.length,.ns,.fz (rows Tp.l r.tp) r.tp.length]})] 1 (some (eJ (j7 r s))) (.bz []) [] 1:=by
 have h1: ∀(h:Hp) n,aa h 0=some {cells:=[.fz (rows Mb.l r.ms) r.ms.length,.ns,.fz (rows Tp.l r.tp) r.tp.length]}->cu Fm [.p 0 0,.agg [.i .i64 s.ow,.fz (rows aq s.ss) s.ss.length,.fz (rows aq s.rt) s.rt.length,.i .u64 s.bl]] h n=some (true,{v:= .b (cC r.ms.length s),n,rd:=[0]}):=λh n h0  =>ae9 ho hm h n h0 ;have h2: ∀(hi:bZ 1 3 (s.ss.length:Int)=true) (h:Hp) n,aa h 0=some {cells:=[.fz (rows Mb.l r.ms) r.ms.length,.ns,.fz (rows Tp.l r.tp) r.tp.length]}->cu F9 [.p 0 0,.fz (rows aq s.ss) s.ss.length] h n=some (true,{v:= .b (eQ (dS s.ss r.sh r.sh.length)),n,rd:=[0]}):=λhi h n h0  =>aeC ho hi hm h n h0 ;have hi:= @tr r.ms.length s;have n1:decide (((r.sh.length:Nat):Int)<6)=decide (r.sh.length<6):=by grind
 have z1:decide (8*s.ss.length<=az)=true:=af (by have:=ho.2.2.2.2.1;grind [az])
 have z2:decide (8*s.rt.length<=az)=true:=af (by have:=ho.2.2.2.2.2;grind [az])
 have hR:j7 r s=if cC r.ms.length s&&eQ (dS s.ss r.sh r.sh.length) then (if r.sh.length<6 then 0 else 3) else 2:=rfl
 generalize j7 r s=R,cC r.ms.length s=c1,eQ (dS s.ss r.sh r.sh.length)=c2 at*;refine cz.dQ Pc mo Tryz.func89 BG (by simp [i89]) (aO ?_)
 dsimp only [i89,T89];cases c1
 ·have hR:R=2:=hR;subst hR;simp only [go_sem,vS,eD,z1,z2,h1,gA,simprocAttr];exact Ends.aw rfl rfl
 have h2:=h2 (hi rfl);cases c2
 ·have hR:R=2:=hR;subst hR;simp only [go_sem,vS,eD,z1,z2,h1,h2,gA,simprocAttr];exact Ends.aw rfl rfl
 grind
theorem ag6 (r:Rm) (s:aW) (ho:nD r s) (hm:r.sh=[]) (he:j7 r s=0):cz ay 89 (.p 0 0::iC s) [(0,{cells:=[.fz (rows Mb.l r.ms) r.ms.length,.ns,.fz (rows Tp.l r.tp) r.tp.length]})] 1 none (.bz []) [(0,{cells:=[.fz (rows Mb.l r.ms) r.ms.length,.sg 1 0 (r.sh.length+1),.fz (rows Tp.l r.tp) r.tp.length]}),(1,{cells:=rows aW.l (r.sh++[s]),gr:=some 4})] 2:=by
 have h1: ∀(h:Hp) n,aa h 0=some {cells:=[.fz (rows Mb.l r.ms) r.ms.length,.ns,.fz (rows Tp.l r.tp) r.tp.length]}->cu Fm [.p 0 0,.agg [.i .i64 s.ow,.fz (rows aq s.ss) s.ss.length,.fz (rows aq s.rt) s.rt.length,.i .u64 s.bl]] h n=some (true,{v:= .b (cC r.ms.length s),n,rd:=[0]}):=λh n h0  =>ae9 ho hm h n h0 ;have h2: ∀(hi:bZ 1 3 (s.ss.length:Int)=true) (h:Hp) n,aa h 0=some {cells:=[.fz (rows Mb.l r.ms) r.ms.length,.ns,.fz (rows Tp.l r.tp) r.tp.length]}->cu F9 [.p 0 0,.fz (rows aq s.ss) s.ss.length] h n=some (true,{v:= .b (eQ (dS s.ss r.sh r.sh.length)),n,rd:=[0]}):=λhi h n h0  =>aeC ho hi hm h n h0 ;have hi:= @tr r.ms.length s;have n1:decide (((r.sh.length:Nat):Int)<6)=decide (r.sh.length<6):=by grind
 have z1:decide (8*s.ss.length<=az)=true:=af (by have:=ho.2.2.2.2.1;grind [az])
 have z2:decide (8*s.rt.length<=az)=true:=af (by have:=ho.2.2.2.2.2;grind [az])
 have hR:j7 r s=if cC r.ms.length s&&eQ (dS s.ss r.sh r.sh.length) then (if r.sh.length<6 then 0 else 3) else 2:=rfl
 have hmB:=λj=>fT j r.ms;have hmR:=λg=>jI g r.ms;have htB:=λj=>fb j r.tp;have htR:=λg=>jC g r.tp;have zR:(rows aW.l r.sh).length=r.sh.length*4:=aU aW.len;have ha:rows aW.l (r.sh++[s])=rows aW.l r.sh++[.i .i64 s.ow,.fz (rows aq s.ss) s.ss.length,.fz (rows aq s.rt) s.rt.length,.i .u64 s.bl]:=by simp [rows,aW.l,dh]
 have hsB:=λj=>cG j (r.sh++[s]);have hsR:=λg=>dT g (r.sh++[s]);have gm:decide (64*(r.sh.length+1)<=az)=true:=af (by grind [az])
 have i1:=λj=>iB j s.ss;have i2:=λj=>iB j s.rt;have i3:=λg=>iR g s.ss;have i4:=λg=>iR g s.rt;rw [ha] at hsB hsR;rw [ha];rw [hR] at he;have h3:cC r.ms.length s=true/\eQ (dS s.ss r.sh r.sh.length)=true/\decide (r.sh.length<6)=true:=by
  grind
 clear hR he;obtain ⟨c1,c2,c3⟩:=h3;have h4:=h2 (hi c1);rw [hm] at c2 h4 gm hsB hsR ha ⊢;have gm:decide (64<=az)=true:=rfl;have hz0:rows aW.l []=[]:=rfl;simp only [fP,fy,hz0,List.nil_append] at hsB hsR h4 c2 ⊢;rw [c1] at h1;rw [c2] at h4;refine cz.dQ Pc mo Tryz.func89 BG (by simp [i89]) (aO ?_)
 dsimp only [i89,T89];simp only [go_sem,vS,eD,z1,z2,h1,h4,gA,gm,simprocAttr];refine Ends.R [(1,3)] (by decide) (by decide) rfl rfl ?_
 simp only [go_sem,AV.aj,ab,aP,bp.aQ,AV.aQ,aS,hmB,hmR,htB,htR,i1,i2,i3,i4,simprocAttr]
theorem RC {r:Rm} (hg:aX r=true):r.sh.all vZ=true:=by
 rw [du];intro s hs;have h0:=hg;simp only [aX,fB,ak] at h0;have:=du.1 h0.2.1.2.1 s hs;exact tr this
theorem VZ {r:Rm} (hg:aX r=true) {s:aW} (hs:s.ok=true) (h1:s.ss.length<=1000) (h2:s.rt.length<=1000):nD r s:=⟨(ek hg).1,(ek hg).2.1,RC hg,hs,h1,h2⟩
theorem aaI {r:Rm} (hr:r.is=true) (hg:aX r=true) (hm:r.sh≠[]) (h:Hp) (n:Nat):fj false true false [.agg r.a] h n=some (true,{v:= .p n 0,n:=n+4,nw:=[(n,{cells:=[.fz (rows Mb.l r.ms) r.ms.length,.sg (n+2) 0 r.sh.length,.fz (rows Tp.l r.tp) r.tp.length]}),(n+2,jX r)]}):=by
 simp only [fj,dH,aC,hr,hg,cond_true];have e:=pW (f:=aW.l) (z:=4) (l:=r.sh) (sO.2 hm);unfold fS nh mV mH sV tV sH tH;rw [e];rfl
theorem TW {r:Rm} (hr:r.is=true) (hg:aX r=true) (hm:r.sh=[]) (h:Hp) (n:Nat):fj false true false [.agg r.a] h n=some (true,{v:= .p n 0,n:=n+4,nw:=[(n,{cells:=[.fz (rows Mb.l r.ms) r.ms.length,.ns,.fz (rows Tp.l r.tp) r.tp.length]})]}):=by
 simp only [fj,dH,aC,hr,hg,cond_true];unfold fS nh mV mH sV tV sH tH;rw [hm];rfl
theorem acv (r:Rm) (hr:r.is=true) (hg:aX r=true) (s:aW) (ho:nD r s) (hm:r.sh≠[]) (he:j7 r s=0):bG ay 135 [.fp r.a 0,.fp [.fn 89 (iC s)] 0] [] 0 (.agg [.fz (rows Mb.l r.ms) r.ms.length,.fz (rows aW.l (r.sh++[s])) (r.sh.length+1),.fz (rows Tp.l r.tp) r.tp.length]) [] 0:=by
 have sB2:=λj=>cG j (r.sh++[s]);have sR2:=λg=>dT g (r.sh++[s]);have i1:=λj=>iB j s.ss;have i2:=λj=>iB j s.rt;have i3:=λg=>iR g s.ss;have i4:=λg=>iR g s.rt;have mB:=λj=>fT j r.ms;have sB:=λj=>cG j r.sh;have tB:=λj=>fb j r.tp;have mR:=λg=>jI g r.ms;have sR:=λg=>dT g r.sh;have tR:=λg=>jC g r.tp;have hs:=cK (R:=[1,3]) (ks:=[{cells:=[.fz (rows Mb.l r.ms) r.ms.length,.sg 1 0 r.sh.length,.fz (rows Tp.l r.tp) r.tp.length]},jX r]) (by kernel_rfl) (by decide) (by grind [ab,AV.aj,aP]) (w89 r s ho hm he) (by decide) (by simp_all [l5,ab,AV.aj,dD,aP])
 have hat: ∀(h:Hp) n,aa h 1=some {cells:=[.fz (rows Mb.l r.ms) r.ms.length,.sg 3 0 r.sh.length,.fz (rows Tp.l r.tp) r.tp.length]}->aa h 3=some (jX r)->kH [1,3] [{cells:=[.fz (rows Mb.l r.ms) r.ms.length,.sg 1 0 r.sh.length,.fz (rows Tp.l r.tp) r.tp.length]},jX r] (.p 0 0::(iC s)) (.bz []) [(0,{cells:=[.fz (rows Mb.l r.ms) r.ms.length,.sg 2 0 (r.sh.length+1),.fz (rows Tp.l r.tp) r.tp.length]}),(2,{cells:=rows aW.l (r.sh++[s]),gr:=some 4})] 3 none (.p 1 0::(iC s)) h n=some (true,{v:= .bz [],n:=n+1,rd:=[1,3],md:=[(1,some {cells:=[.fz (rows Mb.l r.ms) r.ms.length,.sg n 0 (r.sh.length+1),.fz (rows Tp.l r.tp) r.tp.length]}),(3,none)],nw:=[(n,{cells:=rows aW.l (r.sh++[s]),gr:=some 4})]}):=λh n h1 h2=>by
  refine ej (h:=h) (n:=n) (by simp [aS,AV.aQ,nth,i3,i4]) ⟨⟨?_,?_⟩,⟨?_,?_⟩,trivial⟩ ?_
  all_goals simp_all [bp.aQ,aS,AV.aQ,nth,ab,AV.aj,aP,nR,fL,jA,aa,eu]
 generalize kH [1,3] _ _ _ _ _ _=kT at hs hat;have hk: ∀(h:Hp) n,fj false true false [.agg r.a] h n=some (true,{v:= .p n 0,n:=n+4,nw:=[(n,{cells:=[.fz (rows Mb.l r.ms) r.ms.length,.sg (n+2) 0 r.sh.length,.fz (rows Tp.l r.tp) r.tp.length]}),(n+2,jX r)]}):=aaI hr hg hm;have hcx:=rz (lm:=false) (ls:=true) (lt:=false) hs;generalize fj false true false=kb at*;have a3:r.a.length=3:=rfl;have ad:List.take 3 (List.drop 0 r.a)=r.a:=rfl;generalize r.a=ra at*;refine bG.dy hcx mo Tryz.func135 fU (by simp [i135]) (aO ?_)
 dsimp only [i135,xq];simp only [go_sem,hk,a3,ad,hat,simprocAttr];refine aZ.rY (b:=5) (x:= .sg 5 0 (r.sh.length+1)) (o:=0) (m:=r.sh.length+1) (cs:=rows aW.l (r.sh++[s])) (v':= .agg [.fz (rows Mb.l r.ms) r.ms.length,.fz (rows aW.l (r.sh++[s])) (r.sh.length+1),.fz (rows Tp.l r.tp) r.tp.length]) (h':=[]) rfl rfl (.inr rfl) (.inl rfl) (bW.agg ⟨bW.refl,bW.hit,bW.refl,trivial⟩) trivial ?_
 grind [aZ.ends,Ends.aw,AV.aj,ab,cG,aG]
theorem Zt (r:Rm) (hr:r.is=true) (hg:aX r=true) (s:aW) (ho:nD r s) (hm:r.sh≠[]) (he:j7 r s≠0):cz ay 135 [.fp r.a 0,.fp [.fn 89 (iC s)] 0] [] 0 (some (eJ (j7 r s))) (.bz []) [] 0:=by
 have sB2:=λj=>cG j (r.sh++[s]);have sR2:=λg=>dT g (r.sh++[s]);have i1:=λj=>iB j s.ss;have i2:=λj=>iB j s.rt;have i3:=λg=>iR g s.ss;have i4:=λg=>iR g s.rt;have mB:=λj=>fT j r.ms;have sB:=λj=>cG j r.sh;have tB:=λj=>fb j r.tp;have mR:=λg=>jI g r.ms;have sR:=λg=>dT g r.sh;have tR:=λg=>jC g r.tp;have hs:=cK (R:=[1,3]) (ks:=[{cells:=[.fz (rows Mb.l r.ms) r.ms.length,.sg 1 0 r.sh.length,.fz (rows Tp.l r.tp) r.tp.length]},jX r]) (by kernel_rfl) (by decide) (by grind [ab,AV.aj,aP]) (ah3 r s ho hm he) (by decide) (by simp [l5])
 have hat: ∀(h:Hp) n,aa h 1=some {cells:=[.fz (rows Mb.l r.ms) r.ms.length,.sg 3 0 r.sh.length,.fz (rows Tp.l r.tp) r.tp.length]}->aa h 3=some (jX r)->kH [1,3] [{cells:=[.fz (rows Mb.l r.ms) r.ms.length,.sg 1 0 r.sh.length,.fz (rows Tp.l r.tp) r.tp.length]},jX r] (.p 0 0::(iC s)) (.bz []) [] 2 (some (eJ (j7 r s))) (.p 1 0::(iC s)) h n=some (true,{v:= .bz [],n,rd:=[1,3],md:=[(1,none),(3,none)],pn:=some (eJ (j7 r s))}):=λh n h1 h2=>by
  refine ej (h:=h) (n:=n) (by simp [aS,AV.aQ,nth,i3,i4]) ⟨⟨?_,?_⟩,⟨?_,?_⟩,trivial⟩ ?_
  all_goals simp_all [bp.aQ,aS,AV.aQ,nth,ab,AV.aj,aP,nR,fL,aa]
 generalize kH [1,3] _ _ _ _ _ _=kT at hs hat;have hk: ∀(h:Hp) n,fj false true false [.agg r.a] h n=some (true,{v:= .p n 0,n:=n+4,nw:=[(n,{cells:=[.fz (rows Mb.l r.ms) r.ms.length,.sg (n+2) 0 r.sh.length,.fz (rows Tp.l r.tp) r.tp.length]}),(n+2,jX r)]}):=aaI hr hg hm;have hcx:=rz (lm:=false) (ls:=true) (lt:=false) hs;generalize fj false true false=kb at*;have a3:r.a.length=3:=rfl;have ad:List.take 3 (List.drop 0 r.a)=r.a:=rfl;generalize r.a=ra at*;refine cz.dQ hcx mo Tryz.func135 fU (by simp [i135]) (aO ?_)
 dsimp only [i135,xq];simp only [go_sem,hk,a3,ad,hat,simprocAttr];exact Ends.aw rfl rfl
theorem W9 (r:Rm) (hr:r.is=true) (hg:aX r=true) (s:aW) (ho:nD r s) (hm:r.sh=[]) (he:j7 r s=0):bG ay 135 [.fp r.a 0,.fp [.fn 89 (iC s)] 0] [] 0 (.agg [.fz (rows Mb.l r.ms) r.ms.length,.fz (rows aW.l (r.sh++[s])) (r.sh.length+1),.fz (rows Tp.l r.tp) r.tp.length]) [] 0:=by
 have sB2:=λj=>cG j (r.sh++[s]);have sR2:=λg=>dT g (r.sh++[s]);have i1:=λj=>iB j s.ss;have i2:=λj=>iB j s.rt;have i3:=λg=>iR g s.ss;have i4:=λg=>iR g s.rt;have mB:=λj=>fT j r.ms;have sB:=λj=>cG j r.sh;have tB:=λj=>fb j r.tp;have mR:=λg=>jI g r.ms;have sR:=λg=>dT g r.sh;have tR:=λg=>jC g r.tp;have hs:=cK (R:=[1]) (ks:=[{cells:=[.fz (rows Mb.l r.ms) r.ms.length,.ns,.fz (rows Tp.l r.tp) r.tp.length]}]) (by kernel_rfl) (by decide) (by grind [ab,AV.aj,aP]) (ag6 r s ho hm he) (by decide) (by simp_all [l5,ab,AV.aj,dD,aP])
 have hat: ∀(h:Hp) n,aa h 1=some {cells:=[.fz (rows Mb.l r.ms) r.ms.length,.ns,.fz (rows Tp.l r.tp) r.tp.length]}->kH [1] [{cells:=[.fz (rows Mb.l r.ms) r.ms.length,.ns,.fz (rows Tp.l r.tp) r.tp.length]}] (.p 0 0::(iC s)) (.bz []) [(0,{cells:=[.fz (rows Mb.l r.ms) r.ms.length,.sg 1 0 (r.sh.length+1),.fz (rows Tp.l r.tp) r.tp.length]}),(1,{cells:=rows aW.l (r.sh++[s]),gr:=some 4})] 2 none (.p 1 0::(iC s)) h n=some (true,{v:= .bz [],n:=n+1,rd:=[1],md:=[(1,some {cells:=[.fz (rows Mb.l r.ms) r.ms.length,.sg n 0 (r.sh.length+1),.fz (rows Tp.l r.tp) r.tp.length]})],nw:=[(n,{cells:=rows aW.l (r.sh++[s]),gr:=some 4})]}):=λh n h1  =>by
  refine ej (h:=h) (n:=n) (by simp [aS,AV.aQ,nth,i3,i4]) ⟨⟨?_,?_⟩,trivial⟩ ?_
  all_goals simp_all [bp.aQ,aS,AV.aQ,ab,AV.aj,nR,fL,jA,nth,aa,aP,eu]
 generalize kH [1] _ _ _ _ _ _=kT at hs hat;have hk: ∀(h:Hp) n,fj false true false [.agg r.a] h n=some (true,{v:= .p n 0,n:=n+4,nw:=[(n,{cells:=[.fz (rows Mb.l r.ms) r.ms.length,.ns,.fz (rows Tp.l r.tp) r.tp.length]})]}):=TW hr hg hm;have hcx:=rz (lm:=false) (ls:=true) (lt:=false) hs;generalize fj false true false=kb at*;have a3:r.a.length=3:=rfl;have ad:List.take 3 (List.drop 0 r.a)=r.a:=rfl;generalize r.a=ra at*;refine bG.dy hcx mo Tryz.func135 fU (by simp [i135]) (aO ?_)
 dsimp only [i135,xq];simp only [go_sem,hk,a3,ad,hat,simprocAttr];refine aZ.rY (b:=5) (x:= .sg 5 0 (r.sh.length+1)) (o:=0) (m:=r.sh.length+1) (cs:=rows aW.l (r.sh++[s])) (v':= .agg [.fz (rows Mb.l r.ms) r.ms.length,.fz (rows aW.l (r.sh++[s])) (r.sh.length+1),.fz (rows Tp.l r.tp) r.tp.length]) (h':=[]) rfl rfl (.inr rfl) (.inl rfl) (bW.agg ⟨bW.refl,bW.hit,bW.refl,trivial⟩) trivial ?_
 grind [aZ.ends,Ends.aw,AV.aj,ab,cG,aG]
theorem N8 (r:Rm) (hr:r.is=true) (hg:aX r=true) (s:aW) (ho:nD r s) (hm:r.sh=[]) (he:j7 r s≠0):cz ay 135 [.fp r.a 0,.fp [.fn 89 (iC s)] 0] [] 0 (some (eJ (j7 r s))) (.bz []) [] 0:=by
 have sB2:=λj=>cG j (r.sh++[s]);have sR2:=λg=>dT g (r.sh++[s]);have i1:=λj=>iB j s.ss;have i2:=λj=>iB j s.rt;have i3:=λg=>iR g s.ss;have i4:=λg=>iR g s.rt;have mB:=λj=>fT j r.ms;have sB:=λj=>cG j r.sh;have tB:=λj=>fb j r.tp;have mR:=λg=>jI g r.ms;have sR:=λg=>dT g r.sh;have tR:=λg=>jC g r.tp;have hs:=cK (R:=[1]) (ks:=[{cells:=[.fz (rows Mb.l r.ms) r.ms.length,.ns,.fz (rows Tp.l r.tp) r.tp.length]}]) (by kernel_rfl) (by decide) (by grind [ab,AV.aj,aP]) (aet r s ho hm he) (by decide) (by simp [l5])
 have hat: ∀(h:Hp) n,aa h 1=some {cells:=[.fz (rows Mb.l r.ms) r.ms.length,.ns,.fz (rows Tp.l r.tp) r.tp.length]}->kH [1] [{cells:=[.fz (rows Mb.l r.ms) r.ms.length,.ns,.fz (rows Tp.l r.tp) r.tp.length]}] (.p 0 0::(iC s)) (.bz []) [] 1 (some (eJ (j7 r s))) (.p 1 0::(iC s)) h n=some (true,{v:= .bz [],n,rd:=[1],md:=[(1,none)],pn:=some (eJ (j7 r s))}):=λh n h1  =>by
  refine ej (h:=h) (n:=n) (by simp [aS,AV.aQ,nth,i3,i4]) ⟨⟨?_,?_⟩,trivial⟩ ?_
  all_goals simp_all [bp.aQ,aS,AV.aQ,ab,AV.aj,nR,fL,aa]
 generalize kH [1] _ _ _ _ _ _=kT at hs hat;have hk: ∀(h:Hp) n,fj false true false [.agg r.a] h n=some (true,{v:= .p n 0,n:=n+4,nw:=[(n,{cells:=[.fz (rows Mb.l r.ms) r.ms.length,.ns,.fz (rows Tp.l r.tp) r.tp.length]})]}):=TW hr hg hm;have hcx:=rz (lm:=false) (ls:=true) (lt:=false) hs;generalize fj false true false=kb at*;have a3:r.a.length=3:=rfl;have ad:List.take 3 (List.drop 0 r.a)=r.a:=rfl;generalize r.a=ra at*;refine cz.dQ hcx mo Tryz.func135 fU (by simp [i135]) (aO ?_)
 dsimp only [i135,xq];simp only [go_sem,hk,a3,ad,hat,simprocAttr];exact Ends.aw rfl rfl
theorem zU (s:aW) (h:Hp) (f:Nat):lV (Go.Ab.nv h f) (iC s)=some ([],iC s):=by
 have b1:ab 0 [AV.i .i64 s.ow]=true:=rfl;have b2:ab 0 [AV.fz (rows aq s.ss) s.ss.length]=true:=by simp only [ab,AV.aj,iB,aG]
 have b3:ab 0 [AV.fz (rows aq s.rt) s.rt.length]=true:=by simp only [ab,AV.aj,iB,aG]
 have b4:ab 0 [AV.i .u64 s.bl]=true:=rfl;simp_all [bn,bI,vA,aC,dh]
theorem ur (s:aW):ab 0 (iC s)=true:=by simp only [ab,AV.aj,iB,aG]
theorem afZ (r:Rm) (hr:r.is=true) (s:aW) (hs:s.ok=true) (h1:s.ss.length<=1000) (h2:s.rt.length<=1000):bG ay 59 [.agg r.a,.fn 89 (iC s)] [] 0 (jS (gJ r s)) [] 0:=by
 cases hg:aX r
 ·grind [gJ,vr,tv,L4,zU,ur]
 ·have ho:=VZ hg hs h1 h2;have e2:(gJ r s).2=j7 r s:=by simp only [gJ,tv,hg,cM]
  refine BE r 89 _ (zU s) (ur s) _ (λh=> ?_) (λh=> ?_) (λh=> ?_)
  ·simp_all [gJ]
  ·have eR:(gJ r s).1.a=[.fz (rows Mb.l r.ms) r.ms.length,.fz (rows aW.l (r.sh++[s])) (r.sh.length+1),.fz (rows Tp.l r.tp) r.tp.length]:=by
    simp_all [tv,gJ,Rm.a,cm,List.length_cons,fP]
   grind [W9,acv]
  grind [N8,Zt]
theorem w23 (r:Rm) (hr:r.is=true) (s:aW) (hs:s.ok=true) (h1:s.ss.length<=1000) (h2:s.rt.length<=1000) (hl:r.sh.length<=1000000):
 bG ay 23 [.agg r.a,.i .i64 s.ow,.fz (rows aq s.ss) s.ss.length,.fz (rows aq s.rt) s.rt.length,.i .u64 s.bl] [] 0 (k9 (gJ r s).1 (jQ (gJ r s).1.sh.length) (gJ r s).2) [] 0:=by
 have hb:=iF (gJ r s);have hrb:=Rm.aj 0 r;have hcb:=ur s;have hst:=dc (by kernel_rfl) (by grind [ab,AV.aj,iB,aG]) hb (afZ r hr s hs h1 h2)
 have hat:=λh n=>gC (a0:=[.agg r.a,.fn 89 (iC s)]) (v0:=jS (gJ r s)) h n;have hlen:(gJ r s).1.sh.length<=1000001:=by
  unfold gJ;split
  ·grind
  ·exact cr _
 generalize kP _ _=kT at hst hat;have hv:=λh f=>mY h f r;have hk: ∀(h:Hp) n,aa h 1=some {cells:=[.i .i64 s.ow]}->aa h 2=some {cells:=[.fz (rows aq s.ss) s.ss.length]}->aa h 3=some {cells:=[.fz (rows aq s.rt) s.rt.length]}->aa h 4=some {cells:=[.i .u64 s.bl]}->ff kT [.agg r.a,.fn 89 [.p 1 0,.p 2 0,.p 3 0,.p 4 0]] h n=some (true,{v:=jS (gJ r s),n,rd:=[1,2,3,4],md:=[(1,none),(2,none),(3,none),(4,none)]}):=λh n h1 h2 h3 h4=>by
  simp only [ff,bn,bI,lj,jH,kN,kC,ef (iB 0 s.ss),ef (iB 0 s.rt),hv,h1,h2,h3,h4,aC,eo,hat,hb,ez,List.nil_append,dh];simp_all [bV.plain,wN,j4]
 have hcx:Sound ay (cj [(59,ff kT)]):=Sound.cons hst.ng Sound.nil;have a3:r.a.length=3:=rfl;generalize hR:gJ r s=R at*;obtain ⟨R,e⟩:=R;have a0:R.a.length=3:=rfl;have ao:aL R.a=true:=rfl;have ad:List.take 3 (List.drop 0 R.a)=R.a:=rfl;have ad2:List.take 3 (List.drop 0 r.a)=r.a:=rfl;have ag:R.a[1]? =some (.fz (rows aW.l R.sh) R.sh.length):=rfl;have hbR:=Rm.aj 0 R;have n1:IntKind.i64.wrap ((R.sh.length:Int)-1)=(R.sh.length:Int)-1:=by grind [aN]
 simp only [jS,k9] at*;generalize R.a=RA at*;generalize r.a=ra at*;refine ew hcx Tryz.func23 Uy ?_
 dsimp only [i23];simp only [go_sem,hk,a3,a0,ao,ad,ad2,ag,n1,simprocAttr];exact Ends.aw (by grind [AV.aj,ab,aG]) rfl
/-! The contracts. -/
theorem ny (r:Rm) (i e:Int):(k9 r i e).aj 0=true:=by simp only [k9,AV.aj,ab,Rm.aj,aG]
def Ho:Ct
 |[.agg c,.s s],_,n=>(qX c).bind λr=>some (r.is&&decide (r.ms.length<=1000000),{v:=k9 (gY r s).1 (jQ (gY r s).1.ms.length) (gY r s).2,n})
 |_,_,_=>none
theorem s24:ax ay 24 Ho:=λargs h n c E hc ht=>by
 unfold Ho at hc;split at hc
 ·simp only [av,aI,aV] at hc;obtain ⟨r,hr,rfl,rfl⟩:=hc;rw [dW hr];simp only [ak,bg] at ht;exact aA.pure (by kernel_rfl) (by simp only [ab,AV.aj,Rm.aj,aG]) (ny _ _ _) (w24 r ht.1 _ ht.2) _ _
 ·cases hc
def Hy:Ct
 |[.agg c,.i .i64 o,.fz L m,.fz K k,.i .u64 b],_,n=>(qX c).bind λr=>(bc 1 dG m L).bind λss=>(bc 1 dG k K).bind λrt=>
  some (r.is&&(aW.ok ⟨o,ss,rt,b⟩&&(decide (ss.length<=1000)&&(decide (rt.length<=1000)&&decide (r.sh.length<=1000000)))),{v:=k9 (gJ r ⟨o,ss,rt,b⟩).1 (jQ (gJ r ⟨o,ss,rt,b⟩).1.sh.length) (gJ r ⟨o,ss,rt,b⟩).2,n})
 |_,_,_=>none
theorem s23:ax ay 23 Hy:=λargs h n c E hc ht=>by
 unfold Hy at hc;split at hc
 ·simp only [av,aI,aV] at hc;obtain ⟨r,hr,ss,h1,rt,h2,rfl,rfl⟩:=hc;rw [dW hr];obtain ⟨rfl,rfl⟩:=bu df h1;obtain ⟨rfl,rfl⟩:=bu df h2;simp only [ak,bg] at ht;exact aA.pure (by kernel_rfl) (by simp only [ab,AV.aj,Rm.aj,iB,aG]) (ny _ _ _) (w23 r ht.1 ⟨_,ss,rt,_⟩ ht.2.1 ht.2.2.1 ht.2.2.2.1 ht.2.2.2.2) _ _
 ·cases hc
structure Op where
 wt:Int
 mo:Int
 rt:List Int
def yE (r:Rm) (i:Nat):Op:=match r.tp[i]? with
 |some t=>⟨t.wt,t.mo,if 0<=t.sh then (match r.sh[t.sh.toNat]? with|some s=>s.rt|none=>[]) else []⟩
 |none=>⟨0,0,[]⟩
def cf (r:Rm) (m:Int):List Op:=(dw r.tp m).map (yE r)
def okO (o:Op):Bool:=bZ 0 10 o.wt&&(bZ 0 2 o.mo&&(decide (o.mo<o.rt.length)&&(decide (o.rt.length<=3)&&o.rt.all (bZ 0 1073741824))))
def ia (os:List Op):Bool:=decide (os.length<=5)&&os.all okO
def okX (os:List Op) (k:Nat) (x:Int):Bool:=match os[k]? with
 |some o=>bZ (-1) o.mo x
 |none=>false
def yZ (os:List Op) (c:List Int):Bool:=decide (c.length=os.length)&&eE (okX os) c 0
def My (o:Op) (x:Int) (v:Int×Int):Int×Int:=if 0<=x then (v.1+o.wt*(x+1),v.2-o.rt.getD x.toNat 0) else v
def fX (os:List Op) (c:List Int) (b:Int):Nat->Int×Int
 |0=>(0,b)
 |k+1=>match os[k]?,c[k]? with
  |some o,some x=>My o x (fX os c b k)
  |_,_=>fX os c b k
theorem yx {o:Op} (h:okO o=true):(0<=o.wt/\o.wt<=10)/\(0<=o.mo/\o.mo<=2)/\o.mo<o.rt.length/\o.rt.length<=3/\ ∀(k:Nat) (x:Int),o.rt[k]? =some x->0<=x/\x<=1073741824:=by
 simp only [okO,ak,bg] at h;obtain ⟨h1,h2,h3,h4,h5⟩:=h;exact ⟨bD h1,bD h2,h3,h4,λk x hk=>bD (du.1 h5 x (bJ hk))⟩
theorem tQ {os:List Op} (h:ia os=true) {k:Nat} {o:Op} (ho:os[k]? =some o):okO o=true:=by
 simp only [ia,ak] at h
 grind
theorem BI {os:List Op} {c:List Int} (h:yZ os c=true) {k:Nat} {o:Op} {x:Int} (ho:os[k]? =some o) (hx:c[k]? =some x): -1<=x/\x<=o.mo:=by
 simp only [yZ,ak,dt] at h;have:=h.2 k x hx;simp only [okX,fy,ho] at this;exact bD this
theorem AO {os:List Op} {c:List Int} {b:Int} (h1:ia os=true) (h2:yZ os c=true): ∀k,0<=(fX os c b k).1/\(fX os c b k).1<=30*k/\(fX os c b k).2<=b/\b-1073741824*k<=(fX os c b k).2
 |0=>by simp [fX]
 |k+1=>by
  have ih:=AO (b:=b) h1 h2 k;simp only [fX];split
  ·rename_i o x ho hx;obtain ⟨w1,w2,w3,w4,w5⟩:=yx (tQ h1 ho);have hxr:=BI h2 ho hx;unfold My;split
   ·rename_i h0;obtain ⟨y,hy⟩: ∃y,o.rt[x.toNat]? =some y:=⟨_,bj (by omega)⟩
    have hyr:=w5 _ _ hy;have hg:o.rt.getD x.toNat 0=y:=by grind
    rw [hg];have hm1:0<=o.wt*(x+1):=Int.mul_nonneg w1.1 (by omega)
    have hm2:o.wt*(x+1)<=30:=by
     have:=Int.mul_le_mul w1.2 (show x+1<=3 by omega) (by omega) (by decide:(0:Int)<=10)
     omega
    omega
   ·omega
  ·omega
abbrev vq (r:Rm) (m:Int):AV:= .fz (rows (nQ (rows Tp.l r.tp)) (dw r.tp m)) (dw r.tp m).length
noncomputable abbrev aad:Fx:=⟨ay,cj [],[15,20],57,0⟩
theorem ajd (r:Rm) (m:Int) (c:List Int) (b:Int) (hos:ia (cf r m)=true) (hc:yZ (cf r m) c=true) (hb:0<=b/\b<=1073741824):
 bG ay 154 [.fp r.a 0,vq r m,.fz (rows aq c) c.length,.i .i64 b] [] 0 (.agg [.i .i64 (fX (cf r m) c b c.length).1,.i .i64 (fX (cf r m) c b c.length).2]) [] 0:=by
 have hRA:=Rm.aj 0 r;have hr1:r.a[1]? =some (.fz (rows aW.l r.sh) r.sh.length):=rfl;have hT:=fb 0 r.tp;have hbd:=AO (b:=b) hos hc;have hcl:c.length=(dw r.tp m).length:=by
  simp_all [yZ,ak,bg,cf,ig]
 have h5:c.length<=5:=by
  simp_all [ia,ak,bg,cf,ig]
 -- what is read in a round
 have hrd: ∀(k:Nat) (x:Int),c[k]? =some x-> ∃(i:Nat) (t:Tp) (o:Op),(dw r.tp m)[k]? =some i/\r.tp[i]? =some t/\o.wt=t.wt/\(fX (cf r m) c b (k+1)=My o x (fX (cf r m) c b k))/\okO o=true/\ -1<=x/\x<=o.mo/\(∃s:aW,0<=t.sh/\r.sh[t.sh.toNat]? =some s/\o.rt=s.rt):=λk x hx=>by
  have hlt:=(cv.1 hx).1;obtain ⟨i,hi⟩: ∃i,(dw r.tp m)[k]? =some i:=⟨_,bj (by omega)⟩
  obtain ⟨_,t,ht,_⟩:=jc (bJ hi);have ho:(cf r m)[k]? =some (yE r i):=by grind [cf,dX,iI]
  have hok:=tQ hos ho;have hxr:=BI hc ho hx;refine ⟨i,t,yE r i,hi,ht,by grind [yE],by grind [fX],hok,hxr.1,hxr.2,?_⟩
  obtain ⟨_,w2,w3,_,_⟩:=yx hok;have e:(yE r i).rt=if 0<=t.sh then (match r.sh[t.sh.toNat]? with|some s=>s.rt|none=>[]) else []:=by grind [yE]
  grind
 have hV0:fX (cf r m) c b 0=(0,b):=rfl;generalize fX (cf r m) c b=V at*;have hsl:r.sh.length<=9223372036854775807\/True:= .inr trivial;have hS: ∀(i:Nat) (s:aW),r.sh[i]? =some s->(rows aW.l r.sh)[i*4+2]? =some (.fz (rows aq s.rt) s.rt.length):=λi s hs=>bM (f:=aW.l) (z:=4) (j:=2) (v:= .fz (rows aq s.rt) s.rt.length) aW.len hs rfl;have hT1: ∀(i:Nat) (t:Tp),r.tp[i]? =some t->(rows Tp.l r.tp)[i*22+1]? =some (.i .i64 t.sh):=λi t ht=>bM (f:=Tp.l) (z:=22) (j:=1) (v:= .i .i64 t.sh) Tp.len ht rfl;have hT2: ∀(i:Nat) (t:Tp),r.tp[i]? =some t->(rows Tp.l r.tp)[i*22+2]? =some (.i .i64 t.wt):=λi t ht=>bM (f:=Tp.l) (z:=22) (j:=2) (v:= .i .i64 t.wt) Tp.len ht rfl;simp only [vq];have hSB:=cG 0 r.sh;generalize r.a=RA at*;generalize rows aW.l r.sh=SL at*;generalize rows Tp.l r.tp=T at*;have hpB: ∀j,ab j (rows (nQ T) (dw r.tp m))=true:=λj=>au _ (bh (Ky hT));have hP: ∀(k i:Nat),(dw r.tp m)[k]? =some i->(rows (nQ T) (dw r.tp m))[k]? =some (.fp T (i*22)):=λk i hi=>by
  have:=bM (f:=nQ T) (z:=1) (j:=0) (v:= .fp T (i*22)) (qI T) hi rfl
  grind
 generalize dw r.tp m=q at*;generalize rows (nQ T) q=PL at*;have hcB:=λj=>iB j c;have hcC:=λ(k:Nat) (x:Int) (hk:c[k]? =some x)=>by
  have:=bM (f:=aq) (z:=1) (j:=0) (v:= .i .i64 x) (λ_=>rfl) hk rfl;simpa using this
 generalize hC:rows aq c=C at*;have hRA': ∀j,ab j RA=true:=λj=>au _ hRA;refine ew (cx:=cj []) Sound.nil Tryz.func154 FP ?_
 dsimp only [i154];simp only [go_sem,simprocAttr];refine Loop.dV (F:=aad) Sound.nil mo c.length (λ_=>True)
  (λk=>[(0,.fp RA 0),(1,.fz PL q.length),(3,.i .i64 (V k).2),(8,.p 0 0),(9,.i .i64 (V k).1),(12,.fz C c.length),(13,.i .i64 (c.length:Int)),(14,.i .i64 (k:Int))])
  (λk=>[(0,{cells:=[.i .i64 0,.i .i64 0]})]) 1 (by decide) trivial ?_ ?_ (λk hk _=> ?_)
 ·rw [hV0];simp only [go_sem,AV.aj,aP,hRA',hpB,hcB,simprocAttr]
 ·simp only [go_sem,AV.aj,ab,simprocAttr]
 dsimp only [aad];by_cases hlt:k<c.length
 rotate_left
 ·have c1:decide ((k:Int)<(c.length:Int))=false:=bw (by omega)
  obtain rfl:k=c.length:=by omega
  simp only [go_sem,simprocAttr];exact Ends.aw rfl rfl
 have c1:decide ((k:Int)<(c.length:Int))=true:=af (by omega)
 have c2:decide (0<=(k:Int)/\(k:Int)<(c.length:Int))=true:=af (by omega)
 have c3:decide (0<=(k:Int)/\(k:Int)<(q.length:Int))=true:=af (by omega)
 have hw:IntKind.i64.wrap ((k:Int)+1)=((k+1:Nat):Int):=by grind [aN]
 obtain ⟨x,hx⟩: ∃x,c[k]? =some x:=⟨_,bj hlt⟩;have gx:=hcC k x hx;obtain ⟨i,t,o,hi,ht,owt,hVk,hok,x1,x2,s,sh0,hs,hrt⟩:=hrd k x hx;obtain ⟨o1,o2,o3,o4,o5⟩:=yx hok;have hbk:=hbd k;have hbk1:=hbd (k+1);have gp:=hP k i hi;have g1:=hT1 i t ht;have g2:=hT2 i t ht;have gs:=hS t.sh.toNat s hs;have hsl:=(cv.1 hs).1;have c4:decide (0<=t.sh/\t.sh<(r.sh.length:Int))=true:=af (by omega)
 rw [hVk] at hbk1 ⊢;generalize V k=v at*;obtain ⟨v1,v2⟩:=v;dsimp only at*;cases d:decide (x>=0)
 ·have d':=tM d;have e:My o x (v1,v2)=(v1,v2):=aY (by omega)
  rw [e];simp only [go_sem,c1,c2,gx,d,hw,di,hRA',hpB,hcB,AV.aj,ab,aP,e9,simprocAttr];exact hlt
 ·have d':=bN d;obtain ⟨y,hy⟩: ∃y,o.rt[x.toNat]? =some y:=⟨_,bj (by omega)⟩
  have hyr:=o5 _ _ hy;have hg:o.rt.getD x.toNat 0=y:=by grind
  have e:My o x (v1,v2)=(v1+t.wt*(x+1),v2-y):=by rw [My,aT (by omega),hg,owt]
  rw [e] at hbk1 ⊢;rw [hrt] at hy o3 o4;have gr:(rows aq s.rt)[x.toNat]? =some (.i .i64 y):=by
   have:=bM (f:=aq) (z:=1) (j:=0) (v:= .i .i64 y) (λ_=>rfl) hy rfl
   grind
  have c5:decide (0<=x/\x<(s.rt.length:Int))=true:=af (by omega)
  generalize rows aq s.rt=RL at*;rw [owt] at o1;have hm1:0<=t.wt*(x+1):=Int.mul_nonneg o1.1 (by omega)
  have hm2:t.wt*(x+1)<=30:=by
   have:=Int.mul_le_mul o1.2 (show x+1<=3 by omega) (by omega) (by decide:(0:Int)<=10)
   omega
  have k5:(k:Int)<=5:=by omega
  have u1:IntKind.i64.wrap (x+1)=x+1:=aN (by omega) (by omega)
  have u2:IntKind.i64.wrap (t.wt*(x+1))=t.wt*(x+1):=aN (by omega) (by omega)
  have u3:IntKind.i64.wrap (v1+t.wt*(x+1))=v1+t.wt*(x+1):=aN (by omega) (by omega)
  have u4:IntKind.i64.wrap (v2-y)=v2-y:=aN (by omega) (by omega)
  simp only [go_sem,c1,c2,c3,c4,c5,gx,gp,g1,g2,gs,gr,hr1,d,hw,u1,u2,u3,u4,kA,di,hRA',hpB,hcB,AV.aj,ab,aP,e9,simprocAttr];exact hlt
open Classical in
noncomputable def Hc (r:Rm) (m:Int):Ct
 |[w,l,.fz C k,.i .i64 b],_,n=>if w= .fp r.a 0/\l=vq r m then (bc 1 dG k C).bind λc=>some (ia (cf r m)&&(yZ (cf r m) c&&bZ 0 1073741824 b),{v:= .agg [.i .i64 (fX (cf r m) c b c.length).1,.i .i64 (fX (cf r m) c b c.length).2],n}) else none
 |_,_,_=>none
theorem aiq (r:Rm) (m:Int):ax ay 154 (Hc r m):=λargs h n c E hc ht=>by
 unfold Hc at hc;split at hc
 ·split at hc
  ·rename_i hh;obtain ⟨rfl,rfl⟩:=hh;simp only [av,aI,aV] at hc;obtain ⟨l,hl,rfl,rfl⟩:=hc;obtain ⟨rfl,rfl⟩:=bu df hl;simp only [ak] at ht;have hp:ab 0 (rows (nQ (rows Tp.l r.tp)) (dw r.tp m))=true:=bh (Ky (fb 0 r.tp));exact aA.pure (by kernel_rfl) (by grind [ab,AV.aj,Rm.aj,iB,aG]) rfl (ajd r m l _ ht.1 ht.2.1 (bD ht.2.2)) _ _
  ·cases hc
 ·cases hc
def Ch (a b:Int×Int):Int:=if lE a.1 b.1=0 then lE a.2 b.2 else lE a.1 b.1
theorem agV (a b:Int×Int):bG ay 155 [.fz [.i .i64 a.1,.i .i64 a.2] 2,.fz [.i .i64 b.1,.i .i64 b.2] 2] [] 0 (.i .i64 (Ch a b)) [] 0:=by
 have hcx:Sound ay (cj [(109,CE)]):=Sound.cons abS Sound.nil;obtain ⟨a1,a2⟩:=a;obtain ⟨b1,b2⟩:=b;have hR:Ch (a1,a2) (b1,b2)=if lE a1 b1=0 then lE a2 b2 else lE a1 b1:=rfl
 generalize Ch (a1,a2) (b1,b2)=R at*;have hk1: ∀(h:Hp) n,CE [.i .i64 a1,.i .i64 b1] h n=some (true,{v:= .i .i64 (lE a1 b1),n}):=λ_ _=>rfl;have hk2: ∀(h:Hp) n,CE [.i .i64 a2,.i .i64 b2] h n=some (true,{v:= .i .i64 (lE a2 b2),n}):=λ_ _=>rfl;generalize lE a1 b1=x at*;generalize lE a2 b2=y at*;generalize CE=kk at*;refine ew hcx Tryz.func155 MS ?_
 dsimp only [i155];cases d1:x !=0
 ·have d1':x=0:=by grind
  rw [aT d1'] at hR;rw [hR];cases d2:y !=0
  ·have d2':y=0:=by grind
   simp only [go_sem,simprocAttr];refine Loop.rounds (F:=⟨ay,cj [(109,kk)],[12,19,28,35],36,0⟩) 3 hcx mo ?_;simp only [go_sem,hk1,hk2,d1,d2,simprocAttr];rw [d2'];exact Ends.aw rfl rfl
  ·simp only [go_sem,simprocAttr];refine Loop.rounds (F:=⟨ay,cj [(109,kk)],[12,19,28,35],36,0⟩) 3 hcx mo ?_;simp only [go_sem,hk1,hk2,d1,d2,simprocAttr];exact Ends.aw rfl rfl
 ·have d1':x≠0:=by grind
  rw [aY d1'] at hR;rw [hR];simp only [go_sem,simprocAttr];refine Loop.rounds (F:=⟨ay,cj [(109,kk)],[12,19,28,35],36,0⟩) 3 hcx mo ?_;simp only [go_sem,hk1,d1,simprocAttr];exact Ends.aw rfl rfl
def CC:Ct
 |[.fz [.i .i64 a1,.i .i64 a2] 2,.fz [.i .i64 b1,.i .i64 b2] 2],_,n=>some (true,{v:= .i .i64 (Ch (a1,a2) (b1,b2)),n})
 |_,_,_=>none
theorem acZ:ax ay 155 CC:=λargs h n c E hc ht=>by
 unfold CC at hc;split at hc
 ·cases hc;exact aA.pure (by kernel_rfl) rfl rfl (agV (_,_) (_,_)) _ _
 ·cases hc
/-! choices -/
theorem ahE (L:List AV) (hL:ab 0 L=true) (k:Nat):bG ay 153 [.fz L k] [] 0 (.fn 199 [.p 0 0]) [(0,{cells:=[.fz L k]})] 1:=by
 have hL': ∀j,ab j L=true:=λj=>au _ hL;have hLR: ∀g,aS g L=L:=λg=>aJ _ hL;refine ew (cx:=cj []) Sound.nil Tryz.func153 G7 ?_
 dsimp only [i153];simp only [go_sem,simprocAttr];exact Ends.R [] (by decide) (by decide) rfl rfl (by simp_all [iW,aa,rn,bp.aQ,aS,AV.aQ,ab,AV.aj])
def H5:Ct
 |[.fz L k],_,n=>some (ab 0 L,{v:= .fn 199 [.p n 0],n:=n+1,nw:=[(n,{cells:=[.fz L k]})]})
 |_,_,_=>none
theorem aat:ax ay 153 H5:=λargs h n c E hc ht=>by
 unfold H5 at hc;split at hc
 ·cases hc;rename_i L k;have hL': ∀j,ab j L=true:=λj=>au _ ht;have hLR: ∀g,aS g L=L:=λg=>aJ _ ht;refine (aA.canon (n:=n) (pn:=none) [] [] (by kernel_rfl) rfl (argsL:=[.fz L k]) (by grind [ab,AV.aj,aG]) trivial (ahE L ht k) (cr _) (by simp [l5,ab,AV.aj,hL',dD])).cast ?_ ?_
  all_goals grind [aS,AV.aQ,nR,fL,bp.aQ,jA,aP]
 ·cases hc
theorem abd (c:List Int) (h0:0<c.length) (h5:c.length<=5):bG ay 90 [.sl 0 0 c.length c.length] [(0,{cells:=rows aq c})] 1 (.fz (rows aq c) c.length) [(0,{cells:=rows aq c})] 1:=by
 have hB:=λj=>iB j c;have hR:=λg=>iR g c;have hz:(rows aq c).length=c.length*1:=aU bR;have ho:aL (rows aq c)=true:=dr (λ_=>rfl) c;have hn:decide (c.length=0)=false:=bw (by omega)
 have gm:decide (8*c.length<=az)=true:=af (by grind [az])
 refine bG.dy (cx:=cj []) Sound.nil mo Tryz.func90 xg (by simp [i90]) (aO ?_)
 dsimp only [i90];have ht:List.take (c.length*1) (rows aq c)=rows aq c:=dN (by omega)
 have hn2:decide (c.length<=0)=false:=bw (by omega)
 simp only [go_sem,hn,hn2,gm,hz,ht,dk,simprocAttr];refine aZ.rY (b:=2) (x:= .sg 2 0 c.length) (o:=0) (m:=c.length) (cs:=rows aq c) (v':= .fz (rows aq c) c.length) (h':=[(0,{cells:=rows aq c})]) rfl rfl (.inr rfl) (.inl rfl) bW.hit ⟨⟨by decide,_,rfl,rfl,rfl,rfl,dZ.refl⟩,trivial⟩ ?_
 exact aZ.ends (Ends.R [] (by decide) (by decide) (by grind [AV.aQ]) (by grind [AV.aj]) (by simp [iW,aa,rn,bp.aQ,hB,hR]))
abbrev Mz:=Option (List Int)×(Int×Int)
def q8 (os:List Op) (b:Int) (c:List Int) (s:Mz):Mz:=
 if decide (0<=(fX os c b c.length).2)&&(s.1.isNone||decide (0<Ch (fX os c b c.length) s.2)) then (some c,fX os c b c.length) else s
def gh:Option (List Int)->AV
 |none=> .ns
 |some o=> .fz (rows aq o) o.length
abbrev xc (r:Rm) (m b:Int) (s:Mz) (Lh:Hp):Hp:=
 (0,{cells:=[.fp r.a 0]})::(1,{cells:=[vq r m]})::(2,{cells:=[.i .i64 b]})::(3,{cells:=[gh s.1]})::(4,{cells:=[.i .i64 s.2.1,.i .i64 s.2.2]})::Lh
abbrev cH (c:List Int) (j:Nat):Hp:=[(j,{cells:=rows aq c})]
theorem S5 {h:Hp} {f b o m c:Nat}:Go.Ab.nv h (f+1) (.sl b o m c)=((aa h b).bind bp.F6).bind λq=>(lV (Go.Ab.nv h f) (aD q.cells o (m*(q.cells.length/c)))).bind λr=>bif decide (m<=c) then some (b::r.1,.fz r.2 m) else none:=(rfl)
theorem Ni (h:Hp) (f:Nat) (l:List Int):lV (Go.Ab.nv h f) (rows aq l)=some ([],rows aq l):=nj (λa=>by simp only [aq,bn,bI,kN,aC,List.nil_append]) l
theorem TE {h:Hp} {f b:Nat} {x y:Int} (hb:aa h b=some {cells:=[.i .i64 x,.i .i64 y]}):Go.Ab.nv h (f+1) (.sl b 0 2 2)=some ([b],.fz [.i .i64 x,.i .i64 y] 2):=by
 simp_all [S5,aC,eo,aD,bn,bI,kN]
theorem wH (r:Rm) (m:Int) (j:Nat):ab j (rows (nQ (rows Tp.l r.tp)) (dw r.tp m))=true:=au _ (bh (Ky (fb 0 r.tp)))
open Classical in
def fK:List Int->Nat
 |[]=>1
 |m::l=>(m.toNat+2)*fK l
theorem nL: ∀l,0<fK l
 |[]=>Nat.one_pos
 |m::l=>Nat.mul_pos (by omega) (nL l)
def MJ (ms:List Int) (i:Nat):Nat:=(ms.getD i 0).toNat+2
def dg (ms:List Int) (j i:Nat):Int:=(((j/fK (ms.drop (i+1))) % MJ ms i:Nat):Int)-1
def HZ (ms:List Int) (j:Nat):List Int:=iD (dg ms j) ms.length
def Iw (ms:List Int) (j k:Nat):List Int:=iD (λi=>if i<k then dg ms j i else dg ms (j+1) i) ms.length
theorem rJ {α:Type} {f g:Nat->α}: ∀{n:Nat},(∀i,i<n->f i=g i)->iD f n=iD g n
 |0,_=>rfl
 |n+1,h=>by rw [il,il,rJ (λi hi=>h i (by omega)),h n (by omega)]
theorem adp (ms:List Int) (j:Nat):Iw ms j ms.length=HZ ms j:=rJ λi hi=>aT hi
theorem Ah (ms:List Int) (j k:Nat):(Iw ms j k).length=ms.length:=cJ _
theorem nV (ms:List Int) (j:Nat):(HZ ms j).length=ms.length:=cJ _
theorem BC {ms:List Int} {j k i:Nat} (hi:i<ms.length):(Iw ms j k)[i]? =some (if i<k then dg ms j i else dg ms (j+1) i):=eZ hi
theorem oa {ms:List Int} {k:Nat} (hk:k<ms.length):fK (ms.drop k)=MJ ms k*fK (ms.drop (k+1)):=by
 grind [rE,fK,MJ,jd,bj,fM]
theorem zq {ms:List Int}: ∀{k i:Nat},i<=k->k<=ms.length-> ∃R,fK (ms.drop i)=fK (ms.drop k)*R:=by
 intro k i hik hk;induction k with
 |zero=>exact ⟨1,by grind⟩
 |succ k ih=>
  by_cases h:i=k+1
  ·subst h;exact ⟨1,by omega⟩
  ·grind [MJ,oa,Nat.mul_comm,Nat.mul_left_comm]
def Av (ms:List Int) (j k:Nat):Prop:=(j+1) % fK (ms.drop k)=0
theorem ac4 (ms:List Int) (j:Nat):Av ms j ms.length:=by simp [Av,fK,Nat.mod_one]
theorem S8 {W j:Nat} (hW:0<W) (h:(j+1) % W=0): ∃p,j+1=W*(p+1)/\j/W=p/\(j+1)/W=p+1:=by
 obtain ⟨q,hq⟩:=Nat.dvd_of_mod_eq_zero h;obtain ⟨p,rfl⟩: ∃p,q=p+1:=⟨q-1,by
  grind⟩
 refine ⟨p,hq,?_,by simp_all⟩
 have e:j=W*p+(W-1):=by grind
 rw [e,Nat.mul_add_div hW,Nat.div_eq_of_lt (by omega),kA]
theorem Ux {ms:List Int} {j k:Nat} {m:Int} (hk:k<ms.length) (hm:ms[k]? =some m) (h0:0<=m) (hi:Av ms j (k+1)) (he:dg ms j k=m):Av ms j k/\dg ms (j+1) k= -1:=by
 have hW:=nL (ms.drop (k+1));obtain ⟨p,h1,h2,h3⟩:=S8 hW hi;have hr:MJ ms k=m.toNat+2:=by grind [MJ,jd,fM]
 unfold dg at he ⊢;rw [h2,hr] at he;rw [h3,hr];have e:p % (m.toNat+2)=m.toNat+1:=by omega
 have e2:(p+1) % (m.toNat+2)=0:=by
  simp_all [Nat.add_mod,rL,Nat.mod_self]
 refine ⟨?_,by rw [e2];rfl⟩
 unfold Av;rw [oa hk,hr];obtain ⟨s,hs⟩:=Nat.dvd_of_mod_eq_zero e2
 grind [Nat.mul_comm,fK,Nat.mul_assoc,Nat.mul_mod_right]
theorem Uw {ms:List Int} {j k:Nat} {m:Int} (hk:k<ms.length) (hm:ms[k]? =some m) (h0:0<=m) (hi:Av ms j (k+1)) (he:dg ms j k≠m):
 dg ms (j+1) k=dg ms j k+1/\(∀i,i<k->dg ms (j+1) i=dg ms j i)/\(j+1) % fK (ms.drop k)≠0:=by
 have hW:=nL (ms.drop (k+1));obtain ⟨p,h1,h2,h3⟩:=S8 hW hi;have hr:MJ ms k=m.toNat+2:=by grind [MJ,jd,fM]
 have hp:=Nat.mod_lt p (show 0<m.toNat+2 by omega)
 have e:p % (m.toNat+2)<m.toNat+1:=by
  grind [eV,dg]
 have hdm:p=(m.toNat+2)*(p/(m.toNat+2))+p % (m.toNat+2):=(Nat.div_add_mod _ _).symm;obtain ⟨M,hM⟩: ∃M,m.toNat+2=M:=⟨_,rfl⟩;rw [hM] at hp e hdm hr;have e':p % M+1<M:=by omega
 have e2:(p+1) % M=p % M+1:=by
  grind [Nat.add_mod,rL]
 have e3:(p+1)/M=p/M:=by
  have:p+1=M*(p/M)+(p % M+1):=by omega
  rw [this,Nat.mul_add_div (by omega),Nat.div_eq_of_lt e',kA]
 refine ⟨?_,λi hi'=> ?_,?_⟩
 ·grind [dg]
 ·obtain ⟨R,hR⟩:=zq (ms:=ms) (i:=i+1) (k:=k) (by omega) (by omega)
  rw [oa hk,hr,Nat.mul_comm M,Nat.mul_assoc] at hR;unfold dg;have q: ∀x:Nat,x/(fK (List.drop (k+1) ms)*(M*R))=x/fK (List.drop (k+1) ms)/M/R:=λx=>by grind [Nat.div_div_eq_div_mul]
  rw [hR,q,q,h2,h3,e3]
 grind [oa,Nat.mul_comm,Nat.mul_mod_mul_left,Nat.mul_eq_zero]
theorem O6 {ms:List Int} {j:Nat} (hj:j<fK ms) (h:Av ms j 0):j+1=fK ms:=by
 unfold Av at h;rw [dk] at h;rcases eV (j+1) (fK ms) with hl|hl
 all_goals grind [rL]
theorem XG {ms:List Int} {j k:Nat} (hk:k<=ms.length) (hj:j<fK ms) (h:(j+1) % fK (ms.drop k)≠0):j+1<fK ms:=by
 rcases eV (j+1) (fK ms) with hl|hl
 ·exact hl
 ·exfalso;have e:j+1=fK ms:=by omega
  obtain ⟨R,hR⟩:=zq (ms:=ms) (i:=0) (k:=k) (cr _) hk;simp_all
theorem Fg {ms:List Int} {j k:Nat} (hk:k<ms.length) {v:Int} (hv:dg ms (j+1) k=v):(Iw ms j (k+1)).set k v=Iw ms j k:=by
 refine nk λi=> ?_;by_cases hi:i<ms.length
 ·rw [Aa,BC hi,BC hi,Ah]
  grind
 grind [lu,List.length_set,Ah]
theorem I5 {ms:List Int} {j k:Nat} (h: ∀i,i<k->dg ms (j+1) i=dg ms j i):Iw ms j k=HZ ms (j+1):=rJ λi hi=>by
 grind
theorem Ul (ms:List Int) (j:Nat) {i:Nat} {m:Int} (hm:ms[i]? =some m) (h0:0<=m): -1<=dg ms j i/\dg ms j i<=m:=by
 have hr:MJ ms i=m.toNat+2:=by grind [MJ,jd,fM]
 unfold dg;rw [hr];have:=Nat.mod_lt (j/fK (ms.drop (i+1))) (show 0<m.toNat+2 by omega)
 omega
theorem Ub (ms:List Int):HZ ms 0=List.replicate ms.length (-1):=by
 refine nk λi=> ?_;by_cases hi:i<ms.length
 ·simp_all [HZ,eZ,dg]
 grind [lu,nV]
/-! The best one. -/
def mU (os:List Op):List Int:=os.map Op.mo
def lK (os:List Op) (b:Int):Nat->Mz
 |0=>(none,(0,0))
 |j+1=>q8 os b (HZ (mU os) j) (lK os b j)
def oy (os:List Op) (b:Int):Mz:=lK os b (fK (mU os))
theorem JA {os:List Op} (hos:ia os=true) (j:Nat):yZ os (HZ (mU os) j)=true:=by
 simp only [yZ,ak,bg,dt];refine ⟨by rw [nV,mU,ig],λk x hx=> ?_⟩
 have hk:=(cv.1 hx).1;rw [nV] at hk;rw [HZ,eZ hk] at hx;cases hx;have hk':k<os.length:=by rwa [mU,ig] at hk
 obtain ⟨o,ho⟩: ∃o,os[k]? =some o:=⟨_,bj hk'⟩;have:=yx (tQ hos ho);have hb:=Ul (mU os) j (i:=k) (m:=o.mo) (by grind [mU,dX]) this.2.1.1
 simp_all [okX,fy,dp]
theorem wW {os:List Op} {b:Int} (h0:0<os.length): ∀(j:Nat) (o:List Int),(lK os b j).1=some o->0<o.length
 |0,o,h=>by cases h
 |j+1,o,h=>by
  simp only [lK,q8] at h;split at h
  ·cases h;rw [nV,mU,ig];exact h0
  ·exact wW h0 j o h
abbrev yv (L:Nat) (r:Go.Loop):AV:= .yl L r [2,5,6,7,8] [.p 0 0,.p 1 0,.p 2 0,.p 3 0,.p 4 0]
abbrev ksB (r:Rm) (m b:Int) (s:Mz) (c:List Int):List bp:=[{cells:=[.fp r.a 0]},{cells:=[vq r m]},{cells:=[.i .i64 b]},{cells:=[gh s.1]},{cells:=[.i .i64 s.2.1,.i .i64 s.2.2]},{cells:=rows aq c}]
theorem wT (l:List Int):fG (rows aq l)=true:=lL (λ_=>rfl)
theorem DK (l:List Mb):fG (rows Mb.l l)=true:=lL (λ_=>rfl)
theorem Bk (l:List aW):fG (rows aW.l l)=true:=lL (λs=>by simp only [aW.l,fG,AV.BS,wT,aG])
theorem BA (l:List Tp):fG (rows Tp.l l)=true:=lL (λt=>by simp only [Tp.l,Sw.a,vT,fG,AV.BS,wT,aG])
theorem IG (r:Rm):fG r.a=true:=by simp only [Rm.a,fG,AV.BS,DK,Bk,BA,aG]
theorem JQ (r:Rm) (m:Int):fG (rows (nQ (rows Tp.l r.tp)) (dw r.tp m))=true:=
 lL (λi=>by simp only [nQ,fG,AV.BS,BA,aG])
theorem Bf (o:Option (List Int)):(gh o).BS=true:=by
 cases o;all_goals simp [gh,AV.BS,wT]
theorem Ug (n:Nat) (hn:n<=5):bG ay 200 [.sl 0 0 1 1,.i .i64 (n:Int)] [(0,{cells:=[.i .i64 (-1)]})] 1 (.sl 1 0 n n) [(1,{cells:=rows aq (List.replicate n (-1))})] 2:=
 L1 (z:=1) (bytes:=8) (zs:=[.i .i64 0]) (row:=aq) (a:= -1) mo Tryz.func200 PK (aav mo (by kernel_rfl) Tryz.func96 XA (NO mo (by kernel_rfl) Tryz.func165 MR)) (λ_=>rfl) rfl (λ_=>rfl) (λ_=>rfl) rfl n (by omega) (by omega)
noncomputable def Dp (n:Nat):Ct:=kH [6] [{cells:=[.i .i64 (-1)]}] [.sl 0 0 1 1,.i .i64 (n:Int)] (.sl 1 0 n n) [(1,{cells:=rows aq (List.replicate n (-1))})] 2 none
theorem acB (n:Nat) (hn:n<=5):ax ay 200 (Dp n):=
 cK (by kernel_rfl) (by decide) rfl (Ug n hn) (by decide) (by simp [l5,iB,dD,aP])
theorem SV (k:Nat) (h:Hp) (n:Nat) (h5:aa h 6=some {cells:=[.i .i64 (-1)]}):Dp k [.sl 6 0 1 1,.i .i64 (k:Int)] h n=some (true,{v:= .sl n 0 k k,n:=n+1,rd:=[6],md:=[(6,none)],nw:=[(n,{cells:=rows aq (List.replicate k (-1))})]}):=by
 have hR:=λg=>iR g (List.replicate k (-1));refine ej (h:=h) (n:=n) rfl ⟨⟨?_,?_⟩,trivial⟩ ?_
 ·grind [bp.aQ,aS,AV.aQ]
 ·rfl
 grind [nR,fL,bp.aQ,AV.aQ,jA,aa,aP,eu]
theorem FQ (l:List Int) (k:Nat) (v:Int) (hk:k<l.length):List.take k (rows aq l)++[.i .i64 v]++List.drop (k+1) (rows aq l)=rows aq (l.set k v):=by
 have:=xw (f:=aq) (z:=1) (a:=v) bR hk;simp_all [di,eU,aq]
theorem B4 (os:List Op) (b:Int) (n:Nat): ∀k,fX os (List.replicate n (-1)) b k=(0,b)
 |0=>rfl
 |k+1=>by
  simp only [fX,B4 os b n k];split
  ·rename_i o x ho hx;rw [List.getElem?_replicate] at hx;split at hx
   ·cases hx;rfl
   ·cases hx
  ·rfl
theorem Cv {os:List Op} {b:Int} (hb:0<=b): ∀j,∃o,(lK os b (j+1)).1=some o
 |0=>by
  refine ⟨HZ (mU os) 0,?_⟩
  grind [lK,q8,Ub,List.length_replicate,B4]
 |j+1=>by
  obtain ⟨o,ho⟩:=Cv hb j;rw [lK];unfold q8;split
  ·simp
  ·exact ⟨o,ho⟩
def s7 (os:List Op) (b:Int):List Int:=(oy os b).1.getD []
theorem xy (os:List Op) {b:Int} (hb:0<=b):(oy os b).1=some (s7 os b):=by
 obtain ⟨j,hj⟩: ∃j,fK (mU os)=j+1:=⟨fK (mU os)-1,by grind [nL,mU]⟩
 obtain ⟨o,ho⟩:=Cv (os:=os) hb j
 grind [s7,oy]
noncomputable abbrev MO:bb:=(.seq (.dY XI) .ret)
theorem aaL:bG ay 90 [.sl 0 0 0 0] [(0,{cells:=[]})] 1 .ze [(0,{cells:=[]})] 1:=by
 refine bG.dy (cx:=cj []) Sound.nil mo Tryz.func90 xg (by simp [i90]) (aO ?_)
 dsimp only [i90];simp only [go_sem,simprocAttr];refine aZ.zeS (b:=1) (o:=0) (v':= .ze) bW.hit ?_;exact aZ.ends (Ends.R [] (by decide) (by decide) rfl rfl (by simp [iW,aa,rn,bp.aQ,aS,ab,eu]))
noncomputable def NW:Ct:=kH [5] [{cells:=[]}] [.sl 0 0 0 0] .ze [(0,{cells:=[]})] 1 none
theorem ahl:ax ay 90 NW:=
 cK (by kernel_rfl) (by decide) rfl aaL (by decide) (by rfl)
theorem MP (h:Hp) (n:Nat) (h5:aa h 5=some {cells:=[]}):NW [.sl 5 0 0 0] h n=some (true,{v:= .ze,n,rd:=[5],md:=[(5,some {cells:=[]})]}):=by
 refine ej (h:=h) (n:=n) rfl ⟨⟨?_,?_⟩,trivial⟩ ?_
 ·grind [bp.aQ,aS]
 all_goals rfl
abbrev hBz (r:Rm) (m b:Int) (Lh:Hp):Hp:=(0,{cells:=[.fp r.a 0]})::(1,{cells:=[vq r m]})::(2,{cells:=[.i .i64 b]})::(3,{cells:=[.ze]})::(4,{cells:=[.i .i64 0,.i .i64 b]})::Lh
noncomputable def yN (r:Rm) (m:Int):List (Nat×Ct):=[(72,CN),(153,H5),(154,cu (Hc r m)),(90,NW),(155,cu CC)]
theorem x5 (r:Rm) (m:Int):Sound ay (cj (yN r m)):=Sound.cons s72 (Sound.cons aat (Sound.cons (aiq r m).nv (Sound.cons ahl (Sound.cons acZ.nv Sound.nil))))
noncomputable abbrev oM (r:Rm) (m:Int):Fx:=⟨ay,cj (yN r m),[43],48,0⟩
theorem ybz (r:Rm) (m b:Int) (hos:ia (cf r m)=true) (hb:0<=b/\b<=1073741824) (h0:dw r.tp m=[]):
 mF (oM r m) [25] zF zZ [2,5,6,7,8] [.p 0 0,.p 1 0,.p 2 0,.p 3 0,.p 4 0] [.sl 5 0 0 0] (xc r m b (none,(0,0)) [(5,{cells:=[]})]) 6 (hBz r m b [(5,{cells:=[]})]) 6:=by
 have hRB:=λj=>Rm.aj j r;have hPB:=λj=>wH r m j;have hRR:=λg=>aJ (ψ:=g) _ (hRB 0);have hPR:=λg=>aJ (ψ:=g) _ (hPB 0);have hop:cf r m=[]:=by grind [cf]
 have hk: ∀(h:Hp) n,aa h 5=some {cells:=[]}->cu (Hc r m) [.fp r.a 0,vq r m,.sl 5 0 0 0,.i .i64 b] h n=some (true,{v:= .agg [.i .i64 0,.i .i64 b],n,rd:=[5]}):=λh n h5=>by
  have e:Go.Ab.nv h 6 (.sl 5 0 0 0)=some ([5],.fz [] 0):=by simp only [S5,h5,aC,eo];rfl
  have hu:bc 1 dG 0 ([]:List AV)=some []:=rfl;have hc:yZ (cf r m) []=true:=by rw [hop];rfl
  simp only [cu,bn,bI,vA (hRB 0),ef (hPB 0),e,kN,aC,dh,List.nil_append,Hc,o8,cM,hu,hos,hc,dp hb,aG];rfl
 have hk3:=λh n=>MP h n;have d1:decide (0<=b)=true:=af hb.1;refine mF.Ue ?_;simp only [yN,xc];generalize cu (Hc r m)=q1 at*;generalize cu CC=q2 at*;generalize NW=q3 at*;dsimp only [gh];simp only [go_sem,tL,IB,hk,d1,hk3,simprocAttr];refine Ends.R [] (by decide) (by decide) rfl rfl ?_
 simp only [go_sem,bp.aQ,AV.aQ,aS,AV.aj,ab,hRB,hPB,hRR,hPR,simprocAttr]
def YBz (rm:Rm) (m:Int) (L:Nat) (r:Go.Loop):Prop:= ∀cs as' h1 n1 h2 n2,[25].length=as'.length->fG cs=true->fG as'=true->(∀b k,aa h1 b=some k->fG k.cells=true)->mF (oM rm m) [25] zF zZ [2,5,6,7,8] cs as' h1 n1 h2 n2->bG ay YB (.yl L r [2,5,6,7,8] cs::as') h1 n1 (.b true) h2 n2
theorem YJ {L:Nat} {r:Go.Loop} {rm:Rm} {m b:Int} (hY:YBz rm m L r) (hos:ia (cf rm m)=true) (hb:0<=b/\b<=1073741824) (h0:dw rm.tp m=[]) (B:bp) (n:Nat):
 aA ay YB [yv L r,.sl 7 0 0 0] ((7,{cells:=[]})::xc rm m b (none,(0,0)) [(5,B)]) n {v:= .b true,n,rd:=[0,1,2,3,4,7],md:=[(0,some {cells:=[.fp rm.a 0]}),(1,some {cells:=[vq rm m]}),(2,some {cells:=[.i .i64 b]}),(3,some {cells:=[.ze]}),(4,some {cells:=[.i .i64 0,.i .i64 b]}),(7,some {cells:=[]})]}:=by
 have hf:=hY [.p 0 0,.p 1 0,.p 2 0,.p 3 0,.p 4 0] [.sl 5 0 0 0] (xc rm m b (none,(0,0)) [(5,{cells:=[]})]) 6 _ 6 rfl rfl rfl (λb k hb=>nH (by simp only [DY,fG,AV.BS,IG,JQ,Bf,aG]) hb) (ybz rm m b hos hb h0)
 have hRB:=λj=>Rm.aj j rm;have hPB:=λj=>wH rm m j;have hRR:=λg=>aJ (ψ:=g) _ (hRB 0);have hPR:=λg=>aJ (ψ:=g) _ (hPB 0);have hz0:rows aq ([]:List Int)=[]:=rfl;refine (aA.canon (n:=n) (h:=(7,{cells:=[]})::xc rm m b (none,(0,0)) [(5,B)]) (pn:=none) [0,1,2,3,4,7] (ksB rm m b (none,(0,0)) []) (by kernel_rfl) (by decide) (argsL:=[yv L r,.sl 5 0 0 0]) (by rfl) ?_ hf (by decide) ?_).cast ?_ ?_
 ·simp_all [IX,aa,bp.aQ,aS,AV.aQ,ab,AV.aj,eu,gh]
 all_goals simp_all [l5,dD,ab,AV.aj,aP,aS,AV.aQ,nth,nR,fL,bp.aQ,jA,aa,eu]
theorem aaw {L:Nat} {r:Go.Loop} {rm:Rm} {m b:Int} (hY:YBz rm m L r) (hos:ia (cf rm m)=true) (hb:0<=b/\b<=1073741824) (h0:dw rm.tp m=[]):
 bG ay 199 [yv L r,.p 5 0] (xc rm m b (none,(0,0)) [(5,{cells:=[vq rm m]})]) 6 (.bz []) (hBz rm m b []) 6:=by
 have hcy:=YJ hY hos hb h0 {cells:=[vq rm m]} 8;have hsy:ax ay YB (ZQ YB _ _ _ _ YB):=λargs h n c E hc ht=>zC hcy YB args h n c E hc ht;have hcx:=Sound.cons (acB 0 (by decide)) (Sound.cons hsy Sound.nil)
 have hk:=λh n=>SV 0 h n;have hRB:=λj=>Rm.aj j rm;have hPB:=λj=>wH rm m j;have hRR:=λg=>aJ (ψ:=g) _ (hRB 0);have hPR:=λg=>aJ (ψ:=g) _ (hPB 0);have hp0:vq rm m= .fz [] 0:=by simp only [vq,h0];rfl
 have hz0:rows aq (List.replicate 0 (-1))=[]:=rfl;have hz1:rows aq ([]:List Int)=[]:=rfl;simp only [hz0] at hk;have hky: ∀(h:Hp) n,h=(7,{cells:=[]})::xc rm m b (none,(0,0)) [(5,{cells:=[vq rm m]})]->n=8->ZQ YB [yv L r,.sl 7 0 0 0] ((7,{cells:=[]})::xc rm m b (none,(0,0)) [(5,{cells:=[vq rm m]})]) 8 ({v:= .b true,n:=8,rd:=[0,1,2,3,4,7],md:=[(0,some {cells:=[.fp rm.a 0]}),(1,some {cells:=[vq rm m]}),(2,some {cells:=[.i .i64 b]}),(3,some {cells:=[.ze]}),(4,some {cells:=[.i .i64 0,.i .i64 b]}),(7,some {cells:=[]})]}:bV) YB [yv L r,.sl 7 0 0 0] h n=some (true,({v:= .b true,n:=8,rd:=[0,1,2,3,4,7],md:=[(0,some {cells:=[.fp rm.a 0]}),(1,some {cells:=[vq rm m]}),(2,some {cells:=[.i .i64 b]}),(3,some {cells:=[.ze]}),(4,some {cells:=[.i .i64 0,.i .i64 b]}),(7,some {cells:=[]})]}:bV)):=λh n e1 e2=>by grind [Km]
 generalize ZQ YB [yv L r,.sl 7 0 0 0] _ _ _ YB=ky at*;simp only [xc,hBz,gh,hp0,Int.natCast_zero] at hky hk ⊢;refine ew (cx:=cj [(200,Dp 0),(YB,ky)]) hcx Tryz.func199 FH ?_
 dsimp only [i199];simp only [go_sem,hk,simprocAttr];refine Loop.rounds (F:=⟨ay,cj [(200,Dp 0),(YB,ky)],[11,30,37],44,6⟩) 1 hcx mo ?_;have hYB:(200=YB)=False:=by simp [YB]
 simp only [go_sem,hky,hYB,simprocAttr];refine Loop.rounds (F:=⟨ay,cj [(200,Dp 0),(YB,ky)],[11,30,37],44,6⟩) 1 hcx mo ?_;simp only [go_sem,simprocAttr];refine Ends.R [] (by decide) (by decide) rfl rfl ?_
 simp only [go_sem,bp.aQ,AV.aQ,aS,AV.aj,ab,hRB,hRR,simprocAttr]
theorem Z6 (r:Rm) (m b:Int) (hos:ia (cf r m)=true) (hb:0<=b/\b<=1073741824) (h0:dw r.tp m=[]):
 cU (oM r m) (.block 0 (.pX (.t 24) [25] zF zZ)) (fR (re [.t 4] λv h' n'=>aZ 0 v h' n' .ze [] 0) (cU (oM r m) MO (re [.t 4] λv h' n'=>aZ 0 v h' n' .ze [] 0)))
  [(2,.p 0 0),(5,.p 1 0),(6,.p 2 0),(7,.p 3 0),(8,.p 4 0),(24,.fn 199 [.p 5 0])] (xc r m b (none,(0,0)) [(5,{cells:=[vq r m]})]) 6:=by
 refine cU.block ?_;refine qb.intro (F:=oM r m) (n':=6) (v':= .bz []) (h':=hBz r m b []) (x5 r m) mo [2,5,6,7,8] [.p 0 0,.p 1 0,.p 2 0,.p 3 0,.p 4 0] rfl (by kernel_rfl) rfl rfl rfl (λi t a h1 h2=> ?_) (λL rr hY=> ?_) (λb k hb=> ?_) (cr _) ?_
 ·match i with
  |0=>simp at h1 h2;subst h1;subst h2;rfl
  |1=>simp at h1 h2;subst h1;subst h2;rfl
  |2=>simp at h1 h2;subst h1;subst h2;rfl
  |3=>simp at h1 h2;subst h1;subst h2;rfl
  |4=>simp at h1 h2;subst h1;subst h2;rfl
  |i+5=>simp at h1
 ·exact aaw (λcs as' h1 n1 h2 n2 q1 q2 q3 q4 q5=>hY cs as' h1 n1 h2 n2 q1 q2 q3 q4 q5) hos hb h0
 ·refine nH ?_ hb;simp only [DY,fG,AV.BS,IG,JQ,aG]
 ·show cU (oM r m) MO _ _ _ _;refine cU.run (F:=oM r m) (x5 r m) mo ?_;dsimp only [oM,yN];simp only [go_sem,hBz,simprocAttr];exact aZ.ends (Ends.aw rfl rfl)
theorem adG (r:Rm) (m:Nat) (x:Mb) (hx:r.ms[m]? =some x) (hl:r.tp.length<=1000000000) (hos:ia (cf r m)=true) (hb:0<=x.es/\x.es<=1073741824) (h0:dw r.tp m=[]):
 bG ay 86 [.fp r.a 0,.i .i64 m] [] 0 .ze [] 0:=by
 have hk: ∀(h:Hp) n,CN [.fp r.a 0,.i .i64 m] h n=some (true,{v:=vq r m,n}):=λh n=>by
  grind [CN,dH,aC,af]
 have hPB:=λj=>wH r m j;have hPR:=λg=>aJ (ψ:=g) _ (hPB 0);have hRB:=λj=>Rm.aj j r;have hRR:=λg=>aJ (ψ:=g) _ (hRB 0);have hk3: ∀(h:Hp) n,H5 [vq r m] h n=some (true,{v:= .fn 199 [.p n 0],n:=n+1,nw:=[(n,{cells:=[vq r m]})]}):=λh n=>by
  grind [H5]
 have hr0:r.a[0]? =some (.fz (rows Mb.l r.ms) r.ms.length):=rfl;have hml:=(cv.1 hx).1;have c2:decide (0<=(m:Int)/\(m:Int)<(r.ms.length:Int))=true:=af (by omega)
 have gm:(rows Mb.l r.ms)[m*2+1]? =some (.i .i64 x.es):=bM (f:=Mb.l) (z:=2) (j:=1) (v:= .i .i64 x.es) Mb.len hx rfl;have rf:=Z6 r m x.es hos hb h0;simp only [xc,gh] at rf;refine bG.qk (cx:=cj (yN r m)) Tryz.func86 I0 (by simp [i86]) ?_
 dsimp only [i86];refine cU.part (F:=oM r m) (x5 r m) mo ?_;dsimp only [oM,yN];simp only [go_sem,simprocAttr];refine cU.part (F:=oM r m) (x5 r m) mo ?_;dsimp only [oM,yN];simp only [go_sem,hk,hr0,c2,gm,j3,simprocAttr];refine cU.part (F:=oM r m) (x5 r m) mo ?_;dsimp only [oM,yN];simp only [go_sem,simprocAttr];refine cU.part (F:=oM r m) (x5 r m) mo ?_;dsimp only [oM,yN];simp only [go_sem,simprocAttr];refine cU.seq ?_;refine cU.part (F:=oM r m) (x5 r m) mo ?_;dsimp only [oM,yN];simp only [go_sem,hk3,simprocAttr];refine cU.aQ [] rf (show 0<=6 by decide) (show sE [] 0 6=true by decide) ?_ ?_
 ·simp only [go_sem,AV.aQ,aS,AV.aj,ab,aP,simprocAttr]
 ·simp only [go_sem,bp.aQ,AV.aQ,aS,AV.aj,ab,hPB,hPR,hRB,hRR,simprocAttr]
theorem H4 (b:Int):s7 [] b=[]:=by
 have h2:oy [] b=q8 [] b [] (none,(0,0)):=rfl
 grind [s7,q8]
theorem CX {os:List Op} {b:Int} (hos:ia os=true): ∀(j:Nat) (o:List Int),(lK os b j).1=some o->yZ os o=true
 |0,o,h=>by cases h
 |j+1,o,h=>by
  simp only [lK,q8] at h;split at h
  ·cases h;exact JA hos j
  ·exact CX hos j o h
theorem CZ {os:List Op} {b:Int} (hos:ia os=true) (hb:0<=b):yZ os (s7 os b)=true:=CX hos _ _ (xy os hb)
theorem Im {r:Rm} (hg:aX r=true) {s:aW} (hs:s∈r.sh):cC r.ms.length s=true:=by
 simp_all [aX,fB,ak,du]
theorem SF {n:Nat} {s:aW} (h:cC n s=true):s.rt.length=s.ss.length/\s.ss.length<=3/\1<=s.ss.length/\ ∀x∈s.rt,1<=x/\x<=1073741824:=by
 simp only [cC,ak,ik] at h;obtain ⟨_,h2,h3,_,_,_,h5⟩:=h;have h2:=bD h2;refine ⟨by omega,by omega,by omega,λx hx=> ?_⟩
 rw [dt] at h5;obtain ⟨k,hk⟩:=gF hx;have:=h5 k x hk;simp only [yD,ak] at this;exact bD this.1
theorem gW {r:Rm} (hg:aX r=true) {k:Nat} {t:Tp} (ht:r.tp[k]? =some t):iJ r t=true:=by
 simp only [aX,kK,ak] at hg;have:=(dt _ _).1 hg.2.2.1 k t ht;simp_all [nz,ak]
theorem je {r:Rm} {t:Tp} (h:iJ r t=true):0<=t.sh/\ ∃s,r.sh[t.sh.toNat]? =some s/\oL s t.me=false/\(1<=t.wt/\t.wt<=10)/\(0<=t.mo/\t.mo<=(s.ss.length:Int)-1)/\dv t.sw=true/\t.sw.l=s.ss/\t.sw.wa<=t.mo:=by
 simp only [iJ,ak] at h;obtain ⟨_,h2,h3⟩:=h;refine ⟨(bD h2).1,?_⟩;split at h3
 ·rename_i s hs;simp only [ak,bg,gG] at h3;obtain ⟨a,b,c,d,e,f⟩:=h3;exact ⟨s,hs,a,bD b,bD c,d,e,f⟩
 ·cases h3
theorem RZ {r:Rm} (hg:aX r=true) {k:Nat} {t:Tp} (ht:r.tp[k]? =some t):okO (yE r k)=true:=by
 obtain ⟨h0,s,hs,_,hw,hm,_,_,_⟩:=je (gW hg ht);obtain ⟨a,b,c,d⟩:=SF (Im hg (bJ hs));have e:yE r k=⟨t.wt,t.mo,s.rt⟩:=by simp_all [yE]
 rw [e];simp only [okO,ak,bg]
 grind [dp,du]
theorem EV {f:Nat->Bool}: ∀{n k:Nat},jB f n=true->k<n->f k=true
 |n+1,k,h,hk=>by
  rw [BN,ak] at h;by_cases hkn:k=n
  ·subst hkn;exact h.2
  ·exact EV h.1 (by omega)
theorem qg {r:Rm} (hg:aX r=true) {m:Nat} (hm:m<r.ms.length):ia (cf r m)=true:=by
 have h0:=hg;simp only [aX,kK,ak] at h0;have h1:=EV h0.2.2.2 hm;simp only [wX,ak,bg] at h1;simp only [ia,ak,bg,cf,ig];refine ⟨h1.2,?_⟩;rw [du];intro o ho;obtain ⟨i,hi,rfl⟩:=List.mem_map.1 ho;obtain ⟨_,t,ht,_⟩:=jc hi;exact RZ hg ht
theorem qw {r:Rm} (hg:aX r=true) {m:Nat} {x:Mb} (hm:r.ms[m]? =some x):0<=x.es/\x.es<=1073741824:=by
 simp only [aX,ij,ak] at hg;have:=(dt _ _).1 hg.1.2 m x hm;simp only [xm,ak] at this;exact bD this.2.1
def ofM (tp:List Tp) (m:Int):List Tp:=tp.filter λt=>t.me==m
theorem FE (tp:List Tp) (m:Int): ∀k,k<=tp.length->(nT tp m k).map (λi=>tp[i]?)=((tp.take k).filter λt=>t.me==m).map some
 |0,_=>rfl
 |k+1,hk=>by
  have ih:=FE tp m k (by omega)
  obtain ⟨t,ht⟩: ∃t,tp[k]? =some t:=⟨_,bj (by omega)⟩
  rw [jY,ht];simp only [nT,ht,x7,List.filter_append]
  grind
theorem FU (tp:List Tp) (m:Int):(dw tp m).map (λi=>tp[i]?)=(ofM tp m).map some:=by
 have:=FE tp m tp.length (bx _);rwa [jh] at this
theorem Bn (tp:List Tp) (m:Int):(dw tp m).length=(ofM tp m).length:=by
 have:=dC List.length (FU tp m)
 grind
theorem Ti {β:Type} {f:Nat->β} {g:Tp->β} {tp:List Tp} (hf: ∀i t,tp[i]? =some t->f i=g t) (m:Int):(dw tp m).map f=(ofM tp m).map g:=by
 refine nk λk=> ?_;have h:=dC (λl:List (Option Tp)=>l[k]?) (FU tp m)
 grind
theorem Jk (tp:List Tp) (m:Int):sU tp m=(ofM tp m).map λt=>t.sw.ou:=Ti (λi t h=>by grind [Mn]) m
theorem xC (l:List Int):eQ l=true↔l.Nodup:=by
 unfold eQ;rw [dt,List.nodup_iff_pairwise_ne,C3];constructor
 ·intro h i j hi hj hij he;have:=h j l[j] (bj hj);rw [fy,gG,<-kG,Gb] at this
  grind [uA]
 ·intro h k x hx;rw [fy,gG,<-kG,Gb]
  grind [uA,cv]
theorem wY {f:Nat->Bool} {n:Nat}:jB f n=true↔ ∀k,k<n->f k=true:=by
 refine ⟨λh k hk=>EV h hk,λh=> ?_⟩;induction n with
 |zero=>rfl
 |succ n ih=>rw [BN,ak];exact ⟨ih λk hk=>h k (by omega),h n (by omega)⟩
structure J0 (r:Rm):Prop where
 tap: ∀t∈r.tp,iJ r t=true
 Zy:r.tp.Pairwise λa b=>fF a b<0
 out: ∀m:Nat,m<r.ms.length->((ofM r.tp m).map λt=>t.sw.ou).Nodup
 ZE: ∀m:Nat,m<r.ms.length->(ofM r.tp m).length<=5
theorem Kc {a b c:Tp} (h1:fF a b<0) (h2:fF b c<0):fF a c<0:=by
 have:=p6 h1;have:=p6 h2;exact BM (by omega)
theorem Hz (r:Rm):kK r=true↔J0 r:=by
 simp only [kK,ak,dt,wY,wX,xC,Jk,Bn,bg];constructor
 ·rintro ⟨h1,h2⟩;refine ⟨λt ht=> ?_,?_,λm hm=>(h2 m hm).1,λm hm=>(h2 m hm).2⟩
  ·obtain ⟨k,hk⟩:=gF ht;have:=h1 k t hk;simp_all [nz,ak]
  ·have key: ∀(k:Nat) x y,r.tp[k]? =some x->r.tp[k+1]? =some y->fF x y<0:=λk x y hx hy=>by
    have:=h1 (k+1) y hy;simp only [nz,ak,fy,Dd,hx] at this
    grind
   have all: ∀(d i:Nat) x y,r.tp[i]? =some x->r.tp[i+d+1]? =some y->fF x y<0:=λd=>by
    induction d with
    |zero=>exact λi x y hx hy=>key i x y hx hy
    |succ d ih=>
     intro i x y hx hy;obtain ⟨z,hz⟩: ∃z,r.tp[i+d+1]? =some z:=⟨_,bj (by grind)⟩
     exact Kc (ih i x z hx hz) (key _ z y hz hy)
   rw [C3];intro i j hi hj hij;exact all (j-i-1) i _ _ (bj hi) (by rw [show i+(j-i-1)+1=j by omega];simp)
 ·intro h;refine ⟨λk t ht=> ?_,λm hm=>⟨h.out m hm,h.ZE m hm⟩⟩;simp only [nz,ak,fy];refine ⟨h.tap t (bJ ht),?_⟩;cases k with
  |zero=>rfl
  |succ k=>
   obtain ⟨hk,he⟩:=cv.1 ht;rw [Dd,bj (by omega)]
   have:=C3.1 h.Zy k (k+1) (by omega) hk (by omega)
   rw [he] at this;simp only [af this,zS]
theorem gL (r:Rm):aX r=true↔ij r.ms=true/\fB r=true/\J0 r:=by
 simp only [aX,ak,Hz]
theorem qT {r r':Rm} (hm:r'.ms.length=r.ms.length) (hs:r'.sh=r.sh):fB r'=fB r:=by
 grind [fB]
theorem wx {r r':Rm} (hm:r'.ms.length=r.ms.length) (hs:r'.sh=r.sh) (t:Tp):iJ r' t=iJ r t:=by
 grind [iJ]
theorem C7 {r:Rm} (hg:aX r=true) (p:Nat):aX ⟨r.ms,r.sh,r.tp.eraseIdx p⟩=true:=by
 obtain ⟨h1,h2,h3⟩:=(gL r).1 hg;have hsub:(r.tp.eraseIdx p).Sublist r.tp:=List.eraseIdx_sublist _ _;have hf: ∀m,(ofM (r.tp.eraseIdx p) m).Sublist (ofM r.tp m):=λm=>hsub.filter _;refine (gL _).2 ⟨h1,(qT (r:=r) rfl rfl).trans h2,λt ht=> ?_,h3.Zy.sublist hsub,λm hm=> ?_,λm hm=> ?_⟩
 ·exact (wx (r:=r) rfl rfl t).trans (h3.tap t (hsub.subset ht))
 ·exact (h3.out m hm).sublist ((hf m).map _)
 ·exact oP (hf m).length_le (h3.ZE m hm)
theorem Jb {r:Rm} (hg:aX r=true) {m:Nat} {b:Int} (hb:0<=b/\b<=1073741824):aX ⟨r.ms.modify m λx=>{x with es:=b},r.sh,r.tp⟩=true:=by
 obtain ⟨h1,h2,h3⟩:=(gL r).1 hg;have hl:(r.ms.modify m λx=>{x with es:=b}).length=r.ms.length:=List.length_modify _ _ _
 refine (gL _).2 ⟨?_,(qT (r:=r) (r':=⟨_,r.sh,r.tp⟩) hl rfl).trans h2,λt ht=> ?_,h3.Zy,λm hm=>h3.out m (by grind),λm hm=>h3.ZE m (by grind)⟩
 ·simp only [ij,ak,bg,dt] at h1 ⊢;refine ⟨by omega,λk x hx=> ?_⟩
  have hat: ∀s,wO (r.ms.modify m λx=>{x with es:=b}) s=wO r.ms s:=λs=>by
   have e: ∀(l:List Mb) (k:Nat) (i:Int),vU (λm=>m.nm==s) (l.modify k λx=>{x with es:=b}) i=vU (λm=>m.nm==s) l i:=by
    intro l;induction l with
    |nil=>intro k i;simp
    |cons a l ih=>
     intro k i;cases k with
     |zero=>simp only [List.modify_zero_cons,vU]
     |succ k=>simp only [List.modify_succ_cons,vU,ih]
   exact e _ _ _
  have hx0:=hx;rw [List.getElem?_modify] at hx0;cases hy:r.ms[k]? with
  |none=>rw [hy] at hx0;simp at hx0
  |some y=>
   have:=h1.2 k y hy;rw [hy] at hx0;simp only [xm,ak] at this ⊢;by_cases hmk:m=k
   ·grind [dp]
   ·grind
 ·exact (wx (r:=r) (r':=⟨_,r.sh,r.tp⟩) hl rfl t).trans (h3.tap t ht)
def rV (i:Nat):List AV:=[.p 1 (i*22)]
theorem wI: ∀i,(rV i).length=1:=λ_=>rfl
theorem iE (j:Nat) (hj:1<j) (q:List Nat):ab j (rows rV q)=true:=by
 induction q with
 |nil=>rfl
 |cons a q ih=>rw [cX,dj,ih];simp [rV,ab,AV.aj,hj]
def MD (q:List Nat) (b:Nat):AV:=match q with|[]=> .ns|_=> .sg b 0 q.length
def P4 (q:List Nat) (b:Nat):Hp:=match q with|[]=>[]|_=>[(b,{cells:=rows rV q,gr:=some 1})]
abbrev cP (r:Rm) (b:Nat):bp:={cells:=[.fz (rows Mb.l r.ms) r.ms.length,.fz (rows aW.l r.sh) r.sh.length,.sg b 0 r.tp.length]}
abbrev bF (r:Rm):bp:={cells:=rows Tp.l r.tp,gr:=some 22}
theorem gU (q:List Nat) (g:Nat->Nat) (hg:g 1=1):aS g (rows rV q)=rows rV q:=by
 induction q with
 |nil=>rfl
 |cons a q ih=>rw [cX];simp [rV,aS,AV.aQ,hg,ih]
def Di (tp:List Tp) (m:Int) (k:Nat):List (Nat×Nat):=match tp[k]? with
 |some t=>bif t.me==m then [(2,4)] else []
 |none=>[]
theorem I1 (tp:List Tp) (m:Int) (k:Nat):sE (Di tp m k) 2 3=true:=by
 unfold Di;split
 ·rename_i t _;cases t.me==m<;>rfl
 ·rfl
theorem RI (r:Rm) (m:Int) (hl:r.tp.length<=1000) {K:bX} {e:Env} {h:Hp} {n:Nat}
 (he:jz 3 [] e [(0,.p 0 0),(1,.i .i64 m),(5,.ns),(12,.i .i64 (r.tp.length:Int)),(13,.i .i64 0)]) (hh:iW 3 [] h [(0,cP r 1),(1,bF r)])
 (hK: ∀e',bC e' 5=some (MD (dw r.tp m) 2)->K (.exit 0) e' ((0,cP r 1)::(1,bF r)::P4 (dw r.tp m) 2) 3):
 Ab.Loop ay [14,26] 39 2 T8 K e h n:=by
 have mB:=λj=>fT j r.ms;have sB:=λj=>cG j r.sh;have tB:=λj=>fb j r.tp;have mR:=λg=>jI g r.ms;have sR:=λg=>dT g r.sh;have tR:=λg=>jC g r.tp;have hme: ∀(k:Nat) (t:Tp),r.tp[k]? =some t->(rows Tp.l r.tp)[k*22]? =some (.i .i64 t.me):=λk t hk=>by
  have:=bM (f:=Tp.l) (z:=22) (j:=0) (v:= .i .i64 t.me) Tp.len hk rfl;omega
 have hoS:dw r.tp m=nT r.tp m r.tp.length:=rfl;rw [hoS] at hK;refine Loop.nM (F:=⟨ay,cj [],[14,26],39,2⟩) Sound.nil mo (X:=Nat) (λk=>k<=r.tp.length) (λk=>r.tp.length-k)
  (λk=>[(0,.p 0 0),(1,.i .i64 m),(5,MD (nT r.tp m k) 2),(12,.i .i64 (r.tp.length:Int)),(13,.i .i64 (k:Int))])
  (λk=>(0,cP r 1)::(1,bF r)::P4 (nT r.tp m k) 2) 3 0 (λk=>k+1) [] (Di r.tp m) (by decide) (by decide) (I1 r.tp m) (cr _) he hh (λk hk=> ?_)
 by_cases hlt:k<r.tp.length
 ·have c1:decide ((k:Int)<(r.tp.length:Int))=true:=af (by omega)
  have c2:decide (0<=(k:Int)/\(k:Int)<(r.tp.length:Int))=true:=af (by omega)
  have hw:IntKind.i64.wrap ((k:Int)+1)=((k+1:Nat):Int):=by grind [aN]
  obtain ⟨x,hx⟩: ∃x,r.tp[k]? =some x:=⟨_,bj hlt⟩;have hr:=hme k x hx;have hlen:=yC r.tp m k;have hix:nT r.tp m (k+1)=bif x.me==m then nT r.tp m k++[k] else nT r.tp m k:=by grind [nT]
  have hrn:Di r.tp m k=bif x.me==m then [(2,4)] else []:=by grind [Di]
  have hsk:r.tp.length-(k+1)<r.tp.length-k:=by omega
  rw [hix,hrn];generalize nT r.tp m k=q at*;dsimp only [cP,bF];generalize rows Tp.l r.tp=T at*;have hq1:q.length<=1000:=by omega
  cases q with
  |nil=>
   cases c3:(x.me==m)
   ·dsimp only [cond_false,MD,P4];simp only [go_sem,c1,c2,hr,hw,c3,hsk,AV.aj,ab,aP,bp.aQ,aS,AV.aQ,mB,sB,tB,mR,sR,tR,kA,simprocAttr];exact hlt
   ·dsimp only [cond_true,MD,P4,List.nil_append];have gm:decide (8<=az)=true:=rfl;simp only [go_sem,c1,c2,hr,hw,c3,hsk,gm,AV.aj,ab,aP,bp.aQ,aS,AV.aQ,mB,sB,tB,mR,sR,tR,kA,cX,IL,rV,simprocAttr];exact hlt
  |cons a q=>
   have zR:(rows rV (a::q)).length=(q.length+1)*1:=aU wI;have pB:=iE 3 (by decide) (a::q)
   have pR:=λg hg=>gU (a::q) g hg;simp only [List.length_cons] at hq1;cases c3:(x.me==m)
   ·dsimp only [cond_false,MD,P4,List.length_cons];generalize rows rV (a::q)=P at*;simp only [go_sem,c1,c2,hr,hw,c3,hsk,AV.aj,ab,aP,bp.aQ,aS,AV.aQ,mB,sB,tB,mR,sR,tR,pB,pR,rn,kA,simprocAttr];exact hlt
   ·have hap:rows rV (a::q++[k])=rows rV (a::q)++[.p 1 (k*22)]:=by rw [dO];rfl
    have pB2:=iE 3 (by decide) (a::q++[k])
    have pR2:=λg hg=>gU (a::q++[k]) g hg;rw [hap] at pB2 pR2;have hpv: ∀b,MD (a::q++[k]) b= .sg b 0 (q.length+1+1):=λb=>by simp [MD]
    have hph: ∀b,P4 (a::q++[k]) b=[(b,{cells:=rows rV (a::q)++[.p 1 (k*22)],gr:=some 1})]:=λb=>by rw [<-hap];rfl
    dsimp only [cond_true];rw [hpv,hph];dsimp only [MD,P4,List.length_cons];generalize rows rV (a::q)=P at*;have gm:decide (8*(q.length+1+1)<=az)=true:=af (by grind [az])
    simp only [go_sem,c1,c2,hr,hw,c3,hsk,gm,zR,AV.aj,ab,aP,bp.aQ,aS,AV.aQ,mB,sB,tB,mR,sR,tR,pB2,pR2,rn,kA,simprocAttr];exact hlt
 ·have c1:decide ((k:Int)<(r.tp.length:Int))=false:=bw (by omega)
  obtain rfl:k=r.tp.length:=by omega
  simp only [go_sem,simprocAttr];exact hK _ rfl
theorem aih (r:Rm) (m:Int) (hl:r.tp.length<=1000):bG ay 72 [.p 0 0,.i .i64 m] [(0,cP r 1),(1,bF r)] 2 (.fz (rows rV (dw r.tp m)) (dw r.tp m).length) [(0,cP r 1),(1,bF r)] 2:=by
 have hfin:= @RI r m hl;have mB:=λj=>fT j r.ms;have sB:=λj=>cG j r.sh;have tB:=λj=>fb j r.tp;have mR:=λg=>jI g r.ms;have sR:=λg=>dT g r.sh;have tR:=λg=>jC g r.tp;have pB:=iE 2 (by decide) (dw r.tp m)
 have pR:=gU (dw r.tp m) (rn []) rfl;generalize dw r.tp m=q at*;refine bG.dy (cx:=cj []) Sound.nil mo Tryz.func72 D8 (by simp [i72]) (aO ?_)
 dsimp only [i72];simp only [go_sem,simprocAttr];refine hfin ?_ ?_ (λe' he5=> ?_)
 ·simp only [go_sem,AV.aj,aP,AV.aQ,simprocAttr]
 ·simp only [go_sem,AV.aj,ab,aP,AV.aQ,aS,bp.aQ,mB,sB,tB,mR,sR,tR,simprocAttr]
 cases q with
 |nil=>
  dsimp only [MD,P4] at he5 ⊢;simp only [go_sem,he5,simprocAttr];refine aZ.wu (l:=[]) (v':= .fz [] 0) bW.hit ?_;refine aZ.ends (Ends.R [] (by decide) (by decide) rfl rfl ?_)
  simp only [go_sem,bp.aQ,AV.aQ,aS,AV.aj,ab,aP,mB,sB,tB,mR,sR,tR,simprocAttr]
 |cons a q=>
  dsimp only [MD,P4] at he5 ⊢;simp only [go_sem,he5,simprocAttr];refine aZ.rY (b:=2) (x:= .sg 2 0 (a::q).length) (o:=0) (m:=(a::q).length) (cs:=rows rV (a::q)) (v':= .fz (rows rV (a::q)) (a::q).length) (h':=[(0,cP r 1),(1,bF r)]) rfl rfl (.inr rfl) (.inl rfl) bW.hit ⟨⟨by decide,_,rfl,rfl,rfl,rfl,dZ.refl⟩,⟨by decide,_,rfl,rfl,rfl,rfl,dZ.refl⟩,trivial⟩ ?_
  refine aZ.ends (Ends.R [] (by decide) (by decide) (by grind [AV.aQ,List.length_cons]) (by grind [AV.aj]) ?_)
  simp only [go_sem,bp.aQ,AV.aQ,aS,AV.aj,ab,aP,mB,sB,tB,mR,sR,tR,simprocAttr]
noncomputable abbrev TN:Fx:=⟨ay,cj [],[15,20],57,3⟩
theorem aay (r:Rm) (m:Int) (c:List Int) (b:Int) (hos:ia (cf r m)=true) (hc:yZ (cf r m) c=true) (hb:0<=b/\b<=1073741824):
 bG ay 154 [.p 0 0,.fz (rows rV (dw r.tp m)) (dw r.tp m).length,.sl 2 0 c.length c.length,.i .i64 b] [(0,cP r 1),(1,bF r),(2,{cells:=rows aq c})] 3 (.agg [.i .i64 (fX (cf r m) c b c.length).1,.i .i64 (fX (cf r m) c b c.length).2]) [(0,cP r 1),(1,bF r),(2,{cells:=rows aq c})] 3:=by
 have mB:=λj=>fT j r.ms;have sB:=λj=>cG j r.sh;have tB:=λj=>fb j r.tp;have mR:=λg=>jI g r.ms;have sR:=λg=>dT g r.sh;have tR:=λg=>jC g r.tp;have hbd:=AO (b:=b) hos hc;have hcl:c.length=(dw r.tp m).length:=by
  simp only [yZ,ak,bg] at hc;rw [hc.1,cf,ig]
 have h5:c.length<=5:=by
  simp only [ia,ak,bg,cf,ig] at hos;omega
 -- what is read in a round
 have hrd: ∀(k:Nat) (x:Int),c[k]? =some x-> ∃(i:Nat) (t:Tp) (o:Op),(dw r.tp m)[k]? =some i/\r.tp[i]? =some t/\o.wt=t.wt/\(fX (cf r m) c b (k+1)=My o x (fX (cf r m) c b k))/\okO o=true/\ -1<=x/\x<=o.mo/\(∃s:aW,0<=t.sh/\r.sh[t.sh.toNat]? =some s/\o.rt=s.rt):=λk x hx=>by
  have hlt:=(cv.1 hx).1;obtain ⟨i,hi⟩: ∃i,(dw r.tp m)[k]? =some i:=⟨_,bj (by omega)⟩
  obtain ⟨_,t,ht,_⟩:=jc (bJ hi);have ho:(cf r m)[k]? =some (yE r i):=by simp only [cf,dX,hi,iI]
  have hok:=tQ hos ho;have hxr:=BI hc ho hx;refine ⟨i,t,yE r i,hi,ht,by simp only [yE,ht],by simp only [fX,ho,hx],hok,hxr.1,hxr.2,?_⟩
  obtain ⟨_,w2,w3,_,_⟩:=yx hok;have e:(yE r i).rt=if 0<=t.sh then (match r.sh[t.sh.toNat]? with|some s=>s.rt|none=>[]) else []:=by simp only [yE,ht]<;>rfl
  rw [e] at w3;split at w3
  ·rename_i h0;split at w3
   ·rename_i s hs;refine ⟨s,h0,hs,?_⟩;rw [e,aT h0,hs]
   ·simp at w3;omega
  ·simp at w3;omega
 have hV0:fX (cf r m) c b 0=(0,b):=rfl;generalize fX (cf r m) c b=V at*;have hsl:r.sh.length<=9223372036854775807\/True:= .inr trivial;have hS: ∀(i:Nat) (s:aW),r.sh[i]? =some s->(rows aW.l r.sh)[i*4+2]? =some (.fz (rows aq s.rt) s.rt.length):=λi s hs=>bM (f:=aW.l) (z:=4) (j:=2) (v:= .fz (rows aq s.rt) s.rt.length) aW.len hs rfl;have hT1: ∀(i:Nat) (t:Tp),r.tp[i]? =some t->(rows Tp.l r.tp)[i*22+1]? =some (.i .i64 t.sh):=λi t ht=>bM (f:=Tp.l) (z:=22) (j:=1) (v:= .i .i64 t.sh) Tp.len ht rfl;have hT2: ∀(i:Nat) (t:Tp),r.tp[i]? =some t->(rows Tp.l r.tp)[i*22+2]? =some (.i .i64 t.wt):=λi t ht=>bM (f:=Tp.l) (z:=22) (j:=2) (v:= .i .i64 t.wt) Tp.len ht rfl;dsimp only [cP,bF];generalize rows aW.l r.sh=SL at*;generalize rows Tp.l r.tp=T at*;have hpB:=λj hj=>iE j hj (dw r.tp m);have hP: ∀(k i:Nat),(dw r.tp m)[k]? =some i->(rows rV (dw r.tp m))[k]? =some (.p 1 (i*22)):=λk i hi=>by
  have:=bM (f:=rV) (z:=1) (j:=0) (v:= .p 1 (i*22)) wI hi rfl;simpa using this
 generalize dw r.tp m=q at*;generalize rows rV q=PL at*;have hcB:=λj=>iB j c;have hcC:=λ(k:Nat) (x:Int) (hk:c[k]? =some x)=>by
  have:=bM (f:=aq) (z:=1) (j:=0) (v:= .i .i64 x) (λ_=>rfl) hk rfl;simpa using this
 generalize hC:rows aq c=C at*;have hcR:=λg=>iR g c;rw [hC] at hcR;have hpB4:=hpB 4 (by decide)
 refine ew (cx:=cj []) Sound.nil Tryz.func154 FP ?_
 dsimp only [i154];simp only [go_sem,simprocAttr];refine Loop.dV (F:=TN) Sound.nil mo c.length (λ_=>True)
  (λk=>[(0,.p 0 0),(1,.fz PL q.length),(3,.i .i64 (V k).2),(8,.p 3 0),(9,.i .i64 (V k).1),(12,.sl 2 0 c.length c.length),(13,.i .i64 (c.length:Int)),(14,.i .i64 (k:Int))])
  (λk=>[(0,{cells:=[.fz (rows Mb.l r.ms) r.ms.length,.fz SL r.sh.length,.sg 1 0 r.tp.length]}),(1,{cells:=T,gr:=some 22}),(2,{cells:=C}),(3,{cells:=[.i .i64 0,.i .i64 0]})]) 4 (show 3<=4 by decide) trivial ?_ ?_ (λk hk _=> ?_)
 ·rw [hV0];simp only [go_sem,AV.aj,ab,aP,hpB4,hcB,mB,sB,tB,simprocAttr]
 ·simp only [go_sem,AV.aj,ab,aP,mB,sB,tB,hcB,simprocAttr]
 dsimp only [TN];by_cases hlt:k<c.length
 rotate_left
 ·have c1:decide ((k:Int)<(c.length:Int))=false:=bw (by omega)
  obtain rfl:k=c.length:=by omega
  simp only [go_sem,c1,simprocAttr];refine Ends.R [] (by decide) (by decide) rfl rfl ?_
  simp only [go_sem,bp.aQ,AV.aQ,aS,AV.aj,ab,aP,mB,sB,tB,mR,sR,tR,hcB,hcR,simprocAttr]
 have c1:decide ((k:Int)<(c.length:Int))=true:=af (by omega)
 have c2:decide (0<=(k:Int)/\(k:Int)<(c.length:Int))=true:=af (by omega)
 have c3:decide (0<=(k:Int)/\(k:Int)<(q.length:Int))=true:=af (by omega)
 have hw:IntKind.i64.wrap ((k:Int)+1)=((k+1:Nat):Int):=by rw [aN (by omega) (by omega)];omega
 obtain ⟨x,hx⟩: ∃x,c[k]? =some x:=⟨_,bj hlt⟩;have gx:=hcC k x hx;obtain ⟨i,t,o,hi,ht,owt,hVk,hok,x1,x2,s,sh0,hs,hrt⟩:=hrd k x hx;obtain ⟨o1,o2,o3,o4,o5⟩:=yx hok;have hbk:=hbd k;have hbk1:=hbd (k+1);have gp:=hP k i hi;have g1:=hT1 i t ht;have g2:=hT2 i t ht;have gs:=hS t.sh.toNat s hs;have hsl:=(cv.1 hs).1;have c4:decide (0<=t.sh/\t.sh<(r.sh.length:Int))=true:=af (by omega)
 rw [hVk] at hbk1 ⊢;generalize V k=v at*;obtain ⟨v1,v2⟩:=v;dsimp only at*;cases d:decide (x>=0)
 ·have d':=tM d;have e:My o x (v1,v2)=(v1,v2):=aY (by omega)
  rw [e];simp only [go_sem,c1,c2,gx,d,hw,kA,di,hpB4,hcB,mB,sB,tB,AV.aj,ab,aP,e9,simprocAttr];exact hlt
 ·have d':=bN d;obtain ⟨y,hy⟩: ∃y,o.rt[x.toNat]? =some y:=⟨_,bj (by omega)⟩
  have hyr:=o5 _ _ hy;have hg:o.rt.getD x.toNat 0=y:=by rw [jd,hy];rfl
  have e:My o x (v1,v2)=(v1+t.wt*(x+1),v2-y):=by rw [My,aT (by omega),hg,owt]
  rw [e] at hbk1 ⊢;rw [hrt] at hy o3 o4;have gr:(rows aq s.rt)[x.toNat]? =some (.i .i64 y):=by
   have:=bM (f:=aq) (z:=1) (j:=0) (v:= .i .i64 y) (λ_=>rfl) hy rfl;simpa using this
  have c5:decide (0<=x/\x<(s.rt.length:Int))=true:=af (by omega)
  generalize rows aq s.rt=RL at*;rw [owt] at o1;have hm1:0<=t.wt*(x+1):=Int.mul_nonneg o1.1 (by omega)
  have hm2:t.wt*(x+1)<=30:=by
   have:=Int.mul_le_mul o1.2 (show x+1<=3 by omega) (by omega) (by decide:(0:Int)<=10)
   omega
  have k5:(k:Int)<=5:=by omega
  have u1:IntKind.i64.wrap (x+1)=x+1:=aN (by omega) (by omega)
  have u2:IntKind.i64.wrap (t.wt*(x+1))=t.wt*(x+1):=aN (by omega) (by omega)
  have u3:IntKind.i64.wrap (v1+t.wt*(x+1))=v1+t.wt*(x+1):=aN (by omega) (by omega)
  have u4:IntKind.i64.wrap (v2-y)=v2-y:=aN (by omega) (by omega)
  simp only [go_sem,c1,c2,c3,c4,c5,gx,gp,g1,g2,gs,gr,d,hw,u1,u2,u3,u4,kA,di,hpB4,hcB,mB,sB,tB,AV.aj,ab,aP,e9,simprocAttr];exact hlt
abbrev kO (r:Rm) (m:Int):AV:= .fz (rows rV (dw r.tp m)) (dw r.tp m).length
noncomputable def kvl (r:Rm) (m b:Int) (c:List Int):Ct:=kH [0,1,7] [cP r 1,bF r,{cells:=rows aq c}] [.p 0 0,kO r m,.sl 2 0 c.length c.length,.i .i64 b] (.agg [.i .i64 (fX (cf r m) c b c.length).1,.i .i64 (fX (cf r m) c b c.length).2]) [(0,cP r 1),(1,bF r),(2,{cells:=rows aq c})] 3 none
theorem svl (r:Rm) (m b:Int) (c:List Int) (hos:ia (cf r m)=true) (hc:yZ (cf r m) c=true) (hb:0<=b/\b<=1073741824):ax ay 154 (kvl r m b c):=
 cK (by kernel_rfl) (by decide) (by simp [ab,AV.aj,iE,aP]) (aay r m c b hos hc hb) (by decide) (by simp [l5,dD,ab,AV.aj,iB,fT,cG,fb,aP])
theorem YD (r:Rm) (m b:Int) (c:List Int) (h:Hp) (n:Nat) (h0:aa h 0=some (cP r 1)) (h1:aa h 1=some (bF r)) (h7:aa h 7=some {cells:=rows aq c}):
 kvl r m b c [.p 0 0,kO r m,.sl 7 0 c.length c.length,.i .i64 b] h n=some (true,{v:= .agg [.i .i64 (fX (cf r m) c b c.length).1,.i .i64 (fX (cf r m) c b c.length).2],n,rd:=[0,1,7],md:=[(0,some (cP r 1)),(1,some (bF r)),(7,some {cells:=rows aq c})]}):=by
 have mB:=λj=>fT j r.ms;have sB:=λj=>cG j r.sh;have tB:=λj=>fb j r.tp;have mR:=λg=>jI g r.ms;have sR:=λg=>dT g r.sh;have tR:=λg=>jC g r.tp;have cR:=λg=>iR g c;have cB:=λj=>iB j c;have pR:=gU (dw r.tp m) (nth [0,1,7]) rfl;refine ej (h:=h) (n:=n) (by simp [aS,AV.aQ,nth,pR]) ⟨⟨?_,?_⟩,⟨?_,?_⟩,⟨?_,?_⟩,trivial⟩ ?_
 all_goals simp_all [bp.aQ,aS,AV.aQ,nth,ab,AV.aj,aP,nR,fL,jA,aa,eu]
open Classical in
noncomputable def ZS (r:Rm) (m:Int):Ct
 |[.p 0 0,l,.sl 7 0 k k',.i .i64 b],h,n=>(aa h 7).bind λB=>(bc 1 dG k B.cells).bind λc=>if k'=k/\B={cells:=rows aq c}/\l=kO r m/\aa h 0=some (cP r 1)/\aa h 1=some (bF r) then
  some (ia (cf r m)&&(yZ (cf r m) c&&bZ 0 1073741824 b),{v:= .agg [.i .i64 (fX (cf r m) c b c.length).1,.i .i64 (fX (cf r m) c b c.length).2],n,rd:=[0,1,7],md:=[(0,some (cP r 1)),(1,some (bF r)),(7,some {cells:=rows aq c})]}) else none
 |_,_,_=>none
theorem Y9 (r:Rm) (m b:Int) (c:List Int) (hos:ia (cf r m)=true) (hc:yZ (cf r m) c=true) (hb:0<=b/\b<=1073741824) (h:Hp) (n:Nat) (h0:aa h 0=some (cP r 1)) (h1:aa h 1=some (bF r)) (h7:aa h 7=some {cells:=rows aq c}):
 ZS r m [.p 0 0,kO r m,.sl 7 0 c.length c.length,.i .i64 b] h n=some (true,{v:= .agg [.i .i64 (fX (cf r m) c b c.length).1,.i .i64 (fX (cf r m) c b c.length).2],n,rd:=[0,1,7],md:=[(0,some (cP r 1)),(1,some (bF r)),(7,some {cells:=rows aq c})]}):=by
 simp_all [ZS,aC,eD,o8,dp,aG]
theorem svG (r:Rm) (m:Int):ax ay 154 (ZS r m):=λargs h n c E hc ht=>by
 unfold ZS at hc;split at hc
 ·simp only [av] at hc;obtain ⟨B,hB,c,h2,hc⟩:=hc;split at hc
  ·rename_i hh;obtain ⟨rfl,rfl,rfl,h0,h1⟩:=hh;cases hc;obtain ⟨_,rfl⟩:=bu df h2;simp only [ak] at ht;exact svl r m _ c ht.1 ht.2.1 (bD ht.2.2) _ _ _ _ _ (YD r m _ c h n h0 h1 hB) rfl
  ·cases hc
 ·cases hc
abbrev tP (r:Rm) (m b:Int) (s:Mz) (Lh:Hp):Hp:=
 (0,cP r 1)::(1,bF r)::(2,{cells:=[.p 0 0]})::(3,{cells:=[kO r m]})::(4,{cells:=[.i .i64 b]})::(5,{cells:=[gh s.1]})::(6,{cells:=[.i .i64 s.2.1,.i .i64 s.2.2]})::Lh
noncomputable def adC (c:List Int):Ct:=kH [7] [{cells:=rows aq c}] [.sl 0 0 c.length c.length] (.fz (rows aq c) c.length) [(0,{cells:=rows aq c})] 1 none
theorem ahD (c:List Int) (h0:0<c.length) (h5:c.length<=5):ax ay 90 (adC c):=
 cK (by kernel_rfl) (by decide) rfl (abd c h0 h5) (by decide) (by simp [l5,iB,dD,aP])
theorem NJ (c:List Int) (h:Hp) (n:Nat) (h5:aa h 7=some {cells:=rows aq c}):adC c [.sl 7 0 c.length c.length] h n=some (true,{v:= .fz (rows aq c) c.length,n,rd:=[7],md:=[(7,some {cells:=rows aq c})]}):=by
 have hB:=λj=>iB j c;have hR:=λg=>iR g c;refine ej (h:=h) (n:=n) rfl ⟨⟨?_,?_⟩,trivial⟩ ?_;all_goals simp_all [bp.aQ,nR,fL,AV.aQ,jA,nth,aa,aP]
open Classical in
noncomputable def zy:Ct
 |[.sl 7 0 k k'],h,n=>(aa h 7).bind λB=>(bc 1 dG k B.cells).bind λc=>if k'=k/\B={cells:=rows aq c} then some (decide (0<k)&&decide (k<=5),{v:= .fz (rows aq c) c.length,n,rd:=[7],md:=[(7,some {cells:=rows aq c})]}) else none
 |_,_,_=>none
theorem Lc (c:List Int) (h0:0<c.length) (h5:c.length<=5) (h:Hp) (n:Nat) (hb:aa h 7=some {cells:=rows aq c}):zy [.sl 7 0 c.length c.length] h n=some (true,{v:= .fz (rows aq c) c.length,n,rd:=[7],md:=[(7,some {cells:=rows aq c})]}):=by
 simp_all [zy,aC,eD,o8,af,aG]
theorem ad7:ax ay 90 zy:=λargs h n c E hc ht=>by
 unfold zy at hc;split at hc
 ·simp only [av] at hc;obtain ⟨B,hB,c,h2,hc⟩:=hc;split at hc
  ·rename_i hh;obtain ⟨rfl,rfl⟩:=hh;cases hc;obtain ⟨_,rfl⟩:=bu df h2;simp only [ak,bg] at ht;exact ahD c ht.1 ht.2 _ _ _ _ _ (NJ c h n hB) rfl
  ·cases hc
 ·cases hc
noncomputable def KX (r:Rm) (m:Int):List (Nat×Ct):=[(72,CN),(153,H5),(154,ZS r m),(90,zy),(155,cu CC)]
theorem TY (r:Rm) (m:Int):Sound ay (cj (KX r m)):=Sound.cons s72 (Sound.cons aat (Sound.cons (svG r m) (Sound.cons ad7 (Sound.cons acZ.nv Sound.nil))))
noncomputable abbrev Cr (r:Rm) (m:Int):Fx:=⟨ay,cj (KX r m),[43],48,2⟩
theorem ybL (r:Rm) (m b:Int) (s:Mz) (c:List Int) (hos:ia (cf r m)=true) (hc:yZ (cf r m) c=true) (hb:0<=b/\b<=1073741824) (h0:0<c.length) (h5c:c.length<=5) (hso: ∀o,s.1=some o->0<o.length):
 mF (Cr r m) [25] zF zZ [2,5,6,7,8] [.p 2 0,.p 3 0,.p 4 0,.p 5 0,.p 6 0] [.sl 7 0 c.length c.length] (tP r m b s (cH c 7)) 8 (tP r m b (q8 (cf r m) b c s) (cH c 7)) 8:=by
 have mB:=λj=>fT j r.ms;have sB:=λj=>cG j r.sh;have tB:=λj=>fb j r.tp;have mR:=λg=>jI g r.ms;have sR:=λg=>dT g r.sh;have tR:=λg=>jC g r.tp;have hPB:=iE 8 (by decide) (dw r.tp m)
 have hPR:=gU (dw r.tp m) (rn []) rfl;have hcB:=λj=>iB j c;have hcR:=λg=>iR g c;have hk:=λh n=>Y9 r m b c hos hc hb h n;have hk2: ∀(h:Hp) n x y,aa h 8=some {cells:=[.i .i64 x,.i .i64 y]}->aa h 6=some {cells:=[.i .i64 s.2.1,.i .i64 s.2.2]}->cu CC [.sl 8 0 2 2,.sl 6 0 2 2] h n=some (true,{v:= .i .i64 (Ch (x,y) s.2),n,rd:=[8,6]}):=λh n x y h6 h4=>by
  simp only [cu,bn,bI,TE h6,TE h4,aC,dh,List.nil_append,ez,CC];rfl
 have hk3:=λh n=>Lc c h0 h5c h n;have hst:q8 (cf r m) b c s=if decide (0<=(fX (cf r m) c b c.length).2)&&(s.1.isNone||decide (0<Ch (fX (cf r m) c b c.length) s.2)) then (some c,fX (cf r m) c b c.length) else s:=rfl
 refine mF.Ue ?_;simp only [KX,tP,cH];generalize fX (cf r m) c b c.length=v,q8 (cf r m) b c s=s2,ZS r m=q1,cu CC=q2,zy=q3 at*;obtain ⟨v1,v2⟩:=v;have hoB: ∀(o:Option (List Int)) j,(gh o).aj j=true:=λo j=>by
  cases o;all_goals simp [gh,AV.aj,iB]
 have hoR: ∀(o:Option (List Int)) g,(gh o).aQ g=gh o:=λo g=>by
  cases o;all_goals simp [gh,AV.aQ,iR]
 obtain ⟨ov,mw,mb⟩:=s;dsimp only at*;have hk2:=λh n=>hk2 h n v1 v2;cases d1:decide (0<=v2)
 ·rw [d1] at hst;rw [hst];simp only [j5,ei,dP];simp only [go_sem,tL,IB,hk,d1,simprocAttr];refine Ends.R [] (by decide) (by decide) rfl rfl ?_
  simp only [go_sem,bp.aQ,AV.aQ,aS,AV.aj,ab,aP,mB,sB,tB,mR,sR,tR,hPB,hPR,hcB,hcR,hoB,hoR,simprocAttr]
 rw [d1] at hst;simp only [mP] at hst;cases ov with
 |none=>
  have hst:s2=(some c,v1,v2):=by rw [hst];rfl
  rw [hst];dsimp only [gh];simp only [go_sem,tL,IB,hk,d1,hk3,simprocAttr];refine Ends.R [] (by decide) (by decide) rfl rfl ?_
  simp only [go_sem,bp.aQ,AV.aQ,aS,AV.aj,ab,aP,mB,sB,tB,mR,sR,tR,hPB,hPR,hcB,hcR,simprocAttr]
 |some o=>
  have hol:=hso o rfl;have n0:decide (o.length=0)=false:=bw (by omega)
  have oB:=λj=>iB j o;have oR:=λg=>iR g o;simp only [Option.isNone_some,vp] at hst;dsimp only [gh];cases d2:decide (0<Ch (v1,v2) (mw,mb))
  ·rw [d2] at hst;rw [hst];simp only [ei,dP];obtain ⟨k,hk0⟩: ∃k,o.length=k+1:=⟨o.length-1,by omega⟩
   rw [hk0] at*;simp only [go_sem,tL,IB,hk,hk2,d1,d2,simprocAttr];refine Ends.R [] (by decide) (by decide) rfl rfl ?_
   simp only [go_sem,bp.aQ,AV.aQ,aS,AV.aj,ab,aP,mB,sB,tB,mR,sR,tR,hPB,hPR,hcB,hcR,oB,oR,simprocAttr]
  ·rw [d2] at hst;rw [hst];simp only [cM];obtain ⟨k,hk0⟩: ∃k,o.length=k+1:=⟨o.length-1,by omega⟩
   rw [hk0] at*;simp only [go_sem,tL,IB,hk,hk2,hk3,d1,d2,simprocAttr];refine Ends.R [] (by decide) (by decide) rfl rfl ?_
   simp only [go_sem,bp.aQ,AV.aQ,aS,AV.aj,ab,aP,mB,sB,tB,mR,sR,tR,hPB,hPR,hcB,hcR,simprocAttr]
abbrev yvL (L:Nat) (r:Go.Loop):AV:= .yl L r [2,5,6,7,8] [.p 2 0,.p 3 0,.p 4 0,.p 5 0,.p 6 0]
def YBl (rm:Rm) (m:Int) (L:Nat) (r:Go.Loop):Prop:= ∀cs as' h1 n1 h2 n2,[25].length=as'.length->fG cs=true->fG as'=true->(∀b k,aa h1 b=some k->fG k.cells=true)->mF (Cr rm m) [25] zF zZ [2,5,6,7,8] cs as' h1 n1 h2 n2->bG ay YB (.yl L r [2,5,6,7,8] cs::as') h1 n1 (.b true) h2 n2
abbrev ksL (r:Rm) (m b:Int) (s:Mz) (c:List Int):List bp:=[cP r 1,bF r,{cells:=[.p 0 0]},{cells:=[kO r m]},{cells:=[.i .i64 b]},{cells:=[gh s.1]},{cells:=[.i .i64 s.2.1,.i .i64 s.2.2]},{cells:=rows aq c}]
theorem J9 (q:List Nat):fG (rows rV q)=true:=lL (λi=>rfl)
theorem aeY {L:Nat} {r:Go.Loop} {rm:Rm} {m b:Int} (hY:YBl rm m L r) (s:Mz) (c:List Int) (hos:ia (cf rm m)=true) (hc:yZ (cf rm m) c=true) (hb:0<=b/\b<=1073741824) (h0:0<c.length) (h5c:c.length<=5) (hso: ∀o,s.1=some o->0<o.length) (B:bp) (n:Nat):
 aA ay YB [yvL L r,.sl 8 0 c.length c.length] (tP rm m b s ((7,B)::cH c 8)) n {v:= .b true,n,rd:=[0,1,2,3,4,5,6,8],md:=[(0,some (cP rm 1)),(1,some (bF rm)),(2,some {cells:=[.p 0 0]}),(3,some {cells:=[kO rm m]}),(4,some {cells:=[.i .i64 b]}),(5,some {cells:=[gh (q8 (cf rm m) b c s).1]}),(6,some {cells:=[.i .i64 (q8 (cf rm m) b c s).2.1,.i .i64 (q8 (cf rm m) b c s).2.2]}),(8,some {cells:=rows aq c})]}:=by
 have hf:=hY [.p 2 0,.p 3 0,.p 4 0,.p 5 0,.p 6 0] [.sl 7 0 c.length c.length] (tP rm m b s (cH c 7)) 8 _ 8 rfl rfl rfl (λb k hb=>nH (by simp only [DY,fG,AV.BS,DK,Bk,BA,J9,Bf,wT,aG]) hb) (ybL rm m b s c hos hc hb h0 h5c hso)
 have mB:=λj=>fT j rm.ms;have sB:=λj=>cG j rm.sh;have tB:=λj=>fb j rm.tp;have mR:=λg=>jI g rm.ms;have sR:=λg=>dT g rm.sh;have tR:=λg=>jC g rm.tp;have hPB:=iE 8 (by decide) (dw rm.tp m)
 have hPR:=gU (dw rm.tp m) (nth [0,1,2,3,4,5,6,8]) rfl;have hPR2:=gU (dw rm.tp m) (jA [0,1,2,3,4,5,6,8] n) rfl;have hcB:=λj=>iB j c;have hcR:=λg=>iR g c;have hoB: ∀(o:Option (List Int)) j,(gh o).aj j=true:=λo j=>by
  cases o;all_goals simp [gh,AV.aj,iB]
 have hoR: ∀(o:Option (List Int)) g,(gh o).aQ g=gh o:=λo g=>by
  cases o;all_goals simp [gh,AV.aQ,iR]
 generalize q8 (cf rm m) b c s=s2 at*;refine (aA.canon (n:=n) (h:=tP rm m b s ((7,B)::cH c 8)) (pn:=none) [0,1,2,3,4,5,6,8] (ksL rm m b s c) (by kernel_rfl) (by decide) (argsL:=[yvL L r,.sl 7 0 c.length c.length]) (by rfl) ?_ hf (by decide) ?_).cast ?_ ?_
 ·simp_all [IX,aa,bp.aQ,aS,AV.aQ,nth,ab,AV.aj,eu,aP]
 ·simp_all [l5,dD,ab,AV.aj,aP]
 all_goals simp_all [aS,AV.aQ,nth,nR,fL,bp.aQ,jA,aa,aP,eu]
noncomputable def KH (n:Nat):Ct:=kH [8] [{cells:=[.i .i64 (-1)]}] [.sl 0 0 1 1,.i .i64 (n:Int)] (.sl 1 0 n n) [(1,{cells:=rows aq (List.replicate n (-1))})] 2 none
theorem abU (n:Nat) (hn:n<=5):ax ay 200 (KH n):=
 cK (by kernel_rfl) (by decide) rfl (Ug n hn) (by decide) (by simp [l5,iB,dD,aP])
theorem LQ (k:Nat) (h:Hp) (n:Nat) (h5:aa h 8=some {cells:=[.i .i64 (-1)]}):KH k [.sl 8 0 1 1,.i .i64 (k:Int)] h n=some (true,{v:= .sl n 0 k k,n:=n+1,rd:=[8],md:=[(8,none)],nw:=[(n,{cells:=rows aq (List.replicate k (-1))})]}):=by
 have hR:=λg=>iR g (List.replicate k (-1));refine ej (h:=h) (n:=n) rfl ⟨⟨?_,?_⟩,trivial⟩ ?_
 ·grind [bp.aQ,aS,AV.aQ]
 ·rfl
 grind [nR,fL,bp.aQ,AV.aQ,jA,aa,aP,eu]
theorem aax {L:Nat} {r:Go.Loop} {rm:Rm} {m b:Int} (hY:YBl rm m L r) (hos:ia (cf rm m)=true) (hb:0<=b/\b<=1073741824) (h0:0<(dw rm.tp m).length):
 bG ay 199 [yvL L r,.p 7 0] (tP rm m b (none,(0,0)) [(7,{cells:=[kO rm m]})]) 8 (.bz []) (tP rm m b (oy (cf rm m) b) []) 8:=by
 have hlen:(cf rm m).length=(dw rm.tp m).length:=by rw [cf,ig]
 have h5:(dw rm.tp m).length<=5:=by
  simp_all [ia,ak,bg]
 have hml:(mU (cf rm m)).length=(dw rm.tp m).length:=by rw [mU,ig,hlen]
 refine ew (cx:=cj [(200,KH (dw rm.tp m).length)]) (Sound.cons (abU _ h5) Sound.nil) Tryz.func199 FH ?_
 dsimp only [i199];have hk:=λh n=>LQ (dw rm.tp m).length h n;simp only [tP];simp only [go_sem,hk,simprocAttr];have mB:=λj=>fT j rm.ms;have sB:=λj=>cG j rm.sh;have tB:=λj=>fb j rm.tp;have mR:=λg=>jI g rm.ms;have sR:=λg=>dT g rm.sh;have tR:=λg=>jC g rm.tp;have hqB:=λj hj=>iE j hj (dw rm.tp m);have hqR:=λg hg=>gU (dw rm.tp m) g hg;have hP: ∀(k i:Nat),(dw rm.tp m)[k]? =some i->(rows rV (dw rm.tp m))[k]? =some (.p 1 (i*22)):=λk i hi=>by
  have:=bM (f:=rV) (z:=1) (j:=0) (v:= .p 1 (i*22)) wI hi rfl
  grind
 have hT3: ∀(i:Nat) (t:Tp),rm.tp[i]? =some t->(rows Tp.l rm.tp)[i*22+3]? =some (.i .i64 t.mo):=λi t ht=>bM (f:=Tp.l) (z:=22) (j:=3) (v:= .i .i64 t.mo) Tp.len ht rfl;have hms: ∀k,k<(dw rm.tp m).length-> ∃(i:Nat) (t:Tp),(dw rm.tp m)[k]? =some i/\rm.tp[i]? =some t/\(mU (cf rm m))[k]? =some t.mo/\0<=t.mo/\t.mo<=2:=λk hk=>by
  obtain ⟨i,hi⟩: ∃i,(dw rm.tp m)[k]? =some i:=⟨_,bj hk⟩;obtain ⟨_,t,ht,_⟩:=jc (bJ hi);have ho:(cf rm m)[k]? =some (yE rm i):=by grind [cf,dX,iI]
  have hok:=yx (tQ hos ho)
  grind [yE,mo,mU,dX,iI]
 have hcy: ∀j,_:=λj=>aeY hY (lK (cf rm m) b j) (HZ (mU (cf rm m)) j) hos (JA hos j) hb (by rw [nV];omega) (by rw [nV];omega) (λo ho=>wW (by omega) j o ho) {cells:=[kO rm m]} 9
 have hE:oy (cf rm m) b=lK (cf rm m) b (fK (mU (cf rm m))):=rfl;have h00:(none,(0,0))=lK (cf rm m) b 0:=rfl;have hst: ∀j,q8 (cf rm m) b (HZ (mU (cf rm m)) j) (lK (cf rm m) b j)=lK (cf rm m) b (j+1):=λj=>rfl;simp only [hst,nV,hml] at hcy;have hz:=Ub (mU (cf rm m));rw [hml] at hz;rw [hE,<-hz];generalize mU (cf rm m)=ms,lK (cf rm m) b=bf at*;have q1:gh none=gh (bf 0).1:=by rw [<-h00]
 have q2:(0:Int)=(bf 0).2.1:=by rw [<-h00]
 have q3:(0:Int)=(bf 0).2.2:=by rw [<-h00]
 simp only [kO,cP,bF,tP,cH] at*;generalize dw rm.tp m=q,rows Tp.l rm.tp=T at*;generalize rows rV q=PL,rows Mb.l rm.ms=ML at*;generalize rows aW.l rm.sh=SL at*;have hqB8:=hqB 8 (by decide)
 have hqB9:=hqB 9 (by decide)
 have hqRi:=hqR (rn []) rfl;have hqRx:=hqR (λx=>x) rfl;have hqR8:=hqR (rn [(8,9)]) rfl;have hoB: ∀(o:Option (List Int)) j,(gh o).aj j=true:=λo j=>by
  cases o;all_goals simp [gh,AV.aj,iB]
 have hoR: ∀(o:Option (List Int)) g,(gh o).aQ g=gh o:=λo g=>by
  cases o;all_goals simp [gh,AV.aQ,iR]
 rw [show ([AV.i .i64 0,.i .i64 0]:List AV)=[.i .i64 (bf 0).2.1,.i .i64 (bf 0).2.2] by rw [<-q2,<-q3],q1]
 refine Loop.aeh (F:=⟨ay,cj [],[11,30,37],44,8⟩) mo (X:=Nat) (λj=>j<fK ms) (λj=>fK ms-j)
  (λj=>[(0,yvL L r),(1,.p 7 0),(3,.sl 8 0 q.length q.length)])
  (λj=>[(0,{cells:=[.fz ML rm.ms.length,.fz SL rm.sh.length,.sg 1 0 rm.tp.length]}),(1,{cells:=T,gr:=some 22}),(2,{cells:=[.p 0 0]}),(3,{cells:=[.fz PL q.length]}),(4,{cells:=[.i .i64 b]}),(5,{cells:=[gh (bf j).1]}),(6,{cells:=[.i .i64 (bf j).2.1,.i .i64 (bf j).2.2]}),(7,{cells:=[.fz PL q.length]}),(8,{cells:=rows aq (HZ ms j)})]) 9 0 (λj=>j+1) [(8,9)] (λ_=>[]) (by decide) (by decide) (λ_=>by decide) (nL ms) ?_ ?_ (λj hj=> ?_)
 ·simp only [go_sem,AV.aj,ab,aP,AV.aQ,aS,simprocAttr]
 ·simp only [go_sem,AV.aj,ab,aP,AV.aQ,aS,bp.aQ,mB,sB,tB,mR,sR,tR,hqB9,hqR8,hoB,hoR,iB,iR,simprocAttr]
 refine ⟨_,zC (hcy j),?_⟩;have hcy:=hcy j;generalize hE0:q8 (cf rm m) b (HZ ms j) (bf j)=E0;simp only [go_sem,Km,simprocAttr];have hcn:=adp ms j;rw [hml] at hcn;rw [<-hcn];refine Loop.by (F:=⟨ay,cj [],[11,30,37],44,8⟩) Sound.nil mo (X:=Nat) (λk=>k<=q.length/\Av ms j k) (λk=>k)
  (λk=>[(0,yvL L r),(1,.p 7 0),(3,.sl 8 0 q.length q.length),(4,.i .i64 ((k:Int)-1))])
  (λk=>[(0,{cells:=[.fz ML rm.ms.length,.fz SL rm.sh.length,.sg 1 0 rm.tp.length]}),(1,{cells:=T,gr:=some 22}),(2,{cells:=[.p 0 0]}),(3,{cells:=[.fz PL q.length]}),(4,{cells:=[.i .i64 b]}),(5,{cells:=[gh (bf (j+1)).1]}),(6,{cells:=[.i .i64 (bf (j+1)).2.1,.i .i64 (bf (j+1)).2.2]}),(7,{cells:=[.fz PL q.length]}),(8,{cells:=rows aq (Iw ms j k)})]) 9 q.length (show 8<=9 by decide) ⟨bx _,by grind [ac4]⟩ ?_ ?_ (λk hk=> ?_)
 ·have hw:IntKind.i64.wrap ((q.length:Int)-1)=(q.length:Int)-1:=aN (by omega) (by omega)
  simp only [go_sem,AV.aj,ab,aP,hw,simprocAttr]
 ·simp only [go_sem,AV.aj,ab,aP,mB,sB,tB,hqB9,hoB,iB,simprocAttr]
 obtain ⟨hk1,hk2⟩:=hk;cases k with
 |zero=>
  have hje:=O6 hj hk2;simp only [go_sem,simprocAttr];rw [hje];exact Ends.R [] (by decide) (by decide) rfl rfl (by simp_all [iW,aa,rn,bp.aQ,aS,AV.aQ,ab,AV.aj,eu])
 |succ k=>
  have e:((k+1:Nat):Int)-1=(k:Int):=by omega
  rw [e];obtain ⟨i,t,hi,ht,hm,t0,t2⟩:=hms k (by omega)
  have gp:=hP k i hi;have gt:=hT3 i t ht;have gx:=BC (ms:=ms) (j:=j) (k:=k+1) (i:=k) (by omega)
  rw [aT (by omega)] at gx
  have gx':(rows aq (Iw ms j (k+1)))[k]? =some (.i .i64 (dg ms j k)):=by
   have:=bM (f:=aq) (z:=1) (j:=0) (v:= .i .i64 (dg ms j k)) (λ_=>rfl) gx rfl
   grind
  have c1:decide ((k:Int)>=0)=true:=af (by omega)
  have c2:decide (0<=(k:Int)/\(k:Int)<(q.length:Int))=true:=af (by omega)
  have c3:decide ((k:Int)<0)=false:=bw (by omega)
  have hcl:(rows aq (Iw ms j (k+1))).length=q.length:=by rw [aU bR,Ah,hml,di]
  have le1:decide (k+1<=(rows aq (Iw ms j (k+1))).length)=true:=af (by omega)
  have hw2:IntKind.i64.wrap ((k:Int)-1)=(k:Int)-1:=aN (by omega) (by omega)
  have hdb:=Ul ms j hm t0;have hw1:IntKind.i64.wrap (dg ms j k+1)=dg ms j k+1:=aN (by omega) (by omega)
  cases d:dg ms j k==t.mo
  ·have d':dg ms j k≠t.mo:=by simpa using d
   obtain ⟨u1,u2,u3⟩:=Uw (by omega) hm t0 hk2 d'
   have u4:=XG (by omega) hj u3
   have sp:=FQ (Iw ms j (k+1)) k (dg ms j k+1) (by grind)
   rw [Fg (by omega) u1,I5 u2] at sp
   simp only [go_sem,c1,c2,c3,gp,gt,gx',d,di,le1,hw1,AV.aj,ab,aP,AV.aQ,aS,bp.aQ,mB,sB,tB,mR,sR,tR,hqB9,hqRi,hoB,hoR,iB,iR,sp,simprocAttr];omega
  ·have d':dg ms j k=t.mo:=by simpa using d
   obtain ⟨u1,u2⟩:=Ux (by omega) hm t0 hk2 d'
   have sp:=FQ (Iw ms j (k+1)) k (-1) (by grind)
   rw [Fg (by omega) u2] at sp
   simp only [go_sem,c1,c2,gp,gt,gx',d,di,le1,hw2,AV.aj,ab,aP,mB,sB,tB,hqB9,hoB,iB,sp,simprocAttr]
   grind
theorem aeJ (r:Rm) (m b:Int) (hos:ia (cf r m)=true) (hb:0<=b/\b<=1073741824) (h0:0<(dw r.tp m).length):
 cU (Cr r m) (.block 0 (.pX (.t 24) [25] zF zZ)) (fR (re [.t 4] λv h' n'=>aZ 2 v h' n' (gh (oy (cf r m) b).1) [(0,cP r 1),(1,bF r)] 2) (cU (Cr r m) MO (re [.t 4] λv h' n'=>aZ 2 v h' n' (gh (oy (cf r m) b).1) [(0,cP r 1),(1,bF r)] 2)))
  [(2,.p 2 0),(5,.p 3 0),(6,.p 4 0),(7,.p 5 0),(8,.p 6 0),(24,.fn 199 [.p 7 0])] (tP r m b (none,(0,0)) [(7,{cells:=[kO r m]})]) 8:=by
 refine cU.block ?_;refine qb.intro (F:=Cr r m) (n':=8) (v':= .bz []) (h':=tP r m b (oy (cf r m) b) []) (TY r m) mo [2,5,6,7,8] [.p 2 0,.p 3 0,.p 4 0,.p 5 0,.p 6 0] rfl (by kernel_rfl) rfl rfl rfl (λi t a h1 h2=> ?_) (λL rr hY=> ?_) (λb k hb=> ?_) (show 2<=8 by decide) ?_
 ·match i with
  |0=>simp at h1 h2;subst h1;subst h2;rfl
  |1=>simp at h1 h2;subst h1;subst h2;rfl
  |2=>simp at h1 h2;subst h1;subst h2;rfl
  |3=>simp at h1 h2;subst h1;subst h2;rfl
  |4=>simp at h1 h2;subst h1;subst h2;rfl
  |i+5=>simp at h1
 ·exact aax (λcs as' h1 n1 h2 n2 q1 q2 q3 q4 q5=>hY cs as' h1 n1 h2 n2 q1 q2 q3 q4 q5) hos hb h0
 ·refine nH ?_ hb;simp only [DY,fG,AV.BS,DK,Bk,BA,J9,Bf,aG]
 ·show cU (Cr r m) MO _ _ _ _;refine cU.run (F:=Cr r m) (TY r m) mo ?_;have hoB: ∀(o:Option (List Int)) j,(gh o).aj j=true:=λo j=>by
   cases o;all_goals simp [gh,AV.aj,iB]
  have mB:=λj=>fT j r.ms;have sB:=λj=>cG j r.sh;have tB:=λj=>fb j r.tp;have mR:=λg=>jI g r.ms;have sR:=λg=>dT g r.sh;have tR:=λg=>jC g r.tp;have hoR: ∀(o:Option (List Int)) g,(gh o).aQ g=gh o:=λo g=>by
   cases o;all_goals simp [gh,AV.aQ,iR]
  generalize oy (cf r m) b=B;dsimp only [Cr,KX];simp only [go_sem,tP,simprocAttr];exact aZ.ends (Ends.R [] (by decide) (by decide) (hoR _ _).symm (hoB _ _) (by simp_all [iW,aa,rn,bp.aQ,aS,AV.aQ,ab,AV.aj,eu]))
theorem abz (r:Rm) (m:Int):ax ay 153 (kH [0,1] [cP r 1,bF r] [kO r m] (.fn 199 [.p 2 0]) [(0,cP r 1),(1,bF r),(2,{cells:=[kO r m]})] 3 none):=by
 have hB:=iE 2 (by decide) (dw r.tp m)
 have hB3:=iE 3 (by decide) (dw r.tp m)
 have hR:=gU (dw r.tp m) (rn []) rfl;have mB:=λj=>fT j r.ms;have sB:=λj=>cG j r.sh;have tB:=λj=>fb j r.tp;have mR:=λg=>jI g r.ms;have sR:=λg=>dT g r.sh;have tR:=λg=>jC g r.tp;refine cK (by kernel_rfl) (by decide) (by simp [ab,AV.aj,hB]) ?_ (by decide) (by grind [l5,dD,ab,AV.aj,sB,aP])
 refine ew (cx:=cj []) Sound.nil Tryz.func153 G7 ?_
 dsimp only [i153,iP];simp only [go_sem,simprocAttr];exact Ends.R [] (by decide) (by decide) rfl rfl (by simp_all [iW,aa,rn,bp.aQ,aS,AV.aQ,ab,AV.aj,eu])
noncomputable def we (r:Rm) (m:Int):Ct:=WK [0,1] [cP r 1,bF r] [.p 0 0,.i .i64 m] (kO r m)
theorem Up (r:Rm) (m:Int) (hl:r.tp.length<=1000):ax ay 72 (we r m):=
 qE (by kernel_rfl) (by decide) rfl (aih r m hl) (by simp [l5,iP,dD,ab,AV.aj,fT,cG,fb,aP])
theorem AM (r:Rm) (m:Int) (h:Hp) (n:Nat) (h0:aa h 0=some (cP r 1)) (h1:aa h 1=some (bF r)):
 we r m [.p 0 0,.i .i64 m] h n=some (true,{v:=kO r m,n,rd:=[0,1]}):=by
 have pR:=gU (dw r.tp m) (jA [0,1] n) rfl;refine Aj (h:=h) (n:=n) rfl ⟨⟨?_,?_⟩,⟨?_,?_⟩,trivial⟩ ?_;all_goals simp_all [bp.aQ,aS,AV.aQ,nth,jI,dT,ab,AV.aj,fT,cG,aP,jC,fb]
theorem ace (r:Rm) (m:Nat) (x:Mb) (hx:r.ms[m]? =some x) (hl:r.tp.length<=1000) (hos:ia (cf r m)=true) (hb:0<=x.es/\x.es<=1073741824) (h0:0<(dw r.tp m).length):
 bG ay 86 [.p 0 0,.i .i64 m] [(0,cP r 1),(1,bF r)] 2 (gh (oy (cf r m) x.es).1) [(0,cP r 1),(1,bF r)] 2:=by
 have mB:=λj=>fT j r.ms;have sB:=λj=>cG j r.sh;have tB:=λj=>fb j r.tp;have mR:=λg=>jI g r.ms;have sR:=λg=>dT g r.sh;have tR:=λg=>jC g r.tp;have hPB:=iE 8 (by decide) (dw r.tp m)
 have hPR:=gU (dw r.tp m) (rn []) rfl;have hk:=λh n=>AM r m h n;have hk3: ∀(h:Hp) n,aa h 0=some (cP r 1)->aa h 1=some (bF r)->kH [0,1] [cP r 1,bF r] [kO r m] (.fn 199 [.p 2 0]) [(0,cP r 1),(1,bF r),(2,{cells:=[kO r m]})] 3 none [kO r m] h n=some (true,{v:= .fn 199 [.p n 0],n:=n+1,rd:=[0,1],md:=[(0,some (cP r 1)),(1,some (bF r))],nw:=[(n,{cells:=[kO r m]})]}):=λh n h0 h1=>by
  have pR:=gU (dw r.tp m) (jA [0,1] n) rfl;have pN:=gU (dw r.tp m) (nth [0,1]) rfl;refine ej (h:=h) (n:=n) (by simp [aS,AV.aQ,pN]) ⟨⟨?_,?_⟩,⟨?_,?_⟩,trivial⟩ ?_
  ·rw [h0];simp [bp.aQ,aS,AV.aQ,nth,jI,dT]
  ·simp [ab,AV.aj,fT,cG,aP]
  all_goals simp_all [bp.aQ,jC,fb,nR,fL,aS,AV.aQ,jA,nth,aa,jI,dT,aP,eu]
 have hcx:Sound ay (cj [(72,we r m),(153,_)]):=Sound.cons (Up r m hl) (Sound.cons (abz r m) Sound.nil);have hr0:(rows Mb.l r.ms)[m*2+1]? =some (.i .i64 x.es):=bM (f:=Mb.l) (z:=2) (j:=1) (v:= .i .i64 x.es) Mb.len hx rfl;have hml:=(cv.1 hx).1;have c2:decide (0<=(m:Int)/\(m:Int)<(r.ms.length:Int))=true:=af (by omega)
 have rf:=aeJ r m x.es hos hb h0;simp only [tP,gh] at rf;refine bG.qk (cx:=cj (KX r m)) Tryz.func86 I0 (by simp [i86]) ?_
 dsimp only [i86];generalize (oy (cf r m) x.es).1=B at*;generalize kH [0,1] [cP r 1,bF r] [kO r m] _ _ _ _=k3 at*;refine cU.part (F:=⟨ay,cj [(72,we r m),(153,k3)],[43],48,2⟩) hcx mo ?_;simp only [go_sem,simprocAttr];refine cU.part (F:=⟨ay,cj [(72,we r m),(153,k3)],[43],48,2⟩) hcx mo ?_;simp only [go_sem,hk,hr0,c2,j3,simprocAttr];refine cU.part (F:=⟨ay,cj [(72,we r m),(153,k3)],[43],48,2⟩) hcx mo ?_;simp only [go_sem,simprocAttr];refine cU.part (F:=⟨ay,cj [(72,we r m),(153,k3)],[43],48,2⟩) hcx mo ?_;simp only [go_sem,simprocAttr];refine cU.seq ?_;refine cU.part (F:=⟨ay,cj [(72,we r m),(153,k3)],[43],48,2⟩) hcx mo ?_;simp only [go_sem,hk3,simprocAttr];refine cU.aQ [] rf (show 2<=8 by decide) (show sE [] 2 8=true by decide) ?_ ?_
 ·simp only [go_sem,AV.aQ,aS,AV.aj,ab,aP,simprocAttr]
 ·simp only [go_sem,bp.aQ,AV.aQ,aS,AV.aj,ab,aP,hPB,hPR,mB,sB,tB,mR,sR,tR,simprocAttr]
def wg (t:Tp) (x:Int):Tp:={t with sw:=(gR t.sw x 3).1}
def BV (tp:List Tp) (q:List Nat) (c:List Int):Nat->List Tp
 |0=>tp
 |k+1=>match q[k]?,c[k]? with
  |some i,some x=>(match tp[i]? with|some t=>(BV tp q c k).set i (wg t x)|none=>BV tp q c k)
  |_,_=>BV tp q c k
def gu (r:Rm) (m:Nat):List Int:=s7 (cf r m) ((r.ms[m]?).elim 0 Mb.es)
def dF (r:Rm) (m:Nat):Rm:=⟨r.ms,r.sh,BV r.tp (dw r.tp m) (gu r m) (dw r.tp m).length⟩
theorem wQ (tp:List Tp) (q:List Nat) (c:List Int): ∀k,(BV tp q c k).length=tp.length
 |0=>rfl
 |k+1=>by
  have ih:=wQ tp q c k
  grind [BV,List.length_set]
theorem K9 {tp:List Tp} {q:List Nat} {c:List Int} {i:Nat}: ∀{k:Nat},(∀j,j<k->q[j]? ≠some i)->(BV tp q c k)[i]? =tp[i]?
 |0,_=>rfl
 |k+1,h=>by
  have ih:=K9 (tp:=tp) (c:=c) (k:=k) (λj hj=>h j (by omega))
  have h1:=h k (by omega)
  simp only [BV]
  grind
theorem Bw {tp:List Tp} {m:Int}: ∀{n j k a b:Nat},j<k->(nT tp m n)[j]? =some a->(nT tp m n)[k]? =some b->a<b
 |0,j,k,a,b,_,h,_=>by simp [nT] at h
 |n+1,j,k,a,b,hjk,h1,h2=>by
  have e:nT tp m (n+1)=nT tp m n\/nT tp m (n+1)=nT tp m n++[n]:=by
   grind [nT,inl]
  rcases e with e|e
  ·rw [e] at h1 h2;exact Bw hjk h1 h2
  ·rw [e] at h1 h2
   ·simp only [mM] at h1 h2;have hk:k<(nT tp m n).length+1:=by
     grind
    rw [aT (show j<(nT tp m n).length by omega)] at h1
    by_cases hkl:k<(nT tp m n).length
    ·rw [aT hkl] at h2;exact Bw hjk h1 h2
    ·rw [aY hkl] at h2;obtain rfl:k=(nT tp m n).length:=by omega
     simp at h2;have:=(jc (bJ h1)).1;omega
theorem FD {l:List Tp} {i:Nat} {t:Tp} (h:l[i]? =some t) (s:Sw):List.take (i*22+4) (rows Tp.l l)++s.a++List.drop (i*22+4+18) (rows Tp.l l)=rows Tp.l (l.set i {t with sw:=s}):=by
 have hi:=(cv.1 h).1;have e1:l=l.take i++t::l.drop (i+1):=by
  grind [cv,List.getElem_cons_drop,jr]
 have e2:l.set i {t with sw:=s}=l.take i++{t with sw:=s}::l.drop (i+1):=by grind
 rw [e2,dO,cX];have hl:(rows Tp.l (l.take i)).length=i*22:=by rw [aU Tp.len,fY,pY (by omega)]
 have e3:rows Tp.l l=rows Tp.l (l.take i)++(t.l++rows Tp.l (l.drop (i+1))):=by grind [cX,dO]
 rw [e3,List.take_append,List.drop_append,hl];rw [show i*22+4-i*22=4 by omega,show i*22+4+18-i*22=22 by omega]
 have q1:List.take (i*22+4) (rows Tp.l (l.take i))=rows Tp.l (l.take i):=dN (by omega)
 have q2:List.drop (i*22+4+18) (rows Tp.l (l.take i))=[]:=oE (by omega)
 rw [q1,q2];simp [Tp.l,Sw.a]
theorem CU {l:List Tp} {i:Nat} {t:Tp} (h:l[i]? =some t):List.take 18 (List.drop (i*22+4) (rows Tp.l l))=t.sw.a:=by
 have:=dm (f:=Tp.l) Tp.len h;unfold aD at this;rw [show i*22+4=i*22+4 from rfl,<-tG]
 rw [show (18:Nat)=22-4 from rfl,<-List.drop_take,this]
 rfl
noncomputable def PO (r:Rm) (m:Nat) (c:List Int):Ct:=WK [0,1] [cP r 1,bF r] [.p 0 0,.i .i64 m] (.fz (rows aq c) c.length)
theorem aiW (r:Rm) (m:Nat) (x:Mb) (hx:r.ms[m]? =some x) (hl:r.tp.length<=1000) (hos:ia (cf r m)=true) (hb:0<=x.es/\x.es<=1073741824) (h0:0<(dw r.tp m).length):ax ay 86 (PO r m (gu r m)):=by
 have h:=ace r m x hx hl hos hb h0;rw [xy _ hb.1] at h;have e:s7 (cf r m) x.es=gu r m:=by grind [gu,Option.elim]
 rw [e] at h;exact qE (by kernel_rfl) (by decide) rfl h (by simp [l5,iP,dD,ab,AV.aj,fT,cG,fb,aP])
theorem Pu (r:Rm) (m:Nat) (c:List Int) (h:Hp) (n:Nat) (h0:aa h 0=some (cP r 1)) (h1:aa h 1=some (bF r)):
 PO r m c [.p 0 0,.i .i64 m] h n=some (true,{v:= .fz (rows aq c) c.length,n,rd:=[0,1]}):=by
 refine Aj (h:=h) (n:=n) rfl ⟨⟨?_,?_⟩,⟨?_,?_⟩,trivial⟩ ?_;all_goals simp_all [bp.aQ,aS,AV.aQ,nth,jI,dT,ab,AV.aj,fT,cG,aP,jC,fb,iR]
theorem aho (r:Rm) (m:Nat) (x:Mb) (hx:r.ms[m]? =some x) (hl:r.tp.length<=1000) (hos:ia (cf r m)=true) (hb:0<=x.es/\x.es<=1073741824) (h0:0<(dw r.tp m).length)
 (hsw: ∀t∈r.tp,dv t.sw=true/\t.mo<=(t.sw.l.length:Int)-1):
 bG ay 76 [.p 0 0,.i .i64 m] [(0,cP r 1),(1,bF r)] 2 (.bz []) [(0,cP (dF r m) 1),(1,bF (dF r m))] 2:=by
 have mB:=λj=>fT j r.ms;have sB:=λj=>cG j r.sh;have mR:=λg=>jI g r.ms;have sR:=λg=>dT g r.sh;have hk:=λh n=>Pu r m (gu r m) h n;have hk2:=λh n=>AM r m h n;have hcx:Sound ay (cj [(86,PO r m (gu r m)),(72,we r m),(143,HE),(62,gA)]):=Sound.cons (aiW r m x hx hl hos hb h0) (Sound.cons (Up r m hl) (Sound.cons aiX (Sound.cons Ad Sound.nil)));generalize PO r m (gu r m)=q1,we r m=q2 at*;have hok:yZ (cf r m) (gu r m)=true:=by grind [gu,Option.elim,CZ]
 have hcl:(gu r m).length=(dw r.tp m).length:=by
  simp_all [yZ,ak,bg,cf,ig]
 have h5:(dw r.tp m).length<=5:=by
  simp_all [ia,ak,bg,cf,ig]
 have hrd: ∀k,k<(dw r.tp m).length-> ∃(i:Nat) (t:Tp) (y:Int),(dw r.tp m)[k]? =some i/\r.tp[i]? =some t/\(gu r m)[k]? =some y/\(∀j,j<k->(dw r.tp m)[j]? ≠some i)/\(gR t.sw y 3).2=0/\t.sw.l.length<=9223372036854775807:=λk hk=>by
  obtain ⟨i,hi⟩: ∃i,(dw r.tp m)[k]? =some i:=⟨_,bj hk⟩;obtain ⟨y,hy⟩: ∃y,(gu r m)[k]? =some y:=⟨_,bj (by omega)⟩
  obtain ⟨_,t,ht,_⟩:=jc (bJ hi);have ho:(cf r m)[k]? =some (yE r i):=by grind [cf,dX,iI]
  have hxr:=BI hok ho hy;have e:(yE r i).mo=t.mo:=by grind [yE]
  rw [e] at hxr;obtain ⟨g1,g2⟩:=hsw t (bJ ht);refine ⟨i,t,y,hi,ht,hy,λj hj he=> ?_,?_,by grind [pz]⟩
  ·have:=Bw hj he hi;omega
  ·simp only [gR,g1,cond_true,dp (show -1<=y/\y<=(t.sw.l.length:Int)-1 by omega)];rfl
 have hE:dF r m=⟨r.ms,r.sh,BV r.tp (dw r.tp m) (gu r m) (dw r.tp m).length⟩:=rfl;have hW0:BV r.tp (dw r.tp m) (gu r m) 0=r.tp:=rfl;have hWl:=wQ r.tp (dw r.tp m) (gu r m);have hWs: ∀(k i:Nat) (t:Tp) (y:Int),(dw r.tp m)[k]? =some i->r.tp[i]? =some t->(gu r m)[k]? =some y->(∀j,j<k->(dw r.tp m)[j]? ≠some i)->(BV r.tp (dw r.tp m) (gu r m) k)[i]? =some t/\BV r.tp (dw r.tp m) (gu r m) (k+1)=(BV r.tp (dw r.tp m) (gu r m) k).set i (wg t y):=λk i t y h1 h2 h3 h4=>by
  grind [K9,BV]
 have hpB:=iE 2 (by decide) (dw r.tp m)
 have hpR:=λg hg=>gU (dw r.tp m) g hg;have hP: ∀(k i:Nat),(dw r.tp m)[k]? =some i->(rows rV (dw r.tp m))[k]? =some (.p 1 (i*22)):=λk i hi=>by
  have:=bM (f:=rV) (z:=1) (j:=0) (v:= .p 1 (i*22)) wI hi rfl
  grind
 have hC: ∀(k:Nat) (y:Int),(gu r m)[k]? =some y->(rows aq (gu r m))[k]? =some (.i .i64 y):=λk y hi=>by
  have:=bM (f:=aq) (z:=1) (j:=0) (v:= .i .i64 y) bR hi rfl
  grind
 have cB:=λj=>iB j (gu r m);have cR:=λg=>iR g (gu r m);rw [hE];generalize BV r.tp (dw r.tp m) (gu r m)=W at*;dsimp only [cP,bF,kO] at hk2 hk ⊢;rw [hWl];rw [show rows Tp.l r.tp=rows Tp.l (W 0) by rw [hW0]] at hk hk2 ⊢
 generalize gu r m=c,dw r.tp m=q at*;generalize rows rV q=PL,rows aq c=CL at*;generalize rows Mb.l r.ms=ML,rows aW.l r.sh=SL at*;have c00:decide (0<=q.length)=true:=rfl;refine ew hcx Tryz.func76 Kh ?_
 dsimp only [i76];simp only [go_sem,hk,hk2,simprocAttr];refine Loop.nM (F:=⟨ay,cj [(86,q1),(72,q2),(143,HE),(62,gA)],[17],42,2⟩) hcx mo (X:=Nat) (λk=>k<=q.length) (λk=>q.length-k)
  (λk=>[(0,.p 0 0),(4,.fz CL c.length),(14,.fz PL q.length),(15,.i .i64 (q.length:Int)),(16,.i .i64 (k:Int))])
  (λk=>[(0,{cells:=[.fz ML r.ms.length,.fz SL r.sh.length,.sg 1 0 r.tp.length]}),(1,{cells:=rows Tp.l (W k),gr:=some 22})]) 2 0 (λk=>k+1) [] (λ_=>[]) (show 2<=2 by decide) rfl (λ_=>rfl) (cr _) ?_ ?_ (λk hk=> ?_)
 ·have pr:=hpR (rn []) rfl;simp only [go_sem,AV.aQ,AV.aj,aP,hpB,cB,cR,pr,simprocAttr]
 ·simp only [go_sem,AV.aQ,aS,AV.aj,ab,aP,bp.aQ,mB,sB,mR,sR,fb,jC,simprocAttr]
 by_cases hlt:k<q.length
 ·have c1:decide ((k:Int)<(q.length:Int))=true:=af (by omega)
  have c2:decide (0<=(k:Int)/\(k:Int)<(q.length:Int))=true:=af (by omega)
  have c3:decide (0<=(k:Int)/\(k:Int)<(c.length:Int))=true:=af (by omega)
  have hw:IntKind.i64.wrap ((k:Int)+1)=((k+1:Nat):Int):=by grind [aN]
  obtain ⟨i,t,y,hi,ht,hy,hnj,hz,hsl⟩:=hrd k hlt;obtain ⟨hWi,hW1⟩:=hWs k i t y hi ht hy hnj;have gp:=hP k i hi;have gc:=hC k y hy;have hil:=(cv.1 hWi).1;have gs:=CU hWi;have sp:=FD hWi (gR t.sw y 3).1;have hk3: ∀(h:Hp) n,HE [.agg t.sw.a,.i .i64 y,.i .i64 3] h n=some (true,{v:=MA ((gR t.sw y 3).1,0),n}):=λh n=>by
   grind [gR,HE,pC,aC,af]
  have hln:(rows Tp.l (W k)).length=(W k).length*22:=aU Tp.len;have le1:decide (i*22+4+18<=(rows Tp.l (W k)).length)=true:=af (by omega)
  have le2:(t.sw.a).length=18:=rfl;have ls:(gR t.sw y 3).1.a.length=18:=rfl;have lo:aL (gR t.sw y 3).1.a=true:=rfl;have ld:List.take 18 (List.drop 0 (gR t.sw y 3).1.a)=(gR t.sw y 3).1.a:=rfl;have lb:=λj=>Sw.aj j (gR t.sw y 3).1;have lr:=λg=>aJ (ψ:=g) _ (Sw.aj 0 (gR t.sw y 3).1);rw [hW1];simp only [wg];have B1:=fb 2 (W k);have R1:=jC (rn []) (W k);have B2:=fb 2 ((W k).set i {t with sw:=(gR t.sw y 3).1})
  have R2:=jC (rn []) ((W k).set i {t with sw:=(gR t.sw y 3).1})
  simp only [MA] at hk3;generalize (gR t.sw y 3).1.a=SA,t.sw.a=SO at*;have hsk:q.length-(k+1)<q.length-k:=by omega
  have pr:=hpR (rn []) rfl;generalize rows Tp.l (W k)=T at*;simp only [go_sem,c1,c2,c3,gp,gc,gs,le1,le2,ls,lo,ld,hk3,gA,hw,hsk,sp,AV.aQ,aS,AV.aj,ab,aP,bp.aQ,hpB,cB,cR,pr,mB,sB,mR,sR,B2,R2,di,simprocAttr];exact hlt
 ·have c1:decide ((k:Int)<(q.length:Int))=false:=bw (by omega)
  obtain rfl:k=q.length:=by omega
  simp only [go_sem,simprocAttr];exact Ends.R [] (by decide) (by decide) rfl rfl (by simp_all [iW,aa,rn,bp.aQ,aS,AV.aQ,ab,AV.aj,fb,jC,eu])
theorem Ft {pn:Option Value} {v:AV} {n:Nat} {rd:List Nat} {l:List (Nat×bp)} {h:Hp}:(bV.mk v n rd [] l pn).fg h=l++h:=(rfl)
abbrev ki (r:Rm) (lm ls lt:Bool):Hp:=fS r lm ls lt 1++[(0,{cells:=[.ns,.ns,.ns]})]
theorem AY {r:Rm} (hr:r.is=true) (hg:aX r=true) (lm ls lt:Bool) (h:Hp) (n:Nat):fj lm ls lt [.agg r.a] h n=some (true,{v:= .p n 0,n:=n+4,nw:=fS r lm ls lt n}):=by
 simp_all [fj,dH,aC,cond_true]
theorem FW {r r':Rm} (hr:r.is=true) (hg:aX r=true) (lm ls lt:Bool) {g:FuncId} {caps:List AV} {kw:Ct} (hs:ax ay g kw) (hne:(85=g)=False) {E:bV} {b:Nat} (hb0:b≠0)
 (hE:kw (.p 1 0::caps) (ki r lm ls lt) 5=some (true,E)) (hpn:E.pn=none)
 (h0:aa (E.fg (ki r lm ls lt)) 0=some {cells:=[.ns,.ns,.ns]}) (h1:aa (E.fg (ki r lm ls lt)) 1=some (cP r' b)) (h2:aa (E.fg (ki r lm ls lt)) b=some (bF r')):
 bG ay 135 [.fp r.a 0,.fp [.fn g caps] 0] [] 0 (.agg r'.a) [] 0:=by
 have hk:=AY hr hg lm ls lt;have hcx:=rz (lm:=lm) (ls:=ls) (lt:=lt) hs;have mB:=λj=>fT j r'.ms;have sB:=λj=>cG j r'.sh;have tB:=λj=>fb j r'.tp;generalize fj lm ls lt=kb at*;have a3:r.a.length=3:=rfl;have ad:List.take 3 (List.drop 0 r.a)=r.a:=rfl;generalize r.a=ra at*;dsimp only [ki] at*;generalize hH:E.fg (fS r lm ls lt 1++[(0,{cells:=[.ns,.ns,.ns]})])=H at*;refine bG.dy hcx mo Tryz.func135 fU (by simp [i135]) (aO ?_)
 dsimp only [i135,xq];simp only [go_sem,hk,a3,ad,hne,hE,hH,hpn,Ft,h0,h1,nr,simprocAttr];refine aZ.rY (b:=b) (x:= .sg b 0 r'.tp.length) (k:=bF r') (o:=0) (m:=r'.tp.length) (cs:=rows Tp.l r'.tp) (v':= .agg [.fz (rows Mb.l r'.ms) r'.ms.length,.fz (rows aW.l r'.sh) r'.sh.length,.fz (rows Tp.l r'.tp) r'.tp.length]) (h':=[]) ?_ rfl (.inr rfl) (.inl rfl) (bW.agg ⟨bW.refl,bW.refl,bW.hit,trivial⟩) trivial ?_
 ·simp_all [nr]
 exact aZ.ends (Ends.aw (by simp_all [AV.aj,ab,aG]) rfl)
theorem aal {r r':Rm} (hr:r.is=true) (hg:aX r=true) (lm ls lt:Bool) {g:FuncId} {caps:List AV} {kw:Ct} (hs:ax ay g kw) (hne:(85=g)=False) {E:bV}
 (hE:kw (.p 1 0::caps) (ki r lm ls lt) 5=some (true,E)) (hpn:E.pn=none)
 (h0:aa (E.fg (ki r lm ls lt)) 0=some {cells:=[.ns,.ns,.ns]}) (h1:aa (E.fg (ki r lm ls lt)) 1=some {cells:=r'.a}):
 bG ay 135 [.fp r.a 0,.fp [.fn g caps] 0] [] 0 (.agg r'.a) [] 0:=by
 have hk:=AY hr hg lm ls lt;have hcx:=rz (lm:=lm) (ls:=ls) (lt:=lt) hs;have hb:=Rm.aj 0 r';generalize fj lm ls lt=kb at*;have a3:r.a.length=3:=rfl;have ad:List.take 3 (List.drop 0 r.a)=r.a:=rfl;have b3:r'.a.length=3:=rfl;have bo:aL r'.a=true:=rfl;have bd:List.take 3 (List.drop 0 r'.a)=r'.a:=rfl;generalize r.a=ra at*;generalize r'.a=rb at*;dsimp only [ki] at*;generalize hH:E.fg (fS r lm ls lt 1++[(0,{cells:=[.ns,.ns,.ns]})])=H at*;refine bG.dy hcx mo Tryz.func135 fU (by simp [i135]) (aO ?_)
 dsimp only [i135,xq];simp only [go_sem,hk,a3,ad,b3,bd,bo,hne,hE,hH,hpn,Ft,h0,h1,nr,simprocAttr]
 grind [aZ.ends,Ends.aw,AV.aj]
theorem afW (r:Rm) (hr:r.is=true) (hg:aX r=true):bG ay 85 [.agg r.a] [] 0 (.fp r.a 0) [] 0:=by
 refine cz.cov (adf r hr hg false false false) ?_;refine aZ.ahe (b:=0) (o:=0) (x:= .p 0 0) (k:={cells:=r.a}) (v':= .fp r.a 0) (h':=[]) rfl rfl rfl bW.hit trivial ?_;simp [aZ.ends,Ends.aw,AV.aj,Rm.aj]
def nE:Ct
 |[.agg c],_,n=>(qX c).bind λr=>some (r.is&&aX r,{v:= .fp r.a 0,n})
 |_,_,_=>none
theorem DE:ax ay 85 nE:=λargs h n c E hc ht=>by
 unfold nE at hc;split at hc
 ·simp only [av,aI,aV] at hc;obtain ⟨r,hr,rfl,rfl⟩:=hc;rw [dW hr];rw [ak] at ht;exact aA.pure (by kernel_rfl) (by simp only [ab,AV.aj,Rm.aj,aG]) (by simp only [AV.aj,Rm.aj]) (afW r ht.1 ht.2) _ _
 ·cases hc
theorem Jq {r:Rm} {e:Int} (hr:r.is=true) (hg:aX r=true) {g:FuncId} {caps:List AV} (hne:(85=g)=False) (hcap:ab 0 caps=true) (hc:Go.Ab.bH ay g=true)
 (hw:cz ay g (.fp r.a 0::caps) [] 0 (some (eJ e)) (.bz []) [] 0):cz ay 135 [.fp r.a 0,.fp [.fn g caps] 0] [] 0 (some (eJ e)) (.bz []) [] 0:=by
 have hrb:=Rm.aj 0 r;have hs:=iY hc (by grind [ab,AV.aj,aG]) rfl hw
 have hE:=λh n=>tE (a0:= .fp r.a 0::caps) (v0:= .bz []) (pn:=some (eJ e)) h n;have hk: ∀(h:Hp) n,nE [.agg r.a] h n=some (true,{v:= .fp r.a 0,n}):=λh n=>by grind [nE,dH,aC,aG]
 have hcx:Sound ay (cj [(85,nE),(g,kX _ _ _)]):=Sound.cons DE (Sound.cons hs Sound.nil);generalize kX _ _ _=kw at*;generalize nE=kb at*;have a3:r.a.length=3:=rfl;have ad:List.take 3 (List.drop 0 r.a)=r.a:=rfl;generalize r.a=ra at*;refine cz.dQ hcx mo Tryz.func135 fU (by simp [i135]) (aO ?_)
 dsimp only [i135];simp only [go_sem,hk,a3,ad,hne,hE,simprocAttr];exact Ends.aw rfl rfl
theorem SE {r:Rm} (ht:r.tp≠[]):fS r false false true 1=[(1,cP r 4),(4,bF r)]:=by
 have e:=pW (f:=Tp.l) (z:=22) (l:=r.tp) (sO.2 ht);unfold fS nh mV mH sV tV sH tH;rw [e];rfl
theorem T3 {r r':Rm} (hr:r.is=true) (hg:aX r=true) (ht:r.tp≠[]) {g:FuncId} {caps:List AV} (hne:(85=g)=False) (hcap:ab 0 caps=true) (hc:Go.Ab.bH ay g=true) {b kR:Nat} (hb:b=1/\kR=2\/b=2/\kR=3)
 (hw:bG ay g (.p 0 0::caps) [(0,cP r 1),(1,bF r)] 2 (.bz []) [(0,cP r' b),(b,bF r')] kR):bG ay 135 [.fp r.a 0,.fp [.fn g caps] 0] [] 0 (.agg r'.a) [] 0:=by
 have hb1:ab 2 caps=true:=au _ hcap;have hb2:aS (nth [1,4]) caps=caps:=aJ _ hcap;have h0:kH [1,4] [cP r 1,bF r] (.p 0 0::caps) (.bz []) [(0,cP r' b),(b,bF r')] kR none (.p 1 0::caps) (ki r false false true) 5=_:=ej (by simp [aS,AV.aQ,nth,hb2]) ⟨⟨?_,?_⟩,⟨?_,?_⟩,trivial⟩ rfl
 ·rcases hb with ⟨rfl,rfl⟩|⟨rfl,rfl⟩
  ·refine FW (b:=4) hr hg false false true (cK (R:=[1,4]) (ks:=[cP r 1,bF r]) hc (by decide) (by simp [ab,AV.aj,hb1]) hw (by decide) (by simp [l5,dD,ab,AV.aj,fT,cG,fb,aP])) hne (by decide) h0 rfl ?_ ?_ ?_<;>
    (rw [ki,SE ht];simp [bV.fg,nR,fL,bp.aQ,aS,AV.aQ,jA,nth,aa,jI,dT,jC,ja,iH,aP,eu])
  ·refine FW (b:=5) hr hg false false true (cK (R:=[1,4]) (ks:=[cP r 1,bF r]) hc (by decide) (by simp [ab,AV.aj,hb1]) hw (by decide) (by simp [l5,dD,ab,AV.aj,fT,cG,fb,aP])) hne (by decide) h0 rfl ?_ ?_ ?_<;>
    (rw [ki,SE ht];simp [bV.fg,nR,fL,bp.aQ,aS,AV.aQ,jA,nth,aa,jI,dT,jC,ja,iH,oH,aP,eu])
 ·rw [ki,SE ht];simp [aa,bp.aQ,aS,AV.aQ,nth,jI,dT]
 all_goals simp_all [ab,AV.aj,fT,cG,aP,ki,SE,aa,bp.aQ,jC,eu,fb]
def eX (t:Tp):List Tp->Nat
 |[]=>0
 |x::r=>bif decide (fF x t<0) then eX t r+1 else 0
def ko (t:Tp) (l:List Tp):Bool:=match l[eX t l]? with
 |some x=>fF x t==0
 |none=>false
theorem Fu {t:Tp}: ∀{l:List Tp} {i:Nat},i<=l.length->(∀k x,k<i->l[k]? =some x->fF x t<0)->(∀x,l[i]? =some x-> ¬fF x t<0)->eX t l=i
 |[],0,_,_,_=>rfl
 |[],i+1,h,_,_=>by simp at h
 |x::r,0,_,_,h2=>by
  simp_all [eX,bw,cond_false]
 |x::r,i+1,h0,h1,h2=>by
  have hx:=h1 0 x (by omega) rfl
  have:=Fu (l:=r) (i:=i) (by grind) (λk y hk hy=>h1 (k+1) y (by omega) (by grind)) (λy hy=>h2 y (by grind))
  simp_all [eX,af,cond_true]
theorem A5 (t:Tp): ∀l,eX t l<=l.length
 |[]=>bx 0
 |x::r=>by
  have:=A5 t r;simp only [eX,List.length_cons]
  grind
def aae (t:Tp) (l:List Tp):Prop:= ∀(i j:Nat) (x y:Tp),i<=j->l[i]? =some x->l[j]? =some y->fF y t<0->fF x t<0
theorem ag7 (l:List Tp) (t:Tp) (hl:l.length<=1000) (hs:aae t l):
 bG ay 138 [.fz (rows Tp.l l) l.length,.agg t.l,.fn 139 []] [] 0 (.bz [.i .i64 (eX t l:Nat),.b (ko t l)]) [] 0:=by
 have h44: ∀(x:Tp) (h:Hp) n,Bv [.agg x.l,.agg t.l] h n=some (true,{v:= .i .i64 (fF x t),n}):=λx h n=>by
  simp only [Bv,uH,aC]
 have hcx:Sound ay (cj [(139,Bv)]):=Sound.cons abu Sound.nil;generalize Bv=kk at*;refine ew hcx Tryz.func138 OY ?_
 dsimp only [i138];have hL: ∀(k:Nat) x,l[k]? =some x->List.take 22 (List.drop (k*22) (rows Tp.l l))=x.l:=λk x hk=>dm Tp.len hk;have hLb: ∀j,ab j (rows Tp.l l)=true:=λj=>fb j l;have hlen: ∀x:Tp,x.l.length=22:=λx=>rfl;have hone:aL t.l=true:=t.one;have ht22:t.l.length=22:=rfl;have htt:List.take 22 (List.drop 0 t.l)=t.l:=rfl;have htB: ∀j,ab j t.l=true:=λj=>au _ t.aj;generalize rows Tp.l l=L,t.l=TL at*;simp only [go_sem,simprocAttr];refine Loop.by (F:=⟨ay,cj [(139,kk)],[17,31],49,0⟩) hcx mo (X:=Nat×Nat) (λx=>x.1<=x.2/\x.2<=l.length/\(∀k y,k<x.1->l[k]? =some y->fF y t<0)/\(∀k y,x.2<=k->l[k]? =some y-> ¬fF y t<0)) (λx=>x.2-x.1)
  (λx=>[(0,.fz L l.length),(4,.p 0 0),(2,.fn 139 []),(8,.i .i64 (l.length:Int)),(9,.i .i64 (x.1:Int)),(10,.i .i64 (x.2:Int))])
  (λx=>[(0,{cells:=TL})]) 1 (0,l.length) (cr _) ⟨cr _,bx _,λk y hk=>absurd hk (by omega),λk y hk hy=>by grind⟩ ?_ ?_ (λx hx=> ?_)
 ·simp only [go_sem,AV.aj,ab,aP,hLb,simprocAttr]
 ·simp only [go_sem,htB,simprocAttr]
 ·obtain ⟨i,j⟩:=x;obtain ⟨hij,hjn,hlo,hhi⟩:=hx;dsimp only at hij hjn hlo hhi ⊢;by_cases hlt:i<j
  ·have c1:decide ((i:Int)<(j:Int))=true:=af (by omega)
   have w1:IntKind.i64.wrap ((i:Int)+(j:Int))=((i+j:Nat):Int):=by grind [aN]
   have w2:IntKind.u64.wrap ((i+j:Nat):Int)=((i+j:Nat):Int):=by grind [IntKind.wrap,IntKind.bits,IntKind.signed]
   have w3:((i+j:Nat):Int).fdiv 2=(((i+j)/2:Nat):Int):=by grind
   generalize hh:(i+j)/2=m at*;have w4:IntKind.u64.wrap (m:Int)=(m:Int):=by grind [IntKind.wrap,IntKind.bits,IntKind.signed]
   have w5:IntKind.i64.wrap (m:Int)=(m:Int):=aN (by omega) (by omega)
   have c2:decide (0<=(m:Int)/\(m:Int)<(l.length:Int))=true:=af (by omega)
   obtain ⟨x,hx⟩: ∃x,l[m]? =some x:=⟨_,bj (by omega)⟩
   have hxx:=hL m x hx;have h44:=λh n=>h44 x h n;have hle:=hlen x;cases hc:decide (fF x t<0)
   ·simp only [go_sem,c1,w1,w2,w3,w5,c2,hxx,h44,hle,hc,ht22,htt,htB,AV.aj,ab,aP,simprocAttr];have hc:=tM hc;refine ⟨(i,m),⟨⟨by omega,by omega,hlo,λk y hk hy h0=> ?_⟩,by omega⟩,hLb 1,rfl,rfl⟩
    exact hc (hs m k x y hk hx hy h0)
   ·simp only [go_sem,c1,w1,w2,w3,w5,c2,hxx,h44,hle,hc,ht22,htt,htB,AV.aj,ab,aP,simprocAttr];have hc:=bN hc;have w6:IntKind.i64.wrap ((m:Int)+1)=((m+1:Nat):Int):=by grind [aN]
    refine ⟨(m+1,j),⟨⟨by omega,by omega,λk y hk hy=> ?_,hhi⟩,by omega⟩,hLb 1,by rw [w6],rfl⟩
    dsimp only at hk;exact hs k m y x (by omega) hy hx hc
  ·have c1:decide ((i:Int)<(j:Int))=false:=bw (by omega)
   have hpos:eX t l=i:=Fu (by omega) hlo (λx hx=>hhi i x (by omega) hx)
   have hfnd:ko t l=(match l[i]? with|some x=>fF x t==0|none=>false):=by grind [ko]
   rw [hpos,hfnd];by_cases hil:i<l.length
   ·obtain ⟨x,hx⟩: ∃x,l[i]? =some x:=⟨_,bj hil⟩;have c2:decide ((i:Int)<(l.length:Int))=true:=af (by omega)
    have c3:decide (0<=(i:Int)/\(i:Int)<(l.length:Int))=true:=af (by omega)
    have h44:=λh n=>h44 x h n;have hle:=hlen x;have hxx:=hL i x hx;rw [hx];simp only [go_sem,c1,c2,c3,h44,hxx,hle,ht22,htt,simprocAttr];exact Ends.aw rfl rfl
   ·have c2:decide ((i:Int)<(l.length:Int))=false:=bw (by omega)
    rw [lu (by omega)]
    simp only [go_sem,c1,c2,simprocAttr];exact Ends.aw rfl rfl
theorem jM {k:Ct} {args argsF:List AV} {rd:List Nat} {v:AV} {h:Hp} {n:Nat} (h1:lV (Go.Ab.nv h 6) args=some (rd,argsF)) (h2:k argsF [] 0=some (true,{v,n:=0})) (hp:v.pl=true):cu k args h n=some (true,{v,n,rd}):=by
 have e:({v,n:=0}:bV).plain=true:=rfl;simp_all [cu,aC,aG,cond_true]
/-! find -/
def fw (m s:Int):Tp:=⟨m,s,0,0,Ak⟩
theorem abJ {r:Rm} (hg:aX r=true): ∀{j i:Nat} {x y:Tp},i<j->r.tp[i]? =some x->r.tp[j]? =some y->fF x y<0:=by
 simp only [aX,kK,ak] at hg;have h4:=hg.2.2.1;rw [dt] at h4;have key: ∀{k:Nat} {x y:Tp},r.tp[k]? =some x->r.tp[k+1]? =some y->fF x y<0:=λ{k x y} h1 h2=>by
  have:=h4 (k+1) y h2;simp only [nz,ak,fy,Dd,h1] at this
  grind
 intro j;induction j with
 |zero=>intro i x y h;omega
 |succ j ih=>
  intro i x y hij hi hj;have hjl:j<r.tp.length:=by grind
  obtain ⟨z,hz⟩: ∃z,r.tp[j]? =some z:=⟨_,bj hjl⟩;have h1:=key hz hj;by_cases he:i=j
  ·grind
  ·have h2:=ih (by omega) hi hz
   refine BM ?_;have:=p6 h1;have:=p6 h2;omega
theorem J3 {r:Rm} (hg:aX r=true) (t:Tp):aae t r.tp:=λi j x y hij hi hj h0=>by
 by_cases he:i=j
 ·grind
 ·have h1:=p6 (abJ hg (show i<j by omega) hi hj)
  have h2:=p6 h0;refine BM ?_;omega
def T68 (k:Ct):List (Nat×Ct):=[(62,gA),(71,iM),(138,k)]
theorem w68 (r:Rm) (hg:aX r=true) (m s:Int) (hr:(bZ 0 ((r.ms.length:Int)-1) m&&bZ 0 ((r.sh.length:Int)-1) s)=true):
 bG ay 68 [.fp r.a 0,.i .i64 m,.i .i64 s] [] 0 (.bz [.i .i64 (eX (fw m s) r.tp:Nat),.b (ko (fw m s) r.tp)]) [] 0:=by
 have hl:=ek hg;have hw:=ag7 r.tp (fw m s) (by omega) (J3 hg _)
 have hs:=dc (by kernel_rfl) (by simp only [ab,AV.aj,fb,Tp.aj,aG]) rfl hw
 have hat:=λh n=>gC (a0:=[.fz (rows Tp.l r.tp) r.tp.length,.agg (fw m s).l,.fn 139 []]) (v0:= .bz [.i .i64 (eX (fw m s) r.tp:Nat),.b (ko (fw m s) r.tp)]) h n;generalize kP _ _=kT at hs hat;have hk: ∀(h:Hp) n,cu kT [.fz (rows Tp.l r.tp) r.tp.length,.agg [.i .i64 m,.i .i64 s,.i .i64 0,.i .i64 0,.ns,.i .i64 0,.i .i64 0,.i .i64 0,.i .i64 0,.i .i64 0,.i .i64 0,.i .i64 0,.i .i64 0,.b false,.i .i64 0,.i .i64 0,.i .i64 0,.i .i64 0,.i .i64 0,.i .i64 0,.i .i64 0,.i .i64 0],.fn 139 []] h n=some (true,{v:= .bz [.i .i64 (eX (fw m s) r.tp:Nat),.b (ko (fw m s) r.tp)],n}):=λh n=>by
  exact jM (by simp only [bn,bI,lj,kC,ef (fb 0 r.tp),kN,Vl,BX,aC,dh];rfl) (hat [] 0) rfl
 have hcx:Sound ay (cj (T68 (cu kT))):=Sound.cons Ad (Sound.cons DQ (Sound.cons hs.nv Sound.nil));simp only [ak] at hr;have n1:IntKind.i64.wrap ((r.ms.length:Int)-1)=(r.ms.length:Int)-1:=aN (by omega) (by omega)
 have n2:IntKind.i64.wrap ((r.sh.length:Int)-1)=(r.sh.length:Int)-1:=aN (by omega) (by omega)
 have g0:r.a[0]? =some (.fz (rows Mb.l r.ms) r.ms.length):=rfl;have g1:r.a[1]? =some (.fz (rows aW.l r.sh) r.sh.length):=rfl;have g2:r.a[2]? =some (.fz (rows Tp.l r.tp) r.tp.length):=rfl;generalize eX (fw m s) r.tp=P,ko (fw m s) r.tp=Q,r.a=ra,cu kT=kk at*;refine ew hcx Tryz.func68 JH ?_
 dsimp only [i68,T68];simp only [go_sem,g0,g1,g2,n1,n2,iM,hr,gA,hk,simprocAttr];exact Ends.aw rfl rfl
theorem adM (r:Rm) (hg:aX r=true) (m s:Int) (hr:(bZ 0 ((r.ms.length:Int)-1) m&&bZ 0 ((r.sh.length:Int)-1) s)=false):
 cz ay 68 [.fp r.a 0,.i .i64 m,.i .i64 s] [] 0 (some (eJ 2)) (.bz []) [] 0:=by
 have hl:=ek hg;have hcx:Sound ay (cj [(62,gA),(71,iM)]):=Sound.cons Ad (Sound.cons DQ Sound.nil);have n1:IntKind.i64.wrap ((r.ms.length:Int)-1)=(r.ms.length:Int)-1:=aN (by omega) (by omega)
 have n2:IntKind.i64.wrap ((r.sh.length:Int)-1)=(r.sh.length:Int)-1:=aN (by omega) (by omega)
 have g0:r.a[0]? =some (.fz (rows Mb.l r.ms) r.ms.length):=rfl;have g1:r.a[1]? =some (.fz (rows aW.l r.sh) r.sh.length):=rfl;generalize r.a=ra at*;refine cz.dQ hcx mo Tryz.func68 JH (by simp [i68]) (aO ?_)
 dsimp only [i68];cases h1:bZ 0 ((r.ms.length:Int)-1) m
 ·simp only [go_sem,g0,n1,iM,h1,gA,simprocAttr];exact Ends.aw rfl rfl
 ·rw [h1,mP] at hr;simp only [go_sem,g0,g1,n1,n2,iM,h1,hr,gA,simprocAttr];exact Ends.aw rfl rfl
theorem xT {t u:Tp} (h1:t.me=u.me) (h2:t.sh=u.sh): ∀l,eX t l=eX u l
 |[]=>rfl
 |x::r=>by
  have e:fF x t=fF x u:=by grind [fF]
  simp only [eX,e,xT h1 h2 r]
theorem JB {t u:Tp} (h1:t.me=u.me) (h2:t.sh=u.sh) (l:List Tp):ko t l=ko u l:=by
 grind [fF,ko,xT]
theorem Yi {a b:Tp} (h1: ¬fF a b<0) (h2:(fF a b==0)=false):fF b a<0:=by
 grind [BM,inl,absurd,fF,Mr,lE]
theorem Jo {t:Tp}: ∀{l:List Tp},(∀x∈l.take (eX t l),fF x t<0)/\ ∀x,l[eX t l]? =some x-> ¬fF x t<0
 |[]=>⟨λx h=>by grind,λx h=>by simp at h⟩
 |y::r=>by
  have ih:=Jo (t:=t) (l:=r);cases hd:decide (fF y t<0)
  ·have:eX t (y::r)=0:=by simp only [eX,hd,cond_false]
   grind
  simp_all [eX,cond_true,FK,gP,bN]
theorem OZ {l:List Tp} {t:Tp} (hs:l.Pairwise λa b=>fF a b<0) (hf:ko t l=false):(qZ l [t] (eX t l)).Pairwise λa b=>fF a b<0:=by
 have hsp:=hs;rw [<-jr (eX t l) l,List.pairwise_append] at hsp;obtain ⟨h1,h2,h3⟩:=hsp;obtain ⟨p1,p2⟩:=Jo (t:=t) (l:=l)
 grind [eX,fF,ko,oE,List.getElem?_eq_none_iff,cv,Yi,rE,gP,List.pairwise_cons,Kc,qZ,List.pairwise_append]
theorem xP (l:List Tp) (t:Tp) (i:Nat):(qZ l [t] i).Perm (t::l):=by
 grind [qZ,List.perm_middle,jr]
theorem Kw {r:Rm} (hg:aX r=true) {t:Tp} (ht:iJ r t=true) (hf:ko t r.tp=false) (ho:((ofM r.tp t.me).any λx=>x.sw.ou==t.sw.ou)=false) (hc:(ofM r.tp t.me).length<5):aX ⟨r.ms,r.sh,qZ r.tp [t] (eX t r.tp)⟩=true:=by
 obtain ⟨h1,h2,h3⟩:=(gL r).1 hg;have hp:=xP r.tp t (eX t r.tp);have hpf: ∀m,(ofM (qZ r.tp [t] (eX t r.tp)) m).Perm (ofM (t::r.tp) m):=λm=>hp.filter _;have hcase: ∀m,ofM (t::r.tp) m=if t.me=m then t::ofM r.tp m else ofM r.tp m:=λm=>by
  simp only [ofM,List.filter_cons,ik]
 refine (gL _).2 ⟨h1,(qT (r:=r) rfl rfl).trans h2,λx hx=> ?_,OZ h3.Zy hf,λm hm=> ?_,λm hm=> ?_⟩
 ·refine (wx (r:=r) rfl rfl x).trans ?_;rcases gP.1 (hp.mem_iff.1 hx) with rfl|hx
  ·exact ht
  ·exact h3.tap x hx
 ·refine (((hpf m).map _).nodup_iff).2 ?_;rw [hcase];split
  ·rename_i he;rw [fJ,tC];refine ⟨λhmem=> ?_,h3.out m hm⟩
   grind
  ·exact h3.out m hm
 ·rw [(hpf m).length_eq,hcase];split
  ·grind
  ·exact h3.ZE m hm
theorem Sh.ext' {s t:Sh} (h1:s.st=t.st) (h2:s.ky=t.ky) (h3:s.sy=t.sy) (h4:s.la=t.la) (h5:s.id=t.id) (h6:s.ba=t.ba) (h7:s.te=t.te) (h8:s.sp=t.sp):s=t:=by
 cases s;simp_all
theorem Hi: ∀a b c d:Bool,((UInt8.ofNat (pb a b c d).toNat).toNat/64 % 2==1)=a/\((UInt8.ofNat (pb a b c d).toNat).toNat/32 % 2==1)=b/\((UInt8.ofNat (pb a b c d).toNat).toNat/16 % 2==1)=c/\((UInt8.ofNat (pb a b c d).toNat).toNat/8 % 2==1)=d/\(UInt8.ofNat (pb a b c d).toNat).toNat/128=1/\(UInt8.ofNat (pb a b c d).toNat).toNat % 8=0:=by decide+kernel
theorem SI {s:Sh} (hg:s.jZ=true) (r:List UInt8):dec (s.enc++r)=(s,r,0):=by
 have hg':=hg;rw [Sh.lO] at hg;obtain ⟨h1,h2,h3,h4,h5,h6,h7,h8,-⟩:=hg;obtain ⟨q1,q2,q3,q4,q5,q6⟩:=Hi s.st s.ky s.sy s.la;have u1: ∀n:Nat,(UInt8.ofNat n).toNat=n % 256:=λn=>by simp
 have e:wj (UInt8.ofNat (pb s.st s.ky s.sy s.la).toNat) (UInt8.ofNat (128+s.id/256).toNat) (UInt8.ofNat (s.id % 256).toNat) (UInt8.ofNat s.ba.toNat) (UInt8.ofNat (64*s.te+16*s.sp).toNat)=s:=by
  refine Sh.ext' ?_ ?_ ?_ ?_ ?_ ?_ ?_ ?_
  ·refine Eq.trans ?_ q1;simp only [wj];grind
  ·refine Eq.trans ?_ q2;simp only [wj];grind
  ·refine Eq.trans ?_ q3;simp only [wj];grind
  ·refine Eq.trans ?_ q4;simp only [wj];grind
  ·simp only [wj,u1];omega
  all_goals grind [wj]
 have hf:yL (UInt8.ofNat (pb s.st s.ky s.sy s.la).toNat) (UInt8.ofNat (128+s.id/256).toNat) (UInt8.ofNat (s.id % 256).toNat) (UInt8.ofNat s.ba.toNat) (UInt8.ofNat (64*s.te+16*s.sp).toNat)=true:=by
  simp only [yL,e,hg',jW,ak,bg]
  grind
 simp_all [Sh.enc,ez,List.nil_append,dec]
structure Gd (s:Sw):Prop where
 n:1<=s.l.length/\s.l.length<=3
 ap:Rn s.l=true
 ou:0<=s.ou/\s.ou<=4294967295
 st:1<=s.st/\s.st<=90000
 nw: -1<=s.nw/\s.nw<=s.l.length-1
 wa: -1<=s.wa/\s.wa<=s.l.length-1
 ca:0<=s.ca/\s.ca<=3
 ai:0<=s.ai/\s.ai<=3
 tp:0<=s.tp/\s.tp<=65535
 fr:0<=s.fr/\s.fr<=32767
 sq:0<=s.sq/\s.sq<=65535
 tm:0<=s.tm/\s.tm<=4294967295
 id:0<=s.id/\s.id<=32767
 ba:0<=s.ba/\s.ba<=255
 ss:0<=s.ss/\s.ss<=65535
 sT:0<=s.sT/\s.sT<=4294967295
 si:0<=s.si/\s.si<=32767
 sb:0<=s.sb/\s.sb<=255
 off:s.nw<0->s.ca=0/\s.tp=0/\s.fr=0/\s.kp=false/\s.sq=0/\s.tm=0/\s.id=0/\s.ba=0
theorem py {s:Sw}:dv s=true↔Gd s:=by
 constructor
 ·intro h;simp only [dv,rM,bZ,ak,bg,mA,gG,Gj,ik] at h;obtain ⟨⟨h1,h2,h3,h4,h5,h6⟩,⟨h7,h8,⟨h9,h10,h11,h12⟩,⟨h13,h14,h15,h16⟩,h17,-,h18,-⟩,h19⟩:=h;refine ⟨by omega,h2,h3,h4,h5,h6,h7,h8,h17,h18,h9,h10,h11,h12,h13,h14,h15,h16,λhn=> ?_⟩
  grind
 ·intro h;obtain ⟨h1,h2,h3,h4,h5,h6,h7,h8,h17,h18,h9,h10,h11,h12,h13,h14,h15,h16,h19⟩:=h;simp only [dv,rM,bZ,ak,bg,mA,gG,Gj,ik]
  grind
theorem Kl {s:Sw} {x:Sh} (h1:0<=s.ca/\s.ca<=3) (h2:0<=s.ai/\s.ai<=3) (h3:x.te<=3):0<=sZ s x/\sZ s x<=3:=by
 obtain ⟨e,e1,e2⟩:=I8 (s:=s) (x:=x) (by simp_all [bZ]) (by simp_all [bZ])
 unfold sZ
 grind
theorem NT {s:Sw} {k:Int} {p:Md} {x:Sh} (h:Gd s) (hk:0<=k/\k<=s.l.length-1) (hx:x.jZ=true):Gd (cY s k p x):=by
 rw [Sh.lO] at hx;unfold cY;cases tk s k x
 ·exact h
 ·exact ⟨h.n,h.ap,h.ou,h.st,⟨by grind,hk.2⟩,h.wa,by simp,h.ai,by grind,by grind,by grind,by grind,by grind,by grind,h.ss,h.sT,h.si,h.sb,λhn=>absurd (show k<0 from hn) (by omega)⟩
theorem Xl {s:Sw} {k:Int} {p:Md} (h:Gd s) (hk:0<=k) (hp:0<=p.sq/\p.sq<=65535):Gd (iX s k p)/\(lv s k p=true->0<=(iX s k p).nw):=by
 unfold iX;cases ha:lv s k p
 ·grind
 ·have hn:k=s.nw:=by simp_all [lv,ak,ik]
  exact ⟨⟨h.n,h.ap,h.ou,h.st,h.nw,h.wa,h.ca,h.ai,hp,h.fr,h.sq,h.tm,h.id,h.ba,h.ss,h.sT,h.si,h.sb,λhh=>absurd (show s.nw<0 from hh) (by omega)⟩,λ_=>by grind⟩
theorem Kv {s:Sw} {x:Sh} (h:Gd s) (hn:0<=s.nw) (hx:x.jZ=true):Gd (dz s x):=by
 rw [Sh.lO] at hx;have hc:=Kl h.ca h.ai hx.2.2.2.2.2.1;unfold dz;cases (x.id==s.fr)
 ·simp only [cond_false];refine ⟨h.n,h.ap,h.ou,h.st,h.nw,h.wa,hc,h.ai,h.tp,⟨hx.1,hx.2.1⟩,h.sq,h.tm,?_,h.ba,h.ss,h.sT,h.si,h.sb,λhh=>absurd (show s.nw<0 from hh) (by omega)⟩
  show 0<=(bif decide (x.te<=sZ s x) then s.id else (s.id+ -1) % 32768)/\(bif decide (x.te<=sZ s x) then s.id else (s.id+ -1) % 32768)<=32767
  cases decide (x.te<=sZ s x)
  ·grind
  ·exact h.id
 ·exact h
theorem Ke (s:Sw) (x:Sh):(dz s x).nw=s.nw:=by grind [dz]
theorem Nr {s:Sw} {x:Sh} (h:Gd s) (hn:0<=s.nw):Gd (kI s x):=by
 unfold kI;cases jD s x
 ·exact h
 ·exact ⟨h.n,h.ap,h.ou,h.st,h.nw,h.wa,h.ca,h.ai,h.tp,h.fr,by grind,h.tm,h.id,h.ba,h.ss,h.sT,h.si,h.sb,λhh=>absurd (show s.nw<0 from hh) (by omega)⟩
theorem SP {s:Sw} {p:Md} {x:Sh} (h:Gd s):Gd (lD s p x):=
 ⟨h.n,h.ap,h.ou,h.st,h.nw,h.wa,h.ca,h.ai,h.tp,h.fr,h.sq,h.tm,h.id,h.ba,by grind [lD],by grind [lD],by grind [lD],by grind [lD],h.off⟩
theorem QI {s:Sw} {k:Int} {p:Md} {x:Sh} (h:Gd s) (hk:0<=k/\k<=s.l.length-1) (hp:0<=p.sq/\p.sq<=65535) (hx:x.jZ=true):Gd (dE s k p x).1:=by
 grind [NT,dE,lv,cY,Xl,Kv,dz,iX,Ke,jD,SP,Nr]
theorem SK {s:Sw} {la ai:Int} (h:Gd s) (hl: -1<=la/\la<=s.l.length-1) (ha:0<=ai/\ai<=3):gR s la ai=(bif decide (la<0) then JZ s ai else {s with wa:=la,ai:=ai},0)/\Gd (gR s la ai).1:=by
 have e:gR s la ai=(bif decide (la<0) then JZ s ai else {s with wa:=la,ai:=ai},0):=by
  have h1:=py.2 h;simp_all [bZ,gR,aG,cond_true]
 refine ⟨e,?_⟩;rw [e];cases hb:decide (la<0)
 ·have:=tM hb;exact ⟨h.n,h.ap,h.ou,h.st,h.nw,hl,h.ca,ha,h.tp,h.fr,h.sq,h.tm,h.id,h.ba,h.ss,h.sT,h.si,h.sb,h.off⟩
 ·have hn:=h.n;exact ⟨h.n,h.ap,h.ou,h.st,⟨by show (-1:Int)<= -1;omega,by show (-1:Int)<=(s.l.length:Int)-1;omega⟩,⟨by show (-1:Int)<= -1;omega,by show (-1:Int)<=(s.l.length:Int)-1;omega⟩,by show (0:Int)<=0/\(0:Int)<=3;omega,ha,by show (0:Int)<=0/\(0:Int)<=65535;omega,by show (0:Int)<=0/\(0:Int)<=32767;omega,by show (0:Int)<=0/\(0:Int)<=65535;omega,by show (0:Int)<=0/\(0:Int)<=4294967295;omega,by show (0:Int)<=0/\(0:Int)<=32767;omega,by show (0:Int)<=0/\(0:Int)<=255;omega,h.ss,h.sT,h.si,h.sb,λ_=>⟨rfl,rfl,rfl,rfl,rfl,rfl,rfl,rfl⟩⟩
/-! films -/
def Tf (ss:Int) (p:Md):Prop:=vY p=true/\p.ss=ss/\p.cs=[]/\p.xs=[]/\p.fin=true/\ ∃(x:Sh) (a b:UInt8),x.jZ=true/\p.pl=x.enc++[a,b]
theorem Fi {ss:Int} {p:Md} (h:Tf ss p): ∃(x:Sh) (a b:UInt8),x.jZ=true/\dec p.pl=(x,[a,b],0):=by
 obtain ⟨_,_,_,_,_,x,a,b,hx,hp⟩:=h
 grind [SI]
theorem acU {f:Fl} {ss:Int} {i:Nat} {x:Sh} {n:Nat} {sq:Int} {j:Nat} (hs:0<=ss/\ss<=4294967295) (hx: ∀st la,(Sh.mk st x.ky x.sy la x.id x.ba x.te x.sp).jZ=true):Tf ss (ZG f ss i x n sq j):=by
 refine ⟨?_,rfl,rfl,rfl,?_,⟨(j:Int)==0,x.ky,x.sy,(j:Int)==(n:Int)-1,x.id,x.ba,x.te,x.sp⟩,_,_,hx _ _,rfl⟩
 ·simp only [vY,mi,ZG,vt,ak,ju,jB,fP]
  grind
 rfl
theorem qc {α:Type} {g:Nat->α}: ∀{k:Nat} {a:α},a∈iD g k-> ∃j,j<k/\a=g j
 |0,a,h=>by simp [Au] at h
 |k+1,a,h=>by
  rw [il,xn] at h;rcases h with h|h
  ·obtain ⟨j,hj,e⟩:=qc h;grind
  grind
theorem T9 {f:Fl} (hf:f.ok=true) {ss:Int} (hs:0<=ss/\ss<=4294967295): ∀i,∀p∈(vg f ss i).q,Tf ss p
 |0,p,hp=>by simp [vg] at hp
 |i+1,p,hp=>by
  simp only [vg,Wl,wG,xn] at hp;rcases hp with hp|hp
  ·exact T9 hf hs i p hp
  grind [qc,wU,acU,Cb,Ek]
theorem CY (s:Sw) (k:Int) (p:Md) (x:Sh):(dE s k p x).1.ou=s.ou:=by
 grind [cY,tk,dE,lv,iX,dz,kI,jD,lD]
theorem Qw {b:Int} {q:List Md} {m:Md} (h: ∀j m,q[j]? =some m->m.sq=(b+(j:Nat)) % 65536) (hm:m.sq=(b+(q.length:Nat)) % 65536): ∀j m',(q++[m])[j]? =some m'->m'.sq=(b+(j:Nat)) % 65536:=λj m' hj=>by
 grind
theorem KG {f:Fl} {ss:Int} {i:Nat} {x:Sh} {n:Nat} {q:List Md} (h: ∀j m,q[j]? =some m->m.sq=(f.sq+(j:Nat)) % 65536): ∀k,∀j m,(wG f ss i x n q k)[j]? =some m->m.sq=(f.sq+(j:Nat)) % 65536
 |0=>by
  grind [wG,Au]
 |k+1=>by
  rw [TQ];refine Qw (KG h k) ?_;rw [wy];rfl
theorem I7 (f:Fl) (ss:Int): ∀i,∀j m,(vg f ss i).q[j]? =some m->m.sq=(f.sq+(j:Nat)) % 65536
 |0=>λj m h=>by simp [vg] at h
 |i+1=>by
  simp only [vg,Wl];exact KG (I7 f ss i) _
theorem Ya {f:Fl} (hf:f.ok=true) {ss:Int} (hs:0<=ss/\ss<=4294967295): ∀p∈jn f ss,Tf ss p:=T9 hf hs _
theorem aaj (r:Rm) (m:Nat) (x:Mb) (hx:r.ms[m]? =some x) (hl:r.tp.length<=1000) (hb:0<=x.es/\x.es<=1073741824) (h0:dw r.tp m=[]):bG ay 76 [.fp r.a 0,.i .i64 m] [] 0 (.bz []) [] 0:=by
 have hos:ia (cf r m)=true:=by rw [cf,h0];rfl
 have hw:=adG r m x hx (by omega) hos hb h0
 have hs:=dc (by kernel_rfl) (by simp only [ab,AV.aj,Rm.aj,aG]) rfl hw
 have hk:=λh n=>gC (a0:=[.fp r.a 0,.i .i64 m]) (v0:= .ze) h n;generalize kP _ _=kT at hs hk;have hk2: ∀(h:Hp) n,CN [.fp r.a 0,.i .i64 m] h n=some (true,{v:= .fz [] 0,n}):=λh n=>by
  have hp0:vq r m= .fz [] 0:=by simp only [vq,h0];rfl
  grind [CN,dH,aC,af]
 have hcx:Sound ay (cj [(86,kT),(72,CN)]):=Sound.cons hs (Sound.cons s72 Sound.nil);generalize CN=k2 at*;generalize r.a=ra at*;refine ew hcx Tryz.func76 Kh ?_
 dsimp only [i76];simp only [go_sem,hk,hk2,simprocAttr];refine Loop.rounds (F:=⟨ay,cj [(86,kT),(72,k2)],[17],42,0⟩) 1 hcx mo ?_;simp only [go_sem,simprocAttr];exact Ends.aw rfl rfl
theorem Ci {r:Rm} {m:Nat} (h0:dw r.tp m=[]):dF r m=r:=by
 simp only [dF,h0,fP,BV]
/-! Measure -/
def yX (r:Rm) (m b:Int):Int:=if bZ 0 ((r.ms.length:Int)-1) m&&bZ 0 1073741824 b then 0 else 2
def gv (r:Rm) (m:Nat) (b:Int):Rm:=⟨r.ms.modify m λx=>{x with es:=b},r.sh,r.tp⟩
def j2 (r:Rm) (m b:Int):Rm×Int:=if aX r then (if yX r m b=0 then (dF (gv r m.toNat b) m.toNat,0) else (vr,2)) else (vr,420)
abbrev tw (m b:Int):List AV:=[.fp [.i .i64 m] 0,.fp [.i .i64 b] 0]
theorem agy (r:Rm) (h6:r.ms.length<=6) (m b:Int) (he:yX r m b≠0):cz ay 79 (.fp r.a 0::tw m b) [] 0 (some (eJ 2)) (.bz []) [] 0:=by
 have hcx:Sound ay (cj [(62,gA),(71,iM)]):=Sound.cons Ad (Sound.cons DQ Sound.nil);have n1:IntKind.i64.wrap ((r.ms.length:Int)-1)=(r.ms.length:Int)-1:=aN (by omega) (by omega)
 have g0:r.a[0]? =some (.fz (rows Mb.l r.ms) r.ms.length):=rfl;generalize r.a=ra at*;refine cz.dQ hcx mo Tryz.func79 ES (by simp [i79]) (aO ?_)
 dsimp only [i79];cases h1:bZ 0 ((r.ms.length:Int)-1) m
 ·simp only [go_sem,g0,n1,iM,h1,gA,simprocAttr];exact Ends.aw rfl rfl
 cases h2:bZ 0 1073741824 b
 ·simp only [go_sem,g0,n1,iM,h1,h2,gA,simprocAttr];exact Ends.aw rfl rfl
 grind [yX]
theorem GU {l:List Mb} {i:Nat} (hi:i<l.length) (b:Int):List.take (i*2+1) (rows Mb.l l)++[AV.i .i64 b]++List.drop (i*2+2) (rows Mb.l l)=rows Mb.l (l.modify i λx=>{x with es:=b}):=by
 have e1:l=l.take i++l[i]::l.drop (i+1):=by simp
 have e2:(l.modify i λx=>{x with es:=b})=l.take i++{l[i] with es:=b}::l.drop (i+1):=List.modify_eq_take_cons_drop hi
 have hl:(rows Mb.l (l.take i)).length=i*2:=by rw [aU Mb.len,fY,pY (by omega)]
 have e3:rows Mb.l l=rows Mb.l (l.take i)++(l[i].l++rows Mb.l (l.drop (i+1))):=by grind [cX,dO]
 simp_all [List.take_append,List.drop_append,List.take,rows,Mb.l,dN,List.drop,oE]
abbrev vQ (r:Rm) (a:Nat) (t:AV):bp:={cells:=[.sg a 0 r.ms.length,.fz (rows aW.l r.sh) r.sh.length,t]}
noncomputable def Qr (r:Rm) (m b:Nat):Ct:=kH [0,b] [cP r 1,bF r] [.p 0 0,.i .i64 m] (.bz []) [(0,cP (dF r m) 1),(1,bF (dF r m))] 2 none
theorem aeB (r:Rm) (m b:Nat) (hb:b≠0) (x:Mb) (hx:r.ms[m]? =some x) (hl:r.tp.length<=1000) (hos:ia (cf r m)=true) (he:0<=x.es/\x.es<=1073741824) (h0:0<(dw r.tp m).length) (hsw: ∀t∈r.tp,dv t.sw=true/\t.mo<=(t.sw.l.length:Int)-1):ax ay 76 (Qr r m b):=
 cK (by kernel_rfl) (by grind [bO,nodup,inl]) rfl (aho r m x hx hl hos he h0 hsw) (by simp) (by simp [l5,dD,ab,AV.aj,fT,cG,fb,aP])
theorem FY (r:Rm) (m b:Nat) (h:Hp) (n:Nat) (h0:aa h 0=some (cP r b)) (h1:aa h b=some (bF r)):
 Qr r m b [.p 0 0,.i .i64 m] h n=some (true,{v:= .bz [],n,rd:=[0,b],md:=[(0,some (cP (dF r m) b)),(b,some (bF (dF r m)))]}):=by
 refine ej (h:=h) (n:=n) rfl ⟨⟨?_,?_⟩,⟨?_,?_⟩,trivial⟩ ?_
 ·rw [h0];simp [bp.aQ,aS,AV.aQ,nth,jI,dT]
 ·simp [ab,AV.aj,fT,cG,aP]
 all_goals simp_all [bp.aQ,jC,fb,nR,fL,aS,AV.aQ,jA,nth,aa,jI,dT,aP,eu]
theorem GV {r:Rm} (hg:aX r=true): ∀t∈r.tp,dv t.sw=true/\t.mo<=(t.sw.l.length:Int)-1:=λt ht=>by
 obtain ⟨k,hk⟩:=gF ht;obtain ⟨_,s,_,_,_,h2,h3,h4,_⟩:=je (gW hg hk)
 grind
theorem agw (r:Rm) (hg:aX r=true) (m:Nat) (b:Int) (he:yX r m b=0) (h0:0<(dw r.tp m).length):
 bG ay 79 (.p 0 0::tw m b) [(0,vQ r 1 (.sg 2 0 r.tp.length)),(1,eS r),(2,bF r)] 3 (.bz []) [(0,cP (dF (gv r m b) m) 2),(2,bF (dF (gv r m b) m))] 3:=by
 have hl:=ek hg;have hh:bZ 0 ((r.ms.length:Int)-1) (m:Int)=true/\bZ 0 1073741824 b=true:=by
  simp_all [yX]
 obtain ⟨i1,i2⟩:=hh;have hm:=(bD i1).2;have hbb:=bD i2;have hml:m<r.ms.length:=by omega
 obtain ⟨x,hx⟩: ∃x,r.ms[m]? =some x:=⟨_,bj hml⟩;have hx1:(gv r m b).ms[m]? =some {x with es:=b}:=by grind [gv,List.getElem?_modify]
 have hs:=aeB (gv r m b) m 2 (by decide) _ hx1 (by show r.tp.length<=1000;omega) (show ia (cf r m)=true from qg hg hml) hbb h0 (show ∀t∈r.tp,_ from GV hg)
 have hk:=FY (gv r m b) m 2;have hcx:Sound ay (cj [(62,gA),(71,iM),(76,Qr (gv r m b) m 2)]):=Sound.cons Ad (Sound.cons DQ (Sound.cons hs Sound.nil));generalize Qr (gv r m b) m 2=kc at*;have n1:IntKind.i64.wrap ((r.ms.length:Int)-1)=(r.ms.length:Int)-1:=aN (by omega) (by omega)
 have c2:decide (0<=(m:Int)/\(m:Int)<(r.ms.length:Int))=true:=af (by omega)
 have zR:(rows Mb.l r.ms).length=r.ms.length*2:=aU Mb.len;have le1:decide (m*2+1+1<=(rows Mb.l r.ms).length)=true:=af (by omega)
 have sp:=GU hml b;have e1:cP (gv r m b) 2={cells:=[.fz (rows Mb.l (r.ms.modify m λx=>{x with es:=b})) r.ms.length,.fz (rows aW.l r.sh) r.sh.length,.sg 2 0 r.tp.length]}:=by simp only [cP,gv,List.length_modify]
 have e2:bF (gv r m b)=bF r:=rfl;rw [e1,e2] at hk;have mB:=λj=>fT j (dF (gv r m b) m).ms;have sB:=λj=>cG j (dF (gv r m b) m).sh;have tB:=λj=>fb j (dF (gv r m b) m).tp;have mR:=λg=>jI g (dF (gv r m b) m).ms;have sR:=λg=>dT g (dF (gv r m b) m).sh;have tR:=λg=>jC g (dF (gv r m b) m).tp;generalize dF (gv r m b) m=R2 at*;refine bG.qk (cx:=cj [(62,gA),(71,iM),(76,kc)]) Tryz.func79 ES (by simp [i79]) ?_
 dsimp only [i79];refine cU.part (F:=⟨ay,cj [(62,gA),(71,iM),(76,kc)],[],30,3⟩) hcx mo ?_;simp only [go_sem,n1,iM,i1,i2,gA,simprocAttr];refine cU.part (F:=⟨ay,cj [(62,gA),(71,iM),(76,kc)],[],30,3⟩) hcx mo ?_;simp only [go_sem,c2,le1,sp,j3,simprocAttr];refine cU.nA (b:=1) (x:= .sg 1 0 r.ms.length) (o:=0) (m:=r.ms.length) (k:={cells:=rows Mb.l (r.ms.modify m λx=>{x with es:=b}),gr:=some 2}) (cs:=rows Mb.l (r.ms.modify m λx=>{x with es:=b})) (e2:=[(0,.p 0 0),(1,.fp [.i .i64 m] 0)])
  (h2:=[(0,{cells:=[.fz (rows Mb.l (r.ms.modify m λx=>{x with es:=b})) r.ms.length,.fz (rows aW.l r.sh) r.sh.length,.sg 2 0 r.tp.length]}),(2,bF r)]) ?_ rfl rfl (.inr rfl) (.inl rfl) ⟨⟨_,rfl,bW.refl⟩,⟨_,rfl,bW.refl⟩,trivial⟩ ⟨⟨by decide,_,rfl,rfl,rfl,rfl,bW.hit,bW.refl,bW.refl,trivial⟩,⟨by decide,_,rfl,rfl,rfl,rfl,dZ.refl⟩,trivial⟩
 refine cU.run (F:=⟨ay,cj [(62,gA),(71,iM),(76,kc)],[],30,3⟩) hcx mo ?_;simp only [go_sem,hk,simprocAttr];exact aZ.ends (Ends.R [] (by decide) (by decide) rfl rfl (by simp_all [iW,aa,rn,bp.aQ,aS,AV.aQ,ab,AV.aj,eu]))
theorem ag8 (r:Rm) (hg:aX r=true) (m:Nat) (b:Int) (he:yX r m b=0) (h0:dw r.tp m=[]):
 bG ay 79 (.p 0 0::tw m b) [(0,vQ r 1 (.fz (rows Tp.l r.tp) r.tp.length)),(1,eS r)] 2 (.bz []) [(0,{cells:=(gv r m b).a})] 2:=by
 have hl:=ek hg;have hh:bZ 0 ((r.ms.length:Int)-1) (m:Int)=true/\bZ 0 1073741824 b=true:=by
  simp_all [yX]
 obtain ⟨i1,i2⟩:=hh;have hm:=(bD i1).2;have hbb:=bD i2;have hml:m<r.ms.length:=by omega
 obtain ⟨x,hx⟩: ∃x,r.ms[m]? =some x:=⟨_,bj hml⟩;have hx1:(gv r m b).ms[m]? =some {x with es:=b}:=by grind [gv,List.getElem?_modify]
 have hs:=dc (by kernel_rfl) (by simp only [ab,AV.aj,Rm.aj,aG]) rfl (aaj (gv r m b) m _ hx1 (by show r.tp.length<=1000;omega) hbb h0)
 have hat:=λh n=>gC (a0:=[.fp (gv r m b).a 0,.i .i64 m]) (v0:= .bz []) h n;generalize kP [.fp (gv r m b).a 0,.i .i64 m] (.bz [])=kT at hs hat;have hk: ∀(h:Hp) n,aa h 0=some {cells:=(gv r m b).a}->cu kT [.p 0 0,.i .i64 m] h n=some (true,{v:= .bz [],n,rd:=[0]}):=λh n hb=>by
  have hv:=mY h 5 (gv r m b);exact jM (by simp_all [bn,bI,jH,kN,eo,aC,dh]) (hat [] 0) rfl
 have hcx:Sound ay (cj [(62,gA),(71,iM),(76,cu kT)]):=Sound.cons Ad (Sound.cons DQ (Sound.cons hs.nv Sound.nil));generalize cu kT=kc at*;have n1:IntKind.i64.wrap ((r.ms.length:Int)-1)=(r.ms.length:Int)-1:=aN (by omega) (by omega)
 have c2:decide (0<=(m:Int)/\(m:Int)<(r.ms.length:Int))=true:=af (by omega)
 have zR:(rows Mb.l r.ms).length=r.ms.length*2:=aU Mb.len;have le1:decide (m*2+1+1<=(rows Mb.l r.ms).length)=true:=af (by omega)
 have sp:=GU hml b;have hB:=λj=>Rm.aj j (gv r m b);have hR:=λg=>aJ (ψ:=g) _ (hB 0);have e1:(gv r m b).a=[.fz (rows Mb.l (r.ms.modify m λx=>{x with es:=b})) r.ms.length,.fz (rows aW.l r.sh) r.sh.length,.fz (rows Tp.l r.tp) r.tp.length]:=by simp only [Rm.a,gv,List.length_modify]
 refine bG.qk (cx:=cj [(62,gA),(71,iM),(76,kc)]) Tryz.func79 ES (by simp [i79]) ?_
 dsimp only [i79];refine cU.part (F:=⟨ay,cj [(62,gA),(71,iM),(76,kc)],[],30,2⟩) hcx mo ?_;simp only [go_sem,n1,iM,i1,i2,gA,simprocAttr];refine cU.part (F:=⟨ay,cj [(62,gA),(71,iM),(76,kc)],[],30,2⟩) hcx mo ?_;simp only [go_sem,c2,le1,sp,j3,simprocAttr];refine cU.nA (b:=1) (x:= .sg 1 0 r.ms.length) (o:=0) (m:=r.ms.length) (k:={cells:=rows Mb.l (r.ms.modify m λx=>{x with es:=b}),gr:=some 2}) (cs:=rows Mb.l (r.ms.modify m λx=>{x with es:=b})) (e2:=[(0,.p 0 0),(1,.fp [.i .i64 m] 0)])
  (h2:=[(0,{cells:=(gv r m b).a})]) ?_ rfl rfl (.inr rfl) (.inl rfl) ⟨⟨_,rfl,bW.refl⟩,⟨_,rfl,bW.refl⟩,trivial⟩ (by rw [e1];exact ⟨⟨by decide,_,rfl,rfl,rfl,rfl,bW.hit,bW.refl,bW.refl,trivial⟩,trivial⟩)
 generalize (gv r m b).a=RA at*;refine cU.run (F:=⟨ay,cj [(62,gA),(71,iM),(76,kc)],[],30,2⟩) hcx mo ?_;simp only [go_sem,hk,simprocAttr];exact aZ.ends (Ends.R [] (by decide) (by decide) rfl rfl (by simp [iW,aa,rn,bp.aQ,hB,hR]))
theorem IE {r:Rm} (hm:r.ms≠[]) (ht:r.tp≠[]):fS r true false true 1=[(1,vQ r 2 (.sg 4 0 r.tp.length)),(2,eS r),(4,bF r)]:=by
 have e:=pW (f:=Tp.l) (z:=22) (l:=r.tp) (sO.2 ht);unfold fS nh mV mH sV tV sH tH;rw [e];split
 ·grind
 ·rfl
theorem Xr {r:Rm} (hm:r.ms≠[]):fS r true false false 1=[(1,vQ r 2 (.fz (rows Tp.l r.tp) r.tp.length)),(2,eS r)]:=by
 simp [fS,nh,mV,mH,sV,tV,sH,tH]
theorem adQ (r:Rm) (hr:r.is=true) (hg:aX r=true) (m:Nat) (b:Int) (he:yX r m b=0) (hml:m<r.ms.length):bG ay 135 [.fp r.a 0,.fp [.fn 79 (tw m b)] 0] [] 0 (.agg (dF (gv r m b) m).a) [] 0:=by
 have hm:r.ms≠[]:=λh=>by grind
 by_cases h0:dw r.tp m=[]
 ·rw [Ci (show dw (gv r m b).tp m=[] from h0)]
  have hk:kH [1,2] [vQ r 1 (.fz (rows Tp.l r.tp) r.tp.length),eS r] (.p 0 0::tw m b) (.bz []) [(0,{cells:=(gv r m b).a})] 2 none (.p 1 0::tw m b) (ki r true false false) 5=_:=ej rfl ⟨⟨?_,?_⟩,⟨?_,?_⟩,trivial⟩ rfl
  ·have hB:=λj=>Rm.aj j (gv r m b);have hR:=λg=>aJ (ψ:=g) _ (hB 0);refine aal hr hg true false false (cK (R:=[1,2]) (ks:=[vQ r 1 (.fz (rows Tp.l r.tp) r.tp.length),eS r]) (by kernel_rfl) (by decide) rfl (ag8 r hg m b he h0) (by decide) (by simp [l5,dD,hB,aP])) (by decide) hk rfl ?_ ?_<;>
    (rw [ki,Xr hm];simp [bV.fg,nR,fL,bp.aQ,jA,nth,aa,hR,ja,iH,oH,aP,eu])
  ·rw [ki,Xr hm];simp [aa,bp.aQ,aS,AV.aQ,nth,dT,jC,eu]
  all_goals simp_all [ab,AV.aj,cG,fb,aP,ki,Xr,aa,bp.aQ,jI,eu,eS,fT]
 ·have ht:r.tp≠[]:=λh=>h0 (by rw [h];rfl)
  have hk:kH [1,2,4] [vQ r 1 (.sg 2 0 r.tp.length),eS r,bF r] (.p 0 0::tw m b) (.bz []) [(0,cP (dF (gv r m b) m) 2),(2,bF (dF (gv r m b) m))] 3 none (.p 1 0::tw m b) (ki r true false true) 5=_:=ej rfl ⟨⟨?_,?_⟩,⟨?_,?_⟩,⟨?_,?_⟩,trivial⟩ rfl
  ·refine FW (b:=4) hr hg true false true (cK (R:=[1,2,4]) (ks:=[vQ r 1 (.sg 2 0 r.tp.length),eS r,bF r]) (by kernel_rfl) (by decide) rfl (agw r hg m b he (sO.2 h0)) (by decide) (by simp [l5,dD,ab,AV.aj,fT,cG,fb,aP])) (by decide) (by decide) hk rfl ?_ ?_ ?_<;>
    (rw [ki,IE hm ht];simp [bV.fg,nR,fL,bp.aQ,aS,AV.aQ,jA,nth,aa,jI,dT,jC,ja,iH,oH,aP,eu])
  ·simp_all [ki,IE,aa,bp.aQ,aS,AV.aQ,nth,dT,eu]
  all_goals simp_all [ab,AV.aj,cG,aP,ki,IE,aa,bp.aQ,jI,eu,eS,fT,jC,fb]
theorem DP {l:List Int} (h:Hp) (f:Nat):lV (Go.Ab.nv h f) (l.map λx=>AV.fp [.i .i64 x] 0)=some ([],l.map λx=>AV.fp [.i .i64 x] 0):=by
 induction l with
 |nil=>rfl
 |cons a l ih=>simp only [fJ,bn,vA (show ab 0 [AV.i .i64 a]=true from rfl),ih,aC,dh]
theorem aii (r:Rm) (hr:r.is=true) (m b:Int):bG ay 59 [.agg r.a,.fn 79 (tw m b)] [] 0 (jS (j2 r m b)) [] 0:=by
 have hn:=λh f=>DP (l:=[m,b]) h f;cases hg:aX r
 ·have e:j2 r m b=(vr,420):=by grind [j2]
  rw [e];exact L4 r hr hg 79 _ hn rfl
 ·by_cases he:yX r m b=0
  ·have e:j2 r m b=(dF (gv r m.toNat b) m.toNat,0):=by simp_all [j2]
   have hi:0<=m/\m<=(r.ms.length:Int)-1:=by
    unfold yX at he;split at he
    ·rename_i h;exact bD (lP.1 h).1
    ·cases he
   have hm:((m.toNat:Nat):Int)=m:=by omega
   rw [e];refine BE r 79 _ hn rfl _ (λh=>absurd rfl h) (λ_=> ?_) (λh=>absurd rfl h)
   grind [adQ]
  ·have e:j2 r m b=(vr,2):=by simp_all [j2]
   rw [e];refine BE r 79 _ hn rfl _ (λ_=>rfl) (λh=>by cases h) (λ_=> ?_)
   exact Jq hr hg (by decide) rfl (by kernel_rfl) (agy r (ek hg).1 m b he)
theorem w16 (r:Rm) (hr:r.is=true) (m b:Int):bG ay 16 [.agg r.a,.i .i64 m,.i .i64 b] [] 0 (jS (j2 r m b)) [] 0:=by
 have hb:=iF (j2 r m b);have hrb:=Rm.aj 0 r;have hst:=dc (by kernel_rfl) (by grind [ab,AV.aj,aG]) hb (aii r hr m b)
 have hat:=λh n=>gC (a0:=[.agg r.a,.fn 79 [.fp [.i .i64 m] 0,.fp [.i .i64 b] 0]]) (v0:=jS (j2 r m b)) h n;generalize kP _ _=kT at hst hat;have hv:=λh f=>mY h f r;have hk: ∀(h:Hp) n,aa h 1=some {cells:=[.i .i64 m]}->aa h 2=some {cells:=[.i .i64 b]}->ff kT [.agg r.a,.fn 79 [.p 1 0,.p 2 0]] h n=some (true,{v:=jS (j2 r m b),n,rd:=[1,2],md:=[(1,none),(2,none)]}):=λh n h1 h2=>by
  simp only [ff,bn,bI,lj,jH,kN,kC,hv,h1,h2,aC,eo,hat,hb,ez,List.nil_append,dh];simp [bV.plain,wN,h1,h2,j4]
 have hcx:Sound ay (cj [(59,ff kT)]):=Sound.cons hst.ng Sound.nil;have a3:r.a.length=3:=rfl;generalize hR:j2 r m b=R at*;obtain ⟨R,e⟩:=R;have a0:R.a.length=3:=rfl;have ao:aL R.a=true:=rfl;have ad:List.take 3 (List.drop 0 R.a)=R.a:=rfl;have ad2:List.take 3 (List.drop 0 r.a)=r.a:=rfl;have hbR:=Rm.aj 0 R;simp only [jS] at*;generalize R.a=RA at*;generalize r.a=ra at*;refine ew hcx Tryz.func16 UY ?_
 dsimp only [i16];simp only [go_sem,hk,a3,a0,ao,ad,ad2,simprocAttr]
 grind [Ends.aw,AV.aj,ab,aG]
def BR:Ct
 |[.agg c,.i .i64 m,.i .i64 b],_,n=>(qX c).bind λr=>some (r.is,{v:=jS (j2 r m b),n})
 |_,_,_=>none
theorem s16:ax ay 16 BR:=λargs h n c E hc ht=>by
 unfold BR at hc;split at hc
 ·simp only [av,aI,aV] at hc;obtain ⟨r,hr,rfl,rfl⟩:=hc;rw [dW hr];exact aA.pure (by kernel_rfl) (by simp only [ab,AV.aj,Rm.aj,aG]) (iF _) (w16 r ht _ _) _ _
 ·cases hc
abbrev aeL:List AV:=[.i .i64 0,.i .i64 0,.i .i64 0,.i .i64 0,.ns,.i .i64 0,.i .i64 0,.i .i64 0,.i .i64 0,.i .i64 0,.i .i64 0,.i .i64 0,.i .i64 0,.b false,.i .i64 0,.i .i64 0,.i .i64 0,.i .i64 0,.i .i64 0,.i .i64 0,.i .i64 0,.i .i64 0]
theorem acR {h:Hp} {z b o m b' m':Nat} {cs:List AV} {ok:Bool} (hg:V0 h z (.sg b o m)=some (b',m',cs,ok)):b'=b/\m'=m:=by
 grind [IJ,av,aI,aV]
def ZI:Ct
 |[.sg b o q,.i .i64 i,.i .i64 j],h,n=>(V0 h 22 (.sg b o q)).bind λg=>(bc 22 uP g.2.1 g.2.2.1).bind λl=>
  some (wN h []&&(g.2.2.2&&decide (0<=i/\i.toNat<l.length/\j=i+1/\l.length<=1000000)),{v:= .sg n 0 (l.length-1),n:=n+1,rd:=b::[],md:=j4 (b::[]),nw:=[(n,{cells:=rows Tp.l (l.eraseIdx i.toNat),gr:=some 22})]})
 |_,_,_=>none
theorem s78:ax ay 78 ZI:=λargs h n c E hc ht=>by
 unfold ZI at hc;split at hc
 ·rename_i b o q i j;simp only [av,aI,aV] at hc;obtain ⟨⟨b',q',cs',ok'⟩,hg,l,hl,hok,rfl⟩:=hc;rw [ht] at hok;simp only [ak,bg] at hok;obtain ⟨hw,rfl,hi0,hi,rfl,hll⟩:=hok;dsimp only at hl ⊢;obtain ⟨rfl,rfl⟩:=acR hg;obtain ⟨rfl,rfl⟩:=bu (f:=Tp.l) lf hl;have hi':((i.toNat:Nat):Int)=i:=by omega
  refine aA.Uk (by kernel_rfl) hg (fb 0 l) (fb 0 _) (post:=[.i .i64 i,.i .i64 (i+1)]) (postF:=[.i .i64 i,.i .i64 (i+1)]) ⟨jR.same rfl,jR.same rfl,trivial⟩ rfl (by decide) (by decide) hw (λc hc p=> ?_)
  obtain ⟨T,hT⟩:=QN (row:=Tp.l) (zs:=aeL) (z:=22) (bytes:=192) mo Tryz.func78 Wm Tp.len (by decide) (by decide) rfl rfl rfl Tp.aj Tp.one l i.toNat p c hi hc (by omega)
  grind
 ·cases hc
def mQ (r:Rm) (p:Nat):Rm:=⟨r.ms,r.sh,r.tp.eraseIdx p⟩
abbrev WI (m s:Int):List AV:=[.fp [.i .i64 m] 0,.fp [.i .i64 s] 0]
def sF (r:Rm) (m s:Int):Int:=if bZ 0 ((r.ms.length:Int)-1) m&&bZ 0 ((r.sh.length:Int)-1) s then (if ko (fw m s) r.tp then 0 else 4) else 2
def mT (r:Rm) (m s:Int):Rm×Int:=if aX r then (if sF r m s=0 then (dF (mQ r (eX (fw m s) r.tp)) m.toNat,0) else (vr,sF r m s)) else (vr,420)
theorem Yl (h:Hp) (f:Nat) (l:List Tp):lV (Go.Ab.nv h f) (rows Tp.l l)=some ([],rows Tp.l l):=nj (λa=>by simp [Tp.l,Sw.a,ez,List.nil_append,bn,bI,kN,Vl,ef,iB,aC]) l
theorem Tt {h:Hp} {r:Rm} {b:Nat} (h0:aa h 0=some (cP r b)) (h1:aa h b=some (bF r)) (f:Nat):Go.Ab.nv h (f+2) (.p 0 0)=some ([0,b],.fp r.a 0):=by
 have zR:(rows Tp.l r.tp).length=r.tp.length*22:=aU Tp.len;have e:aD (rows Tp.l r.tp) 0 (r.tp.length*22)=rows Tp.l r.tp:=by rw [aD,dk,<-zR,jh]
 have hf:([AV.fz (rows Mb.l r.ms) r.ms.length,.fz (rows aW.l r.sh) r.sh.length,.fz (rows Tp.l r.tp) r.tp.length]:List AV)=r.a:=rfl;simp_all [jH,aC,eo,bn,bI,ef,fT,cG,Gk,Yl,dh,List.nil_append]
theorem Gq {kT:Ct} {v:AV} {r:Rm} {b:Nat} {m s:Int} (hat: ∀h n,kT [.fp r.a 0,.i .i64 m,.i .i64 s] h n=some (true,{v,n})) (hp:v.pl=true) (h:Hp) (n:Nat) (h0:aa h 0=some (cP r b)) (h1:aa h b=some (bF r)):cu kT [.p 0 0,.i .i64 m,.i .i64 s] h n=some (true,{v,n,rd:=[0,b]}):=
 jM (by simp only [bn,bI,Tt h0 h1 4,kN,aC,dh]) (hat [] 0) hp
theorem aA.Ao {P:Program} {f:FuncId} {args:List AV} {h:Hp} {n:Nat} {E:bV} (hc:aA P f args h n E) (hm:E.md=[]) (hw:E.nw=[]) (md:List (Nat×Option bp)) (hs: ∀b r,cy md b=some r->r=aa h b/\inl E.rd b=true):aA P f args h n {E with md:=md}:=by
 have ha:({E with md:=md}:bV).app (only (aa h) E.rd)=E.app (only (aa h) E.rd):=by
  funext c;simp only [bV.app,hm,hw,cy,aa];cases hg:cy md c with
  |none=>rfl
  |some r=>
   obtain ⟨h1,h2⟩:=hs c r hg;simp only [only,h2,cond_true,h1]
 refine ⟨hc.bH,hc.le,λb r hb=>(hs b r hb).2,hc.nw,λD φ w us h1 h2 h3=> ?_⟩;rw [ha];exact hc.run D φ w us h1 h2 h3
open Classical in
noncomputable def Bb (r:Rm) (m b:Nat):Ct:=λa h n=>if a=[.p 0 0,.i .i64 m]/\aa h 0=some (cP r b)/\aa h b=some (bF r) then some (true,{v:= .bz [],n,rd:=[0,b],md:=[(0,some (cP (dF r m) b)),(b,some (bF (dF r m)))]}) else none
theorem AJ (r:Rm) (m b:Nat) (h:Hp) (n:Nat) (h0:aa h 0=some (cP r b)) (h1:aa h b=some (bF r)):Bb r m b [.p 0 0,.i .i64 m] h n=some (true,{v:= .bz [],n,rd:=[0,b],md:=[(0,some (cP (dF r m) b)),(b,some (bF (dF r m)))]}):=aT ⟨rfl,h0,h1⟩
theorem YW (r:Rm) (m b:Nat) (hb:b≠0) (hg:aX r=true) (x:Mb) (hx:r.ms[m]? =some x):ax ay 76 (Bb r m b):=λargs h n c E hc ht=>by
 unfold Bb at hc;split at hc
 ·rename_i hh;obtain ⟨rfl,h0,h1⟩:=hh;cases hc;have hl:=ek hg;have hml:=(cv.1 hx).1;by_cases he:dw r.tp m=[]
  ·have hs:=(dc (P:=ay) (by kernel_rfl) (by simp only [ab,AV.aj,Rm.aj,aG]) rfl (aaj r m x hx (by omega) (qw hg hx) he)).nv
   rw [Ci he];have hk:cu (kP [.fp r.a 0,.i .i64 m] (.bz [])) [.p 0 0,.i .i64 m] h n=some (true,{v:= .bz [],n,rd:=[0,b]}):=
    jM (by simp only [bn,bI,Tt h0 h1 4,kN,aC,dh]) (gC (a0:=[.fp r.a 0,.i .i64 m]) (v0:= .bz []) [] 0) rfl
   refine aA.Ao (hs _ _ _ _ _ hk rfl) rfl rfl _ (λc r' hm=> ?_)
   grind [cy,bO,inl]
  ·exact aeB r m b hb x hx (by omega) (qg hg hml) (qw hg hx) (sO.2 he) (GV hg) _ _ _ _ _ (FY r m b h n h0 h1) rfl
 ·cases hc
theorem agY (r:Rm) (hg:aX r=true) (m s:Int) (he:sF r m s≠0):cz ay 77 (.fp r.a 0::WI m s) [] 0 (some (eJ (sF r m s))) (.bz []) [] 0:=by
 have hrb:=Rm.aj 0 r;cases hr:bZ 0 ((r.ms.length:Int)-1) m&&bZ 0 ((r.sh.length:Int)-1) s
 ·have e:sF r m s=2:=by grind [sF]
  rw [e];have hs:=iY (P:=ay) (by kernel_rfl) (by grind [ab,AV.aj,aG]) rfl (adM r hg m s hr)
  have hk:=λh n=>tE (a0:=[.fp r.a 0,.i .i64 m,.i .i64 s]) (v0:= .bz []) (pn:=some (eJ 2)) h n;have hcx:Sound ay (cj [(68,kX _ _ _)]):=Sound.cons hs Sound.nil;generalize kX _ _ _=kk,r.a=ra at*;refine cz.dQ hcx mo Tryz.func77 E9 (by simp [i77]) (aO ?_)
  dsimp only [i77];simp only [go_sem,hk,simprocAttr];exact Ends.aw rfl rfl
 ·have e:sF r m s=4:=by
   simp_all [sF]
  have hf:ko (fw m s) r.tp=false:=by
   cases hf:ko (fw m s) r.tp;all_goals simp_all [sF]
  rw [e];have hw:=w68 r hg m s hr;rw [hf] at hw;have hs:=dc (by kernel_rfl) (by grind [ab,AV.aj,aG]) rfl hw
  have hk:=λh n=>gC (a0:=[.fp r.a 0,.i .i64 m,.i .i64 s]) (v0:= .bz [.i .i64 (eX (fw m s) r.tp:Nat),.b false]) h n;have hcx:Sound ay (cj [(62,gA),(68,kP _ _)]):=Sound.cons Ad (Sound.cons hs Sound.nil);generalize kP _ _=kk,r.a=ra at*;refine cz.dQ hcx mo Tryz.func77 E9 (by simp [i77]) (aO ?_)
  dsimp only [i77];simp only [go_sem,hk,gA,simprocAttr];exact Ends.aw rfl rfl
theorem GD {t:Tp} {l:List Tp} (h:ko t l=true):eX t l<l.length:=by
 grind [ko,cv]
theorem w77 (r:Rm) (hg:aX r=true) (m:Nat) (s:Int) (he:sF r m s=0):bG ay 77 (.p 0 0::WI m s) [(0,cP r 1),(1,bF r)] 2 (.bz []) [(0,cP (dF (mQ r (eX (fw m s) r.tp)) m) 2),(2,bF (dF (mQ r (eX (fw m s) r.tp)) m))] 3:=by
 have hl:=ek hg;obtain ⟨hr,hf⟩:(bZ 0 ((r.ms.length:Int)-1) (m:Int)&&bZ 0 ((r.sh.length:Int)-1) s)=true/\ko (fw m s) r.tp=true:=by
  grind [sF]
 have hi:=bD (lP.1 hr).1;have hw:=w68 r hg m s hr;rw [hf] at hw;have hpl:=GD hf;have hrb:=Rm.aj 0 r;have hs1:=dc (by kernel_rfl) (by grind [ab,AV.aj,aG]) rfl hw
 have hk1:=λh n h0 h1=>Gq (b:=1) (λh n=>gC (a0:=[.fp r.a 0,.i .i64 m,.i .i64 s]) (v0:= .bz [.i .i64 (eX (fw m s) r.tp:Nat),.b true]) h n) rfl h n h0 h1;have hg2:=C7 hg (eX (fw m s) r.tp);have hln:(r.tp.eraseIdx (eX (fw m s) r.tp)).length=r.tp.length-1:=by grind
 generalize hP:eX (fw m s) r.tp=P at*;obtain ⟨x,hx⟩: ∃x,r.ms[m]? =some x:=⟨_,bj (by omega)⟩
 have hes:=qw hg hx;have hkd: ∀(h:Hp) n,aa h 1=some (bF r)->ZI [.sg 1 0 r.tp.length,.i .i64 P,.i .i64 ((P:Int)+1)] h n=some (true,{v:= .sg n 0 (r.tp.length-1),n:=n+1,rd:=[1],md:=[(1,none)],nw:=[(n,bF (mQ r P))]}):=λh n h1=>by
  have zR:(rows Tp.l r.tp).length=r.tp.length*22:=aU Tp.len;have e:List.take (r.tp.length*22) (rows Tp.l r.tp)=rows Tp.l r.tp:=by grind
  have d:decide (0<=(P:Int)/\(P:Int).toNat<r.tp.length/\(P:Int)+1=(P:Int)+1/\r.tp.length<=1000000)=true:=af (by omega)
  simp_all [ZI,IJ,eo,aD,F1,wN,j4,mQ]
 have hc:=YW (mQ r P) m 2 (by decide) hg2 x hx
 have hkc:=AJ (mQ r P) m 2;have hcx:Sound ay (cj [(62,gA),(68,cu (kP [.fp r.a 0,.i .i64 m,.i .i64 s] (.bz [.i .i64 (P:Nat),.b true]))),(76,Bb (mQ r P) m 2),(78,ZI)]):=Sound.cons Ad (Sound.cons hs1.nv (Sound.cons hc (Sound.cons s78 Sound.nil)));generalize cu (kP _ _)=q1,Bb (mQ r P) m 2=q2,ZI=q3 at*;have w1:IntKind.i64.wrap ((P:Int)+1)=(P:Int)+1:=aN (by omega) (by omega)
 have e1:cP (mQ r P) 2={cells:=[.fz (rows Mb.l r.ms) r.ms.length,.fz (rows aW.l r.sh) r.sh.length,.sg 2 0 (r.tp.length-1)]}:=by simp_all [cP,mQ]
 rw [e1] at hkc;have mB:=λj=>fT j (dF (mQ r P) m).ms;have sB:=λj=>cG j (dF (mQ r P) m).sh;have tB:=λj=>fb j (dF (mQ r P) m).tp;have mR:=λg=>jI g (dF (mQ r P) m).ms;have sR:=λg=>dT g (dF (mQ r P) m).sh;have tR:=λg=>jC g (dF (mQ r P) m).tp;generalize dF (mQ r P) m=R2,bF (mQ r P)=LT,hLT:bF r=L0 at*;refine ew hcx Tryz.func77 E9 ?_
 dsimp only [i77];simp only [go_sem,hk1,gA,hkd,hkc,w1,simprocAttr];exact Ends.R [] (by decide) (by decide) rfl rfl (by simp_all [iW,aa,rn,bp.aQ,aS,AV.aQ,ab,AV.aj,eu])
theorem YF {r:Rm} {m s:Int} (he:sF r m s=0):(0<=m/\m<=(r.ms.length:Int)-1)/\(0<=s/\s<=(r.sh.length:Int)-1)/\ko (fw m s) r.tp=true:=by
 unfold sF at he;split at he
 ·rename_i h;have h:=lP.1 h;split at he
  ·rename_i h2;exact ⟨bD h.1,bD h.2,h2⟩
  ·cases he
 ·cases he
theorem agh (r:Rm) (hr:r.is=true) (m s:Int):bG ay 59 [.agg r.a,.fn 77 (WI m s)] [] 0 (jS (mT r m s)) [] 0:=by
 have hn:=λh f=>DP (l:=[m,s]) h f;cases hg:aX r
 ·have e:mT r m s=(vr,420):=by grind [mT]
  rw [e];exact L4 r hr hg 77 _ hn rfl
 ·by_cases he:sF r m s=0
  ·have e:mT r m s=(dF (mQ r (eX (fw m s) r.tp)) m.toNat,0):=by simp_all [mT]
   obtain ⟨hi,_,hf⟩:=YF he;have hm:((m.toNat:Nat):Int)=m:=by omega
   have hpl:=GD hf;rw [e];refine BE r 77 _ hn rfl _ (λh=>absurd rfl h) (λ_=> ?_) (λh=>absurd rfl h);have:=w77 r hg m.toNat s (by grind)
   rw [hm] at this;exact T3 hr hg (λh=>by grind) (by decide) rfl (by kernel_rfl) (.inr ⟨rfl,rfl⟩) this
  ·have e:mT r m s=(vr,sF r m s):=by simp_all [mT]
   rw [e];refine BE r 77 _ hn rfl _ (λ_=>rfl) (λh=>absurd h he) (λ_=> ?_);exact Jq hr hg (by decide) rfl (by kernel_rfl) (agY r hg m s he)
theorem w15 (r:Rm) (hr:r.is=true) (m s:Int):bG ay 15 [.agg r.a,.i .i64 m,.i .i64 s] [] 0 (jS (mT r m s)) [] 0:=by
 have hb:=iF (mT r m s);have hrb:=Rm.aj 0 r;have hst:=dc (by kernel_rfl) (by grind [ab,AV.aj,aG]) hb (agh r hr m s)
 have hat:=λh n=>gC (a0:=[.agg r.a,.fn 77 [.fp [.i .i64 m] 0,.fp [.i .i64 s] 0]]) (v0:=jS (mT r m s)) h n;generalize kP _ _=kT at hst hat;have hv:=λh f=>mY h f r;have hk: ∀(h:Hp) n,aa h 1=some {cells:=[.i .i64 m]}->aa h 2=some {cells:=[.i .i64 s]}->ff kT [.agg r.a,.fn 77 [.p 1 0,.p 2 0]] h n=some (true,{v:=jS (mT r m s),n,rd:=[1,2],md:=[(1,none),(2,none)]}):=λh n h1 h2=>by
  simp only [ff,bn,bI,lj,jH,kN,kC,hv,h1,h2,aC,eo,hat,hb,ez,List.nil_append,dh];simp [bV.plain,wN,h1,h2,j4]
 have hcx:Sound ay (cj [(59,ff kT)]):=Sound.cons hst.ng Sound.nil;have a3:r.a.length=3:=rfl;generalize hR:mT r m s=R at*;obtain ⟨R,e⟩:=R;have a0:R.a.length=3:=rfl;have ao:aL R.a=true:=rfl;have ad:List.take 3 (List.drop 0 R.a)=R.a:=rfl;have ad2:List.take 3 (List.drop 0 r.a)=r.a:=rfl;have hbR:=Rm.aj 0 R;simp only [jS] at*;generalize R.a=RA at*;generalize r.a=ra at*;refine ew hcx Tryz.func15 Zs ?_
 dsimp only [i15];simp only [go_sem,hk,a3,a0,ao,ad,ad2,simprocAttr]
 grind [Ends.aw,AV.aj,ab,aG]
def D5:Ct
 |[.agg c,.i .i64 m,.i .i64 s],_,n=>(qX c).bind λr=>some (r.is,{v:=jS (mT r m s),n})
 |_,_,_=>none
theorem s15:ax ay 15 D5:=λargs h n c E hc ht=>by
 unfold D5 at hc;split at hc
 ·simp only [av,aI,aV] at hc;obtain ⟨r,hr,rfl,rfl⟩:=hc;rw [dW hr];exact aA.pure (by kernel_rfl) (by simp only [ab,AV.aj,Rm.aj,aG]) (iF _) (w15 r ht _ _) _ _
 ·cases hc
theorem w74 (tp:List Tp) (i:Nat) (hi:i<tp.length) (o:Int):bG ay 74 [.fp (rows Tp.l tp) (i*22),.fp [.i .i64 o] 0] [] 0 (.b (Mn tp i==o)) [] 0:=by
 obtain ⟨t,ht⟩: ∃t,tp[i]? =some t:=⟨_,bj hi⟩;have e:Mn tp i=t.sw.ou:=by grind [Mn]
 have g:(rows Tp.l tp)[i*22+4+1]? =some (.i .i64 t.sw.ou):=bM (f:=Tp.l) (z:=22) (j:=5) (v:= .i .i64 t.sw.ou) Tp.len ht rfl;rw [e];generalize rows Tp.l tp=T at*;refine ew (cx:=cj []) Sound.nil Tryz.func74 Y4 ?_
 dsimp only [i74];simp only [go_sem,g,simprocAttr];exact Ends.aw rfl rfl
theorem w73 (tp:List Tp) (m o:Int) (hl:tp.length<=1000):bG ay 73 [.fz (rows (nQ (rows Tp.l tp)) (dw tp m)) (dw tp m).length,.fn 74 [.fp [.i .i64 o] 0]] [] 0 (.b ((dw tp m).any λi=>Mn tp i==o)) [] 0:=by
 have hb:=fb 0 tp;have hle:(dw tp m).length<=tp.length:=yC tp m _;refine Li mo Tryz.func73 Y3 (by kernel_rfl) (bh (Ky hb)) rfl ?_ (wC _ (dw tp m) 0 (by omega))
 exact GJ (el:=λi=> .fp (rows Tp.l tp) (i*22)) mo Tryz.func140 Se (by kernel_rfl) (λ_=>hb) rfl (λ_=>rfl) (λa b h=>by grind) _ (by omega) (λi hi=>w74 tp i (jc hi).1 o)
theorem FA (tp:List Tp) (m o:Int):((dw tp m).any λi=>Mn tp i==o)=(ofM tp m).any λt=>t.sw.ou==o:=by
 have h:=dC (λl:List Bool=>l.any id) (Ti (f:=λi=>Mn tp i==o) (g:=λt=>t.sw.ou==o) (tp:=tp) (λi t h=>by grind [Mn]) m)
 simp_all
theorem jR.fzN {h:Hp} {rd:List Nat} {l m:List AV} {n:Nat} (hl:yG h rd l m):jR h rd (.fz l n) (.fz m n):=λD D' φ w u hH hv=>by
 cases hv with
 |fz _ _ B o cap vs hB hc hs hh=>
  refine .fz m n B o cap vs ((bP.gO hH D).fz B vs hB) hc (λi hi=>hs i (by rw [hl.len];exact hi)) (λi b u hb hu=> ?_)
  obtain ⟨a,h1,h2⟩:=hl.get hb;exact h2 D D' φ w u hH (hh i a u h1 hu)
 |nS _ x cap hc=>exact .nS _ x cap hc
theorem KJ {h:Hp} {b:Nat} {tp:List Tp} (hb:aa h b=some {cells:=rows Tp.l tp,gr:=some 22}): ∀q:List Nat,yG h [b] (rows (λi=>[AV.p b (i*22)]) q) (rows (nQ (rows Tp.l tp)) q)
 |[]=>trivial
 |i::q=>by
  refine ⟨jR.p (k:={cells:=rows Tp.l tp,gr:=some 22}) ?_ (fb 0 tp),KJ hb q⟩;simp [only,inl,hb]
open Classical in
noncomputable def Lt (r:Rm) (m o:Int):Ct:=λa h n=>if a=[kO r m,.fn 74 [.fp [.i .i64 o] 0]]/\aa h 1=some (bF r) then some (true,{v:= .b ((ofM r.tp m).any λt=>t.sw.ou==o),n,rd:=[1]}) else none
theorem P2 (r:Rm) (m o:Int) (h:Hp) (n:Nat) (h1:aa h 1=some (bF r)):Lt r m o [kO r m,.fn 74 [.fp [.i .i64 o] 0]] h n=some (true,{v:= .b ((ofM r.tp m).any λt=>t.sw.ou==o),n,rd:=[1]}):=aT ⟨rfl,h1⟩
theorem aic (r:Rm) (m o:Int) (hl:r.tp.length<=1000):ax ay 73 (Lt r m o):=λargs h n c E hc ht=>by
 unfold Lt at hc;split at hc
 ·rename_i hh;obtain ⟨rfl,h1⟩:=hh;cases hc;have hw:=w73 r.tp m o hl;rw [FA] at hw;exact aA.C0 (by kernel_rfl) (argsF:=[.fz (rows (nQ (rows Tp.l r.tp)) (dw r.tp m)) (dw r.tp m).length,.fn 74 [.fp [.i .i64 o] 0]]) ⟨jR.fzN (KJ h1 _),jR.same rfl,trivial⟩ rfl hw
 ·cases hc
/-! Insert -/
theorem Gw:ah ay Tryz.f75=some (uq 22 192 aeL 141 142):=by kernel_rfl
theorem ahk:ax ay 141 zL:=Su (by decide) Tryz.func141 (by kernel_rfl) (by kernel_rfl) (by kernel_rfl) (by kernel_rfl) (by kernel_rfl)
def MF:Ct
 |[.ns,.i .i64 i,y],h,n=>xQ h 22 y λrd m cs ok=>(uP cs).bind λx=>some (ok&&(wN h rd&&decide (i=0/\m=1)),{v:= .sg n 0 1,n:=n+1,rd,md:=j4 rd,nw:=[(n,{cells:=rows Tp.l [x],gr:=some 22})]})
 |[.sg b o q,.i .i64 i,y],h,n=>xQ h 22 y λrd m cs ok=>(uP cs).bind λx=>(V0 h 22 (.sg b o q)).bind λg=>(bc 22 uP g.2.1 g.2.2.1).bind λl=>
  some (ok&&(wN h rd&&(g.2.2.2&&(!(inl rd b)&&decide (0<=i/\i.toNat<=l.length/\m=1/\l.length<=1000000)))),{v:= .sg n 0 (l.length+1),n:=n+1,rd:=b::rd,md:=j4 (b::rd),nw:=[(n,{cells:=rows Tp.l (Go.Ab.qZ l [x] i.toNat),gr:=some 22})]})
 |_,_,_=>none
theorem s75:ax ay 75 MF:=λargs h n c E hc ht=>by
 unfold MF at hc;split at hc
 ·rename_i i y;rw [pF] at hc;simp only [av,aI,aV] at hc;obtain ⟨⟨rd,m,cs,ok⟩,hv,x,hx,hok,rfl⟩:=hc;dsimp only at hx hok;rw [ht] at hok;simp only [ak,bg] at hok;obtain ⟨rfl,hw,rfl,rfl⟩:=hok;dsimp only at hw ⊢;obtain rfl:=lf _ _ hx;exact aA.aaW (by kernel_rfl) (argsF:=[.ns,.i .i64 0,.fz (rows Tp.l [x]) 1]) ⟨jR.same rfl,jR.same rfl,by rw [show rows Tp.l [x]=x.l by simp [rows]];exact tK hv x.aj (λb h=>h),trivial⟩ (fb _ _) hw (OX mo Tryz.func75 Gw Tp.len Tp.aj [x] Nat.one_pos (by simp [az]))
 ·rename_i b o q i y;rw [pF] at hc;simp only [av,aI,aV] at hc;obtain ⟨⟨rd,m,cs,ok⟩,hv,x,hx,⟨b',q',cs',ok'⟩,hg,l,hl,hok,rfl⟩:=hc;dsimp only at hx hok;rw [ht] at hok;simp only [ak,bg,gG] at hok;obtain ⟨rfl,hw,rfl,hbr,hi0,hi,rfl,hll⟩:=hok;dsimp only at hw hl hbr ⊢;obtain ⟨rfl,rfl⟩:=acR hg;obtain rfl:=lf _ _ hx;obtain ⟨rfl,rfl⟩:=bu (f:=Tp.l) lf hl;refine aA.Uk (by kernel_rfl) hg (fb _ _) (fb _ _) (postF:=[.i .i64 i,.fz (rows Tp.l [x]) 1]) ⟨jR.same rfl,by rw [show rows Tp.l [x]=x.l by simp [rows]];exact tK hv x.aj (λb h=>h),trivial⟩ hbr (by decide) (by decide) hw (λc hc=> ?_)
  have:=ON (P:=ay) (row:=Tp.l) mo Tryz.func75 Gw ahk Tp.len (by decide) (by decide) rfl Tp.aj Tp.one l [x] i.toNat c hi hc Nat.one_pos (by grind [az,uU]) (by grind)
  grind
 ·cases hc
structure Fo where
 wt:Int
 mo:Int
 ou:Int
 st:Int
def gl (x:aW) (f:Fo):Sw×Int:=yY x.ss f.ou f.st 0 0 0 0
def Kp (r:Rm) (m s:Int) (x:aW) (f:Fo):Bool:= !ko (fw m s) r.tp&&(bZ 1 10 f.wt&&(bZ 0 ((x.ss.length:Int)-1) f.mo&&(gl x f).2==0))
def IU (r:Rm) (m s:Int) (x:aW) (f:Fo):Int:=if oL x m then 421 else if Kp r m s x f then (if (ofM r.tp m).any λt=>t.sw.ou==f.ou then 2 else if (ofM r.tp m).length<5 then 0 else 3) else 2
def wq (r:Rm) (m s:Int) (f:Fo):Int:=if bZ 0 ((r.ms.length:Int)-1) m&&bZ 0 ((r.sh.length:Int)-1) s then (match r.sh[s.toNat]? with|some x=>IU r m s x f|none=>0) else 2
def nG (m s:Int) (x:aW) (f:Fo):Tp:=⟨m,s,f.wt,f.mo,(gl x f).1⟩
def fQ (r:Rm) (m s:Int) (f:Fo):Rm:=match r.sh[s.toNat]? with|some x=>⟨r.ms,r.sh,qZ r.tp [nG m s x f] (eX (fw m s) r.tp)⟩|none=>r
def kV (r:Rm) (m s:Int) (f:Fo):Rm×Int:=if aX r then (if wq r m s f=0 then (dF (fQ r m s f) m.toNat,0) else (vr,wq r m s f)) else (vr,420)
abbrev xM (m s:Int) (f:Fo):List AV:=[.fp [.i .i64 m] 0,.fp [.i .i64 s] 0,.fp [.i .i64 f.ou] 0,.fp [.i .i64 f.st] 0,.fp [.i .i64 f.wt] 0,.fp [.i .i64 f.mo] 0]
theorem aaq (r:Rm) (m:Int) (hl:r.tp.length<=1000) (h:Hp) (n:Nat):CN [.fp r.a 0,.i .i64 m] h n=some (true,{v:=vq r m,n}):=by
 grind [CN,dH,aC,af]
theorem agx (r:Rm) (hr:r.is=true) (hg:aX r=true) (m s:Int) (f:Fo) (he:wq r m s f≠0):cz ay 67 (.fp r.a 0::xM m s f) [] 0 (some (eJ (wq r m s f))) (.bz []) [] 0:=by
 have hrb:=Rm.aj 0 r;have hl:=ek hg;cases hrg:bZ 0 ((r.ms.length:Int)-1) m&&bZ 0 ((r.sh.length:Int)-1) s
 ·have e:wq r m s f=2:=by grind [wq]
  rw [e];have hs:=iY (P:=ay) (by kernel_rfl) (by grind [ab,AV.aj,aG]) rfl (adM r hg m s hrg)
  have hk:=λh n=>tE (a0:=[.fp r.a 0,.i .i64 m,.i .i64 s]) (v0:= .bz []) (pn:=some (eJ 2)) h n;have hcx:Sound ay (cj [(68,kX _ _ _)]):=Sound.cons hs Sound.nil;generalize kX _ _ _=kk,r.a=ra at*;refine cz.dQ hcx mo Tryz.func67 AS (by simp [i67]) (aO ?_)
  dsimp only [i67];simp only [go_sem,hk,simprocAttr];exact Ends.aw rfl rfl
 have hrg':=lP.1 hrg;have hi1:=bD hrg'.1;have hi2:=bD hrg'.2;obtain ⟨x,hx⟩: ∃x,r.sh[s.toNat]? =some x:=⟨_,bj (by omega)⟩
 have hss:=hl.2.2.2.1 x (bJ hx);have hxo:x.ok=true:=by
  have h0:=hr;simp only [Rm.is,ak] at h0
  grind
 have hbl:bZ 0 18446744073709551615 x.bl=true:=by
  simp_all [aW.ok,ak]
 have e:wq r m s f=IU r m s x f:=by simp_all [wq]
 rw [e] at he ⊢;have hle:(ofM r.tp m).length<=36:=by grind [List.length_filter_le,ofM]
 have hE:IU r m s x f=if oL x m then 421 else if Kp r m s x f then (if (ofM r.tp m).any λt=>t.sw.ou==f.ou then 2 else if (ofM r.tp m).length<5 then 0 else 3) else 2:=rfl
 have hs1:=dc (P:=ay) (by kernel_rfl) (by grind [ab,AV.aj,aG]) rfl (w68 r hg m s hrg)
 have hk1:=λh n=>gC (a0:=[.fp r.a 0,.i .i64 m,.i .i64 s]) (v0:= .bz [.i .i64 (eX (fw m s) r.tp:Nat),.b (ko (fw m s) r.tp)]) h n;have hw3:=w73 r.tp m f.ou (by omega)
 rw [FA] at hw3;have hs3:=dc (P:=ay) (by kernel_rfl) (by simp [ab,AV.aj,bh,Ky,fb,aG]) rfl hw3
 have hk3:=λh n=>gC (a0:=[vq r m,.fn 74 [.fp [.i .i64 f.ou] 0]]) (v0:= .b ((ofM r.tp m).any λt=>t.sw.ou==f.ou)) h n;have hcx:Sound ay (cj [(62,gA),(68,kP [.fp r.a 0,.i .i64 m,.i .i64 s] _),(69,Cp),(70,G4),(71,iM),(72,CN),(73,kP [vq r m,.fn 74 [.fp [.i .i64 f.ou] 0]] _)]):=Sound.cons Ad (Sound.cons hs1 (Sound.cons s69 (Sound.cons s70 (Sound.cons DQ (Sound.cons s72 (Sound.cons hs3 Sound.nil))))));have hk2:=aaq r m (by omega)
 have hkb: ∀(h:Hp) n,Cp [.agg x.l,.i .i64 m] h n=some (true,{v:= .b (oL x m),n}):=λh n=>by
  grind [Cp,ku,aC,dp,aG]
 have hkn: ∀(h:Hp) n,G4 [.fz (rows aq x.ss) x.ss.length,.i .i64 f.ou,.i .i64 f.st,.agg [.i .i64 0,.i .i64 0,.i .i64 0,.i .i64 0]] h n=some (true,{v:= .bz [.agg (gl x f).1.a,.i .i64 (gl x f).2],n}):=λh n=>by
  simp only [G4,eD,aC,af (show 8*x.ss.length<=az by simp only [az];omega)]
  rfl
 have hsl:=(cv.1 hx).1;have c2:decide (0<=s/\s<(r.sh.length:Int))=true:=af (by omega)
 have hrow:List.take 4 (List.drop (s.toNat*4) (rows aW.l r.sh))=x.l:=dm aW.len hx;have g1:r.a[1]? =some (.fz (rows aW.l r.sh) r.sh.length):=rfl;have n1:IntKind.i64.wrap ((x.ss.length:Int)-1)=(x.ss.length:Int)-1:=aN (by omega) (by omega)
 have x4:x.l.length=4:=rfl;have xo:aL x.l=true:=rfl;have xd:List.take 4 (List.drop 0 x.l)=x.l:=rfl;have x1:x.l[1]? =some (.fz (rows aq x.ss) x.ss.length):=rfl;have Iu:(gl x f).1.a.length=18:=rfl;have wo:aL (gl x f).1.a=true:=rfl;have wd:List.take 18 (List.drop 0 (gl x f).1.a)=(gl x f).1.a:=rfl;have hA:Kp r m s x f=(!ko (fw m s) r.tp&&(bZ 1 10 f.wt&&(bZ 0 ((x.ss.length:Int)-1) f.mo&&(gl x f).2==0))):=rfl;have n2: ∀l:Nat,l<=36->decide ((l:Int)<5)=decide (l<5):=λl hl=>by grind
 have n3:=n2 _ hle;have hq:vq r m= .fz (rows (nQ (rows Tp.l r.tp)) (dw r.tp m)) (ofM r.tp m).length:=by rw [<-Bn]
 rw [hq] at hk2 hk3 hcx;generalize IU r m s x f=R,Kp r m s x f=A,((ofM r.tp m).any λt=>t.sw.ou==f.ou)=C,kP _ _=q1,kP _ _=q2,Cp=q3,G4=q4,CN=q5,(gl x f).1.a=WA,(gl x f).2=WE,eX (fw m s) r.tp=P,ko (fw m s) r.tp=Q,r.a=ra,rows aW.l r.sh=SL,rows (nQ (rows Tp.l r.tp)) (dw r.tp m)=PL,(ofM r.tp m).length=N,x.l=XL at*;refine cz.dQ hcx mo Tryz.func67 AS (by simp [i67]) (aO ?_)
 dsimp only [i67];cases h1:oL x m;rotate_left
 ·rw [h1,aT rfl] at hE;rw [hE];rw [h1] at hkb;simp only [go_sem,hk1,g1,c2,hrow,x4,xo,xd,hkb,gA,simprocAttr];exact Ends.aw rfl rfl
 rw [h1] at hkb;simp only [h1,ei,dP] at hE;cases h2:Q;rotate_left
 ·rw [h2,tJ,j5] at hA;rw [hA] at hE;rw [hE];rw [h2] at hk1;simp only [go_sem,hk1,g1,c2,hrow,x4,xo,xd,hkb,x1,hkn,Iu,wo,gA,simprocAttr];exact Ends.aw rfl rfl
 rw [h2] at hk1;rw [h2,kl,mP] at hA;cases h3:bZ 1 10 f.wt
 ·rw [h3,j5] at hA;rw [hA] at hE;rw [hE];simp only [go_sem,hk1,g1,c2,hrow,x4,xo,xd,hkb,x1,hkn,Iu,wo,iM,h3,gA,simprocAttr];exact Ends.aw rfl rfl
 rw [h3,mP] at hA;cases h4:bZ 0 ((x.ss.length:Int)-1) f.mo
 ·rw [h4,j5] at hA;rw [hA] at hE;rw [hE];simp only [go_sem,hk1,g1,c2,hrow,x4,xo,xd,hkb,x1,hkn,Iu,wo,iM,h3,n1,h4,gA,simprocAttr];exact Ends.aw rfl rfl
 rw [h4,mP] at hA;cases h5:WE==0
 ·rw [h5] at hA;rw [hA] at hE;rw [hE];simp only [go_sem,hk1,g1,c2,hrow,x4,xo,xd,hkb,x1,hkn,Iu,wo,iM,h3,n1,h4,h5,gA,simprocAttr];exact Ends.aw rfl rfl
 rw [h5] at hA;rw [hA] at hE;simp only [cM] at hE;cases h6:C;rotate_left
 ·rw [h6,aT rfl] at hE;rw [hE];rw [h6] at hk3;simp only [go_sem,hk1,g1,c2,hrow,x4,xo,xd,hkb,x1,hkn,Iu,wo,iM,h3,n1,h4,h5,gA,hk2,hk3,simprocAttr];exact Ends.aw rfl rfl
 rw [h6] at hk3;simp only [h6,ei,dP] at hE;by_cases h7:N<5
 ·omega
 ·rw [aY h7] at hE;rw [hE];rw [bw h7] at n3;simp only [go_sem,hk1,g1,c2,hrow,x4,xo,xd,hkb,x1,hkn,Iu,wo,iM,h3,n1,h4,h5,gA,hk2,hk3,n3,simprocAttr];exact Ends.aw rfl rfl
structure yA (r:Rm) (m s:Int) (f:Fo) (x:aW):Prop where
 rg:(bZ 0 ((r.ms.length:Int)-1) m&&bZ 0 ((r.sh.length:Int)-1) s)=true
 hx:r.sh[s.toNat]? =some x
 br:oL x m=false
 fd:ko (fw m s) r.tp=false
 wt:bZ 1 10 f.wt=true
 mo:bZ 0 ((x.ss.length:Int)-1) f.mo=true
 nw:(gl x f).2=0
 ou:((ofM r.tp m).any λt=>t.sw.ou==f.ou)=false
 ct:(ofM r.tp m).length<5
theorem Lf {r:Rm} {m s:Int} {f:Fo} (he:wq r m s f=0): ∃x,yA r m s f x:=by
 unfold wq at he;split at he
 ·rename_i h1;have hi:=bD (lP.1 h1).2;obtain ⟨x,hx⟩: ∃x,r.sh[s.toNat]? =some x:=⟨_,bj (by omega)⟩
  rw [hx] at he;dsimp only at he;unfold IU at he;split at he
  ·cases he
  rename_i h2;split at he
  ·rename_i h3;split at he
   ·cases he
   rename_i h4;split at he
   ·rename_i h5;simp only [Kp,ak,gG,ik] at h3;exact ⟨x,h1,hx,by grind,h3.1,h3.2.1,h3.2.2.1,h3.2.2.2,by grind,h5⟩
   ·cases he
  ·cases he
 ·cases he
theorem CV {r:Rm} {m s:Int} {f:Fo} {x:aW} (h:yA r m s f x):fQ r m s f=⟨r.ms,r.sh,qZ r.tp [nG m s x f] (eX (fw m s) r.tp)⟩:=by simp only [fQ,h.hx]
theorem Lw {x:aW} {f:Fo} (h:(gl x f).2=0):dv (gl x f).1=true/\(gl x f).1.l=x.ss/\(gl x f).1.wa= -1/\(gl x f).1.ou=f.ou:=by
 unfold gl yY at h ⊢
 grind
theorem xJ {r:Rm} (hg:aX r=true) {m s:Int} {f:Fo} {x:aW} (h:yA r m s f x):aX (fQ r m s f)=true:=by
 rw [CV h,xT (t:=fw m s) (u:=nG m s x f) rfl rfl];obtain ⟨w1,w2,w3,w4⟩:=Lw h.nw;have hm:=bD h.mo;refine Kw hg ?_ ?_ ?_ h.ct
 ·have h1:=lP.1 h.rg;simp only [iJ,nG,h1.1,h1.2,h.hx,h.br,h.wt,h.mo,w1,w2,w3,kl,mP];simp;omega
 ·exact (JB (t:=nG m s x f) (u:=fw m s) rfl rfl _).trans h.fd
 ·show ((ofM r.tp m).any λt=>t.sw.ou==(gl x f).1.ou)=false;rw [w4];exact h.ou
theorem w67 (r:Rm) (hr:r.is=true) (hg:aX r=true) (m:Nat) (s:Int) (f:Fo) {x:aW} (ho:yA r m s f x):
 bG ay 67 (.p 0 0::xM m s f) [(0,cP r 1),(1,bF r)] 2 (.bz []) [(0,cP (dF (fQ r m s f) m) 2),(2,bF (dF (fQ r m s f) m))] 3:=by
 have hrb:=Rm.aj 0 r;have hl:=ek hg;have hg2:=xJ hg ho;have hR:=CV ho;obtain ⟨hrg,hx,hbr,hfd,hwt,hmo,hnw,hou,hct⟩:=ho;have hrg':=lP.1 hrg;have hi1:=bD hrg'.1;have hi2:=bD hrg'.2;have hss:=hl.2.2.2.1 x (bJ hx);have hxo:x.ok=true:=by
  have h0:=hr;simp only [Rm.is,ak] at h0
  grind
 have hbl:bZ 0 18446744073709551615 x.bl=true:=by
  simp_all [aW.ok,ak]
 have hle:(ofM r.tp m).length<=36:=by omega
 have hw1:=w68 r hg m s hrg;rw [hfd] at hw1;have hs1:=dc (P:=ay) (by kernel_rfl) (by grind [ab,AV.aj,aG]) rfl hw1
 have hk1:=λh n h0 h1=>Gq (b:=1) (λh n=>gC (a0:=[.fp r.a 0,.i .i64 m,.i .i64 s]) (v0:= .bz [.i .i64 (eX (fw m s) r.tp:Nat),.b false]) h n) rfl h n h0 h1;have hk2:=λh n=>AM r m h n;have hk3:=λh n h1=>P2 r m f.ou h n h1;rw [hou] at hk3;have hP:=A5 (fw m s) r.tp;obtain ⟨y,hy⟩: ∃y,r.ms[m]? =some y:=⟨_,bj (by omega)⟩
 have hy2:(fQ r m s f).ms[m]? =some y:=by grind
 have hc:=YW (fQ r m s f) m 5 (by decide) hg2 y hy2
 have hkc:=AJ (fQ r m s f) m 5;have hcx:Sound ay (cj [(62,gA),(68,cu (kP [.fp r.a 0,.i .i64 m,.i .i64 s] _)),(69,Cp),(70,G4),(71,iM),(72,we r m),(73,Lt r m f.ou),(75,MF),(76,Bb (fQ r m s f) m 5)]):=Sound.cons Ad (Sound.cons hs1.nv (Sound.cons s69 (Sound.cons s70 (Sound.cons DQ (Sound.cons (Up r m (by omega)) (Sound.cons (aic r m f.ou (by omega)) (Sound.cons s75 (Sound.cons hc Sound.nil))))))))
 have hkb: ∀(h:Hp) n,Cp [.agg x.l,.i .i64 m] h n=some (true,{v:= .b (oL x m),n}):=λh n=>by
  grind [Cp,ku,aC,dp,aG]
 rw [hbr] at hkb;have hkn: ∀(h:Hp) n,G4 [.fz (rows aq x.ss) x.ss.length,.i .i64 f.ou,.i .i64 f.st,.agg [.i .i64 0,.i .i64 0,.i .i64 0,.i .i64 0]] h n=some (true,{v:= .bz [.agg (gl x f).1.a,.i .i64 0],n}):=λh n=>by
  simp only [G4,eD,aC,af (show 8*x.ss.length<=az by simp only [az];omega)]
  have e:yY x.ss f.ou f.st 0 0 0 0=((gl x f).1,0):=Prod.ext rfl hnw;rw [e];rfl
 have hsl:=(cv.1 hx).1;have c2:decide (0<=s/\s<(r.sh.length:Int))=true:=af (by omega)
 have hrow:List.take 4 (List.drop (s.toNat*4) (rows aW.l r.sh))=x.l:=dm aW.len hx;have n1:IntKind.i64.wrap ((x.ss.length:Int)-1)=(x.ss.length:Int)-1:=aN (by omega) (by omega)
 have x4:x.l.length=4:=rfl;have xo:aL x.l=true:=rfl;have xd:List.take 4 (List.drop 0 x.l)=x.l:=rfl;have x1:x.l[1]? =some (.fz (rows aq x.ss) x.ss.length):=rfl;have Iu:(gl x f).1.a.length=18:=rfl;have wo:aL (gl x f).1.a=true:=rfl;have wd:List.take 18 (List.drop 0 (gl x f).1.a)=(gl x f).1.a:=rfl;have n3:decide (((ofM r.tp m).length:Int)<5)=true:=af (by omega)
 have hq:kO r m= .fz (rows rV (dw r.tp m)) (ofM r.tp m).length:=by rw [<-Bn]
 rw [hq] at hk2 hk3;have hT:(nG m s x f).l=[.i .i64 m,.i .i64 s,.i .i64 f.wt,.i .i64 f.mo]++(gl x f).1.a:=rfl;have hki: ∀(h:Hp) n,aa h 1=some (bF r)->aa h 4=some {cells:=(nG m s x f).l}->MF [.sg 1 0 r.tp.length,.i .i64 (eX (fw m s) r.tp:Nat),.sl 4 0 1 1] h n=some (true,{v:= .sg n 0 (r.tp.length+1),n:=n+1,rd:=[1,4],md:=[(1,none),(4,none)],nw:=[(n,bF (fQ r m s f))]}):=λh n h1 h4=>by
  have zR:(rows Tp.l r.tp).length=r.tp.length*22:=aU Tp.len;have e:List.take (r.tp.length*22) (rows Tp.l r.tp)=rows Tp.l r.tp:=by grind
  have hlT:(nG m s x f).l.length=22:=rfl;have eT:List.take 22 (nG m s x f).l=(nG m s x f).l:=rfl;rw [hR];generalize nG m s x f=T at*;simp [MF,fv,IJ,h1,h4,eo,aD,e,zR,F1,wN,j4,hlT,eT,uH,inl,bO];omega
 have e1:cP (fQ r m s f) 5={cells:=[.fz (rows Mb.l r.ms) r.ms.length,.fz (rows aW.l r.sh) r.sh.length,.sg 5 0 (r.tp.length+1)]}:=by
  have hln:(qZ r.tp [nG m s x f] (eX (fw m s) r.tp)).length=r.tp.length+1:=by rw [(xP _ _ _).length_eq];rfl
  grind
 rw [e1] at hkc;have mB:=λj=>fT j (dF (fQ r m s f) m).ms;have sB:=λj=>cG j (dF (fQ r m s f) m).sh;have tB:=λj=>fb j (dF (fQ r m s f) m).tp;have mR:=λg=>jI g (dF (fQ r m s f) m).ms;have sR:=λg=>dT g (dF (fQ r m s f) m).sh;have tR:=λg=>jC g (dF (fQ r m s f) m).tp;generalize cu (kP _ _)=q1,we r m=q2,Lt r m f.ou=q3,Cp=q4,G4=q5,MF=q6,Bb (fQ r m s f) m 5=q7,dF (fQ r m s f) m=R2 at*;rw [hT] at hki;generalize (gl x f).1.a=WA,eX (fw m s) r.tp=P,x.l=XL,rows rV (dw r.tp m)=PL,(ofM r.tp m).length=N,bF (fQ r m s f)=LT at*;refine ew hcx Tryz.func67 AS ?_
 dsimp only [i67];simp only [go_sem,hk1,c2,hrow,x4,xo,xd,hkb,x1,hkn,Iu,wo,wd,iM,hwt,n1,hmo,gA,hk2,hk3,n3,hki,hkc,simprocAttr];exact Ends.R [(2,5)] (by decide) (by decide) rfl rfl (by simp_all [iW,aa,rn,bp.aQ,aS,AV.aQ,ab,AV.aj,eu])
abbrev BK (r:Rm):bp:={cells:=[.fz (rows Mb.l r.ms) r.ms.length,.fz (rows aW.l r.sh) r.sh.length,.ns]}
theorem af4 (r:Rm) (m:Int):bG ay 72 [.p 0 0,.i .i64 m] [(0,BK r)] 1 .ns [(0,BK r)] 1:=by
 have mB:=λj=>fT j r.ms;have sB:=λj=>cG j r.sh;have mR:=λg=>jI g r.ms;have sR:=λg=>dT g r.sh;refine ew (cx:=cj []) Sound.nil Tryz.func72 D8 ?_
 dsimp only [i72];simp only [go_sem,simprocAttr];refine Loop.rounds (F:=⟨ay,cj [],[14,26],39,1⟩) 1 Sound.nil mo ?_;simp only [go_sem,simprocAttr];exact Ends.R [] (by decide) (by decide) rfl rfl (by simp_all [iW,aa,rn,bp.aQ,aS,AV.aQ,ab,AV.aj])
noncomputable def OR (r:Rm) (m:Int):Ct:=WK [0] [BK r] [.p 0 0,.i .i64 m] .ns
theorem afT (r:Rm) (m:Int):ax ay 72 (OR r m):=
 qE (by kernel_rfl) (by decide) rfl (af4 r m) (by simp [l5,iP,dD,ab,AV.aj,fT,cG,aP])
theorem Nt (r:Rm) (m:Int) (h:Hp) (n:Nat) (h0:aa h 0=some (BK r)):OR r m [.p 0 0,.i .i64 m] h n=some (true,{v:= .ns,n,rd:=[0]}):=by
 refine Aj (h:=h) (n:=n) rfl ⟨⟨?_,?_⟩,trivial⟩ rfl;all_goals grind [bp.aQ,aS,AV.aQ,jI,dT,ab,AV.aj,fT,cG]
theorem Rs {kT:Ct} {v:AV} {r:Rm} {m s:Int} (ht:r.tp=[]) (hat: ∀h n,kT [.fp r.a 0,.i .i64 m,.i .i64 s] h n=some (true,{v,n})) (hp:v.pl=true) (h:Hp) (n:Nat) (h0:aa h 0=some (BK r)):cu kT [.p 0 0,.i .i64 m,.i .i64 s] h n=some (true,{v,n,rd:=[0]}):=by
 have hf:([AV.fz (rows Mb.l r.ms) r.ms.length,.fz (rows aW.l r.sh) r.sh.length,.fz [] 0]:List AV)=r.a:=by simp only [Rm.a,ht];rfl
 exact jM (by simp_all [bn,bI,jH,kN,BX,ef,fT,cG,eo,aC,dh]) (hat [] 0) hp
theorem ahm (r:Rm) (hr:r.is=true) (hg:aX r=true) (m:Nat) (s:Int) (f:Fo) {x:aW} (ho:yA r m s f x) (ht:r.tp=[]):
 bG ay 67 (.p 0 0::xM m s f) [(0,BK r)] 1 (.bz []) [(0,cP (dF (fQ r m s f) m) 1),(1,bF (dF (fQ r m s f) m))] 2:=by
 have hrb:=Rm.aj 0 r;have hl:=ek hg;have hg2:=xJ hg ho;have hR:=CV ho;obtain ⟨hrg,hx,hbr,hfd,hwt,hmo,hnw,hou,hct⟩:=ho;have hrg':=lP.1 hrg;have hi1:=bD hrg'.1;have hi2:=bD hrg'.2;have hss:=hl.2.2.2.1 x (bJ hx);have hxo:x.ok=true:=by
  have h0:=hr;simp only [Rm.is,ak] at h0
  grind
 have hbl:bZ 0 18446744073709551615 x.bl=true:=by
  simp_all [aW.ok,ak]
 have hle:(ofM r.tp m).length<=36:=by omega
 have hw1:=w68 r hg m s hrg;rw [hfd] at hw1;have hs1:=dc (P:=ay) (by kernel_rfl) (by grind [ab,AV.aj,aG]) rfl hw1
 have hk1:=λh n h0=>Rs ht (λh n=>gC (a0:=[.fp r.a 0,.i .i64 m,.i .i64 s]) (v0:= .bz [.i .i64 (eX (fw m s) r.tp:Nat),.b false]) h n) rfl h n h0;have hk2:=λh n=>Nt r m h n;have hw3:=w73 [] m f.ou (by decide)
 have hs3:=dc (P:=ay) (a0:=[.fz [] 0,.fn 74 [.fp [.i .i64 f.ou] 0]]) (v0:= .b false) (by kernel_rfl) rfl rfl hw3
 have hk3: ∀(h:Hp) n,cu (kP [.fz [] 0,.fn 74 [.fp [.i .i64 f.ou] 0]] (.b false)) [.ns,.fn 74 [.fp [.i .i64 f.ou] 0]] h n=some (true,{v:= .b false,n}):=λh n=>
  jM (by rfl) (gC [] 0) rfl
 have hP:=A5 (fw m s) r.tp;obtain ⟨y,hy⟩: ∃y,r.ms[m]? =some y:=⟨_,bj (by omega)⟩
 have hy2:(fQ r m s f).ms[m]? =some y:=by grind
 have hc:=YW (fQ r m s f) m 4 (by decide) hg2 y hy2
 have hkc:=AJ (fQ r m s f) m 4;have hcx:Sound ay (cj [(62,gA),(68,cu (kP [.fp r.a 0,.i .i64 m,.i .i64 s] _)),(69,Cp),(70,G4),(71,iM),(72,OR r m),(73,cu (kP [.fz [] 0,.fn 74 [.fp [.i .i64 f.ou] 0]] (.b false))),(75,MF),(76,Bb (fQ r m s f) m 4)]):=Sound.cons Ad (Sound.cons hs1.nv (Sound.cons s69 (Sound.cons s70 (Sound.cons DQ (Sound.cons (afT r m) (Sound.cons hs3.nv (Sound.cons s75 (Sound.cons hc Sound.nil))))))));have hkb: ∀(h:Hp) n,Cp [.agg x.l,.i .i64 m] h n=some (true,{v:= .b (oL x m),n}):=λh n=>by
  grind [Cp,ku,aC,dp,aG]
 rw [hbr] at hkb;have hkn: ∀(h:Hp) n,G4 [.fz (rows aq x.ss) x.ss.length,.i .i64 f.ou,.i .i64 f.st,.agg [.i .i64 0,.i .i64 0,.i .i64 0,.i .i64 0]] h n=some (true,{v:= .bz [.agg (gl x f).1.a,.i .i64 0],n}):=λh n=>by
  simp only [G4,eD,aC,af (show 8*x.ss.length<=az by simp only [az];omega)]
  have e:yY x.ss f.ou f.st 0 0 0 0=((gl x f).1,0):=Prod.ext rfl hnw;rw [e];rfl
 have hsl:=(cv.1 hx).1;have c2:decide (0<=s/\s<(r.sh.length:Int))=true:=af (by omega)
 have hrow:List.take 4 (List.drop (s.toNat*4) (rows aW.l r.sh))=x.l:=dm aW.len hx;have n1:IntKind.i64.wrap ((x.ss.length:Int)-1)=(x.ss.length:Int)-1:=aN (by omega) (by omega)
 have x4:x.l.length=4:=rfl;have xo:aL x.l=true:=rfl;have xd:List.take 4 (List.drop 0 x.l)=x.l:=rfl;have x1:x.l[1]? =some (.fz (rows aq x.ss) x.ss.length):=rfl;have Iu:(gl x f).1.a.length=18:=rfl;have wo:aL (gl x f).1.a=true:=rfl;have wd:List.take 18 (List.drop 0 (gl x f).1.a)=(gl x f).1.a:=rfl;have hP0:eX (fw m s) r.tp=0:=by rw [ht];rfl
 have hT:(nG m s x f).l=[.i .i64 m,.i .i64 s,.i .i64 f.wt,.i .i64 f.mo]++(gl x f).1.a:=rfl;have hki: ∀(h:Hp) n,aa h 3=some {cells:=(nG m s x f).l}->MF [.ns,.i .i64 (eX (fw m s) r.tp:Nat),.sl 3 0 1 1] h n=some (true,{v:= .sg n 0 1,n:=n+1,rd:=[3],md:=[(3,none)],nw:=[(n,bF (fQ r m s f))]}):=λh n h4=>by
  have hlT:(nG m s x f).l.length=22:=rfl;have eT:List.take 22 (nG m s x f).l=(nG m s x f).l:=rfl;rw [hR,hP0,ht];generalize nG m s x f=T at*;have e0:qZ [] [T] 0=[T]:=rfl;simp [MF,fv,h4,eo,aD,wN,j4,hlT,eT,uH,e0]
 have e1:cP (fQ r m s f) 4={cells:=[.fz (rows Mb.l r.ms) r.ms.length,.fz (rows aW.l r.sh) r.sh.length,.sg 4 0 1]}:=by
  simp_all [qZ,nG,eX,fw,cP]
 rw [e1] at hkc;have mB:=λj=>fT j (dF (fQ r m s f) m).ms;have sB:=λj=>cG j (dF (fQ r m s f) m).sh;have tB:=λj=>fb j (dF (fQ r m s f) m).tp;have mR:=λg=>jI g (dF (fQ r m s f) m).ms;have sR:=λg=>dT g (dF (fQ r m s f) m).sh;have tR:=λg=>jC g (dF (fQ r m s f) m).tp;generalize cu (kP _ (.b false))=q3,cu (kP _ _)=q1,OR r m=q2,Cp=q4,G4=q5,MF=q6,Bb (fQ r m s f) m 4=q7,dF (fQ r m s f) m=R2 at*;rw [hT] at hki;generalize (gl x f).1.a=WA,eX (fw m s) r.tp=P,x.l=XL,bF (fQ r m s f)=LT at*;refine ew hcx Tryz.func67 AS ?_
 dsimp only [i67];simp only [go_sem,hk1,c2,hrow,x4,xo,xd,hkb,x1,hkn,Iu,wo,wd,iM,hwt,n1,hmo,gA,hk2,hk3,hki,hkc,simprocAttr];exact Ends.R [(1,4)] (by decide) (by decide) rfl rfl (by simp_all [iW,aa,rn,bp.aQ,aS,AV.aQ,ab,AV.aj,eu])
theorem aah {r:Rm} (ht:r.tp=[]):fS r false false true 1=[(1,BK r)]:=by
 unfold fS nh mV mH sV tV sH tH;rw [ht];rfl
theorem aem (r:Rm) (hr:r.is=true) (hg:aX r=true) (m:Nat) (s:Int) (f:Fo) {x:aW} (ho:yA r m s f x):bG ay 135 [.fp r.a 0,.fp [.fn 67 (xM m s f)] 0] [] 0 (.agg (dF (fQ r m s f) m).a) [] 0:=by
 by_cases ht:r.tp=[]
 ·have hk:kH [1] [BK r] (.p 0 0::xM m s f) (.bz []) [(0,cP (dF (fQ r m s f) m) 1),(1,bF (dF (fQ r m s f) m))] 2 none (.p 1 0::xM m s f) (ki r false false true) 5=_:=ej rfl ⟨⟨?_,?_⟩,trivial⟩ rfl
  ·refine FW (b:=5) hr hg false false true (cK (R:=[1]) (ks:=[BK r]) (by kernel_rfl) (by decide) rfl (ahm r hr hg m s f ho ht) (by decide) (by simp [l5,iP,aa,dD,ab,AV.aj,fT,cG,fb,aP,eu])) (by decide) (by decide) hk rfl ?_ ?_ ?_<;>
    (rw [ki,aah ht];simp [bV.fg,nR,fL,bp.aQ,aS,AV.aQ,jA,nth,aa,jI,dT,jC,ja,iH,oH,aP,eu])
  ·rw [ki,aah ht];simp [aa,bp.aQ,aS,AV.aQ,nth,jI,dT,eu]
  ·simp [ab,AV.aj,fT,cG,aP]
 ·exact T3 hr hg ht (by decide) rfl (by kernel_rfl) (.inr ⟨rfl,rfl⟩) (w67 r hr hg m s f ho)
theorem ahv (r:Rm) (hr:r.is=true) (m s:Int) (f:Fo):bG ay 59 [.agg r.a,.fn 67 (xM m s f)] [] 0 (jS (kV r m s f)) [] 0:=by
 have hn:=λh g=>DP (l:=[m,s,f.ou,f.st,f.wt,f.mo]) h g;cases hg:aX r
 ·have e:kV r m s f=(vr,420):=by simp only [kV,hg];rfl
  rw [e];exact L4 r hr hg 67 _ hn rfl
 ·by_cases he:wq r m s f=0
  ·have e:kV r m s f=(dF (fQ r m s f) m.toNat,0):=by simp only [kV,hg,he,cM]
   obtain ⟨x,ho⟩:=Lf he;have hi:=bD (lP.1 ho.rg).1;have hm:((m.toNat:Nat):Int)=m:=by omega
   rw [e];refine BE r 67 _ hn rfl _ (λh=>absurd rfl h) (λ_=> ?_) (λh=>absurd rfl h);have:=aem r hr hg m.toNat s f (x:=x) (by rw [hm];exact ho)
   rw [hm] at this;exact this
  ·have e:kV r m s f=(vr,wq r m s f):=by simp only [kV,hg,cM,aY he]
   rw [e];refine BE r 67 _ hn rfl _ (λ_=>rfl) (λh=>absurd h he) (λ_=> ?_);exact Jq hr hg (by decide) rfl (by kernel_rfl) (agx r hr hg m s f he)
theorem w14 (r:Rm) (hr:r.is=true) (m s:Int) (f:Fo):bG ay 14 [.agg r.a,.i .i64 m,.i .i64 s,.i .i64 f.wt,.i .i64 f.mo,.i .i64 f.ou,.i .i64 f.st] [] 0 (jS (kV r m s f)) [] 0:=by
 have hb:=iF (kV r m s f);have hrb:=Rm.aj 0 r;have hst:=dc (by kernel_rfl) (by simp only [ab,AV.aj,hrb,aG]) hb (ahv r hr m s f)
 have hat:=λh n=>gC (a0:=[.agg r.a,.fn 67 [.fp [.i .i64 m] 0,.fp [.i .i64 s] 0,.fp [.i .i64 f.ou] 0,.fp [.i .i64 f.st] 0,.fp [.i .i64 f.wt] 0,.fp [.i .i64 f.mo] 0]]) (v0:=jS (kV r m s f)) h n;generalize kP _ _=kT at hst hat;have hv:=λh f=>mY h f r;have hk: ∀(h:Hp) n,aa h 1=some {cells:=[.i .i64 m]}->aa h 2=some {cells:=[.i .i64 s]}->aa h 3=some {cells:=[.i .i64 f.wt]}->aa h 4=some {cells:=[.i .i64 f.mo]}->aa h 5=some {cells:=[.i .i64 f.ou]}->aa h 6=some {cells:=[.i .i64 f.st]}->ff kT [.agg r.a,.fn 67 [.p 1 0,.p 2 0,.p 5 0,.p 6 0,.p 3 0,.p 4 0]] h n=some (true,{v:=jS (kV r m s f),n,rd:=[1,2,5,6,3,4],md:=[(1,none),(2,none),(5,none),(6,none),(3,none),(4,none)]}):=λh n h1 h2 h3 h4 h5 h6=>by
  simp only [ff,bn,bI,lj,jH,kN,kC,hv,h1,h2,h3,h4,h5,h6,aC,eo,hat,hb,ez,List.nil_append,dh];simp [bV.plain,wN,h1,h2,h3,h4,h5,h6,j4,eu]
 have hcx:Sound ay (cj [(59,ff kT)]):=Sound.cons hst.ng Sound.nil;have a3:r.a.length=3:=rfl;generalize hR:kV r m s f=R at*;obtain ⟨R,e⟩:=R;have a0:R.a.length=3:=rfl;have ao:aL R.a=true:=rfl;have ad:List.take 3 (List.drop 0 R.a)=R.a:=rfl;have ad2:List.take 3 (List.drop 0 r.a)=r.a:=rfl;have hbR:=Rm.aj 0 R;simp only [jS] at*;generalize R.a=RA at*;generalize r.a=ra at*;refine ew hcx Tryz.func14 Ut ?_
 dsimp only [i14];simp only [go_sem,hk,a3,a0,ao,ad,ad2,simprocAttr];exact Ends.aw (by simp only [AV.aj,ab,hbR,aG]) rfl
def BU:Ct
 |[.agg c,.i .i64 m,.i .i64 s,.i .i64 w,.i .i64 o,.i .i64 ou,.i .i64 st],_,n=>(qX c).bind λr=>some (r.is,{v:=jS (kV r m s ⟨w,o,ou,st⟩),n})
 |_,_,_=>none
theorem s14:ax ay 14 BU:=λargs h n c E hc ht=>by
 unfold BU at hc;split at hc
 ·simp only [av,aI,aV] at hc;obtain ⟨r,hr,rfl,rfl⟩:=hc;rw [dW hr];exact aA.pure (by kernel_rfl) (by simp only [ab,AV.aj,Rm.aj,aG]) (iF _) (w14 r ht _ _ ⟨_,_,_,_⟩) _ _
 ·cases hc
theorem Oe {g0 g1:Nat} (hne:g0≠g1) (a b:List AV):iZ [(1,{cells:=a,gid:=some g1}),(0,{cells:=b,gid:=some g0})] g0=some (.p 0 0)/\iZ [(1,{cells:=a,gid:=some g1}),(0,{cells:=b,gid:=some g0})] g1=some (.p 1 0):=by
 have b1:g1.beq g0=false:=by
  grind [absurd,ee]
 simp_all [Nat.beq,iZ,Ae,aa]
theorem w83 {kx:Ct} (hx:ax ay 84 kx) (caps:List AV) (hcaps:ab 0 caps=true) (L:List AV) (m:Nat) (hL:ab 0 L=true) (e:Int) (hz:e≠0->L=[]/\m=0)
 (hv:e=0-> ∀(h:Hp) n,kx caps h n=some (true,{v:= .fz L m,n}))
 (hp:e≠0-> ∀(h:Hp) n,kx caps h n=some (true,{v:= .bz [],n,pn:=some (eJ e)})):bG ay 83 [.fn 84 caps] [] 0 (.bz [.fz L m,.i .i64 e]) [] 0:=by
 have hcx:Sound ay (cj [(84,kx)]):=Sound.cons hx Sound.nil;have hcb: ∀j,ab j caps=true:=λj=>au _ hcaps;refine cz.oQ (pn:=none) AZ.Hm hcx mo Tryz.func83 Zg (by simp [i83]) (pre:=acn) (ops:=[oo 4 (.N7 151 [.t 2,.t 3])]) rfl (by kernel_rfl) Tryz.func151 Pk rfl ?_
 dsimp only [i83];simp only [go_sem,ve,simprocAttr];refine jF (caps:=[.p 0 0,.p 1 0]) (bs:=[0,1]) rfl rfl (by decide) (λGs h1 h2=> ?_)
 obtain ⟨g0,g1,rfl⟩: ∃a b,Gs=[a,b]:=by
  match Gs,h1 with
  |[a,b],_=>exact ⟨a,b,rfl⟩
 refine ⟨by simp [i151],?_⟩
 have hne:g0≠g1:=by grind
 have hgl0:=λa b=>(Oe hne a b).1;have hgl1:=λa b=>(Oe hne a b).2;dsimp only [nZ,aa] at*;by_cases he:e=0
 ·subst he;have hk:=hv rfl;simp only [go_sem,hk,iH,hgl0,hgl1,simprocAttr];dsimp only [i151,eJ];simp only [go_sem,simprocAttr]
  grind [aZ.ends,Ends.aw,AV.aj,ab,aG]
 ·have hk:=hp he;obtain ⟨rfl,rfl⟩:=hz he;simp only [go_sem,hk,iH,hgl0,hgl1,simprocAttr];dsimp only [i151,eJ];simp only [go_sem,iI,simprocAttr];refine aZ.wu (l:=[]) (v':= .bz [.fz [] 0,.i .i64 e]) (bW.bz ⟨bW.hit,bW.refl,trivial⟩) ?_;exact aZ.ends (Ends.aw rfl rfl)
def mN (r:Rm) (m:Int):Int:=if aX r then (if bZ 0 ((r.ms.length:Int)-1) m then 0 else 2) else 420
def mE (r:Rm) (m:Int):List Int:=if mN r m=0 then gu r m.toNat else []
abbrev pA (r:Rm) (m:Int):List AV:=[.fp r.a 0,.fp [.i .i64 m] 0]
theorem Bp {r:Rm} (hr:r.is=true) (hg:aX r=false) (h:Hp) (n:Nat):fj false false false [.agg r.a] h n=some (true,{v:= .bz [],n,pn:=some (eJ 420)}):=by
 grind [fj,dH,aC]
theorem sX {r:Rm} (hr:r.is=true) (hg:aX r=true) (h:Hp) (n:Nat):nE [.agg r.a] h n=some (true,{v:= .fp r.a 0,n}):=by
 grind [nE,dH,aC,aG]
theorem aif (r:Rm) (hr:r.is=true) (m:Int) (he:mN r m≠0):cz ay 84 (pA r m) [] 0 (some (eJ (mN r m))) (.bz []) [] 0:=by
 have a3:r.a.length=3:=rfl;have ad:List.take 3 (List.drop 0 r.a)=r.a:=rfl;cases hg:aX r
 ·have e:mN r m=420:=by grind [mN]
  rw [e];have hk:=Bp hr hg;have hcx:Sound ay (cj [(85,fj false false false)]):=Sound.cons (Es false false false) Sound.nil;generalize fj false false false=kb at*;dsimp only [pA];generalize r.a=ra at*;refine cz.dQ hcx mo Tryz.func84 A3 (by simp [i84]) (aO ?_)
  dsimp only [i84];simp only [go_sem,hk,a3,ad,simprocAttr];exact Ends.aw rfl rfl
 ·have hi:bZ 0 ((r.ms.length:Int)-1) m=false:=by
   simp_all [bZ,mN]
  have e:mN r m=2:=by grind [mN]
  rw [e];have hk:=sX hr hg;have hcx:Sound ay (cj [(62,gA),(71,iM),(85,nE)]):=Sound.cons Ad (Sound.cons DQ (Sound.cons DE Sound.nil));have n1:IntKind.i64.wrap ((r.ms.length:Int)-1)=(r.ms.length:Int)-1:=aN (by omega) (by grind [ek])
  have g0:r.a[0]? =some (.fz (rows Mb.l r.ms) r.ms.length):=rfl;generalize nE=kb at*;dsimp only [pA];generalize r.a=ra at*;refine cz.dQ hcx mo Tryz.func84 A3 (by simp [i84]) (aO ?_)
  dsimp only [i84];simp only [go_sem,hk,a3,ad,g0,n1,iM,hi,gA,simprocAttr];exact Ends.aw rfl rfl
theorem afS (r:Rm) (hr:r.is=true) (hg:aX r=true) (m:Nat) (hm:m<r.ms.length) (h0:dw r.tp m=[]):bG ay 84 (pA r m) [] 0 (.fz [] 0) [] 0:=by
 have hl:=ek hg;obtain ⟨x,hx⟩: ∃x,r.ms[m]? =some x:=⟨_,bj hm⟩;have hs:=dc (P:=ay) (by kernel_rfl) (by simp only [ab,AV.aj,Rm.aj,aG]) rfl (adG r m x hx (by omega) (qg hg hm) (qw hg hx) h0)
 have hk2:=λh n=>gC (a0:=[.fp r.a 0,.i .i64 m]) (v0:= .ze) h n;have hk:=sX hr hg;have hcx:Sound ay (cj [(62,gA),(71,iM),(85,nE),(86,kP _ _)]):=Sound.cons Ad (Sound.cons DQ (Sound.cons DE (Sound.cons hs Sound.nil)));have n1:IntKind.i64.wrap ((r.ms.length:Int)-1)=(r.ms.length:Int)-1:=aN (by omega) (by omega)
 have hi:bZ 0 ((r.ms.length:Int)-1) (m:Int)=true:=dp (by omega)
 have g0:r.a[0]? =some (.fz (rows Mb.l r.ms) r.ms.length):=rfl;have a3:r.a.length=3:=rfl;have ad:List.take 3 (List.drop 0 r.a)=r.a:=rfl;generalize kP _ _=kc at*;generalize nE=kb at*;dsimp only [pA];generalize r.a=ra at*;refine bG.dy hcx mo Tryz.func84 A3 (by simp [i84]) (aO ?_)
 dsimp only [i84];simp only [go_sem,hk,a3,ad,g0,n1,iM,hi,gA,hk2,simprocAttr];refine aZ.agA (l:=[]) (v':= .fz [] 0) bW.hit ?_;exact aZ.ends (Ends.aw rfl rfl)
noncomputable def Rj (r:Rm) (m:Nat) (c:List Int) (a b:Nat):Ct:=WK [a,b] [cP r 1,bF r] [.p 0 0,.i .i64 m] (.fz (rows aq c) c.length)
theorem ahA (r:Rm) (m:Nat) (x:Mb) (hx:r.ms[m]? =some x) (hl:r.tp.length<=1000) (hos:ia (cf r m)=true) (hb:0<=x.es/\x.es<=1073741824) (h0:0<(dw r.tp m).length) {a b:Nat} (hab:a≠b):ax ay 86 (Rj r m (gu r m) a b):=by
 have h:=ace r m x hx hl hos hb h0;rw [xy _ hb.1] at h;have e:s7 (cf r m) x.es=gu r m:=by grind [gu,Option.elim]
 rw [e] at h;exact qE (by kernel_rfl) (by grind [bO,nodup,inl]) rfl h (by simp [l5,iP,dD,ab,AV.aj,fT,cG,fb,aP])
theorem Ql (r:Rm) (m:Nat) (c:List Int) (a b:Nat) (h:Hp) (n:Nat) (h0:aa h a=some (cP r b)) (h1:aa h b=some (bF r)):
 Rj r m c a b [.p a 0,.i .i64 m] h n=some (true,{v:= .fz (rows aq c) c.length,n,rd:=[a,b]}):=by
 refine Aj (h:=h) (n:=n) rfl ⟨⟨?_,?_⟩,⟨?_,?_⟩,trivial⟩ ?_;all_goals simp_all [bp.aQ,aS,AV.aQ,nth,jI,dT,ab,AV.aj,fT,cG,aP,jC,fb,iR]
theorem ahX (r:Rm) (hr:r.is=true) (hg:aX r=true) (m:Nat) (hm:m<r.ms.length) (h0:0<(dw r.tp m).length):bG ay 84 (pA r m) [] 0 (.fz (rows aq (gu r m)) (gu r m).length) [] 0:=by
 have hl:=ek hg;obtain ⟨x,hx⟩: ∃x,r.ms[m]? =some x:=⟨_,bj hm⟩;have hs:=ahA r m x hx (by omega) (qg hg hm) (qw hg hx) h0 (a:=0) (b:=3) (by decide)
 have hk2:=λh n=>Ql r m (gu r m) 0 3 h n;have ht:r.tp≠[]:=λh=>by rw [h] at h0;exact Nat.lt_irrefl 0 h0
 have hk: ∀(h:Hp),fj false false true [.agg r.a] h 0=some (true,{v:= .p 0 0,n:=4,nw:=[(0,cP r 3),(3,bF r)]}):=λh=>by
  rw [AY hr hg];have e:=pW (f:=Tp.l) (z:=22) (l:=r.tp) (sO.2 ht);unfold fS nh mV mH sV tV sH tH;rw [e];rfl
 have hcx:Sound ay (cj [(62,gA),(71,iM),(85,fj false false true),(86,Rj r m (gu r m) 0 3)]):=Sound.cons Ad (Sound.cons DQ (Sound.cons (Es _ _ _) (Sound.cons hs Sound.nil)));have n1:IntKind.i64.wrap ((r.ms.length:Int)-1)=(r.ms.length:Int)-1:=aN (by omega) (by omega)
 have hi:bZ 0 ((r.ms.length:Int)-1) (m:Int)=true:=dp (by omega)
 have a3:r.a.length=3:=rfl;have ad:List.take 3 (List.drop 0 r.a)=r.a:=rfl;have cB:=iB 0 (gu r m);generalize Rj r m (gu r m) 0 3=kc at*;generalize fj false false true=kb at*;dsimp only [pA];generalize r.a=ra at*;refine ew hcx Tryz.func84 A3 ?_
 dsimp only [i84];simp only [go_sem,hk,a3,ad,n1,iM,hi,gA,hk2,simprocAttr]
 grind [Ends.aw,AV.aj]
theorem XQ {r:Rm} {m:Nat} (h0:dw r.tp m=[]):gu r m=[]:=by
 grind [cf,gu,H4]
theorem w84 (r:Rm) (hr:r.is=true) (m:Int) (he:mN r m=0):bG ay 84 (pA r m) [] 0 (.fz (rows aq (mE r m)) (mE r m).length) [] 0:=by
 have e:mE r m=gu r m.toNat:=by simp only [mE,he,cM]
 unfold mN at he;split at he
 ·rename_i hg;split at he
  ·rename_i hi;have hi:=bD hi;have hm:((m.toNat:Nat):Int)=m:=by omega
   rw [e];by_cases h0:dw r.tp m.toNat=[]
   ·have:=afS r hr hg m.toNat (by omega) h0
    rw [hm] at this;rw [XQ h0];exact this
   grind [ahX,sO]
  ·cases he
 ·cases he
def rF (c:List Int×Int):AV:= .bz [.fz (rows aq c.1) c.1.length,.i .i64 c.2]
theorem uK (c:List Int×Int):(rF c).aj 0=true:=by simp only [rF,AV.aj,ab,iB,aG]
theorem w20 (r:Rm) (hr:r.is=true) (m:Int):bG ay 20 [.agg r.a,.i .i64 m] [] 0 (rF (mE r m,mN r m)) [] 0:=by
 have hrb:=Rm.aj 0 r;have hcb:ab 0 (pA r m)=true:=by grind [ab,AV.aj,aG]
 have hw:bG ay 83 [.fn 84 (pA r m)] [] 0 (rF (mE r m,mN r m)) [] 0:=by
  by_cases he:mN r m=0
  ·exact w83 (iY (pn:=none) (by kernel_rfl) hcb (by simp only [AV.aj,iB]) (w84 r hr m he)) _ hcb _ _ (iB 0 _) _ (λh=>absurd he h) (λ_ h n=>tE h n) (λh=>absurd he h)
  ·have e:mE r m=[]:=aY he;rw [e];exact w83 (iY (by kernel_rfl) hcb rfl (aif r hr m he)) _ hcb [] 0 rfl _ (λ_=>⟨rfl,rfl⟩) (λh=>absurd h he) (λ_ h n=>tE h n)
 have hst:=dc (by kernel_rfl) (by grind [ab,AV.aj,aG]) (uK (mE r m,mN r m)) hw
 have hat:=λh n=>gC (a0:=[.fn 84 (pA r m)]) (v0:=rF (mE r m,mN r m)) h n;generalize kP _ _=kT at hst hat;have hv:=λh f=>mY h f r;have hb:=uK (mE r m,mN r m);have hk: ∀(h:Hp) n,aa h 0=some {cells:=r.a}->aa h 1=some {cells:=[.i .i64 m]}->ff kT [.fn 84 [.p 0 0,.p 1 0]] h n=some (true,{v:=rF (mE r m,mN r m),n,rd:=[0,1],md:=[(0,none),(1,none)]}):=λh n h1 h2=>by
  simp_all [ff,bn,bI,jH,kN,kC,aC,eo,ez,List.nil_append,dh,bV.plain,wN,j4]
 have hcx:Sound ay (cj [(83,ff kT)]):=Sound.cons hst.ng Sound.nil;have a3:r.a.length=3:=rfl;have ao:aL r.a=true:=rfl;have ad:List.take 3 (List.drop 0 r.a)=r.a:=rfl;have iBc:=iB 0 (mE r m);simp only [rF] at*;generalize r.a=ra at*;refine ew hcx Tryz.func20 Vf ?_
 dsimp only [i20];simp only [go_sem,hk,simprocAttr]
 grind [Ends.aw,AV.aj,ab,aG]
def Ks:Ct
 |[.agg c,.i .i64 m],_,n=>(qX c).bind λr=>some (r.is,{v:=rF (mE r m,mN r m),n})
 |_,_,_=>none
theorem s20:ax ay 20 Ks:=λargs h n c E hc ht=>by
 unfold Ks at hc;split at hc
 ·simp only [av,aI,aV] at hc;obtain ⟨r,hr,rfl,rfl⟩:=hc;rw [dW hr];exact aA.pure (by kernel_rfl) (by simp only [ab,AV.aj,Rm.aj,aG]) (uK _) (w20 r ht _) _ _
 ·cases hc
end Go.Proofs.Rom
