/- Texts laid as one. -/
import Derived.Test.YtibpegmighopbaaGreatDoorX12
set_option maxRecDepth 100000
set_option maxHeartbeats 20000000
set_option linter.unusedSimpArgs false
set_option linter.unusedVariables false
namespace Go.Proofs.Rom
open Go.Ab
def H7 (t:Tp):Option (Int×Int):=if (gE t.sw).2=0 then some (t.sh,(gE t.sw).1) else none
def Mo (tp:List Tp) (k:Nat):List (Int×Int):=(tp.take k).filterMap H7
def neL (tp:List Tp):List (Int×Int):=lQ (kZ (tp.filterMap H7))
theorem aa1 {tp:List Tp} {k:Nat} {t:Tp} (h:tp[k]? =some t):Mo tp (k+1)=match H7 t with|some x=>Mo tp k++[x]|none=>Mo tp k:=by
 grind [Mo,jY,x7,List.filterMap_append,List.filterMap_cons,List.filterMap_nil,H7]
theorem Pd (r:Rm) (hl:r.tp.length<=36) (hok: ∀t∈r.tp,t.sw.l.length<=3) {K:bX} {e:Env} {h:Hp} {n:Nat}
 (he:jz 1 [] e [(3,.ns),(14,.fz (rows Tp.l r.tp) r.tp.length),(15,.i .i64 (r.tp.length:Int)),(16,.i .i64 0)]) (hh:iW 1 [] h [])
 (hK: ∀e',bC e' 3=some ((gQ gp 2 (r.tp.filterMap H7)).v 0)->K (.exit 0) e' ((gQ gp 2 (r.tp.filterMap H7)).h 0) 1):
 Ab.Loop ay [17,27] 40 0 Nf K e h n:=by
 have hsB: ∀j,ab j (rows Tp.l r.tp)=true:=λj=>fb j r.tp;have hsR: ∀g,aS g (rows Tp.l r.tp)=rows Tp.l r.tp:=λg=>jC g r.tp;have hSat: ∀(k:Nat) x,r.tp[k]? =some x->List.take 22 (List.drop (k*22) (rows Tp.l r.tp))=x.l:=λk x hk=>dm Tp.len hk;have hfin:Mo r.tp r.tp.length=r.tp.filterMap H7:=by rw [Mo,jh]
 have hKl: ∀k,(Mo r.tp k).length<=k:=λk=>by
  grind [Mo,List.length_filterMap_le,H7,fY]
 rw [<-hfin] at hK;have hN0:Mo r.tp 0=[]:=rfl;have hNs:=λk t h=>aa1 (tp:=r.tp) (k:=k) (t:=t) h;generalize Mo r.tp=N at*;refine Loop.nM (F:=⟨ay,cj [(105,Eh)],[17,27],40,0⟩) (Sound.cons ajg Sound.nil) mo (X:=Nat) (λk=>k<=r.tp.length) (λk=>r.tp.length-k)
  (λk=>[(3,(gQ gp 2 (N k)).v 0),(14,.fz (rows Tp.l r.tp) r.tp.length),(15,.i .i64 (r.tp.length:Int)),(16,.i .i64 (k:Int))])
  (λk=>(gQ gp 2 (N k)).h 0++[]) 1 0 (λk=>k+1) [] (λk=>if (N (k+1)).length=(N k).length then [] else [(0,3)]) (cr _) rfl (λk=>by split<;>rfl) (cr _) ?_ ?_ (λk hk=> ?_)
 ·rw [hN0,pO];exact he
 ·rw [hN0,pO];exact hh
 by_cases hlt:k<r.tp.length
 rotate_left
 ·have c1:decide ((k:Int)<(r.tp.length:Int))=false:=bw (by omega)
  obtain rfl:k=r.tp.length:=by omega
  simp only [go_sem,dh,simprocAttr];exact hK _ rfl
 have c1:decide ((k:Int)<(r.tp.length:Int))=true:=af (by omega)
 have c2:decide (0<=(k:Int)/\(k:Int)<(r.tp.length:Int))=true:=af (by omega)
 have hw:IntKind.i64.wrap ((k:Int)+1)=((k+1:Nat):Int):=by grind [aN]
 obtain ⟨t,ht⟩: ∃t,r.tp[k]? =some t:=⟨_,bj hlt⟩;have hr:=hSat k t ht;have hsk:r.tp.length-(k+1)<r.tp.length-k:=by omega
 have hsl:=hok t (bJ ht);have t22:t.l.length=22:=rfl;have tq:aL t.l=true:=rfl;have td:List.take 22 (List.drop 0 t.l)=t.l:=rfl;have t18:List.take 18 (List.drop 4 t.l)=t.sw.a:=rfl;have TJ:t.sw.a.length=18:=rfl;have t1:t.l[1]? =some (.i .i64 t.sh):=rfl;have hk5: ∀(h:Hp) n,Eh [.agg t.sw.a] h n=some (true,{v:= .bz [.i .i64 (gE t.sw).1,.i .i64 (gE t.sw).2],n}):=λh n=>by
  grind [Eh,pC,aC,af]
 have pk:=L7 (N k);have zR:(rows gp (N k)).length=(N k).length*2:=aU iq;have hn1:=hNs k t ht;have hkl:=hKl k;by_cases he0:(gE t.sw).2=0
 ·have e1:H7 t=some (t.sh,(gE t.sw).1):=aT he0;rw [e1] at hn1;dsimp only at hn1;rw [he0] at hk5;have hne: ¬(N (k+1)).length=(N k).length:=by grind
  have pk':=L7 (N k++[(t.sh,(gE t.sw).1)]);rw [aY hne,hn1];rw [ji] at pk' ⊢;have gm:decide (16*((N k).length+1)<=az)=true:=af (by grind [az])
  have eOg:gp (t.sh,(gE t.sw).1)=[.i .i64 t.sh,.i .i64 (gE t.sw).1]:=rfl;simp only [eOg] at pk' ⊢;generalize (gE t.sw).1=N1,N k=Q,t.sw.a=SA,t.l=TL,rows Tp.l r.tp=T,Eh=q5 at*;simp only [go_sem,c1,c2,hw,hr,hsk,t22,tq,t18,TJ,t1,hk5,gm,zR,pk',AV.aQ,AV.aj,hsB,hsR,simprocAttr];exact hlt
 ·have e1:H7 t=none:=aY he0;rw [e1] at hn1;dsimp only at hn1;have h0:((gE t.sw).2==0)=false:=by grind
  rw [hn1,aT rfl];generalize (gE t.sw).1=N1,(gE t.sw).2=N2,N k=Q,t.sw.a=SA,t.l=TL,rows Tp.l r.tp=T,Eh=q5 at*;simp only [go_sem,c1,c2,hw,hr,hsk,t22,tq,t18,TJ,hk5,h0,pk,AV.aQ,AV.aj,hsB,hsR,simprocAttr];exact hlt
def DC (r:Rm):Int:=if aX r then 0 else 420
def Mt (r:Rm):List (Int×Int):=if DC r=0 then neL r.tp else []
theorem abA (r:Rm) (hr:r.is=true) (he:DC r≠0):cz ay 104 [.fp r.a 0] [] 0 (some (eJ (DC r))) (.bz []) [] 0:=by
 have hg:aX r=false:=by
  simp_all [aX,DC]
 have e:DC r=420:=by grind [DC]
 rw [e];have a3:r.a.length=3:=rfl;have ad:List.take 3 (List.drop 0 r.a)=r.a:=rfl;have hk:=Bp hr hg;have hcx:Sound ay (cj [(85,fj false false false)]):=Sound.cons (Es false false false) Sound.nil;generalize fj false false false=kb,r.a=ra at*;refine cz.dQ hcx mo Tryz.func104 A4 (by simp [i104]) (aO ?_)
 dsimp only [i104];simp only [go_sem,hk,a3,ad,simprocAttr];exact Ends.aw rfl rfl
theorem ahO (r:Rm) (hr:r.is=true) (hg:aX r=true):bG ay 104 [.fp r.a 0] [] 0 (.fz (rows gp (neL r.tp)) (neL r.tp).length) [] 0:=by
 have hl:=ek hg;have hfin:= @Pd r hl.2.2.1 hl.2.2.2.2;have hk:=sX hr hg;have a3:r.a.length=3:=rfl;have ad:List.take 3 (List.drop 0 r.a)=r.a:=rfl;have g2:r.a[2]? =some (.fz (rows Tp.l r.tp) r.tp.length):=rfl;have tB:=fb 1 r.tp;have tR:=jC (rn []) r.tp;have hlen:=List.length_filterMap_le H7 r.tp;have eN:neL r.tp=lQ (kZ (r.tp.filterMap H7)):=rfl;rw [eN];generalize r.tp.filterMap H7=l at*;cases l with
 |nil=>
  have e0:lQ (kZ [])=[]:=by simp [kZ,lQ,nX]
  rw [e0];have hs1:=dc (P:=ay) (by kernel_rfl) rfl rfl adh
  have hs2:=dc (P:=ay) (by kernel_rfl) rfl rfl aab
  have h1:=λh n=>gC (a0:=[.ns,.fn 107 []]) (v0:= .bz []) h n;have h2:=λh n=>gC (a0:=[.ns]) (v0:= .fz [] 0) h n;have hcx:Sound ay (cj [(85,nE),(106,kP [.ns,.fn 107 []] (.bz [])),(110,kP [.ns] (.fz [] 0))]):=Sound.cons DE (Sound.cons hs1 (Sound.cons hs2 Sound.nil));generalize kP [.ns,.fn 107 []] _=q1,kP [.ns] _=q2,nE=kb,r.a=ra at*;refine ew hcx Tryz.func104 A4 ?_
  dsimp only [i104];simp only [go_sem,hk,a3,ad,g2,simprocAttr];refine hfin ?_ ?_ (λe' he5=> ?_)
  ·simp only [go_sem,AV.aQ,AV.aj,tB,tR,simprocAttr]
  ·trivial
  rw [pO] at he5 ⊢;dsimp only [Go.Ab.Sh.v,Go.Ab.Sh.h] at he5 ⊢;simp only [go_sem,he5,h1,h2,simprocAttr];exact Ends.aw rfl rfl
 |cons x l=>
  have lp:0<(x::l).length:=Nat.succ_pos _;have eG:=pW (f:=gp) (z:=2) (l:=x::l) lp;have ll:(kZ (x::l)).length=(x::l).length:=(zg _).length_eq;have hs1:=cK (P:=ay) (R:=[0]) (ks:=[{cells:=rows gp (x::l),gr:=some 2}]) (by kernel_rfl) (by decide) rfl (ah7 (x::l) (by omega) lp) (by decide) (by simp [l5,dD,CR,aP])
  have w2:=ahN (kZ (x::l)) (by omega) (by omega)
  rw [ll] at w2;have hs2:=cK (P:=ay) (R:=[0]) (ks:=[{cells:=rows gp (kZ (x::l)),gr:=some 2}]) (by kernel_rfl) (by decide) rfl w2 (by decide) (by simp [l5])
  have h1: ∀(h:Hp) n,aa h 0=some {cells:=rows gp (x::l),gr:=some 2}->kH [0] [{cells:=rows gp (x::l),gr:=some 2}] [.sg 0 0 (x::l).length,.fn 107 []] (.bz []) [(0,{cells:=rows gp (kZ (x::l)),gr:=some 2})] 1 none [.sg 0 0 (x::l).length,.fn 107 []] h n=some (true,{v:= .bz [],n,rd:=[0],md:=[(0,some {cells:=rows gp (kZ (x::l)),gr:=some 2})]}):=λh n h0=>by
   refine ej (h:=h) (n:=n) rfl ⟨⟨?_,CR _ _⟩,trivial⟩ ?_;all_goals simp_all [bp.aQ,gpR,nR,fL,aS,AV.aQ,jA,nth,aa,aP]
  have h2: ∀(h:Hp) n,aa h 0=some {cells:=rows gp (kZ (x::l)),gr:=some 2}->kH [0] [{cells:=rows gp (kZ (x::l)),gr:=some 2}] [.sg 0 0 (x::l).length] (.fz (rows gp (lQ (kZ (x::l)))) (lQ (kZ (x::l))).length) [] 1 none [.sg 0 0 (x::l).length] h n=some (true,{v:= .fz (rows gp (lQ (kZ (x::l)))) (lQ (kZ (x::l))).length,n,rd:=[0],md:=[(0,none)]}):=λh n h0=>by
   refine ej (h:=h) (n:=n) rfl ⟨⟨?_,CR _ _⟩,trivial⟩ ?_;all_goals grind [bp.aQ,gpR,nR,fL,AV.aQ,aa]
  have hcx:Sound ay (cj [(85,nE),(106,kH _ [{cells:=rows gp (x::l),gr:=some 2}] _ (.bz []) _ _ _),(110,kH _ [{cells:=rows gp (kZ (x::l)),gr:=some 2}] _ _ [] _ _)]):=Sound.cons DE (Sound.cons hs1 (Sound.cons hs2 Sound.nil));generalize kH [0] [{cells:=rows gp (x::l),gr:=some 2}] _ (.bz []) _ _ _=q1,kH [0] [{cells:=rows gp (kZ (x::l)),gr:=some 2}] _ _ [] _ _=q2 at*;rw [eG] at hfin;have dB:=CR 0 (lQ (kZ (x::l)));generalize lQ (kZ (x::l))=D,kZ (x::l)=S,(x::l)=l,nE=kb,r.a=ra at*;refine ew hcx Tryz.func104 A4 ?_
  dsimp only [i104];simp only [go_sem,hk,a3,ad,g2,simprocAttr];refine hfin ?_ ?_ (λe' he5=> ?_)
  ·simp only [go_sem,AV.aQ,AV.aj,tB,tR,simprocAttr]
  ·trivial
  dsimp only [Go.Ab.Sh.v,Go.Ab.Sh.h] at he5 ⊢;simp only [go_sem,he5,h1,h2,simprocAttr];exact Ends.aw (by grind [AV.aj]) rfl
theorem aaP {kx:Ct} (hx:ax ay 104 kx) (caps:List AV) (hcaps:ab 0 caps=true) (L:List AV) (m:Nat) (hL:ab 0 L=true) (e:Int) (hz:e≠0->L=[]/\m=0)
 (hv:e=0-> ∀(h:Hp) n,kx caps h n=some (true,{v:= .fz L m,n}))
 (hp:e≠0-> ∀(h:Hp) n,kx caps h n=some (true,{v:= .bz [],n,pn:=some (eJ e)})):bG ay 103 [.fn 104 caps] [] 0 (.bz [.fz L m,.i .i64 e]) [] 0:=by
 have hcx:Sound ay (cj [(104,kx)]):=Sound.cons hx Sound.nil;have hcb: ∀j,ab j caps=true:=λj=>au _ hcaps;refine cz.oQ (pn:=none) AZ.Hm hcx mo Tryz.func103 Ov (by simp [i103]) (pre:=Vt) (ops:=[oo 4 (.N7 170 [.t 2,.t 3])]) rfl (by kernel_rfl) Tryz.func170 PT rfl ?_
 dsimp only [i103];simp only [go_sem,ve,simprocAttr];refine jF (caps:=[.p 0 0,.p 1 0]) (bs:=[0,1]) rfl rfl (by decide) (λGs h1 h2=> ?_)
 obtain ⟨g0,g1,rfl⟩: ∃a b,Gs=[a,b]:=by
  match Gs,h1 with
  |[a,b],_=>exact ⟨a,b,rfl⟩
 refine ⟨by simp [i170],?_⟩
 have hne:g0≠g1:=by grind
 have hgl0:=λa b=>(Oe hne a b).1;have hgl1:=λa b=>(Oe hne a b).2;dsimp only [nZ,aa] at*;by_cases he:e=0
 ·subst he;have hk:=hv rfl;simp only [go_sem,hk,iH,hgl0,hgl1,simprocAttr];dsimp only [i170,eJ];simp only [go_sem,simprocAttr]
  grind [aZ.ends,Ends.aw,AV.aj,ab,aG]
 ·have hk:=hp he;obtain ⟨rfl,rfl⟩:=hz he;simp only [go_sem,hk,iH,hgl0,hgl1,simprocAttr];dsimp only [i170,eJ];simp only [go_sem,iI,simprocAttr];refine aZ.wu (l:=[]) (v':= .bz [.fz [] 0,.i .i64 e]) (bW.bz ⟨bW.hit,bW.refl,trivial⟩) ?_;exact aZ.ends (Ends.aw rfl rfl)
def vw (l:List (Int×Int)) (e:Int):AV:= .bz [.fz (rows gp l) l.length,.i .i64 e]
theorem uZ (l:List (Int×Int)) (e:Int):(vw l e).aj 0=true:=by simp only [vw,AV.aj,ab,CR,aG]
theorem w28 (r:Rm) (hr:r.is=true):bG ay 28 [.agg r.a] [] 0 (vw (Mt r) (DC r)) [] 0:=by
 have hrb:=Rm.aj 0 r;have hcb:ab 0 [AV.fp r.a 0]=true:=by grind [ab,AV.aj,aG]
 have hw:bG ay 103 [.fn 104 [.fp r.a 0]] [] 0 (vw (Mt r) (DC r)) [] 0:=by
  by_cases he:DC r=0
  ·have hg:aX r=true:=by
    grind [aX,DC]
   have e:Mt r=neL r.tp:=aT he;rw [e];exact aaP (iY (pn:=none) (by kernel_rfl) hcb (by simp only [AV.aj,CR]) (ahO r hr hg)) _ hcb _ _ (CR 0 _) _ (λh=>absurd he h) (λ_ h n=>tE h n) (λh=>absurd he h)
  ·have e:Mt r=[]:=aY he;rw [e];exact aaP (iY (by kernel_rfl) hcb rfl (abA r hr he)) _ hcb [] 0 rfl _ (λ_=>⟨rfl,rfl⟩) (λh=>absurd h he) (λ_ h n=>tE h n)
 have hst:=dc (by kernel_rfl) (by grind [ab,AV.aj,aG]) (uZ (Mt r) (DC r)) hw
 have hat:=λh n=>gC (a0:=[.fn 104 [.fp r.a 0]]) (v0:=vw (Mt r) (DC r)) h n;generalize kP _ _=kT at hst hat;have hv:=λh f=>mY h f r;have hb:=uZ (Mt r) (DC r);have hk: ∀(h:Hp) n,aa h 0=some {cells:=r.a}->ff kT [.fn 104 [.p 0 0]] h n=some (true,{v:=vw (Mt r) (DC r),n,rd:=[0],md:=[(0,none)]}):=λh n h1=>by
  simp_all [ff,bn,bI,jH,kC,aC,eo,dh,bV.plain,wN,j4]
 have hcx:Sound ay (cj [(103,ff kT)]):=Sound.cons hst.ng Sound.nil;have a3:r.a.length=3:=rfl;have ao:aL r.a=true:=rfl;have gB:=CR 0 (Mt r);simp only [vw] at*;generalize r.a=ra at*;refine ew hcx Tryz.func28 WD ?_
 dsimp only [i28];simp only [go_sem,hk,simprocAttr]
 grind [Ends.aw,AV.aj,ab,aG]
def k28:Ct
 |[.agg c],_,n=>(qX c).bind λr=>some (r.is,{v:=vw (Mt r) (DC r),n})
 |_,_,_=>none
theorem s28:ax ay 28 k28:=λargs h n c E hc ht=>by
 unfold k28 at hc;split at hc
 ·simp only [av,aI,aV] at hc;obtain ⟨r,hr,rfl,rfl⟩:=hc;rw [dW hr];exact aA.pure (by kernel_rfl) (by simp only [ab,AV.aj,Rm.aj,aG]) (uZ _ _) (w28 r ht) _ _
 ·cases hc
theorem w43 (a b:List Int) (ha:a.length<=9223372036854775807):bG ay 43 [.fz (rows aq a) a.length,.fz (rows aq b) b.length] [] 0 (.b (decide (a=b))) [] 0:=by
 have q:=Mi a b ha;have hcx:Sound ay (cj [(87,TH)]):=Sound.cons s87 Sound.nil;refine ew hcx Tryz.func43 Zq ?_
 dsimp only [i43];generalize decide (a=b)=z,rows aq a=A,rows aq b=B at*;simp only [go_sem,q,simprocAttr];exact Ends.aw rfl rfl
theorem s43:ax ay 43 TH:=λargs h n c E hc ht=>by
 unfold TH at hc;split at hc
 ·simp only [av,aI,aV] at hc;obtain ⟨a,h1,b,h2,rfl,rfl⟩:=hc;obtain ⟨rfl,rfl⟩:=bu df h1;obtain ⟨rfl,rfl⟩:=bu df h2;exact aA.pure (by kernel_rfl) (by simp only [ab,AV.aj,iB,aG]) rfl (w43 a b (bN ht)) _ _
 ·cases hc
/-! ints -/
def inV (r:Rm) (m:Int) (w:List Int):Bool:=mN r m==0&&decide (mE r m=w)
theorem XP (r:Rm) (hr:r.is=true) (m:Int) (h:Hp) (n:Nat):Ks [.agg r.a,.i .i64 m] h n=some (true,{v:=rF (mE r m,mN r m),n}):=by
 grind [Ks,dH,aC]
theorem w26 (r:Rm) (hr:r.is=true) (m:Int) (w:List Int) (hl:(mE r m).length<=9223372036854775807):bG ay 26 [.agg r.a,.i .i64 m,.fz (rows aq w) w.length] [] 0 (.b (inV r m w)) [] 0:=by
 have q:=XP r hr m;have q2:=Mi (mE r m) w hl;have b1:=fT 0 r.ms;have b2:=cG 0 r.sh;have b3:=fb 0 r.tp;have hcx:Sound ay (cj [(20,Ks),(43,TH)]):=Sound.cons s20 (Sound.cons s43 Sound.nil);unfold inV;simp only [rF] at q;refine ew hcx Tryz.func26 Y8 ?_
 dsimp only [i26];generalize decide (mE r m=w)=z,rows aq (mE r m)=A,(mE r m).length=k,rows aq w=B at*;dsimp only [Rm.a] at*;generalize rows Mb.l r.ms=ra,rows aW.l r.sh=rb,rows Tp.l r.tp=rc at*;cases c:mN r m==0
 ·simp only [go_sem,q,c,simprocAttr];exact Ends.aw rfl rfl
 ·simp only [go_sem,q,q2,c,simprocAttr];exact Ends.aw rfl rfl
def JM:Ct
 |[.agg c,.i .i64 m,.fz W k],_,n=>(qX c).bind λr=>(bc 1 dG k W).bind λw=>some (r.is&&decide ((mE r m).length<=9223372036854775807),{v:= .b (inV r m w),n})
 |_,_,_=>none
theorem s26:ax ay 26 JM:=λargs h n c E hc ht=>by
 unfold JM at hc;split at hc
 ·simp only [av,aI,aV] at hc;obtain ⟨r,hr,w,h1,rfl,rfl⟩:=hc;rw [dW hr];obtain ⟨rfl,rfl⟩:=bu df h1;simp only [ak] at ht;exact aA.pure (by kernel_rfl) (by simp only [ab,AV.aj,Rm.aj,iB,aG]) rfl (w26 r ht.1 _ w (bN ht.2)) _ _
 ·cases hc
/-! key -/
theorem aiE (h:Hp) (n:Nat):QJ [.agg [.b true,.b true,.b false,.b true,.i .i64 0,.i .i64 0,.i .i64 0,.i .i64 0]] h n=some (true,{v:= .bz [.s [232,128,0,0,0],.i .i64 0],n}):=by kernel_rfl
theorem w27 (s:Int):bG ay 27 [.i .i64 s] [] 0 (.agg [.b false,.i .i64 0,.i .i64 0,.i .i64 0,.i .i64 s,.ns,.ns,.i .i64 0,.s [232,128,0,0,0,107]]) [] 0:=by
 have hcx:Sound ay (cj [(102,QJ)]):=Sound.cons agJ Sound.nil;refine ew hcx Tryz.func27 UT ?_
 dsimp only [i27];simp only [go_sem,aiE,simprocAttr];exact Ends.aw rfl rfl
def k27:Ct
 |[.i .i64 s],_,n=>some (true,{v:= .agg [.b false,.i .i64 0,.i .i64 0,.i .i64 0,.i .i64 s,.ns,.ns,.i .i64 0,.s [232,128,0,0,0,107]],n})
 |_,_,_=>none
theorem s27:ax ay 27 k27:=λargs h n c E hc ht=>by
 unfold k27 at hc;split at hc
 ·cases hc;exact aA.pure (by kernel_rfl) rfl rfl (w27 _) _ _
 ·cases hc
/-! chapter -/
def QA0:Rm:=⟨[],[],[]⟩
def QA1:Rm:=(gY QA0 [97,110,110]).1
def QA2:Rm:=(gY QA1 [98,111,98]).1
def QA3:Rm:=(gY QA2 [101,118,101]).1
def QB:Rm:=(gJ QA3 ⟨0,[10,20],[100,300],4⟩).1
def QR:Rm:=(gJ QB ⟨1,[30],[50],0⟩).1
abbrev Rx (q:Rm):List AV:=[.fz (rows Mb.l q.ms) q.ms.length,.fz (rows aW.l q.sh) q.sh.length,.fz (rows Tp.l q.tp) q.tp.length]
theorem aiC (h:Hp) (n:Nat):ff Ho [.agg [.ns,.ns,.ns],.s [97,110,110]] h n=some (true,{v:= .bz [.agg (Rx QA1),.i .i64 0,.i .i64 0],n,rd:=[],md:=[]}):=by kernel_rfl
theorem ahP (h:Hp) (n:Nat):ff Ho [.agg (Rx QA1),.s [98,111,98]] h n=some (true,{v:= .bz [.agg (Rx QA2),.i .i64 1,.i .i64 0],n,rd:=[],md:=[]}):=by kernel_rfl
theorem ahs (h:Hp) (n:Nat):ff Ho [.agg (Rx QA2),.s [101,118,101]] h n=some (true,{v:= .bz [.agg (Rx QA3),.i .i64 2,.i .i64 0],n,rd:=[],md:=[]}):=by kernel_rfl
theorem BL {h:Hp} (f:Nat) (l:List Int) (b:Nat) (hl:l≠[]) (hb:aa h b=some {cells:=rows aq l}):nv h (f+1) (.sl b 0 l.length l.length)=some ([b],.fz (rows aq l) l.length):=by
 have zl:(rows aq l).length=l.length:=by rw [aU bR,di]
 have hi:lV (nv h f) (rows aq l)=some ([],rows aq l):=nj (λa=>by simp only [aq,bn,bI,kN,aC,dh]) l
 have hp:0<l.length:=sO.2 hl;show (((aa h b).bind bp.F6).bind λq=>(lV (nv h f) (aD q.cells 0 (l.length*(q.cells.length/l.length)))).bind λr=>bif decide (l.length<=l.length) then some (b::r.1,AV.fz r.2 l.length) else none)=_
 simp only [hb,aC,eo,zl,Nat.div_self hp,di];rw [aD,dk,<-zl,jh]
 grind
theorem Ff (R:Rm) (o bl:Int) (ss rt:List Int) {E:Rm} {i e:Int} (hk: ∀h n,Hy [.agg R.a,.i .i64 o,.fz (rows aq ss) ss.length,.fz (rows aq rt) rt.length,.i .u64 bl] h n=some (true,{v:=k9 E i e,n})) (h:Hp) (n b c:Nat) (h1:aa h b=some {cells:=rows aq ss}) (h2:aa h c=some {cells:=rows aq rt}) (hs:ss≠[]) (hr:rt≠[]):
 ff Hy [.agg R.a,.i .i64 o,.sl b 0 ss.length ss.length,.sl c 0 rt.length rt.length,.i .u64 bl] h n=some (true,{v:=k9 E i e,n,rd:=[b,c],md:=[(b,none),(c,none)]}):=by
 have hf:([AV.fz (rows Mb.l R.ms) R.ms.length,.fz (rows aW.l R.sh) R.sh.length,.fz (rows Tp.l R.tp) R.tp.length]:List AV)=R.a:=rfl;have hv: ∀f,lV (nv h f) R.a=some ([],R.a):=λf=>by
  simp [Rm.a,bn,bI,ef,fT,cG,fb,aC]
 have hb:=Rm.aj 0 E;simp only [ff,bn,bI,lj,kN,hv,BL 5 ss b hs h1,BL 5 rt c hr h2,aC,hk,ez,List.nil_append,dh];simp_all [bV.plain,wN,j4,k9,AV.aj,ab]
theorem aht (h:Hp) (n b c:Nat) (h1:aa h b=some {cells:=[.i .i64 10,.i .i64 20]}) (h2:aa h c=some {cells:=[.i .i64 100,.i .i64 300]}):ff Hy [.agg (Rx QA3),.i .i64 0,.sl b 0 2 2,.sl c 0 2 2,.i .u64 4] h n=some (true,{v:= .bz [.agg (Rx QB),.i .i64 0,.i .i64 0],n,rd:=[b,c],md:=[(b,none),(c,none)]}):=
 Ff QA3 0 4 [10,20] [100,300] (E:=QB) (i:=0) (e:=0) (λh n=>by kernel_rfl) h n b c h1 h2 (by simp) (by simp)
theorem ahd (h:Hp) (n b c:Nat) (h1:aa h b=some {cells:=[.i .i64 30]}) (h2:aa h c=some {cells:=[.i .i64 50]}):ff Hy [.agg (Rx QB),.i .i64 1,.sl b 0 1 1,.sl c 0 1 1,.i .u64 0] h n=some (true,{v:= .bz [.agg (Rx QR),.i .i64 1,.i .i64 0],n,rd:=[b,c],md:=[(b,none),(c,none)]}):=
 Ff QB 1 0 [30] [50] (E:=QR) (i:=1) (e:=0) (λh n=>by kernel_rfl) h n b c h1 h2 (by simp) (by simp)
def Vb:List (Nat×Ct):=[(24,ff Ho),(23,ff Hy)]
theorem ads:Sound ay (cj Vb):=Sound.cons s24.ng (Sound.cons s23.ng Sound.nil)
def Hn:Nat->List AV
 |0=>[.ns,.ns,.ns]
 |1=>(Rx QA1)
 |2=>(Rx QA2)
 |_=>(Rx QA3)
theorem Iu:bG ay 18 [] [] 0 (.bz [.agg QR.a,.b true]) [] 0:=by
 have hMB: ∀(Q:Rm) j,ab j (rows Mb.l Q.ms)=true:=λQ j=>fT j Q.ms;have hSB: ∀(Q:Rm) j,ab j (rows aW.l Q.sh)=true:=λQ j=>cG j Q.sh;have hTB: ∀(Q:Rm) j,ab j (rows Tp.l Q.tp)=true:=λQ j=>fb j Q.tp;refine ew ads Tryz.func18 Xh ?_
 dsimp only [i18,Vb,Rm.a];simp only [go_sem,simprocAttr];refine Loop.dV (F:=⟨ay,cj Vb,[15],65,0⟩) ads mo 3 (λk=>True) (λk=>[(0,.p 0 0),(1,.b false),(2,.p 1 0),(3,.b true),(13,.agg [.s [97,110,110],.s [98,111,98],.s [101,118,101]]),(14,.i .i64 (k:Int))]) (λk=>[(0,{cells:=[.ns,.ns,.ns]}),(1,{cells:=Hn k})]) 2 (cr _) trivial ?_ ?_ (λk hk _=> ?_)
 ·simp only [go_sem,AV.aj,ab,aP,simprocAttr]
 ·simp only [go_sem,Hn,ab,AV.aj,aG,simprocAttr]
 rcases k with _|_|_|k
 ·dsimp only [Vb,Hn];simp only [go_sem,aiC,AV.aj,ab,aP,hMB,hSB,hTB,e9,simprocAttr]
 ·dsimp only [Vb,Hn];simp only [go_sem,ahP,AV.aj,ab,aP,hMB,hSB,hTB,e9,simprocAttr]
 ·dsimp only [Vb,Hn];simp only [go_sem,ahs,AV.aj,ab,aP,hMB,hSB,hTB,e9,simprocAttr]
 ·obtain rfl:k=0:=by omega
  dsimp only [Vb,Hn];simp only [go_sem,aht,ahd,simprocAttr];exact Ends.aw rfl rfl
def k18:Ct
 |[],_,n=>some (true,{v:= .bz [.agg (Rx QR),.b true],n})
 |_,_,_=>none
theorem TJ:ax ay 18 k18:=λargs h n c E hc ht=>by
 unfold k18 at hc;split at hc
 ·cases hc;exact aA.pure (by kernel_rfl) rfl (by rfl) Iu _ _
 ·cases hc
theorem z8 (R:Rm) (m:Int) (w:List Int) (hk: ∀h n,JM [.agg R.a,.i .i64 m,.fz (rows aq w) w.length] h n=some (true,{v:= .b true,n})) (h:Hp) (n b:Nat) (h1:aa h b=some {cells:=rows aq w}) (hw:w≠[]):
 cu JM [.agg R.a,.i .i64 m,.sl b 0 w.length w.length] h n=some (true,{v:= .b true,n,rd:=[b]}):=by
 have hv: ∀f,lV (nv h f) R.a=some ([],R.a):=λf=>by
  simp [Rm.a,bn,bI,ef,fT,cG,fb,aC]
 simp only [cu,bn,bI,lj,kN,hv,BL 5 w b hw h1,aC,hk,List.nil_append,dh];rfl
def PK1:Md:=⟨false,0,0,0,10,[],[],0,[232,128,0,0,0,107]⟩
def PK2:Md:=⟨false,0,0,0,20,[],[],0,[232,128,0,0,0,107]⟩
def QF:Rm:=(kV QR 1 0 ⟨2,1,1,3000⟩).1
def QL:Rm:=(j2 QF 1 299).1
def QH:Rm:=(j2 QF 1 300).1
def QP:Rm:=tn QH PK2
def QS:Rm:=tn QH PK1
def QC:Rm:=(gY QF [99,97,114,108]).1
def QD:Rm:=(gJ QC ⟨3,[40,41],[60,90],0⟩).1
def QE:Rm:=(kV QD 2 1 ⟨1,0,3,1⟩).1
def QG:Rm:=(kV QE 2 2 ⟨1,1,4,1⟩).1
def QX:Rm:=(j2 QG 2 140).1
def QY:Rm:=(j2 QG 2 110).1
def QZ:Rm:=(j2 QG 2 55).1
theorem a1 (h:Hp) (n:Nat):BU [.agg (Rx QR),.i .i64 1,.i .i64 0,.i .i64 2,.i .i64 1,.i .i64 1,.i .i64 3000] h n=some (true,{v:= .bz [.agg (Rx QF),.i .i64 0],n}):=by kernel_rfl
theorem a2 (h:Hp) (n b:Nat) (h1:aa h b=some {cells:=[.i .i64 (-1)]}):cu JM [.agg (Rx QF),.i .i64 1,.sl b 0 1 1] h n=some (true,{v:= .b true,n,rd:=[b]}):=
 z8 QF 1 [-1] (λh n=>by kernel_rfl) h n b h1 (by simp)
theorem a3 (h:Hp) (n:Nat):BR [.agg (Rx QF),.i .i64 1,.i .i64 299] h n=some (true,{v:= .bz [.agg (Rx QL),.i .i64 0],n}):=by kernel_rfl
theorem a4 (h:Hp) (n:Nat):BR [.agg (Rx QF),.i .i64 1,.i .i64 300] h n=some (true,{v:= .bz [.agg (Rx QH),.i .i64 0],n}):=by kernel_rfl
theorem a5 (h:Hp) (n:Nat):k28 [.agg (Rx QH)] h n=some (true,{v:= .bz [.fz [.i .i64 0,.i .i64 1] 1,.i .i64 0],n}):=by kernel_rfl
theorem a6 (h:Hp) (n:Nat):BU [.agg (Rx QF),.i .i64 2,.i .i64 0,.i .i64 1,.i .i64 0,.i .i64 2,.i .i64 1] h n=some (true,{v:= .bz [.agg [.fz [] 0,.fz [] 0,.fz [] 0],.i .i64 421],n}):=by kernel_rfl
theorem a7 (h:Hp) (n:Nat):BU [.agg (Rx QF),.i .i64 0,.i .i64 0,.i .i64 1,.i .i64 0,.i .i64 2,.i .i64 1] h n=some (true,{v:= .bz [.agg [.fz [] 0,.fz [] 0,.fz [] 0],.i .i64 421],n}):=by kernel_rfl
theorem a8 (h:Hp) (n:Nat):ff Pm [.agg (Rx QH),.agg [.b false,.i .i64 0,.i .i64 0,.i .i64 0,.i .i64 20,.ns,.ns,.i .i64 0,.s [232,128,0,0,0,107]]] h n=some (true,{v:= .bz [.agg (Rx QP),.fz [.i .i64 1,.b false,.i .i64 0,.i .i64 1,.i .i64 3000,.i .i64 1,.fz [] 0,.fz [] 0,.i .i64 0,.s [232,128,1,1,0,107]] 1,.i .i64 0],n,rd:=[],md:=[]}):=by kernel_rfl
theorem a9 (h:Hp) (n:Nat):ff Pm [.agg (Rx QH),.agg [.b false,.i .i64 0,.i .i64 0,.i .i64 0,.i .i64 10,.ns,.ns,.i .i64 0,.s [232,128,0,0,0,107]]] h n=some (true,{v:= .bz [.agg (Rx QS),.fz [] 0,.i .i64 0],n,rd:=[],md:=[]}):=by kernel_rfl
theorem MH (h:Hp) (n:Nat):Ho [.agg (Rx QF),.s [65,110,110]] h n=some (true,{v:= .bz [.agg [.fz [] 0,.fz [] 0,.fz [] 0],.i .i64 0,.i .i64 2],n}):=by kernel_rfl
theorem OM (h:Hp) (n:Nat):Ho [.agg (Rx QF),.s [97,110,110]] h n=some (true,{v:= .bz [.agg [.fz [] 0,.fz [] 0,.fz [] 0],.i .i64 0,.i .i64 2],n}):=by kernel_rfl
theorem a12 (h:Hp) (n b c:Nat) (h1:aa h b=some {cells:=[.i .i64 1,.i .i64 2]}) (h2:aa h c=some {cells:=[.i .i64 5,.i .i64 5]}):ff Hy [.agg (Rx QF),.i .i64 0,.sl b 0 2 2,.sl c 0 2 2,.i .u64 0] h n=some (true,{v:= .bz [.agg [.fz [] 0,.fz [] 0,.fz [] 0],.i .i64 0,.i .i64 2],n,rd:=[b,c],md:=[(b,none),(c,none)]}):=
 Ff QF 0 0 [1,2] [5,5] (E:=vr) (i:=0) (e:=2) (λh n=>by kernel_rfl) h n b c h1 h2 (by simp) (by simp)
theorem a13 (h:Hp) (n:Nat):Ho [.agg (Rx QF),.s [99,97,114,108]] h n=some (true,{v:= .bz [.agg (Rx QC),.i .i64 3,.i .i64 0],n}):=by kernel_rfl
theorem a14 (h:Hp) (n b c:Nat) (h1:aa h b=some {cells:=[.i .i64 40,.i .i64 41]}) (h2:aa h c=some {cells:=[.i .i64 60,.i .i64 90]}):ff Hy [.agg (Rx QC),.i .i64 3,.sl b 0 2 2,.sl c 0 2 2,.i .u64 0] h n=some (true,{v:= .bz [.agg (Rx QD),.i .i64 2,.i .i64 0],n,rd:=[b,c],md:=[(b,none),(c,none)]}):=
 Ff QC 3 0 [40,41] [60,90] (E:=QD) (i:=2) (e:=0) (λh n=>by kernel_rfl) h n b c h1 h2 (by simp) (by simp)
theorem a15 (h:Hp) (n:Nat):BU [.agg (Rx QD),.i .i64 2,.i .i64 1,.i .i64 1,.i .i64 0,.i .i64 3,.i .i64 1] h n=some (true,{v:= .bz [.agg (Rx QE),.i .i64 0],n}):=by kernel_rfl
theorem a16 (h:Hp) (n:Nat):BU [.agg (Rx QE),.i .i64 2,.i .i64 2,.i .i64 1,.i .i64 1,.i .i64 4,.i .i64 1] h n=some (true,{v:= .bz [.agg (Rx QG),.i .i64 0],n}):=by kernel_rfl
theorem a17 (h:Hp) (n:Nat):BR [.agg (Rx QG),.i .i64 2,.i .i64 140] h n=some (true,{v:= .bz [.agg (Rx QX),.i .i64 0],n}):=by kernel_rfl
theorem a18 (h:Hp) (n:Nat):BR [.agg (Rx QG),.i .i64 2,.i .i64 110] h n=some (true,{v:= .bz [.agg (Rx QY),.i .i64 0],n}):=by kernel_rfl
theorem a19 (h:Hp) (n:Nat):BR [.agg (Rx QG),.i .i64 2,.i .i64 55] h n=some (true,{v:= .bz [.agg (Rx QZ),.i .i64 0],n}):=by kernel_rfl
theorem a20 (h:Hp) (n b:Nat) (h1:aa h b=some {cells:=[.i .i64 0]}):cu JM [.agg (Rx QL),.i .i64 1,.sl b 0 1 1] h n=some (true,{v:= .b true,n,rd:=[b]}):=
 z8 QL 1 [0] (λh n=>by kernel_rfl) h n b h1 (by simp)
theorem a21 (h:Hp) (n b:Nat) (h1:aa h b=some {cells:=[.i .i64 1]}):cu JM [.agg (Rx QH),.i .i64 1,.sl b 0 1 1] h n=some (true,{v:= .b true,n,rd:=[b]}):=
 z8 QH 1 [1] (λh n=>by kernel_rfl) h n b h1 (by simp)
theorem a22 (h:Hp) (n b:Nat) (h1:aa h b=some {cells:=[.i .i64 0,.i .i64 1]}):cu JM [.agg (Rx QX),.i .i64 2,.sl b 0 2 2] h n=some (true,{v:= .b true,n,rd:=[b]}):=
 z8 QX 2 [0,1] (λh n=>by kernel_rfl) h n b h1 (by simp)
theorem a23 (h:Hp) (n b:Nat) (h1:aa h b=some {cells:=[.i .i64 (-1),.i .i64 1]}):cu JM [.agg (Rx QY),.i .i64 2,.sl b 0 2 2] h n=some (true,{v:= .b true,n,rd:=[b]}):=
 z8 QY 2 [-1,1] (λh n=>by kernel_rfl) h n b h1 (by simp)
theorem a24 (h:Hp) (n b:Nat) (h1:aa h b=some {cells:=[.i .i64 0,.i .i64 (-1)]}):cu JM [.agg (Rx QZ),.i .i64 2,.sl b 0 2 2] h n=some (true,{v:= .b true,n,rd:=[b]}):=
 z8 QZ 2 [0,-1] (λh n=>by kernel_rfl) h n b h1 (by simp)
def T10:List (Nat×Ct):=[(13,ff Pm),(14,BU),(16,BR),(18,k18),(23,ff Hy),(24,Ho),(26,cu JM),(27,k27),(28,k28)]
theorem af7:Sound ay (cj T10):=Sound.cons s13.ng (Sound.cons s14 (Sound.cons s16 (Sound.cons TJ (Sound.cons s23.ng (Sound.cons s24 (Sound.cons s26.nv (Sound.cons s27 (Sound.cons s28 Sound.nil))))))))
theorem o18 (h:Hp) (n:Nat):k18 [] h n=some (true,{v:= .bz [.agg (Rx QR),.b true],n}):=rfl
theorem o27 (s:Int) (h:Hp) (n:Nat):k27 [.i .i64 s] h n=some (true,{v:= .agg [.b false,.i .i64 0,.i .i64 0,.i .i64 0,.i .i64 s,.ns,.ns,.i .i64 0,.s [232,128,0,0,0,107]],n}):=rfl
theorem w10:bG ay 10 [] [] 0 (.b true) [] 0:=by
 refine ew af7 Tryz.func10 Zj ?_
 dsimp only [i10,T10];simp only [go_sem,o18,o27,a1,a2,a3,a4,a5,a6,a7,a8,a9,MH,OM,a12,a13,a14,a15,a16,a17,a18,a19,a20,a21,a22,a23,a24,simprocAttr];exact Ends.aw rfl rfl
def Mq:Ct
 |[],_,n=>some (true,{v:= .b true,n})
 |_,_,_=>none
theorem s10:ax ay 10 Mq:=λargs h n c E hc ht=>by
 unfold Mq at hc;split at hc
 ·cases hc;exact aA.pure (by kernel_rfl) rfl rfl w10 _ _
 ·cases hc
noncomputable abbrev F3 (T:List (Nat×Ct)):Fx:=⟨ay,cj T,i3.ct,i3.N,0⟩
structure Ev where
 S:List AV
 R:List AV
 ks:bL
 mv:List AV
 P:List AV
 Q:List AV
 C:List AV
 L:AV
 m:Int
 j:Int
 OG:AV
 og:Int
 q:Int
structure Ev.ok (v:Ev):Prop where
 S: ∀j,ab j v.S=true
 R: ∀j,ab j v.R=true
 mv: ∀j,ab j v.mv=true
 P: ∀j,ab j v.P=true
 Q: ∀j,ab j v.Q=true
 C: ∀j,ab j v.C=true
 L: ∀j,v.L.aj j=true
 OG: ∀j,v.OG.aj j=true
theorem Vn {T:List (Nat×Ct)} (hT:Sound ay (cj T)) (v:Ev) (hv:v.ok) (tp:List Tp) (htl:tp.length<=1000) (me ss:Int) (a:Nat)
 (hU: ∀(k:Nat) t,tp[k]? =some t->((t.me==me)&&(t.sw.ou==ss))=decide (k=a)) (ha:a<tp.length)
 (c0:v.C[0]? =some (.i .i64 me)) (c5:v.C[5]? =some (.i .i64 ss)) (cl:v.C.length=10) {K:bX} {e:Env} {h:Hp} {n:Nat}
 (he:iV 9 e [(5,.p 1 0),(6,.p 2 0),(7,.m 3),(11,.p 6 0),(15,.p 7 0),(41,v.L),(42,.i .i64 v.m),(43,.i .i64 v.j),(146,v.OG),(147,.i .i64 v.og),(148,.i .i64 v.q),(19,.p 8 0),(20,.i .i64 (-1)),(153,.fz (rows Tp.l tp) tp.length),(154,.i .i64 (tp.length:Int)),(155,.i .i64 0)])
 (hh:mX 9 h [(1,{cells:=v.S}),(2,{cells:=v.R}),(3,{cells:=v.mv,mp:=some v.ks}),(6,{cells:=v.P}),(7,{cells:=v.Q}),(8,{cells:=v.C})])
 (hK: ∀e',bC e' 5=some (.p 1 0)->bC e' 6=some (.p 2 0)->bC e' 7=some (.m 3)->bC e' 11=some (.p 6 0)->bC e' 15=some (.p 7 0)->bC e' 41=some v.L->bC e' 42=some (.i .i64 v.m)->bC e' 43=some (.i .i64 v.j)->bC e' 146=some v.OG->bC e' 147=some (.i .i64 v.og)->bC e' 148=some (.i .i64 v.q)->bC e' 19=some (.p 8 0)->bC e' 20=some (.i .i64 (a:Int))→
   K (.exit 5) e' [(1,{cells:=v.S}),(2,{cells:=v.R}),(3,{cells:=v.mv,mp:=some v.ks}),(6,{cells:=v.P}),(7,{cells:=v.Q}),(8,{cells:=v.C})] 9):
 Ab.Loop ay i3.ct i3.N 0 Mg K e h n:=by
 obtain ⟨S,R,ks,mv,P,Q,C,L,m,j,OG,og,q⟩:=v;obtain ⟨h1,h2,h3,h4,h5,h6,h7,h8⟩:=hv;dsimp only at*;have tB0: ∀j,ab j (rows Tp.l tp)=true:=λj=>fb j tp;have hat: ∀(i:Nat) t,tp[i]? =some t->List.take 22 (List.drop (i*22) (rows Tp.l tp))=t.l:=λi t hi=>dm Tp.len hi;generalize hTL:rows Tp.l tp=TL at*;refine Loop.dV (F:=F3 T) hT mo tp.length (λ_=>True) (λk=>[(5,.p 1 0),(6,.p 2 0),(7,.m 3),(11,.p 6 0),(15,.p 7 0),(41,L),(42,.i .i64 m),(43,.i .i64 j),(146,OG),(147,.i .i64 og),(148,.i .i64 q),(19,.p 8 0),(20,.i .i64 (if a<k then (a:Int) else -1)),(153,.fz TL tp.length),(154,.i .i64 (tp.length:Int)),(155,.i .i64 (k:Int))])
  (λk=>[(1,{cells:=S}),(2,{cells:=R}),(3,{cells:=mv,mp:=some ks}),(6,{cells:=P}),(7,{cells:=Q}),(8,{cells:=C})]) 9 (cr _) trivial he hh (λk hk _=> ?_)
 dsimp only [F3,i3,Mg];by_cases hlt:k<tp.length
 rotate_left
 ·have d1:decide ((k:Int)<(tp.length:Int))=false:=bw (by omega)
  obtain rfl:k=tp.length:=by omega
  have e1:(if a<tp.length then (a:Int) else -1)=(a:Int):=aT ha
  rw [e1];simp (maxSteps:=400000) only [go_sem,simprocAttr];exact hK _ rfl rfl rfl rfl rfl rfl rfl rfl rfl rfl rfl rfl rfl
 have d1:decide ((k:Int)<(tp.length:Int))=true:=af (by omega)
 have d2:decide (0<=(k:Int)/\(k:Int)<(tp.length:Int))=true:=af (by omega)
 have hw:IntKind.i64.wrap ((k:Int)+1)=((k+1:Nat):Int):=by grind [aN]
 obtain ⟨t,ht⟩: ∃t,tp[k]? =some t:=⟨_,bj hlt⟩;have hr:=hat k t ht;have hu:=hU k t ht;have t0:t.l[0]? =some (.i .i64 t.me):=rfl;have t5:t.l[5]? =some (.i .i64 t.sw.ou):=rfl;have tl:t.l.length=22:=rfl;have tone:aL t.l=true:=rfl;have tt:List.take 22 t.l=t.l:=rfl;have tB:=λj=>au (m:=j) _ t.aj;generalize t.l=TT at*;cases b1:(t.me==me)
 ·rw [b1,j5] at hu;have hka:k≠a:=tM hu.symm;have e1:(if a<k+1 then (a:Int) else -1)=(if a<k then (a:Int) else -1):=by
   omega
  rw [e1];generalize (if a<k then (a:Int) else -1)=X at*
  simp (maxSteps:=400000) only [go_sem,d1,d2,hw,hr,t0,tl,tone,b1,c0,h1,h2,h3,h4,h5,h6,h7,h8,tB0,hlt,AV.aj,aP,simprocAttr]
 ·cases b2:(t.sw.ou==ss)
  ·rw [b1,b2,mC] at hu;have hka:k≠a:=tM hu.symm;have e1:(if a<k+1 then (a:Int) else -1)=(if a<k then (a:Int) else -1):=by
    omega
   rw [e1];generalize (if a<k then (a:Int) else -1)=X at*
   simp (maxSteps:=400000) only [go_sem,d1,d2,hw,hr,t0,t5,tl,tone,b1,b2,c0,c5,h1,h2,h3,h4,h5,h6,h7,h8,tB0,hlt,AV.aj,aP,simprocAttr]
  ·rw [b1,b2,jW] at hu;have hka:k=a:=bN hu.symm;have e1:(if a<k+1 then (a:Int) else -1)=(k:Int):=by omega
   rw [e1];generalize (if a<k then (a:Int) else -1)=X at*
   simp (maxSteps:=400000) only [go_sem,d1,d2,hw,hr,t0,t5,tl,tone,b1,b2,c0,c5,h1,h2,h3,h4,h5,h6,h7,h8,tB0,hlt,AV.aj,aP,simprocAttr]
theorem Y5 {T:List (Nat×Ct)} (hT:Sound ay (cj T)) (v:Ev) (hv:v.ok) (TC WC:List AV) (hTC: ∀j,ab j TC=true) (hWC: ∀j,ab j WC=true) (xs:List Int) (hxl:xs.length<=1000) (ps:Int) (p4:v.P[4]? =some (.i .i64 ps)) (pl:v.P.length=9)
 (hown:xs.any (λy=>y==ps)=true) {K:bX} {e:Env} {h:Hp} {n:Nat}
 (he:iV 11 e [(5,.p 1 0),(6,.p 2 0),(7,.m 3),(11,.p 6 0),(15,.p 7 0),(41,v.L),(42,.i .i64 v.m),(43,.i .i64 v.j),(146,v.OG),(147,.i .i64 v.og),(148,.i .i64 v.q),(19,.p 8 0),(23,.p 9 0),(24,.p 10 0),(25,.b false),(227,.fz (rows aq xs) xs.length),(228,.i .i64 (xs.length:Int)),(229,.i .i64 0)])
 (hh:mX 11 h [(1,{cells:=v.S}),(2,{cells:=v.R}),(3,{cells:=v.mv,mp:=some v.ks}),(6,{cells:=v.P}),(7,{cells:=v.Q}),(8,{cells:=v.C}),(9,{cells:=TC}),(10,{cells:=WC})])
 (hK: ∀e',bC e' 5=some (.p 1 0)->bC e' 6=some (.p 2 0)->bC e' 7=some (.m 3)->bC e' 11=some (.p 6 0)->bC e' 15=some (.p 7 0)->bC e' 41=some v.L->bC e' 42=some (.i .i64 v.m)->bC e' 43=some (.i .i64 v.j)->bC e' 146=some v.OG->bC e' 147=some (.i .i64 v.og)->bC e' 148=some (.i .i64 v.q)->bC e' 19=some (.p 8 0)->bC e' 23=some (.p 9 0)->bC e' 24=some (.p 10 0)->bC e' 25=some (.b true)→
   K (.exit 7) e' [(1,{cells:=v.S}),(2,{cells:=v.R}),(3,{cells:=v.mv,mp:=some v.ks}),(6,{cells:=v.P}),(7,{cells:=v.Q}),(8,{cells:=v.C}),(9,{cells:=TC}),(10,{cells:=WC})] 11):
 Ab.Loop ay i3.ct i3.N 0 Mh K e h n:=by
 obtain ⟨S,R,ks,mv,P,Q,C,L,m,j,OG,og,q⟩:=v;obtain ⟨h1,h2,h3,h4,h5,h6,h7,h8⟩:=hv;dsimp only at*;have hat: ∀(k:Nat) x,xs[k]? =some x->(rows aq xs)[k]? =some (.i .i64 x):=λk x hk=>qm hk;have iB1:=λj=>iB j xs;generalize rows aq xs=XL at*;have e0:(xs.take 0).any (λy=>y==ps)=false:=by rw [oD];rfl
 rw [<-e0] at he;refine Loop.dV (F:=F3 T) hT mo xs.length (λ_=>True) (λk=>[(5,.p 1 0),(6,.p 2 0),(7,.m 3),(11,.p 6 0),(15,.p 7 0),(41,L),(42,.i .i64 m),(43,.i .i64 j),(146,OG),(147,.i .i64 og),(148,.i .i64 q),(19,.p 8 0),(23,.p 9 0),(24,.p 10 0),(25,.b ((xs.take k).any (λy=>y==ps))),(227,.fz XL xs.length),(228,.i .i64 (xs.length:Int)),(229,.i .i64 (k:Int))])
  (λk=>[(1,{cells:=S}),(2,{cells:=R}),(3,{cells:=mv,mp:=some ks}),(6,{cells:=P}),(7,{cells:=Q}),(8,{cells:=C}),(9,{cells:=TC}),(10,{cells:=WC})]) 11 (cr _) trivial he hh (λk hk _=> ?_)
 dsimp only [F3,i3,Mh];by_cases hlt:k<xs.length
 rotate_left
 ·have d1:decide ((k:Int)<(xs.length:Int))=false:=bw (by omega)
  obtain rfl:k=xs.length:=by omega
  rw [jh,hown];simp (maxSteps:=400000) only [go_sem,simprocAttr];exact hK _ rfl rfl rfl rfl rfl rfl rfl rfl rfl rfl rfl rfl rfl rfl rfl
 have d1:decide ((k:Int)<(xs.length:Int))=true:=af (by omega)
 have d2:decide (0<=(k:Int)/\(k:Int)<(xs.length:Int))=true:=af (by omega)
 have hw:IntKind.i64.wrap ((k:Int)+1)=((k+1:Nat):Int):=by grind [aN]
 obtain ⟨x,hx⟩: ∃x,xs[k]? =some x:=⟨_,bj hlt⟩;have hr:=hat k x hx;have es:(xs.take (k+1)).any (λy=>y==ps)=((xs.take k).any (λy=>y==ps)||x==ps):=by
  grind [jY,x7,List.any_append]
 rw [es];cases b1:(xs.take k).any (λy=>y==ps)
 ·simp (maxSteps:=400000) only [go_sem,d1,d2,hw,hr,p4,h1,h2,h3,h4,h5,h6,h7,h8,iB1,hTC,hWC,hlt,vp,di,AV.aj,aP,simprocAttr]
 ·simp (maxSteps:=400000) only [go_sem,d1,d2,hw,hr,h1,h2,h3,h4,h5,h6,h7,h8,iB1,hTC,hWC,hlt,Bool.true_or,di,AV.aj,aP,simprocAttr]
structure agE (s:gK) (r:Rm) (p:Md) (o:Og) (a:Nat) (t:Tp) (w:aW):Prop where
 ht:r.tp[a]? =some t
 U: ∀(k:Nat) t',r.tp[k]? =some t'->((t'.me==o.me)&&(t'.sw.ou==o.p.ss))=decide (k=a)
 me:t.me=o.me
 ss:t.sh=o.p.ss
 sh:0<=o.p.ss/\o.p.ss<(s.r.sh.length:Int)
 mr:0<=o.me/\o.me<(s.r.ms.length:Int)
 hw:s.r.sh[o.p.ss.toNat]? =some w
 own:w.ss.any (λy=>y==p.ss)=true
 bar:oL w o.me=false
 wo:w.ok=true
 wl:w.ss.length<=3
theorem acA {s:gK} {r:Rm} {m:List (Kx×Int)} {a:A7} (h:Inv s r m) (hb:DT s a=true) {o:Og} (ho:o∈fC r (s.pk (s.c a))): ∃b t w,agE s r (s.pk (s.c a)) o b t w:=by
 obtain ⟨hE,hI,_,_,snd⟩:=Inv.push h hb;have hs:=h.sc;obtain ⟨_,hl,_⟩:=FR hb;obtain ⟨x,hx,hk,hk3,hxk⟩:=A8 (a:=a) hs hl;have hv:=(AE hs hb).1;have hi:=GW (a:=a) hl;simp only [fC,hI] at ho;obtain ⟨t,ht,hot⟩:=List.mem_flatMap.1 ho;unfold oT at hot;split at hot
 ·rename_i hsh;obtain ⟨q,hq,rfl⟩:=List.mem_map.1 hot;have hqs:q.ss=t.sh:=by
   rcases snd t ht hsh with ⟨e,_⟩|⟨o,e,e2,_⟩
   all_goals grind
  obtain ⟨b,hbt⟩:=gF ht;have hbl:=(cv.1 hbt).1;have htp:=gW h.gd hbt;obtain ⟨_,y,hy,hbar,_,_,_,_,_⟩:=je htp;simp only [iJ,ak] at htp;have hmr:=bD htp.1;rw [hsh,h.sh,show ((s.i a:Int)).toNat=s.i a from rfl,hx] at hy
  cases hy;have hwo:=du.1 hs.so x (bJ hx);refine ⟨b,t,x,hbt,λk t' hk'=> ?_,rfl,hqs.symm,?_,?_,?_,?_,hbar,hwo,(hs.ss _ x hx).2.2⟩
  ·rw [rh,ak,ik,ik,bg];constructor
   ·rintro ⟨e1,e2⟩;have e3:=(h.ti t' (bJ hk')).ou;have hkl:=(cv.1 hk').1;have key:=C3.1 (uu h.gd)
    grind
   ·rintro rfl;rw [hbt] at hk';cases hk';exact ⟨rfl,by show t.sw.ou=q.ss;rw [(h.ti t ht).ou,hqs]⟩
  ·grind
  ·show 0<=t.me/\t.me<_;have:=h.ms;omega
  ·grind
  ·rw [List.any_eq_true];exact ⟨_,bJ hxk,by rw [hv.2.1];simp⟩
 ·cases hot
def mZ (m:List (Kx×Int)):List AV:=(zV m).map (.i .i64)
theorem qn (j:Nat) (m:List (Kx×Int)):ab j (mZ m)=true:=nB j _
theorem wz (l:List Kx) (x y:Int):(bL.a l).find (.agg [.i .i64 x,.i .i64 y])=some (l.findIdx? ((x,y)== ·)):=rfl
theorem NU {T:List (Nat×Ct)} (hT:Sound ay (cj T)) (x:L2) (hx:jK x) (a:A7) (hb:DT x.s a=true) (Q:List AV) (hQ: ∀j,ab j Q=true) (L:AV) (hL: ∀j,L.aj j=true) (m j:Int)
 (hog:(fC x.r (x.s.pk (x.s.c a))).length<=1000) (q:Nat) (hq:q<(fC x.r (x.s.pk (x.s.c a))).length) {K:bX}  :
 jw (F3 T) Cc (fR K λe' h' n'=>(q<(fC x.r (x.s.pk (x.s.c a))).length/\True)∧
  iV 8 e' [(5,.p 1 0),(6,.p 2 0),(7,.m 3),(11,.p 6 0),(15,.p 7 0),(41,L),(42,.i .i64 m),(43,.i .i64 j),(146,.fz (rows Og.l (fC x.r (x.s.pk (x.s.c a)))) (fC x.r (x.s.pk (x.s.c a))).length),(147,.i .i64 ((fC x.r (x.s.pk (x.s.c a))).length:Int)),(148,.i .i64 ((q+1:Nat):Int))]∧
  mX 8 h' [(1,{cells:=(x.s.up (x.s.c a)).a}),(2,{cells:=x.r.a}),(3,{cells:=mZ (mO x.m ((fC x.r (x.s.pk (x.s.c a))).take (q+1))),mp:=some (.a (zK (mO x.m ((fC x.r (x.s.pk (x.s.c a))).take (q+1)))))}),(6,{cells:=(x.s.pk (x.s.c a)).l}),(7,{cells:=Q})])
  [(5,.p 1 0),(6,.p 2 0),(7,.m 3),(11,.p 6 0),(15,.p 7 0),(41,L),(42,.i .i64 m),(43,.i .i64 j),(146,.fz (rows Og.l (fC x.r (x.s.pk (x.s.c a)))) (fC x.r (x.s.pk (x.s.c a))).length),(147,.i .i64 ((fC x.r (x.s.pk (x.s.c a))).length:Int)),(148,.i .i64 (q:Int))]
  [(1,{cells:=(x.s.up (x.s.c a)).a}),(2,{cells:=x.r.a}),(3,{cells:=mZ (mO x.m ((fC x.r (x.s.pk (x.s.c a))).take q)),mp:=some (.a (zK (mO x.m ((fC x.r (x.s.pk (x.s.c a))).take q))))}),(6,{cells:=(x.s.pk (x.s.c a)).l}),(7,{cells:=Q})] 8:=by
 obtain ⟨hE,hI,hinv,hch,_⟩:=Inv.push hx hb;have hs':=hinv.sc;obtain ⟨o,ho⟩: ∃o,(fC x.r (x.s.pk (x.s.c a)))[q]? =some o:=⟨_,bj hq⟩;obtain ⟨hsq,hg0,hg1⟩:=hch q o ho;obtain ⟨b,t,w,hf⟩:=acA hx hb (bJ ho);have hM:=agi (m:=x.m) ho;have hnd:=Uc hx.nd ((fC x.r (x.s.pk (x.s.c a))).take q);rw [hM];have s0:(x.s.up (x.s.c a)).a[0]? =some (.fz (rows Mb.l x.s.r.ms) x.s.r.ms.length):=rfl;have s1:(x.s.up (x.s.c a)).a[1]? =some (.fz (rows aW.l x.s.r.sh) x.s.r.sh.length):=rfl;have r2:x.r.a[2]? =some (.fz (rows Tp.l x.r.tp) x.r.tp.length):=rfl;have hor:List.take 10 (List.drop (q*10) (rows Og.l (fC x.r (x.s.pk (x.s.c a)))))=o.l:=dm Og.len ho;have oB:=λj=>M9 j (fC x.r (x.s.pk (x.s.c a)));have SB:=λj=>gK.aj j (x.s.up (x.s.c a));have RB:=λj=>Rm.aj j x.r;have PB:=λj=>au (m:=j) _ (x.s.pk (x.s.c a)).aj;have MB:=λj=>qn j (mO x.m ((fC x.r (x.s.pk (x.s.c a))).take q));have OB:=λj=>au (m:=j) _ o.aj;have TB:=λj=>au (m:=j) _ t.aj;have WB:=λj=>au (m:=j) _ w.aj;have p4:(x.s.pk (x.s.c a)).l[4]? =some (.i .i64 (x.s.pk (x.s.c a)).ss):=rfl;have pl:(x.s.pk (x.s.c a)).l.length=9:=rfl;have tl1:x.r.tp.length<=1000:=by have:=(ek hx.gd).2.2.1;omega
 have l3:=λC hC c0 c5 cl K e h n=> @Vn T hT ⟨(x.s.up (x.s.c a)).a,x.r.a,.a (zK (mO x.m ((fC x.r (x.s.pk (x.s.c a))).take q))),mZ (mO x.m ((fC x.r (x.s.pk (x.s.c a))).take q)),(x.s.pk (x.s.c a)).l,Q,C,L,m,j,.fz (rows Og.l (fC x.r (x.s.pk (x.s.c a)))) (fC x.r (x.s.pk (x.s.c a))).length,((fC x.r (x.s.pk (x.s.c a))).length:Int),(q:Int)⟩
  ⟨SB,RB,MB,PB,hQ,hC,hL,λj=>oB j⟩ x.r.tp tl1 o.me o.p.ss b hf.U (cv.1 hf.ht).1 c0 c5 cl K e h n
 have l4:=λC hC TC WC hTC hWC K e h n=> @Y5 T hT ⟨(x.s.up (x.s.c a)).a,x.r.a,.a (zK (mO x.m ((fC x.r (x.s.pk (x.s.c a))).take q))),mZ (mO x.m ((fC x.r (x.s.pk (x.s.c a))).take q)),(x.s.pk (x.s.c a)).l,Q,C,L,m,j,.fz (rows Og.l (fC x.r (x.s.pk (x.s.c a)))) (fC x.r (x.s.pk (x.s.c a))).length,((fC x.r (x.s.pk (x.s.c a))).length:Int),(q:Int)⟩
  ⟨SB,RB,MB,PB,hQ,hC,hL,λj=>oB j⟩ TC WC hTC hWC w.ss (by have:=hf.wl;omega) (x.s.pk (x.s.c a)).ss p4 pl hf.own K e h n
 have htr:List.take 22 (List.drop (b*22) (rows Tp.l x.r.tp))=t.l:=dm Tp.len hf.ht;have htr1:(rows Tp.l x.r.tp)[b*22+1]? =some (.i .i64 o.p.ss):=by
  rw [<-hf.ss];exact bM (f:=Tp.l) (z:=22) (j:=1) (v:= .i .i64 t.sh) Tp.len hf.ht rfl
 have hwr:List.take 4 (List.drop (o.p.ss.toNat*4) (rows aW.l x.s.r.sh))=w.l:=dm aW.len hf.hw;have tB0:=λj=>fb j x.r.tp;have sB0:=λj=>cG j x.s.r.sh;have mB0:=λj=>fT j x.s.r.ms;have hbl:=(cv.1 hf.ht).1;have hsh:=hf.sh;have hmr:=hf.mr;have hms:=hx.sc.ms;have d1:decide ((q:Int)<((fC x.r (x.s.pk (x.s.c a))).length:Int))=true:=af (by omega)
 have d2:decide (0<=(q:Int)/\(q:Int)<((fC x.r (x.s.pk (x.s.c a))).length:Int))=true:=af (by omega)
 have d3:decide ((b:Int)<0)=false:=bw (by omega)
 have d4:decide (0<=(b:Int)/\(b:Int)<(x.r.tp.length:Int))=true:=af (by omega)
 have d5:decide (o.p.ss<0)=false:=bw (by omega)
 have d6:decide (o.p.ss>=(x.s.r.sh.length:Int))=false:=bw (by omega)
 have d7:decide (o.me<0)=false:=bw (by omega)
 have d8:decide (o.me>=(x.s.r.ms.length:Int))=false:=bw (by omega)
 have d9:decide (0<=o.p.ss/\o.p.ss<(x.s.r.sh.length:Int))=true:=af (by omega)
 have d10:decide (0<=o.me)=true:=af (by omega)
 have hw':IntKind.i64.wrap ((q:Int)+1)=((q+1:Nat):Int):=by grind [aN]
 have hbar:=hf.bar;simp only [oL,Bool.or_eq_false_iff] at hbar;have wok:=hf.wo;simp only [aW.ok,ak] at wok;have wbl:=bD wok.1;have f1:=Ag w.bl o.me (by omega)
 have f2:=K5 _ (GR w.bl o.me.toNat wbl);have f3:IntKind.i64.wrap (cy (o.me,o.p.ss) (mO x.m ((fC x.r (x.s.pk (x.s.c a))).take q))+1)=cy (o.me,o.p.ss) (mO x.m ((fC x.r (x.s.pk (x.s.c a))).take q))+1:=aN (by omega) (by omega)
 have f4:(cy (o.me,o.p.ss) (mO x.m ((fC x.r (x.s.pk (x.s.c a))).take q))+1).tmod 65536=o.p.sq:=by grind
 have f5:IntKind.i64.wrap o.p.sq=o.p.sq:=by grind [aN]
 have f6:(o.p.sq !=o.p.sq)=false:=by simp
 have b1:=hbar.1;have b2:=hbar.2;have o0:o.l[0]? =some (.i .i64 o.me):=rfl;have o3:o.l[3]? =some (.i .i64 o.p.sq):=rfl;have o5:o.l[5]? =some (.i .i64 o.p.ss):=rfl;have ol:o.l.length=10:=rfl;have oo:aL o.l=true:=rfl;have ot:List.take 10 o.l=o.l:=rfl;have t1:t.l[1]? =some (.i .i64 o.p.ss):=by grind
 have tl:t.l.length=22:=rfl;have too:aL t.l=true:=rfl;have tt:List.take 22 t.l=t.l:=rfl;have w0:w.l[0]? =some (.i .i64 w.ow):=rfl;have w1:w.l[1]? =some (.fz (rows aq w.ss) w.ss.length):=rfl;have w3:w.l[3]? =some (.i .u64 w.bl):=rfl;have wl:w.l.length=4:=rfl;have wo:aL w.l=true:=rfl;have wt:List.take 4 w.l=w.l:=rfl;have wB1:=λj=>iB j w.ss;generalize hOG:rows Og.l (fC x.r (x.s.pk (x.s.c a)))=OG,hln:(fC x.r (x.s.pk (x.s.c a))).length=ln,hMq:mO x.m ((fC x.r (x.s.pk (x.s.c a))).take q)=M,(x.s.up (x.s.c a)).a=S,(x.s.pk (x.s.c a)).l=PL,rows Tp.l x.r.tp=TL,rows aW.l x.s.r.sh=SL,rows Mb.l x.s.r.ms=ML,rows aq w.ss=WS,x.r.a=R at*;have l3:=l3 o.l OB o0 o5 ol;have l4:=l4 o.l OB t.l w.l TB WB;generalize o.l=OL,t.l=TT,w.l=WW at*;dsimp only [F3,i3,Cc];simp (maxSteps:=400000) only [go_sem,d1,d2,hor,ol,oo,r2,simprocAttr];refine l3 _ _ _ _ ?_ ?_ (λe' g5 g6 g7 g11 g15 g41 g42 g43 g146 g147 g148 g19 g20=> ?_)
 ·simp (maxSteps:=400000) only [go_sem,hL,oB,tB0,AV.aj,aP,simprocAttr]
 ·simp (maxSteps:=400000) only [go_sem,SB,RB,MB,PB,hQ,OB,simprocAttr]
 dsimp only at g41 g42 g43 g146 g147 g148 ⊢;simp (maxSteps:=400000) only [go_sem,g5,g6,g19,g20,d3,d4,d5,d6,d7,d8,d9,r2,htr1,htr,s0,s1,t1,tl,too,hwr,wl,wo,w1,o0,simprocAttr];refine l4 _ _ _ _ ?_ ?_ (λe2 k5 k6 k7 k11 D5 k41 k42 k43 Ba k147 Bg k19 Hy Ho k25=> ?_)
 ·simp (maxSteps:=400000) only [go_sem,g5,g6,g7,g11,g15,g41,g42,g43,g146,g147,g148,g19,hL,oB,wB1,AV.aj,aP,simprocAttr]
 ·simp (maxSteps:=400000) only [go_sem,SB,RB,MB,PB,hQ,OB,TB,WB,simprocAttr]
 dsimp only at k41 k42 k43 Ba k147 Bg ⊢;have MB':=qn 8 (j9 (o.me,o.p.ss) o.p.sq M);cases hix:(zK M).findIdx? ((o.me,o.p.ss)== ·) with
 |some ix=>
  obtain ⟨e1,e2',e3,e4,e5,e6⟩:=Jv o.p.sq hix;have gm:(mZ M)[ix]? =some (.i .i64 (cy (o.me,o.p.ss) M)):=by
   rw [mZ,dX,cy,e1];simp [*]
  have gs:(mZ M).set ix (.i .i64 o.p.sq)=mZ (j9 (o.me,o.p.ss) o.p.sq M):=by rw [mZ,mZ,e4,List.map_set]
  have fk:(bL.a (zK M)).find (.agg [.i .i64 o.me,.i .i64 o.p.ss])=some (some ix):=by rw [wz,hix]
  rw [e3] at*;generalize mZ (j9 (o.me,o.p.ss) o.p.sq M)=MC',mZ M=MC,zK M=MK,cy (o.me,o.p.ss) M=MG at*;simp (maxSteps:=400000) only [go_sem,k5,k6,k7,k11,D5,k41,k42,k43,Ba,k147,Bg,k19,Hy,Ho,k25,o0,o3,t1,w0,w3,fk,gm,gs,f1,f2,f3,f4,f6,b1,b2,d10,hw',hL,oB,SB,RB,MB',PB,hQ,AV.aj,aP,simprocAttr];exact hq
 |none=>
  obtain ⟨e1,e3,e4,_⟩:=KL o.p.sq hix;have m0:cy (o.me,o.p.ss) M=0:=by rw [cy,e1];rfl
  have q1:o.p.sq=1:=by omega
  have f7:(o.p.sq !=1)=false:=by rw [q1];rfl
  have gs:mZ M++[.i .i64 o.p.sq]=mZ (j9 (o.me,o.p.ss) o.p.sq M):=by rw [mZ,mZ,e4,List.map_append];rfl
  have fk:(bL.a (zK M)).find (.agg [.i .i64 o.me,.i .i64 o.p.ss])=some none:=by rw [wz,hix]
  have ml:(mZ M).length=(zK M).length:=by simp [mZ,ig]
  have c1:((0:Int)+1).tmod 65536=1:=by decide
  rw [e3] at*;generalize mZ (j9 (o.me,o.p.ss) o.p.sq M)=MC',mZ M=MC,zK M=MK at*;simp (maxSteps:=400000) only [go_sem,k5,k6,k7,k11,D5,k41,k42,k43,Ba,k147,Bg,k19,Hy,Ho,k25,o0,o3,t1,w0,w3,fk,gs,f1,f2,f7,ml,b1,b2,d10,hw',hL,oB,SB,RB,MB',PB,hQ,AV.aj,aP,simprocAttr];exact hq
theorem VS {T:List (Nat×Ct)} (hT:Sound ay (cj T)) (x:L2) (hx:jK x) (a:A7) (hb:DT x.s a=true) (Q:List AV) (hQ: ∀j,ab j Q=true) (L:AV) (hL: ∀j,L.aj j=true) (m j:Int)
 (hog:(fC x.r (x.s.pk (x.s.c a))).length<=1000) {K:bX} {e:Env} {h:Hp} {n:Nat}
 (he:iV 8 e [(5,.p 1 0),(6,.p 2 0),(7,.m 3),(11,.p 6 0),(15,.p 7 0),(41,L),(42,.i .i64 m),(43,.i .i64 j),(146,.fz (rows Og.l (fC x.r (x.s.pk (x.s.c a)))) (fC x.r (x.s.pk (x.s.c a))).length),(147,.i .i64 ((fC x.r (x.s.pk (x.s.c a))).length:Int)),(148,.i .i64 0)])
 (hh:mX 8 h [(1,{cells:=(x.s.up (x.s.c a)).a}),(2,{cells:=x.r.a}),(3,{cells:=mZ x.m,mp:=some (.a (zK x.m))}),(6,{cells:=(x.s.pk (x.s.c a)).l}),(7,{cells:=Q})])
 (hK: ∀e',bC e' 5=some (.p 1 0)->bC e' 6=some (.p 2 0)->bC e' 7=some (.m 3)->bC e' 15=some (.p 7 0)->bC e' 41=some L->bC e' 42=some (.i .i64 m)->bC e' 43=some (.i .i64 j)→
   K (.exit 3) e' [(1,{cells:=(x.s.up (x.s.c a)).a}),(2,{cells:=x.r.a}),(3,{cells:=mZ (mO x.m (fC x.r (x.s.pk (x.s.c a)))),mp:=some (.a (zK (mO x.m (fC x.r (x.s.pk (x.s.c a))))))}),(6,{cells:=(x.s.pk (x.s.c a)).l}),(7,{cells:=Q})] 8):
 Ab.Loop ay i3.ct i3.N 0 Cc K e h n:=by
 have hr:=λq hq=> @NU T hT x hx a hb Q hQ L hL m j hog q hq K;refine Loop.dV (F:=F3 T) hT mo (fC x.r (x.s.pk (x.s.c a))).length (λ_=>True) (λq=>[(5,.p 1 0),(6,.p 2 0),(7,.m 3),(11,.p 6 0),(15,.p 7 0),(41,L),(42,.i .i64 m),(43,.i .i64 j),(146,.fz (rows Og.l (fC x.r (x.s.pk (x.s.c a)))) (fC x.r (x.s.pk (x.s.c a))).length),(147,.i .i64 ((fC x.r (x.s.pk (x.s.c a))).length:Int)),(148,.i .i64 (q:Int))])
  (λq=>[(1,{cells:=(x.s.up (x.s.c a)).a}),(2,{cells:=x.r.a}),(3,{cells:=mZ (mO x.m ((fC x.r (x.s.pk (x.s.c a))).take q)),mp:=some (.a (zK (mO x.m ((fC x.r (x.s.pk (x.s.c a))).take q))))}),(6,{cells:=(x.s.pk (x.s.c a)).l}),(7,{cells:=Q})]) 8 (cr _) trivial he (by rw [oD];exact hh) (λq hq _=> ?_)
 by_cases hlt:q<(fC x.r (x.s.pk (x.s.c a))).length
 ·simp_all
 have d1:decide ((q:Int)<((fC x.r (x.s.pk (x.s.c a))).length:Int))=false:=bw (by omega)
 obtain rfl:q=(fC x.r (x.s.pk (x.s.c a))).length:=by omega
 rw [jh];clear hr;generalize rows Og.l (fC x.r (x.s.pk (x.s.c a)))=OG,mO x.m (fC x.r (x.s.pk (x.s.c a)))=M,(fC x.r (x.s.pk (x.s.c a))).length=ln,(x.s.up (x.s.c a)).a=S,(x.s.pk (x.s.c a)).l=PL,x.r.a=R at*;dsimp only [F3,i3,Cc];simp (maxSteps:=400000) only [go_sem,simprocAttr];exact hK _ rfl rfl rfl rfl rfl rfl rfl
/-! scenes, parsed -/
def VD:AV->Option (List Md)
 | .fz c n=>bc 9 Jj n c
 |_=>none
def El:List AV->Option (List (List Md))
 |[]=>some []
 |v::r=>(VD v).bind λl=>(El r).bind λq=>some (l::q)
def E7:List AV->Option (List Int)
 |[]=>some []
 | .i .i64 x::r=>(E7 r).bind λq=>some (x::q)
 |_=>none
def scA (c:List AV):Option gK:=(qX (c.take 3)).bind λr=>(El ((c.drop 3).take 15)).bind λq=>(E7 (c.drop 18)).bind λn=>some ⟨r,q,n⟩
theorem LP: ∀q:List (List Md),El (q.map qV)=some q
 |[]=>rfl
 |l::q=>by
  simp only [fJ,El,qV,VD,dM Md.len vG,LP q,aC]
theorem G1: ∀{c:List AV} {q:List (List Md)},El c=some q->c=q.map qV
 |[],q,h=>by grind [El,aI]
 |v::r,q,h=>by
  simp only [El,av,aI] at h;obtain ⟨l,h1,q',h2,rfl⟩:=h;have e:=G1 h2;unfold VD at h1;split at h1
  ·obtain ⟨rfl,rfl⟩:=bu PD h1;rw [e];rfl
  ·cases h1
theorem Mf: ∀q:List Int,E7 (q.map (.i .i64))=some q
 |[]=>rfl
 |x::q=>by simp only [fJ,E7,Mf q,aC]
theorem GH: ∀{c:List AV} {q:List Int},E7 c=some q->c=q.map (.i .i64)
 |[],q,h=>by grind [E7,aI]
 |v::r,q,h=>by
  unfold E7 at h;split at h
  ·grind
  ·rename_i x r' h0;cases h0;simp only [av,aI] at h;obtain ⟨q',h2,rfl⟩:=h;rw [GH h2];rfl
  ·cases h
theorem We {c:List AV} {s:gK} (h:scA c=some s):c=s.a:=by
 simp only [scA,av,aI] at h;obtain ⟨r,h1,q,h2,n,h3,rfl⟩:=h;have e1:=dW h1;have e2:=G1 h2;have e3:=GH h3;show c=r.a++(q.map qV++n.map (.i .i64))
 grind [tG,jr]
theorem acD {s:gK} (h:s.q.length=15):scA s.a=some s:=by
 have h3:s.r.a.length=3:=rfl;have e1:s.a.take 3=s.r.a:=by rw [gK.a,List.take_left' h3]
 have e2:s.a.drop 3=s.q.map qV++s.n.map (.i .i64):=by rw [gK.a,List.drop_left' h3]
 have hl:(s.q.map qV).length=15:=by grind
 have e3:(s.a.drop 3).take 15=s.q.map qV:=by grind
 have e4:s.a.drop 18=s.n.map (.i .i64):=by
  rw [show s.a.drop 18=(s.a.drop 3).drop 15 by rw [tG],e2,List.drop_left' hl]
 simp_all [scA,dH,LP,Mf,aC]
def a7A:List AV->Option A7
 |[.i .u8 a,.i .u8 b,.i .u8 c,.i .u8 d,.i .u8 e,.i .u8 f,.i .u16 g]=>some ⟨a,b,c,d,e,f,g⟩
 |_=>none
theorem abW (a:A7):a7A a.l=some a:=rfl
theorem U4 {c:List AV} {a:A7} (h:a7A c=some a):c=a.l:=by
 unfold a7A at h;split at h
 ·cases h;rfl
 ·cases h
open Classical in
noncomputable def Ep:Ct
 |[.agg c,.agg d],_,n=>(scA c).bind λs=>(a7A d).bind λa=>some (decide (uT s/\a.ok=true),{v:=Tr s a,n})
 |_,_,_=>none
open Classical in
theorem s12:ax ay 12 Ep:=λargs h n c E hc ht=>by
 unfold Ep at hc;split at hc
 ·simp only [av,aI,aV] at hc;obtain ⟨s,hs,a,ha,rfl,rfl⟩:=hc;obtain ⟨h1,h2⟩:=bN ht;rw [We hs,U4 ha];exact aA.pure (by kernel_rfl) (by simp only [ab,AV.aj,gK.aj,A7.aj,aG]) (Nz s a) (w12 s a h1 h2) _ _
 ·cases hc
open Classical in
theorem Ja {s:gK} {a:A7} (hs:uT s) (ha:a.ok=true) (h:Hp) (n:Nat):Ep [.agg s.a,.agg a.l] h n=some (true,{v:=Tr s a,n}):=by
 simp only [Ep,acD hs.q,abW,aC];rw [af (And.intro hs ha)]
noncomputable abbrev sv (k11':Ct):List (Nat×Ct):=[(10,Mq),(11,k11'),(12,Ep),(13,Pm),(14,BU),(15,D5),(16,BR),(17,yF)]
theorem xx {k11':Ct} (h11:ax ay 11 k11'):Sound ay (cj (sv k11')):=Sound.cons s10 (Sound.cons h11 (Sound.cons s12 (Sound.cons s13 (Sound.cons s14 (Sound.cons s15 (Sound.cons s16 (Sound.cons s17 Sound.nil)))))))
abbrev aE (al:List A7) (m:Nat) (j:Nat):Env:=[(5,.p 1 0),(6,.p 2 0),(7,.m 3),(41,.fz (rows A7.l al) m),(42,.i .i64 (m:Int)),(43,.i .i64 (j:Int))]
abbrev aH (x:L2):Hp:=[(1,{cells:=x.s.a}),(2,{cells:=x.r.a}),(3,{cells:=mZ x.m,mp:=some (.a (zK x.m))})]
theorem U9 {x:Int} (h:0<=x/\x<=255):x.tmod 8=x % 8/\x.tmod 10=x % 10/\x.tmod 3=x % 3/\IntKind.i64.wrap x=x/\IntKind.i64.wrap (x % 10)=x % 10/\IntKind.i64.wrap (x % 3)=x % 3/\IntKind.i64.wrap (1+x % 10)=1+x % 10:=
 ⟨fA h.1,fA h.1,fA h.1,aN (by omega) (by omega),aN (by omega) (by omega),aN (by omega) (by omega),aN (by omega) (by omega)⟩
theorem Vi {ss:Int} {p:Md} (h:Tf ss p):p.fin=true/\p.pl.length<=1000000000:=by
 obtain ⟨_,_,_,_,hf,x,a,b,_,hp⟩:=h;refine ⟨hf,?_⟩;have:p.pl.length=7:=by rw [hp];rfl
 omega
theorem UO {k11':Ct} (h11:ax ay 11 k11') (x:L2) (hx:jK x) (al:List A7) (m:Nat) (j:Nat) (hj:j<m) (hm:m<=40) (hml:m<=al.length) (a:A7) (ha:al[j]? =some a) (hok:a.ok=true) (hb:DT x.s a=true) {K:bX}:
 jw (F3 (sv k11')) nq (fR K λe' h' n'=>(j<m/\True)/\iV 4 e' (aE al m (j+1))/\mX 4 h' (aH (aPu x a))) (aE al m j) (aH x) 4:=by
 obtain ⟨hE,hI,hinv,hch,_⟩:=Inv.push hx hb;have hs:=hx.sc;have hs':=hinv.sc;have hv:=(AE hs hb).1;obtain ⟨_,hl,_⟩:=FR hb;obtain ⟨pf,ppl⟩:=Vi hv;have ho:=hok;simp only [A7.ok,ak] at ho;obtain ⟨o1,o2,o3,o4,o5,o6,o7⟩:=ho;obtain ⟨-,-,-,v2,-⟩:=U9 (bD o2);obtain ⟨-,-,-,v3,-⟩:=U9 (bD o3);have o2:=bD o2;have o3:=bD o3;have k2: ∀(h:Hp) n,Ep [.agg x.s.a,.agg a.l] h n=some (true,{v:= .bz [.agg (x.s.up (x.s.c a)).a,.agg (x.s.pk (x.s.c a)).l,.b true],n}):=λh n=>by
  rw [Ja hs hok,Tr,hb];rfl
 have k3: ∀(h:Hp) n,Pm [.agg x.r.a,.agg (x.s.pk (x.s.c a)).l] h n=some (true,{v:= .bz [.agg (kB x.r (x.s.pk (x.s.c a))).a,.fz (rows Og.l (fC x.r (x.s.pk (x.s.c a)))) (fC x.r (x.s.pk (x.s.c a))).length,.i .i64 0],n}):=λh n=>by
  have e1:tn x.r (x.s.pk (x.s.c a))=kB x.r (x.s.pk (x.s.c a)):=by rw [tn,aT hE]
  have e2:Ax x.r (x.s.pk (x.s.c a))=fC x.r (x.s.pk (x.s.c a)):=by rw [Ax,aT hE]
  simp only [Pm,dH,vG,aC,Inv.is hx,pf,af ppl,aG,ZP,e1,e2,hE]
 have k7: ∀(h:Hp) n,yF [.agg (kB x.r (x.s.pk (x.s.c a))).a] h n=some (true,{v:= .i .i64 0,n}):=λh n=>by
  simp only [yF,dH,aC,Inv.is hinv,hinv.gd,cM]
 have hlen:(fC x.r (x.s.pk (x.s.c a))).length<=1000:=by
  have h1:(fC x.r (x.s.pk (x.s.c a))).length<=x.r.tp.length:=by
   have key: ∀tp:List Tp,(tp.flatMap (oT (mJ x.r.sh (x.s.pk (x.s.c a)).ss) (x.s.pk (x.s.c a)))).length<=tp.length:=λtp=>by
    induction tp with
    |nil=>exact bx 0
    |cons t tp ih=>
     have h0:(oT (mJ x.r.sh (x.s.pk (x.s.c a)).ss) (x.s.pk (x.s.c a)) t).length<=1:=by
      unfold oT;split
      ·rcases AX t.sw (x.s.pk (x.s.c a)) with e|⟨q,e⟩
       ·rw [e];exact cr _
       ·rw [e];exact bx 1
      ·exact cr _
     rw [List.flatMap_cons,cm,List.length_cons];omega
   exact key _
  have:=(ek hx.gd).2.2.1;omega
 have hor:List.take 7 (List.drop (j*7) (rows A7.l al))=a.l:=dm A7.len ha;have aB: ∀k,ab k (rows A7.l al)=true:=λk=>au _ (bh A7.aj);have oB:=λj=>M9 j (fC x.r (x.s.pk (x.s.c a)));have SB:=λj=>gK.aj j x.s;have SB':=λj=>gK.aj j (x.s.up (x.s.c a));have RB:=λj=>Rm.aj j x.r;have RB':=λj=>Rm.aj j (kB x.r (x.s.pk (x.s.c a)));have PB:=λj=>au (m:=j) _ (x.s.pk (x.s.c a)).aj;have MB:=λj=>qn j x.m;have MB':=λj=>qn j (mO x.m (fC x.r (x.s.pk (x.s.c a))));have d1:decide ((j:Int)<(m:Int))=true:=af (by omega)
 have d2:decide (0<=(j:Int)/\(j:Int)<(m:Int))=true:=af (by omega)
 have hw:IntKind.i64.wrap ((j:Int)+1)=((j+1:Nat):Int):=by rw [aN (by omega) (by omega)];omega
 have s0:(x.s.up (x.s.c a)).a[0]? =some (.fz (rows Mb.l x.s.r.ms) x.s.r.ms.length):=rfl;have s1:(x.s.up (x.s.c a)).a[1]? =some (.fz (rows aW.l x.s.r.sh) x.s.r.sh.length):=rfl;have l1:=sN hs;have l2:=sN hs';have p1:=gK.one x.s;have p2:=gK.one (x.s.up (x.s.c a));have t1:List.take 33 (List.drop 0 x.s.a)=x.s.a:=by rw [dk,dN (by omega)]
 have t2:List.take 33 (List.drop 0 (x.s.up (x.s.c a)).a)=(x.s.up (x.s.c a)).a:=by rw [dk,dN (by omega)]
 have t3:List.take 0 x.s.a++(x.s.up (x.s.c a)).a++List.drop 33 x.s.a=(x.s.up (x.s.c a)).a:=by rw [oD,List.nil_append,oE (by omega),dh]
 have q1:(x.s.pk (x.s.c a)).l.length=9:=rfl;have q2:aL (x.s.pk (x.s.c a)).l=true:=rfl;have q3:List.take 9 (List.drop 0 (x.s.pk (x.s.c a)).l)=(x.s.pk (x.s.c a)).l:=rfl;have r1:x.r.a.length=3:=rfl;have r2:aL x.r.a=true:=rfl;have r3:List.take 3 (List.drop 0 x.r.a)=x.r.a:=rfl;have r4:(kB x.r (x.s.pk (x.s.c a))).a.length=3:=rfl;have r5:aL (kB x.r (x.s.pk (x.s.c a))).a=true:=rfl;have r6:List.take 3 (List.drop 0 (kB x.r (x.s.pk (x.s.c a))).a)=(kB x.r (x.s.pk (x.s.c a))).a:=rfl;have r7:List.take 0 x.r.a++(kB x.r (x.s.pk (x.s.c a))).a++List.drop 3 x.r.a=(kB x.r (x.s.pk (x.s.c a))).a:=rfl;have lo:=λL hL m j K e h n=> @VS (sv k11') (xx h11) x hx a hb (kB x.r (x.s.pk (x.s.c a))).a RB' L hL m j hlen K e h n;have n0:((x.s.r.ms.length:Int) !=0)=true:=by
  have:=hs.ms;cases hq:((x.s.r.ms.length:Int)==0)
  ·rw [bne,hq];rfl
  ·have:x.s.r.ms.length=0:=by simpa using hq
   omega
 have n1:((x.s.r.sh.length:Int) !=0)=true:=by
  cases hq:((x.s.r.sh.length:Int)==0)
  ·rw [bne,hq];rfl
  ·have:x.s.r.sh.length=0:=by simpa using hq
   omega
 have n2:decide ((x.s.r.sh.length:Int)>0)=true:=af (by omega)
 have ml:((x.s.r.ms.length:Int))<=5:=by have:=hs.ms;omega
 have e5:aPu x a=⟨x.s.up (x.s.c a),kB x.r (x.s.pk (x.s.c a)),mO x.m (fC x.r (x.s.pk (x.s.c a)))⟩:=rfl;rw [e5];dsimp only [aE,aH];generalize rows Og.l (fC x.r (x.s.pk (x.s.c a)))=OG,mO x.m (fC x.r (x.s.pk (x.s.c a)))=M',(fC x.r (x.s.pk (x.s.c a))).length=ln at*;generalize (x.s.up (x.s.c a)).a=S',x.s.a=S,(x.s.pk (x.s.c a)).l=PL at*;generalize (kB x.r (x.s.pk (x.s.c a))).a=R',x.r.a=R,rows A7.l al=AL at*;generalize rows aW.l x.s.r.sh=SL,rows Mb.l x.s.r.ms=ML,mZ x.m=MC at*;generalize zK x.m=MK,mZ M'=MC',zK M'=MK' at*;simp only [A7.l] at hor k2;dsimp only [F3,sv,i3,nq];generalize Ep=kk12,Pm=kk13,yF=kk17 at*;simp (maxSteps:=400000) only [go_sem,d1,d2,hor,k2,k3,k7,v2,v3,s0,s1,l1,l2,p1,p2,t1,t2,t3,q1,q2,q3,r1,r2,r3,r4,r5,r6,r7,n0,n1,n2,simprocAttr];refine lo (.fz AL m) (λk=>by simp only [AV.aj,aB]) (m:Int) (j:Int) _ _ _ _ ?_ ?_ (λe' g5 g6 g7 g15 g41 g42 g43=> ?_)
 ·simp (maxSteps:=400000) only [go_sem,aB,oB,AV.aj,ab,aP,simprocAttr]
 ·simp (maxSteps:=400000) only [go_sem,SB',RB,MB,PB,RB',AV.aj,ab,aP,simprocAttr]
 simp (maxSteps:=400000) only [go_sem,g5,g6,g7,g15,g41,g42,g43,r1,r4,r5,r6,r7,hw,aB,SB',RB',MB',AV.aj,ab,aP,simprocAttr];exact hj
theorem IF {α β:Type} (f:α->β): ∀(l:List α) (i:Nat),(l.map f).eraseIdx i=(l.eraseIdx i).map f
 |[],_=>rfl
 |a::l,0=>rfl
 |a::l,i+1=>by rw [fJ,List.eraseIdx_cons_succ,List.eraseIdx_cons_succ,fJ,IF f l i]
theorem U7 {k11':Ct} (h11:ax ay 11 k11') (x:L2) (hx:jK x) (al:List A7) (m:Nat) (j:Nat) (hj:j<m) (hm:m<=40) (hml:m<=al.length) (a:A7) (ha:al[j]? =some a) (hok:a.ok=true) (hb:DT x.s a=false) {K:bX}:
 jw (F3 (sv k11')) nq (fR K λe' h' n'=>(j<m/\True)/\iV 4 e' (aE al m (j+1))/\mX 4 h' (aH (MW x a))) (aE al m j) (aH x) 4:=by
 have hs:=hx.sc;have ho:=hok;simp only [A7.ok,ak] at ho;obtain ⟨o1,o2,o3,o4,o5,o6,o7⟩:=ho;obtain ⟨u1,-,-,v1,-⟩:=U9 (bD o1);obtain ⟨-,-,-,v2,-⟩:=U9 (bD o2);obtain ⟨-,-,-,v3,-⟩:=U9 (bD o3);obtain ⟨-,u4,-,v4,v4',-,v4''⟩:=U9 (bD o4);obtain ⟨-,-,u5,v5,-,v5',-⟩:=U9 (bD o5);have o1:=bD o1;have o2:=bD o2;have o3:=bD o3;have o7:=bD o7;have u7:a.bi.tmod 1000=a.bi % 1000:=fA o7.1;have v7:IntKind.i64.wrap (a.bi % 1000)=a.bi % 1000:=aN (by omega) (by omega)
 have hme:=wE (a:=a) hx;have hmsl:=hx.ms;have hms:=hs.ms;have hshl:=hs.sh;have u2:a.me.tmod (x.s.r.ms.length:Int)=oZ x a:=fA o2.1;have v2':IntKind.i64.wrap (oZ x a)=oZ x a:=aN (by omega) (by omega)
 have k2: ∀(h:Hp) n,Ep [.agg x.s.a,.agg a.l] h n=some (true,{v:= .bz [.agg x.s.a,.agg Iq.l,.b false],n}):=λh n=>by
  rw [Ja hs hok,Tr,hb];rfl
 have kF: ∀(h:Hp) n,BU [.agg x.r.a,.i .i64 (oZ x a),.i .i64 (uh x a),.i .i64 (1+a.wt % 10),.i .i64 (a.mo % 3),.i .i64 (uh x a),.i .i64 3000] h n=some (true,{v:= .bz [.agg (kV x.r (oZ x a) (uh x a) (Za x a)).1.a,.i .i64 (kV x.r (oZ x a) (uh x a) (Za x a)).2],n}):=λh n=>by
  simp only [BU,dH,aC,Inv.is hx,jS];rfl
 have kL: ∀(h:Hp) n,D5 [.agg x.r.a,.i .i64 (oZ x a),.i .i64 (uh x a)] h n=some (true,{v:= .bz [.agg (mT x.r (oZ x a) (uh x a)).1.a,.i .i64 (mT x.r (oZ x a) (uh x a)).2],n}):=λh n=>by
  simp only [D5,dH,aC,Inv.is hx,jS]
 have kM: ∀(h:Hp) n,BR [.agg x.r.a,.i .i64 (oZ x a),.i .i64 (a.bi % 1000)] h n=some (true,{v:= .bz [.agg (j2 x.r (oZ x a) (a.bi % 1000)).1.a,.i .i64 (j2 x.r (oZ x a) (a.bi % 1000)).2],n}):=λh n=>by
  simp only [BR,dH,aC,Inv.is hx,jS]
 have hor:List.take 7 (List.drop (j*7) (rows A7.l al))=a.l:=dm A7.len ha;have aB: ∀k,ab k (rows A7.l al)=true:=λk=>au _ (bh A7.aj);have SB:=λj=>gK.aj j x.s;have RB:=λj=>Rm.aj j x.r;have MB:=λj=>qn j x.m;have d1:decide ((j:Int)<(m:Int))=true:=af (by omega)
 have d2:decide (0<=(j:Int)/\(j:Int)<(m:Int))=true:=af (by omega)
 have hw:IntKind.i64.wrap ((j:Int)+1)=((j+1:Nat):Int):=by rw [aN (by omega) (by omega)];omega
 have s0:x.s.a[0]? =some (.fz (rows Mb.l x.s.r.ms) x.s.r.ms.length):=rfl;have s1:x.s.a[1]? =some (.fz (rows aW.l x.s.r.sh) x.s.r.sh.length):=rfl;have l1:=sN hs;have p1:=gK.one x.s;have t1:List.take 33 (List.drop 0 x.s.a)=x.s.a:=by rw [dk,dN (by omega)]
 have t3:List.take 0 x.s.a++x.s.a++List.drop 33 x.s.a=x.s.a:=by rw [oD,List.nil_append,oE (by omega),dh]
 have q1:Iq.l.length=9:=rfl;have q2:aL Iq.l=true:=rfl;have r1: ∀r:Rm,r.a.length=3:=λ_=>rfl;have r2: ∀r:Rm,aL r.a=true:=λ_=>rfl;have r3: ∀r:Rm,List.take 3 (List.drop 0 r.a)=r.a:=λ_=>rfl;have r7: ∀r r':Rm,List.take 0 r.a++r'.a++List.drop 3 r.a=r'.a:=λ_ _=>rfl;have RBx:=λ(r:Rm) j=>Rm.aj j r;have k7: ∀r:Rm,r.is=true->aX r=true-> ∀(h:Hp) n,yF [.agg r.a] h n=some (true,{v:= .i .i64 0,n}):=λr hi hg h n=>by
  simp only [yF,dH,aC,hi,hg,cM]
 have n0:((x.s.r.ms.length:Int) !=0)=true:=by
  cases hq:((x.s.r.ms.length:Int)==0)
  ·rw [bne,hq];rfl
  ·have:x.s.r.ms.length=0:=by simpa using hq
   omega
 have hSh:(decide ((x.s.r.sh.length:Int)>0)=false/\uh x a=0)\/(decide ((x.s.r.sh.length:Int)>0)=true/\((x.s.r.sh.length:Int) !=0)=true/\a.sh.tmod (x.s.r.sh.length:Int)=uh x a/\IntKind.i64.wrap (uh x a)=uh x a):=by
  by_cases h0:x.s.r.sh.length=0
  ·exact .inl ⟨bw (by omega),by rw [uh,aT h0]⟩
  ·refine .inr ⟨af (by omega),?_,?_,?_⟩
   ·cases hq:((x.s.r.sh.length:Int)==0)
    ·rw [bne,hq];rfl
    ·exact absurd (by simpa using hq) h0
   ·rw [uh,aY h0];exact fA o3.1
   ·rw [uh,aY h0];have e1:=ph a.sh (b:=(x.s.r.sh.length:Int)) (by omega)
    have e2:=mK a.sh (b:=(x.s.r.sh.length:Int)) (by omega)
    exact aN (by omega) (by omega)
 have hl1:=λhe=> @jK.fl x a he;have hl2:=λhe=> @jK.le x a he;have hl3:=λhe=> @jK.me x a he;have hF:aFl x a=if (kV x.r (oZ x a) (uh x a) (Za x a)).2=0 then ⟨x.s,(kV x.r (oZ x a) (uh x a) (Za x a)).1,lX (oZ x a,uh x a) x.m⟩ else x:=rfl
 have hL:aLe x a=if (mT x.r (oZ x a) (uh x a)).2=0 then ⟨x.s,(mT x.r (oZ x a) (uh x a)).1,x.m⟩ else x:=rfl
 have hM:aMs x a=if (j2 x.r (oZ x a) (a.bi % 1000)).2=0 then ⟨x.s,(j2 x.r (oZ x a) (a.bi % 1000)).1,x.m⟩ else x:=rfl
 have hA:MW x a=if a.wh % 8<2 then aFl x a else if a.wh % 8=2 then aLe x a else if a.wh % 8=3 then aMs x a else x:=by
  rw [MW,aY (by rw [hb];decide)]
 generalize kV x.r (oZ x a) (uh x a) (Za x a)=FF,mT x.r (oZ x a) (uh x a)=FL,j2 x.r (oZ x a) (a.bi % 1000)=FM at*;generalize oZ x a=ME,uh x a=SH at*;simp only [A7.l] at hor k2;have hz:Iq.l=[.b false,.i .i64 0,.i .i64 0,.i .i64 0,.i .i64 0,.fz [] 0,.fz [] 0,.i .i64 0,.s []]:=rfl;rw [hz] at k2;obtain ⟨FFr,FFe⟩:=FF;obtain ⟨FLr,FLe⟩:=FL;obtain ⟨FMr,FMe⟩:=FM;dsimp only at*;by_cases w1:a.wh % 8<2
 ·rw [hA,aT w1];have c1:decide (a.wh % 8<2)=true:=af w1;by_cases he:FFe=0
  ·have hinv:=hl1 hx;rw [hF,aT he] at hinv ⊢;subst he;have k7:=k7 FFr (Inv.is hinv) hinv.gd;have FB:=λk=>RBx FFr k;have r4:=r1 FFr;have r5:=r2 FFr;have r6:=r3 FFr;have r8:=r7 x.r FFr;have r1:=r1 x.r;have r2:=r2 x.r;have r3:=r3 x.r;have MB':=λk=>qn k (lX (ME,SH) x.m);have fnd: ∃o:Option Nat,(bL.a (zK x.m)).find (.agg [.i .i64 ME,.i .i64 SH])=some o/\((∃i,o=some i/\(mZ x.m).eraseIdx i=mZ (lX (ME,SH) x.m)/\(zK x.m).eraseIdx i=zK (lX (ME,SH) x.m))\/(o=none/\lX (ME,SH) x.m=x.m)):=by
    cases hix:(zK x.m).findIdx? ((ME,SH)== ·) with
    |some i=>
     obtain ⟨_,_,_,_,e5,e6⟩:=Jv 0 hix;exact ⟨some i,by rw [wz,hix],.inl ⟨i,rfl,by rw [mZ,mZ,e6,IF],e5.symm⟩⟩
    |none=>exact ⟨none,by rw [wz,hix],.inr ⟨rfl,(KL 0 hix).2.2.2⟩⟩
   obtain ⟨fo,fk,fd⟩:=fnd;dsimp only [aE,aH];generalize x.s.a=S,x.r.a=R,FFr.a=R' at*;generalize rows A7.l al=AL,rows aW.l x.s.r.sh=SL,rows Mb.l x.s.r.ms=ML at*;dsimp only [F3,sv,i3,nq];generalize Ep=kk12,BU=kk14,D5=kk15 at*;generalize BR=kk16,yF=kk17 at*;rcases fd with ⟨ix,rfl,g1,g2⟩|⟨rfl,g1⟩
   ·generalize mZ (lX (ME,SH) x.m)=MC',zK (lX (ME,SH) x.m)=MK',mZ x.m=MC at*;generalize zK x.m=MK at*;rcases hSh with ⟨n2,rfl⟩|⟨n2,n3,n4,n5⟩
    ·simp (maxSteps:=400000) only [go_sem,d1,d2,hor,k2,u1,v1,u2,v2,v2',s0,s1,l1,p1,t1,t3,r1,r2,r3,n0,kF,k7,u4,v4,v4',v4'',u5,v5,v5',c1,r4,r5,r6,r8,fk,g1,g2,n2,simprocAttr];refine Loop.rounds (F:=F3 (sv k11')) 1 (xx h11) mo ?_;dsimp only [F3,sv,i3];simp (maxSteps:=400000) only [go_sem,r1,r4,r5,r6,r8,hw,aB,SB,FB,MB',AV.aj,ab,aP,simprocAttr];exact hj
    ·simp (maxSteps:=400000) only [go_sem,d1,d2,hor,k2,u1,v1,u2,v2,v2',s0,s1,l1,p1,t1,t3,r1,r2,r3,n0,kF,k7,u4,v4,v4',v4'',u5,v5,v5',c1,r4,r5,r6,r8,fk,g1,g2,n2,n3,n4,n5,v3,simprocAttr];refine Loop.rounds (F:=F3 (sv k11')) 1 (xx h11) mo ?_;dsimp only [F3,sv,i3];simp (maxSteps:=400000) only [go_sem,r1,r4,r5,r6,r8,hw,aB,SB,FB,MB',AV.aj,ab,aP,simprocAttr];exact hj
   ·rw [g1] at MB' ⊢;generalize mZ x.m=MC,zK x.m=MK at*;rcases hSh with ⟨n2,rfl⟩|⟨n2,n3,n4,n5⟩
    ·simp (maxSteps:=400000) only [go_sem,d1,d2,hor,k2,u1,v1,u2,v2,v2',s0,s1,l1,p1,t1,t3,r1,r2,r3,n0,kF,k7,u4,v4,v4',v4'',u5,v5,v5',c1,r4,r5,r6,r8,fk,n2,simprocAttr];refine Loop.rounds (F:=F3 (sv k11')) 1 (xx h11) mo ?_;dsimp only [F3,sv,i3];simp (maxSteps:=400000) only [go_sem,r1,r4,r5,r6,r8,hw,aB,SB,FB,MB',AV.aj,ab,aP,simprocAttr];exact hj
    ·simp (maxSteps:=400000) only [go_sem,d1,d2,hor,k2,u1,v1,u2,v2,v2',s0,s1,l1,p1,t1,t3,r1,r2,r3,n0,kF,k7,u4,v4,v4',v4'',u5,v5,v5',c1,r4,r5,r6,r8,fk,n2,n3,n4,n5,v3,simprocAttr];refine Loop.rounds (F:=F3 (sv k11')) 1 (xx h11) mo ?_;dsimp only [F3,sv,i3];simp (maxSteps:=400000) only [go_sem,r1,r4,r5,r6,r8,hw,aB,SB,FB,MB',AV.aj,ab,aP,simprocAttr];exact hj
  ·have e1:(FFe==0)=false:=by simpa using he
   have e2:(FFe !=0)=true:=by simpa using he
   rw [hF,aY he];have r4:=r1 FFr;have r5:=r2 FFr;have r1:=r1 x.r;have r2:=r2 x.r;have r3:=r3 x.r;dsimp only [aE,aH];generalize x.s.a=S,x.r.a=R,FFr.a=R' at*;generalize rows A7.l al=AL,rows aW.l x.s.r.sh=SL,rows Mb.l x.s.r.ms=ML at*;dsimp only [F3,sv,i3,nq];generalize Ep=kk12,BU=kk14,D5=kk15 at*;generalize BR=kk16,yF=kk17,mZ x.m=MC at*;generalize zK x.m=MK at*;rcases hSh with ⟨n2,rfl⟩|⟨n2,n3,n4,n5⟩
   ·simp (maxSteps:=400000) only [go_sem,d1,d2,hor,k2,u1,v1,u2,v2,v2',s0,s1,l1,p1,t1,t3,r1,r2,r3,n0,kF,u4,v4,v4',v4'',u5,v5,v5',c1,r4,r5,e1,e2,hw,aB,SB,RB,MB,AV.aj,ab,aP,n2,simprocAttr];exact hj
   ·simp (maxSteps:=400000) only [go_sem,d1,d2,hor,k2,u1,v1,u2,v2,v2',s0,s1,l1,p1,t1,t3,r1,r2,r3,n0,kF,u4,v4,v4',v4'',u5,v5,v5',c1,r4,r5,e1,e2,hw,aB,SB,RB,MB,AV.aj,ab,aP,n2,n3,n4,n5,v3,simprocAttr];exact hj
 have c1:decide (a.wh % 8<2)=false:=bw w1;rw [hA,aY w1];by_cases w2:a.wh % 8=2
 ·have c2:(a.wh % 8==2)=true:=by simpa using w2
  rw [aT w2];by_cases he:FLe=0
  ·have hinv:=hl2 hx;rw [hL,aT he] at hinv ⊢;subst he;have k7:=k7 FLr (Inv.is hinv) hinv.gd;have FB:=λk=>RBx FLr k;have r4:=r1 FLr;have r5:=r2 FLr;have r6:=r3 FLr;have r8:=r7 x.r FLr;have r1:=r1 x.r;have r2:=r2 x.r;have r3:=r3 x.r;dsimp only [aE,aH];generalize x.s.a=S,x.r.a=R,FLr.a=R' at*;generalize rows A7.l al=AL,rows aW.l x.s.r.sh=SL,rows Mb.l x.s.r.ms=ML at*;dsimp only [F3,sv,i3,nq];generalize Ep=kk12,BU=kk14,D5=kk15 at*;generalize BR=kk16,yF=kk17,mZ x.m=MC at*;generalize zK x.m=MK at*;rcases hSh with ⟨n2,rfl⟩|⟨n2,n3,n4,n5⟩
   ·simp (maxSteps:=400000) only [go_sem,d1,d2,hor,k2,u1,v1,u2,v2,v2',s0,s1,l1,p1,t1,t3,r1,r2,r3,n0,kL,k7,c1,c2,r4,r5,r6,r8,n2,simprocAttr];refine Loop.rounds (F:=F3 (sv k11')) 1 (xx h11) mo ?_;dsimp only [F3,sv,i3];simp (maxSteps:=400000) only [go_sem,r1,r4,r5,r6,r8,hw,aB,SB,FB,MB,AV.aj,ab,aP,simprocAttr];exact hj
   ·simp (maxSteps:=400000) only [go_sem,d1,d2,hor,k2,u1,v1,u2,v2,v2',s0,s1,l1,p1,t1,t3,r1,r2,r3,n0,kL,k7,c1,c2,r4,r5,r6,r8,n2,n3,n4,n5,v3,simprocAttr];refine Loop.rounds (F:=F3 (sv k11')) 1 (xx h11) mo ?_;dsimp only [F3,sv,i3];simp (maxSteps:=400000) only [go_sem,r1,r4,r5,r6,r8,hw,aB,SB,FB,MB,AV.aj,ab,aP,simprocAttr];exact hj
  ·have e2:(FLe !=0)=true:=by simpa using he
   rw [hL,aY he];have r4:=r1 FLr;have r5:=r2 FLr;have r1:=r1 x.r;have r2:=r2 x.r;have r3:=r3 x.r;dsimp only [aE,aH];generalize x.s.a=S,x.r.a=R,FLr.a=R' at*;generalize rows A7.l al=AL,rows aW.l x.s.r.sh=SL,rows Mb.l x.s.r.ms=ML at*;dsimp only [F3,sv,i3,nq];generalize Ep=kk12,BU=kk14,D5=kk15 at*;generalize BR=kk16,yF=kk17,mZ x.m=MC at*;generalize zK x.m=MK at*;rcases hSh with ⟨n2,rfl⟩|⟨n2,n3,n4,n5⟩
   ·simp (maxSteps:=400000) only [go_sem,d1,d2,hor,k2,u1,v1,u2,v2,v2',s0,s1,l1,p1,t1,t3,r1,r2,r3,n0,kL,c1,c2,r4,r5,e2,hw,aB,SB,RB,MB,AV.aj,ab,aP,n2,simprocAttr];exact hj
   ·simp (maxSteps:=400000) only [go_sem,d1,d2,hor,k2,u1,v1,u2,v2,v2',s0,s1,l1,p1,t1,t3,r1,r2,r3,n0,kL,c1,c2,r4,r5,e2,hw,aB,SB,RB,MB,AV.aj,ab,aP,n2,n3,n4,n5,v3,simprocAttr];exact hj
 have c2:(a.wh % 8==2)=false:=by simpa using w2
 rw [aY w2];by_cases w3:a.wh % 8=3
 ·have c3:(a.wh % 8==3)=true:=by simpa using w3
  rw [aT w3];by_cases he:FMe=0
  ·have hinv:=hl3 hx;rw [hM,aT he] at hinv ⊢;subst he;have k7:=k7 FMr (Inv.is hinv) hinv.gd;have FB:=λk=>RBx FMr k;have r4:=r1 FMr;have r5:=r2 FMr;have r6:=r3 FMr;have r8:=r7 x.r FMr;have r1:=r1 x.r;have r2:=r2 x.r;have r3:=r3 x.r;dsimp only [aE,aH];generalize x.s.a=S,x.r.a=R,FMr.a=R' at*;generalize rows A7.l al=AL,rows aW.l x.s.r.sh=SL,rows Mb.l x.s.r.ms=ML at*;dsimp only [F3,sv,i3,nq];generalize Ep=kk12,BU=kk14,D5=kk15 at*;generalize BR=kk16,yF=kk17,mZ x.m=MC at*;generalize zK x.m=MK at*;rcases hSh with ⟨n2,rfl⟩|⟨n2,n3,n4,n5⟩
   ·simp (maxSteps:=400000) only [go_sem,d1,d2,hor,k2,u1,v1,u2,v2,v2',s0,s1,l1,p1,t1,t3,r1,r2,r3,n0,kM,k7,u7,v7,c1,c2,c3,r4,r5,r6,r8,n2,simprocAttr];refine Loop.rounds (F:=F3 (sv k11')) 1 (xx h11) mo ?_;dsimp only [F3,sv,i3];simp (maxSteps:=400000) only [go_sem,r1,r4,r5,r6,r8,hw,aB,SB,FB,MB,AV.aj,ab,aP,simprocAttr];exact hj
   ·simp (maxSteps:=400000) only [go_sem,d1,d2,hor,k2,u1,v1,u2,v2,v2',s0,s1,l1,p1,t1,t3,r1,r2,r3,n0,kM,k7,u7,v7,c1,c2,c3,r4,r5,r6,r8,n2,n3,n4,n5,v3,simprocAttr];refine Loop.rounds (F:=F3 (sv k11')) 1 (xx h11) mo ?_;dsimp only [F3,sv,i3];simp (maxSteps:=400000) only [go_sem,r1,r4,r5,r6,r8,hw,aB,SB,FB,MB,AV.aj,ab,aP,simprocAttr];exact hj
  ·have e2:(FMe !=0)=true:=by simpa using he
   rw [hM,aY he];have r4:=r1 FMr;have r5:=r2 FMr;have r1:=r1 x.r;have r2:=r2 x.r;have r3:=r3 x.r;dsimp only [aE,aH];generalize x.s.a=S,x.r.a=R,FMr.a=R' at*;generalize rows A7.l al=AL,rows aW.l x.s.r.sh=SL,rows Mb.l x.s.r.ms=ML at*;dsimp only [F3,sv,i3,nq];generalize Ep=kk12,BU=kk14,D5=kk15 at*;generalize BR=kk16,yF=kk17,mZ x.m=MC at*;generalize zK x.m=MK at*;rcases hSh with ⟨n2,rfl⟩|⟨n2,n3,n4,n5⟩
   ·simp (maxSteps:=400000) only [go_sem,d1,d2,hor,k2,u1,v1,u2,v2,v2',s0,s1,l1,p1,t1,t3,r1,r2,r3,n0,kM,u7,v7,c1,c2,c3,r4,r5,e2,hw,aB,SB,RB,MB,AV.aj,ab,aP,n2,simprocAttr];exact hj
   ·simp (maxSteps:=400000) only [go_sem,d1,d2,hor,k2,u1,v1,u2,v2,v2',s0,s1,l1,p1,t1,t3,r1,r2,r3,n0,kM,u7,v7,c1,c2,c3,r4,r5,e2,hw,aB,SB,RB,MB,AV.aj,ab,aP,n2,n3,n4,n5,v3,simprocAttr];exact hj
 have c3:(a.wh % 8==3)=false:=by simpa using w3
 rw [aY w3];have r1:=r1 x.r;have r2:=r2 x.r;have r3:=r3 x.r;dsimp only [aE,aH];generalize x.s.a=S,x.r.a=R,rows A7.l al=AL at*;generalize rows aW.l x.s.r.sh=SL,rows Mb.l x.s.r.ms=ML at*;dsimp only [F3,sv,i3,nq];generalize Ep=kk12,BU=kk14,D5=kk15 at*;generalize BR=kk16,yF=kk17,mZ x.m=MC at*;generalize zK x.m=MK at*;rcases hSh with ⟨n2,rfl⟩|⟨n2,n3,n4,n5⟩
 ·simp (maxSteps:=400000) only [go_sem,d1,d2,hor,k2,u1,v1,u2,v2,v2',s0,s1,l1,p1,t1,t3,r1,r2,r3,n0,c1,c2,c3,hw,aB,SB,RB,MB,AV.aj,ab,aP,n2,simprocAttr];exact hj
 ·simp (maxSteps:=400000) only [go_sem,d1,d2,hor,k2,u1,v1,u2,v2,v2',s0,s1,l1,p1,t1,t3,r1,r2,r3,n0,c1,c2,c3,hw,aB,SB,RB,MB,AV.aj,ab,aP,n2,n3,n4,n5,v3,simprocAttr];exact hj
theorem YC {k11':Ct} (h11:ax ay 11 k11') (x:L2) (hx:jK x) (al:List A7) (hal: ∀a∈al,a.ok=true) (m:Nat) (hm:m<=40) (hml:m<=al.length) {K:bX} {e:Env} {h:Hp} {n:Nat}
 (he:iV 4 e (aE al m 0)) (hh:mX 4 h (aH x)) (hK: ∀e' h',K (.exit 0) e' h' 4):Ab.Loop ay i3.ct i3.N 0 nq K e h n:=by
 refine Loop.dV (F:=F3 (sv k11')) (xx h11) mo m (λ_=>True) (λj=>aE al m j) (λj=>aH (lN x al j)) 4 (cr _) trivial he hh (λj hj _=> ?_);by_cases hlt:j<m
 ·obtain ⟨a,ha⟩: ∃a,al[j]? =some a:=⟨_,bj (by omega)⟩
  have hok:=hal a (bJ ha);have hi:=jK.N hx al j;have e1:lN x al (j+1)=MW (lN x al j) a:=by rw [lN,ha]
  rw [e1];cases hb:DT (lN x al j).s a
  ·exact U7 h11 (lN x al j) hi al m j hlt hm hml a ha hok hb
  ·have e2:MW (lN x al j) a=aPu (lN x al j) a:=by rw [MW,aT hb]
   rw [e2];exact UO h11 (lN x al j) hi al m j hlt hm hml a ha hok hb
 have d1:decide ((j:Int)<(m:Int))=false:=bw (by omega)
 generalize lN x al j=y at*;dsimp only [aE,aH];generalize rows A7.l al=AL,y.s.a=S,y.r.a=R,mZ y.m=MC,zK y.m=MK at*;dsimp only [F3,sv,i3,nq];simp (maxSteps:=400000) only [go_sem,d1,simprocAttr];exact hK _ _
theorem w3 (mb:Int) (sh:List Py) (v:AV) (al:List A7) (hm:0<=mb/\mb<=255) (hsh: ∀p∈sh,p.ok=true) (hsl:sh.length<=9223372036854775807) (hv:v.aj 0=true) (hal: ∀a∈al,a.ok=true) (hall:al.length<=9223372036854775807):
 bG ay 3 [.agg [.i .u8 mb,.fz (rows Py.l sh) sh.length,v],.fz (rows A7.l al) al.length] [] 0 (.b true) [] 0:=by
 have pB: ∀j,ab j (rows Py.l sh)=true:=λj=>au _ (bh Py.aj);have aB: ∀j,ab j (rows A7.l al)=true:=λj=>au _ (bh A7.aj);have hbel:=gK.aj 0 (jm mb sh);have h11:=dc (P:=ay) (a0:=[.agg [.i .u8 mb,.fz (rows Py.l sh) sh.length,.ns]]) (v0:= .agg (jm mb sh).a) (by kernel_rfl) (by simp only [ab,AV.aj,pB,aG]) (by simp only [AV.aj,hbel]) (w11 mb sh .ns hm hsh hsl rfl)
 have hat:=λh n=>gC (a0:=[.agg [.i .u8 mb,.fz (rows Py.l sh) sh.length,.ns]]) (v0:= .agg (jm mb sh).a) h n;have hT:=xx h11;have hinv:jK ⟨jm mb sh,(jm mb sh).r,[]⟩:=Oa mb hsh;obtain ⟨M,hM⟩: ∃M,M=min al.length 40:=⟨_,rfl⟩;have la:=λK e h n=> @YC _ h11 ⟨jm mb sh,(jm mb sh).r,[]⟩ hinv al hal M (by omega) (by omega) K e h n
 generalize kP _ _=k11' at*;have hx2: ∀j,v.aj j=true:=λj=>CH hv j;have s33:=sN (GS mb hsh);have so:=gK.one (jm mb sh);have sB:=λj=>gK.aj j (jm mb sh);have st:List.take 3 (List.drop 0 (jm mb sh).a)=(jm mb sh).r.a:=rfl;have st2:List.take 33 (List.drop 0 (jm mb sh).a)=(jm mb sh).a:=by rw [dk,dN (by omega)]
 have r1:(jm mb sh).r.a.length=3:=rfl;have r2:aL (jm mb sh).r.a=true:=rfl;have rB:=λj=>Rm.aj j (jm mb sh).r;have eM:min (al.length:Int) 40=(M:Int):=by omega
 have eC:mZ []=[]:=rfl;have d1:decide (0<=(M:Int)/\(M:Int)<=(al.length:Int))=true:=af (by omega)
 dsimp only [aE,aH] at la;rw [eC,show zK []=[] from rfl] at la
 generalize (jm mb sh).a=S,(jm mb sh).r.a=R,rows A7.l al=AL,rows Py.l sh=PS at*;refine ew hT Tryz.func3 Z3 ?_
 dsimp only [i3,sv];simp (maxSteps:=400000) only [go_sem,Mq,hat,s33,so,st,st2,r1,r2,eM,d1,simprocAttr];refine la _ _ _ _ ?_ ?_ (λe' h'=> ?_)
 ·simp (maxSteps:=400000) only [go_sem,aB,AV.aj,ab,aP,simprocAttr]
 ·simp (maxSteps:=400000) only [go_sem,sB,rB,AV.aj,ab,aP,simprocAttr]
 simp (maxSteps:=400000) only [go_sem,simprocAttr];exact Ends.aw rfl rfl
end Go.Proofs.Rom
