/- Texts laid as one. -/
import Derived.Test.YtibpegmighopbaaGreatDoorX11
import Derived.Test.YtibpegmighopbaaGreatDoorProg
import Derived.Shelf.SlSortCmp.WholeK
import Derived.Shelf.SlicesG.Cmp
import Derived.LoopN
import Derived.Deep.RegionHeld3
import Derived.Shelf.SlSortCmp.NoneTotal
set_option maxRecDepth 100000
set_option maxHeartbeats 20000000
set_option linter.unusedSimpArgs false
set_option linter.unusedVariables false
namespace Go.Proofs.Rom
open Go.Ab
def Ix (ss:Int) (x:aW):Bool:=x.ss.any λy=>ss==y
def mJ (sh:List aW) (ss:Int):Int:=vU (Ix ss) sh 0
theorem w64 (x:aW) (p:Md) (hl:x.ss.length<=3):bG ay 64 [.agg x.l,.fp p.l 0] [] 0 (.b (Ix p.ss x)) [] 0:=by
 have h1:=λk=>nt (α:=Int) (β:=Bool×bV) (h:=([]:Hp)) (f:=aq) bR (l:=x.ss) (k:=k);have hk: ∀n,Tl [.fz (rows aq x.ss) x.ss.length,.i .i64 p.ss] [(0,{cells:=x.l})] n=some (true,{v:= .b (Ix p.ss x),n}):=λn=>by
  have h1:=λk=>nt (α:=Int) (β:=Bool×bV) (h:=([(0,{cells:=x.l})]:Hp)) (f:=aq) bR (l:=x.ss) (k:=k);simp only [Tl,h1,eD,aC,af hl,jW];rfl
 have hcx:Sound ay (cj [(65,Tl)]):=Sound.cons s65 Sound.nil;have g1:x.l[1]? =some (.fz (rows aq x.ss) x.ss.length):=rfl;have g4:p.l[4]? =some (.i .i64 p.ss):=rfl;have x4:x.l.length=4:=rfl;have xo:aL x.l=true:=rfl;generalize Ix p.ss x=R,Tl=kk,x.l=XL,p.l=PL at*;refine ew hcx Tryz.func64 Xu ?_
 dsimp only [i64];simp only [go_sem,g1,g4,hk,simprocAttr];exact Ends.aw rfl rfl
theorem M1 {a b:aW} (h:a.l=b.l):a=b:=by
 grind [ku,Cy]
theorem w63 (sh:List aW) (p:Md) (hl:sh.length<=1000) (h3: ∀x∈sh,x.ss.length<=3):bG ay 63 [.fz (rows aW.l sh) sh.length,.fn 64 [.fp p.l 0]] [] 0 (.i .i64 (mJ sh p.ss)) [] 0:=
 IP (row:=aW.l) (el:=λx=> .agg x.l) mo Tryz.func63 (by kernel_rfl) (by kernel_rfl) aW.len aW.aj (by simp only [ab,AV.aj,p.aj,aG]) (λ_=>rfl) (λa b h=>by rw [M1 (AV.agg.inj h)]) sh (by omega) (λx hx=>w64 x p (h3 x hx))
theorem Yw (h:Hp) (f:Nat) (p:Md):lV (Go.Ab.nv h f) p.l=some ([],p.l):=by
 have hx:ab 0 (rows xu p.xs)=true:=by
  have:=p.aj;simp_all [Md.l,ab,AV.aj,ak]
 simp_all [Md.l,bn,bI,kN,Vl,DF,ef,iB,aC,dh]
def my (r:Rm) (p:Md):Int:=if aX r then (if vY p then (if 0<=mJ r.sh p.ss then (dec p.pl).2.2 else 4) else 230) else 420
theorem DV {kT:Ct} {r:Rm} {p:Md} {R:Int} (hat: ∀h n,kT [.fz (rows aW.l r.sh) r.sh.length,.fn 64 [.fp p.l 0]] h n=some (true,{v:= .i .i64 R,n})) (b:Nat) (h:Hp) (n:Nat) (h0:aa h b=some {cells:=p.l}):cu kT [.fz (rows aW.l r.sh) r.sh.length,.fn 64 [.p b 0]] h n=some (true,{v:= .i .i64 R,n,rd:=[b]}):=
 jM (by simp_all [bn,bI,kC,jH,ef,cG,Yw,eo,aC,dh,List.nil_append]) (hat [] 0) rfl
theorem ajb (r:Rm) (hg:aX r=true) (p:Md) (hp:p.fin=true) (he:my r p≠0):
 cz ay 60 [.fp r.a 0,.p 0 0,.p 1 0] [(0,{cells:=p.l}),(1,{cells:=[.ns]})] 2 (some (eJ (my r p))) (.bz []) [(0,{cells:=p.l}),(1,{cells:=[.ns]})] 2:=by
 have hl:=ek hg;have hE:my r p=if vY p then (if 0<=mJ r.sh p.ss then (dec p.pl).2.2 else 4) else 230:=by simp only [my,hg,cM]
 have hs3:=dc (P:=ay) (by kernel_rfl) (by simp only [ab,AV.aj,cG,p.aj,aG]) rfl (w63 r.sh p (by omega) (λx hx=>(hl.2.2.2.1 x hx).1))
 have hk3:=λh n h0=>DV (λh n=>gC (a0:=[.fz (rows aW.l r.sh) r.sh.length,.fn 64 [.fp p.l 0]]) (v0:= .i .i64 (mJ r.sh p.ss)) h n) 0 h n h0;have hk1: ∀(h:Hp) n,As [.agg p.l] h n=some (true,{v:= .i .i64 (if vY p then 0 else 230),n}):=λh n=>by grind [As,vG,aC]
 have hk6: ∀(h:Hp) n,Du [.s p.pl] h n=some (true,{v:=yO (dec p.pl),n}):=λh n=>rfl;have hcx:Sound ay (cj [(61,As),(62,gA),(63,cu (kP _ _)),(66,Du)]):=Sound.cons s61 (Sound.cons Ad (Sound.cons hs3.nv (Sound.cons s66 Sound.nil)));have g1:r.a[1]? =some (.fz (rows aW.l r.sh) r.sh.length):=rfl;have g8:p.l[8]? =some (.s p.pl):=rfl;have p9:p.l.length=9:=rfl;have pd:List.take 9 (List.drop 0 p.l)=p.l:=rfl;have pB:=λj=>au (m:=j) _ p.aj;have pR:=λg=>aJ (ψ:=g) _ p.aj;generalize cu (kP _ _)=q3,As=q1,Du=q6,my r p=R at*;have hd:yO (dec p.pl)= .bz [.agg (dec p.pl).1.l,.s (dec p.pl).2.1,.i .i64 (dec p.pl).2.2]:=rfl;rw [hd] at hk6;generalize (dec p.pl).1.l=D1,(dec p.pl).2.1=D2,(dec p.pl).2.2=D3,mJ r.sh p.ss=S,r.a=ra,p.l=PL at*;refine cz.dQ hcx mo Tryz.func60 Ee (by simp [i60]) (aO ?_)
 dsimp only [i60];cases h1:vY p
 ·rw [h1] at hE hk1;rw [hE];simp only [ei,dP] at hk1 ⊢;simp only [go_sem,p9,pd,hk1,gA,simprocAttr];exact Ends.R [] (by decide) (by decide) rfl rfl (by grind [iW,aa,rn,bp.aQ,aS,AV.aQ,ab,AV.aj,eu])
 rw [h1] at hE hk1;simp only [cM] at hE hk1;cases h2:decide (0<=S)
 ·rw [aY (tM h2)] at hE;rw [hE];simp only [go_sem,p9,pd,hk1,gA,g1,hk3,h2,ge_iff_le,simprocAttr];exact Ends.R [] (by decide) (by decide) rfl rfl (by grind [iW,aa,rn,bp.aQ,aS,AV.aQ,ab,AV.aj,eu])
 rw [aT (bN h2)] at hE;have h3:(D3==0)=false:=by grind
 rw [hE];simp only [go_sem,p9,pd,hk1,gA,g1,hk3,h2,ge_iff_le,g8,hk6,h3,simprocAttr];exact Ends.R [] (by decide) (by decide) rfl rfl (by grind [iW,aa,rn,bp.aQ,aS,AV.aQ,ab,AV.aj,eu])
theorem ajn (r:Rm) (hg:aX r=true) (p:Md) (hp:p.fin=true) (he:my r p=0) (ht:r.tp=[]):
 bG ay 60 [.fp r.a 0,.p 0 0,.p 1 0] [(0,{cells:=p.l}),(1,{cells:=[.ns]})] 2 (.bz []) [(0,{cells:=p.l}),(1,{cells:=[.ns]})] 2:=by
 have hl:=ek hg;have hE:my r p=if vY p then (if 0<=mJ r.sh p.ss then (dec p.pl).2.2 else 4) else 230:=by simp only [my,hg,cM]
 have hs3:=dc (P:=ay) (by kernel_rfl) (by simp only [ab,AV.aj,cG,p.aj,aG]) rfl (w63 r.sh p (by omega) (λx hx=>(hl.2.2.2.1 x hx).1))
 have hk3:=λh n h0=>DV (λh n=>gC (a0:=[.fz (rows aW.l r.sh) r.sh.length,.fn 64 [.fp p.l 0]]) (v0:= .i .i64 (mJ r.sh p.ss)) h n) 0 h n h0;have hk1: ∀(h:Hp) n,As [.agg p.l] h n=some (true,{v:= .i .i64 (if vY p then 0 else 230),n}):=λh n=>by grind [As,vG,aC]
 have hk6: ∀(h:Hp) n,Du [.s p.pl] h n=some (true,{v:=yO (dec p.pl),n}):=λh n=>rfl;have hcx:Sound ay (cj [(61,As),(62,gA),(63,cu (kP _ _)),(66,Du)]):=Sound.cons s61 (Sound.cons Ad (Sound.cons hs3.nv (Sound.cons s66 Sound.nil)));have g1:r.a[1]? =some (.fz (rows aW.l r.sh) r.sh.length):=rfl;have g2:r.a[2]? =some (.fz [] 0):=by simp only [Rm.a,ht];rfl
 have g8:p.l[8]? =some (.s p.pl):=rfl;have p9:p.l.length=9:=rfl;have pd:List.take 9 (List.drop 0 p.l)=p.l:=rfl;have pB:=λj=>au (m:=j) _ p.aj;have pR:=λg=>aJ (ψ:=g) _ p.aj;generalize cu (kP _ _)=q3,As=q1,Du=q6 at*;rw [hE] at he;have hd:yO (dec p.pl)= .bz [.agg (dec p.pl).1.l,.s (dec p.pl).2.1,.i .i64 (dec p.pl).2.2]:=rfl;rw [hd] at hk6;have h1:vY p=true:=by
  grind
 rw [h1] at hk1 he;simp only [cM] at hk1 he;have h2:decide (0<=mJ r.sh p.ss)=true:=by
  grind
 rw [aT (bN h2)] at he;rw [he] at hk6;generalize (dec p.pl).1.l=D1,(dec p.pl).2.1=D2,mJ r.sh p.ss=S,r.a=ra,p.l=PL at*;refine ew hcx Tryz.func60 Ee ?_
 dsimp only [i60];simp only [go_sem,p9,pd,hk1,gA,g1,g2,hk3,h2,ge_iff_le,g8,hk6,simprocAttr];refine Loop.rounds (F:=⟨ay,cj [(61,q1),(62,gA),(63,q3),(66,q6)],[47,61,83],97,2⟩) 1 hcx mo ?_;simp only [go_sem,simprocAttr];exact Ends.R [] (by decide) (by decide) rfl rfl (by grind [iW,aa,rn,bp.aQ,aS,AV.aQ,ab,AV.aj,eu])
structure Og where
 me:Int
 p:Md
def Og.l (o:Og):List AV:= .i .i64 o.me::o.p.l
theorem Og.len: ∀o:Og,o.l.length=10:=λ_=>rfl
theorem Og.aj: ∀o:Og,ab 0 o.l=true:=λo=>by simp only [Og.l,ab,AV.aj,o.p.aj,aG]
theorem Og.one: ∀o:Og,aL o.l=true:=λ_=>rfl
theorem M9 (j:Nat) (l:List Og):ab j (rows Og.l l)=true:=au _ (bh Og.aj)
theorem Zz (ψ:Nat->Nat) (l:List Og):aS ψ (rows Og.l l)=rows Og.l l:=aJ _ (bh Og.aj)
def BT (k:Int) (p:Md) (t:Tp):Tp:=if t.sh=k then {t with sw:=(ey t.sw p).1} else t
def oT (k:Int) (p:Md) (t:Tp):List Og:=if t.sh=k then (ey t.sw p).2.1.map (Og.mk t.me) else []
def kB (r:Rm) (p:Md):Rm:=⟨r.ms,r.sh,r.tp.map (BT (mJ r.sh p.ss) p)⟩
def fC (r:Rm) (p:Md):List Og:=r.tp.flatMap (oT (mJ r.sh p.ss) p)
theorem AX (s:Sw) (p:Md):(ey s p).2.1=[]\/ ∃q,(ey s p).2.1=[q]:=by
 grind [ey,dv,inl,vY,decide,oJ,dec,dE,lv,jD]
theorem abv {r:Rm} (hg:aX r=true) {p:Md} (he:my r p=0) {t:Tp} (ht:t∈r.tp) (hk:t.sh=mJ r.sh p.ss):(ey t.sw p).2.2=0/\dv t.sw=true:=by
 have hE:my r p=if vY p then (if 0<=mJ r.sh p.ss then (dec p.pl).2.2 else 4) else 230:=by simp only [my,hg,cM]
 rw [hE] at he;split at he
 ·rename_i h1;split at he
  ·rename_i h2;obtain ⟨i,hi⟩:=gF ht;obtain ⟨_,s,hs,_,_,_,hw,hl,_⟩:=je (gW hg hi);rw [hk] at hs;refine ⟨?_,hw⟩;have hix:oJ t.sw.l p.ss<0↔False:=by
    refine iff_false_intro λhn=> ?_;have h3:=Lk t.sw.l p.ss;rw [bw (by omega),hl] at h3
    rcases lC (p:=Ix p.ss) r.sh 0 (xv 0) with h4|⟨k,hk1,hk2,_,a,ha,hb⟩
    all_goals grind [mJ,Ix]
   simp_all [ey,bw,cond_true,cond_false]
  ·cases he
 ·cases he
theorem Co (q:List Og):(gQ Og.l 10 q).plain=true:=(p7 (f:=Og.l) Og.aj Og.len q).pl
def K8 (k:Int) (p:Md) (tp:List Tp) (i:Nat):List Tp:=(tp.take i).map (BT k p)++tp.drop i
def Tj (k:Int) (p:Md) (tp:List Tp) (i:Nat):List Og:=(tp.take i).flatMap (oT k p)
theorem Rh (k:Int) (p:Md) (tp:List Tp) (i:Nat) (hi:i<=tp.length):(K8 k p tp i).length=tp.length:=by
 grind [K8,cm,ig,fY,yt]
theorem Yt {k:Int} {p:Md} {tp:List Tp} {i:Nat} {t:Tp} (h:tp[i]? =some t):(K8 k p tp i)[i]? =some t/\K8 k p tp (i+1)=(K8 k p tp i).set i (BT k p t):=by
 obtain ⟨hi,he⟩:=cv.1 h;have hl:((tp.take i).map (BT k p)).length=i:=by grind
 simp_all [K8,Nat.sub_self,Fj,rE,List.set_cons_zero,jY,x7,List.map_append]
theorem adY {k:Int} {p:Md} {tp:List Tp} {i:Nat} {t:Tp} (h:tp[i]? =some t):Tj k p tp (i+1)=Tj k p tp i++oT k p t:=by
 grind [Tj,jY,x7,List.flatMap_append]
theorem W6 {x:Nat} (q:List Og):yW (mz ((gQ Og.l 10 q).bl 4)) ((gQ Og.l 10 q).bl 4++[x])=true:=by
 unfold gQ;split<;>rfl
theorem Wr {a b c:bp} {r:Hp} (q:List Og):A9 ((7,a)::(6,b)::(5,c)::((gQ Og.l 10 q).h 4++r)) (mz ((gQ Og.l 10 q).bl 4))=true:=by
 unfold gQ;split<;>rfl
theorem w60 (r:Rm) (hg:aX r=true) (p:Md) (hp:p.fin=true) (hpl:p.pl.length<=1000000000) (he:my r p=0) (ht:r.tp≠[]):
 bG ay 60 [.p 0 0,.p 1 0,.p 2 0] [(0,cP r 3),(1,{cells:=p.l}),(2,{cells:=[.ns]}),(3,bF r)] 4 (.bz []) [(0,cP (kB r p) 3),(2,{cells:=[.fz (rows Og.l (fC r p)) (fC r p).length]}),(3,bF (kB r p))] 4:=by
 have hl:=ek hg;have hE:my r p=if vY p then (if 0<=mJ r.sh p.ss then (dec p.pl).2.2 else 4) else 230:=by simp only [my,hg,cM]
 have hpo:=λt ht=>abv hg he (t:=t) ht;have hs3:=dc (P:=ay) (by kernel_rfl) (by simp only [ab,AV.aj,cG,p.aj,aG]) rfl (w63 r.sh p (by omega) (λx hx=>(hl.2.2.2.1 x hx).1))
 have hk3:=λh n h0=>DV (λh n=>gC (a0:=[.fz (rows aW.l r.sh) r.sh.length,.fn 64 [.fp p.l 0]]) (v0:= .i .i64 (mJ r.sh p.ss)) h n) 1 h n h0;have hk1: ∀(h:Hp) n,As [.agg p.l] h n=some (true,{v:= .i .i64 (if vY p then 0 else 230),n}):=λh n=>by grind [As,vG,aC]
 have hk6: ∀(h:Hp) n,Du [.s p.pl] h n=some (true,{v:=yO (dec p.pl),n}):=λh n=>rfl;have hk5: ∀(t:Tp) (h:Hp) n,t∈r.tp->t.sh=mJ r.sh p.ss->ZF [.agg t.sw.a,.agg p.l] h n=some (true,{v:= .bz [.agg (ey t.sw p).1.a,.fz (rows Md.l (ey t.sw p).2.1) (ey t.sw p).2.1.length,.i .i64 0],n}):=λt h n h1 h2=>by
  grind [pz,Gu,af,aG,tz,ey,rows,Md.l,i64,ZF,pC,vG,aC]
 have hcx:Sound ay (cj [(50,ZF),(61,As),(62,gA),(63,cu (kP _ _)),(66,Du)]):=Sound.cons s50 (Sound.cons s61 (Sound.cons Ad (Sound.cons hs3.nv (Sound.cons s66 Sound.nil))));have g8:p.l[8]? =some (.s p.pl):=rfl;have p9:p.l.length=9:=rfl;have po:aL p.l=true:=rfl;have pd:List.take 9 (List.drop 0 p.l)=p.l:=rfl;have pB:=λj=>au (m:=j) _ p.aj;have pR:=λg=>aJ (ψ:=g) _ p.aj;generalize cu (kP _ _)=q3,As=q1 at*;generalize Du=q6,ZF=q5 at*;rw [hE] at he;have hd:yO (dec p.pl)= .bz [.agg (dec p.pl).1.l,.s (dec p.pl).2.1,.i .i64 (dec p.pl).2.2]:=rfl;rw [hd] at hk6;have h1:vY p=true:=by
  grind
 rw [h1] at hk1 he;simp only [cM] at hk1 he;have h2:decide (0<=mJ r.sh p.ss)=true:=by
  grind
 rw [aT (bN h2)] at he;rw [he] at hk6;have eR:kB r p=⟨r.ms,r.sh,K8 (mJ r.sh p.ss) p r.tp r.tp.length⟩:=by simp [kB,K8]
 have eL:fC r p=Tj (mJ r.sh p.ss) p r.tp r.tp.length:=by simp [fC,Tj]
 have hW0:rows Tp.l r.tp=rows Tp.l (K8 (mJ r.sh p.ss) p r.tp 0):=by simp [K8]
 have hQ0:Tj (mJ r.sh p.ss) p r.tp 0=[]:=rfl;have hWl:=λi hi=>Rh (mJ r.sh p.ss) p r.tp i hi;have hWa:=λi t h=>Yt (k:=mJ r.sh p.ss) (p:=p) (tp:=r.tp) (i:=i) (t:=t) h;have hQs:=λi t h=>adY (k:=mJ r.sh p.ss) (p:=p) (tp:=r.tp) (i:=i) (t:=t) h;have hmem: ∀i t,r.tp[i]? =some t->t∈r.tp:=λi t h=>bJ h;have hQl: ∀i,i<=r.tp.length->(Tj (mJ r.sh p.ss) p r.tp i).length<=i:=λi=>by
  induction i with
  |zero=>intro _;exact bx 0
  |succ i ih=>
   intro hi;obtain ⟨t,ht⟩: ∃t,r.tp[i]? =some t:=⟨_,bj (by omega)⟩
   rw [hQs i t ht,cm];have:=ih (by omega)
   have:(oT (mJ r.sh p.ss) p t).length<=1:=by
    grind [oT,AX]
   omega
 rw [eR,eL];dsimp only [cP,bF];rw [hWl _ (bx _),hW0];have mB:=λj=>fT j r.ms;have sB:=λj=>cG j r.sh;have mR:=λg=>jI g r.ms;have sR:=λg=>dT g r.sh;generalize K8 (mJ r.sh p.ss) p r.tp=W,Tj (mJ r.sh p.ss) p r.tp=Q at*;generalize hS:mJ r.sh p.ss=S,(dec p.pl).1.l=D1 at*;generalize (dec p.pl).2.1=D2,rows Mb.l r.ms=ML at*;generalize rows aW.l r.sh=SL,hPL:p.l=PL at*;refine bG.dy hcx mo Tryz.func60 Ee (by simp [i60]) (aO ?_)
 dsimp only [i60];simp only [go_sem,p9,pd,hk1,gA,hk3,h2,ge_iff_le,g8,hk6,simprocAttr];have h36:=hl.2.2.1;refine Loop.nM (F:=⟨ay,cj [(50,q5),(61,q1),(62,gA),(63,q3),(66,q6)],[47,61,83],97,4⟩) hcx mo (X:=Nat) (λk=>k<=r.tp.length) (λk=>r.tp.length-k)
  (λk=>[(0,.p 0 0),(1,.p 1 0),(2,.p 2 0),(5,.i .i64 S),(45,.i .i64 (r.tp.length:Int)),(46,.i .i64 (k:Int))])
  (λk=>(gQ Og.l 10 (Q k)).h 4++[(0,{cells:=[.fz ML r.ms.length,.fz SL r.sh.length,.sg 3 0 r.tp.length]}),(1,{cells:=PL}),(2,{cells:=[(gQ Og.l 10 (Q k)).v 4]}),(3,{cells:=rows Tp.l (W k),gr:=some 22})]) 5 0 (λk=>k+1) []
  (λk=>if (Q (k+1)).length=(Q k).length then [] else [(4,8)]) (show 4<=5 by decide) rfl (λk=>by split<;>rfl) (cr _) ?_ ?_ (λk hk=> ?_)
 ·simp only [go_sem,AV.aQ,AV.aj,aP,simprocAttr]
 ·rw [hQ0,pO];simp only [go_sem,AV.aQ,aS,AV.aj,ab,aP,bp.aQ,mB,sB,mR,sR,fb,jC,pB,pR,simprocAttr]
 by_cases hlt:k<r.tp.length
 rotate_left
 ·have c1:decide ((k:Int)<(r.tp.length:Int))=false:=bw (by omega)
  obtain rfl:k=r.tp.length:=by omega
  simp only [go_sem,simprocAttr];refine aZ.Cw (f:=Og.l) (z:=10) (l:=Q r.tp.length) (b:=4) (v':= .bz []) (h':=[(0,{cells:=[.fz ML r.ms.length,.fz SL r.sh.length,.sg 3 0 r.tp.length]}),(2,{cells:=[.fz (rows Og.l (Q r.tp.length)) (Q r.tp.length).length]}),(3,{cells:=rows Tp.l (W r.tp.length),gr:=some 22})]) (by simp [fi]) bW.refl ?_ ?_
  ·have hg4: ∀c,c≠4-> ∀R:Hp,aa ((gQ Og.l 10 (Q r.tp.length)).h 4++R) c=aa R c:=λc hc R=>zD (t:=gQ Og.l 10 (Q r.tp.length)) (λh=>hc h.symm);exact ⟨⟨by decide,{cells:=[.fz ML r.ms.length,.fz SL r.sh.length,.sg 3 0 r.tp.length]},(hg4 0 (by decide) _).trans rfl,rfl,rfl,rfl,dZ.refl⟩,⟨by decide,{cells:=[(gQ Og.l 10 (Q r.tp.length)).v 4]},(hg4 2 (by decide) _).trans rfl,rfl,rfl,rfl,bW.hit,trivial⟩,⟨by decide,{cells:=rows Tp.l (W r.tp.length),gr:=some 22},(hg4 3 (by decide) _).trans rfl,rfl,rfl,rfl,dZ.refl⟩,trivial⟩
  ·exact aZ.ends (Ends.R [] (by decide) (by decide) rfl rfl (by simp_all [iW,aa,rn,bp.aQ,aS,AV.aQ,ab,AV.aj,fb,jC,M9,Zz,eu]))
 have c1:decide ((k:Int)<(r.tp.length:Int))=true:=af (by omega)
 have c2:decide (0<=(k:Int)/\(k:Int)<(r.tp.length:Int))=true:=af (by omega)
 have hw:IntKind.i64.wrap ((k:Int)+1)=((k+1:Nat):Int):=by grind [aN]
 obtain ⟨t,ht'⟩: ∃t,r.tp[k]? =some t:=⟨_,bj hlt⟩;obtain ⟨hWk,hW1⟩:=hWa k t ht';have hQ1:=hQs k t ht';have hql:=hQl k hk;have hsk:r.tp.length-(k+1)<r.tp.length-k:=by omega
 have hsh:(rows Tp.l (W k))[k*22+1]? =some (.i .i64 t.sh):=bM (f:=Tp.l) (z:=22) (j:=1) (v:= .i .i64 t.sh) Tp.len hWk rfl;have pk:=Co (Q k);have zR:(rows Og.l (Q k)).length=(Q k).length*10:=aU Og.len;by_cases hs:t.sh=S
 rotate_left
 ·have e1:W (k+1)=W k:=by
   rw [hW1,BT,aY hs];exact nk λi=>by
    grind
  have e2:Q (k+1)=Q k:=by rw [hQ1,oT,aY hs,dh]
  have c3:(t.sh !=S)=true:=by grind
  rw [e1,e2,aT rfl];have tB:=fb 5 (W k);have tR:=jC (rn []) (W k);generalize rows Tp.l (W k)=TL at*;simp only [go_sem,c1,c2,hw,hsh,c3,hsk,pk,AV.aQ,aS,AV.aj,ab,aP,bp.aQ,mB,sB,mR,sR,tB,tR,pB,pR,simprocAttr];exact hlt
 have c3:(t.sh !=S)=false:=by grind
 have hk5:=λh n=>hk5 t h n (hmem k t ht') hs;have gs:=CU hWk;have gm0:(rows Tp.l (W k))[k*22]? =some (.i .i64 t.me):=by
  have:=bM (f:=Tp.l) (z:=22) (j:=0) (v:= .i .i64 t.me) Tp.len hWk rfl;omega
 have sp:=FD hWk (ey t.sw p).1;have hln:(rows Tp.l (W k)).length=(W k).length*22:=aU Tp.len;have hwl:=hWl k hk;have le1:decide (k*22+4+18<=(rows Tp.l (W k)).length)=true:=af (by omega)
 have le2:t.sw.a.length=18:=rfl;have ls:(ey t.sw p).1.a.length=18:=rfl;have lo:aL (ey t.sw p).1.a=true:=rfl;have ld:List.take 18 (List.drop 0 (ey t.sw p).1.a)=(ey t.sw p).1.a:=rfl;have lb:=λj=>Sw.aj j (ey t.sw p).1;have lr:=λg=>aJ (ψ:=g) _ (Sw.aj 0 (ey t.sw p).1);have eP:BT S p t={t with sw:=(ey t.sw p).1}:=aT hs
 have eO:oT S p t=(ey t.sw p).2.1.map (Og.mk t.me):=aT hs;rw [eP] at hW1;rw [eO] at hQ1;have tB:=fb 5 (W (k+1));have tR:=jC (rn []) (W (k+1));have tR2:=jC (rn [(4,8)]) (W (k+1));rw [<-hW1] at sp;rcases AX t.sw p with e|⟨q,e⟩
 ·rw [e] at hk5 hQ1;have e2:Q (k+1)=Q k:=by grind
  rw [e2,aT rfl];generalize (ey t.sw p).1.a=SA,t.sw.a=SO at*;generalize rows Tp.l (W k)=TL,rows Tp.l (W (k+1))=TM at*;simp only [go_sem,c1,c2,hsh,c3,gs,hk5,p9,pd,le1,le2,ls,lo,ld,sp,gA,simprocAttr];refine Loop.rounds (F:=⟨ay,cj [(50,q5),(61,q1),(62,gA),(63,q3),(66,q6)],[47,61,83],97,4⟩) 1 hcx mo ?_;simp only [go_sem,hw,hsk,pk,AV.aQ,aS,AV.aj,ab,aP,bp.aQ,mB,sB,mR,sR,tB,tR,pB,pR,simprocAttr];exact hlt
 ·rw [e] at hk5 hQ1;have hQ1:Q (k+1)=Q k++[⟨t.me,q⟩]:=hQ1;have hne: ¬(Q (k+1)).length=(Q k).length:=by grind
  have pk':=Co (Q k++[⟨t.me,q⟩]);rw [aY hne,hQ1];rw [ji] at pk' ⊢;have gm:decide (120*((Q k).length+1)<=az)=true:=af (by grind [az])
  have T2:rows Md.l [q]=q.l:=by simp [rows]
  rw [T2] at hk5;have q9:q.l.length=9:=rfl;have qo:aL q.l=true:=rfl;have qd:List.take 9 (List.drop 0 q.l)=q.l:=rfl;have qz:List.take 9 (List.drop (0*9) q.l)=q.l:=rfl;have qt:List.take 9 q.l=q.l:=rfl;have eOg:Og.l ⟨t.me,q⟩= .i .i64 t.me::q.l:=rfl;have qB:=λj=>au (m:=j) _ q.aj;have qR:=λg=>aJ (ψ:=g) _ q.aj;simp only [eOg] at pk' ⊢;have gm1:(rows Tp.l (W (k+1)))[k*22]? =some (.i .i64 t.me):=by
   grind
  generalize (ey t.sw p).1.a=SA,t.sw.a=SO at*;generalize q.l=QL,Q k=QQ at*;generalize rows Tp.l (W k)=TL,rows Tp.l (W (k+1))=TM at*;simp only [go_sem,c1,c2,hsh,c3,gs,hk5,p9,pd,le1,le2,ls,lo,ld,sp,gA,simprocAttr];refine Loop.rounds (F:=⟨ay,cj [(50,q5),(61,q1),(62,gA),(63,q3),(66,q6)],[47,61,83],97,4⟩) 2 hcx mo ?_;simp only [go_sem,qd,qt,q9,qo,gm1,gm,zR,pk',hw,hsk,AV.aQ,aS,AV.aj,ab,aP,bp.aQ,mB,sB,mR,sR,tB,tR2,pB,pR,simprocAttr];rw [W6,Wr];exact ⟨rfl,hlt⟩
abbrev nu (l:List Og):bp:={cells:=[.fz (rows Og.l l) l.length]}
abbrev wi:bp:={cells:=[.ns]}
abbrev DI (r:Rm) (p:Md):List bp:=[{cells:=r.a},{cells:=[.fn 60 [.p 2 0,.p 3 0]]},{cells:=p.l},wi]
theorem aa8 {n0 n b:Nat} {v:AV}:aZ n0 v [(b,wi)] n v [(b,nu [])] n:=
 aZ.wkH (Go.Ab.lH.refl _) (h':=[(b,nu [])]) ⟨⟨wi,by simp [aa],rfl,rfl,rfl,Go.Ab.lH.ns,trivial⟩,trivial⟩ aZ.refl
theorem aeb (r:Rm) (hr:r.is=true) (hg:aX r=true) (p:Md) (hp:p.fin=true) (hpl:p.pl.length<=1000000000) (he:my r p=0):
 bG ay 135 [.p 0 0,.p 1 0] (iP (DI r p) 0) 4 (.agg (kB r p).a) [(3,nu (fC r p))] 4:=by
 have a3:r.a.length=3:=rfl;have ao:aL r.a=true:=rfl;have ad:List.take 3 (List.drop 0 r.a)=r.a:=rfl;have pB:=λj=>au (m:=j) _ p.aj;have pR:=λg=>aJ (ψ:=g) _ p.aj;have rB:=λj=>Rm.aj j r;by_cases ht:r.tp=[]
 ·have eR:kB r p=r:=by simp [kB,ht];exact ht.symm▸rfl
  have eL:fC r p=[]:=by simp [fC,ht]
  rw [eR,eL];have hs:=cK (P:=ay) (R:=[2,3]) (ks:=[{cells:=p.l},wi]) (by kernel_rfl) (by decide) (by simp_all [ab,AV.aj]) (ajn r hg p hp he ht) (by decide) (by simp [l5,dD,ab,AV.aj,pB,aP])
  have hat: ∀(h:Hp) n,aa h 2=some {cells:=p.l}->aa h 3=some wi->kH [2,3] [{cells:=p.l},wi] [.fp r.a 0,.p 0 0,.p 1 0] (.bz []) [(0,{cells:=p.l}),(1,wi)] 2 none [.fp r.a 0,.p 2 0,.p 3 0] h n=some (true,{v:= .bz [],n,rd:=[2,3],md:=[(2,some {cells:=p.l}),(3,some wi)]}):=λh n h2 h3=>by
   refine ej (h:=h) (n:=n) (by simp_all [aS,AV.aQ,nth,aJ]) ⟨⟨?_,?_⟩,⟨?_,?_⟩,trivial⟩ ?_
   ·grind [bp.aQ]
   ·exact pB _
   ·rw [h3];rfl
   ·rfl
   grind [nR,fL,bp.aQ,aS,AV.aQ,jA,nth,aa,aP,eu]
  generalize kH _ _ _ _ _ _ _=kT at hs hat;have hk:=sX hr hg;have hcx:Sound ay (cj [(85,nE),(60,kT)]):=Sound.cons DE (Sound.cons hs Sound.nil);generalize nE=kb at*;dsimp only [DI,iP];have rB0:=rB 0;generalize r.a=ra,p.l=PL at*;refine bG.dy hcx mo Tryz.func135 fU (by simp [i135]) (aO ?_)
  dsimp only [i135];simp only [go_sem,a3,ao,ad,hk,hat,simprocAttr];refine aZ.trans (h1:=[(3,nu [])]) (n1:=5) (v1:= .agg ra) ?_ (aZ.ends (Ends.R [] (by decide) (by decide) (by grind [AV.aQ,aJ]) (by grind [AV.aj]) (by simp [iW,aa,rn,bp.aQ,aS,AV.aQ,ab,AV.aj,rows])))
  exact aZ.wkH (Go.Ab.lH.refl _) (h':=[(3,nu [])]) ⟨⟨wi,by rfl,rfl,rfl,rfl,Go.Ab.lH.ns,trivial⟩,trivial⟩ aZ.refl
 ·have hs:=cK (P:=ay) (R:=[5,2,3,8]) (ks:=[cP r 3,{cells:=p.l},wi,bF r]) (by kernel_rfl) (by decide) rfl (w60 r hg p hp hpl he ht) (by decide) (by simp [l5,dD,ab,AV.aj,fT,cG,fb,M9,aP])
  have hat: ∀(h:Hp) n,aa h 5=some (cP r 8)->aa h 2=some {cells:=p.l}->aa h 3=some wi->aa h 8=some (bF r)->kH [5,2,3,8] [cP r 3,{cells:=p.l},wi,bF r] [.p 0 0,.p 1 0,.p 2 0] (.bz []) [(0,cP (kB r p) 3),(2,nu (fC r p)),(3,bF (kB r p))] 4 none [.p 5 0,.p 2 0,.p 3 0] h n=some (true,{v:= .bz [],n,rd:=[5,2,3,8],md:=[(5,some (cP (kB r p) 8)),(2,none),(3,some (nu (fC r p))),(8,some (bF (kB r p)))]}):=λh n h5 h2 h3 h8=>by
   refine ej (h:=h) (n:=n) rfl ⟨⟨?_,?_⟩,⟨?_,?_⟩,⟨?_,?_⟩,⟨?_,?_⟩,trivial⟩ ?_
   ·rw [h5];simp [bp.aQ,aS,AV.aQ,nth,jI,dT]
   ·simp [ab,AV.aj,fT,cG,aP]
   ·grind [bp.aQ]
   ·exact pB _
   ·rw [h3];rfl
   ·rfl
   ·grind [bp.aQ,jC]
   ·exact fb _ _
   ·simp [nR,fL,bp.aQ,aS,AV.aQ,jA,nth,aa,jI,dT,jC,Zz,aP,eu]
  generalize kH _ _ _ _ _ _ _=kT at hs hat;have hk: ∀(h:Hp),fj false false true [.agg r.a] h 5=some (true,{v:= .p 5 0,n:=9,nw:=[(5,cP r 8),(8,bF r)]}):=λh=>by
   rw [AY hr hg];have e:=pW (f:=Tp.l) (z:=22) (l:=r.tp) (sO.2 ht);unfold fS nh mV mH sV tV sH tH;rw [e];rfl
  have hcx:Sound ay (cj [(85,fj false false true),(60,kT)]):=Sound.cons (Es _ _ _) (Sound.cons hs Sound.nil);generalize fj false false true=kb at*;have mB:=λj=>fT j (kB r p).ms;have sB:=λj=>cG j (kB r p).sh;have tB:=λj=>fb j (kB r p).tp;have oB:=λj=>M9 j (fC r p);have oR:=λg=>Zz g (fC r p);have eA:(kB r p).a=[.fz (rows Mb.l (kB r p).ms) (kB r p).ms.length,.fz (rows aW.l (kB r p).sh) (kB r p).sh.length,.fz (rows Tp.l (kB r p).tp) (kB r p).tp.length]:=rfl;dsimp only [DI,iP];rw [eA];generalize r.a=ra,kB r p=R2,fC r p=L2,p.l=PL at*;refine bG.dy hcx mo Tryz.func135 fU (by simp [i135]) (aO ?_)
  dsimp only [i135];simp only [go_sem,a3,ad,hk,hat,simprocAttr];refine aZ.rY (b:=8) (x:= .sg 8 0 R2.tp.length) (k:=bF R2) (o:=0) (m:=R2.tp.length) (cs:=rows Tp.l R2.tp) (v':= .agg [.fz (rows Mb.l R2.ms) R2.ms.length,.fz (rows aW.l R2.sh) R2.sh.length,.fz (rows Tp.l R2.tp) R2.tp.length]) (h':=[(3,nu L2)]) (by rfl) rfl (.inr rfl) (.inl rfl) (bW.agg ⟨bW.refl,bW.refl,bW.hit,trivial⟩) ⟨⟨by decide,nu L2,by rfl,rfl,rfl,rfl,dZ.refl⟩,trivial⟩ ?_
  exact aZ.ends (Ends.R [] (by decide) (by decide) (by simp only [AV.aQ,aS,jI,dT,jC]) (by simp_all [AV.aj,ab,aG]) (by simp [iW,aa,rn,bp.aQ,aS,AV.aQ,ab,AV.aj,oB,oR]))
theorem Ys (r:Rm) (hr:r.is=true) (p:Md) (hp:p.fin=true) (he:my r p≠0):
 cz ay 135 [.p 0 0,.p 1 0] (iP (DI r p) 0) 4 (some (eJ (my r p))) (.bz []) [(3,nu [])] 4:=by
 have a3:r.a.length=3:=rfl;have ao:aL r.a=true:=rfl;have ad:List.take 3 (List.drop 0 r.a)=r.a:=rfl;have pB:=λj=>au (m:=j) _ p.aj;have pR:=λg=>aJ (ψ:=g) _ p.aj;have rB:=λj=>Rm.aj j r;refine cz.cov (v:= .bz []) (h':=[(3,wi)]) (n':=4) ?_ aa8;cases hg:aX r
 ·have e:my r p=420:=by grind [my]
  rw [e];have hk:=Bp hr hg;have hcx:Sound ay (cj [(85,fj false false false)]):=Sound.cons (Es _ _ _) Sound.nil;generalize fj false false false=kb at*;dsimp only [DI,iP];generalize r.a=ra,p.l=PL at*;refine cz.dQ hcx mo Tryz.func135 fU (by simp [i135]) (aO ?_)
  dsimp only [i135];simp only [go_sem,a3,ad,hk,simprocAttr];exact Ends.R [] (by decide) (by decide) rfl rfl (by simp [iW,aa,rn,bp.aQ,aS,AV.aQ,ab,AV.aj,eu])
 ·have hs:=cK (P:=ay) (R:=[2,3]) (ks:=[{cells:=p.l},wi]) (by kernel_rfl) (by decide) (by simp_all [ab,AV.aj]) (ajb r hg p hp he) (by decide) (by simp [l5,dD,ab,AV.aj,pB,aP])
  have hat: ∀(h:Hp) n,aa h 2=some {cells:=p.l}->aa h 3=some wi->kH [2,3] [{cells:=p.l},wi] [.fp r.a 0,.p 0 0,.p 1 0] (.bz []) [(0,{cells:=p.l}),(1,wi)] 2 (some (eJ (my r p))) [.fp r.a 0,.p 2 0,.p 3 0] h n=some (true,{v:= .bz [],n,rd:=[2,3],md:=[(2,some {cells:=p.l}),(3,some wi)],pn:=some (eJ (my r p))}):=λh n h2 h3=>by
   refine ej (h:=h) (n:=n) (by simp_all [aS,AV.aQ,nth,aJ]) ⟨⟨?_,?_⟩,⟨?_,?_⟩,trivial⟩ ?_
   ·grind [bp.aQ]
   ·exact pB _
   ·rw [h3];rfl
   ·rfl
   grind [nR,fL,bp.aQ,aS,AV.aQ,jA,nth,aa,aP,eu]
  generalize kH _ _ _ _ _ _ _=kT at hs hat;have hk:=sX hr hg;have hcx:Sound ay (cj [(85,nE),(60,kT)]):=Sound.cons DE (Sound.cons hs Sound.nil);generalize nE=kb at*;dsimp only [DI,iP];generalize r.a=ra,p.l=PL at*;refine cz.dQ hcx mo Tryz.func135 fU (by simp [i135]) (aO ?_)
  dsimp only [i135];simp only [go_sem,a3,ad,hk,hat,simprocAttr];exact Ends.R [] (by decide) (by decide) rfl rfl (by simp [iW,aa,rn,bp.aQ,aS,AV.aQ,ab,AV.aj,eu])
def tn (r:Rm) (p:Md):Rm:=if my r p=0 then kB r p else vr
def Ax (r:Rm) (p:Md):List Og:=if my r p=0 then fC r p else []
theorem Qu {g0 g1:Nat} (hne:g0≠g1) (a b c:List AV):iZ [(5,{cells:=a,gid:=some g1}),(4,{cells:=b,gid:=some g0}),(3,{cells:=c})] g0=some (.p 4 0)/\iZ [(5,{cells:=a,gid:=some g1}),(4,{cells:=b,gid:=some g0}),(3,{cells:=c})] g1=some (.p 5 0):=by
 have b1:g1.beq g0=false:=by
  grind [absurd,ee]
 grind [iZ,Ae,aa,eu]
theorem aen (r:Rm) (hr:r.is=true) (p:Md) (hp:p.fin=true) (hpl:p.pl.length<=1000000000):
 bG ay 134 [.fn 135 [.p 0 0,.p 1 0]] (iP (DI r p) 0) 4 (jS (tn r p,my r p)) [(3,nu (Ax r p))] 4:=by
 have pB:=λj=>au (m:=j) _ p.aj;have pR:=λg=>aJ (ψ:=g) _ p.aj;have rB:=λj=>Rm.aj j r;have rR:=λg=>aJ (ψ:=g) _ (rB 0);by_cases he:my r p=0
 ·have hg:aX r=true:=by
   grind [aX,my]
  have e1:tn r p=kB r p:=aT he;have e2:Ax r p=fC r p:=aT he;rw [e1,e2,he];have oB:=λj=>M9 j (fC r p);have oR:=λg=>Zz g (fC r p);have RB:=Rm.aj 4 (kB r p);have RR:=λg=>aJ (ψ:=g) _ (Rm.aj 0 (kB r p));have hs:=cK (P:=ay) (R:=[0,1,2,3]) (ks:=DI r p) (by kernel_rfl) (by decide) rfl (aeb r hr hg p hp hpl he) (by decide) (by simp [l5,dD,ab,AV.aj,oB,aP])
  have hat: ∀(h:Hp) n,aa h 0=some {cells:=r.a}->aa h 1=some {cells:=[.fn 60 [.p 2 0,.p 3 0]]}->aa h 2=some {cells:=p.l}->aa h 3=some wi->kH [0,1,2,3] (DI r p) [.p 0 0,.p 1 0] (.agg (kB r p).a) [(3,nu (fC r p))] 4 none [.p 0 0,.p 1 0] h n=some (true,{v:= .agg (kB r p).a,n,rd:=[0,1,2,3],md:=[(0,none),(1,none),(2,none),(3,some (nu (fC r p)))]}):=λh n h0 h1 h2 h3=>by
   refine ej (h:=h) (n:=n) rfl ⟨⟨?_,?_⟩,⟨?_,?_⟩,⟨?_,?_⟩,⟨?_,?_⟩,trivial⟩ ?_
   ·grind [bp.aQ]
   ·exact rB _
   ·rw [h1];rfl
   ·rfl
   ·grind [bp.aQ]
   ·exact pB _
   ·rw [h3];rfl
   ·rfl
   simp_all [nR,fL,bp.aQ,aS,AV.aQ,jA,nth,aa,aP,eu]
  generalize kH _ _ _ _ _ _ _=kT at hs hat;have hcx:Sound ay (cj [(135,kT)]):=Sound.cons hs Sound.nil;have a3:(kB r p).a.length=3:=rfl;have ao:aL (kB r p).a=true:=rfl;have ad:List.take 3 (List.drop 0 (kB r p).a)=(kB r p).a:=rfl;dsimp only [DI,iP,jS];generalize (kB r p).a=RA,fC r p=L2,r.a=ra,p.l=PL at*;refine cz.oQ (pn:=none) AZ.Hm hcx mo Tryz.func134 A0 (by simp [i134]) (pre:=Eb) (ops:=[oo 4 (.N7 193 [.t 2,.t 3])]) rfl (by kernel_rfl) Tryz.func193 BO rfl ?_
  dsimp only [i134];simp only [go_sem,ve,simprocAttr];refine jF (caps:=[.p 4 0,.p 5 0]) (bs:=[4,5]) rfl rfl (by decide) (λGs h1 h2=> ?_)
  obtain ⟨g0,g1,rfl⟩: ∃a b,Gs=[a,b]:=by
   match Gs,h1 with
   |[a,b],_=>exact ⟨a,b,rfl⟩
  refine ⟨by simp [i193],?_⟩
  have hne:g0≠g1:=by grind
  have hgl0:=λa b c=>(Qu hne a b c).1;have hgl1:=λa b c=>(Qu hne a b c).2;dsimp only [nZ,aa] at*;simp only [go_sem,hat,iH,hgl0,hgl1,a3,ao,simprocAttr];dsimp only [i193,eJ];simp only [go_sem,a3,ad,simprocAttr];exact aZ.ends (Ends.R [] (by decide) (by decide) (by grind [AV.aQ,aS]) (by grind [AV.aj,ab,aG]) (by grind [iW,aa,rn,bp.aQ,aS,AV.aQ,ab,AV.aj,eu]))
 ·have e1:tn r p=vr:=aY he;have e2:Ax r p=[]:=aY he;rw [e1,e2];have hs:=cK (P:=ay) (R:=[0,1,2,3]) (ks:=DI r p) (by kernel_rfl) (by decide) rfl (Ys r hr p hp he) (by decide) (by rfl)
  have hat: ∀(h:Hp) n,aa h 0=some {cells:=r.a}->aa h 1=some {cells:=[.fn 60 [.p 2 0,.p 3 0]]}->aa h 2=some {cells:=p.l}->aa h 3=some wi->kH [0,1,2,3] (DI r p) [.p 0 0,.p 1 0] (.bz []) [(3,nu [])] 4 (some (eJ (my r p))) [.p 0 0,.p 1 0] h n=some (true,{v:= .bz [],n,rd:=[0,1,2,3],md:=[(0,none),(1,none),(2,none),(3,some (nu []))],pn:=some (eJ (my r p))}):=λh n h0 h1 h2 h3=>by
   refine ej (h:=h) (n:=n) rfl ⟨⟨?_,?_⟩,⟨?_,?_⟩,⟨?_,?_⟩,⟨?_,?_⟩,trivial⟩ ?_
   ·grind [bp.aQ]
   ·exact rB _
   ·rw [h1];rfl
   ·rfl
   ·grind [bp.aQ]
   ·exact pB _
   ·rw [h3];rfl
   all_goals rfl
  generalize kH _ _ _ _ _ _ _=kT at hs hat;have hcx:Sound ay (cj [(135,kT)]):=Sound.cons hs Sound.nil;dsimp only [DI,iP,jS];generalize my r p=E,r.a=ra,p.l=PL at*;refine cz.oQ (pn:=none) AZ.Hm hcx mo Tryz.func134 A0 (by simp [i134]) (pre:=Eb) (ops:=[oo 4 (.N7 193 [.t 2,.t 3])]) rfl (by kernel_rfl) Tryz.func193 BO rfl ?_
  dsimp only [i134];simp only [go_sem,ve,simprocAttr];refine jF (caps:=[.p 4 0,.p 5 0]) (bs:=[4,5]) rfl rfl (by decide) (λGs h1 h2=> ?_)
  obtain ⟨g0,g1,rfl⟩: ∃a b,Gs=[a,b]:=by
   match Gs,h1 with
   |[a,b],_=>exact ⟨a,b,rfl⟩
  refine ⟨by simp [i193],?_⟩
  have hne:g0≠g1:=by grind
  have hgl0:=λa b c=>(Qu hne a b c).1;have hgl1:=λa b c=>(Qu hne a b c).2;dsimp only [nZ,aa] at*;simp only [go_sem,hat,iH,hgl0,hgl1,simprocAttr];dsimp only [i193,eJ];simp only [go_sem,iI,simprocAttr];refine aZ.wu (l:=[]) (v':= .bz [.agg vr.a,.i .i64 E]) (bW.bz ⟨bW.agg ⟨bW.hit,bW.hit,bW.hit,trivial⟩,bW.refl,trivial⟩) ?_;exact aZ.ends (Ends.R [] (by decide) (by decide) rfl rfl (by simp [iW,aa,rn,bp.aQ,aS,AV.aQ,ab,AV.aj,rows,eu]))
theorem ahF (r:Rm) (hr:r.is=true) (p:Md) (hp:p.fin=true) (hpl:p.pl.length<=1000000000):
 bG ay 59 [.agg r.a,.fn 60 [.p 0 0,.p 1 0]] [(0,{cells:=p.l}),(1,wi)] 2 (jS (tn r p,my r p)) [(1,nu (Ax r p))] 2:=by
 have pB:=λj=>au (m:=j) _ p.aj;have pR:=λg=>aJ (ψ:=g) _ p.aj;have rB:=λj=>Rm.aj j r;have rR:=λg=>aJ (ψ:=g) _ (rB 0);have oB:=λj=>M9 j (Ax r p);have oR:=λg=>Zz g (Ax r p);have vB:=iF (tn r p,my r p);have vR:=λg=>nb (ψ:=g) _ vB;have hs:=cK (P:=ay) (R:=[2,3,0,1]) (ks:=DI r p) (by kernel_rfl) (by decide) rfl (aen r hr p hp hpl) (by decide) (by simp [l5,dD,ab,AV.aj,oB,aP])
 have hat: ∀(h:Hp) n,aa h 2=some {cells:=r.a}->aa h 3=some {cells:=[.fn 60 [.p 0 0,.p 1 0]]}->aa h 0=some {cells:=p.l}->aa h 1=some wi->kH [2,3,0,1] (DI r p) [.fn 135 [.p 0 0,.p 1 0]] (jS (tn r p,my r p)) [(3,nu (Ax r p))] 4 none [.fn 135 [.p 2 0,.p 3 0]] h n=some (true,{v:=jS (tn r p,my r p),n,rd:=[2,3,0,1],md:=[(2,none),(3,none),(0,none),(1,some (nu (Ax r p)))]}):=λh n h0 h1 h2 h3=>by
  refine ej (h:=h) (n:=n) rfl ⟨⟨?_,?_⟩,⟨?_,?_⟩,⟨?_,?_⟩,⟨?_,?_⟩,trivial⟩ ?_
  ·grind [bp.aQ]
  ·exact rB _
  ·rw [h1];rfl
  ·rfl
  ·grind [bp.aQ]
  ·exact pB _
  ·rw [h3];rfl
  ·rfl
  simp_all [nR,fL,bp.aQ,aS,AV.aQ,jA,nth,aa,aP,eu]
 generalize kH _ _ _ _ _ _ _=kT at hs hat;have hcx:Sound ay (cj [(134,kT)]):=Sound.cons hs Sound.nil;have a3:r.a.length=3:=rfl;have ro:aL r.a=true:=rfl;have rd:List.take 3 (List.drop 0 r.a)=r.a:=rfl;have ao:aL (tn r p).a=true:=rfl;have ad:List.take 3 (List.drop 0 (tn r p).a)=(tn r p).a:=rfl;have ad3:(tn r p).a.length=3:=rfl;have RB:=Rm.aj 2 (tn r p);have RR:=λg=>aJ (ψ:=g) _ (Rm.aj 0 (tn r p));simp only [jS] at*;generalize (tn r p).a=RA,Ax r p=L2,my r p=E,r.a=ra,p.l=PL at*;refine ew hcx Tryz.func59 IS ?_
 dsimp only [i59];simp only [go_sem,hat,ao,ad,ad3,simprocAttr];exact Ends.R [] (by decide) (by decide) (by grind) (by grind [AV.aj,ab,aG]) (by grind [iW,aa,rn,bp.aQ,aS,AV.aQ,ab,AV.aj,eu])
def ZP (r:Rm) (l:List Og) (e:Int):AV:= .bz [.agg r.a,.fz (rows Og.l l) l.length,.i .i64 e]
theorem FC (r:Rm) (l:List Og) (e:Int):(ZP r l e).aj 0=true:=by simp only [ZP,AV.aj,ab,Rm.aj,M9,aG]
theorem w13 (r:Rm) (hr:r.is=true) (p:Md) (hp:p.fin=true) (hpl:p.pl.length<=1000000000):
 bG ay 13 [.agg r.a,.agg p.l] [] 0 (ZP (tn r p) (Ax r p) (my r p)) [] 0:=by
 have pB:=λj=>au (m:=j) _ p.aj;have pR:=λg=>aJ (ψ:=g) _ p.aj;have rB:=λj=>Rm.aj j r;have rR:=λg=>aJ (ψ:=g) _ (rB 0);have oB:=λj=>M9 j (Ax r p);have oR:=λg=>Zz g (Ax r p);have vB:=iF (tn r p,my r p);have vR:=λg=>nb (ψ:=g) _ vB;have hs:=cK (P:=ay) (R:=[1,3]) (ks:=[{cells:=p.l},wi]) (by kernel_rfl) (by decide) (by simp_all [ab,AV.aj]) (ahF r hr p hp hpl) (by decide) (by simp [l5,dD,ab,AV.aj,oB,aP])
 have hat: ∀(h:Hp) n,aa h 1=some {cells:=p.l}->aa h 3=some wi->kH [1,3] [{cells:=p.l},wi] [.agg r.a,.fn 60 [.p 0 0,.p 1 0]] (jS (tn r p,my r p)) [(1,nu (Ax r p))] 2 none [.agg r.a,.fn 60 [.p 1 0,.p 3 0]] h n=some (true,{v:=jS (tn r p,my r p),n,rd:=[1,3],md:=[(1,none),(3,some (nu (Ax r p)))]}):=λh n h0 h1=>by
  refine ej (h:=h) (n:=n) (by simp only [aS,AV.aQ,nth,rR]) ⟨⟨?_,?_⟩,⟨?_,?_⟩,trivial⟩ ?_
  ·grind [bp.aQ]
  ·exact pB _
  ·rw [h1];rfl
  ·rfl
  grind [nR,fL,bp.aQ,aS,AV.aQ,jA,nth,aa,aP,eu]
 generalize kH _ _ _ _ _ _ _=kT at hs hat;have hcx:Sound ay (cj [(59,kT)]):=Sound.cons hs Sound.nil;have a3:r.a.length=3:=rfl;have ro:aL r.a=true:=rfl;have rd:List.take 3 (List.drop 0 r.a)=r.a:=rfl;have ao:aL (tn r p).a=true:=rfl;have ad:List.take 3 (List.drop 0 (tn r p).a)=(tn r p).a:=rfl;have ad3:(tn r p).a.length=3:=rfl;have po:aL p.l=true:=rfl;have p9:p.l.length=9:=rfl;have hvb:=FC (tn r p) (Ax r p) (my r p);simp only [jS,ZP] at*;generalize (tn r p).a=RA,Ax r p=L2,my r p=E,r.a=ra,p.l=PL at*;refine ew hcx Tryz.func13 Zp ?_
 dsimp only [i13];simp only [go_sem,a3,rd,hat,ao,ad,ad3,simprocAttr]
 grind [Ends.aw]
def Pm:Ct
 |[.agg c,.agg d],_,n=>(qX c).bind λr=>(Jj d).bind λp=>some (r.is&&(p.fin&&decide (p.pl.length<=1000000000)),{v:=ZP (tn r p) (Ax r p) (my r p),n})
 |_,_,_=>none
theorem s13:ax ay 13 Pm:=λargs h n c E hc ht=>by
 unfold Pm at hc;split at hc
 ·simp only [av,aI,aV] at hc;obtain ⟨r,hr,p,hp,rfl,rfl⟩:=hc;rw [dW hr,x3 hp];simp only [ak,bg] at ht;exact aA.pure (by kernel_rfl) (by simp only [ab,AV.aj,Rm.aj,p.aj,aG]) (FC _ _ _) (w13 r ht.1 p ht.2.1 ht.2.2) _ _
 ·cases hc
def ky (t:Tp):Int×Int×Int:=(t.me,t.sh,t.sw.ou)
theorem Oh {r:Rm} (hg:aX r=true) {b:List Tp} (hk:b.map ky=r.tp.map ky) (ht: ∀t∈b,iJ r t=true):aX ⟨r.ms,r.sh,b⟩=true:=by
 obtain ⟨h1,h2,h3⟩:=(gL r).1 hg;have hs: ∀l:List Tp,(l.Pairwise λa b=>fF a b<0)↔(l.map ky).Pairwise λa b=>Mr (lE a.1 b.1) (lE a.2.1 b.2.1)<0:=λl=>by rw [List.pairwise_map];rfl
 have ho: ∀(l:List Tp) (m:Int),(ofM l m).map (λt=>t.sw.ou)=((l.map ky).filter λk=>k.1==m).map λk=>k.2.2:=λl m=>by
  rw [List.filter_map,List.map_map];rfl
 have hlen: ∀m,(ofM b m).length=(ofM r.tp m).length:=λm=>by
  have:=dC List.length (ho b m)
  grind
 refine (gL _).2 ⟨h1,(qT (r:=r) rfl rfl).trans h2,λt h=>(wx (r:=r) rfl rfl t).trans (ht t h),?_,λm hm=> ?_,λm hm=> ?_⟩
 ·exact (hs b).2 (by rw [hk];exact (hs r.tp).1 h3.Zy)
 ·show ((ofM b m).map _).Nodup;rw [ho,hk,<-ho];exact h3.out m hm
 ·show (ofM b m).length<=5;rw [hlen];exact h3.ZE m hm
structure SwT (t u:Tp):Prop where
 eq:u={t with sw:=u.sw}
 gd:Gd u.sw
 l:u.sw.l=t.sw.l
 ou:u.sw.ou=t.sw.ou
 wa:u.sw.wa<=t.mo
theorem Qa {r:Rm} {t u:Tp} (h:iJ r t=true) (hs:SwT t u):iJ r u=true:=by
 obtain ⟨me,sh,wt,mo,sw⟩:=u;have he:=hs.eq;simp only [Tp.mk.injEq] at he;obtain ⟨rfl,rfl,rfl,rfl,-⟩:=he;have hl:=hs.l;have hw:=hs.wa;have hg:=py.2 hs.gd;dsimp only at hl hw hg;simp only [iJ,ak] at h ⊢
 grind
theorem G2 {r:Rm} (hg:aX r=true) {b:List Tp} (hl:b.length=r.tp.length) (h: ∀(i:Nat) (t:Tp),r.tp[i]? =some t-> ∃u,b[i]? =some u/\SwT t u):aX ⟨r.ms,r.sh,b⟩=true:=by
 refine Oh hg (nk λi=> ?_) λu hu=> ?_
 ·rw [dX,dX];cases ht:r.tp[i]? with
  |none=>rw [lu (by grind)]
  |some t=>
   obtain ⟨u,hu,hs⟩:=h i t ht;rw [hu,iI,iI,ky,ky,hs.ou];rw [hs.eq]
 ·obtain ⟨i,hi⟩:=gF hu;have hlt:=(cv.1 hi).1;obtain ⟨t,ht⟩: ∃t,r.tp[i]? =some t:=⟨_,bj (by omega)⟩
  obtain ⟨u',hu',hs⟩:=h i t ht;rw [hi] at hu';cases hu';exact Qa (gW hg ht) hs
/-! choices -/
def ChT (t u:Tp):Prop:=u=t\/ ∃x,(-1<=x/\x<=t.mo)/\u=wg t x
theorem Ji {tp:List Tp} {q:List Nat} {c:List Int} (hq: ∀(k i:Nat) (x:Int) (t:Tp),q[k]? =some i->c[k]? =some x->tp[i]? =some t-> -1<=x/\x<=t.mo): ∀(k i:Nat) (t:Tp),tp[i]? =some t-> ∃u,(BV tp q c k)[i]? =some u/\ChT t u
 |0=>λi t h=>⟨t,h,.inl rfl⟩
 |k+1=>λi t h=>by
  have ih:=Ji hq k i t h;simp only [BV];split
  ·rename_i i0 x h1 h2;split
   ·rename_i t0 h3;by_cases hi:i0=i
    ·subst hi;rw [h] at h3;cases h3;refine ⟨wg t x,?_,.inr ⟨x,hq k i0 x t h1 h2 h,rfl⟩⟩
     grind
    grind
   ·exact ih
  ·exact ih
theorem ID {r:Rm} (hg:aX r=true) {m:Nat} (hm:m<r.ms.length): ∀(i:Nat) (t:Tp),r.tp[i]? =some t-> ∃u,(dF r m).tp[i]? =some u/\ChT t u:=by
 obtain ⟨x,hx⟩: ∃x,r.ms[m]? =some x:=⟨_,bj hm⟩;have hb:=qw hg hx;have hc:=CZ (b:=x.es) (qg hg hm) hb.1;refine Ji (λk i y t h1 h2 h3=> ?_) _;have e:gu r m=s7 (cf r m) x.es:=by grind [gu,Option.elim]
 rw [e] at h2;simp only [yZ,ak] at hc;have h4:=(dt _ _).1 hc.2 k y h2;rw [fy] at h4;have h5:(cf r m)[k]? =some (yE r i):=by grind [cf,dX]
 simp only [okX,h5] at h4;have h6:(yE r i).mo=t.mo:=by grind [yE]
 rw [h6] at h4;exact bD h4
theorem Fc {r:Rm} {t:Tp} (h:iJ r t=true) {x:Int} (hx: -1<=x/\x<=t.mo):SwT t (wg t x)/\(wg t x).sw.ss=t.sw.ss/\(0<=(wg t x).sw.nw->(wg t x).sw.nw=t.sw.nw/\(wg t x).sw.tp=t.sw.tp/\(wg t x).sw.sq=t.sw.sq):=by
 obtain ⟨_,s,hs,_,_,hmo,hw,hl,hwa⟩:=je h;have hgd:=py.1 hw;have hxl: -1<=x/\x<=(t.sw.l.length:Int)-1:=by grind
 obtain ⟨e,g⟩:=SK hgd hxl (ai:=3) (by omega)
 have e1:(wg t x).sw=bif decide (x<0) then JZ t.sw 3 else {t.sw with wa:=x,ai:=3}:=by show (gR t.sw x 3).1=_;rw [e]
 refine ⟨⟨rfl,g,?_,?_,?_⟩,?_,?_⟩<;>rw [e1]<;>cases hb:decide (x<0)
 ·rfl
 ·rfl
 ·rfl
 ·rfl
 ·exact hx.2
 ·show (-1:Int)<=t.mo;omega
 ·rfl
 ·rfl
 ·simp
 ·intro hn;exact absurd (show (0:Int)<= -1 from hn) (by omega)
theorem Tv {r:Rm} {t:Tp} (h:iJ r t=true):SwT t t:=by
 obtain ⟨_,s,hs,_,_,_,hw,_,hwa⟩:=je h;exact ⟨rfl,py.1 hw,rfl,rfl,hwa⟩
theorem abg {r:Rm} {t u:Tp} (h:iJ r t=true) (hc:ChT t u):SwT t u:=by
 rcases hc with rfl|⟨x,hx,rfl⟩
 all_goals grind [Tv,Fc]
theorem Mj {r:Rm} (hg:aX r=true) {m:Nat} (hm:m<r.ms.length):aX (dF r m)=true:=
 G2 hg (wQ _ _ _ _) λi t ht=>by
  obtain ⟨u,hu,hc⟩:=ID hg hm i t ht;exact ⟨u,hu,abg (gW hg ht) hc⟩
/-! packets -/
theorem LA (s:Sw) (k:Int) (p:Md) (x:Sh):(dE s k p x).1.wa=s.wa:=by
 grind [cY,tk,dE,lv,iX,dz,kI,jD,lD]
theorem Ge {l:List Int} {x:Int} (h:0<=oJ l x):oJ l x<=(l.length:Int)-1/\l[(oJ l x).toNat]? =some x:=by
 rcases lC (p:=λy=>x==y) l 0 (xv 0) with h4|⟨k,hk1,hk2,_,a,ha,hb⟩
 all_goals grind [oJ,cv]
theorem Xy {s:Sw} {p:Md} {ss:Int} (h:Gd s) (hp:Tf ss p) (hk:0<=oJ s.l ss):ey s p=((dE s (oJ s.l ss) p (dec p.pl).1).1,(dE s (oJ s.l ss) p (dec p.pl).1).2,0)/\Gd (dE s (oJ s.l ss) p (dec p.pl).1).1:=by
 obtain ⟨x,a,b,hx,hd⟩:=Fi hp;have hm:=hp.1;have hss:=hp.2.1;have hsq:0<=p.sq/\p.sq<=65535:=bD (KM hm).2.2
 grind [py,QI,Ge,decide,oJ,bw,ey]
theorem WH {a b:Int} (h:a=(b+1) % 65536) (hb:0<=b/\b<=65535):decide (lead a b>0)=true:=by
 grind [lead]
theorem Sf {s:Sw} {k:Int} {p:Md} {x:Sh} (h:Gd s) (hp:0<=p.sq/\p.sq<=65535) (hco:s.nw=k->p.sq=(s.tp+1) % 65536/\(s.tp+s.sq) % 65536=s.ss):
 (((dE s k p x).2=[]/\(dE s k p x).1.ss=s.ss)\/ ∃o,(dE s k p x).2=[o]/\o.ss=s.ou/\o.sq=(dE s k p x).1.ss/\(dE s k p x).1.ss=(s.ss+1) % 65536)∧
 ((dE s k p x).1.nw=k->(dE s k p x).1.tp=p.sq/\((dE s k p x).1.tp+(dE s k p x).1.sq) % 65536=(dE s k p x).1.ss)∧
 ((dE s k p x).1.nw≠k->(dE s k p x).1.nw=s.nw/\(dE s k p x).1.tp=s.tp/\(dE s k p x).1.sq=s.sq/\(dE s k p x).1.ss=s.ss):=by
 have hss:=h.ss;have htp:=h.tp;have hsq:=h.sq
 -- behind take
 obtain ⟨t1,t2,t3,t4,t5⟩:((cY s k p x).nw=k->p.sq=((cY s k p x).tp+1) % 65536/\((cY s k p x).tp+(cY s k p x).sq) % 65536=(cY s k p x).ss)/\(cY s k p x).ss=s.ss/\(cY s k p x).ou=s.ou/\(0<=(cY s k p x).tp/\(cY s k p x).tp<=65535)/\((cY s k p x).nw≠k->cY s k p x=s):=by
  unfold cY;cases tk s k x
  ·grind
  ·have e:IntKind.i64.wrap (s.ss+1)=s.ss+1:=aN (by omega) (by omega)
   grind
 unfold dE;generalize cY s k p x=S at*;by_cases hn:S.nw=k
 ·obtain ⟨c1,c2⟩:=t1 hn;have ha:lv S k p=true:=by
   grind [lv,WH,aG]
  have hA:iX S k p={S with tp:=p.sq}:=by grind [iX]
  rw [ha,hA,cond_true];obtain ⟨f1,f2,f3,f4,f5⟩:(dz {S with tp:=p.sq} x).tp=p.sq/\(dz {S with tp:=p.sq} x).sq=S.sq/\(dz {S with tp:=p.sq} x).ss=S.ss/\(dz {S with tp:=p.sq} x).nw=S.nw/\(dz {S with tp:=p.sq} x).ou=S.ou:=by
   grind [dz]
  generalize dz {S with tp:=p.sq} x=F at*
  cases hd:jD F x
  ·rw [cond_false];refine ⟨.inr ⟨_,rfl,?_,rfl,?_⟩,λ_=>⟨f1,?_⟩,λhh=>absurd (f4.trans hn) hh⟩
   ·show F.ou=s.ou;rw [f5,t3]
   ·show (p.sq+F.sq) % 65536=(s.ss+1) % 65536;omega
   ·show (F.tp+F.sq) % 65536=(p.sq+F.sq) % 65536;rw [f1]
  ·rw [cond_true]
   grind [kI,inl,absurd]
 ·have ha:lv S k p=false:=by
   have e:(k==S.nw)=false:=by
    grind
   simp only [lv,e,j5]
  grind
abbrev Kx:=Int×Int
def jq (x:Kx):List (Kx×Int)->Option Int
 |[]=>none
 |(a,b)::r=>bif x==a then some b else jq x r
def j9 (x:Kx) (v:Int):List (Kx×Int)->List (Kx×Int)
 |[]=>[(x,v)]
 |(a,b)::r=>bif x==a then (a,v)::r else (a,b)::j9 x v r
def lX (x:Kx):List (Kx×Int)->List (Kx×Int)
 |[]=>[]
 |(a,b)::r=>bif x==a then r else (a,b)::lX x r
abbrev zK (m:List (Kx×Int)):List Kx:=m.map Prod.fst
abbrev zV (m:List (Kx×Int)):List Int:=m.map Prod.snd
theorem uX (x:Kx) (v:Int) (y:Kx): ∀m,jq y (j9 x v m)=if y=x then some v else jq y m
 |[]=>by
  simp [j9,jq]
 |(a,b)::r=>by
  simp only [j9];cases h:x==a
  ·simp only [cond_false,jq];have h:=ne_of_beq_false h;by_cases hy:y=x
   ·subst hy;have:(y==a)=false:=by simpa using h
    rw [this,cond_false,uX,aT rfl,aT rfl]
   ·rw [uX,aY hy,aY hy]
  ·have h:x=a:=by simpa using h
   subst h;simp only [cond_true,jq]
   grind
theorem yb {x:Kx}: ∀{m:List (Kx×Int)},x ∉ zK m->jq x m=none
 |[],_=>rfl
 |(a,b)::r,h=>by
  simp only [zK,fJ,gP,not_or] at h;have:(x==a)=false:=by grind
  simp only [jq,this,cond_false];exact yb h.2
theorem z7 {x y:Kx}: ∀{m:List (Kx×Int)},(zK m).Nodup->jq y (lX x m)=if y=x then none else jq y m
 |[],_=>by simp [lX,jq]
 |(a,b)::r,h=>by
  simp only [zK,fJ,tC] at h;simp only [lX];cases hx:x==a
  ·simp only [cond_false,jq];rw [z7 h.2]
   grind
  ·have hx:x=a:=by grind
   subst hx;simp only [cond_true,jq];by_cases hy:y=x
   ·simp_all [yb]
   grind
theorem Fp {x:Kx} {v:Int}: ∀{m:List (Kx×Int)},(zK m).Nodup->(zK (j9 x v m)).Nodup/\ ∀y∈zK (j9 x v m),y=x\/y∈zK m
 |[],_=>by simp [j9,zK]
 |(a,b)::r,h=>by
  simp only [zK,fJ,tC] at h;obtain ⟨i1,i2⟩:=Fp (x:=x) (v:=v) h.2;simp only [j9]
  grind
theorem De {x:Kx}: ∀{m:List (Kx×Int)},(zK (lX x m)).Sublist (zK m)
 |[]=>List.Sublist.refl _
 |(a,b)::r=>by
  simp only [lX];cases x==a
  ·exact (De (m:=r)).cons_cons a
  simp
theorem Jv {x:Kx} {i:Nat} (v:Int): ∀{m:List (Kx×Int)},(zK m).findIdx? (x== ·)=some i->jq x m=(zV m)[i]? /\i<m.length/\zK (j9 x v m)=zK m/\zV (j9 x v m)=(zV m).set i v/\zK (lX x m)=(zK m).eraseIdx i/\zV (lX x m)=(zV m).eraseIdx i
 |[],h=>by simp at h
 |(a,b)::r,h=>by
  simp only [zK,fJ,Jx] at h;cases hx:x==a
  ·rw [hx] at h;simp only [ei,dP,bK] at h;obtain ⟨j,hj,rfl⟩:=h;obtain ⟨h1,h2,h3,h4,h5,h6⟩:=Jv v hj;simp only [jq,j9,lX,hx,cond_false,zV,zK,fJ,su,List.length_cons,List.set_cons_succ,List.eraseIdx_cons_succ,yQ,lI]
   grind
  ·rw [hx] at h;simp only [cM,aI] at h
   grind [jq,j9,lX]
theorem KL {x:Kx} (v:Int): ∀{m:List (Kx×Int)},(zK m).findIdx? (x== ·)=none->jq x m=none/\zK (j9 x v m)=zK m++[x]/\zV (j9 x v m)=zV m++[v]/\lX x m=m
 |[],h=>⟨rfl,rfl,rfl,rfl⟩
 |(a,b)::r,h=>by
  simp only [zK,fJ,Jx] at h;cases hx:x==a
  ·rw [hx] at h;simp only [ei,dP,Option.map_eq_none_iff] at h;obtain ⟨h1,h2,h3,h4⟩:=KL v h;simp only [jq,j9,lX,hx,cond_false,zV,zK,fJ,ez,yQ,lI]
   grind
  grind
def cy (x:Kx) (m:List (Kx×Int)):Int:=(jq x m).getD 0
theorem xf (x:Kx) (v:Int) (y:Kx) (m):cy y (j9 x v m)=if y=x then v else cy y m:=by
 grind [cy,uX]
theorem CF {x y:Kx} {m:List (Kx×Int)} (h:(zK m).Nodup):cy y (lX x m)=if y=x then 0 else cy y m:=by
 grind [cy,z7]
def mO (m:List (Kx×Int)) (l:List Og):List (Kx×Int):=l.foldl (λm o=>j9 (o.me,o.p.ss) o.p.sq m) m
theorem agi {m:List (Kx×Int)} {l:List Og} {j:Nat} {o:Og} (h:l[j]? =some o):mO m (l.take (j+1))=j9 (o.me,o.p.ss) o.p.sq (mO m (l.take j)):=by
 grind [mO,jY,x7,List.foldl_append]
theorem Uc {m:List (Kx×Int)} (h:(zK m).Nodup): ∀l,(zK (mO m l)).Nodup:=λl=>by
 induction l generalizing m with
 |nil=>exact h
 |cons o l ih=>exact ih (Fp h).1
def Lj (p:Md) (t:Tp):Prop:=((ey t.sw p).2.1=[]/\(ey t.sw p).1.ss=t.sw.ss)\/ ∃o,(ey t.sw p).2.1=[o]/\o.ss=t.sh/\o.sq=(ey t.sw p).1.ss/\(ey t.sw p).1.ss=(t.sw.ss+1) % 65536
theorem uC {i:Int} {p:Md}: ∀(tp:List Tp) (m:List (Kx×Int)),(tp.Pairwise λa b=>(a.me,a.sh)≠(b.me,b.sh))->(∀t∈tp,t.sh=i->Lj p t)->(∀t∈tp,cy (t.me,t.sh) m=t.sw.ss)->(∀t∈tp,0<=t.sw.ss/\t.sw.ss<=65535)→
 (∀(j:Nat) (o:Og),(tp.flatMap (oT i p))[j]? =some o->o.p.sq=(cy (o.me,o.p.ss) (mO m ((tp.flatMap (oT i p)).take j))+1) % 65536/\0<=cy (o.me,o.p.ss) (mO m ((tp.flatMap (oT i p)).take j))/\cy (o.me,o.p.ss) (mO m ((tp.flatMap (oT i p)).take j))<=65535)∧
 (∀t∈tp,cy (t.me,t.sh) (mO m (tp.flatMap (oT i p)))=(BT i p t).sw.ss)∧
 (∀k,(∀t∈tp,(t.me,t.sh)≠k)->cy k (mO m (tp.flatMap (oT i p)))=cy k m)
 |[],m,_,_,_,_=>⟨λj o h=>by simp at h,λt h=>by simp at h,λk _=>rfl⟩
 |t::r,m,hd,hs,hm,hr=>by
  rw [List.pairwise_cons] at hd;obtain ⟨hd1,hd2⟩:=hd;have hs2: ∀t∈r,t.sh=i->Lj p t:=λu hu=>hs u (hJ _ hu);have ht:=hm t iQ;have hr1:=hr t iQ;have hr2: ∀t∈r,0<=t.sw.ss/\t.sw.ss<=65535:=λu hu=>hr u (hJ _ hu);rw [List.flatMap_cons];have same:oT i p t=[]->(BT i p t).sw.ss=t.sw.ss->_:=λh0 h1=>by
   obtain ⟨i1,i2,i3⟩:=uC r m hd2 hs2 (λu hu=>hm u (hJ _ hu)) hr2;have:(∀(j:Nat) (o:Og),(oT i p t++r.flatMap (oT i p))[j]? =some o->o.p.sq=(cy (o.me,o.p.ss) (mO m ((oT i p t++r.flatMap (oT i p)).take j))+1) % 65536/\0<=cy (o.me,o.p.ss) (mO m ((oT i p t++r.flatMap (oT i p)).take j))/\cy (o.me,o.p.ss) (mO m ((oT i p t++r.flatMap (oT i p)).take j))<=65535)∧
    (∀u∈t::r,cy (u.me,u.sh) (mO m (oT i p t++r.flatMap (oT i p)))=(BT i p u).sw.ss)∧
    (∀k,(∀u∈t::r,(u.me,u.sh)≠k)->cy k (mO m (oT i p t++r.flatMap (oT i p)))=cy k m):=by
    rw [h0,List.nil_append];refine ⟨i1,λu hu=> ?_,λk hk=>i3 k λu hu=>hk u (hJ _ hu)⟩;rcases gP.1 hu with rfl|hu
    ·rw [h1,i3 _ λu hu=>(hd1 u hu).symm];exact ht
    ·exact i2 u hu
   exact this
  by_cases hk:t.sh=i
  ·have hO:oT i p t=(ey t.sw p).2.1.map (Og.mk t.me):=by simp only [oT,hk,cM]
   have hT:(BT i p t).sw.ss=(ey t.sw p).1.ss:=by simp only [BT,hk,cM]
   rcases hs t iQ hk with ⟨e1,e2⟩|⟨o,e1,e2,e3,e4⟩
   ·grind
   ·have hO1:oT i p t=[⟨t.me,o⟩]:=by grind
    have hput: ∀l,mO m (⟨t.me,o⟩::l)=mO (j9 (t.me,t.sh) o.sq m) l:=λl=>by rw [<-e2];rfl
    obtain ⟨i1,i2,i3⟩:=uC r (j9 (t.me,t.sh) o.sq m) hd2 hs2 (λu hu=>by
     rw [xf,aY (hd1 u hu).symm];grind) hr2
    rw [hO1,List.singleton_append];refine ⟨λj a hj=> ?_,λu hu=> ?_,λk hk'=> ?_⟩
    ·cases j with
     |zero=>
      simp only [List.getElem?_cons_zero,aI] at hj;subst hj;show o.sq=(cy (t.me,o.ss) m+1) % 65536/\0<=cy (t.me,o.ss) m/\cy (t.me,o.ss) m<=65535;rw [e2,ht,e3,e4];exact ⟨rfl,hr1⟩
     |succ j=>
      rw [su] at hj;rw [FK,hput];exact i1 j a hj
    ·rw [hput];rcases gP.1 hu with rfl|hu
     ·rw [i3 _ λu hu=>(hd1 u hu).symm,xf,aT rfl,hT,e3]
     grind
    ·rw [hput,i3 k λu hu=>hk' u (hJ _ hu),xf,aY (hk' t iQ).symm]
  ·exact same (by simp only [oT,hk,dP]) (by simp only [BT,hk,dP])
end Go.Proofs.Rom
namespace Go.Proofs.Rom
open Go.Ab
structure A7 where
 wh:Int
 me:Int
 sh:Int
 wt:Int
 mo:Int
 ou:Int
 bi:Int
def A7.ok (a:A7):Bool:=bZ 0 255 a.wh&&(bZ 0 255 a.me&&(bZ 0 255 a.sh&&(bZ 0 255 a.wt&&(bZ 0 255 a.mo&&(bZ 0 255 a.ou&&bZ 0 65535 a.bi)))))
structure gK where
 r:Rm
 q:List (List Md)
 n:List Int
def na (i L:Nat):List Int:=iD (λk=>100*(i:Int)+10*(k:Int)+7) L
def Z7 (l:List Md):Int:=match l with
 |[]=>0
 |m::_=>m.sq
structure Yu (ss:Int) (l:List Md) (c:Int):Prop where
 c:0<=c/\c<=l.length
 v: ∀p∈l,Tf ss p
 sq: ∀(j:Nat) m,l[j]? =some m->m.sq=(Z7 l+(j:Nat)) % 65536
 ln:l.length<=1000
structure uT (s:gK):Prop where
 ms:1<=s.r.ms.length/\s.r.ms.length<=5
 sh:s.r.sh.length<=5
 so:s.r.sh.all aW.ok=true
 ss: ∀(i:Nat) x,s.r.sh[i]? =some x->x.ss=na i x.ss.length/\1<=x.ss.length/\x.ss.length<=3
 q:s.q.length=15
 n:s.n.length=15
 st: ∀(i k:Nat) x,s.r.sh[i]? =some x->k<x.ss.length->Yu (100*(i:Int)+10*(k:Int)+7) (s.q.getD (3*i+k) []) (s.n.getD (3*i+k) 0)
def aiv:aW:=⟨0,[],[],0⟩
def gK.i (s:gK) (a:A7):Nat:=(a.sh % (s.r.sh.length:Int)).toNat
def gK.k (s:gK) (a:A7):Nat:=(a.mo % ((s.r.sh.getD (s.i a) aiv).ss.length:Int)).toNat
def gK.c (s:gK) (a:A7):Nat:=3*s.i a+s.k a
def DT (s:gK) (a:A7):Bool:= !(decide (a.wh % 8<4))&&(!(s.r.sh.length==0)&& !(s.n.getD (s.c a) 0==((s.q.getD (s.c a) []).length:Int)))
def gK.up (s:gK) (c:Nat):gK:={s with n:=s.n.set c (s.n.getD c 0+1)}
def gK.pk (s:gK) (c:Nat):Md:=(s.q.getD c []).getD (s.n.getD c 0).toNat Iq
structure TI (s:gK) (m:List (Kx×Int)) (t:Tp):Prop where
 ou:t.sw.ou=t.sh
 ss:cy (t.me,t.sh) m=t.sw.ss
 co:0<=t.sw.nw->t.sw.tp=(Z7 (s.q.getD (3*t.sh+t.sw.nw).toNat [])+s.n.getD (3*t.sh+t.sw.nw).toNat 0-1) % 65536/\(t.sw.tp+t.sw.sq) % 65536=t.sw.ss
structure Inv (s:gK) (r:Rm) (m:List (Kx×Int)):Prop where
 sc:uT s
 ms:r.ms.length=s.r.ms.length
 sh:r.sh=s.r.sh
 gd:aX r=true
 nd:(zK m).Nodup
 ti: ∀t∈r.tp,TI s m t
theorem Inv.is {s:gK} {r:Rm} {m:List (Kx×Int)} (h:Inv s r m):r.is=true:=by
 have hl:=ek h.gd;have h1:=h.sc.so;rw [<-h.sh] at h1;simp only [Rm.is,ak,bg,du]
 grind
/-! choices -/
theorem TI.sw {s:gK} {m:List (Kx×Int)} {t u:Tp} (h:TI s m t) (e:u={t with sw:=u.sw}) (h1:u.sw.ou=t.sw.ou) (h2:u.sw.ss=t.sw.ss) (h3:0<=u.sw.nw->u.sw.nw=t.sw.nw/\u.sw.tp=t.sw.tp/\u.sw.sq=t.sw.sq):TI s m u:=by
 obtain ⟨me,sh,wt,mo,sw⟩:=u;simp only [Tp.mk.injEq] at e;obtain ⟨rfl,rfl,rfl,rfl,-⟩:=e;dsimp only at h1 h2 h3;refine ⟨?_,?_,λhn=> ?_⟩
 ·show sw.ou=t.sh;rw [h1];exact h.ou
 ·show cy (t.me,t.sh) m=sw.ss;rw [h2];exact h.ss
 ·obtain ⟨e1,e2,e3⟩:=h3 hn;have hn':(0:Int)<=sw.nw:=hn;show sw.tp=(Z7 (s.q.getD (3*t.sh+sw.nw).toNat [])+s.n.getD (3*t.sh+sw.nw).toNat 0-1) % 65536/\(sw.tp+sw.sq) % 65536=sw.ss;rw [e1,e2,e3,h2];exact h.co (by omega)
theorem Sr {r:Rm} (hg:aX r=true) {m:Nat} (hm:m<r.ms.length) {u:Tp} (hu:u∈(dF r m).tp): ∃t∈r.tp,iJ r t=true/\ChT t u:=by
 obtain ⟨i,hi⟩:=gF hu;have hlt:=(cv.1 hi).1;have hl:(dF r m).tp.length=r.tp.length:=wQ _ _ _ _;obtain ⟨t,ht⟩: ∃t,r.tp[i]? =some t:=⟨_,bj (by omega)⟩
 grind [ID,bJ,gW]
theorem Inv.chs {s:gK} {r:Rm} {m:List (Kx×Int)} (h:Inv s r m) {j:Nat} (hj:j<r.ms.length):Inv s (dF r j) m:=
 ⟨h.sc,h.ms,h.sh,Mj h.gd hj,h.nd,λu hu=>by
   obtain ⟨t,ht,hb,hc⟩:=Sr h.gd hj hu;rcases hc with rfl|⟨x,hx,rfl⟩
   ·exact h.ti _ ht
   ·obtain ⟨w1,w2,w3⟩:=Fc hb hx;exact (h.ti t ht).sw w1.eq w1.ou w2 w3⟩
theorem Inv.del {s:gK} {r:Rm} {m:List (Kx×Int)} (h:Inv s r m) (p:Nat):Inv s (mQ r p) m:=
 ⟨h.sc,h.ms,h.sh,C7 h.gd p,h.nd,λt ht=>h.ti t ((List.eraseIdx_sublist _ _).subset ht)⟩
theorem Inv.mea {s:gK} {r:Rm} {m:List (Kx×Int)} (h:Inv s r m) (j:Nat) {b:Int} (hb:0<=b/\b<=1073741824):Inv s (gv r j b) m:=
 ⟨h.sc,(List.length_modify _ _ _).trans h.ms,h.sh,Jb h.gd hb,h.nd,h.ti⟩
theorem Vy {a b:Tp} (h:fF a b<0):(a.me,a.sh)≠(b.me,b.sh):=λhe=>by
 simp only [aV] at he;have:=p6 h;omega
theorem uu {r:Rm} (hg:aX r=true):r.tp.Pairwise λa b=>(a.me,a.sh)≠(b.me,b.sh):=((gL r).1 hg).2.2.Zy.imp Vy
theorem Inv.fol {s:gK} {r:Rm} {m:List (Kx×Int)} (h:Inv s r m) {j k:Int} {f:Fo} {x:aW} (ho:yA r j k f x) (hf:f.ou=k):Inv s (fQ r j k f) (lX (j,k) m):=by
 have hg2:=xJ h.gd ho;have hk:=uu hg2;have hR:=CV ho;rw [hR] at hk hg2 ⊢;have hp:=xP r.tp (nG j k x f) (eX (fw j k) r.tp);have hk2:=(hp.pairwise_iff (λ{a b} (hh:(a.me,a.sh)≠(b.me,b.sh))=>hh.symm)).1 hk;rw [List.pairwise_cons] at hk2;obtain ⟨w1,w2,w3,w4⟩:=Lw ho.nw;refine ⟨h.sc,h.ms,h.sh,hg2,h.nd.sublist De,λt ht=> ?_⟩;rcases gP.1 (hp.mem_iff.1 ht) with rfl|ht
 ·refine ⟨w4.trans hf,?_,λhn=> ?_⟩
  ·show cy (j,k) _=(gl x f).1.ss;rw [CF h.nd,aT rfl];unfold gl yY;cases dv _<;>rfl
  ·have:(gl x f).1.nw= -1:=by
    have h0:=ho.nw
    grind [gl,yY,dv]
   have hn':(0:Int)<=(gl x f).1.nw:=hn;omega
 ·have ht0:=h.ti t ht;refine ⟨ht0.ou,?_,ht0.co⟩;rw [CF h.nd,aY (λhe=>hk2.1 t ht he.symm)];exact ht0.ss
/-! packets -/
section
variable {s:gK} {r:Rm} {m:List (Kx×Int)} {a:A7}
theorem FR (h:DT s a=true): ¬a.wh % 8<4/\0<s.r.sh.length/\s.n.getD (s.c a) 0≠((s.q.getD (s.c a) []).length:Int):=by
 simp only [DT,ak,gG,Gj,CA] at h;omega
theorem GW (hl:0<s.r.sh.length):s.i a<s.r.sh.length:=by
 simp_all [gK.i,mK]
theorem A8 (hs:uT s) (hl:0<s.r.sh.length): ∃x,s.r.sh[s.i a]? =some x/\s.k a<x.ss.length/\s.k a<3/\x.ss[s.k a]? =some (100*(s.i a:Int)+10*(s.k a:Int)+7):=by
 have hi:=GW (a:=a) hl;obtain ⟨x,hx⟩: ∃x,s.r.sh[s.i a]? =some x:=⟨_,bj hi⟩;obtain ⟨e,l1,l3⟩:=hs.ss _ x hx;have hk:s.k a<x.ss.length:=by
  unfold gK.k;rw [jd,hx,fM];have h1:=ph a.mo (b:=(x.ss.length:Int)) (by omega)
  have h2:=mK a.mo (b:=(x.ss.length:Int)) (by omega)
  omega
 grind [na,eZ]
theorem AE (hs:uT s) (h:DT s a=true):Tf (100*(s.i a:Int)+10*(s.k a:Int)+7) (s.pk (s.c a))/\(s.pk (s.c a)).sq=(Z7 (s.q.getD (s.c a) [])+s.n.getD (s.c a) 0) % 65536/\0<=s.n.getD (s.c a) 0/\s.n.getD (s.c a) 0<((s.q.getD (s.c a) []).length:Int)/\(s.q.getD (s.c a) [])[(s.n.getD (s.c a) 0).toNat]? =some (s.pk (s.c a))/\(s.q.getD (s.c a) []).length<=1000:=by
 obtain ⟨_,hl,hne⟩:=FR h;obtain ⟨x,hx,hk,_,_⟩:=A8 (a:=a) hs hl;have hst:Yu _ (s.q.getD (s.c a) []) (s.n.getD (s.c a) 0):=hs.st (s.i a) (s.k a) x hx hk;have hc:=hst.c;obtain ⟨p,hp⟩: ∃p,(s.q.getD (s.c a) [])[(s.n.getD (s.c a) 0).toNat]? =some p:=⟨_,bj (by omega)⟩
 have he:s.pk (s.c a)=p:=by grind [gK.pk,jd]
 rw [he];refine ⟨hst.v p (bJ hp),?_,hc.1,by omega,hp,hst.ln⟩
 rw [hst.sq _ p hp,show (((s.n.getD (s.c a) 0).toNat:Nat):Int)=s.n.getD (s.c a) 0 by omega]
theorem UW (hs:uT s) {i k:Nat} {x:aW} (hx:s.r.sh[i]? =some x) (hk:k<x.ss.length):mJ s.r.sh (100*(i:Int)+10*(k:Int)+7)=(i:Int):=by
 have hin: ∀(j:Nat) y,s.r.sh[j]? =some y->Ix (100*(i:Int)+10*(k:Int)+7) y=true->j=i:=λj y hy hb=>by
  obtain ⟨e,l1,l3⟩:=hs.ss j y hy;obtain ⟨_,_,l3'⟩:=hs.ss i x hx;simp only [Ix,List.any_eq_true,ik] at hb;obtain ⟨z,hz,he⟩:=hb;rw [e] at hz;obtain ⟨k',hk',e'⟩:=qc hz;omega
 have hyes:Ix (100*(i:Int)+10*(k:Int)+7) x=true:=by
  simp only [Ix,List.any_eq_true,ik];refine ⟨_,?_,rfl⟩;obtain ⟨e,_,_⟩:=hs.ss i x hx;rw [e];exact bJ (eZ (g:=λk:Nat=>100*(i:Int)+10*(k:Int)+7) hk)
 unfold mJ;rcases lC (p:=Ix (100*(i:Int)+10*(k:Int)+7)) s.r.sh 0 (xv 0) with h|⟨j,hj,e,_,y,hy,hb⟩
 ·exact absurd hyes (by rw [wZ s.r.sh 0 (xv 0) h x (bJ hx)];decide)
 grind
theorem acb {i k L:Nat} (hk:k<L) (hL:L<=3):oJ (na i L) (100*(i:Int)+10*(k:Int)+7)=(k:Int):=by
 have h0:0<=oJ (na i L) (100*(i:Int)+10*(k:Int)+7):=by
  rcases lC (p:=λy=>100*(i:Int)+10*(k:Int)+7==y) (na i L) 0 (xv 0) with h|⟨j,hj,e,_⟩
  ·have:=wZ (na i L) 0 (xv 0) h _ (bJ (eZ (g:=λk:Nat=>100*(i:Int)+10*(k:Int)+7) hk));simp at this
  grind [oJ]
 obtain ⟨h1,h2⟩:=Ge h0;obtain ⟨hlt,_⟩:=cv.1 h2
 grind [na,cJ,oJ,eZ,Nat.lt_of_lt_of_eq,aI]
theorem Inv.push (h:Inv s r m) (hb:DT s a=true):my r (s.pk (s.c a))=0/\mJ r.sh (s.pk (s.c a)).ss=(s.i a:Int)∧
 Inv (s.up (s.c a)) (kB r (s.pk (s.c a))) (mO m (fC r (s.pk (s.c a))))∧
 (∀(j:Nat) (o:Og),(fC r (s.pk (s.c a)))[j]? =some o->o.p.sq=(cy (o.me,o.p.ss) (mO m ((fC r (s.pk (s.c a))).take j))+1) % 65536/\0<=cy (o.me,o.p.ss) (mO m ((fC r (s.pk (s.c a))).take j))/\cy (o.me,o.p.ss) (mO m ((fC r (s.pk (s.c a))).take j))<=65535)/\ ∀t∈r.tp,t.sh=(s.i a:Int)->Lj (s.pk (s.c a)) t:=by
 have hs:=h.sc;obtain ⟨_,hl,hne⟩:=FR hb;obtain ⟨x,hx,hk,hk3,hxk⟩:=A8 (a:=a) hs hl;obtain ⟨hv,hsq,hn0,hn1,hq,_⟩:=AE hs hb;have hi:=GW (a:=a) hl;have hss:=hv.2.1;have hI:mJ r.sh (s.pk (s.c a)).ss=(s.i a:Int):=by rw [hss,h.sh];grind [UW]
 have hE:my r (s.pk (s.c a))=0:=by
  obtain ⟨y,c,d,_,hd⟩:=Fi hv;have h0:(0:Int)<=mJ r.sh (s.pk (s.c a)).ss:=by omega
  simp only [my,h.gd,cM,hv.1,h0,hd]
 have hsqr:0<=(s.pk (s.c a)).sq/\(s.pk (s.c a)).sq<=65535:=bD (KM hv.1).2.2
 -- a tap of the show
 have key: ∀t∈r.tp,t.sh=(s.i a:Int)->Gd t.sw/\t.sw.l=x.ss/\oJ t.sw.l (100*(s.i a:Int)+10*(s.k a:Int)+7)=(s.k a:Int)/\t.sw.wa<=t.mo/\ey t.sw (s.pk (s.c a))=((dE t.sw (s.k a) (s.pk (s.c a)) (dec (s.pk (s.c a)).pl).1).1,(dE t.sw (s.k a) (s.pk (s.c a)) (dec (s.pk (s.c a)).pl).1).2,0)/\Gd (dE t.sw (s.k a) (s.pk (s.c a)) (dec (s.pk (s.c a)).pl).1).1:=λt ht hsh=>by
  obtain ⟨j,hj⟩:=gF ht;obtain ⟨_,y,hy,_,_,_,hw,hlw,hwa⟩:=je (gW h.gd hj);rw [hsh,h.sh,show ((s.i a:Int)).toNat=s.i a from rfl,hx] at hy
  cases hy;have hix:oJ t.sw.l (100*(s.i a:Int)+10*(s.k a:Int)+7)=(s.k a:Int):=by
   rw [hlw,(hs.ss _ x hx).1];exact acb hk (hs.ss _ x hx).2.2
  grind [Xy,py]
 have co: ∀t∈r.tp,t.sh=(s.i a:Int)->t.sw.nw=(s.k a:Int)->(s.pk (s.c a)).sq=(t.sw.tp+1) % 65536/\(t.sw.tp+t.sw.sq) % 65536=t.sw.ss:=λt ht hsh hnw=>by
  obtain ⟨c1,c2⟩:=(h.ti t ht).co (by omega)
  grind [gK.c]
 have told:=λt ht hsh=>Sf (x:=(dec (s.pk (s.c a)).pl).1) (key t ht hsh).1 hsqr (co t ht hsh);have snd: ∀t∈r.tp,t.sh=(s.i a:Int)->Lj (s.pk (s.c a)) t:=λt ht hsh=>by
  obtain ⟨g1,-⟩:=told t ht hsh;unfold Lj;rw [(key t ht hsh).2.2.2.2.1];rcases g1 with g|⟨o,e1,e2,e3,e4⟩
  ·exact .inl g
  ·exact .inr ⟨o,e1,e2.trans (h.ti t ht).ou,e3,e4⟩
 obtain ⟨c1,c2,c3⟩:=uC (i:=(s.i a:Int)) (p:=s.pk (s.c a)) r.tp m (uu h.gd) snd (λt ht=>(h.ti t ht).ss) (λt ht=>by
  obtain ⟨j,hj⟩:=gF ht;obtain ⟨_,_,_,_,_,_,hw,_,_⟩:=je (gW h.gd hj);exact (py.1 hw).ss)
 have hR:kB r (s.pk (s.c a))=⟨r.ms,r.sh,r.tp.map (BT (s.i a:Int) (s.pk (s.c a)))⟩:=by grind [kB]
 have hL:fC r (s.pk (s.c a))=r.tp.flatMap (oT (s.i a:Int) (s.pk (s.c a))):=by grind [fC]
 have hT: ∀t∈r.tp,t.sh=(s.i a:Int)->BT (s.i a:Int) (s.pk (s.c a)) t={t with sw:=(dE t.sw (s.k a) (s.pk (s.c a)) (dec (s.pk (s.c a)).pl).1).1}:=λt ht hsh=>by
  simp_all [BT,cM]
 refine ⟨hE,hI,?_,by grind,snd⟩
 have hcl:s.c a<s.n.length:=by
  rw [hs.n];unfold gK.c;have:=hs.sh;omega
 have hng: ∀j:Nat,(s.up (s.c a)).n.getD j 0=if j=s.c a then s.n.getD (s.c a) 0+1 else s.n.getD j 0:=λj=>by
  show (s.n.set (s.c a) _).getD j 0=_
  grind
 have hsc:uT (s.up (s.c a)):=by
  refine ⟨hs.ms,hs.sh,hs.so,hs.ss,hs.q,(List.length_set).trans hs.n,λi k y hy hk'=> ?_⟩;have h0:=hs.st i k y hy hk';refine ⟨?_,h0.v,h0.sq,h0.ln⟩;rw [hng];split
  ·rename_i e;show 0<=_/\_<=(((s.q.getD (3*i+k) []).length:Nat):Int);rw [e];omega
  ·exact h0.c
 rw [hR,hL];refine ⟨hsc,h.ms,h.sh,?_,Uc h.nd _,λu hu=> ?_⟩
 ·refine G2 h.gd (ig _) λj t hj=>⟨_,by rw [dX,hj];rfl,?_⟩
  have ht:=bJ hj;by_cases hsh:t.sh=(s.i a:Int)
  ·rw [hT t ht hsh];exact ⟨rfl,(key t ht hsh).2.2.2.2.2,Pz _ _ _ _,CY _ _ _ _,by grind [dE,LA]⟩
  ·rw [BT,aY hsh];exact Tv (gW h.gd hj)
 ·obtain ⟨t,ht,rfl⟩:=List.mem_map.1 hu;have h0:=h.ti t ht;have hss':=c2 t ht;by_cases hsh:t.sh=(s.i a:Int)
  ·rw [hT t ht hsh] at hss' ⊢;obtain ⟨_,g2,g3⟩:=told t ht hsh;have gg:=(key t ht hsh).2.2.2.2.2;refine ⟨(CY _ _ _ _).trans h0.ou,hss',λhn=> ?_⟩;dsimp only at hn ⊢;generalize dE t.sw (s.k a) (s.pk (s.c a)) (dec (s.pk (s.c a)).pl).1=Z at*;show Z.1.tp=(Z7 (s.q.getD (3*t.sh+Z.1.nw).toNat [])+(s.up (s.c a)).n.getD (3*t.sh+Z.1.nw).toNat 0-1) % 65536/\_;rw [hng,hsh];by_cases hk':Z.1.nw=(s.k a:Int)
   ·obtain ⟨g4,g5⟩:=g2 hk';have e:(3*(s.i a:Int)+Z.1.nw).toNat=s.c a:=by unfold gK.c;omega
    grind
   ·obtain ⟨g4,g5,g6,g7⟩:=g3 hk';have e:(3*(s.i a:Int)+Z.1.nw).toNat≠s.c a:=by unfold gK.c;omega
    obtain ⟨d1,d2⟩:=h0.co (by omega)
    grind
  ·have e:BT (s.i a:Int) (s.pk (s.c a)) t=t:=by rw [BT,aY hsh]
   rw [e] at hss' ⊢;refine ⟨h0.ou,hss',λhn=> ?_⟩;obtain ⟨j,hj⟩:=gF ht;obtain ⟨hsn,y,hy,_,_,_,hw,hlw,_⟩:=je (gW h.gd hj);have hnw:=(py.1 hw).nw;have hyl:=(hs.ss _ y (by rw [<-h.sh];exact hy)).2.2
   rw [hlw] at hnw;have e2:(3*t.sh+t.sw.nw).toNat≠s.c a:=by grind [gK.c]
   rw [hng,aY e2];exact h0.co hn
end
/-! acts -/
structure L2 where
 s:gK
 r:Rm
 m:List (Kx×Int)
def oZ (x:L2) (a:A7):Int:=a.me % (x.s.r.ms.length:Int)
def uh (x:L2) (a:A7):Int:=if x.s.r.sh.length=0 then 0 else a.sh % (x.s.r.sh.length:Int)
def Za (x:L2) (a:A7):Fo:=⟨1+a.wt % 10,a.mo % 3,uh x a,3000⟩
def aPu (x:L2) (a:A7):L2:=⟨x.s.up (x.s.c a),kB x.r (x.s.pk (x.s.c a)),mO x.m (fC x.r (x.s.pk (x.s.c a)))⟩
def aFl (x:L2) (a:A7):L2:=if (kV x.r (oZ x a) (uh x a) (Za x a)).2=0 then ⟨x.s,(kV x.r (oZ x a) (uh x a) (Za x a)).1,lX (oZ x a,uh x a) x.m⟩ else x
def aLe (x:L2) (a:A7):L2:=if (mT x.r (oZ x a) (uh x a)).2=0 then ⟨x.s,(mT x.r (oZ x a) (uh x a)).1,x.m⟩ else x
def aMs (x:L2) (a:A7):L2:=if (j2 x.r (oZ x a) (a.bi % 1000)).2=0 then ⟨x.s,(j2 x.r (oZ x a) (a.bi % 1000)).1,x.m⟩ else x
def MW (x:L2) (a:A7):L2:=if DT x.s a=true then aPu x a else if a.wh % 8<2 then aFl x a else if a.wh % 8=2 then aLe x a else if a.wh % 8=3 then aMs x a else x
def jK (x:L2):Prop:=Inv x.s x.r x.m
section
variable {x:L2} {a:A7}
theorem wE (h:jK x):0<=oZ x a/\oZ x a<(x.r.ms.length:Int):=by
 have h1:=h.sc.ms;have h2:=h.ms;unfold oZ;have e1:=ph a.me (b:=(x.s.r.ms.length:Int)) (by omega)
 have e2:=mK a.me (b:=(x.s.r.ms.length:Int)) (by omega)
 omega
theorem jK.fl (h:jK x):jK (aFl x a):=by
 unfold aFl;split
 ·rename_i he;have hg:=h.gd;simp only [kV,hg,cM] at he ⊢;split at he
  ·rename_i h0;rw [aT h0];obtain ⟨y,ho⟩:=Lf h0;have hm:=wE (a:=a) h;have h2:=Inv.fol h ho rfl;refine Inv.chs h2 ?_;rw [CV ho]
   grind
  omega
 ·exact h
theorem jK.le (h:jK x):jK (aLe x a):=by
 unfold aLe;split
 ·rename_i he;have hg:=h.gd;simp only [mT,hg,cM] at he ⊢;split at he
  ·rename_i h0;rw [aT h0];have hm:=wE (a:=a) h;refine Inv.chs (Inv.del h _) ?_;show (oZ x a).toNat<x.r.ms.length;omega
  omega
 ·exact h
theorem jK.me (h:jK x):jK (aMs x a):=by
 unfold aMs;split
 ·rename_i he;have hg:=h.gd;simp only [j2,hg,cM] at he ⊢;split at he
  ·rename_i h0;rw [aT h0];have hm:=wE (a:=a) h;refine Inv.chs (Inv.mea h _ (by omega)) ?_
   show (oZ x a).toNat<(x.r.ms.modify _ _).length
   grind
  ·cases he
 ·exact h
theorem jK.st (h:jK x):jK (MW x a):=by
 unfold MW;split
 ·rename_i hb;exact (Inv.push h hb).2.2.1
 split
 ·exact h.fl
 split
 ·exact h.le
 split
 ·exact h.me
 ·exact h
end
def lN (x:L2) (l:List A7):Nat->L2
 |0=>x
 |i+1=>match l[i]? with
  |some a=>MW (lN x l i) a
  |none=>lN x l i
theorem jK.N {x:L2} (h:jK x) (l:List A7): ∀i,jK (lN x l i)
 |0=>h
 |i+1=>by
  have ih:=jK.N h l i;unfold lN;split
  ·exact ih.st
  ·exact ih
end Go.Proofs.Rom
namespace Go.Proofs.Rom
open Go.Ab
def A7.l (a:A7):List AV:=[.i .u8 a.wh,.i .u8 a.me,.i .u8 a.sh,.i .u8 a.wt,.i .u8 a.mo,.i .u8 a.ou,.i .u16 a.bi]
theorem A7.len: ∀a:A7,a.l.length=7:=λ_=>rfl
theorem A7.aj: ∀a:A7,ab 0 a.l=true:=λ_=>rfl
def qV (l:List Md):AV:= .fz (rows Md.l l) l.length
def gK.a (s:gK):List AV:=s.r.a++(s.q.map qV++s.n.map (.i .i64))
theorem Zk (j:Nat) (l:List Md):ab j (rows Md.l l)=true:=au _ (bh (λp=>p.aj))
theorem qB (j:Nat): ∀l:List (List Md),ab j (l.map qV)=true
 |[]=>rfl
 |x::l=>by simp only [fJ,ab,qV,AV.aj,Zk,mP];exact qB j l
theorem nB (j:Nat): ∀l:List Int,ab j (l.map (AV.i .i64))=true
 |[]=>rfl
 |x::l=>by simp only [fJ,ab,AV.aj,mP];exact nB j l
theorem gK.aj (j:Nat) (s:gK):ab j s.a=true:=by simp only [gK.a,dj,Rm.aj,qB,nB,aG]
section
variable {s:gK} {a:A7}
theorem sN (hs:uT s):s.a.length=33:=by
 simp only [gK.a,cm,ig,hs.q,hs.n];rfl
theorem aeG (hs:uT s) {c:Nat} (hc:c<15):s.a[3+c]? =some (qV (s.q.getD c [])):=by
 obtain ⟨l,hl⟩: ∃l,s.q[c]? =some l:=⟨_,bj (by rw [hs.q];exact hc)⟩
 have h3:s.r.a.length=3:=rfl
 grind [gK.a,vE,Nat.add_sub_cancel_left,zO,ig,dX,jd]
theorem aa0 (hs:uT s) {c:Nat} (hc:c<15):s.a[18+c]? =some (.i .i64 (s.n.getD c 0)):=by
 obtain ⟨l,hl⟩: ∃l,s.n[c]? =some l:=⟨_,bj (by rw [hs.n];exact hc)⟩
 have h3:s.r.a.length=3:=rfl;rw [gK.a,vE (by omega),vE (by rw [ig,hs.q];omega),ig,hs.q,h3,show 18+c-3-15=c by omega,dX,hl,jd,hl];rfl
theorem XR (hs:uT s) {c:Nat} (hc:c<15):(s.up c).a=s.a.set (18+c) (.i .i64 (s.n.getD c 0+1)):=by
 have h3:s.r.a.length=3:=rfl;show s.r.a++(s.q.map qV++(s.n.set c (s.n.getD c 0+1)).map (AV.i .i64))=_;rw [gK.a,Fj _ _ (by omega),Fj _ _ (by rw [ig,hs.q];omega),ig,hs.q,h3,show 18+c-3-15=c by omega,List.map_set]
end
theorem qO: ∀l:List (List Md),aL (l.map qV)=true
 |[]=>rfl
 |x::l=>by simp only [fJ,aL,qV,AV.one,mP];exact qO l
theorem nO: ∀l:List Int,aL (l.map (AV.i .i64))=true
 |[]=>rfl
 |x::l=>by simp only [fJ,aL,AV.one,mP];exact nO l
theorem gK.one (s:gK):aL s.a=true:=by
 have h3:aL s.r.a=true:=rfl
 grind [gK.a,iy,qO,nO,aG]
def Tr (s:gK) (a:A7):AV:=bif DT s a then .bz [.agg (s.up (s.c a)).a,.agg (s.pk (s.c a)).l,.b true] else .bz [.agg s.a,.agg Iq.l,.b false]
theorem Nz (s:gK) (a:A7):(Tr s a).aj 0=true:=by
 unfold Tr;cases DT s a;all_goals simp [cond_false,AV.aj,ab,gK.aj,Md.aj,aG,cond_true]
theorem w12 (s:gK) (a:A7) (hs:uT s) (ha:a.ok=true):bG ay 12 [.agg s.a,.agg a.l] [] 0 (Tr s a) [] 0:=by
 simp only [A7.ok,ak] at ha;obtain ⟨a1,a2,a3,a4,a5,a6,a7⟩:=ha;obtain ⟨m1,m2,m3,m4⟩:=ahj a1;have a1:=bD a1;have a3:=bD a3;have a5:=bD a5;have v3:IntKind.i64.wrap a.sh=a.sh:=aN (by omega) (by omega)
 have v5:IntKind.i64.wrap a.mo=a.mo:=aN (by omega) (by omega)
 have hC:=sN hs;have hB:=λj=>gK.aj j s;have hO:=gK.one s;have hD:List.take 33 (List.drop 0 s.a)=s.a:=by grind
 have g1:s.a[0+1]? =some (.fz (rows aW.l s.r.sh) s.r.sh.length):=rfl;have hV:Tr s a=bif DT s a then .bz [.agg (s.up (s.c a)).a,.agg (s.pk (s.c a)).l,.b true] else .bz [.agg s.a,.agg Iq.l,.b false]:=rfl
 have hPB:DT s a=(!(decide (a.wh % 8<4))&&(!(s.r.sh.length==0)&& !(s.n.getD (s.c a) 0==((s.q.getD (s.c a) []).length:Int)))):=rfl;have hz:Iq.l=[.b false,.i .i64 0,.i .i64 0,.i .i64 0,.i .i64 0,.fz [] 0,.fz [] 0,.i .i64 0,.s []]:=rfl;have fin: ∀(A:List AV) (hA:ab 0 A=true) (h:Hp) (n:Nat),aZ 0 (.bz [.agg A,.agg [.b false,.i .i64 0,.i .i64 0,.i .i64 0,.i .i64 0,.ns,.ns,.i .i64 0,.s []],.b false]) h n (.bz [.agg A,.agg Iq.l,.b false]) [] 0:=λA hA h n=>by
  refine aZ.wu (l:=[]) (v':= .bz [.agg A,.agg Iq.l,.b false]) (bW.bz ⟨bW.refl,bW.agg ⟨bW.refl,bW.refl,bW.refl,bW.refl,bW.refl,bW.hit,bW.hit,bW.refl,bW.refl,trivial⟩,bW.refl,trivial⟩) ?_
  grind [aZ.ends,Ends.aw,AV.aj,ab,Md.aj,aG]
 refine bG.dy (cx:=cj []) Sound.nil mo Tryz.func12 Uz (by simp [i12]) (aO ?_)
 dsimp only [i12];obtain ⟨wh,me,sh,wt,am,ou,bi⟩:=a;dsimp only at*;simp only [A7.l];cases d1:decide (wh % 8<4);rotate_left
 ·rw [d1] at hPB;rw [hV,hPB];simp only [tJ,j5,cond_false];generalize s.a=C at*;simp (maxSteps:=400000) only [go_sem,m1,d1,hC,hO,hD,simprocAttr]
  grind
 ·cases d2:s.r.sh.length==0;rotate_left
  ·rw [d1,d2] at hPB;rw [hV,hPB];simp only [tJ,kl,j5,mP,cond_false];have d2':((s.r.sh.length:Int)==0)=true:=by grind
   generalize s.a=C at*;simp (maxSteps:=400000) only [go_sem,m1,d1,d2',hC,hO,hD,g1,simprocAttr]
   grind
  ·have hl:0<s.r.sh.length:=Nat.pos_of_ne_zero (λh=>by grind)
   obtain ⟨x,hx,hk,hk3,hxk⟩:=A8 (a:=⟨wh,me,sh,wt,am,ou,bi⟩) hs hl;have hi5:s.i ⟨wh,me,sh,wt,am,ou,bi⟩<5:=by have:=GW (a:=⟨wh,me,sh,wt,am,ou,bi⟩) hl;have:=hs.sh;omega
   have hc:s.c ⟨wh,me,sh,wt,am,ou,bi⟩<15:=by grind [gK.c]
   have eI:sh.tmod (s.r.sh.length:Int)=((s.i ⟨wh,me,sh,wt,am,ou,bi⟩:Nat):Int):=by
    rw [fA (by omega)]
    unfold gK.i;have:=ph sh (b:=(s.r.sh.length:Int)) (by omega)
    grind
   have eK:am.tmod (x.ss.length:Int)=((s.k ⟨wh,me,sh,wt,am,ou,bi⟩:Nat):Int):=by
    rw [fA (by omega)]
    unfold gK.k;rw [jd,hx,fM];have:=ph am (b:=(x.ss.length:Int)) (by omega)
    grind
   have gq:=aeG hs hc;have gn:=aa0 hs hc;have hU:=XR hs hc;have gx:(rows aW.l s.r.sh)[s.i ⟨wh,me,sh,wt,am,ou,bi⟩*4+1]? =some (.fz (rows aq x.ss) x.ss.length):=bM aW.len hx rfl;have hq4:=λj=>cG j s.r.sh;have c3:decide ((0:Int)<=((s.i ⟨wh,me,sh,wt,am,ou,bi⟩:Nat):Int)/\((s.i ⟨wh,me,sh,wt,am,ou,bi⟩:Nat):Int)<(s.r.sh.length:Int))=true:=af (by grind)
   have c4:decide ((0:Int)<=((s.i ⟨wh,me,sh,wt,am,ou,bi⟩:Nat):Int)/\((s.i ⟨wh,me,sh,wt,am,ou,bi⟩:Nat):Int)<5)=true:=af (by omega)
   have c5:decide ((0:Int)<=((s.k ⟨wh,me,sh,wt,am,ou,bi⟩:Nat):Int)/\((s.k ⟨wh,me,sh,wt,am,ou,bi⟩:Nat):Int)<3)=true:=af (by omega)
   have d2':((s.r.sh.length:Int)==0)=false:=by grind
   have n0:((s.r.sh.length:Int) !=0)=true:=by grind
   have n1:((x.ss.length:Int) !=0)=true:=by
    grind
   have w1:IntKind.i64.wrap ((s.i ⟨wh,me,sh,wt,am,ou,bi⟩:Nat):Int)=((s.i ⟨wh,me,sh,wt,am,ou,bi⟩:Nat):Int):=aN (by omega) (by omega)
   have w2:IntKind.i64.wrap ((s.k ⟨wh,me,sh,wt,am,ou,bi⟩:Nat):Int)=((s.k ⟨wh,me,sh,wt,am,ou,bi⟩:Nat):Int):=aN (by omega) (by omega)
   have hpk:=λh=>AE (a:=⟨wh,me,sh,wt,am,ou,bi⟩) hs h;have ec:s.c ⟨wh,me,sh,wt,am,ou,bi⟩=3*s.i ⟨wh,me,sh,wt,am,ou,bi⟩+s.k ⟨wh,me,sh,wt,am,ou,bi⟩:=rfl;rw [d1,d2] at hPB;simp only [kl,mP] at hPB;generalize s.i ⟨wh,me,sh,wt,am,ou,bi⟩=I,s.k ⟨wh,me,sh,wt,am,ou,bi⟩=J,s.c ⟨wh,me,sh,wt,am,ou,bi⟩=c at*;have e3:3+I*3+J*1=3+c:=by omega
   have e18:18+I*3+J*1=18+c:=by omega
   cases d3:s.n.getD c 0==((s.q.getD c []).length:Int);rotate_left
   ·rw [d3] at hPB;rw [hV,hPB];simp only [tJ,cond_false];clear hpk;simp only [qV] at gq;generalize rows Md.l (s.q.getD c [])=QL,(s.q.getD c []).length=ql,s.n.getD c 0=nv,rows aW.l s.r.sh=SL,rows aq x.ss=XS,s.a=C at*;simp (maxSteps:=400000) only [go_sem,m1,v3,v5,d1,d2',d3,hC,hO,hD,g1,eI,eK,gq,gn,gx,c3,c4,c5,n0,n1,e3,e18,simprocAttr]
    grind
   ·obtain ⟨-,-,hn0,hn1,hq,hq1⟩:=hpk (by grind)
    clear hpk;rw [d3] at hPB;rw [hV,hPB,hU];simp only [kl,cond_true];have hp:=elt hn0 hn1;rw [show (s.q.getD c []).getD (s.n.getD c 0).toNat Iq=s.pk c from rfl] at hp
    have hM:=(s.pk c).aj;have hlM:(s.pk c).l.length=9:=rfl;have htM:List.take 9 (List.drop 0 (s.pk c).l)=(s.pk c).l:=rfl;have c18:decide (18+c<=32)=true:=af (by omega)
    have hoM:aL (s.pk c).l=true:=rfl;have hUv:=hU;have hUB:=gK.aj 0 (s.up c);rw [hU] at hUB;have b1:IntKind.i64.wrap (s.n.getD c 0+1)=s.n.getD c 0+1:=aN (by omega) (by omega)
    have b2:IntKind.i64.wrap (s.n.getD c 0+1-1)=s.n.getD c 0:=by grind [aN]
    have c6:decide (0<=s.n.getD c 0/\s.n.getD c 0<((s.q.getD c []).length:Int))=true:=af ⟨hn0,hn1⟩;simp only [qV] at gq;have hS:List.take (18+c) s.a++[AV.i .i64 (s.n.getD c 0+1)]++List.drop (18+c+1) s.a=s.a.set (18+c) (.i .i64 (s.n.getD c 0+1)):=by
     rw [List.set_eq_take_append_cons_drop,aT (by omega),jy];rfl
    generalize (s.pk c).l=PL,rows Md.l (s.q.getD c [])=QL,(s.q.getD c []).length=ql,s.n.getD c 0=nv,rows aW.l s.r.sh=SL,rows aq x.ss=XS at*;have g1':(s.a.set (18+c) (.i .i64 (nv+1)))[18+c]? =some (.i .i64 (nv+1)):=by
     grind
    have gq':(s.a.set (18+c) (.i .i64 (nv+1)))[3+c]? =some (.fz QL ql):=by
     grind
    have hC':(s.a.set (18+c) (.i .i64 (nv+1))).length=33:=by grind
    have hO':aL (s.a.set (18+c) (.i .i64 (nv+1)))=true:=by
     grind [gK.one]
    have hD':List.take 33 (List.drop 0 (s.a.set (18+c) (.i .i64 (nv+1))))=s.a.set (18+c) (.i .i64 (nv+1)):=by grind
    generalize s.a.set (18+c) (.i .i64 (nv+1))=C',s.a=C at*;simp (maxSteps:=400000) only [go_sem,m1,v3,v5,d1,d2',d3,hC,g1,eI,eK,gq,gn,gx,c3,c4,c5,c6,n0,n1,e3,e18,b1,b2,hS,g1',gq',hC',hO',hD',hp,hlM,hoM,htM,c18,simprocAttr];simp_all [aZ.ends,Ends.aw,AV.aj,ab,aG]
end Go.Proofs.Rom
namespace Go.Proofs.Rom
open Go.Ab
structure Py where
 ow:Int
 la:Int
 bl:Int
 r0:Int
 r1:Int
 r2:Int
 f0:Fl
 f1:Fl
 f2:Fl
def Py.ok (p:Py):Bool:=bZ 0 255 p.ow&&(bZ 0 255 p.la&&(bZ 0 255 p.bl&&(bZ 0 255 p.r0&&(bZ 0 255 p.r1&&(bZ 0 255 p.r2&&(p.f0.ok&&(p.f1.ok&&p.f2.ok)))))))
def Py.r (p:Py):Nat->Int
 |0=>p.r0
 |1=>p.r1
 |_=>p.r2
def Py.f (p:Py):Nat->Fl
 |0=>p.f0
 |1=>p.f1
 |_=>p.f2
def pL (p:Py):Nat:=(p.la % 3).toNat+1
def D6 (p:Py):Nat->Int
 |0=>0
 |k+1=>D6 p k+1+p.r k
def wP (p:Py) (L:Nat):List Int:=iD (λk=>D6 p (k+1)) L
def OC (n o:Nat) (b:Int):Int:=((BitVec.ofInt 64 (((BitVec.ofInt 64 b &&& BitVec.ofInt 64 (2^n-1)).toNat:Nat):Int) &&& ~~~ BitVec.ofInt 64 (2^o)).toNat:Nat)
def pZ (n i:Nat) (p:Py):aW:=⟨p.ow % (n:Int),na i (pL p),wP p (pL p),OC n (p.ow % (n:Int)).toNat p.bl⟩
def nmS:List (List UInt8):=[[97,110,110],[98,111,98],[99,97,114,108],[100,111,114,97],[101,118,101]]
def Hq (k:Nat):List Mb:=(nmS.take k).map λs=>⟨s,0⟩
def lW (n:Nat) (l:List Py):Nat->List aW
 |0=>[]
 |i+1=>match l[i]? with
  |some p=>lW n l i++[pZ n i p]
  |none=>lW n l i
def vD (l:List Py) (c:Nat):List Md:=match l[c/3]? with
 |some p=>if c % 3<pL p then jn (p.f (c % 3)) (100*((c/3:Nat):Int)+10*((c % 3:Nat):Int)+7) else []
 |none=>[]
def sL (n:Nat) (l:List Py) (i:Nat):Rm:=⟨Hq n,lW n l i,[]⟩
def oI (mb:Int):Nat:=(mb % 5).toNat+1
def jm (mb:Int) (l:List Py):gK:=⟨sL (oI mb) l (min l.length 5),iD (vD (l.take 5)) 15,List.replicate 15 0⟩
theorem wM (mb:Int):1<=oI mb/\oI mb<=5:=by grind [oI]
theorem om {p:Py} (h:p.ok=true):1<=pL p/\pL p<=3:=by
 grind [pL]
theorem sY {k:Nat} (hk:k<=5):(Hq k).length=k:=by
 grind [Hq,ig,fY,nmS,List.length_cons,fP]
theorem Va: ∀k,k<=5->ij (Hq k)=true
 |0,_=>by decide+kernel
 |1,_=>by decide+kernel
 |2,_=>by decide+kernel
 |3,_=>by decide+kernel
 |4,_=>by decide+kernel
 |5,_=>by decide+kernel
 |k+6,h=>by omega
theorem JF: ∀(n:Fin 6) (o:Fin 5) (b:Fin 256),(OC n.1 o.1 (b.1:Int)/2^n.1==0)=true/\(OC n.1 o.1 (b.1:Int)/2^o.1 % 2==1)=false/\0<=OC n.1 o.1 (b.1:Int)/\OC n.1 o.1 (b.1:Int)<=255:=by decide+kernel
theorem KQ {p:Py} (h:p.ok=true) (k:Nat):0<=p.r k/\p.r k<=255:=by
 simp only [Py.ok,ak] at h;obtain ⟨_,_,_,h1,h2,h3,_⟩:=h;unfold Py.r;split
 ·exact bD h1
 ·exact bD h2
 ·exact bD h3
theorem ac7 {p:Py} (h:p.ok=true) (k:Nat):(p.f k).ok=true:=by
 simp only [Py.ok,ak] at h;obtain ⟨_,_,_,_,_,_,h1,h2,h3⟩:=h;unfold Py.f
 grind
theorem wJ {p:Py} (h:p.ok=true): ∀k,0<=D6 p k/\D6 p k<=256*(k:Int)
 |0=>by simp [D6]
 |k+1=>by
  have ih:=wJ h k;have:=KQ h k
  grind [D6]
theorem xF {α:Type} {g:Nat->α} (hg: ∀i j,g i=g j->i=j): ∀k,(iD g k).Nodup
 |0=>by rw [Au];simp
 |k+1=>by
  rw [il,List.nodup_append];refine ⟨xF hg k,by simp,λa ha b hb=> ?_⟩
  grind [qc,List.mem_singleton]
theorem wD {i L:Nat} {z:Int} (h:z∈na i L): ∃k:Nat,k<L/\z=100*(i:Int)+10*(k:Int)+7:=qc h
theorem zE (i L:Nat):(na i L).Nodup:=xF (λj k h=>by omega) L
theorem FN {n i:Nat} {p:Py} (hn:1<=n/\n<=5) (hi:i<=100) (h:p.ok=true):cC n (pZ n i p)=true:=by
 have h0:=h;simp only [Py.ok,ak] at h0;have hb:=bD h0.2.2.1;have hL:=om h;have e1:=ph p.ow (b:=(n:Int)) (by omega)
 have e2:=mK p.ow (b:=(n:Int)) (by omega)
 obtain ⟨b1,b2,_,_⟩:=JF ⟨n,by omega⟩ ⟨(p.ow % (n:Int)).toNat,by omega⟩ ⟨p.bl.toNat,by omega⟩
 dsimp only at b1 b2;rw [show ((p.bl.toNat:Nat):Int)=p.bl by omega] at b1 b2
 have l1:(na i (pL p)).length=pL p:=cJ _;have l2:(wP p (pL p)).length=pL p:=cJ _;simp only [cC,pZ,l1,l2,b1,b2,kl,mP,beq_self_eq_true,ak];refine ⟨dp (by omega),dp (by omega),?_,?_⟩
 ·grind [du,wD,dp]
 ·rw [dt];intro k z hz;have hk:k<pL p:=by grind
  rw [wP,eZ hk,aI] at hz;subst hz;have r1:=wJ h (k+1);have r0:=wJ h k;have rr:=KQ h k;have e:D6 p (k+1)=D6 p k+1+p.r k:=rfl;simp only [yD,fy,ak,mA,bg]
  grind [dp,inl,Dd,wP,jd,eZ,fM]
section
variable {n:Nat} {l:List Py}
theorem kS: ∀{i j:Nat},i<=l.length->(lW n l i).length=i/\(j<i-> ∃p,l[j]? =some p/\(lW n l i)[j]? =some (pZ n j p))
 |0,j,_=>⟨rfl,λh=>by omega⟩
 |i+1,j,hi=>by
  obtain ⟨p,hp⟩: ∃p,l[i]? =some p:=⟨_,bj (by omega)⟩
  obtain ⟨h1,h2⟩:=kS (i:=i) (j:=j) (by omega)
  simp only [lW,hp]
  grind
theorem yy {i:Nat} (hi:i<=l.length) {x:aW} (hx:x∈lW n l i): ∃j p,j<i/\l[j]? =some p/\x=pZ n j p:=by
 obtain ⟨j,hj⟩:=gF hx;have hlt:=(cv.1 hj).1;rw [(kS (n:=n) (j:=j) hi).1] at hlt
 grind [kS]
theorem EX (hl: ∀p∈l,p.ok=true): ∀{i:Nat},i<=l.length->(((lW n l i).map aW.ss).flatten).Nodup/\ ∀z∈((lW n l i).map aW.ss).flatten,∃j k:Nat,j<i/\k<3/\z=100*(j:Int)+10*(k:Int)+7
 |0,_=>⟨Cd,λz h=>by simp [lW] at h⟩
 |i+1,hi=>by
  obtain ⟨p,hp⟩: ∃p,l[i]? =some p:=⟨_,bj (by omega)⟩
  obtain ⟨h1,h2⟩:=EX hl (i:=i) (by omega)
  have hL:=om (hl p (bJ hp));have e:((lW n l (i+1)).map aW.ss).flatten=((lW n l i).map aW.ss).flatten++na i (pL p):=by
   simp only [lW,hp,List.map_append,List.flatten_append,fJ,List.map_nil,List.flatten_cons,List.flatten_nil,dh];rfl
  rw [e];constructor
  ·grind [List.nodup_append,zE,wD]
  ·intro z hz;rcases xn.1 hz with hz|hz
   all_goals grind [wD]
theorem EZ (hn:1<=n/\n<=5) (hl: ∀p∈l,p.ok=true) {i:Nat} (hi:i<=l.length) (h5:i<=5):aX (sL n l i)=true:=by
 refine (gL _).2 ⟨Va n hn.2,?_,⟨λt h=>by simp [sL] at h,List.Pairwise.nil,λm _=>Cd,λm _=>cr _⟩⟩
 have hlen:=(kS (n:=n) (j:=0) hi).1;simp only [fB,ak,bg];refine ⟨by show (lW n l i).length<=6;omega,?_,?_⟩
 ·rw [du];intro x hx;obtain ⟨j,p,hj,hp,rfl⟩:=yy hi hx;show cC (Hq n).length _=true
  grind [sY,FN,bJ]
 ·rw [xC];show (dS [] (lW n l i) (lW n l i).length).Nodup
  grind [dS,jh,List.nil_append,EX]
theorem aei (hn:1<=n/\n<=5) (hl: ∀p∈l,p.ok=true) {i:Nat} {p:Py} (hp:l[i]? =some p) (h5:i<5):gJ (sL n l i) (pZ n i p)=(sL n l (i+1),0):=by
 have hi:=(cv.1 hp).1;have hlen:=(kS (n:=n) (l:=l) (i:=i) (j:=0) (by omega)).1
 obtain ⟨c1,c2⟩:=EX (n:=n) hl (i:=i) (by omega)
 have hL:=om (hl p (bJ hp));have hE:tv (sL n l i) (pZ n i p)=0:=by
  have g:=EZ hn hl (i:=i) (by omega) (by omega)
  have s:=FN (i:=i) hn (by omega) (hl p (bJ hp))
  have d:eQ (dS (pZ n i p).ss (sL n l i).sh (sL n l i).sh.length)=true:=by
   rw [xC];show (dS (na i (pL p)) (lW n l i) (lW n l i).length).Nodup
   grind [dS,jh,List.nodup_append,zE,wD]
  have s':cC (sL n l i).ms.length (pZ n i p)=true:=by
   show cC (Hq n).length _=true
   grind [sY]
  have h6:(sL n l i).sh.length<6:=by show (lW n l i).length<6;omega
  simp_all [tv,j7,aG]
 grind [sL,pZ,lW,gJ]
theorem Si {f:Fl} (hf:f.ok=true) {ss:Int} (hs:0<=ss/\ss<=4294967295):Yu ss (jn f ss) 0:=by
 refine ⟨by omega,Ya hf hs,λj m hj=> ?_,by have:=(wU hf ss (min (f.pc.length+1) 24)).2.2;grind [jn]⟩
 have h0:=I7 f ss (min (f.pc.length+1) 24);have e:=h0 j m hj;cases hq:jn f ss with
 |nil=>rw [hq] at hj;simp at hj
 |cons a r=>
  have e0:=h0 0 a (by grind [jn])
  show m.sq=(a.sq+(j:Nat)) % 65536;rw [e,e0];omega
theorem GS (mb:Int) (hl: ∀p∈l,p.ok=true):uT (jm mb l):=by
 have hn:=wM mb;have hm:min l.length 5<=l.length:=Nat.min_le_left _ _;have hlen:=(kS (n:=oI mb) (j:=0) hm).1;refine ⟨by show 1<=(Hq _).length/\(Hq _).length<=5;grind [sY],by show (lW _ _ _).length<=5;omega,?_,λi x hx=> ?_,cJ _,List.length_replicate,λi k x hx hk=> ?_⟩
 ·rw [du];intro x hx;obtain ⟨j,p,hj,hp,rfl⟩:=yy hm hx;have hok:=hl p (bJ hp);have h0:=hok;simp only [Py.ok,ak] at h0;have hb:=bD h0.2.2.1;have hL:=om hok;have e1:=ph p.ow (b:=((oI mb:Nat):Int)) (by omega)
  have e2:=mK p.ow (b:=((oI mb:Nat):Int)) (by omega)
  obtain ⟨_,_,b3,b4⟩:=JF ⟨oI mb,by omega⟩ ⟨(p.ow % ((oI mb:Nat):Int)).toNat,by omega⟩ ⟨p.bl.toNat,by omega⟩
  dsimp only at b3 b4;rw [show ((p.bl.toNat:Nat):Int)=p.bl by omega] at b3 b4
  have l1:(na j (pL p)).length=pL p:=cJ _;have l2:(wP p (pL p)).length=pL p:=cJ _;simp only [aW.ok,pZ,l1,l2,ak,bg]
  grind [dp]
 ·obtain ⟨j,p,hj,hp,rfl⟩: ∃j p,j=i/\l[j]? =some p/\x=pZ (oI mb) j p:=by
   have hlt:i<min l.length 5:=by rw [<-hlen];exact (cv.1 hx).1
   obtain ⟨p,hp,e⟩:=(kS (n:=oI mb) (j:=i) hm).2 hlt;exact ⟨i,p,rfl,hp,Cy (hx.symm.trans e)⟩
  subst hj;have hL:=om (hl p (bJ hp));have l1:(na j (pL p)).length=pL p:=cJ _;refine ⟨?_,?_⟩
  ·show na j (pL p)=na j (na j (pL p)).length;rw [l1]
  ·show 1<=(na j (pL p)).length/\(na j (pL p)).length<=3;omega
 ·obtain ⟨p,hlt,hp,rfl⟩: ∃p,i<min l.length 5/\l[i]? =some p/\x=pZ (oI mb) i p:=by
   have hlt:i<min l.length 5:=by rw [<-hlen];exact (cv.1 hx).1
   obtain ⟨p,hp,e⟩:=(kS (n:=oI mb) (j:=i) hm).2 hlt;exact ⟨p,hlt,hp,Cy (hx.symm.trans e)⟩
  have hok:=hl p (bJ hp);have hL:=om hok;have l1:(na i (pL p)).length=pL p:=cJ _;have hk':k<pL p:=by rw [<-l1];exact hk
  have hq:(jm mb l).q.getD (3*i+k) []=jn (p.f k) (100*(i:Int)+10*(k:Int)+7):=by
   show (iD (vD (l.take 5)) 15).getD (3*i+k) []=_;have hp5:(l.take 5)[i]? =some p:=by grind
   rw [jd,eZ (by omega),fM,vD,show (3*i+k)/3=i by omega,show (3*i+k) % 3=k by omega,hp5]
   grind
  grind [jm,List.replicate,jd,List.getElem?_replicate,Si,ac7]
theorem Oa (mb:Int) (hl: ∀p∈l,p.ok=true):Inv (jm mb l) (jm mb l).r []:=
 ⟨GS mb hl,rfl,rfl,EZ (wM mb) hl (Nat.min_le_left _ _) (Nat.min_le_right _ _),Cd,λt h=>by simp [jm,sL] at h⟩
end
end Go.Proofs.Rom
namespace Go.Proofs.Rom
open Go.Ab
theorem ag2 (lo x hi:Int):bG ay 113 [.i .i64 lo,.i .i64 x,.i .i64 hi] [] 0 (.b (bZ lo hi x)) [] 0:=by
 refine ew Sound.nil Tryz.func113 OS ?_
 dsimp only [i113];simp only [go_sem,simprocAttr];repeat' (first|refine mu (λ_=> ?_) (λ_=> ?_)|refine js ?_ ?_)
 all_goals (refine Ends.aw rfl (dC _ ?_);simp only [bZ];grind)
def oK:Ct
 |[.i .i64 lo,.i .i64 x,.i .i64 hi],_,n=>some (true,{v:= .b (bZ lo hi x),n})
 |_,_,_=>none
theorem acs:ax ay 113 oK:=λargs h n c E hc ht=>by
 unfold oK at hc;split at hc
 ·cases hc;exact aA.pure (by kernel_rfl) rfl rfl (ag2 _ _ _) _ _
 ·cases hc
/-! name -/
theorem ahy (s:List UInt8) (hl:s.length<=9223372036854775807):bG ay 124 [.s s] [] 0 (.b (fZ s)) [] 0:=by
 have hR:fZ s=((!(s==[]))&&(decide (s.length<=16)&&s.all oO)):=rfl;have key: ∀k,(∀i,i<k-> ∀b,s[i]? =some b->oO b=true)->k=s.length->s.all oO=true:=λk h hk=>by
  grind [du,gF,cv]
 refine ew Sound.nil Tryz.func124 Sc ?_
 dsimp only [i124];simp only [go_sem,simprocAttr];refine Loop.dV (F:=⟨ay,cj [],[7,19],28,0⟩) Sound.nil mo s.length (λk=> ∀i,i<k-> ∀b,s[i]? =some b->oO b=true) (λk=>[(0,.s s),(3,.i .i64 (k:Int))]) (λk=>[]) 0 (cr _) (λi hi=>absurd hi (by omega)) ?_ ?_ (λk hk hok=> ?_)
 ·simp only [go_sem,AV.aj,simprocAttr]
 ·simp only [go_sem,simprocAttr]
 by_cases hlt:k<s.length
 ·have c1:decide ((k:Int)<(s.length:Int))=true:=af (by omega)
  have c2:decide (0<=(k:Int)/\(k:Int)<(s.length:Int))=true:=af (by omega)
  have hw:IntKind.i64.wrap ((k:Int)+1)=((k+1:Nat):Int):=by grind [aN]
  obtain ⟨b,hb⟩: ∃b,s[k]? =some b:=⟨_,bj hlt⟩;cases hlo:oO b
  ·have hall:s.all oO=false:=by
    grind
   rw [hall,mC,mC] at hR;rw [hR];cases d1:decide ((b.toNat:Int)<97)
   ·have d2:decide ((b.toNat:Int)>122)=true:=by
     have:=tM d1;rw [bg]
     grind [oO,Bool.and_eq_false_iff,Gj]
    simp only [go_sem,c1,c2,hb,d1,d2,simprocAttr];exact Ends.aw rfl rfl
   ·simp only [go_sem,c1,c2,hb,d1,simprocAttr];exact Ends.aw rfl rfl
  ·have hlo':=hlo;simp only [oO,ak,bg] at hlo';have d1:decide ((b.toNat:Int)<97)=false:=bw (by omega)
   have d2:decide ((b.toNat:Int)>122)=false:=bw (by omega)
   simp only [go_sem,c1,c2,hb,d1,d2,hw,AV.aj,e9,simprocAttr]
   grind
 ·have c1:decide ((k:Int)<(s.length:Int))=false:=bw (by omega)
  obtain rfl:k=s.length:=by omega
  rw [key _ hok rfl] at hR;have n1:decide ((s.length:Int)>=1)= !(s==[]):=by cases s<;>simp<;>omega
  have n2:decide ((s.length:Int)<=16)=decide (s.length<=16):=by grind
  rw [hR];cases c3: !(s==[])
  ·rw [c3] at n1;simp only [go_sem,n1,simprocAttr];exact Ends.aw rfl rfl
  ·rw [c3] at n1;simp only [go_sem,n1,n2,simprocAttr];exact Ends.aw rfl (by simp)
def AR:Ct
 |[.s s],_,n=>some (decide (s.length<=9223372036854775807),{v:= .b (fZ s),n})
 |_,_,_=>none
theorem aaD:ax ay 124 AR:=λargs h n c E hc ht=>by
 unfold AR at hc;split at hc
 ·cases hc;exact aA.pure (by kernel_rfl) rfl rfl (ahy _ (bN ht)) _ _
 ·cases hc
/-! blocked -/
/-! same -/
theorem w87 (a b:List Int) (ha:a.length<=9223372036854775807):bG ay 87 [.fz (rows aq a) a.length,.fz (rows aq b) b.length] [] 0 (.b (decide (a=b))) [] 0:=by
 have iA:=λ(i:Nat) x (h:a[i]? =some x)=>qm h;have iB':=λ(i:Nat) x (h:b[i]? =some x)=>qm h;have bA:=λj=>iB j a;have bB:=λj=>iB j b;refine ew (cx:=cj []) Sound.nil Tryz.func87 Zc ?_
 dsimp only [i87];by_cases hl:a.length=b.length
 rotate_left
 ·have d:((a.length:Int) !=(b.length:Int))=true:=by simp;omega
  rw [bw (λh=>hl (by rw [h]))]
  generalize rows aq a=A at*;generalize rows aq b=B at*;simp only [go_sem,d,simprocAttr];exact Ends.aw rfl rfl
 have d:((a.length:Int) !=(b.length:Int))=false:=by simp;omega
 generalize rows aq a=A at*;generalize rows aq b=B at*;simp only [go_sem,d,simprocAttr];refine Loop.dV (F:=⟨ay,cj [],[10,14,25],26,0⟩) Sound.nil mo a.length (λk=> ∀i,i<k->a[i]? =b[i]?) (λk=>[(0,.fz A a.length),(1,.fz B b.length),(5,.i .i64 (k:Int))]) (λk=>[]) 0 (cr _) (λi hi=>absurd hi (by omega)) ?_ ?_ (λk hk hok=> ?_)
 ·simp only [go_sem,AV.aj,bA,bB,simprocAttr]
 ·simp only [go_sem,simprocAttr]
 by_cases hlt:k<a.length
 ·have c1:decide ((k:Int)<(a.length:Int))=true:=af (by omega)
  have c2:decide (0<=(k:Int)/\(k:Int)<(a.length:Int))=true:=af (by omega)
  have c3:decide (0<=(k:Int)/\(k:Int)<(b.length:Int))=true:=af (by omega)
  have hw:IntKind.i64.wrap ((k:Int)+1)=((k+1:Nat):Int):=by grind [aN]
  obtain ⟨x,hx⟩: ∃x,a[k]? =some x:=⟨_,bj hlt⟩;obtain ⟨y,hy⟩: ∃y,b[k]? =some y:=⟨_,bj (by omega)⟩
  have gx:=iA k x hx;have gy:=iB' k y hy;by_cases hxy:x=y
  ·have c4:(x !=y)=false:=by grind
   simp only [go_sem,c1,c2,c3,hw,gx,gy,c4,AV.aj,bA,bB,e9,di,simprocAttr]
   grind
  ·have c4:(x !=y)=true:=by grind
   rw [bw (λh=>hxy (by grind))]
   simp only [go_sem,c1,c2,c3,gx,gy,c4,di,simprocAttr];exact Ends.aw rfl rfl
 ·have c1:decide ((k:Int)<(a.length:Int))=false:=bw (by omega)
  obtain rfl:k=a.length:=by omega
  have he:a=b:=nk λi=>by
   grind
  rw [af he];simp only [go_sem,simprocAttr];exact Ends.aw rfl rfl
def TH:Ct
 |[.fz A m,.fz B n],_,N=>(bc 1 dG m A).bind λa=>(bc 1 dG n B).bind λb=>some (decide (m<=9223372036854775807),{v:= .b (decide (a=b)),n:=N})
 |_,_,_=>none
theorem s87:ax ay 87 TH:=λargs h n c E hc ht=>by
 unfold TH at hc;split at hc
 ·simp only [av,aI,aV] at hc;obtain ⟨a,h1,b,h2,rfl,rfl⟩:=hc;obtain ⟨rfl,rfl⟩:=bu df h1;obtain ⟨rfl,rfl⟩:=bu df h2;exact aA.pure (by kernel_rfl) (by simp only [ab,AV.aj,iB,aG]) rfl (w87 a b (bN ht)) _ _
 ·cases hc
/-! twice -/
theorem Qm {l:List Int} (h: ∀i,i<l.length-> ∀j,j<i->l[j]? ≠l[i]?):eQ l=true:=by
 rw [eQ,dt];intro k x hx;rw [fy,gG,<-kG,Gb]
 grind [uA,cv,bj]
theorem R8 {l:List Int} {i j:Nat} {x:Int} (hj:j<i) (h1:l[j]? =some x) (h2:l[i]? =some x):eQ l=false:=by
 cases hn:eQ l
 ·rfl
 ·rw [eQ,dt] at hn;have:=hn i x h2;rw [fy,gG,<-kG,Gb] at this
  grind [cv,uA]
theorem ajp (l:List Int) (hl:l.length<=9223372036854775807):bG ay 126 [.fz (rows aq l) l.length] [] 0 (.b (!eQ l)) [] 0:=by
 have iA:=λ(i:Nat) x (h:l[i]? =some x)=>qm h;have bA:=λj=>iB j l;refine ew (cx:=cj []) Sound.nil Tryz.func126 NL ?_
 dsimp only [i126];generalize rows aq l=L at*;simp only [go_sem,simprocAttr];refine Loop.dV (F:=⟨ay,cj [],[8,13,24],25,0⟩) Sound.nil mo l.length (λk=> ∀i,i<k-> ∀j,j<i->l[j]? ≠l[i]?) (λk=>[(0,.fz L l.length),(3,.i .i64 (k:Int))]) (λk=>[]) 0 (cr _) (λi hi=>absurd hi (by omega)) ?_ ?_ (λk hk hok=> ?_)
 ·simp only [go_sem,AV.aj,bA,simprocAttr]
 ·simp only [go_sem,simprocAttr]
 by_cases hlt:k<l.length
 rotate_left
 ·have c1:decide ((k:Int)<(l.length:Int))=false:=bw (by omega)
  obtain rfl:k=l.length:=by omega
  rw [Qm hok];simp only [go_sem,simprocAttr];exact Ends.aw rfl rfl
 have c1:decide ((k:Int)<(l.length:Int))=true:=af (by omega)
 have c2:decide (0<=(k:Int)/\(k:Int)<(l.length:Int))=true:=af (by omega)
 have hw:IntKind.i64.wrap ((k:Int)+1)=((k+1:Nat):Int):=by grind [aN]
 obtain ⟨x,hx⟩: ∃x,l[k]? =some x:=⟨_,bj hlt⟩;have gx:=iA k x hx;simp only [go_sem,c1,simprocAttr];refine Loop.dV (F:=⟨ay,cj [],[8,13,24],25,0⟩) Sound.nil mo k (λq=> ∀j,j<q->l[j]? ≠l[k]?) (λq=>[(0,.fz L l.length),(3,.i .i64 (k:Int)),(4,.i .i64 (q:Int))]) (λq=>[]) 0 (cr _) (λi hi=>absurd hi (by omega)) ?_ ?_ (λq hq hoq=> ?_)
 ·simp only [go_sem,AV.aj,bA,simprocAttr]
 ·simp only [go_sem,simprocAttr]
 by_cases hqk:q<k
 rotate_left
 ·have d1:decide ((q:Int)<(k:Int))=false:=bw (by omega)
  obtain rfl:q=k:=by omega
  simp only [go_sem,hw,AV.aj,bA,e9,simprocAttr]
  grind
 have d1:decide ((q:Int)<(k:Int))=true:=af (by omega)
 have d2:decide (0<=(q:Int)/\(q:Int)<(l.length:Int))=true:=af (by omega)
 have hw2:IntKind.i64.wrap ((q:Int)+1)=((q+1:Nat):Int):=by grind [aN]
 obtain ⟨y,hy⟩: ∃y,l[q]? =some y:=⟨_,bj (by omega)⟩
 have gy:=iA q y hy;by_cases hxy:x=y
 ·have c4:(x==y)=true:=by grind
  subst hxy;rw [R8 hqk hy hx];simp only [go_sem,d1,d2,c2,gx,gy,c4,di,simprocAttr];exact Ends.aw rfl rfl
 ·have c4:(x==y)=false:=by grind
  simp only [go_sem,d1,d2,c2,gx,gy,c4,hw2,AV.aj,bA,e9,di,simprocAttr]
  grind
def Bs:Ct
 |[.fz A m],_,n=>(bc 1 dG m A).bind λa=>some (decide (m<=9223372036854775807),{v:= .b (!eQ a),n})
 |_,_,_=>none
theorem adn:ax ay 126 Bs:=λargs h n c E hc ht=>by
 unfold Bs at hc;split at hc
 ·simp only [av,aI,aV] at hc;obtain ⟨a,h1,rfl,rfl⟩:=hc;obtain ⟨rfl,rfl⟩:=bu df h1;exact aA.pure (by kernel_rfl) (by simp only [ab,AV.aj,iB,aG]) rfl (ajp a (bN ht)) _ _
 ·cases hc
theorem Mi (a b:List Int) (ha:a.length<=9223372036854775807) (h:Hp) (n:Nat):TH [.fz (rows aq a) a.length,.fz (rows aq b) b.length] h n=some (true,{v:= .b (decide (a=b)),n}):=by
 grind [TH,eD,aC,af]
def BQ:List (Nat×Ct):=[(113,oK)]
theorem TZ:Sound ay (cj BQ):=Sound.cons acs Sound.nil
theorem aib (n:Nat) (s:aW) (hn:n<=6) (hs:s.ok=true):bG ay 125 [.agg s.l,.i .i64 (n:Int)] [] 0 (.b (cC n s)) [] 0:=by
 have hR:cC n s=(bZ 0 ((n:Int)-1) s.ow&&(bZ 1 3 (s.ss.length:Int)&&(((s.rt.length:Int)==(s.ss.length:Int))&&((s.bl/2^n==0)&&(!(s.bl/2^s.ow.toNat % 2==1)&&(s.ss.all (bZ 0 4294967295)&&eE (yD s.rt) s.rt 0)))))):=rfl;generalize cC n s=R at hR ⊢;simp only [aW.ok,ak,bg] at hs;obtain ⟨hb',hl,hl2⟩:=hs;have hb:=bD hb';obtain ⟨ow,ss,rt,bl⟩:=s;dsimp only at*;have iA:=λ(i:Nat) x (h:ss[i]? =some x)=>qm h;have iB':=λ(i:Nat) x (h:rt[i]? =some x)=>qm h;have bA:=λj=>iB j ss;have bB:=λj=>iB j rt;refine ew TZ Tryz.func125 Nu ?_
 dsimp only [i125,BQ,aW.l];generalize rows aq ss=A at*;generalize rows aq rt=B at*;have hw:IntKind.i64.wrap ((n:Int)-1)=(n:Int)-1:=aN (by omega) (by omega)
 have e1:=Ag bl (n:Int) (by omega)
 rw [j3] at e1;have e0:decide (0<=(n:Int))=true:=af (by omega)
 have u1:IntKind.u64.wrap (n:Int)=(n:Int):=by grind [IntKind.wrap,IntKind.bits,IntKind.signed]
 cases c1:bZ 0 ((n:Int)-1) ow
 ·rw [c1] at hR;simp (maxSteps:=400000) only [go_sem,oK,hw,c1,simprocAttr];exact Ends.aw rfl (by rw [hR];rfl)
 have how:=bD c1;have e2:=Ag bl ow (by omega)
 have r2:=GR bl ow.toNat hb;have e4:decide (0<=ow)=true:=af (by omega)
 have u2:IntKind.u64.wrap ow=ow:=by grind [IntKind.wrap,IntKind.bits,IntKind.signed]
 have t2:(bl/2^ow.toNat).tmod 2=(bl/2^ow.toNat) % 2:=fA r2.1;cases c2:bZ 1 3 (ss.length:Int)
 ·rw [c1,c2] at hR;simp (maxSteps:=400000) only [go_sem,oK,hw,c1,c2,simprocAttr];exact Ends.aw rfl (by rw [hR];rfl)
 have n3:((rt.length:Int) !=(ss.length:Int))= !((rt.length:Int)==(ss.length:Int)):=rfl;cases c3:((rt.length:Int)==(ss.length:Int))
 ·rw [c1,c2,c3] at hR;simp (maxSteps:=400000) only [go_sem,oK,hw,c1,c2,n3,c3,simprocAttr];exact Ends.aw rfl (by rw [hR];rfl)
 have n4:(bl/2^n !=0)= !(bl/2^n==0):=rfl;cases c4:(bl/2^n==0)
 ·rw [c1,c2,c3,c4] at hR;simp (maxSteps:=400000) only [go_sem,oK,hw,c1,c2,n3,c3,n4,c4,e0,e1,u1,simprocAttr];exact Ends.aw rfl (by rw [hR];rfl)
 cases c5:(bl/2^ow.toNat % 2==1);rotate_left
 ·rw [c1,c2,c3,c4,c5] at hR;simp (maxSteps:=400000) only [go_sem,oK,hw,c1,c2,n3,c3,n4,c4,e0,e1,u1,e2,e4,u2,t2,c5,simprocAttr];exact Ends.aw rfl (by rw [hR];rfl)
 rw [c1,c2,c3,c4,c5] at hR;have hlen:rt.length=ss.length:=by grind
 have h3:=bD c2;simp (maxSteps:=400000) only [go_sem,oK,hw,c1,c2,n3,c3,n4,c4,e0,e1,u1,e2,e4,u2,t2,c5,simprocAttr];refine Loop.dV (F:=⟨ay,cj BQ,[45,48,84],85,0⟩) TZ mo ss.length (λk=> ∀i,i<k->(∀x,ss[i]? =some x->bZ 0 4294967295 x=true)/\(∀y,rt[i]? =some y->yD rt i y=true)) (λk=>[(2,.p 0 0),(5,.i .i64 (ss.length:Int)),(6,.i .i64 (k:Int))]) (λk=>[(0,{cells:=[.i .i64 ow,.fz A ss.length,.fz B rt.length,.i .u64 bl]})]) 1 (cr _) (λi hi=>absurd hi (by omega)) ?_ ?_ (λk hk hok=> ?_)
 ·simp (maxSteps:=400000) only [go_sem,AV.aj,aP,simprocAttr]
 ·simp (maxSteps:=400000) only [go_sem,AV.aj,ab,bA,bB,aG,simprocAttr]
 by_cases hlt:k<ss.length
 rotate_left
 ·have d1:decide ((k:Int)<(ss.length:Int))=false:=bw (by omega)
  obtain rfl:k=ss.length:=by omega
  have a1:ss.all (bZ 0 4294967295)=true:=du.2 λx hx=>by
   grind [gF,cv]
  have a2:eE (yD rt) rt 0=true:=(dt ..).2 λi y hy=>by
   grind
  rw [a1,a2] at hR;dsimp only [BQ];simp (maxSteps:=400000) only [go_sem,simprocAttr];exact Ends.aw rfl (by rw [hR];rfl)
 have d1:decide ((k:Int)<(ss.length:Int))=true:=af (by omega)
 have d2:decide (0<=(k:Int)/\(k:Int)<(ss.length:Int))=true:=af (by omega)
 have d3:decide (0<=(k:Int)/\(k:Int)<(rt.length:Int))=true:=af (by omega)
 have hw1:IntKind.i64.wrap ((k:Int)+1)=((k+1:Nat):Int):=by grind [aN]
 obtain ⟨x,hx⟩: ∃x,ss[k]? =some x:=⟨_,bj hlt⟩;obtain ⟨y,hy⟩: ∃y,rt[k]? =some y:=⟨_,bj (by omega)⟩
 have gx:=iA k x hx;have gy:=iB' k y hy;cases a1:bZ 0 4294967295 x
 ·have:ss.all (bZ 0 4294967295)=false:=by
   grind
  rw [this] at hR;dsimp only [BQ];simp (maxSteps:=400000) only [go_sem,oK,d1,d2,gx,a1,di,simprocAttr];exact Ends.aw rfl (by rw [hR];rfl)
 have no:yD rt k y=false->eE (yD rt) rt 0=false:=λh=>by
  cases ha:eE (yD rt) rt 0;all_goals simp_all [dt,fy]
 have hrt:yD rt k y=(bZ 1 1073741824 y&&(((k:Int)==0)||decide (y>rt.getD (k-1) 0))):=rfl;cases a2:bZ 1 1073741824 y
 ·rw [a2,j5] at hrt;rw [no hrt,mC] at hR;dsimp only [BQ];simp (maxSteps:=400000) only [go_sem,oK,d1,d2,d3,gx,gy,a1,a2,di,simprocAttr];exact Ends.aw rfl (by rw [hR];rfl)
 have step:yD rt k y=true-> ∀i,i<k+1->(∀x,ss[i]? =some x->bZ 0 4294967295 x=true)/\(∀y,rt[i]? =some y->yD rt i y=true):=λh i hi=>by
  grind
 by_cases h0:k=0
 ·have d4:decide ((k:Int)>0)=false:=bw (by omega)
  have hyes:yD rt k y=true:=by grind
  dsimp only [BQ];simp (maxSteps:=400000) only [go_sem,oK,d1,d2,d3,d4,gx,gy,a1,a2,hw1,di,AV.aj,ab,aP,bA,bB,aG,e9,simprocAttr]
  grind
 have d4:decide ((k:Int)>0)=true:=af (by omega)
 have hw2:IntKind.i64.wrap ((k:Int)-1)=((k-1:Nat):Int):=by grind [aN]
 have d5:decide (0<=((k-1:Nat):Int)/\((k-1:Nat):Int)<(rt.length:Int))=true:=af (by omega)
 obtain ⟨z,hz⟩: ∃z,rt[k-1]? =some z:=⟨_,bj (by omega)⟩
 have gz:=iB' (k-1) z hz;have hgd:rt.getD (k-1) 0=z:=by grind
 have hk0:((k:Int)==0)=false:=by grind
 rw [a2,hgd,hk0,vp,mP] at hrt;generalize hj:k-1=j at*;cases a3:decide (y<=z)
 ·have hyes:yD rt k y=true:=by grind
  dsimp only [BQ];simp (maxSteps:=400000) only [go_sem,oK,d1,d2,d3,d4,d5,hw2,gx,gy,gz,a1,a2,a3,hw1,di,AV.aj,ab,aP,bA,bB,aG,e9,simprocAttr]
  grind
 ·have hno:yD rt k y=false:=by grind
  rw [no hno,mC] at hR;dsimp only [BQ];simp (maxSteps:=400000) only [go_sem,oK,d1,d2,d3,d4,d5,hw2,gx,gy,gz,a1,a2,a3,di,simprocAttr];exact Ends.aw rfl (by rw [hR];rfl)
def Df:Ct
 |[.agg c,.i .i64 m],_,n=>(xp c).bind λs=>some (decide (0<=m/\m<=6)&&s.ok,{v:= .b (cC m.toNat s),n})
 |_,_,_=>none
theorem ad4:ax ay 125 Df:=λargs h n c E hc ht=>by
 unfold Df at hc;split at hc
 ·rename_i c m;simp only [av] at hc;obtain ⟨s,hs,he⟩:=hc;cases he;rw [qD _ _ hs];simp only [ak,bg] at ht;have:=aib m.toNat s (by omega) ht.2
  rw [Int.toNat_of_nonneg ht.1.1] at this;exact aA.pure (by kernel_rfl) (by simp only [ab,AV.aj,aW.aj,aG]) rfl this _ _
 ·cases hc
def ago (tp:List Tp) (m:Int) (k:Nat):Nat:=(ofM (tp.take k) m).length
def ai1 (u t:Tp):Prop:=u.me<t.me\/u.me=t.me/\u.sh<t.sh/\u.sw.ou≠t.sw.ou
structure TapsR (r:Rm):Prop where
 tap: ∀t∈r.tp,iJ r t=true
 bef:r.tp.Pairwise ai1
 ZE: ∀k t,r.tp[k]? =some t->ago r.tp t.me k<5
theorem B6 (ms:List Mb):ij ms=true↔ms.length<=6/\ ∀(i:Nat) m,ms[i]? =some m->fZ m.nm=true/\bZ 0 1073741824 m.es=true/\ ∀(k:Nat) m',k<i->ms[k]? =some m'->m.nm≠m'.nm:=by
 simp only [ij,ak,bg,dt,xm,ik,fy];refine and_congr_right λh6=>forall_congr' λi=>forall_congr' λm=>imp_congr_right λhi=>and_congr_right λ_=>and_congr_right λ_=> ?_;have hm:(λx:Mb=>x.nm==m.nm) m=true:=by simp
 unfold wO;rcases lC (p:=λx:Mb=>x.nm==m.nm) ms 0 (by omega) with e|⟨j,hj,e,hn,x,hx,hp⟩
 ·have:=wZ ms 0 (by omega) e m (bJ hi)
  simp at this
 ·rw [e];have hxm:x.nm=m.nm:=by simpa using hp
  constructor
  ·intro hij k m' hk hk' he;have:(λx:Mb=>x.nm==m.nm) m'=false:=hn m' (by
    obtain ⟨h1,h2⟩:=cv.1 hk';exact uA.2 ⟨k,by omega,h2⟩)
   simp [he] at this
  ·intro h;rcases Nat.lt_trichotomy j i with hl|hl|hl
   ·exact absurd hxm.symm (h j x hl hx)
   ·omega
   ·have:=hn m (by
     obtain ⟨h1,h2⟩:=cv.1 hi;exact uA.2 ⟨i,by omega,h2⟩)
    simp at this
def Rm.nl (r:Rm):Bool:=r.ms.all λm=>decide (m.nm.length<=1000)
theorem zj {sh:List aW} {k:Nat} (hk:k<=sh.length) (hs: ∀i x,i<k->sh[i]? =some x->vZ x=true):(dS [] sh k).length<=3*k:=by
 have e:dS [] sh k=dS [] (sh.take k) k:=by simp [dS,List.take_take]
 rw [e];have:=nN (l:=[]) (sh:=sh.take k) (du.2 λx hx=>by
  obtain ⟨i,hi⟩:=gF hx;rw [kJ] at hi;split at hi
  ·rename_i h;exact hs i x h hi
  ·cases hi) k (by rw [fY];omega)
 simpa using this
theorem ue {h:Hp} {a:Nat} {l:List Int} (f:Nat) (ha:aa h a=some {cells:=rows aq l,gr:=some 1}):Go.Ab.nv h (f+1) (.sg a 0 l.length)=some ([a],.fz (rows aq l) l.length):=by
 have zR:(rows aq l).length=l.length*1:=aU bR;have e:aD (rows aq l) 0 (l.length*1)=rows aq l:=by rw [aD,dk,<-zR,jh]
 simp only [Gk,ha,aC,eo,e,Ni]
theorem pG {x y:AV} {b c:Nat} {h:Hp} {S:Go.Ab.Sh} (hh:sC h S c) (hc:c≠b):wR x y b h (S.h c):=by
 cases S with
 |nil=>trivial
 |sl q o l cap=>exact ⟨⟨hc,q,hh c q (by simp [Go.Ab.Sh.h,aa]),rfl,rfl,rfl,dZ.refl⟩,trivial⟩
 |sg q o l=>exact ⟨⟨hc,q,hh c q (by simp [Go.Ab.Sh.h,aa]),rfl,rfl,rfl,dZ.refl⟩,trivial⟩
noncomputable abbrev oG:Fx:=⟨ay,cj [],[18,46],68,0⟩
theorem Ko (mv rc:List AV) (M:Go.Ab.Sh) (hM:M.plain=true) (nm:Nat) (sh:List aW) (hl:sh.length<=6) (hok: ∀s∈sh,s.ss.length<=3/\s.rt.length<=3/\1<=s.ss.length/\1<=s.rt.length) (hrc:ab 0 rc=true) (hr2:rc[1]? =some (.fz (rows aW.l sh) sh.length)) {K:bX} {e:Env} {h:Hp} {n:Nat}
 (he:jz 5 [] e [(1,.p 0 0),(2,.p 1 0),(3,.p 2 0),(4,.i .i64 0)])
 (hh:iW 5 [] h ((2,{cells:=[M.v 3,.ns,.ns]})::(0,{cells:=rc})::(1,{cells:=[.ns,.ns,.ns]})::M.h 3))
 (hK: ∀e',bC e' 1=some (.p 0 0)->bC e' 2=some (.p 1 0)->bC e' 3=some (.p 2 0)->K (.exit 0) e' ((2,{cells:=[M.v 3,(gQ aW.l 4 sh).v 4,.ns]})::(0,{cells:=rc})::(1,{cells:=[.ns,.ns,.ns]})::((gQ aW.l 4 sh).h 4++M.h 3)) 5):
 Ab.Loop ay [18,46] 68 0 LD K e h n:=by
 have hsB: ∀j,ab j (rows aW.l sh)=true:=λj=>cG j sh;have hsR: ∀g,aS g (rows aW.l sh)=rows aW.l sh:=λg=>dT g sh;have hrB: ∀j,ab j rc=true:=λj=>au _ hrc;have hrR: ∀g,aS g rc=rc:=λg=>aJ _ hrc;have hSat: ∀(k:Nat) x,sh[k]? =some x->List.take 4 (List.drop (k*4) (rows aW.l sh))=x.l:=λk x hk=>dm aW.len hk;have htk:sh.take sh.length=sh:=jh;refine Loop.aee (F:=oG) (X:=Nat) (λk=>k<=sh.length) (λk=>sh.length-k)
  (λk=>[(1,.p 0 0),(2,.p 1 0),(3,.p 2 0),(4,.i .i64 (k:Int))])
  (λk=>(2,{cells:=[M.v 3,(gQ aW.l 4 (sh.take k)).v 4,.ns]})::(0,{cells:=rc})::(1,{cells:=[.ns,.ns,.ns]})::((gQ aW.l 4 (sh.take k)).h 4++M.h 3)) 5 0 (λk=>k+1) [] (λ_=>[(4,11)]) (by decide) (by decide) (λk=>by decide) (cr _) he hh (λk hk=> ?_)
 have hk:k<=sh.length:=hk;dsimp only [LD];refine cU.part (F:=oG) Sound.nil mo ?_;dsimp only [oG];by_cases hlt:k<sh.length
 rotate_left
 ·have c1:decide ((k:Int)<(sh.length:Int))=false:=bw (by omega)
  obtain rfl:k=sh.length:=by omega
  rw [htk];simp (maxSteps:=400000) only [go_sem,hr2,simprocAttr];exact hK _ rfl rfl rfl
 have c1:decide ((k:Int)<(sh.length:Int))=true:=af (by omega)
 have c2:decide (0<=(k:Int)/\(k:Int)<(sh.length:Int))=true:=af (by omega)
 have hw:IntKind.i64.wrap ((k:Int)+1)=((k+1:Nat):Int):=by grind [aN]
 obtain ⟨x,hx⟩: ∃x,sh[k]? =some x:=⟨_,bj hlt⟩;have hr:=hSat k x hx;obtain ⟨l1,l2,l3,l4⟩:=hok x (bJ hx);have htk1:sh.take (k+1)=sh.take k++[x]:=by grind [jY]
 have hql:(sh.take k).length<=6:=by grind
 rw [htk1];generalize sh.take k=q at*;have gm:decide (64*(q.length+1)<=az)=true:=af (by grind [az])
 have zR:(rows aW.l q).length=q.length*4:=aU aW.len;have pk:=An q;have pk':=An (q++[x]);have qeq:gQ aW.l 4 (q++[x])=gS aW.l 4 q x.l:=ji;rw [qeq] at pk' ⊢;have hsk:sh.length-(k+1)<sh.length-k:=by omega
 obtain ⟨ow,ss,rt,bl⟩:=x;dsimp only at l1 l2 l3 l4;simp only [aW.l] at hr pk' ⊢;simp (maxSteps:=400000) only [go_sem,c1,hr2,simprocAttr];refine cU.seq ?_;refine cU.block ?_;refine cU.cut (λK1 hK1=> ?_);have bS:=λj=>iB j ss;have bT:=λj=>iB j rt;have rS:=λg=>iR g ss;have rT:=λg=>iR g rt;have tail:cU oG (.dY Yy) K1 [(5,.p 5 0),(1,.p 0 0),(2,.p 1 0),(3,.p 2 0),(4,.i .i64 (k:Int))]
  ((5,{cells:=[.i .i64 ow,.fz (rows aq ss) ss.length,.fz (rows aq rt) rt.length,.i .u64 bl]})::(2,{cells:=[M.v 3,(gQ aW.l 4 q).v 4,.ns]})::(0,{cells:=rc})::(1,{cells:=[.ns,.ns,.ns]})::((gQ aW.l 4 q).h 4++M.h 3)) 10:=by
  subst hK1;refine cU.run (F:=oG) Sound.nil mo ?_;dsimp only [oG];simp (maxSteps:=400000) only [go_sem,gm,zR,pk',simprocAttr];refine cU.run (F:=oG) Sound.nil mo ?_;dsimp only [oG];simp (maxSteps:=400000) only [go_sem,hw,hsk,hM,AV.aj,ab,aP,bp.aQ,aS,AV.aQ,hrB,hrR,simprocAttr];exact hlt
 clear hK1;refine cU.part (F:=oG) Sound.nil mo ?_;dsimp only [oG];simp (maxSteps:=400000) only [go_sem,hr2,c2,hr,simprocAttr];refine cU.part (F:=oG) Sound.nil mo ?_;dsimp only [oG];have e1:decide (ss.length=0)=false:=bw (by omega)
 have e2:decide (ss.length<=0)=false:=bw (by omega)
 have e3:decide (rt.length=0)=false:=bw (by omega)
 have e4:decide (rt.length<=0)=false:=bw (by omega)
 have z1:(rows aq ss).length=ss.length*1:=aU bR;have z2:(rows aq rt).length=rt.length*1:=aU bR;have o1:aL (rows aq ss)=true:=dr (λ_=>rfl) ss;have o2:aL (rows aq rt)=true:=dr (λ_=>rfl) rt;have t1:List.take (ss.length*1) (rows aq ss)=rows aq ss:=dN (by omega)
 have t2:List.take (rt.length*1) (rows aq rt)=rows aq rt:=dN (by omega)
 have g1:decide (8*ss.length<=az)=true:=af (by grind)
 have g2:decide (8*rt.length<=az)=true:=af (by grind)
 simp (maxSteps:=400000) only [go_sem,e1,e2,e3,e4,z1,z2,t1,t2,g1,g2,dk,simprocAttr];refine cU.nA (F:=oG) (b:=7) (x:= .sg 7 0 ss.length) (o:=0) (m:=ss.length) (k:={cells:=rows aq ss,gr:=some 1}) (cs:=rows aq ss) (e2:=[(5,.p 5 0),(1,.p 0 0),(2,.p 1 0),(3,.p 2 0),(4,.i .i64 (k:Int))]) (h2:=(9,{cells:=rows aq rt,gr:=some 1})::(5,{cells:=[.i .i64 ow,.fz (rows aq ss) ss.length,.sg 9 0 rt.length,.i .u64 bl]})::(2,{cells:=[M.v 3,(gQ aW.l 4 q).v 4,.ns]})::(0,{cells:=rc})::(1,{cells:=[.ns,.ns,.ns]})::((gQ aW.l 4 q).h 4++M.h 3))
  ?_ rfl rfl (.inr rfl) (.inl rfl) ⟨⟨_,rfl,bW.refl⟩,⟨_,rfl,bW.refl⟩,⟨_,rfl,bW.refl⟩,⟨_,rfl,bW.refl⟩,⟨_,rfl,bW.refl⟩,trivial⟩ ⟨⟨by decide,_,rfl,rfl,rfl,rfl,dZ.refl⟩,⟨by decide,_,rfl,rfl,rfl,rfl,bW.refl,bW.hit,bW.refl,bW.refl,trivial⟩,⟨by decide,_,rfl,rfl,rfl,rfl,dZ.refl⟩,⟨by decide,_,rfl,rfl,rfl,rfl,dZ.refl⟩,⟨by decide,_,rfl,rfl,rfl,rfl,dZ.refl⟩,wR.app (pG ?_ (by decide)) (pG ?_ (by decide))⟩
 ·exact cU.nA (F:=oG) (b:=9) (x:= .sg 9 0 rt.length) (o:=0) (m:=rt.length) (k:={cells:=rows aq rt,gr:=some 1}) (cs:=rows aq rt) tail rfl rfl (.inr rfl) (.inl rfl) ⟨⟨_,rfl,bW.refl⟩,⟨_,rfl,bW.refl⟩,⟨_,rfl,bW.refl⟩,⟨_,rfl,bW.refl⟩,⟨_,rfl,bW.refl⟩,trivial⟩ ⟨⟨by decide,_,rfl,rfl,rfl,rfl,bW.refl,bW.refl,bW.hit,bW.refl,trivial⟩,⟨by decide,_,rfl,rfl,rfl,rfl,dZ.refl⟩,⟨by decide,_,rfl,rfl,rfl,rfl,dZ.refl⟩,⟨by decide,_,rfl,rfl,rfl,rfl,dZ.refl⟩,wR.app (pG (by simp (maxSteps:=400000) only [go_sem,simprocAttr]) (by decide)) (pG (by simp (maxSteps:=400000) only [go_sem,simprocAttr]) (by decide))⟩
 ·simp (maxSteps:=400000) only [go_sem,simprocAttr]
 ·simp (maxSteps:=400000) only [go_sem,simprocAttr]
theorem No {r:Rm} (hg:aX r=true):(∀s∈r.sh,s.ss.length<=3/\s.rt.length<=3/\1<=s.ss.length/\1<=s.rt.length)/\ ∀t∈r.tp,t.sw.l.length<=3/\1<=t.sw.l.length:=by
 simp only [aX,fB,kK,ak,bg] at hg;obtain ⟨_,⟨_,h3,_⟩,h4,_⟩:=hg;refine ⟨λs hs=> ?_,λt ht=> ?_⟩
 ·have:=du.1 h3 s hs;simp only [cC,ak,ik] at this;have h5:=bD this.2.1;omega
 ·rw [dt] at h4;obtain ⟨k,hk⟩:=gF ht;have:=h4 k t hk;simp only [nz,iJ,ak] at this;have h5:=this.1.2.2;split at h5
  ·simp only [ak] at h5;have:=h5.2.2.2.1;simp only [dv,ak] at this;have:=bD this.1.1;omega
  ·cases h5
theorem V8 (q:List Mb):(gQ Mb.l 2 q).plain=true:=(p7 (f:=Mb.l) Mb.aj Mb.len q).pl
theorem acu (r:Rm) (hg:aX r=true) (ht0:r.tp=[]):bG ay 118 [.agg r.a] [] 0 (.agg [(gQ Mb.l 2 r.ms).v 0,(gQ aW.l 4 r.sh).v 1,(gQ Tp.l 22 r.tp).v 2]) ((gQ Mb.l 2 r.ms).h 0++((gQ aW.l 4 r.sh).h 1++(gQ Tp.l 22 r.tp).h 2)) 3:=by
 obtain ⟨m6,s6,t36,-,-⟩:=ek hg;obtain ⟨hso,hto⟩:=No hg;have a3:r.a.length=3:=rfl;have ad:List.take 3 (List.drop 0 r.a)=r.a:=rfl;have r0:r.a[0]? =some (.fz (rows Mb.l r.ms) r.ms.length):=rfl;have r1:r.a[1]? =some (.fz (rows aW.l r.sh) r.sh.length):=rfl;have r2:r.a[2]? =some (.fz (rows Tp.l r.tp) r.tp.length):=rfl;have hrb:=Rm.aj 0 r;have hl1:=λM (hM:Go.Ab.Sh.plain M=true)=> @Ko (rows Tp.l r.tp) r.a M hM r.tp.length r.sh s6 hso hrb r1;have pM:=V8 r.ms;have pS:=An r.sh;have c4:((r.tp.length:Nat):Int)=0:=by rw [ht0];rfl
 have eT:gQ Tp.l 22 r.tp= .nil:=by rw [ht0];rfl
 have hsB: ∀j,ab j (rows aW.l r.sh)=true:=λj=>cG j r.sh;have hsR: ∀g,aS g (rows aW.l r.sh)=rows aW.l r.sh:=λg=>dT g r.sh;have htB: ∀j,ab j (rows Tp.l r.tp)=true:=λj=>fb j r.tp;have htR: ∀g,aS g (rows Tp.l r.tp)=rows Tp.l r.tp:=λg=>jC g r.tp;have hmB: ∀j,ab j (rows Mb.l r.ms)=true:=λj=>fT j r.ms;have hmR: ∀g,aS g (rows Mb.l r.ms)=rows Mb.l r.ms:=λg=>jI g r.ms;have hrB: ∀j,ab j r.a=true:=λj=>Rm.aj j r;have hrR: ∀g,aS g r.a=r.a:=λg=>aJ _ hrb;have zl:(List.take (r.ms.length*2) (List.drop 0 (rows Mb.l r.ms))).length=r.ms.length*2:=by
  simp [dk,dN,aU,Mb.len]
 have zt:List.take (r.ms.length*2) (List.drop 0 (rows Mb.l r.ms))=rows Mb.l r.ms:=by
  simp [dk,dN,aU,Mb.len]
 have zo:aL (rows Mb.l r.ms)=true:=dr Mb.one _;have zz:(rows Mb.l r.ms).length=r.ms.length*2:=aU Mb.len;generalize r.a=RA,gQ aW.l 4 r.sh=gS at*;rw [eT];refine ew (cx:=cj []) Sound.nil Tryz.func118 Ra ?_
 dsimp only [i118];by_cases h0:r.ms.length=0
 ·have e0:decide (r.ms.length=0)=true:=af h0;have e1:gQ Mb.l 2 r.ms= .nil:=by unfold gQ;grind
  have hl1:= @hl1 .nil rfl;rw [e1] at*;simp (maxSteps:=400000) only [go_sem,r0,e0,zt,zz,simprocAttr];refine hl1 ?_ ?_ (λe' he1 he2 he3=> ?_)
  ·simp (maxSteps:=400000) only [go_sem,AV.aj,aP,AV.aQ,simprocAttr]
  ·simp (maxSteps:=400000) only [go_sem,AV.aj,ab,bp.aQ,AV.aQ,aS,hrB,hrR,simprocAttr]
  simp (maxSteps:=400000) only [go_sem,simprocAttr];refine Loop.rounds (F:=oG) 1 Sound.nil mo ?_;dsimp only [oG];simp (maxSteps:=400000) only [go_sem,he1,he2,he3,r2,c4,simprocAttr];refine Ends.R [(0,3),(1,4),(2,5)] (by decide) (by decide) ?_ ?_ ?_
  ·simp (maxSteps:=400000) only [go_sem,AV.aQ,aS,simprocAttr]
  ·simp (maxSteps:=400000) only [go_sem,AV.aj,ab,simprocAttr]
  ·simp (maxSteps:=400000) only [go_sem,pS,simprocAttr]
 ·have e0:decide (r.ms.length=0)=false:=bw h0;have e1:gQ Mb.l 2 r.ms= .sg {cells:=rows Mb.l r.ms,gr:=some 2} 0 r.ms.length:=by unfold gQ;grind
  have e5:decide (24*r.ms.length<=az)=true:=af (by grind [az])
  have hl1:= @hl1 (.sg {cells:=rows Mb.l r.ms,gr:=some 2} 0 r.ms.length) (by grind)
  rw [e1] at*;simp (maxSteps:=400000) only [go_sem,r0,e0,e5,zt,zz,simprocAttr];refine hl1 ?_ ?_ (λe' he1 he2 he3=> ?_)
  ·simp (maxSteps:=400000) only [go_sem,AV.aj,aP,AV.aQ,simprocAttr]
  ·simp (maxSteps:=400000) only [go_sem,AV.aj,ab,aP,bp.aQ,AV.aQ,aS,hrB,hrR,hmB,hmR,simprocAttr]
  simp (maxSteps:=400000) only [go_sem,simprocAttr];refine Loop.rounds (F:=oG) 1 Sound.nil mo ?_;dsimp only [oG];simp (maxSteps:=400000) only [go_sem,he1,he2,he3,r2,c4,simprocAttr];refine Ends.R [(0,3),(1,4),(2,5)] (by decide) (by decide) ?_ ?_ ?_
  ·simp (maxSteps:=400000) only [go_sem,AV.aQ,aS,simprocAttr]
  ·simp (maxSteps:=400000) only [go_sem,AV.aj,ab,aP,simprocAttr]
  ·simp (maxSteps:=400000) only [go_sem,pS,bp.aQ,hmB,hmR,simprocAttr]
def mW (r:Rm) (lm:Bool) (a:Nat):AV:=bif lm then (gQ Mb.l 2 r.ms).v a else .fz (rows Mb.l r.ms) r.ms.length
def mG (r:Rm) (lm:Bool) (a:Nat):Hp:=bif lm then (gQ Mb.l 2 r.ms).h a else []
abbrev Mv (r:Rm) (lm ls lt:Bool) (n:Nat):AV:= .agg [mW r lm n,sV r ls (n+1),tV r lt (n+2)]
def zP (r:Rm) (lm ls lt:Bool) (n:Nat):Hp:=mG r lm n++(sH r ls (n+1)++tH r lt (n+2))
theorem AK {x y:AV} {b c:Nat} {h:Hp} {S:Go.Ab.Sh} {l:Bool} (hh:l=true->sC h S c) (hc:c≠b):wR x y b h (bif l then S.h c else []):=by
 cases l
 ·trivial
 ·exact pG (hh rfl) hc
theorem XC (r:Rm) (hg:aX r=true) (ht0:r.tp=[]) (lm ls lt:Bool):bG ay 118 [.agg r.a] [] 0 (Mv r lm ls lt 0) (zP r lm ls lt 0) 3:=by
 refine cz.cov (acu r hg ht0) (aZ.trans (v1:=Mv r true true lt 0) (h1:=zP r true true lt 0) (n1:=3) ?_ (aZ.trans (v1:=Mv r true ls lt 0) (h1:=zP r true ls lt 0) (n1:=3) ?_ ?_))
 ·cases lt;rotate_left
  ·exact aZ.refl
  refine aZ.Cw (f:=Tp.l) (z:=22) (l:=r.tp) (b:=2) (v':=Mv r true true false 0) (h':=zP r true true false 0) ?_ (bW.agg ⟨bW.refl,bW.refl,bW.hit,trivial⟩) ?_ aZ.refl
  ·simp [fi,fI,fW]
  ·exact wR.app (pG (by simp [fi,fI,fW]) (by decide)) (wR.app (pG (by simp [fi,fI,fW]) (by decide)) trivial)
 ·cases ls;rotate_left
  ·exact aZ.refl
  refine aZ.Cw (f:=aW.l) (z:=4) (l:=r.sh) (b:=1) (v':=Mv r true false lt 0) (h':=zP r true false lt 0) ?_ (bW.agg ⟨bW.refl,bW.hit,bW.refl,trivial⟩) ?_ aZ.refl
  ·simp [zP,mG,sH,fi,fI,fW]
  ·exact wR.app (pG (by simp [zP,mG,sH,fi,fI,fW]) (by decide)) (wR.app trivial (AK (λe=>by subst e;simp [zP,mG,sH,tH,fi,fI,fW]) (by decide)))
 ·cases lm;rotate_left
  ·exact aZ.refl
  refine aZ.Cw (f:=Mb.l) (z:=2) (l:=r.ms) (b:=0) (v':=Mv r false ls lt 0) (h':=zP r false ls lt 0) ?_ (bW.agg ⟨bW.hit,bW.refl,bW.refl,trivial⟩) ?_ aZ.refl
  ·simp [zP,mG,fi,fI,fW]
  ·refine wR.app trivial (wR.app (AK (λe=> ?_) (by decide)) (AK (λe=> ?_) (by decide)))
   ·subst e;simp [zP,mG,sH,tH,fi,fI,fW]
   ·subst e;cases ls<;>simp [zP,mG,sH,tH,fi,fI,fW]
def vv (lm ls lt:Bool):Ct
 |[.agg c],_,n=>(qX c).bind λr=>some (aX r&&decide (r.tp.length=0),{v:=Mv r lm ls lt n,n:=n+3,nw:=zP r lm ls lt n})
 |_,_,_=>none
theorem Ta (lm ls lt:Bool):ax ay 118 (vv lm ls lt):=λargs h n c E hc ht=>by
 unfold vv at hc;split at hc
 ·simp only [av] at hc;obtain ⟨r,hr,he⟩:=hc;simp only [aI,aV] at he;obtain ⟨rfl,rfl⟩:=he;rw [dW hr];simp only [ak,bg] at ht;have hab:ab 0 [AV.agg r.a]=true:=by simp only [ab,AV.aj,Rm.aj,aG]
  have hm:=fT 3 r.ms;have hs:=cG 3 r.sh;have htp:=fb 3 r.tp;have rm:=λg=>jI g r.ms;have rs:=λg=>dT g r.sh;have rt:=λg=>jC g r.tp;have hfx:aS (nth []) [AV.agg r.a]=[AV.agg r.a]:=aJ _ hab;refine (aA.canon (n:=n) (pn:=none) [] [] (by kernel_rfl) rfl (argsL:=[.agg r.a]) hab trivial (XC r ht.1 (fq ht.2) lm ls lt) (cr _) ?_).cast hfx ?_
  ·rcases lz Mb.l 2 r.ms with e0|e0<;>rcases lz aW.l 4 r.sh with e1|e1<;>rcases lz Tp.l 22 r.tp with e2|e2<;>cases lm<;>cases ls<;>cases lt<;>
    simp [Mv,zP,mW,mG,sV,tV,sH,tH,e0,e1,e2,l5,ab,AV.aj,hm,hs,htp,Go.Ab.Sh.v,Go.Ab.Sh.h,aP,dD]
  ·rcases lz Mb.l 2 r.ms with e0|e0<;>rcases lz aW.l 4 r.sh with e1|e1<;>rcases lz Tp.l 22 r.tp with e2|e2<;>cases lm<;>cases ls<;>cases lt<;>
    simp [Mv,zP,mW,mG,sV,tV,sH,tH,e0,e1,e2,nR,fL,bp.aQ,aS,AV.aQ,rm,rs,rt,Go.Ab.Sh.v,Go.Ab.Sh.h,jA,aP]
 ·cases hc
theorem Ce {r:Rm} (hg:aX r=true) (ht0:r.tp=[]) (lm ls lt:Bool) (h:Hp) (n:Nat):vv lm ls lt [.agg r.a] h n=some (true,{v:=Mv r lm ls lt n,n:=n+3,nw:=zP r lm ls lt n}):=by
 simp only [vv,dH,aC,hg,ht0,fP,qj,aG]
def vy:List (Nat×Ct):=[(113,oK),(124,AR),(125,Df),(126,cu Bs)]
theorem uW:Sound ay (cj vy):=Sound.cons acs (Sound.cons aaD (Sound.cons ad4 (Sound.cons adn.nv Sound.nil)))
noncomputable abbrev rk:Fx:=⟨ay,cj vy,i112.ct,i112.N,0⟩
theorem Hx (r:Rm) (h6:r.ms.length<=6) (hnl':r.nl=true) {K:bX} {e:Env} {h:Hp} {n:Nat}
 (he:jz 1 [] e [(1,.p 0 0),(3,.i .i64 0)]) (hh:iW 1 [] h [(0,{cells:=r.a})])
 (hf:ij r.ms=false-> ∀e' h' n',bC e' 2=some (.b false)->K .ret e' h' n')
 (hK:ij r.ms=true-> ∀e',bC e' 1=some (.p 0 0)->K (.exit 0) e' [(0,{cells:=r.a})] 1):
 Ab.Loop ay i112.ct i112.N 0 Gx K e h n:=by
 have hMat: ∀(k:Nat) x,r.ms[k]? =some x->List.take 2 (List.drop (k*2) (rows Mb.l r.ms))=x.l:=λk x hk=>dm Mb.len hk;have hM0: ∀(k:Nat) x,r.ms[k]? =some x->(rows Mb.l r.ms)[k*2]? =some (.s x.nm):=λk x hk=>by
  have:=bM (f:=Mb.l) (z:=2) (j:=0) (v:= .s x.nm) Mb.len hk rfl;simpa using this
 have hM1: ∀(k:Nat) x,r.ms[k]? =some x->(rows Mb.l r.ms)[k*2+1]? =some (.i .i64 x.es):=λk x hk=>bM (f:=Mb.l) (z:=2) (j:=1) (v:= .i .i64 x.es) Mb.len hk rfl;have b1:=λj=>fT j r.ms;have b2:=λj=>cG j r.sh;have b3:=λj=>fb j r.tp;have rr: ∀g,aS g r.a=r.a:=λg=>aJ _ (Rm.aj 0 r);have hno: ∀(i:Nat) m,r.ms[i]? =some m-> ¬(fZ m.nm=true/\bZ 0 1073741824 m.es=true/\ ∀(k:Nat) m',k<i->r.ms[k]? =some m'->m.nm≠m'.nm)->ij r.ms=false:=λi m hi hn=>by
  cases hc:ij r.ms
  ·rfl
  ·exact absurd (((B6 _).1 hc).2 i m hi) hn
 simp only [Rm.a] at*;generalize rows Mb.l r.ms=A at*;generalize rows aW.l r.sh=B at*;generalize rows Tp.l r.tp=C at*;refine Loop.dV (F:=rk) uW mo r.ms.length (λk=> ∀(i:Nat) m,i<k->r.ms[i]? =some m->fZ m.nm=true/\bZ 0 1073741824 m.es=true/\ ∀(k:Nat) m',k<i->r.ms[k]? =some m'->m.nm≠m'.nm) (λk=>[(1,.p 0 0),(3,.i .i64 (k:Int))]) (λk=>[(0,{cells:=[.fz A r.ms.length,.fz B r.sh.length,.fz C r.tp.length]})]) 1 (cr _) (λi m hi=>absurd hi (by omega)) ?_ ?_ (λk hk hok=> ?_)
 ·exact ⟨he.1,rfl,he.2.2.1,rfl,trivial⟩
 ·exact ⟨by have:=hh.1;simp only [bp.aQ,rr] at this;exact this,hh.2.1,hh.2.2.1,trivial⟩
 dsimp only [rk,vy,i112,Gx];by_cases hlt:k<r.ms.length
 rotate_left
 ·have c1:decide ((k:Int)<(r.ms.length:Int))=false:=bw (by omega)
  obtain rfl:k=r.ms.length:=by omega
  simp (maxSteps:=400000) only [go_sem,c1,simprocAttr];exact hK ((B6 _).2 ⟨h6,λi m hi=>hok i m (cv.1 hi).1 hi⟩) _ rfl
 have c1:decide ((k:Int)<(r.ms.length:Int))=true:=af (by omega)
 have c2:decide (0<=(k:Int)/\(k:Int)<(r.ms.length:Int))=true:=af (by omega)
 have hw:IntKind.i64.wrap ((k:Int)+1)=((k+1:Nat):Int):=by rw [aN (by omega) (by omega)];omega
 obtain ⟨x,hx⟩: ∃x,r.ms[k]? =some x:=⟨_,bj hlt⟩;have g0:=hM0 k x hx;have g1:=hM1 k x hx;have hnl:decide (x.nm.length<=9223372036854775807)=true:=by
  have:=bN (du.1 hnl' x (bJ hx));exact af (by omega)
 cases a1:fZ x.nm
 ·have hm:=hno k x hx (λh=>by rw [a1] at h;cases h.1)
  simp (maxSteps:=400000) only [go_sem,AR,oK,hnl,a1,c1,c2,g0,simprocAttr];exact hf hm _ _ _ rfl
 cases a2:bZ 0 1073741824 x.es
 ·have hm:=hno k x hx (λh=>by rw [a2] at h;cases h.2.1)
  simp (maxSteps:=400000) only [go_sem,AR,oK,hnl,a1,a2,c1,c2,g0,g1,simprocAttr];exact hf hm _ _ _ rfl
 simp (maxSteps:=400000) only [go_sem,AR,oK,hnl,a1,a2,c1,c2,g0,g1,simprocAttr];refine Loop.dV (F:=rk) uW mo k (λq=> ∀(j:Nat) m',j<q->r.ms[j]? =some m'->x.nm≠m'.nm) (λq=>[(1,.p 0 0),(3,.i .i64 (k:Int)),(4,.i .i64 (q:Int))]) (λq=>[(0,{cells:=[.fz A r.ms.length,.fz B r.sh.length,.fz C r.tp.length]})]) 1 (cr _) (λj m' hj=>absurd hj (by omega)) ?_ ?_ (λq hq hoq=> ?_)
 ·simp (maxSteps:=400000) only [go_sem,AV.aj,aP,simprocAttr]
 ·simp (maxSteps:=400000) only [go_sem,AV.aj,ab,b1,b2,b3,aG,simprocAttr]
 dsimp only [rk,vy,i112,Ng];by_cases hqk:q<k
 rotate_left
 ·have d1:decide ((q:Int)<(k:Int))=false:=bw (by omega)
  obtain rfl:q=k:=by omega
  simp (maxSteps:=400000) only [go_sem,d1,hw,AV.aj,ab,aP,b1,b2,b3,aG,e9,simprocAttr];refine ⟨hlt,λi m hi him=> ?_⟩;rcases xU.1 hi with h1|rfl
  ·exact hok i m h1 him
  ·rw [hx] at him;cases him;exact ⟨a1,a2,hoq⟩
 have d1:decide ((q:Int)<(k:Int))=true:=af (by omega)
 have d2:decide (0<=(q:Int)/\(q:Int)<(r.ms.length:Int))=true:=af (by omega)
 have hw2:IntKind.i64.wrap ((q:Int)+1)=((q+1:Nat):Int):=by rw [aN (by omega) (by omega)];omega
 obtain ⟨y,hy⟩: ∃y,r.ms[q]? =some y:=⟨_,bj (by omega)⟩
 have gy:=hM0 q y hy;by_cases hxy:x.nm=y.nm
 ·have c4:(x.nm==y.nm)=true:=by simpa using hxy
  have hm:=hno k x hx (λh=>h.2.2 q y hqk hy hxy);simp (maxSteps:=400000) only [go_sem,d1,d2,c2,g0,gy,c4,simprocAttr];exact hf hm _ _ _ rfl
 ·have c4:(x.nm==y.nm)=false:=by simpa using hxy
  simp (maxSteps:=400000) only [go_sem,d1,d2,c2,g0,gy,c4,hw2,AV.aj,ab,aP,b1,b2,b3,aG,e9,simprocAttr];refine ⟨hqk,λj m' hj hjm=> ?_⟩;rcases xU.1 hj with h1|rfl
  ·exact hoq j m' h1 hjm
  ·rw [hy] at hjm;cases hjm;exact hxy
theorem Ih (r:Rm) (h6:r.ms.length<=6) (hs6:r.sh.length<=6) (hso:r.sh.all aW.ok=true) {K:bX} {e:Env} {h:Hp} {n:Nat}
 (he:jz 2 [] e [(1,.p 0 0),(5,(gQ aq 1 []).v 1),(6,.i .i64 0)]) (hh:iW 2 [] h ((gQ aq 1 []).h 1++[(0,{cells:=r.a})]))
 (hf:r.sh.all (cC r.ms.length)=false-> ∀e' h' n',bC e' 2=some (.b false)->K .ret e' h' n')
 (hK:r.sh.all (cC r.ms.length)=true-> ∀e',bC e' 1=some (.p 0 0)->bC e' 5=some ((gQ aq 1 (dS [] r.sh r.sh.length)).v 1)->K (.exit 4) e' ((gQ aq 1 (dS [] r.sh r.sh.length)).h 1++[(0,{cells:=r.a})]) 2):
 Ab.Loop ay i112.ct i112.N 0 G0 K e h n:=by
 have hSat: ∀(k:Nat) x,r.sh[k]? =some x->List.take 4 (List.drop (k*4) (rows aW.l r.sh))=x.l:=λk x hk=>dm aW.len hk;have hS1: ∀(k:Nat) x,r.sh[k]? =some x->(rows aW.l r.sh)[k*4+1]? =some (.fz (rows aq x.ss) x.ss.length):=λk x hk=>bM (f:=aW.l) (z:=4) (j:=1) (v:= .fz (rows aq x.ss) x.ss.length) aW.len hk rfl;have b1:=λj=>fT j r.ms;have b2:=λj=>cG j r.sh;have b3:=λj=>fb j r.tp;have q1:=λg=>jI g r.ms;have q2:=λg=>dT g r.sh;have q3:=λg=>jC g r.tp;have hno: ∀(i:Nat) s,r.sh[i]? =some s->cC r.ms.length s=false->r.sh.all (cC r.ms.length)=false:=λi s hi hn=>by
  cases hc:r.sh.all (cC r.ms.length)
  ·rfl
  ·have:=du.1 hc s (bJ hi);rw [hn] at this;cases this
 obtain ⟨ms,sh,tp⟩:=r;simp only [Rm.a] at*;generalize rows Mb.l ms=A at*;generalize rows aW.l sh=B at*;generalize rows Tp.l tp=C at*;rw [<-Bm [] sh] at he hh;refine Loop.nM (F:=rk) uW mo (X:=Nat) (λk=>k<=sh.length/\ ∀i x,i<k->sh[i]? =some x->cC ms.length x=true) (λk=>sh.length-k)
  (λk=>[(1,.p 0 0),(5,(gQ aq 1 (dS [] sh k)).v 1),(6,.i .i64 (k:Int))])
  (λk=>(gQ aq 1 (dS [] sh k)).h 1++[(0,{cells:=[.fz A ms.length,.fz B sh.length,.fz C tp.length]})]) 2 0 (λk=>k+1) [] (λ_=>[(1,2)]) (by decide) (by decide) (λk=>by decide) ⟨cr _,λi x hi=>absurd hi (by omega)⟩ he hh (λk hk=> ?_)
 obtain ⟨hk,hok⟩:=hk;dsimp only [rk,vy,i112,G0];by_cases hlt:k<sh.length
 rotate_left
 ·have c1:decide ((k:Int)<(sh.length:Int))=false:=bw (by omega)
  obtain rfl:k=sh.length:=by omega
  simp (maxSteps:=400000) only [go_sem,c1,simprocAttr];refine hK (du.2 λx hx=> ?_) _ rfl rfl;obtain ⟨i,hi⟩:=gF hx;exact hok i x (cv.1 hi).1 hi
 have c1:decide ((k:Int)<(sh.length:Int))=true:=af (by omega)
 have c2:decide (0<=(k:Int)/\(k:Int)<(sh.length:Int))=true:=af (by omega)
 have hw:IntKind.i64.wrap ((k:Int)+1)=((k+1:Nat):Int):=by rw [aN (by omega) (by omega)];omega
 obtain ⟨x,hx⟩: ∃x,sh[k]? =some x:=⟨_,bj hlt⟩;have hr:=hSat k x hx;have g1:=hS1 k x hx;have hxo:=du.1 hso x (bJ hx);have hk125: ∀(h:Hp) n,Df [.agg x.l,.i .i64 (ms.length:Int)] h n=some (true,{v:= .b (cC ms.length x),n}):=λh n=>by
  simp only [Df,ku,aC,hxo,af (show (0:Int)<=(ms.length:Int)/\(ms.length:Int)<=6 by omega),aG,j3]
 cases a1:cC ms.length x
 ·have hm:=hno k x hx a1;rw [a1] at hk125;generalize gQ aq 1 (dS [] sh k)=Q at*;simp (maxSteps:=400000) only [go_sem,c1,c2,hr,hk125,aW.len,simprocAttr];exact hf hm _ _ _ rfl
 rw [a1] at hk125;have hql:=zj hk (λi y hi hy=>jJ (hok i y hi hy));have hxs:=bD (jJ a1);have hnew: ∀i y,i<k+1->sh[i]? =some y->cC ms.length y=true:=λi y hi hy=>by
  rcases xU.1 hi with h1|rfl
  ·exact hok i y h1 hy
  ·rw [hx] at hy;cases hy;exact a1
 rw [AG hx];generalize dS [] sh k=q at*;obtain ⟨ow,ss,rt,bl⟩:=x;dsimp only at hxs ⊢;simp only [aW.l] at hr hk125;dsimp only at g1;have hpos:0<ss.length:=by omega
 have c0:decide (ss.length=0)=false:=bw (by omega)
 have gm:decide (8*(q.length+ss.length)<=az)=true:=af (by simp only [az];omega)
 have zR:(rows aq q).length=q.length*1:=aU bR;have ho:aL (rows aq ss)=true:=dr (λ_=>rfl) ss;have zs:(rows aq ss).length=ss.length*1:=aU bR;have ct:List.take (ss.length*1) (List.drop 0 (rows aq ss))=rows aq ss:=by rw [dk,<-zs,jh]
 have pk:=Is q;have pk':=Is (q++ss);rw [EY hpos] at pk' ⊢;have hsk:sh.length-(k+1)<sh.length-k:=by omega
 simp (maxSteps:=400000) only [go_sem,c1,c2,hr,g1,hk125,hw,ct,zs,c0,gm,zR,ho,pk,pk',hsk,hlt,AF,AV.aj,ab,aP,bp.aQ,aS,AV.aQ,b1,b2,b3,q1,q2,q3,iB,iR,kA,simprocAttr];exact ⟨hlt,hnew⟩
theorem aaT (r:Rm) (hr:r.is=true) (hnl:r.nl=true) (hg:aX r=true) (ht0:r.tp=[]):bG ay 112 [.agg r.a] [] 0 (.b true) [] 0:=by
 have h0:=hg;simp only [aX,fB,ak,bg] at h0;obtain ⟨hm,⟨hs6,hs,hq⟩,-⟩:=h0;have h6:=wK hm;have c3:decide ((r.tp.length:Int)>30)=false:=by rw [ht0];rfl
 have hlm:=Hx r;have hls:=Ih r;have hso:r.sh.all aW.ok=true:=by
  simp only [Rm.is,ak] at hr;exact hr.2.2.1
 have hlen:r.sh.all (cC r.ms.length)=true->(dS [] r.sh r.sh.length).length<=3*r.sh.length:=λh=>zj (bx _) λi x _ hx=>jJ (du.1 h x (bJ hx));have b1:=λj=>fT j r.ms;have b2:=λj=>cG j r.sh;have b3:=λj=>fb j r.tp;have q1:=λg=>jI g r.ms;have q2:=λg=>dT g r.sh;have q3:=λg=>jC g r.tp;refine ew uW Tryz.func112 SM ?_
 have c1:decide ((r.ms.length:Int)>6)=false:=bw (by omega)
 have c2:decide ((r.sh.length:Int)>6)=false:=bw (by omega)
 have hlm:= @hlm h6 hnl;have hls:= @hls h6 hs6 hso;clear hso hr hnl hg;have c4:((r.tp.length:Nat):Int)=0:=by rw [ht0];rfl
 have hql:=hlen hs;generalize dS [] r.sh r.sh.length=Q at*;simp only [Rm.a] at*;generalize rows Mb.l r.ms=A,rows aW.l r.sh=B,rows Tp.l r.tp=C at*;dsimp only [i112,vy];dsimp only [i112] at hlm hls;simp (maxSteps:=400000) only [go_sem,c1,c2,c3,simprocAttr];refine hlm ?_ ?_ (λhe=>by rw [hm] at he;cases he) (λ_ e' he1=> ?_)
 ·simp (maxSteps:=400000) only [go_sem,AV.aj,aP,AV.aQ,simprocAttr]
 ·simp (maxSteps:=400000) only [go_sem,AV.aj,ab,b1,b2,b3,aG,bp.aQ,aS,AV.aQ,q1,q2,q3,simprocAttr]
 simp (maxSteps:=400000) only [go_sem,he1,simprocAttr];refine hls ?_ ?_ (λhe=>by rw [hs] at he;cases he) (λ_ e' he1 he5=> ?_)
 ·simp (maxSteps:=400000) only [go_sem,he1,AV.aj,aP,AV.aQ,simprocAttr];exact rfl
 ·have e2:(gQ aq 1 []).h 1=[]:=rfl;rw [e2];simp (maxSteps:=400000) only [go_sem,AV.aj,ab,b1,b2,b3,aG,bp.aQ,aS,AV.aQ,q1,q2,q3,simprocAttr]
 have hk: ∀(h:Hp) n,0<Q.length->aa h 1=some {cells:=rows aq Q,gr:=some 1}->cu Bs [.sg 1 0 Q.length] h n=some (true,{v:= .b (!eQ Q),n,rd:=[1]}):=λh n _ h1=>by
  refine jM (argsF:=[.fz (rows aq Q) Q.length]) ?_ ?_ rfl
  ·simp only [bn,bI,ue 5 h1,aC];rfl
  ·simp only [Bs,eD,aC,af (show Q.length<=9223372036854775807 by omega)]
 have hk0: ∀(h:Hp) n,cu Bs [.ns] h n=some (true,{v:= .b false,n,rd:=[]}):=λh n=>jM (argsF:=[.fz [] 0]) (by simp only [bn,bI,BX,aC,dh]) rfl rfl
 by_cases hq0:Q.length=0
 ·have:Q=[]:=fq hq0;subst this;have e1:(gQ aq 1 []).v 1= .ns:=rfl;have e2:(gQ aq 1 []).h 1=[]:=rfl;rw [e1] at he5;rw [e2];simp (maxSteps:=400000) only [go_sem,he1,he5,hk0,List.nil_append,simprocAttr];refine Loop.rounds (F:=rk) 1 uW mo ?_;dsimp only [rk,vy,i112];simp (maxSteps:=400000) only [go_sem,he1,c4,simprocAttr];exact Ends.aw rfl rfl
 ·have e1:(gQ aq 1 Q).v 1= .sg 1 0 Q.length:=by rw [pW (by omega)];rfl
  have e2:(gQ aq 1 Q).h 1=[(1,{cells:=rows aq Q,gr:=some 1})]:=by rw [pW (by omega)];rfl
  rw [e1] at he5;rw [e2];have hk:=λh n=>hk h n (by omega)
  rw [hq] at hk;simp (maxSteps:=400000) only [go_sem,he1,he5,hk,ez,List.nil_append,simprocAttr];refine Loop.rounds (F:=rk) 1 uW mo ?_;dsimp only [rk,vy,i112];simp (maxSteps:=400000) only [go_sem,he1,c4,simprocAttr];exact Ends.aw rfl rfl
def vO:Ct
 |[.agg c],_,n=>(qX c).bind λr=>some (r.is&&(r.nl&&(aX r&&decide (r.tp.length=0))),{v:= .b true,n})
 |_,_,_=>none
theorem T0:ax ay 112 vO:=λargs h n c E hc ht=>by
 unfold vO at hc;split at hc
 ·simp only [av] at hc;obtain ⟨r,hr,he⟩:=hc;cases he;rw [dW hr];simp only [ak,bg] at ht;exact aA.pure (by kernel_rfl) (by simp only [ab,AV.aj,Rm.aj,aG]) rfl (aaT r ht.1 ht.2.1 ht.2.2.1 (fq ht.2.2.2)) _ _
 ·cases hc
theorem Rz (l:List Mb) (s:List UInt8):wO l s<0↔ ∀m∈l,m.nm≠s:=by
 unfold wO;rcases lC (p:=λx:Mb=>x.nm==s) l 0 (by omega) with e|⟨j,hj,e,hn,x,hx,hp⟩
 ·refine ⟨λ_ m hm=> ?_,λ_=>by omega⟩
  have:=wZ l 0 (by omega) e m hm
  grind
 grind
theorem ael (r:Rm) (n:Nat):zP r true false false n=(gQ Mb.l 2 r.ms).h n:=by simp [zP,mG,sH,tH]
theorem aaM (r:Rm) (n:Nat):zP r false true false n=(gQ aW.l 4 r.sh).h (n+1):=by simp [zP,mG,sH,tH]
/-! Check -/
noncomputable def Nw:List (Nat×Ct):=[(112,vO),(124,AR),(118,vv true false false)]
theorem S7:Sound ay (cj Nw):=Sound.cons T0 (Sound.cons aaD (Sound.cons (Ta _ _ _) Sound.nil))
noncomputable abbrev aac:Fx:=⟨ay,cj Nw,i51.ct,i51.N,0⟩
theorem aiS (r:Rm) (s:List UInt8) (hr:r.is=true) (hnl:r.nl=true) (hs:s.length<=9223372036854775807) (hg:aX r=true) (ht0:r.tp=[]) (hE0:uy r s=0):bG ay 51 [.agg r.a,.s s] [] 0 (k9 (gY r s).1 (jQ (gY r s).1.ms.length) (gY r s).2) [] 0:=by
 have hS:gY r s=(⟨r.ms++[⟨s,0⟩],r.sh,r.tp⟩,0):=by rw [gY,hE0];rfl
 rw [hS];obtain ⟨c1,hat,h6⟩:fZ s=true/\wO r.ms s<0/\r.ms.length<6:=by
  simp only [uy,hg,cM] at hE0;split at hE0
  ·rename_i h1;simp only [ak,bg] at h1;split at hE0
   ·exact ⟨h1.1,h1.2,by assumption⟩
   ·cases hE0
  ·cases hE0
 have hk112: ∀(h:Hp) n,vO [.agg r.a] h n=some (true,{v:= .b true,n}):=λh n=>by
  simp only [vO,dH,aC,hr,hnl,hg,ht0,fP,qj,aG]
 have hk124: ∀(h:Hp) n,AR [.s s] h n=some (true,{v:= .b (fZ s),n}):=λh n=>by
  grind [AR,af]
 have a3:r.a.length=3:=rfl;have ad:List.take 3 (List.drop 0 r.a)=r.a:=rfl;have r0:r.a[0]? =some (.fz (rows Mb.l r.ms) r.ms.length):=rfl;have ae:List.drop 3 r.a=[]:=rfl;have hrB: ∀j,ab j r.a=true:=λj=>Rm.aj j r;have hM0: ∀(k:Nat) x,r.ms[k]? =some x->(rows Mb.l r.ms)[k*2]? =some (.s x.nm):=λk x hk=>by
  have:=bM (f:=Mb.l) (z:=2) (j:=0) (v:= .s x.nm) Mb.len hk rfl;omega
 refine bG.dy S7 mo Tryz.func51 VY (by simp [i51]) (aO ?_)
 have hl:=(ek hg).1;have hk118: ∀(h:Hp) n,vv true false false [.agg r.a] h n=some (true,{v:= .agg [(gQ Mb.l 2 r.ms).v n,.fz (rows aW.l r.sh) r.sh.length,.fz (rows Tp.l r.tp) r.tp.length],n:=n+3,nw:=(gQ Mb.l 2 r.ms).h n}):=λh n=>by
  rw [Ce hg ht0,ael];rfl
 rw [c1] at hk124;have pk:=V8 r.ms;have pk':=V8 (r.ms++[⟨s,0⟩]);have qeq:gQ Mb.l 2 (r.ms++[⟨s,0⟩])=gS Mb.l 2 r.ms [.s s,.i .i64 0]:=ji;rw [qeq] at pk';have zR:(rows Mb.l r.ms).length=r.ms.length*2:=aU Mb.len;have gm:decide (24*(r.ms.length+1)<=az)=true:=af (by grind [az])
 have sB: ∀j,ab j (rows aW.l r.sh)=true:=λj=>cG j r.sh;have tB: ∀j,ab j (rows Tp.l r.tp)=true:=λj=>fb j r.tp;have mB: ∀j,ab j (rows Mb.l (r.ms++[⟨s,0⟩]))=true:=λj=>fT j _;generalize r.a=RA at*;dsimp only [i51,Nw];simp (maxSteps:=400000) only [go_sem,hk112,hk124,a3,ad,simprocAttr];refine Loop.dV (F:=aac) S7 mo r.ms.length (λk=> ∀(i:Nat) m,i<k->r.ms[i]? =some m->m.nm≠s) (λk=>[(1,.s s),(2,.p 0 0),(4,.p 1 0),(7,.i .i64 (k:Int))]) (λk=>[(0,{cells:=RA}),(1,{cells:=[.ns,.ns,.ns]})]) 2 (cr _) (λi m hi=>absurd hi (by omega)) ?_ ?_ (λk hk hok=> ?_)
 ·simp (maxSteps:=400000) only [go_sem,AV.aj,aP,simprocAttr]
 ·simp (maxSteps:=400000) only [go_sem,AV.aj,ab,hrB,aG,simprocAttr]
 dsimp only [aac,Nw,i51];by_cases hlt:k<r.ms.length
 ·have d1:decide ((k:Int)<(r.ms.length:Int))=true:=af (by omega)
  have d2:decide (0<=(k:Int)/\(k:Int)<(r.ms.length:Int))=true:=af (by omega)
  have hw:IntKind.i64.wrap ((k:Int)+1)=((k+1:Nat):Int):=by grind [aN]
  obtain ⟨x,hx⟩: ∃x,r.ms[k]? =some x:=⟨_,bj hlt⟩;have g0:=hM0 k x hx;have hxs:x.nm≠s:=(Rz _ _).1 hat x (bJ hx);have c2:(x.nm==s)=false:=by grind
  simp (maxSteps:=400000) only [go_sem,d1,d2,r0,g0,c2,hw,AV.aj,ab,aP,hrB,aG,e9,simprocAttr]
  grind
 have d1:decide ((k:Int)<(r.ms.length:Int))=false:=bw (by omega)
 have hkl:k=r.ms.length:=by omega
 have d3:((r.ms.length:Int)==6)=false:=by simp;omega
 simp (maxSteps:=400000) only [go_sem,d1,d3,r0,a3,ad,ae,hk118,gm,zR,oD,List.nil_append,simprocAttr];have hix:IntKind.i64.wrap (((gS Mb.l 2 r.ms [.s s,.i .i64 0]).len:Int)-1)=jQ (r.ms++[(⟨s,0⟩:Mb)]).length:=by
  show IntKind.i64.wrap (((r.ms.length+1:Nat):Int)-1)=_
  grind [aN,jQ,cm,List.length_cons,fP]
 rw [hix,<-qeq];refine aZ.Cw (f:=Mb.l) (z:=2) (l:=r.ms++[(⟨s,0⟩:Mb)]) (b:=6) (v':=k9 ⟨r.ms++[(⟨s,0⟩:Mb)],r.sh,r.tp⟩ (jQ (r.ms++[(⟨s,0⟩:Mb)]).length) 0) (h':=[]) ?_ (bW.bz ⟨bW.agg ⟨bW.hit,bW.refl,bW.refl,trivial⟩,bW.refl,bW.refl,trivial⟩) trivial (aZ.ends (Ends.aw (ny _ _ _) rfl));simp [fi]
def JG:Ct
 |[.agg c,.s s],_,n=>(qX c).bind λr=>some (r.is&&(r.nl&&(decide (s.length<=9223372036854775807)&&(aX r&&(decide (r.tp.length=0)&&decide (uy r s=0))))),{v:=k9 (gY r s).1 (jQ (gY r s).1.ms.length) (gY r s).2,n})
 |_,_,_=>none
theorem aie:ax ay 51 JG:=λargs h n c E hc ht=>by
 unfold JG at hc;split at hc
 ·simp only [av] at hc;obtain ⟨r,hr,he⟩:=hc;cases he;rw [dW hr];simp only [ak,bg] at ht;exact aA.pure (by kernel_rfl) (by simp only [ab,AV.aj,Rm.aj,aG]) (ny _ _ _) (aiS r _ ht.1 ht.2.1 ht.2.2.1 ht.2.2.2.1 (fq ht.2.2.2.2.1) ht.2.2.2.2.2) _ _
 ·cases hc
noncomputable abbrev LG:bb:=((((bb.dY aef).seq (bb.cond (cq.t 34) ((bb.dY ad9).seq bb.ret) bb.skip)).seq
 ((bb.dY adl).seq
   (((bb.dY acf).seq (bb.block 0 DJ.loop)).seq
     (((bb.dY VC).seq (bb.cond (cq.t 55) ((bb.dY XY).seq bb.ret) bb.skip)).seq
       (((bb.dY YY).seq (bb.cond (cq.t 60) ((bb.dY YA).seq bb.ret) bb.skip)).seq
         ((bb.dY Yr).seq ((bb.dY Yx).seq ((bb.jv WZ).seq bb.ret)))))))))
noncomputable def wc:List (Nat×Ct):=[(112,vO),(125,Df),(126,cu Bs),(118,vv false true false)]
theorem rp:Sound ay (cj wc):=Sound.cons T0 (Sound.cons ad4 (Sound.cons adn.nv (Sound.cons (Ta _ _ _) Sound.nil)))
noncomputable abbrev kv:Fx:=⟨ay,cj wc,[18,34,43,55,60],75,0⟩
theorem MT (sh:List aW) (l:List Int) (hl:1<=l.length/\l.length<=3) (hn:sh.length<=6) (hs:sh.all vZ=true) (rc B1 B2:List AV) (hrc:ab 0 rc=true) (hb1:ab 0 B1=true) (hb2:ab 0 B2=true) (hr1:rc[1]? =some (.fz (rows aW.l sh) sh.length)) {K:bX} {e:Env} {h:Hp} {n:Nat}
 (he:jz 4 [(3,4)] e [(5,.p 0 0),(10,.p 1 0),(13,.p 2 0),(14,(gQ aq 1 l).v 3),(15,.i .i64 0)])
 (hh:iW 4 [(3,4)] h ((0,{cells:=rc})::(1,{cells:=B1})::(2,{cells:=B2})::(gQ aq 1 l).h 3))
 (hK: ∀e',bC e' 5=some (.p 0 0)->bC e' 10=some (.p 1 0)->bC e' 13=some (.p 2 0)->bC e' 14=some ((gQ aq 1 (dS l sh sh.length)).v 3)->K (.exit 0) e' ((0,{cells:=rc})::(1,{cells:=B1})::(2,{cells:=B2})::(gQ aq 1 (dS l sh sh.length)).h 3) 4):
 Ab.Loop ay [18,34,43,55,60] 75 0 DJ K e h n:=by
 have hcl:=nN (l:=l) hs;have hsB: ∀j,ab j (rows aW.l sh)=true:=λj=>cG j sh;have hsR: ∀g,aS g (rows aW.l sh)=rows aW.l sh:=λg=>dT g sh;have hS1: ∀(k:Nat) x,sh[k]? =some x->(rows aW.l sh)[k*4+1]? =some (.fz (rows aq x.ss) x.ss.length):=λk x hk=>bM (f:=aW.l) (z:=4) (j:=1) (v:= .fz (rows aq x.ss) x.ss.length) aW.len hk rfl;have q1: ∀j,ab j rc=true:=λj=>au _ hrc;have q2: ∀j,ab j B1=true:=λj=>au _ hb1;have q3: ∀j,ab j B2=true:=λj=>au _ hb2;have p1: ∀g,aS g rc=rc:=λg=>aJ _ hrc;have p2: ∀g,aS g B1=B1:=λg=>aJ _ hb1;have p3: ∀g,aS g B2=B2:=λg=>aJ _ hb2;rw [<-Bm l sh] at he hh;refine Loop.nM (F:=kv) rp mo (X:=Nat) (λk=>k<=sh.length) (λk=>sh.length-k)
  (λk=>[(5,.p 0 0),(10,.p 1 0),(13,.p 2 0),(14,(gQ aq 1 (dS l sh k)).v 3),(15,.i .i64 (k:Int))])
  (λk=>(0,{cells:=rc})::(1,{cells:=B1})::(2,{cells:=B2})::(gQ aq 1 (dS l sh k)).h 3) 4 0 (λk=>k+1) [(3,4)] (λ_=>[(3,4)]) (by decide) (by decide) (λk=>by decide) (cr _) he hh (λk hk=> ?_)
 have hk:k<=sh.length:=hk;dsimp only [kv,wc,DJ];by_cases hlt:k<sh.length
 rotate_left
 ·have c1:decide ((k:Int)<(sh.length:Int))=false:=bw (by omega)
  obtain rfl:k=sh.length:=by omega
  simp (maxSteps:=400000) only [go_sem,hr1,simprocAttr];exact hK _ rfl rfl rfl rfl
 have c1:decide ((k:Int)<(sh.length:Int))=true:=af (by omega)
 have c2:decide (0<=(k:Int)/\(k:Int)<(sh.length:Int))=true:=af (by omega)
 have hw:IntKind.i64.wrap ((k:Int)+1)=((k+1:Nat):Int):=by grind [aN]
 obtain ⟨x,hx⟩: ∃x,sh[k]? =some x:=⟨_,bj hlt⟩;have g1:=hS1 k x hx;have hxs:=bD (du.1 hs x (bJ hx));rw [AG hx];have hql:=hcl k hk;generalize dS l sh k=q at*;obtain ⟨ow,ss,rt,bl⟩:=x;dsimp only at hxs g1 ⊢;have hpos:0<ss.length:=by omega
 have c0:decide (ss.length=0)=false:=bw (by omega)
 have gm:decide (8*(q.length+ss.length)<=az)=true:=af (by grind [az])
 have zR:(rows aq q).length=q.length*1:=aU bR;have ho:aL (rows aq ss)=true:=dr (λ_=>rfl) ss;have zs:(rows aq ss).length=ss.length*1:=aU bR;have ct:List.take (ss.length*1) (List.drop 0 (rows aq ss))=rows aq ss:=by grind
 have pk:=Is q;have pk':=Is (q++ss);rw [EY hpos] at pk' ⊢;have hsk:sh.length-(k+1)<sh.length-k:=by omega
 simp (maxSteps:=400000) only [go_sem,c1,c2,hr1,g1,hw,ct,zs,c0,gm,zR,ho,pk',hsk,AF,AV.aj,aP,bp.aQ,AV.aQ,q1,q2,q3,p1,p2,p3,simprocAttr];exact hlt
theorem Ka {r:Rm} {s:aW} (hg:aX r=true) (h:tv r s=0):cC r.ms.length s=true/\eQ (dS s.ss r.sh r.sh.length)=true/\r.sh.length<6:=by
 simp only [tv,hg,j7,cM] at h;split at h
 ·rename_i h1;simp only [ak] at h1;split at h
  ·exact ⟨h1.1,h1.2,by assumption⟩
  ·cases h
 ·cases h
theorem Nq (r:Rm) (s:aW) (hg:aX r=true) (hs:s.ok=true) (ht0:r.tp=[]) (hE0:tv r s=0):
 cU kv LG (re [.c 10 true 3,.t 11,.t 12] λv h' n'=>aZ 0 v h' n' (k9 (gJ r s).1 (jQ (gJ r s).1.sh.length) (gJ r s).2) [] 0)
  [(5,.p 0 0),(10,.p 1 0),(13,.p 2 0),(2,.fz (rows aq s.ss) s.ss.length)] [(2,{cells:=s.l}),(0,{cells:=r.a}),(1,{cells:=[.ns,.ns,.ns]})] 3:=by
 have hl:=ek hg;have hS:gJ r s=(⟨r.ms,r.sh++[s],r.tp⟩,0):=by rw [gJ,hE0];rfl
 rw [hS];obtain ⟨hsb,hq,h6⟩:=Ka hg hE0;have hk125: ∀(h:Hp) n,Df [.agg s.l,.i .i64 (r.ms.length:Int)] h n=some (true,{v:= .b (cC r.ms.length s),n}):=λh n=>by
  simp only [Df,ku,aC,hs,af (show (0:Int)<=(r.ms.length:Int)/\(r.ms.length:Int)<=6 by omega),aG,j3]
 have a3:r.a.length=3:=rfl;have ad:List.take 3 (List.drop 0 r.a)=r.a:=rfl;have r0:r.a[0]? =some (.fz (rows Mb.l r.ms) r.ms.length):=rfl;have r1:r.a[1]? =some (.fz (rows aW.l r.sh) r.sh.length):=rfl;have ae:List.drop 3 r.a=[]:=rfl;have hrB: ∀j,ab j r.a=true:=λj=>Rm.aj j r;have hrb:=Rm.aj 0 r;have hk118: ∀(h:Hp) n,vv false true false [.agg r.a] h n=some (true,{v:= .agg [.fz (rows Mb.l r.ms) r.ms.length,(gQ aW.l 4 r.sh).v (n+1),.fz (rows Tp.l r.tp) r.tp.length],n:=n+3,nw:=(gQ aW.l 4 r.sh).h (n+1)}):=λh n=>by
  rw [Ce hg ht0,aaM];rfl
 have s4:s.l.length=4:=rfl;have sd:List.take 4 (List.drop 0 s.l)=s.l:=rfl;have so:aL s.l=true:=rfl;have sB: ∀j,ab j s.l=true:=λj=>au _ (aW.aj s);have sR: ∀g,aS g s.l=s.l:=λg=>aJ _ (aW.aj s);have hsl:r.sh.all vZ=true:=by
  simp only [aX,fB,ak] at hg
  grind [du,jJ]
 refine cU.part (F:=kv) rp mo ?_;dsimp only [kv,wc];rw [hsb] at hk125;have hss:=bD (jJ hsb);have hl53:= @MT r.sh s.ss ⟨by omega,by omega⟩ hl.2.1 hsl r.a [.ns,.ns,.ns] s.l hrb rfl (aW.aj s) r1
 have gc:gQ aq 1 s.ss= .sg {cells:=rows aq s.ss,gr:=some 1} 0 s.ss.length:=pW (by omega)
 rw [gc] at hl53;have hcl:=nN (l:=s.ss) hsl r.sh.length (bx _);have hcp:0<(dS s.ss r.sh r.sh.length).length:=by
  grind [dS,cm]
 generalize dS s.ss r.sh r.sh.length=Q at*;have gq:gQ aq 1 Q= .sg {cells:=rows aq Q,gr:=some 1} 0 Q.length:=pW (by omega)
 rw [gq] at hl53;have hk126: ∀(h:Hp) n,aa h 3=some {cells:=rows aq Q,gr:=some 1}->cu Bs [.sg 3 0 Q.length] h n=some (true,{v:= .b (!eQ Q),n,rd:=[3]}):=λh n h1=>by
  refine jM (argsF:=[.fz (rows aq Q) Q.length]) ?_ ?_ rfl
  ·grind [bn,bI,ue,aC]
  ·simp only [Bs,eD,aC,af (show Q.length<=9223372036854775807 by omega)]
 have e1:decide (s.ss.length=0)=false:=bw (by omega)
 have e2:decide (s.ss.length<=0)=false:=bw (by omega)
 have z1:(rows aq s.ss).length=s.ss.length*1:=aU bR;have o1:aL (rows aq s.ss)=true:=dr (λ_=>rfl) s.ss;have t1:List.take (s.ss.length*1) (rows aq s.ss)=rows aq s.ss:=dN (by omega)
 have g1:decide (8*s.ss.length<=az)=true:=af (by grind [az])
 have bS:=λj=>iB j s.ss;have rS:=λg=>iR g s.ss;have bQ:=λj=>iB j Q;have zR:(rows aW.l r.sh).length=r.sh.length*4:=aU aW.len;have gm:decide (64*(r.sh.length+1)<=az)=true:=af (by grind [az])
 have pk:=An r.sh;have pk':=An (r.sh++[s]);have qeq:gQ aW.l 4 (r.sh++[s])=gS aW.l 4 r.sh s.l:=ji;rw [qeq] at pk';have hrR: ∀g,aS g r.a=r.a:=λg=>aJ _ hrb;generalize r.a=RA,s.l=SL at*;simp (maxSteps:=400000) only [go_sem,hk125,r0,s4,sd,simprocAttr];refine cU.part (F:=kv) rp mo ?_;dsimp only [kv,wc];simp (maxSteps:=400000) only [go_sem,e1,e2,z1,t1,g1,dk,simprocAttr];refine cU.part (F:=kv) rp mo ?_;dsimp only [kv,wc];simp (maxSteps:=400000) only [go_sem,simprocAttr];refine hl53 ?_ ?_ (λe' h5 h10 h13 h14=> ?_)
 ·simp (maxSteps:=400000) only [go_sem,AV.aj,aP,AV.aQ,simprocAttr]
 ·simp (maxSteps:=400000) only [go_sem,AV.aj,ab,hrB,sB,bS,bp.aQ,aS,AV.aQ,hrR,sR,rS,simprocAttr]
 simp only [go_sem];refine cU.part (F:=kv) rp mo ?_;dsimp only [kv,wc];rw [hq] at hk126;simp (maxSteps:=400000) only [go_sem,h14,hk126,simprocAttr];refine cU.part (F:=kv) rp mo ?_;dsimp only [kv,wc];have d3:((r.sh.length:Int)==6)=false:=by simp;omega
 simp (maxSteps:=400000) only [go_sem,h5,r1,d3,simprocAttr];refine cU.run (F:=kv) rp mo ?_;dsimp only [kv,wc];simp (maxSteps:=400000) only [go_sem,h5,h10,h13,a3,ad,ae,hk118,gm,zR,s4,sd,so,oD,List.nil_append,simprocAttr];have hix:IntKind.i64.wrap (((gS aW.l 4 r.sh SL).len:Int)-1)=jQ (r.sh++[s]).length:=by
  show IntKind.i64.wrap (((r.sh.length+1:Nat):Int)-1)=_;rw [aN (by omega) (by omega)]
  simp [jQ,cm,List.length_cons,fP]
 rw [hix,<-qeq];refine aZ.Cw (f:=aW.l) (z:=4) (l:=r.sh++[s]) (b:=8) (v':=k9 ⟨r.ms,r.sh++[s],r.tp⟩ (jQ (r.sh++[s]).length) 0) (h':=[]) ?_ (bW.bz ⟨bW.agg ⟨bW.refl,bW.hit,bW.refl,trivial⟩,bW.refl,bW.refl,trivial⟩) trivial (aZ.ends (Ends.aw (ny _ _ _) rfl));simp [fi]
theorem W3 {r:Rm} {s:aW} (hg:aX r=true) (hs:s.ok=true) (ht0:r.tp=[]) (hE0:tv r s=0) {e:Env} {h:Hp} {n b1 b2 b3:Nat} {x1 x2:AV} {k1 k2:bp} (hrn:sE [(2,b3)] 0 3=true) (hd:b1≠b2/\b3≠b1/\b3≠b2/\0≠b1/\1≠b1/\0≠b2/\1≠b2)
 (e5:bC e 5=some (.p 0 0)) (e10:bC e 10=some (.p 1 0)) (e13:bC e 13=some (.p b3 0)) (e2:bC e 2=some (.fz (rows aq s.ss) s.ss.length))
 (h0:aa h 0=some {cells:=r.a}) (h1:aa h 1=some {cells:=[.ns,.ns,.ns]}) (h3:aa h b3=some {cells:=[.i .i64 s.ow,x1,x2,.i .u64 s.bl]})
 (hb1:aa h b1=some k1) (hb2:aa h b2=some k2) (hk1:k1.ro=false/\k1.mp=none/\k1.cells=rows aq s.ss) (hk2:k2.ro=false/\k2.mp=none/\k2.cells=rows aq s.rt)
 (hx1:(x1= .sl b1 0 s.ss.length 0/\s.ss.length=0)\/x1= .sg b1 0 s.ss.length) (hx2:(x2= .sl b2 0 s.rt.length 0/\s.rt.length=0)\/x2= .sg b2 0 s.rt.length):
 cU kv LG (re [.c 10 true 3,.t 11,.t 12] λv h' n'=>aZ 0 v h' n' (k9 (gJ r s).1 (jQ (gJ r s).1.sh.length) (gJ r s).2) [] 0) e h n:=by
 obtain ⟨d1,d2,d3,d4,d5,d6,d7⟩:=hd;refine cU.nA (F:=kv) (b:=b1) (x:=x1) (o:=0) (m:=s.ss.length) (k:=k1) (cs:=rows aq s.ss) (e2:=[(5,.p 0 0),(10,.p 1 0),(13,.p b3 0),(2,.fz (rows aq s.ss) s.ss.length)]) (h2:=[(b3,{cells:=[.i .i64 s.ow,.fz (rows aq s.ss) s.ss.length,x2,.i .u64 s.bl]}),(0,{cells:=r.a}),(1,{cells:=[.ns,.ns,.ns]}),(b2,k2)])
  ?_ hb1 hk1.1 (hx1.imp (λh=>⟨0,h.1,by omega⟩) id) (.inl (by grind)) ⟨⟨_,e5,bW.refl⟩,⟨_,e10,bW.refl⟩,⟨_,e13,bW.refl⟩,⟨_,e2,bW.refl⟩,trivial⟩ ⟨⟨d2,_,h3,rfl,rfl,rfl,bW.refl,bW.hit,bW.refl,bW.refl,trivial⟩,⟨d4,_,h0,rfl,rfl,rfl,dZ.refl⟩,⟨d5,_,h1,rfl,rfl,rfl,dZ.refl⟩,⟨d1.symm,_,hb2,rfl,rfl,rfl,dZ.refl⟩,trivial⟩ hk1.2.1
 have g3: ∀(l:Hp),aa ((b3,{cells:=[.i .i64 s.ow,.fz (rows aq s.ss) s.ss.length,x2,.i .u64 s.bl]})::l) b3=some {cells:=[.i .i64 s.ow,.fz (rows aq s.ss) s.ss.length,x2,.i .u64 s.bl]}:=λl=>by simp [aa]
 have n3:b3≠0/\b3≠1:=by
  grind [Rm.a]
 refine cU.nA (F:=kv) (b:=b2) (x:=x2) (o:=0) (m:=s.rt.length) (k:=k2) (cs:=rows aq s.rt) (e2:=[(5,.p 0 0),(10,.p 1 0),(13,.p b3 0),(2,.fz (rows aq s.ss) s.ss.length)]) (h2:=[(b3,{cells:=s.l}),(0,{cells:=r.a}),(1,{cells:=[.ns,.ns,.ns]})])
  ?_ (by simp_all [aa,bO,s5]) hk2.1 (hx2.imp (λh=>⟨0,h.1,by omega⟩) id) (.inl (by grind)) ⟨⟨_,rfl,bW.refl⟩,⟨_,rfl,bW.refl⟩,⟨_,rfl,bW.refl⟩,⟨_,rfl,bW.refl⟩,trivial⟩ ⟨⟨d3,_,g3 _,rfl,rfl,rfl,bW.refl,bW.refl,bW.hit,bW.refl,trivial⟩,⟨d6,{cells:=r.a},by simp [aa,bO (s5 n3.1)],rfl,rfl,rfl,dZ.refl⟩,⟨d7,{cells:=[.ns,.ns,.ns]},by simp_all [aa,bO,s5],rfl,rfl,rfl,dZ.refl⟩,trivial⟩ hk2.2.1
 have hrR: ∀g,aS g r.a=r.a:=λg=>aJ _ (Rm.aj 0 r);have rS:=λg=>iR g s.ss;have rT:=λg=>iR g s.rt;have hrB: ∀j,ab j r.a=true:=λj=>Rm.aj j r;have sB: ∀j,ab j s.l=true:=λj=>au _ (aW.aj s);have sR: ∀g,aS g s.l=s.l:=λg=>aJ _ (aW.aj s);have bS:=λj=>iB j s.ss;refine cU.aQ (F:=kv) [(2,b3)] (Nq r s hg hs ht0 hE0) (by decide) hrn ?_ ?_
 ·simp (maxSteps:=400000) only [go_sem,AV.aj,bS,aP,AV.aQ,rS,simprocAttr]
 ·simp (maxSteps:=400000) only [go_sem,AV.aj,ab,hrB,sB,bp.aQ,aS,AV.aQ,hrR,sR,simprocAttr]
  grind
theorem aiM (r:Rm) (s:aW) (hr:r.is=true) (hnl:r.nl=true) (hs:s.ok=true) (hl1:s.ss.length<=1000) (hl2:s.rt.length<=1000) (hg:aX r=true) (ht0:r.tp=[]) (hE0:tv r s=0):bG ay 53 [.agg r.a,.i .i64 s.ow,.fz (rows aq s.ss) s.ss.length,.fz (rows aq s.rt) s.rt.length,.i .u64 s.bl] [] 0 (k9 (gJ r s).1 (jQ (gJ r s).1.sh.length) (gJ r s).2) [] 0:=by
 have hk112: ∀(h:Hp) n,vO [.agg r.a] h n=some (true,{v:= .b true,n}):=λh n=>by
  simp only [vO,dH,aC,hr,hnl,hg,ht0,fP,qj,aG]
 have a3:r.a.length=3:=rfl;have ad:List.take 3 (List.drop 0 r.a)=r.a:=rfl;have r0:r.a[0]? =some (.fz (rows Mb.l r.ms) r.ms.length):=rfl;have r1:r.a[1]? =some (.fz (rows aW.l r.sh) r.sh.length):=rfl;have ae:List.drop 3 r.a=[]:=rfl;have hrB: ∀j,ab j r.a=true:=λj=>Rm.aj j r;refine bG.qk (cx:=cj wc) Tryz.func53 Wd (by simp [i53]) ?_
 dsimp only [i53];refine cU.part (F:=kv) rp mo ?_;dsimp only [kv];simp (maxSteps:=400000) only [go_sem,simprocAttr];refine cU.part (F:=kv) rp mo ?_;dsimp only [kv,wc];generalize hRA:r.a=RA at*;simp (maxSteps:=400000) only [go_sem,hk112,a3,ad,simprocAttr];refine cU.part (F:=kv) rp mo ?_;dsimp only [kv,wc];have z1:(rows aq s.ss).length=s.ss.length*1:=aU bR;have o1:aL (rows aq s.ss)=true:=dr (λ_=>rfl) s.ss;have t1:List.take (s.ss.length*1) (rows aq s.ss)=rows aq s.ss:=dN (by omega)
 have g1:decide (8*s.ss.length<=az)=true:=af (by grind [az])
 have z2:(rows aq s.rt).length=s.rt.length*1:=aU bR;have o2:aL (rows aq s.rt)=true:=dr (λ_=>rfl) s.rt;have t2:List.take (s.rt.length*1) (rows aq s.rt)=rows aq s.rt:=dN (by omega)
 have g2:decide (8*s.rt.length<=az)=true:=af (by grind [az])
 have z0: ∀l:List Int,l.length=0->rows aq l=[]:=λl h=>by rw [fq h];rfl
 subst hRA;have fin:= @W3 r s hg hs ht0 hE0;generalize hra:r.a=RA at*;have hsb:=(Ka hg hE0).1;have hss:=bD (jJ hsb);have hrt:s.rt.length=s.ss.length:=by
  simp only [cC,ak,ik] at hsb;omega
 have h1:s.ss.length≠0:=by omega
 have h2:s.rt.length≠0:=by omega
 have e1:decide (s.ss.length=0)=false:=bw h1;have e2:decide (s.ss.length<=0)=false:=bw (by omega)
 have e3:decide (s.rt.length=0)=false:=bw h2;have e4:decide (s.rt.length<=0)=false:=bw (by omega)
 simp (maxSteps:=400000) only [go_sem,e1,e2,e3,e4,z1,t1,g1,z2,t2,g2,dk,simprocAttr];exact fin (b1:=3) (b2:=5) (b3:=6) (by decide) (by decide) rfl rfl rfl rfl rfl rfl rfl rfl rfl ⟨rfl,rfl,rfl⟩ ⟨rfl,rfl,rfl⟩ (.inr rfl) (.inr rfl)
def B3:Ct
 |[.agg c,.i .i64 o,.fz L m,.fz K k,.i .u64 b],_,n=>(qX c).bind λr=>(bc 1 dG m L).bind λss=>(bc 1 dG k K).bind λrt=>
  some (r.is&&(r.nl&&(aW.ok ⟨o,ss,rt,b⟩&&(decide (ss.length<=1000)&&(decide (rt.length<=1000)&&(aX r&&(decide (r.tp.length=0)&&decide (tv r ⟨o,ss,rt,b⟩=0))))))),{v:=k9 (gJ r ⟨o,ss,rt,b⟩).1 (jQ (gJ r ⟨o,ss,rt,b⟩).1.sh.length) (gJ r ⟨o,ss,rt,b⟩).2,n})
 |_,_,_=>none
theorem ajf:ax ay 53 B3:=λargs h n c E hc ht=>by
 unfold B3 at hc;split at hc
 ·simp only [av] at hc;obtain ⟨r,hr,ss,h1,rt,h2,he⟩:=hc;cases he;rw [dW hr];obtain ⟨rfl,rfl⟩:=bu df h1;obtain ⟨rfl,rfl⟩:=bu df h2;simp only [ak,bg] at ht;exact aA.pure (by kernel_rfl) (by simp only [ab,AV.aj,Rm.aj,iB,aG]) (ny _ _ _) (aiM r ⟨_,ss,rt,_⟩ ht.1 ht.2.1 ht.2.2.1 ht.2.2.2.1 ht.2.2.2.2.1 ht.2.2.2.2.2.1 (fq ht.2.2.2.2.2.2.1) ht.2.2.2.2.2.2.2) _ _
 ·cases hc
def ZB:List AV:=[.s [97,110,110],.s [98,111,98],.s [99,97,114,108],.s [100,111,114,97],.s [101,118,101]]
theorem w57:bG ay 57 [] [] 0 (.fz ZB 5) [] 0:=by
 refine bG.dy (cx:=cj []) Sound.nil mo Tryz.func57 WY (by simp [i57]) (aO ?_)
 dsimp only [i57];simp (maxSteps:=400000) only [go_sem,simprocAttr];exact aZ.rY (b:=0) (x:= .sl 0 0 5 5) (k:={cells:=ZB}) (o:=0) (m:=5) (cs:=ZB) (v':= .fz ZB 5) (h':=[]) rfl rfl (.inl ⟨5,rfl,bx 5⟩) (.inl rfl) bW.hit trivial (aZ.ends (Ends.aw rfl rfl))
def k57:Ct
 |[],_,n=>some (true,{v:= .fz ZB 5,n})
 |_,_,_=>none
theorem s57:ax ay 57 k57:=λargs h n c E hc ht=>by
 unfold k57 at hc;split at hc
 ·cases hc;exact aA.pure (by kernel_rfl) rfl rfl w57 _ _
 ·cases hc
def Py.l (p:Py):List AV:=[.i .u8 p.ow,.i .u8 p.la,.i .u8 p.bl,.i .u8 p.r0,.i .u8 p.r1,.i .u8 p.r2]++(p.f0.l++(p.f1.l++p.f2.l))
theorem Py.len: ∀p:Py,p.l.length=21:=λ_=>rfl
theorem Py.aj: ∀p:Py,ab 0 p.l=true:=λp=>by
 simp only [Py.l,dj,Fl.aj,ab,AV.aj,aG]
theorem Py.one: ∀p:Py,aL p.l=true:=λ_=>rfl
def ZD:List (Nat×Ct):=[(51,ff JG),(53,ff B3),(57,k57),(58,ZO)]
theorem R0:Sound ay (cj ZD):=Sound.cons aie.ng (Sound.cons ajf.ng (Sound.cons s57 (Sound.cons s58 Sound.nil)))
noncomputable abbrev lA6:bb:=Zv (⟨_,rfl⟩:qF (cV:i11.code.sub [1,1,0,1,0,0] =_))
noncomputable abbrev lC6:bb:=Zv (⟨_,rfl⟩:qF (cV:i11.code.sub [1,1,1,1,0,1,0,0] =_))
noncomputable abbrev lB6:bb:=Zv (⟨_,rfl⟩:qF (cV:i11.code.sub [1,1,1,1,0,1,0,0,1,0,0,1,1,1,1,0,1,0,0] =_))
noncomputable abbrev ZN:Fx:=⟨ay,cj ZD,i11.ct,i11.N,0⟩
def nsL:List AV:=[.ns,.ns,.ns,.ns,.ns,.ns,.ns,.ns,.ns,.ns,.ns,.ns,.ns,.ns,.ns]
def zeL:List AV:=[.i .i64 0,.i .i64 0,.i .i64 0,.i .i64 0,.i .i64 0,.i .i64 0,.i .i64 0,.i .i64 0,.i .i64 0,.i .i64 0,.i .i64 0,.i .i64 0,.i .i64 0,.i .i64 0,.i .i64 0]
def Ds:List AV:=[.ns,.ns,.ns]++(nsL++zeL)
def rc (j:Nat):List AV:=if j=0 then [.ns,.ns,.ns] else Rm.a ⟨Hq j,[],[]⟩
def S1 (j:Nat):List AV:=rc j++(nsL++zeL)
theorem Xe (k j:Nat):ab k (rc j)=true:=by
 unfold rc;split
 ·rfl
 ·exact Rm.aj _ _
theorem sn (j:Nat):(rc j).length=3:=by unfold rc;split<;>rfl
theorem Vk (j:Nat):aL (rc j)=true:=by unfold rc;split<;>rfl
theorem EG (k j:Nat):ab k (S1 j)=true:=by rw [S1,dj,Xe];rfl
theorem Uo (j:Nat):(S1 j).length=33:=by rw [S1,cm,sn];rfl
theorem aiw: ∀(j:Nat),j<5-> ∃q:Int,∀(h:Hp) (n:Nat),ff JG [.agg (rc j),.s (nmS.getD j [])] h n=some (true,{v:= .bz [.agg (rc (j+1)),.i .i64 q,.i .i64 0],n,rd:=[],md:=[]})
 |0,_=>⟨0,λh n=>by kernel_rfl⟩
 |1,_=>⟨1,λh n=>by kernel_rfl⟩
 |2,_=>⟨2,λh n=>by kernel_rfl⟩
 |3,_=>⟨3,λh n=>by kernel_rfl⟩
 |4,_=>⟨4,λh n=>by kernel_rfl⟩
 |j+5,h=>by omega
theorem abx: ∀j:Nat,j<5->ZB[j]? =some (.s (nmS.getD j []))
 |0,_=>rfl
 |1,_=>rfl
 |2,_=>rfl
 |3,_=>rfl
 |4,_=>rfl
 |j+5,h=>by omega
theorem OF (mb:Int) (hm:0<=mb/\mb<=255) (c1 c2:AV) (hc1:c1.aj 0=true) (hc2:c2.aj 0=true) {K:bX} {e:Env} {h:Hp} {n:Nat}
 (he:iV 3 e [(1,.p 0 0),(2,.p 1 0),(3,.p 2 0),(4,.i .i64 0)]) (hh:mX 3 h [(0,{cells:=[.i .u8 mb,c1,c2]}),(1,{cells:=Ds}),(2,{cells:=S1 0})])
 (hK: ∀e',bC e' 1=some (.p 0 0)->bC e' 2=some (.p 1 0)->bC e' 3=some (.p 2 0)->K (.exit 0) e' [(0,{cells:=[.i .u8 mb,c1,c2]}),(1,{cells:=Ds}),(2,{cells:=S1 (oI mb)})] 3):
 Ab.Loop ay i11.ct i11.N 0 lA6 K e h n:=by
 have x1: ∀j,c1.aj j=true:=λj=>CH hc1 j;have x2: ∀j,c2.aj j=true:=λj=>CH hc2 j;have hB:=λj=>EG 3 j;have hB1:=λk j=>EG k j;have m1:mb.tmod 5=mb % 5:=fA (by omega)
 have w1:IntKind.i64.wrap mb=mb:=aN (by omega) (by omega)
 have w2:IntKind.i64.wrap (mb % 5)=mb % 5:=aN (by omega) (by omega)
 have eN:oI mb=(mb % 5).toNat+1:=rfl;generalize hZ:Ds=Z at*;have zB: ∀j,ab j Z=true:=λj=>by rw [<-hZ];rfl
 refine Loop.dV (F:=ZN) R0 mo (oI mb) (λ_=>True) (λj=>[(1,.p 0 0),(2,.p 1 0),(3,.p 2 0),(4,.i .i64 (j:Int))]) (λj=>[(0,{cells:=[.i .u8 mb,c1,c2]}),(1,{cells:=Z}),(2,{cells:=S1 j})]) 3 (cr _) trivial he hh (λj hj _=> ?_);dsimp only [ZN,ZD,i11,lA6];by_cases hlt:j<oI mb
 rotate_left
 ·have d1:decide ((j:Int)<=mb % 5)=false:=bw (by omega)
  obtain rfl:j=oI mb:=by omega
  generalize S1 (oI mb)=S at*;simp (maxSteps:=400000) only [go_sem,m1,w1,w2,d1,simprocAttr];exact hK _ rfl rfl rfl
 have d1:decide ((j:Int)<=mb % 5)=true:=af (by omega)
 have d2:decide (0<=(j:Int)/\(j:Int)<5)=true:=af (by omega)
 have hw:IntKind.i64.wrap ((j:Int)+1)=((j+1:Nat):Int):=by rw [aN (by omega) (by omega)];omega
 obtain ⟨q,hk⟩:=aiw j (by omega)
 have hn:=abx j (by omega)
 have hS:List.take 0 (S1 j)++rc (j+1)++List.drop 3 (S1 j)=S1 (j+1):=by
  rw [oD,List.nil_append,S1,List.drop_append_of_le_length (by rw [sn];omega),oE (by rw [sn];omega)];rfl
 have hT:List.take 3 (List.drop 0 (S1 j))=rc j:=by
  rw [dk,S1,List.take_append_of_le_length (by rw [sn];omega),dN (by rw [sn];omega)]
 have l0:=Uo j;have l1:=sn (j+1);have l2:=sn j;have o1:=Vk (j+1);have hB':=EG 3 (j+1);generalize nmS.getD j []=nm,S1 (j+1)=S',S1 j=S,rc (j+1)=R',rc j=R,ff JG=kk at*;simp (maxSteps:=400000) only [go_sem,m1,w1,w2,d1,d2,hw,hk,hn,hS,hT,l0,l1,l2,o1,k57,x1,x2,zB,hB',hlt,AV.aj,ab,aP,kA,fy,di,simprocAttr]
end Go.Proofs.Rom
namespace Go.Proofs.Rom
open Go.Ab Go.ChangeShapes Go.WideShapes Go.RowKit
theorem mx:maxLen=9223372036854775807:=rfl
theorem Tw {α:Type} {E:tA} {f:α->List AV} {ok:α->Bool} (h: ∀x,oN E x-> ∃a,x=f a/\ok a=true): ∀ls:List (List AV),(∀x∈ls,oN E x)-> ∃l:List α,ls.flatten=rows f l/\ls.length=l.length/\ ∀a∈l,ok a=true
 |[],_=>⟨[],rfl,rfl,λa ha=>by cases ha⟩
 |x::ls,hx=>by
  obtain ⟨a,rfl,ha⟩:=h x (hx x iQ);obtain ⟨l,h1,h2,h3⟩:=Tw h ls (λy hy=>hx y (hJ _ hy));refine ⟨a::l,by rw [List.flatten_cons,h1];rfl,by simp [h2],λb hb=> ?_⟩
  grind
theorem slF {α:Type} {E:tA} {f:α->List AV} {ok:α->Bool} (h: ∀x,oN E x-> ∃a,x=f a/\ok a=true) {l:List AV} (hl:oN (.sl E) l): ∃r:List α,l=[.fz (rows f r) r.length]/\r.length<=9223372036854775807/\ ∀a∈r,ok a=true:=by
 obtain ⟨ls,h1,h2,rfl⟩:=hl;obtain ⟨r,e1,e2,e3⟩:=Tw h ls h1;exact ⟨r,by rw [e1,e2],by rw [<-e2];exact h2,e3⟩
abbrev aar:tA:= .st [.f (.i .u16),.f (.i .u16),.f (.i .u32),.f (.i .u8),.sl (.f (.i .u8))]
theorem EC {l:List AV} (h:oN aar l): ∃f:Fl,l=f.l/\f.ok=true:=by
 obtain ⟨_,_,rfl,⟨sq,rfl,h1⟩,_,_,rfl,⟨id,rfl,h2⟩,_,_,rfl,⟨tm,rfl,h3⟩,_,_,rfl,⟨ba,rfl,h4⟩,_,_,rfl,hp,rfl⟩:=h;obtain ⟨pc,rfl,p1,p2⟩:=slF (f:=y9) (ok:=λx=>bZ 0 255 x) (λx h=>by obtain ⟨b,rfl,hb⟩:=h;exact ⟨b,rfl,dp hb⟩) hp
 refine ⟨⟨sq,id,tm,ba,pc⟩,rfl,?_⟩;have h1:bZ 0 65535 sq=true:=dp h1;have h2:bZ 0 65535 id=true:=dp h2;have h3:bZ 0 4294967295 tm=true:=dp h3;have h4:bZ 0 255 ba=true:=dp h4;simp_all [Fl.ok,du]
theorem three {α:Type} {l:List α} (h:l.length=3): ∃a b c,l=[a,b,c]:=by
 match l,h with
 |[a,b,c],_=>exact ⟨a,b,c,rfl⟩
abbrev adW:tA:= .f (.st [.i .u8,.i .u8,.i .u8,.i .u8,.i .u8,.i .u8,.i .u16])
theorem J6 {l:List AV} (h:oN adW l): ∃a:A7,l=a.l/\a.ok=true:=by
 obtain ⟨_,_,rfl,⟨a,rfl,h1⟩,_,_,rfl,⟨b,rfl,h2⟩,_,_,rfl,⟨c,rfl,h3⟩,_,_,rfl,⟨d,rfl,h4⟩,_,_,rfl,⟨e,rfl,h5⟩,_,_,rfl,⟨f,rfl,h6⟩,_,_,rfl,⟨g,rfl,h7⟩,rfl⟩:=h;refine ⟨⟨a,b,c,d,e,f,g⟩,rfl,?_⟩;have h1:bZ 0 255 a=true:=dp h1;have h2:bZ 0 255 b=true:=dp h2;have h3:bZ 0 255 c=true:=dp h3;have h4:bZ 0 255 d=true:=dp h4;have h5:bZ 0 255 e=true:=dp h5;have h6:bZ 0 255 f=true:=dp h6;have h7:bZ 0 65535 g=true:=dp h7
 grind [A7.ok,aG]
abbrev abV:tA:= .st [.f (.i .u8),.f (.i .u8),.f (.i .u8),.f (.ar 3 (.i .u8)),.an 3 aar]
theorem VH {l:List AV} (h:oN abV l): ∃p:Py,l=p.l/\p.ok=true:=by
 obtain ⟨_,_,rfl,⟨ow,rfl,h1⟩,_,_,rfl,⟨la,rfl,h2⟩,_,_,rfl,⟨bl,rfl,h3⟩,_,_,rfl,hr,_,_,rfl,hf,rfl⟩:=h;obtain ⟨rr,hl3,rfl,r2⟩:=hr;obtain ⟨y0,y1,y2,rfl⟩:=three hl3;obtain ⟨r0,rfl,h4⟩:=r2 y0 (by simp)
 obtain ⟨r1,rfl,h5⟩:=r2 y1 (by simp)
 obtain ⟨r2',rfl,h6⟩:=r2 y2 (by simp)
 obtain ⟨ls,l1,l2,rfl⟩:=hf;obtain ⟨x0,x1,x2,rfl⟩:=three l1;obtain ⟨f0,rfl,o0⟩:=EC (l2 x0 (by simp))
 obtain ⟨f1,rfl,o1⟩:=EC (l2 x1 (by simp))
 obtain ⟨f2,rfl,o2⟩:=EC (l2 x2 (by simp))
 refine ⟨⟨ow,la,bl,r0,r1,r2',f0,f1,f2⟩,rfl,?_⟩;have h1:bZ 0 255 ow=true:=dp h1;have h2:bZ 0 255 la=true:=dp h2;have h3:bZ 0 255 bl=true:=dp h3;have h4:bZ 0 255 r0=true:=dp h4;have h5:bZ 0 255 r1=true:=dp h5;have h6:bZ 0 255 r2'=true:=dp h6
 grind [Py.ok,aG]
abbrev ah1:tA:= .st [.f (.i .u8),.sl abV,.sl adW]
theorem UR {l:List AV} (h:oN ah1 l): ∃(mb:Int) (sh:List Py) (ac:List A7),l=[.i .u8 mb,.fz (rows Py.l sh) sh.length,.fz (rows A7.l ac) ac.length]/\(0<=mb/\mb<=255)/\(∀p∈sh,p.ok=true)/\sh.length<=9223372036854775807/\(∀a∈ac,a.ok=true)/\ac.length<=9223372036854775807:=by
 obtain ⟨_,_,rfl,⟨mb,rfl,h1⟩,_,_,rfl,hp,_,_,rfl,ha,rfl⟩:=h;obtain ⟨sh,rfl,s1,s2⟩:=slF (f:=Py.l) (ok:=Py.ok) (λx h=>VH h) hp;obtain ⟨ac,rfl,a1,a2⟩:=slF (f:=A7.l) (ok:=A7.ok) (λx h=>J6 h) ha;exact ⟨mb,sh,ac,rfl,h1,s2,s1,a2,a1⟩
end Go.Proofs.Rom
namespace Go.Proofs.Rom
open Go.Ab
def Q3 (l:List Py) (c:Nat):Bool:=match l[c/3]? with
 |some p=>decide (c % 3<pL p)
 |none=>false
def E6 (l:List Py) (t c:Nat):AV:=bif decide (c<t)&&Q3 l c then qV (vD l c) else .ns
def S2 (n:Nat) (l:List Py) (i t:Nat):List AV:=Rm.a (sL n l i)++(iD (E6 l t) 15++zeL)
theorem CQ {g:Nat->AV} {k:Nat} (h: ∀c,(g c).aj k=true): ∀m,ab k (iD g m)=true
 |0=>rfl
 |m+1=>by rw [il,dj,CQ h m];simp only [ab,h,aG]
theorem QV (l:List Py) (k t c:Nat):(E6 l t c).aj k=true:=by
 unfold E6;cases decide (c<t)&&Q3 l c;all_goals simp [cond_true,qV,AV.aj,Zk]
theorem uI (k n:Nat) (l:List Py) (i t:Nat):ab k (S2 n l i t)=true:=by
 rw [S2,dj,dj,Rm.aj,CQ (QV l k t)];rfl
theorem Aw (n:Nat) (l:List Py) (i t:Nat):(S2 n l i t).length=33:=by
 simp only [S2,cm,cJ];rfl
theorem yc {α:Type} {g g':Nat->α}: ∀m,(∀c,c<m->g c=g' c)->iD g m=iD g' m
 |0,_=>rfl
 |m+1,h=>by rw [il,il,yc m (λc hc=>h c (by omega)),h m (by omega)]
theorem Jm {α:Type} {g g':Nat->α} {m t:Nat} (ht:t<m) (h: ∀c,c<m->c≠t->g c=g' c):(iD g m).set t (g' t)=iD g' m:=by
 apply nk;intro c;rw [Aa,cJ];by_cases hc:c<m
 ·rw [eZ hc];by_cases he:t=c
  ·simp_all [eZ]
  ·rw [aY he,eZ hc,h c hc (λe=>he e.symm)]
 simp_all [aY,cJ]
theorem UC {n:Nat} {l:List Py} {i t:Nat} (ht:t<15) (hf:Q3 l t=true):List.take (3+t) (S2 n l i t)++[qV (vD l t)]++List.drop (3+t+1) (S2 n l i t)=S2 n l i (t+1):=by
 have h1:List.take (3+t) (S2 n l i t)++[qV (vD l t)]++List.drop (3+t+1) (S2 n l i t)=(S2 n l i t).set (3+t) (qV (vD l t)):=by
  rw [List.set_eq_take_append_cons_drop,aT (by rw [Aw];omega),jy];rfl
 have h3:(Rm.a (sL n l i)).length=3:=rfl;have e:E6 l (t+1) t=qV (vD l t):=by
  simp_all [E6,af]
 rw [h1,S2,Fj _ _ (by omega),h3,Nat.add_sub_cancel_left,List.set_append_left _ _ (by rw [cJ];exact ht),<-e,Jm ht (g':=E6 l (t+1))]
 ·rfl
 ·intro c _ hc;unfold E6;rw [show decide (c<t+1)=decide (c<t) by rw [rh];simp;omega]
theorem aaH {n:Nat} {l:List Py} {i t t':Nat} (h: ∀c,c<15->t<=c->c<t'->Q3 l c=false) (htt:t<=t'):S2 n l i t=S2 n l i t':=by
 rw [S2,S2,yc 15 (g':=E6 l t') (λc hc=> ?_)];unfold E6
 grind
theorem RP (n:Nat) (l:List Py) (i:Nat) (p:Py) (hp:l[i]? =some p) (hi:i<5) (hok:p.ok=true) (ow:Int) (D Z:List AV) (hD:ab 0 D=true) (hZ:ab 0 Z=true) {K:bX} {e:Env} {h:Hp} {m:Nat}
 (he:jz 6 [] e [(1,.p 0 0),(2,.p 1 0),(3,.p 2 0),(5,.i .i64 (n:Int)),(6,.i .i64 (i:Int)),(7,.p 3 0),(8,.i .i64 ow),(9,.ns),(10,.ns),(11,.i .i64 0),(12,.i .i64 0)])
 (hh:iW 6 [] h [(3,{cells:=p.l}),(2,{cells:=S2 n l i (3*i)}),(1,{cells:=Z}),(0,{cells:=D})])
 (hK: ∀e',bC e' 1=some (.p 0 0)->bC e' 2=some (.p 1 0)->bC e' 3=some (.p 2 0)->bC e' 5=some (.i .i64 (n:Int))->bC e' 6=some (.i .i64 (i:Int))->bC e' 7=some (.p 3 0)->bC e' 8=some (.i .i64 ow)->bC e' 9=some ((gQ aq 1 (na i (pL p))).v 4)->bC e' 10=some ((gQ aq 1 (wP p (pL p))).v 5)→
   K (.exit 4) e' ((gQ aq 1 (na i (pL p))).h 4++((gQ aq 1 (wP p (pL p))).h 5++[(3,{cells:=p.l}),(2,{cells:=S2 n l i (3*i+pL p)}),(1,{cells:=Z}),(0,{cells:=D})])) 6):
 Ab.Loop ay i11.ct i11.N 0 lB6 K e h m:=by
 have hL:=om hok;have dB:=λj=>au (m:=j) _ hD;have zB:=λj=>au (m:=j) _ hZ;have dR:=λg=>aJ (ψ:=g) _ hD;have zR:=λg=>aJ (ψ:=g) _ hZ;have pB:=λj=>au (m:=j) _ (Py.aj p);have pR:=λg=>aJ (ψ:=g) _ (Py.aj p);have sB:=λj t=>uI j n l i t;have sR:=λg t=>aJ (ψ:=g) _ (uI 0 n l i t);have sl:=λt=>Aw n l i t;have h0:=hok;simp only [Py.ok,ak] at h0;obtain ⟨_,h2,_⟩:=h0;have h2:=bD h2;have eL:pL p=(p.la % 3).toNat+1:=rfl;have g1:p.l[1]? =some (.i .u8 p.la):=rfl;have gr: ∀k:Nat,k<3->p.l[3+k]? =some (.i .u8 (p.r k)):=λk hk=>by
  rcases k with _|_|_|k
  ·rfl
  ·rfl
  ·rfl
  ·omega
 have gf: ∀k:Nat,k<3->List.take 5 (List.drop (6+k*5) p.l)=(p.f k).l:=λk hk=>by
  rcases k with _|_|_|k
  ·rfl
  ·rfl
  ·rfl
  ·omega
 have pl:p.l.length=21:=rfl;have m1:p.la.tmod 3=p.la % 3:=fA (by omega)
 have w1:IntKind.i64.wrap p.la=p.la:=aN (by omega) (by omega)
 have w2:IntKind.i64.wrap (p.la % 3)=p.la % 3:=aN (by omega) (by omega)
 have e0:(gQ aq 1 (na i 0)).v 4= .ns:=rfl;have e1:(gQ aq 1 (na i 0)).h 4=[]:=rfl;refine Loop.nM (F:=ZN) R0 mo (X:=Nat) (λk=>k<=pL p) (λk=>pL p-k)
  (λk=>[(1,.p 0 0),(2,.p 1 0),(3,.p 2 0),(5,.i .i64 (n:Int)),(6,.i .i64 (i:Int)),(7,.p 3 0),(8,.i .i64 ow),(9,(gQ aq 1 (na i k)).v 4),(10,(gQ aq 1 (wP p k)).v 5),(11,.i .i64 (D6 p k)),(12,.i .i64 (k:Int))])
  (λk=>(gQ aq 1 (na i k)).h 4++((gQ aq 1 (wP p k)).h 5++[(3,{cells:=p.l}),(2,{cells:=S2 n l i (3*i+k)}),(1,{cells:=Z}),(0,{cells:=D})])) 6 0 (λk=>k+1) [] (λ_=>[(4,7),(5,9)]) (by decide) (by decide) (λk=>by decide) (cr _) he hh (λk hk=> ?_)
 dsimp only [ZN,ZD,i11,lB6];by_cases hlt:k<pL p
 rotate_left
 ·have d1:decide ((k:Int)<=p.la % 3)=false:=bw (by omega)
  obtain rfl:k=pL p:=by omega
  have pk:=Is (na i (pL p));have pk':=Is (wP p (pL p));generalize gQ aq 1 (na i (pL p))=Q1,gQ aq 1 (wP p (pL p))=Q2,S2 n l i (3*i+pL p)=S,p.l=PL at*;simp (maxSteps:=400000) only [go_sem,m1,w1,d1,g1,simprocAttr];exact hK _ rfl rfl rfl rfl rfl rfl rfl rfl rfl
 have d1:decide ((k:Int)<=p.la % 3)=true:=af (by omega)
 have hk3:k<3:=by omega
 have d2:decide (0<=(k:Int)/\(k:Int)<3)=true:=af (by omega)
 have d3:decide (0<=(i:Int)/\(i:Int)<5)=true:=af (by omega)
 have hw:IntKind.i64.wrap ((k:Int)+1)=((k+1:Nat):Int):=by grind [aN]
 have gr:=gr k hk3;have gf:=gf k hk3;have ra:=wJ hok k;have rr:=KQ hok k;have w3:IntKind.i64.wrap (D6 p k+1)=D6 p k+1:=aN (by omega) (by omega)
 have w4:IntKind.i64.wrap (p.r k)=p.r k:=aN (by omega) (by omega)
 have w5:IntKind.i64.wrap (D6 p k+1+p.r k)=D6 p (k+1):=by rw [aN (by omega) (by omega)];rfl
 have w6:IntKind.i64.wrap (100*(i:Int))=100*(i:Int):=aN (by omega) (by omega)
 have w7:IntKind.i64.wrap (10*(k:Int))=10*(k:Int):=aN (by omega) (by omega)
 have w8:IntKind.i64.wrap (100*(i:Int)+10*(k:Int))=100*(i:Int)+10*(k:Int):=aN (by omega) (by omega)
 have w9:IntKind.i64.wrap (100*(i:Int)+10*(k:Int)+7)=100*(i:Int)+10*(k:Int)+7:=aN (by omega) (by omega)
 have hfk:=ac7 hok k;have hk58: ∀(h:Hp) n,ZO [.agg (p.f k).l,.i .i64 (100*(i:Int)+10*(k:Int)+7)] h n=some (true,{v:=qV (vD l (3*i+k)),n}):=λh n=>by
  have:vD l (3*i+k)=jn (p.f k) (100*(i:Int)+10*(k:Int)+7):=by
   rw [vD,show (3*i+k)/3=i by omega,show (3*i+k) % 3=k by omega,hp]
   grind
  rw [this];simp only [ZO,acd,aC,hfk];rfl
 have hS:=UC (n:=n) (l:=l) (i:=i) (t:=3*i+k) (by omega) (by rw [Q3,show (3*i+k)/3=i by omega,show (3*i+k) % 3=k by omega,hp];grind)
 have es:na i (k+1)=na i k++[100*(i:Int)+10*(k:Int)+7]:=il;have er:wP p (k+1)=wP p k++[D6 p (k+1)]:=il;have ea:3+i*3+k*1=3+(3*i+k):=by omega
 have ea':3+k*1=3+k:=by omega
 have n1:(na i k).length=k:=cJ _;have n2:(wP p k).length=k:=cJ _;have vs:qV (vD l (3*i+k))= .fz (rows Md.l (vD l (3*i+k))) (vD l (3*i+k)).length:=rfl;have vB: ∀j,ab j (rows Md.l (vD l (3*i+k)))=true:=λj=>Zk j _;have hsk:pL p-(k+1)<pL p-k:=by omega
 rw [vs] at hk58 hS;generalize rows Md.l (vD l (3*i+k))=QL,(vD l (3*i+k)).length=ql at*;rw [es,er,show 3*i+(k+1)=3*i+k+1 by omega]
 generalize hA:100*(i:Int)+10*(k:Int)+7=A,hB:D6 p (k+1)=B,na i k=q1,wP p k=q2 at*;have gm1:decide (8*(q1.length+1)<=az)=true:=af (by simp only [az];omega)
 have gm2:decide (8*(q2.length+1)<=az)=true:=af (by grind)
 have z1:(rows aq q1).length=q1.length*1:=aU bR;have z2:(rows aq q2).length=q2.length*1:=aU bR;have pk1:=Is q1;have pk2:=Is q2;have pk1':=Is (q1++[A]);have pk2':=Is (q2++[B]);have qe1:gQ aq 1 (q1++[A])=gS aq 1 q1 [.i .i64 A]:=ji;have qe2:gQ aq 1 (q2++[B])=gS aq 1 q2 [.i .i64 B]:=ji;rw [qe1] at pk1' ⊢;rw [qe2] at pk2' ⊢;have sl1:=sl (3*i+k);have sB1:=λj=>sB j (3*i+k+1);have sR1:=λg=>sR g (3*i+k+1);generalize S2 n l i (3*i+k+1)=S',S2 n l i (3*i+k)=S at*;have fl:=Fl.len (p.f k);have d18:decide (3+(3*i+k)<=32)=true:=af (by omega)
 generalize (p.f k).l=FL,p.l=PL,ZO=kk at*;simp (maxSteps:=400000) only [go_sem,m1,w1,d1,g1,d2,d3,hw,gr,gf,w3,w4,w5,w6,w7,w8,w9,hA,hk58,hS,ea,ea',gm1,gm2,z1,z2,pk1',pk2',sl1,sB1,sR1,dB,zB,dR,zR,pB,pR,hsk,fl,d18,AV.aj,aP,bp.aQ,AV.aQ,simprocAttr];exact hlt
theorem Uh {l:List Int} (h:l≠[]) (b:Nat):(gQ aq 1 l).v b= .sg b 0 l.length/\(gQ aq 1 l).h b=[(b,{cells:=rows aq l,gr:=some 1})]:=by
 unfold gQ;split
 ·rename_i h0;exact absurd (fq (by simpa using h0)) h
 ·exact ⟨rfl,rfl⟩
theorem adN (R:Rm) (o bl:Int) (ss rt:List Int) {E:Rm} {i e:Int} (hk: ∀h n,B3 [.agg R.a,.i .i64 o,.fz (rows aq ss) ss.length,.fz (rows aq rt) rt.length,.i .u64 bl] h n=some (true,{v:=k9 E i e,n})) (h:Hp) (n b c:Nat) (h1:aa h b=some {cells:=rows aq ss,gr:=some 1}) (h2:aa h c=some {cells:=rows aq rt,gr:=some 1}):
 ff B3 [.agg R.a,.i .i64 o,.sg b 0 ss.length,.sg c 0 rt.length,.i .u64 bl] h n=some (true,{v:=k9 E i e,n,rd:=[b,c],md:=[(b,none),(c,none)]}):=by
 have hv: ∀f,lV (nv h f) R.a=some ([],R.a):=λf=>by
  simp [Rm.a,bn,bI,ef,fT,cG,fb,aC]
 have hb:=Rm.aj 0 E;simp only [ff,bn,bI,lj,kN,hv,ue 5 h1,ue 5 h2,aC,hk,ez,List.nil_append,dh];simp_all [bV.plain,wN,j4,k9,AV.aj,ab]
theorem Jz {n i:Nat} {p:Py} (hn:1<=n/\n<=5) (h:p.ok=true):(pZ n i p).ok=true:=by
 have h0:=h;simp only [Py.ok,ak] at h0;have hb:=bD h0.2.2.1;have hL:=om h;have e1:=ph p.ow (b:=(n:Int)) (by omega)
 have e2:=mK p.ow (b:=(n:Int)) (by omega)
 obtain ⟨_,_,b3,b4⟩:=JF ⟨n,by omega⟩ ⟨(p.ow % (n:Int)).toNat,by omega⟩ ⟨p.bl.toNat,by omega⟩
 dsimp only at b3 b4;rw [show ((p.bl.toNat:Nat):Int)=p.bl by omega] at b3 b4
 have l1:(na i (pL p)).length=pL p:=cJ _;have l2:(wP p (pL p)).length=pL p:=cJ _;simp only [aW.ok,pZ,l1,l2,ak,bg];exact ⟨dp (by omega),by omega,by omega⟩
theorem YL {n:Nat} {l:List Py} (hn:1<=n/\n<=5) (hl: ∀p∈l,p.ok=true) {i:Nat} (hi:i<=l.length) (h5:i<=5):(sL n l i).is=true:=by
 have hlen:=(kS (n:=n) (j:=0) hi).1;simp only [Rm.is,ak,bg,du];refine ⟨by show (Hq n).length<=_;rw [sY hn.2];omega,by show (lW n l i).length<=_;omega,λx hx=> ?_,by show ([]:List Tp).length<=_;simp,λt ht=>by cases ht⟩
 obtain ⟨j,p,hj,hp,rfl⟩:=yy hi hx;exact Jz hn (hl p (bJ hp))
theorem UQ: ∀k,k<=5->(Hq k).all (λm=>decide (m.nm.length<=1000))=true
 |0,_=>by decide+kernel
 |1,_=>by decide+kernel
 |2,_=>by decide+kernel
 |3,_=>by decide+kernel
 |4,_=>by decide+kernel
 |5,_=>by decide+kernel
 |k+6,h=>by omega
theorem Tu (x:BitVec 64):IntKind.u64.wrap ((x.toNat:Nat):Int)=((x.toNat:Nat):Int):=by
 rw [oe];have:=x.isLt;omega
theorem ahQ (n o:Nat) (b:Int):Gm .u64 (iO .u64 b (2^n-1)) (2^o)=OC n o b:=by
 have e:iO .u64 b (2^n-1)=(((BitVec.ofInt 64 b &&& BitVec.ofInt 64 (2^n-1)).toNat:Nat):Int):=Tu _;rw [e];exact Tu _
theorem Ui {x:Nat} (h:x<=5):IntKind.u64.wrap (1*2^if (IntKind.u64.wrap (x:Int)).toNat<=64 then (IntKind.u64.wrap (x:Int)).toNat else 64)=2^x:=by
 have e:IntKind.u64.wrap (x:Int)=(x:Int):=by rw [oe];omega
 rw [e,j3,aT (by omega),oe,Int.one_mul]
 match x,h with
 |0,_=>rfl
 |1,_=>rfl
 |2,_=>rfl
 |3,_=>rfl
 |4,_=>rfl
 |5,_=>rfl
 |k+6,h=>omega
theorem adT {x:Nat} (h:x<=5):IntKind.u64.wrap ((2:Int)^x-1)=2^x-1:=by
 rw [oe]
 match x,h with
 |0,_=>rfl
 |1,_=>rfl
 |2,_=>rfl
 |3,_=>rfl
 |4,_=>rfl
 |5,_=>rfl
 |k+6,h=>omega
theorem Qc (n:Nat) (l:List Py) (hn:1<=n/\n<=5) (hl: ∀p∈l,p.ok=true) (hll:l.length<=9223372036854775807) (mb:Int) (v:AV) (hv:v.aj 0=true) {K:bX} {e:Env} {h:Hp} {m:Nat}
 (he:iV 3 e [(1,.p 0 0),(2,.p 1 0),(3,.p 2 0),(5,.i .i64 (n:Int)),(6,.i .i64 0)])
 (hh:mX 3 h [(0,{cells:=[.i .u8 mb,.fz (rows Py.l l) l.length,v]}),(1,{cells:=Ds}),(2,{cells:=S2 n l 0 0})])
 (hK: ∀e',bC e' 2=some (.p 1 0)->bC e' 3=some (.p 2 0)->K (.exit 2) e' [(0,{cells:=[.i .u8 mb,.fz (rows Py.l l) l.length,v]}),(1,{cells:=Ds}),(2,{cells:=S2 n l (min l.length 5) (3*min l.length 5)})] 3):
 Ab.Loop ay i11.ct i11.N 0 lC6 K e h m:=by
 have pB0:ab 0 (rows Py.l l)=true:=au _ (bh Py.aj);have x2: ∀j,v.aj j=true:=λj=>CH hv j;have pB:=λj=>au (m:=j) _ pB0;have vR: ∀g,v.aQ g=v:=λg=>by
  have:=aJ (ψ:=g) [v] (by simp only [ab,hv,aG])
  simpa only [aS,yQ,e9] using this
 have hZ: ∀j,ab j Ds=true:=λ_=>rfl;have sB:=λj i t=>uI j n l i t;have sR:=λg i t=>aJ (ψ:=g) _ (uI 0 n l i t);have hat: ∀(i:Nat) p,l[i]? =some p->List.take 21 (List.drop (i*21) (rows Py.l l))=p.l:=λi p hi=>dm Py.len hi;have lk:=λi p hp hi hok ow K e h m=> @RP n l i p hp hi hok ow [.i .u8 mb,.fz (rows Py.l l) l.length,v] Ds (by simp only [ab,AV.aj,pB,x2,aG]) rfl K e h m
 obtain ⟨M,hM⟩: ∃M,M=min l.length 5:=⟨_,rfl⟩;rw [<-hM] at hK;refine Loop.dV (F:=ZN) R0 mo M (λ_=>True) (λi=>[(1,.p 0 0),(2,.p 1 0),(3,.p 2 0),(5,.i .i64 (n:Int)),(6,.i .i64 (i:Int))]) (λi=>[(0,{cells:=[.i .u8 mb,.fz (rows Py.l l) l.length,v]}),(1,{cells:=Ds}),(2,{cells:=S2 n l i (3*i)})]) 3 (cr _) trivial he hh (λi hi _=> ?_);have hzl:Ds.length=33:=rfl;generalize Ds=Z at*;dsimp only [ZN,ZD,i11,lC6];by_cases hlt:i<M
 rotate_left
 ·obtain rfl:i=M:=by omega
  generalize S2 n l i (3*i)=S,rows Py.l l=L at*;cases d1:decide ((i:Int)<(l.length:Int))
  ·simp (maxSteps:=400000) only [go_sem,d1,simprocAttr];exact hK _ rfl rfl
  ·have d2:decide ((i:Int)<5)=false:=bw (by have:=bN d1;omega)
   simp (maxSteps:=400000) only [go_sem,d1,d2,simprocAttr];exact hK _ rfl rfl
 have d1:decide ((i:Int)<(l.length:Int))=true:=af (by omega)
 have d2:decide ((i:Int)<5)=true:=af (by omega)
 have d3:decide (0<=(i:Int)/\(i:Int)<(l.length:Int))=true:=af (by omega)
 obtain ⟨p,hp⟩: ∃p,l[i]? =some p:=⟨_,bj (by omega)⟩
 have hok:=hl p (bJ hp);have hL:=om hok;have ha:=hat i p hp;have lk:=λow K e h m=>lk i p hp (by omega) hok ow K e h m
 have h0:=hok;simp only [Py.ok,ak] at h0;have o1:=bD h0.1;have o2:=bD h0.2.2.1;have e1:=ph p.ow (b:=(n:Int)) (by omega)
 have e2:=mK p.ow (b:=(n:Int)) (by omega)
 have m1:p.ow.tmod (n:Int)=p.ow % (n:Int):=fA (by omega)
 have w1:IntKind.i64.wrap p.ow=p.ow:=aN (by omega) (by omega)
 have w2:IntKind.i64.wrap (p.ow % (n:Int))=p.ow % (n:Int):=aN (by omega) (by omega)
 have nn:((n:Int) !=0)=true:=by
  cases hb:((n:Int)==0)
  ·rw [bne,hb];rfl
  ·have:n=0:=by simpa using hb
   omega
 have hw:IntKind.i64.wrap ((i:Int)+1)=((i+1:Nat):Int):=by rw [aN (by omega) (by omega)];omega
 have g0:p.l[0]? =some (.i .u8 p.ow):=rfl;have g2:p.l[2]? =some (.i .u8 p.bl):=rfl;have pl:p.l.length=21:=rfl;have po:aL p.l=true:=rfl;have pt:List.take 21 p.l=p.l:=rfl;have pB1:=λj=>au (m:=j) _ (Py.aj p);have sl:=λt=>Aw n l i t;have n1:na i (pL p)≠[]:=λe=>by have:(na i (pL p)).length=pL p:=cJ _;rw [e] at this;simp at this;omega
 have n2:wP p (pL p)≠[]:=λe=>by have:(wP p (pL p)).length=pL p:=cJ _;rw [e] at this;simp at this;omega
 have hs1: ∀t,List.take 3 (List.drop 0 (S2 n l i t))=Rm.a (sL n l i):=λt=>rfl;have hs2: ∀t,List.take 0 (S2 n l i t)++Rm.a (sL n l (i+1))++List.drop 3 (S2 n l i t)=S2 n l (i+1) t:=λt=>rfl;have hs3:S2 n l (i+1) (3*i+pL p)=S2 n l (i+1) (3*(i+1)):=aaH (λc _ h1 h2=>by
  rw [Q3,show c/3=i by omega,hp]
  exact bw (by omega)) (by omega)
 have hpre:=aei hn hl hp (by omega)
 have hgd:=EZ hn hl (i:=i) (by omega) (by omega)
 have his:=YL hn hl (i:=i) (by omega) (by omega)
 have hnl:(sL n l i).nl=true:=UQ n hn.2;have hso:=Jz (i:=i) hn hok;have l1:(na i (pL p)).length=pL p:=cJ _;have l2:(wP p (pL p)).length=pL p:=cJ _;have hkk: ∀h n',B3 [.agg (sL n l i).a,.i .i64 (p.ow % (n:Int)),.fz (rows aq (na i (pL p))) (na i (pL p)).length,.fz (rows aq (wP p (pL p))) (wP p (pL p)).length,.i .u64 (OC n (p.ow % (n:Int)).toNat p.bl)] h n'=some (true,{v:=k9 (sL n l (i+1)) (jQ (sL n l (i+1)).sh.length) 0,n:=n'}):=λh n'=>by
  have e:(⟨p.ow % (n:Int),na i (pL p),wP p (pL p),OC n (p.ow % (n:Int)).toNat p.bl⟩:aW)=pZ n i p:=rfl;have hE:tv (sL n l i) (pZ n i p)=0:=dC Prod.snd hpre;have ht:(sL n l i).tp.length=0:=rfl;simp only [B3,dH,eD,aC,e,his,hnl,hso,hpre,hgd,ht,hE,qj,af (show (na i (pL p)).length<=1000 by omega),af (show (wP p (pL p)).length<=1000 by omega),aG]
 have hk:=λh n' b c=>adN (sL n l i) (p.ow % (n:Int)) (OC n (p.ow % (n:Int)).toNat p.bl) (na i (pL p)) (wP p (pL p)) hkk h n' b c;have u1:IntKind.u64.wrap p.bl=p.bl:=by rw [oe];omega
 have u2:=Ui (x:=n) (by omega)
 have u3:=adT (x:=n) (by omega)
 have u4:=Ui (x:=(p.ow % (n:Int)).toNat) (by omega)
 rw [show (((p.ow % (n:Int)).toNat:Nat):Int)=p.ow % (n:Int) by omega] at u4
 have u5:=ahQ n (p.ow % (n:Int)).toNat p.bl;obtain ⟨q1,q2⟩:=Uh n1 4;obtain ⟨q3,q4⟩:=Uh n2 5;have rl:(Rm.a (sL n l (i+1))).length=3:=rfl;have ro:aL (Rm.a (sL n l (i+1)))=true:=rfl;have ss3:=λt=>sl t;have sB':=sB 3 (i+1) (3*i+pL p);have rl0:(Rm.a (sL n l i)).length=3:=rfl;have sB1:=λj=>sB j i;have sR1:=λg=>sR g i;have pR1:=λg=>aJ (ψ:=g) _ (Py.aj p);have pR:=λg=>aJ (ψ:=g) _ pB0;have hZR:=λg=>aJ (ψ:=g) _ (hZ 0);simp only [k9] at hk;generalize Rm.a (sL n l (i+1))=R',Rm.a (sL n l i)=R,S2 n l (i+1)=S',S2 n l i=S,rows Py.l l=L,p.l=PL,ff B3=kk at*;rw [<-hs3];simp (maxSteps:=400000) only [go_sem,d1,d2,d3,ha,g0,g2,pl,po,pt,m1,w1,w2,nn,hw,simprocAttr];refine lk (p.ow % (n:Int)) _ _ _ _ ?_ ?_ (λe' g1 g2' g3 g5 g6 g7 g8 g9 g10=> ?_)
 ·simp (maxSteps:=400000) only [go_sem,AV.aj,ab,aP,AV.aQ,aS,simprocAttr]
 ·simp (maxSteps:=400000) only [go_sem,pB1,pR1,pB,pR,hZ,hZR,sB1,sR1,x2,vR,AV.aj,ab,aP,bp.aQ,aS,AV.aQ,simprocAttr]
 ·rw [q1] at g9;rw [q3] at g10;rw [q2,q4];simp (maxSteps:=400000) only [go_sem,g1,g2',g3,g5,g6,g7,g8,g9,g10,g2,pl,hs1,hs2,ss3,hk,rl,rl0,ro,u1,u2,u3,u4,u5,sB',hw,x2,pB,hZ,AV.aj,ab,aP,simprocAttr];exact hlt
theorem aa2 (mb:Int) (l:List Py):S1 (oI mb)=S2 (oI mb) l 0 0:=by
 have hn:=wM mb;rw [S1,rc,aY (by omega),S2]
 have e:iD (E6 l 0) 15=nsL:=by
  rw [yc 15 (g':=λ_=> .ns) (λc hc=>by unfold E6;rw [bw (show ¬c<0 by omega)];rfl)];rfl
 rw [e];rfl
theorem fzM {x y:AV} {g g':Nat->AV}: ∀m,(∀c,c<m->bW x y (g c) (g' c))->dZ x y (iD g m) (iD g' m)
 |0,_=>trivial
 |m+1,hg=>by
  rw [il,il];exact dZ.app (fzM m λc hc=>hg c (by omega)) ⟨hg m (by omega),trivial⟩
theorem Uu (mb:Int) (l:List Py):(jm mb l).a=Rm.a (sL (oI mb) l (min l.length 5))++(iD (λc=>qV (vD (l.take 5) c)) 15++zeL):=by
 have e:(iD (vD (l.take 5)) 15).map qV=iD (λc=>qV (vD (l.take 5) c)) 15:=by
  apply nk;intro c;rw [dX];by_cases hc:c<15
  ·rw [eZ hc,eZ hc];rfl
  ·rw [lu (by rw [cJ];omega),lu (by rw [cJ];omega)];rfl
 show _++((iD (vD (l.take 5)) 15).map qV++(List.replicate 15 (0:Int)).map (AV.i .i64))=_;rw [e];rfl
theorem w11 (mb:Int) (l:List Py) (v:AV) (hm:0<=mb/\mb<=255) (hl: ∀p∈l,p.ok=true) (hll:l.length<=9223372036854775807) (hv:v.aj 0=true):
 bG ay 11 [.agg [.i .u8 mb,.fz (rows Py.l l) l.length,v]] [] 0 (.agg (jm mb l).a) [] 0:=by
 have pB0:ab 0 (rows Py.l l)=true:=au _ (bh Py.aj);have pB:=λj=>au (m:=j) _ pB0;have x2: ∀j,v.aj j=true:=λj=>CH hv j;have hn:=wM mb;have lm:=λK e h n=> @OF mb hm (.fz (rows Py.l l) l.length) v (by simp only [AV.aj,pB]) hv K e h n
 have ls:=λK e h m=> @Qc (oI mb) l hn hl hll mb v hv K e h m;rw [aa2 mb l] at lm;have hbel:=gK.aj 0 (jm mb l);have g0:(S2 (oI mb) l 0 0)[0]? =some (.fz (rows Mb.l (Hq (oI mb))) (Hq (oI mb)).length):=rfl;rw [sY hn.2] at g0;have l33:=Aw (oI mb) l (min l.length 5) (3*min l.length 5);have fz:dZ .ns (.fz [] 0) (S2 (oI mb) l (min l.length 5) (3*min l.length 5)) (jm mb l).a:=by
  rw [Uu,S2];refine dZ.app dZ.refl (dZ.app (fzM 15 λc hc=> ?_) dZ.refl);have e1:(l.take 5)[c/3]? =l[c/3]? :=by rw [kJ,aT (by omega)]
  unfold E6;cases hb:decide (c<3*min l.length 5)&&Q3 l c
  ·have e2:vD (l.take 5) c=[]:=by
    unfold vD;rw [e1];cases hp:l[c/3]? with
    |none=>rfl
    |some p=>
     have hlt:=(cv.1 hp).1;rw [af (show c<3*min l.length 5 by omega),mP,Q3,hp] at hb
     dsimp only;rw [aY (tM hb)]
   rw [e2];exact bW.hit
  ·have e2:vD (l.take 5) c=vD l c:=by
    unfold vD;rw [e1]
   rw [e2];exact bW.refl
 refine bG.dy R0 mo Tryz.func11 Y1 (by simp [i11]) (aO ?_)
 dsimp only [i11,ZD];simp (maxSteps:=400000) only [go_sem,simprocAttr];refine lm _ _ _ _ ?_ ?_ (λe' g1 g2 g3=> ?_)
 ·simp (maxSteps:=400000) only [go_sem,AV.aj,ab,aP,simprocAttr]
 ·simp only [Ds,S1,rc,nsL,zeL,ez,List.nil_append,cM];simp (maxSteps:=400000) only [go_sem,pB,x2,AV.aj,ab,aP,simprocAttr]
 have hz33:Ds.length=33:=rfl;have hzB: ∀j,ab j Ds=true:=λ_=>rfl;have sB0:=λj=>uI j (oI mb) l 0 0;have sB1:=λj=>uI j (oI mb) l (min l.length 5) (3*min l.length 5);have hT:List.take 33 (List.drop 0 (S2 (oI mb) l (min l.length 5) (3*min l.length 5)))=S2 (oI mb) l (min l.length 5) (3*min l.length 5):=by rw [dk,dN (by omega)]
 have hS:List.take 0 Ds++S2 (oI mb) l (min l.length 5) (3*min l.length 5)++List.drop 33 Ds=S2 (oI mb) l (min l.length 5) (3*min l.length 5):=by
  rw [oD,List.nil_append,oE (by omega),dh]
 have ho:aL (S2 (oI mb) l (min l.length 5) (3*min l.length 5))=true:=by
  have h1: ∀m,aL (iD (E6 l (3*min l.length 5)) m)=true:=λm=>by
   induction m with
   |zero=>rfl
   |succ m ih=>
    have:(E6 l (3*min l.length 5) m).one=true:=by
     unfold E6;cases decide (m<3*min l.length 5)&&Q3 l m<;>rfl
    rw [il,iy,ih];simp only [aL,this,aG]
  rw [S2,iy,iy,h1];rfl
 generalize S2 (oI mb) l 0 0=S0,S2 (oI mb) l (min l.length 5) (3*min l.length 5)=S9,Ds=Z,(jm mb l).a=B at*;simp (maxSteps:=400000) only [go_sem,g1,g2,g3,g0,simprocAttr];refine ls _ _ _ _ ?_ ?_ (λe' g4 g5=> ?_)
 ·simp (maxSteps:=400000) only [go_sem,AV.aj,ab,aP,simprocAttr];exact ⟨g1,g2,g3⟩
 ·simp (maxSteps:=400000) only [go_sem,hzB,sB0,pB,x2,AV.aj,ab,aP,simprocAttr]
 simp (maxSteps:=400000) only [go_sem,g4,g5,l33,hT,hS,hz33,ho,simprocAttr];refine aZ.wu (l:=[]) (v':= .agg B) (bW.agg fz) ?_;exact aZ.ends (Ends.aw (by simp only [AV.aj,hbel]) rfl)
abbrev ajm:=[oo 2 (.box (.t 0)),oo 4 (.mv (.c (.b false)))]
abbrev ah0:=[oo 29 (.call (.c (.fn 10 [])) []),ot 30 (.not (.t 29))]
abbrev aiR:=[oo 4 (.mv (.c (.b false)))]
abbrev ai6:=[cA 31 2 2,ZL (.st 1 (.t 31) (.c (.ns)))]
abbrev af1:=[oo 32 (.ld true 3 (.t 2)),oo 33 (.call (.c (.fn 11 [])) [.t 32]),oo 5 (.new acY),qW 33 5 33]
abbrev ahf:=[cA 34 0 5,oo 35 (.ld true 3 (.t 34)),oo 6 (.new [.ns,.ns,.ns]),qW 3 6 35]
abbrev agD:=[oo 36 (.Zl (.a [])),fH 7 36]
abbrev afI:=[fH 37 1,fH 38 1,oo 39 (.lh (.t 38)),oo 40 (.mn (.t 39) [.c (.i .i64 40)]),oo 41 (.vW 7 (.t 37) none (some (.t 40)) none),oo 42 (.lh (.t 41)),oo 43 (.mv (.c (.i .i64 0)))]
abbrev ai2:=[ot 44 (.bin .lss (.t 43) (.t 42))]
abbrev aje:=[oo 45 (.uS 7 (.t 41) (.t 43)),oo 46 (.ld true 7 (.t 45)),oo 9 (.new [.i .u8 0,.i .u8 0,.i .u8 0,.i .u8 0,.i .u8 0,.i .u8 0,.i .u16 0]),qW 7 9 46]
abbrev aer:=[oo 48 (.ld true 33 (.t 5)),oo 49 (.ld true 7 (.t 9)),B5 50 12 48 49,fH 47 50,oo 51 (.ext (.t 47) 0),oo 52 (.ext (.t 47) 1),oo 53 (.ext (.t 47) 2),oo 10 (.new acY),oo 11 (.new [.b false,.i .i64 0,.i .i64 0,.i .i64 0,.i .i64 0,.ns,.ns,.i .i64 0,.s []]),qW 33 10 51,qW 9 11 52,fH 12 53]
abbrev Z9:=[oo 54 (.ld true 33 (.t 10)),qW 33 5 54]
abbrev aex:=[cA 55 1 9,iL 56 1 55,oo 57 (.Dw .i64 (.t 56)),cA 58 0 5,cA 59 0 58,iL 60 1 59,oo 61 (.lh (.t 60)),oo 62 (.bin .rem (.t 57) (.t 61)),fH 13 62,oo 14 (.mv (.c (.i .i64 0)))]
abbrev abh:=[cA 63 0 5,cA 64 1 63,iL 65 1 64,oo 66 (.lh (.t 65)),ot 67 (.bin .gtr (.t 66) (.c (.i .i64 0)))]
abbrev abC:=[cA 68 2 9,iL 69 1 68,oo 70 (.Dw .i64 (.t 69)),cA 71 0 5,cA 72 1 71,iL 73 1 72,oo 74 (.lh (.t 73)),oo 75 (.bin .rem (.t 70) (.t 74)),fH 14 75]
abbrev adz:=[oo 76 (.ld true 3 (.t 6)),oo 15 (.new [.ns,.ns,.ns]),qW 3 15 76,oo 16 (.mv (.c (.i .i64 4)))]
abbrev ade:=[oo 17 (.mv (.c (.ns)))]
abbrev aaR:=[fH 78 12,ot 77 (.mv (.t 78))]
abbrev ac5:=[oo 80 (.ld true 3 (.t 6)),oo 81 (.ld true 9 (.t 11)),B5 82 13 80 81,fH 79 82,oo 83 (.ext (.t 79) 0),oo 84 (.ext (.t 79) 1),oo 85 (.ext (.t 79) 2),qW 3 15 83,fH 17 84,fH 16 85]
abbrev ab8:=[cA 87 0 9,iL 88 1 87,oo 89 (.bin .rem (.t 88) (.c (.i .u8 8))),oo 90 (.bin .lss (.t 89) (.c (.i .u8 2))),ot 86 (.mv (.t 90))]
abbrev acE:=[oo 92 (.ld true 3 (.t 6)),fH 93 13,fH 94 14,cA 95 3 9,iL 96 1 95,oo 97 (.bin .rem (.t 96) (.c (.i .u8 10))),oo 98 (.Dw .i64 (.t 97)),oo 99 (.bin .add (.c (.i .i64 1)) (.t 98)),cA 100 4 9,iL 101 1 100,oo 102 (.bin .rem (.t 101) (.c (.i .u8 3))),oo 103 (.Dw .i64 (.t 102)),fH 104 14,oo 105 (.call (.c (.fn 14 [])) [.t 92,.t 93,.t 94,.t 99,.t 103,.t 104,.c (.i .i64 3000)]),fH 91 105,oo 106 (.ext (.t 91) 0),oo 107 (.ext (.t 91) 1),qW 3 15 106,fH 16 107]
abbrev acw:=[fH 108 16,ot 109 (.bin .eql (.t 108) (.c (.i .i64 0)))]
abbrev abi:=[fH 110 7,fH 111 13,fH 112 14,oo 113 (.build [.i .i64 0,.i .i64 0] [(0,1,.t 111),(1,1,.t 112)]),ZL (.mpD 2 (.t 110) (.t 113))]
abbrev ab0:=[cA 115 0 9,iL 116 1 115,oo 117 (.bin .rem (.t 116) (.c (.i .u8 8))),oo 118 (.bin .eql (.t 117) (.c (.i .u8 2))),ot 114 (.mv (.t 118))]
abbrev ac0:=[oo 120 (.ld true 3 (.t 6)),fH 121 13,fH 122 14,oo 123 (.call (.c (.fn 15 [])) [.t 120,.t 121,.t 122]),fH 119 123,oo 124 (.ext (.t 119) 0),oo 125 (.ext (.t 119) 1),qW 3 15 124,fH 16 125]
abbrev ad1:=[cA 127 0 9,iL 128 1 127,oo 129 (.bin .rem (.t 128) (.c (.i .u8 8))),oo 130 (.bin .eql (.t 129) (.c (.i .u8 3))),ot 126 (.mv (.t 130))]
abbrev ach:=[oo 132 (.ld true 3 (.t 6)),fH 133 13,cA 134 6 9,iL 135 1 134,oo 136 (.bin .rem (.t 135) (.c (.i .u16 1000))),oo 137 (.Dw .i64 (.t 136)),oo 138 (.call (.c (.fn 16 [])) [.t 132,.t 133,.t 137]),fH 131 138,oo 139 (.ext (.t 131) 0),oo 140 (.ext (.t 131) 1),qW 3 15 139,fH 16 140]
abbrev Z5:=[fH 141 16,ot 142 (.bin .neq (.t 141) (.c (.i .i64 0)))]
abbrev ab9:=[oo 143 (.ld true 3 (.t 15)),oo 144 (.call (.c (.fn 17 [])) [.t 143]),ot 145 (.bin .neq (.t 144) (.c (.i .i64 0)))]
abbrev adK:=[oo 4 (.mv (.c (.b false)))]
abbrev aap:=[fH 146 17,oo 147 (.lh (.t 146)),oo 148 (.mv (.c (.i .i64 0)))]
abbrev ab2:=[ot 149 (.bin .lss (.t 148) (.t 147))]
abbrev aby:=[oo 150 (.uS 10 (.t 146) (.t 148)),oo 151 (.ld true 10 (.t 150)),oo 19 (.new [.i .i64 0,.b false,.i .i64 0,.i .i64 0,.i .i64 0,.i .i64 0,.ns,.ns,.i .i64 0,.s []]),qW 10 19 151]
abbrev abm:=[oo 20 (.mv (.c (.i .i64 (-1))))]
abbrev acr:=[cA 152 2 6,iL 153 1 152,oo 154 (.lh (.t 153)),oo 155 (.mv (.c (.i .i64 0)))]
abbrev adm:=[ot 156 (.bin .lss (.t 155) (.t 154))]
abbrev aaV:=[fH 157 155,oo 158 (.uS 22 (.t 153) (.t 155)),oo 159 (.ld true 22 (.t 158)),oo 22 (.new ac3),fH 21 157,qW 22 22 159]
abbrev adv:=[cA 160 0 22,iL 161 1 160,cA 162 0 19,iL 163 1 162,oo 164 (.bin .eql (.t 161) (.t 163)),ot 165 (.mv (.t 164)),og 166 (.fa 4 (.t 22)) 165 true false,og 167 (.fa 1 (.t 166)) 165 true false,og 168 (.ld false 1 (.t 167)) 165 true false,og 169 (.fa 1 (.t 19)) 165 true false,og 170 (.fa 4 (.t 169)) 165 true false,og 171 (.ld false 1 (.t 170)) 165 true false,og 172 (.bin .eql (.t 168) (.t 171)) 165 true false,ot 173 (.pick (.t 165) (.t 172) (.c (.b false)))]
abbrev Z4:=[fH 174 21,fH 20 174]
abbrev aak:=[I6 175 155 1,fH 155 175]
abbrev Mg:=(lU adm (.seq (.cond (.t 156) .skip (.exit 5)) (.seq (.block 6 (lU aaV (lU adv (.cond (.t 173) (.dY Z4) .skip)))) (.dY aak))))
abbrev ae0:List (bq×List Nat):=[(fH 176 20,[]),(oo 177 (.bin .lss (.t 176) (.c (.i .i64 0))),[]),(ot 178 (.mv (.t 177)),[]),(AP 179 2 6 178,[]),(Jf 180 1 179 178,[]),(IK 181 20 178,[3,4]),(og 182 (.uS 22 (.t 180) (.t 181)) 178 false false,[]),(AP 183 1 182 178,[]),(Jf 184 1 183 178,[]),(og 185 (.bin .lss (.t 184) (.c (.i .i64 0))) 178 false false,[]),(KA 186 178 185,[]),(ot 187 (.mv (.t 186)),[]),(AP 188 2 6 187,[]),(Jf 189 1 188 187,[]),(IK 190 20 187,[12,13]),(og 191 (.uS 22 (.t 189) (.t 190)) 187 false false,[]),(AP 192 1 191 187,[]),(Jf 193 1 192 187,[]),(AP 194 0 5 187,[12,13,14,15,16,17]),(AP 195 1 194 187,[12,13,14,15,16,17]),(Jf 196 1 195 187,[12,13,14,15,16,17]),(og 197 (.lh (.t 196)) 187 false false,[12,13,14,15,16,17]),(og 198 (.bin .geq (.t 193) (.t 197)) 187 false false,[]),(KA 199 187 198,[]),(ot 200 (.mv (.t 199)),[]),(AP 201 0 19 200,[]),(Jf 202 1 201 200,[]),(og 203 (.bin .lss (.t 202) (.c (.i .i64 0))) 200 false false,[]),(KA 204 200 203,[]),(ot 205 (.mv (.t 204)),[]),(AP 206 0 19 205,[]),(Jf 207 1 206 205,[]),(AP 208 0 5 205,[30,31]),(AP 209 0 208 205,[30,31]),(Jf 210 1 209 205,[30,31]),(og 211 (.lh (.t 210)) 205 false false,[30,31]),(og 212 (.bin .geq (.t 207) (.t 211)) 205 false false,[]),(ot 213 (.pick (.t 205) (.c (.b true)) (.t 212)),[])]
abbrev aev:=[oo 4 (.mv (.c (.b false)))]
abbrev aaB:=[cA 214 2 6,iL 215 1 214,fH 216 20,oo 217 (.uS 22 (.t 215) (.t 216)),oo 218 (.ld true 22 (.t 217)),oo 23 (.new ac3),qW 22 23 218]
abbrev acL:=[cA 219 0 5,cA 220 1 219,iL 221 1 220,cA 222 1 23,iL 223 1 222,oo 224 (.uS 4 (.t 221) (.t 223)),oo 225 (.ld true 4 (.t 224)),oo 24 (.new [.i .i64 0,.ns,.ns,.i .u64 0]),qW 4 24 225]
abbrev abD:=[oo 25 (.mv (.c (.b false)))]
abbrev abw:=[cA 226 1 24,iL 227 1 226,oo 228 (.lh (.t 227)),oo 229 (.mv (.c (.i .i64 0)))]
abbrev abX:=[ot 230 (.bin .lss (.t 229) (.t 228))]
abbrev acQ:=[oo 231 (.uS 1 (.t 227) (.t 229)),iL 232 1 231,fH 27 232]
abbrev acX:=[fH 233 25,ot 234 (.mv (.t 233)),IK 235 27 234,AP 236 4 11 234,Jf 237 1 236 234,og 238 (.bin .eql (.t 235) (.t 237)) 234 false false,KA 239 234 238,fH 25 239]
abbrev aaf:=[I6 240 229 1,fH 229 240]
abbrev Mh:=(lU abX (.seq (.cond (.t 230) .skip (.exit 7)) (.seq (.block 8 (lU acQ (.dY acX))) (.dY aaf))))
abbrev acN:=[fH 241 7,cA 242 0 19,iL 243 1 242,cA 244 1 23,iL 245 1 244,oo 246 (.build [.i .i64 0,.i .i64 0] [(0,1,.t 243),(1,1,.t 245)]),oo 247 (.mpG 2 false (.i .i64 0) (.t 241) (.t 246)),fH 28 247]
abbrev aeW:=[fH 248 25,oo 249 (.not (.t 248)),ot 250 (.mv (.t 249)),AP 251 0 24 250,Jf 252 1 251 250,AP 253 0 19 250,Jf 254 1 253 250,og 255 (.bin .eql (.t 252) (.t 254)) 250 false false,KA 256 250 255,ot 257 (.mv (.t 256)),AP 258 3 24 257,Jf 259 1 258 257,AP 260 0 19 257,Jf 261 1 260 257,og 262 (.bin .shr (.t 259) (.t 261)) 257 false false,og 263 (.bin .and (.t 262) (.c (.i .u64 1))) 257 false false,og 264 (.bin .eql (.t 263) (.c (.i .u64 1))) 257 false false,KA 265 257 264,ot 266 (.mv (.t 265)),AP 267 1 19 266,AP 268 2 267 266,Jf 269 1 268 266,IK 270 28 266,og 271 (.bin .add (.t 270) (.c (.i .i64 1))) 266 false false,og 272 (.bin .rem (.t 271) (.c (.i .i64 65536))) 266 false false,og 273 (.bin .neq (.t 269) (.t 272)) 266 false false,ot 274 (.pick (.t 266) (.c (.b true)) (.t 273))]
abbrev adi:=[oo 4 (.mv (.c (.b false)))]
abbrev abo:=[fH 275 7,cA 276 0 19,iL 277 1 276,cA 278 1 23,iL 279 1 278,oo 280 (.build [.i .i64 0,.i .i64 0] [(0,1,.t 277),(1,1,.t 279)]),cA 281 1 19,cA 282 2 281,iL 283 1 282,ZL (.ZA 2 (.t 275) (.t 280) (.t 283))]
abbrev aeo:=[I6 284 148 1,fH 148 284]
abbrev Cc:=(lU ab2 (.seq (.cond (.t 149) .skip (.exit 3)) (.seq (.block 4 (lU aby (lU abm (.seq (lU acr (.block 5 (.loop Mg))) (.seq (.seq (.jv ae0) (.cond (.t 213) (lU aev .ret) .skip)) (lU aaB (lU acL (lU abD (.seq (lU abw (.block 7 (.loop Mh))) (lU acN (.seq (lU aeW (.cond (.t 274) (lU adi .ret) .skip)) (.dY abo)))))))))))) (.dY aeo))))
abbrev aa6:=[oo 285 (.ld true 3 (.t 15)),qW 3 6 285]
abbrev adV:=[I6 286 43 1,fH 43 286]
abbrev nq:=(lU ai2 (.seq (.cond (.t 44) .skip (.exit 0)) (.seq (.block 1 (lU aje (lU aer (lU Z9 (lU aex (.seq (lU abh (.cond (.t 67) (.dY abC) .skip)) (lU adz (lU ade (.seq (.block 2 (lU aaR (.cond (.t 77) (.dY ac5) (lU ab8 (.cond (.t 86) (lU acE (lU acw (.cond (.t 109) (.dY abi) .skip))) (lU ab0 (.cond (.t 114) (.dY ac0) (lU ad1 (.cond (.t 126) (.dY ach) .skip))))))))) (.seq (lU Z5 (.cond (.t 142) (.exit 1) .skip)) (.seq (lU ab9 (.cond (.t 145) (lU adK .ret) .skip)) (.seq (lU aap (.block 3 (.loop Cc))) (.dY aa6))))))))))))) (.dY adV))))
abbrev aeA:=[oo 4 (.mv (.c (.b true)))]
abbrev i3c:=(lU ajm (.seq (lU ah0 (.cond (.t 30) (lU aiR .ret) .skip)) (lU ai6 (lU af1 (lU ahf (lU agD (.seq (lU afI (.block 0 (.loop nq))) (lU aeA .ret))))))))
def i3:cZ:=⟨2,287,[30,44,67,77,86,109,114,126,142,145,149,156,173,213,230,274],i3c,[.t 4]⟩
theorem Z3:ah ay Tryz.f3=some i3:=by kernel_rfl
end Go.Proofs.Rom
namespace Go.Proofs
open Go.Shelf
def Tryz.Ij:Go.Shelf.Ren:=⟨fun|6=>106|15=>172|14=>171|28=>219|29=>220|20=>211|21=>212|22=>213|23=>214|24=>215|25=>216|26=>217|27=>218|46=>242|47=>243|48=>244|49=>245|50=>246|57=>252|n=>n,fun|22=>85|24=>121|25=>191|3=>3|39=>67|0=>0|53=>125|55=>247|4=>4|46=>283|45=>282|50=>148|5=>5|9=>9|66=>302|70=>306|76=>311|77=>111|n=>n,fun|n=>n⟩
theorem Tryz.TP:Go.Proofs.SlLaysF0.n6 ay Tryz.Ij:={
 mixed:=by kernel_rfl
 f6:=⟨Tryz.f106.name,by decide,Tryz.func106.trans (dC some (by kernel_rfl))⟩
 f14:=⟨Tryz.f171.name,by decide,Tryz.func171.trans (dC some (by kernel_rfl))⟩
 f15:=Tryz.func172.trans (dC some (by kernel_rfl))
 f20:=⟨Tryz.f211.name,by decide,Tryz.func211.trans (dC some (by kernel_rfl))⟩
 f21:=⟨Tryz.f212.name,by decide,Tryz.func212.trans (dC some (by kernel_rfl))⟩
 f22:=⟨Tryz.f213.name,by decide,Tryz.func213.trans (dC some (by kernel_rfl))⟩
 f23:=⟨Tryz.f214.name,by decide,Tryz.func214.trans (dC some (by kernel_rfl))⟩
 f24:=⟨Tryz.f215.name,by decide,Tryz.func215.trans (dC some (by kernel_rfl))⟩
 f25:=⟨Tryz.f216.name,by decide,Tryz.func216.trans (dC some (by kernel_rfl))⟩
 f26:=⟨Tryz.f217.name,by decide,Tryz.func217.trans (dC some (by kernel_rfl))⟩
 f27:=⟨Tryz.f218.name,by decide,Tryz.func218.trans (dC some (by kernel_rfl))⟩
 f28:=Tryz.func219.trans (dC some (by kernel_rfl))
 f29:=Tryz.func220.trans (dC some (by kernel_rfl))
 f46:=⟨Tryz.f242.name,by decide,Tryz.func242.trans (dC some (by kernel_rfl))⟩
 f47:=Tryz.func243.trans (dC some (by kernel_rfl))
 f48:=Tryz.func244.trans (dC some (by kernel_rfl))
 f49:=⟨Tryz.f245.name,by decide,Tryz.func245.trans (dC some (by kernel_rfl))⟩
 f50:=⟨Tryz.f246.name,by decide,Tryz.func246.trans (dC some (by kernel_rfl))⟩
 f57:=⟨Tryz.f252.name,by decide,Tryz.func252.trans (dC some (by kernel_rfl))⟩
 t0:=Tryz.underlying0
 a0:=Tryz.isAgg0
 z0:=Tryz.sizeOf0
 v0:=Tryz.zeroValue0
 t3:=Tryz.underlying3
 a3:=Tryz.isAgg3
 z3:=Tryz.sizeOf3
 v3:=Tryz.zeroValue3
 t4:=Tryz.underlying4
 a4:=Tryz.isAgg4
 z4:=Tryz.sizeOf4
 v4:=Tryz.zeroValue4
 t5:=Tryz.underlying5
 a5:=Tryz.isAgg5
 z5:=Tryz.sizeOf5
 v5:=Tryz.zeroValue5
 t9:=Tryz.underlying9
 a9:=Tryz.isAgg9
 z9:=Tryz.sizeOf9
 v9:=Tryz.zeroValue9
 t22:=Tryz.underlying85
 a22:=Tryz.isAgg85
 z22:=Tryz.sizeOf85
 v22:=Tryz.zeroValue85
 t25:=Tryz.underlying191
 a25:=Tryz.isAgg191
 z25:=Tryz.sizeOf191
 v25:=Tryz.zeroValue191
 t39:=Tryz.underlying67
 a39:=Tryz.isAgg67
 z39:=Tryz.sizeOf67
 v39:=Tryz.zeroValue67
 t45:=Tryz.underlying282
 a45:=Tryz.isAgg282
 z45:=Tryz.sizeOf282
 v45:=Tryz.zeroValue282
 t46:=Tryz.underlying283
 a46:=Tryz.isAgg283
 z46:=Tryz.sizeOf283
 v46:=Tryz.zeroValue283
 t50:=Tryz.underlying148
 a50:=Tryz.isAgg148
 z50:=Tryz.sizeOf148
 v50:=Tryz.zeroValue148
 t53:=Tryz.underlying125
 a53:=Tryz.isAgg125
 z53:=Tryz.sizeOf125
 v53:=Tryz.zeroValue125
 t55:=Tryz.underlying247
 a55:=Tryz.isAgg247
 z55:=Tryz.sizeOf247
 v55:=Tryz.zeroValue247
 t66:=Tryz.underlying302
 a66:=Tryz.isAgg302
 z66:=Tryz.sizeOf302
 v66:=Tryz.zeroValue302
 t70:=Tryz.underlying306
 a70:=Tryz.isAgg306
 z70:=Tryz.sizeOf306
 v70:=Tryz.zeroValue306
 t76:=Tryz.underlying311
 a76:=Tryz.isAgg311
 z76:=Tryz.sizeOf311
 v76:=Tryz.zeroValue311
 t77:=Tryz.underlying111
 a77:=Tryz.isAgg111
 z77:=Tryz.sizeOf111
 v77:=Tryz.zeroValue111}
def Tryz.EM:Go.Shelf.Ren:=⟨fun|5=>109|7=>173|n=>n,fun|22=>3|3=>3|4=>4|n=>n,fun|n=>n⟩
theorem Tryz.YO:Go.Proofs.SlLaysC2.n5 ay Tryz.EM:={
 mixed:=by kernel_rfl
 f5:=⟨Tryz.f109.name,by decide,Tryz.func109.trans (dC some (by kernel_rfl))⟩
 f7:=⟨Tryz.f173.name,by decide,Tryz.func173.trans (dC some (by kernel_rfl))⟩
 t3:=Tryz.underlying3
 a3:=Tryz.isAgg3
 z3:=Tryz.sizeOf3
 v3:=Tryz.zeroValue3
 t4:=Tryz.underlying4
 a4:=Tryz.isAgg4
 z4:=Tryz.sizeOf4
 v4:=Tryz.zeroValue4
 t22:=Tryz.underlying3
 a22:=Tryz.isAgg3
 z22:=Tryz.sizeOf3
 v22:=Tryz.zeroValue3}
end Go.Proofs
namespace Go.Proofs.Rom
open Go Go.Shelf Go.RowKit Go.Lib Go.Sort
def orZ (a b:Int):Int:=if a≠0 then a else b
theorem or2 (a b:Int) (B:Nat) (W:World) (h0:W.cell? ⟨B,0,none⟩=some (.int .i64 a)) (h1:W.cell? ⟨B,1,none⟩=some (.int .i64 b)):
 Calls ay 108 #[.slice (some ⟨B,0,none⟩) 2 2] W λe w'=>e= .returned (.int .i64 (orZ a b))/\w'=W:=by
 unfold orZ;by_cases ha:a=0<;>by_cases hb:b=0<;>
 ·go_enter Tryz.func108,Tryz.ntmps108
  go_wp2
  refine wp_loop_rounds 3 ?_
  iterate 3 (first|(rw [rounds_succ];go_wp2)|skip)
  all_goals (go_ret;simp [*])
def yV (x y:Int×Int):Int:=orZ (Lib.compareInt x.1 y.1) (Lib.compareInt x.2 y.2)
theorem al2 (u v:Value) (t:TypeId) (W:World) (n:Nat) (hn:W.heap.size=n):(W.alloc (Obj.cells #[u,v] t)).drew.cell? ⟨n,0,none⟩=some u/\(W.alloc (Obj.cells #[u,v] t)).drew.cell? ⟨n,1,none⟩=some v:=by
 subst hn;have e:(W.alloc (Obj.cells #[u,v] t)).drew.heap[W.heap.size]? =some (Obj.cells #[u,v] t):=Array.getElem?_push_size;unfold World.cell?;rw [e];exact ⟨rfl,rfl⟩
theorem abP {W:World} {a b:Obj}:((W.alloc a).alloc b).heap.size=W.heap.size+1+1:=by
 show ((W.heap.push a).push b).size=_;rw [Array.size_push,Array.size_push]
theorem ajc (W:World) (a b c:Obj):(((W.alloc a).alloc b).alloc c).drew=grow (W.drewN 1) #[a,b,c]:=by
 have e:((W.heap.push a).push b).push c=W.heap++ #[a,b,c]:=by
  apply Array.ext';simp
 show ({W with heap:=((W.heap.push a).push b).push c,drawn:=W.drawn+1}:World)={W with heap:=W.heap++ #[a,b,c],drawn:=W.drawn+1}
 rw [e]
theorem adF (x y:Int×Int) (W:World):Calls ay 107 #[.agg #[.int .i64 x.1,.int .i64 x.2],.agg #[.int .i64 y.1,.int .i64 y.2]] W λe w'=>e= .returned (.int .i64 (yV x y))/\ ∃q os',w'=grow (W.drewN q) os':=by
 have hcon:=λa b W'=>AnyG.cmp_Compare_int Tryz.YO a b W';change ∀a b W',Calls ay 109 _ _ _ at hcon;unfold yV
 go_enter Tryz.func107,Tryz.ntmps107
 go_wp2
 go_region_held3 (λw'=>w'.cell? ⟨W.heap.size,0,none⟩=some (.int .i64 x.1)/\w'.cell? ⟨W.heap.size,1,none⟩=some (.int .i64 x.2)/\w'.cell? ⟨W.heap.size+1,0,none⟩=some (.int .i64 y.1)/\w'.cell? ⟨W.heap.size+1,1,none⟩=some (.int .i64 y.2)) (go_keep)
  (first
    |(go_at_call 109;refine (hcon _ _ _).mono ?_;rintro e w' ⟨rfl,rfl⟩)
    |(go_at_call 108;refine (or2 (Lib.compareInt x.1 y.1) (Lib.compareInt x.2 y.2) _ _ ?_ ?_).mono ?_;(exact (al2 _ _ _ _ _ abP).1);(exact (al2 _ _ _ _ _ abP).2);rintro e w' ⟨rfl,rfl⟩))
 all_goals go_wp2
 all_goals go_ret
 exact ⟨rfl,1,_,ajc W _ _ _⟩
end Go.Proofs.Rom
namespace Go.Proofs.Rom
open Go Go.Shelf Go.RowKit Go.Lib Go.Sort Go.Ab
def gp (x:Int×Int):List AV:=[.i .i64 x.1,.i .i64 x.2]
theorem iq (x:Int×Int):(gp x).length=2:=rfl
theorem ER (x:Int×Int):ab 0 (gp x)=true:=rfl
def wv (x:Int×Int):List Value:=[.int .i64 x.1,.int .i64 x.2]
theorem dU.stays {D:Nat->Prop} {φ:bP} {H:Go.Ab.Hf} {w w':World} (hH:HR D φ H w) (hos:w'.os=w.os) (ht:w'.tape=w.tape) (ho:w'.output=w.output) (hsz:w.heap.size<=w'.heap.size) (hst: ∀c,c<w.heap.size->w'.heap[c]? =w.heap[c]?):dU D φ H w D φ H w':=
 dU.mk' hH rfl rfl (λ_ h=>h) (cT.refl D φ).at_ ⟨λb k hb=>⟨(hH.at_ b k hb).1,(hH.at_ b k hb).2.mono (λ_ h=>h) (cT.refl _ _) (hH.at_ b k hb).1 (hst _ (hH.at_ b k hb).2.lt)⟩,hH.sep⟩
  ⟨hos,ht,ho,hsz,λc hc _=>hst c hc⟩ (λb k hb hk=> .inr ⟨b,k,hb,hk,rfl⟩)
theorem Az {h:Array Obj} {B:Nat} {cs:Array Value} {elem:TypeId} {fr:Nat×Nat} {f:Array Value->Array Value} (hk:h[B]? =some (.cells cs elem fr)):h.modify B (onCells f)=h.setIfInBounds B (.cells (f cs) elem fr):=by
 apply Array.ext_getElem?;intro c;have hB:B<h.size:=by
  rcases eV B h.size with h'|h'
  ·exact h'
  ·rw [JE h'] at hk;cases hk
 rw [Array.getElem?_modify,Array.getElem?_setIfInBounds];by_cases hc:B=c
 ·subst hc;rw [aT rfl,aT rfl,aT hB,hk];rfl
 ·rw [aY hc,aY hc]
theorem Vh {D:Nat->Prop} {φ:bP} {l:List (Int×Int)} {t:Nat} {u:Value} {v:AV} (ht:t<l.length*2) (hv:(rows gp l)[t]? =some v) (hu:aK D φ v u):u=(wv l.toArray[t/2]!)[t % 2]! :=by
 have hk:t/2<l.length:=by omega
 have hg:l[t/2]? =some l[t/2]:=by simp [hk]
 have he:l.toArray[t/2]! =l[t/2]:=by simp [hk]
 rw [he];rcases Nat.mod_two_eq_zero_or_one t with h|h
 ·have:=bM iq (j:=0) (v:= .i .i64 l[t/2].1) hg rfl;rw [show t/2*2+0=t by omega,hv] at this
  cases this;cases hu;rw [h];rfl
 ·have:=bM iq (j:=1) (v:= .i .i64 l[t/2].2) hg rfl;rw [show t/2*2+1=t by omega,hv] at this
  cases this;cases hu;rw [h];rfl
theorem Wx (D:Nat->Prop) (φ:bP) {l:List (Int×Int)} {t:Nat} {v:AV} (hv:(rows gp l)[t]? =some v):aK D φ v (wv l.toArray[t/2]!)[t % 2]! :=by
 have ht:t<l.length*2:=by
  rcases eV t (rows gp l).length with h|h
  ·rwa [aU iq] at h
  ·rw [lu h] at hv;cases hv
 have hk:t/2<l.length:=by omega
 have hg:l[t/2]? =some l[t/2]:=by simp [hk]
 have he:l.toArray[t/2]! =l[t/2]:=by simp [hk]
 rw [he];rcases Nat.mod_two_eq_zero_or_one t with h|h
 ·have:=bM iq (j:=0) (v:= .i .i64 l[t/2].1) hg rfl;rw [show t/2*2+0=t by omega,hv] at this
  cases this;rw [h];exact .i _ _
 ·have:=bM iq (j:=1) (v:= .i .i64 l[t/2].2) hg rfl;rw [show t/2*2+1=t by omega,hv] at this
  cases this;rw [h];exact .i _ _
theorem XF {P:Program} {f g:FuncId} {lt:Int×Int->Int×Int->Bool}
 (hC: ∀(cI off cap:Nat) (d:Array (Int×Int)) (w:World),HoldsK wv 2 w cI off d->cI<w.heap.size->d.size<4611686018427387904->Calls P f #[.slice (some ⟨cI,off,none⟩) d.size cap,.func (.func g) #[] #[]] w λe w'=>
   e= .returned (.tuple #[])/\ ∃d' n os,PermIn 0 d.size d d'/\SortedIn lt 0 d.size d'/\w'=sortWorldK wv 2 w cI off n d' os)
 (he:ext P f=false) (hy:f≠YB) {l L:List (Int×Int)} (hsz:l.length<4611686018427387904) (hL: ∀m,m.Perm l->(m.Pairwise λx y=>lt y x=false)->m=L):
 bG P f [.sg 0 0 l.length,.fn g []] [(0,{cells:=rows gp l,gr:=some 2})] 1 (.bz []) [(0,{cells:=rows gp L,gr:=some 2})] 1:=by
 intro D φ w us hD hH ha;obtain ⟨u0,us1,rfl,h0,ha⟩:=ha.eB;obtain ⟨u1,us2,rfl,h1,ha⟩:=ha.eB;cases ha.mq;obtain ⟨hg,mm,rfl,hm⟩:=h1.yd;cases hm.mq;cases h0 with
 |sg _ _ _ j cap h hj hc hl=>
 have hb0:=hH.at_ 0 _ rfl;obtain ⟨⟨cs,elem,fr,hk,hcs,hfr,hgr⟩,hgid⟩:=hb0.2;have hk:=hk.cells rfl;have hB:φ.cI 0<w.heap.size:=hb0.2.lt;have cell: ∀t,t<l.length*2->cs[φ.off 0+t]? =some (wv l.toArray[t/2]!)[t % 2]! :=λt ht=>by
  have h2:t<(rows gp l).length:=by rw [aU iq];exact ht
  obtain ⟨u,h3,h4⟩:=hcs t (rows gp l)[t] (by simp [h2])
  rw [h3,Vh ht (by simp [h2]) h4]
 have HH:HoldsK wv 2 w (φ.cI 0) (φ.off 0+0) l.toArray:=λt ht=>by
  rw [size_flatK,yq] at ht;rw [get_flatK _ _ _ t (by rw [yq];exact ht)]
  have h3:=cell t ht;have hlt:φ.off 0+t<cs.size:=by
   rcases eV (φ.off 0+t) cs.size with h'|h'
   ·exact h'
   ·rw [JE h'] at h3;cases h3
  refine ⟨?_,?_⟩
  ·simp only [World.cell?,hk,kA,Option.isSome_none,ei,dP,h3];rfl
  ·have:=(hfr rfl).2 (φ.off 0+t) (.inl hlt);simp only [World.frozen?,hk,kA];simpa using this
 have hcall:=hC (φ.cI 0) (φ.off 0+0) cap l.toArray w HH hB (by rw [yq];exact hsz)
 rw [yq] at hcall;refine tu.of (hcall.mono λe w' hx=> ?_) hy he;obtain ⟨rfl,d',n,os,hp,hs,rfl⟩:=hx;have hsd:d'.size=l.length:=by simpa using hp.1
 have hd:d'.toList=L:=hL _ (by
  have:=hp.2.2;rw [Array.extract_eq_self_of_le (by omega),Array.extract_eq_self_of_le (by simp)] at this
  simpa using this) (by
  refine C3.2 λi j hi hj hij=> ?_;have:=hs i j (cr _) hij (by simpa [hsd] using hj)
  rw [getElem!_pos d' i (by simpa using hi),getElem!_pos d' j (by simpa using hj)] at this
  simpa using this)
 have hdL:d'=L.toArray:=by rw [<-hd]
 subst hdL;have hLl:L.length=l.length:=by simpa using hsd
 refine ⟨D,φ,_,rfl,hD,.bz [] #[] rfl (λi a u h1=>by simp at h1),?_⟩
 have s1:dU D φ (aa [(0,{cells:=rows gp l,gr:=some 2})]) w D φ (λc=>if c=0 then some {cells:=rows gp L,gr:=some 2} else aa [(0,{cells:=rows gp l,gr:=some 2})] c) (putRowK wv 2 (Sort.ahead w n) (φ.cI 0) (φ.off 0+0) L.toArray):=
  dU.write (k:={cells:=rows gp l,gr:=some 2}) (xs:=rows gp L) (cs':=putCells id (φ.off 0+0) (flatK wv 2 L.toArray) cs) hH rfl rfl hk (Az (h:=w.heap) hk) rfl rfl rfl (by simp [putCells]) λi v hv=>by
   have hi:i<L.length*2:=by
    rcases eV i (rows gp L).length with h|h
    ·rwa [aU iq] at h
    ·rw [lu h] at hv;cases hv
   refine ⟨_,?_,Wx D φ hv⟩;rw [putCells,Array.getElem?_mapIdx,cell i (by omega),iI,aT ⟨by omega,by rw [size_flatK,yq];omega⟩]
   rw [show φ.off 0+i-(φ.off 0+0)=i by omega,get_flatK _ _ _ i (by rw [yq];exact hi)]
   rfl
 have eH:(λc=>if c=0 then some {cells:=rows gp L,gr:=some 2} else aa [(0,{cells:=rows gp l,gr:=some 2})] c)=aa [(0,{cells:=rows gp L,gr:=some 2})]:=by
  funext c;by_cases hc:c=0
  ·subst hc;rfl
  ·rw [aY hc];cases c with
   |zero=>exact absurd rfl hc
   |succ c=>rfl
 rw [eH] at s1;refine s1.trans (dU.stays s1.hr rfl rfl rfl (by rw [sortWorldK,size_grow];exact Nat.le_add_right _ _) λc hc=> ?_)
 rw [sortWorldK,grow,Array.getElem?_append_left hc]
end Go.Proofs.Rom
namespace Go.Proofs.Rom
open Go.Ab
def Mu (x y:Int×Int):Bool:=decide (yV x y<0)
theorem qy (x y:Int×Int):Mu x y=true↔x.1<y.1\/(x.1=y.1/\x.2<y.2):=by
 unfold Mu yV orZ Lib.compareInt
 grind
theorem ais:Go.Sort.SWO (Go.Proofs.ltOf yV) where
 irrefl x:=by
  have:Go.Proofs.ltOf yV x x=Mu x x:=rfl;rw [this,<-kG,qy];omega
 trans x y z h1 h2:=by
  have e: ∀a b,Go.Proofs.ltOf yV a b=Mu a b:=λ_ _=>rfl
  grind [qy]
 ntrans x y z h1 h2:=by
  have e: ∀a b,Go.Proofs.ltOf yV a b=Mu a b:=λ_ _=>rfl;rw [e,<-kG,qy] at *;omega
theorem adL (cI off cap:Nat) (d:Array (Int×Int)) (w:World) (hH:Go.Sort.HoldsK wv 2 w cI off d) (hblk:cI<w.heap.size) (hsz:d.size<4611686018427387904):
 Calls ay 106 #[.slice (some ⟨cI,off,none⟩) d.size cap,.func (.func 107) #[] #[]] w λe w'=>
  e= .returned (.tuple #[])/\ ∃d' n os,Go.Sort.PermIn 0 d.size d d'/\Go.Sort.SortedIn (Go.Proofs.ltOf yV) 0 d.size d'/\w'=Go.Proofs.sortWorldK wv 2 w cI off n d' os:=by
 have eg: ∀args w,(callFunc 107 args).run ay w= .ok (.enter 107 args) w:=enters_of Tryz.func107 (by kernel_rfl) rfl
 exact Go.Proofs.AnyQ.slices_SortFunc Tryz.TP 2 Tryz.isAgg121 Tryz.sizeOf121 wv (λ_=>rfl) (λx v hv=>by simp [wv] at hv;rcases hv with rfl|rfl<;>rfl) yV ais 107 #[] cI off cap d w eg (λ_ _ _ _ x y=>adF x y _) hH hblk hsz
def kZ (l:List (Int×Int)):List (Int×Int):=l.mergeSort λx y=> !Mu y x
theorem zg (l:List (Int×Int)):(kZ l).Perm l:=List.mergeSort_perm _ _
theorem KB (l:List (Int×Int)):(kZ l).Pairwise λx y=>Mu y x=false:=by
 have h:=List.pairwise_mergeSort (le:=λx y:Int×Int=> !Mu y x) (λa b c h1 h2=>by
  simp only [gG,<-kG,qy] at *;omega) (λa b=>by
  simp only [mA,gG,<-kG,qy];omega) l
 exact h.imp λh=>by simpa using h
theorem JX {l m:List (Int×Int)} (hp:m.Perm l) (hs:m.Pairwise λx y=>Mu y x=false):m=kZ l:=by
 refine List.Perm.eq_of_pairwise (le:=λx y=>Mu y x=false) (λa b _ _ h1 h2=> ?_) hs (KB l) (hp.trans (zg l).symm);rw [<-kG,qy] at h1 h2
 grind
theorem L7 (l:List (Int×Int)):(gQ gp 2 l).plain=true:=(p7 (f:=gp) ER iq l).pl
theorem ah7 (l:List (Int×Int)) (hl:l.length<=1000) (h0:0<l.length):bG ay 106 [.sg 0 0 l.length,.fn 107 []] [(0,{cells:=rows gp l,gr:=some 2})] 1 (.bz []) [(0,{cells:=rows gp (kZ l),gr:=some 2})] 1:=
 XF adL (by kernel_rfl) (by decide) (by omega) (λm hp hs=>JX hp hs)
theorem adh:bG ay 106 [.ns,.fn 107 []] [] 0 (.bz []) [] 0:=by
 intro D φ w us hD hH ha;obtain ⟨u0,us1,rfl,h0,ha⟩:=ha.eB;obtain ⟨u1,us2,rfl,h1,ha⟩:=ha.eB;cases ha.mq;cases h0;have hc:=Go.Proofs.AnyF.slices_SortFunc_none Tryz.TP none 0 u1 w;refine tu.of (hc.mono λe w' hx=> ?_) (by decide) (by kernel_rfl)
 obtain ⟨rfl,rfl⟩:=hx;exact ⟨D,φ,.tuple #[],rfl,hD,.bz [] #[] rfl (λi a u h1=>by simp at h1),dU.refl hH⟩
def nX (l:List (Int×Int)):Nat->List (Int×Int)
 |0=>[]
 |j+1=>match l[j]? with
  |some x=>if 0<j/\l[j-1]? =some x then nX l j else nX l j++[x]
  |none=>nX l j
def lQ (l:List (Int×Int)):List (Int×Int):=nX l l.length
theorem Uj {l:List (Int×Int)} {j:Nat} {x y:Int×Int} (hx:l[j]? =some x) (hy:l[j-1]? =some y) (hj:0<j):nX l (j+1)=if y=x then nX l j else nX l j++[x]:=by
 simp_all [nX,aI,lI]
theorem Vu (l:List (Int×Int)) (k:Nat) (x:Int×Int) (hk:k<l.length):List.take (k*2) (rows gp l)++gp x++List.drop (k*2+2) (rows gp l)=rows gp (l.set k x):=by
 have e1:l=l.take k++l[k]::l.drop (k+1):=by simp
 have e2:l.set k x=l.take k++x::l.drop (k+1):=by grind
 have hl:(rows gp (l.take k)).length=k*2:=by rw [aU iq,fY,pY (by omega)]
 have e3:rows gp l=rows gp (l.take k)++(gp l[k]++rows gp (l.drop (k+1))):=by grind [cX,dO]
 simp_all [List.drop_append,rows,gp,List.drop,oE]
theorem CR (j:Nat) (l:List (Int×Int)):ab j (rows gp l)=true:=au _ (bh ER)
theorem gpR (ψ:Nat->Nat) (l:List (Int×Int)):aS ψ (rows gp l)=rows gp l:=aJ _ (bh ER)
theorem Td (x y:Int×Int):eqs [.i,.i] (gp x) (gp y)=some (decide (x=y)):=by
 show some ((x.1==y.1)&&((x.2==y.2)&&true))=_;rw [aI,rh]
 grind
theorem aab:bG ay 110 [.ns] [] 0 (.fz [] 0) [] 0:=by
 refine bG.dy (cx:=cj []) Sound.nil mo Tryz.func110 Gl (by simp [i110]) (aO ?_)
 dsimp only [i110];simp only [go_sem,simprocAttr];refine aZ.wu (l:=[]) (v':= .fz [] 0) bW.hit ?_;exact aZ.ends (Ends.aw rfl rfl)
noncomputable abbrev acI:Fx:=⟨ay,cj [],[8,13,25,32,44],61,1⟩
theorem ahN (l:List (Int×Int)) (hl:l.length<=1000) (h0:0<l.length):bG ay 110 [.sg 0 0 l.length] [(0,{cells:=rows gp l,gr:=some 2})] 1 (.fz (rows gp (lQ l)) (lQ l).length) [] 1:=by
 have hat: ∀(m:List (Int×Int)) (i:Nat) x,m[i]? =some x->List.take 2 (List.drop (i*2) (rows gp m))=gp x:=λm i x h=>dm (f:=gp) iq h;have g2: ∀x,(gp x).length=2:=iq;refine bG.dy (cx:=cj []) Sound.nil mo Tryz.func110 Gl (by simp [i110]) (aO ?_)
 dsimp only [i110];cases c0:decide ((l.length:Int)<2);rotate_left
 ·have hd:lQ l=l:=by
   have h1:l.length=1:=by grind
   match l,h1 with
   |[x],_=>rfl
  rw [hd];simp only [go_sem,c0,simprocAttr];refine aZ.rY (b:=0) (x:= .sg 0 0 l.length) (k:={cells:=rows gp l,gr:=some 2}) (o:=0) (m:=l.length) (cs:=rows gp l) (v':= .fz (rows gp l) l.length) (h':=[]) rfl rfl (.inr rfl) (.inl rfl) bW.hit trivial ?_;simp [aZ.ends,Ends.aw,AV.aj,CR]
 have hn2:2<=l.length:=by grind
 simp only [go_sem,c0,simprocAttr];refine Loop.dV (F:=acI) Sound.nil mo l.length (λk=>1<=k+1/\k+1<=l.length/\nX l (k+1)=l.take (k+1)) (λk=>[(0,.sg 0 0 l.length),(3,.i .i64 ((k:Int)+1))]) (λk=>[(0,{cells:=rows gp l,gr:=some 2})]) 1 (show 1<=1 by decide) ⟨by omega,by omega,?_⟩ ?_ ?_ (λk hk hok=> ?_)
 ·grind [bj,nX,jY]
 ·simp only [go_sem,AV.aj,aP,simprocAttr]
 ·simp only [go_sem,CR,simprocAttr]
 obtain ⟨_,hk1,hdd⟩:=hok;have hcc:((k:Int)+1)=((k+1:Nat):Int):=by omega
 rw [hcc];by_cases hlt:k+1<l.length
 rotate_left
 ·have c1:decide (((k+1:Nat):Int)<(l.length:Int))=false:=bw (by omega)
  have hd:lQ l=l:=by
   grind [lQ,jh]
  rw [hd];simp only [go_sem,c1,simprocAttr];refine aZ.rY (b:=0) (x:= .sg 0 0 l.length) (k:={cells:=rows gp l,gr:=some 2}) (o:=0) (m:=l.length) (cs:=rows gp l) (v':= .fz (rows gp l) l.length) (h':=[]) rfl rfl (.inr rfl) (.inl rfl) bW.hit trivial ?_;simp [aZ.ends,Ends.aw,AV.aj,CR]
 have c1:decide (((k+1:Nat):Int)<(l.length:Int))=true:=af (by omega)
 have c2:decide (0<=((k+1:Nat):Int)/\((k+1:Nat):Int)<(l.length:Int))=true:=af (by omega)
 have c3:decide (0<=(k:Int)/\(k:Int)<(l.length:Int))=true:=af (by omega)
 have w1:IntKind.i64.wrap (((k+1:Nat):Int)-1)=(k:Int):=by grind [aN]
 have w2:IntKind.i64.wrap (((k+1:Nat):Int)+1)=((k+1:Nat):Int)+1:=aN (by omega) (by omega)
 obtain ⟨x,hx⟩: ∃x,l[k+1]? =some x:=⟨_,bj hlt⟩;obtain ⟨y,hy⟩: ∃y,l[k]? =some y:=⟨_,bj (by omega)⟩
 have gx:=hat l _ x hx;have gy:=hat l _ y hy;have hxy:=Td x y;have hds:=Uj hx (y:=y) (by grind) (by omega)
 have x2:=g2 x;have y2:=g2 y;by_cases hxe:x=y
 rotate_left
 ·rw [bw hxe] at hxy;rw [aY (λh=>hxe h.symm)] at hds;have hdd2:nX l (k+1+1)=l.take (k+1+1):=by grind [jY]
  generalize gp x=GX,gp y=GY at*;have hB:=CR 1 l;generalize rows gp l=L at*;simp only [go_sem,c1,c2,c3,w1,w2,gx,gy,hxy,x2,y2,AV.aj,aP,hB,e9,simprocAttr]
  grind
 subst hxe;rw [aT rfl] at hds;rw [af rfl] at hxy;generalize hK0:k+1=K0 at*;have s1:decide (0<=(K0:Int)/\(K0:Int)<=(l.length:Int)/\0<=(l.length:Int))=true:=af (by omega)
 have s2:decide (K0=0\/K0<l.length)=true:=af (by omega)
 have gx':=gx;have gy':=gy;have x2':=x2;have hxy':=hxy;generalize gp x=GX at gx' gy' x2' hxy';generalize hLL:rows gp l=L at gx' gy' ⊢;simp only [go_sem,c1,c2,c3,w1,gx',gy',hxy',x2',s1,s2,AV.aj,aP,j3,simprocAttr];subst hLL;refine Loop.by (F:=acI) Sound.nil mo (X:=Nat×List (Int×Int)) (λx=>1<=x.1/\K0+x.1<=l.length/\x.2.length=l.length/\(nX l (K0+x.1)).length+1<=K0+x.1/\x.2.take (nX l (K0+x.1)).length=nX l (K0+x.1)/\ ∀q,K0+x.1<=q+1->x.2[q]? =l[q]?) (λx=>l.length-x.1)
  (λx=>[(0,.sg 0 0 l.length),(3,.i .i64 ((nX l (K0+x.1)).length:Int)),(4,.sg 0 (K0*2) (l.length-K0)),(5,.i .i64 (x.1:Int))])
  (λx=>[(0,{cells:=rows gp x.2,gr:=some 2})]) 1 (1,l) (show 1<=1 by decide) ⟨by omega,by omega,rfl,?_,?_,λq hq=>rfl⟩ ?_ ?_ (λx hxx=> ?_)
 ·grind
 ·grind
 ·dsimp only;rw [hds,hdd,fY,pY (by omega)]
  simp only [go_sem,AV.aj,aP,simprocAttr]
 ·simp only [go_sem,CR,simprocAttr]
 obtain ⟨i,M⟩:=x;obtain ⟨i1,i2,i3,i4,i5,i6⟩:=hxx;dsimp only at i1 i2 i3 i4 i5 i6 ⊢;have hp1:(nX l (K0+i)).length<=l.length:=by omega
 by_cases hil:i<l.length-K0
 rotate_left
 ·have e:K0+i=l.length:=by omega
  have d1:decide ((i:Int)<((l.length-K0:Nat):Int))=false:=bw (by omega)
  have hD:nX l (K0+i)=lQ l:=by rw [e];rfl
  rw [hD] at i4 i5 hp1 ⊢;have hMl:(rows gp M).length=l.length*2:=by rw [aU iq,i3]
  have hMt:List.take ((lQ l).length*2) (rows gp M)=rows gp (lQ l):=by rw [vf iq,i5]
  have hDl:(rows gp (lQ l)).length=(lQ l).length*2:=aU iq;generalize hP:(lQ l).length=P at*;have s1:decide (0<=(P:Int)/\(P:Int)<=(l.length:Int)/\0<=(l.length:Int))=true:=af (by omega)
  have s2:decide (P=0\/P<l.length)=true:=af (by omega)
  have s3:decide (0<=(P:Int)/\(P:Int)<=(l.length:Int))=true:=af (by omega)
  have le1:decide (P*2+(l.length-P)*2<=(rows gp M).length)=true:=af (by omega)
  have hMB:=CR 1 M;generalize rows gp M=MM at*;simp only [go_sem,d1,s1,s2,s3,le1,j3,simprocAttr];refine aZ.rY (b:=0) (x:= .sg 0 0 P) (o:=0) (m:=P) (cs:=rows gp (lQ l)) (v':= .fz (rows gp (lQ l)) P) (h':=[]) rfl rfl (.inr rfl) (.inr ?_) bW.hit trivial ?_;all_goals grind [dk,jy,List.take_left',aZ.ends,Ends.aw,AV.aj,CR]
 have d1:decide ((i:Int)<((l.length-K0:Nat):Int))=true:=af (by omega)
 have d2:decide (0<=(i:Int)/\(i:Int)<((l.length-K0:Nat):Int))=true:=af (by omega)
 have d3:decide (0<=(i:Int)-1/\(i:Int)-1<((l.length-K0:Nat):Int))=true:=af (by omega)
 have v1:IntKind.i64.wrap ((i:Int)-1)=(i:Int)-1:=aN (by omega) (by omega)
 have v2:IntKind.i64.wrap ((i:Int)+1)=((i+1:Nat):Int):=by grind [aN]
 have v3:IntKind.i64.wrap (((nX l (K0+i)).length:Int)+1)=(((nX l (K0+i)).length+1:Nat):Int):=by grind [aN]
 have v4:((i:Int)-1).toNat=i-1:=by omega
 obtain ⟨a,ha⟩: ∃a,l[K0+i]? =some a:=⟨_,bj (by omega)⟩
 obtain ⟨b,hb⟩: ∃b,l[K0+i-1]? =some b:=⟨_,bj (by omega)⟩
 have ga:=hat M (K0+i) a (by grind)
 have gb:=hat M (K0+(i-1)) b (by rw [i6 _ (by omega),show K0+(i-1)=K0+i-1 by omega];exact hb)
 rw [gi] at ga gb;have hab:=Td a b;have a2:=g2 a;have b2:=g2 b;have hds2:=Uj ha hb (by omega)
 by_cases hae:a=b
 ·rw [af hae] at hab;rw [aT hae.symm] at hds2;have e1:K0+(i+1)=K0+i+1:=rfl;have hMB:=CR 1 M;have hok:1<=i+1/\K0+(i+1)<=l.length/\M.length=l.length/\(nX l (K0+(i+1))).length+1<=K0+(i+1)/\M.take (nX l (K0+(i+1))).length=nX l (K0+(i+1))/\ ∀q,K0+(i+1)<=q+1->M[q]? =l[q]? :=by
   grind
  generalize hMM:rows gp M=MM,gp a=GA,gp b=GB at*;simp only [go_sem,d1,d2,d3,v1,v2,v4,ga,gb,hab,a2,b2,AV.aj,aP,simprocAttr];subst hMM;exact ⟨(i+1,M),⟨hok,by omega⟩,⟨by grind,rfl⟩,rfl,hMB⟩
 ·rw [bw hae] at hab;rw [aY (λh=>hae h.symm)] at hds2;have e1:K0+(i+1)=K0+i+1:=rfl;have hp2:(nX l (K0+i)).length<M.length:=by omega
  have sp:=Vu M (nX l (K0+i)).length a hp2;have p2:decide (0<=((nX l (K0+i)).length:Int)/\((nX l (K0+i)).length:Int)<(l.length:Int))=true:=af (by omega)
  have hMl:(rows gp M).length=M.length*2:=aU iq;have le1:decide ((nX l (K0+i)).length*2+2<=(rows gp M).length)=true:=af (by omega)
  have ao:aL (gp a)=true:=rfl;have hMB:=CR 1 (M.set (nX l (K0+i)).length a);have hok:1<=i+1/\K0+(i+1)<=l.length/\(M.set (nX l (K0+i)).length a).length=l.length/\(nX l (K0+(i+1))).length+1<=K0+(i+1)/\(M.set (nX l (K0+i)).length a).take (nX l (K0+(i+1))).length=nX l (K0+(i+1))/\ ∀q,K0+(i+1)<=q+1->(M.set (nX l (K0+i)).length a)[q]? =l[q]? :=by
   rw [e1,hds2,cm,uU];refine ⟨by omega,by omega,by grind,by omega,?_,λq hq=> ?_⟩
   ·simp_all [jY,List.take_set_of_le]
   grind [List.getElem?_set_ne]
  have hL2:(nX l (K0+(i+1))).length=(nX l (K0+i)).length+1:=by grind
  generalize hMM:rows gp M=MM,hMN:rows gp (M.set (nX l (K0+i)).length a)=MN,gp a=GA,gp b=GB at*;simp only [go_sem,d1,d2,d3,v1,v2,v3,v4,ga,gb,hab,a2,b2,p2,le1,ao,sp,AV.aj,aP,j3,simprocAttr];subst hMN;exact ⟨(i+1,M.set (nX l (K0+i)).length a),⟨hok,by omega⟩,⟨by grind,rfl⟩,rfl,hMB⟩
end Go.Proofs.Rom
