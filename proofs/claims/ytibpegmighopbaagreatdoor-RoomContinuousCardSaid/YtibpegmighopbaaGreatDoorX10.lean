/- Texts laid as one. -/
import Derived.Test.YtibpegmighopbaaGreatDoorX9
import Derived.Test.YtibpegmighopbaaGreatDoorX4
import Derived.Test.YtibpegmighopbaaGreatDoorX5
import Derived.Test.YtibpegmighopbaaGreatDoorX6
import Derived.Test.YtibpegmighopbaaGreatDoorX7
import Derived.Shelf.Strings.Builder1
import Derived.Shelf.Strings.Builder2
import Derived.Shelf.Strings.SlTrimAscii
import Derived.Shelf.Strings.BuilderF
import Derived.Shelf.Strings.Prefix
import Derived.Shelf.Bits.Mul64
import Derived.Shelf.Strings.Repeat
import Derived.Test.YtibpegmighopbaaGreatDoorProg
set_option maxRecDepth 100000
set_option maxHeartbeats 20000000
set_option linter.unusedSimpArgs false
set_option linter.unusedVariables false
namespace Go.Proofs.Rom
open Go.Ab
theorem mo:Tryz.prog.follows .mixedOrders=true:=by kernel_rfl
theorem ew {f:FuncId} {fn:Func} {I:cZ} {cx:Cx} {args:List AV} {h:Hp} {n:Nat} {v2:AV} {h2:Hp} {n2:Nat} (a:Sound ay cx) (b:Tryz.prog.funcs[f]? =some fn) (c:ah ay fn=some I) (d:jw ⟨ay,cx,I.ct,I.N,n⟩ I.code (re I.res λv h' n'=>Go.Ab.Ends n v h' n' v2 h2 n2) (fx 0 args) h n) (e:Nat.ble args.length I.N=true:=by rfl):bG ay f args h n v2 h2 n2:=bG.dQ a mo b c (Nat.le_of_ble_eq_true e) (aO d)
def bZ (lo hi x:Int):Bool:=decide (lo<=x)&&decide (x<=hi)
theorem agv (lo x hi:Int):bG ay 182 [.i .i64 lo,.i .i64 x,.i .i64 hi] [] 0 (.b (bZ lo hi x)) [] 0:=by
 refine ew Sound.nil Tryz.func182 PF ?_
 dsimp only [i182];simp only [go_sem,simprocAttr];repeat' (first|refine mu (λ_=> ?_) (λ_=> ?_)|refine js ?_ ?_)
 all_goals (refine Ends.aw rfl (dC _ ?_);simp [bZ] at *;try omega)
def kY:Ct
 |[.i .i64 lo,.i .i64 x,.i .i64 hi],_,n=>some (true,{v:= .b (bZ lo hi x),n})
 |_,_,_=>none
theorem abL:ax ay 182 kY:=λargs h n c E hc ht=>by
 unfold kY at hc;split at hc
 ·cases hc;exact aA.pure (by kernel_rfl) rfl rfl (agv _ _ _) _ _
 ·cases hc
theorem w8k (x:Int):(x==IntKind.i64.wrap (IntKind.u8.wrap x))=bZ 0 255 x:=by
 rw [xD,aN (by omega) (by omega),rh];grind [bZ]
theorem agP (x:Int):(x==IntKind.i64.wrap (IntKind.u16.wrap x))=bZ 0 65535 x:=by
 rw [Ay,aN (by omega) (by omega),rh];grind [bZ]
theorem aeZ (x:Int):(x==IntKind.i64.wrap (IntKind.u32.wrap x))=bZ 0 4294967295 x:=by
 rw [Aq,aN (by omega) (by omega),rh];grind [bZ]
theorem af2 (x:Int):(x==iO .i64 x 32767)=bZ 0 32767 x:=by
 rw [Tn,rh];grind [bZ]
def rM (s t i b:Int):Bool:=bZ 0 65535 s&&(bZ 0 4294967295 t&&(bZ 0 32767 i&&bZ 0 255 b))
theorem ahb (s t i b:Int):bG ay 184 [.agg [.i .i64 s,.i .i64 t,.i .i64 i,.i .i64 b]] [] 0 (.b (rM s t i b)) [] 0:=by
 refine ew Sound.nil Tryz.func184 Rl ?_
 dsimp only [i184];simp only [go_sem,w8k,agP,aeZ,af2,simprocAttr];repeat' (first|refine mu (λ_=> ?_) (λ_=> ?_)|refine js ?_ ?_)
 all_goals (refine Ends.aw rfl (dC _ ?_);simp [rM, *])
def vX:Ct
 |[.agg [.i .i64 s,.i .i64 t,.i .i64 i,.i .i64 b]],_,n=>some (true,{v:= .b (rM s t i b),n})
 |_,_,_=>none
theorem aiP:ax ay 184 vX:=λargs h n c E hc ht=>by
 unfold vX at hc;split at hc
 ·cases hc;exact aA.pure (by kernel_rfl) rfl rfl (ahb _ _ _ _) _ _
 ·cases hc
/-! switches -/
structure Sw where
 l:List Int
 ou:Int
 st:Int
 nw:Int
 wa:Int
 ca:Int
 ai:Int
 tp:Int
 fr:Int
 kp:Bool
 sq:Int
 tm:Int
 id:Int
 ba:Int
 ss:Int
 sT:Int
 si:Int
 sb:Int
def Sw.c (s:Sw) (v:AV):List AV:=[v,.i .i64 s.ou,.i .i64 s.st,.i .i64 s.nw,.i .i64 s.wa,.i .i64 s.ca,.i .i64 s.ai,.i .i64 s.tp,.i .i64 s.fr,.b s.kp,.i .i64 s.sq,.i .i64 s.tm,.i .i64 s.id,.i .i64 s.ba,.i .i64 s.ss,.i .i64 s.sT,.i .i64 s.si,.i .i64 s.sb]
def Sw.a (s:Sw):List AV:=[.fz (rows aq s.l) s.l.length,.i .i64 s.ou,.i .i64 s.st,.i .i64 s.nw,.i .i64 s.wa,.i .i64 s.ca,.i .i64 s.ai,.i .i64 s.tp,.i .i64 s.fr,.b s.kp,.i .i64 s.sq,.i .i64 s.tm,.i .i64 s.id,.i .i64 s.ba,.i .i64 s.ss,.i .i64 s.sT,.i .i64 s.si,.i .i64 s.sb]
theorem ib (j:Nat) (l:List Int):ab j (rows aq l)=true:=au _ (bh gV)
theorem Sw.aj (j:Nat) (s:Sw):ab j s.a=true:=by simp only [Sw.a,ab,AV.aj,ib,aG]
theorem eD (l:List Int):bc 1 dG l.length (rows aq l)=some l:=dM bR (λa=>rfl) l
def G9:List AV->Option Sw
 |[.fz L m,.i .i64 ou,.i .i64 st,.i .i64 nw,.i .i64 wa,.i .i64 ca,.i .i64 ai,.i .i64 tp,.i .i64 fr,.b kp,.i .i64 sq,.i .i64 tm,.i .i64 id,.i .i64 ba,.i .i64 ss,.i .i64 sT,.i .i64 si,.i .i64 sb]=>
  (bc 1 dG m L).bind λl=>some ⟨l,ou,st,nw,wa,ca,ai,tp,fr,kp,sq,tm,id,ba,ss,sT,si,sb⟩
 |_=>none
theorem pC (s:Sw):G9 s.a=some s:=by
 simp [G9,Sw.a,eD,aC]
theorem rU {c:List AV} {s:Sw} (e:G9 c=some s):c=s.a:=by
 unfold G9 at e;split at e
 ·simp only [av,aI] at e;obtain ⟨l,hl,rfl⟩:=e;obtain ⟨rfl,hm⟩:=bu (f:=aq) (λc a h=>df c a h) hl;subst hm;rfl
 ·cases e
theorem af5 (s:Sw):bG ay 185 [.agg s.a] [] 0 (.agg [.i .i64 s.sq,.i .i64 s.tm,.i .i64 s.id,.i .i64 s.ba]) [] 0:=by
 refine ew Sound.nil Tryz.func185 Pa ?_
 dsimp only [i185];simp only [Sw.a];simp only [go_sem,simprocAttr];exact Ends.aw rfl rfl
def vV:Ct
 |[.agg c],_,n=>(G9 c).bind λs=>some (true,{v:= .agg [.i .i64 s.sq,.i .i64 s.tm,.i .i64 s.id,.i .i64 s.ba],n})
 |_,_,_=>none
theorem ag9:ax ay 185 vV:=λargs h n c E hc ht=>by
 unfold vV at hc;split at hc
 ·simp only [av,aI,aV] at hc;obtain ⟨s,hs,_,rfl⟩:=hc;rw [rU hs];exact aA.pure (by kernel_rfl) (by simp only [ab,AV.aj,Sw.aj,aG]) rfl (af5 _) _ _
 ·cases hc
def oJ (l:List Int) (x:Int):Int:=vU (λy=>x==y) l 0
theorem abn {l:List Int} (h:l.length<=3):l=[]\/(∃a,l=[a])\/(∃a b,l=[a,b])\/ ∃a b c,l=[a,b,c]:=by
 match l,h with
 |[],_=>exact .inl rfl
 |[a],_=>exact .inr (.inl ⟨a,rfl⟩)
 |[a,b],_=>exact .inr (.inr (.inl ⟨a,b,rfl⟩))
 |[a,b,c],_=>exact .inr (.inr (.inr ⟨a,b,c,rfl⟩))
 |_::_::_::_::_,h=>exact absurd h (by simp)
theorem ahR (l:List Int) (x:Int) (hl:l.length<=3):bG ay 122 [.fz (rows aq l) l.length,.i .i64 x] [] 0 (.i .i64 (oJ l x)) [] 0:=by
 refine ew Sound.nil Tryz.func122 SY ?_
 dsimp only [i122];rcases abn hl with rfl|⟨a,rfl⟩|⟨a,b,rfl⟩|⟨a,b,c,rfl⟩
 all_goals (
  simp only [rows,aq,fJ,List.map_nil,List.flatten_cons,List.flatten_nil,dh,ez,List.nil_append,List.length_cons,fP];simp only [go_sem,simprocAttr];refine Loop.rounds (F:=⟨ay,cj [],[9,16],19,0⟩) 4 Sound.nil mo ?_;simp only [go_sem,simprocAttr];repeat' (first|refine mu (λ_=> ?_) (λ_=> ?_)|refine js ?_ ?_)
  all_goals (refine Ends.aw rfl (dC _ ?_);simp only [oJ,vU, *];try rfl))
def CG:Ct
 |[v,.i .i64 x],h,n=>xQ h 1 v λrd m cs ok=>(bc 1 dG m cs).bind λl=>some (ok&&decide (l.length<=3),{v:= .i .i64 (oJ l x),n,rd})
 |_,_,_=>none
theorem abY:ax ay 122 CG:=λargs h n c E hc ht=>by
 unfold CG at hc;split at hc
 ·rename_i v x;rw [pF] at hc;simp only [av,aI,aV] at hc;obtain ⟨⟨rd,m,cs,ok⟩,hv,l,hl,hc,rfl⟩:=hc;subst hc;simp only [ak,bg] at ht;obtain ⟨rfl,h3⟩:=ht;obtain ⟨rfl,rfl⟩:=bu (f:=aq) (λc a h=>df c a h) hl;exact aA.view (pre:=[]) (post:=[.i .i64 x]) (by kernel_rfl) hv (ib 0 l) rfl rfl rfl (ahR l x h3)
 ·cases hc
def T65:List (Nat×Ct):=[(122,CG)]
theorem agc:Sound ay (cj T65):=Sound.cons abY Sound.nil
theorem Lk (l:List Int) (x:Int):decide (0<=oJ l x)=l.any λy=>x==y:=wC _ l 0 (by omega)
theorem w65 (l:List Int) (x:Int) (hl:l.length<=3):bG ay 65 [.fz (rows aq l) l.length,.i .i64 x] [] 0 (.b (l.any λy=>x==y)) [] 0:=by
 refine ew agc Tryz.func65 WN ?_
 dsimp only [i65,T65];have h1:=λk=>nt (α:=Int) (β:=Bool×bV) (h:=([]:Hp)) (f:=aq) bR (l:=l) (k:=k);have h3:decide (l.length<=3)=true:=af hl;have h4:=Lk l x;simp only [go_sem,CG,h1,eD,h3,h4,ge_iff_le,simprocAttr];exact Ends.aw rfl rfl
def Tl:Ct
 |[v,.i .i64 x],h,n=>xQ h 1 v λrd m cs ok=>(bc 1 dG m cs).bind λl=>some (ok&&decide (l.length<=3),{v:= .b (l.any λy=>x==y),n,rd})
 |_,_,_=>none
theorem s65:ax ay 65 Tl:=λargs h n c E hc ht=>by
 unfold Tl at hc;split at hc
 ·rename_i v x;rw [pF] at hc;simp only [av,aI,aV] at hc;obtain ⟨⟨rd,m,cs,ok⟩,hv,l,hl,hc,rfl⟩:=hc;subst hc;simp only [ak,bg] at ht;obtain ⟨rfl,h3⟩:=ht;obtain ⟨rfl,rfl⟩:=bu (f:=aq) (λc a h=>df c a h) hl;exact aA.view (pre:=[]) (post:=[.i .i64 x]) (by kernel_rfl) hv (ib 0 l) rfl rfl rfl (w65 l x h3)
 ·cases hc
def Rn (l:List Int):Bool:=jB (λi=>bZ 0 4294967295 (l.getD i 0)&& !((l.take i).any λy=>l.getD i 0==y)) l.length
def Wn:List (Nat×Ct):=[(65,Tl)]
theorem Ua:Sound ay (cj Wn):=Sound.cons s65 Sound.nil
theorem afN (x:Int):(x !=IntKind.i64.wrap (IntKind.u32.wrap x))= !bZ 0 4294967295 x:=by grind [aeZ]
theorem agf (l:List Int) (hl:l.length<=3):bG ay 183 [.fz (rows aq l) l.length] [] 0 (.b (Rn l)) [] 0:=by
 refine ew Ua Tryz.func183 QO ?_
 dsimp only [i183];rcases abn hl with rfl|⟨a,rfl⟩|⟨a,b,rfl⟩|⟨a,b,c,rfl⟩
 all_goals (
  simp only [rows,aq,fJ,List.map_nil,List.flatten_cons,List.flatten_nil,dh,ez,List.nil_append,List.length_cons,fP];simp only [go_sem,simprocAttr];refine Loop.rounds (F:=⟨ay,cj Wn,[8,23],25,0⟩) 4 Ua mo ?_;dsimp only [Wn];simp only [go_sem,Tl,afN,xh,bc,dG,List.any_cons,List.any_nil,Bool.or_false,simprocAttr];repeat' (first|refine mu (λ_=> ?_) (λ_=> ?_)|refine js ?_ ?_)
  all_goals (refine Ends.aw rfl (dC _ ?_);simp_all [Rn,jB];try grind))
def oq:Ct
 |[v],h,n=>xQ h 1 v λrd m cs ok=>(bc 1 dG m cs).bind λl=>some (ok&&decide (l.length<=3),{v:= .b (Rn l),n,rd})
 |_,_,_=>none
theorem agR:ax ay 183 oq:=λargs h n c E hc ht=>by
 unfold oq at hc;split at hc
 ·rename_i v;rw [pF] at hc;simp only [av,aI,aV] at hc;obtain ⟨⟨rd,m,cs,ok⟩,hv,l,hl,hc,rfl⟩:=hc;subst hc;simp only [ak,bg] at ht;obtain ⟨rfl,h3⟩:=ht;obtain ⟨rfl,rfl⟩:=bu (f:=aq) (λc a h=>df c a h) hl;exact aA.view (pre:=[]) (post:=[]) (by kernel_rfl) hv (ib 0 l) rfl rfl rfl (agf l h3)
 ·cases hc
def dv (s:Sw):Bool:=
 (bZ 1 3 s.l.length&&(Rn s.l&&(bZ 0 4294967295 s.ou&&(bZ 1 90000 s.st&&(bZ (-1) (s.l.length-1) s.nw&&bZ (-1) (s.l.length-1) s.wa)))))&&
 ((bZ 0 3 s.ca&&(bZ 0 3 s.ai&&(rM s.sq s.tm s.id s.ba&&(rM s.ss s.sT s.si s.sb&&rM s.tp 0 s.fr 0))))&&
 (!decide (s.nw<0)||(s.ca==0&&(s.tp==0&&(s.fr==0&&(!s.kp&&(s.sq==0&&(s.tm==0&&(s.id==0&&s.ba==0)))))))))
def aez:List (Nat×Ct):=[(182,kY),(183,oq),(184,vX),(185,vV)]
theorem adE:Sound ay (cj aez):=Sound.cons abL (Sound.cons agR (Sound.cons aiP (Sound.cons ag9 Sound.nil)))
theorem Ex (x:Int):Rn [x]=bZ 0 4294967295 x:=by simp [Rn,jB]
theorem afX (s:Sw) (hl:s.l.length<=9223372036854775807):bG ay 121 [.agg s.a] [] 0 (.i .i64 (if dv s then 0 else 410)) [] 0:=by
 have hlen:IntKind.i64.wrap ((s.l.length:Int)-1)=(s.l.length:Int)-1:=aN (by omega) (by omega)
 refine ew adE Tryz.func121 On ?_
 dsimp only [i121,aez];have hgd:dv s=((bZ 1 3 s.l.length&&(Rn s.l&&(bZ 0 4294967295 s.ou&&(bZ 1 90000 s.st&&(bZ (-1) (s.l.length-1) s.nw&&bZ (-1) (s.l.length-1) s.wa)))))&&
 ((bZ 0 3 s.ca&&(bZ 0 3 s.ai&&(rM s.sq s.tm s.id s.ba&&(rM s.ss s.sT s.si s.sb&&rM s.tp 0 s.fr 0))))&&
 (!decide (s.nw<0)||(s.ca==0&&(s.tp==0&&(s.fr==0&&(!s.kp&&(s.sq==0&&(s.tm==0&&(s.id==0&&s.ba==0)))))))))):=rfl
 have h3:bZ 1 3 s.l.length=true->decide (s.l.length<=3)=true:=λh=>by
  simp only [bZ,ak,bg] at h ⊢;omega
 have hsw:=pC s;have hr:=λh k=>nt (α:=Int) (β:=Bool×bV) (h:=h) (f:=aq) bR (l:=s.l) (k:=k);generalize dv s=gd at*;obtain ⟨l,ou,st,nw,wa,ca,ai,tp,fr,kp,sq,tm,id,ba,ss,sT,si,sb⟩:=s;simp only [Sw.a] at hsw ⊢;dsimp only at hl hlen hgd h3 hr;cases a1:bZ 1 3 (l.length:Int)
 ·simp only [go_sem,kY,a1,simprocAttr];exact Ends.aw rfl (by grind)
 have b3:=h3 a1;cases a2:Rn l
 ·simp only [go_sem,kY,oq,eD,hr,a1,a2,b3,simprocAttr];exact Ends.aw rfl (by grind)
 cases a3:bZ 0 4294967295 ou
 ·simp only [go_sem,kY,oq,eD,Ex,fv,hr,bc,dG,dN,di,a1,a2,a3,b3,simprocAttr];exact Ends.aw rfl (by grind)
 cases a4:bZ 1 90000 st
 ·simp only [go_sem,kY,oq,eD,Ex,fv,hr,bc,dG,dN,di,a1,a2,a3,a4,b3,simprocAttr];exact Ends.aw rfl (by grind)
 cases a5:bZ (-1) ((l.length:Int)-1) nw
 ·simp only [go_sem,kY,oq,hlen,eD,Ex,fv,hr,bc,dG,dN,di,a1,a2,a3,a4,a5,b3,simprocAttr];exact Ends.aw rfl (by grind)
 cases a6:bZ (-1) ((l.length:Int)-1) wa
 ·simp only [go_sem,kY,oq,hlen,eD,Ex,fv,hr,bc,dG,dN,di,a1,a2,a3,a4,a5,a6,b3,simprocAttr];exact Ends.aw rfl (by grind)
 cases a7:bZ 0 3 ca
 ·simp only [go_sem,kY,oq,hlen,eD,Ex,fv,hr,bc,dG,dN,di,a1,a2,a3,a4,a5,a6,a7,b3,simprocAttr];exact Ends.aw rfl (by grind)
 cases a8:bZ 0 3 ai
 ·simp only [go_sem,kY,oq,hlen,eD,Ex,fv,hr,bc,dG,dN,di,a1,a2,a3,a4,a5,a6,a7,a8,b3,simprocAttr];exact Ends.aw rfl (by grind)
 cases a9:rM sq tm id ba
 ·simp only [go_sem,kY,oq,vX,vV,hsw,hlen,eD,Ex,fv,hr,bc,dG,dN,di,a1,a2,a3,a4,a5,a6,a7,a8,a9,b3,simprocAttr];exact Ends.aw rfl (by grind)
 cases MH:rM ss sT si sb
 ·simp only [go_sem,kY,oq,vX,vV,hsw,hlen,eD,Ex,fv,hr,bc,dG,dN,di,a1,a2,a3,a4,a5,a6,a7,a8,a9,MH,b3,simprocAttr];exact Ends.aw rfl (by grind)
 cases OM:rM tp 0 fr 0
 ·simp only [go_sem,kY,oq,vX,vV,hsw,hlen,eD,Ex,fv,hr,bc,dG,dN,di,a1,a2,a3,a4,a5,a6,a7,a8,a9,MH,OM,b3,simprocAttr];exact Ends.aw rfl (by grind)
 cases a12:decide (nw<0)
 ·simp only [go_sem,kY,oq,vX,vV,hsw,hlen,eD,Ex,fv,hr,bc,dG,dN,di,a1,a2,a3,a4,a5,a6,a7,a8,a9,MH,OM,a12,b3,simprocAttr];exact Ends.aw rfl (by grind)
 cases z1:(ca==0)
 ·have y1:(ca !=0)=true:=by grind
  simp only [go_sem,kY,oq,vX,vV,hsw,hlen,eD,Ex,fv,hr,bc,dG,dN,di,a1,a2,a3,a4,a5,a6,a7,a8,a9,MH,OM,a12,y1,b3,simprocAttr];exact Ends.aw rfl (by grind)
 have y1:(ca !=0)=false:=by grind
 cases z2:(tp==0)
 ·have y2:(tp !=0)=true:=by grind
  simp only [go_sem,kY,oq,vX,vV,hsw,hlen,eD,Ex,fv,hr,bc,dG,dN,di,a1,a2,a3,a4,a5,a6,a7,a8,a9,MH,OM,a12,y1,y2,b3,simprocAttr];exact Ends.aw rfl (by grind)
 have y2:(tp !=0)=false:=by grind
 cases z3:(fr==0)
 ·have y3:(fr !=0)=true:=by grind
  simp only [go_sem,kY,oq,vX,vV,hsw,hlen,eD,Ex,fv,hr,bc,dG,dN,di,a1,a2,a3,a4,a5,a6,a7,a8,a9,MH,OM,a12,y1,y2,y3,b3,simprocAttr];exact Ends.aw rfl (by grind)
 have y3:(fr !=0)=false:=by grind
 cases kp
 case true=>
  simp only [go_sem,kY,oq,vX,vV,hsw,hlen,eD,Ex,fv,hr,bc,dG,dN,di,a1,a2,a3,a4,a5,a6,a7,a8,a9,MH,OM,a12,y1,y2,y3,b3,simprocAttr];exact Ends.aw rfl (by grind)
 generalize hE:((sq==0)&&((tm==0)&&((id==0)&&(ba==0))))=Z at hgd;simp only [go_sem,kY,oq,vX,vV,hsw,hlen,eD,Ex,fv,hr,bc,dG,dN,di,J4,eqs,T2,hE,a1,a2,a3,a4,a5,a6,a7,a8,a9,MH,OM,a12,y1,y2,y3,b3,simprocAttr];cases Z
 ·simp only [go_sem,simprocAttr];exact Ends.aw rfl (by grind)
 ·simp only [go_sem,simprocAttr];exact Ends.aw rfl (by grind)
def kQ:Ct
 |[.agg c],_,n=>(G9 c).bind λs=>some (decide (s.l.length<=9223372036854775807),{v:= .i .i64 (if dv s then 0 else 410),n})
 |_,_,_=>none
theorem LY:ax ay 121 kQ:=λargs h n c E hc ht=>by
 unfold kQ at hc;split at hc
 ·simp only [av,aI,aV] at hc;obtain ⟨s,hs,rfl,rfl⟩:=hc;rw [rU hs];exact aA.pure (by kernel_rfl) (by simp only [ab,AV.aj,Sw.aj,aG]) rfl (afX _ (bN ht)) _ _
 ·cases hc
theorem jR.agg {h:Hp} {rd:List Nat} {l m:List AV} (hl:yG h rd l m):jR h rd (.agg l) (.agg m):=λD D' φ w u hH hv=>by
 cases hv with
 |agg _ cs hlen hh=>
  refine .agg m cs (by rw [<-hlen,hl.len]) (λi b u hb hu=> ?_)
  obtain ⟨a,h1,h2⟩:=hl.get hb;exact h2 D D' φ w u hH (hh i a u h1 hu)
/-! Needs -/
def gE (s:Sw):Int×Int:=bif dv s then (bif decide (s.wa<0)||s.wa==s.nw then (0,4) else (s.wa,0)) else (0,410)
theorem pz {s:Sw} (h:dv s=true):1<=s.l.length/\s.l.length<=3:=by
 simp only [dv,bZ,ak,bg] at h;omega
def adq:List (Nat×Ct):=[(121,kQ)]
theorem acV:Sound ay (cj adq):=Sound.cons LY Sound.nil
theorem XU (s:Sw) (hl:s.l.length<=9223372036854775807):bG ay 105 [.agg s.a] [] 0 (.bz [.i .i64 (gE s).1,.i .i64 (gE s).2]) [] 0:=by
 have hR:gE s=bif dv s then (bif decide (s.wa<0)||s.wa==s.nw then (0,4) else (s.wa,0)) else (0,410):=rfl
 have hsw:=pC s;have hll:decide (s.l.length<=9223372036854775807)=true:=af hl;generalize gE s=R at*;refine ew acV Tryz.func105 PW ?_
 dsimp only [i105,adq];generalize hg:dv s=gd at*;obtain ⟨l,ou,st,nw,wa,ca,ai,tp,fr,kp,sq,tm,id,ba,ss,sT,si,sb⟩:=s;simp only [Sw.a] at hsw ⊢;dsimp only at hl hR hll;cases gd
 ·simp only [go_sem,kQ,hsw,hll,hg,ei,simprocAttr];exact Ends.aw rfl (by rw [hR];rfl)
 cases a1:decide (wa<0)
 ·cases a2:(wa==nw)
  ·simp only [go_sem,kQ,hsw,hll,hg,a1,a2,simprocAttr];exact Ends.aw rfl (by grind)
  ·simp only [go_sem,kQ,hsw,hll,hg,a1,a2,simprocAttr];exact Ends.aw rfl (by grind)
 ·simp only [go_sem,kQ,hsw,hll,hg,a1,simprocAttr];exact Ends.aw rfl (by grind)
def Eh:Ct
 |[.agg c],_,n=>(G9 c).bind λs=>some (decide (s.l.length<=9223372036854775807),{v:= .bz [.i .i64 (gE s).1,.i .i64 (gE s).2],n})
 |_,_,_=>none
theorem ajg:ax ay 105 Eh:=λargs h n c E hc ht=>by
 unfold Eh at hc;split at hc
 ·simp only [av,aI,aV] at hc;obtain ⟨s,hs,rfl,rfl⟩:=hc;rw [rU hs];exact aA.pure (by kernel_rfl) (by simp only [ab,AV.aj,Sw.aj,aG]) rfl (XU _ (bN ht)) _ _
 ·cases hc
/-! Clone -/
theorem w90 (l:List Int) (hz:8*l.length<=az):bG ay 90 [.fz (rows aq l) l.length] [] 0 (.fz (rows aq l) l.length) [] 0:=
 Tc (z:=1) (bytes:=8) (zs:=[.i .i64 0]) mo Tryz.func90 xg (by simp [aU bR]) (dr (λ_=>rfl) l) (ib 0 l) hz
def vS:Ct
 |[.fz L m],_,n=>(bc 1 dG m L).bind λl=>some (decide (8*l.length<=az),{v:= .fz (rows aq l) l.length,n})
 |_,_,_=>none
theorem ZW:ax ay 90 vS:=λargs h n c E hc ht=>by
 unfold vS at hc;split at hc
 ·simp only [av,aI,aV] at hc;obtain ⟨l,hl,rfl,rfl⟩:=hc;obtain ⟨rfl,rfl⟩:=bu (f:=aq) (λc a h=>df c a h) hl;exact aA.pure (by kernel_rfl) (by simp only [ab,AV.aj,ib,aG]) (by simp only [AV.aj,ib]) (w90 _ (bN ht)) _ _
 ·cases hc
/-! Want -/
def Ak:Sw:=⟨[],0,0,0,0,0,0,0,0,false,0,0,0,0,0,0,0,0⟩
def MA (r:Sw×Int):AV:= .bz [.agg r.1.a,.i .i64 r.2]
theorem F2 (r:Sw×Int):(MA r).aj 0=true:=by simp only [MA,AV.aj,ab,Sw.aj,aG]
def JZ (s:Sw) (ai:Int):Sw:=⟨s.l,s.ou,s.st,-1,-1,0,ai,0,0,false,0,0,0,0,s.ss,s.sT,s.si,s.sb⟩
def gR (s:Sw) (la ai:Int):Sw×Int:=
 bif dv s then (bif bZ (-1) ((s.l.length:Int)-1) la&&bZ 0 3 ai then (bif decide (la<0) then JZ s ai else {s with wa:=la,ai:=ai},0) else (Ak,2)) else (Ak,410)
theorem Qx {e:Int} {h:Hp} {n:Nat}:aZ 0 (.bz [.agg [.ns,.i .i64 0,.i .i64 0,.i .i64 0,.i .i64 0,.i .i64 0,.i .i64 0,.i .i64 0,.i .i64 0,.b false,.i .i64 0,.i .i64 0,.i .i64 0,.i .i64 0,.i .i64 0,.i .i64 0,.i .i64 0,.i .i64 0],.i .i64 e]) h n (MA (Ak,e)) [] 0:=by
 refine aZ.wu (l:=[]) (v':=MA (Ak,e)) (bW.bz ⟨bW.agg ⟨bW.hit,bW.refl,bW.refl,bW.refl,bW.refl,bW.refl,bW.refl,bW.refl,bW.refl,bW.refl,bW.refl,bW.refl,bW.refl,bW.refl,bW.refl,bW.refl,bW.refl,bW.refl,trivial⟩,bW.refl,trivial⟩) ?_;exact aZ.ends (Ends.aw rfl rfl)
def adX:List (Nat×Ct):=[(121,kQ),(182,kY),(90,vS)]
theorem aa7:Sound ay (cj adX):=Sound.cons LY (Sound.cons abL (Sound.cons ZW Sound.nil))
theorem afK (s:Sw) (la aim:Int) (hl:s.l.length<=9223372036854775807):bG ay 143 [.agg s.a,.i .i64 la,.i .i64 aim] [] 0 (MA (gR s la aim)) [] 0:=by
 have hR:gR s la aim=bif dv s then (bif bZ (-1) ((s.l.length:Int)-1) la&&bZ 0 3 aim then (bif decide (la<0) then JZ s aim else {s with wa:=la,ai:=aim},0) else (Ak,2)) else (Ak,410):=rfl
 have hsw:=pC s;have hll:decide (s.l.length<=9223372036854775807)=true:=af hl;have hlen:IntKind.i64.wrap ((s.l.length:Int)-1)=(s.l.length:Int)-1:=aN (by omega) (by omega)
 have hgr:dv s=true->decide (8*s.l.length<=az)=true:=λh=>af (by grind [pz,az])
 generalize gR s la aim=R at*;refine bG.dy aa7 mo Tryz.func143 RD (by simp [i143]) (aO ?_)
 dsimp only [i143,adX];generalize hg:dv s=gd at*;obtain ⟨l,ou,st,nw,wa,ca,ai,tp,fr,kp,sq,tm,id,ba,ss,sT,si,sb⟩:=s;simp only [Sw.a] at hsw ⊢;dsimp only at hl hR hll hlen hgr;cases gd
 ·simp only [go_sem,kQ,hsw,hll,hg,ei,simprocAttr]
  grind [Qx]
 have hgr:=hgr rfl;cases a1:bZ (-1) ((l.length:Int)-1) la
 ·simp only [go_sem,kQ,kY,hsw,hll,hg,hlen,a1,simprocAttr]
  grind [Qx]
 cases a2:bZ 0 3 aim
 ·simp only [go_sem,kQ,kY,hsw,hll,hg,hlen,a1,a2,simprocAttr]
  grind [Qx]
 cases a3:decide (la<0);all_goals (
  simp only [go_sem,kQ,kY,vS,hsw,hll,hg,hlen,a1,a2,a3,eD,hgr,simprocAttr];rw [hR,a1,a2,a3];exact aZ.ends (Ends.aw (by simp only [AV.aj,ab,ib,aG]) rfl))
def HE:Ct
 |[.agg c,.i .i64 la,.i .i64 aim],_,n=>(G9 c).bind λs=>some (decide (s.l.length<=9223372036854775807),{v:=MA (gR s la aim),n})
 |_,_,_=>none
theorem aiX:ax ay 143 HE:=λargs h n c E hc ht=>by
 unfold HE at hc;split at hc
 ·simp only [av,aI,aV] at hc;obtain ⟨s,hs,rfl,rfl⟩:=hc;rw [rU hs];exact aA.pure (by kernel_rfl) (by simp only [ab,AV.aj,Sw.aj,aG]) (F2 _) (afK _ _ _ (bN ht)) _ _
 ·cases hc
/-! New -/
def yY (l:List Int) (ou st a b c d:Int):Sw×Int:=
 bif dv ⟨l,ou,st,-1,-1,0,0,0,0,false,0,0,0,0,a,b,c,d⟩ then (⟨l,ou,st,-1,-1,0,0,0,0,false,0,0,0,0,a,b,c,d⟩,0) else (Ak,2)
def T70:List (Nat×Ct):=[(121,kQ),(90,vS)]
theorem afR:Sound ay (cj T70):=Sound.cons LY (Sound.cons ZW Sound.nil)
theorem w70 (l:List Int) (ou st a b c d:Int) (hl:8*l.length<=az):bG ay 70 [.fz (rows aq l) l.length,.i .i64 ou,.i .i64 st,.agg [.i .i64 a,.i .i64 b,.i .i64 c,.i .i64 d]] [] 0 (MA (yY l ou st a b c d)) [] 0:=by
 have hR:yY l ou st a b c d=bif dv ⟨l,ou,st,-1,-1,0,0,0,0,false,0,0,0,0,a,b,c,d⟩ then (⟨l,ou,st,-1,-1,0,0,0,0,false,0,0,0,0,a,b,c,d⟩,0) else (Ak,2):=rfl
 have hsw:=pC ⟨l,ou,st,-1,-1,0,0,0,0,false,0,0,0,0,a,b,c,d⟩;simp only [Sw.a] at hsw;have hgr:decide (8*l.length<=az)=true:=af hl;have hll:decide (l.length<=9223372036854775807)=true:=af (by grind [az])
 generalize yY l ou st a b c d=R at*;refine bG.dy afR mo Tryz.func70 Wz (by simp [i70]) (aO ?_)
 dsimp only [i70,T70];cases hg:dv ⟨l,ou,st,-1,-1,0,0,0,0,false,0,0,0,0,a,b,c,d⟩
 ·simp only [go_sem,kQ,vS,hsw,hgr,hll,eD,hg,ei,simprocAttr]
  grind [Qx]
 ·simp only [go_sem,kQ,vS,hsw,hgr,hll,eD,hg,simprocAttr];rw [hR,hg];exact aZ.ends (Ends.aw (by simp only [AV.aj,ab,ib,aG]) rfl)
def G4:Ct
 |[.fz L m,.i .i64 ou,.i .i64 st,.agg [.i .i64 a,.i .i64 b,.i .i64 c,.i .i64 d]],_,n=>(bc 1 dG m L).bind λl=>some (decide (8*l.length<=az),{v:=MA (yY l ou st a b c d),n})
 |_,_,_=>none
theorem s70:ax ay 70 G4:=λargs h n c E hc ht=>by
 unfold G4 at hc;split at hc
 ·simp only [av,aI,aV] at hc;obtain ⟨l,hl,rfl,rfl⟩:=hc;obtain ⟨rfl,rfl⟩:=bu (f:=aq) (λc a h=>df c a h) hl;exact aA.pure (by kernel_rfl) (by simp only [ab,AV.aj,ib,aG]) (F2 _) (w70 _ _ _ _ _ _ _ (bN ht)) _ _
 ·cases hc
/-! Check of the reference -/
/-! Same (of equal switches) -/
theorem dp {lo hi x:Int} (h:lo<=x/\x<=hi):bZ lo hi x=true:=by simp_all [bZ]
theorem bD {lo hi x:Int} (h:bZ lo hi x=true):lo<=x/\x<=hi:=by simp_all [bZ,ak,bg]
theorem csB (j:Nat) (l:List Int):ab j (rows aq l)=true:=au _ (bh gV)
theorem T4 (j:Nat) (l:List Xt):ab j (rows xu l)=true:=au _ (bh uf)
end Go.Proofs.Rom
namespace Go.Proofs.Rom
open Go.Ab
structure Sh where
 st:Bool
 ky:Bool
 sy:Bool
 la:Bool
 id:Int
 ba:Int
 te:Int
 sp:Int
def Sh.l (s:Sh):List AV:=[.b s.st,.b s.ky,.b s.sy,.b s.la,.i .i64 s.id,.i .i64 s.ba,.i .i64 s.te,.i .i64 s.sp]
def Sh.jZ (s:Sh):Bool:=decide (0<=s.id)&&decide (s.id<=32767)&&decide (0<=s.ba)&&decide (s.ba<=255)&&decide (0<=s.te)&&decide (s.te<=3)&&decide (0<=s.sp)&&decide (s.sp<=2)&& !(s.ky&&decide (s.te>0))&& !(s.sy&&(s.te==0))
theorem ahp (a b:Int):bG ay 196 [.i .i64 a,.i .i64 b] [] 0 (.b (decide (0<=b)&&decide (b<=a))) [] 0:=by
 refine ew Sound.nil Tryz.func196 Pq ?_
 dsimp only [i196];simp only [go_sem,simprocAttr];repeat' (first|refine mu (λ_=> ?_) (λ_=> ?_)|refine js ?_ ?_)
 all_goals (refine Ends.aw rfl (dC _ ?_);simp at *;omega)
def DM:Ct
 |[.i .i64 a,.i .i64 b],_,n=>some (true,{v:= .b (decide (0<=b)&&decide (b<=a)),n})
 |_,_,_=>none
theorem Xs:ax ay 196 DM:=λargs h n c E hc _=>by
 unfold DM at hc;split at hc
 ·cases hc;exact aA.pure (by kernel_rfl) rfl rfl (ahp _ _) _ _
 ·cases hc
def TP1:List (Nat×Ct):=[(196,DM)]
theorem ahC:Sound ay (cj TP1):=Sound.cons Xs Sound.nil
theorem ahq (st ky sy la:Bool) (id ba te sp:Int):bG ay 137 [.agg [.b st,.b ky,.b sy,.b la,.i .i64 id,.i .i64 ba,.i .i64 te,.i .i64 sp]] [] 0
 (.i .i64 (if (Sh.mk st ky sy la id ba te sp).jZ then 0 else 400)) [] 0:=by
 refine ew ahC Tryz.func137 OD ?_
 dsimp only [i137,TP1];simp only [go_sem,DM,simprocAttr];repeat' (first|refine mu (λ_=> ?_) (λ_=> ?_)|refine js ?_ ?_)
 all_goals (refine Ends.aw rfl (dC _ ?_);simp only [Sh.jZ];grind)
def EA:Ct
 |[.agg [.b st,.b ky,.b sy,.b la,.i .i64 id,.i .i64 ba,.i .i64 te,.i .i64 sp]],_,n=>some (true,{v:= .i .i64 (if (Sh.mk st ky sy la id ba te sp).jZ then 0 else 400),n})
 |_,_,_=>none
theorem adU:ax ay 137 EA:=λargs h n c E hc _=>by
 unfold EA at hc;split at hc
 ·cases hc;exact aA.pure (by kernel_rfl) rfl rfl (ahq _ _ _ _ _ _ _ _) _ _
 ·cases hc
def pb (a b c d:Bool):Int:=128+(if a then 64 else 0)+(if b then 32 else 0)+(if c then 16 else 0)+(if d then 8 else 0)
def J7:bp->Option Int
 |⟨[.b true,.b a,.b b,.b c,.b d,.b false,.b false,.b false],false,none,none,none⟩=>some (pb a b c d)
 |_=>none
def MY:Ct
 |[.sl b 0 8 8],h,n=>(aa h b).bind λk=>(J7 k).bind λm=>some (true,{v:= .i .u8 m,n,rd:=[b]})
 |_,_,_=>none
theorem agu (a b c d:Bool):bG ay 210 [.sl 0 0 8 8] [(0,{cells:=[.b true,.b a,.b b,.b c,.b d,.b false,.b false,.b false]})] 1 (.i .u8 (pb a b c d)) [(0,{cells:=[.b true,.b a,.b b,.b c,.b d,.b false,.b false,.b false]})] 1:=by
 refine ew Sound.nil Tryz.func210 Rb ?_
 dsimp only [i210];cases a<;>cases b<;>cases c<;>cases d;all_goals (
  simp only [go_sem,simprocAttr];refine Loop.rounds (F:=⟨ay,cj [],[9,14],19,1⟩) 9 Sound.nil mo ?_;simp only [go_sem,simprocAttr];exact Ends.gH rfl rfl rfl (dC _ (by decide)) rfl)
theorem aiV:ax ay 210 MY:=λargs h n c E hc _=>by
 unfold MY at hc;split at hc
 ·rename_i b;simp only [av] at hc;obtain ⟨k,hk,m,hm,he⟩:=hc;cases he;unfold J7 at hm;split at hm
  ·cases hm;exact aA.aaK (argsL:=[.sl 0 0 8 8]) (by kernel_rfl) rfl rfl rfl hk (agu _ _ _ _)
  ·cases hm
 ·cases hc
def TP2:List (Nat×Ct):=[(196,DM),(137,EA),(210,MY)]
theorem VL:Sound ay (cj TP2):=Sound.cons Xs (Sound.cons adU (Sound.cons aiV Sound.nil))
def Sh.enc (s:Sh):List UInt8:=[UInt8.ofNat (pb s.st s.ky s.sy s.la).toNat,UInt8.ofNat (128+s.id/256).toNat,UInt8.ofNat (s.id % 256).toNat,UInt8.ofNat s.ba.toNat,UInt8.ofNat (64*s.te+16*s.sp).toNat]
theorem Sh.lO (s:Sh):s.jZ=true↔(0<=s.id/\s.id<=32767/\0<=s.ba/\s.ba<=255/\0<=s.te/\s.te<=3/\0<=s.sp/\s.sp<=2/\(s.ky=true->s.te=0)/\(s.sy=true->s.te≠0)):=by
 grind [Sh.jZ]
theorem aaQ: ∀d:Fin 128,ZJ .u8 128 ((d.val:Nat):Int)=128+((d.val:Nat):Int):=by decide+kernel
theorem orL: ∀(t:Fin 4) (p:Fin 3),IntKind.u8.wrap (ZJ .i64 (IntKind.i64.wrap (((t.val:Nat):Int)*64)) (IntKind.i64.wrap (((p.val:Nat):Int)*16)))=64*((t.val:Nat):Int)+16*((p.val:Nat):Int):=by decide+kernel
theorem Er (n:Int):IntKind.u8.wrap n=n % 256:=by
 simp [IntKind.wrap,IntKind.bits,IntKind.signed]
theorem aiU (st ky sy la:Bool) (id ba te sp:Int) (hg:(Sh.mk st ky sy la id ba te sp).jZ=true):bG ay 169 [.agg [.b st,.b ky,.b sy,.b la,.i .i64 id,.i .i64 ba,.i .i64 te,.i .i64 sp]] [] 0 (.s (Sh.mk st ky sy la id ba te sp).enc) [] 0:=by
 rw [Sh.lO] at hg;simp only at hg;obtain ⟨h1,h2,h3,h4,h5,h6,h7,h8,-⟩:=hg;refine ew VL Tryz.func169 RU ?_
 dsimp only [i169,TP2];simp only [go_sem,MY,J7,simprocAttr];refine Ends.aw rfl (dC _ ?_);have e1:=aaQ ⟨(id/256).toNat,by omega⟩
 have e2:=orL ⟨te.toNat,by omega⟩ ⟨sp.toNat,by omega⟩
 have f1:id.fdiv 256=(((id/256).toNat:Nat):Int):=by grind
 have f2:te=((te.toNat:Nat):Int):=by omega
 have f3:sp=((sp.toNat:Nat):Int):=by omega
 simp only at e1 e2;rw [<-f1] at e1;rw [<-f2,<-f3] at e2;have f4:IntKind.u8.wrap (id.fdiv 256)=id.fdiv 256:=by grind [Er]
 grind [Sh.enc,Er,Dj,Int.emod_eq_of_lt]
theorem wrap64 (n:Int) (h: -9223372036854775808<=n) (h':n<=9223372036854775807):IntKind.i64.wrap n=n:=by
 grind [IntKind.wrap,IntKind.bits,IntKind.signed]
theorem af9 (st ky sy la:Bool) (id ba te sp:Int) (hg:(Sh.mk st ky sy la id ba te sp).jZ=true):bG ay 133 [.agg [.b st,.b ky,.b sy,.b la,.i .i64 id,.i .i64 ba,.i .i64 te,.i .i64 sp]] [] 0 (.s (Sh.mk st ky sy la id ba te sp).enc) [] 0:=by
 rw [Sh.lO] at hg;simp only at hg;obtain ⟨h1,h2,h3,h4,h5,h6,h7,h8,-⟩:=hg;refine ew VL Tryz.func133 RW ?_
 dsimp only [i133,TP2];simp only [go_sem,simprocAttr];repeat' (first|refine mu (λ_=> ?_) (λ_=> ?_)|refine js ?_ ?_)
 all_goals (
  refine Ends.aw rfl (dC _ ?_);simp only [Sh.enc, *];rw [Int.tdiv_eq_ediv_of_nonneg h1,wrap64 (id/256) (by omega) (by omega),wrap64 (128+id/256) (by omega) (by omega),wrap64 (64*te) (by omega) (by omega),wrap64 (16*sp) (by omega) (by omega),wrap64 (64*te+16*sp) (by omega) (by omega)]
  simp only [Er];rw [Int.emod_eq_of_lt h3 (by omega),fA h1,Int.emod_eq_of_lt (a:=128+id/256) (by omega) (by omega),Int.emod_eq_of_lt (a:=64*te+16*sp) (by omega) (by omega),Int.emod_emod]
  rfl)
def yH:Ct
 |[.agg [.b st,.b ky,.b sy,.b la,.i .i64 id,.i .i64 ba,.i .i64 te,.i .i64 sp]],_,n=>some ((Sh.mk st ky sy la id ba te sp).jZ,{v:= .s (Sh.mk st ky sy la id ba te sp).enc,n})
 |_,_,_=>none
theorem ab1:ax ay 169 yH:=λargs h n c E hc ht=>by
 unfold yH at hc;split at hc
 ·cases hc;exact aA.pure (by kernel_rfl) rfl rfl (aiU _ _ _ _ _ _ _ _ ht) _ _
 ·cases hc
theorem aiK:ax ay 133 yH:=λargs h n c E hc ht=>by
 unfold yH at hc;split at hc
 ·cases hc;exact aA.pure (by kernel_rfl) rfl rfl (af9 _ _ _ _ _ _ _ _ ht) _ _
 ·cases hc
def TP3:List (Nat×Ct):=[(137,EA),(169,yH)]
theorem aiI:Sound ay (cj TP3):=Sound.cons adU (Sound.cons ab1 Sound.nil)
attribute [local congr] vo
theorem ahV (st ky sy la:Bool) (id ba te sp:Int):bG ay 102 [.agg [.b st,.b ky,.b sy,.b la,.i .i64 id,.i .i64 ba,.i .i64 te,.i .i64 sp]] [] 0
 (.bz [.s (if (Sh.mk st ky sy la id ba te sp).jZ then (Sh.mk st ky sy la id ba te sp).enc else []),.i .i64 (if (Sh.mk st ky sy la id ba te sp).jZ then 0 else 400)]) [] 0:=by
 refine ew aiI Tryz.func102 RM ?_
 dsimp only [i102,TP3];cases hg:(Sh.mk st ky sy la id ba te sp).jZ
 ·simp only [go_sem,EA,hg,ei,simprocAttr];exact Ends.aw rfl rfl
 ·simp only [go_sem,EA,yH,hg,simprocAttr];exact Ends.aw rfl rfl
def QJ:Ct
 |[.agg [.b st,.b ky,.b sy,.b la,.i .i64 id,.i .i64 ba,.i .i64 te,.i .i64 sp]],_,n=>some (true,{v:= .bz [.s (if (Sh.mk st ky sy la id ba te sp).jZ then (Sh.mk st ky sy la id ba te sp).enc else []),.i .i64 (if (Sh.mk st ky sy la id ba te sp).jZ then 0 else 400)],n})
 |_,_,_=>none
theorem agJ:ax ay 102 QJ:=λargs h n c E hc ht=>by
 unfold QJ at hc;split at hc
 ·cases hc;exact aA.pure (by kernel_rfl) rfl rfl (ahV _ _ _ _ _ _ _ _) _ _
 ·cases hc
end Go.Proofs.Rom
namespace Go.Proofs.Rom
open Go.Ab
def wj (a b c d e:UInt8):Sh where
 st:=(a.toNat:Int)/64 % 2==1
 ky:=(a.toNat:Int)/32 % 2==1
 sy:=(a.toNat:Int)/16 % 2==1
 la:=(a.toNat:Int)/8 % 2==1
 id:=256*((b.toNat:Int) % 128)+c.toNat
 ba:=d.toNat
 te:=(e.toNat:Int)/64
 sp:=(e.toNat:Int)/16 % 4
def yL (a b c d e:UInt8):Bool:=decide (a.toNat/128=1/\a.toNat % 8=0)&&(decide (b.toNat>=128)&&(decide (e.toNat % 16=0)&&(wj a b c d e).jZ))
def zSh:Sh:=⟨false,false,false,false,0,0,0,0⟩
def dec:List UInt8->Sh×List UInt8×Int
 |a::b::c::d::e::r=>if yL a b c d e then (wj a b c d e,r,0) else (zSh,[],5)
 |_=>(zSh,[],7)
def yO (x:Sh×List UInt8×Int):AV:= .bz [.agg x.1.l,.s x.2.1,.i .i64 x.2.2]
def IW (p:Nat->Bool):Bool:=(List.range 256).all p
theorem yP {p:Nat->Bool} (h:IW p=true) (a:UInt8):p a.toNat=true:=by
 simp only [IW,du,vC] at h;exact h _ a.toNat_lt
theorem b64 (a:UInt8):(iO .u8 (a.toNat:Int) 64 !=0)=((a.toNat:Int)/64 % 2==1):=by
 simpa using yP (p:=λn=>(iO .u8 (n:Int) 64 !=0)==((n:Int)/64 % 2==1)) (by rfl) a
theorem b32 (a:UInt8):(iO .u8 (a.toNat:Int) 32 !=0)=((a.toNat:Int)/32 % 2==1):=by
 simpa using yP (p:=λn=>(iO .u8 (n:Int) 32 !=0)==((n:Int)/32 % 2==1)) (by rfl) a
theorem b16 (a:UInt8):(iO .u8 (a.toNat:Int) 16 !=0)=((a.toNat:Int)/16 % 2==1):=by
 simpa using yP (p:=λn=>(iO .u8 (n:Int) 16 !=0)==((n:Int)/16 % 2==1)) (by rfl) a
theorem b8 (a:UInt8):(iO .u8 (a.toNat:Int) 8 !=0)=((a.toNat:Int)/8 % 2==1):=by
 simpa using yP (p:=λn=>(iO .u8 (n:Int) 8 !=0)==((n:Int)/8 % 2==1)) (by rfl) a
theorem aji (a:UInt8):IntKind.i64.wrap (iO .u8 (a.toNat:Int) 127)=(a.toNat:Int) % 128:=by
 simpa using yP (p:=λn=>IntKind.i64.wrap (iO .u8 (n:Int) 127)==(n:Int) % 128) (by rfl) a
theorem ahg (a:UInt8):(iO .u8 (a.toNat:Int) 135 !=128)= !decide (a.toNat/128=1/\a.toNat % 8=0):=by
 simpa using yP (p:=λn=>(iO .u8 (n:Int) 135 !=128)== !decide (n/128=1/\n % 8=0)) (by rfl) a
theorem b15 (a:UInt8):(iO .u8 (a.toNat:Int) 15 !=0)= !decide (a.toNat % 16=0):=by
 simpa using yP (p:=λn=>(iO .u8 (n:Int) 15 !=0)== !decide (n % 16=0)) (by rfl) a
theorem s6 (a:UInt8):IntKind.i64.wrap ((a.toNat:Int).fdiv 64)=(a.toNat:Int)/64:=by
 simpa using yP (p:=λn=>IntKind.i64.wrap ((n:Int).fdiv 64)==(n:Int)/64) (by rfl) a
theorem s4 (a:UInt8):IntKind.i64.wrap (iO .u8 ((a.toNat:Int).fdiv 16) 3)=(a.toNat:Int)/16 % 4:=by
 simpa using yP (p:=λn=>IntKind.i64.wrap (iO .u8 ((n:Int).fdiv 16) 3)==(n:Int)/16 % 4) (by rfl) a
theorem wu8 (a:UInt8):IntKind.i64.wrap (a.toNat:Int)=(a.toNat:Int):=by
 have:=a.toNat_lt
 grind [wrap64]
theorem or8: ∀(h:Nat) (l:Nat),h<128->l<256->ZJ .i64 (IntKind.i64.wrap ((h:Int)*256)) (l:Int)=256*(h:Int)+l:=by
 intro h l hh hl;have e1:IntKind.i64.wrap ((h:Int)*256)=((h*256:Nat):Int):=by grind [wrap64]
 rw [e1];unfold ZJ;have e2:(BitVec.ofInt IntKind.i64.bits ((h*256:Nat):Int) ||| BitVec.ofInt IntKind.i64.bits (l:Int)).toNat=h*256+l:=by
  show (BitVec.ofInt 64 ((h*256:Nat):Int) ||| BitVec.ofInt 64 (l:Int)).toNat=h*256+l;simp only [BitVec.toNat_or,BitVec.ofInt_natCast,BitVec.toNat_ofNat];rw [rL (by omega),rL (by omega)]
  have:=Nat.two_pow_add_eq_or_of_lt (i:=8) (b:=l) (by omega) h
  grind
 grind [wrap64]
theorem aiL (b c:UInt8):ZJ .i64 (IntKind.i64.wrap ((b.toNat:Int) % 128*256)) (c.toNat:Int)=256*((b.toNat:Int) % 128)+c.toNat:=by
 have h:=or8 (b.toNat % 128) c.toNat (by omega) c.toNat_lt
 grind
theorem Ii {l:List UInt8} (h:l.length<5):dec l=(zSh,[],7):=by
 match l,h with
 |[],_=>rfl
 |[_],_=>rfl
 |[_,_],_=>rfl
 |[_,_,_],_=>rfl
 |[_,_,_,_],_=>rfl
 |_::_::_::_::_::_,h=>exact absurd h (by simp)
theorem ahh {l:List UInt8} (h: ¬l.length<5): ∃a b c d e r,l=a::b::c::d::e::r:=by
 match l,h with
 |a::b::c::d::e::r,_=>exact ⟨a,b,c,d,e,r,rfl⟩
 |[],h=>exact absurd (by simp) h
 |[_],h=>exact absurd (by simp) h
 |[_,_],h=>exact absurd (by simp) h
 |[_,_,_],h=>exact absurd (by simp) h
 |[_,_,_,_],h=>exact absurd (by simp) h
theorem w66 (l:List UInt8):bG ay 66 [.s l] [] 0 (yO (dec l)) [] 0:=by
 refine ew VL Tryz.func66 Wq ?_
 dsimp only [i66,TP2];by_cases hl:l.length<5
 ·have hl':(l.length:Int)<5:=by omega
  simp only [go_sem,hl',simprocAttr];rw [Ii hl];exact Ends.pure rfl
 ·obtain ⟨a,b,c,d,e,r,rfl⟩:=ahh hl;have n5:((r.length+1+1+1+1+1:Nat):Int)=(r.length:Int)+5:=by omega
  have c0:decide ((0:Int)<(r.length:Int)+5)=true:=af (by omega)
  have c1:decide ((1:Int)<(r.length:Int)+5)=true:=af (by omega)
  have c2:decide ((2:Int)<(r.length:Int)+5)=true:=af (by omega)
  have c3:decide ((3:Int)<(r.length:Int)+5)=true:=af (by omega)
  have c4:decide ((4:Int)<(r.length:Int)+5)=true:=af (by omega)
  have c5:decide ((r.length:Int)+5<5)=false:=bw (by omega)
  have ho:=aiL b c;simp only [go_sem,EA,b64,b32,b16,b8,aji,ahg,b15,s6,s4,wu8,n5,c0,c1,c2,c3,c4,c5,ho,dk,List.drop_succ_cons,simprocAttr];have hid: ∀x:Prop,(x↔yL a b c d e=true)->(x->dec (a::b::c::d::e::r)=(wj a b c d e,r,0))/\(¬x->dec (a::b::c::d::e::r)=(zSh,[],5)):=λx hx=>by
   simp_all [dec]
  repeat' (first|refine mu (λ_=> ?_) (λ_=> ?_)|refine js ?_ ?_)
  all_goals first
   |(refine Ends.aw rfl ?_
     rw [(hid (yL a b c d e=true) Iff.rfl).2 (by simp only [yL,wj];grind)]
     rfl)
   |(refine Ends.aw rfl ?_
     rw [(hid (yL a b c d e=true) Iff.rfl).1 (by grind [yL,wj])]
     rfl)
   |grind
attribute [local congr] vo in
def Du:Ct
 |[.s l],_,n=>some (true,{v:=yO (dec l),n})
 |_,_,_=>none
theorem s66:ax ay 66 Du:=λargs h n c E hc ht=>by
 unfold Du at hc;split at hc
 ·cases hc;exact aA.pure (by kernel_rfl) rfl rfl (w66 _) _ _
 ·cases hc
def TP5:List (Nat×Ct):=[(66,Du),(196,DM),(169,yH)]
theorem ah2:Sound ay (cj TP5):=Sound.cons s66<|Sound.cons Xs<|Sound.cons ab1 Sound.nil
def X6 (i b:Int):Bool:=decide (0<=i)&&decide (i<=32767)&&(decide (0<=b)&&decide (b<=255))
def wk (l:List UInt8) (i b:Int):List UInt8×Int:=
 if (dec l).2.2 !=0 then ([],(dec l).2.2) else if X6 i b then ({(dec l).1 with id:=i,ba:=b:Sh}.enc++(dec l).2.1,0) else ([],2)
theorem Y0 {l:List UInt8} (h:(dec l).2.2=0):(dec l).1.jZ=true/\(dec l).2.1.length<=l.length:=by
 unfold dec at h ⊢;split at h
 ·split at h
  ·rename_i hf;simp only [yL,ak] at hf;rw [aT (by simp_all [yL,ak])]
   grind
  ·cases h
 ·cases h
theorem L9 {s:Sh} {i b:Int} (hs:s.jZ=true) (h:X6 i b=true):({s with id:=i,ba:=b:Sh}).jZ=true:=by
 simp_all [X6,ak,bg,Sh.lO]
theorem OQ {s:Sh}:s.enc.length=5:=rfl
theorem ahI (l:List UInt8) (i b:Int) (hl:l.length<=1000000000):bG ay 234 [.s l,.i .i64 i,.i .i64 b] [] 0 (.bz [.s (wk l i b).1,.i .i64 (wk l i b).2]) [] 0:=by
 refine ew ah2 Tryz.func234 Ob ?_
 dsimp only [i234,TP5];have hd:= @Y0 l;have hg:= @L9 (dec l).1 i b;simp only [go_sem,Du,DM,yH,yO,Sh.l,simprocAttr];repeat' (first|refine mu (λ_=> ?_) (λ_=> ?_)|refine js ?_ ?_)
 all_goals first
  |(refine Ends.aw rfl ?_
    simp only [wk,X6]
    grind)
  |(simp only [X6,OQ] at*
    grind)
def Rv:Ct
 |[.s l,.i .i64 i,.i .i64 b],_,n=>some (decide (l.length<=1000000000),{v:= .bz [.s (wk l i b).1,.i .i64 (wk l i b).2],n})
 |_,_,_=>none
theorem agX:ax ay 234 Rv:=λargs h n c E hc ht=>by
 unfold Rv at hc;split at hc
 ·cases hc;exact aA.pure (by kernel_rfl) rfl rfl (ahI _ _ _ (bN ht)) _ _
 ·cases hc
end Go.Proofs.Rom
namespace Go.Proofs.Rom
open Go.Ab
def lead (a b:Int):Int:=if (a-b) % 65536>=32768 then (a-b) % 65536-65536 else (a-b) % 65536
def EL (a b:Int):Int:=if (a-b) % 4294967296>=2147483648 then (a-b) % 4294967296-4294967296 else (a-b) % 4294967296
theorem ahx (x y:Int) (hx:0<=x/\x<=65535) (hy:0<=y/\y<=65535):bG ay 248 [.i .i64 x,.i .i64 y,.i .i64 16] [] 0 (.bz [.i .i64 (lead x y),.i .i64 0]) [] 0:=by
 refine ew Sound.nil Tryz.func248 FJ ?_
 dsimp only [i248];have f1:x.fdiv 65536=0:=by grind
 have f2:y.fdiv 65536=0:=by grind
 have c1:decide (x<0)=false:=bw (by omega)
 have c2:decide (y<0)=false:=bw (by omega)
 have g1:IntKind.i64.wrap (x-y)=x-y:=aN (by omega) (by omega)
 have g2:IntKind.i64.wrap 65536=65536:=rfl;have g3:IntKind.i64.wrap 65535=65535:=rfl;have g4:((x-y) % 65536).fdiv 32768=(x-y) % 65536/32768:=Dj _ (by omega)
 have g5:IntKind.i64.wrap ((x-y) % 65536-65536)=(x-y) % 65536-65536:=aN (by omega) (by omega)
 simp only [go_sem,f1,f2,c1,c2,g1,g2,g3,aeP,g4,g5,simprocAttr];repeat' (first|refine mu (λ_=> ?_) (λ_=> ?_)|refine js ?_ ?_)
 all_goals first
  |(refine Ends.aw rfl ?_
    simp only [lead]
    grind)
  |rfl
theorem Rc (x y:Int) (hx:0<=x/\x<=4294967295) (hy:0<=y/\y<=4294967295):bG ay 248 [.i .i64 x,.i .i64 y,.i .i64 32] [] 0 (.bz [.i .i64 (EL x y),.i .i64 0]) [] 0:=by
 refine ew Sound.nil Tryz.func248 FJ ?_
 dsimp only [i248];have f1:x.fdiv 4294967296=0:=by grind
 have f2:y.fdiv 4294967296=0:=by grind
 have c1:decide (x<0)=false:=bw (by omega)
 have c2:decide (y<0)=false:=bw (by omega)
 have g1:IntKind.i64.wrap (x-y)=x-y:=aN (by omega) (by omega)
 have g2:IntKind.i64.wrap 4294967296=4294967296:=rfl;have g3:IntKind.i64.wrap 4294967295=4294967295:=rfl;have g4:((x-y) % 4294967296).fdiv 2147483648=(x-y) % 4294967296/2147483648:=Dj _ (by omega)
 have g5:IntKind.i64.wrap ((x-y) % 4294967296-4294967296)=(x-y) % 4294967296-4294967296:=aN (by omega) (by omega)
 simp only [go_sem,f1,f2,c1,c2,g1,g2,g3,abH,g4,g5,simprocAttr];repeat' (first|refine mu (λ_=> ?_) (λ_=> ?_)|refine js ?_ ?_)
 all_goals first
  |(refine Ends.aw rfl ?_
    simp only [EL]
    grind)
  |rfl
def Np:Ct
 |[.i .i64 x,.i .i64 y,.i .i64 16],_,n=>some (bZ 0 65535 x&&bZ 0 65535 y,{v:= .bz [.i .i64 (lead x y),.i .i64 0],n})
 |[.i .i64 x,.i .i64 y,.i .i64 32],_,n=>some (bZ 0 4294967295 x&&bZ 0 4294967295 y,{v:= .bz [.i .i64 (EL x y),.i .i64 0],n})
 |_,_,_=>none
theorem aiH:ax ay 248 Np:=λargs h n c E hc ht=>by
 unfold Np at hc;split at hc
 ·cases hc;simp only [ak] at ht;exact aA.pure (by kernel_rfl) rfl rfl (ahx _ _ (bD ht.1) (bD ht.2)) _ _
 ·cases hc;simp only [ak] at ht;exact aA.pure (by kernel_rfl) rfl rfl (Rc _ _ (bD ht.1) (bD ht.2)) _ _
 ·cases hc
/-! sums -/
theorem m8 (a b:Int):IntKind.i64.wrap (IntKind.u8.wrap (IntKind.u8.wrap a-IntKind.u8.wrap b))=(a-b) % 256:=by
 grind [xD,aN]
theorem m16 (a b:Int):IntKind.i64.wrap (IntKind.u16.wrap (IntKind.u16.wrap a-IntKind.u16.wrap b))=(a-b) % 65536:=by
 grind [Ay,aN]
theorem m32 (a b:Int):IntKind.i64.wrap (IntKind.u32.wrap (IntKind.u32.wrap a-IntKind.u32.wrap b))=(a-b) % 4294967296:=by
 grind [Aq,aN]
theorem p8 (a b:Int):IntKind.i64.wrap (IntKind.u8.wrap (IntKind.u8.wrap a+IntKind.u8.wrap b))=(a+b) % 256:=by
 grind [xD,aN]
theorem p16 (a b:Int):IntKind.i64.wrap (IntKind.u16.wrap (IntKind.u16.wrap a+IntKind.u16.wrap b))=(a+b) % 65536:=by
 grind [Ay,aN]
theorem p32 (a b:Int):IntKind.i64.wrap (IntKind.u32.wrap (IntKind.u32.wrap a+IntKind.u32.wrap b))=(a+b) % 4294967296:=by
 grind [Aq,aN]
theorem ai5 (a:Int):(IntKind.i64.wrap a) % 32768=a % 32768:=by
 grind [IntKind.wrap,IntKind.bits,IntKind.signed]
theorem agC (a b:Int):bG ay 225 [.i .i64 a,.i .i64 b] [] 0 (.i .i64 ((a-b) % 65536)) [] 0:=by
 refine ew Sound.nil Tryz.func225 RG ?_
 dsimp only [i225];simp only [go_sem,m16,simprocAttr];exact Ends.aw rfl rfl
def DN:Ct
 |[.i .i64 a,.i .i64 b],_,n=>some (true,{v:= .i .i64 ((a-b) % 65536),n})
 |_,_,_=>none
theorem acq:ax ay 225 DN:=λargs h n c E hc ht=>by
 unfold DN at hc;split at hc
 ·cases hc;exact aA.pure (by kernel_rfl) rfl rfl (agC _ _) _ _
 ·cases hc
theorem ahS (a b:Int):bG ay 226 [.i .i64 a,.i .i64 b] [] 0 (.i .i64 ((a-b) % 4294967296)) [] 0:=by
 refine ew Sound.nil Tryz.func226 PG ?_
 dsimp only [i226];simp only [go_sem,m32,simprocAttr];exact Ends.aw rfl rfl
def Oc:Ct
 |[.i .i64 a,.i .i64 b],_,n=>some (true,{v:= .i .i64 ((a-b) % 4294967296),n})
 |_,_,_=>none
theorem afV:ax ay 226 Oc:=λargs h n c E hc ht=>by
 unfold Oc at hc;split at hc
 ·cases hc;exact aA.pure (by kernel_rfl) rfl rfl (ahS _ _) _ _
 ·cases hc
theorem ahB (a b:Int):bG ay 228 [.i .i64 a,.i .i64 b] [] 0 (.i .i64 ((a-b) % 256)) [] 0:=by
 refine ew Sound.nil Tryz.func228 Q0 ?_
 dsimp only [i228];simp only [go_sem,m8,simprocAttr];exact Ends.aw rfl rfl
def Oy:Ct
 |[.i .i64 a,.i .i64 b],_,n=>some (true,{v:= .i .i64 ((a-b) % 256),n})
 |_,_,_=>none
theorem afL:ax ay 228 Oy:=λargs h n c E hc ht=>by
 unfold Oy at hc;split at hc
 ·cases hc;exact aA.pure (by kernel_rfl) rfl rfl (ahB _ _) _ _
 ·cases hc
theorem agt (a b:Int):bG ay 231 [.i .i64 a,.i .i64 b] [] 0 (.i .i64 ((a+b) % 65536)) [] 0:=by
 refine ew Sound.nil Tryz.func231 M3 ?_
 dsimp only [i231];simp only [go_sem,p16,simprocAttr];exact Ends.aw rfl rfl
def Px:Ct
 |[.i .i64 a,.i .i64 b],_,n=>some (true,{v:= .i .i64 ((a+b) % 65536),n})
 |_,_,_=>none
theorem aha:ax ay 231 Px:=λargs h n c E hc ht=>by
 unfold Px at hc;split at hc
 ·cases hc;exact aA.pure (by kernel_rfl) rfl rfl (agt _ _) _ _
 ·cases hc
theorem agj (a b:Int):bG ay 232 [.i .i64 a,.i .i64 b] [] 0 (.i .i64 ((a+b) % 4294967296)) [] 0:=by
 refine ew Sound.nil Tryz.func232 Ph ?_
 dsimp only [i232];simp only [go_sem,p32,simprocAttr];exact Ends.aw rfl rfl
def NN:Ct
 |[.i .i64 a,.i .i64 b],_,n=>some (true,{v:= .i .i64 ((a+b) % 4294967296),n})
 |_,_,_=>none
theorem ahc:ax ay 232 NN:=λargs h n c E hc ht=>by
 unfold NN at hc;split at hc
 ·cases hc;exact aA.pure (by kernel_rfl) rfl rfl (agj _ _) _ _
 ·cases hc
theorem af0 (a b:Int):bG ay 233 [.i .i64 a,.i .i64 b] [] 0 (.i .i64 ((a+b) % 256)) [] 0:=by
 refine ew Sound.nil Tryz.func233 Q7 ?_
 dsimp only [i233];simp only [go_sem,p8,simprocAttr];exact Ends.aw rfl rfl
def Qp:Ct
 |[.i .i64 a,.i .i64 b],_,n=>some (true,{v:= .i .i64 ((a+b) % 256),n})
 |_,_,_=>none
theorem agU:ax ay 233 Qp:=λargs h n c E hc ht=>by
 unfold Qp at hc;split at hc
 ·cases hc;exact aA.pure (by kernel_rfl) rfl rfl (af0 _ _) _ _
 ·cases hc
theorem aid (a b:Int):bG ay 227 [.i .i64 a,.i .i64 b] [] 0 (.i .i64 ((a+b) % 32768)) [] 0:=by
 refine ew Sound.nil Tryz.func227 Pl ?_
 dsimp only [i227];simp only [go_sem,Tn,ai5,simprocAttr];exact Ends.aw rfl rfl
def xN:Ct
 |[.i .i64 a,.i .i64 b],_,n=>some (true,{v:= .i .i64 ((a+b) % 32768),n})
 |_,_,_=>none
theorem VP:ax ay 227 xN:=λargs h n c E hc ht=>by
 unfold xN at hc;split at hc
 ·cases hc;exact aA.pure (by kernel_rfl) rfl rfl (aid _ _) _ _
 ·cases hc
def acS:List (Nat×Ct):=[(248,Np)]
theorem aaz:Sound ay (cj acS):=Sound.cons aiH Sound.nil
theorem af6 (x y:Int) (hx:bZ 0 65535 x=true) (hy:bZ 0 65535 y=true):bG ay 230 [.i .i64 x,.i .i64 y,.i .i64 16] [] 0 (.bz [.b (decide (lead x y>0)),.i .i64 0]) [] 0:=by
 refine ew aaz Tryz.func230 R6 ?_
 dsimp only [i230,acS];simp only [go_sem,Np,hx,hy,simprocAttr];exact Ends.aw rfl rfl
def L5:Ct
 |[.i .i64 x,.i .i64 y,.i .i64 16],_,n=>some (bZ 0 65535 x&&bZ 0 65535 y,{v:= .bz [.b (decide (lead x y>0)),.i .i64 0],n})
 |_,_,_=>none
theorem agB:ax ay 230 L5:=λargs h n c E hc ht=>by
 unfold L5 at hc;split at hc
 ·cases hc;simp only [ak] at ht;exact aA.pure (by kernel_rfl) rfl rfl (af6 _ _ ht.1 ht.2) _ _
 ·cases hc
/-! must: the first panic -/
def n9:Value:= .iface 265 (.agg #[])
theorem ad8:bG ay 229 [.b true] [] 0 (.bz []) [] 0:=by
 refine ew Sound.nil Tryz.func229 Ga ?_
 dsimp only [i229];simp only [go_sem,simprocAttr];exact Ends.aw rfl rfl
theorem abt:cz ay 229 [.b false] [] 0 (some n9) (.bz []) [] 0:=by
 refine cz.dQ Sound.nil mo Tryz.func229 Ga (by simp [i229]) (aO ?_)
 dsimp only [i229];simp only [go_sem,simprocAttr];exact ⟨rfl,Ends.aw rfl rfl⟩
theorem aA.zY {P:Program} {f:FuncId} {args:List AV} {pn:Option Value} {v:AV} (hc:Go.Ab.bH P f=true) (ha:ab 0 args=true) (hv:v.aj 0=true) (hf:cz P f args [] 0 pn v [] 0) (h:Hp) (n:Nat):aA P f args h n {v,n,pn}:=by
 refine aA.wB (ψ:=λb=>b) hc hf rfl (bx _) ha (λb hb=>absurd hb (by omega)) (λb kk hb=>by simp [aa] at hb) (aJ _ ha).symm (λb kk hb=>by simp [aa] at hb) (λb1 b2 k1 k2 hb=>by simp) (by simp) (nb _ hv).symm
  (λb r hb=>by simp [cy] at hb) (λb kk hb=>by simp [aa] at hb) (λc kk hc=> ?_)
 simp [bV.app,cy,aa,only,inl] at hc
def ye:Ct
 |[.b c],_,n=>some (true,{v:= .bz [],n,pn:=bif c then none else some n9})
 |_,_,_=>none
theorem VG:ax ay 229 ye:=λargs h n c E hc ht=>by
 unfold ye at hc;split at hc
 ·rename_i b;cases hc;cases b
  ·exact aA.zY (by kernel_rfl) rfl rfl abt _ _
  ·exact aA.zY (pn:=none) (by kernel_rfl) rfl rfl ad8 _ _
 ·cases hc
theorem agz (n bits:Int) (hb:0<=bits/\bits<=63):bG ay 195 [.i .i64 n,.fp [.i .i64 bits] 0] [] 0 (.b !(sk bits n)) [] 0:=by
 refine ew Sound.nil Tryz.func195 Q9 ?_
 dsimp only [i195];have c1:decide (0<=bits)=true:=af hb.1;cases h1:decide (n<0)
 ·have h1':decide (0<=n)=true:=af (by grind)
  simp only [go_sem,h1,c1,simprocAttr];have hm:Nat.min bits.toNat 64=bits.toNat:=pY (by omega)
  have hi:bits<=64:=by omega
  exact Ends.aw rfl (by grind [sk,bne])
 ·have h1':decide (0<=n)=false:=bw (by grind)
  simp only [go_sem,h1,simprocAttr];exact Ends.aw rfl (by simp [sk,h1'])
theorem ahT (l:List Int) (bits:Int) (hb:0<=bits/\bits<=63) (hl:l.length<=9223372036854775807):bG ay 236 [.fz (rows aq l) l.length,.fn 195 [.fp [.i .i64 bits] 0]] [] 0 (.i .i64 (vU (λn=> !sk bits n) l 0)) [] 0:=
 GJ (el:=λn=> .i .i64 n) mo Tryz.func236 RJ (by kernel_rfl) (λ_=>rfl) rfl (λ_=>rfl) (λa b h=>by cases h;rfl) l hl (λn _=>agz n bits hb)
theorem ag4 (l:List Int) (bits:Int) (hb:0<=bits/\bits<=63) (hl:l.length<=9223372036854775807):bG ay 194 [.fz (rows aq l) l.length,.fn 195 [.fp [.i .i64 bits] 0]] [] 0 (.b (l.any λn=> !sk bits n)) [] 0:=
 Li mo Tryz.func194 Ps (by kernel_rfl) (bh gV) rfl (ahT l bits hb hl) (wC _ l 0 (by omega))
def OO:Ct
 |[x,.fn 195 [.p b 0]],h,n=>xQ h 1 x λrd m cs ok=>(aa h b).bind λkb=>(Qg kb).bind λbits=>(bc 1 dG m cs).bind λl=>
  some (ok&&decide (0<=bits/\bits<=63)&&decide (m<=9223372036854775807),{v:= .b (l.any λn=> !sk bits n),n,rd:=b::rd})
 |_,_,_=>none
theorem agr:ax ay 194 OO:=λargs h n c E hc ht=>by
 unfold OO at hc;split at hc
 ·rename_i x b;rw [pF] at hc;simp only [av] at hc;obtain ⟨⟨rd,m,cs,ok⟩,hv,kb,hkb,bits,hbits,l,hl,he⟩:=hc;cases he;simp only [ak,bg] at ht;obtain ⟨⟨rfl,hb⟩,hm⟩:=ht;obtain ⟨rfl,hlm⟩:=bu (f:=aq) df hl;subst hlm;refine aA.C0 (by kernel_rfl) (argsF:=[.fz (rows aq l) l.length,.fn 195 [.fp kb.cells 0]]) ⟨tK hv (bh gV) (λc hc=>by grind [jb]),jR.fn ⟨jR.p (by simp_all [only,jb,cond_true]) ?_ (by rw [Bz hbits]),trivial⟩,trivial⟩ rfl ?_
  ·rw [Bz hbits];rfl
  ·rw [Bz hbits];exact ag4 l bits hb hm
 ·cases hc
def TM1:List (Nat×Ct):=[(194,OO)]
theorem ai0:Sound ay (cj TM1):=Sound.cons agr Sound.nil
theorem ag5 (l:List Int) (bits:Int) (hb:0<=bits/\bits<=63) (hl:l.length<=9223372036854775807):bG ay 136 [.i .i64 bits,.fz (rows aq l) l.length] [] 0 (.b (l.all (sk bits))) [] 0:=by
 refine ew ai0 Tryz.func136 Nk ?_
 dsimp only [i136,TM1];have hu:bc 1 dG l.length (rows aq l)=some l:=dM bR (λ_=>rfl) l;have c1:decide (0<=bits/\bits<=63)=true:=af hb;have c2:decide (l.length<=9223372036854775807)=true:=af hl;have hvw: ∀(h:Hp) (k:List Nat->Nat->List AV->Bool->Option (Bool×bV)),xQ h 1 (.fz (rows aq l) l.length) k=k [] l.length (rows aq l) true:=λh k=>nt bR;simp only [go_sem,OO,hvw,hu,c1,c2,Qg,simprocAttr];refine Ends.aw rfl (dC _ ?_)
 grind
def pv:Ct
 |[.i .i64 bits,x],h,n=>xQ h 1 x λrd m cs ok=>(bc 1 dG m cs).bind λl=>some (ok&&decide (0<=bits/\bits<=63)&&decide (m<=9223372036854775807),{v:= .b (l.all (sk bits)),n,rd})
 |_,_,_=>none
theorem aiQ:ax ay 136 pv:=λargs h n c E hc ht=>by
 unfold pv at hc;split at hc
 ·rename_i bits x;rw [pF] at hc;simp only [av] at hc;obtain ⟨⟨rd,m,cs,ok⟩,hv,l,hl,he⟩:=hc;cases he;simp only [ak,bg] at ht;obtain ⟨⟨rfl,hb⟩,hm⟩:=ht;obtain ⟨rfl,hlm⟩:=bu (f:=aq) df hl;subst hlm;exact aA.C0 (by kernel_rfl) (argsF:=[.i .i64 bits,.fz (rows aq l) l.length]) ⟨jR.same rfl,tK hv (bh gV) (λc hc=>hc),trivial⟩ rfl (ag5 l bits hb hm)
 ·cases hc
def TM2:List (Nat×Ct):=[(136,pv)]
theorem aeO:Sound ay (cj TM2):=Sound.cons aiQ Sound.nil
theorem pJ (p:Md) (hf:p.fin=true) (pre:Bool) {K:bX} {e:Env} {h:Hp} {n:Nat}
 (he:iV 1 e [(1,.p 0 0),(3,.b pre),(48,.fz (rows xu p.xs) p.xs.length),(49,.i .i64 (p.xs.length:Int)),(50,.i .i64 0)])
 (hh:mX 1 h [(0,{cells:=p.l})]) (hK: ∀e' h' n',bC e' 3=some (.b (pre&&jB (lY p.xs) p.xs.length))->K (.exit 0) e' h' n'):
 Ab.Loop ay [51,88] 89 0 acF K e h n:=by
 simp only [Md.fin,ak,bg,du] at hf;obtain ⟨⟨⟨_,hxl⟩,hxd⟩,_⟩:=hf;refine Loop.dV (F:=⟨ay,cj TM2,[51,88],89,0⟩) aeO mo p.xs.length (λ_=>True)
  (λk=>[(1,.p 0 0),(3,.b (pre&&jB (lY p.xs) k)),(48,.fz (rows xu p.xs) p.xs.length),(49,.i .i64 (p.xs.length:Int)),(50,.i .i64 (k:Int))])
  (λk=>[(0,{cells:=p.l})]) 1 (by decide) trivial (by grind [jB]) hh (λk hk _=> ?_)
 dsimp only [TM2];have hLb:ab 1 p.l=true:=au _ p.aj;have hXb:ab 1 (rows xu p.xs)=true:=au _ (bh uf);have hCb:ab 1 (rows aq p.cs)=true:=au _ (bh gV);by_cases hlt:k<p.xs.length
 ·have c1:decide ((k:Int)<(p.xs.length:Int))=true:=af (by omega)
  have c2:decide (0<=(k:Int)/\(k:Int)<(p.xs.length:Int))=true:=af (by omega)
  obtain ⟨x,hx⟩: ∃x,p.xs[k]? =some x:=⟨_,bj hlt⟩;have hw:IntKind.i64.wrap ((k:Int)+1)=((k+1:Nat):Int):=by grind [aN]
  have hr:List.take 2 (List.drop (k*2) (rows xu p.xs))=[.i .i64 x.1,.s x.2]:=dm qA hx;have hxx:=hxd x (bJ hx);have hsn:jB (lY p.xs) (k+1)=(jB (lY p.xs) k&&lY p.xs k):=rfl;cases hp:pre&&jB (lY p.xs) k
  ·have hnx:(pre&&jB (lY p.xs) (k+1))=false:=by grind
   simp only [go_sem,c1,c2,hr,hw,hnx,hlt,Md.l,AV.aj,ab,aP,hXb,hCb,simprocAttr]
  ·have hnx:(pre&&jB (lY p.xs) (k+1))=lY p.xs k:=by grind
   cases a1:vt 0 255 x.1
   ·have hx0:lY p.xs k=false:=by grind [lY]
    rw [hx0] at hnx;simp only [go_sem,c1,c2,hr,hw,hnx,hlt,pv,fv,bc,dG,AU,iz,ju,a1,Md.l,AV.aj,ab,aP,hXb,hCb,simprocAttr]
   cases a2:vt 0 255 (x.2.length:Int)
   ·have hx0:lY p.xs k=false:=by grind [lY]
    rw [hx0] at hnx;simp only [go_sem,c1,c2,hr,hw,hnx,hlt,pv,fv,bc,dG,AU,iz,ju,a1,a2,Md.l,AV.aj,ab,aP,hXb,hCb,simprocAttr]
   cases a3:decide (0<x.1)
   ·have hx0:lY p.xs k=false:=by simp only [lY,hx,a1,a2,a3,mC,j5]
    rw [hx0] at hnx;simp only [go_sem,c1,c2,hr,hw,hnx,hlt,pv,fv,bc,dG,AU,iz,ju,a1,a2,a3,Md.l,AV.aj,ab,aP,hXb,hCb,simprocAttr]
   by_cases hk0:k=0
   ·have d1:(k==0)=true:=by simp [hk0]
    have hx0:lY p.xs k=true:=by simp_all [lY,aG]
    rw [hx0] at hnx;have d0:((k:Int)==0)=true:=by simp [hk0]
    simp only [go_sem,c1,c2,hr,hw,hnx,hlt,pv,fv,bc,dG,AU,iz,ju,a1,a2,a3,d0,Md.l,AV.aj,ab,aP,hXb,hCb,simprocAttr]
   ·have d0:((k:Int)==0)=false:=by simp [hk0]
    have d1:(k==0)=false:=by simp [hk0]
    obtain ⟨y,hy⟩: ∃y,p.xs[k-1]? =some y:=⟨_,bj (by omega)⟩
    have hx0:lY p.xs k=decide (y.1<x.1):=by simp_all [lY,mP,vp]
    rw [hx0] at hnx;have q2:IntKind.i64.wrap ((k:Int)-1)=((k-1:Nat):Int):=by grind [aN]
    have c3:decide (0<=((k-1:Nat):Int)/\((k-1:Nat):Int)<(p.xs.length:Int))=true:=af (by omega)
    have hy1:(rows xu p.xs)[(k-1)*2+0]? =some (.i .i64 y.1):=bM (j:=0) qA hy rfl;rw [kA] at hy1;simp only [go_sem,c1,c2,c3,hr,hw,hnx,hlt,pv,fv,bc,dG,AU,iz,ju,a1,a2,a3,d0,q2,hy1,Md.l,AV.aj,ab,aP,hXb,hCb,simprocAttr];repeat' (first|refine mu (λ_=> ?_) (λ_=> ?_)|refine js ?_ ?_)
    all_goals skip
 ·have c1:decide ((k:Int)<(p.xs.length:Int))=false:=bw (by omega)
  obtain rfl:k=p.xs.length:=by omega
  simp only [go_sem,simprocAttr];exact hK _ _ _ rfl
theorem w61 (p:Md) (hf:p.fin=true):bG ay 61 [.agg p.l] [] 0 (.i .i64 (if vY p then 0 else 230)) [] 0:=by
 have hf':=hf;simp only [Md.fin,ak,bg] at hf';refine ew aeO Tryz.func61 Xv ?_
 dsimp only [i61,TM2];have hu:bc 1 dG p.cs.length (rows aq p.cs)=some p.cs:=dM bR (λ_=>rfl) p.cs;have hcl:decide (p.cs.length<=9223372036854775807)=true:=af hf'.1.1.1;have hvw: ∀(h:Hp) (k:List Nat->Nat->List AV->Bool->Option (Bool×bV)),xQ h 1 (.fz (rows aq p.cs) p.cs.length) k=k [] p.cs.length (rows aq p.cs) true:=λh k=>nt bR;have h32:sk 32=vt 0 4294967295:=funext Z0;have c15:decide ((p.cs.length:Int)<=15)=decide (p.cs.length<=15):=decide_eq_decide.2 (by omega)
 have c16:decide ((p.xs.length:Int)<=16)=decide (p.xs.length<=16):=decide_eq_decide.2 (by omega)
 have hLb:ab 1 p.l=true:=au _ p.aj;have hXb:ab 1 (rows xu p.xs)=true:=au _ (bh uf);have hCb:ab 1 (rows aq p.cs)=true:=au _ (bh gV);have hpre:=rfl (a:=mi p);generalize hR:(if vY p then (0:Int) else 230)=R
 have hrun: ∀(pre:Bool) (e':Env) (h':Hp) (n':Nat),pre=mi p->bC e' 3=some (.b (pre&&jB (lY p.xs) p.xs.length))→
  jw ⟨ay,cj [(136,pv)],[51,88],89,0⟩ (.seq (.seq (.dY ZY) (.cond (.t 88) (.seq (.dY aaF) .ret) .skip)) (.seq (.dY V6) .ret)) (re [.t 2] λv h' n'=>Ab.Ends 0 v h' n' (.i .i64 R) [] 0) e' h' n':=by
  intro pre e' h' n' hp he3;subst hp;cases hb:mi p&&jB (lY p.xs) p.xs.length
  ·rw [hb] at he3;simp only [go_sem,he3,simprocAttr];exact Ends.aw rfl (by grind [vY])
  ·rw [hb] at he3;simp only [go_sem,he3,simprocAttr];exact Ends.aw rfl (by grind [vY])
 cases a1:vt 0 127 p.ty
 ·simp only [go_sem,pv,fv,bc,dG,CI,iz,ju,a1,Md.l,simprocAttr];refine pJ p hf false ?_ ?_ (λe' h' n' he=> ?_)
  ·simp only [go_sem,AV.aj,aP,hXb,simprocAttr]
  ·simp only [go_sem,Md.l,AV.aj,ab,hXb,hCb,simprocAttr]
  simp_all [jl,kW,mi,j5]
 cases a2:vt 0 65535 p.sq
 ·simp only [go_sem,pv,fv,bc,dG,CI,yk,iz,ju,a1,a2,Md.l,simprocAttr];refine pJ p hf false ?_ ?_ (λe' h' n' he=> ?_)
  ·simp only [go_sem,AV.aj,aP,hXb,simprocAttr]
  ·simp only [go_sem,Md.l,AV.aj,ab,hXb,hCb,simprocAttr]
  simp_all [jl,kW,mi,j5,mC]
 cases a3:(vt 0 4294967295 p.tm&&vt 0 4294967295 p.ss)
 ·simp only [go_sem,pv,fv,bc,dG,CI,yk,h32,iz,ju,a1,a2,a3,Md.l,simprocAttr];refine pJ p hf false ?_ ?_ (λe' h' n' he=> ?_)
  ·simp only [go_sem,AV.aj,aP,hXb,simprocAttr]
  ·simp only [go_sem,Md.l,AV.aj,ab,hXb,hCb,simprocAttr]
  simp_all [jl,kW,mi,j5,mC,aG]
 cases a4:p.cs.all (vt 0 4294967295)
 ·simp only [go_sem,pv,fv,bc,dG,CI,yk,h32,iz,ju,hvw,hu,hcl,a1,a2,a3,a4,Md.l,simprocAttr];refine pJ p hf false ?_ ?_ (λe' h' n' he=> ?_)
  ·simp only [go_sem,AV.aj,aP,hXb,simprocAttr]
  ·simp only [go_sem,Md.l,AV.aj,ab,hXb,hCb,simprocAttr]
  simp_all [jl,kW,mi,j5,mC,aG]
 cases a5:vt 0 255 p.pd
 ·simp only [go_sem,pv,fv,bc,dG,CI,AU,yk,h32,iz,ju,hvw,hu,hcl,a1,a2,a3,a4,a5,Md.l,simprocAttr];refine pJ p hf false ?_ ?_ (λe' h' n' he=> ?_)
  ·simp only [go_sem,AV.aj,aP,hXb,simprocAttr]
  ·simp only [go_sem,Md.l,AV.aj,ab,hXb,hCb,simprocAttr]
  simp_all [jl,kW,mi,j5,mC,aG]
 cases a6:decide (p.cs.length<=15)
 ·simp only [go_sem,pv,fv,bc,dG,CI,AU,yk,h32,iz,ju,hvw,hu,hcl,c15,a1,a2,a3,a4,a5,a6,Md.l,simprocAttr];refine pJ p hf false ?_ ?_ (λe' h' n' he=> ?_)
  ·simp only [go_sem,AV.aj,aP,hXb,simprocAttr]
  ·simp only [go_sem,Md.l,AV.aj,ab,hXb,hCb,simprocAttr]
  simp_all [jl,kW,mi,j5,mC,aG]
 cases a7:decide (p.xs.length<=16)
 ·simp only [go_sem,pv,fv,bc,dG,CI,AU,yk,h32,iz,ju,hvw,hu,hcl,c15,c16,a1,a2,a3,a4,a5,a6,a7,Md.l,simprocAttr];refine pJ p hf false ?_ ?_ (λe' h' n' he=> ?_)
  ·simp only [go_sem,AV.aj,aP,hXb,simprocAttr]
  ·simp only [go_sem,Md.l,AV.aj,ab,hXb,hCb,simprocAttr]
  simp_all [jl,kW,mi,mC,aG]
 simp only [go_sem,pv,fv,bc,dG,CI,AU,yk,h32,iz,ju,hvw,hu,hcl,c15,c16,a1,a2,a3,a4,a5,a6,a7,Md.l,simprocAttr];refine pJ p hf true ?_ ?_ (λe' h' n' he=> ?_)
 ·simp only [go_sem,AV.aj,aP,hXb,simprocAttr]
 ·simp only [go_sem,Md.l,AV.aj,ab,hXb,hCb,simprocAttr]
 simp_all [jl,kW,mi,aG]
def As:Ct
 |[.agg l],_,n=>(Jj l).bind λp=>some (p.fin,{v:= .i .i64 (if vY p then 0 else 230),n})
 |_,_,_=>none
theorem s61:ax ay 61 As:=λargs h n c E hc ht=>by
 unfold As at hc;split at hc
 ·simp only [av] at hc;obtain ⟨p,hp,he⟩:=hc;cases he;rw [x3 hp];exact aA.pure (by kernel_rfl) (by simp only [ab,AV.aj,p.aj,aG]) rfl (w61 p ht) _ _
 ·cases hc
structure Mx where
 s:Sw
 k:Int
 p:Md
 x:Sh
def Mx.c (m:Mx) (o:AV):List AV:=
 [.fz (rows aq m.s.l) m.s.l.length,.i .i64 m.s.ou,.i .i64 m.s.st,.i .i64 m.s.nw,.i .i64 m.s.wa,.i .i64 m.s.ca,.i .i64 m.s.ai,.i .i64 m.s.tp,.i .i64 m.s.fr,.b m.s.kp,.i .i64 m.s.sq,.i .i64 m.s.tm,.i .i64 m.s.id,.i .i64 m.s.ba,.i .i64 m.s.ss,.i .i64 m.s.sT,.i .i64 m.s.si,.i .i64 m.s.sb,
  .i .i64 m.k,
  .b m.p.ma,.i .i64 m.p.ty,.i .i64 m.p.sq,.i .i64 m.p.tm,.i .i64 m.p.ss,.fz (rows aq m.p.cs) m.p.cs.length,.fz (rows xu m.p.xs) m.p.xs.length,.i .i64 m.p.pd,.s m.p.pl,
  .b m.x.st,.b m.x.ky,.b m.x.sy,.b m.x.la,.i .i64 m.x.id,.i .i64 m.x.ba,.i .i64 m.x.te,.i .i64 m.x.sp,
  o]
theorem Mx.aj (m:Mx) {j:Nat} {o:AV} (ho:o.aj j=true):ab j (m.c o)=true:=by simp only [Mx.c,ab,AV.aj,ib,T4,ho,aG]
def sh8:List AV->Option Sh
 |[.b st,.b ky,.b sy,.b la,.i .i64 id,.i .i64 ba,.i .i64 te,.i .i64 sp]=>some ⟨st,ky,sy,la,id,ba,te,sp⟩
 |_=>none
theorem Xb {l:List AV} {x:Sh} (h:sh8 l=some x):l=x.l:=by
 unfold sh8 at h;split at h
 ·cases h;rfl
 ·cases h
def mxL (l:List AV):Option (Mx×AV):=(G9 (l.take 18)).bind λs=>match l.drop 18 with
 | .i .i64 k::r=>(Jj (r.take 9)).bind λp=>(sh8 ((r.drop 9).take 8)).bind λx=>match r.drop 17 with
  |[o]=>some (⟨s,k,p,x⟩,o)
  |_=>none
 |_=>none
theorem ado (m:Mx) (o:AV):mxL (m.c o)=some (m,o):=by
 obtain ⟨s,k,p,x⟩:=m;show (G9 s.a).bind (λs'=>(Jj p.l).bind λp'=>(sh8 x.l).bind λx'=>some ((⟨s',k,p',x'⟩:Mx),o))=_;rw [pC,aC,vG,aC];rfl
theorem sJ {α:Type} (l:List α) (n:Nat):l=l.take n++l.drop n:=(jr n l).symm
theorem V3 {l:List AV} {m:Mx} {o:AV} (h:mxL l=some (m,o)):l=m.c o:=by
 unfold mxL at h;simp only [av] at h;obtain ⟨s,hs,h⟩:=h;split at h
 ·rename_i k r hr;simp only [av] at h;obtain ⟨p,hp,x,hx,h⟩:=h;split at h
  ·rename_i o' ho;simp only [aI,aV] at h;obtain ⟨rfl,rfl⟩:=h;rw [sJ l 18,hr,rU hs,sJ r 9,x3 hp,sJ (r.drop 9) 8,Xb hx,tG,ho];rfl
  ·cases h
 ·cases h
def S4 (k:bp):Option (Mx×AV):=match k with
 |⟨c,false,none,none,none⟩=>mxL c
 |_=>none
theorem FO (m:Mx) (o:AV):S4 {cells:=m.c o}=some (m,o):=ado m o
theorem uv {k:bp} {m:Mx} {o:AV} (h:S4 k=some (m,o)):k={cells:=m.c o}:=by
 unfold S4 at h
 grind [V3]
/-! take -/
def tk (s:Sw) (k:Int) (x:Sh):Bool:=(k==s.wa)&&(!(k==s.nw)&&(x.st&&(x.ky&&(x.sp==0))))
def cY (s:Sw) (k:Int) (p:Md) (x:Sh):Sw:=bif tk s k x then
 ⟨s.l,s.ou,s.st,k,s.wa,0,s.ai,(p.sq-1) % 65536,x.id,true,(IntKind.i64.wrap (s.ss+1)-p.sq) % 65536,(IntKind.i64.wrap (s.sT+s.st)-p.tm) % 4294967296,(IntKind.i64.wrap (s.si+1)+IntKind.i64.wrap (0-x.id)) % 32768,(IntKind.i64.wrap (s.sb+1)-x.ba) % 256,s.ss,s.sT,s.si,s.sb⟩ else s
def aaX:List (Nat×Ct):=[(225,DN),(226,Oc),(227,xN),(228,Oy)]
theorem ae7:Sound ay (cj aaX):=Sound.cons acq (Sound.cons afV (Sound.cons VP (Sound.cons afL Sound.nil)))
theorem afU (m:Mx) (o:AV) (ho:o.aj 1=true):bG ay 187 [.p 0 0] [(0,{cells:=m.c o})] 1 (.bz []) [(0,{cells:=Mx.c {m with s:=cY m.s m.k m.p m.x} o})] 1:=by
 have hR:cY m.s m.k m.p m.x=bif tk m.s m.k m.x then
  ⟨m.s.l,m.s.ou,m.s.st,m.k,m.s.wa,0,m.s.ai,(m.p.sq-1) % 65536,m.x.id,true,(IntKind.i64.wrap (m.s.ss+1)-m.p.sq) % 65536,(IntKind.i64.wrap (m.s.sT+m.s.st)-m.p.tm) % 4294967296,(IntKind.i64.wrap (m.s.si+1)+IntKind.i64.wrap (0-m.x.id)) % 32768,(IntKind.i64.wrap (m.s.sb+1)-m.x.ba) % 256,m.s.ss,m.s.sT,m.s.si,m.s.sb⟩ else m.s:=rfl
 generalize cY m.s m.k m.p m.x=R at*;obtain ⟨⟨l,ou,st,nw,wa,ca,ai,tp,fr,kp,sq,tm,id,ba,ss,sT,si,sb⟩,k,⟨ma,pty,psq,ptm,pss,cs,xs,pd,pl⟩,⟨xst,xky,xsy,xla,xid,xba,xte,xsp⟩⟩:=m;simp only [tk] at hR;simp only [Mx.c];refine ew ae7 Tryz.func187 Qt ?_
 dsimp only [i187,aaX];have hB1:=ib 1 l;have hB2:=csB 1 cs;have hB3:=T4 1 xs;have aj:=λ{j:Nat}=> @AV.aj j;cases a1:(k==wa)
 ·have b1:(k !=wa)=true:=by grind
  simp only [go_sem,b1,simprocAttr];rw [a1] at hR;rw [hR];exact Ends.gH rfl rfl (by simp_all [AV.aj,ab,aG]) rfl rfl
 have b1:(k !=wa)=false:=by grind
 cases a2:(k==nw);rotate_left
 ·simp only [go_sem,b1,a2,simprocAttr];rw [a1,a2] at hR;rw [hR];exact Ends.gH rfl rfl (by simp_all [AV.aj,ab,aG]) rfl rfl
 cases xst
 ·simp only [go_sem,b1,a2,simprocAttr];rw [a1,a2] at hR;rw [hR];exact Ends.gH rfl rfl (by simp_all [AV.aj,ab,aG]) rfl rfl
 cases xky
 ·simp only [go_sem,b1,a2,simprocAttr];rw [a1,a2] at hR;rw [hR];exact Ends.gH rfl rfl (by simp_all [AV.aj,ab,aG]) rfl rfl
 cases a3:(xsp==0)
 ·have b3:(xsp !=0)=true:=by grind
  simp only [go_sem,b1,a2,b3,simprocAttr];rw [a1,a2,a3] at hR;rw [hR];exact Ends.gH rfl rfl (by simp_all [AV.aj,ab,aG]) rfl rfl
 have b3:(xsp !=0)=false:=by grind
 simp only [go_sem,b1,a2,b3,DN,Oc,xN,Oy,simprocAttr];rw [a1,a2,a3] at hR;rw [hR];exact Ends.gH rfl rfl (by simp_all [AV.aj,ab,aG]) rfl rfl
def H8:Ct
 |[.p b 0],h,n=>(aa h b).bind λkb=>(S4 kb).bind λmo=>some (mo.2.aj 0,{v:= .bz [],n,rd:=[b],md:=[(b,some {cells:=Mx.c {mo.1 with s:=cY mo.1.s mo.1.k mo.1.p mo.1.x} mo.2})]})
 |_,_,_=>none
theorem aA.zp {P:Program} {f:FuncId} {argsL:List AV} {pn:Option Value} {v:AV} {k k':bp} {b n:Nat} {h:Hp} (hc:Go.Ab.bH P f=true) (ha:ab 1 argsL=true) (hk:ab 0 k.cells=true) (hk':ab 0 k'.cells=true) (hro:k'.ro=false) (hv:v.aj 0=true) (hb:aa h b=some k)
 (hf:cz P f argsL [(0,k)] 1 pn v [(0,k')] 1):aA P f (aS (λ_=>b) argsL) h n {v,n,rd:=[b],md:=[(b,some k')],pn}:=by
 have hkr:k.aQ (λ_=>b)=k:=by simp_all [bp.aQ,aJ]
 have hkr':k'.aQ (λ_=>b)=k':=by simp only [bp.aQ,aJ k'.cells hk']
 have h0: ∀(k:bp) c kk,aa [(0,k)] c=some kk->c=0/\kk=k:=λk c kk hh=>by
  grind [aa,bO]
 have hbel1:ab 1 k.cells=true:=au _ hk;refine aA.wB (ψ:=λ_=>b) hc hf rfl (bx _) ha (λc hc=>⟨k,by rw [show c=0 by omega];rfl⟩) (λc kk hh=> ?_) rfl (λc kk hh=> ?_) (λb1 b2 k1 k2 h1 h2 _ _=> ?_) (by simp) (nb _ hv).symm (λc r hh=> ?_) (λc kk hh=>by simp [aa] at hh) (λc kk hh=> ?_)
 ·grind
 ·obtain ⟨rfl,rfl⟩:=h0 k c kk hh;simp_all [only,inl]
 ·grind
 ·grind [cy,inl,bO]
 ·simp only [bV.app,cy,aa] at hh;by_cases hcb:c=b
  ·subst hcb;simp at hh;subst hh;refine ⟨0,k',rfl,by omega,by simp,?_,λh=>by grind⟩
   grind [bp.aQ,aJ]
  simp_all [bO,cond_false,only,inl]
theorem agM:ax ay 187 H8:=λargs h n c E hc ht=>by
 unfold H8 at hc;split at hc
 ·rename_i b;simp only [av,aI,aV] at hc;obtain ⟨kb,hkb,⟨m,o⟩,hm,rfl,rfl⟩:=hc;have:=uv hm;subst this;simp only at ht ⊢;have hb1: ∀j,o.aj j=true:=λj=>by
   have:=au (m:=j) [o] (by grind [ab,aG])
   simp_all [ab,jW]
  exact aA.zp (pn:=none) (argsL:=[.p 0 0]) (by kernel_rfl) rfl (m.aj ht) (Mx.aj _ ht) rfl rfl hkb (afU m o (hb1 1))
 ·cases hc
theorem CH {o:AV} (h:o.aj 0=true) (j:Nat):o.aj j=true:=by
 have:=au (m:=j) [o] (by grind [ab,aG])
 simp_all [ab,jW]
/-! advance -/
def lv (s:Sw) (k:Int) (p:Md):Bool:=(k==s.nw)&&decide (lead p.sq s.tp>0)
def iX (s:Sw) (k:Int) (p:Md):Sw:=bif lv s k p then {s with tp:=p.sq} else s
def abf:List (Nat×Ct):=[(229,ye),(230,L5)]
theorem ae1:Sound ay (cj abf):=Sound.cons VG (Sound.cons agB Sound.nil)
theorem agO (m:Mx) (o:AV) (ho:o.aj 1=true) (h1:bZ 0 65535 m.p.sq=true) (h2:bZ 0 65535 m.s.tp=true):
 cz ay 188 [.p 0 0] [(0,{cells:=m.c o})] 1 (bif lv m.s m.k m.p then none else some n9) (.bz []) [(0,{cells:=Mx.c {m with s:=iX m.s m.k m.p} o})] 1:=by
 have hR:iX m.s m.k m.p=bif lv m.s m.k m.p then {m.s with tp:=m.p.sq} else m.s:=rfl
 generalize iX m.s m.k m.p=R at*;obtain ⟨⟨l,ou,st,nw,wa,ca,ai,tp,fr,kp,sq,tm,id,ba,ss,sT,si,sb⟩,k,⟨ma,pty,psq,ptm,pss,cs,xs,pd,pl⟩,⟨xst,xky,xsy,xla,xid,xba,xte,xsp⟩⟩:=m;simp only [lv] at hR ⊢;dsimp only at h1 h2;simp only [Mx.c];refine cz.dQ ae1 mo Tryz.func188 R4 (by simp [i188]) (aO ?_)
 dsimp only [i188,abf];have hB1:=ib 1 l;have hB2:=csB 1 cs;have hB3:=T4 1 xs;cases a1:(k==nw)
 ·simp only [go_sem,a1,ye,simprocAttr];rw [a1] at hR;rw [hR];exact Ends.gH rfl rfl (by simp_all [AV.aj,ab,aG]) rfl rfl
 have e0:((0:Int)==0)=true:=rfl;cases a2:decide (lead psq tp>0)
 ·simp only [go_sem,a1,a2,ye,L5,h1,h2,e0,simprocAttr];rw [a1,a2] at hR;rw [hR];exact Ends.gH rfl rfl (by simp_all [AV.aj,ab,aG]) rfl rfl
 ·simp only [go_sem,a1,a2,ye,L5,h1,h2,e0,simprocAttr];rw [a1,a2] at hR;rw [hR];exact Ends.gH rfl rfl (by simp_all [AV.aj,ab,aG]) rfl rfl
def HP:Ct
 |[.p b 0],h,n=>(aa h b).bind λkb=>(S4 kb).bind λmo=>some (mo.2.aj 0&&(bZ 0 65535 mo.1.p.sq&&bZ 0 65535 mo.1.s.tp),{v:= .bz [],n,rd:=[b],md:=[(b,some {cells:=Mx.c {mo.1 with s:=iX mo.1.s mo.1.k mo.1.p} mo.2})],pn:=bif lv mo.1.s mo.1.k mo.1.p then none else some n9})
 |_,_,_=>none
theorem aja:ax ay 188 HP:=λargs h n c E hc ht=>by
 unfold HP at hc;split at hc
 ·rename_i b;simp only [av,aI,aV] at hc;obtain ⟨kb,hkb,⟨m,o⟩,hm,rfl,rfl⟩:=hc;have:=uv hm;subst this;simp only [ak] at ht ⊢;exact aA.zp (argsL:=[.p 0 0]) (by kernel_rfl) rfl (m.aj ht.1) (Mx.aj _ ht.1) rfl rfl hkb (agO m o (CH ht.1 1) ht.2.1 ht.2.2)
 ·cases hc
/-! frame -/
def sD (s:Sw) (x:Sh):Int:=bif x.ky then 0 else min s.ca s.ai
def sZ (s:Sw) (x:Sh):Int:=bif x.sy&&(x.te==IntKind.i64.wrap (sD s x+1)&&decide (x.te<=s.ai)) then IntKind.i64.wrap (sD s x+1) else sD s x
def dz (s:Sw) (x:Sh):Sw:=bif x.id==s.fr then s else
 ⟨s.l,s.ou,s.st,s.nw,s.wa,sZ s x,s.ai,s.tp,x.id,decide (x.te<=sZ s x),s.sq,s.tm,bif decide (x.te<=sZ s x) then s.id else (s.id+ -1) % 32768,s.ba,s.ss,s.sT,s.si,s.sb⟩
def adu:List (Nat×Ct):=[(227,xN)]
theorem abp:Sound ay (cj adu):=Sound.cons VP Sound.nil
theorem aiA (m:Mx) (o:AV) (ho:o.aj 1=true):
 bG ay 189 [.p 0 0] [(0,{cells:=m.c o})] 1 (.bz []) [(0,{cells:=Mx.c {m with s:=dz m.s m.x} o})] 1:=by
 have hR:dz m.s m.x=bif m.x.id==m.s.fr then m.s else
 ⟨m.s.l,m.s.ou,m.s.st,m.s.nw,m.s.wa,sZ m.s m.x,m.s.ai,m.s.tp,m.x.id,decide (m.x.te<=sZ m.s m.x),m.s.sq,m.s.tm,bif decide (m.x.te<=sZ m.s m.x) then m.s.id else (m.s.id+ -1) % 32768,m.s.ba,m.s.ss,m.s.sT,m.s.si,m.s.sb⟩:=rfl
 have hC:sZ m.s m.x=bif m.x.sy&&(m.x.te==IntKind.i64.wrap (sD m.s m.x+1)&&decide (m.x.te<=m.s.ai)) then IntKind.i64.wrap (sD m.s m.x+1) else sD m.s m.x:=rfl
 have hD:sD m.s m.x=bif m.x.ky then 0 else min m.s.ca m.s.ai:=rfl
 generalize dz m.s m.x=R at*;generalize sZ m.s m.x=CT at*;generalize sD m.s m.x=CS at*;obtain ⟨⟨l,ou,st,nw,wa,ca,ai,tp,fr,kp,sq,tm,id,ba,ss,sT,si,sb⟩,k,⟨ma,pty,psq,ptm,pss,cs,xs,pd,pl⟩,⟨xst,xky,xsy,xla,xid,xba,xte,xsp⟩⟩:=m;dsimp only at hR hC hD;simp only [Mx.c];refine ew abp Tryz.func189 Pb ?_
 dsimp only [i189,adu];have hB1:=ib 1 l;have hB2:=csB 1 cs;have hB3:=T4 1 xs;have hmin:min ca ai=if ai<ca then ai else ca:=by omega
 rw [hmin] at hD;have hw:IntKind.i64.wrap (0+1)=1:=rfl;cases a1:(xid==fr);rotate_left
 ·simp only [go_sem,a1,simprocAttr];rw [a1] at hR;rw [hR];exact Ends.gH rfl rfl (by simp_all [AV.aj,ab,aG]) rfl rfl
 rw [a1] at hR;cases xky;all_goals (
  cases xsy
  ·have hC':CT=CS:=hC;cases a4:decide (xte<=CT);all_goals (
    rw [a4] at hR;rw [hC',hD] at a4;dsimp only [cond_true,cond_false] at a4;(try simp only [hw] at a4)
    simp only [go_sem,a1,xN,hmin,a4,simprocAttr];rw [hR,hC',hD];exact Ends.gH rfl rfl (by simp_all [AV.aj,ab,aG]) rfl rfl)
  cases a2:(xte==IntKind.i64.wrap (CS+1))
  ·rw [a2] at hC;have hC':CT=CS:=hC;rw [hD] at a2;dsimp only [cond_true,cond_false] at a2;(try rw [hw] at a2)
   cases a4:decide (xte<=CT);all_goals (
    rw [a4] at hR;rw [hC',hD] at a4;dsimp only [cond_true,cond_false] at a4;(try simp only [hw] at a4)
    simp only [go_sem,a1,a2,xN,hmin,a4,simprocAttr];rw [hR,hC',hD];exact Ends.gH rfl rfl (by simp_all [AV.aj,ab,aG]) rfl rfl)
  cases a3:decide (xte<=ai)
  ·rw [a2,a3] at hC;have hC':CT=CS:=hC;rw [hD] at a2;dsimp only [cond_true,cond_false] at a2;(try rw [hw] at a2)
   cases a4:decide (xte<=CT);all_goals (
    rw [a4] at hR;rw [hC',hD] at a4;dsimp only [cond_true,cond_false] at a4;(try simp only [hw] at a4)
    simp only [go_sem,a1,a2,a3,xN,hmin,a4,simprocAttr];rw [hR,hC',hD];exact Ends.gH rfl rfl (by simp_all [AV.aj,ab,aG]) rfl rfl)
  rw [a2,a3] at hC;have hC':CT=IntKind.i64.wrap (CS+1):=hC;rw [hD] at a2;dsimp only [cond_true,cond_false] at a2;(try rw [hw] at a2)
  cases a4:decide (xte<=CT);all_goals (
   rw [a4] at hR;rw [hC',hD] at a4;dsimp only [cond_true,cond_false] at a4;(try simp only [hw] at a4)
   simp only [go_sem,a1,a2,a3,xN,hmin,a4,simprocAttr];rw [hR,hC',hD];exact Ends.gH rfl rfl (by simp only [AV.aj,ab,hB1,hB2,hB3,ho,aG]) rfl rfl))
def IY:Ct
 |[.p b 0],h,n=>(aa h b).bind λkb=>(S4 kb).bind λmo=>some (mo.2.aj 0,{v:= .bz [],n,rd:=[b],md:=[(b,some {cells:=Mx.c {mo.1 with s:=dz mo.1.s mo.1.x} mo.2})]})
 |_,_,_=>none
theorem ahH:ax ay 189 IY:=λargs h n c E hc ht=>by
 unfold IY at hc;split at hc
 ·rename_i b;simp only [av,aI,aV] at hc;obtain ⟨kb,hkb,⟨m,o⟩,hm,rfl,rfl⟩:=hc;have:=uv hm;subst this;simp only at ht ⊢;exact aA.zp (pn:=none) (argsL:=[.p 0 0]) (by kernel_rfl) rfl (m.aj ht) (Mx.aj _ ht) rfl rfl hkb (aiA m o (CH ht 1))
 ·cases hc
/-! drop -/
def jD (s:Sw) (x:Sh):Bool:= !s.kp|| !(x.sp==0)
def kI (s:Sw) (x:Sh):Sw:=bif jD s x then {s with sq:=(s.sq-1) % 65536} else s
def adB:List (Nat×Ct):=[(225,DN),(229,ye)]
theorem aeN:Sound ay (cj adB):=Sound.cons acq (Sound.cons VG Sound.nil)
theorem agG (m:Mx) (o:AV) (ho:o.aj 1=true):
 cz ay 190 [.p 0 0] [(0,{cells:=m.c o})] 1 (bif jD m.s m.x then some n9 else none) (.bz []) [(0,{cells:=Mx.c {m with s:=kI m.s m.x} o})] 1:=by
 have hR:kI m.s m.x=bif jD m.s m.x then {m.s with sq:=(m.s.sq-1) % 65536} else m.s:=rfl
 generalize kI m.s m.x=R at*;obtain ⟨⟨l,ou,st,nw,wa,ca,ai,tp,fr,kp,sq,tm,id,ba,ss,sT,si,sb⟩,k,⟨ma,pty,psq,ptm,pss,cs,xs,pd,pl⟩,⟨xst,xky,xsy,xla,xid,xba,xte,xsp⟩⟩:=m;simp only [jD] at hR ⊢;simp only [Mx.c];refine cz.dQ aeN mo Tryz.func190 Sb (by simp [i190]) (aO ?_)
 dsimp only [i190,adB];have hB1:=ib 1 l;have hB2:=csB 1 cs;have hB3:=T4 1 xs;cases kp
 ·simp only [go_sem,DN,ye,simprocAttr];rw [hR];exact Ends.gH rfl rfl (by simp_all [AV.aj,ab,aG]) rfl rfl
 cases a1:(xsp==0);all_goals (
  have b1:(xsp !=0)= !(xsp==0):=rfl;rw [a1] at hR b1;simp only [go_sem,DN,ye,b1,simprocAttr];rw [hR];exact Ends.gH rfl rfl (by simp_all [AV.aj,ab,aG]) rfl rfl)
def LL:Ct
 |[.p b 0],h,n=>(aa h b).bind λkb=>(S4 kb).bind λmo=>some (mo.2.aj 0,{v:= .bz [],n,rd:=[b],md:=[(b,some {cells:=Mx.c {mo.1 with s:=kI mo.1.s mo.1.x} mo.2})],pn:=bif jD mo.1.s mo.1.x then some n9 else none})
 |_,_,_=>none
theorem agS:ax ay 190 LL:=λargs h n c E hc ht=>by
 unfold LL at hc;split at hc
 ·rename_i b;simp only [av,aI,aV] at hc;obtain ⟨kb,hkb,⟨m,o⟩,hm,rfl,rfl⟩:=hc;have:=uv hm;subst this;simp only at ht ⊢;exact aA.zp (argsL:=[.p 0 0]) (by kernel_rfl) rfl (m.aj ht) (Mx.aj _ ht) rfl rfl hkb (agG m o (CH ht 1))
 ·cases hc
/-! Clone of extensions -/
theorem afQ (l:List (Int×List UInt8)) (hz:24*l.length<=az):bG ay 235 [.fz (rows xu l) l.length] [] 0 (.fz (rows xu l) l.length) [] 0:=
 Tc (z:=2) (bytes:=24) (zs:=[.i .i64 0,.s []]) mo Tryz.func235 QT (aU qA) (dr (λ_=>rfl) l) (bh uf) hz
def QA:Ct
 |[.fz L m],_,n=>(bc 2 ZT m L).bind λl=>some (decide (24*l.length<=az),{v:= .fz (rows xu l) l.length,n})
 |_,_,_=>none
theorem aiZ:ax ay 235 QA:=λargs h n c E hc ht=>by
 unfold QA at hc;split at hc
 ·simp only [av,aI,aV] at hc;obtain ⟨l,hl,rfl,rfl⟩:=hc;obtain ⟨rfl,rfl⟩:=bu (f:=xu) (λc a h=>KP c a h) hl;exact aA.pure (by kernel_rfl) (by simp only [ab,AV.aj,T4,aG]) (by simp only [AV.aj,T4]) (afQ _ (bN ht)) _ _
 ·cases hc
/-! send -/
def lD (s:Sw) (p:Md) (x:Sh):Sw:={s with ss:=(p.sq+s.sq) % 65536,sT:=(p.tm+s.tm) % 4294967296,si:=(x.id+s.id) % 32768,sb:=(x.ba+s.ba) % 256}
def zn (s:Sw) (p:Md) (x:Sh):Md:={p with ss:=s.ou,sq:=(p.sq+s.sq) % 65536,tm:=(p.tm+s.tm) % 4294967296,pl:=(wk p.pl ((x.id+s.id) % 32768) ((x.ba+s.ba) % 256)).1}
def x6 (s:Sw) (p:Md) (x:Sh):Bool:=decide (p.pl.length<=1000000000)&&(decide (8*p.cs.length<=az)&&(decide (24*p.xs.length<=az)&&((wk p.pl ((x.id+s.id) % 32768) ((x.ba+s.ba) % 256)).2==0)))
def ab6:List (Nat×Ct):=[(90,vS),(227,xN),(229,ye),(231,Px),(232,NN),(233,Qp),(234,Rv),(235,QA)]
theorem acG:Sound ay (cj ab6):=Sound.cons ZW (Sound.cons VP (Sound.cons VG (Sound.cons aha (Sound.cons ahc (Sound.cons agU (Sound.cons agX (Sound.cons aiZ Sound.nil)))))))
theorem ai3 (m:Mx) (hok:x6 m.s m.p m.x=true):
 bG ay 191 [.p 0 0] [(0,{cells:=m.c .ns})] 1 (.bz []) [(0,{cells:=Mx.c {m with s:=lD m.s m.p m.x} (.fz (zn m.s m.p m.x).l 1)})] 1:=by
 have hS:lD m.s m.p m.x={m.s with ss:=(m.p.sq+m.s.sq) % 65536,sT:=(m.p.tm+m.s.tm) % 4294967296,si:=(m.x.id+m.s.id) % 32768,sb:=(m.x.ba+m.s.ba) % 256}:=rfl
 have hP:zn m.s m.p m.x={m.p with ss:=m.s.ou,sq:=(m.p.sq+m.s.sq) % 65536,tm:=(m.p.tm+m.s.tm) % 4294967296,pl:=(wk m.p.pl ((m.x.id+m.s.id) % 32768) ((m.x.ba+m.s.ba) % 256)).1}:=rfl
 simp only [x6,ak,bg,ik] at hok;generalize lD m.s m.p m.x=S at*;generalize zn m.s m.p m.x=R at*;obtain ⟨⟨l,ou,st,nw,wa,ca,ai,tp,fr,kp,sq,tm,id,ba,ss,sT,si,sb⟩,k,⟨ma,pty,psq,ptm,pss,cs,xs,pd,pl⟩,⟨xst,xky,xsy,xla,xid,xba,xte,xsp⟩⟩:=m;dsimp only at hS hP hok;obtain ⟨o1,o2,o3,o4⟩:=hok;simp only [Mx.c];refine bG.dy acG mo Tryz.func191 Sm (by simp [i191]) (aO ?_)
 dsimp only [i191,ab6];have d1:decide (pl.length<=1000000000)=true:=af o1;have d2:decide (8*cs.length<=az)=true:=af o2;have d3:decide (24*xs.length<=az)=true:=af o3;have q1:bc 1 dG cs.length (rows aq cs)=some cs:=dM bR (λ_=>rfl) cs;have q2:bc 2 ZT xs.length (rows xu xs)=some xs:=dM qA (λ_=>rfl) xs;have hB1: ∀j,ab j (rows aq l)=true:=λj=>ib j l;have hB2: ∀j,ab j (rows aq cs)=true:=λj=>csB j cs;have hB3: ∀j,ab j (rows xu xs)=true:=λj=>T4 j xs;simp only [go_sem,vS,xN,ye,Px,NN,Qp,Rv,QA,d1,d2,d3,q1,q2,o4,simprocAttr];subst hS hP;have g1:112<=az:=by decide
 rw [show decide (112<=az)=true from af g1]
 refine ⟨rfl,?_⟩;refine aZ.rY (b:=3) (o:=0) (m:=1) (cs:=Md.l ⟨ma,pty,(psq+sq) % 65536,(ptm+tm) % 4294967296,ou,cs,xs,pd,(wk pl ((xid+id) % 32768) ((xba+ba) % 256)).1⟩) (v':= .bz []) (h':=[(0,{cells:=Mx.c ⟨⟨l,ou,st,nw,wa,ca,ai,tp,fr,kp,sq,tm,id,ba,(psq+sq) % 65536,(ptm+tm) % 4294967296,(xid+id) % 32768,(xba+ba) % 256⟩,k,⟨ma,pty,psq,ptm,pss,cs,xs,pd,pl⟩,⟨xst,xky,xsy,xla,xid,xba,xte,xsp⟩⟩ (.fz (Md.l ⟨ma,pty,(psq+sq) % 65536,(ptm+tm) % 4294967296,ou,cs,xs,pd,(wk pl ((xid+id) % 32768) ((xba+ba) % 256)).1⟩) 1)})]) rfl rfl (.inr rfl) (.inl rfl) bW.refl ?_ ?_
 ·refine ⟨⟨by decide,⟨_,rfl,rfl,rfl,rfl,?_⟩⟩,trivial⟩
  dsimp only [Mx.c];repeat (first|exact trivial|refine ⟨bW.refl,?_⟩|refine ⟨bW.hit,?_⟩)
 ·refine aZ.ends (Ends.gH rfl rfl ?_ rfl rfl);simp_all [Mx.aj,AV.aj,Md.l,ab,aG]
theorem ED (p:Md) (j:Nat):ab j p.l=true:=au _ p.aj
def O1:Ct
 |[.p b 0],h,n=>(aa h b).bind λkb=>(S4 kb).bind λmo=>match mo.2 with
  | .ns=>some (x6 mo.1.s mo.1.p mo.1.x,{v:= .bz [],n,rd:=[b],md:=[(b,some {cells:=Mx.c {mo.1 with s:=lD mo.1.s mo.1.p mo.1.x} (.fz (zn mo.1.s mo.1.p mo.1.x).l 1)})]})
  |_=>none
 |_,_,_=>none
theorem ain:ax ay 191 O1:=λargs h n c E hc ht=>by
 unfold O1 at hc;split at hc
 ·rename_i b;simp only [av] at hc;obtain ⟨kb,hkb,⟨m,o⟩,hm,hc⟩:=hc;have:=uv hm;subst this;dsimp only at hc;cases o
  case ns=>
   cases hc;exact aA.zp (pn:=none) (argsL:=[.p 0 0]) (by kernel_rfl) rfl (m.aj rfl) (Mx.aj _ (by simp only [AV.aj,ED])) rfl rfl hkb (ai3 m ht)
  all_goals cases hc
 ·cases hc
def BY (p:Md):Bool:=decide (p.pl.length<=1000000000)&&(decide (8*p.cs.length<=az)&&(decide (24*p.xs.length<=az)&&((dec p.pl).2.2==0&&bZ 0 65535 p.sq)))
theorem Yk {l:List UInt8} (h:(dec l).2.2=0) (a b:Int):(wk l (a % 32768) (b % 256)).2=0:=by
 have h1:X6 (a % 32768) (b % 256)=true:=by simp only [X6,ak,bg];omega
 simp_all [wk,bne_self_eq_false,ei]
theorem G8 {s:Sw} {p:Md} {x:Sh} (h:BY p=true):x6 s p x=true:=by
 simp_all [BY,ak,bg,ik,x6,Yk]
/-! told -/
def Oz:List (Nat×Ct):=[(187,H8),(188,HP),(189,IY),(190,LL),(191,O1)]
theorem TA:Sound ay (cj Oz):=Sound.cons agM (Sound.cons aja (Sound.cons ahH (Sound.cons agS (Sound.cons ain Sound.nil))))
def p5 (s:Sw) (k:Int) (p:Md) (x:Sh):Sw×AV:=
 bif lv (cY s k p x) k p then
  bif jD (dz (iX (cY s k p x) k p) x) x then (kI (dz (iX (cY s k p x) k p) x) x,.ns)
  else (lD (dz (iX (cY s k p x) k p) x) p x,.fz (zn (dz (iX (cY s k p x) k p) x) p x).l 1)
 else (cY s k p x,.ns)
theorem aiN (s:Sw) (k:Int) (p:Md) (x:Sh) (hp:BY p=true) (ht:bZ 0 65535 (cY s k p x).tp=true):
 bG ay 123 [.p 0 0] [(0,{cells:=Mx.c ⟨s,k,p,x⟩ .ns})] 1 (.bz []) [(0,{cells:=Mx.c ⟨(p5 s k p x).1,k,p,x⟩ (p5 s k p x).2})] 1:=by
 have hsq:bZ 0 65535 p.sq=true:=by simp_all [BY,ak]
 refine cz.Pg (pn:=none) AZ.ends TA mo Tryz.func123 Pp (by simp [i123]) (ops:=[]) rfl (by kernel_rfl) Tryz.func186 Nh rfl ?_
 refine jF (caps:=[]) (bs:=[]) rfl rfl .nil (λGs h1 h2=> ?_);obtain rfl:Gs=[]:=List.length_eq_zero_iff.1 h1;refine ⟨cr _,?_⟩;dsimp only [i123,Oz,nZ];have hb: ∀(m:Mx) (o:AV),o.aj 1=true->ab 1 (m.c o)=true:=λm o h=>m.aj h;simp only [go_sem,simprocAttr];refine Loop.rounds (F:=⟨ay,cj Oz,[16],21,1⟩) 6 TA mo ?_;dsimp only [Oz];unfold p5;cases a1:lv (cY s k p x) k p
 ·have e1:iX (cY s k p x) k p=cY s k p x:=by simp only [iX,a1,cond_false]
  simp only [go_sem,H8,HP,FO,hsq,ht,a1,e1,jW,simprocAttr];simp only [AV.aj,Bq];dsimp only [i186,n9];simp only [go_sem,simprocAttr];exact Ends.gH rfl rfl (by exact hb _ _ rfl) rfl rfl
 cases a2:jD (dz (iX (cY s k p x) k p) x) x
 ·have e1:kI (dz (iX (cY s k p x) k p) x) x=dz (iX (cY s k p x) k p) x:=by simp only [kI,a2,cond_false]
  simp only [go_sem,H8,HP,IY,LL,O1,FO,hsq,ht,a1,a2,e1,G8,hp,jW,simprocAttr];simp only [AV.aj,Bq];dsimp only [i186,n9];simp only [go_sem,simprocAttr];exact Ends.gH rfl rfl (by grind [AV.aj,ED]) rfl rfl
 ·simp only [go_sem,H8,HP,IY,LL,FO,hsq,ht,a1,a2,jW,simprocAttr];simp only [AV.aj,Bq];dsimp only [i186,n9];simp only [go_sem,simprocAttr];exact Ends.gH rfl rfl (by exact hb _ _ rfl) rfl rfl
def SR:Ct
 |[.p b 0],h,n=>(aa h b).bind λkb=>(S4 kb).bind λmo=>match mo.2 with
  | .ns=>some (BY mo.1.p&&bZ 0 65535 (cY mo.1.s mo.1.k mo.1.p mo.1.x).tp,{v:= .bz [],n,rd:=[b],md:=[(b,some {cells:=Mx.c ⟨(p5 mo.1.s mo.1.k mo.1.p mo.1.x).1,mo.1.k,mo.1.p,mo.1.x⟩ (p5 mo.1.s mo.1.k mo.1.p mo.1.x).2})]})
  |_=>none
 |_,_,_=>none
theorem H9 (s:Sw) (k:Int) (p:Md) (x:Sh) (j:Nat):(p5 s k p x).2.aj j=true:=by
 unfold p5;cases lv (cY s k p x) k p
 ·rfl
 ·cases jD (dz (iX (cY s k p x) k p) x) x;all_goals simp [cond_true,cond_false,AV.aj,ED]
theorem aiB:ax ay 123 SR:=λargs h n c E hc ht=>by
 unfold SR at hc;split at hc
 ·rename_i b;simp only [av] at hc;obtain ⟨kb,hkb,⟨⟨s,k,p,x⟩,o⟩,hm,hc⟩:=hc;have:=uv hm;subst this;dsimp only at hc;cases o
  case ns=>
   cases hc;simp only [ak] at ht;exact aA.zp (pn:=none) (argsL:=[.p 0 0]) (by kernel_rfl) rfl (Mx.aj _ rfl) (Mx.aj _ (H9 _ _ _ _ _)) rfl rfl hkb (aiN _ _ _ _ ht.1 ht.2)
  all_goals cases hc
 ·cases hc
def dE (s:Sw) (k:Int) (p:Md) (x:Sh):Sw×List Md:=
 bif lv (cY s k p x) k p then
  bif jD (dz (iX (cY s k p x) k p) x) x then (kI (dz (iX (cY s k p x) k p) x) x,[])
  else (lD (dz (iX (cY s k p x) k p) x) p x,[zn (dz (iX (cY s k p x) k p) x) p x])
 else (cY s k p x,[])
def WT:List Md->AV
 |[]=> .ns
 |l=> .fz (rows Md.l l) l.length
theorem NS (s:Sw) (k:Int) (p:Md) (x:Sh):p5 s k p x=((dE s k p x).1,WT (dE s k p x).2):=by
 unfold p5 dE;cases lv (cY s k p x) k p
 ·rfl
 ·cases jD (dz (iX (cY s k p x) k p) x) x;all_goals rfl
def ey (s:Sw) (p:Md):Sw×List Md×Int:=
 bif dv s then bif vY p then bif decide (oJ s.l p.ss<0) then (Ak,[],4)
 else bif (dec p.pl).2.2==0 then ((dE s (oJ s.l p.ss) p (dec p.pl).1).1,(dE s (oJ s.l p.ss) p (dec p.pl).1).2,0) else (Ak,[],(dec p.pl).2.2)
 else (Ak,[],230) else (Ak,[],410)
def tz (r:Sw×List Md×Int):AV:= .bz [.agg r.1.a,.fz (rows Md.l r.2.1) r.2.1.length,.i .i64 r.2.2]
theorem OT (l:List Md) (j:Nat):ab j (rows Md.l l)=true:=au _ (bh (λp=>p.aj))
theorem uL (r:Sw×List Md×Int):(tz r).aj 0=true:=by simp only [tz,AV.aj,ab,Sw.aj,OT,aG]
theorem Gn {e:Int} {h:Hp} {n:Nat}:aZ 0 (.bz [.agg [.ns,.i .i64 0,.i .i64 0,.i .i64 0,.i .i64 0,.i .i64 0,.i .i64 0,.i .i64 0,.i .i64 0,.b false,.i .i64 0,.i .i64 0,.i .i64 0,.i .i64 0,.i .i64 0,.i .i64 0,.i .i64 0,.i .i64 0],.ns,.i .i64 e]) h n (tz (Ak,[],e)) [] 0:=by
 refine aZ.wu (l:=[]) (v':=tz (Ak,[],e)) (bW.bz ⟨bW.agg ⟨bW.hit,bW.refl,bW.refl,bW.refl,bW.refl,bW.refl,bW.refl,bW.refl,bW.refl,bW.refl,bW.refl,bW.refl,bW.refl,bW.refl,bW.refl,bW.refl,bW.refl,bW.refl,trivial⟩,bW.hit,bW.refl,trivial⟩) ?_;exact aZ.ends (Ends.aw rfl rfl)
theorem aia {S:Sw} {l:List Md} {h:Hp} {n:Nat}:aZ 0 (.bz [.agg S.a,WT l,.i .i64 0]) h n (tz (S,l,0)) [] 0:=by
 cases l with
 |nil=>
  refine aZ.wu (l:=[]) (v':=tz (S,[],0)) (bW.bz ⟨bW.refl,bW.hit,bW.refl,trivial⟩) ?_;exact aZ.ends (Ends.aw (uL _) rfl)
 |cons p l=>exact aZ.ends (Ends.aw (uL (S,p::l,0)) rfl)
theorem NB {s:Sw} {k:Int} {p:Md} {x:Sh} (h:dv s=true):bZ 0 65535 (cY s k p x).tp=true:=by
 unfold cY;cases tk s k x
 ·simp_all [cond_false,dv,rM,ak]
 ·simp only [cond_true,bZ,ak,bg];omega
def T50:List (Nat×Ct):=[(121,kQ),(66,Du),(90,vS),(61,As),(122,CG),(123,SR)]
theorem ai9:Sound ay (cj T50):=Sound.cons LY (Sound.cons s66 (Sound.cons ZW (Sound.cons s61 (Sound.cons abY (Sound.cons aiB Sound.nil)))))
def Gu (s:Sw) (p:Md):Bool:=decide (s.l.length<=9223372036854775807)&&(p.fin&&decide (p.pl.length<=1000000000))
theorem KM {p:Md} (h:vY p=true):p.cs.length<=15/\p.xs.length<=16/\bZ 0 65535 p.sq=true:=by
 simp_all [vY,mi,vt,bZ,ak,bg]
theorem w50 (s:Sw) (p:Md) (hc:Gu s p=true):bG ay 50 [.agg s.a,.agg p.l] [] 0 (tz (ey s p)) [] 0:=by
 simp only [Gu,ak,bg] at hc;obtain ⟨c1,c2,c3⟩:=hc;have hR:ey s p=bif dv s then bif vY p then bif decide (oJ s.l p.ss<0) then (Ak,[],4)
  else bif (dec p.pl).2.2==0 then ((dE s (oJ s.l p.ss) p (dec p.pl).1).1,(dE s (oJ s.l p.ss) p (dec p.pl).1).2,0) else (Ak,[],(dec p.pl).2.2)
  else (Ak,[],230) else (Ak,[],410):=rfl
 have hsw:=pC s;have hmd:=vG p;have hll:decide (s.l.length<=9223372036854775807)=true:=af c1;have hl3:dv s=true->decide (s.l.length<=3)=true:=λh=>af (pz h).2;have hgr:dv s=true->decide (8*s.l.length<=az)=true:=λh=>af (by grind [pz,az])
 have hmx:=λk x=>FO ⟨s,k,p,x⟩ .ns;have hok:vY p=true->(dec p.pl).2.2=0->BY p=true:=λh h2=>by
  have h3:=KM h;simp only [BY,ak,bg,ik]
  grind [az]
 have htp: ∀k x,dv s=true->bZ 0 65535 (cY s k p x).tp=true:=λk x=>NB;have hto: ∀k x,p5 s k p x=((dE s k p x).1,WT (dE s k p x).2):=λk x=>NS s k p x;have hct:List.take (s.l.length*1) (rows aq s.l)=rows aq s.l:=by rw [<-aU (f:=aq) (z:=1) bR];simp
 have hl1:decide ((rows aq s.l).length=s.l.length*1)=true:=af (aU bR);generalize ey s p=R at*;refine bG.dy ai9 mo Tryz.func50 U1 (by simp [i50]) (aO ?_)
 dsimp only [i50,T50];generalize htk:cY s=TK,htS:p5 s=TS,htL:dE s=TL,hg:dv s=gd,hm:vY p=md,hmO:BY p=mk at*;have hfin:=c2;obtain ⟨l,ou,st,nw,wa,ca,ai,tp,fr,kp,sq,tm,id,ba,ss,sT,si,sb⟩:=s;obtain ⟨ma,pty,psq,ptm,pss,cs,xs,pd,pl⟩:=p;simp only [Sw.a,Md.l,Mx.c] at hsw hmd hmx ⊢;dsimp only at*;cases gd
 ·simp only [go_sem,kQ,hsw,hll,hg,ei,simprocAttr]
  grind [Gn]
 have hl3:=hl3 rfl;have hgr:=hgr rfl;cases md
 ·simp only [go_sem,kQ,As,hsw,hmd,hll,hg,hm,hfin,ei,simprocAttr]
  grind [Gn]
 cases a1:decide (oJ l pss<0);rotate_left
 ·simp only [go_sem,kQ,As,CG,hsw,hmd,hll,hg,hm,hfin,xh,hct,dk,hl1,eD,hl3,a1,simprocAttr]
  grind [Gn]
 have hd:yO (dec pl)= .bz [.agg (dec pl).1.l,.s (dec pl).2.1,.i .i64 (dec pl).2.2]:=rfl;generalize hdd:dec pl=D at*;obtain ⟨⟨xst,xky,xsy,xla,xid,xba,xte,xsp⟩,rs,e⟩:=D;simp only [Go.Proofs.Rom.Sh.l] at hd;dsimp only at*;cases a2:(e==0)
 ·have b2:(e !=0)=true:=by grind
  simp only [go_sem,kQ,Du,As,CG,hsw,hmd,hll,hg,hm,hfin,xh,hct,dk,hl1,eD,hl3,a1,hdd,hd,b2,simprocAttr]
  grind [Gn]
 have b2:(e !=0)=false:=by grind
 have hok:=hok rfl (by grind)
 subst hok;have htp:=htp (oJ l pss) ⟨xst,xky,xsy,xla,xid,xba,xte,xsp⟩ rfl;have hmx:=hmx (oJ l pss) ⟨xst,xky,xsy,xla,xid,xba,xte,xsp⟩;have hto:=hto (oJ l pss) ⟨xst,xky,xsy,xla,xid,xba,xte,xsp⟩;rw [a1,a2] at hR;dsimp only at hmx;generalize TL (oJ l pss) ⟨ma,pty,psq,ptm,pss,cs,xs,pd,pl⟩ ⟨xst,xky,xsy,xla,xid,xba,xte,xsp⟩=Q at*;obtain ⟨⟨rl,rou,rst,rnw,rwa,rca,rai,rtp,rfr,rkp,rsq,rtm,rid,rba,rss,rsT,rsi,rsb⟩,rO⟩:=Q;simp only [go_sem,kQ,Du,vS,As,CG,SR,hsw,hmd,hll,hg,hm,hfin,xh,hct,dk,hl1,eD,hl3,hgr,a1,hdd,hd,b2,hmx,htk,htS,hto,htp,hmO,Mx.c,simprocAttr];rw [hR];exact aia (S:=⟨rl,rou,rst,rnw,rwa,rca,rai,rtp,rfr,rkp,rsq,rtm,rid,rba,rss,rsT,rsi,rsb⟩)
def ZF:Ct
 |[.agg c,.agg d],_,n=>(G9 c).bind λs=>(Jj d).bind λp=>some (Gu s p,{v:=tz (ey s p),n})
 |_,_,_=>none
theorem s50:ax ay 50 ZF:=λargs h n c E hc ht=>by
 unfold ZF at hc;split at hc
 ·simp only [av,aI,aV] at hc;obtain ⟨s,hs,p,hp,rfl,rfl⟩:=hc;rw [rU hs,x3 hp];exact aA.pure (by kernel_rfl) (by simp only [ab,AV.aj,Sw.aj,p.aj,aG]) (uL _) (w50 _ _ ht) _ _
 ·cases hc
theorem I8 {s:Sw} {x:Sh} (h1:bZ 0 3 s.ca=true) (h2:bZ 0 3 s.ai=true):IntKind.i64.wrap (sD s x+1)=sD s x+1/\0<=sD s x/\sD s x<=3:=by
 have h1:=bD h1;have h2:=bD h2;have:0<=sD s x/\sD s x<=3:=by
  unfold sD
  grind
 grind [aN]
def y9 (x:Int):List AV:=[.i .u8 x]
theorem Gt: ∀x,(y9 x).length=1:=λ_=>rfl
theorem wF: ∀x,ab 0 (y9 x)=true:=λ_=>rfl
def u8V:List AV->Option Int
 |[.i .u8 x]=>some x
 |_=>none
theorem XW (c:List AV) (a:Int) (h:u8V c=some a):c=y9 a:=by
 unfold u8V at h;split at h
 ·cases h;rfl
 ·cases h
theorem abb (a:Int):u8V (y9 a)=some a:=rfl
theorem u8B (j:Nat) (l:List Int):ab j (rows y9 l)=true:=au _ (bh wF)
structure Fl where
 sq:Int
 id:Int
 tm:Int
 ba:Int
 pc:List Int
def Fl.l (f:Fl):List AV:=[.i .u16 f.sq,.i .u16 f.id,.i .u32 f.tm,.i .u8 f.ba,.fz (rows y9 f.pc) f.pc.length]
theorem Fl.aj (f:Fl):ab 0 f.l=true:=by simp only [Fl.l,ab,AV.aj,u8B,aG]
theorem Fl.len: ∀f:Fl,f.l.length=5:=λ_=>rfl
def fl5:List AV->Option Fl
 |[.i .u16 a,.i .u16 b,.i .u32 c,.i .u8 d,.fz L m]=>(bc 1 u8V m L).bind λl=>some ⟨a,b,c,d,l⟩
 |_=>none
theorem acd (f:Fl):fl5 f.l=some f:=by
 obtain ⟨a,b,c,d,l⟩:=f;simp only [fl5,Fl.l,dM Gt abb l,aC]
theorem UZ {c:List AV} {f:Fl} (h:fl5 c=some f):c=f.l:=by
 unfold fl5 at h;split at h
 ·simp only [av,aI] at h;obtain ⟨l,hl,rfl⟩:=h;obtain ⟨rfl,hm⟩:=bu (f:=y9) XW hl;subst hm;rfl
 ·cases h
def Fl.ok (f:Fl):Bool:=bZ 0 65535 f.sq&&(bZ 0 65535 f.id&&(bZ 0 4294967295 f.tm&&(bZ 0 255 f.ba&&(f.pc.all (bZ 0 255)&&decide (f.pc.length<=9223372036854775807)))))
structure Ac where
 wh:Int
 at_:Int
 la:Int
 ai:Int
def Ac.l (a:Ac):List AV:=[.i .u8 a.wh,.i .u8 a.at_,.i .u8 a.la,.i .u8 a.ai]
theorem Ac.len: ∀a:Ac,a.l.length=4:=λ_=>rfl
theorem Ac.aj: ∀a:Ac,ab 0 a.l=true:=λ_=>rfl
def Ac.ok (a:Ac):Bool:=bZ 0 255 a.wh&&(bZ 0 255 a.at_&&(bZ 0 255 a.la&&bZ 0 255 a.ai))
/-! films' pictures -/
def kd (f:Fl) (i:Nat):Int:=if i=0 then 7 else f.pc.getD (i-1) 0
def D9 (k op:Int):Int:=bif k % 8==7 then 0 else bif decide (k % 8<4) then op else bif k % 8==4 then op else min (op+1) (1+k/8 % 3)
def yK (k op ba:Int):Int:=bif k % 8==7 then (ba+1) % 256 else bif decide (k % 8<4) then (ba+1) % 256 else bif k % 8==4 then (bif op==0 then (ba+1) % 256 else ba) else ba
def KE (k op:Int):Int:=bif k % 8==7 then 0 else bif decide (k % 8<4) then 0 else bif k % 8==4 then min op (1+k/8 % 3) else min (op+1) (1+k/8 % 3)
def XO (k:Int):Bool:=bif k % 8==7 then false else bif decide (k % 8<4) then false else !(k % 8==4)
def yI (f:Fl) (i:Nat) (k op ba:Int):Sh:=⟨false,k % 8==7,XO k,false,(f.id+(i:Int)) % 32768,yK k op ba,KE k op,0⟩
def fN (k:Int):Nat:=(1+k/32 % 3).toNat
def ZG (f:Fl) (ss:Int) (i:Nat) (x:Sh) (n:Nat) (sq:Int) (j:Nat):Md:=
 ⟨(j:Int)==(n:Int)-1,96,sq % 65536,(f.tm+3000*(i:Int)) % 4294967296,ss,[],[],0,(Sh.enc ⟨(j:Int)==0,x.ky,x.sy,(j:Int)==(n:Int)-1,x.id,x.ba,x.te,x.sp⟩)++[UInt8.ofNat (i:Int).toNat,UInt8.ofNat (j:Int).toNat]⟩
def wG (f:Fl) (ss:Int) (i:Nat) (x:Sh) (n:Nat) (q:List Md) (k:Nat):List Md:=q++iD (λj=>ZG f ss i x n (f.sq+((q.length+j:Nat):Int)) j) k
theorem TQ {f:Fl} {ss:Int} {i:Nat} {x:Sh} {n:Nat} {q:List Md} {k:Nat}:wG f ss i x n q (k+1)=wG f ss i x n q k++[ZG f ss i x n (f.sq+((q.length+k:Nat):Int)) k]:=by
 simp only [wG,il,jy]
theorem wy {f:Fl} {ss:Int} {i:Nat} {x:Sh} {n:Nat} {q:List Md} {k:Nat}:(wG f ss i x n q k).length=q.length+k:=by
 simp only [wG,cm,cJ]
structure Fs where
 op:Int
 ba:Int
 q:List Md
def Wl (f:Fl) (ss:Int) (i:Nat) (s:Fs):Fs:=⟨D9 (kd f i) s.op,yK (kd f i) s.op s.ba,wG f ss i (yI f i (kd f i) s.op s.ba) (fN (kd f i)) s.q (fN (kd f i))⟩
def vg (f:Fl) (ss:Int):Nat->Fs
 |0=>⟨0,f.ba,[]⟩
 |i+1=>Wl f ss i (vg f ss i)
def jn (f:Fl) (ss:Int):List Md:=(vg f ss (min (f.pc.length+1) 24)).q
theorem Ek {f:Fl} (h:f.ok=true) (i:Nat):0<=kd f i/\kd f i<=255:=by
 unfold kd;split
 ·omega
 ·simp only [Fl.ok,ak,du] at h;rw [jd];cases hx:f.pc[i-1]? with
  |none=>simp
  |some x=>exact bD (h.2.2.2.2.1 x (bJ hx))
theorem LC {k:Int} (h:0<=k):1<=fN k/\fN k<=3/\(fN k:Int)=1+k/32 % 3:=by grind [fN]
theorem QK {k op:Int} (h:0<=op/\op<=3):0<=D9 k op/\D9 k op<=3:=by
 unfold D9;grind
theorem GF {k op ba:Int} (h:0<=ba/\ba<=255):0<=yK k op ba/\yK k op ba<=255:=by
 unfold yK;grind
theorem Rt {k op:Int} (h:0<=op/\op<=3):0<=KE k op/\KE k op<=3:=by
 unfold KE;grind
theorem wU {f:Fl} (hf:f.ok=true) (ss:Int): ∀i,(0<=(vg f ss i).op/\(vg f ss i).op<=3)/\(0<=(vg f ss i).ba/\(vg f ss i).ba<=255)/\(vg f ss i).q.length<=3*i
 |0=>by
  simp only [Fl.ok,ak] at hf;have:=bD hf.2.2.2.1
  grind [vg,fP]
 |i+1=>by
  obtain ⟨h1,h2,h3⟩:=wU hf ss i;have h4:=LC (Ek hf i).1;refine ⟨QK h1,GF h2,?_⟩
  grind [vg,Wl,wy]
theorem Cb {f:Fl} (hf:f.ok=true) (i:Nat) {k op ba:Int} (ho:0<=op/\op<=3) (hb:0<=ba/\ba<=255) (hk:0<=k) (st la:Bool):(Sh.mk st (yI f i k op ba).ky (yI f i k op ba).sy la (yI f i k op ba).id (yI f i k op ba).ba (yI f i k op ba).te (yI f i k op ba).sp).jZ=true:=by
 simp only [Fl.ok,ak] at hf;have h1:=bD hf.2.1;have h2:=GF (k:=k) (op:=op) hb;have h3:=Rt (k:=k) ho;rw [Sh.lO];simp only [yI];refine ⟨by omega,by omega,h2.1,h2.2,h3.1,h3.2,by omega,by omega,?_,?_⟩
 ·simp_all [KE,cond_true]
 ·intro h;unfold XO at h;unfold KE
  grind
def uo (p:Md):List AV:=[.b p.ma,.i .i64 p.ty,.i .i64 p.sq,.i .i64 p.tm,.i .i64 p.ss,.ns,.ns,.i .i64 p.pd,.s p.pl]
theorem Bj: ∀p,(uo p).length=9:=λ_=>rfl
theorem Bc: ∀p,ab 0 (uo p)=true:=λ_=>rfl
theorem pkB (j:Nat) (l:List Md):ab j (rows uo l)=true:=au _ (bh Bc)
theorem Ir (q:List Md):(gQ uo 9 q).plain=true:=(p7 (f:=uo) Bc Bj q).pl
theorem aea (q:List Md):(gQ uo 9 q).Jl:=by unfold gQ;split<;>trivial
theorem WO {x:Nat} (q:List Md):yW (mz ((gQ uo 9 q).bl 1)) ((gQ uo 9 q).bl 1++[x])=true:=by
 unfold gQ;split
 ·rfl
 ·rfl
theorem Ve {a b:bp} {r:Hp} (q:List Md):A9 ((4,a)::(3,b)::((gQ uo 9 q).h 1++r)) (mz ((gQ uo 9 q).bl 1))=true:=by
 unfold gQ;split
 ·rfl
 ·rfl
def sB:Nat->Bool
 |0=>false
 |k+1=>(k:Int)==0
def lB (n:Nat):Nat->Bool
 |0=>false
 |k+1=>(k:Int)==(n:Int)-1
def xB (x:Sh) (n k:Nat):List AV:=[.b (sB k),.b x.ky,.b x.sy,.b (lB n k),.i .i64 x.id,.i .i64 x.ba,.i .i64 x.te,.i .i64 x.sp]
abbrev xH (f:Fl) (q:List Md):Hp:=(gQ uo 9 q).h 1++[(0,{cells:=f.l})]
abbrev AW (f:Fl) (x:Sh) (n k:Nat) (q:List Md):Hp:=(gQ uo 9 q).h 1++[(2,{cells:=xB x n k}),(0,{cells:=f.l})]
def Hj:List (Nat×Ct):=[(133,yH)]
theorem Un:Sound ay (cj Hj):=Sound.cons aiK Sound.nil
theorem Ow (f:Fl) (ss:Int) (i:Nat) (x:Sh) (n:Nat) (q:List Md) (op ba:Int) (hs:0<=f.sq/\f.sq<=65535) (ht:0<=f.tm/\f.tm<=4294967295) (hi:i<24) (hn:n<=3) (hq:q.length<=100) (hx: ∀st la,(Sh.mk st x.ky x.sy la x.id x.ba x.te x.sp).jZ=true) {K:bX} {e:Env} {h:Hp} {m:Nat}
 (he:jz 3 [] e [(1,.i .i64 ss),(2,.p 0 0),(5,(gQ uo 9 q).v 1),(6,.i .i64 (f.sq+(q.length:Int))),(7,.i .i64 op),(8,.i .i64 ba),(9,.i .i64 (i:Int)),(11,.p 2 0),(12,.i .i64 (n:Int)),(13,.i .i64 0)])
 (hh:iW 3 [] h (AW f x n 0 q))
 (hK: ∀e' k,bC e' 1=some (.i .i64 ss)->bC e' 2=some (.p 0 0)->bC e' 5=some ((gQ uo 9 (wG f ss i x n q n)).v 1)->bC e' 6=some (.i .i64 (f.sq+((q.length+n:Nat):Int)))->bC e' 7=some (.i .i64 op)->bC e' 8=some (.i .i64 ba)->bC e' 9=some (.i .i64 (i:Int))->K (.exit 3) e' (AW f x n k (wG f ss i x n q n)) 3):
 Ab.Loop ay [28,32,57,65,72,84,96] 135 0 Vm K e h m:=by
 obtain ⟨sq,id,tm,fba,pc⟩:=f;dsimp only at hs ht hK;have hLb: ∀j,ab j (rows y9 pc)=true:=λj=>u8B j pc;have hLr: ∀ψ,aS ψ (rows y9 pc)=rows y9 pc:=λψ=>aJ _ (bh wF);have hq0:wG ⟨sq,id,tm,fba,pc⟩ ss i x n q 0=q:=by simp [wG,Au]
 simp only [AW,Fl.l] at hh hK;rw [<-hq0] at he hh;refine Loop.nM (F:=⟨ay,cj Hj,[28,32,57,65,72,84,96],135,0⟩) Un mo (X:=Nat) (λk=>k<=n) (λk=>n-k)
  (λk=>[(1,.i .i64 ss),(2,.p 0 0),(5,(gQ uo 9 (wG ⟨sq,id,tm,fba,pc⟩ ss i x n q k)).v 1),(6,.i .i64 (sq+((q.length+k:Nat):Int))),(7,.i .i64 op),(8,.i .i64 ba),(9,.i .i64 (i:Int)),(11,.p 2 0),(12,.i .i64 (n:Int)),(13,.i .i64 (k:Int))])
  (λk=>(gQ uo 9 (wG ⟨sq,id,tm,fba,pc⟩ ss i x n q k)).h 1++[(2,{cells:=xB x n k}),(0,{cells:=[.i .u16 sq,.i .u16 id,.i .u32 tm,.i .u8 fba,.fz (rows y9 pc) pc.length]})]) 3 0 (λk=>k+1) []
  (λk=>[(1,5)]) (by decide) (by decide) (λk=>by decide) (cr _) (by grind) hh (λk hk=> ?_)
 have hil:=wy (f:=⟨sq,id,tm,fba,pc⟩) (ss:=ss) (i:=i) (x:=x) (n:=n) (q:=q) (k:=k);obtain ⟨xst,xky,xsy,xla,xid,xba,xte,xsp⟩:=x;dsimp only at hx;by_cases hlt:k<n
 ·have c1:decide ((k:Int)<(n:Int))=true:=af (by omega)
  have hw:IntKind.i64.wrap ((k:Int)+1)=((k+1:Nat):Int):=by grind [aN]
  have hsk:n-(k+1)<n-k:=by omega
  have w1:IntKind.i64.wrap ((n:Int)-1)=(n:Int)-1:=aN (by omega) (by omega)
  have w2:IntKind.i64.wrap tm=tm:=aN (by omega) (by omega)
  have w4:IntKind.i64.wrap (3000*(i:Int))=3000*(i:Int):=aN (by omega) (by omega)
  have w5:IntKind.i64.wrap (tm+3000*(i:Int))=tm+3000*(i:Int):=aN (by omega) (by omega)
  have m1:(tm+3000*(i:Int)).tmod 4294967296=(tm+3000*(i:Int)) % 4294967296:=fA (by omega)
  have m2:IntKind.i64.wrap ((tm+3000*(i:Int)) % 4294967296)=(tm+3000*(i:Int)) % 4294967296:=aN (by omega) (by omega)
  have w7:IntKind.u8.wrap (i:Int)=(i:Int):=by rw [xD];omega
  have w111:IntKind.u8.wrap (k:Int)=(k:Int):=by rw [xD];omega
  have m3:(sq+((q.length+k:Nat):Int)).tmod 65536=(sq+((q.length+k:Nat):Int)) % 65536:=fA (by omega)
  have m4:IntKind.i64.wrap ((sq+((q.length+k:Nat):Int)) % 65536)=(sq+((q.length+k:Nat):Int)) % 65536:=aN (by omega) (by omega)
  have XU:IntKind.i64.wrap (sq+((q.length+k:Nat):Int)+1)=sq+((q.length+(k+1):Nat):Int):=by grind [aN]
  rw [TQ];generalize hQ:sq+((q.length+k:Nat):Int)=Q at*;generalize hQ':sq+((q.length+(k+1):Nat):Int)=Q' at*;generalize wG ⟨sq,id,tm,fba,pc⟩ ss i ⟨xst,xky,xsy,xla,xid,xba,xte,xsp⟩ n q k=q1 at*;have gm:decide (112*(q1.length+1)<=az)=true:=af (by grind [az])
  have zR:(rows uo q1).length=q1.length*9:=aU Bj;have pk:=Ir q1;have pk':=Ir (q1++[ZG ⟨sq,id,tm,fba,pc⟩ ss i ⟨xst,xky,xsy,xla,xid,xba,xte,xsp⟩ n Q k]);rw [ji] at pk' ⊢;have eL:(Sh.enc ⟨(k:Int)==0,xky,xsy,(k:Int)==(n:Int)-1,xid,xba,xte,xsp⟩).length=5:=rfl;have hgd:=hx ((k:Int)==0) ((k:Int)==(n:Int)-1);have hxB:xB ⟨xst,xky,xsy,xla,xid,xba,xte,xsp⟩ n (k+1)=[.b ((k:Int)==0),.b xky,.b xsy,.b ((k:Int)==(n:Int)-1),.i .i64 xid,.i .i64 xba,.i .i64 xte,.i .i64 xsp]:=rfl;rw [hxB];dsimp only [xB];simp only [uo,ZG,j3] at pk' ⊢;have d1:=λx=>WO (x:=x) q1;have d2:=λa b r=>Ve (a:=a) (b:=b) (r:=r) q1;generalize hEN:Sh.enc ⟨(k:Int)==0,xky,xsy,(k:Int)==(n:Int)-1,xid,xba,xte,xsp⟩=EN at*;dsimp only [Hj];simp only [go_sem,c1,hw,w1,w2,w4,w5,w7,w111,XU,m1,m3,gm,zR,pk',hsk,d1,d2,yH,hgd,hEN,eL,bytesOf,AV.aj,ab,aP,bp.aQ,aS,AV.aQ,hLb,hLr,kA,simprocAttr];exact hlt
 ·have c1:decide ((k:Int)<(n:Int))=false:=bw (by omega)
  obtain rfl:k=n:=by omega
  generalize wG ⟨sq,id,tm,fba,pc⟩ ss i ⟨xst,xky,xsy,xla,xid,xba,xte,xsp⟩ k q k=q1 at*;have pk:=Ir q1;dsimp only [Hj,xB] at*;simp only [go_sem,simprocAttr];exact hK _ _ rfl rfl rfl rfl rfl rfl rfl
theorem P7 (f:Fl) (ss:Int) (hf:f.ok=true) {K:bX} {e:Env} {h:Hp} {m:Nat}
 (he:jz 2 [] e [(1,.i .i64 ss),(2,.p 0 0),(5,(gQ uo 9 []).v 1),(6,.i .i64 (f.sq+((([]:List Md).length:Nat):Int))),(7,.i .i64 0),(8,.i .i64 f.ba),(9,.i .i64 0)])
 (hh:iW 2 [] h (xH f []))
 (hK: ∀e',bC e' 5=some ((gQ uo 9 (jn f ss)).v 1)->K (.exit 0) e' (xH f (jn f ss)) 2):
 Ab.Loop ay [28,32,57,65,72,84,96] 135 0 Wj K e h m:=by
 have hLb: ∀j,ab j (rows y9 f.pc)=true:=λj=>u8B j f.pc;have hLr: ∀ψ,aS ψ (rows y9 f.pc)=rows y9 f.pc:=λψ=>aJ _ (bh wF);have hMM: ∀i,i<min (f.pc.length+1) 24↔(i<=f.pc.length/\i<24):=λi=>by omega
 have hPK:jn f ss=(vg f ss (min (f.pc.length+1) 24)).q:=rfl;rw [hPK] at hK;have hf2:=hf;simp only [Fl.ok,ak,bg,du] at hf2;obtain ⟨o1,o2,o3,o4,o5,o6⟩:=hf2;have o1:=bD o1;have o2:=bD o2;have o3:=bD o3;have o4:=bD o4;generalize min (f.pc.length+1) 24=M at*;clear hPK;refine Loop.nM (F:=⟨ay,cj Hj,[28,32,57,65,72,84,96],135,0⟩) Un mo (X:=Nat) (λi=>i<=M) (λi=>M-i)
  (λi=>[(1,.i .i64 ss),(2,.p 0 0),(5,(gQ uo 9 (vg f ss i).q).v 1),(6,.i .i64 (f.sq+((vg f ss i).q.length:Int))),(7,.i .i64 (vg f ss i).op),(8,.i .i64 (vg f ss i).ba),(9,.i .i64 (i:Int))])
  (λi=>xH f (vg f ss i).q) 2 0 (λi=>i+1) []
  (λi=>[]) (by decide) (by decide) (λi=>by decide) (cr _) he hh (λi hi=> ?_)
 have hrg:=wU hf ss i;by_cases hlt:i<M
 ·obtain ⟨h1,h2⟩:=(hMM i).1 hlt;have c1:decide ((i:Int)<=(f.pc.length:Int))=true:=af (by omega)
  have c2:decide ((i:Int)<24)=true:=af (by omega)
  have hw:IntKind.i64.wrap ((i:Int)+1)=((i+1:Nat):Int):=by grind [aN]
  have hsk:M-(i+1)<M-i:=by omega
  have hnx:vg f ss (i+1)=Wl f ss i (vg f ss i):=rfl;rw [hnx];generalize vg f ss i=s at*;obtain ⟨op,ba,q⟩:=s;dsimp only at hrg;obtain ⟨⟨r1,r2⟩,⟨r3,r4⟩,r5⟩:=hrg;have hkr:=Ek hf i;have hgd:=λst la=>Cb hf i (k:=kd f i) (op:=op) (ba:=ba) ⟨r1,r2⟩ ⟨r3,r4⟩ hkr.1 st la;have hnr:=LC hkr.1;have lp:=λ(op' ba':Int) (K:bX) (e:Env) (h:Hp) (m:Nat)=> @Ow f ss i (yI f i (kd f i) op ba) (fN (kd f i)) q op' ba' o1 o3 h2 hnr.2.1 (by omega) hgd K e h m
  have hlen2:=wy (f:=f) (ss:=ss) (i:=i) (x:=yI f i (kd f i) op ba) (n:=fN (kd f i)) (q:=q) (k:=fN (kd f i));have pk:=Ir q;have v1:IntKind.i64.wrap f.id=f.id:=aN (by omega) (by omega)
  have v2:IntKind.i64.wrap (f.id+(i:Int))=f.id+(i:Int):=aN (by omega) (by omega)
  have v3:(f.id+(i:Int)).tmod 32768=(f.id+(i:Int)) % 32768:=fA (by omega)
  have v4:IntKind.i64.wrap ((f.id+(i:Int)) % 32768)=(f.id+(i:Int)) % 32768:=aN (by omega) (by omega)
  have v5:IntKind.i64.wrap (ba+1)=ba+1:=aN (by omega) (by omega)
  have v6:(ba+1).tmod 256=(ba+1) % 256:=fA (by omega)
  have v7:IntKind.i64.wrap ((ba+1) % 256)=(ba+1) % 256:=aN (by omega) (by omega)
  have v8:IntKind.i64.wrap (op+1)=op+1:=aN (by omega) (by omega)
  simp only [Wl];rw [hlen2];generalize hkd:kd f i=kk at*;rcases Nat.eq_zero_or_pos i with hi0|hi0
  ·subst hi0;obtain rfl:kk=7:=hkd.symm;have hX:yI f 0 7 op ba=⟨false,true,false,false,(f.id+((0:Nat):Int)) % 32768,(ba+1) % 256,0,0⟩:=rfl;have hO:D9 7 op=0:=rfl;have hB:yK 7 op ba=(ba+1) % 256:=rfl;have hN:fN 7=1:=rfl;have v2':IntKind.i64.wrap (f.id+0)=f.id+0:=aN (by omega) (by omega)
   have v3':(f.id+0).tmod 32768=(f.id+0) % 32768:=fA (by omega)
   have v4':IntKind.i64.wrap ((f.id+0) % 32768)=(f.id+0) % 32768:=aN (by omega) (by omega)
   have c0:decide ((0:Int)<=(f.pc.length:Int))=true:=af (by omega)
   rw [hX,hN] at lp hlen2 ⊢;rw [hO,hB];replace lp:=lp 0 ((ba+1) % 256);generalize wG f ss 0 _ 1 q 1=q2 at*;have pk2:=Ir q2;obtain ⟨sq,id,tm,fba,pc⟩:=f;simp only [Fl.l,AW,xH,xB,sB,lB] at lp ⊢;dsimp only [Hj] at*;simp only [go_sem,v1,v5,v6,c0,v2',v3',simprocAttr];refine lp _ _ _ _ ?_ ?_ (λe' k g1 g2 g5 g6 g7 g8 g9=> ?_)
   ·simp only [go_sem,AV.aj,aP,AV.aQ,simprocAttr]
   ·simp only [go_sem,pk,hLb,hLr,AV.aj,ab,bp.aQ,AV.aQ,aS,simprocAttr]
   ·simp only [go_sem,g1,g2,g5,g6,g7,g8,g9,pk2,hLb,hLr,AV.aj,ab,aP,bp.aQ,AV.aQ,aS,simprocAttr];omega
  ·have hj:IntKind.i64.wrap ((i:Int)-1)=((i-1:Nat):Int):=by grind [aN]
   have c3:decide (0<=((i-1:Nat):Int)/\((i-1:Nat):Int)<(f.pc.length:Int))=true:=af (by omega)
   have c4:decide ((i:Int)>0)=true:=af (by omega)
   obtain ⟨x,hx⟩: ∃x,f.pc[i-1]? =some x:=⟨_,bj (by omega)⟩
   have hr:(rows y9 f.pc)[(i-1)*1]? =some (.i .u8 x):=bM (f:=y9) (z:=1) (j:=0) (v:= .i .u8 x) Gt hx rfl;have hkx:kd f i=x:=by simp only [kd,aY (show ¬i=0 by omega),jd,hx,fM]
   obtain rfl:kk=x:=by omega
   have u1:IntKind.i64.wrap kk=kk:=aN (by omega) (by omega)
   have u2:kk.tmod 8=kk % 8:=fA (by omega)
   have u3:IntKind.i64.wrap (kk % 8)=kk % 8:=aN (by omega) (by omega)
   have u4:kk.tdiv 8=kk/8:=Int.tdiv_eq_ediv_of_nonneg (by omega)
   have u5:IntKind.i64.wrap (kk/8)=kk/8:=aN (by omega) (by omega)
   have u6:(kk/8).tmod 3=kk/8 % 3:=fA (by omega)
   have u7:IntKind.i64.wrap (kk/8 % 3)=kk/8 % 3:=aN (by omega) (by omega)
   have u8:IntKind.i64.wrap (1+kk/8 % 3)=1+kk/8 % 3:=aN (by omega) (by omega)
   have u9:kk.tdiv 32=kk/32:=Int.tdiv_eq_ediv_of_nonneg (by omega)
   have u10:IntKind.i64.wrap (kk/32)=kk/32:=aN (by omega) (by omega)
   have u11:(kk/32).tmod 3=kk/32 % 3:=fA (by omega)
   have u12:IntKind.i64.wrap (kk/32 % 3)=kk/32 % 3:=aN (by omega) (by omega)
   have u13:IntKind.i64.wrap (1+kk/32 % 3)=(fN kk:Int):=by grind [aN]
   have hmn: ∀a b:Int,(if b<a then b else a)=min a b:=λa b=>by omega
   cases b7:(kk % 8==7);rotate_left
   ·have hX:yI f i kk op ba=⟨false,true,false,false,(f.id+(i:Int)) % 32768,(ba+1) % 256,0,0⟩:=by simp only [yI,yK,KE,XO,b7,cond_true]
    have hO:D9 kk op=0:=by simp only [D9,b7,cond_true]
    have hB:yK kk op ba=(ba+1) % 256:=by simp only [yK,b7,cond_true]
    rw [hX] at lp hlen2 ⊢;rw [hO,hB];replace lp:=lp 0 ((ba+1) % 256);generalize wG f ss i _ (fN kk) q (fN kk)=q2 at*;have pk2:=Ir q2;obtain ⟨sq,id,tm,fba,pc⟩:=f;simp only [Fl.l,AW,xH,xB,sB,lB] at lp ⊢;dsimp only [Hj] at*;simp only [go_sem,c1,c2,v1,v2,v3,v5,v6,hj,c3,c4,hr,u1,u2,u9,u10,u11,u13,b7,simprocAttr];refine lp _ _ _ _ ?_ ?_ (λe' k g1 g2 g5 g6 g7 g8 g9=> ?_)
    ·simp only [go_sem,AV.aj,aP,AV.aQ,simprocAttr]
    ·simp only [go_sem,pk,hLb,hLr,AV.aj,ab,bp.aQ,AV.aQ,aS,simprocAttr]
    ·simp only [go_sem,g1,g2,g5,g6,g7,g8,g9,hw,hsk,pk2,hLb,hLr,AV.aj,ab,aP,bp.aQ,AV.aQ,aS,simprocAttr];exact hlt
   cases b4:decide (kk % 8<4);rotate_left
   ·have hX:yI f i kk op ba=⟨false,false,false,false,(f.id+(i:Int)) % 32768,(ba+1) % 256,0,0⟩:=by simp_all [yI,yK,KE,XO,cond_true]
    have hO:D9 kk op=op:=by simp only [D9,b7,b4,cond_true,cond_false]
    have hB:yK kk op ba=(ba+1) % 256:=by simp_all [yK,cond_true]
    rw [hX] at lp hlen2 ⊢;rw [hO,hB];replace lp:=lp op ((ba+1) % 256);generalize wG f ss i _ (fN kk) q (fN kk)=q2 at*;have pk2:=Ir q2;obtain ⟨sq,id,tm,fba,pc⟩:=f;simp only [Fl.l,AW,xH,xB,sB,lB] at lp ⊢;dsimp only [Hj] at*;simp only [go_sem,c1,c2,v1,v2,v3,v5,v6,hj,c3,c4,hr,u1,u2,u9,u10,u11,u13,b7,b4,simprocAttr];refine lp _ _ _ _ ?_ ?_ (λe' k g1 g2 g5 g6 g7 g8 g9=> ?_)
    ·simp only [go_sem,AV.aj,aP,AV.aQ,simprocAttr]
    ·simp only [go_sem,pk,hLb,hLr,AV.aj,ab,bp.aQ,AV.aQ,aS,simprocAttr]
    ·simp only [go_sem,g1,g2,g5,g6,g7,g8,g9,hw,hsk,pk2,hLb,hLr,AV.aj,ab,aP,bp.aQ,AV.aQ,aS,simprocAttr];exact hlt
   cases b5:(kk % 8==4);rotate_left
   ·cases bo:(op==0)
    ·have hX:yI f i kk op ba=⟨false,false,false,false,(f.id+(i:Int)) % 32768,ba,min op (1+kk/8 % 3),0⟩:=by simp only [yI,yK,KE,XO,b7,b4,b5,bo,cond_true,cond_false,tJ]
     have hO:D9 kk op=op:=by simp_all [D9,cond_true,cond_false]
     have hB:yK kk op ba=ba:=by simp only [yK,b7,b4,b5,bo,cond_true,cond_false]
     rw [hX] at lp hlen2 ⊢;rw [hO,hB];replace lp:=lp op ba;generalize wG f ss i _ (fN kk) q (fN kk)=q2 at*;have pk2:=Ir q2;obtain ⟨sq,id,tm,fba,pc⟩:=f;simp only [Fl.l,AW,xH,xB,sB,lB] at lp ⊢;dsimp only [Hj] at*;simp only [go_sem,c1,c2,v1,v2,v3,hj,c3,c4,hr,u1,u2,u4,u5,u6,u8,u9,u10,u11,u13,b7,b4,b5,bo,simprocAttr];refine lp _ _ _ _ ?_ ?_ (λe' k g1 g2 g5 g6 g7 g8 g9=> ?_)
     ·simp only [go_sem,AV.aj,aP,AV.aQ,simprocAttr]
     ·simp only [go_sem,pk,hLb,hLr,AV.aj,ab,bp.aQ,AV.aQ,aS,simprocAttr]
     ·simp only [go_sem,g1,g2,g5,g6,g7,g8,g9,hw,hsk,pk2,hLb,hLr,AV.aj,ab,aP,bp.aQ,AV.aQ,aS,simprocAttr];exact hlt
    ·have hX:yI f i kk op ba=⟨false,false,false,false,(f.id+(i:Int)) % 32768,(ba+1) % 256,min op (1+kk/8 % 3),0⟩:=by simp_all [yI,yK,KE,XO,cond_true,cond_false,tJ]
     have hO:D9 kk op=op:=by simp_all [D9,cond_true]
     have hB:yK kk op ba=(ba+1) % 256:=by simp_all [yK,cond_true]
     rw [hX] at lp hlen2 ⊢;rw [hO,hB];replace lp:=lp op ((ba+1) % 256);generalize wG f ss i _ (fN kk) q (fN kk)=q2 at*;have pk2:=Ir q2;obtain ⟨sq,id,tm,fba,pc⟩:=f;simp only [Fl.l,AW,xH,xB,sB,lB] at lp ⊢;dsimp only [Hj] at*;simp only [go_sem,c1,c2,v1,v2,v3,v5,v6,hj,c3,c4,hr,u1,u2,u4,u5,u6,u8,u9,u10,u11,u13,b7,b4,b5,bo,simprocAttr];refine lp _ _ _ _ ?_ ?_ (λe' k g1 g2 g5 g6 g7 g8 g9=> ?_)
     ·simp only [go_sem,AV.aj,aP,AV.aQ,simprocAttr]
     ·simp only [go_sem,pk,hLb,hLr,AV.aj,ab,bp.aQ,AV.aQ,aS,simprocAttr]
     ·simp only [go_sem,g1,g2,g5,g6,g7,g8,g9,hw,hsk,pk2,hLb,hLr,AV.aj,ab,aP,bp.aQ,AV.aQ,aS,simprocAttr];exact hlt
   ·have hX:yI f i kk op ba=⟨false,false,true,false,(f.id+(i:Int)) % 32768,ba,min (op+1) (1+kk/8 % 3),0⟩:=by simp only [yI,yK,KE,XO,b7,b4,b5,cond_false,kl]
    have hO:D9 kk op=min (op+1) (1+kk/8 % 3):=by simp only [D9,b7,b4,b5,cond_false]
    have hB:yK kk op ba=ba:=by simp only [yK,b7,b4,b5,cond_false]
    rw [hX] at lp hlen2 ⊢;rw [hO,hB];replace lp:=lp (min (op+1) (1+kk/8 % 3)) ba;generalize wG f ss i _ (fN kk) q (fN kk)=q2 at*;have pk2:=Ir q2;obtain ⟨sq,id,tm,fba,pc⟩:=f;simp only [Fl.l,AW,xH,xB,sB,lB] at lp ⊢;dsimp only [Hj] at*;simp only [go_sem,c1,c2,v1,v2,v3,v8,hj,c3,c4,hr,u1,u2,u4,u5,u6,u8,u9,u10,u11,u13,b7,b4,b5,simprocAttr];refine lp _ _ _ _ ?_ ?_ (λe' k g1 g2 g5 g6 g7 g8 g9=> ?_)
    ·simp only [go_sem,AV.aj,aP,AV.aQ,simprocAttr]
    ·simp only [go_sem,pk,hLb,hLr,AV.aj,ab,bp.aQ,AV.aQ,aS,simprocAttr]
    ·simp only [go_sem,g1,g2,g5,g6,g7,g8,g9,hw,hsk,pk2,hLb,hLr,AV.aj,ab,aP,bp.aQ,AV.aQ,aS,simprocAttr];exact hlt
 ·obtain rfl:i=M:=by omega
  have hno: ¬(i<=f.pc.length/\i<24):=λhh=>hlt ((hMM i).2 hh);generalize vg f ss i=s at*;obtain ⟨op,ba,q⟩:=s;have pk:=Ir q;obtain ⟨sq,id,tm,fba,pc⟩:=f;simp only [Fl.l,xH] at hK ⊢;dsimp only [Hj] at*;by_cases h1:i<=pc.length
  ·have c1:decide ((i:Int)<=(pc.length:Int))=true:=af (by omega)
   have c2:decide ((i:Int)<24)=false:=bw (by omega)
   simp only [go_sem,c1,c2,simprocAttr];exact hK _ rfl
  ·have c1:decide ((i:Int)<=(pc.length:Int))=false:=bw (by omega)
   simp only [go_sem,c1,simprocAttr];exact hK _ rfl
def bare (l:List Md):Bool:=l.all λp=>p.cs.isEmpty&&p.xs.isEmpty
theorem Lo: ∀{l:List Md},bare l=true->lZ (rows uo l) (rows Md.l l)
 |[],_=>trivial
 |p::l,h=>by
  simp only [bare,iz,ak,List.isEmpty_iff] at h;obtain ⟨⟨h1,h2⟩,h3⟩:=h;have ih:=Lo (l:=l) h3;have e1:rows uo (p::l)=uo p++rows uo l:=rfl;have e2:rows Md.l (p::l)=Md.l p++rows Md.l l:=rfl;rw [e1,e2];refine lZ.app ?_ ih;obtain ⟨ma,ty,sq,tm,ss,cs,xs,pd,pl⟩:=p;dsimp only at h1 h2;subst h1;subst h2;exact ⟨lH.refl _,lH.refl _,lH.refl _,lH.refl _,lH.refl _,lH.ns,lH.ns,lH.refl _,lH.refl _,trivial⟩
theorem B0 {α:Type} {g:Nat->α} {f:α->Bool} (h: ∀i,f (g i)=true): ∀k,(iD g k).all f=true
 |0=>rfl
 |k+1=>by rw [il,List.all_append,B0 h k];simp [h]
theorem C4 (f:Fl) (ss:Int): ∀i,bare (vg f ss i).q=true
 |0=>rfl
 |i+1=>by
  have ih:=C4 f ss i;simp only [vg,Wl,bare,wG,List.all_append,ak] at ih ⊢;exact ⟨ih,B0 (λj=>rfl) _⟩
theorem w58 (f:Fl) (ss:Int) (hf:f.ok=true):bG ay 58 [.agg f.l,.i .i64 ss] [] 0 (.fz (rows Md.l (jn f ss)) (jn f ss).length) [] 0:=by
 have hw:bG ay 58 [.agg f.l,.i .i64 ss] [] 0 (.fz (rows uo (jn f ss)) (jn f ss).length) [] 0:=by
  have lp:=λ(K:bX) (e:Env) (h:Hp) (m:Nat)=> @P7 f ss hf K e h m;have pk:=Ir (jn f ss);generalize hQ:jn f ss=Q at*;have hLb: ∀j,ab j (rows y9 f.pc)=true:=λj=>u8B j f.pc;have hLr: ∀ψ,aS ψ (rows y9 f.pc)=rows y9 f.pc:=λψ=>aJ _ (bh wF);clear hQ;simp only [Fl.ok,ak] at hf;obtain ⟨o1,o2,o3,o4,o5⟩:=hf;have o1:=bD o1;have o4:=bD o4;obtain ⟨sq,id,tm,fba,pc⟩:=f;simp only [Fl.l,xH] at lp ⊢;dsimp only at*;have w1:IntKind.i64.wrap sq=sq:=aN (by omega) (by omega)
  have w2:IntKind.i64.wrap fba=fba:=aN (by omega) (by omega)
  refine bG.dy Un mo Tryz.func58 YE (by simp [i58]) (aO ?_)
  dsimp only [i58,Hj];simp only [go_sem,w1,w2,simprocAttr];refine lp _ _ _ _ ?_ ?_ (λe' g5=> ?_)
  ·simp only [go_sem,pO,Wy,fP,AV.aj,aP,AV.aQ,simprocAttr];simp
  ·simp only [go_sem,pO,X1,hLb,hLr,AV.aj,ab,bp.aQ,AV.aQ,aS,simprocAttr]
  ·simp only [go_sem,g5,simprocAttr];refine aZ.aaA (h':=[]) (v':= .fz (rows uo Q) Q.length) (p7 (f:=uo) Bc Bj Q) (B9 Q) (aea Q) (by simp [fi]) bW.hit (λc kk hc=>by simp [aa] at hc) ?_
   simp [aZ.ends,Ends.aw,AV.aj,pkB]
 exact hw.To (lH.fz (Lo (C4 f ss _)))
def ZO:Ct
 |[.agg c,.i .i64 ss],_,n=>(fl5 c).bind λf=>some (f.ok,{v:= .fz (rows Md.l (jn f ss)) (jn f ss).length,n})
 |_,_,_=>none
theorem ajj (j:Nat) (l:List Md):ab j (rows Md.l l)=true:=au _ (bh (λp=>p.aj))
theorem s58:ax ay 58 ZO:=λargs h n c E hc ht=>by
 unfold ZO at hc;split at hc
 ·simp only [av] at hc;obtain ⟨s,hd,he⟩:=hc;cases he;rw [UZ hd];exact aA.pure (by kernel_rfl) (by simp only [ab,AV.aj,Fl.aj,aG]) (by simp only [AV.aj,ajj]) (w58 s _ ht) _ _
 ·cases hc
/-! Ssrcs -/
theorem aeu {l:List Md} {k:Nat} {x:Md} (h:l[k]? =some x):List.take 9 (List.drop (k*9) (rows Md.l l))=x.l:=dm Md.len h
def Iq:Md:=⟨false,0,0,0,0,[],[],0,[]⟩
theorem ahj {x:Int} (h:bZ 0 255 x=true):x.tmod 8=x % 8/\IntKind.i64.wrap (x % 8)=x % 8/\(x % 8).tmod 3=x % 8 % 3/\IntKind.i64.wrap (x % 8 % 3)=x % 8 % 3:=by
 have h:=bD h;exact ⟨fA (by omega),aN (by omega) (by omega),fA (by omega),aN (by omega) (by omega)⟩
theorem elt {l:List Md} {i:Int} (h0:0<=i) (h1:i<(l.length:Int)):List.take 9 (List.drop (i.toNat*9) (rows Md.l l))=(l.getD i.toNat Iq).l:=by
 obtain ⟨p,hp⟩: ∃p,l[i.toNat]? =some p:=⟨_,bj (by omega)⟩
 rw [aeu hp,jd,hp];rfl
theorem Pz (s:Sw) (k:Int) (p:Md) (x:Sh):(dE s k p x).1.l=s.l:=by
 have h1:(cY s k p x).l=s.l:=by unfold cY;cases tk s k x<;>rfl
 unfold dE;cases lv (cY s k p x) k p
 ·exact h1
 ·have h2: ∀s:Sw,(iX s k p).l=s.l:=λs=>by unfold iX;cases lv s k p<;>rfl
  have h3: ∀s:Sw,(dz s x).l=s.l:=λs=>by unfold dz;cases (x.id==s.fr)<;>rfl
  have h4: ∀s:Sw,(kI s x).l=s.l:=λs=>by unfold kI;cases jD s x<;>rfl
  cases jD (dz (iX (cY s k p x) k p) x) x
  ·show (lD _ p x).l=_;simp only [lD,h3,h2,h1]
  ·show (kI _ x).l=_;simp only [h4,h3,h2,h1]
theorem Sw.one (s:Sw):aL s.a=true:=rfl
theorem Sw.len (s:Sw):s.a.length=18:=rfl
structure Bx where
 wh:Int
 at_:Int
 n:Int
def Bx.a (b:Bx):List AV:=[.i .u8 b.wh,.i .u8 b.at_,.i .i64 b.n]
structure Tx where
 wh:Int
 at_:Int
 oc:Int
 n:Int
def Tx.a (b:Tx):List AV:=[.i .u8 b.wh,.i .u8 b.at_,.i .u8 b.oc,.i .i64 b.n]
def bm (l:List UInt8):List AV:=l.map λb=> .i .u8 b.toNat
/-! members -/
structure Mb where
 nm:List UInt8
 es:Int
def Mb.l (m:Mb):List AV:=[.s m.nm,.i .i64 m.es]
theorem Mb.len: ∀m:Mb,m.l.length=2:=λ_=>rfl
theorem Mb.aj: ∀m:Mb,ab 0 m.l=true:=λ_=>rfl
theorem Mb.one: ∀m:Mb,aL m.l=true:=λ_=>rfl
def Tk:List AV->Option Mb
 |[.s a,.i .i64 e]=>some ⟨a,e⟩
 |_=>none
theorem aaO (m:Mb):Tk m.l=some m:=rfl
theorem Bi (c:List AV) (m:Mb) (h:Tk c=some m):c=m.l:=by
 unfold Tk at h;split at h
 ·cases h;rfl
 ·cases h
theorem fT (j:Nat) (l:List Mb):ab j (rows Mb.l l)=true:=au _ (bh Mb.aj)
theorem jI (ψ:Nat->Nat) (l:List Mb):aS ψ (rows Mb.l l)=rows Mb.l l:=aJ _ (bh Mb.aj)
theorem Fb (l:List Mb):bc 2 Tk l.length (rows Mb.l l)=some l:=dM Mb.len aaO l
/-! shows -/
structure aW where
 ow:Int
 ss:List Int
 rt:List Int
 bl:Int
def aW.l (s:aW):List AV:=[.i .i64 s.ow,.fz (rows aq s.ss) s.ss.length,.fz (rows aq s.rt) s.rt.length,.i .u64 s.bl]
theorem aW.len: ∀s:aW,s.l.length=4:=λ_=>rfl
theorem iB (j:Nat) (l:List Int):ab j (rows aq l)=true:=au _ (bh gV)
theorem iR (ψ:Nat->Nat) (l:List Int):aS ψ (rows aq l)=rows aq l:=aJ _ (bh gV)
theorem aW.aj: ∀s:aW,ab 0 s.l=true:=λs=>by simp only [aW.l,ab,AV.aj,iB,aG]
theorem aW.one: ∀s:aW,aL s.l=true:=λ_=>rfl
def xp:List AV->Option aW
 |[.i .i64 o,.fz A m,.fz B n,.i .u64 b]=>(bc 1 dG m A).bind λs=>(bc 1 dG n B).bind λr=>some ⟨o,s,r,b⟩
 |_=>none
theorem ku (s:aW):xp s.l=some s:=by simp only [xp,aW.l,eD,aC]
theorem qD (c:List AV) (s:aW) (h:xp c=some s):c=s.l:=by
 unfold xp at h;split at h
 ·simp only [av] at h;obtain ⟨s1,h1,r1,h2,he⟩:=h;cases he;obtain ⟨rfl,rfl⟩:=bu df h1;obtain ⟨rfl,rfl⟩:=bu df h2;rfl
 ·cases h
theorem cG (j:Nat) (l:List aW):ab j (rows aW.l l)=true:=au _ (bh aW.aj)
theorem dT (ψ:Nat->Nat) (l:List aW):aS ψ (rows aW.l l)=rows aW.l l:=aJ _ (bh aW.aj)
theorem KT (l:List aW):bc 4 xp l.length (rows aW.l l)=some l:=dM aW.len ku l
/-! taps -/
structure Tp where
 me:Int
 sh:Int
 wt:Int
 mo:Int
 sw:Sw
def Tp.l (t:Tp):List AV:=[.i .i64 t.me,.i .i64 t.sh,.i .i64 t.wt,.i .i64 t.mo]++t.sw.a
theorem Tp.len: ∀t:Tp,t.l.length=22:=λ_=>rfl
theorem Tp.aj: ∀t:Tp,ab 0 t.l=true:=λt=>by
 have:=t.sw.aj
 grind [Tp.l,ez,List.nil_append,ab,AV.aj,aG]
theorem Tp.one: ∀t:Tp,aL t.l=true:=λ_=>rfl
def uP:List AV->Option Tp
 | .i .i64 a:: .i .i64 b:: .i .i64 c:: .i .i64 d::r=>(G9 r).bind λs=>some ⟨a,b,c,d,s⟩
 |_=>none
theorem uH (t:Tp):uP t.l=some t:=by
 show (G9 t.sw.a).bind _=_;rw [pC];rfl
theorem lf (c:List AV) (t:Tp) (h:uP c=some t):c=t.l:=by
 unfold uP at h;split at h
 ·simp only [av] at h;obtain ⟨s,h1,he⟩:=h;cases he;rw [rU h1];rfl
 ·cases h
theorem fb (j:Nat) (l:List Tp):ab j (rows Tp.l l)=true:=au _ (bh Tp.aj)
theorem jC (ψ:Nat->Nat) (l:List Tp):aS ψ (rows Tp.l l)=rows Tp.l l:=aJ _ (bh Tp.aj)
theorem F1 (l:List Tp):bc 22 uP l.length (rows Tp.l l)=some l:=dM Tp.len uH l
/-! rooms -/
structure Rm where
 ms:List Mb
 sh:List aW
 tp:List Tp
def Rm.a (r:Rm):List AV:=[.fz (rows Mb.l r.ms) r.ms.length,.fz (rows aW.l r.sh) r.sh.length,.fz (rows Tp.l r.tp) r.tp.length]
theorem Rm.aj (j:Nat) (r:Rm):ab j r.a=true:=by simp only [Rm.a,ab,AV.aj,fT,cG,fb,aG]
def qX:List AV->Option Rm
 |[.fz A a,.fz B b,.fz C c]=>(bc 2 Tk a A).bind λm=>(bc 4 xp b B).bind λs=>(bc 22 uP c C).bind λt=>some ⟨m,s,t⟩
 |_=>none
theorem dH (r:Rm):qX r.a=some r:=by simp only [qX,Rm.a,Fb,KT,F1,aC]
theorem dW {c:List AV} {r:Rm} (h:qX c=some r):c=r.a:=by
 unfold qX at h;split at h
 ·simp only [av] at h;obtain ⟨m,h1,s,h2,t,h3,he⟩:=h;cases he;obtain ⟨rfl,rfl⟩:=bu Bi h1;obtain ⟨rfl,rfl⟩:=bu qD h2;obtain ⟨rfl,rfl⟩:=bu lf h3;rfl
 ·cases h
def aW.fin (s:aW):Bool:=decide (s.ss.length<=9223372036854775807)&&decide (s.rt.length<=9223372036854775807)
def Rm.fin (r:Rm):Bool:=decide (r.ms.length<=9223372036854775807)&&(decide (r.sh.length<=9223372036854775807)&&(decide (r.tp.length<=9223372036854775807)&&(r.sh.all aW.fin&&r.tp.all λt=>decide (t.sw.l.length<=9223372036854775807))))
end Go.Proofs.Rom
namespace Go.Proofs
open Go.Shelf
def Tryz.Cs:Go.Shelf.Ren:=⟨fun|160=>161|232=>202|231=>201|227=>203|234=>205|233=>204|236=>207|235=>206|228=>238|271=>241|151=>240|197=>239|120=>251|152=>250|260=>249|137=>253|119=>254|224=>255|225=>256|217=>257|266=>258|n=>n,fun|9=>9|4=>4|3=>3|5=>5|117=>273|116=>272|0=>0|124=>276|21=>21|105=>298|46=>67|119=>313|139=>316|138=>315|n=>n,fun|3=>1|4=>2|n=>n⟩
theorem Tryz.Rr:Go.Proofs.Lays.n160 ay Tryz.Cs:={
 mixed:=by kernel_rfl
 f119:=Tryz.func254.trans (dC some (by kernel_rfl))
 f120:=Tryz.func251.trans (dC some (by kernel_rfl))
 f137:=Tryz.func253.trans (dC some (by kernel_rfl))
 f151:=Tryz.func240.trans (dC some (by kernel_rfl))
 f152:=Tryz.func250.trans (dC some (by kernel_rfl))
 f160:=Tryz.func161.trans (dC some (by kernel_rfl))
 f197:=Tryz.func239.trans (dC some (by kernel_rfl))
 f217:=Tryz.func257.trans (dC some (by kernel_rfl))
 f224:=Tryz.func255.trans (dC some (by kernel_rfl))
 f225:=Tryz.func256.trans (dC some (by kernel_rfl))
 f227:=Tryz.func203.trans (dC some (by kernel_rfl))
 f228:=Tryz.func238.trans (dC some (by kernel_rfl))
 f231:=Tryz.func201.trans (dC some (by kernel_rfl))
 f232:=Tryz.func202.trans (dC some (by kernel_rfl))
 f233:=Tryz.func204.trans (dC some (by kernel_rfl))
 f234:=Tryz.func205.trans (dC some (by kernel_rfl))
 f235:=Tryz.func206.trans (dC some (by kernel_rfl))
 f236:=Tryz.func207.trans (dC some (by kernel_rfl))
 f260:=Tryz.func249.trans (dC some (by kernel_rfl))
 f266:=Tryz.func258.trans (dC some (by kernel_rfl))
 f271:=Tryz.func241.trans (dC some (by kernel_rfl))
 t0:=Tryz.underlying0
 a0:=Tryz.isAgg0
 z0:=Tryz.sizeOf0
 v0:=Tryz.zeroValue0
 t3:=Tryz.underlying3
 a3:=Tryz.isAgg3
 z3:=Tryz.sizeOf3
 v3:=Tryz.zeroValue3
 t4:=Tryz.underlying4
 a4:=Tryz.isAgg4
 z4:=Tryz.sizeOf4
 v4:=Tryz.zeroValue4
 t5:=Tryz.underlying5
 a5:=Tryz.isAgg5
 z5:=Tryz.sizeOf5
 v5:=Tryz.zeroValue5
 t9:=Tryz.underlying9
 a9:=Tryz.isAgg9
 z9:=Tryz.sizeOf9
 v9:=Tryz.zeroValue9
 t21:=Tryz.underlying21
 a21:=Tryz.isAgg21
 z21:=Tryz.sizeOf21
 v21:=Tryz.zeroValue21
 t46:=Tryz.underlying67
 a46:=Tryz.isAgg67
 z46:=Tryz.sizeOf67
 v46:=Tryz.zeroValue67
 t105:=Tryz.underlying298
 a105:=Tryz.isAgg298
 z105:=Tryz.sizeOf298
 v105:=Tryz.zeroValue298
 t116:=Tryz.underlying272
 a116:=Tryz.isAgg272
 z116:=Tryz.sizeOf272
 t117:=Tryz.underlying273
 a117:=Tryz.isAgg273
 z117:=Tryz.sizeOf273
 v117:=Tryz.zeroValue273
 t119:=Tryz.underlying313
 a119:=Tryz.isAgg313
 z119:=Tryz.sizeOf313
 t124:=Tryz.underlying276
 a124:=Tryz.isAgg276
 z124:=Tryz.sizeOf276
 v124:=Tryz.zeroValue276
 t138:=Tryz.underlying315
 a138:=Tryz.isAgg315
 z138:=Tryz.sizeOf315
 v138:=Tryz.zeroValue315
 t139:=Tryz.underlying316
 a139:=Tryz.isAgg316
 z139:=Tryz.sizeOf316
 v139:=Tryz.zeroValue316
 g3:=by kernel_rfl
 g4:=by kernel_rfl}
end Go.Proofs
namespace Go.Proofs.Rom
open Go.Shelf Go.RowKit in
theorem Ib (s cutset:ByteArray) (w:World) (hs:s.size<=9223372036854775807) (hcs:cutset.size<4294967281)
 (hascii: ∀(j:Nat) b,cutset.data.toList[j]? =some b->b.toNat<128):
 Calls ay 161 #[.string s,.string cutset] w λe w'=>e= .returned (.string ⟨(Lib.trimS s.data.toList cutset.data.toList).toArray⟩)/\Below w.heap.size w w':=Any.strings_Trim_laid Tryz.Rr (by kernel_rfl) s cutset w hs hcs hascii
open Go.Ab
theorem w71 (lo x hi:Int):bG ay 71 [.i .i64 lo,.i .i64 x,.i .i64 hi] [] 0 (.b (bZ lo hi x)) [] 0:=by
 refine ew Sound.nil Tryz.func71 YS ?_
 dsimp only [i71];simp only [go_sem,simprocAttr];repeat' (first|refine mu (λ_=> ?_) (λ_=> ?_)|refine js ?_ ?_)
 all_goals (refine Ends.aw rfl (dC _ ?_);simp [bZ] at *;try omega)
def iM:Ct
 |[.i .i64 lo,.i .i64 x,.i .i64 hi],_,n=>some (true,{v:= .b (bZ lo hi x),n})
 |_,_,_=>none
theorem DQ:ax ay 71 iM:=λargs h n c E hc ht=>by
 unfold iM at hc;split at hc
 ·cases hc;exact aA.pure (by kernel_rfl) rfl rfl (w71 _ _ _) _ _
 ·cases hc
/-! what is thrown -/
def eJ (e:Int):Value:= .iface 216 (.agg #[.int .i64 e])
theorem af8 (e:Int):bG ay 62 [.b true,.i .i64 e] [] 0 (.bz []) [] 0:=by
 refine ew Sound.nil Tryz.func62 LR ?_
 dsimp only [i62];simp only [go_sem,simprocAttr];exact Ends.aw rfl rfl
theorem afP (e:Int):cz ay 62 [.b false,.i .i64 e] [] 0 (some (eJ e)) (.bz []) [] 0:=by
 refine cz.dQ Sound.nil mo Tryz.func62 LR (by simp [i62]) (aO ?_)
 dsimp only [i62];simp only [go_sem,simprocAttr];exact ⟨rfl,Ends.aw rfl rfl⟩
def gA:Ct
 |[.b c,.i .i64 e],_,n=>some (true,{v:= .bz [],n,pn:=bif c then none else some (eJ e)})
 |_,_,_=>none
theorem Ad:ax ay 62 gA:=λargs h n c E hc ht=>by
 unfold gA at hc;split at hc
 ·rename_i b e;cases hc;cases b
  ·exact aA.zY (by kernel_rfl) rfl rfl (afP e) _ _
  ·exact aA.zY (pn:=none) (by kernel_rfl) rfl rfl (af8 e) _ _
 ·cases hc
/-! names -/
def Dv:List UInt8:=[97,98,99,100,101,102,103,104,105,106,107,108,109,110,111,112,113,114,115,116,117,118,119,120,121,122]
def oO (c:UInt8):Bool:=decide (97<=c.toNat)&&decide (c.toNat<=122)
theorem M8 (c:UInt8):Dv.contains c=oO c:=by
 have h: ∀n:Fin 256,Dv.contains (UInt8.ofNat n.val)=oO (UInt8.ofNat n.val):=by decide
 have:=h ⟨c.toNat,c.toNat_lt⟩;simp_all
theorem uN {p:UInt8->Bool} (l:List UInt8):l.dropWhile p=[]↔l.all p=true:=by
 induction l with
 |nil=>simp
 |cons a r ih=>
  rw [List.dropWhile_cons];cases h:p a
  ·simp [h]
  ·grind
theorem KO (s:List UInt8):(Go.Lib.trimS s Dv==[])=s.all oO:=by
 have hp:(λc=>Dv.contains c)=oO:=funext M8;rw [rh,ik];show List.dropWhile (λc=>Dv.contains c) (List.dropWhile (λc=>Dv.contains c) s.reverse).reverse=[]↔_;rw [hp,uN,List.all_reverse];constructor
 ·intro h;have:s.reverse.dropWhile oO=[]:=by
   cases hd:s.reverse.dropWhile oO with
   |nil=>rfl
   |cons a r=>
    exfalso;rw [hd,iz,ak] at h;have:=List.head?_dropWhile_not oO s.reverse;rw [hd] at this;simp only [List.head?_cons] at this;rw [h.1] at this;simp at this
  grind [uN,List.all_reverse]
 grind [oO,uN,List.all_reverse]
theorem Xx: ∀(j:Nat) b,Dv[j]? =some b->b.toNat<128:=λj b hb=>by
 have h:Dv.all (λb=>decide (b.toNat<128))=true:=by decide
 grind
theorem agQ (s:List UInt8) (hs:s.length<=9223372036854775807):bG ay 161 [.s s,.s Dv] [] 0 (.s (Go.Lib.trimS s Dv)) [] 0:=bG.Jp (λD φ us ha=>by
 obtain ⟨u,m,rfl,h1,h2⟩:=ha.eB;obtain ⟨u',m',rfl,h3,h4⟩:=h2.eB;obtain rfl:=h4.mq;cases h1;cases h3;refine ⟨_,.s (Go.Lib.trimS s Dv),λw=> ?_⟩;refine (Ib ⟨s.toArray⟩ ⟨Dv.toArray⟩ w (by show s.toArray.size<=_;omega) (by decide) Xx).mono λe w' he=>⟨?_,he.2⟩
 rw [he.1]) (by kernel_rfl)
def LB:Ct
 |[.s s,.s t],_,n=>some (decide (s.length<=9223372036854775807)&&decide (t=Dv),{v:= .s (Go.Lib.trimS s Dv),n})
 |_,_,_=>none
theorem ahw:ax ay 161 LB:=λargs h n c E hc ht=>by
 unfold LB at hc;split at hc
 ·cases hc;simp only [ak,bg] at ht;obtain ⟨h1,rfl⟩:=ht;exact aA.pure (by kernel_rfl) rfl rfl (agQ _ h1) _ _
 ·cases hc
def fZ (s:List UInt8):Bool:=(!(s==[]))&&(decide (s.length<=16)&&s.all oO)
def T94:List (Nat×Ct):=[(161,LB)]
theorem agm:Sound ay (cj T94):=Sound.cons ahw Sound.nil
theorem w94 (s:List UInt8):bG ay 94 [.s s] [] 0 (.b (fZ s)) [] 0:=by
 refine ew agm Tryz.func94 UB ?_
 dsimp only [i94,T94];have hk:s.length<=16-> ∀(h:Hp) n,LB [.s s,.s [97,98,99,100,101,102,103,104,105,106,107,108,109,110,111,112,113,114,115,116,117,118,119,120,121,122]] h n=some (true,{v:= .s (Go.Lib.trimS s Dv),n}):=λhl h n=>by
  have h1:decide (s.length<=9223372036854775807)=true:=af (by omega)
  simp only [LB,h1,mP];rfl
 have hn:=KO s;have hR:fZ s=((!(s==[]))&&(decide (s.length<=16)&&s.all oO)):=rfl;generalize fZ s=R at hR ⊢;generalize Go.Lib.trimS s Dv=t at*;have n1:(s !=[])= !(s==[]):=rfl;have n2:decide ((s.length:Int)<=16)=decide (s.length<=16):=by grind
 cases c1:(s==[])
 ·cases c2:decide (s.length<=16)
  ·rw [c1,c2] at hR;simp only [go_sem,n2,c1,c2,simprocAttr];exact Ends.aw rfl (by rw [hR];rfl)
  ·rw [c1,c2] at hR;have hk:=hk (bN c2);simp only [go_sem,n2,c1,c2,hk,simprocAttr];exact Ends.aw rfl (by grind)
 ·rw [c1] at hR;simp only [go_sem,c1,simprocAttr];exact Ends.aw rfl (by rw [hR];rfl)
def HQ:Ct
 |[.s s],_,n=>some (true,{v:= .b (fZ s),n})
 |_,_,_=>none
theorem s94:ax ay 94 HQ:=λargs h n c E hc ht=>by
 unfold HQ at hc;split at hc
 ·cases hc;exact aA.pure (by kernel_rfl) rfl rfl (w94 _) _ _
 ·cases hc
/-! the order of taps -/
theorem agK (x:Int):bG ay 173 [.i .i64 x] [] 0 (.b false) [] 0:=by
 refine ew Sound.nil Tryz.func173 Nv ?_
 dsimp only [i173];have e:(x !=x)=false:=by simp
 simp only [go_sem,e,simprocAttr];exact Ends.aw rfl rfl
def HI:Ct
 |[.i .i64 x],_,n=>some (true,{v:= .b false,n})
 |_,_,_=>none
theorem aip:ax ay 173 HI:=λargs h n c E hc ht=>by
 unfold HI at hc;split at hc
 ·cases hc;exact aA.pure (by kernel_rfl) rfl rfl (agK _) _ _
 ·cases hc
def lE (a b:Int):Int:=if a<b then -1 else if a>b then 1 else 0
def aes:List (Nat×Ct):=[(173,HI)]
theorem aca:Sound ay (cj aes):=Sound.cons aip Sound.nil
theorem af3 (a b:Int):bG ay 109 [.i .i64 a,.i .i64 b] [] 0 (.i .i64 (lE a b)) [] 0:=by
 refine ew aca Tryz.func109 RF ?_
 dsimp only [i109,aes];have hR:lE a b=if a<b then -1 else if a>b then 1 else 0:=rfl
 generalize lE a b=R at hR ⊢;cases c1:decide (a<b)
 ·rw [aY (tM c1)] at hR;cases c2:decide (a>b)
  ·rw [aY (tM c2)] at hR;simp only [go_sem,HI,c1,c2,simprocAttr];exact Ends.aw rfl (by rw [hR])
  ·rw [aT (bN c2)] at hR;simp only [go_sem,HI,c1,c2,simprocAttr];exact Ends.aw rfl (by rw [hR])
 ·rw [aT (bN c1)] at hR;simp only [go_sem,HI,c1,simprocAttr];exact Ends.aw rfl (by rw [hR])
def CE:Ct
 |[.i .i64 a,.i .i64 b],_,n=>some (true,{v:= .i .i64 (lE a b),n})
 |_,_,_=>none
theorem abS:ax ay 109 CE:=λargs h n c E hc ht=>by
 unfold CE at hc;split at hc
 ·cases hc;exact aA.pure (by kernel_rfl) rfl rfl (af3 _ _) _ _
 ·cases hc
def Mr (a b:Int):Int:=if a≠0 then a else b
theorem ait (a b:Int):bG ay 108 [.fz [.i .i64 a,.i .i64 b] 2] [] 0 (.i .i64 (Mr a b)) [] 0:=by
 refine ew Sound.nil Tryz.func108 M5 ?_
 dsimp only [i108];have hR:Mr a b=if a≠0 then a else b:=rfl
 generalize Mr a b=R at hR ⊢;simp only [go_sem,simprocAttr];refine Loop.rounds (F:=⟨ay,cj [],[9,14],18,0⟩) 3 Sound.nil mo ?_;cases c1:(a !=0)
 ·have ha:a=0:=by grind
  rw [aY (by omega)] at hR
  cases c2:(b !=0)
  ·have hb:b=0:=by grind
   simp only [go_sem,c1,c2,simprocAttr];exact Ends.aw rfl (by rw [hR,hb])
  ·simp only [go_sem,c1,c2,simprocAttr];exact Ends.aw rfl (by rw [hR])
 ·rw [aT (by grind)] at hR
  simp only [go_sem,c1,simprocAttr];exact Ends.aw rfl (by rw [hR])
def SN:Ct
 |[x],h,n=>xQ h 1 x λrd m cs ok=>match m,cs with
  |2,[.i .i64 a,.i .i64 b]=>some (ok,{v:= .i .i64 (Mr a b),n,rd})
  |_,_=>none
 |_,_,_=>none
theorem agL:ax ay 108 SN:=λargs h n c E hc ht=>by
 unfold SN at hc;split at hc
 ·rename_i x;rw [pF] at hc;simp only [av] at hc;obtain ⟨⟨rd,m,cs,ok⟩,hv,he⟩:=hc;dsimp only at he;split at he
  ·cases he;subst ht;exact aA.C0 (by kernel_rfl) (argsF:=[.fz _ 2]) ⟨tK hv rfl (λc hc=>hc),trivial⟩ rfl (ait _ _)
  ·cases he
 ·cases hc
def fF (a b:Tp):Int:=Mr (lE a.me b.me) (lE a.sh b.sh)
def aeM:List (Nat×Ct):=[(108,SN),(109,CE)]
theorem aej:Sound ay (cj aeM):=Sound.cons agL (Sound.cons abS Sound.nil)
theorem agn (a b:Tp):bG ay 139 [.agg a.l,.agg b.l] [] 0 (.i .i64 (fF a b)) [] 0:=by
 obtain ⟨a1,a2,a3,a4,sa⟩:=a;obtain ⟨b1,b2,b3,b4,sb⟩:=b;have hR:fF ⟨a1,a2,a3,a4,sa⟩ ⟨b1,b2,b3,b4,sb⟩=Mr (lE a1 b1) (lE a2 b2):=rfl;generalize fF ⟨a1,a2,a3,a4,sa⟩ ⟨b1,b2,b3,b4,sb⟩=R at*;refine ew aej Tryz.func139 R9 ?_
 dsimp only [i139,aeM,Tp.l];generalize sa.a=A;generalize sb.a=B;simp only [go_sem,CE,SN,fv,simprocAttr];exact Ends.aw rfl (by rw [hR])
def Bv:Ct
 |[.agg a,.agg b],_,n=>(uP a).bind λa=>(uP b).bind λb=>some (true,{v:= .i .i64 (fF a b),n})
 |_,_,_=>none
theorem abu:ax ay 139 Bv:=λargs h n c E hc ht=>by
 unfold Bv at hc;split at hc
 ·simp only [av] at hc;obtain ⟨a,ha,b,hb,he⟩:=hc;cases he;rw [lf _ _ ha,lf _ _ hb];exact aA.pure (by kernel_rfl) (by simp only [ab,AV.aj,Tp.aj,aG]) rfl (agn a b) _ _
 ·cases hc
end Go.Proofs.Rom
namespace Go.Proofs.Rom
open Go.Ab
def oL (s:aW) (m:Int):Bool:=s.ow==m||(s.bl/2^m.toNat) % 2==1
theorem Ag (b:Int) (m:Int) (hm:0<=m/\m<=6):b.fdiv (2^(if m.toNat<=64 then m.toNat else 64))=b/2^m.toNat:=by
 grind
theorem GR (b:Int) (m:Nat) (hb:0<=b/\b<=18446744073709551615):0<=b/2^m/\b/2^m<=18446744073709551615:=
 ⟨Int.ediv_nonneg hb.1 (Int.pow_nonneg (by decide)),Int.le_trans (Int.ediv_le_self _ hb.1) hb.2⟩
theorem K5 (x:Int) (hx:0<=x/\x<=18446744073709551615):iO .u64 x 1=x % 2:=by
 grind [Int.eq_ofNat_of_zero_le,iO,BitVec.ofInt,BitVec.toNat_and,BitVec.ofInt_natCast,BitVec.toNat_ofNat,rL,Nat.and_two_pow_sub_one_eq_mod,IntKind.wrap,IntKind.bits,IntKind.signed]
theorem w69 (s:aW) (m:Int) (hm:0<=m/\m<=6) (hb:0<=s.bl/\s.bl<=18446744073709551615):bG ay 69 [.agg s.l,.i .i64 m] [] 0 (.b (oL s m)) [] 0:=by
 have hR:oL s m=(s.ow==m||(s.bl/2^m.toNat) % 2==1):=rfl;generalize oL s m=R at hR ⊢;obtain ⟨ow,ss,rt,bl⟩:=s;dsimp only at hb hR;have h1:=Ag bl m hm;have h2:=K5 _ (GR bl m.toNat hb);have h3:decide (0<=m)=true:=af hm.1;refine ew Sound.nil Tryz.func69 Vw ?_
 dsimp only [i69];simp only [aW.l];cases c1:(ow==m)
 ·simp only [go_sem,c1,h1,h2,h3,simprocAttr];exact Ends.aw rfl (by grind)
 ·simp only [go_sem,c1,simprocAttr];exact Ends.aw rfl (by grind)
def Cp:Ct
 |[.agg c,.i .i64 m],_,n=>(xp c).bind λs=>some (bZ 0 6 m&&bZ 0 18446744073709551615 s.bl,{v:= .b (oL s m),n})
 |_,_,_=>none
theorem s69:ax ay 69 Cp:=λargs h n c E hc ht=>by
 unfold Cp at hc;split at hc
 ·simp only [av] at hc;obtain ⟨s,hs,he⟩:=hc;cases he;rw [qD _ _ hs];simp only [ak] at ht;exact aA.pure (by kernel_rfl) (by simp only [ab,AV.aj,aW.aj,aG]) rfl (w69 s _ (bD ht.1) (bD ht.2)) _ _
 ·cases hc
/-! members -/
theorem XX {a b:Mb} (h:AV.agg a.l= .agg b.l):a=b:=by
 obtain ⟨a1,a2⟩:=a;simp_all [Mb.l,AV.agg.injEq,yQ,AV.i.injEq,AV.s.injEq,lI,e9]
theorem aiF (m:Mb) (s:List UInt8):bG ay 163 [.agg m.l,.fp [.s s] 0] [] 0 (.b (m.nm==s)) [] 0:=by
 refine ew Sound.nil Tryz.func163 PQ ?_
 dsimp only [i163];simp only [go_sem,Mb.l,simprocAttr];exact Ends.aw rfl rfl
def wO (l:List Mb) (s:List UInt8):Int:=vU (λm=>m.nm==s) l 0
theorem aiz (l:List Mb) (s:List UInt8) (hl:l.length<=9223372036854775807):bG ay 162 [.fz (rows Mb.l l) l.length,.fn 163 [.fp [.s s] 0]] [] 0 (.i .i64 (wO l s)) [] 0:=
 IP (row:=Mb.l) (el:=λm=> .agg m.l) mo Tryz.func162 (by kernel_rfl) (by kernel_rfl) Mb.len Mb.aj rfl (λ_=>rfl) (λa b h=>by rw [XX h]) l hl (λx _=>aiF x s)
def Ls:Ct
 |[.fz L m,.fn 163 [.fp [.s s] 0]],_,n=>(bc 2 Tk m L).bind λl=>some (decide (m<=9223372036854775807),{v:= .i .i64 (wO l s),n})
 |_,_,_=>none
theorem ah4:ax ay 162 Ls:=λargs h n c E hc ht=>by
 unfold Ls at hc;split at hc
 ·simp only [av] at hc;obtain ⟨l,hl,he⟩:=hc;cases he;obtain ⟨rfl,rfl⟩:=bu Bi hl;exact aA.pure (by kernel_rfl) (by simp only [ab,AV.aj,fT,aG]) rfl (aiz l _ (bN ht)) _ _
 ·cases hc
def T95:List (Nat×Ct):=[(162,cu Ls)]
theorem ahu:Sound ay (cj T95):=Sound.cons ah4.nv Sound.nil
theorem w95 (r:Rm) (s:List UInt8) (hl:r.ms.length<=9223372036854775807):bG ay 95 [.fp r.a 0,.s s] [] 0 (.i .i64 (wO r.ms s)) [] 0:=by
 obtain ⟨ms,sh,tp⟩:=r;have hk: ∀(h:Hp) n b,aa h b=some {cells:=[.s s]}->cu Ls [.fz (rows Mb.l ms) ms.length,.fn 163 [.p b 0]] h n=some (true,{v:= .i .i64 (wO ms s),n,rd:=[b]}):=λh n b hb=>by
  simp only [cu,bn,bI,kC,jH,DF,ef (fT 0 ms),hb,aC,eo,Ls,Fb,af hl];rfl
 refine ew ahu Tryz.func95 Xz ?_
 dsimp only [i95,T95];simp only [Rm.a];simp only [go_sem,hk,simprocAttr];exact Ends.aw rfl rfl
def L8:Ct
 |[.fp c 0,.s s],_,n=>(qX c).bind λr=>some (decide (r.ms.length<=9223372036854775807),{v:= .i .i64 (wO r.ms s),n})
 |_,_,_=>none
theorem s95:ax ay 95 L8:=λargs h n c E hc ht=>by
 unfold L8 at hc;split at hc
 ·simp only [av] at hc;obtain ⟨r,hr,he⟩:=hc;cases he;rw [dW hr];exact aA.pure (by kernel_rfl) (by simp only [ab,AV.aj,Rm.aj,aG]) rfl (w95 r _ (bN ht)) _ _
 ·cases hc
def xm (ms:List Mb) (i:Nat) (m:Mb):Bool:=fZ m.nm&&(bZ 0 1073741824 m.es&&(wO ms m.nm==(i:Int)))
def abO:List (Nat×Ct):=[(71,iM),(94,HQ),(95,L8)]
theorem acP:Sound ay (cj abO):=Sound.cons DQ (Sound.cons s94 (Sound.cons s95 Sound.nil))
theorem agH (r:Rm) (i:Nat) (m:Mb) (hl:r.ms.length<=9223372036854775807):bG ay 145 [.i .i64 (i:Int),.agg m.l,.fp [.fp r.a 0] 0] [] 0 (.b (xm r.ms i m)) [] 0:=by
 have hrb: ∀j,ab j r.a=true:=λj=>Rm.aj j r;have hk: ∀(h:Hp) n,L8 [.fp r.a 0,.s m.nm] h n=some (true,{v:= .i .i64 (wO r.ms m.nm),n}):=λh n=>by grind [L8,dH,aC,af]
 have hR:xm r.ms i m=(fZ m.nm&&(bZ 0 1073741824 m.es&&(wO r.ms m.nm==(i:Int)))):=rfl;generalize xm r.ms i m=R at hR ⊢;generalize wO r.ms m.nm=at_ at*;generalize r.a=RA at*;obtain ⟨nm,es⟩:=m;refine ew acP Tryz.func145 Sj ?_
 dsimp only [i145,abO];simp only [Mb.l];dsimp only at hR hk;cases c1:fZ nm
 ·rw [c1] at hR;simp only [go_sem,HQ,c1,simprocAttr];exact Ends.aw rfl (by rw [hR];rfl)
 cases c2:bZ 0 1073741824 es
 ·rw [c1,c2] at hR;simp only [go_sem,HQ,iM,c1,c2,simprocAttr];exact Ends.aw rfl (by rw [hR];rfl)
 rw [c1,c2] at hR;simp only [go_sem,HQ,iM,c1,c2,hk,simprocAttr];exact Ends.aw rfl (by rw [hR];rfl)
/-! all, over members -/
theorem ajh {g:FuncId} {caps:List AV} {p:Nat->Mb->Bool} (hg:bH ay g=true) (hcaps:ab 0 caps=true) (l:List Mb) (hl:l.length<=9223372036854775807)
 (hF: ∀(k:Nat) (a:Mb),l[k]? =some a->bG ay g (.i .i64 (k:Int):: .agg a.l::caps) [] 0 (.b (p k a)) [] 0):bG ay 144 [.fz (rows Mb.l l) l.length,.fn g caps] [] 0 (.b (eE p l 0)) [] 0:=by
 have hs:=qQ (el:=λa:Mb=> .agg a.l) hg (λa=>Mb.aj a) hcaps hF;have hat:=λ(k:Nat) (a:Mb) (ha:l[k]? =some a) (h:Hp) (n:Nat)=>Al (g:=g) (caps:=caps) (el:=λa:Mb=> .agg a.l) (p:=p) ha h n;generalize Tz g caps (λa:Mb=>AV.agg a.l) p l=kq at hs hat;have hcx:Sound ay (cj [(g,kq)]):=Sound.cons hs Sound.nil;refine ew (cx:=cj [(g,kq)]) hcx Tryz.func144 Rp ?_
 dsimp only [i144];have hR0:eE p l 0=eE p (l.drop 0) 0:=rfl;generalize eE p l 0=R at hR0 ⊢;have hLb: ∀j,ab j (rows Mb.l l)=true:=λj=>fT j l;have hL: ∀(k:Nat) x,l[k]? =some x->List.take 2 (List.drop (k*2) (rows Mb.l l))=x.l:=λk x hk=>dm Mb.len hk;generalize rows Mb.l l=L at hL hLb ⊢;have hcb: ∀j,ab j caps=true:=λj=>au _ hcaps;simp only [go_sem,simprocAttr];refine Loop.dV (F:=⟨ay,cj [(g,kq)],[10,18],20,0⟩) hcx mo l.length (λk=>R=eE p (l.drop k) k)
  (λk=>[(1,.fn g caps),(7,.fz L l.length),(8,.i .i64 (l.length:Int)),(9,.i .i64 (k:Int))])
  (λk=>[]) 0 (bx 0) hR0 ?_ ?_ (λk hk ho=> ?_)
 ·simp only [go_sem,AV.aj,hLb,hcb,simprocAttr]
 ·simp only [go_sem,simprocAttr]
 by_cases hlt:k<l.length
 ·have c1:decide ((k:Int)<(l.length:Int))=true:=af (by omega)
  have c2:decide (0<=(k:Int)/\(k:Int)<(l.length:Int))=true:=af (by omega)
  obtain ⟨x,hx⟩: ∃x,l[k]? =some x:=⟨_,bj hlt⟩;have hr:=hL k x hx;have hw:IntKind.i64.wrap ((k:Int)+1)=((k+1:Nat):Int):=by grind [aN]
  have ha:=hat k x hx;rw [nc hx] at ho;obtain ⟨nm,es⟩:=x;simp only [Mb.l] at hr ha;cases hp:p k ⟨nm,es⟩
  ·rw [hp] at ha ho;simp only [go_sem,c1,c2,hr,ha,simprocAttr];exact Ends.aw rfl (by rw [ho];rfl)
  ·rw [hp] at ha ho;simp only [go_sem,c1,c2,hr,ha,hw,hlt,AV.aj,hLb,hcb,simprocAttr];rw [ho];rfl
 ·have c1:decide ((k:Int)<(l.length:Int))=false:=bw (by omega)
  obtain rfl:k=l.length:=by omega
  rw [rZ] at ho;simp only [go_sem,simprocAttr];exact Ends.aw rfl (by rw [ho];rfl)
def ij (ms:List Mb):Bool:=decide (ms.length<=6)&&eE (xm ms) ms 0
def Jn:Ct
 |[.fz L m,.fn 145 [.fp [.fp c 0] 0]],_,n=>(bc 2 Tk m L).bind λl=>(qX c).bind λr=>some (decide (m<=9223372036854775807)&&decide (r.ms.length<=9223372036854775807),{v:= .b (eE (xm r.ms) l 0),n})
 |_,_,_=>none
theorem ajo:ax ay 144 Jn:=λargs h n c E hc ht=>by
 unfold Jn at hc;split at hc
 ·simp only [av] at hc;obtain ⟨l,hl,r,hr,he⟩:=hc;cases he;simp only [ak,bg] at ht;obtain ⟨rfl,rfl⟩:=bu Bi hl;rw [dW hr];exact aA.pure (by kernel_rfl) (by simp only [ab,AV.aj,fT,Rm.aj,aG]) rfl (ajh (by kernel_rfl) (by simp only [ab,AV.aj,Rm.aj,aG]) l ht.1 (λk a _=>agH r k a ht.2)) _ _
 ·cases hc
def T80:List (Nat×Ct):=[(144,cu Jn)]
theorem afY:Sound ay (cj T80):=Sound.cons ajo.nv Sound.nil
theorem w80 (r:Rm) (hl:r.ms.length<=9223372036854775807):bG ay 80 [.fp r.a 0] [] 0 (.b (ij r.ms)) [] 0:=by
 have hrb: ∀j,ab j r.a=true:=λj=>Rm.aj j r;have hk: ∀(h:Hp) n b,aa h b=some {cells:=[.fp r.a 0]}->cu Jn [.fz (rows Mb.l r.ms) r.ms.length,.fn 145 [.p b 0]] h n=some (true,{v:= .b (eE (xm r.ms) r.ms 0),n,rd:=[b]}):=λh n b hb=>by
  simp only [cu,bn,bI,kC,jH,vA (hrb 0),ef (fT 0 r.ms),hb,aC,eo,Jn,Fb,dH,af hl];rfl
 have hR:ij r.ms=(decide (r.ms.length<=6)&&eE (xm r.ms) r.ms 0):=rfl;generalize ij r.ms=R at hR ⊢;generalize eE (xm r.ms) r.ms 0=A at*;obtain ⟨ms,sh,tp⟩:=r;simp only [Rm.a] at*;have n1:decide ((ms.length:Int)<=6)=decide (ms.length<=6):=by grind
 refine ew afY Tryz.func80 Xq ?_
 dsimp only [i80,T80];cases c1:decide (ms.length<=6)
 ·rw [c1] at hR;simp only [go_sem,n1,c1,simprocAttr];exact Ends.aw rfl (by rw [hR];rfl)
 ·rw [c1] at hR;simp only [go_sem,n1,c1,hk,simprocAttr];exact Ends.aw rfl (by rw [hR];rfl)
def k80:Ct
 |[.fp c 0],_,n=>(qX c).bind λr=>some (decide (r.ms.length<=9223372036854775807),{v:= .b (ij r.ms),n})
 |_,_,_=>none
theorem s80:ax ay 80 k80:=λargs h n c E hc ht=>by
 unfold k80 at hc;split at hc
 ·simp only [av] at hc;obtain ⟨r,hr,he⟩:=hc;cases he;rw [dW hr];exact aA.pure (by kernel_rfl) (by simp only [ab,AV.aj,Rm.aj,aG]) rfl (w80 r (bN ht)) _ _
 ·cases hc
def Ur:List (Nat×Ct):=[(71,iM)]
theorem Tg:Sound ay (cj Ur):=Sound.cons DQ Sound.nil
theorem afJ (k x:Int):bG ay 158 [.i .i64 k,.i .i64 x] [] 0 (.b (bZ 0 4294967295 x)) [] 0:=by
 refine ew Tg Tryz.func158 RX ?_
 dsimp only [i158,Ur];simp only [go_sem,iM,simprocAttr];exact Ends.aw rfl rfl
def yD (rt:List Int) (k:Nat) (x:Int):Bool:=bZ 1 1073741824 x&&(((k:Int)==0)||decide (x>rt.getD (k-1) 0))
theorem aik (s:aW) (k:Nat) (x:Int) (hk:k<s.rt.length) (hl:s.rt.length<=9223372036854775807):bG ay 159 [.i .i64 (k:Int),.i .i64 x,.fp s.l 0] [] 0 (.b (yD s.rt k x)) [] 0:=by
 have hR:yD s.rt k x=(bZ 1 1073741824 x&&(((k:Int)==0)||decide (x>s.rt.getD (k-1) 0))):=rfl;generalize yD s.rt k x=R at hR ⊢;obtain ⟨ow,ss,rt,bl⟩:=s;dsimp only at hk hR hl;refine ew Tg Tryz.func159 Ry ?_
 dsimp only [i159,Ur];simp only [aW.l];cases c1:bZ 1 1073741824 x
 ·rw [c1] at hR;simp only [go_sem,iM,c1,simprocAttr];exact Ends.aw rfl (by rw [hR];rfl)
 cases c2:((k:Int)==0)
 ·rw [c1,c2] at hR;have hk0:k≠0:=λe=>by grind
  have hw:IntKind.i64.wrap ((k:Int)-1)=((k-1:Nat):Int):=by grind [aN]
  have c3:decide (0<=((k-1:Nat):Int)/\((k-1:Nat):Int)<(rt.length:Int))=true:=af (by omega)
  have hr:(rows aq rt)[k-1]? =some (.i .i64 (rt.getD (k-1) 0)):=by
   have hg:rt[k-1]? =some (rt.getD (k-1) 0):=by grind
   have:=bM (f:=aq) (z:=1) (j:=0) (v:= .i .i64 (rt.getD (k-1) 0)) bR hg rfl
   grind
  generalize rt.getD (k-1) 0=y at*;simp only [go_sem,iM,c1,c2,hw,c3,hr,di,simprocAttr];exact Ends.aw rfl (by rw [hR];rfl)
 ·rw [c1,c2] at hR;simp only [go_sem,iM,c1,c2,simprocAttr];exact Ends.aw rfl (by rw [hR];rfl)
/-! all, over numbers -/
theorem acW {g:FuncId} {caps:List AV} {p:Nat->Int->Bool} (hg:bH ay g=true) (hcaps:ab 0 caps=true) (l:List Int) (hl:l.length<=9223372036854775807)
 (hF: ∀(k:Nat) (a:Int),l[k]? =some a->bG ay g (.i .i64 (k:Int):: .i .i64 a::caps) [] 0 (.b (p k a)) [] 0):bG ay 157 [.fz (rows aq l) l.length,.fn g caps] [] 0 (.b (eE p l 0)) [] 0:=by
 have hs:=qQ (el:=λa:Int=> .i .i64 a) hg (λa=>rfl) hcaps hF;have hat:=λ(k:Nat) (a:Int) (ha:l[k]? =some a) (h:Hp) (n:Nat)=>Al (g:=g) (caps:=caps) (el:=λa:Int=> .i .i64 a) (p:=p) ha h n;generalize Tz g caps (λa:Int=>AV.i .i64 a) p l=kq at hs hat;have hcx:Sound ay (cj [(g,kq)]):=Sound.cons hs Sound.nil;refine ew (cx:=cj [(g,kq)]) hcx Tryz.func157 BJ ?_
 dsimp only [i157];have hR0:eE p l 0=eE p (l.drop 0) 0:=rfl;generalize eE p l 0=R at hR0 ⊢;have hLb: ∀j,ab j (rows aq l)=true:=λj=>iB j l;have hL: ∀(k:Nat) x,l[k]? =some x->(rows aq l)[k]? =some (.i .i64 x):=λk x hk=>by
  have:=bM (f:=aq) (z:=1) (j:=0) (v:= .i .i64 x) bR hk rfl
  grind
 generalize rows aq l=L at hL hLb ⊢;have hcb: ∀j,ab j caps=true:=λj=>au _ hcaps;simp only [go_sem,simprocAttr];refine Loop.dV (F:=⟨ay,cj [(g,kq)],[10,18],20,0⟩) hcx mo l.length (λk=>R=eE p (l.drop k) k)
  (λk=>[(1,.fn g caps),(7,.fz L l.length),(8,.i .i64 (l.length:Int)),(9,.i .i64 (k:Int))])
  (λk=>[]) 0 (bx 0) hR0 ?_ ?_ (λk hk ho=> ?_)
 ·simp only [go_sem,AV.aj,hLb,hcb,simprocAttr]
 ·simp only [go_sem,simprocAttr]
 by_cases hlt:k<l.length
 ·have c1:decide ((k:Int)<(l.length:Int))=true:=af (by omega)
  have c2:decide (0<=(k:Int)/\(k:Int)<(l.length:Int))=true:=af (by omega)
  obtain ⟨x,hx⟩: ∃x,l[k]? =some x:=⟨_,bj hlt⟩;have hr:=hL k x hx;have hw:IntKind.i64.wrap ((k:Int)+1)=((k+1:Nat):Int):=by grind [aN]
  have ha:=hat k x hx;rw [nc hx] at ho;cases hp:p k x
  ·rw [hp] at ha ho;simp only [go_sem,c1,c2,hr,ha,di,simprocAttr];exact Ends.aw rfl (by rw [ho];rfl)
  ·rw [hp] at ha ho;simp only [go_sem,c1,c2,hr,ha,hw,hlt,AV.aj,hLb,hcb,di,simprocAttr];rw [ho];rfl
 ·have c1:decide ((k:Int)<(l.length:Int))=false:=bw (by omega)
  obtain rfl:k=l.length:=by omega
  rw [rZ] at ho;simp only [go_sem,simprocAttr];exact Ends.aw rfl (by rw [ho];rfl)
def EP:Ct
 |[.fz L m,.fn 158 []],_,n=>(bc 1 dG m L).bind λl=>some (decide (m<=9223372036854775807),{v:= .b (l.all (bZ 0 4294967295)),n})
 |[.fz L m,.fn 159 [.fp c 0]],_,n=>(bc 1 dG m L).bind λl=>(xp c).bind λs=>some (decide (m<=9223372036854775807)&&decide (s.rt=l),{v:= .b (eE (yD s.rt) l 0),n})
 |_,_,_=>none
theorem agT:ax ay 157 EP:=λargs h n c E hc ht=>by
 unfold EP at hc;split at hc
 ·simp only [av] at hc;obtain ⟨l,hl,he⟩:=hc;cases he;obtain ⟨rfl,rfl⟩:=bu df hl;have:=acW (g:=158) (caps:=[]) (p:=λ_ x=>bZ 0 4294967295 x) (by kernel_rfl) rfl l (bN ht) (λk a _=>afJ _ _)
  rw [EJ] at this;exact aA.pure (by kernel_rfl) (by simp only [ab,AV.aj,iB,aG]) rfl this _ _
 ·simp only [av] at hc;obtain ⟨l,hl,s,hs,he⟩:=hc;cases he;simp only [ak,bg] at ht;obtain ⟨hm,hsl⟩:=ht;subst hsl;obtain ⟨rfl,hlm⟩:=bu df hl;subst hlm;rw [qD _ _ hs];exact aA.pure (by kernel_rfl) (by simp only [ab,AV.aj,iB,aW.aj,aG]) rfl (acW (by kernel_rfl) (by simp only [ab,AV.aj,aW.aj,aG]) s.rt hm (λk a ha=>aik s k a (cv.1 ha).1 hm)) _ _
 ·cases hc
def cC (n:Nat) (s:aW):Bool:=
 bZ 0 ((n:Int)-1) s.ow&&(bZ 1 3 (s.ss.length:Int)&&(((s.rt.length:Int)==(s.ss.length:Int))&&((s.bl/2^n==0)&&(!(s.bl/2^s.ow.toNat % 2==1)&&(s.ss.all (bZ 0 4294967295)&&eE (yD s.rt) s.rt 0)))))
def T91:List (Nat×Ct):=[(71,iM),(157,cu EP)]
theorem aiY:Sound ay (cj T91):=Sound.cons DQ (Sound.cons agT.nv Sound.nil)
theorem w91 (r:Rm) (s:aW) (hn:r.ms.length<=6) (hb:0<=s.bl/\s.bl<=18446744073709551615) (hl:s.ss.length<=9223372036854775807) (hl2:s.rt.length<=9223372036854775807):bG ay 91 [.fp r.a 0,.agg s.l] [] 0 (.b (cC r.ms.length s)) [] 0:=by
 have hR:cC r.ms.length s=(bZ 0 ((r.ms.length:Int)-1) s.ow&&(bZ 1 3 (s.ss.length:Int)&&(((s.rt.length:Int)==(s.ss.length:Int))&&((s.bl/2^r.ms.length==0)&&(!(s.bl/2^s.ow.toNat % 2==1)&&(s.ss.all (bZ 0 4294967295)&&eE (yD s.rt) s.rt 0)))))):=rfl;generalize cC r.ms.length s=R at hR ⊢;obtain ⟨ms,sh,tp⟩:=r;have hsb:=s.aj;have hs4:=ku s;have hk1: ∀(h:Hp) n,cu EP [.fz (rows aq s.ss) s.ss.length,.fn 158 []] h n=some (true,{v:= .b (s.ss.all (bZ 0 4294967295)),n,rd:=[]}):=λh n=>by
  simp only [cu,bn,bI,kC,ef (iB 0 s.ss),aC,EP,eD,af hl];rfl
 have hk2: ∀(h:Hp) n b,aa h b=some {cells:=s.l}->cu EP [.fz (rows aq s.rt) s.rt.length,.fn 159 [.p b 0]] h n=some (true,{v:= .b (eE (yD s.rt) s.rt 0),n,rd:=[b]}):=λh n b hb=>by
  have hss:lV (Go.Ab.nv h 4) s.l=some ([],s.l):=by
   simp [aW.l,bn,bI,kN,ef,iB,aC]
  simp only [cu,bn,bI,kC,jH,hss,ef (iB 0 s.rt),hb,aC,eo,EP,eD,hs4,af hl2,qj,aG];rfl
 generalize s.ss.all (bZ 0 4294967295)=A1 at*;generalize eE (yD s.rt) s.rt 0=A2 at*;obtain ⟨ow,ss,rt,bl⟩:=s;simp only [Rm.a,aW.l] at*;refine ew aiY Tryz.func91 XN ?_
 dsimp only [i91,T91];have hw:IntKind.i64.wrap ((ms.length:Int)-1)=(ms.length:Int)-1:=aN (by omega) (by omega)
 have e1:=Ag bl (ms.length:Int) (by omega)
 rw [j3] at e1;have e0:decide (0<=(ms.length:Int))=true:=af (by omega)
 cases c1:bZ 0 ((ms.length:Int)-1) ow
 ·rw [c1] at hR;simp only [go_sem,iM,hw,c1,simprocAttr];exact Ends.aw rfl (by rw [hR];rfl)
 have how:=bD c1;have e2:=Ag bl ow (by omega)
 have e3:=K5 _ (GR bl ow.toNat hb);have e4:decide (0<=ow)=true:=af (by omega)
 cases c2:bZ 1 3 (ss.length:Int)
 ·rw [c1,c2] at hR;simp only [go_sem,iM,hw,c1,c2,simprocAttr];exact Ends.aw rfl (by rw [hR];rfl)
 have n3:((rt.length:Int) !=(ss.length:Int))= !((rt.length:Int)==(ss.length:Int)):=rfl;cases c3:((rt.length:Int)==(ss.length:Int))
 ·rw [c1,c2,c3] at hR;simp only [go_sem,iM,hw,c1,c2,n3,c3,simprocAttr];exact Ends.aw rfl (by rw [hR];rfl)
 have n4:(bl/2^ms.length !=0)= !(bl/2^ms.length==0):=rfl;cases c4:(bl/2^ms.length==0)
 ·rw [c1,c2,c3,c4] at hR;simp only [go_sem,iM,hw,c1,c2,n3,c3,n4,c4,e0,e1,simprocAttr];exact Ends.aw rfl (by rw [hR];rfl)
 cases c5:(bl/2^ow.toNat % 2==1);rotate_left
 ·rw [c1,c2,c3,c4,c5] at hR;simp only [go_sem,iM,hw,c1,c2,n3,c3,n4,c4,e0,e1,e2,e3,e4,c5,simprocAttr];exact Ends.aw rfl (by rw [hR];rfl)
 rw [c1,c2,c3,c4,c5] at hR;cases A1
 ·simp only [go_sem,iM,hw,c1,c2,n3,c3,n4,c4,e0,e1,e2,e3,e4,c5,hk1,simprocAttr];exact Ends.aw rfl (by rw [hR];rfl)
 ·simp only [go_sem,iM,hw,c1,c2,n3,c3,n4,c4,e0,e1,e2,e3,e4,c5,hk1,hk2,simprocAttr];exact Ends.aw rfl (by rw [hR];rfl)
def aW.ok (s:aW):Bool:=bZ 0 18446744073709551615 s.bl&&(decide (s.ss.length<=9223372036854775807)&&decide (s.rt.length<=9223372036854775807))
def Fm:Ct
 |[.fp c 0,.agg d],_,n=>(qX c).bind λr=>(xp d).bind λs=>some (decide (r.ms.length<=6)&&s.ok,{v:= .b (cC r.ms.length s),n})
 |_,_,_=>none
theorem s91:ax ay 91 Fm:=λargs h n c E hc ht=>by
 unfold Fm at hc;split at hc
 ·simp only [av] at hc;obtain ⟨r,hr,s,hs,he⟩:=hc;cases he;rw [dW hr,qD _ _ hs];simp only [aW.ok,ak,bg] at ht;exact aA.pure (by kernel_rfl) (by simp only [ab,AV.aj,Rm.aj,aW.aj,aG]) rfl (w91 r s ht.1 (bD ht.2.1) ht.2.2.1 ht.2.2.2) _ _
 ·cases hc
def aba:List (Nat×Ct):=[(91,Fm)]
theorem abq:Sound ay (cj aba):=Sound.cons s91 Sound.nil
theorem agk (r:Rm) (k:Int) (s:aW) (hn:r.ms.length<=6) (hs:s.ok=true):bG ay 147 [.i .i64 k,.agg s.l,.fp [.fp r.a 0] 0] [] 0 (.b (cC r.ms.length s)) [] 0:=by
 have hrb: ∀j,ab j r.a=true:=λj=>Rm.aj j r;have hk: ∀(h:Hp) n,Fm [.fp r.a 0,.agg s.l] h n=some (true,{v:= .b (cC r.ms.length s),n}):=λh n=>by
  grind [Fm,dH,ku,aC,af,aG]
 generalize cC r.ms.length s=R at*;generalize r.a=RA at*;obtain ⟨ow,ss,rt,bl⟩:=s;simp only [aW.l] at*;refine ew abq Tryz.func147 S3 ?_
 dsimp only [i147,aba];simp only [go_sem,hk,simprocAttr];exact Ends.aw rfl rfl
theorem agb {g:FuncId} {caps:List AV} {p:Nat->aW->Bool} (hg:bH ay g=true) (hcaps:ab 0 caps=true) (l:List aW) (hl:l.length<=9223372036854775807)
 (hF: ∀(k:Nat) (a:aW),l[k]? =some a->bG ay g (.i .i64 (k:Int):: .agg a.l::caps) [] 0 (.b (p k a)) [] 0):bG ay 146 [.fz (rows aW.l l) l.length,.fn g caps] [] 0 (.b (eE p l 0)) [] 0:=by
 have hs:=qQ (el:=λa:aW=> .agg a.l) hg (λa=>aW.aj a) hcaps hF;have hat:=λ(k:Nat) (a:aW) (ha:l[k]? =some a) (h:Hp) (n:Nat)=>Al (g:=g) (caps:=caps) (el:=λa:aW=> .agg a.l) (p:=p) ha h n;generalize Tz g caps (λa:aW=>AV.agg a.l) p l=kq at hs hat;have hcx:Sound ay (cj [(g,kq)]):=Sound.cons hs Sound.nil;refine ew (cx:=cj [(g,kq)]) hcx Tryz.func146 OV ?_
 dsimp only [i146];have hR0:eE p l 0=eE p (l.drop 0) 0:=rfl;generalize eE p l 0=R at hR0 ⊢;have hLb: ∀j,ab j (rows aW.l l)=true:=λj=>cG j l;have hL: ∀(k:Nat) x,l[k]? =some x->List.take 4 (List.drop (k*4) (rows aW.l l))=x.l:=λk x hk=>dm aW.len hk;generalize rows aW.l l=L at hL hLb ⊢;have hcb: ∀j,ab j caps=true:=λj=>au _ hcaps;simp only [go_sem,simprocAttr];refine Loop.dV (F:=⟨ay,cj [(g,kq)],[10,18],20,0⟩) hcx mo l.length (λk=>R=eE p (l.drop k) k)
  (λk=>[(1,.fn g caps),(7,.fz L l.length),(8,.i .i64 (l.length:Int)),(9,.i .i64 (k:Int))])
  (λk=>[]) 0 (bx 0) hR0 ?_ ?_ (λk hk ho=> ?_)
 ·simp only [go_sem,AV.aj,hLb,hcb,simprocAttr]
 ·simp only [go_sem,simprocAttr]
 by_cases hlt:k<l.length
 ·have c1:decide ((k:Int)<(l.length:Int))=true:=af (by omega)
  have c2:decide (0<=(k:Int)/\(k:Int)<(l.length:Int))=true:=af (by omega)
  obtain ⟨x,hx⟩: ∃x,l[k]? =some x:=⟨_,bj hlt⟩;have hr:=hL k x hx;have hw:IntKind.i64.wrap ((k:Int)+1)=((k+1:Nat):Int):=by grind [aN]
  have ha:=hat k x hx;rw [nc hx] at ho;have x9:x.l.length=4:=rfl;have xo:aL x.l=true:=rfl;have xd:List.take 4 (List.drop 0 x.l)=x.l:=rfl;have xb: ∀j,ab j x.l=true:=λj=>au _ (aW.aj x);generalize x.l=XL at hr ha x9 xo xd xb;cases hp:p k x
  ·rw [hp] at ha ho;simp only [go_sem,c1,c2,hr,ha,x9,xo,xd,simprocAttr];exact Ends.aw rfl (by rw [ho];rfl)
  ·rw [hp] at ha ho;simp only [go_sem,c1,c2,hr,ha,x9,xo,xd,hw,hlt,AV.aj,hLb,hcb,simprocAttr];rw [ho];rfl
 ·have c1:decide ((k:Int)<(l.length:Int))=false:=bw (by omega)
  obtain rfl:k=l.length:=by omega
  rw [rZ] at ho;simp only [go_sem,simprocAttr];exact Ends.aw rfl (by rw [ho];rfl)
theorem agp {g:FuncId} {caps:List AV} {p:Nat->Tp->Bool} (hg:bH ay g=true) (hcaps:ab 0 caps=true) (l:List Tp) (hl:l.length<=9223372036854775807)
 (hF: ∀(k:Nat) (a:Tp),l[k]? =some a->bG ay g (.i .i64 (k:Int):: .agg a.l::caps) [] 0 (.b (p k a)) [] 0):bG ay 148 [.fz (rows Tp.l l) l.length,.fn g caps] [] 0 (.b (eE p l 0)) [] 0:=by
 have hs:=qQ (el:=λa:Tp=> .agg a.l) hg (λa=>Tp.aj a) hcaps hF;have hat:=λ(k:Nat) (a:Tp) (ha:l[k]? =some a) (h:Hp) (n:Nat)=>Al (g:=g) (caps:=caps) (el:=λa:Tp=> .agg a.l) (p:=p) ha h n;generalize Tz g caps (λa:Tp=>AV.agg a.l) p l=kq at hs hat;have hcx:Sound ay (cj [(g,kq)]):=Sound.cons hs Sound.nil;refine ew (cx:=cj [(g,kq)]) hcx Tryz.func148 Ny ?_
 dsimp only [i148];have hR0:eE p l 0=eE p (l.drop 0) 0:=rfl;generalize eE p l 0=R at hR0 ⊢;have hLb: ∀j,ab j (rows Tp.l l)=true:=λj=>fb j l;have hL: ∀(k:Nat) x,l[k]? =some x->List.take 22 (List.drop (k*22) (rows Tp.l l))=x.l:=λk x hk=>dm Tp.len hk;generalize rows Tp.l l=L at hL hLb ⊢;have hcb: ∀j,ab j caps=true:=λj=>au _ hcaps;simp only [go_sem,simprocAttr];refine Loop.dV (F:=⟨ay,cj [(g,kq)],[10,18],20,0⟩) hcx mo l.length (λk=>R=eE p (l.drop k) k)
  (λk=>[(1,.fn g caps),(7,.fz L l.length),(8,.i .i64 (l.length:Int)),(9,.i .i64 (k:Int))])
  (λk=>[]) 0 (bx 0) hR0 ?_ ?_ (λk hk ho=> ?_)
 ·simp only [go_sem,AV.aj,hLb,hcb,simprocAttr]
 ·simp only [go_sem,simprocAttr]
 by_cases hlt:k<l.length
 ·have c1:decide ((k:Int)<(l.length:Int))=true:=af (by omega)
  have c2:decide (0<=(k:Int)/\(k:Int)<(l.length:Int))=true:=af (by omega)
  obtain ⟨x,hx⟩: ∃x,l[k]? =some x:=⟨_,bj hlt⟩;have hr:=hL k x hx;have hw:IntKind.i64.wrap ((k:Int)+1)=((k+1:Nat):Int):=by grind [aN]
  have ha:=hat k x hx;rw [nc hx] at ho;have x9:x.l.length=22:=rfl;have xo:aL x.l=true:=rfl;have xd:List.take 22 (List.drop 0 x.l)=x.l:=rfl;have xb: ∀j,ab j x.l=true:=λj=>au _ (Tp.aj x);generalize x.l=XL at hr ha x9 xo xd xb;cases hp:p k x
  ·rw [hp] at ha ho;simp only [go_sem,c1,c2,hr,ha,x9,xo,xd,simprocAttr];exact Ends.aw rfl (by rw [ho];rfl)
  ·rw [hp] at ha ho;simp only [go_sem,c1,c2,hr,ha,x9,xo,xd,hw,hlt,AV.aj,hLb,hcb,simprocAttr];rw [ho];rfl
 ·have c1:decide ((k:Int)<(l.length:Int))=false:=bw (by omega)
  obtain rfl:k=l.length:=by omega
  rw [rZ] at ho;simp only [go_sem,simprocAttr];exact Ends.aw rfl (by rw [ho];rfl)
def Ba:Ct
 |[.fz L m,.fn 147 [.fp [.fp c 0] 0]],_,n=>(bc 4 xp m L).bind λl=>(qX c).bind λr=>some (decide (m<=9223372036854775807)&&(decide (r.ms.length<=6)&&l.all aW.ok),{v:= .b (l.all (cC r.ms.length)),n})
 |_,_,_=>none
theorem ags:ax ay 146 Ba:=λargs h n c E hc ht=>by
 unfold Ba at hc;split at hc
 ·simp only [av] at hc;obtain ⟨l,hl,r,hr,he⟩:=hc;cases he;simp only [ak,bg] at ht;obtain ⟨rfl,rfl⟩:=bu qD hl;rw [dW hr];have:=agb (g:=147) (caps:=[.fp [.fp r.a 0] 0]) (p:=λ_ s=>cC r.ms.length s) (by kernel_rfl) (by simp only [ab,AV.aj,Rm.aj,aG]) l ht.1 (λk a ha=>agk r k a ht.2.1 (du.1 ht.2.2 a (bJ ha)))
  rw [EJ] at this;exact aA.pure (by kernel_rfl) (by simp only [ab,AV.aj,cG,Rm.aj,aG]) rfl this _ _
 ·cases hc
/-! no number twice -/
def uD (k:Nat):List AV:=List.replicate k (.b true)
theorem tD (j k:Nat):ab j (uD k)=true:=by
 unfold uD;induction k with
 |zero=>rfl
 |succ k ih=>simp only [GO,ab,AV.aj,ih,aG]
theorem GI (ψ:Nat->Nat) (k:Nat):aS ψ (uD k)=uD k:=aJ _ (tD 0 k)
theorem TO (l:List Int) (q:Int):(bL.i l).find (.i .i64 q)=some (l.findIdx? (q== ·)):=rfl
theorem Um {l:List Int} {x:Int} (h:l.contains x=false):l.findIdx? (x== ·)=none:=by
 grind
theorem T1 {l:List Int} {x:Int} (h:l.contains x=true): ∃i,l.findIdx? (x== ·)=some i/\i<l.length:=by
 cases hf:l.findIdx? (x== ·) with
 |none=>
  rw [List.findIdx?_eq_none_iff] at hf;simp only [List.contains_eq_mem,bg] at h;have:=hf x h;simp at this
 |some i=>
  obtain ⟨hi,_⟩:=AQ.1 hf;exact ⟨i,rfl,hi⟩
theorem wS (k:Nat):(uD k).length=k:=by simp [uD]
theorem Bt {i k:Nat} (h:i<k):(uD k)[i]? =some (.b true):=by simp [uD,h]
theorem GG {i k:Nat}:(uD k).set i (.b true)=uD k:=by
 apply nk;intro j;rw [Aa,wS];by_cases hij:i=j
 ·subst hij;by_cases hi:i<k
  ·simp_all [Bt]
  simp_all [aY,wS]
 grind
abbrev sj (K:List Int):bp:={cells:=uD K.length,mp:=some (.i K)}
def uj (K:List Int) (x:Int):List Int:=bif K.contains x then K else K++[x]
theorem aio (K:List Int) (k x:Int):bG ay 160 [.i .i64 k,.i .i64 x,.p 0 0] [(0,{cells:=[.m 1]}),(1,sj K)] 2 (.b (!K.contains x)) [(0,{cells:=[.m 1]}),(1,sj (uj K x))] 2:=by
 have hf:=TO K x;have hl:=wS K.length;have hb:=tD;cases hx:K.contains x
 ·rw [Um hx] at hf;have hs:uD K.length++[.b true]=uD (uj K x).length:=by unfold uD uj;rw [hx,cond_false,cm,uU,List.replicate_succ']
  have hK:K++[x]=uj K x:=by grind [uj]
  have hb2:=hb 2 (uj K x).length;simp only [sj];generalize uD (uj K x).length=C2 at*;generalize uj K x=K2 at*;generalize uD K.length=C at*;refine ew Sound.nil Tryz.func160 G3 ?_
  dsimp only [i160];simp only [go_sem,hf,hl,hs,hK,simprocAttr];refine Ends.B7 rfl rfl ?_;exact ⟨rfl,rfl,by decide,rfl,hb2,by decide,trivial⟩
 ·obtain ⟨i,hi,hil⟩:=T1 hx;rw [hi] at hf;have hg:=Bt hil;have hs:=GG (i:=i) (k:=K.length);have hK:uj K x=K:=by grind [uj]
  rw [hK];have hb2:=hb 2 K.length;simp only [sj];generalize uD K.length=C at*;refine ew Sound.nil Tryz.func160 G3 ?_
  dsimp only [i160];simp only [go_sem,hf,hl,hg,hs,simprocAttr];refine Ends.B7 rfl rfl ?_;exact ⟨rfl,rfl,by decide,rfl,hb2,by decide,trivial⟩
def B8:List AV->Nat->Bool
 |[],0=>true
 | .b true::r,n+1=>B8 r n
 |_,_=>false
theorem Cn: ∀{l:List AV} {n:Nat},B8 l n=true->l=uD n
 |[],0,_=>rfl
 | .b true::r,n+1,h=>by
  have:=Cn (l:=r) (n:=n) h;rw [this];rfl
theorem G5: ∀n,B8 (uD n) n=true
 |0=>rfl
 |n+1=>G5 n
def yT:bp->Option Nat
 |⟨[.m c],false,none,none,none⟩=>some c
 |_=>none
theorem Be {k:bp} {c:Nat} (h:yT k=some c):k={cells:=[.m c]}:=by
 unfold yT at h
 grind
def Eg:bp->Option (List Int)
 |⟨C,false,none,none,some (.i K)⟩=>bif B8 C K.length then some K else none
 |_=>none
theorem Bl {k:bp} {K:List Int} (h:Eg k=some K):k=sj K:=by
 unfold Eg at h
 grind [B8,Cn]
theorem yB (K:List Int):Eg (sj K)=some K:=by simp only [Eg,G5,cond_true]
theorem nbt {a b:Nat} (h:(!(Nat.beq a b))=true):Nat.beq a b=false:=by simpa using h
theorem nbs {a b:Nat} (h:Nat.beq a b=false):Nat.beq b a=false:=by
 grind [Nat.beq,ee,Nat.beq_refl]
theorem RY (ψ:Nat->Nat) (K:List Int):(sj K).aQ ψ=sj K:=by simp only [bp.aQ,GI]
def E5:Ct
 |[.i .i64 k,.i .i64 x,.p a 0],h,n=>(aa h a).bind λka=>(yT ka).bind λc=>(aa h c).bind λkc=>(Eg kc).bind λK=>
  some (!(Nat.beq a c),{v:= .b (!K.contains x),n,rd:=[a,c],md:=[(a,some {cells:=[.m c]}),(c,some (sj (uj K x)))]})
 |_,_,_=>none
theorem ahi:ax ay 160 E5:=λargs h n c E hc ht=>by
 unfold E5 at hc;split at hc
 ·rename_i k x a;simp only [av] at hc;obtain ⟨ka,hka,c,hcc,kc,hkc,K,hK,he⟩:=hc;cases he;rw [Be hcc] at hka;rw [Bl hK] at hkc;have hac:=nbt ht;have hb:=tD;refine (aA.canon (n:=n) (pn:=none) [a,c] [{cells:=[.m 1]},sj K] (by kernel_rfl) (by simp [nodup,inl,nbs hac]) rfl (argsL:=[.i .i64 k,.i .i64 x,.p 0 0]) ⟨⟨?_,rfl⟩,⟨?_,hb 2 _⟩,trivial⟩ (aio K k x) (bx 2) ?_).cast rfl ?_
  ·rw [hka];rfl
  ·grind [bp.aQ,GI]
  ·simp only [l5,hb,ab,AV.aj,jW];rfl
  ·show ({v:= .b (!K.contains x),n:=n,rd:=[a,c],md:=[(a,some {cells:=[.m c]}),(c,some ((sj (uj K x)).aQ (jA [a,c] n)))],nw:=[],pn:=none}:bV)=_;rw [RY]
 ·cases hc
def eQ (l:List Int):Bool:=eE (λk x=> !(l.take k).contains x) l 0
theorem aco (l:List Int) (hl:l.length<=9223372036854775807):bG ay 157 [.sg 0 0 l.length,.fn 160 [.p 1 0]] [(0,{cells:=rows aq l,gr:=some 1}),(1,{cells:=[.m 2]}),(2,sj [])] 3 (.b (eQ l)) [(0,{cells:=rows aq l,gr:=some 1})] 3:=by
 have hcx:Sound ay (cj [(160,E5)]):=Sound.cons ahi Sound.nil;refine ew (cx:=cj [(160,E5)]) hcx Tryz.func157 BJ ?_
 dsimp only [i157];have hR0:eQ l=eE (λk x=> !(l.take k).contains x) (l.drop 0) 0:=rfl;generalize eQ l=R at hR0 ⊢;have hLb: ∀j,ab j (rows aq l)=true:=λj=>iB j l;have hL: ∀(k:Nat) x,l[k]? =some x->(rows aq l)[k]? =some (.i .i64 x):=λk x hk=>by
  have:=bM (f:=aq) (z:=1) (j:=0) (v:= .i .i64 x) bR hk rfl
  grind
 have zR:(rows aq l).length=l.length:=by simp [aU,bR]
 generalize rows aq l=L at hL hLb zR ⊢;have hb:=tD;simp only [go_sem,simprocAttr];refine Loop.dV (F:=⟨ay,cj [(160,E5)],[10,18],20,3⟩) hcx mo l.length (λk=>R=eE (λk x=> !(l.take k).contains x) (l.drop k) k)
  (λk=>[(1,.fn 160 [.p 1 0]),(7,.sg 0 0 l.length),(8,.i .i64 (l.length:Int)),(9,.i .i64 (k:Int))])
  (λk=>[(2,sj (l.take k)),(1,{cells:=[.m 2]}),(0,{cells:=L,gr:=some 1})]) 3 (bx 3) hR0 ?_ ?_ (λk hk ho=> ?_)
 ·simp only [go_sem,AV.aj,ab,aP,simprocAttr]
 ·simp only [go_sem,AV.aj,ab,aP,hLb,hb,oD,simprocAttr]
 by_cases hlt:k<l.length
 ·have c1:decide ((k:Int)<(l.length:Int))=true:=af (by omega)
  have c2:decide (0<=(k:Int)/\(k:Int)<(l.length:Int))=true:=af (by omega)
  obtain ⟨x,hx⟩: ∃x,l[k]? =some x:=⟨_,bj hlt⟩;have hr:=hL k x hx;have hw:IntKind.i64.wrap ((k:Int)+1)=((k+1:Nat):Int):=by grind [aN]
  have htk:l.take (k+1)=l.take k++[x]:=by grind [jY]
  rw [htk];rw [nc hx] at ho;have hnx:uj (l.take k) x=bif (l.take k).contains x then l.take k else l.take k++[x]:=rfl
  have hmt:=yB (l.take k);have ha: ∀(h:Hp) n,aa h 1=some {cells:=[.m 2]}->aa h 2=some (sj (l.take k))->E5 [.i .i64 (k:Int),.i .i64 x,.p 1 0] h n=some (true,{v:= .b (!(l.take k).contains x),n,rd:=[1,2],md:=[(1,some {cells:=[.m 2]}),(2,some (sj (uj (l.take k) x)))]}):=λh n h1 h2=>by
   simp only [E5,h1,aC,yT,h2,hmt];rfl
  generalize l.take k=K at*;generalize uj K x=K2 at*;cases hp:K.contains x
  ·rw [hp] at ha ho hnx;simp only [cond_false] at hnx;subst hnx;simp only [sj] at*;have hb2:=λj=>hb j (K++[x]).length;generalize uD (K++[x]).length=C2 at*;simp only [go_sem,c1,c2,hr,ha,hw,hlt,AV.aj,ab,aP,hLb,hb2,di,simprocAttr];rw [ho];rfl
  ·rw [hp] at ha ho hnx;simp only [cond_true] at hnx;subst hnx;simp only [sj] at*;simp only [go_sem,c1,c2,hr,ha,di,simprocAttr];refine Ends.B7 rfl (by rw [ho];rfl) ?_
   exact ⟨rfl,hLb 3,by decide,trivial⟩
 ·have c1:decide ((k:Int)<(l.length:Int))=false:=bw (by omega)
  obtain rfl:k=l.length:=by omega
  rw [rZ] at ho;simp only [go_sem,simprocAttr];refine Ends.B7 rfl (by rw [ho];rfl) ?_
  exact ⟨rfl,hLb 3,by decide,trivial⟩
theorem ady:bG ay 157 [.ns,.fn 160 [.p 0 0]] [(0,{cells:=[.m 1]}),(1,sj [])] 2 (.b true) [] 2:=by
 refine ew (cx:=cj []) Sound.nil Tryz.func157 BJ ?_
 dsimp only [i157];simp only [go_sem,simprocAttr];refine Loop.rounds (F:=⟨ay,cj [],[10,18],20,2⟩) 1 Sound.nil mo ?_;simp only [go_sem,simprocAttr];exact Ends.B7 rfl rfl trivial
def JC:bp->Option (List AV)
 |⟨L,false,some 1,none,none⟩=>some L
 |_=>none
theorem Ol {k:bp} {L:List AV} (h:JC k=some L):k={cells:=L,gr:=some 1}:=by
 unfold JC at h
 grind
def pK:Ct
 |[.sg b 0 m,.fn 160 [.p a 0]],h,n=>(aa h b).bind λkb=>(JC kb).bind λL=>(bc 1 dG m L).bind λl=>(aa h a).bind λka=>(yT ka).bind λc=>(aa h c).bind λkc=>(Eg kc).bind λK=>
  some (decide (K=[])&&decide (m<=9223372036854775807)&&(!(Nat.beq b a)&&(!(Nat.beq b c)&& !(Nat.beq a c))),{v:= .b (eQ l),n,rd:=[b,a,c],md:=[(b,some {cells:=L,gr:=some 1}),(a,none),(c,none)]})
 |[.ns,.fn 160 [.p a 0]],h,n=>(aa h a).bind λka=>(yT ka).bind λc=>(aa h c).bind λkc=>(Eg kc).bind λK=>
  some (decide (K=[])&& !(Nat.beq a c),{v:= .b true,n,rd:=[a,c],md:=[(a,none),(c,none)]})
 |_,_,_=>none
theorem aeI:ax ay 157 pK:=λargs h n c E hc ht=>by
 unfold pK at hc;split at hc
 ·rename_i b m a;simp only [av] at hc;obtain ⟨kb,hkb,L,hL,l,hl,ka,hka,c,hcc,kc,hkc,K,hK,he⟩:=hc;cases he;simp only [ak,bg] at ht;obtain ⟨⟨hK0,hm⟩,d1,d2,d3⟩:=ht;obtain ⟨rfl,rfl⟩:=bu df hl;subst hK0;rw [Ol hL] at hkb;rw [Be hcc] at hka;rw [Bl hK] at hkc;have e1:=nbt d1;have e2:=nbt d2;have e3:=nbt d3;refine (aA.canon (n:=n) (pn:=none) [b,a,c] [{cells:=rows aq l,gr:=some 1},{cells:=[.m 2]},sj []] (by kernel_rfl) (by grind [nodup,inl,nbs]) rfl (argsL:=[.sg 0 0 l.length,.fn 160 [.p 1 0]]) ⟨⟨?_,iB _ l⟩,⟨?_,rfl⟩,⟨?_,rfl⟩,trivial⟩ (aco l hm) (bx 3) ?_).cast rfl ?_
  ·grind [bp.aQ,iR]
  ·rw [hka];rfl
  ·rw [hkc];rfl
  ·simp only [l5,iB,jW];rfl
  ·show ({v:= .b (eQ l),n:=n,rd:=[b,a,c],md:=[(b,some {cells:=aS (jA [b,a,c] n) (rows aq l),gr:=some 1}),(a,none),(c,none)],nw:=[],pn:=none}:bV)=_;rw [iR]
 ·rename_i a;simp only [av] at hc;obtain ⟨ka,hka,c,hcc,kc,hkc,K,hK,he⟩:=hc;cases he;simp only [ak,bg] at ht;obtain ⟨hK0,d3⟩:=ht;subst hK0;rw [Be hcc] at hka;rw [Bl hK] at hkc;have e3:=nbt d3;refine (aA.canon (n:=n) (pn:=none) [a,c] [{cells:=[.m 1]},sj []] (by kernel_rfl) (by simp [nodup,inl,nbs e3]) rfl (argsL:=[.ns,.fn 160 [.p 0 0]]) ⟨⟨?_,rfl⟩,⟨?_,rfl⟩,trivial⟩ ady (bx 2) rfl).cast rfl rfl
  ·rw [hka];rfl
  ·rw [hkc];rfl
 ·cases hc
/-! Clone, with a live result -/
theorem ah5:bG ay 90 [.ns] [] 0 .ns [] 0:=by
 refine ew (cx:=cj []) Sound.nil Tryz.func90 xg ?_
 dsimp only [i90];simp only [go_sem,simprocAttr];exact Ends.aw rfl rfl
theorem ahL (x:Int) (l:List Int) (hl:l.length<=1000):bG ay 90 [.fz (rows aq (x::l)) (l.length+1)] [] 0 (.sg 0 0 (l.length+1)) [(0,{cells:=rows aq (x::l),gr:=some 1})] 1:=
 T5 mo Tryz.func90 (z:=1) (bytes:=8) (zs:=[.i .i64 0]) xg (aU (l:=x::l) bR) (dr (λ_=>rfl) _) (iB 0 _) (by grind [az])
def HD:Ct
 |[.ns],_,n=>some (true,{v:= .ns,n})
 |[.fz L m],_,n=>(bc 1 dG m L).bind λl=>some (decide (0<m)&&decide (m<=1000),{v:= .sg n 0 m,n:=n+1,nw:=[(n,{cells:=L,gr:=some 1})]})
 |_,_,_=>none
theorem ahG:ax ay 90 HD:=λargs h n c E hc ht=>by
 unfold HD at hc;split at hc
 ·cases hc;exact aA.pure (by kernel_rfl) rfl rfl ah5 _ _
 ·simp only [av] at hc;obtain ⟨l,hl,he⟩:=hc;cases he;simp only [ak,bg] at ht;obtain ⟨rfl,rfl⟩:=bu df hl;cases l with
  |nil=>exact absurd ht.1 (by decide)
  |cons x l=>
   have hl:=ht.2;simp only [List.length_cons] at hl;refine (aA.canon (n:=n) (pn:=none) [] [] (by kernel_rfl) rfl (argsL:=[.fz (rows aq (x::l)) (x::l).length]) (by simp only [ab,AV.aj,iB,aG]) trivial (ahL x l (by omega)) (cr _) (by simp only [l5,iB,jW];rfl)).cast ?_ ?_
   ·simp only [aS,AV.aQ,iR]
   ·show ({v:= .sg (jA [] n 0) 0 (x::l).length,n:=n+1,rd:=[],md:=[],nw:=[(jA [] n 0,{cells:=aS (jA [] n) (rows aq (x::l)),gr:=some 1})],pn:=none}:bV)=_;rw [iR];rfl
 ·cases hc
/-! apart -/
def dS (l:List Int) (sh:List aW) (k:Nat):List Int:=l++((sh.take k).map aW.ss).flatten
theorem Bm (l:List Int) (sh:List aW):dS l sh 0=l:=by simp [dS]
theorem AG {l:List Int} {sh:List aW} {k:Nat} {x:aW} (h:sh[k]? =some x):dS l sh (k+1)=dS l sh k++x.ss:=by
 grind [dS,jY,jy]
def vZ (s:aW):Bool:=bZ 1 3 (s.ss.length:Int)
theorem nN {l:List Int} {sh:List aW} (hs:sh.all vZ=true): ∀k,k<=sh.length->(dS l sh k).length<=l.length+3*k
 |0,_=>by rw [Bm];omega
 |k+1,hk=>by
  obtain ⟨x,hx⟩: ∃x,sh[k]? =some x:=⟨_,bj (by omega)⟩
  rw [AG hx,cm];have:=nN (l:=l) hs k (by omega)
  have h2:=bD (du.1 hs x (bJ hx));omega
theorem Is (q:List Int):(gQ aq 1 q).plain=true:=(p7 (f:=aq) gV bR q).pl
def arL (l:List Int):AV:=if l.length=0 then .ns else .fz (rows aq l) l.length
theorem W4 (sh:List aW) (l:List Int) (hl:l.length<=3) (hn:sh.length<=6) (hs:sh.all vZ=true) {K:bX} {e:Env} {h:Hp} {n:Nat}
 (he:jz 3 [] e [(1,(gQ aq 1 l).v 2),(5,.p 1 0),(15,.fz (rows aW.l sh) sh.length),(16,.i .i64 (sh.length:Int)),(17,.i .i64 0)])
 (hh:iW 3 [] h ((gQ aq 1 l).h 2++[(1,{cells:=[.m 0]}),(0,sj [])]))
 (hK: ∀e',bC e' 1=some ((gQ aq 1 (dS l sh sh.length)).v 2)->bC e' 5=some (.p 1 0)->K (.exit 0) e' ((gQ aq 1 (dS l sh sh.length)).h 2++[(1,{cells:=[.m 0]}),(0,sj [])]) 3):
 Ab.Loop ay [18] 29 0 TV K e h n:=by
 have hcl:=nN (l:=l) hs;have hsB: ∀j,ab j (rows aW.l sh)=true:=λj=>cG j sh;have hsR: ∀g,aS g (rows aW.l sh)=rows aW.l sh:=λg=>dT g sh;have hSat: ∀(k:Nat) x,sh[k]? =some x->List.take 4 (List.drop (k*4) (rows aW.l sh))=x.l:=λk x hk=>dm aW.len hk;rw [<-Bm l sh] at he hh;refine Loop.nM (F:=⟨ay,cj [],[18],29,0⟩) Sound.nil mo (X:=Nat) (λk=>k<=sh.length) (λk=>sh.length-k)
  (λk=>[(1,(gQ aq 1 (dS l sh k)).v 2),(5,.p 1 0),(15,.fz (rows aW.l sh) sh.length),(16,.i .i64 (sh.length:Int)),(17,.i .i64 (k:Int))])
  (λk=>(gQ aq 1 (dS l sh k)).h 2++[(1,{cells:=[.m 0]}),(0,sj [])]) 3 0 (λk=>k+1) [] (λ_=>[(2,4)]) (by decide) (by decide) (λk=>by decide) (cr _) he hh (λk hk=> ?_)
 dsimp only [TV];by_cases hlt:k<sh.length
 ·have c1:decide ((k:Int)<(sh.length:Int))=true:=af (by omega)
  have c2:decide (0<=(k:Int)/\(k:Int)<(sh.length:Int))=true:=af (by omega)
  have hw:IntKind.i64.wrap ((k:Int)+1)=((k+1:Nat):Int):=by grind [aN]
  obtain ⟨x,hx⟩: ∃x,sh[k]? =some x:=⟨_,bj hlt⟩;have hr:=hSat k x hx;have hxs:=bD (du.1 hs x (bJ hx));rw [AG hx];have hql:=hcl k hk;generalize dS l sh k=q at*;obtain ⟨ow,ss,rt,bl⟩:=x;dsimp only at hxs ⊢;simp only [aW.l] at hr;have hpos:0<ss.length:=by omega
  have c0:decide (ss.length=0)=false:=bw (by omega)
  have gm:decide (8*(q.length+ss.length)<=az)=true:=af (by grind [az])
  have zR:(rows aq q).length=q.length*1:=aU bR;have ho:aL (rows aq ss)=true:=dr (λ_=>rfl) ss;have zs:(rows aq ss).length=ss.length*1:=aU bR;have ct:List.take (ss.length*1) (List.drop 0 (rows aq ss))=rows aq ss:=by grind
  have pk:=Is q;have pk':=Is (q++ss);rw [EY hpos] at pk' ⊢;have hsk:sh.length-(k+1)<sh.length-k:=by omega
  simp only [go_sem,c1,c2,hr,hw,ct,zs,c0,gm,zR,ho,pk',hsk,AF,AV.aj,ab,aP,bp.aQ,aS,AV.aQ,hsB,hsR,simprocAttr];exact ⟨hlt,rfl,rfl⟩
 ·have c1:decide ((k:Int)<(sh.length:Int))=false:=bw (by omega)
  obtain rfl:k=sh.length:=by omega
  simp only [go_sem,simprocAttr];exact hK _ rfl rfl
def T92:List (Nat×Ct):=[(90,HD),(157,pK)]
theorem ahZ:Sound ay (cj T92):=Sound.cons ahG (Sound.cons aeI Sound.nil)
theorem w92 (r:Rm) (l:List Int) (hl:l.length<=3) (hn:r.sh.length<=6) (hs:r.sh.all vZ=true):bG ay 92 [.fp r.a 0,arL l] [] 0 (.b (eQ (dS l r.sh r.sh.length))) [] 0:=by
 obtain ⟨ms,sh,tp⟩:=r;dsimp only at hn hs ⊢;have hcl:=nN (l:=l) hs;have hsB: ∀j,ab j (rows aW.l sh)=true:=λj=>cG j sh;have hsR: ∀g,aS g (rows aW.l sh)=rows aW.l sh:=λg=>dT g sh;have hfin:= @W4 sh l hl hn hs;have hcl6:=hcl sh.length (bx _);generalize dS l sh sh.length=Q at*;refine ew (cx:=cj T92) ahZ Tryz.func92 Yq ?_
 dsimp only [i92,T92];simp only [Rm.a];by_cases h0:l.length=0
 ·have:l=[]:=fq h0;subst this;have ea:arL []= .ns:=rfl;rw [ea];simp only [go_sem,HD,simprocAttr];refine hfin ?_ ?_ (λe' he1 he5=> ?_)
  ·simp only [go_sem,pO,Wy,AV.aj,aP,AV.aQ,hsB,hsR,simprocAttr]
  ·simp only [go_sem,pO,X1,AV.aj,ab,aP,bp.aQ,AV.aQ,aS,simprocAttr];exact ⟨rfl,rfl⟩
  ·by_cases hq0:Q.length=0
   ·have:Q=[]:=fq hq0;subst this;have hk: ∀(h:Hp) n,aa h 1=some {cells:=[.m 0]}->aa h 0=some (sj [])->pK [.ns,.fn 160 [.p 1 0]] h n=some (true,{v:= .b true,n,rd:=[1,0],md:=[(1,none),(0,none)]}):=λh n h1 h2=>by
     simp only [pK,h1,aC,yT,h2,yB];rfl
    have e1:(gQ aq 1 []).v 2= .ns:=rfl;have e2:(gQ aq 1 []).h 2=[]:=rfl;rw [e1] at he1;rw [e2];simp only [go_sem,he1,he5,hk,List.nil_append,simprocAttr];exact Ends.aw rfl rfl
   ·have e1:(gQ aq 1 Q).v 2= .sg 2 0 Q.length:=by rw [pW (by omega)];rfl
    have e2:(gQ aq 1 Q).h 2=[(2,{cells:=rows aq Q,gr:=some 1})]:=by rw [pW (by omega)];rfl
    rw [e1] at he1;rw [e2];have hk: ∀(h:Hp) n,aa h 2=some {cells:=rows aq Q,gr:=some 1}->aa h 1=some {cells:=[.m 0]}->aa h 0=some (sj [])->pK [.sg 2 0 Q.length,.fn 160 [.p 1 0]] h n=some (true,{v:= .b (eQ Q),n,rd:=[2,1,0],md:=[(2,some {cells:=rows aq Q,gr:=some 1}),(1,none),(0,none)]}):=λh n h0 h1 h2=>by
     simp only [pK,h0,JC,eD,h1,aC,yT,h2,yB,af (show Q.length<=9223372036854775807 by omega)];rfl
    simp only [go_sem,he1,he5,hk,ez,List.nil_append,simprocAttr];exact Ends.aw rfl rfl
 ·have ea:arL l= .fz (rows aq l) l.length:=aY h0;rw [ea];have e1:(gQ aq 1 l).v 2= .sg 2 0 l.length:=by rw [pW (by omega)];rfl
  have e2:(gQ aq 1 l).h 2=[(2,{cells:=rows aq l,gr:=some 1})]:=by rw [pW (by omega)];rfl
  rw [e1,e2] at hfin;have hkl: ∀(h:Hp) n,HD [.fz (rows aq l) l.length] h n=some (true,{v:= .sg n 0 l.length,n:=n+1,nw:=[(n,{cells:=rows aq l,gr:=some 1})]}):=λh n=>by
   simp only [HD,eD,aC,af (show 0<l.length by omega),af (show l.length<=1000 by omega),aG]
  clear e1 e2;simp only [go_sem,hkl,simprocAttr];refine hfin ?_ ?_ (λe' he1 he5=> ?_)
  ·simp only [go_sem,AV.aj,aP,AV.aQ,hsB,hsR,simprocAttr]
  ·simp only [go_sem,AV.aj,ab,aP,bp.aQ,AV.aQ,aS,iB,iR,ez,List.nil_append,simprocAttr];exact ⟨rfl,rfl⟩
  ·by_cases hq0:Q.length=0
   ·have:Q=[]:=fq hq0;subst this;have hk: ∀(h:Hp) n,aa h 1=some {cells:=[.m 0]}->aa h 0=some (sj [])->pK [.ns,.fn 160 [.p 1 0]] h n=some (true,{v:= .b true,n,rd:=[1,0],md:=[(1,none),(0,none)]}):=λh n h1 h2=>by
     simp only [pK,h1,aC,yT,h2,yB];rfl
    have e1:(gQ aq 1 []).v 2= .ns:=rfl;have e2:(gQ aq 1 []).h 2=[]:=rfl;rw [e1] at he1;rw [e2];simp only [go_sem,he1,he5,hk,List.nil_append,simprocAttr];exact Ends.aw rfl rfl
   ·have e1:(gQ aq 1 Q).v 2= .sg 2 0 Q.length:=by rw [pW (by omega)];rfl
    have e2:(gQ aq 1 Q).h 2=[(2,{cells:=rows aq Q,gr:=some 1})]:=by rw [pW (by omega)];rfl
    rw [e1] at he1;rw [e2];have hk: ∀(h:Hp) n,aa h 2=some {cells:=rows aq Q,gr:=some 1}->aa h 1=some {cells:=[.m 0]}->aa h 0=some (sj [])->pK [.sg 2 0 Q.length,.fn 160 [.p 1 0]] h n=some (true,{v:= .b (eQ Q),n,rd:=[2,1,0],md:=[(2,some {cells:=rows aq Q,gr:=some 1}),(1,none),(0,none)]}):=λh n h0 h1 h2=>by
     simp only [pK,h0,JC,eD,h1,aC,yT,h2,yB,af (show Q.length<=9223372036854775807 by omega)];rfl
    simp only [go_sem,he1,he5,hk,ez,List.nil_append,simprocAttr];exact Ends.aw rfl rfl
def F9:Ct
 |[.fp c 0,.ns],_,n=>(qX c).bind λr=>some (decide (r.sh.length<=6)&&r.sh.all vZ,{v:= .b (eQ (dS [] r.sh r.sh.length)),n})
 |[.fp c 0,.fz L m],_,n=>(qX c).bind λr=>(bc 1 dG m L).bind λl=>some (decide (r.sh.length<=6)&&r.sh.all vZ&&bZ 1 3 (l.length:Int),{v:= .b (eQ (dS l r.sh r.sh.length)),n})
 |_,_,_=>none
theorem s92:ax ay 92 F9:=λargs h n c E hc ht=>by
 unfold F9 at hc;split at hc
 ·simp only [av] at hc;obtain ⟨r,hr,he⟩:=hc;cases he;rw [dW hr];simp only [ak,bg] at ht;exact aA.pure (by kernel_rfl) (by simp only [ab,AV.aj,Rm.aj];rfl) rfl (w92 r [] (by decide) ht.1 ht.2) _ _
 ·simp only [av] at hc;obtain ⟨r,hr,l,hl,he⟩:=hc;cases he;rw [dW hr];simp only [ak,bg] at ht;have h3:=bD ht.2;obtain ⟨rfl,rfl⟩:=bu df hl;have:=w92 r l (by omega) ht.1.1 ht.1.2
  rw [show arL l= .fz (rows aq l) l.length from aY (by omega)] at this
  exact aA.pure (by kernel_rfl) (by simp only [ab,AV.aj,Rm.aj,iB,aG]) rfl this _ _
 ·cases hc
def fB (r:Rm):Bool:=decide (r.sh.length<=6)&&(r.sh.all (cC r.ms.length)&&eQ (dS [] r.sh r.sh.length))
theorem jJ {n:Nat} {s:aW} (h:cC n s=true):vZ s=true:=by
 simp only [cC,ak] at h;exact h.2.1
def T81:List (Nat×Ct):=[(92,F9),(146,cu Ba)]
theorem age:Sound ay (cj T81):=Sound.cons s92 (Sound.cons ags.nv Sound.nil)
theorem w81 (r:Rm) (hn:r.ms.length<=6) (hl:r.sh.length<=9223372036854775807) (ho:r.sh.all aW.ok=true):bG ay 81 [.fp r.a 0] [] 0 (.b (fB r)) [] 0:=by
 have hrb: ∀j,ab j r.a=true:=λj=>Rm.aj j r;have hk: ∀(h:Hp) n b,aa h b=some {cells:=[.fp r.a 0]}->cu Ba [.fz (rows aW.l r.sh) r.sh.length,.fn 147 [.p b 0]] h n=some (true,{v:= .b (r.sh.all (cC r.ms.length)),n,rd:=[b]}):=λh n b hb=>by
  simp only [cu,bn,bI,kC,jH,vA (hrb 0),ef (cG 0 r.sh),hb,aC,eo,Ba,KT,dH,af hl,af hn,ho,aG];rfl
 have hk2:r.sh.length<=6->r.sh.all (cC r.ms.length)=true-> ∀(h:Hp) n,F9 [.fp r.a 0,.ns] h n=some (true,{v:= .b (eQ (dS [] r.sh r.sh.length)),n}):=λh6 hs h n=>by
  grind [vZ,du,jJ,F9,dH,aC,af,aG]
 have hR:fB r=(decide (r.sh.length<=6)&&(r.sh.all (cC r.ms.length)&&eQ (dS [] r.sh r.sh.length))):=rfl;generalize fB r=R at hR ⊢;generalize eQ (dS [] r.sh r.sh.length)=B at*;generalize r.sh.all (cC r.ms.length)=A at*;obtain ⟨ms,sh,tp⟩:=r;simp only [Rm.a] at*;have n1:decide ((sh.length:Int)<=6)=decide (sh.length<=6):=by grind
 refine ew age Tryz.func81 V4 ?_
 dsimp only [i81,T81];cases c1:decide (sh.length<=6)
 ·rw [c1] at hR;simp only [go_sem,n1,c1,simprocAttr];exact Ends.aw rfl (by rw [hR];rfl)
 cases A
 ·rw [c1] at hR;simp only [go_sem,n1,c1,hk,simprocAttr];exact Ends.aw rfl (by rw [hR];rfl)
 ·rw [c1] at hR;have hk2:=hk2 (bN c1) rfl;simp only [go_sem,n1,c1,hk,hk2,simprocAttr];exact Ends.aw rfl (by rw [hR];rfl)
def k81:Ct
 |[.fp c 0],_,n=>(qX c).bind λr=>some (decide (r.ms.length<=6)&&(decide (r.sh.length<=9223372036854775807)&&r.sh.all aW.ok),{v:= .b (fB r),n})
 |_,_,_=>none
theorem s81:ax ay 81 k81:=λargs h n c E hc ht=>by
 unfold k81 at hc;split at hc
 ·simp only [av] at hc;obtain ⟨r,hr,he⟩:=hc;cases he;rw [dW hr];simp only [ak,bg] at ht;exact aA.pure (by kernel_rfl) (by simp only [ab,AV.aj,Rm.aj,aG]) rfl (w81 r ht.1 ht.2.1 ht.2.2) _ _
 ·cases hc
def iJ (r:Rm) (t:Tp):Bool:=
 bZ 0 ((r.ms.length:Int)-1) t.me&&(bZ 0 ((r.sh.length:Int)-1) t.sh&&match r.sh[t.sh.toNat]? with
  |some s=> !oL s t.me&&(bZ 1 10 t.wt&&(bZ 0 ((s.ss.length:Int)-1) t.mo&&(dv t.sw&&(decide (t.sw.l=s.ss)&&decide (t.sw.wa<=t.mo)))))
  |none=>false)
/-! slices.Equal -/
theorem qm {l:List Int} {k:Nat} {x:Int} (h:l[k]? =some x):(rows aq l)[k]? =some (.i .i64 x):=by
 have:=bM (f:=aq) (z:=1) (j:=0) (v:= .i .i64 x) bR h rfl
 grind
theorem aiu (a b:List Int) (ha:a.length<=9223372036854775807):bG ay 198 [.fz (rows aq a) a.length,.fz (rows aq b) b.length] [] 0 (.b (decide (a=b))) [] 0:=by
 refine ew (cx:=cj []) Sound.nil Tryz.func198 Ot ?_
 dsimp only [i198];have hA: ∀(k:Nat) x,a[k]? =some x->(rows aq a)[k]? =some (.i .i64 x):=λk x hk=>qm hk;have hB: ∀(k:Nat) x,b[k]? =some x->(rows aq b)[k]? =some (.i .i64 x):=λk x hk=>qm hk;have bA: ∀j,ab j (rows aq a)=true:=λj=>iB j a;have bB: ∀j,ab j (rows aq b)=true:=λj=>iB j b;generalize rows aq a=A at hA bA ⊢;generalize rows aq b=B at hB bB ⊢;cases c0:((a.length:Int) !=(b.length:Int));rotate_left
 ·have hne:a≠b:=λe=>by grind
  rw [bw hne];simp only [go_sem,c0,simprocAttr];exact Ends.aw rfl rfl
 have hlen:a.length=b.length:=by grind
 simp only [go_sem,c0,simprocAttr];refine Loop.dV (F:=⟨ay,cj [],[10,14,24],26,0⟩) Sound.nil mo a.length (λk=>a.take k=b.take k)
  (λk=>[(0,.fz A a.length),(1,.fz B b.length),(12,.i .i64 (a.length:Int)),(13,.i .i64 (k:Int))])
  (λk=>[]) 0 (bx 0) rfl ?_ ?_ (λk hk ho=> ?_)
 ·simp only [go_sem,AV.aj,bA,bB,simprocAttr]
 ·simp only [go_sem,simprocAttr]
 by_cases hlt:k<a.length
 ·have c1:decide ((k:Int)<(a.length:Int))=true:=af (by omega)
  have c2:decide (0<=(k:Int)/\(k:Int)<(a.length:Int))=true:=af (by omega)
  have c3:decide (0<=(k:Int)/\(k:Int)<(b.length:Int))=true:=af (by omega)
  obtain ⟨x,hx⟩: ∃x,a[k]? =some x:=⟨_,bj hlt⟩;obtain ⟨y,hy⟩: ∃y,b[k]? =some y:=⟨_,bj (by omega)⟩
  have r1:=hA k x hx;have r2:=hB k y hy;have hw:IntKind.i64.wrap ((k:Int)+1)=((k+1:Nat):Int):=by grind [aN]
  cases c4:(x !=y)
  ·have hxy:x=y:=by grind
   simp only [go_sem,c1,c2,c3,r1,r2,c4,hw,hlt,AV.aj,bA,bB,di,simprocAttr]
   grind [jY]
  ·have hne:a≠b:=λe=>by
    grind
   rw [bw hne];simp only [go_sem,c1,c2,c3,r1,r2,c4,di,simprocAttr];exact Ends.aw rfl rfl
 ·have c1:decide ((k:Int)<(a.length:Int))=false:=bw (by omega)
  obtain rfl:k=a.length:=by omega
  have he:a=b:=by
   grind
  rw [af he];simp only [go_sem,simprocAttr];exact Ends.aw rfl rfl
def JO:Ct
 |[.fz A a,.fz B b],_,n=>(bc 1 dG a A).bind λp=>(bc 1 dG b B).bind λq=>some (decide (a<=9223372036854775807),{v:= .b (decide (p=q)),n})
 |_,_,_=>none
theorem ahK:ax ay 198 JO:=λargs h n c E hc ht=>by
 unfold JO at hc;split at hc
 ·simp only [av] at hc;obtain ⟨p,hp,q,hq,he⟩:=hc;cases he;obtain ⟨rfl,rfl⟩:=bu df hp;obtain ⟨rfl,rfl⟩:=bu df hq;exact aA.pure (by kernel_rfl) (by simp only [ab,AV.aj,iB,aG]) rfl (aiu p q (bN ht)) _ _
 ·cases hc
def Rm.ok (r:Rm):Bool:=decide (r.ms.length<=6)&&(decide (r.sh.length<=9223372036854775807)&&(r.sh.all aW.ok&&(decide (r.tp.length<=9223372036854775807)&&r.tp.all λt=>decide (t.sw.l.length<=9223372036854775807))))
def abZ:List (Nat×Ct):=[(69,Cp),(71,iM),(121,kQ),(198,JO)]
theorem aeS:Sound ay (cj abZ):=Sound.cons s69 (Sound.cons DQ (Sound.cons LY (Sound.cons ahK Sound.nil)))
theorem aga (r:Rm) (t:Tp) (hr:r.ok=true) (ht:t.sw.l.length<=9223372036854775807):bG ay 150 [.fp r.a 0,.agg t.l] [] 0 (.b (iJ r t)) [] 0:=by
 simp only [Rm.ok,ak,bg] at hr;obtain ⟨h6,hsl,hso,htl,-⟩:=hr;have hR:iJ r t=(bZ 0 ((r.ms.length:Int)-1) t.me&&(bZ 0 ((r.sh.length:Int)-1) t.sh&&match r.sh[t.sh.toNat]? with
  |some s=> !oL s t.me&&(bZ 1 10 t.wt&&(bZ 0 ((s.ss.length:Int)-1) t.mo&&(dv t.sw&&(decide (t.sw.l=s.ss)&&decide (t.sw.wa<=t.mo)))))
  |none=>false)):=rfl
 generalize iJ r t=R at hR ⊢;obtain ⟨ms,sh,tp⟩:=r;obtain ⟨me,si,wt,mo',sw⟩:=t;dsimp only at h6 hsl hso htl ht hR;have hsw:=pC sw;have hk121: ∀(h:Hp) n,kQ [.agg sw.a] h n=some (true,{v:= .i .i64 (if dv sw then 0 else 410),n}):=λh n=>by
  grind [kQ,aC,af]
 have t0:(Tp.l ⟨me,si,wt,mo',sw⟩)[0]? =some (.i .i64 me):=rfl;have t1:(Tp.l ⟨me,si,wt,mo',sw⟩)[1]? =some (.i .i64 si):=rfl;have t2:(Tp.l ⟨me,si,wt,mo',sw⟩)[2]? =some (.i .i64 wt):=rfl;have t3:(Tp.l ⟨me,si,wt,mo',sw⟩)[3]? =some (.i .i64 mo'):=rfl;have t4:(Tp.l ⟨me,si,wt,mo',sw⟩)[4]? =some (.fz (rows aq sw.l) sw.l.length):=rfl;have t8:(Tp.l ⟨me,si,wt,mo',sw⟩)[8]? =some (.i .i64 sw.wa):=rfl;have td:List.take 18 (List.drop 4 (Tp.l ⟨me,si,wt,mo',sw⟩))=sw.a:=rfl;have TJ:sw.a.length=18:=rfl;have hg:(if dv sw then (0:Int) else 410)=0↔dv sw=true:=by simp
 have hgb:((if dv sw then (0:Int) else 410)==0)=dv sw:=by grind
 generalize dv sw=G at*;have hSat: ∀(k:Nat) x,sh[k]? =some x->List.take 4 (List.drop (k*4) (rows aW.l sh))=x.l:=λk x hk=>dm aW.len hk;have hw1:IntKind.i64.wrap ((ms.length:Int)-1)=(ms.length:Int)-1:=aN (by omega) (by omega)
 have hw2:IntKind.i64.wrap ((sh.length:Int)-1)=(sh.length:Int)-1:=aN (by omega) (by omega)
 refine ew aeS Tryz.func150 NP ?_
 dsimp only [i150,abZ];simp only [Rm.a];generalize Tp.l ⟨me,si,wt,mo',sw⟩=TL at*;cases c1:bZ 0 ((ms.length:Int)-1) me
 ·rw [c1] at hR;simp only [go_sem,iM,hw1,c1,t0,simprocAttr];exact Ends.aw rfl (by rw [hR];rfl)
 cases c2:bZ 0 ((sh.length:Int)-1) si
 ·rw [c1,c2] at hR;simp only [go_sem,iM,hw1,hw2,c1,c2,t0,t1,simprocAttr];exact Ends.aw rfl (by rw [hR];rfl)
 have hme:=bD c1;have hsi:=bD c2;obtain ⟨j,rfl⟩: ∃j:Nat,si=(j:Int):=⟨si.toNat,by omega⟩
 have hj:j<sh.length:=by omega
 obtain ⟨s,hs⟩: ∃s,sh[j]? =some s:=⟨_,bj hj⟩;rw [c1,c2] at hR;simp only [j3,hs,mP] at hR;have hok:=du.1 hso s (bJ hs);have c3:decide (0<=(j:Int)/\(j:Int)<(sh.length:Int))=true:=af (by omega)
 have hrow:=hSat j s hs;simp only [aW.ok,ak,bg] at hok;have hk69: ∀(h:Hp) n,Cp [.agg s.l,.i .i64 me] h n=some (true,{v:= .b (oL s me),n}):=λh n=>by
  grind [Cp,ku,aC,bZ,dp,aG]
 have hk198: ∀(h:Hp) n,JO [.fz (rows aq sw.l) sw.l.length,.fz (rows aq s.ss) s.ss.length] h n=some (true,{v:= .b (decide (sw.l=s.ss)),n}):=λh n=>by
  grind [JO,eD,aC,af]
 have hw3:IntKind.i64.wrap ((s.ss.length:Int)-1)=(s.ss.length:Int)-1:=aN (by omega) (by omega)
 generalize oL s me=BB,decide (sw.l=s.ss)=EE at*;generalize sw.wa=wa,sw.l=swl,sw.a=SA at*;obtain ⟨ow,ss,rt,bl⟩:=s;simp only [aW.l] at hrow hk69;dsimp only at hk198 hw3 hR;cases BB;rotate_left
 ·simp only [go_sem,iM,hw1,hw2,c1,c2,c3,hrow,hk69,t0,t1,simprocAttr];exact Ends.aw rfl (by rw [hR];rfl)
 cases c4:bZ 1 10 wt
 ·rw [c4] at hR;simp only [go_sem,iM,hw1,hw2,c1,c2,c3,hrow,hk69,c4,t0,t1,t2,simprocAttr];exact Ends.aw rfl (by rw [hR];rfl)
 cases c5:bZ 0 ((ss.length:Int)-1) mo'
 ·rw [c4,c5] at hR;simp only [go_sem,iM,hw1,hw2,hw3,c1,c2,c3,hrow,hk69,c4,c5,t0,t1,t2,t3,simprocAttr];exact Ends.aw rfl (by rw [hR];rfl)
 rw [c4,c5] at hR;cases G
 ·simp only [go_sem,iM,hw1,hw2,hw3,c1,c2,c3,hrow,hk69,c4,c5,t0,t1,t2,t3,td,TJ,hk121,ei,simprocAttr];exact Ends.aw rfl (by rw [hR];rfl)
 cases EE
 ·simp only [go_sem,iM,hw1,hw2,hw3,c1,c2,c3,hrow,hk69,c4,c5,t0,t1,t2,t3,t4,td,TJ,hk121,hk198,simprocAttr];exact Ends.aw rfl (by rw [hR];rfl)
 ·simp only [go_sem,iM,hw1,hw2,hw3,c1,c2,c3,hrow,hk69,c4,c5,t0,t1,t2,t3,t4,t8,td,TJ,hk121,hk198,simprocAttr];exact Ends.aw rfl (by rw [hR];rfl)
def Tp.ok (t:Tp):Bool:=decide (t.sw.l.length<=9223372036854775807)
def JL:Ct
 |[.fp c 0,.agg d],_,n=>(qX c).bind λr=>(uP d).bind λt=>some (r.ok&&t.ok,{v:= .b (iJ r t),n})
 |_,_,_=>none
theorem ajl:ax ay 150 JL:=λargs h n c E hc ht=>by
 unfold JL at hc;split at hc
 ·simp only [av] at hc;obtain ⟨r,hr,t,htp,he⟩:=hc;cases he;rw [dW hr,lf _ _ htp];simp only [Tp.ok,ak,bg] at ht;exact aA.pure (by kernel_rfl) (by simp only [ab,AV.aj,Rm.aj,Tp.aj,aG]) rfl (aga r t ht.1 ht.2) _ _
 ·cases hc
def nz (r:Rm) (k:Nat) (t:Tp):Bool:=iJ r t&&(((k:Int)==0)||(match r.tp[k-1]? with
 |some u=>decide (fF u t<0)
 |none=>false))
def ab4:List (Nat×Ct):=[(139,Bv),(150,JL)]
theorem aau:Sound ay (cj ab4):=Sound.cons abu (Sound.cons ajl Sound.nil)
theorem aix (r:Rm) (k:Nat) (t:Tp) (hr:r.ok=true) (ht:t.ok=true) (hk:k<r.tp.length):bG ay 149 [.i .i64 (k:Int),.agg t.l,.fp [.fp r.a 0] 0] [] 0 (.b (nz r k t)) [] 0:=by
 have hk150: ∀(h:Hp) n,JL [.fp r.a 0,.agg t.l] h n=some (true,{v:= .b (iJ r t),n}):=λh n=>by
  grind [JL,dH,uH,aC,aG]
 have hk139: ∀(u:Tp) (h:Hp) n,Bv [.agg u.l,.agg t.l] h n=some (true,{v:= .i .i64 (fF u t),n}):=λu h n=>by
  simp only [Bv,uH,aC]
 have hrb: ∀j,ab j r.a=true:=λj=>Rm.aj j r;have hR:nz r k t=(iJ r t&&(((k:Int)==0)||(match r.tp[k-1]? with
 |some u=>decide (fF u t<0)
 |none=>false))):=rfl
 generalize nz r k t=R at hR ⊢;generalize iJ r t=B at*;have htl:r.tp.length<=9223372036854775807:=by
  simp_all [Rm.ok,ak,bg]
 have hr2:r.a[2]? =some (.fz (rows Tp.l r.tp) r.tp.length):=rfl;have hat: ∀(k:Nat) x,r.tp[k]? =some x->List.take 22 (List.drop (k*22) (rows Tp.l r.tp))=x.l:=λk x hk=>dm Tp.len hk;generalize r.a=RA,r.tp=tp at*;have t22:t.l.length=22:=rfl;have tO:aL t.l=true:=rfl;have td:List.take 22 (List.drop 0 t.l)=t.l:=rfl;generalize t.l=TL at*;refine ew aau Tryz.func149 RH ?_
 dsimp only [i149,ab4];cases B
 ·simp only [go_sem,hk150,t22,td,simprocAttr];exact Ends.aw rfl (by rw [hR];rfl)
 cases c2:((k:Int)==0);rotate_left
 ·rw [c2] at hR;simp only [go_sem,hk150,t22,td,c2,simprocAttr];exact Ends.aw rfl (by rw [hR];rfl)
 rw [c2] at hR;have hk0:k≠0:=λe=>by grind
 obtain ⟨u,hu⟩: ∃u,tp[k-1]? =some u:=⟨_,bj (by omega)⟩
 rw [hu] at hR;have hw:IntKind.i64.wrap ((k:Int)-1)=((k-1:Nat):Int):=by grind [aN]
 have c3:decide (0<=((k-1:Nat):Int)/\((k-1:Nat):Int)<(tp.length:Int))=true:=af (by omega)
 have hrow:=hat _ u hu;have hk139:=hk139 u;have u22:u.l.length=22:=rfl;generalize u.l=UL at*;simp only [go_sem,hk150,t22,td,c2,hr2,hw,c3,hrow,u22,hk139,simprocAttr];exact Ends.aw rfl (by rw [hR];rfl)
noncomputable def Bg:Ct
 |[.fz L m,.fn 149 [.fp [.fp c 0] 0]],_,n=>(bc 22 uP m L).bind λl=>(qX c).bind λr=>open Classical in some (r.ok&&decide (r.tp=l),{v:= .b (eE (nz r) l 0),n})
 |_,_,_=>none
theorem ag0:ax ay 148 Bg:=λargs h n c E hc ht=>by
 unfold Bg at hc;split at hc
 ·simp only [av] at hc;obtain ⟨l,hl,r,hr,he⟩:=hc;cases he;simp only [ak,bg] at ht;obtain ⟨hok,hrl⟩:=ht;obtain ⟨rfl,hlm⟩:=bu lf hl;subst hrl;subst hlm;rw [dW hr];have h2:=hok;simp only [Rm.ok,ak,bg] at h2;exact aA.pure (by kernel_rfl) (by simp only [ab,AV.aj,fb,Rm.aj,aG]) rfl (agp (by kernel_rfl) (by simp only [ab,AV.aj,Rm.aj,aG]) r.tp h2.2.2.2.1 (λk a ha=>aix r k a hok (du.1 h2.2.2.2.2 a (bJ ha)) (cv.1 ha).1)) _ _
 ·cases hc
/-! the taps of a member, of a room that nobody writes -/
def nT (tp:List Tp) (m:Int):Nat->List Nat
 |0=>[]
 |k+1=>match tp[k]? with
  |some t=>bif t.me==m then nT tp m k++[k] else nT tp m k
  |none=>nT tp m k
def dw (tp:List Tp) (m:Int):List Nat:=nT tp m tp.length
def nQ (T:List AV) (i:Nat):List AV:=[.fp T (i*22)]
theorem qI (T:List AV): ∀i,(nQ T i).length=1:=λ_=>rfl
theorem yC (tp:List Tp) (m:Int): ∀k,(nT tp m k).length<=k
 |0=>bx 0
 |k+1=>by
  have:=yC tp m k;simp only [nT]
  grind
theorem jc {tp:List Tp} {m:Int}: ∀{k i:Nat},i∈nT tp m k->i<k/\ ∃t,tp[i]? =some t/\t.me=m
 |0,i,h=>by simp [nT] at h
 |k+1,i,h=>by
  simp only [nT] at h;split at h
  ·rename_i t ht;cases hb:t.me==m
   ·rw [hb] at h;obtain ⟨h1,h2⟩:=jc h
    grind
   ·rw [hb] at h;simp only [cond_true,xn,List.mem_singleton] at h;rcases h with h|rfl
    ·obtain ⟨h1,h2⟩:=jc h
     grind
    grind
  ·obtain ⟨h1,h2⟩:=jc h
   grind
theorem Ky {T:List AV} (hT:ab 0 T=true): ∀i,ab 0 (nQ T i)=true:=λi=>by grind [nQ,ab,AV.aj,aG]
def Ki (tp:List Tp) (m:Int) (k:Nat):List (Nat×Nat):=match tp[k]? with
 |some t=>bif t.me==m then [(0,2)] else []
 |none=>[]
theorem MU (tp:List Tp) (m:Int) (k:Nat):sE (Ki tp m k) 0 1=true:=by
 unfold Ki;split
 ·rename_i t _;cases t.me==m<;>rfl
 ·rfl
theorem WV (RA T:List AV) (tp:List Tp) (m:Int) (hl:tp.length<=1000000000) (hRA:ab 0 RA=true) (hr2:RA[2]? =some (.fz T tp.length)) (hT:ab 0 T=true) (hme: ∀(k:Nat) (t:Tp),tp[k]? =some t->T[k*22]? =some (.i .i64 t.me)) {K:bX} {e:Env} {h:Hp} {n:Nat}
 (he:jz 1 [] e [(0,.fp RA 0),(1,.i .i64 m),(5,.ns),(12,.i .i64 (tp.length:Int)),(13,.i .i64 0)]) (hh:iW 1 [] h [])
 (hK: ∀e',bC e' 5=some ((gQ (nQ T) 1 (dw tp m)).v 0)->K (.exit 0) e' ((gQ (nQ T) 1 (dw tp m)).h 0) 1):
 Ab.Loop ay [14,26] 39 0 T8 K e h n:=by
 have e0:(gQ (nQ T) 1 (nT tp m 0)).v 0= .ns:=rfl;have e1:(gQ (nQ T) 1 (nT tp m 0)).h 0=[]:=rfl;rw [<-e0] at he;rw [<-e1] at hh;have hRA': ∀j,ab j RA=true:=λj=>au _ hRA;have hTB: ∀j,ab j T=true:=λj=>au _ hT;have hTR: ∀g,aS g T=T:=λg=>aJ _ hT;have hRR: ∀g,aS g RA=RA:=λg=>aJ _ hRA;refine Loop.nM (F:=⟨ay,cj [],[14,26],39,0⟩) Sound.nil mo (X:=Nat) (λk=>k<=tp.length) (λk=>tp.length-k)
  (λk=>[(0,.fp RA 0),(1,.i .i64 m),(5,(gQ (nQ T) 1 (nT tp m k)).v 0),(12,.i .i64 (tp.length:Int)),(13,.i .i64 (k:Int))])
  (λk=>(gQ (nQ T) 1 (nT tp m k)).h 0) 1 0 (λk=>k+1) [] (Ki tp m) (by decide) (by decide) (MU tp m) (cr _) he hh (λk hk=> ?_)
 by_cases hlt:k<tp.length
 ·have c1:decide ((k:Int)<(tp.length:Int))=true:=af (by omega)
  have c2:decide (0<=(k:Int)/\(k:Int)<(tp.length:Int))=true:=af (by omega)
  have hw:IntKind.i64.wrap ((k:Int)+1)=((k+1:Nat):Int):=by grind [aN]
  obtain ⟨x,hx⟩: ∃x,tp[k]? =some x:=⟨_,bj hlt⟩;have hr:=hme k x hx;have hlen:=yC tp m k;have hix:nT tp m (k+1)=bif x.me==m then nT tp m k++[k] else nT tp m k:=by grind [nT]
  have hrn:Ki tp m k=bif x.me==m then [(0,2)] else []:=by grind [Ki]
  rw [hix,hrn];generalize nT tp m k=q at*;have gm:decide (8*(q.length+1)<=az)=true:=af (by grind [az])
  have zR:(rows (nQ T) q).length=q.length*1:=aU (qI T);have pk:=(p7 (f:=nQ T) (Ky hT) (qI T) q).pl;have hsk:tp.length-(k+1)<tp.length-k:=by omega
  cases c3:(x.me==m)
  ·dsimp only [cond_false];simp only [go_sem,c1,c2,hr,hw,hr2,c3,pk,hsk,AV.aj,AV.aQ,hRA',hRR,kA,simprocAttr];exact hlt
  ·dsimp only [cond_true];have pk':=(p7 (f:=nQ T) (Ky hT) (qI T) (q++[k])).pl;rw [ji] at pk' ⊢;simp only [nQ] at pk';simp only [go_sem,c1,c2,hr,hw,hr2,c3,gm,zR,pk',hsk,AV.aj,AV.aQ,hRA',hRR,nQ,kA,simprocAttr];exact hlt
 ·have c1:decide ((k:Int)<(tp.length:Int))=false:=bw (by omega)
  obtain rfl:k=tp.length:=by omega
  simp only [go_sem,simprocAttr];exact hK _ rfl
theorem WG {T:List AV} (q:List Nat):(gQ (nQ T) 1 q).Jl:=by unfold gQ;split<;>trivial
theorem w72 (r:Rm) (m:Int) (hl:r.tp.length<=1000000000):bG ay 72 [.fp r.a 0,.i .i64 m] [] 0 (.fz (rows (nQ (rows Tp.l r.tp)) (dw r.tp m)) (dw r.tp m).length) [] 0:=by
 have hRA:=Rm.aj 0 r;have hr2:r.a[2]? =some (.fz (rows Tp.l r.tp) r.tp.length):=rfl;have hT:=fb 0 r.tp;have hme: ∀(k:Nat) (t:Tp),r.tp[k]? =some t->(rows Tp.l r.tp)[k*22]? =some (.i .i64 t.me):=λk t hk=>by
  have:=bM (f:=Tp.l) (z:=22) (j:=0) (v:= .i .i64 t.me) Tp.len hk rfl;omega
 generalize r.a=RA,r.tp=tp at*;generalize rows Tp.l tp=T at*;have hfin:= @WV RA T tp m hl hRA hr2 hT hme;have hgi:=p7 (f:=nQ T) (Ky hT) (qI T) (dw tp m);have hfr:=B9 (f:=nQ T) (z:=1) (dw tp m);have hcap:=WG (T:=T) (dw tp m);have hb:ab 0 (rows (nQ T) (dw tp m))=true:=bh (Ky hT);generalize dw tp m=q at*;have hRA': ∀j,ab j RA=true:=λj=>au _ hRA;have hRR: ∀g,aS g RA=RA:=λg=>aJ _ hRA;refine bG.dy (cx:=cj []) Sound.nil mo Tryz.func72 D8 (by simp [i72]) (aO ?_)
 dsimp only [i72];simp only [go_sem,hr2,simprocAttr];refine hfin ?_ ?_ (λe' he5=> ?_)
 ·simp only [go_sem,AV.aj,AV.aQ,hRA',hRR,simprocAttr]
 ·simp only [go_sem,simprocAttr]
 simp only [go_sem,he5,simprocAttr];refine aZ.aaA (h':=[]) (v':= .fz (rows (nQ T) q) q.length) hgi hfr hcap ?_ bW.hit (λc kk hc=>by simp [aa] at hc) ?_
 all_goals grind [fI,aZ.ends,Ends.aw,AV.aj]
def CN:Ct
 |[.fp c 0,.i .i64 m],_,n=>(qX c).bind λr=>some (decide (r.tp.length<=1000000000),{v:= .fz (rows (nQ (rows Tp.l r.tp)) (dw r.tp m)) (dw r.tp m).length,n})
 |_,_,_=>none
theorem s72:ax ay 72 CN:=λargs h n c E hc ht=>by
 unfold CN at hc;split at hc
 ·simp only [av] at hc;obtain ⟨r,hr,he⟩:=hc;cases he;rw [dW hr];exact aA.pure (by kernel_rfl) (by simp only [ab,AV.aj,Rm.aj,aG]) (by simp [AV.aj,bh,Ky,fb]) (w72 r _ (bN ht)) _ _
 ·cases hc
/-! the order bounds the number of taps -/
theorem p6 {a b:Tp} (h:fF a b<0):a.me<b.me\/(a.me=b.me/\a.sh<b.sh):=by
 unfold fF Mr lE at h;by_cases h1:a.me<b.me
 ·exact .inl h1
 ·by_cases h2:a.me>b.me
  ·rw [aY h1,aT h2] at h;simp at h
  ·rw [aY h1,aY h2] at h;simp only [ne_eq,not_true_eq_false,dP] at h;by_cases h3:a.sh<b.sh
   ·exact .inr ⟨by omega,h3⟩
   ·rw [aY h3] at h;split at h<;>omega
theorem BM {a b:Tp} (h:a.me<b.me\/(a.me=b.me/\a.sh<b.sh)):fF a b<0:=by
 unfold fF Mr lE;rcases h with h|⟨h1,h2⟩
 ·rw [aT h,aT (by decide)];omega
 ·rw [aY (show ¬a.me<b.me by omega),aY (show ¬a.me>b.me by omega),aY (by simp),aT h2];omega
theorem pP {r:Rm} {t:Tp} (h:iJ r t=true):(0<=t.me/\t.me<=(r.ms.length:Int)-1)/\(0<=t.sh/\t.sh<=(r.sh.length:Int)-1):=by
 simp only [iJ,ak] at h;exact ⟨bD h.1,bD h.2.1⟩
theorem FX {r:Rm} (h:eE (nz r) r.tp 0=true) (hm:r.ms.length<=6) (hs:r.sh.length<=6):r.tp.length<=36:=by
 rw [dt] at h;have key: ∀(k:Nat) (t:Tp),r.tp[k]? =some t->(k:Int)<=t.me*6+t.sh:=by
  intro k;induction k with
  |zero=>
   intro t ht;have h0:=h 0 t ht;simp only [nz,ak] at h0;have:=pP h0.1;omega
  |succ k ih=>
   intro t ht;have h0:=h (k+1) t ht;have hk:k<r.tp.length:=by have:=(cv.1 ht).1;omega
   obtain ⟨u,hu⟩: ∃u,r.tp[k]? =some u:=⟨_,bj hk⟩;have h1:=h k u hu;simp only [nz,ak,fy,Dd,hu] at h0 h1;have r1:=pP h1.1;have r0:=pP h0.1;have h2:=h0.2;rw [mA] at h2;rcases h2 with h2|h2
   ·simp at h2;omega
   ·have:=p6 (bN h2);have:=ih u hu;omega
 rcases eV 36 r.tp.length with hg|hg
 ·obtain ⟨t,ht⟩: ∃t,r.tp[36]? =some t:=⟨_,bj hg⟩;have:=key 36 t ht;have h0:=h 36 t ht;simp only [nz,ak] at h0;have:=pP h0.1;omega
 ·exact hg
/-! the outs of a member differ -/
theorem WU {K:List Int} {x y:Int}:y∈uj K x↔y∈K\/y=x:=by
 unfold uj;cases h:K.contains x
 ·simp
 ·simp only [cond_true];have:x∈K:=by simpa using h
  constructor
  ·exact .inl
  ·rintro (h|rfl)
   ·exact h
   ·exact this
def Dt (l:List Int) (k:Nat):List Int:=(l.take k).foldl uj []
theorem T6 (l:List Int):Dt l 0=[]:=rfl
theorem La {l:List Int} {k:Nat} {x:Int} (h:l[k]? =some x):Dt l (k+1)=uj (Dt l k) x:=by
 unfold Dt;rw [jY,h,x7,List.foldl_append];rfl
theorem GQ {l:List Int}: ∀{k:Nat},k<=l.length-> ∀y,y∈Dt l k↔y∈l.take k
 |0,_,y=>by simp [T6]
 |k+1,hk,y=>by
  obtain ⟨x,hx⟩: ∃x,l[k]? =some x:=⟨_,bj (by omega)⟩
  rw [La hx,WU,GQ (by omega),jY,hx]
  simp
theorem Gi {l:List Int}: ∀{k:Nat},k<=l.length->((Dt l k).length<k/\ ∃i x,i<k/\l[i]? =some x/\(l.take i).contains x=true)\/((Dt l k).length=k/\ ∀i x,i<k->l[i]? =some x->(l.take i).contains x=false)
 |0,_=> .inr ⟨rfl,λi x h=>by omega⟩
 |k+1,hk=>by
  obtain ⟨x,hx⟩: ∃x,l[k]? =some x:=⟨_,bj (by omega)⟩
  have hc:(Dt l k).contains x=(l.take k).contains x:=by
   rw [rh];simp [GQ (l:=l) (k:=k) (by omega)]
  have hnx:Dt l (k+1)=bif (l.take k).contains x then Dt l k else Dt l k++[x]:=by rw [La hx,<-hc];rfl
  rw [hnx];rcases Gi (l:=l) (k:=k) (by omega) with ⟨h1,i,y,h2,h3,h4⟩|⟨h1,h2⟩
  ·refine .inl ⟨?_,i,y,by omega,h3,h4⟩
   cases (l.take k).contains x
   ·simp only [cond_false,cm,uU];omega
   ·simp only [cond_true];omega
  ·cases hd:(l.take k).contains x
   ·refine .inr ⟨by simp only [cond_false,cm,uU];omega,λi y hi hy=> ?_⟩
    rcases xU.1 hi with h|rfl
    ·exact h2 i y h hy
    ·rw [hx] at hy;cases hy;exact hd
   ·exact .inl ⟨by simp only [cond_true];omega,k,x,by omega,hx,hd⟩
theorem Lu (l:List Int):decide ((Dt l l.length).length<l.length)= !eQ l:=by
 rcases Gi (l:=l) (bx _) with ⟨h1,i,x,h2,h3,h4⟩|⟨h1,h2⟩
 ·rw [af h1];have:eQ l=false:=by
   cases hn:eQ l
   ·rfl
   ·unfold eQ at hn;rw [dt] at hn;have:=hn i x h3;rw [fy,h4] at this;cases this
  rw [this];rfl
 ·rw [bw (by omega)]
  have:eQ l=true:=by
   unfold eQ;rw [dt];intro k x hx;rw [fy,h2 k x (cv.1 hx).1 hx];rfl
  rw [this];rfl
def Mn (tp:List Tp) (i:Nat):Int:=match tp[i]? with
 |some t=>t.sw.ou
 |none=>0
def sU (tp:List Tp) (m:Int):List Int:=(dw tp m).map (Mn tp)
def wX (tp:List Tp) (m:Nat):Bool:=eQ (sU tp m)&&decide ((dw tp m).length<=5)
def kK (r:Rm):Bool:=eE (nz r) r.tp 0&&jB (wX r.tp) r.ms.length
theorem Kj {f:Nat->Bool}: ∀{n k:Nat},k<n->f k=false->jB f n=false
 |n+1,k,h,hf=>by
  rw [BN];rcases xU.1 h with h|rfl
  ·rw [Kj h hf];rfl
  ·rw [hf,mC]
noncomputable def ZC:List (Nat×Ct):=[(72,CN),(148,cu Bg)]
theorem Zi:Sound ay (cj ZC):=Sound.cons s72 (Sound.cons ag0.nv Sound.nil)
noncomputable abbrev F82:Fx:=⟨ay,cj ZC,[15,23,32,51],53,0⟩
theorem w82 (r:Rm) (hr:r.ok=true) (hs6:r.sh.length<=6):bG ay 82 [.fp r.a 0] [] 0 (.b (kK r)) [] 0:=by
 have hRB: ∀j,ab j r.a=true:=λj=>Rm.aj j r;have hr2:r.a[2]? =some (.fz (rows Tp.l r.tp) r.tp.length):=rfl;have hr0:r.a[0]? =some (.fz (rows Mb.l r.ms) r.ms.length):=rfl;have hm6:r.ms.length<=6:=by simp_all [Rm.ok,ak,bg]
 have hrA:=dH r;have hk148: ∀(h:Hp) n b,aa h b=some {cells:=[.fp r.a 0]}->cu Bg [.fz (rows Tp.l r.tp) r.tp.length,.fn 149 [.p b 0]] h n=some (true,{v:= .b (eE (nz r) r.tp 0),n,rd:=[b]}):=λh n b hb=>by
  simp only [cu,bn,bI,kC,jH,vA (hRB 0),ef (fb 0 r.tp),hb,aC,eo,Bg,F1,dH,hr,qj,aG];rfl
 have hk72:r.tp.length<=36-> ∀(m:Int) (h:Hp) n,CN [.fp r.a 0,.i .i64 m] h n=some (true,{v:= .fz (rows (nQ (rows Tp.l r.tp)) (dw r.tp m)) (dw r.tp m).length,n}):=λhl m h n=>by
  grind [CN,aC,af]
 have htl:=λh=>FX (r:=r) h hm6 hs6;have hR:kK r=(eE (nz r) r.tp 0&&jB (wX r.tp) r.ms.length):=rfl;generalize kK r=R at hR ⊢;generalize eE (nz r) r.tp 0=A at*;have hcell: ∀(i:Nat) (t:Tp),r.tp[i]? =some t->(rows Tp.l r.tp)[i*22+5]? =some (.i .i64 t.sw.ou):=λi t ht=>bM (f:=Tp.l) (z:=22) (j:=5) (v:= .i .i64 t.sw.ou) Tp.len ht rfl;have hTB:=fb 0 r.tp;generalize r.a=RA at*;generalize r.ms.length=nm at*;generalize r.tp=tp at*;generalize rows Tp.l tp=T at*;have hTB': ∀j,ab j T=true:=λj=>au _ hTB;refine ew (cx:=cj ZC) Zi Tryz.func82 XB ?_
 dsimp only [i82,ZC];cases A
 ·simp only [go_sem,hr2,hk148,simprocAttr];exact Ends.aw rfl (by rw [hR];rfl)
 have h36:=htl rfl;have hk72:=hk72 h36;simp only [go_sem,hr2,hr0,hk148,simprocAttr];refine Loop.dV (F:=F82) Zi mo nm (λk=>jB (wX tp) k=true)
  (λk=>[(1,.p 0 0),(21,.i .i64 (nm:Int)),(22,.i .i64 (k:Int))])
  (λk=>[(0,{cells:=[.fp RA 0]})]) 1 (by decide) rfl ?_ ?_ (λk hk ho=> ?_)
 ·simp only [go_sem,AV.aj,aP,simprocAttr]
 ·simp only [go_sem,AV.aj,ab,hRB,simprocAttr]
 dsimp only [F82,ZC];by_cases hlt:k<nm
 rotate_left
 ·have c1:decide ((k:Int)<(nm:Int))=false:=bw (by omega)
  obtain rfl:k=nm:=by omega
  simp only [go_sem,simprocAttr];exact Ends.aw rfl (by grind)
 have c1:decide ((k:Int)<(nm:Int))=true:=af (by omega)
 have hw:IntKind.i64.wrap ((k:Int)+1)=((k+1:Nat):Int):=by grind [aN]
 have hk72:=hk72 (k:Int);have hmt:wX tp k=(eQ (sU tp k)&&decide ((dw tp k).length<=5)):=rfl;have hnl:=Lu (sU tp k);have hol:(sU tp k).length=(dw tp k).length:=by simp [sU]
 have hoL:(dw tp k).length<=36:=oP (yC _ _ _) h36;have hoi: ∀(j i:Nat),(dw tp k)[j]? =some i-> ∃t:Tp,tp[i]? =some t/\(sU tp k)[j]? =some t.sw.ou:=λj i hi=>by
  obtain ⟨_,t,ht,_⟩:=jc (bJ hi)
  grind [sU,dX,iI,Mn]
 have hf:jB (wX tp) (k+1)=(jB (wX tp) k&&wX tp k):=rfl;have hff:=Kj (f:=wX tp) hlt;rw [ho,mP] at hf;generalize wX tp k=M at*;generalize sU tp k=os at*;generalize dw tp k=q at*;have hpB: ∀j,ab j (rows (nQ T) q)=true:=λj=>au _ (bh (Ky hTB));have hpat: ∀(j i:Nat),q[j]? =some i->(rows (nQ T) q)[j]? =some (.fp T (i*22)):=λj i hi=>by
  have:=bM (f:=nQ T) (z:=1) (j:=0) (v:= .fp T (i*22)) (qI T) hi rfl
  grind
 generalize rows (nQ T) q=PL at*;simp only [go_sem,c1,hk72,simprocAttr];refine Loop.dV (F:=F82) Zi mo q.length (λ_=>True)
  (λj=>[(1,.p 0 0),(4,.m 1),(5,.fz PL q.length),(21,.i .i64 (nm:Int)),(22,.i .i64 (k:Int)),(29,.fz PL q.length),(30,.i .i64 (q.length:Int)),(31,.i .i64 (j:Int))])
  (λj=>[(1,sj (Dt os j)),(0,{cells:=[.fp RA 0]})]) 2 (by decide) trivial ?_ ?_ (λj hj _=> ?_)
 ·simp only [go_sem,AV.aj,aP,hpB,simprocAttr]
 ·simp only [go_sem,AV.aj,ab,hRB,T6,simprocAttr];exact ⟨rfl,rfl⟩
 dsimp only [F82,ZC];by_cases hjl:j<q.length
 ·have d1:decide ((j:Int)<(q.length:Int))=true:=af (by omega)
  have d2:decide (0<=(j:Int)/\(j:Int)<(q.length:Int))=true:=af (by omega)
  have hw2:IntKind.i64.wrap ((j:Int)+1)=((j+1:Nat):Int):=by grind [aN]
  obtain ⟨i,hi⟩: ∃i,q[j]? =some i:=⟨_,bj hjl⟩;obtain ⟨t,ht,hos⟩:=hoi j i hi;have hp:=hpat j i hi;have hc:=hcell i t ht;rw [La hos];have hb:=tD;generalize iK 2 _=K0;generalize Dt os j=K at*;generalize t.sw.ou=x at*;have hfn:=TO K x;have hl:=wS K.length;cases hx:K.contains x
  ·rw [Um hx] at hfn;have hs:uD K.length++[.b true]=uD (uj K x).length:=by unfold uD uj;rw [hx,cond_false,cm,uU,List.replicate_succ']
   have hK:K++[x]=uj K x:=by grind [uj]
   have hb2:=hb 2 (uj K x).length;simp only [sj];generalize uD (uj K x).length=C2 at*;generalize uj K x=K2 at*;generalize uD K.length=C at*;simp only [go_sem,d1,d2,hp,hc,hw2,hfn,hl,hs,hK,hjl,AV.aj,ab,aP,hRB,hpB,hb2,di,simprocAttr]
  ·obtain ⟨i0,hi0,hil⟩:=T1 hx;rw [hi0] at hfn;have hs:=GG (i:=i0) (k:=K.length);have hg:=Bt hil;have hK:uj K x=K:=by grind [uj]
   rw [hK];have hb2:=hb 2 K.length;simp only [sj];generalize uD K.length=C at*;simp only [go_sem,d1,d2,hp,hc,hw2,hfn,hl,hs,hjl,AV.aj,ab,aP,hRB,hpB,hb2,di,simprocAttr]
 ·have d1:decide ((j:Int)<(q.length:Int))=false:=bw (by omega)
  obtain rfl:j=q.length:=by omega
  have n1:decide (((Dt os q.length).length:Int)<(q.length:Int))= !eQ os:=by
   grind
  have n2:decide ((q.length:Int)>5)= !decide (q.length<=5):=by grind
  simp only [sj];generalize Dt os q.length=K at*;generalize uD K.length=C at*;cases m1:eQ os
  ·rw [m1] at hmt;simp only [go_sem,n1,m1,simprocAttr];exact Ends.aw rfl (by grind)
  cases m2:decide (q.length<=5)
  ·rw [m1,m2] at hmt;simp only [go_sem,n1,m1,n2,m2,simprocAttr];exact Ends.aw rfl (by grind)
  ·rw [m1,m2] at hmt;simp only [go_sem,n1,m1,n2,m2,hw,hlt,AV.aj,ab,aP,hRB,simprocAttr]
   grind
def k82:Ct
 |[.fp c 0],_,n=>(qX c).bind λr=>some (r.ok&&decide (r.sh.length<=6),{v:= .b (kK r),n})
 |_,_,_=>none
theorem s82:ax ay 82 k82:=λargs h n c E hc ht=>by
 unfold k82 at hc;split at hc
 ·simp only [av] at hc;obtain ⟨r,hr,he⟩:=hc;cases he;rw [dW hr];simp only [ak,bg] at ht;exact aA.pure (by kernel_rfl) (by simp only [ab,AV.aj,Rm.aj,aG]) rfl (w82 r ht.1 ht.2) _ _
 ·cases hc
/-! Check -/
def aX (r:Rm):Bool:=ij r.ms&&(fB r&&kK r)
def Rm.is (r:Rm):Bool:=decide (r.ms.length<=9223372036854775807)&&(decide (r.sh.length<=9223372036854775807)&&(r.sh.all aW.ok&&(decide (r.tp.length<=9223372036854775807)&&r.tp.all λt=>decide (t.sw.l.length<=9223372036854775807))))
theorem Rm.aep {r:Rm} (h:r.is=true) (h6:r.ms.length<=6):r.ok=true:=by
 simp_all [Rm.is,Rm.ok,ak,bg]
theorem wK {ms:List Mb} (h:ij ms=true):ms.length<=6:=by
 simp_all [ij,ak,bg]
theorem J2 {r:Rm} (h:fB r=true):r.sh.length<=6:=by
 simp_all [fB,ak,bg]
theorem mY (h:Hp) (f:Nat) (r:Rm):lV (Go.Ab.nv h f) r.a=some ([],r.a):=by
 simp [Rm.a,bn,bI,ef,fT,cG,fb,aC]
abbrev D7:List UInt8:=[109,101,109,98,101,114,115]
abbrev HG:List UInt8:=[115,104,111,119,115]
abbrev Ku:List UInt8:=[116,97,112,115]
noncomputable def T17:List (Nat×Ct):=[(80,cu k80),(81,cu k81),(82,cu k82)]
theorem acJ:Sound ay (cj T17):=Sound.cons s80.nv (Sound.cons s81.nv (Sound.cons s82.nv Sound.nil))
theorem w17 (r:Rm) (hr:r.is=true):bG ay 17 [.agg r.a] [] 0 (.i .i64 (if aX r then 0 else 420)) [] 0:=by
 have hrA:=dH r;have hml:r.ms.length<=9223372036854775807:=by simp_all [Rm.is,ak,bg]
 have hsl:r.sh.length<=9223372036854775807:=by simp_all [Rm.is,ak,bg]
 have hso:r.sh.all aW.ok=true:=by simp_all [Rm.is,ak,bg]
 have hv:=λh f=>mY h f r;have hk80: ∀(h:Hp) n,aa h 1=some {cells:=r.a}->cu k80 [.p 1 0] h n=some (true,{v:= .b (ij r.ms),n,rd:=[1]}):=λh n hb=>by
  simp only [cu,bn,bI,jH,hv,hb,aC,eo,k80,hrA,af hml];rfl
 have hk81:ij r.ms=true-> ∀(h:Hp) n,aa h 1=some {cells:=r.a}->cu k81 [.p 1 0] h n=some (true,{v:= .b (fB r),n,rd:=[1]}):=λhm h n hb=>by
  simp only [cu,bn,bI,jH,hv,hb,aC,eo,k81,hrA,af (wK hm),af hsl,hso,aG];rfl
 have hk82:ij r.ms=true->fB r=true-> ∀(h:Hp) n,aa h 1=some {cells:=r.a}->cu k82 [.p 1 0] h n=some (true,{v:= .b (kK r),n,rd:=[1]}):=λhm hs h n hb=>by
  simp only [cu,bn,bI,jH,hv,hb,aC,eo,k82,hrA,Rm.aep hr (wK hm),af (J2 hs),aG];rfl
 have hR:(if aX r then (0:Int) else 420)=if (ij r.ms&&(fB r&&kK r))=true then 0 else 420:=rfl
 generalize (if aX r then (0:Int) else 420)=R at hR ⊢
 have a3:r.a.length=3:=rfl;have ao:aL r.a=true:=rfl;have ad:List.take 3 (List.drop 0 r.a)=r.a:=rfl;generalize ij r.ms=M at*;generalize fB r=S at*;generalize kK r=T at*;generalize r.a=RA at*;have f1:(bL.s []).find (.s D7)=some none:=rfl;have f2:(bL.s [D7]).find (.s HG)=some none:=rfl;have f3:(bL.s [D7,HG]).find (.s Ku)=some none:=rfl;have g1:(bL.s [D7,HG,Ku]).find (.s D7)=some (some 0):=rfl;have g2:(bL.s [D7,HG,Ku]).find (.s HG)=some (some 1):=rfl;have g3:(bL.s [D7,HG,Ku]).find (.s Ku)=some (some 2):=rfl;refine ew (cx:=cj T17) acJ Tryz.func17 Yz ?_
 dsimp only [i17,T17];simp only [go_sem,a3,ad,f1,f2,f3,List.nil_append,ez,simprocAttr];refine Loop.rounds (F:=⟨ay,cj T17,[20,26],28,0⟩) 4 acJ mo ?_;dsimp only [T17];cases M
 ·simp only [go_sem,g1,hk80,simprocAttr];exact Ends.aw rfl (by rw [hR];rfl)
 have hk81:=hk81 rfl;cases S
 ·simp only [go_sem,g1,g2,hk80,hk81,simprocAttr];exact Ends.aw rfl (by rw [hR];rfl)
 have hk82:=hk82 rfl rfl;cases T
 ·simp only [go_sem,g1,g2,g3,hk80,hk81,hk82,simprocAttr];exact Ends.aw rfl (by rw [hR];rfl)
 ·simp only [go_sem,g1,g2,g3,hk80,hk81,hk82,simprocAttr];exact Ends.aw rfl (by rw [hR];rfl)
def yF:Ct
 |[.agg c],_,n=>(qX c).bind λr=>some (r.is,{v:= .i .i64 (if aX r then 0 else 420),n})
 |_,_,_=>none
theorem s17:ax ay 17 yF:=λargs h n c E hc ht=>by
 unfold yF at hc;split at hc
 ·simp only [av] at hc;obtain ⟨r,hr,he⟩:=hc;cases he;rw [dW hr];exact aA.pure (by kernel_rfl) (by simp only [ab,AV.aj,Rm.aj,aG]) rfl (w17 r ht) _ _
 ·cases hc
def vr:Rm:=⟨[],[],[]⟩
def jS (r:Rm×Int):AV:= .bz [.agg r.1.a,.i .i64 r.2]
theorem iF (r:Rm×Int):(jS r).aj 0=true:=by simp only [jS,AV.aj,ab,Rm.aj,aG]
theorem VF {e:Int} {h:Hp} {n:Nat}:aZ 0 (.bz [.agg [.ns,.ns,.ns],.i .i64 e]) h n (jS (vr,e)) [] 0:=by
 refine aZ.wu (l:=[]) (v':=jS (vr,e)) (bW.bz ⟨bW.agg ⟨bW.hit,bW.hit,bW.hit,trivial⟩,bW.refl,trivial⟩) ?_;exact aZ.ends (Ends.aw rfl rfl)
theorem abR {kx:Ct} (hx:ax ay 135 kx) (caps:List AV) (hcaps:ab 0 caps=true) (r:Rm×Int) (hz:r.2≠0->r.1=vr)
 (hv:r.2=0-> ∀(h:Hp) n,kx caps h n=some (true,{v:= .agg r.1.a,n}))
 (hp:r.2≠0-> ∀(h:Hp) n,kx caps h n=some (true,{v:= .bz [],n,pn:=some (eJ r.2)})):bG ay 134 [.fn 135 caps] [] 0 (jS r) [] 0:=by
 have hcx:Sound ay (cj [(135,kx)]):=Sound.cons hx Sound.nil;have hcb: ∀j,ab j caps=true:=λj=>au _ hcaps;refine cz.oQ (pn:=none) AZ.Hm hcx mo Tryz.func134 A0 (by simp [i134]) (pre:=Eb) (ops:=[oo 4 (.N7 193 [.t 2,.t 3])]) rfl (by kernel_rfl) Tryz.func193 BO rfl ?_
 dsimp only [i134];simp only [go_sem,ve,simprocAttr];refine jF (caps:=[.p 0 0,.p 1 0]) (bs:=[0,1]) rfl rfl (by decide) (λGs h1 h2=> ?_)
 obtain ⟨g0,g1,rfl⟩: ∃a b,Gs=[a,b]:=by
  match Gs,h1 with
  |[a,b],_=>exact ⟨a,b,rfl⟩
 refine ⟨by simp [i193],?_⟩
 have hne:g0≠g1:=by grind
 have hgl: ∀a b:List AV,iZ [(1,{cells:=a,gid:=some g1}),(0,{cells:=b,gid:=some g0})] g0=some (.p 0 0)/\iZ [(1,{cells:=a,gid:=some g1}),(0,{cells:=b,gid:=some g0})] g1=some (.p 1 0):=λa b=>by
  have b1:g1.beq g0=false:=by
   grind [absurd,ee]
  simp_all [Nat.beq,iZ,Ae,aa]
 have hgl0:=λa b=>(hgl a b).1;have hgl1:=λa b=>(hgl a b).2;obtain ⟨R,e⟩:=r;dsimp only [nZ,aa] at*;by_cases he:e=0
 ·subst he;have hk:=hv rfl;have a3:R.a.length=3:=rfl;have ao:aL R.a=true:=rfl;have ad:List.take 3 (List.drop 0 R.a)=R.a:=rfl;have hb:=Rm.aj 0 R;simp only [jS];generalize R.a=RA at*;simp only [go_sem,hk,iH,hgl0,hgl1,a3,ao,simprocAttr];dsimp only [i193,eJ];simp only [go_sem,a3,ad,simprocAttr]
  grind [aZ.ends,Ends.aw,AV.aj,ab,aG]
 ·have hk:=hp he;have hzz:=hz he;subst hzz;simp only [go_sem,hk,iH,hgl0,hgl1,simprocAttr];dsimp only [i193,eJ];simp only [go_sem,iI,simprocAttr];exact VF
theorem w59 (r:Rm) (g:FuncId) (fc:List AV) (hfc: ∀h f,lV (Go.Ab.nv h f) fc=some ([],fc)) (hfb:ab 0 fc=true) (res:Rm×Int) (h134:bG ay 134 [.fn 135 [.fp r.a 0,.fp [.fn g fc] 0]] [] 0 (jS res) [] 0):bG ay 59 [.agg r.a,.fn g fc] [] 0 (jS res) [] 0:=by
 have hrb:=Rm.aj 0 r;have hs:=dc (by kernel_rfl) (by grind [ab,AV.aj,aG]) (iF res) h134
 have hat:=λh n=>gC (a0:=[.fn 135 [.fp r.a 0,.fp [.fn g fc] 0]]) (v0:=jS res) h n;generalize kP [.fn 135 [.fp r.a 0,.fp [.fn g fc] 0]] (jS res)=kT at hs hat;have hv:=λh f=>mY h f r;have hk: ∀(h:Hp) n,aa h 0=some {cells:=r.a}->aa h 1=some {cells:=[.fn g fc]}->ff kT [.fn 135 [.p 0 0,.p 1 0]] h n=some (true,{v:=jS res,n,rd:=[0,1],md:=[(0,none),(1,none)]}):=λh n h0 h1=>by
  simp_all [iF,ff,bn,bI,jH,kC,aC,eo,ez,List.nil_append,dh,bV.plain,wN,j4]
 have hcx:Sound ay (cj [(134,ff kT)]):=Sound.cons hs.ng Sound.nil;have a3:r.a.length=3:=rfl;have a0:res.1.a.length=3:=rfl;have ao:aL res.1.a=true:=rfl;have ad:List.take 3 (List.drop 0 res.1.a)=res.1.a:=rfl;have hb:=Rm.aj 0 res.1;obtain ⟨R,e⟩:=res;simp only [jS] at*;generalize R.a=RA at*;generalize r.a=ra at*;refine ew hcx Tryz.func59 IS ?_
 dsimp only [i59];simp only [go_sem,hk,a0,ao,ad,simprocAttr]
 grind [Ends.aw,AV.aj,ab,aG]
/-! Clone of members, with a live result -/
theorem acg (L:List AV):bG ay 152 [.fz L 0] [] 0 .ze [] 0:=TD mo Tryz.func152 (z:=2) (bytes:=24) (zs:=[.s [],.i .i64 0]) Gp L
theorem aed (x:Mb) (l:List Mb) (hl:l.length<=1000):bG ay 152 [.fz (rows Mb.l (x::l)) (l.length+1)] [] 0 (.sg 0 0 (l.length+1)) [(0,{cells:=rows Mb.l (x::l),gr:=some 2})] 1:=
 T5 mo Tryz.func152 (z:=2) (bytes:=24) (zs:=[.s [],.i .i64 0]) Gp (aU (l:=x::l) Mb.len) (dr Mb.one _) (fT 0 _) (by grind [az])
def H6:Ct
 |[.fz L m],_,n=>(bc 2 Tk m L).bind λl=>match l with
  |[]=>some (true,{v:= .ze,n})
  |_=>some (decide (m<=1000),{v:= .sg n 0 m,n:=n+1,nw:=[(n,{cells:=L,gr:=some 2})]})
 |_,_,_=>none
theorem ai4:ax ay 152 H6:=λargs h n c E hc ht=>by
 unfold H6 at hc;split at hc
 ·simp only [av] at hc;obtain ⟨l,hl,he⟩:=hc;obtain ⟨rfl,rfl⟩:=bu Bi hl;cases l with
  |nil=>
   cases he;exact aA.pure (by kernel_rfl) rfl rfl (acg _) _ _
  |cons x l=>
   cases he;have hl:=bN ht;simp only [List.length_cons] at hl;refine (aA.canon (n:=n) (pn:=none) [] [] (by kernel_rfl) rfl (argsL:=[.fz (rows Mb.l (x::l)) (x::l).length]) (by simp only [ab,AV.aj,fT,aG]) trivial (aed x l (by omega)) (cr _) (by simp only [l5,fT,jW];rfl)).cast ?_ ?_
   ·simp only [aS,AV.aQ,jI]
   ·show ({v:= .sg (jA [] n 0) 0 (x::l).length,n:=n+1,rd:=[],md:=[],nw:=[(jA [] n 0,{cells:=aS (jA [] n) (rows Mb.l (x::l)),gr:=some 2})],pn:=none}:bV)=_;rw [jI];rfl
 ·cases hc
/-! what is valid and has no members is empty -/
theorem Bh {r:Rm} (hg:aX r=true) (h0:r.ms=[]):r.sh=[]/\r.tp=[]:=by
 simp only [aX,fB,kK,ak] at hg;obtain ⟨_,⟨_,h2,_⟩,h3,_⟩:=hg;constructor
 ·cases hs:r.sh with
  |nil=>rfl
  |cons s l=>
   rw [hs,iz,ak] at h2;have:=h2.1;simp only [cC,ak,h0,fP] at this;have:=bD this.1;omega
 ·cases ht:r.tp with
  |nil=>rfl
  |cons t l=>
   rw [dt] at h3;have:=h3 0 t (by rw [ht];rfl)
   simp only [nz,ak] at this;have:=(pP this.1).1;rw [h0,fP] at this;omega
theorem ek {r:Rm} (hg:aX r=true):r.ms.length<=6/\r.sh.length<=6/\r.tp.length<=36/\(∀s∈r.sh,s.ss.length<=3/\s.rt.length<=3/\1<=s.ss.length)/\ ∀t∈r.tp,t.sw.l.length<=3:=by
 have hg0:=hg;simp only [aX,fB,kK,ak,bg] at hg;obtain ⟨h1,⟨h2,h3,_⟩,h4,_⟩:=hg;have m6:=wK h1;refine ⟨m6,h2,FX h4 m6 h2,λs hs=> ?_,λt ht=> ?_⟩
 ·have:=du.1 h3 s hs;simp only [cC,ak,ik] at this;have h5:=bD this.2.1;omega
 ·rw [dt] at h4;obtain ⟨k,hk⟩:=gF ht;have:=h4 k t hk;simp only [nz,iJ,ak] at this;have h5:=this.1.2.2;split at h5
  ·simp only [ak] at h5;have:=h5.2.2.2.1;simp only [dv,ak] at this;have:=bD this.1.1;omega
  ·cases h5
theorem An (q:List aW):(gQ aW.l 4 q).plain=true:=(p7 (f:=aW.l) aW.aj aW.len q).pl
theorem Yh (q:List Tp):(gQ Tp.l 22 q).plain=true:=(p7 (f:=Tp.l) Tp.aj Tp.len q).pl
theorem Pe {x:Nat} (q:List aW):yW (mz ((gQ aW.l 4 q).bl 3)) ((gQ aW.l 4 q).bl 3++[x])=true:=by
 unfold gQ;split<;>rfl
theorem RO {a b:bp} {r:Hp} (q:List aW):A9 ((5,a)::(4,b)::((gQ aW.l 4 q).h 3++r)) (mz ((gQ aW.l 4 q).bl 3))=true:=by
 unfold gQ;split<;>rfl
theorem VN {x:Nat} (q:List Tp):yW (mz ((gQ Tp.l 22 q).bl 4)) ((gQ Tp.l 22 q).bl 4++[x])=true:=by
 unfold gQ;split<;>rfl
theorem Ww {a b:bp} {r:Hp} (q:List Tp):A9 ((6,a)::(5,b)::((gQ Tp.l 22 q).h 4++r)) (mz ((gQ Tp.l 22 q).bl 4))=true:=by
 unfold gQ;split<;>rfl
noncomputable def RQ:List (Nat×Ct):=[(17,yF),(62,gA),(90,vS),(152,H6)]
theorem EU:Sound ay (cj RQ):=Sound.cons s17 (Sound.cons Ad (Sound.cons ZW (Sound.cons ai4 Sound.nil)))
noncomputable abbrev Th:Fx:=⟨ay,cj RQ,[22,50],73,0⟩
theorem ahU (r:Rm) (hr:r.is=true) (hg:aX r=false):cz ay 85 [.agg r.a] [] 0 (some (eJ 420)) (.bz []) [] 0:=by
 have hk: ∀(h:Hp) n,yF [.agg r.a] h n=some (true,{v:= .i .i64 420,n}):=λh n=>by
  grind [yF,dH,aC]
 have a3:r.a.length=3:=rfl;have ad:List.take 3 (List.drop 0 r.a)=r.a:=rfl;generalize r.a=ra at*;refine cz.dQ EU mo Tryz.func85 DB (by simp [i85]) (aO ?_)
 dsimp only [i85,RQ];simp only [go_sem,hk,a3,ad,gA,simprocAttr];exact Ends.aw rfl rfl
theorem agl (r:Rm) (hr:r.is=true) (hg:aX r=true) (h0:r.ms=[]):bG ay 85 [.agg r.a] [] 0 (.p 0 0) [(0,{cells:=[.ze,.ns,.ns]})] 1:=by
 obtain ⟨hs0,ht0⟩:=Bh hg h0;have hk: ∀(h:Hp) n,yF [.agg r.a] h n=some (true,{v:= .i .i64 0,n}):=λh n=>by
  grind [yF,dH,aC]
 obtain ⟨ms,sh,tp⟩:=r;dsimp only at h0 hs0 ht0;subst h0 hs0 ht0;have ea:(Rm.a ⟨[],[],[]⟩)=[.fz [] 0,.fz [] 0,.fz [] 0]:=rfl;have hk2: ∀(h:Hp) n,H6 [.fz [] 0] h n=some (true,{v:= .ze,n}):=λh n=>rfl;rw [ea] at hk ⊢;refine ew EU Tryz.func85 DB ?_
 dsimp only [i85,RQ];simp only [go_sem,hk,hk2,gA,simprocAttr];refine Loop.rounds (F:=Th) 1 EU mo ?_;dsimp only [Th,RQ];simp only [go_sem,simprocAttr];refine Loop.rounds (F:=Th) 1 EU mo ?_;dsimp only [Th,RQ];simp only [go_sem,simprocAttr];refine Ends.R [(0,1)] (by decide) (by decide) rfl rfl ?_
 exact ⟨rfl,rfl,by decide,trivial⟩
theorem Pt (mv rc:List AV) (ms:List AV) (nm:Nat) (sh:List aW) (hl:sh.length<=6) (hok: ∀s∈sh,s.ss.length<=3/\s.rt.length<=3/\1<=s.ss.length) (hrc:ab 0 rc=true) (hms:ab 0 ms=true) (hr2:rc[2]? =some (.fz mv nm)) {K:bX} {e:Env} {h:Hp} {n:Nat} {N:Nat}
 (he:jz 4 [] e [(1,.p 0 0),(3,.p 2 0),(19,.fz (rows aW.l sh) sh.length),(20,.i .i64 (sh.length:Int)),(21,.i .i64 0)])
 (hh:iW 4 [] h [(2,{cells:=[.sg 1 0 N,.ns,.ns]}),(1,{cells:=ms,gr:=some 2}),(0,{cells:=rc})])
 (hK: ∀e',bC e' 1=some (.p 0 0)->bC e' 3=some (.p 2 0)->K (.exit 0) e' ((gQ aW.l 4 sh).h 3++[(2,{cells:=[.sg 1 0 N,(gQ aW.l 4 sh).v 3,.ns]}),(1,{cells:=ms,gr:=some 2}),(0,{cells:=rc})]) 4):
 Ab.Loop ay [22,50] 73 0 aai K e h n:=by
 have hsB: ∀j,ab j (rows aW.l sh)=true:=λj=>cG j sh;have hsR: ∀g,aS g (rows aW.l sh)=rows aW.l sh:=λg=>dT g sh;have hrB: ∀j,ab j rc=true:=λj=>au _ hrc;have hrR: ∀g,aS g rc=rc:=λg=>aJ _ hrc;have hmB: ∀j,ab j ms=true:=λj=>au _ hms;have hmR: ∀g,aS g ms=ms:=λg=>aJ _ hms;have hSat: ∀(k:Nat) x,sh[k]? =some x->List.take 4 (List.drop (k*4) (rows aW.l sh))=x.l:=λk x hk=>dm aW.len hk;have htk:sh.take sh.length=sh:=jh;refine Loop.nM (F:=Th) EU mo (X:=Nat) (λk=>k<=sh.length) (λk=>sh.length-k)
  (λk=>[(1,.p 0 0),(3,.p 2 0),(19,.fz (rows aW.l sh) sh.length),(20,.i .i64 (sh.length:Int)),(21,.i .i64 (k:Int))])
  (λk=>(gQ aW.l 4 (sh.take k)).h 3++[(2,{cells:=[.sg 1 0 N,(gQ aW.l 4 (sh.take k)).v 3,.ns]}),(1,{cells:=ms,gr:=some 2}),(0,{cells:=rc})]) 4 0 (λk=>k+1) [] (λ_=>[(3,6)]) (by decide) (by decide) (λk=>by decide) (cr _) he hh (λk hk=> ?_)
 dsimp only [Th,RQ];by_cases hlt:k<sh.length
 ·have c1:decide ((k:Int)<(sh.length:Int))=true:=af (by omega)
  have c2:decide (0<=(k:Int)/\(k:Int)<(sh.length:Int))=true:=af (by omega)
  have hw:IntKind.i64.wrap ((k:Int)+1)=((k+1:Nat):Int):=by grind [aN]
  obtain ⟨x,hx⟩: ∃x,sh[k]? =some x:=⟨_,bj hlt⟩;have hr:=hSat k x hx;obtain ⟨l1,l2,l3⟩:=hok x (bJ hx);have htk1:sh.take (k+1)=sh.take k++[x]:=by grind [jY]
  have hql:(sh.take k).length<=6:=by grind
  rw [htk1];generalize sh.take k=q at*;have gm:decide (64*(q.length+1)<=az)=true:=af (by grind [az])
  have zR:(rows aW.l q).length=q.length*4:=aU aW.len;have pk:=An q;have pk':=An (q++[x]);rw [ji] at pk' ⊢;have hsk:sh.length-(k+1)<sh.length-k:=by omega
  obtain ⟨ow,ss,rt,bl⟩:=x;dsimp only at l1 l2;simp only [aW.l] at hr pk';have hk1: ∀(h:Hp) n,vS [.fz (rows aq ss) ss.length] h n=some (true,{v:= .fz (rows aq ss) ss.length,n}):=λh n=>by
   simp only [vS,eD,aC,af (show 8*ss.length<=az by simp only [az];omega)]
  have hk2: ∀(h:Hp) n,vS [.fz (rows aq rt) rt.length] h n=some (true,{v:= .fz (rows aq rt) rt.length,n}):=λh n=>by
   simp only [vS,eD,aC,af (show 8*rt.length<=az by simp only [az];omega)]
  simp only [go_sem,c1,c2,hr,hw,hk1,hk2,gm,zR,pk',hsk,AV.aj,ab,aP,bp.aQ,aS,AV.aQ,hsB,hsR,hrB,hrR,hmB,hmR,aW.l,kA,simprocAttr];rw [Pe,RO];exact ⟨rfl,hlt⟩
 ·have c1:decide ((k:Int)<(sh.length:Int))=false:=bw (by omega)
  obtain rfl:k=sh.length:=by omega
  rw [htk];simp only [go_sem,simprocAttr];exact hK _ rfl rfl
theorem RT (mv rc:List AV) (ms:List AV) (S:Go.Ab.Sh) (hS:S.plain=true) (nm:Nat) (tp:List Tp) (hl:tp.length<=36) (hok: ∀t∈tp,t.sw.l.length<=3) (hrc:ab 0 rc=true) (hms:ab 0 ms=true) {K:bX} {e:Env} {h:Hp} {n:Nat} {N:Nat}
 (he:jz 5 [] e [(3,.p 2 0),(47,.fz (rows Tp.l tp) tp.length),(48,.i .i64 (tp.length:Int)),(49,.i .i64 0)])
 (hh:iW 5 [] h (S.h 3++[(2,{cells:=[.sg 1 0 N,S.v 3,.ns]}),(1,{cells:=ms,gr:=some 2}),(0,{cells:=rc})]))
 (hK: ∀e',bC e' 3=some (.p 2 0)->K (.exit 2) e' ((gQ Tp.l 22 tp).h 4++(S.h 3++[(2,{cells:=[.sg 1 0 N,S.v 3,(gQ Tp.l 22 tp).v 4]}),(1,{cells:=ms,gr:=some 2}),(0,{cells:=rc})])) 5):
 Ab.Loop ay [22,50] 73 0 Zw K e h n:=by
 have hsB: ∀j,ab j (rows Tp.l tp)=true:=λj=>fb j tp;have hsR: ∀g,aS g (rows Tp.l tp)=rows Tp.l tp:=λg=>jC g tp;have hrB: ∀j,ab j rc=true:=λj=>au _ hrc;have hrR: ∀g,aS g rc=rc:=λg=>aJ _ hrc;have hmB: ∀j,ab j ms=true:=λj=>au _ hms;have hmR: ∀g,aS g ms=ms:=λg=>aJ _ hms;have hSat: ∀(k:Nat) x,tp[k]? =some x->List.take 22 (List.drop (k*22) (rows Tp.l tp))=x.l:=λk x hk=>dm Tp.len hk;have htk:tp.take tp.length=tp:=jh;refine Loop.nM (F:=Th) EU mo (X:=Nat) (λk=>k<=tp.length) (λk=>tp.length-k)
  (λk=>[(3,.p 2 0),(47,.fz (rows Tp.l tp) tp.length),(48,.i .i64 (tp.length:Int)),(49,.i .i64 (k:Int))])
  (λk=>(gQ Tp.l 22 (tp.take k)).h 4++(S.h 3++[(2,{cells:=[.sg 1 0 N,S.v 3,(gQ Tp.l 22 (tp.take k)).v 4]}),(1,{cells:=ms,gr:=some 2}),(0,{cells:=rc})])) 5 0 (λk=>k+1) [] (λ_=>[(4,7)]) (by decide) (by decide) (λk=>by decide) (cr _) he hh (λk hk=> ?_)
 dsimp only [Th,RQ];by_cases hlt:k<tp.length
 ·have c1:decide ((k:Int)<(tp.length:Int))=true:=af (by omega)
  have c2:decide (0<=(k:Int)/\(k:Int)<(tp.length:Int))=true:=af (by omega)
  have hw:IntKind.i64.wrap ((k:Int)+1)=((k+1:Nat):Int):=by grind [aN]
  obtain ⟨x,hx⟩: ∃x,tp[k]? =some x:=⟨_,bj hlt⟩;have hr:=hSat k x hx;have l1:=hok x (bJ hx);have htk1:tp.take (k+1)=tp.take k++[x]:=by grind [jY]
  have hql:(tp.take k).length<=36:=by grind
  rw [htk1];generalize tp.take k=q at*;have gm:decide (192*(q.length+1)<=az)=true:=af (by grind [az])
  have zR:(rows Tp.l q).length=q.length*22:=aU Tp.len;have pk:=Yh q;have pk':=Yh (q++[x]);rw [ji] at pk' ⊢;have hsk:tp.length-(k+1)<tp.length-k:=by omega
  have x22:x.l.length=22:=rfl;have xo:aL x.l=true:=rfl;have xd:List.take 22 (List.drop 0 x.l)=x.l:=rfl;have x4:x.l[4]? =some (.fz (rows aq x.sw.l) x.sw.l.length):=rfl;have xs:List.take 4 x.l++[.fz (rows aq x.sw.l) x.sw.l.length]++List.drop (4+1) x.l=x.l:=rfl;have xb: ∀j,ab j x.l=true:=λj=>au _ (Tp.aj x);have xr: ∀g,aS g x.l=x.l:=λg=>aJ _ (Tp.aj x);have hk1: ∀(h:Hp) n,vS [.fz (rows aq x.sw.l) x.sw.l.length] h n=some (true,{v:= .fz (rows aq x.sw.l) x.sw.l.length,n}):=λh n=>by
   simp only [vS,eD,aC,af (show 8*x.sw.l.length<=az by simp only [az];omega)]
  generalize x.sw.l=sl,x.l=XL at*;simp only [go_sem,c1,c2,hr,hw,hk1,gm,zR,pk',hsk,x22,xo,xd,x4,xs,AV.aj,ab,aP,bp.aQ,aS,AV.aQ,hsB,hsR,hrB,hrR,hmB,hmR,hS,kA,simprocAttr];rw [VN,Ww];exact ⟨rfl,hlt⟩
 ·have c1:decide ((k:Int)<(tp.length:Int))=false:=bw (by omega)
  obtain rfl:k=tp.length:=by omega
  rw [htk];simp only [go_sem,simprocAttr];exact hK _ rfl
abbrev LJ (r:Rm) (a b c:Nat):bp:={cells:=[.sg a 0 r.ms.length,(gQ aW.l 4 r.sh).v b,(gQ Tp.l 22 r.tp).v c]}
abbrev eS (r:Rm):bp:={cells:=rows Mb.l r.ms,gr:=some 2}
theorem w85 (r:Rm) (hr:r.is=true) (hg:aX r=true) (h0:r.ms≠[]):bG ay 85 [.agg r.a] [] 0 (.p 0 0) ((0,LJ r 1 2 3)::(1,eS r)::((gQ aW.l 4 r.sh).h 2++(gQ Tp.l 22 r.tp).h 3)) 4:=by
 obtain ⟨m6,s6,t36,hso,hto⟩:=ek hg;have hk: ∀(h:Hp) n,yF [.agg r.a] h n=some (true,{v:= .i .i64 0,n}):=λh n=>by
  grind [yF,dH,aC]
 have a3:r.a.length=3:=rfl;have ad:List.take 3 (List.drop 0 r.a)=r.a:=rfl;have r0:r.a[0]? =some (.fz (rows Mb.l r.ms) r.ms.length):=rfl;have r1:r.a[1]? =some (.fz (rows aW.l r.sh) r.sh.length):=rfl;have r2:r.a[2]? =some (.fz (rows Tp.l r.tp) r.tp.length):=rfl;have hrb:=Rm.aj 0 r;have hkc: ∀(h:Hp) n,H6 [.fz (rows Mb.l r.ms) r.ms.length] h n=some (true,{v:= .sg n 0 r.ms.length,n:=n+1,nw:=[(n,{cells:=rows Mb.l r.ms,gr:=some 2})]}):=λh n=>by
  grind [decide,af,H6,Fb,aC,absurd]
 have hl1:= @Pt (rows Tp.l r.tp) r.a (rows Mb.l r.ms) r.tp.length r.sh s6 hso hrb (fT 0 r.ms) r2;have hl2:= @RT (rows Tp.l r.tp) r.a (rows Mb.l r.ms) (gQ aW.l 4 r.sh) (An r.sh) r.tp.length r.tp t36 hto hrb (fT 0 r.ms);have pS:=An r.sh;have pT:=Yh r.tp;have hsB: ∀j,ab j (rows aW.l r.sh)=true:=λj=>cG j r.sh;have hsR: ∀g,aS g (rows aW.l r.sh)=rows aW.l r.sh:=λg=>dT g r.sh;have htB: ∀j,ab j (rows Tp.l r.tp)=true:=λj=>fb j r.tp;have htR: ∀g,aS g (rows Tp.l r.tp)=rows Tp.l r.tp:=λg=>jC g r.tp;have hmB: ∀j,ab j (rows Mb.l r.ms)=true:=λj=>fT j r.ms;have hmR: ∀g,aS g (rows Mb.l r.ms)=rows Mb.l r.ms:=λg=>jI g r.ms;have hrB: ∀j,ab j r.a=true:=λj=>Rm.aj j r;have hrR: ∀g,aS g r.a=r.a:=λg=>aJ _ hrb;simp only [LJ,eS];generalize r.a=RA,gQ aW.l 4 r.sh=gS,gQ Tp.l 22 r.tp=gT at*;refine ew EU Tryz.func85 DB ?_
 dsimp only [i85,RQ];simp only [go_sem,hk,a3,ad,gA,r0,r1,hkc,simprocAttr];refine hl1 (N:=r.ms.length) ?_ ?_ (λe' he1 he3=> ?_)
 ·simp only [go_sem,AV.aj,aP,AV.aQ,hsB,hsR,simprocAttr]
 ·simp only [go_sem,AV.aj,ab,aP,bp.aQ,AV.aQ,aS,hmB,hmR,hrB,hrR,simprocAttr]
 simp only [go_sem,he1,r2,simprocAttr];refine hl2 (N:=r.ms.length) ?_ ?_ (λe2 he3=> ?_)
 ·simp only [go_sem,AV.aj,aP,AV.aQ,htB,htR,he3,simprocAttr]
 ·simp only [go_sem,pS,AV.aj,ab,aP,bp.aQ,AV.aQ,aS,hmB,hmR,hrB,hrR,simprocAttr]
 simp only [go_sem,he3,simprocAttr];refine Ends.R [(0,2),(2,3),(3,4)] (by decide) (by decide) ?_ ?_ ?_
 ·rfl
 ·rfl
 ·simp only [go_sem,pS,pT,AV.aj,ab,aP,bp.aQ,AV.aQ,aS,hmB,hmR,simprocAttr]
theorem lz {α:Type} (f:α->List AV) (z:Nat) (l:List α):gQ f z l= .nil\/gQ f z l= .sg {cells:=rows f l,gr:=some z} 0 l.length:=by
 grind [gQ,inl]
end Go.Proofs.Rom
