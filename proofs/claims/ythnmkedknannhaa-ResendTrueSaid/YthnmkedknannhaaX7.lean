/- Texts laid as one: ResC4 ResC5 ResC6 ResC7 ResC8 ResC9 ResD1 ResC10 ResC11 ResC12 ResC13 ResD2 ResC14 ResC15 ResC16 ResJ. -/
import Derived.Test.YthnmkedknannhaaX6
set_option maxRecDepth 100000
set_option maxHeartbeats 4000000
set_option linter.unusedSimpArgs false
set_option linter.unusedVariables false
namespace Go.Proofs.Res
open Go.Ab
def Wka (a b:AV):Prop:= ∀D φ u,VRel D φ a u->VRel D φ b u
def WkaL:List AV->List AV->Prop
 |[],[]=>True
 |a::l,b::m=>Wka a b/\WkaL l m
 |_,_=>False
theorem WkaL.all {D:Nat->Prop} {φ:Phi}: ∀{l m:List AV} {us:List Value},WkaL l m->All2 D φ l us->All2 D φ m us
 |[],[],_,_,h=>h
 |a::l,b::m,us,h,h2=>by
  obtain ⟨u,us',rfl,hu,ht⟩:=h2.uncons;exact .cons (h.1 _ _ _ hu) (WkaL.all h.2 ht)
 |[],_::_,_,h,_=>h.elim
 |_::_,[],_,h,_=>h.elim
theorem Wka.refl (a:AV):Wka a a:=fun _ _ _ h=>h
theorem Wka.ns:Wka .ns (.fz [] 0):=fun _ _ _ h=>by cases h;exact .fz0 _ _ _ (fun _=>rfl)
theorem Wka.ze:Wka .ze (.fz [] 0):=fun _ _ _ h=>by cases h;exact .fz0 _ _ _ (fun _=>rfl)
theorem Wka.agg {l m:List AV} (h:WkaL l m):Wka (.agg l) (.agg m):=fun D φ u hu=>by
 obtain ⟨us,rfl,ha⟩:=hu.agg_inv;exact VRel.agg' (h.all ha)
theorem FTL.wka {P:Program} {f:FuncId} {xs ys:List AV} {h h':Hp} {n n':Nat} {v:AV} (hw:WkaL xs ys) (hf:FTL P f ys h n v h' n'):FTL P f xs h n v h' n':=
 fun D φ w us hD hH hA=>hf D φ w us hD hH (hw.all hA)
theorem WkaL.refl: ∀l:List AV,WkaL l l
 |[]=>trivial
 |a::l=>⟨Wka.refl a,WkaL.refl l⟩
theorem FTL.wkaH {P:Program} {f:FuncId} {a b:AV} {r:List AV} {h h':Hp} {n n':Nat} {v:AV} (hw:Wka a b) (hf:FTL P f (b::r) h n v h' n'):FTL P f (a::r) h n v h' n':=
 FTL.wka (xs:=a::r) (ys:=b::r) ⟨hw,WkaL.refl r⟩ hf
def wsA:List AV->Option Ws
 |[.i .i64 ti,.b st,.i .i64 tp,.fz L m]=>(unrows 4 wt4 m (L.take (m*4))).bind fun l=>bif belL 0 L then some ⟨ti,st,tp,l⟩ else none
 |[.i .i64 ti,.b st,.i .i64 tp,.ns]=>some ⟨ti,st,tp,[]⟩
 |_=>none
theorem Wka.take (l:List AV) (k m:Nat):Wka (.fz l m) (.fz (l.take k) m):=fun D φ u h=>by
 have hlen:(l.take k).length<=l.length:=List.length_take_le' _ _;cases h with
 |fz _ _ B o cap vs hB hc hs h=>
  refine .fz _ _ B o cap vs hB hc (fun i hi=>hs i (by omega)) (fun i a u h1 h2=>h i a u ?_ h2)
  rw [List.getElem?_take] at h1;split at h1
  ·exact h1
  ·cases h1
 |fz0 _ x cap hc=>exact .fz0 _ x cap hc
theorem rows_take {α:Type} {f:α->List AV} {z:Nat} (hf: ∀a,(f a).length=z): ∀(l:List α) (m:Nat),(rows f l).take (m*z)=rows f (l.take m)
 |[],m=>by simp [rows]
 |a::l,0=>by simp [rows]
 |a::l,m+1=>by
  have e:rows f (a::l)=f a++rows f l:=rfl;have e2:rows f (a::l.take m)=f a++rows f (l.take m):=rfl;rw [List.take_succ_cons,e,e2,<-rows_take hf l m,List.take_append];have h1:List.take ((m+1)*z) (f a)=f a:=List.take_of_length_le (by rw [hf,Nat.succ_mul];omega)
  have h2:(m+1)*z-(f a).length=m*z:=by rw [hf,Nat.succ_mul];omega
  rw [h1,h2]
theorem wt4_un (l:List Wt):unrows 4 wt4 l.length (rows Wt.l l)=some l:=unrows_rows Wt.len wt4_l l
theorem wsA_a (w:Ws):wsA w.a=some w:=by
 obtain ⟨ti,st,tp,l⟩:=w;have e:(rows Wt.l l).take (l.length*4)=rows Wt.l l:=by rw [rows_take Wt.len,List.take_length]
 simp only [wsA,Ws.a,e,wt4_un,Option.bind_some,rows_bel Wt.bel,cond_true]
theorem wsA_k {c:List AV} {w:Ws} (h:wsA c=some w):Wka (.agg c) (.agg w.a)/\belL 0 c=true:=by
 unfold wsA at h;split at h
 ·rename_i ti st tp L m;simp only [Option.bind_eq_some_iff] at h;obtain ⟨l,hl,h⟩:=h;cases hb:belL 0 L
  ·rw [hb] at h;cases h
  ·rw [hb] at h;cases h;obtain ⟨h1,hm⟩:=unrows_eq (f:=Wt.l) (fun c a h=>wt4_eq h) hl;subst hm;refine ⟨Wka.agg ⟨Wka.refl _,Wka.refl _,Wka.refl _,?_,trivial⟩,by simp only [belL,AV.bel,hb,Bool.and_self]⟩
   show Wka _ (.fz (rows Wt.l l) l.length);rw [<-h1];exact Wka.take _ _ _
 ·cases h;exact ⟨Wka.agg ⟨Wka.refl _,Wka.refl _,Wka.refl _,Wka.ns,trivial⟩,rfl⟩
 ·cases h
def k11:Ct
 |[.agg c],_,n=>(wsA c).bind fun w=>some (decide (w.l.length<=1000000000000),{v:= .i .i64 (if goodB w then 0 else 280),n})
 |_,_,_=>none
theorem s11:SoundAt Try.prog 11 k11:=fun args h n c E hc ht=>by
 unfold k11 at hc;split at hc
 ·simp only [Option.bind_eq_some_iff] at hc;obtain ⟨w,hw,he⟩:=hc;cases he;obtain ⟨h1,h2⟩:=wsA_k hw;exact CallOK.pure (by kernel_rfl) (by simp only [belL,AV.bel,h2,Bool.and_self]) rfl (FTL.wkaH h1 (w11 w (of_decide_eq_true ht))) _ _
 ·cases hc
def T6:List (Nat×Ct):=[(52,k52),(53,k53)]
theorem hT6:Sound Try.prog (cxT T6):=Sound.cons s52 (Sound.cons s53 Sound.nil)
theorem loop12 (w:Ws) (hl:w.l.length<=64) (hti:inI 0 TT w.ti=true) (htp:inI 0 65535 w.tp=true) {K:Kont} {e:Env} {h:Hp} {n:Nat}
 (he:EnvIn 1 e [(1,.p 0 0),(3,.i .i64 (-1001)),(4,.i .i64 0)]) (hh:HpIn 1 h [(0,{cells:=w.a})])
 (hK0: ∀e' h' n',chk w.ti w.tp (-1001) w.l=true->K (.exit 0) e' h' n')
 (hKr: ∀e' h' n',eget e' 2=some (.b false)->chk w.ti w.tp (-1001) w.l=false->K .ret e' h' n'):Ab.Loop Try.prog [10,13,36,41,107,119] 121 0 i12l18 K e h n:=by
 obtain ⟨ti,st,tp,l⟩:=w;have hLb:belL 1 (rows Wt.l l)=true:=belL_mono0 _ (rows_bel Wt.bel);simp only [Ws.a] at he hh hl hti htp hK0 hKr ⊢;have hti:=inI_t hti;simp only [TT] at hti;refine Loop.countI (F:=⟨Try.prog,cxT T6,[10,13,36,41,107,119],121,0⟩) hT6 mo l.length (fun k=>chk ti tp (-1001) l=chk ti tp (lst tp l k) (l.drop k))
  (fun k=>[(1,.p 0 0),(3,.i .i64 (lst tp l k)),(4,.i .i64 (k:Int))])
  (fun k=>[(0,{cells:=[.i .i64 ti,.b st,.i .i64 tp,.fz (rows Wt.l l) l.length]})]) 1 (by decide) rfl he hh (fun k hk hinv=> ?_)
 dsimp only [T6];generalize hG:chk ti tp (-1001) l=gd at hK0 hKr hinv ⊢;by_cases hlt:k<l.length
 ·have c1:decide ((k:Int)<(l.length:Int))=true:=decide_eq_true (by omega)
  have c2:decide (0<=(k:Int)/\(k:Int)<(l.length:Int))=true:=decide_eq_true (by omega)
  have hw:IntKind.i64.wrap ((k:Int)+1)=((k+1:Nat):Int):=by rw [wrapL (by omega) (by omega)];omega
  obtain ⟨x,hx⟩: ∃x,l[k]? =some x:=⟨_,List.getElem?_eq_getElem hlt⟩;have hr:=wt_at hx;have hdr:l.drop k=x::l.drop (k+1):=by
   rw [List.drop_eq_getElem_cons hlt];rw [List.getElem?_eq_getElem hlt] at hx;cases hx;rfl
  have hls:lst tp l (k+1)=lead x.sq tp:=by simp only [lst,hx]
  have hrg:=lst_rng tp l k;have hld:=lead_rng x.sq tp;rw [hdr] at hinv;simp only [chk] at hinv;have hsqq:wantB x ti=true->inI 0 65535 x.sq=true:=wantB_sq;have hbad:wantB x ti=false->gd=false:=fun h=>by rw [hinv,h];rfl
  have hbad2:inI (lst tp l k+1) (-1) (lead x.sq tp)=false->gd=false:=fun h=>by rw [hinv,h];simp
  have hok:wantB x ti=true->inI (lst tp l k+1) (-1) (lead x.sq tp)=true->gd=chk ti tp (lead x.sq tp) (l.drop (k+1)):=fun h1 h2=>by rw [hinv,h1,h2];rfl
  rw [hls];generalize hLk:lst tp l k=lk at*;generalize hLd:lead x.sq tp=ld at*;have hsq': ∀(h:Hp) n,inI 0 65535 x.sq=true->k53 [.i .i64 x.sq,.i .i64 tp,.i .i64 16] h n=some (true,{v:= .i .i64 ld,n}):=fun h n hh=>by
   simp only [k53,hh,htp,Bool.and_self,hLd]
  cases hwb:wantB x ti
  ·have hf:=hbad hwb;obtain ⟨sq,fd,ak,tr⟩:=x;simp only [wantB] at hwb;have hf': ∀e' h' n',eget e' 2=some (.b false)->K .ret e' h' n':=fun e' h' n' q=>hKr e' h' n' q hf;cases h1:decide (sq<0);rotate_left
   ·simp (maxSteps:=400000) only [go_sem,c1,c2,hr,Wt.l,h1,simprocAttr];exact hf' _ _ _ rfl
   cases h2:decide (sq>65535);rotate_left
   ·simp (maxSteps:=400000) only [go_sem,c1,c2,hr,Wt.l,h1,h2,simprocAttr];exact hf' _ _ _ rfl
   cases h3:decide (fd<0);rotate_left
   ·simp (maxSteps:=400000) only [go_sem,c1,c2,hr,Wt.l,h1,h2,h3,simprocAttr];exact hf' _ _ _ rfl
   cases h4:decide (fd>ti);rotate_left
   ·simp (maxSteps:=400000) only [go_sem,c1,c2,hr,Wt.l,h1,h2,h3,h4,simprocAttr];exact hf' _ _ _ rfl
   cases h5:decide (tr<0);rotate_left
   ·simp (maxSteps:=400000) only [go_sem,c1,c2,hr,Wt.l,h1,h2,h3,h4,h5,simprocAttr];exact hf' _ _ _ rfl
   cases h6:decide (tr>6);rotate_left
   ·simp (maxSteps:=400000) only [go_sem,c1,c2,hr,Wt.l,h1,h2,h3,h4,h5,h6,simprocAttr];exact hf' _ _ _ rfl
   cases h7:(tr==0)
   ·have h8:decide (tr>0)=true:=decide_eq_true (by have:=beq_eq_false_iff_ne.1 h7;have:=of_decide_eq_false h5;omega)
    cases h9:decide (ak<fd);rotate_left
    ·simp (maxSteps:=400000) only [go_sem,c1,c2,hr,Wt.l,h1,h2,h3,h4,h5,h6,h7,h8,h9,simprocAttr];exact hf' _ _ _ rfl
    cases h10:decide (ak>ti);rotate_left
    ·simp (maxSteps:=400000) only [go_sem,c1,c2,hr,Wt.l,h1,h2,h3,h4,h5,h6,h7,h8,h9,h10,simprocAttr];exact hf' _ _ _ rfl
    exfalso;simp only [inI,h7] at hwb;simp at*;omega
   ·cases h8:(ak==0)
    ·have h9:(ak !=0)=true:=by simp [bne,h8]
     have h10:decide (tr>0)=false:=decide_eq_false (by have:=beq_iff_eq.1 h7;omega)
     simp (maxSteps:=400000) only [go_sem,c1,c2,hr,Wt.l,h1,h2,h3,h4,h5,h6,h7,h9,h10,simprocAttr];exact hf' _ _ _ rfl
    exfalso;simp only [inI,h7,h8] at hwb;simp at*;omega
  ·have hsq:=hsqq hwb;have hwb':=hwb;have hk53:=fun h n=>hsq' h n hsq;obtain ⟨sq,fd,ak,tr⟩:=x;simp only [wantB,Bool.and_eq_true] at hwb;obtain ⟨⟨⟨g1,g2⟩,g3⟩,g4⟩:=hwb;have g1:=inI_t g1;have g2:=inI_t g2;have g3:=inI_t g3;have h1:decide (sq<0)=false:=decide_eq_false (by omega)
   have h2:decide (sq>65535)=false:=decide_eq_false (by omega)
   have h3:decide (fd<0)=false:=decide_eq_false (by omega)
   have h4:decide (fd>ti)=false:=decide_eq_false (by omega)
   have h5:decide (tr<0)=false:=decide_eq_false (by omega)
   have h6:decide (tr>6)=false:=decide_eq_false (by omega)
   have hin:inI (lk+1) (-1) ld=(!decide (ld<=lk)&& !decide (ld> -1)):=by
    rw [Bool.eq_iff_iff];simp [inI];omega
   have fin: ∀(b:Bool),inI (lk+1) (-1) ld=b->(b=true->gd=chk ti tp ld (l.drop (k+1)))/\(b=false->gd=false):=fun b hb=>⟨fun h=>hok hwb' (by rw [hb,h]),fun h=>hbad2 (by rw [hb,h])⟩
   cases h7:(tr==0)
   ·have h8:decide (tr>0)=true:=decide_eq_true (by have:=beq_eq_false_iff_ne.1 h7;omega)
    simp only [h7,Bool.false_eq_true,if_false] at g4;have g4:=inI_t g4;have h9:decide (ak<fd)=false:=decide_eq_false (by omega)
    have h10:decide (ak>ti)=false:=decide_eq_false (by omega)
    cases a1:decide (ld<=lk)
    ·cases a2:decide (ld> -1)
     ·have hgo:=(fin _ rfl).1 (by rw [hin,a1,a2];rfl)
      simp (maxSteps:=400000) only [go_sem,c1,c2,hr,Wt.l,h1,h2,h3,h4,h5,h6,h7,h8,h9,h10,hk53,a1,a2,hw,hlt,AV.bel,belL,nblt,hLb,simprocAttr];exact hgo
     ·have hgo:=(fin _ rfl).2 (by rw [hin,a1,a2];rfl)
      simp (maxSteps:=400000) only [go_sem,c1,c2,hr,Wt.l,h1,h2,h3,h4,h5,h6,h7,h8,h9,h10,hk53,a1,a2,simprocAttr];exact hKr _ _ _ rfl hgo
    ·have hgo:=(fin _ rfl).2 (by rw [hin,a1];rfl)
     simp (maxSteps:=400000) only [go_sem,c1,c2,hr,Wt.l,h1,h2,h3,h4,h5,h6,h7,h8,h9,h10,hk53,a1,simprocAttr];exact hKr _ _ _ rfl hgo
   ·simp only [h7,if_true] at g4;have h9:(ak !=0)=false:=by simp [bne,g4]
    have h10:decide (tr>0)=false:=decide_eq_false (by have:=beq_iff_eq.1 h7;omega)
    cases a1:decide (ld<=lk)
    ·cases a2:decide (ld> -1)
     ·have hgo:=(fin _ rfl).1 (by rw [hin,a1,a2];rfl)
      simp (maxSteps:=400000) only [go_sem,c1,c2,hr,Wt.l,h1,h2,h3,h4,h5,h6,h7,h9,h10,hk53,a1,a2,hw,hlt,AV.bel,belL,nblt,hLb,simprocAttr];exact hgo
     ·have hgo:=(fin _ rfl).2 (by rw [hin,a1,a2];rfl)
      simp (maxSteps:=400000) only [go_sem,c1,c2,hr,Wt.l,h1,h2,h3,h4,h5,h6,h7,h9,h10,hk53,a1,a2,simprocAttr];exact hKr _ _ _ rfl hgo
    ·have hgo:=(fin _ rfl).2 (by rw [hin,a1];rfl)
     simp (maxSteps:=400000) only [go_sem,c1,c2,hr,Wt.l,h1,h2,h3,h4,h5,h6,h7,h9,h10,hk53,a1,simprocAttr];exact hKr _ _ _ rfl hgo
 ·have c1:decide ((k:Int)<(l.length:Int))=false:=decide_eq_false (by omega)
  obtain rfl:k=l.length:=by omega
  rw [List.drop_length] at hinv;simp (maxSteps:=400000) only [go_sem,c1,simprocAttr];exact hK0 _ _ _ hinv
theorem w12 (w:Ws) (hl:w.l.length<=1000000000000):FTL Try.prog 12 [.agg w.a] [] 0 (.b (goodB w)) [] 0:=by
 have loop:=fun {K:Kont} {e:Env} {h:Hp} {n:Nat} (h1:w.l.length<=64) (h2:inI 0 TT w.ti=true) (h3:inI 0 65535 w.tp=true)=>loop12 w h1 h2 h3 (K:=K) (e:=e) (h:=h) (n:=n);have hgd:goodB w=((inI 0 TT w.ti&&(inI 0 65535 w.tp&&(decide (w.l.length<=64)&&(w.st||(w.tp==0&&w.l.length==0)))))&&chk w.ti w.tp (-1001) w.l):=rfl;generalize hg:goodB w=gd at hgd ⊢;obtain ⟨ti,st,tp,l⟩:=w;simp only [TT] at hgd loop;simp only [Ws.a] at loop hgd ⊢;have n1:decide ((l.length:Int)>64)= !decide (l.length<=64):=by rw [Bool.eq_iff_iff];simp;omega
 have n2:((l.length:Int)==0)=(l.length==0):=by rw [Bool.eq_iff_iff];simp
 have hLb:belL 1 (rows Wt.l l)=true:=belL_mono0 _ (rows_bel Wt.bel);refine FTL.of_iw hT6 mo Try.func12 i12_eq (by simp [i12]) (iw_of_jw ?_)
 dsimp only [i12,T6];cases a1:inI 0 1099511627776 ti
 ·simp (maxSteps:=400000) only [go_sem,k52,a1,simprocAttr];exact Ends.pureE rfl (by rw [hgd,a1];rfl)
 cases st
 ·have e0:(tp==0)=true->l.length=0->chk ti tp (-1001) l=true:=fun _ h=>by rw [List.length_eq_zero_iff.1 h];rfl
  cases a5:(tp==0)
  ·simp (maxSteps:=400000) only [go_sem,k52,a1,a5,simprocAttr];exact Ends.pureE rfl (by rw [hgd,a5];simp)
  ·cases a6:(l.length==0)
   ·simp (maxSteps:=400000) only [go_sem,k52,a1,a5,a6,n2,simprocAttr];exact Ends.pureE rfl (by rw [hgd,a5,a6];simp)
   ·simp (maxSteps:=400000) only [go_sem,k52,a1,a5,a6,n2,simprocAttr];have h0:l.length=0:=by simpa using a6
    have htp:tp=0:=by simpa using a5
    exact Ends.pureE rfl (by rw [hgd,a1,e0 a5 h0,h0,htp];rfl)
 ·cases b1:decide (tp<0);rotate_left
  ·have a2:inI 0 65535 tp=false:=by simp only [inI];rw [decide_eq_false (by have:=of_decide_eq_true b1;omega)];rfl
   simp (maxSteps:=400000) only [go_sem,k52,a1,b1,simprocAttr];exact Ends.pureE rfl (by rw [hgd,a1,a2];rfl)
  cases b2:decide (tp>65535);rotate_left
  ·have a2:inI 0 65535 tp=false:=by simp only [inI];rw [decide_eq_false (p:=tp<=65535) (by have:=of_decide_eq_true b2;omega),Bool.and_false]
   simp (maxSteps:=400000) only [go_sem,k52,a1,b1,b2,simprocAttr];exact Ends.pureE rfl (by rw [hgd,a1,a2];rfl)
  have a2:inI 0 65535 tp=true:=inI_of (by have:=of_decide_eq_false b1;have:=of_decide_eq_false b2;omega)
  cases a3:decide (l.length<=64)
  ·simp (maxSteps:=400000) only [go_sem,k52,a1,b1,b2,n1,a3,simprocAttr];exact Ends.pureE rfl (by rw [hgd,a3];simp)
  have hgd':gd=chk ti tp (-1001) l:=by rw [hgd,a1,a2,a3];simp
  simp (maxSteps:=400000) only [go_sem,k52,a1,b1,b2,n1,a3,simprocAttr];refine loop (of_decide_eq_true a3) a1 a2 ?_ ?_ (fun e' h' n' q=> ?_) (fun e' h' n' q1 q2=> ?_)
  ·simp (maxSteps:=400000) only [go_sem,AV.bel,belL,nblt,hLb,simprocAttr]
  ·simp (maxSteps:=400000) only [go_sem,AV.bel,belL,nblt,hLb,simprocAttr]
  ·simp (maxSteps:=400000) only [go_sem,simprocAttr];exact Ends.pureE rfl (by rw [hgd',q])
  ·simp (maxSteps:=400000) only [go_sem,q1,simprocAttr];exact Ends.pureE rfl (by rw [hgd',q2])
def k12:Ct
 |[.agg c],_,n=>(wsA c).bind fun w=>some (decide (w.l.length<=1000000000000),{v:= .b (goodB w),n})
 |_,_,_=>none
theorem s12:SoundAt Try.prog 12 k12:=fun args h n c E hc ht=>by
 unfold k12 at hc;split at hc
 ·simp only [Option.bind_eq_some_iff] at hc;obtain ⟨w,hw,he⟩:=hc;cases he;obtain ⟨h1,h2⟩:=wsA_k hw;exact CallOK.pure (by kernel_rfl) (by simp only [belL,AV.bel,h2,Bool.and_self]) rfl (FTL.wkaH h1 (w12 w (of_decide_eq_true ht))) _ _
 ·cases hc
def lateS (w:Ws) (now:Int):Int:=bif goodB w then (bif inI w.ti TT now then 0 else 2) else 280
def T7:List (Nat×Ct):=[(11,k11),(12,k12),(49,k49),(52,k52)]
theorem hT7:Sound Try.prog (cxT T7):=Sound.cons s11 (Sound.cons s12 (Sound.cons s49 (Sound.cons s52 Sound.nil)))
theorem w54 (w:Ws) (now:Int) (hl:w.l.length<=1000000000000):FTL Try.prog 54 [.agg w.a,.i .i64 now] [] 0 (.i .i64 (lateS w now)) [] 0:=by
 have hk:=wsA_a w;have hll:decide (w.l.length<=1000000000000)=true:=decide_eq_true hl;generalize hR:lateS w now=R;unfold lateS at hR;generalize hg:goodB w=g at*;obtain ⟨ti,st,tp,l⟩:=w;simp only [Ws.a] at hk ⊢;refine FTL.of_iw hT7 mo Try.func54 i54_eq (by simp [i54]) (iw_of_jw ?_)
 dsimp only [i54,T7];cases g
 ·simp (maxSteps:=400000) only [go_sem,k11,hk,hg,hll,simprocAttr];exact Ends.pureE rfl (by rw [<-hR];rfl)
 ·simp only [TT] at hR;cases h:inI ti 1099511627776 now;all_goals
   simp (maxSteps:=400000) only [go_sem,k11,hk,hg,hll,k49,h,simprocAttr];exact Ends.pureE rfl (by rw [<-hR,h];rfl)
def k54:Ct
 |[.agg c,.i .i64 now],_,n=>(wsA c).bind fun w=>some (decide (w.l.length<=1000000000000),{v:= .i .i64 (lateS w now),n})
 |_,_,_=>none
theorem s54:SoundAt Try.prog 54 k54:=fun args h n c E hc ht=>by
 unfold k54 at hc;split at hc
 ·simp only [Option.bind_eq_some_iff] at hc;obtain ⟨w,hw,he⟩:=hc;cases he;obtain ⟨h1,h2⟩:=wsA_k hw;exact CallOK.pure (by kernel_rfl) (by simp only [belL,AV.bel,h2,Bool.and_self]) rfl (FTL.wkaH h1 (w54 w _ (of_decide_eq_true ht))) _ _
 ·cases hc
def goneB (seq top d:Int) (x:Wt):Bool:=(x.sq==seq)||decide (lead x.sq top-max d 0< -1000)
def T8:List (Nat×Ct):=[(51,k51)]
theorem hT8:Sound Try.prog (cxT T8):=Sound.cons s51 Sound.nil
theorem w55 (seq top d:Int) (x:Wt) (hsq:inI 0 65535 x.sq=true) (ht:inI 0 65535 top=true) (hd:inI (-40000) 40000 d=true):
 FTL Try.prog 55 [.agg x.l,.fp [.i .i64 seq] 0,.fp [.i .i64 top] 0,.fp [.i .i64 d] 0] [] 0 (.b (goneB seq top d x)) [] 0:=by
 have hr:=lead_rng x.sq top;have hd:=inI_t hd;obtain ⟨sq,fd,ak,tr⟩:=x;dsimp only at hsq hr;have hw:IntKind.i64.wrap (lead sq top-max d 0)=lead sq top-max d 0:=wrapL (by omega) (by omega)
 refine FTL.of_iw hT8 mo Try.func55 i55_eq (by simp [i55]) (iw_of_jw ?_)
 dsimp only [i55,T8];cases h:(sq==seq);all_goals
  simp (maxSteps:=400000) only [go_sem,Wt.l,k51,hsq,ht,hw,h,simprocAttr];exact Ends.pureE rfl (by simp only [goneB,h];rfl)
def k55:Ct
 |[.agg c,.p a 0,.p b 0,.p e 0],h,n=>(wt4 c).bind fun x=>(hget h a).bind fun ka=>(oneB ka).bind fun seq=>(hget h b).bind fun kb=>(oneB kb).bind fun top=>(hget h e).bind fun ke=>(oneB ke).bind fun d=>
  some (inI 0 65535 x.sq&&inI 0 65535 top&&inI (-40000) 40000 d,{v:= .b (goneB seq top d x),n,rd:=[a,b,e]})
 |_,_,_=>none
theorem s55:SoundAt Try.prog 55 k55:=fun args h n c E hc ht=>by
 unfold k55 at hc;split at hc
 ·rename_i cc a b e;simp only [Option.bind_eq_some_iff] at hc;obtain ⟨x,hx,ka,hka,seq,hseq,kb,hkb,top,htop,ke,hke,d,hd,he⟩:=hc;cases he;simp only [Bool.and_eq_true] at ht;rw [wt4_eq hx];refine CallOK.viewG (by kernel_rfl) (argsF:=[.agg x.l,.fp ka.cells 0,.fp kb.cells 0,.fp ke.cells 0]) ⟨VwV.same rfl,VwV.p (by simp [only,inl_cons,hka]) (by rw [oneB_eq hseq];rfl) (by rw [oneB_eq hseq]),VwV.p (by simp [only,inl_cons,hkb]) (by rw [oneB_eq htop];rfl) (by rw [oneB_eq htop]),VwV.p (by simp [only,inl_cons,hke]) (by rw [oneB_eq hd];rfl) (by rw [oneB_eq hd]),trivial⟩ rfl ?_
  rw [oneB_eq hseq,oneB_eq htop,oneB_eq hd];exact w55 seq top d x ht.1.1 ht.1.2 ht.2
 ·cases hc
theorem w64 (seq top d:Int) (l:List Wt) (hl:l.length<=1000000000000) (hsq: ∀x∈l,inI 0 65535 x.sq=true) (ht:inI 0 65535 top=true) (hd:inI (-40000) 40000 d=true):
 FTL Try.prog 64 [.fz (rows Wt.l l) l.length,.fn 55 [.fp [.i .i64 seq] 0,.fp [.i .i64 top] 0,.fp [.i .i64 d] 0]] [] 0 (.i .i64 (ixf (goneB seq top d) l 0)) [] 0:=
 ixf_fz (row:=Wt.l) (el:=fun x=> .agg x.l) mo Try.func64 i64_eq (by kernel_rfl) Wt.len Wt.bel rfl (fun _=>rfl) (fun a b h=>by
  obtain ⟨a1,a2,a3,a4⟩:=a;obtain ⟨b1,b2,b3,b4⟩:=b;simp only [Wt.l,AV.agg.injEq,List.cons.injEq,AV.i.injEq,true_and,and_true] at h;obtain ⟨rfl,rfl,rfl,rfl⟩:=h;rfl) l (by omega) (fun x hx=>w55 seq top d x (hsq x hx) ht hd)
def k64:Ct
 |[x,.fn 55 [.p a 0,.p b 0,.p e 0]],h,n=>vwK h 4 x fun rd m cs ok=>(unrows 4 wt4 m cs).bind fun l=>(hget h a).bind fun ka=>(oneB ka).bind fun seq=>(hget h b).bind fun kb=>(oneB kb).bind fun top=>(hget h e).bind fun ke=>(oneB ke).bind fun d=>
  some (ok&&decide (m<=1000000000000)&&l.all (fun x=>inI 0 65535 x.sq)&&inI 0 65535 top&&inI (-40000) 40000 d,{v:= .i .i64 (ixf (goneB seq top d) l 0),n,rd:=a::b::e::rd})
 |_,_,_=>none
theorem s64:SoundAt Try.prog 64 k64:=fun args h n c E hc ht=>by
 unfold k64 at hc;split at hc
 ·rename_i x a b e;rw [vwK_eq] at hc;simp only [Option.bind_eq_some_iff] at hc;obtain ⟨⟨rd,m,cs,ok⟩,hv,l,hl,ka,hka,seq,hseq,kb,hkb,top,htop,ke,hke,d,hd,he⟩:=hc;cases he;simp only [Bool.and_eq_true,decide_eq_true_eq,List.all_eq_true] at ht;obtain ⟨⟨⟨⟨rfl,hm⟩,h1⟩,h2⟩,h3⟩:=ht;obtain ⟨rfl,hlm⟩:=unrows_eq (f:=Wt.l) (fun c a h=>wt4_eq h) hl;subst hlm;refine CallOK.viewG (by kernel_rfl) (argsF:=[.fz (rows Wt.l l) l.length,.fn 55 [.fp ka.cells 0,.fp kb.cells 0,.fp ke.cells 0]]) ⟨vwK_sub hv (rows_bel Wt.bel) (fun c hc=>by simp [inl_cons,hc]),VwV.fn ⟨VwV.p (by simp [only,inl_cons,hka]) (by rw [oneB_eq hseq];rfl) (by rw [oneB_eq hseq]),VwV.p (by simp [only,inl_cons,hkb]) (by rw [oneB_eq htop];rfl) (by rw [oneB_eq htop]),VwV.p (by simp [only,inl_cons,hke]) (by rw [oneB_eq hd];rfl) (by rw [oneB_eq hd]),trivial⟩,trivial⟩ rfl ?_
  rw [oneB_eq hseq,oneB_eq htop,oneB_eq hd];exact w64 seq top d l hm (fun x hx=>h1 x hx) h2 h3
 ·cases hc
/-! Clone and DeleteFunc -/
theorem w57_0 (L:List AV):FTL Try.prog 57 [.fz L 0] [] 0 .ze [] 0:=cln_0 mo Try.func57 (z:=4) (bytes:=32) (zs:=[.i .i64 0,.i .i64 0,.i .i64 0,.i .i64 0]) i57_eq L
theorem w57_1 (x:Wt) (l:List Wt) (hl:l.length<=1000000000):FTL Try.prog 57 [.fz (rows Wt.l (x::l)) (l.length+1)] [] 0 (.sg 0 0 (l.length+1)) [(0,{cells:=rows Wt.l (x::l),gr:=some 4})] 1:=
 cln_1 mo Try.func57 (z:=4) (bytes:=32) (zs:=[.i .i64 0,.i .i64 0,.i .i64 0,.i .i64 0]) i57_eq (by rw [rows_len Wt.len];rfl) (rows_one1 Wt.one _) (rows_bel Wt.bel) (by simp only [growMax];omega)
def k57:Ct
 |[.fz L m],_,n=>(unrows 4 wt4 m L).bind fun l=>match l with
  |[]=>some (true,{v:= .ze,n})
  |x::r=>some (decide (r.length<=1000000000),{v:= .sg n 0 (r.length+1),n:=n+1,nw:=[(n,{cells:=rows Wt.l (x::r),gr:=some 4})]})
 |[.ns],_,n=>some (true,{v:= .ze,n})
 |_,_,_=>none
theorem s57:SoundAt Try.prog 57 k57:=fun args h n c E hc ht=>by
 unfold k57 at hc;split at hc
 ·rename_i L m;simp only [Option.bind_eq_some_iff] at hc;obtain ⟨l,hl,hc⟩:=hc;obtain ⟨rfl,hm⟩:=unrows_eq (f:=Wt.l) (fun c a h=>wt4_eq h) hl;subst hm;split at hc
  ·cases hc;exact CallOK.pure (by kernel_rfl) rfl rfl (w57_0 _) _ _
  ·rename_i x r;cases hc;have:=CallOK.new1 (h:=h) (n:=n) (by kernel_rfl) (by simp only [belL,AV.bel,rows_bel Wt.bel,Bool.and_self]) (rows_bel Wt.bel) rfl (w57_1 x r (of_decide_eq_true ht))
   simpa [AV.ren] using this
 ·cases hc;exact CallOK.pure (by kernel_rfl) rfl rfl (FTL.wkaH Wka.ns (w57_0 [])) _ _
 ·cases hc
def T9:List (Nat×Ct):=[(55,k55),(64,k64)]
theorem hT9:Sound Try.prog (cxT T9):=Sound.cons s55 (Sound.cons s64 Sound.nil)
def keepL (seq top d:Int) (l:List Wt):List Wt:=l.filter fun x=> !goneB seq top d x
theorem w56 (seq top d:Int) (l:List Wt) (hl:l.length<=1000000000) (hsq: ∀x∈l,inI 0 65535 x.sq=true) (ht:inI 0 65535 top=true) (hd:inI (-40000) 40000 d=true):
 FTL Try.prog 56 [.sg 0 0 l.length,.fn 55 [.p 1 0,.p 2 0,.p 3 0]] (dlH 4 (rows Wt.l l) seq top d) 4 (.sg 0 0 (keepL seq top d l).length) (dlH 4 (rows Wt.l (keepL seq top d l)) seq top d) 4:=by
 have h64: ∀(h:Hp) (k:List Nat->Nat->List AV->Bool->Option (Bool×Eff)),hget h 0=some {cells:=rows Wt.l l,gr:=some 4}->vwK h 4 (.sg 0 0 l.length) k=k [0] l.length (rows Wt.l l) true:=fun h k hh=>by
  have hlen:(rows Wt.l l).length=l.length*4:=rows_len Wt.len;simp only [vwK_g,hh,Option.bind_some,pln_n,cellsAt,List.drop_zero];rw [List.take_of_length_le (by omega),decide_eq_true hlen]
 have hall:l.all (fun x=>inI 0 65535 x.sq)=true:=List.all_eq_true.2 hsq;refine del_fz (cx:=cxT T9) (row:=Wt.l) (p:=goneB seq top d) (z:=4) (zs:=[.i .i64 0,.i .i64 0,.i .i64 0,.i .i64 0]) (ix:=64) (g:=55) (rd0:=[1,2,3,0]) (rd1:=[1,2,3]) hT9 mo Try.func56 i56_eq (by decide) Wt.len Wt.bel Wt.one rfl rfl rfl l hl ?_ (fun x hx L k=> ?_)
 ·simp only [T9,cxT_cons,Nat.reduceEqDiff,if_false,if_true,k64];rw [h64 _ _ rfl];simp only [wt4_un,Option.bind_some,dlH,hget_cons,int1,oneB,Nat.reduceEqDiff,if_false,if_true,hall,ht,hd,Bool.and_true,Bool.true_and];rw [decide_eq_true (by omega:l.length<=1000000000000)]
 ·have h1:=hsq x hx;simp only [T9,cxT_cons,k55,wt4_l,Option.bind_some,dlH,hget_cons,int1,oneB,Nat.reduceEqDiff,if_false,if_true,h1,ht,hd,Bool.and_self]
theorem w56z (seq top d:Int) (ht:inI 0 65535 top=true) (hd:inI (-40000) 40000 d=true):
 FTL Try.prog 56 [.ze,.fn 55 [.p 0 0,.p 1 0,.p 2 0]] [(0,{cells:=int1 seq}),(1,{cells:=int1 top}),(2,{cells:=int1 d})] 3 .ze [(0,{cells:=int1 seq}),(1,{cells:=int1 top}),(2,{cells:=int1 d})] 3:=by
 refine FTL.of_iw hT9 mo Try.func56 i56_eq (by simp [i56]) (iw_of_jw ?_)
 dsimp only [i56,T9];have h64: ∀n,k64 [.ze,.fn 55 [.p 0 0,.p 1 0,.p 2 0]] [(0,{cells:=int1 seq}),(1,{cells:=int1 top}),(2,{cells:=int1 d})] n=some (true,{v:= .i .i64 (-1),n,rd:=[0,1,2]}):=fun n=>by
  simp only [k64,vwK_z,unrows,Option.bind_some,hget_cons,int1,oneB,Nat.reduceEqDiff,if_false,if_true,ht,hd,List.all_nil,Bool.and_true,Bool.true_and];rfl
 simp (maxSteps:=400000) only [go_sem,h64,simprocAttr];refine Ends.keepL rfl rfl ?_;exact ⟨rfl,rfl,by decide,rfl,rfl,by decide,rfl,rfl,by decide,trivial⟩
def k56:Ct
 |[.sg b 0 m,.fn 55 [.p a1 0,.p a2 0,.p a3 0]],h,n=>(hget h b).bind fun k=>(unrows 4 wt4 m k.cells).bind fun l=>(hget h a1).bind fun ka=>(oneB ka).bind fun seq=>(hget h a2).bind fun kb=>(oneB kb).bind fun top=>(hget h a3).bind fun ke=>(oneB ke).bind fun d=>
  (match k with
  |⟨_,false,some 4,none,none⟩=>some (decide (m<=1000000000)&&l.all (fun x=>inI 0 65535 x.sq)&&inI 0 65535 top&&inI (-40000) 40000 d&& !(Nat.beq b a1)&& !(Nat.beq b a2)&& !(Nat.beq b a3)&& !(Nat.beq a1 a2)&& !(Nat.beq a1 a3)&& !(Nat.beq a2 a3),
   {v:= .sg b 0 (keepL seq top d l).length,n:=n+4,rd:=[b,a1,a2,a3],md:=[(b,some {cells:=rows Wt.l (keepL seq top d l),gr:=some 4})]})
  |_=>none)
 |[.ze,.fn 55 [.p a1 0,.p a2 0,.p a3 0]],h,n=>(hget h a1).bind fun ka=>(oneB ka).bind fun seq=>(hget h a2).bind fun kb=>(oneB kb).bind fun top=>(hget h a3).bind fun ke=>(oneB ke).bind fun d=>
  some (inI 0 65535 top&&inI (-40000) 40000 d&& !(Nat.beq a1 a2)&& !(Nat.beq a1 a3)&& !(Nat.beq a2 a3),{v:= .ze,n,rd:=[a1,a2,a3]})
 |_,_,_=>none
theorem nbf {a b:Nat} (h:(!(Nat.beq a b))=true):a≠b:=fun e=>by subst e;simp at h
theorem s56:SoundAt Try.prog 56 k56:=fun args h n c E hc ht=>by
 unfold k56 at hc;split at hc
 ·rename_i b m a1 a2 a3;simp only [Option.bind_eq_some_iff] at hc;obtain ⟨k,hk,l,hl,ka,hka,seq,hseq,kb,hkb,top,htop,ke,hke,d,hd,he⟩:=hc;split at he
  ·rename_i cells;cases he;simp only [Bool.and_eq_true,decide_eq_true_eq,List.all_eq_true] at ht;obtain ⟨⟨⟨⟨⟨⟨⟨⟨⟨hm,h1⟩,h2⟩,h3⟩,d1⟩,d2⟩,d3⟩,d4⟩,d5⟩,d6⟩:=ht;obtain ⟨hcs,hlm⟩:=unrows_eq (f:=Wt.l) (fun c a h=>wt4_eq h) hl;subst hlm;dsimp only at hcs;subst hcs;rw [oneB_eq hseq] at hka;rw [oneB_eq htop] at hkb;rw [oneB_eq hd] at hke;exact CallOK.del (by kernel_rfl) Wt.bel (w56 seq top d l hm (fun x hx=>h1 x hx) h2 h3) hk hka hkb hke ⟨⟨nbf d1,nbf d2,nbf d3⟩,nbf d4,nbf d5,nbf d6⟩
  ·cases he
 ·rename_i a1 a2 a3;simp only [Option.bind_eq_some_iff] at hc;obtain ⟨ka,hka,seq,hseq,kb,hkb,top,htop,ke,hke,d,hd,he⟩:=hc;cases he;simp only [Bool.and_eq_true] at ht;obtain ⟨⟨⟨⟨h2,h3⟩,d4⟩,d5⟩,d6⟩:=ht;have d4:=nbf d4;have d5:=nbf d5;have d6:=nbf d6;rw [oneB_eq hseq] at hka;rw [oneB_eq htop] at hkb;rw [oneB_eq hd] at hke;have hm: ∀{c:Nat} {kk:Blk},hget [(0,({cells:=int1 seq}:Blk)),(1,{cells:=int1 top}),(2,{cells:=int1 d})] c=some kk->(c=0/\kk={cells:=int1 seq})\/(c=1/\kk={cells:=int1 top})\/(c=2/\kk={cells:=int1 d}):=fun hh=>by
   have:=hget_mem hh;simpa using this
  refine CallOK.readL (argsL:=[.ze,.fn 55 [.p 0 0,.p 1 0,.p 2 0]]) (hL:=[(0,{cells:=int1 seq}),(1,{cells:=int1 top}),(2,{cells:=int1 d})]) (k:=3) (fun i=>if i=0 then a1 else if i=1 then a2 else a3) (by kernel_rfl) rfl rfl (w56z seq top d h2 h3) (fun i hi'=> ?_) (fun i kk hh=> ?_) (fun i kk hh=> ?_) (fun i1 i2 k1 k2 q1 q2 _ e=> ?_) _ rfl
  ·match i,hi' with
   |0,_=>exact ⟨_,rfl⟩
   |1,_=>exact ⟨_,rfl⟩
   |2,_=>exact ⟨_,rfl⟩
  ·rcases hm hh with ⟨rfl,rfl⟩|⟨rfl,rfl⟩|⟨rfl,rfl⟩<;>exact ⟨by decide,rfl⟩
  ·rcases hm hh with ⟨rfl,rfl⟩|⟨rfl,rfl⟩|⟨rfl,rfl⟩
   ·exact hka
   ·exact hkb
   ·exact hke
  ·rcases hm q1 with ⟨rfl,rfl⟩|⟨rfl,rfl⟩|⟨rfl,rfl⟩<;>rcases hm q2 with ⟨rfl,_⟩|⟨rfl,_⟩|⟨rfl,_⟩<;>simp at e<;>first|rfl|(subst e;simp at*)
 ·cases hc
/-! the numbers between -/
theorem w58 (top d:Int):FTL Try.prog 58 [.i .i64 top,.i .i64 d] [] 0 (.fn 91 [.p 1 0,.p 0 0]) [(0,{cells:=int1 top}),(1,{cells:=int1 d})] 2:=by
 refine FTL.of_iw Sound.nil mo Try.func58 i58_eq (by simp [i58]) (iw_of_jw ?_)
 dsimp only [i58];simp (maxSteps:=400000) only [go_sem,simprocAttr];exact Ends.R [] (by decide) (by decide) rfl rfl (by simp [HpR,hget,rn,Blk.ren,renL,AV.ren,belL,AV.bel,int1];rfl)
def k58:Ct
 |[.i .i64 top,.i .i64 d],h,n=>some (true,{v:= .fn 91 [.p (n+1) 0,.p n 0],n:=n+2,nw:=[(n,{cells:=int1 top}),(n+1,{cells:=int1 d})]})
 |_,_,_=>none
theorem s58:SoundAt Try.prog 58 k58:=fun args h n c E hc ht=>by
 unfold k58 at hc;split at hc
 ·rename_i top d;cases hc;have hm: ∀{c:Nat} {kk:Blk},(c,kk)∈[(0,({cells:=int1 top}:Blk)),(1,{cells:=int1 d})]->(c=0/\kk={cells:=int1 top})\/(c=1/\kk={cells:=int1 d}):=fun hh=>by simpa using hh
  refine (CallOK.gen (k:=0) (kR:=2) (n:=n) (h:=h) (fun i=>i) (fun _=>false) (by kernel_rfl) (Nat.zero_le _) rfl (w58 top d) (fun c kk hh=>by cases hh) (fun c kk hh=> ?_) (fun c hc=>absurd hc (by omega)) (fun c kk hh=>by cases hh) (fun c kk hh=>by cases hh) (fun c1 c2 k1 k2 q1=>by cases q1) (fun c kk hh=>by cases hh) (fun c kk hh _=> ?_) (fun c kk hh=>by cases hh) (fun c kk hh=> ?_)).cast rfl ?_
  ·rcases hm hh with ⟨rfl,rfl⟩|⟨rfl,rfl⟩<;>rfl
  ·rcases hm hh with ⟨rfl,rfl⟩|⟨rfl,rfl⟩<;>rfl
  ·rcases hm hh with ⟨rfl,rfl⟩|⟨rfl,rfl⟩<;>decide
  ·simp [mdG,nwG,rdG,chiG,hget,Blk.ren,AV.ren,renL,int1];rfl
 ·cases hc
def missF (top now:Int) (k:Nat):Wt:=⟨(top+((k:Int)+1)) % 65536,now,0,0⟩
abbrev hS (ti tp now top d:Int) (v:AV) (Lh:Hp):Hp:=
 (0,{cells:=[.i .i64 ti,.b true,.i .i64 tp,v]})::(1,{cells:=int1 now})::(2,{cells:=[.i .i64 0,.b false,.i .i64 0,.ns]})::(3,{cells:=int1 top})::(4,{cells:=int1 d})::Lh
abbrev lG (j:Nat) (l:List Wt):Hp:=[(j,{cells:=rows Wt.l l,gr:=some 4})]
noncomputable abbrev F13:Fx:=⟨Try.prog,cxT [],[17,22,26,35,40,65],70,0⟩
abbrev yv (L:Nat) (r:Go.Loop):AV:= .yl L r [3,4] [.p 0 0,.p 1 0]
theorem wt_nyl (x:Wt):nylL x.l=true:=rfl
theorem wrB (j:Nat): ∀l:List Wt,belL j (rows Wt.l l)=true:=fun l=>belL_mono0 _ (rows_bel Wt.bel)
theorem wrR (ψ:Nat->Nat): ∀l:List Wt,renL ψ (rows Wt.l l)=rows Wt.l l:=fun l=>renL_fix0 _ (rows_bel Wt.bel)
theorem yb_g (ti tp now top d x:Int) (j:Nat) (hj:j=5\/j=6) (l:List Wt) (hl:l.length<=1000000):
 RoundW F13 [53] i13a19 i13b19 [3,4] [.p 0 0,.p 1 0] [.i .i64 x] (hS ti tp now top d (.sg j 0 l.length) (lG j l)) 7 (hS ti tp now top d (.sg 7 0 (l.length+1)) (lG 7 (l++[⟨x,now,0,0⟩]))) 8:=by
 refine RoundW.of_jw ?_;have gm:decide (32*(l.length+1)<=growMax)=true:=decide_eq_true (by simp only [growMax];omega)
 have hlen:(rows Wt.l l).length=l.length*4:=rows_len Wt.len;have hap:rows Wt.l (l++[⟨x,now,0,0⟩])=rows Wt.l l++[.i .i64 x,.i .i64 now,.i .i64 0,.i .i64 0]:=by rw [rows_append];simp [rows,Wt.l]
 have hbb:belL 8 (rows Wt.l l++[.i .i64 x,.i .i64 now,.i .i64 0,.i .i64 0])=true:=by rw [<-hap];exact wrB _ _
 have hrb: ∀ψ,renL ψ (rows Wt.l l++[.i .i64 x,.i .i64 now,.i .i64 0,.i .i64 0])=rows Wt.l l++[.i .i64 x,.i .i64 now,.i .i64 0,.i .i64 0]:=fun ψ=>by rw [<-hap];exact wrR _ _
 rw [lG,hap];rcases hj with rfl|rfl
 all_goals
  simp (maxSteps:=400000) only [go_sem,F13,zipE,asg,hS,lG,int1,gm,hlen,simprocAttr];refine Ends.R [(7,8)] (by decide) (by decide) rfl rfl ?_
  simp (maxSteps:=400000) only [go_sem,hS,lG,int1,Blk.ren,AV.ren,renL,AV.bel,belL,nblt,wrB,wrR,hbb,hrb,simprocAttr]
theorem yb_z (ti tp now top d x:Int):
 RoundW F13 [53] i13a19 i13b19 [3,4] [.p 0 0,.p 1 0] [.i .i64 x] (hS ti tp now top d .ze []) 7 (hS ti tp now top d (.sg 7 0 1) (lG 7 [⟨x,now,0,0⟩])) 8:=by
 refine RoundW.of_jw ?_;simp (maxSteps:=400000) only [go_sem,F13,zipE,asg,hS,lG,int1,growMax,simprocAttr];refine Ends.R [(7,8)] (by decide) (by decide) rfl rfl ?_
 simp (maxSteps:=400000) only [go_sem,hS,lG,int1,Blk.ren,AV.ren,renL,AV.bel,belL,nblt,wrB,wrR,rows_cons,rows_nil,Wt.l,simprocAttr]
def YB13 (L:Nat) (r:Go.Loop):Prop:= ∀cs as' h1 n1 h2 n2,[53].length=as'.length->nylL cs=true->nylL as'=true->(∀b k,hget h1 b=some k->nylL k.cells=true)->RoundW F13 [53] i13a19 i13b19 [3,4] cs as' h1 n1 h2 n2->FTL Try.prog YB (.yl L r [3,4] cs::as') h1 n1 (.b true) h2 n2
theorem callZ {L:Nat} {r:Go.Loop} (hY:YB13 L r) (ti tp now top d x:Int):
 CallOK Try.prog YB [yv L r,.i .i64 x] (hS ti tp now top d .ze []) 7 {v:= .b true,n:=15,rd:=[0,1,2,3,4],md:=[(0,some {cells:=[.i .i64 ti,.b true,.i .i64 tp,.sg 14 0 1]})],nw:=[(14,{cells:=rows Wt.l [⟨x,now,0,0⟩],gr:=some 4})]}:=by
 have hf:=hY [.p 0 0,.p 1 0] [.i .i64 x] (hS ti tp now top d .ze []) 7 _ 8 rfl rfl rfl (fun b k hb=>nylH_spec rfl hb) (yb_z ti tp now top d x);refine (CallOK.gen (k:=7) (kR:=8) (n:=7) (h:=hS ti tp now top d .ze []) (fun i=>if i<5 then i else 7+i) (fun i=>i==0) (by kernel_rfl) (by decide) rfl hf (fun c kk hh=> ?_) (fun c kk hh=> ?_) (fun c hc hh=> ?_) (fun c kk hh=> ?_) (fun c kk hh=> ?_) (fun c1 c2 k1 k2 q1 q2 _ he=> ?_) (fun c kk hh hM=> ?_) (fun c kk hh hM=> ?_) (fun c kk hh hM=> ?_) (fun c kk hh=> ?_)).cast ?_ ?_
 ·simp only [hS,lG,List.mem_cons,Prod.mk.injEq,List.not_mem_nil,or_false] at hh;rcases hh with ⟨rfl,rfl⟩|⟨rfl,rfl⟩|⟨rfl,rfl⟩|⟨rfl,rfl⟩|⟨rfl,rfl⟩<;>rfl
 ·simp only [hS,lG,List.mem_cons,Prod.mk.injEq,List.not_mem_nil,or_false] at hh;rcases hh with ⟨rfl,rfl⟩|⟨rfl,rfl⟩|⟨rfl,rfl⟩|⟨rfl,rfl⟩|⟨rfl,rfl⟩|⟨rfl,rfl⟩<;>rfl
 ·rcases (by omega:c=0\/c=1\/c=2\/c=3\/c=4\/c=5\/c=6) with rfl|rfl|rfl|rfl|rfl|rfl|rfl<;>first|rfl|exact (Option.some_ne_none _ hh).elim
 ·simp only [hS,lG,List.mem_cons,Prod.mk.injEq,List.not_mem_nil,or_false] at hh;rcases hh with ⟨rfl,rfl⟩|⟨rfl,rfl⟩|⟨rfl,rfl⟩|⟨rfl,rfl⟩|⟨rfl,rfl⟩<;>first|exact ⟨by decide,rfl⟩|exact ⟨by decide,wrB _ _⟩
 ·simp only [hS,lG,List.mem_cons,Prod.mk.injEq,List.not_mem_nil,or_false] at hh;rcases hh with ⟨rfl,rfl⟩|⟨rfl,rfl⟩|⟨rfl,rfl⟩|⟨rfl,rfl⟩|⟨rfl,rfl⟩<;>first|rfl|(simp only [Blk.ren,wrR];rfl)
 ·simp only [hS,lG,List.mem_cons,Prod.mk.injEq,List.not_mem_nil,or_false] at q1;rcases q1 with ⟨rfl,rfl⟩|⟨rfl,rfl⟩|⟨rfl,rfl⟩|⟨rfl,rfl⟩|⟨rfl,rfl⟩<;>(simp only [hS,lG,List.mem_cons,Prod.mk.injEq,List.not_mem_nil,or_false] at q2;rcases q2 with ⟨rfl,rfl⟩|⟨rfl,rfl⟩|⟨rfl,rfl⟩|⟨rfl,rfl⟩|⟨rfl,rfl⟩)<;>first|rfl|(exact absurd he (by decide))
 ·simp only [hS,lG,List.mem_cons,Prod.mk.injEq,List.not_mem_nil,or_false] at hh;rcases hh with ⟨rfl,rfl⟩|⟨rfl,rfl⟩|⟨rfl,rfl⟩|⟨rfl,rfl⟩|⟨rfl,rfl⟩<;>rfl
 ·simp only [hS,lG,List.mem_cons,Prod.mk.injEq,List.not_mem_nil,or_false] at hh;rcases hh with ⟨rfl,rfl⟩|⟨rfl,rfl⟩|⟨rfl,rfl⟩|⟨rfl,rfl⟩|⟨rfl,rfl⟩|⟨rfl,rfl⟩<;>rfl
 ·simp only [hS,lG,List.mem_cons,Prod.mk.injEq,List.not_mem_nil,or_false] at hh;rcases hh with ⟨rfl,rfl⟩|⟨rfl,rfl⟩|⟨rfl,rfl⟩|⟨rfl,rfl⟩|⟨rfl,rfl⟩<;>first|rfl|(exact absurd hM (by decide))
 ·simp only [hS,lG,List.mem_cons,Prod.mk.injEq,List.not_mem_nil,or_false] at hh;rcases hh with ⟨rfl,rfl⟩|⟨rfl,rfl⟩|⟨rfl,rfl⟩|⟨rfl,rfl⟩|⟨rfl,rfl⟩|⟨rfl,rfl⟩<;>decide
 ·rfl
 ·simp [mdG,nwG,rdG,chiG,hget,Blk.ren,AV.ren,wrR,hS,lG];all_goals first|rfl|exact ⟨rfl,rfl⟩|exact ⟨⟨rfl,rfl⟩,rfl⟩
theorem callG {L:Nat} {r:Go.Loop} (hY:YB13 L r) (ti tp now top d x:Int) (j:Nat) (hj:j=5\/j=6) (l:List Wt) (hl:l.length<=1000000):
 CallOK Try.prog YB [yv L r,.i .i64 x] (hS ti tp now top d (.sg j 0 l.length) (lG j l)) 7 {v:= .b true,n:=15,rd:=[0,1,2,3,4,j],md:=[(0,some {cells:=[.i .i64 ti,.b true,.i .i64 tp,.sg 14 0 (l.length+1)]}),(j,none)],nw:=[(14,{cells:=rows Wt.l (l++[⟨x,now,0,0⟩]),gr:=some 4})]}:=by
 have hf:=hY [.p 0 0,.p 1 0] [.i .i64 x] (hS ti tp now top d (.sg j 0 l.length) (lG j l)) 7 _ 8 rfl rfl rfl (fun b k hb=>nylH_spec (by simp only [nylH,hS,lG,nylL,AV.nyl,int1,rows_nyl wt_nyl,Bool.and_self]) hb) (yb_g ti tp now top d x j hj l hl)
 rcases hj with rfl|rfl
 ·refine (CallOK.gen (k:=7) (kR:=8) (n:=7) (h:=hS ti tp now top d (.sg 5 0 l.length) (lG 5 l)) (fun i=>if i=6 then 7+i else i) (fun i=>i==0||i==5) (by kernel_rfl) (by decide) rfl hf (fun c kk hh=> ?_) (fun c kk hh=> ?_) (fun c hc hh=> ?_) (fun c kk hh=> ?_) (fun c kk hh=> ?_) (fun c1 c2 k1 k2 q1 q2 _ he=> ?_) (fun c kk hh hM=> ?_) (fun c kk hh hM=> ?_) (fun c kk hh hM=> ?_) (fun c kk hh=> ?_)).cast ?_ ?_
  ·simp only [hS,lG,List.mem_cons,Prod.mk.injEq,List.not_mem_nil,or_false] at hh;rcases hh with ⟨rfl,rfl⟩|⟨rfl,rfl⟩|⟨rfl,rfl⟩|⟨rfl,rfl⟩|⟨rfl,rfl⟩|⟨rfl,rfl⟩<;>rfl
  ·simp only [hS,lG,List.mem_cons,Prod.mk.injEq,List.not_mem_nil,or_false] at hh;rcases hh with ⟨rfl,rfl⟩|⟨rfl,rfl⟩|⟨rfl,rfl⟩|⟨rfl,rfl⟩|⟨rfl,rfl⟩|⟨rfl,rfl⟩<;>rfl
  ·rcases (by omega:c=0\/c=1\/c=2\/c=3\/c=4\/c=5\/c=6) with rfl|rfl|rfl|rfl|rfl|rfl|rfl<;>first|rfl|exact (Option.some_ne_none _ hh).elim
  ·simp only [hS,lG,List.mem_cons,Prod.mk.injEq,List.not_mem_nil,or_false] at hh;rcases hh with ⟨rfl,rfl⟩|⟨rfl,rfl⟩|⟨rfl,rfl⟩|⟨rfl,rfl⟩|⟨rfl,rfl⟩|⟨rfl,rfl⟩<;>first|exact ⟨by decide,rfl⟩|exact ⟨by decide,wrB _ _⟩
  ·simp only [hS,lG,List.mem_cons,Prod.mk.injEq,List.not_mem_nil,or_false] at hh;rcases hh with ⟨rfl,rfl⟩|⟨rfl,rfl⟩|⟨rfl,rfl⟩|⟨rfl,rfl⟩|⟨rfl,rfl⟩|⟨rfl,rfl⟩<;>first|rfl|(simp only [Blk.ren,wrR];rfl)
  ·simp only [hS,lG,List.mem_cons,Prod.mk.injEq,List.not_mem_nil,or_false] at q1;rcases q1 with ⟨rfl,rfl⟩|⟨rfl,rfl⟩|⟨rfl,rfl⟩|⟨rfl,rfl⟩|⟨rfl,rfl⟩|⟨rfl,rfl⟩<;>(simp only [hS,lG,List.mem_cons,Prod.mk.injEq,List.not_mem_nil,or_false] at q2;rcases q2 with ⟨rfl,rfl⟩|⟨rfl,rfl⟩|⟨rfl,rfl⟩|⟨rfl,rfl⟩|⟨rfl,rfl⟩|⟨rfl,rfl⟩)<;>first|rfl|(exact absurd he (by decide))
  ·simp only [hS,lG,List.mem_cons,Prod.mk.injEq,List.not_mem_nil,or_false] at hh;rcases hh with ⟨rfl,rfl⟩|⟨rfl,rfl⟩|⟨rfl,rfl⟩|⟨rfl,rfl⟩|⟨rfl,rfl⟩|⟨rfl,rfl⟩<;>rfl
  ·simp only [hS,lG,List.mem_cons,Prod.mk.injEq,List.not_mem_nil,or_false] at hh;rcases hh with ⟨rfl,rfl⟩|⟨rfl,rfl⟩|⟨rfl,rfl⟩|⟨rfl,rfl⟩|⟨rfl,rfl⟩|⟨rfl,rfl⟩<;>rfl
  ·simp only [hS,lG,List.mem_cons,Prod.mk.injEq,List.not_mem_nil,or_false] at hh;rcases hh with ⟨rfl,rfl⟩|⟨rfl,rfl⟩|⟨rfl,rfl⟩|⟨rfl,rfl⟩|⟨rfl,rfl⟩|⟨rfl,rfl⟩<;>first|rfl|(exact absurd hM (by decide))
  ·simp only [hS,lG,List.mem_cons,Prod.mk.injEq,List.not_mem_nil,or_false] at hh;rcases hh with ⟨rfl,rfl⟩|⟨rfl,rfl⟩|⟨rfl,rfl⟩|⟨rfl,rfl⟩|⟨rfl,rfl⟩|⟨rfl,rfl⟩<;>decide
  ·rfl
  ·simp [mdG,nwG,rdG,chiG,hget,Blk.ren,AV.ren,wrR,hS,lG];all_goals first|rfl|exact ⟨rfl,rfl⟩|exact ⟨⟨rfl,rfl⟩,rfl⟩
 ·refine (CallOK.gen (k:=7) (kR:=8) (n:=7) (h:=hS ti tp now top d (.sg 6 0 l.length) (lG 6 l)) (fun i=>if i=5 then 7+i else i) (fun i=>i==0||i==6) (by kernel_rfl) (by decide) rfl hf (fun c kk hh=> ?_) (fun c kk hh=> ?_) (fun c hc hh=> ?_) (fun c kk hh=> ?_) (fun c kk hh=> ?_) (fun c1 c2 k1 k2 q1 q2 _ he=> ?_) (fun c kk hh hM=> ?_) (fun c kk hh hM=> ?_) (fun c kk hh hM=> ?_) (fun c kk hh=> ?_)).cast ?_ ?_
  ·simp only [hS,lG,List.mem_cons,Prod.mk.injEq,List.not_mem_nil,or_false] at hh;rcases hh with ⟨rfl,rfl⟩|⟨rfl,rfl⟩|⟨rfl,rfl⟩|⟨rfl,rfl⟩|⟨rfl,rfl⟩|⟨rfl,rfl⟩<;>rfl
  ·simp only [hS,lG,List.mem_cons,Prod.mk.injEq,List.not_mem_nil,or_false] at hh;rcases hh with ⟨rfl,rfl⟩|⟨rfl,rfl⟩|⟨rfl,rfl⟩|⟨rfl,rfl⟩|⟨rfl,rfl⟩|⟨rfl,rfl⟩<;>rfl
  ·rcases (by omega:c=0\/c=1\/c=2\/c=3\/c=4\/c=5\/c=6) with rfl|rfl|rfl|rfl|rfl|rfl|rfl<;>first|rfl|exact (Option.some_ne_none _ hh).elim
  ·simp only [hS,lG,List.mem_cons,Prod.mk.injEq,List.not_mem_nil,or_false] at hh;rcases hh with ⟨rfl,rfl⟩|⟨rfl,rfl⟩|⟨rfl,rfl⟩|⟨rfl,rfl⟩|⟨rfl,rfl⟩|⟨rfl,rfl⟩<;>first|exact ⟨by decide,rfl⟩|exact ⟨by decide,wrB _ _⟩
  ·simp only [hS,lG,List.mem_cons,Prod.mk.injEq,List.not_mem_nil,or_false] at hh;rcases hh with ⟨rfl,rfl⟩|⟨rfl,rfl⟩|⟨rfl,rfl⟩|⟨rfl,rfl⟩|⟨rfl,rfl⟩|⟨rfl,rfl⟩<;>first|rfl|(simp only [Blk.ren,wrR];rfl)
  ·simp only [hS,lG,List.mem_cons,Prod.mk.injEq,List.not_mem_nil,or_false] at q1;rcases q1 with ⟨rfl,rfl⟩|⟨rfl,rfl⟩|⟨rfl,rfl⟩|⟨rfl,rfl⟩|⟨rfl,rfl⟩|⟨rfl,rfl⟩<;>(simp only [hS,lG,List.mem_cons,Prod.mk.injEq,List.not_mem_nil,or_false] at q2;rcases q2 with ⟨rfl,rfl⟩|⟨rfl,rfl⟩|⟨rfl,rfl⟩|⟨rfl,rfl⟩|⟨rfl,rfl⟩|⟨rfl,rfl⟩)<;>first|rfl|(exact absurd he (by decide))
  ·simp only [hS,lG,List.mem_cons,Prod.mk.injEq,List.not_mem_nil,or_false] at hh;rcases hh with ⟨rfl,rfl⟩|⟨rfl,rfl⟩|⟨rfl,rfl⟩|⟨rfl,rfl⟩|⟨rfl,rfl⟩|⟨rfl,rfl⟩<;>rfl
  ·simp only [hS,lG,List.mem_cons,Prod.mk.injEq,List.not_mem_nil,or_false] at hh;rcases hh with ⟨rfl,rfl⟩|⟨rfl,rfl⟩|⟨rfl,rfl⟩|⟨rfl,rfl⟩|⟨rfl,rfl⟩|⟨rfl,rfl⟩<;>rfl
  ·simp only [hS,lG,List.mem_cons,Prod.mk.injEq,List.not_mem_nil,or_false] at hh;rcases hh with ⟨rfl,rfl⟩|⟨rfl,rfl⟩|⟨rfl,rfl⟩|⟨rfl,rfl⟩|⟨rfl,rfl⟩|⟨rfl,rfl⟩<;>first|rfl|(exact absurd hM (by decide))
  ·simp only [hS,lG,List.mem_cons,Prod.mk.injEq,List.not_mem_nil,or_false] at hh;rcases hh with ⟨rfl,rfl⟩|⟨rfl,rfl⟩|⟨rfl,rfl⟩|⟨rfl,rfl⟩|⟨rfl,rfl⟩|⟨rfl,rfl⟩<;>decide
  ·rfl
  ·simp [mdG,nwG,rdG,chiG,hget,Blk.ren,AV.ren,wrR,hS,lG];all_goals first|rfl|exact ⟨rfl,rfl⟩|exact ⟨⟨rfl,rfl⟩,rfl⟩
def hK (ti tp now top d:Int) (v0:AV) (L0:Hp) (l:List Wt) (k:Nat):Hp:=if k=0 then hS ti tp now top d v0 L0 else hS ti tp now top d (.sg 6 0 (l.length+k)) (lG 6 (l++mapN (missF top now) k))
theorem w91 {L:Nat} {r:Go.Loop} (hY:YB13 L r) (ti tp now top d:Int) (v0:AV) (L0:Hp) (l:List Wt) (hl:l.length<=100000) (hd:d<=64) (hd0: -40000<=d) (ht:inI 0 65535 top=true)
 (hv:(v0= .ze/\L0=[]/\l=[])\/(v0= .sg 5 0 l.length/\L0=lG 5 l)):
 FTL Try.prog 91 [yv L r,.p 4 0,.p 3 0] (hS ti tp now top d v0 L0) 6 (.tup []) (hK ti tp now top d v0 L0 l (d-1).toNat) 7:=by
 have ht:=inI_t ht;refine FTL.of_iw (cx:=cxT []) Sound.nil mo Try.func91 i91_eq (by simp [i91]) (iw_of_jw ?_)
 dsimp only [i91];have g3: ∀k,hget (hK ti tp now top d v0 L0 l k) 3=some {cells:=int1 top}:=fun k=>by unfold hK;split<;>rfl
 have g4: ∀k,hget (hK ti tp now top d v0 L0 l k) 4=some {cells:=int1 d}:=fun k=>by unfold hK;split<;>rfl
 have hK0:hS ti tp now top d v0 L0=hK ti tp now top d v0 L0 l 0:=rfl
 -- what holds of each state
 have hR: ∀k,HpR 7 [] (hK ti tp now top d v0 L0 l k) (hK ti tp now top d v0 L0 l k):=fun k=>by
  unfold hK;split
  ·rcases hv with ⟨rfl,rfl,rfl⟩|⟨rfl,rfl⟩
   ·simp (maxSteps:=400000) only [go_sem,hS,lG,int1,Blk.ren,AV.ren,renL,AV.bel,belL,nblt,wrB,wrR,simprocAttr]
   ·simp (maxSteps:=400000) only [go_sem,hS,lG,int1,Blk.ren,AV.ren,renL,AV.bel,belL,nblt,wrB,wrR,simprocAttr]
  ·simp (maxSteps:=400000) only [go_sem,hS,lG,int1,Blk.ren,AV.ren,renL,AV.bel,belL,nblt,wrB,wrR,simprocAttr]
 rw [hK0];simp (maxSteps:=400000) only [go_sem,simprocAttr];refine Loop.stepX (F:=⟨Try.prog,cxT [],[7,16],17,6⟩) mo (X:=Nat) (fun k=>k<=(d-1).toNat) (fun k=>(d-1).toNat-k)
  (fun k=>[(0,yv L r),(1,.p 4 0),(2,.p 3 0),(4,.i .i64 ((k:Int)+1))]) (fun k=>hK ti tp now top d v0 L0 l k) 7 0 (fun k=>k+1) [] (fun _=>[(6,14)]) (by decide) (by decide) (fun _=>by decide) (Nat.zero_le _) ?_ (hR 0) (fun k hk=> ?_)
 ·simp (maxSteps:=400000) only [go_sem,yv,AV.ren,renL,AV.bel,belL,nblt,simprocAttr]
 ·by_cases hlt:k<(d-1).toNat
  ·have c1:decide ((k:Int)+1<d)=true:=decide_eq_true (by omega)
   have w1:IntKind.i64.wrap ((k:Int)+1+1)=((k+1:Nat):Int)+1:=by rw [wrapL (by omega) (by omega)];omega
   have w2:IntKind.i64.wrap (top+((k:Int)+1))=top+((k:Int)+1):=wrapL (by omega) (by omega)
   have hms:mapN (missF top now) (k+1)=mapN (missF top now) k++[⟨(top+((k:Int)+1)) % 65536,now,0,0⟩]:=rfl;have hn1:hK ti tp now top d v0 L0 l (k+1)=hS ti tp now top d (.sg 6 0 (l.length+(k+1))) (lG 6 (l++(mapN (missF top now) k++[⟨(top+((k:Int)+1)) % 65536,now,0,0⟩]))):=by
    unfold hK;rw [if_neg (by omega),hms]
   have hsk:(d-1).toNat-(k+1)<(d-1).toNat-k:=by omega
   have hk1:k+1<=(d-1).toNat:=hlt;rw [hn1];by_cases hk0:k=0
   ·subst hk0;have c1z:decide (1<d)=true:=decide_eq_true (by omega)
    have w2z:IntKind.i64.wrap (top+1)=top+1:=wrapL (by omega) (by omega)
    have skz:(d-1).toNat-1<(d-1).toNat:=by omega
    rcases hv with ⟨rfl,rfl,rfl⟩|⟨rfl,rfl⟩
    ·have hc:=callZ hY ti tp now top d ((top+(((0:Nat):Int)+1)) % 65536);refine ⟨_,cx1_sound hc,?_⟩;rw [hK0.symm];simp (maxSteps:=400000) only [go_sem,cx1_at,hS,lG,int1,yv,c1,w1,w2,c1z,w2z,skz,and16,hsk,hk1,Blk.ren,AV.ren,renL,AV.bel,belL,nblt,wrB,wrR,mapN_z,List.length_nil,simprocAttr];exact ⟨rfl,rfl,rfl,rfl,rfl,rfl⟩
    ·have hc:=callG hY ti tp now top d ((top+(((0:Nat):Int)+1)) % 65536) 5 (.inl rfl) l (by omega)
     refine ⟨_,cx1_sound hc,?_⟩;rw [hK0.symm];simp (maxSteps:=400000) only [go_sem,cx1_at,hS,lG,int1,yv,c1,w1,w2,c1z,w2z,skz,and16,hsk,hk1,Blk.ren,AV.ren,renL,AV.bel,belL,nblt,wrB,wrR,mapN_z,simprocAttr];exact ⟨rfl,rfl,rfl,rfl,rfl,rfl⟩
   ·have hk':hK ti tp now top d v0 L0 l k=hS ti tp now top d (.sg 6 0 (l.length+k)) (lG 6 (l++mapN (missF top now) k)):=if_neg hk0;have hlen:(l++mapN (missF top now) k).length=l.length+k:=by rw [List.length_append,mapN_len]
    have hc:=callG hY ti tp now top d ((top+((k:Int)+1)) % 65536) 6 (.inr rfl) (l++mapN (missF top now) k) (by omega)
    rw [hlen,List.append_assoc] at hc;refine ⟨_,cx1_sound hc,?_⟩;rw [hk'];generalize l++mapN (missF top now) k=q;generalize l++(mapN (missF top now) k++[⟨(top+((k:Int)+1)) % 65536,now,0,0⟩])=q';simp (maxSteps:=400000) only [go_sem,cx1_at,hS,lG,int1,yv,c1,w1,w2,and16,hsk,hk1,Blk.ren,AV.ren,renL,AV.bel,belL,nblt,wrB,wrR,Nat.add_assoc,simprocAttr];exact ⟨rfl,rfl,rfl,rfl,rfl,rfl⟩
  ·have c1:decide ((k:Int)+1<d)=false:=decide_eq_false (by omega)
   obtain rfl:k=(d-1).toNat:=by omega
   have g4':=g4 (d-1).toNat;refine ⟨cxT [],Sound.nil,?_⟩;have hRe:=hR (d-1).toNat;generalize hK ti tp now top d v0 L0 l (d-1).toNat=HH at g4' hRe ⊢;simp (maxSteps:=400000) only [go_sem,g4',c1,int1,simprocAttr];exact Ends.R [] (by decide) (by decide) rfl rfl hRe
def zW:Ws:=⟨0,false,0,[]⟩
def missS (top d now:Int):List Wt:=mapN (missF top now) (d-1).toNat
def sawL (w:Ws) (now seq:Int):List Wt:=keepL seq w.tp (lead seq w.tp) w.l++missS w.tp (lead seq w.tp) now
def sawS (w:Ws) (now seq:Int):Ws×Int:=
 if lateS w now=0 then
  bif inI 0 65535 seq then
   bif w.st then
    bif decide (lead seq w.tp>64) then (zW,6)
    else bif decide (64<(sawL w now seq).length) then (zW,3)
    else (⟨now,true,if lead seq w.tp>0 then seq else w.tp,sawL w now seq⟩,0)
   else (⟨now,true,seq,[]⟩,0)
  else (zW,2)
 else (zW,lateS w now)
def rsV (r:Ws×Int):AV:= .tup [.agg r.1.a,.i .i64 r.2]
theorem cov_n {ti tp e:Int} {st:Bool} {h:Hp} {n:Nat}:CovS 0 (.tup [.agg [.i .i64 ti,.b st,.i .i64 tp,.ns],.i .i64 e]) h n (rsV (⟨ti,st,tp,[]⟩,e)) [] 0:=by
 refine CovS.frzN (l:=[]) (v':=rsV (⟨ti,st,tp,[]⟩,e)) (FzV.tup ⟨FzV.agg ⟨FzV.refl,FzV.refl,FzV.refl,FzV.hit,trivial⟩,FzV.refl,trivial⟩) ?_;exact CovS.ends (Ends.pureE rfl rfl)
theorem cov_z {ti tp e:Int} {st:Bool} {h:Hp} {n:Nat}:CovS 0 (.tup [.agg [.i .i64 ti,.b st,.i .i64 tp,.ze],.i .i64 e]) h n (rsV (⟨ti,st,tp,[]⟩,e)) [] 0:=by
 refine CovS.frzZ (l:=[]) (v':=rsV (⟨ti,st,tp,[]⟩,e)) (FzV.tup ⟨FzV.agg ⟨FzV.refl,FzV.refl,FzV.refl,FzV.hit,trivial⟩,FzV.refl,trivial⟩) ?_;exact CovS.ends (Ends.pureE rfl rfl)
theorem cov_g {ti tp e:Int} {st:Bool} {h:Hp} {n j:Nat} {l:List Wt} (hk:hget h j=some {cells:=rows Wt.l l,gr:=some 4}):CovS 0 (.tup [.agg [.i .i64 ti,.b st,.i .i64 tp,.sg j 0 l.length],.i .i64 e]) h n (rsV (⟨ti,st,tp,l⟩,e)) [] 0:=by
 refine CovS.frz (b:=j) (k:={cells:=rows Wt.l l,gr:=some 4}) (h':=[]) (o:=0) (m:=l.length) (cs:=rows Wt.l l) (v':=rsV (⟨ti,st,tp,l⟩,e)) hk rfl (.inr rfl) (.inl rfl) (FzV.tup ⟨FzV.agg ⟨FzV.refl,FzV.refl,FzV.refl,FzV.hit,trivial⟩,FzV.refl,trivial⟩) (fun c kk hc=>by simp [hget] at hc) ?_
 exact CovS.ends (Ends.pureE (by simp only [rsV,AV.bel,belL,Ws.bel,Bool.and_self]) rfl)
def T10:List (Nat×Ct):=[(49,k49),(51,k51),(54,k54),(56,k56),(57,k57),(58,k58)]
theorem hT10:Sound Try.prog (cxT T10):=Sound.cons s49 (Sound.cons s51 (Sound.cons s54 (Sound.cons s56 (Sound.cons s57 (Sound.cons s58 Sound.nil)))))
noncomputable abbrev FS:Fx:=⟨Try.prog,cxT T10,[17,22,26,35,40,65],70,0⟩
abbrev i13t:ICode:=(.seq (.seq (.reg i13r21) (.cond (.t 65) (.seq (.reg i13r22) .ret) .skip)) (.seq (.reg i13r23) (.seq (.reg i13r24) .ret)))
theorem tail13 (ti tp now top d:Int) (v:AV) (Lh:Hp) (l:List Wt) (hv:(v= .ze/\Lh=[]/\l=[])\/ ∃j,(j=5\/j=6)/\v= .sg j 0 l.length/\Lh=lG j l) (n:Nat) (R:Ws×Int)
 (hR:R=bif decide (64<l.length) then (zW,3) else (⟨now,true,tp,l⟩,0)) (e:Env) (he3:eget e 3=some (.p 0 0)) (he4:eget e 4=some (.p 1 0)) (he6:eget e 6=some (.p 2 0)):
 Seam FS i13t (retK [.c 6 true 4,.t 7] fun v h' n'=>CovS 0 v h' n' (rsV R) [] 0) e (hS ti tp now top d v Lh) n:=by
 refine Seam.run hT10 mo ?_;dsimp only [FS];have n1:decide ((l.length:Int)>64)=decide (64<l.length):=decide_eq_decide.2 (by omega)
 rcases hv with ⟨rfl,rfl,rfl⟩|⟨j,rfl|rfl,rfl,rfl⟩
 ·simp (maxSteps:=400000) only [go_sem,hS,he3,he4,he6,int1,simprocAttr];rw [hR];exact cov_z
 all_goals
  cases hc:decide (64<l.length)
  ·rw [hc] at hR;simp (maxSteps:=400000) only [go_sem,hS,lG,he3,he4,he6,int1,n1,hc,simprocAttr];rw [hR];exact cov_g rfl
  ·rw [hc] at hR;simp (maxSteps:=400000) only [go_sem,hS,lG,he3,he4,he6,int1,n1,hc,simprocAttr];rw [hR];exact cov_n
theorem rf13 (ti tp now top d:Int) (v0:AV) (L0:Hp) (l:List Wt) (hl:l.length<=100000) (hd:d<=64) (hd0: -40000<=d) (ht:inI 0 65535 top=true) (hv:(v0= .ze/\L0=[]/\l=[])\/(v0= .sg 5 0 l.length/\L0=lG 5 l)) (R:Ws×Int)
 (hR:R=bif decide (64<(l++missS top d now).length) then (zW,3) else (⟨now,true,tp,l++missS top d now⟩,0)):
 Seam FS (.block 0 (.rfunc (.t 52) [53] i13a19 i13b19)) (thenK (retK [.c 6 true 4,.t 7] fun v h' n'=>CovS 0 v h' n' (rsV R) [] 0) (Seam FS i13t (retK [.c 6 true 4,.t 7] fun v h' n'=>CovS 0 v h' n' (rsV R) [] 0)))
  [(3,.p 0 0),(4,.p 1 0),(6,.p 2 0),(52,.fn 91 [.p 4 0,.p 3 0])] (hS ti tp now top d v0 L0) 6:=by
 refine Seam.block ?_;have hml:(l++missS top d now).length=l.length+(d-1).toNat:=by rw [List.length_append,missS,mapN_len]
 refine RFunc.intro (F:=FS) (n':=7) (v':= .tup []) (h':=hK ti tp now top d v0 L0 l (d-1).toNat) hT10 mo [3,4] [.p 0 0,.p 1 0] rfl (by kernel_rfl) rfl rfl rfl (fun i t a h1 h2=> ?_) (fun L r hY=> ?_) (fun b k hb=> ?_) (by decide) ?_
 ·match i with
  |0=>simp at h1 h2;subst h1;subst h2;rfl
  |1=>simp at h1 h2;subst h1;subst h2;rfl
  |i+2=>simp at h1
 ·exact w91 (fun cs as' h1 n1 h2 n2 q1 q2 q3 q4 q5=>hY cs as' h1 n1 h2 n2 q1 q2 q3 q4 (by exact q5)) ti tp now top d v0 L0 l hl hd hd0 ht hv
 ·refine nylH_spec ?_ hb;unfold hK;split
  ·rcases hv with ⟨rfl,rfl,rfl⟩|⟨rfl,rfl⟩
   ·rfl
   ·simp only [nylH,hS,lG,nylL,AV.nyl,int1,rows_nyl wt_nyl,Bool.and_self]
  ·simp only [nylH,hS,lG,nylL,AV.nyl,int1,rows_nyl wt_nyl,Bool.and_self]
 ·show Seam FS i13t _ _ _ _;unfold hK;split
  ·rename_i h0;have hm0:missS top d now=[]:=by rw [missS,h0];rfl
   rw [hm0,List.append_nil] at hR;refine tail13 ti tp now top d v0 L0 l ?_ _ R hR _ rfl rfl rfl;rcases hv with h|h
   ·exact .inl h
   ·exact .inr ⟨5,.inl rfl,h⟩
  ·refine tail13 ti tp now top d _ _ (l++missS top d now) (.inr ⟨6,.inr rfl,by rw [hml],rfl⟩) _ R hR _ rfl rfl rfl
theorem chk_sq {at_ tp:Int}: ∀{l:List Wt} {last:Int},chk at_ tp last l=true-> ∀x∈l,wantB x at_=true
 |[],_,_,x,hx=>by cases hx
 |y::r,last,h,x,hx=>by
  simp only [chk,Bool.and_eq_true] at h;rcases List.mem_cons.1 hx with rfl|hx
  ·exact h.1
  ·exact chk_sq h.2.2 x hx
abbrev i13u:ICode:=(.seq (.reg i13r14) (.seq (.reg i13r15) (.seq (.seq (.reg i13r16) (.block 0 (.rfunc (.t 52) [53] i13a19 i13b19))) i13t)))
theorem mid13 (ti tp tp' now seq d:Int) (l:List Wt) (hl:l.length<=64) (hsq: ∀x∈l,inI 0 65535 x.sq=true) (hd:d<=64) (hd0: -40000<=d) (ht:inI 0 65535 tp=true) (R:Ws×Int)
 (hR:R=bif decide (64<(keepL seq tp d l++missS tp d now).length) then (zW,3) else (⟨now,true,tp',keepL seq tp d l++missS tp d now⟩,0)) (e:Env) (he3:eget e 3=some (.p 0 0)) (he4:eget e 4=some (.p 1 0)) (he5:eget e 5=some (.p 2 0)) (he6:eget e 6=some (.p 3 0)) (he9:eget e 9=some (.p 4 0)) (he10:eget e 10=some (.p 5 0)):
 Seam FS i13u (retK [.c 6 true 4,.t 7] fun v h' n'=>CovS 0 v h' n' (rsV R) [] 0) e
  [(5,{cells:=int1 tp}),(4,{cells:=int1 d}),(3,{cells:=[.i .i64 0,.b false,.i .i64 0,.ns]}),(2,{cells:=int1 seq}),(1,{cells:=int1 now}),(0,{cells:=[.i .i64 ti,.b true,.i .i64 tp',.fz (rows Wt.l l) l.length]})] 6:=by
 have hdi:inI (-40000) 40000 d=true:=inI_of (by omega)
 have hu:=wt4_un l;have hk:=fun hv=>rf13 ti tp' now tp d (.sg 5 0 (keepL seq tp d l).length) (lG 5 (keepL seq tp d l)) (keepL seq tp d l) (Nat.le_trans (List.length_filter_le _ _) (by omega)) hd hd0 ht hv R hR
 have hz:=fun hl0=>rf13 ti tp' now tp d .ze [] (keepL seq tp d l) (Nat.le_trans (List.length_filter_le _ _) (by omega)) hd hd0 ht (.inl ⟨rfl,rfl,hl0⟩) R hR
 refine Seam.part hT10 mo ?_;dsimp only [FS];simp (maxSteps:=400000) only [go_sem,he5,he10,he9,simprocAttr];refine Seam.part hT10 mo ?_;dsimp only [FS,T10];have hall:l.all (fun x=>inI 0 65535 x.sq)=true:=List.all_eq_true.2 hsq;have hlm:decide (l.length<=1000000000)=true:=decide_eq_true (by omega)
 cases l with
 |nil=>
  have hz:=hz rfl;have h57: ∀(h:Hp) n,k57 [.fz (rows Wt.l []) 0] h n=some (true,{v:= .ze,n}):=fun _ _=>rfl;simp (maxSteps:=400000) only [go_sem,he3,he5,he10,he9,h57,k56,int1,oneB,ht,hdi,simprocAttr];refine Seam.seq ?_;refine Seam.part hT10 mo ?_;try dsimp only [FS,T10]
  simp (maxSteps:=400000) only [go_sem,he3,he4,he5,he6,he10,he9,k58,int1,simprocAttr];refine Seam.ren [(2,3),(3,6),(4,7)] hz (by decide) (by decide) ?_ ?_
  ·simp (maxSteps:=400000) only [go_sem,he3,he4,he6,AV.ren,renL,AV.bel,belL,nblt,simprocAttr]
  ·simp (maxSteps:=400000) only [go_sem,hS,int1,Blk.ren,AV.ren,renL,AV.bel,belL,nblt,wrB,wrR,simprocAttr]
 |cons x r=>
  simp only [List.length_cons] at hu hl hlm;have hrl:decide (r.length<=1000000000)=true:=decide_eq_true (by omega)
  have h57: ∀(h:Hp) n,k57 [.fz (rows Wt.l (x::r)) (r.length+1)] h n=some (decide (r.length<=1000000000),{v:= .sg n 0 (r.length+1),n:=n+1,nw:=[(n,{cells:=rows Wt.l (x::r),gr:=some 4})]}):=fun h n=>by
   simp only [k57,hu,Option.bind_some]
  simp (maxSteps:=400000) only [go_sem,he3,he5,he10,he9,h57,hu,hrl,k56,int1,oneB,ht,hdi,hall,hlm,simprocAttr];refine andB_i (decide_eq_true (by omega)) ?_
  refine Seam.seq ?_;refine Seam.part hT10 mo ?_;try dsimp only [FS,T10]
  simp (maxSteps:=400000) only [go_sem,he3,he4,he5,he6,he10,he9,k58,int1,simprocAttr];refine Seam.ren [(2,3),(3,11),(4,12),(5,6)] (hk (.inr ⟨rfl,rfl⟩)) (by decide) (by decide) ?_ ?_
  ·simp (maxSteps:=400000) only [go_sem,he3,he4,he6,AV.ren,renL,AV.bel,belL,nblt,simprocAttr]
  ·simp (maxSteps:=400000) only [go_sem,hS,lG,int1,Blk.ren,AV.ren,renL,AV.bel,belL,nblt,wrB,wrR,simprocAttr]
theorem w13 (w:Ws) (now seq:Int) (hl:w.l.length<=1000000000000):FTL Try.prog 13 [.agg w.a,.i .i64 now,.i .i64 seq] [] 0 (rsV (sawS w now seq)) [] 0:=by
 have hwa:=wsA_a w;have hll:decide (w.l.length<=1000000000000)=true:=decide_eq_true hl;have hgd:lateS w now=0->goodB w=true:=fun h=>by
  unfold lateS at h;cases hg:goodB w
  ·rw [hg] at h;simp at h
  ·rfl
 generalize hR:sawS w now seq=R;unfold sawS sawL at hR;have hlt:lateS w now=lateS w now:=rfl;generalize hL:lateS w now=E at hR hgd;obtain ⟨ti,st,tp,l⟩:=w;dsimp only at hR hl hll;simp only [Ws.a] at hwa ⊢;refine FTL.of_seamC (cx:=cxT T10) Try.func13 i13_eq (by simp [i13]) ?_
 dsimp only [i13];refine Seam.part hT10 mo ?_;simp (maxSteps:=400000) only [go_sem,simprocAttr];refine Seam.part hT10 mo ?_;dsimp only [T10];by_cases hE:E=0
 rotate_left
 ·have e1:(E !=0)=true:=by simp [bne,hE]
  rw [if_neg hE] at hR;simp (maxSteps:=400000) only [go_sem,k54,hwa,hll,hL,e1,simprocAttr];rw [<-hR];exact cov_n
 have hg:=hgd hE;subst hE;rw [if_pos rfl] at hR;have e1:((0:Int) !=0)=false:=rfl;simp (maxSteps:=400000) only [go_sem,k54,hwa,hll,hL,e1,simprocAttr];refine Seam.part hT10 mo ?_;try dsimp only [T10]
 cases a1:inI 0 65535 seq
 ·rw [a1] at hR;simp (maxSteps:=400000) only [go_sem,k49,a1,simprocAttr];rw [<-hR];exact cov_n
 rw [a1] at hR;simp (maxSteps:=400000) only [go_sem,k49,a1,simprocAttr];refine Seam.part hT10 mo ?_;try dsimp only [T10]
 cases st
 ·simp (maxSteps:=400000) only [go_sem,simprocAttr];rw [<-hR];exact cov_n
 simp (maxSteps:=400000) only [go_sem,simprocAttr];have hhd:headB ⟨ti,true,tp,l⟩=true/\chk ti tp (-1001) l=true:=by
  simp only [goodB,Bool.and_eq_true] at hg;exact hg
 obtain ⟨_,a2,hl64⟩:=headB_t hhd.1;have hsq: ∀x∈l,inI 0 65535 x.sq=true:=fun x hx=>wantB_sq (chk_sq hhd.2 x hx);dsimp only at a2 hl64;refine Seam.part hT10 mo ?_;try dsimp only [T10]
 simp (maxSteps:=400000) only [go_sem,k51,a1,a2,simprocAttr];have hrg:=lead_rng seq tp;generalize lead seq tp=d at hR hrg;refine Seam.part hT10 mo ?_;try dsimp only [T10]
 cases a3:decide (d>64);rotate_left
 ·rw [a3] at hR;simp (maxSteps:=400000) only [go_sem,a3,simprocAttr];rw [<-hR];exact cov_n
 rw [a3] at hR;have hd:=of_decide_eq_false a3;simp (maxSteps:=400000) only [go_sem,a3,simprocAttr];refine Seam.part hT10 mo ?_;try dsimp only [T10]
 simp (maxSteps:=400000) only [go_sem,simprocAttr];refine Seam.part hT10 mo ?_;try dsimp only [T10]
 have mid:=fun tp' hh=>mid13 ti tp tp' now seq d l hl64 hsq (by omega) (by omega) a2 R hh
 by_cases a4:d>0
 ·have a4':decide (d>0)=true:=decide_eq_true a4;rw [if_pos a4] at hR;simp (maxSteps:=400000) only [go_sem,a4',simprocAttr];exact mid seq hR.symm _ rfl rfl rfl rfl rfl rfl
 ·have a4':decide (d>0)=false:=decide_eq_false a4;rw [if_neg a4] at hR;simp (maxSteps:=400000) only [go_sem,a4',simprocAttr];exact mid tp hR.symm _ rfl rfl rfl rfl rfl rfl
theorem snoc_f {α:Type} {p:α->Bool} {l:List α} {k:Nat} {x:α} (h:l[k]? =some x):(l.take (k+1)).filter p=(l.take k).filter p++(if p x then [x] else []):=by
 rw [List.take_add_one,h,List.filter_append];cases hq:p x<;>simp [hq]
theorem gQp (q:List Wt):(gQ Wt.l 4 q).plain=true:=(gQ_is (f:=Wt.l) Wt.bel Wt.len q).pl
theorem gQcap (q:List Wt):(gQ Wt.l 4 q).capOK:=by unfold gQ;split<;>trivial
def I1 (x:Int):List AV:=[.i .i64 x]
theorem I1.len (x:Int):(I1 x).length=1:=rfl
theorem I1.bel (x:Int):belL 0 (I1 x)=true:=rfl
theorem gIp (q:List Int):(gQ I1 1 q).plain=true:=(gQ_is (f:=I1) I1.bel I1.len q).pl
theorem gIcap (q:List Int):(gQ I1 1 q).capOK:=by unfold gQ;split<;>trivial
theorem irB {l:List Int} (n:Nat):belL n (rows I1 l)=true:=belL_mono0 _ (rows_bel I1.bel)
def askX (now trip:Int) (x:Wt):Wt:=bif decide (dueS x trip<=now) then ⟨x.sq,x.fd,now,x.tr+1⟩ else x
def stayB (now trip:Int) (x:Wt):Bool:= !decide (endS x trip<=now)
def askL (now trip:Int) (l:List Wt):List Wt:=(l.filter (stayB now trip)).map (askX now trip)
def askN (now trip:Int) (l:List Wt):List Int:=((l.filter (stayB now trip)).filter (fun x=>decide (dueS x trip<=now))).map Wt.sq
def askU (now trip:Int) (l:List Wt):Bool:=l.any (fun x=>decide (endS x trip<=now))
abbrev Asked:=Ws×List Int×Bool×Int
def askS (w:Ws) (now trip:Int):Asked:=
 if lateS w now=0 then bif inI 1 2000 trip then (⟨now,w.st,w.tp,askL now trip w.l⟩,askN now trip w.l,askU now trip w.l,0) else (zW,[],false,2)
 else (zW,[],false,lateS w now)
def askV (r:Asked):AV:= .tup [.agg r.1.a,.fz (rows I1 r.2.1) r.2.1.length,.b r.2.2.1,.i .i64 r.2.2.2]
theorem askV_bel (r:Asked):(askV r).bel 0=true:=by simp only [askV,AV.bel,belL,Ws.bel,rows_bel I1.bel,Bool.and_self]
theorem askL_s {now trip:Int} {l:List Wt} {k:Nat} {x:Wt} (h:l[k]? =some x):askL now trip (l.take (k+1))=askL now trip (l.take k)++(if stayB now trip x then [askX now trip x] else []):=by
 rw [askL,snoc_f h,List.map_append];split<;>simp [askL]
theorem askN_s {now trip:Int} {l:List Wt} {k:Nat} {x:Wt} (h:l[k]? =some x):askN now trip (l.take (k+1))=askN now trip (l.take k)++(if stayB now trip x then (if decide (dueS x trip<=now) then [x.sq] else []) else []):=by
 rw [askN,snoc_f h,List.filter_append,List.map_append];split
 ·split<;>simp_all [askN]
 ·simp [askN]
theorem askU_s {now trip:Int} {l:List Wt} {k:Nat} {x:Wt} (h:l[k]? =some x):askU now trip (l.take (k+1))=(askU now trip (l.take k)||decide (endS x trip<=now)):=by
 rw [askU,List.take_add_one,h,List.any_append];simp [askU]
theorem cov_nn {ti tp e:Int} {st up:Bool} {h:Hp} {n:Nat}:CovS 0 (.tup [.agg [.i .i64 ti,.b st,.i .i64 tp,.ns],.ns,.b up,.i .i64 e]) h n (askV (⟨ti,st,tp,[]⟩,[],up,e)) [] 0:=by
 refine CovS.frzN (l:=[]) (v':=askV (⟨ti,st,tp,[]⟩,[],up,e)) (FzV.tup ⟨FzV.agg ⟨FzV.refl,FzV.refl,FzV.refl,FzV.hit,trivial⟩,FzV.hit,FzV.refl,FzV.refl,trivial⟩) ?_;exact CovS.ends (Ends.pureE rfl rfl)
theorem cov_qq {ti tp e:Int} {st up:Bool} {h:Hp} {n:Nat} {q:List Wt} {ns:List Int} {b c:Nat} (hk:hasS h (gQ Wt.l 4 q) b) (hk2:hasS h (gQ I1 1 ns) c) (hbc:b≠c):CovS 0 (.tup [.agg [.i .i64 ti,.b st,.i .i64 tp,(gQ Wt.l 4 q).v b],(gQ I1 1 ns).v c,.b up,.i .i64 e]) h n (askV (⟨ti,st,tp,q⟩,ns,up,e)) [] 0:=by
 refine CovS.frzS (h':=(gQ I1 1 ns).h c) (v':= .tup [.agg (Ws.a ⟨ti,st,tp,q⟩),(gQ I1 1 ns).v c,.b up,.i .i64 e]) (gQ_is (f:=Wt.l) Wt.bel Wt.len q) (gQ_fresh q) (gQcap q) hk (FzV.tup ⟨FzV.agg ⟨FzV.refl,FzV.refl,FzV.refl,FzV.hit,trivial⟩,FzV.refl,FzV.refl,FzV.refl,trivial⟩) (fun d kk hc=>⟨fun hdb=> ?_,hk2 _ _ hc⟩) ?_
 ·subst hdb;unfold gQ at hc;split at hc
  ·simp [Sh.h,hget] at hc
  ·simp only [Sh.h,hget] at hc;have h1:c.beq d=false:=by
    cases hcd:c.beq d
    ·rfl
    ·exact absurd (Nat.eq_of_beq_eq_true hcd).symm hbc
   rw [h1] at hc;cases hc
 ·refine CovS.frzS (h':=[]) (v':=askV (⟨ti,st,tp,q⟩,ns,up,e)) (gQ_is (f:=I1) I1.bel I1.len ns) (gQ_fresh ns) (gIcap ns) (fun _ _ h=>h) (FzV.tup ⟨FzV.refl,FzV.hit,FzV.refl,FzV.refl,trivial⟩) (fun c kk hc=>by simp [hget] at hc) ?_
  exact CovS.ends (Ends.pureE (askV_bel _) rfl)
theorem chk_ok {at_ tp:Int} {l:List Wt} {last:Int} (h:chk at_ tp last l=true) (ht:at_<=1099511627776): ∀x∈l,okX x=true:=fun x hx=>wantB_ok (chk_sq h x hx) ht
abbrev hR (ti tp:Int) (l q:List Wt):Hp:=(gQ Wt.l 4 q).h 2++[(1,{cells:=[.i .i64 0,.b false,.i .i64 0,.ns]}),(0,{cells:=[.i .i64 ti,.b true,.i .i64 tp,.fz (rows Wt.l l) l.length]})]
/-! SameWants of the same. -/
/-! Drafts -/
structure Ev where
 wh:Int
 wa:Int
 st:Int
def Ev.l (x:Ev):List AV:=[.i .u8 x.wh,.i .u16 x.wa,.i .i8 x.st]
def Ev.ok (x:Ev):Bool:=inI 0 255 x.wh&&(inI 0 65535 x.wa&&inI (-128) 127 x.st)
theorem Ev.len (x:Ev):x.l.length=3:=rfl
theorem Ev.bel (x:Ev):belL 0 x.l=true:=rfl
structure Dr where
 sq:Int
 tr:Int
 ev:List Ev
def Dr.a (d:Dr):List AV:=[.i .u16 d.sq,.i .u16 d.tr,.fz (rows Ev.l d.ev) d.ev.length]
theorem Dr.bel (d:Dr):belL 0 d.a=true:=by simp only [Dr.a,belL,AV.bel,rows_bel Ev.bel,Bool.and_self]
structure Dr.ok (d:Dr):Prop where
 sq:inI 0 65535 d.sq=true
 tr:inI 0 65535 d.tr=true
 ev: ∀x∈d.ev,x.ok=true
def evN (l:List Ev) (k:Nat):Ev:=match l[k]? with|some x=>x|none=>⟨0,0,0⟩
theorem evN_at {l:List Ev} {k:Nat} {x:Ev} (h:l[k]? =some x):evN l k=x:=by simp only [evN,h]
def atN (l:List Ev) (a:Int):Nat->Int
 |0=>a
 |k+1=>bif decide ((evN l k).st>0) then (atN l a k+(evN l k).st+65536).tmod 65536 else atN l a k
def seqN (l:List Ev) (a:Int) (k:Nat):Int:=(atN l a k+(evN l k).st+65536).tmod 65536
theorem evN_ok {l:List Ev} (h: ∀x∈l,x.ok=true) (k:Nat):(evN l k).ok=true:=by
 unfold evN;split
 ·exact h _ (List.mem_of_getElem? (by assumption))
 ·rfl
theorem Ev.rng {x:Ev} (h:x.ok=true):(0<=x.wh/\x.wh<=255)/\(0<=x.wa/\x.wa<=65535)/\(-128<=x.st/\x.st<=127):=by
 simp only [Ev.ok,Bool.and_eq_true] at h;exact ⟨inI_t h.1,inI_t h.2.1,inI_t h.2.2⟩
theorem atN_rng {l:List Ev} {a:Int} (h: ∀x∈l,x.ok=true) (ha:0<=a/\a<=65535): ∀k,0<=atN l a k/\atN l a k<=65535
 |0=>ha
 |k+1=>by
  have:=atN_rng h ha k;have he:=Ev.rng (evN_ok h k);rw [atN];cases decide ((evN l k).st>0)
  ·exact this
  ·show 0<=(atN l a k+(evN l k).st+65536).tmod 65536/\(atN l a k+(evN l k).st+65536).tmod 65536<=65535;rw [Int.tmod_eq_emod_of_nonneg (by omega)];omega
def stepsL (d:Dr):List Int:=mapN (seqN d.ev d.sq) (min d.ev.length 40)
def roundS (d:Dr):Int:=1+d.tr.tmod 400
theorem roundS_rng {d:Dr} (hd:d.ok):1<=roundS d/\roundS d<=400:=by
 have:=inI_t hd.tr;unfold roundS;rw [Int.tmod_eq_emod_of_nonneg (by omega)];omega
theorem w17 (d:Dr) (hd:d.ok):FTL Try.prog 17 [.agg d.a] [] 0 (.i .i64 (roundS d)) [] 0:=by
 have h1:=inI_t hd.tr;obtain ⟨sq,tr,ev⟩:=d;dsimp only at h1;simp only [Dr.a,roundS];have h2:0<=tr.tmod 400/\tr.tmod 400<400:=by rw [Int.tmod_eq_emod_of_nonneg (by omega)];omega
 have m1:IntKind.u16.wrap (tr.tmod 400)=tr.tmod 400:=by rw [wrapU16];omega
 have m2:IntKind.i64.wrap (tr.tmod 400)=tr.tmod 400:=wrapL (by omega) (by omega)
 have m3:IntKind.i64.wrap (1+tr.tmod 400)=1+tr.tmod 400:=wrapL (by omega) (by omega)
 refine FTL.of_iw Sound.nil mo Try.func17 i17_eq (by simp [i17]) (iw_of_jw ?_)
 dsimp only [i17];simp (maxSteps:=400000) only [go_sem,m1,m2,m3,simprocAttr];exact Ends.pureE rfl rfl
theorem erB {l:List Ev} (n:Nat):belL n (rows Ev.l l)=true:=belL_mono0 _ (rows_bel Ev.bel)
theorem erR {l:List Ev} (g:Nat->Nat):renL g (rows Ev.l l)=rows Ev.l l:=renL_fix0 _ (rows_bel Ev.bel)
theorem w27 (d:Dr) (hd:d.ok):FTL Try.prog 27 [.agg d.a] [] 0 (.fz (rows I1 (stepsL d)) (stepsL d).length) [] 0:=by
 have h1:=inI_t hd.sq;have hev:=hd.ev;have hst:stepsL d=mapN (seqN d.ev d.sq) (min d.ev.length 40):=rfl;obtain ⟨sq,tr,ev⟩:=d;dsimp only at h1 hev hst;generalize stepsL ⟨sq,tr,ev⟩=sl at*;simp only [Dr.a];have m1:IntKind.i64.wrap sq=sq:=wrapL (by omega) (by omega)
 have hlen:min ev.length 40<=40:=Nat.min_le_right _ _;have hle:min ev.length 40<=ev.length:=Nat.min_le_left _ _;have hge:ev.length=min ev.length 40\/min ev.length 40=40:=by omega
 have hat:=atN_rng (a:=sq) hev h1;have hat0:atN ev sq 0=sq:=rfl;generalize min ev.length 40=M at*;refine FTL.of_cov Sound.nil mo Try.func27 i27_eq (by simp [i27]) (iw_of_jw ?_)
 dsimp only [i27];simp (maxSteps:=400000) only [go_sem,m1,simprocAttr];refine Loop.stepR (F:=⟨Try.prog,cxT [],[19,35],42,0⟩) Sound.nil mo (X:=Nat) (fun k=>k<=M) (fun k=>M-k)
  (fun k=>[(1,.p 0 0),(3,(gQ I1 1 (mapN (seqN ev sq) k)).v 1),(4,.i .i64 (atN ev sq k)),(5,.i .i64 (k:Int))])
  (fun k=>(gQ I1 1 (mapN (seqN ev sq) k)).h 1++[(0,{cells:=[.i .u16 sq,.i .u16 tr,.fz (rows Ev.l ev) ev.length]})]) 2 0 (fun k=>k+1) [] (fun _=>[(1,3)]) (by decide) (by decide) (fun k=>by decide) (Nat.zero_le _) ?_ ?_ (fun k hk=> ?_)
 ·simp (maxSteps:=400000) only [go_sem,mapN_z,hat0,erB,gQ_nil,fv_n,AV.bel,belL,nblt,AV.ren,renL,simprocAttr]
 ·simp (maxSteps:=400000) only [go_sem,mapN_z,gQ_nil,fh_n,AV.bel,belL,nblt,Blk.ren,AV.ren,renL,erB,erR,simprocAttr]
 by_cases hlt:k<M
 ·have c1:decide ((k:Int)<(ev.length:Int))=true:=decide_eq_true (by omega)
  have c3:decide ((k:Int)<40)=true:=decide_eq_true (by omega)
  have c2:decide (0<=(k:Int)/\(k:Int)<(ev.length:Int))=true:=decide_eq_true (by omega)
  have hw:IntKind.i64.wrap ((k:Int)+1)=((k+1:Nat):Int):=by rw [wrapL (by omega) (by omega)];omega
  obtain ⟨x,hx⟩: ∃x,ev[k]? =some x:=⟨_,List.getElem?_eq_getElem (by omega)⟩
  have hr0:(rows Ev.l ev)[k*3+2]? =some (.i .i8 x.st):=rows_get (f:=Ev.l) (z:=3) (j:=2) (v:= .i .i8 x.st) Ev.len hx rfl;have hxr:=(Ev.rng (hev x (List.mem_of_getElem? hx))).2.2;have hsk:M-(k+1)<M-k:=by omega
  have hms:mapN (seqN ev sq) (k+1)=mapN (seqN ev sq) k++[(atN ev sq k+x.st+65536).tmod 65536]:=by rw [mapN_s,seqN,evN_at hx]
  have has:atN ev sq (k+1)=bif decide (x.st>0) then (atN ev sq k+x.st+65536).tmod 65536 else atN ev sq k:=by rw [atN,evN_at hx]
  rw [hms,has];have hql:(mapN (seqN ev sq) k).length<=40:=by rw [mapN_len];omega
  have hak:=hat k;generalize mapN (seqN ev sq) k=q at*;generalize atN ev sq k=at_ at*;have gm:decide (8*(q.length+1)<=growMax)=true:=decide_eq_true (by simp only [growMax];omega)
  have zR:(rows I1 q).length=q.length*1:=rows_len I1.len;have pk:=gIp q;have e1:IntKind.i64.wrap x.st=x.st:=wrapL (by omega) (by omega)
  have e2:IntKind.i64.wrap (at_+x.st)=at_+x.st:=wrapL (by omega) (by omega)
  have e3:IntKind.i64.wrap (at_+x.st+65536)=at_+x.st+65536:=wrapL (by omega) (by omega)
  have e5:0<=(at_+x.st+65536).tmod 65536/\(at_+x.st+65536).tmod 65536<=65535:=by rw [Int.tmod_eq_emod_of_nonneg (by omega)];omega
  generalize x.st=s at*;have pk':=gIp (q++[(at_+s+65536).tmod 65536]);rw [gQ_snoc] at pk' ⊢;have e4:IntKind.i64.wrap ((at_+s+65536).tmod 65536)=(at_+s+65536).tmod 65536:=wrapL (by omega) (by omega)
  simp only [I1] at pk';cases hs:decide (s>0);all_goals
   simp (maxSteps:=400000) only [go_sem,c1,c2,c3,hw,hr0,hs,e1,e2,e3,e4,gm,zR,pk,pk',hsk,hlt,AV.bel,belL,nblt,Blk.ren,renL,AV.ren,erB,erR,I1,Nat.add_zero,simprocAttr];exact hlt
 ·have c1:decide ((k:Int)<(ev.length:Int))=true\/decide ((k:Int)<(ev.length:Int))=false:=by cases decide ((k:Int)<(ev.length:Int))<;>simp
  obtain rfl:k=M:=by omega
  rw [<-hst];have hfr:=gQ_fresh (f:=I1) (z:=1) sl;have pk:=gIp sl;have fin: ∀(h:Hp) (n:Nat),hasS h (gQ I1 1 sl) 1->CovS 0 ((gQ I1 1 sl).v 1) h n (.fz (rows I1 sl) sl.length) [] 0:=fun h n hk=>by
   refine CovS.frzS (h':=[]) (v':= .fz (rows I1 sl) sl.length) (gQ_is (f:=I1) I1.bel I1.len sl) hfr (gIcap sl) hk FzV.hit (fun c kk hc=>by simp [hget] at hc) ?_
   exact CovS.ends (Ends.pureE (by simp only [AV.bel,rows_bel I1.bel]) rfl)
  rcases c1 with c1|c1
  ·have c3:decide ((k:Int)<40)=false:=decide_eq_false (by have:=of_decide_eq_true c1;omega)
   simp (maxSteps:=400000) only [go_sem,c1,c3,pk,simprocAttr];exact fin _ _ (by simp [hasS_cons,hasS_hit,hasS_hit0])
  ·simp (maxSteps:=400000) only [go_sem,c1,pk,simprocAttr];exact fin _ _ (by simp [hasS_cons,hasS_hit,hasS_hit0])
def T14:List (Nat×Ct):=[(49,k49),(54,k54),(60,k60),(61,k61)]
theorem hT14:Sound Try.prog (cxT T14):=Sound.cons s49 (Sound.cons s54 (Sound.cons s60 (Sound.cons s61 Sound.nil)))
theorem w20 (w:Ws) (now trip:Int) (hl:w.l.length<=1000000000000):FTL Try.prog 20 [.agg w.a,.i .i64 now,.i .i64 trip] [] 0 (askV (askS w now trip)) [] 0:=by
 have hwa:=wsA_a w;have hll:decide (w.l.length<=1000000000000)=true:=decide_eq_true hl;have hgd:lateS w now=0->goodB w=true:=fun h=>by
  unfold lateS at h;cases hg:goodB w
  ·rw [hg] at h;simp at h
  ·rfl
 generalize hRR:askS w now trip=R;unfold askS at hRR;generalize hL:lateS w now=E at hRR hgd;obtain ⟨ti,st,tp,l⟩:=w;dsimp only at hRR hl hll;simp only [Ws.a] at hwa ⊢;refine FTL.of_cov (cx:=cxT T14) hT14 mo Try.func20 i20_eq (by simp [i20]) (iw_of_jw ?_)
 dsimp only [i20,T14];by_cases hE:E=0
 rotate_left
 ·have e1:(E !=0)=true:=by simp [bne,hE]
  rw [if_neg hE] at hRR;simp (maxSteps:=400000) only [go_sem,k54,hwa,hll,hL,e1,simprocAttr];rw [<-hRR];exact cov_nn
 have hg:=hgd hE;subst hE;rw [if_pos rfl] at hRR;have e1:((0:Int) !=0)=false:=rfl;cases a1:inI 1 2000 trip
 ·rw [a1] at hRR;simp (maxSteps:=400000) only [go_sem,k54,hwa,hll,hL,e1,k49,a1,simprocAttr];rw [<-hRR];exact cov_nn
 rw [a1] at hRR;have hhd:headB ⟨ti,st,tp,l⟩=true/\chk ti tp (-1001) l=true:=by
  simp only [goodB,Bool.and_eq_true] at hg;exact hg
 obtain ⟨hti,a2,hl64⟩:=headB_t hhd.1;have hok:=chk_ok hhd.2 hti.2;have hwb:=fun x hx=>wantB_sq (chk_sq hhd.2 x hx);dsimp only at hl64 hti;simp (maxSteps:=400000) only [go_sem,k54,hwa,hll,hL,e1,k49,a1,simprocAttr];refine Loop.stepR (F:=⟨Try.prog,cxT T14,[18,23,29,32,38],67,0⟩) hT14 mo (X:=Nat) (fun k=>k<=l.length) (fun k=>l.length-k)
  (fun k=>[(1,.i .i64 now),(2,.i .i64 trip),(3,.p 0 0),(6,.p 1 0),(7,(gQ I1 1 (askN now trip (l.take k))).v 3),(8,.b (askU now trip (l.take k))),(11,(gQ Wt.l 4 (askL now trip (l.take k))).v 2),(26,.fz (rows Wt.l l) l.length),(27,.i .i64 (l.length:Int)),(28,.i .i64 (k:Int))])
  (fun k=>(gQ Wt.l 4 (askL now trip (l.take k))).h 2++((gQ I1 1 (askN now trip (l.take k))).h 3++[(1,{cells:=[.i .i64 0,.b false,.i .i64 0,.ns]}),(0,{cells:=[.i .i64 ti,.b st,.i .i64 tp,.fz (rows Wt.l l) l.length]})])) 4 0 (fun k=>k+1) []
  (fun k=>match l[k]? with|some x=>if endS x trip<=now then [] else if dueS x trip<=now then [(3,6),(2,8)] else [(2,6)]|none=>[]) (by decide) (by decide) (fun k=>by split<;>(try split)<;>(try split)<;>decide) (Nat.zero_le _) ?_ ?_ (fun k hk=> ?_)
 ·simp (maxSteps:=400000) only [go_sem,askL,askN,askU,List.take_zero,List.filter_nil,List.map_nil,List.any_nil,gQ_nil,fv_n,AV.bel,belL,nblt,AV.ren,renL,wrB,wrR,simprocAttr]
 ·simp (maxSteps:=400000) only [go_sem,askL,askN,askU,List.take_zero,List.filter_nil,List.map_nil,List.any_nil,gQ_nil,fh_n,AV.bel,belL,nblt,Blk.ren,AV.ren,renL,wrB,wrR,simprocAttr]
 dsimp only [T14];by_cases hlt:k<l.length
 ·have c1:decide ((k:Int)<(l.length:Int))=true:=decide_eq_true (by omega)
  have c2:decide (0<=(k:Int)/\(k:Int)<(l.length:Int))=true:=decide_eq_true (by omega)
  have hw:IntKind.i64.wrap ((k:Int)+1)=((k+1:Nat):Int):=by rw [wrapL (by omega) (by omega)];omega
  obtain ⟨x,hx⟩: ∃x,l[k]? =some x:=⟨_,List.getElem?_eq_getElem hlt⟩;have hr:=wt_at hx;have hsn:=askL_s (now:=now) (trip:=trip) hx;have hsN:=askN_s (now:=now) (trip:=trip) hx;have hsU:=askU_s (now:=now) (trip:=trip) hx;have hsk:l.length-(k+1)<l.length-k:=by omega
  have hxo:=hok x (List.mem_of_getElem? hx);have hfl:(askL now trip (l.take k)).length<=64:=by
   rw [askL,List.length_map];exact Nat.le_trans (List.length_filter_le _ _) (Nat.le_trans (List.length_take_le _ _) (by omega))
  have hnl:(askN now trip (l.take k)).length<=64:=by
   rw [askN,List.length_map];exact Nat.le_trans (List.length_filter_le _ _) (Nat.le_trans (List.length_filter_le _ _) (Nat.le_trans (List.length_take_le _ _) (by omega)))
  rw [hsn,hsN,hsU,hx];dsimp only;generalize askL now trip (l.take k)=q at*;generalize askN now trip (l.take k)=ns at*;generalize askU now trip (l.take k)=up at*;have gm:decide (32*(q.length+1)<=growMax)=true:=decide_eq_true (by simp only [growMax];omega)
  have gm2:decide (8*(ns.length+1)<=growMax)=true:=decide_eq_true (by simp only [growMax];omega)
  have zR:(rows Wt.l q).length=q.length*4:=rows_len Wt.len;have zR2:(rows I1 ns).length=ns.length*1:=rows_len I1.len;have pk:=gQp q;have pk2:=gIp ns;have hwt:IntKind.i64.wrap (x.tr+1)=x.tr+1:=by
   simp only [okX,Bool.and_eq_true] at hxo;have:=inI_t hxo.1.1.2;exact wrapL (by omega) (by omega)
  have hk61: ∀(h:Hp) n,k61 [.agg x.l,.i .i64 trip] h n=some (true,{v:= .i .i64 (endS x trip),n}):=fun h n=>by simp only [k61,wt4_l,Option.bind_some,hxo,a1,Bool.and_self]
  have hk60: ∀(h:Hp) n,k60 [.agg x.l,.i .i64 trip] h n=some (true,{v:= .i .i64 (dueS x trip),n}):=fun h n=>by simp only [k60,wt4_l,Option.bind_some,hxo,a1,Bool.and_self]
  have hax:askX now trip x=bif decide (dueS x trip<=now) then ⟨x.sq,x.fd,now,x.tr+1⟩ else x:=rfl
  have hsb:stayB now trip x= !decide (endS x trip<=now):=rfl;rw [hax,hsb];generalize endS x trip=en at*;generalize dueS x trip=du at*;cases h1:decide (en<=now)
  ·have h1':=of_decide_eq_false h1;cases h2:decide (du<=now)
   ·have h2':=of_decide_eq_false h2;have pk':=gQp (q++[x]);simp only [h1,h2,h1',h2',Bool.not_false,Bool.or_false,cond_false,if_true,if_false,Bool.false_eq_true,List.append_nil];rw [gQ_snoc] at pk' ⊢;obtain ⟨sq,fd,ak,tr⟩:=x;simp only [Wt.l] at pk' hr hk60 hk61;simp (maxSteps:=400000) only [go_sem,c1,c2,hw,hr,hk60,hk61,h1,h2,gm,zR,pk,pk',pk2,hsk,hlt,AV.bel,belL,nblt,Blk.ren,renL,AV.ren,wrB,wrR,Wt.l,Nat.add_zero,simprocAttr];exact hlt
   ·have h2':=of_decide_eq_true h2;have pk':=gQp (q++[⟨x.sq,x.fd,now,x.tr+1⟩]);have pk3:=gIp (ns++[x.sq]);simp only [h1,h2,h1',h2',Bool.not_false,Bool.or_false,cond_true,if_true,if_false,Bool.false_eq_true];rw [gQ_snoc] at pk' pk3;rw [gQ_snoc,gQ_snoc];obtain ⟨sq,fd,ak,tr⟩:=x;simp only [Wt.l,I1] at pk' pk3 hr hk60 hk61 hwt;simp (maxSteps:=400000) only [go_sem,c1,c2,hw,hr,hk60,hk61,h1,h2,hwt,gm,gm2,zR,zR2,pk,pk',pk2,pk3,hsk,hlt,AV.bel,belL,nblt,Blk.ren,renL,AV.ren,wrB,wrR,Wt.l,I1,Nat.add_zero,simprocAttr];exact hlt
  ·have h1':=of_decide_eq_true h1;simp only [h1,h1',Bool.not_true,Bool.or_true,if_true,if_false,Bool.false_eq_true,List.append_nil];obtain ⟨sq,fd,ak,tr⟩:=x;simp only [Wt.l] at hr hk60 hk61;simp (maxSteps:=400000) only [go_sem,c1,c2,hw,hr,hk61,h1,pk,pk2,hsk,hlt,AV.bel,belL,nblt,Blk.ren,renL,AV.ren,wrB,wrR,Wt.l,Nat.add_zero,simprocAttr];exact hlt
 ·have c1:decide ((k:Int)<(l.length:Int))=false:=decide_eq_false (by omega)
  obtain rfl:k=l.length:=by omega
  rw [List.take_length];rw [<-hRR];generalize askL now trip l=q at*;generalize askN now trip l=ns at*;generalize askU now trip l=up at*;have pk:=gQp q;have pk2:=gIp ns;simp (maxSteps:=400000) only [go_sem,c1,pk,pk2,simprocAttr];exact cov_qq (by simp [hasS_cons,hasS_hit,hasS_hit0,hasS_skip]) (by simp [hasS_cons,hasS_hit,hasS_hit0,hasS_skip]) (by decide)
def ev3:List AV->Option Ev
 |[.i .u8 a,.i .u16 b,.i .i8 c]=>some ⟨a,b,c⟩
 |_=>none
theorem ev3_l (x:Ev):ev3 x.l=some x:=rfl
theorem ev3_eq {c:List AV} {x:Ev} (h:ev3 c=some x):c=x.l:=by
 unfold ev3 at h;split at h
 ·cases h;rfl
 ·cases h
def drA:List AV->Option Dr
 |[.i .u16 sq,.i .u16 tr,.fz L m]=>(unrows 3 ev3 m L).bind fun l=>some ⟨sq,tr,l⟩
 |_=>none
theorem drA_a (d:Dr):drA d.a=some d:=by
 obtain ⟨sq,tr,l⟩:=d;simp only [drA,Dr.a,unrows_rows Ev.len ev3_l,Option.bind_some]
theorem drA_eq {c:List AV} {d:Dr} (h:drA c=some d):c=d.a:=by
 unfold drA at h;split at h
 ·simp only [Option.bind_eq_some_iff,Option.some.injEq] at h;obtain ⟨l,hl,rfl⟩:=h;obtain ⟨rfl,hm⟩:=unrows_eq (f:=Ev.l) (fun c a h=>ev3_eq h) hl;subst hm;rfl
 ·cases h
def Dr.okB (d:Dr):Bool:=inI 0 65535 d.sq&&(inI 0 65535 d.tr&&d.ev.all Ev.ok)
theorem Dr.ok_iff {d:Dr}:d.okB=true↔d.ok:=by
 simp only [Dr.okB,Bool.and_eq_true,List.all_eq_true];exact ⟨fun h=>⟨h.1,h.2.1,h.2.2⟩,fun h=>⟨h.sq,h.tr,h.ev⟩⟩
def k17:Ct
 |[.agg c],_,n=>(drA c).bind fun d=>some (d.okB,{v:= .i .i64 (roundS d),n})
 |_,_,_=>none
theorem s17:SoundAt Try.prog 17 k17:=fun args h n c E hc ht=>by
 unfold k17 at hc;split at hc
 ·simp only [Option.bind_eq_some_iff] at hc;obtain ⟨d,hd,he⟩:=hc;cases he;rw [drA_eq hd];exact CallOK.pure (by kernel_rfl) (by simp only [belL,AV.bel,Dr.bel,Bool.and_self]) rfl (w17 d (Dr.ok_iff.1 ht)) _ _
 ·cases hc
def k27:Ct
 |[.agg c],_,n=>(drA c).bind fun d=>some (d.okB,{v:= .fz (rows I1 (stepsL d)) (stepsL d).length,n})
 |_,_,_=>none
theorem s27:SoundAt Try.prog 27 k27:=fun args h n c E hc ht=>by
 unfold k27 at hc;split at hc
 ·simp only [Option.bind_eq_some_iff] at hc;obtain ⟨d,hd,he⟩:=hc;cases he;rw [drA_eq hd];exact CallOK.pure (by kernel_rfl) (by simp only [belL,AV.bel,Dr.bel,Bool.and_self]) (by simp only [AV.bel,rows_bel I1.bel]) (w27 d (Dr.ok_iff.1 ht)) _ _
 ·cases hc
/-! The wants of a draft -/
end Go.Proofs.Res
namespace Go.Proofs.Res
open Go.Ab
set_option maxHeartbeats 16000000
structure Bd where
 wh:Int
 at_:Int
 n:Int
def Bd.a (b:Bd):List AV:=[.i .u8 b.wh,.i .u8 b.at_,.i .i64 b.n]
def Bd.okB (b:Bd):Bool:=inI 0 255 b.wh&&inI 0 255 b.at_
end Go.Proofs.Res
namespace Go.Proofs.Res
open Go.Ab
theorem flatR {α:Type} {T:Ty} {f:α->List AV} {ok:α->Bool} (hT: ∀x,FShp (.f T) x-> ∃a,x=f a/\ok a=true) (ls:List (List AV)) (h: ∀x∈ls,FShp (.f T) x): ∃l:List α,ls.flatten=rows f l/\ls.length=l.length/\ ∀a∈l,ok a=true:=by
 obtain ⟨l,h1,h2,h3⟩:=flat_rows (T:=T) (f:=f) (ok:=ok) hT ls h;exact ⟨l,h1,h2.symm,List.all_eq_true.1 h3⟩
theorem dr_shp {l:List AV} (h:FShp (.st [.f (.i .u16),.f (.i .u16),.sl (.f (.st [.i .u8,.i .u16,.i .i8]))]) l): ∃d:Dr,l=d.a/\d.ok:=by
 obtain ⟨_,_,rfl,⟨sq,rfl,h1⟩,_,_,rfl,⟨tr,rfl,h2⟩,_,_,rfl,⟨ls,h3,_,rfl⟩,rfl⟩:=h;obtain ⟨ev,e1,e2,e3⟩:=flatR (T:= .st [.i .u8,.i .u16,.i .i8]) (f:=Ev.l) (ok:=Ev.ok) (fun x h=>by
  obtain ⟨_,_,rfl,⟨a,rfl,ha⟩,_,_,rfl,⟨b,rfl,hb⟩,_,_,rfl,⟨c,rfl,hc⟩,rfl⟩:=h;have ha:inI 0 255 a=true:=inI_of ha;have hb:inI 0 65535 b=true:=inI_of hb;have hc:inI (-128) 127 c=true:=inI_of hc;exact ⟨⟨a,b,c⟩,rfl,by simp only [Ev.ok,ha,hb,hc,Bool.and_self]⟩) ls h3
 refine ⟨⟨sq,tr,ev⟩,by simp only [Dr.a,e1,e2];rfl,inI_of h1,inI_of h2,e3⟩
end Go.Proofs.Res
