/- Texts laid as one: FlzT5 FlzC24 FlzT6 FlzT7 FlzT8 FlzT9 FlzC6 FlzC7 FlzC8 FlzC9 FlzIc FlzR1 FlzR2. -/
import Derived.Test.YtlokbfkdgnopeaaGreatDoorX8
import Derived.Test.YtlokbfkdgnopeaaGreatDoorProg
set_option maxRecDepth 100000
set_option maxHeartbeats 4000000
set_option linter.unusedSimpArgs false
set_option linter.unusedVariables false
namespace Go.Proofs.Flz
open Go.Ab Go.Proofs.Flt
def flR (h:Flt.Hf) (p:Pc):AV:=match fillS h p with
 |some h2=> .tup [.agg h2.l,.b true]
 |none=> .tup [.agg h.l,.b false]
def u8m (l:List UInt8):List AV:=l.map fun b=>AV.i .u8 (b.toNat:Int)
theorem u8m_get {l:List UInt8} {i:Nat} {x:UInt8} (h:l[i]? =some x):(u8m l)[i]? =some (.i .u8 (x.toNat:Int)):=by
 unfold u8m;rw [List.getElem?_map,h];rfl
theorem u8m_len (l:List UInt8):(u8m l).length=l.length:=List.length_map _
theorem u8m_bel (j:Nat) (l:List UInt8):belL j (u8m l)=true:=by
 induction l with
 |nil=>rfl
 |cons x l ih=>exact Bool.and_eq_true_iff.2 ⟨rfl,ih⟩
theorem u8m_st (l:List UInt8) (i:Nat) (x:UInt8) (h:i<l.length):List.take i (u8m l)++[AV.i .u8 (x.toNat:Int)]++List.drop (i+1) (u8m l)=u8m (l.set i x):=by
 unfold u8m;rw [List.map_set,List.set_eq_take_append_cons_drop,if_pos (by rw [List.length_map];exact h),List.append_assoc];rfl
def bls (l:List Bool):List AV:=l.map AV.b
theorem bls_get {l:List Bool} {i:Nat} {x:Bool} (h:l[i]? =some x):(bls l)[i]? =some (.b x):=by
 unfold bls;rw [List.getElem?_map,h];rfl
theorem bls_len (l:List Bool):(bls l).length=l.length:=List.length_map _
theorem bls_bel (j:Nat) (l:List Bool):belL j (bls l)=true:=by
 induction l with
 |nil=>rfl
 |cons x l ih=>exact Bool.and_eq_true_iff.2 ⟨rfl,ih⟩
theorem bls_st (l:List Bool) (i:Nat) (x:Bool) (h:i<l.length):List.take i (bls l)++[AV.b x]++List.drop (i+1) (bls l)=bls (l.set i x):=by
 unfold bls;rw [List.map_set,List.set_eq_take_append_cons_drop,if_pos (by rw [List.length_map];exact h),List.append_assoc];rfl
theorem bls_zero: ∀n:Nat,zeros [.b false] n=bls (List.replicate n false)
 |0=>rfl
 |n+1=>by rw [List.replicate_succ];show _++zeros [.b false] n=_;rw [bls_zero n];rfl
theorem tail_st (A:List AV) (a b v:AV):List.take (A.length+1) (A++[a,b])++[v]++List.drop (A.length+1+1) (A++[a,b])=A++[a,v]:=by
 induction A with
 |nil=>rfl
 |cons x A ih=>exact congrArg (x:: ·) ih
def TT5:List (Nat×Ct):=[(104,k104)]
theorem hTT5:Sound Tryz.prog (cxT TT5):=Sound.cons s104 Sound.nil
noncomputable abbrev F90:Fx:=⟨Tryz.prog,cxT TT5,[23,36,57,81,88,104],123,0⟩
theorem w90 (h:Flt.Hf) (p:Pc) (o n:Nat) (ho:p.ofs=o) (hn:h.ln=n) (hb:h.bd.length=n) (hp:o+p.pt.length<=n) (hs:srt h.ln (-1) h.got) (hg:h.got.length<=4000) (hkd:h.kd=p.kd) (hln:h.ln=p.ln) (h4:n<=4000):FTL Tryz.prog 90 [.agg h.l,.agg p.l] [] 0 (flR h p) [] 0:=by
 obtain ⟨kn,hkn⟩: ∃kn:Nat->Bool,kn=fun (i:Nat)=>thB h.got (i:Int):=⟨_,rfl⟩;have hk: ∀i:Nat,kn i=true↔cov h.got i:=fun i=>by rw [hkn];exact thB_cov
 have hfl:=fill_N ho hn hb hp hs hkd hln hk;have q104: ∀(i:Nat) (hp:Hp) m,k104 [.agg h.l,.i .i64 (i:Int)] hp m=some (true,{v:= .b (kn i),n:=m}):=fun i hp m=>by
  simp only [k104,hf5_l,Option.bind_some,hkn];rw [decide_eq_true (show h.got.length<=9223372036854775807 by omega)]
 have hfR:flR h p=bif agN kn h.bd p.pt o 0 p.pt.length then .tup [.agg (Hf.l ⟨h.kd,h.ln,h.sq,h.bd.take o++p.pt++h.bd.drop (o+p.pt.length),runs (knI kn o p.pt.length) n⟩),.b true] else .tup [.agg h.l,.b false]:=by
  unfold flR;rw [hfl];cases agN kn h.bd p.pt o 0 p.pt.length<;>rfl
 obtain ⟨kd,ln,sq,bd,got⟩:=h;obtain ⟨pk,pl,ps,po,pt⟩:=p;simp only [Flt.Hf.l] at q104 hfR;dsimp only at ho hn hb hp hs hg hkd hln hkn hfl hfR;subst ho hn;have gb: ∀j,belL j (rows gp got)=true:=fun j=>grB j got;clear hfl hs hk hkn;simp only [Flt.Hf.l,Pc.l];rw [hfR];obtain ⟨KM,hKM⟩: ∃KM:Nat->List AV,KM=fun i=>bls (mapN (fun j=>decide (j<i)&&kn j) n):=⟨_,rfl⟩;have hK0:zeros [.b false] n=KM 0:=by rw [bls_zero,mapN_rep,hKM];dsimp only;rw [mapN_ext (g2:=fun j=>decide (j<0)&&kn j) (fun i _=>by simp)]
 have hKs: ∀i,i<n->List.take i (KM i)++[AV.b (kn i)]++List.drop (i+1) (KM i)=KM (i+1):=fun i hi=>by
  rw [hKM];dsimp only;rw [bls_st _ _ _ (by rw [mapN_len];exact hi),mapN_set hi (g2:=fun j=>decide (j<i+1)&&kn j) (fun j hj=> ?_)]
  by_cases e:j=i
  ·subst e;simp
  ·rw [if_neg e];congr 1;rw [Bool.eq_iff_iff];simp;omega
 have hKl: ∀i,(KM i).length=n:=fun i=>by rw [hKM];dsimp only;rw [bls_len,mapN_len]
 have hKb: ∀j i,belL j (KM i)=true:=fun j i=>by rw [hKM];exact bls_bel _ _
 obtain ⟨LM,hLM⟩: ∃LM:Nat->List AV,LM=fun i=>bls (mapN (knI kn o i) n):=⟨_,rfl⟩;have hL0:KM n=LM 0:=by
  rw [hKM,hLM];dsimp only;congr 1;exact mapN_ext (fun i hi=>by unfold knI;rw [decide_eq_true hi];rw [Bool.eq_iff_iff];simp;omega)
 have hLs: ∀i,o+i<n->List.take (o+i) (LM i)++[AV.b true]++List.drop (o+i+1) (LM i)=LM (i+1):=fun i hi=>by
  rw [hLM];dsimp only;rw [bls_st _ _ _ (by rw [mapN_len];exact hi),mapN_set hi (g2:=knI kn o (i+1)) (fun j hj=> ?_)]
  unfold knI;by_cases e:j=o+i
  ·subst e;rw [if_pos rfl];simp
  ·rw [if_neg e];congr 1;rw [Bool.eq_iff_iff];simp;omega
 have hLl: ∀i,(LM i).length=n:=fun i=>by rw [hLM];dsimp only;rw [bls_len,mapN_len]
 have hLb: ∀j i,belL j (LM i)=true:=fun j i=>by rw [hLM];exact bls_bel _ _
 have hLg: ∀i,o+i<n->(LM i)[o+i]? =some (.b (kn (o+i))):=fun i hi=>by
  rw [hLM];refine bls_get ?_;rw [mapN_get hi];unfold knI;congr 1;rw [Bool.eq_iff_iff];simp
 have hLg2: ∀i,i<n->(LM pt.length)[i]? =some (.b (knI kn o pt.length i)):=fun i hi=>by
  rw [hLM];exact bls_get (mapN_get hi)
 clear hKM hLM;obtain ⟨BM,hBM⟩: ∃BM:Nat->List AV,BM=fun i=>u8m (bd.take o++pt.take i++bd.drop (o+i)):=⟨_,rfl⟩;have hB0:(bd.map fun b=>AV.i .u8 (b.toNat:Int))=BM 0:=by
  rw [hBM];dsimp only;rw [List.take_zero,List.append_nil,Nat.add_zero,List.take_append_drop];rfl
 have hBB: ∀i,i<=pt.length->(bd.take o++pt.take i++bd.drop (o+i)).length=n:=fun i hi=>by
  rw [List.length_append,List.length_append,List.length_take,List.length_take,List.length_drop];omega
 have hBs: ∀i x,pt[i]? =some x->List.take (o+i) (BM i)++[AV.i .u8 (x.toNat:Int)]++List.drop (o+i+1) (BM i)=BM (i+1):=fun i x hx=>by
  have hi:=(List.getElem?_eq_some_iff.1 hx).1;rw [hBM];dsimp only;rw [u8m_st _ _ _ (by rw [hBB i (by omega)];omega)]
  congr 1;have e1:(bd.take o++pt.take i).length=o+i:=by rw [List.length_append,List.length_take,List.length_take];omega
  rw [List.set_append_right _ _ (by rw [e1];exact Nat.le_refl _),e1,Nat.sub_self]
  have e2:bd.drop (o+i)=bd[o+i]'(by omega)::bd.drop (o+(i+1)):=by rw [List.drop_eq_getElem_cons (by omega)];rfl
  rw [e2];have e3:pt.take (i+1)=pt.take i++[x]:=by
   rw [List.take_succ_eq_append_getElem hi];rw [List.getElem?_eq_getElem hi] at hx;rw [Option.some.inj hx]
  rw [e3];simp
 have hBl: ∀i,i<=pt.length->(BM i).length=n:=fun i hi=>by rw [hBM];dsimp only;rw [u8m_len,hBB i hi]
 have hBb: ∀j i,belL j (BM i)=true:=fun j i=>by rw [hBM];exact u8m_bel _ _
 have hBg: ∀i y,i<=pt.length->bd[o+i]? =some y->(BM i)[o+i]? =some (.i .u8 (y.toNat:Int)):=fun i y hi hy=>by
  rw [hBM];refine u8m_get ?_;have e1:(bd.take o++pt.take i).length=o+i:=by rw [List.length_append,List.length_take,List.length_take];omega
  rw [List.getElem?_append_right (by rw [e1];exact Nat.le_refl _),e1,Nat.sub_self,List.getElem?_drop]
  exact hy
 have hBe:bytesOf (List.take n (BM pt.length))=some (bd.take o++pt++bd.drop (o+pt.length)):=by
  rw [hBM];dsimp only;rw [List.take_length,List.take_of_length_le (by rw [u8m_len];have:=hBB _ (Nat.le_refl _);rw [List.take_length] at this;omega)]
  exact u8m_bytes _
 have hBE:(bd.take o++pt++bd.drop (o+pt.length)).length=n:=by have:=hBB _ (Nat.le_refl _);rw [List.take_length] at this;exact this
 clear hBM hBB;generalize hBD:bd.take o++pt++bd.drop (o+pt.length)=BD at*;clear hBD;have m1:decide (0<=(n:Int)/\1*(n:Int)<=281474976710656/\(n:Int)<=9223372036854775807)=true:=decide_eq_true (by omega)
 generalize hA:agN kn bd pt o 0 pt.length=A at*;refine FTL.of_seamC (cx:=cxT TT5) Tryz.func90 i90_eq (by simp [i90]) ?_
 dsimp only [i90];generalize hG:rows gp got=G at*;refine Seam.part (F:=F90) hTT5 mo ?_;dsimp only [F90,TT5];simp only [go_sem,AV.bel,belL,nblt,gb,simprocAttr];refine Seam.part (F:=F90) hTT5 mo ?_;dsimp only [F90,TT5];simp only [go_sem,hB0,hb,simprocAttr];refine Seam.part (F:=F90) hTT5 mo ?_;dsimp only [F90,TT5];simp only [go_sem,hK0,m1,simprocAttr];refine Seam.part (F:=F90) hTT5 mo ?_;dsimp only [F90,TT5];simp only [go_sem,simprocAttr];refine Loop.countI (F:=F90) hTT5 mo n (fun _=>True) (fun k=>[(2,.p 0 0),(3,.p 1 0),(4,.p 2 0),(6,.sg 3 0 n),(7,.sl 4 0 n n),(8,.i .i64 (k:Int))])
  (fun k=>[(0,{cells:=[.i .i64 kd,.i .i64 n,.i .i64 sq,.s bd,.fz G got.length]}),(1,{cells:=[.i .i64 pk,.i .i64 pl,.i .i64 ps,.i .i64 o,.s pt]}),(2,{cells:=[.i .i64 0,.i .i64 0,.i .i64 0,.s [],.ns]}),(3,{cells:=BM 0,gr:=some 1}),(4,{cells:=KM k})]) 5 (by decide) trivial ?_ ?_ (fun k hk _=> ?_)
 ·simp only [go_sem,Int.natCast_zero,AV.bel,belL,nblt,simprocAttr]
 ·simp only [go_sem,AV.bel,belL,nblt,gb,hBb,hKb,simprocAttr]
 dsimp only [F90,TT5];by_cases hlt:k<n
 ·have c1:decide ((k:Int)<(n:Int))=true:=decide_eq_true (by omega)
  have c2:decide (0<=(k:Int)/\(k:Int)<(n:Int))=true:=decide_eq_true (by omega)
  have wk:IntKind.i64.wrap ((k:Int)+1)=((k+1:Nat):Int):=by rw [wrapL (by omega) (by omega)];omega
  have s1:=hKs k hlt;have q:=q104 k;have s2:decide (k+1<=(KM k).length)=true:=decide_eq_true (by rw [hKl];omega)
  simp only [go_sem,c1,c2,q,wk,s1,s2,Nat.mul_one,AV.bel,belL,nblt,gb,hBb,hKb,simprocAttr];exact hlt
 have hkn:k=n:=by omega
 subst hkn;have c1:decide ((k:Int)<(k:Int))=false:=decide_eq_false (by omega)
 rw [hL0];clear hK0 hKs hKl hKb hL0;simp only [go_sem,c1,simprocAttr];refine Seam.part (F:=F90) hTT5 mo ?_;dsimp only [F90,TT5];simp only [go_sem,simprocAttr];refine Loop.countI (F:=F90) hTT5 mo pt.length (fun i=>A=agN kn bd pt o i (pt.length-i)) (fun i=>[(2,.p 0 0),(3,.p 1 0),(4,.p 2 0),(6,.sg 3 0 k),(7,.sl 4 0 k k),(9,.i .i64 (i:Int))])
  (fun i=>[(0,{cells:=[.i .i64 kd,.i .i64 k,.i .i64 sq,.s bd,.fz G got.length]}),(1,{cells:=[.i .i64 pk,.i .i64 pl,.i .i64 ps,.i .i64 o,.s pt]}),(2,{cells:=[.i .i64 0,.i .i64 0,.i .i64 0,.s [],.ns]}),(3,{cells:=BM i,gr:=some 1}),(4,{cells:=LM i})]) 5 (by decide) (by rw [<-hA];rfl) ?_ ?_ (fun i hi hRi=> ?_)
 ·simp only [go_sem,Int.natCast_zero,AV.bel,belL,nblt,simprocAttr]
 ·simp only [go_sem,AV.bel,belL,nblt,gb,hBb,hLb,simprocAttr]
 dsimp only [F90,TT5];by_cases hlt:i<pt.length
 ·have c1:decide ((i:Int)<(pt.length:Int))=true:=decide_eq_true (by omega)
  have c2:decide (0<=(i:Int)/\(i:Int)<(pt.length:Int))=true:=decide_eq_true (by omega)
  have wi:IntKind.i64.wrap ((i:Int)+1)=((i+1:Nat):Int):=by rw [wrapL (by omega) (by omega)];omega
  have wo:IntKind.i64.wrap ((o:Int)+(i:Int))=((o+i:Nat):Int):=by rw [wrapL (by omega) (by omega)];omega
  obtain ⟨x,hx⟩: ∃x,pt[i]? =some x:=⟨_,List.getElem?_eq_getElem hlt⟩;obtain ⟨y,hy⟩: ∃y,bd[o+i]? =some y:=⟨_,List.getElem?_eq_getElem (by omega)⟩
  rw [show pt.length-i=(pt.length-(i+1))+1 by omega] at hRi
  simp only [agN,List.getD_eq_getElem?_getD,hx,hy,Option.getD_some] at hRi;have l1:=hLg i (by omega)
  have l2:=hLs i (by omega)
  have l3:decide (o+i+1<=(LM i).length)=true:=decide_eq_true (by rw [hLl];omega)
  have g1:=hBg i y (by omega) hy
  have g2:=hBs i x hx;have g3:decide (o+i+1<=(BM i).length)=true:=decide_eq_true (by rw [hBl i (by omega)];omega)
  have oi:o+i<k:=by omega
  generalize hoi:o+i=z at*;have c3:decide (0<=(z:Int)/\(z:Int)<(k:Int))=true:=decide_eq_true (by omega)
  have ne:((y.toNat:Int) !=(x.toNat:Int))= !(y==x):=by
   rw [Bool.eq_iff_iff,bne_iff_ne,Bool.not_eq_true',beq_eq_false_iff_ne];constructor
   ·rintro h rfl;exact h rfl
   ·intro h h2;exact h (UInt8.toNat_inj.1 (Int.ofNat.inj h2))
  cases d1:kn z
  ·rw [d1,Bool.not_false,Bool.true_or,Bool.true_and] at hRi;rw [d1] at l1;simp only [go_sem,c1,c2,c3,wi,wo,hx,l1,l2,l3,g1,g2,g3,Nat.mul_one,AV.bel,belL,nblt,gb,hBb,hLb,simprocAttr];exact ⟨hlt,hRi⟩
  ·rw [d1,Bool.not_true,Bool.false_or] at hRi;rw [d1] at l1;cases d2:(y==x)
   ·rw [d2] at ne hRi;rw [show A=false from hRi]
    simp only [go_sem,c1,c2,c3,wi,wo,hx,l1,l2,l3,g1,g2,g3,ne,Nat.mul_one,AV.bel,belL,nblt,gb,hBb,hLb,simprocAttr];exact CovS.ends (Ends.pureE (by simp only [AV.bel,belL,gb,Bool.and_self]) rfl)
   ·rw [d2] at ne hRi;rw [Bool.true_and] at hRi;simp only [go_sem,c1,c2,c3,wi,wo,hx,l1,l2,l3,g1,g2,g3,ne,Nat.mul_one,AV.bel,belL,nblt,gb,hBb,hLb,simprocAttr];exact ⟨hlt,hRi⟩
 obtain rfl:i=pt.length:=by omega
 have c1:decide ((pt.length:Int)<(pt.length:Int))=false:=decide_eq_false (by omega)
 rw [Nat.sub_self] at hRi;rw [show A=true from hRi]
 clear hRi hBs hBg hLs hLg hA;have hBl:=hBl _ (Nat.le_refl _);have hLl:=hLl pt.length;have hBb:=fun j=>hBb j pt.length;have hLb:=fun j=>hLb j pt.length;simp only [go_sem,c1,simprocAttr];refine Seam.part (F:=F90) hTT5 mo ?_;dsimp only [F90,TT5];have bE:decide (BD.length=k)=true:=decide_eq_true hBE;simp only [go_sem,hBe,bE,hBE,List.drop_zero,simprocAttr];refine Seam.part (F:=F90) hTT5 mo ?_;dsimp only [F90,TT5];simp only [go_sem,simprocAttr];generalize hKN:knI kn o pt.length=K2 at*;generalize BM pt.length=BX at*;generalize LM pt.length=LX at*;clear hKN q104;have gR: ∀ψ,renL ψ G=G:=fun ψ=>renL_fix0 _ (gb 0);have lR: ∀ψ,renL ψ LX=LX:=fun ψ=>renL_fix0 _ (hLb 0);obtain ⟨RG,hRG⟩: ∃RG:Nat->List (Int×Int),RG=runs K2:=⟨_,rfl⟩;rw [<-hRG];have R0:RG 0=[]:=by rw [hRG];rfl
 have Rs: ∀i,RG (i+1)=rnS (RG i) i (K2 i):=fun i=>by rw [hRG];rfl
 have Rl: ∀i,(RG i).length<=i:=fun i=>by rw [hRG];exact runs_len K2 i
 clear hRG;have gq0:gQ gp 2 ([]:List (Int×Int))= .nil:=rfl;have gqn: ∀L:List (Int×Int),L≠[]->gQ gp 2 L= .sg {cells:=rows gp L,gr:=some 2} 0 L.length:=fun L h=>by unfold gQ;rw [if_neg (by simpa using h)]
 refine Loop.stepR (F:=F90) hTT5 mo (X:=Nat) (fun i=>i<=k) (fun i=>k-i) (fun i=>[(2,.p 0 0),(4,.p 2 0),(7,.sl 4 0 k k),(11,.p 5 0),(12,.i .i64 (i:Int))])
  (fun i=>(gQ gp 2 (RG i)).h 6++[(5,{cells:=[.i .i64 kd,.i .i64 k,.i .i64 sq,.s BD,(gQ gp 2 (RG i)).v 6]}),(0,{cells:=[.i .i64 kd,.i .i64 k,.i .i64 sq,.s bd,.fz G got.length]}),(2,{cells:=[.i .i64 0,.i .i64 0,.i .i64 0,.s [],.ns]}),(4,{cells:=LX})]) 7 0 (fun i=>i+1) []
  (fun i=>bif K2 i&&(match (RG i).getLast? with|some x=> !(x.2==(i:Int))|none=>true) then [(6,8)] else []) (by decide) rfl (fun i=>by cases (K2 i&&(match (RG i).getLast? with|some x=> !(x.2==(i:Int))|none=>true))<;>rfl) (Nat.zero_le _) ?_ ?_ (fun i hi=> ?_)
 ·simp only [go_sem,Int.natCast_zero,AV.ren,renL,AV.bel,belL,nblt,simprocAttr]
 ·rw [R0,gq0];simp only [go_sem,AV.ren,renL,AV.bel,belL,nblt,Blk.ren,gb,hLb,gR,lR,simprocAttr]
 have hi:i<=k:=hi;dsimp only [F90,TT5];have rb:=fun j=>grB j (RG i);have rr:=fun ψ=>grR ψ (RG i);by_cases hlt:i<k
 rotate_left
 ·obtain rfl:i=k:=by omega
  have c1:decide ((i:Int)<(i:Int))=false:=decide_eq_false (by omega)
  have hfin: ∀v:AV,FzV v (.fz (rows gp (RG i)) (RG i).length) (.tup [.agg [.i .i64 kd,.i .i64 i,.i .i64 sq,.s BD,v],.b true]) (.tup [.agg [.i .i64 kd,.i .i64 i,.i .i64 sq,.s BD,.fz (rows gp (RG i)) (RG i).length],.b true]):=fun v=>FzV.tup ⟨FzV.agg ⟨FzV.refl,FzV.refl,FzV.refl,FzV.refl,FzV.hit,trivial⟩,FzV.refl,trivial⟩;have hend: ∀h n,CovS 0 (.tup [.agg [.i .i64 kd,.i .i64 i,.i .i64 sq,.s BD,.fz (rows gp (RG i)) (RG i).length],.b true]) h n (.tup [.agg [.i .i64 kd,.i .i64 i,.i .i64 sq,.s BD,.fz (rows gp (RG i)) (RG i).length],.b true]) [] 0:=fun h n=>CovS.ends (Ends.pureE (by simp only [AV.bel,belL,rb,Bool.and_self]) rfl)
  by_cases hne:RG i=[]
  ·rw [hne] at hfin hend ⊢;rw [gq0];simp only [go_sem,c1,simprocAttr];refine Seam.run (F:=F90) hTT5 mo ?_;dsimp only [F90,TT5];simp only [go_sem,AV.bel,belL,nblt,simprocAttr];exact CovS.frzN (l:=[]) (hfin _) (hend _ _)
  ·rw [gqn _ hne];simp only [go_sem,c1,simprocAttr];refine Seam.run (F:=F90) hTT5 mo ?_;dsimp only [F90,TT5];simp only [go_sem,AV.bel,belL,nblt,simprocAttr];exact CovS.frzH (b:=6) (o:=0) (m:=(RG i).length) (cs:=rows gp (RG i)) (h':=[]) rfl rfl (.inr rfl) (.inl rfl) (hfin _) trivial (hend _ _)
 have c1:decide ((i:Int)<(k:Int))=true:=decide_eq_true (by omega)
 have c2:decide (0<=(i:Int)/\(i:Int)<(k:Int))=true:=decide_eq_true (by omega)
 have wi:IntKind.i64.wrap ((i:Int)+1)=((i+1:Nat):Int):=by rw [wrapL (by omega) (by omega)];omega
 have lg:=hLg2 i hlt;have hst:i+1<=k/\k-(i+1)<k-i:=⟨by omega,by omega⟩
 have hRl:=Rl i;rw [Rs i];generalize RG i=Gi at*;clear R0 Rs Rl hLg2;cases d1:K2 i
 ·rw [d1] at lg;simp only [rnS,cond_false,Bool.false_and];by_cases hne:Gi=[]
  ·rw [hne,gq0];simp only [go_sem,c1,c2,wi,lg,hst,Nat.mul_one,AV.ren,renL,AV.bel,belL,nblt,Blk.ren,gb,hLb,gR,lR,simprocAttr]
  ·rw [gqn _ hne];simp only [go_sem,c1,c2,wi,lg,hst,Nat.mul_one,AV.ren,renL,AV.bel,belL,nblt,Blk.ren,gb,hLb,gR,lR,rb,rr,simprocAttr]
 rw [d1] at lg;have gm1:decide (16<=growMax)=true:=by decide
 rcases List.eq_nil_or_concat Gi with rfl|⟨D,x,rfl⟩
 ·have e1:gQ gp 2 [((i:Int),(i:Int)+1)]= .sg {cells:=rows gp [((i:Int),(i:Int)+1)],gr:=some 2} 0 1:=rfl;have wi2:IntKind.i64.wrap ((i:Int)+1)=(i:Int)+1:=by rw [wi];omega
  have ic:((i+1:Nat):Int)=(i:Int)+1:=by omega
  simp only [rnS,List.getLast?_nil,cond_true,Bool.and_self,ic];rw [gq0,e1];simp only [go_sem,c1,c2,wi2,lg,hst,gm1,gp,rows_cons,rows_nil,List.append_nil,Nat.mul_one,AV.ren,renL,AV.bel,belL,nblt,Blk.ren,gb,hLb,gR,lR,simprocAttr]
 ·simp only [List.concat_eq_append] at rb rr hRl ⊢;have hl:(D++[x]).length=D.length+1:=by rw [List.length_append];rfl
  have hne:D++[x]≠[]:=by simp
  have n0:decide (((D.length+1:Nat):Int)>0)=true:=decide_eq_true (by omega)
  have wi2:IntKind.i64.wrap ((i:Int)+1)=(i:Int)+1:=by rw [wi];omega
  have ic:((i+1:Nat):Int)=(i:Int)+1:=by omega
  have wd:IntKind.i64.wrap (((D.length+1:Nat):Int)-1)=(D.length:Int):=by rw [hl] at hRl;rw [wrapL (by omega) (by omega)];omega
  have c3:decide (0<=(D.length:Int)/\(D.length:Int)<((D.length+1:Nat):Int))=true:=decide_eq_true (by omega)
  have g:=(gp_at (C:=D++[x]) (p:=D.length) (s:=x) (by rw [List.getElem?_append_right (Nat.le_refl _),Nat.sub_self];rfl)).2
  have hrl:(rows gp (D++[x])).length=(D.length+1)*2:=by rw [rows_len gp_len,hl]
  have hrD:(rows gp D).length=D.length*2:=rows_len gp_len;have st: ∀v:Int,List.take (D.length*2+1) (rows gp (D++[x]))++[AV.i .i64 v]++List.drop (D.length*2+1+1) (rows gp (D++[x]))=rows gp (D++[(x.1,v)]):=fun v=>by
   rw [rows_append,rows_append,<-hrD];exact tail_st _ _ _ _
  have c4:decide (D.length*2+1+1<=(rows gp (D++[x])).length)=true:=decide_eq_true (by rw [hrl];omega)
  rw [gqn _ hne,hl];simp only [rnS,List.getLast?_concat,List.dropLast_concat,cond_true,Bool.true_and,ic];rw [hl] at hRl;cases d2:(x.2==(i:Int))
  ·rw [cond_false,gqn _ (by simp)]
   have hl2:(D++[x]++[((i:Int),(i:Int)+1)]).length=D.length+1+1:=by rw [List.length_append,hl];rfl
   have gm:decide (16*(D.length+1+1)<=growMax)=true:=decide_eq_true (by simp only [growMax];omega)
   have lap:rows gp (D++[x]++[((i:Int),(i:Int)+1)])=rows gp (D++[x])++[AV.i .i64 (i:Int),AV.i .i64 ((i:Int)+1)]:=by rw [rows_append];rfl
   have lb:=fun j=>grB j (D++[x]++[((i:Int),(i:Int)+1)]);have lr:=fun ψ=>grR ψ (D++[x]++[((i:Int),(i:Int)+1)]);rw [lap] at lb lr;rw [hl2,lap];clear st c4;generalize rows gp (D++[x])=GX at*;simp only [go_sem,c1,c2,c3,wi2,wd,n0,g,d2,lg,hst,gm,hrl,Nat.mul_one,AV.ren,renL,AV.bel,belL,nblt,Blk.ren,gb,hLb,gR,lR,lb,lr,simprocAttr]
  ·rw [cond_true,gqn _ (by simp)]
   have hl2:(D++[(x.1,(i:Int)+1)]).length=D.length+1:=by rw [List.length_append];rfl
   have lb:=fun j=>grB j (D++[(x.1,(i:Int)+1)]);have lr:=fun ψ=>grR ψ (D++[(x.1,(i:Int)+1)]);have st:=st ((i:Int)+1);rw [hl2];generalize rows gp (D++[x])=GX at*;generalize rows gp (D++[(x.1,(i:Int)+1)])=GY at*;simp only [go_sem,c1,c2,c3,c4,st,wi2,wd,n0,g,d2,lg,hst,Nat.mul_one,AV.ren,renL,AV.bel,belL,nblt,Blk.ren,gb,hLb,gR,lR,lb,lr,simprocAttr]
theorem part_bnd (s:List UInt8) (a b k:Nat) (h:b-a<=k):0<=partS s a b/\partS s a b<(256^k:Nat):=by
 obtain ⟨n,h1,h2⟩:=num_lt ((s.drop a).take (b-a));have h3:((s.drop a).take (b-a)).length<=k:=by rw [List.length_take];omega
 have h4:256^((s.drop a).take (b-a)).length<=256^k:=Nat.pow_le_pow_right (by decide) h3
 have h5:partS s a b=(n:Int):=h1;rw [h5];omega
theorem readS_rp {s:List UInt8} (h:(readS s).2=0):rpB (readS s).1=true:=by
 have key: ∀s:List UInt8,wholeB (readP s)=true->rpB (readP s)=true:=fun s hw=>by
  have h1:=part_bnd s 0 1 1 (by decide)
  have h2:=part_bnd s 1 4 3 (by decide)
  have h3:=part_bnd s 4 6 2 (by decide)
  have h4:=part_bnd s 6 9 3 (by decide)
  simp only [rpB,hw,Bool.true_and,decide_eq_true_eq];simp only [readP];omega
 unfold readS at h ⊢;repeat' split at h
 all_goals first|(cases h;done)|skip
 rename_i h1 h2 h3 h4 h5;rw [if_neg h1,if_neg h2,if_neg h3,if_neg h4,if_pos h5];exact key s h5
theorem takeS_mid (nx:Int) (hs:List Flt.Hf) (s:List UInt8):takeS ⟨nx,hs⟩ s=if jnB ⟨nx,hs⟩=true then (if (readS s).2=0 then midR nx hs (readS s).1 else (zJn,[],(readS s).2)) else (zJn,[],191):=rfl
theorem w23 (j:Jn) (s:List UInt8) (hf:jnF j=true) (hl:s.length<=9223372036854775807):FTL Tryz.prog 23 [.agg j.a,.s s] [] 0 (tkR (takeS j s)) [] 0:=by
 have hj2:=jn2_a j;have hll:decide (s.length<=9223372036854775807)=true:=decide_eq_true hl;obtain ⟨nx,hs⟩:=j;have hM:=takeS_mid nx hs s;have hb:=fun j=>hrB j hs;have hbr:=fun ψ=>hrR ψ hs;have hcj: ∀(h:Hp) n,k21 [.agg [.i .i64 nx,.fz (rows Flt.Hf.l hs) hs.length]] h n=some (true,{v:= .i .i64 (if jnB ⟨nx,hs⟩ then 0 else 191),n}):=fun h n=>by
  simp only [k21];show (jn2 (Jn.a ⟨nx,hs⟩)).bind _=_;rw [hj2,Option.bind_some,hf]
 have hrd: ∀(h:Hp) n,k50 [.s s] h n=some (true,{v:=rdV (readS s),n,pn:=rdP (readS s)}):=fun h n=>by simp only [k50,hll]
 have hpc:=readS_rp (s:=s);have hz:=readS_z (s:=s);generalize hR:takeS ⟨nx,hs⟩ s=R at*;generalize hrr:readS s=rr at*;obtain ⟨p,e⟩:=rr;dsimp only at hM hpc hz;refine FTLx.of_dfrS0 (pn:=none) Cov.covs hTC21 mo Tryz.func23 i23_eq (by simp [i23]) (pre:=i23r0) (ops:=[oo 14 (.mkf 58 [.t 4,.t 5,.t 6])]) rfl (by kernel_rfl) Tryz.func58 i58_eq rfl ?_
 dsimp only [TC21,i23,Jn.a];simp only [go_sem,thenRJ,AV.bel,belL,nblt,hb,simprocAttr];refine dfrK_intro (caps:=[.p 1 0,.p 2 0,.p 3 0]) (bs:=[1,2,3]) rfl rfl (by decide) (fun Gs h1 h2=> ?_)
 obtain ⟨g0,g1,g2,rfl⟩: ∃a b c,Gs=[a,b,c]:=by
  match Gs,h1 with
  |[a,b,c],_=>exact ⟨a,b,c,rfl⟩
 refine ⟨by simp [i58],?_⟩
 have hG:=h2;obtain ⟨b01,b02,b10,b12,b20,b21,b00,b11,b22⟩:=gids hG;dsimp only [setG,hget];have e0:((0:Int)==0)=true:=rfl;have e1:((191:Int)==0)=false:=rfl;refine Seam.part (F:=F21) hTC21 mo ?_;dsimp only [F21,TC21];cases hj:jnB ⟨nx,hs⟩
 ·rw [hj,if_neg (by decide)] at hM
  rw [hM];rw [hj] at hcj;simp only [Bool.false_eq_true,if_false] at hcj;simp only [go_sem,hcj,k59,e1,hset,hglobC,hglob,b01,b02,b10,b12,b20,b21,b00,b11,b22,cond_true,cond_false,i58,refV,Option.map_some,getT,simprocAttr];exact ends_z
 rw [hj,if_pos rfl] at hM;rw [hj] at hcj;simp only [if_true] at hcj;simp only [go_sem,hcj,k59,e0,hset,AV.bel,belL,nblt,hb,simprocAttr];refine Seam.part (F:=F21) hTC21 mo ?_;dsimp only [F21,TC21];by_cases he:e=0
 rotate_left
 ·have hz:=hz he;subst hz;rw [if_neg he] at hM;rw [hM];have hrd2: ∀(h:Hp) n,k50 [.s s] h n=some (true,{v:= .tup [],n,pn:=some (refV e)}):=fun h n=>by
   have:(e==0)=false:=by simpa using he
   rw [hrd h n];simp only [rdV,rdP,this,cond_false]
  simp only [go_sem,hrd2,hset,hglobC,hglob,b01,b02,b10,b12,b20,b21,b00,b11,b22,cond_true,cond_false,i58,refV,Option.map_some,getT,simprocAttr];exact ends_z
 subst he;have hp:=hpc rfl;rw [if_pos rfl] at hM;have hjn:=hj;simp only [jnB,Bool.and_eq_true] at hjn;obtain ⟨hnx,hhs⟩:=hjn;have hnx:=inW_t hnx;have hlen:hs.length<=4:=by
  have:=hsB_len (lo:=nx) hhs (fun _=>rfl) (fun e h=>by cases h) (by omega)
  omega
 have hgot: ∀x∈hs,x.got.length<=4000:=fun x hx=>half_got (hsB_all hhs x hx).2.2;have mid0:=tk_mid hG nx hnx.1 hnx.2 hs hhs p hp;rw [<-hM] at mid0;clear hM hR hpc hz hcj hf hj2 hhs hp hj hll hl;have hrd2: ∀(h:Hp) n,k50 [.s s] h n=some (true,{v:= .agg p.l,n}):=fun h n=>by
  rw [hrd h n];rfl
 clear hrd hrr;obtain ⟨pk,pl,ps,po,pt⟩:=p;simp only [Pc.l] at mid0 hrd2;simp only [go_sem,hrd2,simprocAttr];refine Seam.cut (fun K hK=> ?_);have hK2:K=KT g0 g1 g2 R:=hK;rw [<-hK2] at mid0;clear hK hK2;refine Seam.part (F:=F21) hTC21 mo ?_;dsimp only [F21,TC21];simp only [go_sem,simprocAttr];refine Seam.part (F:=F21) hTC21 mo ?_;dsimp only [F21,TC21];simp only [go_sem,AV.bel,belL,nblt,hb,simprocAttr];have gqN:gQ Flt.Hf.l 5 ([]:List Flt.Hf)= .nil:=rfl;have gqC: ∀l:List Flt.Hf,l≠[]->gQ Flt.Hf.l 5 l= .sg {cells:=rows Flt.Hf.l l,gr:=some 5} 0 l.length:=fun l h=>by unfold gQ;rw [if_neg (by simpa using h)]
 have t0:hs.take 0=[]:=rfl;refine Loop.stepS (F:=F21) (X:=Nat) (fun k=>k<=hs.length) (fun k=>hs.length-k)
  (fun k=>[(2,.p 0 0),(4,.p 1 0),(5,.p 2 0),(6,.p 3 0),(7,.p 4 0),(25,.fz (rows Flt.Hf.l hs) hs.length),(26,.i .i64 (hs.length:Int)),(27,.i .i64 (k:Int))])
  (fun k=>(gQ Flt.Hf.l 5 (hs.take k)).h 5++[(4,{cells:=[.i .i64 pk,.i .i64 pl,.i .i64 ps,.i .i64 po,.s pt]}),(1,{cells:=[.i .i64 nx,(gQ Flt.Hf.l 5 (hs.take k)).v 5],gid:=some g0}),(2,{cells:=[.ns],gid:=some g1}),(3,{cells:=[.i .i64 0],gid:=some g2}),(0,{cells:=[.i .i64 nx,.fz (rows Flt.Hf.l hs) hs.length]})]) 6 0 (fun k=>k+1) [] (fun k=>[(5,9)]) (by decide) (by decide) (fun k=>by decide) (Nat.zero_le _) ?_ ?_ (fun k hk=> ?_)
 ·simp only [go_sem,AV.ren,renL,AV.bel,belL,nblt,hb,hbr,simprocAttr]
 ·rw [t0,gqN];simp only [go_sem,AV.ren,renL,AV.bel,belL,nblt,Blk.ren,hb,hbr,simprocAttr]
 refine Seam.part (F:=F21) hTC21 mo ?_;dsimp only [F21,TC21];by_cases hlt:k<hs.length
 rotate_left
 ·have hkl:k=hs.length:=by omega
  subst hkl;rw [List.take_length];have c4:decide ((hs.length:Int)<(hs.length:Int))=false:=decide_eq_false (by omega)
  generalize hV:gQ Flt.Hf.l 5 hs=Q at*;simp only [go_sem,c4,simprocAttr];refine Seam.part (F:=F21) hTC21 mo ?_;dsimp only [F21,TC21];simp only [go_sem,simprocAttr];by_cases hne:hs=[]
  ·subst hne;rw [gqN] at hV;subst hV;exact Seam.ren [] mid0 (by decide) (by decide) (by simp only [go_sem,AV.bel,belL,nblt,AV.ren,renL,simprocAttr]) (by simp only [go_sem,AV.bel,belL,nblt,AV.ren,renL,Blk.ren,hb,hbr,simprocAttr])
  ·rw [gqC _ hne] at hV;subst hV;exact Seam.ren [] mid0 (by decide) (by decide) (by simp only [go_sem,AV.bel,belL,nblt,AV.ren,renL,simprocAttr]) (by simp only [go_sem,AV.bel,belL,nblt,AV.ren,renL,Blk.ren,hb,hbr,simprocAttr])
 obtain ⟨x,hx⟩: ∃x,hs[k]? =some x:=⟨_,List.getElem?_eq_getElem hlt⟩;have hr:List.take 5 (List.drop (k*5) (rows Flt.Hf.l hs))=x.l:=rows_at Flt.Hf.len hx;have c4:decide ((k:Int)<(hs.length:Int))=true:=decide_eq_true (by omega)
 have c5:decide (0<=(k:Int)/\(k:Int)<(hs.length:Int))=true:=decide_eq_true (by omega)
 have hwr:IntKind.i64.wrap ((k:Int)+1)=((k+1:Nat):Int):=by rw [wrapL (by omega) (by omega)];omega
 have hst:k+1<=hs.length/\hs.length-(k+1)<hs.length-k:=⟨by omega,by omega⟩
 have htk:hs.take (k+1)=hs.take k++[x]:=by
  rw [List.take_succ_eq_append_getElem hlt];rw [List.getElem?_eq_getElem hlt] at hx;rw [Option.some.inj hx]
 have hgx:=hgot x (List.mem_of_getElem? hx);obtain ⟨l,hl⟩: ∃l,l=hs.take k:=⟨_,rfl⟩;have hll:l.length<=4:=by rw [hl,List.length_take];omega
 rw [<-hl] at htk ⊢;have lb:=fun j=>hrB j l;have lbr:=fun ψ=>hrR ψ l;have hLz:(rows Flt.Hf.l l).length=l.length*5:=rows_len Flt.Hf.len;have gm:decide (64*(l.length+1)<=growMax)=true:=decide_eq_true (by simp only [growMax];omega)
 have gm1:decide (64<=growMax)=true:=by decide
 have lap:rows Flt.Hf.l (l++[x])=rows Flt.Hf.l l++x.l:=by rw [rows_append,rows_cons,rows_nil,List.append_nil]
 have lbx: ∀j,belL j (rows Flt.Hf.l l++x.l)=true:=fun j=>by rw [<-lap];exact hrB j _
 have lrx: ∀ψ,renL ψ (rows Flt.Hf.l l++x.l)=rows Flt.Hf.l l++x.l:=fun ψ=>by rw [<-lap];exact hrR ψ _
 have hcl0:x.got=[]-> ∀(h:Hp) n,k60 [.fz (rows gp x.got) x.got.length] h n=some (true,{v:= .ze,n}):=fun hg h n=>by rw [hg];rfl
 have hcl1:x.got≠[]-> ∀(h:Hp) n,k60 [.fz (rows gp x.got) x.got.length] h n=some (true,{v:= .sg n 0 x.got.length,n:=n+1,nw:=[(n,{cells:=rows gp x.got,gr:=some 2})]}):=fun hg h n=>by
  have hu:unrows 2 gp2 x.got.length (rows gp x.got)=some x.got:=unrows_rows gp_len gp2_l x.got;simp only [k60,hu,Option.bind_some];revert hgx hg;cases x.got with
  |nil=>intro _ h;exact absurd rfl h
  |cons y r=>
   intro hgx _;simp only [List.length_cons] at hgx ⊢;rw [decide_eq_true (by omega:r.length<=1000000000)]
 generalize hL:rows Flt.Hf.l hs=L at*;clear hx hgx hgot;obtain ⟨xk,xl,xs,xb,xg⟩:=x;simp only [Flt.Hf.l] at hr lap lbx lrx;dsimp only at hcl0 hcl1;have hgb:=fun j=>grB j xg;have hgr:=fun ψ=>grR ψ xg;simp only [go_sem,c4,simprocAttr];refine Seam.part (F:=F21) hTC21 mo ?_;dsimp only [F21,TC21];simp only [go_sem,simprocAttr];refine Seam.seq ?_;refine Seam.block ?_;refine Seam.cut (fun K1 hK1=> ?_);have tail:Seam F21 (.reg i23r9) K1 [(9,.p 6 0),(2,.p 0 0),(4,.p 1 0),(5,.p 2 0),(6,.p 3 0),(7,.p 4 0),(25,.fz L hs.length),(26,.i .i64 (hs.length:Int)),(27,.i .i64 (k:Int))]
  ((gQ Flt.Hf.l 5 l).h 5++[(6,{cells:=[.i .i64 xk,.i .i64 xl,.i .i64 xs,.s xb,.fz (rows gp xg) xg.length]}),(4,{cells:=[.i .i64 pk,.i .i64 pl,.i .i64 ps,.i .i64 po,.s pt]}),(1,{cells:=[.i .i64 nx,(gQ Flt.Hf.l 5 l).v 5],gid:=some g0}),(2,{cells:=[.ns],gid:=some g1}),(3,{cells:=[.i .i64 0],gid:=some g2}),(0,{cells:=[.i .i64 nx,.fz L hs.length]})]) 8:=by
  subst hK1;clear mid0 hcl0 hcl1;rw [htk,gQ_snoc];simp only [gS,Flt.Hf.l];refine Seam.run (F:=F21) hTC21 mo ?_;dsimp only [F21,TC21];by_cases hne:l=[]
  ·subst hne;rw [gqN];simp only [go_sem,gm1,AV.bel,belL,nblt,hgb,simprocAttr];refine Seam.run (F:=F21) hTC21 mo ?_;dsimp only [F21,TC21];simp only [go_sem,hwr,hst,rows_nil,List.nil_append,AV.ren,renL,AV.bel,belL,nblt,Blk.ren,hb,hbr,hgb,hgr,simprocAttr]
  ·rw [gqC _ hne];simp only [go_sem,gm,hLz,AV.bel,belL,nblt,hgb,simprocAttr];refine Seam.run (F:=F21) hTC21 mo ?_;dsimp only [F21,TC21];simp only [go_sem,hwr,hst,AV.ren,renL,AV.bel,belL,nblt,Blk.ren,hb,hbr,lbx,lrx,hgb,hgr,simprocAttr]
 clear hK1;by_cases hne:l=[]
 ·subst hne;rw [gqN] at tail ⊢;refine Seam.part (F:=F21) hTC21 mo ?_;dsimp only [F21,TC21];simp only [go_sem,c5,hr,AV.bel,belL,nblt,hgb,simprocAttr];refine Seam.part (F:=F21) hTC21 mo ?_;dsimp only [F21,TC21];by_cases hg:xg=[]
  ·have hcl0:=hcl0 hg;have hwz:Wka .ze (.fz (rows gp xg) xg.length):=by rw [hg];exact Wka.ze
   simp only [go_sem,hcl0,simprocAttr];refine Seam.ren (n2:=8) (e2:=[(9,.p 6 0),(2,.p 0 0),(4,.p 1 0),(5,.p 2 0),(6,.p 3 0),(7,.p 4 0),(25,.fz L hs.length),(26,.i .i64 (hs.length:Int)),(27,.i .i64 (k:Int))]) (h2:=[(6,{cells:=[.i .i64 xk,.i .i64 xl,.i .i64 xs,.s xb,.ze]}),(4,{cells:=[.i .i64 pk,.i .i64 pl,.i .i64 ps,.i .i64 po,.s pt]}),(1,{cells:=[.i .i64 nx,.ns],gid:=some g0}),(2,{cells:=[.ns],gid:=some g1}),(3,{cells:=[.i .i64 0],gid:=some g2}),(0,{cells:=[.i .i64 nx,.fz L hs.length]})]) [] ?_ (by decide) (by decide) (by simp only [go_sem,AV.bel,belL,nblt,AV.ren,renL,hb,hbr,simprocAttr]) (by simp only [go_sem,AV.bel,belL,nblt,AV.ren,renL,Blk.ren,lb,lbr,hb,hbr,hgb,hgr,simprocAttr])
   exact Seam.wk tail ⟨⟨_,rfl,Wka.refl _⟩,⟨_,rfl,Wka.refl _⟩,⟨_,rfl,Wka.refl _⟩,⟨_,rfl,Wka.refl _⟩,⟨_,rfl,Wka.refl _⟩,⟨_,rfl,Wka.refl _⟩,⟨_,rfl,Wka.refl _⟩,⟨_,rfl,Wka.refl _⟩,⟨_,rfl,Wka.refl _⟩,trivial⟩ ⟨⟨_,rfl,rfl,rfl,rfl,Wka.refl _,Wka.refl _,Wka.refl _,Wka.refl _,hwz,trivial⟩,⟨_,rfl,rfl,rfl,rfl,WkaL.refl _⟩,⟨_,rfl,rfl,rfl,rfl,WkaL.refl _⟩,⟨_,rfl,rfl,rfl,rfl,WkaL.refl _⟩,⟨_,rfl,rfl,rfl,rfl,WkaL.refl _⟩,⟨_,rfl,rfl,rfl,rfl,WkaL.refl _⟩,trivial⟩
  ·have hcl1:=hcl1 hg;simp only [go_sem,hcl1,simprocAttr];exact Seam.frz (b:=7) (x:= .sg 7 0 xg.length) (o:=0) (m:=xg.length) (k:={cells:=rows gp xg,gr:=some 2}) (cs:=rows gp xg) tail rfl rfl (.inr rfl) (.inl rfl) ⟨⟨_,rfl,FzV.refl⟩,⟨_,rfl,FzV.refl⟩,⟨_,rfl,FzV.refl⟩,⟨_,rfl,FzV.refl⟩,⟨_,rfl,FzV.refl⟩,⟨_,rfl,FzV.refl⟩,⟨_,rfl,FzV.refl⟩,⟨_,rfl,FzV.refl⟩,⟨_,rfl,FzV.refl⟩,trivial⟩ ⟨⟨by decide,_,rfl,rfl,rfl,rfl,FzV.refl,FzV.refl,FzV.refl,FzV.refl,FzV.hit,trivial⟩,⟨by decide,_,rfl,rfl,rfl,rfl,FzVs.refl⟩,⟨by decide,_,rfl,rfl,rfl,rfl,FzVs.refl⟩,⟨by decide,_,rfl,rfl,rfl,rfl,FzVs.refl⟩,⟨by decide,_,rfl,rfl,rfl,rfl,FzVs.refl⟩,⟨by decide,_,rfl,rfl,rfl,rfl,FzVs.refl⟩,trivial⟩
 ·rw [gqC _ hne] at tail ⊢;refine Seam.part (F:=F21) hTC21 mo ?_;dsimp only [F21,TC21];simp only [go_sem,c5,hr,AV.bel,belL,nblt,hgb,simprocAttr];refine Seam.part (F:=F21) hTC21 mo ?_;dsimp only [F21,TC21];by_cases hg:xg=[]
  ·have hcl0:=hcl0 hg;have hwz:Wka .ze (.fz (rows gp xg) xg.length):=by rw [hg];exact Wka.ze
   simp only [go_sem,hcl0,simprocAttr];refine Seam.ren (n2:=8) (e2:=[(9,.p 6 0),(2,.p 0 0),(4,.p 1 0),(5,.p 2 0),(6,.p 3 0),(7,.p 4 0),(25,.fz L hs.length),(26,.i .i64 (hs.length:Int)),(27,.i .i64 (k:Int))]) (h2:=[(5,{cells:=rows Flt.Hf.l l,gr:=some 5}),(6,{cells:=[.i .i64 xk,.i .i64 xl,.i .i64 xs,.s xb,.ze]}),(4,{cells:=[.i .i64 pk,.i .i64 pl,.i .i64 ps,.i .i64 po,.s pt]}),(1,{cells:=[.i .i64 nx,.sg 5 0 l.length],gid:=some g0}),(2,{cells:=[.ns],gid:=some g1}),(3,{cells:=[.i .i64 0],gid:=some g2}),(0,{cells:=[.i .i64 nx,.fz L hs.length]})]) [] ?_ (by decide) (by decide) (by simp only [go_sem,AV.bel,belL,nblt,AV.ren,renL,hb,hbr,simprocAttr]) (by simp only [go_sem,AV.bel,belL,nblt,AV.ren,renL,Blk.ren,lb,lbr,hb,hbr,hgb,hgr,simprocAttr])
   exact Seam.wk tail ⟨⟨_,rfl,Wka.refl _⟩,⟨_,rfl,Wka.refl _⟩,⟨_,rfl,Wka.refl _⟩,⟨_,rfl,Wka.refl _⟩,⟨_,rfl,Wka.refl _⟩,⟨_,rfl,Wka.refl _⟩,⟨_,rfl,Wka.refl _⟩,⟨_,rfl,Wka.refl _⟩,⟨_,rfl,Wka.refl _⟩,trivial⟩ ⟨⟨_,rfl,rfl,rfl,rfl,WkaL.refl _⟩,⟨_,rfl,rfl,rfl,rfl,Wka.refl _,Wka.refl _,Wka.refl _,Wka.refl _,hwz,trivial⟩,⟨_,rfl,rfl,rfl,rfl,WkaL.refl _⟩,⟨_,rfl,rfl,rfl,rfl,WkaL.refl _⟩,⟨_,rfl,rfl,rfl,rfl,WkaL.refl _⟩,⟨_,rfl,rfl,rfl,rfl,WkaL.refl _⟩,⟨_,rfl,rfl,rfl,rfl,WkaL.refl _⟩,trivial⟩
  ·have hcl1:=hcl1 hg;simp only [go_sem,hcl1,simprocAttr];exact Seam.frz (b:=7) (x:= .sg 7 0 xg.length) (o:=0) (m:=xg.length) (k:={cells:=rows gp xg,gr:=some 2}) (cs:=rows gp xg) tail rfl rfl (.inr rfl) (.inl rfl) ⟨⟨_,rfl,FzV.refl⟩,⟨_,rfl,FzV.refl⟩,⟨_,rfl,FzV.refl⟩,⟨_,rfl,FzV.refl⟩,⟨_,rfl,FzV.refl⟩,⟨_,rfl,FzV.refl⟩,⟨_,rfl,FzV.refl⟩,⟨_,rfl,FzV.refl⟩,⟨_,rfl,FzV.refl⟩,trivial⟩ ⟨⟨by decide,_,rfl,rfl,rfl,rfl,FzVs.refl⟩,⟨by decide,_,rfl,rfl,rfl,rfl,FzV.refl,FzV.refl,FzV.refl,FzV.refl,FzV.hit,trivial⟩,⟨by decide,_,rfl,rfl,rfl,rfl,FzVs.refl⟩,⟨by decide,_,rfl,rfl,rfl,rfl,FzVs.refl⟩,⟨by decide,_,rfl,rfl,rfl,rfl,FzVs.refl⟩,⟨by decide,_,rfl,rfl,rfl,rfl,FzVs.refl⟩,⟨by decide,_,rfl,rfl,rfl,rfl,FzVs.refl⟩,trivial⟩
theorem VwV.aggL {h:Hp} {rd:List Nat} {l m:List AV} (hl:VwL h rd l m):VwV h rd (.agg l) (.agg m):=fun D D' φ w u hH hv=>by
 cases hv with
 |agg _ cs hlen hh=>
  refine .agg m cs (by rw [<-hlen,hl.len]) (fun i b u hb hu=> ?_)
  obtain ⟨a,h1,h2⟩:=hl.get hb;exact h2 D D' φ w u hH (hh i a u h1 hu)
noncomputable abbrev F89:Fx:=⟨Tryz.prog,cxT [],[13],33,0⟩
theorem w89 (nx:Int) (hs:List Flt.Hf) (hl4:hs.length<=1000) (hgot: ∀x∈hs,x.got.length<=4000):FTL Tryz.prog 89 [.agg (Jn.a ⟨nx,hs⟩)] [] 0 (.agg (Jn.a ⟨nx,hs⟩)) [] 0:=by
 have hb:=fun j=>hrB j hs;have hbr:=fun ψ=>hrR ψ hs;have gqN:gQ Flt.Hf.l 5 ([]:List Flt.Hf)= .nil:=rfl;have gqC: ∀l:List Flt.Hf,l≠[]->gQ Flt.Hf.l 5 l= .sg {cells:=rows Flt.Hf.l l,gr:=some 5} 0 l.length:=fun l h=>by unfold gQ;rw [if_neg (by simpa using h)]
 simp only [Jn.a];refine FTL.of_seamC (cx:=cxT []) Tryz.func89 i89_eq (by simp [i89]) ?_
 dsimp only [i89];refine Seam.part (F:=F89) Sound.nil mo ?_;dsimp only [F89];simp only [go_sem,AV.bel,belL,nblt,hb,simprocAttr];refine Seam.part (F:=F89) Sound.nil mo ?_;dsimp only [F89];simp only [go_sem,AV.bel,belL,nblt,hb,simprocAttr];refine Seam.part (F:=F89) Sound.nil mo ?_;dsimp only [F89];simp only [go_sem,simprocAttr];have t0:hs.take 0=[]:=rfl;refine Loop.stepS (F:=F89) (X:=Nat) (fun k=>k<=hs.length) (fun k=>hs.length-k)
  (fun k=>[(1,.p 0 0),(2,.p 1 0),(3,.p 2 0),(4,.i .i64 (k:Int))])
  (fun k=>(gQ Flt.Hf.l 5 (hs.take k)).h 3++[(2,{cells:=[.i .i64 nx,(gQ Flt.Hf.l 5 (hs.take k)).v 3]}),(0,{cells:=[.i .i64 nx,.fz (rows Flt.Hf.l hs) hs.length]}),(1,{cells:=[.i .i64 0,.ns]})]) 4 0 (fun k=>k+1) [] (fun k=>[(3,8)]) (by decide) (by decide) (fun k=>by decide) (Nat.zero_le _) ?_ ?_ (fun k hk=> ?_)
 ·simp only [go_sem,Int.natCast_zero,AV.ren,renL,AV.bel,belL,nblt,hb,hbr,simprocAttr]
 ·rw [t0,gqN];simp only [go_sem,AV.ren,renL,AV.bel,belL,nblt,Blk.ren,hb,hbr,simprocAttr]
 have hk:k<=hs.length:=hk;refine Seam.part (F:=F89) Sound.nil mo ?_;dsimp only [F89];by_cases hlt:k<hs.length
 rotate_left
 ·have hkl:k=hs.length:=by omega
  subst hkl;rw [List.take_length];have c4:decide ((hs.length:Int)<(hs.length:Int))=false:=decide_eq_false (by omega)
  by_cases hne:hs=[]
  ·subst hne;rw [gqN];simp only [go_sem,c4,simprocAttr];refine Seam.run (F:=F89) Sound.nil mo ?_;dsimp only [F89];simp only [go_sem,AV.bel,belL,nblt,simprocAttr];exact CovS.frzN (v':= .agg [.i .i64 nx,.fz [] 0]) (l:=[]) (FzV.agg ⟨FzV.refl,FzV.hit,trivial⟩) (CovS.ends (Ends.pureE rfl rfl))
  ·rw [gqC _ hne];simp only [go_sem,c4,simprocAttr];refine Seam.run (F:=F89) Sound.nil mo ?_;dsimp only [F89];simp only [go_sem,AV.bel,belL,nblt,simprocAttr];exact CovS.frzH (v':= .agg [.i .i64 nx,.fz (rows Flt.Hf.l hs) hs.length]) (b:=3) (o:=0) (m:=hs.length) (cs:=rows Flt.Hf.l hs) (h':=[]) rfl rfl (.inr rfl) (.inl rfl) (FzV.agg ⟨FzV.refl,FzV.hit,trivial⟩) trivial (CovS.ends (Ends.pureE (by simp only [AV.bel,belL,hb,Bool.and_self]) rfl))
 obtain ⟨x,hx⟩: ∃x,hs[k]? =some x:=⟨_,List.getElem?_eq_getElem hlt⟩;have hr:List.take 5 (List.drop (k*5) (rows Flt.Hf.l hs))=x.l:=rows_at Flt.Hf.len hx;have c4:decide ((k:Int)<(hs.length:Int))=true:=decide_eq_true (by omega)
 have c5:decide (0<=(k:Int)/\(k:Int)<(hs.length:Int))=true:=decide_eq_true (by omega)
 have hwr:IntKind.i64.wrap ((k:Int)+1)=((k+1:Nat):Int):=by rw [wrapL (by omega) (by omega)];omega
 have hst:k+1<=hs.length/\hs.length-(k+1)<hs.length-k:=⟨by omega,by omega⟩
 have htk:hs.take (k+1)=hs.take k++[x]:=by
  rw [List.take_succ_eq_append_getElem hlt];rw [List.getElem?_eq_getElem hlt] at hx;rw [Option.some.inj hx]
 have hgx:=hgot x (List.mem_of_getElem? hx);obtain ⟨l,hl⟩: ∃l,l=hs.take k:=⟨_,rfl⟩;have hll:l.length<=1000:=by rw [hl,List.length_take];omega
 rw [<-hl] at htk ⊢;have lb:=fun j=>hrB j l;have lbr:=fun ψ=>hrR ψ l;have hLz:(rows Flt.Hf.l l).length=l.length*5:=rows_len Flt.Hf.len;have gm:decide (64*(l.length+1)<=growMax)=true:=decide_eq_true (by simp only [growMax];omega)
 have gm1:decide (64<=growMax)=true:=by decide
 have lap:rows Flt.Hf.l (l++[x])=rows Flt.Hf.l l++x.l:=by rw [rows_append,rows_cons,rows_nil,List.append_nil]
 have lbx: ∀j,belL j (rows Flt.Hf.l l++x.l)=true:=fun j=>by rw [<-lap];exact hrB j _
 have lrx: ∀ψ,renL ψ (rows Flt.Hf.l l++x.l)=rows Flt.Hf.l l++x.l:=fun ψ=>by rw [<-lap];exact hrR ψ _
 generalize hL:rows Flt.Hf.l hs=L at*;clear hx hgot;obtain ⟨xk,xl,xs,xb,xg⟩:=x;simp only [Flt.Hf.l] at hr lap lbx lrx;dsimp only at hgx;have hgb:=fun j=>grB j xg;have hgr:=fun ψ=>grR ψ xg;have hgl:(rows gp xg).length=xg.length*2:=rows_len gp_len;have hgo:oneAll (rows gp xg)=true:=rows_one1 gp_one _;have hgt:List.take (xg.length*2) (rows gp xg)=rows gp xg:=List.take_of_length_le (by rw [hgl];exact Nat.le_refl _)
 have gg:decide (16*xg.length<=growMax)=true:=decide_eq_true (by simp only [growMax];omega)
 simp only [go_sem,c4,simprocAttr];refine Seam.seq ?_;refine Seam.block ?_;refine Seam.cut (fun K1 hK1=> ?_);have tail:Seam F89 (.reg i89r6) K1 [(5,.p 4 0),(1,.p 0 0),(2,.p 1 0),(3,.p 2 0),(4,.i .i64 (k:Int))]
  ((gQ Flt.Hf.l 5 l).h 3++[(4,{cells:=[.i .i64 xk,.i .i64 xl,.i .i64 xs,.s xb,.fz (rows gp xg) xg.length]}),(2,{cells:=[.i .i64 nx,(gQ Flt.Hf.l 5 l).v 3]}),(0,{cells:=[.i .i64 nx,.fz L hs.length]}),(1,{cells:=[.i .i64 0,.ns]})]) 7:=by
  subst hK1;rw [htk,gQ_snoc];simp only [gS,Flt.Hf.l];refine Seam.run (F:=F89) Sound.nil mo ?_;dsimp only [F89];by_cases hne:l=[]
  ·subst hne;rw [gqN];simp only [go_sem,gm1,AV.bel,belL,nblt,hgb,simprocAttr];refine Seam.run (F:=F89) Sound.nil mo ?_;dsimp only [F89];simp only [go_sem,hwr,hst,rows_nil,List.nil_append,AV.ren,renL,AV.bel,belL,nblt,Blk.ren,hb,hbr,hgb,hgr,simprocAttr]
  ·rw [gqC _ hne];simp only [go_sem,gm,hLz,AV.bel,belL,nblt,hgb,simprocAttr];refine Seam.run (F:=F89) Sound.nil mo ?_;dsimp only [F89];simp only [go_sem,hwr,hst,AV.ren,renL,AV.bel,belL,nblt,Blk.ren,hb,hbr,lbx,lrx,hgb,hgr,simprocAttr]
 clear hK1;by_cases hne:l=[]
 ·subst hne;rw [gqN] at tail ⊢;refine Seam.part (F:=F89) Sound.nil mo ?_;dsimp only [F89];simp only [go_sem,c5,hr,AV.bel,belL,nblt,hgb,simprocAttr];refine Seam.part (F:=F89) Sound.nil mo ?_;dsimp only [F89];by_cases hg:xg=[]
  ·subst hg;simp only [go_sem,rows_nil,List.length_nil,simprocAttr];refine Seam.frz (F:=F89) (b:=5) (x:= .sl 5 0 0 0) (o:=0) (m:=0) (k:={cells:=[]}) (cs:=[]) (e2:=[(5,.p 4 0),(1,.p 0 0),(2,.p 1 0),(3,.p 2 0),(4,.i .i64 (k:Int))]) (h2:=[(4,{cells:=[.i .i64 xk,.i .i64 xl,.i .i64 xs,.s xb,.fz (rows gp []) 0]}),(2,{cells:=[.i .i64 nx,.ns]}),(0,{cells:=[.i .i64 nx,.fz L hs.length]}),(1,{cells:=[.i .i64 0,.ns]})]) ?_ rfl rfl (.inl ⟨0,rfl,Nat.le_refl _⟩) (.inl rfl) ⟨⟨_,rfl,FzV.refl⟩,⟨_,rfl,FzV.refl⟩,⟨_,rfl,FzV.refl⟩,⟨_,rfl,FzV.refl⟩,⟨_,rfl,FzV.refl⟩,trivial⟩ ⟨⟨by decide,_,rfl,rfl,rfl,rfl,FzV.refl,FzV.refl,FzV.refl,FzV.refl,FzV.hit,trivial⟩,⟨by decide,_,rfl,rfl,rfl,rfl,FzVs.refl⟩,⟨by decide,_,rfl,rfl,rfl,rfl,FzVs.refl⟩,⟨by decide,_,rfl,rfl,rfl,rfl,FzVs.refl⟩,trivial⟩
   exact Seam.ren (F:=F89) [] tail (by decide) (by decide) (by simp only [go_sem,AV.bel,belL,nblt,AV.ren,renL,hb,hbr,simprocAttr]) (by simp only [go_sem,rows_nil,List.length_nil,AV.bel,belL,nblt,AV.ren,renL,Blk.ren,hb,hbr,hgb,hgr,simprocAttr])
  ·have e3:decide (xg.length=0)=false:=decide_eq_false (fun h=>hg (List.eq_nil_of_length_eq_zero h));have e4:decide (xg.length<=0)=false:=decide_eq_false (fun h=>hg (List.eq_nil_of_length_eq_zero (by omega)))
   simp only [go_sem,e3,e4,hgl,hgo,hgt,gg,List.drop_zero,simprocAttr];exact Seam.frz (F:=F89) (b:=6) (x:= .sg 6 0 xg.length) (o:=0) (m:=xg.length) (k:={cells:=rows gp xg,gr:=some 2}) (cs:=rows gp xg) tail rfl rfl (.inr rfl) (.inl rfl) ⟨⟨_,rfl,FzV.refl⟩,⟨_,rfl,FzV.refl⟩,⟨_,rfl,FzV.refl⟩,⟨_,rfl,FzV.refl⟩,⟨_,rfl,FzV.refl⟩,trivial⟩ ⟨⟨by decide,_,rfl,rfl,rfl,rfl,FzV.refl,FzV.refl,FzV.refl,FzV.refl,FzV.hit,trivial⟩,⟨by decide,_,rfl,rfl,rfl,rfl,FzVs.refl⟩,⟨by decide,_,rfl,rfl,rfl,rfl,FzVs.refl⟩,⟨by decide,_,rfl,rfl,rfl,rfl,FzVs.refl⟩,trivial⟩
 ·rw [gqC _ hne] at tail ⊢;refine Seam.part (F:=F89) Sound.nil mo ?_;dsimp only [F89];simp only [go_sem,c5,hr,AV.bel,belL,nblt,hgb,simprocAttr];refine Seam.part (F:=F89) Sound.nil mo ?_;dsimp only [F89];by_cases hg:xg=[]
  ·subst hg;simp only [go_sem,rows_nil,List.length_nil,simprocAttr];refine Seam.frz (F:=F89) (b:=5) (x:= .sl 5 0 0 0) (o:=0) (m:=0) (k:={cells:=[]}) (cs:=[]) (e2:=[(5,.p 4 0),(1,.p 0 0),(2,.p 1 0),(3,.p 2 0),(4,.i .i64 (k:Int))]) (h2:=[(3,{cells:=rows Flt.Hf.l l,gr:=some 5}),(4,{cells:=[.i .i64 xk,.i .i64 xl,.i .i64 xs,.s xb,.fz (rows gp []) 0]}),(2,{cells:=[.i .i64 nx,.sg 3 0 l.length]}),(0,{cells:=[.i .i64 nx,.fz L hs.length]}),(1,{cells:=[.i .i64 0,.ns]})]) ?_ rfl rfl (.inl ⟨0,rfl,Nat.le_refl _⟩) (.inl rfl) ⟨⟨_,rfl,FzV.refl⟩,⟨_,rfl,FzV.refl⟩,⟨_,rfl,FzV.refl⟩,⟨_,rfl,FzV.refl⟩,⟨_,rfl,FzV.refl⟩,trivial⟩ ⟨⟨by decide,_,rfl,rfl,rfl,rfl,FzVs.refl⟩,⟨by decide,_,rfl,rfl,rfl,rfl,FzV.refl,FzV.refl,FzV.refl,FzV.refl,FzV.hit,trivial⟩,⟨by decide,_,rfl,rfl,rfl,rfl,FzVs.refl⟩,⟨by decide,_,rfl,rfl,rfl,rfl,FzVs.refl⟩,⟨by decide,_,rfl,rfl,rfl,rfl,FzVs.refl⟩,trivial⟩
   exact Seam.ren (F:=F89) [] tail (by decide) (by decide) (by simp only [go_sem,AV.bel,belL,nblt,AV.ren,renL,hb,hbr,simprocAttr]) (by simp only [go_sem,rows_nil,List.length_nil,AV.bel,belL,nblt,AV.ren,renL,Blk.ren,lb,lbr,hb,hbr,hgb,hgr,simprocAttr])
  ·have e3:decide (xg.length=0)=false:=decide_eq_false (fun h=>hg (List.eq_nil_of_length_eq_zero h));have e4:decide (xg.length<=0)=false:=decide_eq_false (fun h=>hg (List.eq_nil_of_length_eq_zero (by omega)))
   simp only [go_sem,e3,e4,hgl,hgo,hgt,gg,List.drop_zero,simprocAttr];exact Seam.frz (F:=F89) (b:=6) (x:= .sg 6 0 xg.length) (o:=0) (m:=xg.length) (k:={cells:=rows gp xg,gr:=some 2}) (cs:=rows gp xg) tail rfl rfl (.inr rfl) (.inl rfl) ⟨⟨_,rfl,FzV.refl⟩,⟨_,rfl,FzV.refl⟩,⟨_,rfl,FzV.refl⟩,⟨_,rfl,FzV.refl⟩,⟨_,rfl,FzV.refl⟩,trivial⟩ ⟨⟨by decide,_,rfl,rfl,rfl,rfl,FzVs.refl⟩,⟨by decide,_,rfl,rfl,rfl,rfl,FzV.refl,FzV.refl,FzV.refl,FzV.refl,FzV.hit,trivial⟩,⟨by decide,_,rfl,rfl,rfl,rfl,FzVs.refl⟩,⟨by decide,_,rfl,rfl,rfl,rfl,FzVs.refl⟩,⟨by decide,_,rfl,rfl,rfl,rfl,FzVs.refl⟩,trivial⟩
def k89:Ct
 |[.agg [.i .i64 nx,v]],h,n=>vwK h 5 v fun rd m cs ok=>(unrows 5 hf5 m cs).bind fun l=>some (ok&&(wrt h rd&&(decide (l.length<=1000)&&l.all fun x=>decide (x.got.length<=4000))),{v:= .agg (Jn.a ⟨nx,l⟩),n,rd,md:=dels rd})
 |_,_,_=>none
theorem s89:SoundAt Tryz.prog 89 k89:=fun args h n c E hc ht=>by
 unfold k89 at hc;split at hc
 ·rename_i nx v;rw [vwK_eq] at hc;simp only [Option.bind_eq_some_iff] at hc;obtain ⟨⟨rd,m,cs,ok⟩,hv,l,hl,hc⟩:=hc;cases hc;simp only [Bool.and_eq_true,decide_eq_true_eq,List.all_eq_true] at ht;obtain ⟨rfl,hw,h1,h2⟩:=ht;obtain ⟨rfl,e⟩:=unrows_eq (f:=Flt.Hf.l) (fun c a h=>hf5_eq h) hl;dsimp only at hv e ⊢;subst e;exact CallOK.give (by kernel_rfl) (argsF:=[.agg (Jn.a ⟨nx,l⟩)]) ⟨VwV.aggL ⟨VwV.same rfl,vwK_sub hv (rows_bel Flt.Hf.bel) (fun c hc=>hc),trivial⟩,trivial⟩ (by simp only [AV.bel,Jn.bel]) hw (w89 nx l h1 h2)
 ·cases hc
structure OkE (x:Flt.Hf):Prop where
 got:x.got.length<=4000
 ln0:0<=x.ln
 ln4:x.ln<=4000
 srt:srt x.ln (-1) x.got
theorem okE_half {h:Flt.Hf} (hh:halfB h=true):OkE h:=by
 refine ⟨half_got hh,?_,half_ln hh,?_⟩
 ·simp only [halfB,Bool.and_eq_true] at hh;exact (inW_t hh.2.1).1
 ·simp only [halfB,Bool.and_eq_true] at hh;exact gotB_srt.1 hh.2.2.2.2.1
theorem okE_done {h:Flt.Hf} (ok:OkE h):cmB h=doneB h:=by
 obtain ⟨_,h2,_,hs⟩:=ok;rw [Bool.eq_iff_iff];unfold cmB;rw [cmN_iff];by_cases h0:h.ln=0
 ·constructor
  ·intro _;unfold doneB;rw [beq_iff_eq.2 h0];rfl
  ·intro _ i h6 h7;omega
 ·have e0:(h.ln==0)=false:=beq_eq_false_iff_ne.2 h0;unfold doneB;rw [e0,Bool.false_or];constructor
  ·intro hg;have:h.got=[(0,h.ln)]:=by
    refine srt_uniq hs (lo2:= -1) ⟨by show (-1:Int)<0;omega,by show (0:Int)<h.ln;omega,Int.le_refl _,trivial⟩ (fun o=> ?_)
    constructor
    ·intro h1;have:=cov_gt hs h1;exact cov_cons.2 (.inl (by show (0:Int)<=o/\o<h.ln;omega))
    ·intro h1;rcases cov_cons.1 h1 with h1|h1
     ·have h2:(0:Int)<=o/\o<h.ln:=h1;have:=hg o.toNat (by omega) (by omega)
      rwa [Int.toNat_of_nonneg h2.1] at this
     ·exact absurd h1 cov_nil
   rw [this];simp
  ·intro hd i _ hi;split at hd
   ·rename_i y hy;simp only [Bool.and_eq_true,beq_iff_eq] at hd;rw [hy];exact cov_cons.2 (.inl (by omega))
   ·cases hd
def k90:Ct
 |[.agg c,.agg d],_,n=>(hf5 c).bind fun h=>(pc5 d).bind fun p=>some (decide (h.kd=p.kd/\h.ln=p.ln)&&filB h p,{v:=flR h p,n})
 |_,_,_=>none
theorem flR_bel (h:Flt.Hf) (p:Pc):(flR h p).bel 0=true:=by
 unfold flR;cases fillS h p<;>simp only [AV.bel,belL,Flt.Hf.bel,Bool.and_self]
theorem fil_nat {h:Flt.Hf} {p:Pc} (hb:filB h p=true) (hln:h.ln=p.ln): ∃o n:Nat,p.ofs=o/\h.ln=n/\h.bd.length=n/\o+p.pt.length<=n/\srt h.ln (-1) h.got/\h.got.length<=4000/\n<=4000:=by
 simp only [filB,Bool.and_eq_true,decide_eq_true_eq,beq_iff_eq,wholeB] at hb;obtain ⟨h1,h2,h3,⟨_,_,h5,_⟩,h6⟩:=hb;have h3:=inW_t h3;have:=got_len h1 h3.1;exact ⟨p.ofs.toNat,h.ln.toNat,by omega,by omega,by omega,by omega,gotB_srt.1 h1,by omega,by omega⟩
theorem s90:SoundAt Tryz.prog 90 k90:=fun args h n c E hc ht=>by
 unfold k90 at hc;split at hc
 ·simp only [Option.bind_eq_some_iff] at hc;obtain ⟨x,hx,p,hp,he⟩:=hc;cases he;have:=hf5_eq hx;subst this;have:=pc5_eq hp;subst this;simp only [Bool.and_eq_true,decide_eq_true_eq] at ht;obtain ⟨o,m,h1,h2,h3,h4,h5,h6,h7⟩:=fil_nat ht.2 ht.1.2;exact CallOK.pure (by kernel_rfl) (belL_mono0 _ (by simp only [belL,AV.bel,Flt.Hf.bel,Pc.bel,Bool.and_self])) (flR_bel _ _) (w90 x p o m h1 h2 h3 h4 h5 h6 ht.1.1 ht.1.2 h7) _ _
 ·cases hc
theorem fill_okE {h h2:Flt.Hf} {p:Pc} (hb:filB h p=true) (hkd:h.kd=p.kd) (hln:h.ln=p.ln) (hf:fillS h p=some h2):OkE h2/\h2.sq=h.sq:=by
 obtain ⟨o,m,h1,e2,h3,h4,h5,h6,h7⟩:=fil_nat hb hln;rw [fill_N (kn:=fun i=>thB h.got (i:Int)) h1 e2 h3 h4 h5 hkd hln (fun i=>thB_cov)] at hf;revert hf;cases agN (fun i=>thB h.got (i:Int)) h.bd p.pt o 0 p.pt.length
 ·intro h;cases h
 ·intro h;rw [cond_true] at h;cases h;refine ⟨⟨?_,?_,?_,?_⟩,rfl⟩
  ·have:=runs_len (knI (fun i=>thB h.got (i:Int)) o p.pt.length) m;dsimp only;omega
  ·dsimp only;omega
  ·dsimp only;omega
  ·dsimp only;rw [e2];exact (runs_ok _ _).1
noncomputable def TT7:List (Nat×Ct):=[(83,k83),(89,k89),(90,k90)]
theorem hTT7:Sound Tryz.prog (cxT TT7):=Sound.cons s83<|Sound.cons s89<|Sound.cons s90 Sound.nil
noncomputable abbrev F66:Fx:=⟨Tryz.prog,cxT TT7,[20,28,48,59,76,85,91,107,118,126,153],179,0⟩
abbrev K66 (R:Jn×List Nt×Int):Kont:=retK i66.res (fun v h' n'=>CovS 0 v h' n' (tkR R) [] 0)
theorem pt_give (nx:Int) (hn0:0<=nx) (hn1:nx<=65536) (hs:List Flt.Hf) (h0:0<hs.length) (hlen:hs.length<=5) (hgl: ∀x∈hs,OkE x):
 Seam F66 (.seq (.block 4 (.loop i66l37)) (.seq (.reg i66r38) .ret)) (K66 ((giveS nx hs).1,(giveS nx hs).2,0)) [(4,.p 2 0),(7,.p 3 0),(14,.ns)]
  [(6,{cells:=rows Flt.Hf.l hs,gr:=some 5}),(3,{cells:=[.i .i64 nx,.sg 6 0 hs.length]}),(2,{cells:=[.i .i64 0,.ns]})] 7:=by
 obtain ⟨N,hN⟩: ∃N:Nat->List Nt,N=fun d=>(hs.take d).map ntH:=⟨_,rfl⟩;have hN0:N 0=[]:=by rw [hN];rfl
 have hNs: ∀d x,hs[d]? =some x->N (d+1)=N d++[ntH x]:=fun d x hx=>by
  have hlt:=(List.getElem?_eq_some_iff.1 hx).1;rw [List.getElem?_eq_getElem hlt] at hx;rw [hN];show (hs.take (d+1)).map ntH=(hs.take d).map ntH++[ntH x];rw [List.take_succ_eq_append_getElem hlt,List.map_append,List.map_singleton,Option.some.inj hx]
 have hNl: ∀d,(N d).length<=5:=fun d=>by
  rw [hN];show ((hs.take d).map ntH).length<=5;rw [List.length_map,List.length_take];omega
 obtain ⟨R,hR⟩: ∃R:Jn×List Nt×Int,R=((giveS nx hs).1,(giveS nx hs).2,0):=⟨_,rfl⟩;rw [<-hR];have hL: ∀(k:Nat) x,hs[k]? =some x->List.take 5 (List.drop (k*5) (rows Flt.Hf.l hs))=x.l:=fun k x hk=>rows_at Flt.Hf.len hk;have hL2: ∀(k:Nat) x,hs[k]? =some x->(rows Flt.Hf.l hs)[k*5+2]? =some (.i .i64 x.sq):=fun k x hk=>by
  have h1:=hL k x hk;have h2:(List.take 5 (List.drop (k*5) (rows Flt.Hf.l hs)))[2]? =some (.i .i64 x.sq):=by rw [h1];rfl
  rw [List.getElem?_take,if_pos (by decide),List.getElem?_drop] at h2
  exact h2
 have hb:=fun j=>hrB j hs;have hbr:=fun ψ=>hrR ψ hs;have gqN:gQ Nt.l 3 ([]:List Nt)= .nil:=rfl;have gqC: ∀l:List Nt,l≠[]->gQ Nt.l 3 l= .sg {cells:=rows Nt.l l,gr:=some 3} 0 l.length:=fun l h=>by unfold gQ;rw [if_neg (by simpa using h)]
 refine Seam.seq ?_;refine Seam.block ?_;refine Seam.ofLoop ?_;refine Loop.stepS (F:=F66) (X:=Nat) (fun d=>d<=hs.length/\R=((giveS (nx+d) (hs.drop d)).1,N d++(giveS (nx+d) (hs.drop d)).2,0)) (fun d=>hs.length-d)
  (fun d=>[(4,.p 2 0),(7,.p 3 0),(14,(gQ Nt.l 3 (N d)).v 7)])
  (fun d=>(gQ Nt.l 3 (N d)).h 7++[(6,{cells:=rows Flt.Hf.l hs,gr:=some 5}),(3,{cells:=[.i .i64 (nx+(d:Int)),if d<hs.length then .sg 6 (d*5) (hs.length-d) else .fz [] 0]}),(2,{cells:=[.i .i64 0,.ns]})]) 8 0 (fun d=>d+1) [] (fun d=>[(7,10)]) (by decide) (by decide) (fun d=>by decide) ⟨Nat.zero_le _,by rw [hR,hN0];simp⟩ ?_ ?_ (fun d hd=> ?_)
 ·rw [hN0,gqN];simp only [go_sem,AV.ren,renL,AV.bel,belL,nblt,simprocAttr]
 ·rw [hN0,gqN,if_pos h0];simp only [Int.natCast_zero,Int.add_zero,Nat.zero_mul,Nat.sub_zero];simp only [go_sem,AV.ren,renL,AV.bel,belL,nblt,Blk.ren,hb,hbr,simprocAttr]
 obtain ⟨hdl,hRd⟩:=hd;have gm:decide (32*((N d).length+1)<=growMax)=true:=decide_eq_true (by have:=hNl d;simp only [growMax];omega)
 have gm1:decide (32<=growMax)=true:=by decide
 have hNb:=fun j=>nrB j (N d);have hNr:=fun ψ=>nrR ψ (N d);have hNz:(rows Nt.l (N d)).length=(N d).length*3:=rows_len Nt.len;have hld:hs.length-d=(hs.drop d).length:=by rw [List.length_drop]
 have rdr:rows Flt.Hf.l (hs.drop d)=List.drop (d*5) (rows Flt.Hf.l hs):=by
  have h1:rows Flt.Hf.l hs=rows Flt.Hf.l (hs.take d)++rows Flt.Hf.l (hs.drop d):=by rw [<-rows_append,List.take_append_drop]
  have h2:(rows Flt.Hf.l (hs.take d)).length=d*5:=by rw [rows_len Flt.Hf.len,List.length_take,Nat.min_eq_left hdl]
  rw [h1,<-h2,List.drop_left]
 -- the end
 have stop1:giveS (nx+d) (hs.drop d)=(⟨nx+d,hs.drop d⟩,[])->Seam F66 (.seq (.reg i66r38) .ret) (K66 R) [(4,.p 2 0),(7,.p 3 0),(14,(gQ Nt.l 3 (N d)).v 7)]
  ((gQ Nt.l 3 (N d)).h 7++[(3,{cells:=[.i .i64 (nx+(d:Int)),.fz (rows Flt.Hf.l (hs.drop d)) (hs.drop d).length]}),(2,{cells:=[.i .i64 0,.ns]})]) 8:=fun hg=>by
  have hRR:R=(⟨nx+d,hs.drop d⟩,N d,0):=by rw [hRd,hg,List.append_nil]
  rw [hRR];have hld:(hs.drop d).length<=5:=by rw [List.length_drop];omega
  have hgd: ∀x∈hs.drop d,OkE x:=fun x hx=>hgl x (List.mem_of_mem_drop hx);generalize hs.drop d=T at*;have hTb:=fun j=>hrB j T;have q89: ∀(h:Hp) n,k89 [.agg [.i .i64 (nx+(d:Int)),.fz (rows Flt.Hf.l T) T.length]] h n=some (true,{v:= .agg [.i .i64 (nx+(d:Int)),.fz (rows Flt.Hf.l T) T.length],n}):=fun h n=>by
   have hu:unrows 5 hf5 T.length (rows Flt.Hf.l T)=some T:=unrows_rows Flt.Hf.len hf5_l T;have h2:(T.all fun x=>decide (x.got.length<=4000))=true:=by
    rw [List.all_eq_true];exact fun x hx=>decide_eq_true (hgd x hx).got
   have h3:decide (T.length<=1000)=true:=decide_eq_true (by omega)
   simp only [k89,vwK_rows (f:=Flt.Hf.l) Flt.Hf.len,hu,Option.bind_some,h2,h3,wrt,Bool.and_self,Jn.a];rfl
  have hte:tkR (⟨nx+(d:Int),T⟩,N d,0)= .tup [.agg [.i .i64 (nx+(d:Int)),.fz (rows Flt.Hf.l T) T.length],.fz (rows Nt.l (N d)) (N d).length,.i .i64 0]:=rfl;have hend: ∀h n,CovS 0 (tkR (⟨nx+(d:Int),T⟩,N d,0)) h n (tkR (⟨nx+(d:Int),T⟩,N d,0)) [] 0:=fun h n=>CovS.ends (Ends.pureE (tkR_bel _) rfl);rw [hte] at hend;refine Seam.run (F:=F66) hTT7 mo ?_;dsimp only [F66,TT7,K66,i66];rw [hte];by_cases hnd:N d=[]
  ·rw [hnd] at hend;rw [hnd,gqN];simp only [go_sem,q89,AV.bel,belL,nblt,hTb,simprocAttr];exact CovS.frzN (v':= .tup [.agg [.i .i64 (nx+(d:Int)),.fz (rows Flt.Hf.l T) T.length],.fz [] 0,.i .i64 0]) (l:=[]) (FzV.tup ⟨FzV.refl,FzV.hit,FzV.refl,trivial⟩) (hend _ _)
  ·rw [gqC _ hnd];simp only [go_sem,q89,AV.bel,belL,nblt,hTb,simprocAttr];exact CovS.frzH (v':= .tup [.agg [.i .i64 (nx+(d:Int)),.fz (rows Flt.Hf.l T) T.length],.fz (rows Nt.l (N d)) (N d).length,.i .i64 0]) (b:=7) (o:=0) (m:=(N d).length) (cs:=rows Nt.l (N d)) (h':=[]) rfl rfl (.inr rfl) (.inl rfl) (FzV.tup ⟨FzV.refl,FzV.hit,FzV.refl,trivial⟩) trivial (hend _ _)
 have stop:giveS (nx+d) (hs.drop d)=(⟨nx+d,hs.drop d⟩,[])->Seam F66 (.seq (.reg i66r38) .ret) (K66 R) [(4,.p 2 0),(7,.p 3 0),(14,(gQ Nt.l 3 (N d)).v 7)]
  ((gQ Nt.l 3 (N d)).h 7++[(6,{cells:=rows Flt.Hf.l hs,gr:=some 5}),(3,{cells:=[.i .i64 (nx+(d:Int)),if d<hs.length then .sg 6 (d*5) (hs.length-d) else .fz [] 0]}),(2,{cells:=[.i .i64 0,.ns]})]) 8:=fun hg=>by
  have s1:=stop1 hg;have hTb:=fun j=>hrB j (hs.drop d);have hTr:=fun ψ=>hrR ψ (hs.drop d);by_cases hlt:d<hs.length
  ·rw [if_pos hlt];rw [<-hld] at s1;by_cases hnd:N d=[]
   ·rw [hnd,gqN] at s1 ⊢;exact Seam.frz (F:=F66) (b:=6) (x:= .sg 6 (d*5) (hs.length-d)) (o:=d*5) (m:=hs.length-d) (k:={cells:=rows Flt.Hf.l hs,gr:=some 5}) (cs:=rows Flt.Hf.l (hs.drop d)) s1 rfl rfl (.inr rfl) (.inl rdr) ⟨⟨_,rfl,FzV.refl⟩,⟨_,rfl,FzV.refl⟩,⟨_,rfl,FzV.refl⟩,trivial⟩ ⟨⟨by decide,_,rfl,rfl,rfl,rfl,FzV.refl,FzV.hit,trivial⟩,⟨by decide,_,rfl,rfl,rfl,rfl,FzVs.refl⟩,trivial⟩
   ·rw [gqC _ hnd] at s1 ⊢;exact Seam.frz (F:=F66) (b:=6) (x:= .sg 6 (d*5) (hs.length-d)) (o:=d*5) (m:=hs.length-d) (k:={cells:=rows Flt.Hf.l hs,gr:=some 5}) (cs:=rows Flt.Hf.l (hs.drop d)) s1 rfl rfl (.inr rfl) (.inl rdr) ⟨⟨_,rfl,FzV.refl⟩,⟨_,rfl,FzV.refl⟩,⟨_,rfl,FzV.refl⟩,trivial⟩ ⟨⟨by decide,_,rfl,rfl,rfl,rfl,FzVs.refl⟩,⟨by decide,_,rfl,rfl,rfl,rfl,FzV.refl,FzV.hit,trivial⟩,⟨by decide,_,rfl,rfl,rfl,rfl,FzVs.refl⟩,trivial⟩
  ·rw [if_neg hlt];rw [show hs.drop d=[] from List.drop_of_length_le (by omega)] at s1
   by_cases hnd:N d=[]
   ·rw [hnd,gqN] at s1 ⊢;exact Seam.ren [] s1 (by decide) (by decide) (by simp only [go_sem,AV.bel,belL,nblt,AV.ren,renL,simprocAttr]) (by simp only [go_sem,rows_nil,List.length_nil,AV.bel,belL,nblt,AV.ren,renL,Blk.ren,hb,hbr,simprocAttr])
   ·rw [gqC _ hnd] at s1 ⊢;exact Seam.ren [] s1 (by decide) (by decide) (by simp only [go_sem,AV.bel,belL,nblt,AV.ren,renL,simprocAttr]) (by simp only [go_sem,rows_nil,List.length_nil,AV.bel,belL,nblt,AV.ren,renL,Blk.ren,hb,hbr,hNb,hNr,simprocAttr])
 clear stop1;rcases Nat.lt_or_ge d hs.length with hlt|hge
 rotate_left
 · -- nothing is left
   have hdn:d=hs.length:=by omega
   have stop:=stop (giveS_stop fun x hx=>by rw [hdn,List.getElem?_eq_none (Nat.le_refl _)] at hx;cases hx)
   rw [if_neg (Nat.not_lt.2 hge)] at stop ⊢;refine Seam.part (F:=F66) hTT7 mo ?_;dsimp only [F66,TT7];by_cases hnd:N d=[]
   ·rw [hnd,gqN] at stop ⊢;simp only [go_sem,simprocAttr];exact Seam.ren [] stop (by decide) (by decide) (by simp only [go_sem,AV.bel,belL,nblt,AV.ren,renL,simprocAttr]) (by simp only [go_sem,AV.bel,belL,nblt,AV.ren,renL,Blk.ren,hb,hbr,simprocAttr])
   ·rw [gqC _ hnd] at stop ⊢;simp only [go_sem,simprocAttr];exact Seam.ren [] stop (by decide) (by decide) (by simp only [go_sem,AV.bel,belL,nblt,AV.ren,renL,simprocAttr]) (by simp only [go_sem,AV.bel,belL,nblt,AV.ren,renL,Blk.ren,hb,hbr,hNb,hNr,simprocAttr])
 obtain ⟨x,hx⟩: ∃x,hs[d]? =some x:=⟨_,List.getElem?_eq_getElem hlt⟩;have hxx:=hL d x hx;have hx2:=hL2 d x hx;have c1:decide (((hs.length-d:Nat):Int)>0)=true:=decide_eq_true (by omega)
 have c2:decide (0<=(0:Int)/\(0:Int)<((hs.length-d:Nat):Int))=true:=decide_eq_true (by omega)
 have hcm: ∀(h:Hp) n,k83 [.agg x.l] h n=some (true,{v:= .b (doneB x),n}):=fun h n=>by
  have ok:=hgl x (List.mem_of_getElem? hx);have h1:decide (x.got.length<=9223372036854775807)=true:=decide_eq_true (by have:=ok.got;omega)
  simp only [k83,hf5_l,Option.bind_some,h1,decide_eq_true ok.ln4,Bool.and_self,okE_done ok]
 have stop:=fun h=>stop (giveS_stop fun y hy=>by rw [hx] at hy;cases hy;exact h)
 rw [if_pos hlt] at stop ⊢;obtain ⟨xk,xl,xs,xb,xg⟩:=x;have hD: ∃D,D=doneB ⟨xk,xl,xs,xb,xg⟩:=⟨_,rfl⟩;obtain ⟨D,hD⟩:=hD;rw [<-hD] at stop hcm;simp only [Flt.Hf.l] at hxx hcm;dsimp only at hx2 stop;have hgb:=fun j=>grB j xg;have hgr:=fun ψ=>grR ψ xg;refine Seam.cut (fun KK hKK=> ?_);refine Seam.part (F:=F66) hTT7 mo ?_;dsimp only [F66,TT7];cases q:(xs==nx+(d:Int))
 ·subst hKK;have stop:=stop (by rw [q];rfl)
  by_cases hnd:N d=[]
  ·rw [hnd,gqN] at stop ⊢;simp only [go_sem,c1,c2,hx2,q,simprocAttr];exact Seam.ren [] stop (by decide) (by decide) (by simp only [go_sem,AV.bel,belL,nblt,AV.ren,renL,simprocAttr]) (by simp only [go_sem,AV.bel,belL,nblt,AV.ren,renL,Blk.ren,hb,hbr,simprocAttr])
  ·rw [gqC _ hnd] at stop ⊢;simp only [go_sem,c1,c2,hx2,q,simprocAttr];exact Seam.ren [] stop (by decide) (by decide) (by simp only [go_sem,AV.bel,belL,nblt,AV.ren,renL,simprocAttr]) (by simp only [go_sem,AV.bel,belL,nblt,AV.ren,renL,Blk.ren,hb,hbr,hNb,hNr,simprocAttr])
 cases D
 ·subst hKK;have stop:=stop (by rw [q];rfl)
  by_cases hnd:N d=[]
  ·rw [hnd,gqN] at stop ⊢;simp only [go_sem,c1,c2,hx2,q,hxx,hcm,simprocAttr];exact Seam.ren [] stop (by decide) (by decide) (by simp only [go_sem,AV.bel,belL,nblt,AV.ren,renL,simprocAttr]) (by simp only [go_sem,AV.bel,belL,nblt,AV.ren,renL,Blk.ren,hb,hbr,simprocAttr])
  ·rw [gqC _ hnd] at stop ⊢;simp only [go_sem,c1,c2,hx2,q,hxx,hcm,simprocAttr];exact Seam.ren [] stop (by decide) (by decide) (by simp only [go_sem,AV.bel,belL,nblt,AV.ren,renL,simprocAttr]) (by simp only [go_sem,AV.bel,belL,nblt,AV.ren,renL,Blk.ren,hb,hbr,hNb,hNr,simprocAttr])
 clear stop;have hq:xs=nx+(d:Int):=by simpa using q
 have hgd:=giveS_drop hx hq hD.symm;have hns:=hNs d _ hx;have hRn:R=((giveS (nx+((d+1:Nat):Int)) (hs.drop (d+1))).1,N (d+1)++(giveS (nx+((d+1:Nat):Int)) (hs.drop (d+1))).2,0):=by
  rw [hRd,hgd,hns];simp only [List.append_assoc,List.singleton_append];rfl
 have wn:IntKind.i64.wrap (nx+(d:Int)+1)=nx+((d+1:Nat):Int):=by rw [wrapL (by omega) (by omega)];omega
 have hstep:(d+1<=hs.length/\R=((giveS (nx+((d+1:Nat):Int)) (hs.drop (d+1))).1,N (d+1)++(giveS (nx+((d+1:Nat):Int)) (hs.drop (d+1))).2,0))/\hs.length-(d+1)<hs.length-d:=⟨⟨by omega,hRn⟩,by omega⟩
 have hnl:N (d+1)≠[]:=by rw [hns];simp
 have lap:rows Nt.l (N (d+1))=rows Nt.l (N d)++[.i .i64 xk,.i .i64 xs,.s xb]:=by rw [hns,rows_append];rfl
 have lal:(N (d+1)).length=(N d).length+1:=by rw [hns];simp
 clear hRd hRn hgd hns hD hNs hN0 hR;have hMb:=fun j=>nrB j (N (d+1));have hMr:=fun ψ=>nrR ψ (N (d+1));have big:Seam F66 (.block 5 (.seq (.reg i66r33) (.seq (.reg i66r34) (.seq (.reg i66r35) (.reg i66r36))))) KK [(4,.p 2 0),(7,.p 3 0),(14,(gQ Nt.l 3 (N d)).v 7)]
  ((gQ Nt.l 3 (N d)).h 7++[(6,{cells:=rows Flt.Hf.l hs,gr:=some 5}),(3,{cells:=[.i .i64 (nx+(d:Int)),.sg 6 (d*5) (hs.length-d)]}),(2,{cells:=[.i .i64 0,.ns]})]) 8:=by
  refine Seam.block ?_;refine Seam.cut (fun K3 hK3=> ?_);have tl:Seam F66 (.seq (.reg i66r35) (.reg i66r36)) K3 [(4,.p 2 0),(7,.p 3 0),(14,.sg 10 0 (N (d+1)).length)]
   [(10,{cells:=rows Nt.l (N (d+1)),gr:=some 3}),(6,{cells:=rows Flt.Hf.l hs,gr:=some 5}),(3,{cells:=[.i .i64 (nx+(d:Int)),.sg 6 (d*5) (hs.length-d)]}),(2,{cells:=[.i .i64 0,.ns]})] 11:=by
   subst hK3;subst hKK;refine Seam.part (F:=F66) hTT7 mo ?_;dsimp only [F66,TT7];have c3:decide ((1:Int)<=((hs.length-d:Nat):Int)/\(0:Int)<=((hs.length-d:Nat):Int))=true:=decide_eq_true (by omega)
   rw [gqC _ hnl];by_cases hl:d+1<hs.length
   ·rw [if_pos hl];have c4:decide (False\/1<hs.length-d)=true:=decide_eq_true (.inr (by omega))
    have e5:(d+1)*5=d*5+5:=by omega
    have e6:hs.length-(d+1)=hs.length-d-1:=by omega
    rw [e6] at hstep ⊢;rw [e5];simp only [go_sem,c3,c4,simprocAttr];refine Seam.run (F:=F66) hTT7 mo ?_;dsimp only [F66,TT7];simp only [go_sem,wn,hstep,AV.ren,renL,AV.bel,belL,nblt,Blk.ren,hb,hbr,hMb,hMr,simprocAttr]
   ·rw [if_neg hl];have c4:decide (False\/1<hs.length-d)=false:=decide_eq_false (fun h=>h.elim _root_.id (by omega))
    simp only [go_sem,c3,c4,simprocAttr];refine Seam.wk (e2:=[(4,.p 2 0),(7,.p 3 0),(14,.sg 10 0 (N (d+1)).length)]) (h2:=[(10,{cells:=rows Nt.l (N (d+1)),gr:=some 3}),(6,{cells:=rows Flt.Hf.l hs,gr:=some 5}),(3,{cells:=[.i .i64 (nx+(d:Int)),.fz [] 0]}),(2,{cells:=[.i .i64 0,.ns]})]) ?_
     ⟨⟨_,rfl,Wka.refl _⟩,⟨_,rfl,Wka.refl _⟩,⟨_,rfl,Wka.refl _⟩,trivial⟩ ⟨⟨_,rfl,rfl,rfl,rfl,WkaL.refl _⟩,⟨_,rfl,rfl,rfl,rfl,WkaL.refl _⟩,⟨_,rfl,rfl,rfl,rfl,Wka.refl _,Wka.en,trivial⟩,⟨_,rfl,rfl,rfl,rfl,WkaL.refl _⟩,trivial⟩
    refine Seam.run (F:=F66) hTT7 mo ?_;dsimp only [F66,TT7];simp only [go_sem,wn,hstep,AV.ren,renL,AV.bel,belL,nblt,Blk.ren,hb,hbr,hMb,hMr,simprocAttr]
  clear hK3 hKK hstep;by_cases hnd:N d=[]
  ·rw [hnd,gqN];rw [hnd] at lap;simp only [rows_nil,List.nil_append] at lap;have lal1:(N (d+1)).length=1:=by rw [lal,hnd];rfl
   refine Seam.part (F:=F66) hTT7 mo ?_;dsimp only [F66,TT7];simp only [go_sem,c1,c2,hx2,q,hxx,hcm,AV.bel,belL,nblt,hgb,simprocAttr];refine Seam.part (F:=F66) hTT7 mo ?_;dsimp only [F66,TT7];simp only [go_sem,gm1,AV.bel,belL,nblt,simprocAttr];exact Seam.ren [] tl (by decide) (by decide) (by rw [lal1];simp only [go_sem,AV.bel,belL,nblt,AV.ren,renL,simprocAttr]) (by rw [lap];simp only [go_sem,AV.bel,belL,nblt,AV.ren,renL,Blk.ren,hb,hbr,simprocAttr])
  ·rw [gqC _ hnd];refine Seam.part (F:=F66) hTT7 mo ?_;dsimp only [F66,TT7];simp only [go_sem,c1,c2,hx2,q,hxx,hcm,AV.bel,belL,nblt,hgb,simprocAttr];refine Seam.part (F:=F66) hTT7 mo ?_;dsimp only [F66,TT7];simp only [go_sem,gm,hNz,AV.bel,belL,nblt,simprocAttr];have lbx: ∀j,belL j (rows Nt.l (N d)++[.i .i64 xk,.i .i64 xs,.s xb])=true:=fun j=>by rw [<-lap];exact nrB j _
   have lrx: ∀ψ,renL ψ (rows Nt.l (N d)++[.i .i64 xk,.i .i64 xs,.s xb])=rows Nt.l (N d)++[.i .i64 xk,.i .i64 xs,.s xb]:=fun ψ=>by rw [<-lap];exact nrR ψ _
   exact Seam.ren [] tl (by decide) (by decide) (by rw [lal];simp only [go_sem,AV.bel,belL,nblt,AV.ren,renL,simprocAttr]) (by rw [lap];simp only [go_sem,AV.bel,belL,nblt,AV.ren,renL,Blk.ren,hb,hbr,lbx,lrx,simprocAttr])
 clear hKK;by_cases hnd:N d=[]
 ·rw [hnd,gqN] at big ⊢;simp only [go_sem,c1,c2,hx2,q,hxx,hcm,simprocAttr];exact Seam.ren [] big (by decide) (by decide) (by simp only [go_sem,AV.bel,belL,nblt,AV.ren,renL,simprocAttr]) (by simp only [go_sem,AV.bel,belL,nblt,AV.ren,renL,Blk.ren,hb,hbr,simprocAttr])
 ·rw [gqC _ hnd] at big ⊢;simp only [go_sem,c1,c2,hx2,q,hxx,hcm,simprocAttr];exact Seam.ren [] big (by decide) (by decide) (by simp only [go_sem,AV.bel,belL,nblt,AV.ren,renL,simprocAttr]) (by simp only [go_sem,AV.bel,belL,nblt,AV.ren,renL,Blk.ren,hb,hbr,hNb,hNr,simprocAttr])
def skF (s:Int):Flt.Hf->List Flt.Hf->Flt.Hf
 |d,[]=>d
 |d,x::r=>skF s (if x.sq=s then x else d) r
def inF (s:Int) (h:Flt.Hf):List Flt.Hf->List Flt.Hf
 |[]=>[h]
 |x::r=>if x.sq<s then x::inF s h r else if x.sq=s then h::r else h::x::r
theorem inF_ne {s:Int} {h:Flt.Hf}: ∀{l:List Flt.Hf},inF s h l≠[]
 |[]=>by simp [inF]
 |x::r=>by unfold inF;split;simp;split<;>simp
theorem skF_gt {s:Int}: ∀{l:List Flt.Hf} {d:Flt.Hf},(∀y∈l,s<y.sq)->skF s d l=d
 |[],_,_=>rfl
 |x::r,d,h=>by
  unfold skF;rw [if_neg (by have:=h x List.mem_cons_self;omega)]
  exact skF_gt (fun y hy=>h y (List.mem_cons_of_mem _ hy))
theorem skF_snoc {s:Int} {x:Flt.Hf}: ∀{l:List Flt.Hf} {d:Flt.Hf},skF s d (l++[x])=if x.sq=s then x else skF s d l
 |[],_=>rfl
 |y::r,d=>by
  show skF s _ (r++[x])=if x.sq=s then x else skF s _ r
  rw [skF_snoc]
theorem skF_mem {s:Int}: ∀{l:List Flt.Hf} {d:Flt.Hf},skF s d l=d\/(skF s d l∈l/\(skF s d l).sq=s)
 |[],_=> .inl rfl
 |x::r,d=>by
  unfold skF;by_cases h:x.sq=s
  ·rw [if_pos h];rcases skF_mem (l:=r) (d:=x) with e|⟨e,e2⟩
   ·rw [e];exact .inr ⟨List.mem_cons_self,h⟩
   ·exact .inr ⟨List.mem_cons_of_mem _ e,e2⟩
  ·rw [if_neg h];rcases skF_mem (l:=r) (d:=d) with e|⟨e,e2⟩
   ·exact .inl e
   ·exact .inr ⟨List.mem_cons_of_mem _ e,e2⟩
theorem put_sk (p:Pc): ∀{l:List Flt.Hf},ascB l=true->putH p l=(fillS (skF p.sq (newH p) l) p).map fun h=>inF p.sq h l
 |[],_=>rfl
 |x::r,ha=>by
  simp only [ascB,Bool.and_eq_true,List.all_eq_true,decide_eq_true_eq] at ha;obtain ⟨h1,h2⟩:=ha;by_cases e1:x.sq<p.sq
  ·rw [putH,if_pos e1,put_sk p h2];rw [show skF p.sq (newH p) (x::r)=skF p.sq (newH p) r from by
    show skF p.sq (if x.sq=p.sq then x else newH p) r=_
    rw [if_neg (by omega)]]
   cases fillS (skF p.sq (newH p) r) p
   ·rfl
   ·simp only [Option.map_some,inF,if_pos e1]
  ·by_cases e2:x.sq=p.sq
   ·rw [putH,if_neg e1,if_pos e2];rw [show skF p.sq (newH p) (x::r)=x from by
     show skF p.sq (if x.sq=p.sq then x else newH p) r=_
     rw [if_pos e2,skF_gt (fun y hy=>by have:=h1 y hy;omega)]]
    cases fillS x p
    ·rfl
    ·simp only [Option.map_some,inF,if_neg e1,if_pos e2]
   ·rw [putH,if_neg e1,if_neg e2,skF_gt (fun y hy=>by
     rcases List.mem_cons.1 hy with rfl|hy
     ·omega
     ·have:=h1 y hy;omega)]
    cases fillS (newH p) p
    ·rfl
    ·simp only [Option.map_some,inF,if_neg e1,if_neg e2]
def stp (h:Flt.Hf) (s:Int) (a:List Flt.Hf×Bool) (x:Flt.Hf):List Flt.Hf×Bool:=
 bif decide (x.sq>=s)&& !a.2 then (bif x.sq !=s then (a.1++[h]++[x],true) else (a.1++[h],true)) else (bif x.sq !=s then (a.1++[x],a.2) else a)
theorem stp_done {h:Flt.Hf} {s:Int}: ∀{l acc:List Flt.Hf},(∀y∈l,s<y.sq)->l.foldl (stp h s) (acc,true)=(acc++l,true)
 |[],acc,_=>by rw [List.append_nil];rfl
 |x::r,acc,hg=>by
  have h1:=hg x List.mem_cons_self;have e:stp h s (acc,true) x=(acc++[x],true):=by
   unfold stp;rw [show (x.sq !=s)=true from bne_iff_ne.2 (by omega)]
   simp
  rw [List.foldl_cons,e,stp_done (fun y hy=>hg y (List.mem_cons_of_mem _ hy)),List.append_assoc];rfl
theorem stp_all {h:Flt.Hf} {s:Int}: ∀{l acc:List Flt.Hf},ascB l=true->(bif (l.foldl (stp h s) (acc,false)).2 then (l.foldl (stp h s) (acc,false)).1 else (l.foldl (stp h s) (acc,false)).1++[h])=acc++inF s h l
 |[],acc,_=>rfl
 |x::r,acc,ha=>by
  simp only [ascB,Bool.and_eq_true,List.all_eq_true,decide_eq_true_eq] at ha;obtain ⟨h1,h2⟩:=ha;rw [List.foldl_cons];by_cases e1:x.sq<s
  ·have e:stp h s (acc,false) x=(acc++[x],false):=by
    unfold stp;rw [decide_eq_false (by omega),show (x.sq !=s)=true from bne_iff_ne.2 (by omega)]
    rfl
   rw [e,stp_all h2];simp [inF,e1]
  ·by_cases e2:x.sq=s
   ·have e:stp h s (acc,false) x=(acc++[h],true):=by
     unfold stp;rw [decide_eq_true (by omega),show (x.sq !=s)=false from by rw [bne_eq_false_iff_eq];exact e2]
     rfl
    rw [e,stp_done (fun y hy=>by have:=h1 y hy;omega)]
    simp [inF,e1,e2]
   ·have e:stp h s (acc,false) x=(acc++[h]++[x],true):=by
     unfold stp;rw [decide_eq_true (by omega),show (x.sq !=s)=true from bne_iff_ne.2 e2]
     rfl
    rw [e,stp_done (fun y hy=>by have:=h1 y hy;omega)]
    simp [inF,e1,e2]
theorem stN_len {h:Flt.Hf} {s:Int} (l:List Flt.Hf): ∀a:List Flt.Hf×Bool,(l.foldl (stp h s) a).1.length<=a.1.length+2*l.length:=by
 induction l with
 |nil=>intro a;exact Nat.le_refl _
 |cons x r ih=>
  intro a;have h1:=ih (stp h s a x);have h2:(stp h s a x).1.length<=a.1.length+2:=by
   unfold stp;cases decide (x.sq>=s)&& !a.2<;>cases x.sq !=s<;>simp<;>omega
  rw [List.foldl_cons,List.length_cons];omega
theorem inF_len {s:Int} {h:Flt.Hf}: ∀{l:List Flt.Hf},(inF s h l).length<=l.length+1
 |[]=>Nat.le_refl _
 |x::r=>by
  have:=inF_len (s:=s) (h:=h) (l:=r);unfold inF;split
  ·simp only [List.length_cons];omega
  ·split
   ·simp only [List.length_cons];omega
   ·simp only [List.length_cons];omega
theorem pt_list (nx:Int) (hn0:0<=nx) (hn1:nx<=65536) (hs:List Flt.Hf) (hlen:hs.length<=4) (hgl: ∀x∈hs,OkE x) (hasc:ascB hs=true) (H:Flt.Hf) (hH:OkE H) (pk pl ps po:Int) (pt:List UInt8):
 Seam F66 (.seq (.reg i66r18) (.seq (.seq (.reg i66r19) (.block 2 (.loop i66l28))) (.seq (.seq (.reg i66r29) (.cond (.t 126) (.reg i66r30) .skip)) (.seq (.reg i66r31) (.seq (.block 4 (.loop i66l37)) (.seq (.reg i66r38) .ret))))))
  (K66 ((giveS nx (inF ps H hs)).1,(giveS nx (inF ps H hs)).2,0)) [(2,.p 0 0),(3,.p 1 0),(4,.p 2 0),(7,.p 3 0),(8,.p 5 0)]
  [(0,{cells:=[.i .i64 nx,.fz (rows Flt.Hf.l hs) hs.length]}),(1,{cells:=[.i .i64 pk,.i .i64 pl,.i .i64 ps,.i .i64 po,.s pt]}),(2,{cells:=[.i .i64 0,.ns]}),(3,{cells:=[.i .i64 nx,.ns]}),(5,{cells:=H.l})] 6:=by
 have hb:=fun j=>hrB j hs;have hbr:=fun ψ=>hrR ψ hs;have hga: ∀(k:Nat) x,hs[k]? =some x->List.take 5 (List.drop (k*5) (rows Flt.Hf.l hs))=x.l:=fun k x hk=>rows_at (f:=Flt.Hf.l) Flt.Hf.len hk;have gqN:gQ Flt.Hf.l 5 ([]:List Flt.Hf)= .nil:=rfl;have gqC: ∀l:List Flt.Hf,l≠[]->gQ Flt.Hf.l 5 l= .sg {cells:=rows Flt.Hf.l l,gr:=some 5} 0 l.length:=fun l h=>by unfold gQ;rw [if_neg (by simpa using h)]
 have hall:=stp_all (h:=H) (s:=ps) (l:=hs) (acc:=[]) hasc;rw [List.nil_append] at hall;obtain ⟨J,hJ⟩: ∃J:Nat->List Flt.Hf×Bool,J=fun i=>(hs.take i).foldl (stp H ps) ([],false):=⟨_,rfl⟩;have hJ0:J 0=([],false):=by rw [hJ];rfl
 have hJs: ∀i x,hs[i]? =some x->J (i+1)=stp H ps (J i) x:=fun i x hx=>by
  have hlt:=(List.getElem?_eq_some_iff.1 hx).1;rw [List.getElem?_eq_getElem hlt] at hx;rw [hJ];dsimp only;rw [List.take_succ_eq_append_getElem hlt,List.foldl_append,Option.some.inj hx];rfl
 have hJl: ∀i,(J i).1.length<=8:=fun i=>by
  rw [hJ];have:=stN_len (h:=H) (s:=ps) (hs.take i) ([],false);rw [List.length_take] at this;simp only [List.length_nil] at this;dsimp only;omega
 have hJE: ∀i,∀y∈(J i).1,OkE y:=fun i=>by
  rw [hJ];dsimp only;have key: ∀(l:List Flt.Hf) (a:List Flt.Hf×Bool),(∀y∈l,OkE y)->(∀y∈a.1,OkE y)-> ∀y∈(l.foldl (stp H ps) a).1,OkE y:=by
   intro l;induction l with
   |nil=>intro a _ h;exact h
   |cons x r ih=>
    intro a hl ha;rw [List.foldl_cons];refine ih _ (fun y hy=>hl y (List.mem_cons_of_mem _ hy)) (fun y hy=> ?_);have hx:=hl x List.mem_cons_self;unfold stp at hy;cases h1:decide (x.sq>=ps)&& !a.2<;>cases h2:x.sq !=ps<;>rw [h1,h2] at hy<;>simp only [cond_true,cond_false,List.mem_append,List.mem_singleton] at hy
    ·exact ha y hy
    ·rcases hy with hy|rfl
     ·exact ha y hy
     ·exact hx
    ·rcases hy with hy|rfl
     ·exact ha y hy
     ·exact hH
    ·rcases hy with (hy|rfl)|rfl
     ·exact ha y hy
     ·exact hH
     ·exact hx
  exact key _ _ (fun y hy=>hgl y (List.mem_of_mem_take hy)) (fun y hy=>by cases hy)
 have hJe:J hs.length=hs.foldl (stp H ps) ([],false):=by rw [hJ];dsimp only;rw [List.take_length]
 rw [<-hJe] at hall;clear hJ hJe;obtain ⟨L',hL'⟩: ∃L',L'=inF ps H hs:=⟨_,rfl⟩;have hLn:L'≠[]:=by rw [hL'];exact inF_ne
 have hLl:L'.length<=5:=by rw [hL'];exact Nat.le_trans inF_len (by omega)
 rw [<-hL'] at hall ⊢;clear hL';have hd5:=hgl;obtain ⟨hk,hl,hq,hB,hg⟩:=H;simp only [Flt.Hf.l];have hHb:=fun j=>grB j hg;have hHr:=fun ψ=>grR ψ hg;refine Seam.part (F:=F66) hTT7 mo ?_;dsimp only [F66,TT7];simp only [go_sem,simprocAttr];refine Seam.part (F:=F66) hTT7 mo ?_;dsimp only [F66,TT7];simp only [go_sem,simprocAttr];refine Loop.stepR (F:=F66) hTT7 mo (X:=Nat) (fun i=>i<=hs.length) (fun i=>hs.length-i) (fun i=>[(2,.p 0 0),(3,.p 1 0),(4,.p 2 0),(7,.p 3 0),(8,.p 5 0),(11,.b (J i).2),(12,.i .i64 (i:Int))])
  (fun i=>(gQ Flt.Hf.l 5 (J i).1).h 6++[(3,{cells:=[.i .i64 nx,(gQ Flt.Hf.l 5 (J i).1).v 6]}),(0,{cells:=[.i .i64 nx,.fz (rows Flt.Hf.l hs) hs.length]}),(1,{cells:=[.i .i64 pk,.i .i64 pl,.i .i64 ps,.i .i64 po,.s pt]}),(2,{cells:=[.i .i64 0,.ns]}),(5,{cells:=[.i .i64 hk,.i .i64 hl,.i .i64 hq,.s hB,.fz (rows gp hg) hg.length]})]) 7 0 (fun i=>i+1) []
  (fun i=>match hs[i]? with|none=>[]|some x=>bif decide (x.sq>=ps)&& !(J i).2 then (bif x.sq !=ps then [(6,11)] else [(6,9)]) else (bif x.sq !=ps then [(6,9)] else [])) (by decide) rfl (fun i=>by
   cases hs[i]? with
   |none=>rfl
   |some x=>dsimp only;cases decide (x.sq>=ps)&& !(J i).2<;>cases x.sq !=ps<;>rfl) (Nat.zero_le _) ?_ ?_ (fun i hi=> ?_)
 ·rw [hJ0];simp only [go_sem,Int.natCast_zero,AV.ren,renL,AV.bel,belL,nblt,simprocAttr]
 ·rw [hJ0,gqN];simp only [go_sem,AV.ren,renL,AV.bel,belL,nblt,Blk.ren,hb,hbr,hHb,hHr,simprocAttr]
 have hi:i<=hs.length:=hi;dsimp only [F66,TT7];have hJli:=hJl i;have gm0:decide (64<=growMax)=true:=by decide
 have gm2:decide (128<=growMax)=true:=by decide
 by_cases hlt:i<hs.length
 rotate_left
 ·obtain rfl:i=hs.length:=by omega
  have c1:decide ((hs.length:Int)<(hs.length:Int))=false:=decide_eq_false (by omega)
  have hJE:=hJE hs.length;generalize J hs.length=a at*;obtain ⟨A,dn⟩:=a;dsimp only at hall hJE hJli;have hrb:=fun j=>hrB j A;have hrr:=fun ψ=>hrR ψ A;have hAl:(rows Flt.Hf.l A).length=A.length*5:=rows_len Flt.Hf.len;have fin:=fun (hE: ∀y∈L',OkE y)=>pt_give nx hn0 hn1 L' (List.length_pos_iff.2 hLn) hLl hE;have gm:decide (64*(A.length+1)<=growMax)=true:=decide_eq_true (by simp only [growMax];omega)
  cases dn
  ·rw [cond_false] at hall;subst hall;have fin:=fin (fun y hy=>by
    rcases List.mem_append.1 hy with h|h
    ·exact hJE y h
    ·rw [List.mem_singleton.1 h];exact hH)
   have hY: ∀B:List Flt.Hf,rows Flt.Hf.l (B++[⟨hk,hl,hq,hB,hg⟩])=rows Flt.Hf.l B++[.i .i64 hk,.i .i64 hl,.i .i64 hq,.s hB,.fz (rows gp hg) hg.length]:=fun B=>by rw [rows_append];rfl
   have hYb:=fun j=>hrB j (A++[⟨hk,hl,hq,hB,hg⟩]);have hYr:=fun ψ=>hrR ψ (A++[⟨hk,hl,hq,hB,hg⟩]);have l1: ∀y:Flt.Hf,(A++[y]).length=A.length+1:=fun y=>by rw [List.length_append];rfl
   rw [hY] at hYb hYr;rw [l1,hY] at fin;by_cases hne:A=[]
   ·subst hne;rw [gqN];simp only [go_sem,c1,simprocAttr];refine Seam.part (F:=F66) hTT7 mo ?_;dsimp only [F66,TT7];simp only [go_sem,gm0,AV.bel,belL,nblt,hHb,simprocAttr];refine Seam.part (F:=F66) hTT7 mo ?_;dsimp only [F66,TT7];simp only [go_sem,simprocAttr];exact Seam.ren [(6,8)] fin (by decide) (by decide) (by simp only [go_sem,AV.bel,belL,nblt,AV.ren,renL,simprocAttr]) (by simp only [go_sem,rows_nil,List.nil_append,List.length_nil,AV.bel,belL,nblt,AV.ren,renL,Blk.ren,hHb,hHr,simprocAttr])
   ·rw [gqC _ hne];simp only [go_sem,c1,simprocAttr];refine Seam.part (F:=F66) hTT7 mo ?_;dsimp only [F66,TT7];simp only [go_sem,gm,hAl,AV.bel,belL,nblt,hHb,hrb,simprocAttr];refine Seam.part (F:=F66) hTT7 mo ?_;dsimp only [F66,TT7];simp only [go_sem,simprocAttr];exact Seam.ren [(6,8)] fin (by decide) (by decide) (by simp only [go_sem,AV.bel,belL,nblt,AV.ren,renL,simprocAttr]) (by simp only [go_sem,AV.bel,belL,nblt,AV.ren,renL,Blk.ren,hHb,hHr,hYb,hYr,simprocAttr])
  ·rw [cond_true] at hall;subst hall;have fin:=fin hJE;rw [gqC _ hLn];simp only [go_sem,c1,simprocAttr];refine Seam.part (F:=F66) hTT7 mo ?_;dsimp only [F66,TT7];simp only [go_sem,simprocAttr];refine Seam.part (F:=F66) hTT7 mo ?_;dsimp only [F66,TT7];simp only [go_sem,simprocAttr];exact Seam.ren [] fin (by decide) (by decide) (by simp only [go_sem,AV.bel,belL,nblt,AV.ren,renL,simprocAttr]) (by simp only [go_sem,AV.bel,belL,nblt,AV.ren,renL,Blk.ren,hrb,hrr,simprocAttr])
 obtain ⟨x,hx⟩: ∃x,hs[i]? =some x:=⟨_,List.getElem?_eq_getElem hlt⟩;have hr:=hga i x hx;have c1:decide ((i:Int)<(hs.length:Int))=true:=decide_eq_true (by omega)
 have c2:decide (0<=(i:Int)/\(i:Int)<(hs.length:Int))=true:=decide_eq_true (by omega)
 have wi:IntKind.i64.wrap ((i:Int)+1)=((i+1:Nat):Int):=by rw [wrapL (by omega) (by omega)];omega
 have hst:i+1<=hs.length/\hs.length-(i+1)<hs.length-i:=⟨by omega,by omega⟩
 rw [hJs i x hx,hx];dsimp only;generalize J i=a at*;obtain ⟨A,dn⟩:=a;dsimp only at hJli ⊢;clear hall hJ0 hJs hJl hJE hx hd5 hga;generalize hL:rows Flt.Hf.l hs=L at*;obtain ⟨xk,xl,xs,xb,xg⟩:=x;simp only [Flt.Hf.l] at hr;have hgb:=fun j=>grB j xg;have hgr:=fun ψ=>grR ψ xg;have hAl:(rows Flt.Hf.l A).length=A.length*5:=rows_len Flt.Hf.len;have hrb:=fun j=>hrB j A;have hrr:=fun ψ=>hrR ψ A;have gm:decide (64*(A.length+1)<=growMax)=true:=decide_eq_true (by simp only [growMax];omega)
 have gm3:decide (64*(A.length+1+1)<=growMax)=true:=decide_eq_true (by simp only [growMax];omega)
 unfold stp;dsimp only;have hX: ∀B:List Flt.Hf,rows Flt.Hf.l (B++[⟨xk,xl,xs,xb,xg⟩])=rows Flt.Hf.l B++[.i .i64 xk,.i .i64 xl,.i .i64 xs,.s xb,.fz (rows gp xg) xg.length]:=fun B=>by rw [rows_append];rfl
 have hY: ∀B:List Flt.Hf,rows Flt.Hf.l (B++[⟨hk,hl,hq,hB,hg⟩])=rows Flt.Hf.l B++[.i .i64 hk,.i .i64 hl,.i .i64 hq,.s hB,.fz (rows gp hg) hg.length]:=fun B=>by rw [rows_append];rfl
 have hXb:=fun j=>hrB j (A++[⟨xk,xl,xs,xb,xg⟩]);have hXr:=fun ψ=>hrR ψ (A++[⟨xk,xl,xs,xb,xg⟩]);have hYb:=fun j=>hrB j (A++[⟨hk,hl,hq,hB,hg⟩]);have hYr:=fun ψ=>hrR ψ (A++[⟨hk,hl,hq,hB,hg⟩]);have hZb:=fun j=>hrB j (A++[⟨hk,hl,hq,hB,hg⟩]++[⟨xk,xl,xs,xb,xg⟩]);have hZr:=fun ψ=>hrR ψ (A++[⟨hk,hl,hq,hB,hg⟩]++[⟨xk,xl,xs,xb,xg⟩]);rw [hX] at hXb hXr hZb hZr;rw [hY] at hYb hYr hZb hZr;have hYl:(rows Flt.Hf.l A++[AV.i .i64 hk,.i .i64 hl,.i .i64 hq,.s hB,.fz (rows gp hg) hg.length]).length=(A.length+1)*5:=by rw [List.length_append,hAl];simp only [List.length_cons,List.length_nil];omega
 have l1: ∀y:Flt.Hf,(A++[y]).length=A.length+1:=fun y=>by rw [List.length_append];rfl
 have l2: ∀y z:Flt.Hf,(A++[y]++[z]).length=A.length+1+1:=fun y z=>by rw [List.length_append,l1];rfl
 cases d1:decide (xs>=ps);all_goals cases dn
 all_goals cases d2:(xs !=ps)
 all_goals simp only [Bool.false_and,Bool.true_and,Bool.not_true,Bool.not_false,cond_true,cond_false]
 all_goals by_cases hne:A=[]
 all_goals first
  |(rw [hne];rw [gqN];simp only [go_sem,c1,c2,wi,hr,hst,d1,d2,Nat.mul_one,AV.ren,renL,AV.bel,belL,nblt,Blk.ren,hb,hbr,hHb,hHr,hgb,hgr,simprocAttr];done)
  |(rw [gqC _ hne];simp only [go_sem,c1,c2,wi,hr,hst,d1,d2,Nat.mul_one,AV.ren,renL,AV.bel,belL,nblt,Blk.ren,hb,hbr,hHb,hHr,hgb,hgr,hrb,hrr,hAl,simprocAttr];done)
  |(rw [hne];rw [gqN,gqC _ (by simp)];simp only [go_sem,c1,c2,wi,hr,hst,d1,d2,gm0,gm2,rows_cons,rows_nil,Flt.Hf.l,List.nil_append,List.append_nil,Nat.mul_one,AV.ren,renL,AV.bel,belL,nblt,Blk.ren,hb,hbr,hHb,hHr,hgb,hgr,simprocAttr];done)
  |(rw [gqC _ hne,gqC _ (by simp),l2,hX,hY];simp only [go_sem,c1,c2,wi,hr,hst,d1,d2,gm,gm3,hYl,Nat.mul_one,AV.ren,renL,AV.bel,belL,nblt,Blk.ren,hb,hbr,hHb,hHr,hgb,hgr,hrb,hrr,hAl,hZb,hZr,simprocAttr];done)
  |(rw [gqC _ hne,gqC _ (by simp),l1,hX];simp only [go_sem,c1,c2,wi,hr,hst,d1,d2,gm,Nat.mul_one,AV.ren,renL,AV.bel,belL,nblt,Blk.ren,hb,hbr,hHb,hHr,hgb,hgr,hrb,hrr,hAl,hXb,hXr,simprocAttr];done)
  |(rw [gqC _ hne,gqC _ (by simp),l1,hY];simp only [go_sem,c1,c2,wi,hr,hst,d1,d2,gm,Nat.mul_one,AV.ren,renL,AV.bel,belL,nblt,Blk.ren,hb,hbr,hHb,hHr,hgb,hgr,hrb,hrr,hAl,hYb,hYr,simprocAttr];done)
theorem b8 (n d:Nat) (hd:0<d):UInt8.ofNat (IntKind.u8.wrap ((n:Int).fdiv (d:Int))).toNat=UInt8.ofNat (n/d):=by
 have e:(n:Int).fdiv (d:Int)=((n/d:Nat):Int):=by rw [Int.fdiv_eq_ediv_of_nonneg _ (by omega)];rfl
 rw [e];have e2:(IntKind.u8.wrap ((n/d:Nat):Int)).toNat=n/d % 256:=by
  rw [wrapU8];omega
 rw [e2,<-UInt8.toNat_inj];simp
theorem w453 (n:Nat):FTL Tryz.prog 45 [.i .i64 (n:Int),.i .i64 3] [] 0 (.s (fld n 3)) [] 0:=by
 refine FTL.of_iw (cx:=cxT []) Sound.nil mo Tryz.func45 i45_eq (by simp [i45]) (iw_of_jw ?_)
 dsimp only [i45];simp only [go_sem,simprocAttr];refine Loop.rounds (F:=⟨Tryz.prog,cxT [],[12],28,0⟩) 4 Sound.nil mo ?_;simp only [go_sem,simprocAttr];refine Ends.pureE rfl ?_;have h65536:UInt8.ofNat (IntKind.u8.wrap ((n:Int).fdiv 65536)).toNat=UInt8.ofNat (n/65536):=b8 n 65536 (by decide)
 have h256:UInt8.ofNat (IntKind.u8.wrap ((n:Int).fdiv 256)).toNat=UInt8.ofNat (n/256):=b8 n 256 (by decide)
 have h1:UInt8.ofNat (IntKind.u8.wrap ((n:Int).fdiv 1)).toNat=UInt8.ofNat (n/1):=b8 n 1 (by decide)
 rw [h65536,h256,h1];simp only [fld,List.nil_append,List.cons_append,Nat.div_div_eq_div_mul,Nat.div_one,Nat.reduceMul]
theorem w452 (n:Nat):FTL Tryz.prog 45 [.i .i64 (n:Int),.i .i64 2] [] 0 (.s (fld n 2)) [] 0:=by
 refine FTL.of_iw (cx:=cxT []) Sound.nil mo Tryz.func45 i45_eq (by simp [i45]) (iw_of_jw ?_)
 dsimp only [i45];simp only [go_sem,simprocAttr];refine Loop.rounds (F:=⟨Tryz.prog,cxT [],[12],28,0⟩) 3 Sound.nil mo ?_;simp only [go_sem,simprocAttr];refine Ends.pureE rfl ?_;have h256:UInt8.ofNat (IntKind.u8.wrap ((n:Int).fdiv 256)).toNat=UInt8.ofNat (n/256):=b8 n 256 (by decide)
 have h1:UInt8.ofNat (IntKind.u8.wrap ((n:Int).fdiv 1)).toNat=UInt8.ofNat (n/1):=b8 n 1 (by decide)
 rw [h256,h1];simp only [fld,List.nil_append,List.cons_append,Nat.div_div_eq_div_mul,Nat.div_one,Nat.reduceMul]
theorem w451 (n:Nat):FTL Tryz.prog 45 [.i .i64 (n:Int),.i .i64 1] [] 0 (.s (fld n 1)) [] 0:=by
 refine FTL.of_iw (cx:=cxT []) Sound.nil mo Tryz.func45 i45_eq (by simp [i45]) (iw_of_jw ?_)
 dsimp only [i45];simp only [go_sem,simprocAttr];refine Loop.rounds (F:=⟨Tryz.prog,cxT [],[12],28,0⟩) 2 Sound.nil mo ?_;simp only [go_sem,simprocAttr];refine Ends.pureE rfl ?_;have h1:UInt8.ofNat (IntKind.u8.wrap ((n:Int).fdiv 1)).toNat=UInt8.ofNat (n/1):=b8 n 1 (by decide)
 rw [h1];simp only [fld,List.nil_append,List.cons_append,Nat.div_div_eq_div_mul,Nat.div_one,Nat.reduceMul]
def k45:Ct
 |[.i .i64 a,.i .i64 k],_,n=>some (decide (0<=a/\1<=k/\k<=3),{v:= .s (fld a.toNat k.toNat),n})
 |_,_,_=>none
theorem s45:SoundAt Tryz.prog 45 k45:=fun args h n c E hc ht=>by
 unfold k45 at hc;split at hc
 ·rename_i a k;cases hc;obtain ⟨h0,h1,h3⟩:=of_decide_eq_true ht;obtain ⟨m,rfl⟩: ∃m:Nat,a=(m:Int):=⟨a.toNat,by omega⟩
  rw [Int.toNat_natCast];obtain rfl|rfl|rfl:k=1\/k=2\/k=3:=by omega
  ·exact CallOK.pure (by kernel_rfl) rfl rfl (w451 m) _ _
  ·exact CallOK.pure (by kernel_rfl) rfl rfl (w452 m) _ _
  ·exact CallOK.pure (by kernel_rfl) rfl rfl (w453 m) _ _
 ·cases hc
theorem srB (j:Nat) (l:List (List UInt8)):belL j (rows strR l)=true:=belL_mono0 _ (rows_bel strR_bel)
theorem srR (ψ:Nat->Nat) (l:List (List UInt8)):renL ψ (rows strR l)=rows strR l:=renL_fix0 _ (rows_bel strR_bel)
theorem str_nyl (s:List UInt8):nylL (strR s)=true:=rfl
theorem nt_nyl (x:Nt):nylL x.l=true:=rfl
theorem w44 (x:Nt) (sz:Int):FTL Tryz.prog 44 [.agg x.l,.i .i64 sz] [] 0 (.fn 76 [.p 0 0,.p 1 0]) [(0,{cells:=x.l}),(1,{cells:=[.i .i64 sz]})] 2:=by
 refine FTL.of_iw Sound.nil mo Tryz.func44 i44_eq (by simp [i44]) (iw_of_jw ?_)
 dsimp only [i44];obtain ⟨kd,sq,bd⟩:=x;simp only [go_sem,Nt.l,simprocAttr];exact Ends.R [] (by decide) (by decide) rfl rfl (by simp [HpR,hget,rn,Blk.ren,renL,AV.ren,belL,AV.bel];rfl)
def k44:Ct
 |[.agg c,.i .i64 sz],h,n=>(nt3 c).bind fun x=>some (true,{v:= .fn 76 [.p n 0,.p (n+1) 0],n:=n+2,nw:=[(n,{cells:=x.l}),(n+1,{cells:=[.i .i64 sz]})]})
 |_,_,_=>none
theorem s44:SoundAt Tryz.prog 44 k44:=fun args h n c E hc ht=>by
 unfold k44 at hc;split at hc
 ·rename_i cc sz;simp only [Option.bind_eq_some_iff] at hc;obtain ⟨x,hx,hc⟩:=hc;cases hc;rw [nt3_eq hx];have hm: ∀{c:Nat} {kk:Blk},(c,kk)∈[(0,({cells:=x.l}:Blk)),(1,{cells:=[.i .i64 sz]})]->(c=0/\kk={cells:=x.l})\/(c=1/\kk={cells:=[.i .i64 sz]}):=fun hh=>by simpa using hh
  have hf:=w44 x sz;obtain ⟨kd,sq,bd⟩:=x;refine (CallOK.gen (k:=0) (kR:=2) (n:=n) (h:=h) (fun i=>i) (fun _=>false) (by kernel_rfl) (Nat.zero_le _) rfl hf (fun c kk hh=>by cases hh) (fun c kk hh=> ?_) (fun c hc=>absurd hc (by omega)) (fun c kk hh=>by cases hh) (fun c kk hh=>by cases hh) (fun c1 c2 k1 k2 q1=>by cases q1) (fun c kk hh=>by cases hh) (fun c kk hh _=> ?_) (fun c kk hh=>by cases hh) (fun c kk hh=> ?_)).cast rfl ?_
  ·rcases hm hh with ⟨rfl,rfl⟩|⟨rfl,rfl⟩<;>rfl
  ·rcases hm hh with ⟨rfl,rfl⟩|⟨rfl,rfl⟩<;>rfl
  ·rcases hm hh with ⟨rfl,rfl⟩|⟨rfl,rfl⟩<;>decide
  ·simp [mdG,nwG,rdG,chiG,hget,Blk.ren,AV.ren,renL,Nt.l];try rfl
 ·cases hc
def TC7:List (Nat×Ct):=[(12,k12),(44,k44),(45,k45)]
theorem hTC7:Sound Tryz.prog (cxT TC7):=Sound.cons s12<|Sound.cons s44<|Sound.cons s45 Sound.nil
abbrev hP (x:Nt) (sz:Int) (v:AV) (Lh:Hp):Hp:=
 (0,{cells:=x.l})::(1,{cells:=[v]})::(2,{cells:=x.l})::(3,{cells:=[.i .i64 sz]})::Lh
abbrev lS (j:Nat) (l:List (List UInt8)):Hp:=[(j,{cells:=rows strR l,gr:=some 1})]
noncomputable abbrev F7:Fx:=⟨Tryz.prog,cxT TC7,[8,12],50,0⟩
abbrev yv (L:Nat) (r:Go.Loop):AV:= .yl L r [6] [.p 1 0]
def pcB (p:Pc):Bool:=decide (0<=p.kd)&&(decide (0<=p.ln)&&(decide (0<=p.sq)&&(decide (0<=p.ofs)&&decide (p.pt.length<=1000000))))
theorem pcB_t {p:Pc} (h:pcB p=true):0<=p.kd/\0<=p.ln/\0<=p.sq/\0<=p.ofs/\p.pt.length<=1000000:=by simpa [pcB] using h
theorem kfld {a k:Int} (ha:0<=a) (hk:1<=k/\k<=3) (h:Hp) (n:Nat):k45 [.i .i64 a,.i .i64 k] h n=some (true,{v:= .s (fld a.toNat k.toNat),n}):=by
 simp only [k45,decide_eq_true (show 0<=a/\1<=k/\k<=3 from ⟨ha,hk.1,hk.2⟩)]
theorem fld_len (n:Nat): ∀k,(fld n k).length=k:=fun k=>by
 induction k generalizing n with
 |zero=>rfl
 |succ k ih=>simp [fld,ih]
theorem yb_g (x:Nt) (sz:Int) (p:Pc) (hp:pcB p=true) (l:List (List UInt8)) (hll:l.length<=1000000):
 RoundW F7 [22] i10a9 i10b9 [6] [.p 1 0] [.agg p.l] (hP x sz (.sg 5 0 l.length) (lS 5 l)) 6 (hP x sz (.sg 6 0 (l.length+1)) (lS 6 (l++[pcO p]))) 7:=by
 refine RoundW.of_jw ?_;obtain ⟨h1,h2,h3,h4,h5⟩:=pcB_t hp;have gm:decide (16*(l.length+1)<=growMax)=true:=decide_eq_true (by simp only [growMax];omega)
 have hlen:(rows strR l).length=l.length*1:=rows_len strR_len;have hap:rows strR (l++[pcO p])=rows strR l++[.s (pcO p)]:=by rw [rows_append];simp [rows,strR]
 have hbb: ∀j,belL j (rows strR l++[.s (pcO p)])=true:=fun j=>by rw [<-hap];exact srB _ _
 have hrb: ∀ψ,renL ψ (rows strR l++[.s (pcO p)])=rows strR l++[.s (pcO p)]:=fun ψ=>by rw [<-hap];exact srR _ _
 rw [lS,hap];have f1:=fun h n=>kfld h1 (k:=1) (by decide) h n
 have f2:=fun h n=>kfld h2 (k:=3) (by decide) h n
 have f3:=fun h n=>kfld h3 (k:=2) (by decide) h n
 have f4:=fun h n=>kfld h4 (k:=3) (by decide) h n
 have f5:=fun h n=>kfld (a:=(p.pt.length:Int)) (by omega) (k:=3) (by decide) h n
 simp only [Int.reduceToNat,Int.toNat_natCast] at f1 f2 f3 f4 f5;have hO:pcO p=fld p.kd.toNat 1++fld p.ln.toNat 3++fld p.sq.toNat 2++fld p.ofs.toNat 3++fld p.pt.length 3++p.pt:=rfl;have L1:=fld_len p.kd.toNat 1;have L2:=fld_len p.ln.toNat 3;have L3:=fld_len p.sq.toNat 2;have L4:=fld_len p.ofs.toNat 3;have L5:=fld_len p.pt.length 3;rw [hO] at hbb hrb ⊢;obtain ⟨kd,ln,sq,ofs,pt⟩:=p;dsimp only at*;have lp:decide (1+3+2+3+3+pt.length<=9223372036854775807)=true:=decide_eq_true (by omega)
 generalize fld kd.toNat 1=o1 at*;generalize fld ln.toNat 3=o2 at*;generalize fld sq.toNat 2=o3 at*;generalize fld ofs.toNat 3=o4 at*;generalize fld pt.length 3=o5 at*;simp only [go_sem,F7,TC7,zipE,asg,hP,lS,gm,hlen,Pc.l,Nt.l,f1,f2,f3,f4,f5,L1,L2,L3,L4,L5,lp,List.length_append,simprocAttr];refine Ends.R [(6,8)] (by decide) (by decide) rfl rfl ?_
 simp only [go_sem,hP,lS,Nt.l,Blk.ren,AV.ren,renL,AV.bel,belL,nblt,srB,srR,hbb,hrb,simprocAttr]
theorem yb_z (x:Nt) (sz:Int) (p:Pc) (hp:pcB p=true):
 RoundW F7 [22] i10a9 i10b9 [6] [.p 1 0] [.agg p.l] (hP x sz .ns []) 6 (hP x sz (.sg 6 0 1) (lS 6 [pcO p])) 7:=by
 refine RoundW.of_jw ?_;obtain ⟨h1,h2,h3,h4,h5⟩:=pcB_t hp;have hap:rows strR [pcO p]=[.s (pcO p)]:=by simp [rows,strR]
 have hbb: ∀j,belL j [.s (pcO p)]=true:=fun j=>by rw [<-hap];exact srB _ _
 have hrb: ∀ψ,renL ψ [.s (pcO p)]=[.s (pcO p)]:=fun ψ=>by rw [<-hap];exact srR _ _
 rw [lS,hap];have f1:=fun h n=>kfld h1 (k:=1) (by decide) h n
 have f2:=fun h n=>kfld h2 (k:=3) (by decide) h n
 have f3:=fun h n=>kfld h3 (k:=2) (by decide) h n
 have f4:=fun h n=>kfld h4 (k:=3) (by decide) h n
 have f5:=fun h n=>kfld (a:=(p.pt.length:Int)) (by omega) (k:=3) (by decide) h n
 simp only [Int.reduceToNat,Int.toNat_natCast] at f1 f2 f3 f4 f5;have hO:pcO p=fld p.kd.toNat 1++fld p.ln.toNat 3++fld p.sq.toNat 2++fld p.ofs.toNat 3++fld p.pt.length 3++p.pt:=rfl;have L1:=fld_len p.kd.toNat 1;have L2:=fld_len p.ln.toNat 3;have L3:=fld_len p.sq.toNat 2;have L4:=fld_len p.ofs.toNat 3;have L5:=fld_len p.pt.length 3;rw [hO] at hbb hrb ⊢;obtain ⟨kd,ln,sq,ofs,pt⟩:=p;dsimp only at*;have lp:decide (1+3+2+3+3+pt.length<=9223372036854775807)=true:=decide_eq_true (by omega)
 generalize fld kd.toNat 1=o1 at*;generalize fld ln.toNat 3=o2 at*;generalize fld sq.toNat 2=o3 at*;generalize fld ofs.toNat 3=o4 at*;generalize fld pt.length 3=o5 at*;simp only [go_sem,F7,TC7,zipE,asg,hP,lS,growMax,Pc.l,Nt.l,f1,f2,f3,f4,f5,L1,L2,L3,L4,L5,lp,List.length_append,simprocAttr];refine Ends.R [(6,8)] (by decide) (by decide) rfl rfl ?_
 simp only [go_sem,hP,lS,Nt.l,Blk.ren,AV.ren,renL,AV.bel,belL,nblt,srB,srR,hbb,hrb,simprocAttr]
def YBc (L:Nat) (r:Go.Loop):Prop:= ∀cs as' h1 n1 h2 n2,[22].length=as'.length->nylL cs=true->nylL as'=true->(∀b k,hget h1 b=some k->nylL k.cells=true)->RoundW F7 [22] i10a9 i10b9 [6] cs as' h1 n1 h2 n2->FTL Tryz.prog YB (.yl L r [6] cs::as') h1 n1 (.b true) h2 n2
theorem callZ {L:Nat} {r:Go.Loop} (hY:YBc L r) (x:Nt) (sz:Int) (p:Pc) (hp:pcB p=true) (B:Blk):
 CallOK Tryz.prog YB [yv L r,.agg p.l] ((4,B)::hP x sz .ns []) 6 {v:= .b true,n:=13,rd:=[0,1,2,3],md:=[(1,some {cells:=[.sg 12 0 1]})],nw:=[(12,{cells:=rows strR [pcO p],gr:=some 1})]}:=by
 have hf:=hY [.p 1 0] [.agg p.l] (hP x sz .ns []) 6 _ 7 rfl rfl rfl (fun b k hb=>nylH_spec (by simp only [nylH,hP,nylL,AV.nyl,rows_nyl str_nyl,nt_nyl,Bool.and_self]) hb) (yb_z x sz p hp)
 refine (CallOK.gen (k:=6) (kR:=7) (n:=6) (h:=(4,B)::hP x sz .ns []) (fun i=>if i<4 then i else 6+i) (fun i=>i==1) (by kernel_rfl) ?_ ?_ hf (fun c kk hh=> ?_) (fun c kk hh=> ?_) (fun c hc hh=> ?_) (fun c kk hh=> ?_) (fun c kk hh=> ?_) (fun c1 c2 k1 k2 q1 q2 _ he=> ?_) (fun c kk hh hM=> ?_) (fun c kk hh hM=> ?_) (fun c kk hh hM=> ?_) (fun c kk hh=> ?_)).cast ?_ ?_
 ·decide
 ·simp only [belL,AV.bel,p.bel];rfl
 ·simp only [hP,lS,List.mem_cons,Prod.mk.injEq,List.not_mem_nil,or_false] at hh;rcases hh with ⟨rfl,rfl⟩|⟨rfl,rfl⟩|⟨rfl,rfl⟩|⟨rfl,rfl⟩<;>rfl
 ·simp only [hP,lS,List.mem_cons,Prod.mk.injEq,List.not_mem_nil,or_false] at hh;rcases hh with ⟨rfl,rfl⟩|⟨rfl,rfl⟩|⟨rfl,rfl⟩|⟨rfl,rfl⟩|⟨rfl,rfl⟩<;>rfl
 ·rcases (by omega:c=0\/c=1\/c=2\/c=3\/c=4\/c=5) with rfl|rfl|rfl|rfl|rfl|rfl<;>first|rfl|exact (Option.some_ne_none _ hh).elim
 ·simp only [hP,lS,List.mem_cons,Prod.mk.injEq,List.not_mem_nil,or_false] at hh;rcases hh with ⟨rfl,rfl⟩|⟨rfl,rfl⟩|⟨rfl,rfl⟩|⟨rfl,rfl⟩<;>first|exact ⟨by decide,rfl⟩|exact ⟨by decide,by simp only [belL,AV.bel,srB,Bool.and_self]⟩
 ·simp only [hP,lS,List.mem_cons,Prod.mk.injEq,List.not_mem_nil,or_false] at hh;rcases hh with ⟨rfl,rfl⟩|⟨rfl,rfl⟩|⟨rfl,rfl⟩|⟨rfl,rfl⟩<;>first|rfl|(simp only [Blk.ren,srR,renL,AV.ren];rfl)|simp only [Blk.ren,srR,renL,AV.ren]
 ·simp only [hP,lS,List.mem_cons,Prod.mk.injEq,List.not_mem_nil,or_false] at q1;rcases q1 with ⟨rfl,rfl⟩|⟨rfl,rfl⟩|⟨rfl,rfl⟩|⟨rfl,rfl⟩<;>(simp only [hP,lS,List.mem_cons,Prod.mk.injEq,List.not_mem_nil,or_false] at q2;rcases q2 with ⟨rfl,rfl⟩|⟨rfl,rfl⟩|⟨rfl,rfl⟩|⟨rfl,rfl⟩)<;>first|rfl|(exact absurd he (by decide))
 ·simp only [hP,lS,List.mem_cons,Prod.mk.injEq,List.not_mem_nil,or_false] at hh;rcases hh with ⟨rfl,rfl⟩|⟨rfl,rfl⟩|⟨rfl,rfl⟩|⟨rfl,rfl⟩<;>rfl
 ·simp only [hP,lS,List.mem_cons,Prod.mk.injEq,List.not_mem_nil,or_false] at hh;rcases hh with ⟨rfl,rfl⟩|⟨rfl,rfl⟩|⟨rfl,rfl⟩|⟨rfl,rfl⟩|⟨rfl,rfl⟩<;>rfl
 ·simp only [hP,lS,List.mem_cons,Prod.mk.injEq,List.not_mem_nil,or_false] at hh;rcases hh with ⟨rfl,rfl⟩|⟨rfl,rfl⟩|⟨rfl,rfl⟩|⟨rfl,rfl⟩<;>first|rfl|(exact absurd hM (by decide))
 ·simp only [hP,lS,List.mem_cons,Prod.mk.injEq,List.not_mem_nil,or_false] at hh;rcases hh with ⟨rfl,rfl⟩|⟨rfl,rfl⟩|⟨rfl,rfl⟩|⟨rfl,rfl⟩|⟨rfl,rfl⟩<;>decide
 ·simp only [renL,AV.ren];rfl
 ·simp [mdG,nwG,rdG,chiG,hget,Blk.ren,AV.ren,srR,hP,lS];all_goals first|rfl|exact ⟨rfl,rfl⟩|exact ⟨⟨rfl,rfl⟩,rfl⟩|exact ⟨⟨_,rfl,rfl,rfl,rfl,rfl⟩,rfl⟩|exact ⟨⟨⟨_,rfl,rfl,rfl,rfl,rfl⟩,rfl⟩,rfl⟩|trace_state
theorem callG {L:Nat} {r:Go.Loop} (hY:YBc L r) (x:Nt) (sz:Int) (p:Pc) (hp:pcB p=true) (l:List (List UInt8)) (hll:l.length<=1000000) (B:Blk):
 CallOK Tryz.prog YB [yv L r,.agg p.l] ((4,B)::hP x sz (.sg 5 0 l.length) (lS 5 l)) 6 {v:= .b true,n:=13,rd:=[0,1,2,3,5],md:=[(1,some {cells:=[.sg 12 0 (l.length+1)]}),(5,none)],nw:=[(12,{cells:=rows strR (l++[pcO p]),gr:=some 1})]}:=by
 have hf:=hY [.p 1 0] [.agg p.l] (hP x sz (.sg 5 0 l.length) (lS 5 l)) 6 _ 7 rfl rfl rfl (fun b k hb=>nylH_spec (by simp only [nylH,hP,lS,nylL,AV.nyl,rows_nyl str_nyl,nt_nyl,Bool.and_self]) hb) (yb_g x sz p hp l hll)
 refine (CallOK.gen (k:=6) (kR:=7) (n:=6) (h:=(4,B)::hP x sz (.sg 5 0 l.length) (lS 5 l)) (fun i=>if i=4 then 6+i else i) (fun i=>i==1||i==5) (by kernel_rfl) ?_ ?_ hf (fun c kk hh=> ?_) (fun c kk hh=> ?_) (fun c hc hh=> ?_) (fun c kk hh=> ?_) (fun c kk hh=> ?_) (fun c1 c2 k1 k2 q1 q2 _ he=> ?_) (fun c kk hh hM=> ?_) (fun c kk hh hM=> ?_) (fun c kk hh hM=> ?_) (fun c kk hh=> ?_)).cast ?_ ?_
 ·decide
 ·simp only [belL,AV.bel,p.bel];rfl
 ·simp only [hP,lS,List.mem_cons,Prod.mk.injEq,List.not_mem_nil,or_false] at hh;rcases hh with ⟨rfl,rfl⟩|⟨rfl,rfl⟩|⟨rfl,rfl⟩|⟨rfl,rfl⟩|⟨rfl,rfl⟩<;>rfl
 ·simp only [hP,lS,List.mem_cons,Prod.mk.injEq,List.not_mem_nil,or_false] at hh;rcases hh with ⟨rfl,rfl⟩|⟨rfl,rfl⟩|⟨rfl,rfl⟩|⟨rfl,rfl⟩|⟨rfl,rfl⟩<;>rfl
 ·rcases (by omega:c=0\/c=1\/c=2\/c=3\/c=4\/c=5) with rfl|rfl|rfl|rfl|rfl|rfl<;>first|rfl|exact (Option.some_ne_none _ hh).elim
 ·simp only [hP,lS,List.mem_cons,Prod.mk.injEq,List.not_mem_nil,or_false] at hh;rcases hh with ⟨rfl,rfl⟩|⟨rfl,rfl⟩|⟨rfl,rfl⟩|⟨rfl,rfl⟩|⟨rfl,rfl⟩<;>first|exact ⟨by decide,rfl⟩|exact ⟨by decide,by simp only [belL,AV.bel,srB,Bool.and_self]⟩
 ·simp only [hP,lS,List.mem_cons,Prod.mk.injEq,List.not_mem_nil,or_false] at hh;rcases hh with ⟨rfl,rfl⟩|⟨rfl,rfl⟩|⟨rfl,rfl⟩|⟨rfl,rfl⟩|⟨rfl,rfl⟩<;>first|rfl|(simp only [Blk.ren,srR,renL,AV.ren];rfl)|simp only [Blk.ren,srR,renL,AV.ren]
 ·simp only [hP,lS,List.mem_cons,Prod.mk.injEq,List.not_mem_nil,or_false] at q1;rcases q1 with ⟨rfl,rfl⟩|⟨rfl,rfl⟩|⟨rfl,rfl⟩|⟨rfl,rfl⟩|⟨rfl,rfl⟩<;>(simp only [hP,lS,List.mem_cons,Prod.mk.injEq,List.not_mem_nil,or_false] at q2;rcases q2 with ⟨rfl,rfl⟩|⟨rfl,rfl⟩|⟨rfl,rfl⟩|⟨rfl,rfl⟩|⟨rfl,rfl⟩)<;>first|rfl|(exact absurd he (by decide))
 ·simp only [hP,lS,List.mem_cons,Prod.mk.injEq,List.not_mem_nil,or_false] at hh;rcases hh with ⟨rfl,rfl⟩|⟨rfl,rfl⟩|⟨rfl,rfl⟩|⟨rfl,rfl⟩|⟨rfl,rfl⟩<;>rfl
 ·simp only [hP,lS,List.mem_cons,Prod.mk.injEq,List.not_mem_nil,or_false] at hh;rcases hh with ⟨rfl,rfl⟩|⟨rfl,rfl⟩|⟨rfl,rfl⟩|⟨rfl,rfl⟩|⟨rfl,rfl⟩<;>rfl
 ·simp only [hP,lS,List.mem_cons,Prod.mk.injEq,List.not_mem_nil,or_false] at hh;rcases hh with ⟨rfl,rfl⟩|⟨rfl,rfl⟩|⟨rfl,rfl⟩|⟨rfl,rfl⟩|⟨rfl,rfl⟩<;>first|rfl|(exact absurd hM (by decide))
 ·simp only [hP,lS,List.mem_cons,Prod.mk.injEq,List.not_mem_nil,or_false] at hh;rcases hh with ⟨rfl,rfl⟩|⟨rfl,rfl⟩|⟨rfl,rfl⟩|⟨rfl,rfl⟩|⟨rfl,rfl⟩<;>decide
 ·simp only [renL,AV.ren];rfl
 ·simp [mdG,nwG,rdG,chiG,hget,Blk.ren,AV.ren,srR,hP,lS];all_goals first|rfl|exact ⟨rfl,rfl⟩|exact ⟨⟨rfl,rfl⟩,rfl⟩|exact ⟨⟨_,rfl,rfl,rfl,rfl,rfl⟩,rfl⟩|exact ⟨⟨⟨_,rfl,rfl,rfl,rfl,rfl⟩,rfl⟩,rfl⟩|trace_state
theorem appL_sn {pn:Option Value} {v:AV} {n:Nat} {rd:List Nat} {b:Nat} {k:Blk} {x:Nat×Blk} {h:Hp}:(Eff.mk v n rd [(b,some k)] [x] pn).appL h=hset (x::h) b k:=(rfl)
theorem appL_sgn {pn:Option Value} {v:AV} {n:Nat} {rd:List Nat} {b c:Nat} {k:Blk} {x:Nat×Blk} {h:Hp}:(Eff.mk v n rd [(b,some k),(c,none)] [x] pn).appL h=hset (hdel (x::h) c) b k:=(rfl)
attribute [go_sem ↓] appL_sn appL_sgn
def pK (x:Nt) (sz k:Nat):Pc:=⟨x.kd,x.bd.length,x.sq,(min (k*sz) x.bd.length:Nat),if k=0 then [] else (cutP x sz (k-1)).pt⟩
def cL (x:Nt) (sz k:Nat):List (List UInt8):=mapN (fun k=>pcO (cutP x sz k)) k
def hK (x:Nt) (sz k:Nat):Hp:=if k=0 then hP x (sz:Int) .ns [] else hP x (sz:Int) (.sg 5 0 k) (lS 5 (cL x sz k))
theorem pcB_of {p:Pc} (h1:0<=p.kd) (h2:0<=p.ln) (h3:0<=p.sq) (h4:0<=p.ofs) (h5:p.pt.length<=1000000):pcB p=true:=by simp [pcB,h1,h2,h3,h4,h5]
theorem cutN_lt {n sz k:Nat} (hs:1<=sz) (h:k<cutN n sz):k=0\/k*sz<n:=by
 unfold cutN at h;split at h
 ·omega
 ·right;have h1:(k+1)*sz<=n+sz-1:=by
   have:=Nat.div_mul_le_self (n+sz-1) sz;have h2:(k+1)*sz<=(n+sz-1)/sz*sz:=Nat.mul_le_mul_right _ h;omega
  rw [Nat.succ_mul] at h1;omega
theorem cutN_ge {n sz:Nat} (hs:1<=sz):0<cutN n sz/\n<=cutN n sz*sz/\cutN n sz<=n+1:=by
 unfold cutN;split
 ·omega
 ·have h1:=Nat.lt_div_mul_add (a:=n+sz-1) (b:=sz) (by omega)
  have h2:=Nat.div_le_self (n+sz-1) sz;have h3:(n+sz-1)/sz<=n:=by
   rw [Nat.div_le_iff_le_mul_add_pred (by omega)]
   have:n<=sz*n:=Nat.le_mul_of_pos_left _ (by omega)
   omega
  refine ⟨Nat.div_pos (by omega) (by omega),by omega,by omega⟩
theorem w76 {L:Nat} {r:Go.Loop} (hY:YBc L r) (x:Nt) (sz m:Nat) (hx:noteB x=true) (hsz:1<=sz/\sz<=1100) (hm:cutN x.bd.length sz=m):
 FTL Tryz.prog 76 [yv L r,.p 2 0,.p 3 0] (hP x (sz:Int) .ns []) 4 (.tup []) (hP x (sz:Int) (.sg 4 0 m) (lS 4 (cL x sz m))) 5:=by
 simp only [noteB,Bool.and_eq_true,decide_eq_true_eq] at hx;obtain ⟨x1,x2,x3⟩:=hx;have x1:=inW_t x1;have x2:=inW_t x2;obtain ⟨hm0,hm1,hm2⟩:=cutN_ge (n:=x.bd.length) (sz:=sz) hsz.1;rw [hm] at hm0 hm1 hm2;have hlt0:=fun k h=>cutN_lt (n:=x.bd.length) (sz:=sz) (k:=k) hsz.1 h;rw [hm] at hlt0;refine FTL.of_iw (cx:=cxT []) Sound.nil mo Tryz.func76 i76_eq (by simp [i76]) (iw_of_jw ?_)
 dsimp only [i76];have hcl: ∀k,(cL x sz k).length=k:=fun k=>mapN_len k;have hR: ∀k,HpR 6 [] ((4,{cells:=(pK x sz k).l})::hK x sz k) ((4,{cells:=(pK x sz k).l})::hK x sz k):=fun k=>by
  unfold hK;split
  ·simp only [go_sem,hP,lS,Nt.l,Pc.l,Blk.ren,AV.ren,renL,AV.bel,belL,nblt,srB,srR,simprocAttr]
  ·simp only [go_sem,hP,lS,Nt.l,Pc.l,Blk.ren,AV.ren,renL,AV.bel,belL,nblt,srB,srR,simprocAttr]
 have hK0:hP x (sz:Int) .ns []=hK x sz 0:=rfl;have hp0:(pK x sz 0).l=[.i .i64 x.kd,.i .i64 (x.bd.length:Int),.i .i64 x.sq,.i .i64 0,.s []]:=by simp [pK,Pc.l]
 have hR0:=hR 0;rw [<-hK0,hp0] at hR0;simp only [hP,Nt.l] at hR0 ⊢;simp only [go_sem,simprocAttr];refine Loop.stepX (F:=⟨Tryz.prog,cxT [],[21,38],46,4⟩) mo (X:=Nat) (fun k=>k<=m) (fun k=>m+1-k)
  (fun k=>[(0,yv L r),(1,.p 2 0),(2,.p 3 0),(4,.p 4 0),(5,.b (k==0))]) (fun k=>(4,{cells:=(pK x sz k).l})::hK x sz k) 6 0 (fun k=>k+1) [] (fun _=>[(5,12)]) (by decide) (by decide) (fun _=>by decide) (Nat.zero_le _) ?_ ?_ (fun k hk=> ?_)
 ·have z:((0:Nat)==0)=true:=rfl;simp only [go_sem,z,yv,AV.ren,renL,AV.bel,belL,nblt,simprocAttr]
 ·rw [hp0];exact hR0
 have hpl:(pK x sz k).l=[.i .i64 x.kd,.i .i64 (x.bd.length:Int),.i .i64 x.sq,.i .i64 ((min (k*sz) x.bd.length:Nat):Int),.s (if k=0 then [] else (cutP x sz (k-1)).pt)]:=rfl
 by_cases hlt:k<m
 · -- a piece
   have hcp:pcB (cutP x sz k)=true:=by
    refine pcB_of (p:=cutP x sz k) (show 0<=x.kd by omega) (show (0:Int)<=(x.bd.length:Int) by omega) (show 0<=x.sq by omega) (show (0:Int)<=((k*sz:Nat):Int) by omega) ?_
    show (List.take sz (List.drop (k*sz) x.bd)).length<=1000000;rw [List.length_take,List.length_drop];omega
   have hko:min (k*sz) x.bd.length=k*sz:=by
    rcases hlt0 k hlt with h|h
    ·subst h;simp
    ·omega
   have hle:k*sz<=x.bd.length:=by omega
   have hptl:(cutP x sz k).pt.length=min sz (x.bd.length-k*sz):=by rw [cutP,List.length_take,List.length_drop]
   have hn1:hK x sz (k+1)=hP x (sz:Int) (.sg 5 0 (k+1)) (lS 5 (cL x sz (k+1))):=rfl;obtain ⟨o,ho⟩: ∃o,o=k*sz:=⟨_,rfl⟩;obtain ⟨o1,ho1⟩: ∃o1,o1=min (o+sz) x.bd.length:=⟨_,rfl⟩;have hpn:(pK x sz (k+1)).l=[.i .i64 x.kd,.i .i64 (x.bd.length:Int),.i .i64 x.sq,.i .i64 (o1:Int),.s (cutP x sz k).pt]:=by
    have e:o1=min ((k+1)*sz) x.bd.length:=by rw [ho1,ho,Nat.succ_mul]
    rw [e];simp [pK,Pc.l]
   have hcl1:cL x sz (k+1)=cL x sz k++[pcO (cutP x sz k)]:=rfl;have hcpl:(cutP x sz k).l=[.i .i64 x.kd,.i .i64 (x.bd.length:Int),.i .i64 x.sq,.i .i64 (o:Int),.s (cutP x sz k).pt]:=by rw [ho];rfl
   have hpe:List.take (o1-o) (List.drop o x.bd)=(cutP x sz k).pt:=by
    rw [ho1,ho];show _=List.take sz (List.drop (k*sz) x.bd);rcases Nat.le_total (k*sz+sz) x.bd.length with h|h
    ·rw [Nat.min_eq_left h,Nat.add_sub_cancel_left]
    ·rw [Nat.min_eq_right h,List.take_of_length_le (by rw [List.length_drop];omega),List.take_of_length_le (by rw [List.length_drop];omega)]
   have hpe2:List.drop o (List.take o1 x.bd)=(cutP x sz k).pt:=by rw [List.drop_take];exact hpe
   rw [<-ho] at hko hle hptl;have w1:IntKind.i64.wrap ((o:Int)+(sz:Int))=((o+sz:Nat):Int):=by rw [wrapL (by omega) (by omega)];omega
   have w2:IntKind.i64.wrap ((o:Int)+((cutP x sz k).pt.length:Int))=(o1:Int):=by
    rw [hptl,wrapL (by omega) (by omega)];omega
   have mn:min ((o+sz:Nat):Int) (x.bd.length:Int)=(o1:Int):=by omega
   have d1:decide (0<=(o:Int)/\(o:Int)<=(o1:Int)/\(o1:Int)<=(x.bd.length:Int))=true:=decide_eq_true (by omega)
   have d2:decide ((o:Int)<=(o1:Int)/\(o1:Int)<=(x.bd.length:Int))=true:=decide_eq_true (by omega)
   have hsk:m+1-(k+1)<m+1-k:=by omega
   have hk1:k+1<=m:=hlt;have kz:(k+1==0)=false:=by simp
   rw [<-ho] at hpl;rw [hpl,hko,hn1,hpn];by_cases hk0:k=0
   ·subst hk0;have hc:=callZ hY x (sz:Int) (cutP x sz 0) hcp {cells:=(cutP x sz 0).l};refine ⟨_,cx1_sound hc,?_⟩;have e0:hK x sz 0=hP x (sz:Int) .ns []:=rfl;rw [e0,hcl1];have ec:cL x sz 0=[]:=rfl;rw [ec,List.nil_append];have z:((0:Nat)==0)=true:=rfl;rw [hcpl];generalize (cutP x sz 0).pt=part at*;generalize pcO (cutP x sz 0)=oct at*;have hoB: ∀j,belL j (strR oct)=true:=fun j=>rfl;have hoR: ∀ψ,renL ψ (strR oct)=strR oct:=fun ψ=>rfl;obtain ⟨kd,sq,bd⟩:=x;dsimp only at*;simp only [go_sem,cx1_at,hP,lS,yv,z,w1,w2,mn,hpe2,d1,d2,hsk,hk1,kz,Nt.l,Blk.ren,AV.ren,renL,AV.bel,belL,nblt,srB,srR,rows_cons,rows_nil,hoB,hoR,List.append_nil,simprocAttr];omega
   ·have hc:=callG hY x (sz:Int) (cutP x sz k) hcp (cL x sz k) (by rw [hcl];omega) {cells:=(cutP x sz k).l}
    have ek:hK x sz k=hP x (sz:Int) (.sg 5 0 k) (lS 5 (cL x sz k)):=if_neg hk0;rw [hcl,<-hcl1] at hc;refine ⟨_,cx1_sound hc,?_⟩;have z:(k==0)=false:=by simpa using hk0
    have d3:decide ((o:Int)<(x.bd.length:Int))=true:=decide_eq_true (by rcases hlt0 k hlt with h|h<;>omega)
    rw [ek,hcpl,if_neg hk0];generalize (cutP x sz (k-1)).pt=part0 at*;generalize (cutP x sz k).pt=part at*;generalize pcO (cutP x sz k)=oct at*;generalize cL x sz (k+1)=l1 at*;generalize cL x sz k=l0 at*;generalize cL x sz m=lm at*;obtain ⟨kd,sq,bd⟩:=x;dsimp only at*;simp only [go_sem,cx1_at,hP,lS,yv,z,w1,w2,mn,hpe2,d1,d2,d3,hsk,hk1,kz,Nt.l,Blk.ren,AV.ren,renL,AV.bel,belL,nblt,srB,srR,simprocAttr];omega
 ·obtain rfl:k=m:=by omega
  have hk0:k≠0:=by omega
  have ek:hK x sz k=hP x (sz:Int) (.sg 5 0 k) (lS 5 (cL x sz k)):=if_neg hk0;refine ⟨_,Sound.nil,?_⟩;have z:(k==0)=false:=by simpa using hk0
  have o1:min (k*sz) x.bd.length=x.bd.length:=by omega
  have d3:decide ((x.bd.length:Int)<(x.bd.length:Int))=false:=decide_eq_false (by omega)
  rw [hpl,ek,o1];generalize (if k=0 then [] else (cutP x sz (k-1)).pt)=part0 at*
  generalize cL x sz k=l0 at*;obtain ⟨kd,sq,bd⟩:=x;dsimp only at*;simp only [go_sem,hP,lS,z,d3,Nt.l,simprocAttr];refine Ends.R [(4,5)] (by decide) (by decide) rfl rfl ?_
  simp only [go_sem,hP,lS,Blk.ren,AV.ren,renL,AV.bel,belL,nblt,srB,srR,Nt.l,simprocAttr]
theorem nt_t3 (x:Nt):List.take 3 x.l=x.l:=rfl
def ctV (r:List (List UInt8)×Int):AV:= .tup [.fz (rows strR r.1) r.1.length,.i .i64 r.2]
theorem ctV_bel (r:List (List UInt8)×Int):(ctV r).bel 0=true:=by simp only [ctV,AV.bel,belL,srB,Bool.and_self]
theorem cov_n {e:Int} {h:Hp} {n:Nat}:CovS 0 (.tup [.ns,.i .i64 e]) h n (ctV ([],e)) [] 0:=by
 refine CovS.frzN (l:=[]) (v':=ctV ([],e)) (FzV.tup ⟨FzV.hit,FzV.refl,trivial⟩) ?_;exact CovS.ends (Ends.pureE (ctV_bel _) rfl)
theorem cov_g {e:Int} {h:Hp} {n j:Nat} {l:List (List UInt8)} (hk:hget h j=some {cells:=rows strR l,gr:=some 1}):CovS 0 (.tup [.sg j 0 l.length,.i .i64 e]) h n (ctV (l,e)) [] 0:=by
 refine CovS.frz (b:=j) (k:={cells:=rows strR l,gr:=some 1}) (h':=[]) (o:=0) (m:=l.length) (cs:=rows strR l) (v':=ctV (l,e)) hk rfl (.inr rfl) (.inl rfl) (FzV.tup ⟨FzV.hit,FzV.refl,trivial⟩) (fun c kk hc=>by simp [hget] at hc) ?_
 exact CovS.ends (Ends.pureE (ctV_bel _) rfl)
abbrev iT10:ICode:=(.seq (.reg i10r11) .ret)
theorem rf7 (x:Nt) (sz m:Nat) (hx:noteB x=true) (hsz:1<=sz/\sz<=1100) (hm:cutN x.bd.length sz=m) (R:List (List UInt8)×Int) (hR:R=(cL x sz m,0)):
 Seam F7 (.block 1 (.rfunc (.t 21) [22] i10a9 i10b9)) (thenK (retK [.t 4,.t 5] fun v h' n'=>CovS 0 v h' n' (ctV R) [] 0) (Seam F7 iT10 (retK [.t 4,.t 5] fun v h' n'=>CovS 0 v h' n' (ctV R) [] 0)))
  [(6,.p 1 0),(21,.fn 76 [.p 2 0,.p 3 0])] (hP x (sz:Int) .ns []) 4:=by
 refine Seam.block ?_;have hcl:(cL x sz m).length=m:=mapN_len m;refine RFunc.intro (F:=F7) (n':=5) (v':= .tup []) (h':=hP x (sz:Int) (.sg 4 0 m) (lS 4 (cL x sz m))) hTC7 mo [6] [.p 1 0] rfl (by kernel_rfl) rfl rfl rfl (fun i t a h1 h2=> ?_) (fun L r hY=> ?_) (fun b k hb=> ?_) (by decide) ?_
 ·match i with
  |0=>simp at h1 h2;subst h1;subst h2;rfl
  |i+1=>simp at h1
 ·exact w76 (fun cs as' h1 n1 h2 n2 q1 q2 q3 q4 q5=>hY cs as' h1 n1 h2 n2 q1 q2 q3 q4 q5) x sz m hx hsz hm
 ·refine nylH_spec ?_ hb;simp only [nylH,hP,lS,nylL,AV.nyl,rows_nyl str_nyl,nt_nyl,Bool.and_self]
 ·show Seam F7 iT10 _ _ _ _;refine Seam.run (F:=F7) hTC7 mo ?_;dsimp only [F7,TC7];generalize hq:cL x sz m=l at*;subst hcl;simp only [go_sem,hP,lS,simprocAttr];rw [hR];exact cov_g rfl
theorem w10 (x:Nt) (sz:Int):FTL Tryz.prog 10 [.agg x.l,.i .i64 sz] [] 0 (ctV (cutS x sz)) [] 0:=by
 have hck: ∀(h:Hp) n,k12 [.agg x.l] h n=some (true,{v:= .i .i64 (if noteB x then 0 else 190),n}):=fun h n=>by simp only [k12,nt3_l,Option.bind_some]
 have hpc: ∀(h:Hp) n,k44 [.agg x.l,.i .i64 sz] h n=some (true,{v:= .fn 76 [.p n 0,.p (n+1) 0],n:=n+2,nw:=[(n,{cells:=x.l}),(n+1,{cells:=[.i .i64 sz]})]}):=fun h n=>by simp only [k44,nt3_l,Option.bind_some]
 refine FTL.of_seamC (cx:=cxT TC7) Tryz.func10 i10_eq (by simp [i10]) ?_
 dsimp only [i10];refine Seam.part (F:=F7) hTC7 mo ?_;dsimp only [F7,TC7];simp only [go_sem,simprocAttr];refine Seam.part (F:=F7) hTC7 mo ?_;dsimp only [F7,TC7];cases a:noteB x
 ·have hR:cutS x sz=([],190):=by simp only [cutS,a,cond_false]
  rw [hR];simp only [go_sem,List.drop_zero,nt_t3,Nt.len,hck,a,Bool.false_eq_true,simprocAttr];exact cov_n
 cases b1:decide (sz<1);rotate_left
 ·have hR:cutS x sz=([],2):=by
   have:inW (sz-1) 1099=false:=by
    have:=of_decide_eq_true b1;simp only [inW,Bool.and_eq_false_iff,decide_eq_false_iff_not];omega
   simp only [cutS,a,this,cond_true,cond_false]
  rw [hR];simp only [go_sem,List.drop_zero,nt_t3,Nt.len,hck,a,b1,simprocAttr];exact cov_n
 cases b2:decide (sz>1100);rotate_left
 ·have hR:cutS x sz=([],2):=by
   have:inW (sz-1) 1099=false:=by
    have:=of_decide_eq_true b2;simp only [inW,Bool.and_eq_false_iff,decide_eq_false_iff_not];omega
   simp only [cutS,a,this,cond_true,cond_false]
  rw [hR];simp only [go_sem,List.drop_zero,nt_t3,Nt.len,hck,a,b1,b2,simprocAttr];exact cov_n
 have h1:=of_decide_eq_false b1;have h2:=of_decide_eq_false b2;have hR:cutS x sz=(cL x sz.toNat (cutN x.bd.length sz.toNat),0):=by
  simp only [cutS,a,inW_of (show 0<=sz-1/\sz-1<=1099 by omega),cond_true];rfl
 generalize cutS x sz=R at*;simp only [go_sem,List.drop_zero,nt_t3,Nt.len,hck,a,b1,b2,simprocAttr];refine Seam.part (F:=F7) hTC7 mo ?_;dsimp only [F7,TC7];simp only [go_sem,simprocAttr];refine Seam.seq ?_;refine Seam.part (F:=F7) hTC7 mo ?_;dsimp only [F7,TC7];simp only [go_sem,List.drop_zero,nt_t3,Nt.len,hpc,simprocAttr];obtain ⟨s,rfl⟩: ∃s:Nat,sz=(s:Int):=⟨sz.toNat,by omega⟩
 refine Seam.ren [] (rf7 x s _ a (by omega) rfl R (by rw [hR,Int.toNat_natCast])) (by decide) (by decide) ?_ ?_
 ·simp only [go_sem,AV.ren,renL,AV.bel,belL,nblt,simprocAttr]
 ·obtain ⟨kd,sq,bd⟩:=x;simp only [go_sem,hP,Nt.l,Blk.ren,AV.ren,renL,AV.bel,belL,nblt,simprocAttr]
def k10:Ct
 |[.agg c,.i .i64 sz],_,n=>(nt3 c).bind fun x=>some (true,{v:=ctV (cutS x sz),n})
 |_,_,_=>none
theorem s10:SoundAt Tryz.prog 10 k10:=fun args h n c E hc ht=>by
 unfold k10 at hc;split at hc
 ·simp only [Option.bind_eq_some_iff] at hc;obtain ⟨x,hx,he⟩:=hc;cases he;rw [nt3_eq hx];exact CallOK.pure (by kernel_rfl) rfl (ctV_bel _) (w10 x _) _ _
 ·cases hc
end Go.Proofs.Flz
namespace Go.Proofs.Flz
open Go.Ab
abbrev i9r0:List IOper:=[oo 1 (.box (.t 0)),oo 2 (.mv (.c (.ns)))]
abbrev i9r1:List IOper:=[oo 3 (.mv (.c (.ns)))]
abbrev i9r2:List IOper:=[oo 4 (.mv (.c (.i .i64 0)))]
abbrev i9r3:List IOper:=[oo 6 (.mv (.t 4)),oo 7 (.fa 2 (.t 1)),oo 8 (.ld false 1 (.t 7)),oo 9 (.lenV (.t 8)),oo 10 (.bin .lss (.t 6) (.t 9)),ot 11 (.mv (.t 10)),og 12 (.mv (.t 4)) 11 true false,og 13 (.bin .lss (.t 12) (.c (.i .i64 5))) 11 true false,ot 14 (.pick (.t 11) (.t 13) (.c (.b false)))]
abbrev i9r4:List (IOper×List Nat):=[(oo 17 (.fa 0 (.t 1)),[]),(oo 18 (.ld false 1 (.t 17)),[]),(oo 19 (.i2i .i64 (.t 18)),[]),(oo 20 (.mv (.t 4)),[0,1,2]),(oo 21 (.bin .add (.t 19) (.t 20)),[]),(oo 22 (.fa 2 (.t 1)),[0,1,2,3,4]),(oo 23 (.ld false 1 (.t 22)),[0,1,2,3,4]),(oo 24 (.mv (.t 4)),[0,1,2,3,4,5,6]),(oo 25 (.ixaV 1 (.t 23) (.t 24)),[0,1,2,3,4]),(oo 26 (.ld false 1 (.t 25)),[0,1,2,3,4]),(oo 27 (.fa 2 (.t 1)),[0,1,2,3,4,5,6,7,8,9]),(oo 28 (.ld false 1 (.t 27)),[0,1,2,3,4,5,6,7,8,9]),(oo 29 (.mv (.t 4)),[0,1,2,3,4,5,6,7,8,9,10,11]),(oo 30 (.ixaV 1 (.t 28) (.t 29)),[0,1,2,3,4,5,6,7,8,9]),(oo 31 (.ld false 1 (.t 30)),[0,1,2,3,4,5,6,7,8,9]),(oo 32 (.lenV (.t 31)),[0,1,2,3,4,5,6,7,8,9]),(oo 33 (.mn (.t 32) [.c (.i .i64 60)]),[0,1,2,3,4,5,6,7,8,9]),(oo 34 (.slV 1 (.t 26) none (some (.t 33)) none),[0,1,2,3,4]),(oo 35 (.b2s (.t 34)),[0,1,2,3,4]),(oo 36 (.build [.i .i64 0,.i .i64 0,.s []] [(0,1,.c (.i .i64 1)),(1,1,.t 21),(2,1,.t 35)]),[]),(oo 5 (.new [.i .i64 0,.i .i64 0,.s []]),[0,1,2,3,4,5,6,7,8,9,10,11,12,13,14,15,16,17,18,19]),(on_ (.st 3 (.t 5) (.t 36)),[])]
abbrev i9r5:List IOper:=[oo 37 (.mv (.t 4)),oo 38 (.fa 1 (.t 1)),oo 39 (.ld false 1 (.t 38)),oo 40 (.lenV (.t 39)),ot 41 (.bin .lss (.t 37) (.t 40))]
abbrev i9r6:List IOper:=[oo 42 (.fa 1 (.t 1)),oo 43 (.ld false 1 (.t 42)),oo 44 (.mv (.t 4)),oo 45 (.ixaV 1 (.t 43) (.t 44)),oo 46 (.ld false 1 (.t 45)),oo 47 (.i2i .i64 (.t 46)),oo 48 (.fa 0 (.t 5)),on_ (.st 1 (.t 48) (.t 47))]
abbrev i9r7:List IOper:=[oo 49 (.fa 1 (.t 5)),oo 50 (.ld false 1 (.t 49)),ot 51 (.bin .lss (.t 50) (.c (.i .i64 65536)))]
abbrev i9r8:List IOper:=[oo 52 (.mv (.t 3)),oo 53 (.ld true 3 (.t 5)),oo 54 (.bsl [.i .i64 0,.i .i64 0,.s []] 1 [(0,3,.t 53)]),oo 55 (.app 3 32 [.i .i64 0,.i .i64 0,.s []] (.t 52) (.t 54)),oo 3 (.mv (.t 55))]
abbrev i9r9:List IOper:=[oo 15 (.mv (.t 4)),oo 16 (.bin .add (.t 15) (.c (.i .i64 1))),oo 4 (.mv (.t 16))]
abbrev i9l10:ICode:=(.seq (.seq (.reg i9r3) (.cond (.t 14) .skip (.exit 0))) (.seq (.block 1 (.seq (.dreg i9r4) (.seq (.seq (.reg i9r5) (.cond (.t 41) (.reg i9r6) .skip)) (.seq (.reg i9r7) (.cond (.t 51) (.reg i9r8) .skip))))) (.reg i9r9)))
abbrev i9r11:List IOper:=[oo 56 (.mv (.t 3)),oo 2 (.mv (.t 56))]
abbrev i9c:ICode:=(.seq (.reg i9r0) (.seq (.reg i9r1) (.seq (.seq (.reg i9r2) (.block 0 (.loop i9l10))) (.seq (.reg i9r11) .ret))))
def i9:IFn:={np:=1,N:=57,ct:=[14,41,51],code:=i9c,res:=[.t 2]}
theorem i9_eq:compF Tryz.prog Tryz.f9=some i9:=by kernel_rfl
abbrev i16r0:List IOper:=[oo 2 (.new [.i .i64 0,.i .i64 0,.i .i64 0,.i .i64 0,.s []]),oo 3 (.mv (.c (.i .i64 0)))]
abbrev i16r1:List IOper:=[oo 5 (.mv (.t 0)),oo 6 (.lenS (.t 5)),ot 7 (.bin .gtr (.t 6) (.c (.i .i64 1200)))]
abbrev i16r2:List IOper:=[oo 8 (.build [.i .i64 0,.i .i64 0,.i .i64 0,.i .i64 0,.s []] []),on_ (.st 5 (.t 2) (.t 8)),oo 3 (.mv (.c (.i .i64 3)))]
abbrev i16r3:List IOper:=[oo 9 (.mv (.t 0)),oo 10 (.lenS (.t 9)),oo 11 (.bin .lss (.t 10) (.c (.i .i64 12))),ot 12 (.mv (.t 11)),og 13 (.mv (.t 0)) 12 false false,og 14 (.lenS (.t 13)) 12 false false,og 15 (.bin .sub (.t 14) (.c (.i .i64 12))) 12 false false,og 16 (.mv (.t 0)) 12 false false,og 17 (.slS (.t 16) (some (.c (.i .i64 9))) (some (.c (.i .i64 12)))) 12 false false,og 18 (.call (.c (.fn 51 [])) [.t 17]) 12 false false,og 19 (.bin .lss (.t 15) (.t 18)) 12 false false,ot 20 (.pick (.t 12) (.c (.b true)) (.t 19))]
abbrev i16r4:List IOper:=[oo 21 (.build [.i .i64 0,.i .i64 0,.i .i64 0,.i .i64 0,.s []] []),on_ (.st 5 (.t 2) (.t 21)),oo 3 (.mv (.c (.i .i64 7)))]
abbrev i16r5:List (IOper×List Nat):=[(oo 22 (.mv (.t 0)),[]),(oo 23 (.slS (.t 22) none (some (.c (.i .i64 1)))),[]),(oo 24 (.call (.c (.fn 51 [])) [.t 23]),[]),(oo 25 (.mv (.t 0)),[0,1,2]),(oo 26 (.slS (.t 25) (some (.c (.i .i64 1))) (some (.c (.i .i64 4)))),[0,1,2]),(oo 27 (.call (.c (.fn 51 [])) [.t 26]),[]),(oo 28 (.mv (.t 0)),[0,1,2,3,4,5]),(oo 29 (.slS (.t 28) (some (.c (.i .i64 4))) (some (.c (.i .i64 6)))),[0,1,2,3,4,5]),(oo 30 (.call (.c (.fn 51 [])) [.t 29]),[]),(oo 31 (.mv (.t 0)),[0,1,2,3,4,5,6,7,8]),(oo 32 (.slS (.t 31) (some (.c (.i .i64 6))) (some (.c (.i .i64 9)))),[0,1,2,3,4,5,6,7,8]),(oo 33 (.call (.c (.fn 51 [])) [.t 32]),[]),(oo 34 (.mv (.t 0)),[0,1,2,3,4,5,6,7,8,9,10,11]),(oo 35 (.slS (.t 34) (some (.c (.i .i64 12))) none),[0,1,2,3,4,5,6,7,8,9,10,11]),(oo 36 (.build [.i .i64 0,.i .i64 0,.i .i64 0,.i .i64 0,.s []] [(0,1,.t 24),(1,1,.t 27),(2,1,.t 30),(3,1,.t 33),(4,1,.t 35)]),[]),(oo 4 (.new [.i .i64 0,.i .i64 0,.i .i64 0,.i .i64 0,.s []]),[0,1,2,3,4,5,6,7,8,9,10,11,12,13,14]),(on_ (.st 5 (.t 4) (.t 36)),[])]
abbrev i16r6:List IOper:=[oo 37 (.mv (.t 0)),oo 38 (.lenS (.t 37)),oo 39 (.bin .sub (.t 38) (.c (.i .i64 12))),oo 40 (.mv (.t 0)),oo 41 (.slS (.t 40) (some (.c (.i .i64 9))) (some (.c (.i .i64 12)))),oo 42 (.call (.c (.fn 51 [])) [.t 41]),oo 43 (.bin .gtr (.t 39) (.t 42)),ot 44 (.mv (.t 43)),og 45 (.ld true 5 (.t 4)) 44 false false,og 46 (.call (.c (.fn 52 [])) [.t 45]) 44 false false,og 47 (.not (.t 46)) 44 false false,ot 48 (.pick (.t 44) (.c (.b true)) (.t 47))]
abbrev i16r7:List IOper:=[oo 49 (.build [.i .i64 0,.i .i64 0,.i .i64 0,.i .i64 0,.s []] []),on_ (.st 5 (.t 2) (.t 49)),oo 3 (.mv (.c (.i .i64 5)))]
abbrev i16r8:List IOper:=[oo 50 (.ld true 5 (.t 4)),on_ (.st 5 (.t 2) (.t 50)),oo 3 (.mv (.c (.i .i64 0)))]
abbrev i16c:ICode:=(.seq (.reg i16r0) (.seq (.seq (.reg i16r1) (.cond (.t 7) (.seq (.reg i16r2) .ret) .skip)) (.seq (.seq (.reg i16r3) (.cond (.t 20) (.seq (.reg i16r4) .ret) .skip)) (.seq (.dreg i16r5) (.seq (.seq (.reg i16r6) (.cond (.t 48) (.seq (.reg i16r7) .ret) .skip)) (.seq (.reg i16r8) .ret))))))
def i16:IFn:={np:=1,N:=51,ct:=[7,20,48],code:=i16c,res:=[.c 2 true 5,.t 3]}
theorem i16_eq:compF Tryz.prog Tryz.f16=some i16:=by kernel_rfl
abbrev i47r0:List IOper:=[oo 2 (.box (.t 0)),oo 4 (.mv (.c (.ns)))]
abbrev i47r1:List IOper:=[oo 8 (.fa 2 (.t 2)),oo 9 (.ld false 1 (.t 8)),ot 10 (.bin .eql (.t 9) (.c (.s [])))]
abbrev i47r2:List IOper:=[oo 11 (.fa 0 (.t 2)),oo 12 (.ld false 1 (.t 11)),oo 13 (.fa 1 (.t 2)),oo 14 (.ld false 1 (.t 13)),oo 15 (.build [.i .i64 0,.i .i64 0,.i .i64 0,.i .i64 0,.s []] [(0,1,.t 12),(2,1,.t 14)]),oo 16 (.call (.c (.fn 77 [])) [.t 15]),oo 17 (.bsl [.s []] 1 [(0,1,.t 16)]),oo 4 (.mv (.t 17))]
abbrev i47r3:List IOper:=[oo 5 (.mv (.c (.ns)))]
abbrev i47r4:List IOper:=[oo 6 (.mv (.c (.i .i64 0)))]
abbrev i47r5:List IOper:=[oo 18 (.mv (.t 6)),oo 19 (.fa 2 (.t 2)),oo 20 (.ld false 1 (.t 19)),oo 21 (.lenS (.t 20)),ot 22 (.bin .lss (.t 18) (.t 21))]
abbrev i47r6:List IOper:=[oo 26 (.mv (.t 6)),oo 27 (.mv (.t 1)),oo 28 (.bin .add (.t 26) (.t 27)),oo 7 (.mv (.t 28))]
abbrev i47r7:List IOper:=[oo 29 (.mv (.t 7)),oo 30 (.fa 2 (.t 2)),oo 31 (.ld false 1 (.t 30)),oo 32 (.lenS (.t 31)),ot 33 (.bin .gtr (.t 29) (.t 32))]
abbrev i47r8:List IOper:=[oo 34 (.fa 2 (.t 2)),oo 35 (.ld false 1 (.t 34)),oo 36 (.lenS (.t 35)),oo 7 (.mv (.t 36))]
abbrev i47r9:List (IOper×List Nat):=[(oo 37 (.mv (.t 5)),[]),(oo 38 (.fa 0 (.t 2)),[0]),(oo 39 (.ld false 1 (.t 38)),[0]),(oo 40 (.fa 2 (.t 2)),[0,1,2]),(oo 41 (.ld false 1 (.t 40)),[0,1,2]),(oo 42 (.lenS (.t 41)),[0,1,2]),(oo 43 (.fa 1 (.t 2)),[0,1,2,3,4,5]),(oo 44 (.ld false 1 (.t 43)),[0,1,2,3,4,5]),(oo 45 (.mv (.t 6)),[0,1,2,3,4,5,6,7]),(oo 46 (.fa 2 (.t 2)),[0,1,2,3,4,5,6,7,8]),(oo 47 (.ld false 1 (.t 46)),[0,1,2,3,4,5,6,7,8]),(oo 48 (.mv (.t 6)),[0,1,2,3,4,5,6,7,8,9,10]),(oo 49 (.mv (.t 7)),[0,1,2,3,4,5,6,7,8,9,10,11]),(oo 50 (.slS (.t 47) (some (.t 48)) (some (.t 49))),[0,1,2,3,4,5,6,7,8]),(oo 51 (.build [.i .i64 0,.i .i64 0,.i .i64 0,.i .i64 0,.s []] [(0,1,.t 39),(1,1,.t 42),(2,1,.t 44),(3,1,.t 45),(4,1,.t 50)]),[0]),(oo 52 (.call (.c (.fn 77 [])) [.t 51]),[0]),(oo 53 (.bsl [.s []] 1 [(0,1,.t 52)]),[0]),(oo 54 (.app 1 16 [.s []] (.t 37) (.t 53)),[]),(oo 5 (.mv (.t 54)),[])]
abbrev i47r10:List IOper:=[oo 23 (.mv (.t 6)),oo 24 (.mv (.t 1)),oo 25 (.bin .add (.t 23) (.t 24)),oo 6 (.mv (.t 25))]
abbrev i47l11:ICode:=(.seq (.seq (.reg i47r5) (.cond (.t 22) .skip (.exit 0))) (.seq (.block 1 (.seq (.reg i47r6) (.seq (.seq (.reg i47r7) (.cond (.t 33) (.reg i47r8) .skip)) (.dreg i47r9)))) (.reg i47r10)))
abbrev i47r12:List IOper:=[oo 55 (.mv (.t 5)),oo 4 (.mv (.t 55))]
abbrev i47c:ICode:=(.seq (.reg i47r0) (.seq (.seq (.reg i47r1) (.cond (.t 10) (.seq (.reg i47r2) .ret) .skip)) (.seq (.reg i47r3) (.seq (.seq (.reg i47r4) (.block 0 (.loop i47l11))) (.seq (.reg i47r12) .ret)))))
def i47:IFn:={np:=2,N:=56,ct:=[10,22,33],code:=i47c,res:=[.t 4]}
theorem i47_eq:compF Tryz.prog Tryz.f47=some i47:=by kernel_rfl
abbrev i51r0:List IOper:=[oo 2 (.mv (.c (.i .i64 0)))]
abbrev i51r1:List IOper:=[oo 3 (.mv (.c (.i .i64 0)))]
abbrev i51r2:List IOper:=[oo 4 (.mv (.c (.i .i64 0)))]
abbrev i51r3:List IOper:=[oo 5 (.mv (.t 4)),oo 6 (.mv (.t 0)),oo 7 (.lenS (.t 6)),ot 8 (.bin .lss (.t 5) (.t 7))]
abbrev i51r4:List IOper:=[oo 11 (.mv (.t 3)),oo 12 (.bin .mul (.c (.i .i64 256)) (.t 11)),oo 13 (.mv (.t 0)),oo 14 (.mv (.t 4)),oo 15 (.ixS (.t 13) (.t 14)),oo 16 (.i2i .i64 (.t 15)),oo 17 (.bin .add (.t 12) (.t 16)),oo 3 (.mv (.t 17))]
abbrev i51r5:List IOper:=[oo 9 (.mv (.t 4)),oo 10 (.bin .add (.t 9) (.c (.i .i64 1))),oo 4 (.mv (.t 10))]
abbrev i51l6:ICode:=(.seq (.seq (.reg i51r3) (.cond (.t 8) .skip (.exit 0))) (.seq (.block 1 (.reg i51r4)) (.reg i51r5)))
abbrev i51r7:List IOper:=[oo 18 (.mv (.t 3)),oo 2 (.mv (.t 18))]
abbrev i51c:ICode:=(.seq (.reg i51r0) (.seq (.reg i51r1) (.seq (.seq (.reg i51r2) (.block 0 (.loop i51l6))) (.seq (.reg i51r7) .ret))))
def i51:IFn:={np:=1,N:=19,ct:=[8],code:=i51c,res:=[.t 2]}
theorem i51_eq:compF Tryz.prog Tryz.f51=some i51:=by kernel_rfl
abbrev i52r0:List IOper:=[oo 1 (.box (.t 0)),oo 2 (.mv (.c (.b false)))]
abbrev i52r1:List IOper:=[oo 3 (.fa 0 (.t 1)),oo 4 (.ld false 1 (.t 3)),oo 5 (.bin .geq (.t 4) (.c (.i .i64 0))),ot 6 (.mv (.t 5)),og 7 (.fa 0 (.t 1)) 6 true false,og 8 (.ld false 1 (.t 7)) 6 true false,og 9 (.bin .leq (.t 8) (.c (.i .i64 255))) 6 true false,oo 10 (.pick (.t 6) (.t 9) (.c (.b false))),ot 11 (.mv (.t 10)),og 12 (.fa 1 (.t 1)) 11 true false,og 13 (.ld false 1 (.t 12)) 11 true false,og 14 (.bin .geq (.t 13) (.c (.i .i64 0))) 11 true false,oo 15 (.pick (.t 11) (.t 14) (.c (.b false))),ot 16 (.mv (.t 15)),og 17 (.fa 1 (.t 1)) 16 true false,og 18 (.ld false 1 (.t 17)) 16 true false,og 19 (.bin .leq (.t 18) (.c (.i .i64 4000))) 16 true false,oo 20 (.pick (.t 16) (.t 19) (.c (.b false))),ot 21 (.mv (.t 20)),og 22 (.fa 2 (.t 1)) 21 true false,og 23 (.ld false 1 (.t 22)) 21 true false,og 24 (.bin .geq (.t 23) (.c (.i .i64 0))) 21 true false,oo 25 (.pick (.t 21) (.t 24) (.c (.b false))),ot 26 (.mv (.t 25)),og 27 (.fa 2 (.t 1)) 26 true false,og 28 (.ld false 1 (.t 27)) 26 true false,og 29 (.bin .lss (.t 28) (.c (.i .i64 65536))) 26 true false,oo 30 (.pick (.t 26) (.t 29) (.c (.b false))),ot 31 (.mv (.t 30)),og 32 (.fa 3 (.t 1)) 31 true false,og 33 (.ld false 1 (.t 32)) 31 true false,og 34 (.bin .geq (.t 33) (.c (.i .i64 0))) 31 true false,oo 35 (.pick (.t 31) (.t 34) (.c (.b false))),ot 36 (.mv (.t 35)),og 37 (.fa 4 (.t 1)) 36 true false,og 38 (.ld false 1 (.t 37)) 36 true false,og 39 (.lenS (.t 38)) 36 true false,og 40 (.bin .leq (.t 39) (.c (.i .i64 1100))) 36 true false,oo 41 (.pick (.t 36) (.t 40) (.c (.b false))),ot 42 (.mv (.t 41)),og 43 (.fa 3 (.t 1)) 42 true false,og 44 (.ld false 1 (.t 43)) 42 true false,og 45 (.fa 1 (.t 1)) 42 true false,og 46 (.ld false 1 (.t 45)) 42 true false,og 47 (.bin .leq (.t 44) (.t 46)) 42 true false,oo 48 (.pick (.t 42) (.t 47) (.c (.b false))),ot 49 (.mv (.t 48)),og 50 (.fa 3 (.t 1)) 49 true false,og 51 (.ld false 1 (.t 50)) 49 true false,og 52 (.fa 4 (.t 1)) 49 true false,og 53 (.ld false 1 (.t 52)) 49 true false,og 54 (.lenS (.t 53)) 49 true false,og 55 (.bin .add (.t 51) (.t 54)) 49 true false,og 56 (.fa 1 (.t 1)) 49 true false,og 57 (.ld false 1 (.t 56)) 49 true false,og 58 (.bin .leq (.t 55) (.t 57)) 49 true false,oo 59 (.pick (.t 49) (.t 58) (.c (.b false))),ot 60 (.mv (.t 59)),og 61 (.fa 4 (.t 1)) 60 true false,og 62 (.ld false 1 (.t 61)) 60 true false,og 63 (.lenS (.t 62)) 60 true false,og 64 (.bin .eql (.t 63) (.c (.i .i64 0))) 60 true false,og 65 (.fa 1 (.t 1)) 60 true false,og 66 (.ld false 1 (.t 65)) 60 true false,og 67 (.bin .eql (.t 66) (.c (.i .i64 0))) 60 true false,og 68 (.eqk false false [.b] (.t 64) (.t 67)) 60 true false,oo 69 (.pick (.t 60) (.t 68) (.c (.b false))),oo 2 (.mv (.t 69))]
abbrev i52c:ICode:=(.seq (.reg i52r0) (.seq (.reg i52r1) .ret))
def i52:IFn:={np:=1,N:=70,ct:=[],code:=i52c,res:=[.t 2]}
theorem i52_eq:compF Tryz.prog Tryz.f52=some i52:=by kernel_rfl
abbrev i77r0:List IOper:=[oo 1 (.box (.t 0)),oo 2 (.mv (.c (.s [])))]
abbrev i77r1:List (IOper×List Nat):=[(oo 3 (.fa 0 (.t 1)),[]),(oo 4 (.ld false 1 (.t 3)),[]),(oo 5 (.call (.c (.fn 96 [])) [.t 4,.c (.i .i64 1)]),[]),(oo 6 (.fa 1 (.t 1)),[0,1,2]),(oo 7 (.ld false 1 (.t 6)),[0,1,2]),(oo 8 (.call (.c (.fn 96 [])) [.t 7,.c (.i .i64 3)]),[]),(oo 9 (.bin .add (.t 5) (.t 8)),[]),(oo 10 (.fa 2 (.t 1)),[0,1,2,3,4,5,6]),(oo 11 (.ld false 1 (.t 10)),[0,1,2,3,4,5,6]),(oo 12 (.call (.c (.fn 96 [])) [.t 11,.c (.i .i64 2)]),[6]),(oo 13 (.bin .add (.t 9) (.t 12)),[]),(oo 14 (.fa 3 (.t 1)),[0,1,2,3,4,5,6,7,8,9,10]),(oo 15 (.ld false 1 (.t 14)),[0,1,2,3,4,5,6,7,8,9,10]),(oo 16 (.call (.c (.fn 96 [])) [.t 15,.c (.i .i64 3)]),[6,10]),(oo 17 (.bin .add (.t 13) (.t 16)),[]),(oo 18 (.fa 4 (.t 1)),[0,1,2,3,4,5,6,7,8,9,10,11,12,13,14]),(oo 19 (.ld false 1 (.t 18)),[0,1,2,3,4,5,6,7,8,9,10,11,12,13,14]),(oo 20 (.lenS (.t 19)),[0,1,2,3,4,5,6,7,8,9,10,11,12,13,14]),(oo 21 (.call (.c (.fn 96 [])) [.t 20,.c (.i .i64 3)]),[6,10,14]),(oo 22 (.bin .add (.t 17) (.t 21)),[]),(oo 23 (.fa 4 (.t 1)),[0,1,2,3,4,5,6,7,8,9,10,11,12,13,14,15,16,17,18,19]),(oo 24 (.ld false 1 (.t 23)),[0,1,2,3,4,5,6,7,8,9,10,11,12,13,14,15,16,17,18,19]),(oo 25 (.bin .add (.t 22) (.t 24)),[]),(oo 2 (.mv (.t 25)),[])]
abbrev i77c:ICode:=(.seq (.reg i77r0) (.seq (.dreg i77r1) .ret))
def i77:IFn:={np:=1,N:=26,ct:=[],code:=i77c,res:=[.t 2]}
theorem i77_eq:compF Tryz.prog Tryz.f77=some i77:=by kernel_rfl
abbrev i96r0:List IOper:=[oo 4 (.mv (.c (.s [])))]
abbrev i96r1:List IOper:=[oo 5 (.mv (.c (.s [])))]
abbrev i96r2:List IOper:=[oo 6 (.mv (.c (.i .i64 0)))]
abbrev i96r3:List IOper:=[oo 7 (.mv (.t 6)),oo 8 (.mv (.t 1)),ot 9 (.bin .lss (.t 7) (.t 8))]
abbrev i96r4:List IOper:=[oo 12 (.mv (.t 0)),oo 13 (.i2i .u8 (.t 12)),oo 14 (.bsl [.i .u8 0] 1 [(0,1,.t 13)]),oo 15 (.b2s (.t 14)),oo 16 (.mv (.t 5)),oo 17 (.bin .add (.t 15) (.t 16)),oo 5 (.mv (.t 17))]
abbrev i96r5:List IOper:=[oo 18 (.mv (.t 0)),oo 19 (.bin .quo (.t 18) (.c (.i .i64 256))),oo 0 (.mv (.t 19))]
abbrev i96r6:List IOper:=[oo 10 (.mv (.t 6)),oo 11 (.bin .add (.t 10) (.c (.i .i64 1))),oo 6 (.mv (.t 11))]
abbrev i96l7:ICode:=(.seq (.seq (.reg i96r3) (.cond (.t 9) .skip (.exit 0))) (.seq (.block 1 (.seq (.reg i96r4) (.reg i96r5))) (.reg i96r6)))
abbrev i96r8:List IOper:=[oo 20 (.mv (.t 5)),oo 4 (.mv (.t 20))]
abbrev i96c:ICode:=(.seq (.reg i96r0) (.seq (.reg i96r1) (.seq (.seq (.reg i96r2) (.block 0 (.loop i96l7))) (.seq (.reg i96r8) .ret))))
def i96:IFn:={np:=2,N:=21,ct:=[9],code:=i96c,res:=[.t 4]}
theorem i96_eq:compF Tryz.prog Tryz.f96=some i96:=by kernel_rfl
end Go.Proofs.Flz
namespace Go.Proofs.Flz
open Go.Ab Go.Proofs.Flt
theorem w8n (n:Nat):UInt8.ofNat (IntKind.u8.wrap (n:Int)).toNat=UInt8.ofNat n:=by
 have:=b8 n 1 (by decide)
 simpa using this
theorem tdn (n:Nat):Int.tdiv (n:Int) 256=((n/256:Nat):Int):=by rw [Int.tdiv_eq_ediv_of_nonneg (by omega)];rfl
theorem w96 (n k:Nat) (hk:1<=k/\k<=3) (hn:n<=9223372036854775807):FTL Tryz.prog 96 [.i .i64 (n:Int),.i .i64 (k:Int)] [] 0 (.s (fld n k)) [] 0:=by
 have t1:=tdn n;have t2:=tdn (n/256);have t3:=tdn (n/256/256);have a1:=w8n n;have a2:=w8n (n/256);have a3:=w8n (n/256/256);have w1:IntKind.i64.wrap ((n/256:Nat):Int)=((n/256:Nat):Int):=wrapL (by omega) (by omega)
 have w2:IntKind.i64.wrap ((n/256/256:Nat):Int)=((n/256/256:Nat):Int):=wrapL (by omega) (by omega)
 have w3:IntKind.i64.wrap ((n/256/256/256:Nat):Int)=((n/256/256/256:Nat):Int):=wrapL (by omega) (by omega)
 obtain rfl|rfl|rfl:k=1\/k=2\/k=3:=by omega
 all_goals
  refine FTL.of_iw (cx:=cxT []) Sound.nil mo Tryz.func96 i96_eq (by simp [i96]) (iw_of_jw ?_)
  dsimp only [i96];simp only [go_sem,simprocAttr];refine Loop.rounds (F:=⟨Tryz.prog,cxT [],[9],21,0⟩) 4 Sound.nil mo ?_;simp only [go_sem,t1,t2,t3,a1,a2,a3,w1,w2,w3,bytesOf,simprocAttr];exact Ends.pureE rfl rfl
def k96:Ct
 |[.i .i64 n,.i .i64 k],_,m=>some (decide (0<=n/\n<=9223372036854775807/\1<=k/\k<=3),{v:= .s (fld n.toNat k.toNat),n:=m})
 |_,_,_=>none
theorem s96:SoundAt Tryz.prog 96 k96:=fun args h n c E hc ht=>by
 unfold k96 at hc;split at hc
 ·rename_i a k;cases hc;obtain ⟨h0,h1,h2,h3⟩:=of_decide_eq_true ht;have:=w96 a.toNat k.toNat (by omega) (by omega)
  rw [Int.toNat_of_nonneg h0,Int.toNat_of_nonneg (by omega:0<=k)] at this
  exact CallOK.pure (by kernel_rfl) rfl rfl this _ _
 ·cases hc
theorem w51 (s:List UInt8) (hs:s.length<=3):FTL Tryz.prog 51 [.s s] [] 0 (.i .i64 (num s)) [] 0:=by
 refine FTL.of_iw (cx:=cxT []) Sound.nil mo Tryz.func51 i51_eq (by simp [i51]) (iw_of_jw ?_)
 dsimp only [i51];simp only [go_sem,simprocAttr];refine Loop.countI (F:=⟨Tryz.prog,cxT [],[8],19,0⟩) Sound.nil mo s.length (fun _=>True) (fun i=>[(0,.s s),(3,.i .i64 (num (s.take i))),(4,.i .i64 (i:Int))]) (fun _=>[]) 0 (by decide) trivial ?_ ?_ (fun i hi _=> ?_)
 ·have:num (s.take 0)=0:=rfl;simp only [go_sem,this,AV.bel,belL,nblt,simprocAttr]
 ·simp only [go_sem,AV.bel,belL,nblt,simprocAttr]
 by_cases hlt:i<s.length
 rotate_left
 ·have hi':i=s.length:=by omega
  subst hi';have c1:decide ((s.length:Int)<(s.length:Int))=false:=decide_eq_false (by omega)
  have c2:s.take s.length=s:=List.take_length;simp only [go_sem,c1,c2,simprocAttr];exact Ends.pureE rfl rfl
 have c1:decide ((i:Int)<(s.length:Int))=true:=decide_eq_true (by omega)
 have c2:decide (0<=(i:Int)/\(i:Int)<(s.length:Int))=true:=decide_eq_true (by omega)
 obtain ⟨b,hb⟩: ∃b,s[i]? =some b:=⟨_,List.getElem?_eq_getElem hlt⟩;have hgd:(s[i]?).getD 0=b:=by rw [hb];rfl
 have htk:s.take (i+1)=s.take i++[b]:=by
  rw [List.take_succ_eq_append_getElem hlt];rw [List.getElem?_eq_getElem hlt] at hb;rw [Option.some.inj hb]
 have hnum:num (s.take (i+1))=num (s.take i)*256+(b.toNat:Int):=by rw [htk,num_snoc]
 obtain ⟨m,hm,hm2⟩:=num_lt (s.take i);have hm3:m<65536:=by
  have h1:(s.take i).length<=2:=by rw [List.length_take];omega
  have h2:256^(s.take i).length<=256^2:=Nat.pow_le_pow_right (by decide) h1
  omega
 have hbl:b.toNat<256:=UInt8.toNat_lt b;rw [hnum];generalize num (s.take i)=N at*;have w0:IntKind.i64.wrap (b.toNat:Int)=(b.toNat:Int):=wrapL (by omega) (by omega)
 have w1:IntKind.i64.wrap (256*N)=N*256:=by rw [wrapL (by omega) (by omega)];omega
 have w2:IntKind.i64.wrap (N*256+(b.toNat:Int))=N*256+(b.toNat:Int):=wrapL (by omega) (by omega)
 have wk:IntKind.i64.wrap ((i:Int)+1)=((i+1:Nat):Int):=by rw [wrapL (by omega) (by omega)];omega
 simp only [go_sem,c1,c2,hgd,hb,w0,w1,w2,wk,Option.getD_some,AV.bel,belL,nblt,simprocAttr];exact hlt
def k51:Ct
 |[.s s],_,n=>some (decide (s.length<=3),{v:= .i .i64 (num s),n})
 |_,_,_=>none
theorem s51:SoundAt Tryz.prog 51 k51:=fun args h n c E hc ht=>by
 unfold k51 at hc;split at hc
 ·cases hc;exact CallOK.pure (by kernel_rfl) rfl rfl (w51 _ (of_decide_eq_true ht)) _ _
 ·cases hc
def refW (p:Pc):Bool:=decide (p.kd>=0)&&(decide (p.kd<=255)&&(decide (p.ln>=0)&&(decide (p.ln<=4000)&&(decide (p.sq>=0)&&(decide (p.sq<65536)&&(decide (p.ofs>=0)&&(decide ((p.pt.length:Int)<=1100)&&(decide (p.ofs<=p.ln)&&(decide (p.ofs+(p.pt.length:Int)<=p.ln)&&(((p.pt.length:Int)==0)==(p.ln==0)))))))))))
theorem refW_eq {p:Pc} (h:0<=p.kd/\p.kd<=255/\0<=p.ln/\0<=p.sq/\p.sq<65536/\0<=p.ofs):refW p=wholeB p:=by
 have e:(p.pt.length==0)=((p.pt.length:Int)==0):=by rw [Bool.eq_iff_iff];simp
 unfold refW wholeB;rw [e];generalize (((p.pt.length:Int)==0)==(p.ln==0))=B;rw [Bool.eq_iff_iff];simp only [Bool.and_eq_true,decide_eq_true_eq];constructor
 ·rintro ⟨_,_,_,h4,_,_,_,h8,_,h10,hB⟩;exact ⟨h4,by omega,h10,hB⟩
 ·rintro ⟨h4,h8,h10,hB⟩;refine ⟨by omega,by omega,by omega,h4,by omega,by omega,by omega,by omega,by omega,h10,hB⟩
theorem w52 (p:Pc):FTL Tryz.prog 52 [.agg p.l] [] 0 (.b (refW p)) [] 0:=by
 obtain ⟨kd,ln,sq,ofs,pt⟩:=p;unfold refW;simp only [Pc.l];refine FTL.of_iw (cx:=cxT []) Sound.nil mo Tryz.func52 i52_eq (by simp [i52]) (iw_of_jw ?_)
 dsimp only [i52];cases a0:decide (kd>=0)
 ·simp only [go_sem,Bool.false_and,Bool.true_and,a0,simprocAttr];exact Ends.pureE rfl rfl
 cases a1:decide (kd<=255)
 ·simp only [go_sem,Bool.false_and,Bool.true_and,a0,a1,simprocAttr];exact Ends.pureE rfl rfl
 cases a2:decide (ln>=0)
 ·simp only [go_sem,Bool.false_and,Bool.true_and,a0,a1,a2,simprocAttr];exact Ends.pureE rfl rfl
 cases a3:decide (ln<=4000)
 ·simp only [go_sem,Bool.false_and,Bool.true_and,a0,a1,a2,a3,simprocAttr];exact Ends.pureE rfl rfl
 cases a4:decide (sq>=0)
 ·simp only [go_sem,Bool.false_and,Bool.true_and,a0,a1,a2,a3,a4,simprocAttr];exact Ends.pureE rfl rfl
 cases a5:decide (sq<65536)
 ·simp only [go_sem,Bool.false_and,Bool.true_and,a0,a1,a2,a3,a4,a5,simprocAttr];exact Ends.pureE rfl rfl
 cases a6:decide (ofs>=0)
 ·simp only [go_sem,Bool.false_and,Bool.true_and,a0,a1,a2,a3,a4,a5,a6,simprocAttr];exact Ends.pureE rfl rfl
 cases a7:decide ((pt.length:Int)<=1100)
 ·simp only [go_sem,Bool.false_and,Bool.true_and,a0,a1,a2,a3,a4,a5,a6,a7,simprocAttr];exact Ends.pureE rfl rfl
 cases a8:decide (ofs<=ln)
 ·simp only [go_sem,Bool.false_and,Bool.true_and,a0,a1,a2,a3,a4,a5,a6,a7,a8,simprocAttr];exact Ends.pureE rfl rfl
 have w1:IntKind.i64.wrap (ofs+(pt.length:Int))=ofs+(pt.length:Int):=by
  have:=of_decide_eq_true a6;have:=of_decide_eq_true a7;have:=of_decide_eq_true a8;have:=of_decide_eq_true a3;exact wrapL (by omega) (by omega)
 cases a9:decide (ofs+(pt.length:Int)<=ln)
 ·simp only [go_sem,w1,Bool.false_and,Bool.true_and,a0,a1,a2,a3,a4,a5,a6,a7,a8,a9,simprocAttr];exact Ends.pureE rfl rfl
 simp only [go_sem,w1,Bool.false_and,Bool.true_and,a0,a1,a2,a3,a4,a5,a6,a7,a8,a9,simprocAttr];exact Ends.pureE rfl rfl
def k52:Ct
 |[.agg c],_,n=>(pc5 c).bind fun p=>some (true,{v:= .b (refW p),n})
 |_,_,_=>none
theorem s52:SoundAt Tryz.prog 52 k52:=fun args h n c E hc ht=>by
 unfold k52 at hc;split at hc
 ·simp only [Option.bind_eq_some_iff] at hc;obtain ⟨p,hp,he⟩:=hc;cases he;rw [pc5_eq hp];exact CallOK.pure (by kernel_rfl) rfl rfl (w52 p) _ _
 ·cases hc
def octB (p:Pc):Bool:=pcB p&&(decide (p.kd<=9223372036854775807)&&(decide (p.ln<=9223372036854775807)&&(decide (p.sq<=9223372036854775807)&&decide (p.ofs<=9223372036854775807))))
def TR2:List (Nat×Ct):=[(96,k96)]
theorem hTR2:Sound Tryz.prog (cxT TR2):=Sound.cons s96 Sound.nil
theorem w77 (p:Pc) (hp:octB p=true):FTL Tryz.prog 77 [.agg p.l] [] 0 (.s (pcO p)) [] 0:=by
 simp only [octB,Bool.and_eq_true,decide_eq_true_eq] at hp;obtain ⟨hp,g1,g2,g3,g4⟩:=hp;obtain ⟨h1,h2,h3,h4,h5⟩:=pcB_t hp;have kp: ∀{a k:Int} (ha:0<=a) (hb:a<=9223372036854775807) (hk:1<=k/\k<=3) (h:Hp) (n:Nat),k96 [.i .i64 a,.i .i64 k] h n=some (true,{v:= .s (fld a.toNat k.toNat),n}):=fun {a k} ha hb hk h n=>by
  simp only [k96,decide_eq_true (show 0<=a/\a<=9223372036854775807/\1<=k/\k<=3 from ⟨ha,hb,hk⟩)]
 have f1:=fun h n=>kp h1 g1 (k:=1) (by decide) h n
 have f2:=fun h n=>kp h2 g2 (k:=3) (by decide) h n
 have f3:=fun h n=>kp h3 g3 (k:=2) (by decide) h n
 have f4:=fun h n=>kp h4 g4 (k:=3) (by decide) h n
 have f5:=fun h n=>kp (a:=(p.pt.length:Int)) (by omega) (by omega) (k:=3) (by decide) h n
 simp only [Int.reduceToNat,Int.toNat_natCast] at f1 f2 f3 f4 f5;have hO:pcO p=fld p.kd.toNat 1++fld p.ln.toNat 3++fld p.sq.toNat 2++fld p.ofs.toNat 3++fld p.pt.length 3++p.pt:=rfl;have L1:=fld_len p.kd.toNat 1;have L2:=fld_len p.ln.toNat 3;have L3:=fld_len p.sq.toNat 2;have L4:=fld_len p.ofs.toNat 3;have L5:=fld_len p.pt.length 3;rw [hO];obtain ⟨kd,ln,sq,ofs,pt⟩:=p;dsimp only at*;have lp:decide (1+3+2+3+3+pt.length<=9223372036854775807)=true:=decide_eq_true (by omega)
 have lp2:decide (12+pt.length<=9223372036854775807)=true:=decide_eq_true (by omega)
 generalize fld kd.toNat 1=o1 at*;generalize fld ln.toNat 3=o2 at*;generalize fld sq.toNat 2=o3 at*;generalize fld ofs.toNat 3=o4 at*;generalize fld pt.length 3=o5 at*;refine FTL.of_iw hTR2 mo Tryz.func77 i77_eq (by simp [i77]) (iw_of_jw ?_)
 dsimp only [i77,TR2];simp only [go_sem,Pc.l,f1,f2,f3,f4,f5,L1,L2,L3,L4,L5,lp,lp2,List.length_append,simprocAttr];exact Ends.pureE rfl (by simp only [List.append_assoc])
def k77:Ct
 |[.agg c],_,n=>(pc5 c).bind fun p=>some (octB p,{v:= .s (pcO p),n})
 |_,_,_=>none
theorem s77:SoundAt Tryz.prog 77 k77:=fun args h n c E hc ht=>by
 unfold k77 at hc;split at hc
 ·simp only [Option.bind_eq_some_iff] at hc;obtain ⟨p,hp,he⟩:=hc;cases he;rw [pc5_eq hp];exact CallOK.pure (by kernel_rfl) rfl rfl (w77 p ht) _ _
 ·cases hc
end Go.Proofs.Flz
