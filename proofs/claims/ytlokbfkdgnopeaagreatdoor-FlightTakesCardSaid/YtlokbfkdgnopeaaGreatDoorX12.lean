/- The law FlightTakes. -/
import Derived.Test.YtlokbfkdgnopeaaGreatDoorX11
set_option maxRecDepth 100000
set_option maxHeartbeats 4000000
set_option linter.unusedSimpArgs false
set_option linter.unusedVariables false
namespace Go.Proofs.Flz
open Go.Ab Go.Proofs.Flt
theorem giveS_bnd: ∀{l:List Flt.Hf} {nx:Int},(giveS nx l).1.hs.length<=l.length/\(∀x∈(giveS nx l).1.hs,x∈l)/\(giveS nx l).2.length<=l.length
 |[],nx=>⟨Nat.le_refl _,fun x h=>h,Nat.le_refl _⟩
 |h::r,nx=>by
  obtain ⟨h1,h2,h3⟩:=giveS_bnd (l:=r) (nx:=nx+1);unfold giveS;cases (h.sq==nx)&&doneB h
  ·exact ⟨Nat.le_refl _,fun x h=>h,Nat.zero_le _⟩
  ·exact ⟨Nat.le_succ_of_le h1,fun x hx=>List.mem_cons_of_mem _ (h2 x hx),Nat.succ_le_succ h3⟩
def bndT (r:Jn×List Nt×Int):Prop:=r.1.hs.length<=1000/\(∀x∈r.1.hs,x.got.length<=4000)/\r.2.1.length<=1000
theorem inF_mem {s:Int} {h:Flt.Hf}: ∀{l:List Flt.Hf} {x:Flt.Hf},x∈inF s h l->x=h\/x∈l
 |[],x,hx=>by simp [inF] at hx;exact .inl hx
 |y::r,x,hx=>by
  unfold inF at hx;split at hx
  ·rcases List.mem_cons.1 hx with rfl|hx
   ·exact .inr List.mem_cons_self
   ·rcases inF_mem hx with h|h
    ·exact .inl h
    ·exact .inr (List.mem_cons_of_mem _ h)
  ·split at hx
   ·rcases List.mem_cons.1 hx with rfl|hx
    ·exact .inl rfl
    ·exact .inr (List.mem_cons_of_mem _ hx)
   ·rcases List.mem_cons.1 hx with rfl|hx
    ·exact .inl rfl
    ·exact .inr hx
theorem take_bnd (j:Jn) (s:List UInt8):bndT (takeS j s):=by
 have hz: ∀e:Int,bndT (zJn,[],e):=fun e=>⟨Nat.zero_le _,(fun x hx=>by cases hx),Nat.zero_le _⟩
 obtain ⟨nx,hs⟩:=j;rw [takeS_mid];split
 ·rename_i hj;split
  ·rename_i hr;have hp:=readS_rp hr;generalize (readS s).1=p at*;simp only [jnB,Bool.and_eq_true] at hj;obtain ⟨hnx,hhs⟩:=hj;have hnx:=inW_t hnx;have hlen:hs.length<=4:=by
    have:=hsB_len (lo:=nx) hhs (fun _=>rfl) (fun e h=>by cases h) (by omega)
    omega
   have hall:=hsB_all hhs;have hasc:=(hsB_asc hhs).1;have hE: ∀x∈hs,OkE x:=fun x hx=>okE_half (hall x hx).2.2;have hfb:filB (skF p.sq (newH p) hs) p=true:=by
    rcases skF_mem (s:=p.sq) (l:=hs) (d:=newH p) with e|⟨e,_⟩
    ·rw [e];exact fil_new hp
    ·exact fil_old hp (hall _ e).2.2
   unfold midR;split
   ·exact ⟨by show hs.length<=1000;omega,fun x hx=>(hE x hx).got,Nat.zero_le _⟩
   ·split
    ·exact hz _
    ·rw [put_sk p hasc];cases hf:fillS (skF p.sq (newH p) hs) p with
     |none=>exact hz _
     |some h2=>
      have hkl:(skF p.sq (newH p) hs).kd=p.kd/\(skF p.sq (newH p) hs).ln=p.ln:=by
       unfold fillS at hf;revert hf;cases h1:((skF p.sq (newH p) hs).kd==p.kd)<;>cases h3:((skF p.sq (newH p) hs).ln==p.ln)
       ·intro h;cases h
       ·intro h;cases h
       ·intro h;cases h
       ·intro _;exact ⟨beq_iff_eq.1 h1,beq_iff_eq.1 h3⟩
      have ok2:=(fill_okE hfb hkl.1 hkl.2 hf).1;have hl:=inF_len (s:=p.sq) (h:=h2) (l:=hs);obtain ⟨g1,g2,g3⟩:=giveS_bnd (l:=inF p.sq h2 hs) (nx:=nx);refine ⟨Nat.le_trans g1 (by omega),fun x hx=> ?_,Nat.le_trans g3 (by omega)⟩
      rcases inF_mem (g2 x hx) with rfl|h
      ·exact ok2.got
      ·exact (hE x h).got
  ·exact hz _
 ·exact hz _
theorem bnS_F (wh at_ kk oc:Nat) (n:Int) {j:Jn} (hj:jnB j=true):jnF (bnS wh at_ kk oc n j)=true:=by
 obtain ⟨h1,h2⟩:=jnB_bnd hj;have h2: ∀x∈j.hs,x.got.length<=4001/\x.bd.length<=4000:=fun x hx=>by have:=h2 x hx;omega
 have key: ∀(m:Int) (l:List Flt.Hf),l.length<=9->(∀x∈l,x.got.length<=4002/\x.bd.length<=4000)->jnF ⟨m,l⟩=true:=fun m l hl hx=>by
  simp only [jnF,Bool.and_eq_true,decide_eq_true_eq,List.all_eq_true];refine ⟨by omega,fun x h=> ?_⟩
  have:=hx x h;simp only [hfF,Bool.and_eq_true,decide_eq_true_eq];omega
 have h3: ∀x∈j.hs,x.got.length<=4002/\x.bd.length<=4000:=fun x hx=>by have:=h2 x hx;omega
 unfold bnS;split
 ·exact key _ _ (by omega) h3
 ·split
  ·exact key _ _ (by omega) h3
  ·rename_i x hx;have hm:=h2 x (List.mem_of_getElem? hx);split
   ·refine key _ _ (by rw [List.length_append];simp only [List.length_cons,List.length_nil];omega) (fun y hy=> ?_)
    rcases List.mem_append.1 hy with h|h
    ·exact h3 y h
    ·rw [List.mem_singleton.1 h];omega
   ·refine key _ _ (by simp only [List.length_append,List.length_take,List.length_drop,List.length_cons,List.length_nil];omega) (fun y hy=> ?_)
    rcases List.mem_append.1 hy with h|h
    ·rcases List.mem_append.1 h with h|h
     ·exact h3 y (List.mem_of_mem_take h)
     ·rw [List.mem_singleton.1 h];unfold bnH;repeat' split
      all_goals first
       |(dsimp only;omega)
       |omega
       |(simp only [List.length_set];omega)
       |(simp only [List.length_append,List.length_take,List.length_drop,List.length_cons,List.length_nil];omega)
       |skip
    ·exact h3 y (List.mem_of_mem_drop h)
noncomputable def TL4:List (Nat×Ct):=[(17,k17),(20,k20),(21,k21),(22,k22),(23,k23n),(24,k24),(25,k25),(26,k26)]
theorem hTL4:Sound Tryz.prog (cxT TL4):=Sound.cons s17<|Sound.cons s20<|Sound.cons s21<|Sound.cons s22<|Sound.cons s23n<|Sound.cons s24<|Sound.cons s25<|Sound.cons s26 Sound.nil
noncomputable abbrev F4:Fx:=⟨Tryz.prog,cxT TL4,[85,91,95,126],130,0⟩
theorem jnN_a (j:Jn):jnN j.a=some j:=by
 have:unrows 5 hf5 j.hs.length (rows Flt.Hf.l j.hs)=some j.hs:=unrows_rows Flt.Hf.len hf5_l j.hs;simp only [jnN,Jn.a,this,Option.map_some]
theorem rest4 (wh at_ kk oc:Nat) (n:Int) (hkk:kk<256) (hoc:oc<256) (hat:at_<256) (j1:Jn) (hj:jnB j1=true) (P:List (List UInt8)) (hP:P.length<=100000) (hPl: ∀s∈P,s.length<=9223372036854775807):
 Seam F4 (.seq (.seq (.dreg i4r5) (.block 0 (.loop i4l20))) (.seq (.reg i4r21) .ret)) (retK [.t 12] fun v h' n'=>CovS 0 v h' n' (.b true) [] 0) [(10,.p 1 0),(13,.p 2 0),(16,.fz (rows st1 P) P.length)]
  [(1,{cells:=bnA wh at_ kk oc n}),(2,{cells:=j1.a})] 20:=by
 obtain ⟨j2,hj2⟩: ∃j2,j2=bnS wh at_ kk oc n j1:=⟨_,rfl⟩;have hF1:=jF_ok hj;have hF2:jnF j2=true:=by rw [hj2];exact bnS_F _ _ _ _ _ hj
 have q20: ∀(h:Hp) m,k20 [.agg (bnA wh at_ kk oc n),.agg j1.a] h m=some (true,{v:= .agg j2.a,n:=m}):=fun h m=>by
  have hb:=jnB_bnd hj;have hB:jnB j1=(inW j1.nx 65536&&hsB j1.nx none j1.hs):=rfl;rw [hB,Bool.and_eq_true] at hj;have hall:=hsB_all hj.2;have c:(j1.hs.all fun x=>decide (x.got.length<=4000)&&decide (x.bd.length<=9223372036854775807))=true:=List.all_eq_true.2 (fun x hx=>by
   have h1:=half_got (hall x hx).2.2;have h2:=(hb.2 x hx).2;rw [Bool.and_eq_true,decide_eq_true_eq,decide_eq_true_eq];omega)
  have c2:decide (j1.hs.length<=1000)=true:=decide_eq_true (by omega)
  simp only [k20,bn5_A hat hkk hoc,jnN_a,Option.bind_some,c,c2,Bool.and_self,<-hj2]
 obtain ⟨AR,hAR⟩: ∃AR,AR=j1.a++j2.a:=⟨_,rfl⟩;obtain ⟨X,hX⟩: ∃X:Nat->Jn,X=fun k=>if k=0 then j1 else j2:=⟨_,rfl⟩
 have hARk: ∀k,k<2->List.take 2 (List.drop (k*2) AR)=(X k).a:=fun k hk=>by
  obtain rfl|rfl:k=0\/k=1:=by omega
  ·rw [hAR,hX];rfl
  ·rw [hAR,hX];rfl
 have hXF: ∀k,jnF (X k)=true:=fun k=>by rw [hX];dsimp only;split;exact hF1;exact hF2
 have hARl:AR.length=4:=by rw [hAR];rfl
 have hARb: ∀j,belL j AR=true:=fun j=>by rw [hAR,belL_append];rw [belL_mono0 _ (Jn.bel j1),belL_mono0 _ (Jn.bel j2)];rfl
 have hbl: ∀v1 v2 v3 v4:AV,[AV.i .i64 j1.nx,.fz (rows Flt.Hf.l j1.hs) j1.hs.length,.i .i64 j2.nx,.fz (rows Flt.Hf.l j2.hs) j2.hs.length]=AR:=fun _ _ _ _=>by rw [hAR];rfl
 have hbl:=hbl .np .np .np .np;have e1:j1.a=[AV.i .i64 j1.nx,.fz (rows Flt.Hf.l j1.hs) j1.hs.length]:=rfl;have e2:j2.a=[AV.i .i64 j2.nx,.fz (rows Flt.Hf.l j2.hs) j2.hs.length]:=rfl;have b1:=fun j=>hrB j j1.hs;have b2:=fun j=>hrB j j2.hs;rw [e1,e2] at q20;rw [e1];clear hX hAR hF1 hF2 hj2 hj;have hbn:bnA wh at_ kk oc n=[.i .u8 (wh:Int),.i .u8 (at_:Int),.i .u8 (kk:Int),.i .i64 n,.i .u8 (oc:Int)]:=rfl;rw [hbn] at q20 ⊢;have pb:=fun j=>stB j P;have pg:=fun (k:Nat) s (h:P[k]? =some s)=>st_get3 h;refine Seam.part (F:=F4) hTL4 mo ?_;dsimp only [F4,TL4];simp only [go_sem,q20,hbl,AV.bel,belL,nblt,b1,b2,simprocAttr];refine Loop.stepK (F:=F4) (X:=Nat) (fun k=>k<=2) (fun k=>2-k) (fun k=>[(16,.fz (rows st1 P) P.length),(83,.agg AR),(84,.i .i64 (k:Int))]) (fun k=>[]) 0 0 (fun k=>k+1) (by decide) (by decide) ?_ ?_ (fun k hk=> ?_)
 ·simp only [go_sem,Int.natCast_zero,AV.bel,belL,nblt,pb,hARb,simprocAttr]
 ·simp only [go_sem,AV.bel,belL,nblt,simprocAttr]
 have hk:k<=2:=hk;refine Seam.part (F:=F4) hTL4 mo ?_;dsimp only [F4,TL4];by_cases hlt:k<2
 rotate_left
 ·obtain rfl:k=2:=by omega
  simp only [go_sem,simprocAttr];refine Seam.part (F:=F4) hTL4 mo ?_;dsimp only [F4,TL4];simp only [go_sem,simprocAttr];refine Seam.run (F:=F4) hTL4 mo ?_;dsimp only [F4,TL4];simp only [go_sem,k17,simprocAttr];exact CovS.ends (Ends.pureE rfl rfl)
 have c1:decide ((k:Int)<2)=true:=decide_eq_true (by omega)
 have c2:decide (0<=(k:Int)/\(k:Int)<2)=true:=decide_eq_true (by omega)
 have wk:IntKind.i64.wrap ((k:Int)+1)=((k+1:Nat):Int):=by rw [wrapL (by omega) (by omega)];omega
 have ha:=hARk k hlt;have hF:=hXF k;have hst:k+1<=2/\2-(k+1)<2-k:=⟨by omega,by omega⟩
 generalize X k=x at*;have xb: ∀j,belL j x.a=true:=fun j=>belL_mono0 _ (Jn.bel x);have q21: ∀(h:Hp) n,k21 [.agg x.a] h n=some (true,{v:= .i .i64 (if jnB x then 0 else 191),n}):=fun h n=>by simp only [k21,jn2_a,Option.bind_some,hF]
 have q22: ∀(h:Hp) n,k22 [.agg x.a] h n=some (true,{v:= .i .i64 (if jnB x then 0 else 191),n}):=fun h n=>by simp only [k22,jn2_a,Option.bind_some,hF]
 generalize (if jnB x then (0:Int) else 191)=cv at*
 have ne:(cv !=cv)=false:=bne_self_eq_false cv;have q23: ∀(s:List UInt8),s.length<=9223372036854775807-> ∀(h:Hp) n,k23n [.agg x.a,.s s] h n=some (true,{v:=tkR (takeS x s),n}):=fun s hs h n=>by
  simp only [k23n,jnN_a,Option.bind_some,hF,decide_eq_true hs,Bool.and_self]
 have q24: ∀(s:List UInt8),s.length<=9223372036854775807-> ∀(h:Hp) n,k24 [.agg x.a,.s s] h n=some (true,{v:=tkR (takeS x s),n}):=fun s hs h n=>by
  simp only [k24,jnN_a,Option.bind_some,hF,decide_eq_true hs,Bool.and_self]
 have xl:x.a.length=2:=rfl;have xo:oneAll x.a=true:=rfl;have xt:List.take 2 x.a=x.a:=rfl;have htb:=take_bnd x;generalize takeS x=TX at*;generalize x.a=XA at*;simp only [go_sem,c1,simprocAttr];refine Seam.part (F:=F4) hTL4 mo ?_;dsimp only [F4,TL4];simp only [go_sem,simprocAttr];refine Seam.part (F:=F4) hTL4 mo ?_;dsimp only [F4,TL4];have c3:decide (k*2+2<=AR.length)=true:=decide_eq_true (by rw [hARl];omega)
 simp only [go_sem,ha,c2,c3,q21,q22,ne,xl,xo,xt,List.drop_zero,AV.bel,belL,nblt,xb,simprocAttr];refine Loop.countI (F:=F4) hTL4 mo P.length (fun _=>True) (fun i=>[(16,.fz (rows st1 P) P.length),(18,.p 0 0),(83,.agg AR),(84,.i .i64 (k:Int)),(92,.fz (rows st1 P) P.length),(93,.i .i64 (P.length:Int)),(94,.i .i64 (i:Int))]) (fun _=>[(0,{cells:=XA})]) 1 (by decide) trivial ?_ ?_ (fun i hi _=> ?_)
 ·simp only [go_sem,Int.natCast_zero,AV.bel,belL,nblt,pb,hARb,simprocAttr]
 ·simp only [go_sem,AV.bel,belL,nblt,xb,simprocAttr]
 dsimp only [F4,TL4];by_cases hli:i<P.length
 rotate_left
 ·obtain rfl:i=P.length:=by omega
  have d1:decide ((P.length:Int)<(P.length:Int))=false:=decide_eq_false (by omega)
  simp only [go_sem,d1,simprocAttr];refine Seam.run (F:=F4) hTL4 mo ?_;dsimp only [F4,TL4];simp only [go_sem,wk,AV.bel,belL,nblt,pb,hARb,simprocAttr];exact ⟨by omega,by omega⟩
 have d1:decide ((i:Int)<(P.length:Int))=true:=decide_eq_true (by omega)
 have d2:decide (0<=(i:Int)/\(i:Int)<(P.length:Int))=true:=decide_eq_true (by omega)
 have wi:IntKind.i64.wrap ((i:Int)+1)=((i+1:Nat):Int):=by rw [wrapL (by omega) (by omega)];omega
 obtain ⟨s,hs⟩: ∃s,P[i]? =some s:=⟨_,List.getElem?_eq_getElem hli⟩;have hr:=pg i s hs;have hsl:=hPl s (List.mem_of_getElem? hs);have q23:=q23 s hsl;have q24:=q24 s hsl;have hb:=htb s;generalize TX s=T at q23 q24 hb;obtain ⟨rj,rn,re⟩:=T;obtain ⟨h1,h2,h3⟩:=hb;have h1:rj.hs.length<=1000:=h1;have h2: ∀x∈rj.hs,x.got.length<=4000:=h2;have h3:rn.length<=1000:=h3;simp only [tkR] at q23 q24;have ne2:(re !=re)=false:=bne_self_eq_false re;have q25: ∀(h:Hp) n,k25 [.agg rj.a,.agg rj.a] h n=some (true,{v:= .b true,n}):=fun h n=>by
  have g1:decide (rj.hs.length<=1000000)=true:=decide_eq_true (by omega)
  have g2:(rj.hs.all fun h=>decide (h.got.length<=1000000))=true:=List.all_eq_true.2 (fun x hx=>decide_eq_true (by have:=h2 x hx;omega))
  simp only [k25,jnN_a,Option.bind_some,Jn.eqB_refl,g1,g2,Bool.and_self]
 have q26: ∀(h:Hp) n,k26 [.fz (rows Nt.l rn) rn.length,.fz (rows Nt.l rn) rn.length] h n=some (true,{v:= .b true,n}):=fun h n=>by
  have hu:unrows 3 nt3 rn.length (rows Nt.l rn)=some rn:=unrows_rows Nt.len nt3_l rn;have hc:cellsAt (rows Nt.l rn) 0 (rn.length*3)=rows Nt.l rn:=by
   show List.take _ (List.drop 0 _)=_;rw [List.drop_zero,List.take_of_length_le (by rw [rows_len (f:=Nt.l) Nt.len];exact Nat.le_refl _)]
  have hd:decide ((rows Nt.l rn).length=rn.length*3)=true:=decide_eq_true (rows_len Nt.len);have b1:decide (rn.length<=1000000)=true:=decide_eq_true (by omega)
  simp only [k26,hu,Option.bind_some,vwK,hc,hd,eqL_refl Nt.eqB_refl,b1,Bool.and_self]
 have ra:rj.a.length=2:=rfl;have rb: ∀k,belL k rj.a=true:=fun k=>belL_mono0 _ (Jn.bel _);have ro:oneAll rj.a=true:=rfl;have rt:List.take 2 rj.a=rj.a:=rfl;have nb:=fun j=>nrB j rn;generalize rj.a=RA at*;generalize rows Nt.l rn=RN at*;simp only [go_sem,d1,d2,hr,wi,q23,q24,q25,q26,ne2,xl,xo,xt,ra,ro,rt,Nat.mul_one,List.drop_zero,AV.bel,belL,nblt,pb,hARb,xb,rb,nb,simprocAttr];exact hli
noncomputable def TL4a (k18:Ct):List (Nat×Ct):=[(18,k18)]
noncomputable abbrev F4a (k18:Ct):Fx:=⟨Tryz.prog,cxT (TL4a k18),[85,91,95,126],130,0⟩
def oth:List (List UInt8):=[[1,2,3],[],[0],[9,9]]
noncomputable def TL4b (k9 k19:Ct):List (Nat×Ct):=[(9,k9),(19,k19)]
noncomputable abbrev F4b (k9 k19:Ct):Fx:=⟨Tryz.prog,cxT (TL4b k9 k19),[85,91,95,126],130,0⟩
theorem w4 (d:Dr) (hd:d.ok=true) (sz od:List UInt8) (stp:Nat) (hs:stp<256) (wh at_ kk oc:Nat) (n:Int) (hkk:kk<256) (hoc:oc<256) (hat:at_<256) (raw:List UInt8) (hsz:sz.length<=9223372036854775807) (hod:od.length<=9223372036854775807) (hraw:raw.length<=9223372036854775807):
 FTL Tryz.prog 4 [.agg d.a,.fz (rows u81 sz) sz.length,.fz (rows u81 od) od.length,.i .u8 stp,.agg (bnA wh at_ kk oc n),.s raw] [] 0 (.b true) [] 0:=by
 have hcut:=notes_cuts hd (sz.take 5);have hd2:=hd;simp only [Dr.ok,Bool.and_eq_true,decide_eq_true_eq] at hd2;obtain ⟨z,hz1,hz2,hz3⟩: ∃z:Nat,min (sz.length:Int) 5=(z:Int)/\z<=sz.length/\z=min 5 sz.length:=⟨min 5 sz.length,by omega,by omega,rfl⟩
 obtain ⟨y,hy1,hy2,hy3⟩: ∃y:Nat,min (od.length:Int) 40=(y:Int)/\y<=od.length/\y=min 40 od.length:=⟨min 40 od.length,by omega,by omega,rfl⟩
 have hzt:(sz.take 5).length=z:=by rw [List.length_take,hz3]
 have hyt:(od.take 40).length=y:=by rw [List.length_take,hy3]
 obtain ⟨L,hL⟩: ∃L,L=mixS (notesS d) (sz.take 5) (od.take 40):=⟨_,rfl⟩;have hway:=fun i=>way (sz.take 5) (od.take 40) hcut hL (i:=i);obtain ⟨κ,hκ⟩: ∃κ,κ=stp % (L.length+1):=⟨_,rfl⟩;have hκl:κ<=L.length:=by have:=Nat.mod_lt stp (show 0<L.length+1 by omega);omega
 have v18:=w18 d hd (sz.take 5) (od.take 40) stp hs (by omega) (by omega) hL hκ
 rw [hzt,hyt] at v18;have v18:FTL Tryz.prog 18 [.agg d.a,.fz (rows u81 sz) z,.fz (rows u81 od) y,.i .u8 stp] [] 0 (.tup [.agg (JJ d.fi L κ).a,.fz (rows st1 (L.drop κ)) (L.drop κ).length]) [] 0:=
  FTL.wka (xs:=[.agg d.a,.fz (rows u81 sz) z,.fz (rows u81 od) y,.i .u8 stp]) (ys:=[.agg d.a,.fz (rows u81 (sz.take 5)) z,.fz (rows u81 (od.take 40)) y,.i .u8 stp]) ⟨Wka.refl _,by rw [<-u8_take];exact Wka.take _ _ _,by rw [<-u8_take];exact Wka.take _ _ _,Wka.refl _,trivial⟩ v18
 have hjj:=(hway κ hκl).1;have hRl: ∀s∈L.drop κ,s.length<=9223372036854775807:=fun s hs=>by
  obtain ⟨i,hi⟩:=List.getElem?_of_mem (List.mem_of_mem_drop hs);have hlt:=(List.getElem?_eq_some_iff.1 hi).1;have hg:L.getD i []=s:=by simp only [List.getD_eq_getElem?_getD,hi,Option.getD_some]
  have:=take_len ((hway L.length (Nat.le_refl _)).2.1 i hlt);rw [hg] at this;omega
 have hLl:L.length<=40000:=by rw [hL];exact mixS_len _ _ (notes_len d) hcut.ok
 have hRn:(L.drop κ).length<=40000:=by rw [List.length_drop];omega
 generalize JJ d.fi L κ=j1 at*;generalize L.drop κ=RS at*;clear hway hκ hcut hL hκl hLl
 -- the other draft
 obtain ⟨d2,hdd⟩: ∃d2:Dr,d2=⟨d.fi,d.ki,oth⟩:=⟨_,rfl⟩;have hd2o:d2.ok=true:=by
  rw [hdd];simp only [Dr.ok,Bool.and_eq_true,decide_eq_true_eq];exact ⟨⟨hd2.1.1,hd2.1.2.1,hd2.1.2.2.1,by decide⟩,by decide⟩
 have v9:=w9 d2 hd2o;have hcut2:=notes_cuts hd2o (od.take 2);have hnl2:=notes_len d2;have hd2a:d2.a=[.i .u16 d.fi,.fz (rows u81 d.ki) d.ki.length,.fz (rows bd1 oth) 4]:=by rw [hdd];rfl
 rw [hd2a] at v9;obtain ⟨a,ha1,ha2,ha3⟩: ∃a:Nat,min (od.length:Int) 2=(a:Int)/\a<=od.length/\a=min 2 od.length:=⟨min 2 od.length,by omega,by omega,rfl⟩
 obtain ⟨b,hb1,hb2,hb3⟩: ∃b:Nat,min (sz.length:Int) 3=(b:Int)/\b<=sz.length/\b=min 3 sz.length:=⟨min 3 sz.length,by omega,by omega,rfl⟩
 have hat2:(od.take 2).length=a:=by rw [List.length_take,ha3]
 have hbt:(sz.take 3).length=b:=by rw [List.length_take,hb3]
 have hok2:=hcut2.ok;have hMs0: ∀s∈mixS (notesS d2) (od.take 2) (sz.take 3),s.length<=9223372036854775807:=fun s hs=>by
  have hway:=fun i=>way (od.take 2) (sz.take 3) hcut2 rfl (i:=i);obtain ⟨i,hi⟩:=List.getElem?_of_mem hs;have hlt:=(List.getElem?_eq_some_iff.1 hi).1;have hg:(mixS (notesS d2) (od.take 2) (sz.take 3)).getD i []=s:=by simp only [List.getD_eq_getElem?_getD,hi,Option.getD_some]
  have:=take_len ((hway _ (Nat.le_refl _)).2.1 i hlt);rw [hg] at this;omega
 generalize notesS d2=NS at*;clear hcut2 hd2o hd2a hdd;have nb:=fun j=>nt_B j NS;have zb:=fun j=>u8B j sz;have yb:=fun j=>u8B j od;have rsb:=fun j=>stB j RS;have hda: ∀j,belL j d.a=true:=fun j=>belL_mono0 _ d.bel;have kb:=fun j=>u8B j d.ki;have ob:=fun j=>bdB j oth;have jb: ∀j,belL j j1.a=true:=fun j=>belL_mono0 _ (Jn.bel j1);have s18:SoundAt Tryz.prog 18 (kP [.agg d.a,.fz (rows u81 sz) z,.fz (rows u81 od) y,.i .u8 stp] (.tup [.agg j1.a,.fz (rows st1 RS) RS.length])):=kP_sound (by kernel_rfl) (by simp only [belL,AV.bel,hda,zb,yb,Bool.and_self]) (by simp only [AV.bel,belL,jb,rsb,Bool.and_self]) v18
 have q18: ∀(h:Hp) n,kP [.agg d.a,.fz (rows u81 sz) z,.fz (rows u81 od) y,.i .u8 stp] (.tup [.agg j1.a,.fz (rows st1 RS) RS.length]) [.agg d.a,.fz (rows u81 sz) z,.fz (rows u81 od) y,.i .u8 stp] h n=some (true,{v:= .tup [.agg j1.a,.fz (rows st1 RS) RS.length],n}):=fun h n=>kP_at h n;generalize kP [.agg d.a,.fz (rows u81 sz) z,.fz (rows u81 od) y,.i .u8 stp] (.tup [.agg j1.a,.fz (rows st1 RS) RS.length])=kk18 at*;have hT:Sound Tryz.prog (cxT (TL4a kk18)):=Sound.cons s18 Sound.nil;clear v18 s18;have c1:decide (0<=(z:Int)/\(z:Int)<=(sz.length:Int))=true:=decide_eq_true (by omega)
 have c2:decide (0<=(y:Int)/\(y:Int)<=(od.length:Int))=true:=decide_eq_true (by omega)
 have hd0:d.a=[.i .u16 d.fi,.fz (rows u81 d.ki) d.ki.length,.fz (rows bd1 d.bo) d.bo.length]:=rfl;have dob:=fun j=>bdB j d.bo;rw [hd0] at q18 ⊢;have hbn:bnA wh at_ kk oc n=[.i .u8 (wh:Int),.i .u8 (at_:Int),.i .u8 (kk:Int),.i .i64 n,.i .u8 (oc:Int)]:=rfl;have r4:=rest4 wh at_ kk oc n hkk hoc hat j1 hjj;rw [hbn] at r4 ⊢;have e1:j1.a=[AV.i .i64 j1.nx,.fz (rows Flt.Hf.l j1.hs) j1.hs.length]:=rfl;have hjb:=fun j=>hrB j j1.hs;rw [e1] at q18 r4;refine FTL.of_seamC (cx:=cxT (TL4a kk18)) Tryz.func4 i4_eq (by simp [i4]) ?_
 dsimp only [i4];refine Seam.part (F:=F4a kk18) hT mo ?_;dsimp only [F4a,TL4a];simp only [go_sem,AV.bel,belL,nblt,kb,dob,simprocAttr];refine Seam.part (F:=F4a kk18) hT mo ?_;dsimp only [F4a,TL4a];simp only [go_sem,hz1,hy1,c1,c2,q18,AV.bel,belL,nblt,kb,dob,hjb,simprocAttr];refine Seam.part (F:=F4a kk18) hT mo ?_;dsimp only [F4a,TL4a];simp only [go_sem,AV.bel,belL,nblt,kb,dob,hjb,simprocAttr];have ob6:rows bd1 oth=[.fz (rows u81 [1,2,3]) 3,.fz [] 0,.fz (rows u81 [0]) 1,.fz (rows u81 [9,9]) 2]:=rfl;refine Seam.wk (F:=F4a kk18) (e2:=[(1,.fz (rows u81 sz) sz.length),(2,.fz (rows u81 od) od.length),(5,.s raw),(10,.p 1 0),(13,.p 2 0),(14,.fz (rows st1 RS) RS.length),(15,.p 7 0)]) (h2:=[(7,{cells:=[.i .u16 d.fi,.fz (rows u81 d.ki) d.ki.length,.sl 6 0 4 4]}),(6,{cells:=[.sl 3 0 3 3,.fz [] 0,.sl 4 0 1 1,.sl 5 0 2 2]}),(5,{cells:=[.i .u8 9,.i .u8 9]}),(4,{cells:=[.i .u8 0]}),(3,{cells:=[.i .u8 1,.i .u8 2,.i .u8 3]}),(2,{cells:=[.i .i64 j1.nx,.fz (rows Flt.Hf.l j1.hs) j1.hs.length]}),(1,{cells:=[.i .u8 (wh:Int),.i .u8 (at_:Int),.i .u8 (kk:Int),.i .i64 n,.i .u8 (oc:Int)]})]) ?_ ⟨⟨_,rfl,Wka.refl _⟩,⟨_,rfl,Wka.refl _⟩,⟨_,rfl,Wka.refl _⟩,⟨_,rfl,Wka.refl _⟩,⟨_,rfl,Wka.refl _⟩,⟨_,rfl,Wka.refl _⟩,⟨_,rfl,Wka.refl _⟩,trivial⟩ ⟨⟨_,rfl,rfl,rfl,rfl,WkaL.refl _⟩,⟨_,rfl,rfl,rfl,rfl,Wka.refl _,Wka.ns,Wka.refl _,Wka.refl _,trivial⟩,⟨_,rfl,rfl,rfl,rfl,WkaL.refl _⟩,⟨_,rfl,rfl,rfl,rfl,WkaL.refl _⟩,⟨_,rfl,rfl,rfl,rfl,WkaL.refl _⟩,⟨_,rfl,rfl,rfl,rfl,WkaL.refl _⟩,⟨_,rfl,rfl,rfl,rfl,WkaL.refl _⟩,trivial⟩;refine Seam.frz (F:=F4a kk18) (b:=3) (x:= .sl 3 0 3 3) (o:=0) (m:=3) (k:={cells:=[.i .u8 1,.i .u8 2,.i .u8 3]}) (cs:=rows u81 [1,2,3]) (e2:=[(1,.fz (rows u81 sz) sz.length),(2,.fz (rows u81 od) od.length),(5,.s raw),(10,.p 1 0),(13,.p 2 0),(14,.fz (rows st1 RS) RS.length),(15,.p 7 0)]) (h2:=[(7,{cells:=[.i .u16 d.fi,.fz (rows u81 d.ki) d.ki.length,.sl 6 0 4 4]}),(6,{cells:=[.fz (rows u81 [1,2,3]) 3,.fz [] 0,.sl 4 0 1 1,.sl 5 0 2 2]}),(5,{cells:=[.i .u8 9,.i .u8 9]}),(4,{cells:=[.i .u8 0]}),(2,{cells:=[.i .i64 j1.nx,.fz (rows Flt.Hf.l j1.hs) j1.hs.length]}),(1,{cells:=[.i .u8 (wh:Int),.i .u8 (at_:Int),.i .u8 (kk:Int),.i .i64 n,.i .u8 (oc:Int)]})]) ?_ rfl rfl (.inl ⟨3,rfl,Nat.le_refl _⟩) (.inl rfl) ⟨⟨_,rfl,FzV.refl⟩,⟨_,rfl,FzV.refl⟩,⟨_,rfl,FzV.refl⟩,⟨_,rfl,FzV.refl⟩,⟨_,rfl,FzV.refl⟩,⟨_,rfl,FzV.refl⟩,⟨_,rfl,FzV.refl⟩,trivial⟩ ⟨⟨by decide,_,rfl,rfl,rfl,rfl,FzVs.refl⟩,⟨by decide,_,rfl,rfl,rfl,rfl,FzV.hit,FzV.refl,FzV.refl,FzV.refl,trivial⟩,⟨by decide,_,rfl,rfl,rfl,rfl,FzVs.refl⟩,⟨by decide,_,rfl,rfl,rfl,rfl,FzVs.refl⟩,⟨by decide,_,rfl,rfl,rfl,rfl,FzVs.refl⟩,⟨by decide,_,rfl,rfl,rfl,rfl,FzVs.refl⟩,trivial⟩
 refine Seam.frz (F:=F4a kk18) (b:=4) (x:= .sl 4 0 1 1) (o:=0) (m:=1) (k:={cells:=[.i .u8 0]}) (cs:=rows u81 [0]) (e2:=[(1,.fz (rows u81 sz) sz.length),(2,.fz (rows u81 od) od.length),(5,.s raw),(10,.p 1 0),(13,.p 2 0),(14,.fz (rows st1 RS) RS.length),(15,.p 7 0)]) (h2:=[(7,{cells:=[.i .u16 d.fi,.fz (rows u81 d.ki) d.ki.length,.sl 6 0 4 4]}),(6,{cells:=[.fz (rows u81 [1,2,3]) 3,.fz [] 0,.fz (rows u81 [0]) 1,.sl 5 0 2 2]}),(5,{cells:=[.i .u8 9,.i .u8 9]}),(2,{cells:=[.i .i64 j1.nx,.fz (rows Flt.Hf.l j1.hs) j1.hs.length]}),(1,{cells:=[.i .u8 (wh:Int),.i .u8 (at_:Int),.i .u8 (kk:Int),.i .i64 n,.i .u8 (oc:Int)]})]) ?_ rfl rfl (.inl ⟨1,rfl,Nat.le_refl _⟩) (.inl rfl) ⟨⟨_,rfl,FzV.refl⟩,⟨_,rfl,FzV.refl⟩,⟨_,rfl,FzV.refl⟩,⟨_,rfl,FzV.refl⟩,⟨_,rfl,FzV.refl⟩,⟨_,rfl,FzV.refl⟩,⟨_,rfl,FzV.refl⟩,trivial⟩ ⟨⟨by decide,_,rfl,rfl,rfl,rfl,FzVs.refl⟩,⟨by decide,_,rfl,rfl,rfl,rfl,FzV.refl,FzV.refl,FzV.hit,FzV.refl,trivial⟩,⟨by decide,_,rfl,rfl,rfl,rfl,FzVs.refl⟩,⟨by decide,_,rfl,rfl,rfl,rfl,FzVs.refl⟩,⟨by decide,_,rfl,rfl,rfl,rfl,FzVs.refl⟩,trivial⟩
 refine Seam.frz (F:=F4a kk18) (b:=5) (x:= .sl 5 0 2 2) (o:=0) (m:=2) (k:={cells:=[.i .u8 9,.i .u8 9]}) (cs:=rows u81 [9,9]) (e2:=[(1,.fz (rows u81 sz) sz.length),(2,.fz (rows u81 od) od.length),(5,.s raw),(10,.p 1 0),(13,.p 2 0),(14,.fz (rows st1 RS) RS.length),(15,.p 7 0)]) (h2:=[(7,{cells:=[.i .u16 d.fi,.fz (rows u81 d.ki) d.ki.length,.sl 6 0 4 4]}),(6,{cells:=[.fz (rows u81 [1,2,3]) 3,.fz [] 0,.fz (rows u81 [0]) 1,.fz (rows u81 [9,9]) 2]}),(2,{cells:=[.i .i64 j1.nx,.fz (rows Flt.Hf.l j1.hs) j1.hs.length]}),(1,{cells:=[.i .u8 (wh:Int),.i .u8 (at_:Int),.i .u8 (kk:Int),.i .i64 n,.i .u8 (oc:Int)]})]) ?_ rfl rfl (.inl ⟨2,rfl,Nat.le_refl _⟩) (.inl rfl) ⟨⟨_,rfl,FzV.refl⟩,⟨_,rfl,FzV.refl⟩,⟨_,rfl,FzV.refl⟩,⟨_,rfl,FzV.refl⟩,⟨_,rfl,FzV.refl⟩,⟨_,rfl,FzV.refl⟩,⟨_,rfl,FzV.refl⟩,trivial⟩ ⟨⟨by decide,_,rfl,rfl,rfl,rfl,FzVs.refl⟩,⟨by decide,_,rfl,rfl,rfl,rfl,FzV.refl,FzV.refl,FzV.refl,FzV.hit,trivial⟩,⟨by decide,_,rfl,rfl,rfl,rfl,FzVs.refl⟩,⟨by decide,_,rfl,rfl,rfl,rfl,FzVs.refl⟩,trivial⟩
 refine Seam.frz (F:=F4a kk18) (b:=6) (x:= .sl 6 0 4 4) (o:=0) (m:=4) (k:={cells:=[.fz (rows u81 [1,2,3]) 3,.fz [] 0,.fz (rows u81 [0]) 1,.fz (rows u81 [9,9]) 2]}) (cs:=rows bd1 oth) (e2:=[(1,.fz (rows u81 sz) sz.length),(2,.fz (rows u81 od) od.length),(5,.s raw),(10,.p 1 0),(13,.p 2 0),(14,.fz (rows st1 RS) RS.length),(15,.p 7 0)]) (h2:=[(7,{cells:=[.i .u16 d.fi,.fz (rows u81 d.ki) d.ki.length,.fz (rows bd1 oth) 4]}),(2,{cells:=[.i .i64 j1.nx,.fz (rows Flt.Hf.l j1.hs) j1.hs.length]}),(1,{cells:=[.i .u8 (wh:Int),.i .u8 (at_:Int),.i .u8 (kk:Int),.i .i64 n,.i .u8 (oc:Int)]})]) ?_ rfl rfl (.inl ⟨4,rfl,Nat.le_refl _⟩) (.inl rfl) ⟨⟨_,rfl,FzV.refl⟩,⟨_,rfl,FzV.refl⟩,⟨_,rfl,FzV.refl⟩,⟨_,rfl,FzV.refl⟩,⟨_,rfl,FzV.refl⟩,⟨_,rfl,FzV.refl⟩,⟨_,rfl,FzV.refl⟩,trivial⟩ ⟨⟨by decide,_,rfl,rfl,rfl,rfl,FzV.refl,FzV.refl,FzV.hit,trivial⟩,⟨by decide,_,rfl,rfl,rfl,rfl,FzVs.refl⟩,⟨by decide,_,rfl,rfl,rfl,rfl,FzVs.refl⟩,trivial⟩
 clear ob6 hd0 q18 hT;obtain ⟨M,hM⟩: ∃M,M=mixS NS (od.take 2) (sz.take 3):=⟨_,rfl⟩;have hMl:M.length<=40000:=by rw [hM];exact mixS_len _ _ hnl2 hok2
 have vl:=w19l NS (od.take 2) (sz.take 3) hnl2 hok2 (by omega) (by omega)
 have vn:=w19n NS (od.take 2) (sz.take 3) hnl2 hok2 (by omega) (by omega)
 rw [<-hM,hat2,hbt] at vl vn;have wkk: ∀{v h n},FTL Tryz.prog 19 [.fz (rows Nt.l NS) NS.length,.fz (rows u81 (od.take 2)) a,.fz (rows u81 (sz.take 3)) b] [] 0 v h n->FTL Tryz.prog 19 [.fz (rows Nt.l NS) NS.length,.fz (rows u81 od) a,.fz (rows u81 sz) b] [] 0 v h n:=fun hv=>
  FTL.wka (xs:=[.fz (rows Nt.l NS) NS.length,.fz (rows u81 od) a,.fz (rows u81 sz) b]) (ys:=[.fz (rows Nt.l NS) NS.length,.fz (rows u81 (od.take 2)) a,.fz (rows u81 (sz.take 3)) b]) ⟨Wka.refl _,by rw [<-u8_take];exact Wka.take _ _ _,by rw [<-u8_take];exact Wka.take _ _ _,trivial⟩ hv
 have hMs: ∀s∈M,s.length<=9223372036854775807:=by rw [hM];exact hMs0
 have mb:=fun j=>stB j M;have s9:SoundAt Tryz.prog 9 (kP [.agg [.i .u16 d.fi,.fz (rows u81 d.ki) d.ki.length,.fz (rows bd1 oth) 4]] (.fz (rows Nt.l NS) NS.length)):=kP_sound (by kernel_rfl) (by simp only [belL,AV.bel,kb,ob,Bool.and_self]) (by simp only [AV.bel,nb]) v9
 have q9: ∀(h:Hp) n,kP [.agg [.i .u16 d.fi,.fz (rows u81 d.ki) d.ki.length,.fz (rows bd1 oth) 4]] (.fz (rows Nt.l NS) NS.length) [.agg [.i .u16 d.fi,.fz (rows u81 d.ki) d.ki.length,.fz (rows bd1 oth) 4]] h n=some (true,{v:= .fz (rows Nt.l NS) NS.length,n}):=fun h n=>kP_at h n;generalize kP [.agg [.i .u16 d.fi,.fz (rows u81 d.ki) d.ki.length,.fz (rows bd1 oth) 4]] (.fz (rows Nt.l NS) NS.length)=kk9 at*;obtain ⟨r,hr1,hr2⟩: ∃r:Nat,min (raw.length:Int) 200=(r:Int)/\r<=raw.length:=⟨min raw.length 200,by omega,by omega⟩
 obtain ⟨q,hq1,hq2,hq3⟩: ∃q:Nat,min (RS.length:Int) 3=(q:Int)/\q<=RS.length/\q<=3:=⟨min RS.length 3,by omega,by omega,by omega⟩
 have c3:decide (0<=(a:Int)/\(a:Int)<=(od.length:Int))=true:=decide_eq_true (by omega)
 have c4:decide (0<=(b:Int)/\(b:Int)<=(sz.length:Int))=true:=decide_eq_true (by omega)
 have c5:decide (0<=(r:Int)/\(r:Int)<=(raw.length:Int))=true:=decide_eq_true (by omega)
 have c6:decide (0<=(q:Int)/\(q:Int)<=(RS.length:Int))=true:=decide_eq_true (by omega)
 have hrt:(raw.take r).length<=9223372036854775807:=by rw [List.length_take];omega
 have r4:=r4 (M++[raw.take r]++RS.take q) (by simp only [List.length_append,List.length_take,List.length_cons,List.length_nil];omega) (fun s hs=>by
  rcases List.mem_append.1 hs with h|h
  ·rcases List.mem_append.1 h with h|h
   ·exact hMs s h
   ·rw [List.mem_singleton.1 h];exact hrt
  ·exact hRl s (List.mem_of_mem_take h))
 have hPl:(M++[raw.take r]++RS.take q).length=M.length+1+q:=by simp only [List.length_append,List.length_take,List.length_cons,List.length_nil];omega
 have hPr:rows st1 (M++[raw.take r]++RS.take q)=rows st1 M++[.s (raw.take r)]++List.take q (rows st1 RS):=by rw [rows_append,rows_append,one_take st1_len];rfl
 rw [hPl,hPr] at r4;have pb: ∀j,belL j (rows st1 M++[.s (raw.take r)]++List.take q (rows st1 RS))=true:=fun j=>by rw [<-hPr];exact stB j _
 have pr: ∀ψ,renL ψ (rows st1 M++[.s (raw.take r)]++List.take q (rows st1 RS))=rows st1 M++[.s (raw.take r)]++List.take q (rows st1 RS):=fun ψ=>by rw [<-hPr];exact stR ψ _
 have mL:(rows st1 M).length=M.length*1:=rows_len st1_len;have rL:(rows st1 RS).length=RS.length*1:=rows_len st1_len;have tL:(List.take q (rows st1 RS)).length=q:=by rw [List.length_take,rL];omega
 have tO:oneAll (List.take q (rows st1 RS))=true:=by rw [one_take st1_len];exact rows_one1 (fun _=>rfl) _
 have hjr:=fun ψ=>hrR ψ j1.hs;have tb: ∀j,belL j (List.take q (rows st1 RS))=true:=fun j=>by rw [one_take st1_len];exact stB j _
 have tr: ∀ψ,renL ψ (List.take q (rows st1 RS))=List.take q (rows st1 RS):=fun ψ=>by rw [one_take st1_len];exact stR ψ _
 have mr:=fun ψ=>stR ψ M;by_cases hM0:M=[]
 ·have v:=wkk (vn hM0);have s19:SoundAt Tryz.prog 19 (kP [.fz (rows Nt.l NS) NS.length,.fz (rows u81 od) a,.fz (rows u81 sz) b] .ns):=kP_sound (by kernel_rfl) (by simp only [belL,AV.bel,nb,zb,yb,Bool.and_self]) rfl v
  have q19: ∀(h:Hp) n,kP [.fz (rows Nt.l NS) NS.length,.fz (rows u81 od) a,.fz (rows u81 sz) b] .ns [.fz (rows Nt.l NS) NS.length,.fz (rows u81 od) a,.fz (rows u81 sz) b] h n=some (true,{v:= .ns,n:=n}):=fun h n=>kP_at h n;generalize kP [.fz (rows Nt.l NS) NS.length,.fz (rows u81 od) a,.fz (rows u81 sz) b] .ns=kk19 at*;have hT2:Sound Tryz.prog (cxT (TL4b kk9 kk19)):=Sound.cons s9<|Sound.cons s19 Sound.nil;clear vl vn wkk v s9 s19 v9;subst hM0;simp only [rows_nil,List.nil_append,List.length_nil,Nat.zero_add] at r4 pb pr;refine Seam.part (F:=F4b kk9 kk19) hT2 mo ?_;dsimp only [F4b,TL4b];have g0:decide (16<=growMax)=true:=by decide
  have g2:decide (16*(1+q)<=growMax)=true:=decide_eq_true (by simp only [growMax];omega)
  simp only [go_sem,q9,q19,ha1,hb1,hr1,c3,c4,c5,g0,AV.bel,belL,nblt,mb,simprocAttr];refine Seam.part (F:=F4b kk9 kk19) hT2 mo ?_;dsimp only [F4b,TL4b];by_cases hq0:q=0
  ·subst hq0;have c7:decide (0<=(RS.length:Int))=true:=decide_eq_true (by omega)
   simp only [List.take_zero,List.append_nil,Nat.add_zero] at r4 pb pr;simp only [go_sem,hq1,c7,List.take_zero,List.length_nil,Int.natCast_zero,AV.bel,belL,nblt,simprocAttr];refine Seam.frz (F:=F4) (b:=9) (x:= .sg 9 0 1) (o:=0) (m:=1) (k:={cells:=[.s (raw.take r)],gr:=some 1}) (cs:=[.s (raw.take r)]) (e2:=[(10,.p 1 0),(13,.p 2 0),(16,.fz ([.s (raw.take r)]) 1)]) (h2:=[(1,{cells:=[.i .u8 (wh:Int),.i .u8 (at_:Int),.i .u8 (kk:Int),.i .i64 n,.i .u8 (oc:Int)]}),(2,{cells:=[.i .i64 j1.nx,.fz (rows Flt.Hf.l j1.hs) j1.hs.length]})]) ?_ rfl rfl (.inr rfl) (.inl rfl) ⟨⟨_,rfl,FzV.refl⟩,⟨_,rfl,FzV.refl⟩,⟨_,rfl,FzV.hit⟩,trivial⟩ ⟨⟨by decide,_,rfl,rfl,rfl,rfl,FzVs.refl⟩,⟨by decide,_,rfl,rfl,rfl,rfl,FzVs.refl⟩,trivial⟩
   exact Seam.ren (F:=F4) [] r4 (by decide) (by decide) (by simp only [go_sem,AV.bel,belL,belL_append,nblt,AV.ren,renL,renL_app,pb,pr,tb,tr,mb,mr,simprocAttr]) (by simp only [go_sem,AV.bel,belL,nblt,AV.ren,renL,Blk.ren,hjb,hjr,simprocAttr])
  ·have c8:decide (q=0)=false:=decide_eq_false hq0;simp only [go_sem,hq1,c6,c8,tL,tO,g2,mL,Nat.mul_one,List.drop_zero,AV.bel,belL,nblt,mb,simprocAttr];refine Seam.frz (F:=F4) (b:=10) (x:= .sg 10 0 (1+q)) (o:=0) (m:=1+q) (k:={cells:=[.s (raw.take r)]++List.take q (rows st1 RS),gr:=some 1}) (cs:=[.s (raw.take r)]++List.take q (rows st1 RS)) (e2:=[(10,.p 1 0),(13,.p 2 0),(16,.fz ([.s (raw.take r)]++List.take q (rows st1 RS)) (1+q))]) (h2:=[(1,{cells:=[.i .u8 (wh:Int),.i .u8 (at_:Int),.i .u8 (kk:Int),.i .i64 n,.i .u8 (oc:Int)]}),(2,{cells:=[.i .i64 j1.nx,.fz (rows Flt.Hf.l j1.hs) j1.hs.length]})]) ?_ rfl rfl (.inr rfl) (.inl rfl) ⟨⟨_,rfl,FzV.refl⟩,⟨_,rfl,FzV.refl⟩,⟨_,rfl,FzV.hit⟩,trivial⟩ ⟨⟨by decide,_,rfl,rfl,rfl,rfl,FzVs.refl⟩,⟨by decide,_,rfl,rfl,rfl,rfl,FzVs.refl⟩,trivial⟩
   exact Seam.ren (F:=F4) [] r4 (by decide) (by decide) (by simp only [go_sem,AV.bel,belL,belL_append,nblt,AV.ren,renL,renL_app,pb,pr,tb,tr,mb,mr,simprocAttr]) (by simp only [go_sem,AV.bel,belL,nblt,AV.ren,renL,Blk.ren,hjb,hjr,simprocAttr])
 ·have v:=wkk (vl hM0);have s19:SoundAt Tryz.prog 19 (kP1 [.fz (rows Nt.l NS) NS.length,.fz (rows u81 od) a,.fz (rows u81 sz) b] (fun b=> .sg b 0 M.length) {cells:=rows st1 M,gr:=some 1}):=kP1_sound (by kernel_rfl) (by simp only [belL,AV.bel,nb,zb,yb,Bool.and_self]) (mb 0) rfl (fun n=>rfl) v
  have q19: ∀(h:Hp) n,kP1 [.fz (rows Nt.l NS) NS.length,.fz (rows u81 od) a,.fz (rows u81 sz) b] (fun b=> .sg b 0 M.length) {cells:=rows st1 M,gr:=some 1} [.fz (rows Nt.l NS) NS.length,.fz (rows u81 od) a,.fz (rows u81 sz) b] h n=some (true,{v:= .sg n 0 M.length,n:=n+1,nw:=[(n,{cells:=rows st1 M,gr:=some 1})]}):=fun h n=>kP1_at h n;generalize kP1 [.fz (rows Nt.l NS) NS.length,.fz (rows u81 od) a,.fz (rows u81 sz) b] (fun b=> .sg b 0 M.length) {cells:=rows st1 M,gr:=some 1}=kk19 at*;have hT2:Sound Tryz.prog (cxT (TL4b kk9 kk19)):=Sound.cons s9<|Sound.cons s19 Sound.nil;clear vl vn wkk v s9 s19 v9;refine Seam.part (F:=F4b kk9 kk19) hT2 mo ?_;dsimp only [F4b,TL4b];have g0:decide (16<=growMax)=true:=by decide
  have g1:decide (16*(M.length+1)<=growMax)=true:=decide_eq_true (by simp only [growMax];omega)
  have g2:decide (16*(1+q)<=growMax)=true:=decide_eq_true (by simp only [growMax];omega)
  have g3:decide (16*(M.length+1+q)<=growMax)=true:=decide_eq_true (by simp only [growMax];omega)
  have mL2:decide ((rows st1 M++[AV.s (raw.take r)]).length=M.length+1)=true:=decide_eq_true (by rw [List.length_append,mL];simp)
  simp only [go_sem,q9,q19,ha1,hb1,hr1,c3,c4,c5,g1,mL,AV.bel,belL,nblt,mb,simprocAttr];refine Seam.part (F:=F4b kk9 kk19) hT2 mo ?_;dsimp only [F4b,TL4b];by_cases hq0:q=0
  ·subst hq0;have c7:decide (0<=(RS.length:Int))=true:=decide_eq_true (by omega)
   simp only [List.take_zero,List.append_nil,Nat.add_zero] at r4 pb pr;simp only [go_sem,hq1,c7,List.take_zero,List.length_nil,Int.natCast_zero,AV.bel,belL,nblt,simprocAttr];refine Seam.frz (F:=F4) (b:=10) (x:= .sg 10 0 (M.length+1)) (o:=0) (m:=(M.length+1)) (k:={cells:=rows st1 M++[.s (raw.take r)],gr:=some 1}) (cs:=rows st1 M++[.s (raw.take r)]) (e2:=[(10,.p 1 0),(13,.p 2 0),(16,.fz (rows st1 M++[.s (raw.take r)]) (M.length+1))]) (h2:=[(1,{cells:=[.i .u8 (wh:Int),.i .u8 (at_:Int),.i .u8 (kk:Int),.i .i64 n,.i .u8 (oc:Int)]}),(2,{cells:=[.i .i64 j1.nx,.fz (rows Flt.Hf.l j1.hs) j1.hs.length]})]) ?_ rfl rfl (.inr rfl) (.inl rfl) ⟨⟨_,rfl,FzV.refl⟩,⟨_,rfl,FzV.refl⟩,⟨_,rfl,FzV.hit⟩,trivial⟩ ⟨⟨by decide,_,rfl,rfl,rfl,rfl,FzVs.refl⟩,⟨by decide,_,rfl,rfl,rfl,rfl,FzVs.refl⟩,trivial⟩
   exact Seam.ren (F:=F4) [] r4 (by decide) (by decide) (by simp only [go_sem,AV.bel,belL,belL_append,nblt,AV.ren,renL,renL_app,pb,pr,tb,tr,mb,mr,simprocAttr]) (by simp only [go_sem,AV.bel,belL,nblt,AV.ren,renL,Blk.ren,hjb,hjr,simprocAttr])
  ·have c8:decide (q=0)=false:=decide_eq_false hq0;simp only [go_sem,hq1,c6,c8,tL,tO,g3,mL2,mL,Nat.mul_one,List.drop_zero,AV.bel,belL,nblt,mb,simprocAttr];refine Seam.frz (F:=F4) (b:=11) (x:= .sg 11 0 ((M.length+1)+q)) (o:=0) (m:=(M.length+1)+q) (k:={cells:=rows st1 M++[.s (raw.take r)]++List.take q (rows st1 RS),gr:=some 1}) (cs:=rows st1 M++[.s (raw.take r)]++List.take q (rows st1 RS)) (e2:=[(10,.p 1 0),(13,.p 2 0),(16,.fz (rows st1 M++[.s (raw.take r)]++List.take q (rows st1 RS)) ((M.length+1)+q))]) (h2:=[(1,{cells:=[.i .u8 (wh:Int),.i .u8 (at_:Int),.i .u8 (kk:Int),.i .i64 n,.i .u8 (oc:Int)]}),(2,{cells:=[.i .i64 j1.nx,.fz (rows Flt.Hf.l j1.hs) j1.hs.length]})]) ?_ rfl rfl (.inr rfl) (.inl rfl) ⟨⟨_,rfl,FzV.refl⟩,⟨_,rfl,FzV.refl⟩,⟨_,rfl,FzV.hit⟩,trivial⟩ ⟨⟨by decide,_,rfl,rfl,rfl,rfl,FzVs.refl⟩,⟨by decide,_,rfl,rfl,rfl,rfl,FzVs.refl⟩,trivial⟩
   exact Seam.ren (F:=F4) [] r4 (by decide) (by decide) (by simp only [go_sem,AV.bel,belL,belL_append,nblt,AV.ren,renL,renL_app,pb,pr,tb,tr,mb,mr,simprocAttr]) (by simp only [go_sem,AV.bel,belL,nblt,AV.ren,renL,Blk.ren,hjb,hjr,simprocAttr])
end Go.Proofs.Flz
