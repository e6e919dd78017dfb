/- Texts laid as one: FlzC22 FlzC23 FlzIj FltG FlzT2 FltH FltP1 FltP2 FltI FltX FlzT3 FlzT4 FltY. -/
import Derived.Test.YtlokbfkdgnopeaaGreatDoorX7
import Derived.Test.YtlokbfkdgnopeaaGreatDoorProg
set_option maxRecDepth 100000
set_option maxHeartbeats 4000000
set_option linter.unusedSimpArgs false
set_option linter.unusedVariables false
namespace Go.Proofs.Flz
open Go.Ab Go.Proofs.Flt
def putR (nx:Int) (hs:List Flt.Hf) (i:Nat) (r:Option Flt.Hf):Jn×List Nt×Int:=match r with
 |some h=>((giveS nx (hs.set i h)).1,(giveS nx (hs.set i h)).2,0)
 |none=>(zJn,[],5)
theorem tk_fill {g0 g1 g2:Nat} (hG:[g0,g1,g2].Nodup) (nx:Int) (hn0:0<=nx) (hn1:nx<=65536) (hs:List Flt.Hf) (hlen:hs.length<=5) (hgl: ∀x∈hs,x.got.length<=100000) (i:Nat) (x:Flt.Hf) (hx:hs[i]? =some x) (p:Pc) (hfb:filB x p=true):
 Seam F21 (.seq (.reg i23r18) (.seq (.reg i23r19) (.seq (.reg i23r20) (.seq (.block 2 (.loop i23l26)) (.seq (.dreg i23r27) .ret))))) (KT g0 g1 g2 (putR nx hs i (fillS x p))) [(10,.i .i64 (i:Int)),(7,.p 4 0),(4,.p 1 0),(5,.p 2 0),(6,.p 3 0)]
  [(5,{cells:=rows Flt.Hf.l hs,gr:=some 5}),(4,{cells:=p.l}),(1,{cells:=[.i .i64 nx,.sg 5 0 hs.length],gid:=some g0}),(2,{cells:=[.ns],gid:=some g1}),(3,{cells:=[.i .i64 0],gid:=some g2})] 6:=by
 obtain ⟨b01,b02,b10,b12,b20,b21,b00,b11,b22⟩:=gids hG;have hlt:=(List.getElem?_eq_some_iff.1 hx).1;have hxx:List.take 5 (List.drop (i*5) (rows Flt.Hf.l hs))=x.l:=rows_at Flt.Hf.len hx;have hLl:(rows Flt.Hf.l hs).length=hs.length*5:=rows_len Flt.Hf.len;have hb:=fun j=>hrB j hs;have hbr:=fun ψ=>hrR ψ hs;have c1:decide (0<=(i:Int)/\(i:Int)<(hs.length:Int))=true:=decide_eq_true (by omega)
 have c2:decide (i*5+5<=hs.length*5)=true:=decide_eq_true (by omega)
 have hfl: ∀h n,hget h 6=some {cells:=x.l}->k65 [.p 6 0,.agg p.l] h n=some (true,{v:= .tup [],n,rd:=[6],md:=[(6,some {cells:=((fillS x p).getD x).l})],pn:=filP (fillS x p)}):=fun h n h6=>by
  simp only [k65,pc5_l,Option.bind_some,h6,hf5_l,hfb];rfl
 have hfn: ∀h,fillS x p=some h->h.got.length<=1000000:=fun h hh=>by
  have:=(fill_len hh).1;have:=hgl x (List.mem_of_getElem? hx);omega
 have hset: ∀h:Flt.Hf,List.take (i*5) (rows Flt.Hf.l hs)++h.l++List.drop (i*5+5) (rows Flt.Hf.l hs)=rows Flt.Hf.l (hs.set i h):=fun h=>splice_set Flt.Hf.len hlt;have give:=fun h (hh:fillS x p=some h)=>tk_give hG nx hn0 hn1 (hs.set i h) (by rw [List.length_set];omega) (by rw [List.length_set];exact hlen) (fun y hy=>by
  rcases List.mem_or_eq_of_mem_set hy with h1|rfl
  ·have:=hgl y h1;omega
  ·exact hfn _ hh)
 generalize hR:fillS x p=r at*;obtain ⟨xk,xl,xs,xb,xg⟩:=x;obtain ⟨pk,pl,ps,po,pt⟩:=p;simp only [Flt.Hf.l,Pc.l] at hxx hfl ⊢;have hgb:=fun j=>grB j xg;refine Seam.part (F:=F21) hTC21 mo ?_;dsimp only [F21,TC21];simp only [go_sem,c1,hxx,AV.bel,belL,nblt,hgb,simprocAttr];cases r with
 |none=>
  refine Seam.part (F:=F21) hTC21 mo ?_;dsimp only [F21,TC21,KT,filP,Option.getD_none] at hfl ⊢;dsimp only [i23];simp only [go_sem,hfl,hglobC,hglob,b01,b02,b10,b12,b20,b21,b00,b11,b22,cond_true,cond_false,i58,refV,Option.map_some,getT,simprocAttr];exact ends_z
 |some h=>
  have give:=give h rfl;rw [List.length_set] at give;have hset:=hset h;have hb2:=fun j=>hrB j (hs.set i h);have hbr2:=fun ψ=>hrR ψ (hs.set i h);obtain ⟨yk,yl,ys,yb,yg⟩:=h;refine Seam.part (F:=F21) hTC21 mo ?_;dsimp only [F21,TC21,filP,Option.getD_some] at hfl ⊢;have hyb:=fun j=>grB j yg;have hyr:=fun ψ=>grR ψ yg;simp only [Flt.Hf.l] at hset;generalize rows Flt.Hf.l (hs.set i ⟨yk,yl,ys,yb,yg⟩)=L2 at*;simp only [go_sem,hfl,AV.bel,belL,nblt,hyb,simprocAttr];refine Seam.part (F:=F21) hTC21 mo ?_;dsimp only [F21,TC21];simp only [go_sem,c1,c2,hLl,hset,AV.bel,belL,nblt,hyb,simprocAttr];exact Seam.ren [] give (by decide) (by decide) (by simp only [go_sem,AV.bel,belL,nblt,AV.ren,renL,simprocAttr]) (by simp only [go_sem,AV.bel,belL,nblt,AV.ren,renL,Blk.ren,hset,hb2,hbr2,simprocAttr])
theorem appL_dn1 {pn:Option Value} {v:AV} {n:Nat} {rd:List Nat} {b c:Nat} {k:Blk} {h:Hp}:(Eff.mk v n rd [(b,none)] [(c,k)] pn).appL h=hdel ((c,k)::h) b:=(rfl)
theorem appL_dn2 {pn:Option Value} {v:AV} {n:Nat} {rd:List Nat} {b b2 c:Nat} {k:Blk} {h:Hp}:(Eff.mk v n rd [(b,none),(b2,none)] [(c,k)] pn).appL h=hdel (hdel ((c,k)::h) b2) b:=(rfl)
theorem rep0: ∀n:Nat,Go.Lib.repeatL [0] n=List.replicate n 0
 |0=>rfl
 |n+1=>by
  have:=rep0 n;rw [List.replicate_succ,<-this];rfl
theorem ins_at {α:Type} (x:α): ∀(l:List α) (i:Nat),i<=l.length->(Go.Ab.insL l [x] i)[i]? =some x
 |l,0,_=>rfl
 |[],i+1,h=>by simp at h
 |y::l,i+1,h=>by rw [ins_s,List.getElem?_cons_succ];exact ins_at x l i (by simpa using h)
theorem ins_set {α:Type} (x y:α): ∀(l:List α) (i:Nat),i<=l.length->(Go.Ab.insL l [x] i).set i y=Go.Ab.insL l [y] i
 |l,0,_=>rfl
 |[],i+1,h=>by simp at h
 |z::l,i+1,h=>by rw [ins_s,ins_s,List.set_cons_succ,ins_set x y l i (by simpa using h)]
theorem ins_len {α:Type} (x:α) (l:List α) (i:Nat) (h:i<=l.length):(Go.Ab.insL l [x] i).length=l.length+1:=by
 simp only [Go.Ab.insL,List.length_append,List.length_take,List.length_drop,List.length_singleton];omega
theorem ins_mem {α:Type} {x y:α} {l:List α} {i:Nat} (h:y∈Go.Ab.insL l [x] i):y=x\/y∈l:=by
 simp only [Go.Ab.insL,List.mem_append,List.mem_singleton] at h;rcases h with h|h|h
 ·exact .inr (List.mem_of_mem_take h)
 ·exact .inl h
 ·exact .inr (List.mem_of_mem_drop h)
def rpB (p:Pc):Bool:=wholeB p&&decide (0<=p.kd/\p.kd<=255/\0<=p.ln/\0<=p.sq/\p.sq<=65535/\0<=p.ofs)
theorem fil_new {p:Pc} (hp:rpB p=true):filB (newH p) p=true:=by
 simp only [rpB,Bool.and_eq_true,decide_eq_true_eq] at hp;obtain ⟨hw,h1,h2,h3,h4,h5,h6⟩:=hp;have hw2:=hw;simp only [wholeB,Bool.and_eq_true,decide_eq_true_eq] at hw2;simp only [filB,newH,gotB,Bool.and_eq_true,decide_eq_true_eq,beq_iff_eq,List.length_replicate];exact ⟨trivial,by omega,inW_of (by omega),hw,h6⟩
theorem fil_old {h:Flt.Hf} {p:Pc} (hp:rpB p=true) (hh:halfB h=true):filB h p=true:=by
 simp only [rpB,Bool.and_eq_true,decide_eq_true_eq] at hp;obtain ⟨hw,h1,h2,h3,h4,h5,h6⟩:=hp;simp only [halfB,Bool.and_eq_true] at hh;obtain ⟨_,a2,a3,_,a5,_⟩:=hh;simp only [filB,Bool.and_eq_true,decide_eq_true_eq];exact ⟨a5,a3,a2,hw,h6⟩
theorem half_got {h:Flt.Hf} (hh:halfB h=true):h.got.length<=4000:=by
 simp only [halfB,Bool.and_eq_true] at hh;obtain ⟨_,a2,_,_,a5,_⟩:=hh;have a2:=inW_t a2;have:=got_len a5 a2.1;omega
def midR (nx:Int) (hs:List Flt.Hf) (p:Pc):Jn×List Nt×Int:=
 if p.sq<nx then (⟨nx,hs⟩,[],0)
 else if p.sq>=nx+4 then (zJn,[],3)
 else match putH p hs with
  |none=>(zJn,[],5)
  |some hs=>((giveS nx hs).1,(giveS nx hs).2,0)
theorem tk_mid {g0 g1 g2:Nat} (hG:[g0,g1,g2].Nodup) (nx:Int) (hn0:0<=nx) (hn1:nx<=65536) (hs:List Flt.Hf) (hhs:hsB nx none hs=true) (p:Pc) (hp:rpB p=true):
 Seam F21 (.seq (.seq (.reg i23r12) (.cond (.t 46) (.seq (.reg i23r13) .ret) .skip)) (.seq (.reg i23r14) (.seq (.reg i23r15) (.seq (.seq (.reg i23r16) (.cond (.t 64) (.dreg i23r17) .skip)) (.seq (.reg i23r18) (.seq (.reg i23r19) (.seq (.reg i23r20) (.seq (.block 2 (.loop i23l26)) (.seq (.dreg i23r27) .ret)))))))))
  (KT g0 g1 g2 (midR nx hs p)) [(2,.p 0 0),(4,.p 1 0),(5,.p 2 0),(6,.p 3 0),(7,.p 4 0)]
  ((gQ Flt.Hf.l 5 hs).h 5++[(4,{cells:=p.l}),(1,{cells:=[.i .i64 nx,(gQ Flt.Hf.l 5 hs).v 5],gid:=some g0}),(2,{cells:=[.ns],gid:=some g1}),(3,{cells:=[.i .i64 0],gid:=some g2}),(0,{cells:=[.i .i64 nx,.fz (rows Flt.Hf.l hs) hs.length]})]) 6:=by
 obtain ⟨b01,b02,b10,b12,b20,b21,b00,b11,b22⟩:=gids hG;have hp':=hp;simp only [rpB,Bool.and_eq_true,decide_eq_true_eq] at hp';obtain ⟨hw,p1,p2,p3,p4,p5,p6⟩:=hp';simp only [wholeB,Bool.and_eq_true,decide_eq_true_eq] at hw;have hlen:hs.length<=4:=by
  have:=hsB_len (lo:=nx) hhs (fun _=>rfl) (fun e h=>by cases h) (by omega)
  omega
 have hall:=hsB_all hhs;have hasc:=(hsB_asc hhs).1;obtain ⟨q0,q1,q2⟩:=putH_at p hs;have hb:=fun j=>hrB j hs;have hbr:=fun ψ=>hrR ψ hs;have hLl:(rows Flt.Hf.l hs).length=hs.length*5:=rows_len Flt.Hf.len;have hu:unrows 5 hf5 hs.length (rows Flt.Hf.l hs)=some hs:=unrows_rows Flt.Hf.len hf5_l hs;have hcl:cellsAt (rows Flt.Hf.l hs) 0 (hs.length*5)=rows Flt.Hf.l hs:=by rw [cellsAt,List.drop_zero,<-hLl,List.take_length]
 have gqN:gQ Flt.Hf.l 5 ([]:List Flt.Hf)= .nil:=rfl;have gqC: ∀l:List Flt.Hf,l≠[]->gQ Flt.Hf.l 5 l= .sg {cells:=rows Flt.Hf.l l,gr:=some 5} 0 l.length:=fun l h=>by unfold gQ;rw [if_neg (by simpa using h)]
 have wn:IntKind.i64.wrap (nx+4)=nx+4:=wrapL (by omega) (by omega)
 have hM:midR nx hs p=if p.sq<nx then ((⟨nx,hs⟩,[],0):Jn×List Nt×Int) else if p.sq>=nx+4 then (zJn,[],3) else match putH p hs with
  |none=>(zJn,[],5)
  |some hs=>((giveS nx hs).1,(giveS nx hs).2,0):=rfl
 have c64:decide (hs.length<=64)=true:=decide_eq_true (by omega)
 have hrp: ∀(h:Hp) n,k36 [.s [0],.i .i64 p.ln] h n=some (true,{v:= .s (newH p).bd,n}):=fun h n=>by
  simp only [k36,List.length_singleton,newH,rep0];rw [decide_eq_true (by omega:0<=p.ln/\1*p.ln.toNat<=1000000/\p.ln<=1000000)]
 have hbs:hs≠[]-> ∀(h:Hp) n,hget h 5=some {cells:=rows Flt.Hf.l hs,gr:=some 5}->k61 [.sg 5 0 hs.length,.i .i64 p.sq,.fn 62 []] h n=some (true,{v:= .tup [.i .i64 (posH p.sq hs:Nat),.b (fndH p.sq hs)],n,rd:=[5]}):=fun _ h n h5=>by
  simp only [k61,vwK_g,h5,Option.bind_some,hcl,hu,hasc,hLl,decide_true,c64,Bool.and_self]
 have hbs0: ∀(h:Hp) n,k61 [.ns,.i .i64 p.sq,.fn 62 []] h n=some (true,{v:= .tup [.i .i64 0,.b false],n}):=fun h n=>rfl;have hNn:Flt.Hf.l (newH p)=[.i .i64 p.kd,.i .i64 p.ln,.i .i64 p.sq,.s (newH p).bd,.fz [] 0]:=rfl;have hin0: ∀(h:Hp) n,hget h 6=some {cells:=[.i .i64 p.kd,.i .i64 p.ln,.i .i64 p.sq,.s (newH p).bd,.ns]}->k64 [.ns,.i .i64 0,.sl 6 0 1 1] h n=some (true,{v:= .sg n 0 1,n:=n+1,rd:=[6],md:=[(6,none)],nw:=[(n,{cells:=rows Flt.Hf.l [newH p],gr:=some 5})]}):=fun h n h6=>by
  have w1:wrt h [6]=true:=by simp [wrt,h6]
  simp only [k64,vwK_s,h6,Option.bind_some,w1];rfl
 have hin:hs≠[]-> ∀(h:Hp) n,hget h 6=some {cells:=[.i .i64 p.kd,.i .i64 p.ln,.i .i64 p.sq,.s (newH p).bd,.ns]}->hget h 5=some {cells:=rows Flt.Hf.l hs,gr:=some 5}→
  k64 [.sg 5 0 hs.length,.i .i64 (posH p.sq hs:Nat),.sl 6 0 1 1] h n=some (true,{v:= .sg n 0 (hs.length+1),n:=n+1,rd:=[5,6],md:=[(5,none),(6,none)],nw:=[(n,{cells:=rows Flt.Hf.l (Go.Ab.insL hs [newH p] (posH p.sq hs)),gr:=some 5})]}):=fun _ h n h6 h5=>by
  have w1:wrt h [6]=true:=by simp [wrt,h6]
  have w2:decide (0<=((posH p.sq hs:Nat):Int)/\(posH p.sq hs)<=hs.length/\True/\hs.length<=1000000)=true:=decide_eq_true ⟨by omega,q0,trivial,by omega⟩
  have w3:cellsAt [.i .i64 p.kd,.i .i64 p.ln,.i .i64 p.sq,.s (newH p).bd,.ns] 0 (1*5)=[.i .i64 p.kd,.i .i64 p.ln,.i .i64 p.sq,.s (newH p).bd,.ns]:=rfl;have w4:hfn [.i .i64 p.kd,.i .i64 p.ln,.i .i64 p.sq,.s (newH p).bd,.ns]=some (newH p):=rfl;simp only [k64,vwK_s,h6,h5,Option.bind_some,w1,w3,w4,gvK_g,hcl,hu,hLl,decide_true,Bool.and_self,Int.toNat_natCast,w2];rfl
 -- found
 have fnd:hs≠[]-> ¬p.sq<nx-> ¬p.sq>=nx+4->fndH p.sq hs=true->Seam F21 (.seq (.reg i23r18) (.seq (.reg i23r19) (.seq (.reg i23r20) (.seq (.block 2 (.loop i23l26)) (.seq (.dreg i23r27) .ret))))) (KT g0 g1 g2 (midR nx hs p)) [(10,.i .i64 (posH p.sq hs:Nat)),(7,.p 4 0),(4,.p 1 0),(5,.p 2 0),(6,.p 3 0)]
  [(5,{cells:=rows Flt.Hf.l hs,gr:=some 5}),(4,{cells:=p.l}),(1,{cells:=[.i .i64 nx,.sg 5 0 hs.length],gid:=some g0}),(2,{cells:=[.ns],gid:=some g1}),(3,{cells:=[.i .i64 0],gid:=some g2})] 6:=fun hne n1 n2 hf=>by
  obtain ⟨x,e1,e2,e3⟩:=q1 hf;have hx:=hall x (List.mem_of_getElem? e1);have:=tk_fill hG nx hn0 hn1 hs (by omega) (fun y hy=>by have:=half_got (hall y hy).2.2;omega) (posH p.sq hs) x e1 p (fil_old hp hx.2.2)
  have hr:midR nx hs p=putR nx hs (posH p.sq hs) (fillS x p):=by
   rw [hM,if_neg n1,if_neg n2,e3];cases fillS x p<;>rfl
  rw [hr];exact this
 -- not found
 have new: ¬p.sq<nx-> ¬p.sq>=nx+4->fndH p.sq hs=false->Seam F21 (.seq (.reg i23r18) (.seq (.reg i23r19) (.seq (.reg i23r20) (.seq (.block 2 (.loop i23l26)) (.seq (.dreg i23r27) .ret))))) (KT g0 g1 g2 (midR nx hs p)) [(10,.i .i64 (posH p.sq hs:Nat)),(7,.p 4 0),(4,.p 1 0),(5,.p 2 0),(6,.p 3 0)]
  [(5,{cells:=rows Flt.Hf.l (Go.Ab.insL hs [newH p] (posH p.sq hs)),gr:=some 5}),(4,{cells:=p.l}),(1,{cells:=[.i .i64 nx,.sg 5 0 (hs.length+1)],gid:=some g0}),(2,{cells:=[.ns],gid:=some g1}),(3,{cells:=[.i .i64 0],gid:=some g2})] 6:=fun n1 n2 hf=>by
  have e3:=q2 hf;have hil:=ins_len (newH p) hs (posH p.sq hs) q0;have:=tk_fill hG nx hn0 hn1 (Go.Ab.insL hs [newH p] (posH p.sq hs)) (by omega) (fun y hy=>by
   rcases ins_mem hy with rfl|hy
   ·exact Nat.zero_le _
   ·have:=half_got (hall y hy).2.2;omega) (posH p.sq hs) (newH p) (ins_at _ _ _ q0) p (fil_new hp)
  rw [hil] at this;have hr:midR nx hs p=putR nx (Go.Ab.insL hs [newH p] (posH p.sq hs)) (posH p.sq hs) (fillS (newH p) p):=by
   rw [hM,if_neg n1,if_neg n2,e3];cases fillS (newH p) p with
   |none=>rfl
   |some h=>
    show _=((giveS nx ((Go.Ab.insL hs [newH p] (posH p.sq hs)).set (posH p.sq hs) h)).1,(giveS nx ((Go.Ab.insL hs [newH p] (posH p.sq hs)).set (posH p.sq hs) h)).2,(0:Int));rw [ins_set _ _ _ _ q0];rfl
  rw [hr];exact this
 have hMb:=fun j=>hrB j (Go.Ab.insL hs [newH p] (posH p.sq hs));have hMr:=fun ψ=>hrR ψ (Go.Ab.insL hs [newH p] (posH p.sq hs));clear q1 q2 hall hasc hhs hp;generalize hMR:midR nx hs p=R at*;obtain ⟨pk,pl,ps,po,pt⟩:=p;simp only [Pc.l] at hin0 hin fnd new hrp hbs hbs0 ⊢;dsimp only at p1 p2 p3 p4 p5 p6 hM;generalize hBd:(newH ⟨pk,pl,ps,po,pt⟩).bd=B at*;refine Seam.part (F:=F21) hTC21 mo ?_;dsimp only [F21,TC21];cases a:decide (ps<nx);rotate_left
 ·have hM:=hM.trans (if_pos (of_decide_eq_true a));rw [hM];dsimp only [KT];by_cases hne:hs=[]
  ·subst hne;rw [gqN];dsimp only [i23];simp only [go_sem,a,hglobC,hglob,b01,b02,b10,b12,b20,b21,b00,b11,b22,cond_true,cond_false,i58,simprocAttr];exact CovS.frzN (v':=tkR (⟨nx,[]⟩,[],0)) (l:=[]) (FzV.tup ⟨FzV.agg ⟨FzV.refl,FzV.hit,trivial⟩,FzV.hit,FzV.refl,trivial⟩) (CovS.ends (Ends.pureE (tkR_bel _) rfl))
  ·rw [gqC _ hne];dsimp only [i23];simp only [go_sem,a,hglobC,hglob,b01,b02,b10,b12,b20,b21,b00,b11,b22,cond_true,cond_false,i58,simprocAttr];refine CovS.frz (b:=5) (k:={cells:=rows Flt.Hf.l hs,gr:=some 5}) (h':=[]) (o:=0) (m:=hs.length) (x:= .sg 5 0 hs.length) (cs:=rows Flt.Hf.l hs) (v':= .tup [.agg [.i .i64 nx,.fz (rows Flt.Hf.l hs) hs.length],.ns,.i .i64 0]) rfl rfl (.inr rfl) (.inl List.drop_zero.symm) (FzV.tup ⟨FzV.agg ⟨FzV.refl,FzV.hit,trivial⟩,FzV.refl,FzV.refl,trivial⟩) (fun c kk hc=>by simp [hget] at hc) ends_n
 have n1: ¬ps<nx:=of_decide_eq_false a;cases c:decide (ps<nx+4)
 ·have n2:ps>=nx+4:=by have:=of_decide_eq_false c;omega
  have hM:=hM.trans ((if_neg n1).trans (if_pos n2));rw [hM];dsimp only [KT];by_cases hne:hs=[]
  ·subst hne;rw [gqN];simp only [go_sem,a,simprocAttr];refine Seam.part (F:=F21) hTC21 mo ?_;dsimp only [F21,TC21,i23];simp only [go_sem,k59,a,c,wn,hglobC,hglob,b01,b02,b10,b12,b20,b21,b00,b11,b22,cond_true,cond_false,i58,refV,Option.map_some,getT,simprocAttr];exact ends_z
  ·rw [gqC _ hne];simp only [go_sem,a,simprocAttr];refine Seam.part (F:=F21) hTC21 mo ?_;dsimp only [F21,TC21,i23];simp only [go_sem,k59,a,c,wn,hglobC,hglob,b01,b02,b10,b12,b20,b21,b00,b11,b22,cond_true,cond_false,i58,refV,Option.map_some,getT,simprocAttr];exact ends_z
 have n2: ¬ps>=nx+4:=by have:=of_decide_eq_true c;omega
 clear hM;by_cases hne:hs=[]
 ·subst hne;have new:=new n1 n2 rfl;rw [gqN];generalize KT g0 g1 g2 R=K at*;simp only [go_sem,a,simprocAttr];refine Seam.part (F:=F21) hTC21 mo ?_;dsimp only [F21,TC21];simp only [go_sem,k59,c,wn,simprocAttr];refine Seam.part (F:=F21) hTC21 mo ?_;dsimp only [F21,TC21];simp only [go_sem,hbs0,simprocAttr];refine Seam.part (F:=F21) hTC21 mo ?_;dsimp only [F21,TC21];simp only [go_sem,hrp,hin0,appL_dn1,simprocAttr];have hi0:Go.Ab.insL ([]:List Flt.Hf) [newH ⟨pk,pl,ps,po,pt⟩] (posH ps [])=[newH ⟨pk,pl,ps,po,pt⟩]:=rfl;have hp0:posH ps ([]:List Flt.Hf)=0:=rfl;exact Seam.ren [(5,7)] new (by decide) (by decide) (by simp only [go_sem,hp0,Int.natCast_zero,AV.bel,belL,nblt,AV.ren,renL,simprocAttr]) (by simp only [go_sem,hi0,AV.bel,belL,nblt,AV.ren,renL,Blk.ren,hrB,hrR,simprocAttr])
 ·have hbs:=hbs hne;have hin:=hin hne;have fnd:=fnd hne n1 n2;have new:=new n1 n2;rw [gqC _ hne];generalize KT g0 g1 g2 R=K at*;generalize Go.Ab.insL hs [newH ⟨pk,pl,ps,po,pt⟩] (posH ps hs)=L2 at*;generalize posH ps hs=pos at*;generalize fndH ps hs=fd at*;simp only [go_sem,a,simprocAttr];refine Seam.part (F:=F21) hTC21 mo ?_;dsimp only [F21,TC21];simp only [go_sem,k59,c,wn,simprocAttr];refine Seam.part (F:=F21) hTC21 mo ?_;dsimp only [F21,TC21];simp only [go_sem,hbs,simprocAttr];refine Seam.part (F:=F21) hTC21 mo ?_;dsimp only [F21,TC21];cases fd
  ·have new:=new rfl;simp only [go_sem,hrp,hin,appL_dn2,simprocAttr];exact Seam.ren [(5,7)] new (by decide) (by decide) (by simp only [go_sem,AV.bel,belL,nblt,AV.ren,renL,simprocAttr]) (by simp only [go_sem,AV.bel,belL,nblt,AV.ren,renL,Blk.ren,hMb,hMr,simprocAttr])
  ·have fnd:=fnd rfl;simp only [go_sem,simprocAttr];exact Seam.ren [] fnd (by decide) (by decide) (by simp only [go_sem,AV.bel,belL,nblt,AV.ren,renL,simprocAttr]) (by simp only [go_sem,AV.bel,belL,nblt,AV.ren,renL,Blk.ren,hb,hbr,simprocAttr])
end Go.Proofs.Flz
namespace Go.Proofs.Flz
open Go.Ab
abbrev i18r0:List IOper:=[oo 4 (.box (.t 0)),oo 8 (.new [.i .i64 0,.ns]),oo 9 (.mv (.c (.ns)))]
abbrev i18r1:List IOper:=[oo 18 (.fa 0 (.t 4)),oo 19 (.ld false 1 (.t 18)),oo 20 (.i2i .i64 (.t 19)),oo 21 (.build [.i .i64 0,.ns] [(0,1,.t 20)]),oo 10 (.new [.i .i64 0,.ns]),on_ (.st 2 (.t 10) (.t 21))]
abbrev i18r2:List IOper:=[oo 22 (.ld true 3 (.t 4)),oo 23 (.call (.c (.fn 9 [])) [.t 22]),oo 24 (.mv (.t 1)),oo 25 (.mv (.t 2)),oo 26 (.call (.c (.fn 19 [])) [.t 23,.t 24,.t 25]),oo 11 (.mv (.t 26))]
abbrev i18r3:List IOper:=[oo 27 (.mv (.t 3)),oo 28 (.i2i .i64 (.t 27)),oo 29 (.mv (.t 11)),oo 30 (.lenV (.t 29)),oo 31 (.bin .add (.t 30) (.c (.i .i64 1))),oo 32 (.bin .rem (.t 28) (.t 31)),oo 12 (.mv (.t 32))]
abbrev i18r4:List IOper:=[oo 33 (.mv (.t 11)),oo 34 (.mv (.t 12)),oo 35 (.slV 1 (.t 33) none (some (.t 34)) none),oo 36 (.lenV (.t 35)),oo 37 (.mv (.c (.i .i64 0)))]
abbrev i18r5:List IOper:=[ot 38 (.bin .lss (.t 37) (.t 36))]
abbrev i18r6:List IOper:=[oo 39 (.ixaV 1 (.t 35) (.t 37)),oo 40 (.ld false 1 (.t 39)),oo 14 (.mv (.t 40))]
abbrev i18r7:List IOper:=[oo 42 (.ld true 2 (.t 10)),oo 43 (.mv (.t 14)),oo 44 (.call (.c (.fn 24 [])) [.t 42,.t 43]),oo 41 (.mv (.t 44)),oo 45 (.ext (.t 41) 0),oo 46 (.ext (.t 41) 1),oo 47 (.ext (.t 41) 2),oo 15 (.new [.i .i64 0,.ns]),on_ (.st 2 (.t 15) (.t 45)),oo 16 (.mv (.t 46)),oo 17 (.mv (.t 47))]
abbrev i18r8:List IOper:=[oo 48 (.mv (.t 17)),ot 49 (.bin .eql (.t 48) (.c (.i .i64 0)))]
abbrev i18r9:List IOper:=[oo 50 (.ld true 2 (.t 15)),on_ (.st 2 (.t 10) (.t 50))]
abbrev i18r10:List IOper:=[oo 51 (.bin .add (.t 37) (.c (.i .i64 1))),oo 37 (.mv (.t 51))]
abbrev i18l11:ICode:=(.seq (.reg i18r5) (.seq (.cond (.t 38) .skip (.exit 0)) (.seq (.block 1 (.seq (.reg i18r6) (.seq (.reg i18r7) (.seq (.reg i18r8) (.cond (.t 49) (.reg i18r9) .skip))))) (.reg i18r10))))
abbrev i18r12:List (IOper×List Nat):=[(oo 52 (.ld true 2 (.t 10)),[]),(oo 53 (.mv (.t 11)),[0]),(oo 54 (.mv (.t 12)),[0,1]),(oo 55 (.slV 1 (.t 53) (some (.t 54)) none none),[0]),(on_ (.st 2 (.t 8) (.t 52)),[1,2,3]),(oo 9 (.mv (.t 55)),[])]
abbrev i18c:ICode:=(.seq (.reg i18r0) (.seq (.reg i18r1) (.seq (.reg i18r2) (.seq (.reg i18r3) (.seq (.seq (.reg i18r4) (.block 0 (.loop i18l11))) (.seq (.dreg i18r12) .ret))))))
def i18:IFn:={np:=4,N:=56,ct:=[38,49],code:=i18c,res:=[.c 8 true 2,.t 9]}
theorem i18_eq:compF Tryz.prog Tryz.f18=some i18:=by kernel_rfl
abbrev i20r0:List IOper:=[oo 2 (.box (.t 0)),oo 3 (.box (.t 1)),oo 4 (.new [.i .i64 0,.ns])]
abbrev i20r1:List IOper:=[oo 10 (.fa 0 (.t 3)),oo 11 (.ld false 1 (.t 10)),oo 12 (.build [.i .i64 0,.ns] [(0,1,.t 11)]),oo 5 (.new [.i .i64 0,.ns]),on_ (.st 2 (.t 5) (.t 12))]
abbrev i20r2:List IOper:=[oo 13 (.fa 1 (.t 3)),oo 14 (.ld false 1 (.t 13)),oo 15 (.lenV (.t 14)),oo 16 (.mv (.c (.i .i64 0)))]
abbrev i20r3:List IOper:=[ot 17 (.bin .lss (.t 16) (.t 15))]
abbrev i20r4:List IOper:=[oo 18 (.ixaV 5 (.t 14) (.t 16)),oo 19 (.ld true 5 (.t 18)),oo 7 (.new [.i .i64 0,.i .i64 0,.i .i64 0,.s [],.ns]),on_ (.st 5 (.t 7) (.t 19))]
abbrev i20r5:List IOper:=[oo 20 (.bsl [] 0 []),oo 21 (.fa 4 (.t 7)),oo 22 (.ld false 1 (.t 21)),oo 23 (.app 2 16 [.i .i64 0,.i .i64 0] (.t 20) (.t 22)),oo 24 (.fa 4 (.t 7)),on_ (.st 1 (.t 24) (.t 23))]
abbrev i20r6:List IOper:=[oo 25 (.fa 1 (.t 5)),oo 26 (.ld false 1 (.t 25)),oo 27 (.ld true 5 (.t 7)),oo 28 (.bsl [.i .i64 0,.i .i64 0,.i .i64 0,.s [],.ns] 1 [(0,5,.t 27)]),oo 29 (.app 5 64 [.i .i64 0,.i .i64 0,.i .i64 0,.s [],.ns] (.t 26) (.t 28)),oo 30 (.fa 1 (.t 5)),on_ (.st 1 (.t 30) (.t 29))]
abbrev i20r7:List IOper:=[oo 31 (.bin .add (.t 16) (.c (.i .i64 1))),oo 16 (.mv (.t 31))]
abbrev i20l8:ICode:=(.seq (.reg i20r3) (.seq (.cond (.t 17) .skip (.exit 0)) (.seq (.block 1 (.seq (.reg i20r4) (.seq (.reg i20r5) (.reg i20r6)))) (.reg i20r7))))
abbrev i20r9:List IOper:=[oo 32 (.fa 0 (.t 2)),oo 33 (.ld false 1 (.t 32)),oo 34 (.bin .rem (.t 33) (.c (.i .u8 9))),oo 35 (.bin .eql (.t 34) (.c (.i .u8 0))),ot 36 (.mv (.t 35)),og 37 (.fa 1 (.t 5)) 36 false false,og 38 (.ld false 1 (.t 37)) 36 false false,og 39 (.lenV (.t 38)) 36 false false,og 40 (.bin .eql (.t 39) (.c (.i .i64 0))) 36 false false,ot 41 (.pick (.t 36) (.c (.b true)) (.t 40))]
abbrev i20r10:List IOper:=[oo 42 (.fa 3 (.t 2)),oo 43 (.ld false 1 (.t 42)),oo 44 (.fa 0 (.t 5)),on_ (.st 1 (.t 44) (.t 43))]
abbrev i20r11:List IOper:=[oo 45 (.ld true 2 (.t 5)),on_ (.st 2 (.t 4) (.t 45))]
abbrev i20r12:List (IOper×List Nat):=[(oo 46 (.fa 1 (.t 5)),[]),(oo 47 (.ld false 1 (.t 46)),[]),(oo 48 (.fa 1 (.t 2)),[0,1]),(oo 49 (.ld false 1 (.t 48)),[0,1]),(oo 50 (.i2i .i64 (.t 49)),[0,1]),(oo 51 (.fa 1 (.t 5)),[0,1,2,3,4]),(oo 52 (.ld false 1 (.t 51)),[0,1,2,3,4]),(oo 53 (.lenV (.t 52)),[0,1,2,3,4]),(oo 54 (.bin .rem (.t 50) (.t 53)),[0,1]),(oo 55 (.ixaV 5 (.t 47) (.t 54)),[]),(oo 8 (.mv (.t 55)),[])]
abbrev i20r13:List IOper:=[oo 56 (.fa 0 (.t 2)),oo 57 (.ld false 1 (.t 56)),oo 58 (.bin .rem (.t 57) (.c (.i .u8 9)))]
abbrev i20r14:List IOper:=[oo 68 (.bin .eql (.t 58) (.c (.i .u8 1))),ot 67 (.mv (.t 68))]
abbrev i20r15:List IOper:=[oo 69 (.mv (.t 8)),oo 70 (.fa 3 (.t 2)),oo 71 (.ld false 1 (.t 70)),oo 72 (.nck (.t 69)),oo 73 (.fa 0 (.t 72)),on_ (.st 1 (.t 73) (.t 71))]
abbrev i20r16:List IOper:=[oo 75 (.bin .eql (.t 58) (.c (.i .u8 2))),ot 74 (.mv (.t 75))]
abbrev i20r17:List IOper:=[oo 76 (.mv (.t 8)),oo 77 (.fa 3 (.t 2)),oo 78 (.ld false 1 (.t 77)),oo 79 (.nck (.t 76)),oo 80 (.fa 1 (.t 79)),on_ (.st 1 (.t 80) (.t 78))]
abbrev i20r18:List IOper:=[oo 82 (.bin .eql (.t 58) (.c (.i .u8 3))),ot 81 (.mv (.t 82))]
abbrev i20r19:List IOper:=[oo 83 (.mv (.t 8)),oo 84 (.fa 3 (.t 2)),oo 85 (.ld false 1 (.t 84)),oo 86 (.nck (.t 83)),oo 87 (.fa 2 (.t 86)),on_ (.st 1 (.t 87) (.t 85))]
abbrev i20r20:List IOper:=[oo 89 (.bin .eql (.t 58) (.c (.i .u8 4))),ot 88 (.mv (.t 89))]
abbrev i20r21:List IOper:=[oo 90 (.mv (.t 8)),oo 91 (.nck (.t 90)),oo 92 (.fa 3 (.t 91)),oo 93 (.ld false 1 (.t 92)),oo 94 (.lenS (.t 93)),ot 95 (.bin .gtr (.t 94) (.c (.i .i64 0)))]
abbrev i20r22:List IOper:=[oo 96 (.mv (.t 8)),oo 97 (.nck (.t 96)),oo 98 (.fa 3 (.t 97)),oo 99 (.ld false 1 (.t 98)),oo 100 (.s2b (.t 99)),oo 9 (.mv (.t 100))]
abbrev i20r23:List (IOper×List Nat):=[(oo 101 (.mv (.t 9)),[]),(oo 102 (.fa 2 (.t 2)),[0]),(oo 103 (.ld false 1 (.t 102)),[0]),(oo 104 (.i2i .i64 (.t 103)),[0]),(oo 105 (.mv (.t 9)),[0,1,2,3]),(oo 106 (.lenV (.t 105)),[0,1,2,3]),(oo 107 (.bin .rem (.t 104) (.t 106)),[0]),(oo 108 (.fa 4 (.t 2)),[0,1,2,3,4,5,6]),(oo 109 (.ld false 1 (.t 108)),[0,1,2,3,4,5,6]),(oo 110 (.ixaV 1 (.t 101) (.t 107)),[]),(on_ (.st 1 (.t 110) (.t 109)),[])]
abbrev i20r24:List IOper:=[oo 111 (.mv (.t 8)),oo 112 (.mv (.t 9)),oo 113 (.b2s (.t 112)),oo 114 (.nck (.t 111)),oo 115 (.fa 3 (.t 114)),on_ (.st 1 (.t 115) (.t 113))]
abbrev i20r25:List IOper:=[oo 117 (.bin .eql (.t 58) (.c (.i .u8 5))),ot 116 (.mv (.t 117))]
abbrev i20r26:List (IOper×List Nat):=[(oo 118 (.mv (.t 8)),[]),(oo 119 (.mv (.t 8)),[0]),(oo 120 (.nck (.t 119)),[0]),(oo 121 (.fa 4 (.t 120)),[0]),(oo 122 (.ld false 1 (.t 121)),[0]),(oo 123 (.fa 3 (.t 2)),[0,1,2,3,4]),(oo 124 (.ld false 1 (.t 123)),[0,1,2,3,4]),(oo 125 (.fa 3 (.t 2)),[0,1,2,3,4,5,6]),(oo 126 (.ld false 1 (.t 125)),[0,1,2,3,4,5,6]),(oo 127 (.bin .add (.t 126) (.c (.i .i64 1))),[0,1,2,3,4,5,6]),(oo 128 (.build [.i .i64 0,.i .i64 0] [(0,1,.t 124),(1,1,.t 127)]),[0,1,2,3,4]),(oo 129 (.bsl [.i .i64 0,.i .i64 0] 1 [(0,2,.t 128)]),[0,1,2,3,4]),(oo 130 (.app 2 16 [.i .i64 0,.i .i64 0] (.t 122) (.t 129)),[0]),(oo 131 (.nck (.t 118)),[]),(oo 132 (.fa 4 (.t 131)),[]),(on_ (.st 1 (.t 132) (.t 130)),[])]
abbrev i20r27:List IOper:=[oo 134 (.bin .eql (.t 58) (.c (.i .u8 6))),ot 133 (.mv (.t 134))]
abbrev i20r28:List IOper:=[oo 135 (.mv (.t 8)),oo 136 (.nck (.t 135)),oo 137 (.fa 4 (.t 136)),oo 138 (.ld false 1 (.t 137)),oo 139 (.lenV (.t 138)),ot 140 (.bin .gtr (.t 139) (.c (.i .i64 0)))]
abbrev i20r29:List (IOper×List Nat):=[(oo 141 (.mv (.t 8)),[]),(oo 142 (.nck (.t 141)),[]),(oo 143 (.fa 4 (.t 142)),[]),(oo 144 (.ld false 1 (.t 143)),[]),(oo 145 (.fa 2 (.t 2)),[0,1,2,3]),(oo 146 (.ld false 1 (.t 145)),[0,1,2,3]),(oo 147 (.i2i .i64 (.t 146)),[0,1,2,3]),(oo 148 (.mv (.t 8)),[0,1,2,3,4,5,6]),(oo 149 (.nck (.t 148)),[0,1,2,3,4,5,6]),(oo 150 (.fa 4 (.t 149)),[0,1,2,3,4,5,6]),(oo 151 (.ld false 1 (.t 150)),[0,1,2,3,4,5,6]),(oo 152 (.lenV (.t 151)),[0,1,2,3,4,5,6]),(oo 153 (.bin .rem (.t 147) (.t 152)),[0,1,2,3]),(oo 154 (.fa 4 (.t 2)),[0,1,2,3,4,5,6,7,8,9,10,11,12]),(oo 155 (.ld false 1 (.t 154)),[0,1,2,3,4,5,6,7,8,9,10,11,12]),(oo 156 (.bin .rem (.t 155) (.c (.i .u8 2))),[0,1,2,3,4,5,6,7,8,9,10,11,12]),(oo 157 (.fa 3 (.t 2)),[0,1,2,3,4,5,6,7,8,9,10,11,12,13,14,15]),(oo 158 (.ld false 1 (.t 157)),[0,1,2,3,4,5,6,7,8,9,10,11,12,13,14,15]),(oo 159 (.ixaV 2 (.t 144) (.t 153)),[13,14,15,16,17]),(oo 160 (.ixaA 2 1 (.t 159) (.t 156)),[]),(on_ (.st 1 (.t 160) (.t 158)),[])]
abbrev i20r30:List IOper:=[oo 162 (.bin .eql (.t 58) (.c (.i .u8 7))),ot 161 (.mv (.t 162))]
abbrev i20r31:List IOper:=[oo 163 (.mv (.t 8)),oo 164 (.nck (.t 163)),oo 165 (.fa 4 (.t 164)),on_ (.st 1 (.t 165) (.c (.ns)))]
abbrev i20r32:List (IOper×List Nat):=[(oo 59 (.fa 1 (.t 5)),[]),(oo 60 (.ld false 1 (.t 59)),[]),(oo 61 (.mv (.t 8)),[0,1]),(oo 62 (.nck (.t 61)),[0,1]),(oo 63 (.ld true 5 (.t 62)),[0,1]),(oo 64 (.bsl [.i .i64 0,.i .i64 0,.i .i64 0,.s [],.ns] 1 [(0,5,.t 63)]),[0,1]),(oo 65 (.app 5 64 [.i .i64 0,.i .i64 0,.i .i64 0,.s [],.ns] (.t 60) (.t 64)),[]),(oo 66 (.fa 1 (.t 5)),[]),(on_ (.st 1 (.t 66) (.t 65)),[])]
abbrev i20r33:List IOper:=[oo 166 (.ld true 2 (.t 5)),on_ (.st 2 (.t 4) (.t 166))]
abbrev i20c:ICode:=(.seq (.reg i20r0) (.seq (.reg i20r1) (.seq (.seq (.reg i20r2) (.block 0 (.loop i20l8))) (.seq (.seq (.reg i20r9) (.cond (.t 41) (.seq (.reg i20r10) (.seq (.reg i20r11) .ret)) .skip)) (.seq (.dreg i20r12) (.seq (.seq (.reg i20r13) (.block 2 (.seq (.reg i20r14) (.cond (.t 67) (.reg i20r15) (.seq (.reg i20r16) (.cond (.t 74) (.reg i20r17) (.seq (.reg i20r18) (.cond (.t 81) (.reg i20r19) (.seq (.reg i20r20) (.cond (.t 88) (.seq (.reg i20r21) (.cond (.t 95) (.seq (.reg i20r22) (.seq (.dreg i20r23) (.reg i20r24))) .skip)) (.seq (.reg i20r25) (.cond (.t 116) (.dreg i20r26) (.seq (.reg i20r27) (.cond (.t 133) (.seq (.reg i20r28) (.cond (.t 140) (.dreg i20r29) .skip)) (.seq (.reg i20r30) (.cond (.t 161) (.reg i20r31) (.dreg i20r32))))))))))))))))) (.seq (.reg i20r33) .ret)))))))
def i20:IFn:={np:=2,N:=167,ct:=[17,41,67,74,81,88,95,116,133,140,161],code:=i20c,res:=[.c 4 true 2]}
theorem i20_eq:compF Tryz.prog Tryz.f20=some i20:=by kernel_rfl
abbrev i22r0:List IOper:=[oo 1 (.box (.t 0)),oo 2 (.mv (.c (.i .i64 0)))]
abbrev i22r1:List IOper:=[oo 3 (.ld true 2 (.t 1)),oo 4 (.call (.c (.fn 57 [])) [.t 3]),ot 5 (.not (.t 4))]
abbrev i22r2:List IOper:=[oo 2 (.mv (.c (.i .i64 191)))]
abbrev i22r3:List IOper:=[oo 2 (.mv (.c (.i .i64 0)))]
abbrev i22c:ICode:=(.seq (.reg i22r0) (.seq (.seq (.reg i22r1) (.cond (.t 5) (.seq (.reg i22r2) .ret) .skip)) (.seq (.reg i22r3) .ret)))
def i22:IFn:={np:=1,N:=6,ct:=[5],code:=i22c,res:=[.t 2]}
theorem i22_eq:compF Tryz.prog Tryz.f22=some i22:=by kernel_rfl
abbrev i24r0:List IOper:=[oo 2 (.box (.t 0)),oo 4 (.new [.i .i64 0,.ns]),oo 5 (.mv (.c (.ns))),oo 6 (.mv (.c (.i .i64 0)))]
abbrev i24r1:List IOper:=[oo 9 (.ld true 2 (.t 2)),oo 10 (.call (.c (.fn 57 [])) [.t 9]),ot 11 (.not (.t 10))]
abbrev i24r2:List IOper:=[oo 12 (.build [.i .i64 0,.ns] []),on_ (.st 2 (.t 4) (.t 12)),oo 5 (.mv (.c (.ns))),oo 6 (.mv (.c (.i .i64 191)))]
abbrev i24r3:List IOper:=[oo 14 (.mv (.t 1)),oo 15 (.call (.c (.fn 16 [])) [.t 14]),oo 13 (.mv (.t 15)),oo 16 (.ext (.t 13) 0),oo 17 (.ext (.t 13) 1),oo 7 (.new [.i .i64 0,.i .i64 0,.i .i64 0,.i .i64 0,.s []]),on_ (.st 5 (.t 7) (.t 16)),oo 8 (.mv (.t 17))]
abbrev i24r4:List IOper:=[oo 18 (.mv (.t 8)),ot 19 (.bin .neq (.t 18) (.c (.i .i64 0)))]
abbrev i24r5:List IOper:=[oo 20 (.build [.i .i64 0,.ns] []),oo 21 (.mv (.t 8)),on_ (.st 2 (.t 4) (.t 20)),oo 5 (.mv (.c (.ns))),oo 6 (.mv (.t 21))]
abbrev i24r6:List IOper:=[oo 22 (.ld true 2 (.t 2)),oo 23 (.ld true 5 (.t 7)),oo 24 (.call (.c (.fn 66 [])) [.t 22,.t 23]),oo 25 (.ext (.t 24) 0),oo 26 (.ext (.t 24) 1),oo 27 (.ext (.t 24) 2),on_ (.st 2 (.t 4) (.t 25)),oo 5 (.mv (.t 26)),oo 6 (.mv (.t 27))]
abbrev i24c:ICode:=(.seq (.reg i24r0) (.seq (.seq (.reg i24r1) (.cond (.t 11) (.seq (.reg i24r2) .ret) .skip)) (.seq (.reg i24r3) (.seq (.seq (.reg i24r4) (.cond (.t 19) (.seq (.reg i24r5) .ret) .skip)) (.seq (.reg i24r6) .ret)))))
def i24:IFn:={np:=2,N:=28,ct:=[11,19],code:=i24c,res:=[.c 4 true 2,.t 5,.t 6]}
theorem i24_eq:compF Tryz.prog Tryz.f24=some i24:=by kernel_rfl
abbrev i57r0:List IOper:=[oo 1 (.box (.t 0)),oo 2 (.mv (.c (.b false)))]
abbrev i57r1:List IOper:=[oo 5 (.fa 0 (.t 1)),oo 6 (.ld false 1 (.t 5)),oo 7 (.bin .lss (.t 6) (.c (.i .i64 0))),ot 8 (.mv (.t 7)),og 9 (.fa 0 (.t 1)) 8 false false,og 10 (.ld false 1 (.t 9)) 8 false false,og 11 (.bin .gtr (.t 10) (.c (.i .i64 65536))) 8 false false,oo 12 (.pick (.t 8) (.c (.b true)) (.t 11)),ot 13 (.mv (.t 12)),og 14 (.fa 1 (.t 1)) 13 false false,og 15 (.ld false 1 (.t 14)) 13 false false,og 16 (.lenV (.t 15)) 13 false false,og 17 (.bin .gtr (.t 16) (.c (.i .i64 4))) 13 false false,ot 18 (.pick (.t 13) (.c (.b true)) (.t 17))]
abbrev i57r2:List IOper:=[oo 2 (.mv (.c (.b false)))]
abbrev i57r3:List IOper:=[oo 3 (.mv (.c (.i .i64 0)))]
abbrev i57r4:List IOper:=[oo 19 (.mv (.t 3)),oo 20 (.fa 1 (.t 1)),oo 21 (.ld false 1 (.t 20)),oo 22 (.lenV (.t 21)),ot 23 (.bin .lss (.t 19) (.t 22))]
abbrev i57r5:List IOper:=[oo 26 (.fa 1 (.t 1)),oo 27 (.ld false 1 (.t 26)),oo 28 (.mv (.t 3)),oo 29 (.ixaV 5 (.t 27) (.t 28)),oo 30 (.ld true 5 (.t 29)),oo 4 (.new [.i .i64 0,.i .i64 0,.i .i64 0,.s [],.ns]),on_ (.st 5 (.t 4) (.t 30))]
abbrev i57r6:List (IOper×List Nat):=[(oo 31 (.fa 2 (.t 4)),[]),(oo 32 (.ld false 1 (.t 31)),[]),(oo 33 (.fa 0 (.t 1)),[0,1]),(oo 34 (.ld false 1 (.t 33)),[0,1]),(oo 35 (.bin .lss (.t 32) (.t 34)),[]),(ot 36 (.mv (.t 35)),[]),(og 37 (.fa 2 (.t 4)) 36 false false,[]),(og 38 (.ld false 1 (.t 37)) 36 false false,[]),(og 39 (.fa 0 (.t 1)) 36 false false,[6,7]),(og 40 (.ld false 1 (.t 39)) 36 false false,[6,7]),(og 41 (.bin .add (.t 40) (.c (.i .i64 4))) 36 false false,[6,7]),(og 42 (.bin .geq (.t 38) (.t 41)) 36 false false,[]),(oo 43 (.pick (.t 36) (.c (.b true)) (.t 42)),[]),(ot 44 (.mv (.t 43)),[]),(og 45 (.fa 2 (.t 4)) 44 false false,[]),(og 46 (.ld false 1 (.t 45)) 44 false false,[]),(og 47 (.bin .geq (.t 46) (.c (.i .i64 65536))) 44 false false,[]),(oo 48 (.pick (.t 44) (.c (.b true)) (.t 47)),[]),(ot 49 (.mv (.t 48)),[]),(og 50 (.mv (.t 3)) 49 false false,[]),(og 51 (.bin .gtr (.t 50) (.c (.i .i64 0))) 49 false false,[]),(og 52 (.mv (.t 51)) 49 false true,[]),(og 53 (.fa 2 (.t 4)) 52 true false,[]),(og 54 (.ld false 1 (.t 53)) 52 true false,[]),(og 55 (.fa 1 (.t 1)) 52 true false,[22,23]),(og 56 (.ld false 1 (.t 55)) 52 true false,[22,23]),(og 57 (.mv (.t 3)) 52 true false,[22,23,24,25]),(og 58 (.bin .sub (.t 57) (.c (.i .i64 1))) 52 true false,[22,23,24,25]),(og 59 (.ixaV 5 (.t 56) (.t 58)) 52 true false,[22,23]),(og 60 (.fa 2 (.t 59)) 52 true false,[22,23]),(og 61 (.ld false 1 (.t 60)) 52 true false,[22,23]),(og 62 (.bin .leq (.t 54) (.t 61)) 52 true false,[]),(og 63 (.pick (.t 52) (.t 62) (.c (.b false))) 49 false false,[]),(oo 64 (.pick (.t 49) (.c (.b true)) (.t 63)),[]),(ot 65 (.mv (.t 64)),[]),(og 66 (.ld true 5 (.t 4)) 65 false false,[]),(og 67 (.call (.c (.fn 82 [])) [.t 66]) 65 false false,[]),(og 68 (.not (.t 67)) 65 false false,[]),(oo 69 (.pick (.t 65) (.c (.b true)) (.t 68)),[]),(ot 70 (.mv (.t 69)),[]),(og 71 (.fa 2 (.t 4)) 70 false false,[]),(og 72 (.ld false 1 (.t 71)) 70 false false,[]),(og 73 (.fa 0 (.t 1)) 70 false false,[40,41]),(og 74 (.ld false 1 (.t 73)) 70 false false,[40,41]),(og 75 (.bin .eql (.t 72) (.t 74)) 70 false false,[]),(og 76 (.mv (.t 75)) 70 false true,[]),(og 77 (.ld true 5 (.t 4)) 76 true false,[]),(og 78 (.call (.c (.fn 83 [])) [.t 77]) 76 true false,[]),(og 79 (.pick (.t 76) (.t 78) (.c (.b false))) 70 false false,[]),(ot 80 (.pick (.t 70) (.c (.b true)) (.t 79)),[])]
abbrev i57r7:List IOper:=[oo 2 (.mv (.c (.b false)))]
abbrev i57r8:List IOper:=[oo 24 (.mv (.t 3)),oo 25 (.bin .add (.t 24) (.c (.i .i64 1))),oo 3 (.mv (.t 25))]
abbrev i57l9:ICode:=(.seq (.seq (.reg i57r4) (.cond (.t 23) .skip (.exit 0))) (.seq (.block 1 (.seq (.reg i57r5) (.seq (.dreg i57r6) (.cond (.t 80) (.seq (.reg i57r7) .ret) .skip)))) (.reg i57r8)))
abbrev i57r10:List IOper:=[oo 2 (.mv (.c (.b true)))]
abbrev i57c:ICode:=(.seq (.reg i57r0) (.seq (.seq (.reg i57r1) (.cond (.t 18) (.seq (.reg i57r2) .ret) .skip)) (.seq (.seq (.reg i57r3) (.block 0 (.loop i57l9))) (.seq (.reg i57r10) .ret))))
def i57:IFn:={np:=1,N:=81,ct:=[18,23,80],code:=i57c,res:=[.t 2]}
theorem i57_eq:compF Tryz.prog Tryz.f57=some i57:=by kernel_rfl
abbrev i66r0:List IOper:=[oo 2 (.box (.t 0)),oo 3 (.box (.t 1)),oo 4 (.new [.i .i64 0,.ns]),oo 5 (.mv (.c (.ns))),oo 6 (.mv (.c (.i .i64 0)))]
abbrev i66r1:List IOper:=[oo 16 (.fa 2 (.t 3)),oo 17 (.ld false 1 (.t 16)),oo 18 (.fa 0 (.t 2)),oo 19 (.ld false 1 (.t 18)),ot 20 (.bin .lss (.t 17) (.t 19))]
abbrev i66r2:List IOper:=[oo 21 (.ld true 2 (.t 2)),oo 22 (.call (.c (.fn 89 [])) [.t 21]),on_ (.st 2 (.t 4) (.t 22)),oo 5 (.mv (.c (.ns))),oo 6 (.mv (.c (.i .i64 0)))]
abbrev i66r3:List IOper:=[oo 23 (.fa 2 (.t 3)),oo 24 (.ld false 1 (.t 23)),oo 25 (.fa 0 (.t 2)),oo 26 (.ld false 1 (.t 25)),oo 27 (.bin .add (.t 26) (.c (.i .i64 4))),ot 28 (.bin .geq (.t 24) (.t 27))]
abbrev i66r4:List IOper:=[oo 29 (.build [.i .i64 0,.ns] []),on_ (.st 2 (.t 4) (.t 29)),oo 5 (.mv (.c (.ns))),oo 6 (.mv (.c (.i .i64 3)))]
abbrev i66r5:List IOper:=[oo 30 (.fa 0 (.t 2)),oo 31 (.ld false 1 (.t 30)),oo 32 (.build [.i .i64 0,.ns] [(0,1,.t 31)]),oo 7 (.new [.i .i64 0,.ns]),on_ (.st 2 (.t 7) (.t 32))]
abbrev i66r6:List (IOper×List Nat):=[(oo 33 (.fa 0 (.t 3)),[]),(oo 34 (.ld false 1 (.t 33)),[]),(oo 35 (.fa 1 (.t 3)),[0,1]),(oo 36 (.ld false 1 (.t 35)),[0,1]),(oo 37 (.fa 2 (.t 3)),[0,1,2,3]),(oo 38 (.ld false 1 (.t 37)),[0,1,2,3]),(oo 39 (.fa 1 (.t 3)),[0,1,2,3,4,5]),(oo 40 (.ld false 1 (.t 39)),[0,1,2,3,4,5]),(oo 41 (.mks 1 1 [.i .u8 0] (.t 40) (.t 40)),[0,1,2,3,4,5]),(oo 42 (.b2s (.t 41)),[0,1,2,3,4,5]),(oo 43 (.build [.i .i64 0,.i .i64 0,.i .i64 0,.s [],.ns] [(0,1,.t 34),(1,1,.t 36),(2,1,.t 38),(3,1,.t 42)]),[]),(oo 8 (.new [.i .i64 0,.i .i64 0,.i .i64 0,.s [],.ns]),[0,1,2,3,4,5,6,7,8,9,10]),(on_ (.st 5 (.t 8) (.t 43)),[])]
abbrev i66r7:List IOper:=[oo 9 (.mv (.c (.i .i64 0)))]
abbrev i66r8:List IOper:=[oo 44 (.mv (.t 9)),oo 45 (.fa 1 (.t 2)),oo 46 (.ld false 1 (.t 45)),oo 47 (.lenV (.t 46)),ot 48 (.bin .lss (.t 44) (.t 47))]
abbrev i66r9:List (IOper×List Nat):=[(oo 51 (.fa 1 (.t 2)),[]),(oo 52 (.ld false 1 (.t 51)),[]),(oo 53 (.mv (.t 9)),[0,1]),(oo 54 (.ixaV 5 (.t 52) (.t 53)),[]),(oo 55 (.fa 2 (.t 54)),[]),(oo 56 (.ld false 1 (.t 55)),[]),(oo 57 (.fa 2 (.t 3)),[0,1,2,3,4,5]),(oo 58 (.ld false 1 (.t 57)),[0,1,2,3,4,5]),(ot 59 (.bin .eql (.t 56) (.t 58)),[])]
abbrev i66r10:List IOper:=[oo 60 (.fa 1 (.t 2)),oo 61 (.ld false 1 (.t 60)),oo 62 (.mv (.t 9)),oo 63 (.ixaV 5 (.t 61) (.t 62)),oo 64 (.ld true 5 (.t 63)),on_ (.st 5 (.t 8) (.t 64))]
abbrev i66r11:List IOper:=[oo 49 (.mv (.t 9)),oo 50 (.bin .add (.t 49) (.c (.i .i64 1))),oo 9 (.mv (.t 50))]
abbrev i66l12:ICode:=(.seq (.seq (.reg i66r8) (.cond (.t 48) .skip (.exit 0))) (.seq (.block 1 (.seq (.dreg i66r9) (.cond (.t 59) (.reg i66r10) .skip))) (.reg i66r11)))
abbrev i66r13:List IOper:=[oo 65 (.fa 0 (.t 8)),oo 66 (.ld false 1 (.t 65)),oo 67 (.fa 0 (.t 3)),oo 68 (.ld false 1 (.t 67)),oo 69 (.bin .neq (.t 66) (.t 68)),ot 70 (.mv (.t 69)),og 71 (.fa 1 (.t 8)) 70 false false,og 72 (.ld false 1 (.t 71)) 70 false false,og 73 (.fa 1 (.t 3)) 70 false false,og 74 (.ld false 1 (.t 73)) 70 false false,og 75 (.bin .neq (.t 72) (.t 74)) 70 false false,ot 76 (.pick (.t 70) (.c (.b true)) (.t 75))]
abbrev i66r14:List IOper:=[oo 77 (.build [.i .i64 0,.ns] []),on_ (.st 2 (.t 4) (.t 77)),oo 5 (.mv (.c (.ns))),oo 6 (.mv (.c (.i .i64 5)))]
abbrev i66r15:List IOper:=[oo 79 (.ld true 5 (.t 8)),oo 80 (.ld true 5 (.t 3)),oo 81 (.call (.c (.fn 90 [])) [.t 79,.t 80]),oo 78 (.mv (.t 81)),oo 82 (.ext (.t 78) 0),oo 83 (.ext (.t 78) 1),on_ (.st 5 (.t 8) (.t 82)),oo 10 (.mv (.t 83))]
abbrev i66r16:List IOper:=[oo 84 (.mv (.t 10)),ot 85 (.not (.t 84))]
abbrev i66r17:List IOper:=[oo 86 (.build [.i .i64 0,.ns] []),on_ (.st 2 (.t 4) (.t 86)),oo 5 (.mv (.c (.ns))),oo 6 (.mv (.c (.i .i64 5)))]
abbrev i66r18:List IOper:=[oo 11 (.mv (.c (.b false)))]
abbrev i66r19:List IOper:=[oo 12 (.mv (.c (.i .i64 0)))]
abbrev i66r20:List IOper:=[oo 87 (.mv (.t 12)),oo 88 (.fa 1 (.t 2)),oo 89 (.ld false 1 (.t 88)),oo 90 (.lenV (.t 89)),ot 91 (.bin .lss (.t 87) (.t 90))]
abbrev i66r21:List IOper:=[oo 94 (.fa 1 (.t 2)),oo 95 (.ld false 1 (.t 94)),oo 96 (.mv (.t 12)),oo 97 (.ixaV 5 (.t 95) (.t 96)),oo 98 (.ld true 5 (.t 97)),oo 13 (.new [.i .i64 0,.i .i64 0,.i .i64 0,.s [],.ns]),on_ (.st 5 (.t 13) (.t 98))]
abbrev i66r22:List IOper:=[oo 99 (.fa 2 (.t 13)),oo 100 (.ld false 1 (.t 99)),oo 101 (.fa 2 (.t 3)),oo 102 (.ld false 1 (.t 101)),oo 103 (.bin .geq (.t 100) (.t 102)),ot 104 (.mv (.t 103)),og 105 (.mv (.t 11)) 104 true false,og 106 (.not (.t 105)) 104 true false,ot 107 (.pick (.t 104) (.t 106) (.c (.b false)))]
abbrev i66r23:List IOper:=[oo 108 (.fa 1 (.t 7)),oo 109 (.ld false 1 (.t 108)),oo 110 (.ld true 5 (.t 8)),oo 111 (.bsl [.i .i64 0,.i .i64 0,.i .i64 0,.s [],.ns] 1 [(0,5,.t 110)]),oo 112 (.app 5 64 [.i .i64 0,.i .i64 0,.i .i64 0,.s [],.ns] (.t 109) (.t 111)),oo 113 (.fa 1 (.t 7)),on_ (.st 1 (.t 113) (.t 112))]
abbrev i66r24:List IOper:=[oo 11 (.mv (.c (.b true)))]
abbrev i66r25:List IOper:=[oo 114 (.fa 2 (.t 13)),oo 115 (.ld false 1 (.t 114)),oo 116 (.fa 2 (.t 3)),oo 117 (.ld false 1 (.t 116)),ot 118 (.bin .neq (.t 115) (.t 117))]
abbrev i66r26:List IOper:=[oo 119 (.fa 1 (.t 7)),oo 120 (.ld false 1 (.t 119)),oo 121 (.ld true 5 (.t 13)),oo 122 (.bsl [.i .i64 0,.i .i64 0,.i .i64 0,.s [],.ns] 1 [(0,5,.t 121)]),oo 123 (.app 5 64 [.i .i64 0,.i .i64 0,.i .i64 0,.s [],.ns] (.t 120) (.t 122)),oo 124 (.fa 1 (.t 7)),on_ (.st 1 (.t 124) (.t 123))]
abbrev i66r27:List IOper:=[oo 92 (.mv (.t 12)),oo 93 (.bin .add (.t 92) (.c (.i .i64 1))),oo 12 (.mv (.t 93))]
abbrev i66l28:ICode:=(.seq (.seq (.reg i66r20) (.cond (.t 91) .skip (.exit 2))) (.seq (.block 3 (.seq (.reg i66r21) (.seq (.seq (.reg i66r22) (.cond (.t 107) (.seq (.reg i66r23) (.reg i66r24)) .skip)) (.seq (.reg i66r25) (.cond (.t 118) (.reg i66r26) .skip))))) (.reg i66r27)))
abbrev i66r29:List IOper:=[oo 125 (.mv (.t 11)),ot 126 (.not (.t 125))]
abbrev i66r30:List IOper:=[oo 127 (.fa 1 (.t 7)),oo 128 (.ld false 1 (.t 127)),oo 129 (.ld true 5 (.t 8)),oo 130 (.bsl [.i .i64 0,.i .i64 0,.i .i64 0,.s [],.ns] 1 [(0,5,.t 129)]),oo 131 (.app 5 64 [.i .i64 0,.i .i64 0,.i .i64 0,.s [],.ns] (.t 128) (.t 130)),oo 132 (.fa 1 (.t 7)),on_ (.st 1 (.t 132) (.t 131))]
abbrev i66r31:List IOper:=[oo 14 (.mv (.c (.ns)))]
abbrev i66r32:List (IOper×List Nat):=[(oo 133 (.fa 1 (.t 7)),[]),(oo 134 (.ld false 1 (.t 133)),[]),(oo 135 (.lenV (.t 134)),[]),(oo 136 (.bin .gtr (.t 135) (.c (.i .i64 0))),[]),(ot 137 (.mv (.t 136)),[]),(og 138 (.fa 1 (.t 7)) 137 true false,[]),(og 139 (.ld false 1 (.t 138)) 137 true false,[]),(og 140 (.ixaV 5 (.t 139) (.c (.i .i64 0))) 137 true false,[]),(og 141 (.fa 2 (.t 140)) 137 true false,[]),(og 142 (.ld false 1 (.t 141)) 137 true false,[]),(og 143 (.fa 0 (.t 7)) 137 true false,[5,6,7,8,9]),(og 144 (.ld false 1 (.t 143)) 137 true false,[5,6,7,8,9]),(og 145 (.bin .eql (.t 142) (.t 144)) 137 true false,[]),(oo 146 (.pick (.t 137) (.t 145) (.c (.b false))),[]),(ot 147 (.mv (.t 146)),[]),(og 148 (.fa 1 (.t 7)) 147 true false,[]),(og 149 (.ld false 1 (.t 148)) 147 true false,[]),(og 150 (.ixaV 5 (.t 149) (.c (.i .i64 0))) 147 true false,[]),(og 151 (.ld true 5 (.t 150)) 147 true false,[]),(og 152 (.call (.c (.fn 83 [])) [.t 151]) 147 true false,[]),(ot 153 (.pick (.t 147) (.t 152) (.c (.b false))),[])]
abbrev i66r33:List IOper:=[oo 154 (.fa 1 (.t 7)),oo 155 (.ld false 1 (.t 154)),oo 156 (.ixaV 5 (.t 155) (.c (.i .i64 0))),oo 157 (.ld true 5 (.t 156)),oo 15 (.new [.i .i64 0,.i .i64 0,.i .i64 0,.s [],.ns]),on_ (.st 5 (.t 15) (.t 157))]
abbrev i66r34:List IOper:=[oo 158 (.mv (.t 14)),oo 159 (.fa 0 (.t 15)),oo 160 (.ld false 1 (.t 159)),oo 161 (.fa 2 (.t 15)),oo 162 (.ld false 1 (.t 161)),oo 163 (.fa 3 (.t 15)),oo 164 (.ld false 1 (.t 163)),oo 165 (.build [.i .i64 0,.i .i64 0,.s []] [(0,1,.t 160),(1,1,.t 162),(2,1,.t 164)]),oo 166 (.bsl [.i .i64 0,.i .i64 0,.s []] 1 [(0,3,.t 165)]),oo 167 (.app 3 32 [.i .i64 0,.i .i64 0,.s []] (.t 158) (.t 166)),oo 14 (.mv (.t 167))]
abbrev i66r35:List IOper:=[oo 168 (.fa 1 (.t 7)),oo 169 (.ld false 1 (.t 168)),oo 170 (.slV 5 (.t 169) (some (.c (.i .i64 1))) none none),oo 171 (.fa 1 (.t 7)),on_ (.st 1 (.t 171) (.t 170))]
abbrev i66r36:List IOper:=[oo 172 (.fa 0 (.t 7)),oo 173 (.ld false 1 (.t 172)),oo 174 (.bin .add (.t 173) (.c (.i .i64 1))),oo 175 (.fa 0 (.t 7)),on_ (.st 1 (.t 175) (.t 174))]
abbrev i66l37:ICode:=(.seq (.seq (.dreg i66r32) (.cond (.t 153) .skip (.exit 4))) (.block 5 (.seq (.reg i66r33) (.seq (.reg i66r34) (.seq (.reg i66r35) (.reg i66r36))))))
abbrev i66r38:List IOper:=[oo 176 (.ld true 2 (.t 7)),oo 177 (.call (.c (.fn 89 [])) [.t 176]),oo 178 (.mv (.t 14)),on_ (.st 2 (.t 4) (.t 177)),oo 5 (.mv (.t 178)),oo 6 (.mv (.c (.i .i64 0)))]
abbrev i66c:ICode:=(.seq (.reg i66r0) (.seq (.seq (.reg i66r1) (.cond (.t 20) (.seq (.reg i66r2) .ret) .skip)) (.seq (.seq (.reg i66r3) (.cond (.t 28) (.seq (.reg i66r4) .ret) .skip)) (.seq (.reg i66r5) (.seq (.dreg i66r6) (.seq (.seq (.reg i66r7) (.block 0 (.loop i66l12))) (.seq (.seq (.reg i66r13) (.cond (.t 76) (.seq (.reg i66r14) .ret) .skip)) (.seq (.reg i66r15) (.seq (.seq (.reg i66r16) (.cond (.t 85) (.seq (.reg i66r17) .ret) .skip)) (.seq (.reg i66r18) (.seq (.seq (.reg i66r19) (.block 2 (.loop i66l28))) (.seq (.seq (.reg i66r29) (.cond (.t 126) (.reg i66r30) .skip)) (.seq (.reg i66r31) (.seq (.block 4 (.loop i66l37)) (.seq (.reg i66r38) .ret)))))))))))))))
def i66:IFn:={np:=2,N:=179,ct:=[20,28,48,59,76,85,91,107,118,126,153],code:=i66c,res:=[.c 4 true 2,.t 5,.t 6]}
theorem i66_eq:compF Tryz.prog Tryz.f66=some i66:=by kernel_rfl
abbrev i82r0:List IOper:=[oo 1 (.box (.t 0)),oo 2 (.mv (.c (.b false)))]
abbrev i82r1:List IOper:=[oo 5 (.fa 0 (.t 1)),oo 6 (.ld false 1 (.t 5)),oo 7 (.bin .lss (.t 6) (.c (.i .i64 0))),ot 8 (.mv (.t 7)),og 9 (.fa 0 (.t 1)) 8 false false,og 10 (.ld false 1 (.t 9)) 8 false false,og 11 (.bin .gtr (.t 10) (.c (.i .i64 255))) 8 false false,oo 12 (.pick (.t 8) (.c (.b true)) (.t 11)),ot 13 (.mv (.t 12)),og 14 (.fa 1 (.t 1)) 13 false false,og 15 (.ld false 1 (.t 14)) 13 false false,og 16 (.bin .lss (.t 15) (.c (.i .i64 0))) 13 false false,oo 17 (.pick (.t 13) (.c (.b true)) (.t 16)),ot 18 (.mv (.t 17)),og 19 (.fa 1 (.t 1)) 18 false false,og 20 (.ld false 1 (.t 19)) 18 false false,og 21 (.bin .gtr (.t 20) (.c (.i .i64 4000))) 18 false false,oo 22 (.pick (.t 18) (.c (.b true)) (.t 21)),ot 23 (.mv (.t 22)),og 24 (.fa 3 (.t 1)) 23 false false,og 25 (.ld false 1 (.t 24)) 23 false false,og 26 (.lenS (.t 25)) 23 false false,og 27 (.fa 1 (.t 1)) 23 false false,og 28 (.ld false 1 (.t 27)) 23 false false,og 29 (.bin .neq (.t 26) (.t 28)) 23 false false,oo 30 (.pick (.t 23) (.c (.b true)) (.t 29)),ot 31 (.mv (.t 30)),og 32 (.fa 4 (.t 1)) 31 false false,og 33 (.ld false 1 (.t 32)) 31 false false,og 34 (.lenV (.t 33)) 31 false false,og 35 (.bin .eql (.t 34) (.c (.i .i64 0))) 31 false false,og 36 (.fa 1 (.t 1)) 31 false false,og 37 (.ld false 1 (.t 36)) 31 false false,og 38 (.bin .eql (.t 37) (.c (.i .i64 0))) 31 false false,og 39 (.eqk true false [.b] (.t 35) (.t 38)) 31 false false,ot 40 (.pick (.t 31) (.c (.b true)) (.t 39))]
abbrev i82r2:List IOper:=[oo 2 (.mv (.c (.b false)))]
abbrev i82r3:List IOper:=[oo 3 (.mv (.c (.i .i64 0)))]
abbrev i82r4:List IOper:=[oo 41 (.mv (.t 3)),oo 42 (.fa 4 (.t 1)),oo 43 (.ld false 1 (.t 42)),oo 44 (.lenV (.t 43)),ot 45 (.bin .lss (.t 41) (.t 44))]
abbrev i82r5:List (IOper×List Nat):=[(oo 48 (.fa 4 (.t 1)),[]),(oo 49 (.ld false 1 (.t 48)),[]),(oo 50 (.mv (.t 3)),[0,1]),(oo 51 (.ixaV 2 (.t 49) (.t 50)),[]),(oo 52 (.ixaA 2 1 (.t 51) (.c (.i .i64 0))),[]),(oo 53 (.ld false 1 (.t 52)),[]),(oo 54 (.bin .lss (.t 53) (.c (.i .i64 0))),[]),(ot 55 (.mv (.t 54)),[]),(og 56 (.fa 4 (.t 1)) 55 false false,[]),(og 57 (.ld false 1 (.t 56)) 55 false false,[]),(og 58 (.mv (.t 3)) 55 false false,[8,9]),(og 59 (.ixaV 2 (.t 57) (.t 58)) 55 false false,[]),(og 60 (.ixaA 2 1 (.t 59) (.c (.i .i64 0))) 55 false false,[]),(og 61 (.ld false 1 (.t 60)) 55 false false,[]),(og 62 (.fa 4 (.t 1)) 55 false false,[8,9,10,11,12,13]),(og 63 (.ld false 1 (.t 62)) 55 false false,[8,9,10,11,12,13]),(og 64 (.mv (.t 3)) 55 false false,[8,9,10,11,12,13,14,15]),(og 65 (.ixaV 2 (.t 63) (.t 64)) 55 false false,[8,9,10,11,12,13]),(og 66 (.ixaA 2 1 (.t 65) (.c (.i .i64 1))) 55 false false,[8,9,10,11,12,13]),(og 67 (.ld false 1 (.t 66)) 55 false false,[8,9,10,11,12,13]),(og 68 (.bin .geq (.t 61) (.t 67)) 55 false false,[]),(oo 69 (.pick (.t 55) (.c (.b true)) (.t 68)),[]),(ot 70 (.mv (.t 69)),[]),(og 71 (.fa 4 (.t 1)) 70 false false,[]),(og 72 (.ld false 1 (.t 71)) 70 false false,[]),(og 73 (.mv (.t 3)) 70 false false,[23,24]),(og 74 (.ixaV 2 (.t 72) (.t 73)) 70 false false,[]),(og 75 (.ixaA 2 1 (.t 74) (.c (.i .i64 1))) 70 false false,[]),(og 76 (.ld false 1 (.t 75)) 70 false false,[]),(og 77 (.fa 1 (.t 1)) 70 false false,[23,24,25,26,27,28]),(og 78 (.ld false 1 (.t 77)) 70 false false,[23,24,25,26,27,28]),(og 79 (.bin .gtr (.t 76) (.t 78)) 70 false false,[]),(oo 80 (.pick (.t 70) (.c (.b true)) (.t 79)),[]),(ot 81 (.mv (.t 80)),[]),(og 82 (.mv (.t 3)) 81 false false,[]),(og 83 (.bin .gtr (.t 82) (.c (.i .i64 0))) 81 false false,[]),(og 84 (.mv (.t 83)) 81 false true,[]),(og 85 (.fa 4 (.t 1)) 84 true false,[]),(og 86 (.ld false 1 (.t 85)) 84 true false,[]),(og 87 (.mv (.t 3)) 84 true false,[37,38]),(og 88 (.ixaV 2 (.t 86) (.t 87)) 84 true false,[]),(og 89 (.ixaA 2 1 (.t 88) (.c (.i .i64 0))) 84 true false,[]),(og 90 (.ld false 1 (.t 89)) 84 true false,[]),(og 91 (.fa 4 (.t 1)) 84 true false,[37,38,39,40,41,42]),(og 92 (.ld false 1 (.t 91)) 84 true false,[37,38,39,40,41,42]),(og 93 (.mv (.t 3)) 84 true false,[37,38,39,40,41,42,43,44]),(og 94 (.bin .sub (.t 93) (.c (.i .i64 1))) 84 true false,[37,38,39,40,41,42,43,44]),(og 95 (.ixaV 2 (.t 92) (.t 94)) 84 true false,[37,38,39,40,41,42]),(og 96 (.ixaA 2 1 (.t 95) (.c (.i .i64 1))) 84 true false,[37,38,39,40,41,42]),(og 97 (.ld false 1 (.t 96)) 84 true false,[37,38,39,40,41,42]),(og 98 (.bin .leq (.t 90) (.t 97)) 84 true false,[]),(og 99 (.pick (.t 84) (.t 98) (.c (.b false))) 81 false false,[]),(ot 100 (.pick (.t 81) (.c (.b true)) (.t 99)),[])]
abbrev i82r6:List IOper:=[oo 2 (.mv (.c (.b false)))]
abbrev i82r7:List IOper:=[oo 46 (.mv (.t 3)),oo 47 (.bin .add (.t 46) (.c (.i .i64 1))),oo 3 (.mv (.t 47))]
abbrev i82l8:ICode:=(.seq (.seq (.reg i82r4) (.cond (.t 45) .skip (.exit 0))) (.seq (.block 1 (.seq (.dreg i82r5) (.cond (.t 100) (.seq (.reg i82r6) .ret) .skip))) (.reg i82r7)))
abbrev i82r9:List IOper:=[oo 4 (.mv (.c (.i .i64 0)))]
abbrev i82r10:List IOper:=[oo 101 (.mv (.t 4)),oo 102 (.fa 1 (.t 1)),oo 103 (.ld false 1 (.t 102)),ot 104 (.bin .lss (.t 101) (.t 103))]
abbrev i82r11:List IOper:=[oo 107 (.fa 3 (.t 1)),oo 108 (.ld false 1 (.t 107)),oo 109 (.mv (.t 4)),oo 110 (.ixS (.t 108) (.t 109)),oo 111 (.bin .neq (.t 110) (.c (.i .u8 0))),ot 112 (.mv (.t 111)),og 113 (.ld true 5 (.t 1)) 112 true false,og 114 (.mv (.t 4)) 112 true false,og 115 (.call (.c (.fn 104 [])) [.t 113,.t 114]) 112 true false,og 116 (.not (.t 115)) 112 true false,ot 117 (.pick (.t 112) (.t 116) (.c (.b false)))]
abbrev i82r12:List IOper:=[oo 2 (.mv (.c (.b false)))]
abbrev i82r13:List IOper:=[oo 105 (.mv (.t 4)),oo 106 (.bin .add (.t 105) (.c (.i .i64 1))),oo 4 (.mv (.t 106))]
abbrev i82l14:ICode:=(.seq (.seq (.reg i82r10) (.cond (.t 104) .skip (.exit 2))) (.seq (.block 3 (.seq (.reg i82r11) (.cond (.t 117) (.seq (.reg i82r12) .ret) .skip))) (.reg i82r13)))
abbrev i82r15:List IOper:=[oo 2 (.mv (.c (.b true)))]
abbrev i82c:ICode:=(.seq (.reg i82r0) (.seq (.seq (.reg i82r1) (.cond (.t 40) (.seq (.reg i82r2) .ret) .skip)) (.seq (.seq (.reg i82r3) (.block 0 (.loop i82l8))) (.seq (.seq (.reg i82r9) (.block 2 (.loop i82l14))) (.seq (.reg i82r15) .ret)))))
def i82:IFn:={np:=1,N:=118,ct:=[40,45,100,104,117],code:=i82c,res:=[.t 2]}
theorem i82_eq:compF Tryz.prog Tryz.f82=some i82:=by kernel_rfl
abbrev i83r0:List IOper:=[oo 1 (.box (.t 0)),oo 2 (.mv (.c (.b false)))]
abbrev i83r1:List IOper:=[oo 3 (.mv (.c (.i .i64 0)))]
abbrev i83r2:List IOper:=[oo 4 (.mv (.t 3)),oo 5 (.fa 1 (.t 1)),oo 6 (.ld false 1 (.t 5)),ot 7 (.bin .lss (.t 4) (.t 6))]
abbrev i83r3:List IOper:=[oo 10 (.ld true 5 (.t 1)),oo 11 (.mv (.t 3)),oo 12 (.call (.c (.fn 104 [])) [.t 10,.t 11]),ot 13 (.not (.t 12))]
abbrev i83r4:List IOper:=[oo 2 (.mv (.c (.b false)))]
abbrev i83r5:List IOper:=[oo 8 (.mv (.t 3)),oo 9 (.bin .add (.t 8) (.c (.i .i64 1))),oo 3 (.mv (.t 9))]
abbrev i83l6:ICode:=(.seq (.seq (.reg i83r2) (.cond (.t 7) .skip (.exit 0))) (.seq (.block 1 (.seq (.reg i83r3) (.cond (.t 13) (.seq (.reg i83r4) .ret) .skip))) (.reg i83r5)))
abbrev i83r7:List IOper:=[oo 2 (.mv (.c (.b true)))]
abbrev i83c:ICode:=(.seq (.reg i83r0) (.seq (.seq (.reg i83r1) (.block 0 (.loop i83l6))) (.seq (.reg i83r7) .ret)))
def i83:IFn:={np:=1,N:=14,ct:=[7,13],code:=i83c,res:=[.t 2]}
theorem i83_eq:compF Tryz.prog Tryz.f83=some i83:=by kernel_rfl
abbrev i89r0:List IOper:=[oo 1 (.box (.t 0)),oo 2 (.new [.i .i64 0,.ns])]
abbrev i89r1:List IOper:=[oo 6 (.fa 0 (.t 1)),oo 7 (.ld false 1 (.t 6)),oo 8 (.build [.i .i64 0,.ns] [(0,1,.t 7)]),oo 3 (.new [.i .i64 0,.ns]),on_ (.st 2 (.t 3) (.t 8))]
abbrev i89r2:List IOper:=[oo 4 (.mv (.c (.i .i64 0)))]
abbrev i89r3:List IOper:=[oo 9 (.mv (.t 4)),oo 10 (.fa 1 (.t 1)),oo 11 (.ld false 1 (.t 10)),oo 12 (.lenV (.t 11)),ot 13 (.bin .lss (.t 9) (.t 12))]
abbrev i89r4:List IOper:=[oo 16 (.fa 1 (.t 1)),oo 17 (.ld false 1 (.t 16)),oo 18 (.mv (.t 4)),oo 19 (.ixaV 5 (.t 17) (.t 18)),oo 20 (.ld true 5 (.t 19)),oo 5 (.new [.i .i64 0,.i .i64 0,.i .i64 0,.s [],.ns]),on_ (.st 5 (.t 5) (.t 20))]
abbrev i89r5:List IOper:=[oo 21 (.bsl [] 0 []),oo 22 (.fa 4 (.t 5)),oo 23 (.ld false 1 (.t 22)),oo 24 (.app 2 16 [.i .i64 0,.i .i64 0] (.t 21) (.t 23)),oo 25 (.fa 4 (.t 5)),on_ (.st 1 (.t 25) (.t 24))]
abbrev i89r6:List IOper:=[oo 26 (.fa 1 (.t 3)),oo 27 (.ld false 1 (.t 26)),oo 28 (.ld true 5 (.t 5)),oo 29 (.bsl [.i .i64 0,.i .i64 0,.i .i64 0,.s [],.ns] 1 [(0,5,.t 28)]),oo 30 (.app 5 64 [.i .i64 0,.i .i64 0,.i .i64 0,.s [],.ns] (.t 27) (.t 29)),oo 31 (.fa 1 (.t 3)),on_ (.st 1 (.t 31) (.t 30))]
abbrev i89r7:List IOper:=[oo 14 (.mv (.t 4)),oo 15 (.bin .add (.t 14) (.c (.i .i64 1))),oo 4 (.mv (.t 15))]
abbrev i89l8:ICode:=(.seq (.seq (.reg i89r3) (.cond (.t 13) .skip (.exit 0))) (.seq (.block 1 (.seq (.reg i89r4) (.seq (.reg i89r5) (.reg i89r6)))) (.reg i89r7)))
abbrev i89r9:List IOper:=[oo 32 (.ld true 2 (.t 3)),on_ (.st 2 (.t 2) (.t 32))]
abbrev i89c:ICode:=(.seq (.reg i89r0) (.seq (.reg i89r1) (.seq (.seq (.reg i89r2) (.block 0 (.loop i89l8))) (.seq (.reg i89r9) .ret))))
def i89:IFn:={np:=1,N:=33,ct:=[13],code:=i89c,res:=[.c 2 true 2]}
theorem i89_eq:compF Tryz.prog Tryz.f89=some i89:=by kernel_rfl
abbrev i90r0:List IOper:=[oo 2 (.box (.t 0)),oo 3 (.box (.t 1)),oo 4 (.new [.i .i64 0,.i .i64 0,.i .i64 0,.s [],.ns]),oo 5 (.mv (.c (.b false)))]
abbrev i90r1:List IOper:=[oo 14 (.fa 3 (.t 2)),oo 15 (.ld false 1 (.t 14)),oo 16 (.s2b (.t 15)),oo 6 (.mv (.t 16))]
abbrev i90r2:List IOper:=[oo 17 (.fa 1 (.t 2)),oo 18 (.ld false 1 (.t 17)),oo 19 (.mks 1 1 [.b false] (.t 18) (.t 18)),oo 7 (.mv (.t 19))]
abbrev i90r3:List IOper:=[oo 8 (.mv (.c (.i .i64 0)))]
abbrev i90r4:List IOper:=[oo 20 (.mv (.t 8)),oo 21 (.fa 1 (.t 2)),oo 22 (.ld false 1 (.t 21)),ot 23 (.bin .lss (.t 20) (.t 22))]
abbrev i90r5:List IOper:=[oo 26 (.mv (.t 7)),oo 27 (.mv (.t 8)),oo 28 (.ld true 5 (.t 2)),oo 29 (.mv (.t 8)),oo 30 (.call (.c (.fn 104 [])) [.t 28,.t 29]),oo 31 (.ixaV 1 (.t 26) (.t 27)),on_ (.st 1 (.t 31) (.t 30))]
abbrev i90r6:List IOper:=[oo 24 (.mv (.t 8)),oo 25 (.bin .add (.t 24) (.c (.i .i64 1))),oo 8 (.mv (.t 25))]
abbrev i90l7:ICode:=(.seq (.seq (.reg i90r4) (.cond (.t 23) .skip (.exit 0))) (.seq (.block 1 (.reg i90r5)) (.reg i90r6)))
abbrev i90r8:List IOper:=[oo 9 (.mv (.c (.i .i64 0)))]
abbrev i90r9:List IOper:=[oo 32 (.mv (.t 9)),oo 33 (.fa 4 (.t 3)),oo 34 (.ld false 1 (.t 33)),oo 35 (.lenS (.t 34)),ot 36 (.bin .lss (.t 32) (.t 35))]
abbrev i90r10:List IOper:=[oo 39 (.fa 3 (.t 3)),oo 40 (.ld false 1 (.t 39)),oo 41 (.mv (.t 9)),oo 42 (.bin .add (.t 40) (.t 41)),oo 10 (.mv (.t 42))]
abbrev i90r11:List (IOper×List Nat):=[(oo 43 (.mv (.t 7)),[]),(oo 44 (.mv (.t 10)),[0]),(oo 45 (.ixaV 1 (.t 43) (.t 44)),[]),(oo 46 (.ld false 1 (.t 45)),[]),(ot 47 (.mv (.t 46)),[]),(og 48 (.mv (.t 6)) 47 true false,[]),(og 49 (.mv (.t 10)) 47 true false,[5]),(og 50 (.ixaV 1 (.t 48) (.t 49)) 47 true false,[]),(og 51 (.ld false 1 (.t 50)) 47 true false,[]),(og 52 (.fa 4 (.t 3)) 47 true false,[5,6,7,8]),(og 53 (.ld false 1 (.t 52)) 47 true false,[5,6,7,8]),(og 54 (.mv (.t 9)) 47 true false,[5,6,7,8,9,10]),(og 55 (.ixS (.t 53) (.t 54)) 47 true false,[5,6,7,8]),(og 56 (.bin .neq (.t 51) (.t 55)) 47 true false,[]),(ot 57 (.pick (.t 47) (.t 56) (.c (.b false))),[])]
abbrev i90r12:List IOper:=[oo 58 (.ld true 5 (.t 2)),on_ (.st 5 (.t 4) (.t 58)),oo 5 (.mv (.c (.b false)))]
abbrev i90r13:List IOper:=[oo 59 (.mv (.t 6)),oo 60 (.mv (.t 10)),oo 61 (.fa 4 (.t 3)),oo 62 (.ld false 1 (.t 61)),oo 63 (.mv (.t 9)),oo 64 (.ixS (.t 62) (.t 63)),oo 65 (.ixaV 1 (.t 59) (.t 60)),on_ (.st 1 (.t 65) (.t 64))]
abbrev i90r14:List IOper:=[oo 66 (.mv (.t 7)),oo 67 (.mv (.t 10)),oo 68 (.ixaV 1 (.t 66) (.t 67)),on_ (.st 1 (.t 68) (.c (.b true)))]
abbrev i90r15:List IOper:=[oo 37 (.mv (.t 9)),oo 38 (.bin .add (.t 37) (.c (.i .i64 1))),oo 9 (.mv (.t 38))]
abbrev i90l16:ICode:=(.seq (.seq (.reg i90r9) (.cond (.t 36) .skip (.exit 2))) (.seq (.block 3 (.seq (.reg i90r10) (.seq (.seq (.dreg i90r11) (.cond (.t 57) (.seq (.reg i90r12) .ret) .skip)) (.seq (.reg i90r13) (.reg i90r14))))) (.reg i90r15)))
abbrev i90r17:List IOper:=[oo 69 (.fa 0 (.t 2)),oo 70 (.ld false 1 (.t 69)),oo 71 (.fa 1 (.t 2)),oo 72 (.ld false 1 (.t 71)),oo 73 (.fa 2 (.t 2)),oo 74 (.ld false 1 (.t 73)),oo 75 (.mv (.t 6)),oo 76 (.b2s (.t 75)),oo 77 (.build [.i .i64 0,.i .i64 0,.i .i64 0,.s [],.ns] [(0,1,.t 70),(1,1,.t 72),(2,1,.t 74),(3,1,.t 76)]),oo 11 (.new [.i .i64 0,.i .i64 0,.i .i64 0,.s [],.ns]),on_ (.st 5 (.t 11) (.t 77))]
abbrev i90r18:List IOper:=[oo 12 (.mv (.c (.i .i64 0)))]
abbrev i90r19:List IOper:=[oo 78 (.mv (.t 12)),oo 79 (.fa 1 (.t 2)),oo 80 (.ld false 1 (.t 79)),ot 81 (.bin .lss (.t 78) (.t 80))]
abbrev i90r20:List IOper:=[oo 84 (.mv (.t 7)),oo 85 (.mv (.t 12)),oo 86 (.ixaV 1 (.t 84) (.t 85)),oo 87 (.ld false 1 (.t 86)),ot 88 (.not (.t 87))]
abbrev i90r21:List IOper:=[oo 89 (.fa 4 (.t 11)),oo 90 (.ld false 1 (.t 89)),oo 91 (.lenV (.t 90)),oo 13 (.mv (.t 91))]
abbrev i90r22:List IOper:=[oo 92 (.mv (.t 13)),oo 93 (.bin .gtr (.t 92) (.c (.i .i64 0))),ot 94 (.mv (.t 93)),og 95 (.fa 4 (.t 11)) 94 true false,og 96 (.ld false 1 (.t 95)) 94 true false,og 97 (.mv (.t 13)) 94 true false,og 98 (.bin .sub (.t 97) (.c (.i .i64 1))) 94 true false,og 99 (.ixaV 2 (.t 96) (.t 98)) 94 true false,og 100 (.ixaA 2 1 (.t 99) (.c (.i .i64 1))) 94 true false,og 101 (.ld false 1 (.t 100)) 94 true false,og 102 (.mv (.t 12)) 94 true false,og 103 (.bin .eql (.t 101) (.t 102)) 94 true false,ot 104 (.pick (.t 94) (.t 103) (.c (.b false)))]
abbrev i90r23:List IOper:=[oo 105 (.fa 4 (.t 11)),oo 106 (.ld false 1 (.t 105)),oo 107 (.mv (.t 13)),oo 108 (.bin .sub (.t 107) (.c (.i .i64 1))),oo 109 (.mv (.t 12)),oo 110 (.bin .add (.t 109) (.c (.i .i64 1))),oo 111 (.ixaV 2 (.t 106) (.t 108)),oo 112 (.ixaA 2 1 (.t 111) (.c (.i .i64 1))),on_ (.st 1 (.t 112) (.t 110))]
abbrev i90r24:List IOper:=[oo 113 (.fa 4 (.t 11)),oo 114 (.ld false 1 (.t 113)),oo 115 (.mv (.t 12)),oo 116 (.mv (.t 12)),oo 117 (.bin .add (.t 116) (.c (.i .i64 1))),oo 118 (.build [.i .i64 0,.i .i64 0] [(0,1,.t 115),(1,1,.t 117)]),oo 119 (.bsl [.i .i64 0,.i .i64 0] 1 [(0,2,.t 118)]),oo 120 (.app 2 16 [.i .i64 0,.i .i64 0] (.t 114) (.t 119)),oo 121 (.fa 4 (.t 11)),on_ (.st 1 (.t 121) (.t 120))]
abbrev i90r25:List IOper:=[oo 82 (.mv (.t 12)),oo 83 (.bin .add (.t 82) (.c (.i .i64 1))),oo 12 (.mv (.t 83))]
abbrev i90l26:ICode:=(.seq (.seq (.reg i90r19) (.cond (.t 81) .skip (.exit 4))) (.seq (.block 5 (.seq (.seq (.reg i90r20) (.cond (.t 88) (.exit 5) .skip)) (.seq (.reg i90r21) (.seq (.reg i90r22) (.cond (.t 104) (.reg i90r23) (.reg i90r24)))))) (.reg i90r25)))
abbrev i90r27:List IOper:=[oo 122 (.ld true 5 (.t 11)),on_ (.st 5 (.t 4) (.t 122)),oo 5 (.mv (.c (.b true)))]
abbrev i90c:ICode:=(.seq (.reg i90r0) (.seq (.reg i90r1) (.seq (.reg i90r2) (.seq (.seq (.reg i90r3) (.block 0 (.loop i90l7))) (.seq (.seq (.reg i90r8) (.block 2 (.loop i90l16))) (.seq (.reg i90r17) (.seq (.seq (.reg i90r18) (.block 4 (.loop i90l26))) (.seq (.reg i90r27) .ret))))))))
def i90:IFn:={np:=2,N:=123,ct:=[23,36,57,81,88,104],code:=i90c,res:=[.c 4 true 5,.t 5]}
theorem i90_eq:compF Tryz.prog Tryz.f90=some i90:=by kernel_rfl
abbrev i104r0:List IOper:=[oo 2 (.box (.t 0)),oo 4 (.mv (.c (.b false)))]
abbrev i104r1:List IOper:=[oo 5 (.mv (.c (.i .i64 0)))]
abbrev i104r2:List IOper:=[oo 6 (.mv (.t 5)),oo 7 (.fa 4 (.t 2)),oo 8 (.ld false 1 (.t 7)),oo 9 (.lenV (.t 8)),ot 10 (.bin .lss (.t 6) (.t 9))]
abbrev i104r3:List IOper:=[oo 13 (.fa 4 (.t 2)),oo 14 (.ld false 1 (.t 13)),oo 15 (.mv (.t 5)),oo 16 (.ixaV 2 (.t 14) (.t 15)),oo 17 (.ixaA 2 1 (.t 16) (.c (.i .i64 0))),oo 18 (.ld false 1 (.t 17)),oo 19 (.mv (.t 1)),oo 20 (.bin .leq (.t 18) (.t 19)),ot 21 (.mv (.t 20)),og 22 (.mv (.t 1)) 21 true false,og 23 (.fa 4 (.t 2)) 21 true false,og 24 (.ld false 1 (.t 23)) 21 true false,og 25 (.mv (.t 5)) 21 true false,og 26 (.ixaV 2 (.t 24) (.t 25)) 21 true false,og 27 (.ixaA 2 1 (.t 26) (.c (.i .i64 1))) 21 true false,og 28 (.ld false 1 (.t 27)) 21 true false,og 29 (.bin .lss (.t 22) (.t 28)) 21 true false,ot 30 (.pick (.t 21) (.t 29) (.c (.b false)))]
abbrev i104r4:List IOper:=[oo 4 (.mv (.c (.b true)))]
abbrev i104r5:List IOper:=[oo 11 (.mv (.t 5)),oo 12 (.bin .add (.t 11) (.c (.i .i64 1))),oo 5 (.mv (.t 12))]
abbrev i104l6:ICode:=(.seq (.seq (.reg i104r2) (.cond (.t 10) .skip (.exit 0))) (.seq (.block 1 (.seq (.reg i104r3) (.cond (.t 30) (.seq (.reg i104r4) .ret) .skip))) (.reg i104r5)))
abbrev i104r7:List IOper:=[oo 4 (.mv (.c (.b false)))]
abbrev i104c:ICode:=(.seq (.reg i104r0) (.seq (.seq (.reg i104r1) (.block 0 (.loop i104l6))) (.seq (.reg i104r7) .ret)))
def i104:IFn:={np:=2,N:=31,ct:=[10,30],code:=i104c,res:=[.t 4]}
theorem i104_eq:compF Tryz.prog Tryz.f104=some i104:=by kernel_rfl
end Go.Proofs.Flz
namespace Go.Proofs.Flt
open Go.Ab
def srt (ln lo:Int):List (Int×Int)->Prop
 |[]=>True
 |x::r=>lo<x.1/\x.1<x.2/\x.2<=ln/\srt ln x.2 r
theorem srt_mono {ln lo lo2:Int} (h:lo2<=lo): ∀{l:List (Int×Int)},srt ln lo l->srt ln lo2 l
 |[],_=>trivial
 |x::r,hs=>⟨by have:=hs.1;omega,hs.2⟩
theorem gotB_some {ln:Int}: ∀{e:Int} {l:List (Int×Int)},0<=e->(gotB ln (some e) l=true↔srt ln e l)
 |e,[],_=>by simp [gotB,srt]
 |e,x::r,he=>by
  simp only [gotB,srt,Bool.and_eq_true,decide_eq_true_eq];constructor
  ·rintro ⟨h1,h2,h3,h4,h5⟩;exact ⟨h4,h2,h3,(gotB_some (by omega)).1 h5⟩
  ·rintro ⟨h4,h2,h3,h5⟩;exact ⟨by omega,h2,h3,h4,(gotB_some (by omega)).2 h5⟩
theorem gotB_srt {ln:Int} {l:List (Int×Int)}:gotB ln none l=true↔srt ln (-1) l:=by
 cases l with
 |nil=>simp [gotB,srt]
 |cons x r=>
  simp only [gotB,srt,Bool.and_eq_true,decide_eq_true_eq];constructor
  ·rintro ⟨h1,h2,h3,h4,h5⟩;exact ⟨by omega,h2,h3,(gotB_some (by omega)).1 h5⟩
  ·rintro ⟨h4,h2,h3,h5⟩;exact ⟨by omega,h2,h3,trivial,(gotB_some (by omega)).2 h5⟩
def cov (l:List (Int×Int)) (o:Int):Prop:= ∃x∈l,x.1<=o/\o<x.2
theorem cov_nil {o:Int}: ¬cov [] o:=fun ⟨x,h,_⟩=>by cases h
theorem cov_cons {x:Int×Int} {l:List (Int×Int)} {o:Int}:cov (x::l) o↔(x.1<=o/\o<x.2)\/cov l o:=by
 constructor
 ·rintro ⟨y,hy,h⟩;rcases List.mem_cons.1 hy with rfl|h2
  ·exact .inl h
  ·exact .inr ⟨y,h2,h⟩
 ·rintro (h|⟨y,hy,h⟩)
  ·exact ⟨x,List.mem_cons_self,h⟩
  ·exact ⟨y,List.mem_cons_of_mem _ hy,h⟩
theorem cov_gt {ln:Int}: ∀{lo:Int} {l:List (Int×Int)} {o:Int},srt ln lo l->cov l o->lo<o/\o<ln
 |lo,[],o,_,h=>absurd h cov_nil
 |lo,x::r,o,hs,h=>by
  rcases cov_cons.1 h with h1|h1
  ·have:=hs.1;have:=hs.2.2.1;omega
  ·have:=cov_gt hs.2.2.2 h1;have:=hs.1;have:=hs.2.1;omega
def mrg (r:Int×Int):List (Int×Int)->List (Int×Int)×(Int×Int)
 |[]=>([],r)
 |x::l=>bif meetB r x then mrg (min r.1 x.1,max r.2 x.2) l else (x::(mrg r l).1,(mrg r l).2)
theorem foldl_mrg: ∀(l:List (Int×Int)) (A:List (Int×Int)) (r:Int×Int),l.foldl grow1 (A,r)=(A++(mrg r l).1,(mrg r l).2)
 |[],A,r=>by simp [mrg]
 |x::l,A,r=>by
  simp only [List.foldl_cons,grow1,mrg];cases meetB r x
  ·simp only [cond_false];rw [foldl_mrg l];simp
  ·simp only [cond_true];rw [foldl_mrg l]
theorem gotS_mrg (l:List (Int×Int)) (r:Int×Int):gotS l r=putG (mrg r l).2 (mrg r l).1:=by
 simp only [gotS,foldl_mrg,List.nil_append]
theorem meetB_no {r x:Int×Int}:meetB r x=false↔x.2<r.1\/x.1>r.2:=by
 simp only [meetB,Bool.not_eq_false',Bool.or_eq_true,decide_eq_true_eq]
theorem meetB_yes {r x:Int×Int}:meetB r x=true↔r.1<=x.2/\x.1<=r.2:=by
 simp only [meetB,Bool.not_eq_true',Bool.or_eq_false_iff,decide_eq_false_iff_not];omega
theorem mrg_far {ln:Int} {r:Int×Int}: ∀{e:Int} {l:List (Int×Int)},srt ln e l->r.2<=e->mrg r l=(l,r)
 |e,[],_,_=>rfl
 |e,x::l,hs,he=>by
  have h1:meetB r x=false:=meetB_no.2 (.inr (by have:=hs.1;omega))
  simp only [mrg,h1,cond_false];rw [mrg_far hs.2.2.2 (by have:=hs.1;have:=hs.2.1;omega)]
theorem mrg_low {ln:Int} {c:Int}: ∀{e:Int} {l:List (Int×Int)} {r:Int×Int},srt ln e l->c<=e->c<r.1->c<(mrg r l).2.1
 |e,[],r,_,_,h=>h
 |e,x::l,r,hs,hc,h=>by
  simp only [mrg];have h1:=hs.1;have h2:=hs.2.1;cases meetB r x
  ·exact mrg_low hs.2.2.2 (by omega) h
  ·exact mrg_low hs.2.2.2 (by omega) (by show c<min r.1 x.1;omega)
theorem put_srt {ln:Int}: ∀{lo:Int} {l:List (Int×Int)} {r:Int×Int},srt ln lo l->lo<r.1->r.1<r.2->r.2<=ln->srt ln lo (putG (mrg r l).2 (mrg r l).1)
 |lo,[],r,_,h1,h2,h3=>⟨h1,h2,h3,trivial⟩
 |lo,x::l,r,hs,h1,h2,h3=>by
  obtain ⟨s1,s2,s3,s4⟩:=hs;cases hm:meetB r x
  ·rcases meetB_no.1 hm with h|h
   ·simp only [mrg,hm,cond_false];have hlow:=mrg_low (r:=r) s4 (Int.le_refl _) h;have hnot:decide ((mrg r l).2.1<x.1)=false:=decide_eq_false (by omega)
    simp only [putG,hnot,cond_false];exact ⟨s1,s2,s3,put_srt s4 h h2 h3⟩
   ·have hf:mrg r (x::l)=(x::l,r):=by
     simp only [mrg,hm,cond_false];rw [mrg_far s4 (by omega)]
    rw [hf];have hy:decide (r.1<x.1)=true:=decide_eq_true (by omega)
    simp only [putG,hy,cond_true];exact ⟨h1,h2,h3,h,s2,s3,s4⟩
  ·have h:=meetB_yes.1 hm;simp only [mrg,hm,cond_true];exact put_srt (srt_mono (by omega) s4) (by show lo<min r.1 x.1;omega) (by show min r.1 x.1<max r.2 x.2;omega) (by show max r.2 x.2<=ln;omega)
theorem putG_cov {r:Int×Int} {o:Int}: ∀{l:List (Int×Int)},cov (putG r l) o↔(r.1<=o/\o<r.2)\/cov l o
 |[]=>cov_cons
 |x::l=>by
  simp only [putG];cases decide (r.1<x.1)
  ·rw [cond_false,cov_cons,cov_cons,putG_cov];constructor
   ·rintro (h|h|h)
    ·exact .inr (.inl h)
    ·exact .inl h
    ·exact .inr (.inr h)
   ·rintro (h|h|h)
    ·exact .inr (.inl h)
    ·exact .inl h
    ·exact .inr (.inr h)
  ·rw [cond_true,cov_cons]
theorem mrg_cov {o:Int}: ∀{l:List (Int×Int)} {r:Int×Int},r.1<r.2->(∀x∈l,x.1<x.2)->((((mrg r l).2.1<=o/\o<(mrg r l).2.2)\/cov (mrg r l).1 o)↔(r.1<=o/\o<r.2)\/cov l o)
 |[],r,_,_=>Iff.rfl
 |x::l,r,hr,hx=>by
  have hx1:=hx x List.mem_cons_self;have hx2: ∀y∈l,y.1<y.2:=fun y hy=>hx y (List.mem_cons_of_mem _ hy);cases hm:meetB r x
  ·simp only [mrg,hm,cond_false];rw [cov_cons,cov_cons];have ih:=mrg_cov (o:=o) (l:=l) hr hx2;constructor
   ·rintro (h|h|h)
    ·rcases ih.1 (.inl h) with h2|h2
     ·exact .inl h2
     ·exact .inr (.inr h2)
    ·exact .inr (.inl h)
    ·rcases ih.1 (.inr h) with h2|h2
     ·exact .inl h2
     ·exact .inr (.inr h2)
   ·rintro (h|h|h)
    ·rcases ih.2 (.inl h) with h2|h2
     ·exact .inl h2
     ·exact .inr (.inr h2)
    ·exact .inr (.inl h)
    ·rcases ih.2 (.inr h) with h2|h2
     ·exact .inl h2
     ·exact .inr (.inr h2)
  ·have h:=meetB_yes.1 hm;simp only [mrg,hm,cond_true];rw [mrg_cov (by show min r.1 x.1<max r.2 x.2;omega) hx2,cov_cons]
   show (min r.1 x.1<=o/\o<max r.2 x.2)\/_↔_;constructor
   ·rintro (h2|h2)
    ·by_cases h3:r.1<=o/\o<r.2
     ·exact .inl h3
     ·exact .inr (.inl (by omega))
    ·exact .inr (.inr h2)
   ·rintro (h2|h2|h2)
    ·exact .inl (by omega)
    ·exact .inl (by omega)
    ·exact .inr h2
theorem srt_mem {ln:Int}: ∀{lo:Int} {l:List (Int×Int)},srt ln lo l-> ∀x∈l,x.1<x.2
 |lo,[],_,x,h=>by cases h
 |lo,y::l,hs,x,h=>by
  rcases List.mem_cons.1 h with rfl|h2
  ·exact hs.2.1
  ·exact srt_mem hs.2.2.2 x h2
theorem gotS_srt {ln lo:Int} {l:List (Int×Int)} {r:Int×Int} (h:srt ln lo l) (h1:lo<r.1) (h2:r.1<r.2) (h3:r.2<=ln):srt ln lo (gotS l r):=by
 rw [gotS_mrg];exact put_srt h h1 h2 h3
theorem gotS_cov {ln lo:Int} {l:List (Int×Int)} {r:Int×Int} (h:srt ln lo l) (h2:r.1<r.2) {o:Int}:cov (gotS l r) o↔(r.1<=o/\o<r.2)\/cov l o:=by
 rw [gotS_mrg,putG_cov,mrg_cov h2 (srt_mem h)]
theorem srt_uniq {ln:Int}: ∀{lo lo2:Int} {l l2:List (Int×Int)},srt ln lo l->srt ln lo2 l2->(∀o,cov l o↔cov l2 o)->l=l2
 |lo,lo2,[],[],_,_,_=>rfl
 |lo,lo2,[],y::l2,_,h2,hc=>absurd ((hc y.1).2 (cov_cons.2 (.inl ⟨Int.le_refl _,h2.2.1⟩))) cov_nil
 |lo,lo2,x::l,[],h1,_,hc=>absurd ((hc x.1).1 (cov_cons.2 (.inl ⟨Int.le_refl _,h1.2.1⟩))) cov_nil
 |lo,lo2,x::l,y::l2,h1,h2,hc=>by
  obtain ⟨a1,a2,a3,a4⟩:=h1;obtain ⟨b1,b2,b3,b4⟩:=h2;have gl: ∀o,cov l o->x.2<o:=fun o h=>(cov_gt a4 h).1;have gl2: ∀o,cov l2 o->y.2<o:=fun o h=>(cov_gt b4 h).1;have e1:x.1=y.1:=by
   have p:=(hc x.1).1 (cov_cons.2 (.inl ⟨Int.le_refl _,a2⟩));have q:=(hc y.1).2 (cov_cons.2 (.inl ⟨Int.le_refl _,b2⟩));rcases cov_cons.1 p with p|p
   ·rcases cov_cons.1 q with q|q
    ·omega
    ·have:=gl _ q;omega
   ·have:=gl2 _ p;rcases cov_cons.1 q with q|q
    ·omega
    ·have:=gl _ q;omega
  have e2:x.2=y.2:=by
   rcases Int.lt_trichotomy x.2 y.2 with h|h|h
   ·have p:=(hc x.2).2 (cov_cons.2 (.inl ⟨by omega,h⟩))
    rcases cov_cons.1 p with p|p
    ·omega
    ·have:=gl _ p;omega
   ·exact h
   ·have p:=(hc y.2).1 (cov_cons.2 (.inl ⟨by omega,h⟩))
    rcases cov_cons.1 p with p|p
    ·omega
    ·have:=gl2 _ p;omega
  have e:x=y:=Prod.ext e1 e2;subst e;rw [srt_uniq a4 b4 (fun o=> ?_)];constructor
  ·intro h;rcases cov_cons.1 ((hc o).1 (cov_cons.2 (.inr h))) with h3|h3
   ·have:=gl _ h;omega
   ·exact h3
  ·intro h;rcases cov_cons.1 ((hc o).2 (cov_cons.2 (.inr h))) with h3|h3
   ·have:=gl2 _ h;omega
   ·exact h3
end Go.Proofs.Flt
namespace Go.Proofs.Flz
open Go.Ab Go.Proofs.Flt
def thB (l:List (Int×Int)) (o:Int):Bool:=l.any fun x=>decide (x.1<=o)&&decide (o<x.2)
theorem thB_cov {l:List (Int×Int)} {o:Int}:thB l o=true↔cov l o:=by
 simp only [thB,cov,List.any_eq_true,Bool.and_eq_true,decide_eq_true_eq]
theorem gp_at {C:List (Int×Int)} {p:Nat} {s:Int×Int} (hs:C[p]? =some s):(rows gp C)[p*2]? =some (.i .i64 s.1)/\(rows gp C)[p*2+1]? =some (.i .i64 s.2):=by
 have h1:=rows_at (f:=gp) gp_len hs;constructor
 ·have h2:(List.take 2 (List.drop (p*2) (rows gp C)))[0]? =some (.i .i64 s.1):=by rw [show List.take 2 (List.drop (p*2) (rows gp C))=gp s from h1];rfl
  rw [List.getElem?_take,if_pos (by decide),List.getElem?_drop,Nat.add_zero] at h2
  exact h2
 ·have h2:(List.take 2 (List.drop (p*2) (rows gp C)))[1]? =some (.i .i64 s.2):=by rw [show List.take 2 (List.drop (p*2) (rows gp C))=gp s from h1];rfl
  rw [List.getElem?_take,if_pos (by decide),List.getElem?_drop] at h2
  exact h2
theorem w104 (h:Flt.Hf) (o:Int) (hg:h.got.length<=9223372036854775807):FTL Tryz.prog 104 [.agg h.l,.i .i64 o] [] 0 (.b (thB h.got o)) [] 0:=by
 refine FTL.of_iw (cx:=cxT []) Sound.nil mo Tryz.func104 i104_eq (by simp [i104]) (iw_of_jw ?_)
 dsimp only [i104,Flt.Hf.l];obtain ⟨kd,ln,sq,bd,got⟩:=h;dsimp only at hg ⊢;have gb: ∀j,belL j (rows gp got)=true:=fun j=>belL_mono0 _ (rows_bel gp_bel);have hga:=fun (k:Nat) s (hk:got[k]? =some s)=>gp_at hk;have hR: ∃R,R=thB got o:=⟨_,rfl⟩;obtain ⟨R,hR⟩:=hR;rw [<-hR];generalize rows gp got=G at*;simp only [go_sem,simprocAttr];refine Loop.countI (F:=⟨Tryz.prog,cxT [],[10,30],31,0⟩) Sound.nil mo got.length (fun k=>R=thB (got.drop k) o) (fun k=>[(1,.i .i64 o),(2,.p 0 0),(5,.i .i64 (k:Int))]) (fun k=>[(0,{cells:=[.i .i64 kd,.i .i64 ln,.i .i64 sq,.s bd,.fz G got.length]})]) 1 (by decide) (by simpa using hR) ?_ ?_ (fun k hk hRk=> ?_)
 ·simp only [go_sem,Int.natCast_zero,AV.bel,belL,nblt,simprocAttr]
 ·simp only [go_sem,AV.bel,belL,nblt,gb,simprocAttr]
 by_cases hlt:k<got.length
 ·obtain ⟨⟨a,b⟩,hx⟩: ∃x,got[k]? =some x:=⟨_,List.getElem?_eq_getElem hlt⟩;obtain ⟨g1,g2⟩:=hga k _ hx;have hd:got.drop k=(a,b)::got.drop (k+1):=by
   rw [List.drop_eq_getElem_cons hlt];rw [List.getElem?_eq_getElem hlt] at hx;rw [Option.some.inj hx]
  have c1:decide ((k:Int)<(got.length:Int))=true:=decide_eq_true (by omega)
  have c2:decide (0<=(k:Int)/\(k:Int)<(got.length:Int))=true:=decide_eq_true (by omega)
  have wk:IntKind.i64.wrap ((k:Int)+1)=((k+1:Nat):Int):=by rw [wrapL (by omega) (by omega)];omega
  rw [hd] at hRk;simp only [thB,List.any_cons] at hRk;cases d1:decide (a<=o)
  ·rw [d1,Bool.false_and,Bool.false_or] at hRk;simp only [go_sem,c1,c2,g1,g2,d1,wk,AV.bel,belL,nblt,gb,simprocAttr];exact ⟨hlt,hRk⟩
  ·cases d2:decide (o<b)
   ·rw [d1,d2,Bool.true_and,Bool.false_or] at hRk;simp only [go_sem,c1,c2,g1,g2,d1,d2,wk,AV.bel,belL,nblt,gb,simprocAttr];exact ⟨hlt,hRk⟩
   ·rw [d1,d2,Bool.true_and,Bool.true_or] at hRk;rw [hRk];simp only [go_sem,c1,c2,g1,g2,d1,d2,simprocAttr];exact Ends.pureE rfl rfl
 ·have c1:decide ((k:Int)<(got.length:Int))=false:=decide_eq_false (by omega)
  have hd:got.drop k=[]:=List.drop_of_length_le (by omega)
  rw [hd] at hRk;rw [show R=false from hRk]
  simp only [go_sem,c1,simprocAttr];exact Ends.pureE rfl rfl
def k104:Ct
 |[.agg c,.i .i64 o],_,n=>(hf5 c).bind fun h=>some (decide (h.got.length<=9223372036854775807),{v:= .b (thB h.got o),n})
 |_,_,_=>none
theorem s104:SoundAt Tryz.prog 104 k104:=fun args h n c E hc ht=>by
 unfold k104 at hc;split at hc
 ·simp only [Option.bind_eq_some_iff] at hc;obtain ⟨x,hx,he⟩:=hc;cases he;have:=hf5_eq hx;subst this;exact CallOK.pure (by kernel_rfl) (belL_mono0 _ (by simp only [belL,AV.bel,Flt.Hf.bel,Bool.and_self])) rfl (w104 x _ (of_decide_eq_true ht)) _ _
 ·cases hc
def cmN (got:List (Int×Int)):Nat->Nat->Bool
 |_,0=>true
 |k,m+1=>thB got (k:Int)&&cmN got (k+1) m
def cmB (h:Flt.Hf):Bool:=cmN h.got 0 h.ln.toNat
theorem cmN_iff {got:List (Int×Int)}: ∀{m k:Nat},cmN got k m=true↔ ∀i:Nat,k<=i->i<k+m->cov got i
 |0,k=>⟨fun _ i h1 h2=>by omega,fun _=>rfl⟩
 |m+1,k=>by
  simp only [cmN,Bool.and_eq_true,thB_cov];rw [cmN_iff];constructor
  ·rintro ⟨h1,h2⟩ i g1 g2;rcases Nat.eq_or_lt_of_le g1 with e|e
   ·subst e;exact h1
   ·exact h2 i (by omega) (by omega)
  ·intro h;exact ⟨h k (Nat.le_refl _) (by omega),fun i g1 g2=>h i (by omega) (by omega)⟩
def TT2:List (Nat×Ct):=[(104,k104)]
theorem hTT2:Sound Tryz.prog (cxT TT2):=Sound.cons s104 Sound.nil
theorem w83 (h:Flt.Hf) (hg:h.got.length<=9223372036854775807) (hl:h.ln<=4000):FTL Tryz.prog 83 [.agg h.l] [] 0 (.b (cmB h)) [] 0:=by
 have q104: ∀o (hp:Hp) n,k104 [.agg h.l,.i .i64 o] hp n=some (true,{v:= .b (thB h.got o),n}):=fun o hp n=>by simp only [k104,hf5_l,Option.bind_some,decide_eq_true hg]
 have hlb: ∀j,belL j h.l=true:=fun j=>belL_mono0 _ (Flt.Hf.bel h);have e1:cmB h=cmN h.got 0 h.ln.toNat:=rfl;rw [e1];obtain ⟨kd,ln,sq,bd,got⟩:=h;simp only [Flt.Hf.l] at q104 hlb ⊢;dsimp only at hg hl q104 ⊢;obtain ⟨R,hR⟩: ∃R,R=cmN got 0 ln.toNat:=⟨_,rfl⟩;rw [<-hR];have gb: ∀j,belL j (rows gp got)=true:=fun j=>belL_mono0 _ (rows_bel gp_bel);refine FTL.of_iw hTT2 mo Tryz.func83 i83_eq (by simp [i83]) (iw_of_jw ?_)
 dsimp only [i83,TT2];generalize rows gp got=G at*;simp only [go_sem,simprocAttr];refine Loop.countI (F:=⟨Tryz.prog,cxT TT2,[7,13],14,0⟩) hTT2 mo ln.toNat (fun k=>R=cmN got k (ln.toNat-k)) (fun k=>[(1,.p 0 0),(3,.i .i64 (k:Int))]) (fun k=>[(0,{cells:=[.i .i64 kd,.i .i64 ln,.i .i64 sq,.s bd,.fz G got.length]})]) 1 (by decide) (by simpa using hR) ?_ ?_ (fun k hk hRk=> ?_)
 ·simp only [go_sem,Int.natCast_zero,AV.bel,belL,nblt,simprocAttr]
 ·simp only [go_sem,AV.bel,belL,nblt,gb,simprocAttr]
 dsimp only [TT2];by_cases hlt:k<ln.toNat
 ·have c1:decide ((k:Int)<ln)=true:=decide_eq_true (by omega)
  have wk:IntKind.i64.wrap ((k:Int)+1)=((k+1:Nat):Int):=by rw [wrapL (by omega) (by omega)];omega
  have q:=q104 (k:Int);rw [show ln.toNat-k=(ln.toNat-(k+1))+1 by omega] at hRk
  simp only [cmN] at hRk;cases d1:thB got (k:Int)
  ·rw [d1,Bool.false_and] at hRk;rw [d1] at q;rw [hRk];simp only [go_sem,c1,q,simprocAttr];exact Ends.pureE rfl rfl
  ·rw [d1,Bool.true_and] at hRk;rw [d1] at q;simp only [go_sem,c1,q,wk,AV.bel,belL,nblt,gb,simprocAttr];exact ⟨hlt,hRk⟩
 ·have c1:decide ((k:Int)<ln)=false:=decide_eq_false (by omega)
  rw [show ln.toNat-k=0 by omega] at hRk
  rw [show R=true from hRk]
  simp only [go_sem,c1,simprocAttr];exact Ends.pureE rfl rfl
def k83:Ct
 |[.agg c],_,n=>(hf5 c).bind fun h=>some (decide (h.got.length<=9223372036854775807)&&decide (h.ln<=4000),{v:= .b (cmB h),n})
 |_,_,_=>none
theorem s83:SoundAt Tryz.prog 83 k83:=fun args h n c E hc ht=>by
 unfold k83 at hc;split at hc
 ·simp only [Option.bind_eq_some_iff] at hc;obtain ⟨x,hx,he⟩:=hc;cases he;have:=hf5_eq hx;subst this;simp only [Bool.and_eq_true,decide_eq_true_eq] at ht;exact CallOK.pure (by kernel_rfl) (belL_mono0 _ (by simp only [belL,AV.bel,Flt.Hf.bel,Bool.and_self])) rfl (w83 x ht.1 ht.2) _ _
 ·cases hc
end Go.Proofs.Flz
namespace Go.Proofs.Flt
open Go.Ab
structure OkH (x:Nt) (G:Int->Prop) (h:Hf):Prop where
 kd:h.kd=x.kd
 ln:h.ln=x.bd.length
 sq:h.sq=x.sq
 len:h.bd.length=x.bd.length
 srt:srt h.ln (-1) h.got
 cov: ∀o,cov h.got o↔G o
 at_: ∀(k:Nat) b,x.bd[k]? =some b->(G k->h.bd[k]? =some b)/\(¬G k->h.bd[k]? =some 0)
theorem OkH.uniq {x:Nt} {G:Int->Prop} {h1 h2:Hf} (a:OkH x G h1) (b:OkH x G h2):h1=h2:=by
 have e1:h1.got=h2.got:=by
  have h:=b.srt;rw [b.ln,<-a.ln] at h;exact srt_uniq a.srt h (fun o=>(a.cov o).trans (b.cov o).symm)
 have e2:h1.bd=h2.bd:=by
  apply List.ext_getElem?;intro k;cases hx:x.bd[k]? with
  |none=>
   have hk:=List.getElem?_eq_none_iff.1 hx;rw [List.getElem?_eq_none (by rw [a.len];exact hk),List.getElem?_eq_none (by rw [b.len];exact hk)]
  |some c=>
   by_cases hg:G k
   ·rw [(a.at_ k c hx).1 hg,(b.at_ k c hx).1 hg]
   ·rw [(a.at_ k c hx).2 hg,(b.at_ k c hx).2 hg]
 obtain ⟨k1,l1,s1,b1,g1⟩:=h1;obtain ⟨k2,l2,s2,b2,g2⟩:=h2;have c1:=a.kd.trans b.kd.symm;have c2:=a.ln.trans b.ln.symm;have c3:=a.sq.trans b.sq.symm;dsimp only at c1 c2 c3 e1 e2;subst c1;subst c2;subst c3;subst e1;subst e2;rfl
theorem OkH.iff {x:Nt} {G G2:Int->Prop} {h:Hf} (a:OkH x G h) (hg: ∀o,G o↔G2 o):OkH x G2 h:=
 ⟨a.kd,a.ln,a.sq,a.len,a.srt,fun o=>(a.cov o).trans (hg o),fun k b hk=>⟨fun h=>(a.at_ k b hk).1 ((hg _).2 h),fun h=>(a.at_ k b hk).2 (fun h2=>h ((hg _).1 h2))⟩⟩
theorem OkH.rng {x:Nt} {G:Int->Prop} {h:Hf} (a:OkH x G h) {o:Int} (ho:G o):0<=o/\o<x.bd.length:=by
 have:=cov_gt a.srt ((a.cov o).2 ho);rw [a.ln] at this;omega
theorem OkH.new {x:Nt} {p:Pc} (h1:p.kd=x.kd) (h2:p.ln=x.bd.length) (h3:p.sq=x.sq):OkH x (fun _=>False) (newH p):=by
 refine ⟨h1,h2,h3,?_,trivial,fun o=>⟨fun h=>cov_nil h,fun h=>h.elim⟩,fun k b hk=>⟨fun h=>h.elim,fun _=> ?_⟩⟩
 ·simp only [newH,List.length_replicate,h2];omega
 ·have:=(List.getElem?_eq_some_iff.1 hk).1;simp only [newH,h2,Int.toNat_natCast];rw [List.getElem?_replicate,if_pos this]
structure PcOf (x:Nt) (a m:Nat) (p:Pc):Prop where
 kd:p.kd=x.kd
 ln:p.ln=x.bd.length
 sq:p.sq=x.sq
 ofs:p.ofs=(a:Int)
 pt:p.pt=(x.bd.drop a).take m
 le:a+m<=x.bd.length
 ne:0<m\/x.bd.length=0
theorem PcOf.ptl {x:Nt} {a m:Nat} {p:Pc} (h:PcOf x a m p):p.pt.length=m:=by
 rw [h.pt,List.length_take,List.length_drop];have:=h.le;omega
theorem sub_eq {α:Type} {l l2:List α} {a n b:Nat} (h: ∀k,a<=k->k<a+n->l[k]? =l2[b+(k-a)]?):(l.drop a).take n=(l2.drop b).take n:=by
 apply List.ext_getElem?;intro i;rw [List.getElem?_take,List.getElem?_take];by_cases hi:i<n
 ·rw [if_pos hi,if_pos hi,List.getElem?_drop,List.getElem?_drop,h (a+i) (by omega) (by omega),Nat.add_sub_cancel_left]
 ·rw [if_neg hi,if_neg hi]
theorem agree_ok {x:Nt} {G:Int->Prop} {h:Hf} {p:Pc} {a m:Nat} (ho:OkH x G h) (hp:PcOf x a m p) {r:Int×Int} (hr:r∈h.got):agreeB h p r=true:=by
 have hpl:=hp.ptl;simp only [agreeB,Bool.or_eq_true,decide_eq_true_eq,beq_iff_eq,hpl,hp.ofs];by_cases hc:max r.1 (a:Int)>=min r.2 ((a:Int)+m)
 ·exact .inl hc
 ·refine .inr ?_;refine sub_eq (fun k h1 h2=> ?_);have hle:=hp.le;have hk:G k:=(ho.cov k).1 ⟨r,hr,by omega,by omega⟩
  obtain ⟨b,hb⟩: ∃b,x.bd[k]? =some b:=⟨_,List.getElem?_eq_getElem (by omega)⟩
  rw [(ho.at_ k b hb).1 hk,hp.pt,List.getElem?_take,if_pos (by omega),List.getElem?_drop,<-hb]
  congr 1;omega
theorem OkH.fill {x:Nt} {G:Int->Prop} {h:Hf} {p:Pc} {a m:Nat} (ho:OkH x G h) (hp:PcOf x a m p): ∃h2,fillS h p=some h2/\OkH x (fun o=>((a:Int)<=o/\o<a+m)\/G o) h2:=by
 have hpl:=hp.ptl;have hle:=hp.le;have hall:h.got.all (agreeB h p)=true:=List.all_eq_true.2 (fun r hr=>agree_ok ho hp hr);have e1:(h.kd==p.kd)=true:=beq_iff_eq.2 (ho.kd.trans hp.kd.symm);have e2:(h.ln==p.ln)=true:=beq_iff_eq.2 (ho.ln.trans hp.ln.symm);have e3:p.ofs.toNat=a:=by rw [hp.ofs];omega
 refine ⟨_,by unfold fillS;rw [e1,e2,hall];rfl,?_⟩
 rw [e3,hpl,hp.ofs];refine ⟨ho.kd,ho.ln,ho.sq,?_,?_,fun o=> ?_,fun k b hk=> ?_⟩
 ·simp only [List.length_append,List.length_take,List.length_drop,hpl,ho.len];omega
 ·show Flt.srt h.ln (-1) (if p.pt=[] then h.got else gotS h.got ((a:Int),(a:Int)+(m:Nat)))
  split
  ·exact ho.srt
  ·rename_i hne;have hm:0<m:=by
    rcases Nat.eq_zero_or_pos m with h0|h0
    ·exact absurd (List.eq_nil_of_length_eq_zero (by omega)) hne
    ·exact h0
   exact gotS_srt ho.srt (by show -1<(a:Int);omega) (by show (a:Int)<a+(m:Nat);omega) (by rw [ho.ln];show (a:Int)+(m:Nat)<=_;omega)
 ·show Flt.cov (if p.pt=[] then h.got else gotS h.got ((a:Int),(a:Int)+(m:Nat))) o↔_
  split
  ·rename_i he;have hm:m=0:=by rw [<-hpl,he];rfl
   rw [ho.cov];constructor
   ·exact fun h=> .inr h
   ·rintro (h|h)
    ·omega
    ·exact h
  ·rename_i hne;have hm:0<m:=by
    rcases Nat.eq_zero_or_pos m with h0|h0
    ·exact absurd (List.eq_nil_of_length_eq_zero (by omega)) hne
    ·exact h0
   rw [gotS_cov ho.srt (by show (a:Int)<a+(m:Nat);omega),ho.cov]
 ·have hkl:=(List.getElem?_eq_some_iff.1 hk).1;show ((_\/G k)->(h.bd.take a++p.pt++h.bd.drop (a+m))[k]? =some b)/\(¬(_\/G k)->(h.bd.take a++p.pt++h.bd.drop (a+m))[k]? =some 0);have hla:(h.bd.take a).length=a:=by rw [List.length_take,ho.len];omega
  have key:(h.bd.take a++p.pt++h.bd.drop (a+m))[k]? =if a<=k/\k<a+m then some b else h.bd[k]? :=by
   by_cases c1:k<a
   ·rw [List.append_assoc,List.getElem?_append_left (by omega),List.getElem?_take,if_pos c1,if_neg (by omega)]
   ·by_cases c2:k<a+m
    ·rw [if_pos (by omega),List.append_assoc,List.getElem?_append_right (by omega),hla,List.getElem?_append_left (by omega),hp.pt,List.getElem?_take,if_pos (by omega),List.getElem?_drop,<-hk]
     congr 1;omega
    ·rw [if_neg (by omega),List.getElem?_append_right (by rw [List.length_append,hla,hpl];omega),List.length_append,hla,hpl,List.getElem?_drop]
     congr 1;omega
  rw [key];constructor
  ·rintro (h1|h1)
   ·rw [if_pos (by omega)]
   ·split
    ·rfl
    ·exact (ho.at_ k b hk).1 h1
  ·intro h1;rw [if_neg (by intro h2;exact h1 (.inl (by omega)))]
   exact (ho.at_ k b hk).2 (fun h2=>h1 (.inr h2))
theorem OkH.again {x:Nt} {G:Int->Prop} {h:Hf} {p:Pc} {a m:Nat} (ho:OkH x G h) (hp:PcOf x a m p) (hg: ∀o:Int,(a:Int)<=o->o<a+m->G o):fillS h p=some h:=by
 obtain ⟨h2,e,o2⟩:=ho.fill hp;rw [e];have:OkH x G h2:=o2.iff (fun o=>⟨fun h=>h.elim (fun h1=>hg o h1.1 h1.2) _root_.id,fun h=> .inr h⟩);rw [this.uniq ho]
theorem OkH.done {x:Nt} {G:Int->Prop} {h:Hf} (ho:OkH x G h):doneB h=true↔ ∀k:Nat,k<x.bd.length->G k:=by
 have hln:=ho.ln;by_cases h0:x.bd.length=0
 ·constructor
  ·intro _ k hk;omega
  ·intro _;unfold doneB;rw [show (h.ln==0)=true from beq_iff_eq.2 (by omega)];rfl
 ·have e0:(h.ln==0)=false:=beq_eq_false_iff_ne.2 (by omega)
  unfold doneB;rw [e0,Bool.false_or];constructor
  ·intro hd k hk;split at hd
   ·rename_i y hy;simp only [Bool.and_eq_true,beq_iff_eq] at hd;refine (ho.cov k).1 ?_;rw [hy];exact cov_cons.2 (.inl (by omega))
   ·cases hd
  ·intro hg;have:h.got=[(0,h.ln)]:=by
    refine srt_uniq ho.srt (lo2:= -1) ⟨by show (-1:Int)<0;omega,by show (0:Int)<h.ln;omega,Int.le_refl _,trivial⟩ (fun o=> ?_)
    rw [ho.cov];constructor
    ·intro h1;have:=ho.rng h1;exact cov_cons.2 (.inl (by show (0:Int)<=o/\o<h.ln;omega))
    ·intro h1;rcases cov_cons.1 h1 with h1|h1
     ·have h2:(0:Int)<=o/\o<h.ln:=h1;have:=hg o.toNat (by omega)
      rwa [Int.toNat_of_nonneg h2.1] at this
     ·exact absurd h1 cov_nil
   rw [this];simp
theorem num_snoc' (l:List UInt8) (b:UInt8):num (l++[b])=num l*256+(b.toNat:Int):=by simp [num,List.foldl_append]
theorem num_fld: ∀(k n:Nat),num (fld n k)=((n % 256^k:Nat):Int)
 |0,n=>by simp [fld,num,Nat.mod_one]
 |k+1,n=>by
  have e:fld n (k+1)=fld (n/256) k++[UInt8.ofNat n]:=rfl;rw [e,num_snoc',num_fld k (n/256),Nat.pow_succ,Nat.mul_comm (256^k) 256,Nat.mod_mul];have:(UInt8.ofNat n).toNat=n % 256:=by simp
  rw [this];omega
theorem num_fldI {k:Nat} {a:Int} (h0:0<=a) (h1:a<(256^k:Nat)):num (fld a.toNat k)=a:=by
 rw [num_fld,Nat.mod_eq_of_lt (by omega)]
 omega
theorem pcO_len (p:Pc):(pcO p).length=12+p.pt.length:=by
 simp only [pcO,List.length_append];have: ∀n k,(fld n k).length=k:=fun n k=>by
  induction k generalizing n with
  |zero=>rfl
  |succ k ih=>simp [fld,ih]
 simp only [this]
def cutB (p:Pc):Bool:=wholeB p&&decide (0<=p.kd/\p.kd<=255/\0<=p.ln/\0<=p.sq/\p.sq<=65535/\0<=p.ofs)
theorem read_cut {p:Pc} (h:cutB p=true):readS (pcO p)=(p,0):=by
 simp only [cutB,Bool.and_eq_true,decide_eq_true_eq] at h;obtain ⟨hw,h1,h2,h3,h4,h5,h6⟩:=h;have hw2:=hw;simp only [wholeB,Bool.and_eq_true,decide_eq_true_eq] at hw2;obtain ⟨w1,w2,w3,w4⟩:=hw2;have e1:partS (pcO p) 0 1=p.kd:=(show partS (pcO p) 0 1=num (fld p.kd.toNat 1) from rfl).trans (num_fldI h1 (by omega))
 have e2:partS (pcO p) 1 4=p.ln:=(show partS (pcO p) 1 4=num (fld p.ln.toNat 3) from rfl).trans (num_fldI h3 (by omega))
 have e3:partS (pcO p) 4 6=p.sq:=(show partS (pcO p) 4 6=num (fld p.sq.toNat 2) from rfl).trans (num_fldI h4 (by omega))
 have e4:partS (pcO p) 6 9=p.ofs:=(show partS (pcO p) 6 9=num (fld p.ofs.toNat 3) from rfl).trans (num_fldI h6 (by omega))
 have e5:partS (pcO p) 9 12=(p.pt.length:Int):=(show partS (pcO p) 9 12=num (fld p.pt.length 3) from rfl).trans (by rw [num_fld,Nat.mod_eq_of_lt (by omega)])
 have e6:(pcO p).drop 12=p.pt:=rfl;have hP:readP (pcO p)=p:=by rw [readP,e1,e2,e3,e4,e6]
 have hl:=pcO_len p;unfold readS;rw [hP,hl,e5,if_neg (by omega),if_neg (by omega),if_neg (by omega),if_neg (by omega),if_pos hw]
theorem cutN_lt' {n sz k:Nat} (hs:1<=sz) (h:k<cutN n sz):k=0\/k*sz<n:=by
 unfold cutN at h;split at h
 ·left;omega
 ·right;have h1:k+1<=(n+sz-1)/sz:=h;have h2:=(Nat.le_div_iff_mul_le (by omega)).1 h1
  rw [Nat.succ_mul] at h2;omega
theorem cutN_ge' {n sz:Nat} (hs:1<=sz):0<cutN n sz/\n<=cutN n sz*sz:=by
 unfold cutN;split
 ·omega
 ·have h1:n+sz-1<((n+sz-1)/sz+1)*sz:=by
   have:=Nat.lt_div_mul_add (a:=n+sz-1) (b:=sz) (by omega)
   rw [Nat.succ_mul];omega
  rw [Nat.succ_mul] at h1;refine ⟨Nat.div_pos (by omega) (by omega),by omega⟩
theorem cutP_ok {x:Nt} {sz k:Nat} (hx:noteB x=true) (hs:1<=sz/\sz<=1100) (hk:k<cutN x.bd.length sz):cutB (cutP x sz k)=true:=by
 simp only [noteB,Bool.and_eq_true,decide_eq_true_eq] at hx;obtain ⟨h1,h2,h3⟩:=hx;have h1:=inW_t h1;have h2:=inW_t h2;have hk':=cutN_lt' hs.1 hk;have hpl:((x.bd.drop (k*sz)).take sz).length=min sz (x.bd.length-k*sz):=by rw [List.length_take,List.length_drop]
 have hkz:k*sz<=x.bd.length:=by rcases hk' with rfl|h<;>omega
 simp only [cutB,wholeB,cutP,Bool.and_eq_true,decide_eq_true_eq,hpl];refine ⟨⟨decide_eq_true (by omega),by omega,by omega,?_⟩,decide_eq_true (by omega)⟩
 rw [beq_iff_eq,Bool.eq_iff_iff,beq_iff_eq,beq_iff_eq];constructor
 ·intro h;rcases hk' with rfl|h'<;>omega
 ·intro h;omega
theorem mapN_mem {α:Type} {g:Nat->α} {a:α}: ∀{k:Nat},a∈mapN g k-> ∃i,i<k/\g i=a
 |0,h=>by cases h
 |k+1,h=>by
  rw [mapN_s] at h;rcases List.mem_append.1 h with h|h
  ·obtain ⟨i,h1,h2⟩:=mapN_mem h;exact ⟨i,by omega,h2⟩
  ·rw [List.mem_singleton] at h;exact ⟨k,by omega,h.symm⟩
theorem cutN_le {n sz:Nat} (hs:1<=sz) (hn:n<=4000):cutN n sz<=4000:=by
 unfold cutN;split
 ·omega
 ·have h1:(n+sz-1)/sz<=n:=by
   refine Nat.div_le_of_le_mul ?_;have:n*1<=n*sz:=Nat.mul_le_mul_left _ hs;have h2:n+sz-1<=sz*n:=by
    obtain ⟨s,rfl⟩: ∃s,sz=s+1:=⟨sz-1,by omega⟩
    have:s*1<=s*n:=Nat.mul_le_mul_left _ (by omega)
    rw [Nat.succ_mul];omega
   exact h2
  omega
theorem u8m_bytes (l:List UInt8):bytesOf (l.map fun b=>AV.i .u8 (b.toNat:Int))=some l:=by
 have:=u8_bytes l;have h:rows u81 l=l.map fun b=>AV.i .u8 (b.toNat:Int):=by
  induction l with
  |nil=>rfl
  |cons b l ih=>rw [rows_cons,ih (u8_bytes l)];rfl
 rwa [h] at this
theorem zer_ok {bd:List UInt8} {a n:Nat} (h: ∀k,a<=k->k<a+n->k<bd.length->bd[k]? =some 0):zer ((bd.drop a).take n)=true:=by
 unfold zer;refine List.all_eq_true.2 (fun b hb=> ?_);obtain ⟨i,hi⟩:=List.mem_iff_getElem?.1 hb;rw [List.getElem?_take] at hi;split at hi
 ·rename_i hin;rw [List.getElem?_drop] at hi;have hl:=(List.getElem?_eq_some_iff.1 hi).1;rw [h (a+i) (by omega) (by omega) hl] at hi
  cases hi;rfl
 ·cases hi
theorem gap_ok {bd:List UInt8} {ln:Int} (hl:(bd.length:Int)=ln): ∀{e a:Int} {l:List (Int×Int)},srt ln e l->0<=a->a<=e+1->(∀k:Nat,a<=k->(k:Int)<ln-> ¬cov l k->bd[k]? =some 0)->gapB bd ln a l=true
 |e,a,[],_,h0,_,h=>by
  simp only [gapB];exact zer_ok (fun k h1 h2 h3=>h k (by omega) (by omega) cov_nil)
 |e,a,x::r,hs,h0,h1,h=>by
  obtain ⟨s1,s2,s3,s4⟩:=hs;simp only [gapB,Bool.and_eq_true];refine ⟨zer_ok (fun k g1 g2 g3=>h k (by omega) (by omega) (fun hc=> ?_)),gap_ok hl s4 (by omega) (by omega) (fun k g1 g2 g3=>h k (by omega) g2 (fun hc=> ?_))⟩
  ·rcases cov_cons.1 hc with hc|hc
   ·omega
   ·have:=cov_gt s4 hc;omega
  ·rcases cov_cons.1 hc with hc|hc
   ·omega
   ·exact g3 hc
theorem OkH.half {x:Nt} {G:Int->Prop} {h:Hf} (ho:OkH x G h) (hx:noteB x=true) (hne:x.bd.length=0\/ ∃o,G o):halfB h=true:=by
 simp only [noteB,Bool.and_eq_true,decide_eq_true_eq] at hx;have hln:=ho.ln;have hll:=ho.len;have hk:=ho.kd;have hgot:h.got.length=0↔h.ln=0:=by
  constructor
  ·intro h0;rcases hne with h1|⟨o,h1⟩
   ·omega
   ·have:=(ho.cov o).2 h1;rw [List.eq_nil_of_length_eq_zero h0] at this;exact absurd this cov_nil
  ·intro h0;have hs:=ho.srt;cases hg:h.got with
   |nil=>rfl
   |cons y r=>
    rw [hg] at hs;obtain ⟨s1,s2,s3,s4⟩:=hs;omega
 simp only [halfB,Bool.and_eq_true,beq_iff_eq];refine ⟨by rw [hk];exact hx.1,inW_of (by omega),by omega,?_,gotB_srt.2 ho.srt,gap_ok (by omega) ho.srt (Int.le_refl _) (by omega) (fun k h1 h2 h3=> ?_)⟩
 ·rw [Bool.eq_iff_iff,beq_iff_eq,beq_iff_eq];exact hgot
 ·obtain ⟨b,hb⟩: ∃b,x.bd[k]? =some b:=⟨_,List.getElem?_eq_getElem (by omega)⟩
  exact (ho.at_ k b hb).2 (fun hg=>h3 ((ho.cov k).2 hg))
def pcM (x:Nt) (sz k:Nat):Nat:=min sz (x.bd.length-k*sz)
theorem pcOf {x:Nt} {sz k:Nat} (hs:1<=sz) (hk:k<cutN x.bd.length sz):PcOf x (k*sz) (pcM x sz k) (cutP x sz k):=by
 have h:=cutN_lt' hs hk;refine ⟨rfl,rfl,rfl,rfl,?_,?_,?_⟩
 ·simp only [cutP,pcM];apply List.ext_getElem?;intro i;rw [List.getElem?_take,List.getElem?_take,List.getElem?_drop];by_cases h1:i<min sz (x.bd.length-k*sz)
  ·rw [if_pos h1,if_pos (by omega)]
  ·rw [if_neg h1];split
   ·exact List.getElem?_eq_none (by omega)
   ·rfl
 ·unfold pcM;rcases h with rfl|h<;>omega
 ·unfold pcM;rcases h with rfl|h<;>omega
def GK (x:Nt) (sz:Nat) (K:List Nat) (o:Int):Prop:= ∃k,k<cutN x.bd.length sz/\k ∉ K/\((k*sz:Nat):Int)<=o/\o<((k*sz:Nat):Int)+(pcM x sz k:Nat)
def staK (x:Nt) (sz:Nat) (K:List Nat):Prop:= ∃k,k<cutN x.bd.length sz/\k ∉ K
structure OkK (x:Nt) (sz:Nat) (K:List Nat):Prop where
 nd:K.Nodup
 lt: ∀k∈K,k<cutN x.bd.length sz
theorem cutN_at {n sz o:Nat} (hs:1<=sz) (ho:o<n):o/sz<cutN n sz/\o/sz*sz<=o/\o<o/sz*sz+min sz (n-o/sz*sz):=by
 have h1:=(cutN_ge' (n:=n) hs).2;have h2:=Nat.div_mul_le_self o sz;have h3:=Nat.lt_div_mul_add (a:=o) (b:=sz) (by omega)
 refine ⟨?_,h2,by omega⟩
 refine (Nat.div_lt_iff_lt_mul (by omega)).2 (by omega)
theorem sz_uniq {sz k l o:Nat} (h1:k*sz<=o) (h2:o<k*sz+sz) (h3:l*sz<=o) (h4:o<l*sz+sz):k=l:=by
 rcases Nat.lt_trichotomy k l with h|h|h
 ·have:(k+1)*sz<=l*sz:=Nat.mul_le_mul_right _ h;rw [Nat.succ_mul] at this;omega
 ·exact h
 ·have:(l+1)*sz<=k*sz:=Nat.mul_le_mul_right _ h;rw [Nat.succ_mul] at this;omega
theorem GK_all {x:Nt} {sz:Nat} {K:List Nat} (hs:1<=sz) (hK:OkK x sz K) (h0:0<x.bd.length):(∀k:Nat,k<x.bd.length->GK x sz K k)↔K=[]:=by
 constructor
 ·intro h;cases K with
  |nil=>rfl
  |cons k r=>
   have hk:=hK.lt k List.mem_cons_self;have hm:=cutN_lt' hs hk;have hlt:k*sz<x.bd.length:=by
    rcases hm with rfl|h
    ·omega
    ·exact h
   obtain ⟨l,l1,l2,l3,l4⟩:=h (k*sz) hlt;unfold pcM at l4;have:l=k:=sz_uniq (o:=k*sz) (by omega) (by omega) (Nat.le_refl _) (by omega)
   exact absurd (this▸List.mem_cons_self) l2
 ·rintro rfl k hk;obtain ⟨h1,h2,h3⟩:=cutN_at (n:=x.bd.length) hs hk;exact ⟨k/sz,h1,by simp,by omega,by unfold pcM;omega⟩
theorem staK_ne {x:Nt} {sz:Nat} {K:List Nat} (hs:1<=sz) (h:staK x sz K):x.bd.length=0\/ ∃o,GK x sz K o:=by
 obtain ⟨k,h1,h2⟩:=h;have h3:=cutN_lt' hs h1;by_cases h0:x.bd.length=0
 ·exact .inl h0
 ·refine .inr ⟨((k*sz:Nat):Int),k,h1,h2,Int.le_refl _,?_⟩;unfold pcM;rcases h3 with rfl|h3<;>omega
theorem staK_nil {x:Nt} {sz:Nat} (hs:1<=sz):staK x sz []:=⟨0,(cutN_ge' hs).1,by simp⟩
theorem done_iff {x:Nt} {sz:Nat} {K:List Nat} {h:Hf} (hs:1<=sz) (hK:OkK x sz K) (hst:staK x sz K) (ho:OkH x (GK x sz K) h):doneB h=true↔K=[]:=by
 rw [ho.done];rcases Nat.eq_zero_or_pos x.bd.length with h0|h0
 ·constructor
  ·intro _;obtain ⟨k,h1,h2⟩:=hst;have hc:cutN x.bd.length sz=1:=by unfold cutN;rw [if_pos h0]
   cases K with
   |nil=>rfl
   |cons l r=>
    have:=hK.lt l List.mem_cons_self;have hk:k=l:=by omega
    exact absurd (hk▸List.mem_cons_self) h2
  ·intro _ k hk;omega
 ·exact GK_all hs hK h0
theorem zer_at {bd:List UInt8} {a n:Nat} (h:zer ((bd.drop a).take n)=true): ∀k,a<=k->k<a+n->k<bd.length->bd[k]? =some 0:=fun k h1 h2 h3=>by
 unfold zer at h;obtain ⟨b,hb⟩: ∃b,bd[k]? =some b:=⟨_,List.getElem?_eq_getElem h3⟩;have hm:b∈(bd.drop a).take n:=by
  refine List.mem_of_getElem? (i:=k-a) ?_;rw [List.getElem?_take,if_pos (by omega),List.getElem?_drop,show a+(k-a)=k by omega];exact hb
 have:=List.all_eq_true.1 h b hm;rw [hb,beq_iff_eq.1 this]
theorem gap_zero {bd:List UInt8} {ln:Int} (hl:(bd.length:Int)=ln): ∀{e a:Int} {l:List (Int×Int)},-1<=e->srt ln e l->0<=a->gapB bd ln a l=true-> ∀k:Nat,a<=k->(k:Int)<ln-> ¬cov l k->bd[k]? =some 0
 |e,a,[],he,_,h0,h,k,h1,h2,_=>by
  simp only [gapB] at h;exact zer_at h k (by omega) (by omega) (by omega)
 |e,a,x::r,he,hs,h0,h,k,h1,h2,h3=>by
  obtain ⟨s1,s2,s3,s4⟩:=hs;simp only [gapB,Bool.and_eq_true] at h;rw [cov_cons] at h3;by_cases hk:(k:Int)<x.1
  ·exact zer_at h.1 k (by omega) (by omega) (by omega)
  ·have h4: ¬cov r k:=fun h5=>h3 (.inr h5);by_cases hk2:(k:Int)<x.2
   ·exact absurd (.inl ⟨by omega,hk2⟩) h3
   ·exact gap_zero hl (by omega) s4 (by omega) h.2 k (by omega) h2 h4
def zrN (bd:List UInt8) (got:List (Int×Int)):Nat->Nat->Prop:=fun k m=> ∀i,k<=i->i<k+m->bd[i]? =some 0\/cov got i
theorem gap_iff {bd:List UInt8} {ln:Int} {l:List (Int×Int)} (hl:(bd.length:Int)=ln) (hs:srt ln (-1) l):gapB bd ln 0 l=true↔zrN bd l 0 ln.toNat:=by
 constructor
 ·intro h i _ h2;rcases Classical.em (cov l i) with hc|hc
  ·exact .inr hc
  ·exact .inl (gap_zero hl (by decide) hs (Int.le_refl _) h i (by omega) (by omega) hc)
 ·intro h;refine gap_ok hl hs (Int.le_refl _) (by decide) (fun k h1 h2 h3=> ?_)
  rcases h k (by omega) (by omega) with h4|h4
  ·exact h4
  ·exact absurd h4 h3
end Go.Proofs.Flt
namespace Go.Proofs.Flz
open Go.Ab Go.Proofs.Flt
def zrB (bd:List UInt8) (got:List (Int×Int)):Nat->Nat->Bool
 |_,0=>true
 |k,m+1=>((bd.getD k 0==0)||thB got (k:Int))&&zrB bd got (k+1) m
theorem zrB_iff {bd:List UInt8} {got:List (Int×Int)}: ∀{m k:Nat},k+m<=bd.length->(zrB bd got k m=true↔zrN bd got k m)
 |0,k,_=>⟨fun _ i h1 h2=>by omega,fun _=>rfl⟩
 |m+1,k,h=>by
  simp only [zrB,Bool.and_eq_true,Bool.or_eq_true,thB_cov,beq_iff_eq];rw [zrB_iff (by omega)]
  obtain ⟨b,hb⟩: ∃b,bd[k]? =some b:=⟨_,List.getElem?_eq_getElem (by omega)⟩
  have hg:bd.getD k 0=b:=by simp only [List.getD_eq_getElem?_getD,hb,Option.getD_some]
  rw [hg];constructor
  ·rintro ⟨h1,h2⟩ i g1 g2;rcases Nat.eq_or_lt_of_le g1 with e|e
   ·subst e;rcases h1 with h1|h1
    ·exact .inl (by rw [hb,h1])
    ·exact .inr h1
   ·exact h2 i (by omega) (by omega)
  ·intro h1;refine ⟨?_,fun i g1 g2=>h1 i (by omega) (by omega)⟩
   rcases h1 k (Nat.le_refl _) (by omega) with h2|h2
   ·rw [hb] at h2;exact .inl (Option.some.inj h2)
   ·exact .inr h2
theorem half_eq {h:Flt.Hf} (h1:inW h.kd 255=true) (h2:inW h.ln 4000=true) (h3:(h.bd.length:Int)=h.ln) (h4:((h.got.length==0)==(h.ln==0))=true):halfB h=(gotB h.ln none h.got&&zrB h.bd h.got 0 h.ln.toNat):=by
 simp only [halfB,h1,h2,h4,beq_iff_eq.2 h3,Bool.true_and];cases hg:gotB h.ln none h.got
 ·rfl
 ·rw [Bool.true_and,Bool.true_and,Bool.eq_iff_iff,gap_iff h3 (gotB_srt.1 hg),zrB_iff (by omega)]
def TT3:List (Nat×Ct):=[(104,k104)]
theorem hTT3:Sound Tryz.prog (cxT TT3):=Sound.cons s104 Sound.nil
theorem half_no {h:Flt.Hf} (hn: ¬(0<=h.kd/\h.kd<=255/\0<=h.ln/\h.ln<=4000/\(h.bd.length:Int)=h.ln/\((h.got.length=0)↔(h.ln=0)))):halfB h=false:=by
 cases hh:halfB h
 ·rfl
 ·exfalso;simp only [halfB,Bool.and_eq_true,beq_iff_eq] at hh;obtain ⟨h1,h2,h3,h4,h5,h6⟩:=hh;have h1:=inW_t h1;have h2:=inW_t h2;rw [Bool.eq_iff_iff,beq_iff_eq,beq_iff_eq] at h4;exact hn ⟨h1.1,h1.2,h2.1,h2.2,h3,h4⟩
theorem w82 (h:Flt.Hf) (hg:h.got.length<=9223372036854775807):FTL Tryz.prog 82 [.agg h.l] [] 0 (.b (halfB h)) [] 0:=by
 have q104: ∀o (hp:Hp) n,k104 [.agg h.l,.i .i64 o] hp n=some (true,{v:= .b (thB h.got o),n}):=fun o hp n=>by simp only [k104,hf5_l,Option.bind_some,decide_eq_true hg]
 have hno:= @half_no h;have heq:= @half_eq h;generalize halfB h=R at*;obtain ⟨kd,ln,sq,bd,got⟩:=h;simp only [Flt.Hf.l] at q104 ⊢;dsimp only at hg q104 hno heq ⊢;have gb: ∀j,belL j (rows gp got)=true:=fun j=>belL_mono0 _ (rows_bel gp_bel);have hga:=fun (k:Nat) s (hk:got[k]? =some s)=>gp_at hk;refine FTL.of_iw hTT3 mo Tryz.func82 i82_eq (by simp [i82]) (iw_of_jw ?_)
 dsimp only [i82,TT3];generalize rows gp got=G at*;cases a1:decide (kd<0);rotate_left
 ·rw [hno (by have:=of_decide_eq_true a1;omega)]
  simp only [go_sem,a1,simprocAttr];exact Ends.pureE rfl rfl
 cases a2:decide (kd>255);rotate_left
 ·rw [hno (by have:=of_decide_eq_true a2;omega)]
  simp only [go_sem,a1,a2,simprocAttr];exact Ends.pureE rfl rfl
 cases a3:decide (ln<0);rotate_left
 ·rw [hno (by have:=of_decide_eq_true a3;omega)]
  simp only [go_sem,a1,a2,a3,simprocAttr];exact Ends.pureE rfl rfl
 cases a4:decide (ln>4000);rotate_left
 ·rw [hno (by have:=of_decide_eq_true a4;omega)]
  simp only [go_sem,a1,a2,a3,a4,simprocAttr];exact Ends.pureE rfl rfl
 cases a5:((bd.length:Int) !=ln);rotate_left
 ·rw [hno (by have:=bne_iff_ne.1 a5;omega)]
  simp only [go_sem,a1,a2,a3,a4,a5,simprocAttr];exact Ends.pureE rfl rfl
 have b1:=of_decide_eq_false a1;have b2:=of_decide_eq_false a2;have b3:=of_decide_eq_false a3;have b4:=of_decide_eq_false a4;have b5:(bd.length:Int)=ln:=by simpa using a5
 by_cases a6:(got.length=0)↔(ln=0)
 rotate_left
 ·rw [hno (fun hh=>a6 hh.2.2.2.2.2)];cases a7:((got.length:Int)==0)<;>cases a8:(ln==0)
  ·have g1:=beq_eq_false_iff_ne.1 a7;have g2:=beq_eq_false_iff_ne.1 a8;exact absurd (⟨fun h=>by omega,fun h=>by omega⟩:got.length=0↔ln=0) a6
  ·have ft:(!(false==true))=true:=rfl;simp only [go_sem,a1,a2,a3,a4,a5,a7,a8,ft,simprocAttr];exact Ends.pureE rfl rfl
  ·have ft:(!(true==false))=true:=rfl;simp only [go_sem,a1,a2,a3,a4,a5,a7,a8,ft,simprocAttr];exact Ends.pureE rfl rfl
  ·have g1:=beq_iff_eq.1 a7;have g2:=beq_iff_eq.1 a8;exact absurd (⟨fun h=>by omega,fun h=>by omega⟩:got.length=0↔ln=0) a6
 have heq:=heq (inW_of (by omega)) (inW_of (by omega)) b5 (by rw [beq_iff_eq,Bool.eq_iff_iff,beq_iff_eq,beq_iff_eq];exact a6)
 clear hno;obtain ⟨c,a7,a8⟩: ∃c:Bool,((got.length:Int)==0)=c/\(ln==0)=c:=by
  refine ⟨ln==0,?_,rfl⟩;rw [Bool.eq_iff_iff,beq_iff_eq,beq_iff_eq];constructor
  ·intro h;exact a6.1 (by omega)
  ·intro h;have:=a6.2 h;omega
 obtain ⟨prv,hp0,hps⟩: ∃prv:Nat->Option Int,prv 0=none/\ ∀k x,got[k]? =some x->prv (k+1)=some x.2:=⟨fun k=>if k=0 then none else some (got.getD (k-1) (0,0)).2,rfl,fun k x hx=>by simp only [Nat.add_sub_cancel,List.getD_eq_getElem?_getD,hx,Option.getD_some];rfl⟩
 cases c;all_goals
  simp only [go_sem,a1,a2,a3,a4,a5,a7,a8,simprocAttr];refine Loop.countI (F:=⟨Tryz.prog,cxT TT3,[40,45,100,104,117],118,0⟩) hTT3 mo got.length (fun k=>R=(gotB ln (prv k) (got.drop k)&&zrB bd got 0 ln.toNat)) (fun k=>[(1,.p 0 0),(3,.i .i64 (k:Int))]) (fun k=>[(0,{cells:=[.i .i64 kd,.i .i64 ln,.i .i64 sq,.s bd,.fz G got.length]})]) 1 (by decide) (by rw [hp0,List.drop_zero];exact heq) ?_ ?_ (fun k hk hRk=> ?_)
  ·simp only [go_sem,Int.natCast_zero,AV.bel,belL,nblt,simprocAttr]
  ·simp only [go_sem,AV.bel,belL,nblt,gb,simprocAttr]
  dsimp only [TT3];by_cases hlt:k<got.length
  ·obtain ⟨⟨a,b⟩,hx⟩: ∃x,got[k]? =some x:=⟨_,List.getElem?_eq_getElem hlt⟩;obtain ⟨g1,g2⟩:=hga k _ hx;have hd:got.drop k=(a,b)::got.drop (k+1):=by
    rw [List.drop_eq_getElem_cons hlt];rw [List.getElem?_eq_getElem hlt] at hx;rw [Option.some.inj hx]
   have hpk:=hps k _ hx;have c1:decide ((k:Int)<(got.length:Int))=true:=decide_eq_true (by omega)
   have c2:decide (0<=(k:Int)/\(k:Int)<(got.length:Int))=true:=decide_eq_true (by omega)
   have wk:IntKind.i64.wrap ((k:Int)+1)=((k+1:Nat):Int):=by rw [wrapL (by omega) (by omega)];omega
   rw [hd] at hRk;dsimp only at g1 g2 hpk;simp only [gotB] at hRk;have n1:decide (0<=a)= !decide (a<0):=by rw [Bool.eq_iff_iff];simp
   have n2:decide (a<b)= !decide (a>=b):=by rw [Bool.eq_iff_iff];simp
   have n3:decide (b<=ln)= !decide (b>ln):=by rw [Bool.eq_iff_iff];simp
   rw [n1,n2,n3] at hRk;cases d1:decide (a<0);rotate_left
   ·rw [d1] at hRk;rw [show R=false from hRk]
    simp only [go_sem,c1,c2,g1,g2,d1,simprocAttr];exact Ends.pureE rfl rfl
   cases d2:decide (a>=b);rotate_left
   ·rw [d1,d2] at hRk;rw [show R=false from hRk]
    simp only [go_sem,c1,c2,g1,g2,d1,d2,simprocAttr];exact Ends.pureE rfl rfl
   cases d3:decide (b>ln);rotate_left
   ·rw [d1,d2,d3] at hRk;rw [show R=false from hRk]
    simp only [go_sem,c1,c2,g1,g2,d1,d2,d3,simprocAttr];exact Ends.pureE rfl rfl
   rw [d1,d2,d3] at hRk;simp only [Bool.not_false,Bool.true_and] at hRk;cases k with
   |zero=>
    rw [hp0] at hRk;simp only [Bool.true_and] at hRk;have c0:decide (0<(got.length:Int))=true:=decide_eq_true (by omega)
    simp only [go_sem,c0,c1,c2,g1,g2,d1,d2,d3,wk,AV.bel,belL,nblt,gb,simprocAttr];exact ⟨hlt,by rw [hpk];exact hRk⟩
   |succ m=>
    obtain ⟨⟨a0,b0⟩,hx0⟩: ∃x,got[m]? =some x:=⟨_,List.getElem?_eq_getElem (by omega)⟩
    obtain ⟨g3,g4⟩:=hga m _ hx0;have hpm:=hps m _ hx0;dsimp only at g3 g4 hpm;rw [hpm] at hRk;dsimp only at hRk;have d4:decide (((m+1:Nat):Int)>0)=true:=decide_eq_true (by omega)
    have wm:IntKind.i64.wrap (((m+1:Nat):Int)-1)=(m:Int):=by rw [wrapL (by omega) (by omega)];omega
    have c3:decide (0<=(m:Int)/\(m:Int)<(got.length:Int))=true:=decide_eq_true (by omega)
    have n4:decide (a>b0)= !decide (a<=b0):=by rw [Bool.eq_iff_iff];simp
    rw [n4] at hRk;cases d5:decide (a<=b0)
    ·rw [d5] at hRk;simp only [Bool.not_false,Bool.true_and] at hRk;simp only [go_sem,c1,c2,c3,g1,g2,g3,g4,d1,d2,d3,d4,d5,wk,wm,AV.bel,belL,nblt,gb,simprocAttr];exact ⟨hlt,by rw [hpk];exact hRk⟩
    ·rw [d5] at hRk;rw [show R=false from hRk]
     simp only [go_sem,c1,c2,c3,g1,g2,g3,g4,d1,d2,d3,d4,d5,wk,wm,simprocAttr];exact Ends.pureE rfl rfl
  ·have c1:decide ((k:Int)<(got.length:Int))=false:=decide_eq_false (by omega)
   have hd:got.drop k=[]:=List.drop_of_length_le (by omega)
   rw [hd] at hRk;have hRz:R=zrB bd got 0 ln.toNat:=hRk;simp only [go_sem,c1,simprocAttr];refine Loop.countI (F:=⟨Tryz.prog,cxT TT3,[40,45,100,104,117],118,0⟩) hTT3 mo ln.toNat (fun k=>R=zrB bd got k (ln.toNat-k)) (fun k=>[(1,.p 0 0),(4,.i .i64 (k:Int))]) (fun k=>[(0,{cells:=[.i .i64 kd,.i .i64 ln,.i .i64 sq,.s bd,.fz G got.length]})]) 1 (by decide) (by simpa using hRz) ?_ ?_ (fun j hj hRj=> ?_)
   ·simp only [go_sem,Int.natCast_zero,AV.bel,belL,nblt,simprocAttr]
   ·simp only [go_sem,AV.bel,belL,nblt,gb,simprocAttr]
   dsimp only [TT3];by_cases hlj:j<ln.toNat
   ·have d1:decide ((j:Int)<ln)=true:=decide_eq_true (by omega)
    have wj:IntKind.i64.wrap ((j:Int)+1)=((j+1:Nat):Int):=by rw [wrapL (by omega) (by omega)];omega
    obtain ⟨x,hx⟩: ∃x,bd[j]? =some x:=⟨_,List.getElem?_eq_getElem (by omega)⟩
    have d2:decide (0<=(j:Int)/\(j:Int)<(bd.length:Int))=true:=decide_eq_true (by omega)
    have q:=q104 (j:Int);rw [show ln.toNat-j=(ln.toNat-(j+1))+1 by omega] at hRj
    simp only [zrB,List.getD_eq_getElem?_getD,hx,Option.getD_some] at hRj;have hx0:((x.toNat:Int) !=0)= !(x==0):=by
     rw [Bool.eq_iff_iff,bne_iff_ne,Bool.not_eq_true',beq_eq_false_iff_ne];constructor
     ·rintro h rfl;exact h rfl
     ·intro h h2;exact h (UInt8.toNat_inj.1 (by simpa using h2))
    cases d3:(x==0)
    ·rw [d3] at hx0 hRj;cases d4:thB got (j:Int)
     ·rw [d4] at hRj q;rw [show R=false from hRj]
      simp only [go_sem,d1,d2,hx,wj,q,hx0,AV.bel,belL,nblt,gb,simprocAttr];exact Ends.pureE rfl rfl
     ·rw [d4] at hRj q;have hRj:R=zrB bd got (j+1) (ln.toNat-(j+1)):=by simpa using hRj
      simp only [go_sem,d1,d2,hx,wj,q,hx0,AV.bel,belL,nblt,gb,simprocAttr];exact ⟨hlj,hRj⟩
    ·rw [d3] at hx0 hRj;have hRj:R=zrB bd got (j+1) (ln.toNat-(j+1)):=by simpa using hRj
     simp only [go_sem,d1,d2,hx,wj,q,hx0,AV.bel,belL,nblt,gb,simprocAttr];exact ⟨hlj,hRj⟩
   ·have d1:decide ((j:Int)<ln)=false:=decide_eq_false (by omega)
    rw [show ln.toNat-j=0 by omega] at hRj
    rw [show R=true from hRj]
    simp only [go_sem,d1,simprocAttr];exact Ends.pureE rfl rfl
def k82:Ct
 |[.agg c],_,n=>(hf5 c).bind fun h=>some (decide (h.got.length<=9223372036854775807),{v:= .b (halfB h),n})
 |_,_,_=>none
theorem s82:SoundAt Tryz.prog 82 k82:=fun args h n c E hc ht=>by
 unfold k82 at hc;split at hc
 ·simp only [Option.bind_eq_some_iff] at hc;obtain ⟨x,hx,he⟩:=hc;cases he;have:=hf5_eq hx;subst this;exact CallOK.pure (by kernel_rfl) (belL_mono0 _ (by simp only [belL,AV.bel,Flt.Hf.bel,Bool.and_self])) rfl (w82 x (of_decide_eq_true ht)) _ _
 ·cases hc
theorem cm_done {h:Flt.Hf} (hh:halfB h=true):cmB h=doneB h:=by
 simp only [halfB,Bool.and_eq_true] at hh;obtain ⟨_,h2,_,h4,h5,_⟩:=hh;have h2:=inW_t h2;have hs:=gotB_srt.1 h5;rw [Bool.eq_iff_iff];unfold cmB;rw [cmN_iff];by_cases h0:h.ln=0
 ·constructor
  ·intro _;unfold doneB;rw [beq_iff_eq.2 h0];rfl
  ·intro _ i h6 h7;omega
 ·have e0:(h.ln==0)=false:=beq_eq_false_iff_ne.2 h0;unfold doneB;rw [e0,Bool.false_or];constructor
  ·intro hg;have:h.got=[(0,h.ln)]:=by
    refine srt_uniq hs (lo2:= -1) ⟨by show (-1:Int)<0;omega,by show (0:Int)<h.ln;omega,Int.le_refl _,trivial⟩ (fun o=> ?_)
    constructor
    ·intro h1;have:=cov_gt hs h1;exact cov_cons.2 (.inl (by show (0:Int)<=o/\o<h.ln;omega))
    ·intro h1;rcases cov_cons.1 h1 with h1|h1
     ·have h2:(0:Int)<=o/\o<h.ln:=h1;have:=hg o.toNat (by omega) (by omega)
      rwa [Int.toNat_of_nonneg h2.1] at this
     ·exact absurd h1 cov_nil
   rw [this];simp
  ·intro hd i _ hi;split at hd
   ·rename_i y hy;simp only [Bool.and_eq_true,beq_iff_eq] at hd;rw [hy];exact cov_cons.2 (.inl (by omega))
   ·cases hd
theorem half_ln {h:Flt.Hf} (hh:halfB h=true):h.ln<=4000:=by
 simp only [halfB,Bool.and_eq_true] at hh;exact (inW_t hh.2.1).2
def TT4:List (Nat×Ct):=[(82,k82),(83,k83)]
theorem hTT4:Sound Tryz.prog (cxT TT4):=Sound.cons s82<|Sound.cons s83 Sound.nil
theorem w57 (j:Jn) (hf:jnF j=true):FTL Tryz.prog 57 [.agg j.a] [] 0 (.b (jnB j)) [] 0:=by
 have hB:jnB j=(inW j.nx 65536&&hsB j.nx none j.hs):=rfl;have hlen:jnB j=true->j.hs.length<=4:=fun h=>by
  rw [hB,Bool.and_eq_true] at h;have:=inW_t h.1;have:=hsB_len (lo:=j.nx) h.2 (fun _=>rfl) (fun e h=>by cases h) (by omega)
  omega
 simp only [jnF,Bool.and_eq_true,decide_eq_true_eq,List.all_eq_true] at hf;obtain ⟨hf1,hf2⟩:=hf;have hb:=fun i=>hrB i j.hs;generalize jnB j=R at*;obtain ⟨nx,hs⟩:=j;simp only [Jn.a];dsimp only at hB hlen hf1 hf2 hb;have hga: ∀(k:Nat) x,hs[k]? =some x->List.take 5 (List.drop (k*5) (rows Flt.Hf.l hs))=x.l:=fun k x hk=>rows_at (f:=Flt.Hf.l) Flt.Hf.len hk;have hg2:=fun (k:Nat) x (hk:hs[k]? =some x)=>rows_get (f:=Flt.Hf.l) (z:=5) (j:=2) Flt.Hf.len hk rfl;refine FTL.of_iw hTT4 mo Tryz.func57 i57_eq (by simp [i57]) (iw_of_jw ?_)
 dsimp only [i57,TT4];generalize rows Flt.Hf.l hs=L at*;have hno: ¬(0<=nx/\nx<=65536)->R=false:=fun h=>by
  rw [hB];cases hi:inW nx 65536
  ·rfl
  ·exact absurd (inW_t hi) h
 cases a1:decide (nx<0);rotate_left
 ·rw [hno (by have:=of_decide_eq_true a1;omega)]
  simp only [go_sem,a1,AV.bel,belL,nblt,hb,simprocAttr];exact Ends.pureE rfl rfl
 cases a2:decide (nx>65536);rotate_left
 ·rw [hno (by have:=of_decide_eq_true a2;omega)]
  simp only [go_sem,a1,a2,AV.bel,belL,nblt,hb,simprocAttr];exact Ends.pureE rfl rfl
 cases a3:decide ((hs.length:Int)>4);rotate_left
 ·have:R=false:=by
   cases hR:R
   ·rfl
   ·have:=hlen hR;have:=of_decide_eq_true a3;omega
  rw [this];simp only [go_sem,a1,a2,a3,AV.bel,belL,nblt,hb,simprocAttr];exact Ends.pureE rfl rfl
 have b1:=of_decide_eq_false a1;have b2:=of_decide_eq_false a2;have b3:=of_decide_eq_false a3;rw [inW_of (by omega),Bool.true_and] at hB
 clear hno hlen;obtain ⟨prv,hp0,hps⟩: ∃prv:Nat->Option Int,prv 0=none/\ ∀k x,hs[k]? =some x->prv (k+1)=some x.sq:=⟨fun k=>if k=0 then none else some (hs.getD (k-1) ⟨0,0,0,[],[]⟩).sq,rfl,fun k x hx=>by simp only [Nat.add_sub_cancel,List.getD_eq_getElem?_getD,hx,Option.getD_some];rfl⟩
 have w4:IntKind.i64.wrap (nx+4)=nx+4:=wrapL (by omega) (by omega)
 simp only [go_sem,a1,a2,a3,AV.bel,belL,nblt,hb,simprocAttr];refine Loop.countI (F:=⟨Tryz.prog,cxT TT4,[18,23,80],81,0⟩) hTT4 mo hs.length (fun k=>R=hsB nx (prv k) (hs.drop k)) (fun k=>[(1,.p 0 0),(3,.i .i64 (k:Int))]) (fun k=>[(0,{cells:=[.i .i64 nx,.fz L hs.length]})]) 1 (by decide) (by rw [hp0,List.drop_zero];exact hB) ?_ ?_ (fun k hk hRk=> ?_)
 ·simp only [go_sem,Int.natCast_zero,AV.bel,belL,nblt,simprocAttr]
 ·simp only [go_sem,AV.bel,belL,nblt,hb,simprocAttr]
 dsimp only [TT4];by_cases hlt:k<hs.length
 rotate_left
 ·have c1:decide ((k:Int)<(hs.length:Int))=false:=decide_eq_false (by omega)
  rw [List.drop_of_length_le (by omega)] at hRk
  rw [show R=true from hRk]
  simp only [go_sem,c1,simprocAttr];exact Ends.pureE rfl rfl
 obtain ⟨x,hx⟩: ∃x,hs[k]? =some x:=⟨_,List.getElem?_eq_getElem hlt⟩;have hr:=hga k x hx;have hd:hs.drop k=x::hs.drop (k+1):=by
  rw [List.drop_eq_getElem_cons hlt];rw [List.getElem?_eq_getElem hlt] at hx;rw [Option.some.inj hx]
 have hpk:=hps k _ hx;have hfx:=hf2 x (List.mem_of_getElem? hx);simp only [hfF,Bool.and_eq_true,decide_eq_true_eq] at hfx;have c1:decide ((k:Int)<(hs.length:Int))=true:=decide_eq_true (by omega)
 have c2:decide (0<=(k:Int)/\(k:Int)<(hs.length:Int))=true:=decide_eq_true (by omega)
 have wk:IntKind.i64.wrap ((k:Int)+1)=((k+1:Nat):Int):=by rw [wrapL (by omega) (by omega)];omega
 rw [hd] at hRk;simp only [hsB] at hRk;have q82: ∀(h:Hp) n,k82 [.agg x.l] h n=some (true,{v:= .b (halfB x),n}):=fun h n=>by simp only [k82,hf5_l,Option.bind_some,decide_eq_true hfx.1]
 have q83:halfB x=true-> ∀(h:Hp) n,k83 [.agg x.l] h n=some (true,{v:= .b (doneB x),n}):=fun hh h n=>by simp only [k83,hf5_l,Option.bind_some,decide_eq_true hfx.1,decide_eq_true (half_ln hh),cm_done hh,Bool.and_self]
 have n1:decide (nx<=x.sq)= !decide (x.sq<nx):=by rw [Bool.eq_iff_iff];simp
 have n2:decide (x.sq<min (nx+4) 65536)=(!decide (x.sq>=nx+4)&& !decide (x.sq>=65536)):=by rw [Bool.eq_iff_iff];simp;omega
 have n5:decide (x.sq<nx)=false->decide (x.sq>nx)= !(x.sq==nx):=fun h=>by
  have:=of_decide_eq_false h;rw [Bool.eq_iff_iff];simp;omega
 have hbg:=fun i=>grB i x.got;generalize halfB x=HB at*;generalize doneB x=DB at*;obtain ⟨kd,ln,sq,bd,got⟩:=x;simp only [Flt.Hf.l] at hr q82 q83;dsimp only at hRk n1 n2 n5 hpk hbg;rw [n1,n2] at hRk;cases d1:decide (sq<nx);rotate_left
 ·rw [d1] at hRk;rw [show R=false from hRk]
  simp only [go_sem,c1,c2,hr,d1,w4,AV.bel,belL,nblt,hb,hbg,simprocAttr];exact Ends.pureE rfl rfl
 rw [n5 d1] at hRk;cases d2:decide (sq>=nx+4);rotate_left
 ·rw [d1,d2] at hRk;rw [show R=false from hRk]
  simp only [go_sem,c1,c2,hr,d1,d2,w4,AV.bel,belL,nblt,hb,hbg,simprocAttr];exact Ends.pureE rfl rfl
 cases d3:decide (sq>=65536);rotate_left
 ·rw [d1,d2,d3] at hRk;rw [show R=false from hRk]
  simp only [go_sem,c1,c2,hr,d1,d2,d3,w4,AV.bel,belL,nblt,hb,hbg,simprocAttr];exact Ends.pureE rfl rfl
 rw [d1,d2,d3] at hRk;simp only [Bool.not_false,Bool.true_and,Bool.and_self] at hRk;cases k with
 |zero=>
  rw [hp0] at hRk;simp only [Bool.true_and] at hRk;have c0:decide (0<(hs.length:Int))=true:=decide_eq_true (by omega)
  cases HB
  ·rw [show R=false from hRk]
   simp only [go_sem,c0,c1,c2,hr,d1,d2,d3,w4,q82,AV.bel,belL,nblt,hb,hbg,simprocAttr];exact Ends.pureE rfl rfl
  have q83:=q83 rfl;rw [Bool.true_and] at hRk;cases d5:(sq==nx)
  ·rw [d5,Bool.not_false,Bool.true_or,Bool.true_and] at hRk;simp only [go_sem,c0,c1,c2,hr,d1,d2,d3,d5,w4,wk,q82,AV.bel,belL,nblt,hb,hbg,simprocAttr];exact ⟨hlt,by rw [hpk];exact hRk⟩
  rw [d5,Bool.not_true,Bool.false_or] at hRk;cases DB
  ·rw [Bool.not_false,Bool.true_and] at hRk;simp only [go_sem,c0,c1,c2,hr,d1,d2,d3,d5,w4,wk,q82,q83,AV.bel,belL,nblt,hb,hbg,simprocAttr];exact ⟨hlt,by rw [hpk];exact hRk⟩
  ·rw [show R=false from hRk]
   simp only [go_sem,c0,c1,c2,hr,d1,d2,d3,d5,w4,wk,q82,q83,AV.bel,belL,nblt,hb,hbg,simprocAttr];exact Ends.pureE rfl rfl
 |succ m=>
  obtain ⟨y,hy⟩: ∃y,hs[m]? =some y:=⟨_,List.getElem?_eq_getElem (by omega)⟩
  have g3:=hg2 m _ hy;have hpm:=hps m _ hy;rw [hpm] at hRk;dsimp only at hRk;have d4:decide (((m+1:Nat):Int)>0)=true:=decide_eq_true (by omega)
  have wm:IntKind.i64.wrap (((m+1:Nat):Int)-1)=(m:Int):=by rw [wrapL (by omega) (by omega)];omega
  have c3:decide (0<=(m:Int)/\(m:Int)<(hs.length:Int))=true:=decide_eq_true (by omega)
  have n4:decide (sq>y.sq)= !decide (sq<=y.sq):=by rw [Bool.eq_iff_iff];simp
  rw [n4] at hRk;cases e1:decide (sq<=y.sq);rotate_left
  ·rw [e1] at hRk;rw [show R=false from hRk]
   simp only [go_sem,c1,c2,c3,hr,g3,d1,d2,d3,d4,e1,w4,wm,AV.bel,belL,nblt,hb,hbg,simprocAttr];exact Ends.pureE rfl rfl
  rw [e1,Bool.not_false,Bool.true_and] at hRk;cases HB
  ·rw [show R=false from hRk]
   simp only [go_sem,c1,c2,c3,hr,g3,d1,d2,d3,d4,e1,w4,wm,q82,AV.bel,belL,nblt,hb,hbg,simprocAttr];exact Ends.pureE rfl rfl
  have q83:=q83 rfl;rw [Bool.true_and] at hRk;cases d5:(sq==nx)
  ·rw [d5,Bool.not_false,Bool.true_or,Bool.true_and] at hRk;simp only [go_sem,c1,c2,c3,hr,g3,d1,d2,d3,d4,d5,e1,w4,wk,wm,q82,AV.bel,belL,nblt,hb,hbg,simprocAttr];exact ⟨hlt,by rw [hpk];exact hRk⟩
  rw [d5,Bool.not_true,Bool.false_or] at hRk;cases DB
  ·rw [Bool.not_false,Bool.true_and] at hRk;simp only [go_sem,c1,c2,c3,hr,g3,d1,d2,d3,d4,d5,e1,w4,wk,wm,q82,q83,AV.bel,belL,nblt,hb,hbg,simprocAttr];exact ⟨hlt,by rw [hpk];exact hRk⟩
  ·rw [show R=false from hRk]
   simp only [go_sem,c1,c2,c3,hr,g3,d1,d2,d3,d4,d5,e1,w4,wk,wm,q82,q83,AV.bel,belL,nblt,hb,hbg,simprocAttr];exact Ends.pureE rfl rfl
def k57:Ct
 |[.agg c],_,n=>(jn2 c).bind fun j=>some (jnF j,{v:= .b (jnB j),n})
 |_,_,_=>none
theorem s57:SoundAt Tryz.prog 57 k57:=fun args h n c E hc ht=>by
 unfold k57 at hc;split at hc
 ·simp only [Option.bind_eq_some_iff] at hc;obtain ⟨j,hj,he⟩:=hc;cases he;rw [jn2_eq hj];exact CallOK.pure (by kernel_rfl) (belL_mono0 _ (by simp only [belL,AV.bel,Jn.bel,Bool.and_self])) rfl (w57 j ht) _ _
 ·cases hc
def TT4b:List (Nat×Ct):=[(57,k57)]
theorem hTT4b:Sound Tryz.prog (cxT TT4b):=Sound.cons s57 Sound.nil
theorem w22 (j:Jn) (hf:jnF j=true):FTL Tryz.prog 22 [.agg j.a] [] 0 (.i .i64 (if jnB j then 0 else 191)) [] 0:=by
 have q57: ∀(h:Hp) n,k57 [.agg j.a] h n=some (true,{v:= .b (jnB j),n}):=fun h n=>by simp only [k57,jn2_a,Option.bind_some,hf]
 have hb:=fun i=>hrB i j.hs;obtain ⟨nx,hs⟩:=j;simp only [Jn.a] at q57 hb ⊢;generalize jnB ⟨nx,hs⟩=R at*;generalize rows Flt.Hf.l hs=L at*;refine FTL.of_iw hTT4b mo Tryz.func22 i22_eq (by simp [i22]) (iw_of_jw ?_)
 dsimp only [i22,TT4b];cases R
 ·simp only [go_sem,q57,AV.bel,belL,nblt,hb,simprocAttr];exact Ends.pureE rfl rfl
 ·simp only [go_sem,q57,AV.bel,belL,nblt,hb,simprocAttr];exact Ends.pureE rfl rfl
def k22:Ct
 |[.agg c],_,n=>(jn2 c).bind fun j=>some (jnF j,{v:= .i .i64 (if jnB j then 0 else 191),n})
 |_,_,_=>none
theorem s22:SoundAt Tryz.prog 22 k22:=fun args h n c E hc ht=>by
 unfold k22 at hc;split at hc
 ·simp only [Option.bind_eq_some_iff] at hc;obtain ⟨j,hj,he⟩:=hc;cases he;rw [jn2_eq hj];exact CallOK.pure (by kernel_rfl) (belL_mono0 _ (by simp only [belL,AV.bel,Jn.bel,Bool.and_self])) rfl (w22 j ht) _ _
 ·cases hc
end Go.Proofs.Flz
namespace Go.Proofs.Flt
open Go.Ab
theorem mapN_ext {α:Type} {g g2:Nat->α}: ∀{n:Nat},(∀i,i<n->g i=g2 i)->mapN g n=mapN g2 n
 |0,_=>rfl
 |n+1,h=>by rw [mapN_s,mapN_s,mapN_ext (fun i hi=>h i (by omega)),h n (by omega)]
theorem mapN_set {α:Type} {g g2:Nat->α} {j:Nat} {v:α}: ∀{n:Nat},j<n->(∀i,i<n->g2 i=if i=j then v else g i)->(mapN g n).set j v=mapN g2 n
 |0,h,_=>by omega
 |n+1,h,hg=>by
  rw [mapN_s,mapN_s];by_cases hj:j=n
  ·subst hj;rw [List.set_append_right _ _ (by rw [mapN_len];exact Nat.le_refl _),mapN_len,Nat.sub_self]
   rw [mapN_ext (g:=g2) (g2:=g) (fun i hi=>by rw [hg i (by omega),if_neg (by omega)]),hg j (by omega),if_pos rfl]
   rfl
  ·rw [List.set_append_left _ _ (by rw [mapN_len];omega),mapN_set (g:=g) (g2:=g2) (by omega) (fun i hi=>hg i (by omega)),hg n (by omega),if_neg (by omega)]
theorem mapN_rep {α:Type} {v:α}: ∀{n:Nat},List.replicate n v=mapN (fun _=>v) n
 |0=>rfl
 |n+1=>by rw [mapN_s,<-mapN_rep,List.replicate_succ']
def agN (kn:Nat->Bool) (bd pt:List UInt8) (ofs:Nat):Nat->Nat->Bool
 |_,0=>true
 |i,m+1=>(!(kn (ofs+i))||bd.getD (ofs+i) 0==pt.getD i 0)&&agN kn bd pt ofs (i+1) m
theorem agN_iff {kn:Nat->Bool} {bd pt:List UInt8} {ofs:Nat}: ∀{m i:Nat},agN kn bd pt ofs i m=true↔ ∀j,i<=j->j<i+m->kn (ofs+j)=true->bd.getD (ofs+j) 0=pt.getD j 0
 |0,i=>⟨fun _ j h1 h2=>by omega,fun _=>rfl⟩
 |m+1,i=>by
  simp only [agN,Bool.and_eq_true,Bool.or_eq_true,Bool.not_eq_true',beq_iff_eq];rw [agN_iff];constructor
  ·rintro ⟨h1,h2⟩ j g1 g2 g3;rcases Nat.eq_or_lt_of_le g1 with e|e
   ·subst e;rcases h1 with h1|h1
    ·rw [h1] at g3;cases g3
    ·exact h1
   ·exact h2 j (by omega) (by omega) g3
  ·intro h;refine ⟨?_,fun j g1 g2=>h j (by omega) (by omega)⟩
   cases hk:kn (ofs+i)
   ·exact .inl rfl
   ·exact .inr (h i (Nat.le_refl _) (by omega) hk)
theorem getD_at {α:Type} {l:List α} {k:Nat} {d:α} (h:k<l.length):l[k]? =some (l.getD k d):=by
 rw [List.getElem?_eq_getElem h,List.getD_eq_getElem?_getD,List.getElem?_eq_getElem h,Option.getD_some]
theorem agree_N {h:Hf} {p:Pc} {kn:Nat->Bool} {o:Nat} (ho:p.ofs=o) (hb:(h.bd.length:Int)=h.ln) (hp:(o:Int)+p.pt.length<=h.ln) (hs:srt h.ln (-1) h.got) (hk: ∀i:Nat,kn i=true↔cov h.got i):h.got.all (agreeB h p)=agN kn h.bd p.pt o 0 p.pt.length:=by
 rw [Bool.eq_iff_iff,List.all_eq_true,agN_iff];constructor
 ·intro ha j _ hj hkj;obtain ⟨r,hr,h1,h2⟩:=(hk _).1 hkj;have:=ha r hr;simp only [agreeB,Bool.or_eq_true,decide_eq_true_eq,beq_iff_eq] at this;rcases this with h3|h3
  ·omega
  ·have h4:=congrArg (fun l=>l[(o+j)-(max r.1 p.ofs).toNat]?) h3;rw [List.getElem?_take,if_pos (by omega),List.getElem?_drop,List.getElem?_take,if_pos (by omega),List.getElem?_drop] at h4
   rw [show (max r.1 p.ofs).toNat+(o+j-(max r.1 p.ofs).toNat)=o+j by omega,show (max r.1 p.ofs-p.ofs).toNat+(o+j-(max r.1 p.ofs).toNat)=j by omega] at h4
   rw [getD_at (d:=0) (by omega),getD_at (d:=0) (by omega)] at h4
   exact Option.some.inj h4
 ·intro ha r hr;simp only [agreeB,Bool.or_eq_true,decide_eq_true_eq,beq_iff_eq];by_cases hc:max r.1 p.ofs>=min r.2 (p.ofs+p.pt.length)
  ·exact .inl hc
  ·refine .inr ?_;rw [show (min r.2 (p.ofs+p.pt.length)-max r.1 p.ofs).toNat=(min r.2 (p.ofs+(p.pt.length:Int))).toNat-(max r.1 p.ofs).toNat by omega]
   refine sub_eq (fun k h1 h2=> ?_);have h3:=ha (k-o) (Nat.zero_le _) (by omega) ((hk _).2 ⟨r,hr,by omega,by omega⟩)
   rw [show o+(k-o)=k by omega] at h3
   have hsr:=srt_mem hs r hr;rw [getD_at (d:=0) (by omega),h3,<-getD_at (d:=0) (by omega)]
   congr 1;omega
def rnS (G:List (Int×Int)) (i:Nat) (b:Bool):List (Int×Int):=
 bif b then (match G.getLast? with
  |some x=>bif x.2==(i:Int) then G.dropLast++[(x.1,(i:Int)+1)] else G++[((i:Int),(i:Int)+1)]
  |none=>[((i:Int),(i:Int)+1)]) else G
def runs (kn:Nat->Bool):Nat->List (Int×Int)
 |0=>[]
 |k+1=>rnS (runs kn k) k (kn k)
theorem srt_snoc {ln:Int}: ∀{lo:Int} {l:List (Int×Int)} {x:Int×Int},srt ln lo (l++[x])↔srt ln lo l/\(lo<x.1/\ ∀y,l.getLast? =some y->y.2<x.1)/\x.1<x.2/\x.2<=ln
 |lo,[],x=>by simp [srt]
 |lo,[z],x=>by
  simp only [List.cons_append,List.nil_append,srt,List.getLast?_singleton,Option.some.injEq,forall_eq',and_true];constructor
  ·rintro ⟨h1,h2,h3,h4,h5,h6⟩;exact ⟨⟨h1,h2,h3⟩,⟨by omega,h4⟩,h5,h6⟩
  ·rintro ⟨⟨h1,h2,h3⟩,⟨h4,h5⟩,h6,h7⟩;exact ⟨h1,h2,h3,h5,h6,h7⟩
 |lo,z::w::r,x=>by
  have ih:=srt_snoc (ln:=ln) (lo:=z.2) (l:=w::r) (x:=x);rw [List.cons_append,srt,ih];show _↔(lo<z.1/\z.1<z.2/\z.2<=ln/\srt ln z.2 (w::r))/\_;rw [List.getLast?_cons_cons];constructor
  ·rintro ⟨h1,h2,h3,h4,⟨h5,h6⟩,h7⟩;exact ⟨⟨h1,h2,h3,h4⟩,⟨by omega,h6⟩,h7⟩
  ·rintro ⟨⟨h1,h2,h3,h4⟩,⟨h5,h6⟩,h7⟩;refine ⟨h1,h2,h3,h4,⟨?_,h6⟩,h7⟩;have hl:(w::r).getLast? =some ((w::r).getLast (by simp)):=List.getLast?_eq_some_getLast _
   have:=h6 _ hl;have hm:(w::r).getLast (by simp)∈w::r:=List.getLast_mem _
   have key: ∀{lo:Int} {l:List (Int×Int)} {y:Int×Int},srt ln lo l->y∈l->lo<y.2:=by
    intro lo l;induction l generalizing lo with
    |nil=>intro y _ h;cases h
    |cons a l ih=>
     intro y hs hy;rcases List.mem_cons.1 hy with rfl|hy
     ·have:=hs.1;have:=hs.2.1;omega
     ·have:=ih hs.2.2.2 hy;have:=hs.1;have:=hs.2.1;omega
   have:=key h4 hm;omega
theorem srt_ln {ln ln2:Int} (hl:ln<=ln2): ∀{lo:Int} {l:List (Int×Int)},srt ln lo l->srt ln2 lo l
 |_,[],_=>trivial
 |_,x::r,h=>⟨h.1,h.2.1,by have:=h.2.2.1;omega,srt_ln hl h.2.2.2⟩
theorem cov_app {l l2:List (Int×Int)} {o:Int}:cov (l++l2) o↔cov l o\/cov l2 o:=by
 simp only [cov,List.mem_append];constructor
 ·rintro ⟨x,h1|h1,h2⟩
  ·exact .inl ⟨x,h1,h2⟩
  ·exact .inr ⟨x,h1,h2⟩
 ·rintro (⟨x,h1,h2⟩|⟨x,h1,h2⟩)
  ·exact ⟨x,.inl h1,h2⟩
  ·exact ⟨x,.inr h1,h2⟩
theorem cov_one {x:Int×Int} {o:Int}:cov [x] o↔x.1<=o/\o<x.2:=by
 rw [cov_cons];exact ⟨fun h=>h.elim _root_.id (fun h=>absurd h cov_nil),.inl⟩
theorem runs_ok (kn:Nat->Bool): ∀k:Nat,srt k (-1) (runs kn k)/\ ∀o:Int,cov (runs kn k) o↔0<=o/\o<k/\kn o.toNat=true
 |0=>⟨trivial,fun o=>⟨fun h=>absurd h cov_nil,fun h=>by omega⟩⟩
 |k+1=>by
  obtain ⟨h1,h2⟩:=runs_ok kn k;have hs1:srt ((k+1:Nat):Int) (-1) (runs kn k):=srt_ln (by omega) h1
  show srt _ _ (rnS (runs kn k) k (kn k))/\ ∀o,cov (rnS (runs kn k) k (kn k)) o↔_;generalize hG:runs kn k=G at*;unfold rnS;cases hb:kn k
  ·rw [cond_false];refine ⟨hs1,fun o=> ?_⟩;rw [h2 o];constructor
   ·rintro ⟨a,b,c⟩;exact ⟨a,by omega,c⟩
   ·rintro ⟨a,b,c⟩;refine ⟨a,?_,c⟩;by_cases ho:o=k
    ·subst ho;rw [Int.toNat_natCast,hb] at c;cases c
    ·omega
  ·rw [cond_true];have fin: ∀G2:List (Int×Int),(∀o,cov G2 o↔cov G o\/o=k)-> ∀o:Int,cov G2 o↔0<=o/\o<((k+1:Nat):Int)/\kn o.toNat=true:=fun G2 hc o=>by
    rw [hc o,h2 o];constructor
    ·rintro (⟨a,b,c⟩|rfl)
     ·exact ⟨a,by omega,c⟩
     ·exact ⟨by omega,by omega,by rw [Int.toNat_natCast];exact hb⟩
    ·rintro ⟨a,b,c⟩;by_cases ho:o=k
     ·exact .inr ho
     ·exact .inl ⟨a,by omega,c⟩
   cases hg:G.getLast? with
   |none=>
    have:G=[]:=List.getLast?_eq_none_iff.1 hg;subst this;refine ⟨⟨by show (-1:Int)<(k:Int);omega,by show (k:Int)<k+1;omega,by show (k:Int)+1<=_;omega,trivial⟩,fin _ (fun o=> ?_)⟩
    rw [cov_one];constructor
    ·rintro ⟨a,b⟩;exact .inr (by dsimp only at a b;omega)
    ·rintro (h|rfl)
     ·exact absurd h cov_nil
     ·exact ⟨by dsimp only;omega,by dsimp only;omega⟩
   |some x=>
    have hxG:G=G.dropLast++[x]:=by
     have hne:G≠[]:=by rintro rfl;cases hg
     have e:=List.dropLast_concat_getLast hne;rw [List.getLast?_eq_some_getLast hne] at hg;rw [Option.some.inj hg] at e;exact e.symm
    have hx:=hs1;rw [hxG,srt_snoc] at hx;have hx1:=h1;rw [hxG,srt_snoc] at hx1;dsimp only;cases he:(x.2==(k:Int))
    ·rw [cond_false];have hne:x.2≠k:=beq_eq_false_iff_ne.1 he;refine ⟨srt_snoc.2 ⟨hs1,⟨by show (-1:Int)<(k:Int);omega,fun y hy=> ?_⟩,by show (k:Int)<k+1;omega,by show (k:Int)+1<=_;omega⟩,fin _ (fun o=> ?_)⟩
     ·rw [hg] at hy;cases hy;show x.2<(k:Int);have:=hx1.2.2.2;omega
     ·rw [cov_app,cov_one];constructor
      ·rintro (h|⟨a,b⟩)
       ·exact .inl h
       ·exact .inr (by dsimp only at a b;omega)
      ·rintro (h|rfl)
       ·exact .inl h
       ·exact .inr ⟨by dsimp only;omega,by dsimp only;omega⟩
    ·rw [cond_true];have hee:x.2=k:=beq_iff_eq.1 he;refine ⟨srt_snoc.2 ⟨hx.1,⟨hx.2.1.1,hx.2.1.2⟩,by show x.1<(k:Int)+1;have:=hx.2.2.1;omega,by show (k:Int)+1<=_;omega⟩,fin _ (fun o=> ?_)⟩
     have hc:cov G o↔cov G.dropLast o\/cov [x] o:=by rw [<-cov_app,<-hxG]
     rw [hc,cov_app,cov_one,cov_one];have:=hx.2.2.1;constructor
     ·rintro (h|⟨a,b⟩)
      ·exact .inl (.inl h)
      ·dsimp only at a b;by_cases ho:o=k
       ·exact .inr ho
       ·exact .inl (.inr ⟨a,by omega⟩)
     ·rintro ((h|⟨a,b⟩)|rfl)
      ·exact .inl h
      ·exact .inr ⟨a,by dsimp only;omega⟩
      ·exact .inr ⟨by dsimp only;omega,by dsimp only;omega⟩
theorem runs_len (kn:Nat->Bool): ∀k:Nat,(runs kn k).length<=k
 |0=>Nat.le_refl _
 |k+1=>by
  have:=runs_len kn k;show (rnS (runs kn k) k (kn k)).length<=k+1;unfold rnS;cases kn k
  ·rw [cond_false];omega
  ·rw [cond_true];split
   ·rename_i x hx;cases x.2==(k:Int)
    ·rw [cond_false,List.length_append];simp only [List.length_cons,List.length_nil];omega
    ·rw [cond_true,List.length_append,List.length_dropLast];have:runs kn k≠[]:=by intro e;rw [e] at hx;cases hx
     have:=List.length_pos_iff.2 this;simp only [List.length_cons,List.length_nil];omega
   ·simp only [List.length_cons,List.length_nil];omega
theorem runs_uniq {ln:Nat} {got:List (Int×Int)} {kn:Nat->Bool} (hs:srt ln (-1) got) (hk: ∀i:Nat,i<ln->(kn i=true↔cov got i)):got=runs kn ln:=by
 obtain ⟨h1,h2⟩:=runs_ok kn ln;refine srt_uniq hs h1 (fun o=> ?_);rw [h2 o];constructor
 ·intro h;have:=cov_gt hs h;refine ⟨by omega,this.2,(hk _ (by omega)).2 ?_⟩
  rw [Int.toNat_of_nonneg (by omega)];exact h
 ·rintro ⟨a,b,c⟩;have:=(hk _ (by omega)).1 c
  rwa [Int.toNat_of_nonneg a] at this
def knI (kn:Nat->Bool) (o i:Nat) (k:Nat):Bool:=kn k||(decide (o<=k)&&decide (k<o+i))
theorem fill_N {h:Hf} {p:Pc} {kn:Nat->Bool} {o n:Nat} (ho:p.ofs=o) (hn:h.ln=n) (hb:h.bd.length=n) (hp:o+p.pt.length<=n) (hs:srt h.ln (-1) h.got) (hkd:h.kd=p.kd) (hln:h.ln=p.ln) (hk: ∀i:Nat,kn i=true↔cov h.got i):
 fillS h p=bif agN kn h.bd p.pt o 0 p.pt.length then some ⟨h.kd,h.ln,h.sq,h.bd.take o++p.pt++h.bd.drop (o+p.pt.length),runs (knI kn o p.pt.length) n⟩ else none:=by
 have ha:=agree_N ho (by omega) (by omega) hs hk
 unfold fillS;rw [beq_iff_eq.2 hkd,beq_iff_eq.2 hln,ha,ho];simp only [Bool.true_and,Int.toNat_natCast];cases agN kn h.bd p.pt o 0 p.pt.length
 ·rfl
 ·rw [cond_true,cond_true];congr 2;rw [hn] at hs;by_cases hpt:p.pt=[]
  ·rw [if_pos hpt];refine runs_uniq hs (fun i hi=> ?_);rw [hpt];unfold knI;rw [<-hk i];cases kn i
   ·simp
   ·simp
  ·rw [if_neg hpt];have h0:0<p.pt.length:=List.length_pos_iff.2 hpt;refine runs_uniq (gotS_srt hs (by show (-1:Int)<o;omega) (by show (o:Int)<o+p.pt.length;omega) (by show (o:Int)+p.pt.length<=n;omega)) (fun i hi=> ?_)
   rw [gotS_cov hs (by show (o:Int)<o+p.pt.length;omega),<-hk i]
   unfold knI;simp only [Bool.or_eq_true,Bool.and_eq_true,decide_eq_true_eq];constructor
   ·rintro (h|h)
    ·exact .inr h
    ·exact .inl (by omega)
   ·rintro (h|h)
    ·exact .inr (by omega)
    ·exact .inl h
end Go.Proofs.Flt
