/- Texts laid as one: AbFast AbShelf AbCln AbWka AbEqf AbFrs AbWkS ResIR ResC1 ResC2 ResC3. -/
import Derived.Test.YthnmkedknannhaaX5
import Derived.Below
import Derived.Test.YthnmkedknannhaaProg
set_option maxRecDepth 100000
set_option maxHeartbeats 4000000
set_option linter.unusedSimpArgs false
set_option linter.unusedVariables false
namespace Go.Ab
noncomputable def egetF (e:Env) (b:Nat):Option AV:=List.rec none (fun ck _ ih=>bif Nat.beq ck.1 b then some ck.2 else ih) e
noncomputable def hgetF (h:Hp) (b:Nat):Option Blk:=List.rec none (fun ck _ ih=>bif Nat.beq ck.1 b then some ck.2 else ih) h
theorem egetF_eq (e:Env) (b:Nat):egetF e b=eget e b:=by
 induction e with
 |nil=>rfl
 |cons x e ih=>obtain ⟨c,k⟩:=x;simp only [eget,<-ih];rfl
theorem hgetF_eq (h:Hp) (b:Nat):hgetF h b=hget h b:=by
 induction h with
 |nil=>rfl
 |cons x h ih=>obtain ⟨c,k⟩:=x;simp only [hget,<-ih];rfl
noncomputable def hgcF (h:Hp) (b:Nat):Option Blk:=(hgetF h b).bind Blk.pln
theorem hgcF_eq (h:Hp) (b:Nat):hgcF h b=hgc h b:=by simp only [hgcF,hgetF_eq,hgc]
noncomputable def evF (o:Opd) (e:Env) (h:Hp):Option AV:=match o with
 | .t n=>egetF e n
 | .c v=>some v
 | .g g=>hglobC h g
theorem evF_eq (o:Opd) (e:Env) (h:Hp):evF o e h=o.ev e h:=by
 cases o
 ·exact egetF_eq e _
 ·rfl
 ·rfl
noncomputable def evsF (e:Env) (h:Hp) (l:List Opd):Option (List AV):=List.rec (some []) (fun x _ ih=>(evF x e h).bind fun v=>ih.bind fun vs=>some (v::vs)) l
theorem evsF_eq (e:Env) (h:Hp) (l:List Opd):evsF e h l=evs e h l:=by
 induction l with
 |nil=>rfl
 |cons x l ih=>simp only [evs,<-ih,<-evF_eq];rfl
noncomputable def evpsF (e:Env) (h:Hp) (l:List (Nat×Nat×Opd)):Option (List (Nat×Nat×AV)):=List.rec (some []) (fun x _ ih=>(evF x.2.2 e h).bind fun v=>ih.bind fun vs=>some ((x.1,x.2.1,v)::vs)) l
theorem evpsF_eq (e:Env) (h:Hp) (l:List (Nat×Nat×Opd)):evpsF e h l=evps e h l:=by
 induction l with
 |nil=>rfl
 |cons x l ih=>obtain ⟨a,b,c⟩:=x;simp only [evps,<-ih,<-evF_eq];rfl
noncomputable def obindF {α:Type} (e:Env) (h:Hp) (o:Option Opd) (k:Option Int->Option α):Option α:=
 match o with
 |none=>k none
 |some x=>(evF x e h).bind fun v=>(asJ v).bind fun n=>k (some n)
theorem obindF_eq {α:Type} (e:Env) (h:Hp) (o:Option Opd) (k:Option Int->Option α):obindF e h o k=obind e h o k:=by
 cases o with
 |none=>rfl
 |some x=>simp only [obindF,obind,evF_eq]
noncomputable def srcF (h:Hp) (esz:Nat) (v:AV):Option (List Nat×Nat×List AV×Bool):=match v with
 | .ns=>some ([],0,[],true)
 | .s l=>some ([],l.length,l.map (fun b=> .i .u8 b.toNat),Nat.beq esz 1)
 | .sl b o len _=>(hgcF h b).bind fun k=>some ([b],len,cellsAt k.cells o (len*esz),decide ((cellsAt k.cells o (len*esz)).length=len*esz))
 | .sg b o len=>(hgcF h b).bind fun k=>some ([b],len,cellsAt k.cells o (len*esz),decide ((cellsAt k.cells o (len*esz)).length=len*esz))
 | .fz l len=>some ([],len,cellsAt l 0 (len*esz),decide ((cellsAt l 0 (len*esz)).length=len*esz))
 | .ze=>some ([],0,[],true)
 | .en=>some ([],0,[],true)
 |_=>none
theorem srcF_eq (h:Hp) (z:Nat) (v:AV):srcF h z v=srcCells h z v:=by
 cases v<;>simp only [srcF,srcCells,hgcF_eq]
noncomputable def s_mv (x:Opd) (e:Env) (h:Hp) (n:Nat):Option (Bool×Eff):=(evF x e h).bind fun v=>pe v n
theorem s_mv_eq (x0:Opd) (e:Env) (h:Hp) (n:Nat):s_mv x0 e h n=step (.mv x0) e h n:=by
 simp only [s_mv,evF_eq,evsF_eq,evpsF_eq,obindF_eq,hgcF_eq,srcF_eq];try rfl
noncomputable def s_pick (c:Opd) (a:Opd) (b:Opd) (e:Env) (h:Hp) (n:Nat):Option (Bool×Eff):=(evF c e h).bind fun v=>match v with
 | .b true=>(evF a e h).bind fun v=>pe v n
 | .b false=>(evF b e h).bind fun v=>pe v n
 |_=>none
theorem s_pick_eq (x0:Opd) (x1:Opd) (x2:Opd) (e:Env) (h:Hp) (n:Nat):s_pick x0 x1 x2 e h n=step (.pick x0 x1 x2) e h n:=by
 simp only [s_pick,evF_eq,evsF_eq,evpsF_eq,obindF_eq,hgcF_eq,srcF_eq];try rfl
noncomputable def s_new (z:List AV) (e:Env) (h:Hp) (n:Nat):Option (Bool×Eff):=some (true,{v:= .p n 0,n:=n+1,nw:=[(n,{cells:=z})]})
theorem s_new_eq (x0:List AV) (e:Env) (h:Hp) (n:Nat):s_new x0 e h n=step (.new x0) e h n:=by
 simp only [s_new,evF_eq,evsF_eq,evpsF_eq,obindF_eq,hgcF_eq,srcF_eq];try rfl
noncomputable def s_box (x:Opd) (e:Env) (h:Hp) (n:Nat):Option (Bool×Eff):=(evF x e h).bind fun v=>some (!v.isAny,{v:= .p n 0,n:=n+1,nw:=[(n,{cells:=v.cells})]})
theorem s_box_eq (x0:Opd) (e:Env) (h:Hp) (n:Nat):s_box x0 e h n=step (.box x0) e h n:=by
 simp only [s_box,evF_eq,evsF_eq,evpsF_eq,obindF_eq,hgcF_eq,srcF_eq];try rfl
noncomputable def s_build (z:List AV) (ps:List (Nat×Nat×Opd)) (e:Env) (h:Hp) (n:Nat):Option (Bool×Eff):=(evpsF e h ps).bind fun l=>(fills z l).bind fun cs=>pe (.agg cs) n
theorem s_build_eq (x0:List AV) (x1:List (Nat×Nat×Opd)) (e:Env) (h:Hp) (n:Nat):s_build x0 x1 e h n=step (.build x0 x1) e h n:=by
 simp only [s_build,evF_eq,evsF_eq,evpsF_eq,obindF_eq,hgcF_eq,srcF_eq];try rfl
noncomputable def s_bsl (z:List AV) (len:Nat) (ps:List (Nat×Nat×Opd)) (e:Env) (h:Hp) (n:Nat):Option (Bool×Eff):=(evpsF e h ps).bind fun l=>(fills z l).bind fun cs=>some (true,{v:= .sl n 0 len len,n:=n+1,nw:=[(n,{cells:=cs})]})
theorem s_bsl_eq (x0:List AV) (x1:Nat) (x2:List (Nat×Nat×Opd)) (e:Env) (h:Hp) (n:Nat):s_bsl x0 x1 x2 e h n=step (.bsl x0 x1 x2) e h n:=by
 simp only [s_bsl,evF_eq,evsF_eq,evpsF_eq,obindF_eq,hgcF_eq,srcF_eq];try rfl
noncomputable def s_ld (agg:Bool) (z:Nat) (a:Opd) (e:Env) (h:Hp) (n:Nat):Option (Bool×Eff):=(evF a e h).bind fun v=>match v with
 | .p b o=>(hgcF h b).bind fun k=>
  match agg with
  |true=>some (decide ((cellsAt k.cells o z).length=z),{v:= .agg (cellsAt k.cells o z),n,rd:=[b]})
  |false=>(k.cells[o]?).bind fun v=>some (true,{v,n,rd:=[b]})
 | .fp l o=>match agg with
  |true=>some (decide ((cellsAt l o z).length=z),{v:= .agg (cellsAt l o z),n})
  |false=>(l[o]?).bind fun v=>some (true,{v,n})
 |_=>none
theorem s_ld_eq (x0:Bool) (x1:Nat) (x2:Opd) (e:Env) (h:Hp) (n:Nat):s_ld x0 x1 x2 e h n=step (.ld x0 x1 x2) e h n:=by
 simp only [s_ld,evF_eq,evsF_eq,evpsF_eq,obindF_eq,hgcF_eq,srcF_eq];try rfl
noncomputable def s_st (z:Nat) (a:Opd) (x:Opd) (e:Env) (h:Hp) (n:Nat):Option (Bool×Eff):=(evF a e h).bind fun v=>match v with
 | .p b o=>(hgcF h b).bind fun k=>(evF x e h).bind fun y=>
  match k.ro with
  |true=>none
  |false=>some (oneAll y.cells&&Nat.beq y.cells.length z&&decide (o+z<=k.cells.length),{v:= .tup [],n,rd:=[b],md:=[(b,some {k with cells:=splice k.cells o y.cells})]})
 |_=>none
theorem s_st_eq (x0:Nat) (x1:Opd) (x2:Opd) (e:Env) (h:Hp) (n:Nat):s_st x0 x1 x2 e h n=step (.st x0 x1 x2) e h n:=by
 simp only [s_st,evF_eq,evsF_eq,evpsF_eq,obindF_eq,hgcF_eq,srcF_eq];try rfl
noncomputable def s_nck (x:Opd) (e:Env) (h:Hp) (n:Nat):Option (Bool×Eff):=(evF x e h).bind fun v=>match v with
 | .p b o=>pe (.p b o) n
 | .fn f l=>pe (.fn f l) n
 | .bm f l=>pe (.bm f l) n
 | .fp l o=>pe (.fp l o) n
 |_=>none
theorem s_nck_eq (x0:Opd) (e:Env) (h:Hp) (n:Nat):s_nck x0 e h n=step (.nck x0) e h n:=by
 simp only [s_nck,evF_eq,evsF_eq,evpsF_eq,obindF_eq,hgcF_eq,srcF_eq];try rfl
noncomputable def s_bin (op:BinOp) (x:Opd) (y:Opd) (e:Env) (h:Hp) (n:Nat):Option (Bool×Eff):=(evF x e h).bind fun a=>(evF y e h).bind fun b=>(bin op a b).bind fun r=>some (r.1,{v:=r.2,n})
theorem s_bin_eq (x0:BinOp) (x1:Opd) (x2:Opd) (e:Env) (h:Hp) (n:Nat):s_bin x0 x1 x2 e h n=step (.bin x0 x1 x2) e h n:=by
 simp only [s_bin,evF_eq,evsF_eq,evpsF_eq,obindF_eq,hgcF_eq,srcF_eq];try rfl
noncomputable def s_eqk (neg:Bool) (agg:Bool) (ks:List Kd) (x:Opd) (y:Opd) (e:Env) (h:Hp) (n:Nat):Option (Bool×Eff):=(evF x e h).bind fun a=>(evF y e h).bind fun b=>(eqk agg ks a b).bind fun r=>pe (.b (bif neg then !r else r)) n
theorem s_eqk_eq (x0:Bool) (x1:Bool) (x2:List Kd) (x3:Opd) (x4:Opd) (e:Env) (h:Hp) (n:Nat):s_eqk x0 x1 x2 x3 x4 e h n=step (.eqk x0 x1 x2 x3 x4) e h n:=by
 simp only [s_eqk,evF_eq,evsF_eq,evpsF_eq,obindF_eq,hgcF_eq,srcF_eq];try rfl
noncomputable def s_eqn (neg:Bool) (k:Nat) (x:Opd) (y:Opd) (e:Env) (h:Hp) (n:Nat):Option (Bool×Eff):=(evF x e h).bind fun a=>(evF y e h).bind fun b=>(eqn k a b).bind fun r=>pe (.b (bif neg then !r else r)) n
theorem s_eqn_eq (x0:Bool) (x1:Nat) (x2:Opd) (x3:Opd) (e:Env) (h:Hp) (n:Nat):s_eqn x0 x1 x2 x3 e h n=step (.eqn x0 x1 x2 x3) e h n:=by
 simp only [s_eqn,evF_eq,evsF_eq,evpsF_eq,obindF_eq,hgcF_eq,srcF_eq];try rfl
noncomputable def s_not (x:Opd) (e:Env) (h:Hp) (n:Nat):Option (Bool×Eff):=(evF x e h).bind fun v=>match v with
 | .b c=>pe (.b !c) n
 |_=>none
theorem s_not_eq (x0:Opd) (e:Env) (h:Hp) (n:Nat):s_not x0 e h n=step (.not x0) e h n:=by
 simp only [s_not,evF_eq,evsF_eq,evpsF_eq,obindF_eq,hgcF_eq,srcF_eq];try rfl
noncomputable def s_neg (x:Opd) (e:Env) (h:Hp) (n:Nat):Option (Bool×Eff):=(evF x e h).bind fun v=>match v with
 | .i k m=>pe (.i k (k.wrap (0-m))) n
 |_=>none
theorem s_neg_eq (x0:Opd) (e:Env) (h:Hp) (n:Nat):s_neg x0 e h n=step (.neg x0) e h n:=by
 simp only [s_neg,evF_eq,evsF_eq,evpsF_eq,obindF_eq,hgcF_eq,srcF_eq];try rfl
noncomputable def s_i2i (k:IntKind) (x:Opd) (e:Env) (h:Hp) (n:Nat):Option (Bool×Eff):=(evF x e h).bind fun v=>match v with
 | .i _ m=>pe (.i k (k.wrap m)) n
 |_=>none
theorem s_i2i_eq (x0:IntKind) (x1:Opd) (e:Env) (h:Hp) (n:Nat):s_i2i x0 x1 e h n=step (.i2i x0 x1) e h n:=by
 simp only [s_i2i,evF_eq,evsF_eq,evpsF_eq,obindF_eq,hgcF_eq,srcF_eq];try rfl
noncomputable def s_s2b (x:Opd) (e:Env) (h:Hp) (n:Nat):Option (Bool×Eff):=(evF x e h).bind fun v=>match v with
 | .s l=>some (true,{v:= .sg n 0 l.length,n:=n+1,nw:=[(n,{cells:=l.map fun b=> .i .u8 b.toNat,gr:=some 1})]})
 |_=>none
theorem s_s2b_eq (x0:Opd) (e:Env) (h:Hp) (n:Nat):s_s2b x0 e h n=step (.s2b x0) e h n:=by
 simp only [s_s2b,evF_eq,evsF_eq,evpsF_eq,obindF_eq,hgcF_eq,srcF_eq];try rfl
noncomputable def s_b2s (x:Opd) (e:Env) (h:Hp) (n:Nat):Option (Bool×Eff):=(evF x e h).bind fun v=>match v with
 | .ns=>pe (.s []) n
 | .fz l m=>(bytesOf (l.take m)).bind fun s=>some (decide (s.length=m),{v:= .s s,n})
 |v=>(slParts v).bind fun q=>(hgcF h q.1).bind fun k=>(bytesOf (cellsAt k.cells q.2.1 q.2.2)).bind fun l=>
  some (decide (l.length=q.2.2),{v:= .s l,n,rd:=[q.1]})
theorem s_b2s_eq (x0:Opd) (e:Env) (h:Hp) (n:Nat):s_b2s x0 e h n=step (.b2s x0) e h n:=by
 simp only [s_b2s,evF_eq,evsF_eq,evpsF_eq,obindF_eq,hgcF_eq,srcF_eq];try rfl
noncomputable def s_idc (x:Opd) (e:Env) (h:Hp) (n:Nat):Option (Bool×Eff):=(evF x e h).bind fun v=>match v with
 | .s l=>pe (.s l) n
 |_=>none
theorem s_idc_eq (x0:Opd) (e:Env) (h:Hp) (n:Nat):s_idc x0 e h n=step (.idc x0) e h n:=by
 simp only [s_idc,evF_eq,evsF_eq,evpsF_eq,obindF_eq,hgcF_eq,srcF_eq];try rfl
noncomputable def s_mkf (f:FuncId) (caps:List Opd) (e:Env) (h:Hp) (n:Nat):Option (Bool×Eff):=(evsF e h caps).bind fun l=>pe (.fn f l) n
theorem s_mkf_eq (x0:FuncId) (x1:List Opd) (e:Env) (h:Hp) (n:Nat):s_mkf x0 x1 e h n=step (.mkf x0 x1) e h n:=by
 simp only [s_mkf,evF_eq,evsF_eq,evpsF_eq,obindF_eq,hgcF_eq,srcF_eq];try rfl
noncomputable def s_slS (x:Opd) (lo:Option Opd) (hi:Option Opd) (e:Env) (h:Hp) (n:Nat):Option (Bool×Eff):=(evF x e h).bind fun v=>match v with
 | .s l=>obindF e h lo fun lo=>obindF e h hi fun hi=>
  let r:=sbound l.length l.length lo hi none
  some (r.1,{v:= .s ((l.take r.2.2.1).drop r.2.1),n})
 |_=>none
theorem s_slS_eq (x0:Opd) (x1:Option Opd) (x2:Option Opd) (e:Env) (h:Hp) (n:Nat):s_slS x0 x1 x2 e h n=step (.slS x0 x1 x2) e h n:=by
 simp only [s_slS,evF_eq,evsF_eq,evpsF_eq,obindF_eq,hgcF_eq,srcF_eq];try rfl
noncomputable def s_slV (z:Nat) (x:Opd) (lo:Option Opd) (hi:Option Opd) (mx:Option Opd) (e:Env) (h:Hp) (n:Nat):Option (Bool×Eff):=(evF x e h).bind fun v=>match v with
 | .ns=>obindF e h lo fun lo=>obindF e h hi fun hi=>obindF e h mx fun mx=>
  let r:=sbound 0 0 lo hi mx
  some (r.1,{v:= .ns,n})
 | .sl b o len cap=>obindF e h lo fun lo=>obindF e h hi fun hi=>obindF e h mx fun mx=>
  let r:=sbound len cap lo hi mx
  some (r.1,{v:= .sl b (if r.2.2.2=r.2.1 then o else o+r.2.1*z) (r.2.2.1-r.2.1) (r.2.2.2-r.2.1),n})
 | .sg b o len=>match mx with
  |some _=>none
  |none=>(hgcF h b).bind fun k=>obindF e h lo fun lo=>obindF e h hi fun hi=>
   let r:=sbound len len lo hi none
   match k.gr with
   |some z'=>match decide (r.2.1=0\/r.2.1<len) with
    |true=>some (r.1&&Nat.beq z z',{v:= .sg b (o+r.2.1*z) (r.2.2.1-r.2.1),n,rd:=[b]})
    |false=>some (r.1&&Nat.beq z z',{v:= .en,n,rd:=[b]})
   |none=>none
 | .fz l len=>obindF e h lo fun lo=>obindF e h hi fun hi=>obindF e h mx fun mx=>
  let r:=sbound len len lo hi mx
  some (r.1,{v:=if mx.isSome/\r.2.2.2=r.2.1 then .ze else .fz (l.drop (r.2.1*z)) (r.2.2.1-r.2.1),n})
 | .ze=>obindF e h lo fun lo=>obindF e h hi fun hi=>obindF e h mx fun mx=>
  let r:=sbound 0 0 lo hi mx
  some (r.1,{v:= .ze,n})
 |_=>none
theorem s_slV_eq (x0:Nat) (x1:Opd) (x2:Option Opd) (x3:Option Opd) (x4:Option Opd) (e:Env) (h:Hp) (n:Nat):s_slV x0 x1 x2 x3 x4 e h n=step (.slV x0 x1 x2 x3 x4) e h n:=by
 simp only [s_slV,evF_eq,evsF_eq,evpsF_eq,obindF_eq,hgcF_eq,srcF_eq];try rfl
noncomputable def s_slA (m:Nat) (z:Nat) (x:Opd) (lo:Option Opd) (hi:Option Opd) (mx:Option Opd) (e:Env) (h:Hp) (n:Nat):Option (Bool×Eff):=(evF x e h).bind fun v=>match v with
 | .p b o=>obindF e h lo fun lo=>obindF e h hi fun hi=>obindF e h mx fun mx=>
  let r:=sbound m m lo hi mx
  some (r.1,{v:= .sl b (if r.2.2.2=r.2.1 then o else o+r.2.1*z) (r.2.2.1-r.2.1) (r.2.2.2-r.2.1),n})
 |_=>none
theorem s_slA_eq (x0:Nat) (x1:Nat) (x2:Opd) (x3:Option Opd) (x4:Option Opd) (x5:Option Opd) (e:Env) (h:Hp) (n:Nat):s_slA x0 x1 x2 x3 x4 x5 e h n=step (.slA x0 x1 x2 x3 x4 x5) e h n:=by
 simp only [s_slA,evF_eq,evsF_eq,evpsF_eq,obindF_eq,hgcF_eq,srcF_eq];try rfl
noncomputable def s_fa (off:Nat) (x:Opd) (e:Env) (h:Hp) (n:Nat):Option (Bool×Eff):=(evF x e h).bind fun v=>match v with
 | .p b o=>pe (.p b (o+off)) n
 | .fp l o=>pe (.fp l (o+off)) n
 |_=>none
theorem s_fa_eq (x0:Nat) (x1:Opd) (e:Env) (h:Hp) (n:Nat):s_fa x0 x1 e h n=step (.fa x0 x1) e h n:=by
 simp only [s_fa,evF_eq,evsF_eq,evpsF_eq,obindF_eq,hgcF_eq,srcF_eq];try rfl
noncomputable def s_fld (agg:Bool) (z:Nat) (off:Nat) (x:Opd) (e:Env) (h:Hp) (n:Nat):Option (Bool×Eff):=(evF x e h).bind fun v=>match v with
 | .agg l=>match agg with
  |true=>some (decide (off+z<=l.length),{v:= .agg (cellsAt l off z),n})
  |false=>(l[off]?).bind fun v=>pe v n
 |_=>none
theorem s_fld_eq (x0:Bool) (x1:Nat) (x2:Nat) (x3:Opd) (e:Env) (h:Hp) (n:Nat):s_fld x0 x1 x2 x3 e h n=step (.fld x0 x1 x2 x3) e h n:=by
 simp only [s_fld,evF_eq,evsF_eq,evpsF_eq,obindF_eq,hgcF_eq,srcF_eq];try rfl
noncomputable def s_ixaA (m:Nat) (z:Nat) (x:Opd) (i:Opd) (e:Env) (h:Hp) (n:Nat):Option (Bool×Eff):=(evF x e h).bind fun v=>(evF i e h).bind fun i=>(asJ i).bind fun i=>match v with
 | .p b o=>some (decide (0<=i/\i<m),{v:= .p b (o+i.toNat*z),n})
 | .fp l o=>some (decide (0<=i/\i<m),{v:= .fp l (o+i.toNat*z),n})
 |_=>none
theorem s_ixaA_eq (x0:Nat) (x1:Nat) (x2:Opd) (x3:Opd) (e:Env) (h:Hp) (n:Nat):s_ixaA x0 x1 x2 x3 e h n=step (.ixaA x0 x1 x2 x3) e h n:=by
 simp only [s_ixaA,evF_eq,evsF_eq,evpsF_eq,obindF_eq,hgcF_eq,srcF_eq];try rfl
noncomputable def s_ixaV (z:Nat) (x:Opd) (i:Opd) (e:Env) (h:Hp) (n:Nat):Option (Bool×Eff):=(evF x e h).bind fun v=>(evF i e h).bind fun i=>(asJ i).bind fun i=>match v with
 | .fz l len=>some (decide (0<=i/\i<len),{v:= .fp l (i.toNat*z),n})
 |v=>(slParts v).bind fun q=>some (decide (0<=i/\i<q.2.2),{v:= .p q.1 (q.2.1+i.toNat*z),n})
theorem s_ixaV_eq (x0:Nat) (x1:Opd) (x2:Opd) (e:Env) (h:Hp) (n:Nat):s_ixaV x0 x1 x2 e h n=step (.ixaV x0 x1 x2) e h n:=by
 simp only [s_ixaV,evF_eq,evsF_eq,evpsF_eq,obindF_eq,hgcF_eq,srcF_eq];try rfl
noncomputable def s_ixA (m:Nat) (z:Nat) (agg:Bool) (x:Opd) (i:Opd) (e:Env) (h:Hp) (n:Nat):Option (Bool×Eff):=(evF x e h).bind fun v=>(evF i e h).bind fun i=>(asJ i).bind fun i=>match v with
 | .agg l=>match agg with
  |true=>some (decide (0<=i/\i<m)&&decide (i.toNat*z+z<=l.length),{v:= .agg (cellsAt l (i.toNat*z) z),n})
  |false=>(l[i.toNat*z]?).bind fun v=>some (decide (0<=i/\i<m),{v,n})
 |_=>none
theorem s_ixA_eq (x0:Nat) (x1:Nat) (x2:Bool) (x3:Opd) (x4:Opd) (e:Env) (h:Hp) (n:Nat):s_ixA x0 x1 x2 x3 x4 e h n=step (.ixA x0 x1 x2 x3 x4) e h n:=by
 simp only [s_ixA,evF_eq,evsF_eq,evpsF_eq,obindF_eq,hgcF_eq,srcF_eq];try rfl
noncomputable def s_ixS (x:Opd) (i:Opd) (e:Env) (h:Hp) (n:Nat):Option (Bool×Eff):=(evF x e h).bind fun v=>(evF i e h).bind fun i=>(asJ i).bind fun i=>match v with
 | .s l=>some (decide (0<=i/\i<l.length),{v:= .i .u8 ((l[i.toNat]?).getD 0).toNat,n})
 |_=>none
theorem s_ixS_eq (x0:Opd) (x1:Opd) (e:Env) (h:Hp) (n:Nat):s_ixS x0 x1 e h n=step (.ixS x0 x1) e h n:=by
 simp only [s_ixS,evF_eq,evsF_eq,evpsF_eq,obindF_eq,hgcF_eq,srcF_eq];try rfl
noncomputable def s_ext (x:Opd) (i:Nat) (e:Env) (h:Hp) (n:Nat):Option (Bool×Eff):=(evF x e h).bind fun v=>match v with
 | .tup l=>(l[i]?).bind fun v=>pe v n
 |_=>none
theorem s_ext_eq (x0:Opd) (x1:Nat) (e:Env) (h:Hp) (n:Nat):s_ext x0 x1 e h n=step (.ext x0 x1) e h n:=by
 simp only [s_ext,evF_eq,evsF_eq,evpsF_eq,obindF_eq,hgcF_eq,srcF_eq];try rfl
noncomputable def s_lenS (x:Opd) (e:Env) (h:Hp) (n:Nat):Option (Bool×Eff):=(evF x e h).bind fun v=>match v with
 | .s l=>pe (.i .i64 l.length) n
 |_=>none
theorem s_lenS_eq (x0:Opd) (e:Env) (h:Hp) (n:Nat):s_lenS x0 e h n=step (.lenS x0) e h n:=by
 simp only [s_lenS,evF_eq,evsF_eq,evpsF_eq,obindF_eq,hgcF_eq,srcF_eq];try rfl
noncomputable def s_lenV (x:Opd) (e:Env) (h:Hp) (n:Nat):Option (Bool×Eff):=(evF x e h).bind fun v=>match v with
 | .ns=>pe (.i .i64 0) n
 | .fz _ len=>pe (.i .i64 len) n
 | .ze=>pe (.i .i64 0) n
 | .en=>pe (.i .i64 0) n
 |v=>(slParts v).bind fun q=>pe (.i .i64 q.2.2) n
theorem s_lenV_eq (x0:Opd) (e:Env) (h:Hp) (n:Nat):s_lenV x0 e h n=step (.lenV x0) e h n:=by
 simp only [s_lenV,evF_eq,evsF_eq,evpsF_eq,obindF_eq,hgcF_eq,srcF_eq];try rfl
noncomputable def s_lenC (m:Nat) (e:Env) (h:Hp) (n:Nat):Option (Bool×Eff):=pe (.i .i64 m) n
theorem s_lenC_eq (x0:Nat) (e:Env) (h:Hp) (n:Nat):s_lenC x0 e h n=step (.lenC x0) e h n:=by
 simp only [s_lenC,evF_eq,evsF_eq,evpsF_eq,obindF_eq,hgcF_eq,srcF_eq];try rfl
noncomputable def s_capV (x:Opd) (e:Env) (h:Hp) (n:Nat):Option (Bool×Eff):=(evF x e h).bind fun v=>match v with
 | .ns=>pe (.i .i64 0) n
 | .sl _ _ _ cap=>pe (.i .i64 cap) n
 | .ze=>pe (.i .i64 0) n
 |_=>none
theorem s_capV_eq (x0:Opd) (e:Env) (h:Hp) (n:Nat):s_capV x0 e h n=step (.capV x0) e h n:=by
 simp only [s_capV,evF_eq,evsF_eq,evpsF_eq,obindF_eq,hgcF_eq,srcF_eq];try rfl
noncomputable def s_mn (x:Opd) (xs:List Opd) (e:Env) (h:Hp) (n:Nat):Option (Bool×Eff):=(evF x e h).bind fun v=>(asK v).bind fun a=>(evsF e h xs).bind fun l=>(minI a.1 a.2 l).bind fun m=>pe (.i a.1 m) n
theorem s_mn_eq (x0:Opd) (x1:List Opd) (e:Env) (h:Hp) (n:Nat):s_mn x0 x1 e h n=step (.mn x0 x1) e h n:=by
 simp only [s_mn,evF_eq,evsF_eq,evpsF_eq,obindF_eq,hgcF_eq,srcF_eq];try rfl
noncomputable def s_mx (x:Opd) (xs:List Opd) (e:Env) (h:Hp) (n:Nat):Option (Bool×Eff):=(evF x e h).bind fun v=>(asK v).bind fun a=>(evsF e h xs).bind fun l=>(maxI a.1 a.2 l).bind fun m=>pe (.i a.1 m) n
theorem s_mx_eq (x0:Opd) (x1:List Opd) (e:Env) (h:Hp) (n:Nat):s_mx x0 x1 e h n=step (.mx x0 x1) e h n:=by
 simp only [s_mx,evF_eq,evsF_eq,evpsF_eq,obindF_eq,hgcF_eq,srcF_eq];try rfl
noncomputable def s_mks (z:Nat) (bytes:Nat) (zs:List AV) (l:Opd) (c:Opd) (e:Env) (h:Hp) (n:Nat):Option (Bool×Eff):=(evF l e h).bind fun l=>(asI l).bind fun l=>(evF c e h).bind fun c=>(asI c).bind fun c=>
 some (decide (0<=l/\l<=c/\bytes*c<=281474976710656/\c<=9223372036854775807),{v:= .sl n 0 l.toNat c.toNat,n:=n+1,nw:=[(n,{cells:=zeros zs c.toNat})]})
theorem s_mks_eq (x0:Nat) (x1:Nat) (x2:List AV) (x3:Opd) (x4:Opd) (e:Env) (h:Hp) (n:Nat):s_mks x0 x1 x2 x3 x4 e h n=step (.mks x0 x1 x2 x3 x4) e h n:=by
 simp only [s_mks,evF_eq,evsF_eq,evpsF_eq,obindF_eq,hgcF_eq,srcF_eq];try rfl
noncomputable def s_app (z:Nat) (bytes:Nat) (zs:List AV) (s:Opd) (x:Opd) (e:Env) (h:Hp) (n:Nat):Option (Bool×Eff):=(evF s e h).bind fun s=>(evF x e h).bind fun x=>(srcF h z x).bind fun r=>
 if r.2.1=0 then (match s with
  | .ns=>some (r.2.2.2,{v:= .ns,n,rd:=r.1})
  | .sl b o len cap=>some (r.2.2.2&&decide (len<=cap),{v:= .sl b o len cap,n,rd:=r.1})
  | .sg b o len=>some (r.2.2.2,{v:= .sg b o len,n,rd:=r.1})
  | .ze=>some (r.2.2.2,{v:= .ze,n,rd:=r.1})
  | .fz l len=>some (r.2.2.2,{v:= .fz l len,n,rd:=r.1})
  |_=>none)
 else match s with
 | .ns=>some (r.2.2.2&&decide (bytes*r.2.1<=growMax),{v:= .sg n 0 r.2.1,n:=n+1,rd:=r.1,nw:=[(n,{cells:=r.2.2.1,gr:=some z})]})
 | .ze=>some (r.2.2.2&&decide (bytes*r.2.1<=growMax),{v:= .sg n 0 r.2.1,n:=n+1,rd:=r.1,nw:=[(n,{cells:=r.2.2.1,gr:=some z})]})
 | .sl b o len cap=>(hgcF h b).bind fun k=>
  if len+r.2.1<=cap then
   match k.ro with
   |true=>none
   |false=>some (r.2.2.2&&decide (o+len*z+r.2.2.1.length<=k.cells.length)&&oneAll r.2.2.1,{v:= .sl b o (len+r.2.1) cap,n,rd:=b::r.1,md:=[(b,some {k with cells:=splice k.cells (o+len*z) r.2.2.1})]})
  else some (r.2.2.2&&decide (bytes*(len+r.2.1)<=growMax)&&decide ((cellsAt k.cells o (len*z)).length=len*z)&&decide (len<=cap),{v:= .sg n 0 (len+r.2.1),n:=n+1,rd:=b::r.1,nw:=[(n,{cells:=cellsAt k.cells o (len*z)++r.2.2.1,gr:=some z})]})
 | .sg b o len=>(hgcF h b).bind fun k=>
  match k.gr with
  |some z'=>some (r.2.2.2&&decide (bytes*(len+r.2.1)<=growMax)&&Nat.beq z z'&&decide (k.cells.length=o+len*z)&&oneAll r.2.2.1,{v:= .sg n 0 (len+r.2.1),n:=n+1,rd:=b::r.1,md:=[(b,none)],nw:=[(n,{cells:=k.cells.drop o++r.2.2.1,gr:=some z})]})
  |none=>none
 |_=>none
theorem s_app_eq (x0:Nat) (x1:Nat) (x2:List AV) (x3:Opd) (x4:Opd) (e:Env) (h:Hp) (n:Nat):s_app x0 x1 x2 x3 x4 e h n=step (.app x0 x1 x2 x3 x4) e h n:=by
 simp only [s_app,evF_eq,evsF_eq,evpsF_eq,obindF_eq,hgcF_eq,srcF_eq];try rfl
noncomputable def s_apz (z:Nat) (bytes:Nat) (zs:List AV) (s:Opd) (x:Opd) (e:Env) (h:Hp) (n:Nat):Option (Bool×Eff):=(evF s e h).bind fun s=>(evF x e h).bind fun x=>(asI x).bind fun m=>match s with
 | .sl b o len cap=>(hgcF h b).bind fun k=>
  some (decide (0<m)&&decide (cap<len+m.toNat)&&decide (bytes*(len+m.toNat)<=growMax)&&decide ((cellsAt k.cells o (len*z)).length=len*z),{v:= .sg n 0 (len+m.toNat),n:=n+1,rd:=[b],nw:=[(n,{cells:=cellsAt k.cells o (len*z)++zeros zs m.toNat,gr:=some z})]})
 |_=>none
theorem s_apz_eq (x0:Nat) (x1:Nat) (x2:List AV) (x3:Opd) (x4:Opd) (e:Env) (h:Hp) (n:Nat):s_apz x0 x1 x2 x3 x4 e h n=step (.apz x0 x1 x2 x3 x4) e h n:=by
 simp only [s_apz,evF_eq,evsF_eq,evpsF_eq,obindF_eq,hgcF_eq,srcF_eq];try rfl
noncomputable def s_cpy (z:Nat) (d:Opd) (s:Opd) (e:Env) (h:Hp) (n:Nat):Option (Bool×Eff):=(evF d e h).bind fun d=>(evF s e h).bind fun s=>(srcF h z s).bind fun r=>
 match d with
 | .ns=>some (r.2.2.2,{v:= .i .i64 0,n,rd:=r.1})
 | .en=>some (r.2.2.2,{v:= .i .i64 0,n,rd:=r.1})
 |d=>(slParts d).bind fun q=>(hgcF h q.1).bind fun k=>
  match k.ro with
  |true=>none
  |false=>some (r.2.2.2&&(oneAll r.2.2.1||oneAll (r.2.2.1.take (Nat.min r.2.1 q.2.2*z)))&&decide (q.2.1+Nat.min r.2.1 q.2.2*z<=k.cells.length),{v:= .i .i64 (Nat.min r.2.1 q.2.2),n,rd:=q.1::r.1,md:=[(q.1,some {k with cells:=splice k.cells q.2.1 (r.2.2.1.take (Nat.min r.2.1 q.2.2*z))})]})
theorem s_cpy_eq (x0:Nat) (x1:Opd) (x2:Opd) (e:Env) (h:Hp) (n:Nat):s_cpy x0 x1 x2 e h n=step (.cpy x0 x1 x2) e h n:=by
 simp only [s_cpy,evF_eq,evsF_eq,evpsF_eq,obindF_eq,hgcF_eq,srcF_eq];try rfl
noncomputable def s_clr (z:Nat) (zs:List AV) (x:Opd) (e:Env) (h:Hp) (n:Nat):Option (Bool×Eff):=(evF x e h).bind fun v=>match v with
 | .ns=>pe (.tup []) n
 |v=>(slParts v).bind fun q=>(hgcF h q.1).bind fun k=>
  match k.ro with
  |true=>none
  |false=>some (oneAll zs&&Nat.beq zs.length z&&decide (q.2.1+q.2.2*z<=k.cells.length),{v:= .tup [],n,rd:=[q.1],md:=[(q.1,some {k with cells:=splice k.cells q.2.1 (zeros zs q.2.2)})]})
theorem s_clr_eq (x0:Nat) (x1:List AV) (x2:Opd) (e:Env) (h:Hp) (n:Nat):s_clr x0 x1 x2 e h n=step (.clr x0 x1 x2) e h n:=by
 simp only [s_clr,evF_eq,evsF_eq,evpsF_eq,obindF_eq,hgcF_eq,srcF_eq];try rfl
noncomputable def s_call (cx:Cx) (f:Opd) (args:List Opd) (e:Env) (h:Hp) (n:Nat):Option (Bool×Eff):=(evF f e h).bind fun v=>match v with
 | .fn g caps=>(evsF e h args).bind fun l=>cx g (l++caps) h n
 | .bm g fs=>(evsF e h args).bind fun l=>cx g (fs++l) h n
 | .yl L r ts cs=>(evsF e h args).bind fun l=>cx YB (.yl L r ts cs::l) h n
 |_=>none
theorem s_call_eq (cx:Cx) (f:Opd) (args:List Opd) (e:Env) (h:Hp) (n:Nat):s_call cx f args e h n=stepC cx (.call f args) e h n:=by
 simp only [s_call,evF_eq,evsF_eq];rfl
noncomputable def s_bad (e:Env) (h:Hp) (n:Nat):Option (Bool×Eff):=none
noncomputable def stF (cx:Cx) (o:IOp):Env->Hp->Nat->Option (Bool×Eff):=match o with
 | .mv x0=>s_mv x0
 | .pick x0 x1 x2=>s_pick x0 x1 x2
 | .new x0=>s_new x0
 | .box x0=>s_box x0
 | .build x0 x1=>s_build x0 x1
 | .bsl x0 x1 x2=>s_bsl x0 x1 x2
 | .ld x0 x1 x2=>s_ld x0 x1 x2
 | .st x0 x1 x2=>s_st x0 x1 x2
 | .nck x0=>s_nck x0
 | .bin x0 x1 x2=>s_bin x0 x1 x2
 | .eqk x0 x1 x2 x3 x4=>s_eqk x0 x1 x2 x3 x4
 | .eqn x0 x1 x2 x3=>s_eqn x0 x1 x2 x3
 | .not x0=>s_not x0
 | .neg x0=>s_neg x0
 | .i2i x0 x1=>s_i2i x0 x1
 | .s2b x0=>s_s2b x0
 | .b2s x0=>s_b2s x0
 | .idc x0=>s_idc x0
 | .mkf x0 x1=>s_mkf x0 x1
 | .slS x0 x1 x2=>s_slS x0 x1 x2
 | .slV x0 x1 x2 x3 x4=>s_slV x0 x1 x2 x3 x4
 | .slA x0 x1 x2 x3 x4 x5=>s_slA x0 x1 x2 x3 x4 x5
 | .fa x0 x1=>s_fa x0 x1
 | .fld x0 x1 x2 x3=>s_fld x0 x1 x2 x3
 | .ixaA x0 x1 x2 x3=>s_ixaA x0 x1 x2 x3
 | .ixaV x0 x1 x2=>s_ixaV x0 x1 x2
 | .ixA x0 x1 x2 x3 x4=>s_ixA x0 x1 x2 x3 x4
 | .ixS x0 x1=>s_ixS x0 x1
 | .ext x0 x1=>s_ext x0 x1
 | .lenS x0=>s_lenS x0
 | .lenV x0=>s_lenV x0
 | .lenC x0=>s_lenC x0
 | .capV x0=>s_capV x0
 | .mn x0 x1=>s_mn x0 x1
 | .mx x0 x1=>s_mx x0 x1
 | .mks x0 x1 x2 x3 x4=>s_mks x0 x1 x2 x3 x4
 | .app x0 x1 x2 x3 x4=>s_app x0 x1 x2 x3 x4
 | .apz x0 x1 x2 x3 x4=>s_apz x0 x1 x2 x3 x4
 | .cpy x0 x1 x2=>s_cpy x0 x1 x2
 | .clr x0 x1 x2=>s_clr x0 x1 x2
 | .mkm x0 x1=>stepC cx (.mkm x0 x1)
 | .mki x0 x1=>stepC cx (.mki x0 x1)
 | .mpN x0=>stepC cx (.mpN x0)
 | .mpG x0 x1 x2 x3 x4=>stepC cx (.mpG x0 x1 x2 x3 x4)
 | .mpU x0 x1 x2 x3=>stepC cx (.mpU x0 x1 x2 x3)
 | .mpD x0 x1 x2=>stepC cx (.mpD x0 x1 x2)
 | .tas x0 x1 x2=>stepC cx (.tas x0 x1 x2)
 | .eqi x0 x1=>stepC cx (.eqi x0 x1)
 | .pan x0=>stepC cx (.pan x0)
 | .rcv=>stepC cx (.rcv)
 | .dfr x0 x1=>stepC cx (.dfr x0 x1)
 | .call f args=>s_call cx f args
 | .bad=>s_bad
theorem stF_eq (cx:Cx) (o:IOp) (e:Env) (h:Hp) (n:Nat):stF cx o e h n=stepC cx o e h n:=by
 cases o with
 |mv x0=>exact s_mv_eq x0 e h n
 |pick x0 x1 x2=>exact s_pick_eq x0 x1 x2 e h n
 |new x0=>exact s_new_eq x0 e h n
 |box x0=>exact s_box_eq x0 e h n
 |build x0 x1=>exact s_build_eq x0 x1 e h n
 |bsl x0 x1 x2=>exact s_bsl_eq x0 x1 x2 e h n
 |ld x0 x1 x2=>exact s_ld_eq x0 x1 x2 e h n
 |st x0 x1 x2=>exact s_st_eq x0 x1 x2 e h n
 |nck x0=>exact s_nck_eq x0 e h n
 |bin x0 x1 x2=>exact s_bin_eq x0 x1 x2 e h n
 |eqk x0 x1 x2 x3 x4=>exact s_eqk_eq x0 x1 x2 x3 x4 e h n
 |eqn x0 x1 x2 x3=>exact s_eqn_eq x0 x1 x2 x3 e h n
 |not x0=>exact s_not_eq x0 e h n
 |neg x0=>exact s_neg_eq x0 e h n
 |i2i x0 x1=>exact s_i2i_eq x0 x1 e h n
 |s2b x0=>exact s_s2b_eq x0 e h n
 |b2s x0=>exact s_b2s_eq x0 e h n
 |idc x0=>exact s_idc_eq x0 e h n
 |mkf x0 x1=>exact s_mkf_eq x0 x1 e h n
 |slS x0 x1 x2=>exact s_slS_eq x0 x1 x2 e h n
 |slV x0 x1 x2 x3 x4=>exact s_slV_eq x0 x1 x2 x3 x4 e h n
 |slA x0 x1 x2 x3 x4 x5=>exact s_slA_eq x0 x1 x2 x3 x4 x5 e h n
 |fa x0 x1=>exact s_fa_eq x0 x1 e h n
 |fld x0 x1 x2 x3=>exact s_fld_eq x0 x1 x2 x3 e h n
 |ixaA x0 x1 x2 x3=>exact s_ixaA_eq x0 x1 x2 x3 e h n
 |ixaV x0 x1 x2=>exact s_ixaV_eq x0 x1 x2 e h n
 |ixA x0 x1 x2 x3 x4=>exact s_ixA_eq x0 x1 x2 x3 x4 e h n
 |ixS x0 x1=>exact s_ixS_eq x0 x1 e h n
 |ext x0 x1=>exact s_ext_eq x0 x1 e h n
 |lenS x0=>exact s_lenS_eq x0 e h n
 |lenV x0=>exact s_lenV_eq x0 e h n
 |lenC x0=>exact s_lenC_eq x0 e h n
 |capV x0=>exact s_capV_eq x0 e h n
 |mn x0 x1=>exact s_mn_eq x0 x1 e h n
 |mx x0 x1=>exact s_mx_eq x0 x1 e h n
 |mks x0 x1 x2 x3 x4=>exact s_mks_eq x0 x1 x2 x3 x4 e h n
 |app x0 x1 x2 x3 x4=>exact s_app_eq x0 x1 x2 x3 x4 e h n
 |apz x0 x1 x2 x3 x4=>exact s_apz_eq x0 x1 x2 x3 x4 e h n
 |cpy x0 x1 x2=>exact s_cpy_eq x0 x1 x2 e h n
 |clr x0 x1 x2=>exact s_clr_eq x0 x1 x2 e h n
 |mkm x0 x1=>rfl
 |mki x0 x1=>rfl
 |mpN x0=>rfl
 |mpG x0 x1 x2 x3 x4=>rfl
 |mpU x0 x1 x2 x3=>rfl
 |mpD x0 x1 x2=>rfl
 |tas x0 x1 x2=>rfl
 |eqi x0 x1=>rfl
 |pan x0=>rfl
 |rcv=>rfl
 |dfr x0 x1=>rfl
 |call f args=>exact s_call_eq cx f args e h n
 |bad=>rfl
/-! ### the executor -/
noncomputable def forceN {R:Type} (m:Nat) (k:Nat->R):R:=Nat.rec (k 0) (fun j _=>k (j+1)) m
theorem forceN_eq {R:Type} (m:Nat) (k:Nat->R):forceN m k=k m:=by cases m<;>rfl
noncomputable def forceI {R:Type} (m:Int) (k:Int->R):R:=Int.rec (fun j=>forceN j fun j=>k (Int.ofNat j)) (fun j=>forceN j fun j=>k (Int.negSucc j)) m
theorem forceI_eq {R:Type} (m:Int) (k:Int->R):forceI m k=k m:=by
 cases m with
 |ofNat j=>show forceN j (fun j=>k (Int.ofNat j))=_;rw [forceN_eq]
 |negSucc j=>show forceN j (fun j=>k (Int.negSucc j))=_;rw [forceN_eq]
noncomputable def forceV {R:Type} (v:AV) (k:AV->R):R:=match v with
 | .i t m=>forceI m fun m=>k (.i t m)
 | .b c=>bif c then k (.b true) else k (.b false)
 | .p b o=>forceN b fun b=>forceN o fun o=>k (.p b o)
 |v=>k v
theorem forceV_eq {R:Type} (v:AV) (k:AV->R):forceV v k=k v:=by
 cases v with
 |i t m=>show forceI m (fun m=>k (.i t m))=_;rw [forceI_eq]
 |b c=>cases c<;>rfl
 |p b o=>simp only [forceV,forceN_eq]
 |_=>rfl
noncomputable def forceL {R:Type} (l:List AV) (k:List AV->R):R:=(List.rec (motive:=fun _=>(List AV->R)->R) (fun k=>k []) (fun a _ ih k=>forceV a fun a=>ih fun l=>k (a::l)) l) k
theorem forceL_eq {R:Type} (l:List AV): ∀k:List AV->R,forceL l k=k l:=by
 induction l with
 |nil=>intro k;rfl
 |cons a l ih=>
  intro k;show forceV a (fun a=>forceL l fun l=>k (a::l))=_;rw [forceV_eq,ih]
noncomputable def forceW {R:Type} (v:AV) (k:AV->R):R:=match v with
 | .agg l=>forceL l fun l=>k (.agg l)
 | .tup l=>forceL l fun l=>k (.tup l)
 |v=>forceV v k
theorem forceW_eq {R:Type} (v:AV) (k:AV->R):forceW v k=k v:=by
 cases v with
 |agg l=>simp only [forceW,forceL_eq]
 |tup l=>simp only [forceW,forceL_eq]
 |_=>simp only [forceW,forceV_eq]
noncomputable def forceB {R:Type} (b:Blk) (k:Blk->R):R:=match b with
 |⟨c,ro,gr,gid,mp⟩=>forceL c fun c=>k ⟨c,ro,gr,gid,mp⟩
theorem forceB_eq {R:Type} (b:Blk) (k:Blk->R):forceB b k=k b:=by
 obtain ⟨c,ro,gr,gid,mp⟩:=b;simp only [forceB,forceL_eq]
noncomputable def forceMd {R:Type} (l:List (Nat×Option Blk)) (k:List (Nat×Option Blk)->R):R:=(List.rec (motive:=fun _=>(List (Nat×Option Blk)->R)->R) (fun k=>k []) (fun a _ ih k=>match a with
 |(b,some x)=>forceN b fun b=>forceB x fun x=>ih fun l=>k ((b,some x)::l)
 |(b,none)=>forceN b fun b=>ih fun l=>k ((b,none)::l)) l) k
theorem forceMd_eq {R:Type} (l:List (Nat×Option Blk)): ∀k:List (Nat×Option Blk)->R,forceMd l k=k l:=by
 induction l with
 |nil=>intro k;rfl
 |cons a l ih=>
  intro k;obtain ⟨b,x⟩:=a;cases x with
  |none=>
   show forceN b (fun b=>forceMd l fun l=>k ((b,none)::l))=_;rw [forceN_eq,ih]
  |some x=>
   show forceN b (fun b=>forceB x fun x=>forceMd l fun l=>k ((b,some x)::l))=_;rw [forceN_eq,forceB_eq,ih]
noncomputable def forceNw {R:Type} (l:List (Nat×Blk)) (k:List (Nat×Blk)->R):R:=(List.rec (motive:=fun _=>(List (Nat×Blk)->R)->R) (fun k=>k []) (fun a _ ih k=>match a with
 |(b,x)=>forceN b fun b=>forceB x fun x=>ih fun l=>k ((b,x)::l)) l) k
theorem forceNw_eq {R:Type} (l:List (Nat×Blk)): ∀k:List (Nat×Blk)->R,forceNw l k=k l:=by
 induction l with
 |nil=>intro k;rfl
 |cons a l ih=>
  intro k;obtain ⟨b,x⟩:=a;show forceN b (fun b=>forceB x fun x=>forceNw l fun l=>k ((b,x)::l))=_;rw [forceN_eq,forceB_eq,ih]
noncomputable def forceE {R:Type} (E:Eff) (k:Eff->R):R:=match E with
 |⟨v,n,rd,md,nw,pn⟩=>forceW v fun v=>forceN n fun n=>forceMd md fun md=>forceNw nw fun nw=>k ⟨v,n,rd,md,nw,pn⟩
theorem forceE_eq {R:Type} (E:Eff) (k:Eff->R):forceE E k=k E:=by
 obtain ⟨v,n,rd,md,nw,pn⟩:=E;simp only [forceE,forceW_eq,forceN_eq,forceMd_eq,forceNw_eq]
noncomputable def wantF (e:Env) (g:Option (Nat×Bool)):Option Bool:=match g with
 |none=>some true
 |some tb=>(egetF e tb.1).bind fun v=>match v with
  | .b c=>some (bif tb.2 then c else !c)
  | .tup []=>some false
  |_=>none
theorem wantF_eq (e:Env) (g:Option (Nat×Bool)):wantF e g=wantedI e g:=by
 cases g with
 |none=>rfl
 |some tb=>
  obtain ⟨t,b⟩:=tb;simp only [wantF,wantedI,egetF_eq];cases eget e t with
  |none=>rfl
  |some v=>
   cases v with
   |b c=>cases b<;>cases c<;>rfl
   |tup l=>cases l<;>rfl
   |_=>rfl
noncomputable def oneFM (cx:Cx) (o:IOper) (ih:Env->Hp->Nat->Option (Env×Hp×Nat)) (e:Env) (h:Hp) (n:Nat):Option (Env×Hp×Nat):=match wantF e o.guard with
 |some true=>match stF cx o.op e h n with
  |some (true,E)=>forceE E fun E=>match E.pn with
   |none=>ih (eput o.dst E.v e) (E.appL h) E.n
   |some _=>none
  |_=>none
 |some false=>ih (eput o.dst (.tup []) e) h n
 |none=>none
noncomputable def opsF (cx:Cx) (l:List IOper):Env->Hp->Nat->Option (Env×Hp×Nat):=List.rec (fun e h n=>some (e,h,n)) (fun o _ ih=>oneFM cx o ih) l
theorem opsF_eq (cx:Cx) (l:List IOper): ∀(e:Env) (h:Hp) (n:Nat),opsF cx l e h n=xOps cx l e h n:=by
 induction l with
 |nil=>intro e h n;rfl
 |cons o l ih=>
  intro e h n;show oneFM cx o (opsF cx l) e h n=_;simp only [oneFM,xOps,wantF_eq,stF_eq,forceE_eq,ih];cases wantedI e o.guard with
  |none=>rfl
  |some b=>cases b<;>rfl
noncomputable def oneD (cx:Cx) (o:IOper) (un:List Nat) (ih:Nat->List (Nat×Eff)->Env->Hp->Nat->Option (Env×Hp×Nat)) (i:Nat) (dn:List (Nat×Eff)) (e:Env) (h:Hp) (n:Nat):Option (Env×Hp×Nat):=match wantF e o.guard with
 |some true=>match stF cx o.op e h n with
  |some (true,E)=>forceE E fun E=>match effOK h n E&&okAll un E dn,E.pn with
   |true,none=>forceN i fun i=>ih (i+1) (pushD i E dn) (eput o.dst E.v e) (E.appL h) E.n
   |_,_=>none
  |_=>none
 |some false=>ih (i+1) dn (eput o.dst (.tup []) e) h n
 |none=>none
noncomputable def drF (cx:Cx) (l:List (IOper×List Nat)):Nat->List (Nat×Eff)->Env->Hp->Nat->Option (Env×Hp×Nat):=List.rec (fun _ _ e h n=>some (e,h,n)) (fun o _ ih=>oneD cx o.1 o.2 ih) l
theorem drF_eq (cx:Cx) (l:List (IOper×List Nat)): ∀(i:Nat) (dn:List (Nat×Eff)) (e:Env) (h:Hp) (n:Nat),drF cx l i dn e h n=xDr cx l i dn e h n:=by
 induction l with
 |nil=>intro i dn e h n;rfl
 |cons o l ih=>
  intro i dn e h n;obtain ⟨o,un⟩:=o;show oneD cx o un (drF cx l) i dn e h n=_;simp only [oneD,xDr,wantF_eq,stF_eq,forceE_eq,forceN_eq,ih];cases wantedI e o.guard with
  |none=>rfl
  |some b=>cases b<;>rfl
noncomputable def recap (ks:List Nat) (e:Env):Env:=List.rec [] (fun k _ ih=>match egetF e k with
 |some v=>(k,v)::ih
 |none=>ih) ks
theorem recap_sub (e:Env): ∀(ks:List Nat) (t:Nat) (v:AV),eget (recap ks e) t=some v->eget e t=some v
 |[],t,v,h=>by cases h
 |k::ks,t,v,h=>by
  have hr:recap (k::ks) e=match egetF e k with
   |some v=>(k,v)::recap ks e
   |none=>recap ks e:=rfl
  rw [hr,egetF_eq] at h;cases hk:eget e k with
  |none=>rw [hk] at h;exact recap_sub e ks t v h
  |some u=>
   rw [hk] at h;simp only [eget] at h;cases hb:Nat.beq k t
   ·rw [hb] at h;exact recap_sub e ks t v h
   ·rw [hb] at h;have:=Nat.eq_of_beq_eq_true hb;subst this;simp only [cond_true,Option.some.injEq] at h;subst h;exact hk
noncomputable def inF (l:List Nat) (b:Nat):Bool:=List.rec false (fun c _ ih=>bif Nat.beq c b then true else ih) l
noncomputable def keysF (e:Env):List Nat:=List.rec (fun acc=>acc) (fun x _ ih acc=>bif inF acc x.1 then ih acc else ih (x.1::acc)) e []
noncomputable def lpF (run:XR) (c:ICode) (ks:List Nat) (m:Nat):Env->Hp->Nat->Option XO:=Nat.rec (fun _ _ _=>none) (fun _ ih e h n=>(run c e h n).bind fun o=>match o with
 |(.n,e,h,n)=>ih (recap ks e) h n
 |o=>some o) m
noncomputable def bodyF (T:List (Nat×IFn)) (m:Nat) (run:XR) (cx:Cx) (c:ICode):Env->Hp->Nat->Option XO:=
 match c with
 | .skip=>fun e h n=>some (.n,e,h,n)
 | .reg ops=>fun e h n=>(opsF cx ops e h n).bind fun o=>some (.n,o)
 | .dreg ops=>fun e h n=>(drF cx ops 0 [] e h n).bind fun o=>some (.n,o)
 | .seq a b=>fun e h n=>(run a e h n).bind fun o=>match o with
  |(.n,e,h,n)=>run b e h n
  |o=>some o
 | .cond c a b=>fun e h n=>(evF c e h).bind fun v=>match v with
  | .b true=>run a e h n
  | .b false=>run b e h n
  |_=>none
 | .block id c=>fun e h n=>(run c e h n).bind fun o=>match o with
  |(.x i,e,h,n)=>bif Nat.beq i id then some (.n,e,h,n) else some (.x i,e,h,n)
  |o=>some o
 | .loop c=>fun e h n=>lpF run c (keysF e) m (recap (keysF e) e) h n
 | .scope c=>fun e h n=>run c e h n
 | .exit id=>fun e h n=>some (.x id,e,h,n)
 | .ret=>fun e h n=>some (.r,e,h,n)
 | .bad=>fun _ _ _=>none
 | .rfunc _ _ _ _=>fun _ _ _=>none
section
variable {P:Program} {ct:List Nat} {N n0:Nat}
theorem WP.sub {c:Code} {K:Kont} {e e2:Env} {h:Hp} {n:Nat} (hs: ∀t v,eget e2 t=some v->eget e t=some v) (hw:WP P N n0 c K e2 h n):WP P N n0 c K e h n:=fun ro hro B D0 φ0 H0 w0 h1 h2 D φ a w hR hS=>
 hw ro hro B D0 φ0 H0 w0 h1 h2 D φ a w ⟨hR.lt,fun t v ht=>hR.env t v (hs t v ht),hR.heap,hR.size,hR.defers⟩ hS
end
theorem bodyG_ok {P:Program} {T:List (Nat×IFn)} {cx:Cx} (hm:P.follows .mixedOrders=true) (m:Nat) {run:XR} (hrun:RunOK P run) (hcx:Sound P cx):RunOK P (bodyF T m run cx):=by
 intro ct N n0 c e h n out hx c' hc';have viaI:iw ⟨P,cx,ct,N,n0⟩ c (isOut out) e h n->WP P N n0 c' (isOut out) e h n:=fun hi=>
  iw_sound ⟨P,cx,ct,N,n0⟩ hcx hm c' _ _ _ _ (by show iw _ (compC P ct N c') _ _ _ _;rw [hc'];exact hi)
 cases c with
 |loop a=>
  simp only [bodyF] at hx;obtain ⟨a',rfl,ha⟩:=inv_loop hc';refine WP.sub (recap_sub e (keysF e)) ?_;generalize recap (keysF e) e=e0 at hx;generalize keysF e=ks at hx;intro ro hro B D0 φ0 H0 w0 h1 h2 D φ ac w hR hS;refine wpIn_loop_rounds m ?_;clear hc' viaI e;induction m generalizing e0 h n D φ ac w with
  |zero=>cases hx
  |succ m ih=>
   have hx:(run a e0 h n).bind (fun o=>match o with
    |(.n,e,h,n)=>lpF run a ks m (recap ks e) h n
    |o=>some o)=some out:=hx
   simp only [Option.bind_eq_some_iff] at hx;obtain ⟨⟨x,e1,h1',n1⟩,ho,hx⟩:=hx;refine wpIn_mono (hrun _ N n0 _ _ _ _ _ ho a' ha ro hro B D0 φ0 H0 w0 h1 h2 D φ ac w hR hS) (fun ex ac' w' hp=> ?_);obtain ⟨D',φ',e',h',n',⟨rfl,rfl,rfl,rfl⟩,hn',hR',hS'⟩:=hp;cases x with
   |n=>exact ih h' n' (recap ks e') hx hn' D' φ' ac' w' ⟨hR'.lt,fun t v ht=>hR'.env t v (recap_sub e' ks t v ht),hR'.heap,hR'.size,hR'.defers⟩ hS'
   |x i=>simp only [Option.some.injEq] at hx;subst hx;exact ⟨D',φ',_,_,_,⟨rfl,rfl,rfl,rfl⟩,hn',hR',hS'⟩
   |r=>simp only [Option.some.injEq] at hx;subst hx;exact ⟨D',φ',_,_,_,⟨rfl,rfl,rfl,rfl⟩,hn',hR',hS'⟩
 |reg ops=>
  simp only [bodyF,Option.bind_eq_some_iff,Option.some.injEq] at hx;obtain ⟨⟨e',h',n'⟩,ho,rfl⟩:=hx;rw [opsF_eq] at ho;exact viaI (xOps_run ho ⟨rfl,rfl,rfl,rfl⟩)
 |dreg ops=>
  simp only [bodyF,Option.bind_eq_some_iff,Option.some.injEq] at hx;obtain ⟨⟨e',h',n'⟩,ho,rfl⟩:=hx;rw [drF_eq] at ho;exact viaI (xDr_run ho ⟨rfl,rfl,rfl,rfl⟩)
 |cond x a b=>
  simp only [bodyF,evF_eq,Option.bind_eq_some_iff] at hx;obtain ⟨v,hv,hx⟩:=hx;obtain ⟨y,a',b',rfl,hy,hg,ha,hb⟩:=inv_cond hc';split at hx
  ·exact WP.cond hy hg hv (hrun _ _ _ _ _ _ _ _ hx a' ha)
  ·exact WP.cond hy hg hv (hrun _ _ _ _ _ _ _ _ hx b' hb)
  ·cases hx
 |skip=>simp only [bodyF,Option.some.injEq] at hx;subst hx;exact viaI ⟨rfl,rfl,rfl,rfl⟩
 |seq a b=>exact xBody_ok hm Valid.nil m hrun _ _ _ _ _ _ _ _ (by rw [<-hx];rfl) c' hc'
 |block id a=>exact xBody_ok hm Valid.nil m hrun _ _ _ _ _ _ _ _ (by rw [<-hx];rfl) c' hc'
 |scope a=>exact xBody_ok hm Valid.nil m hrun _ _ _ _ _ _ _ _ (by rw [<-hx];rfl) c' hc'
 |exit id=>simp only [bodyF,Option.some.injEq] at hx;subst hx;exact viaI ⟨rfl,rfl,rfl,rfl⟩
 |ret=>simp only [bodyF,Option.some.injEq] at hx;subst hx;exact viaI ⟨rfl,rfl,rfl,rfl⟩
 |bad=>cases hx
 |rfunc g ps x y=>cases hx
/-! ### calls that are known -/
structure MEnt where
 f:Nat
 a:List AV
 h:Hp
 k:Nat
 v:AV
 hR:Hp
 kR:Nat
noncomputable def blkSame (j k:Blk):Bool:=(bif j.ro then k.ro else !k.ro)&&sameL j.cells k.cells&&onEq j.gr k.gr&&onEq j.gid k.gid&&(j.mp.isNone&&k.mp.isNone)
theorem blkSame_eq {j k:Blk} (h:blkSame j k=true):j=k:=by
 simp only [blkSame,Bool.and_eq_true] at h;obtain ⟨c,r,g,d,m⟩:=k;obtain ⟨c',r',g',d',m'⟩:=j;simp only [Option.isNone_iff_eq_none] at h;have hr:r'=r:=by
  have:=h.1.1.1.1;cases r<;>cases r'<;>simp_all
 rw [sameL_eq h.1.1.1.2,onEq_eq h.1.1.2,onEq_eq h.1.2,hr,h.2.1,h.2.2]
noncomputable def sameH:Hp->Hp->Bool
 |[],[]=>true
 |(b,j)::l,(c,k)::m=>Nat.beq b c&&blkSame j k&&sameH l m
 |_,_=>false
theorem sameH_eq: ∀{l m:Hp},sameH l m=true->l=m
 |[],[],_=>rfl
 |(b,j)::l,(c,k)::m,h=>by
  simp only [sameH,Bool.and_eq_true] at h;rw [Nat.eq_of_beq_eq_true h.1.1,blkSame_eq h.1.2,sameH_eq h.2]
 |[],_::_,h=>by cases h
 |_::_,[],h=>by cases h
noncomputable def MEnt.fits (m:MEnt) (f:Nat) (a:List AV) (h:Hp) (k:Nat):Bool:=Nat.beq m.f f&&Nat.beq m.k k&&sameL m.a a&&sameH m.h h
noncomputable def mfind (M:List MEnt) (f:Nat) (a:List AV) (h:Hp) (k:Nat):Option (AV×Hp×Nat):=List.rec none (fun m _ ih=>bif m.fits f a h k then some (m.v,m.hR,m.kR) else ih) M
structure MEnt.ok (P:Program) (m:MEnt):Prop where
 call:callable P m.f=true
 ftl:FTL P m.f m.a m.h m.k m.v m.hR m.kR
 le:m.k<=m.kR
 names:hOK m.h m.k m.kR m.hR=true
noncomputable def MOK (P:Program) (M:List MEnt):Prop:= ∀m∈M,m.ok P
theorem MOK.nil {P:Program}:MOK P []:=fun m h=>by cases h
theorem MOK.cons {P:Program} {m:MEnt} {M:List MEnt} (h:m.ok P) (hM:MOK P M):MOK P (m::M):=fun x hx=>by
 rcases List.mem_cons.1 hx with rfl|hx
 ·exact h
 ·exact hM x hx
theorem mfind_ok {P:Program} {f:Nat} {a:List AV} {h:Hp} {k:Nat} {v:AV} {hR:Hp} {kR:Nat}: ∀{M:List MEnt},MOK P M->mfind M f a h k=some (v,hR,kR)->callable P f=true/\FTL P f a h k v hR kR/\k<=kR/\hOK h k kR hR=true
 |[],_,hm=>by cases hm
 |m::M,hM,hm=>by
  have hm:(bif m.fits f a h k then some (m.v,m.hR,m.kR) else mfind M f a h k)=some (v,hR,kR):=hm
  cases hf:m.fits f a h k
  ·rw [hf] at hm;exact mfind_ok (fun x hx=>hM x (List.mem_cons_of_mem _ hx)) hm
  ·rw [hf] at hm;simp only [cond_true,Option.some.injEq,Prod.mk.injEq] at hm;obtain ⟨rfl,rfl,rfl⟩:=hm;simp only [MEnt.fits,Bool.and_eq_true] at hf;obtain ⟨⟨⟨h1,h2⟩,h3⟩,h4⟩:=hf;obtain ⟨q1,q2,q3,q4⟩:=hM m List.mem_cons_self;rw [Nat.eq_of_beq_eq_true h1,sameL_eq h3,sameH_eq h4,Nat.eq_of_beq_eq_true h2] at q2;rw [Nat.eq_of_beq_eq_true h1] at q1;rw [Nat.eq_of_beq_eq_true h2] at q3;rw [sameH_eq h4,Nat.eq_of_beq_eq_true h2] at q4;exact ⟨q1,q2,q3,q4⟩
noncomputable def tryF (M:List MEnt) (T:List (Nat×IFn)) (run:XR) (f:Nat) (a:List AV) (h:Hp) (k:Nat):Option (AV×Hp×Nat):=
 match mfind M f a h k with
 |some r=>some r
 |none=>(iget T f).bind fun I=>xFn run I a h k
noncomputable def cxM (M:List MEnt) (T:List (Nat×IFn)) (run:XR):Cx:=fun f args h n=>
 let R:=reach h 100000 [] (gidsOf h++namesL args)
 match nodup R&&inRL R args with
 |true=>(mkL R h R 0).bind fun hL=>(tryF M T run f (renL (idx R) args) hL R.length).bind fun o=>
  match o with
  |(v,hR,k)=>some (true,{v:=v.ren (chi R n),n:=n+(k-R.length),rd:=R,md:=mdOf (chi R n) hL hR R 0,nw:=nwOf (chi R n) R.length hR})
 |false=>none
theorem cxM_sound {P:Program} {M:List MEnt} {T:List (Nat×IFn)} (hM:MOK P M) (hT:Valid P T) {run:XR} (hrun:RunOK P run):Sound P (cxM M T run):=by
 intro f args h n c E hx hc;simp only [cxM] at hx;generalize hR0:reach h 100000 [] (gidsOf h++namesL args)=R at hx;split at hx
 ·rename_i hnd;simp only [Bool.and_eq_true] at hnd;obtain ⟨hnd,hin⟩:=hnd;simp only [Option.bind_eq_some_iff] at hx;obtain ⟨hL,hmk,⟨v,hR,k⟩,hxf,hx⟩:=hx;simp only [Option.some.injEq,Prod.mk.injEq] at hx;obtain ⟨_,rfl⟩:=hx;unfold tryF at hxf;split at hxf
  ·rename_i r hr;cases hxf;obtain ⟨q1,q2,q3,q4⟩:=mfind_ok hM hr;exact call_sound q1 hnd hin hmk q2 q3 q4
  ·simp only [Option.bind_eq_some_iff] at hxf;obtain ⟨I,hI,hxf⟩:=hxf;obtain ⟨fn,hf,hcomp,hcall⟩:=hT f I hI;obtain ⟨hft,hk,hvb,hok⟩:=xFn_FTL hrun hf hcomp hxf;exact call_sound hcall hnd hin hmk hft hk hok
 ·cases hx
noncomputable def runM (M:List MEnt) (T:List (Nat×IFn)) (fuel:Nat):XR:=
 Nat.rec (fun _ _ _ _=>none) (fun m run=>bodyF T m run (cxM M T run)) fuel
theorem runM_ok {P:Program} {M:List MEnt} {T:List (Nat×IFn)} (hm:P.follows .mixedOrders=true) (hM:MOK P M) (hT:Valid P T): ∀fuel,RunOK P (runM M T fuel)
 |0=>fun ct N n0 c e h n out hx=>by cases hx
 |m+1=>bodyG_ok (T:=T) hm m (runM_ok hm hM hT m) (cxM_sound hM hT (runM_ok hm hM hT m))
theorem FTL.of_runM {P:Program} {M:List MEnt} {T:List (Nat×IFn)} (fuel:Nat) (hm:P.follows .mixedOrders=true) (hM:MOK P M) (hT:Valid P T) {f:FuncId} {fn:Func} {I:IFn} (hf:P.funcs[f]? =some fn) (hI:compF P fn=some I) {args:List AV} {h:Hp} {n:Nat} {v:AV}
 (hx:(xFn (runM M T fuel) I args h n).map (·.1)=some v) (hv:v.bel n=true):FTL P f args h n v [] n:=by
 obtain ⟨⟨v',hR,k⟩,h1,rfl⟩:=Option.map_eq_some_iff.1 hx;exact FTL.forget (xFn_FTL (runM_ok hm hM hT fuel) hf hI h1).1 hv
end Go.Ab
namespace Go.Ab
open Go.RowKit
theorem MEnt.ok_ext {P:Program} {f:FuncId} {a:List AV} {v:AV} (hc:callable P f=true) (hf:FTL P f a [] 0 v [] 0):(MEnt.mk f a [] 0 v [] 0).ok P:=⟨hc,hf,Nat.le_refl _,rfl⟩
end Go.Ab
namespace Go.Ab
theorem FTL.vmono {P:Program} {f:FuncId} {args:List AV} {h h':Hp} {n n':Nat} {v v':AV} (hf:FTL P f args h n v h' n') (hv: ∀D φ u,VRel D φ v u->VRel D φ v' u):FTL P f args h n v' h' n':=
 fun D φ w us hD hH ha=>(hf D φ w us hD hH ha).mono fun e w' ⟨D',φ',u,h1,h2,h3,h4⟩=>⟨D',φ',u,h1,h2,hv _ _ _ h3,h4⟩
section
variable {P:Program} {f:FuncId} {fn:Func} {z bytes:Nat} {zs:List AV}
theorem cln_f (hm:P.follows .mixedOrders=true) (hf:P.funcs[f]? =some fn) (hI:compF P fn=some (clnI z bytes zs)) {L:List AV} {m:Nat} (hL:L.length=m*z) (hone:oneAll L=true) (hb:belL 0 L=true) (hz:bytes*m<=growMax):
 FTL P f [.fz L m] [] 0 (.fz L m) [] 0:=by
 cases m with
 |zero=>exact (cln_0 hm hf hI L).vmono fun D φ u hu=>by cases hu;exact .fz0 _ _ _ (fun _=>rfl)
 |succ m=>
  refine FTL.of_cov (cx:=cxT []) Sound.nil hm hf hI (by simp [clnI]) (iw_of_jw ?_)
  dsimp only [clnI];have h1:List.take ((m+1)*z) L=L:=List.take_of_length_le (by omega)
  have h2:decide (bytes*(m+1)<=growMax)=true:=decide_eq_true hz;simp only [go_sem,h1,h2,hL,hone,Nat.zero_add,List.drop_zero,Nat.zero_mul,simprocAttr];refine CovS.frz (b:=1) (k:={cells:=L,gr:=some z}) (h':=[]) (o:=0) (m:=m+1) (cs:=L) (v':= .fz L (m+1)) rfl rfl (.inr rfl) (.inl rfl) FzV.hit (fun c kk hc=>by simp [hget] at hc) ?_
  exact CovS.ends (Ends.pureE hb rfl)
end
end Go.Ab
namespace Go.Ab
def Wka (a b:AV):Prop:= ∀D φ u,VRel D φ a u->VRel D φ b u
def WkaL:List AV->List AV->Prop
 |[],[]=>True
 |a::l,b::m=>Wka a b/\WkaL l m
 |_,_=>False
theorem WkaL.all {D:Nat->Prop} {φ:Phi}: ∀{l m:List AV} {us:List Value},WkaL l m->All2 D φ l us->All2 D φ m us
 |[],[],_,_,h=>h
 |a::l,b::m,us,h,h2=>by
  obtain ⟨u,us',rfl,hu,ht⟩:=h2.uncons;exact .cons (h.1 _ _ _ hu) (WkaL.all h.2 ht)
 |[],_::_,_,h,_=>h.elim
 |_::_,[],_,h,_=>h.elim
theorem Wka.refl (a:AV):Wka a a:=fun _ _ _ h=>h
theorem Wka.ns:Wka .ns (.fz [] 0):=fun _ _ _ h=>by cases h;exact .fz0 _ _ _ (fun _=>rfl)
theorem Wka.ze:Wka .ze (.fz [] 0):=fun _ _ _ h=>by cases h;exact .fz0 _ _ _ (fun _=>rfl)
theorem Wka.agg {l m:List AV} (h:WkaL l m):Wka (.agg l) (.agg m):=fun D φ u hu=>by
 obtain ⟨us,rfl,ha⟩:=hu.agg_inv;exact VRel.agg' (h.all ha)
theorem FTL.wka {P:Program} {f:FuncId} {xs ys:List AV} {h h':Hp} {n n':Nat} {v:AV} (hw:WkaL xs ys) (hf:FTL P f ys h n v h' n'):FTL P f xs h n v h' n':=
 fun D φ w us hD hH hA=>hf D φ w us hD hH (hw.all hA)
theorem WkaL.refl: ∀l:List AV,WkaL l l
 |[]=>trivial
 |a::l=>⟨Wka.refl a,WkaL.refl l⟩
theorem FTL.wkaH {P:Program} {f:FuncId} {a b:AV} {r:List AV} {h h':Hp} {n n':Nat} {v:AV} (hw:Wka a b) (hf:FTL P f (b::r) h n v h' n'):FTL P f (a::r) h n v h' n':=
 FTL.wka (xs:=a::r) (ys:=b::r) ⟨hw,WkaL.refl r⟩ hf
theorem Wka.take (l:List AV) (k m:Nat):Wka (.fz l m) (.fz (l.take k) m):=fun D φ u h=>by
 have hlen:(l.take k).length<=l.length:=List.length_take_le' _ _;cases h with
 |fz _ _ B o cap vs hB hc hs h=>
  refine .fz _ _ B o cap vs hB hc (fun i hi=>hs i (by omega)) (fun i a u h1 h2=>h i a u ?_ h2)
  rw [List.getElem?_take] at h1;split at h1
  ·exact h1
  ·cases h1
 |fz0 _ x cap hc=>exact .fz0 _ x cap hc
theorem WkaL.len: ∀{l m:List AV},WkaL l m->l.length=m.length
 |[],[],_=>rfl
 |a::l,b::m,h=>by simp only [List.length_cons,WkaL.len h.2]
 |[],_::_,h=>h.elim
 |_::_,[],h=>h.elim
theorem WkaL.get: ∀{l m:List AV} {i:Nat} {b:AV},WkaL l m->m[i]? =some b-> ∃a,l[i]? =some a/\Wka a b
 |[],[],i,b,_,h=>by simp at h
 |a::l,c::m,0,b,h,h2=>by
  simp only [List.getElem?_cons_zero,Option.some.injEq] at h2;subst h2;exact ⟨a,rfl,h.1⟩
 |a::l,c::m,i+1,b,h,h2=>by
  rw [List.getElem?_cons_succ] at h2;obtain ⟨a',h3,h4⟩:=WkaL.get h.2 h2;exact ⟨a',by rw [List.getElem?_cons_succ];exact h3,h4⟩
 |[],_::_,_,_,h,_=>h.elim
 |_::_,[],_,_,h,_=>h.elim
theorem WkaL.app: ∀{l m l' m':List AV},WkaL l m->WkaL l' m'->WkaL (l++l') (m++m')
 |[],[],_,_,_,h=>h
 |a::l,b::m,_,_,h,h2=>⟨h.1,WkaL.app h.2 h2⟩
 |[],_::_,_,_,h,_=>h.elim
 |_::_,[],_,_,h,_=>h.elim
theorem Wka.fz {l m:List AV} {n:Nat} (hw:WkaL l m):Wka (.fz l n) (.fz m n):=fun D φ u h=>by
 have hlen:=hw.len;cases h with
 |fz _ _ B o cap vs hB hc hs h=>
  refine .fz _ _ B o cap vs hB hc (fun i hi=>hs i (by omega)) (fun i b u h1 h2=> ?_)
  obtain ⟨a,ha,hab⟩:=hw.get h1;exact hab _ _ _ (h i a u ha h2)
 |fz0 _ x cap hc=>exact .fz0 _ x cap hc
end Go.Ab
namespace Go.Ab
section
variable {P:Program} {α:Type} {row:α->List AV} {g:FuncId} {caps:List AV}
end
end Go.Ab
namespace Go.Ab
def FzE (x y:AV) (e:Env):Env->Prop
 |[]=>True
 |(t,v2)::r=>(∃v,eget e t=some v/\FzV x y v v2)/\FzE x y e r
theorem FzE.get {x y:AV} {e:Env}: ∀{e2:Env},FzE x y e e2-> ∀t v2,eget e2 t=some v2-> ∃v,eget e t=some v/\FzV x y v v2
 |[],_,t,v2,h=>by simp [eget] at h
 |(s,u)::r,hf,t,v2,h=>by
  simp only [eget] at h;by_cases hs:t=s
  ·subst hs;simp at h;subst h;exact hf.1
  ·rw [beq_ne hs] at h;exact FzE.get hf.2 t v2 h
def FzH (x y:AV) (b:Nat) (h:Hp):Hp->Prop
 |[]=>True
 |(c,k2)::r=>(c≠b/\ ∃k,hget h c=some k/\k2.ro=k.ro/\k2.gr=k.gr/\(k2.gid,k2.mp)=(k.gid,k.mp)/\FzVs x y k.cells k2.cells)/\FzH x y b h r
theorem FzH.get {x y:AV} {b:Nat} {h:Hp}: ∀{h2:Hp},FzH x y b h h2-> ∀c k2,hget h2 c=some k2->c≠b/\ ∃k,hget h c=some k/\k2.ro=k.ro/\k2.gr=k.gr/\(k2.gid,k2.mp)=(k.gid,k.mp)/\FzVs x y k.cells k2.cells
 |[],_,c,k2,h=>by simp [hget] at h
 |(s,u)::r,hf,c,k2,h=>by
  simp only [hget] at h;by_cases hs:c=s
  ·subst hs;simp at h;subst h;exact hf.1
  ·rw [beq_ne hs] at h;exact FzH.get hf.2 c k2 h
theorem FzH.app {x y:AV} {b:Nat} {h:Hp}: ∀{a r:Hp},FzH x y b h a->FzH x y b h r->FzH x y b h (a++r)
 |[],r,_,hr=>hr
 |_::a,r,ha,hr=>⟨ha.1,FzH.app ha.2 hr⟩
def WkE (e:Env):Env->Prop
 |[]=>True
 |(t,v2)::r=>(∃v,eget e t=some v/\Wka v v2)/\WkE e r
theorem WkE.get {e:Env}: ∀{e2:Env},WkE e e2-> ∀t v2,eget e2 t=some v2-> ∃v,eget e t=some v/\Wka v v2
 |[],_,t,v2,h=>by simp [eget] at h
 |(s,u)::r,hf,t,v2,h=>by
  simp only [eget] at h;by_cases hs:t=s
  ·subst hs;simp at h;subst h;exact hf.1
  ·rw [beq_ne hs] at h;exact WkE.get hf.2 t v2 h
def WkH (h:Hp):Hp->Prop
 |[]=>True
 |(c,k2)::r=>(∃k,hget h c=some k/\k2.ro=k.ro/\k2.gr=k.gr/\(k2.gid,k2.mp)=(k.gid,k.mp)/\WkaL k.cells k2.cells)/\WkH h r
theorem WkH.get {h:Hp}: ∀{h2:Hp},WkH h h2-> ∀c k2,hget h2 c=some k2-> ∃k,hget h c=some k/\k2.ro=k.ro/\k2.gr=k.gr/\(k2.gid,k2.mp)=(k.gid,k.mp)/\WkaL k.cells k2.cells
 |[],_,c,k2,h=>by simp [hget] at h
 |(s,u)::r,hf,c,k2,h=>by
  simp only [hget] at h;by_cases hs:c=s
  ·subst hs;simp at h;subst h;exact hf.1
  ·rw [beq_ne hs] at h;exact WkH.get hf.2 c k2 h
end Go.Ab
namespace Go.Proofs.Res
open Go.Ab
abbrev i11r0:List IOper:=[⟨some 1,.box (.t 0),none,false⟩,⟨some 2,.mv (.c (.i .i64 0)),none,false⟩]
abbrev i11r1:List IOper:=[⟨some 7,.fa 0 (.t 1),none,false⟩,⟨some 8,.ld false 1 (.t 7),none,false⟩,⟨some 9,.call (.c (.fn 49 [])) [.c (.i .i64 0),.c (.i .i64 1099511627776),.t 8],none,false⟩,⟨some 10,.mv (.t 9),none,true⟩,⟨some 11,.fa 2 (.t 1),(some (10,true)),false⟩,⟨some 12,.ld false 1 (.t 11),(some (10,true)),false⟩,⟨some 13,.call (.c (.fn 49 [])) [.c (.i .i64 0),.c (.i .i64 65535),.t 12],(some (10,true)),false⟩,⟨some 14,.pick (.t 10) (.t 13) (.c (.b false)),none,false⟩,⟨some 15,.mv (.t 14),none,true⟩,⟨some 16,.fa 3 (.t 1),(some (15,true)),false⟩,⟨some 17,.ld false 1 (.t 16),(some (15,true)),false⟩,⟨some 18,.lenV (.t 17),(some (15,true)),false⟩,⟨some 19,.bin .leq (.t 18) (.c (.i .i64 64)),(some (15,true)),false⟩,⟨some 20,.pick (.t 15) (.t 19) (.c (.b false)),none,false⟩,⟨some 21,.mv (.t 20),none,true⟩,⟨some 22,.fa 1 (.t 1),(some (21,true)),false⟩,⟨some 23,.ld false 1 (.t 22),(some (21,true)),false⟩,⟨some 24,.mv (.t 23),(some (21,true)),true⟩,⟨some 25,.fa 2 (.t 1),(some (24,false)),false⟩,⟨some 26,.ld false 1 (.t 25),(some (24,false)),false⟩,⟨some 27,.bin .eql (.t 26) (.c (.i .i64 0)),(some (24,false)),false⟩,⟨some 28,.mv (.t 27),(some (24,false)),true⟩,⟨some 29,.fa 3 (.t 1),(some (28,true)),false⟩,⟨some 30,.ld false 1 (.t 29),(some (28,true)),false⟩,⟨some 31,.lenV (.t 30),(some (28,true)),false⟩,⟨some 32,.bin .eql (.t 31) (.c (.i .i64 0)),(some (28,true)),false⟩,⟨some 33,.pick (.t 28) (.t 32) (.c (.b false)),(some (24,false)),false⟩,⟨some 34,.pick (.t 24) (.c (.b true)) (.t 33),(some (21,true)),false⟩,⟨some 35,.pick (.t 21) (.t 34) (.c (.b false)),none,false⟩,⟨some 3,.mv (.t 35),none,false⟩]
abbrev i11r2:List IOper:=[⟨some 4,.mv (.c (.i .i64 (-1001))),none,false⟩]
abbrev i11r3:List IOper:=[⟨some 36,.fa 3 (.t 1),none,false⟩,⟨some 37,.ld false 1 (.t 36),none,false⟩,⟨some 38,.lenV (.t 37),none,false⟩,⟨some 39,.mv (.c (.i .i64 0)),none,false⟩]
abbrev i11r4:List IOper:=[⟨some 40,.bin .lss (.t 39) (.t 38),none,true⟩]
abbrev i11r5:List IOper:=[⟨some 41,.ixaV 4 (.t 37) (.t 39),none,false⟩,⟨some 42,.ld true 4 (.t 41),none,false⟩,⟨some 6,.new [.i .i64 0,.i .i64 0,.i .i64 0,.i .i64 0],none,false⟩,⟨none,.st 4 (.t 6) (.t 42),none,false⟩]
abbrev i11r6:List IOper:=[⟨some 43,.mv (.t 3),none,false⟩,⟨some 44,.not (.t 43),none,false⟩,⟨some 45,.mv (.t 44),none,true⟩,⟨some 46,.ld true 4 (.t 6),(some (45,false)),false⟩,⟨some 47,.fa 0 (.t 1),(some (45,false)),false⟩,⟨some 48,.ld false 1 (.t 47),(some (45,false)),false⟩,⟨some 49,.call (.c (.fn 50 [])) [.t 46,.t 48],(some (45,false)),false⟩,⟨some 50,.not (.t 49),(some (45,false)),false⟩,⟨some 51,.pick (.t 45) (.c (.b true)) (.t 50),none,false⟩,⟨some 52,.mv (.t 51),none,true⟩,⟨some 53,.mv (.t 4),(some (52,false)),false⟩,⟨some 54,.bin .add (.t 53) (.c (.i .i64 1)),(some (52,false)),false⟩,⟨some 55,.fa 0 (.t 6),(some (52,false)),false⟩,⟨some 56,.ld false 1 (.t 55),(some (52,false)),false⟩,⟨some 57,.fa 2 (.t 1),(some (52,false)),false⟩,⟨some 58,.ld false 1 (.t 57),(some (52,false)),false⟩,⟨some 59,.call (.c (.fn 51 [])) [.t 56,.t 58],(some (52,false)),false⟩,⟨some 60,.call (.c (.fn 49 [])) [.t 54,.c (.i .i64 (-1)),.t 59],(some (52,false)),false⟩,⟨some 61,.not (.t 60),(some (52,false)),false⟩,⟨some 62,.pick (.t 52) (.c (.b true)) (.t 61),none,true⟩]
abbrev i11r7:List IOper:=[⟨some 2,.mv (.c (.i .i64 280)),none,false⟩]
abbrev i11r8:List IOper:=[⟨some 63,.fa 0 (.t 6),none,false⟩,⟨some 64,.ld false 1 (.t 63),none,false⟩,⟨some 65,.fa 2 (.t 1),none,false⟩,⟨some 66,.ld false 1 (.t 65),none,false⟩,⟨some 67,.call (.c (.fn 51 [])) [.t 64,.t 66],none,false⟩,⟨some 4,.mv (.t 67),none,false⟩]
abbrev i11r9:List IOper:=[⟨some 68,.bin .add (.t 39) (.c (.i .i64 1)),none,false⟩,⟨some 39,.mv (.t 68),none,false⟩]
abbrev i11l10:ICode:=(.seq (.reg i11r4) (.seq (.cond (.t 40) .skip (.exit 0)) (.seq (.block 1 (.seq (.reg i11r5) (.seq (.seq (.reg i11r6) (.cond (.t 62) (.seq (.reg i11r7) .ret) .skip)) (.reg i11r8)))) (.reg i11r9))))
abbrev i11r11:List IOper:=[⟨some 69,.mv (.t 3),none,false⟩,⟨some 70,.not (.t 69),none,true⟩]
abbrev i11r12:List IOper:=[⟨some 2,.mv (.c (.i .i64 280)),none,false⟩]
abbrev i11r13:List IOper:=[⟨some 2,.mv (.c (.i .i64 0)),none,false⟩]
abbrev i11c:ICode:=(.seq (.reg i11r0) (.seq (.reg i11r1) (.seq (.reg i11r2) (.seq (.seq (.reg i11r3) (.block 0 (.loop i11l10))) (.seq (.seq (.reg i11r11) (.cond (.t 70) (.seq (.reg i11r12) .ret) .skip)) (.seq (.reg i11r13) .ret))))))
def i11:IFn:={np:=1,N:=71,ct:=[40,62,70],code:=i11c,res:=[.t 2]}
theorem i11_eq:compF Try.prog Try.f11=some i11:=by kernel_rfl
abbrev i12r0:List IOper:=[⟨some 1,.box (.t 0),none,false⟩,⟨some 2,.mv (.c (.b false)),none,false⟩]
abbrev i12r1:List IOper:=[⟨some 7,.fa 0 (.t 1),none,false⟩,⟨some 8,.ld false 1 (.t 7),none,false⟩,⟨some 9,.call (.c (.fn 52 [])) [.t 8,.c (.i .i64 0)],none,false⟩,⟨some 10,.not (.t 9),none,true⟩]
abbrev i12r2:List IOper:=[⟨some 2,.mv (.c (.b false)),none,false⟩]
abbrev i12r3:List IOper:=[⟨some 11,.fa 1 (.t 1),none,false⟩,⟨some 12,.ld false 1 (.t 11),none,false⟩,⟨some 13,.not (.t 12),none,true⟩]
abbrev i12r4:List IOper:=[⟨some 14,.fa 2 (.t 1),none,false⟩,⟨some 15,.ld false 1 (.t 14),none,false⟩,⟨some 16,.bin .eql (.t 15) (.c (.i .i64 0)),none,false⟩,⟨some 17,.mv (.t 16),none,true⟩,⟨some 18,.fa 3 (.t 1),(some (17,true)),false⟩,⟨some 19,.ld false 1 (.t 18),(some (17,true)),false⟩,⟨some 20,.lenV (.t 19),(some (17,true)),false⟩,⟨some 21,.bin .eql (.t 20) (.c (.i .i64 0)),(some (17,true)),false⟩,⟨some 22,.pick (.t 17) (.t 21) (.c (.b false)),none,false⟩,⟨some 2,.mv (.t 22),none,false⟩]
abbrev i12r5:List IOper:=[⟨some 23,.fa 2 (.t 1),none,false⟩,⟨some 24,.ld false 1 (.t 23),none,false⟩,⟨some 25,.bin .lss (.t 24) (.c (.i .i64 0)),none,false⟩,⟨some 26,.mv (.t 25),none,true⟩,⟨some 27,.fa 2 (.t 1),(some (26,false)),false⟩,⟨some 28,.ld false 1 (.t 27),(some (26,false)),false⟩,⟨some 29,.bin .gtr (.t 28) (.c (.i .i64 65535)),(some (26,false)),false⟩,⟨some 30,.pick (.t 26) (.c (.b true)) (.t 29),none,false⟩,⟨some 31,.mv (.t 30),none,true⟩,⟨some 32,.fa 3 (.t 1),(some (31,false)),false⟩,⟨some 33,.ld false 1 (.t 32),(some (31,false)),false⟩,⟨some 34,.lenV (.t 33),(some (31,false)),false⟩,⟨some 35,.bin .gtr (.t 34) (.c (.i .i64 64)),(some (31,false)),false⟩,⟨some 36,.pick (.t 31) (.c (.b true)) (.t 35),none,true⟩]
abbrev i12r6:List IOper:=[⟨some 2,.mv (.c (.b false)),none,false⟩]
abbrev i12r7:List IOper:=[⟨some 3,.mv (.c (.i .i64 (-1001))),none,false⟩]
abbrev i12r8:List IOper:=[⟨some 4,.mv (.c (.i .i64 0)),none,false⟩]
abbrev i12r9:List IOper:=[⟨some 37,.mv (.t 4),none,false⟩,⟨some 38,.fa 3 (.t 1),none,false⟩,⟨some 39,.ld false 1 (.t 38),none,false⟩,⟨some 40,.lenV (.t 39),none,false⟩,⟨some 41,.bin .lss (.t 37) (.t 40),none,true⟩]
abbrev i12r10:List IOper:=[⟨some 44,.fa 3 (.t 1),none,false⟩,⟨some 45,.ld false 1 (.t 44),none,false⟩,⟨some 46,.mv (.t 4),none,false⟩,⟨some 47,.ixaV 4 (.t 45) (.t 46),none,false⟩,⟨some 48,.ld true 4 (.t 47),none,false⟩,⟨some 5,.new [.i .i64 0,.i .i64 0,.i .i64 0,.i .i64 0],none,false⟩,⟨none,.st 4 (.t 5) (.t 48),none,false⟩]
abbrev i12r11:List IOper:=[⟨some 49,.fa 0 (.t 5),none,false⟩,⟨some 50,.ld false 1 (.t 49),none,false⟩,⟨some 51,.bin .lss (.t 50) (.c (.i .i64 0)),none,false⟩,⟨some 52,.mv (.t 51),none,true⟩,⟨some 53,.fa 0 (.t 5),(some (52,false)),false⟩,⟨some 54,.ld false 1 (.t 53),(some (52,false)),false⟩,⟨some 55,.bin .gtr (.t 54) (.c (.i .i64 65535)),(some (52,false)),false⟩,⟨some 56,.pick (.t 52) (.c (.b true)) (.t 55),none,false⟩,⟨some 57,.mv (.t 56),none,true⟩,⟨some 58,.fa 1 (.t 5),(some (57,false)),false⟩,⟨some 59,.ld false 1 (.t 58),(some (57,false)),false⟩,⟨some 60,.bin .lss (.t 59) (.c (.i .i64 0)),(some (57,false)),false⟩,⟨some 61,.pick (.t 57) (.c (.b true)) (.t 60),none,false⟩,⟨some 62,.mv (.t 61),none,true⟩,⟨some 63,.fa 1 (.t 5),(some (62,false)),false⟩,⟨some 64,.ld false 1 (.t 63),(some (62,false)),false⟩,⟨some 65,.fa 0 (.t 1),(some (62,false)),false⟩,⟨some 66,.ld false 1 (.t 65),(some (62,false)),false⟩,⟨some 67,.bin .gtr (.t 64) (.t 66),(some (62,false)),false⟩,⟨some 68,.pick (.t 62) (.c (.b true)) (.t 67),none,false⟩,⟨some 69,.mv (.t 68),none,true⟩,⟨some 70,.fa 3 (.t 5),(some (69,false)),false⟩,⟨some 71,.ld false 1 (.t 70),(some (69,false)),false⟩,⟨some 72,.bin .lss (.t 71) (.c (.i .i64 0)),(some (69,false)),false⟩,⟨some 73,.pick (.t 69) (.c (.b true)) (.t 72),none,false⟩,⟨some 74,.mv (.t 73),none,true⟩,⟨some 75,.fa 3 (.t 5),(some (74,false)),false⟩,⟨some 76,.ld false 1 (.t 75),(some (74,false)),false⟩,⟨some 77,.bin .gtr (.t 76) (.c (.i .i64 6)),(some (74,false)),false⟩,⟨some 78,.pick (.t 74) (.c (.b true)) (.t 77),none,false⟩,⟨some 79,.mv (.t 78),none,true⟩,⟨some 80,.fa 3 (.t 5),(some (79,false)),false⟩,⟨some 81,.ld false 1 (.t 80),(some (79,false)),false⟩,⟨some 82,.bin .eql (.t 81) (.c (.i .i64 0)),(some (79,false)),false⟩,⟨some 83,.mv (.t 82),(some (79,false)),true⟩,⟨some 84,.fa 2 (.t 5),(some (83,true)),false⟩,⟨some 85,.ld false 1 (.t 84),(some (83,true)),false⟩,⟨some 86,.bin .neq (.t 85) (.c (.i .i64 0)),(some (83,true)),false⟩,⟨some 87,.pick (.t 83) (.t 86) (.c (.b false)),(some (79,false)),false⟩,⟨some 88,.pick (.t 79) (.c (.b true)) (.t 87),none,false⟩,⟨some 89,.mv (.t 88),none,true⟩,⟨some 90,.fa 3 (.t 5),(some (89,false)),false⟩,⟨some 91,.ld false 1 (.t 90),(some (89,false)),false⟩,⟨some 92,.bin .gtr (.t 91) (.c (.i .i64 0)),(some (89,false)),false⟩,⟨some 93,.mv (.t 92),(some (89,false)),true⟩,⟨some 94,.fa 2 (.t 5),(some (93,true)),false⟩,⟨some 95,.ld false 1 (.t 94),(some (93,true)),false⟩,⟨some 96,.fa 1 (.t 5),(some (93,true)),false⟩,⟨some 97,.ld false 1 (.t 96),(some (93,true)),false⟩,⟨some 98,.bin .lss (.t 95) (.t 97),(some (93,true)),false⟩,⟨some 99,.mv (.t 98),(some (93,true)),true⟩,⟨some 100,.fa 2 (.t 5),(some (99,false)),false⟩,⟨some 101,.ld false 1 (.t 100),(some (99,false)),false⟩,⟨some 102,.fa 0 (.t 1),(some (99,false)),false⟩,⟨some 103,.ld false 1 (.t 102),(some (99,false)),false⟩,⟨some 104,.bin .gtr (.t 101) (.t 103),(some (99,false)),false⟩,⟨some 105,.pick (.t 99) (.c (.b true)) (.t 104),(some (93,true)),false⟩,⟨some 106,.pick (.t 93) (.t 105) (.c (.b false)),(some (89,false)),false⟩,⟨some 107,.pick (.t 89) (.c (.b true)) (.t 106),none,true⟩]
abbrev i12r12:List IOper:=[⟨some 2,.mv (.c (.b false)),none,false⟩]
abbrev i12r13:List IOper:=[⟨some 108,.fa 0 (.t 5),none,false⟩,⟨some 109,.ld false 1 (.t 108),none,false⟩,⟨some 110,.fa 2 (.t 1),none,false⟩,⟨some 111,.ld false 1 (.t 110),none,false⟩,⟨some 112,.call (.c (.fn 53 [])) [.t 109,.t 111,.c (.i .i64 16)],none,false⟩,⟨some 6,.mv (.t 112),none,false⟩]
abbrev i12r14:List IOper:=[⟨some 113,.mv (.t 6),none,false⟩,⟨some 114,.mv (.t 3),none,false⟩,⟨some 115,.bin .leq (.t 113) (.t 114),none,false⟩,⟨some 116,.mv (.t 115),none,true⟩,⟨some 117,.mv (.t 6),(some (116,false)),false⟩,⟨some 118,.bin .gtr (.t 117) (.c (.i .i64 (-1))),(some (116,false)),false⟩,⟨some 119,.pick (.t 116) (.c (.b true)) (.t 118),none,true⟩]
abbrev i12r15:List IOper:=[⟨some 2,.mv (.c (.b false)),none,false⟩]
abbrev i12r16:List IOper:=[⟨some 120,.mv (.t 6),none,false⟩,⟨some 3,.mv (.t 120),none,false⟩]
abbrev i12r17:List IOper:=[⟨some 42,.mv (.t 4),none,false⟩,⟨some 43,.bin .add (.t 42) (.c (.i .i64 1)),none,false⟩,⟨some 4,.mv (.t 43),none,false⟩]
abbrev i12l18:ICode:=(.seq (.seq (.reg i12r9) (.cond (.t 41) .skip (.exit 0))) (.seq (.block 1 (.seq (.reg i12r10) (.seq (.seq (.reg i12r11) (.cond (.t 107) (.seq (.reg i12r12) .ret) .skip)) (.seq (.reg i12r13) (.seq (.seq (.reg i12r14) (.cond (.t 119) (.seq (.reg i12r15) .ret) .skip)) (.reg i12r16)))))) (.reg i12r17)))
abbrev i12r19:List IOper:=[⟨some 2,.mv (.c (.b true)),none,false⟩]
abbrev i12c:ICode:=(.seq (.reg i12r0) (.seq (.seq (.reg i12r1) (.cond (.t 10) (.seq (.reg i12r2) .ret) .skip)) (.seq (.seq (.reg i12r3) (.cond (.t 13) (.seq (.reg i12r4) .ret) .skip)) (.seq (.seq (.reg i12r5) (.cond (.t 36) (.seq (.reg i12r6) .ret) .skip)) (.seq (.reg i12r7) (.seq (.seq (.reg i12r8) (.block 0 (.loop i12l18))) (.seq (.reg i12r19) .ret)))))))
def i12:IFn:={np:=1,N:=121,ct:=[10,13,36,41,107,119],code:=i12c,res:=[.t 2]}
theorem i12_eq:compF Try.prog Try.f12=some i12:=by kernel_rfl
abbrev i13r0:List IOper:=[⟨some 3,.box (.t 0),none,false⟩,⟨some 4,.box (.t 1),none,false⟩,⟨some 5,.box (.t 2),none,false⟩,⟨some 6,.new [.i .i64 0,.b false,.i .i64 0,.ns],none,false⟩,⟨some 7,.mv (.c (.i .i64 0)),none,false⟩]
abbrev i13r1:List IOper:=[⟨some 13,.ld true 4 (.t 3),none,false⟩,⟨some 14,.ld false 1 (.t 4),none,false⟩,⟨some 15,.call (.c (.fn 54 [])) [.t 13,.t 14],none,false⟩,⟨some 8,.mv (.t 15),none,false⟩]
abbrev i13r2:List IOper:=[⟨some 16,.mv (.t 8),none,false⟩,⟨some 17,.bin .neq (.t 16) (.c (.i .i64 0)),none,true⟩]
abbrev i13r3:List IOper:=[⟨some 18,.build [.i .i64 0,.b false,.i .i64 0,.ns] [],none,false⟩,⟨some 19,.mv (.t 8),none,false⟩,⟨none,.st 4 (.t 6) (.t 18),none,false⟩,⟨some 7,.mv (.t 19),none,false⟩]
abbrev i13r4:List IOper:=[⟨some 20,.ld false 1 (.t 5),none,false⟩,⟨some 21,.call (.c (.fn 49 [])) [.c (.i .i64 0),.c (.i .i64 65535),.t 20],none,false⟩,⟨some 22,.not (.t 21),none,true⟩]
abbrev i13r5:List IOper:=[⟨some 23,.build [.i .i64 0,.b false,.i .i64 0,.ns] [],none,false⟩,⟨none,.st 4 (.t 6) (.t 23),none,false⟩,⟨some 7,.mv (.c (.i .i64 2)),none,false⟩]
abbrev i13r6:List IOper:=[⟨some 24,.fa 1 (.t 3),none,false⟩,⟨some 25,.ld false 1 (.t 24),none,false⟩,⟨some 26,.not (.t 25),none,true⟩]
abbrev i13r7:List IOper:=[⟨some 27,.ld false 1 (.t 4),none,false⟩,⟨some 28,.ld false 1 (.t 5),none,false⟩,⟨some 29,.build [.i .i64 0,.b false,.i .i64 0,.ns] [(0,1,.t 27),(1,1,.c (.b true)),(2,1,.t 28)],none,false⟩,⟨none,.st 4 (.t 6) (.t 29),none,false⟩,⟨some 7,.mv (.c (.i .i64 0)),none,false⟩]
abbrev i13r8:List IOper:=[⟨some 30,.ld false 1 (.t 5),none,false⟩,⟨some 31,.fa 2 (.t 3),none,false⟩,⟨some 32,.ld false 1 (.t 31),none,false⟩,⟨some 33,.call (.c (.fn 51 [])) [.t 30,.t 32],none,false⟩,⟨some 9,.new [.i .i64 0],none,false⟩,⟨none,.st 1 (.t 9) (.t 33),none,false⟩]
abbrev i13r9:List IOper:=[⟨some 34,.ld false 1 (.t 9),none,false⟩,⟨some 35,.bin .gtr (.t 34) (.c (.i .i64 64)),none,true⟩]
abbrev i13r10:List IOper:=[⟨some 36,.build [.i .i64 0,.b false,.i .i64 0,.ns] [],none,false⟩,⟨none,.st 4 (.t 6) (.t 36),none,false⟩,⟨some 7,.mv (.c (.i .i64 6)),none,false⟩]
abbrev i13r11:List IOper:=[⟨some 37,.fa 2 (.t 3),none,false⟩,⟨some 38,.ld false 1 (.t 37),none,false⟩,⟨some 10,.new [.i .i64 0],none,false⟩,⟨none,.st 1 (.t 10) (.t 38),none,false⟩]
abbrev i13r12:List IOper:=[⟨some 39,.ld false 1 (.t 9),none,false⟩,⟨some 40,.bin .gtr (.t 39) (.c (.i .i64 0)),none,true⟩]
abbrev i13r13:List IOper:=[⟨some 41,.ld false 1 (.t 5),none,false⟩,⟨some 42,.fa 2 (.t 3),none,false⟩,⟨none,.st 1 (.t 42) (.t 41),none,false⟩]
abbrev i13r14:List IOper:=[⟨some 43,.mkf 55 [.t 5,.t 10,.t 9],none,false⟩,⟨some 11,.mv (.t 43),none,false⟩]
abbrev i13r15:List IOper:=[⟨some 44,.fa 3 (.t 3),none,false⟩,⟨some 45,.ld false 1 (.t 44),none,false⟩,⟨some 46,.call (.c (.fn 57 [])) [.t 45],none,false⟩,⟨some 47,.mv (.t 11),none,false⟩,⟨some 48,.call (.c (.fn 56 [])) [.t 46,.t 47],none,false⟩,⟨some 49,.fa 3 (.t 3),none,false⟩,⟨none,.st 1 (.t 49) (.t 48),none,false⟩]
abbrev i13r16:List IOper:=[⟨some 50,.ld false 1 (.t 10),none,false⟩,⟨some 51,.ld false 1 (.t 9),none,false⟩,⟨some 52,.call (.c (.fn 58 [])) [.t 50,.t 51],none,false⟩]
abbrev i13r17:List IOper:=[⟨some 12,.mv (.t 53),none,false⟩]
abbrev i13r18:List IOper:=[⟨some 54,.fa 3 (.t 3),none,false⟩,⟨some 55,.ld false 1 (.t 54),none,false⟩,⟨some 56,.mv (.t 12),none,false⟩,⟨some 57,.ld false 1 (.t 4),none,false⟩,⟨some 58,.build [.i .i64 0,.i .i64 0,.i .i64 0,.i .i64 0] [(0,1,.t 56),(1,1,.t 57)],none,false⟩,⟨some 59,.bsl [.i .i64 0,.i .i64 0,.i .i64 0,.i .i64 0] 1 [(0,4,.t 58)],none,false⟩,⟨some 60,.app 4 32 [.i .i64 0,.i .i64 0,.i .i64 0,.i .i64 0] (.t 55) (.t 59),none,false⟩,⟨some 61,.fa 3 (.t 3),none,false⟩,⟨none,.st 1 (.t 61) (.t 60),none,false⟩]
abbrev i13a19:ICode:=(.reg i13r17)
abbrev i13b19:ICode:=(.block 1 (.reg i13r18))
abbrev i13r21:List IOper:=[⟨some 62,.fa 3 (.t 3),none,false⟩,⟨some 63,.ld false 1 (.t 62),none,false⟩,⟨some 64,.lenV (.t 63),none,false⟩,⟨some 65,.bin .gtr (.t 64) (.c (.i .i64 64)),none,true⟩]
abbrev i13r22:List IOper:=[⟨some 66,.build [.i .i64 0,.b false,.i .i64 0,.ns] [],none,false⟩,⟨none,.st 4 (.t 6) (.t 66),none,false⟩,⟨some 7,.mv (.c (.i .i64 3)),none,false⟩]
abbrev i13r23:List IOper:=[⟨some 67,.ld false 1 (.t 4),none,false⟩,⟨some 68,.fa 0 (.t 3),none,false⟩,⟨none,.st 1 (.t 68) (.t 67),none,false⟩]
abbrev i13r24:List IOper:=[⟨some 69,.ld true 4 (.t 3),none,false⟩,⟨none,.st 4 (.t 6) (.t 69),none,false⟩,⟨some 7,.mv (.c (.i .i64 0)),none,false⟩]
abbrev i13c:ICode:=(.seq (.reg i13r0) (.seq (.seq (.reg i13r1) (.seq (.reg i13r2) (.cond (.t 17) (.seq (.reg i13r3) .ret) .skip))) (.seq (.seq (.reg i13r4) (.cond (.t 22) (.seq (.reg i13r5) .ret) .skip)) (.seq (.seq (.reg i13r6) (.cond (.t 26) (.seq (.reg i13r7) .ret) .skip)) (.seq (.reg i13r8) (.seq (.seq (.reg i13r9) (.cond (.t 35) (.seq (.reg i13r10) .ret) .skip)) (.seq (.reg i13r11) (.seq (.seq (.reg i13r12) (.cond (.t 40) (.reg i13r13) .skip)) (.seq (.reg i13r14) (.seq (.reg i13r15) (.seq (.seq (.reg i13r16) (.block 0 (.rfunc (.t 52) [53] i13a19 i13b19))) (.seq (.seq (.reg i13r21) (.cond (.t 65) (.seq (.reg i13r22) .ret) .skip)) (.seq (.reg i13r23) (.seq (.reg i13r24) .ret))))))))))))))
def i13:IFn:={np:=3,N:=70,ct:=[17,22,26,35,40,65],code:=i13c,res:=[.c 6 true 4,.t 7]}
theorem i13_eq:compF Try.prog Try.f13=some i13:=by kernel_rfl
abbrev i17r0:List IOper:=[⟨some 1,.box (.t 0),none,false⟩,⟨some 2,.mv (.c (.i .i64 0)),none,false⟩]
abbrev i17r1:List IOper:=[⟨some 3,.fa 1 (.t 1),none,false⟩,⟨some 4,.ld false 1 (.t 3),none,false⟩,⟨some 5,.bin .rem (.t 4) (.c (.i .u16 400)),none,false⟩,⟨some 6,.i2i .i64 (.t 5),none,false⟩,⟨some 7,.bin .add (.c (.i .i64 1)) (.t 6),none,false⟩,⟨some 2,.mv (.t 7),none,false⟩]
abbrev i17c:ICode:=(.seq (.reg i17r0) (.seq (.reg i17r1) .ret))
def i17:IFn:={np:=1,N:=8,ct:=[],code:=i17c,res:=[.t 2]}
theorem i17_eq:compF Try.prog Try.f17=some i17:=by kernel_rfl
abbrev i18r0:List IOper:=[⟨some 2,.box (.t 0),none,false⟩,⟨some 4,.mv (.c (.i .i64 0)),none,false⟩,⟨some 5,.mv (.c (.i .i64 0)),none,false⟩]
abbrev i18r1:List IOper:=[⟨some 10,.ld true 4 (.t 2),none,false⟩,⟨some 11,.call (.c (.fn 11 [])) [.t 10],none,false⟩,⟨some 6,.mv (.t 11),none,false⟩]
abbrev i18r2:List IOper:=[⟨some 12,.mv (.t 6),none,false⟩,⟨some 13,.bin .neq (.t 12) (.c (.i .i64 0)),none,true⟩]
abbrev i18r3:List IOper:=[⟨some 14,.mv (.t 6),none,false⟩,⟨some 4,.mv (.c (.i .i64 0)),none,false⟩,⟨some 5,.mv (.t 14),none,false⟩]
abbrev i18r4:List IOper:=[⟨some 15,.mv (.t 1),none,false⟩,⟨some 16,.call (.c (.fn 49 [])) [.c (.i .i64 1),.c (.i .i64 2000),.t 15],none,false⟩,⟨some 17,.not (.t 16),none,true⟩]
abbrev i18r5:List IOper:=[⟨some 4,.mv (.c (.i .i64 0)),none,false⟩,⟨some 5,.mv (.c (.i .i64 2)),none,false⟩]
abbrev i18r6:List IOper:=[⟨some 7,.mv (.c (.i .i64 1099511627777)),none,false⟩]
abbrev i18r7:List IOper:=[⟨some 18,.fa 3 (.t 2),none,false⟩,⟨some 19,.ld false 1 (.t 18),none,false⟩,⟨some 20,.lenV (.t 19),none,false⟩,⟨some 21,.mv (.c (.i .i64 0)),none,false⟩]
abbrev i18r8:List IOper:=[⟨some 22,.bin .lss (.t 21) (.t 20),none,true⟩]
abbrev i18r9:List IOper:=[⟨some 23,.ixaV 4 (.t 19) (.t 21),none,false⟩,⟨some 24,.ld true 4 (.t 23),none,false⟩,⟨some 9,.new [.i .i64 0,.i .i64 0,.i .i64 0,.i .i64 0],none,false⟩,⟨none,.st 4 (.t 9) (.t 24),none,false⟩]
abbrev i18r10:List (IOper×List Nat):=[(⟨some 25,.mv (.t 7),none,false⟩,[]),(⟨some 26,.ld true 4 (.t 9),none,false⟩,[0]),(⟨some 27,.mv (.t 1),none,false⟩,[0,1]),(⟨some 28,.call (.c (.fn 60 [])) [.t 26,.t 27],none,false⟩,[0]),(⟨some 29,.ld true 4 (.t 9),none,false⟩,[0,1,2,3]),(⟨some 30,.mv (.t 1),none,false⟩,[0,1,2,3,4]),(⟨some 31,.call (.c (.fn 61 [])) [.t 29,.t 30],none,false⟩,[0]),(⟨some 32,.mn (.t 25) [.t 28,.t 31],none,false⟩,[]),(⟨some 7,.mv (.t 32),none,false⟩,[])]
abbrev i18r11:List IOper:=[⟨some 33,.bin .add (.t 21) (.c (.i .i64 1)),none,false⟩,⟨some 21,.mv (.t 33),none,false⟩]
abbrev i18l12:ICode:=(.seq (.reg i18r8) (.seq (.cond (.t 22) .skip (.exit 0)) (.seq (.block 1 (.seq (.reg i18r9) (.dreg i18r10))) (.reg i18r11))))
abbrev i18r13:List IOper:=[⟨some 34,.mv (.t 7),none,false⟩,⟨some 35,.bin .gtr (.t 34) (.c (.i .i64 1099511627776)),none,true⟩]
abbrev i18r14:List IOper:=[⟨some 4,.mv (.c (.i .i64 0)),none,false⟩,⟨some 5,.mv (.c (.i .i64 4)),none,false⟩]
abbrev i18r15:List IOper:=[⟨some 36,.mv (.t 7),none,false⟩,⟨some 37,.fa 0 (.t 2),none,false⟩,⟨some 38,.ld false 1 (.t 37),none,false⟩,⟨some 39,.mx (.t 36) [.t 38],none,false⟩,⟨some 4,.mv (.t 39),none,false⟩,⟨some 5,.mv (.c (.i .i64 0)),none,false⟩]
abbrev i18c:ICode:=(.seq (.reg i18r0) (.seq (.seq (.reg i18r1) (.seq (.reg i18r2) (.cond (.t 13) (.seq (.reg i18r3) .ret) .skip))) (.seq (.seq (.reg i18r4) (.cond (.t 17) (.seq (.reg i18r5) .ret) .skip)) (.seq (.reg i18r6) (.seq (.seq (.reg i18r7) (.block 0 (.loop i18l12))) (.seq (.seq (.reg i18r13) (.cond (.t 35) (.seq (.reg i18r14) .ret) .skip)) (.seq (.reg i18r15) .ret)))))))
def i18:IFn:={np:=2,N:=40,ct:=[13,17,22,35],code:=i18c,res:=[.t 4,.t 5]}
theorem i18_eq:compF Try.prog Try.f18=some i18:=by kernel_rfl
abbrev i20r0:List IOper:=[⟨some 3,.box (.t 0),none,false⟩,⟨some 6,.new [.i .i64 0,.b false,.i .i64 0,.ns],none,false⟩,⟨some 7,.mv (.c (.ns)),none,false⟩,⟨some 8,.mv (.c (.b false)),none,false⟩,⟨some 9,.mv (.c (.i .i64 0)),none,false⟩]
abbrev i20r1:List IOper:=[⟨some 14,.ld true 4 (.t 3),none,false⟩,⟨some 15,.mv (.t 1),none,false⟩,⟨some 16,.call (.c (.fn 54 [])) [.t 14,.t 15],none,false⟩,⟨some 10,.mv (.t 16),none,false⟩]
abbrev i20r2:List IOper:=[⟨some 17,.mv (.t 10),none,false⟩,⟨some 18,.bin .neq (.t 17) (.c (.i .i64 0)),none,true⟩]
abbrev i20r3:List IOper:=[⟨some 19,.build [.i .i64 0,.b false,.i .i64 0,.ns] [],none,false⟩,⟨some 20,.mv (.t 10),none,false⟩,⟨none,.st 4 (.t 6) (.t 19),none,false⟩,⟨some 7,.mv (.c (.ns)),none,false⟩,⟨some 8,.mv (.c (.b false)),none,false⟩,⟨some 9,.mv (.t 20),none,false⟩]
abbrev i20r4:List IOper:=[⟨some 21,.mv (.t 2),none,false⟩,⟨some 22,.call (.c (.fn 49 [])) [.c (.i .i64 1),.c (.i .i64 2000),.t 21],none,false⟩,⟨some 23,.not (.t 22),none,true⟩]
abbrev i20r5:List IOper:=[⟨some 24,.build [.i .i64 0,.b false,.i .i64 0,.ns] [],none,false⟩,⟨none,.st 4 (.t 6) (.t 24),none,false⟩,⟨some 7,.mv (.c (.ns)),none,false⟩,⟨some 8,.mv (.c (.b false)),none,false⟩,⟨some 9,.mv (.c (.i .i64 2)),none,false⟩]
abbrev i20r6:List IOper:=[⟨some 11,.mv (.c (.ns)),none,false⟩]
abbrev i20r7:List IOper:=[⟨some 25,.fa 3 (.t 3),none,false⟩,⟨some 26,.ld false 1 (.t 25),none,false⟩,⟨some 27,.lenV (.t 26),none,false⟩,⟨some 28,.mv (.c (.i .i64 0)),none,false⟩]
abbrev i20r8:List IOper:=[⟨some 29,.bin .lss (.t 28) (.t 27),none,true⟩]
abbrev i20r9:List IOper:=[⟨some 30,.ixaV 4 (.t 26) (.t 28),none,false⟩,⟨some 31,.ld true 4 (.t 30),none,false⟩,⟨some 13,.new [.i .i64 0,.i .i64 0,.i .i64 0,.i .i64 0],none,false⟩,⟨none,.st 4 (.t 13) (.t 31),none,false⟩]
abbrev i20r10:List IOper:=[⟨some 33,.ld true 4 (.t 13),none,false⟩,⟨some 34,.mv (.t 2),none,false⟩,⟨some 35,.call (.c (.fn 61 [])) [.t 33,.t 34],none,false⟩,⟨some 36,.mv (.t 1),none,false⟩,⟨some 37,.bin .leq (.t 35) (.t 36),none,false⟩,⟨some 32,.mv (.t 37),none,true⟩]
abbrev i20r11:List IOper:=[⟨some 8,.mv (.c (.b true)),none,false⟩]
abbrev i20r12:List IOper:=[⟨some 39,.ld true 4 (.t 13),none,false⟩,⟨some 40,.mv (.t 2),none,false⟩,⟨some 41,.call (.c (.fn 60 [])) [.t 39,.t 40],none,false⟩,⟨some 42,.mv (.t 1),none,false⟩,⟨some 43,.bin .leq (.t 41) (.t 42),none,false⟩,⟨some 38,.mv (.t 43),none,true⟩]
abbrev i20r13:List IOper:=[⟨some 44,.mv (.t 7),none,false⟩,⟨some 45,.fa 0 (.t 13),none,false⟩,⟨some 46,.ld false 1 (.t 45),none,false⟩,⟨some 47,.bsl [.i .i64 0] 1 [(0,1,.t 46)],none,false⟩,⟨some 48,.app 1 8 [.i .i64 0] (.t 44) (.t 47),none,false⟩,⟨some 7,.mv (.t 48),none,false⟩]
abbrev i20r14:List IOper:=[⟨some 49,.mv (.t 1),none,false⟩,⟨some 50,.fa 3 (.t 13),none,false⟩,⟨some 51,.ld false 1 (.t 50),none,false⟩,⟨some 52,.bin .add (.t 51) (.c (.i .i64 1)),none,false⟩,⟨some 53,.fa 2 (.t 13),none,false⟩,⟨none,.st 1 (.t 53) (.t 49),none,false⟩,⟨some 54,.fa 3 (.t 13),none,false⟩,⟨none,.st 1 (.t 54) (.t 52),none,false⟩]
abbrev i20r15:List IOper:=[⟨some 55,.mv (.t 11),none,false⟩,⟨some 56,.ld true 4 (.t 13),none,false⟩,⟨some 57,.bsl [.i .i64 0,.i .i64 0,.i .i64 0,.i .i64 0] 1 [(0,4,.t 56)],none,false⟩,⟨some 58,.app 4 32 [.i .i64 0,.i .i64 0,.i .i64 0,.i .i64 0] (.t 55) (.t 57),none,false⟩,⟨some 11,.mv (.t 58),none,false⟩]
abbrev i20r16:List IOper:=[⟨some 59,.bin .add (.t 28) (.c (.i .i64 1)),none,false⟩,⟨some 28,.mv (.t 59),none,false⟩]
abbrev i20l17:ICode:=(.seq (.reg i20r8) (.seq (.cond (.t 29) .skip (.exit 0)) (.seq (.block 1 (.seq (.reg i20r9) (.seq (.block 2 (.seq (.reg i20r10) (.cond (.t 32) (.seq (.reg i20r11) (.exit 1)) (.seq (.reg i20r12) (.cond (.t 38) (.seq (.reg i20r13) (.reg i20r14)) .skip))))) (.reg i20r15)))) (.reg i20r16))))
abbrev i20r18:List IOper:=[⟨some 60,.mv (.t 1),none,false⟩,⟨some 61,.mv (.t 11),none,false⟩,⟨some 62,.fa 0 (.t 3),none,false⟩,⟨none,.st 1 (.t 62) (.t 60),none,false⟩,⟨some 63,.fa 3 (.t 3),none,false⟩,⟨none,.st 1 (.t 63) (.t 61),none,false⟩]
abbrev i20r19:List IOper:=[⟨some 64,.ld true 4 (.t 3),none,false⟩,⟨some 65,.mv (.t 7),none,false⟩,⟨some 66,.mv (.t 8),none,false⟩,⟨none,.st 4 (.t 6) (.t 64),none,false⟩,⟨some 7,.mv (.t 65),none,false⟩,⟨some 8,.mv (.t 66),none,false⟩,⟨some 9,.mv (.c (.i .i64 0)),none,false⟩]
abbrev i20c:ICode:=(.seq (.reg i20r0) (.scope (.seq (.seq (.reg i20r1) (.seq (.reg i20r2) (.cond (.t 18) (.seq (.reg i20r3) .ret) .skip))) (.seq (.seq (.reg i20r4) (.cond (.t 23) (.seq (.reg i20r5) .ret) .skip)) (.seq (.reg i20r6) (.seq .skip (.seq (.seq (.reg i20r7) (.block 0 (.loop i20l17))) (.seq (.reg i20r18) (.seq (.reg i20r19) .ret)))))))))
def i20:IFn:={np:=3,N:=67,ct:=[18,23,29,32,38],code:=i20c,res:=[.c 6 true 4,.t 7,.t 8,.t 9]}
theorem i20_eq:compF Try.prog Try.f20=some i20:=by kernel_rfl
abbrev i22r0:List IOper:=[⟨some 4,.mv (.c (.b false)),none,false⟩]
abbrev i22r1:List IOper:=[⟨some 6,.mv (.t 0),none,false⟩,⟨some 7,.lenV (.t 6),none,false⟩,⟨some 8,.mv (.t 1),none,false⟩,⟨some 9,.lenV (.t 8),none,false⟩,⟨some 10,.bin .neq (.t 7) (.t 9),none,true⟩]
abbrev i22r2:List IOper:=[⟨some 4,.mv (.c (.b false)),none,false⟩]
abbrev i22r3:List IOper:=[⟨some 11,.mv (.t 0),none,false⟩,⟨some 12,.lenV (.t 11),none,false⟩,⟨some 13,.mv (.c (.i .i64 0)),none,false⟩]
abbrev i22r4:List IOper:=[⟨some 14,.bin .lss (.t 13) (.t 12),none,true⟩]
abbrev i22r5:List IOper:=[⟨some 15,.mv (.t 13),none,false⟩,⟨some 5,.mv (.t 15),none,false⟩]
abbrev i22r6:List (IOper×List Nat):=[(⟨some 16,.mv (.t 0),none,false⟩,[]),(⟨some 17,.mv (.t 5),none,false⟩,[0]),(⟨some 18,.ixaV 1 (.t 16) (.t 17),none,false⟩,[]),(⟨some 19,.ld false 1 (.t 18),none,false⟩,[]),(⟨some 20,.mv (.t 1),none,false⟩,[0,1,2,3]),(⟨some 21,.mv (.t 5),none,false⟩,[0,1,2,3,4]),(⟨some 22,.ixaV 1 (.t 20) (.t 21),none,false⟩,[0,1,2,3]),(⟨some 23,.ld false 1 (.t 22),none,false⟩,[0,1,2,3]),(⟨some 24,.bin .neq (.t 19) (.t 23),none,true⟩,[])]
abbrev i22r7:List IOper:=[⟨some 4,.mv (.c (.b false)),none,false⟩]
abbrev i22r8:List IOper:=[⟨some 25,.bin .add (.t 13) (.c (.i .i64 1)),none,false⟩,⟨some 13,.mv (.t 25),none,false⟩]
abbrev i22l9:ICode:=(.seq (.reg i22r4) (.seq (.cond (.t 14) .skip (.exit 0)) (.seq (.block 1 (.seq (.reg i22r5) (.seq (.dreg i22r6) (.cond (.t 24) (.seq (.reg i22r7) .ret) .skip)))) (.reg i22r8))))
abbrev i22r10:List IOper:=[⟨some 4,.mv (.c (.b true)),none,false⟩]
abbrev i22c:ICode:=(.seq (.reg i22r0) (.seq (.seq (.reg i22r1) (.cond (.t 10) (.seq (.reg i22r2) .ret) .skip)) (.seq (.seq (.reg i22r3) (.block 0 (.loop i22l9))) (.seq (.reg i22r10) .ret))))
def i22:IFn:={np:=2,N:=26,ct:=[10,14,24],code:=i22c,res:=[.t 4]}
theorem i22_eq:compF Try.prog Try.f22=some i22:=by kernel_rfl
abbrev i23r0:List IOper:=[⟨some 3,.box (.t 0),none,false⟩,⟨some 6,.new [.i .i64 0,.b false,.i .i64 0,.ns],none,false⟩]
abbrev i23r1:List IOper:=[⟨some 10,.ld true 4 (.t 3),none,false⟩,⟨some 11,.mv (.t 1),none,false⟩,⟨some 12,.mv (.t 2),none,false⟩,⟨some 13,.call (.c (.fn 13 [])) [.t 10,.t 11,.t 12],none,false⟩,⟨some 9,.mv (.t 13),none,false⟩,⟨some 14,.ext (.t 9) 0,none,false⟩,⟨some 15,.ext (.t 9) 1,none,false⟩,⟨some 7,.new [.i .i64 0,.b false,.i .i64 0,.ns],none,false⟩,⟨none,.st 4 (.t 7) (.t 14),none,false⟩,⟨some 8,.mv (.t 15),none,false⟩]
abbrev i23r2:List IOper:=[⟨some 16,.ld true 4 (.t 7),none,false⟩,⟨none,.st 4 (.t 6) (.t 16),none,false⟩]
abbrev i23c:ICode:=(.seq (.reg i23r0) (.seq (.reg i23r1) (.seq (.reg i23r2) .ret)))
def i23:IFn:={np:=3,N:=17,ct:=[],code:=i23c,res:=[.c 6 true 4]}
theorem i23_eq:compF Try.prog Try.f23=some i23:=by kernel_rfl
abbrev i24r0:List IOper:=[⟨some 5,.box (.t 0),none,false⟩,⟨some 10,.new [.i .i64 0,.b false,.i .i64 0,.ns],none,false⟩,⟨some 11,.mv (.c (.b false)),none,false⟩]
abbrev i24r1:List IOper:=[⟨some 17,.ld true 4 (.t 5),none,false⟩,⟨some 18,.mv (.t 1),none,false⟩,⟨some 19,.mv (.t 2),none,false⟩,⟨some 20,.call (.c (.fn 20 [])) [.t 17,.t 18,.t 19],none,false⟩,⟨some 16,.mv (.t 20),none,false⟩,⟨some 21,.ext (.t 16) 0,none,false⟩,⟨some 22,.ext (.t 16) 1,none,false⟩,⟨some 23,.ext (.t 16) 2,none,false⟩,⟨some 24,.ext (.t 16) 3,none,false⟩,⟨some 12,.new [.i .i64 0,.b false,.i .i64 0,.ns],none,false⟩,⟨none,.st 4 (.t 12) (.t 21),none,false⟩,⟨some 13,.mv (.t 22),none,false⟩,⟨some 14,.mv (.t 23),none,false⟩,⟨some 15,.mv (.t 24),none,false⟩]
abbrev i24r2:List (IOper×List Nat):=[(⟨some 25,.ld true 4 (.t 12),none,false⟩,[]),(⟨some 26,.mv (.t 15),none,false⟩,[0]),(⟨some 27,.bin .eql (.t 26) (.c (.i .i64 0)),none,false⟩,[0]),(⟨some 28,.mv (.t 27),none,true⟩,[0]),(⟨some 29,.mv (.t 14),(some (28,true)),false⟩,[0]),(⟨some 30,.mv (.t 3),(some (28,true)),false⟩,[0,4]),(⟨some 31,.eqk false false [.b] (.t 29) (.t 30),(some (28,true)),false⟩,[0]),(⟨some 32,.pick (.t 28) (.t 31) (.c (.b false)),none,false⟩,[0]),(⟨some 33,.mv (.t 32),none,true⟩,[0]),(⟨some 34,.mv (.t 13),(some (33,true)),false⟩,[0]),(⟨some 35,.mv (.t 4),(some (33,true)),false⟩,[0,9]),(⟨some 36,.call (.c (.fn 22 [])) [.t 34,.t 35],(some (33,true)),false⟩,[0]),(⟨some 37,.pick (.t 33) (.t 36) (.c (.b false)),none,false⟩,[0]),(⟨none,.st 4 (.t 10) (.t 25),none,false⟩,[12]),(⟨some 11,.mv (.t 37),none,false⟩,[])]
abbrev i24c:ICode:=(.seq (.reg i24r0) (.seq (.reg i24r1) (.seq (.dreg i24r2) .ret)))
def i24:IFn:={np:=5,N:=38,ct:=[],code:=i24c,res:=[.c 10 true 4,.t 11]}
theorem i24_eq:compF Try.prog Try.f24=some i24:=by kernel_rfl
abbrev i25r0:List IOper:=[⟨some 3,.box (.t 0),none,false⟩,⟨some 6,.mv (.c (.b false)),none,false⟩]
abbrev i25r1:List IOper:=[⟨some 10,.ld true 4 (.t 3),none,false⟩,⟨some 11,.mv (.t 1),none,false⟩,⟨some 12,.call (.c (.fn 18 [])) [.t 10,.t 11],none,false⟩,⟨some 9,.mv (.t 12),none,false⟩,⟨some 13,.ext (.t 9) 0,none,false⟩,⟨some 14,.ext (.t 9) 1,none,false⟩,⟨some 7,.mv (.t 13),none,false⟩,⟨some 8,.mv (.t 14),none,false⟩]
abbrev i25r2:List IOper:=[⟨some 15,.mv (.t 7),none,false⟩,⟨some 16,.mv (.t 2),none,false⟩,⟨some 17,.bin .eql (.t 15) (.t 16),none,false⟩,⟨some 18,.mv (.t 17),none,true⟩,⟨some 19,.mv (.t 8),(some (18,true)),false⟩,⟨some 20,.bin .eql (.t 19) (.c (.i .i64 0)),(some (18,true)),false⟩,⟨some 21,.pick (.t 18) (.t 20) (.c (.b false)),none,false⟩,⟨some 6,.mv (.t 21),none,false⟩]
abbrev i25c:ICode:=(.seq (.reg i25r0) (.seq (.reg i25r1) (.seq (.reg i25r2) .ret)))
def i25:IFn:={np:=3,N:=22,ct:=[],code:=i25c,res:=[.t 6]}
theorem i25_eq:compF Try.prog Try.f25=some i25:=by kernel_rfl
abbrev i27r0:List IOper:=[⟨some 1,.box (.t 0),none,false⟩,⟨some 2,.mv (.c (.ns)),none,false⟩]
abbrev i27r1:List IOper:=[⟨some 3,.mv (.c (.ns)),none,false⟩]
abbrev i27r2:List IOper:=[⟨some 8,.fa 0 (.t 1),none,false⟩,⟨some 9,.ld false 1 (.t 8),none,false⟩,⟨some 10,.i2i .i64 (.t 9),none,false⟩,⟨some 4,.mv (.t 10),none,false⟩]
abbrev i27r3:List IOper:=[⟨some 5,.mv (.c (.i .i64 0)),none,false⟩]
abbrev i27r4:List IOper:=[⟨some 11,.mv (.t 5),none,false⟩,⟨some 12,.fa 2 (.t 1),none,false⟩,⟨some 13,.ld false 1 (.t 12),none,false⟩,⟨some 14,.lenV (.t 13),none,false⟩,⟨some 15,.bin .lss (.t 11) (.t 14),none,false⟩,⟨some 16,.mv (.t 15),none,true⟩,⟨some 17,.mv (.t 5),(some (16,true)),false⟩,⟨some 18,.bin .lss (.t 17) (.c (.i .i64 40)),(some (16,true)),false⟩,⟨some 19,.pick (.t 16) (.t 18) (.c (.b false)),none,true⟩]
abbrev i27r5:List IOper:=[⟨some 22,.fa 2 (.t 1),none,false⟩,⟨some 23,.ld false 1 (.t 22),none,false⟩,⟨some 24,.mv (.t 5),none,false⟩,⟨some 25,.ixaV 3 (.t 23) (.t 24),none,false⟩,⟨some 26,.fa 2 (.t 25),none,false⟩,⟨some 27,.ld false 1 (.t 26),none,false⟩,⟨some 28,.i2i .i64 (.t 27),none,false⟩,⟨some 6,.mv (.t 28),none,false⟩]
abbrev i27r6:List IOper:=[⟨some 29,.mv (.t 4),none,false⟩,⟨some 30,.mv (.t 6),none,false⟩,⟨some 31,.bin .add (.t 29) (.t 30),none,false⟩,⟨some 32,.bin .add (.t 31) (.c (.i .i64 65536)),none,false⟩,⟨some 33,.bin .rem (.t 32) (.c (.i .i64 65536)),none,false⟩,⟨some 7,.mv (.t 33),none,false⟩]
abbrev i27r7:List IOper:=[⟨some 34,.mv (.t 6),none,false⟩,⟨some 35,.bin .gtr (.t 34) (.c (.i .i64 0)),none,true⟩]
abbrev i27r8:List IOper:=[⟨some 36,.mv (.t 7),none,false⟩,⟨some 4,.mv (.t 36),none,false⟩]
abbrev i27r9:List IOper:=[⟨some 37,.mv (.t 3),none,false⟩,⟨some 38,.mv (.t 7),none,false⟩,⟨some 39,.bsl [.i .i64 0] 1 [(0,1,.t 38)],none,false⟩,⟨some 40,.app 1 8 [.i .i64 0] (.t 37) (.t 39),none,false⟩,⟨some 3,.mv (.t 40),none,false⟩]
abbrev i27r10:List IOper:=[⟨some 20,.mv (.t 5),none,false⟩,⟨some 21,.bin .add (.t 20) (.c (.i .i64 1)),none,false⟩,⟨some 5,.mv (.t 21),none,false⟩]
abbrev i27l11:ICode:=(.seq (.seq (.reg i27r4) (.cond (.t 19) .skip (.exit 0))) (.seq (.block 1 (.seq (.reg i27r5) (.seq (.reg i27r6) (.seq (.seq (.reg i27r7) (.cond (.t 35) (.reg i27r8) .skip)) (.reg i27r9))))) (.reg i27r10)))
abbrev i27r12:List IOper:=[⟨some 41,.mv (.t 3),none,false⟩,⟨some 2,.mv (.t 41),none,false⟩]
abbrev i27c:ICode:=(.seq (.reg i27r0) (.seq (.reg i27r1) (.seq (.reg i27r2) (.seq (.seq (.reg i27r3) (.block 0 (.loop i27l11))) (.seq (.reg i27r12) .ret)))))
def i27:IFn:={np:=1,N:=42,ct:=[19,35],code:=i27c,res:=[.t 2]}
theorem i27_eq:compF Try.prog Try.f27=some i27:=by kernel_rfl
abbrev i34r0:List IOper:=[⟨some 2,.new [.b false,.i .i64 0,.i .i64 0,.i .i64 0,.i .i64 0,.ns,.ns,.i .i64 0,.s []],none,false⟩]
abbrev i34r1:List IOper:=[⟨some 3,.mv (.t 0),none,false⟩,⟨some 4,.bin .rem (.t 3) (.c (.i .i64 2)),none,false⟩,⟨some 5,.bin .eql (.t 4) (.c (.i .i64 0)),none,false⟩,⟨some 6,.mv (.t 0),none,false⟩,⟨some 7,.mv (.t 0),none,false⟩,⟨some 8,.bin .mul (.c (.i .i64 90)) (.t 7),none,false⟩,⟨some 9,.mv (.t 0),none,false⟩,⟨some 10,.bin .rem (.t 9) (.c (.i .i64 26)),none,false⟩,⟨some 11,.bin .add (.c (.i .i64 97)) (.t 10),none,false⟩,⟨some 12,.i2i .u8 (.t 11),none,false⟩,⟨some 13,.bsl [.i .u8 0] 1 [(0,1,.t 12)],none,false⟩,⟨some 14,.b2s (.t 13),none,false⟩,⟨some 15,.build [.b false,.i .i64 0,.i .i64 0,.i .i64 0,.i .i64 0,.ns,.ns,.i .i64 0,.s []] [(0,1,.t 5),(1,1,.c (.i .i64 96)),(2,1,.t 6),(3,1,.t 8),(4,1,.c (.i .i64 1)),(8,1,.t 14)],none,false⟩,⟨none,.st 9 (.t 2) (.t 15),none,false⟩]
abbrev i34c:ICode:=(.seq (.reg i34r0) (.seq (.reg i34r1) .ret))
def i34:IFn:={np:=1,N:=16,ct:=[],code:=i34c,res:=[.c 2 true 9]}
theorem i34_eq:compF Try.prog Try.f34=some i34:=by kernel_rfl
abbrev i49r0:List IOper:=[⟨some 6,.mv (.c (.b false)),none,false⟩]
abbrev i49r1:List IOper:=[⟨some 7,.mv (.t 2),none,false⟩,⟨some 8,.mv (.t 0),none,false⟩,⟨some 9,.bin .geq (.t 7) (.t 8),none,false⟩,⟨some 10,.mv (.t 9),none,true⟩,⟨some 11,.mv (.t 2),(some (10,true)),false⟩,⟨some 12,.mv (.t 1),(some (10,true)),false⟩,⟨some 13,.bin .leq (.t 11) (.t 12),(some (10,true)),false⟩,⟨some 14,.pick (.t 10) (.t 13) (.c (.b false)),none,false⟩,⟨some 6,.mv (.t 14),none,false⟩]
abbrev i49c:ICode:=(.seq (.reg i49r0) (.seq (.reg i49r1) .ret))
def i49:IFn:={np:=3,N:=15,ct:=[],code:=i49c,res:=[.t 6]}
theorem i49_eq:compF Try.prog Try.f49=some i49:=by kernel_rfl
abbrev i50r0:List IOper:=[⟨some 2,.box (.t 0),none,false⟩,⟨some 4,.mv (.c (.b false)),none,false⟩]
abbrev i50r1:List IOper:=[⟨some 5,.fa 0 (.t 2),none,false⟩,⟨some 6,.ld false 1 (.t 5),none,false⟩,⟨some 7,.call (.c (.fn 49 [])) [.c (.i .i64 0),.c (.i .i64 65535),.t 6],none,false⟩,⟨some 8,.not (.t 7),none,false⟩,⟨some 9,.mv (.t 8),none,true⟩,⟨some 10,.mv (.t 1),(some (9,false)),false⟩,⟨some 11,.fa 1 (.t 2),(some (9,false)),false⟩,⟨some 12,.ld false 1 (.t 11),(some (9,false)),false⟩,⟨some 13,.call (.c (.fn 49 [])) [.c (.i .i64 0),.t 10,.t 12],(some (9,false)),false⟩,⟨some 14,.not (.t 13),(some (9,false)),false⟩,⟨some 15,.pick (.t 9) (.c (.b true)) (.t 14),none,false⟩,⟨some 16,.mv (.t 15),none,true⟩,⟨some 17,.fa 3 (.t 2),(some (16,false)),false⟩,⟨some 18,.ld false 1 (.t 17),(some (16,false)),false⟩,⟨some 19,.call (.c (.fn 49 [])) [.c (.i .i64 0),.c (.i .i64 6),.t 18],(some (16,false)),false⟩,⟨some 20,.not (.t 19),(some (16,false)),false⟩,⟨some 21,.pick (.t 16) (.c (.b true)) (.t 20),none,true⟩]
abbrev i50r2:List IOper:=[⟨some 4,.mv (.c (.b false)),none,false⟩]
abbrev i50r3:List IOper:=[⟨some 22,.fa 3 (.t 2),none,false⟩,⟨some 23,.ld false 1 (.t 22),none,false⟩,⟨some 24,.bin .eql (.t 23) (.c (.i .i64 0)),none,false⟩,⟨some 25,.mv (.t 24),none,true⟩,⟨some 26,.fa 2 (.t 2),(some (25,true)),false⟩,⟨some 27,.ld false 1 (.t 26),(some (25,true)),false⟩,⟨some 28,.bin .eql (.t 27) (.c (.i .i64 0)),(some (25,true)),false⟩,⟨some 29,.pick (.t 25) (.t 28) (.c (.b false)),none,false⟩,⟨some 30,.mv (.t 29),none,true⟩,⟨some 31,.fa 3 (.t 2),(some (30,false)),false⟩,⟨some 32,.ld false 1 (.t 31),(some (30,false)),false⟩,⟨some 33,.bin .gtr (.t 32) (.c (.i .i64 0)),(some (30,false)),false⟩,⟨some 34,.mv (.t 33),(some (30,false)),true⟩,⟨some 35,.fa 1 (.t 2),(some (34,true)),false⟩,⟨some 36,.ld false 1 (.t 35),(some (34,true)),false⟩,⟨some 37,.mv (.t 1),(some (34,true)),false⟩,⟨some 38,.fa 2 (.t 2),(some (34,true)),false⟩,⟨some 39,.ld false 1 (.t 38),(some (34,true)),false⟩,⟨some 40,.call (.c (.fn 49 [])) [.t 36,.t 37,.t 39],(some (34,true)),false⟩,⟨some 41,.pick (.t 34) (.t 40) (.c (.b false)),(some (30,false)),false⟩,⟨some 42,.pick (.t 30) (.c (.b true)) (.t 41),none,false⟩,⟨some 4,.mv (.t 42),none,false⟩]
abbrev i50c:ICode:=(.seq (.reg i50r0) (.seq (.seq (.reg i50r1) (.cond (.t 21) (.seq (.reg i50r2) .ret) .skip)) (.seq (.reg i50r3) .ret)))
def i50:IFn:={np:=2,N:=43,ct:=[21],code:=i50c,res:=[.t 4]}
theorem i50_eq:compF Try.prog Try.f50=some i50:=by kernel_rfl
abbrev i51r0:List IOper:=[⟨some 4,.mv (.c (.i .i64 0)),none,false⟩]
abbrev i51r1:List IOper:=[⟨some 8,.mv (.t 0),none,false⟩,⟨some 9,.mv (.t 1),none,false⟩,⟨some 10,.call (.c (.fn 89 [])) [.t 8,.t 9,.c (.i .i64 16)],none,false⟩,⟨some 7,.mv (.t 10),none,false⟩,⟨some 11,.ext (.t 7) 0,none,false⟩,⟨some 12,.ext (.t 7) 1,none,false⟩,⟨some 5,.mv (.t 11),none,false⟩,⟨some 6,.mv (.t 12),none,false⟩]
abbrev i51r2:List IOper:=[⟨some 13,.mv (.t 5),none,false⟩,⟨some 4,.mv (.t 13),none,false⟩]
abbrev i51c:ICode:=(.seq (.reg i51r0) (.seq (.reg i51r1) (.seq (.reg i51r2) .ret)))
def i51:IFn:={np:=2,N:=14,ct:=[],code:=i51c,res:=[.t 4]}
theorem i51_eq:compF Try.prog Try.f51=some i51:=by kernel_rfl
abbrev i52r0:List IOper:=[⟨some 4,.mv (.c (.b false)),none,false⟩]
abbrev i52r1:List IOper:=[⟨some 5,.mv (.t 0),none,false⟩,⟨some 6,.mv (.t 1),none,false⟩,⟨some 7,.bin .geq (.t 5) (.t 6),none,false⟩,⟨some 8,.mv (.t 7),none,true⟩,⟨some 9,.mv (.t 0),(some (8,true)),false⟩,⟨some 10,.bin .leq (.t 9) (.c (.i .i64 1099511627776)),(some (8,true)),false⟩,⟨some 11,.pick (.t 8) (.t 10) (.c (.b false)),none,false⟩,⟨some 4,.mv (.t 11),none,false⟩]
abbrev i52c:ICode:=(.seq (.reg i52r0) (.seq (.reg i52r1) .ret))
def i52:IFn:={np:=2,N:=12,ct:=[],code:=i52c,res:=[.t 4]}
theorem i52_eq:compF Try.prog Try.f52=some i52:=by kernel_rfl
abbrev i53r0:List IOper:=[⟨some 6,.mv (.c (.i .i64 0)),none,false⟩]
abbrev i53r1:List IOper:=[⟨some 8,.mv (.t 0),none,false⟩,⟨some 9,.mv (.t 1),none,false⟩,⟨some 10,.bin .sub (.t 8) (.t 9),none,false⟩,⟨some 7,.mv (.t 10),none,false⟩]
abbrev i53r2:List IOper:=[⟨some 11,.mv (.t 7),none,false⟩,⟨some 12,.mv (.t 2),none,false⟩,⟨some 13,.bin .sub (.t 12) (.c (.i .i64 1)),none,false⟩,⟨some 14,.call (.c (.fn 90 [])) [.t 13],none,false⟩,⟨some 15,.neg (.t 14),none,false⟩,⟨some 16,.bin .lss (.t 11) (.t 15),none,true⟩]
abbrev i53r3:List IOper:=[⟨some 17,.mv (.t 7),none,false⟩,⟨some 18,.mv (.t 2),none,false⟩,⟨some 19,.call (.c (.fn 90 [])) [.t 18],none,false⟩,⟨some 20,.bin .add (.t 17) (.t 19),none,false⟩,⟨some 7,.mv (.t 20),none,false⟩]
abbrev i53r4:List IOper:=[⟨some 21,.mv (.t 7),none,false⟩,⟨some 22,.mv (.t 2),none,false⟩,⟨some 23,.bin .sub (.t 22) (.c (.i .i64 1)),none,false⟩,⟨some 24,.call (.c (.fn 90 [])) [.t 23],none,false⟩,⟨some 25,.bin .geq (.t 21) (.t 24),none,true⟩]
abbrev i53r5:List IOper:=[⟨some 26,.mv (.t 7),none,false⟩,⟨some 27,.mv (.t 2),none,false⟩,⟨some 28,.call (.c (.fn 90 [])) [.t 27],none,false⟩,⟨some 29,.bin .sub (.t 26) (.t 28),none,false⟩,⟨some 7,.mv (.t 29),none,false⟩]
abbrev i53r6:List IOper:=[⟨some 30,.mv (.t 7),none,false⟩,⟨some 6,.mv (.t 30),none,false⟩]
abbrev i53c:ICode:=(.seq (.reg i53r0) (.seq (.reg i53r1) (.seq (.seq (.reg i53r2) (.cond (.t 16) (.reg i53r3) .skip)) (.seq (.seq (.reg i53r4) (.cond (.t 25) (.reg i53r5) .skip)) (.seq (.reg i53r6) .ret)))))
def i53:IFn:={np:=3,N:=31,ct:=[16,25],code:=i53c,res:=[.t 6]}
theorem i53_eq:compF Try.prog Try.f53=some i53:=by kernel_rfl
abbrev i54r0:List IOper:=[⟨some 2,.box (.t 0),none,false⟩,⟨some 4,.mv (.c (.i .i64 0)),none,false⟩]
abbrev i54r1:List IOper:=[⟨some 6,.ld true 4 (.t 2),none,false⟩,⟨some 7,.call (.c (.fn 11 [])) [.t 6],none,false⟩,⟨some 5,.mv (.t 7),none,false⟩]
abbrev i54r2:List IOper:=[⟨some 8,.mv (.t 5),none,false⟩,⟨some 9,.bin .neq (.t 8) (.c (.i .i64 0)),none,true⟩]
abbrev i54r3:List IOper:=[⟨some 10,.mv (.t 5),none,false⟩,⟨some 4,.mv (.t 10),none,false⟩]
abbrev i54r4:List IOper:=[⟨some 11,.fa 0 (.t 2),none,false⟩,⟨some 12,.ld false 1 (.t 11),none,false⟩,⟨some 13,.mv (.t 1),none,false⟩,⟨some 14,.call (.c (.fn 49 [])) [.t 12,.c (.i .i64 1099511627776),.t 13],none,false⟩,⟨some 15,.not (.t 14),none,true⟩]
abbrev i54r5:List IOper:=[⟨some 4,.mv (.c (.i .i64 2)),none,false⟩]
abbrev i54r6:List IOper:=[⟨some 4,.mv (.c (.i .i64 0)),none,false⟩]
abbrev i54c:ICode:=(.seq (.reg i54r0) (.seq (.seq (.reg i54r1) (.seq (.reg i54r2) (.cond (.t 9) (.seq (.reg i54r3) .ret) .skip))) (.seq (.seq (.reg i54r4) (.cond (.t 15) (.seq (.reg i54r5) .ret) .skip)) (.seq (.reg i54r6) .ret))))
def i54:IFn:={np:=2,N:=16,ct:=[9,15],code:=i54c,res:=[.t 4]}
theorem i54_eq:compF Try.prog Try.f54=some i54:=by kernel_rfl
abbrev i55r0:List IOper:=[⟨some 4,.box (.t 0),none,false⟩,⟨some 5,.mv (.c (.b false)),none,false⟩]
abbrev i55r1:List (IOper×List Nat):=[(⟨some 6,.fa 0 (.t 4),none,false⟩,[]),(⟨some 7,.ld false 1 (.t 6),none,false⟩,[]),(⟨some 8,.ld false 1 (.t 1),none,false⟩,[0,1]),(⟨some 9,.bin .eql (.t 7) (.t 8),none,false⟩,[]),(⟨some 10,.mv (.t 9),none,true⟩,[]),(⟨some 11,.fa 0 (.t 4),(some (10,false)),false⟩,[]),(⟨some 12,.ld false 1 (.t 11),(some (10,false)),false⟩,[]),(⟨some 13,.ld false 1 (.t 2),(some (10,false)),false⟩,[5,6]),(⟨some 14,.call (.c (.fn 51 [])) [.t 12,.t 13],(some (10,false)),false⟩,[]),(⟨some 15,.ld false 1 (.t 3),(some (10,false)),false⟩,[5,6,7,8]),(⟨some 16,.mx (.t 15) [.c (.i .i64 0)],(some (10,false)),false⟩,[5,6,7,8]),(⟨some 17,.bin .sub (.t 14) (.t 16),(some (10,false)),false⟩,[]),(⟨some 18,.bin .lss (.t 17) (.c (.i .i64 (-1000))),(some (10,false)),false⟩,[]),(⟨some 19,.pick (.t 10) (.c (.b true)) (.t 18),none,false⟩,[]),(⟨some 5,.mv (.t 19),none,false⟩,[])]
abbrev i55c:ICode:=(.seq (.reg i55r0) (.seq (.dreg i55r1) .ret))
def i55:IFn:={np:=4,N:=20,ct:=[],code:=i55c,res:=[.t 5]}
theorem i55_eq:compF Try.prog Try.f55=some i55:=by kernel_rfl
abbrev i56r0:List IOper:=[⟨some 4,.mv (.c (.ns)),none,false⟩]
abbrev i56r1:List IOper:=[⟨some 8,.mv (.t 0),none,false⟩,⟨some 9,.mv (.t 1),none,false⟩,⟨some 10,.call (.c (.fn 64 [])) [.t 8,.t 9],none,false⟩,⟨some 5,.mv (.t 10),none,false⟩]
abbrev i56r2:List IOper:=[⟨some 11,.mv (.t 5),none,false⟩,⟨some 12,.bin .eql (.t 11) (.c (.i .i64 (-1))),none,true⟩]
abbrev i56r3:List IOper:=[⟨some 13,.mv (.t 0),none,false⟩,⟨some 4,.mv (.t 13),none,false⟩]
abbrev i56r4:List IOper:=[⟨some 14,.mv (.t 5),none,false⟩,⟨some 15,.bin .add (.t 14) (.c (.i .i64 1)),none,false⟩,⟨some 6,.mv (.t 15),none,false⟩]
abbrev i56r5:List IOper:=[⟨some 16,.mv (.t 6),none,false⟩,⟨some 17,.mv (.t 0),none,false⟩,⟨some 18,.lenV (.t 17),none,false⟩,⟨some 19,.bin .lss (.t 16) (.t 18),none,true⟩]
abbrev i56r6:List IOper:=[⟨some 22,.mv (.t 0),none,false⟩,⟨some 23,.mv (.t 6),none,false⟩,⟨some 24,.ixaV 4 (.t 22) (.t 23),none,false⟩,⟨some 25,.ld true 4 (.t 24),none,false⟩,⟨some 7,.new [.i .i64 0,.i .i64 0,.i .i64 0,.i .i64 0],none,false⟩,⟨none,.st 4 (.t 7) (.t 25),none,false⟩]
abbrev i56r7:List IOper:=[⟨some 26,.mv (.t 1),none,false⟩,⟨some 27,.ld true 4 (.t 7),none,false⟩,⟨some 28,.call (.t 26) [.t 27],none,false⟩,⟨some 29,.not (.t 28),none,true⟩]
abbrev i56r8:List IOper:=[⟨some 30,.mv (.t 0),none,false⟩,⟨some 31,.mv (.t 5),none,false⟩,⟨some 32,.ld true 4 (.t 7),none,false⟩,⟨some 33,.ixaV 4 (.t 30) (.t 31),none,false⟩,⟨none,.st 4 (.t 33) (.t 32),none,false⟩]
abbrev i56r9:List IOper:=[⟨some 34,.mv (.t 5),none,false⟩,⟨some 35,.bin .add (.t 34) (.c (.i .i64 1)),none,false⟩,⟨some 5,.mv (.t 35),none,false⟩]
abbrev i56r10:List IOper:=[⟨some 20,.mv (.t 6),none,false⟩,⟨some 21,.bin .add (.t 20) (.c (.i .i64 1)),none,false⟩,⟨some 6,.mv (.t 21),none,false⟩]
abbrev i56l11:ICode:=(.seq (.seq (.reg i56r5) (.cond (.t 19) .skip (.exit 0))) (.seq (.block 1 (.seq (.reg i56r6) (.seq (.reg i56r7) (.cond (.t 29) (.seq (.reg i56r8) (.reg i56r9)) .skip)))) (.reg i56r10)))
abbrev i56r12:List IOper:=[⟨some 36,.mv (.t 0),none,false⟩,⟨some 37,.mv (.t 5),none,false⟩,⟨some 38,.slV 4 (.t 36) (some (.t 37)) none none,none,false⟩,⟨none,.clr 4 [.i .i64 0,.i .i64 0,.i .i64 0,.i .i64 0] (.t 38),none,false⟩]
abbrev i56r13:List IOper:=[⟨some 39,.mv (.t 0),none,false⟩,⟨some 40,.mv (.t 5),none,false⟩,⟨some 41,.slV 4 (.t 39) none (some (.t 40)) none,none,false⟩,⟨some 4,.mv (.t 41),none,false⟩]
abbrev i56c:ICode:=(.seq (.reg i56r0) (.seq (.reg i56r1) (.seq (.seq (.reg i56r2) (.cond (.t 12) (.seq (.reg i56r3) .ret) .skip)) (.seq (.seq (.reg i56r4) (.block 0 (.loop i56l11))) (.seq (.reg i56r12) (.seq (.reg i56r13) .ret))))))
def i56:IFn:={np:=2,N:=42,ct:=[12,19,29],code:=i56c,res:=[.t 4]}
theorem i56_eq:compF Try.prog Try.f56=some i56:=by kernel_rfl
abbrev i57r0:List IOper:=[⟨some 2,.mv (.c (.ns)),none,false⟩]
abbrev i57r1:List IOper:=[⟨some 3,.mv (.t 0),none,false⟩,⟨some 4,.eqn false 1 (.t 3) (.c (.ns)),none,true⟩]
abbrev i57r2:List IOper:=[⟨some 2,.mv (.c (.ns)),none,false⟩]
abbrev i57r3:List IOper:=[⟨some 5,.bsl [] 0 [],none,false⟩,⟨some 6,.mv (.t 0),none,false⟩,⟨some 7,.app 4 32 [.i .i64 0,.i .i64 0,.i .i64 0,.i .i64 0] (.t 5) (.t 6),none,false⟩,⟨some 2,.mv (.t 7),none,false⟩]
abbrev i57c:ICode:=(.seq (.reg i57r0) (.seq (.seq (.reg i57r1) (.cond (.t 4) (.seq (.reg i57r2) .ret) .skip)) (.seq (.reg i57r3) .ret)))
def i57:IFn:={np:=1,N:=8,ct:=[4],code:=i57c,res:=[.t 2]}
theorem i57_eq:compF Try.prog Try.f57=some i57:=by kernel_rfl
abbrev i58r0:List IOper:=[⟨some 2,.box (.t 0),none,false⟩,⟨some 3,.box (.t 1),none,false⟩,⟨some 4,.mv (.c (.nf)),none,false⟩]
abbrev i58r1:List IOper:=[⟨some 5,.mkf 91 [.t 3,.t 2],none,false⟩,⟨some 4,.mv (.t 5),none,false⟩]
abbrev i58c:ICode:=(.seq (.reg i58r0) (.seq (.reg i58r1) .ret))
def i58:IFn:={np:=2,N:=6,ct:=[],code:=i58c,res:=[.t 4]}
theorem i58_eq:compF Try.prog Try.f58=some i58:=by kernel_rfl
abbrev i60r0:List IOper:=[⟨some 2,.box (.t 0),none,false⟩,⟨some 4,.mv (.c (.i .i64 0)),none,false⟩]
abbrev i60r1:List IOper:=[⟨some 5,.ld true 4 (.t 2),none,false⟩,⟨some 6,.fa 0 (.t 2),none,false⟩,⟨some 7,.ld false 1 (.t 6),none,false⟩,⟨some 8,.fa 1 (.t 2),none,false⟩,⟨some 9,.ld false 1 (.t 8),none,false⟩,⟨some 10,.build [.i .i64 0,.i .i64 0,.i .i64 0,.i .i64 0] [(0,1,.t 7),(1,1,.t 9)],none,false⟩,⟨some 11,.eqk false true [.i,.i,.i,.i] (.t 5) (.t 10),none,true⟩]
abbrev i60r2:List IOper:=[⟨some 12,.fa 1 (.t 2),none,false⟩,⟨some 13,.ld false 1 (.t 12),none,false⟩,⟨some 4,.mv (.t 13),none,false⟩]
abbrev i60r3:List (IOper×List Nat):=[(⟨some 14,.fa 2 (.t 2),none,false⟩,[]),(⟨some 15,.ld false 1 (.t 14),none,false⟩,[]),(⟨some 16,.mv (.t 1),none,false⟩,[0,1]),(⟨some 17,.fa 3 (.t 2),none,false⟩,[0,1,2]),(⟨some 18,.ld false 1 (.t 17),none,false⟩,[0,1,2]),(⟨some 19,.bin .sub (.t 18) (.c (.i .i64 1)),none,false⟩,[0,1,2]),(⟨some 20,.bin .shl (.t 16) (.t 19),none,false⟩,[0,1]),(⟨some 21,.mn (.c (.i .i64 1000)) [.t 20],none,false⟩,[0,1]),(⟨some 22,.bin .add (.t 15) (.t 21),none,false⟩,[]),(⟨some 4,.mv (.t 22),none,false⟩,[])]
abbrev i60c:ICode:=(.seq (.reg i60r0) (.seq (.seq (.reg i60r1) (.cond (.t 11) (.seq (.reg i60r2) .ret) .skip)) (.seq (.dreg i60r3) .ret)))
def i60:IFn:={np:=2,N:=23,ct:=[11],code:=i60c,res:=[.t 4]}
theorem i60_eq:compF Try.prog Try.f60=some i60:=by kernel_rfl
abbrev i61r0:List IOper:=[⟨some 2,.box (.t 0),none,false⟩,⟨some 4,.mv (.c (.i .i64 0)),none,false⟩]
abbrev i61r1:List IOper:=[⟨some 5,.fa 3 (.t 2),none,false⟩,⟨some 6,.ld false 1 (.t 5),none,false⟩,⟨some 7,.bin .lss (.t 6) (.c (.i .i64 6)),none,true⟩]
abbrev i61r2:List IOper:=[⟨some 8,.fa 1 (.t 2),none,false⟩,⟨some 9,.ld false 1 (.t 8),none,false⟩,⟨some 10,.bin .add (.t 9) (.c (.i .i64 2000)),none,false⟩,⟨some 4,.mv (.t 10),none,false⟩]
abbrev i61r3:List (IOper×List Nat):=[(⟨some 11,.fa 1 (.t 2),none,false⟩,[]),(⟨some 12,.ld false 1 (.t 11),none,false⟩,[]),(⟨some 13,.bin .add (.t 12) (.c (.i .i64 2000)),none,false⟩,[]),(⟨some 14,.ld true 4 (.t 2),none,false⟩,[0,1,2]),(⟨some 15,.mv (.t 1),none,false⟩,[0,1,2,3]),(⟨some 16,.call (.c (.fn 60 [])) [.t 14,.t 15],none,false⟩,[0,1,2]),(⟨some 17,.mn (.t 13) [.t 16],none,false⟩,[]),(⟨some 4,.mv (.t 17),none,false⟩,[])]
abbrev i61c:ICode:=(.seq (.reg i61r0) (.seq (.seq (.reg i61r1) (.cond (.t 7) (.seq (.reg i61r2) .ret) .skip)) (.seq (.dreg i61r3) .ret)))
def i61:IFn:={np:=2,N:=18,ct:=[7],code:=i61c,res:=[.t 4]}
theorem i61_eq:compF Try.prog Try.f61=some i61:=by kernel_rfl
abbrev i62r0:List IOper:=[⟨some 2,.box (.t 0),none,false⟩,⟨some 4,.mv (.c (.i .i64 0)),none,false⟩]
abbrev i62r1:List IOper:=[⟨some 7,.fa 3 (.t 2),none,false⟩,⟨some 8,.ld false 1 (.t 7),none,false⟩,⟨some 9,.bin .eql (.t 8) (.c (.i .i64 0)),none,true⟩]
abbrev i62r2:List IOper:=[⟨some 10,.fa 1 (.t 2),none,false⟩,⟨some 11,.ld false 1 (.t 10),none,false⟩,⟨some 4,.mv (.t 11),none,false⟩]
abbrev i62r3:List IOper:=[⟨some 12,.mv (.t 1),none,false⟩,⟨some 5,.mv (.t 12),none,false⟩]
abbrev i62r4:List IOper:=[⟨some 6,.mv (.c (.i .i64 1)),none,false⟩]
abbrev i62r5:List IOper:=[⟨some 13,.mv (.t 6),none,false⟩,⟨some 14,.fa 3 (.t 2),none,false⟩,⟨some 15,.ld false 1 (.t 14),none,false⟩,⟨some 16,.bin .lss (.t 13) (.t 15),none,true⟩]
abbrev i62r6:List IOper:=[⟨some 19,.mv (.t 5),none,false⟩,⟨some 20,.bin .mul (.c (.i .i64 2)) (.t 19),none,false⟩,⟨some 5,.mv (.t 20),none,false⟩]
abbrev i62r7:List IOper:=[⟨some 17,.mv (.t 6),none,false⟩,⟨some 18,.bin .add (.t 17) (.c (.i .i64 1)),none,false⟩,⟨some 6,.mv (.t 18),none,false⟩]
abbrev i62l8:ICode:=(.seq (.seq (.reg i62r5) (.cond (.t 16) .skip (.exit 0))) (.seq (.block 1 (.reg i62r6)) (.reg i62r7)))
abbrev i62r9:List IOper:=[⟨some 21,.fa 2 (.t 2),none,false⟩,⟨some 22,.ld false 1 (.t 21),none,false⟩,⟨some 23,.mv (.t 5),none,false⟩,⟨some 24,.mn (.c (.i .i64 1000)) [.t 23],none,false⟩,⟨some 25,.bin .add (.t 22) (.t 24),none,false⟩,⟨some 4,.mv (.t 25),none,false⟩]
abbrev i62c:ICode:=(.seq (.reg i62r0) (.seq (.seq (.reg i62r1) (.cond (.t 9) (.seq (.reg i62r2) .ret) .skip)) (.seq (.reg i62r3) (.seq (.seq (.reg i62r4) (.block 0 (.loop i62l8))) (.seq (.reg i62r9) .ret)))))
def i62:IFn:={np:=2,N:=26,ct:=[9,16],code:=i62c,res:=[.t 4]}
theorem i62_eq:compF Try.prog Try.f62=some i62:=by kernel_rfl
abbrev i64r0:List IOper:=[⟨some 4,.mv (.c (.i .i64 0)),none,false⟩]
abbrev i64r1:List IOper:=[⟨some 6,.mv (.t 0),none,false⟩,⟨some 7,.lenV (.t 6),none,false⟩,⟨some 8,.mv (.c (.i .i64 0)),none,false⟩]
abbrev i64r2:List IOper:=[⟨some 9,.bin .lss (.t 8) (.t 7),none,true⟩]
abbrev i64r3:List IOper:=[⟨some 10,.mv (.t 8),none,false⟩,⟨some 5,.mv (.t 10),none,false⟩]
abbrev i64r4:List IOper:=[⟨some 11,.mv (.t 1),none,false⟩,⟨some 12,.mv (.t 0),none,false⟩,⟨some 13,.mv (.t 5),none,false⟩,⟨some 14,.ixaV 4 (.t 12) (.t 13),none,false⟩,⟨some 15,.ld true 4 (.t 14),none,false⟩,⟨some 16,.call (.t 11) [.t 15],none,true⟩]
abbrev i64r5:List IOper:=[⟨some 17,.mv (.t 5),none,false⟩,⟨some 4,.mv (.t 17),none,false⟩]
abbrev i64r6:List IOper:=[⟨some 18,.bin .add (.t 8) (.c (.i .i64 1)),none,false⟩,⟨some 8,.mv (.t 18),none,false⟩]
abbrev i64l7:ICode:=(.seq (.reg i64r2) (.seq (.cond (.t 9) .skip (.exit 0)) (.seq (.block 1 (.seq (.reg i64r3) (.seq (.reg i64r4) (.cond (.t 16) (.seq (.reg i64r5) .ret) .skip)))) (.reg i64r6))))
abbrev i64r8:List IOper:=[⟨some 4,.mv (.c (.i .i64 (-1))),none,false⟩]
abbrev i64c:ICode:=(.seq (.reg i64r0) (.seq (.seq (.reg i64r1) (.block 0 (.loop i64l7))) (.seq (.reg i64r8) .ret)))
def i64:IFn:={np:=2,N:=19,ct:=[9,16],code:=i64c,res:=[.t 4]}
theorem i64_eq:compF Try.prog Try.f64=some i64:=by kernel_rfl
abbrev i89r0:List IOper:=[⟨some 6,.mv (.c (.i .i64 0)),none,false⟩,⟨some 7,.mv (.c (.i .i64 0)),none,false⟩]
abbrev i89r1:List IOper:=[⟨some 9,.mv (.t 2),none,false⟩,⟨some 10,.bin .lss (.t 9) (.c (.i .i64 1)),none,false⟩,⟨some 11,.mv (.t 10),none,true⟩,⟨some 12,.mv (.t 2),(some (11,false)),false⟩,⟨some 13,.bin .gtr (.t 12) (.c (.i .i64 32)),(some (11,false)),false⟩,⟨some 14,.pick (.t 11) (.c (.b true)) (.t 13),none,false⟩,⟨some 15,.mv (.t 14),none,true⟩,⟨some 16,.mv (.t 0),(some (15,false)),false⟩,⟨some 17,.bin .lss (.t 16) (.c (.i .i64 0)),(some (15,false)),false⟩,⟨some 18,.pick (.t 15) (.c (.b true)) (.t 17),none,false⟩,⟨some 19,.mv (.t 18),none,true⟩,⟨some 20,.mv (.t 0),(some (19,false)),false⟩,⟨some 21,.mv (.t 2),(some (19,false)),false⟩,⟨some 22,.bin .shr (.t 20) (.t 21),(some (19,false)),false⟩,⟨some 23,.bin .neq (.t 22) (.c (.i .i64 0)),(some (19,false)),false⟩,⟨some 24,.pick (.t 19) (.c (.b true)) (.t 23),none,false⟩,⟨some 25,.mv (.t 24),none,true⟩,⟨some 26,.mv (.t 1),(some (25,false)),false⟩,⟨some 27,.bin .lss (.t 26) (.c (.i .i64 0)),(some (25,false)),false⟩,⟨some 28,.pick (.t 25) (.c (.b true)) (.t 27),none,false⟩,⟨some 29,.mv (.t 28),none,true⟩,⟨some 30,.mv (.t 1),(some (29,false)),false⟩,⟨some 31,.mv (.t 2),(some (29,false)),false⟩,⟨some 32,.bin .shr (.t 30) (.t 31),(some (29,false)),false⟩,⟨some 33,.bin .neq (.t 32) (.c (.i .i64 0)),(some (29,false)),false⟩,⟨some 34,.pick (.t 29) (.c (.b true)) (.t 33),none,true⟩]
abbrev i89r2:List IOper:=[⟨some 6,.mv (.c (.i .i64 0)),none,false⟩,⟨some 7,.mv (.c (.i .i64 2)),none,false⟩]
abbrev i89r3:List IOper:=[⟨some 35,.mv (.t 0),none,false⟩,⟨some 36,.mv (.t 1),none,false⟩,⟨some 37,.bin .sub (.t 35) (.t 36),none,false⟩,⟨some 38,.mv (.t 2),none,false⟩,⟨some 39,.bin .shl (.c (.i .i64 1)) (.t 38),none,false⟩,⟨some 40,.bin .sub (.t 39) (.c (.i .i64 1)),none,false⟩,⟨some 41,.bin .and (.t 37) (.t 40),none,false⟩,⟨some 8,.mv (.t 41),none,false⟩]
abbrev i89r4:List IOper:=[⟨some 42,.mv (.t 8),none,false⟩,⟨some 43,.mv (.t 2),none,false⟩,⟨some 44,.bin .sub (.t 43) (.c (.i .i64 1)),none,false⟩,⟨some 45,.bin .shr (.t 42) (.t 44),none,false⟩,⟨some 46,.bin .eql (.t 45) (.c (.i .i64 1)),none,true⟩]
abbrev i89r5:List IOper:=[⟨some 47,.mv (.t 8),none,false⟩,⟨some 48,.mv (.t 2),none,false⟩,⟨some 49,.bin .shl (.c (.i .i64 1)) (.t 48),none,false⟩,⟨some 50,.bin .sub (.t 47) (.t 49),none,false⟩,⟨some 8,.mv (.t 50),none,false⟩]
abbrev i89r6:List IOper:=[⟨some 51,.mv (.t 8),none,false⟩,⟨some 6,.mv (.t 51),none,false⟩,⟨some 7,.mv (.c (.i .i64 0)),none,false⟩]
abbrev i89c:ICode:=(.seq (.reg i89r0) (.seq (.seq (.reg i89r1) (.cond (.t 34) (.seq (.reg i89r2) .ret) .skip)) (.seq (.reg i89r3) (.seq (.seq (.reg i89r4) (.cond (.t 46) (.reg i89r5) .skip)) (.seq (.reg i89r6) .ret)))))
def i89:IFn:={np:=3,N:=52,ct:=[34,46],code:=i89c,res:=[.t 6,.t 7]}
theorem i89_eq:compF Try.prog Try.f89=some i89:=by kernel_rfl
abbrev i90r0:List IOper:=[⟨some 2,.mv (.c (.i .i64 0)),none,false⟩]
abbrev i90r1:List IOper:=[⟨some 3,.mv (.c (.i .i64 1)),none,false⟩]
abbrev i90r2:List IOper:=[⟨some 4,.mv (.c (.i .i64 0)),none,false⟩]
abbrev i90r3:List IOper:=[⟨some 5,.mv (.t 4),none,false⟩,⟨some 6,.mv (.t 0),none,false⟩,⟨some 7,.bin .lss (.t 5) (.t 6),none,true⟩]
abbrev i90r4:List IOper:=[⟨some 10,.mv (.t 3),none,false⟩,⟨some 11,.bin .mul (.c (.i .i64 2)) (.t 10),none,false⟩,⟨some 3,.mv (.t 11),none,false⟩]
abbrev i90r5:List IOper:=[⟨some 8,.mv (.t 4),none,false⟩,⟨some 9,.bin .add (.t 8) (.c (.i .i64 1)),none,false⟩,⟨some 4,.mv (.t 9),none,false⟩]
abbrev i90l6:ICode:=(.seq (.seq (.reg i90r3) (.cond (.t 7) .skip (.exit 0))) (.seq (.block 1 (.reg i90r4)) (.reg i90r5)))
abbrev i90r7:List IOper:=[⟨some 12,.mv (.t 3),none,false⟩,⟨some 2,.mv (.t 12),none,false⟩]
abbrev i90c:ICode:=(.seq (.reg i90r0) (.seq (.reg i90r1) (.seq (.seq (.reg i90r2) (.block 0 (.loop i90l6))) (.seq (.reg i90r7) .ret))))
def i90:IFn:={np:=1,N:=13,ct:=[7],code:=i90c,res:=[.t 2]}
theorem i90_eq:compF Try.prog Try.f90=some i90:=by kernel_rfl
abbrev i91r0:List IOper:=[⟨some 4,.mv (.c (.i .i64 1)),none,false⟩]
abbrev i91r1:List IOper:=[⟨some 5,.mv (.t 4),none,false⟩,⟨some 6,.ld false 1 (.t 1),none,false⟩,⟨some 7,.bin .lss (.t 5) (.t 6),none,true⟩]
abbrev i91r2:List IOper:=[⟨some 10,.mv (.t 0),none,false⟩,⟨some 11,.ld false 1 (.t 2),none,false⟩,⟨some 12,.mv (.t 4),none,false⟩,⟨some 13,.bin .add (.t 11) (.t 12),none,false⟩,⟨some 14,.bin .and (.t 13) (.c (.i .i64 65535)),none,false⟩,⟨some 15,.call (.t 10) [.t 14],none,false⟩,⟨some 16,.not (.t 15),none,true⟩]
abbrev i91r3:List IOper:=[⟨some 8,.mv (.t 4),none,false⟩,⟨some 9,.bin .add (.t 8) (.c (.i .i64 1)),none,false⟩,⟨some 4,.mv (.t 9),none,false⟩]
abbrev i91l4:ICode:=(.seq (.seq (.reg i91r1) (.cond (.t 7) .skip (.exit 0))) (.seq (.block 1 (.seq (.reg i91r2) (.cond (.t 16) .ret .skip))) (.reg i91r3)))
abbrev i91c:ICode:=(.seq (.reg i91r0) (.block 0 (.loop i91l4)))
def i91:IFn:={np:=3,N:=17,ct:=[7,16],code:=i91c,res:=[]}
theorem i91_eq:compF Try.prog Try.f91=some i91:=by kernel_rfl
theorem mo:Try.prog.follows .mixedOrders=true:=by kernel_rfl
def inI (lo hi x:Int):Bool:=decide (lo<=x)&&decide (x<=hi)
theorem w49 (lo hi x:Int):FTL Try.prog 49 [.i .i64 lo,.i .i64 hi,.i .i64 x] [] 0 (.b (inI lo hi x)) [] 0:=by
 refine FTL.of_iw Sound.nil mo Try.func49 i49_eq (by simp [i49]) (iw_of_jw ?_)
 dsimp only [i49];simp (maxSteps:=400000) only [go_sem,simprocAttr];repeat' (first|refine spB_i (fun _=> ?_) (fun _=> ?_)|refine andB_i ?_ ?_)
 all_goals (refine Ends.pureE rfl (congrArg _ ?_);simp [inI] at *;try omega)
def k49:Ct
 |[.i .i64 lo,.i .i64 hi,.i .i64 x],_,n=>some (true,{v:= .b (inI lo hi x),n})
 |_,_,_=>none
theorem s49:SoundAt Try.prog 49 k49:=fun args h n c E hc ht=>by
 unfold k49 at hc;split at hc
 ·cases hc;exact CallOK.pure (by kernel_rfl) rfl rfl (w49 _ _ _) _ _
 ·cases hc
def lead (a b:Int):Int:=if (a-b) % 65536>=32768 then (a-b) % 65536-65536 else (a-b) % 65536
theorem lead_rng (a b:Int): -32768<=lead a b/\lead a b<=32767:=by unfold lead;split<;>omega
theorem w89 (x y:Int) (hx:0<=x/\x<=65535) (hy:0<=y/\y<=65535):FTL Try.prog 89 [.i .i64 x,.i .i64 y,.i .i64 16] [] 0 (.tup [.i .i64 (lead x y),.i .i64 0]) [] 0:=by
 refine FTL.of_iw Sound.nil mo Try.func89 i89_eq (by simp [i89]) (iw_of_jw ?_)
 dsimp only [i89];have f1:x.fdiv 65536=0:=by rw [Int.fdiv_eq_ediv_of_nonneg _ (by omega)];omega
 have f2:y.fdiv 65536=0:=by rw [Int.fdiv_eq_ediv_of_nonneg _ (by omega)];omega
 have c1:decide (x<0)=false:=decide_eq_false (by omega)
 have c2:decide (y<0)=false:=decide_eq_false (by omega)
 have g1:IntKind.i64.wrap (x-y)=x-y:=wrapL (by omega) (by omega)
 have g2:IntKind.i64.wrap 65536=65536:=rfl;have g3:IntKind.i64.wrap 65535=65535:=rfl;have g4:((x-y) % 65536).fdiv 32768=(x-y) % 65536/32768:=Int.fdiv_eq_ediv_of_nonneg _ (by omega)
 have g5:IntKind.i64.wrap ((x-y) % 65536-65536)=(x-y) % 65536-65536:=wrapL (by omega) (by omega)
 simp (maxSteps:=400000) only [go_sem,f1,f2,c1,c2,g1,g2,g3,and16,g4,g5,simprocAttr];repeat' (first|refine spB_i (fun _=> ?_) (fun _=> ?_)|refine andB_i ?_ ?_)
 all_goals first
  |(refine Ends.pureE rfl ?_
    simp only [lead]
    grind)
  |rfl
def k89:Ct
 |[.i .i64 x,.i .i64 y,.i .i64 16],_,n=>some (inI 0 65535 x&&inI 0 65535 y,{v:= .tup [.i .i64 (lead x y),.i .i64 0],n})
 |_,_,_=>none
theorem inI_t {lo hi x:Int} (h:inI lo hi x=true):lo<=x/\x<=hi:=by simpa [inI] using h
theorem inI_of {lo hi x:Int} (h:lo<=x/\x<=hi):inI lo hi x=true:=by simpa [inI] using h
theorem s89:SoundAt Try.prog 89 k89:=fun args h n c E hc ht=>by
 unfold k89 at hc;split at hc
 ·cases hc;simp only [Bool.and_eq_true] at ht;exact CallOK.pure (by kernel_rfl) rfl rfl (w89 _ _ (inI_t ht.1) (inI_t ht.2)) _ _
 ·cases hc
def T1:List (Nat×Ct):=[(89,k89)]
theorem hT1:Sound Try.prog (cxT T1):=Sound.cons s89 Sound.nil
theorem w51 (x y:Int) (hx:inI 0 65535 x=true) (hy:inI 0 65535 y=true):FTL Try.prog 51 [.i .i64 x,.i .i64 y] [] 0 (.i .i64 (lead x y)) [] 0:=by
 refine FTL.of_iw hT1 mo Try.func51 i51_eq (by simp [i51]) (iw_of_jw ?_)
 dsimp only [i51,T1];simp (maxSteps:=400000) only [go_sem,k89,hx,hy,simprocAttr];exact Ends.pureE rfl rfl
def k51:Ct
 |[.i .i64 x,.i .i64 y],_,n=>some (inI 0 65535 x&&inI 0 65535 y,{v:= .i .i64 (lead x y),n})
 |_,_,_=>none
theorem s51:SoundAt Try.prog 51 k51:=fun args h n c E hc ht=>by
 unfold k51 at hc;split at hc
 ·cases hc;simp only [Bool.and_eq_true] at ht;exact CallOK.pure (by kernel_rfl) rfl rfl (w51 _ _ ht.1 ht.2) _ _
 ·cases hc
/-! the reference's -/
theorem w90_15:FTL Try.prog 90 [.i .i64 15] [] 0 (.i .i64 32768) [] 0:=
 FTL.of_val (T:=[]) 100 mo .nil Try.func90 i90_eq (by kernel_rfl) rfl
theorem w90_16:FTL Try.prog 90 [.i .i64 16] [] 0 (.i .i64 65536) [] 0:=
 FTL.of_val (T:=[]) 100 mo .nil Try.func90 i90_eq (by kernel_rfl) rfl
def k90:Ct
 |[.i .i64 15],_,n=>some (true,{v:= .i .i64 32768,n})
 |[.i .i64 16],_,n=>some (true,{v:= .i .i64 65536,n})
 |_,_,_=>none
theorem s90:SoundAt Try.prog 90 k90:=fun args h n c E hc ht=>by
 unfold k90 at hc;split at hc
 ·cases hc;exact CallOK.pure (by kernel_rfl) rfl rfl w90_15 _ _
 ·cases hc;exact CallOK.pure (by kernel_rfl) rfl rfl w90_16 _ _
 ·cases hc
def T2:List (Nat×Ct):=[(90,k90)]
theorem hT2:Sound Try.prog (cxT T2):=Sound.cons s90 Sound.nil
theorem w53 (x y:Int) (hx:inI 0 65535 x=true) (hy:inI 0 65535 y=true):FTL Try.prog 53 [.i .i64 x,.i .i64 y,.i .i64 16] [] 0 (.i .i64 (lead x y)) [] 0:=by
 refine FTL.of_iw hT2 mo Try.func53 i53_eq (by simp [i53]) (iw_of_jw ?_)
 dsimp only [i53,T2];have hx:=inI_t hx;have hy:=inI_t hy;have g1:IntKind.i64.wrap (x-y)=x-y:=wrapL (by omega) (by omega)
 have g2:IntKind.i64.wrap (-32768)= -32768:=rfl;have g3:IntKind.i64.wrap (x-y+65536)=x-y+65536:=wrapL (by omega) (by omega)
 have g4:IntKind.i64.wrap (x-y-65536)=x-y-65536:=wrapL (by omega) (by omega)
 have g5:IntKind.i64.wrap (x-y+65536-65536)=x-y+65536-65536:=wrapL (by omega) (by omega)
 simp (maxSteps:=400000) only [go_sem,k90,g1,g2,g3,g4,g5,simprocAttr];repeat' (first|refine spB_i (fun _=> ?_) (fun _=> ?_)|refine andB_i ?_ ?_)
 all_goals
  refine Ends.pureE rfl ?_;simp only [lead]
  grind
def k53:Ct
 |[.i .i64 x,.i .i64 y,.i .i64 16],_,n=>some (inI 0 65535 x&&inI 0 65535 y,{v:= .i .i64 (lead x y),n})
 |_,_,_=>none
theorem s53:SoundAt Try.prog 53 k53:=fun args h n c E hc ht=>by
 unfold k53 at hc;split at hc
 ·cases hc;simp only [Bool.and_eq_true] at ht;exact CallOK.pure (by kernel_rfl) rfl rfl (w53 _ _ ht.1 ht.2) _ _
 ·cases hc
theorem w52 (x y:Int):FTL Try.prog 52 [.i .i64 x,.i .i64 y] [] 0 (.b (inI y 1099511627776 x)) [] 0:=by
 refine FTL.of_iw Sound.nil mo Try.func52 i52_eq (by simp [i52]) (iw_of_jw ?_)
 dsimp only [i52];simp (maxSteps:=400000) only [go_sem,simprocAttr];repeat' (first|refine spB_i (fun _=> ?_) (fun _=> ?_)|refine andB_i ?_ ?_)
 all_goals (refine Ends.pureE rfl (congrArg _ ?_);simp [inI] at *;try omega)
def k52:Ct
 |[.i .i64 x,.i .i64 y],_,n=>some (true,{v:= .b (inI y 1099511627776 x),n})
 |_,_,_=>none
theorem s52:SoundAt Try.prog 52 k52:=fun args h n c E hc ht=>by
 unfold k52 at hc;split at hc
 ·cases hc;exact CallOK.pure (by kernel_rfl) rfl rfl (w52 _ _) _ _
 ·cases hc
/-! wants -/
structure Wt where
 sq:Int
 fd:Int
 ak:Int
 tr:Int
def Wt.l (x:Wt):List AV:=[.i .i64 x.sq,.i .i64 x.fd,.i .i64 x.ak,.i .i64 x.tr]
theorem Wt.len (x:Wt):x.l.length=4:=rfl
theorem Wt.bel (x:Wt):belL 0 x.l=true:=rfl
theorem Wt.one (x:Wt):oneAll x.l=true:=rfl
def wt4:List AV->Option Wt
 |[.i .i64 a,.i .i64 b,.i .i64 c,.i .i64 d]=>some ⟨a,b,c,d⟩
 |_=>none
theorem wt4_l (x:Wt):wt4 x.l=some x:=rfl
theorem wt4_eq {c:List AV} {x:Wt} (h:wt4 c=some x):c=x.l:=by
 unfold wt4 at h;split at h
 ·cases h;rfl
 ·cases h
def wantB (x:Wt) (at_:Int):Bool:=inI 0 65535 x.sq&&inI 0 at_ x.fd&&inI 0 6 x.tr&&(if x.tr==0 then x.ak==0 else inI x.fd at_ x.ak)
def T3:List (Nat×Ct):=[(49,k49)]
theorem hT3:Sound Try.prog (cxT T3):=Sound.cons s49 Sound.nil
theorem w50 (x:Wt) (at_:Int):FTL Try.prog 50 [.agg x.l,.i .i64 at_] [] 0 (.b (wantB x at_)) [] 0:=by
 obtain ⟨sq,fd,ak,tr⟩:=x;refine FTL.of_iw hT3 mo Try.func50 i50_eq (by simp [i50]) (iw_of_jw ?_)
 dsimp only [i50,T3];cases h1:inI 0 65535 sq
 ·simp (maxSteps:=400000) only [go_sem,k49,h1,Wt.l,simprocAttr];exact Ends.pureE rfl (by simp [wantB,h1])
 cases h2:inI 0 at_ fd
 ·simp (maxSteps:=400000) only [go_sem,k49,h1,h2,Wt.l,simprocAttr];exact Ends.pureE rfl (by simp [wantB,h1,h2])
 cases h3:inI 0 6 tr
 ·simp (maxSteps:=400000) only [go_sem,k49,h1,h2,h3,Wt.l,simprocAttr];exact Ends.pureE rfl (by simp [wantB,h1,h2,h3])
 have h3':=inI_t h3;cases h4:tr==0
 ·have h5:decide (tr>0)=true:=decide_eq_true (by have:=beq_eq_false_iff_ne.1 h4;omega)
  simp (maxSteps:=400000) only [go_sem,k49,h1,h2,h3,h4,h5,Wt.l,simprocAttr];exact Ends.pureE rfl (by simp [wantB,h1,h2,h3,h4])
 ·have h5:decide (tr>0)=false:=decide_eq_false (by have:=beq_iff_eq.1 h4;omega)
  cases h6:ak==0
  ·simp (maxSteps:=400000) only [go_sem,k49,h1,h2,h3,h4,h5,h6,Wt.l,simprocAttr];exact Ends.pureE rfl (by simp only [wantB,h1,h2,h3,h4,h6];rfl)
  ·simp (maxSteps:=400000) only [go_sem,k49,h1,h2,h3,h4,h5,h6,Wt.l,simprocAttr];exact Ends.pureE rfl (by simp only [wantB,h1,h2,h3,h4,h6];rfl)
def k50:Ct
 |[.agg x,.i .i64 at_],_,n=>(wt4 x).bind fun x=>some (true,{v:= .b (wantB x at_),n})
 |_,_,_=>none
theorem s50:SoundAt Try.prog 50 k50:=fun args h n c E hc ht=>by
 unfold k50 at hc;split at hc
 ·simp only [Option.bind_eq_some_iff] at hc;obtain ⟨x,hx,he⟩:=hc;cases he;rw [wt4_eq hx];exact CallOK.pure (by kernel_rfl) rfl rfl (w50 _ _) _ _
 ·cases hc
def TT:Int:=1099511627776
def okX (x:Wt):Bool:=inI 0 1099511627776 x.fd&&inI 0 1099511627776 x.ak&&inI 0 6 x.tr&&(x.tr==0||true)&&(!(x.tr==0)||x.ak==0)
def pw (t:Int):Int:=if t==1 then 1 else if t==2 then 2 else if t==3 then 4 else if t==4 then 8 else if t==5 then 16 else 32
def dueS (x:Wt) (trip:Int):Int:=if x.tr==0 then x.fd else x.ak+min 1000 (trip*pw x.tr)
def endS (x:Wt) (trip:Int):Int:=if x.tr==6 then min (x.fd+2000) (dueS x trip) else x.fd+2000
theorem six {t:Int} (h:inI 0 6 t=true):t=0\/t=1\/t=2\/t=3\/t=4\/t=5\/t=6:=by have:=inI_t h;omega
theorem due_rng {x:Wt} {trip:Int} (hx:okX x=true) (ht:1<=trip/\trip<=2000):0<=dueS x trip/\dueS x trip<=1099511628776:=by
 simp only [okX,Bool.and_eq_true] at hx;obtain ⟨⟨⟨⟨h1,h2⟩,h3⟩,_⟩,h4⟩:=hx;have h1:=inI_t h1;have h2:=inI_t h2;have:1<=pw x.tr:=by unfold pw;grind
 have h5:1<=trip*pw x.tr:=by
  have:=Int.mul_le_mul ht.1 this (by omega) (by omega)
  simpa using this
 unfold dueS;split<;>omega
theorem w60 (x:Wt) (trip:Int) (hx:okX x=true) (ht:1<=trip/\trip<=2000):FTL Try.prog 60 [.agg x.l,.i .i64 trip] [] 0 (.i .i64 (dueS x trip)) [] 0:=by
 obtain ⟨sq,fd,ak,tr⟩:=x;simp only [okX,Bool.and_eq_true] at hx;obtain ⟨⟨⟨⟨h1,h2⟩,h3⟩,_⟩,h4⟩:=hx;try dsimp only at h1 h2 h3 h4
 have h1:=inI_t h1;have h2:=inI_t h2;refine FTL.of_iw Sound.nil mo Try.func60 i60_eq (by simp [i60]) (iw_of_jw ?_)
 dsimp only [i60];have m2:IntKind.i64.wrap (trip*1)=trip*1:=wrapL (by omega) (by omega)
 have m3:IntKind.i64.wrap (trip*2)=trip*2:=wrapL (by omega) (by omega)
 have m4:IntKind.i64.wrap (trip*4)=trip*4:=wrapL (by omega) (by omega)
 have m5:IntKind.i64.wrap (trip*8)=trip*8:=wrapL (by omega) (by omega)
 have m6:IntKind.i64.wrap (trip*16)=trip*16:=wrapL (by omega) (by omega)
 have m7:IntKind.i64.wrap (trip*32)=trip*32:=wrapL (by omega) (by omega)
 have mm: ∀k:Int,1<=k->IntKind.i64.wrap (ak+min 1000 (trip*k))=ak+min 1000 (trip*k):=fun k hk=>by
  have h5:1<=trip*k:=by
   have:=Int.mul_le_mul ht.1 hk (by omega) (by omega)
   simpa using this
  exact wrapL (by omega) (by omega)
 have n1:=mm 1 (by omega)
 have n2:=mm 2 (by omega)
 have n3:=mm 4 (by omega)
 have n4:=mm 8 (by omega)
 have n5:=mm 16 (by omega)
 have n6:=mm 32 (by omega)
 rcases six h3 with rfl|rfl|rfl|rfl|rfl|rfl|rfl
 ·have h5:ak=0:=by simpa using h4
  subst h5;simp (maxSteps:=400000) only [go_sem,Wt.l,simprocAttr];exact Ends.pureE rfl rfl
 all_goals
  simp (maxSteps:=400000) only [go_sem,Wt.l,m2,m3,m4,m5,m6,m7,n1,n2,n3,n4,n5,n6,simprocAttr];exact Ends.pureE rfl (by simp [dueS,pw])
def k60:Ct
 |[.agg x,.i .i64 trip],_,n=>(wt4 x).bind fun x=>some (okX x&&inI 1 2000 trip,{v:= .i .i64 (dueS x trip),n})
 |_,_,_=>none
theorem s60:SoundAt Try.prog 60 k60:=fun args h n c E hc ht=>by
 unfold k60 at hc;split at hc
 ·simp only [Option.bind_eq_some_iff] at hc;obtain ⟨x,hx,he⟩:=hc;cases he;rw [wt4_eq hx];simp only [Bool.and_eq_true] at ht;exact CallOK.pure (by kernel_rfl) rfl rfl (w60 _ _ ht.1 (inI_t ht.2)) _ _
 ·cases hc
theorem loop62 (x:Wt) (trip:Int) (ht:1<=trip/\trip<=2000) (hx:okX x=true) (hn: ¬x.tr=0):FTL Try.prog 62 [.agg x.l,.i .i64 trip] [] 0 (.i .i64 (dueS x trip)) [] 0:=by
 obtain ⟨sq,fd,ak,tr⟩:=x;simp only [okX,Bool.and_eq_true] at hx;obtain ⟨⟨⟨⟨h1,h2⟩,h3⟩,_⟩,h4⟩:=hx;try dsimp only at h1 h2 h3 h4 hn
 have h1:=inI_t h1;have h2:=inI_t h2;refine FTL.of_iw Sound.nil mo Try.func62 i62_eq (by simp [i62]) (iw_of_jw ?_)
 dsimp only [i62];have m3:IntKind.i64.wrap (2*trip)=2*trip:=wrapL (by omega) (by omega)
 have m4:IntKind.i64.wrap (2*(2*trip))=2*(2*trip):=wrapL (by omega) (by omega)
 have m5:IntKind.i64.wrap (2*(2*(2*trip)))=2*(2*(2*trip)):=wrapL (by omega) (by omega)
 have m6:IntKind.i64.wrap (2*(2*(2*(2*trip))))=2*(2*(2*(2*trip))):=wrapL (by omega) (by omega)
 have m7:IntKind.i64.wrap (2*(2*(2*(2*(2*trip)))))=2*(2*(2*(2*(2*trip)))):=wrapL (by omega) (by omega)
 have mm: ∀k:Int,1<=k->IntKind.i64.wrap (ak+min 1000 k)=ak+min 1000 k:=fun k hk=>wrapL (by omega) (by omega)
 have n1:=mm trip (by omega)
 have n2:=mm (2*trip) (by omega)
 have n3:=mm (2*(2*trip)) (by omega)
 have n4:=mm (2*(2*(2*trip))) (by omega)
 have n5:=mm (2*(2*(2*(2*trip)))) (by omega)
 have n6:=mm (2*(2*(2*(2*(2*trip))))) (by omega)
 rcases six h3 with rfl|rfl|rfl|rfl|rfl|rfl|rfl
 ·exact absurd rfl hn
 all_goals
  simp (maxSteps:=400000) only [go_sem,Wt.l,simprocAttr];refine Loop.rounds (F:=⟨Try.prog,cxT [],[9,16],26,0⟩) 7 Sound.nil mo ?_;simp (maxSteps:=400000) only [go_sem,Wt.l,m3,m4,m5,m6,m7,n1,n2,n3,n4,n5,n6,simprocAttr];exact Ends.pureE rfl (by simp [dueS,pw];try omega)
theorem w62 (x:Wt) (trip:Int) (hx:okX x=true) (ht:1<=trip/\trip<=2000):FTL Try.prog 62 [.agg x.l,.i .i64 trip] [] 0 (.i .i64 (dueS x trip)) [] 0:=by
 by_cases hn:x.tr=0
 ·obtain ⟨sq,fd,ak,tr⟩:=x;dsimp only at hn;subst hn;refine FTL.of_iw Sound.nil mo Try.func62 i62_eq (by simp [i62]) (iw_of_jw ?_)
  dsimp only [i62];simp (maxSteps:=400000) only [go_sem,Wt.l,simprocAttr];exact Ends.pureE rfl rfl
 ·exact loop62 x trip ht hx hn
def k62:Ct
 |[.agg x,.i .i64 trip],_,n=>(wt4 x).bind fun x=>some (okX x&&inI 1 2000 trip,{v:= .i .i64 (dueS x trip),n})
 |_,_,_=>none
theorem s62:SoundAt Try.prog 62 k62:=fun args h n c E hc ht=>by
 unfold k62 at hc;split at hc
 ·simp only [Option.bind_eq_some_iff] at hc;obtain ⟨x,hx,he⟩:=hc;cases he;rw [wt4_eq hx];simp only [Bool.and_eq_true] at ht;exact CallOK.pure (by kernel_rfl) rfl rfl (w62 _ _ ht.1 (inI_t ht.2)) _ _
 ·cases hc
def T4:List (Nat×Ct):=[(60,k60),(62,k62)]
theorem hT4:Sound Try.prog (cxT T4):=Sound.cons s60 (Sound.cons s62 Sound.nil)
theorem w61 (x:Wt) (trip:Int) (hx:okX x=true) (ht:1<=trip/\trip<=2000):FTL Try.prog 61 [.agg x.l,.i .i64 trip] [] 0 (.i .i64 (endS x trip)) [] 0:=by
 have hd:=due_rng hx ht;have hx':=hx;have ht':=inI_of ht;have hE:endS x trip=if x.tr==6 then min (x.fd+2000) (dueS x trip) else x.fd+2000:=rfl
 generalize hD:dueS x trip=D at*;have hk: ∀(h:Hp) n,k60 [.agg x.l,.i .i64 trip] h n=some (true,{v:= .i .i64 D,n}):=fun h n=>by
  simp only [k60,wt4_l,Option.bind_some,hx,ht',hD,Bool.and_self]
 rw [hE];obtain ⟨sq,fd,ak,tr⟩:=x;simp only [okX,Bool.and_eq_true] at hx;obtain ⟨⟨⟨⟨h1,h2⟩,h3⟩,_⟩,h4⟩:=hx;try dsimp only at h1 h2 h3 h4 ⊢
 have h1:=inI_t h1;have h3:=inI_t h3;simp only [Wt.l] at hk;refine FTL.of_iw hT4 mo Try.func61 i61_eq (by simp [i61]) (iw_of_jw ?_)
 dsimp only [i61,T4];have m1:IntKind.i64.wrap (fd+2000)=fd+2000:=wrapL (by omega) (by omega)
 cases h6:decide (tr<6)
 ·have h7:(tr==6)=true:=beq_iff_eq.2 (by have:=of_decide_eq_false h6;omega)
  simp (maxSteps:=400000) only [go_sem,Wt.l,h6,m1,hk,h7,simprocAttr];exact Ends.pureE rfl rfl
 ·have h7:(tr==6)=false:=beq_eq_false_iff_ne.2 (by have:=of_decide_eq_true h6;omega)
  simp (maxSteps:=400000) only [go_sem,Wt.l,h6,m1,hk,h7,simprocAttr];exact Ends.pureE rfl (by rfl)
def k61:Ct
 |[.agg x,.i .i64 trip],_,n=>(wt4 x).bind fun x=>some (okX x&&inI 1 2000 trip,{v:= .i .i64 (endS x trip),n})
 |_,_,_=>none
theorem s61:SoundAt Try.prog 61 k61:=fun args h n c E hc ht=>by
 unfold k61 at hc;split at hc
 ·simp only [Option.bind_eq_some_iff] at hc;obtain ⟨x,hx,he⟩:=hc;cases he;rw [wt4_eq hx];simp only [Bool.and_eq_true] at ht;exact CallOK.pure (by kernel_rfl) rfl rfl (w61 _ _ ht.1 (inI_t ht.2)) _ _
 ·cases hc
structure Ws where
 ti:Int
 st:Bool
 tp:Int
 l:List Wt
def Ws.a (w:Ws):List AV:=[.i .i64 w.ti,.b w.st,.i .i64 w.tp,.fz (rows Wt.l w.l) w.l.length]
theorem Ws.bel (w:Ws):belL 0 w.a=true:=by simp only [Ws.a,belL,AV.bel,rows_bel Wt.bel,Bool.and_self]
def headB (w:Ws):Bool:=inI 0 TT w.ti&&(inI 0 65535 w.tp&&(decide (w.l.length<=64)&&(w.st||(w.tp==0&&w.l.length==0))))
def chk (at_ tp:Int):Int->List Wt->Bool
 |_,[]=>true
 |last,x::r=>wantB x at_&&(inI (last+1) (-1) (lead x.sq tp)&&chk at_ tp (lead x.sq tp) r)
def goodB (w:Ws):Bool:=headB w&&chk w.ti w.tp (-1001) w.l
def lst (tp:Int) (l:List Wt):Nat->Int
 |0=> -1001
 |k+1=>match l[k]? with
  |some x=>lead x.sq tp
  |none=>0
theorem lst_rng (tp:Int) (l:List Wt) (k:Nat): -32768<=lst tp l k/\lst tp l k<=32767:=by
 unfold lst;split
 ·omega
 ·split
  ·exact lead_rng _ _
  ·omega
theorem wt_at {l:List Wt} {k:Nat} {x:Wt} (h:l[k]? =some x):List.take 4 (List.drop (k*4) (rows Wt.l l))=x.l:=rows_at Wt.len h
theorem headB_t {w:Ws} (h:headB w=true):(0<=w.ti/\w.ti<=1099511627776)/\inI 0 65535 w.tp=true/\w.l.length<=64:=by
 simp only [headB,Bool.and_eq_true,decide_eq_true_eq] at h;exact ⟨inI_t h.1,h.2.1,h.2.2.1⟩
theorem wantB_sq {x:Wt} {t:Int} (h:wantB x t=true):inI 0 65535 x.sq=true:=by
 simp only [wantB,Bool.and_eq_true] at h;exact h.1.1.1
theorem wantB_ok {x:Wt} {t:Int} (h:wantB x t=true) (ht:t<=1099511627776):okX x=true:=by
 simp only [wantB,Bool.and_eq_true] at h;obtain ⟨⟨⟨_,h2⟩,h3⟩,h4⟩:=h;have h2':=inI_t h2;simp only [okX,h3,Bool.or_true,Bool.and_true];rw [inI_of (by omega)]
 cases ht0:x.tr==0
 ·rw [ht0] at h4;simp only [Bool.false_eq_true,if_false] at h4;have:=inI_t h4;rw [inI_of (by omega)];rfl
 ·rw [ht0] at h4;simp only [if_true] at h4;have:=beq_iff_eq.1 h4;rw [this];rfl
def T5:List (Nat×Ct):=[(49,k49),(50,k50),(51,k51)]
theorem hT5:Sound Try.prog (cxT T5):=Sound.cons s49 (Sound.cons s50 (Sound.cons s51 Sound.nil))
theorem loop11 (w:Ws) (hl:w.l.length<=1000000000000) {K:Kont} {e:Env} {h:Hp} {n:Nat}
 (he:EnvIn 1 e [(1,.p 0 0),(3,.b (headB w)),(4,.i .i64 (-1001)),(37,.fz (rows Wt.l w.l) w.l.length),(38,.i .i64 (w.l.length:Int)),(39,.i .i64 0)]) (hh:HpIn 1 h [(0,{cells:=w.a})])
 (hK0: ∀e' h' n',eget e' 3=some (.b (headB w))->(headB w=true->goodB w=true)->K (.exit 0) e' h' n')
 (hKr: ∀e' h' n',eget e' 2=some (.i .i64 280)->goodB w=false->K .ret e' h' n'):Ab.Loop Try.prog [40,62,70] 71 0 i11l10 K e h n:=by
 obtain ⟨ti,st,tp,l⟩:=w;have hgd:goodB ⟨ti,st,tp,l⟩=(headB ⟨ti,st,tp,l⟩&&chk ti tp (-1001) l):=rfl;have hhd:=headB_t (w:=⟨ti,st,tp,l⟩);generalize headB ⟨ti,st,tp,l⟩=ok at he hK0 hgd hhd;generalize goodB ⟨ti,st,tp,l⟩=gd at hK0 hKr hgd;have hLb:belL 1 (rows Wt.l l)=true:=belL_mono0 _ (rows_bel Wt.bel);simp only [Ws.a] at he hh hl hhd ⊢;refine Loop.countI (F:=⟨Try.prog,cxT T5,[40,62,70],71,0⟩) hT5 mo l.length (fun k=>chk ti tp (-1001) l=chk ti tp (lst tp l k) (l.drop k))
  (fun k=>[(1,.p 0 0),(3,.b ok),(4,.i .i64 (lst tp l k)),(37,.fz (rows Wt.l l) l.length),(38,.i .i64 (l.length:Int)),(39,.i .i64 (k:Int))])
  (fun k=>[(0,{cells:=[.i .i64 ti,.b st,.i .i64 tp,.fz (rows Wt.l l) l.length]})]) 1 (by decide) rfl he hh (fun k hk hinv=> ?_)
 dsimp only [T5];by_cases hlt:k<l.length
 ·have c1:decide ((k:Int)<(l.length:Int))=true:=decide_eq_true (by omega)
  have c2:decide (0<=(k:Int)/\(k:Int)<(l.length:Int))=true:=decide_eq_true (by omega)
  have hw:IntKind.i64.wrap ((k:Int)+1)=((k+1:Nat):Int):=by rw [wrapL (by omega) (by omega)];omega
  obtain ⟨x,hx⟩: ∃x,l[k]? =some x:=⟨_,List.getElem?_eq_getElem hlt⟩;have hr:=wt_at hx;have hdr:l.drop k=x::l.drop (k+1):=by
   rw [List.drop_eq_getElem_cons hlt];rw [List.getElem?_eq_getElem hlt] at hx;cases hx;rfl
  have hls:lst tp l (k+1)=lead x.sq tp:=by simp only [lst,hx]
  have hrg:=lst_rng tp l k;have hw1:IntKind.i64.wrap (lst tp l k+1)=lst tp l k+1:=wrapL (by omega) (by omega)
  rw [hdr] at hinv;simp only [chk] at hinv;cases ok
  ·simp (maxSteps:=400000) only [go_sem,c1,c2,hr,Wt.l,simprocAttr];exact hKr _ _ _ rfl (by rw [hgd];rfl)
  ·have ht:=(hhd rfl).2.1;cases h1:wantB x ti
   ·have hf:gd=false:=by rw [hgd,hinv,h1];rfl
    obtain ⟨sq,fd,ak,tr⟩:=x;simp (maxSteps:=400000) only [go_sem,c1,c2,hr,Wt.l,k50,wt4,h1,simprocAttr];exact hKr _ _ _ rfl hf
   ·have hsq:=wantB_sq h1;cases h2:inI (lst tp l k+1) (-1) (lead x.sq tp)
    ·have hf:gd=false:=by rw [hgd,hinv,h1,h2];rfl
     obtain ⟨sq,fd,ak,tr⟩:=x;simp (maxSteps:=400000) only [go_sem,c1,c2,hr,Wt.l,k50,wt4,h1,k51,hsq,ht,k49,hw1,h2,simprocAttr];exact hKr _ _ _ rfl hf
    ·have hn:chk ti tp (-1001) l=chk ti tp (lst tp l (k+1)) (l.drop (k+1)):=by rw [hinv,h1,h2,hls];rfl
     rw [hls] at hn ⊢;obtain ⟨sq,fd,ak,tr⟩:=x;simp (maxSteps:=400000) only [go_sem,c1,c2,hr,Wt.l,k50,wt4,h1,k51,hsq,ht,k49,hw1,h2,hw,hlt,AV.bel,belL,nblt,hLb,simprocAttr];exact hn
 ·have c1:decide ((k:Int)<(l.length:Int))=false:=decide_eq_false (by omega)
  obtain rfl:k=l.length:=by omega
  rw [List.drop_length] at hinv;simp (maxSteps:=400000) only [go_sem,c1,simprocAttr];exact hK0 _ _ _ rfl (fun ho=>by rw [hgd,ho,hinv];rfl)
theorem w11 (w:Ws) (hl:w.l.length<=1000000000000):FTL Try.prog 11 [.agg w.a] [] 0 (.i .i64 (if goodB w then 0 else 280)) [] 0:=by
 have loop:=fun {K:Kont} {e:Env} {h:Hp} {n:Nat}=>loop11 w hl (K:=K) (e:=e) (h:=h) (n:=n);have hgf:headB w=false->goodB w=false:=fun h=>by simp [goodB,h]
 have hhd:headB w=(inI 0 TT w.ti&&(inI 0 65535 w.tp&&(decide (w.l.length<=64)&&(w.st||(w.tp==0&&w.l.length==0))))):=rfl;generalize hg:goodB w=gd at loop hgf ⊢;generalize headB w=hd at loop hgf hhd ⊢;obtain ⟨ti,st,tp,l⟩:=w;simp only [TT] at hhd;simp only [Ws.a] at loop hhd ⊢;have n1:decide ((l.length:Int)<=64)=decide (l.length<=64):=decide_eq_decide.2 (by omega)
 have n2:((l.length:Int)==0)=(l.length==0):=by rw [Bool.eq_iff_iff];simp
 have hLb:belL 1 (rows Wt.l l)=true:=belL_mono0 _ (rows_bel Wt.bel);refine FTL.of_iw hT5 mo Try.func11 i11_eq (by simp [i11]) (iw_of_jw ?_)
 dsimp only [i11,T5];have fin: ∀(b:Bool),hd=b->(b=true\/b=false):=fun b _=>by cases b<;>simp
 cases a1:inI 0 1099511627776 ti<;>cases a2:inI 0 65535 tp<;>cases a3:decide (l.length<=64)<;>cases st<;>cases a5:(tp==0)<;>cases a6:(l.length==0);all_goals
  (simp only [a1,a2,a3,a5,a6,Bool.and_true,Bool.and_false,Bool.true_and,Bool.false_and,Bool.or_true,Bool.true_or,Bool.or_false,Bool.false_or] at hhd
   subst hhd;simp (maxSteps:=400000) only [go_sem,k49,a1,a2,a3,a5,a6,n1,n2,simprocAttr];refine loop ?_ ?_ (fun e' h' n' q1 q2=> ?_) (fun e' h' n' q1 q2=> ?_)
   ·simp (maxSteps:=400000) only [go_sem,AV.bel,belL,nblt,hLb,simprocAttr]
   ·simp (maxSteps:=400000) only [go_sem,AV.bel,belL,nblt,hLb,simprocAttr]
   ·simp (maxSteps:=400000) only [go_sem,q1,simprocAttr];first
     |exact Ends.pureE rfl (by rw [q2 rfl];rfl)
     |exact Ends.pureE rfl (by rw [hgf rfl];rfl)
   ·simp (maxSteps:=400000) only [go_sem,q1,simprocAttr];exact Ends.pureE rfl (by rw [q2];rfl))
end Go.Proofs.Res
