/- Texts laid as one: FlzC10 FlzShelf FlzC11 FlzC12 FlzC13 FlzC14 FlzSort FlzC15 FltSort FlzC16 FltGot FlzC17 FlzC18 FlzC19 FlzC20 FlzC2 FlzC3 FlzC4 FlzC21. -/
import Derived.Test.YtlokbfkdgnopeaaGreatDoorX6
import Derived.Shelf.Strings.Builder1
import Derived.Shelf.Strings.Builder2
import Derived.Shelf.Strings.Trim
import Derived.Shelf.Strings.BuilderF
import Derived.Shelf.Strings.Prefix
import Derived.Shelf.Bits.Mul64
import Derived.Shelf.Strings.Repeat
import Derived.Test.YtlokbfkdgnopeaaGreatDoorProg
import Derived.Shelf.SlSortCmp.WholeK
import Derived.Shelf.SlicesG.Cmp
set_option maxRecDepth 100000
set_option maxHeartbeats 4000000
set_option linter.unusedSimpArgs false
set_option linter.unusedVariables false
namespace Go.Proofs.Flz
open Go.Ab Go.Proofs.Flt
theorem grB (j:Nat) (l:List (Int×Int)):belL j (rows gp l)=true:=belL_mono0 _ (rows_bel gp_bel)
theorem grR (ψ:Nat->Nat) (l:List (Int×Int)):renL ψ (rows gp l)=rows gp l:=renL_fix0 _ (rows_bel gp_bel)
def oneG (ln:Int) (got:List (Int×Int)):Bool:=match got with
 |[x]=>(x.1==0)&&(x.2==ln)
 |_=>false
theorem w56 (h:Flt.Hf) (hl:h.got.length<=9223372036854775807):FTL Tryz.prog 56 [.agg h.l] [] 0 (.b (doneB h)) [] 0:=by
 obtain ⟨kd,ln,sq,bd,got⟩:=h;refine FTL.of_iw (cx:=cxT []) Sound.nil mo Tryz.func56 i56_eq (by simp [i56]) (iw_of_jw ?_)
 dsimp only [i56];have hb:=fun j=>grB j got;cases a:(ln==0);rotate_left
 ·have:doneB ⟨kd,ln,sq,bd,got⟩=true:=by simp only [doneB,a,Bool.true_or]
  rw [this];simp only [go_sem,Flt.Hf.l,a,AV.bel,belL,nblt,hb,simprocAttr];exact Ends.pureE rfl rfl
 have hD:doneB ⟨kd,ln,sq,bd,got⟩=oneG ln got:=by
  unfold doneB oneG;dsimp only;rw [a,Bool.false_or]
  match got with
  |[]=>rfl
  |[_]=>rfl
  |_::_::_=>rfl
 rw [hD];clear hD;cases got with
 |nil=>
  have c:(((0:Nat):Int)==1)=false:=rfl;have c2:((0:Int)==1)=false:=rfl;simp only [go_sem,Flt.Hf.l,a,c,c2,AV.bel,belL,nblt,hb,List.length_nil,simprocAttr];exact Ends.pureE rfl rfl
 |cons x r=>
  cases r with
  |nil=>
   have c:(((1:Nat):Int)==1)=true:=rfl;have c2:((1:Int)==1)=true:=rfl;have c3:decide ((0:Int)<((1:Nat):Int))=true:=rfl;have c4:decide ((0:Int)<(1:Int))=true:=rfl;obtain ⟨x1,x2⟩:=x;have hO:oneG ln [(x1,x2)]=((x1==0)&&(x2==ln)):=rfl;rw [hO];simp only [go_sem,Flt.Hf.l,a,c,c2,c3,c4,AV.bel,belL,nblt,hb,rows_cons,rows_nil,gp,List.length_singleton,simprocAttr];exact Ends.pureE rfl rfl
  |cons y r=>
   have c:((((r.length+1+1:Nat)):Int)==1)=false:=by simp;omega
   have hO:oneG ln (x::y::r)=false:=rfl;rw [hO];simp only [Flt.Hf.l,List.length_cons] at hl ⊢;generalize rows gp (x::y::r)=L at hb ⊢;generalize r.length+1+1=n at c hl ⊢;simp only [go_sem,a,c,AV.bel,belL,nblt,hb,simprocAttr];exact Ends.pureE rfl rfl
def isG (ln:Int) (b:Option (Int×Int)) (x:Int×Int):Bool:=decide (0<=x.1)&&(decide (x.1<x.2)&&(decide (x.2<=ln)&&(match b with|some e=>decide (x.1>e.2)|none=>true)))
theorem gotB_snd (ln:Int): ∀(b:Option (Int×Int)) (l:List (Int×Int)),gotB ln (b.map (·.2)) l=sndB (isG ln) b l
 |_,[]=>rfl
 |b,x::r=>by
  have ih:=gotB_snd ln (some x) r;simp only [Option.map_some] at ih;simp only [gotB,sndB,isG,ih];cases b<;>simp only [Option.map_some,Option.map_none,Bool.and_assoc]
theorem w80 (h:Flt.Hf) (l:List (Int×Int)) (k:Nat) (x:Int×Int) (hx:l[k]? =some x):FTL Tryz.prog 80 [bef 2 (rows gp l) k,.agg (gp x),.fp h.l 0] [] 0 (.b (isG h.ln (prv l k) x)) [] 0:=by
 obtain ⟨kd,ln,sq,bd,got⟩:=h;obtain ⟨x1,x2⟩:=x;refine FTL.of_iw (cx:=cxT []) Sound.nil mo Tryz.func80 i80_eq (by simp [i80]) (iw_of_jw ?_)
 dsimp only [i80];have hb:=fun j=>grB j got;cases a1:decide (x1>=0)
 ·have:isG ln (prv l k) (x1,x2)=false:=by have:=of_decide_eq_false a1;simp only [isG,decide_eq_false (show ¬0<=x1 by omega),Bool.false_and]
  rw [this];simp only [go_sem,Flt.Hf.l,gp,a1,AV.bel,belL,nblt,hb,simprocAttr];exact Ends.pureE rfl rfl
 have e1:decide (0<=x1)=true:=decide_eq_true (by have:=of_decide_eq_true a1;omega)
 cases a2:decide (x1<x2)
 ·have:isG ln (prv l k) (x1,x2)=false:=by simp only [isG,a2,Bool.false_and,Bool.and_false]
  rw [this];simp only [go_sem,Flt.Hf.l,gp,a1,a2,AV.bel,belL,nblt,hb,simprocAttr];exact Ends.pureE rfl rfl
 cases a3:decide (x2<=ln)
 ·have:isG ln (prv l k) (x1,x2)=false:=by simp only [isG,a3,Bool.false_and,Bool.and_false]
  rw [this];simp only [go_sem,Flt.Hf.l,gp,a1,a2,a3,AV.bel,belL,nblt,hb,simprocAttr];exact Ends.pureE rfl rfl
 have hI:isG ln (prv l k) (x1,x2)=(match prv l k with|some e=>decide (x1>e.2)|none=>true):=by simp only [isG,e1,a2,a3,Bool.true_and]
 rw [hI];by_cases hk:k=0
 ·have e:bef 2 (rows gp l) k= .np:=if_pos hk;have e2:prv l k=none:=if_pos hk;rw [e,e2];simp only [go_sem,Flt.Hf.l,gp,a1,a2,a3,AV.bel,belL,nblt,hb,simprocAttr];exact Ends.pureE rfl rfl
 ·have e:bef 2 (rows gp l) k= .fp (rows gp l) ((k-1)*2):=if_neg hk;have hkl:=(List.getElem?_eq_some_iff.1 hx).1;obtain ⟨y,hy⟩: ∃y,l[k-1]? =some y:=⟨_,List.getElem?_eq_getElem (by omega)⟩
  have e2:prv l k=some y:=by rw [prv,if_neg hk,hy]
  have g1:=rows_get (f:=gp) (z:=2) (j:=1) gp_len hy rfl;rw [e,e2];obtain ⟨y1,y2⟩:=y;have hlb:=fun j=>grB j l;generalize rows gp l=L at*;simp only [go_sem,Flt.Hf.l,gp,a1,a2,a3,g1,AV.bel,belL,nblt,hb,hlb,simprocAttr];exact Ends.pureE rfl rfl
/-! contracts -/
def gp2:List AV->Option (Int×Int)
 |[.i .i64 a,.i .i64 b]=>some (a,b)
 |_=>none
theorem gp2_l (x:Int×Int):gp2 (gp x)=some x:=rfl
theorem gp2_eq {c:List AV} {x:Int×Int} (h:gp2 c=some x):c=gp x:=by
 unfold gp2 at h;split at h
 ·cases h;rfl
 ·cases h
def hf5:List AV->Option Flt.Hf
 |[.i .i64 a,.i .i64 b,.i .i64 c,.s d,.fz L m]=>(unrows 2 gp2 m L).map fun g=>⟨a,b,c,d,g⟩
 |_=>none
theorem hf5_l (x:Flt.Hf):hf5 x.l=some x:=by
 have:unrows 2 gp2 x.got.length (rows gp x.got)=some x.got:=unrows_rows gp_len gp2_l x.got;simp only [hf5,Flt.Hf.l,this,Option.map_some]
theorem hf5_eq {c:List AV} {x:Flt.Hf} (h:hf5 c=some x):c=x.l:=by
 unfold hf5 at h;split at h
 ·simp only [Option.map_eq_some_iff] at h;obtain ⟨g,hg,rfl⟩:=h;obtain ⟨rfl,rfl⟩:=unrows_eq (f:=gp) (fun c a h=>gp2_eq h) hg;rfl
 ·cases h
def k56:Ct
 |[.agg c],_,n=>(hf5 c).bind fun h=>some (decide (h.got.length<=9223372036854775807),{v:= .b (doneB h),n})
 |_,_,_=>none
theorem s56:SoundAt Tryz.prog 56 k56:=fun args h n c E hc ht=>by
 unfold k56 at hc;split at hc
 ·simp only [Option.bind_eq_some_iff] at hc;obtain ⟨x,hx,he⟩:=hc;cases he;rw [hf5_eq hx];exact CallOK.pure (by kernel_rfl) (by simp only [belL,AV.bel,x.bel,Bool.and_self]) rfl (w56 x (of_decide_eq_true ht)) _ _
 ·cases hc
theorem w79 (h:Flt.Hf) (l:List (Int×Int)) (hl:l.length<=9223372036854775807):FTL Tryz.prog 79 [.fz (rows gp l) l.length,.fn 80 [.fp h.l 0]] [] 0 (.b (gotB h.ln none l)) [] 0:=by
 have e:gotB h.ln none l=sndB (isG h.ln) none l:=gotB_snd h.ln none l;rw [e];exact snd_fz (is:=isG h.ln) mo Tryz.func79 (by kernel_rfl) (by kernel_rfl) gp_len gp_bel (by simp only [belL,AV.bel,h.bel,Bool.and_self]) l hl (fun k x hx=>w80 h l k x hx)
def k79:Ct
 |[.fz L m,.fn 80 [.p a 0]],h,n=>(unrows 2 gp2 m L).bind fun l=>(hget h a).bind fun ka=>(hf5 ka.cells).bind fun x=>
  some (decide (m<=9223372036854775807),{v:= .b (gotB x.ln none l),n,rd:=[a]})
 |_,_,_=>none
theorem s79:SoundAt Tryz.prog 79 k79:=fun args h n c E hc ht=>by
 unfold k79 at hc;split at hc
 ·rename_i L m a;simp only [Option.bind_eq_some_iff] at hc;obtain ⟨l,hl,ka,hka,x,hx,he⟩:=hc;cases he;have ht:=of_decide_eq_true ht;obtain ⟨rfl,hlm⟩:=unrows_eq (f:=gp) (fun c a h=>gp2_eq h) hl;subst hlm;refine CallOK.viewG (by kernel_rfl) (argsF:=[.fz (rows gp l) l.length,.fn 80 [.fp ka.cells 0]]) ⟨VwV.same (by simp only [AV.bel,grB]),VwV.fn ⟨VwV.p (by simp [only,inl_cons,hka]) (by rw [hf5_eq hx];exact x.bel),trivial⟩,trivial⟩ rfl ?_
  rw [hf5_eq hx];exact w79 x l ht
 ·cases hc
end Go.Proofs.Flz
namespace Go.Proofs
open Go.Shelf
def Tryz.lays160_ren:Go.Shelf.Ren:=⟨fun|160=>81|232=>98|231=>97|227=>99|234=>101|233=>100|236=>103|235=>102|228=>110|271=>113|151=>112|197=>111|120=>127|152=>126|260=>125|137=>133|119=>134|224=>135|225=>136|217=>138|266=>139|n=>n,fun|9=>9|4=>4|3=>3|5=>5|117=>157|116=>156|0=>0|124=>160|21=>21|105=>169|46=>64|119=>188|139=>191|138=>190|n=>n,fun|3=>1|4=>2|n=>n⟩
theorem Tryz.lays160:Go.Proofs.Lays.n160 Tryz.prog Tryz.lays160_ren:={
 mixed:=by kernel_rfl
 f119:=Tryz.func134.trans (congrArg some (by kernel_rfl))
 f120:=Tryz.func127.trans (congrArg some (by kernel_rfl))
 f137:=Tryz.func133.trans (congrArg some (by kernel_rfl))
 f151:=Tryz.func112.trans (congrArg some (by kernel_rfl))
 f152:=Tryz.func126.trans (congrArg some (by kernel_rfl))
 f160:=Tryz.func81.trans (congrArg some (by kernel_rfl))
 f197:=Tryz.func111.trans (congrArg some (by kernel_rfl))
 f217:=Tryz.func138.trans (congrArg some (by kernel_rfl))
 f224:=Tryz.func135.trans (congrArg some (by kernel_rfl))
 f225:=Tryz.func136.trans (congrArg some (by kernel_rfl))
 f227:=Tryz.func99.trans (congrArg some (by kernel_rfl))
 f228:=Tryz.func110.trans (congrArg some (by kernel_rfl))
 f231:=Tryz.func97.trans (congrArg some (by kernel_rfl))
 f232:=Tryz.func98.trans (congrArg some (by kernel_rfl))
 f233:=Tryz.func100.trans (congrArg some (by kernel_rfl))
 f234:=Tryz.func101.trans (congrArg some (by kernel_rfl))
 f235:=Tryz.func102.trans (congrArg some (by kernel_rfl))
 f236:=Tryz.func103.trans (congrArg some (by kernel_rfl))
 f260:=Tryz.func125.trans (congrArg some (by kernel_rfl))
 f266:=Tryz.func139.trans (congrArg some (by kernel_rfl))
 f271:=Tryz.func113.trans (congrArg some (by kernel_rfl))
 t0:=Tryz.underlying0
 a0:=Tryz.isAgg0
 z0:=Tryz.sizeOf0
 v0:=Tryz.zeroValue0
 t3:=Tryz.underlying3
 a3:=Tryz.isAgg3
 z3:=Tryz.sizeOf3
 v3:=Tryz.zeroValue3
 t4:=Tryz.underlying4
 a4:=Tryz.isAgg4
 z4:=Tryz.sizeOf4
 v4:=Tryz.zeroValue4
 t5:=Tryz.underlying5
 a5:=Tryz.isAgg5
 z5:=Tryz.sizeOf5
 v5:=Tryz.zeroValue5
 t9:=Tryz.underlying9
 a9:=Tryz.isAgg9
 z9:=Tryz.sizeOf9
 v9:=Tryz.zeroValue9
 t21:=Tryz.underlying21
 a21:=Tryz.isAgg21
 z21:=Tryz.sizeOf21
 v21:=Tryz.zeroValue21
 t46:=Tryz.underlying64
 a46:=Tryz.isAgg64
 z46:=Tryz.sizeOf64
 v46:=Tryz.zeroValue64
 t105:=Tryz.underlying169
 a105:=Tryz.isAgg169
 z105:=Tryz.sizeOf169
 v105:=Tryz.zeroValue169
 t116:=Tryz.underlying156
 a116:=Tryz.isAgg156
 z116:=Tryz.sizeOf156
 t117:=Tryz.underlying157
 a117:=Tryz.isAgg157
 z117:=Tryz.sizeOf157
 v117:=Tryz.zeroValue157
 t119:=Tryz.underlying188
 a119:=Tryz.isAgg188
 z119:=Tryz.sizeOf188
 t124:=Tryz.underlying160
 a124:=Tryz.isAgg160
 z124:=Tryz.sizeOf160
 v124:=Tryz.zeroValue160
 t138:=Tryz.underlying190
 a138:=Tryz.isAgg190
 z138:=Tryz.sizeOf190
 v138:=Tryz.zeroValue190
 t139:=Tryz.underlying191
 a139:=Tryz.isAgg191
 z139:=Tryz.sizeOf191
 v139:=Tryz.zeroValue191
 g3:=by kernel_rfl
 g4:=by kernel_rfl}
open Go.RowKit in
theorem Tryz.strings_Trim_one (s:ByteArray) (c:UInt8) (hc:c.toNat<128) (w:World) (hs:s.size<=9223372036854775807):
 Calls Tryz.prog 81 #[.string s,.string ⟨#[c]⟩] w fun e w'=>e= .returned (.string ⟨(Lib.trimB s.data.toList c).toArray⟩)/\(w'=w\/w'=w.drew):=Any.strings_Trim_one Tryz.lays160 s c hc w hs
def Tryz.lays105_ren:Go.Shelf.Ren:=⟨fun|105=>36|212=>70|99=>71|165=>72|166=>73|170=>74|169=>75|263=>91|264=>92|206=>93|240=>94|241=>95|276=>108|277=>109|n=>n,fun|9=>9|3=>3|4=>4|20=>20|0=>0|46=>64|109=>116|5=>5|72=>121|76=>125|51=>147|146=>148|53=>150|148=>151|70=>119|37=>25|75=>124|127=>153|164=>165|80=>128|n=>n,fun|n=>n⟩
theorem Tryz.lays105:Go.Proofs.Lays.n105 Tryz.prog Tryz.lays105_ren:={
 mixed:=by kernel_rfl
 f99:=Tryz.func71.trans (congrArg some (by kernel_rfl))
 f105:=Tryz.func36.trans (congrArg some (by kernel_rfl))
 f165:=Tryz.func72.trans (congrArg some (by kernel_rfl))
 f166:=Tryz.func73.trans (congrArg some (by kernel_rfl))
 f169:=Tryz.func75.trans (congrArg some (by kernel_rfl))
 f170:=Tryz.func74.trans (congrArg some (by kernel_rfl))
 f206:=Tryz.func93.trans (congrArg some (by kernel_rfl))
 f212:=Tryz.func70.trans (congrArg some (by kernel_rfl))
 f240:=Tryz.func94.trans (congrArg some (by kernel_rfl))
 f241:=Tryz.func95.trans (congrArg some (by kernel_rfl))
 f263:=Tryz.func91.trans (congrArg some (by kernel_rfl))
 f264:=Tryz.func92.trans (congrArg some (by kernel_rfl))
 f276:=Tryz.func108.trans (congrArg some (by kernel_rfl))
 f277:=Tryz.func109.trans (congrArg some (by kernel_rfl))
 t0:=Tryz.underlying0
 a0:=Tryz.isAgg0
 z0:=Tryz.sizeOf0
 v0:=Tryz.zeroValue0
 t3:=Tryz.underlying3
 a3:=Tryz.isAgg3
 z3:=Tryz.sizeOf3
 v3:=Tryz.zeroValue3
 t4:=Tryz.underlying4
 a4:=Tryz.isAgg4
 z4:=Tryz.sizeOf4
 v4:=Tryz.zeroValue4
 t5:=Tryz.underlying5
 a5:=Tryz.isAgg5
 z5:=Tryz.sizeOf5
 v5:=Tryz.zeroValue5
 t9:=Tryz.underlying9
 a9:=Tryz.isAgg9
 z9:=Tryz.sizeOf9
 v9:=Tryz.zeroValue9
 t20:=Tryz.underlying20
 a20:=Tryz.isAgg20
 z20:=Tryz.sizeOf20
 v20:=Tryz.zeroValue20
 t37:=Tryz.underlying25
 a37:=Tryz.isAgg25
 z37:=Tryz.sizeOf25
 v37:=Tryz.zeroValue25
 t46:=Tryz.underlying64
 a46:=Tryz.isAgg64
 z46:=Tryz.sizeOf64
 v46:=Tryz.zeroValue64
 t51:=Tryz.underlying147
 a51:=Tryz.isAgg147
 z51:=Tryz.sizeOf147
 v51:=Tryz.zeroValue147
 t53:=Tryz.underlying150
 a53:=Tryz.isAgg150
 z53:=Tryz.sizeOf150
 v53:=Tryz.zeroValue150
 t70:=Tryz.underlying119
 a70:=Tryz.isAgg119
 z70:=Tryz.sizeOf119
 v70:=Tryz.zeroValue119
 t72:=Tryz.underlying121
 a72:=Tryz.isAgg121
 z72:=Tryz.sizeOf121
 v72:=Tryz.zeroValue121
 t75:=Tryz.underlying124
 a75:=Tryz.isAgg124
 z75:=Tryz.sizeOf124
 v75:=Tryz.zeroValue124
 t76:=Tryz.underlying125
 a76:=Tryz.isAgg125
 z76:=Tryz.sizeOf125
 v76:=Tryz.zeroValue125
 t109:=Tryz.underlying116
 a109:=Tryz.isAgg116
 z109:=Tryz.sizeOf116
 v109:=Tryz.zeroValue116
 t127:=Tryz.underlying153
 a127:=Tryz.isAgg153
 z127:=Tryz.sizeOf153
 v127:=Tryz.zeroValue153
 t146:=Tryz.underlying148
 a146:=Tryz.isAgg148
 z146:=Tryz.sizeOf148
 v146:=Tryz.zeroValue148
 t148:=Tryz.underlying151
 a148:=Tryz.isAgg151
 z148:=Tryz.sizeOf151
 v148:=Tryz.zeroValue151
 t164:=Tryz.underlying165
 a164:=Tryz.isAgg165
 z164:=Tryz.sizeOf165
 v164:=Tryz.zeroValue165}
theorem Tryz.Builder_Extra_105:Builder.Extra Tryz.prog Tryz.lays105_ren:={
 sizeBuilder:=by kernel_rfl
 liesBuilder:=by kernel_rfl
 t5:=Tryz.underlying5
 a5:=Tryz.isAgg5
 z5:=Tryz.sizeOf5
 v5:=Tryz.zeroValue5
 infoByte:=by kernel_rfl
 cellsByte:=by kernel_rfl
 sizeByte:=by kernel_rfl
 neB5:=by decide}
open Go.RowKit Go.Lib in
theorem Tryz.strings_Repeat (s:ByteArray) (c:Nat) (w:World) (hc:c<=9223372036854775807) (hlen:s.size*c<=140737488355328):
 Calls Tryz.prog 36 #[.string s,.int .i64 c] w fun e w'=>e= .returned (.string ⟨(Lib.repeatL s.data.toList c).toArray⟩)/\Below w.heap.size w w':=Any.strings_Repeat Tryz.lays105 Tryz.Builder_Extra_105 s c w hc hlen
end Go.Proofs
namespace Go.Proofs.Flz
open Go.Ab Go.Proofs.Flt
theorem trimB_nil (s:List UInt8):(Go.Lib.trimB s 0 !=[])= !zer s:=by
 have h1: ∀l:List UInt8,(l.dropWhile (· ==0)=[])↔l.all (· ==0)=true:=fun l=>by
  induction l with
  |nil=>simp
  |cons a r ih=>
   rw [List.dropWhile_cons];cases h:(a==0)
   ·simp [h]
   ·simp only [if_true,ih,List.all_cons,h,Bool.true_and]
 have h2:Go.Lib.trimB s 0=[]↔zer s=true:=by
  show ((s.reverse.dropWhile (· ==0)).reverse.dropWhile (· ==0)=[])↔_;rw [h1,List.all_reverse];constructor
  ·intro h;have:s.reverse.dropWhile (· ==0)=[]:=by
    cases hd:s.reverse.dropWhile (· ==0) with
    |nil=>rfl
    |cons a r=>
     exfalso;rw [hd,List.all_cons,Bool.and_eq_true] at h;have:=List.head?_dropWhile_not (· ==0) s.reverse;rw [hd] at this;simp only [List.head?_cons] at this;rw [h.1] at this;simp at this
   rw [h1,List.all_reverse] at this;exact this
  ·intro h;have:s.reverse.dropWhile (· ==0)=[]:=by rw [h1,List.all_reverse];exact h
   rw [this];rfl
 cases hz:zer s
 ·rw [Bool.not_false,bne_iff_ne];intro e;rw [h2,hz] at e;cases e
 ·rw [Bool.not_true,bne_eq_false_iff_eq];exact h2.2 hz
theorem w81 (s:List UInt8) (hs:s.length<=9223372036854775807):FTL Tryz.prog 81 [.s s,.s [0]] [] 0 (.s (Go.Lib.trimB s 0)) [] 0:=FTL.of_below (fun D φ us ha=>by
 obtain ⟨u,m,rfl,h1,h2⟩:=ha.uncons;obtain ⟨u',m',rfl,h3,h4⟩:=h2.uncons;obtain rfl:=h4.unnil;cases h1;cases h3;refine ⟨_,.s (Go.Lib.trimB s 0),fun w=> ?_⟩;refine (Tryz.strings_Trim_one ⟨s.toArray⟩ 0 (by decide) w (by show s.toArray.size<=_;simpa using hs)).mono fun e w' he=>⟨?_,?_⟩
 ·rw [he.1]
 ·rcases he.2 with rfl|rfl
  ·exact Go.RowKit.Below.refl _ _
  ·exact (Go.RowKit.Below.refl _ _).drew) (by kernel_rfl)
def k81:Ct
 |[.s s,.s [0]],_,n=>some (decide (s.length<=9223372036854775807),{v:= .s (Go.Lib.trimB s 0),n})
 |_,_,_=>none
theorem s81:SoundAt Tryz.prog 81 k81:=fun args h n c E hc ht=>by
 unfold k81 at hc;split at hc
 ·cases hc;exact CallOK.pure (by kernel_rfl) rfl rfl (w81 _ (of_decide_eq_true ht)) _ _
 ·cases hc
theorem w36 (s:List UInt8) (c:Nat) (hc:s.length*c<=1000000) (hc2:c<=1000000):FTL Tryz.prog 36 [.s s,.i .i64 (c:Int)] [] 0 (.s (Go.Lib.repeatL s c)) [] 0:=FTL.of_below (fun D φ us ha=>by
 obtain ⟨u,m,rfl,h1,h2⟩:=ha.uncons;obtain ⟨u',m',rfl,h3,h4⟩:=h2.uncons;obtain rfl:=h4.unnil;cases h1;cases h3;refine ⟨_,.s (Go.Lib.repeatL s c),fun w=> ?_⟩;refine (Tryz.strings_Repeat ⟨s.toArray⟩ c w (by omega) (by
  show s.toArray.size*c<=_;simp only [List.size_toArray];omega)).mono fun e w' he=>⟨?_,he.2⟩
 rw [he.1]) (by kernel_rfl)
def k36:Ct
 |[.s s,.i .i64 c],_,n=>some (decide (0<=c/\s.length*c.toNat<=1000000/\c<=1000000),{v:= .s (Go.Lib.repeatL s c.toNat),n})
 |_,_,_=>none
theorem s36:SoundAt Tryz.prog 36 k36:=fun args h n c E hc ht=>by
 unfold k36 at hc;split at hc
 ·rename_i s c;cases hc;obtain ⟨h0,h1,h2⟩:=of_decide_eq_true ht;have:=w36 s c.toNat h1 (by omega)
  rw [Int.toNat_of_nonneg h0] at this;exact CallOK.pure (by kernel_rfl) rfl rfl this _ _
 ·cases hc
theorem w60_0 (L:List AV):FTL Tryz.prog 60 [.fz L 0] [] 0 .ze [] 0:=cln_0 mo Tryz.func60 (z:=2) (bytes:=16) (zs:=[.i .i64 0,.i .i64 0]) i60_eq L
theorem w60_1 (x:Int×Int) (l:List (Int×Int)) (hl:l.length<=1000000000):FTL Tryz.prog 60 [.fz (rows gp (x::l)) (l.length+1)] [] 0 (.sg 0 0 (l.length+1)) [(0,{cells:=rows gp (x::l),gr:=some 2})] 1:=
 cln_1 mo Tryz.func60 (z:=2) (bytes:=16) (zs:=[.i .i64 0,.i .i64 0]) i60_eq (by rw [rows_len gp_len];rfl) (rows_one1 gp_one _) (rows_bel gp_bel) (by simp only [growMax];omega)
def k60:Ct
 |[.fz L m],_,n=>(unrows 2 gp2 m L).bind fun l=>match l with
  |[]=>some (true,{v:= .ze,n})
  |x::r=>some (decide (r.length<=1000000000),{v:= .sg n 0 (r.length+1),n:=n+1,nw:=[(n,{cells:=rows gp (x::r),gr:=some 2})]})
 |[.ns],_,n=>some (true,{v:= .ze,n})
 |_,_,_=>none
theorem s60:SoundAt Tryz.prog 60 k60:=fun args h n c E hc ht=>by
 unfold k60 at hc;split at hc
 ·rename_i L m;simp only [Option.bind_eq_some_iff] at hc;obtain ⟨l,hl,hc⟩:=hc;obtain ⟨rfl,hm⟩:=unrows_eq (f:=gp) (fun c a h=>gp2_eq h) hl;subst hm;split at hc
  ·cases hc;exact CallOK.pure (by kernel_rfl) rfl rfl (w60_0 _) _ _
  ·rename_i x r;cases hc;have:=CallOK.new1 (h:=h) (n:=n) (by kernel_rfl) (by simp only [belL,AV.bel,rows_bel gp_bel,Bool.and_self]) (rows_bel gp_bel) rfl (w60_1 x r (of_decide_eq_true ht))
   simpa [AV.ren] using this
 ·cases hc;exact CallOK.pure (by kernel_rfl) rfl rfl (FTL.wkaH Wka.ns (w60_0 [])) _ _
 ·cases hc
/-! the half -/
def atG (got:List (Int×Int)) (k:Nat):Int:=if k=0 then 0 else match got[k-1]? with|some x=>x.2|none=>0
theorem got_at {ln:Int}: ∀{l:List (Int×Int)} {b:Option Int} {k:Nat} {x:Int×Int},gotB ln b l=true->l[k]? =some x->0<=x.1/\x.1<x.2/\x.2<=ln/\(k=0-> ∀e,b=some e->e<x.1)/\(0<k-> ∀y,l[k-1]? =some y->y.2<x.1)
 |[],_,k,x,_,h=>by simp at h
 |y::r,b,0,x,hg,h=>by
  simp only [List.getElem?_cons_zero,Option.some.injEq] at h;subst h;simp only [gotB,Bool.and_eq_true,decide_eq_true_eq] at hg;obtain ⟨h1,h2,h3,h4,_⟩:=hg;refine ⟨h1,h2,h3,fun _ e he=> ?_,fun h=>absurd h (by omega)⟩
  subst he;simpa using h4
 |y::r,b,k+1,x,hg,h=>by
  simp only [List.getElem?_cons_succ] at h;simp only [gotB,Bool.and_eq_true,decide_eq_true_eq] at hg;obtain ⟨h1,h2,h3,h4,h5⟩:=hg;have ih:=got_at h5 h;refine ⟨ih.1,ih.2.1,ih.2.2.1,fun h=>absurd h (by omega),fun _ z hz=> ?_⟩
  cases k with
  |zero=>simp at hz;subst hz;exact ih.2.2.2.1 rfl _ rfl
  |succ k=>exact ih.2.2.2.2 (by omega) z (by simpa using hz)
theorem atG_rng {ln:Int} {got:List (Int×Int)} (hg:gotB ln none got=true) (h0:0<=ln) {k:Nat} (hk:k<=got.length):0<=atG got k/\atG got k<=ln/\ ∀x,got[k]? =some x->atG got k<=x.1/\x.1<=ln/\0<=x.1/\x.2<=ln:=by
 by_cases hk0:k=0
 ·subst hk0;refine ⟨by simp [atG],by simp [atG];exact h0,fun x hx=> ?_⟩
  have:=got_at hg hx;simp only [atG,if_pos];omega
 ·obtain ⟨y,hy⟩: ∃y,got[k-1]? =some y:=⟨_,List.getElem?_eq_getElem (by omega)⟩
  have e:atG got k=y.2:=by simp only [atG,if_neg hk0,hy]
  have hyy:=got_at hg hy;rw [e];refine ⟨by omega,by omega,fun x hx=> ?_⟩
  have hxx:=got_at hg hx;have:=hxx.2.2.2.2 (by omega) y hy
  omega
theorem atG_s {got:List (Int×Int)} {k:Nat} {x:Int×Int} (h:got[k]? =some x):atG got (k+1)=x.2:=by
 simp only [atG,if_neg (Nat.succ_ne_zero k),Nat.add_sub_cancel,h]
theorem gap_s {bd:List UInt8} {ln:Int} {got:List (Int×Int)} {k:Nat} {x:Int×Int} (h:got[k]? =some x):gapB bd ln (atG got k) (got.drop k)=(zer ((bd.drop (atG got k).toNat).take (x.1-atG got k).toNat)&&gapB bd ln (atG got (k+1)) (got.drop (k+1))):=by
 have hlt:=(List.getElem?_eq_some_iff.1 h).1;rw [List.drop_eq_getElem_cons hlt,gapB,atG_s h];rw [List.getElem?_eq_getElem hlt] at h;rw [Option.some.inj h]
theorem got_len {ln:Int} {got:List (Int×Int)} (hg:gotB ln none got=true) (h0:0<=ln):(got.length:Int)<=ln:=by
 have: ∀(k:Nat) x,got[k]? =some x->(k:Int)+1<=x.2:=fun k=>by
  induction k with
  |zero=>intro x hx;have:=got_at hg hx;omega
  |succ k ih=>
   intro x hx;have h1:=(List.getElem?_eq_some_iff.1 hx).1;obtain ⟨y,hy⟩: ∃y,got[k]? =some y:=⟨_,List.getElem?_eq_getElem (by omega)⟩
   have h2:=ih y hy;have h3:=got_at hg hx;have:=h3.2.2.2.2 (by omega) y (by simpa using hy)
   omega
 rcases Nat.eq_zero_or_pos got.length with h|h
 ·omega
 ·obtain ⟨y,hy⟩: ∃y,got[got.length-1]? =some y:=⟨_,List.getElem?_eq_getElem (by omega)⟩
  have h1:=this _ y hy;have h2:=got_at hg hy;omega
def TC13:List (Nat×Ct):=[(48,k48),(79,k79),(60,k60),(81,k81)]
theorem hTC13:Sound Tryz.prog (cxT TC13):=Sound.cons s48<|Sound.cons s79<|Sound.cons s60<|Sound.cons s81 Sound.nil
noncomputable abbrev F13:Fx:=⟨Tryz.prog,cxT TC13,[39,45,61,72],76,0⟩
theorem w55 (h:Flt.Hf) (hl:h.got.length<=9223372036854775807) (hl2:h.bd.length<=9223372036854775807):FTL Tryz.prog 55 [.agg h.l] [] 0 (.b (halfB h)) [] 0:=by
 have hh5:=hf5_l h;obtain ⟨kd,ln,sq,bd,got⟩:=h;have hH:halfB ⟨kd,ln,sq,bd,got⟩=(inW kd 255&&(inW ln 4000&&(((bd.length:Int)==ln)&&(((got.length==0)==(ln==0))&&(gotB ln none got&&gapB bd ln 0 got))))):=rfl;have hu:unrows 2 gp2 got.length (rows gp got)=some got:=unrows_rows gp_len gp2_l got;have hll:decide (got.length<=9223372036854775807)=true:=decide_eq_true hl;simp only [Flt.Hf.l] at hh5 ⊢;refine FTL.of_seam (cx:=cxT TC13) Tryz.func55 i55_eq (by simp [i55]) ?_
 dsimp only [i55];refine Seam.part (F:=F13) hTC13 mo ?_;dsimp only [F13,TC13];simp only [go_sem,simprocAttr];refine Seam.part (F:=F13) hTC13 mo ?_;dsimp only [F13,TC13];have hb:=fun j=>grB j got;rw [hH];cases c1:inW kd 255
 ·simp only [go_sem,k48,c1,AV.bel,belL,nblt,hb,simprocAttr];exact Ends.pureE rfl rfl
 cases c2:inW ln 4000
 ·simp only [go_sem,k48,c1,c2,AV.bel,belL,nblt,hb,simprocAttr];exact Ends.pureE rfl rfl
 cases c3:((bd.length:Int)==ln)
 ·have c3':((bd.length:Int) !=ln)=true:=by simp only [bne,c3,Bool.not_false]
  simp only [go_sem,k48,c1,c2,c3,c3',AV.bel,belL,nblt,hb,simprocAttr];exact Ends.pureE rfl rfl
 have c3':((bd.length:Int) !=ln)=false:=by simp only [bne,c3,Bool.not_true]
 have e4:(got.length==0)=((got.length:Int)==0):=by rw [Bool.eq_iff_iff];simp
 rw [e4];cases c4:(((got.length:Int)==0)==(ln==0))
 ·simp only [go_sem,k48,c1,c2,c3,c3',c4,AV.bel,belL,nblt,hb,simprocAttr];exact Ends.pureE rfl rfl
 have hsn: ∀(h:Hp) n b,hget h b=some {cells:=[.i .i64 kd,.i .i64 ln,.i .i64 sq,.s bd,.fz (rows gp got) got.length]}->k79 [.fz (rows gp got) got.length,.fn 80 [.p b 0]] h n=some (true,{v:= .b (gotB ln none got),n,rd:=[b]}):=fun h n b hb=>by
  simp only [k79,hu,Option.bind_some,hb,hh5,hll]
 simp only [go_sem,k48,c1,c2,c3,c3',c4,AV.bel,belL,nblt,hb,simprocAttr];refine Seam.part (F:=F13) hTC13 mo ?_;dsimp only [F13,TC13];cases c5:gotB ln none got
 ·simp only [go_sem,hsn,c5,AV.bel,belL,nblt,hb,simprocAttr];exact Ends.pureE rfl rfl
 simp only [go_sem,hsn,c5,AV.bel,belL,nblt,hb,simprocAttr];refine Seam.part (F:=F13) hTC13 mo ?_;dsimp only [F13,TC13];simp only [go_sem,simprocAttr];have h2:=inW_t c2;have hbl:(bd.length:Int)=ln:=by simpa using c3
 have hgl:=got_len c5 h2.1;have hrng:=fun k hk=>atG_rng c5 h2.1 (k:=k) hk;obtain ⟨R,hR⟩: ∃R,R=gapB bd ln 0 got:=⟨_,rfl⟩;simp only [Bool.true_and,<-hR]
 -- the ranges,with the end behind them
 obtain ⟨G,hG⟩: ∃G,G=rows gp (got++[(ln,ln)]):=⟨_,rfl⟩;have hGb: ∀j,belL j G=true:=fun j=>by rw [hG];exact grB j _
 have hGr: ∀ψ,renL ψ G=G:=fun ψ=>by rw [hG];exact grR ψ _
 have hGk: ∀k x,(got++[(ln,ln)])[k]? =some x->List.take 2 (List.drop (k*2) G)=gp x:=fun k x hx=>by rw [hG];exact rows_at gp_len hx
 have hGa:rows gp got++[.i .i64 ln,.i .i64 ln]=G:=by rw [hG,rows_append];rfl
 have zR:(rows gp got).length=got.length*2:=rows_len gp_len;obtain ⟨aE,haE⟩: ∃aE:Nat->Int,aE=fun k=>if k<=got.length then atG got k else ln:=⟨_,rfl⟩
 have loop: ∀(j:Nat) (_:j=2\/j=3) (e:Env) (h:Hp) (n:Nat),EnvIn (j+1) e [(1,.p 0 0),(3,.i .i64 (aE 0)),(58,.sg j 0 (got.length+1)),(59,.i .i64 ((got.length+1:Nat):Int)),(60,.i .i64 ((0:Nat):Int))]→
  HpIn (j+1) h [(j,{cells:=G,gr:=some 2}),(0,{cells:=[.i .i64 kd,.i .i64 ln,.i .i64 sq,.s bd,.fz (rows gp got) got.length]})]→
  Go.Ab.Loop Tryz.prog [39,45,61,72] 76 0 i55l13 (blockK 0 (thenK (retK [.t 2] fun v h' n'=>Ab.Ends 0 v h' n' (.b R) [] 0) (jw ⟨Tryz.prog,cxT [(48,k48),(79,k79),(60,k60),(81,k81)],[39,45,61,72],76,0⟩ (.seq (.reg i55r14) .ret) (retK [.t 2] fun v h' n'=>Ab.Ends 0 v h' n' (.b R) [] 0)))) e h n:=by
  intro j hj e h n he hh;refine Loop.countI (F:=F13) hTC13 mo (got.length+1) (fun k=>(k<=got.length->gapB bd ln (atG got k) (got.drop k)=R)/\(k=got.length+1->R=true))
   (fun k=>[(1,.p 0 0),(3,.i .i64 (aE k)),(58,.sg j 0 (got.length+1)),(59,.i .i64 ((got.length+1:Nat):Int)),(60,.i .i64 (k:Int))])
   (fun k=>[(j,{cells:=G,gr:=some 2}),(0,{cells:=[.i .i64 kd,.i .i64 ln,.i .i64 sq,.s bd,.fz (rows gp got) got.length]})]) (j+1) (Nat.zero_le _) ⟨fun _=>hR.symm,fun h=>by omega⟩ he hh (fun k hk hok=> ?_)
  dsimp only [F13,TC13];by_cases hlt:k<got.length+1
  ·obtain ⟨x,hx⟩: ∃x,(got++[(ln,ln)])[k]? =some x:=⟨_,List.getElem?_eq_getElem (by simp;omega)⟩
   have hr:=hGk k x hx;have hka:aE k=atG got k:=by rw [haE];exact if_pos (by omega)
   obtain ⟨r1,r2,r3⟩:=hrng k (by omega)
   have hgap:=hok.1 (by omega)
   have hxx:atG got k<=x.1/\x.1<=ln/\0<=x.1/\x.2=aE (k+1)/\gapB bd ln (atG got k) (got.drop k)=(zer ((bd.drop (atG got k).toNat).take (x.1-atG got k).toNat)&&(if k<got.length then gapB bd ln (atG got (k+1)) (got.drop (k+1)) else true)):=by
    by_cases hkl:k<got.length
    ·rw [List.getElem?_append_left hkl] at hx;have:=r3 x hx;refine ⟨this.1,this.2.1,this.2.2.1,?_,?_⟩
     ·rw [haE];show x.2=if k+1<=got.length then atG got (k+1) else ln;rw [if_pos (by omega),atG_s hx]
     ·rw [if_pos hkl];exact gap_s hx
    ·have e:k=got.length:=by omega
     subst e;rw [List.getElem?_append_right (Nat.le_refl _),Nat.sub_self] at hx;cases hx;refine ⟨r2,Int.le_refl _,h2.1,?_,?_⟩
     ·rw [haE];exact (if_neg (by omega)).symm
     ·rw [if_neg (by omega),List.drop_length,gapB,Bool.and_true]
   obtain ⟨q1,q2,q3,q4,q5⟩:=hxx;rw [q5] at hgap;have c1':decide ((k:Int)<((got.length+1:Nat):Int))=true:=decide_eq_true (by omega)
   have c2':decide (0<=(k:Int)/\(k:Int)<((got.length+1:Nat):Int))=true:=decide_eq_true (by omega)
   have hw:IntKind.i64.wrap ((k:Int)+1)=((k+1:Nat):Int):=by rw [wrapL (by omega) (by omega)];omega
   have d1:decide (0<=atG got k/\atG got k<=x.1/\x.1<=(bd.length:Int))=true:=decide_eq_true (by omega)
   have hsl:(bd.drop (atG got k).toNat).take (x.1-atG got k).toNat=List.drop (atG got k).toNat (List.take x.1.toNat bd):=by
    rw [List.drop_take];congr 1;omega
   rw [hsl] at hgap;have hzz:=trimB_nil (List.drop (atG got k).toNat (List.take x.1.toNat bd));have hzl:(List.drop (atG got k).toNat (List.take x.1.toNat bd)).length<=bd.length:=by rw [List.length_drop,List.length_take];omega
   have htr: ∀(h:Hp) n,k81 [.s (List.drop (atG got k).toNat (List.take x.1.toNat bd)),.s [0]] h n=some (true,{v:= .s (Go.Lib.trimB (List.drop (atG got k).toNat (List.take x.1.toNat bd)) 0),n}):=fun h n=>by
    simp only [k81,decide_eq_true (show (List.drop (atG got k).toNat (List.take x.1.toNat bd)).length<=9223372036854775807 by omega)]
   rw [hka];obtain ⟨x1,x2⟩:=x;dsimp only at*;subst q4;generalize atG got k=a at*;generalize hsub:List.drop a.toNat (List.take x1.toNat bd)=sub at*;generalize Go.Lib.trimB sub 0=tb at*;simp only [gp] at hr;cases hz:zer sub
   ·rw [hz,Bool.not_false] at hzz;have hz2:(tb==([]:List UInt8))=false:=by
     cases he:(tb==([]:List UInt8)) with
     |false=>rfl
     |true=>rw [bne,he] at hzz;cases hzz
    rw [hz,Bool.false_and] at hgap;rw [<-hgap];rcases hj with rfl|rfl
    all_goals
     simp only [go_sem,c1',c2',hr,d1,hsub,htr,hzz,hz2,simprocAttr];exact Ends.pureE rfl rfl
   ·rw [hz,Bool.not_true] at hzz;have hz2:(tb==([]:List UInt8))=true:=by
     cases he:(tb==([]:List UInt8)) with
     |true=>rfl
     |false=>rw [bne,he] at hzz;cases hzz
    rw [hz,Bool.true_and] at hgap;have hnext:(k+1<=got.length->gapB bd ln (atG got (k+1)) (got.drop (k+1))=R)/\(k+1=got.length+1->R=true):=by
     refine ⟨fun h=> ?_,fun h=> ?_⟩
     ·rw [if_pos (by omega)] at hgap;exact hgap
     ·rw [if_neg (by omega)] at hgap;exact hgap.symm
    generalize ((k+1<=got.length->gapB bd ln (atG got (k+1)) (got.drop (k+1))=R)/\(k+1=got.length+1->R=true))=NX at*;rcases hj with rfl|rfl
    all_goals
     simp only [go_sem,c1',c2',hr,d1,hsub,htr,hzz,hz2,hw,hlt,hnext,AV.bel,belL,nblt,hb,hGb,simprocAttr]
  ·have c1':decide ((k:Int)<((got.length+1:Nat):Int))=false:=decide_eq_false (by omega)
   have hRt:=hok.2 (by omega)
   rw [hRt];rcases hj with rfl|rfl
   all_goals
    simp only [go_sem,c1',simprocAttr];exact Ends.pureE rfl rfl
 have a0:aE 0=0:=by rw [haE];rfl
 rw [a0] at loop;refine Seam.run (F:=F13) hTC13 mo ?_;dsimp only [F13,TC13];cases got with
 |nil=>
  have hk: ∀(h:Hp) n,k60 [.fz (rows gp []) 0] h n=some (true,{v:= .ze,n}):=fun h n=>rfl;simp only [go_sem,hk,AV.bel,belL,nblt,hb,List.length_nil,growMax,simprocAttr];refine loop 2 (.inl rfl) _ _ _ ?_ ?_
  ·simp only [go_sem,AV.bel,belL,nblt,List.length_nil,simprocAttr]
  ·rw [hG];simp only [go_sem,AV.bel,belL,nblt,hb,List.length_nil,rows_cons,rows_nil,gp,List.nil_append,simprocAttr]
 |cons x r=>
  have hk: ∀(h:Hp) n,k60 [.fz (rows gp (x::r)) (r.length+1)] h n=some (true,{v:= .sg n 0 (r.length+1),n:=n+1,nw:=[(n,{cells:=rows gp (x::r),gr:=some 2})]}):=fun h n=>by
   simp only [List.length_cons] at hu;simp only [k60,hu,Option.bind_some,decide_eq_true (show r.length<=1000000000 by simp only [List.length_cons] at hgl;omega)]
  have gm:decide (16*(r.length+1+1)<=growMax)=true:=decide_eq_true (by simp only [growMax,List.length_cons] at *;omega)
  simp only [List.length_cons] at zR hgl hb ⊢;simp only [go_sem,hk,AV.bel,belL,nblt,hb,gm,zR,hGa,simprocAttr];refine loop 3 (.inr rfl) _ _ _ ?_ ?_
  ·simp only [go_sem,AV.bel,belL,nblt,List.length_cons,simprocAttr]
  ·simp only [go_sem,AV.bel,belL,nblt,hb,hGb,List.length_cons,simprocAttr]
def hfF (x:Flt.Hf):Bool:=decide (x.got.length<=9223372036854775807)&&decide (x.bd.length<=9223372036854775807)
def k55:Ct
 |[.agg c],_,n=>(hf5 c).bind fun h=>some (hfF h,{v:= .b (halfB h),n})
 |_,_,_=>none
theorem s55:SoundAt Tryz.prog 55 k55:=fun args h n c E hc ht=>by
 unfold k55 at hc;split at hc
 ·simp only [Option.bind_eq_some_iff] at hc;obtain ⟨x,hx,he⟩:=hc;cases he;rw [hf5_eq hx];simp only [hfF,Bool.and_eq_true,decide_eq_true_eq] at ht;exact CallOK.pure (by kernel_rfl) (by simp only [belL,AV.bel,x.bel,Bool.and_self]) rfl (w55 x ht.1 ht.2) _ _
 ·cases hc
theorem hrB (j:Nat) (l:List Flt.Hf):belL j (rows Flt.Hf.l l)=true:=belL_mono0 _ (rows_bel Flt.Hf.bel)
def isH (nx:Int) (b:Option Flt.Hf) (x:Flt.Hf):Bool:=decide (nx<=x.sq)&&(decide (x.sq<min (nx+4) 65536)&&((match b with|some e=>decide (x.sq>e.sq)|none=>true)&&(halfB x&&(decide (x.sq>nx)|| !doneB x))))
theorem hsB_snd (nx:Int): ∀(b:Option Flt.Hf) (l:List Flt.Hf),hsB nx (b.map (·.sq)) l=sndB (isH nx) b l
 |_,[]=>rfl
 |b,x::r=>by
  have ih:=hsB_snd nx (some x) r;simp only [Option.map_some] at ih;simp only [hsB,sndB,isH,ih];cases b<;>simp only [Option.map_some,Option.map_none,Bool.and_assoc]
def TC14:List (Nat×Ct):=[(55,k55),(56,k56)]
theorem hTC14:Sound Tryz.prog (cxT TC14):=Sound.cons s55 (Sound.cons s56 Sound.nil)
theorem w54 (j:Jn) (hj:inW j.nx 65536=true) (l:List Flt.Hf) (k:Nat) (x:Flt.Hf) (hx:l[k]? =some x) (hf:hfF x=true):FTL Tryz.prog 54 [bef 5 (rows Flt.Hf.l l) k,.agg x.l,.fp j.a 0] [] 0 (.b (isH j.nx (prv l k) x)) [] 0:=by
 have hh5:=hf5_l x;have hfg:decide (x.got.length<=9223372036854775807)=true:=by simp only [hfF,Bool.and_eq_true] at hf;exact hf.1
 have h50: ∀(h:Hp) n,k55 [.agg x.l] h n=some (true,{v:= .b (halfB x),n}):=fun h n=>by simp only [k55,hh5,Option.bind_some,hf]
 have h40: ∀(h:Hp) n,k56 [.agg x.l] h n=some (true,{v:= .b (doneB x),n}):=fun h n=>by simp only [k56,hh5,Option.bind_some,hfg]
 have hI:isH j.nx (prv l k) x=(decide (j.nx<=x.sq)&&(decide (x.sq<min (j.nx+4) 65536)&&((match prv l k with|some e=>decide (x.sq>e.sq)|none=>true)&&(halfB x&&(decide (x.sq>j.nx)|| !doneB x))))):=rfl
 generalize halfB x=HB at*;generalize doneB x=DB at*;obtain ⟨nx,hs⟩:=j;have hnx:=inW_t hj;dsimp only at hnx hI ⊢;obtain ⟨kd,ln,sq,bd,got⟩:=x;simp only [Jn.a,Flt.Hf.l] at h50 h40 ⊢;dsimp only at hI;have hb:=fun j=>grB j got;have hb2:=fun j=>hrB j hs;refine FTL.of_iw hTC14 mo Tryz.func54 i54_eq (by simp [i54]) (iw_of_jw ?_)
 dsimp only [i54,TC14];have w4:IntKind.i64.wrap (nx+4)=nx+4:=wrapL (by omega) (by omega)
 cases a1:decide (sq>=nx)
 ·rw [hI,show decide (nx<=sq)=false from a1,Bool.false_and]
  simp only [go_sem,a1,AV.bel,belL,nblt,hb,hb2,simprocAttr];exact Ends.pureE rfl rfl
 rw [show decide (nx<=sq)=true from a1,Bool.true_and] at hI
 cases a2:decide (sq<min (nx+4) 65536)
 ·rw [hI,a2,Bool.false_and];simp only [go_sem,a1,a2,w4,AV.bel,belL,nblt,hb,hb2,simprocAttr];exact Ends.pureE rfl rfl
 rw [a2,Bool.true_and] at hI;rw [hI];by_cases hk:k=0
 ·have e:bef 5 (rows Flt.Hf.l l) k= .np:=if_pos hk;have e2:prv l k=none:=if_pos hk;rw [e,e2];cases HB
  ·simp only [go_sem,a1,a2,w4,h50,AV.bel,belL,nblt,hb,hb2,simprocAttr];exact Ends.pureE rfl rfl
  cases a4:decide (sq>nx)
  ·cases DB
   ·simp only [go_sem,a1,a2,w4,h50,h40,a4,AV.bel,belL,nblt,hb,hb2,simprocAttr];exact Ends.pureE rfl rfl
   ·simp only [go_sem,a1,a2,w4,h50,h40,a4,AV.bel,belL,nblt,hb,hb2,simprocAttr];exact Ends.pureE rfl rfl
  ·simp only [go_sem,a1,a2,w4,h50,h40,a4,AV.bel,belL,nblt,hb,hb2,simprocAttr];exact Ends.pureE rfl rfl
 ·have e:bef 5 (rows Flt.Hf.l l) k= .fp (rows Flt.Hf.l l) ((k-1)*5):=if_neg hk;have hkl:=(List.getElem?_eq_some_iff.1 hx).1;obtain ⟨y,hy⟩: ∃y,l[k-1]? =some y:=⟨_,List.getElem?_eq_getElem (by omega)⟩
  have e2:prv l k=some y:=by rw [prv,if_neg hk,hy]
  have g1:=rows_get (f:=Flt.Hf.l) (z:=5) (j:=2) Flt.Hf.len hy rfl;rw [e,e2];have hlb:=fun j=>hrB j l;generalize rows Flt.Hf.l l=L at*;cases a3:decide (sq>y.sq)
  ·simp only [go_sem,a1,a2,a3,w4,g1,AV.bel,belL,nblt,hb,hb2,hlb,simprocAttr];exact Ends.pureE rfl rfl
  cases HB
  ·simp only [go_sem,a1,a2,a3,w4,g1,h50,AV.bel,belL,nblt,hb,hb2,hlb,simprocAttr];exact Ends.pureE rfl rfl
  cases a4:decide (sq>nx)
  ·cases DB
   ·simp only [go_sem,a1,a2,a3,w4,g1,h50,h40,a4,AV.bel,belL,nblt,hb,hb2,hlb,simprocAttr];exact Ends.pureE rfl rfl
   ·simp only [go_sem,a1,a2,a3,w4,g1,h50,h40,a4,AV.bel,belL,nblt,hb,hb2,hlb,simprocAttr];exact Ends.pureE rfl rfl
  ·simp only [go_sem,a1,a2,a3,w4,g1,h50,h40,a4,AV.bel,belL,nblt,hb,hb2,hlb,simprocAttr];exact Ends.pureE rfl rfl
theorem w53 (j:Jn) (hj:inW j.nx 65536=true) (l:List Flt.Hf) (hl:l.length<=9223372036854775807) (hf:l.all hfF=true):FTL Tryz.prog 53 [.fz (rows Flt.Hf.l l) l.length,.fn 54 [.fp j.a 0]] [] 0 (.b (hsB j.nx none l)) [] 0:=by
 have e:hsB j.nx none l=sndB (isH j.nx) none l:=hsB_snd j.nx none l;rw [e];rw [List.all_eq_true] at hf;exact snd_fz (is:=isH j.nx) mo Tryz.func53 (by kernel_rfl) (by kernel_rfl) Flt.Hf.len Flt.Hf.bel (by simp only [belL,AV.bel,j.bel,Bool.and_self]) l hl (fun k x hx=>w54 j hj l k x hx (hf x (List.mem_of_getElem? hx)))
def jn2:List AV->Option Jn
 |[.i .i64 nx,.fz L m]=>(unrows 5 hf5 m L).map fun l=>⟨nx,l⟩
 |_=>none
theorem jn2_a (j:Jn):jn2 j.a=some j:=by
 have:unrows 5 hf5 j.hs.length (rows Flt.Hf.l j.hs)=some j.hs:=unrows_rows Flt.Hf.len hf5_l j.hs;simp only [jn2,Jn.a,this,Option.map_some]
theorem jn2_eq {c:List AV} {j:Jn} (h:jn2 c=some j):c=j.a:=by
 unfold jn2 at h;split at h
 ·simp only [Option.map_eq_some_iff] at h;obtain ⟨g,hg,rfl⟩:=h;obtain ⟨rfl,rfl⟩:=unrows_eq (f:=Flt.Hf.l) (fun c a h=>hf5_eq h) hg;rfl
 ·cases h
def k53:Ct
 |[.fz L m,.fn 54 [.p a 0]],h,n=>(unrows 5 hf5 m L).bind fun l=>(hget h a).bind fun ka=>(jn2 ka.cells).bind fun j=>
  some (decide (m<=9223372036854775807)&&(inW j.nx 65536&&l.all hfF),{v:= .b (hsB j.nx none l),n,rd:=[a]})
 |_,_,_=>none
theorem s53:SoundAt Tryz.prog 53 k53:=fun args h n c E hc ht=>by
 unfold k53 at hc;split at hc
 ·rename_i L m a;simp only [Option.bind_eq_some_iff] at hc;obtain ⟨l,hl,ka,hka,j,hj,he⟩:=hc;cases he;simp only [Bool.and_eq_true,decide_eq_true_eq] at ht;obtain ⟨rfl,hlm⟩:=unrows_eq (f:=Flt.Hf.l) (fun c a h=>hf5_eq h) hl;subst hlm;refine CallOK.viewG (by kernel_rfl) (argsF:=[.fz (rows Flt.Hf.l l) l.length,.fn 54 [.fp ka.cells 0]]) ⟨VwV.same (by simp only [AV.bel,hrB]),VwV.fn ⟨VwV.p (by simp [only,inl_cons,hka]) (by rw [jn2_eq hj];exact j.bel),trivial⟩,trivial⟩ rfl ?_
  rw [jn2_eq hj];exact w53 j ht.2.1 l ht.1 ht.2.2
 ·cases hc
def TC14b:List (Nat×Ct):=[(48,k48),(53,k53)]
theorem hTC14b:Sound Tryz.prog (cxT TC14b):=Sound.cons s48 (Sound.cons s53 Sound.nil)
def jnF (j:Jn):Bool:=decide (j.hs.length<=9223372036854775807)&&j.hs.all hfF
theorem w21 (j:Jn) (hf:jnF j=true):FTL Tryz.prog 21 [.agg j.a] [] 0 (.i .i64 (if jnB j then 0 else 191)) [] 0:=by
 have hj2:=jn2_a j;have hu:unrows 5 hf5 j.hs.length (rows Flt.Hf.l j.hs)=some j.hs:=unrows_rows Flt.Hf.len hf5_l j.hs;have hB:jnB j=(inW j.nx 65536&&hsB j.nx none j.hs):=rfl;have hb:=fun i=>hrB i j.hs;simp only [jnF,Bool.and_eq_true] at hf;obtain ⟨hf1,hf2⟩:=hf;obtain ⟨nx,hs⟩:=j;simp only [Jn.a] at hj2 ⊢;dsimp only at hB hf1 hf2 hu hb;refine FTL.of_iw hTC14b mo Tryz.func21 i21_eq (by simp [i21]) (iw_of_jw ?_)
 dsimp only [i21,TC14b];rw [hB];cases a:inW nx 65536
 ·simp only [go_sem,k48,a,AV.bel,belL,nblt,hb,Bool.false_and,Bool.false_eq_true,simprocAttr];exact Ends.pureE rfl rfl
 have hsn: ∀(h:Hp) n b,hget h b=some {cells:=[.i .i64 nx,.fz (rows Flt.Hf.l hs) hs.length]}->k53 [.fz (rows Flt.Hf.l hs) hs.length,.fn 54 [.p b 0]] h n=some (true,{v:= .b (hsB nx none hs),n,rd:=[b]}):=fun h n b hb=>by
  simp only [k53,hu,Option.bind_some,hb,hj2,hf1,a,hf2,Bool.and_self]
 cases c:hsB nx none hs
 ·simp only [go_sem,k48,a,c,hsn,AV.bel,belL,nblt,hb,Bool.true_and,Bool.false_eq_true,simprocAttr];exact Ends.pureE rfl rfl
 ·simp only [go_sem,k48,a,c,hsn,AV.bel,belL,nblt,hb,Bool.true_and,simprocAttr];exact Ends.pureE rfl rfl
def k21:Ct
 |[.agg c],_,n=>(jn2 c).bind fun j=>some (jnF j,{v:= .i .i64 (if jnB j then 0 else 191),n})
 |_,_,_=>none
theorem s21:SoundAt Tryz.prog 21 k21:=fun args h n c E hc ht=>by
 unfold k21 at hc;split at hc
 ·simp only [Option.bind_eq_some_iff] at hc;obtain ⟨j,hj,he⟩:=hc;cases he;rw [jn2_eq hj];exact CallOK.pure (by kernel_rfl) (by simp only [belL,AV.bel,j.bel,Bool.and_self]) rfl (w21 j ht) _ _
 ·cases hc
end Go.Proofs.Flz
namespace Go.Proofs
open Go.Shelf
def Tryz.sortG_ren:Go.Shelf.Ren:=⟨fun|6=>87|15=>107|14=>106|28=>123|29=>124|20=>115|21=>116|22=>117|23=>118|24=>119|25=>120|26=>121|27=>122|46=>128|47=>129|48=>130|49=>131|50=>132|57=>137|n=>n,fun|22=>80|24=>32|25=>144|3=>3|39=>64|0=>0|53=>147|55=>150|4=>4|46=>175|45=>174|50=>107|5=>5|9=>9|66=>183|70=>131|76=>195|77=>196|n=>n,fun|n=>n⟩
theorem Tryz.sortG:Go.Proofs.SlLaysF0.n6 Tryz.prog Tryz.sortG_ren:={
 mixed:=by kernel_rfl
 f6:=⟨Tryz.f87.name,by decide,Tryz.func87.trans (congrArg some (by kernel_rfl))⟩
 f14:=⟨Tryz.f106.name,by decide,Tryz.func106.trans (congrArg some (by kernel_rfl))⟩
 f15:=Tryz.func107.trans (congrArg some (by kernel_rfl))
 f20:=⟨Tryz.f115.name,by decide,Tryz.func115.trans (congrArg some (by kernel_rfl))⟩
 f21:=⟨Tryz.f116.name,by decide,Tryz.func116.trans (congrArg some (by kernel_rfl))⟩
 f22:=⟨Tryz.f117.name,by decide,Tryz.func117.trans (congrArg some (by kernel_rfl))⟩
 f23:=⟨Tryz.f118.name,by decide,Tryz.func118.trans (congrArg some (by kernel_rfl))⟩
 f24:=⟨Tryz.f119.name,by decide,Tryz.func119.trans (congrArg some (by kernel_rfl))⟩
 f25:=⟨Tryz.f120.name,by decide,Tryz.func120.trans (congrArg some (by kernel_rfl))⟩
 f26:=⟨Tryz.f121.name,by decide,Tryz.func121.trans (congrArg some (by kernel_rfl))⟩
 f27:=⟨Tryz.f122.name,by decide,Tryz.func122.trans (congrArg some (by kernel_rfl))⟩
 f28:=Tryz.func123.trans (congrArg some (by kernel_rfl))
 f29:=Tryz.func124.trans (congrArg some (by kernel_rfl))
 f46:=⟨Tryz.f128.name,by decide,Tryz.func128.trans (congrArg some (by kernel_rfl))⟩
 f47:=Tryz.func129.trans (congrArg some (by kernel_rfl))
 f48:=Tryz.func130.trans (congrArg some (by kernel_rfl))
 f49:=⟨Tryz.f131.name,by decide,Tryz.func131.trans (congrArg some (by kernel_rfl))⟩
 f50:=⟨Tryz.f132.name,by decide,Tryz.func132.trans (congrArg some (by kernel_rfl))⟩
 f57:=⟨Tryz.f137.name,by decide,Tryz.func137.trans (congrArg some (by kernel_rfl))⟩
 t0:=Tryz.underlying0
 a0:=Tryz.isAgg0
 z0:=Tryz.sizeOf0
 v0:=Tryz.zeroValue0
 t3:=Tryz.underlying3
 a3:=Tryz.isAgg3
 z3:=Tryz.sizeOf3
 v3:=Tryz.zeroValue3
 t4:=Tryz.underlying4
 a4:=Tryz.isAgg4
 z4:=Tryz.sizeOf4
 v4:=Tryz.zeroValue4
 t5:=Tryz.underlying5
 a5:=Tryz.isAgg5
 z5:=Tryz.sizeOf5
 v5:=Tryz.zeroValue5
 t9:=Tryz.underlying9
 a9:=Tryz.isAgg9
 z9:=Tryz.sizeOf9
 v9:=Tryz.zeroValue9
 t22:=Tryz.underlying80
 a22:=Tryz.isAgg80
 z22:=Tryz.sizeOf80
 v22:=Tryz.zeroValue80
 t25:=Tryz.underlying144
 a25:=Tryz.isAgg144
 z25:=Tryz.sizeOf144
 v25:=Tryz.zeroValue144
 t39:=Tryz.underlying64
 a39:=Tryz.isAgg64
 z39:=Tryz.sizeOf64
 v39:=Tryz.zeroValue64
 t45:=Tryz.underlying174
 a45:=Tryz.isAgg174
 z45:=Tryz.sizeOf174
 v45:=Tryz.zeroValue174
 t46:=Tryz.underlying175
 a46:=Tryz.isAgg175
 z46:=Tryz.sizeOf175
 v46:=Tryz.zeroValue175
 t50:=Tryz.underlying107
 a50:=Tryz.isAgg107
 z50:=Tryz.sizeOf107
 v50:=Tryz.zeroValue107
 t53:=Tryz.underlying147
 a53:=Tryz.isAgg147
 z53:=Tryz.sizeOf147
 v53:=Tryz.zeroValue147
 t55:=Tryz.underlying150
 a55:=Tryz.isAgg150
 z55:=Tryz.sizeOf150
 v55:=Tryz.zeroValue150
 t66:=Tryz.underlying183
 a66:=Tryz.isAgg183
 z66:=Tryz.sizeOf183
 v66:=Tryz.zeroValue183
 t70:=Tryz.underlying131
 a70:=Tryz.isAgg131
 z70:=Tryz.sizeOf131
 v70:=Tryz.zeroValue131
 t76:=Tryz.underlying195
 a76:=Tryz.isAgg195
 z76:=Tryz.sizeOf195
 v76:=Tryz.zeroValue195
 t77:=Tryz.underlying196
 a77:=Tryz.isAgg196
 z77:=Tryz.sizeOf196
 v77:=Tryz.zeroValue196}
def Tryz.cmpInt_ren:Go.Shelf.Ren:=⟨fun|5=>63|7=>84|n=>n,fun|22=>3|3=>3|4=>4|n=>n,fun|n=>n⟩
theorem Tryz.cmpInt:Go.Proofs.SlLaysC2.n5 Tryz.prog Tryz.cmpInt_ren:={
 mixed:=by kernel_rfl
 f5:=⟨Tryz.f63.name,by decide,Tryz.func63.trans (congrArg some (by kernel_rfl))⟩
 f7:=⟨Tryz.f84.name,by decide,Tryz.func84.trans (congrArg some (by kernel_rfl))⟩
 t3:=Tryz.underlying3
 a3:=Tryz.isAgg3
 z3:=Tryz.sizeOf3
 v3:=Tryz.zeroValue3
 t4:=Tryz.underlying4
 a4:=Tryz.isAgg4
 z4:=Tryz.sizeOf4
 v4:=Tryz.zeroValue4
 t22:=Tryz.underlying3
 a22:=Tryz.isAgg3
 z22:=Tryz.sizeOf3
 v22:=Tryz.zeroValue3}
end Go.Proofs
namespace Go.Proofs.Flz
open Go Go.Shelf Go.RowKit Go.Lib Go.Sort
def encG (x:Int×Int):List Value:=[.int .i64 x.1,.int .i64 x.2]
set_option maxHeartbeats 1000000 in
theorem closG (x y:Int×Int) (W:World):Calls Tryz.prog 88 #[.agg #[.int .i64 x.1,.int .i64 x.2],.agg #[.int .i64 y.1,.int .i64 y.2]] W fun e w'=>e= .returned (.int .i64 (Lib.compareInt x.1 y.1))/\ ∃q os',w'=grow (W.drewN q) os':=by
 have hcon:=fun W'=>AnyG.cmp_Compare_int Tryz.cmpInt x.1 y.1 W';change ∀W',Calls Tryz.prog 63 _ _ _ at hcon;generalize Lib.compareInt x.1 y.1=r at hcon ⊢
 go_enter Tryz.func88,Tryz.ntmps88
 go_wp2_with (go_at_call 63;refine (hcon _).mono ?_;rintro e w' ⟨rfl,rfl⟩)
 go_ret
 exact ⟨rfl,0,_,by rw [alloc_eq_grow,alloc_eq_grow,grow_grow];rfl⟩
theorem cmpLaysG (blk off size:Nat) (w:World):CmpLays Tryz.prog 88 #[] encG 2 (fun x y=>Lib.compareInt x.1 y.1) blk off size w:=
 fun _ _ _ _ x y=>closG x y _
theorem ltLo (x y:Int×Int):ltOf (fun x y:Int×Int=>Lib.compareInt x.1 y.1) x y=decide (x.1<y.1):=by
 unfold ltOf Lib.compareInt;by_cases h1:x.1<y.1
 ·simp [h1]
 ·by_cases h2:y.1<x.1<;>simp [h1,h2]
theorem swoLo:SWO (ltOf fun x y:Int×Int=>Lib.compareInt x.1 y.1) where
 irrefl x:=by rw [ltLo];simp
 trans x y z h1 h2:=by rw [ltLo] at *;simp at *;omega
 ntrans x y z h1 h2:=by rw [ltLo] at *;simp at *;omega
end Go.Proofs.Flz
namespace Go.Proofs.Flt
open Go Go.Shelf Go.RowKit Go.Lib Go.Sort Go.Ab
def encP (x:Int×Int):List Value:=[.int .i64 x.1,.int .i64 x.2]
theorem Stp.stays {D:Nat->Prop} {φ:Phi} {H:Go.Ab.Hf} {w w':World} (hH:HR D φ H w) (hos:w'.os=w.os) (ht:w'.tape=w.tape) (ho:w'.output=w.output) (hsz:w.heap.size<=w'.heap.size) (hst: ∀c,c<w.heap.size->w'.heap[c]? =w.heap[c]?):Stp D φ H w D φ H w':=
 Stp.mk' hH rfl rfl (fun _ h=>h) (Agree.refl D φ).at_ ⟨fun b k hb=>⟨(hH.at_ b k hb).1,(hH.at_ b k hb).2.mono (fun _ h=>h) (Agree.refl _ _) (hH.at_ b k hb).1 (hst _ (hH.at_ b k hb).2.lt)⟩,hH.sep⟩
  ⟨hos,ht,ho,hsz,fun c hc _=>hst c hc⟩ (fun b k hb hk=> .inr ⟨b,k,hb,hk,rfl⟩)
theorem modify_cells {h:Array Obj} {B:Nat} {cs:Array Value} {elem:TypeId} {fr:Nat×Nat} {f:Array Value->Array Value} (hk:h[B]? =some (.cells cs elem fr)):h.modify B (onCells f)=h.setIfInBounds B (.cells (f cs) elem fr):=by
 apply Array.ext_getElem?;intro c;have hB:B<h.size:=by
  rcases Nat.lt_or_ge B h.size with h'|h'
  ·exact h'
  ·rw [Array.getElem?_eq_none h'] at hk;cases hk
 rw [Array.getElem?_modify,Array.getElem?_setIfInBounds];by_cases hc:B=c
 ·subst hc;rw [if_pos rfl,if_pos rfl,if_pos hB,hk];rfl
 ·rw [if_neg hc,if_neg hc]
theorem enc_at {D:Nat->Prop} {φ:Phi} {l:List (Int×Int)} {t:Nat} {u:Value} {v:AV} (ht:t<l.length*2) (hv:(rows gp l)[t]? =some v) (hu:VRel D φ v u):u=(encP l.toArray[t/2]!)[t % 2]! :=by
 have hk:t/2<l.length:=by omega
 have hg:l[t/2]? =some l[t/2]:=by simp [hk]
 have he:l.toArray[t/2]! =l[t/2]:=by simp [hk]
 rw [he];rcases Nat.mod_two_eq_zero_or_one t with h|h
 ·have:=rows_get gp_len (j:=0) (v:= .i .i64 l[t/2].1) hg rfl;rw [show t/2*2+0=t by omega,hv] at this
  cases this;cases hu;rw [h];rfl
 ·have:=rows_get gp_len (j:=1) (v:= .i .i64 l[t/2].2) hg rfl;rw [show t/2*2+1=t by omega,hv] at this
  cases this;cases hu;rw [h];rfl
theorem enc_to (D:Nat->Prop) (φ:Phi) {l:List (Int×Int)} {t:Nat} {v:AV} (hv:(rows gp l)[t]? =some v):VRel D φ v (encP l.toArray[t/2]!)[t % 2]! :=by
 have ht:t<l.length*2:=by
  rcases Nat.lt_or_ge t (rows gp l).length with h|h
  ·rwa [rows_len gp_len] at h
  ·rw [List.getElem?_eq_none h] at hv;cases hv
 have hk:t/2<l.length:=by omega
 have hg:l[t/2]? =some l[t/2]:=by simp [hk]
 have he:l.toArray[t/2]! =l[t/2]:=by simp [hk]
 rw [he];rcases Nat.mod_two_eq_zero_or_one t with h|h
 ·have:=rows_get gp_len (j:=0) (v:= .i .i64 l[t/2].1) hg rfl;rw [show t/2*2+0=t by omega,hv] at this
  cases this;rw [h];exact .i _ _
 ·have:=rows_get gp_len (j:=1) (v:= .i .i64 l[t/2].2) hg rfl;rw [show t/2*2+1=t by omega,hv] at this
  cases this;rw [h];exact .i _ _
def Srt (l:List (Int×Int)):Prop:=l.Pairwise fun x y=>x.1<=y.1
theorem srt_ok {P:Program} {f g:FuncId} {lt:Int×Int->Int×Int->Bool} (hlt: ∀x y,lt x y=decide (x.1<y.1))
 (hC: ∀(blk off cap:Nat) (d:Array (Int×Int)) (w:World),HoldsK encP 2 w blk off d->blk<w.heap.size->d.size<4611686018427387904->Calls P f #[.slice (some ⟨blk,off,none⟩) d.size cap,.func (.func g) #[] #[]] w fun e w'=>
   e= .returned (.tuple #[])/\ ∃d' n os,PermIn 0 d.size d d'/\SortedIn lt 0 d.size d'/\w'=sortWorldK encP 2 w blk off n d' os)
 (he:ext P f=false) (hy:f≠YB) {l L:List (Int×Int)} (hsz:l.length<4611686018427387904) (hL: ∀m,m.Perm l->Srt m->m=L):
 FTL P f [.sg 0 0 l.length,.fn g []] [(0,{cells:=rows gp l,gr:=some 2})] 1 (.tup []) [(0,{cells:=rows gp L,gr:=some 2})] 1:=by
 intro D φ w us hD hH ha;obtain ⟨u0,us1,rfl,h0,ha⟩:=ha.uncons;obtain ⟨u1,us2,rfl,h1,ha⟩:=ha.uncons;cases ha.unnil;obtain ⟨hg,mm,rfl,hm⟩:=h1.fn_inv;cases hm.unnil;cases h0 with
 |sg _ _ _ j cap h hj hc hl=>
 have hb0:=hH.at_ 0 _ rfl;obtain ⟨⟨cs,elem,fr,hk,hcs,hfr,hgr⟩,hgid⟩:=hb0.2;have hB:φ.blk 0<w.heap.size:=hb0.2.lt;have cell: ∀t,t<l.length*2->cs[φ.off 0+t]? =some (encP l.toArray[t/2]!)[t % 2]! :=fun t ht=>by
  have h2:t<(rows gp l).length:=by rw [rows_len gp_len];exact ht
  obtain ⟨u,h3,h4⟩:=hcs t (rows gp l)[t] (by simp [h2])
  rw [h3,enc_at ht (by simp [h2]) h4]
 have HH:HoldsK encP 2 w (φ.blk 0) (φ.off 0+0) l.toArray:=fun t ht=>by
  rw [size_flatK,List.size_toArray] at ht;rw [get_flatK _ _ _ t (by rw [List.size_toArray];exact ht)]
  have h3:=cell t ht;have hlt:φ.off 0+t<cs.size:=by
   rcases Nat.lt_or_ge (φ.off 0+t) cs.size with h'|h'
   ·exact h'
   ·rw [Array.getElem?_eq_none h'] at h3;cases h3
  refine ⟨?_,?_⟩
  ·simp only [World.cell?,hk,Nat.add_zero,Option.isSome_none,Bool.false_eq_true,if_false,h3];rfl
  ·have:=(hfr rfl).2 (φ.off 0+t) (.inl hlt);simp only [World.frozen?,hk,Nat.add_zero];simpa using this
 have hcall:=hC (φ.blk 0) (φ.off 0+0) cap l.toArray w HH hB (by rw [List.size_toArray];exact hsz)
 rw [List.size_toArray] at hcall;refine Ans.of (hcall.mono fun e w' hx=> ?_) hy he;obtain ⟨rfl,d',n,os,hp,hs,rfl⟩:=hx;have hsd:d'.size=l.length:=by simpa using hp.1
 have hd:d'.toList=L:=hL _ (by
  have:=hp.2.2;rw [Array.extract_eq_self_of_le (by omega),Array.extract_eq_self_of_le (by simp)] at this
  simpa using this) (by
  refine List.pairwise_iff_getElem.2 fun i j hi hj hij=> ?_;have:=hs i j (Nat.zero_le _) hij (by simpa [hsd] using hj)
  rw [hlt,getElem!_pos d' i (by simpa using hi),getElem!_pos d' j (by simpa using hj)] at this
  simpa using this)
 have hdL:d'=L.toArray:=by rw [<-hd]
 subst hdL;have hLl:L.length=l.length:=by simpa using hsd
 refine ⟨D,φ,_,rfl,hD,.tup [] #[] rfl (fun i a u h1=>by simp at h1),?_⟩
 have s1:Stp D φ (hget [(0,{cells:=rows gp l,gr:=some 2})]) w D φ (fun c=>if c=0 then some {cells:=rows gp L,gr:=some 2} else hget [(0,{cells:=rows gp l,gr:=some 2})] c) (putRowK encP 2 (Sort.ahead w n) (φ.blk 0) (φ.off 0+0) L.toArray):=
  Stp.write (k:={cells:=rows gp l,gr:=some 2}) (xs:=rows gp L) (cs':=putCells id (φ.off 0+0) (flatK encP 2 L.toArray) cs) hH rfl rfl hk (modify_cells (h:=w.heap) hk) rfl rfl rfl (by simp [putCells]) fun i v hv=>by
   have hi:i<L.length*2:=by
    rcases Nat.lt_or_ge i (rows gp L).length with h|h
    ·rwa [rows_len gp_len] at h
    ·rw [List.getElem?_eq_none h] at hv;cases hv
   refine ⟨_,?_,enc_to D φ hv⟩;rw [putCells,Array.getElem?_mapIdx,cell i (by omega),Option.map_some,if_pos ⟨by omega,by rw [size_flatK,List.size_toArray];omega⟩]
   rw [show φ.off 0+i-(φ.off 0+0)=i by omega,get_flatK _ _ _ i (by rw [List.size_toArray];exact hi)]
   rfl
 have eH:(fun c=>if c=0 then some {cells:=rows gp L,gr:=some 2} else hget [(0,{cells:=rows gp l,gr:=some 2})] c)=hget [(0,{cells:=rows gp L,gr:=some 2})]:=by
  funext c;by_cases hc:c=0
  ·subst hc;rfl
  ·rw [if_neg hc];cases c with
   |zero=>exact absurd rfl hc
   |succ c=>rfl
 rw [eH] at s1;refine s1.trans (Stp.stays s1.hr rfl rfl rfl (by rw [sortWorldK,size_grow];exact Nat.le_add_right _ _) fun c hc=> ?_)
 rw [sortWorldK,grow,Array.getElem?_append_left hc]
/-! insertion is the only order -/
def isort (l:List (Int×Int)):List (Int×Int):=l.foldr putG []
def apartB:List (Int×Int)->Bool
 |[]=>true
 |x::r=>r.all (fun y=> !(x.1==y.1))&&apartB r
theorem putG_perm (x:Int×Int): ∀l:List (Int×Int),(putG x l).Perm (x::l)
 |[]=> .refl _
 |y::l=>by
  rw [putG];cases decide (x.1<y.1)
  ·exact ((putG_perm x l).cons y).trans (.swap x y l)
  ·exact .refl _
theorem putG_srt (x:Int×Int): ∀l:List (Int×Int),Srt l->Srt (putG x l)
 |[],_=>by simp [putG,Srt]
 |y::l,h=>by
  rw [putG];unfold Srt at h ⊢;rw [List.pairwise_cons] at h;by_cases hx:x.1<y.1
  ·rw [decide_eq_true hx,cond_true,List.pairwise_cons];exact ⟨fun z hz=>by rcases List.mem_cons.1 hz with rfl|hz;· omega
                                                                           ·have:=h.1 z hz;omega,List.pairwise_cons.2 h⟩
  ·rw [decide_eq_false hx,cond_false,List.pairwise_cons];refine ⟨fun z hz=> ?_,putG_srt x l h.2⟩;rcases List.mem_cons.1 ((putG_perm x l).mem_iff.1 hz) with rfl|hz
   ·omega
   ·exact h.1 z hz
theorem isort_perm: ∀l:List (Int×Int),(isort l).Perm l
 |[]=> .refl _
 |x::l=>(putG_perm x _).trans ((isort_perm l).cons x)
theorem isort_srt: ∀l:List (Int×Int),Srt (isort l)
 |[]=> .nil
 |x::l=>putG_srt x _ (isort_srt l)
theorem apart_eq: ∀{l:List (Int×Int)},apartB l=true-> ∀a b,a∈l->b∈l->a.1=b.1->a=b
 |[],_,a,b,ha,_,_=>by cases ha
 |x::l,h,a,b,ha,hb,he=>by
  simp only [apartB,Bool.and_eq_true,List.all_eq_true,Bool.not_eq_true',beq_eq_false_iff_ne] at h;rcases List.mem_cons.1 ha with h1|h1<;>rcases List.mem_cons.1 hb with h2|h2
  ·rw [h1,h2]
  ·exact absurd (h1▸he) (h.1 b h2)
  ·exact absurd (h2▸he.symm) (h.1 a h1)
  ·exact apart_eq h.2 a b h1 h2 he
theorem isort_only {l m:List (Int×Int)} (h:apartB l=true) (hp:m.Perm l) (hs:Srt m):m=isort l:=
 List.Perm.eq_of_pairwise (le:=fun x y:Int×Int=>x.1<=y.1) (fun a b ha hb h1 h2=>apart_eq h a b (hp.mem_iff.1 ha) ((isort_perm l).mem_iff.1 hb) (by omega)) hs (isort_srt l) (hp.trans (isort_perm l).symm)
theorem isort_put {l:List (Int×Int)} {x:Int×Int} (h:apartB (l++[x])=true) (hs:Srt l):isort (l++[x])=putG x l:=
 (isort_only h ((putG_perm x l).trans (List.perm_append_singleton x l).symm) (putG_srt x l hs)).symm
end Go.Proofs.Flt
namespace Go.Proofs.Flz
open Go.Ab Go.Proofs.Flt
theorem sortW (blk off cap:Nat) (d:Array (Int×Int)) (w:World) (hH:Go.Sort.HoldsK encP 2 w blk off d) (hblk:blk<w.heap.size) (hsz:d.size<4611686018427387904):
 Calls Tryz.prog 87 #[.slice (some ⟨blk,off,none⟩) d.size cap,.func (.func 88) #[] #[]] w fun e w'=>
  e= .returned (.tuple #[])/\ ∃d' n os,Go.Sort.PermIn 0 d.size d d'/\Go.Sort.SortedIn (ltOf fun x y:Int×Int=>Lib.compareInt x.1 y.1) 0 d.size d'/\w'=Go.Proofs.sortWorldK encP 2 w blk off n d' os:=by
 have eg: ∀args w,(callFunc 88 args).run Tryz.prog w= .ok (.enter 88 args) w:=enters_of Tryz.func88 (by kernel_rfl) rfl
 exact AnyQ.slices_SortFunc Tryz.sortG 2 Tryz.isAgg32 Tryz.sizeOf32 encP (fun _=>rfl) (fun x v hv=>by simp [encP] at hv;rcases hv with rfl|rfl<;>rfl) (fun x y=>Lib.compareInt x.1 y.1) swoLo 88 #[] blk off cap d w eg (cmpLaysG blk off d.size w) hH hblk hsz
def k87:Ct
 |[.sg b 0 m,.fn 88 []],h,n=>(hget h b).bind fun k=>(unrows 2 gp2 m k.cells).bind fun l=>bif (k.gr==some 2)&&(!k.ro&&k.gid.isNone) then some (apartB l&&decide (l.length<4611686018427387904),{v:= .tup [],n,rd:=[b],md:=[(b,some {cells:=rows gp (isort l),gr:=some 2})]}) else none
 |_,_,_=>none
theorem s87:SoundAt Tryz.prog 87 k87:=fun args h n c E hc ht=>by
 unfold k87 at hc;split at hc
 ·rename_i b m;simp only [Option.bind_eq_some_iff] at hc;obtain ⟨k,hb,l,hl,hc⟩:=hc;obtain ⟨hkc,hm⟩:=unrows_eq (f:=gp) (fun c a h=>gp2_eq h) hl;subst hm;cases hk:((k.gr==some 2)&&(!k.ro&&k.gid.isNone)) with
  |false=>rw [hk] at hc;cases hc
  |true=>
   rw [hk] at hc;cases hc;simp only [Bool.and_eq_true,Bool.not_eq_true',beq_iff_eq,Option.isNone_iff_eq_none] at hk;obtain ⟨h1,h2,h3⟩:=hk;obtain ⟨cells,ro,gr,gid⟩:=k;simp only at h1 h2 h3 hkc;subst h1 h2 h3 hkc;simp only [Bool.and_eq_true,decide_eq_true_eq] at ht;exact CallOK.upd1 (argsL:=[.sg 0 0 l.length,.fn 88 []]) (by kernel_rfl) rfl (rows_bel gp_bel) (rows_bel gp_bel) rfl rfl hb
    (srt_ok ltLo sortW (by kernel_rfl) (by decide) ht.2 (fun m hp hs=>isort_only ht.1 hp hs))
 ·cases hc
end Go.Proofs.Flz
namespace Go.Proofs.Flt
open Go.Ab
structure GI (l:List (Int×Int)) (r:Int×Int) (rest:List (Int×Int)):Prop where
 ord:l.Pairwise fun x y=>x.2<y.1
 pos: ∀x∈l,x.1<x.2
 rp:r.1<r.2
 sep: ∀x∈l,x.2<r.1\/r.2<x.1
 beh: ∀x∈l,∀y∈rest,x.2<y.1
theorem GI.step {l:List (Int×Int)} {r x:Int×Int} {rest:List (Int×Int)} (h:GI l r (x::rest)) (hx:x.1<x.2) (hr: ∀y∈rest,x.2<y.1):GI (grow1 (l,r) x).1 (grow1 (l,r) x).2 rest:=by
 unfold grow1;cases hm:meetB r x
 ·rw [cond_false];have hs:x.2<r.1\/r.2<x.1:=by
   have h1:r.1<=x.2->r.2<x.1:=by simpa [meetB] using hm
   omega
  refine ⟨?_,?_,h.rp,?_,?_⟩
  ·rw [List.pairwise_append];refine ⟨h.ord,List.pairwise_singleton _ _,fun a ha b hb=> ?_⟩;rw [List.mem_singleton] at hb;subst hb;exact h.beh a ha b (List.mem_cons_self ..)
  ·intro y hy;rcases List.mem_append.1 hy with hy|hy
   ·exact h.pos y hy
   ·rw [List.mem_singleton] at hy;subst hy;exact hx
  ·intro y hy;rcases List.mem_append.1 hy with hy|hy
   ·exact h.sep y hy
   ·rw [List.mem_singleton] at hy;subst hy;exact hs
  ·intro y hy z hz;rcases List.mem_append.1 hy with hy|hy
   ·exact h.beh y hy z (List.mem_cons_of_mem _ hz)
   ·rw [List.mem_singleton] at hy;subst hy;exact hr z hz
 ·rw [cond_true];have hs:r.1<=x.2/\x.1<=r.2:=by simpa [meetB] using hm
  have hrp:=h.rp;refine ⟨h.ord,h.pos,?_,fun y hy=> ?_,fun y hy z hz=>h.beh y hy z (List.mem_cons_of_mem _ hz)⟩
  ·show min r.1 x.1<max r.2 x.2;omega
  ·have h1:=h.sep y hy;have h2:=h.beh y hy x (List.mem_cons_self ..);have h3:=h.pos y hy;show y.2<min r.1 x.1\/max r.2 x.2<y.1;omega
theorem GI.fold: ∀{rest l:List (Int×Int)} {r:Int×Int},GI l r rest->(rest.Pairwise fun x y=>x.2<y.1)->(∀x∈rest,x.1<x.2)->GI (rest.foldl grow1 (l,r)).1 (rest.foldl grow1 (l,r)).2 []
 |[],l,r,h,_,_=>h
 |x::rest,l,r,h,hp,hx=>by
  rw [List.pairwise_cons] at hp;exact GI.fold (rest:=rest) (h.step (hx x (List.mem_cons_self ..)) hp.1) hp.2 (fun y hy=>hx y (List.mem_cons_of_mem _ hy))
theorem gotB_pos {ln:Int}: ∀{l:List (Int×Int)} {b:Option Int},gotB ln b l=true->(l.Pairwise fun x y=>x.2<y.1)/\(∀x∈l,x.1<x.2)/\(∀e,b=some e-> ∀x∈l,e<x.1)
 |[],_,_=>⟨.nil,(fun _ h=>by cases h),(fun _ _ _ h=>by cases h)⟩
 |y::l,b,h=>by
  simp only [gotB,Bool.and_eq_true,decide_eq_true_eq] at h;obtain ⟨h1,h2,h3,h4,h5⟩:=h;obtain ⟨i1,i2,i3⟩:=gotB_pos h5;refine ⟨List.pairwise_cons.2 ⟨fun z hz=>i3 _ rfl z hz,i1⟩,fun z hz=> ?_,fun e he z hz=> ?_⟩
  ·rcases List.mem_cons.1 hz with rfl|hz
   ·exact h2
   ·exact i2 z hz
  ·subst he;have h4':e<y.1:=by simpa using h4
   rcases List.mem_cons.1 hz with rfl|hz
   ·exact h4'
   ·have:=i3 _ rfl z hz;omega
theorem apartB_of {l:List (Int×Int)} (h:l.Pairwise fun x y=>x.1≠y.1):apartB l=true:=by
 induction l with
 |nil=>rfl
 |cons x l ih=>
  rw [List.pairwise_cons] at h;simp only [apartB,Bool.and_eq_true,List.all_eq_true,Bool.not_eq_true',beq_eq_false_iff_ne];exact ⟨h.1,ih h.2⟩
theorem GI.srt {l:List (Int×Int)} {r:Int×Int} (h:GI l r []):apartB (l++[r])=true/\isort (l++[r])=putG r l:=by
 have ha:apartB (l++[r])=true:=apartB_of (by
  rw [List.pairwise_append];refine ⟨?_,List.pairwise_singleton _ _,fun a ha b hb=> ?_⟩
  ·exact h.ord.imp_of_mem fun {a b} ha hb hab=>by have:=h.pos a ha;omega
  ·rw [List.mem_singleton] at hb;subst hb;have h1:=h.sep a ha;have h2:=h.pos a ha;have h3:=h.rp;omega)
 exact ⟨ha,isort_put ha (h.ord.imp_of_mem fun {a b} ha hb hab=>by have:=h.pos a ha;omega)⟩
theorem got_srt {ln:Int} {got:List (Int×Int)} {r:Int×Int} (hg:gotB ln none got=true) (hr:r.1<r.2):apartB ((got.foldl grow1 ([],r)).1++[(got.foldl grow1 ([],r)).2])=true/\isort ((got.foldl grow1 ([],r)).1++[(got.foldl grow1 ([],r)).2])=putG (got.foldl grow1 ([],r)).2 (got.foldl grow1 ([],r)).1:=by
 obtain ⟨h1,h2,_⟩:=gotB_pos hg;exact GI.srt (GI.fold ⟨.nil,(fun _ h=>by cases h),hr,(fun _ h=>by cases h),(fun _ h=>by cases h)⟩ h1 h2)
end Go.Proofs.Flt
namespace Go.Proofs.Flz
open Go.Ab Go.Proofs.Flt
theorem FTLx.of_seamX {f:FuncId} {P:Program} {fn:Func} {I:IFn} {cx:Cx} {args:List AV} {pn:Option Value} {n:Nat} {h:Hp} {v2:AV} {h2:Hp} {n2:Nat} (hf:P.funcs[f]? =some fn) (hI:compF P fn=some I) (hnp:args.length<=I.N)
 (hi:Seam ⟨P,cx,I.ct,I.N,n⟩ I.code (retX I.res fun p v h' n'=>p=pn/\CovS n v h' n' v2 h2 n2) (argEnv 0 args) h n):FTLx P f args h n pn v2 h2 n2:=
 FTLx.of_wpC Cov.covs hf hI hnp (fun c hc=>hi c hc)
def filB (h:Flt.Hf) (p:Pc):Bool:=gotB h.ln none h.got&&(((h.bd.length:Int)==h.ln)&&(inW h.ln 4000&&(wholeB p&&decide (0<=p.ofs))))
def filP (r:Option Flt.Hf):Option Value:=match r with
 |some _=>none
 |none=>some (refV 5)
theorem fil_no {h:Flt.Hf} {p:Pc} {k:Nat} {x:Int×Int} (hx:h.got[k]? =some x) (ha:agreeB h p x=false):fillS h p=none:=by
 have:h.got.all (agreeB h p)=false:=by
  rw [List.all_eq_false];exact ⟨x,List.mem_of_getElem? hx,by rw [ha];decide⟩
 unfold fillS;rw [this,Bool.and_false,Bool.and_false,cond_false]
def TC17:List (Nat×Ct):=[(59,k59),(87,k87)]
theorem hTC17:Sound Tryz.prog (cxT TC17):=Sound.cons s59 (Sound.cons s87 Sound.nil)
noncomputable abbrev F17:Fx:=⟨Tryz.prog,cxT TC17,[45,109,121,135],163,1⟩
theorem w65 (h:Flt.Hf) (p:Pc) (hc:filB h p=true):FTLx Tryz.prog 65 [.p 0 0,.agg p.l] [(0,{cells:=h.l})] 1 (filP (fillS h p)) (.tup []) [(0,{cells:=((fillS h p).getD h).l})] 1:=by
 simp only [filB,Bool.and_eq_true,decide_eq_true_eq,beq_iff_eq] at hc;obtain ⟨hg,hbl,hln,hw,hpo⟩:=hc;obtain ⟨kd,ln,sq,bd,got⟩:=h;obtain ⟨pk,pl,ps,po,pt⟩:=p;dsimp only at hg hbl hpo hln;have hln:=inW_t hln;simp only [wholeB,Bool.and_eq_true,decide_eq_true_eq,beq_iff_eq] at hw;obtain ⟨hw1,hw2,hw3,hw4⟩:=hw;have hb:=fun j=>grB j got;have hGr:=fun ψ=>grR ψ got;have hno: ∀k x,got[k]? =some x->agreeB ⟨kd,ln,sq,bd,got⟩ ⟨pk,pl,ps,po,pt⟩ x=false->fillS ⟨kd,ln,sq,bd,got⟩ ⟨pk,pl,ps,po,pt⟩=none:=fun k x hx ha=>fil_no hx ha;obtain ⟨R,hR⟩: ∃R,R=fillS ⟨kd,ln,sq,bd,got⟩ ⟨pk,pl,ps,po,pt⟩:=⟨_,rfl⟩;rw [<-hR] at hno ⊢;obtain ⟨Z,hZ⟩: ∃Z,Z=(R.getD ⟨kd,ln,sq,bd,got⟩).l:=⟨_,rfl⟩;have hZ0:R=none->Z=[.i .i64 kd,.i .i64 ln,.i .i64 sq,.s bd,.fz (rows gp got) got.length]:=fun h=>by rw [hZ,h];rfl
 rw [<-hZ];refine FTLx.of_seamX (cx:=cxT TC17) Tryz.func65 i65_eq (by simp [i65]) ?_
 dsimp only [i65];refine Seam.part (F:=F17) hTC17 mo ?_;dsimp only [F17,TC17];simp only [go_sem,Pc.l,Flt.Hf.l,simprocAttr];refine Seam.part (F:=F17) hTC17 mo ?_;dsimp only [F17,TC17];cases c1:(kd==pk)
 ·have:fillS ⟨kd,ln,sq,bd,got⟩ ⟨pk,pl,ps,po,pt⟩=none:=by simp [fillS,c1]
  rw [this] at hR;subst hR;rw [hZ0 rfl];simp only [go_sem,k59,c1,AV.bel,belL,nblt,hb,simprocAttr];exact ⟨rfl,CovS.ends (Ends.keep1 rfl rfl (by simp only [belL,AV.bel,hb];rfl) rfl rfl)⟩
 cases c2:(ln==pl)
 ·have:fillS ⟨kd,ln,sq,bd,got⟩ ⟨pk,pl,ps,po,pt⟩=none:=by simp [fillS,c1,c2]
  rw [this] at hR;subst hR;rw [hZ0 rfl];simp only [go_sem,k59,c1,c2,AV.bel,belL,nblt,hb,simprocAttr];exact ⟨rfl,CovS.ends (Ends.keep1 rfl rfl (by simp only [belL,AV.bel,hb];rfl) rfl rfl)⟩
 simp only [go_sem,k59,c1,c2,AV.bel,belL,nblt,hb,simprocAttr];have hlp:ln=pl:=by simpa using c2
 have w1:IntKind.i64.wrap (po+(pt.length:Int))=po+(pt.length:Int):=wrapL (by omega) (by omega)
 refine Seam.part (F:=F17) hTC17 mo ?_;dsimp only [F17,TC17];simp only [go_sem,w1,simprocAttr];refine Seam.part (F:=F17) hTC17 mo ?_;dsimp only [F17,TC17];simp only [go_sem,AV.bel,belL,nblt,hb,simprocAttr];have hgl:=got_len hg hln.1;have hGk: ∀k x,got[k]? =some x->List.take 2 (List.drop (k*2) (rows gp got))=gp x:=fun k x hx=>rows_at gp_len hx;have zR:(rows gp got).length=got.length*2:=rows_len gp_len;refine Loop.countI (F:=F17) hTC17 mo got.length (fun k=> ∀j x,j<k->got[j]? =some x->agreeB ⟨kd,ln,sq,bd,got⟩ ⟨pk,pl,ps,po,pt⟩ x=true)
  (fun k=>[(44,.i .i64 (k:Int)),(43,.i .i64 (got.length:Int)),(42,.fz (rows gp got) got.length),(4,.i .i64 (po+(pt.length:Int))),(3,.p 1 0),(0,.p 0 0)])
  (fun k=>[(0,{cells:=[.i .i64 kd,.i .i64 ln,.i .i64 sq,.s bd,.fz (rows gp got) got.length]}),(1,{cells:=[.i .i64 pk,.i .i64 pl,.i .i64 ps,.i .i64 po,.s pt]})]) 2 (by decide) (fun j x hj=>absurd hj (by omega)) ?_ ?_ (fun k hk hok=> ?_)
 ·simp only [go_sem,AV.bel,belL,nblt,hb,simprocAttr]
 ·simp only [go_sem,AV.bel,belL,nblt,hb,simprocAttr]
 dsimp only [F17,TC17];by_cases hlt:k<got.length
 ·obtain ⟨x,hx⟩: ∃x,got[k]? =some x:=⟨_,List.getElem?_eq_getElem hlt⟩;have hr:=hGk k x hx;obtain ⟨q1,q2,q3,_⟩:=got_at hg hx;have c1':decide ((k:Int)<(got.length:Int))=true:=decide_eq_true (by omega)
  have c2':decide (0<=(k:Int)/\(k:Int)<(got.length:Int))=true:=decide_eq_true (by omega)
  have hwr:IntKind.i64.wrap ((k:Int)+1)=((k+1:Nat):Int):=by rw [wrapL (by omega) (by omega)];omega
  have hno:=hno k x hx;have hag:agreeB ⟨kd,ln,sq,bd,got⟩ ⟨pk,pl,ps,po,pt⟩ x=(decide (max x.1 po>=min x.2 (po+(pt.length:Int)))||((bd.drop (max x.1 po).toNat).take (min x.2 (po+(pt.length:Int))-max x.1 po).toNat==(pt.drop (max x.1 po-po).toNat).take (min x.2 (po+(pt.length:Int))-max x.1 po).toNat)):=rfl;have hstep:agreeB ⟨kd,ln,sq,bd,got⟩ ⟨pk,pl,ps,po,pt⟩ x=true-> ∀j y,j<k+1->got[j]? =some y->agreeB ⟨kd,ln,sq,bd,got⟩ ⟨pk,pl,ps,po,pt⟩ y=true:=fun h j y hj hy=>by
   rcases Nat.lt_or_ge j k with h1|h1
   ·exact hok j y h1 hy
   ·have:j=k:=by omega
    subst this;rw [hx] at hy;cases hy;exact h
  obtain ⟨x1,x2⟩:=x;dsimp only at*;simp only [gp] at hr;have a1:po<=max x1 po:=by omega
  have a2:min x2 (po+(pt.length:Int))<=po+(pt.length:Int):=by omega
  have a3:min x2 (po+(pt.length:Int))<=ln:=by omega
  generalize hA:max x1 po=a at*;generalize hB:min x2 (po+(pt.length:Int))=b at*;cases d1:decide (a>=b)
  ·rw [d1,Bool.false_or] at hag;have d1':=of_decide_eq_false d1;have w2:IntKind.i64.wrap (a-po)=a-po:=wrapL (by omega) (by omega)
   have w3:IntKind.i64.wrap (b-po)=b-po:=wrapL (by omega) (by omega)
   have s1:decide (0<=a/\a<=b/\b<=(bd.length:Int))=true:=decide_eq_true (by omega)
   have s2:decide (0<=a-po/\a-po<=b-po/\b-po<=(pt.length:Int))=true:=decide_eq_true (by omega)
   have e1:(bd.drop a.toNat).take (b-a).toNat=List.drop a.toNat (List.take b.toNat bd):=by rw [List.drop_take];congr 1;omega
   have e2:(pt.drop (a-po).toNat).take (b-a).toNat=List.drop (a-po).toNat (List.take (b-po).toNat pt):=by rw [List.drop_take];congr 1;omega
   rw [e1,e2] at hag;generalize hu:List.drop a.toNat (List.take b.toNat bd)=U at*;generalize hv:List.drop (a-po).toNat (List.take (b-po).toNat pt)=V at*;cases d2:(U==V)
   ·have hRn:=hno (hag.trans d2);rw [hRn,hZ0 hRn];simp only [go_sem,k59,hA,hB,c1',c2',hr,d1,d2,w2,w3,s1,s2,hu,hv,AV.bel,belL,nblt,hb,simprocAttr];exact ⟨rfl,CovS.ends (Ends.keep1 rfl rfl (by simp only [belL,AV.bel,hb];rfl) rfl rfl)⟩
   ·have hst:=hstep (hag.trans d2);simp only [go_sem,k59,hA,hB,c1',c2',hr,d1,d2,w2,w3,s1,s2,hu,hv,hwr,AV.bel,belL,nblt,hb,simprocAttr];exact ⟨hlt,hst⟩
  ·rw [d1,Bool.true_or] at hag;have hst:=hstep hag;simp only [go_sem,k59,hA,hB,c1',c2',hr,d1,hwr,AV.bel,belL,nblt,hb,simprocAttr];exact ⟨hlt,hst⟩
 have hkl:k=got.length:=by omega
 subst hkl;have hall:got.all (agreeB ⟨kd,ln,sq,bd,got⟩ ⟨pk,pl,ps,po,pt⟩)=true:=by
  rw [List.all_eq_true];intro x hx;obtain ⟨j,hj,rfl⟩:=List.getElem_of_mem hx;exact hok j _ hj (List.getElem?_eq_getElem hj)
 have c1':decide ((got.length:Int)<(got.length:Int))=false:=decide_eq_false (by omega)
 simp only [go_sem,c1',simprocAttr];clear c1' hok hk hlt hno;have hRs:R=some ⟨kd,ln,sq,bd.take po.toNat++pt++bd.drop (po.toNat+pt.length),if pt=[] then got else gotS got (po,po+pt.length)⟩:=by
  rw [hR];simp only [fillS,c1,c2,hall,Bool.and_self,cond_true]
 have hZ1:Z=[.i .i64 kd,.i .i64 ln,.i .i64 sq,.s (bd.take po.toNat++pt++bd.drop (po.toNat+pt.length)),.fz (rows gp (if pt=[] then got else gotS got (po,po+pt.length))) (if pt=[] then got else gotS got (po,po+pt.length)).length]:=by rw [hZ,hRs];rfl
 have hP:filP R=none:=by rw [hRs];rfl
 rw [hP];clear hR hZ hZ0 hP hRs;have s1:decide (0<=po/\po<=(bd.length:Int))=true:=decide_eq_true (by omega)
 have s2:decide (0<=po+(pt.length:Int)/\po+(pt.length:Int)<=(bd.length:Int))=true:=decide_eq_true (by omega)
 have e1:List.drop (po+(pt.length:Int)).toNat bd=bd.drop (po.toNat+pt.length):=by
  rw [show (po+(pt.length:Int)).toNat=po.toNat+pt.length by omega]
 have l1:(bd.take po.toNat).length=po.toNat:=by rw [List.length_take];omega
 have l2:(bd.drop (po.toNat+pt.length)).length=bd.length-(po.toNat+pt.length):=by rw [List.length_drop]
 have l3:decide (po.toNat+pt.length<=9223372036854775807)=true:=decide_eq_true (by omega)
 have l4:decide (po.toNat+pt.length+(bd.length-(po.toNat+pt.length))<=9223372036854775807)=true:=decide_eq_true (by omega)
 generalize hB1:bd.take po.toNat=B1 at*;generalize hB3:bd.drop (po.toNat+pt.length)=B3 at*;refine Seam.part (F:=F17) hTC17 mo ?_;dsimp only [F17,TC17];simp only [go_sem,s1,s2,e1,hB1,l1,l2,l3,l4,List.length_append,AV.bel,belL,nblt,hb,simprocAttr];refine Seam.part (F:=F17) hTC17 mo ?_;dsimp only [F17,TC17];by_cases hpt:pt=[]
 ·have c3:(pt==([]:List UInt8))=true:=by rw [hpt];rfl
  rw [if_pos hpt] at hZ1;rw [hZ1];simp only [go_sem,c3,AV.bel,belL,nblt,hb,simprocAttr];exact CovS.ends (Ends.keep1 rfl rfl (by simp only [belL,AV.bel,hb];rfl) rfl rfl)
 have c3:(pt==([]:List UInt8))=false:=by simpa using hpt
 rw [if_neg hpt] at hZ1;simp only [go_sem,c3,AV.bel,belL,nblt,hb,simprocAttr];refine Seam.part (F:=F17) hTC17 mo ?_;dsimp only [F17,TC17];simp only [go_sem,AV.bel,belL,nblt,hb,simprocAttr];refine Seam.part (F:=F17) hTC17 mo ?_;dsimp only [F17,TC17];simp only [go_sem,AV.bel,belL,nblt,hb,simprocAttr];refine Seam.part (F:=F17) hTC17 mo ?_;dsimp only [F17,TC17];simp only [go_sem,AV.bel,belL,nblt,hb,simprocAttr];obtain ⟨S,hS⟩: ∃S:Nat->List (Int×Int)×(Int×Int),S=fun k=>(got.take k).foldl grow1 ([],(po,po+(pt.length:Int))):=⟨_,rfl⟩;have hS0:S 0=([],(po,po+(pt.length:Int))):=by rw [hS];rfl
 have hSs: ∀k x,got[k]? =some x->S (k+1)=grow1 (S k) x:=fun k x hx=>by
  rw [hS];obtain ⟨h1,rfl⟩:=List.getElem?_eq_some_iff.1 hx;show (got.take (k+1)).foldl _ _=_;rw [<-List.take_append_getElem h1,List.foldl_append];rfl
 have hSl: ∀k,k<=got.length->(S k).1.length<=k:=fun k=>by
  induction k with
  |zero=>intro _;rw [hS0];exact Nat.le_refl _
  |succ k ih=>
   intro hk;rw [hSs k _ (List.getElem?_eq_getElem (show k<got.length by omega))]
   have:=ih (by omega)
   unfold grow1;cases meetB (S k).2 got[k]
   ·rw [cond_false,List.length_append];simpa using this
   ·rw [cond_true];show (S k).1.length<=k+1;omega
 have hSg:gotS got (po,po+(pt.length:Int))=putG (S got.length).2 (S got.length).1:=by
  have:S got.length=got.foldl grow1 ([],(po,po+(pt.length:Int))):=by rw [hS];show (got.take got.length).foldl _ _=_;rw [List.take_length]
  rw [this];rfl
 rw [hSg] at hZ1;have hSr:apartB ((S got.length).1++[(S got.length).2])=true/\isort ((S got.length).1++[(S got.length).2])=putG (S got.length).2 (S got.length).1:=by
  have h1:S got.length=got.foldl grow1 ([],(po,po+(pt.length:Int))):=by rw [hS];show (got.take got.length).foldl _ _=_;rw [List.take_length]
  have h2:0<pt.length:=List.length_pos_iff.2 hpt;rw [h1];exact got_srt hg (by show po<po+(pt.length:Int);omega)
 clear hS hSg hg hall;have gqN:gQ gp 2 ([]:List (Int×Int))= .nil:=rfl;have gqC: ∀l:List (Int×Int),l≠[]->gQ gp 2 l= .sg {cells:=rows gp l,gr:=some 2} 0 l.length:=fun l h=>by unfold gQ;rw [if_neg (by simpa using h)]
 refine Loop.stepR (F:=F17) hTC17 mo (X:=Nat) (fun k=>k<=got.length) (fun k=>got.length-k)
  (fun k=>[(0,.p 0 0),(9,.p 2 0),(10,(gQ gp 2 (S k).1).v 3),(118,.fz (rows gp got) got.length),(119,.i .i64 (got.length:Int)),(120,.i .i64 (k:Int))])
  (fun k=>(gQ gp 2 (S k).1).h 3++[(2,{cells:=gp (S k).2}),(0,{cells:=[.i .i64 kd,.i .i64 ln,.i .i64 sq,.s (B1++pt++B3),.fz (rows gp got) got.length]})]) 4 0 (fun k=>k+1) [] (fun k=>match got[k]? with|some x=>bif meetB (S k).2 x then [] else [(3,6)]|none=>[]) (by decide) (by decide) (fun k=>by
   cases got[k]? with
   |none=>show rnOK [] 1 4=true;decide
   |some x=>show rnOK (bif meetB (S k).2 x then [] else [(3,6)]) 1 4=true;cases meetB (S k).2 x<;>decide) (Nat.zero_le _) ?_ ?_ (fun k hk=> ?_)
 ·simp only [go_sem,hS0,gqN,AV.ren,renL,AV.bel,belL,nblt,hb,hGr,simprocAttr]
 ·simp only [go_sem,hS0,gqN,gp,AV.ren,renL,AV.bel,belL,nblt,Blk.ren,hb,hGr,simprocAttr]
 dsimp only [F17,TC17];by_cases hlt:k<got.length
 ·obtain ⟨x,hx⟩: ∃x,got[k]? =some x:=⟨_,List.getElem?_eq_getElem hlt⟩;have hr:=hGk k x hx;have c4:decide ((k:Int)<(got.length:Int))=true:=decide_eq_true (by omega)
  have c5:decide (0<=(k:Int)/\(k:Int)<(got.length:Int))=true:=decide_eq_true (by omega)
  have hwr:IntKind.i64.wrap ((k:Int)+1)=((k+1:Nat):Int):=by rw [wrapL (by omega) (by omega)];omega
  have hl:=hSl k hk;have hs1:=hSs k x hx;have hsk:got.length-(k+1)<got.length-k:=by omega
  rw [hs1,hx];rcases hSk:S k with ⟨l,r1,r2⟩
  rw [hSk] at hl;obtain ⟨x1,x2⟩:=x;dsimp only at hl ⊢;simp only [gp] at hr;have gm:decide (16*(l.length+1)<=growMax)=true:=decide_eq_true (by simp only [growMax];omega)
  have zL:(rows gp l).length=l.length*2:=rows_len gp_len;have hk1:(k+1<=got.length)=True:=eq_true (by omega)
  have gm1:decide (16<=growMax)=true:=by decide
  have lap:rows gp (l++[(x1,x2)])=rows gp l++[.i .i64 x1,.i .i64 x2]:=by rw [rows_append];rfl
  have lbx: ∀j,belL j (rows gp l++[.i .i64 x1,.i .i64 x2])=true:=fun j=>by rw [<-lap];exact grB j _
  have lrx: ∀ψ,renL ψ (rows gp l++[.i .i64 x1,.i .i64 x2])=rows gp l++[.i .i64 x1,.i .i64 x2]:=fun ψ=>by rw [<-lap];exact grR ψ _
  have lb:=fun j=>grB j l;have lr:=fun ψ=>grR ψ l;cases m1:decide (x2<r1)
  ·cases m2:decide (x1>r2)
   ·have hm:meetB (r1,r2) (x1,x2)=true:=by simp only [meetB,m1,m2];rfl
    have hgr:grow1 (l,r1,r2) (x1,x2)=(l,min r1 x1,max r2 x2):=by unfold grow1;rw [hm];rfl
    rw [hgr,hm];dsimp only [cond_true];by_cases hln0:l=[]
    ·subst hln0;simp only [go_sem,gqN,gp,c4,c5,hwr,hr,m1,m2,hlt,hsk,hk1,gm1,AV.bel,belL,nblt,Blk.ren,renL,AV.ren,hb,hGr,simprocAttr]
    ·rw [gqC l hln0];simp only [go_sem,gp,c4,c5,hwr,hr,m1,m2,hlt,hsk,hk1,gm1,lb,lr,AV.bel,belL,nblt,Blk.ren,renL,AV.ren,hb,hGr,simprocAttr]
   ·have hm:meetB (r1,r2) (x1,x2)=false:=by simp only [meetB,m1,m2];rfl
    have hgr:grow1 (l,r1,r2) (x1,x2)=(l++[(x1,x2)],r1,r2):=by unfold grow1;rw [hm];rfl
    rw [hgr,hm];dsimp only [cond_false];rw [gQ_snoc];simp only [gS,gp];by_cases hln0:l=[]
    ·subst hln0;simp only [go_sem,gqN,gp,c4,c5,hwr,hr,m1,m2,hlt,hsk,hk1,gm1,rows_nil,gm,AV.bel,belL,nblt,Blk.ren,renL,AV.ren,hb,hGr,simprocAttr]
    ·rw [gqC l hln0];simp only [go_sem,gp,c4,c5,hwr,hr,m1,m2,hlt,hsk,hk1,gm1,lbx,lrx,lb,lr,zL,gm,AV.bel,belL,nblt,Blk.ren,renL,AV.ren,hb,hGr,simprocAttr]
  ·have hm:meetB (r1,r2) (x1,x2)=false:=by simp only [meetB,m1];rfl
   have hgr:grow1 (l,r1,r2) (x1,x2)=(l++[(x1,x2)],r1,r2):=by unfold grow1;rw [hm];rfl
   rw [hgr,hm];dsimp only [cond_false];rw [gQ_snoc];simp only [gS,gp];by_cases hln0:l=[]
   ·subst hln0;simp only [go_sem,gqN,gp,c4,c5,hwr,hr,m1,hlt,hsk,hk1,gm1,rows_nil,gm,AV.bel,belL,nblt,Blk.ren,renL,AV.ren,hb,hGr,simprocAttr]
   ·rw [gqC l hln0];simp only [go_sem,gp,c4,c5,hwr,hr,m1,hlt,hsk,hk1,gm1,lbx,lrx,lb,lr,zL,gm,AV.bel,belL,nblt,Blk.ren,renL,AV.ren,hb,hGr,simprocAttr]
 have hkl:k=got.length:=by omega
 subst hkl;have c4:decide ((got.length:Int)<(got.length:Int))=false:=decide_eq_false (by omega)
 simp only [go_sem,c4,simprocAttr];have hl:=hSl _ hk;rcases hSk:S got.length with ⟨l,r1,r2⟩
 rw [hSk] at hl hZ1 hSr;dsimp only at hl hZ1 hSr ⊢;have gm:decide (16*(l.length+1)<=growMax)=true:=decide_eq_true (by simp only [growMax];omega)
 have gm1:decide (16<=growMax)=true:=by decide
 have zL:(rows gp l).length=l.length*2:=rows_len gp_len;obtain ⟨hap,hso⟩:apartB (l++[(r1,r2)])=true/\isort (l++[(r1,r2)])=putG (r1,r2) l:=hSr;have lap:rows gp (l++[(r1,r2)])=rows gp l++[.i .i64 r1,.i .i64 r2]:=by rw [rows_append];rfl
 have lpl:(putG (r1,r2) l).length=l.length+1:=(putG_perm _ _).length_eq;have hu:unrows 2 gp2 (l.length+1) (rows gp (l++[(r1,r2)]))=some (l++[(r1,r2)]):=by
  have:=unrows_rows gp_len gp2_l (l++[(r1,r2)]);rwa [List.length_append] at this
 have hll:decide ((l++[(r1,r2)]).length<4611686018427387904)=true:=decide_eq_true (by rw [List.length_append];simp;omega)
 have hsrt: ∀(h:Hp) n,hget h 5=some {cells:=rows gp (l++[(r1,r2)]),gr:=some 2}->k87 [.sg 5 0 (l.length+1),.fn 88 []] h n=some (true,{v:= .tup [],n,rd:=[5],md:=[(5,some {cells:=rows gp (putG (r1,r2) l),gr:=some 2})]}):=fun h n hb=>by
  simp only [k87,hb,Option.bind_some,hu,hap,hso,hll];rfl
 rw [lpl] at hZ1;have tail:Seam F17 (.seq (.reg i65r23) (.reg i65r24)) (retX [] fun p v h' n'=>p=none/\CovS 1 v h' n' (.tup []) [(0,{cells:=Z})] 1) [(0,.p 0 0),(10,.sg 5 0 (l.length+1))] [(5,{cells:=rows gp (l++[(r1,r2)]),gr:=some 2}),(0,{cells:=[.i .i64 kd,.i .i64 ln,.i .i64 sq,.s (B1++pt++B3),.fz (rows gp got) got.length]})] 6:=by
  refine Seam.part (F:=F17) hTC17 mo ?_;dsimp only [F17,TC17];generalize rows gp (l++[(r1,r2)])=G0 at*;simp only [go_sem,hsrt,AV.bel,belL,nblt,simprocAttr];refine Seam.run (F:=F17) hTC17 mo ?_;dsimp only [F17,TC17];simp only [go_sem,AV.bel,belL,nblt,simprocAttr];rw [hZ1];refine CovS.frzH (b:=5) (o:=0) (m:=l.length+1) (x:= .sg 5 0 (l.length+1)) (cs:=rows gp (putG (r1,r2) l)) (v':= .tup []) (h':=[(0,{cells:=[.i .i64 kd,.i .i64 ln,.i .i64 sq,.s (B1++pt++B3),.fz (rows gp (putG (r1,r2) l)) (l.length+1)]})]) rfl rfl (.inr rfl) (.inl rfl) FzV.refl ?_ ?_
  ·exact ⟨⟨by decide,_,rfl,rfl,rfl,rfl,FzV.refl,FzV.refl,FzV.refl,FzV.refl,FzV.hit,trivial⟩,trivial⟩
  ·exact CovS.ends (Ends.keep1 rfl rfl (by simp only [belL,AV.bel,grB];rfl) rfl rfl)
 refine Seam.part (F:=F17) hTC17 mo ?_;dsimp only [F17,TC17];by_cases hln0:l=[]
 ·subst hln0;rw [gqN];simp only [go_sem,gp,rows_nil,gm,gm1,AV.bel,belL,nblt,simprocAttr];exact Seam.ren [] tail (by decide) (by decide) (by simp only [go_sem,AV.bel,belL,nblt,AV.ren,renL,simprocAttr]) (by rw [lap];simp only [go_sem,rows_nil,AV.bel,belL,nblt,AV.ren,renL,Blk.ren,hb,hGr,simprocAttr])
 ·rw [gqC l hln0];simp only [go_sem,gp,zL,gm,AV.bel,belL,nblt,simprocAttr];have lbx: ∀j,belL j (rows gp l++[.i .i64 r1,.i .i64 r2])=true:=fun j=>by rw [<-lap];exact grB j _
  have lrx: ∀ψ,renL ψ (rows gp l++[.i .i64 r1,.i .i64 r2])=rows gp l++[.i .i64 r1,.i .i64 r2]:=fun ψ=>by rw [<-lap];exact grR ψ _
  exact Seam.ren [] tail (by decide) (by decide) (by simp only [go_sem,AV.bel,belL,nblt,AV.ren,renL,simprocAttr]) (by rw [lap];simp only [go_sem,lbx,lrx,AV.bel,belL,nblt,AV.ren,renL,Blk.ren,hb,hGr,simprocAttr])
theorem CallOK.upd1X {P:Program} {f:FuncId} {argsL:List AV} {pn:Option Value} {v:AV} {k k':Blk} {b n:Nat} {h:Hp} (hc:Go.Ab.callable P f=true) (ha:belL 1 argsL=true) (hk:belL 0 k.cells=true) (hk':belL 0 k'.cells=true) (hro:k'.ro=false) (hv:v.bel 0=true) (hb:hget h b=some k)
 (hf:FTLx P f argsL [(0,k)] 1 pn v [(0,k')] 1):CallOK P f (renL (fun _=>b) argsL) h n {v,n,rd:=[b],md:=[(b,some k')],pn}:=by
 have hkr:k.ren (fun _=>b)=k:=by simp only [Blk.ren,renL_fix0 k.cells hk]
 have h0: ∀c kk,hget [(0,k)] c=some kk->c=0/\kk=k:=fun c kk hh=>by
  simp only [hget] at hh;by_cases hc:c=0
  ·subst hc;simp at hh;exact ⟨rfl,hh.symm⟩
  ·rw [beq_ne hc] at hh;simp at hh
 have hbel1:belL 1 k.cells=true:=belL_mono0 _ hk;refine CallOK.of_FTLx (ψ:=fun _=>b) hc hf rfl (Nat.le_refl _) ha (fun c hc=>⟨k,by rw [show c=0 by omega];rfl⟩) (fun c kk hh=> ?_) rfl (fun c kk hh=> ?_) (fun b1 b2 k1 k2 h1 h2 _ _=> ?_) (by simp) (ren_fix0 _ hv).symm (fun c r hh=> ?_) (fun c kk hh=>by simp [hget] at hh) (fun c kk hh=> ?_)
 ·obtain ⟨rfl,rfl⟩:=h0 c kk hh;exact ⟨by omega,hbel1⟩
 ·obtain ⟨rfl,rfl⟩:=h0 c kk hh;rw [hkr];simp [only,inl,hb]
 ·rw [(h0 b1 k1 h1).1,(h0 b2 k2 h2).1]
 ·simp only [mget] at hh;by_cases hcb:c=b
  ·subst hcb;simp [inl]
  ·rw [beq_ne hcb] at hh;simp at hh
 ·simp only [Eff.app,mget,hget] at hh;by_cases hcb:c=b
  ·subst hcb;simp at hh;subst hh;exact ⟨0,k',rfl,by omega,by simp,by simp only [Blk.ren,renL_fix0 k'.cells hk'],fun h=>by rw [hro] at h;cases h⟩
  ·simp only [only,inl,Bool.or_false,beq_ne hcb,beq_ne (fun e=>hcb e.symm),cond_false] at hh;cases hh
def pc5:List AV->Option Pc
 |[.i .i64 a,.i .i64 b,.i .i64 c,.i .i64 d,.s e]=>some ⟨a,b,c,d,e⟩
 |_=>none
theorem pc5_l (x:Pc):pc5 x.l=some x:=rfl
theorem pc5_eq {c:List AV} {x:Pc} (h:pc5 c=some x):c=x.l:=by
 unfold pc5 at h;split at h
 ·cases h;rfl
 ·cases h
def k65:Ct
 |[.p b 0,.agg c],h,n=>(pc5 c).bind fun p=>(hget h b).bind fun k=>(hf5 k.cells).bind fun x=>bif k.gr.isNone&&(!k.ro&&k.gid.isNone) then some (filB x p,{v:= .tup [],n,rd:=[b],md:=[(b,some {cells:=((fillS x p).getD x).l})],pn:=filP (fillS x p)}) else none
 |_,_,_=>none
theorem s65:SoundAt Tryz.prog 65 k65:=fun args h n c E hc ht=>by
 unfold k65 at hc;split at hc
 ·rename_i b cc;simp only [Option.bind_eq_some_iff] at hc;obtain ⟨p,hp,k,hb,x,hx,hc⟩:=hc;cases hk:(k.gr.isNone&&(!k.ro&&k.gid.isNone)) with
  |false=>rw [hk] at hc;cases hc
  |true=>
   rw [hk] at hc;cases hc;simp only [Bool.and_eq_true,Bool.not_eq_true',Option.isNone_iff_eq_none] at hk;obtain ⟨h1,h2,h3⟩:=hk;have hkc:=hf5_eq hx;obtain ⟨cells,ro,gr,gid⟩:=k;simp only at h1 h2 h3 hkc;subst h1 h2 h3 hkc;rw [pc5_eq hp];exact CallOK.upd1X (argsL:=[.p 0 0,.agg p.l]) (by kernel_rfl) rfl x.bel (Flt.Hf.bel _) rfl rfl hb (w65 x p ht)
 ·cases hc
theorem w84 (a:Int):FTL Tryz.prog 84 [.i .i64 a] [] 0 (.b false) [] 0:=by
 refine FTL.of_iw Sound.nil mo Tryz.func84 i84_eq (by simp [i84]) (iw_of_jw ?_)
 dsimp only [i84];have:(a !=a)=false:=by simp
 simp only [go_sem,this,simprocAttr];exact Ends.pureE rfl rfl
def k84:Ct
 |[.i .i64 a],_,n=>some (true,{v:= .b false,n})
 |_,_,_=>none
theorem s84:SoundAt Tryz.prog 84 k84:=fun args h n c E hc ht=>by
 unfold k84 at hc;split at hc
 ·cases hc;exact CallOK.pure (by kernel_rfl) rfl rfl (w84 _) _ _
 ·cases hc
def cmpZ (a b:Int):Int:=bif decide (a<b) then -1 else bif decide (a>b) then 1 else 0
def TC19:List (Nat×Ct):=[(84,k84)]
theorem hTC19:Sound Tryz.prog (cxT TC19):=Sound.cons s84 Sound.nil
theorem w63 (a b:Int):FTL Tryz.prog 63 [.i .i64 a,.i .i64 b] [] 0 (.i .i64 (cmpZ a b)) [] 0:=by
 refine FTL.of_iw hTC19 mo Tryz.func63 i63_eq (by simp [i63]) (iw_of_jw ?_)
 dsimp only [i63,TC19];cases h1:decide (a<b)
 ·cases h2:decide (a>b)
  ·rw [show cmpZ a b=0 by unfold cmpZ;rw [h1,h2];rfl]
   simp only [go_sem,k84,h1,h2,simprocAttr];exact Ends.pureE rfl rfl
  ·rw [show cmpZ a b=1 by unfold cmpZ;rw [h1,h2];rfl]
   simp only [go_sem,k84,h1,h2,simprocAttr];exact Ends.pureE rfl rfl
 ·rw [show cmpZ a b= -1 by unfold cmpZ;rw [h1];rfl]
  simp only [go_sem,k84,h1,simprocAttr];exact Ends.pureE rfl rfl
def k63:Ct
 |[.i .i64 a,.i .i64 b],_,n=>some (true,{v:= .i .i64 (cmpZ a b),n})
 |_,_,_=>none
theorem s63:SoundAt Tryz.prog 63 k63:=fun args h n c E hc ht=>by
 unfold k63 at hc;split at hc
 ·cases hc;exact CallOK.pure (by kernel_rfl) rfl rfl (w63 _ _) _ _
 ·cases hc
def TC19b:List (Nat×Ct):=[(63,k63)]
theorem hTC19b:Sound Tryz.prog (cxT TC19b):=Sound.cons s63 Sound.nil
theorem w62 (x:Flt.Hf) (s:Int):FTL Tryz.prog 62 [.agg x.l,.i .i64 s] [] 0 (.i .i64 (cmpZ x.sq s)) [] 0:=by
 obtain ⟨kd,ln,sq,bd,got⟩:=x;refine FTL.of_iw hTC19b mo Tryz.func62 i62_eq (by simp [i62]) (iw_of_jw ?_)
 dsimp only [i62,TC19b];have hb:=fun j=>grB j got;simp only [go_sem,k63,Flt.Hf.l,AV.bel,belL,nblt,hb,simprocAttr];exact Ends.pureE rfl rfl
def k62:Ct
 |[.agg c,.i .i64 s],_,n=>(hf5 c).bind fun x=>some (true,{v:= .i .i64 (cmpZ x.sq s),n})
 |_,_,_=>none
theorem s62:SoundAt Tryz.prog 62 k62:=fun args h n c E hc ht=>by
 unfold k62 at hc;split at hc
 ·simp only [Option.bind_eq_some_iff] at hc;obtain ⟨x,hx,he⟩:=hc;cases he;rw [hf5_eq hx];exact CallOK.pure (by kernel_rfl) (by simp only [belL,AV.bel,x.bel,Bool.and_self]) rfl (w62 x _) _ _
 ·cases hc
def posH (s:Int):List Flt.Hf->Nat
 |[]=>0
 |x::r=>bif decide (x.sq<s) then posH s r+1 else 0
def fndH (s:Int) (l:List Flt.Hf):Bool:=match l[posH s l]? with
 |some x=>cmpZ x.sq s==0
 |none=>false
theorem posH_eq {s:Int}: ∀{l:List Flt.Hf} {i:Nat},i<=l.length->(∀k x,k<i->l[k]? =some x->x.sq<s)->(∀x,l[i]? =some x-> ¬x.sq<s)->posH s l=i
 |[],0,_,_,_=>rfl
 |[],i+1,h,_,_=>by simp at h
 |x::r,0,_,_,h2=>by
  have:=h2 x rfl;simp only [posH,decide_eq_false this,cond_false]
 |x::r,i+1,h0,h1,h2=>by
  have hx:=h1 0 x (by omega) rfl
  have:=posH_eq (l:=r) (i:=i) (by simpa using h0) (fun k y hk hy=>h1 (k+1) y (by omega) (by simpa using hy)) (fun y hy=>h2 y (by simpa using hy))
  simp only [posH,decide_eq_true hx,cond_true,this]
theorem cmpZ_lt {a b:Int}:decide (cmpZ a b<0)=decide (a<b):=by
 unfold cmpZ;cases h1:decide (a<b)<;>cases h2:decide (a>b)<;>rfl
def srtH (l:List Flt.Hf):Prop:= ∀(i j:Nat) (x y:Flt.Hf),i<j->l[i]? =some x->l[j]? =some y->x.sq<y.sq
def TC19c:List (Nat×Ct):=[(62,k62)]
theorem hTC19c:Sound Tryz.prog (cxT TC19c):=Sound.cons s62 Sound.nil
theorem w61 (l:List Flt.Hf) (s:Int) (hl:l.length<=64) (hs:srtH l):
 FTL Tryz.prog 61 [.fz (rows Flt.Hf.l l) l.length,.i .i64 s,.fn 62 []] [] 0 (.tup [.i .i64 (posH s l:Nat),.b (fndH s l)]) [] 0:=by
 have h44: ∀(x:Flt.Hf) (h:Hp) n,k62 [.agg x.l,.i .i64 s] h n=some (true,{v:= .i .i64 (cmpZ x.sq s),n}):=fun x h n=>by
  simp only [k62,hf5_l,Option.bind_some]
 refine FTL.of_iw hTC19c mo Tryz.func61 i61_eq (by simp [i61]) (iw_of_jw ?_)
 dsimp only [i61,TC19c];have hL: ∀(k:Nat) x,l[k]? =some x->List.take 5 (List.drop (k*5) (rows Flt.Hf.l l))=x.l:=fun k x hk=>rows_at Flt.Hf.len hk;have hLb: ∀j,belL j (rows Flt.Hf.l l)=true:=fun j=>hrB j l;have hlen: ∀x:Flt.Hf,x.l.length=5:=fun x=>rfl;generalize rows Flt.Hf.l l=L at*;simp only [go_sem,AV.bel,belL,nblt,hLb,simprocAttr];refine Loop.by (F:=⟨Tryz.prog,cxT TC19c,[17,31],49,0⟩) hTC19c mo (X:=Nat×Nat) (fun x=>x.1<=x.2/\x.2<=l.length/\(∀k y,k<x.1->l[k]? =some y->y.sq<s)/\(∀k y,x.2<=k->l[k]? =some y-> ¬y.sq<s)) (fun x=>x.2-x.1)
  (fun x=>[(0,.fz L l.length),(1,.i .i64 s),(2,.fn 62 []),(8,.i .i64 (l.length:Int)),(9,.i .i64 (x.1:Int)),(10,.i .i64 (x.2:Int))])
  (fun x=>[]) 0 (0,l.length) (by decide) ⟨Nat.zero_le _,Nat.le_refl _,fun k y hk=>absurd hk (by omega),fun k y hk hy=>by rw [List.getElem?_eq_none hk] at hy;cases hy⟩ ?_ ?_ (fun x hx=> ?_)
 ·simp only [go_sem,AV.bel,belL,nblt,hLb,simprocAttr]
 ·simp only [go_sem,AV.bel,belL,nblt,hLb,simprocAttr]
 ·obtain ⟨i,j⟩:=x;obtain ⟨hij,hjn,hlo,hhi⟩:=hx;dsimp only at hij hjn hlo hhi ⊢;dsimp only [TC19c];by_cases hlt:i<j
  ·have c1:decide ((i:Int)<(j:Int))=true:=decide_eq_true (by omega)
   have w1:IntKind.i64.wrap ((i:Int)+(j:Int))=((i+j:Nat):Int):=by rw [wrapL (by omega) (by omega)];omega
   have w2:IntKind.u64.wrap ((i+j:Nat):Int)=((i+j:Nat):Int):=by simp only [IntKind.wrap,IntKind.bits,IntKind.signed];simp;omega
   have w3:((i+j:Nat):Int).fdiv 2=(((i+j)/2:Nat):Int):=by rw [Int.fdiv_eq_ediv_of_nonneg _ (by decide)];omega
   generalize hh:(i+j)/2=m at*;have w4:IntKind.u64.wrap (m:Int)=(m:Int):=by simp only [IntKind.wrap,IntKind.bits,IntKind.signed];simp;omega
   have w5:IntKind.i64.wrap (m:Int)=(m:Int):=wrapL (by omega) (by omega)
   have c2:decide (0<=(m:Int)/\(m:Int)<(l.length:Int))=true:=decide_eq_true (by omega)
   obtain ⟨x,hx⟩: ∃x,l[m]? =some x:=⟨_,List.getElem?_eq_getElem (by omega)⟩
   have hxx:=hL m x hx;have h44:=fun h n=>h44 x h n;have hle:=hlen x;have hcz:decide (cmpZ x.sq s<0)=decide (x.sq<s):=cmpZ_lt;cases hc:decide (x.sq<s)
   ·rw [hc] at hcz;simp only [go_sem,c1,w1,w2,w3,w4,w5,c2,hxx,h44,hle,hcz,simprocAttr];have hc:=of_decide_eq_false hc;refine ⟨(i,m),⟨⟨by dsimp only;omega,by dsimp only;omega,hlo,fun k y hk hy=> ?_⟩,by dsimp only;omega⟩,hLb 0,rfl,rfl,rfl,rfl,rfl,rfl,rfl⟩
    rcases Nat.lt_or_ge m k with h|h
    ·have:=hs m k x y h hx hy;omega
    ·have:k=m:=Nat.le_antisymm h hk;subst this;rw [hx] at hy;cases hy;omega
   ·rw [hc] at hcz;simp only [go_sem,c1,w1,w2,w3,w4,w5,c2,hxx,h44,hle,hcz,simprocAttr];have hc:=of_decide_eq_true hc;have w6:IntKind.i64.wrap ((m:Int)+1)=((m+1:Nat):Int):=by rw [wrapL (by omega) (by omega)];omega
    refine ⟨(m+1,j),⟨⟨by dsimp only;omega,by dsimp only;omega,fun k y hk hy=> ?_,hhi⟩,by dsimp only;omega⟩,hLb 0,rfl,rfl,rfl,by rw [w6],rfl,rfl,rfl⟩
    dsimp only at hk;rcases Nat.lt_or_ge k m with h|h
    ·have:=hs k m y x h hy hx;omega
    ·have:k=m:=by omega
     subst this;rw [hx] at hy;cases hy;omega
  ·have c1:decide ((i:Int)<(j:Int))=false:=decide_eq_false (by omega)
   have hpos:posH s l=i:=posH_eq (by omega) hlo (fun x hx=>hhi i x (by omega) hx)
   have hfnd:fndH s l=(match l[i]? with|some x=>cmpZ x.sq s==0|none=>false):=by unfold fndH;rw [hpos]
   rw [hpos,hfnd];by_cases hil:i<l.length
   ·obtain ⟨x,hx⟩: ∃x,l[i]? =some x:=⟨_,List.getElem?_eq_getElem hil⟩;have c2:decide ((i:Int)<(l.length:Int))=true:=decide_eq_true (by omega)
    have c3:decide (0<=(i:Int)/\(i:Int)<(l.length:Int))=true:=decide_eq_true (by omega)
    have h44:=fun h n=>h44 x h n;have hle:=hlen x;have hxx:=hL i x hx;rw [hx];simp only [go_sem,c1,c2,c3,h44,hxx,hle,simprocAttr];exact Ends.pureE rfl rfl
   ·have c2:decide ((i:Int)<(l.length:Int))=false:=decide_eq_false (by omega)
    rw [List.getElem?_eq_none (by omega)]
    simp only [go_sem,c1,c2,simprocAttr];exact Ends.pureE rfl rfl
def ascB (l:List Flt.Hf):Bool:=match l with
 |[]=>true
 |x::r=>r.all (fun y=>decide (x.sq<y.sq))&&ascB r
theorem ascB_t: ∀{l:List Flt.Hf},ascB l=true->srtH l
 |[],_,i,j,x,y,_,hi,_=>by simp at hi
 |z::r,h,i,j,x,y,hij,hi,hj=>by
  simp only [ascB,Bool.and_eq_true,List.all_eq_true,decide_eq_true_eq] at h;cases j with
  |zero=>omega
  |succ j=>
   cases i with
   |zero=>simp at hi;subst hi;exact h.1 y (List.mem_of_getElem? (by simpa using hj))
   |succ i=>exact ascB_t h.2 i j x y (by omega) (by simpa using hi) (by simpa using hj)
def k61:Ct
 |[a,.i .i64 s,.fn 62 []],h,n=>vwK h 5 a fun rd m cs ok=>(unrows 5 hf5 m cs).bind fun l=>some (ok&&decide (m<=64)&&ascB l,{v:= .tup [.i .i64 (posH s l:Nat),.b (fndH s l)],n,rd})
 |_,_,_=>none
theorem s61:SoundAt Tryz.prog 61 k61:=fun args h n c E hc ht=>by
 unfold k61 at hc;split at hc
 ·rename_i a s;rw [vwK_eq] at hc;simp only [Option.bind_eq_some_iff] at hc;obtain ⟨⟨rd,m,cs,ok⟩,hv,l,hl,hc⟩:=hc;cases hc;simp only [Bool.and_eq_true,decide_eq_true_eq] at ht;obtain ⟨⟨rfl,hm⟩,hs⟩:=ht;obtain ⟨rfl,rfl⟩:=unrows_eq (f:=Flt.Hf.l) (fun c a h=>hf5_eq h) hl;exact CallOK.viewG (by kernel_rfl) (argsF:=[.fz (rows Flt.Hf.l l) l.length,.i .i64 s,.fn 62 []]) ⟨vwK_sub hv (rows_bel Flt.Hf.bel) (fun c hc=>hc),VwV.same rfl,VwV.same rfl,trivial⟩ rfl (w61 l s hm (ascB_t hs))
 ·cases hc
abbrev zs5:List AV:=[.i .i64 0,.i .i64 0,.i .i64 0,.s [],.ns]
theorem i64_gen:compF Tryz.prog Tryz.f64=some (insI 5 64 zs5 85 86):=i64_eq
theorem s85:SoundAt Tryz.prog 85 ovlK2:=ovl2_ok (by decide) Tryz.func85 (by kernel_rfl) (by kernel_rfl) (by kernel_rfl) (by kernel_rfl) (by kernel_rfl)
theorem hf_one (x:Flt.Hf):oneAll x.l=true:=rfl
def hfn:List AV->Option Flt.Hf
 |[.i .i64 a,.i .i64 b,.i .i64 c,.s d,.ns]=>some ⟨a,b,c,d,[]⟩
 |_=>none
theorem hfn_wka {c:List AV} {x:Flt.Hf} (h:hfn c=some x):belL 0 c=true/\Wka (.fz c 1) (.fz (rows Flt.Hf.l [x]) 1):=by
 unfold hfn at h;split at h
 ·cases h;refine ⟨rfl,Wka.fz ?_⟩;exact ⟨Wka.refl _,Wka.refl _,Wka.refl _,Wka.refl _,Wka.ns,trivial⟩
 ·cases h
theorem gv_b {h:Hp} {z b o m b' m':Nat} {cs:List AV} {ok:Bool} (hg:gvK h z (.sg b o m)=some (b',m',cs,ok)):b'=b/\m'=m:=by
 simp only [gvK_g,Option.bind_eq_some_iff,Option.some.injEq,Prod.mk.injEq] at hg;obtain ⟨k,_,h1,h2,_⟩:=hg;exact ⟨h1.symm,h2.symm⟩
def k64:Ct
 |[.ns,.i .i64 i,y],h,n=>vwK h 5 y fun rd m cs ok=>(hfn cs).bind fun x=>some (ok&&(wrt h rd&&decide (i=0/\m=1)),{v:= .sg n 0 1,n:=n+1,rd,md:=dels rd,nw:=[(n,{cells:=rows Flt.Hf.l [x],gr:=some 5})]})
 |[.sg b o q,.i .i64 i,y],h,n=>vwK h 5 y fun rd m cs ok=>(hfn cs).bind fun x=>(gvK h 5 (.sg b o q)).bind fun g=>(unrows 5 hf5 g.2.1 g.2.2.1).bind fun l=>
  some (ok&&(wrt h rd&&(g.2.2.2&&(!(inl rd b)&&decide (0<=i/\i.toNat<=l.length/\m=1/\l.length<=1000000)))),{v:= .sg n 0 (l.length+1),n:=n+1,rd:=b::rd,md:=dels (b::rd),nw:=[(n,{cells:=rows Flt.Hf.l (Go.Ab.insL l [x] i.toNat),gr:=some 5})]})
 |_,_,_=>none
theorem s64:SoundAt Tryz.prog 64 k64:=fun args h n c E hc ht=>by
 unfold k64 at hc;split at hc
 ·rename_i i y;rw [vwK_eq] at hc;simp only [Option.bind_eq_some_iff,Option.some.injEq,Prod.mk.injEq] at hc;obtain ⟨⟨rd,m,cs,ok⟩,hv,x,hx,hok,rfl⟩:=hc;dsimp only at hx hok;rw [ht] at hok;simp only [Bool.and_eq_true,decide_eq_true_eq] at hok;obtain ⟨rfl,hw,rfl,rfl⟩:=hok;dsimp only at hw ⊢;obtain ⟨hb,hwk⟩:=hfn_wka hx;exact CallOK.giveN (by kernel_rfl) (argsF:=[.ns,.i .i64 0,.fz (rows Flt.Hf.l [x]) 1]) ⟨VwV.same rfl,VwV.same rfl,(vwK_sub hv hb (fun b h=>h)).wka hwk,trivial⟩ (hrB _ _) hw (ins_nsL mo Tryz.func64 i64_gen Flt.Hf.len Flt.Hf.bel [x] Nat.one_pos (by simp only [growMax,List.length_singleton];omega))
 ·rename_i b o q i y;rw [vwK_eq] at hc;simp only [Option.bind_eq_some_iff,Option.some.injEq,Prod.mk.injEq] at hc;obtain ⟨⟨rd,m,cs,ok⟩,hv,x,hx,⟨b',q',cs',ok'⟩,hg,l,hl,hok,rfl⟩:=hc;dsimp only at hx hok;rw [ht] at hok;simp only [Bool.and_eq_true,decide_eq_true_eq,Bool.not_eq_true'] at hok;obtain ⟨rfl,hw,rfl,hbr,hi0,hi,rfl,hll⟩:=hok;dsimp only at hw hl hbr ⊢;obtain ⟨rfl,rfl⟩:=gv_b hg;obtain ⟨hb,hwk⟩:=hfn_wka hx;obtain ⟨rfl,rfl⟩:=unrows_eq (f:=Flt.Hf.l) (fun c a h=>hf5_eq h) hl;refine CallOK.liveG (by kernel_rfl) hg (hrB _ _) (hrB _ _) (postF:=[.i .i64 i,.fz (rows Flt.Hf.l [x]) 1]) ⟨VwV.same rfl,(vwK_sub hv hb (fun b h=>h)).wka hwk,trivial⟩ hbr (by decide) (by decide) hw (fun c hc=> ?_)
  have:=ins_slL (P:=Tryz.prog) (row:=Flt.Hf.l) mo Tryz.func64 i64_gen s85 Flt.Hf.len (by decide) (by decide) rfl Flt.Hf.bel hf_one l [x] i.toNat c hi hc Nat.one_pos (by simp only [growMax,List.length_singleton];omega) (by simp only [List.length_singleton];omega)
  rwa [Int.toNat_of_nonneg hi0] at this
 ·cases hc
/-! where a half goes -/
theorem ins_s {α:Type} (x y:α) (l:List α) (i:Nat):Go.Ab.insL (y::l) [x] (i+1)=y::Go.Ab.insL l [x] i:=rfl
theorem putH_at (p:Pc): ∀l:List Flt.Hf,posH p.sq l<=l.length/\(fndH p.sq l=true-> ∃x,l[posH p.sq l]? =some x/\x.sq=p.sq/\putH p l=(fillS x p).map fun h=>l.set (posH p.sq l) h)∧
 (fndH p.sq l=false->putH p l=(fillS (newH p) p).map fun h=>Go.Ab.insL l [h] (posH p.sq l))
 |[]=>⟨Nat.le_refl _,fun h=>(by cases h),fun _=>rfl⟩
 |h::r=>by
  by_cases h1:h.sq<p.sq
  ·have hp:posH p.sq (h::r)=posH p.sq r+1:=by simp only [posH,decide_eq_true h1,cond_true]
   have hfd:fndH p.sq (h::r)=fndH p.sq r:=by unfold fndH;rw [hp,List.getElem?_cons_succ]
   obtain ⟨i0,i1,i2⟩:=putH_at p r;have hput:putH p (h::r)=(putH p r).map (h:: ·):=by rw [putH,if_pos h1]
   rw [hp,hfd,hput];refine ⟨by simp only [List.length_cons];omega,fun hf=> ?_,fun hf=> ?_⟩
   ·obtain ⟨x,e1,e2,e3⟩:=i1 hf;refine ⟨x,by rw [List.getElem?_cons_succ];exact e1,e2,?_⟩
    rw [e3];cases fillS x p<;>rfl
   ·rw [i2 hf];cases fillS (newH p) p<;>rfl
  ·have hp:posH p.sq (h::r)=0:=by simp only [posH,decide_eq_false h1,cond_false]
   have hfd:fndH p.sq (h::r)=(cmpZ h.sq p.sq==0):=by unfold fndH;rw [hp];rfl
   rw [hp,hfd];refine ⟨Nat.zero_le _,fun hf=> ?_,fun hf=> ?_⟩
   ·have he:h.sq=p.sq:=by
     unfold cmpZ at hf;rw [decide_eq_false h1,cond_false] at hf;cases h2:decide (h.sq>p.sq)
     ·have:=of_decide_eq_false h2;omega
     ·rw [h2] at hf;cases hf
    refine ⟨h,rfl,he,?_⟩;rw [putH,if_neg h1,if_pos he];cases fillS h p<;>rfl
   ·have he: ¬h.sq=p.sq:=fun e=>by
     unfold cmpZ at hf;rw [decide_eq_false h1,cond_false,decide_eq_false (by omega),cond_false] at hf
     cases hf
    rw [putH,if_neg h1,if_neg he];cases fillS (newH p) p<;>rfl
theorem hsB_asc {nx:Int}: ∀{l:List Flt.Hf} {b:Option Int},hsB nx b l=true->ascB l=true/\(∀e,b=some e-> ∀x∈l,e<x.sq)
 |[],_,_=>⟨rfl,fun _ _ _ h=>by cases h⟩
 |h::r,b,hh=>by
  simp only [hsB,Bool.and_eq_true,decide_eq_true_eq] at hh;obtain ⟨h1,h2,h3,h4,h5,h6⟩:=hh;obtain ⟨a1,a2⟩:=hsB_asc h6;have a2:=a2 h.sq rfl;refine ⟨?_,fun e he x hx=> ?_⟩
  ·simp only [ascB,Bool.and_eq_true,List.all_eq_true,decide_eq_true_eq];exact ⟨a2,a1⟩
  ·subst he;simp only [decide_eq_true_eq] at h3;rcases List.mem_cons.1 hx with rfl|hx
   ·omega
   ·have:=a2 x hx;omega
theorem hsB_len {nx:Int}: ∀{l:List Flt.Hf} {b:Option Int} {lo:Int},hsB nx b l=true->(b=none->lo=nx)->(∀e,b=some e->lo=e+1)->lo<=nx+4->(l.length:Int)<=nx+4-lo
 |[],_,lo,_,_,_,h=>by simp only [List.length_nil];omega
 |h::r,b,lo,hh,hb0,hb1,hlo=>by
  simp only [hsB,Bool.and_eq_true,decide_eq_true_eq] at hh;obtain ⟨h1,h2,h3,h4,h5,h6⟩:=hh;have hge:lo<=h.sq:=by
   cases b with
   |none=>rw [hb0 rfl];exact h1
   |some e=>simp only [decide_eq_true_eq] at h3;rw [hb1 e rfl];omega
  have:=hsB_len (lo:=h.sq+1) h6 (fun e=>by cases e) (fun e he=>by cases he;rfl) (by omega)
  simp only [List.length_cons];omega
theorem hsB_all {nx:Int}: ∀{l:List Flt.Hf} {b:Option Int},hsB nx b l=true-> ∀x∈l,nx<=x.sq/\x.sq<min (nx+4) 65536/\halfB x=true
 |[],_,_,_,h=>by cases h
 |h::r,b,hh,x,hx=>by
  simp only [hsB,Bool.and_eq_true,decide_eq_true_eq] at hh;obtain ⟨h1,h2,h3,h4,h5,h6⟩:=hh;rcases List.mem_cons.1 hx with rfl|hx
  ·exact ⟨h1,h2,h4⟩
  ·exact hsB_all h6 x hx
theorem grow1_len (got:List (Int×Int)): ∀s:List (Int×Int)×(Int×Int),(got.foldl grow1 s).1.length<=s.1.length+got.length:=by
 induction got with
 |nil=>intro s;simp
 |cons x r ih=>
  intro s;have h1:(grow1 s x).1.length<=s.1.length+1:=by
   unfold grow1;cases meetB s.2 x
   ·simp
   ·simp
  have:=ih (grow1 s x);simp only [List.foldl_cons,List.length_cons];omega
theorem gotS_len (got:List (Int×Int)) (r:Int×Int):(gotS got r).length<=got.length+1:=by
 have:=grow1_len got ([],r);unfold gotS;dsimp only;rw [(putG_perm _ _).length_eq,List.length_cons];simp only [List.length_nil] at this;omega
theorem fill_len {h h':Flt.Hf} {p:Pc} (hf:fillS h p=some h'):h'.got.length<=h.got.length+1/\h'.sq=h.sq/\h'.kd=h.kd:=by
 unfold fillS at hf;cases hc:((h.kd==p.kd)&&((h.ln==p.ln)&&h.got.all (agreeB h p))) with
 |false=>rw [hc] at hf;cases hf
 |true=>
  rw [hc,cond_true] at hf;cases hf;refine ⟨?_,rfl,rfl⟩;dsimp only;split
  ·omega
  ·exact gotS_len _ _
theorem giveS_drop {hs:List Flt.Hf} {nx:Int} {d:Nat} {x:Flt.Hf} (hx:hs[d]? =some x) (hs2:x.sq=nx+d) (hd:doneB x=true):
 giveS (nx+d) (hs.drop d)=((giveS (nx+(d+1:Nat)) (hs.drop (d+1))).1,⟨x.kd,x.sq,x.bd⟩::(giveS (nx+(d+1:Nat)) (hs.drop (d+1))).2):=by
 have hlt:=(List.getElem?_eq_some_iff.1 hx).1;rw [List.drop_eq_getElem_cons hlt];rw [List.getElem?_eq_getElem hlt] at hx;rw [Option.some.inj hx,giveS];have:(x.sq==nx+(d:Int))=true:=by rw [beq_iff_eq];exact hs2
 rw [this,hd];simp only [Bool.and_self,cond_true];have e:nx+(d:Int)+1=nx+((d+1:Nat):Int):=by omega
 rw [e]
theorem giveS_stop {hs:List Flt.Hf} {nx:Int} {d:Nat} (h: ∀x,hs[d]? =some x->((x.sq==nx+(d:Int))&&doneB x)=false):giveS (nx+d) (hs.drop d)=(⟨nx+d,hs.drop d⟩,[]):=by
 rcases Nat.lt_or_ge d hs.length with hlt|hge
 ·have:=h _ (List.getElem?_eq_getElem hlt);rw [List.drop_eq_getElem_cons hlt,giveS,this];rfl
 ·rw [List.drop_eq_nil_of_le hge];rfl
theorem or8 (h:Nat) (l:Nat) (hh:h<1048576) (hl:l<256):orI .i64 (IntKind.i64.wrap ((h:Int)*256)) (l:Int)=(h:Int)*256+l:=by
 have e1:IntKind.i64.wrap ((h:Int)*256)=(h:Int)*256:=wrapL (by omega) (by omega)
 rw [e1];unfold orI;have key:BitVec.ofInt 64 ((h:Int)*256) ||| BitVec.ofInt 64 (l:Int)=BitVec.ofNat 64 (h*256+l):=by
  have a1:BitVec.ofInt 64 ((h:Int)*256)=BitVec.ofNat 64 (h*256):=by rw [<-BitVec.ofInt_natCast];simp
  have a2:BitVec.ofInt 64 (l:Int)=BitVec.ofNat 64 l:=BitVec.ofInt_natCast 64 l;rw [a1,a2];apply BitVec.eq_of_toNat_eq;rw [BitVec.toNat_or,BitVec.toNat_ofNat,BitVec.toNat_ofNat,BitVec.toNat_ofNat,Nat.mod_eq_of_lt (by omega),Nat.mod_eq_of_lt (by omega),Nat.mod_eq_of_lt (by omega)]
  have:=Nat.shiftLeft_add_eq_or_of_lt (i:=8) (b:=l) hl h;rw [Nat.shiftLeft_eq] at this;exact this.symm
 show IntKind.i64.wrap ((BitVec.ofInt 64 ((h:Int)*256) ||| BitVec.ofInt 64 (l:Int)).toNat:Int)=_;rw [key,BitVec.toNat_ofNat,Nat.mod_eq_of_lt (by omega),wrapL (by omega) (by omega)]
 omega
theorem num_snoc (l:List UInt8) (b:UInt8):num (l++[b])=num l*256+(b.toNat:Int):=by simp [num,List.foldl_append]
theorem num_lt: ∀(l:List UInt8),∃n:Nat,num l=(n:Int)/\n<256^l.length:=fun l=>by
 have: ∀(r:List UInt8),∃n:Nat,num r.reverse=(n:Int)/\n<256^r.length:=fun r=>by
  induction r with
  |nil=>exact ⟨0,rfl,by decide⟩
  |cons b r ih=>
   obtain ⟨n,h1,h2⟩:=ih;refine ⟨n*256+b.toNat,?_,?_⟩
   ·rw [List.reverse_cons,num_snoc,h1];omega
   ·have:=b.toNat_lt;rw [List.length_cons,Nat.pow_succ];omega
 have h:=this l.reverse;rw [List.reverse_reverse,List.length_reverse] at h;exact h
theorem part_s {s:List UInt8} {a k:Nat} (h:a+k<s.length):(s.drop a).take (k+1)=(s.drop a).take k++[s[a+k]]:=by
 rw [List.take_add_one,List.getElem?_drop,List.getElem?_eq_getElem h];rfl
theorem w78 (s:List UInt8) (a m:Nat) (hm:m<=3) (hs:a+m<=s.length) (hl:s.length<=1000000):FTL Tryz.prog 78 [.s s,.i .i64 (a:Int),.i .i64 ((a+m:Nat):Int)] [] 0 (.i .i64 (partS s a (a+m))) [] 0:=by
 refine FTL.of_iw (cx:=cxT []) Sound.nil mo Tryz.func78 i78_eq (by simp [i78]) (iw_of_jw ?_)
 dsimp only [i78];simp only [go_sem,simprocAttr];refine Loop.countI (F:=⟨Tryz.prog,cxT [],[12],23,0⟩) Sound.nil mo m (fun _=>True)
  (fun k=>[(0,.s s),(2,.i .i64 ((a+m:Nat):Int)),(7,.i .i64 (num ((s.drop a).take k))),(8,.i .i64 ((a+k:Nat):Int))])
  (fun k=>[]) 0 (Nat.le_refl 0) trivial ?_ ?_ (fun k hk _=> ?_)
 ·have z1:num ((s.drop a).take 0)=0:=rfl;simp only [go_sem,z1,Nat.add_zero,AV.bel,belL,simprocAttr]
 ·simp only [go_sem,simprocAttr]
 by_cases hlt:k<m
 ·have c1:decide (((a+k:Nat):Int)<((a+m:Nat):Int))=true:=decide_eq_true (by omega)
  have c2:decide (0<=((a+k:Nat):Int)/\((a+k:Nat):Int)<(s.length:Int))=true:=decide_eq_true (by omega)
  have hw:IntKind.i64.wrap (((a+k:Nat):Int)+1)=((a+(k+1):Nat):Int):=by rw [wrapL (by omega) (by omega)];omega
  have hg:s[a+k]? =some s[a+k]:=List.getElem?_eq_getElem (by omega)
  have e1:num ((s.drop a).take (k+1))=num ((s.drop a).take k)*256+(s[a+k].toNat:Int):=by rw [part_s (by omega),num_snoc]
  obtain ⟨n,hn,hb⟩:=num_lt ((s.drop a).take k);have hb2:n<1048576:=by
   have h1:((s.drop a).take k).length=k:=by rw [List.length_take,List.length_drop];omega
   rw [h1] at hb;have:256^k<=256^2:=Nat.pow_le_pow_right (by decide) (by omega)
   omega
  have ho:=or8 n s[a+k].toNat hb2 s[a+k].toNat_lt;rw [e1,hn];have p8:(2:Int)^(Nat.min (Int.toNat 8) 64)=256:=by decide
  have w8:IntKind.i64.wrap (s[a+k].toNat:Int)=(s[a+k].toNat:Int):=by have:=s[a+k].toNat_lt;exact wrapL (by omega) (by omega)
  generalize s[a+k]=b at*;generalize ((n:Int)*256+(b.toNat:Int))=R at*;simp only [go_sem,c1,c2,hw,hg,ho,p8,w8,hlt,AV.bel,belL,simprocAttr]
 ·have c1:decide (((a+k:Nat):Int)<((a+m:Nat):Int))=false:=decide_eq_false (by omega)
  obtain rfl:k=m:=by omega
  simp only [go_sem,c1,simprocAttr];refine Ends.pureE rfl ?_;rw [partS,Nat.add_sub_cancel_left]
def k78:Ct
 |[.s s,.i .i64 a,.i .i64 b],_,n=>some (decide (0<=a/\a<=b/\b<=a+3/\b<=s.length/\s.length<=1000000),{v:= .i .i64 (partS s a.toNat b.toNat),n})
 |_,_,_=>none
theorem s78:SoundAt Tryz.prog 78 k78:=fun args h n c E hc ht=>by
 unfold k78 at hc;split at hc
 ·rename_i s a b;cases hc;have ht:=of_decide_eq_true ht;have:=w78 s a.toNat (b.toNat-a.toNat) (by omega) (by omega) (by omega)
  rw [show a.toNat+(b.toNat-a.toNat)=b.toNat by omega,Int.toNat_of_nonneg ht.1,Int.toNat_of_nonneg (by omega)] at this
  exact CallOK.pure (by kernel_rfl) rfl rfl this _ _
 ·cases hc
def TC3:List (Nat×Ct):=[(59,k59),(78,k78)]
theorem hTC3:Sound Tryz.prog (cxT TC3):=Sound.cons s59 (Sound.cons s78 Sound.nil)
def rdV (r:Pc×Int):AV:=bif r.2==0 then .agg r.1.l else .tup []
def rdP (r:Pc×Int):Option Value:=bif r.2==0 then none else some (refV r.2)
theorem part_nat (s:List UInt8) (a b:Nat) (h:b-a<=3): ∃n:Nat,partS s a b=(n:Int)/\n<16777216:=by
 obtain ⟨n,h1,h2⟩:=num_lt ((s.drop a).take (b-a));refine ⟨n,h1,Nat.lt_of_lt_of_le h2 ?_⟩;have:((s.drop a).take (b-a)).length<=3:=by rw [List.length_take];omega
 exact Nat.le_trans (Nat.pow_le_pow_right (by decide) this) (by decide)
theorem w50 (s:List UInt8) (hl:s.length<=9223372036854775807):FTLx Tryz.prog 50 [.s s] [] 0 (rdP (readS s)) (rdV (readS s)) [] 0:=by
 refine FTLx.of_iw hTC3 mo Tryz.func50 i50_eq (by simp [i50]) (iw_of_jw ?_)
 dsimp only [i50,TC3];cases a1:decide ((s.length:Int)<=1200)
 ·have h1:=of_decide_eq_false a1;have hR:readS s=(zPc,3):=by unfold readS;rw [if_pos (by omega)]
  rw [hR];simp only [rdP,rdV];simp only [go_sem,k59,a1,simprocAttr];exact Ends.pureE rfl rfl
 have h1:=of_decide_eq_true a1;cases a2:decide ((s.length:Int)>=12)
 ·have h2:=of_decide_eq_false a2;have hR:readS s=(zPc,7):=by unfold readS;rw [if_neg (by omega),if_pos (by omega)]
  rw [hR];simp only [rdP,rdV];simp only [go_sem,k59,a1,a2,simprocAttr];exact Ends.pureE rfl rfl
 have h2:=of_decide_eq_true a2;have hc: ∀a b:Int,(0<=a/\a<=b/\b<=a+3/\b<=12)->decide (0<=a/\a<=b/\b<=a+3/\b<=s.length/\s.length<=1000000)=true:=fun a b h=>decide_eq_true (by omega)
 have hk: ∀(h:Hp) n (a b:Int),(0<=a/\a<=b/\b<=a+3/\b<=12)->k78 [.s s,.i .i64 a,.i .i64 b] h n=some (true,{v:= .i .i64 (partS s a.toNat b.toNat),n}):=fun h n a b hh=>by
  simp only [k78,hc a b hh]
 have k1:=fun h n=>hk h n 9 12 (by decide)
 have k2:=fun h n=>hk h n 0 1 (by decide)
 have k3:=fun h n=>hk h n 1 4 (by decide)
 have k4:=fun h n=>hk h n 4 6 (by decide)
 have k5:=fun h n=>hk h n 6 9 (by decide)
 simp only [Int.reduceToNat] at k1 k2 k3 k4 k5;obtain ⟨z,hz,hz2⟩:=part_nat s 9 12 (by decide)
 rw [hz] at k1;have w1:IntKind.i64.wrap ((s.length:Int)-12)=(s.length:Int)-12:=wrapL (by omega) (by omega)
 cases a3:decide ((s.length:Int)-12>=(z:Int))
 ·have h3:=of_decide_eq_false a3;have hR:readS s=(zPc,7):=by unfold readS;rw [if_neg (by omega),if_neg (by omega),if_pos (by rw [hz];omega)]
  rw [hR];simp only [rdP,rdV];simp only [go_sem,k59,k1,a1,a2,w1,a3,simprocAttr];exact Ends.pureE rfl rfl
 have h3:=of_decide_eq_true a3;cases a4:((s.length:Int)-12==(z:Int))
 ·have h4: ¬((s.length:Int)-12=(z:Int)):=by simpa using a4
  have hR:readS s=(zPc,5):=by unfold readS;rw [if_neg (by omega),if_neg (by omega),if_neg (by rw [hz];omega),if_pos (by rw [hz];omega)]
  rw [hR];simp only [rdP,rdV];simp only [go_sem,k59,k1,a1,a2,w1,a3,a4,simprocAttr];exact Ends.pureE rfl rfl
 have h4:(s.length:Int)-12=(z:Int):=by simpa using a4
 have hR:readS s=if wholeB (readP s) then (readP s,0) else (zPc,5):=by unfold readS;rw [if_neg (by omega),if_neg (by omega),if_neg (by rw [hz];omega),if_neg (by rw [hz];omega)]
 obtain ⟨fo,hfo,hfo2⟩:=part_nat s 6 9 (by decide)
 have hpl:((s.drop 12).length:Int)=(z:Int):=by rw [List.length_drop];omega
 have hpl0:(s.drop 12).length=z:=by omega
 have hP:readP s=⟨partS s 0 1,partS s 1 4,partS s 4 6,(fo:Int),s.drop 12⟩:=by rw [readP,hfo]
 rw [hP] at hR;rw [hfo] at k5;have hW:wholeB ⟨partS s 0 1,partS s 1 4,partS s 4 6,(fo:Int),s.drop 12⟩=(decide (partS s 1 4<=4000)&&(decide ((z:Int)<=1100)&&(decide ((fo:Int)+z<=partS s 1 4)&&(((z:Int)==0)==(partS s 1 4==0))))):=by
  have e1:decide (z<=1100)=decide ((z:Int)<=1100):=by rw [decide_eq_decide];omega
  have e2:(z==0)=((z:Int)==0):=by rw [Bool.eq_iff_iff];simp
  unfold wholeB;dsimp only;rw [hpl0,e1,e2]
 rw [hW] at hR;clear hW hP hc hk;have cs:decide ((0:Int)<=12/\(12:Int)<=(s.length:Int))=true:=decide_eq_true (by omega)
 have cs2:decide ((12:Int)<=(s.length:Int))=true:=decide_eq_true (by omega)
 have w2:IntKind.i64.wrap ((fo:Int)+(z:Int))=(fo:Int)+(z:Int):=wrapL (by omega) (by omega)
 have td:List.take (s.length-12) (List.drop 12 s)=List.drop 12 s:=List.take_of_length_le (by rw [List.length_drop];omega)
 generalize partS s 0 1=fk at*;generalize partS s 1 4=fl at*;generalize partS s 4 6=fs at*;simp only [go_sem,k59,k1,a1,a2,w1,a3,a4,simprocAttr];refine Loop.rounds (F:=⟨Tryz.prog,cxT TC3,[39],84,0⟩) 5 hTC3 mo ?_;dsimp only [TC3];cases b1:decide (fl<=4000)
 ·rw [b1,Bool.false_and,if_neg (by decide)] at hR
  rw [hR];simp only [rdP,rdV];simp only [go_sem,k59,k1,k2,k3,k4,k5,cs,cs2,td,w2,b1,simprocAttr];exact Ends.pureE rfl rfl
 cases b2:decide ((z:Int)<=1100)
 ·rw [b1,b2,Bool.true_and,Bool.false_and,if_neg (by decide)] at hR
  rw [hR];simp only [rdP,rdV];simp only [go_sem,k59,k1,k2,k3,k4,k5,cs,cs2,td,w2,b1,b2,simprocAttr];exact Ends.pureE rfl rfl
 cases b3:decide ((fo:Int)+z<=fl)
 ·rw [b1,b2,b3,Bool.true_and,Bool.true_and,Bool.false_and,if_neg (by decide)] at hR
  rw [hR];simp only [rdP,rdV];simp only [go_sem,k59,k1,k2,k3,k4,k5,cs,cs2,td,w2,b1,b2,b3,simprocAttr];exact Ends.pureE rfl rfl
 cases b4:(((z:Int)==0)==(fl==0))
 ·rw [b1,b2,b3,b4,Bool.true_and,Bool.true_and,Bool.true_and,if_neg (by decide)] at hR
  rw [hR];simp only [rdP,rdV];simp only [go_sem,k59,k1,k2,k3,k4,k5,cs,cs2,td,w2,b1,b2,b3,b4,simprocAttr];exact Ends.pureE rfl rfl
 ·rw [b1,b2,b3,b4,Bool.true_and,Bool.true_and,Bool.true_and,if_pos rfl] at hR;rw [hR];simp only [rdP,rdV,Pc.l];simp only [go_sem,k59,k1,k2,k3,k4,k5,cs,cs2,td,w2,b1,b2,b3,b4,simprocAttr];exact Ends.pureE rfl rfl
def k50:Ct
 |[.s s],_,n=>some (decide (s.length<=9223372036854775807),{v:=rdV (readS s),n,pn:=rdP (readS s)})
 |_,_,_=>none
theorem rdV_bel (r:Pc×Int):(rdV r).bel 0=true:=by
 unfold rdV;cases r.2==0<;>rfl
theorem s50:SoundAt Tryz.prog 50 k50:=fun args h n c E hc ht=>by
 unfold k50 at hc;split at hc
 ·cases hc;exact CallOK.pureX (by kernel_rfl) rfl (rdV_bel _) (w50 _ (of_decide_eq_true ht)) _ _
 ·cases hc
def TC4:List (Nat×Ct):=[(50,k50)]
theorem hTC4:Sound Tryz.prog (cxT TC4):=Sound.cons s50 Sound.nil
def rsR (r:Pc×Int):AV:= .tup [.agg r.1.l,.i .i64 r.2]
theorem readS_z {s:List UInt8} (h:(readS s).2≠0):(readS s).1=zPc:=by
 unfold readS at h ⊢;repeat' split
 all_goals first|rfl|(simp_all;done)
theorem w15 (s:List UInt8) (hl:s.length<=9223372036854775807):FTL Tryz.prog 15 [.s s] [] 0 (rsR (readS s)) [] 0:=by
 refine FTLx.of_dfrJ0 (pn:=none) Cov.ends hTC4 mo Tryz.func15 i15_eq (by simp [i15]) (pre:=i15r0) (ops:=[oo 4 (.mkf 49 [.t 2,.t 3])]) rfl (by kernel_rfl) Tryz.func49 i49_eq rfl ?_
 dsimp only [TC4,i15];simp only [go_sem,thenRJ,simprocAttr];refine dfrK_intro (caps:=[.p 0 0,.p 1 0]) (bs:=[0,1]) rfl rfl (by decide) (fun Gs h1 h2=> ?_)
 obtain ⟨g0,g1,rfl⟩: ∃a b,Gs=[a,b]:=by
  match Gs,h1 with
  |[a,b],_=>exact ⟨a,b,rfl⟩
 refine ⟨by simp [i49],?_⟩
 have hne:g0≠g1:=by simpa using h2
 have hgl: ∀a b:List AV,hglobC [(1,{cells:=a,gid:=some g1}),(0,{cells:=b,gid:=some g0})] g0=some (.p 0 0)/\hglobC [(1,{cells:=a,gid:=some g1}),(0,{cells:=b,gid:=some g0})] g1=some (.p 1 0):=fun a b=>by
  have b1:g1.beq g0=false:=by
   cases h:g1.beq g0 with
   |false=>rfl
   |true=>exact absurd (Nat.eq_of_beq_eq_true h).symm hne
  have z1:Nat.beq 1 0=false:=rfl;have z2:Nat.beq 1 1=true:=rfl;have z3:Nat.beq 0 0=true:=rfl;have b2: ∀g:Nat,g.beq g=true:=fun g=>by simp
  constructor
  ·simp [hglobC,hglob,hget,b1,b2,z1,z2,z3]
  ·simp [hglobC,hglob,hget,b1,b2,z1,z2,z3]
 have hgl0:=fun a b=>(hgl a b).1;have hgl1:=fun a b=>(hgl a b).2;have hll:decide (s.length<=9223372036854775807)=true:=decide_eq_true hl;have hz:=readS_z (s:=s);generalize hrr:readS s=r at*;obtain ⟨p,e⟩:=r;dsimp only [setG,hget] at*;obtain ⟨kd,ln,sq,ofs,pt⟩:=p;by_cases he:e=0
 ·subst he;have hk: ∀(h:Hp) n,k50 [.s s] h n=some (true,{v:= .agg [.i .i64 kd,.i .i64 ln,.i .i64 sq,.i .i64 ofs,.s pt],n}):=fun h n=>by
   simp only [k50,hll,hrr,rdV,rdP,Pc.l];rfl
  simp only [go_sem,hk,hset,hgl0,hgl1,simprocAttr];dsimp only [i49,refV];simp only [go_sem,simprocAttr];exact Ends.pureE rfl rfl
 ·have hk: ∀(h:Hp) n,k50 [.s s] h n=some (true,{v:= .tup [],n,pn:=some (refV e)}):=fun h n=>by
   have:(e==0)=false:=by simpa using he
   simp only [k50,hll,hrr,rdV,rdP,this,cond_false]
  simp only [go_sem,hk,hset,hgl0,hgl1,simprocAttr];dsimp only [i49,refV];simp only [go_sem,Option.map_some,getT,simprocAttr];cases hz he;exact Ends.pureE rfl rfl
theorem rsR_bel (r:Pc×Int):(rsR r).bel 0=true:=rfl
def k15:Ct
 |[.s s],_,n=>some (decide (s.length<=9223372036854775807),{v:=rsR (readS s),n})
 |_,_,_=>none
theorem s15:SoundAt Tryz.prog 15 k15:=fun args h n c E hc ht=>by
 unfold k15 at hc;split at hc
 ·cases hc;exact CallOK.pure (by kernel_rfl) rfl (rsR_bel _) (w15 _ (of_decide_eq_true ht)) _ _
 ·cases hc
def tkR (r:Jn×List Nt×Int):AV:= .tup [.agg r.1.a,.fz (rows Nt.l r.2.1) r.2.1.length,.i .i64 r.2.2]
theorem nrB (j:Nat) (l:List Nt):belL j (rows Nt.l l)=true:=belL_mono0 _ (rows_bel Nt.bel)
theorem nrR (ψ:Nat->Nat) (l:List Nt):renL ψ (rows Nt.l l)=rows Nt.l l:=renL_fix0 _ (rows_bel Nt.bel)
theorem hrR (ψ:Nat->Nat) (l:List Flt.Hf):renL ψ (rows Flt.Hf.l l)=rows Flt.Hf.l l:=renL_fix0 _ (rows_bel Flt.Hf.bel)
theorem tkR_bel (r:Jn×List Nt×Int):(tkR r).bel 0=true:=by simp only [tkR,AV.bel,belL,Jn.bel,nrB,Bool.and_self]
def TC21:List (Nat×Ct):=[(59,k59),(21,k21),(50,k50),(60,k60),(61,k61),(36,k36),(64,k64),(65,k65),(56,k56)]
theorem hTC21:Sound Tryz.prog (cxT TC21):=Sound.cons s59<|Sound.cons s21<|Sound.cons s50<|Sound.cons s60<|Sound.cons s61<|Sound.cons s36<|Sound.cons s64<|Sound.cons s65<|Sound.cons s56 Sound.nil
noncomputable abbrev F21:Fx:=⟨Tryz.prog,cxT TC21,[28,46,64,116],141,0⟩
abbrev KT (g0 g1 g2:Nat) (R:Jn×List Nt×Int):Kont:=retDK i23.res i58.code [g0,g1,g2] (fun p v h' n'=>p=none/\CovS 0 v h' n' (tkR R) [] 0)
theorem ends_z {e:Int} {h:Hp} {n:Nat}:CovS 0 (.tup [.agg [.i .i64 0,.ns],.ns,.i .i64 e]) h n (tkR (zJn,[],e)) [] 0:=by
 refine CovS.frzN (v':=tkR (zJn,[],e)) (l:=[]) (FzV.tup ⟨FzV.agg ⟨FzV.refl,FzV.hit,trivial⟩,FzV.hit,FzV.refl,trivial⟩) ?_;exact CovS.ends (Ends.pureE (tkR_bel _) rfl)
theorem ends_n {nx:Int} {hs:List Flt.Hf} {h:Hp} {n:Nat}:CovS 0 (.tup [.agg [.i .i64 nx,.fz (rows Flt.Hf.l hs) hs.length],.ns,.i .i64 0]) h n (tkR (⟨nx,hs⟩,[],0)) [] 0:=by
 refine CovS.frzN (v':=tkR (⟨nx,hs⟩,[],0)) (l:=[]) (FzV.tup ⟨FzV.refl,FzV.hit,FzV.refl,trivial⟩) ?_;exact CovS.ends (Ends.pureE (tkR_bel _) rfl)
theorem gids {g0 g1 g2:Nat} (h:[g0,g1,g2].Nodup):Nat.beq g0 g1=false/\Nat.beq g0 g2=false/\Nat.beq g1 g0=false/\Nat.beq g1 g2=false/\Nat.beq g2 g0=false/\Nat.beq g2 g1=false/\Nat.beq g0 g0=true/\Nat.beq g1 g1=true/\Nat.beq g2 g2=true:=by
 simp only [List.nodup_cons,List.mem_cons,List.not_mem_nil,or_false,not_or,not_false_eq_true,List.nodup_nil,and_true] at h;obtain ⟨⟨h1,h2⟩,h3⟩:=h;exact ⟨beq_ne fun e=>h1 e.symm,beq_ne fun e=>h2 e.symm,beq_ne h1,beq_ne fun e=>h3 e.symm,beq_ne h2,beq_ne h3,beq_self',beq_self',beq_self'⟩
def ntH (h:Flt.Hf):Nt:=⟨h.kd,h.sq,h.bd⟩
theorem tk_give {g0 g1 g2:Nat} (hG:[g0,g1,g2].Nodup) (nx:Int) (hn0:0<=nx) (hn1:nx<=65536) (hs:List Flt.Hf) (h0:0<hs.length) (hlen:hs.length<=5) (hgl: ∀x∈hs,x.got.length<=1000000):
 Seam F21 (.seq (.block 2 (.loop i23l26)) (.seq (.dreg i23r27) .ret)) (KT g0 g1 g2 ((giveS nx hs).1,(giveS nx hs).2,0)) [(4,.p 1 0),(5,.p 2 0),(6,.p 3 0)]
  [(5,{cells:=rows Flt.Hf.l hs,gr:=some 5}),(1,{cells:=[.i .i64 nx,.sg 5 0 hs.length],gid:=some g0}),(2,{cells:=[.ns],gid:=some g1}),(3,{cells:=[.i .i64 0],gid:=some g2})] 6:=by
 obtain ⟨b01,b02,b10,b12,b20,b21,b00,b11,b22⟩:=gids hG;obtain ⟨N,hN⟩: ∃N:Nat->List Nt,N=fun d=>(hs.take d).map ntH:=⟨_,rfl⟩;have hN0:N 0=[]:=by rw [hN];rfl
 have hNs: ∀d x,hs[d]? =some x->N (d+1)=N d++[ntH x]:=fun d x hx=>by
  have hlt:=(List.getElem?_eq_some_iff.1 hx).1;rw [List.getElem?_eq_getElem hlt] at hx;rw [hN];show (hs.take (d+1)).map ntH=(hs.take d).map ntH++[ntH x];rw [List.take_succ_eq_append_getElem hlt,List.map_append,List.map_singleton,Option.some.inj hx]
 have hNl: ∀d,(N d).length<=5:=fun d=>by
  rw [hN];show ((hs.take d).map ntH).length<=5;rw [List.length_map,List.length_take];omega
 obtain ⟨R,hR⟩: ∃R:Jn×List Nt×Int,R=((giveS nx hs).1,(giveS nx hs).2,0):=⟨_,rfl⟩;rw [<-hR];have hL: ∀(k:Nat) x,hs[k]? =some x->List.take 5 (List.drop (k*5) (rows Flt.Hf.l hs))=x.l:=fun k x hk=>rows_at Flt.Hf.len hk;have hL2: ∀(k:Nat) x,hs[k]? =some x->(rows Flt.Hf.l hs)[k*5+2]? =some (.i .i64 x.sq):=fun k x hk=>by
  have h1:=hL k x hk;have h2:(List.take 5 (List.drop (k*5) (rows Flt.Hf.l hs)))[2]? =some (.i .i64 x.sq):=by rw [h1];rfl
  rw [List.getElem?_take,if_pos (by decide),List.getElem?_drop] at h2
  exact h2
 have hLl:(rows Flt.Hf.l hs).length=hs.length*5:=rows_len Flt.Hf.len;have hb:=fun j=>hrB j hs;have hbr:=fun ψ=>hrR ψ hs;have gqN:gQ Nt.l 3 ([]:List Nt)= .nil:=rfl;have gqC: ∀l:List Nt,l≠[]->gQ Nt.l 3 l= .sg {cells:=rows Nt.l l,gr:=some 3} 0 l.length:=fun l h=>by unfold gQ;rw [if_neg (by simpa using h)]
 refine Seam.seq ?_;refine Seam.block ?_;refine Seam.run (F:=F21) hTC21 mo ?_;dsimp only [F21,TC21];simp only [go_sem,simprocAttr];refine Loop.stepS (F:=F21) (X:=Nat) (fun d=>d<=hs.length/\R=((giveS (nx+d) (hs.drop d)).1,N d++(giveS (nx+d) (hs.drop d)).2,0)) (fun d=>hs.length-d)
  (fun d=>[(4,.p 1 0),(5,.p 2 0),(6,.p 3 0)])
  (fun d=>(gQ Nt.l 3 (N d)).h 6++[(5,{cells:=rows Flt.Hf.l hs,gr:=some 5}),(1,{cells:=[.i .i64 (nx+(d:Int)),if d<hs.length then .sg 5 (d*5) (hs.length-d) else .fz [] 0],gid:=some g0}),(2,{cells:=[(gQ Nt.l 3 (N d)).v 6],gid:=some g1}),(3,{cells:=[.i .i64 0],gid:=some g2})]) 7 0 (fun d=>d+1) [] (fun d=>[(6,9)]) (by decide) (by decide) (fun d=>by decide) ⟨Nat.zero_le _,by rw [hR,hN0];simp⟩ ?_ ?_ (fun d hd=> ?_)
 ·simp only [go_sem,AV.ren,renL,AV.bel,belL,nblt,simprocAttr]
 ·rw [hN0,gqN,if_pos h0];simp only [Int.natCast_zero,Int.add_zero,Nat.zero_mul,Nat.sub_zero];simp only [go_sem,AV.ren,renL,AV.bel,belL,nblt,Blk.ren,hb,hbr,simprocAttr]
 obtain ⟨hdl,hRd⟩:=hd;have gm:decide (32*((N d).length+1)<=growMax)=true:=decide_eq_true (by have:=hNl d;simp only [growMax];omega)
 have gm1:decide (32<=growMax)=true:=by decide
 have hNb:=fun j=>nrB j (N d);have hNr:=fun ψ=>nrR ψ (N d);have hNz:(rows Nt.l (N d)).length=(N d).length*3:=rows_len Nt.len
 -- the end
 have fin:giveS (nx+d) (hs.drop d)=(⟨nx+d,hs.drop d⟩,[])-> ∀(h:Hp) n,(N d≠[]->hget h 6=some {cells:=rows Nt.l (N d),gr:=some 3})→
  CovS 0 (.tup [.agg [.i .i64 (nx+(d:Int)),.fz (rows Flt.Hf.l (hs.drop d)) (hs.length-d)],(gQ Nt.l 3 (N d)).v 6,.i .i64 0]) h n (tkR R) [] 0:=fun hg h n hN6=>by
  have hRR:R=(⟨nx+d,hs.drop d⟩,N d,0):=by rw [hRd,hg,List.append_nil]
  have hld:hs.length-d=(hs.drop d).length:=by rw [List.length_drop]
  rw [hRR,hld];by_cases hnd:N d=[]
  ·rw [hnd,gqN];exact ends_n
  ·rw [gqC _ hnd];refine CovS.frz (b:=6) (k:={cells:=rows Nt.l (N d),gr:=some 3}) (h':=[]) (o:=0) (m:=(N d).length) (x:= .sg 6 0 (N d).length) (cs:=rows Nt.l (N d)) (v':=tkR (⟨nx+d,hs.drop d⟩,N d,0)) (hN6 hnd) rfl (.inr rfl) (.inl (List.drop_zero).symm) (FzV.tup ⟨FzV.refl,FzV.hit,FzV.refl,trivial⟩) (fun c kk hc=>by simp [hget] at hc) ?_
   exact CovS.ends (Ends.pureE (tkR_bel _) rfl)
 have h6: ∀r:Hp,N d≠[]->hget ((gQ Nt.l 3 (N d)).h 6++r) 6=some {cells:=rows Nt.l (N d),gr:=some 3}:=fun r hn=>by rw [gqC _ hn];rfl
 have rdr:rows Flt.Hf.l (hs.drop d)=List.drop (d*5) (rows Flt.Hf.l hs):=by
  have h1:rows Flt.Hf.l hs=rows Flt.Hf.l (hs.take d)++rows Flt.Hf.l (hs.drop d):=by rw [<-rows_append,List.take_append_drop]
  have h2:(rows Flt.Hf.l (hs.take d)).length=d*5:=by rw [rows_len Flt.Hf.len,List.length_take,Nat.min_eq_left hdl]
  rw [h1,<-h2,List.drop_left]
 have stop:giveS (nx+d) (hs.drop d)=(⟨nx+d,hs.drop d⟩,[])->Seam F21 (.seq (.dreg i23r27) .ret) (KT g0 g1 g2 R) [(4,.p 1 0),(5,.p 2 0),(6,.p 3 0)]
  ((gQ Nt.l 3 (N d)).h 6++[(5,{cells:=rows Flt.Hf.l hs,gr:=some 5}),(1,{cells:=[.i .i64 (nx+(d:Int)),if d<hs.length then .sg 5 (d*5) (hs.length-d) else .fz [] 0],gid:=some g0}),(2,{cells:=[(gQ Nt.l 3 (N d)).v 6],gid:=some g1}),(3,{cells:=[.i .i64 0],gid:=some g2})]) 7:=fun hg=>by
  have fin:=fin hg;refine Seam.run (F:=F21) hTC21 mo ?_;dsimp only [F21,TC21,KT,i23];by_cases hlt:d<hs.length
  ·rw [if_pos hlt];by_cases hnd:N d=[]
   ·rw [hnd,gqN] at fin ⊢;simp only [go_sem,hglobC,hglob,b01,b02,b10,b12,b20,b21,b00,b11,b22,cond_true,cond_false,i58,simprocAttr];refine CovS.frz (b:=5) (k:={cells:=rows Flt.Hf.l hs,gr:=some 5}) (h':=[]) (o:=d*5) (m:=hs.length-d) (x:= .sg 5 (d*5) (hs.length-d)) (cs:=rows Flt.Hf.l (hs.drop d)) (v':= .tup [.agg [.i .i64 (nx+(d:Int)),.fz (rows Flt.Hf.l (hs.drop d)) (hs.length-d)],.ns,.i .i64 0]) rfl rfl (.inr rfl) (.inl rdr) (FzV.tup ⟨FzV.agg ⟨FzV.refl,FzV.hit,trivial⟩,FzV.refl,FzV.refl,trivial⟩) (fun c kk hc=>by simp [hget] at hc) (fin _ _ (fun h=>absurd rfl h))
   ·rw [gqC _ hnd] at fin ⊢;simp only [go_sem,hglobC,hglob,b01,b02,b10,b12,b20,b21,b00,b11,b22,cond_true,cond_false,i58,simprocAttr];refine CovS.frz (b:=5) (k:={cells:=rows Flt.Hf.l hs,gr:=some 5}) (h':=[(6,{cells:=rows Nt.l (N d),gr:=some 3})]) (o:=d*5) (m:=hs.length-d) (x:= .sg 5 (d*5) (hs.length-d)) (cs:=rows Flt.Hf.l (hs.drop d)) (v':= .tup [.agg [.i .i64 (nx+(d:Int)),.fz (rows Flt.Hf.l (hs.drop d)) (hs.length-d)],.sg 6 0 (N d).length,.i .i64 0]) rfl rfl (.inr rfl) (.inl rdr) (FzV.tup ⟨FzV.agg ⟨FzV.refl,FzV.hit,trivial⟩,FzV.refl,FzV.refl,trivial⟩) (fun c kk hc=> ?_) (fin _ _ (fun _=>rfl));have hm:=hget_mem hc;simp only [List.mem_cons,Prod.mk.injEq,List.not_mem_nil,or_false] at hm;obtain ⟨rfl,rfl⟩:=hm;exact ⟨by decide,rfl⟩
  ·have hdn:d=hs.length:=by omega
   have fz0:(AV.fz (rows Flt.Hf.l (hs.drop d)) (hs.length-d))= .fz [] 0:=by rw [hdn,List.drop_length,Nat.sub_self];rfl
   rw [fz0] at fin;rw [if_neg hlt];by_cases hnd:N d=[]
   ·rw [hnd,gqN] at fin ⊢;simp only [go_sem,hglobC,hglob,b01,b02,b10,b12,b20,b21,b00,b11,b22,cond_true,cond_false,i58,simprocAttr];exact fin _ _ (fun h=>absurd rfl h)
   ·rw [gqC _ hnd] at fin ⊢;simp only [go_sem,hglobC,hglob,b01,b02,b10,b12,b20,b21,b00,b11,b22,cond_true,cond_false,i58,simprocAttr];exact fin _ _ (fun _=>rfl)
 rcases Nat.lt_or_ge d hs.length with hlt|hge
 rotate_left
 · -- nothing is left
   have hdn:d=hs.length:=by omega
   have stop:=stop (giveS_stop fun x hx=>by rw [hdn,List.getElem?_eq_none (Nat.le_refl _)] at hx;cases hx)
   rw [if_neg (Nat.not_lt.2 hge)] at stop ⊢;refine Seam.part (F:=F21) hTC21 mo ?_;dsimp only [F21,TC21];by_cases hnd:N d=[]
   ·rw [hnd,gqN] at stop ⊢;simp only [go_sem,simprocAttr];exact Seam.ren [] stop (by decide) (by decide) (by simp only [go_sem,AV.bel,belL,nblt,AV.ren,renL,simprocAttr]) (by simp only [go_sem,AV.bel,belL,nblt,AV.ren,renL,Blk.ren,hb,hbr,simprocAttr])
   ·rw [gqC _ hnd] at stop ⊢;simp only [go_sem,simprocAttr];exact Seam.ren [] stop (by decide) (by decide) (by simp only [go_sem,AV.bel,belL,nblt,AV.ren,renL,simprocAttr]) (by simp only [go_sem,AV.bel,belL,nblt,AV.ren,renL,Blk.ren,hb,hbr,hNb,hNr,simprocAttr])
 obtain ⟨x,hx⟩: ∃x,hs[d]? =some x:=⟨_,List.getElem?_eq_getElem hlt⟩;have hxx:=hL d x hx;have hx2:=hL2 d x hx;have c1:decide (((hs.length-d:Nat):Int)>0)=true:=decide_eq_true (by omega)
 have c2:decide (0<=(0:Int)/\(0:Int)<((hs.length-d:Nat):Int))=true:=decide_eq_true (by omega)
 have hcm: ∀(h:Hp) n,k56 [.agg x.l] h n=some (true,{v:= .b (doneB x),n}):=fun h n=>by
  have:x.got.length<=1000000:=hgl x (List.mem_of_getElem? hx);simp only [k56,hf5_l,Option.bind_some];congr 2;exact decide_eq_true (by omega)
 have stop:=fun h=>stop (giveS_stop fun y hy=>by rw [hx] at hy;cases hy;exact h)
 rw [if_pos hlt] at stop ⊢;obtain ⟨xk,xl,xs,xb,xg⟩:=x;have hD: ∃D,D=doneB ⟨xk,xl,xs,xb,xg⟩:=⟨_,rfl⟩;obtain ⟨D,hD⟩:=hD;rw [<-hD] at stop hcm;simp only [Flt.Hf.l] at hxx hcm;dsimp only at hx2 stop;have hgb:=fun j=>grB j xg;have hgr:=fun ψ=>grR ψ xg;refine Seam.cut (fun KK hKK=> ?_);refine Seam.part (F:=F21) hTC21 mo ?_;dsimp only [F21,TC21];cases q:(xs==nx+(d:Int))
 ·subst hKK;have stop:=stop (by rw [q];rfl)
  by_cases hnd:N d=[]
  ·rw [hnd,gqN] at stop ⊢;simp only [go_sem,c1,c2,hx2,q,simprocAttr];exact Seam.ren [] stop (by decide) (by decide) (by simp only [go_sem,AV.bel,belL,nblt,AV.ren,renL,simprocAttr]) (by simp only [go_sem,AV.bel,belL,nblt,AV.ren,renL,Blk.ren,hb,hbr,simprocAttr])
  ·rw [gqC _ hnd] at stop ⊢;simp only [go_sem,c1,c2,hx2,q,simprocAttr];exact Seam.ren [] stop (by decide) (by decide) (by simp only [go_sem,AV.bel,belL,nblt,AV.ren,renL,simprocAttr]) (by simp only [go_sem,AV.bel,belL,nblt,AV.ren,renL,Blk.ren,hb,hbr,hNb,hNr,simprocAttr])
 cases D
 ·subst hKK;have stop:=stop (by rw [q];rfl)
  by_cases hnd:N d=[]
  ·rw [hnd,gqN] at stop ⊢;simp only [go_sem,c1,c2,hx2,q,hxx,hcm,simprocAttr];exact Seam.ren [] stop (by decide) (by decide) (by simp only [go_sem,AV.bel,belL,nblt,AV.ren,renL,simprocAttr]) (by simp only [go_sem,AV.bel,belL,nblt,AV.ren,renL,Blk.ren,hb,hbr,simprocAttr])
  ·rw [gqC _ hnd] at stop ⊢;simp only [go_sem,c1,c2,hx2,q,hxx,hcm,simprocAttr];exact Seam.ren [] stop (by decide) (by decide) (by simp only [go_sem,AV.bel,belL,nblt,AV.ren,renL,simprocAttr]) (by simp only [go_sem,AV.bel,belL,nblt,AV.ren,renL,Blk.ren,hb,hbr,hNb,hNr,simprocAttr])
 clear stop fin;have hq:xs=nx+(d:Int):=by simpa using q
 have hgd:=giveS_drop hx hq hD.symm;have hns:=hNs d _ hx;have hRn:R=((giveS (nx+((d+1:Nat):Int)) (hs.drop (d+1))).1,N (d+1)++(giveS (nx+((d+1:Nat):Int)) (hs.drop (d+1))).2,0):=by
  rw [hRd,hgd,hns];simp only [List.append_assoc,List.singleton_append];rfl
 have wn:IntKind.i64.wrap (nx+(d:Int)+1)=nx+((d+1:Nat):Int):=by rw [wrapL (by omega) (by omega)];omega
 have hstep:(d+1<=hs.length/\R=((giveS (nx+((d+1:Nat):Int)) (hs.drop (d+1))).1,N (d+1)++(giveS (nx+((d+1:Nat):Int)) (hs.drop (d+1))).2,0))/\hs.length-(d+1)<hs.length-d:=⟨⟨by omega,hRn⟩,by omega⟩
 have hnl:N (d+1)≠[]:=by rw [hns];simp
 have lap:rows Nt.l (N (d+1))=rows Nt.l (N d)++[.i .i64 xk,.i .i64 xs,.s xb]:=by rw [hns,rows_append];rfl
 have lal:(N (d+1)).length=(N d).length+1:=by rw [hns];simp
 clear hRd hRn hgd hns hD hNs hN0 hR;have hMb:=fun j=>nrB j (N (d+1));have hMr:=fun ψ=>nrR ψ (N (d+1))
 -- the last of the round
 have tl: ∀K:Kont,K=(blockK 3 (thenK (blockK 2 (thenK (KT g0 g1 g2 R) (Seam F21 (.seq (.dreg i23r27) .ret) (KT g0 g1 g2 R)))) fun e' h' n'=>((d+1<=hs.length/\R=((giveS (nx+((d+1:Nat):Int)) (hs.drop (d+1))).1,N (d+1)++(giveS (nx+((d+1:Nat):Int)) (hs.drop (d+1))).2,0))/\hs.length-(d+1)<hs.length-d)/\EnvR 7 [(6,9)] e' [(4,.p 1 0),(5,.p 2 0),(6,.p 3 0)]∧
  HpR 7 [(6,9)] h' ((gQ Nt.l 3 (N (d+1))).h 6++[(5,{cells:=rows Flt.Hf.l hs,gr:=some 5}),(1,{cells:=[.i .i64 (nx+((d+1:Nat):Int)),if d+1<hs.length then .sg 5 ((d+1)*5) (hs.length-(d+1)) else .fz [] 0],gid:=some g0}),(2,{cells:=[(gQ Nt.l 3 (N (d+1))).v 6],gid:=some g1}),(3,{cells:=[.i .i64 0],gid:=some g2})])))→
  Seam F21 (.seq (.reg i23r24) (.reg i23r25)) K [(4,.p 1 0),(5,.p 2 0),(6,.p 3 0)]
  [(9,{cells:=rows Nt.l (N (d+1)),gr:=some 3}),(5,{cells:=rows Flt.Hf.l hs,gr:=some 5}),(1,{cells:=[.i .i64 (nx+(d:Int)),.sg 5 (d*5) (hs.length-d)],gid:=some g0}),(2,{cells:=[.sg 9 0 (N (d+1)).length],gid:=some g1}),(3,{cells:=[.i .i64 0],gid:=some g2})] 10:=fun K hK=>by
  subst hK;refine Seam.part (F:=F21) hTC21 mo ?_;dsimp only [F21,TC21];have c3:decide ((1:Int)<=((hs.length-d:Nat):Int)/\(0:Int)<=((hs.length-d:Nat):Int))=true:=decide_eq_true (by omega)
  have hM:=fun r:List Nt=>gqC r;rw [gqC _ hnl];by_cases hl:d+1<hs.length
  ·rw [if_pos hl];have c4:decide (False\/1<hs.length-d)=true:=decide_eq_true (.inr (by omega))
   have e5:(d+1)*5=d*5+5:=by omega
   have e6:hs.length-(d+1)=hs.length-d-1:=by omega
   rw [e6] at hstep ⊢;rw [e5];simp only [go_sem,c3,c4,simprocAttr];refine Seam.run (F:=F21) hTC21 mo ?_;dsimp only [F21,TC21];simp only [go_sem,wn,hstep,AV.ren,renL,AV.bel,belL,nblt,Blk.ren,hb,hbr,hMb,hMr,simprocAttr]
  ·rw [if_neg hl];have c4:decide (False\/1<hs.length-d)=false:=decide_eq_false (fun h=>h.elim _root_.id (by omega))
   simp only [go_sem,c3,c4,simprocAttr];refine Seam.wk (e2:=[(4,.p 1 0),(5,.p 2 0),(6,.p 3 0)]) (h2:=[(9,{cells:=rows Nt.l (N (d+1)),gr:=some 3}),(5,{cells:=rows Flt.Hf.l hs,gr:=some 5}),(1,{cells:=[.i .i64 (nx+(d:Int)),.fz [] 0],gid:=some g0}),(2,{cells:=[.sg 9 0 (N (d+1)).length],gid:=some g1}),(3,{cells:=[.i .i64 0],gid:=some g2})]) ?_
    ⟨⟨_,rfl,Wka.refl _⟩,⟨_,rfl,Wka.refl _⟩,⟨_,rfl,Wka.refl _⟩,trivial⟩ ⟨⟨_,rfl,rfl,rfl,rfl,WkaL.refl _⟩,⟨_,rfl,rfl,rfl,rfl,WkaL.refl _⟩,⟨_,rfl,rfl,rfl,rfl,Wka.refl _,Wka.en,trivial⟩,⟨_,rfl,rfl,rfl,rfl,WkaL.refl _⟩,⟨_,rfl,rfl,rfl,rfl,WkaL.refl _⟩,trivial⟩
   refine Seam.run (F:=F21) hTC21 mo ?_;dsimp only [F21,TC21];simp only [go_sem,wn,hstep,AV.ren,renL,AV.bel,belL,nblt,Blk.ren,hb,hbr,hMb,hMr,simprocAttr]
 clear hstep;have big:Seam F21 (.block 3 (.seq (.reg i23r22) (.seq (.reg i23r23) (.seq (.reg i23r24) (.reg i23r25))))) KK [(4,.p 1 0),(5,.p 2 0),(6,.p 3 0)]
  ((gQ Nt.l 3 (N d)).h 6++[(5,{cells:=rows Flt.Hf.l hs,gr:=some 5}),(1,{cells:=[.i .i64 (nx+(d:Int)),.sg 5 (d*5) (hs.length-d)],gid:=some g0}),(2,{cells:=[(gQ Nt.l 3 (N d)).v 6],gid:=some g1}),(3,{cells:=[.i .i64 0],gid:=some g2})]) 7:=by
  subst hKK;refine Seam.block ?_;refine Seam.cut (fun K3 hK3=> ?_);have tl:=tl K3 hK3;clear hK3;by_cases hnd:N d=[]
  ·rw [hnd,gqN];rw [hnd] at lap;simp only [rows_nil,List.nil_append] at lap;have lal1:(N (d+1)).length=1:=by rw [lal,hnd];rfl
   refine Seam.part (F:=F21) hTC21 mo ?_;dsimp only [F21,TC21];simp only [go_sem,c1,c2,hx2,q,hxx,hcm,AV.bel,belL,nblt,hgb,simprocAttr];refine Seam.part (F:=F21) hTC21 mo ?_;dsimp only [F21,TC21];simp only [go_sem,gm1,AV.bel,belL,nblt,simprocAttr];exact Seam.ren [] tl (by decide) (by decide) (by simp only [go_sem,AV.bel,belL,nblt,AV.ren,renL,simprocAttr]) (by rw [lap,lal1];simp only [go_sem,AV.bel,belL,nblt,AV.ren,renL,Blk.ren,hb,hbr,simprocAttr])
  ·rw [gqC _ hnd];refine Seam.part (F:=F21) hTC21 mo ?_;dsimp only [F21,TC21];simp only [go_sem,c1,c2,hx2,q,hxx,hcm,AV.bel,belL,nblt,hgb,simprocAttr];refine Seam.part (F:=F21) hTC21 mo ?_;dsimp only [F21,TC21];simp only [go_sem,gm,hNz,AV.bel,belL,nblt,simprocAttr];have lbx: ∀j,belL j (rows Nt.l (N d)++[.i .i64 xk,.i .i64 xs,.s xb])=true:=fun j=>by rw [<-lap];exact nrB j _
   have lrx: ∀ψ,renL ψ (rows Nt.l (N d)++[.i .i64 xk,.i .i64 xs,.s xb])=rows Nt.l (N d)++[.i .i64 xk,.i .i64 xs,.s xb]:=fun ψ=>by rw [<-lap];exact nrR ψ _
   exact Seam.ren [] tl (by decide) (by decide) (by simp only [go_sem,AV.bel,belL,nblt,AV.ren,renL,simprocAttr]) (by rw [lap,lal];simp only [go_sem,AV.bel,belL,nblt,AV.ren,renL,Blk.ren,hb,hbr,lbx,lrx,simprocAttr])
 clear tl hKK;by_cases hnd:N d=[]
 ·rw [hnd,gqN] at big ⊢;simp only [go_sem,c1,c2,hx2,q,hxx,hcm,simprocAttr];exact Seam.ren [] big (by decide) (by decide) (by simp only [go_sem,AV.bel,belL,nblt,AV.ren,renL,simprocAttr]) (by simp only [go_sem,AV.bel,belL,nblt,AV.ren,renL,Blk.ren,hb,hbr,simprocAttr])
 ·rw [gqC _ hnd] at big ⊢;simp only [go_sem,c1,c2,hx2,q,hxx,hcm,simprocAttr];exact Seam.ren [] big (by decide) (by decide) (by simp only [go_sem,AV.bel,belL,nblt,AV.ren,renL,simprocAttr]) (by simp only [go_sem,AV.bel,belL,nblt,AV.ren,renL,Blk.ren,hb,hbr,hNb,hNr,simprocAttr])
end Go.Proofs.Flz
