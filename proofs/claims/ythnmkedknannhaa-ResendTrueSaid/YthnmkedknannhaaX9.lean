/- Texts laid as one: ResM11 ResM12 ResP4 ResI10 ResL7a ResM14 ResK ResL7. -/
import Derived.Test.YthnmkedknannhaaX8
import Derived.Test.YthnmkedknannhaaProg
set_option maxRecDepth 100000
set_option maxHeartbeats 4000000
set_option linter.unusedSimpArgs false
set_option linter.unusedVariables false
namespace Go.Proofs.Res
open Go.Ab
theorem w77 (l:List Int) (hl:l.length<=1000):FTL Try.prog 77 [.fz (rows int1 l) l.length] [] 0 (.fz (rows int1 l) l.length) [] 0:=
 cln_f (z:=1) (bytes:=8) (zs:=[.i .i64 0]) mo Try.func77 (by kernel_rfl) (rows_len int1_len) (rows_one1 (fun _=>rfl) l) (rows_bel int1_bel) (by simp only [growMax];omega)
theorem w78 (l:List Xt) (hl:l.length<=1000):FTL Try.prog 78 [.fz (rows xtR l) l.length] [] 0 (.fz (rows xtR l) l.length) [] 0:=
 cln_f (z:=2) (bytes:=24) (zs:=[.i .i64 0,.s []]) mo Try.func78 (by kernel_rfl) (rows_len xtR_len) (rows_one1 (fun _=>rfl) l) (rows_bel xtR_bel) (by simp only [growMax];omega)
def xtV:List AV->Option Xt
 |[.i .i64 x,.s l]=>some (x,l)
 |_=>none
theorem xtV_eq (c:List AV) (a:Xt) (h:xtV c=some a):c=xtR a:=by
 unfold xtV at h;split at h
 ·cases h;rfl
 ·cases h
theorem xt_un (l:List Xt):unrows 2 xtV l.length (rows xtR l)=some l:=unrows_rows xtR_len (fun _=>rfl) l
theorem in_un (l:List Int):unrows 1 intV l.length (rows int1 l)=some l:=unrows_rows int1_len (fun _=>rfl) l
def k77:Ct
 |[.fz L m],_,n=>(unrows 1 intV m L).bind fun l=>some (decide (m<=1000),{v:= .fz L m,n})
 |_,_,_=>none
theorem s77:SoundAt Try.prog 77 k77:=fun args h n c E hc ht=>by
 unfold k77 at hc;split at hc
 ·simp only [Option.bind_eq_some_iff] at hc;obtain ⟨l,hl,he⟩:=hc;cases he;obtain ⟨rfl,rfl⟩:=unrows_eq intV_eq hl;have hb:AV.bel 0 (.fz (rows int1 l) l.length)=true:=rows_bel int1_bel;exact CallOK.pure (by kernel_rfl) (by simp only [belL,hb,Bool.and_self]) hb (w77 l (of_decide_eq_true ht)) _ _
 ·cases hc
def k78:Ct
 |[.fz L m],_,n=>(unrows 2 xtV m L).bind fun l=>some (decide (m<=1000),{v:= .fz L m,n})
 |_,_,_=>none
theorem s78:SoundAt Try.prog 78 k78:=fun args h n c E hc ht=>by
 unfold k78 at hc;split at hc
 ·simp only [Option.bind_eq_some_iff] at hc;obtain ⟨l,hl,he⟩:=hc;cases he;obtain ⟨rfl,rfl⟩:=unrows_eq xtV_eq hl;have hb:AV.bel 0 (.fz (rows xtR l) l.length)=true:=rows_bel xtR_bel;exact CallOK.pure (by kernel_rfl) (by simp only [belL,hb,Bool.and_self]) hb (w78 l (of_decide_eq_true ht)) _ _
 ·cases hc
/-! Original -/
theorem or16 (h l:Nat) (hh:h<256) (hl:l<256):orI .i64 (IntKind.i64.wrap ((h:Int)*256)) (l:Int)=256*(h:Int)+l:=by
 have e1:IntKind.i64.wrap ((h:Int)*256)=((h*256:Nat):Int):=by rw [wrapL (by omega) (by omega)];omega
 rw [e1];unfold orI;have e2:(BitVec.ofInt IntKind.i64.bits ((h*256:Nat):Int) ||| BitVec.ofInt IntKind.i64.bits (l:Int)).toNat=h*256+l:=by
  show (BitVec.ofInt 64 ((h*256:Nat):Int) ||| BitVec.ofInt 64 (l:Int)).toNat=h*256+l;simp only [BitVec.toNat_or,BitVec.ofInt_natCast,BitVec.toNat_ofNat];rw [Nat.mod_eq_of_lt (by omega),Nat.mod_eq_of_lt (by omega)]
  have:=Nat.two_pow_add_eq_or_of_lt (i:=8) (b:=l) (by omega) h
  rw [Nat.mul_comm h 256];exact this.symm
 rw [e2,wrapL (by omega) (by omega)]
 omega
theorem and16 (x:Int) (h0:0<=x) (h1:x<=1000000):andI .i64 x 65535=x % 65536:=by
 obtain ⟨k,rfl⟩:=Int.eq_ofNat_of_zero_le h0;unfold andI;have e2:(BitVec.ofInt IntKind.i64.bits (k:Int) &&& BitVec.ofInt IntKind.i64.bits 65535).toNat=k % 65536:=by
  show (BitVec.ofInt 64 (k:Int) &&& BitVec.ofInt 64 ((65535:Nat):Int)).toNat=k % 65536;simp only [BitVec.toNat_and,BitVec.ofInt_natCast,BitVec.toNat_ofNat];rw [Nat.mod_eq_of_lt (by omega),Nat.mod_eq_of_lt (by omega)]
  exact Nat.and_two_pow_sub_one_eq_mod k 16
 rw [e2,wrapL (by omega) (by omega)]
 omega
theorem wrB8 (b:UInt8):IntKind.i64.wrap (b.toNat:Int)=(b.toNat:Int):=by have:=b.toNat_lt;exact wrapL (by omega) (by omega)
theorem or16' (b c:UInt8):orI .i64 (IntKind.i64.wrap (IntKind.i64.wrap (b.toNat:Int)*256)) (IntKind.i64.wrap (c.toNat:Int))=256*(b.toNat:Int)+c.toNat:=by
 rw [wrB8,wrB8];exact or16 _ _ b.toNat_lt c.toNat_lt
def zM:Md:=⟨false,0,0,0,0,[],[],0,[]⟩
def rsM (r:Md×Int):AV:= .tup [.agg r.1.l,.i .i64 r.2]
theorem rsM_bel (r:Md×Int):(rsM r).bel 0=true:=by simp only [rsM,AV.bel,belL,Md.bel,Bool.and_self]
theorem covM_n {e:Int} {h:Hp} {n:Nat}:CovS 0 (.tup [.agg [.b false,.i .i64 0,.i .i64 0,.i .i64 0,.i .i64 0,.ns,.ns,.i .i64 0,.s []],.i .i64 e]) h n (rsM (zM,e)) [] 0:=by
 refine CovS.frzN (l:=[]) (v':=rsM (zM,e)) (FzV.tup ⟨FzV.agg ⟨FzV.refl,FzV.refl,FzV.refl,FzV.refl,FzV.refl,FzV.hit,FzV.hit,FzV.refl,FzV.refl,trivial⟩,FzV.refl,trivial⟩) ?_;exact CovS.ends (Ends.pureE rfl rfl)
def orgS (p:Md) (ss ty:Int):Md×Int:=
 bif mdB p then bif namesB ss ty 0 then (match p.pl with
  |a::b::r=>(⟨p.ma,ty,256*(a.toNat:Int)+(b.toNat:Int),p.tm,ss,p.cs,p.xs,p.pd,r⟩,0)
  |_=>(zM,7)) else (zM,2) else (zM,230)
theorem mdB_len {p:Md} (h:mdB p=true):p.cs.length<=15/\p.xs.length<=16:=by
 simp only [mdB,mdPre,Bool.and_eq_true,decide_eq_true_eq] at h;exact ⟨h.1.1.2,h.1.2⟩
def TM38:List (Nat×Ct):=[(66,k66),(68,k68),(77,k77),(78,k78)]
theorem hTM38:Sound Try.prog (cxT TM38):=Sound.cons s66 (Sound.cons s68 (Sound.cons s77 (Sound.cons s78 Sound.nil)))
theorem w38 (p:Md) (ss ty:Int) (hf:p.fin=true):FTL Try.prog 38 [.agg p.l,.i .i64 ss,.i .i64 ty] [] 0 (rsM (orgS p ss ty)) [] 0:=by
 have h9:=md9_l p;have hk68: ∀(h:Hp) n,k68 [.agg p.l] h n=some (true,{v:= .i .i64 (if mdB p then 0 else 230),n}):=fun h n=>by
  simp only [k68,h9,Option.bind_some,hf]
 generalize hRR:orgS p ss ty=R;unfold orgS at hRR;have hml:=fun h=>mdB_len (p:=p) h;generalize mdB p=mb at*;obtain ⟨ma,pty,sq,tm,pss,cs,xs,pd,pl⟩:=p;simp only [Md.l] at hk68 ⊢;dsimp only at hRR hml;have hcB: ∀j,belL j (rows int1 cs)=true:=fun j=>csB j cs;have hxB: ∀j,belL j (rows xtR xs)=true:=fun j=>xsB j xs;refine FTL.of_cov (cx:=cxT TM38) hTM38 mo Try.func38 i38_eq (by simp [i38]) (iw_of_jw ?_)
 dsimp only [i38,TM38];cases mb
 ·simp only [Bool.false_eq_true,if_false] at hk68;simp (maxSteps:=400000) only [go_sem,hk68,simprocAttr];rw [<-hRR];exact covM_n
 simp only [if_true] at hk68;simp only [cond_true] at hRR;have hcl:decide (cs.length<=1000)=true:=decide_eq_true (by have:=hml rfl;omega)
 have hxl:decide (xs.length<=1000)=true:=decide_eq_true (by have:=hml rfl;omega)
 have hk77: ∀(h:Hp) n,k77 [.fz (rows int1 cs) cs.length] h n=some (true,{v:= .fz (rows int1 cs) cs.length,n}):=fun h n=>by simp only [k77,in_un,Option.bind_some,hcl]
 have hk78: ∀(h:Hp) n,k78 [.fz (rows xtR xs) xs.length] h n=some (true,{v:= .fz (rows xtR xs) xs.length,n}):=fun h n=>by simp only [k78,xt_un,Option.bind_some,hxl]
 cases b1:namesB ss ty 0
 ·rw [b1] at hRR;simp (maxSteps:=400000) only [go_sem,hk68,k66,b1,simprocAttr];rw [<-hRR];exact covM_n
 rw [b1] at hRR;simp only [cond_true] at hRR;rcases pl with _|⟨a,_|⟨b,r⟩⟩
 ·simp (maxSteps:=400000) only [go_sem,hk68,k66,b1,simprocAttr];rw [<-hRR];exact covM_n
 ·simp (maxSteps:=400000) only [go_sem,hk68,k66,b1,simprocAttr];rw [<-hRR];exact covM_n
 ·have c2:decide (((r.length+1+1:Nat):Int)<2)=false:=decide_eq_false (by omega)
  have c3:decide ((0:Int)<((r.length+1+1:Nat):Int))=true:=decide_eq_true (by omega)
  have c4:decide ((1:Int)<((r.length+1+1:Nat):Int))=true:=decide_eq_true (by omega)
  have c5:decide ((2:Int)<=((r.length+1+1:Nat):Int))=true:=decide_eq_true (by omega)
  have ho:=or16' a b;dsimp only at hRR;simp (maxSteps:=400000) only [go_sem,hk68,k66,b1,hk77,hk78,c2,c3,c4,c5,ho,List.drop_zero,simprocAttr];rw [<-hRR];exact CovS.ends (Ends.pureE (by simp only [AV.bel,belL,hcB,hxB,Bool.and_self]) rfl)
def k38:Ct
 |[.agg b,.i .i64 ss,.i .i64 ty],_,n=>(md9 b).bind fun p=>some (p.fin,{v:=rsM (orgS p ss ty),n})
 |_,_,_=>none
theorem s38:SoundAt Try.prog 38 k38:=fun args h n c E hc ht=>by
 unfold k38 at hc;split at hc
 ·simp only [Option.bind_eq_some_iff] at hc;obtain ⟨p,hp,he⟩:=hc;cases he;rw [md9_eq hp];exact CallOK.pure (by kernel_rfl) (by simp only [belL,AV.bel,Md.bel,Bool.and_self]) (rsM_bel _) (w38 p _ _ ht) _ _
 ·cases hc
/-! again -/
def agS (p:Md) (ss ty nx:Int):Md:=⟨p.ma,ty,nx,p.tm,ss,p.cs,p.xs,p.pd,UInt8.ofNat (p.sq/256).toNat::UInt8.ofNat (p.sq % 256).toNat::p.pl⟩
def TM76:List (Nat×Ct):=[(77,k77),(78,k78)]
theorem hTM76:Sound Try.prog (cxT TM76):=Sound.cons s77 (Sound.cons s78 Sound.nil)
def shNe (b:Nat):AV->Bool
 | .sl c _ _ _=> !(Nat.beq b c)
 | .sg c _ _=> !(Nat.beq b c)
 |_=>true
theorem shNe_ne {b:Nat} {v:AV} (h:shNe b v=true) (hr:shR v≠[]):b≠shB v:=by
 unfold shNe at h;split at h
 ·intro e;subst e;simp [shB,nbeq] at h
 ·intro e;subst e;simp [shB,nbeq] at h
 ·rename_i n1 n2;exfalso;apply hr;cases v<;>first|rfl|exact absurd rfl (n1 _ _ _ _)|exact absurd rfl (n2 _ _ _)
theorem w76 (p:Md) (ti ss ty nx:Int) (s:Sh) (hp:s.plain=true) (hm:mdB p=true) (hpl:p.pl.length<=1000000000000) (hn:inI 0 65535 nx=true):FTL Try.prog 76 [.p 0 0,.agg p.l] ((0,{cells:=[.i .i64 ti,.i .i64 ss,.i .i64 ty,.i .i64 nx,s.v 1]})::s.h 1) 2 (.agg (agS p ss ty nx).l) ((0,{cells:=[.i .i64 ti,.i .i64 ss,.i .i64 ty,.i .i64 ((nx+1) % 65536),s.v 1]})::s.h 1) 2:=by
 have hml:=mdB_len hm;have hsq:=mdB_sq hm;obtain ⟨ma,pty,sq,tm,pss,cs,xs,pd,pl⟩:=p;simp only [Md.l,agS];dsimp only at hml hsq;have hcB: ∀j,belL j (rows int1 cs)=true:=fun j=>csB j cs;have hxB: ∀j,belL j (rows xtR xs)=true:=fun j=>xsB j xs;have hcl:decide (cs.length<=1000)=true:=decide_eq_true (by omega)
 have hxl:decide (xs.length<=1000)=true:=decide_eq_true (by omega)
 have hk77: ∀(h:Hp) n,k77 [.fz (rows int1 cs) cs.length] h n=some (true,{v:= .fz (rows int1 cs) cs.length,n}):=fun h n=>by simp only [k77,in_un,Option.bind_some,hcl]
 have hk78: ∀(h:Hp) n,k78 [.fz (rows xtR xs) xs.length] h n=some (true,{v:= .fz (rows xtR xs) xs.length,n}):=fun h n=>by simp only [k78,xt_un,Option.bind_some,hxl]
 refine FTL.of_iw (cx:=cxT TM76) hTM76 mo Try.func76 i76_eq (by simp [i76]) (iw_of_jw ?_)
 dsimp only [i76,TM76];have hn:=inI_t hn;have hsq:=inI_t hsq;have e1:IntKind.i64.wrap (nx+1)=nx+1:=wrapL (by omega) (by omega)
 have e2:andI IntKind.i64 (nx+1) 65535=(nx+1) % 65536:=and16 _ (by omega) (by omega)
 have e3:IntKind.u8.wrap (sq.fdiv 256)=sq/256:=by rw [Int.fdiv_eq_ediv_of_nonneg _ (by omega),wrapU8];omega
 have e4:IntKind.u8.wrap sq=sq % 256:=wrapU8 _;have e5:decide (2+pl.length<=9223372036854775807)=true:=decide_eq_true (by simp only at hpl;omega)
 simp (maxSteps:=400000) only [go_sem,hk77,hk78,e1,e2,e3,e4,e5,simprocAttr];exact Ends.boxM (C:=fun i=>[.i .i64 ti,.i .i64 ss,.i .i64 ty,.i .i64 ((nx+1) % 65536),s.v i]) hp rfl (by simp only [AV.bel,belL,hcB,hxB,Bool.and_self]) (by simp only [renL,AV.ren,v_ren];rfl) (by simp only [belL,AV.bel,v_bel (show 1<2 by decide),Bool.and_self]) (by simp [hget_cons]) (by simp [hasS_cons,hasS_hit0])
def hdB:Blk->Option (Int×Int×Int×Int×AV)
 |⟨[.i .i64 ti,.i .i64 ss,.i .i64 ty,.i .i64 nx,v],false,none,none,none⟩=>some (ti,ss,ty,nx,v)
 |_=>none
theorem hdB_eq {k:Blk} {ti ss ty nx:Int} {v:AV} (h:hdB k=some (ti,ss,ty,nx,v)):k={cells:=[.i .i64 ti,.i .i64 ss,.i .i64 ty,.i .i64 nx,v]}:=by
 unfold hdB at h;split at h
 ·cases h;rfl
 ·cases h
def k76:Ct
 |[.p b 0,.agg c],h,n=>(md9 c).bind fun p=>(hget h b).bind fun k=>(hdB k).bind fun q=>(shAt q.2.2.2.2 h).bind fun s=>
  some (s.plain&&(shNe b q.2.2.2.2&&(mdB p&&(decide (p.pl.length<=1000000000000)&&inI 0 65535 q.2.2.2.1))),{v:= .agg (agS p q.2.1 q.2.2.1 q.2.2.2.1).l,n:=n+2,rd:=b::shR q.2.2.2.2,md:=[(b,some {cells:=[.i .i64 q.1,.i .i64 q.2.1,.i .i64 q.2.2.1,.i .i64 ((q.2.2.2.1+1) % 65536),q.2.2.2.2]})]})
 |_,_,_=>none
theorem s76:SoundAt Try.prog 76 k76:=fun args h n c E hc ht=>by
 unfold k76 at hc;split at hc
 ·rename_i b cc;simp only [Option.bind_eq_some_iff] at hc;obtain ⟨p,hp,k,hk,⟨ti,ss,ty,nx,v⟩,hq,s,hs,he⟩:=hc;rw [hdB_eq hq] at hk;rw [md9_eq hp];cases he;simp only [Bool.and_eq_true,decide_eq_true_eq] at ht;have hv:=(shAt_inv hs).1;have hpr: ∀ψ,renL ψ p.l=p.l:=fun ψ=>renL_fix0 _ (Md.bel p);have hpb:belL 2 p.l=true:=belL_mono0 _ (Md.bel p);dsimp only at hs ht;have:=CallOK.boxM (n:=n) (s:=s) (v:=v) (A:=fun b=>[.p b 0,.agg p.l]) (C:=fun i=>[.i .i64 ti,.i .i64 ss,.i .i64 ty,.i .i64 nx,s.v i]) (C':=fun i=>[.i .i64 ti,.i .i64 ss,.i .i64 ty,.i .i64 ((nx+1) % 65536),s.v i]) true (by kernel_rfl) (by simp only [belL,AV.bel,hpb,nblt,Bool.and_self];rfl) (by simp only [belL,AV.bel,v_bel (show 1<2 by decide),Bool.and_self]) (by rw [<-hv];exact hk) hs ht.1 (shNe_ne ht.2.1) (fun ψ=>by simp only [renL,AV.ren,hpr]) (fun ψ=>by simp only [renL,AV.ren,v_ren]) (fun ψ=>by simp only [renL,AV.ren,v_ren]) (fun h i j=>by subst h;rfl) (fun h i j=>by subst h;rfl) (by simp only [AV.bel,Md.bel]) (fun h=>by cases h) (w76 p ti ss ty nx s ht.1 ht.2.2.1 ht.2.2.2.1 ht.2.2.2.2)
  rwa [<-hv] at this
 ·cases hc
end Go.Proofs.Res
namespace Go.Proofs.Res
open Go.Ab
set_option maxHeartbeats 8000000
/-! what is looked for -/
theorem w75 (x:Kp) (n:Int):FTL Try.prog 75 [.agg x.l,.fp [.i .i64 n] 0] [] 0 (.b (x.p.sq==n)) [] 0:=by
 obtain ⟨⟨ma,pty,sq,tm,pss,cs,xs,pd,pl⟩,xt,xa⟩:=x;refine FTL.of_iw Sound.nil mo Try.func75 i75_eq (by simp [i75]) (iw_of_jw ?_)
 dsimp only [i75];simp (maxSteps:=400000) only [go_sem,Kp.l,simprocAttr];exact Ends.pureE rfl rfl
theorem w74q (n:Int) (l:List Kp) (hl:l.length<=9223372036854775807):
 FTL Try.prog 74 [.fz (rows Kp.l l) l.length,.fn 75 [.fp [.i .i64 n] 0]] [] 0 (.i .i64 (ixf (fun x=>x.p.sq==n) l 0)) [] 0:=
 ixf_fz (row:=Kp.l) (el:=fun x=> .agg x.l) mo Try.func74 i74_eq (by kernel_rfl) Kp.len Kp.bel rfl (fun _=>rfl) (fun a b h=>by simp only [AV.agg.injEq] at h;rw [Kp.inj h]) l hl (fun x hx=>w75 x n)
def k74q:Ct
 |[x,.fn 75 [.p a 0]],h,n=>vwK h 11 x fun rd m cs ok=>(unrows 11 kp11 m cs).bind fun l=>(hget h a).bind fun ka=>(oneB ka).bind fun q=>
  some (ok&&decide (m<=9223372036854775807),{v:= .i .i64 (ixf (fun x=>x.p.sq==q) l 0),n,rd:=a::rd})
 |_,_,_=>none
theorem s74q:SoundAt Try.prog 74 k74q:=fun args h n c E hc ht=>by
 unfold k74q at hc;split at hc
 ·rename_i x a;rw [vwK_eq] at hc;simp only [Option.bind_eq_some_iff] at hc;obtain ⟨⟨rd,m,cs,ok⟩,hv,l,hl,ka,hka,q,hq,he⟩:=hc;cases he;simp only [Bool.and_eq_true,decide_eq_true_eq] at ht;obtain ⟨rfl,hm⟩:=ht;obtain ⟨rfl,hlm⟩:=unrows_eq (f:=Kp.l) (fun c a h=>kp11_eq h) hl;subst hlm;refine CallOK.viewG (by kernel_rfl) (argsF:=[.fz (rows Kp.l l) l.length,.fn 75 [.fp ka.cells 0]]) ⟨vwK_sub hv (rows_bel Kp.bel) (fun c hc=>by simp [inl_cons,hc]),VwV.fn ⟨VwV.p (by simp [only,inl_cons,hka]) (by rw [oneB_eq hq];rfl) (by rw [oneB_eq hq]),trivial⟩,trivial⟩ rfl ?_
  rw [oneB_eq hq];exact w74q q l hm
 ·cases hc
def TM73:List (Nat×Ct):=[(49,k49)]
theorem hTM73:Sound Try.prog (cxT TM73):=Sound.cons s49 Sound.nil
theorem w73 (x:Int):FTL Try.prog 73 [.i .i64 x] [] 0 (.b !(inI 0 65535 x)) [] 0:=by
 refine FTL.of_iw hTM73 mo Try.func73 i73_eq (by simp [i73]) (iw_of_jw ?_)
 dsimp only [i73,TM73];simp (maxSteps:=400000) only [go_sem,k49,simprocAttr];exact Ends.pureE rfl rfl
theorem w94q (l:List Int) (hl:l.length<=9223372036854775807):FTL Try.prog 94 [.fz (rows int1 l) l.length,.fn 73 []] [] 0 (.i .i64 (ixf (fun x=> !inI 0 65535 x) l 0)) [] 0:=
 ixf_fz1 (el:=fun n=> .i .i64 n) mo Try.func94 i94_eq (by kernel_rfl) (fun _=>rfl) rfl (fun _=>rfl) (fun a b h=>by cases h;rfl) l hl (fun n _=>w73 n)
theorem w72q (l:List Int) (hl:l.length<=9223372036854775807):FTL Try.prog 72 [.fz (rows int1 l) l.length,.fn 73 []] [] 0 (.b (l.any fun x=> !inI 0 65535 x)) [] 0:=
 cof_fz mo Try.func72 i72_eq (by kernel_rfl) (rows_bel int1_bel) rfl (w94q l hl) (ixf_neg _ l 0 (by omega))
def k72q:Ct
 |[.fz L m,.fn 73 []],_,n=>(unrows 1 intV m L).bind fun l=>some (decide (m<=9223372036854775807),{v:= .b (l.any fun x=> !inI 0 65535 x),n})
 |_,_,_=>none
theorem s72q:SoundAt Try.prog 72 k72q:=fun args h n c E hc ht=>by
 unfold k72q at hc;split at hc
 ·simp only [Option.bind_eq_some_iff] at hc;obtain ⟨l,hl,he⟩:=hc;cases he;obtain ⟨rfl,rfl⟩:=unrows_eq intV_eq hl;exact CallOK.pure (by kernel_rfl) (by simp only [belL,AV.bel,csB,Bool.and_self]) rfl (w72q l (of_decide_eq_true ht)) _ _
 ·cases hc
/-! what is answered -/
def ansF (now trip:Int) (x:Kp):Bool:=decide (now-x.ti<=2000)&&(decide (x.ak<0)||decide (now-x.ak>=trip))
structure An where
 l:List Kp
 nx:Int
 o:List Md
def An.put (s:An) (ss ty now:Int) (i:Nat) (x:Kp):An:=⟨s.l.set i ⟨x.p,x.ti,now⟩,(s.nx+1) % 65536,s.o++[agS x.p ss ty s.nx]⟩
def ans1 (ss ty now trip:Int) (s:An) (n:Int):An:=
 if ixf (fun x=>x.p.sq==n) s.l 0<0 then s else match s.l[(ixf (fun x=>x.p.sq==n) s.l 0).toNat]? with
  |none=>s
  |some x=>bif ansF now trip x then s.put ss ty now (ixf (fun x=>x.p.sq==n) s.l 0).toNat x else s
def ansL (ss ty now trip:Int) (s:An) (ns:List Int):An:=ns.foldl (ans1 ss ty now trip) s
def rsA (r:Hs×List Md×Int):AV:= .tup [.agg r.1.a,.fz (rows Md.l r.2.1) r.2.1.length,.i .i64 r.2.2]
theorem mrB (j:Nat) (l:List Md):belL j (rows Md.l l)=true:=belL_mono0 _ (rows_bel Md.bel)
theorem rsA_bel (r:Hs×List Md×Int):(rsA r).bel 0=true:=by simp only [rsA,AV.bel,belL,Hs.bel,mrB,Bool.and_self]
def ansS (h:Hs) (now trip:Int) (ns:List Int):Hs×List Md×Int:=
 if lateH h now=0 then
  bif inI 1 2000 trip then bif decide (ns.length<=64) then bif ns.any (fun x=> !inI 0 65535 x) then (zH,[],2)
   else (⟨now,h.ss,h.ty,(ansL h.ss h.ty now trip ⟨h.l,h.nx,[]⟩ ns).nx,(ansL h.ss h.ty now trip ⟨h.l,h.nx,[]⟩ ns).l⟩,(ansL h.ss h.ty now trip ⟨h.l,h.nx,[]⟩ ns).o,0)
   else (zH,[],3) else (zH,[],2)
 else (zH,[],lateH h now)
theorem covA_n {e:Int} {h:Hp} {n:Nat}:CovS 0 (.tup [.agg [.i .i64 0,.i .i64 0,.i .i64 0,.i .i64 0,.ns],.ns,.i .i64 e]) h n (rsA (zH,[],e)) [] 0:=by
 refine CovS.frzN (l:=[]) (v':=rsA (zH,[],e)) (FzV.tup ⟨FzV.agg ⟨FzV.refl,FzV.refl,FzV.refl,FzV.refl,FzV.hit,trivial⟩,FzV.hit,FzV.refl,trivial⟩) ?_;exact CovS.ends (Ends.pureE rfl rfl)
theorem covA_z {now ss ty nx:Int} {h:Hp} {n:Nat}:CovS 0 (.tup [.agg [.i .i64 now,.i .i64 ss,.i .i64 ty,.i .i64 nx,.ze],.ns,.i .i64 0]) h n (rsA (⟨now,ss,ty,nx,[]⟩,[],0)) [] 0:=by
 refine CovS.frzZ (l:=[]) (v':= .tup [.agg [.i .i64 now,.i .i64 ss,.i .i64 ty,.i .i64 nx,.fz [] 0],.ns,.i .i64 0]) (FzV.tup ⟨FzV.agg ⟨FzV.refl,FzV.refl,FzV.refl,FzV.refl,FzV.hit,trivial⟩,FzV.refl,FzV.refl,trivial⟩) ?_;refine CovS.frzN (l:=[]) (v':=rsA (⟨now,ss,ty,nx,[]⟩,[],0)) (FzV.tup ⟨FzV.refl,FzV.hit,FzV.refl,trivial⟩) ?_;exact CovS.ends (Ends.pureE rfl rfl)
theorem gMcap (q:List Md):(gQ Md.l 9 q).capOK:=by unfold gQ;split<;>trivial
theorem gMp (q:List Md):(gQ Md.l 9 q).plain=true:=(gQ_is (f:=Md.l) Md.bel Md.len q).pl
theorem covA_s {now ss ty nx:Int} {h:Hp} {n:Nat} {l:List Kp} {o:List Md} {m:Nat} (hm:m=l.length) (hk:hget h 3=some {cells:=rows Kp.l l,gr:=some 11}) (ho:hasS h (gQ Md.l 9 o) 4):
 CovS 0 (.tup [.agg [.i .i64 now,.i .i64 ss,.i .i64 ty,.i .i64 nx,.sg 3 0 m],(gQ Md.l 9 o).v 4,.i .i64 0]) h n (rsA (⟨now,ss,ty,nx,l⟩,o,0)) [] 0:=by
 subst hm;refine CovS.frzS (h':=[(3,{cells:=rows Kp.l l,gr:=some 11})]) (v':= .tup [.agg [.i .i64 now,.i .i64 ss,.i .i64 ty,.i .i64 nx,.sg 3 0 l.length],.fz (rows Md.l o) o.length,.i .i64 0]) (gQ_is (f:=Md.l) Md.bel Md.len o) (gQ_fresh o) (gMcap o) ho (FzV.tup ⟨FzV.refl,FzV.hit,FzV.refl,trivial⟩) (fun c kk hc=> ?_) ?_
 ·have:=hget_mem hc;simp only [List.mem_singleton,Prod.mk.injEq] at this;obtain ⟨rfl,rfl⟩:=this;exact ⟨by decide,hk⟩
 refine CovS.frz (b:=3) (k:={cells:=rows Kp.l l,gr:=some 11}) (h':=[]) (o:=0) (m:=l.length) (cs:=rows Kp.l l) (v':=rsA (⟨now,ss,ty,nx,l⟩,o,0)) (by simp [hget]) rfl (.inr rfl) (.inl rfl) (FzV.tup ⟨FzV.agg ⟨FzV.refl,FzV.refl,FzV.refl,FzV.refl,FzV.hit,trivial⟩,FzV.refl,FzV.refl,trivial⟩) (fun c kk hc=>by simp [hget] at hc) ?_
 exact CovS.ends (Ends.pureE (rsA_bel _) rfl)
theorem ans1_m {ss ty now trip:Int} {s:An} {n:Int} (h:ixf (fun x=>x.p.sq==n) s.l 0= -1):ans1 ss ty now trip s n=s:=by
 unfold ans1;rw [h,if_pos (by decide)]
theorem ans1_j {ss ty now trip:Int} {s:An} {n:Int} {j:Nat} {x:Kp} (h:ixf (fun x=>x.p.sq==n) s.l 0=0+(j:Int)) (hx:s.l[j]? =some x):ans1 ss ty now trip s n=bif ansF now trip x then s.put ss ty now j x else s:=by
 unfold ans1;rw [h,if_neg (by omega),show (0+(j:Int)).toNat=j by omega,hx]
theorem ansL_nil (ss ty now trip nx:Int) (o:List Md): ∀ns,ansL ss ty now trip ⟨[],nx,o⟩ ns=⟨[],nx,o⟩
 |[]=>rfl
 |n::r=>by
  have:ans1 ss ty now trip ⟨[],nx,o⟩ n=⟨[],nx,o⟩:=rfl;show ansL ss ty now trip (ans1 ss ty now trip ⟨[],nx,o⟩ n) r=_;rw [this];exact ansL_nil ss ty now trip nx o r
def okA (x:Kp):Bool:=mdB x.p&&(inI 0 1099511627776 x.ti&&(inI (-1) 1099511627776 x.ak&&decide (x.p.pl.length<=1000000000000)))
theorem goodH_a {h:Hs} {now:Int} (e:lateH h now=0) (hf:finH h=true):(∀x∈h.l,okA x=true)/\inI 0 65535 h.nx=true:=by
 obtain ⟨hg,hn⟩:=lateH_0 e;simp only [goodH,headH,namesB,Bool.and_eq_true] at hg;obtain ⟨⟨h1,⟨_,_,h3⟩,_⟩,h4,h5⟩:=hg;have hn:=inI_t hn;have h1:=inI_t h1;simp only [TT] at h1;rw [List.all_eq_true] at h4;simp only [finH,List.all_eq_true] at hf;have key: ∀(l:List Kp) (f ld lq:Int),0<=f->chH h.ti lq f ld l=true-> ∀x∈l,(0<=x.ti/\x.ti<=h.ti)/\(-1<=x.ak/\x.ak<=h.ti):=by
  intro l;induction l with
  |nil=>intro f ld lq hf hc x hx;cases hx
  |cons y r ih=>
   intro f ld lq hf hc x hx;simp only [chH,akB,Bool.and_eq_true,Bool.or_eq_true,beq_iff_eq] at hc;have q1:=inI_t hc.1;rcases List.mem_cons.1 hx with rfl|hx
   ·refine ⟨by omega,?_⟩
    rcases hc.2.1 with h|h
    ·omega
    ·have:=inI_t h;omega
   ·exact ih _ _ _ (by omega) hc.2.2.2 x hx
 refine ⟨fun x hx=> ?_,h3⟩;obtain ⟨q1,q2⟩:=key _ _ _ _ (Int.le_refl _) h5 x hx;have q3:=hf x hx;simp only [Bool.and_eq_true] at q3;have r1:inI 0 1099511627776 x.ti=true:=inI_of (by omega)
 have r2:inI (-1) 1099511627776 x.ak=true:=inI_of (by omega)
 simp only [okA,h4 x hx,r1,r2,q3.2,Bool.and_self]
structure AnOK (l:List Kp) (s:An):Prop where
 len:s.l.length=l.length
 ok: ∀x∈s.l,okA x=true
 nx:0<=s.nx/\s.nx<=65535
theorem AnOK.put {l:List Kp} {s:An} (h:AnOK l s) {i:Nat} {x:Kp} (hx:s.l[i]? =some x) {now:Int} (hn:inI 0 1099511627776 now=true) (ss ty:Int):AnOK l (s.put ss ty now i x):=by
 refine ⟨by simp [An.put,h.len],fun y hy=> ?_,by have:=h.nx;simp only [An.put];omega⟩
 rcases List.mem_or_eq_of_mem_set hy with hy|rfl
 ·exact h.ok y hy
 ·have h1:=h.ok x (List.mem_of_getElem? hx);simp only [okA,Bool.and_eq_true] at h1 ⊢;exact ⟨h1.1,h1.2.1,inI_of (by have:=inI_t hn;omega),h1.2.2.2⟩
theorem AnOK.one {l:List Kp} {s:An} (h:AnOK l s) (ss ty:Int) {now:Int} (trip n:Int) (hn:inI 0 1099511627776 now=true):AnOK l (ans1 ss ty now trip s n):=by
 unfold ans1;split
 ·exact h
 ·split
  ·exact h
  ·rename_i x hx;cases ansF now trip x
   ·exact h
   ·exact h.put hx hn ss ty
theorem ansL_ok {l:List Kp} (ss ty:Int) {now:Int} (trip:Int) (hn:inI 0 1099511627776 now=true): ∀(ns:List Int) {s:An},AnOK l s->AnOK l (ansL ss ty now trip s ns)
 |[],s,h=>h
 |n::r,s,h=>ansL_ok ss ty trip hn r (h.one ss ty trip n hn)
theorem ansL_len (ss ty now trip:Int): ∀(ns:List Int) (s:An),(ansL ss ty now trip s ns).o.length<=s.o.length+ns.length
 |[],s=>by simp [ansL]
 |n::r,s=>by
  have h1:(ans1 ss ty now trip s n).o.length<=s.o.length+1:=by
   unfold ans1;split
   ·omega
   ·split
    ·omega
    ·rename_i x hx;cases ansF now trip x
     ·show s.o.length<=_;omega
     ·show (s.put ss ty now _ x).o.length<=_;simp [An.put]
  have:=ansL_len ss ty now trip r (ans1 ss ty now trip s n);show (ansL ss ty now trip (ans1 ss ty now trip s n) r).o.length<=_;simp only [List.length_cons];omega
theorem ansL_snoc (ss ty now trip:Int) (s:An) {ns:List Int} {k:Nat} {n:Int} (h:ns[k]? =some n):ansL ss ty now trip s (ns.take (k+1))=ans1 ss ty now trip (ansL ss ty now trip s (ns.take k)) n:=by
 rw [List.take_add_one,h];simp [ansL,List.foldl_append]
def TM37:List (Nat×Ct):=[(49,k49),(67,k67),(72,k72q),(74,k74q),(76,k76)]
theorem hTM37:Sound Try.prog (cxT TM37):=Sound.cons s49 (Sound.cons s67 (Sound.cons s72q (Sound.cons s74q (Sound.cons s76 Sound.nil))))
theorem plain_sg {k:Blk} {o l:Nat}:(Sh.sg k o l).plain=(k.mp.isNone&&belL 0 k.cells):=(rfl)
abbrev hM37 (now ss ty:Int) (m:Nat) (s:An):Hp:=(gQ Md.l 9 s.o).h 4++[(2,{cells:=[.i .i64 now,.i .i64 ss,.i .i64 ty,.i .i64 s.nx,.sg 3 0 m]}),(3,{cells:=rows Kp.l s.l,gr:=some 11}),(1,{cells:=[.i .i64 0,.i .i64 0,.i .i64 0,.i .i64 0,.ns]})]
theorem loop37 (ss ty nx now trip:Int) (l:List Kp) (ns:List Int) (hnow:inI 0 1099511627776 now=true) (hl64:l.length<=64) (b2:ns.length<=64) (hok0:AnOK l ⟨l,nx,[]⟩) {K:Kont} {e:Env} {h:Hp} {n:Nat}
 (he:EnvR 5 [] e [(1,.i .i64 now),(2,.i .i64 trip),(8,.p 1 0),(9,(gQ Md.l 9 []).v 4),(11,.p 2 0),(37,.fz (rows int1 ns) ns.length),(38,.i .i64 (ns.length:Int)),(39,.i .i64 0)])
 (hh:HpR 5 [] h (hM37 now ss ty l.length ⟨l,nx,[]⟩))
 (hK: ∀e',eget e' 8=some (.p 1 0)->eget e' 11=some (.p 2 0)->eget e' 9=some ((gQ Md.l 9 (ansL ss ty now trip ⟨l,nx,[]⟩ ns).o).v 4)->K (.exit 0) e' (hM37 now ss ty l.length (ansL ss ty now trip ⟨l,nx,[]⟩ ns)) 5):
 Ab.Loop Try.prog [23,28,32,35,40,51,82] 102 0 i37l20 K e h n:=by
 have hnB: ∀j,belL j (rows int1 ns)=true:=fun j=>csB j ns;have hnR: ∀g,renL g (rows int1 ns)=rows int1 ns:=fun g=>renL_fix0 _ (rows_bel int1_bel);refine Loop.stepR (F:=⟨Try.prog,cxT TM37,[23,28,32,35,40,51,82],102,0⟩) hTM37 mo (X:=Nat) (fun k=>k<=ns.length) (fun k=>ns.length-k)
  (fun k=>[(1,.i .i64 now),(2,.i .i64 trip),(8,.p 1 0),(9,(gQ Md.l 9 (ansL ss ty now trip ⟨l,nx,[]⟩ (ns.take k)).o).v 4),(11,.p 2 0),(37,.fz (rows int1 ns) ns.length),(38,.i .i64 (ns.length:Int)),(39,.i .i64 (k:Int))])
  (fun k=>hM37 now ss ty l.length (ansL ss ty now trip ⟨l,nx,[]⟩ (ns.take k))) 5 0 (fun k=>k+1) []
  (fun k=>if (ansL ss ty now trip ⟨l,nx,[]⟩ (ns.take (k+1))).o.length=(ansL ss ty now trip ⟨l,nx,[]⟩ (ns.take k)).o.length then [] else [(4,9)]) (by decide) (by decide) (fun k=>by split<;>decide) (Nat.zero_le _) he hh (fun k hk=> ?_)
 dsimp only [TM37];by_cases hlt:k<ns.length
 ·have c1:decide ((k:Int)<(ns.length:Int))=true:=decide_eq_true (by omega)
  have c2:decide (0<=(k:Int)/\(k:Int)<(ns.length:Int))=true:=decide_eq_true (by omega)
  have hw:IntKind.i64.wrap ((k:Int)+1)=((k+1:Nat):Int):=by rw [wrapL (by omega) (by omega)];omega
  obtain ⟨q,hq⟩: ∃q,ns[k]? =some q:=⟨_,List.getElem?_eq_getElem hlt⟩;have hr:(rows int1 ns)[k*1]? =some (.i .i64 q):=rows_get (f:=int1) (z:=1) (j:=0) (v:= .i .i64 q) int1_len hq rfl;have hr':(rows int1 ns)[k]? =some (.i .i64 q):=by rw [<-hr,Nat.mul_one]
  rw [ansL_snoc ss ty now trip _ hq];have hol:=ansL_len ss ty now trip (ns.take k) ⟨l,nx,[]⟩;have hko:AnOK l (ansL ss ty now trip ⟨l,nx,[]⟩ (ns.take k)):=ansL_ok ss ty trip hnow _ hok0;generalize ansL ss ty now trip ⟨l,nx,[]⟩ (ns.take k)=s at*;obtain ⟨sl,sn,so⟩:=s;have hkl:=hko.len;have hkn:=hko.nx;dsimp only at hol hkl hkn;have hsk:ns.length-(k+1)<ns.length-k:=by omega
  have hus:=kp_un sl;rw [hkl] at hus;have hlm:decide (l.length<=9223372036854775807)=true:=decide_eq_true (by omega)
  have zR:(rows Kp.l sl).length=l.length*11:=by rw [rows_len Kp.len,hkl]
  have hcs:List.take (l.length*11) (List.drop 0 (rows Kp.l sl))=rows Kp.l sl:=by rw [List.drop_zero,<-zR,List.take_length]
  have pk:=gMp so;have hix:=ixf_some (p:=fun x:Kp=>x.p.sq==q) sl 0 (Int.le_refl _);rcases hix with hI1|⟨j,hj,hI1,_,y,hy,_⟩
  ·rw [ans1_m hI1,if_pos rfl];simp (maxSteps:=400000) only [go_sem,vwK_g,c1,c2,hw,hr,hr',k74q,hus,hlm,hcs,zR,hI1,oneB,int1,hlt,hsk,hnB,hnR,krR,AV.bel,belL,nblt,Blk.ren,renL,AV.ren,krB,pk,simprocAttr];exact hlt
  ·have hf:=ans1_j (s:=⟨sl,sn,so⟩) (ss:=ss) (ty:=ty) (now:=now) (trip:=trip) hI1 hy;rw [Int.zero_add] at hI1;rw [hkl] at hj;have hyo:=hko.ok y (List.mem_of_getElem? hy);simp only [okA,Bool.and_eq_true,decide_eq_true_eq] at hyo;obtain ⟨ym,yt,ya,yl⟩:=hyo;have yt:=inI_t yt;have ya:=inI_t ya;have hnw:=inI_t hnow;have d1:decide ((j:Int)<0)=false:=decide_eq_false (by omega)
   have d2:decide (0<=(j:Int)/\(j:Int)<(l.length:Int))=true:=decide_eq_true (by omega)
   have r9:(rows Kp.l sl)[j*11+9]? =some (.i .i64 y.ti):=rows_get (f:=Kp.l) (z:=11) (j:=9) (v:= .i .i64 y.ti) Kp.len hy rfl;have r10:(rows Kp.l sl)[j*11+10]? =some (.i .i64 y.ak):=rows_get (f:=Kp.l) (z:=11) (j:=10) (v:= .i .i64 y.ak) Kp.len hy rfl;have w1:IntKind.i64.wrap (now-y.ti)=now-y.ti:=wrapL (by omega) (by omega)
   have w2:IntKind.i64.wrap (now-y.ak)=now-y.ak:=wrapL (by omega) (by omega)
   have hF:ansF now trip y=(decide (now-y.ti<=2000)&&(decide (y.ak<0)||decide (now-y.ak>=trip))):=rfl;cases hF1:ansF now trip y
   ·rw [hf,hF1,cond_false,if_pos rfl];rw [hF1] at hF;cases a1:decide (now-y.ti<=2000)
    ·simp (maxSteps:=400000) only [go_sem,vwK_g,c1,c2,hw,hr,hr',k74q,hus,hlm,hcs,zR,hI1,oneB,int1,d1,d2,r9,r10,w1,w2,a1,hlt,hsk,hnB,hnR,krR,AV.bel,belL,nblt,Blk.ren,renL,AV.ren,krB,pk,simprocAttr];exact hlt
    ·rw [a1,Bool.true_and] at hF;cases a2:decide (y.ak<0)
     ·cases a3:decide (now-y.ak>=trip)
      ·simp (maxSteps:=400000) only [go_sem,vwK_g,c1,c2,hw,hr,hr',k74q,hus,hlm,hcs,zR,hI1,oneB,int1,d1,d2,r9,r10,w1,w2,a1,a2,a3,hlt,hsk,hnB,hnR,krR,AV.bel,belL,nblt,Blk.ren,renL,AV.ren,krB,pk,simprocAttr];exact hlt
      ·rw [a2,a3] at hF;cases hF
     ·rw [a2] at hF;cases hF
   ·rw [hf,hF1,cond_true];have hlen:((An.put ⟨sl,sn,so⟩ ss ty now j y).o.length=so.length)=False:=by simp [An.put]
    simp only [hlen,if_false];rw [hF1] at hF;have a0:=hF.symm;rw [Bool.and_eq_true,Bool.or_eq_true] at a0;obtain ⟨a1,a23⟩:=a0;have hsp:List.take (j*11+10) (rows Kp.l sl)++[AV.i .i64 now]++List.drop (j*11+10+1) (rows Kp.l sl)=rows Kp.l (sl.set j ⟨y.p,y.ti,now⟩):=splice_row Kp.len hy (by decide) rfl
    have hsy:(sl.set j ⟨y.p,y.ti,now⟩)[j]? =some ⟨y.p,y.ti,now⟩:=by rw [List.getElem?_set_self (by omega)]
    have rt:List.take 9 (List.drop (j*11) (rows Kp.l (sl.set j ⟨y.p,y.ti,now⟩)))=y.p.l:=by
     have e9:List.take 9 (List.take 11 (List.drop (j*11) (rows Kp.l (sl.set j ⟨y.p,y.ti,now⟩))))=y.p.l:=by
      have:=kp_at hsy;rw [this];rfl
     rwa [List.take_take] at e9
    have d3:decide (j*11+10+1<=l.length*11)=true:=decide_eq_true (by omega)
    have zS:(rows Kp.l (sl.set j ⟨y.p,y.ti,now⟩)).length=l.length*11:=by rw [rows_len Kp.len,List.length_set,hkl]
    have h9y:=md9_l y.p;have hyl:decide (y.p.pl.length<=1000000000000)=true:=decide_eq_true yl;have hsn:inI 0 65535 sn=true:=inI_of hkn;have hpb: ∀j,belL j y.p.l=true:=fun j=>belL_mono0 _ (Md.bel y.p);have hpr: ∀g,renL g y.p.l=y.p.l:=fun g=>renL_fix0 _ (Md.bel y.p);have hab: ∀j,belL j (agS y.p ss ty sn).l=true:=fun j=>belL_mono0 _ (Md.bel _);have har: ∀g,renL g (agS y.p ss ty sn).l=(agS y.p ss ty sn).l:=fun g=>renL_fix0 _ (Md.bel _);have pk':=gMp (so++[agS y.p ss ty sn]);have ht9:List.take 9 (List.drop 0 (agS y.p ss ty sn).l)=(agS y.p ss ty sn).l:=rfl;have ho9:oneAll (agS y.p ss ty sn).l=true:=rfl;dsimp only [An.put,hM37];rw [gQ_snoc] at pk' ⊢;generalize sl.set j ⟨y.p,y.ti,now⟩=S at*;have gm:decide (112*(so.length+1)<=growMax)=true:=decide_eq_true (by simp only [growMax];have:=List.length_take_le k ns;simp at hol;omega)
    have ol:(rows Md.l so).length=so.length*9:=rows_len Md.len;cases a2:decide (y.ak<0)
    ·rw [a2] at a23;have a3:decide (now-y.ak>=trip)=true:=by simpa using a23
     simp (maxSteps:=400000) only [go_sem,vwK_g,c1,c2,hw,hr,hr',k74q,hus,hlm,hcs,zR,hI1,oneB,int1,d1,d2,r9,r10,w1,w2,a1,a2,a3,d3,hsp,rt,zS,plain_sg,Option.isNone_none,shR,k76,h9y,hyl,hsn,ym,hdB,shNe,hpb,hpr,hab,har,ht9,ho9,gm,ol,Md.len,hlt,hsk,hnB,hnR,krR,AV.bel,belL,nblt,Blk.ren,renL,AV.ren,krB,pk,pk',nbeq,simprocAttr];exact hlt
    ·rw [a2] at a23;simp (maxSteps:=400000) only [go_sem,vwK_g,c1,c2,hw,hr,hr',k74q,hus,hlm,hcs,zR,hI1,oneB,int1,d1,d2,r9,r10,w1,w2,a1,a2,d3,hsp,rt,zS,plain_sg,Option.isNone_none,shR,k76,h9y,hyl,hsn,ym,hdB,shNe,hpb,hpr,hab,har,ht9,ho9,gm,ol,Md.len,hlt,hsk,hnB,hnR,krR,AV.bel,belL,nblt,Blk.ren,renL,AV.ren,krB,pk,pk',nbeq,simprocAttr];exact hlt
 ·have c1:decide ((k:Int)<(ns.length:Int))=false:=decide_eq_false (by omega)
  obtain rfl:k=ns.length:=by omega
  rw [List.take_length];generalize ansL ss ty now trip ⟨l,nx,[]⟩ ns=s at*;have pk:=gMp s.o;simp only [hM37];simp (maxSteps:=400000) only [go_sem,c1,pk,simprocAttr];exact hK _ rfl rfl rfl
theorem w37 (hs:Hs) (now trip:Int) (ns:List Int) (hl:hs.l.length<=9223372036854775807) (hf:finH hs=true) (hnl:ns.length<=9223372036854775807):FTL Try.prog 37 [.agg hs.a,.i .i64 now,.i .i64 trip,.fz (rows int1 ns) ns.length] [] 0 (rsA (ansS hs now trip ns)) [] 0:=by
 have hha:=hsA_a hs;have hll:decide (hs.l.length<=9223372036854775807)=true:=decide_eq_true hl;have hnn:decide (ns.length<=9223372036854775807)=true:=decide_eq_true hnl;have hgk:=goodH_k (h:=hs) (now:=now);have hg64:lateH hs now=0->hs.l.length<=64:=fun h=>goodH_len (lateH_0 h).1;generalize hRR:ansS hs now trip ns=R;unfold ansS at hRR;have hk67: ∀(h:Hp) n,k67 [.agg hs.a,.i .i64 now] h n=if lateH hs now=0 then (match hs.l with
  |[]=>some (true,{v:= .tup [.p n 0,.i .i64 0],n:=n+1,nw:=[(n,{cells:=stC0 hs now .ze})]})
  |x::r=>some (true,{v:= .tup [.p n 0,.i .i64 0],n:=n+2,nw:=[(n,{cells:=stC0 hs now (.sg (n+1) 0 hs.l.length)}),(n+1,{cells:=rows Kp.l hs.l,gr:=some 11})]}))
  else some (true,{v:= .tup [.np,.i .i64 (lateH hs now)],n}):=fun h n=>by
  simp only [k67,hha,Option.bind_some,hf,hll,Bool.and_self]<;>rfl
 have hk72: ∀(h:Hp) n,k72q [.fz (rows int1 ns) ns.length,.fn 73 []] h n=some (true,{v:= .b (ns.any fun x=> !inI 0 65535 x),n}):=fun h n=>by simp only [k72q,in_un,Option.bind_some,hnn]
 have n1:decide ((ns.length:Int)>64)= !decide (ns.length<=64):=by rw [Bool.eq_iff_iff];simp;omega
 have hnB: ∀j,belL j (rows int1 ns)=true:=fun j=>csB j ns;have hnR: ∀g,renL g (rows int1 ns)=rows int1 ns:=fun g=>renL_fix0 _ (rows_bel int1_bel);have hga:=fun e=>goodH_a (h:=hs) (now:=now) e hf;generalize lateH hs now=E at*;obtain ⟨ti,ss,ty,nx,l⟩:=hs;dsimp only at hRR hl hg64 hgk hk67 hga;simp only [Hs.a,stC0] at hk67 ⊢;refine FTL.of_cov (cx:=cxT TM37) hTM37 mo Try.func37 i37_eq (by simp [i37]) (iw_of_jw ?_)
 dsimp only [i37,TM37];by_cases hE:E=0
 rotate_left
 ·have e1:(E !=0)=true:=by simp [bne,hE]
  rw [if_neg hE] at hRR;simp only [if_neg hE] at hk67;simp (maxSteps:=400000) only [go_sem,hk67,e1,simprocAttr];rw [<-hRR];exact covA_n
 subst hE;simp only [if_true] at hk67 hRR;obtain ⟨hok,hnow,hlq⟩:=hgk rfl;have hl64:=hg64 rfl;cases l with
 |nil=>
  simp only [List.length_nil] at hk67 hRR;cases b1:inI 1 2000 trip
  ·rw [b1] at hRR;simp (maxSteps:=400000) only [go_sem,hk67,k49,b1,simprocAttr];rw [<-hRR];exact covA_n
  rw [b1] at hRR;simp only [cond_true] at hRR;cases b2:decide (ns.length<=64)
  ·rw [b2] at hRR;simp (maxSteps:=400000) only [go_sem,hk67,k49,b1,n1,b2,simprocAttr];rw [<-hRR];exact covA_n
  rw [b2] at hRR;simp only [cond_true] at hRR;generalize (ns.any fun x=> !inI 0 65535 x)=b3 at*;cases b3;rotate_left
  ·simp (maxSteps:=400000) only [go_sem,hk67,k49,b1,n1,b2,hk72,simprocAttr];rw [<-hRR];exact covA_n
  simp only [cond_false] at hRR;simp (maxSteps:=400000) only [go_sem,hk67,k49,b1,n1,b2,hk72,simprocAttr];rw [ansL_nil] at hRR;refine Loop.countI (F:=⟨Try.prog,cxT TM37,[23,28,32,35,40,51,82],102,0⟩) hTM37 mo ns.length (fun k=>True)
   (fun k=>[(1,.i .i64 now),(2,.i .i64 trip),(8,.p 1 0),(9,.ns),(11,.p 2 0),(37,.fz (rows int1 ns) ns.length),(38,.i .i64 (ns.length:Int)),(39,.i .i64 (k:Int))])
   (fun k=>[(2,{cells:=[.i .i64 now,.i .i64 ss,.i .i64 ty,.i .i64 nx,.ze]}),(1,{cells:=[.i .i64 0,.i .i64 0,.i .i64 0,.i .i64 0,.ns]})]) 3 (by decide) trivial ?_ ?_ (fun k hk hinv=> ?_)
  ·simp (maxSteps:=400000) only [go_sem,hnB,AV.bel,belL,nblt,simprocAttr]
  ·simp (maxSteps:=400000) only [go_sem,hnB,AV.bel,belL,nblt,simprocAttr]
  dsimp only [TM37];have b2:=of_decide_eq_true b2;by_cases hlt:k<ns.length
  ·have c1:decide ((k:Int)<(ns.length:Int))=true:=decide_eq_true (by omega)
   have c2:decide (0<=(k:Int)/\(k:Int)<(ns.length:Int))=true:=decide_eq_true (by omega)
   have hw:IntKind.i64.wrap ((k:Int)+1)=((k+1:Nat):Int):=by rw [wrapL (by omega) (by omega)];omega
   obtain ⟨q,hq⟩: ∃q,ns[k]? =some q:=⟨_,List.getElem?_eq_getElem hlt⟩;have hr:(rows int1 ns)[k*1]? =some (.i .i64 q):=rows_get (f:=int1) (z:=1) (j:=0) (v:= .i .i64 q) int1_len hq rfl;have hr':(rows int1 ns)[k]? =some (.i .i64 q):=by rw [<-hr,Nat.mul_one]
   have hvw: ∀(h:Hp) {β:Type} (f:List Nat->Nat->List AV->Bool->Option β),vwK h 11 .ze f=f [] 0 [] true:=fun h β f=>rfl;have hun:unrows 11 kp11 0 ([]:List AV)=some []:=rfl;simp (maxSteps:=400000) only [go_sem,c1,c2,hw,hr,hr',k74q,hvw,hun,oneB,int1,ixf,hlt,hnB,AV.bel,belL,nblt,simprocAttr]
  ·have c1:decide ((k:Int)<(ns.length:Int))=false:=decide_eq_false (by omega)
   simp (maxSteps:=400000) only [go_sem,c1,simprocAttr];rw [<-hRR];exact covA_z
 |cons x r=>
  have hu:=kp_un (x::r);simp only at hk67;have hpos:0<(x::r).length:=by simp
  generalize x::r=l at*;cases b1:inI 1 2000 trip
  ·rw [b1] at hRR;simp (maxSteps:=400000) only [go_sem,hk67,k49,b1,simprocAttr];rw [<-hRR];exact covA_n
  rw [b1] at hRR;simp only [cond_true] at hRR;cases b2:decide (ns.length<=64)
  ·rw [b2] at hRR;simp (maxSteps:=400000) only [go_sem,hk67,k49,b1,n1,b2,simprocAttr];rw [<-hRR];exact covA_n
  rw [b2] at hRR;simp only [cond_true] at hRR;generalize (ns.any fun x=> !inI 0 65535 x)=b3 at*;cases b3;rotate_left
  ·simp (maxSteps:=400000) only [go_sem,hk67,k49,b1,n1,b2,hk72,simprocAttr];rw [<-hRR];exact covA_n
  simp only [cond_false] at hRR;simp (maxSteps:=400000) only [go_sem,hk67,k49,b1,n1,b2,hk72,simprocAttr];have hok0:AnOK l ⟨l,nx,[]⟩:=by
   obtain ⟨g1,g2⟩:=hga rfl;exact ⟨rfl,g1,inI_t g2⟩
  have b2:=of_decide_eq_true b2;refine loop37 ss ty nx now trip l ns hnow hl64 b2 hok0 ?_ ?_ (fun e' g8 g11 g9=> ?_)
  ·simp (maxSteps:=400000) only [go_sem,gQ_nil,fv_n,hnB,hnR,AV.bel,belL,nblt,AV.ren,renL,simprocAttr]
  ·simp (maxSteps:=400000) only [go_sem,hM37,gQ_nil,fh_n,hnB,AV.bel,belL,nblt,Blk.ren,AV.ren,renL,krB,krR,simprocAttr]
  have hkl:=(ansL_ok ss ty trip hnow ns hok0).len;generalize ansL ss ty now trip ⟨l,nx,[]⟩ ns=s at*;obtain ⟨sl,sn,so⟩:=s;dsimp only [hM37] at hRR hkl g9 ⊢;simp (maxSteps:=400000) only [go_sem,g8,g11,g9,simprocAttr];rw [<-hRR];exact covA_s hkl.symm (by simp [hget_skip,hget_cons]) (by rw [hasS_hit];trivial)
end Go.Proofs.Res
namespace Go.Proofs.Res
open Go.Ab
/-! what a valid history is -/
def Dist (l:List Kp):Prop:= ∀(i j:Nat) (x y:Kp),l[i]? =some x->l[j]? =some y->x.p.sq=y.p.sq->i=j
theorem goodH_d {h:Hs} (hg:goodH h=true):Dist h.l:=by
 simp only [goodH,Bool.and_eq_true] at hg;obtain ⟨_,_,h5⟩:=hg;have key: ∀(l:List Kp) (f ld lq:Int),chH h.ti lq f ld l=true->(∀x∈l,ld<lead x.p.sq lq)/\Dist l:=by
  intro l;induction l with
  |nil=>intro f ld lq hc;exact ⟨fun x hx=>by (cases hx),fun i j x y hx=>by simp at hx⟩
  |cons y r ih=>
   intro f ld lq hc;simp only [chH,Bool.and_eq_true] at hc;have h1:=inI_t hc.2.2.1;obtain ⟨g1,g2⟩:=ih _ _ _ hc.2.2.2;refine ⟨fun x hx=> ?_,fun i j a b ha hb hab=> ?_⟩
   ·rcases List.mem_cons.1 hx with rfl|hx
    ·omega
    ·have:=g1 x hx;omega
   ·cases i with
    |zero=>
     cases j with
     |zero=>rfl
     |succ j=>
      simp at ha hb;subst ha;have:=g1 b (List.mem_of_getElem? hb);rw [hab] at this;omega
    |succ i=>
     cases j with
     |zero=>
      simp at ha hb;subst hb;have:=g1 a (List.mem_of_getElem? ha);rw [hab] at this;omega
     |succ j=>
      simp at ha hb;rw [g2 i j a b ha hb hab]
 exact (key _ _ _ _ h5).2
def pkS (q:Int):Md:=⟨q % 2==0,96,q,90*q,1,[],[],0,[UInt8.ofNat (97+q % 26).toNat]⟩
def ChE (hat lq f ld:Int) (x:Kp):Prop:=f<=x.ti/\x.ti<=hat/\akB hat x=true/\ld<lead x.p.sq lq/\lead x.p.sq lq<=0
def ChR (lq:Int) (x y:Kp):Prop:=x.ti<=y.ti/\lead x.p.sq lq<lead y.p.sq lq
theorem chH_iff (hat lq:Int): ∀(l:List Kp) (f ld:Int),chH hat lq f ld l=true↔(∀x∈l,ChE hat lq f ld x)/\l.Pairwise (ChR lq)
 |[],f,ld=>by simp [chH]
 |x::r,f,ld=>by
  simp only [chH,Bool.and_eq_true,List.pairwise_cons,chH_iff hat lq r,List.mem_cons];constructor
  ·rintro ⟨h1,h2,h3,h4,h5⟩;have h1:=inI_t h1;have h3:=inI_t h3;refine ⟨fun y hy=> ?_,fun y hy=> ?_,h5⟩
   ·rcases hy with rfl|hy
    ·exact ⟨h1.1,h1.2,h2,by omega,h3.2⟩
    ·obtain ⟨a,b,c,d,e⟩:=h4 y hy;exact ⟨by omega,b,c,by omega,e⟩
   ·obtain ⟨a,b,c,d,e⟩:=h4 y hy;exact ⟨a,d⟩
  ·rintro ⟨h1,h2,h5⟩;obtain ⟨a,b,c,d,e⟩:=h1 x (.inl rfl);refine ⟨inI_of ⟨a,b⟩,c,inI_of ⟨by omega,e⟩,fun y hy=> ?_,h5⟩
   obtain ⟨a',b',c',d',e'⟩:=h1 y (.inr hy);obtain ⟨p,q⟩:=h2 y hy;exact ⟨p,b',c',q,e'⟩
theorem lastQ_snoc (l:List Kp) (x:Kp):lastQ (l++[x])=x.p.sq:=by simp [lastQ]
theorem akB_mono {a b:Int} {x:Kp} (h:akB a x=true) (hab:a<=b):akB b x=true:=by
 simp only [akB,Bool.or_eq_true] at*;rcases h with h|h
 ·exact .inl h
 ·have:=inI_t h;exact .inr (inI_of (by omega))
theorem lead_self (a:Int):lead a a=0:=by simp [lead]
theorem lead_tr {x q lq:Int} (h1: -16384<=lead x lq) (h2:lead x lq<=0) (h3:0<lead q lq) (h4: -16384<=lead x lq-lead q lq):lead x q=lead x lq-lead q lq:=by
 unfold lead at*;repeat' split at*
 all_goals omega
theorem keep_ok {h:Hs} {now:Int} {p:Md} (hg:goodH h=true) (hn:h.ti<=now) (hn2:now<=TT) (hp:mdB p=true):
 keepS h now p=(zH,10)\/ ∃l',keepS h now p=(⟨now,h.ss,h.ty,h.nx,l'++[⟨p,now,-1⟩]⟩,0)/\l'.Sublist h.l/\goodH ⟨now,h.ss,h.ty,h.nx,l'++[⟨p,now,-1⟩]⟩=true/\ ∀x∈l',x.p.sq≠p.sq:=by
 have hl:lateH h now=0:=by
  unfold lateH;rw [hg,show inI h.ti 1099511627776 now=true from inI_of ⟨hn,hn2⟩];rfl
 unfold keepS;rw [if_pos hl,hp,cond_true];cases hc:decide (0<h.l.length)&&decide (lead p.sq (lastQ h.l)<=0)
 ·right;refine ⟨cut64 (keepK now (lastQ h.l) (stepK h p) h.l),rfl,?_,?_⟩
  ·unfold cut64 keepK;cases (List.filter _ h.l).length==64
   ·exact List.filter_sublist
   ·exact (List.drop_sublist _ _).trans List.filter_sublist
  ·have hsub:(cut64 (keepK now (lastQ h.l) (stepK h p) h.l)).Sublist (keepK now (lastQ h.l) (stepK h p) h.l):=by
    unfold cut64;cases (keepK now (lastQ h.l) (stepK h p) h.l).length==64
    ·exact List.Sublist.refl _
    ·exact List.drop_sublist _ _
   have hsub2:(keepK now (lastQ h.l) (stepK h p) h.l).Sublist h.l:=List.filter_sublist;simp only [goodH,headH,Bool.and_eq_true] at hg;obtain ⟨⟨g1,g2,g3⟩,g4,g5⟩:=hg;have g1:=inI_t g1;have g3:=of_decide_eq_true g3;rw [chH_iff] at g5;obtain ⟨c1,c2⟩:=g5;rw [List.all_eq_true] at g4;have hlen:(cut64 (keepK now (lastQ h.l) (stepK h p) h.l)).length<=63:=by
    have:=hsub2.length_le;unfold cut64;cases hb:(keepK now (lastQ h.l) (stepK h p) h.l).length==64
    ·have hb:=ne_of_beq_false hb;show (keepK now (lastQ h.l) (stepK h p) h.l).length<=63;omega
    ·simp only [cond_true,List.length_drop];omega
   have hmem: ∀x∈cut64 (keepK now (lastQ h.l) (stepK h p) h.l),x∈h.l/\lead x.p.sq p.sq=lead x.p.sq (lastQ h.l)-stepK h p/\ -16384<=lead x.p.sq p.sq/\lead x.p.sq p.sq<0:=by
    intro x hx;have hx1:=hsub.mem hx;simp only [keepK,List.mem_filter,goneK,Bool.not_eq_true',Bool.or_eq_false_iff,decide_eq_false_iff_not] at hx1;obtain ⟨hm,_,hge⟩:=hx1;have hpos:0<h.l.length:=List.length_pos_of_mem hm;rw [decide_eq_true hpos,Bool.true_and] at hc;have hc:=of_decide_eq_false hc;have hs:stepK h p=lead p.sq (lastQ h.l):=by unfold stepK;rw [decide_eq_true hpos];rfl
    rw [hs] at hge;obtain ⟨_,_,_,d,e⟩:=c1 x hm;have:=lead_tr (x:=x.p.sq) (q:=p.sq) (lq:=lastQ h.l) (by omega) e (by omega) (by omega)
    rw [hs];exact ⟨hm,this,by omega,by omega⟩
   generalize cut64 (keepK now (lastQ h.l) (stepK h p) h.l)=l' at*;refine ⟨?_,fun x hx e=> ?_⟩
   ·simp only [goodH,headH,Bool.and_eq_true,lastQ_snoc];refine ⟨⟨inI_of (by omega),g2,decide_eq_true (by simp;omega)⟩,List.all_eq_true.2 (fun x hx=> ?_),(chH_iff _ _ _ _ _).2 ⟨fun x hx=> ?_,?_⟩⟩
    ·rcases List.mem_append.1 hx with hx|hx
     ·exact g4 x (hmem x hx).1
     ·rw [List.mem_singleton.1 hx];exact hp
    ·rcases List.mem_append.1 hx with hx|hx
     ·obtain ⟨m1,m2,m3,m4⟩:=hmem x hx;obtain ⟨a,b,c,d,e⟩:=c1 x m1;exact ⟨a,by omega,akB_mono c hn,by omega,by omega⟩
     ·rw [List.mem_singleton.1 hx];exact ⟨by show 0<=now;omega,Int.le_refl _,rfl,by rw [lead_self];decide,by rw [lead_self];decide⟩
    ·rw [List.pairwise_append];refine ⟨?_,List.pairwise_singleton _ _,fun x hx y hy=> ?_⟩
     ·refine ((c2.sublist (hsub.trans hsub2)).imp_of_mem) (fun {a b} ha hb hab=> ?_);obtain ⟨_,a2,_,_⟩:=hmem a ha;obtain ⟨_,b2,_,_⟩:=hmem b hb;exact ⟨hab.1,by rw [a2,b2];have:=hab.2;omega⟩
     ·obtain ⟨m1,m2,m3,m4⟩:=hmem x hx;obtain ⟨a,b,c,d,e⟩:=c1 x m1;rw [List.mem_singleton.1 hy];exact ⟨by show x.ti<=now;omega,by rw [lead_self];exact m4⟩
   ·have:=(hmem x hx).2.2.2;rw [e,lead_self] at this;omega
 ·exact .inl rfl
/-! what is answered -/
def updA (now:Int) (A:List Int) (x:Kp):Kp:=if x.p.sq∈A then ⟨x.p,x.ti,now⟩ else x
theorem updA_p (now:Int) (A:List Int) (x:Kp):(updA now A x).p=x.p:=by unfold updA;split<;>rfl
theorem updA_ti (now:Int) (A:List Int) (x:Kp):(updA now A x).ti=x.ti:=by unfold updA;split<;>rfl
abbrev sqs (Y:List Kp):List Int:=Y.map fun y=>y.p.sq
structure AI (l:List Kp) (ss ty nx0 now trip:Int) (want:List Int) (s:An) (Y:List Kp):Prop where
 ln:s.o.length=Y.length
 o: ∀(k:Nat) (y:Kp),Y[k]? =some y->s.o[k]? =some (agS y.p ss ty ((nx0+(k:Int)) % 65536))
 nx:s.nx=(nx0+(Y.length:Int)) % 65536
 yin: ∀y∈Y,y∈l/\y.p.sq∈want/\ansF now trip y=true
 nd:(sqs Y).Nodup
 it:s.l=l.map (updA now (sqs Y))
theorem AI.one {l:List Kp} {ss ty nx0 now trip:Int} {want:List Int} {s:An} {Y:List Kp} (h:AI l ss ty nx0 now trip want s Y) (hd:Dist l) (ht:1<=trip) (hn:0<=now) {n:Int} (hw:n∈want):
 ∃Y',AI l ss ty nx0 now trip want (ans1 ss ty now trip s n) Y':=by
 rcases ixf_some (p:=fun x:Kp=>x.p.sq==n) s.l 0 (Int.le_refl _) with hi|⟨j,hj,hi,_,x',hx',hxn⟩
 ·rw [ans1_m hi];exact ⟨Y,h⟩
 ·rw [ans1_j hi hx'];have hx0:=hx';rw [h.it,List.getElem?_map] at hx0;obtain ⟨x,hx,hux⟩:=Option.map_eq_some_iff.1 hx0;have hxn:x'.p.sq=n:=by simpa using hxn
  have hxq:x.p.sq=n:=by rw [<-hxn,<-hux,updA_p]
  by_cases hA:n∈sqs Y
  ·have hak:ansF now trip x'=false:=by
    rw [<-hux];unfold updA;rw [if_pos (by rw [hxq];exact hA)]
    simp only [ansF];rw [decide_eq_false (p:=now<0) (by omega),decide_eq_false (p:=now-now>=trip) (by omega)]
    simp
   rw [hak];exact ⟨Y,h⟩
  ·have hxx:x'=x:=by rw [<-hux];unfold updA;rw [if_neg (by rw [hxq];exact hA)]
   subst hxx;cases hf:ansF now trip x'
   ·exact ⟨Y,h⟩
   ·refine ⟨Y++[x'],?_,fun k y hy=> ?_,?_,fun y hy=> ?_,?_,?_⟩
    ·show (s.o++[_]).length=_;simp [h.ln]
    ·show (s.o++[agS x'.p ss ty s.nx])[k]? =_;rcases Nat.lt_or_ge k Y.length with hk|hk
     ·rw [List.getElem?_append_left hk] at hy;rw [List.getElem?_append_left (by rw [h.ln];exact hk)]
      exact h.o k y hy
     ·rw [List.getElem?_append_right hk] at hy;rw [List.getElem?_append_right (by rw [h.ln];exact hk),h.ln]
      have hk0:k-Y.length=0:=by
       have:=(List.getElem?_eq_some_iff.1 hy).1;simpa using this
      rw [hk0] at hy ⊢;simp at hy;subst hy;rw [h.nx,show k=Y.length by omega];rfl
    ·show (s.nx+1) % 65536=_;rw [h.nx,List.length_append];simp only [List.length_singleton];omega
    ·rcases List.mem_append.1 hy with hy|hy
     ·exact h.yin y hy
     ·rw [List.mem_singleton.1 hy];exact ⟨List.mem_of_getElem? hx,by rw [hxq];exact hw,hf⟩
    ·rw [sqs,List.map_append,List.nodup_append];refine ⟨h.nd,by simp,fun a ha b hb=> ?_⟩
     simp at hb;subst hb;intro e;rw [hxq] at e;exact hA (e▸ha)
    ·show s.l.set j ⟨x'.p,x'.ti,now⟩=_;rw [h.it];refine List.ext_getElem? fun i=> ?_;rw [List.getElem?_set,List.getElem?_map,List.getElem?_map,List.length_map];by_cases hij:j=i
     ·subst hij;rw [if_pos rfl,if_pos (List.getElem?_eq_some_iff.1 hx).1,hx];simp [updA,sqs]
     ·rw [if_neg hij];cases hz:l[i]? with
      |none=>rfl
      |some z=>
       have hzn:z.p.sq≠x'.p.sq:=fun e=>hij (hd j i x' z hx hz e.symm);simp only [Option.map_some,Option.some.injEq];unfold updA;have:(z.p.sq∈sqs (Y++[x']))=(z.p.sq∈sqs Y):=by simp [sqs,hzn]
       simp only [this]
theorem AI.all {l:List Kp} {ss ty nx0 now trip:Int} {want:List Int} (hd:Dist l) (ht:1<=trip) (hn:0<=now): ∀(ns:List Int) {s:An} {Y:List Kp},AI l ss ty nx0 now trip want s Y->(∀n∈ns,n∈want)-> ∃Y',AI l ss ty nx0 now trip want (ansL ss ty now trip s ns) Y'
 |[],s,Y,h,_=>⟨Y,h⟩
 |n::r,s,Y,h,hw=>by
  obtain ⟨Y',h'⟩:=h.one hd ht hn (hw n (List.mem_cons_self ..));exact AI.all hd ht hn r h' (fun m hm=>hw m (List.mem_cons_of_mem _ hm))
theorem AI.start (l:List Kp) (ss ty nx0 now trip:Int) (want:List Int) (hx:0<=nx0/\nx0<=65535):AI l ss ty nx0 now trip want ⟨l,nx0,[]⟩ []:=
 ⟨rfl,fun k y hy=>by simp at hy,by simp;omega,fun y hy=>(by cases hy),List.nodup_nil,by
   show l=_;have:updA now (sqs [])=id:=by funext x;simp [updA,sqs]
   rw [this,List.map_id]⟩
theorem upd_last (now:Int) (A:List Int) (l:List Kp):lastQ (l.map (updA now A))=lastQ l:=by
 simp only [lastQ,List.getElem?_map,List.length_map];cases l[l.length-1]? <;>simp [updA_p]
theorem upd_good {h:Hs} {now nx:Int} {A:List Int} (hg:goodH h=true) (hn:h.ti<=now) (hn2:now<=TT) (hx:0<=nx/\nx<=65535):goodH ⟨now,h.ss,h.ty,nx,h.l.map (updA now A)⟩=true:=by
 simp only [goodH,headH,Bool.and_eq_true,upd_last] at hg ⊢;obtain ⟨⟨g1,g2,g3⟩,g4,g5⟩:=hg;have g1:=inI_t g1;rw [chH_iff] at g5 ⊢;obtain ⟨c1,c2⟩:=g5;rw [List.all_eq_true] at g4 ⊢;refine ⟨⟨inI_of (by omega),?_,by rw [List.length_map];exact g3⟩,fun x hx=> ?_,fun x hx=> ?_,?_⟩
 ·simp only [namesB,Bool.and_eq_true] at g2 ⊢;exact ⟨g2.1,g2.2.1,inI_of hx⟩
 ·obtain ⟨y,hy,rfl⟩:=List.mem_map.1 hx;rw [updA_p];exact g4 y hy
 ·obtain ⟨y,hy,rfl⟩:=List.mem_map.1 hx;obtain ⟨a,b,c,d,e⟩:=c1 y hy;refine ⟨by rw [updA_ti];exact a,by rw [updA_ti];omega,?_,by rw [updA_p];exact d,by rw [updA_p];exact e⟩
  unfold updA;split
  ·simp only [akB,Bool.or_eq_true];exact .inr (inI_of (by omega))
  ·exact akB_mono c hn
 ·rw [List.pairwise_map];refine c2.imp (fun {a b} hab=> ?_);exact ⟨by rw [updA_ti,updA_ti];exact hab.1,by rw [updA_p,updA_p];exact hab.2⟩
/-! what was sent -/
def mfind (x:Int):List (Int×Int)->Option Int
 |[]=>none
 |(a,b)::r=>bif x==a then some b else mfind x r
def mput (x v:Int):List (Int×Int)->List (Int×Int)
 |[]=>[(x,v)]
 |(a,b)::r=>bif x==a then (a,v)::r else (a,b)::mput x v r
def mdel (x:Int):List (Int×Int)->List (Int×Int)
 |[]=>[]
 |(a,b)::r=>bif x==a then r else (a,b)::mdel x r
abbrev mK (m:List (Int×Int)):List Int:=m.map Prod.fst
abbrev mV (m:List (Int×Int)):List Int:=m.map Prod.snd
theorem mfind_put (x v y:Int): ∀m,mfind y (mput x v m)=if y=x then some v else mfind y m
 |[]=>by
  simp only [mput,mfind];by_cases h:y=x
  ·subst h;simp
  ·have h2:(y==x)=false:=by simpa using h
   rw [h2,if_neg h];rfl
 |(a,b)::r=>by
  simp only [mput];cases h:x==a
  ·simp only [cond_false,mfind];have h:=ne_of_beq_false h;by_cases hy:y=x
   ·subst hy;have:(y==a)=false:=by simpa using h
    rw [this,cond_false,mfind_put,if_pos rfl,if_pos rfl]
   ·rw [mfind_put,if_neg hy,if_neg hy]
  ·have h:x=a:=by simpa using h
   subst h;simp only [cond_true,mfind];by_cases hy:y=x
   ·subst hy;simp
   ·have:(y==x)=false:=by simpa using hy
    rw [this,if_neg hy];rfl
theorem mfind_none {x:Int}: ∀{m:List (Int×Int)},x ∉ mK m->mfind x m=none
 |[],_=>rfl
 |(a,b)::r,h=>by
  simp only [mK,List.map_cons,List.mem_cons,not_or] at h;have:(x==a)=false:=by simpa using h.1
  simp only [mfind,this,cond_false];exact mfind_none h.2
theorem mfind_del {x y:Int}: ∀{m:List (Int×Int)},(mK m).Nodup->mfind y (mdel x m)=if y=x then none else mfind y m
 |[],_=>by simp [mdel,mfind]
 |(a,b)::r,h=>by
  simp only [mK,List.map_cons,List.nodup_cons] at h;simp only [mdel];cases hx:x==a
  ·simp only [cond_false,mfind];rw [mfind_del h.2];have hx:=ne_of_beq_false hx;by_cases hy:y=x
   ·subst hy;have:(y==a)=false:=by simpa using hx
    rw [this,if_pos rfl,if_pos rfl];rfl
   ·rw [if_neg hy,if_neg hy]
  ·have hx:x=a:=by simpa using hx
   subst hx;simp only [cond_true,mfind];by_cases hy:y=x
   ·subst hy;rw [if_pos rfl,mfind_none h.1]
   ·have:(y==x)=false:=by simpa using hy
    rw [this,if_neg hy];rfl
theorem mput_nd {x v:Int}: ∀{m:List (Int×Int)},(mK m).Nodup->(mK (mput x v m)).Nodup/\ ∀y∈mK (mput x v m),y=x\/y∈mK m
 |[],_=>by simp [mput,mK]
 |(a,b)::r,h=>by
  simp only [mK,List.map_cons,List.nodup_cons] at h;obtain ⟨i1,i2⟩:=mput_nd (x:=x) (v:=v) h.2;simp only [mput];cases hx:x==a
  ·have hx:=ne_of_beq_false hx;simp only [cond_false,mK,List.map_cons,List.nodup_cons,List.mem_cons];refine ⟨⟨fun hm=> ?_,i1⟩,fun y hy=> ?_⟩
   ·rcases i2 a hm with e|e
    ·exact hx e.symm
    ·exact h.1 e
   ·rcases hy with rfl|hy
    ·exact .inr (.inl rfl)
    ·rcases i2 y hy with e|e
     ·exact .inl e
     ·exact .inr (.inr e)
  ·simp only [cond_true,mK,List.map_cons,List.nodup_cons,List.mem_cons];exact ⟨h,fun y hy=> .inr hy⟩
theorem mdel_sub {x:Int}: ∀{m:List (Int×Int)},(mK (mdel x m)).Sublist (mK m)
 |[]=>List.Sublist.refl _
 |(a,b)::r=>by
  simp only [mdel];cases x==a
  ·exact (mdel_sub (m:=r)).cons_cons a
  ·exact List.sublist_cons_self _ _
theorem mix_s {x:Int} {i:Nat} (v:Int): ∀{m:List (Int×Int)},(mK m).findIdx? (x== ·)=some i->mfind x m=(mV m)[i]? /\i<m.length/\mK (mput x v m)=mK m/\mV (mput x v m)=(mV m).set i v/\mK (mdel x m)=(mK m).eraseIdx i/\mV (mdel x m)=(mV m).eraseIdx i
 |[],h=>by simp at h
 |(a,b)::r,h=>by
  simp only [mK,List.map_cons,List.findIdx?_cons] at h;cases hx:x==a
  ·rw [hx] at h;simp only [Bool.false_eq_true,if_false,Option.map_eq_some_iff] at h;obtain ⟨j,hj,rfl⟩:=h;obtain ⟨h1,h2,h3,h4,h5,h6⟩:=mix_s v hj;simp only [mfind,mput,mdel,hx,cond_false,mV,mK,List.map_cons,List.getElem?_cons_succ,List.length_cons,List.set_cons_succ,List.eraseIdx_cons_succ,List.cons.injEq,true_and];exact ⟨h1,by omega,h3,h4,h5,h6⟩
  ·rw [hx] at h;simp only [if_true,Option.some.injEq] at h;subst h;simp [mfind,mput,mdel,hx]
theorem mix_n {x:Int} (v:Int): ∀{m:List (Int×Int)},(mK m).findIdx? (x== ·)=none->mfind x m=none/\mK (mput x v m)=mK m++[x]/\mV (mput x v m)=mV m++[v]/\mdel x m=m
 |[],h=>⟨rfl,rfl,rfl,rfl⟩
 |(a,b)::r,h=>by
  simp only [mK,List.map_cons,List.findIdx?_cons] at h;cases hx:x==a
  ·rw [hx] at h;simp only [Bool.false_eq_true,if_false,Option.map_eq_none_iff] at h;obtain ⟨h1,h2,h3,h4⟩:=mix_n v h;simp only [mfind,mput,mdel,hx,cond_false,mV,mK,List.map_cons,List.cons_append,List.cons.injEq,true_and];exact ⟨h1,h2,h3,h4⟩
  ·rw [hx] at h;simp at h
/-! the law's rounds -/
structure S7 where
 h:Hs
 c:Int
 m:List (Int×Int)
def oqS (x:Md):Int:=(orgS x 1 96).1.sq
def mAt (m:List (Int×Int)) (now:Int) (o:List Md) (k:Nat):List (Int×Int):=(o.take k).foldl (fun m x=>mput (oqS x) now m) m
theorem mAt_0 (m:List (Int×Int)) (now:Int) (o:List Md):mAt m now o 0=m:=(rfl)
theorem mAt_s {m:List (Int×Int)} {now:Int} {o:List Md} {k:Nat} {x:Md} (h:o[k]? =some x):mAt m now o (k+1)=mput (oqS x) now (mAt m now o k):=by
 unfold mAt;rw [List.take_add_one,h,Option.toList_some,List.foldl_append];rfl
def keep7 (s:S7) (now q:Int):S7:=bif (keepS s.h now (pkS q)).2==0 then ⟨(keepS s.h now (pkS q)).1,s.c,mdel q s.m⟩ else s
def ans7 (s:S7) (now rd:Int) (want:List Int):S7:=⟨(ansS s.h now rd want).1,s.c+((ansS s.h now rd want).2.1.length:Int),mAt s.m now (ansS s.h now rd want).2.1 (ansS s.h now rd want).2.1.length⟩
structure Inv7 (s:S7) (K:Nat):Prop where
 g:goodH s.h=true
 ss:s.h.ss=7
 ty:s.h.ty=97
 c0:0<=s.c
 c1:s.c<=65535+64*(K:Int)
 nx:s.h.nx=s.c % 65536
 ti0:0<=s.h.ti
 ti:s.h.ti<=700*(K:Int)
 pk: ∀x∈s.h.l,∃q,0<=q/\q<=65535/\x.p=pkS q
 nd:(mK s.m).Nodup
 ak: ∀x∈s.h.l,∀t,mfind x.p.sq s.m=some t->x.ak=t/\0<=t
theorem pk_good {q:Int} (h:0<=q/\q<=65535):mdB (pkS q)=true:=by
 have e1:inZ 0 65535 q=true:=inZ_iff.2 h;have e2:inZ 0 4294967295 (90*q)=true:=inZ_iff.2 (by omega)
 simp only [mdB,mdPre,pkS,allN,e1,e2,List.all_nil,List.length_nil];rfl
theorem pk_fin (q:Int):(pkS q).fin=true:=rfl
theorem pk_sq (q:Int):(pkS q).sq=q:=rfl
theorem inv_fin {s:S7} {K:Nat} (h:Inv7 s K):finH s.h=true:=by
 simp only [finH,List.all_eq_true];intro x hx;obtain ⟨q,_,_,e⟩:=h.pk x hx;rw [e];rfl
theorem inv_keep {s:S7} {K:Nat} (h:Inv7 s K) {now q:Int} (hn:s.h.ti<=now) (hn2:now<=700*((K+1:Nat):Int)) (hK:K<=1000) (hq:0<=q/\q<=65535):
 keepS s.h now (pkS q)=(zH,10)\/ ∃l',keepS s.h now (pkS q)=(⟨now,s.h.ss,s.h.ty,s.h.nx,l'++[⟨pkS q,now,-1⟩]⟩,0)/\goodH ⟨now,s.h.ss,s.h.ty,s.h.nx,l'++[⟨pkS q,now,-1⟩]⟩=true/\Inv7 ⟨⟨now,s.h.ss,s.h.ty,s.h.nx,l'++[⟨pkS q,now,-1⟩]⟩,s.c,mdel q s.m⟩ (K+1):=by
 rcases keep_ok h.g hn (by simp only [TT];omega) (pk_good hq) with e|⟨l',e,hs,hg,hne⟩
 ·exact .inl e
 ·refine .inr ⟨l',e,hg,hg,h.ss,h.ty,h.c0,?_,h.nx,?_,?_,fun x hx=> ?_,?_,fun x hx t ht=> ?_⟩
  ·have:=h.c1;show s.c<=_;omega
  ·have:=h.ti0;show 0<=now;omega
  ·exact hn2
  ·rcases List.mem_append.1 hx with hx|hx
   ·exact h.pk x (hs.mem hx)
   ·rw [List.mem_singleton.1 hx];exact ⟨q,hq.1,hq.2,rfl⟩
  ·exact h.nd.sublist mdel_sub
  ·have ht:mfind x.p.sq (mdel q s.m)=some t:=ht;rw [mfind_del h.nd] at ht;rcases List.mem_append.1 hx with hx|hx
   ·have:=hne x hx;rw [pk_sq] at this;rw [if_neg this] at ht;exact h.ak x (hs.mem hx) t ht
   ·rw [List.mem_singleton.1 hx] at ht;have ht:(if (pkS q).sq=q then none else mfind (pkS q).sq s.m)=some t:=ht
    rw [if_pos (pk_sq q)] at ht;cases ht
theorem or_pk {q nx:Int} (hq:0<=q/\q<=65535) (hn:0<=nx/\nx<=65535):mdB (agS (pkS q) 7 97 nx)=true/\orgS (agS (pkS q) 7 97 nx) 1 96=(pkS q,0):=by
 have hm:mdB (agS (pkS q) 7 97 nx)=true:=by
  have e1:inZ 0 65535 nx=true:=inZ_iff.2 hn;have e2:inZ 0 4294967295 (90*q)=true:=inZ_iff.2 (by omega)
  simp only [mdB,mdPre,agS,pkS,allN,e1,e2,List.all_nil,List.length_nil];rfl
 refine ⟨hm,?_⟩;unfold orgS;rw [hm,show namesB 1 96 0=true from rfl]
 simp only [cond_true,agS];have e1:((UInt8.ofNat (q/256).toNat).toNat:Int)=q/256:=by rw [UInt8.toNat_ofNat'];omega
 have e2:((UInt8.ofNat (q % 256).toNat).toNat:Int)=q % 256:=by rw [UInt8.toNat_ofNat'];omega
 simp only [pk_sq,e1,e2];rw [show 256*(q/256)+q % 256=q by omega]
 rfl
structure Out7 (s:S7) (now rd:Int) (want:List Int) (o:List Md) (k:Nat) (x:Md) (q:Int):Prop where
 q0:0<=q
 q1:q<=65535
 or:orgS x 1 96=(pkS q,0)
 fin:x.fin=true
 sq:x.sq=(s.c+(k:Int)) % 65536
 ss:x.ss=7
 ty:x.ty=97
 wn:q∈want
 mp: ∀t,mfind q (mAt s.m now o k)=some t->0<=t/\now-t>=rd
 it:(s.h.l.any fun y=>y.p.sq==q&&decide (now-y.ti<=2000))=true
theorem mAt_find {m:List (Int×Int)} {now:Int} {o:List Md}: ∀(k:Nat),k<=o.length-> ∀z,mfind z (mAt m now o k)=if z∈(o.take k).map oqS then some now else mfind z m
 |0,_,z=>by simp [mAt]
 |k+1,hk,z=>by
  obtain ⟨x,hx⟩: ∃x,o[k]? =some x:=⟨_,List.getElem?_eq_getElem (by omega)⟩
  rw [mAt_s hx,mfind_put,mAt_find k (by omega),List.take_add_one,hx,Option.toList_some,List.map_append]
  simp only [List.map_singleton,List.mem_append,List.mem_singleton];by_cases h1:z=oqS x
  ·rw [if_pos h1,if_pos (.inr h1)]
  ·rw [if_neg h1];by_cases h2:z∈(o.take k).map oqS
   ·rw [if_pos h2,if_pos (.inl h2)]
   ·rw [if_neg h2,if_neg (fun h=>h.elim h2 h1)]
theorem mAt_nd {m:List (Int×Int)} {now:Int} {o:List Md} (h:(mK m).Nodup): ∀(k:Nat),k<=o.length->(mK (mAt m now o k)).Nodup
 |0,_=>h
 |k+1,hk=>by
  obtain ⟨x,hx⟩: ∃x,o[k]? =some x:=⟨_,List.getElem?_eq_getElem (by omega)⟩
  rw [mAt_s hx];exact (mput_nd (mAt_nd h k (by omega))).1
theorem inv_ans {s:S7} {K:Nat} (h:Inv7 s K) {now rd:Int} (hn:s.h.ti<=now) (hn2:now<=700*((K+1:Nat):Int)) (hK:K<=1000) (hr:1<=rd/\rd<=2000) {want:List Int} (hw: ∀n∈want,0<=n/\n<=65535) (hwl:want.length<=64):
 ∃h' o,ansS s.h now rd want=(h',o,0)/\goodH h'=true/\h'.l.length=s.h.l.length/\o.length<=64/\(∀k x,o[k]? =some x-> ∃q,Out7 s now rd want o k x q)/\Inv7 ⟨h',s.c+(o.length:Int),mAt s.m now o o.length⟩ (K+1):=by
 have hti0:=h.ti0;have hnT:now<=TT:=by simp only [TT];omega
 have hl:lateH s.h now=0:=by
  unfold lateH;rw [h.g,show inI s.h.ti 1099511627776 now=true from inI_of ⟨hn,hnT⟩];rfl
 have hnx:0<=s.h.nx/\s.h.nx<=65535:=by rw [h.nx];omega
 have hd:=goodH_d h.g;obtain ⟨Y,hA⟩:=AI.all (ss:=s.h.ss) (ty:=s.h.ty) (nx0:=s.h.nx) (now:=now) (trip:=rd) (want:=want) hd hr.1 (by omega) want (AI.start s.h.l s.h.ss s.h.ty s.h.nx now rd want hnx) (fun n hn=>hn)
 have ha:(want.any fun x=> !inI 0 65535 x)=false:=by
  rw [List.any_eq_false];intro x hx;rw [show inI 0 65535 x=true from inI_of (hw x hx)];decide
 have hol:=ansL_len s.h.ss s.h.ty now rd want ⟨s.h.l,s.h.nx,[]⟩;have hE:ansS s.h now rd want=(⟨now,s.h.ss,s.h.ty,(ansL s.h.ss s.h.ty now rd ⟨s.h.l,s.h.nx,[]⟩ want).nx,(ansL s.h.ss s.h.ty now rd ⟨s.h.l,s.h.nx,[]⟩ want).l⟩,(ansL s.h.ss s.h.ty now rd ⟨s.h.l,s.h.nx,[]⟩ want).o,0):=by
  unfold ansS;rw [if_pos hl,show inI 1 2000 rd=true from inI_of hr,decide_eq_true hwl,ha]
  rfl
 refine ⟨_,_,hE,?_,?_,?_,?_,?_⟩
 ·show goodH ⟨now,s.h.ss,s.h.ty,_,_⟩=true;rw [hA.it];exact upd_good h.g hn hnT (by rw [hA.nx];omega)
 ·show (ansL _ _ _ _ _ _).l.length=_;rw [hA.it,List.length_map]
 ·simp only [List.length_nil] at hol;omega
 all_goals
  generalize hS:ansL s.h.ss s.h.ty now rd ⟨s.h.l,s.h.nx,[]⟩ want=S at*;have hoq: ∀(k:Nat) (x:Md),S.o[k]? =some x-> ∃y,Y[k]? =some y/\y∈s.h.l/\ ∃q,0<=q/\q<=65535/\y.p=pkS q/\x=agS (pkS q) 7 97 ((s.c+(k:Int)) % 65536)/\oqS x=q/\orgS x 1 96=(pkS q,0):=by
   intro k x hx;have hk:k<Y.length:=by rw [<-hA.ln];exact (List.getElem?_eq_some_iff.1 hx).1
   obtain ⟨y,hy⟩: ∃y,Y[k]? =some y:=⟨_,List.getElem?_eq_getElem hk⟩;have hxy:=hA.o k y hy;rw [hx] at hxy;have hyl:=(hA.yin y (List.mem_of_getElem? hy)).1;obtain ⟨q,q0,q1,hp⟩:=h.pk y hyl;have ex:x=agS (pkS q) 7 97 ((s.c+(k:Int)) % 65536):=by
    rw [Option.some.inj hxy,hp,h.ss,h.ty,h.nx];rw [show (s.c % 65536+(k:Int)) % 65536=(s.c+(k:Int)) % 65536 by omega]
   have eo:=(or_pk (nx:=(s.c+(k:Int)) % 65536) ⟨q0,q1⟩ (by omega)).2
   rw [<-ex] at eo;exact ⟨y,hy,hyl,q,q0,q1,hp,ex,by unfold oqS;rw [eo];rfl,eo⟩
  have hom: ∀k,k<=S.o.length->(S.o.take k).map oqS=(sqs Y).take k:=by
   intro k hk;rw [<-List.map_take];refine List.ext_getElem? fun i=> ?_;rw [List.getElem?_map,List.getElem?_map,List.getElem?_take,List.getElem?_take];by_cases hi:i<k
   ·rw [if_pos hi,if_pos hi];obtain ⟨x,hx⟩: ∃x,S.o[i]? =some x:=⟨_,List.getElem?_eq_getElem (by omega)⟩
    obtain ⟨y,hy,_,q,_,_,hp,_,e,_⟩:=hoq i x hx;rw [hx,hy];simp only [Option.map_some,e,hp,pk_sq]
   ·rw [if_neg hi,if_neg hi];rfl
 ·intro k x hx;obtain ⟨y,hy,hyl,q,q0,q1,hp,ex,eo,er⟩:=hoq k x hx;have hk:k<Y.length:=(List.getElem?_eq_some_iff.1 hy).1;have hyq:y.p.sq=q:=by rw [hp,pk_sq]
  obtain ⟨_,yw,yf⟩:=hA.yin y (List.mem_of_getElem? hy);simp only [ansF,Bool.and_eq_true,Bool.or_eq_true,decide_eq_true_eq] at yf;refine ⟨q,q0,q1,er,by rw [ex];rfl,by rw [ex];rfl,by rw [ex];rfl,by rw [ex];rfl,by rw [<-hyq];exact yw,fun t ht=> ?_,?_⟩
  ·rw [mAt_find k (by rw [hA.ln];omega),hom k (by rw [hA.ln];omega),if_neg] at ht
   ·obtain ⟨a1,a2⟩:=h.ak y hyl t (by rw [hyq];exact ht)
    refine ⟨a2,?_⟩;rcases yf.2 with h1|h1
    ·omega
    ·rw [<-a1];exact h1
   ·intro hm;obtain ⟨i,hi⟩:=List.getElem?_of_mem hm;rw [List.getElem?_take] at hi;split at hi
    ·rename_i hik;have e1:(sqs Y)[k]? =some q:=by rw [List.getElem?_map,hy,Option.map_some,hyq]
     have:=(List.getElem?_inj (by rw [List.length_map];omega) hA.nd).1 (hi.trans e1.symm)
     omega
    ·cases hi
  ·rw [List.any_eq_true];exact ⟨y,hyl,by rw [hyq,beq_self_eq_true,Bool.true_and];exact decide_eq_true yf.1⟩
 ·have hfull:(S.o.take S.o.length).map oqS=sqs Y:=by rw [hom _ (Nat.le_refl _),hA.ln];exact List.take_of_length_le (by rw [List.length_map];exact Nat.le_refl _)
  refine ⟨?_,h.ss,h.ty,?_,?_,?_,?_,hn2,fun x hx=> ?_,mAt_nd h.nd _ (Nat.le_refl _),fun x hx t ht=> ?_⟩
  ·show goodH ⟨now,s.h.ss,s.h.ty,_,_⟩=true;rw [hA.it];exact upd_good h.g hn hnT (by rw [hA.nx];omega)
  ·have:=h.c0;show 0<=s.c+_;omega
  ·have:=h.c1;have:S.o.length<=64:=by simp only [List.length_nil] at hol;omega
   show s.c+_<=_;omega
  ·show S.nx=(s.c+(S.o.length:Int)) % 65536;rw [hA.nx,hA.ln,h.nx];omega
  ·show 0<=now;omega
  ·have hx:x∈S.l:=hx;rw [hA.it] at hx;obtain ⟨y,hy,rfl⟩:=List.mem_map.1 hx;rw [updA_p];exact h.pk y hy
  ·have hx:x∈S.l:=hx;rw [hA.it] at hx;obtain ⟨y,hy,rfl⟩:=List.mem_map.1 hx;have ht:mfind (updA now (sqs Y) y).p.sq (mAt s.m now S.o S.o.length)=some t:=ht;rw [updA_p,mAt_find _ (Nat.le_refl _),hfull] at ht;unfold updA;by_cases hm:y.p.sq∈sqs Y
   ·rw [if_pos hm] at ht ⊢;cases ht;exact ⟨rfl,by omega⟩
   ·rw [if_neg hm] at ht ⊢;exact h.ak y hy t ht
abbrev i7r0:List IOper:=[oo 2 (.box (.t 0)),oo 4 (.mv (.c (.b false)))]
abbrev i7r1:List IOper:=[oo 26 (.call (.c (.fn 16 [])) []),ot 27 (.not (.t 26))]
abbrev i7r2:List IOper:=[oo 4 (.mv (.c (.b false)))]
abbrev i7r3:List IOper:=[oo 29 (.fa 1 (.t 2)),oo 30 (.ld false 1 (.t 29)),oo 31 (.i2i .i64 (.t 30)),oo 32 (.call (.c (.fn 32 [])) [.c (.i .i64 7),.c (.i .i64 97),.t 31]),oo 28 (.mv (.t 32)),oo 33 (.ext (.t 28) 0),oo 34 (.ext (.t 28) 1),oo 5 (.new [.i .i64 0,.i .i64 0,.i .i64 0,.i .i64 0,.ns]),on_ (.st 5 (.t 5) (.t 33)),oo 6 (.mv (.t 34))]
abbrev i7r4:List IOper:=[oo 35 (.mv (.t 6)),ot 36 (.bin .neq (.t 35) (.c (.i .i64 0)))]
abbrev i7r5:List IOper:=[oo 4 (.mv (.c (.b false)))]
abbrev i7r6:List IOper:=[oo 37 (.ld true 3 (.t 2)),oo 38 (.call (.c (.fn 17 [])) [.t 37]),oo 7 (.mv (.t 38))]
abbrev i7r7:List IOper:=[oo 39 (.ld true 3 (.t 2)),oo 40 (.call (.c (.fn 27 [])) [.t 39]),oo 8 (.mv (.t 40))]
abbrev i7r8:List IOper:=[oo 41 (.fa 1 (.t 2)),oo 42 (.ld false 1 (.t 41)),oo 43 (.i2i .i64 (.t 42)),oo 9 (.mv (.t 43))]
abbrev i7r9:List IOper:=[oo 44 (.mpN (.i [])),oo 10 (.mv (.t 44))]
abbrev i7r10:List IOper:=[oo 45 (.mv (.t 8)),oo 46 (.lenV (.t 45)),oo 47 (.mv (.c (.i .i64 0)))]
abbrev i7r11:List IOper:=[ot 48 (.bin .lss (.t 47) (.t 46))]
abbrev i7r12:List IOper:=[oo 49 (.mv (.t 47)),oo 50 (.ixaV 1 (.t 45) (.t 47)),oo 51 (.ld false 1 (.t 50)),oo 11 (.mv (.t 49)),oo 12 (.mv (.t 51))]
abbrev i7r13:List (IOper×List Nat):=[(oo 52 (.fa 0 (.t 5)),[]),(oo 53 (.ld false 1 (.t 52)),[]),(oo 54 (.fa 2 (.t 2)),[0,1]),(oo 55 (.ld false 1 (.t 54)),[0,1]),(oo 56 (.mv (.t 11)),[0,1,2,3]),(oo 57 (.ixaV 3 (.t 55) (.t 56)),[0,1]),(oo 58 (.fa 1 (.t 57)),[0,1]),(oo 59 (.ld false 1 (.t 58)),[0,1]),(oo 60 (.bin .rem (.t 59) (.c (.i .u16 700))),[0,1]),(oo 61 (.i2i .i64 (.t 60)),[0,1]),(oo 62 (.bin .add (.t 53) (.t 61)),[]),(oo 13 (.new [.i .i64 0]),[0,1,2,3,4,5,6,7,8,9,10]),(on_ (.st 1 (.t 13) (.t 62)),[])]
abbrev i7r14:List IOper:=[oo 63 (.fa 2 (.t 2)),oo 64 (.ld false 1 (.t 63)),oo 65 (.mv (.t 11)),oo 66 (.ixaV 3 (.t 64) (.t 65)),oo 67 (.fa 0 (.t 66)),oo 68 (.ld false 1 (.t 67)),oo 69 (.bin .rem (.t 68) (.c (.i .u8 3))),ot 70 (.bin .neq (.t 69) (.c (.i .u8 0)))]
abbrev i7r15:List (IOper×List Nat):=[(oo 72 (.ld true 5 (.t 5)),[]),(oo 73 (.ld false 1 (.t 13)),[0]),(oo 74 (.mv (.t 12)),[0,1]),(oo 75 (.call (.c (.fn 34 [])) [.t 74]),[0,1]),(oo 76 (.call (.c (.fn 33 [])) [.t 72,.t 73,.t 75]),[]),(oo 71 (.mv (.t 76)),[]),(oo 77 (.ext (.t 71) 0),[]),(oo 78 (.ext (.t 71) 1),[6]),(oo 14 (.new [.i .i64 0,.i .i64 0,.i .i64 0,.i .i64 0,.ns]),[0,1,2,3,4,5,6,7]),(on_ (.st 5 (.t 14) (.t 77)),[7]),(oo 15 (.mv (.t 78)),[])]
abbrev i7r16:List IOper:=[oo 79 (.mv (.t 15)),ot 80 (.bin .neq (.t 79) (.c (.i .i64 0)))]
abbrev i7r17:List IOper:=[oo 81 (.mv (.t 15)),ot 82 (.bin .neq (.t 81) (.c (.i .i64 10)))]
abbrev i7r18:List IOper:=[oo 4 (.mv (.c (.b false)))]
abbrev i7r19:List (IOper×List Nat):=[(oo 83 (.ld true 5 (.t 14)),[]),(oo 84 (.call (.c (.fn 35 [])) [.t 83]),[]),(oo 85 (.bin .neq (.t 84) (.c (.i .i64 0))),[]),(ot 86 (.mv (.t 85)),[]),(og 87 (.fa 4 (.t 14)) 86 false false,[]),(og 88 (.ld false 1 (.t 87)) 86 false false,[]),(og 89 (.lenV (.t 88)) 86 false false,[]),(og 90 (.bin .eql (.t 89) (.c (.i .i64 0))) 86 false false,[]),(oo 91 (.pick (.t 86) (.c (.b true)) (.t 90)),[]),(ot 92 (.mv (.t 91)),[]),(og 93 (.fa 4 (.t 14)) 92 false false,[]),(og 94 (.ld false 1 (.t 93)) 92 false false,[]),(og 95 (.fa 4 (.t 14)) 92 false false,[10,11]),(og 96 (.ld false 1 (.t 95)) 92 false false,[10,11]),(og 97 (.lenV (.t 96)) 92 false false,[10,11]),(og 98 (.bin .sub (.t 97) (.c (.i .i64 1))) 92 false false,[10,11]),(og 99 (.ixaV 11 (.t 94) (.t 98)) 92 false false,[]),(og 100 (.fa 0 (.t 99)) 92 false false,[]),(og 101 (.ld true 9 (.t 100)) 92 false false,[]),(og 102 (.mv (.t 12)) 92 false false,[10,11,12,13,14,15,16,17,18]),(og 103 (.call (.c (.fn 34 [])) [.t 102]) 92 false false,[10,11,12,13,14,15,16,17,18]),(og 104 (.call (.c (.fn 36 [])) [.t 101,.t 103]) 92 false false,[]),(og 105 (.not (.t 104)) 92 false false,[]),(ot 106 (.pick (.t 92) (.c (.b true)) (.t 105)),[])]
abbrev i7r20:List IOper:=[oo 4 (.mv (.c (.b false)))]
abbrev i7r21:List IOper:=[oo 107 (.mv (.t 10)),oo 108 (.mv (.t 12)),on_ (.mpD 0 (.t 107) (.t 108))]
abbrev i7r22:List IOper:=[oo 109 (.ld true 5 (.t 14)),on_ (.st 5 (.t 5) (.t 109))]
abbrev i7r23:List IOper:=[oo 110 (.mv (.t 8)),oo 111 (.mv (.t 8)),oo 112 (.lenV (.t 111)),oo 113 (.mv (.t 1)),oo 114 (.i2i .i64 (.t 113)),oo 115 (.bin .rem (.t 114) (.c (.i .i64 40))),oo 116 (.bin .add (.c (.i .i64 1)) (.t 115)),oo 117 (.mn (.t 112) [.t 116]),oo 118 (.slV 1 (.t 110) none (some (.t 117)) none),oo 16 (.mv (.t 118))]
abbrev i7r24:List IOper:=[oo 120 (.ld true 5 (.t 5)),oo 121 (.ld false 1 (.t 13)),oo 122 (.mv (.t 7)),oo 123 (.mv (.t 16)),oo 124 (.call (.c (.fn 37 [])) [.t 120,.t 121,.t 122,.t 123]),oo 119 (.mv (.t 124)),oo 125 (.ext (.t 119) 0),oo 126 (.ext (.t 119) 1),oo 127 (.ext (.t 119) 2),oo 17 (.new [.i .i64 0,.i .i64 0,.i .i64 0,.i .i64 0,.ns]),on_ (.st 5 (.t 17) (.t 125)),oo 18 (.mv (.t 126)),oo 19 (.mv (.t 127))]
abbrev i7r25:List IOper:=[oo 128 (.mv (.t 19)),oo 129 (.bin .neq (.t 128) (.c (.i .i64 0))),ot 130 (.mv (.t 129)),og 131 (.ld true 5 (.t 17)) 130 false false,og 132 (.call (.c (.fn 35 [])) [.t 131]) 130 false false,og 133 (.bin .neq (.t 132) (.c (.i .i64 0))) 130 false false,oo 134 (.pick (.t 130) (.c (.b true)) (.t 133)),ot 135 (.mv (.t 134)),og 136 (.fa 4 (.t 17)) 135 false false,og 137 (.ld false 1 (.t 136)) 135 false false,og 138 (.lenV (.t 137)) 135 false false,og 139 (.fa 4 (.t 5)) 135 false false,og 140 (.ld false 1 (.t 139)) 135 false false,og 141 (.lenV (.t 140)) 135 false false,og 142 (.bin .neq (.t 138) (.t 141)) 135 false false,ot 143 (.pick (.t 135) (.c (.b true)) (.t 142))]
abbrev i7r26:List IOper:=[oo 4 (.mv (.c (.b false)))]
abbrev i7r27:List IOper:=[oo 144 (.mv (.t 18)),oo 145 (.lenV (.t 144)),oo 146 (.mv (.c (.i .i64 0)))]
abbrev i7r28:List IOper:=[ot 147 (.bin .lss (.t 146) (.t 145))]
abbrev i7r29:List IOper:=[oo 148 (.ixaV 9 (.t 144) (.t 146)),oo 149 (.ld true 9 (.t 148)),oo 21 (.new [.b false,.i .i64 0,.i .i64 0,.i .i64 0,.i .i64 0,.ns,.ns,.i .i64 0,.s []]),on_ (.st 9 (.t 21) (.t 149))]
abbrev i7r30:List IOper:=[oo 151 (.ld true 9 (.t 21)),oo 152 (.call (.c (.fn 38 [])) [.t 151,.c (.i .i64 1),.c (.i .i64 96)]),oo 150 (.mv (.t 152)),oo 153 (.ext (.t 150) 0),oo 154 (.ext (.t 150) 1),oo 22 (.new [.b false,.i .i64 0,.i .i64 0,.i .i64 0,.i .i64 0,.ns,.ns,.i .i64 0,.s []]),on_ (.st 9 (.t 22) (.t 153)),oo 23 (.mv (.t 154))]
abbrev i7r31:List (IOper×List Nat):=[(oo 155 (.mv (.t 23)),[]),(oo 156 (.bin .neq (.t 155) (.c (.i .i64 0))),[]),(ot 157 (.mv (.t 156)),[]),(og 158 (.fa 2 (.t 21)) 157 false false,[]),(og 159 (.ld false 1 (.t 158)) 157 false false,[]),(og 160 (.mv (.t 9)) 157 false false,[3,4]),(og 161 (.bin .and (.t 160) (.c (.i .i64 65535))) 157 false false,[3,4]),(og 162 (.bin .neq (.t 159) (.t 161)) 157 false false,[]),(oo 163 (.pick (.t 157) (.c (.b true)) (.t 162)),[]),(ot 164 (.mv (.t 163)),[]),(og 165 (.fa 4 (.t 21)) 164 false false,[]),(og 166 (.ld false 1 (.t 165)) 164 false false,[]),(og 167 (.bin .neq (.t 166) (.c (.i .i64 7))) 164 false false,[]),(oo 168 (.pick (.t 164) (.c (.b true)) (.t 167)),[]),(ot 169 (.mv (.t 168)),[]),(og 170 (.fa 1 (.t 21)) 169 false false,[]),(og 171 (.ld false 1 (.t 170)) 169 false false,[]),(og 172 (.bin .neq (.t 171) (.c (.i .i64 97))) 169 false false,[]),(oo 173 (.pick (.t 169) (.c (.b true)) (.t 172)),[]),(ot 174 (.mv (.t 173)),[]),(og 175 (.ld true 9 (.t 22)) 174 false false,[]),(og 176 (.fa 2 (.t 22)) 174 false false,[20]),(og 177 (.ld false 1 (.t 176)) 174 false false,[20]),(og 178 (.call (.c (.fn 34 [])) [.t 177]) 174 false false,[20]),(og 179 (.call (.c (.fn 36 [])) [.t 175,.t 178]) 174 false false,[]),(og 180 (.not (.t 179)) 174 false false,[]),(oo 181 (.pick (.t 174) (.c (.b true)) (.t 180)),[]),(ot 182 (.mv (.t 181)),[]),(og 183 (.mv (.t 16)) 182 false false,[]),(og 184 (.fa 2 (.t 22)) 182 false false,[28]),(og 185 (.ld false 1 (.t 184)) 182 false false,[28]),(og 186 (.call (.c (.fn 39 [])) [.t 183,.t 185]) 182 false false,[]),(og 187 (.not (.t 186)) 182 false false,[]),(ot 188 (.pick (.t 182) (.c (.b true)) (.t 187)),[])]
abbrev i7r32:List IOper:=[oo 4 (.mv (.c (.b false)))]
abbrev i7r33:List IOper:=[oo 190 (.mv (.t 10)),oo 191 (.fa 2 (.t 22)),oo 192 (.ld false 1 (.t 191)),oo 193 (.mpG 0 true (.i .i64 0) (.t 190) (.t 192)),oo 189 (.mv (.t 193)),oo 194 (.ext (.t 189) 0),oo 195 (.ext (.t 189) 1),oo 24 (.mv (.t 194)),oo 25 (.mv (.t 195))]
abbrev i7r34:List IOper:=[oo 196 (.mv (.t 25)),ot 197 (.mv (.t 196)),og 198 (.ld false 1 (.t 13)) 197 true false,og 199 (.mv (.t 24)) 197 true false,og 200 (.bin .sub (.t 198) (.t 199)) 197 true false,og 201 (.mv (.t 7)) 197 true false,og 202 (.bin .lss (.t 200) (.t 201)) 197 true false,ot 203 (.pick (.t 197) (.t 202) (.c (.b false)))]
abbrev i7r35:List IOper:=[oo 4 (.mv (.c (.b false)))]
abbrev i7r36:List IOper:=[oo 204 (.fa 4 (.t 5)),oo 205 (.ld false 1 (.t 204)),oo 206 (.mkf 41 [.t 22,.t 13]),oo 207 (.call (.c (.fn 40 [])) [.t 205,.t 206]),ot 208 (.not (.t 207))]
abbrev i7r37:List IOper:=[oo 4 (.mv (.c (.b false)))]
abbrev i7r38:List IOper:=[oo 209 (.mv (.t 10)),oo 210 (.fa 2 (.t 22)),oo 211 (.ld false 1 (.t 210)),oo 212 (.ld false 1 (.t 13)),on_ (.mpU 0 (.t 209) (.t 211) (.t 212))]
abbrev i7r39:List IOper:=[oo 213 (.mv (.t 9)),oo 214 (.bin .add (.t 213) (.c (.i .i64 1))),oo 9 (.mv (.t 214))]
abbrev i7r40:List IOper:=[oo 215 (.bin .add (.t 146) (.c (.i .i64 1))),oo 146 (.mv (.t 215))]
abbrev i7l41:ICode:=(.seq (.reg i7r28) (.seq (.cond (.t 147) .skip (.exit 2)) (.seq (.block 3 (.seq (.reg i7r29) (.seq (.reg i7r30) (.seq (.seq (.dreg i7r31) (.cond (.t 188) (.seq (.reg i7r32) .ret) .skip)) (.seq (.seq (.reg i7r33) (.seq (.reg i7r34) (.cond (.t 203) (.seq (.reg i7r35) .ret) .skip))) (.seq (.seq (.reg i7r36) (.cond (.t 208) (.seq (.reg i7r37) .ret) .skip)) (.seq (.reg i7r38) (.reg i7r39)))))))) (.reg i7r40))))
abbrev i7r42:List IOper:=[oo 216 (.ld true 5 (.t 17)),on_ (.st 5 (.t 5) (.t 216))]
abbrev i7r43:List IOper:=[oo 217 (.bin .add (.t 47) (.c (.i .i64 1))),oo 47 (.mv (.t 217))]
abbrev i7l44:ICode:=(.seq (.reg i7r11) (.seq (.cond (.t 48) .skip (.exit 0)) (.seq (.block 1 (.seq (.reg i7r12) (.seq (.dreg i7r13) (.seq (.seq (.reg i7r14) (.cond (.t 70) (.seq (.dreg i7r15) (.seq (.seq (.reg i7r16) (.cond (.t 80) (.seq (.seq (.reg i7r17) (.cond (.t 82) (.seq (.reg i7r18) .ret) .skip)) (.exit 1)) .skip)) (.seq (.seq (.dreg i7r19) (.cond (.t 106) (.seq (.reg i7r20) .ret) .skip)) (.seq (.reg i7r21) (.seq (.reg i7r22) (.exit 1)))))) .skip)) (.seq (.reg i7r23) (.seq (.reg i7r24) (.seq (.seq (.reg i7r25) (.cond (.t 143) (.seq (.reg i7r26) .ret) .skip)) (.seq (.seq (.reg i7r27) (.block 2 (.loop i7l41))) (.reg i7r42))))))))) (.reg i7r43))))
abbrev i7r45:List IOper:=[oo 4 (.mv (.c (.b true)))]
abbrev i7c:ICode:=(.seq (.reg i7r0) (.seq (.seq (.reg i7r1) (.cond (.t 27) (.seq (.reg i7r2) .ret) .skip)) (.seq (.reg i7r3) (.seq (.seq (.reg i7r4) (.cond (.t 36) (.seq (.reg i7r5) .ret) .skip)) (.seq (.reg i7r6) (.seq (.reg i7r7) (.seq (.reg i7r8) (.seq (.reg i7r9) (.seq (.seq (.reg i7r10) (.block 0 (.loop i7l44))) (.seq (.reg i7r45) .ret))))))))))
def i7:IFn:={np:=2,N:=218,ct:=[27,36,48,70,80,82,106,143,147,188,203,208],code:=i7c,res:=[.t 4]}
theorem i7_eq:compF Try.prog Try.f7=some i7:=by kernel_rfl
abbrev i39r0:List IOper:=[oo 4 (.mv (.c (.b false)))]
abbrev i39r1:List IOper:=[oo 5 (.mv (.t 0)),oo 6 (.mv (.t 1)),oo 7 (.call (.c (.fn 79 [])) [.t 5,.t 6]),oo 8 (.bin .geq (.t 7) (.c (.i .i64 0))),oo 4 (.mv (.t 8))]
abbrev i39c:ICode:=(.seq (.reg i39r0) (.seq (.reg i39r1) .ret))
def i39:IFn:={np:=2,N:=9,ct:=[],code:=i39c,res:=[.t 4]}
theorem i39_eq:compF Try.prog Try.f39=some i39:=by kernel_rfl
abbrev i41r0:List IOper:=[oo 3 (.box (.t 0)),oo 4 (.mv (.c (.b false)))]
abbrev i41r1:List IOper:=[oo 5 (.fa 0 (.t 3)),oo 6 (.fa 2 (.t 5)),oo 7 (.ld false 1 (.t 6)),oo 8 (.fa 2 (.t 1)),oo 9 (.ld false 1 (.t 8)),oo 10 (.bin .eql (.t 7) (.t 9)),ot 11 (.mv (.t 10)),og 12 (.ld false 1 (.t 2)) 11 true false,og 13 (.fa 9 (.t 3)) 11 true false,og 14 (.ld false 1 (.t 13)) 11 true false,og 15 (.bin .sub (.t 12) (.t 14)) 11 true false,og 16 (.bin .leq (.t 15) (.c (.i .i64 2000))) 11 true false,oo 17 (.pick (.t 11) (.t 16) (.c (.b false))),oo 4 (.mv (.t 17))]
abbrev i41c:ICode:=(.seq (.reg i41r0) (.seq (.reg i41r1) .ret))
def i41:IFn:={np:=3,N:=18,ct:=[],code:=i41c,res:=[.t 4]}
theorem i41_eq:compF Try.prog Try.f41=some i41:=by kernel_rfl
abbrev i79r0:List IOper:=[oo 4 (.mv (.c (.i .i64 0)))]
abbrev i79r1:List IOper:=[oo 6 (.mv (.t 0)),oo 7 (.lenV (.t 6)),oo 8 (.mv (.c (.i .i64 0)))]
abbrev i79r2:List IOper:=[ot 9 (.bin .lss (.t 8) (.t 7))]
abbrev i79r3:List IOper:=[oo 10 (.mv (.t 8)),oo 5 (.mv (.t 10))]
abbrev i79r4:List IOper:=[oo 11 (.mv (.t 1)),oo 12 (.mv (.t 0)),oo 13 (.mv (.t 5)),oo 14 (.ixaV 1 (.t 12) (.t 13)),oo 15 (.ld false 1 (.t 14)),ot 16 (.bin .eql (.t 11) (.t 15))]
abbrev i79r5:List IOper:=[oo 17 (.mv (.t 5)),oo 4 (.mv (.t 17))]
abbrev i79r6:List IOper:=[oo 18 (.bin .add (.t 8) (.c (.i .i64 1))),oo 8 (.mv (.t 18))]
abbrev i79l7:ICode:=(.seq (.reg i79r2) (.seq (.cond (.t 9) .skip (.exit 0)) (.seq (.block 1 (.seq (.reg i79r3) (.seq (.reg i79r4) (.cond (.t 16) (.seq (.reg i79r5) .ret) .skip)))) (.reg i79r6))))
abbrev i79r8:List IOper:=[oo 4 (.mv (.c (.i .i64 (-1))))]
abbrev i79c:ICode:=(.seq (.reg i79r0) (.seq (.seq (.reg i79r1) (.block 0 (.loop i79l7))) (.seq (.reg i79r8) .ret)))
def i79:IFn:={np:=2,N:=19,ct:=[9,16],code:=i79c,res:=[.t 4]}
theorem i79_eq:compF Try.prog Try.f79=some i79:=by kernel_rfl
theorem w34q (q:Int) (hq:0<=q/\q<=65535):FTL Try.prog 34 [.i .i64 q] [] 0 (.agg (pkS q).l) [] 0:=by
 refine FTL.of_cov (cx:=cxT []) Sound.nil mo Try.func34 i34_eq (by simp [i34]) (iw_of_jw ?_)
 dsimp only [i34];have e1:q.tmod 2=q % 2:=Int.tmod_eq_emod_of_nonneg hq.1;have e2:q.tmod 26=q % 26:=Int.tmod_eq_emod_of_nonneg hq.1;have e3:IntKind.i64.wrap (q % 2)=q % 2:=wrapL (by omega) (by omega)
 have e4:IntKind.i64.wrap (q % 26)=q % 26:=wrapL (by omega) (by omega)
 have e5:IntKind.i64.wrap (90*q)=90*q:=wrapL (by omega) (by omega)
 have e6:IntKind.i64.wrap (97+q % 26)=97+q % 26:=wrapL (by omega) (by omega)
 have e7:IntKind.u8.wrap (97+q % 26)=97+q % 26:=by rw [wrapU8];omega
 simp (maxSteps:=400000) only [go_sem,e1,e2,e3,e4,e5,e6,e7,simprocAttr];refine CovS.frzN (l:=[]) (v':= .agg (pkS q).l) (FzV.agg ⟨FzV.refl,FzV.refl,FzV.refl,FzV.refl,FzV.refl,FzV.hit,FzV.hit,FzV.refl,FzV.refl,trivial⟩) ?_;exact CovS.ends (Ends.pureE rfl rfl)
def k34q:Ct
 |[.i .i64 q],_,n=>some (inI 0 65535 q,{v:= .agg (pkS q).l,n})
 |_,_,_=>none
theorem s34q:SoundAt Try.prog 34 k34q:=fun args h n c E hc ht=>by
 unfold k34q at hc;split at hc
 ·cases hc;exact CallOK.pure (by kernel_rfl) rfl rfl (w34q _ (inI_t ht)) _ _
 ·cases hc
/-! Begin -/
def TM32:List (Nat×Ct):=[(66,k66)]
theorem hTM32:Sound Try.prog (cxT TM32):=Sound.cons s66 Sound.nil
theorem w32q (ss ty nx:Int) (hn:namesB ss ty nx=true):FTL Try.prog 32 [.i .i64 ss,.i .i64 ty,.i .i64 nx] [] 0 (rsH (⟨0,ss,ty,nx,[]⟩,0)) [] 0:=by
 refine FTL.of_cov (cx:=cxT TM32) hTM32 mo Try.func32 i32_eq (by simp [i32]) (iw_of_jw ?_)
 dsimp only [i32,TM32];simp (maxSteps:=400000) only [go_sem,k66,hn,simprocAttr];exact covH_n
def k32q:Ct
 |[.i .i64 ss,.i .i64 ty,.i .i64 nx],_,n=>some (namesB ss ty nx,{v:=rsH (⟨0,ss,ty,nx,[]⟩,0),n})
 |_,_,_=>none
theorem s32q:SoundAt Try.prog 32 k32q:=fun args h n c E hc ht=>by
 unfold k32q at hc;split at hc
 ·cases hc;exact CallOK.pure (by kernel_rfl) rfl (rsH_bel _) (w32q _ _ _ ht) _ _
 ·cases hc
/-! Contains -/
theorem w79 (l:List Int) (y:Int) (hl:l.length<=1000000000000) (hy:y∈l):FTL Try.prog 79 [.fz (rows int1 l) l.length,.i .i64 y] [] 0 (.i .i64 (l.findIdx (fun x=>y==x):Int)) [] 0:=by
 refine FTL.of_iw (cx:=cxT []) Sound.nil mo Try.func79 i79_eq (by simp [i79]) (iw_of_jw ?_)
 dsimp only [i79];have hL: ∀(k:Nat) x,l[k]? =some x->(rows int1 l)[k]? =some (.i .i64 x):=fun k x hk=>by
  have:=rows_get (f:=int1) (z:=1) (j:=0) (v:= .i .i64 x) int1_len hk rfl;simpa using this
 have hLb: ∀n,belL n (rows int1 l)=true:=fun n=>csB n l;generalize rows int1 l=L at hL hLb;simp (maxSteps:=400000) only [go_sem,simprocAttr];refine Loop.countI (F:=⟨Try.prog,cxT [],[9,16],19,0⟩) Sound.nil mo l.length (fun k=> ∀j,j<k-> ∀x,l[j]? =some x->(y==x)=false)
  (fun k=>[(0,.fz L l.length),(1,.i .i64 y),(7,.i .i64 (l.length:Int)),(8,.i .i64 (k:Int))])
  (fun k=>[]) 0 (by decide) (fun j hj=>by omega) ?_ ?_ (fun k hk hok=> ?_)
 ·simp (maxSteps:=400000) only [go_sem,AV.bel,belL,nblt,hLb,simprocAttr]
 ·simp (maxSteps:=400000) only [go_sem,AV.bel,belL,nblt,hLb,simprocAttr]
 by_cases hlt:k<l.length
 ·have c1:decide ((k:Int)<(l.length:Int))=true:=decide_eq_true (by omega)
  have c2:decide (0<=(k:Int)/\(k:Int)<(l.length:Int))=true:=decide_eq_true (by omega)
  obtain ⟨x,hx⟩: ∃x,l[k]? =some x:=⟨_,List.getElem?_eq_getElem hlt⟩;have hw:IntKind.i64.wrap ((k:Int)+1)=((k+1:Nat):Int):=by rw [wrapL (by omega) (by omega)];omega
  have hr:=hL k x hx;cases he:(y==x)
  ·simp (maxSteps:=400000) only [go_sem,c1,c2,hr,he,hw,hlt,AV.bel,belL,nblt,hLb,Nat.mul_one,simprocAttr];intro j hj z hz;rcases Nat.lt_succ_iff_lt_or_eq.1 hj with h|h
   ·exact hok j h z hz
   ·subst h;rw [hx] at hz;cases hz;exact he
  ·have hi:l.findIdx (fun x=>y==x)=k:=by
    rw [List.findIdx_eq hlt];have hg:l[k]=x:=by rw [List.getElem?_eq_getElem hlt] at hx;exact Option.some.inj hx
    refine ⟨by rw [hg];exact he,fun j hj=> ?_⟩
    have:=hok j hj l[j] (List.getElem?_eq_getElem (by omega))
    simpa using this
   rw [hi];simp (maxSteps:=400000) only [go_sem,c1,c2,hr,he,Nat.mul_one,simprocAttr];exact Ends.pureE rfl rfl
 ·exfalso;obtain ⟨j,hj⟩:=List.getElem?_of_mem hy;have:=hok j (by have:=(List.getElem?_eq_some_iff.1 hj).1;omega) y hj
  simp at this
def k79:Ct
 |[.fz L m,.i .i64 y],_,n=>(unrows 1 intV m L).bind fun l=>some (decide (m<=1000000000000)&&decide (y∈l),{v:= .i .i64 (l.findIdx (fun x=>y==x):Int),n})
 |_,_,_=>none
theorem s79:SoundAt Try.prog 79 k79:=fun args h n c E hc ht=>by
 unfold k79 at hc;split at hc
 ·simp only [Option.bind_eq_some_iff] at hc;obtain ⟨l,hl,he⟩:=hc;cases he;simp only [Bool.and_eq_true,decide_eq_true_eq] at ht;obtain ⟨rfl,rfl⟩:=unrows_eq intV_eq hl;exact CallOK.pure (by kernel_rfl) (by simp only [belL,AV.bel,csB,Bool.and_self]) rfl (w79 l _ ht.1 ht.2) _ _
 ·cases hc
def TM39:List (Nat×Ct):=[(79,k79)]
theorem hTM39:Sound Try.prog (cxT TM39):=Sound.cons s79 Sound.nil
theorem w39 (l:List Int) (y:Int) (hl:l.length<=1000000000000) (hy:y∈l):FTL Try.prog 39 [.fz (rows int1 l) l.length,.i .i64 y] [] 0 (.b true) [] 0:=by
 have hk: ∀(h:Hp) n,k79 [.fz (rows int1 l) l.length,.i .i64 y] h n=some (true,{v:= .i .i64 (l.findIdx (fun x=>y==x):Int),n}):=fun h n=>by
  simp only [k79,in_un,Option.bind_some,decide_eq_true hl,decide_eq_true hy,Bool.and_self]
 have c1:decide (((l.findIdx (fun x=>y==x):Nat):Int)>=0)=true:=decide_eq_true (by omega)
 refine FTL.of_iw (cx:=cxT TM39) hTM39 mo Try.func39 i39_eq (by simp [i39]) (iw_of_jw ?_)
 dsimp only [i39,TM39];simp (maxSteps:=400000) only [go_sem,hk,c1,simprocAttr];exact Ends.pureE rfl rfl
def k39:Ct
 |[.fz L m,.i .i64 y],_,n=>(unrows 1 intV m (L.take m)).bind fun l=>some (decide (m<=1000000000000)&&decide (y∈l)&&belL 0 L,{v:= .b true,n})
 |_,_,_=>none
theorem s39:SoundAt Try.prog 39 k39:=fun args h n c E hc ht=>by
 unfold k39 at hc;split at hc
 ·rename_i L m y;simp only [Option.bind_eq_some_iff] at hc;obtain ⟨l,hl,he⟩:=hc;cases he;simp only [Bool.and_eq_true,decide_eq_true_eq] at ht;obtain ⟨e1,e2⟩:=unrows_eq intV_eq hl;subst e2;refine CallOK.pure (by kernel_rfl) (by simp only [belL,AV.bel,ht.2,Bool.and_self]) rfl (Go.Ab.FTL.wka (xs:=[.fz L l.length,.i .i64 y]) (ys:=[.fz (rows int1 l) l.length,.i .i64 y]) ⟨?_,Go.Ab.WkaL.refl _⟩ (w39 l _ ht.1.1 ht.1.2)) _ _
  rw [<-e1];exact Go.Ab.Wka.take L _ _
 ·cases hc
def k37c:Ct
 |[.agg c,.i .i64 now,.i .i64 trip,.fz N m],_,n=>(hsA c).bind fun h=>(unrows 1 intV m (N.take m)).bind fun ns=>some (decide (h.l.length<=9223372036854775807)&&(finH h&&decide (m<=9223372036854775807))&&belL 0 N,{v:=rsA (ansS h now trip ns),n})
 |_,_,_=>none
theorem s37c:SoundAt Try.prog 37 k37c:=fun args h n c E hc ht=>by
 unfold k37c at hc;split at hc
 ·rename_i c now trip N m;simp only [Option.bind_eq_some_iff] at hc;obtain ⟨hs,hd,ns,hn,he⟩:=hc;cases he;obtain ⟨e1,e2⟩:=unrows_eq intV_eq hn;subst e2;rw [hsA_eq hd];simp only [Bool.and_eq_true,decide_eq_true_eq] at ht;refine CallOK.pure (by kernel_rfl) (by simp only [belL,AV.bel,Hs.bel,ht.2,Bool.and_self]) (rsA_bel _) (Go.Ab.FTL.wka (xs:=[.agg hs.a,.i .i64 now,.i .i64 trip,.fz N ns.length]) (ys:=[.agg hs.a,.i .i64 now,.i .i64 trip,.fz (rows int1 ns) ns.length]) ⟨Go.Ab.Wka.refl _,Go.Ab.Wka.refl _,Go.Ab.Wka.refl _,?_,trivial⟩ (w37 hs _ _ ns ht.1.1 ht.1.2.1 ht.1.2.2)) _ _
  rw [<-e1];exact Go.Ab.Wka.take N _ _
 ·cases hc
/-! what is kept -/
theorem w41 (x:Kp) (o:Md) (now:Int) (hn:0<=now/\now<=TT) (hx:0<=x.ti/\x.ti<=TT):FTL Try.prog 41 [.agg x.l,.fp o.l 0,.fp [.i .i64 now] 0] [] 0 (.b (x.p.sq==o.sq&&decide (now-x.ti<=2000))) [] 0:=by
 obtain ⟨⟨ma,pty,sq,tm,pss,cs,xs,pd,pl⟩,xt,xa⟩:=x;obtain ⟨ma',pty',sq',tm',pss',cs',xs',pd',pl'⟩:=o;dsimp only at hx;have e1:IntKind.i64.wrap (now-xt)=now-xt:=by unfold TT at *;exact wrapL (by omega) (by omega)
 refine FTL.of_iw Sound.nil mo Try.func41 i41_eq (by simp [i41]) (iw_of_jw ?_)
 dsimp only [i41];cases h0:(sq==sq')
 ·simp (maxSteps:=400000) only [go_sem,Kp.l,Md.l,e1,h0,simprocAttr];exact Ends.pureE rfl rfl
 ·simp (maxSteps:=400000) only [go_sem,Kp.l,Md.l,e1,h0,simprocAttr];exact Ends.pureE rfl rfl
theorem w74t (o:Md) (now:Int) (l:List Kp) (hl:l.length<=1000000000000) (hn:0<=now/\now<=TT) (hx: ∀x∈l,0<=x.ti/\x.ti<=TT):
 FTL Try.prog 74 [.fz (rows Kp.l l) l.length,.fn 41 [.fp o.l 0,.fp [.i .i64 now] 0]] [] 0 (.i .i64 (ixf (fun x=>x.p.sq==o.sq&&decide (now-x.ti<=2000)) l 0)) [] 0:=
 ixf_fz (row:=Kp.l) (el:=fun x=> .agg x.l) mo Try.func74 i74_eq (by kernel_rfl) Kp.len Kp.bel (by simp only [belL,AV.bel,Md.bel,Bool.and_self]) (fun _=>rfl) (fun a b h=>by simp only [AV.agg.injEq] at h;rw [Kp.inj h]) l (by omega) (fun x h=>w41 x o now hn (hx x h))
theorem w40t (o:Md) (now:Int) (l:List Kp) (hl:l.length<=1000000000000) (hn:0<=now/\now<=TT) (hx: ∀x∈l,0<=x.ti/\x.ti<=TT):
 FTL Try.prog 40 [.fz (rows Kp.l l) l.length,.fn 41 [.fp o.l 0,.fp [.i .i64 now] 0]] [] 0 (.b (l.any fun x=>x.p.sq==o.sq&&decide (now-x.ti<=2000))) [] 0:=
 cof_fz mo Try.func40 i40_eq (by kernel_rfl) (rows_bel Kp.bel) (by simp only [belL,AV.bel,Md.bel,Bool.and_self]) (w74t o now l hl hn hx) (ixf_neg _ l 0 (by omega))
def oneM:Blk->Option Md
 |⟨l,false,none,none,none⟩=>md9 l
 |_=>none
theorem oneM_eq {k:Blk} {x:Md} (h:oneM k=some x):k={cells:=x.l}:=by
 unfold oneM at h;split at h
 ·rw [md9_eq h]
 ·cases h
def k40t:Ct
 |[x,.fn 41 [.p a 0,.p b 0]],h,n=>vwK h 11 x fun rd m cs ok=>(unrows 11 kp11 m cs).bind fun l=>(hget h a).bind fun ka=>(oneM ka).bind fun o=>(hget h b).bind fun kb=>(oneB kb).bind fun now=>
  some (ok&&decide (m<=1000000000000)&&inI 0 TT now&&l.all (fun x=>inI 0 TT x.ti),{v:= .b (l.any fun x=>x.p.sq==o.sq&&decide (now-x.ti<=2000)),n,rd:=a::b::rd})
 |_,_,_=>none
theorem s40t:SoundAt Try.prog 40 k40t:=fun args h n c E hc ht=>by
 unfold k40t at hc;split at hc
 ·rename_i x a b;rw [vwK_eq] at hc;simp only [Option.bind_eq_some_iff] at hc;obtain ⟨⟨rd,m,cs,ok⟩,hv,l,hl,ka,hka,o,ho,kb,hkb,now,hnow,he⟩:=hc;cases he;simp only [Bool.and_eq_true,decide_eq_true_eq,List.all_eq_true] at ht;obtain ⟨⟨⟨rfl,hm⟩,hn⟩,hx⟩:=ht;obtain ⟨rfl,hlm⟩:=unrows_eq (f:=Kp.l) (fun c a h=>kp11_eq h) hl;subst hlm;refine CallOK.viewG (by kernel_rfl) (argsF:=[.fz (rows Kp.l l) l.length,.fn 41 [.fp ka.cells 0,.fp kb.cells 0]]) ⟨vwK_sub hv (rows_bel Kp.bel) (fun c hc=>by simp [inl_cons,hc]),VwV.fn ⟨VwV.p (by simp [only,inl_cons,hka]) (by rw [oneM_eq ho];exact o.bel) (by rw [oneM_eq ho]),VwV.p (by simp [only,inl_cons,hkb]) (by rw [oneB_eq hnow];rfl) (by rw [oneB_eq hnow]),trivial⟩,trivial⟩ rfl ?_
  rw [oneM_eq ho,oneB_eq hnow];exact w40t o now l hm (inI_t hn) (fun x h=>inI_t (hx x h))
 ·cases hc
end Go.Proofs.Res
namespace Go.Proofs.Res
open Go.Ab
set_option maxHeartbeats 8000000
theorem w36 (p:Md) (hl:p.cs.length<=9223372036854775807/\p.xs.length<=9223372036854775807):FTL Try.prog 36 [.agg p.l,.agg p.l] [] 0 (.b true) [] 0:=by
 obtain ⟨ma,pty,sq,tm,pss,cs,xs,pd,pl⟩:=p;simp only [Md.l];dsimp only at hl;obtain ⟨hl1,hl2⟩:=hl;have hcB: ∀j,belL j (rows int1 cs)=true:=fun j=>belL_mono0 _ (rows_bel int1_bel);have hxB: ∀j,belL j (rows xtR xs)=true:=fun j=>belL_mono0 _ (rows_bel xtR_bel);have hrc: ∀(k:Nat) (x:Int),cs[k]? =some x->(rows int1 cs)[k]? =some (.i .i64 x):=fun k x h=>by
  have:=rows_get (f:=int1) (z:=1) (j:=0) (v:= .i .i64 x) int1_len h rfl;simpa using this
 have hrx: ∀(k:Nat) (x:Xt),xs[k]? =some x->List.take 2 (List.drop (k*2) (rows xtR xs))=xtR x:=fun k x h=>rows_at xtR_len h;refine FTL.of_iw Sound.nil mo Try.func36 i36_eq (by simp [i36]) (iw_of_jw ?_)
 dsimp only [i36];have b0:(ma !=ma)=false:=by simp
 have b1:(pty !=pty)=false:=by simp
 have b2:(sq !=sq)=false:=by simp
 have b3:(tm !=tm)=false:=by simp
 have b4:(pss !=pss)=false:=by simp
 have b5:(pd !=pd)=false:=by simp
 have b6:(pl !=pl)=false:=by simp
 have b7:((cs.length:Int) !=(cs.length:Int))=false:=by simp
 have b8:((xs.length:Int) !=(xs.length:Int))=false:=by simp
 have e0:(ma==ma)=true:=by simp
 simp (maxSteps:=400000) only [go_sem,b0,b1,b2,b3,b4,b5,b6,b7,b8,e0,simprocAttr];refine Loop.countI (F:=⟨Try.prog,cxT [],[71,76,89,94,107],108,0⟩) Sound.nil mo cs.length (fun k=>True)
  (fun k=>[(2,.p 0 0),(3,.p 1 0),(5,.i .i64 (k:Int))])
  (fun k=>[(0,{cells:=[.b ma,.i .i64 pty,.i .i64 sq,.i .i64 tm,.i .i64 pss,.fz (rows int1 cs) cs.length,.fz (rows xtR xs) xs.length,.i .i64 pd,.s pl]}),(1,{cells:=[.b ma,.i .i64 pty,.i .i64 sq,.i .i64 tm,.i .i64 pss,.fz (rows int1 cs) cs.length,.fz (rows xtR xs) xs.length,.i .i64 pd,.s pl]})]) 2 (by decide) trivial ?_ ?_ (fun k hk _=> ?_)
 ·simp (maxSteps:=400000) only [go_sem,AV.bel,belL,nblt,hcB,hxB,simprocAttr]
 ·simp (maxSteps:=400000) only [go_sem,AV.bel,belL,nblt,hcB,hxB,simprocAttr]
 ·by_cases hlt:k<cs.length
  ·have c1:decide ((k:Int)<(cs.length:Int))=true:=decide_eq_true (by omega)
   have c2:decide (0<=(k:Int)/\(k:Int)<(cs.length:Int))=true:=decide_eq_true (by omega)
   have hw:IntKind.i64.wrap ((k:Int)+1)=((k+1:Nat):Int):=by rw [wrapL (by omega) (by omega)];omega
   have hx:=hrc k cs[k] (List.getElem?_eq_getElem hlt);generalize cs[k]=x at hx;have hx':(rows int1 cs)[k*1]? =some (.i .i64 x):=by rw [Nat.mul_one];exact hx
   have e1:(x !=x)=false:=by simp
   simp (maxSteps:=400000) only [go_sem,c1,c2,hw,hx,hx',e1,hlt,AV.bel,belL,nblt,hcB,hxB,simprocAttr]
  ·have c1:decide ((k:Int)<(cs.length:Int))=false:=decide_eq_false (by omega)
   simp (maxSteps:=400000) only [go_sem,c1,simprocAttr];refine Loop.countI (F:=⟨Try.prog,cxT [],[71,76,89,94,107],108,0⟩) Sound.nil mo xs.length (fun k=>True)
    (fun k=>[(2,.p 0 0),(3,.p 1 0),(6,.i .i64 (k:Int))])
    (fun k=>[(0,{cells:=[.b ma,.i .i64 pty,.i .i64 sq,.i .i64 tm,.i .i64 pss,.fz (rows int1 cs) cs.length,.fz (rows xtR xs) xs.length,.i .i64 pd,.s pl]}),(1,{cells:=[.b ma,.i .i64 pty,.i .i64 sq,.i .i64 tm,.i .i64 pss,.fz (rows int1 cs) cs.length,.fz (rows xtR xs) xs.length,.i .i64 pd,.s pl]})]) 2 (by decide) trivial ?_ ?_ (fun k hk _=> ?_)
   ·simp (maxSteps:=400000) only [go_sem,AV.bel,belL,nblt,hcB,hxB,simprocAttr]
   ·simp (maxSteps:=400000) only [go_sem,AV.bel,belL,nblt,hcB,hxB,simprocAttr]
   ·by_cases hlt:k<xs.length
    ·have c1:decide ((k:Int)<(xs.length:Int))=true:=decide_eq_true (by omega)
     have c2:decide (0<=(k:Int)/\(k:Int)<(xs.length:Int))=true:=decide_eq_true (by omega)
     have hw:IntKind.i64.wrap ((k:Int)+1)=((k+1:Nat):Int):=by rw [wrapL (by omega) (by omega)];omega
     have hx:=hrx k xs[k] (List.getElem?_eq_getElem hlt);generalize xs[k]=x at hx;have e1:(x.1==x.1)=true:=by simp
     have e2:(x.2==x.2)=true:=by simp
     simp (maxSteps:=400000) only [go_sem,c1,c2,hw,hx,xtR,e1,e2,hlt,AV.bel,belL,nblt,hcB,hxB,simprocAttr]
    ·have c1:decide ((k:Int)<(xs.length:Int))=false:=decide_eq_false (by omega)
     simp (maxSteps:=400000) only [go_sem,c1,simprocAttr];exact Ends.pureE rfl rfl
noncomputable def k36:Ct
 |[.agg a,.agg b],_,n=>(md9 a).bind fun p=>open Classical in if a=b then some (decide (p.cs.length<=9223372036854775807)&&decide (p.xs.length<=9223372036854775807),{v:= .b true,n}) else none
 |_,_,_=>none
theorem s36:SoundAt Try.prog 36 k36:=fun args h n c E hc ht=>by
 unfold k36 at hc;split at hc
 ·simp only [Option.bind_eq_some_iff] at hc;obtain ⟨p,hp,he⟩:=hc;split at he
  ·rename_i hab;subst hab;cases he;rw [md9_eq hp];simp only [Bool.and_eq_true,decide_eq_true_eq] at ht;exact CallOK.pure (by kernel_rfl) (by simp only [belL,AV.bel,Md.bel,Bool.and_self]) rfl (w36 p ht) _ _
  ·cases he
 ·cases hc
end Go.Proofs.Res
namespace Go.Proofs.Res
open Go.Ab
/- value .b true; none; entries 13; ops left 6770; costs [0, 0, 0, 0, 0, 0, 0, 0, 0, 0, 0, 0, 0] -/
def kM0:List MEnt:=[]
theorem kM0_ok:MOK Try.prog kM0:=MOK.nil
def kE0:MEnt:=⟨13,[.agg [.i .i64 0,.b false,.i .i64 0,.ns],.i .i64 0,.i .i64 10],[],0,.tup [.agg [.i .i64 0,.b true,.i .i64 10,.fz [] 0],.i .i64 0],[],0⟩
theorem kE0_ok:kE0.ok Try.prog:=MEnt.ok_ext (by kernel_rfl) (f13 (by kernel_rfl))
def kM1:List MEnt:=kE0::kM0
theorem kM1_ok:MOK Try.prog kM1:=MOK.cons kE0_ok kM0_ok
def kE1:MEnt:=⟨13,[.agg [.i .i64 0,.b true,.i .i64 10,.fz [] 0],.i .i64 5,.i .i64 13],[],0,.tup [.agg [.i .i64 5,.b true,.i .i64 13,.fz [.i .i64 11,.i .i64 5,.i .i64 0,.i .i64 0,.i .i64 12,.i .i64 5,.i .i64 0,.i .i64 0] 2],.i .i64 0],[],0⟩
theorem kE1_ok:kE1.ok Try.prog:=MEnt.ok_ext (by kernel_rfl) (f13 (by kernel_rfl))
def kM2:List MEnt:=kE1::kM1
theorem kM2_ok:MOK Try.prog kM2:=MOK.cons kE1_ok kM1_ok
def kE2:MEnt:=⟨20,[.agg [.i .i64 5,.b true,.i .i64 13,.fz [.i .i64 11,.i .i64 5,.i .i64 0,.i .i64 0,.i .i64 12,.i .i64 5,.i .i64 0,.i .i64 0] 2],.i .i64 5,.i .i64 100],[],0,.tup [.agg [.i .i64 5,.b true,.i .i64 13,.fz [.i .i64 11,.i .i64 5,.i .i64 5,.i .i64 1,.i .i64 12,.i .i64 5,.i .i64 5,.i .i64 1] 2],.fz [.i .i64 11,.i .i64 12] 2,.b false,.i .i64 0],[],0⟩
theorem kE2_ok:kE2.ok Try.prog:=MEnt.ok_ext (by kernel_rfl) (f20 (by kernel_rfl))
def kM3:List MEnt:=kE2::kM2
theorem kM3_ok:MOK Try.prog kM3:=MOK.cons kE2_ok kM2_ok
def kE3:MEnt:=⟨20,[.agg [.i .i64 5,.b true,.i .i64 13,.fz [.i .i64 11,.i .i64 5,.i .i64 5,.i .i64 1,.i .i64 12,.i .i64 5,.i .i64 5,.i .i64 1] 2],.i .i64 104,.i .i64 100],[],0,.tup [.agg [.i .i64 104,.b true,.i .i64 13,.fz [.i .i64 11,.i .i64 5,.i .i64 5,.i .i64 1,.i .i64 12,.i .i64 5,.i .i64 5,.i .i64 1] 2],.fz [] 0,.b false,.i .i64 0],[],0⟩
theorem kE3_ok:kE3.ok Try.prog:=MEnt.ok_ext (by kernel_rfl) (f20 (by kernel_rfl))
def kM4:List MEnt:=kE3::kM3
theorem kM4_ok:MOK Try.prog kM4:=MOK.cons kE3_ok kM3_ok
def kE4:MEnt:=⟨20,[.agg [.i .i64 5,.b true,.i .i64 13,.fz [.i .i64 11,.i .i64 5,.i .i64 5,.i .i64 1,.i .i64 12,.i .i64 5,.i .i64 5,.i .i64 1] 2],.i .i64 105,.i .i64 100],[],0,.tup [.agg [.i .i64 105,.b true,.i .i64 13,.fz [.i .i64 11,.i .i64 5,.i .i64 105,.i .i64 2,.i .i64 12,.i .i64 5,.i .i64 105,.i .i64 2] 2],.fz [.i .i64 11,.i .i64 12] 2,.b false,.i .i64 0],[],0⟩
theorem kE4_ok:kE4.ok Try.prog:=MEnt.ok_ext (by kernel_rfl) (f20 (by kernel_rfl))
def kM5:List MEnt:=kE4::kM4
theorem kM5_ok:MOK Try.prog kM5:=MOK.cons kE4_ok kM4_ok
def kE5:MEnt:=⟨20,[.agg [.i .i64 105,.b true,.i .i64 13,.fz [.i .i64 11,.i .i64 5,.i .i64 105,.i .i64 2,.i .i64 12,.i .i64 5,.i .i64 105,.i .i64 2] 2],.i .i64 304,.i .i64 100],[],0,.tup [.agg [.i .i64 304,.b true,.i .i64 13,.fz [.i .i64 11,.i .i64 5,.i .i64 105,.i .i64 2,.i .i64 12,.i .i64 5,.i .i64 105,.i .i64 2] 2],.fz [] 0,.b false,.i .i64 0],[],0⟩
theorem kE5_ok:kE5.ok Try.prog:=MEnt.ok_ext (by kernel_rfl) (f20 (by kernel_rfl))
def kM6:List MEnt:=kE5::kM5
theorem kM6_ok:MOK Try.prog kM6:=MOK.cons kE5_ok kM5_ok
def kE6:MEnt:=⟨20,[.agg [.i .i64 105,.b true,.i .i64 13,.fz [.i .i64 11,.i .i64 5,.i .i64 105,.i .i64 2,.i .i64 12,.i .i64 5,.i .i64 105,.i .i64 2] 2],.i .i64 305,.i .i64 100],[],0,.tup [.agg [.i .i64 305,.b true,.i .i64 13,.fz [.i .i64 11,.i .i64 5,.i .i64 305,.i .i64 3,.i .i64 12,.i .i64 5,.i .i64 305,.i .i64 3] 2],.fz [.i .i64 11,.i .i64 12] 2,.b false,.i .i64 0],[],0⟩
theorem kE6_ok:kE6.ok Try.prog:=MEnt.ok_ext (by kernel_rfl) (f20 (by kernel_rfl))
def kM7:List MEnt:=kE6::kM6
theorem kM7_ok:MOK Try.prog kM7:=MOK.cons kE6_ok kM6_ok
def kE7:MEnt:=⟨13,[.agg [.i .i64 5,.b true,.i .i64 13,.fz [.i .i64 11,.i .i64 5,.i .i64 5,.i .i64 1,.i .i64 12,.i .i64 5,.i .i64 5,.i .i64 1] 2],.i .i64 50,.i .i64 11],[],0,.tup [.agg [.i .i64 50,.b true,.i .i64 13,.fz [.i .i64 12,.i .i64 5,.i .i64 5,.i .i64 1] 1],.i .i64 0],[],0⟩
theorem kE7_ok:kE7.ok Try.prog:=MEnt.ok_ext (by kernel_rfl) (f13 (by kernel_rfl))
def kM8:List MEnt:=kE7::kM7
theorem kM8_ok:MOK Try.prog kM8:=MOK.cons kE7_ok kM7_ok
def kE8:MEnt:=⟨20,[.agg [.i .i64 50,.b true,.i .i64 13,.fz [.i .i64 12,.i .i64 5,.i .i64 5,.i .i64 1] 1],.i .i64 105,.i .i64 100],[],0,.tup [.agg [.i .i64 105,.b true,.i .i64 13,.fz [.i .i64 12,.i .i64 5,.i .i64 105,.i .i64 2] 1],.fz [.i .i64 12] 1,.b false,.i .i64 0],[],0⟩
theorem kE8_ok:kE8.ok Try.prog:=MEnt.ok_ext (by kernel_rfl) (f20 (by kernel_rfl))
def kM9:List MEnt:=kE8::kM8
theorem kM9_ok:MOK Try.prog kM9:=MOK.cons kE8_ok kM8_ok
def kE9:MEnt:=⟨20,[.agg [.i .i64 5,.b true,.i .i64 13,.fz [.i .i64 11,.i .i64 5,.i .i64 0,.i .i64 0,.i .i64 12,.i .i64 5,.i .i64 0,.i .i64 0] 2],.i .i64 2004,.i .i64 100],[],0,.tup [.agg [.i .i64 2004,.b true,.i .i64 13,.fz [.i .i64 11,.i .i64 5,.i .i64 2004,.i .i64 1,.i .i64 12,.i .i64 5,.i .i64 2004,.i .i64 1] 2],.fz [.i .i64 11,.i .i64 12] 2,.b false,.i .i64 0],[],0⟩
theorem kE9_ok:kE9.ok Try.prog:=MEnt.ok_ext (by kernel_rfl) (f20 (by kernel_rfl))
def kM10:List MEnt:=kE9::kM9
theorem kM10_ok:MOK Try.prog kM10:=MOK.cons kE9_ok kM9_ok
def kE10:MEnt:=⟨20,[.agg [.i .i64 5,.b true,.i .i64 13,.fz [.i .i64 11,.i .i64 5,.i .i64 0,.i .i64 0,.i .i64 12,.i .i64 5,.i .i64 0,.i .i64 0] 2],.i .i64 2005,.i .i64 100],[],0,.tup [.agg [.i .i64 2005,.b true,.i .i64 13,.fz [] 0],.fz [] 0,.b true,.i .i64 0],[],0⟩
theorem kE10_ok:kE10.ok Try.prog:=MEnt.ok_ext (by kernel_rfl) (f20 (by kernel_rfl))
def kM11:List MEnt:=kE10::kM10
theorem kM11_ok:MOK Try.prog kM11:=MOK.cons kE10_ok kM10_ok
def kE11:MEnt:=⟨13,[.agg [.i .i64 0,.b true,.i .i64 10,.fz [] 0],.i .i64 0,.i .i64 75],[],0,.tup [.agg [.i .i64 0,.b false,.i .i64 0,.fz [] 0],.i .i64 6],[],0⟩
theorem kE11_ok:kE11.ok Try.prog:=MEnt.ok_ext (by kernel_rfl) (f13 (by kernel_rfl))
def kM12:List MEnt:=kE11::kM11
theorem kM12_ok:MOK Try.prog kM12:=MOK.cons kE11_ok kM11_ok
def kE12:MEnt:=⟨13,[.agg [.i .i64 0,.b true,.i .i64 10,.fz [] 0],.i .i64 0,.i .i64 74],[],0,.tup [.agg [.i .i64 0,.b true,.i .i64 74,.fz [.i .i64 11,.i .i64 0,.i .i64 0,.i .i64 0,.i .i64 12,.i .i64 0,.i .i64 0,.i .i64 0,.i .i64 13,.i .i64 0,.i .i64 0,.i .i64 0,.i .i64 14,.i .i64 0,.i .i64 0,.i .i64 0,.i .i64 15,.i .i64 0,.i .i64 0,.i .i64 0,.i .i64 16,.i .i64 0,.i .i64 0,.i .i64 0,.i .i64 17,.i .i64 0,.i .i64 0,.i .i64 0,.i .i64 18,.i .i64 0,.i .i64 0,.i .i64 0,.i .i64 19,.i .i64 0,.i .i64 0,.i .i64 0,.i .i64 20,.i .i64 0,.i .i64 0,.i .i64 0,.i .i64 21,.i .i64 0,.i .i64 0,.i .i64 0,.i .i64 22,.i .i64 0,.i .i64 0,.i .i64 0,.i .i64 23,.i .i64 0,.i .i64 0,.i .i64 0,.i .i64 24,.i .i64 0,.i .i64 0,.i .i64 0,.i .i64 25,.i .i64 0,.i .i64 0,.i .i64 0,.i .i64 26,.i .i64 0,.i .i64 0,.i .i64 0,.i .i64 27,.i .i64 0,.i .i64 0,.i .i64 0,.i .i64 28,.i .i64 0,.i .i64 0,.i .i64 0,.i .i64 29,.i .i64 0,.i .i64 0,.i .i64 0,.i .i64 30,.i .i64 0,.i .i64 0,.i .i64 0,.i .i64 31,.i .i64 0,.i .i64 0,.i .i64 0,.i .i64 32,.i .i64 0,.i .i64 0,.i .i64 0,.i .i64 33,.i .i64 0,.i .i64 0,.i .i64 0,.i .i64 34,.i .i64 0,.i .i64 0,.i .i64 0,.i .i64 35,.i .i64 0,.i .i64 0,.i .i64 0,.i .i64 36,.i .i64 0,.i .i64 0,.i .i64 0,.i .i64 37,.i .i64 0,.i .i64 0,.i .i64 0,.i .i64 38,.i .i64 0,.i .i64 0,.i .i64 0,.i .i64 39,.i .i64 0,.i .i64 0,.i .i64 0,.i .i64 40,.i .i64 0,.i .i64 0,.i .i64 0,.i .i64 41,.i .i64 0,.i .i64 0,.i .i64 0,.i .i64 42,.i .i64 0,.i .i64 0,.i .i64 0,.i .i64 43,.i .i64 0,.i .i64 0,.i .i64 0,.i .i64 44,.i .i64 0,.i .i64 0,.i .i64 0,.i .i64 45,.i .i64 0,.i .i64 0,.i .i64 0,.i .i64 46,.i .i64 0,.i .i64 0,.i .i64 0,.i .i64 47,.i .i64 0,.i .i64 0,.i .i64 0,.i .i64 48,.i .i64 0,.i .i64 0,.i .i64 0,.i .i64 49,.i .i64 0,.i .i64 0,.i .i64 0,.i .i64 50,.i .i64 0,.i .i64 0,.i .i64 0,.i .i64 51,.i .i64 0,.i .i64 0,.i .i64 0,.i .i64 52,.i .i64 0,.i .i64 0,.i .i64 0,.i .i64 53,.i .i64 0,.i .i64 0,.i .i64 0,.i .i64 54,.i .i64 0,.i .i64 0,.i .i64 0,.i .i64 55,.i .i64 0,.i .i64 0,.i .i64 0,.i .i64 56,.i .i64 0,.i .i64 0,.i .i64 0,.i .i64 57,.i .i64 0,.i .i64 0,.i .i64 0,.i .i64 58,.i .i64 0,.i .i64 0,.i .i64 0,.i .i64 59,.i .i64 0,.i .i64 0,.i .i64 0,.i .i64 60,.i .i64 0,.i .i64 0,.i .i64 0,.i .i64 61,.i .i64 0,.i .i64 0,.i .i64 0,.i .i64 62,.i .i64 0,.i .i64 0,.i .i64 0,.i .i64 63,.i .i64 0,.i .i64 0,.i .i64 0,.i .i64 64,.i .i64 0,.i .i64 0,.i .i64 0,.i .i64 65,.i .i64 0,.i .i64 0,.i .i64 0,.i .i64 66,.i .i64 0,.i .i64 0,.i .i64 0,.i .i64 67,.i .i64 0,.i .i64 0,.i .i64 0,.i .i64 68,.i .i64 0,.i .i64 0,.i .i64 0,.i .i64 69,.i .i64 0,.i .i64 0,.i .i64 0,.i .i64 70,.i .i64 0,.i .i64 0,.i .i64 0,.i .i64 71,.i .i64 0,.i .i64 0,.i .i64 0,.i .i64 72,.i .i64 0,.i .i64 0,.i .i64 0,.i .i64 73,.i .i64 0,.i .i64 0,.i .i64 0] 63],.i .i64 0],[],0⟩
theorem kE12_ok:kE12.ok Try.prog:=MEnt.ok_ext (by kernel_rfl) (f13 (by kernel_rfl))
def kM13:List MEnt:=kE12::kM12
theorem kM13_ok:MOK Try.prog kM13:=MOK.cons kE12_ok kM12_ok
theorem tk:(xFn (runM kM13 TK 10000) i16 [] [] 0).map (·.1)=some (.b true):=by kernel_rfl
theorem w16:FTL Try.prog 16 [] [] 0 (.b true) [] 0:=FTL.of_runM 10000 mo kM13_ok TK_valid Try.func16 i16_eq tk rfl
def k16:Ct
 |[],_,n=>some (true,{v:= .b true,n})
 |_,_,_=>none
theorem s16:SoundAt Try.prog 16 k16:=fun args h n c E hc ht=>by
 unfold k16 at hc;split at hc
 ·cases hc;exact CallOK.pure (by kernel_rfl) rfl rfl w16 _ _
 ·cases hc
end Go.Proofs.Res
namespace Go.Proofs.Res
open Go.Ab
set_option maxHeartbeats 8000000
def st7 (d:Dr) (turn:Int):Nat->S7
 |0=>⟨⟨0,7,97,d.tr,[]⟩,d.tr,[]⟩
 |k+1=>bif ((evN d.ev k).wh.tmod 3 !=0) then keep7 (st7 d turn k) ((st7 d turn k).h.ti+(evN d.ev k).wa.tmod 700) (seqN d.ev d.sq k)
  else ans7 (st7 d turn k) ((st7 d turn k).h.ti+(evN d.ev k).wa.tmod 700) (roundS d) ((stepsL d).take (min (stepsL d).length (1+turn.tmod 40).toNat))
def mC (m:List (Int×Int)):List AV:=(mV m).map fun x=> .i .i64 x
theorem mapE {α β:Type} (f:α->β): ∀(l:List α) (i:Nat),(l.map f).eraseIdx i=(l.eraseIdx i).map f
 |[],_=>rfl
 |_::_,0=>rfl
 |a::l,i+1=>by simp [mapE f l i]
theorem wrT {now t rd:Int} (h0:0<=t) (h1:now-t>=rd) (h2:1<=rd) (h3:now<=1000000):IntKind.i64.wrap (now-t)=now-t/\decide (now-t<rd)=false:=
 ⟨wrapL (by omega) (by omega),decide_eq_false (by omega)⟩
def mBk (m:List (Int×Int)):Blk:={cells:=mC m,mp:=some (.i (mK m))}
theorem mC_bel (m:List (Int×Int)) (j:Nat):belL j (mC m)=true:=by
 unfold mC;generalize mV m=l;induction l with
 |nil=>rfl
 |cons x r ih=>simp only [List.map_cons,belL,AV.bel,ih,Bool.and_self]
theorem fnd_i (l:List Int) (q:Int):(MKeys.i l).find (.i .i64 q)=some (l.findIdx? (q== ·)):=rfl
noncomputable def TL7:List (Nat×Ct):=[(16,k16),(17,k17),(27,k27),(32,k32q),(33,k33),(34,k34q),(35,k35),(36,k36),(37,k37c),(38,k38),(39,k39),(40,k40t)]
theorem hTL7:Sound Try.prog (cxT TL7):=Sound.cons s16<|Sound.cons s17<|Sound.cons s27<|Sound.cons s32q<|Sound.cons s33<|Sound.cons s34q<|Sound.cons s35<|Sound.cons s36<|Sound.cons s37c<|Sound.cons s38<|Sound.cons s39<|Sound.cons s40t Sound.nil
noncomputable abbrev F7:Fx:=⟨Try.prog,cxT TL7,[27,36,48,70,80,82,106,143,147,188,203,208],218,0⟩
theorem w7 (d:Dr) (hd:d.ok) (turn:Int) (htu:0<=turn/\turn<=255):FTL Try.prog 7 [.agg d.a,.i .u8 turn] [] 0 (.b true) [] 0:=by
 have hda:=drA_a d;have hok:=Dr.ok_iff.2 hd;have hev:=hd.ev;have htr:=inI_t hd.tr;have hsr: ∀k,0<=seqN d.ev d.sq k/\seqN d.ev d.sq k<=65535:=fun k=>by
  have h1:=atN_rng hd.ev (inI_t hd.sq) k;have h2:=Ev.rng (evN_ok hd.ev k);unfold seqN;rw [Int.tmod_eq_emod_of_nonneg (by omega)];omega
 have hrr:=roundS_rng hd;have hsl:(stepsL d).length=min d.ev.length 40:=by rw [stepsL,mapN_len]
 have hsg: ∀k,k<(stepsL d).length->(stepsL d)[k]? =some (seqN d.ev d.sq k):=fun k hk=>by rw [hsl] at hk;exact mapN_get hk
 have hst: ∀k,st7 d turn (k+1)=bif ((evN d.ev k).wh.tmod 3 !=0) then keep7 (st7 d turn k) ((st7 d turn k).h.ti+(evN d.ev k).wa.tmod 700) (seqN d.ev d.sq k)
  else ans7 (st7 d turn k) ((st7 d turn k).h.ti+(evN d.ev k).wa.tmod 700) (roundS d) ((stepsL d).take (min (stepsL d).length (1+turn.tmod 40).toNat)):=fun _=>rfl
 have hs0:st7 d turn 0=⟨⟨0,7,97,d.tr,[]⟩,d.tr,[]⟩:=rfl;have hsm: ∀x∈stepsL d,0<=x/\x<=65535:=fun x hx=>by
  obtain ⟨k,hk⟩:=List.getElem?_of_mem hx;rw [hsg k (List.getElem?_eq_some_iff.1 hk).1] at hk;cases hk;exact hsr k
 generalize hso:stepsL d=sl at*;generalize hro:roundS d=rd at*;have hk17: ∀(h:Hp) n,k17 [.agg d.a] h n=some (true,{v:= .i .i64 rd,n}):=fun h n=>by simp only [k17,hda,Option.bind_some,hok,hro]
 have hk27: ∀(h:Hp) n,k27 [.agg d.a] h n=some (true,{v:= .fz (rows I1 sl) sl.length,n}):=fun h n=>by simp only [k27,hda,Option.bind_some,hok,hso]
 generalize seqN d.ev d.sq=sqn at*;generalize st7 d turn=st at*;obtain ⟨sq0,tr,ev⟩:=d;dsimp only at hev hsl hst htr hs0;simp only [Dr.a] at hk17 hk27 ⊢;have hle:sl.length<=ev.length:=by omega
 have hs40:sl.length<=40:=by omega
 have erb: ∀j,belL j (rows Ev.l ev)=true:=fun j=>belL_mono0 _ (rows_bel Ev.bel);have hwt:IntKind.i64.wrap tr=tr:=wrapL (by omega) (by omega)
 have hnb:namesB 7 97 tr=true:=by
  rw [namesB,show inI 0 65535 tr=true from inI_of htr];rfl
 have hk32: ∀(h:Hp) n,k32q [.i .i64 7,.i .i64 97,.i .i64 tr] h n=some (true,{v:= .tup [.agg [.i .i64 0,.i .i64 7,.i .i64 97,.i .i64 tr,.fz [] 0],.i .i64 0],n}):=fun h n=>by
  simp only [k32q,hnb];rfl
 refine FTL.of_iw (cx:=cxT TL7) hTL7 mo Try.func7 i7_eq (by simp [i7]) (iw_of_jw ?_)
 dsimp only [i7,TL7];simp (maxSteps:=400000) only [go_sem,k16,hk17,hk27,hk32,hwt,simprocAttr];refine Loop.countI (F:=F7) hTL7 mo sl.length (fun k=>Inv7 (st k) k)
  (fun k=>[(1,.i .u8 turn),(2,.p 0 0),(5,.p 1 0),(7,.i .i64 rd),(8,.fz (rows I1 sl) sl.length),(9,.i .i64 (st k).c),(10,.m 2),(45,.fz (rows I1 sl) sl.length),(46,.i .i64 (sl.length:Int)),(47,.i .i64 (k:Int))])
  (fun k=>[(2,mBk (st k).m),(1,{cells:=(st k).h.a}),(0,{cells:=[.i .u16 sq0,.i .u16 tr,.fz (rows Ev.l ev) ev.length]})]) 3 (by decide) ?_ ?_ ?_ (fun k hk ho=> ?_)
 ·rw [hs0];exact ⟨by simp only [goodH,headH,hnb];rfl,rfl,rfl,htr.1,by show tr<=_;omega,by show tr=tr % 65536;omega,Int.le_refl _,Int.le_refl _,fun x hx=>(by cases hx),List.nodup_nil,fun x hx=>(by cases hx)⟩
 ·rw [hs0];simp (maxSteps:=400000) only [go_sem,AV.bel,belL,nblt,irB,simprocAttr]
 ·rw [hs0];simp (maxSteps:=400000) only [go_sem,AV.bel,belL,nblt,mBk,mC,Hs.a,erb,simprocAttr];exact ⟨rfl,rfl,rfl,rfl⟩
 dsimp only [F7,TL7];by_cases hlt:k<sl.length
 rotate_left
 ·have c1:decide ((k:Int)<(sl.length:Int))=false:=decide_eq_false (by omega)
  obtain rfl:k=sl.length:=by omega
  simp (maxSteps:=400000) only [go_sem,c1,simprocAttr];exact Ends.pureE rfl rfl
 have c1:decide ((k:Int)<(sl.length:Int))=true:=decide_eq_true (by omega)
 have c2:decide (0<=(k:Int)/\(k:Int)<(sl.length:Int))=true:=decide_eq_true (by omega)
 have c3:decide (0<=(k:Int)/\(k:Int)<(ev.length:Int))=true:=decide_eq_true (by omega)
 have hw:IntKind.i64.wrap ((k:Int)+1)=((k+1:Nat):Int):=by rw [wrapL (by omega) (by omega)];omega
 obtain ⟨x,hx⟩: ∃x,ev[k]? =some x:=⟨_,List.getElem?_eq_getElem (by omega)⟩
 have hr0:(rows Ev.l ev)[k*3]? =some (.i .u8 x.wh):=by
  have:=rows_get (f:=Ev.l) (z:=3) (j:=0) (v:= .i .u8 x.wh) Ev.len hx rfl;simpa using this
 have hr1:(rows Ev.l ev)[k*3+1]? =some (.i .u16 x.wa):=rows_get (f:=Ev.l) (z:=3) (j:=1) (v:= .i .u16 x.wa) Ev.len hx rfl;have hr2:(rows I1 sl)[k*1]? =some (.i .i64 (sqn k)):=rows_get (f:=I1) (z:=1) (j:=0) (v:= .i .i64 (sqn k)) I1.len (hsg k hlt) rfl;rw [Nat.mul_one] at hr2;have hxr:=Ev.rng (hev x (List.mem_of_getElem? hx));have hn:=hst k;rw [evN_at hx] at hn;replace hsr:=hsr k;generalize sqn k=q at hn hr2 hsr;generalize hs1:st (k+1)=s1 at hn ⊢;generalize hsk:st k=s at hn ho ⊢;subst hn;clear hs1 hsk hst hs0 st hsg sqn;have t1:0<=x.wa.tmod 700/\x.wa.tmod 700<700:=by rw [Int.tmod_eq_emod_of_nonneg (by omega)];omega
 have t2:0<=x.wh.tmod 3/\x.wh.tmod 3<3:=by rw [Int.tmod_eq_emod_of_nonneg (by omega)];omega
 have m1:IntKind.u16.wrap (x.wa.tmod 700)=x.wa.tmod 700:=by rw [wrapU16];omega
 have m2:IntKind.i64.wrap (x.wa.tmod 700)=x.wa.tmod 700:=wrapL (by omega) (by omega)
 have m3:IntKind.u8.wrap (x.wh.tmod 3)=x.wh.tmod 3:=by rw [wrapU8];omega
 have hti0:=ho.ti0;have hti:=ho.ti;have hc0:=ho.c0;have hc1:=ho.c1;obtain ⟨hs,c,m⟩:=s;dsimp only at hti0 hti hc0 hc1 ⊢;have m4:IntKind.i64.wrap (hs.ti+x.wa.tmod 700)=hs.ti+x.wa.tmod 700:=wrapL (by omega) (by omega)
 generalize hnow:hs.ti+x.wa.tmod 700=now at m4 ⊢;have hnk:now<=700*((k+1:Nat):Int):=by omega
 have hn0:hs.ti<=now:=by omega
 have hK:k<=1000:=by omega
 have hfin:=inv_fin ho;have hll:=goodH_len ho.g;dsimp only at hfin hll;have hld:decide (hs.l.length<=9223372036854775807)=true:=decide_eq_true (by omega)
 have hq:=inI_of hsr;have hk34: ∀(h:Hp) n,k34q [.i .i64 q] h n=some (true,{v:= .agg (pkS q).l,n}):=fun h n=>by simp only [k34q,hq]
 have hk33: ∀(h:Hp) n,k33 [.agg hs.a,.i .i64 now,.agg (pkS q).l] h n=some (true,{v:=rsH (keepS hs now (pkS q)),n}):=fun h n=>by
  simp only [k33,hsA_a,md9_l,Option.bind_some,hld,hfin,pk_fin,Bool.and_self]
 obtain ⟨wh,wa,sp⟩:=x;dsimp only at*;have hlb: ∀j,belL j (rows Kp.l hs.l)=true:=fun j=>krB j hs.l;have hmb:=mC_bel m;cases hb:(wh.tmod 3 !=0)
 ·rw [cond_false];obtain ⟨W,hW⟩: ∃W:Nat,W=(min sl.length (1+turn.tmod 40).toNat):=⟨_,rfl⟩;rw [<-hW];have u0:0<=turn.tmod 40/\turn.tmod 40<40:=by rw [Int.tmod_eq_emod_of_nonneg (by omega)];omega
  have u1:IntKind.i64.wrap turn=turn:=wrapL (by omega) (by omega)
  have u2:IntKind.i64.wrap (turn.tmod 40)=turn.tmod 40:=wrapL (by omega) (by omega)
  have u3:IntKind.i64.wrap (1+turn.tmod 40)=1+turn.tmod 40:=wrapL (by omega) (by omega)
  have u4:min (sl.length:Int) (1+turn.tmod 40)=(W:Int):=by omega
  have hWl:W<=sl.length:=by omega
  have u5:decide (0<=(W:Int)/\(W:Int)<=(sl.length:Int))=true:=decide_eq_true (by omega)
  have hwl:(sl.take W).length=W:=by rw [List.length_take];omega
  have hun:unrows 1 intV W ((rows I1 sl).take W)=some (sl.take W):=by
   have e1:=rows_take (f:=int1) (z:=1) int1_len sl W;rw [Nat.mul_one] at e1;have e2:=in_un (sl.take W);rw [hwl,<-e1] at e2;exact e2
  obtain ⟨h2,o,hE,hg2,hl2,ho64,hout,hinv⟩:=inv_ans ho hn0 hnk hK (rd:=rd) (by omega) (want:=sl.take W) (fun n hn=>hsm n (List.mem_of_mem_take hn)) (by omega)
  dsimp only at hE hl2 hout hinv;have hae:ans7 ⟨hs,c,m⟩ now rd (sl.take W)=⟨h2,c+(o.length:Int),mAt m now o o.length⟩:=by
   show (⟨(ansS hs now rd _).1,_,_⟩:S7)=_;rw [hE]
  rw [hae];have hib: ∀j,belL j (rows I1 sl)=true:=irB (l:=sl);have hW1:decide (W<=9223372036854775807)=true:=decide_eq_true (by omega)
  have hW2:decide (W<=1000000000000)=true:=decide_eq_true (by omega)
  have hk37: ∀(h:Hp) n,k37c [.agg hs.a,.i .i64 now,.i .i64 rd,.fz (rows I1 sl) W] h n=some (true,{v:=rsA (h2,o,0),n}):=fun h n=>by
   simp only [k37c,hsA_a,hun,Option.bind_some,hld,hfin,hW1,hib,Bool.and_self,hE]
  have hfin2:=finH_f (inv_fin hinv);have hll2:=goodH_len hg2;dsimp only at hfin2;have hld2:decide (h2.l.length<=9223372036854775807)=true:=decide_eq_true (by omega)
  have hk35: ∀(h:Hp) n,k35 [.agg h2.a] h n=some (true,{v:= .i .i64 0,n}):=fun h n=>by
   simp only [k35,hsA_a,Option.bind_some,hld2,hfin2,Bool.and_self,hg2,if_true]
  have cl:((h2.l.length:Int) !=(hs.l.length:Int))=false:=by rw [hl2];simp
  have hlb2: ∀j,belL j (rows Kp.l h2.l)=true:=fun j=>krB j h2.l;have hob: ∀j,belL j (rows Md.l o)=true:=fun j=>mrB j o;have hku:=kp_un hs.l;have hlk:decide (hs.l.length<=1000000000000)=true:=decide_eq_true (by omega)
  have hnI:inI 0 TT now=true:=inI_of (by simp only [TT];omega)
  have hgk:=(goodH_k (h:=hs) (now:=now) (by unfold lateH;rw [ho.g,show inI hs.ti 1099511627776 now=true from inI_of (by omega)];rfl)).1
  have hal:(hs.l.all fun x=>inI 0 TT x.ti)=true:=by
   rw [List.all_eq_true] at hgk ⊢;intro x hx;have:=hgk x hx;simp only [okK,Bool.and_eq_true] at this;exact this.2
  have hnT:now<=1000000:=by omega
  clear hE hae hgk hk33;simp only [Hs.a,rsA] at hk37 hk35 ⊢;have hmb3:=fun j=>mC_bel (mAt m now o j);simp (maxSteps:=400000) only [go_sem,c1,c2,c3,hr0,hr1,hr2,m1,m2,m3,m4,hnow,hb,hw,hlt,u1,u2,u3,u4,u5,hk37,hk35,cl,Nat.mul_one,simprocAttr];refine Loop.countI (F:=F7) hTL7 mo o.length (fun _=>True)
   (fun j=>[(1,.i .u8 turn),(2,.p 0 0),(5,.p 1 0),(7,.i .i64 rd),(8,.fz (rows I1 sl) sl.length),(9,.i .i64 (c+(j:Int))),(10,.m 2),(13,.p 3 0),(16,.fz (rows I1 sl) W),(17,.p 4 0),(45,.fz (rows I1 sl) sl.length),(46,.i .i64 (sl.length:Int)),(47,.i .i64 (k:Int)),(144,.fz (rows Md.l o) o.length),(145,.i .i64 (o.length:Int)),(146,.i .i64 (j:Int))])
   (fun j=>[(4,{cells:=[.i .i64 h2.ti,.i .i64 h2.ss,.i .i64 h2.ty,.i .i64 h2.nx,.fz (rows Kp.l h2.l) h2.l.length]}),(3,{cells:=[.i .i64 now]}),(2,mBk (mAt m now o j)),(1,{cells:=[.i .i64 hs.ti,.i .i64 hs.ss,.i .i64 hs.ty,.i .i64 hs.nx,.fz (rows Kp.l hs.l) hs.l.length]}),(0,{cells:=[.i .u16 sq0,.i .u16 tr,.fz (rows Ev.l ev) ev.length]})]) 5 (by decide) trivial ?_ ?_ (fun j hj _=> ?_)
  ·simp (maxSteps:=400000) only [go_sem,Int.add_zero,AV.bel,belL,nblt,hib,hob,simprocAttr]
  ·rw [mAt_0];simp (maxSteps:=400000) only [go_sem,mBk,AV.bel,belL,nblt,hlb,hlb2,hmb,erb,simprocAttr]
  dsimp only [F7,TL7];by_cases hjl:j<o.length
  rotate_left
  ·have d1:decide ((j:Int)<(o.length:Int))=false:=decide_eq_false (by omega)
   obtain rfl:j=o.length:=by omega
   simp (maxSteps:=400000) only [go_sem,d1,hw,hlt,mBk,AV.bel,belL,nblt,hlb,hlb2,hmb3,erb,hib,Nat.mul_one,simprocAttr];exact hinv
  obtain ⟨x,hx⟩: ∃x,o[j]? =some x:=⟨_,List.getElem?_eq_getElem hjl⟩;obtain ⟨y,hO⟩:=hout j x hx;have d1:decide ((j:Int)<(o.length:Int))=true:=decide_eq_true (by omega)
  have d2:decide (0<=(j:Int)/\(j:Int)<(o.length:Int))=true:=decide_eq_true (by omega)
  have hw3:IntKind.i64.wrap ((j:Int)+1)=((j+1:Nat):Int):=by rw [wrapL (by omega) (by omega)];omega
  have hw4:IntKind.i64.wrap (c+(j:Int)+1)=c+((j+1:Nat):Int):=by rw [wrapL (by omega) (by omega)];omega
  have hrx:List.take 9 (List.drop (j*9) (rows Md.l o))=x.l:=rows_at Md.len hx;have hyi:=inI_of ⟨hO.q0,hO.q1⟩;have hk38: ∀(h:Hp) n,k38 [.agg x.l,.i .i64 1,.i .i64 96] h n=some (true,{v:= .tup [.agg (pkS y).l,.i .i64 0],n}):=fun h n=>by
   simp only [k38,md9_l,Option.bind_some,hO.fin,hO.or,rsM]
  have hk34: ∀(h:Hp) n,k34q [.i .i64 y] h n=some (true,{v:= .agg (pkS y).l,n}):=fun h n=>by simp only [k34q,hyi]
  have hk36: ∀(h:Hp) n,k36 [.agg (pkS y).l,.agg (pkS y).l] h n=some (true,{v:= .b true,n}):=fun h n=>by
   simp only [k36,md9_l,Option.bind_some,if_true];rfl
  have hk39: ∀(h:Hp) n,k39 [.fz (rows I1 sl) W,.i .i64 y] h n=some (true,{v:= .b true,n}):=fun h n=>by
   simp only [k39,hun,Option.bind_some,hW2,hib,decide_eq_true hO.wn,Bool.and_self]
  have hk40: ∀(h:Hp) n a b,hget h a=some {cells:=(pkS y).l}->hget h b=some {cells:=[.i .i64 now]}->k40t [.fz (rows Kp.l hs.l) hs.l.length,.fn 41 [.p a 0,.p b 0]] h n=some (true,{v:= .b true,n,rd:=[a,b]}):=fun h n a b ha hb=>by
   simp only [k40t,vwK_rows Kp.len,hku,Option.bind_some,ha,hb,oneM,oneB,md9_l,hlk,hnI,hal,Bool.and_self,pk_sq,hO.it]
  have f0:andI .i64 (c+(j:Int)) 65535=(c+(j:Int)) % 65536:=and16 _ (by omega) (by omega)
  have f1:(x.sq !=(c+(j:Int)) % 65536)=false:=by rw [hO.sq];simp
  have f2:(x.ss !=7)=false:=by rw [hO.ss];rfl
  have f3:(x.ty !=97)=false:=by rw [hO.ty];rfl
  have x1:x.l[1]? =some (.i .i64 x.ty):=rfl;have x2:x.l[2]? =some (.i .i64 x.sq):=rfl;have x4:x.l[4]? =some (.i .i64 x.ss):=rfl;have x9:x.l.length=9:=rfl;have xb: ∀j,belL j x.l=true:=fun j=>belL_mono0 _ (Md.bel x);have xo:oneAll x.l=true:=rfl;have xd:List.take 9 (List.drop 0 x.l)=x.l:=rfl;have yo:oneAll (pkS y).l=true:=rfl;have yd:List.take 9 (List.drop 0 (pkS y).l)=(pkS y).l:=rfl;have y2:(pkS y).l[2]? =some (.i .i64 y):=rfl;have y9:(pkS y).l.length=9:=rfl;have yb: ∀j,belL j (pkS y).l=true:=fun j=>belL_mono0 _ (Md.bel _);have hoq:oqS x=y:=by unfold oqS;rw [hO.or];rfl
  have hm1:=mAt_s (m:=m) (now:=now) hx;rw [hoq] at hm1;have hmp:=hO.mp;have hmb4:=hmb3 j;have hmb5:=hmb3 (j+1);generalize mAt m now o (j+1)=m5 at hm1 hmb5 ⊢;generalize mAt m now o j=m4 at hm1 hmb4 hmp ⊢;have hfn:=fnd_i (mK m4) y;have hcl:(mC m4).length=(mK m4).length:=by simp [mC]
  have hidx:(∃i t,(mK m4).findIdx? (y== ·)=some i/\(mC m4)[i]? =some (.i .i64 t)/\0<=t/\now-t>=rd/\(mC m4).set i (.i .i64 now)=mC m5/\mK m4=mK m5)\/((mK m4).findIdx? (y== ·)=none/\mK m4++[y]=mK m5/\mC m4++[.i .i64 now]=mC m5):=by
   subst hm1;cases hf:(mK m4).findIdx? (y== ·) with
   |none=>
    obtain ⟨_,a2,a3,_⟩:=mix_n now hf;exact .inr ⟨rfl,a2.symm,by unfold mC;rw [a3,List.map_append];rfl⟩
   |some i=>
    obtain ⟨a1,a2,a3,a4,_,_⟩:=mix_s now hf;have hil:i<(mV m4).length:=by simpa using a2
    rw [List.getElem?_eq_getElem hil] at a1;obtain ⟨b1,b2⟩:=hmp _ a1;refine .inl ⟨i,(mV m4)[i],rfl,?_,b1,b2,?_,a3.symm⟩
    ·unfold mC;rw [List.getElem?_map,List.getElem?_eq_getElem hil];rfl
    ·unfold mC;rw [a4,List.map_set]
  clear hm1 hmp hO hout hun hoq hx;generalize (pkS y).l=PL at*;generalize x.l=XL at*;generalize x.sq=xq at*;generalize x.ss=xs at*;generalize x.ty=xt at*;dsimp only [mBk];generalize blockK 2 _=K0;generalize mC m5=C5 at*;generalize mK m5=K5 at*;generalize mC m4=C4 at*;generalize mK m4=K4 at*;rcases hidx with ⟨i,t,hi,e1,e2,e3,e4,e5⟩|⟨hi,e4,e5⟩
  ·rw [hi] at hfn;obtain ⟨g1,g2⟩:=wrT e2 e3 hrr.1 hnT;subst e5;simp (maxSteps:=400000) only [go_sem,d1,d2,hrx,hw3,hw4,hk38,hk34,hk36,hk39,hk40,f0,f1,f2,f3,x1,x2,x4,x9,xb,xo,xd,y2,y9,yb,yo,yd,hfn,hcl,e1,e4,g1,g2,hjl,hlt,AV.bel,belL,nblt,hlb,hlb2,hmb4,hmb5,erb,hib,hob,Nat.mul_one,simprocAttr]
  ·rw [hi] at hfn;simp (maxSteps:=400000) only [go_sem,d1,d2,hrx,hw3,hw4,hk38,hk34,hk36,hk39,hk40,f0,f1,f2,f3,x1,x2,x4,x9,xb,xo,xd,y2,y9,yb,yo,yd,hfn,hcl,e4,e5,hjl,hlt,AV.bel,belL,nblt,hlb,hlb2,hmb4,hmb5,erb,hib,hob,Nat.mul_one,simprocAttr]
 ·rw [cond_true];have hme:keep7 ⟨hs,c,m⟩ now q=bif (keepS hs now (pkS q)).2==0 then ⟨(keepS hs now (pkS q)).1,c,mdel q m⟩ else ⟨hs,c,m⟩:=rfl
  rw [hme];rcases inv_keep ho hn0 hnk hK hsr with e|⟨l',e,hg2,hinv⟩
  ·rw [e] at hk33 ⊢;rw [show (((zH,(10:Int)):Hs×Int).2==0)=false from rfl,cond_false]
   have ho2:Inv7 ⟨hs,c,m⟩ (k+1):=⟨ho.g,ho.ss,ho.ty,ho.c0,by show c<=_;omega,ho.nx,ho.ti0,by show hs.ti<=_;omega,ho.pk,ho.nd,ho.ak⟩
   simp only [rsH,zH,Hs.a] at hk33 ⊢;generalize (pkS q).l=PL at*;obtain ⟨ti,ss,ty,nx,l⟩:=hs;dsimp only [mBk] at*;generalize mC m=C at*;generalize mK m=K at*;simp (maxSteps:=400000) only [go_sem,c1,c2,c3,hr0,hr1,hr2,m1,m2,m3,m4,hnow,hb,hk33,hk34,hw,hlt,AV.bel,belL,nblt,hlb,hmb,erb,irB,Nat.mul_one,simprocAttr];exact ho2
  ·rw [e] at hk33 ⊢;rw [show (((⟨now,hs.ss,hs.ty,hs.nx,l'++[⟨pkS q,now,-1⟩]⟩,(0:Int)):Hs×Int).2==0)=true from rfl,cond_true]
   have hfin2:=finH_f (inv_fin hinv);have hll2:=goodH_len hg2;obtain ⟨L2,hL2⟩: ∃L2,L2=l'++[(⟨pkS q,now,-1⟩:Kp)]:=⟨_,rfl⟩;have hlast:L2[L2.length-1]? =some ⟨pkS q,now,-1⟩:=by rw [hL2];simp
   have hpos:0<L2.length:=by rw [hL2];simp
   rw [<-hL2] at hk33 hg2 hinv hfin2 hll2 ⊢;dsimp only at hfin2 hll2;have hld2:decide (L2.length<=9223372036854775807)=true:=decide_eq_true (by omega)
   have hk35: ∀(h:Hp) n,k35 [.agg (Hs.a ⟨now,hs.ss,hs.ty,hs.nx,L2⟩)] h n=some (true,{v:= .i .i64 0,n}):=fun h n=>by
    simp only [k35,hsA_a,Option.bind_some,hld2,hfin2,Bool.and_self,hg2,if_true]
   have hk36: ∀(h:Hp) n,k36 [.agg (pkS q).l,.agg (pkS q).l] h n=some (true,{v:= .b true,n}):=fun h n=>by
    simp only [k36,md9_l,Option.bind_some,if_true];rfl
   have hr9:List.take 9 (List.drop ((L2.length-1)*11) (rows Kp.l L2))=(pkS q).l:=by
    have h2:=congrArg (List.take 9) (kp_at hlast);rw [List.take_take] at h2;exact h2
   have hw2:IntKind.i64.wrap ((L2.length:Int)-1)=((L2.length-1:Nat):Int):=by rw [wrapL (by omega) (by omega)];omega
   have cz:((L2.length:Int)==0)=false:=beq_eq_false_iff_ne.2 (by omega)
   have ci:decide (0<=((L2.length-1:Nat):Int)/\((L2.length-1:Nat):Int)<(L2.length:Int))=true:=decide_eq_true (by omega)
   have hlb2: ∀j,belL j (rows Kp.l L2)=true:=fun j=>krB j L2;have hmb2:=mC_bel (mdel q m);simp only [rsH,Hs.a] at hk33 hk35 ⊢;have hfn:=fnd_i (mK m) q;have hidx:(∃i,(mK m).findIdx? (q== ·)=some i/\(mK m).eraseIdx i=mK (mdel q m)/\(mC m).eraseIdx i=mC (mdel q m))\/((mK m).findIdx? (q== ·)=none/\mdel q m=m):=by
    cases hf:(mK m).findIdx? (q== ·) with
    |none=>exact .inr ⟨rfl,(mix_n 0 hf).2.2.2⟩
    |some i=>
     obtain ⟨_,_,_,_,a5,a6⟩:=mix_s 0 hf;refine .inl ⟨i,rfl,a5.symm,?_⟩;unfold mC;rw [a6,mapE]
   have hpl:(pkS q).l.length=9:=rfl;generalize (pkS q).l=PL at*;rcases hidx with ⟨i,hi,e1,e2⟩|⟨hi,e1⟩
   ·rw [hi] at hfn;obtain ⟨ti,ss,ty,nx,l⟩:=hs;dsimp only [mBk] at*;generalize mC (mdel q m)=C2 at*;generalize mK (mdel q m)=K2 at*;generalize mC m=C at*;generalize mK m=K at*;simp (maxSteps:=400000) only [go_sem,c1,c2,c3,hr0,hr1,hr2,m1,m2,m3,m4,hnow,hb,hk33,hk34,hk35,hk36,hr9,hpl,hw2,cz,ci,hfn,e1,e2,hw,hlt,AV.bel,belL,nblt,hlb,hlb2,hmb,hmb2,erb,irB,Nat.mul_one,simprocAttr];exact hinv
   ·rw [hi] at hfn;rw [e1] at hinv ⊢;obtain ⟨ti,ss,ty,nx,l⟩:=hs;dsimp only [mBk] at*;generalize mC m=C at*;generalize mK m=K at*;simp (maxSteps:=400000) only [go_sem,c1,c2,c3,hr0,hr1,hr2,m1,m2,m3,m4,hnow,hb,hk33,hk34,hk35,hk36,hr9,hpl,hw2,cz,ci,hfn,hw,hlt,AV.bel,belL,nblt,hlb,hlb2,hmb,hmb2,erb,irB,Nat.mul_one,simprocAttr];exact hinv
end Go.Proofs.Res
