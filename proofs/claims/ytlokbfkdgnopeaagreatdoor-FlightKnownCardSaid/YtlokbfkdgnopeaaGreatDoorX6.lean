/- Texts laid as one: AbInsL AbDfr3 AbLoopS AbVwN FltS FltJ FltD FltJ2 FlzIR FlzC1 FltSnd. -/
import Derived.Test.YtlokbfkdgnopeaaGreatDoorX5
import Derived.Test.YtlokbfkdgnopeaaGreatDoorProg
set_option maxRecDepth 100000
set_option maxHeartbeats 4000000
set_option linter.unusedSimpArgs false
set_option linter.unusedVariables false
namespace Go.Ab
def ovlK2:Ct
 |[.fz L m,.sl b o len cap],h,n=>(hget h b).bind fun k=>some (decide (0<L.length)&& !k.ro&&(match k.gr with|some z'=> !(Nat.beq z' 1)|none=>true)&&decide (o<k.cells.length),{v:= .b false,n,rd:=[b]})
 |_,_,_=>none
theorem ovl2_ok {P:Program} {f:FuncId} {fn:Func} (hfy:f≠YB) (hf:P.funcs[f]? =some fn) (hname:(fn.name== "runtime.NumGoroutine")=false) (hb:fn.body.isNone=true) (hn:Extern.findNext fn=none) (he:Extern.find fn=some (Extern.SlicesOverlaps.overlaps fn.params fn.resultTypes))
 (hT:ovlT P fn=true):SoundAt P f ovlK2:=fun args h n c E hc hct=>by
 obtain ⟨t,e,z,h0,ht,hz⟩: ∃t e z,fn.params[0]? =some t/\P.underlying t=some (.slice e)/\tySz P e=some z:=by
  unfold ovlT at hT;split at hT
  ·rename_i t ht;split at hT
   ·rename_i e he;obtain ⟨z,hz⟩:=Option.isSome_iff_exists.1 hT;exact ⟨t,e,z,ht,he,hz⟩
   ·cases hT
  ·cases hT
 unfold ovlK2 at hc;split at hc
 ·rename_i L m b o len cap;simp only [Option.bind_eq_some_iff,Option.some.injEq,Prod.mk.injEq] at hc;obtain ⟨k,hk,h1,rfl⟩:=hc;rw [hct] at h1;simp only [Bool.and_eq_true,decide_eq_true_eq,Bool.not_eq_true'] at h1;obtain ⟨⟨⟨hL,hro⟩,hgr⟩,ho⟩:=h1;have hext:ext P f=true:=by unfold ext;rw [hf];exact hb
  refine ⟨by unfold callable;rw [hf];simp [hb],Nat.le_refl _,fun b r hb=>by simp [mget] at hb,fun b k hb=>by simp [hget] at hb,fun D φ w us hfresh hH hA=> ?_⟩
  have hin:inl [b] b=true:=by simp [inl]
  have hkk:only (hget h) [b] b=some k:=by rw [only_get hin];exact hk
  obtain ⟨u1,us1,rfl,hv1,hA1⟩:=hA.uncons;obtain ⟨u2,us2,rfl,hv2,hA2⟩:=hA1.uncons;rw [hA2.unnil];obtain ⟨_,⟨⟨vs,elem,fr,q1,q2,q3,q4⟩,_⟩⟩:=hH.at_ b k hkk;have hgr':k.gr≠some 1:=fun e=>by rw [e] at hgr;cases hgr
  have hos:φ.off b+o<vs.size:=by
   obtain ⟨u,hu,_⟩:=q2 o _ (List.getElem?_eq_getElem ho);rcases Nat.lt_or_ge (φ.off b+o) vs.size with h'|h'
   ·exact h'
   ·rw [Array.getElem?_eq_none h'] at hu;cases hu
  have key: ∀a ca,(m≠0-> ∃a',a=some a'/\a'.block≠φ.blk b/\ ∃vs el fr,w.heap[a'.block]? =some (.cells vs el fr)/\vs.size≠0)→
   (callFunc f #[.slice a m ca,.slice (some ⟨φ.blk b,φ.off b+o,none⟩) len cap]).run P w= .ok (.value (.bool false)) w:=fun a ca ha=>by
   rw [run_callFunc_extern hf hname hb hn he,run_overlaps_plain w t e fn.resultTypes fn.params h0 ht z hz _ _ _ _ _ _ (fun hm hl=> ?_)]
   ·rfl
   ·obtain ⟨a',rfl,g1,g2⟩:=ha hm;exact ⟨a',_,rfl,rfl,g1,g2,vs,elem,fr,q1,(q3 hro).2 _ (.inl hos),(q3 hro).2 _ (.inr ⟨rfl,hgr'⟩)⟩
  have fin: ∀u1,(∃a ca,u1= .slice a m ca/\(m≠0-> ∃a',a=some a'/\a'.block≠φ.blk b/\ ∃vs el fr,w.heap[a'.block]? =some (.cells vs el fr)/\vs.size≠0))->Ans P f [u1,.slice (some ⟨φ.blk b,φ.off b+o,none⟩) len cap].toArray w fun e w'=> ∃u φ',e= .returned u/\VRel (Dn D n n) φ' (.b false) u/\Stp D φ (only (hget h) [b]) w (Dn D n n) φ' (Eff.app {v:= .b false,n,rd:=[b]} (only (hget h) [b])) w'∧
   (∀b' k,Eff.app {v:= .b false,n,rd:=[b]} (only (hget h) [b]) b'=some k->k.ro=true->only (hget h) [b] b'=some k):=fun u1 hu=>by
   obtain ⟨a,ca,rfl,ha⟩:=hu;refine Ans.of_ext hfy hext (key a ca ha) ?_;have e:(Eff.app {v:= .b false,n,rd:=[b]} (only (hget h) [b]))=only (hget h) [b]:=by funext b;rfl
   rw [e];have hd: ∀b,D b->Dn D n n b:=fun b h=> .inl h;refine ⟨_,φ,rfl,.b _,?_,fun b' k hb _=>hb⟩;have hR:=hH.grow hd;exact ⟨hd,Agree.refl _ _,hR,FRM.refl _ _ _,fun b k hb hk=> .inr ⟨b,k,hb,hk,rfl⟩,fun _ _ h=> .inl h⟩
  cases hv2 with
  |sl _ _ _ _ hD=>
  cases hv1 with
  |fz0 _ x ca hc0=>exact fin _ ⟨x,ca,rfl,fun h=>absurd rfl h⟩
  |fz _ _ B p ca vs1 hB hcap hs hh=>
   obtain ⟨e1,f1,g1⟩:=hH.fz B vs1 hB;exact fin _ ⟨_,ca,rfl,fun _=>⟨_,rfl,fun e=>hH.fsep b k B vs1 hkk hro hB e.symm,vs1,e1,f1,g1,by have:=hs 0 hL;omega⟩⟩
 ·cases hc
def InsL (P:Program) (f:FuncId) (post:List AV) (z c m m':Nat) (cs cs':List AV):Prop:= ∀p,
 (m'<=c/\ ∃T,FTL P f (.sl 0 p m c::post) [(0,{cells:=anys p++(cs++anys ((c-m)*z)),gr:=some z})] 1 (.sl 0 p m' c) [(0,{cells:=anys p++(cs'++T),gr:=some z})] 1)∨
 FTL P f (.sl 0 p m c::post) [(0,{cells:=anys p++(cs++anys ((c-m)*z)),gr:=some z})] 1 (.sg 1 0 m') [(1,{cells:=cs',gr:=some z})] 2
theorem gv_relG {D:Nat->Prop} {φ:Phi} {h:Hp} {w:World} {z:Nat} {b o m:Nat} {u:Value} {cs:List AV} {rd:List Nat} {b':Nat} (hH:HR D φ (only (hget h) (b::rd)) w) (hx:VRel D φ (.sg b o m) u) (hg:gvK h z (.sg b o m)=some (b',m,cs,true)):
 cs.length=m*z/\ ∃k p c elem fr vs,hget h b=some k/\k.ro=false/\m<=c/\u= .slice (some ⟨φ.blk b,p,none⟩) m c/\w.heap[φ.blk b]? =some (.cells vs elem fr)/\vs.size=p+c*z∧
  (∀(i:Nat) (a:AV),cs[i]? =some a-> ∃u,vs[p+i]? =some u/\VRel D φ a u)/\(z≠1-> ∀i,i<=vs.size-> ¬(fr.1<=i/\i<fr.2)):=by
 have hin:inl (b::rd) b=true:=by simp [inl]
 cases hx with
 |sg _ _ _ j cap hD hj hcap hlen=>
  simp only [gvK_g,Option.bind_eq_some_iff,Option.some.injEq,Prod.mk.injEq,Bool.and_eq_true,Bool.not_eq_true',decide_eq_true_eq] at hg;obtain ⟨k,hk,rfl,_,rfl,⟨hro,hgr⟩,hl⟩:=hg;have hkk:only (hget h) (b::rd) b=some k:=by rw [only_get hin];exact hk
  obtain ⟨_,⟨⟨vs,elem,fr,q1,q2,q3,q4⟩,_⟩⟩:=hH.at_ b k hkk;split at hgr
  ·rename_i z' hz';have hz:=Nat.eq_of_beq_eq_true hgr;subst hz;obtain ⟨_,hes,hsz⟩:=q4 z hz';have ho:φ.cap b*z=o+cap*z:=by rw [<-hcap,Nat.add_mul,<-hj,hes]
   refine ⟨hl,k,φ.off b+o,cap,elem,fr,vs,hk,hro,hlen,rfl,q1,by omega,fun i a ha=> ?_,fun h1 i hi=>(q3 hro).2 i (by rw [hz'];rcases Nat.lt_or_ge i vs.size with h'|h';exact .inl h';exact .inr ⟨Nat.le_antisymm hi h',by simpa using h1⟩)⟩
   simp only [cellsAt,List.getElem?_take,List.getElem?_drop] at ha;split at ha
   ·obtain ⟨u,h1,h2⟩:=q2 _ a ha;exact ⟨u,by rw [Nat.add_assoc];exact h1,h2⟩
   ·cases ha
  ·cases hgr
theorem CallOK.liveG {P:Program} {f:FuncId} {post postF:List AV} {h:Hp} {n z b o m m':Nat} {cs cs':List AV} {rd:List Nat} (hc:Go.Ab.callable P f=true) (hg:gvK h z (.sg b o m)=some (b,m,cs,true)) (hcs:belL 0 cs=true) (hcs':belL 0 cs'=true)
 (hv:VwL h rd post postF) (hbr:inl rd b=false) (hz0:0<z) (hz1:z≠1) (hw:wrt h rd=true)
 (hf: ∀c,m<=c->InsL P f postF z c m m' cs cs'):CallOK P f (.sg b o m::post) h n {v:= .sg n 0 m',n:=n+1,rd:=b::rd,md:=dels (b::rd),nw:=[(n,{cells:=cs',gr:=some z})]}:=by
 have happ:(Eff.app {v:= .sg n 0 m',n:=n+1,rd:=b::rd,md:=dels (b::rd),nw:=[(n,{cells:=cs',gr:=some z})]} (only (hget h) (b::rd)))=fun c=>if inl (b::rd) c=true then none else if c=n then some {cells:=cs',gr:=some z} else none:=by
  funext c;simp only [Eff.app,mget_dels,only,hget];by_cases hcn:c=n
  ·subst hcn;cases hi:inl (b::rd) c<;>simp
  ·cases hi:inl (b::rd) c<;>simp [beq_ne hcn,hcn]
 refine ⟨hc,Nat.le_succ _,fun b' r hb=>(by rw [mget_dels] at hb;split at hb;assumption;cases hb),fun c kk hc=> ?_,fun D φ w us hfresh hH hA=> ?_⟩
 ·simp only [hget] at hc;by_cases hcn:c=n
  ·subst hcn;show c<=c/\c<c+1;omega
  ·rw [beq_ne hcn] at hc;cases hc
 have hnD: ¬D n:=hfresh n (Nat.le_refl _) (Nat.lt_succ_self _);obtain ⟨ux,us',rfl,hx,hA'⟩:=hA.uncons;obtain ⟨hcl,k,p,c,elem,fr,vs,hk,hro,hmc,rfl,q1,q2,q3,q4⟩:=gv_relG hH hx hg;have q4:=q4 hz1;have hin:inl (b::rd) b=true:=by simp [inl]
 have hkk:only (hget h) (b::rd) b=some k:=by rw [only_get hin];exact hk
 have hHr:HR D φ (only (hget h) rd) w:=only_sub hH (fun c hc=>by rw [inl_cons];by_cases e:b=c<;>simp [e,hc])
 let D1:Nat->Prop:=fun x=>x=0;let φ1:Phi:={(φ.frz (only (hget h) rd) w) with blk:=fun _=>φ.blk b,off:=fun _=>p,cap:=fun _=>c,esz:=fun _=>z}
 have hnb: ∀B vs,φ1.fz B=some vs->φ.blk b≠B:=fun B vs hB=>by
  simp only [φ1,Phi.frz] at hB;split at hB
  ·rename_i hex;obtain ⟨b',k',hb',rfl⟩:=hex;have hbb:b≠b':=fun e=>by
    subst e;unfold only at hb';rw [hbr] at hb';cases hb'
   have hb2:only (hget h) (b::rd) b'=some k':=by
    unfold only at hb' ⊢;cases hi:inl rd b'
    ·rw [hi] at hb';cases hb'
    ·rw [inl_cons,if_neg hbb,hi];rw [hi] at hb';exact hb'
   exact hH.sep b b' k k' hbb hkk hb2 hro
  ·exact hH.fsep b k B vs hkk hro hB
 have hfz1: ∀B vs,φ1.fz B=some vs-> ∃elem fr,w.heap[B]? =some (.cells vs elem fr):=fun B vs hB=>by
  simp only [φ1,Phi.frz] at hB;split at hB
  ·exact fzW_spec hB
  ·exact hH.fz B vs hB
 have hup: ∀{a:AV} {u:Value},VRel (fun _=>False) (φ.frz (only (hget h) rd) w) a u->VRel D1 φ1 a u:=fun hv=>VRel.mono' (D:=fun _=>False) (D':=D1) (φ:=φ.frz (only (hget h) rd) w) (φ':=φ1) (fun _ h=>h.elim) (fun _ h=>h.elim) (fun _ _ h=>h) (fun _ _ h=>h) hv;have hcz:m*z+(c-m)*z=c*z:=by rw [<-Nat.add_mul];congr 1;omega
 have hcel: ∀(i:Nat) (a:AV),(anys 0++(cs++anys ((c-m)*z)))[i]? =some a-> ∃u,vs[p+i]? =some u/\VRel D1 φ1 a u:=fun i a ha=>by
  replace ha:(cs++anys ((c-m)*z))[i]? =some a:=ha;have hlt:i<m*z+(c-m)*z:=by
   rcases Nat.lt_or_ge i (cs++anys ((c-m)*z)).length with h'|h'
   ·simp only [List.length_append,anys_len,hcl] at h';omega
   ·rw [List.getElem?_eq_none h'] at ha;cases ha
  have hi:p+i<vs.size:=by omega
  by_cases c2:i<cs.length
  ·rw [List.getElem?_append_left c2] at ha;obtain ⟨u,h1,h2⟩:=q3 _ a ha;refine ⟨u,h1,hup ?_⟩;exact (h2.mono (D':=D) (fun _ h=>h) (Phi.frz_agree hHr D)).bel0 (belL_spec hcs a (List.mem_of_getElem? ha))
  ·rw [List.getElem?_append_right (by omega)] at ha
   cases anys_get ha;exact ⟨vs[p+i],Array.getElem?_eq_getElem hi,.any _⟩
 have hH1:HR D1 φ1 (hget [(0,{cells:=anys 0++(cs++anys ((c-m)*z)),gr:=some z})]) w:=by
  refine ⟨⟨fun b' k' hb'=> ?_,fun b1 b2 k1 k2 hne h1 h2=> ?_⟩,hfz1,hH.lp,fun b' k' B vs' hb' _ hB=>hnb B vs' hB⟩
  ·simp only [hget] at hb';by_cases e:b'=0
   ·subst e;simp at hb';subst hb';refine ⟨rfl,⟨⟨vs,elem,(fr.1,fr.2),q1,fun i v hv=>hcel i v (by simpa using hv),fun _=>⟨fun h=>(by cases h),fun i hi=>q4 i (by rcases hi with hi|⟨hi,_⟩<;>omega)⟩,fun e he=> ?_⟩,fun g hg=>by cases hg⟩⟩
    simp at he;subst he;exact ⟨rfl,rfl,q2⟩
   ·rw [beq_ne e] at hb';cases hb'
  ·simp only [hget] at h1 h2;by_cases e1:b1=0
   ·by_cases e2:b2=0
    ·exact absurd (e1.trans e2.symm) hne
    ·rw [beq_ne e2] at h2;cases h2
   ·rw [beq_ne e1] at h1;cases h1
 have hA1:All2 D1 φ1 (.sl 0 0 m c::postF) (.slice (some ⟨φ.blk b,p,none⟩) m c::us'):=by
  refine .cons ?_ ⟨by rw [<-hv.len];exact hA'.1,fun i a u ha hu=> ?_⟩
  ·have:=VRel.sl (D:=D1) (φ:=φ1) 0 0 m c rfl;simpa [φ1] using this
  ·obtain ⟨a',h1,h2⟩:=hv.get ha;exact hup (h2 D _ φ w u hHr (hA'.2 i a' u h1 hu))
 -- both ends in one form
 have key:Ans P f (Value.slice (some ⟨φ.blk b,p,none⟩) m c::us').toArray w fun e w'=> ∃D' φ2 H2 r k2 cap u,e= .returned u/\Stp D1 φ1 (hget [(0,{cells:=anys 0++(cs++anys ((c-m)*z)),gr:=some z})]) w D' φ2 H2 w'/\H2 r=some k2/\k2.gr=some z/\(∀(i:Nat) (a:AV),cs'[i]? =some a->k2.cells[i]? =some a)/\u= .slice (some ⟨φ2.blk r,φ2.off r,none⟩) m' cap/\cap=φ2.cap r/\m'<=cap:=by
  rcases hf c hmc 0 with ⟨hm',T,hF⟩|hF
  ·refine (hF D1 φ1 w _ (fun b hb=>by cases hb;exact Nat.lt_succ_self _) hH1 hA1).mono fun e w' hx=> ?_
   obtain ⟨D',φ2,u,rfl,hD',hr,hS⟩:=hx;cases hr with
   |sl _ _ _ _ hd=>
    refine ⟨D',φ2,_,0,{cells:=anys 0++(cs'++T),gr:=some z},c,_,rfl,hS,by simp [hget],rfl,fun i a ha=> ?_,rfl,?_,hm'⟩
    ·show (cs'++T)[i]? =some a;rw [List.getElem?_append_left (List.getElem?_eq_some_iff.1 ha).1];exact ha
    ·exact ((hS.agree.at_ 0 rfl).2.2.1).symm
  ·refine (hF D1 φ1 w _ (fun b hb=>by cases hb;exact Nat.lt_succ_self _) hH1 hA1).mono fun e w' hx=> ?_
   obtain ⟨D',φ2,u,rfl,hD',hr,hS⟩:=hx;have hb1:=hS.hr.at_ 1 {cells:=cs',gr:=some z} (by simp [hget])
   obtain ⟨_,⟨⟨vs',elem',fr',r1,r2,r3,r4⟩,_⟩⟩:=hb1;obtain ⟨_,hes,_⟩:=r4 z rfl;cases hr with
   |sg _ _ _ j cap hd hj hcap hl=>
    rw [hes] at hj;have hj0:j=0:=by
     rcases Nat.eq_zero_or_pos j with h|h
     ·exact h
     ·have:=Nat.mul_pos h hz0;omega
    subst hj0;exact ⟨D',φ2,_,1,{cells:=cs',gr:=some z},cap,_,rfl,hS,by simp [hget],rfl,fun i a ha=>ha,rfl,by omega,hl⟩
 refine key.mono fun e w' hx=> ?_;obtain ⟨D',φ2,H2,r,k2,cap,u,rfl,hS,hr2,hgr2,hcell,rfl,hcap,hm'⟩:=hx;obtain ⟨hDr,⟨⟨vs',elem',fr',r1,r2,r3,r4⟩,r5⟩⟩:=hS.hr.at_ r k2 hr2;obtain ⟨hro2,hes2,hsz2⟩:=r4 z hgr2;let φ3:Phi:={blk:=fun x=>if x=n then φ2.blk r else φ.blk x,off:=fun x=>if x=n then φ2.off r else φ.off x,cap:=fun x=>if x=n then φ2.cap r else φ.cap x,esz:=fun x=>if x=n then z else φ.esz x,fz:=φ2.fz,lp:=φ2.lp}
 have ag3: ∀b,D b->φ3.blk b=φ.blk b/\φ3.off b=φ.off b/\φ3.cap b=φ.cap b/\φ3.esz b=φ.esz b:=fun b hb=>by
  have:b≠n:=fun e=>hnD (e▸hb);simp [φ3,this]
 have hst: ∀c,c<w.heap.size->φ.blk b≠c->w'.heap[c]? =w.heap[c]? :=fun c hc hne=>hS.frm.block c hc (fun b' k' hb' _=>by
  simp only [hget] at hb';by_cases e:b'=0
  ·exact hne
  ·rw [beq_ne e] at hb';cases hb')
 have h3: ∀(i:Nat) (a:AV),cs'[i]? =some a-> ∃u,vs'[φ2.off r+i]? =some u/\VRel (Dn D n (n+1)) φ3 a u:=fun i a ha=>by
  obtain ⟨u,hu,hur⟩:=r2 i a (hcell i a ha);refine ⟨u,hu,?_⟩;have h1:VRel (fun _=>False) φ2 a u:=hur.bel0 (belL_spec hcs' a (List.mem_of_getElem? ha));exact VRel.mono' (φ:=φ2) (φ':=φ3) (fun _ h=>h.elim) (fun _ h=>h.elim) (fun _ _ h=>h) (fun _ _ h=>h) h1
 have himg:w.heap.size<=φ2.blk r\/φ.blk b=φ2.blk r:=by
  rcases hS.img r k2 hr2 hro2 with h1|⟨m0,km,h1,_,h2⟩
  ·exact .inl h1
  ·exact .inr h2
 refine ⟨_,φ3,rfl,?_,?_,fun c kk hc hk=> ?_⟩
 ·have:=VRel.sg (D:=Dn D n (n+1)) (φ:=φ3) n 0 m' 0 cap (.inr ⟨Nat.le_refl _,Nat.lt_succ_self _⟩) (by simp) (by simp [φ3,hcap]) hm'
  simpa [φ3] using this
 ·show Stp D φ _ w (Dn D n (n+1)) φ3 (Eff.app _ _) w';rw [happ];have ag1:=Phi.frz_agree hHr D;have get: ∀{c kk},(if inl (b::rd) c=true then none else if c=n then some {cells:=cs',gr:=some z} else none:Option Blk)=some kk->c=n/\kk={cells:=cs',gr:=some z}:=fun {c kk} hc=>by
   split at hc
   ·cases hc
   ·split at hc
    ·rename_i e;cases hc;exact ⟨e,rfl⟩
    ·cases hc
  refine ⟨fun b h=> .inl h,⟨ag3,fun B vs hB=>hS.agree.fz B vs (ag1.fz B vs hB),hS.agree.lp⟩,⟨⟨fun c kk hc=> ?_,fun b1 b2 k1 k2 hne h1 h2 _=>absurd ((get h1).1.trans (get h2).1.symm) hne⟩,hS.hr.fz,hS.hr.lp,fun c kk B vs hc _ hB=> ?_⟩,
   ⟨hS.frm.os,hS.frm.tape,hS.frm.output,hS.frm.size,fun c hc hne=>hst c hc (hne b k hkk hro)⟩,fun c kk hc _=> ?_,fun B vs hB=> ?_⟩
  ·obtain ⟨rfl,rfl⟩:=get hc;refine ⟨.inr ⟨Nat.le_refl _,Nat.lt_succ_self _⟩,⟨⟨vs',elem',fr',by simpa [φ3] using r1,fun i v hv=> ?_,fun _=>⟨fun h=>(by cases h),fun i hi=>(r3 hro2).2 i (by rw [hgr2];exact hi)⟩,fun e he=> ?_⟩,fun g hg=>by cases hg⟩⟩
   ·obtain ⟨u,h1,h2⟩:=h3 i v hv;exact ⟨u,by simpa [φ3] using h1,h2⟩
   ·simp at he;subst he;exact ⟨rfl,by simp [φ3],by simpa [φ3] using hsz2⟩
  ·obtain ⟨rfl,rfl⟩:=get hc;have:=hS.hr.fsep r k2 B vs hr2 hro2 hB;simpa [φ3] using this
  ·obtain ⟨rfl,rfl⟩:=get hc;rcases himg with h1|h1
   ·left;simpa [φ3] using h1
   ·right;exact ⟨b,k,hkk,hro,by simpa [φ3] using h1⟩
  ·rcases hS.fnew B vs hB with h1|h1|⟨m',km,h1,h2,h3⟩
   ·simp only [φ1,Phi.frz] at h1;split at h1
    ·rename_i hx;obtain ⟨b',k',hbk,hB'⟩:=hx;right;right;have hi:inl rd b'=true:=by
      cases hi:inl rd b'
      ·unfold only at hbk;rw [hi] at hbk;cases hbk
      ·rfl
     have hbk':hget h b'=some k':=by unfold only at hbk;rw [hi] at hbk;exact hbk
     refine ⟨b',k',?_,wrt_spec hw hi hbk',hB'⟩;unfold only;have:inl (b::rd) b'=true:=by
      rw [inl_cons];by_cases e:b=b'
      ·rw [if_pos e]
      ·rw [if_neg e];exact hi
     rw [this];exact hbk'
    ·exact .inl h1
   ·exact .inr (.inl h1)
   ·right;right;exact ⟨b,k,hkk,hro,h3⟩
 ·rw [happ] at hc;dsimp only at hc;split at hc
  ·cases hc
  ·split at hc
   ·cases hc;cases hk
   ·cases hc
theorem CallOK.giveN {P:Program} {f:FuncId} {args argsF:List AV} {h:Hp} {n:Nat} {rd:List Nat} {z m:Nat} {cs:List AV} (hc:Go.Ab.callable P f=true)
 (hv:VwL h rd args argsF) (hb:belL 0 cs=true) (hw:wrt h rd=true) (hf:FTL P f argsF [] 0 (.sg 0 0 m) [(0,{cells:=cs,gr:=some z})] 1):CallOK P f args h n {v:= .sg n 0 m,n:=n+1,rd,md:=dels rd,nw:=[(n,{cells:=cs,gr:=some z})]}:=by
 have happ:(Eff.app {v:= .sg n 0 m,n:=n+1,rd,md:=dels rd,nw:=[(n,{cells:=cs,gr:=some z})]} (only (hget h) rd))=fun c=>if inl rd c=true then none else if c=n then some {cells:=cs,gr:=some z} else none:=by
  funext c;simp only [Eff.app,mget_dels,only,hget];by_cases hcn:c=n
  ·subst hcn;cases hi:inl rd c<;>simp
  ·cases hi:inl rd c<;>simp [beq_ne hcn,hcn]
 refine ⟨hc,Nat.le_succ _,fun b r hb=>(by rw [mget_dels] at hb;by_cases hi:inl rd b=true;exact hi;rw [if_neg hi] at hb;cases hb),fun c kk hc=> ?_,fun D φ w us hfresh hH hA=> ?_⟩
 ·simp only [hget] at hc;by_cases hcn:c=n
  ·subst hcn;show c<=c/\c<c+1;omega
  ·rw [beq_ne hcn] at hc;cases hc
 have hnD: ¬D n:=hfresh n (Nat.le_refl _) (Nat.lt_succ_self _);let φ1:=φ.frz (only (hget h) rd) w;have hH1:HR (fun _=>False) φ1 (hget []) w:=⟨⟨fun b k hb=>by simp [hget] at hb,fun b1 b2 k1 k2 _ hb=>by simp [hget] at hb⟩,fun B vs hB=>by
  simp only [φ1,Phi.frz] at hB;split at hB
  ·exact fzW_spec hB
  ·exact hH.fz B vs hB,hH.lp,fun b k B vs hb=>by simp [hget] at hb⟩
 have hA1:All2 (fun _=>False) φ1 argsF us:=⟨by rw [<-hv.len];exact hA.1,fun i a u ha hu=>by
  obtain ⟨a',h1,h2⟩:=hv.get ha;exact h2 D _ φ w u hH (hA.2 i a' u h1 hu)⟩
 refine (hf (fun _=>False) φ1 w us (fun _ h=>h.elim) hH1 hA1).mono fun e w' hx=> ?_;obtain ⟨D',φ2,u,rfl,hD',hr,hS⟩:=hx;obtain ⟨hDr,⟨⟨vs',elem',fr',r1,r2,r3,r4⟩,r5⟩⟩:=hS.hr.at_ 0 {cells:=cs,gr:=some z} (by simp [hget])
 have hr2:hget [(0,({cells:=cs,gr:=some z}:Blk))] 0=some {cells:=cs,gr:=some z}:=by simp [hget]
 obtain ⟨hro2,hes2,hsz2⟩:=r4 z rfl;have ag1:=Phi.frz_agree hH D;let φ3:Phi:={blk:=fun x=>if x=n then φ2.blk 0 else φ.blk x,off:=fun x=>if x=n then φ2.off 0 else φ.off x,cap:=fun x=>if x=n then φ2.cap 0 else φ.cap x,esz:=fun x=>if x=n then φ2.esz 0 else φ.esz x,fz:=φ2.fz,lp:=φ2.lp}
 have ag3: ∀b,D b->φ3.blk b=φ.blk b/\φ3.off b=φ.off b/\φ3.cap b=φ.cap b/\φ3.esz b=φ.esz b:=fun b hb=>by
  have:b≠n:=fun e=>hnD (e▸hb);simp [φ3,this]
 have hst: ∀c,c<w.heap.size->w'.heap[c]? =w.heap[c]? :=fun c hc=>hS.frm.block c hc (fun b k hb=>by simp [hget] at hb)
 have h3: ∀(i:Nat) (a:AV),cs[i]? =some a-> ∃u,vs'[φ2.off 0+i]? =some u/\VRel (Dn D n (n+1)) φ3 a u:=fun i a ha=>by
  obtain ⟨u,hu,hur⟩:=r2 i a ha;refine ⟨u,hu,?_⟩;have h1:VRel (fun _=>False) φ2 a u:=hur.bel0 (belL_spec hb a (List.mem_of_getElem? ha));exact VRel.mono' (φ:=φ2) (φ':=φ3) (fun _ h=>h.elim) (fun _ h=>h.elim) (fun _ _ h=>h) (fun _ _ h=>h) h1
 have himg:w.heap.size<=φ2.blk 0:=by
  rcases hS.img 0 _ hr2 hro2 with h1|⟨m0,km,h1,_,h2⟩
  ·exact h1
  ·simp [hget] at h1
 refine ⟨u,φ3,rfl,?_,?_,fun c kk hc hk=> ?_⟩
 ·have:VRel (fun x=>x=0) φ2 (.sg 0 0 m) u:=by
   cases hr with
   |sg _ _ _ j cap hd hj hcap hl=>exact .sg 0 0 m j cap rfl hj hcap hl
  cases this with
  |sg _ _ _ j cap hd hj hcap hl=>
   have:=VRel.sg (D:=Dn D n (n+1)) (φ:=φ3) n 0 m j cap (.inr ⟨Nat.le_refl _,Nat.lt_succ_self _⟩) (by simpa [φ3] using hj) (by simpa [φ3] using hcap) hl
   simpa [φ3] using this
 ·show Stp D φ _ w (Dn D n (n+1)) φ3 (Eff.app _ _) w';rw [happ];have get: ∀{c kk},(if inl rd c=true then none else if c=n then some {cells:=cs,gr:=some z} else none:Option Blk)=some kk->c=n/\kk={cells:=cs,gr:=some z}:=fun {c kk} hc=>by
   split at hc
   ·cases hc
   ·split at hc
    ·rename_i e;cases hc;exact ⟨e,rfl⟩
    ·cases hc
  refine ⟨fun b h=> .inl h,⟨ag3,fun B vs hB=>hS.agree.fz B vs (ag1.fz B vs hB),hS.agree.lp⟩,⟨⟨fun c kk hc=> ?_,fun b1 b2 k1 k2 hne h1 h2 _=>absurd ((get h1).1.trans (get h2).1.symm) hne⟩,hS.hr.fz,hS.hr.lp,fun c kk B vs hc _ hB=> ?_⟩,
   ⟨hS.frm.os,hS.frm.tape,hS.frm.output,hS.frm.size,fun c hc _=>hst c hc⟩,fun c kk hc _=> ?_,fun B vs hB=> ?_⟩
  ·obtain ⟨rfl,rfl⟩:=get hc;refine ⟨.inr ⟨Nat.le_refl _,Nat.lt_succ_self _⟩,⟨⟨vs',elem',fr',by simpa [φ3] using r1,fun i v hv=> ?_,fun _=>⟨fun h=>(by cases h),fun i hi=>(r3 rfl).2 i hi⟩,fun e he=> ?_⟩,fun g hg=>by cases hg⟩⟩
   ·obtain ⟨u,h1,h2⟩:=h3 i v hv;exact ⟨u,by simpa [φ3] using h1,h2⟩
   ·simp at he;subst he;exact ⟨rfl,by simpa [φ3] using hes2,by simpa [φ3] using hsz2⟩
  ·obtain ⟨rfl,rfl⟩:=get hc;have:=hS.hr.fsep 0 _ B vs hr2 hro2 hB;simpa [φ3] using this
  ·obtain ⟨rfl,rfl⟩:=get hc;left;simpa [φ3] using himg
  ·rcases hS.fnew B vs hB with h1|h1|⟨m,km,h1,_⟩
   ·simp only [φ1,Phi.frz] at h1;split at h1
    ·rename_i hx;obtain ⟨b,k,hbk,hB'⟩:=hx;right;right;refine ⟨b,k,hbk,?_,hB'⟩;simp only [only] at hbk;cases hi:inl rd b
     ·rw [hi] at hbk;cases hbk
     ·rw [hi] at hbk;exact wrt_spec hw hi hbk
    ·exact .inl h1
   ·exact .inr (.inl h1)
   ·simp [hget] at h1
 ·rw [happ] at hc;dsimp only at hc;split at hc
  ·cases hc
  ·split at hc
   ·cases hc;cases hk
   ·cases hc
section
variable {P:Program} {α:Type} {row:α->List AV} {z bytes:Nat} {zs:List AV} {f fo fr:FuncId} {fn:Func}
theorem ins_nsL (hm:P.follows .mixedOrders=true) (hf:P.funcs[f]? =some fn) (hI:compF P fn=some (insI z bytes zs fo fr)) (hlen: ∀a,(row a).length=z) (hbel: ∀a,belL 0 (row a)=true) (xs:List α) (h0:0<xs.length) (hg:bytes*xs.length<=growMax):
 FTL P f [.ns,.i .i64 0,.fz (rows row xs) xs.length] [] 0 (.sg 0 0 xs.length) [(0,{cells:=rows row xs,gr:=some z})] 1:=by
 refine FTL.of_cov (cx:=cxT []) Sound.nil hm hf hI (by simp [insI]) (iw_of_jw ?_)
 dsimp only [insI];have hl:(rows row xs).length=xs.length*z:=rows_len hlen;have hb:belL 0 (rows row xs)=true:=rows_bel hbel;generalize rows row xs=L at*;have e1:((xs.length:Int)==0)=false:=by rw [beq_eq_false_iff_ne];omega
 have e2:decide (xs.length=0)=false:=decide_eq_false (by omega)
 have e3:decide (bytes*xs.length<=growMax)=true:=decide_eq_true hg;have e4:List.take (xs.length*z) L=L:=List.take_of_length_le (by omega)
 simp only [go_sem,e1,e2,e3,e4,hl,List.drop_zero,simprocAttr];exact CovS.ends (Ends.new1 (b:=0) (Nat.le_refl _) rfl rfl rfl hb rfl)
theorem ins_slL (hm:P.follows .mixedOrders=true) (hf:P.funcs[f]? =some fn) (hI:compF P fn=some (insI z bytes zs fo fr)) (ho:SoundAt P fo ovlK2) (hlen: ∀a,(row a).length=z) (hz0:0<z) (hz1:z≠1) (hzl:zs.length=z) (hbel: ∀a,belL 0 (row a)=true) (hone: ∀a,oneAll (row a)=true)
 (l xs:List α) (i c:Nat) (hi:i<=l.length) (hc:l.length<=c) (h0:0<xs.length) (hg:bytes*(l.length+xs.length)<=growMax) (hbig:l.length+xs.length<=9223372036854775807):
 InsL P f [.i .i64 i,.fz (rows row xs) xs.length] z c l.length (l.length+xs.length) (rows row l) (rows row (insL l xs i)):=by
 intro p;have hzb:Nat.beq z 1=false:=beq_ne (fun e=>hz1 e.symm);have hT:Sound P (cxT [(fo,ovlK2)]):=Sound.cons ho Sound.nil;have hl:(rows row xs).length=xs.length*z:=rows_len hlen;have hb:belL 0 (rows row xs)=true:=rows_bel hbel;have h1:oneAll (rows row xs)=true:=rows_one1 hone _;have hlL:(rows row l).length=l.length*z:=rows_len hlen;have hbL:belL 0 (rows row l)=true:=rows_bel hbel;have h1A:oneAll (rows row (l.take i))=true:=rows_one1 hone _;have h1B:oneAll (rows row (l.drop i))=true:=rows_one1 hone _;have hAB:rows row l=rows row (l.take i)++rows row (l.drop i):=by rw [<-rows_append,List.take_append_drop]
 have hA:(rows row (l.take i)).length=i*z:=by rw [rows_len hlen,List.length_take,Nat.min_eq_left hi]
 have hB:(rows row (l.drop i)).length=(l.length-i)*z:=by rw [rows_len hlen,List.length_drop]
 have hb3:belL 0 (rows row (insL l xs i))=true:=rows_bel hbel;have hins:rows row (insL l xs i)=rows row (l.take i)++(rows row xs++rows row (l.drop i)):=by rw [insL,rows_append,rows_append]
 rw [hins] at hb3 ⊢;rw [hAB] at hbL hlL ⊢;have hb0:=hb3;have hb3:=belL_mono0 (m:=1) _ hb3;generalize rows row (l.take i)=A at*;generalize rows row (l.drop i)=B at*;generalize rows row xs=X at*;generalize l.length=N at*;generalize xs.length=m at*;clear hins hAB;have hAn:(anys p).length=p:=anys_len;have hQb:belL 1 (anys p)=true:=anys_bel;have hSb:belL 1 (anys ((c-N)*z))=true:=anys_bel;have hSn:(anys ((c-N)*z)).length=(c-N)*z:=anys_len;generalize anys ((c-N)*z)=S at*;generalize anys p=Q at*;have hNz:i*z+(N-i)*z=N*z:=by rw [<-Nat.add_mul];congr 1;omega
 have e1:((m:Int)==0)=false:=by rw [beq_eq_false_iff_ne];omega
 have e2:decide (m=0)=false:=decide_eq_false (by omega)
 have e3:decide (bytes*(N+m)<=growMax)=true:=decide_eq_true hg;have e4:List.take (m*z) X=X:=List.take_of_length_le (by omega)
 have e5:decide (0<=(i:Int)/\(i:Int)<=(N:Int)/\0<=(N:Int)/\(N:Int)<=(c:Int)/\0<=(c:Int))=true:=decide_eq_true (by omega)
 have w1:IntKind.i64.wrap ((N:Int)+(m:Int))=((N+m:Nat):Int):=by rw [wrapL (by omega) (by omega)];omega
 have w2:IntKind.i64.wrap (((N+m:Nat):Int)-(i:Int))=((N+m-i:Nat):Int):=by rw [wrapL (by omega) (by omega)];omega
 have w3:IntKind.i64.wrap ((i:Int)+(m:Int))=((i+m:Nat):Int):=by rw [wrapL (by omega) (by omega)];omega
 have hcz:N*z+(c-N)*z=c*z:=by rw [<-Nat.add_mul];congr 1;omega
 rcases Nat.lt_or_ge i N with hlt|hge
 ·have d1:((i:Int)==(N:Int))=false:=by rw [beq_eq_false_iff_ne];omega
  by_cases hroom:N+m<=c
  · -- there is room
    have d2:decide ((c:Int)<((N+m:Nat):Int))=false:=decide_eq_false (by omega)
    have a2: ¬c=i:=by omega
    have a3: ¬c=0:=by omega
    have a4: ¬c=i+m:=by omega
    have him:(i+m)*z=i*z+m*z:=Nat.add_mul _ _ _;have hZz:(N+m-i)*z=(N-i)*z+m*z:=by rw [<-Nat.add_mul];congr 1;omega
    have hcm:(c-N)*z=m*z+(c-N-m)*z:=by rw [<-Nat.add_mul];congr 1;omega
    obtain ⟨Y,S2,rfl,hY,hS2⟩:=cut1 S (hSn.trans hcm)
    -- what lies behind the place,parted where the tail will come to lie
    obtain ⟨W,V,hWV,hW,hV⟩:=cut1 (B++Y) (a:=m*z) (b:=(N-i)*z) (by rw [List.length_append];omega)
    have k1:List.take ((N+m-i)*z) (List.drop (p+i*z) (Q++(A++B++(Y++S2))))=B++Y:=by
     rw [show Q++(A++B++(Y++S2))=(Q++A)++((B++Y)++S2) by simp only [List.append_assoc],dr1 (by rw [List.length_append];omega),tk1 (by rw [List.length_append];omega)]
    have k2:List.take ((N-i)*z) (B++Y)=B:=tk1 hB;have k3:List.take (p+(i+m)*z) (Q++(A++B++(Y++S2)))=Q++(A++W):=by
     rw [show Q++(A++B++(Y++S2))=(Q++(A++W))++(V++S2) by
      have:A++B++(Y++S2)=A++((B++Y)++S2):=by simp only [List.append_assoc]
      rw [this,hWV];simp only [List.append_assoc]]
     exact tk1 (by simp only [List.length_append];omega)
    have k4:List.drop (p+(i+m)*z+(N-i)*z) (Q++(A++B++(Y++S2)))=S2:=by
     rw [show Q++(A++B++(Y++S2))=(Q++(A++(B++Y)))++S2 by simp only [List.append_assoc]]
     exact dr1 (by simp only [List.length_append];omega)
    have k5:List.take (p+i*z) (Q++(A++W)++B++S2)=Q++A:=by
     rw [show Q++(A++W)++B++S2=(Q++A)++(W++(B++S2)) by simp only [List.append_assoc]]
     exact tk1 (by simp only [List.length_append];omega)
    have k6:List.drop (p+i*z+m*z) (Q++(A++W)++B++S2)=B++S2:=by
     rw [show Q++(A++W)++B++S2=(Q++(A++W))++(B++S2) by simp only [List.append_assoc]]
     exact dr1 (by simp only [List.length_append];omega)
    have i1:(if N+m-i<=N+m-(i+m) then N+m-i else N+m-(i+m))=N-i:=by rw [if_neg (by omega)];omega
    have i2:(if m<=N+m-i then m else N+m-i)=m:=if_pos (by omega)
    have hXp:0<X.length:=by rw [hl];exact Nat.mul_pos h0 hz0
    have hBp:0<(N-i)*z:=Nat.mul_pos (by omega) hz0
    have hHl:(Q++(A++B++(Y++S2))).length=p+(i*z+((N-i)*z+(m*z+(c-N-m)*z))):=by simp only [List.length_append];omega
    have c1:decide (0<=((N+m:Nat):Int)/\((N+m:Nat):Int)<=(c:Int))=true:=decide_eq_true (by omega)
    have c2:decide (0<=((i+m:Nat):Int)/\((i+m:Nat):Int)<=((N+m:Nat):Int)/\0<=((N+m:Nat):Int)/\((N+m:Nat):Int)<=(c:Int)/\0<=(c:Int))=true:=decide_eq_true (by omega)
    have c3:decide (0<m*z)=true:=decide_eq_true (Nat.mul_pos h0 hz0);have c4:decide (p+(i+m)*z<(Q++(A++B++(Y++S2))).length)=true:=decide_eq_true (by rw [hHl];omega)
    have c5:decide (0<=(i:Int)/\(i:Int)<=((N+m:Nat):Int)/\0<=((N+m:Nat):Int)/\((N+m:Nat):Int)<=(c:Int)/\0<=(c:Int))=true:=decide_eq_true (by omega)
    have c6:decide ((B++Y).length=(N+m-i)*z)=true:=decide_eq_true (by rw [List.length_append];omega)
    have c7:decide (p+(i+m)*z+(N-i)*z<=(Q++(A++B++(Y++S2))).length)=true:=decide_eq_true (by rw [hHl];omega)
    have c8:decide (p+i*z+m*z<=(Q++(A++W)++B++S2).length)=true:=decide_eq_true (by simp only [List.length_append];omega)
    have c9:0<1:=Nat.one_pos;refine .inl ⟨hroom,S2,?_⟩;refine FTL.of_cov hT hm hf hI (by simp [insI]) (iw_of_jw ?_)
    dsimp only [insI];simp only [go_sem,e1,e2,e4,e5,hl,List.drop_zero,w1,w2,w3,d1,d2,a2,a3,a4,if_false,h1,h1B,hA,hB,i1,i2,k1,k2,k3,k4,k5,k6,ovlK2,hzb,c1,c2,c3,c4,c5,c6,c7,c8,c9,simprocAttr];exact CovS.ends (Ends.keep1 rfl rfl (by simp only [belL_append,Bool.and_eq_true] at hSb hb3 hQb ⊢;simp only [hSb,hb3,hQb,and_self]) rfl (by simp only [List.append_assoc]))
  · -- a new row
    have d2:decide ((c:Int)<((N+m:Nat):Int))=true:=decide_eq_true (by omega)
    have a1:i+(N+m-i)=N+m:=by omega
    have a2: ¬c=i:=by omega
    have t1:List.take (i*z) (List.drop p (Q++(A++B++S)))=A:=by rw [dr1 hAn,List.append_assoc,tk1 hA]
    have t2:List.take ((N-i)*z) (List.drop (p+i*z) (Q++(A++B++S)))=B:=by
     rw [show Q++(A++B++S)=(Q++A)++(B++S) by simp only [List.append_assoc],dr1 (by rw [List.length_append];omega),tk1 hB]
    have hZ:(zeros zs (N+m-i)).length=(N+m-i)*z:=by
     generalize N+m-i=r;induction r with
     |zero=>simp [zeros]
     |succ r ih=>simp [zeros,ih,hzl,Nat.succ_mul];omega
    generalize hZe:zeros zs (N+m-i)=Z at*;have hZz:(N+m-i)*z=m*z+(N-i)*z:=by rw [<-Nat.add_mul];congr 1;omega
    have hNm:(N+m)*z=i*z+(m*z+(N-i)*z):=by rw [<-Nat.add_mul,<-Nat.add_mul];congr 1;omega
    have him:(i+m)*z=i*z+m*z:=Nat.add_mul _ _ _;obtain ⟨Z1,Z2,rfl,hZ1,hZ2⟩:=cut1 Z (hZ.trans hZz);have i1:(if m<=N+m-i then m else N+m-i)=m:=if_pos (by omega)
    have i2:(if N-i<=N+m-(i+m) then N-i else N+m-(i+m))=N-i:=if_pos (by omega)
    have e6:List.take ((N-i)*z) B=B:=List.take_of_length_le (by omega)
    have s1:List.take (i*z) (A++(Z1++Z2))=A:=tk1 hA;have s2:List.drop (i*z+m*z) (A++(Z1++Z2))=Z2:=by rw [<-List.append_assoc];exact dr1 (by rw [List.length_append];omega)
    have s3:List.take ((i+m)*z) (A++X++Z2)=A++X:=tk1 (by rw [List.length_append];omega)
    have s4:List.drop ((i+m)*z+(N-i)*z) (A++X++Z2)=[]:=List.drop_of_length_le (by simp only [List.length_append];omega)
    have c1:decide (0<=(i:Int)/\(i:Int)<=(c:Int))=true:=decide_eq_true (by omega)
    have c2:decide (0<((N+m-i:Nat):Int))=true:=decide_eq_true (by omega)
    have c3:decide (c<N+m)=true:=decide_eq_true (by omega)
    have c4:decide (0<=(i:Int)/\(i:Int)<=((N+m:Nat):Int)/\0<=((N+m:Nat):Int))=true:=decide_eq_true (by omega)
    have c5:decide (i=0\/i<N+m)=true:=decide_eq_true (by omega)
    have c6:decide (i*z+m*z<=(A++(Z1++Z2)).length)=true:=decide_eq_true (by simp only [List.length_append];omega)
    have c7:decide (0<=((i+m:Nat):Int)/\((i+m:Nat):Int)<=((N+m:Nat):Int)/\0<=((N+m:Nat):Int))=true:=decide_eq_true (by omega)
    have c8:decide (i+m=0\/i+m<N+m)=true:=decide_eq_true (by omega)
    have c9:decide ((i+m)*z+(N-i)*z<=(A++X++Z2).length)=true:=decide_eq_true (by simp only [List.length_append];omega)
    refine .inr ?_;refine FTL.of_cov hT hm hf hI (by simp [insI]) (iw_of_jw ?_)
    dsimp only [insI];simp only [go_sem,e1,e2,e3,e4,e5,e6,hl,hlL,List.drop_zero,w1,w2,w3,d1,d2,a1,a2,t1,t2,if_false,h1,h1B,hA,hB,hZe,i1,i2,s1,s2,s3,s4,c1,c2,c3,c4,c5,c6,c7,c8,c9,simprocAttr];exact CovS.ends (Ends.new1 (b:=1) (Nat.le_refl _) rfl rfl rfl hb0 (by simp only [List.append_assoc]))
 · -- at the end
   obtain rfl:i=N:=by omega
   have hBn:B=[]:=List.eq_nil_of_length_eq_zero (by rw [hB];simp)
   subst hBn;have d1:((i:Int)==(i:Int))=true:=beq_self_eq_true _;simp only [List.append_nil] at hb3 hb0 ⊢;have e8:decide (0<=(i:Int)/\0<=(i:Int)/\(i:Int)<=(c:Int)/\0<=(c:Int))=true:=decide_eq_true (by omega)
   by_cases hroom:i+m<=c
   ·have r1:decide (i+m<=c)=true:=decide_eq_true hroom;have hcm:(c-i)*z=m*z+(c-i-m)*z:=by rw [<-Nat.add_mul];congr 1;omega
    obtain ⟨Y,S2,rfl,hY,hS2⟩:=cut1 S (hSn.trans hcm);have k1:List.take (p+i*z) (Q++(A++(Y++S2)))=Q++A:=by
     rw [<-List.append_assoc];exact tk1 (by simp only [List.length_append];omega)
    have k2:List.drop (p+i*z+m*z) (Q++(A++(Y++S2)))=S2:=by
     rw [show Q++(A++(Y++S2))=(Q++(A++Y))++S2 by simp]
     exact dr1 (by simp only [List.length_append];omega)
    have c1:decide (p+i*z+m*z<=(Q++(A++(Y++S2))).length)=true:=decide_eq_true (by simp only [List.length_append];omega)
    refine .inl ⟨hroom,S2,?_⟩;refine FTL.of_cov hT hm hf hI (by simp [insI]) (iw_of_jw ?_)
    dsimp only [insI];simp only [go_sem,e1,e2,e3,e4,e8,hl,List.drop_zero,d1,r1,h1,k1,k2,c1,simprocAttr];exact CovS.ends (Ends.keep1 rfl rfl (by simp only [belL_append,Bool.and_eq_true] at hSb hb3 hQb ⊢;simp only [hSb,hb3,hQb,and_self]) rfl (by simp only [List.append_assoc]))
   ·have r1:decide (i+m<=c)=false:=decide_eq_false hroom;have t1:List.take (i*z) (List.drop p (Q++(A++S)))=A:=by rw [dr1 hAn,tk1 hA]
    have c2:decide (i<=c)=true:=decide_eq_true hc;refine .inr ?_;refine FTL.of_cov hT hm hf hI (by simp [insI]) (iw_of_jw ?_)
    dsimp only [insI];simp only [go_sem,e1,e2,e3,e4,e8,hl,hA,List.drop_zero,d1,r1,h1,t1,c2,simprocAttr];exact CovS.ends (Ends.new1 (b:=1) (Nat.le_refl _) rfl rfl rfl hb0 (by simp only [List.append_assoc]))
end
end Go.Ab
namespace Go.Ab
def thenR (cx:Cx) (ops:List IOper) (K:Kont):Kont:=fun ex e h n=>match ex with
 | .normal=>runOps cx ops e h n K
 |_=>False
theorem reg_of {P:Program} {ct:List Nat} {N:Nat} {c:Code} {os:List IOper} (h1:compC P ct N c= .reg os): ∃id rops,c= .region id rops false/\(dstOK N rops.toList=true/\guardOK rops.toList=true)/\rops.toList.map (compOper P rops.toList (guardTmps rops.toList++ct))=os:=by
 cases c with
 |seq _ _=>simp [compC] at h1
 |region id ops draw=>
  simp only [compC] at h1;split at h1
  ·rename_i hcnd;cases draw
   ·simp only [Bool.false_eq_true,if_false,ICode.reg.injEq] at h1;simp only [Bool.and_eq_true] at hcnd;exact ⟨id,ops,rfl,hcnd.1,h1⟩
   ·simp at h1
  ·cases h1
 |cond x y z=>simp only [compC] at h1;split at h1<;>cases h1
 |rangeFunc g' ps' A' B'=>simp only [compC] at h1;split at h1<;>cases h1
 |_=>simp [compC] at h1
section
variable {P:Program}
theorem FTLx.of_dfr0 {C:Nat->AV->Hp->Nat->AV->Hp->Nat->Prop} (hC:Cov C) {f g:FuncId} {fn gn:Func} {I Ig:IFn} {cx:Cx} {args:List AV} {pn:Option Value} {n:Nat} {h:Hp} {v2:AV} {h2:Hp} {n2:Nat} {pre ops:List IOper} {x:Opd} {s:Bool} {rest:ICode}
 (hcx:Sound P cx) (hm:P.follows .mixedOrders=true) (hf:P.funcs[f]? =some fn) (hI:compF P fn=some I) (hnp:args.length<=I.N) (hcode:I.code= .seq (.reg pre) (.seq (.reg (ops++[⟨none,.dfr x [],none,s⟩])) rest))
 (hcal:callable P g=true) (hg:P.funcs[g]? =some gn) (hIg:compF P gn=some Ig) (hgr:Ig.res=[])
 (hi:runOps cx pre (argEnv 0 args) h n (thenR cx ops (dfrK x g fun Gs e h' n'=>Gs.length<=Ig.N/\Seam ⟨P,cx,I.ct,I.N,n⟩ rest (retDK I.res Ig.code Gs fun p v h' n'=>p=pn/\C n v h' n' v2 h2 n2) e h' n'))):FTLx P f args h n pn v2 h2 n2:=by
 intro D φ w us hD0 hH hargs;have hD: ∀b,(fun b=>b<n) b->b<n:=fun b hb=>hb;have hH:HR (fun b=>b<n) φ (hget h) w:=hH.grow hD0;have hargs:All2 (fun b=>b<n) φ args us:=hargs.mono hD0 (Agree.refl _ _);have hout: ∀D' φ' H' w',Stp (fun b=>b<n) φ (hget h) w D' φ' H' w'->Stp D φ (hget h) w D' φ' H' w':=fun D' φ' H' w' hs=>⟨fun b hb=>hs.sub b (hD0 b hb),⟨fun b hb=>hs.agree b (hD0 b hb),hs.agree.fz,hs.agree.lp⟩,hs.hr,hs.frm,hs.img,hs.fnew⟩;simp only [compF,Option.bind_eq_some_iff] at hI;obtain ⟨c,hc,rs,hrs,hI⟩:=hI;split at hI
 ·rename_i hle;rw [Bool.and_eq_true] at hle;have hfy:f≠YB:=ne_YB hf hle.2;have hle:=of_decide_eq_true hle.1;simp only [Option.some.injEq] at hI;subst hI;simp only at hi hnp hcode;refine Ans.of (calls_marks hf hc ?_) hfy (ext_false hf hc)
  -- the code
  obtain ⟨c0,c1,c2,rfl,q0,q1,q2⟩: ∃c0 c1 c2,c= .seq c0 (.seq c1 c2)/\compC P (condTmps c) fn.ntmps c0= .reg pre/\compC P (condTmps c) fn.ntmps c1= .reg (ops++[⟨none,.dfr x [],none,s⟩])/\compC P (condTmps c) fn.ntmps c2=rest:=by
   revert hcode;generalize condTmps c=ct;intro hcode;cases c with
   |seq c0 c3=>
    simp only [compC,ICode.seq.injEq] at hcode;obtain ⟨h0,hcode⟩:=hcode;cases c3 with
    |seq c1 c2=>simp only [compC,ICode.seq.injEq] at hcode;exact ⟨c0,c1,c2,rfl,h0,hcode.1,hcode.2⟩
    |region id ops draw=>simp only [compC] at hcode;split at hcode<;>(try split at hcode)<;>cases hcode
    |cond x y z=>simp only [compC] at hcode;split at hcode<;>cases hcode
    |rangeFunc g' ps' A' B'=>simp only [compC] at hcode;split at hcode<;>cases hcode
    |_=>simp [compC] at hcode
   |region id ops draw=>simp only [compC] at hcode;split at hcode<;>(try split at hcode)<;>cases hcode
   |cond x y z=>simp only [compC] at hcode;split at hcode<;>cases hcode
   |rangeFunc g' ps' A' B'=>simp only [compC] at hcode;split at hcode<;>cases hcode
   |_=>simp [compC] at hcode
  generalize hct:condTmps (.seq c0 (.seq c1 c2))=ct at q0 q1 q2;obtain ⟨id0,rops0,rfl,hok0,hmap0⟩:=reg_of q0;obtain ⟨id,rops,rfl,hok,hmap⟩:=reg_of q1;generalize guardTmps rops0.toList++ct=sp0 at hmap0;generalize guardTmps rops.toList++ct=sp at hmap;obtain ⟨l,od,hsplit,hmapl,hod⟩: ∃l od,rops.toList=l++[od]/\l.map (compOper P rops.toList sp)=ops/\compOper P rops.toList sp od=⟨none,.dfr x [],none,s⟩:=by
   obtain ⟨l1,l2,e1,e2,e3⟩:=List.map_eq_append_iff.1 hmap;cases l2 with
   |nil=>simp at e3
   |cons od l3=>
    cases l3 with
    |nil=>simp at e3;exact ⟨l1,od,e1,e2,e3⟩
    |cons _ _=>simp at e3
  -- the statement 'defer'
  obtain ⟨hog,hodst,cd,fo,hop,hcf,hfo,hca⟩:od.guard=none/\od.dst=none/\ ∃cd fo,od.op= .defer cd/\cd.callee= .value fo/\cO fo=some x/\cd.args= #[]:=by
   unfold compOper at hod;split at hod
   ·rename_i hg0;simp only [IOper.mk.injEq] at hod;obtain ⟨g1,g2,_⟩:=hod;refine ⟨hg0,g1,?_⟩;have h0: ∀o:Op,compOp P o= .dfr x []-> ∃cd fo,o= .defer cd/\cd.callee= .value fo/\cO fo=some x/\cd.args= #[]:=fun o ho=>by
     cases o with
     |defer cd=>
      simp only [compOp] at ho;split at ho
      ·rename_i fo hfo;cases hx:cO fo with
       |none=>simp [hx,orBad] at ho
       |some x'=>
        cases hl:cOs cd.args.toList with
        |none=>simp [hx,hl,orBad] at ho
        |some l'=>
         simp only [hx,hl,Option.bind_some,Option.map_some,orBad,Option.getD_some,IOp.dfr.injEq] at ho;obtain ⟨rfl,rfl⟩:=ho;refine ⟨cd,fo,rfl,hfo,hx,?_⟩;cases hal:cd.args.toList with
         |nil=>exact Array.toList_inj.1 (by simpa using hal)
         |cons y r=>
          rw [hal] at hl;simp only [cOs,Option.bind_eq_some_iff] at hl;obtain ⟨_,_,_,_,hl⟩:=hl;cases hl
      ·cases ho
     |_=>
      exfalso;exact notDfr_ne (compOp_notDfr (by simp)) ho
    exact h0 _ g2
   ·split at hod<;>simp at hod
  have hR:=argRel (N:=fn.ntmps) (m:=(w.heap.size,[])) hD hH (us:=us.toArray) (args:=args) (by simpa using hargs) hnp rfl
  refine wpIn_seq (wpIn_region_list ?_);rw [show rops0.toList=rops0.toList++[] from (List.append_nil _).symm]
  refine runOps_pre (n0:=n) hcx (M:=(w.heap.size,[])) (sp:=sp0) hD hok0.2 rops0.toList (fun o ho=>ho) hok0.1 (argEnv 0 args) h n _ φ _ w (Nat.le_refl _) (by rw [hmap0];exact hi) hR (Stp.refl hH) (fun D2 φ2 e2' h2' n2' a2 w2 hK hn2 hd2 hR2' hS2'=> ?_) (fun ch e h n hk=>hk)
  unfold wpListIn;show Code.wpIn _ _ _ _ _ _ _;refine wpIn_seq (wpIn_region_list ?_);rw [hsplit];have hmem: ∀o∈l,o∈rops.toList:=fun o ho=>by rw [hsplit];exact List.mem_append_left _ ho
  have hdl:dstOK fn.ntmps l=true:=by
   have:=hok.1;rw [hsplit] at this;simp only [dstOK,List.all_append,Bool.and_eq_true] at this;exact this.1
  refine runOps_pre (n0:=n) hcx (M:=(w.heap.size,[])) (sp:=sp) hD hok.2 l hmem hdl e2' h2' n2' D2 φ2 a2 w2 hn2 (by rw [hmapl];exact hK) hR2' hS2' (fun D1 φ1 e1 h1 n1 a1 w1 hK hn1 hd1' hR1 hS1=> ?_) (fun ch e h n hk=>hk)
  have hd1:a1.defers=[]:=hd1'.trans hd2
  -- at the statement
  obtain ⟨v,hv,hK1⟩:=gd_elim hK;obtain ⟨g',caps,hvg,hgg,hK2⟩:=fnK_elim hK1;clear hK1 hK;subst hvg;subst hgg;obtain ⟨bs,hbs,hnd,hK⟩:=gd_elim hK2;clear hK2
  ·obtain ⟨rfl,hbk⟩:=ptrs_spec hbs;have hvr:=opd_relG (fun t v _ hv=>hR1.env t v hv) hfo hR1.heap hv;obtain ⟨hgy,capsV,hev,hcv⟩:=hvr.fn_inv;have hcapsV:=caps_val hR1.heap hbk hcv;obtain ⟨hHG,hkG⟩:=setG_rel hnd hbk hR1.heap;have hGnd:=gs_nodup hR1.heap hnd hbk;obtain ⟨hGN,hseam⟩:=hK (bs.map φ1.blk) (by simp) hGnd
   -- the step
   unfold wpListIn;have hwant:Region.wanted od (yielded rops a1.tmps)=true:=by simp [Region.wanted,hog]
   rw [hwant];simp only [if_true];refine ⟨fun _ _=>trivial,?_⟩;show od.uponIn (Fw none) 0 P a1 _ _ ((od.semAt none a1.eval).run P w1);rw [Oper.semAt_none];have hrun:(execOp a1.eval od).run P w1= .ok (.defer {target:= .fn (.func g') capsV.toArray,args:= #[]}) w1:=by
    obtain ⟨callee,cargs,ctys⟩:=cd;simp only at hcf hca;subst hcf;subst hca;simp only [execOp,hop,resolve,Sem.run_bind,hev,Deferred.ofValue,Sem.run_pure,Result.andThen_ok];simp
   rw [hrun,Oper.uponIn_defer,hd1,hodst];unfold wpListIn;show Code.wpIn _ _ _ _ _ _ _;have hS2:Stp (fun b=>b<n) φ (hget h) w D1 φ1 (hget (setG h1 bs (bs.map φ1.blk))) w1:=
    ⟨hS1.sub,hS1.agree,hHG,hS1.frm,fun b k hb hk=>by
      obtain ⟨k0,hk0,hro⟩:=hkG b k hb;exact hS1.img b k0 hk0 (by rw [hro];exact hk),hS1.fnew⟩
   have hR2:Rel D1 φ1 e1 (setG h1 bs (bs.map φ1.blk)) n1 fn.ntmps (w.heap.size,[{target:= .fn (.func g') capsV.toArray,args:= #[]}]) ({a1 with defers:=[{target:= .fn (.func g') capsV.toArray,args:= #[]}]}.put none undef) w1:=
    ⟨hR1.lt,hR1.env,hHG,hR1.size,Mk.nil⟩
   have hw:=hseam c2 (by show compC P (condTmps _) _ c2=rest;rw [hct];exact q2) none (.inl rfl) [{target:= .fn (.func g') capsV.toArray,args:= #[]}] _ φ (hget h) w hD hn1 D1 φ1 _ w1 hR2 hS2
   refine wpIn_mono hw (fun ex a' w' hp=> ?_);obtain ⟨D',φ',e',h',n',hk,hn',hR',hS'⟩:=hp;rw [hcapsV] at hR';have leave: ∀m0:FrameMode,m0≠ .run->dfrE rs Ig.code (bs.map φ1.blk) (fun p v h' n'=>p=pn/\C n v h' n' v2 h2 n2) m0 e' h' n'→
    LeavesInM (Fw none) 0 P fn a'.tmps (fun e w'=> ∃D' φ' u,e=endP pn u/\(∀b,D' b->b<n2)/\VRel D' φ' v2 u/\Stp D φ (hget h) w D' φ' (hget h2) w') a'.defers m0 w':=fun m0 hm0 hk=>by
    refine leave_dfr hm hcal hg hIg hgr hGN hrs hm0 hk hR' hS' (fun D3 φ3 v3 h3 n3 u w3 hQ hlt3 hv3 hH3 hS3=> ?_);obtain ⟨hpn,hW⟩:=hQ;subst hpn;obtain ⟨D4,φ4,k1,k2,k3⟩:=hC _ _ _ _ _ _ _ hW D3 φ3 w3 _ φ _ w u hD hlt3 hv3 hH3 hS3;exact ⟨_,_,_,rfl,k1,k2,hout _ _ _ _ k3⟩
   cases ex with
   |normal=>exact leave .returning (by simp) hk
   |ret=>exact leave .returning (by simp) hk
   |panic ch=>exact leave (.panicking ch) (by simp) hk
   |_=>exact hk.elim
 ·cases hI
def thenRJ (cx:Cx) (ops:List IOper) (K:Kont):Kont:=fun ex e h n=>match ex with
 | .normal=>rOps cx ops e h n K
 |_=>False
theorem FTLx.of_dfrJ0 {C:Nat->AV->Hp->Nat->AV->Hp->Nat->Prop} (hC:Cov C) {f g:FuncId} {fn gn:Func} {I Ig:IFn} {cx:Cx} {args:List AV} {pn:Option Value} {n:Nat} {h:Hp} {v2:AV} {h2:Hp} {n2:Nat} {pre ops:List IOper} {x:Opd} {s:Bool} {rest:ICode}
 (hcx:Sound P cx) (hm:P.follows .mixedOrders=true) (hf:P.funcs[f]? =some fn) (hI:compF P fn=some I) (hnp:args.length<=I.N) (hcode:I.code= .seq (.reg pre) (.seq (.reg (ops++[⟨none,.dfr x [],none,s⟩])) rest))
 (hcal:callable P g=true) (hg:P.funcs[g]? =some gn) (hIg:compF P gn=some Ig) (hgr:Ig.res=[])
 (hi:rOps cx pre (argEnv 0 args) h n (thenRJ cx ops (dfrK x g fun Gs e h' n'=>Gs.length<=Ig.N/\jw ⟨P,cx,I.ct,I.N,n⟩ rest (retDK I.res Ig.code Gs fun p v h' n'=>p=pn/\C n v h' n' v2 h2 n2) e h' n'))):FTLx P f args h n pn v2 h2 n2:=
 FTLx.of_dfr0 hC hcx hm hf hI hnp hcode hcal hg hIg hgr (runOps_mono (fun ex e h n hk=>by
  cases ex with
  |normal=>exact runOps_mono (dfrK_mono fun Gs e h n hk=>⟨hk.1,fun c' hc'=>iw_sound ⟨P,cx,I.ct,I.N,_⟩ hcx hm c' _ _ _ _ (by rw [hc'];exact iw_of_jw hk.2)⟩) (runOps_of_rOps hk)
  |_=>exact hk) (runOps_of_rOps hi))
end
end Go.Ab
namespace Go.Ab
theorem Loop.stepS {F:Fx} {c:ICode} {K:Kont} {X:Type} (ok:X->Prop) (μ:X->Nat) (E:X->Env) (H:X->Hp) (n2:Nat) (x0:X) (nx:X->X) (m0:List (Nat×Nat)) (m:X->List (Nat×Nat))
 {e:Env} {h:Hp} {n:Nat} (hn:F.n0<=n2) (hm0:rnOK m0 F.n0 n2=true) (hm1: ∀x,rnOK (m x) F.n0 n2=true) (h0:ok x0) (he:EnvR n2 m0 e (E x0)) (hh:HpR n2 m0 h (H x0))
 (round: ∀x,ok x->Seam F c (thenK K fun e' h' n'=>(ok (nx x)/\μ (nx x)<μ x)/\EnvR n2 (m x) e' (E (nx x))/\HpR n2 (m x) h' (H (nx x))) (E x) (H x) n2):Loop F.P F.ct F.N F.n0 c K e h n:=by
 refine Loop.invW (F:=F) (X:={x:X // ok x}) (fun k=>(E k.1,H k.1,n2)) (fun k=>μ k.1) ⟨x0,h0⟩ (rn m0) (Wk.ofR hn hm0 he hh) (fun k c' hc'=> ?_);refine (round k.1 k.2 c' hc').mono (fun ex e' h' n' hx=> ?_);cases ex with
 |normal=>
  obtain ⟨⟨h1,h2⟩,h3,h4⟩:=hx;exact ⟨⟨nx k.1,h1⟩,rn (m k.1),Wk.ofR hn (hm1 k.1) h3 h4,h2⟩
 |_=>exact hx
theorem Seam.cut {F:Fx} {c:ICode} {K:Kont} {e:Env} {h:Hp} {n:Nat} (hs: ∀K1,K1=K->Seam F c K1 e h n):Seam F c K e h n:=hs K rfl
theorem Wka.en:Wka .en (.fz [] 0):=fun _ _ _ h=>by cases h;exact .fz0 _ _ _ (fun e=>by cases e)
theorem VwV.wka {h:Hp} {rd:List Nat} {a b c:AV} (hv:VwV h rd a b) (hw:Wka b c):VwV h rd a c:=fun D D' φ w u hH hu=>hw _ _ _ (hv D D' φ w u hH hu)
theorem FTLx.of_dfrS0 {P:Program} {C:Nat->AV->Hp->Nat->AV->Hp->Nat->Prop} (hC:Cov C) {f g:FuncId} {fn gn:Func} {I Ig:IFn} {cx:Cx} {args:List AV} {pn:Option Value} {n:Nat} {h:Hp} {v2:AV} {h2:Hp} {n2:Nat} {pre ops:List IOper} {x:Opd} {s:Bool} {rest:ICode}
 (hcx:Sound P cx) (hm:P.follows .mixedOrders=true) (hf:P.funcs[f]? =some fn) (hI:compF P fn=some I) (hnp:args.length<=I.N) (hcode:I.code= .seq (.reg pre) (.seq (.reg (ops++[⟨none,.dfr x [],none,s⟩])) rest))
 (hcal:callable P g=true) (hg:P.funcs[g]? =some gn) (hIg:compF P gn=some Ig) (hgr:Ig.res=[])
 (hi:rOps cx pre (argEnv 0 args) h n (thenRJ cx ops (dfrK x g fun Gs e h' n'=>Gs.length<=Ig.N/\Seam ⟨P,cx,I.ct,I.N,n⟩ rest (retDK I.res Ig.code Gs fun p v h' n'=>p=pn/\C n v h' n' v2 h2 n2) e h' n'))):FTLx P f args h n pn v2 h2 n2:=
 FTLx.of_dfr0 hC hcx hm hf hI hnp hcode hcal hg hIg hgr (runOps_mono (fun ex e h n hk=>by
  cases ex with
  |normal=>exact runOps_of_rOps hk
  |_=>exact hk) (runOps_of_rOps hi))
theorem VwV.wkN {h:Hp} {rd:List Nat} {a b c:AV} (hv:VwV h rd a b) (hw:Wka b c):VwV h rd a c:=fun D D' φ w u hH hu=>hw _ _ _ (hv D D' φ w u hH hu)
theorem VwV.aggN {h:Hp} {rd:List Nat} {l m:List AV} (hl:VwL h rd l m):VwV h rd (.agg l) (.agg m):=fun D D' φ w u hH hv=>by
 cases hv with
 |agg _ cs hlen hh=>
  refine .agg m cs (by rw [<-hlen,hl.len]) (fun i b u hb hu=> ?_)
  obtain ⟨a,h1,h2⟩:=hl.get hb;exact h2 D D' φ w u hH (hh i a u h1 hu)
theorem cellsN {h:Hp} {rd:List Nat} {b o n:Nat} {k:Blk} {cs:List AV} {D D':Nat->Prop} {φ:Phi} {w:World} (hb:only (hget h) rd b=some k) (hl:VwL h rd (cellsAt k.cells o n) cs) (hH:HR D φ (only (hget h) rd) w): ∃vs,(φ.frz (only (hget h) rd) w).fz (φ.blk b)=some vs/\(∀i,i<cs.length->φ.off b+o+i<vs.size)∧
 ∀(i:Nat) (a:AV) (u:Value),cs[i]? =some a->vs[φ.off b+o+i]? =some u->VRel D' (φ.frz (only (hget h) rd) w) a u:=by
 obtain ⟨_,⟨⟨vs,elem,fr,h1,h2,_⟩,_⟩⟩:=hH.at_ b k hb;have get: ∀(i:Nat) (a:AV),cs[i]? =some a-> ∃u a',vs[φ.off b+o+i]? =some u/\VRel D φ a' u/\VwV h rd a' a:=fun i a ha=>by
  obtain ⟨a',h3,h4⟩:=hl.get ha;simp only [cellsAt,List.getElem?_take,List.getElem?_drop] at h3;split at h3
  ·obtain ⟨u,hu,hr⟩:=h2 _ a' h3;exact ⟨u,a',by rw [Nat.add_assoc];exact hu,hr,h4⟩
  ·cases h3
 refine ⟨vs,by rw [Phi.frz_at (D:=D) hb];simp [fzW,h1],fun i hi=> ?_,fun i a u ha hu=> ?_⟩
 ·obtain ⟨u,_,hu,_⟩:=get i _ (List.getElem?_eq_getElem hi);rcases Nat.lt_or_ge (φ.off b+o+i) vs.size with h'|h'
  ·exact h'
  ·rw [Array.getElem?_eq_none h'] at hu;cases hu
 ·obtain ⟨u',a',hu',hr,hv⟩:=get i a ha;rw [hu] at hu';cases hu';exact hv D D' φ w u hH hr
theorem VwV.slN {h:Hp} {rd:List Nat} {b o m c n:Nat} {k:Blk} {cs:List AV} (hb:only (hget h) rd b=some k) (hm:m<=c) (hl:VwL h rd (cellsAt k.cells o n) cs):VwV h rd (.sl b o m c) (.fz cs m):=fun D D' φ w u hH hv=>by
 cases hv with
 |sl _ _ _ _ hD=>
  obtain ⟨vs,g1,g2,g3⟩:=cellsN (D':=D') hb hl hH;exact .fz _ _ _ _ _ vs g1 hm g2 g3
theorem VwV.sgN {h:Hp} {rd:List Nat} {b o m n:Nat} {k:Blk} {cs:List AV} (hb:only (hget h) rd b=some k) (hl:VwL h rd (cellsAt k.cells o n) cs):VwV h rd (.sg b o m) (.fz cs m):=fun D D' φ w u hH hv=>by
 cases hv with
 |sg _ _ _ j cap hD hj hc hle=>
  obtain ⟨vs,g1,g2,g3⟩:=cellsN (D':=D') hb hl hH;exact .fz _ _ _ _ _ vs g1 hle g2 g3
def nvs (g:AV->Option (List Nat×AV)):List AV->Option (List Nat×List AV)
 |[]=>some ([],[])
 |a::l=>(g a).bind fun x=>(nvs g l).bind fun y=>some (x.1++y.1,x.2::y.2)
def nv (h:Hp):Nat->AV->Option (List Nat×AV)
 |f,.agg l=>match f with
  |0=>none
  |f+1=>(nvs (nv h f) l).bind fun r=>some (r.1,.agg r.2)
 |f,.sl b o m c=>match f with
  |0=>none
  |f+1=>(hget h b).bind fun q=>(nvs (nv h f) (cellsAt q.cells o (m*(q.cells.length/c)))).bind fun r=>bif decide (m<=c) then some (b::r.1,.fz r.2 m) else none
 |f,.sg b o m=>match f with
  |0=>none
  |f+1=>(hget h b).bind fun q=>q.gr.bind fun z=>(nvs (nv h f) (cellsAt q.cells o (m*z))).bind fun r=>some (b::r.1,.fz r.2 m)
 |_,.ns=>some ([],.fz [] 0)
 |_,.ze=>some ([],.fz [] 0)
 |_,v=>bif v.bel 0 then some ([],v) else none
theorem inl_app {l m:List Nat} {b:Nat}:inl (l++m) b=(inl l b||inl m b):=by
 induction l with
 |nil=>rfl
 |cons c l ih=>simp only [List.cons_append,inl,ih,Bool.or_assoc]
theorem nvs_ok {h:Hp} {rd:List Nat} {g:AV->Option (List Nat×AV)} (hg: ∀a r,g a=some r->(∀b,inl r.1 b=true->inl rd b=true)->VwV h rd a r.2/\r.2.bel 0=true):
 ∀{l:List AV} {r:List Nat×List AV},nvs g l=some r->(∀b,inl r.1 b=true->inl rd b=true)->VwL h rd l r.2/\belL 0 r.2=true
 |[],r,hr,_=>by cases hr;exact ⟨trivial,rfl⟩
 |a::l,r,hr,hi=>by
  simp only [nvs,Option.bind_eq_some_iff] at hr;obtain ⟨x,hx,y,hy,he⟩:=hr;cases he;have h1:=hg a x hx (fun b hb=>hi b (by rw [inl_app,hb];rfl))
  have h2:=nvs_ok hg hy (fun b hb=>hi b (by rw [inl_app,hb,Bool.or_true]))
  exact ⟨⟨h1.1,h2.1⟩,by simp only [belL,h1.2,h2.2,Bool.and_self]⟩
theorem nv_ok {h:Hp} {rd:List Nat}: ∀(f:Nat) (a:AV) (r:List Nat×AV),nv h f a=some r->(∀b,inl r.1 b=true->inl rd b=true)->VwV h rd a r.2/\r.2.bel 0=true:=by
 intro f;induction f with
 |zero=>
  intro a r hr hi;cases a<;>simp only [nv] at hr
  case agg=>cases hr
  case sl=>cases hr
  case sg=>cases hr
  case ns=>cases hr;exact ⟨VwV.wkN (VwV.same rfl) Wka.ns,rfl⟩
  case ze=>cases hr;exact ⟨VwV.wkN (VwV.same rfl) Wka.ze,rfl⟩
  all_goals
   revert hr;cases hc:AV.bel 0 _
   ·intro h;cases h
   ·intro h;cases h;exact ⟨VwV.same hc,hc⟩
 |succ f ih=>
  intro a r hr hi;cases a<;>simp only [nv] at hr
  case ns=>cases hr;exact ⟨VwV.wkN (VwV.same rfl) Wka.ns,rfl⟩
  case ze=>cases hr;exact ⟨VwV.wkN (VwV.same rfl) Wka.ze,rfl⟩
  case agg l=>
   simp only [Option.bind_eq_some_iff] at hr;obtain ⟨x,hx,he⟩:=hr;cases he;obtain ⟨h1,h2⟩:=nvs_ok ih hx hi;exact ⟨VwV.aggN h1,by simpa only [AV.bel] using h2⟩
  case sl b o m c=>
   simp only [Option.bind_eq_some_iff] at hr;obtain ⟨q,hq,x,hx,he⟩:=hr;revert he;cases hm:decide (m<=c)
   ·intro h;cases h
   ·intro h;cases h;obtain ⟨h1,h2⟩:=nvs_ok ih hx (fun b hb=>hi b (by simp only [inl,hb,Bool.or_true]))
    exact ⟨VwV.slN (by unfold only;rw [hi b (by simp [inl])];exact hq) (of_decide_eq_true hm) h1,by simpa only [AV.bel] using h2⟩
  case sg b o m=>
   simp only [Option.bind_eq_some_iff] at hr;obtain ⟨q,hq,z,hz,x,hx,he⟩:=hr;cases he;obtain ⟨h1,h2⟩:=nvs_ok ih hx (fun b hb=>hi b (by simp only [inl,hb,Bool.or_true]))
   exact ⟨VwV.sgN (by unfold only;rw [hi b (by simp [inl])];exact hq) h1,by simpa only [AV.bel] using h2⟩
  all_goals
   revert hr;cases hc:AV.bel 0 _
   ·intro h;cases h
   ·intro h;cases h;exact ⟨VwV.same hc,hc⟩
theorem FTL.of_call {P:Program} {f:FuncId} {args:List AV} {v:AV} (h:CallOK P f args [] 0 {v,n:=0}):FTL P f args [] 0 v [] 0:=fun D φ w us hD hH hA=>by
 have hno:only (hget []) []=hget []:=by funext b;simp [only,hget]
 have:=h.run D φ w us (fun b h1 h2=>by exact absurd h2 (Nat.not_lt_zero _)) (by show HR D φ (only (hget []) []) w;rw [hno];exact hH) hA
 refine this.mono fun e w' hx=> ?_;obtain ⟨u,φ',he,hr,hS,_⟩:=hx;refine ⟨Dn D 0 0,φ',u,he,fun b hb=> ?_,hr,?_⟩
 ·rcases hb with hb|hb
  ·exact hD b hb
  ·omega
 ·have ha:Eff.app {v,n:=0} (only (hget []) [])=hget []:=by funext b;simp [Eff.app,mget,hget,only]
  have h2:only (hget []) (Eff.rd {v:=v,n:=0})=hget []:=hno;rw [show Eff.app {v:=v,n:=0} (only (hget []) (Eff.rd {v:=v,n:=0}))=hget [] from ha,h2] at hS
  exact hS
def Eff.plain (E:Eff):Bool:=E.rd.isEmpty&&(E.md.isEmpty&&(E.nw.isEmpty&&(Nat.beq E.n 0&&E.pn.isNone)))
theorem Eff.plain_eq {E:Eff} (h:E.plain=true):E={v:=E.v,n:=0}:=by
 obtain ⟨v,n,rd,md,nw,pn⟩:=E;simp only [Eff.plain,Bool.and_eq_true,List.isEmpty_iff,Option.isNone_iff_eq_none] at h;obtain ⟨rfl,rfl,rfl,h4,rfl⟩:=h;rw [Nat.eq_of_beq_eq_true h4]
def nvCt (k:Ct):Ct:=fun args h n=>(nvs (nv h 6) args).bind fun r=>(k r.2 [] 0).bind fun q=>bif q.1&&(q.2.plain&&q.2.v.pl) then some (true,{v:=q.2.v,n,rd:=r.1}) else none
theorem SoundAt.nv {P:Program} {f:FuncId} {k:Ct} (hk:SoundAt P f k):SoundAt P f (nvCt k):=fun args h n c E hc ht=>by
 simp only [nvCt,Option.bind_eq_some_iff] at hc;obtain ⟨r,hr,q,hq,he⟩:=hc;revert he;cases hb:q.1&&(q.2.plain&&q.2.v.pl)
 ·intro h;cases h
 ·intro h;cases h;simp only [Bool.and_eq_true] at hb;obtain ⟨b1,b2,b3⟩:=hb;obtain ⟨c0,E0⟩:=q;have hok:=hk r.2 [] 0 c0 E0 hq b1;dsimp only at b2 b3;rw [Eff.plain_eq b2] at hok;exact CallOK.viewG hok.callable (nvs_ok (nv_ok 6) hr (fun b h=>h)).1 b3 (FTL.of_call hok)
end Go.Ab
namespace Go.Proofs.Flt
open Go.Ab
def inW (n most:Int):Bool:=decide (0<=n)&&decide (n<=most)
theorem inW_t {n m:Int} (h:inW n m=true):0<=n/\n<=m:=by simpa [inW] using h
theorem inW_of {n m:Int} (h:0<=n/\n<=m):inW n m=true:=by simpa [inW] using h
structure Nt where
 kd:Int
 sq:Int
 bd:List UInt8
def Nt.l (x:Nt):List AV:=[.i .i64 x.kd,.i .i64 x.sq,.s x.bd]
theorem Nt.len (x:Nt):x.l.length=3:=rfl
theorem Nt.bel (x:Nt):belL 0 x.l=true:=rfl
theorem Nt.one (x:Nt):oneAll x.l=true:=rfl
structure Pc where
 kd:Int
 ln:Int
 sq:Int
 ofs:Int
 pt:List UInt8
def Pc.l (x:Pc):List AV:=[.i .i64 x.kd,.i .i64 x.ln,.i .i64 x.sq,.i .i64 x.ofs,.s x.pt]
theorem Pc.len (x:Pc):x.l.length=5:=rfl
theorem Pc.bel (x:Pc):belL 0 x.l=true:=rfl
def zPc:Pc:=⟨0,0,0,0,[]⟩
structure Hf where
 kd:Int
 ln:Int
 sq:Int
 bd:List UInt8
 got:List (Int×Int)
def gp (x:Int×Int):List AV:=[.i .i64 x.1,.i .i64 x.2]
theorem gp_len (x:Int×Int):(gp x).length=2:=rfl
theorem gp_bel (x:Int×Int):belL 0 (gp x)=true:=rfl
theorem gp_one (x:Int×Int):oneAll (gp x)=true:=rfl
def Hf.l (h:Hf):List AV:=[.i .i64 h.kd,.i .i64 h.ln,.i .i64 h.sq,.s h.bd,.fz (rows gp h.got) h.got.length]
theorem Hf.len (x:Hf):x.l.length=5:=rfl
theorem Hf.bel (x:Hf):belL 0 x.l=true:=by simp only [Hf.l,belL,AV.bel,rows_bel gp_bel,Bool.and_self]
structure Jn where
 nx:Int
 hs:List Hf
def Jn.a (j:Jn):List AV:=[.i .i64 j.nx,.fz (rows Hf.l j.hs) j.hs.length]
theorem Jn.bel (j:Jn):belL 0 j.a=true:=by simp only [Jn.a,belL,AV.bel,rows_bel Hf.bel,Bool.and_self]
def zJn:Jn:=⟨0,[]⟩
structure Tm where
 ti:Int
 wa:Int
 tr:Int
def Tm.l (t:Tm):List AV:=[.i .i64 t.ti,.i .i64 t.wa,.i .i64 t.tr]
def zTm:Tm:=⟨0,0,0⟩
/-! messages and pieces -/
def noteB (n:Nt):Bool:=inW n.kd 255&&(inW n.sq 65535&&decide (n.bd.length<=4000))
def fld (n:Nat):Nat->List UInt8
 |0=>[]
 |k+1=>fld (n/256) k++[UInt8.ofNat n]
def pcO (p:Pc):List UInt8:=fld p.kd.toNat 1++fld p.ln.toNat 3++fld p.sq.toNat 2++fld p.ofs.toNat 3++fld p.pt.length 3++p.pt
def cutN (n size:Nat):Nat:=if n=0 then 1 else (n+size-1)/size
def cutP (n:Nt) (size k:Nat):Pc:=⟨n.kd,n.bd.length,n.sq,(k*size:Nat),(n.bd.drop (k*size)).take size⟩
def cutL (n:Nt) (size:Nat):List (List UInt8):=mapN (fun k=>pcO (cutP n size k)) (cutN n.bd.length size)
def cutS (n:Nt) (size:Int):List (List UInt8)×Int:=
 bif noteB n then (bif inW (size-1) 1099 then (cutL n size.toNat,0) else ([],2)) else ([],190)
def num (l:List UInt8):Int:=l.foldl (fun n b=>n*256+(b.toNat:Int)) 0
def partS (s:List UInt8) (a b:Nat):Int:=num ((s.drop a).take (b-a))
def readP (s:List UInt8):Pc:=⟨partS s 0 1,partS s 1 4,partS s 4 6,partS s 6 9,s.drop 12⟩
def wholeB (p:Pc):Bool:=decide (p.ln<=4000)&&(decide (p.pt.length<=1100)&&(decide (p.ofs+p.pt.length<=p.ln)&&((p.pt.length==0)==(p.ln==0))))
def readS (s:List UInt8):Pc×Int:=
 if s.length>1200 then (zPc,3)
 else if s.length<12 then (zPc,7)
 else if (s.length:Int)-12<partS s 9 12 then (zPc,7)
 else if (s.length:Int)-12≠partS s 9 12 then (zPc,5)
 else if wholeB (readP s) then (readP s,0) else (zPc,5)
/-! joiners -/
def doneB (h:Hf):Bool:=(h.ln==0)||match h.got with
 |[x]=>(x.1==0)&&(x.2==h.ln)
 |_=>false
def gotB (ln:Int):Option Int->List (Int×Int)->Bool
 |_,[]=>true
 |b,x::r=>decide (0<=x.1)&&(decide (x.1<x.2)&&(decide (x.2<=ln)&&((match b with|some e=>decide (x.1>e)|none=>true)&&gotB ln (some x.2) r)))
def zer (l:List UInt8):Bool:=l.all (· ==0)
def gapB (bd:List UInt8) (ln:Int):Int->List (Int×Int)->Bool
 |a,[]=>zer ((bd.drop a.toNat).take (ln-a).toNat)
 |a,x::r=>zer ((bd.drop a.toNat).take (x.1-a).toNat)&&gapB bd ln x.2 r
def halfB (h:Hf):Bool:=inW h.kd 255&&(inW h.ln 4000&&(((h.bd.length:Int)==h.ln)&&(((h.got.length==0)==(h.ln==0))&&(gotB h.ln none h.got&&gapB h.bd h.ln 0 h.got))))
def hsB (nx:Int):Option Int->List Hf->Bool
 |_,[]=>true
 |b,h::r=>decide (nx<=h.sq)&&(decide (h.sq<min (nx+4) 65536)&&((match b with|some e=>decide (h.sq>e)|none=>true)&&(halfB h&&((decide (h.sq>nx)|| !doneB h)&&hsB nx (some h.sq) r))))
def jnB (j:Jn):Bool:=inW j.nx 65536&&hsB j.nx none j.hs
def agreeB (h:Hf) (p:Pc) (r:Int×Int):Bool:=
 let a:=max r.1 p.ofs;let b:=min r.2 (p.ofs+p.pt.length);decide (a>=b)||((h.bd.drop a.toNat).take (b-a).toNat==(p.pt.drop (a-p.ofs).toNat).take (b-a).toNat)
def meetB (r x:Int×Int):Bool:= !(decide (x.2<r.1)||decide (x.1>r.2))
def grow1 (s:List (Int×Int)×(Int×Int)) (x:Int×Int):List (Int×Int)×(Int×Int):=
 bif meetB s.2 x then (s.1,(min s.2.1 x.1,max s.2.2 x.2)) else (s.1++[x],s.2)
def putG (r:Int×Int):List (Int×Int)->List (Int×Int)
 |[]=>[r]
 |x::l=>bif decide (r.1<x.1) then r::x::l else x::putG r l
def gotS (got:List (Int×Int)) (r:Int×Int):List (Int×Int):=
 let s:=got.foldl grow1 ([],r)
 putG s.2 s.1
def fillS (h:Hf) (p:Pc):Option Hf:=
 bif (h.kd==p.kd)&&((h.ln==p.ln)&&h.got.all (agreeB h p)) then
  let bd:=h.bd.take p.ofs.toNat++p.pt++h.bd.drop (p.ofs.toNat+p.pt.length)
  some ⟨h.kd,h.ln,h.sq,bd,if p.pt=[] then h.got else gotS h.got (p.ofs,p.ofs+p.pt.length)⟩
 else none
def giveS:Int->List Hf->Jn×List Nt
 |nx,[]=>(⟨nx,[]⟩,[])
 |nx,h::r=>bif (h.sq==nx)&&doneB h then let g:=giveS (nx+1) r;(g.1,⟨h.kd,h.sq,h.bd⟩::g.2) else (⟨nx,h::r⟩,[])
def newH (p:Pc):Hf:=⟨p.kd,p.ln,p.sq,List.replicate p.ln.toNat 0,[]⟩
def putH (p:Pc):List Hf->Option (List Hf)
 |[]=>(fillS (newH p) p).map fun h=>[h]
 |h::r=>if h.sq<p.sq then (putH p r).map (h:: ·) else if h.sq=p.sq then (fillS h p).map (· ::r) else (fillS (newH p) p).map (· ::h::r)
def takeS (j:Jn) (s:List UInt8):Jn×List Nt×Int:=
 if jnB j then
  if (readS s).2=0 then
   let p:=(readS s).1
   if p.sq<j.nx then (j,[],0)
   else if p.sq>=j.nx+4 then (zJn,[],3)
   else match putH p j.hs with
    |none=>(zJn,[],5)
    |some hs=>((giveS j.nx hs).1,(giveS j.nx hs).2,0)
  else (zJn,[],(readS s).2)
 else (zJn,[],191)
/-! timers -/
def waitS (t:Int):Int:=if t<=1 then 400 else if t=2 then 800 else if t=3 then 1600 else if t=4 then 3200 else 6400
def tmB (t:Tm):Bool:=((t.ti== -1)&&((t.wa==0)&&(t.tr==0)))||(decide (0<=t.ti)&&(decide (1<=t.tr)&&(decide (t.tr<=8)&&(t.wa==waitS t.tr))))
def startS (now:Int):Tm×Int:=bif inW now 1099511627776 then (⟨now+400,400,1⟩,0) else (zTm,2)
def dueT (t:Tm) (now:Int):Bool×Int:=bif tmB t then (bif inW now 1099511627776 then (inW t.ti now,0) else (false,2)) else (false,192)
def againS (t:Tm) (now:Int):Tm×Int:=
 bif (dueT t now).2==0 then (bif (dueT t now).1 then (bif t.tr==8 then (zTm,4) else (⟨now+waitS (t.tr+1),waitS (t.tr+1),t.tr+1⟩,0)) else (zTm,8)) else (zTm,(dueT t now).2)
def u81 (b:UInt8):List AV:=[.i .u8 (b.toNat:Int)]
def bd1 (b:List UInt8):List AV:=[.fz (rows u81 b) b.length]
theorem u8B (j:Nat) (l:List UInt8):belL j (rows u81 l)=true:=belL_mono0 _ (rows_bel (fun _=>rfl))
theorem bd1_bel (b:List UInt8):belL 0 (bd1 b)=true:=by simp only [bd1,belL,AV.bel,u8B,Bool.and_self]
theorem bdB (j:Nat) (l:List (List UInt8)):belL j (rows bd1 l)=true:=belL_mono0 _ (rows_bel bd1_bel)
structure Dr where
 fi:Int
 ki:List UInt8
 bo:List (List UInt8)
def Dr.a (d:Dr):List AV:=[.i .u16 d.fi,.fz (rows u81 d.ki) d.ki.length,.fz (rows bd1 d.bo) d.bo.length]
theorem Dr.bel (d:Dr):belL 0 d.a=true:=by simp only [Dr.a,belL,AV.bel,u8B,bdB,Bool.and_self]
def Dr.ok (d:Dr):Bool:=decide (0<=d.fi/\d.fi<=65535/\d.ki.length<=9223372036854775807/\d.bo.length<=9223372036854775807)&&d.bo.all fun b=>decide (b.length<=9223372036854775807)
end Go.Proofs.Flt
namespace Go.Proofs.Flz
open Go.Ab
abbrev i10r0:List IOper:=[oo 2 (.box (.t 0)),oo 4 (.mv (.c (.ns))),oo 5 (.mv (.c (.i .i64 0)))]
abbrev i10r1:List IOper:=[oo 9 (.ld true 3 (.t 2)),oo 10 (.call (.c (.fn 12 [])) [.t 9]),oo 11 (.bin .neq (.t 10) (.c (.i .i64 0))),ot 8 (.mv (.t 11))]
abbrev i10r2:List IOper:=[oo 4 (.mv (.c (.ns))),oo 5 (.mv (.c (.i .i64 190)))]
abbrev i10r3:List IOper:=[oo 13 (.mv (.t 1)),oo 14 (.bin .lss (.t 13) (.c (.i .i64 1))),ot 15 (.mv (.t 14)),og 16 (.mv (.t 1)) 15 false false,og 17 (.bin .gtr (.t 16) (.c (.i .i64 1100))) 15 false false,oo 18 (.pick (.t 15) (.c (.b true)) (.t 17)),ot 12 (.mv (.t 18))]
abbrev i10r4:List IOper:=[oo 4 (.mv (.c (.ns))),oo 5 (.mv (.c (.i .i64 2)))]
abbrev i10r5:List IOper:=[oo 6 (.new [.ns])]
abbrev i10r6:List IOper:=[oo 19 (.ld true 3 (.t 2)),oo 20 (.mv (.t 1)),oo 21 (.call (.c (.fn 44 [])) [.t 19,.t 20])]
abbrev i10r7:List IOper:=[oo 7 (.new [.i .i64 0,.i .i64 0,.i .i64 0,.i .i64 0,.s []]),on_ (.st 5 (.t 7) (.t 22))]
abbrev i10r8:List (IOper×List Nat):=[(oo 23 (.ld false 1 (.t 6)),[]),(oo 24 (.fa 0 (.t 7)),[0]),(oo 25 (.ld false 1 (.t 24)),[0]),(oo 26 (.call (.c (.fn 45 [])) [.t 25,.c (.i .i64 1)]),[0]),(oo 27 (.fa 1 (.t 7)),[0,1,2,3]),(oo 28 (.ld false 1 (.t 27)),[0,1,2,3]),(oo 29 (.call (.c (.fn 45 [])) [.t 28,.c (.i .i64 3)]),[0]),(oo 30 (.bin .add (.t 26) (.t 29)),[0]),(oo 31 (.fa 2 (.t 7)),[0,1,2,3,4,5,6,7]),(oo 32 (.ld false 1 (.t 31)),[0,1,2,3,4,5,6,7]),(oo 33 (.call (.c (.fn 45 [])) [.t 32,.c (.i .i64 2)]),[0,7]),(oo 34 (.bin .add (.t 30) (.t 33)),[0]),(oo 35 (.fa 3 (.t 7)),[0,1,2,3,4,5,6,7,8,9,10,11]),(oo 36 (.ld false 1 (.t 35)),[0,1,2,3,4,5,6,7,8,9,10,11]),(oo 37 (.call (.c (.fn 45 [])) [.t 36,.c (.i .i64 3)]),[0,7,11]),(oo 38 (.bin .add (.t 34) (.t 37)),[0]),(oo 39 (.fa 4 (.t 7)),[0,1,2,3,4,5,6,7,8,9,10,11,12,13,14,15]),(oo 40 (.ld false 1 (.t 39)),[0,1,2,3,4,5,6,7,8,9,10,11,12,13,14,15]),(oo 41 (.lenS (.t 40)),[0,1,2,3,4,5,6,7,8,9,10,11,12,13,14,15]),(oo 42 (.call (.c (.fn 45 [])) [.t 41,.c (.i .i64 3)]),[0,7,11,15]),(oo 43 (.bin .add (.t 38) (.t 42)),[0]),(oo 44 (.fa 4 (.t 7)),[0,1,2,3,4,5,6,7,8,9,10,11,12,13,14,15,16,17,18,19,20]),(oo 45 (.ld false 1 (.t 44)),[0,1,2,3,4,5,6,7,8,9,10,11,12,13,14,15,16,17,18,19,20]),(oo 46 (.bin .add (.t 43) (.t 45)),[0]),(oo 47 (.bsl [.s []] 1 [(0,1,.t 46)]),[0]),(oo 48 (.app 1 16 [.s []] (.t 23) (.t 47)),[]),(on_ (.st 1 (.t 6) (.t 48)),[])]
abbrev i10a9:ICode:=(.reg i10r7)
abbrev i10b9:ICode:=(.block 2 (.dreg i10r8))
abbrev i10r11:List IOper:=[oo 49 (.ld false 1 (.t 6)),oo 4 (.mv (.t 49)),oo 5 (.mv (.c (.i .i64 0)))]
abbrev i10c:ICode:=(.seq (.reg i10r0) (.seq (.block 0 (.seq (.reg i10r1) (.cond (.t 8) (.seq (.reg i10r2) .ret) (.seq (.reg i10r3) (.cond (.t 12) (.seq (.reg i10r4) .ret) .skip))))) (.seq (.reg i10r5) (.seq (.seq (.reg i10r6) (.block 1 (.rfunc (.t 21) [22] i10a9 i10b9))) (.seq (.reg i10r11) .ret)))))
def i10:IFn:={np:=2,N:=50,ct:=[8,12],code:=i10c,res:=[.t 4,.t 5]}
theorem i10_eq:compF Tryz.prog Tryz.f10=some i10:=by kernel_rfl
abbrev i12r0:List IOper:=[oo 1 (.box (.t 0)),oo 2 (.mv (.c (.i .i64 0)))]
abbrev i12r1:List IOper:=[oo 3 (.fa 0 (.t 1)),oo 4 (.ld false 1 (.t 3)),oo 5 (.call (.c (.fn 48 [])) [.t 4,.c (.i .i64 255)]),oo 6 (.not (.t 5)),ot 7 (.mv (.t 6)),og 8 (.fa 1 (.t 1)) 7 false false,og 9 (.ld false 1 (.t 8)) 7 false false,og 10 (.call (.c (.fn 48 [])) [.t 9,.c (.i .i64 65535)]) 7 false false,og 11 (.not (.t 10)) 7 false false,oo 12 (.pick (.t 7) (.c (.b true)) (.t 11)),ot 13 (.mv (.t 12)),og 14 (.fa 2 (.t 1)) 13 false false,og 15 (.ld false 1 (.t 14)) 13 false false,og 16 (.lenS (.t 15)) 13 false false,og 17 (.bin .gtr (.t 16) (.c (.i .i64 4000))) 13 false false,ot 18 (.pick (.t 13) (.c (.b true)) (.t 17))]
abbrev i12r2:List IOper:=[oo 2 (.mv (.c (.i .i64 190)))]
abbrev i12r3:List IOper:=[oo 2 (.mv (.c (.i .i64 0)))]
abbrev i12c:ICode:=(.seq (.reg i12r0) (.seq (.seq (.reg i12r1) (.cond (.t 18) (.seq (.reg i12r2) .ret) .skip)) (.seq (.reg i12r3) .ret)))
def i12:IFn:={np:=1,N:=19,ct:=[18],code:=i12c,res:=[.t 2]}
theorem i12_eq:compF Tryz.prog Tryz.f12=some i12:=by kernel_rfl
abbrev i14r0:List IOper:=[oo 4 (.mv (.c (.b false)))]
abbrev i14r1:List IOper:=[oo 6 (.mv (.t 0)),oo 7 (.lenV (.t 6)),oo 8 (.mv (.t 1)),oo 9 (.lenV (.t 8)),ot 10 (.bin .neq (.t 7) (.t 9))]
abbrev i14r2:List IOper:=[oo 4 (.mv (.c (.b false)))]
abbrev i14r3:List IOper:=[oo 11 (.mv (.t 0)),oo 12 (.lenV (.t 11)),oo 13 (.mv (.c (.i .i64 0)))]
abbrev i14r4:List IOper:=[ot 14 (.bin .lss (.t 13) (.t 12))]
abbrev i14r5:List IOper:=[oo 15 (.mv (.t 13)),oo 5 (.mv (.t 15))]
abbrev i14r6:List (IOper×List Nat):=[(oo 16 (.mv (.t 0)),[]),(oo 17 (.mv (.t 5)),[0]),(oo 18 (.ixaV 1 (.t 16) (.t 17)),[]),(oo 19 (.ld false 1 (.t 18)),[]),(oo 20 (.mv (.t 1)),[0,1,2,3]),(oo 21 (.mv (.t 5)),[0,1,2,3,4]),(oo 22 (.ixaV 1 (.t 20) (.t 21)),[0,1,2,3]),(oo 23 (.ld false 1 (.t 22)),[0,1,2,3]),(ot 24 (.bin .neq (.t 19) (.t 23)),[])]
abbrev i14r7:List IOper:=[oo 4 (.mv (.c (.b false)))]
abbrev i14r8:List IOper:=[oo 25 (.bin .add (.t 13) (.c (.i .i64 1))),oo 13 (.mv (.t 25))]
abbrev i14l9:ICode:=(.seq (.reg i14r4) (.seq (.cond (.t 14) .skip (.exit 0)) (.seq (.block 1 (.seq (.reg i14r5) (.seq (.dreg i14r6) (.cond (.t 24) (.seq (.reg i14r7) .ret) .skip)))) (.reg i14r8))))
abbrev i14r10:List IOper:=[oo 4 (.mv (.c (.b true)))]
abbrev i14c:ICode:=(.seq (.reg i14r0) (.seq (.seq (.reg i14r1) (.cond (.t 10) (.seq (.reg i14r2) .ret) .skip)) (.seq (.seq (.reg i14r3) (.block 0 (.loop i14l9))) (.seq (.reg i14r10) .ret))))
def i14:IFn:={np:=2,N:=26,ct:=[10,14,24],code:=i14c,res:=[.t 4]}
theorem i14_eq:compF Tryz.prog Tryz.f14=some i14:=by kernel_rfl
abbrev i15r0:List IOper:=[oo 2 (.new [.i .i64 0,.i .i64 0,.i .i64 0,.i .i64 0,.s []]),oo 3 (.new [.i .i64 0])]
abbrev i15r1:List IOper:=[oo 4 (.mkf 49 [.t 2,.t 3]),on_ (.dfr (.t 4) [])]
abbrev i15r2:List IOper:=[oo 5 (.mv (.t 0)),oo 6 (.call (.c (.fn 50 [])) [.t 5]),on_ (.st 5 (.t 2) (.t 6)),on_ (.st 1 (.t 3) (.c (.i .i64 0)))]
abbrev i15c:ICode:=(.seq (.reg i15r0) (.seq (.reg i15r1) (.seq (.reg i15r2) .ret)))
def i15:IFn:={np:=1,N:=7,ct:=[],code:=i15c,res:=[.c 2 true 5,.c 3 false 1]}
theorem i15_eq:compF Tryz.prog Tryz.f15=some i15:=by kernel_rfl
abbrev i21r0:List IOper:=[oo 1 (.box (.t 0)),oo 2 (.mv (.c (.i .i64 0)))]
abbrev i21r1:List IOper:=[oo 3 (.fa 0 (.t 1)),oo 4 (.ld false 1 (.t 3)),oo 5 (.call (.c (.fn 48 [])) [.t 4,.c (.i .i64 65536)]),oo 6 (.not (.t 5)),ot 7 (.mv (.t 6)),og 8 (.fa 1 (.t 1)) 7 false false,og 9 (.ld false 1 (.t 8)) 7 false false,og 10 (.mkf 54 [.t 1]) 7 false false,og 11 (.call (.c (.fn 53 [])) [.t 9,.t 10]) 7 false false,og 12 (.not (.t 11)) 7 false false,ot 13 (.pick (.t 7) (.c (.b true)) (.t 12))]
abbrev i21r2:List IOper:=[oo 2 (.mv (.c (.i .i64 191)))]
abbrev i21r3:List IOper:=[oo 2 (.mv (.c (.i .i64 0)))]
abbrev i21c:ICode:=(.seq (.reg i21r0) (.seq (.seq (.reg i21r1) (.cond (.t 13) (.seq (.reg i21r2) .ret) .skip)) (.seq (.reg i21r3) .ret)))
def i21:IFn:={np:=1,N:=14,ct:=[13],code:=i21c,res:=[.t 2]}
theorem i21_eq:compF Tryz.prog Tryz.f21=some i21:=by kernel_rfl
abbrev i23r0:List IOper:=[oo 2 (.box (.t 0)),oo 4 (.new [.i .i64 0,.ns]),oo 5 (.new [.ns]),oo 6 (.new [.i .i64 0])]
abbrev i23r1:List IOper:=[oo 14 (.mkf 58 [.t 4,.t 5,.t 6]),on_ (.dfr (.t 14) [])]
abbrev i23r2:List IOper:=[oo 15 (.ld true 2 (.t 2)),oo 16 (.call (.c (.fn 21 [])) [.t 15]),oo 17 (.bin .eql (.t 16) (.c (.i .i64 0))),oo 18 (.call (.c (.fn 59 [])) [.t 17,.c (.i .i64 191)])]
abbrev i23r3:List IOper:=[oo 19 (.mv (.t 1)),oo 20 (.call (.c (.fn 50 [])) [.t 19]),oo 7 (.new [.i .i64 0,.i .i64 0,.i .i64 0,.i .i64 0,.s []]),on_ (.st 5 (.t 7) (.t 20))]
abbrev i23r4:List IOper:=[oo 21 (.fa 0 (.t 2)),oo 22 (.ld false 1 (.t 21)),oo 23 (.fa 0 (.t 4)),on_ (.st 1 (.t 23) (.t 22))]
abbrev i23r5:List IOper:=[oo 24 (.fa 1 (.t 2)),oo 25 (.ld false 1 (.t 24)),oo 26 (.lenV (.t 25)),oo 27 (.mv (.c (.i .i64 0)))]
abbrev i23r6:List IOper:=[ot 28 (.bin .lss (.t 27) (.t 26))]
abbrev i23r7:List IOper:=[oo 29 (.ixaV 5 (.t 25) (.t 27)),oo 30 (.ld true 5 (.t 29)),oo 9 (.new [.i .i64 0,.i .i64 0,.i .i64 0,.s [],.ns]),on_ (.st 5 (.t 9) (.t 30))]
abbrev i23r8:List IOper:=[oo 31 (.fa 4 (.t 9)),oo 32 (.ld false 1 (.t 31)),oo 33 (.call (.c (.fn 60 [])) [.t 32]),oo 34 (.fa 4 (.t 9)),on_ (.st 1 (.t 34) (.t 33))]
abbrev i23r9:List IOper:=[oo 35 (.fa 1 (.t 4)),oo 36 (.ld false 1 (.t 35)),oo 37 (.ld true 5 (.t 9)),oo 38 (.bsl [.i .i64 0,.i .i64 0,.i .i64 0,.s [],.ns] 1 [(0,5,.t 37)]),oo 39 (.app 5 64 [.i .i64 0,.i .i64 0,.i .i64 0,.s [],.ns] (.t 36) (.t 38)),oo 40 (.fa 1 (.t 4)),on_ (.st 1 (.t 40) (.t 39))]
abbrev i23r10:List IOper:=[oo 41 (.bin .add (.t 27) (.c (.i .i64 1))),oo 27 (.mv (.t 41))]
abbrev i23l11:ICode:=(.seq (.reg i23r6) (.seq (.cond (.t 28) .skip (.exit 0)) (.seq (.block 1 (.seq (.reg i23r7) (.seq (.reg i23r8) (.reg i23r9)))) (.reg i23r10))))
abbrev i23r12:List IOper:=[oo 42 (.fa 2 (.t 7)),oo 43 (.ld false 1 (.t 42)),oo 44 (.fa 0 (.t 2)),oo 45 (.ld false 1 (.t 44)),ot 46 (.bin .lss (.t 43) (.t 45))]
abbrev i23r13:List IOper:=[oo 47 (.ld true 2 (.t 4)),on_ (.st 2 (.t 4) (.t 47)),on_ (.st 1 (.t 5) (.c (.ns))),on_ (.st 1 (.t 6) (.c (.i .i64 0)))]
abbrev i23r14:List IOper:=[oo 48 (.fa 2 (.t 7)),oo 49 (.ld false 1 (.t 48)),oo 50 (.fa 0 (.t 2)),oo 51 (.ld false 1 (.t 50)),oo 52 (.bin .add (.t 51) (.c (.i .i64 4))),oo 53 (.bin .lss (.t 49) (.t 52)),oo 54 (.call (.c (.fn 59 [])) [.t 53,.c (.i .i64 3)])]
abbrev i23r15:List IOper:=[oo 56 (.fa 1 (.t 4)),oo 57 (.ld false 1 (.t 56)),oo 58 (.fa 2 (.t 7)),oo 59 (.ld false 1 (.t 58)),oo 60 (.call (.c (.fn 61 [])) [.t 57,.t 59,.c (.fn 62 [])]),oo 55 (.mv (.t 60)),oo 61 (.ext (.t 55) 0),oo 62 (.ext (.t 55) 1),oo 10 (.mv (.t 61)),oo 11 (.mv (.t 62))]
abbrev i23r16:List IOper:=[oo 63 (.mv (.t 11)),ot 64 (.not (.t 63))]
abbrev i23r17:List (IOper×List Nat):=[(oo 65 (.fa 1 (.t 4)),[]),(oo 66 (.ld false 1 (.t 65)),[]),(oo 67 (.mv (.t 10)),[0,1]),(oo 68 (.fa 0 (.t 7)),[0,1,2]),(oo 69 (.ld false 1 (.t 68)),[0,1,2]),(oo 70 (.fa 1 (.t 7)),[0,1,2,3,4]),(oo 71 (.ld false 1 (.t 70)),[0,1,2,3,4]),(oo 72 (.fa 2 (.t 7)),[0,1,2,3,4,5,6]),(oo 73 (.ld false 1 (.t 72)),[0,1,2,3,4,5,6]),(oo 74 (.fa 1 (.t 7)),[0,1,2,3,4,5,6,7,8]),(oo 75 (.ld false 1 (.t 74)),[0,1,2,3,4,5,6,7,8]),(oo 76 (.call (.c (.fn 36 [])) [.c (.s [0]),.t 75]),[0,1,2,3,4,5,6,7,8]),(oo 77 (.build [.i .i64 0,.i .i64 0,.i .i64 0,.s [],.ns] [(0,1,.t 69),(1,1,.t 71),(2,1,.t 73),(3,1,.t 76)]),[0,1,2]),(oo 78 (.bsl [.i .i64 0,.i .i64 0,.i .i64 0,.s [],.ns] 1 [(0,5,.t 77)]),[0,1,2]),(oo 79 (.call (.c (.fn 64 [])) [.t 66,.t 67,.t 78]),[]),(oo 80 (.fa 1 (.t 4)),[]),(on_ (.st 1 (.t 80) (.t 79)),[])]
abbrev i23r18:List IOper:=[oo 81 (.fa 1 (.t 4)),oo 82 (.ld false 1 (.t 81)),oo 83 (.mv (.t 10)),oo 84 (.ixaV 5 (.t 82) (.t 83)),oo 85 (.ld true 5 (.t 84)),oo 86 (.build [.i .i64 0,.i .i64 0,.i .i64 0,.s [],.ns] [(0,5,.t 85)]),oo 12 (.new [.i .i64 0,.i .i64 0,.i .i64 0,.s [],.ns]),on_ (.st 5 (.t 12) (.t 86))]
abbrev i23r19:List IOper:=[oo 87 (.ld true 5 (.t 7)),oo 88 (.call (.c (.fn 65 [])) [.t 12,.t 87])]
abbrev i23r20:List IOper:=[oo 89 (.fa 1 (.t 4)),oo 90 (.ld false 1 (.t 89)),oo 91 (.mv (.t 10)),oo 92 (.fa 0 (.t 12)),oo 93 (.ld true 5 (.t 92)),oo 94 (.ixaV 5 (.t 90) (.t 91)),on_ (.st 5 (.t 94) (.t 93))]
abbrev i23r21:List (IOper×List Nat):=[(oo 95 (.fa 1 (.t 4)),[]),(oo 96 (.ld false 1 (.t 95)),[]),(oo 97 (.lenV (.t 96)),[]),(oo 98 (.bin .gtr (.t 97) (.c (.i .i64 0))),[]),(ot 99 (.mv (.t 98)),[]),(og 100 (.fa 1 (.t 4)) 99 true false,[]),(og 101 (.ld false 1 (.t 100)) 99 true false,[]),(og 102 (.ixaV 5 (.t 101) (.c (.i .i64 0))) 99 true false,[]),(og 103 (.fa 2 (.t 102)) 99 true false,[]),(og 104 (.ld false 1 (.t 103)) 99 true false,[]),(og 105 (.fa 0 (.t 4)) 99 true false,[5,6,7,8,9]),(og 106 (.ld false 1 (.t 105)) 99 true false,[5,6,7,8,9]),(og 107 (.bin .eql (.t 104) (.t 106)) 99 true false,[]),(oo 108 (.pick (.t 99) (.t 107) (.c (.b false))),[]),(ot 109 (.mv (.t 108)),[]),(og 110 (.fa 1 (.t 4)) 109 true false,[]),(og 111 (.ld false 1 (.t 110)) 109 true false,[]),(og 112 (.ixaV 5 (.t 111) (.c (.i .i64 0))) 109 true false,[]),(og 113 (.ld true 5 (.t 112)) 109 true false,[]),(og 114 (.build [.i .i64 0,.i .i64 0,.i .i64 0,.s [],.ns] [(0,5,.t 113)]) 109 true false,[]),(og 115 (.call (.c (.fn 56 [])) [.t 114]) 109 true false,[]),(ot 116 (.pick (.t 109) (.t 115) (.c (.b false))),[])]
abbrev i23r22:List IOper:=[oo 117 (.fa 1 (.t 4)),oo 118 (.ld false 1 (.t 117)),oo 119 (.ixaV 5 (.t 118) (.c (.i .i64 0))),oo 120 (.ld true 5 (.t 119)),oo 13 (.new [.i .i64 0,.i .i64 0,.i .i64 0,.s [],.ns]),on_ (.st 5 (.t 13) (.t 120))]
abbrev i23r23:List IOper:=[oo 121 (.ld false 1 (.t 5)),oo 122 (.fa 0 (.t 13)),oo 123 (.ld false 1 (.t 122)),oo 124 (.fa 2 (.t 13)),oo 125 (.ld false 1 (.t 124)),oo 126 (.fa 3 (.t 13)),oo 127 (.ld false 1 (.t 126)),oo 128 (.build [.i .i64 0,.i .i64 0,.s []] [(0,1,.t 123),(1,1,.t 125),(2,1,.t 127)]),oo 129 (.bsl [.i .i64 0,.i .i64 0,.s []] 1 [(0,3,.t 128)]),oo 130 (.app 3 32 [.i .i64 0,.i .i64 0,.s []] (.t 121) (.t 129)),on_ (.st 1 (.t 5) (.t 130))]
abbrev i23r24:List IOper:=[oo 131 (.fa 1 (.t 4)),oo 132 (.ld false 1 (.t 131)),oo 133 (.slV 5 (.t 132) (some (.c (.i .i64 1))) none none),oo 134 (.fa 1 (.t 4)),on_ (.st 1 (.t 134) (.t 133))]
abbrev i23r25:List IOper:=[oo 135 (.fa 0 (.t 4)),oo 136 (.ld false 1 (.t 135)),oo 137 (.bin .add (.t 136) (.c (.i .i64 1))),oo 138 (.fa 0 (.t 4)),on_ (.st 1 (.t 138) (.t 137))]
abbrev i23l26:ICode:=(.seq (.seq (.dreg i23r21) (.cond (.t 116) .skip (.exit 2))) (.block 3 (.seq (.reg i23r22) (.seq (.reg i23r23) (.seq (.reg i23r24) (.reg i23r25))))))
abbrev i23r27:List (IOper×List Nat):=[(oo 139 (.ld true 2 (.t 4)),[]),(oo 140 (.ld false 1 (.t 5)),[0]),(on_ (.st 2 (.t 4) (.t 139)),[1]),(on_ (.st 1 (.t 5) (.t 140)),[]),(on_ (.st 1 (.t 6) (.c (.i .i64 0))),[])]
abbrev i23c:ICode:=(.seq (.reg i23r0) (.seq (.reg i23r1) (.seq (.reg i23r2) (.seq (.reg i23r3) (.seq (.reg i23r4) (.seq (.seq (.reg i23r5) (.block 0 (.loop i23l11))) (.seq (.seq (.reg i23r12) (.cond (.t 46) (.seq (.reg i23r13) .ret) .skip)) (.seq (.reg i23r14) (.seq (.reg i23r15) (.seq (.seq (.reg i23r16) (.cond (.t 64) (.dreg i23r17) .skip)) (.seq (.reg i23r18) (.seq (.reg i23r19) (.seq (.reg i23r20) (.seq (.block 2 (.loop i23l26)) (.seq (.dreg i23r27) .ret)))))))))))))))
def i23:IFn:={np:=2,N:=141,ct:=[28,46,64,116],code:=i23c,res:=[.c 4 true 2,.c 5 false 1,.c 6 false 1]}
theorem i23_eq:compF Tryz.prog Tryz.f23=some i23:=by kernel_rfl
abbrev i25r0:List IOper:=[oo 2 (.box (.t 0)),oo 3 (.box (.t 1)),oo 4 (.mv (.c (.b false)))]
abbrev i25r1:List IOper:=[oo 9 (.fa 0 (.t 2)),oo 10 (.ld false 1 (.t 9)),oo 11 (.fa 0 (.t 3)),oo 12 (.ld false 1 (.t 11)),oo 13 (.bin .neq (.t 10) (.t 12)),ot 14 (.mv (.t 13)),og 15 (.fa 1 (.t 2)) 14 false false,og 16 (.ld false 1 (.t 15)) 14 false false,og 17 (.lenV (.t 16)) 14 false false,og 18 (.fa 1 (.t 3)) 14 false false,og 19 (.ld false 1 (.t 18)) 14 false false,og 20 (.lenV (.t 19)) 14 false false,og 21 (.bin .neq (.t 17) (.t 20)) 14 false false,ot 22 (.pick (.t 14) (.c (.b true)) (.t 21))]
abbrev i25r2:List IOper:=[oo 4 (.mv (.c (.b false)))]
abbrev i25r3:List IOper:=[oo 5 (.mv (.c (.i .i64 0)))]
abbrev i25r4:List IOper:=[oo 23 (.mv (.t 5)),oo 24 (.fa 1 (.t 2)),oo 25 (.ld false 1 (.t 24)),oo 26 (.lenV (.t 25)),ot 27 (.bin .lss (.t 23) (.t 26))]
abbrev i25r5:List (IOper×List Nat):=[(oo 30 (.fa 1 (.t 2)),[]),(oo 31 (.ld false 1 (.t 30)),[]),(oo 32 (.mv (.t 5)),[0,1]),(oo 33 (.ixaV 5 (.t 31) (.t 32)),[]),(oo 34 (.ld true 5 (.t 33)),[]),(oo 35 (.fa 1 (.t 3)),[0,1,2,3,4]),(oo 36 (.ld false 1 (.t 35)),[0,1,2,3,4]),(oo 37 (.mv (.t 5)),[0,1,2,3,4,5,6]),(oo 38 (.ixaV 5 (.t 36) (.t 37)),[0,1,2,3,4]),(oo 39 (.ld true 5 (.t 38)),[0,1,2,3,4]),(oo 6 (.new [.i .i64 0,.i .i64 0,.i .i64 0,.s [],.ns]),[0,1,2,3,4,5,6,7,8,9]),(oo 7 (.new [.i .i64 0,.i .i64 0,.i .i64 0,.s [],.ns]),[0,1,2,3,4,5,6,7,8,9,10]),(on_ (.st 5 (.t 6) (.t 34)),[5,6,7,8,9]),(on_ (.st 5 (.t 7) (.t 39)),[])]
abbrev i25r6:List IOper:=[oo 40 (.fa 0 (.t 6)),oo 41 (.ld false 1 (.t 40)),oo 42 (.fa 0 (.t 7)),oo 43 (.ld false 1 (.t 42)),oo 44 (.bin .neq (.t 41) (.t 43)),ot 45 (.mv (.t 44)),og 46 (.fa 1 (.t 6)) 45 false false,og 47 (.ld false 1 (.t 46)) 45 false false,og 48 (.fa 1 (.t 7)) 45 false false,og 49 (.ld false 1 (.t 48)) 45 false false,og 50 (.bin .neq (.t 47) (.t 49)) 45 false false,oo 51 (.pick (.t 45) (.c (.b true)) (.t 50)),ot 52 (.mv (.t 51)),og 53 (.fa 2 (.t 6)) 52 false false,og 54 (.ld false 1 (.t 53)) 52 false false,og 55 (.fa 2 (.t 7)) 52 false false,og 56 (.ld false 1 (.t 55)) 52 false false,og 57 (.bin .neq (.t 54) (.t 56)) 52 false false,oo 58 (.pick (.t 52) (.c (.b true)) (.t 57)),ot 59 (.mv (.t 58)),og 60 (.fa 3 (.t 6)) 59 false false,og 61 (.ld false 1 (.t 60)) 59 false false,og 62 (.fa 3 (.t 7)) 59 false false,og 63 (.ld false 1 (.t 62)) 59 false false,og 64 (.bin .neq (.t 61) (.t 63)) 59 false false,oo 65 (.pick (.t 59) (.c (.b true)) (.t 64)),ot 66 (.mv (.t 65)),og 67 (.fa 4 (.t 6)) 66 false false,og 68 (.ld false 1 (.t 67)) 66 false false,og 69 (.lenV (.t 68)) 66 false false,og 70 (.fa 4 (.t 7)) 66 false false,og 71 (.ld false 1 (.t 70)) 66 false false,og 72 (.lenV (.t 71)) 66 false false,og 73 (.bin .neq (.t 69) (.t 72)) 66 false false,ot 74 (.pick (.t 66) (.c (.b true)) (.t 73))]
abbrev i25r7:List IOper:=[oo 4 (.mv (.c (.b false)))]
abbrev i25r8:List IOper:=[oo 8 (.mv (.c (.i .i64 0)))]
abbrev i25r9:List IOper:=[oo 75 (.mv (.t 8)),oo 76 (.fa 4 (.t 6)),oo 77 (.ld false 1 (.t 76)),oo 78 (.lenV (.t 77)),ot 79 (.bin .lss (.t 75) (.t 78))]
abbrev i25r10:List (IOper×List Nat):=[(oo 82 (.fa 4 (.t 6)),[]),(oo 83 (.ld false 1 (.t 82)),[]),(oo 84 (.mv (.t 8)),[0,1]),(oo 85 (.ixaV 2 (.t 83) (.t 84)),[]),(oo 86 (.ld true 2 (.t 85)),[]),(oo 87 (.fa 4 (.t 7)),[0,1,2,3,4]),(oo 88 (.ld false 1 (.t 87)),[0,1,2,3,4]),(oo 89 (.mv (.t 8)),[0,1,2,3,4,5,6]),(oo 90 (.ixaV 2 (.t 88) (.t 89)),[0,1,2,3,4]),(oo 91 (.ld true 2 (.t 90)),[0,1,2,3,4]),(ot 92 (.eqk true true [.i,.i] (.t 86) (.t 91)),[])]
abbrev i25r11:List IOper:=[oo 4 (.mv (.c (.b false)))]
abbrev i25r12:List IOper:=[oo 80 (.mv (.t 8)),oo 81 (.bin .add (.t 80) (.c (.i .i64 1))),oo 8 (.mv (.t 81))]
abbrev i25l13:ICode:=(.seq (.seq (.reg i25r9) (.cond (.t 79) .skip (.exit 2))) (.seq (.block 3 (.seq (.dreg i25r10) (.cond (.t 92) (.seq (.reg i25r11) .ret) .skip))) (.reg i25r12)))
abbrev i25r14:List IOper:=[oo 28 (.mv (.t 5)),oo 29 (.bin .add (.t 28) (.c (.i .i64 1))),oo 5 (.mv (.t 29))]
abbrev i25l15:ICode:=(.seq (.seq (.reg i25r4) (.cond (.t 27) .skip (.exit 0))) (.seq (.block 1 (.seq (.dreg i25r5) (.seq (.seq (.reg i25r6) (.cond (.t 74) (.seq (.reg i25r7) .ret) .skip)) (.seq (.reg i25r8) (.block 2 (.loop i25l13)))))) (.reg i25r14)))
abbrev i25r16:List IOper:=[oo 4 (.mv (.c (.b true)))]
abbrev i25c:ICode:=(.seq (.reg i25r0) (.seq (.seq (.reg i25r1) (.cond (.t 22) (.seq (.reg i25r2) .ret) .skip)) (.seq (.seq (.reg i25r3) (.block 0 (.loop i25l15))) (.seq (.reg i25r16) .ret))))
def i25:IFn:={np:=2,N:=93,ct:=[22,27,74,79,92],code:=i25c,res:=[.t 4]}
theorem i25_eq:compF Tryz.prog Tryz.f25=some i25:=by kernel_rfl
abbrev i26r0:List IOper:=[oo 4 (.mv (.c (.b false)))]
abbrev i26r1:List IOper:=[oo 6 (.mv (.t 0)),oo 7 (.lenV (.t 6)),oo 8 (.mv (.t 1)),oo 9 (.lenV (.t 8)),ot 10 (.bin .neq (.t 7) (.t 9))]
abbrev i26r2:List IOper:=[oo 4 (.mv (.c (.b false)))]
abbrev i26r3:List IOper:=[oo 5 (.mv (.c (.i .i64 0)))]
abbrev i26r4:List IOper:=[oo 11 (.mv (.t 5)),oo 12 (.mv (.t 0)),oo 13 (.lenV (.t 12)),ot 14 (.bin .lss (.t 11) (.t 13))]
abbrev i26r5:List (IOper×List Nat):=[(oo 17 (.mv (.t 0)),[]),(oo 18 (.mv (.t 5)),[0]),(oo 19 (.ixaV 3 (.t 17) (.t 18)),[]),(oo 20 (.ld true 3 (.t 19)),[]),(oo 21 (.mv (.t 1)),[0,1,2,3]),(oo 22 (.mv (.t 5)),[0,1,2,3,4]),(oo 23 (.ixaV 3 (.t 21) (.t 22)),[0,1,2,3]),(oo 24 (.ld true 3 (.t 23)),[0,1,2,3]),(ot 25 (.eqk true true [.i,.i,.s] (.t 20) (.t 24)),[])]
abbrev i26r6:List IOper:=[oo 4 (.mv (.c (.b false)))]
abbrev i26r7:List IOper:=[oo 15 (.mv (.t 5)),oo 16 (.bin .add (.t 15) (.c (.i .i64 1))),oo 5 (.mv (.t 16))]
abbrev i26l8:ICode:=(.seq (.seq (.reg i26r4) (.cond (.t 14) .skip (.exit 0))) (.seq (.block 1 (.seq (.dreg i26r5) (.cond (.t 25) (.seq (.reg i26r6) .ret) .skip))) (.reg i26r7)))
abbrev i26r9:List IOper:=[oo 4 (.mv (.c (.b true)))]
abbrev i26c:ICode:=(.seq (.reg i26r0) (.seq (.seq (.reg i26r1) (.cond (.t 10) (.seq (.reg i26r2) .ret) .skip)) (.seq (.seq (.reg i26r3) (.block 0 (.loop i26l8))) (.seq (.reg i26r9) .ret))))
def i26:IFn:={np:=2,N:=26,ct:=[10,14,25],code:=i26c,res:=[.t 4]}
theorem i26_eq:compF Tryz.prog Tryz.f26=some i26:=by kernel_rfl
abbrev i29r0:List IOper:=[oo 2 (.new [.i .i64 0,.i .i64 0,.i .i64 0]),oo 3 (.mv (.c (.i .i64 0)))]
abbrev i29r1:List IOper:=[oo 4 (.mv (.t 0)),oo 5 (.call (.c (.fn 48 [])) [.t 4,.c (.i .i64 1099511627776)]),ot 6 (.not (.t 5))]
abbrev i29r2:List IOper:=[oo 7 (.build [.i .i64 0,.i .i64 0,.i .i64 0] []),on_ (.st 3 (.t 2) (.t 7)),oo 3 (.mv (.c (.i .i64 2)))]
abbrev i29r3:List IOper:=[oo 8 (.mv (.t 0)),oo 9 (.bin .add (.t 8) (.c (.i .i64 400))),oo 10 (.build [.i .i64 0,.i .i64 0,.i .i64 0] [(0,1,.t 9),(1,1,.c (.i .i64 400)),(2,1,.c (.i .i64 1))]),on_ (.st 3 (.t 2) (.t 10)),oo 3 (.mv (.c (.i .i64 0)))]
abbrev i29c:ICode:=(.seq (.reg i29r0) (.seq (.seq (.reg i29r1) (.cond (.t 6) (.seq (.reg i29r2) .ret) .skip)) (.seq (.reg i29r3) .ret)))
def i29:IFn:={np:=1,N:=11,ct:=[6],code:=i29c,res:=[.c 2 true 3,.t 3]}
theorem i29_eq:compF Tryz.prog Tryz.f29=some i29:=by kernel_rfl
abbrev i31r0:List IOper:=[oo 1 (.box (.t 0)),oo 2 (.mv (.c (.i .i64 0)))]
abbrev i31r1:List IOper:=[oo 4 (.ld true 3 (.t 1)),oo 5 (.build [.i .i64 0,.i .i64 0,.i .i64 0] [(0,1,.c (.i .i64 (-1)))]),oo 6 (.eqk false true [.i,.i,.i] (.t 4) (.t 5)),oo 3 (.mv (.t 6))]
abbrev i31r2:List (IOper×List Nat):=[(oo 7 (.mv (.t 3)),[]),(oo 8 (.not (.t 7)),[]),(ot 9 (.mv (.t 8)),[]),(og 10 (.fa 0 (.t 1)) 9 true false,[]),(og 11 (.ld false 1 (.t 10)) 9 true false,[]),(og 12 (.bin .lss (.t 11) (.c (.i .i64 0))) 9 true false,[]),(og 13 (.mv (.t 12)) 9 true true,[]),(og 14 (.fa 2 (.t 1)) 13 false false,[]),(og 15 (.ld false 1 (.t 14)) 13 false false,[]),(og 16 (.bin .lss (.t 15) (.c (.i .i64 1))) 13 false false,[]),(og 17 (.pick (.t 13) (.c (.b true)) (.t 16)) 9 true false,[]),(og 18 (.mv (.t 17)) 9 true true,[]),(og 19 (.fa 2 (.t 1)) 18 false false,[]),(og 20 (.ld false 1 (.t 19)) 18 false false,[]),(og 21 (.bin .gtr (.t 20) (.c (.i .i64 8))) 18 false false,[]),(og 22 (.pick (.t 18) (.c (.b true)) (.t 21)) 9 true false,[]),(og 23 (.mv (.t 22)) 9 true true,[]),(og 24 (.fa 1 (.t 1)) 23 false false,[]),(og 25 (.ld false 1 (.t 24)) 23 false false,[]),(og 26 (.fa 2 (.t 1)) 23 false false,[17,18]),(og 27 (.ld false 1 (.t 26)) 23 false false,[17,18]),(og 28 (.call (.c (.fn 68 [])) [.t 27]) 23 false false,[17,18]),(og 29 (.bin .neq (.t 25) (.t 28)) 23 false false,[]),(og 30 (.pick (.t 23) (.c (.b true)) (.t 29)) 9 true false,[]),(ot 31 (.pick (.t 9) (.t 30) (.c (.b false))),[])]
abbrev i31r3:List IOper:=[oo 2 (.mv (.c (.i .i64 192)))]
abbrev i31r4:List IOper:=[oo 2 (.mv (.c (.i .i64 0)))]
abbrev i31c:ICode:=(.seq (.reg i31r0) (.seq (.reg i31r1) (.seq (.seq (.dreg i31r2) (.cond (.t 31) (.seq (.reg i31r3) .ret) .skip)) (.seq (.reg i31r4) .ret))))
def i31:IFn:={np:=1,N:=32,ct:=[31],code:=i31c,res:=[.t 2]}
theorem i31_eq:compF Tryz.prog Tryz.f31=some i31:=by kernel_rfl
abbrev i33r0:List IOper:=[oo 2 (.box (.t 0)),oo 4 (.mv (.c (.b false))),oo 5 (.mv (.c (.i .i64 0)))]
abbrev i33r1:List IOper:=[oo 7 (.ld true 3 (.t 2)),oo 8 (.call (.c (.fn 31 [])) [.t 7]),oo 9 (.bin .neq (.t 8) (.c (.i .i64 0))),ot 6 (.mv (.t 9))]
abbrev i33r2:List IOper:=[oo 4 (.mv (.c (.b false))),oo 5 (.mv (.c (.i .i64 192)))]
abbrev i33r3:List IOper:=[oo 11 (.mv (.t 1)),oo 12 (.call (.c (.fn 48 [])) [.t 11,.c (.i .i64 1099511627776)]),oo 13 (.not (.t 12)),ot 10 (.mv (.t 13))]
abbrev i33r4:List IOper:=[oo 4 (.mv (.c (.b false))),oo 5 (.mv (.c (.i .i64 2)))]
abbrev i33r5:List IOper:=[oo 14 (.fa 0 (.t 2)),oo 15 (.ld false 1 (.t 14)),oo 16 (.mv (.t 1)),oo 17 (.call (.c (.fn 48 [])) [.t 15,.t 16]),oo 4 (.mv (.t 17)),oo 5 (.mv (.c (.i .i64 0)))]
abbrev i33c:ICode:=(.seq (.reg i33r0) (.seq (.block 0 (.seq (.reg i33r1) (.cond (.t 6) (.seq (.reg i33r2) .ret) (.seq (.reg i33r3) (.cond (.t 10) (.seq (.reg i33r4) .ret) .skip))))) (.seq (.reg i33r5) .ret)))
def i33:IFn:={np:=2,N:=18,ct:=[6,10],code:=i33c,res:=[.t 4,.t 5]}
theorem i33_eq:compF Tryz.prog Tryz.f33=some i33:=by kernel_rfl
abbrev i35r0:List IOper:=[oo 2 (.box (.t 0)),oo 4 (.new [.i .i64 0,.i .i64 0,.i .i64 0]),oo 5 (.mv (.c (.i .i64 0)))]
abbrev i35r1:List IOper:=[oo 10 (.ld true 3 (.t 2)),oo 11 (.mv (.t 1)),oo 12 (.call (.c (.fn 33 [])) [.t 10,.t 11]),oo 9 (.mv (.t 12)),oo 13 (.ext (.t 9) 0),oo 14 (.ext (.t 9) 1),oo 6 (.mv (.t 13)),oo 7 (.mv (.t 14))]
abbrev i35r2:List IOper:=[oo 16 (.mv (.t 7)),oo 17 (.bin .neq (.t 16) (.c (.i .i64 0))),ot 15 (.mv (.t 17))]
abbrev i35r3:List IOper:=[oo 18 (.build [.i .i64 0,.i .i64 0,.i .i64 0] []),oo 19 (.mv (.t 7)),on_ (.st 3 (.t 4) (.t 18)),oo 5 (.mv (.t 19))]
abbrev i35r4:List IOper:=[oo 21 (.mv (.t 6)),oo 22 (.not (.t 21)),ot 20 (.mv (.t 22))]
abbrev i35r5:List IOper:=[oo 23 (.build [.i .i64 0,.i .i64 0,.i .i64 0] []),on_ (.st 3 (.t 4) (.t 23)),oo 5 (.mv (.c (.i .i64 8)))]
abbrev i35r6:List IOper:=[oo 25 (.fa 2 (.t 2)),oo 26 (.ld false 1 (.t 25)),oo 27 (.bin .eql (.t 26) (.c (.i .i64 8))),ot 24 (.mv (.t 27))]
abbrev i35r7:List IOper:=[oo 28 (.build [.i .i64 0,.i .i64 0,.i .i64 0] []),on_ (.st 3 (.t 4) (.t 28)),oo 5 (.mv (.c (.i .i64 4)))]
abbrev i35r8:List IOper:=[oo 29 (.fa 2 (.t 2)),oo 30 (.ld false 1 (.t 29)),oo 31 (.bin .add (.t 30) (.c (.i .i64 1))),oo 32 (.call (.c (.fn 68 [])) [.t 31]),oo 8 (.mv (.t 32))]
abbrev i35r9:List IOper:=[oo 33 (.mv (.t 1)),oo 34 (.mv (.t 8)),oo 35 (.bin .add (.t 33) (.t 34)),oo 36 (.mv (.t 8)),oo 37 (.fa 2 (.t 2)),oo 38 (.ld false 1 (.t 37)),oo 39 (.bin .add (.t 38) (.c (.i .i64 1))),oo 40 (.build [.i .i64 0,.i .i64 0,.i .i64 0] [(0,1,.t 35),(1,1,.t 36),(2,1,.t 39)]),on_ (.st 3 (.t 4) (.t 40)),oo 5 (.mv (.c (.i .i64 0)))]
abbrev i35c:ICode:=(.seq (.reg i35r0) (.seq (.reg i35r1) (.seq (.block 0 (.seq (.reg i35r2) (.cond (.t 15) (.seq (.reg i35r3) .ret) (.seq (.reg i35r4) (.cond (.t 20) (.seq (.reg i35r5) .ret) (.seq (.reg i35r6) (.cond (.t 24) (.seq (.reg i35r7) .ret) .skip))))))) (.seq (.reg i35r8) (.seq (.reg i35r9) .ret)))))
def i35:IFn:={np:=2,N:=41,ct:=[15,20,24],code:=i35c,res:=[.c 4 true 3,.t 5]}
theorem i35_eq:compF Tryz.prog Tryz.f35=some i35:=by kernel_rfl
abbrev i39r0:List IOper:=[oo 10 (.mv (.c (.s [])))]
abbrev i39r1:List IOper:=[oo 11 (.mv (.t 0)),oo 12 (.mv (.t 1)),oo 13 (.mv (.t 2)),oo 14 (.mv (.t 3)),oo 15 (.mv (.t 4)),oo 16 (.lenS (.t 15)),oo 17 (.i2i .u8 (.t 16)),oo 18 (.bsl [.i .u8 0,.i .u8 0,.i .u8 0,.i .u8 0,.i .u8 0,.i .u8 0,.i .u8 0,.i .u8 0,.i .u8 0,.i .u8 0,.i .u8 0,.i .u8 0] 12 [(0,1,.t 11),(1,1,.c (.i .u8 0)),(2,1,.c (.i .u8 0)),(3,1,.t 12),(4,1,.c (.i .u8 0)),(5,1,.t 13),(6,1,.c (.i .u8 0)),(7,1,.c (.i .u8 0)),(8,1,.t 14),(9,1,.c (.i .u8 0)),(10,1,.c (.i .u8 0)),(11,1,.t 17)]),oo 19 (.b2s (.t 18)),oo 20 (.mv (.t 4)),oo 21 (.bin .add (.t 19) (.t 20)),oo 10 (.mv (.t 21))]
abbrev i39c:ICode:=(.seq (.reg i39r0) (.seq (.reg i39r1) .ret))
def i39:IFn:={np:=5,N:=22,ct:=[],code:=i39c,res:=[.t 10]}
theorem i39_eq:compF Tryz.prog Tryz.f39=some i39:=by kernel_rfl
abbrev i44r0:List IOper:=[oo 2 (.box (.t 0)),oo 3 (.box (.t 1)),oo 4 (.mv (.c (.nf)))]
abbrev i44r1:List IOper:=[oo 5 (.mkf 76 [.t 2,.t 3]),oo 4 (.mv (.t 5))]
abbrev i44c:ICode:=(.seq (.reg i44r0) (.seq (.reg i44r1) .ret))
def i44:IFn:={np:=2,N:=6,ct:=[],code:=i44c,res:=[.t 4]}
theorem i44_eq:compF Tryz.prog Tryz.f44=some i44:=by kernel_rfl
abbrev i45r0:List IOper:=[oo 4 (.mv (.c (.s [])))]
abbrev i45r1:List IOper:=[oo 7 (.mv (.t 1)),oo 8 (.mks 1 1 [.i .u8 0] (.t 7) (.t 7)),oo 5 (.mv (.t 8))]
abbrev i45r2:List IOper:=[oo 9 (.mv (.t 5)),oo 10 (.lenV (.t 9)),oo 11 (.mv (.c (.i .i64 0)))]
abbrev i45r3:List IOper:=[ot 12 (.bin .lss (.t 11) (.t 10))]
abbrev i45r4:List IOper:=[oo 13 (.mv (.t 11)),oo 6 (.mv (.t 13))]
abbrev i45r5:List IOper:=[oo 14 (.mv (.t 5)),oo 15 (.mv (.t 1)),oo 16 (.bin .sub (.t 15) (.c (.i .i64 1))),oo 17 (.mv (.t 6)),oo 18 (.bin .sub (.t 16) (.t 17)),oo 19 (.mv (.t 0)),oo 20 (.mv (.t 6)),oo 21 (.bin .mul (.c (.i .i64 8)) (.t 20)),oo 22 (.bin .shr (.t 19) (.t 21)),oo 23 (.i2i .u8 (.t 22)),oo 24 (.ixaV 1 (.t 14) (.t 18)),on_ (.st 1 (.t 24) (.t 23))]
abbrev i45r6:List IOper:=[oo 25 (.bin .add (.t 11) (.c (.i .i64 1))),oo 11 (.mv (.t 25))]
abbrev i45l7:ICode:=(.seq (.reg i45r3) (.seq (.cond (.t 12) .skip (.exit 0)) (.seq (.block 1 (.seq (.reg i45r4) (.reg i45r5))) (.reg i45r6))))
abbrev i45r8:List IOper:=[oo 26 (.mv (.t 5)),oo 27 (.b2s (.t 26)),oo 4 (.mv (.t 27))]
abbrev i45c:ICode:=(.seq (.reg i45r0) (.seq (.reg i45r1) (.seq (.seq (.reg i45r2) (.block 0 (.loop i45l7))) (.seq (.reg i45r8) .ret))))
def i45:IFn:={np:=2,N:=28,ct:=[12],code:=i45c,res:=[.t 4]}
theorem i45_eq:compF Tryz.prog Tryz.f45=some i45:=by kernel_rfl
abbrev i48r0:List IOper:=[oo 4 (.mv (.c (.b false)))]
abbrev i48r1:List IOper:=[oo 5 (.mv (.t 0)),oo 6 (.bin .geq (.t 5) (.c (.i .i64 0))),ot 7 (.mv (.t 6)),og 8 (.mv (.t 0)) 7 true false,og 9 (.mv (.t 1)) 7 true false,og 10 (.bin .leq (.t 8) (.t 9)) 7 true false,oo 11 (.pick (.t 7) (.t 10) (.c (.b false))),oo 4 (.mv (.t 11))]
abbrev i48c:ICode:=(.seq (.reg i48r0) (.seq (.reg i48r1) .ret))
def i48:IFn:={np:=2,N:=12,ct:=[],code:=i48c,res:=[.t 4]}
theorem i48_eq:compF Tryz.prog Tryz.f48=some i48:=by kernel_rfl
abbrev i49r0:List IOper:=[oo 5 .rcv,oo 6 (.tas 94 (.agg [.i .i64 0]) (.t 5)),oo 4 (.mv (.t 6)),oo 7 (.ext (.t 4) 0),oo 8 (.ext (.t 4) 1),oo 2 (.new [.i .i64 0]),on_ (.st 1 (.t 2) (.t 7)),oo 3 (.mv (.t 8))]
abbrev i49r1:List IOper:=[ot 9 (.mv (.t 3))]
abbrev i49r2:List (IOper×List Nat):=[(oo 10 (.build [.i .i64 0,.i .i64 0,.i .i64 0,.i .i64 0,.s []] []),[]),(oo 11 (.fa 0 (.t 2)),[0]),(oo 12 (.ld false 1 (.t 11)),[0]),(on_ (.st 5 (.t 0) (.t 10)),[1,2]),(on_ (.st 1 (.t 1) (.t 12)),[])]
abbrev i49c:ICode:=(.seq (.reg i49r0) (.seq (.reg i49r1) (.cond (.t 9) (.dreg i49r2) .skip)))
def i49:IFn:={np:=2,N:=13,ct:=[9],code:=i49c,res:=[]}
theorem i49_eq:compF Tryz.prog Tryz.f49=some i49:=by kernel_rfl
abbrev i50r0:List IOper:=[oo 2 (.new [.i .i64 0,.i .i64 0,.i .i64 0,.i .i64 0,.s []])]
abbrev i50r1:List IOper:=[oo 9 (.mv (.t 0)),oo 10 (.lenS (.t 9)),oo 11 (.bin .leq (.t 10) (.c (.i .i64 1200))),oo 12 (.call (.c (.fn 59 [])) [.t 11,.c (.i .i64 3)])]
abbrev i50r2:List IOper:=[oo 13 (.mv (.t 0)),oo 14 (.lenS (.t 13)),oo 15 (.bin .geq (.t 14) (.c (.i .i64 12))),oo 16 (.call (.c (.fn 59 [])) [.t 15,.c (.i .i64 7)])]
abbrev i50r3:List IOper:=[oo 17 (.mv (.t 0)),oo 18 (.mkm 78 [.t 17]),oo 3 (.mv (.t 18))]
abbrev i50r4:List IOper:=[oo 19 (.mv (.t 3)),oo 20 (.call (.t 19) [.c (.i .i64 9),.c (.i .i64 12)]),oo 4 (.mv (.t 20))]
abbrev i50r5:List IOper:=[oo 21 (.mv (.t 0)),oo 22 (.lenS (.t 21)),oo 23 (.bin .sub (.t 22) (.c (.i .i64 12))),oo 24 (.mv (.t 4)),oo 25 (.bin .geq (.t 23) (.t 24)),oo 26 (.call (.c (.fn 59 [])) [.t 25,.c (.i .i64 7)])]
abbrev i50r6:List IOper:=[oo 27 (.mv (.t 0)),oo 28 (.lenS (.t 27)),oo 29 (.bin .sub (.t 28) (.c (.i .i64 12))),oo 30 (.mv (.t 4)),oo 31 (.bin .eql (.t 29) (.t 30)),oo 32 (.call (.c (.fn 59 [])) [.t 31,.c (.i .i64 5)])]
abbrev i50r7:List IOper:=[oo 5 (.new [.i .i64 0,.i .i64 0,.i .i64 0,.i .i64 0,.s []])]
abbrev i50r8:List IOper:=[oo 33 (.fa 0 (.t 5)),oo 34 (.fa 1 (.t 5)),oo 35 (.fa 2 (.t 5)),oo 36 (.fa 3 (.t 5)),oo 37 (.build [.np,.np,.np,.np] [(0,1,.t 33),(1,1,.t 34),(2,1,.t 35),(3,1,.t 36)]),oo 38 (.mv (.c (.i .i64 0)))]
abbrev i50r9:List IOper:=[ot 39 (.bin .lss (.t 38) (.c (.i .i64 4)))]
abbrev i50r10:List IOper:=[oo 40 (.mv (.t 38)),oo 41 (.ixA 4 1 false (.t 37) (.t 38)),oo 6 (.mv (.t 40)),oo 7 (.mv (.t 41))]
abbrev i50r11:List IOper:=[oo 42 (.build [.i .i64 0,.i .i64 0,.i .i64 0,.i .i64 0,.i .i64 0] [(0,1,.c (.i .i64 0)),(1,1,.c (.i .i64 1)),(2,1,.c (.i .i64 4)),(3,1,.c (.i .i64 6)),(4,1,.c (.i .i64 9))]),oo 8 (.new [.i .i64 0,.i .i64 0,.i .i64 0,.i .i64 0,.i .i64 0]),on_ (.st 5 (.t 8) (.t 42))]
abbrev i50r12:List (IOper×List Nat):=[(oo 43 (.mv (.t 7)),[]),(oo 44 (.mv (.t 3)),[0]),(oo 45 (.mv (.t 6)),[0,1]),(oo 46 (.ixaA 5 1 (.t 8) (.t 45)),[0,1]),(oo 47 (.ld false 1 (.t 46)),[0,1]),(oo 48 (.mv (.t 6)),[0,1,2,3,4]),(oo 49 (.bin .add (.t 48) (.c (.i .i64 1))),[0,1,2,3,4]),(oo 50 (.ixaA 5 1 (.t 8) (.t 49)),[0,1,2,3,4]),(oo 51 (.ld false 1 (.t 50)),[0,1,2,3,4]),(oo 52 (.call (.t 44) [.t 47,.t 51]),[0]),(oo 53 (.nck (.t 43)),[]),(on_ (.st 1 (.t 53) (.t 52)),[])]
abbrev i50r13:List IOper:=[oo 54 (.bin .add (.t 38) (.c (.i .i64 1))),oo 38 (.mv (.t 54))]
abbrev i50l14:ICode:=(.seq (.reg i50r9) (.seq (.cond (.t 39) .skip (.exit 0)) (.seq (.block 1 (.seq (.reg i50r10) (.seq (.reg i50r11) (.dreg i50r12)))) (.reg i50r13))))
abbrev i50r15:List IOper:=[oo 55 (.mv (.t 0)),oo 56 (.slS (.t 55) (some (.c (.i .i64 12))) none),oo 57 (.fa 4 (.t 5)),on_ (.st 1 (.t 57) (.t 56))]
abbrev i50r16:List IOper:=[oo 58 (.fa 1 (.t 5)),oo 59 (.ld false 1 (.t 58)),oo 60 (.bin .leq (.t 59) (.c (.i .i64 4000))),ot 61 (.mv (.t 60)),og 62 (.mv (.t 4)) 61 true false,og 63 (.bin .leq (.t 62) (.c (.i .i64 1100))) 61 true false,oo 64 (.pick (.t 61) (.t 63) (.c (.b false))),ot 65 (.mv (.t 64)),og 66 (.fa 3 (.t 5)) 65 true false,og 67 (.ld false 1 (.t 66)) 65 true false,og 68 (.mv (.t 4)) 65 true false,og 69 (.bin .add (.t 67) (.t 68)) 65 true false,og 70 (.fa 1 (.t 5)) 65 true false,og 71 (.ld false 1 (.t 70)) 65 true false,og 72 (.bin .leq (.t 69) (.t 71)) 65 true false,oo 73 (.pick (.t 65) (.t 72) (.c (.b false))),ot 74 (.mv (.t 73)),og 75 (.mv (.t 4)) 74 true false,og 76 (.bin .eql (.t 75) (.c (.i .i64 0))) 74 true false,og 77 (.fa 1 (.t 5)) 74 true false,og 78 (.ld false 1 (.t 77)) 74 true false,og 79 (.bin .eql (.t 78) (.c (.i .i64 0))) 74 true false,og 80 (.eqk false false [.b] (.t 76) (.t 79)) 74 true false,oo 81 (.pick (.t 74) (.t 80) (.c (.b false))),oo 82 (.call (.c (.fn 59 [])) [.t 81,.c (.i .i64 5)])]
abbrev i50r17:List IOper:=[oo 83 (.ld true 5 (.t 5)),on_ (.st 5 (.t 2) (.t 83))]
abbrev i50c:ICode:=(.seq (.reg i50r0) (.seq (.reg i50r1) (.seq (.reg i50r2) (.seq (.reg i50r3) (.seq (.reg i50r4) (.seq (.reg i50r5) (.seq (.reg i50r6) (.seq (.reg i50r7) (.seq (.seq (.reg i50r8) (.block 0 (.loop i50l14))) (.seq (.reg i50r15) (.seq (.reg i50r16) (.seq (.reg i50r17) .ret))))))))))))
def i50:IFn:={np:=1,N:=84,ct:=[39],code:=i50c,res:=[.c 2 true 5]}
theorem i50_eq:compF Tryz.prog Tryz.f50=some i50:=by kernel_rfl
abbrev i54r0:List IOper:=[oo 4 (.box (.t 1)),oo 5 (.mv (.c (.b false)))]
abbrev i54r1:List IOper:=[oo 7 (.ld true 5 (.t 4)),oo 8 (.build [.i .i64 0,.i .i64 0,.i .i64 0,.s [],.ns] [(0,5,.t 7)]),oo 6 (.new [.i .i64 0,.i .i64 0,.i .i64 0,.s [],.ns]),on_ (.st 5 (.t 6) (.t 8))]
abbrev i54r2:List (IOper×List Nat):=[(oo 9 (.fa 2 (.t 4)),[]),(oo 10 (.ld false 1 (.t 9)),[]),(oo 11 (.fa 0 (.t 2)),[0,1]),(oo 12 (.ld false 1 (.t 11)),[0,1]),(oo 13 (.bin .geq (.t 10) (.t 12)),[]),(ot 14 (.mv (.t 13)),[]),(og 15 (.fa 2 (.t 4)) 14 true false,[]),(og 16 (.ld false 1 (.t 15)) 14 true false,[]),(og 17 (.fa 0 (.t 2)) 14 true false,[6,7]),(og 18 (.ld false 1 (.t 17)) 14 true false,[6,7]),(og 19 (.bin .add (.t 18) (.c (.i .i64 4))) 14 true false,[6,7]),(og 20 (.mn (.t 19) [.c (.i .i64 65536)]) 14 true false,[6,7]),(og 21 (.bin .lss (.t 16) (.t 20)) 14 true false,[]),(oo 22 (.pick (.t 14) (.t 21) (.c (.b false))),[]),(ot 23 (.mv (.t 22)),[]),(og 24 (.mv (.t 0)) 23 true false,[]),(og 25 (.eqn false 0 (.t 24) (.c (.np))) 23 true false,[]),(og 26 (.mv (.t 25)) 23 true true,[]),(og 27 (.fa 2 (.t 4)) 26 false false,[]),(og 28 (.ld false 1 (.t 27)) 26 false false,[]),(og 29 (.mv (.t 0)) 26 false false,[18,19]),(og 30 (.nck (.t 29)) 26 false false,[18,19]),(og 31 (.fa 2 (.t 30)) 26 false false,[18,19]),(og 32 (.ld false 1 (.t 31)) 26 false false,[18,19]),(og 33 (.bin .gtr (.t 28) (.t 32)) 26 false false,[]),(og 34 (.pick (.t 26) (.c (.b true)) (.t 33)) 23 true false,[]),(oo 35 (.pick (.t 23) (.t 34) (.c (.b false))),[]),(ot 36 (.mv (.t 35)),[]),(og 37 (.ld true 5 (.t 6)) 36 true false,[]),(og 38 (.call (.c (.fn 55 [])) [.t 37]) 36 true false,[]),(oo 39 (.pick (.t 36) (.t 38) (.c (.b false))),[]),(ot 40 (.mv (.t 39)),[]),(og 41 (.fa 2 (.t 4)) 40 true false,[]),(og 42 (.ld false 1 (.t 41)) 40 true false,[]),(og 43 (.fa 0 (.t 2)) 40 true false,[32,33]),(og 44 (.ld false 1 (.t 43)) 40 true false,[32,33]),(og 45 (.bin .gtr (.t 42) (.t 44)) 40 true false,[]),(og 46 (.mv (.t 45)) 40 true true,[]),(og 47 (.ld true 5 (.t 6)) 46 false false,[]),(og 48 (.call (.c (.fn 56 [])) [.t 47]) 46 false false,[]),(og 49 (.not (.t 48)) 46 false false,[]),(og 50 (.pick (.t 46) (.c (.b true)) (.t 49)) 40 true false,[]),(oo 51 (.pick (.t 40) (.t 50) (.c (.b false))),[]),(oo 5 (.mv (.t 51)),[])]
abbrev i54c:ICode:=(.seq (.reg i54r0) (.seq (.reg i54r1) (.seq (.dreg i54r2) .ret)))
def i54:IFn:={np:=3,N:=52,ct:=[],code:=i54c,res:=[.t 5]}
theorem i54_eq:compF Tryz.prog Tryz.f54=some i54:=by kernel_rfl
abbrev i55r0:List IOper:=[oo 1 (.box (.t 0)),oo 2 (.mv (.c (.b false)))]
abbrev i55r1:List IOper:=[oo 6 (.fa 0 (.t 1)),oo 7 (.fa 0 (.t 6)),oo 8 (.ld false 1 (.t 7)),oo 9 (.call (.c (.fn 48 [])) [.t 8,.c (.i .i64 255)]),oo 10 (.not (.t 9)),ot 11 (.mv (.t 10)),og 12 (.fa 0 (.t 1)) 11 false false,og 13 (.fa 1 (.t 12)) 11 false false,og 14 (.ld false 1 (.t 13)) 11 false false,og 15 (.call (.c (.fn 48 [])) [.t 14,.c (.i .i64 4000)]) 11 false false,og 16 (.not (.t 15)) 11 false false,oo 17 (.pick (.t 11) (.c (.b true)) (.t 16)),ot 18 (.mv (.t 17)),og 19 (.fa 0 (.t 1)) 18 false false,og 20 (.fa 3 (.t 19)) 18 false false,og 21 (.ld false 1 (.t 20)) 18 false false,og 22 (.lenS (.t 21)) 18 false false,og 23 (.fa 0 (.t 1)) 18 false false,og 24 (.fa 1 (.t 23)) 18 false false,og 25 (.ld false 1 (.t 24)) 18 false false,og 26 (.bin .neq (.t 22) (.t 25)) 18 false false,oo 27 (.pick (.t 18) (.c (.b true)) (.t 26)),ot 28 (.mv (.t 27)),og 29 (.fa 0 (.t 1)) 28 false false,og 30 (.fa 4 (.t 29)) 28 false false,og 31 (.ld false 1 (.t 30)) 28 false false,og 32 (.lenV (.t 31)) 28 false false,og 33 (.bin .eql (.t 32) (.c (.i .i64 0))) 28 false false,og 34 (.fa 0 (.t 1)) 28 false false,og 35 (.fa 1 (.t 34)) 28 false false,og 36 (.ld false 1 (.t 35)) 28 false false,og 37 (.bin .eql (.t 36) (.c (.i .i64 0))) 28 false false,og 38 (.eqk true false [.b] (.t 33) (.t 37)) 28 false false,ot 39 (.pick (.t 28) (.c (.b true)) (.t 38))]
abbrev i55r2:List IOper:=[oo 2 (.mv (.c (.b false)))]
abbrev i55r3:List IOper:=[oo 40 (.fa 0 (.t 1)),oo 41 (.fa 4 (.t 40)),oo 42 (.ld false 1 (.t 41)),oo 43 (.mkf 80 [.t 1]),oo 44 (.call (.c (.fn 79 [])) [.t 42,.t 43]),ot 45 (.not (.t 44))]
abbrev i55r4:List IOper:=[oo 2 (.mv (.c (.b false)))]
abbrev i55r5:List IOper:=[oo 3 (.mv (.c (.i .i64 0)))]
abbrev i55r6:List (IOper×List Nat):=[(oo 46 (.fa 0 (.t 1)),[]),(oo 47 (.fa 4 (.t 46)),[]),(oo 48 (.ld false 1 (.t 47)),[]),(oo 49 (.call (.c (.fn 60 [])) [.t 48]),[]),(oo 50 (.fa 0 (.t 1)),[0,1,2,3]),(oo 51 (.fa 1 (.t 50)),[0,1,2,3]),(oo 52 (.ld false 1 (.t 51)),[0,1,2,3]),(oo 53 (.fa 0 (.t 1)),[0,1,2,3,4,5,6]),(oo 54 (.fa 1 (.t 53)),[0,1,2,3,4,5,6]),(oo 55 (.ld false 1 (.t 54)),[0,1,2,3,4,5,6]),(oo 56 (.build [.i .i64 0,.i .i64 0] [(0,1,.t 52),(1,1,.t 55)]),[0,1,2,3]),(oo 57 (.bsl [.i .i64 0,.i .i64 0] 1 [(0,2,.t 56)]),[0,1,2,3]),(oo 58 (.app 2 16 [.i .i64 0,.i .i64 0] (.t 49) (.t 57)),[]),(oo 59 (.lenV (.t 58)),[]),(oo 60 (.mv (.c (.i .i64 0))),[0,1,2,3,4,5,6,7,8,9,10,11,12,13])]
abbrev i55r7:List IOper:=[ot 61 (.bin .lss (.t 60) (.t 59))]
abbrev i55r8:List IOper:=[oo 62 (.ixaV 2 (.t 58) (.t 60)),oo 63 (.ld true 2 (.t 62)),oo 5 (.new [.i .i64 0,.i .i64 0]),on_ (.st 2 (.t 5) (.t 63))]
abbrev i55r9:List IOper:=[oo 64 (.fa 0 (.t 1)),oo 65 (.fa 3 (.t 64)),oo 66 (.ld false 1 (.t 65)),oo 67 (.mv (.t 3)),oo 68 (.ixaA 2 1 (.t 5) (.c (.i .i64 0))),oo 69 (.ld false 1 (.t 68)),oo 70 (.slS (.t 66) (some (.t 67)) (some (.t 69))),oo 71 (.call (.c (.fn 81 [])) [.t 70,.c (.s [0])]),ot 72 (.bin .neq (.t 71) (.c (.s [])))]
abbrev i55r10:List IOper:=[oo 2 (.mv (.c (.b false)))]
abbrev i55r11:List IOper:=[oo 73 (.ixaA 2 1 (.t 5) (.c (.i .i64 1))),oo 74 (.ld false 1 (.t 73)),oo 3 (.mv (.t 74))]
abbrev i55r12:List IOper:=[oo 75 (.bin .add (.t 60) (.c (.i .i64 1))),oo 60 (.mv (.t 75))]
abbrev i55l13:ICode:=(.seq (.reg i55r7) (.seq (.cond (.t 61) .skip (.exit 0)) (.seq (.block 1 (.seq (.reg i55r8) (.seq (.seq (.reg i55r9) (.cond (.t 72) (.seq (.reg i55r10) .ret) .skip)) (.reg i55r11)))) (.reg i55r12))))
abbrev i55r14:List IOper:=[oo 2 (.mv (.c (.b true)))]
abbrev i55c:ICode:=(.seq (.reg i55r0) (.seq (.seq (.reg i55r1) (.cond (.t 39) (.seq (.reg i55r2) .ret) .skip)) (.seq (.seq (.reg i55r3) (.cond (.t 45) (.seq (.reg i55r4) .ret) .skip)) (.seq (.reg i55r5) (.seq (.seq (.dreg i55r6) (.block 0 (.loop i55l13))) (.seq (.reg i55r14) .ret))))))
def i55:IFn:={np:=1,N:=76,ct:=[39,45,61,72],code:=i55c,res:=[.t 2]}
theorem i55_eq:compF Tryz.prog Tryz.f55=some i55:=by kernel_rfl
abbrev i56r0:List IOper:=[oo 1 (.box (.t 0)),oo 2 (.mv (.c (.b false)))]
abbrev i56r1:List (IOper×List Nat):=[(oo 3 (.fa 0 (.t 1)),[]),(oo 4 (.fa 1 (.t 3)),[]),(oo 5 (.ld false 1 (.t 4)),[]),(oo 6 (.bin .eql (.t 5) (.c (.i .i64 0))),[]),(ot 7 (.mv (.t 6)),[]),(og 8 (.fa 0 (.t 1)) 7 false false,[]),(og 9 (.fa 4 (.t 8)) 7 false false,[]),(og 10 (.ld false 1 (.t 9)) 7 false false,[]),(og 11 (.lenV (.t 10)) 7 false false,[]),(og 12 (.bin .eql (.t 11) (.c (.i .i64 1))) 7 false false,[]),(og 13 (.mv (.t 12)) 7 false true,[]),(og 14 (.fa 0 (.t 1)) 13 true false,[]),(og 15 (.fa 4 (.t 14)) 13 true false,[]),(og 16 (.ld false 1 (.t 15)) 13 true false,[]),(og 17 (.ixaV 2 (.t 16) (.c (.i .i64 0))) 13 true false,[]),(og 18 (.ld true 2 (.t 17)) 13 true false,[]),(og 19 (.fa 0 (.t 1)) 13 true false,[11,12,13,14,15]),(og 20 (.fa 1 (.t 19)) 13 true false,[11,12,13,14,15]),(og 21 (.ld false 1 (.t 20)) 13 true false,[11,12,13,14,15]),(og 22 (.build [.i .i64 0,.i .i64 0] [(0,1,.c (.i .i64 0)),(1,1,.t 21)]) 13 true false,[11,12,13,14,15]),(og 23 (.eqk false true [.i,.i] (.t 18) (.t 22)) 13 true false,[]),(og 24 (.pick (.t 13) (.t 23) (.c (.b false))) 7 false false,[]),(oo 25 (.pick (.t 7) (.c (.b true)) (.t 24)),[]),(oo 2 (.mv (.t 25)),[])]
abbrev i56c:ICode:=(.seq (.reg i56r0) (.seq (.dreg i56r1) .ret))
def i56:IFn:={np:=1,N:=26,ct:=[],code:=i56c,res:=[.t 2]}
theorem i56_eq:compF Tryz.prog Tryz.f56=some i56:=by kernel_rfl
abbrev i58r0:List IOper:=[oo 6 .rcv,oo 7 (.tas 94 (.agg [.i .i64 0]) (.t 6)),oo 5 (.mv (.t 7)),oo 8 (.ext (.t 5) 0),oo 9 (.ext (.t 5) 1),oo 3 (.new [.i .i64 0]),on_ (.st 1 (.t 3) (.t 8)),oo 4 (.mv (.t 9))]
abbrev i58r1:List IOper:=[ot 10 (.mv (.t 4))]
abbrev i58r2:List (IOper×List Nat):=[(oo 11 (.build [.i .i64 0,.ns] []),[]),(oo 12 (.fa 0 (.t 3)),[0]),(oo 13 (.ld false 1 (.t 12)),[0]),(on_ (.st 2 (.t 0) (.t 11)),[1,2]),(on_ (.st 1 (.t 1) (.c (.ns))),[1,2]),(on_ (.st 1 (.t 2) (.t 13)),[])]
abbrev i58c:ICode:=(.seq (.reg i58r0) (.seq (.reg i58r1) (.cond (.t 10) (.dreg i58r2) .skip)))
def i58:IFn:={np:=3,N:=14,ct:=[10],code:=i58c,res:=[]}
theorem i58_eq:compF Tryz.prog Tryz.f58=some i58:=by kernel_rfl
abbrev i59r0:List IOper:=[oo 4 (.mv (.t 0)),ot 5 (.not (.t 4))]
abbrev i59r1:List IOper:=[oo 6 (.mv (.t 1)),oo 7 (.build [.i .i64 0] [(0,1,.t 6)]),oo 8 (.mki 94 (.t 7)),on_ (.pan (.t 8))]
abbrev i59c:ICode:=(.seq (.reg i59r0) (.cond (.t 5) (.reg i59r1) .skip))
def i59:IFn:={np:=2,N:=9,ct:=[5],code:=i59c,res:=[]}
theorem i59_eq:compF Tryz.prog Tryz.f59=some i59:=by kernel_rfl
abbrev i60r0:List IOper:=[oo 2 (.mv (.c (.ns)))]
abbrev i60r1:List IOper:=[oo 3 (.mv (.t 0)),ot 4 (.eqn false 1 (.t 3) (.c (.ns)))]
abbrev i60r2:List IOper:=[oo 2 (.mv (.c (.ns)))]
abbrev i60r3:List IOper:=[oo 5 (.bsl [] 0 []),oo 6 (.mv (.t 0)),oo 7 (.app 2 16 [.i .i64 0,.i .i64 0] (.t 5) (.t 6)),oo 2 (.mv (.t 7))]
abbrev i60c:ICode:=(.seq (.reg i60r0) (.seq (.seq (.reg i60r1) (.cond (.t 4) (.seq (.reg i60r2) .ret) .skip)) (.seq (.reg i60r3) .ret)))
def i60:IFn:={np:=1,N:=8,ct:=[4],code:=i60c,res:=[.t 2]}
theorem i60_eq:compF Tryz.prog Tryz.f60=some i60:=by kernel_rfl
abbrev i61r0:List IOper:=[oo 6 (.mv (.c (.i .i64 0))),oo 7 (.mv (.c (.b false)))]
abbrev i61r1:List IOper:=[oo 12 (.mv (.t 0)),oo 13 (.lenV (.t 12)),oo 8 (.mv (.t 13))]
abbrev i61r2:List IOper:=[oo 14 (.mv (.t 8)),oo 9 (.mv (.c (.i .i64 0))),oo 10 (.mv (.t 14))]
abbrev i61r3:List IOper:=[oo 15 (.mv (.t 9)),oo 16 (.mv (.t 10)),ot 17 (.bin .lss (.t 15) (.t 16))]
abbrev i61r4:List IOper:=[oo 18 (.mv (.t 9)),oo 19 (.mv (.t 10)),oo 20 (.bin .add (.t 18) (.t 19)),oo 21 (.i2i .u64 (.t 20)),oo 22 (.bin .shr (.t 21) (.c (.i .u64 1))),oo 23 (.i2i .i64 (.t 22)),oo 11 (.mv (.t 23))]
abbrev i61r5:List IOper:=[oo 24 (.mv (.t 2)),oo 25 (.mv (.t 0)),oo 26 (.mv (.t 11)),oo 27 (.ixaV 5 (.t 25) (.t 26)),oo 28 (.ld true 5 (.t 27)),oo 29 (.mv (.t 1)),oo 30 (.call (.t 24) [.t 28,.t 29]),ot 31 (.bin .lss (.t 30) (.c (.i .i64 0)))]
abbrev i61r6:List IOper:=[oo 32 (.mv (.t 11)),oo 33 (.bin .add (.t 32) (.c (.i .i64 1))),oo 9 (.mv (.t 33))]
abbrev i61r7:List IOper:=[oo 34 (.mv (.t 11)),oo 10 (.mv (.t 34))]
abbrev i61l8:ICode:=(.seq (.seq (.reg i61r3) (.cond (.t 17) .skip (.exit 0))) (.block 1 (.seq (.reg i61r4) (.seq (.reg i61r5) (.cond (.t 31) (.reg i61r6) (.reg i61r7))))))
abbrev i61r9:List IOper:=[oo 35 (.mv (.t 9)),oo 36 (.mv (.t 9)),oo 37 (.mv (.t 8)),oo 38 (.bin .lss (.t 36) (.t 37)),ot 39 (.mv (.t 38)),og 40 (.mv (.t 2)) 39 true false,og 41 (.mv (.t 0)) 39 true false,og 42 (.mv (.t 9)) 39 true false,og 43 (.ixaV 5 (.t 41) (.t 42)) 39 true false,og 44 (.ld true 5 (.t 43)) 39 true false,og 45 (.mv (.t 1)) 39 true false,og 46 (.call (.t 40) [.t 44,.t 45]) 39 true false,og 47 (.bin .eql (.t 46) (.c (.i .i64 0))) 39 true false,oo 48 (.pick (.t 39) (.t 47) (.c (.b false))),oo 6 (.mv (.t 35)),oo 7 (.mv (.t 48))]
abbrev i61c:ICode:=(.seq (.reg i61r0) (.seq (.reg i61r1) (.seq (.reg i61r2) (.seq (.block 0 (.loop i61l8)) (.seq (.reg i61r9) .ret)))))
def i61:IFn:={np:=3,N:=49,ct:=[17,31],code:=i61c,res:=[.t 6,.t 7]}
theorem i61_eq:compF Tryz.prog Tryz.f61=some i61:=by kernel_rfl
abbrev i62r0:List IOper:=[oo 2 (.box (.t 0)),oo 4 (.mv (.c (.i .i64 0)))]
abbrev i62r1:List IOper:=[oo 5 (.fa 2 (.t 2)),oo 6 (.ld false 1 (.t 5)),oo 7 (.mv (.t 1)),oo 8 (.call (.c (.fn 63 [])) [.t 6,.t 7]),oo 4 (.mv (.t 8))]
abbrev i62c:ICode:=(.seq (.reg i62r0) (.seq (.reg i62r1) .ret))
def i62:IFn:={np:=2,N:=9,ct:=[],code:=i62c,res:=[.t 4]}
theorem i62_eq:compF Tryz.prog Tryz.f62=some i62:=by kernel_rfl
abbrev i63r0:List IOper:=[oo 4 (.mv (.c (.i .i64 0)))]
abbrev i63r1:List IOper:=[oo 7 (.mv (.t 0)),oo 8 (.call (.c (.fn 84 [])) [.t 7]),oo 5 (.mv (.t 8))]
abbrev i63r2:List IOper:=[oo 9 (.mv (.t 1)),oo 10 (.call (.c (.fn 84 [])) [.t 9]),oo 6 (.mv (.t 10))]
abbrev i63r3:List IOper:=[ot 11 (.mv (.t 5))]
abbrev i63r4:List IOper:=[ot 12 (.mv (.t 6))]
abbrev i63r5:List IOper:=[oo 4 (.mv (.c (.i .i64 0)))]
abbrev i63r6:List IOper:=[oo 4 (.mv (.c (.i .i64 (-1))))]
abbrev i63r7:List IOper:=[ot 13 (.mv (.t 6))]
abbrev i63r8:List IOper:=[oo 4 (.mv (.c (.i .i64 1)))]
abbrev i63r9:List IOper:=[oo 14 (.mv (.t 0)),oo 15 (.mv (.t 1)),ot 16 (.bin .lss (.t 14) (.t 15))]
abbrev i63r10:List IOper:=[oo 4 (.mv (.c (.i .i64 (-1))))]
abbrev i63r11:List IOper:=[oo 17 (.mv (.t 0)),oo 18 (.mv (.t 1)),ot 19 (.bin .gtr (.t 17) (.t 18))]
abbrev i63r12:List IOper:=[oo 4 (.mv (.c (.i .i64 1)))]
abbrev i63r13:List IOper:=[oo 4 (.mv (.c (.i .i64 0)))]
abbrev i63c:ICode:=(.seq (.reg i63r0) (.seq (.reg i63r1) (.seq (.reg i63r2) (.seq (.seq (.reg i63r3) (.cond (.t 11) (.seq (.seq (.reg i63r4) (.cond (.t 12) (.seq (.reg i63r5) .ret) .skip)) (.seq (.reg i63r6) .ret)) .skip)) (.seq (.seq (.reg i63r7) (.cond (.t 13) (.seq (.reg i63r8) .ret) .skip)) (.seq (.seq (.reg i63r9) (.cond (.t 16) (.seq (.reg i63r10) .ret) .skip)) (.seq (.seq (.reg i63r11) (.cond (.t 19) (.seq (.reg i63r12) .ret) .skip)) (.seq (.reg i63r13) .ret))))))))
def i63:IFn:={np:=2,N:=20,ct:=[11,12,13,16,19],code:=i63c,res:=[.t 4]}
theorem i63_eq:compF Tryz.prog Tryz.f63=some i63:=by kernel_rfl
abbrev i64r0:List IOper:=[oo 6 (.mv (.c (.ns)))]
abbrev i64r1:List IOper:=[oo 10 (.mv (.t 0)),oo 11 (.mv (.t 1)),oo 12 (.slV 5 (.t 10) (some (.t 11)) none none)]
abbrev i64r2:List IOper:=[oo 13 (.mv (.t 2)),oo 14 (.lenV (.t 13)),oo 7 (.mv (.t 14))]
abbrev i64r3:List IOper:=[oo 15 (.mv (.t 7)),ot 16 (.bin .eql (.t 15) (.c (.i .i64 0)))]
abbrev i64r4:List IOper:=[oo 17 (.mv (.t 0)),oo 6 (.mv (.t 17))]
abbrev i64r5:List IOper:=[oo 18 (.mv (.t 0)),oo 19 (.lenV (.t 18)),oo 8 (.mv (.t 19))]
abbrev i64r6:List IOper:=[oo 20 (.mv (.t 1)),oo 21 (.mv (.t 8)),ot 22 (.bin .eql (.t 20) (.t 21))]
abbrev i64r7:List IOper:=[oo 23 (.mv (.t 0)),oo 24 (.mv (.t 2)),oo 25 (.app 5 64 [.i .i64 0,.i .i64 0,.i .i64 0,.s [],.ns] (.t 23) (.t 24)),oo 6 (.mv (.t 25))]
abbrev i64r8:List IOper:=[oo 26 (.mv (.t 8)),oo 27 (.mv (.t 7)),oo 28 (.bin .add (.t 26) (.t 27)),oo 29 (.mv (.t 0)),oo 30 (.capV (.t 29)),ot 31 (.bin .gtr (.t 28) (.t 30))]
abbrev i64r9:List IOper:=[oo 32 (.mv (.t 0)),oo 33 (.mv (.t 1)),oo 34 (.slV 5 (.t 32) none (some (.t 33)) none),oo 35 (.mv (.t 8)),oo 36 (.mv (.t 7)),oo 37 (.bin .add (.t 35) (.t 36)),oo 38 (.mv (.t 1)),oo 39 (.bin .sub (.t 37) (.t 38)),oo 40 (.apz 5 64 [.i .i64 0,.i .i64 0,.i .i64 0,.s [],.ns] (.t 34) (.t 39)),oo 9 (.mv (.t 40))]
abbrev i64r10:List IOper:=[oo 41 (.mv (.t 9)),oo 42 (.mv (.t 1)),oo 43 (.slV 5 (.t 41) (some (.t 42)) none none),oo 44 (.mv (.t 2)),oo 45 (.cpy 5 (.t 43) (.t 44))]
abbrev i64r11:List (IOper×List Nat):=[(oo 46 (.mv (.t 9)),[]),(oo 47 (.mv (.t 1)),[0]),(oo 48 (.mv (.t 7)),[0,1]),(oo 49 (.bin .add (.t 47) (.t 48)),[0]),(oo 50 (.slV 5 (.t 46) (some (.t 49)) none none),[]),(oo 51 (.mv (.t 0)),[0,1,2,3,4]),(oo 52 (.mv (.t 1)),[0,1,2,3,4,5]),(oo 53 (.slV 5 (.t 51) (some (.t 52)) none none),[0,1,2,3,4]),(oo 54 (.cpy 5 (.t 50) (.t 53)),[])]
abbrev i64r12:List IOper:=[oo 55 (.mv (.t 9)),oo 6 (.mv (.t 55))]
abbrev i64r13:List IOper:=[oo 56 (.mv (.t 0)),oo 57 (.mv (.t 8)),oo 58 (.mv (.t 7)),oo 59 (.bin .add (.t 57) (.t 58)),oo 60 (.slV 5 (.t 56) none (some (.t 59)) none),oo 0 (.mv (.t 60))]
abbrev i64r14:List IOper:=[oo 61 (.mv (.t 2)),oo 62 (.mv (.t 0)),oo 63 (.mv (.t 1)),oo 64 (.mv (.t 7)),oo 65 (.bin .add (.t 63) (.t 64)),oo 66 (.slV 5 (.t 62) (some (.t 65)) none none),oo 67 (.call (.c (.fn 85 [])) [.t 61,.t 66]),ot 68 (.not (.t 67))]
abbrev i64r15:List (IOper×List Nat):=[(oo 69 (.mv (.t 0)),[]),(oo 70 (.mv (.t 1)),[0]),(oo 71 (.mv (.t 7)),[0,1]),(oo 72 (.bin .add (.t 70) (.t 71)),[0]),(oo 73 (.slV 5 (.t 69) (some (.t 72)) none none),[]),(oo 74 (.mv (.t 0)),[0,1,2,3,4]),(oo 75 (.mv (.t 1)),[0,1,2,3,4,5]),(oo 76 (.slV 5 (.t 74) (some (.t 75)) none none),[0,1,2,3,4]),(oo 77 (.cpy 5 (.t 73) (.t 76)),[])]
abbrev i64r16:List IOper:=[oo 78 (.mv (.t 0)),oo 79 (.mv (.t 1)),oo 80 (.slV 5 (.t 78) (some (.t 79)) none none),oo 81 (.mv (.t 2)),oo 82 (.cpy 5 (.t 80) (.t 81))]
abbrev i64r17:List IOper:=[oo 83 (.mv (.t 0)),oo 6 (.mv (.t 83))]
abbrev i64r18:List IOper:=[oo 84 (.mv (.t 0)),oo 85 (.mv (.t 8)),oo 86 (.slV 5 (.t 84) (some (.t 85)) none none),oo 87 (.mv (.t 2)),oo 88 (.cpy 5 (.t 86) (.t 87))]
abbrev i64r19:List IOper:=[oo 89 (.mv (.t 0)),oo 90 (.mv (.t 1)),oo 91 (.slV 5 (.t 89) (some (.t 90)) none none),oo 92 (.mv (.t 7)),oo 93 (.call (.c (.fn 86 [])) [.t 91,.t 92])]
abbrev i64r20:List IOper:=[oo 94 (.mv (.t 0)),oo 6 (.mv (.t 94))]
abbrev i64c:ICode:=(.seq (.reg i64r0) (.seq (.reg i64r1) (.seq (.reg i64r2) (.seq (.seq (.reg i64r3) (.cond (.t 16) (.seq (.reg i64r4) .ret) .skip)) (.seq (.reg i64r5) (.seq (.seq (.reg i64r6) (.cond (.t 22) (.seq (.reg i64r7) .ret) .skip)) (.seq (.seq (.reg i64r8) (.cond (.t 31) (.seq (.reg i64r9) (.seq (.reg i64r10) (.seq (.dreg i64r11) (.seq (.reg i64r12) .ret)))) .skip)) (.seq (.reg i64r13) (.seq (.seq (.reg i64r14) (.cond (.t 68) (.seq (.dreg i64r15) (.seq (.reg i64r16) (.seq (.reg i64r17) .ret))) .skip)) (.seq (.reg i64r18) (.seq (.reg i64r19) (.seq (.reg i64r20) .ret))))))))))))
def i64:IFn:={np:=3,N:=95,ct:=[16,22,31,68],code:=i64c,res:=[.t 6]}
theorem i64_eq:compF Tryz.prog Tryz.f64=some i64:=by kernel_rfl
abbrev i65r0:List IOper:=[oo 3 (.box (.t 1))]
abbrev i65r1:List (IOper×List Nat):=[(oo 13 (.mv (.t 0)),[]),(oo 14 (.nck (.t 13)),[]),(oo 15 (.fa 0 (.t 14)),[]),(oo 16 (.fa 0 (.t 15)),[]),(oo 17 (.ld false 1 (.t 16)),[]),(oo 18 (.fa 0 (.t 3)),[0,1,2,3,4]),(oo 19 (.ld false 1 (.t 18)),[0,1,2,3,4]),(oo 20 (.bin .eql (.t 17) (.t 19)),[]),(ot 21 (.mv (.t 20)),[]),(og 22 (.mv (.t 0)) 21 true false,[]),(og 23 (.nck (.t 22)) 21 true false,[]),(og 24 (.fa 0 (.t 23)) 21 true false,[]),(og 25 (.fa 1 (.t 24)) 21 true false,[]),(og 26 (.ld false 1 (.t 25)) 21 true false,[]),(og 27 (.fa 1 (.t 3)) 21 true false,[9,10,11,12,13]),(og 28 (.ld false 1 (.t 27)) 21 true false,[9,10,11,12,13]),(og 29 (.bin .eql (.t 26) (.t 28)) 21 true false,[]),(oo 30 (.pick (.t 21) (.t 29) (.c (.b false))),[]),(oo 31 (.call (.c (.fn 59 [])) [.t 30,.c (.i .i64 5)]),[])]
abbrev i65r2:List IOper:=[oo 32 (.fa 3 (.t 3)),oo 33 (.ld false 1 (.t 32)),oo 34 (.fa 4 (.t 3)),oo 35 (.ld false 1 (.t 34)),oo 36 (.lenS (.t 35)),oo 37 (.bin .add (.t 33) (.t 36)),oo 4 (.mv (.t 37))]
abbrev i65r3:List IOper:=[oo 38 (.mv (.t 0)),oo 39 (.nck (.t 38)),oo 40 (.fa 0 (.t 39)),oo 41 (.fa 4 (.t 40)),oo 42 (.ld false 1 (.t 41)),oo 43 (.lenV (.t 42)),oo 44 (.mv (.c (.i .i64 0)))]
abbrev i65r4:List IOper:=[ot 45 (.bin .lss (.t 44) (.t 43))]
abbrev i65r5:List IOper:=[oo 46 (.ixaV 2 (.t 42) (.t 44)),oo 47 (.ld true 2 (.t 46)),oo 6 (.new [.i .i64 0,.i .i64 0]),on_ (.st 2 (.t 6) (.t 47))]
abbrev i65r6:List (IOper×List Nat):=[(oo 48 (.ixaA 2 1 (.t 6) (.c (.i .i64 0))),[]),(oo 49 (.ld false 1 (.t 48)),[]),(oo 50 (.fa 3 (.t 3)),[0,1]),(oo 51 (.ld false 1 (.t 50)),[0,1]),(oo 52 (.mx (.t 49) [.t 51]),[]),(oo 53 (.ixaA 2 1 (.t 6) (.c (.i .i64 1))),[0,1,2,3,4]),(oo 54 (.ld false 1 (.t 53)),[0,1,2,3,4]),(oo 55 (.mv (.t 4)),[0,1,2,3,4,5,6]),(oo 56 (.mn (.t 54) [.t 55]),[0,1,2,3,4]),(oo 7 (.mv (.t 52)),[5,6,7,8]),(oo 8 (.mv (.t 56)),[])]
abbrev i65r7:List (IOper×List Nat):=[(oo 57 (.mv (.t 7)),[]),(oo 58 (.mv (.t 8)),[0]),(oo 59 (.bin .geq (.t 57) (.t 58)),[]),(ot 60 (.mv (.t 59)),[]),(og 61 (.mv (.t 0)) 60 false false,[]),(og 62 (.nck (.t 61)) 60 false false,[]),(og 63 (.fa 0 (.t 62)) 60 false false,[]),(og 64 (.fa 3 (.t 63)) 60 false false,[]),(og 65 (.ld false 1 (.t 64)) 60 false false,[]),(og 66 (.mv (.t 7)) 60 false false,[4,5,6,7,8]),(og 67 (.mv (.t 8)) 60 false false,[4,5,6,7,8,9]),(og 68 (.slS (.t 65) (some (.t 66)) (some (.t 67))) 60 false false,[]),(og 69 (.fa 4 (.t 3)) 60 false false,[4,5,6,7,8,9,10,11]),(og 70 (.ld false 1 (.t 69)) 60 false false,[4,5,6,7,8,9,10,11]),(og 71 (.mv (.t 7)) 60 false false,[4,5,6,7,8,9,10,11,12,13]),(og 72 (.fa 3 (.t 3)) 60 false false,[4,5,6,7,8,9,10,11,12,13,14]),(og 73 (.ld false 1 (.t 72)) 60 false false,[4,5,6,7,8,9,10,11,12,13,14]),(og 74 (.bin .sub (.t 71) (.t 73)) 60 false false,[4,5,6,7,8,9,10,11,12,13]),(og 75 (.mv (.t 8)) 60 false false,[4,5,6,7,8,9,10,11,12,13,14,15,16,17]),(og 76 (.fa 3 (.t 3)) 60 false false,[4,5,6,7,8,9,10,11,12,13,14,15,16,17,18]),(og 77 (.ld false 1 (.t 76)) 60 false false,[4,5,6,7,8,9,10,11,12,13,14,15,16,17,18]),(og 78 (.bin .sub (.t 75) (.t 77)) 60 false false,[4,5,6,7,8,9,10,11,12,13,14,15,16,17]),(og 79 (.slS (.t 70) (some (.t 74)) (some (.t 78))) 60 false false,[4,5,6,7,8,9,10,11]),(og 80 (.bin .eql (.t 68) (.t 79)) 60 false false,[]),(oo 81 (.pick (.t 60) (.c (.b true)) (.t 80)),[]),(oo 82 (.call (.c (.fn 59 [])) [.t 81,.c (.i .i64 5)]),[])]
abbrev i65r8:List IOper:=[oo 83 (.bin .add (.t 44) (.c (.i .i64 1))),oo 44 (.mv (.t 83))]
abbrev i65l9:ICode:=(.seq (.reg i65r4) (.seq (.cond (.t 45) .skip (.exit 0)) (.seq (.block 1 (.seq (.reg i65r5) (.seq (.dreg i65r6) (.dreg i65r7)))) (.reg i65r8))))
abbrev i65r10:List (IOper×List Nat):=[(oo 84 (.mv (.t 0)),[]),(oo 85 (.mv (.t 0)),[0]),(oo 86 (.nck (.t 85)),[0]),(oo 87 (.fa 0 (.t 86)),[0]),(oo 88 (.fa 3 (.t 87)),[0]),(oo 89 (.ld false 1 (.t 88)),[0]),(oo 90 (.fa 3 (.t 3)),[0,1,2,3,4,5]),(oo 91 (.ld false 1 (.t 90)),[0,1,2,3,4,5]),(oo 92 (.slS (.t 89) none (some (.t 91))),[0]),(oo 93 (.fa 4 (.t 3)),[0,1,2,3,4,5,6,7,8]),(oo 94 (.ld false 1 (.t 93)),[0,1,2,3,4,5,6,7,8]),(oo 95 (.bin .add (.t 92) (.t 94)),[0]),(oo 96 (.mv (.t 0)),[0,1,2,3,4,5,6,7,8,9,10,11]),(oo 97 (.nck (.t 96)),[0,1,2,3,4,5,6,7,8,9,10,11]),(oo 98 (.fa 0 (.t 97)),[0,1,2,3,4,5,6,7,8,9,10,11]),(oo 99 (.fa 3 (.t 98)),[0,1,2,3,4,5,6,7,8,9,10,11]),(oo 100 (.ld false 1 (.t 99)),[0,1,2,3,4,5,6,7,8,9,10,11]),(oo 101 (.mv (.t 4)),[0,1,2,3,4,5,6,7,8,9,10,11,12,13,14,15,16]),(oo 102 (.slS (.t 100) (some (.t 101)) none),[0,1,2,3,4,5,6,7,8,9,10,11]),(oo 103 (.bin .add (.t 95) (.t 102)),[0]),(oo 104 (.nck (.t 84)),[]),(oo 105 (.fa 0 (.t 104)),[]),(oo 106 (.fa 3 (.t 105)),[]),(on_ (.st 1 (.t 106) (.t 103)),[])]
abbrev i65r11:List IOper:=[oo 107 (.fa 4 (.t 3)),oo 108 (.ld false 1 (.t 107)),ot 109 (.bin .eql (.t 108) (.c (.s [])))]
abbrev i65r12:List IOper:=[oo 110 (.fa 3 (.t 3)),oo 111 (.ld false 1 (.t 110)),oo 112 (.mv (.t 4)),oo 113 (.build [.i .i64 0,.i .i64 0] [(0,1,.t 111),(1,1,.t 112)]),oo 9 (.new [.i .i64 0,.i .i64 0]),on_ (.st 2 (.t 9) (.t 113))]
abbrev i65r13:List IOper:=[oo 10 (.mv (.c (.ns)))]
abbrev i65r14:List IOper:=[oo 114 (.mv (.t 0)),oo 115 (.nck (.t 114)),oo 116 (.fa 0 (.t 115)),oo 117 (.fa 4 (.t 116)),oo 118 (.ld false 1 (.t 117)),oo 119 (.lenV (.t 118)),oo 120 (.mv (.c (.i .i64 0)))]
abbrev i65r15:List IOper:=[ot 121 (.bin .lss (.t 120) (.t 119))]
abbrev i65r16:List IOper:=[oo 122 (.ixaV 2 (.t 118) (.t 120)),oo 123 (.ld true 2 (.t 122)),oo 12 (.new [.i .i64 0,.i .i64 0]),on_ (.st 2 (.t 12) (.t 123))]
abbrev i65r17:List IOper:=[oo 124 (.ixaA 2 1 (.t 12) (.c (.i .i64 1))),oo 125 (.ld false 1 (.t 124)),oo 126 (.ixaA 2 1 (.t 9) (.c (.i .i64 0))),oo 127 (.ld false 1 (.t 126)),oo 128 (.bin .lss (.t 125) (.t 127)),ot 129 (.mv (.t 128)),og 130 (.ixaA 2 1 (.t 12) (.c (.i .i64 0))) 129 false false,og 131 (.ld false 1 (.t 130)) 129 false false,og 132 (.ixaA 2 1 (.t 9) (.c (.i .i64 1))) 129 false false,og 133 (.ld false 1 (.t 132)) 129 false false,og 134 (.bin .gtr (.t 131) (.t 133)) 129 false false,ot 135 (.pick (.t 129) (.c (.b true)) (.t 134))]
abbrev i65r18:List IOper:=[oo 136 (.mv (.t 10)),oo 137 (.ld true 2 (.t 12)),oo 138 (.bsl [.i .i64 0,.i .i64 0] 1 [(0,2,.t 137)]),oo 139 (.app 2 16 [.i .i64 0,.i .i64 0] (.t 136) (.t 138)),oo 10 (.mv (.t 139))]
abbrev i65r19:List IOper:=[oo 140 (.ixaA 2 1 (.t 9) (.c (.i .i64 0))),oo 141 (.ld false 1 (.t 140)),oo 142 (.ixaA 2 1 (.t 12) (.c (.i .i64 0))),oo 143 (.ld false 1 (.t 142)),oo 144 (.mn (.t 141) [.t 143]),oo 145 (.ixaA 2 1 (.t 9) (.c (.i .i64 1))),oo 146 (.ld false 1 (.t 145)),oo 147 (.ixaA 2 1 (.t 12) (.c (.i .i64 1))),oo 148 (.ld false 1 (.t 147)),oo 149 (.mx (.t 146) [.t 148]),oo 150 (.build [.i .i64 0,.i .i64 0] [(0,1,.t 144),(1,1,.t 149)]),on_ (.st 2 (.t 9) (.t 150))]
abbrev i65r20:List IOper:=[oo 151 (.bin .add (.t 120) (.c (.i .i64 1))),oo 120 (.mv (.t 151))]
abbrev i65l21:ICode:=(.seq (.reg i65r15) (.seq (.cond (.t 121) .skip (.exit 2)) (.seq (.block 3 (.seq (.reg i65r16) (.seq (.reg i65r17) (.cond (.t 135) (.reg i65r18) (.reg i65r19))))) (.reg i65r20))))
abbrev i65r22:List IOper:=[oo 152 (.mv (.t 10)),oo 153 (.ld true 2 (.t 9)),oo 154 (.bsl [.i .i64 0,.i .i64 0] 1 [(0,2,.t 153)]),oo 155 (.app 2 16 [.i .i64 0,.i .i64 0] (.t 152) (.t 154)),oo 10 (.mv (.t 155))]
abbrev i65r23:List IOper:=[oo 156 (.mv (.t 10)),oo 157 (.call (.c (.fn 87 [])) [.t 156,.c (.fn 88 [])])]
abbrev i65r24:List IOper:=[oo 158 (.mv (.t 0)),oo 159 (.mv (.t 10)),oo 160 (.nck (.t 158)),oo 161 (.fa 0 (.t 160)),oo 162 (.fa 4 (.t 161)),on_ (.st 1 (.t 162) (.t 159))]
abbrev i65c:ICode:=(.seq (.reg i65r0) (.seq (.dreg i65r1) (.seq (.reg i65r2) (.seq (.seq (.reg i65r3) (.block 0 (.loop i65l9))) (.seq (.dreg i65r10) (.seq (.seq (.reg i65r11) (.cond (.t 109) .ret .skip)) (.seq (.reg i65r12) (.seq (.reg i65r13) (.seq (.seq (.reg i65r14) (.block 2 (.loop i65l21))) (.seq (.reg i65r22) (.seq (.reg i65r23) (.reg i65r24))))))))))))
def i65:IFn:={np:=2,N:=163,ct:=[45,109,121,135],code:=i65c,res:=[]}
theorem i65_eq:compF Tryz.prog Tryz.f65=some i65:=by kernel_rfl
abbrev i68r0:List IOper:=[oo 2 (.mv (.c (.i .i64 0)))]
abbrev i68r1:List IOper:=[oo 3 (.mv (.t 0)),oo 4 (.bin .sub (.t 3) (.c (.i .i64 1))),oo 5 (.bin .shl (.c (.i .i64 400)) (.t 4)),oo 6 (.mn (.t 5) [.c (.i .i64 6400)]),oo 2 (.mv (.t 6))]
abbrev i68c:ICode:=(.seq (.reg i68r0) (.seq (.reg i68r1) .ret))
def i68:IFn:={np:=1,N:=7,ct:=[],code:=i68c,res:=[.t 2]}
theorem i68_eq:compF Tryz.prog Tryz.f68=some i68:=by kernel_rfl
abbrev i76r0:List IOper:=[oo 6 (.fa 0 (.t 1)),oo 7 (.ld false 1 (.t 6)),oo 8 (.fa 2 (.t 1)),oo 9 (.ld false 1 (.t 8)),oo 10 (.lenS (.t 9)),oo 11 (.fa 1 (.t 1)),oo 12 (.ld false 1 (.t 11)),oo 13 (.build [.i .i64 0,.i .i64 0,.i .i64 0,.i .i64 0,.s []] [(0,1,.t 7),(1,1,.t 10),(2,1,.t 12)]),oo 4 (.new [.i .i64 0,.i .i64 0,.i .i64 0,.i .i64 0,.s []]),on_ (.st 5 (.t 4) (.t 13))]
abbrev i76r1:List IOper:=[oo 5 (.mv (.c (.b true)))]
abbrev i76r2:List IOper:=[oo 14 (.mv (.t 5)),ot 15 (.mv (.t 14)),og 16 (.fa 3 (.t 4)) 15 false false,og 17 (.ld false 1 (.t 16)) 15 false false,og 18 (.fa 1 (.t 4)) 15 false false,og 19 (.ld false 1 (.t 18)) 15 false false,og 20 (.bin .lss (.t 17) (.t 19)) 15 false false,ot 21 (.pick (.t 15) (.c (.b true)) (.t 20))]
abbrev i76r3:List IOper:=[oo 22 (.fa 2 (.t 1)),oo 23 (.ld false 1 (.t 22)),oo 24 (.fa 3 (.t 4)),oo 25 (.ld false 1 (.t 24)),oo 26 (.fa 3 (.t 4)),oo 27 (.ld false 1 (.t 26)),oo 28 (.ld false 1 (.t 2)),oo 29 (.bin .add (.t 27) (.t 28)),oo 30 (.fa 1 (.t 4)),oo 31 (.ld false 1 (.t 30)),oo 32 (.mn (.t 29) [.t 31]),oo 33 (.slS (.t 23) (some (.t 25)) (some (.t 32))),oo 34 (.fa 4 (.t 4)),on_ (.st 1 (.t 34) (.t 33))]
abbrev i76r4:List IOper:=[oo 35 (.mv (.t 0)),oo 36 (.ld true 5 (.t 4)),oo 37 (.call (.t 35) [.t 36]),ot 38 (.not (.t 37))]
abbrev i76r5:List IOper:=[oo 39 (.fa 3 (.t 4)),oo 40 (.ld false 1 (.t 39)),oo 41 (.fa 4 (.t 4)),oo 42 (.ld false 1 (.t 41)),oo 43 (.lenS (.t 42)),oo 44 (.bin .add (.t 40) (.t 43)),oo 45 (.fa 3 (.t 4)),on_ (.st 1 (.t 45) (.t 44))]
abbrev i76r6:List IOper:=[oo 5 (.mv (.c (.b false)))]
abbrev i76l7:ICode:=(.seq (.seq (.reg i76r2) (.cond (.t 21) .skip (.exit 0))) (.seq (.block 1 (.seq (.reg i76r3) (.seq (.seq (.reg i76r4) (.cond (.t 38) .ret .skip)) (.reg i76r5)))) (.reg i76r6)))
abbrev i76c:ICode:=(.seq (.reg i76r0) (.seq (.reg i76r1) (.block 0 (.loop i76l7))))
def i76:IFn:={np:=3,N:=46,ct:=[21,38],code:=i76c,res:=[]}
theorem i76_eq:compF Tryz.prog Tryz.f76=some i76:=by kernel_rfl
abbrev i78r0:List IOper:=[oo 6 (.mv (.c (.i .i64 0)))]
abbrev i78r1:List IOper:=[oo 7 (.mv (.c (.i .i64 0)))]
abbrev i78r2:List IOper:=[oo 9 (.mv (.t 1)),oo 8 (.mv (.t 9))]
abbrev i78r3:List IOper:=[oo 10 (.mv (.t 8)),oo 11 (.mv (.t 2)),ot 12 (.bin .lss (.t 10) (.t 11))]
abbrev i78r4:List IOper:=[oo 15 (.mv (.t 7)),oo 16 (.bin .shl (.t 15) (.c (.i .u64 8))),oo 17 (.mv (.t 0)),oo 18 (.mv (.t 8)),oo 19 (.ixS (.t 17) (.t 18)),oo 20 (.i2i .i64 (.t 19)),oo 21 (.bin .or (.t 16) (.t 20)),oo 7 (.mv (.t 21))]
abbrev i78r5:List IOper:=[oo 13 (.mv (.t 8)),oo 14 (.bin .add (.t 13) (.c (.i .i64 1))),oo 8 (.mv (.t 14))]
abbrev i78l6:ICode:=(.seq (.seq (.reg i78r3) (.cond (.t 12) .skip (.exit 0))) (.seq (.block 1 (.reg i78r4)) (.reg i78r5)))
abbrev i78r7:List IOper:=[oo 22 (.mv (.t 7)),oo 6 (.mv (.t 22))]
abbrev i78c:ICode:=(.seq (.reg i78r0) (.seq (.reg i78r1) (.seq (.seq (.reg i78r2) (.block 0 (.loop i78l6))) (.seq (.reg i78r7) .ret))))
def i78:IFn:={np:=3,N:=23,ct:=[12],code:=i78c,res:=[.t 6]}
theorem i78_eq:compF Tryz.prog Tryz.f78=some i78:=by kernel_rfl
abbrev i80r0:List IOper:=[oo 4 (.box (.t 1)),oo 5 (.mv (.c (.b false)))]
abbrev i80r1:List (IOper×List Nat):=[(oo 6 (.ixaA 2 1 (.t 4) (.c (.i .i64 0))),[]),(oo 7 (.ld false 1 (.t 6)),[]),(oo 8 (.bin .geq (.t 7) (.c (.i .i64 0))),[]),(ot 9 (.mv (.t 8)),[]),(og 10 (.ixaA 2 1 (.t 4) (.c (.i .i64 0))) 9 true false,[]),(og 11 (.ld false 1 (.t 10)) 9 true false,[]),(og 12 (.ixaA 2 1 (.t 4) (.c (.i .i64 1))) 9 true false,[4,5]),(og 13 (.ld false 1 (.t 12)) 9 true false,[4,5]),(og 14 (.bin .lss (.t 11) (.t 13)) 9 true false,[]),(oo 15 (.pick (.t 9) (.t 14) (.c (.b false))),[]),(ot 16 (.mv (.t 15)),[]),(og 17 (.ixaA 2 1 (.t 4) (.c (.i .i64 1))) 16 true false,[]),(og 18 (.ld false 1 (.t 17)) 16 true false,[]),(og 19 (.fa 0 (.t 2)) 16 true false,[11,12]),(og 20 (.fa 1 (.t 19)) 16 true false,[11,12]),(og 21 (.ld false 1 (.t 20)) 16 true false,[11,12]),(og 22 (.bin .leq (.t 18) (.t 21)) 16 true false,[]),(oo 23 (.pick (.t 16) (.t 22) (.c (.b false))),[]),(ot 24 (.mv (.t 23)),[]),(og 25 (.mv (.t 0)) 24 true false,[]),(og 26 (.eqn false 0 (.t 25) (.c (.np))) 24 true false,[]),(og 27 (.mv (.t 26)) 24 true true,[]),(og 28 (.ixaA 2 1 (.t 4) (.c (.i .i64 0))) 27 false false,[]),(og 29 (.ld false 1 (.t 28)) 27 false false,[]),(og 30 (.mv (.t 0)) 27 false false,[22,23]),(og 31 (.nck (.t 30)) 27 false false,[22,23]),(og 32 (.ixaA 2 1 (.t 31) (.c (.i .i64 1))) 27 false false,[22,23]),(og 33 (.ld false 1 (.t 32)) 27 false false,[22,23]),(og 34 (.bin .gtr (.t 29) (.t 33)) 27 false false,[]),(og 35 (.pick (.t 27) (.c (.b true)) (.t 34)) 24 true false,[]),(oo 36 (.pick (.t 24) (.t 35) (.c (.b false))),[]),(oo 5 (.mv (.t 36)),[])]
abbrev i80c:ICode:=(.seq (.reg i80r0) (.seq (.dreg i80r1) .ret))
def i80:IFn:={np:=3,N:=37,ct:=[],code:=i80c,res:=[.t 5]}
theorem i80_eq:compF Tryz.prog Tryz.f80=some i80:=by kernel_rfl
abbrev i84r0:List IOper:=[oo 2 (.mv (.c (.b false)))]
abbrev i84r1:List IOper:=[oo 3 (.mv (.t 0)),oo 4 (.mv (.t 0)),oo 5 (.bin .neq (.t 3) (.t 4)),oo 2 (.mv (.t 5))]
abbrev i84c:ICode:=(.seq (.reg i84r0) (.seq (.reg i84r1) .ret))
def i84:IFn:={np:=1,N:=6,ct:=[],code:=i84c,res:=[.t 2]}
theorem i84_eq:compF Tryz.prog Tryz.f84=some i84:=by kernel_rfl
end Go.Proofs.Flz
namespace Go.Proofs.Flz
open Go.Ab Go.Proofs.Flt
theorem mo:Tryz.prog.follows .mixedOrders=true:=by kernel_rfl
theorem w48 (n m:Int):FTL Tryz.prog 48 [.i .i64 n,.i .i64 m] [] 0 (.b (inW n m)) [] 0:=by
 refine FTL.of_iw Sound.nil mo Tryz.func48 i48_eq (by simp [i48]) (iw_of_jw ?_)
 dsimp only [i48];simp only [go_sem,simprocAttr];repeat' (first|refine spB_i (fun _=> ?_) (fun _=> ?_)|refine andB_i ?_ ?_)
 all_goals (refine Ends.pureE rfl (congrArg _ ?_);simp [inW] at *;try omega)
def k48:Ct
 |[.i .i64 n,.i .i64 m],_,n'=>some (true,{v:= .b (inW n m),n:=n'})
 |_,_,_=>none
theorem s48:SoundAt Tryz.prog 48 k48:=fun args h n c E hc ht=>by
 unfold k48 at hc;split at hc
 ·cases hc;exact CallOK.pure (by kernel_rfl) rfl rfl (w48 _ _) _ _
 ·cases hc
/-! need: the panic -/
def refV (e:Int):Value:= .iface 94 (.agg #[.int .i64 e])
theorem w59t (e:Int):FTL Tryz.prog 59 [.b true,.i .i64 e] [] 0 (.tup []) [] 0:=by
 refine FTL.of_iw Sound.nil mo Tryz.func59 i59_eq (by simp [i59]) (iw_of_jw ?_)
 dsimp only [i59];simp only [go_sem,simprocAttr];exact Ends.pureE rfl rfl
theorem w59f (e:Int):FTLx Tryz.prog 59 [.b false,.i .i64 e] [] 0 (some (refV e)) (.tup []) [] 0:=by
 refine FTLx.of_iw Sound.nil mo Tryz.func59 i59_eq (by simp [i59]) (iw_of_jw ?_)
 dsimp only [i59];simp only [go_sem,fills,simprocAttr];exact ⟨rfl,Ends.pureE rfl rfl⟩
theorem CallOK.pureX {P:Program} {f:FuncId} {args:List AV} {pn:Option Value} {v:AV} (hc:Go.Ab.callable P f=true) (ha:belL 0 args=true) (hv:v.bel 0=true) (hf:FTLx P f args [] 0 pn v [] 0) (h:Hp) (n:Nat):CallOK P f args h n {v,n,pn}:=by
 refine CallOK.of_FTLx (ψ:=fun b=>b) hc hf rfl (Nat.le_refl _) ha (fun b hb=>absurd hb (by omega)) (fun b kk hb=>by simp [hget] at hb) (renL_fix0 _ ha).symm (fun b kk hb=>by simp [hget] at hb) (fun b1 b2 k1 k2 hb=>by simp [hget] at hb) (by simp) (ren_fix0 _ hv).symm
  (fun b r hb=>by simp [mget] at hb) (fun b kk hb=>by simp [hget] at hb) (fun c kk hc=> ?_)
 simp [Eff.app,mget,hget,only,inl] at hc
def k59:Ct
 |[.b c,.i .i64 e],_,n=>some (true,{v:= .tup [],n,pn:=bif c then none else some (refV e)})
 |_,_,_=>none
theorem s59:SoundAt Tryz.prog 59 k59:=fun args h n c E hc ht=>by
 unfold k59 at hc;split at hc
 ·rename_i b e;cases hc;cases b
  ·exact CallOK.pureX (by kernel_rfl) rfl rfl (w59f e) _ _
  ·exact CallOK.pureX (pn:=none) (by kernel_rfl) rfl rfl (w59t e) _ _
 ·cases hc
/-! Check -/
def TC1:List (Nat×Ct):=[(48,k48)]
theorem hTC1:Sound Tryz.prog (cxT TC1):=Sound.cons s48 Sound.nil
theorem w12 (x:Nt):FTL Tryz.prog 12 [.agg x.l] [] 0 (.i .i64 (if noteB x then 0 else 190)) [] 0:=by
 obtain ⟨kd,sq,bd⟩:=x;refine FTL.of_iw hTC1 mo Tryz.func12 i12_eq (by simp [i12]) (iw_of_jw ?_)
 dsimp only [i12,TC1];cases h1:inW kd 255
 ·have:noteB ⟨kd,sq,bd⟩=false:=by simp [noteB,h1]
  rw [this];simp only [go_sem,k48,h1,Nt.l,simprocAttr];exact Ends.pureE rfl rfl
 cases h2:inW sq 65535
 ·have:noteB ⟨kd,sq,bd⟩=false:=by simp [noteB,h2]
  rw [this];simp only [go_sem,k48,h1,h2,Nt.l,simprocAttr];exact Ends.pureE rfl rfl
 cases h3:decide ((bd.length:Int)>4000)
 ·have:noteB ⟨kd,sq,bd⟩=true:=by have:=of_decide_eq_false h3;simp [noteB,h1,h2];omega
  rw [this];simp only [go_sem,k48,h1,h2,h3,Nt.l,simprocAttr];exact Ends.pureE rfl rfl
 ·have:noteB ⟨kd,sq,bd⟩=false:=by have:=of_decide_eq_true h3;simp [noteB];omega
  rw [this];simp only [go_sem,k48,h1,h2,h3,Nt.l,simprocAttr];exact Ends.pureE rfl rfl
def nt3:List AV->Option Nt
 |[.i .i64 a,.i .i64 b,.s c]=>some ⟨a,b,c⟩
 |_=>none
theorem nt3_l (x:Nt):nt3 x.l=some x:=rfl
theorem nt3_eq {c:List AV} {x:Nt} (h:nt3 c=some x):c=x.l:=by
 unfold nt3 at h;split at h
 ·cases h;rfl
 ·cases h
def k12:Ct
 |[.agg c],_,n=>(nt3 c).bind fun x=>some (true,{v:= .i .i64 (if noteB x then 0 else 190),n})
 |_,_,_=>none
theorem s12:SoundAt Tryz.prog 12 k12:=fun args h n c E hc ht=>by
 unfold k12 at hc;split at hc
 ·simp only [Option.bind_eq_some_iff] at hc;obtain ⟨x,hx,he⟩:=hc;cases he;rw [nt3_eq hx];exact CallOK.pure (by kernel_rfl) rfl rfl (w12 x) _ _
 ·cases hc
end Go.Proofs.Flz
namespace Go.Proofs.Flt
open Go.Ab
abbrev snr0:List IOper:=[oo 4 (.mv (.c (.b false)))]
abbrev snr1:List IOper:=[oo 7 (.mv (.t 0)),oo 8 (.lenV (.t 7)),oo 9 (.mv (.c (.i .i64 0)))]
abbrev snr2:List IOper:=[ot 10 (.bin .lss (.t 9) (.t 8))]
abbrev snr3:List IOper:=[oo 11 (.mv (.t 9)),oo 5 (.mv (.t 11))]
abbrev snr4:List IOper:=[oo 6 (.mv (.c (.np)))]
abbrev snr5:List IOper:=[oo 12 (.mv (.t 5)),ot 13 (.bin .gtr (.t 12) (.c (.i .i64 0)))]
abbrev snr6 (z:Nat):List IOper:=[oo 14 (.mv (.t 0)),oo 15 (.mv (.t 5)),oo 16 (.bin .sub (.t 15) (.c (.i .i64 1))),oo 17 (.ixaV z (.t 14) (.t 16)),oo 6 (.mv (.t 17))]
abbrev snr7 (z:Nat):List IOper:=[oo 18 (.mv (.t 1)),oo 19 (.mv (.t 6)),oo 20 (.mv (.t 0)),oo 21 (.mv (.t 5)),oo 22 (.ixaV z (.t 20) (.t 21)),oo 23 (.ld true z (.t 22)),oo 24 (.call (.t 18) [.t 19,.t 23]),ot 25 (.not (.t 24))]
abbrev snr8:List IOper:=[oo 4 (.mv (.c (.b false)))]
abbrev snr9:List IOper:=[oo 26 (.bin .add (.t 9) (.c (.i .i64 1))),oo 9 (.mv (.t 26))]
abbrev snl10 (z:Nat):ICode:=(.seq (.reg snr2) (.seq (.cond (.t 10) .skip (.exit 0)) (.seq (.block 1 (.seq (.reg snr3) (.seq (.reg snr4) (.seq (.seq (.reg snr5) (.cond (.t 13) (.reg (snr6 z)) .skip)) (.seq (.reg (snr7 z)) (.cond (.t 25) (.seq (.reg snr8) .ret) .skip)))))) (.reg snr9))))
abbrev snr11:List IOper:=[oo 4 (.mv (.c (.b true)))]
abbrev snc (z:Nat):ICode:=(.seq (.reg snr0) (.seq (.seq (.reg snr1) (.block 0 (.loop (snl10 z)))) (.seq (.reg snr11) .ret)))
def sndI (z:Nat):IFn:={np:=2,N:=27,ct:=[10,13,25],code:=(snc z),res:=[.t 4]}
def sndB {α:Type} (is:Option α->α->Bool):Option α->List α->Bool
 |_,[]=>true
 |b,x::r=>is b x&&sndB is (some x) r
def prv {α:Type} (l:List α) (k:Nat):Option α:=if k=0 then none else l[k-1]?
def bef (z:Nat) (L:List AV) (k:Nat):AV:=if k=0 then .np else .fp L ((k-1)*z)
theorem prv_s {α:Type} {l:List α} {k:Nat} {x:α} (h:l[k]? =some x):prv l (k+1)=some x:=by
 rw [prv,if_neg (by omega),Nat.add_sub_cancel,h]
theorem snd_drop {α:Type} {is:Option α->α->Bool} {l:List α} {k:Nat} {x:α} (h:l[k]? =some x):sndB is (prv l k) (l.drop k)=(is (prv l k) x&&sndB is (prv l (k+1)) (l.drop (k+1))):=by
 have hlt:=(List.getElem?_eq_some_iff.1 h).1;rw [List.drop_eq_getElem_cons hlt,sndB,prv_s h];rw [List.getElem?_eq_getElem hlt] at h;rw [Option.some.inj h]
section
variable {P:Program} {α:Type} {row:α->List AV} {is:Option α->α->Bool} {g:FuncId} {caps:List AV} {z:Nat}
theorem snd_fz {f:FuncId} {fn:Func} (hm:P.follows .mixedOrders=true) (hf:P.funcs[f]? =some fn) (hI:compF P fn=some (sndI z)) (hg:callable P g=true) (hlen: ∀a,(row a).length=z) (hbel: ∀a,belL 0 (row a)=true) (hcaps:belL 0 caps=true)
 (l:List α) (hl:l.length<=9223372036854775807) (hF: ∀k x,l[k]? =some x->FTL P g (bef z (rows row l) k:: .agg (row x)::caps) [] 0 (.b (is (prv l k) x)) [] 0):
 FTL P f [.fz (rows row l) l.length,.fn g caps] [] 0 (.b (sndB is none l)) [] 0:=by
 refine FTL.of_iw (cx:=cxT []) Sound.nil hm hf hI (by simp [sndI]) (iw_of_jw ?_)
 dsimp only [sndI];generalize hR:sndB is none l=R;have hR0:sndB is (prv l 0) (l.drop 0)=R:=hR;have hLb: ∀j,belL j (rows row l)=true:=fun j=>belL_mono0 _ (rows_bel hbel);have hLr: ∀ψ,renL ψ (rows row l)=rows row l:=fun ψ=>renL_fix0 _ (rows_bel hbel);have hcr: ∀ψ,renL ψ caps=caps:=fun ψ=>renL_fix0 _ hcaps;have hcb: ∀j,belL j caps=true:=fun j=>belL_mono0 _ hcaps;have hL: ∀(k:Nat) x,l[k]? =some x->List.take z (List.drop (k*z) (rows row l))=row x:=fun k x hk=>rows_at hlen hk;have hbb: ∀k,(bef z (rows row l) k).bel 0=true:=fun k=>by
  unfold bef;split
  ·rfl
  ·simp only [AV.bel,hLb]
 generalize hLL:rows row l=L at*;simp only [go_sem,simprocAttr];refine Loop.stepX (F:=⟨P,cxT [],[10,13,25],27,0⟩) hm (X:=Nat) (fun k=>k<=l.length/\sndB is (prv l k) (l.drop k)=R) (fun k=>l.length-k)
  (fun k=>[(0,.fz L l.length),(1,.fn g caps),(8,.i .i64 (l.length:Int)),(9,.i .i64 (k:Int))]) (fun k=>[]) 0 0 (fun k=>k+1) [] (fun _=>[]) (Nat.le_refl 0) rfl (fun _=>rfl) ⟨Nat.zero_le _,hR0⟩ ?_ trivial (fun k hk=> ?_)
 ·simp only [go_sem,AV.ren,renL,AV.bel,belL,nblt,hLb,hLr,hcr,hcb,simprocAttr]
 obtain ⟨hkl,hk⟩:=hk;by_cases hlt:k<l.length
 ·obtain ⟨x,hx⟩: ∃x,l[k]? =some x:=⟨_,List.getElem?_eq_getElem hlt⟩;have hr:=hL k x hx;have c1:decide ((k:Int)<(l.length:Int))=true:=decide_eq_true (by omega)
  have c2:decide (0<=(k:Int)/\(k:Int)<(l.length:Int))=true:=decide_eq_true (by omega)
  have w1:IntKind.i64.wrap ((k:Int)+1)=((k+1:Nat):Int):=by rw [wrapL (by omega) (by omega)];omega
  have hsk:l.length-(k+1)<l.length-k:=by omega
  have hdr:=snd_drop (is:=is) hx;rw [hdr] at hk;have hc:CallOK P g (bef z L k:: .agg (row x)::caps) [] 0 {v:= .b (is (prv l k) x),n:=0}:=CallOK.pure hg (by simp only [belL,hbb,AV.bel,hbel,hcaps,Bool.and_self]) rfl (hF k x hx) _ _
  have hz:=hlen x;have hbx: ∀j,belL j (row x)=true:=fun j=>belL_mono0 _ (hbel x);have hk1:k+1<=l.length:=hlt;refine ⟨_,cx1_sound hc,?_⟩;cases hi:is (prv l k) x
  ·rw [hi,Bool.false_and] at hk;subst hk;by_cases hk0:k=0
   ·subst hk0;have e:bef z L 0= .np:=rfl;have c3:decide (((0:Nat):Int)>0)=false:=rfl;have c1z:decide ((0:Int)<(l.length:Int))=true:=c1;rw [e];simp only [go_sem,cx1_at,c1,c1z,c2,w1,hr,c3,hz,hi,simprocAttr];exact Ends.pureE rfl rfl
   ·have e:bef z L k= .fp L ((k-1)*z):=if_neg hk0;have c3:decide ((k:Int)>0)=true:=decide_eq_true (by omega)
    have w2:IntKind.i64.wrap ((k:Int)-1)=((k-1:Nat):Int):=by rw [wrapL (by omega) (by omega)];omega
    have c4:decide (0<=((k-1:Nat):Int)/\((k-1:Nat):Int)<(l.length:Int))=true:=decide_eq_true (by omega)
    rw [e];simp only [go_sem,cx1_at,c1,c2,c3,c4,w1,w2,hr,hz,hi,simprocAttr];exact Ends.pureE rfl rfl
  ·rw [hi,Bool.true_and] at hk;by_cases hk0:k=0
   ·subst hk0;have e:bef z L 0= .np:=rfl;have c3:decide (((0:Nat):Int)>0)=false:=rfl;have c1z:decide ((0:Int)<(l.length:Int))=true:=c1;rw [e];simp only [go_sem,cx1_at,c1,c1z,c2,w1,hr,c3,hz,hi,hk,hsk,hk1,AV.ren,renL,AV.bel,belL,nblt,hLb,hLr,hcr,hcb,simprocAttr];omega
   ·have e:bef z L k= .fp L ((k-1)*z):=if_neg hk0;have c3:decide ((k:Int)>0)=true:=decide_eq_true (by omega)
    have w2:IntKind.i64.wrap ((k:Int)-1)=((k-1:Nat):Int):=by rw [wrapL (by omega) (by omega)];omega
    have c4:decide (0<=((k-1:Nat):Int)/\((k-1:Nat):Int)<(l.length:Int))=true:=decide_eq_true (by omega)
    rw [e];simp only [go_sem,cx1_at,c1,c2,c3,c4,w1,w2,hr,hz,hi,hk,hsk,hk1,AV.ren,renL,AV.bel,belL,nblt,hLb,hLr,hcr,hcb,simprocAttr]
 ·have c1:decide ((k:Int)<(l.length:Int))=false:=decide_eq_false (by omega)
  obtain rfl:k=l.length:=by omega
  rw [List.drop_length] at hk;have hk:R=true:=hk.symm;subst hk;refine ⟨_,Sound.nil,?_⟩;simp only [go_sem,c1,simprocAttr];exact Ends.pureE rfl rfl
end
end Go.Proofs.Flt
