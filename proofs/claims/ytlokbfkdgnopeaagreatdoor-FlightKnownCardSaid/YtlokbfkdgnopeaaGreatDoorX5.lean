/- Texts laid as one: AbFze AbVw AbVwF AbJoin AbMed AbFrs AbDel AbCln AbWka AbWkS AbDfr AbDfr2 AbRf AbRf2 AbFast AbShelf AbGive AbVwT AbAny AbIns. -/
import Derived.Test.YtlokbfkdgnopeaaGreatDoorX4
import Derived.RecoverIn
import Derived.Below
import Derived.Laws.Externs
import GoSem.Extern.SlicesOverlaps
set_option maxRecDepth 100000
set_option maxHeartbeats 4000000
set_option linter.unusedSimpArgs false
set_option linter.unusedVariables false
namespace Go.Ab
def CovS (n0:Nat) (v:AV) (h:Hp) (n:Nat) (v2:AV) (h2:Hp) (n2:Nat):Prop:=
 ∀(D:Nat->Prop) (φ:Phi) (w:World) (D0:Nat->Prop) (φ0:Phi) (H0:Hf) (w0:World) (u:Value),(∀b,D0 b->b<n0)->(∀b,D b->b<n)->VRel D φ v u->HR D φ (hget h) w->Stp D0 φ0 H0 w0 D φ (hget h) w→
  ∃D' φ',(∀b,D' b->b<n2)/\VRel D' φ' v2 u/\Stp D0 φ0 H0 w0 D' φ' (hget h2) w
theorem CovS.ends {n0 n n2:Nat} {v v2:AV} {h h2:Hp} (he:Ends n0 v h n v2 h2 n2):CovS n0 v h n v2 h2 n2:=Cov.ends _ _ _ _ _ _ _ he
theorem Cov.covs:Cov CovS:=fun _ _ _ _ _ _ _ hW=>hW
theorem FTL.of_covs {f:FuncId} {P:Program} {fn:Func} {I:IFn} {args:List AV} {n:Nat} {h:Hp} {v2:AV} {h2:Hp} {n2:Nat} (hf:P.funcs[f]? =some fn) (hI:compF P fn=some I) (hnp:args.length<=I.N)
 (hi: ∀c,compC P I.ct I.N c=I.code->WP P I.N n c (retK I.res fun v h' n'=>CovS n v h' n' v2 h2 n2) (argEnv 0 args) h n):FTL P f args h n v2 h2 n2:=
 FTLx.of_wpC Cov.covs hf hI hnp (fun c hc=>(hi c hc).mono (retX_of_retK fun _ _ _ h=>⟨rfl,h⟩))
theorem FTL.of_cov {f:FuncId} {P:Program} {fn:Func} {I:IFn} {cx:Cx} {args:List AV} {n:Nat} {h:Hp} {v2:AV} {h2:Hp} {n2:Nat} (hcx:Sound P cx) (hm:P.follows .mixedOrders=true) (hf:P.funcs[f]? =some fn) (hI:compF P fn=some I) (hnp:args.length<=I.N)
 (hi:iw ⟨P,cx,I.ct,I.N,n⟩ I.code (retK I.res fun v h' n'=>CovS n v h' n' v2 h2 n2) (argEnv 0 args) h n):FTL P f args h n v2 h2 n2:=
 FTL.of_covs hf hI hnp (fun c hc=>iw_sound ⟨P,cx,I.ct,I.N,n⟩ hcx hm c _ _ _ _ (by show iw _ (compC P I.ct I.N c) _ _ _ _;rw [hc];exact hi))
theorem FTL.of_seamC {f:FuncId} {P:Program} {fn:Func} {I:IFn} {cx:Cx} {args:List AV} {n:Nat} {h:Hp} {v2:AV} {h2:Hp} {n2:Nat} (hf:P.funcs[f]? =some fn) (hI:compF P fn=some I) (hnp:args.length<=I.N)
 (hi:Seam ⟨P,cx,I.ct,I.N,n⟩ I.code (retK I.res fun v h' n'=>CovS n v h' n' v2 h2 n2) (argEnv 0 args) h n):FTL P f args h n v2 h2 n2:=
 FTL.of_covs hf hI hnp (fun c hc=>hi c hc)
def FzV (x y:AV) (v v':AV):Prop:= ∀(D:Nat->Prop) (φ:Phi) (u:Value),(∀u1,VRel D φ x u1->VRel D φ y u1)->VRel D φ v u->VRel D φ v' u
theorem FzV.hit {x y:AV}:FzV x y x y:=fun D φ u h hv=>h u hv
theorem FzV.refl {x y v:AV}:FzV x y v v:=fun D φ u h hv=>hv
def FzVs (x y:AV):List AV->List AV->Prop
 |[],[]=>True
 |a::l,b::m=>FzV x y a b/\FzVs x y l m
 |_,_=>False
theorem FzVs.len {x y:AV}: ∀{l m:List AV},FzVs x y l m->l.length=m.length
 |[],[],_=>rfl
 |a::l,b::m,h=>by simp [FzVs.len h.2]
 |[],_::_,h=>h.elim
 |_::_,[],h=>h.elim
theorem FzVs.get {x y:AV}: ∀{l m:List AV} {i:Nat} {b:AV},FzVs x y l m->m[i]? =some b-> ∃a,l[i]? =some a/\FzV x y a b
 |[],[],i,b,_,hi=>by simp at hi
 |a::l,c::m,0,b,h,hi=>by simp at hi;subst hi;exact ⟨a,rfl,h.1⟩
 |a::l,c::m,i+1,b,h,hi=>by
  obtain ⟨a',h1,h2⟩:=FzVs.get h.2 (by simpa using hi)
  exact ⟨a',by simpa using h1,h2⟩
 |[],_::_,_,_,h,_=>h.elim
 |_::_,[],_,_,h,_=>h.elim
theorem FzV.agg {x y:AV} {l m:List AV} (h:FzVs x y l m):FzV x y (.agg l) (.agg m):=fun D φ u hx hv=>by
 cases hv with
 |agg _ cs hl hh=>
  refine .agg m cs (by rw [<-hl,h.len]) (fun i b u hb hu=> ?_)
  obtain ⟨a,h1,h2⟩:=h.get hb;exact h2 D φ u hx (hh i a u h1 hu)
theorem FzV.tup {x y:AV} {l m:List AV} (h:FzVs x y l m):FzV x y (.tup l) (.tup m):=fun D φ u hx hv=>by
 cases hv with
 |tup _ cs hl hh=>
  refine .tup m cs (by rw [<-hl,h.len]) (fun i b u hb hu=> ?_)
  obtain ⟨a,h1,h2⟩:=h.get hb;exact h2 D φ u hx (hh i a u h1 hu)
theorem CovS.frz {n0 n n2:Nat} {v v' v2:AV} {h h' h2:Hp} {x:AV} {b:Nat} {k:Blk} {cs:List AV} {m o:Nat} (hk:hget h b=some k) (hro:k.ro=false) (hx:(∃cap,x= .sl b o m cap/\m<=cap)\/x= .sg b o m) (hcs:cs=k.cells.drop o\/cs=(k.cells.drop o).take cs.length) (hf:FzV x (.fz cs m) v v')
 (hh: ∀c kk,hget h' c=some kk->c≠b/\hget h c=some kk) (hc:CovS n0 v' h' n v2 h2 n2):CovS n0 v h n v2 h2 n2:=by
 intro D φ w D0 φ0 H0 w0 u hD0 hD hv hH hS;obtain ⟨hdb,⟨⟨vs,elem,fr,q1,q2,q3,q4⟩,q5⟩⟩:=hH.at_ b k hk;let φ1:Phi:={φ with fz:=fun B=>if B=φ.blk b then some vs else φ.fz B}
 have ag:Agree D φ φ1:=⟨fun c _=>⟨rfl,rfl,rfl,rfl⟩,fun B vs' hB=>by
  simp only [φ1];split
  ·rename_i hBb;subst hBb;obtain ⟨elem',fr',h1⟩:=hH.fz _ _ hB;rw [q1] at h1;simp only [Option.some.injEq,Obj.cells.injEq] at h1;rw [h1.1]
  ·exact hB,rfl⟩
 have hxy: ∀u1,VRel D φ1 x u1->VRel D φ1 (.fz cs m) u1:=fun u1 h1=>by
  have get: ∀(i:Nat) (a:AV),cs[i]? =some a-> ∃u,vs[φ.off b+o+i]? =some u/\VRel D φ a u:=fun i a ha=>by
   have ha':k.cells[o+i]? =some a:=by
    rcases hcs with e|e
    ·rw [e,List.getElem?_drop] at ha;exact ha
    ·rw [e,List.getElem?_take,List.getElem?_drop] at ha;split at ha
     ·exact ha
     ·cases ha
   obtain ⟨u,hu,hr⟩:=q2 _ a ha';exact ⟨u,by rw [Nat.add_assoc];exact hu,hr⟩
  have g1:φ1.fz (φ.blk b)=some vs:=by simp [φ1]
  have g2: ∀i,i<cs.length->φ.off b+o+i<vs.size:=fun i hi=>by
   obtain ⟨u,hu,_⟩:=get i _ (List.getElem?_eq_getElem hi);rcases Nat.lt_or_ge (φ.off b+o+i) vs.size with h'|h'
   ·exact h'
   ·rw [Array.getElem?_eq_none h'] at hu;cases hu
  have g3: ∀(i:Nat) (a:AV) (u:Value),cs[i]? =some a->vs[φ.off b+o+i]? =some u->VRel D φ1 a u:=fun i a u ha hu=>by
   obtain ⟨u',hu',hr⟩:=get i a ha;rw [hu] at hu';cases hu';exact hr.mono (fun _ h=>h) ag
  rcases hx with ⟨cap,rfl,hcap⟩|rfl
  ·cases h1 with
   |sl _ _ _ _ _=>exact .fz _ _ _ _ _ vs g1 hcap g2 g3
  ·cases h1 with
   |sg _ _ _ j cap _ _ _ hl=>exact .fz _ _ _ _ _ vs g1 hl g2 g3
 have hv1:VRel D φ1 v' u:=hf D φ1 u hxy (hv.mono (fun _ h=>h) ag);have hH1:HR D φ1 (hget h') w:=by
  refine ⟨⟨fun c kk hc=> ?_,fun b1 b2 k1 k2 hne h1 h2 hr=> ?_⟩,fun B vs' hB=> ?_,hH.lp,fun c kk B vs' hc hr hB=> ?_⟩
  ·obtain ⟨_,h2⟩:=hh c kk hc;have h3:=hH.at_ c kk h2;exact ⟨h3.1,h3.2.mono (fun _ h=>h) ag h3.1 rfl⟩
  ·exact hH.sep b1 b2 k1 k2 hne (hh _ _ h1).2 (hh _ _ h2).2 hr
  ·simp only [φ1] at hB;split at hB
   ·rename_i e;subst e;cases hB;exact ⟨elem,fr,q1⟩
   ·exact hH.fz B vs' hB
  ·obtain ⟨h1,h2⟩:=hh c kk hc;simp only [φ1] at hB;split at hB
   ·rename_i e;subst e;exact hH.sep c b kk k h1 h2 hk hr
   ·exact hH.fsep c kk B vs' h2 hr hB
 refine hc D φ1 w D0 φ0 H0 w0 u hD0 hD hv1 hH1 ⟨hS.sub,⟨hS.agree.at_,fun B vs' hB=>ag.fz B vs' (hS.agree.fz B vs' hB),hS.agree.lp⟩,hH1,hS.frm,fun c kk hc hr=>hS.img c kk (hh c kk hc).2 hr,fun B vs' hB=> ?_⟩;simp only [φ1] at hB;split at hB
 ·rename_i e;subst e;exact .inr (hS.img b k hk hro)
 ·exact hS.fnew B vs' hB
theorem CovS.frzN {n0 n n2:Nat} {v v' v2:AV} {h h2:Hp} {l:List AV} (hf:FzV .ns (.fz l 0) v v') (hc:CovS n0 v' h n v2 h2 n2):CovS n0 v h n v2 h2 n2:=by
 intro D φ w D0 φ0 H0 w0 u hD0 hD hv hH hS;exact hc D φ w D0 φ0 H0 w0 u hD0 hD (hf D φ u (fun u1 h1=>by cases h1;exact .fz0 _ _ _ (fun _=>rfl)) hv) hH hS
end Go.Ab
namespace Go.Ab
def VwV (h:Hp) (rd:List Nat) (a aF:AV):Prop:= ∀(D D':Nat->Prop) (φ:Phi) (w:World) (u:Value),HR D φ (only (hget h) rd) w->VRel D φ a u->VRel D' (φ.frz (only (hget h) rd) w) aF u
def VwL (h:Hp) (rd:List Nat):List AV->List AV->Prop
 |[],[]=>True
 |a::l,b::m=>VwV h rd a b/\VwL h rd l m
 |_,_=>False
section
variable {h:Hp} {rd:List Nat}
theorem VwV.same {a:AV} (ha:a.bel 0=true):VwV h rd a a:=fun D D' φ w u hH hv=>(hv.mono (D':=D) (fun _ h=>h) (Phi.frz_agree hH D)).bel0 ha
theorem VwL.len: ∀{l m:List AV},VwL h rd l m->l.length=m.length
 |[],[],_=>rfl
 |a::l,b::m,h=>by simp [VwL.len h.2]
 |[],_::_,h=>h.elim
 |_::_,[],h=>h.elim
theorem VwL.get: ∀{l m:List AV} {i:Nat} {b:AV},VwL h rd l m->m[i]? =some b-> ∃a,l[i]? =some a/\VwV h rd a b
 |[],[],i,b,_,hi=>by simp at hi
 |a::l,c::m,0,b,h,hi=>by simp at hi;subst hi;exact ⟨a,rfl,h.1⟩
 |a::l,c::m,i+1,b,h,hi=>by
  obtain ⟨a',h1,h2⟩:=VwL.get h.2 (by simpa using hi)
  exact ⟨a',by simpa using h1,h2⟩
 |[],_::_,_,_,h,_=>h.elim
 |_::_,[],_,_,h,_=>h.elim
theorem VwV.fn {f:FuncId} {l m:List AV} (hl:VwL h rd l m):VwV h rd (.fn f l) (.fn f m):=fun D D' φ w u hH hv=>by
 cases hv with
 |fn _ _ cs hf hlen hh=>
  refine .fn f m cs hf (by rw [<-hlen,hl.len]) (fun i b u hb hu=> ?_)
  obtain ⟨a,h1,h2⟩:=hl.get hb;exact h2 D D' φ w u hH (hh i a u h1 hu)
theorem VwV.p {b o:Nat} {k:Blk} (hb:only (hget h) rd b=some k) (hk:belL 0 k.cells=true):VwV h rd (.p b o) (.fp k.cells o):=fun D D' φ w u hH hv=>by
 cases hv with
 |p _ _ hD=>
  obtain ⟨_,⟨⟨vs,elem,fr,h1,h2,_⟩,_⟩⟩:=hH.at_ b k hb;have:=VRel.fp (D:=D') (φ:=φ.frz (only (hget h) rd) w) k.cells o (φ.blk b) (φ.off b) vs (by rw [Phi.frz_at (D:=D) hb];simp [fzW,h1]) (fun i hi=>by
   obtain ⟨u,hu,_⟩:=h2 i _ (List.getElem?_eq_getElem hi);rcases Nat.lt_or_ge (φ.off b+i) vs.size with h'|h'
   ·exact h'
   ·rw [Array.getElem?_eq_none h'] at hu;cases hu) (fun i a u ha hu=>by
   obtain ⟨u',hu',hr⟩:=h2 i a ha;rw [hu] at hu';cases hu';exact (hr.mono (D':=D) (fun _ h=>h) (Phi.frz_agree hH D)).bel0 (belL_spec hk a (List.mem_of_getElem? ha)))
  exact this
theorem vwK_sub {z:Nat} {x:AV} {rd':List Nat} {m:Nat} {cs:List AV}
 (hv:vwK h z x (fun rd m cs ok=>some (rd,m,cs,ok))=some (rd',m,cs,true)) (hcs:belL 0 cs=true) (hrd: ∀b,inl rd' b=true->inl rd b=true):VwV h rd x (.fz cs m):=fun D D' φ w u hH hx=>by
 have h1:=VRel.view (D':=D') (only_sub hH hrd) hx hv hcs;refine VRel.mono (φ:=φ.frz (only (hget h) rd') w) (fun _ h=>h) ?_ h1;refine ⟨fun b _=>⟨rfl,rfl,rfl,rfl⟩,fun B vs hB=> ?_,rfl⟩;simp only [Phi.frz] at hB ⊢;split at hB
 ·rename_i hex;obtain ⟨b,k,hb,hbB⟩:=hex;have hb2:only (hget h) rd b=some k:=by
   unfold only at hb ⊢;cases hb':inl rd' b
   ·simp [hb'] at hb
   ·rw [hrd b hb'];simpa [hb'] using hb
  rw [if_pos ⟨b,k,hb2,hbB⟩];exact hB
 ·split
  ·exact hH.fz_eq hB
  ·exact hB
end
theorem CallOK.viewG {P:Program} {f:FuncId} {args argsF:List AV} {h:Hp} {n:Nat} {rd:List Nat} {v:AV} (hc:Go.Ab.callable P f=true)
 (hv:VwL h rd args argsF) (hpl:v.pl=true) (hf:FTL P f argsF [] 0 v [] 0):CallOK P f args h n {v,n,rd}:=by
 refine ⟨hc,Nat.le_refl _,fun b r hb=>by simp [mget] at hb,fun b kk hb=>by simp [hget] at hb,fun D φ w us hfresh hH hA=> ?_⟩
 let φ1:=φ.frz (only (hget h) rd) w;have hH1:HR (fun _=>False) φ1 (hget []) w:=⟨⟨fun b k hb=>by simp [hget] at hb,fun b1 b2 k1 k2 _ hb=>by simp [hget] at hb⟩,fun B vs hB=>by
  simp only [φ1,Phi.frz] at hB;split at hB
  ·exact fzW_spec hB
  ·exact hH.fz B vs hB,hH.lp,fun b k B vs hb=>by simp [hget] at hb⟩
 have hA1:All2 (fun _=>False) φ1 argsF us:=⟨by rw [<-hv.len];exact hA.1,fun i a u ha hu=>by
  obtain ⟨a',h1,h2⟩:=hv.get ha;exact h2 D _ φ w u hH (hA.2 i a' u h1 hu)⟩
 refine (hf (fun _=>False) φ1 w us (fun _ h=>h.elim) hH1 hA1).mono fun e w' hx=> ?_;obtain ⟨D',φ',u,rfl,hD',hr,hS⟩:=hx;have hd: ∀b,D b->Dn D n n b:=fun b h=> .inl h;have e:(Eff.app {v,n,rd} (only (hget h) rd))=only (hget h) rd:=by funext b;rfl
 have hst: ∀c,c<w.heap.size->w'.heap[c]? =w.heap[c]? :=fun c hc=>hS.frm.block c hc (fun b k hb=>by simp [hget] at hb)
 refine ⟨u,φ,rfl,hr.pl hpl,?_,fun c kk hc _=>by rw [e] at hc;exact hc⟩
 show Stp D φ _ w (Dn D n n) φ (Eff.app _ _) w';rw [e];exact Stp.mk' hH rfl rfl hd (Agree.refl D φ).at_ ⟨fun b k hb=>⟨hd b (hH.at_ b k hb).1,(hH.at_ b k hb).2.mono hd (Agree.refl _ _) (hH.at_ b k hb).1 (hst _ (hH.at_ b k hb).2.lt)⟩,hH.sep⟩
  ⟨hS.frm.os,hS.frm.tape,hS.frm.output,hS.frm.size,fun c hc _=>hst c hc⟩ (fun b k hb hk=> .inr ⟨b,k,hb,hk,rfl⟩)
end Go.Ab
namespace Go.Ab
section
variable {P:Program} {α:Type} {row:α->List AV} {el:α->AV} {p:α->Bool} {g:FuncId} {caps:List AV}
end
end Go.Ab
namespace Go.Ab
abbrev Xt:=Int×List UInt8
def xtR (x:Xt):List AV:=[.i .i64 x.1,.s x.2]
theorem xtR_len: ∀x,(xtR x).length=2:=fun _=>rfl
theorem xtR_bel: ∀x,belL 0 (xtR x)=true:=fun _=>rfl
structure Md where
 ma:Bool
 ty:Int
 sq:Int
 tm:Int
 ss:Int
 cs:List Int
 xs:List Xt
 pd:Int
 pl:List UInt8
def Md.l (p:Md):List AV:=[.b p.ma,.i .i64 p.ty,.i .i64 p.sq,.i .i64 p.tm,.i .i64 p.ss,.fz (rows int1 p.cs) p.cs.length,.fz (rows xtR p.xs) p.xs.length,.i .i64 p.pd,.s p.pl]
theorem Md.len: ∀p:Md,p.l.length=9:=fun _=>rfl
theorem Md.bel: ∀p:Md,belL 0 p.l=true:=fun p=>by
 simp only [Md.l,belL,AV.bel,rows_bel int1_bel,rows_bel xtR_bel,Bool.and_self]
theorem rows_inj {α:Type} {f:α->List AV} {z:Nat} (hf: ∀a,(f a).length=z) (hi: ∀a b,f a=f b->a=b): ∀{l m:List α},l.length=m.length->rows f l=rows f m->l=m
 |[],[],_,_=>rfl
 |a::l,b::m,hl,h=>by
  rw [rows_cons,rows_cons] at h;obtain ⟨h1,h2⟩:=List.append_inj h (by rw [hf,hf])
  rw [hi _ _ h1,rows_inj hf hi (by simpa using hl) h2]
 |[],_::_,h,_=>by simp at h
 |_::_,[],h,_=>by simp at h
theorem Md.inj {p q:Md} (h:p.l=q.l):p=q:=by
 obtain ⟨a1,a2,a3,a4,a5,a6,a7,a8,a9⟩:=p;obtain ⟨b1,b2,b3,b4,b5,b6,b7,b8,b9⟩:=q;simp only [Md.l,List.cons.injEq,AV.b.injEq,AV.i.injEq,AV.fz.injEq,AV.s.injEq,true_and,and_true] at h;obtain ⟨rfl,rfl,rfl,rfl,rfl,⟨h6,l6⟩,⟨h7,l7⟩,rfl,rfl⟩:=h;have e6:=rows_inj (f:=int1) int1_len (fun a b e=>by simpa [int1] using e) l6 h6
 have e7:=rows_inj (f:=xtR) xtR_len (fun a b e=>by
  simp only [xtR,List.cons.injEq,AV.i.injEq,AV.s.injEq,true_and,and_true] at e;exact Prod.ext e.1 e.2) l7 h7
 rw [e6,e7]
def u32R (x:Int):List AV:=[.i .u32 x]
def pcR (x:Int×List UInt8):List AV:=[.i .u8 x.1,.s x.2]
theorem u32R_bel: ∀x,belL 0 (u32R x)=true:=fun _=>rfl
theorem pcR_bel: ∀x,belL 0 (pcR x)=true:=fun _=>rfl
structure Dm where
 ma:Bool
 ty:Int
 sq:Int
 tm:Int
 ss:Int
 cs:List Int
 xs:List Xt
 pd:Int
 pl:List UInt8
def Dm.l (p:Dm):List AV:=[.b p.ma,.i .u8 p.ty,.i .u16 p.sq,.i .u32 p.tm,.i .u32 p.ss,.fz (rows u32R p.cs) p.cs.length,.fz (rows pcR p.xs) p.xs.length,.i .u8 p.pd,.s p.pl]
theorem Dm.bel: ∀p:Dm,belL 0 p.l=true:=fun p=>by
 simp only [Dm.l,belL,AV.bel,rows_bel u32R_bel,rows_bel pcR_bel,Bool.and_self]
def extD:Int->List Xt->List Xt
 |_,[]=>[]
 |id,x::r=>(id+1+x.1 % 60,x.2.take 20)::extD (id+1+x.1 % 60) r
def Dm.md (p:Dm):Md:=⟨p.ma,p.ty % 128,p.sq,p.tm,p.ss,p.cs.take 3,extD 0 (p.xs.take 4),p.pd,p.pl.take 60⟩
structure Dm.ok (p:Dm):Prop where
 ty:0<=p.ty/\p.ty<=255
 sq:0<=p.sq/\p.sq<=65535
 tm:0<=p.tm/\p.tm<=4294967295
 ss:0<=p.ss/\p.ss<=4294967295
 pd:0<=p.pd/\p.pd<=255
 cs: ∀x∈p.cs,0<=x/\x<=4294967295
 xs: ∀x∈p.xs,0<=x.1/\x.1<=255
theorem vwK_eq {α:Type} {h:Hp} {z:Nat} {x:AV} {k:List Nat->Nat->List AV->Bool->Option α}:vwK h z x k=(vwK h z x (fun a b c d=>some (a,b,c,d))).bind fun r=>k r.1 r.2.1 r.2.2.1 r.2.2.2:=by
 cases x<;>simp only [vwK,Option.bind_some,Option.bind_none]<;>(cases hget h _<;>rfl)
def mapN {α:Type} (g:Nat->α):Nat->List α
 |0=>[]
 |k+1=>mapN g k++[g k]
theorem mapN_s {α:Type} {g:Nat->α} {k:Nat}:mapN g (k+1)=mapN g k++[g k]:=(rfl)
theorem mapN_len {α:Type} {g:Nat->α}: ∀k,(mapN g k).length=k
 |0=>rfl
 |k+1=>by rw [mapN_s,List.length_append,mapN_len k];rfl
def strR (x:List UInt8):List AV:=[.s x]
theorem strR_len: ∀x,(strR x).length=1:=fun _=>rfl
theorem strR_bel: ∀x,belL 0 (strR x)=true:=fun _=>rfl
theorem splice_set {α:Type} {f:α->List AV} {z:Nat} (hf: ∀a,(f a).length=z) {a:α}: ∀{l:List α} {i:Nat},i<l.length->splice (rows f l) (i*z) (f a)=rows f (l.set i a)
 |[],i,h=>by simp at h
 |x::l,0,_=>by
  rw [List.set_cons_zero,rows_cons,rows_cons];unfold splice;rw [Nat.zero_mul,List.take_zero,List.nil_append,Nat.zero_add,hf,<-hf x,List.drop_left]
 |x::l,i+1,h=>by
  rw [List.set_cons_succ,rows_cons,rows_cons,<-splice_set hf (l:=l) (i:=i) (by simpa using h)]
  unfold splice;rw [Nat.add_mul,Nat.one_mul,Nat.add_comm (i*z) z,<-hf x,List.take_length_add_append,Nat.add_assoc,List.drop_length_add_append,List.append_assoc,List.append_assoc,List.append_assoc]
def FzE (x y:AV) (e:Env):Env->Prop
 |[]=>True
 |(t,v2)::r=>(∃v,eget e t=some v/\FzV x y v v2)/\FzE x y e r
theorem FzE.get {x y:AV} {e:Env}: ∀{e2:Env},FzE x y e e2-> ∀t v2,eget e2 t=some v2-> ∃v,eget e t=some v/\FzV x y v v2
 |[],_,t,v2,h=>by simp [eget] at h
 |(s,u)::r,hf,t,v2,h=>by
  simp only [eget] at h;by_cases hs:t=s
  ·subst hs;simp at h;subst h;exact hf.1
  ·rw [beq_ne hs] at h;exact FzE.get hf.2 t v2 h
def FzH (x y:AV) (b:Nat) (h:Hp):Hp->Prop
 |[]=>True
 |(c,k2)::r=>(c≠b/\ ∃k,hget h c=some k/\k2.ro=k.ro/\k2.gr=k.gr/\k2.gid=k.gid/\FzVs x y k.cells k2.cells)/\FzH x y b h r
theorem FzH.get {x y:AV} {b:Nat} {h:Hp}: ∀{h2:Hp},FzH x y b h h2-> ∀c k2,hget h2 c=some k2->c≠b/\ ∃k,hget h c=some k/\k2.ro=k.ro/\k2.gr=k.gr/\k2.gid=k.gid/\FzVs x y k.cells k2.cells
 |[],_,c,k2,h=>by simp [hget] at h
 |(s,u)::r,hf,c,k2,h=>by
  simp only [hget] at h;by_cases hs:c=s
  ·subst hs;simp at h;subst h;exact hf.1
  ·rw [beq_ne hs] at h;exact FzH.get hf.2 c k2 h
theorem FzH.app {x y:AV} {b:Nat} {h:Hp}: ∀{a r:Hp},FzH x y b h a->FzH x y b h r->FzH x y b h (a++r)
 |[],r,_,hr=>hr
 |_::a,r,ha,hr=>⟨ha.1,FzH.app ha.2 hr⟩
theorem FzVs.refl {x y:AV}: ∀{l:List AV},FzVs x y l l
 |[]=>trivial
 |a::l=>⟨FzV.refl,FzVs.refl⟩
theorem Seam.frz {F:Fx} {c:ICode} {K:Kont} {e e2:Env} {h h2:Hp} {n b m o:Nat} {x:AV} {k:Blk} {cs:List AV} (hs:Seam F c K e2 h2 n) (hk:hget h b=some k) (hro:k.ro=false) (hx:(∃cap,x= .sl b o m cap/\m<=cap)\/x= .sg b o m) (hcs:cs=k.cells.drop o\/cs=(k.cells.drop o).take cs.length)
 (he:FzE x (.fz cs m) e e2) (hh:FzH x (.fz cs m) b h h2):Seam F c K e h n:=by
 intro c' hc' ro hro0 Bd D0 φ0 H0 w0 g1 g2 D φ a w hR hS;have hH:=hR.heap;obtain ⟨hdb,⟨⟨vs,elem,fr,q1,q2,q3,q4⟩,q5⟩⟩:=hH.at_ b k hk;let φ1:Phi:={φ with fz:=fun B=>if B=φ.blk b then some vs else φ.fz B}
 have ag:Agree D φ φ1:=⟨fun c _=>⟨rfl,rfl,rfl,rfl⟩,fun B vs' hB=>by
  simp only [φ1];split
  ·rename_i hBb;subst hBb;obtain ⟨elem',fr',h1⟩:=hH.fz _ _ hB;rw [q1] at h1;simp only [Option.some.injEq,Obj.cells.injEq] at h1;rw [h1.1]
  ·exact hB,rfl⟩
 have hxy: ∀u1,VRel D φ1 x u1->VRel D φ1 (.fz cs m) u1:=fun u1 h1=>by
  have get: ∀(i:Nat) (a:AV),cs[i]? =some a-> ∃u,vs[φ.off b+o+i]? =some u/\VRel D φ a u:=fun i a ha=>by
   have ha':k.cells[o+i]? =some a:=by
    rcases hcs with e|e
    ·rw [e,List.getElem?_drop] at ha;exact ha
    ·rw [e,List.getElem?_take,List.getElem?_drop] at ha;split at ha
     ·exact ha
     ·cases ha
   obtain ⟨u,hu,hr⟩:=q2 _ a ha';exact ⟨u,by rw [Nat.add_assoc];exact hu,hr⟩
  have g1:φ1.fz (φ.blk b)=some vs:=by simp [φ1]
  have g2: ∀i,i<cs.length->φ.off b+o+i<vs.size:=fun i hi=>by
   obtain ⟨u,hu,_⟩:=get i _ (List.getElem?_eq_getElem hi);rcases Nat.lt_or_ge (φ.off b+o+i) vs.size with h'|h'
   ·exact h'
   ·rw [Array.getElem?_eq_none h'] at hu;cases hu
  have g3: ∀(i:Nat) (a:AV) (u:Value),cs[i]? =some a->vs[φ.off b+o+i]? =some u->VRel D φ1 a u:=fun i a u ha hu=>by
   obtain ⟨u',hu',hr⟩:=get i a ha;rw [hu] at hu';cases hu';exact hr.mono (fun _ h=>h) ag
  rcases hx with ⟨cap,rfl,hcap⟩|rfl
  ·cases h1 with
   |sl _ _ _ _ _=>exact .fz _ _ _ _ _ vs g1 hcap g2 g3
  ·cases h1 with
   |sg _ _ _ j cap _ _ _ hl=>exact .fz _ _ _ _ _ vs g1 hl g2 g3
 have hH1:HR D φ1 (hget h2) w:=by
  refine ⟨⟨fun c kk2 hc=> ?_,fun b1 b2 k1 k2 hne h1 h2' hr=> ?_⟩,fun B vs' hB=> ?_,hH.lp,fun c kk B vs' hc hr hB=> ?_⟩
  ·obtain ⟨hne,kk,h3,e1,e2',e3,hv⟩:=hh.get c kk2 hc;obtain ⟨d1,⟨⟨vs',elem',fr',r1,r2,r3,r4⟩,r5⟩⟩:=hH.at_ c kk h3;refine ⟨d1,⟨⟨vs',elem',fr',r1,fun i v2 hi=> ?_,by rw [e1,e2'];exact r3,by rw [e1,e2'];exact r4⟩,by rw [e3];exact r5⟩⟩
   obtain ⟨v,hv1,hv2⟩:=hv.get hi;obtain ⟨u,hu,hur⟩:=r2 i v hv1;exact ⟨u,hu,hv2 D φ1 u hxy (hur.mono (fun _ h=>h) ag)⟩
  ·obtain ⟨_,kk1,a1,a2,_⟩:=hh.get _ _ h1;obtain ⟨_,kk2,b1',b2',_⟩:=hh.get _ _ h2';exact hH.sep b1 b2 kk1 kk2 hne a1 b1' (by rw [<-a2];exact hr)
  ·simp only [φ1] at hB;split at hB
   ·rename_i e;subst e;cases hB;exact ⟨elem,fr,q1⟩
   ·exact hH.fz B vs' hB
  ·obtain ⟨hne,kk1,a1,a2,_⟩:=hh.get _ _ hc;simp only [φ1] at hB;split at hB
   ·rename_i e;subst e;exact hH.sep c b kk1 k hne a1 hk (by rw [<-a2];exact hr)
   ·exact hH.fsep c kk1 B vs' a1 (by rw [<-a2];exact hr) hB
 refine hs c' hc' ro hro0 Bd D0 φ0 H0 w0 g1 g2 D φ1 a w ⟨hR.lt,fun t v2 ht=> ?_,hH1,hR.size,hR.defers⟩ ⟨hS.sub,⟨hS.agree.at_,fun B vs' hB=>ag.fz B vs' (hS.agree.fz B vs' hB),hS.agree.lp⟩,hH1,hS.frm,fun c kk hc hr=> ?_,fun B vs' hB=> ?_⟩
 ·obtain ⟨v,hv1,hv2⟩:=he.get t v2 ht;exact hv2 D φ1 _ hxy ((hR.env t v hv1).mono (fun _ h=>h) ag)
 ·obtain ⟨_,kk1,a1,a2,_⟩:=hh.get _ _ hc;exact hS.img c kk1 a1 (by rw [<-a2];exact hr)
 ·simp only [φ1] at hB;split at hB
  ·rename_i e;subst e;exact .inr (hS.img b k hk hro)
  ·exact hS.fnew B vs' hB
theorem CovS.frzH {n0 n n2:Nat} {v v' v2:AV} {h h' h2:Hp} {x:AV} {b:Nat} {k:Blk} {cs:List AV} {m o:Nat} (hk:hget h b=some k) (hro:k.ro=false) (hx:(∃cap,x= .sl b o m cap/\m<=cap)\/x= .sg b o m) (hcs:cs=k.cells.drop o\/cs=(k.cells.drop o).take cs.length) (hf:FzV x (.fz cs m) v v')
 (hh:FzH x (.fz cs m) b h h') (hc:CovS n0 v' h' n v2 h2 n2):CovS n0 v h n v2 h2 n2:=by
 intro D φ w D0 φ0 H0 w0 u hD0 hD hv hH hS;obtain ⟨hdb,⟨⟨vs,elem,fr,q1,q2,q3,q4⟩,q5⟩⟩:=hH.at_ b k hk;let φ1:Phi:={φ with fz:=fun B=>if B=φ.blk b then some vs else φ.fz B}
 have ag:Agree D φ φ1:=⟨fun c _=>⟨rfl,rfl,rfl,rfl⟩,fun B vs' hB=>by
  simp only [φ1];split
  ·rename_i hBb;subst hBb;obtain ⟨elem',fr',h1⟩:=hH.fz _ _ hB;rw [q1] at h1;simp only [Option.some.injEq,Obj.cells.injEq] at h1;rw [h1.1]
  ·exact hB,rfl⟩
 have hxy: ∀u1,VRel D φ1 x u1->VRel D φ1 (.fz cs m) u1:=fun u1 h1=>by
  have get: ∀(i:Nat) (a:AV),cs[i]? =some a-> ∃u,vs[φ.off b+o+i]? =some u/\VRel D φ a u:=fun i a ha=>by
   have ha':k.cells[o+i]? =some a:=by
    rcases hcs with e|e
    ·rw [e,List.getElem?_drop] at ha;exact ha
    ·rw [e,List.getElem?_take,List.getElem?_drop] at ha;split at ha
     ·exact ha
     ·cases ha
   obtain ⟨u,hu,hr⟩:=q2 _ a ha';exact ⟨u,by rw [Nat.add_assoc];exact hu,hr⟩
  have g1:φ1.fz (φ.blk b)=some vs:=by simp [φ1]
  have g2: ∀i,i<cs.length->φ.off b+o+i<vs.size:=fun i hi=>by
   obtain ⟨u,hu,_⟩:=get i _ (List.getElem?_eq_getElem hi);rcases Nat.lt_or_ge (φ.off b+o+i) vs.size with h'|h'
   ·exact h'
   ·rw [Array.getElem?_eq_none h'] at hu;cases hu
  have g3: ∀(i:Nat) (a:AV) (u:Value),cs[i]? =some a->vs[φ.off b+o+i]? =some u->VRel D φ1 a u:=fun i a u ha hu=>by
   obtain ⟨u',hu',hr⟩:=get i a ha;rw [hu] at hu';cases hu';exact hr.mono (fun _ h=>h) ag
  rcases hx with ⟨cap,rfl,hcap⟩|rfl
  ·cases h1 with
   |sl _ _ _ _ _=>exact .fz _ _ _ _ _ vs g1 hcap g2 g3
  ·cases h1 with
   |sg _ _ _ j cap _ _ _ hl=>exact .fz _ _ _ _ _ vs g1 hl g2 g3
 have hH1:HR D φ1 (hget h') w:=by
  refine ⟨⟨fun c kk2 hc=> ?_,fun b1 b2 k1 k2 hne h1 h2' hr=> ?_⟩,fun B vs' hB=> ?_,hH.lp,fun c kk B vs' hc hr hB=> ?_⟩
  ·obtain ⟨hne,kk,h3,e1,e2',e3,hv⟩:=hh.get c kk2 hc;obtain ⟨d1,⟨⟨vs',elem',fr',r1,r2,r3,r4⟩,r5⟩⟩:=hH.at_ c kk h3;refine ⟨d1,⟨⟨vs',elem',fr',r1,fun i v2 hi=> ?_,by rw [e1,e2'];exact r3,by rw [e1,e2'];exact r4⟩,by rw [e3];exact r5⟩⟩
   obtain ⟨v,hv1,hv2⟩:=hv.get hi;obtain ⟨u,hu,hur⟩:=r2 i v hv1;exact ⟨u,hu,hv2 D φ1 u hxy (hur.mono (fun _ h=>h) ag)⟩
  ·obtain ⟨_,kk1,a1,a2,_⟩:=hh.get _ _ h1;obtain ⟨_,kk2,b1',b2',_⟩:=hh.get _ _ h2';exact hH.sep b1 b2 kk1 kk2 hne a1 b1' (by rw [<-a2];exact hr)
  ·simp only [φ1] at hB;split at hB
   ·rename_i e;subst e;cases hB;exact ⟨elem,fr,q1⟩
   ·exact hH.fz B vs' hB
  ·obtain ⟨hne,kk1,a1,a2,_⟩:=hh.get _ _ hc;simp only [φ1] at hB;split at hB
   ·rename_i e;subst e;exact hH.sep c b kk1 k hne a1 hk (by rw [<-a2];exact hr)
   ·exact hH.fsep c kk1 B vs' a1 (by rw [<-a2];exact hr) hB
 refine hc D φ1 w D0 φ0 H0 w0 u hD0 hD (hf D φ1 u hxy (hv.mono (fun _ h=>h) ag)) hH1 ⟨hS.sub,⟨hS.agree.at_,fun B vs' hB=>ag.fz B vs' (hS.agree.fz B vs' hB),hS.agree.lp⟩,hH1,hS.frm,fun c kk2 hc hr=> ?_,fun B vs' hB=> ?_⟩
 ·obtain ⟨_,kk1,a1,a2,_⟩:=hh.get _ _ hc;exact hS.img c kk1 a1 (by rw [<-a2];exact hr)
 ·simp only [φ1] at hB;split at hB
  ·rename_i e;subst e;exact .inr (hS.img b k hk hro)
  ·exact hS.fnew B vs' hB
end Go.Ab
namespace Go.Ab
theorem FTL.nilOr {P:Program} {f:FuncId} {pre post:List AV} {l:List AV} {h h':Hp} {n n':Nat} {v':AV} (h1:FTL P f (pre++ .ns::post) h n v' h' n') (h2:FTL P f (pre++ .en::post) h n v' h' n'):FTL P f (pre++ .fz l 0::post) h n v' h' n':=by
 intro D φ w us hD hH hA;have hi:(pre++ .fz l 0::post)[pre.length]? =some (.fz l 0):=by simp
 obtain ⟨u,hu,hr⟩:=hA.get hi;have go: ∀y,VRel D φ y u->All2 D φ (pre++y::post) us:=fun y hy=>⟨by have:=hA.1;simp at this ⊢;exact this,fun i a u' ha hu'=>by
  by_cases hip:i=pre.length
  ·subst hip;simp at ha;subst ha;rw [hu] at hu';cases hu';exact hy
  ·refine hA.2 i a u' ?_ hu';rcases Nat.lt_or_ge i pre.length with hlt|hge
   ·rw [List.getElem?_append_left hlt] at ha ⊢;exact ha
   ·rw [List.getElem?_append_right hge] at ha ⊢;obtain ⟨j,hj⟩: ∃j,i-pre.length=j+1:=⟨i-pre.length-1,by omega⟩
    rw [hj] at ha ⊢;simpa using ha⟩
 cases hr with
 |fz _ _ B o cap vs hB hc hs hh=>exact h2 D φ w us hD hH (go _ (.en _ _))
 |fz0 _ x cap hc0=>
  cases x with
  |some x=>exact h2 D φ w us hD hH (go _ (.en _ _))
  |none=>
   exact h1 D φ w us hD hH (go _ (by rw [hc0 rfl];exact .ns))
theorem CovS.zeS {n0 n n2:Nat} {v v' v2:AV} {h h2:Hp} {b o:Nat} (hf:FzV (.sl b o 0 0) .ze v v') (hc:CovS n0 v' h n v2 h2 n2):CovS n0 v h n v2 h2 n2:=by
 intro D φ w D0 φ0 H0 w0 u hD0 hD hv hH hS;exact hc D φ w D0 φ0 H0 w0 u hD0 hD (hf D φ u (fun u1 h1=>by cases h1;exact .ze _) hv) hH hS
theorem CovS.zeN {n0 n n2:Nat} {v v' v2:AV} {h h2:Hp} (hf:FzV .ns .ze v v') (hc:CovS n0 v' h n v2 h2 n2):CovS n0 v h n v2 h2 n2:=by
 intro D φ w D0 φ0 H0 w0 u hD0 hD hv hH hS;exact hc D φ w D0 φ0 H0 w0 u hD0 hD (hf D φ u (fun u1 h1=>by cases h1;exact .ze _) hv) hH hS
abbrev clnC (z bytes:Nat) (zs:List AV):ICode:=(.seq (.reg [⟨some 2,.mv (.c .ns),none,false⟩]) (.seq (.seq (.reg [⟨some 3,.mv (.t 0),none,false⟩,⟨some 4,.eqn false 1 (.t 3) (.c .ns),none,true⟩]) (.cond (.t 4) (.seq (.reg [⟨some 2,.mv (.c .ns),none,false⟩]) .ret) .skip))
 (.seq (.reg [⟨some 5,.bsl [] 0 [],none,false⟩,⟨some 6,.mv (.t 0),none,false⟩,⟨some 7,.app z bytes zs (.t 5) (.t 6),none,false⟩,⟨some 2,.mv (.t 7),none,false⟩]) .ret)))
def clnI (z bytes:Nat) (zs:List AV):IFn:={np:=1,N:=8,ct:=[4],code:=clnC z bytes zs,res:=[.t 2]}
section
variable {P:Program} {f:FuncId} {fn:Func} {z bytes:Nat} {zs:List AV}
theorem cln_0 (hm:P.follows .mixedOrders=true) (hf:P.funcs[f]? =some fn) (hI:compF P fn=some (clnI z bytes zs)) (l:List AV):FTL P f [.fz l 0] [] 0 .ze [] 0:=by
 refine FTL.nilOr (pre:=[]) (post:=[]) ?_ ?_
 ·refine FTL.of_cov (cx:=cxT []) Sound.nil hm hf hI (by simp [clnI]) (iw_of_jw ?_)
  dsimp only [clnI];simp only [go_sem,simprocAttr];exact CovS.zeN FzV.hit (CovS.ends (Ends.pureE rfl rfl))
 ·refine FTL.of_cov (cx:=cxT []) Sound.nil hm hf hI (by simp [clnI]) (iw_of_jw ?_)
  dsimp only [clnI];simp only [go_sem,simprocAttr];exact CovS.zeS FzV.hit (CovS.ends (Ends.pureE rfl rfl))
theorem cln_1 (hm:P.follows .mixedOrders=true) (hf:P.funcs[f]? =some fn) (hI:compF P fn=some (clnI z bytes zs)) {L:List AV} {m:Nat} (hL:L.length=(m+1)*z) (hone:oneAll L=true) (hb:belL 0 L=true) (hz:bytes*(m+1)<=growMax):
 FTL P f [.fz L (m+1)] [] 0 (.sg 0 0 (m+1)) [(0,{cells:=L,gr:=some z})] 1:=by
 refine FTL.of_iw (cx:=cxT []) Sound.nil hm hf hI (by simp [clnI]) (iw_of_jw ?_)
 dsimp only [clnI];have h1:List.take ((m+1)*z) L=L:=List.take_of_length_le (by omega)
 have h2:decide (bytes*(m+1)<=growMax)=true:=decide_eq_true hz;simp only [go_sem,h1,h2,hL,hone,Nat.zero_add,List.drop_zero,Nat.zero_mul,simprocAttr];exact Ends.new1 (b:=1) (by decide) rfl rfl rfl hb rfl
end
end Go.Ab
namespace Go.Ab
section
variable {P:Program} {f:FuncId} {fn:Func} {z bytes:Nat} {zs:List AV}
end
end Go.Ab
namespace Go.Ab
def Wka (a b:AV):Prop:= ∀D φ u,VRel D φ a u->VRel D φ b u
def WkaL:List AV->List AV->Prop
 |[],[]=>True
 |a::l,b::m=>Wka a b/\WkaL l m
 |_,_=>False
theorem WkaL.all {D:Nat->Prop} {φ:Phi}: ∀{l m:List AV} {us:List Value},WkaL l m->All2 D φ l us->All2 D φ m us
 |[],[],_,_,h=>h
 |a::l,b::m,us,h,h2=>by
  obtain ⟨u,us',rfl,hu,ht⟩:=h2.uncons;exact .cons (h.1 _ _ _ hu) (WkaL.all h.2 ht)
 |[],_::_,_,h,_=>h.elim
 |_::_,[],_,h,_=>h.elim
theorem Wka.refl (a:AV):Wka a a:=fun _ _ _ h=>h
theorem Wka.ns:Wka .ns (.fz [] 0):=fun _ _ _ h=>by cases h;exact .fz0 _ _ _ (fun _=>rfl)
theorem Wka.ze:Wka .ze (.fz [] 0):=fun _ _ _ h=>by cases h;exact .fz0 _ _ _ (fun _=>rfl)
theorem Wka.agg {l m:List AV} (h:WkaL l m):Wka (.agg l) (.agg m):=fun D φ u hu=>by
 obtain ⟨us,rfl,ha⟩:=hu.agg_inv;exact VRel.agg' (h.all ha)
theorem FTL.wka {P:Program} {f:FuncId} {xs ys:List AV} {h h':Hp} {n n':Nat} {v:AV} (hw:WkaL xs ys) (hf:FTL P f ys h n v h' n'):FTL P f xs h n v h' n':=
 fun D φ w us hD hH hA=>hf D φ w us hD hH (hw.all hA)
theorem WkaL.refl: ∀l:List AV,WkaL l l
 |[]=>trivial
 |a::l=>⟨Wka.refl a,WkaL.refl l⟩
theorem FTL.wkaH {P:Program} {f:FuncId} {a b:AV} {r:List AV} {h h':Hp} {n n':Nat} {v:AV} (hw:Wka a b) (hf:FTL P f (b::r) h n v h' n'):FTL P f (a::r) h n v h' n':=
 FTL.wka (xs:=a::r) (ys:=b::r) ⟨hw,WkaL.refl r⟩ hf
theorem WkaL.len: ∀{l m:List AV},WkaL l m->l.length=m.length
 |[],[],_=>rfl
 |a::l,b::m,h=>by simp only [List.length_cons,WkaL.len h.2]
 |[],_::_,h=>h.elim
 |_::_,[],h=>h.elim
theorem WkaL.get: ∀{l m:List AV} {i:Nat} {b:AV},WkaL l m->m[i]? =some b-> ∃a,l[i]? =some a/\Wka a b
 |[],[],i,b,_,h=>by simp at h
 |a::l,c::m,0,b,h,h2=>by
  simp only [List.getElem?_cons_zero,Option.some.injEq] at h2;subst h2;exact ⟨a,rfl,h.1⟩
 |a::l,c::m,i+1,b,h,h2=>by
  rw [List.getElem?_cons_succ] at h2;obtain ⟨a',h3,h4⟩:=WkaL.get h.2 h2;exact ⟨a',by rw [List.getElem?_cons_succ];exact h3,h4⟩
 |[],_::_,_,_,h,_=>h.elim
 |_::_,[],_,_,h,_=>h.elim
theorem WkaL.app: ∀{l m l' m':List AV},WkaL l m->WkaL l' m'->WkaL (l++l') (m++m')
 |[],[],_,_,_,h=>h
 |a::l,b::m,_,_,h,h2=>⟨h.1,WkaL.app h.2 h2⟩
 |[],_::_,_,_,h,_=>h.elim
 |_::_,[],_,_,h,_=>h.elim
theorem Wka.fz {l m:List AV} {n:Nat} (hw:WkaL l m):Wka (.fz l n) (.fz m n):=fun D φ u h=>by
 have hlen:=hw.len;cases h with
 |fz _ _ B o cap vs hB hc hs h=>
  refine .fz _ _ B o cap vs hB hc (fun i hi=>hs i (by omega)) (fun i b u h1 h2=> ?_)
  obtain ⟨a,ha,hab⟩:=hw.get h1;exact hab _ _ _ (h i a u ha h2)
 |fz0 _ x cap hc=>exact .fz0 _ x cap hc
def WkE (e:Env):Env->Prop
 |[]=>True
 |(t,v2)::r=>(∃v,eget e t=some v/\Wka v v2)/\WkE e r
theorem WkE.get {e:Env}: ∀{e2:Env},WkE e e2-> ∀t v2,eget e2 t=some v2-> ∃v,eget e t=some v/\Wka v v2
 |[],_,t,v2,h=>by simp [eget] at h
 |(s,u)::r,hf,t,v2,h=>by
  simp only [eget] at h;by_cases hs:t=s
  ·subst hs;simp at h;subst h;exact hf.1
  ·rw [beq_ne hs] at h;exact WkE.get hf.2 t v2 h
def WkH (h:Hp):Hp->Prop
 |[]=>True
 |(c,k2)::r=>(∃k,hget h c=some k/\k2.ro=k.ro/\k2.gr=k.gr/\k2.gid=k.gid/\WkaL k.cells k2.cells)/\WkH h r
theorem WkH.get {h:Hp}: ∀{h2:Hp},WkH h h2-> ∀c k2,hget h2 c=some k2-> ∃k,hget h c=some k/\k2.ro=k.ro/\k2.gr=k.gr/\k2.gid=k.gid/\WkaL k.cells k2.cells
 |[],_,c,k2,h=>by simp [hget] at h
 |(s,u)::r,hf,c,k2,h=>by
  simp only [hget] at h;by_cases hs:c=s
  ·subst hs;simp at h;subst h;exact hf.1
  ·rw [beq_ne hs] at h;exact WkH.get hf.2 c k2 h
theorem Seam.wk {F:Fx} {c:ICode} {K:Kont} {e e2:Env} {h h2:Hp} {n:Nat} (hs:Seam F c K e2 h2 n) (he:WkE e e2) (hh:WkH h h2):Seam F c K e h n:=by
 intro c' hc' ro hro0 Bd D0 φ0 H0 w0 g1 g2 D φ a w hR hS;have hH:=hR.heap;have hH1:HR D φ (hget h2) w:=by
  refine ⟨⟨fun c kk2 hc=> ?_,fun b1 b2 k1 k2 hne h1 h2' hr=> ?_⟩,hH.fz,hH.lp,fun c kk B vs' hc hr hB=> ?_⟩
  ·obtain ⟨kk,h3,e1,e2',e3,hv⟩:=hh.get c kk2 hc;obtain ⟨d1,⟨⟨vs',elem',fr',r1,r2,r3,r4⟩,r5⟩⟩:=hH.at_ c kk h3;refine ⟨d1,⟨⟨vs',elem',fr',r1,fun i v2 hi=> ?_,by rw [e1,e2'];exact r3,by rw [e1,e2'];exact r4⟩,by rw [e3];exact r5⟩⟩
   obtain ⟨v,hv1,hv2⟩:=hv.get hi;obtain ⟨u,hu,hur⟩:=r2 i v hv1;exact ⟨u,hu,hv2 D φ u hur⟩
  ·obtain ⟨kk1,a1,a2,_⟩:=hh.get _ _ h1;obtain ⟨kk2,b1',b2',_⟩:=hh.get _ _ h2';exact hH.sep b1 b2 kk1 kk2 hne a1 b1' (by rw [<-a2];exact hr)
  ·obtain ⟨kk1,a1,a2,_⟩:=hh.get _ _ hc;exact hH.fsep c kk1 B vs' a1 (by rw [<-a2];exact hr) hB
 refine hs c' hc' ro hro0 Bd D0 φ0 H0 w0 g1 g2 D φ a w ⟨hR.lt,fun t v2 ht=> ?_,hH1,hR.size,hR.defers⟩ ⟨hS.sub,hS.agree,hH1,hS.frm,fun c kk hc hr=> ?_,hS.fnew⟩
 ·obtain ⟨v,hv1,hv2⟩:=he.get t v2 ht;exact hv2 D φ _ (hR.env t v hv1)
 ·obtain ⟨kk1,a1,a2,_⟩:=hh.get _ _ hc;exact hS.img c kk1 a1 (by rw [<-a2];exact hr)
end Go.Ab
namespace Go.Ab
def cx0:Cx:=fun _ _ _ _=>none
theorem cx0_sound {P:Program}:Sound P cx0:=fun f args h n c E hc _=>by cases hc
def rcvK (m:FrameMode) (k:FrameMode->AV->Prop):Prop:=
 match m with
 | .returning=>k .returning .ni
 | .panicking [{v:= .iface t u,recovered:=false,goexit:=false}]=>k (.panicking [{v:= .iface t u,recovered:=true}]) (.k t u)
 |_=>False
theorem rcvK_r {k:FrameMode->AV->Prop}:rcvK .returning k=k .returning .ni:=(rfl)
theorem rcvK_p {t:TypeId} {u:Value} {k:FrameMode->AV->Prop}:rcvK (.panicking [{v:= .iface t u,recovered:=false}]) k=k (.panicking [{v:= .iface t u,recovered:=true}]) (.k t u):=(rfl)
def isRcv:IOp->Bool
 | .rcv=>true
 |_=>false
abbrev SKont:=FrameMode->Exit->Env->Hp->Nat->Prop
def runS:List IOper->FrameMode->Env->Hp->Nat->SKont->Prop
 |[],m,e,h,n,K=>K m .normal e h n
 |⟨d,o,none,s⟩::os,m,e,h,n,K=>match isRcv o with
  |true=>rcvK m fun m v=>runS os m (eput d v e) h n K
  |false=>gd4 (stepD cx0 o e h n) fun c p v h n=>andB c (p=none/\fin1 s v fun v=>runS os m (eput d v e) h n K)
 |_::_,_,_,_,_,_=>False
def iwS:ICode->FrameMode->SKont->Env->Hp->Nat->Prop
 | .skip,m,K,e,h,n=>K m .normal e h n
 | .reg ops,m,K,e,h,n=>runS ops m e h n K
 | .seq a b,m,K,e,h,n=>iwS a m (fun m ex e h n=>match ex with| .normal=>iwS b m K e h n|ex=>K m ex e h n) e h n
 | .cond c a b,m,K,e,h,n=>gd (c.ev e h) fun v=>match v with
  | .b x=>spB x (iwS a m K e h n) (iwS b m K e h n)
  |_=>False
 | .ret,m,K,e,h,n=>K m .ret e h n
 | .dreg ops,m,K,e,h,n=>rD cx0 ops 0 [] e h n (fun ex e h n=>K m ex e h n)
 |_,_,_,_,_,_=>False
/-! ### the model's recover -/
def notRcv (x:IOp):Bool:= !isRcv x
def NR (x:Option IOp):Prop:= ∀y,x=some y->notRcv y=true
theorem NR.bind {α:Type} {x:Option α} {f:α->Option IOp} (h: ∀a,NR (f a)):NR (x.bind f):=fun y hy=>by
 simp only [Option.bind_eq_some_iff] at hy;obtain ⟨a,_,hy⟩:=hy;exact h a y hy
theorem NR.map {α:Type} {x:Option α} {f:α->IOp} (h: ∀a,notRcv (f a)=true):NR (x.map f):=fun y hy=>by
 obtain ⟨a,_,rfl⟩:=Option.map_eq_some_iff.1 hy;exact h a
theorem NR.none:NR none:=fun y hy=>by cases hy
theorem NR.ite {c:Prop} [Decidable c] {x y:Option IOp} (h1:NR x) (h2:NR y):NR (if c then x else y):=by split<;>assumption
theorem NR.orBad {x:Option IOp} (h:NR x):notRcv (orBad x)=true:=by
 cases x with
 |none=>rfl
 |some y=>exact h y rfl
theorem compOp_notRcv {P:Program} {o:Op} (ho: ∀args tys,o≠ .call ⟨.builtin .recover,args,tys⟩):notRcv (compOp P o)=true:=by
 cases o<;>simp only [compOp]
 case call c=>
  obtain ⟨callee,args,tys⟩:=c;cases callee with
  |value f=>exact NR.orBad (NR.bind fun _=>NR.map fun _=>rfl)
  |invoke r m=>rfl
  |builtin b=>
   simp only;repeat' split
   all_goals first
    |rfl
    |exact absurd rfl (ho _ _)
    |(refine NR.orBad ?_;repeat (first|(refine NR.bind (fun _=> ?_))|exact NR.map (fun _=>rfl)|exact NR.none|refine NR.ite ?_ ?_))
 case makeFunc fn first caps=>
  cases fn with
  |func f=>simp only;repeat' split
           all_goals first|rfl|exact NR.orBad (NR.map (fun _=>rfl))
  |_=>rfl
 all_goals (repeat' split)
 all_goals first
  |rfl
  |(refine NR.orBad ?_;repeat (first|(refine NR.bind (fun _=> ?_))|exact NR.map (fun _=>rfl)|exact NR.none|refine NR.ite ?_ ?_))
theorem run_rcv {P:Program} {ρ:Operand->Value} {o:Oper} {w:World} (h:isRcv (compOp P o.op)=true):(execOp ρ o).run P w= .ok .recover w:=by
 cases ho:o.op with
 |call c=>
  obtain ⟨callee,args,tys⟩:=c;rw [ho] at h;by_cases hb:callee= .builtin .recover
  ·subst hb;simp only [execOp,ho,resolve,invoke,Sem.run_bind,Sem.run_pure,Result.andThen_ok,builtin]
  ·have:=compOp_notRcv (P:=P) (o:= .call ⟨callee,args,tys⟩) (fun a t e=>hb (by cases e;rfl))
   simp [notRcv,h] at this
 |_=>
  rw [ho] at h;have:=compOp_notRcv (P:=P) (o:=o.op) (by rw [ho];simp)
  rw [ho] at this;simp [notRcv,h] at this
def isDfr:IOp->Bool
 | .dfr _ _=>true
 |_=>false
def notDfr (x:IOp):Bool:= !isDfr x
theorem notDfr_ne {y:IOp} {x:Opd} {l:List Opd} (h:notDfr y=true) (e:y= .dfr x l):False:=by rw [e] at h;cases h
def ND (x:Option IOp):Prop:= ∀y,x=some y->notDfr y=true
theorem ND.bind {α:Type} {x:Option α} {f:α->Option IOp} (h: ∀a,ND (f a)):ND (x.bind f):=fun y hy=>by
 simp only [Option.bind_eq_some_iff] at hy;obtain ⟨a,_,hy⟩:=hy;exact h a y hy
theorem ND.map {α:Type} {x:Option α} {f:α->IOp} (h: ∀a,notDfr (f a)=true):ND (x.map f):=fun y hy=>by
 obtain ⟨a,_,rfl⟩:=Option.map_eq_some_iff.1 hy;exact h a
theorem ND.none:ND none:=fun y hy=>by cases hy
theorem ND.ite {c:Prop} [Decidable c] {x y:Option IOp} (h1:ND x) (h2:ND y):ND (if c then x else y):=by split<;>assumption
theorem ND.orBad {x:Option IOp} (h:ND x):notDfr (orBad x)=true:=by
 cases x with
 |none=>rfl
 |some y=>exact h y rfl
theorem compOp_notDfr {P:Program} {o:Op} (ho: ∀c,o≠ .defer c):notDfr (compOp P o)=true:=by
 cases o<;>simp only [compOp]
 case defer c=>exact absurd rfl (ho c)
 case call c=>
  obtain ⟨callee,args,tys⟩:=c;cases callee with
  |value f=>exact ND.orBad (ND.bind fun _=>ND.map fun _=>rfl)
  |invoke r m=>rfl
  |builtin b=>
   simp only;repeat' split
   all_goals first
    |rfl
    |(refine ND.orBad ?_;repeat (first|(refine ND.bind (fun _=> ?_))|exact ND.map (fun _=>rfl)|exact ND.none|refine ND.ite ?_ ?_))
 case makeFunc fn first caps=>
  cases fn with
  |func f=>simp only;repeat' split
           all_goals first|rfl|exact ND.orBad (ND.map (fun _=>rfl))
  |_=>rfl
 all_goals (repeat' split)
 all_goals first
  |rfl
  |(refine ND.orBad ?_;repeat (first|(refine ND.bind (fun _=> ?_))|exact ND.map (fun _=>rfl)|exact ND.none|refine ND.ite ?_ ?_))
/-! ### soundness -/
section
variable {P:Program} {N n0:Nat}
def PostS (N n0:Nat) (c0:Frame) (cs:List Frame) (D0:Nat->Prop) (φ0:Phi) (H0:Hf) (w0:World) (K:SKont) (ex:Exit) (a:Act) (cs':List Frame) (w:World):Prop:=
 ∃m D φ e h n,K m ex e h n/\n0<=n/\cs'={c0 with mode:=m}::cs/\a.defers=[]/\Rel D φ e h n N (w0.heap.size,[]) a w/\Stp D0 φ0 H0 w0 D φ (hget h) w
theorem runS_sound {c0:Frame} {cs:List Frame} {K:SKont} {D0:Nat->Prop} {φ0:Phi} {H0:Hf} {w0:World} {ops:Array Oper} {sp:List Nat} (hn0: ∀b,D0 b->b<n0) (hgu:guardOK ops.toList=true):
 ∀(l:List Oper) (i:Nat),(∀j,l[j]? =ops[i+j]?)->dstOK N l=true-> ∀(m:FrameMode) (e:Env) (h:Hp) (n:Nat) (D:Nat->Prop) (φ:Phi) (a:Act) (w:World),n0<=n->a.defers=[]→
  runS (l.map (compOper P ops.toList sp)) m e h n K->Rel D φ e h n N (w0.heap.size,[]) a w->Stp D0 φ0 H0 w0 D φ (hget h) w→
  wpOpsSIn (Fw none) (0-1) P ops (PostS N n0 c0 cs D0 φ0 H0 w0 K) (List.range' i l.length) a ({c0 with mode:=m}::cs) w
 |[],i,_,_,m,e,h,n,D,φ,a,w,hn,hd0,hrun,hR,hS=>⟨m,D,φ,e,h,n,hrun,hn,rfl,hd0,hR,hS⟩
 |o::l,i,hl,hdst,m,e,h,n,D,φ,a,w,hn,hd0,hrun,hR,hS=>by
  have ho:ops[i]? =some o:=by simpa using (hl 0).symm
  have hl': ∀j,l[j]? =ops[(i+1)+j]? :=fun j=>by have:=hl (j+1);simpa [Nat.add_assoc,Nat.add_comm 1 j] using this
  simp only [dstOK,List.all_cons,Bool.and_eq_true] at hdst;have hom:o∈ops.toList:=List.mem_of_getElem? (i:=i) (by simpa using ho)
  have hdN: ∀t,o.dst=some t->t<N:=fun t ht=>by
   have:=hdst.1;rw [ht] at this;exact of_decide_eq_true this
  simp only [List.length_cons,List.range'_succ,wpOpsSIn,ho];refine ⟨fun _ _=>trivial,?_⟩;cases hog:o.guard with
  |some q=>
   obtain ⟨j,b⟩:=q;have h1:(ops.toList[j]?.bind (·.dst)).isSome=true:=by
    have:=List.all_eq_true.1 hgu o hom;simpa [hog] using this
   obtain ⟨d,hd⟩:=Option.isSome_iff_exists.1 h1;simp only [List.map_cons] at hrun;obtain ⟨s0,hs0⟩: ∃s0,compOper P ops.toList sp o=⟨o.dst,compOp P o.op,some (d,b),s0⟩:=by
    simp only [compOper,hog,hd];exact ⟨_,rfl⟩
   rw [hs0] at hrun;exact hrun.elim
  |none=>
   have hw:Region.wanted o (yielded ops a.tmps)=true:=by simp [Region.wanted,hog]
   rw [hw];simp only [if_true];simp only [List.map_cons] at hrun;obtain ⟨s0,hs0⟩: ∃s0,compOper P ops.toList sp o=⟨o.dst,compOp P o.op,none,s0⟩:=by
    simp only [compOper,hog];exact ⟨_,rfl⟩
   rw [hs0] at hrun;simp only [runS] at hrun;cases hr:isRcv (compOp P o.op) with
   |true=>
    rw [hr] at hrun;simp only at hrun;rw [run_rcv hr];simp only;unfold rcvK at hrun;split at hrun
    · -- nothing to recover
      simp only [recoverD];refine runS_sound hn0 hgu l (i+1) hl' hdst.2 _ _ h n D φ _ w hn (by rw [put_defers];exact hd0) hrun ?_ hS
      exact hR.put hR.defers hdN (fun _ h=>h) (Agree.refl _ _) hR.lt .ni hR.heap
    ·rename_i t u;simp only [recoverD];refine runS_sound hn0 hgu l (i+1) hl' hdst.2 _ _ h n D φ _ w hn (by rw [put_defers];exact hd0) hrun ?_ hS
     exact hR.put hR.defers hdN (fun _ h=>h) (Agree.refl _ _) hR.lt (.k t u) hR.heap
    ·exact hrun.elim
   |false=>
    rw [hr] at hrun;simp only at hrun;unfold stepD at hrun;cases hst:stepC cx0 (compOp P o.op) e h n with
    |none=>rw [hst] at hrun;exact hrun.elim
    |some r=>
     obtain ⟨c,E⟩:=r;rw [hst] at hrun;obtain ⟨hc,hp,hrun⟩:=hrun;simp only at hc hp;subst hc;have hrun:runS (l.map (compOper P ops.toList sp)) m (eput o.dst E.v e) (E.appL h) E.n K:=fin1_elim (k:=fun v=>runS (l.map (compOper P ops.toList sp)) m (eput o.dst v e) (E.appL h) E.n K) hrun;have hst':step (compOp P o.op) e h n=some (true,E):=by
      unfold stepC at hst;split at hst
      ·simp only [Option.bind_eq_some_iff] at hst;obtain ⟨v,_,hst⟩:=hst;split at hst<;>first|(simp only [Option.bind_eq_some_iff] at hst;obtain ⟨l,_,hst⟩:=hst;cases hst)|cases hst
      ·simp only [Option.bind_eq_some_iff] at hst;obtain ⟨v,_,hst⟩:=hst;split at hst
       ·simp only [Option.some.injEq,Prod.mk.injEq,true_and] at hst;subst hst;cases hp
       ·cases hst
      ·exact hst
     have hfresh: ∀b,n<=b->b<E.n-> ¬D b:=fun b hb _ hD=>by have:=hR.lt b hD;omega
     have hH0:HR D φ (only (hget h) E.rd) w:=hR.heap.sub (fun b k hb=>by
      unfold only at hb;cases hi:inl E.rd b<;>simp [hi] at hb;exact hb)
     obtain ⟨φ',u,nx,w',hrr,hnx,hle,hv,hst2,hro,hmd,hnw⟩:=step_sound (P:=P) (ρ:=a.eval) (w:=w) (o:=o) hst' rfl (fun hlt=>hfresh n (Nat.le_refl _) hlt) (fun y hy x hx v hv=>opd_relG (fun t v _ hv=>hR.env t v hv) hx hR.heap hv) hH0;have hfull:=lift_frame hR.heap (fun b k hb=>by unfold only at hb;cases hi:inl E.rd b<;>simp [hi] at hb;exact hb) hmd hst2 hro (fun _ _ _ _ _=> .inr trivial)
     rw [<-appL_app] at hfull;have hlt: ∀b,Dn D n E.n b->b<E.n:=fun b hb=>hb.elim (fun h=>by have:=hR.lt b h;omega) (fun h=>h.2)
     have fin:wpOpsSIn (Fw none) (0-1) P ops (PostS N n0 c0 cs D0 φ0 H0 w0 K) (List.range' (i+1) l.length) (a.put o.dst u) ({c0 with mode:=m}::cs) w':=
      runS_sound hn0 hgu l (i+1) hl' hdst.2 _ _ _ _ _ φ' _ w' (by omega) (by rw [put_defers];exact hd0) hrun
       (hR.put (hR.defers.stays hR.heap hfull.frm) hdN hfull.sub hfull.agree hlt hv hfull.hr) (hS.trans hfull)
     rw [hrr];rcases hnx with rfl|⟨rfl,rfl⟩
     ·exact fin
     ·exact fin
theorem iwS_sound {c0:Frame} {cs:List Frame} {ct:List Nat} {D0:Nat->Prop} {φ0:Phi} {H0:Hf} {w0:World} (hm:P.follows .mixedOrders=true) (hn0: ∀b,D0 b->b<n0):
 ∀(c:Code) (K:SKont) (m:FrameMode) (e:Env) (h:Hp) (n:Nat),iwS (compC P ct N c) m K e h n-> ∀(D:Nat->Prop) (φ:Phi) (a:Act) (w:World),n0<=n->a.defers=[]->Rel D φ e h n N (w0.heap.size,[]) a w->Stp D0 φ0 H0 w0 D φ (hget h) w→
  c.wpSIn (Fw none) (0-1) P (PostS N n0 c0 cs D0 φ0 H0 w0 K) a ({c0 with mode:=m}::cs) w:=by
 intro c;induction c with
 |skip=>
  intro K m e h n hi D φ a w hn hd hR hS;exact wpSIn_of_wpIn rfl (wpIn_skip ⟨m,D,φ,e,h,n,hi,hn,rfl,hd,hR,hS⟩)
 |region id ops draw=>
  intro K m e h n hi D φ a w hn hd hR hS;simp only [compC] at hi;split at hi
  ·rename_i hc;simp only [Bool.and_eq_true,Bool.or_eq_true,Bool.not_eq_true'] at hc;obtain ⟨⟨hc1,hc2⟩,hc4⟩:=hc;cases draw
   ·simp only [Bool.false_eq_true,if_false,iwS] at hi;refine wpSIn_region ?_;have:=runS_sound (P:=P) (N:=N) (n0:=n0) (c0:=c0) (cs:=cs) (K:=K) (D0:=D0) (φ0:=φ0) (H0:=H0) (w0:=w0) (ops:=ops) hn0 hc2 ops.toList 0 (by simp) hc1 m e h n D φ a w hn hd hi hR hS
    rw [List.range_eq_range'];simpa using this
   ·simp only [if_true,iwS] at hi;refine wpSIn_of_wpIn rfl (wpIn_mono (runD_soundD (ro:=none) (cx:=cx0) cx0_sound hm hn0 hc2 hc1 (hc4.resolve_left (by simp)).1 (hc4.resolve_left (by simp)).2 hn (runD_of_rD hi) hR hS) (fun ex a' w' hp=> ?_))
    obtain ⟨⟨D',φ',e',h',n',hk,hn',hR',hS'⟩,hdf⟩:=hp;exact ⟨m,D',φ',e',h',n',hk,hn',rfl,hdf.trans hd,hR',hS'⟩
  ·exact hi.elim
 |seq x y ihx ihy=>
  intro K m e h n hi D φ a w hn hd hR hS;simp only [compC,iwS] at hi;refine wpSIn_seq ?_;intro b k hb hro hF hroom;obtain ⟨ex,a',cs',w',hl,hp,harr⟩:=ihx _ m e h n hi D φ a w hn hd hR hS b k hb hro hF hroom;refine ⟨ex,a',cs',w',hl,?_,harr⟩;obtain ⟨m',D',φ',e',h',n',hk,hn',rfl,hd',hR',hS'⟩:=hp;cases ex with
  |normal=>exact ihy K m' e' h' n' hk D' φ' a' w' hn' hd' hR' hS'
  |exit id=>exact ⟨m',D',φ',e',h',n',hk,hn',rfl,hd',hR',hS'⟩
  |goto l=>exact ⟨m',D',φ',e',h',n',hk,hn',rfl,hd',hR',hS'⟩
  |ret=>exact ⟨m',D',φ',e',h',n',hk,hn',rfl,hd',hR',hS'⟩
  |panic ch=>exact ⟨m',D',φ',e',h',n',hk,hn',rfl,hd',hR',hS'⟩
  |outgrown=>exact ⟨m',D',φ',e',h',n',hk,hn',rfl,hd',hR',hS'⟩
 |cond c x y ihx ihy=>
  intro K m e h n hi D φ a w hn hd hR hS;simp only [compC] at hi;split at hi
  ·exact hi.elim
  ·rename_i x' hng hc;simp only [iwS] at hi;obtain ⟨v,hv,hi⟩:=gd_elim hi;split at hi
   ·rename_i b;have hvr:VRel D φ (.b b) (a.eval c):=opd_rel (fun t v _ hv=>hR.env t v hv) hc (fun g hg=>by subst hg;simp only [cO,Option.some.injEq] at hc;exact hng g hc.symm) hv
    generalize hu:a.eval c=u at hvr;cases hvr;refine wpSIn_cond hu ?_;cases b
    ·exact ihy K m e h n (hi.2 rfl) D φ a w hn hd hR hS
    ·exact ihx K m e h n (hi.1 rfl) D φ a w hn hd hR hS
   ·exact hi.elim
  ·exact hi.elim
 |ret=>
  intro K m e h n hi D φ a w hn hd hR hS;exact wpSIn_of_wpIn rfl (wpIn_ret ⟨m,D,φ,e,h,n,hi,hn,rfl,hd,hR,hS⟩)
 |label l=>
  intro K m e h n hi D φ a w hn hd hR hS;exact wpSIn_of_wpIn rfl (wpIn_label ⟨m,D,φ,e,h,n,hi,hn,rfl,hd,hR,hS⟩)
 |rangeFunc g ps x y ihx ihy=>
  intro K m e h n hi;simp only [compC] at hi;split at hi<;>exact hi.elim
 |_=>intro K m e h n hi;exact hi.elim
/-! ### the function -/
def capsG (h:Hp):List Nat->Option (List AV)
 |[]=>some []
 |G::r=>(hglobC h G).bind fun v=>(capsG h r).bind fun vs=>some (v::vs)
def endS (m:FrameMode) (ex:Exit) (k:Prop):Prop:=
 match m,ex with
 | .returning,.normal=>k
 | .returning,.ret=>k
 | .panicking [{v:=_,recovered:=true,goexit:=false}],.normal=>k
 | .panicking [{v:=_,recovered:=true,goexit:=false}],.ret=>k
 |_,_=>False
def dfrE (rs:List IRes) (Ic:ICode) (Gs:List Nat) (Q:Option Value->AV->Hp->Nat->Prop) (m:FrameMode) (e:Env) (h:Hp) (n:Nat):Prop:=
 gd (capsG h Gs) fun caps=>iwS Ic m (fun m' ex' e' h' n'=>endS m' ex' (gd (retV rs e h') fun r=>r.1=true/\Q none r.2 h' n')) (argEnv 0 caps) h n
def retDK (rs:List IRes) (Ic:ICode) (Gs:List Nat) (Q:Option Value->AV->Hp->Nat->Prop):Kont:=fun ex e h n=>
 match ex with
 | .normal=>dfrE rs Ic Gs Q .returning e h n
 | .ret=>dfrE rs Ic Gs Q .returning e h n
 | .panic ch=>dfrE rs Ic Gs Q (.panicking ch) e h n
 |_=>False
def ptrs (h:Hp):List AV->Option (List Nat)
 |[]=>some []
 | .p b 0::r=>(hget h b).bind fun k=>match k.ro,k.gr,k.gid with
  |false,none,none=>(ptrs h r).bind fun bs=>some (b::bs)
  |_,_,_=>none
 |_=>none
def setG (h:Hp):List Nat->List Nat->Hp
 |b::bs,G::Gs=>match hget h b with
  |some k=>hset (setG h bs Gs) b {k with gid:=some G}
  |none=>setG h bs Gs
 |_,_=>h
def fnK (v:AV) (k:FuncId->List AV->Prop):Prop:=match v with
 | .fn g caps=>k g caps
 |_=>False
theorem fnK_elim {v:AV} {k:FuncId->List AV->Prop} (h:fnK v k): ∃g caps,v= .fn g caps/\k g caps:=by
 cases v with
 |fn g caps=>exact ⟨g,caps,rfl,h⟩
 |_=>exact h.elim
def dfrK (x:Opd) (g:FuncId) (k:List Nat->Env->Hp->Nat->Prop):Kont:=fun ex e h n=>
 match ex with
 | .normal=>gd (x.ev e h) fun v=>fnK v fun g' caps=>g'=g/\gd (ptrs h caps) fun bs=>bs.Nodup/\ ∀Gs:List Nat,Gs.length=bs.length->Gs.Nodup->k Gs e (setG h bs Gs) n
 |_=>False
theorem ptrs_spec {h:Hp}: ∀{caps:List AV} {bs:List Nat},ptrs h caps=some bs->caps=bs.map (fun b=> .p b 0)/\ ∀b∈bs,∃k,hget h b=some k/\k.ro=false/\k.gr=none/\k.gid=none
 |[],bs,hp=>by simp [ptrs] at hp;subst hp;exact ⟨rfl,fun b hb=>by cases hb⟩
 |v::r,bs,hp=>by
  unfold ptrs at hp;split at hp
  ·rename_i he;cases he
  ·rename_i b r' he;cases he;simp only [Option.bind_eq_some_iff] at hp;obtain ⟨k,hk,hp⟩:=hp;split at hp
   ·rename_i h1 h2 h3;simp only [Option.bind_eq_some_iff,Option.some.injEq] at hp;obtain ⟨bs',hb,rfl⟩:=hp;obtain ⟨g1,g2⟩:=ptrs_spec hb;refine ⟨by rw [g1];rfl,fun c hc=> ?_⟩
    rcases List.mem_cons.1 hc with rfl|hc
    ·exact ⟨k,hk,h1,h2,h3⟩
    ·exact g2 c hc
   ·cases hp
  ·cases hp
theorem setG_get {h:Hp}: ∀{bs Gs:List Nat},bs.Nodup->Gs.length=bs.length->(∀b∈bs,∃k,hget h b=some k)-> ∀c,hget (setG h bs Gs) c=(match (bs.zip Gs).find? (fun q=>q.1==c) with|some q=>(hget h c).map fun k=>{k with gid:=some q.2}|none=>hget h c)
 |[],Gs,_,_,_,c=>by cases Gs<;>rfl
 |b::bs,[],_,hl,_,c=>by simp at hl
 |b::bs,G::Gs,hn,hl,hh,c=>by
  obtain ⟨k,hk⟩:=hh b List.mem_cons_self;have ih:=setG_get (h:=h) (List.nodup_cons.1 hn).2 (Gs:=Gs) (by simpa using hl) (fun b' hb'=>hh b' (List.mem_cons_of_mem _ hb')) c
  simp only [setG,hk,hget_hset,List.zip_cons_cons,List.find?_cons];by_cases hcb:c=b
  ·subst hcb;simp [hk]
  ·have:(b==c)=false:=by simp;exact fun e=>hcb e.symm
   rw [this,if_neg hcb,ih]
theorem capsG_rel {D:Nat->Prop} {φ:Phi} {h:Hp} {w:World} (hH:HR D φ (hget h) w): ∀{Gs:List Nat} {caps:List AV},capsG h Gs=some caps->All2 D φ caps (Gs.map fun G=> .pointer (some ⟨G,0,none⟩))
 |[],caps,hc=>by simp [capsG] at hc;subst hc;exact .nil
 |G::Gs,caps,hc=>by
  simp only [capsG,Option.bind_eq_some_iff,Option.some.injEq] at hc;obtain ⟨v,hv,vs,hvs,rfl⟩:=hc;refine .cons ?_ (capsG_rel hH hvs);obtain ⟨c,k,rfl,hk,hg⟩:=hglobC_spec hv;obtain ⟨hd,hb⟩:=hH.at_ c k hk;obtain ⟨h1,h2⟩:=hb.gid G hg;have:=VRel.p (D:=D) (φ:=φ) c 0 hd;rw [h1,h2] at this;exact this
theorem endS_inv {m:FrameMode} {ex:Exit} {k:Prop} (h:endS m ex k):k/\settle m= .returning/\(ex= .normal\/ex= .ret):=by
 unfold endS at h;split at h
 ·exact ⟨h,rfl,.inl rfl⟩
 ·exact ⟨h,rfl,.inr rfl⟩
 ·exact ⟨h,rfl,.inl rfl⟩
 ·exact ⟨h,rfl,.inr rfl⟩
 ·exact h.elim
theorem runOps_pre {cx:Cx} (hcx:Sound P cx) {M:Nat×List Deferred} {K:Kont} {D0:Nat->Prop} {φ0:Phi} {H0:Hf} {w0:World} {ops:Array Oper} {sp:List Nat} {Q:Exit->Act->World->Prop} {l2:List Oper} (hn0: ∀b,D0 b->b<n0) (hgu:guardOK ops.toList=true):
 ∀(l:List Oper),(∀o∈l,o∈ops.toList)->dstOK N l=true-> ∀(e:Env) (h:Hp) (n:Nat) (D:Nat->Prop) (φ:Phi) (a:Act) (w:World),n0<=n→
  runOps cx (l.map (compOper P ops.toList sp)) e h n K->Rel D φ e h n N M a w->Stp D0 φ0 H0 w0 D φ (hget h) w→
  (∀D φ e h n a' w',K .normal e h n->n0<=n->a'.defers=a.defers->Rel D φ e h n N M a' w'->Stp D0 φ0 H0 w0 D φ (hget h) w'->wpListIn (Fw none) 0 P ops Q l2 a' w')→
  (∀ch e h n,¬K (.panic ch) e h n)→
  wpListIn (Fw none) 0 P ops Q (l++l2) a w
 |[],_,_,e,h,n,D,φ,a,w,hn,hrun,hR,hS,hK,_=>hK D φ e h n a w hrun hn rfl hR hS
 |o::l,hmem,hdst,e,h,n,D,φ,a,w,hn,hrun,hR,hS,hK,hP=>by
  simp only [List.map_cons,runOps] at hrun;obtain ⟨b,hb,hrun⟩:=gd_elim hrun;simp only [dstOK,List.all_cons,Bool.and_eq_true] at hdst;have hog: ∀j c,o.guard=some (j,c)->((ops.toList[j]?).bind (·.dst)).isSome=true:=fun j c hg=>by
   have:=List.all_eq_true.1 hgu o (hmem o (List.mem_cons_self));simpa [hg] using this
  have hgeq:(compOper P ops.toList sp o).guard=(compOper P ops.toList [] o).guard:=by
   unfold compOper;split
   ·rfl
   ·split<;>rfl
  have hdeq:(compOper P ops.toList sp o).dst=o.dst:=by
   unfold compOper;split
   ·rfl
   ·split<;>rfl
  have hopeq:(compOper P ops.toList sp o).op=compOp P o.op:=by
   unfold compOper;split
   ·rfl
   ·rename_i j c hg;obtain ⟨d,hd⟩:=Option.isSome_iff_exists.1 (hog j c hg);rw [hd]
  have hdN: ∀t,o.dst=some t->t<N:=fun t ht=>by
   have:=hdst.1;rw [ht] at this;exact of_decide_eq_true this
  have hw:=wanted_rel (P:=P) (o:=o) (D:=D) (φ:=φ) (a:=a) (fun d c v _ hv=>hR.env d v hv) hgeq hog hb;have ih:=fun e h n D φ a w=>runOps_pre hcx (M:=M) (K:=K) (sp:=sp) (D0:=D0) (φ0:=φ0) (H0:=H0) (w0:=w0) (Q:=Q) (l2:=l2) hn0 hgu l (fun o ho=>hmem o (List.mem_cons_of_mem _ ho)) hdst.2 e h n D φ a w;show wpListIn _ _ _ _ _ (o::(l++l2)) _ _;unfold wpListIn;rw [hw];cases b
  ·simp only [Bool.false_eq_true,if_false];simp only at hrun;rw [hdeq] at hrun;exact ⟨fun _ _=>trivial,ih _ h n D φ _ w hn hrun (hR.put hR.defers hdN (fun _ h=>h) (Agree.refl _ _) hR.lt und_rel hR.heap) hS (fun D φ e h n a' w' h1 h2 h3=>hK D φ e h n a' w' h1 h2 (by rw [h3,put_defers])) hP⟩
  ·simp only [if_true];simp only at hrun;obtain ⟨r,hr,hrun⟩:=gd_elim hrun;obtain ⟨c,E⟩:=r;obtain ⟨hc,hrun⟩:=hrun;simp only at hc hrun;subst hc;rw [hopeq] at hr;rw [hdeq] at hrun;have hfresh: ∀b,n<=b->b<E.n-> ¬D b:=fun b hb _ hD=>by have:=hR.lt b hD;omega
   have hH0:HR D φ (only (hget h) E.rd) w:=hR.heap.sub (fun b k hb=>by
    unfold only at hb;cases hi:inl E.rd b<;>simp [hi] at hb;exact hb)
   refine op_wp hcx hr hfresh (fun y hy x hx v hv=>opd_relG (fun t v _ hv=>hR.env t v hv) hx hR.heap hv) hH0 (fun φ' u w' hle hv hst hro hmd hnw=> ?_);have hfull:=lift_frame hR.heap (fun b k hb=>by unfold only at hb;cases hi:inl E.rd b<;>simp [hi] at hb;exact hb) hmd hst hro (fun _ _ _ _ _=> .inr trivial)
   rw [<-appL_app] at hfull;have hlt: ∀b,Dn D n E.n b->b<E.n:=fun b hb=>hb.elim (fun h=>by have:=hR.lt b h;omega) (fun h=>h.2)
   unfold pnK at hrun;cases hp:E.pn with
   |none=>
    rw [hp] at hrun;exact ih _ _ _ _ φ' _ w' (by omega) (fin1_elim hrun) (hR.put (hR.defers.stays hR.heap hfull.frm) hdN hfull.sub hfull.agree hlt hv hfull.hr) (hS.trans hfull) (fun D φ e h n a' w' h1 h2 h3=>hK D φ e h n a' w' h1 h2 (by rw [h3,put_defers])) hP
   |some p=>
    rw [hp] at hrun;exact (hP _ _ _ _ hrun).elim
theorem argRel {N n:Nat} {D:Nat->Prop} {φ:Phi} {h:Hp} {w:World} {args:List AV} {us:Array Value} {m:Nat×List Deferred} (hD: ∀b,D b->b<n) (hH:HR D φ (hget h) w) (hargs:All2 D φ args us.toList) (hle:args.length<=N) (hm:m.2=[]):
 Rel D φ (argEnv 0 args) h n N m {tmps:=us++Array.replicate (N-us.size) undef,defers:=[]} w:=by
 obtain ⟨m1,m2⟩:=m;simp only at hm;subst hm;refine ⟨hD,fun t v hv=> ?_,hH,by have:=hargs.1;simp at this ⊢;omega,Mk.nil⟩
 obtain ⟨_,hv'⟩:=argEnv_get hv;obtain ⟨u,hu,hr⟩:=hargs.get hv';have hlt:t<us.size:=by
  rcases Nat.lt_or_ge t us.size with h'|h'
  ·exact h'
  ·rw [Nat.sub_zero,List.getElem?_eq_none (by simpa using h')] at hu;cases hu
 have:(us++Array.replicate (N-us.size) undef).getD t undef=u:=by
  rw [Array.getD_eq_getD_getElem?,Array.getElem?_append_left hlt];simp at hu ⊢;simp [hu]
 rw [this];exact hr
theorem leave_dfr {fn gn:Func} {g:FuncId} {Ig:IFn} {rs:List IRes} {R:Ending->World->Prop} {Q:Option Value->AV->Hp->Nat->Prop} {Gs:List Nat} {m0:FrameMode} {N0 n':Nat} {e':Env} {h':Hp} {D D':Nat->Prop} {φ φ':Phi} {H:Hf} {a':Act} {w w':World}
 (hm:P.follows .mixedOrders=true) (hcal:callable P g=true) (hg:P.funcs[g]? =some gn) (hIg:compF P gn=some Ig) (hgr:Ig.res=[]) (hgN:Gs.length<=Ig.N) (hrs:compRes P fn.results.toList=some rs) (hm0:m0≠ .run)
 (hk:dfrE rs Ig.code Gs Q m0 e' h' n')
 (hR:Rel D' φ' e' h' n' N0 (w.heap.size,[{target:= .fn (.func g) (Gs.map fun G=>Value.pointer (some ⟨G,0,none⟩)).toArray,args:= #[]}]) a' w') (hS:Stp D φ H w D' φ' (hget h') w')
 (fin: ∀D3 φ3 v3 h3 n3 u w3,Q none v3 h3 n3->(∀b,D3 b->b<n3)->VRel D3 φ3 v3 u->HR D3 φ3 (hget h3) w3->Stp D φ H w D3 φ3 (hget h3) w3->R (.returned u) w3):
 LeavesInM (Fw none) 0 P fn a'.tmps R a'.defers m0 w':=by
 refine leaves_rel hm0 hR hS (fun w1 hR1 hS1=> ?_);simp only [compF,Option.bind_eq_some_iff] at hIg;obtain ⟨cg,hcg,rg,hrg,hIg⟩:=hIg;split at hIg
 ·rename_i hle;rw [Bool.and_eq_true] at hle;have hgy:g≠YB:=ne_YB hg hle.2;simp only [Option.some.injEq] at hIg;subst hIg;simp only at hgr hgN hk;subst hgr;obtain ⟨caps,hcaps,hk⟩:=gd_elim hk;have hA:=capsG_rel hR1.heap hcaps;have hlen:caps.length=Gs.length:=by have:=hA.1;simpa using this
  refine ⟨hm0,.inr ⟨fun hd=>(by cases hd),.func g,(Gs.map fun G=>Value.pointer (some ⟨G,0,none⟩)).toArray,g,(Gs.map fun G=>Value.pointer (some ⟨G,0,none⟩)).toArray,rfl,?_,fun _ _=>trivial,?_⟩⟩
  ·simp only [invoke,Array.empty_append];rw [callFunc_run hgy hcal (ext_false hg hcg)]
  ·refine callsDIn_of_wpSIn hg hcg trivial (fun c0 cs hmode=> ?_);intro b k hb hro hF hroom;have hc0:({c0 with mode:=m0}:Frame)=c0:=by subst hmode;rfl
   have hRg:=argRel (N:=gn.ntmps) (m:=(w1.heap.size,[])) hR1.lt hR1.heap (us:=(Gs.map fun G=>Value.pointer (some ⟨G,0,none⟩)).toArray) (args:=caps) (by simpa using hA) (by omega) rfl
   obtain ⟨ex,a3,cs3,w3,hl,hp,harr⟩:=iwS_sound (P:=P) (N:=gn.ntmps) (n0:=n') (c0:=c0) (cs:=cs) (ct:=condTmps cg) (D0:=D') (φ0:=φ') (H0:=hget h') (w0:=w1) hm hR1.lt cg _ m0 _ h' n' hk D' φ' _ w1 (Nat.le_refl _) rfl hRg (Stp.refl hR1.heap) b k hb hro hF (by simpa using hroom)
   rw [hc0] at harr;refine ⟨ex,a3,cs3,w3,by simpa using hl,?_,harr⟩
   obtain ⟨m3,D3,φ3,e3,h3,n3,hk3,hn3,rfl,hd3,hR3,hS3⟩:=hp;obtain ⟨hk3,hset,hex⟩:=endS_inv hk3;obtain ⟨r,hr,hrc,hQ⟩:=gd_elim hk3;have hRc:Rel D3 φ3 e' h3 n3 N0 (w.heap.size,[]) {a' with defers:=[]} w3:=⟨hR3.lt,fun t v hv=>(hR1.env t v hv).mono hS3.sub hS3.agree,hR3.heap,hR1.size,Mk.nil⟩
   obtain ⟨u,hres,hvr⟩:=res_run (fn:=fn) (a':={a' with defers:=[]}) hRc hrs hr hrc
   obtain ⟨ug,hgres,_⟩:=res_run (fn:=gn) (rs:=[]) (q:=(true,.tup [])) hR3 hrg rfl rfl;have hfin: ∃v,(results fn a'.tmps).run P w3= .ok v w3/\R (.returned v) w3:=⟨u,hres,fin D3 φ3 r.2 h3 n3 u w3 hQ hR3.lt hvr hR3.heap (hS1.trans hS3)⟩;have hpost:a3.defers=[]/\ ∃u',({c0 with mode:=m3}::cs)={c0 with mode:=u'}::cs/\ ∃v,(results gn a3.tmps).run P w3= .ok v w3/\LeavesInM (Fw none) 0 P fn a'.tmps R [] (settle u') w3:=
    ⟨hd3,m3,rfl,ug,hgres,by rw [hset];exact hfin⟩
   rcases hex with rfl|rfl
   ·exact hpost
   ·exact hpost
 ·cases hIg
theorem setG_rel {h:Hp} {D:Nat->Prop} {φ:Phi} {w:World} {bs:List Nat} (hn:bs.Nodup) (hh: ∀b∈bs,∃k,hget h b=some k/\k.ro=false/\k.gr=none/\k.gid=none) (hH:HR D φ (hget h) w):
 HR D φ (hget (setG h bs (bs.map φ.blk))) w/\(∀b k,hget (setG h bs (bs.map φ.blk)) b=some k-> ∃k0,hget h b=some k0/\k0.ro=k.ro):=by
 have hget':=setG_get (h:=h) (Gs:=bs.map φ.blk) hn (by simp) (fun b hb=>let ⟨k,hk,_⟩:=hh b hb;⟨k,hk⟩)
 have key: ∀b k,hget (setG h bs (bs.map φ.blk)) b=some k-> ∃k0,hget h b=some k0/\(k=k0\/(b∈bs/\k={k0 with gid:=some (φ.blk b)})):=fun b k hb=>by
  rw [hget'] at hb;split at hb
  ·rename_i q hq;obtain ⟨k0,hk0,rfl⟩:=Option.map_eq_some_iff.1 hb;refine ⟨k0,hk0,.inr ?_⟩;have h1:=List.mem_of_find?_eq_some hq;have h2:=List.find?_some hq;simp only [beq_iff_eq] at h2;have hz: ∀l:List Nat,l.zip (l.map φ.blk)=l.map (fun b=>(b,φ.blk b)):=fun l=>by
    induction l with
    |nil=>rfl
    |cons x l ih=>simp [ih]
   have h3:q∈bs.map (fun b=>(b,φ.blk b)):=by rw [hz] at h1;exact h1
   obtain ⟨b',hb',rfl⟩:=List.mem_map.1 h3;simp only at h2;subst h2;exact ⟨hb',rfl⟩
  ·exact ⟨k,hb,.inl rfl⟩
 refine ⟨⟨⟨fun b k hb=> ?_,fun b1 b2 k1 k2 hne h1 h2 hro=> ?_⟩,hH.fz,hH.lp,fun b k B vs hb hk hB=> ?_⟩,fun b k hb=> ?_⟩
 ·obtain ⟨k0,hk0,hkk⟩:=key b k hb;obtain ⟨hd,hb0⟩:=hH.at_ b k0 hk0;rcases hkk with rfl|⟨hbs,rfl⟩
  ·exact ⟨hd,hb0⟩
  ·obtain ⟨k1,hk1,g1,g2,g3⟩:=hh b hbs;rw [hk0] at hk1;cases hk1;refine ⟨hd,⟨hb0.ex,fun g hg=> ?_⟩⟩;simp only [Option.some.injEq] at hg;obtain ⟨cs,elem,fr,q1,q2,q3,q4⟩:=hb0.ex;exact ⟨hg,(q3 g1).1 g2⟩
 ·obtain ⟨k10,hk1,hkk1⟩:=key b1 k1 h1;obtain ⟨k20,hk2,hkk2⟩:=key b2 k2 h2;exact hH.sep b1 b2 k10 k20 hne hk1 hk2 (by rcases hkk1 with rfl|⟨_,rfl⟩<;>exact hro)
 ·obtain ⟨k0,hk0,hkk⟩:=key b k hb;exact hH.fsep b k0 B vs hk0 (by rcases hkk with rfl|⟨_,rfl⟩<;>exact hk) hB
 ·obtain ⟨k0,hk0,hkk⟩:=key b k hb;exact ⟨k0,hk0,by rcases hkk with rfl|⟨_,rfl⟩<;>rfl⟩
theorem caps_val {h:Hp} {D:Nat->Prop} {φ:Phi} {w:World} (hH:HR D φ (hget h) w): ∀{bs:List Nat} {us:List Value},(∀b∈bs,∃k,hget h b=some k/\k.ro=false/\k.gr=none/\k.gid=none)->All2 D φ (bs.map fun b=> .p b 0) us->us=(bs.map φ.blk).map fun G=>Value.pointer (some ⟨G,0,none⟩)
 |[],us,_,hA=>by simpa using hA.unnil
 |b::bs,us,hbk,hA=>by
  obtain ⟨u,m',rfl,g1,g2⟩:=hA.uncons;have:=caps_val hH (fun b' hb'=>hbk b' (List.mem_cons_of_mem _ hb')) g2;subst this;obtain ⟨k,hk,k1,k2,_⟩:=hbk b List.mem_cons_self;obtain ⟨_,⟨⟨cs,elem,fr,q1,q2,q3,q4⟩,q5⟩⟩:=hH.at_ b k hk;have hoff:=(q3 k1).1 k2;cases g1;simp [hoff]
theorem gs_nodup {h:Hp} {D:Nat->Prop} {φ:Phi} {w:World} (hH:HR D φ (hget h) w): ∀{bs:List Nat},bs.Nodup->(∀b∈bs,∃k,hget h b=some k/\k.ro=false/\k.gr=none/\k.gid=none)->(bs.map φ.blk).Nodup
 |[],_,_=>List.nodup_nil
 |b::bs,hnd,hbk=>by
  have hh:=List.nodup_cons.1 hnd;refine List.nodup_cons.2 ⟨fun hin=> ?_,gs_nodup hH hh.2 (fun b' hb'=>hbk b' (List.mem_cons_of_mem _ hb'))⟩;obtain ⟨b',hb',he⟩:=List.mem_map.1 hin;obtain ⟨k,hk,k1,_⟩:=hbk b List.mem_cons_self;obtain ⟨k',hk',_⟩:=hbk b' (List.mem_cons_of_mem _ hb');exact hH.sep b b' k k' (fun e=>hh.1 (e▸hb')) hk hk' k1 he.symm
end
end Go.Ab
namespace Go.Ab
theorem dfrK_mono {x:Opd} {g:FuncId} {k k':List Nat->Env->Hp->Nat->Prop} (hk: ∀Gs e h n,k Gs e h n->k' Gs e h n) (ex:Exit) (e:Env) (h:Hp) (n:Nat) (hd:dfrK x g k ex e h n):dfrK x g k' ex e h n:=by
 cases ex with
 |normal=>
  refine gd_mono (fun v hv=> ?_) hd;obtain ⟨g',caps,rfl,h1,h2⟩:=fnK_elim hv;exact ⟨h1,gd_mono (fun bs hb=>⟨hb.1,fun Gs g1 g2=>hk _ _ _ _ (hb.2 Gs g1 g2)⟩) h2⟩
 |_=>exact hd.elim
theorem dfrK_intro {x:Opd} {g:FuncId} {k:List Nat->Env->Hp->Nat->Prop} {e:Env} {h:Hp} {n:Nat} {caps:List AV} {bs:List Nat} (h1:x.ev e h=some (.fn g caps)) (h2:ptrs h caps=some bs) (h3:bs.Nodup) (h4: ∀Gs:List Nat,Gs.length=bs.length->Gs.Nodup->k Gs e (setG h bs Gs) n):dfrK x g k .normal e h n:=by
 show gd _ _;rw [h1];refine ⟨rfl,?_⟩;rw [h2];exact ⟨h3,h4⟩
def noneK (p:Option Value) (k:Prop):Prop:=p=none/\k
theorem noneK_n {k:Prop}:noneK none k=k:=by simp [noneK]
def rsK (b:Bool) (x y:Prop):Prop:=match b with
 |true=>x
 |false=>y
section
variable {x y:Prop}
theorem rsK_mv {a0:_}:rsK (isRcv (.mv a0)) x y=y:=(rfl)
theorem rsK_new {a0:_}:rsK (isRcv (.new a0)) x y=y:=(rfl)
theorem rsK_st {a0:_} {a1:_} {a2:_}:rsK (isRcv (.st a0 a1 a2)) x y=y:=(rfl)
theorem rsK_ext {a0:_} {a1:_}:rsK (isRcv (.ext a0 a1)) x y=y:=(rfl)
theorem rsK_tas {a0:_} {a1:_} {a2:_}:rsK (isRcv (.tas a0 a1 a2)) x y=y:=(rfl)
theorem rsK_rcv  :rsK (isRcv (.rcv)) x y=x:=(rfl)
end
attribute [go_sem ↓] rsK_mv rsK_new rsK_st rsK_ext rsK_tas rsK_rcv
section
variable {m:FrameMode} {d:Nat} {o:IOp} {s:Bool} {os:List IOper} {e:Env} {h:Hp} {n:Nat} {K:SKont}
theorem runS_nil:runS [] m e h n K=K m .normal e h n:=(rfl)
theorem runS_s:runS (⟨some d,o,none,s⟩::os) m e h n K=rsK (isRcv o) (rcvK m fun m v=>runS os m ((d,v)::e) h n K) (gd4 (stepD cx0 o e h n) fun c p v h n=>andB c (noneK p (fin1 s v fun v=>runS os m ((d,v)::e) h n K))):=by
 simp only [runS,rsK,noneK,eput];try (cases isRcv o<;>rfl)
theorem runS_n:runS (⟨none,o,none,s⟩::os) m e h n K=rsK (isRcv o) (rcvK m fun m v=>runS os m e h n K) (gd4 (stepD cx0 o e h n) fun c p v h n=>andB c (noneK p (fin1 s v fun v=>runS os m e h n K))):=by
 simp only [runS,rsK,noneK,eput];try (cases isRcv o<;>rfl)
def thenS (K:SKont) (k:FrameMode->Env->Hp->Nat->Prop):SKont:=fun m ex e h n=>match ex with
 | .normal=>k m e h n
 |ex=>K m ex e h n
theorem thenS_n {k:FrameMode->Env->Hp->Nat->Prop}:thenS K k m .normal e h n=k m e h n:=(rfl)
theorem iwS_skip:iwS .skip m K e h n=K m .normal e h n:=(rfl)
theorem iwS_reg {ops:List IOper}:iwS (.reg ops) m K e h n=runS ops m e h n K:=(rfl)
theorem iwS_dreg {ops:List (IOper×List Nat)}:iwS (.dreg ops) m K e h n=rD cx0 ops 0 [] e h n (fun ex e h n=>K m ex e h n):=(rfl)
theorem iwS_seq {a b:ICode}:iwS (.seq a b) m K e h n=iwS a m (thenS K fun m e h n=>iwS b m K e h n) e h n:=(rfl)
theorem iwS_cond {c:Opd} {a b:ICode}:iwS (.cond c a b) m K e h n=gd (c.ev e h) fun v=>condB v (iwS a m K e h n) (iwS b m K e h n):=by
 simp only [iwS];cases c.ev e h with
 |none=>rfl
 |some v=>cases v with
  |b x=>cases x<;>simp [gd,condB,spB]
  |_=>rfl
theorem endS_rn {k:Prop}:endS .returning .normal k=k:=(rfl)
theorem endS_pn {u:Value} {k:Prop}:endS (.panicking [{v:=u,recovered:=true}]) .normal k=k:=(rfl)
end
section
variable {rs:List IRes} {Ic:ICode} {Gs:List Nat} {Q:Option Value->AV->Hp->Nat->Prop} {m:FrameMode} {e:Env} {h:Hp} {n:Nat}
theorem retDK_r:retDK rs Ic Gs Q .ret e h n=dfrE rs Ic Gs Q .returning e h n:=(rfl)
theorem retDK_p {ch:List PanicEntry}:retDK rs Ic Gs Q (.panic ch) e h n=dfrE rs Ic Gs Q (.panicking ch) e h n:=(rfl)
theorem dfrE_eq:dfrE rs Ic Gs Q m e h n=gd (capsG h Gs) fun caps=>iwS Ic m (fun m' ex' e' h' n'=>endS m' ex' (gd2 (retV rs e h') fun c v=>andB c (Q none v h' n'))) (argEnv 0 caps) h n:=by
 unfold dfrE;congr 1;funext caps;congr 1;funext m' ex' e' h' n';congr 1;exact gd2_eq (Q:=fun v=>Q none v h' n')
theorem capsG_nil:capsG h []=some []:=(rfl)
theorem capsG_cons {G:Nat} {r:List Nat}:capsG h (G::r)=(hglobC h G).bind fun v=>(capsG h r).bind fun vs=>some (v::vs):=(rfl)
end
attribute [go_sem ↓] noneK_n runS_nil runS_s runS_n rcvK_r rcvK_p thenS_n iwS_skip iwS_reg iwS_dreg iwS_seq iwS_cond endS_rn endS_pn retDK_r retDK_p dfrE_eq capsG_nil capsG_cons
attribute [go_sem] isRcv
end Go.Ab
namespace Go.Ab
open Go.RowKit
mutual
def AV.nyl:AV->Bool
 | .p _ _=>true
 | .sl _ _ _ _=>true
 | .sg _ _ _=>true
 | .fn _ l=>nylL l
 | .bm _ l=>nylL l
 | .agg l=>nylL l
 | .tup l=>nylL l
 | .b _=>true
 | .i _ _=>true
 | .s _=>true
 | .np=>true
 | .ns=>true
 | .nf=>true
 | .ni=>true
 | .fz l _=>nylL l
 | .fp l _=>nylL l
 | .ze=>true
 | .en=>true
 | .any=>true
 | .k _ _=>true
 | .yl _ _ _ _=>false
def nylL:List AV->Bool
 |[]=>true
 |v::r=>v.nyl&&nylL r
end
theorem nylL_spec: ∀{l:List AV},nylL l=true-> ∀v∈l,v.nyl=true
 |[],_,v,hv=>by cases hv
 |x::r,h,v,hv=>by
  simp only [nylL,Bool.and_eq_true] at h;rcases List.mem_cons.1 hv with rfl|hv
  ·exact h.1
  ·exact nylL_spec h.2 v hv
theorem nylL_append {a b:List AV}:nylL (a++b)=(nylL a&&nylL b):=by
 induction a with
 |nil=>rfl
 |cons x a ih=>simp only [List.cons_append,nylL,ih,Bool.and_assoc]
def Phi.lpT (φ:Phi) (X:Nat->Option Go.Loop):Phi:={φ with lp:=X}
theorem VRel.nyl {D:Nat->Prop} {φ:Phi} {X:Nat->Option Go.Loop} {v:AV} {u:Value} (h:VRel D φ v u):v.nyl=true->VRel D (φ.lpT X) v u:=by
 induction h with
 |b x=>intro _;exact .b x
 |i k n=>intro _;exact .i k n
 |s l=>intro _;exact .s l
 |np=>intro _;exact .np
 |p b o h=>intro _;exact .p (φ:=φ.lpT X) b o h
 |ns=>intro _;exact .ns
 |sl b o len cap h=>intro _;exact .sl (φ:=φ.lpT X) b o len cap h
 |sg b o len j cap h hj hc hl=>intro _;exact .sg (φ:=φ.lpT X) b o len j cap h hj hc hl
 |fn f l cs hf hl h ih=>intro hp;exact .fn f l cs hf hl (fun i a u ha hu=>ih i a u ha hu (nylL_spec hp a (List.mem_of_getElem? ha)))
 |bm f l cs hf hl h ih=>intro hp;exact .bm f l cs hf hl (fun i a u ha hu=>ih i a u ha hu (nylL_spec hp a (List.mem_of_getElem? ha)))
 |nf=>intro _;exact .nf
 |ni=>intro _;exact .ni
 |agg l cs hl h ih=>intro hp;exact .agg l cs hl (fun i a u ha hu=>ih i a u ha hu (nylL_spec hp a (List.mem_of_getElem? ha)))
 |tup l cs hl h ih=>intro hp;exact .tup l cs hl (fun i a u ha hu=>ih i a u ha hu (nylL_spec hp a (List.mem_of_getElem? ha)))
 |fz l n B o cap vs hB hc hs h ih=>intro hp;exact .fz (φ:=φ.lpT X) l n B o cap vs hB hc hs (fun i a u ha hu=>ih i a u ha hu (nylL_spec hp a (List.mem_of_getElem? ha)))
 |fz0 l x cap hc=>intro _;exact .fz0 l x cap hc
 |fp l k B o vs hB hs h ih=>intro hp;exact .fp (φ:=φ.lpT X) l k B o vs hB hs (fun i a u ha hu=>ih i a u ha hu (nylL_spec hp a (List.mem_of_getElem? ha)))
 |ze x=>intro _;exact .ze x
 |en x cap=>intro _;exact .en x cap
 |any u=>intro _;exact .any u
 |k t u=>intro _;exact .k t u
 |yl L r ts l hL h ih=>intro hp;cases hp
theorem VRel.lpUp {D:Nat->Prop} {φ:Phi} {X:Nat->Option Go.Loop} {v:AV} {u:Value} (hX: ∀L r,φ.lp L=some r->X L=some r) (h:VRel D φ v u):VRel D (φ.lpT X) v u:=
 VRel.mono' (φ:=φ) (φ':=φ.lpT X) (fun _ h=>h) (fun _ _=>⟨rfl,rfl,rfl,rfl⟩) (fun _ _ h=>h) hX h
theorem HR.lpT {D:Nat->Prop} {φ:Phi} {X:Nat->Option Go.Loop} {H:Hf} {w:World} (h:HR D φ H w) (hv: ∀b k v u,H b=some k->v∈k.cells->VRel D φ v u->VRel D (φ.lpT X) v u) (hl: ∀L r,X L=some r->w.heap[L]? =some (.loop r)):HR D (φ.lpT X) H w:=
 ⟨⟨fun b k hb=>⟨(h.at_ b k hb).1,by
   obtain ⟨⟨cs,elem,fr,h1,h2,h3,h4⟩,h5⟩:=(h.at_ b k hb).2;refine ⟨⟨cs,elem,fr,h1,fun i v hv'=> ?_,h3,h4⟩,h5⟩;obtain ⟨u,hu,hr⟩:=h2 i v hv';exact ⟨u,hu,hv b k v u hb (List.mem_of_getElem? hv') hr⟩⟩,h.sep⟩,h.fz,hl,h.fsep⟩
theorem Stp.lpT {D D':Nat->Prop} {φ φ':Phi} {X:Nat->Option Go.Loop} {H H':Hf} {w w':World} (h:Stp D φ H w D' φ' H' w') (hr:HR D' (φ'.lpT X) H' w'):Stp D (φ.lpT X) H w D' (φ'.lpT X) H' w':=
 ⟨h.sub,⟨h.agree.at_,h.agree.fz,rfl⟩,hr,⟨h.frm.os,h.frm.tape,h.frm.output,h.frm.size,h.frm.block⟩,h.img,h.fnew⟩
theorem Stp.turn {D D':Nat->Prop} {φ φ':Phi} {H H':Hf} {w w1 w' w1':World} (h:Stp D φ H w D' φ' H' w1) (hr:HR D' φ' H' w1') (hos:w1'.os=w'.os) (ht:w1'.tape=w'.tape) (ho:w1'.output=w'.output) (hsz:w'.heap.size=w.heap.size) (hsz1:w1'.heap.size=w1.heap.size) (L:Nat)
 (hb: ∀c,c≠L->w'.heap[c]? =w.heap[c]?) (hb1: ∀c,c≠L->w1'.heap[c]? =w1.heap[c]?) (hL:w1'.heap[L]? =w'.heap[L]?):Stp D φ H w' D' φ' H' w1':=
 ⟨h.sub,h.agree,hr,⟨hos,ht,ho,by rw [hsz,hsz1];exact h.frm.size,fun c hc hn=>by
   by_cases hcL:c=L
   ·rw [hcL];exact hL
   ·rw [hb1 c hcL,hb c hcL];exact h.frm.block c (by rw [<-hsz];exact hc) hn⟩,fun b k hb' hk=>by rw [hsz];exact h.img b k hb' hk,fun B vs hB=>by rw [hsz];exact h.fnew B vs hB⟩
def nrI:ICode->Bool
 | .seq a b=>nrI a&&nrI b
 | .cond _ a b=>nrI a&&nrI b
 | .block _ c=>nrI c
 | .loop c=>nrI c
 | .scope c=>nrI c
 | .rfunc _ _ _ _=>false
 | .bad=>false
 |_=>true
theorem nrI_spec {P:Program} {ct:List Nat} {N:Nat}: ∀{c:Code},nrI (compC P ct N c)=true->noRF c=true:=by
 intro c;induction c with
 |seq a b iha ihb=>intro h;simp only [compC,nrI,Bool.and_eq_true] at h;simp only [noRF,Bool.and_eq_true];exact ⟨iha h.1,ihb h.2⟩
 |cond x a b iha ihb=>
  intro h;simp only [compC] at h;split at h
  ·simp [nrI] at h
  ·simp only [nrI,Bool.and_eq_true] at h;simp only [noRF,Bool.and_eq_true];exact ⟨iha h.1,ihb h.2⟩
  ·simp [nrI] at h
 |block id c ih=>intro h;exact ih h
 |loop c ih=>intro h;exact ih h
 |scope c ih=>intro h;exact ih h
 |rangeFunc g ps a b iha ihb=>
  intro h;simp only [compC] at h;split at h<;>simp [nrI] at h
 |_=>intro h;rfl
def asg:List Nat->List AV->Env->Env
 |t::ts,a::as,e=>asg ts as ((t,a)::e)
 |_,_,e=>e
def zipE:List Nat->List AV->Env
 |t::ts,a::as=>(t,a)::zipE ts as
 |_,_=>[]
theorem zipE_get {t:Nat} {v:AV}: ∀{ts:List Nat} {l:List AV},eget (zipE ts l) t=some v-> ∃i:Nat,ts[i]? =some t/\l[i]? =some v
 |[],_,h=>by simp [zipE,eget] at h
 |_::_,[],h=>by simp [zipE,eget] at h
 |s::ts,a::l,h=>by
  simp only [zipE,eget] at h;by_cases hs:t=s
  ·subst hs;simp at h;subst h;exact ⟨0,rfl,rfl⟩
  ·rw [beq_ne hs] at h;obtain ⟨i,h1,h2⟩:=zipE_get h;exact ⟨i+1,by simpa using h1,by simpa using h2⟩
theorem asg_rel {D:Nat->Prop} {φ:Phi}: ∀{ts:List Nat} {as:List AV} {vs:List Value} {e:Env} {T:Array Value},All2 D φ as vs->ts.length=as.length->(∀t∈ts,t<T.size)->(∀t v,eget e t=some v->VRel D φ v (T.getD t undef))→
 ∀t v,eget (asg ts as e) t=some v->VRel D φ v (((ts.zip vs).foldl (fun (T:Array Value) (x:Nat×Value)=>T.setIfInBounds x.1 x.2) T).getD t undef)
 |[],as,vs,e,T,_,_,_,he,t,v,h=>he t v (by simpa [asg] using h)
 |s::ts,[],vs,e,T,_,hl,_,he,t,v,h=>by simp at hl
 |s::ts,a::as,vs,e,T,ha,hl,hT,he,t,v,h=>by
  obtain ⟨u,vs',rfl,hu,ha'⟩:=ha.uncons;simp only [List.zip_cons_cons,List.foldl_cons];refine asg_rel ha' (by simpa using hl) (fun t' ht'=>by simp;exact hT t' (List.mem_cons_of_mem _ ht')) (fun t' v' h'=> ?_) t v h
  simp only [eget] at h';by_cases hs:t'=s
  ·subst hs;simp at h';subst h';have:t'<T.size:=hT t' List.mem_cons_self;rw [Array.getD_eq_getD_getElem?];simp [this];exact hu
  ·rw [beq_ne hs] at h';have:=he t' v' (by simpa using h')
   rw [Array.getD_eq_getD_getElem?] at this ⊢;rw [Array.getElem?_setIfInBounds_ne (fun e=>hs e.symm)];exact this
theorem foldl_size: ∀(l:List (Nat×Value)) (T:Array Value),(l.foldl (fun (T:Array Value) (x:Nat×Value)=>T.setIfInBounds x.1 x.2) T).size=T.size
 |[],T=>rfl
 |x::l,T=>by simp only [List.foldl_cons];rw [foldl_size l];simp
def RoundW (F:Fx) (ps:List Nat) (A B:ICode) (ts:List Nat) (cs as:List AV) (h1:Hp) (n1:Nat) (h2:Hp) (n2:Nat):Prop:=
 iw {F with n0:=n1} A (thenK (fun _ _ _ _=>False) fun e h n=>iw {F with n0:=n1} B (fun ex e3 h3 n3=>match ex with| .normal=>Ends n1 (.b true) h3 n3 (.b true) h2 n2|_=>False) e h n) (asg ps as (zipE ts cs)) h1 n1
structure RecOK (F:Fx) (ps:List Nat) (A B:ICode) (r:Go.Loop):Prop where
 state:r.state= .ready
 pending:r.pending=none
 params:r.params=ps.toArray
 as:compC F.P F.ct F.N r.assign=A
 bd:compC F.P F.ct F.N r.body=B
 size:r.tmps.size=F.N
theorem FTL.round {F:Fx} (hcx:Sound F.P F.cx) (hm:F.P.follows .mixedOrders=true) {ps:List Nat} {A B:ICode} {L:Nat} {r:Go.Loop} (hr:RecOK F ps A B r) (hnA:nrI A=true) (hnB:nrI B=true) (hps:(ps.all fun t=>decide (t<F.N))=true)
 {ts:List Nat} {cs as:List AV} {h1:Hp} {n1:Nat} {h2:Hp} {n2:Nat} (hlen:ps.length=as.length) (hyc:nylL cs=true) (hya:nylL as=true) (hyh: ∀b k,hget h1 b=some k->nylL k.cells=true)
 (hw:RoundW F ps A B ts cs as h1 n1 h2 n2):FTL F.P YB (.yl L r ts cs::as) h1 n1 (.b true) h2 n2:=by
 intro D φ w us hD0 hH hargs;obtain ⟨u0,vs,rfl,hu0,hvs⟩:=hargs.uncons;generalize hgen:AV.yl L r ts cs=y at hu0;cases hu0<;>cases hgen;rename_i hL henv;have hLw:=hH.lp L r hL;let X:Nat->Option Go.Loop:=fun L'=>if L'=L then none else φ.lp L'
 let D1:Nat->Prop:=fun b=>b<n1
 -- the relation,but for this loop's record
 have hHb:HR D1 (φ.lpT X) (hget h1) w:=by
  refine ((hH.lpT (X:=X) (fun b k v u hb hv hr=>hr.nyl (nylL_spec (hyh b k hb) v hv)) (fun L' r' h=> ?_)).grow (D':=D1) hD0);simp only [X] at h;split at h
  ·cases h
  ·exact hH.lp L' r' h
 have hvsb:All2 D1 (φ.lpT X) as vs:=⟨hvs.1,fun i a u ha hu=>((hvs.2 i a u ha hu).nyl (nylL_spec hya a (List.mem_of_getElem? ha))).mono hD0 (Agree.refl _ _)⟩;unfold Ans;rw [if_pos rfl];refine ⟨L,vs.toArray,by simp,r.fn,_,r.assign,r.body,run_yield hLw (by rw [hr.params];simp;rw [hlen];exact hvs.1.symm),?_⟩
 refine roundIn_of_wpIn (F:=Fence.wide) trivial ?_;have hfold:(r.params.zip vs.toArray).foldl (fun tmps (x:Nat×Value)=>tmps.setIfInBounds x.1 x.2) r.tmps=(ps.zip vs).foldl (fun (T:Array Value) (x:Nat×Value)=>T.setIfInBounds x.1 x.2) r.tmps:=by
  rw [hr.params];simp
 have hR:Rel D1 (φ.lpT X) (asg ps as (zipE ts cs)) h1 n1 F.N (w.heap.size,[]) {tmps:=(r.params.zip vs.toArray).foldl (fun tmps (x:Nat×Value)=>tmps.setIfInBounds x.1 x.2) r.tmps,defers:=[]} w:=by
  refine ⟨fun b hb=>hb,fun t v hv=> ?_,hHb,?_,Mk.nil⟩
  ·show VRel _ _ v (Array.getD ((r.params.zip vs.toArray).foldl (fun tmps (x:Nat×Value)=>tmps.setIfInBounds x.1 x.2) r.tmps) t undef);rw [hfold];refine asg_rel hvsb hlen (fun t ht=>by rw [hr.size];exact of_decide_eq_true (List.all_eq_true.1 hps t ht)) (fun t v hv=> ?_) t v hv
   obtain ⟨i,g1,g2⟩:=zipE_get hv;exact ((henv i t v g1 g2).nyl (nylL_spec hyc v (List.mem_of_getElem? g2))).mono hD0 (Agree.refl _ _)
  ·show Array.size ((r.params.zip vs.toArray).foldl (fun tmps (x:Nat×Value)=>tmps.setIfInBounds x.1 x.2) r.tmps)=F.N;rw [hfold,foldl_size];exact hr.size
 have hA:WP F.P F.N n1 r.assign _ (asg ps as (zipE ts cs)) h1 n1:=iw_sound {F with n0:=n1} hcx hm r.assign _ _ _ _ (by show iw _ (compC F.P F.ct F.N r.assign) _ _ _ _;rw [hr.as];exact hw)
 have h1w:=hA (some L) (.inr (nrI_spec (by rw [hr.as];exact hnA))) [] D1 (φ.lpT X) (hget h1) w (fun b hb=>hb) (Nat.le_refl _) D1 (φ.lpT X) _ w hR (Stp.refl hHb)
 refine wpIn_mono (F:=Fw (some L)) h1w (fun ex a1 w1 hp=> ?_);obtain ⟨D',φ',e1,hh1,nn1,hk,hn',hR',hS'⟩:=hp;cases ex with
 |normal=>
  have hL1:w1.heap[L]? =some (.loop r):=hHb.stays hS'.frm hLw (fun _ _ _ e=>by cases e)
  have hltL:L<w.heap.size:=(Array.getElem?_eq_some_iff.1 hLw).1;refine ⟨_,run_beginRound hL1 hr.state,?_⟩;have hlpX:φ'.lp=X:=hS'.agree.lp;have hne: ∀{c:Nat} {o:Obj} {w1:World},w1.heap[c]? =some o->(∃r',w1.heap[L]? =some (.loop r'))->(∀r',o≠ .loop r')->c≠L:=fun hc hl ho e=>by
   obtain ⟨r',hl⟩:=hl;rw [e,hl] at hc;cases hc;exact ho _ rfl
  -- the loop's record is turned
  have turnHR: ∀{D':Nat->Prop} {φ':Phi} {H':Hf} {w1:World} (o:Obj),φ'.lp=X->(∃r',w1.heap[L]? =some (.loop r'))->HR D' φ' H' w1->HR D' φ' H' (w1.putObj L o):=fun o hX hl hh=>
   hh.same (fun c cs elem fr hc=>by rw [World.putObj_heap_other (hne hc hl (fun _ e=>by cases e))];exact hc) (fun L' r' h=>by
    have h':=h;rw [hX] at h';simp only [X] at h';split at h'
    ·cases h'
    ·rename_i hL';rw [World.putObj_heap_other hL'];exact hh.lp L' r' h)
  have turnMk: ∀{m:Nat×List Deferred} {l:List Deferred} {w1:World} (o:Obj),(∃r',w1.heap[L]? =some (.loop r'))->Mk m l w1->Mk m l (w1.putObj L o):=fun o hl ⟨ds,g1,g2,g3⟩=>
   ⟨ds,g1,g2,fun D hD=>⟨(g3 D hD).1,by rw [World.putObj_heap_other (hne (g3 D hD).2 hl (fun _ e=>by cases e))];exact (g3 D hD).2⟩⟩
  have hr2:=turnHR (.loop {r with state:= .busy}) hlpX ⟨r,hL1⟩ hR'.heap
  have hS2:Stp D1 (φ.lpT X) (hget h1) (w.putObj L (.loop {r with state:= .busy})) D' φ' (hget hh1) (w1.putObj L (.loop {r with state:= .busy})):=
   hS'.turn hr2 hS'.frm.os hS'.frm.tape hS'.frm.output (by simp) (by simp) L (fun c hc=>World.putObj_heap_other hc) (fun c hc=>World.putObj_heap_other hc)
    (by rw [World.putObj_heap_same (Nat.lt_of_lt_of_le hltL hS'.frm.size),World.putObj_heap_same hltL])
  have hR2:Rel D' φ' e1 hh1 nn1 F.N ((w.putObj L (.loop {r with state:= .busy})).heap.size,[]) a1 (w1.putObj L (.loop {r with state:= .busy})):=
   ⟨hR'.lt,hR'.env,hr2,hR'.size,by rw [World.putObj_size];exact turnMk _ ⟨r,hL1⟩ hR'.defers⟩
  have hB:WP F.P F.N n1 r.body _ e1 hh1 nn1:=iw_sound {F with n0:=n1} hcx hm r.body _ _ _ _ (by show iw _ (compC F.P F.ct F.N r.body) _ _ _ _;rw [hr.bd];exact hk)
  have h2w:=hB (some L) (.inr (nrI_spec (by rw [hr.bd];exact hnB))) [] D1 (φ.lpT X) (hget h1) _ (fun b hb=>hb) hn' D' φ' a1 _ hR2 hS2
  refine wpIn_mono (F:=Fw (some L)) h2w (fun ex a3 w3 hp=> ?_);obtain ⟨D3,φ3,e3,h3,n3,hk3,hn3,hR3,hS3⟩:=hp;cases ex with
  |normal=>
   obtain ⟨ψ,hW⟩:=hk3;have hHwb:HR D1 (φ.lpT X) (hget h1) (w.putObj L (.loop {r with state:= .busy})):=turnHR _ rfl ⟨r,hLw⟩ hHb
   have hL3:w3.heap[L]? =some (.loop {r with state:= .busy}):=hHwb.stays hS3.frm (World.putObj_heap_same hltL) (fun _ _ _ e=>by cases e)
   refine ⟨_,_,run_endRound none hL3,?_⟩;have hrec:({({r with state:= .busy}:Go.Loop) with state:=if (none:Option Code).isNone then .ready else .done,pending:=none}:Go.Loop)=r:=by
    obtain ⟨st,pe,f',tm,pa,as',bd,de⟩:=r;have:=hr.state;have:=hr.pending;simp at*;simp [*]
   rw [hrec]
   -- the result
   have hR4:Rel D3 φ3 [(0,.b true)] h3 n3 1 (0,[]) {tmps:= #[.bool true],defers:=[]} w3:=by
    refine ⟨hR3.lt,fun t v hv=> ?_,hR3.heap,rfl,Mk.nil⟩;simp only [eget] at hv;by_cases ht:t=0
    ·subst ht;simp at hv;subst hv;exact .b true
    ·rw [beq_ne ht] at hv;simp at hv
   obtain ⟨hR5,hS5⟩:=Rel.weaken hW (fun b hb=>hb) hR4 hS3;have hlp3:(φ3.comp ψ).lp=X:=hS5.agree.lp;have hr5:=turnHR (.loop r) hlp3 ⟨_,hL3⟩ hR5.heap;have hltL3:L<w3.heap.size:=(Array.getElem?_eq_some_iff.1 hL3).1;have hS6:Stp D1 (φ.lpT X) (hget h1) w _ (φ3.comp ψ) (hget h2) (w3.putObj L (.loop r)):=
    hS5.turn hr5 hS5.frm.os hS5.frm.tape hS5.frm.output (by simp) (by simp) L (fun c hc=>(World.putObj_heap_other hc).symm) (fun c hc=>World.putObj_heap_other hc)
     (by rw [World.putObj_heap_same hltL3];exact hLw.symm)
   have hr7:HR _ ((φ3.comp ψ).lpT φ.lp) (hget h2) (w3.putObj L (.loop r)):=hr5.lpT (fun b k v u _ _ h=>h.lpUp (fun L' r' h'=>by
    rw [hlp3] at h';simp only [X] at h';split at h'
    ·cases h'
    ·exact h')) (fun L' r' h'=>by
     by_cases hL':L'=L
     ·rw [hL',World.putObj_heap_same hltL3];rw [hL',hL] at h';cases h';rfl
     ·have:X L'=some r':=by simp only [X,hL',if_false];exact h'
      rw [<-hlp3] at this;exact hr5.lp L' r' this)
   have hS7:Stp D1 φ (hget h1) w _ ((φ3.comp ψ).lpT φ.lp) (hget h2) (w3.putObj L (.loop r)):=hS6.lpT (X:=φ.lp) hr7;refine ⟨_,_,_,rfl,hR5.lt,VRel.b true,⟨fun b hb=>hS7.sub b (hD0 b hb),⟨fun b hb=>hS7.agree.at_ b (hD0 b hb),hS7.agree.fz,hS7.agree.lp⟩,hS7.hr,hS7.frm,hS7.img,hS7.fnew⟩⟩
  |_=>exact hk3.elim
 |_=>exact hk.elim
theorem RFunc.intro {F:Fx} (hcx:Sound F.P F.cx) (hm:F.P.follows .mixedOrders=true) {g:Opd} {ps:List Nat} {A B:ICode} {K:Kont} {e:Env} {h:Hp} {n:Nat} {gf:Nat} {caps:List AV} {v':AV} {h':Hp} {n':Nat} (ts:List Nat) (cs:List AV)
 (hg:g.ev e h=some (.fn gf caps)) (hcal:(callable F.P gf&& !ext F.P gf)=true) (hnA:nrI A=true) (hnB:nrI B=true) (hps:(ps.all fun t=>decide (t<F.N))=true)
 (hts: ∀(i t:Nat) (a:AV),ts[i]? =some t->cs[i]? =some a->eget e t=some a)
 (hit: ∀L r,(∀cs as h1 n1 h2 n2,ps.length=as.length->nylL cs=true->nylL as=true->(∀b k,hget h1 b=some k->nylL k.cells=true)->RoundW F ps A B ts cs as h1 n1 h2 n2->FTL F.P YB (.yl L r ts cs::as) h1 n1 (.b true) h2 n2)→
   FTL F.P gf (.yl L r ts cs::caps) h n v' h' n')
 (hy': ∀b k,hget h' b=some k->nylL k.cells=true) (hn':F.n0<=n') (hk:K .normal e h' n'):RFunc F.P F.ct F.N F.n0 g ps A B K e h n:=by
 rw [Bool.and_eq_true,Bool.not_eq_true'] at hcal;intro c' hc' ro hro Bd D0 φ0 H0 w0 hd0 hn0 D φ a w hR hS
 -- the code
 obtain ⟨g',ps',A',B',rfl,hg',hpe,hA',hB',hgg⟩: ∃g' ps' A' B',c'= .rangeFunc g' ps' A' B'/\cO g'=some g/\ps'.toList=ps/\compC F.P F.ct F.N A'=A/\compC F.P F.ct F.N B'=B/\ ∀k,g≠ .g k:=by
  cases c' with
  |rangeFunc g' ps' A' B'=>
   simp only [compC] at hc';split at hc'
   ·cases hc'
   ·rename_i x hng hx;cases hc';exact ⟨g',ps',A',B',rfl,hx,rfl,rfl,rfl,fun k hk=>hng k hk⟩
   ·cases hc'
  |region id ops draw=>simp only [compC] at hc';split at hc'<;>(try split at hc')<;>cases hc'
  |cond x y z=>simp only [compC] at hc';split at hc'<;>cases hc'
  |_=>simp [compC] at hc'
 have hro':ro=none:=hro.resolve_right (by simp [noRF])
 subst hro';have hvf:=opd_rel (fun t v _ hv=>hR.env t v hv) hg' (fun k hk=>by subst hk;simp only [cO,Option.some.injEq] at hg';exact hgg k hg'.symm) hg
 obtain ⟨hgy,capsV,hev,hcaps⟩:=hvf.fn_inv;refine wpIn_rangeFunc ?_;intro fn hfn;obtain ⟨r,hrdef⟩: ∃r:Go.Loop,r={state:= .ready,pending:=none,fn,tmps:=a.tmps,params:=ps',assign:=A',body:=B',defers:=w.heap.size}:=⟨_,rfl⟩;have hrec:RecOK F ps A B r:=by rw [hrdef];exact ⟨rfl,rfl,by rw [<-hpe],hA',hB',hR.size⟩
 obtain ⟨W1,hW1⟩: ∃W1,(w.alloc (.deferred (some []))).alloc (.loop r)=W1:=⟨_,rfl⟩;have hsz1:W1.heap.size=w.heap.size+2:=by rw [<-hW1];simp
 have hL1:W1.heap[w.heap.size+1]? =some (.loop r):=by
  rw [<-hW1];have:=World.alloc_heap_new (w.alloc (.deferred (some []))) (.loop r);rwa [World.size_alloc] at this
 have hK1:W1.heap[w.heap.size]? =some (.deferred (some [])):=by
  rw [<-hW1];exact (Below.heap_alloc _ _ _ (by simp)).trans (World.alloc_heap_new w _)
 have hold: ∀c,c<w.heap.size->W1.heap[c]? =w.heap[c]? :=fun c hc=>by
  rw [<-hW1];exact (Below.heap_alloc _ _ _ (by simp;omega)).trans (Below.heap_alloc _ _ _ hc)
 have hHw1:HR D φ (hget h) W1:=hR.heap.same (fun c cs elem fr hc=>by rw [hold c (Array.getElem?_eq_some_iff.1 hc).1];exact hc) (fun L r' hL=>by
  have:=hR.heap.lp L r' hL;rw [hold L (Array.getElem?_eq_some_iff.1 this).1];exact this)
 have hS1:Stp D φ (hget h) w D φ (hget h) W1:=(Stp.refl hR.heap).same hHw1 (by rw [<-hW1];rfl) (by rw [<-hW1];rfl) (by rw [<-hW1];rfl) (by omega) hold
 let X:Nat->Option Go.Loop:=fun L'=>if L'=w.heap.size+1 then some r else φ.lp L'
 have hXup: ∀L r',φ.lp L=some r'->X L=some r':=fun L r' hL=>by
  have h1:=hR.heap.lp L r' hL;have:=(Array.getElem?_eq_some_iff.1 h1).1;simp only [X];rw [if_neg (by omega)];exact hL
 have hHX:HR D (φ.lpT X) (hget h) W1:=hHw1.lpT (fun b k v u _ _ hv=>hv.lpUp hXup) (fun L r' hL=>by
  simp only [X] at hL;split at hL
  ·rename_i e;cases hL;rw [e];exact hL1
  ·exact hHw1.lp L r' hL)
 have hy0:VRel D (φ.lpT X) (.yl (w.heap.size+1) r ts cs) (.func (.yield (w.heap.size+1)) #[] #[]):=by
  refine .yl (φ:=φ.lpT X) _ _ _ _ (by simp [Phi.lpT,X]) (fun i t a ht ha=> ?_)
  have:=hR.env t a (hts i t a ht ha);rw [hrdef];exact this.lpUp hXup
 have hcaps':All2 D (φ.lpT X) caps capsV:=⟨hcaps.1,fun i a u ha hu=>(hcaps.2 i a u ha hu).lpUp hXup⟩;have hF:=hit (w.heap.size+1) r (fun cs as h1 n1 h2 n2 q1 q2 q3 q4 q5=>FTL.round hcx hm hrec hnA hnB hps q1 q2 q3 q4 q5) D (φ.lpT X) W1 _ hR.lt hHX (.cons hy0 hcaps');refine ⟨w.heap.size+1,[{target:= .collected w.heap.size,args:= #[]}],W1,{target:= .fn (.func gf) capsV.toArray,args:= #[.func (.yield (w.heap.size+1)) #[] #[]]},W1,gf,
  #[.func (.yield (w.heap.size+1)) #[] #[]]++capsV.toArray,W1,?_,?_,fun _ _=>trivial,?_,fun hd=>(by cases hd),?_⟩
 ·rw [<-hW1,hrdef];exact run_enterLoop_outer _ _ _ _ _
 ·simp only [resolve,hev];simp [go_sem]
 ·simp only [invoke,callFunc_run hgy hcal.1 hcal.2]
 ·refine callsIn_Fw ?_;have hF2:=hF.calls hgy hcal.2;rw [show (Value.func (.yield (w.heap.size+1)) #[] #[]::capsV).toArray= #[.func (.yield (w.heap.size+1)) #[] #[]]++capsV.toArray by simp] at hF2
  refine Calls.mono hF2 fun ex w2 hx=> ?_;obtain ⟨D',φ',u,rfl,hlt',hv',hS2⟩:=hx;have hlp2:φ'.lp=X:=hS2.agree.lp;have hL2:w2.heap[w.heap.size+1]? =some (.loop r):=hHX.stays hS2.frm hL1 (fun _ _ _ e=>by cases e)
  have hK2:w2.heap[w.heap.size]? =some (.deferred (some [])):=hHX.stays hS2.frm hK1 (fun _ _ _ e=>by cases e)
  have hlt2:w.heap.size+1<w2.heap.size:=(Array.getElem?_eq_some_iff.1 hL2).1;have hpend:r.pending=none:=hrec.pending;refine ⟨none,w2.putObj (w.heap.size+1) (.loop {r with state:= .exhausted}),(by have:=run_endLoop (P:=F.P) hL2 (by rw [hrec.state];simp);rw [this,hpend]),?_⟩
  -- the relation behind
  have hHr:HR D' (φ'.lpT φ.lp) (hget h') w2:=hS2.hr.lpT (fun b k v u hb hv hvr=>hvr.nyl (nylL_spec (hy' b k hb) v hv)) (fun L r' hL=>by
   have:=hXup L r' hL;rw [<-hlp2] at this;exact hS2.hr.lp L r' this)
  have hS3:Stp D φ (hget h) W1 D' (φ'.lpT φ.lp) (hget h') w2:=hS2.lpT (X:=φ.lp) hHr;have hHe:HR D' (φ'.lpT φ.lp) (hget h') (w2.putObj (w.heap.size+1) (.loop {r with state:= .exhausted})):=hHr.same (fun c cs elem fr hc=>by
   rw [World.putObj_heap_other (fun e=>by rw [e,hL2] at hc;cases hc)];exact hc) (fun L r' hL=>by
   have h1:=hR.heap.lp L r' hL;have h2:=(Array.getElem?_eq_some_iff.1 h1).1;rw [World.putObj_heap_other (by omega)]
   exact hHr.lp L r' hL)
  have hS4:Stp D φ (hget h) w D' (φ'.lpT φ.lp) (hget h') (w2.putObj (w.heap.size+1) (.loop {r with state:= .exhausted})):=
   (hS1.trans hS3).same hHe rfl rfl rfl (by simp) (fun c hc=>World.putObj_heap_other (by omega))
  refine ⟨D',φ'.lpT φ.lp,e,h',n',hk,hn',⟨hlt',fun t v hv=> ?_,hHe,hR.size,?_⟩,hS.trans hS4⟩
  ·exact (hR.env t v hv).mono hS4.sub hS4.agree
  ·obtain ⟨ds,q1,q2,q3⟩:=hR.defers;refine ⟨w.heap.size::ds,by simp [q1],List.nodup_cons.2 ⟨fun hin=> ?_,q2⟩,fun E hE=> ?_⟩
   ·have:=(Array.getElem?_eq_some_iff.1 (q3 _ hin).2).1;omega
   ·rcases List.mem_cons.1 hE with rfl|hE
    ·exact ⟨hS.frm.size,by rw [World.putObj_heap_other (by omega)];exact hK2⟩
    ·have h1:=(q3 E hE).2;have h2:=(Array.getElem?_eq_some_iff.1 h1).1;refine ⟨(q3 E hE).1,?_⟩;rw [World.putObj_heap_other (by omega)]
     exact (hHX.stays hS2.frm (by rw [hold E h2];exact h1) (fun _ _ _ e=>by cases e))
end Go.Ab
namespace Go.Ab
noncomputable def cx1 (f0:FuncId) (a0:List AV) (h0:Hp) (n0:Nat) (E0:Eff):Cx:=fun f a h n=>open Classical in if f=f0/\a=a0/\h=h0/\n=n0 then some (true,E0) else none
theorem cx1_at {f0:FuncId} {a0:List AV} {h0:Hp} {n0:Nat} {E0:Eff}:cx1 f0 a0 h0 n0 E0 f0 a0 h0 n0=some (true,E0):=if_pos ⟨rfl,rfl,rfl,rfl⟩
theorem cx1_sound {P:Program} {f0:FuncId} {a0:List AV} {h0:Hp} {n0:Nat} {E0:Eff} (hc:CallOK P f0 a0 h0 n0 E0):Sound P (cx1 f0 a0 h0 n0 E0):=fun f a h n c E he ht=>by
 unfold cx1 at he;split at he
 ·rename_i hh;obtain ⟨rfl,rfl,rfl,rfl⟩:=hh;cases he;exact hc
 ·cases he
theorem Loop.stepX {F:Fx} (hm:F.P.follows .mixedOrders=true) {c:ICode} {K:Kont} {X:Type} (ok:X->Prop) (μ:X->Nat) (E:X->Env) (H:X->Hp) (n2:Nat) (x0:X) (nx:X->X) (m0:List (Nat×Nat)) (m:X->List (Nat×Nat))
 {e:Env} {h:Hp} {n:Nat} (hn:F.n0<=n2) (hm0:rnOK m0 F.n0 n2=true) (hm1: ∀x,rnOK (m x) F.n0 n2=true) (h0:ok x0) (he:EnvR n2 m0 e (E x0)) (hh:HpR n2 m0 h (H x0))
 (round: ∀x,ok x-> ∃cx,Sound F.P cx/\jw {F with cx:=cx} c (thenK K fun e' h' n'=>(ok (nx x)/\μ (nx x)<μ x)/\EnvR n2 (m x) e' (E (nx x))/\HpR n2 (m x) h' (H (nx x))) (E x) (H x) n2):Loop F.P F.ct F.N F.n0 c K e h n:=by
 refine Loop.invW (F:=F) (X:={x:X // ok x}) (fun k=>(E k.1,H k.1,n2)) (fun k=>μ k.1) ⟨x0,h0⟩ (rn m0) (Wk.ofR hn hm0 he hh) (fun k c' hc'=> ?_);obtain ⟨cx,hcx,hr⟩:=round k.1 k.2;refine iw_sound {F with cx:=cx} hcx hm c' _ _ _ _ (by
  show iw _ (compC F.P F.ct F.N c') _ _ _ _;rw [hc'];refine iw_mono (fun ex e' h' n' hx=> ?_) (iw_of_jw hr);cases ex with
  |normal=>
   obtain ⟨⟨h1,h2⟩,h3,h4⟩:=hx;exact ⟨⟨nx k.1,h1⟩,rn (m k.1),Wk.ofR hn (hm1 k.1) h3 h4,h2⟩
  |_=>exact hx)
def nylH:Hp->Bool
 |[]=>true
 |(_,k)::r=>nylL k.cells&&nylH r
theorem nylH_spec: ∀{h:Hp} {b:Nat} {k:Blk},nylH h=true->hget h b=some k->nylL k.cells=true
 |[],b,k,_,hb=>by simp [hget] at hb
 |(c,j)::r,b,k,h,hb=>by
  simp only [nylH,Bool.and_eq_true] at h;simp only [hget] at hb;by_cases hc:b=c
  ·subst hc;simp at hb;subst hb;exact h.1
  ·rw [beq_ne hc] at hb;exact nylH_spec h.2 hb
theorem rows_nyl {α:Type} {f:α->List AV} (hf: ∀a,nylL (f a)=true): ∀{l:List α},nylL (rows f l)=true
 |[]=>rfl
 |a::l=>by rw [rows_cons,nylL_append,hf,rows_nyl hf];rfl
def rdK (Q:Env->Hp->Nat->Prop):Kont:=fun ex e h n=>match ex with
 | .normal=>Q e h n
 |_=>False
theorem rdK_n {Q:Env->Hp->Nat->Prop} {e:Env} {h:Hp} {n:Nat}:rdK Q .normal e h n=Q e h n:=(rfl)
attribute [go_sem ↓] rdK_n
theorem RoundW.of_jw {F:Fx} {ps:List Nat} {A B:ICode} {ts:List Nat} {cs as':List AV} {h1:Hp} {n1:Nat} {h2:Hp} {n2:Nat}
 (hj:jw {F with n0:=n1} A (rdK fun e h n=>jw {F with n0:=n1} B (rdK fun e3 h3 n3=>Ends n1 (.b true) h3 n3 (.b true) h2 n2) e h n) (asg ps as' (zipE ts cs)) h1 n1):RoundW F ps A B ts cs as' h1 n1 h2 n2:=by
 refine iw_mono (fun ex e h n hx=> ?_) (iw_of_jw hj);cases ex with
 |normal=>
  refine iw_mono (fun ex e h n hx=> ?_) (iw_of_jw hx);cases ex<;>exact hx
 |_=>exact hx.elim
end Go.Ab
namespace Go.Ab
/-! ### the executor -/
section
variable {P:Program} {ct:List Nat} {N n0:Nat}
theorem WP.sub {c:Code} {K:Kont} {e e2:Env} {h:Hp} {n:Nat} (hs: ∀t v,eget e2 t=some v->eget e t=some v) (hw:WP P N n0 c K e2 h n):WP P N n0 c K e h n:=fun ro hro B D0 φ0 H0 w0 h1 h2 D φ a w hR hS=>
 hw ro hro B D0 φ0 H0 w0 h1 h2 D φ a w ⟨hR.lt,fun t v ht=>hR.env t v (hs t v ht),hR.heap,hR.size,hR.defers⟩ hS
end
/-! ### calls that are known -/
structure MEnt where
 f:Nat
 a:List AV
 h:Hp
 k:Nat
 v:AV
 hR:Hp
 kR:Nat
structure MEnt.ok (P:Program) (m:MEnt):Prop where
 call:callable P m.f=true
 ftl:FTL P m.f m.a m.h m.k m.v m.hR m.kR
 le:m.k<=m.kR
 names:hOK m.h m.k m.kR m.hR=true
noncomputable def MOK (P:Program) (M:List MEnt):Prop:= ∀m∈M,m.ok P
theorem MOK.nil {P:Program}:MOK P []:=fun m h=>by cases h
theorem MOK.cons {P:Program} {m:MEnt} {M:List MEnt} (h:m.ok P) (hM:MOK P M):MOK P (m::M):=fun x hx=>by
 rcases List.mem_cons.1 hx with rfl|hx
 ·exact h
 ·exact hM x hx
end Go.Ab
namespace Go.Ab
open Go.RowKit
theorem Stp.below {D:Nat->Prop} {φ:Phi} {w w':World} (hH:HR D φ (hget []) w) (hb:Below w.heap.size w w'):Stp D φ (hget []) w D φ (hget []) w':=
 Stp.mk' hH rfl rfl (fun _ h=>h) (Agree.refl D φ).at_ ⟨fun b k hh=>by simp [hget] at hh,fun b1 b2 k1 k2 _ hh=>by simp [hget] at hh⟩ ⟨hb.os,hb.tape,hb.output,hb.size,fun c hc _=>hb.block c hc⟩ fun b k hh=>by simp [hget] at hh
theorem FTL.of_below {P:Program} {f:FuncId} {args:List AV} {v:AV} {n:Nat} (hc: ∀D φ us,All2 D φ args us-> ∃u,VRel D φ v u/\ ∀w,Calls P f us.toArray w fun e w'=>e= .returned u/\Below w.heap.size w w') (he:ext P f=false) (hy:f≠YB:=by decide):FTL P f args [] n v [] n:=by
 intro D φ w us hD hH ha;obtain ⟨u,hv,hcl⟩:=hc D φ us ha;refine Ans.of ((hcl w).mono fun e w' hx=> ?_) hy he;obtain ⟨rfl,hb⟩:=hx;exact ⟨D,φ,u,rfl,hD,hv,Stp.below hH hb⟩
end Go.Ab
namespace Go.Ab
def dels:List Nat->List (Nat×Option Blk)
 |[]=>[]
 |b::r=>(b,none)::dels r
theorem mget_dels {c:Nat}: ∀{l:List Nat},mget (dels l) c=if inl l c=true then some none else none
 |[]=>rfl
 |b::r=>by
  simp only [dels,mget,inl_cons];by_cases h:c=b
  ·subst h;simp
  ·have h': ¬b=c:=fun e=>h e.symm;rw [beq_ne h];simp [h',mget_dels (l:=r)]
def wrt (h:Hp):List Nat->Bool
 |[]=>true
 |b::r=>(match hget h b with|some k=> !k.ro|none=>true)&&wrt h r
theorem wrt_spec {h:Hp}: ∀{l:List Nat} {b:Nat} {k:Blk},wrt h l=true->inl l b=true->hget h b=some k->k.ro=false
 |[],b,k,_,hb,_=>by simp [inl] at hb
 |c::r,b,k,hw,hb,hk=>by
  simp only [wrt,Bool.and_eq_true] at hw;rw [inl_cons] at hb;by_cases h:c=b
  ·subst h;rw [hk] at hw;simpa using hw.1
  ·rw [if_neg h] at hb;exact wrt_spec hw.2 hb hk
def anys (n:Nat):List AV:=List.replicate n .any
theorem anys_len {n:Nat}:(anys n).length=n:=by simp [anys]
theorem anys_bel {j:Nat}: ∀{n:Nat},belL j (anys n)=true
 |0=>rfl
 |n+1=>by
  have:= @anys_bel j n;simp only [anys,List.replicate_succ,belL,AV.bel,Bool.true_and] at this ⊢;exact this
theorem anys_get {n i:Nat} {a:AV} (h:(anys n)[i]? =some a):a= .any:=by
 simp only [anys,List.getElem?_replicate] at h;split at h<;>cases h;rfl
def gvK (h:Hp) (z:Nat):AV->Option (Nat×Nat×List AV×Bool)
 | .sg b o m=>(hget h b).bind fun k=>some (b,m,cellsAt k.cells o (m*z),!k.ro&&(match k.gr with|some z'=>Nat.beq z z'|none=>false)&&decide ((cellsAt k.cells o (m*z)).length=m*z))
 | .sl b o m c=>(hget h b).bind fun k=>some (b,m,cellsAt k.cells o (m*z),!k.ro&&(match k.gr with|some _=>false|none=>true)&&decide ((cellsAt k.cells o (m*z)).length=m*z)&&decide (m<=c)&&decide (o+c*z<=k.cells.length))
 |_=>none
theorem gvK_g {h:Hp} {z b o m:Nat}:gvK h z (.sg b o m)=(hget h b).bind fun k=>some (b,m,cellsAt k.cells o (m*z),!k.ro&&(match k.gr with|some z'=>Nat.beq z z'|none=>false)&&decide ((cellsAt k.cells o (m*z)).length=m*z)):=(rfl)
theorem run_overlaps_plain {P:Program} (w:World) (tS e:TypeId) (tR:Array TypeId) (ts:Array TypeId) (h0:ts[0]? =some tS) (ht:P.underlying tS=some (.slice e)) (size:Nat) (hz:tySz P e=some size)
 (a b:Option Addr) (la ca lb cb:Nat) (hab:la≠0->lb≠0-> ∃a' b',a=some a'/\b=some b'/\a'.block≠b'.block/\(∃vs el fr,w.heap[a'.block]? =some (.cells vs el fr)/\vs.size≠0)/\ ∃vs el fr,w.heap[b'.block]? =some (.cells vs el fr)/\ ¬(fr.1<=b'.off/\b'.off<fr.2)/\ ¬(fr.1<=vs.size/\vs.size<fr.2)):
 (Extern.SlicesOverlaps.overlaps ts tR #[.slice a la ca,.slice b lb cb]).run P w= .ok (.bool false) w:=by
 change Sem.run P (α:=Value) (do
  let some t:=ts[0]? |stuck "slices.overlaps: no parameter types"
  let .slice elem ←underlying t|stuck "slices.overlaps: slice type expected"
  let size <-sizeOf elem
  match (a:Option Addr),(b:Option Addr) with
  |some a,some b=>
   if la=0\/lb=0\/size=0 then pure (Value.bool false)
   else if a.block !=b.block&&(<-frozen a)&&(<-frozen b) then unsupported .addressObserved
   else do
    if a.block !=b.block then do
     noView a;noView b
     if ←mayBeOne a b then return Value.bool ((←choose (.extern "sameAddr.stringBytes" 2))==1)
    pure (Value.bool (a.block==b.block&&a.off<b.off+lb*size&&b.off<a.off+la*size))
  |_,_=>pure (Value.bool false)) w=_
 by_cases h1:la=0\/lb=0
 ·cases a<;>cases b<;>simp [h0,run_underlying ht,run_sizeOf hz,h1];rcases h1 with h1|h1<;>simp [h1]
 ·obtain ⟨a',b',rfl,rfl,hne,⟨va,ea,fa,q1,q2⟩,vb,eb,⟨f1,f2⟩,r1,r2,r3⟩:=hab (fun h=>h1 (.inl h)) (fun h=>h1 (.inr h));have hnb:(a'.block !=b'.block)=true:=by simpa using hne
  have hnb':(a'.block==b'.block)=false:=by simpa using hne
  have hsa:w.shape? a'.block=some (ea,va.size):=by simp [World.shape?,q1]
  have hsb:w.shape? b'.block=some (eb,vb.size):=by simp [World.shape?,r1]
  have hfb:w.frozen? b'=false:=by simp only [World.frozen?,r1];simpa using r2
  have hfe:w.frozen? {block:=b'.block,off:=vb.size}=false:=by simp only [World.frozen?,r1];simpa using r3
  obtain ⟨ka,hka⟩: ∃ka,va.size=ka+1:=⟨va.size-1,by omega⟩
  rw [hka] at hsa;cases hA:w.frozen? a'<;>cases hB:w.frozen? {block:=a'.block,off:=ka+1}<;>
   simp [h0,run_underlying ht,run_sizeOf hz,h1,hnb,hnb',frozen,noView,viewAt,mayBeOne,stringish,shape,Sem.run,hsa,hsb,hfb,hfe,hA,hB]<;>(try split)<;>simp
def ovlT (P:Program) (fn:Func):Bool:=match fn.params[0]? with
 |some t=>match P.underlying t with
  |some (.slice e)=>(tySz P e).isSome
  |_=>false
 |none=>false
end Go.Ab
namespace Go.Ab
abbrev insr0 (z bytes:Nat) (zs:List AV) (fo fr:FuncId):List IOper:=[⟨some 6,.mv (.c (.ns)),none,false⟩]
abbrev insr1 (z bytes:Nat) (zs:List AV) (fo fr:FuncId):List IOper:=[⟨some 10,.mv (.t 0),none,false⟩,⟨some 11,.mv (.t 1),none,false⟩,⟨some 12,.slV z (.t 10) (some (.t 11)) none none,none,false⟩]
abbrev insr2 (z bytes:Nat) (zs:List AV) (fo fr:FuncId):List IOper:=[⟨some 13,.mv (.t 2),none,false⟩,⟨some 14,.lenV (.t 13),none,false⟩,⟨some 7,.mv (.t 14),none,false⟩]
abbrev insr3 (z bytes:Nat) (zs:List AV) (fo fr:FuncId):List IOper:=[⟨some 15,.mv (.t 7),none,false⟩,⟨some 16,.bin .eql (.t 15) (.c (.i .i64 0)),none,true⟩]
abbrev insr4 (z bytes:Nat) (zs:List AV) (fo fr:FuncId):List IOper:=[⟨some 17,.mv (.t 0),none,false⟩,⟨some 6,.mv (.t 17),none,false⟩]
abbrev insr5 (z bytes:Nat) (zs:List AV) (fo fr:FuncId):List IOper:=[⟨some 18,.mv (.t 0),none,false⟩,⟨some 19,.lenV (.t 18),none,false⟩,⟨some 8,.mv (.t 19),none,false⟩]
abbrev insr6 (z bytes:Nat) (zs:List AV) (fo fr:FuncId):List IOper:=[⟨some 20,.mv (.t 1),none,false⟩,⟨some 21,.mv (.t 8),none,false⟩,⟨some 22,.bin .eql (.t 20) (.t 21),none,true⟩]
abbrev insr7 (z bytes:Nat) (zs:List AV) (fo fr:FuncId):List IOper:=[⟨some 23,.mv (.t 0),none,false⟩,⟨some 24,.mv (.t 2),none,false⟩,⟨some 25,.app z bytes zs (.t 23) (.t 24),none,false⟩,⟨some 6,.mv (.t 25),none,false⟩]
abbrev insr8 (z bytes:Nat) (zs:List AV) (fo fr:FuncId):List IOper:=[⟨some 26,.mv (.t 8),none,false⟩,⟨some 27,.mv (.t 7),none,false⟩,⟨some 28,.bin .add (.t 26) (.t 27),none,false⟩,⟨some 29,.mv (.t 0),none,false⟩,⟨some 30,.capV (.t 29),none,false⟩,⟨some 31,.bin .gtr (.t 28) (.t 30),none,true⟩]
abbrev insr9 (z bytes:Nat) (zs:List AV) (fo fr:FuncId):List IOper:=[⟨some 32,.mv (.t 0),none,false⟩,⟨some 33,.mv (.t 1),none,false⟩,⟨some 34,.slV z (.t 32) none (some (.t 33)) none,none,false⟩,⟨some 35,.mv (.t 8),none,false⟩,⟨some 36,.mv (.t 7),none,false⟩,⟨some 37,.bin .add (.t 35) (.t 36),none,false⟩,⟨some 38,.mv (.t 1),none,false⟩,⟨some 39,.bin .sub (.t 37) (.t 38),none,false⟩,⟨some 40,.apz z bytes zs (.t 34) (.t 39),none,false⟩,⟨some 9,.mv (.t 40),none,false⟩]
abbrev insr10 (z bytes:Nat) (zs:List AV) (fo fr:FuncId):List IOper:=[⟨some 41,.mv (.t 9),none,false⟩,⟨some 42,.mv (.t 1),none,false⟩,⟨some 43,.slV z (.t 41) (some (.t 42)) none none,none,false⟩,⟨some 44,.mv (.t 2),none,false⟩,⟨some 45,.cpy z (.t 43) (.t 44),none,false⟩]
abbrev insr11 (z bytes:Nat) (zs:List AV) (fo fr:FuncId):List (IOper×List Nat):=[(⟨some 46,.mv (.t 9),none,false⟩,[]),(⟨some 47,.mv (.t 1),none,false⟩,[0]),(⟨some 48,.mv (.t 7),none,false⟩,[0,1]),(⟨some 49,.bin .add (.t 47) (.t 48),none,false⟩,[0]),(⟨some 50,.slV z (.t 46) (some (.t 49)) none none,none,false⟩,[]),(⟨some 51,.mv (.t 0),none,false⟩,[0,1,2,3,4]),(⟨some 52,.mv (.t 1),none,false⟩,[0,1,2,3,4,5]),(⟨some 53,.slV z (.t 51) (some (.t 52)) none none,none,false⟩,[0,1,2,3,4]),(⟨some 54,.cpy z (.t 50) (.t 53),none,false⟩,[])]
abbrev insr12 (z bytes:Nat) (zs:List AV) (fo fr:FuncId):List IOper:=[⟨some 55,.mv (.t 9),none,false⟩,⟨some 6,.mv (.t 55),none,false⟩]
abbrev insr13 (z bytes:Nat) (zs:List AV) (fo fr:FuncId):List IOper:=[⟨some 56,.mv (.t 0),none,false⟩,⟨some 57,.mv (.t 8),none,false⟩,⟨some 58,.mv (.t 7),none,false⟩,⟨some 59,.bin .add (.t 57) (.t 58),none,false⟩,⟨some 60,.slV z (.t 56) none (some (.t 59)) none,none,false⟩,⟨some 0,.mv (.t 60),none,false⟩]
abbrev insr14 (z bytes:Nat) (zs:List AV) (fo fr:FuncId):List IOper:=[⟨some 61,.mv (.t 2),none,false⟩,⟨some 62,.mv (.t 0),none,false⟩,⟨some 63,.mv (.t 1),none,false⟩,⟨some 64,.mv (.t 7),none,false⟩,⟨some 65,.bin .add (.t 63) (.t 64),none,false⟩,⟨some 66,.slV z (.t 62) (some (.t 65)) none none,none,false⟩,⟨some 67,.call (.c (.fn fo [])) [.t 61,.t 66],none,false⟩,⟨some 68,.not (.t 67),none,true⟩]
abbrev insr15 (z bytes:Nat) (zs:List AV) (fo fr:FuncId):List (IOper×List Nat):=[(⟨some 69,.mv (.t 0),none,false⟩,[]),(⟨some 70,.mv (.t 1),none,false⟩,[0]),(⟨some 71,.mv (.t 7),none,false⟩,[0,1]),(⟨some 72,.bin .add (.t 70) (.t 71),none,false⟩,[0]),(⟨some 73,.slV z (.t 69) (some (.t 72)) none none,none,false⟩,[]),(⟨some 74,.mv (.t 0),none,false⟩,[0,1,2,3,4]),(⟨some 75,.mv (.t 1),none,false⟩,[0,1,2,3,4,5]),(⟨some 76,.slV z (.t 74) (some (.t 75)) none none,none,false⟩,[0,1,2,3,4]),(⟨some 77,.cpy z (.t 73) (.t 76),none,false⟩,[])]
abbrev insr16 (z bytes:Nat) (zs:List AV) (fo fr:FuncId):List IOper:=[⟨some 78,.mv (.t 0),none,false⟩,⟨some 79,.mv (.t 1),none,false⟩,⟨some 80,.slV z (.t 78) (some (.t 79)) none none,none,false⟩,⟨some 81,.mv (.t 2),none,false⟩,⟨some 82,.cpy z (.t 80) (.t 81),none,false⟩]
abbrev insr17 (z bytes:Nat) (zs:List AV) (fo fr:FuncId):List IOper:=[⟨some 83,.mv (.t 0),none,false⟩,⟨some 6,.mv (.t 83),none,false⟩]
abbrev insr18 (z bytes:Nat) (zs:List AV) (fo fr:FuncId):List IOper:=[⟨some 84,.mv (.t 0),none,false⟩,⟨some 85,.mv (.t 8),none,false⟩,⟨some 86,.slV z (.t 84) (some (.t 85)) none none,none,false⟩,⟨some 87,.mv (.t 2),none,false⟩,⟨some 88,.cpy z (.t 86) (.t 87),none,false⟩]
abbrev insr19 (z bytes:Nat) (zs:List AV) (fo fr:FuncId):List IOper:=[⟨some 89,.mv (.t 0),none,false⟩,⟨some 90,.mv (.t 1),none,false⟩,⟨some 91,.slV z (.t 89) (some (.t 90)) none none,none,false⟩,⟨some 92,.mv (.t 7),none,false⟩,⟨some 93,.call (.c (.fn fr [])) [.t 91,.t 92],none,false⟩]
abbrev insr20 (z bytes:Nat) (zs:List AV) (fo fr:FuncId):List IOper:=[⟨some 94,.mv (.t 0),none,false⟩,⟨some 6,.mv (.t 94),none,false⟩]
abbrev insC (z bytes:Nat) (zs:List AV) (fo fr:FuncId):ICode:=(.seq (.reg (insr0 z bytes zs fo fr)) (.seq (.reg (insr1 z bytes zs fo fr)) (.seq (.reg (insr2 z bytes zs fo fr)) (.seq (.seq (.reg (insr3 z bytes zs fo fr)) (.cond (.t 16) (.seq (.reg (insr4 z bytes zs fo fr)) .ret) .skip)) (.seq (.reg (insr5 z bytes zs fo fr)) (.seq (.seq (.reg (insr6 z bytes zs fo fr)) (.cond (.t 22) (.seq (.reg (insr7 z bytes zs fo fr)) .ret) .skip)) (.seq (.seq (.reg (insr8 z bytes zs fo fr)) (.cond (.t 31) (.seq (.reg (insr9 z bytes zs fo fr)) (.seq (.reg (insr10 z bytes zs fo fr)) (.seq (.dreg (insr11 z bytes zs fo fr)) (.seq (.reg (insr12 z bytes zs fo fr)) .ret)))) .skip)) (.seq (.reg (insr13 z bytes zs fo fr)) (.seq (.seq (.reg (insr14 z bytes zs fo fr)) (.cond (.t 68) (.seq (.dreg (insr15 z bytes zs fo fr)) (.seq (.reg (insr16 z bytes zs fo fr)) (.seq (.reg (insr17 z bytes zs fo fr)) .ret))) .skip)) (.seq (.reg (insr18 z bytes zs fo fr)) (.seq (.reg (insr19 z bytes zs fo fr)) (.seq (.reg (insr20 z bytes zs fo fr)) .ret))))))))))))
def insI (z bytes:Nat) (zs:List AV) (fo fr:FuncId):IFn:={np:=3,N:=95,ct:=[16,22,31,68],code:=insC z bytes zs fo fr,res:=[.t 6]}
theorem dr1 {Q R:List AV} {p:Nat} (h:Q.length=p):List.drop p (Q++R)=R:=by subst h;simp
theorem tk1 {Q R:List AV} {p:Nat} (h:Q.length=p):List.take p (Q++R)=Q:=by subst h;simp
theorem cut1 (L:List AV) {a b:Nat} (h:L.length=a+b): ∃x y:List AV,L=x++y/\x.length=a/\y.length=b:=⟨L.take a,L.drop a,(List.take_append_drop a L).symm,by rw [List.length_take];omega,by rw [List.length_drop];omega⟩
section
variable {P:Program} {α:Type} {row:α->List AV} {z bytes:Nat} {zs:List AV} {f fo fr:FuncId} {fn:Func}
def insL (l xs:List α) (i:Nat):List α:=l.take i++(xs++l.drop i)
end
end Go.Ab
