/- Texts laid as one: AbRun AbCode AbDraw AbDraw2 AbIw AbFn. -/
import Derived.Test.YthnmkedknannhaaX2
import Derived.RangeFuncSeq
import Derived.RangeFuncLeaves
import Derived.OrdersIn
import Derived.TacticsIn
import Derived.LoopNIn
import Derived.Scope
set_option maxRecDepth 100000
set_option maxHeartbeats 4000000
set_option linter.unusedSimpArgs false
set_option linter.unusedVariables false
namespace Go.Ab
abbrev Cx:=FuncId->List AV->Hp->Nat->Option (Bool×Eff)
def ext (P:Program) (f:FuncId):Bool:=match P.funcs[f]? with
 |some fn=>fn.body.isNone
 |none=>false
def callable (P:Program) (f:FuncId):Bool:=
 Nat.beq f YB||match P.funcs[f]? with
 |some fn=>fn.body.isNone|| !(fn.name== "runtime.NumGoroutine")
 |none=>false
def Ans (P:Program) (f:FuncId) (us:Array Value) (w:World) (R:Ending->World->Prop):Prop:=
 if f=YB then ∃L vs,us= #[.func (.yield L) #[] #[]]++vs/\YieldAt Fence.wide 0 P L vs w R else if ext P f=true then ∃u w',(callFunc f us).run P w= .ok (.value u) w'/\R (.returned u) w' else Calls P f us w R
theorem Ans.mono {P:Program} {f:FuncId} {us:Array Value} {w:World} {R R':Ending->World->Prop} (h:Ans P f us w R) (hr: ∀e w',R e w'->R' e w'):Ans P f us w R':=by
 unfold Ans at h ⊢;split
 ·rename_i hf;rw [if_pos hf] at h;obtain ⟨L,vs,h1,fn,tmps,as,bd,h2,h3⟩:=h;exact ⟨L,vs,h1,fn,tmps,as,bd,h2,h3.mono hr⟩
 ·rename_i hf;rw [if_neg hf] at h;split
  ·rename_i he;rw [if_pos he] at h;obtain ⟨u,w',h1,h2⟩:=h;exact ⟨u,w',h1,hr _ _ h2⟩
  ·rename_i he;rw [if_neg he] at h;exact Calls.mono h hr
theorem Ans.calls {P:Program} {f:FuncId} {us:Array Value} {w:World} {R:Ending->World->Prop} (h:Ans P f us w R) (hf:f≠YB) (he:ext P f=false):Calls P f us w R:=by
 unfold Ans at h;rwa [if_neg hf,if_neg (by rw [he];decide)] at h
theorem Ans.of {P:Program} {f:FuncId} {us:Array Value} {w:World} {R:Ending->World->Prop} (h:Calls P f us w R) (hf:f≠YB) (he:ext P f=false):Ans P f us w R:=by
 unfold Ans;rwa [if_neg hf,if_neg (by rw [he];decide)]
theorem Ans.ext {P:Program} {f:FuncId} {us:Array Value} {w:World} {R:Ending->World->Prop} (h:Ans P f us w R) (hf:f≠YB) (he:ext P f=true): ∃u w',(callFunc f us).run P w= .ok (.value u) w'/\R (.returned u) w':=by
 unfold Ans at h;rwa [if_neg hf,if_pos he] at h
theorem ext_false {P:Program} {f:FuncId} {fn:Func} {c:Code} (hf:P.funcs[f]? =some fn) (hc:fn.body=some c):Go.Ab.ext P f=false:=by
 unfold Go.Ab.ext;rw [hf];simp [hc]
def Fw (ro:Option Nat):Fence:={Fence.wide with round:=ro}
def endP:Option Value->Value->Ending
 |none,u=> .returned u
 |some p,_=> .panicked [{v:=p,recovered:=false}]
structure CallOK (P:Program) (f:FuncId) (args:List AV) (h:Hp) (n:Nat) (E:Eff):Prop where
 callable:callable P f=true
 le:n<=E.n
 md: ∀b r,mget E.md b=some r->inl E.rd b=true
 nw: ∀b k,hget E.nw b=some k->n<=b/\b<E.n
 run: ∀(D:Nat->Prop) (φ:Phi) (w:World) (us:List Value),(∀b,n<=b->b<E.n-> ¬D b)->HR D φ (only (hget h) E.rd) w->All2 D φ args us→
  Ans P f us.toArray w fun e w'=> ∃u φ',e=endP E.pn u/\VRel (Dn D n E.n) φ' E.v u/\Stp D φ (only (hget h) E.rd) w (Dn D n E.n) φ' (E.app (only (hget h) E.rd)) w'∧
   (∀b k,E.app (only (hget h) E.rd) b=some k->k.ro=true->only (hget h) E.rd b=some k)
def Sound (P:Program) (cx:Cx):Prop:= ∀f args h n c E,cx f args h n=some (c,E)->c=true->CallOK P f args h n E
def stepC (cx:Cx) (o:IOp) (e:Env) (h:Hp) (n:Nat):Option (Bool×Eff):=
 match o with
 | .call f args=>(f.ev e h).bind fun v=>match v with
  | .fn g caps=>(evs e h args).bind fun l=>cx g (l++caps) h n
  | .bm g fs=>(evs e h args).bind fun l=>cx g (fs++l) h n
  | .yl L r ts cs=>(evs e h args).bind fun l=>cx YB (.yl L r ts cs::l) h n
  |_=>none
 | .pan x=>(x.ev e h).bind fun v=>match v with
  | .k t u=>some (true,{v:= .tup [],n,pn:=some (.iface t u)})
  |_=>none
 |o=>step o e h n
theorem hget_append (a b:Hp) (c:Nat):hget (a++b) c=match hget a c with|some k=>some k|none=>hget b c:=by
 induction a with
 |nil=>rfl
 |cons x a ih=>
  obtain ⟨d,k⟩:=x;simp only [List.cons_append,hget];cases Nat.beq d c<;>simp [ih]
theorem hget_hset (h:Hp) (b:Nat) (k:Blk) (c:Nat):hget (hset h b k) c=if c=b then some k else hget h c:=by
 induction h with
 |nil=>
  simp only [hset,hget];by_cases hc:c=b
  ·subst hc;simp
  ·simp [beq_ne hc,hc]
 |cons x h ih=>
  obtain ⟨d,j⟩:=x;simp only [hset,hget];by_cases hd:Nat.beq d b=true
  ·have:=Nat.eq_of_beq_eq_true hd;subst this;simp only [hd,cond_true,hget];by_cases hc:c=d
   ·subst hc;simp
   ·simp [beq_ne hc,hc]
  ·rw [Bool.not_eq_true] at hd;simp only [hd,cond_false,hget];by_cases hc:Nat.beq d c=true
   ·have:=Nat.eq_of_beq_eq_true hc;subst this;have hdb: ¬d=b:=fun e=>by rw [e] at hd;simp at hd
    simp [hdb]
   ·rw [Bool.not_eq_true] at hc;simp [hc,ih]
theorem hget_hdel (h:Hp) (b:Nat) (c:Nat):hget (hdel h b) c=if c=b then none else hget h c:=by
 induction h with
 |nil=>simp [hdel,hget]
 |cons x h ih=>
  obtain ⟨d,j⟩:=x;simp only [hdel,hget];by_cases hd:Nat.beq d b=true
  ·have:=Nat.eq_of_beq_eq_true hd;subst this;simp only [hd,cond_true,ih];by_cases hc:c=d
   ·simp [hc]
   ·simp [hc,beq_ne hc]
  ·rw [Bool.not_eq_true] at hd;simp only [hd,cond_false,hget];by_cases hc:Nat.beq d c=true
   ·have:=Nat.eq_of_beq_eq_true hc;subst this;have hdb: ¬d=b:=fun e=>by rw [e] at hd;simp at hd
    simp [hdb]
   ·rw [Bool.not_eq_true] at hc;simp [hc,ih]
theorem hget_hmods (h:Hp): ∀(md:List (Nat×Option Blk)) (c:Nat),hget (hmods h md) c=match mget md c with|some r=>r|none=>hget h c
 |[],c=>rfl
 |(b,some k)::r,c=>by
  simp only [hmods,mget,hget_hset];by_cases hc:c=b
  ·subst hc;simp
  ·simp [hc,beq_ne hc,hget_hmods h r c]
 |(b,none)::r,c=>by
  simp only [hmods,mget,hget_hdel];by_cases hc:c=b
  ·subst hc;simp
  ·simp [hc,beq_ne hc,hget_hmods h r c]
theorem appL_app (E:Eff) (h:Hp):hget (E.appL h)=E.app (hget h):=by
 funext c;simp only [Eff.appL,Eff.app,hget_hmods,hget_append];cases mget E.md c<;>rfl
section
variable {P:Program} {D:Nat->Prop} {φ:Phi} {w:World} {n:Nat} {e:Env} {h:Hp} {E:Eff} {cx:Cx}
theorem lift_frame {H:Hf} {φ':Phi} {w':World} {D':Nat->Prop} (hH:HR D φ H w) (hsub: ∀b k,only (hget h) E.rd b=some k->H b=some k)
 (hmd: ∀b r,mget E.md b=some r->inl E.rd b=true)
 (h1:Stp D φ (only (hget h) E.rd) w D' φ' (E.app (only (hget h) E.rd)) w')
 (hro: ∀b k,E.app (only (hget h) E.rd) b=some k->k.ro=true->only (hget h) E.rd b=some k)
 (hex: ∀b,inl E.rd b=true->hget h b=none->mget E.md b=none->hget E.nw b=none->H b=none\/True):
 Stp D φ H w D' φ' (E.app H) w':=by
 refine Stp.frame hH hsub h1 (E.app H) (fun b k hb=> ?_) hro;simp only [Eff.app] at hb ⊢;cases hm:mget E.md b with
 |some r=>rw [hm] at hb;exact .inl hb
 |none=>
  rw [hm] at hb;cases hn:hget E.nw b with
  |some k'=>rw [hn] at hb;exact .inl hb
  |none=>
   rw [hn] at hb;simp only at hb ⊢;cases ho:only (hget h) E.rd b with
   |some k'=>left;rw [hsub b k' ho] at hb;exact hb
   |none=>right;exact ⟨hb,rfl⟩
theorem callFunc_run {f:FuncId} (hfy:f≠YB) (hf:callable P f=true) (he:ext P f=false) (args:Array Value) (w:World):(callFunc f args).run P w= .ok (.enter f args) w:=by
 unfold callable at hf;rw [show Nat.beq f YB=false from beq_ne (fun e=>hfy e.symm),Bool.false_or] at hf
 split at hf
 ·rename_i fn hfn;have hb':fn.body.isNone=false:=by unfold ext at he;rwa [hfn] at he
  have hn':(fn.name== "runtime.NumGoroutine")=false:=by rw [hb'] at hf;simpa using hf
  simp only [callFunc,Sem.run_bind,run_program,Result.andThen_ok,hfn,hn',Bool.false_eq_true,if_false,hb',Sem.run_pure]
 ·cases hf
def noCall:IOp->Bool
 | .call _ _=>false
 | .pan _=>false
 |_=>true
def NC (x:Option IOp):Prop:= ∀y,x=some y->noCall y=true
theorem NC.bind {α:Type} {x:Option α} {f:α->Option IOp} (h: ∀a,NC (f a)):NC (x.bind f):=fun y hy=>by
 simp only [Option.bind_eq_some_iff] at hy;obtain ⟨a,_,hy⟩:=hy;exact h a y hy
theorem NC.map {α:Type} {x:Option α} {f:α->IOp} (h: ∀a,noCall (f a)=true):NC (x.map f):=fun y hy=>by
 obtain ⟨a,_,rfl⟩:=Option.map_eq_some_iff.1 hy;exact h a
theorem NC.none:NC none:=fun y hy=>by cases hy
theorem NC.ite {c:Prop} [Decidable c] {x y:Option IOp} (h1:NC x) (h2:NC y):NC (if c then x else y):=by split<;>assumption
theorem NC.orBad {x:Option IOp} (h:NC x):noCall (orBad x)=true:=by
 cases x with
 |none=>rfl
 |some y=>exact h y rfl
theorem compOp_noCall {o:Op} (ho: ∀f args tys,o≠ .call ⟨.value f,args,tys⟩) (hp: ∀x,o≠ .panic x):noCall (compOp P o)=true:=by
 cases o<;>simp only [compOp]
 case call c=>
  obtain ⟨callee,args,tys⟩:=c;cases callee with
  |value f=>exact absurd rfl (ho f args tys)
  |invoke r m=>rfl
  |builtin b=>
   simp only;repeat' split
   all_goals first
    |rfl
    |(refine NC.orBad ?_;repeat (first|(refine NC.bind (fun _=> ?_))|exact NC.map (fun _=>rfl)|exact NC.none|refine NC.ite ?_ ?_))
 case panic x=>exact absurd rfl (hp x)
 case makeFunc fn first caps=>
  cases fn with
  |func f=>simp only;repeat' split
           all_goals first|rfl|exact NC.orBad (NC.map (fun _=>rfl))
  |_=>rfl
 all_goals (repeat' split)
 all_goals first
  |rfl
  |(refine NC.orBad ?_;repeat (first|(refine NC.bind (fun _=> ?_))|exact NC.map (fun _=>rfl)|exact NC.none|refine NC.ite ?_ ?_))
theorem callsIn_Fw {ro:Option Nat} {f:FuncId} {args:Array Value} {R:Ending->World->Prop} (h:Calls P f args w R):CallsIn (Fw ro) (0-1) P f args w R:=by
 have h1:CallsIn Fence.wide (0-1) P f args w R:=callsIn_wide.2 h;exact h1
def NPn (x:Option (Bool×Eff)):Prop:= ∀c E,x=some (c,E)->E.pn=none
theorem NPn.bind {α:Type} {x:Option α} {f:α->Option (Bool×Eff)} (h: ∀a,NPn (f a)):NPn (x.bind f):=fun c E hy=>by
 simp only [Option.bind_eq_some_iff] at hy;obtain ⟨a,_,hy⟩:=hy;exact h a c E hy
theorem NPn.none:NPn none:=fun c E h=>by cases h
theorem NPn.pe {v:AV} {n:Nat}:NPn (pe v n):=fun c E h=>by simp only [Go.Ab.pe,Option.some.injEq,Prod.mk.injEq] at h;rw [<-h.2]
theorem NPn.some {c:Bool} {v:AV} {n:Nat} {rd:List Nat} {md:List (Nat×Option Blk)} {nw:List (Nat×Blk)}:NPn (some (c,{v,n,rd,md,nw})):=fun c E h=>by simp only [Option.some.injEq,Prod.mk.injEq] at h;rw [<-h.2]
theorem NPn.obind {e:Env} {h:Hp} {o:Option Opd} {k:Option Int->Option (Bool×Eff)} (hk: ∀a,NPn (k a)):NPn (obind e h o k):=by
 cases o with
 |none=>exact hk _
 |some x=>exact NPn.bind fun v=>NPn.bind fun a=>hk _
theorem NPn.ite {c:Prop} [Decidable c] {x y:Option (Bool×Eff)} (h1:NPn x) (h2:NPn y):NPn (if c then x else y):=by split<;>assumption
theorem step_pn (o:IOp):NPn (step o e h n):=by
 cases o<;>simp only [step];all_goals repeat' (first
  |exact NPn.none
  |exact NPn.pe
  |exact NPn.some
  |refine NPn.bind fun _=> ?_
  |refine NPn.obind fun _=> ?_
  |refine NPn.ite ?_ ?_
  |split)
theorem und_rel0 {D:Nat->Prop} {φ:Phi}:VRel D φ (.tup []) undef:=VRel.tup [] #[] rfl (fun i a u ha=>by simp at ha)
theorem Stp.same_app {D:Nat->Prop} {φ:Phi} {H:Hf} {w:World} {n:Nat} {v:AV} {p:Option Value} (hH:HR D φ H w):Stp D φ H w (Dn D n n) φ (Eff.app {v,n,pn:=p} H) w:=by
 have e:(Eff.app {v,n,pn:=p} H)=H:=by funext b;rfl
 have hd: ∀b,D b->Dn D n n b:=fun b h=> .inl h;rw [e];exact Stp.mk' hH rfl rfl hd (Agree.refl D φ).at_ ⟨fun b k hb=>⟨hd b (hH.at_ b k hb).1,(hH.at_ b k hb).2.mono hd (Agree.refl _ _) (hH.at_ b k hb).1 rfl⟩,hH.sep⟩ (FRM.refl _ _ _) fun b k hb hk=> .inr ⟨b,k,hb,hk,rfl⟩
theorem step_dfr {c:Call}:step (compOp P (.defer c)) e h n=none:=by
 simp only [compOp];split
 ·rename_i f hf;cases hq:((cO f).bind fun f=>(cOs c.args.toList).map fun l=>IOp.dfr f l) with
  |none=>rfl
  |some y=>
   simp only [Option.bind_eq_some_iff,Option.map_eq_some_iff] at hq;obtain ⟨_,_,_,_,rfl⟩:=hq;rfl
 ·rfl
theorem op_wp {ro:Option Nat} {o:Oper} {a:Act} {next:Act->World->Prop} {Q:Exit->Act->World->Prop} (hcx:Sound P cx) (hs:stepC cx (compOp P o.op) e h n=some (true,E)) (hn: ∀b,n<=b->b<E.n-> ¬D b)
 (hk:OKs D φ e h a.eval o.op) (hH:HR D φ (only (hget h) E.rd) w)
 (hnext: ∀φ' u w',n<=E.n->VRel (Dn D n E.n) φ' E.v u->Stp D φ (only (hget h) E.rd) w (Dn D n E.n) φ' (E.app (only (hget h) E.rd)) w'→
   (∀b k,E.app (only (hget h) E.rd) b=some k->k.ro=true->only (hget h) E.rd b=some k)->(∀b r,mget E.md b=some r->inl E.rd b=true)->(∀b k,hget E.nw b=some k->n<=b/\b<E.n)→
   match E.pn with|none=>next (a.put o.dst u) w'|some p=>Q (.panic [{v:=p,recovered:=false}]) a w'):
 o.wpIn (Fw ro) 0 P a w next Q:=by
 have hsem:(∀c,o.op≠ .defer c)->o.semAt (Fw ro).round a.eval=execOp a.eval o:=Oper.semAt_eq _ _ _;have ends: ∀{φ':Phi} {u:Value} {w':World} {ex:Ending},ex=endP E.pn u->(match E.pn with|none=>next (a.put o.dst u) w'|some p=>Q (.panic [{v:=p,recovered:=false}]) a w')→
  (match ex,w' with| .returned v,w''=>next (a.put o.dst v) w''| .panicked chain,w''=>Q (.panic chain) a w''| .outgrown,_=>LetsOut Q):=fun {φ' u w' ex} hx hn=>by
  cases hp:E.pn with
  |none=>rw [hp] at hx hn;subst hx;exact hn
  |some p=>rw [hp] at hx hn;subst hx;exact hn
 refine ⟨fun _ _=>trivial,?_⟩;have plain:step (compOp P o.op) e h n=some (true,E)->o.uponIn (Fw ro) 0 P a next Q ((o.semAt (Fw ro).round a.eval).run P w):=fun hs=>by
  rw [hsem (fun c hc=>by rw [hc,step_dfr] at hs;cases hs)]
  have hpn:=step_pn _ _ _ hs;obtain ⟨φ',u,nx,w',hr,hnx,hle,hv,hst,hro,hmd,hnw⟩:=step_sound (P:=P) (ρ:=a.eval) (w:=w) hs rfl (fun hlt=>hn n (Nat.le_refl _) hlt) hk hH;rw [hr];rcases hnx with rfl|⟨rfl,rfl⟩
  ·have:=hnext φ' u w' hle hv hst hro hmd hnw;rw [hpn] at this;exact this
  ·have:=hnext φ' undef w' hle hv hst hro hmd hnw;rw [hpn] at this;exact this
 unfold stepC at hs;split at hs
 ·rename_i f args hcall
  -- a call
  simp only [Option.bind_eq_some_iff] at hs;obtain ⟨v,hv,hs⟩:=hs;split at hs
  ·rename_i g caps;simp only [Option.bind_eq_some_iff] at hs;obtain ⟨l,hl,hs⟩:=hs;have hok:=hcx g (l++caps) h n true E hs rfl
   -- the model's call
   cases hop:o.op with
   |call c=>
    rw [hop] at hcall hk;simp only [compOp] at hcall;obtain ⟨callee,cargs,ctys⟩:=c;cases callee with
    |value fo=>
     simp only at hcall;cases hf:cO fo with
     |none=>simp [hf,orBad] at hcall
     |some f'=>
      cases ha:cOs cargs.toList with
      |none=>simp [hf,ha,orBad] at hcall
      |some l'=>
       simp only [hf,ha,Option.bind_some,Option.map_some,orBad,Option.getD_some,IOp.call.injEq] at hcall;obtain ⟨rfl,rfl⟩:=hcall;simp only [OKs,Op.operands,Call.operands] at hk;have h1:=hk fo (by simp) f' hf _ hv
       obtain ⟨hgy,cs,hcs,hcaps⟩:=h1.fn_inv;have h2:=evs_rel (ρ:=a.eval) ha hl (fun y hy x hx=>hk y (by simp at hy ⊢;exact .inr hy) x hx)
       rw [hsem (fun c hc=>by rw [hop] at hc;cases hc)]
       have hans:=hok.run D φ w (cargs.toList.map a.eval++cs) hn hH (h2.append hcaps);cases hext:ext P g
       ·have hrun:(execOp a.eval o).run P w= .ok (.enter g ((cargs.toList.map a.eval++cs).toArray)) w:=by
         simp only [execOp,hop,resolve,Sem.run_bind,hcs,Deferred.ofValue,Sem.run_pure,Result.andThen_ok,invoke];rw [callFunc_run hgy hok.callable hext];congr 2;apply Array.ext';simp
        rw [hrun];rw [Oper.uponIn_enter];refine ⟨fun hd=>(by cases hd),?_⟩
        refine callsIn_Fw ?_;refine (hans.calls hgy hext).mono fun ex w' hx=> ?_;obtain ⟨u,φ',hex,hv',hst,hro⟩:=hx;exact ends (φ':=φ') hex (hnext φ' u w' hok.le hv' hst hro hok.md hok.nw)
       ·obtain ⟨u,w',hr1,hr2⟩:=hans.ext hgy hext;have hrun:(execOp a.eval o).run P w= .ok (.value u) w':=by
         simp only [execOp,hop,resolve,Sem.run_bind,hcs,Deferred.ofValue,Sem.run_pure,Result.andThen_ok,invoke];rw [<-hr1];congr 2;apply Array.ext';simp
        rw [hrun];obtain ⟨u',φ',hu',hv',hst,hro⟩:=hr2;have:=hnext φ' u' w' hok.le hv' hst hro hok.md hok.nw;cases hp:E.pn with
        |none=>rw [hp] at hu' this;cases hu';exact this
        |some p=>rw [hp] at hu';cases hu'
    |invoke r m=>simp at hcall
    |builtin b=>
     exfalso;have h0:=compOp_noCall (P:=P) (o:= .call ⟨.builtin b,cargs,ctys⟩) (fun _ _ _ h=>by simp at h) (fun _ h=>by simp at h)
     simp only [compOp] at h0;simp only at hcall;rw [hcall] at h0;simp [noCall] at h0
   |panic y=>
    exfalso;rw [hop] at hcall;simp only [compOp] at hcall;cases hy:cO y<;>simp [hy,orBad] at hcall
   |_=>
    exfalso;rw [hop] at hcall;have h0:noCall (compOp P o.op)=true:=compOp_noCall (by rw [hop];simp) (by rw [hop];simp)
    rw [hop,hcall] at h0;simp [noCall] at h0
  ·rename_i g fs;simp only [Option.bind_eq_some_iff] at hs;obtain ⟨l,hl,hs⟩:=hs;have hok:=hcx g (fs++l) h n true E hs rfl
   -- the model's call
   cases hop:o.op with
   |call c=>
    rw [hop] at hcall hk;simp only [compOp] at hcall;obtain ⟨callee,cargs,ctys⟩:=c;cases callee with
    |value fo=>
     simp only at hcall;cases hf:cO fo with
     |none=>simp [hf,orBad] at hcall
     |some f'=>
      cases ha:cOs cargs.toList with
      |none=>simp [hf,ha,orBad] at hcall
      |some l'=>
       simp only [hf,ha,Option.bind_some,Option.map_some,orBad,Option.getD_some,IOp.call.injEq] at hcall;obtain ⟨rfl,rfl⟩:=hcall;simp only [OKs,Op.operands,Call.operands] at hk;have h1:=hk fo (by simp) f' hf _ hv
       obtain ⟨hgy,cs,hcs,hcaps⟩:=h1.bm_inv;have h2:=evs_rel (ρ:=a.eval) ha hl (fun y hy x hx=>hk y (by simp at hy ⊢;exact .inr hy) x hx)
       rw [hsem (fun c hc=>by rw [hop] at hc;cases hc)]
       have hans:=hok.run D φ w (cs++cargs.toList.map a.eval) hn hH (hcaps.append h2);cases hext:ext P g
       ·have hrun:(execOp a.eval o).run P w= .ok (.enter g ((cs++cargs.toList.map a.eval).toArray)) w:=by
         simp only [execOp,hop,resolve,Sem.run_bind,hcs,Deferred.ofValue,Sem.run_pure,Result.andThen_ok,invoke];rw [callFunc_run hgy hok.callable hext];congr 2;apply Array.ext';simp
        rw [hrun];rw [Oper.uponIn_enter];refine ⟨fun hd=>(by cases hd),?_⟩
        refine callsIn_Fw ?_;refine (hans.calls hgy hext).mono fun ex w' hx=> ?_;obtain ⟨u,φ',hex,hv',hst,hro⟩:=hx;exact ends (φ':=φ') hex (hnext φ' u w' hok.le hv' hst hro hok.md hok.nw)
       ·obtain ⟨u,w',hr1,hr2⟩:=hans.ext hgy hext;have hrun:(execOp a.eval o).run P w= .ok (.value u) w':=by
         simp only [execOp,hop,resolve,Sem.run_bind,hcs,Deferred.ofValue,Sem.run_pure,Result.andThen_ok,invoke];rw [<-hr1];congr 2;apply Array.ext';simp
        rw [hrun];obtain ⟨u',φ',hu',hv',hst,hro⟩:=hr2;have:=hnext φ' u' w' hok.le hv' hst hro hok.md hok.nw;cases hp:E.pn with
        |none=>rw [hp] at hu' this;cases hu';exact this
        |some p=>rw [hp] at hu';cases hu'
    |invoke r m=>simp at hcall
    |builtin b=>
     exfalso;have h0:=compOp_noCall (P:=P) (o:= .call ⟨.builtin b,cargs,ctys⟩) (fun _ _ _ h=>by simp at h) (fun _ h=>by simp at h)
     simp only [compOp] at h0;simp only at hcall;rw [hcall] at h0;simp [noCall] at h0
   |panic y=>
    exfalso;rw [hop] at hcall;simp only [compOp] at hcall;cases hy:cO y<;>simp [hy,orBad] at hcall
   |_=>
    exfalso;rw [hop] at hcall;have h0:noCall (compOp P o.op)=true:=compOp_noCall (by rw [hop];simp) (by rw [hop];simp)
    rw [hop,hcall] at h0;simp [noCall] at h0
  ·rename_i L r ts cs0;simp only [Option.bind_eq_some_iff] at hs;obtain ⟨l,hl,hs⟩:=hs;have hok:=hcx YB (.yl L r ts cs0::l) h n true E hs rfl
   -- the model's call
   cases hop:o.op with
   |call c=>
    rw [hop] at hcall hk;simp only [compOp] at hcall;obtain ⟨callee,cargs,ctys⟩:=c;cases callee with
    |value fo=>
     simp only at hcall;cases hf:cO fo with
     |none=>simp [hf,orBad] at hcall
     |some f'=>
      cases ha:cOs cargs.toList with
      |none=>simp [hf,ha,orBad] at hcall
      |some l'=>
       simp only [hf,ha,Option.bind_some,Option.map_some,orBad,Option.getD_some,IOp.call.injEq] at hcall;obtain ⟨rfl,rfl⟩:=hcall;simp only [OKs,Op.operands,Call.operands] at hk;have h1:=hk fo (by simp) f' hf _ hv
       have h2:=evs_rel (ρ:=a.eval) ha hl (fun y hy x hx=>hk y (by simp at hy ⊢;exact .inr hy) x hx)
       rw [hsem (fun c hc=>by rw [hop] at hc;cases hc)]
       generalize hcs:a.eval fo=u0 at h1;have hans:=hok.run D φ w (u0::cargs.toList.map a.eval) hn hH (.cons h1 h2);cases h1;unfold Ans at hans;rw [if_pos rfl] at hans;obtain ⟨L',vs,hus,hy⟩:=hans;have hus':=congrArg Array.toList hus;simp only [Array.toList_append,List.cons_append,List.nil_append,List.cons.injEq,Value.func.injEq,Fn.yield.injEq,true_and,and_true] at hus';obtain ⟨rfl,hvs⟩:=hus';obtain ⟨fn,tmps,as,bd,g1,g2⟩:=hy;have hrun:(execOp a.eval o).run P w= .ok (.round L fn tmps as bd) w:=by
        simp only [execOp,hop,resolve,Sem.run_bind,hcs,Deferred.ofValue,Sem.run_pure,Result.andThen_ok,invoke];rw [<-g1];congr 2;apply Array.ext';simp [hvs]
       rw [hrun];rw [Oper.uponIn_round];refine ⟨fun hd=>(by cases hd),?_⟩
       have g3:RoundIn (Fw ro) (0-1) P L fn tmps as bd w _:=g2;refine g3.mono fun ex w' hx=> ?_;obtain ⟨u,φ',hex,hv',hst,hro⟩:=hx;exact ends (φ':=φ') hex (hnext φ' u w' hok.le hv' hst hro hok.md hok.nw)
    |invoke r m=>simp at hcall
    |builtin b=>
     exfalso;have h0:=compOp_noCall (P:=P) (o:= .call ⟨.builtin b,cargs,ctys⟩) (fun _ _ _ h=>by simp at h) (fun _ h=>by simp at h)
     simp only [compOp] at h0;simp only at hcall;rw [hcall] at h0;simp [noCall] at h0
   |panic y=>
    exfalso;rw [hop] at hcall;simp only [compOp] at hcall;cases hy:cO y<;>simp [hy,orBad] at hcall
   |_=>
    exfalso;rw [hop] at hcall;have h0:noCall (compOp P o.op)=true:=compOp_noCall (by rw [hop];simp) (by rw [hop];simp)
    rw [hop,hcall] at h0;simp [noCall] at h0
  ·cases hs
 ·rename_i x hpan;simp only [Option.bind_eq_some_iff] at hs;obtain ⟨v,hv,hs⟩:=hs;split at hs
  ·rename_i t u;simp only [Option.some.injEq,Prod.mk.injEq,true_and] at hs;subst hs;cases hop:o.op with
   |panic y=>
    rw [hop] at hpan hk;simp only [compOp] at hpan;cases hy:cO y with
    |none=>simp [hy,orBad] at hpan
    |some x'=>
     simp only [hy,Option.map_some,orBad,Option.getD_some,IOp.pan.injEq] at hpan;subst hpan;have h1:=hk y (by simp [Op.operands]) x' hy _ hv
     generalize hu:a.eval y=u0 at h1;cases h1;rw [hsem (fun c hc=>by rw [hop] at hc;cases hc)]
     have hrun:(execOp a.eval o).run P w= .halt (.panic (.iface t u)) w:=by
      simp only [execOp,hop,hu,Instr.panic,goPanic];rfl
     rw [hrun,Oper.uponIn_panic];exact hnext φ undef w (Nat.le_refl _) und_rel0 (Stp.same_app hH) (fun b k hb _=>hb) (fun b r hb=>by simp [mget] at hb) (fun b k hb=>by simp [hget] at hb)
   |call c=>
    exfalso;obtain ⟨callee,cargs,ctys⟩:=c;rw [hop] at hpan;cases callee with
    |value f=>
     simp only [compOp] at hpan;cases hf:cO f with
     |none=>simp [hf,orBad] at hpan
     |some f'=>cases hl:cOs cargs.toList<;>simp [hf,hl,orBad] at hpan
    |invoke r m=>simp [compOp] at hpan
    |builtin b=>
     have h0:=compOp_noCall (P:=P) (o:= .call ⟨.builtin b,cargs,ctys⟩) (fun _ _ _ h=>by simp at h) (fun _ h=>by simp at h)
     rw [hpan] at h0;simp [noCall] at h0
   |_=>
    exfalso;rw [hop] at hpan;have h0:noCall (compOp P o.op)=true:=compOp_noCall (by rw [hop];simp) (by rw [hop];simp)
    rw [hop,hpan] at h0;simp [noCall] at h0
  ·cases hs
 ·exact plain hs
end
end Go.Ab
namespace Go.Ab
inductive ICode where
 |skip
 |reg (ops:List IOper)
 |dreg (ops:List (IOper×List Nat))
 |seq (a b:ICode)
 |cond (c:Opd) (a b:ICode)
 |block (id:Nat) (c:ICode)
 |loop (c:ICode)
 |scope (c:ICode)
 |rfunc (g:Opd) (ps:List Nat) (a b:ICode)
 |exit (id:Nat)
 |ret
 |bad
def compOper (P:Program) (ops:List Oper) (sp:List Nat) (o:Oper):IOper:=
 match o.guard with
 |none=>{dst:=o.dst,op:=compOp P o.op,guard:=none,spl:=match o.dst with|some d=>inl sp d|none=>false}
 |some (j,b)=>match (ops[j]?).bind (·.dst) with
  |some d=>{dst:=o.dst,op:=compOp P o.op,guard:=some (d,b),spl:=match o.dst with|some d=>inl sp d|none=>false}
  |none=>{dst:=o.dst,op:= .bad,guard:=none,spl:=false}
def guardTmps (ops:List Oper):List Nat:=ops.filterMap fun o=>match o.guard with
 |some (j,_)=>(ops[j]?).bind (·.dst)
 |none=>none
def eput (d:Option Nat) (v:AV) (e:Env):Env:=
 match d with
 |some t=>(t,v)::e
 |none=>e
def spB (c:Bool) (a b:Prop):Prop:=(c=true->a)/\(c=false->b)
def fin1 (s:Bool) (v:AV) (k:AV->Prop):Prop:=
 match s,v with
 |true,.b c=>spB c (k (.b true)) (k (.b false))
 |_,v=>k v
theorem fin1_elim {s:Bool} {v:AV} {k:AV->Prop} (h:fin1 s v k):k v:=by
 unfold fin1 at h;split at h
 ·rename_i c;cases c
  ·exact h.2 rfl
  ·exact h.1 rfl
 ·exact h
def wantedI (e:Env):Option (Nat×Bool)->Option Bool
 |none=>some true
 |some (t,b)=>match eget e t with
  |some (.b c)=>some (c==b)
  |some (.tup [])=>some false
  |_=>none
def gd {α:Type} (x:Option α) (k:α->Prop):Prop:=
 match x with
 |some a=>k a
 |none=>False
theorem gd_elim {α:Type} {x:Option α} {k:α->Prop} (h:gd x k): ∃a,x=some a/\k a:=by
 cases x with
 |none=>exact h.elim
 |some a=>exact ⟨a,rfl,h⟩
abbrev Kont:=Exit->Env->Hp->Nat->Prop
def pnK (p:Option Value) (K:Kont) (e:Env) (h:Hp) (n:Nat) (k:Prop):Prop:=
 match p with
 |none=>k
 |some u=>K (.panic [{v:=u,recovered:=false}]) e h n
def runOps (cx:Cx):List IOper->Env->Hp->Nat->Kont->Prop
 |[],e,h,n,K=>K .normal e h n
 |o::os,e,h,n,K=>gd (wantedI e o.guard) fun b=>match b with
  |true=>gd (stepC cx o.op e h n) fun r=>r.1=true/\pnK r.2.pn K e (r.2.appL h) r.2.n (fin1 o.spl r.2.v fun v=>runOps cx os (eput o.dst v e) (r.2.appL h) r.2.n K)
  |false=>runOps cx os (eput o.dst (.tup []) e) h n K
def Mk (m:Nat×List Deferred) (l:List Deferred) (w:World):Prop:=
 ∃ds:List Nat,l=ds.map (fun D=>{target:= .collected D,args:= #[]})++m.2/\ds.Nodup/\ ∀D∈ds,m.1<=D/\w.heap[D]? =some (.deferred (some []))
theorem Mk.nil {m:Nat} {B:List Deferred} {w:World}:Mk (m,B) B w:=⟨[],rfl,List.nodup_nil,fun D h=>by cases h⟩
theorem HR.stays {D:Nat->Prop} {φ:Phi} {H:Hf} {w w':World} (hH:HR D φ H w) (frm:FRM H φ w w') {c:Nat} {o:Obj} (hc:w.heap[c]? =some o) (ho: ∀(cs:Array Value) (elem:TypeId) (fr:Nat×Nat),o≠ .cells cs elem fr) (hom: ∀(es:Array MapEntry) (clk:Nat),o≠ .map es clk):w'.heap[c]? =some o:=by
 have hlt:c<w.heap.size:=by
  rcases Nat.lt_or_ge c w.heap.size with h'|h'
  ·exact h'
  ·rw [Array.getElem?_eq_none h'] at hc;cases hc
 rw [frm.block c hlt (fun b k hb hk he=> ?_)]
 ·exact hc
 ·obtain ⟨⟨cs,elem,fr,h2,_⟩,_⟩:=(hH.at_ b k hb).2;rw [he,hc] at h2;unfold ObAs at h2;split at h2
  ·cases h2;exact ho _ _ _ rfl
  ·obtain ⟨es,clk,h2,_⟩:=h2;cases h2;exact hom _ _ rfl
theorem Mk.stays {m:Nat×List Deferred} {l:List Deferred} {D:Nat->Prop} {φ:Phi} {H:Hf} {w w':World} (h:Mk m l w) (hH:HR D φ H w) (frm:FRM H φ w w'):Mk m l w':=
 let ⟨ds,h1,h2,h3⟩:=h;⟨ds,h1,h2,fun D hD=>⟨(h3 D hD).1,hH.stays frm (h3 D hD).2 (fun _ _ _ e=>by cases e) (fun _ _ e=>by cases e)⟩⟩
structure Rel (D:Nat->Prop) (φ:Phi) (e:Env) (h:Hp) (n N:Nat) (m:Nat×List Deferred) (a:Act) (w:World):Prop where
 lt: ∀b,D b->b<n
 env: ∀t v,eget e t=some v->VRel D φ v (a.tmps.getD t undef)
 heap:HR D φ (hget h) w
 size:a.tmps.size=N
 defers:Mk m a.defers w
def PostK (N n0:Nat) (B:List Deferred) (D0:Nat->Prop) (φ0:Phi) (H0:Hf) (w0:World) (K:Kont) (ex:Exit) (a:Act) (w:World):Prop:=
 ∃D φ e h n,K ex e h n/\n0<=n/\Rel D φ e h n N (w0.heap.size,B) a w/\Stp D0 φ0 H0 w0 D φ (hget h) w
def noRF:Code->Bool
 | .seq a b=>noRF a&&noRF b
 | .cond _ a b=>noRF a&&noRF b
 | .block _ c=>noRF c
 | .loop c=>noRF c
 | .scope c=>noRF c
 | .rangeFunc _ _ _ _=>false
 |_=>true
def WP (P:Program) (N n0:Nat) (c:Code) (K:Kont) (e:Env) (h:Hp) (n:Nat):Prop:=
 ∀ro,(ro=none\/noRF c=true)-> ∀B D0 φ0 H0 w0,(∀b,D0 b->b<n0)->n0<=n-> ∀D φ a w,Rel D φ e h n N (w0.heap.size,B) a w->Stp D0 φ0 H0 w0 D φ (hget h) w→
  c.wpIn (Fw ro) 0 P (fun ex a' w'=>PostK N n0 B D0 φ0 H0 w0 K ex a' w') a w
section
variable {P:Program} {D:Nat->Prop} {φ:Phi} {w:World} {n N n0:Nat} {e:Env} {h:Hp} {E:Eff} {cx:Cx} {a:Act}
theorem hglobC_spec {h:Hp} {g:Nat} {v:AV} (hv:hglobC h g=some v): ∃c k,v= .p c 0/\hget h c=some k/\k.gid=some g:=by
 unfold hglobC at hv;simp only [Option.bind_eq_some_iff] at hv;obtain ⟨u,_,hv⟩:=hv;cases u with
 |p c o=>
  simp only [Option.bind_eq_some_iff] at hv;obtain ⟨k,hk,hv⟩:=hv;cases hg:k.gid with
  |none=>rw [hg] at hv;cases hv
  |some g'=>
   rw [hg] at hv;simp only at hv;cases hb:Nat.beq g' g
   ·rw [hb] at hv;simp at hv
   ·rw [hb] at hv;simp only [cond_true,Option.some.injEq] at hv;have:=Nat.eq_of_beq_eq_true hb;subst this;exact ⟨c,k,hv.symm,hk,hg⟩
 |_=>cases hv
theorem opd_relG {D:Nat->Prop} {φ:Phi} {e:Env} {h:Hp} {a:Act} {w:World} {y:Operand} {x:Opd} {v:AV} (hR: ∀t v,y= .tmp t->eget e t=some v->VRel D φ v (a.tmps.getD t undef)) (hc:cO y=some x) (hH:HR D φ (hget h) w) (hv:x.ev e h=some v):VRel D φ v (a.eval y):=by
 cases y with
 |tmp t=>
  simp only [cO,Option.some.injEq] at hc;subst hc;exact hR t v rfl hv
 |const u=>
  simp only [cO] at hc;obtain ⟨q,hq,rfl⟩:=Option.map_eq_some_iff.1 hc;simp only [Opd.ev,Option.some.injEq] at hv;subst hv;exact avOf_rel hq
 |global g=>
  simp only [cO,Option.some.injEq] at hc;subst hc;obtain ⟨c,k,rfl,hk,hg⟩:=hglobC_spec hv;obtain ⟨hd,hb⟩:=hH.at_ c k hk;obtain ⟨h1,h2⟩:=hb.gid g hg;have:=VRel.p (D:=D) (φ:=φ) c 0 hd;rw [h1,h2] at this;exact this
 |func f=>
  simp only [cO] at hc;split at hc
  ·cases hc
  ·rename_i hf;simp only [Option.some.injEq] at hc;subst hc;simp only [Opd.ev,Option.some.injEq] at hv;subst hv;exact VRel.fn' (fun e=>hf (by rw [e];simp)) .nil
theorem opd_rel {y:Operand} {x:Opd} {v:AV} (hR: ∀t v,y= .tmp t->eget e t=some v->VRel D φ v (a.tmps.getD t undef)) (hc:cO y=some x) (hg: ∀g,y≠ .global g) (hv:x.ev e h=some v):VRel D φ v (a.eval y):=by
 cases y with
 |tmp t=>
  simp only [cO,Option.some.injEq] at hc;subst hc;exact hR t v rfl hv
 |const u=>
  simp only [cO] at hc;obtain ⟨q,hq,rfl⟩:=Option.map_eq_some_iff.1 hc;simp only [Opd.ev,Option.some.injEq] at hv;subst hv;exact avOf_rel hq
 |global g=>exact absurd rfl (hg g)
 |func f=>
  simp only [cO] at hc;split at hc
  ·cases hc
  ·rename_i hf;simp only [Option.some.injEq] at hc;subst hc;simp only [Opd.ev,Option.some.injEq] at hv;subst hv;exact VRel.fn' (fun e=>hf (by rw [e];simp)) .nil
theorem eget_eput {d:Option Nat} {v:AV} {t:Nat} {u:AV} (h:eget (eput d v e) t=some u):(d=some t/\u=v)\/(d≠some t/\eget e t=some u):=by
 cases d with
 |none=>exact .inr ⟨by simp,h⟩
 |some s=>
  simp only [eput,eget] at h;by_cases hs:t=s
  ·subst hs;simp at h;exact .inl ⟨rfl,h.symm⟩
  ·rw [beq_ne hs] at h;exact .inr ⟨by simp;exact fun e=>hs e.symm,h⟩
theorem put_getD {a:Act} {d:Option Nat} {u:Value} {t:Nat} (hd:d≠some t):(a.put d u).tmps.getD t undef=a.tmps.getD t undef:=by
 cases d with
 |none=>rfl
 |some s=>
  have:s≠t:=fun e=>hd (by rw [e])
  simp [Act.put,Array.getD_eq_getD_getElem?,Array.getElem?_setIfInBounds_ne this]
theorem put_getD_self {a:Act} {t:Nat} {u:Value} (ht:t<a.tmps.size):(a.put (some t) u).tmps.getD t undef=u:=by
 simp [Act.put,ht]
theorem put_size {a:Act} {d:Option Nat} {u:Value}:(a.put d u).tmps.size=a.tmps.size:=by
 cases d<;>simp [Act.put]
theorem put_defers {a:Act} {d:Option Nat} {u:Value}:(a.put d u).defers=a.defers:=by
 cases d<;>rfl
theorem und_rel:VRel D φ (.tup []) undef:=VRel.tup [] #[] rfl (fun i a u ha=>by simp at ha)
theorem Rel.put {d:Option Nat} {v:AV} {u:Value} {D':Nat->Prop} {φ':Phi} {h':Hp} {n':Nat} {w':World} {m:Nat×List Deferred} (hR:Rel D φ e h n N m a w) (hmk:Mk m a.defers w') (hd: ∀t,d=some t->t<N) (hsub: ∀b,D b->D' b) (hag:Agree D φ φ')
 (hlt: ∀b,D' b->b<n') (hv:VRel D' φ' v u) (hh:HR D' φ' (hget h') w'):Rel D' φ' (eput d v e) h' n' N m (a.put d u) w':=by
 refine ⟨hlt,fun t x hx=> ?_,hh,by rw [put_size];exact hR.size,by rw [put_defers];exact hmk⟩
 rcases eget_eput hx with ⟨rfl,rfl⟩|⟨hne,hx⟩
 ·rw [put_getD_self (by rw [hR.size];exact hd t rfl)];exact hv
 ·rw [put_getD hne];exact (hR.env t x hx).mono hsub hag
theorem wanted_rel {ops:Array Oper} {o:Oper} {io:IOper} {b:Bool} (hR: ∀d c v,io.guard=some (d,c)->eget e d=some v->VRel D φ v (a.tmps.getD d undef)) (hio:io.guard=(compOper P ops.toList [] o).guard) (hg: ∀j c,o.guard=some (j,c)->((ops.toList[j]?).bind (·.dst)).isSome=true)
 (hw:wantedI e io.guard=some b):Region.wanted o (yielded ops a.tmps)=b:=by
 have hR':=hR;rw [hio] at hw hR';cases hog:o.guard with
 |none=>simp [compOper,hog,wantedI] at hw;subst hw;simp [Region.wanted,hog]
 |some q=>
  obtain ⟨j,c⟩:=q;obtain ⟨d,hd⟩:=Option.isSome_iff_exists.1 (hg j c hog);simp only [compOper,hog,hd,wantedI] at hw;have hR':=fun v=>hR' d c v (by simp only [compOper,hog,hd])
  simp only [Region.wanted,hog,yielded];have hd':(ops[j]?).bind (·.dst)=some d:=by rw [<-hd];simp
  rw [hd'];split at hw
  ·rename_i x hx;cases hw;have:=hR' _ hx;generalize hu:a.tmps.getD d undef=u at this;cases this;have hlt:d<a.tmps.size:=by
    rcases Nat.lt_or_ge d a.tmps.size with h'|h'
    ·exact h'
    ·simp [Array.getD_eq_getD_getElem?,Array.getElem?_eq_none h',undef] at hu
   have hg':a.tmps[d]? =some (.bool x):=by
    rw [Array.getElem?_eq_getElem hlt];simp [Array.getD,hlt] at hu;rw [hu]
   simp [hg']
  ·rename_i hx;cases hw;have:=hR' _ hx;obtain ⟨m,hm,hl⟩:=this.tup_inv;have:=hl.unnil;subst this;cases hg':a.tmps[d]? with
   |none=>simp only [Option.bind_some,hg'];cases c<;>rfl
   |some u=>
    have:u= .tuple #[]:=by
     simp [Array.getD_eq_getD_getElem?,hg'] at hm;exact hm
    subst this;simp only [Option.bind_some,hg'];cases c<;>rfl
  ·cases hw
def dstOK (N:Nat) (ops:List Oper):Bool:=ops.all fun o=>match o.dst with|some d=>decide (d<N)|none=>true
def guardOK (ops:List Oper):Bool:=ops.all fun o=>match o.guard with
 |some (j,_)=>((ops[j]?).bind (·.dst)).isSome
 |none=>true
def globOK (ops:List Oper):Bool:=ops.all fun o=>o.op.operands.all fun y=>match y with| .global _=>false|_=>true
theorem runOps_sound {ro:Option Nat} {B:List Deferred} (hcx:Sound P cx) {K:Kont} {D0:Nat->Prop} {φ0:Phi} {H0:Hf} {w0:World} {ops:Array Oper} {sp:List Nat} (hn0: ∀b,D0 b->b<n0) (hgu:guardOK ops.toList=true):
 ∀(l:List Oper),(∀o∈l,o∈ops.toList)->dstOK N l=true-> ∀(e:Env) (h:Hp) (n:Nat) (D:Nat->Prop) (φ:Phi) (a:Act) (w:World),n0<=n→
  runOps cx (l.map (compOper P ops.toList sp)) e h n K->Rel D φ e h n N (w0.heap.size,B) a w->Stp D0 φ0 H0 w0 D φ (hget h) w→
  wpListIn (Fw ro) 0 P ops (fun ex a' w'=>PostK N n0 B D0 φ0 H0 w0 K ex a' w') l a w
 |[],_,_,e,h,n,D,φ,a,w,hn,hrun,hR,hS=>⟨D,φ,e,h,n,hrun,hn,hR,hS⟩
 |o::l,hmem,hdst,e,h,n,D,φ,a,w,hn,hrun,hR,hS=>by
  simp only [List.map_cons,runOps] at hrun;obtain ⟨b,hb,hrun⟩:=gd_elim hrun;simp only [dstOK,List.all_cons,Bool.and_eq_true] at hdst;have hog: ∀j c,o.guard=some (j,c)->((ops.toList[j]?).bind (·.dst)).isSome=true:=fun j c hg=>by
   have:=List.all_eq_true.1 hgu o (hmem o (List.mem_cons_self));simpa [hg] using this
  have hgeq:(compOper P ops.toList sp o).guard=(compOper P ops.toList [] o).guard:=by
   unfold compOper;split
   ·rfl
   ·split<;>rfl
  have hdeq:(compOper P ops.toList sp o).dst=o.dst:=by
   unfold compOper;split
   ·rfl
   ·split<;>rfl
  have hopeq:(compOper P ops.toList sp o).op=compOp P o.op:=by
   unfold compOper;split
   ·rfl
   ·rename_i j c hg;obtain ⟨d,hd⟩:=Option.isSome_iff_exists.1 (hog j c hg);rw [hd]
  have hdN: ∀t,o.dst=some t->t<N:=fun t ht=>by
   have:=hdst.1;rw [ht] at this;exact of_decide_eq_true this
  have hw:=wanted_rel (P:=P) (o:=o) (D:=D) (φ:=φ) (a:=a) (fun d c v _ hv=>hR.env d v hv) hgeq hog hb;have ih:=fun e h n D φ a w=>runOps_sound (ro:=ro) (B:=B) hcx (K:=K) (sp:=sp) (D0:=D0) (φ0:=φ0) (H0:=H0) (w0:=w0) hn0 hgu l (fun o ho=>hmem o (List.mem_cons_of_mem _ ho)) hdst.2 e h n D φ a w;unfold wpListIn;rw [hw];cases b
  ·simp only [Bool.false_eq_true,if_false];simp only at hrun;rw [hdeq] at hrun;exact ⟨fun _ _=>trivial,ih _ h n D φ _ w hn hrun (hR.put hR.defers hdN (fun _ h=>h) (Agree.refl _ _) hR.lt und_rel hR.heap) hS⟩
  ·simp only [if_true];simp only at hrun;obtain ⟨r,hr,hrun⟩:=gd_elim hrun;obtain ⟨c,E⟩:=r;obtain ⟨hc,hrun⟩:=hrun;simp only at hc hrun;subst hc;rw [hopeq] at hr;rw [hdeq] at hrun;have hfresh: ∀b,n<=b->b<E.n-> ¬D b:=fun b hb _ hD=>by have:=hR.lt b hD;omega
   have hH0:HR D φ (only (hget h) E.rd) w:=hR.heap.sub (fun b k hb=>by
    unfold only at hb;cases hi:inl E.rd b<;>simp [hi] at hb;exact hb)
   refine op_wp hcx hr hfresh (fun y hy x hx v hv=>opd_relG (fun t v _ hv=>hR.env t v hv) hx hR.heap hv) hH0 (fun φ' u w' hle hv hst hro hmd hnw=> ?_)
   ·have hfull:=lift_frame hR.heap (fun b k hb=>by unfold only at hb;cases hi:inl E.rd b<;>simp [hi] at hb;exact hb) hmd hst hro (fun _ _ _ _ _=> .inr trivial)
    rw [<-appL_app] at hfull;have hlt: ∀b,Dn D n E.n b->b<E.n:=fun b hb=>hb.elim (fun h=>by have:=hR.lt b h;omega) (fun h=>h.2)
    unfold pnK at hrun;cases hp:E.pn with
    |none=>
     rw [hp] at hrun;exact ih _ _ _ _ φ' _ w' (by omega) (fin1_elim hrun) (hR.put (hR.defers.stays hR.heap hfull.frm) hdN hfull.sub hfull.agree hlt hv hfull.hr) (hS.trans hfull)
    |some p=>
     rw [hp] at hrun;exact ⟨_,φ',e,_,_,hrun,by omega,⟨hlt,fun t v hv=>(hR.env t v hv).mono hfull.sub hfull.agree,hfull.hr,hR.size,hR.defers.stays hR.heap hfull.frm⟩,hS.trans hfull⟩
end
end Go.Ab
namespace Go.Ab
def djM:List (Nat×Option Blk)->List Nat->Bool
 |[],_=>true
 |(b,_)::r,rd=> !(inl rd b)&&djM r rd
def djN:List (Nat×Blk)->List Nat->Bool
 |[],_=>true
 |(b,_)::r,rd=> !(inl rd b)&&djN r rd
def okPair (E Ej:Eff):Bool:=djM Ej.md E.rd&&djM E.md Ej.rd&&djN Ej.nw E.rd
def okAll (un:List Nat) (E:Eff):List (Nat×Eff)->Bool
 |[]=>true
 |(j,Ej)::r=>(!(inl un j)||okPair E Ej)&&okAll un E r
def subM:List (Nat×Option Blk)->List Nat->Bool
 |[],_=>true
 |(b,_)::r,rd=>inl rd b&&subM r rd
def rngN (n m:Nat):List (Nat×Blk)->Bool
 |[]=>true
 |(b,_)::r=>decide (n<=b)&&decide (b<m)&&rngN n m r
def hasM (h:Hp):List (Nat×Option Blk)->Bool
 |[]=>true
 |(b,_)::r=>(hget h b).isSome&&hasM h r
def effOK (h:Hp) (n:Nat) (E:Eff):Bool:=decide (n<=E.n)&&subM E.md E.rd&&rngN n E.n E.nw&&hasM h E.md
def pushD (i:Nat) (E:Eff) (done:List (Nat×Eff)):List (Nat×Eff):=
 match E.rd,E.md,E.nw with
 |[],[],[]=>done
 |_,_,_=>(i,E)::done
def pnD (p:Option Value) (un:List Nat) (os:List (IOper×List Nat)) (K:Kont) (e:Env) (h:Hp) (n:Nat) (k:Prop):Prop:=
 match p with
 |none=>k
 |some u=>(un=[]/\os=[])/\K (.panic [{v:=u,recovered:=false}]) e h n
def runD (cx:Cx):List (IOper×List Nat)->Nat->List (Nat×Eff)->Env->Hp->Nat->Kont->Prop
 |[],_,_,e,h,n,K=>K .normal e h n
 |(o,un)::os,i,done,e,h,n,K=>gd (wantedI e o.guard) fun b=>match b with
  |true=>gd (stepC cx o.op e h n) fun r=>(r.1&&effOK h n r.2&&okAll un r.2 done)=true/\pnD r.2.pn un os K e (r.2.appL h) r.2.n (fin1 o.spl r.2.v fun v=>runD cx os (i+1) (pushD i r.2 done) (eput o.dst v e) (r.2.appL h) r.2.n K)
  |false=>runD cx os (i+1) done (eput o.dst (.tup []) e) h n K
def uns (ops:Array Oper):List (List Nat):=
 (List.range ops.size).map fun i=>(List.range i).filter fun j=> !((Region.before ops).getD i 0).testBit j
def looksOf (ops:List Oper) (o:Oper):List Nat:=
 (o.op.operands.toList.filterMap fun y=>match y with| .tmp t=>some t|_=>none)++
 (match o.guard with
  |some (j,_)=>((ops[j]?).bind (·.dst)).toList
  |none=>[])
def tmpsOK (ops:Array Oper):Bool:=
 (List.range ops.size).all fun i=>(List.range ops.size).all fun j=>
  match ops[i]?,ops[j]? with
  |some oi,some oj=>match oj.dst with
   |some t=>(i==j||oi.dst !=some t)&&(!((looksOf ops.toList oi).contains t)||(decide (j<i)&&((Region.before ops).getD i 0).testBit j)||(decide (i<j)&&((Region.before ops).getD j 0).testBit i))
   |none=>true
  |_,_=>true
def edgesOK (ops:Array Oper):Bool:=
 (List.range ops.size).all fun i=>match ops[i]? with
  |some o=>o.after.all fun e=> !Region.binds .any e||decide (e.on<i)
  |none=>true
def drawOK (ops:Array Oper):Bool:=tmpsOK ops&&edgesOK ops
/-! ### the run as a row of states -/
abbrev St:=Env×Hp×Nat
def StepOK (cx:Cx) (io:IOper) (un:List Nat) (s s':St) (t:Option Eff) (before:Nat->Eff->Prop):Prop:=
 (t=none/\wantedI s.1 io.guard=some false/\s'=(eput io.dst (.tup []) s.1,s.2.1,s.2.2))∨
 ∃E,t=some E/\wantedI s.1 io.guard=some true/\stepC cx io.op s.1 s.2.1 s.2.2=some (true,E)/\effOK s.2.1 s.2.2 E=true/\s'=(eput io.dst E.v s.1,E.appL s.2.1,E.n)∧
  ∀j Ej,before j Ej->inl un j=true->okPair E Ej=true
theorem okAll_spec {un:List Nat} {E:Eff}: ∀{done:List (Nat×Eff)},okAll un E done=true-> ∀j Ej,(j,Ej)∈done->inl un j=true->okPair E Ej=true
 |[],_,j,Ej,hm,_=>by cases hm
 |(i,Ei)::r,h,j,Ej,hm,hu=>by
  simp only [okAll,Bool.and_eq_true,Bool.or_eq_true,Bool.not_eq_true'] at h;rcases List.mem_cons.1 hm with heq|hm
  ·cases heq;rcases h.1 with h1|h1
   ·rw [hu] at h1;cases h1
   ·exact h1
  ·exact okAll_spec h.2 j Ej hm hu
theorem djM_nil: ∀(l:List (Nat×Option Blk)),djM l []=true
 |[]=>rfl
 |(b,_)::r=>by simp [djM,inl,djM_nil r]
theorem pushD_spec {i j:Nat} {E Ej:Eff} {done:List (Nat×Eff)} (h:(j=i/\Ej=E)\/(j,Ej)∈done):(j,Ej)∈pushD i E done\/ ∀E',okPair E' Ej=true:=by
 unfold pushD;split
 ·rename_i h1 h2 h3;rcases h with ⟨rfl,rfl⟩|h
  ·right;intro E';simp [okPair,h1,h2,h3,djM,djN,djM_nil]
  ·exact .inl h
 ·rcases h with ⟨rfl,rfl⟩|h
  ·exact .inl (List.mem_cons_self)
  ·exact .inl (List.mem_cons_of_mem _ h)
def FinD (K:Kont) (S:Nat->St) (T:Nat->Option Eff) (l:List (IOper×List Nat)):Prop:=
 ((∀i E,i<l.length->T i=some E->E.pn=none)/\K .normal (S l.length).1 (S l.length).2.1 (S l.length).2.2)∨
 ∃i E io,l[i]? =some (io,[])/\i+1=l.length/\T i=some E/\(∀j,j<i-> ∀E,T j=some E->E.pn=none)/\ ∃u,E.pn=some u/\K (.panic [{v:=u,recovered:=false}]) (S i).1 (E.appL (S i).2.1) E.n
theorem FinD.shift {K:Kont} {S S':Nat->St} {T T':Nat->Option Eff} {l:List (IOper×List Nat)} {x:IOper×List Nat} (h:FinD K S T l) (hS:(fun i=>S' (i+1))=S) (hT:(fun i=>T' (i+1))=T) (hz:True=True) (h0: ∀E,T' 0=some E->E.pn=none):FinD K S' T' (x::l):=by
 subst hS;subst hT;rcases h with ⟨h1,h2⟩|⟨i,E,io,h1,h2,h3,h4,h5⟩
 ·refine .inl ⟨fun i E hi hE=> ?_,h2⟩;cases i with
  |zero=>exact h0 E hE
  |succ i=>exact h1 i E (by simpa using hi) hE
 ·refine .inr ⟨i+1,E,io,by simpa using h1,by simp [h2],h3,fun j hj E' hE'=> ?_,h5⟩
  cases j with
  |zero=>exact h0 E' hE'
  |succ j=>exact h4 j (by omega) E' hE'
theorem runD_trace {cx:Cx}: ∀(l:List (IOper×List Nat)) (k:Nat) (done:List (Nat×Eff)) (e:Env) (h:Hp) (n:Nat) (K:Kont) (B:Nat->Eff->Prop),
 (∀j Ej,B j Ej->(j,Ej)∈done\/ ∀E',okPair E' Ej=true)->runD cx l k done e h n K→
 ∃(S:Nat->St) (T:Nat->Option Eff),S 0=(e,h,n)/\FinD K S T l∧
  ∀i io un,l[i]? =some (io,un)->StepOK cx io un (S i) (S (i+1)) (T i) (fun j Ej=>B j Ej\/ ∃m,m<i/\j=k+m/\T m=some Ej)
 |[],k,done,e,h,n,K,B,hB,hr=>⟨fun _=>(e,h,n),fun _=>none,rfl,.inl ⟨fun i E hi _=>by simp at hi,hr⟩,fun i io un hi=>by simp at hi⟩
 |(o,un)::os,k,done,e,h,n,K,B,hB,hr=>by
  simp only [runD] at hr;obtain ⟨b,hb,hr⟩:=gd_elim hr;cases b
  ·simp only at hr;obtain ⟨S,T,h0,hK,hst⟩:=runD_trace os (k+1) done _ h n K B hB hr;refine ⟨fun i=>match i with|0=>(e,h,n)|i+1=>S i,fun i=>match i with|0=>none|i+1=>T i,rfl,hK.shift rfl rfl rfl (fun E h=>by cases h),fun i io un' hi=> ?_⟩
   cases i with
   |zero=>
    simp at hi;obtain ⟨rfl,rfl⟩:=hi;exact .inl ⟨rfl,hb,h0⟩
   |succ i=>
    have:=hst i io un' (by simpa using hi)
    rcases this with ⟨h1,h2,h3⟩|⟨E,h1,h2,h3,h4,h5,h6⟩
    ·exact .inl ⟨h1,h2,h3⟩
    ·refine .inr ⟨E,h1,h2,h3,h4,h5,fun j Ej hj hu=>h6 j Ej ?_ hu⟩;rcases hj with hj|⟨m,hm,rfl,hT⟩
     ·exact .inl hj
     ·cases m with
      |zero=>simp at hT
      |succ m=>exact .inr ⟨m,by omega,by omega,hT⟩
  ·simp only at hr;obtain ⟨r,hr1,hr⟩:=gd_elim hr;obtain ⟨c,E⟩:=r;obtain ⟨hc,hr⟩:=hr;simp only [Bool.and_eq_true] at hc;obtain ⟨⟨hc1,hc2⟩,hc3⟩:=hc;subst hc1;simp only at hr;cases hp:E.pn with
   |some u=>
    have hq:(un=[]/\os=[])/\K (.panic [{v:=u,recovered:=false}]) e (E.appL h) E.n:=by rw [hp] at hr;exact hr
    obtain ⟨⟨rfl,rfl⟩,hq⟩:=hq;refine ⟨fun i=>match i with|0=>(e,h,n)|i+1=>(eput o.dst E.v e,E.appL h,E.n),fun i=>match i with|0=>some E|i+1=>none,rfl,.inr ⟨0,E,o,rfl,rfl,rfl,fun j hj=>by omega,u,hp,hq⟩,fun i io un' hi=> ?_⟩
    cases i with
    |zero=>
     simp at hi;obtain ⟨rfl,rfl⟩:=hi;exact .inr ⟨E,rfl,hb,hr1,hc2,rfl,fun j Ej hj hu=>by simp [inl] at hu⟩
    |succ i=>simp at hi
   |none=>
   have hr:=fin1_elim (s:=o.spl) (v:=E.v) (k:=fun v=>runD cx os (k+1) (pushD k E done) (eput o.dst v e) (E.appL h) E.n K) (by rw [hp] at hr;exact hr)
   obtain ⟨S,T,h0,hK,hst⟩:=runD_trace os (k+1) (pushD k E done) _ _ _ K (fun j Ej=>B j Ej\/(j=k/\Ej=E)) (fun j Ej hj=>by
    rcases hj with hj|hj
    ·rcases hB j Ej hj with h1|h1
     ·exact pushD_spec (.inr h1)
     ·exact .inr h1
    ·exact pushD_spec (.inl hj)) hr
   refine ⟨fun i=>match i with|0=>(e,h,n)|i+1=>S i,fun i=>match i with|0=>some E|i+1=>T i,rfl,hK.shift rfl rfl rfl (fun E' h=>by cases h;exact hp),fun i io un' hi=> ?_⟩
   cases i with
   |zero=>
    simp at hi;obtain ⟨rfl,rfl⟩:=hi;refine .inr ⟨E,rfl,hb,hr1,hc2,h0,fun j Ej hj hu=> ?_⟩;rcases hj with hj|⟨m,hm,_⟩
    ·rcases hB j Ej hj with h1|h1
     ·exact okAll_spec hc3 j Ej h1 hu
     ·exact h1 E
    ·omega
   |succ i=>
    have:=hst i io un' (by simpa using hi)
    rcases this with ⟨h1,h2,h3⟩|⟨E',h1,h2,h3,h4,h5,h6⟩
    ·exact .inl ⟨h1,h2,h3⟩
    ·refine .inr ⟨E',h1,h2,h3,h4,h5,fun j Ej hj hu=>h6 j Ej ?_ hu⟩;rcases hj with hj|⟨m,hm,rfl,hT⟩
     ·exact .inl (.inl hj)
     ·cases m with
      |zero=>simp at hT;exact .inl (.inr ⟨by omega,hT.symm⟩)
      |succ m=>exact .inr ⟨m,by omega,by omega,hT⟩
/-! ### before -/
theorem before_push (l:List Oper) (acc:Array Nat):(l.foldl (fun acc o=>acc.push (o.after.foldl (fun s e=>if Region.binds .any e then s ||| 2^e.on ||| acc.getD e.on 0 else s) 0)) acc).size=acc.size+l.length∧
 ∀i,i<acc.size->(l.foldl (fun acc o=>acc.push (o.after.foldl (fun s e=>if Region.binds .any e then s ||| 2^e.on ||| acc.getD e.on 0 else s) 0)) acc)[i]? =acc[i]? :=by
 induction l generalizing acc with
 |nil=>exact ⟨by simp,fun i _=>rfl⟩
 |cons o l ih=>
  simp only [List.foldl_cons];obtain ⟨h1,h2⟩:=ih (acc.push (o.after.foldl (fun s e=>if Region.binds .any e then s ||| 2^e.on ||| acc.getD e.on 0 else s) 0))
  refine ⟨by rw [h1];simp;omega,fun i hi=> ?_⟩
  rw [h2 i (by simp;omega)]
  exact Array.getElem?_push_lt' hi
where
 Array.getElem?_push_lt' {l:Array Nat} {o:Nat} {c:Nat} (h:c<l.size):(l.push o)[c]? =l[c]? :=by
  rw [Array.getElem?_push];rw [if_neg (by omega)]
theorem or_fold (f:Edge->Nat) (l:List Edge) (s j:Nat):(l.foldl (fun s e=>if Region.binds .any e then s ||| 2^e.on ||| f e else s) s).testBit j=true→
 s.testBit j=true\/ ∃e∈l,Region.binds .any e=true/\(e.on=j\/(f e).testBit j=true):=by
 induction l generalizing s with
 |nil=>intro h;exact .inl h
 |cons e l ih=>
  intro h;simp only [List.foldl_cons] at h;rcases ih _ h with h1|⟨e',h1,h2,h3⟩
  ·by_cases hb:Region.binds .any e=true
   ·rw [if_pos hb] at h1;simp only [Nat.testBit_or,Bool.or_eq_true] at h1;rcases h1 with (h1|h1)|h1
    ·exact .inl h1
    ·right;refine ⟨e,List.mem_cons_self,hb,.inl ?_⟩;rw [Nat.testBit_two_pow] at h1;exact of_decide_eq_true h1
    ·exact .inr ⟨e,List.mem_cons_self,hb,.inr h1⟩
   ·rw [if_neg hb] at h1;exact .inl h1
  ·exact .inr ⟨e',List.mem_cons_of_mem _ h1,h2,h3⟩
theorem before_step {ops:Array Oper} {i j:Nat} {o:Oper} (ho:ops[i]? =some o) (h:((Region.before ops).getD i 0).testBit j=true):
 ∃e∈o.after.toList,Region.binds .any e=true/\(e.on=j\/(e.on<i/\((Region.before ops).getD e.on 0).testBit j=true)):=by
 have hlt:i<ops.size:=(Array.getElem?_eq_some_iff.1 ho).1;have hsplit:ops.toList=ops.toList.take i++o::ops.toList.drop (i+1):=by
  have:ops.toList[i]? =some o:=by simpa using ho
  obtain ⟨hl,hx⟩:=List.getElem?_eq_some_iff.1 this;rw [<-hx,List.getElem_cons_drop,List.take_append_drop]
 have hb:Region.before ops=ops.toList.foldl (fun acc o=>acc.push (o.after.foldl (fun s e=>if Region.binds .any e then s ||| 2^e.on ||| acc.getD e.on 0 else s) 0)) #[]:=by
  unfold Region.before;rw [Array.foldl_toList]
 rw [hsplit,List.foldl_append,List.foldl_cons] at hb;have hA:=before_push (ops.toList.take i) #[];generalize hacc:(ops.toList.take i).foldl (fun acc o=>acc.push (o.after.foldl (fun s e=>if Region.binds .any e then s ||| 2^e.on ||| acc.getD e.on 0 else s) 0)) #[]=acc at hb hA
 have hsz:acc.size=i:=by rw [hA.1];simp;omega
 have hB:=before_push (ops.toList.drop (i+1)) (acc.push (o.after.foldl (fun s e=>if Region.binds .any e then s ||| 2^e.on ||| acc.getD e.on 0 else s) 0))
 rw [<-hb] at hB;have hi:(Region.before ops).getD i 0=o.after.foldl (fun s e=>if Region.binds .any e then s ||| 2^e.on ||| acc.getD e.on 0 else s) 0:=by
  rw [Array.getD_eq_getD_getElem?,hB.2 i (by simp;omega)]
  rw [Array.getElem?_push,if_pos hsz.symm];rfl
 have hold: ∀m,m<i->acc.getD m 0=(Region.before ops).getD m 0:=fun m hm=>by
  rw [Array.getD_eq_getD_getElem?,Array.getD_eq_getD_getElem?,hB.2 m (by simp;omega),Array.getElem?_push,if_neg (by omega)]
 rw [hi,<-Array.foldl_toList] at h;rcases or_fold (fun e=>acc.getD e.on 0) o.after.toList 0 j h with h1|⟨e,h1,h2,h3⟩
 ·simp at h1
 ·refine ⟨e,h1,h2,?_⟩;rcases h3 with h3|h3
  ·exact .inl h3
  ·by_cases hlt':e.on<i
   ·right;exact ⟨hlt',by rw [<-hold _ hlt'];exact h3⟩
   ·simp [Array.getD_eq_getD_getElem?,Array.getElem?_eq_none (show acc.size<=e.on by omega)] at h3
def Cl (ops:Array Oper) (listed:Array Bool):Prop:= ∀j o,listed.getD j false=true->ops[j]? =some o-> ∀e∈o.after.toList,Region.binds .any e=true->listed.getD e.on false=true
theorem before_listed {ops:Array Oper} {listed:Array Bool} (hcl:Cl ops listed) (hsz:listed.size=ops.size): ∀(i:Nat) (o:Oper),ops[i]? =some o->(∀e∈o.after.toList,Region.binds .any e=true->listed.getD e.on false=true)→
 ∀j,((Region.before ops).getD i 0).testBit j=true->listed.getD j false=true:=by
 intro i;induction i using Nat.strongRecOn with
 |_ i ih=>
  intro o ho hpre j hj;obtain ⟨e,he,hb,h3⟩:=before_step ho hj;have hl:=hpre e he hb;rcases h3 with h3|⟨hlt,h3⟩
  ·rw [<-h3];exact hl
  ·have hlt':e.on<ops.size:=by have:=(Array.getElem?_eq_some_iff.1 ho).1;omega
   exact ih e.on hlt ops[e.on] (by simp [hlt']) (hcl e.on _ hl (by simp [hlt'])) j h3
end Go.Ab
namespace Go.Ab
theorem djM_spec: ∀{l:List (Nat×Option Blk)} {rd:List Nat},djM l rd=true-> ∀b r,mget l b=some r->inl rd b=false
 |[],_,_,b,r,h=>by simp [mget] at h
 |(c,k)::l,rd,hd,b,r,h=>by
  simp only [djM,Bool.and_eq_true,Bool.not_eq_true'] at hd;simp only [mget] at h;by_cases hc:Nat.beq c b=true
  ·have:=Nat.eq_of_beq_eq_true hc;subst this;exact hd.1
  ·rw [Bool.not_eq_true] at hc;rw [hc] at h;exact djM_spec hd.2 b r h
theorem djN_spec: ∀{l:List (Nat×Blk)} {rd:List Nat},djN l rd=true-> ∀b r,hget l b=some r->inl rd b=false
 |[],_,_,b,r,h=>by simp [hget] at h
 |(c,k)::l,rd,hd,b,r,h=>by
  simp only [djN,Bool.and_eq_true,Bool.not_eq_true'] at hd;simp only [hget] at h;by_cases hc:Nat.beq c b=true
  ·have:=Nat.eq_of_beq_eq_true hc;subst this;exact hd.1
  ·rw [Bool.not_eq_true] at hc;rw [hc] at h;exact djN_spec hd.2 b r h
theorem subM_spec: ∀{l:List (Nat×Option Blk)} {rd:List Nat},subM l rd=true-> ∀b r,mget l b=some r->inl rd b=true
 |[],_,_,b,r,h=>by simp [mget] at h
 |(c,k)::l,rd,hd,b,r,h=>by
  simp only [subM,Bool.and_eq_true] at hd;simp only [mget] at h;by_cases hc:Nat.beq c b=true
  ·have:=Nat.eq_of_beq_eq_true hc;subst this;exact hd.1
  ·rw [Bool.not_eq_true] at hc;rw [hc] at h;exact subM_spec hd.2 b r h
theorem rngN_spec: ∀{l:List (Nat×Blk)} {n m:Nat},rngN n m l=true-> ∀b r,hget l b=some r->n<=b/\b<m
 |[],_,_,_,b,r,h=>by simp [hget] at h
 |(c,k)::l,n,m,hd,b,r,h=>by
  simp only [rngN,Bool.and_eq_true,decide_eq_true_eq] at hd;simp only [hget] at h;by_cases hc:Nat.beq c b=true
  ·have:=Nat.eq_of_beq_eq_true hc;subst this;exact hd.1
  ·rw [Bool.not_eq_true] at hc;rw [hc] at h;exact rngN_spec hd.2 b r h
def upd (E:Eff) (b:Nat):Option (Option Blk):=
 match mget E.md b with
 |some r=>some r
 |none=>(hget E.nw b).map some
theorem app_upd (E:Eff) (H:Hf) (b:Nat):E.app H b=(upd E b).getD (H b):=by
 unfold Eff.app upd;cases mget E.md b with
 |some r=>rfl
 |none=>cases hget E.nw b<;>rfl
def HS (H0:Hf) (T:Nat->Option Eff) (p:Nat->Bool):Nat->Hf
 |0=>H0
 |m+1=>fun b=>match p m,T m with
  |true,some E=>(upd E b).getD (HS H0 T p m b)
  |_,_=>HS H0 T p m b
section
variable {P:Program} {N n0:Nat} {cx:Cx}
theorem HS_ext (H0:Hf) (T:Nat->Option Eff) (p q:Nat->Bool) (b:Nat): ∀m,(∀j E r,j<m->T j=some E->upd E b=some r->p j=q j)->HS H0 T p m b=HS H0 T q m b
 |0,_=>rfl
 |m+1,h=>by
  have ih:=HS_ext H0 T p q b m (fun j E r hj=>h j E r (by omega))
  simp only [HS];cases hT:T m with
  |none=>cases p m<;>cases q m<;>exact ih
  |some E=>
   cases hu:upd E b with
   |none=>cases p m<;>cases q m<;>simp [hu,ih]
   |some r=>
    have:=h m E r (by omega) hT hu
    rw [this];cases q m<;>simp [hu,ih]
theorem HS_stop (H0:Hf) (T:Nat->Option Eff) (p:Nat->Bool) (b i:Nat): ∀m,i<=m->(∀j E r,i<=j->j<m->p j=true->T j=some E->upd E b=some r->False)->HS H0 T p m b=HS H0 T p i b
 |0,hi,_=>by have:i=0:=by omega
             subst this;rfl
 |m+1,hi,h=>by
  by_cases him:i=m+1
  ·subst him;rfl
  ·have ih:=HS_stop H0 T p b i m (by omega) (fun j E r h1 h2=>h j E r h1 (by omega))
   simp only [HS];split
   ·rename_i E hp hT;cases hu:upd E b with
    |none=>simpa using ih
    |some r=>exact (h m E r (by omega) (by omega) hp hT hu).elim
   ·exact ih
set_option maxHeartbeats 1000000 in
theorem runD_soundD {B:List Deferred} {ro:Option Nat} (hcx:Sound P cx) (hm:P.follows .mixedOrders=true) {K:Kont} {D0:Nat->Prop} {φ0:Phi} {H0:Hf} {w0:World} {ops:Array Oper} {sp:List Nat} {id:Nat} (hn0: ∀b,D0 b->b<n0)
 (hgu:guardOK ops.toList=true) (hdst:dstOK N ops.toList=true) (hgl:globOK ops.toList=true) (hdr:drawOK ops=true)
 {e:Env} {h:Hp} {n:Nat} {D:Nat->Prop} {φ:Phi} {a:Act} {w:World} (hn:n0<=n)
 (hrun:runD cx (List.zip (ops.toList.map (compOper P ops.toList sp)) (uns ops)) 0 [] e h n K) (hR:Rel D φ e h n N (w0.heap.size,B) a w) (hS:Stp D0 φ0 H0 w0 D φ (hget h) w):
 (Code.region id ops true).wpIn (Fw ro) 0 P (fun ex a' w'=>PostK N n0 B D0 φ0 H0 w0 K ex a' w'/\a'.defers=a.defers) a w:=by
 obtain ⟨S,T,hS0,hK,hst⟩:=runD_trace _ 0 [] e h n _ (fun _ _=>False) (fun _ _ h=>h.elim) hrun;have hlen:(List.zip (ops.toList.map (compOper P ops.toList sp)) (uns ops)).length=ops.size:=by simp [uns]
 unfold FinD at hK;rw [hlen] at hK
 -- static facts
 simp only [drawOK,Bool.and_eq_true] at hdr;obtain ⟨htm,hed⟩:=hdr;have hgeq: ∀o,(compOper P ops.toList sp o).guard=(compOper P ops.toList [] o).guard:=fun o=>by
  unfold compOper;split
  ·rfl
  ·split<;>rfl
 have hdeq: ∀o,(compOper P ops.toList sp o).dst=o.dst:=fun o=>by
  unfold compOper;split
  ·rfl
  ·split<;>rfl
 have hog: ∀o∈ops.toList,∀j c,o.guard=some (j,c)->((ops.toList[j]?).bind (·.dst)).isSome=true:=fun o ho j c hg=>by
  have:=List.all_eq_true.1 hgu o ho;simpa [hg] using this
 have hopeq: ∀o∈ops.toList,(compOper P ops.toList sp o).op=compOp P o.op:=fun o ho=>by
  unfold compOper;split
  ·rfl
  ·rename_i j c hg;obtain ⟨d,hd⟩:=Option.isSome_iff_exists.1 (hog o ho j c hg);rw [hd]
 have hdN: ∀o∈ops.toList,∀t,o.dst=some t->t<N:=fun o ho t ht=>by
  have:=List.all_eq_true.1 hdst o ho;rw [ht] at this;exact of_decide_eq_true this
 have hmem: ∀i o,ops[i]? =some o->o∈ops.toList:=fun i o ho=>by
  exact List.mem_of_getElem? (i:=i) (by simpa using ho)
 have hun: ∀i j,i<ops.size->j<i->((Region.before ops).getD i 0).testBit j=false->inl ((uns ops).getD i []) j=true:=fun i j hi hj hb=>by
  have:(uns ops).getD i []=(List.range i).filter fun j=> !((Region.before ops).getD i 0).testBit j:=by
   simp [uns,List.getD_eq_getElem?_getD,hi]
  rw [this];have hin:j∈(List.range i).filter fun j=> !((Region.before ops).getD i 0).testBit j:=by
   rw [List.mem_filter];exact ⟨List.mem_range.2 hj,by rw [hb];rfl⟩
  revert hin;generalize (List.range i).filter (fun j=> !((Region.before ops).getD i 0).testBit j)=l;intro hin;induction l with
  |nil=>cases hin
  |cons x l ih=>
   simp only [inl,Bool.or_eq_true];rcases List.mem_cons.1 hin with rfl|hin
   ·left;simp
   ·right;exact ih hin
 have hstep: ∀i o,ops[i]? =some o->StepOK cx (compOper P ops.toList sp o) ((uns ops).getD i []) (S i) (S (i+1)) (T i) (fun j Ej=>j<i/\T j=some Ej):=fun i o ho=>by
  have hi:i<ops.size:=(Array.getElem?_eq_some_iff.1 ho).1;have hz:(List.zip (ops.toList.map (compOper P ops.toList sp)) (uns ops))[i]? =some (compOper P ops.toList sp o,(uns ops).getD i []):=by
   rw [List.getElem?_zip_eq_some];refine ⟨by simp;exact ⟨o,by simpa using ho,rfl⟩,?_⟩
   rw [List.getD_eq_getElem?_getD,List.getElem?_eq_getElem (by simp [uns];exact hi)];rfl
  rcases hst i _ _ hz with h1|⟨E,h1,h2,h3,h4,h5,h6⟩
  ·exact .inl h1
  ·exact .inr ⟨E,h1,h2,h3,h4,h5,fun j Ej hj hu=>h6 j Ej (.inr ⟨j,hj.1,by omega,hj.2⟩) hu⟩
 have hdd: ∀i j oi oj t,ops[i]? =some oi->ops[j]? =some oj->oj.dst=some t->(i=j\/oi.dst≠some t)/\((looksOf ops.toList oi).contains t=true->(j<i/\((Region.before ops).getD i 0).testBit j=true)\/(i<j/\((Region.before ops).getD j 0).testBit i=true)):=fun i j oi oj t hi hj ht=>by
  have hli:=(Array.getElem?_eq_some_iff.1 hi).1;have hlj:=(Array.getElem?_eq_some_iff.1 hj).1;have h1:=List.all_eq_true.1 htm i (List.mem_range.2 hli);have h2:=List.all_eq_true.1 h1 j (List.mem_range.2 hlj);simp only [hi,hj,ht,Bool.and_eq_true,Bool.or_eq_true,beq_iff_eq,bne_iff_ne,ne_eq,Bool.not_eq_true',decide_eq_true_eq] at h2;refine ⟨h2.1,fun hc=> ?_⟩;rcases h2.2 with (h3|h3)|h3
  ·rw [hc] at h3;cases h3
  ·exact .inl h3
  ·exact .inr h3
 -- numbers grow
 have hnle: ∀i,i<ops.size->(S i).2.2<=(S (i+1)).2.2:=fun i hi=>by
  rcases hstep i ops[i] (by simp [hi]) with ⟨_,_,h3⟩|⟨E,_,_,_,h4,h5,_⟩
  ·rw [h3];exact Nat.le_refl _
  ·rw [h5];simp only [effOK,Bool.and_eq_true,decide_eq_true_eq] at h4;exact h4.1.1.1
 have hnmono: ∀j i,i<=j->j<=ops.size->(S i).2.2<=(S j).2.2:=fun j=>by
  induction j with
  |zero=>intro i hi _;have:i=0:=by omega
         subst this;exact Nat.le_refl _
  |succ j ih=>
   intro i hi hj;by_cases hij:i=j+1
   ·subst hij;exact Nat.le_refl _
   ·exact Nat.le_trans (ih i (by omega) (by omega)) (hnle j (by omega))
 have hn00:(S 0).2.2=n:=by rw [hS0]
 -- the text's states
 have htext: ∀m,m<=ops.size->hget (S m).2.1=HS (hget h) T (fun _=>true) m:=fun m=>by
  induction m with
  |zero=>intro _;rw [hS0];rfl
  |succ m ih=>
   intro hm;rcases hstep m ops[m] (by simp) with ⟨h1,_,h3⟩|⟨E,h1,_,_,_,h5,_⟩
   ·rw [h3];simp only [HS,h1];rw [<-ih (by omega)]
   ·rw [h5];simp only [HS,h1];rw [appL_app,ih (by omega)];funext b;exact app_upd _ _ _
 have heff: ∀i E,i<ops.size->T i=some E->effOK (S i).2.1 (S i).2.2 E=true/\(S (i+1)).2.2=E.n:=fun i E hi hT=>by
  rcases hstep i ops[i] (by simp [hi]) with ⟨h1,_,_⟩|⟨E',h1,_,_,h4,h5,_⟩
  ·rw [hT] at h1;cases h1
  ·rw [hT] at h1;cases h1;exact ⟨h4,by rw [h5]⟩
 have hnew: ∀i E b k,i<ops.size->T i=some E->hget E.nw b=some k->(S i).2.2<=b/\b<(S (i+1)).2.2:=fun i E b k hi hT hb=>by
  obtain ⟨h1,h2⟩:=heff i E hi hT;simp only [effOK,Bool.and_eq_true] at h1;rw [h2];exact rngN_spec h1.1.2 b k hb
 have hsub: ∀i E b r,i<ops.size->T i=some E->mget E.md b=some r->inl E.rd b=true:=fun i E b r hi hT hb=>by
  obtain ⟨h1,h2⟩:=heff i E hi hT;simp only [effOK,Bool.and_eq_true] at h1;exact subM_spec h1.1.1.2 b r hb
 have hhas: ∀i E b r,i<ops.size->T i=some E->mget E.md b=some r-> ∃k,hget (S i).2.1 b=some k:=fun i E b r hi hT hb=>by
  obtain ⟨h1,h2⟩:=heff i E hi hT;simp only [effOK,Bool.and_eq_true] at h1;have h3:=h1.2;revert h3 hb;generalize E.md=l;intro hb h3;induction l with
  |nil=>simp [mget] at hb
  |cons x l ih=>
   obtain ⟨c,k⟩:=x;simp only [hasM,Bool.and_eq_true] at h3;simp only [mget] at hb;by_cases hc:Nat.beq c b=true
   ·have:=Nat.eq_of_beq_eq_true hc;subst this;exact Option.isSome_iff_exists.1 h3.1
   ·rw [Bool.not_eq_true] at hc;rw [hc] at hb;exact ih hb h3.2
 -- names in the text's heaps are below the number
 have hbelow: ∀m,m<=ops.size-> ∀b k,hget (S m).2.1 b=some k->b<(S m).2.2:=fun m=>by
  induction m with
  |zero=>intro _ b k hb;rw [hS0] at hb ⊢;exact hR.lt b (hR.heap.at_ b k hb).1
  |succ m ih=>
   intro hm b k hb;rcases hstep m ops[m] (by simp) with ⟨_,_,h3⟩|⟨E,h1,_,_,_,h5,_⟩
   ·rw [h3] at hb ⊢;exact ih (by omega) b k hb
   ·have hle:=hnle m (by omega)
    rw [h5] at hb;rw [appL_app,app_upd] at hb;cases hu:upd E b with
    |none=>rw [hu] at hb;exact Nat.lt_of_lt_of_le (ih (by omega) b k hb) hle
    |some r=>
     unfold upd at hu;cases hmd:mget E.md b with
     |some r'=>
      obtain ⟨k',hk'⟩:=hhas m E b r' (by omega) h1 hmd
      exact Nat.lt_of_lt_of_le (ih (by omega) b k' hk') hle
     |none=>
      rw [hmd] at hu;obtain ⟨k',hk',_⟩:=Option.map_eq_some_iff.1 hu;exact (hnew m E b k' (by omega) h1 hk').2
 -- the text's environments
 have henv: ∀m,m<=ops.size-> ∀t,(∀j o,j<m->ops[j]? =some o->o.dst=some t->eget (S m).1 t=some (match T j with|some E=>E.v|none=> .tup []))∧
  ((∀j o,j<m->ops[j]? =some o->o.dst≠some t)->eget (S m).1 t=eget e t):=fun m=>by
  induction m with
  |zero=>intro _ t;exact ⟨fun j o hj=>by omega,fun _=>by rw [hS0]⟩
  |succ m ih=>
   intro hm t;have hmlt:m<ops.size:=by omega
   have hom:ops[m]? =some ops[m]:=by simp [hmlt]
   obtain ⟨v,hv1,hv2⟩: ∃v,(S (m+1)).1=eput (compOper P ops.toList sp ops[m]).dst v (S m).1/\v=(match T m with|some E=>E.v|none=> .tup []):=by
    rcases hstep m ops[m] hom with ⟨h1,_,h3⟩|⟨E,h1,_,_,_,h5,_⟩
    ·exact ⟨_,by rw [h3],by rw [h1]⟩
    ·exact ⟨_,by rw [h5],by rw [h1]⟩
   rw [hdeq] at hv1;have hput: ∀t,eget (eput ops[m].dst v (S m).1) t=if ops[m].dst=some t then some v else eget (S m).1 t:=fun t=>by
    cases hd:ops[m].dst with
    |none=>simp [eput]
    |some s=>
     simp only [eput,eget];by_cases hs:t=s
     ·subst hs;simp
     ·rw [beq_ne hs];simp [show ¬s=t from fun e=>hs e.symm]
   rw [hv1,hput];refine ⟨fun j o hj ho hd=> ?_,fun hno=> ?_⟩
   ·by_cases hjm:j=m
    ·subst hjm;rw [hom] at ho;cases ho;rw [if_pos hd,hv2]
    ·have hne:ops[m].dst≠some t:=((hdd m j _ _ t hom ho hd).1).resolve_left (fun e=>hjm e.symm);rw [if_neg hne];exact (ih (by omega) t).1 j o (by omega) ho hd
   ·rw [if_neg (hno m _ (by omega) hom)]
    exact (ih (by omega) t).2 (fun j o hj=>hno j o (by omega))
 -- the invariant
 let pl:Array Bool->Nat->Bool:=fun listed j=>listed.getD j false;let DS:Array Bool->Nat->Prop:=fun listed b=>D b\/ ∃j,j<ops.size/\listed.getD j false=true/\(S j).2.2<=b/\b<(S (j+1)).2.2;let V:Nat->AV:=fun j=>match T j with|some E=>E.v|none=> .tup []
 let Inv:Array Bool->Act->World->Prop:=fun listed a' w'=>listed.size=ops.size/\Cl ops listed/\a'.tmps.size=N/\a'.defers=a.defers/\(∀j E,listed.getD j false=true->T j=some E->E.pn=none)/\ ∃φ',
  (∀j o t,ops[j]? =some o->listed.getD j false=true->o.dst=some t->VRel (DS listed) φ' (V j) (a'.tmps.getD t undef))∧
  (∀t v,(∀j o,ops[j]? =some o->listed.getD j false=true->o.dst≠some t)->eget e t=some v->VRel (DS listed) φ' v (a'.tmps.getD t undef))∧
  Stp D φ (hget h) w (DS listed) φ' (HS (hget h) T (pl listed) ops.size) w'
 have hone: ∀listed a' w' i,Inv listed a' w'->i∈Region.ready .any ops listed->wpOpIn (Fw ro) 0 P ops (fun ex a' w'=>PostK N n0 B D0 φ0 H0 w0 K ex a' w'/\a'.defers=a.defers) i (fun a'' w''=>Inv (listed.setIfInBounds i true) a'' w'') a' w':=by
  intro listed a' w' i hI hr;obtain ⟨hsz,hcl,hN,hdef,hpI,φ',hE1,hE2,hStp⟩:=hI;obtain ⟨hun_i,o,ho,hall⟩:=mem_ready.1 hr;have hi:i<ops.size:=(Array.getElem?_eq_some_iff.1 ho).1;have hpre: ∀ed∈o.after.toList,Region.binds .any ed=true->listed.getD ed.on false=true:=fun ed hed hb=>hall ed (by simpa using hed) hb
  have hul:listed.getD i false=false:=by
   have:i<listed.size:=by omega
   simp [Array.getD,this] at hun_i ⊢;exact hun_i
  have hanc: ∀j,((Region.before ops).getD i 0).testBit j=true->listed.getD j false=true:=before_listed hcl hsz i o ho hpre;have hdesc: ∀j,listed.getD j false=true->((Region.before ops).getD j 0).testBit i=true->False:=fun j hj hb=>by
   have hj':j<ops.size:=by
    rcases Nat.lt_or_ge j listed.size with h'|h'
    ·omega
    ·simp [Array.getD_eq_getD_getElem?,Array.getElem?_eq_none h'] at hj
   have:=before_listed hcl hsz j ops[j] (by simp [hj']) (hcl j _ hj (by simp [hj'])) i hb
   rw [hul] at this;cases this
  -- the new row of marks
  have hnl: ∀j,(listed.setIfInBounds i true).getD j false=if j=i then true else listed.getD j false:=fun j=>by
   by_cases hji:j=i
   ·subst hji;simp [show j<listed.size by omega]
   ·rw [getD_set_ne false (Ne.symm hji),if_neg hji]
  have hcl':Cl ops (listed.setIfInBounds i true):=fun j o' hj ho' ed hed hb=>by
   rw [hnl] at hj ⊢;by_cases hji:j=i
   ·subst hji;rw [ho] at ho';cases ho';split
    ·rfl
    ·exact hpre ed hed hb
   ·rw [if_neg hji] at hj;split
    ·rfl
    ·exact hcl j o' hj ho' ed hed hb
  have hlook: ∀t v,(looksOf ops.toList o).contains t=true->eget (S i).1 t=some v->VRel (DS listed) φ' v (a'.tmps.getD t undef):=fun t v ht hv=>by
   by_cases hex: ∃(j:Nat) (oj:Oper),ops[j]? =some oj/\oj.dst=some t
   ·obtain ⟨j,oj,hoj,hd⟩:=hex;rcases (hdd i j o oj t ho hoj hd).2 ht with ⟨hji,hb⟩|⟨hij,hb⟩
    ·have h1:=(henv i (by omega) t).1 j oj hji hoj hd
     rw [h1] at hv;cases hv;exact hE1 j oj t hoj (hanc j hb) hd
    ·have h1:=(henv i (by omega) t).2 (fun j' o' hj' ho' hd'=>by
      rcases (hdd j' j o' oj t ho' hoj hd).1 with h2|h2
      ·omega
      ·exact h2 hd')
     rw [h1] at hv;refine hE2 t v (fun j' o' ho' hl' hd'=> ?_) hv;rcases (hdd j' j o' oj t ho' hoj hd).1 with h2|h2
     ·subst h2;exact hdesc j' hl' hb
     ·exact h2 hd'
   ·have h1:=(henv i (by omega) t).2 (fun j' o' hj' ho' hd'=>hex ⟨j',o',ho',hd'⟩)
    rw [h1] at hv;exact hE2 t v (fun j' o' ho' hl' hd'=>hex ⟨j',o',ho',hd'⟩) hv
  -- wanted
  have hw: ∀b,wantedI (S i).1 (compOper P ops.toList sp o).guard=some b->Region.wanted o (yielded ops a'.tmps)=b:=fun b hb=>by
   refine wanted_rel (P:=P) (o:=o) (D:=DS listed) (φ:=φ') (a:=a') (fun d c v hg hv=>hlook d v ?_ hv) (hgeq o) (hog o (hmem i o ho)) hb;unfold looksOf;rw [hgeq] at hg;cases hoguard:o.guard with
   |none=>simp [compOper,hoguard] at hg
   |some q=>
    obtain ⟨j,c'⟩:=q;obtain ⟨d',hd'⟩:=Option.isSome_iff_exists.1 (hog o (hmem i o ho) j c' hoguard);simp only [compOper,hoguard,hd',Option.some.injEq,Prod.mk.injEq] at hg;obtain ⟨rfl,rfl⟩:=hg;simp only [hd'];simp
  have hDSsub: ∀b,DS listed b->DS (listed.setIfInBounds i true) b:=fun b hb=>hb.imp _root_.id (fun ⟨j,h1,h2,h3⟩=>⟨j,h1,by rw [hnl];split<;>simp_all,h3⟩)
  -- the new temporaries
  have hE: ∀(u:Value) (φ2:Phi),VRel (DS (listed.setIfInBounds i true)) φ2 (V i) u->Agree (DS listed) φ' φ2→
   (∀j o' t,ops[j]? =some o'->(listed.setIfInBounds i true).getD j false=true->o'.dst=some t->VRel (DS (listed.setIfInBounds i true)) φ2 (V j) ((a'.put o.dst u).tmps.getD t undef))∧
   (∀t v,(∀j o',ops[j]? =some o'->(listed.setIfInBounds i true).getD j false=true->o'.dst≠some t)->eget e t=some v->VRel (DS (listed.setIfInBounds i true)) φ2 v ((a'.put o.dst u).tmps.getD t undef)):=fun u φ2 hu hag=>by
   refine ⟨fun j o' t ho' hl hd=> ?_,fun t v hno hv=> ?_⟩
   ·rw [hnl] at hl;by_cases hji:j=i
    ·subst hji;rw [ho] at ho';cases ho';rw [hd,put_getD_self (by rw [hN];exact hdN o (hmem j o ho) t hd)]
     exact hu
    ·rw [if_neg hji] at hl;have hne:o.dst≠some t:=((hdd i j o o' t ho ho' hd).1).resolve_left (fun e=>hji e.symm);rw [put_getD hne];exact (hE1 j o' t ho' hl hd).mono hDSsub hag
   ·have hne:o.dst≠some t:=hno i o ho (by rw [hnl];simp)
    rw [put_getD hne];exact (hE2 t v (fun j o' ho' hl=>hno j o' ho' (by rw [hnl];split<;>simp_all)) hv).mono hDSsub hag
  unfold wpOpIn;rw [ho];simp only;rcases hstep i o ho with ⟨hT,hwi,hSn⟩|⟨E,hT,hwi,hsc,heo,hSn,hpair⟩
  · -- passed over
    rw [hw false hwi];simp only [Bool.false_eq_true,if_false];have hV:V i= .tup []:=by simp [V,hT]
    obtain ⟨g1,g2⟩:=hE undef φ' (by rw [hV];exact und_rel) (Agree.refl _ _)
    refine ⟨fun _ _=>trivial,by simp [hsz],hcl',by rw [put_size];exact hN,by rw [put_defers];exact hdef,(fun j Ej hj hTj=>by
     rw [hnl] at hj;by_cases hji:j=i
     ·subst hji;rw [hT] at hTj;cases hTj
     ·rw [if_neg hji] at hj;exact hpI j Ej hj hTj),φ',g1,g2,?_⟩
    have hHS:HS (hget h) T (pl (listed.setIfInBounds i true)) ops.size=HS (hget h) T (pl listed) ops.size:=by
     funext b;refine HS_ext _ _ _ _ b ops.size (fun j E r hj hTj hu=> ?_);show (listed.setIfInBounds i true).getD j false=listed.getD j false;rw [hnl];split
     ·rename_i hji;subst hji;rw [hT] at hTj;cases hTj
     ·rfl
    rw [hHS];exact ⟨fun b hb=>hDSsub b (hStp.sub b hb),hStp.agree,hStp.hr.grow hDSsub,hStp.frm,hStp.img,hStp.fnew⟩
  · -- carried out
    rw [hw true hwi];simp only [if_true];have hni:(S (i+1)).2.2=E.n:=by rw [hSn]
    have hfresh: ∀b,(S i).2.2<=b->b<E.n-> ¬DS listed b:=fun b hb1 hb2 hD=>by
     rcases hD with hD|⟨j,hj,hl,h1,h2⟩
     ·have:=hR.lt b hD;have:=hnmono i 0 (by omega) (by omega)
      omega
     ·by_cases hji:j=i
      ·subst hji;rw [hul] at hl;cases hl
      ·rcases Nat.lt_or_ge j i with h3|h3
       ·have:=hnmono i (j+1) (by omega) (by omega);omega
       ·have:=hnmono j (i+1) (by omega) (by omega);omega
    -- what is looked at is as in the text
    have hpairs: ∀j Ej b r,j<ops.size->j≠i->listed.getD j false=true->T j=some Ej->upd Ej b=some r->inl E.rd b=true->i<j->(S i).2.2<=b->False\/True:=fun _ _ _ _ _ _ _ _ _ _ _ _=> .inr trivial;have hAfter: ∀j Ej b r k,i<j->j<ops.size->listed.getD j false=true->T j=some Ej->upd Ej b=some r->inl E.rd b=true->hget (S i).2.1 b=some k->False:=fun j Ej b r k hij hj hl hTj hu hrd hk=>by
     have hnb:((Region.before ops).getD j 0).testBit i=false:=by
      cases hb:((Region.before ops).getD j 0).testBit i
      ·rfl
      ·exact (hdesc j hl hb).elim
     rcases hstep j ops[j] (by simp [hj]) with ⟨h1,_,_⟩|⟨Ej',h1,_,_,_,_,h6⟩
     ·rw [hTj] at h1;cases h1
     ·rw [hTj] at h1;cases h1;have hp:=h6 i E ⟨hij,hT⟩ (hun j i hj hij hnb);simp only [okPair,Bool.and_eq_true] at hp;unfold upd at hu;cases hmd:mget Ej.md b with
      |some r'=>have:=djM_spec hp.1.2 b r' hmd;rw [hrd] at this;cases this
      |none=>
       rw [hmd] at hu;obtain ⟨k',hk',_⟩:=Option.map_eq_some_iff.1 hu;have h7:=hnew j Ej b k' hj hTj hk';have h8:=hbelow i (by omega) b k hk
       have:=hnmono j i (by omega) (by omega)
       omega
    have hBefore: ∀j Ej b r,j<i->T j=some Ej->upd Ej b=some r->inl E.rd b=true->listed.getD j false=true:=fun j Ej b r hji hTj hu hrd=>by
     cases hb:((Region.before ops).getD i 0).testBit j
     ·exfalso;have hp:=hpair j Ej ⟨hji,hTj⟩ (hun i j hi hji hb);simp only [okPair,Bool.and_eq_true] at hp;unfold upd at hu;cases hmd:mget Ej.md b with
      |some r'=>have:=djM_spec hp.1.1 b r' hmd;rw [hrd] at this;cases this
      |none=>
       rw [hmd] at hu;obtain ⟨k',hk',_⟩:=Option.map_eq_some_iff.1 hu;have:=djN_spec hp.2 b k' hk';rw [hrd] at this;cases this
     ·exact hanc j hb
    have hA: ∀b k,only (hget (S i).2.1) E.rd b=some k->HS (hget h) T (pl listed) ops.size b=some k:=fun b k hb=>by
     unfold only at hb;cases hrd:inl E.rd b
     ·simp [hrd] at hb
     ·simp only [hrd,cond_true] at hb;rw [HS_stop (hget h) T (pl listed) b i ops.size (by omega) (fun j Ej r hij hj hl hTj hu=>by
       by_cases hji:j=i
       ·subst hji;have:listed.getD j false=true:=hl;rw [hul] at this;cases this
       ·exact hAfter j Ej b r k (by omega) hj hl hTj hu hrd hb)]
      rw [HS_ext (hget h) T (pl listed) (fun _=>true) b i (fun j Ej r hji hTj hu=>hBefore j Ej b r hji hTj hu hrd),<-htext i (by omega)]
      exact hb
    have hHR:=hStp.hr.sub hA;refine op_wp hcx (by rw [<-hopeq o (hmem i o ho)];exact hsc) hfresh (fun y hy x hx v hv=> ?_) hHR (fun φ2 u w2 hle hv hst hro hmd hnw=> ?_)
    ·refine opd_rel (fun t v ht hv=>hlook t v ?_ hv) hx (fun g hg=> ?_) hv
     ·unfold looksOf;have:Operand.tmp t∈o.op.operands.toList:=by rw [<-ht];exact hy
      simp only [List.contains_eq_mem,List.mem_append,List.mem_filterMap,decide_eq_true_eq];left;exact ⟨_,this,rfl⟩
     ·have:=List.all_eq_true.1 hgl o (hmem i o ho);rw [Array.all_eq_true_iff_forall_mem] at this;have:=this y (by simpa using hy)
      rw [hg] at this;simp at this
    · -- the new state
      have hfull:=lift_frame hStp.hr hA hmd hst hro (fun _ _ _ _ _=> .inr trivial);have hDSeq: ∀b,Dn (DS listed) (S i).2.2 E.n b↔DS (listed.setIfInBounds i true) b:=fun b=>by
       constructor
       ·rintro (hb|⟨h1,h2⟩)
        ·exact hDSsub b hb
        ·exact .inr ⟨i,hi,by rw [hnl];simp,h1,by rw [hni];exact h2⟩
       ·rintro (hb|⟨j,hj,hl,h1,h2⟩)
        ·exact .inl (.inl hb)
        ·rw [hnl] at hl;by_cases hji:j=i
         ·subst hji;rw [hni] at h2;exact .inr ⟨h1,h2⟩
         ·rw [if_neg hji] at hl;exact .inl (.inr ⟨j,hj,hl,h1,h2⟩)
      have hDSe:Dn (DS listed) (S i).2.2 E.n=DS (listed.setIfInBounds i true):=by funext b;exact propext (hDSeq b)
      rw [hDSe] at hfull hv;have hHS:E.app (HS (hget h) T (pl listed) ops.size)=HS (hget h) T (pl (listed.setIfInBounds i true)) ops.size:=by
       funext b;rw [app_upd];have hsame: ∀j,j≠i->pl (listed.setIfInBounds i true) j=pl listed j:=fun j hji=>by
        show (listed.setIfInBounds i true).getD j false=listed.getD j false;rw [hnl,if_neg hji]
       cases hu:upd E b with
       |none=>
        simp only [Option.getD_none];refine HS_ext _ _ _ _ b ops.size (fun j Ej r hj hTj huj=> ?_);by_cases hji:j=i
        ·subst hji;rw [hT] at hTj;cases hTj;rw [hu] at huj;cases huj
        ·exact (hsame j hji).symm
       |some r=>
        simp only [Option.getD_some];rw [HS_stop (hget h) T (pl (listed.setIfInBounds i true)) b (i+1) ops.size (by omega) (fun j Ej rj hij hj hl hTj huj=>by
         have hl':listed.getD j false=true:=by
          have:=hsame j (by omega)
          have hl2:pl listed j=true:=by rw [<-this];exact hl
          exact hl2
         unfold upd at hu;cases hmd':mget E.md b with
         |some r'=>
          obtain ⟨k,hk⟩:=hhas i E b r' hi hT hmd';exact hAfter j Ej b rj k (by omega) hj hl' hTj huj (hsub i E b r' hi hT hmd') hk
         |none=>
          rw [hmd'] at hu;obtain ⟨k',hk',_⟩:=Option.map_eq_some_iff.1 hu;have hrng:=hnew i E b k' hi hT hk';unfold upd at huj;cases hmdj:mget Ej.md b with
          |some r'=>
           have hrdj:=hsub j Ej b r' hj hTj hmdj;have hnb:((Region.before ops).getD j 0).testBit i=false:=by
            cases hb:((Region.before ops).getD j 0).testBit i
            ·rfl
            ·exact (hdesc j hl' hb).elim
           rcases hstep j ops[j] (by simp [hj]) with ⟨h1,_,_⟩|⟨Ej',h1,_,_,_,_,h6⟩
           ·rw [hTj] at h1;cases h1
           ·rw [hTj] at h1;cases h1;have hp:=h6 i E ⟨by omega,hT⟩ (hun j i hj (by omega) hnb)
            simp only [okPair,Bool.and_eq_true] at hp;have:=djN_spec hp.2 b k' hk';rw [hrdj] at this;cases this
          |none=>
           rw [hmdj] at huj;obtain ⟨k2,hk2,_⟩:=Option.map_eq_some_iff.1 huj;have h7:=hnew j Ej b k2 hj hTj hk2;have:=hnmono j (i+1) (by omega) (by omega)
           omega)]
        simp only [HS];have hpi:pl (listed.setIfInBounds i true) i=true:=by
         show (listed.setIfInBounds i true).getD i false=true;rw [hnl];simp
        rw [hpi,hT];simp [hu]
      rw [hHS] at hfull;cases hpn:E.pn with
      |some u0=>
       -- a panic:the last operation,all others done
       rcases hK with ⟨hK1,_⟩|⟨i',E',io',k1,k2,k3,k4,u1,k5,k6⟩
       ·have:=hK1 i E hi hT;rw [hpn] at this;cases this
       ·have hii:i=i':=by
         rcases Nat.lt_or_ge i i' with hlt|hge
         ·have:=k4 i hlt E hT;rw [hpn] at this;cases this
         ·omega
        subst hii;rw [hT] at k3;cases k3;rw [hpn] at k5;cases k5;have hune:(uns ops).getD i []=[]:=by
         have hz:(List.zip (ops.toList.map (compOper P ops.toList sp)) (uns ops))[i]? =some (compOper P ops.toList sp o,(uns ops).getD i []):=by
          rw [List.getElem?_zip_eq_some];refine ⟨by simp;exact ⟨o,by simpa using ho,rfl⟩,?_⟩
          rw [List.getD_eq_getElem?_getD,List.getElem?_eq_getElem (by simp [uns];exact hi)];rfl
         rw [hz] at k1;exact (Prod.mk.inj (Option.some.inj k1)).2
        have hall: ∀j,j<i->listed.getD j false=true:=fun j hj=>hanc j (by
         cases hb:((Region.before ops).getD i 0).testBit j
         ·have:=hun i j hi hj hb;rw [hune] at this;simp [inl] at this
         ·rfl)
        have hall': ∀j,j<ops.size->(listed.setIfInBounds i true).getD j false=true:=fun j hj=>by
         rw [hnl];by_cases hji:j=i
         ·simp [hji]
         ·rw [if_neg hji];exact hall j (by omega)
        have hHS2:HS (hget h) T (pl (listed.setIfInBounds i true)) ops.size=hget (E.appL (S i).2.1):=by
         have h5:E.appL (S i).2.1=(S ops.size).2.1:=by
          rcases hstep i o ho with ⟨h1,_,_⟩|⟨E2,h1,_,_,_,h5,_⟩
          ·rw [hT] at h1;cases h1
          ·rw [hT] at h1;cases h1;rw [<-k2,h5]
         rw [h5,htext ops.size (Nat.le_refl _)];funext b;exact HS_ext _ _ _ _ b ops.size (fun j Ej r hj _ _=>hall' j hj)
        rw [hHS2] at hfull;have hst2:=hStp.trans hfull;have hnn:n<=E.n:=by
         have h1:=hnmono ops.size 0 (by omega) (by omega)
         rw [hn00,<-k2,hni] at h1;exact h1
        refine ⟨⟨DS (listed.setIfInBounds i true),φ2,(S i).1,E.appL (S i).2.1,E.n,k6,by omega,⟨fun b hb=> ?_,fun t v hv=> ?_,hst2.hr,hN,by rw [hdef];exact hR.defers.stays hR.heap hst2.frm⟩,hS.trans hst2⟩,hdef⟩
        ·rcases hb with hb|⟨j,hj,_,_,h2⟩
         ·have:=hR.lt b hb;omega
         ·have h3:=hnmono ops.size (j+1) (by omega) (by omega)
          rw [<-k2,hni] at h3;omega
        ·by_cases hex: ∃(j:Nat) (oj:Oper),j<i/\ops[j]? =some oj/\oj.dst=some t
         ·obtain ⟨j,oj,hji,hoj,hd⟩:=hex;have h1:=(henv i (by omega) t).1 j oj hji hoj hd
          rw [h1] at hv;cases hv;exact (hE1 j oj t hoj (hall j hji) hd).mono hfull.sub hfull.agree
         ·have h1:=(henv i (by omega) t).2 (fun j' o' hj' ho' hd'=>hex ⟨j',o',hj',ho',hd'⟩)
          rw [h1] at hv;refine (hE2 t v (fun j' o' ho' hl' hd'=>hex ⟨j',o',?_,ho',hd'⟩) hv).mono hfull.sub hfull.agree;have hj':=(Array.getElem?_eq_some_iff.1 ho').1;rcases Nat.lt_or_ge j' i with h'|h'
          ·exact h'
          ·have:j'=i:=by omega
           subst this;rw [hul] at hl';cases hl'
      |none=>
      have hV:V i=E.v:=by simp [V,hT]
      obtain ⟨g1,g2⟩:=hE u φ2 (by rw [hV];exact hv) hfull.agree
      exact ⟨by simp [hsz],hcl',by rw [put_size];exact hN,by rw [put_defers];exact hdef,fun j Ej hj hTj=>by
       rw [hnl] at hj;by_cases hji:j=i
       ·subst hji;rw [hT] at hTj;cases hTj;exact hpn
       ·rw [if_neg hji] at hj;exact hpI j Ej hj hTj,φ2,g1,g2,hStp.trans hfull⟩
 -- the end
 have hend: ∀listed a' w',Inv listed a' w'->(∀i,i<ops.size->listed.getD i false=true)->PostK N n0 B D0 φ0 H0 w0 K .normal a' w'/\a'.defers=a.defers:=by
  intro listed a' w' hI hall;obtain ⟨hsz,hcl,hN,hdef,hpI,φ',hE1,hE2,hStp⟩:=hI;have hK:K .normal (S ops.size).1 (S ops.size).2.1 (S ops.size).2.2:=by
   rcases hK with ⟨_,hK⟩|⟨i,E,io,k1,k2,k3,k4,u,k5,k6⟩
   ·exact hK
   ·have:=hpI i E (hall i (by omega)) k3;rw [k5] at this;cases this
  have hHS:HS (hget h) T (pl listed) ops.size=hget (S ops.size).2.1:=by
   rw [htext ops.size (Nat.le_refl _)];funext b;exact HS_ext _ _ _ _ b ops.size (fun j Ej r hj _ _=>hall j hj)
  rw [hHS] at hStp;have hnn:n<=(S ops.size).2.2:=by rw [<-hn00];exact hnmono ops.size 0 (by omega) (by omega)
  refine ⟨⟨DS listed,φ',(S ops.size).1,(S ops.size).2.1,(S ops.size).2.2,hK,by omega,⟨fun b hb=> ?_,fun t v hv=> ?_,hStp.hr,hN,by rw [hdef];exact hR.defers.stays hR.heap hStp.frm⟩,hS.trans hStp⟩,hdef⟩
  ·rcases hb with hb|⟨j,hj,_,_,h2⟩
   ·have:=hR.lt b hb;omega
   ·have:=hnmono ops.size (j+1) (by omega) (by omega);omega
  ·by_cases hex: ∃(j:Nat) (oj:Oper),ops[j]? =some oj/\oj.dst=some t
   ·obtain ⟨j,oj,hoj,hd⟩:=hex;have hj:=(Array.getElem?_eq_some_iff.1 hoj).1;have h1:=(henv ops.size (Nat.le_refl _) t).1 j oj hj hoj hd;rw [h1] at hv;cases hv;exact hE1 j oj t hoj (hall j hj) hd
   ·have h1:=(henv ops.size (Nat.le_refl _) t).2 (fun j' o' hj' ho' hd'=>hex ⟨j',o',ho',hd'⟩);rw [h1] at hv;exact hE2 t v (fun j' o' ho' hl' hd'=>hex ⟨j',o',ho',hd'⟩) hv
 have hready: ∀listed a' w',Inv listed a' w'->Region.ready .any ops listed=[]-> ∀i,i<ops.size->listed.getD i false=true:=by
  intro listed a' w' hI hnil i;induction i using Nat.strongRecOn with
  |_ i ih=>
   intro hi;cases hl:listed.getD i false
   ·exfalso;have hsz:=hI.1;have:i∈Region.ready .any ops listed:=mem_ready.2 ⟨by
     have:i<listed.size:=by omega
     simp [Array.getD,this] at hl ⊢;exact hl,ops[i],by simp [hi],fun ed hed' hb=>by
      have h1:=List.all_eq_true.1 hed i (List.mem_range.2 hi);simp only [Array.getElem?_eq_getElem hi,Array.all_eq_true_iff_forall_mem] at h1;have h2:=h1 ed hed';rw [hb] at h2;simp at h2;exact ih ed.on h2 (by omega)⟩
    rw [hnil] at this;cases this
   ·rfl
 -- the count
 have hloop: ∀(fuel:Nat) (listed:Array Bool) (a':Act) (w':World),Inv listed a' w'->((List.range ops.size).filter (fun i=> !listed.getD i false)).length<=fuel→
  wpAnyIn (Fw ro) 0 P .any ops (fun ex a' w'=>PostK N n0 B D0 φ0 H0 w0 K ex a' w'/\a'.defers=a.defers) fuel listed a' w':=by
  intro fuel;induction fuel with
  |zero=>
   intro listed a' w' hI hc;have hall: ∀i,i<ops.size->listed.getD i false=true:=fun i hi=>by
    cases hl:listed.getD i false
    ·exfalso;have:i∈(List.range ops.size).filter (fun i=> !listed.getD i false):=by rw [List.mem_filter];exact ⟨List.mem_range.2 hi,by simp [hl]⟩
     have:=List.length_pos_of_mem this;omega
    ·rfl
   refine ⟨?_,hend listed a' w' hI hall⟩;cases hr:Region.ready .any ops listed with
   |nil=>rfl
   |cons x l=>
    exfalso;have hx:x∈Region.ready .any ops listed:=by rw [hr];exact List.mem_cons_self
    obtain ⟨h1,o,ho,_⟩:=mem_ready.1 hx;have hlt:=(Array.getElem?_eq_some_iff.1 ho).1;have h2:=hall x hlt;have hsz:=hI.1;have:x<listed.size:=by omega
    simp [Array.getD,this] at h1 h2;rw [h1] at h2;cases h2
  |succ fuel ih=>
   intro listed a' w' hI hc;refine ⟨fun hnil=>hend listed a' w' hI (hready listed a' w' hI hnil),fun i hi=> ?_⟩;refine wpOpIn_mono (fun a'' w'' hI'=>ih _ a'' w'' hI' ?_) (hone listed a' w' i hI hi)
   -- one fewer
   obtain ⟨h1,o,ho,_⟩:=mem_ready.1 hi;have hlt:=(Array.getElem?_eq_some_iff.1 ho).1;have hsz:=hI.1;have hcount: ∀m,((List.range m).filter (fun j=> !(listed.setIfInBounds i true).getD j false)).length+(if i<m then 1 else 0)<=((List.range m).filter (fun j=> !listed.getD j false)).length:=fun m=>by
    induction m with
    |zero=>simp
    |succ m ihm=>
     rw [List.range_succ,List.filter_append,List.filter_append,List.length_append,List.length_append];by_cases him:i=m
     ·subst him;have e1:(listed.setIfInBounds i true).getD i false=true:=by simp [show i<listed.size by omega]
      have e2:listed.getD i false=false:=by
       have:i<listed.size:=by omega
       simp [Array.getD,this] at h1 ⊢;exact h1
      simp only [List.filter_cons,List.filter_nil,e1,e2,Bool.not_true,Bool.not_false,if_true,Bool.false_eq_true,if_false,List.length_nil,List.length_cons] at*;simp at ihm ⊢;omega
     ·have e1:(listed.setIfInBounds i true).getD m false=listed.getD m false:=getD_set_ne false him;simp only [List.filter_cons,List.filter_nil,e1];have:(if i<m+1 then 1 else 0)=(if i<m then 1 else 0:Nat):=by
       by_cases hh:i<m
       ·simp [hh,show i<m+1 by omega]
       ·simp [hh,show ¬i<m+1 by omega]
      rw [this];omega
   have:=hcount ops.size;rw [if_pos hlt] at this;omega
 refine wpIn_region_any hm (hloop ops.size _ a _ ?_ (by
  refine Nat.le_trans (List.length_filter_le _ _) (by simp)))
 have hfalse: ∀j,(Array.replicate ops.size false).getD j false=false:=fun j=>by
  rw [Array.getD_eq_getD_getElem?];cases hj:(Array.replicate ops.size false)[j]? with
  |none=>rfl
  |some x=>
   rw [Array.getElem?_replicate] at hj;split at hj
   ·cases hj;rfl
   ·cases hj
 have hHS0:HS (hget h) T (pl (Array.replicate ops.size false)) ops.size=hget h:=by
  funext b;rw [HS_stop (hget h) T _ b 0 ops.size (by omega) (fun j Ej r _ _ hl=>by
   have:(Array.replicate ops.size false).getD j false=true:=hl;rw [hfalse] at this;cases this)]
  rfl
 refine ⟨by simp,(fun j o hj=>by rw [hfalse] at hj;cases hj),hR.size,rfl,(fun j E hj=>by rw [hfalse] at hj;cases hj),φ,(fun j o t _ hj=>by rw [hfalse] at hj;cases hj),fun t v _ hv=>(hR.env t v hv).mono (fun b hb=> .inl hb) (Agree.refl _ _),?_⟩
 rw [hHS0];have hsubD: ∀b,D b->DS (Array.replicate ops.size false) b:=fun b hb=> .inl hb;have hR1:=hR.heap.world (w':={w with drawn:=w.drawn+1}) rfl
 exact ⟨hsubD,Agree.refl _ _,hR1.grow hsubD,⟨rfl,rfl,rfl,Nat.le_refl _,fun _ _ _=>rfl⟩,fun b k hb hk=> .inr ⟨b,k,hb,hk,rfl⟩,fun _ _ h=> .inl h⟩
theorem runD_sound {B:List Deferred} {ro:Option Nat} (hcx:Sound P cx) (hm:P.follows .mixedOrders=true) {K:Kont} {D0:Nat->Prop} {φ0:Phi} {H0:Hf} {w0:World} {ops:Array Oper} {sp:List Nat} {id:Nat} (hn0: ∀b,D0 b->b<n0)
 (hgu:guardOK ops.toList=true) (hdst:dstOK N ops.toList=true) (hgl:globOK ops.toList=true) (hdr:drawOK ops=true)
 {e:Env} {h:Hp} {n:Nat} {D:Nat->Prop} {φ:Phi} {a:Act} {w:World} (hn:n0<=n)
 (hrun:runD cx (List.zip (ops.toList.map (compOper P ops.toList sp)) (uns ops)) 0 [] e h n K) (hR:Rel D φ e h n N (w0.heap.size,B) a w) (hS:Stp D0 φ0 H0 w0 D φ (hget h) w):
 (Code.region id ops true).wpIn (Fw ro) 0 P (fun ex a' w'=>PostK N n0 B D0 φ0 H0 w0 K ex a' w') a w:=
 wpIn_mono (runD_soundD hcx hm hn0 hgu hdst hgl hdr hn hrun hR hS) (fun _ _ _ h=>h.1)
end
end Go.Ab
namespace Go.Ab
def condTmps:Code->List Nat
 | .cond (.tmp t) a b=>t::(condTmps a++condTmps b)
 | .cond _ a b=>condTmps a++condTmps b
 | .seq a b=>condTmps a++condTmps b
 | .block _ c=>condTmps c
 | .loop c=>condTmps c
 | .scope c=>condTmps c
 | .rangeFunc _ _ a b=>condTmps a++condTmps b
 |_=>[]
def compC (P:Program) (ct:List Nat) (N:Nat):Code->ICode
 | .skip=> .skip
 | .region _ ops draw=>
  let l:=ops.toList;let sp:=guardTmps l++ct
  if dstOK N l&&guardOK l&&(!draw||(globOK l&&drawOK ops)) then
   (if draw then .dreg (List.zip (l.map (compOper P l sp)) (uns ops)) else .reg (l.map (compOper P l sp)))
  else .bad
 | .seq a b=> .seq (compC P ct N a) (compC P ct N b)
 | .cond c a b=>match cO c with
  |some (.g _)=> .bad
  |some x=> .cond x (compC P ct N a) (compC P ct N b)
  |none=> .bad
 | .block id c=> .block id (compC P ct N c)
 | .loop c=> .loop (compC P ct N c)
 | .scope c=> .scope (compC P ct N c)
 | .label _=> .skip
 | .rangeFunc g ps a b=>match cO g with
  |some (.g _)=> .bad
  |some x=> .rfunc x ps.toList (compC P ct N a) (compC P ct N b)
  |none=> .bad
 | .exit id=> .exit id
 | .ret=> .ret
 |_=> .bad
def Loop (P:Program) (ct:List Nat) (N n0:Nat) (c:ICode) (K:Kont) (e:Env) (h:Hp) (n:Nat):Prop:=
 ∀c',compC P ct N c'=c->WP P N n0 (.loop c') K e h n
def RFunc (P:Program) (ct:List Nat) (N n0:Nat) (g:Opd) (ps:List Nat) (a b:ICode) (K:Kont) (e:Env) (h:Hp) (n:Nat):Prop:=
 ∀c',compC P ct N c'= .rfunc g ps a b->WP P N n0 c' K e h n
structure Fx where
 P:Program
 cx:Cx
 ct:List Nat
 N:Nat
 n0:Nat
def thenK (K:Kont) (k:Env->Hp->Nat->Prop):Kont:=fun ex e h n=>
 match ex with
 | .normal=>k e h n
 |ex=>K ex e h n
def blockK (id:Nat) (K:Kont):Kont:=fun ex e h n=>
 match ex with
 | .exit i=>if i=id then K .normal e h n else K (.exit i) e h n
 |ex=>K ex e h n
def scopeK (K:Kont):Kont:=fun ex e h n=>
 match ex with
 | .goto _=>False
 |ex=>K ex e h n
def iw (F:Fx):ICode->Kont->Env->Hp->Nat->Prop
 | .skip,K,e,h,n=>K .normal e h n
 | .reg ops,K,e,h,n=>runOps F.cx ops e h n K
 | .dreg ops,K,e,h,n=>runD F.cx ops 0 [] e h n K
 | .seq a b,K,e,h,n=>iw F a (thenK K (iw F b K)) e h n
 | .cond c a b,K,e,h,n=>gd (c.ev e h) fun v=>match v with
  | .b x=>spB x (iw F a K e h n) (iw F b K e h n)
  |_=>False
 | .block id c,K,e,h,n=>iw F c (blockK id K) e h n
 | .loop c,K,e,h,n=>Loop F.P F.ct F.N F.n0 c K e h n
 | .scope c,K,e,h,n=>iw F c (scopeK K) e h n
 | .rfunc g ps a b,K,e,h,n=>RFunc F.P F.ct F.N F.n0 g ps a b K e h n
 | .exit id,K,e,h,n=>K (.exit id) e h n
 | .ret,K,e,h,n=>K .ret e h n
 | .bad,_,_,_,_=>False
theorem PostK.mono {B:List Deferred} {N n0:Nat} {D0:Nat->Prop} {φ0:Phi} {H0:Hf} {w0:World} {K K':Kont} (hk: ∀ex e h n,K ex e h n->K' ex e h n) {ex:Exit} {a:Act} {w:World} (h:PostK N n0 B D0 φ0 H0 w0 K ex a w):
 PostK N n0 B D0 φ0 H0 w0 K' ex a w:=
 let ⟨D,φ,e,h',n,h1,h2⟩:=h;⟨D,φ,e,h',n,hk _ _ _ _ h1,h2⟩
theorem WP.mono {P:Program} {N n0:Nat} {c:Code} {K K':Kont} {e:Env} {h:Hp} {n:Nat} (hk: ∀ex e h n,K ex e h n->K' ex e h n) (hw:WP P N n0 c K e h n):WP P N n0 c K' e h n:=
 fun ro hro B D0 φ0 H0 w0 h1 h2 D φ a w hR hS=>wpIn_mono (hw ro hro B D0 φ0 H0 w0 h1 h2 D φ a w hR hS) (fun ex a' w' hp=>hp.mono hk)
theorem wpIn_scope_straight {F:Fence} {n:Nat} {P:Program} {Q:Exit->Act->World->Prop} {a:Act} {w:World} {c:Code} (h:c.wpIn F n P (Exit.noGoto Q) a w):(Code.scope c).wpIn F n P Q a w:=by
 intro b k cs hro hb hr;have h0:(lone (b.atR a (.code (.scope c)::k)) cs w).fenced P F:=fenced_calm hb hr rfl;have s1:Go.step P (lone (b.atR a (.code (.scope c)::k)) cs w)= .next (lone (b.atR a (.code c:: .inScope c::k)) cs w):=step_lone_go (by simp [stepG,stepG.exec,Frame.atR])
 have s2: ∀a w,Go.step P (lone (b.atR a (.inScope c::k)) cs w)= .next (lone (b.atR a k) cs w):=fun a w=>step_lone_go (by simp [stepG,stepG.exec,Frame.atR])
 obtain ⟨e,a₁,w₁,hq,harr⟩:=h b (.inScope c::k) cs hro hb hr;cases e with
 |normal=>exact ⟨.normal,a₁,w₁,hq,.head h0 s1 (StepsIn.trans harr (.one (fenced_calm hb hr rfl) (s2 _ _)))⟩
 |exit id'=>
  have hx:exitTo id' (.inScope c::k)=exitTo id' k:=by simp [exitTo]
  exact ⟨.exit id',a₁,w₁,hq,fun k' hk=> .head h0 s1 (harr.1 k' (by rw [hx];exact hk)),
   fun hr' hk=>let ⟨k₁,h1,h2⟩:=harr.2 hr' (by rw [hx];exact hk);⟨k₁,h1,.head h0 s1 h2⟩⟩
 |goto l=>exact hq.elim
 |ret=>exact ⟨_,a₁,w₁,hq,.of_steps (.one h0 s1) harr⟩
 |panic ch=>exact ⟨_,a₁,w₁,hq,.of_steps (.one h0 s1) harr⟩
 |outgrown=>exact ⟨_,a₁,w₁,hq,.of_steps (.one h0 s1) harr⟩
theorem iw_sound (F:Fx) (hcx:Sound F.P F.cx) (hm:F.P.follows .mixedOrders=true): ∀(c:Code) (K:Kont) (e:Env) (h:Hp) (n:Nat),iw F (compC F.P F.ct F.N c) K e h n->WP F.P F.N F.n0 c K e h n:=by
 intro c;induction c with
 |skip=>intro K e h n hi ro hro B D0 φ0 H0 w0 h1 h2 D φ a w hR hS;exact wpIn_skip ⟨D,φ,e,h,n,hi,h2,hR,hS⟩
 |region id ops draw=>
  intro K e h n hi ro hro B D0 φ0 H0 w0 h1 h2 D φ a w hR hS;simp only [compC] at hi;split at hi
  ·rename_i hc;simp only [Bool.and_eq_true,Bool.or_eq_true,Bool.not_eq_true'] at hc;obtain ⟨⟨hc1,hc2⟩,hc4⟩:=hc;cases draw
   ·simp only [Bool.false_eq_true,if_false,iw] at hi;exact wpIn_region_list (runOps_sound hcx h1 hc2 ops.toList (fun o ho=>ho) hc1 e h n D φ a w h2 hi hR hS)
   ·simp only [if_true,iw] at hi;exact runD_sound hcx hm h1 hc2 hc1 (hc4.resolve_left (by simp)).1 (hc4.resolve_left (by simp)).2 h2 hi hR hS
  ·exact hi.elim
 |seq x y ihx ihy=>
  intro K e h n hi ro hro B D0 φ0 H0 w0 h1 h2 D φ a w hR hS;simp only [compC,iw] at hi;have hro1:ro=none\/(noRF x=true/\noRF y=true):=hro.imp _root_.id (fun h=>by simpa [noRF] using h)
  refine wpIn_seq (wpIn_mono (ihx _ e h n hi ro (hro1.imp _root_.id (·.1)) B D0 φ0 H0 w0 h1 h2 D φ a w hR hS) (fun ex a' w' hp=> ?_));obtain ⟨D',φ',e',h',n',hk,hn',hR',hS'⟩:=hp;cases ex with
  |normal=>exact ihy K e' h' n' hk ro (hro1.imp _root_.id (·.2)) B D0 φ0 H0 w0 h1 hn' D' φ' a' w' hR' hS'
  |exit id=>exact ⟨D',φ',e',h',n',hk,hn',hR',hS'⟩
  |goto l=>exact ⟨D',φ',e',h',n',hk,hn',hR',hS'⟩
  |ret=>exact ⟨D',φ',e',h',n',hk,hn',hR',hS'⟩
  |panic ch=>exact ⟨D',φ',e',h',n',hk,hn',hR',hS'⟩
  |outgrown=>exact ⟨D',φ',e',h',n',hk,hn',hR',hS'⟩
 |cond c x y ihx ihy=>
  intro K e h n hi ro hro B D0 φ0 H0 w0 h1 h2 D φ a w hR hS;have hro1:ro=none\/(noRF x=true/\noRF y=true):=hro.imp _root_.id (fun h=>by simpa [noRF] using h)
  simp only [compC] at hi;split at hi
  ·exact hi.elim
  ·rename_i x' hng hc;simp only [iw] at hi;obtain ⟨v,hv,hi⟩:=gd_elim hi;split at hi
   ·rename_i b;have hvr:VRel D φ (.b b) (a.eval c):=opd_rel (fun t v _ hv=>hR.env t v hv) hc (fun g hg=>by subst hg;simp only [cO,Option.some.injEq] at hc;exact hng g hc.symm) hv
    generalize hu:a.eval c=u at hvr;cases hvr;cases b
    ·exact wpIn_cond_false hu (ihy K e h n (hi.2 rfl) ro (hro1.imp _root_.id (·.2)) B D0 φ0 H0 w0 h1 h2 D φ a w hR hS)
    ·exact wpIn_cond_true hu (ihx K e h n (hi.1 rfl) ro (hro1.imp _root_.id (·.1)) B D0 φ0 H0 w0 h1 h2 D φ a w hR hS)
   ·exact hi.elim
  ·exact hi.elim
 |block id c ih=>
  intro K e h n hi ro hro B D0 φ0 H0 w0 h1 h2 D φ a w hR hS;simp only [compC,iw] at hi;refine wpIn_block (wpIn_mono (ih _ e h n hi ro (hro.imp _root_.id (fun h=>by simpa [noRF] using h)) B D0 φ0 H0 w0 h1 h2 D φ a w hR hS) (fun ex a' w' hp=> ?_))
  obtain ⟨D',φ',e',h',n',hk,hn',hR',hS'⟩:=hp;cases ex with
  |exit i=>
   simp only [blockK] at hk;simp only [Exit.inBlock];split
   ·rename_i hid;rw [if_pos hid] at hk;exact ⟨D',φ',e',h',n',hk,hn',hR',hS'⟩
   ·rename_i hid;rw [if_neg hid] at hk;exact ⟨D',φ',e',h',n',hk,hn',hR',hS'⟩
  |normal=>exact ⟨D',φ',e',h',n',hk,hn',hR',hS'⟩
  |goto l=>exact ⟨D',φ',e',h',n',hk,hn',hR',hS'⟩
  |ret=>exact ⟨D',φ',e',h',n',hk,hn',hR',hS'⟩
  |panic ch=>exact ⟨D',φ',e',h',n',hk,hn',hR',hS'⟩
  |outgrown=>exact ⟨D',φ',e',h',n',hk,hn',hR',hS'⟩
 |loop c ih=>intro K e h n hi;simp only [compC,iw] at hi;exact hi c rfl
 |rangeFunc g ps x y ihx ihy=>
  intro K e h n hi;cases hg:cO g with
  |none=>simp only [compC,hg,iw] at hi
  |some o=>
   cases o with
   |g _=>simp only [compC,hg,iw] at hi
   |t _=>simp only [compC,hg,iw] at hi;exact hi (.rangeFunc g ps x y) (by simp only [compC,hg])
   |c _=>simp only [compC,hg,iw] at hi;exact hi (.rangeFunc g ps x y) (by simp only [compC,hg])
 |scope c ih=>
  intro K e h n hi ro hro B D0 φ0 H0 w0 h1 h2 D φ a w hR hS;simp only [compC,iw] at hi;refine wpIn_scope_straight (wpIn_mono (ih _ e h n hi ro (hro.imp _root_.id (fun h=>by simpa [noRF] using h)) B D0 φ0 H0 w0 h1 h2 D φ a w hR hS) (fun ex a' w' hp=> ?_))
  obtain ⟨D',φ',e',h',n',hk,hn',hR',hS'⟩:=hp;cases ex with
  |goto l=>exact hk.elim
  |_=>exact ⟨D',φ',e',h',n',hk,hn',hR',hS'⟩
 |label l=>intro K e h n hi ro hro B D0 φ0 H0 w0 h1 h2 D φ a w hR hS;exact wpIn_label ⟨D,φ,e,h,n,hi,h2,hR,hS⟩
 |exit id=>intro K e h n hi ro hro B D0 φ0 H0 w0 h1 h2 D φ a w hR hS;exact wpIn_exit ⟨D,φ,e,h,n,hi,h2,hR,hS⟩
 |ret=>intro K e h n hi ro hro B D0 φ0 H0 w0 h1 h2 D φ a w hR hS;exact wpIn_ret ⟨D,φ,e,h,n,hi,h2,hR,hS⟩
 |_=>intro K e h n hi;exact hi.elim
/-! ### renaming and forgetting -/
mutual
def AV.ren (ψ:Nat->Nat):AV->AV
 | .p b o=> .p (ψ b) o
 | .sl b o l c=> .sl (ψ b) o l c
 | .sg b o l=> .sg (ψ b) o l
 | .fn f l=> .fn f (renL ψ l)
 | .bm f l=> .bm f (renL ψ l)
 | .agg l=> .agg (renL ψ l)
 | .tup l=> .tup (renL ψ l)
 | .b x=> .b x
 | .i k n=> .i k n
 | .s l=> .s l
 | .np=> .np
 | .ns=> .ns
 | .nf=> .nf
 | .ni=> .ni
 | .fz l n=> .fz (renL ψ l) n
 | .fp l k=> .fp (renL ψ l) k
 | .ze=> .ze
 | .en=> .en
 | .any=> .any
 | .k t u=> .k t u
 | .m b=> .m (ψ b)
 | .nm=> .nm
 | .yl L r ts l=> .yl L r ts (renL ψ l)
def renL (ψ:Nat->Nat):List AV->List AV
 |[]=>[]
 |v::r=>v.ren ψ::renL ψ r
end
mutual
def AV.bel (m:Nat):AV->Bool
 | .p b _=>Nat.blt b m
 | .sl b _ _ _=>Nat.blt b m
 | .sg b _ _=>Nat.blt b m
 | .fn _ l=>belL m l
 | .bm _ l=>belL m l
 | .agg l=>belL m l
 | .tup l=>belL m l
 | .b _=>true
 | .i _ _=>true
 | .s _=>true
 | .np=>true
 | .ns=>true
 | .nf=>true
 | .ni=>true
 | .fz l _=>belL m l
 | .fp l _=>belL m l
 | .ze=>true
 | .en=>true
 | .any=>true
 | .k _ _=>true
 | .m b=>Nat.blt b m
 | .nm=>true
 | .yl _ _ _ l=>belL m l
def belL (m:Nat):List AV->Bool
 |[]=>true
 |v::r=>v.bel m&&belL m r
end
theorem blt_lt {a b:Nat} (h:Nat.blt a b=true):a<b:=by rw [Nat.blt_eq] at h;exact h
theorem renL_eq (ψ:Nat->Nat): ∀l,renL ψ l=l.map (AV.ren ψ)
 |[]=>rfl
 |v::r=>by simp [renL,renL_eq ψ r]
theorem belL_spec {m:Nat}: ∀{l:List AV},belL m l=true-> ∀v∈l,v.bel m=true
 |[],_,v,hv=>by cases hv
 |x::r,h,v,hv=>by
  simp only [belL,Bool.and_eq_true] at h;rcases List.mem_cons.1 hv with rfl|hv
  ·exact h.1
  ·exact belL_spec h.2 v hv
def Phi.comp (φ:Phi) (ψ:Nat->Nat):Phi where
 blk b:=φ.blk (ψ b)
 off b:=φ.off (ψ b)
 cap b:=φ.cap (ψ b)
 esz b:=φ.esz (ψ b)
 fz:=φ.fz
 lp:=φ.lp
theorem VRel.unren {D:Nat->Prop} {φ:Phi} {ψ:Nat->Nat} {m:Nat} {v':AV} {u:Value} (h:VRel D φ v' u): ∀v:AV,v'=v.ren ψ->v.bel m=true->VRel (fun b=>b<m/\D (ψ b)) (φ.comp ψ) v u:=by
 induction h with
 |b x=>intro v hv hb;cases v<;>simp [AV.ren] at hv;subst hv;exact .b _
 |i k n=>intro v hv hb;cases v<;>simp [AV.ren] at hv;obtain ⟨rfl,rfl⟩:=hv;exact .i _ _
 |s l=>intro v hv hb;cases v<;>simp [AV.ren] at hv;subst hv;exact .s _
 |np=>intro v hv hb;cases v<;>simp [AV.ren] at hv;exact .np
 |p b o h=>
  intro v hv hb;cases v<;>simp [AV.ren] at hv;obtain ⟨rfl,rfl⟩:=hv;exact .p _ _ ⟨blt_lt hb,h⟩
 |ns=>intro v hv hb;cases v<;>simp [AV.ren] at hv;exact .ns
 |sl b o len cap h=>
  intro v hv hb;cases v<;>simp [AV.ren] at hv;obtain ⟨rfl,rfl,rfl,rfl⟩:=hv;exact .sl _ _ _ _ ⟨blt_lt hb,h⟩
 |sg b o len j cap h hj hc hl=>
  intro v hv hb;cases v<;>simp [AV.ren] at hv;obtain ⟨rfl,rfl,rfl⟩:=hv;exact .sg _ _ _ j cap ⟨blt_lt hb,h⟩ hj hc hl
 |fn f l cs hf hl h ih=>
  intro v hv hb;cases v<;>simp [AV.ren] at hv;rename_i f' l';obtain ⟨rfl,rfl⟩:=hv;rw [renL_eq] at hl h ih;refine .fn _ _ cs hf (by simpa using hl) (fun i a u ha hu=>ih i (a.ren ψ) u (by simp [ha]) hu a rfl ?_)
  exact belL_spec hb a (List.mem_of_getElem? ha)
 |bm f l cs hf hl h ih=>
  intro v hv hb;cases v<;>simp [AV.ren] at hv;rename_i f' l';obtain ⟨rfl,rfl⟩:=hv;rw [renL_eq] at hl h ih;refine .bm _ _ cs hf (by simpa using hl) (fun i a u ha hu=>ih i (a.ren ψ) u (by simp [ha]) hu a rfl ?_)
  exact belL_spec hb a (List.mem_of_getElem? ha)
 |nf=>intro v hv hb;cases v<;>simp [AV.ren] at hv;exact .nf
 |ni=>intro v hv hb;cases v<;>simp [AV.ren] at hv;exact .ni
 |agg l cs hl h ih=>
  intro v hv hb;cases v<;>simp [AV.ren] at hv;rename_i l';subst hv;rw [renL_eq] at hl h ih;refine .agg _ cs (by simpa using hl) (fun i a u ha hu=>ih i (a.ren ψ) u (by simp [ha]) hu a rfl ?_)
  exact belL_spec hb a (List.mem_of_getElem? ha)
 |tup l cs hl h ih=>
  intro v hv hb;cases v<;>simp [AV.ren] at hv;rename_i l';subst hv;rw [renL_eq] at hl h ih;refine .tup _ cs (by simpa using hl) (fun i a u ha hu=>ih i (a.ren ψ) u (by simp [ha]) hu a rfl ?_)
  exact belL_spec hb a (List.mem_of_getElem? ha)
 |fz l n B o cap vs hB hc hs h ih=>
  intro v hv hb;cases v<;>simp [AV.ren] at hv;rename_i l' n';obtain ⟨rfl,rfl⟩:=hv;rw [renL_eq] at hs h ih;refine .fz _ _ B o cap vs hB hc (by simpa using hs) (fun i a u ha hu=>ih i (a.ren ψ) u (by simp [ha]) hu a rfl ?_)
  exact belL_spec hb a (List.mem_of_getElem? ha)
 |fz0 l x cap hc=>
  intro v hv hb;cases v<;>simp [AV.ren] at hv;obtain ⟨rfl,h0⟩:=hv;rw [<-h0];exact .fz0 _ _ _ hc
 |fp l k B o vs hB hs h ih=>
  intro v hv hb;cases v<;>simp [AV.ren] at hv;rename_i l' n';obtain ⟨rfl,rfl⟩:=hv;rw [renL_eq] at hs h ih;refine .fp _ _ B o vs hB (by simpa using hs) (fun i a u ha hu=>ih i (a.ren ψ) u (by simp [ha]) hu a rfl ?_)
  exact belL_spec hb a (List.mem_of_getElem? ha)
 |ze x=>intro v hv hb;cases v<;>simp [AV.ren] at hv;exact .ze _
 |en x cap=>intro v hv hb;cases v<;>simp [AV.ren] at hv;exact .en _ _
 |any u=>intro v hv hb;cases v<;>simp [AV.ren] at hv;exact .any _
 |k t u=>intro v hv hb;cases v<;>simp [AV.ren] at hv;obtain ⟨rfl,rfl⟩:=hv;exact .k _ _
 |m b h=>intro v hv hb;cases v<;>simp [AV.ren] at hv;subst hv;exact .m _ ⟨blt_lt hb,h⟩
 |nm=>intro v hv hb;cases v<;>simp [AV.ren] at hv;exact .nm
 |yl L r ts l hL h ih=>
  intro v hv hb;cases v<;>simp [AV.ren] at hv;rename_i L' r' ts' l';obtain ⟨rfl,rfl,rfl,rfl⟩:=hv;rw [renL_eq] at h ih;refine .yl _ _ _ _ hL (fun i t a ht ha=>ih i t (a.ren ψ) ht (by simp [ha]) a rfl ?_)
  exact belL_spec hb a (List.mem_of_getElem? ha)
theorem VRel.ren {D2:Nat->Prop} {D:Nat->Prop} {φ2 φ:Phi} {ψ:Nat->Nat} {v:AV} {u:Value} (h:VRel D2 φ2 v u) (hD: ∀b,D2 b->D (ψ b)) (hφ: ∀b,D2 b->φ2.blk b=φ.blk (ψ b)/\φ2.off b=φ.off (ψ b)/\φ2.cap b=φ.cap (ψ b)/\φ2.esz b=φ.esz (ψ b)) (hz: ∀B vs,φ2.fz B=some vs->φ.fz B=some vs) (hl: ∀L r,φ2.lp L=some r->φ.lp L=some r):
 VRel D φ (v.ren ψ) u:=by
 induction h with
 |b x=>exact .b _
 |i k n=>exact .i _ _
 |s l=>exact .s _
 |np=>exact .np
 |p b o h=>obtain ⟨h1,h2,_⟩:=hφ b h;rw [h1,h2];exact .p _ _ (hD b h)
 |ns=>exact .ns
 |sl b o len cap h=>obtain ⟨h1,h2,_⟩:=hφ b h;rw [h1,h2];exact .sl _ _ _ _ (hD b h)
 |sg b o len j cap h hj hc hl=>obtain ⟨h1,h2,h3,h4⟩:=hφ b h;rw [h1,h2];exact .sg _ _ _ j cap (hD b h) (by rw [<-h4];exact hj) (by rw [<-h3];exact hc) hl
 |fn f l cs hf hl h ih=>
  refine .fn _ _ cs hf (by rw [renL_eq];simpa using hl) (fun i a u ha hu=> ?_)
  rw [renL_eq,List.getElem?_map,Option.map_eq_some_iff] at ha;obtain ⟨a',ha',rfl⟩:=ha;exact ih i a' u ha' hu
 |bm f l cs hf hl h ih=>
  refine .bm _ _ cs hf (by rw [renL_eq];simpa using hl) (fun i a u ha hu=> ?_)
  rw [renL_eq,List.getElem?_map,Option.map_eq_some_iff] at ha;obtain ⟨a',ha',rfl⟩:=ha;exact ih i a' u ha' hu
 |nf=>exact .nf
 |ni=>exact .ni
 |m b h=>obtain ⟨h1,_⟩:=hφ b h;rw [h1];exact .m _ (hD b h)
 |nm=>exact .nm
 |agg l cs hl h ih=>
  refine .agg _ cs (by rw [renL_eq];simpa using hl) (fun i a u ha hu=> ?_)
  rw [renL_eq,List.getElem?_map,Option.map_eq_some_iff] at ha;obtain ⟨a',ha',rfl⟩:=ha;exact ih i a' u ha' hu
 |tup l cs hl h ih=>
  refine .tup _ cs (by rw [renL_eq];simpa using hl) (fun i a u ha hu=> ?_)
  rw [renL_eq,List.getElem?_map,Option.map_eq_some_iff] at ha;obtain ⟨a',ha',rfl⟩:=ha;exact ih i a' u ha' hu
 |fz l n B o cap vs hB hc hs h ih=>
  refine .fz _ _ B o cap vs (hz _ _ hB) hc (by rw [renL_eq];simpa using hs) (fun i a u ha hu=> ?_)
  rw [renL_eq,List.getElem?_map,Option.map_eq_some_iff] at ha;obtain ⟨a',ha',rfl⟩:=ha;exact ih i a' u ha' hu
 |fz0 l x cap hc=>exact .fz0 _ _ _ hc
 |fp l k B o vs hB hs h ih=>
  refine .fp _ _ B o vs (hz _ _ hB) (by rw [renL_eq];simpa using hs) (fun i a u ha hu=> ?_)
  rw [renL_eq,List.getElem?_map,Option.map_eq_some_iff] at ha;obtain ⟨a',ha',rfl⟩:=ha;exact ih i a' u ha' hu
 |ze x=>exact .ze _
 |en x cap=>exact .en _ _
 |any u=>exact .any _
 |k t u=>exact .k _ _
 |yl L r ts l hL h ih=>
  refine .yl _ _ _ _ (hl _ _ hL) (fun i t a ht ha=> ?_);rw [renL_eq,List.getElem?_map,Option.map_eq_some_iff] at ha;obtain ⟨a',ha',rfl⟩:=ha;exact ih i t a' ht ha'
def Blk.ren (ψ:Nat->Nat) (k:Blk):Blk:={k with cells:=renL ψ k.cells}
structure Wk (n0:Nat) (ψ:Nat->Nat) (e:Env) (h:Hp) (n:Nat) (e2:Env) (h2:Hp) (n2:Nat):Prop where
 n0le:n0<=n2
 fix: ∀b,b<n0->ψ b=b
 env: ∀t v,eget e2 t=some v->eget e t=some (v.ren ψ)/\v.bel n2=true
 heap: ∀b k,hget h2 b=some k->hget h (ψ b)=some (k.ren ψ)/\belL n2 k.cells=true/\b<n2
 inj: ∀b1 b2 k1 k2,hget h2 b1=some k1->hget h2 b2=some k2->k1.ro=false->ψ b1=ψ b2->b1=b2
theorem Rel.weaken {m:Nat×List Deferred} {D:Nat->Prop} {φ:Phi} {ψ:Nat->Nat} {n0 n n2 N:Nat} {e e2:Env} {h h2:Hp} {a:Act} {w:World} {D0:Nat->Prop} {φ0:Phi} {H0:Hf} {w0:World} (hW:Wk n0 ψ e h n e2 h2 n2) (hn0: ∀b,D0 b->b<n0)
 (hR:Rel D φ e h n N m a w) (hS:Stp D0 φ0 H0 w0 D φ (hget h) w):
 Rel (fun b=>b<n2/\D (ψ b)) (φ.comp ψ) e2 h2 n2 N m a w/\Stp D0 φ0 H0 w0 (fun b=>b<n2/\D (ψ b)) (φ.comp ψ) (hget h2) w:=by
 have hheap:HR (fun b=>b<n2/\D (ψ b)) (φ.comp ψ) (hget h2) w:=by
  refine ⟨⟨fun b k hb=> ?_,fun b1 b2 k1 k2 hne h1 h2' hk=> ?_⟩,hR.heap.fz,hR.heap.lp,fun b k B vs hb hk hB=>hR.heap.fsep (ψ b) (k.ren ψ) B vs (hW.heap b k hb).1 hk hB⟩
  ·obtain ⟨g1,g2,g3⟩:=hW.heap b k hb;obtain ⟨hd,⟨⟨cs,elem,fr,q1,q2,q3,q4⟩,q5⟩⟩:=hR.heap.at_ (ψ b) _ g1;refine ⟨⟨g3,hd⟩,⟨⟨cs,elem,fr,q1,fun i v hv=> ?_,q3,q4⟩,q5⟩⟩;obtain ⟨u,hu,hr⟩:=q2 i (v.ren ψ) (by simp [Blk.ren,renL_eq,hv])
   exact ⟨u,hu,hr.unren v rfl (belL_spec g2 v (List.mem_of_getElem? hv))⟩
  ·obtain ⟨g1,_,_⟩:=hW.heap b1 k1 h1;obtain ⟨g2,_,_⟩:=hW.heap b2 k2 h2';exact hR.heap.sep (ψ b1) (ψ b2) _ _ (fun e=>hne (hW.inj b1 b2 k1 k2 h1 h2' hk e)) g1 g2 hk
 refine ⟨⟨fun b hb=>hb.1,fun t v hv=> ?_,hheap,hR.size,hR.defers⟩,⟨fun b hb=> ?_,⟨fun b hb=> ?_,hS.agree.fz,hS.agree.lp⟩,hheap,hS.frm,fun b k hb hk=> ?_,hS.fnew⟩⟩
 ·obtain ⟨g1,g2⟩:=hW.env t v hv;exact (hR.env t _ g1).unren v rfl g2
 ·have:=hn0 b hb;exact ⟨Nat.lt_of_lt_of_le this hW.n0le,by rw [hW.fix b this];exact hS.sub b hb⟩
 ·have:=hn0 b hb;simp only [Phi.comp,hW.fix b this];exact hS.agree.at_ b hb
 ·obtain ⟨g1,_,_⟩:=hW.heap b k hb;exact hS.img (ψ b) _ g1 hk
theorem WP.weaken {P:Program} {N n0:Nat} {c:Code} {K:Kont} {ψ:Nat->Nat} {e e2:Env} {h h2:Hp} {n n2:Nat} (hW:Wk n0 ψ e h n e2 h2 n2) (hw:WP P N n0 c K e2 h2 n2):WP P N n0 c K e h n:=
 fun ro hro B D0 φ0 H0 w0 h1 h2 D φ a w hR hS=>
  let ⟨hR',hS'⟩:=Rel.weaken hW h1 hR hS
  hw ro hro B D0 φ0 H0 w0 h1 hW.n0le _ _ a w hR' hS'
theorem Loop.invW {F:Fx} {c:ICode} {K:Kont} {X:Type} (I:X->Env×Hp×Nat) (μ:X->Nat) {e:Env} {h:Hp} {n:Nat} (x0:X) (ψ0:Nat->Nat)
 (h0:Wk F.n0 ψ0 e h n (I x0).1 (I x0).2.1 (I x0).2.2)
 (round: ∀x c',compC F.P F.ct F.N c'=c->WP F.P F.N F.n0 c' (thenK K fun e' h' n'=> ∃x' ψ,Wk F.n0 ψ e' h' n' (I x').1 (I x').2.1 (I x').2.2/\μ x'<μ x) (I x).1 (I x).2.1 (I x).2.2):
 Loop F.P F.ct F.N F.n0 c K e h n:=by
 intro c' hc';have hround:=fun x=>round x c' hc';intro ro hro B D0 φ0 H0 w0 h1 h2 D φ a w hR hS;intro b k cs hro' hb hr;have key: ∀m x,μ x=m-> ∀D φ a w,Rel D φ (I x).1 (I x).2.1 (I x).2.2 F.N (w0.heap.size,B) a w->Stp D0 φ0 H0 w0 D φ (hget (I x).2.1) w->F.n0<=(I x).2.2→
  ∃ex a' w',PostK F.N F.n0 B D0 φ0 H0 w0 K ex a' w'/\ArrivesIn (Machine.fenced F.P (Fw ro)) F.P (lone (b.atR a (.code c':: .inLoop c'::k)) cs w) b k cs ex a' w':=by
  intro m;induction m using Nat.strongRecOn with
  |_ m ih=>
   intro x hx D φ a w hR hS hn;obtain ⟨ex,a1,w1,hq,harr⟩:=hround x ro hro B D0 φ0 H0 w0 h1 hn D φ a w hR hS b (.inLoop c'::k) cs hro' hb hr;obtain ⟨D',φ',e',h',n',hk,hn',hR',hS'⟩:=hq;cases ex with
   |normal=>
    obtain ⟨x',ψ,hW,hlt⟩:=hk;obtain ⟨hR2,hS2⟩:=Rel.weaken hW h1 hR' hS';obtain ⟨e2,a2,w2,hq2,harr2⟩:=ih (μ x') (hx▸hlt) x' rfl _ _ a1 w1 hR2 hS2 hW.n0le;exact ⟨e2,a2,w2,hq2,.of_steps (StepsIn.trans harr (.one (fenced_calm hb hr rfl) stepR_inLoop)) harr2⟩
   |exit id=>exact ⟨_,a1,w1,⟨D',φ',e',h',n',hk,hn',hR',hS'⟩,.pass (x:= .inLoop c') rfl (fun _ _=> .inl (by simp)) harr⟩
   |goto l=>exact ⟨_,a1,w1,⟨D',φ',e',h',n',hk,hn',hR',hS'⟩,.pass (x:= .inLoop c') rfl (fun _ _=> .inl (by simp)) harr⟩
   |ret=>exact ⟨_,a1,w1,⟨D',φ',e',h',n',hk,hn',hR',hS'⟩,.pass (x:= .inLoop c') rfl (fun _ _=> .inl (by simp)) harr⟩
   |panic ch=>exact ⟨_,a1,w1,⟨D',φ',e',h',n',hk,hn',hR',hS'⟩,.pass (x:= .inLoop c') rfl (fun _ _=> .inl (by simp)) harr⟩
   |outgrown=>exact ⟨_,a1,w1,⟨D',φ',e',h',n',hk,hn',hR',hS'⟩,.pass (x:= .inLoop c') rfl (fun _ _=> .inl (by simp)) harr⟩
 obtain ⟨hR',hS'⟩:=Rel.weaken h0 h1 hR hS;obtain ⟨ex,a',w',hq,harr⟩:=key (μ x0) x0 rfl _ _ a w hR' hS' h0.n0le;exact ⟨ex,a',w',hq,.of_steps (.one (fenced_calm hb hr rfl) stepR_loop) harr⟩
theorem Loop.inv {F:Fx} (hcx:Sound F.P F.cx) (hm:F.P.follows .mixedOrders=true) {c:ICode} {K:Kont} {X:Type} (I:X->Env×Hp×Nat) (μ:X->Nat) {e:Env} {h:Hp} {n:Nat} (x0:X) (ψ0:Nat->Nat)
 (h0:Wk F.n0 ψ0 e h n (I x0).1 (I x0).2.1 (I x0).2.2)
 (round: ∀x,iw F c (thenK K fun e' h' n'=> ∃x' ψ,Wk F.n0 ψ e' h' n' (I x').1 (I x').2.1 (I x').2.2/\μ x'<μ x) (I x).1 (I x).2.1 (I x).2.2):
 Loop F.P F.ct F.N F.n0 c K e h n:=
 Loop.invW I μ x0 ψ0 h0 (fun x c' hc'=>iw_sound F hcx hm c' _ _ _ _ (by rw [hc'];exact round x))
end Go.Ab
namespace Go.Ab
inductive IRes where
 |t (n:Nat)
 |c (n:Nat) (agg:Bool) (sz:Nat)
structure IFn where
 np:Nat
 N:Nat
 ct:List Nat
 code:ICode
 res:List IRes
def compRes (P:Program):List ResultVar->Option (List IRes)
 |[]=>some []
 | .tmp t::r=>(compRes P r).map (.t t:: ·)
 | .cell a t::r=>(tyAgg P t).bind fun g=>(tySz P t).bind fun z=>(compRes P r).map (.c a g z:: ·)
def compF (P:Program) (fn:Func):Option IFn:=
 fn.body.bind fun c=>(compRes P fn.results.toList).bind fun rs=>
  if (decide (fn.params.size+fn.nfree<=fn.ntmps)&&Nat.ble P.funcs.size YB)=true then some {np:=fn.params.size+fn.nfree,N:=fn.ntmps,ct:=condTmps c,code:=compC P (condTmps c) fn.ntmps c,res:=rs} else none
def retVs (e:Env) (h:Hp):List IRes->Option (Bool×List AV)
 |[]=>some (true,[])
 | .t n::r=>(eget e n).bind fun v=>(retVs e h r).bind fun q=>some (q.1,v::q.2)
 | .c n agg z::r=>(eget e n).bind fun v=>match v with
  | .p b o=>(hgc h b).bind fun k=>match agg with
   |true=>(retVs e h r).bind fun q=>some (decide ((cellsAt k.cells o z).length=z)&&q.1,.agg (cellsAt k.cells o z)::q.2)
   |false=>(k.cells[o]?).bind fun v=>(retVs e h r).bind fun q=>some (q.1,v::q.2)
  |_=>none
def packA:List AV->AV
 |[v]=>v
 |l=> .tup l
def packV:List Value->Value
 |[u]=>u
 |l=> .tuple l.toArray
theorem pack_rel {D:Nat->Prop} {φ:Phi}: ∀{l:List AV} {us:List Value},All2 D φ l us->VRel D φ (packA l) (packV us)
 |[],us,h=>by rw [h.unnil];exact VRel.tup' .nil
 |[v],us,h=>by
  obtain ⟨u,m,rfl,h1,h2⟩:=h.uncons;rw [h2.unnil];exact h1
 |x::y::l,us,h=>by
  obtain ⟨u,m,rfl,h1,h2⟩:=h.uncons;obtain ⟨u',m',rfl,h3,h4⟩:=h2.uncons;exact VRel.tup' (.cons h1 (.cons h3 h4))
def retV (rs:List IRes) (e:Env) (h:Hp):Option (Bool×AV):=
 (retVs e h rs).bind fun q=>some (q.1,packA q.2)
mutual
theorem AV.ren_congr {ψ χ:Nat->Nat} {m:Nat} (hψ: ∀b,b<m->ψ b=χ b): ∀v:AV,v.bel m=true->v.ren ψ=v.ren χ
 | .p b o,h=>by simp only [AV.ren,hψ b (blt_lt h)]
 | .sl b o l c,h=>by simp only [AV.ren,hψ b (blt_lt h)]
 | .sg b o l,h=>by simp only [AV.ren,hψ b (blt_lt h)]
 | .fn f l,h=>by simp only [AV.ren,renL_congr hψ l h]
 | .bm f l,h=>by simp only [AV.ren,renL_congr hψ l h]
 | .agg l,h=>by simp only [AV.ren,renL_congr hψ l h]
 | .tup l,h=>by simp only [AV.ren,renL_congr hψ l h]
 | .b x,_=>rfl
 | .i k n,_=>rfl
 | .s l,_=>rfl
 | .np,_=>rfl
 | .ns,_=>rfl
 | .nf,_=>rfl
 | .ni,_=>rfl
 | .fz l n,h=>by simp only [AV.ren,renL_congr hψ l h]
 | .fp l n,h=>by simp only [AV.ren,renL_congr hψ l h]
 | .ze,_=>rfl
 | .en,_=>rfl
 | .any,_=>rfl
 | .k _ _,_=>rfl
 | .m b,h=>by simp only [AV.ren,hψ b (blt_lt h)]
 | .nm,_=>rfl
 | .yl L r ts l,h=>by simp only [AV.ren,renL_congr hψ l h]
theorem renL_congr {ψ χ:Nat->Nat} {m:Nat} (hψ: ∀b,b<m->ψ b=χ b): ∀l:List AV,belL m l=true->renL ψ l=renL χ l
 |[],_=>rfl
 |v::r,h=>by
  simp only [belL,Bool.and_eq_true] at h;simp only [renL,AV.ren_congr hψ v h.1,renL_congr hψ r h.2]
end
mutual
theorem AV.ren_fix {ψ:Nat->Nat} {m:Nat} (hψ: ∀b,b<m->ψ b=b): ∀v:AV,v.bel m=true->v.ren ψ=v
 | .p b o,h=>by simp only [AV.ren,hψ b (blt_lt h)]
 | .sl b o l c,h=>by simp only [AV.ren,hψ b (blt_lt h)]
 | .sg b o l,h=>by simp only [AV.ren,hψ b (blt_lt h)]
 | .fn f l,h=>by simp only [AV.ren,renL_fix hψ l h]
 | .bm f l,h=>by simp only [AV.ren,renL_fix hψ l h]
 | .agg l,h=>by simp only [AV.ren,renL_fix hψ l h]
 | .tup l,h=>by simp only [AV.ren,renL_fix hψ l h]
 | .b x,_=>rfl
 | .i k n,_=>rfl
 | .s l,_=>rfl
 | .np,_=>rfl
 | .ns,_=>rfl
 | .nf,_=>rfl
 | .ni,_=>rfl
 | .fz l n,h=>by simp only [AV.ren,renL_fix hψ l h]
 | .fp l n,h=>by simp only [AV.ren,renL_fix hψ l h]
 | .ze,_=>rfl
 | .en,_=>rfl
 | .any,_=>rfl
 | .k _ _,_=>rfl
 | .m b,h=>by simp only [AV.ren,hψ b (blt_lt h)]
 | .nm,_=>rfl
 | .yl L r ts l,h=>by simp only [AV.ren,renL_fix hψ l h]
theorem renL_fix {ψ:Nat->Nat} {m:Nat} (hψ: ∀b,b<m->ψ b=b): ∀l:List AV,belL m l=true->renL ψ l=l
 |[],_=>rfl
 |v::r,h=>by
  simp only [belL,Bool.and_eq_true] at h;simp only [renL,AV.ren_fix hψ v h.1,renL_fix hψ r h.2]
end
def retK (rs:List IRes) (Q:AV->Hp->Nat->Prop):Kont:=fun ex e h n=>
 match ex with
 | .normal=>gd (retV rs e h) fun r=>r.1=true/\Q r.2 h n
 | .ret=>gd (retV rs e h) fun r=>r.1=true/\Q r.2 h n
 |_=>False
def argEnv:Nat->List AV->Env
 |_,[]=>[]
 |i,v::r=>(i,v)::argEnv (i+1) r
theorem argEnv_get: ∀{l:List AV} {i t:Nat} {v:AV},eget (argEnv i l) t=some v->i<=t/\l[t-i]? =some v
 |[],_,_,_,h=>by simp [argEnv,eget] at h
 |x::l,i,t,v,h=>by
  simp only [argEnv,eget] at h;by_cases hit:t=i
  ·subst hit;simp at h;subst h;simp
  ·rw [beq_ne hit] at h;obtain ⟨h1,h2⟩:=argEnv_get h;refine ⟨by omega,?_⟩
   rw [show t-i=(t-(i+1))+1 by omega]
   simpa using h2
section
variable {P:Program} {D:Nat->Prop} {φ:Phi} {w:World} {n N:Nat} {e:Env} {h:Hp} {a:Act}
theorem asAddr_run (ad:Addr) (w:World):(asAddr (.pointer (some ad))).run P w= .ok ad w:=rfl
def resF (tmps:Array Value):ResultVar->Sem Value
 | .tmp t=>pure (tmps.getD t undef)
 | .cell ad t=>do loadVar t (<-asAddr (tmps.getD ad undef))
theorem results_eq (fn:Func) (tmps:Array Value):results fn tmps=(do let vs <-fn.results.mapM (resF tmps);pure (if h:vs.size=1 then vs[0] else .tuple vs)):=rfl
theorem retVs_rel {m:Nat×List Deferred} (hR:Rel D φ e h n N m a w):
 ∀{rv:List ResultVar} {rs:List IRes} {q:Bool×List AV},compRes P rv=some rs->retVs e h rs=some q->q.1=true→
 ∃us:List Value,(rv.mapM (resF a.tmps)).run P w= .ok us w/\All2 D φ q.2 us
 |[],rs,q,h1,h2,_=>by simp [compRes] at h1;subst h1;simp [retVs] at h2;subst h2;exact ⟨[],by simp,.nil⟩
 | .tmp t::rv,rs,q,h1,h2,hq=>by
  simp only [compRes] at h1;obtain ⟨rs',hrs,rfl⟩:=Option.map_eq_some_iff.1 h1;simp only [retVs,Option.bind_eq_some_iff,Option.some.injEq] at h2;obtain ⟨v,hv,q',hq',rfl⟩:=h2;obtain ⟨us,g1,g2⟩:=retVs_rel hR hrs hq' hq;refine ⟨a.tmps.getD t undef::us,?_,.cons (hR.env t v hv) g2⟩;simp only [List.mapM_cons,Sem.run_bind,resF,Sem.run_pure,Result.andThen_ok];rw [g1];rfl
 | .cell ad t::rv,rs,q,h1,h2,hq=>by
  simp only [compRes,Option.bind_eq_some_iff] at h1;obtain ⟨g,hg,z,hz,h1⟩:=h1;obtain ⟨rs',hrs,rfl⟩:=Option.map_eq_some_iff.1 h1;simp only [retVs,Option.bind_eq_some_iff] at h2;obtain ⟨v,hv,h2⟩:=h2;have hvr:=hR.env ad v hv;split at h2
  ·rename_i b o;simp only [Option.bind_eq_some_iff] at h2;obtain ⟨k,hk,h2⟩:=h2;obtain ⟨hk,hmp⟩:=hgc_some hk;generalize hu:a.tmps.getD ad undef=u at hvr;cases hvr;cases g
   ·simp only [Option.bind_eq_some_iff,Option.some.injEq] at h2;obtain ⟨x,hx,q',hq',rfl⟩:=h2;obtain ⟨us,g1,g2⟩:=retVs_rel hR hrs hq' hq;obtain ⟨y,hy,hyr⟩:=HR.cell (P:=P) hR.heap hk hmp hx;refine ⟨y::us,?_,.cons hyr g2⟩;have hl:(loadVar t ⟨φ.blk b,φ.off b+o,none⟩).run P w= .ok y w:=by
     simp only [loadVar,Sem.run_bind,run_isAgg hg,Result.andThen_ok,Bool.false_eq_true,if_false];exact hy
    simp only [List.mapM_cons,Sem.run_bind,resF,hu,asAddr_run,Result.andThen_ok,hl,g1,Sem.run_pure]
   ·simp only [Option.bind_eq_some_iff,Option.some.injEq] at h2;obtain ⟨q',hq',rfl⟩:=h2;simp only [Bool.and_eq_true] at hq;obtain ⟨us,g1,g2⟩:=retVs_rel hR hrs hq' hq.2;obtain ⟨ys,hy,hyr⟩:=HR.row (P:=P) hR.heap hk hmp (of_decide_eq_true hq.1);refine ⟨.agg ys.toArray::us,?_,.cons (VRel.agg' hyr) g2⟩;have hl:(loadVar t ⟨φ.blk b,φ.off b+o,none⟩).run P w= .ok (.agg ys.toArray) w:=by
     simp only [loadVar,Sem.run_bind,run_isAgg hg,Result.andThen_ok,if_true,run_sizeOf hz,hy,Sem.run_pure]
    simp only [List.mapM_cons,Sem.run_bind,resF,hu,asAddr_run,Result.andThen_ok,hl,g1,Sem.run_pure]
  ·cases h2
def FTLx (P:Program) (f:FuncId) (args:List AV) (h:Hp) (n:Nat) (pn:Option Value) (v:AV) (h':Hp) (n':Nat):Prop:=
 ∀D φ w (us:List Value),(∀b,D b->b<n)->HR D φ (hget h) w->All2 D φ args us→
  Ans P f us.toArray w fun e w'=> ∃D' φ' u,e=endP pn u/\(∀b,D' b->b<n')/\VRel D' φ' v u/\Stp D φ (hget h) w D' φ' (hget h') w'
abbrev FTL (P:Program) (f:FuncId) (args:List AV) (h:Hp) (n:Nat) (v:AV) (h':Hp) (n':Nat):Prop:=FTLx P f args h n none v h' n'
def retX (rs:List IRes) (Q:Option Value->AV->Hp->Nat->Prop):Kont:=fun ex e h n=>
 match ex with
 | .normal=>gd (retV rs e h) fun r=>r.1=true/\Q none r.2 h n
 | .ret=>gd (retV rs e h) fun r=>r.1=true/\Q none r.2 h n
 | .panic [en]=>en.recovered=false/\en.goexit=false/\Q (some en.v) (.tup []) h n
 |_=>False
theorem retX_of_retK {rs:List IRes} {Q:AV->Hp->Nat->Prop} {Q':Option Value->AV->Hp->Nat->Prop} (hq: ∀v h n,Q v h n->Q' none v h n) (ex:Exit) (e:Env) (h:Hp) (n:Nat) (hk:retK rs Q ex e h n):retX rs Q' ex e h n:=by
 cases ex with
 |normal=>obtain ⟨r,h1,h2,h3⟩:=gd_elim hk;show gd _ _;rw [h1];exact ⟨h2,hq _ _ _ h3⟩
 |ret=>obtain ⟨r,h1,h2,h3⟩:=gd_elim hk;show gd _ _;rw [h1];exact ⟨h2,hq _ _ _ h3⟩
 |_=>exact hk.elim
def Ends (n0:Nat) (v:AV) (h:Hp) (n:Nat) (v2:AV) (h2:Hp) (n2:Nat):Prop:= ∃ψ,Wk n0 ψ [(0,v)] h n [(0,v2)] h2 n2
theorem ne_YB {P:Program} {f:FuncId} {fn:Func} (hf:P.funcs[f]? =some fn) (hs:Nat.ble P.funcs.size YB=true):f≠YB:=fun e=>by
 have h1:=(Array.getElem?_eq_some_iff.1 hf).1;have h2:=Nat.le_of_ble_eq_true hs;rw [e] at h1;exact absurd h1 (Nat.not_lt.2 h2)
theorem calls_marks {P:Program} {f:FuncId} {fn:Func} {c:Code} {args:Array Value} {w:World} {R:Ending->World->Prop} (hf:P.funcs[f]? =some fn) (hb:fn.body=some c)
 (h:c.wpIn (Fw none) 0 P (bodyPostM (Fw none) 0 P fn R) {tmps:=args++Array.replicate (fn.ntmps-args.size) undef,defers:=[]} w):Calls P f args w R:=by
 have h1:CallsIn (Fw none) 0 P f args w R:=callsIn_of_wp_marks hf hb trivial h;have h2:CallsIn Fence.wide 0 P f args w R:=h1;exact callsIn_wide.1 h2
theorem leaves_marks {P:Program} {fn:Func} {tmps:Array Value} {R:Ending->World->Prop} {m:Nat} {B:List Deferred} {u:FrameMode} (hu:u≠ .run) (S:World->Prop) (turn: ∀w D,S w->m<=D->w.heap[D]? =some (.deferred (some []))->S (w.putObj D (.deferred none)))
 (fin: ∀w,S w->LeavesInM (Fw none) 0 P fn tmps R B u w): ∀(ds:List Nat) (w:World),ds.Nodup->(∀D∈ds,m<=D/\w.heap[D]? =some (.deferred (some [])))->S w→
  LeavesInM (Fw none) 0 P fn tmps R ((ds.map fun D=>{target:= .collected D,args:= #[]})++B) u w
 |[],w,_,_,h=>fin w h
 |D::ds,w,hn,hd,h=>by
  have h0:=hd D List.mem_cons_self;refine ⟨hu,.inl ⟨D,_,rfl,run_takeDeferred h0.2,leaves_marks hu S turn fin ds _ (List.nodup_cons.1 hn).2 (fun E hE=>⟨(hd E (List.mem_cons_of_mem _ hE)).1,?_⟩) (turn w D h h0.1 h0.2)⟩⟩;have hne:E≠D:=fun e=>(List.nodup_cons.1 hn).1 (e▸hE);rw [World.putObj_heap_other hne];exact (hd E (List.mem_cons_of_mem _ hE)).2
theorem leaves_rel {P:Program} {fn:Func} {R:Ending->World->Prop} {N n':Nat} {B:List Deferred} {u:FrameMode} {e':Env} {h':Hp} {D D':Nat->Prop} {φ φ':Phi} {H:Hf} {a':Act} {w w':World} (hu:u≠ .run) (hR:Rel D' φ' e' h' n' N (w.heap.size,B) a' w') (hS:Stp D φ H w D' φ' (hget h') w')
 (fin: ∀w',Rel D' φ' e' h' n' N (w.heap.size,B) {a' with defers:=B} w'->Stp D φ H w D' φ' (hget h') w'->LeavesInM (Fw none) 0 P fn a'.tmps R B u w'):LeavesInM (Fw none) 0 P fn a'.tmps R a'.defers u w':=by
 obtain ⟨ds,h1,h2,h3⟩:=hR.defers;rw [h1];refine leaves_marks (m:=w.heap.size) hu (fun w'=>Rel D' φ' e' h' n' N (w.heap.size,B) {a' with defers:=B} w'/\Stp D φ H w D' φ' (hget h') w') (fun w1 D1 hs hm hd=> ?_) (fun w' hs=>fin _ hs.1 hs.2) ds w' h2 h3 ⟨⟨hR.lt,hR.env,hR.heap,hR.size,Mk.nil⟩,hS⟩
 have hr:HR D' φ' (hget h') (w1.putObj D1 (.deferred none)):=hs.1.heap.same (fun c cs elem fr hc=>by
  rw [World.putObj_heap_other (fun e=>by rw [e,hd] at hc;cases hc)];exact hc) (fun c es clk hc=>by
  rw [World.putObj_heap_other (fun e=>by rw [e,hd] at hc;cases hc)];exact hc) (fun L r' hL=>by
  have:=hs.1.heap.lp L r' hL;rw [World.putObj_heap_other (fun e=>by rw [e,hd] at this;cases this)];exact this)
 exact ⟨⟨hs.1.lt,hs.1.env,hr,hs.1.size,Mk.nil⟩,hs.2.same hr rfl rfl rfl (by simp [World.putObj]) (fun c hc=>World.putObj_heap_other (by omega))⟩
theorem res_run {P:Program} {fn:Func} {N n':Nat} {m:Nat×List Deferred} {rs:List IRes} {q:Bool×AV} {e':Env} {h':Hp} {D':Nat->Prop} {φ':Phi} {a':Act} {w':World} (hR':Rel D' φ' e' h' n' N m a' w') (hrs:compRes P fn.results.toList=some rs) (hr:retV rs e' h'=some q) (hq:q.1=true):
 ∃u,(results fn a'.tmps).run P w'= .ok u w'/\VRel D' φ' q.2 u:=by
 simp only [retV,Option.bind_eq_some_iff] at hr;obtain ⟨q',hq',hr⟩:=hr;simp only [Option.some.injEq] at hr;subst hr;obtain ⟨us',g1,g2⟩:=retVs_rel hR' hrs hq' hq;refine ⟨packV us',?_,pack_rel g2⟩;rw [results_eq];simp only [Sem.run_bind];rw [Array.mapM_eq_mapM_toList];simp only [Sem.run_map];rw [g1];simp only [Result.andThen_ok,Sem.run_pure];congr 1
 match us' with
 |[]=>rfl
 |[u]=>rfl
 |_::_::_=>simp [packV]
theorem ends_weaken {n0 n n2:Nat} {v v2:AV} {h h2:Hp} {D D0:Nat->Prop} {φ φ0:Phi} {H0:Hf} {w w0:World} {u:Value} (hW:Ends n0 v h n v2 h2 n2) (hD0: ∀b,D0 b->b<n0) (hD: ∀b,D b->b<n) (hv:VRel D φ v u) (hH:HR D φ (hget h) w) (hS:Stp D0 φ0 H0 w0 D φ (hget h) w):
 ∃D' φ',(∀b,D' b->b<n2)/\VRel D' φ' v2 u/\Stp D0 φ0 H0 w0 D' φ' (hget h2) w:=by
 obtain ⟨ψ,hW⟩:=hW;have hR2:Rel D φ [(0,v)] h n 1 (0,[]) {tmps:= #[u],defers:=[]} w:=by
  refine ⟨hD,fun t x hx=> ?_,hH,rfl,Mk.nil⟩;simp only [eget] at hx;by_cases ht:t=0
  ·subst ht;simp at hx;subst hx;exact hv
  ·rw [beq_ne ht] at hx;simp at hx
 obtain ⟨hR3,hS3⟩:=Rel.weaken hW hD0 hR2 hS;exact ⟨_,_,hR3.lt,hR3.env 0 v2 (by simp [eget]),hS3⟩
def Cov (C:Nat->AV->Hp->Nat->AV->Hp->Nat->Prop):Prop:= ∀n0 v h n v2 h2 n2,C n0 v h n v2 h2 n2-> ∀(D:Nat->Prop) (φ:Phi) (w:World) (D0:Nat->Prop) (φ0:Phi) (H0:Hf) (w0:World) (u:Value),(∀b,D0 b->b<n0)->(∀b,D b->b<n)->VRel D φ v u->HR D φ (hget h) w->Stp D0 φ0 H0 w0 D φ (hget h) w→
 ∃D' φ',(∀b,D' b->b<n2)/\VRel D' φ' v2 u/\Stp D0 φ0 H0 w0 D' φ' (hget h2) w
theorem Cov.ends:Cov Ends:=fun _ _ _ _ _ _ _ hW D φ w D0 φ0 H0 w0 u h1 h2 h3 h4 h5=>ends_weaken hW h1 h2 h3 h4 h5
theorem FTLx.of_wpC {C:Nat->AV->Hp->Nat->AV->Hp->Nat->Prop} (hC:Cov C) {f:FuncId} {fn:Func} {I:IFn} {args:List AV} {pn:Option Value} {v2:AV} {h2:Hp} {n2:Nat} (hf:P.funcs[f]? =some fn) (hI:compF P fn=some I) (hnp:args.length<=I.N)
 (hi: ∀c,compC P I.ct I.N c=I.code->WP P I.N n c (retX I.res fun p v h' n'=>p=pn/\C n v h' n' v2 h2 n2) (argEnv 0 args) h n):FTLx P f args h n pn v2 h2 n2:=by
 intro D φ w us hD0 hH hargs;have hD: ∀b,(fun b=>b<n) b->b<n:=fun b hb=>hb;have hH:HR (fun b=>b<n) φ (hget h) w:=hH.grow hD0;have hargs:All2 (fun b=>b<n) φ args us:=hargs.mono hD0 (Agree.refl _ _);have hout: ∀D' φ' H' w',Stp (fun b=>b<n) φ (hget h) w D' φ' H' w'->Stp D φ (hget h) w D' φ' H' w':=fun D' φ' H' w' hs=>⟨fun b hb=>hs.sub b (hD0 b hb),⟨fun b hb=>hs.agree b (hD0 b hb),hs.agree.fz,hs.agree.lp⟩,hs.hr,hs.frm,hs.img,hs.fnew⟩;simp only [compF,Option.bind_eq_some_iff] at hI;obtain ⟨c,hc,rs,hrs,hI⟩:=hI;split at hI
 ·rename_i hle;rw [Bool.and_eq_true] at hle;have hfy:f≠YB:=ne_YB hf hle.2;have hle:=of_decide_eq_true hle.1;simp only [Option.some.injEq] at hI;subst hI;simp only at hi hnp;refine Ans.of (calls_marks hf hc ?_) hfy (ext_false hf hc);have hsz:(us.toArray++Array.replicate (fn.ntmps-us.toArray.size) undef).size=fn.ntmps:=by
   have:=hargs.1;simp;omega
  have hR:Rel (fun b=>b<n) φ (argEnv 0 args) h n fn.ntmps (w.heap.size,[]) {tmps:=us.toArray++Array.replicate (fn.ntmps-us.toArray.size) undef,defers:=[]} w:=by
   refine ⟨hD,fun t v hv=> ?_,hH,hsz,Mk.nil⟩;obtain ⟨_,hv'⟩:=argEnv_get hv;obtain ⟨u,hu,hr⟩:=hargs.get hv';have hlt:t<us.length:=by
    rcases Nat.lt_or_ge t us.length with h'|h'
    ·exact h'
    ·rw [Nat.sub_zero,List.getElem?_eq_none h'] at hu;cases hu
   have:(us.toArray++Array.replicate (fn.ntmps-us.toArray.size) undef).getD t undef=u:=by
    rw [Array.getD_eq_getD_getElem?,Array.getElem?_append_left (by simpa using hlt)]
    simp at hu ⊢;simp [hu]
   rw [this];exact hr
  have hw:=hi c rfl none (.inl rfl) [] _ φ (hget h) w hD (Nat.le_refl _) _ φ _ w hR (Stp.refl hH);refine wpIn_mono hw (fun ex a' w' hp=> ?_);have fin:(∃D' φ' e' h' n',(gd (retV rs e' h') fun r=>r.1=true/\none=pn/\C n r.2 h' n' v2 h2 n2)/\Rel D' φ' e' h' n' fn.ntmps (w.heap.size,[]) a' w'/\Stp (fun b=>b<n) φ (hget h) w D' φ' (hget h') w')→
   LeavesInM (Fw none) 0 P fn a'.tmps (fun e w'=> ∃D' φ' u,e=endP pn u/\(∀b,D' b->b<n2)/\VRel D' φ' v2 u/\Stp D φ (hget h) w D' φ' (hget h2) w') a'.defers .returning w':=by
   rintro ⟨D',φ',e',h',n',hret,hR',hS'⟩;refine leaves_rel (by simp) hR' hS' (fun w' hR' hS'=> ?_)
   obtain ⟨r,hr,hrc,rfl,hW⟩:=gd_elim hret;obtain ⟨u,hres,hvr⟩:=res_run hR' hrs hr hrc;obtain ⟨D3,φ3,k1,k2,k3⟩:=hC _ _ _ _ _ _ _ hW D' φ' w' _ φ _ w _ hD hR'.lt hvr hR'.heap hS';exact ⟨_,hres,_,_,_,rfl,k1,k2,hout _ _ _ _ k3⟩
  obtain ⟨D',φ',e',h',n',hk,hn',hR',hS'⟩:=hp;cases ex with
  |normal=>exact fin ⟨D',φ',e',h',n',hk,hR',hS'⟩
  |ret=>exact fin ⟨D',φ',e',h',n',hk,hR',hS'⟩
  |panic ch=>
   unfold retX at hk
   match ch,hk with
   |[en],hk=>
    obtain ⟨h1,h2,rfl,hW⟩:=hk;obtain ⟨v0,r0,g0⟩:=en;simp only at h1 h2;subst h1;subst h2;refine leaves_rel (by simp) hR' hS' (fun w' hR' hS'=> ?_)
    obtain ⟨D3,φ3,k1,k2,k3⟩:=hC _ _ _ _ _ _ _ hW D' φ' w' _ φ _ w undef hD hR'.lt und_rel0 hR'.heap hS';exact ⟨_,_,_,rfl,k1,k2,hout _ _ _ _ k3⟩
   |[],hk=>exact hk.elim
   |_::_::_,hk=>exact hk.elim
  |_=>exact hk.elim
 ·cases hI
theorem FTL.of_wp {f:FuncId} {fn:Func} {I:IFn} {args:List AV} {v2:AV} {h2:Hp} {n2:Nat} (hf:P.funcs[f]? =some fn) (hI:compF P fn=some I) (hnp:args.length<=I.N)
 (hi: ∀c,compC P I.ct I.N c=I.code->WP P I.N n c (retK I.res fun v h' n'=>Ends n v h' n' v2 h2 n2) (argEnv 0 args) h n):FTL P f args h n v2 h2 n2:=
 FTLx.of_wpC Cov.ends hf hI hnp (fun c hc=>(hi c hc).mono (retX_of_retK fun _ _ _ h=>⟨rfl,h⟩))
theorem FTL.of_iw {f:FuncId} {fn:Func} {I:IFn} {cx:Cx} {args:List AV} {v2:AV} {h2:Hp} {n2:Nat} (hcx:Sound P cx) (hm:P.follows .mixedOrders=true) (hf:P.funcs[f]? =some fn) (hI:compF P fn=some I) (hnp:args.length<=I.N)
 (hi:iw ⟨P,cx,I.ct,I.N,n⟩ I.code (retK I.res fun v h' n'=>Ends n v h' n' v2 h2 n2) (argEnv 0 args) h n):FTL P f args h n v2 h2 n2:=
 FTL.of_wp hf hI hnp (fun c hc=>iw_sound ⟨P,cx,I.ct,I.N,n⟩ hcx hm c _ _ _ _ (by show iw _ (compC P I.ct I.N c) _ _ _ _;rw [hc];exact hi))
theorem Ends.pure {n0 n:Nat} {v:AV} {h:Hp} (hv:v.bel n0=true):Ends n0 v h n v [] n0:=by
 refine ⟨_root_.id,Nat.le_refl _,fun _ _=>rfl,fun t x hx=> ?_,fun b k hb=>by simp [hget] at hb,fun b1 b2 k1 k2 hb=>by simp [hget] at hb⟩
 simp only [eget] at hx;by_cases ht:t=0
 ·subst ht;simp at hx;subst hx;exact ⟨by simp [eget,AV.ren_fix (ψ:=_root_.id) (fun _ _=>rfl) v hv],hv⟩
 ·rw [beq_ne ht] at hx;simp at hx
theorem hget_mem {h:Hp} {b:Nat} {k:Blk} (hb:hget h b=some k):(b,k)∈h:=by
 induction h with
 |nil=>simp [hget] at hb
 |cons x h ih=>
  obtain ⟨c,j⟩:=x;simp only [hget] at hb;by_cases hc:b=c
  ·subst hc;simp at hb;subst hb;exact List.mem_cons_self
  ·rw [beq_ne hc] at hb;exact List.mem_cons_of_mem _ (ih hb)
theorem CallOK.of_FTLx {pn:Option Value} {f:FuncId} {argsL args:List AV} {hL hR h:Hp} {k kR n:Nat} {vR:AV} {E:Eff} {ψ:Nat->Nat} (hc:Go.Ab.callable P f=true) (hft:FTLx P f argsL hL k pn vR hR kR) (hpn:E.pn=pn) (hk:k<=kR)
 (hbel:belL k argsL=true) (hcov: ∀b,b<k-> ∃kk,hget hL b=some kk) (hhb: ∀b kk,hget hL b=some kk->b<k/\belL k kk.cells=true) (hargs:args=renL ψ argsL)
 (hheap: ∀b kk,hget hL b=some kk->only (hget h) E.rd (ψ b)=some (kk.ren ψ))
 (hinj: ∀b1 b2 k1 k2,hget hL b1=some k1->hget hL b2=some k2->k1.ro=false->ψ b1=ψ b2->b1=b2)
 (hn:E.n=n+(kR-k)) (hv:E.v=vR.ren (fun b=>if b<k then ψ b else n+(b-k)))
 (hmd: ∀b r,mget E.md b=some r->inl E.rd b=true) (hnw: ∀b kk,hget E.nw b=some kk->n<=b/\b<E.n)
 (hE: ∀c kk,E.app (only (hget h) E.rd) c=some kk-> ∃b kb,hget hR b=some kb/\b<kR/\c=(if b<k then ψ b else n+(b-k))/\kk=kb.ren (fun b=>if b<k then ψ b else n+(b-k))/\(kb.ro=true->b<k/\hget hL b=some kb)):CallOK P f args h n E:=by
 refine ⟨hc,by omega,hmd,hnw,fun D φ w us hfresh hH hA=> ?_⟩
 subst hargs
 -- the callee's own names
 have hD: ∀b,(b<k/\D (ψ b))->b<k:=fun b hb=>hb.1;have hHL:HR (fun b=>b<k/\D (ψ b)) (φ.comp ψ) (hget hL) w:=by
  refine ⟨⟨fun b kk hb=> ?_,fun b1 b2 k1 k2 hne h1 h2 hro=> ?_⟩,hH.fz,hH.lp,fun b kk B vs hb hk hB=>hH.fsep (ψ b) (kk.ren ψ) B vs (hheap b kk hb) hk hB⟩
  ·obtain ⟨g1,g2⟩:=hhb b kk hb;obtain ⟨hd,⟨⟨cs,elem,fr,q1,q2,q3,q4⟩,q5⟩⟩:=hH.at_ (ψ b) _ (hheap b kk hb);refine ⟨⟨g1,hd⟩,⟨⟨cs,elem,fr,q1,fun i v hv=> ?_,q3,q4⟩,q5⟩⟩;obtain ⟨u,hu,hr⟩:=q2 i (v.ren ψ) (by simp [Blk.ren,renL_eq,hv])
   exact ⟨u,hu,hr.unren v rfl (belL_spec g2 v (List.mem_of_getElem? hv))⟩
  ·exact hH.sep (ψ b1) (ψ b2) _ _ (fun e=>hne (hinj b1 b2 k1 k2 h1 h2 hro e)) (hheap b1 k1 h1) (hheap b2 k2 h2) hro
 have hAL:All2 (fun b=>b<k/\D (ψ b)) (φ.comp ψ) argsL us:=by
  rw [renL_eq] at hA;refine ⟨by simpa using hA.1,fun i a u ha hu=> ?_⟩
  exact (hA.2 i (a.ren ψ) u (by simp [ha]) hu).unren a rfl (belL_spec hbel a (List.mem_of_getElem? ha))
 have hlt: ∀b,(b<k/\D (ψ b))->b<k:=fun b hb=>hb.1;have hHL':HR (fun b=>b<k) (φ.comp ψ) (hget hL) w:=hHL.grow hlt;refine (hft (fun b=>b<k) (φ.comp ψ) w us (fun b hb=>hb) hHL' (hAL.mono hlt (Agree.refl _ _))).mono fun e w' hx=> ?_;obtain ⟨D',φ',u,rfl,hD',hv',hS⟩:=hx;subst hpn;have hcovD: ∀b,b<k->D (ψ b):=fun b hb=>by
  obtain ⟨kk,hkk⟩:=hcov b hb;exact (hHL.at_ b kk hkk).1.2
 -- back to the caller's
 let χ:Nat->Nat:=fun b=>if b<k then ψ b else n+(b-k)
 let φ2:Phi:={blk:=fun c=>if n<=c/\c<E.n then φ'.blk (k+(c-n)) else φ.blk c,off:=fun c=>if n<=c/\c<E.n then φ'.off (k+(c-n)) else φ.off c,cap:=fun c=>if n<=c/\c<E.n then φ'.cap (k+(c-n)) else φ.cap c,esz:=fun c=>if n<=c/\c<E.n then φ'.esz (k+(c-n)) else φ.esz c,fz:=φ'.fz,lp:=φ'.lp}
 have hDm: ∀c,D c->Dn D n E.n c:=fun c hc=> .inl hc;have hag:Agree D φ φ2:=⟨fun c hc=>by
  have: ¬(n<=c/\c<E.n):=fun hh=>hfresh c hh.1 hh.2 hc;simp [φ2,this],hS.agree.fz,hS.agree.lp⟩
 have hχD: ∀b,D' b->Dn D n E.n (χ b):=fun b hb=>by
  have:=hD' b hb;by_cases hbk:b<k
  ·simp only [χ,hbk,if_true];exact .inl (hcovD b hbk)
  ·simp only [χ,hbk,if_false];exact .inr ⟨by omega,by omega⟩
 have hφχ: ∀b,b<kR->φ'.blk b=φ2.blk (χ b)/\φ'.off b=φ2.off (χ b)/\φ'.cap b=φ2.cap (χ b)/\φ'.esz b=φ2.esz (χ b):=fun b hb=>by
  by_cases hbk:b<k
  ·have h1: ¬(n<=ψ b/\ψ b<E.n):=fun hh=>hfresh _ hh.1 hh.2 (hcovD b hbk);have h2:=hS.agree b hbk;simp only [χ,hbk,if_true,φ2,h1,if_false];exact h2
  ·have h1:n<=n+(b-k)/\n+(b-k)<E.n:=⟨by omega,by omega⟩
   have h2:k+(n+(b-k)-n)=b:=by omega
   simp only [χ,hbk,if_false,φ2,h1,and_self,if_true,h2]
 refine ⟨u,φ2,rfl,?_,⟨hDm,hag,⟨⟨fun c kk hc=> ?_,fun c1 c2 k1 k2 hne h1 h2 hro=> ?_⟩,hS.hr.fz,hS.hr.lp,fun c kk B vs hc hro hB=> ?_⟩,⟨hS.frm.os,hS.frm.tape,hS.frm.output,hS.frm.size,fun c hc hno=>hS.frm.block c hc (fun b kb hb hro=> ?_)⟩,fun c kk hc hro=> ?_,fun B vs hB=> ?_⟩,fun c kk hc hro=> ?_⟩
 ·rw [hv];exact hv'.ren hχD (fun b hb=>hφχ b (hD' b hb)) (fun _ _ h=>h) (fun _ _ h=>h)
 ·obtain ⟨b,kb,g1,g2,rfl,rfl,g5⟩:=hE c kk hc;obtain ⟨hd,⟨⟨cs,elem,fr,q1,q2,q3,q4⟩,q5⟩⟩:=hS.hr.at_ b kb g1;obtain ⟨f1,f2,f3,f4⟩:=hφχ b g2;refine ⟨hχD b hd,⟨⟨cs,elem,fr,by rw [<-f1];exact q1,fun i v hv=> ?_,fun hr=>by rw [<-f2];exact q3 hr,fun e he=>by rw [<-f2,<-f3,<-f4];exact q4 e he⟩,fun g hg=>by rw [<-f1,<-f2];exact q5 g hg⟩⟩
  simp only [Blk.ren,renL_eq,List.getElem?_map,Option.map_eq_some_iff] at hv;obtain ⟨v',hv',rfl⟩:=hv;obtain ⟨u',hu',hr'⟩:=q2 i v' hv';exact ⟨u',by rw [<-f2];exact hu',hr'.ren hχD (fun b hb=>hφχ b (hD' b hb)) (fun _ _ h=>h) (fun _ _ h=>h)⟩
 ·obtain ⟨b1,kb1,g1,g2,rfl,rfl,_⟩:=hE c1 k1 h1;obtain ⟨b2,kb2,g3,g4,rfl,rfl,_⟩:=hE c2 k2 h2;have e1:=(hφχ b1 g2).1;have e2:=(hφχ b2 g4).1;show φ2.blk (χ b1)≠φ2.blk (χ b2);rw [<-e1,<-e2];exact hS.hr.sep b1 b2 kb1 kb2 (fun e=>hne (by rw [e])) g1 g3 hro
 ·obtain ⟨b,kb,g1,g2,rfl,rfl,_⟩:=hE c kk hc;show φ2.blk (χ b)≠B;rw [<-(hφχ b g2).1];exact hS.hr.fsep b kb B vs g1 hro hB
 ·exact hno (ψ b) _ (hheap b kb hb) hro
 ·obtain ⟨b,kb,g1,g2,rfl,rfl,_⟩:=hE c kk hc;have e1:=(hφχ b g2).1;show w.heap.size<=φ2.blk (χ b)\/ ∃m km,only (hget h) E.rd m=some km/\km.ro=false/\φ.blk m=φ2.blk (χ b);rw [<-e1];rcases hS.img b kb g1 hro with h1|⟨m,km,h1,h2,h3⟩
  ·exact .inl h1
  ·exact .inr ⟨ψ m,_,hheap m km h1,h2,h3⟩
 ·rcases hS.fnew B vs hB with h1|h1|⟨m,km,h1,h2,h3⟩
  ·exact .inl h1
  ·exact .inr (.inl h1)
  ·exact .inr (.inr ⟨ψ m,_,hheap m km h1,h2,h3⟩)
 ·obtain ⟨b,kb,g1,g2,rfl,rfl,g5⟩:=hE c kk hc;obtain ⟨h1,h2⟩:=g5 hro;rw [if_pos h1,hheap b kb h2];congr 1;simp only [Blk.ren,Blk.mk.injEq,and_true];exact renL_congr (m:=k) (fun b hb=>by simp [hb]) _ (hhb b kb h2).2
theorem CallOK.of_FTL {f:FuncId} {argsL args:List AV} {hL hR h:Hp} {k kR n:Nat} {vR:AV} {E:Eff} {ψ:Nat->Nat} (hc:Go.Ab.callable P f=true) (hft:FTL P f argsL hL k vR hR kR) (hk:k<=kR)
 (hbel:belL k argsL=true) (hcov: ∀b,b<k-> ∃kk,hget hL b=some kk) (hhb: ∀b kk,hget hL b=some kk->b<k/\belL k kk.cells=true) (hargs:args=renL ψ argsL)
 (hheap: ∀b kk,hget hL b=some kk->only (hget h) E.rd (ψ b)=some (kk.ren ψ))
 (hinj: ∀b1 b2 k1 k2,hget hL b1=some k1->hget hL b2=some k2->k1.ro=false->ψ b1=ψ b2->b1=b2)
 (hn:E.n=n+(kR-k)) (hv:E.v=vR.ren (fun b=>if b<k then ψ b else n+(b-k)))
 (hmd: ∀b r,mget E.md b=some r->inl E.rd b=true) (hnw: ∀b kk,hget E.nw b=some kk->n<=b/\b<E.n)
 (hE: ∀c kk,E.app (only (hget h) E.rd) c=some kk-> ∃b kb,hget hR b=some kb/\b<kR/\c=(if b<k then ψ b else n+(b-k))/\kk=kb.ren (fun b=>if b<k then ψ b else n+(b-k))/\(kb.ro=true->b<k/\hget hL b=some kb)) (hpn:E.pn=none:=by rfl):CallOK P f args h n E:=
 CallOK.of_FTLx hc hft hpn hk hbel hcov hhb hargs hheap hinj hn hv hmd hnw hE
end
end Go.Ab
