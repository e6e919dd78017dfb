/- Texts laid as one. -/
import Derived.Test.YtibpegmighopbaaGreatDoorX1
import Derived.RangeFuncSeq
import Derived.RangeFuncLeaves
import Derived.OrdersIn
import Derived.TacticsIn
import Derived.LoopNIn
import Derived.Scope
set_option maxRecDepth 100000
set_option maxHeartbeats 20000000
set_option linter.unusedSimpArgs false
set_option linter.unusedVariables false
namespace Go.Ab
abbrev Cx:=FuncId->List AV->Hp->Nat->Option (Bool×bV)
def ext (P:Program) (f:FuncId):Bool:=match P.funcs[f]? with
 |some fn=>fn.body.isNone
 |none=>false
def bH (P:Program) (f:FuncId):Bool:=
 Nat.beq f YB||match P.funcs[f]? with
 |some fn=>fn.body.isNone|| !(fn.name== "runtime.NumGoroutine")
 |none=>false
def tu (P:Program) (f:FuncId) (us:Array Value) (w:World) (R:Ending->World->Prop):Prop:=
 if f=YB then ∃L vs,us= #[.func (.yield L) #[] #[]]++vs/\YieldAt Fence.wide 0 P L vs w R else if ext P f=true then ∃u w',(callFunc f us).run P w= .ok (.value u) w'/\R (.returned u) w' else Calls P f us w R
theorem tu.mono {P:Program} {f:FuncId} {us:Array Value} {w:World} {R R':Ending->World->Prop} (h:tu P f us w R) (hr: ∀e w',R e w'->R' e w'):tu P f us w R':=by
 unfold tu at h ⊢;split
 ·rename_i hf;rw [aT hf] at h;obtain ⟨L,vs,h1,fn,tmps,as,bd,h2,h3⟩:=h;exact ⟨L,vs,h1,fn,tmps,as,bd,h2,h3.mono hr⟩
 ·rename_i hf;rw [aY hf] at h;split
  ·grind
  ·rename_i he;rw [aY he] at h;exact Calls.mono h hr
theorem tu.calls {P:Program} {f:FuncId} {us:Array Value} {w:World} {R:Ending->World->Prop} (h:tu P f us w R) (hf:f≠YB) (he:ext P f=false):Calls P f us w R:=by
 simp_all [tu]
theorem tu.of {P:Program} {f:FuncId} {us:Array Value} {w:World} {R:Ending->World->Prop} (h:Calls P f us w R) (hf:f≠YB) (he:ext P f=false):tu P f us w R:=by
 simp_all [tu]
theorem tu.ext {P:Program} {f:FuncId} {us:Array Value} {w:World} {R:Ending->World->Prop} (h:tu P f us w R) (hf:f≠YB) (he:ext P f=true): ∃u w',(callFunc f us).run P w= .ok (.value u) w'/\R (.returned u) w':=by
 simp_all [tu]
theorem tu.U6 {P:Program} {f:FuncId} {us:Array Value} {w w':World} {u:Value} {R:Ending->World->Prop} (hf:f≠YB) (he:Go.Ab.ext P f=true) (h:(callFunc f us).run P w= .ok (.value u) w') (hr:R (.returned u) w'):tu P f us w R:=by
 unfold tu;grind
theorem qH {P:Program} {f:FuncId} {fn:Func} {c:Code} (hf:P.funcs[f]? =some fn) (hc:fn.body=some c):Go.Ab.ext P f=false:=by
 grind [Go.Ab.ext]
def Fw (ro:Option Nat):Fence:={Fence.wide with round:=ro}
def HM:Option Value->Value->Ending
 |none,u=> .returned u
 |some p,_=> .panicked [{v:=p,recovered:=false}]
structure aA (P:Program) (f:FuncId) (args:List AV) (h:Hp) (n:Nat) (E:bV):Prop where
 bH:bH P f=true
 le:n<=E.n
 md: ∀b r,cy E.md b=some r->inl E.rd b=true
 nw: ∀b k,aa E.nw b=some k->n<=b/\b<E.n
 run: ∀(D:Nat->Prop) (φ:bP) (w:World) (us:List Value),(∀b,n<=b->b<E.n-> ¬D b)->HR D φ (only (aa h) E.rd) w->cw D φ args us→
  tu P f us.toArray w λe w'=> ∃u φ',e=HM E.pn u/\aK (Dn D n E.n) φ' E.v u/\dU D φ (only (aa h) E.rd) w (Dn D n E.n) φ' (E.app (only (aa h) E.rd)) w'∧
   (∀b k,E.app (only (aa h) E.rd) b=some k->k.ro=true->only (aa h) E.rd b=some k)
def Sound (P:Program) (cx:Cx):Prop:= ∀f args h n c E,cx f args h n=some (c,E)->c=true->aA P f args h n E
def cn (cx:Cx) (o:j8) (e:Env) (h:Hp) (n:Nat):Option (Bool×bV):=
 match o with
 | .call f args=>(f.ev e h).bind λv=>match v with
  | .fn g caps=>(yM e h args).bind λl=>cx g (l++caps) h n
  | .bm g fs=>(yM e h args).bind λl=>cx g (fs++l) h n
  | .yl L r ts cs=>(yM e h args).bind λl=>cx YB (.yl L r ts cs::l) h n
  |_=>none
 | .S6 x=>(x.ev e h).bind λv=>match v with
  | .k t u=>some (true,{v:= .bz [],n,pn:=some (.iface t u)})
  |_=>none
 |o=>step o e h n
theorem oU (a b:Hp) (c:Nat):aa (a++b) c=match aa a c with|some k=>some k|none=>aa b c:=by
 induction a with
 |nil=>rfl
 |cons x a ih=>
  obtain ⟨d,k⟩:=x;simp only [ez,aa];cases Nat.beq d c<;>simp [ih]
theorem nr (h:Hp) (b:Nat) (k:bp) (c:Nat):aa (iH h b k) c=if c=b then some k else aa h c:=by
 induction h with
 |nil=>
  simp only [iH,aa];by_cases hc:c=b
  ·simp_all
  ·grind [bO]
 |cons x h ih=>
  obtain ⟨d,j⟩:=x;simp only [iH,aa];by_cases hd:Nat.beq d b=true
  ·have:=ee hd;subst this;simp only [hd,cond_true,aa]
   grind [bO]
  ·rw [kG] at hd;simp only [hd,cond_false,aa]
   grind
theorem HA (h:Hp) (b:Nat) (c:Nat):aa (oH h b) c=if c=b then none else aa h c:=by
 induction h with
 |nil=>simp [oH,aa]
 |cons x h ih=>
  obtain ⟨d,j⟩:=x;simp only [oH,aa];by_cases hd:Nat.beq d b=true
  ·simp_all [ee,cond_true,bO]
  ·rw [kG] at hd;simp only [hd,cond_false,aa]
   grind
theorem sx (h:Hp): ∀(md:List (Nat×Option bp)) (c:Nat),aa (ja h md) c=match cy md c with|some r=>r|none=>aa h c
 |[],c=>rfl
 |(b,some k)::r,c=>by
  simp only [ja,cy,nr];by_cases hc:c=b
  ·subst hc;simp
  ·simp [hc,bO hc,sx h r c]
 |(b,none)::r,c=>by
  simp only [ja,cy,HA];by_cases hc:c=b
  ·subst hc;simp
  ·simp [hc,bO hc,sx h r c]
theorem o9 (E:bV) (h:Hp):aa (E.fg h)=E.app (aa h):=by
 grind [bV.fg,bV.app,sx,oU,cy]
section
variable {P:Program} {D:Nat->Prop} {φ:bP} {w:World} {n:Nat} {e:Env} {h:Hp} {E:bV} {cx:Cx}
theorem nU {H:Hf} {φ':bP} {w':World} {D':Nat->Prop} (hH:HR D φ H w) (hsub: ∀b k,only (aa h) E.rd b=some k->H b=some k)
 (hmd: ∀b r,cy E.md b=some r->inl E.rd b=true)
 (h1:dU D φ (only (aa h) E.rd) w D' φ' (E.app (only (aa h) E.rd)) w')
 (hro: ∀b k,E.app (only (aa h) E.rd) b=some k->k.ro=true->only (aa h) E.rd b=some k)
 (hex: ∀b,inl E.rd b=true->aa h b=none->cy E.md b=none->aa E.nw b=none->H b=none\/True):
 dU D φ H w D' φ' (E.app H) w':=by
 refine dU.frame hH hsub h1 (E.app H) (λb k hb=> ?_) hro;simp only [bV.app] at hb ⊢;cases hm:cy E.md b with
 |some r=>rw [hm] at hb;exact .inl hb
 |none=>
  rw [hm] at hb;cases hn:aa E.nw b with
  |some k'=>rw [hn] at hb;exact .inl hb
  |none=>
   rw [hn] at hb;simp only at hb ⊢;cases ho:only (aa h) E.rd b with
   |some k'=>left;rw [hsub b k' ho] at hb;exact hb
   |none=>right;exact ⟨hb,rfl⟩
theorem lg {f:FuncId} (hfy:f≠YB) (hf:bH P f=true) (he:ext P f=false) (args:Array Value) (w:World):(callFunc f args).run P w= .ok (.enter f args) w:=by
 unfold bH at hf;rw [show Nat.beq f YB=false from bO (λe=>hfy e.symm),vp] at hf
 split at hf
 ·rename_i fn hfn;have hb':fn.body.isNone=false:=by simp_all [ext]
  have hn':(fn.name== "runtime.NumGoroutine")=false:=by grind
  simp only [callFunc,Sem.run_bind,run_program,Result.andThen_ok,hfn,hn',ei,dP,hb',Sem.run_pure]
 ·cases hf
def im:j8->Bool
 | .call _ _=>false
 | .S6 _=>false
 |_=>true
def NC (x:Option j8):Prop:= ∀y,x=some y->im y=true
theorem NC.bind {α:Type} {x:Option α} {f:α->Option j8} (h: ∀a,NC (f a)):NC (x.bind f):=λy hy=>by
 simp only [av] at hy;obtain ⟨a,_,hy⟩:=hy;exact h a y hy
theorem NC.map {α:Type} {x:Option α} {f:α->j8} (h: ∀a,im (f a)=true):NC (x.map f):=λy hy=>by
 grind [bK]
theorem NC.none:NC none:=λy hy=>by cases hy
theorem NC.ite {c:Prop} [Decidable c] {x y:Option j8} (h1:NC x) (h2:NC y):NC (if c then x else y):=by grind
theorem NC.bE {x:Option j8} (h:NC x):im (bE x)=true:=by
 cases x with
 |none=>rfl
 |some y=>exact h y rfl
theorem fe {o:Op} (ho: ∀f args tys,o≠ .call ⟨.value f,args,tys⟩) (hp: ∀x,o≠ .panic x):im (cN P o)=true:=by
 cases o<;>simp only [cN]
 case call c=>
  obtain ⟨callee,args,tys⟩:=c;cases callee with
  |value f=>exact absurd rfl (ho f args tys)
  |invoke r m=>rfl
  |builtin b=>
   simp only;repeat' split
   all_goals first
    |rfl
    |(refine NC.bE ?_;repeat (first|(refine NC.bind (λ_=> ?_))|exact NC.map (λ_=>rfl)|exact NC.none|refine NC.ite ?_ ?_))
 case panic x=>grind
 case makeFunc fn first caps=>
  cases fn with
  |func f=>simp only;repeat' split
           all_goals first|rfl|exact NC.bE (NC.map (λ_=>rfl))
  |_=>rfl
 all_goals (repeat' split)
 all_goals first
  |rfl
  |(refine NC.bE ?_;repeat (first|(refine NC.bind (λ_=> ?_))|exact NC.map (λ_=>rfl)|exact NC.none|refine NC.ite ?_ ?_))
theorem se {ro:Option Nat} {f:FuncId} {args:Array Value} {R:Ending->World->Prop} (h:Calls P f args w R):CallsIn (Fw ro) (0-1) P f args w R:=by
 have h1:CallsIn Fence.wide (0-1) P f args w R:=callsIn_wide.2 h;exact h1
def sK (x:Option (Bool×bV)):Prop:= ∀c E,x=some (c,E)->E.pn=none
theorem sK.bind {α:Type} {x:Option α} {f:α->Option (Bool×bV)} (h: ∀a,sK (f a)):sK (x.bind f):=λc E hy=>by
 simp only [av] at hy;obtain ⟨a,_,hy⟩:=hy;exact h a c E hy
theorem sK.none:sK none:=λc E h=>by cases h
theorem sK.pe {v:AV} {n:Nat}:sK (pe v n):=λc E h=>by grind [Go.Ab.pe,aI,aV]
theorem sK.some {c:Bool} {v:AV} {n:Nat} {rd:List Nat} {md:List (Nat×Option bp)} {nw:List (Nat×bp)}:sK (some (c,{v,n,rd,md,nw})):=λc E h=>by grind
theorem sK.da {e:Env} {h:Hp} {o:Option cq} {k:Option Int->Option (Bool×bV)} (hk: ∀a,sK (k a)):sK (da e h o k):=by
 cases o with
 |none=>exact hk _
 |some x=>exact sK.bind λv=>sK.bind λa=>hk _
theorem sK.ite {c:Prop} [Decidable c] {x y:Option (Bool×bV)} (h1:sK x) (h2:sK y):sK (if c then x else y):=by grind
theorem sK.cnd {c:Bool} {x y:Option (Bool×bV)} (h1:sK x) (h2:sK y):sK (bif c then x else y):=by cases c<;>assumption
theorem Pw (o:j8):sK (step o e h n):=by
 cases o<;>simp only [step];all_goals repeat' (first
  |exact sK.none
  |exact sK.pe
  |exact sK.some
  |refine sK.bind λ_=> ?_
  |refine sK.da λ_=> ?_
  |refine sK.ite ?_ ?_
  |refine sK.cnd ?_ ?_
  |split)
theorem Cm {D:Nat->Prop} {φ:bP}:aK D φ (.bz []) undef:=aK.bz [] #[] rfl (λi a u ha=>by simp at ha)
theorem dU.Kk {D:Nat->Prop} {φ:bP} {H:Hf} {w:World} {n:Nat} {v:AV} {p:Option Value} (hH:HR D φ H w):dU D φ H w (Dn D n n) φ (bV.app {v,n,pn:=p} H) w:=by
 have e:(bV.app {v,n,pn:=p} H)=H:=by funext b;rfl
 have hd: ∀b,D b->Dn D n n b:=λb h=> .inl h;rw [e];exact dU.mk' hH rfl rfl hd (cT.refl D φ).at_ ⟨λb k hb=>⟨hd b (hH.at_ b k hb).1,(hH.at_ b k hb).2.mono hd (cT.refl _ _) (hH.at_ b k hb).1 rfl⟩,hH.sep⟩ (GN.refl _ _ _) λb k hb hk=> .inr ⟨b,k,hb,hk,rfl⟩
theorem LN {c:Call}:step (cN P (.defer c)) e h n=none:=by
 simp only [cN];split
 ·rename_i f hf;cases hq:((cO f).bind λf=>(yu c.args.toList).map λl=>j8.BW f l) with
  |none=>rfl
  |some y=>
   simp only [av,bK] at hq;obtain ⟨_,_,_,_,rfl⟩:=hq;rfl
 ·rfl
theorem LI {ro:Option Nat} {o:Oper} {a:Act} {next:Act->World->Prop} {Q:Exit->Act->World->Prop} (hcx:Sound P cx) (hs:cn cx (cN P o.op) e h n=some (true,E)) (hn: ∀b,n<=b->b<E.n-> ¬D b)
 (hk:ZV D φ e h a.eval o.op) (hH:HR D φ (only (aa h) E.rd) w)
 (hnext: ∀φ' u w',n<=E.n->aK (Dn D n E.n) φ' E.v u->dU D φ (only (aa h) E.rd) w (Dn D n E.n) φ' (E.app (only (aa h) E.rd)) w'→
   (∀b k,E.app (only (aa h) E.rd) b=some k->k.ro=true->only (aa h) E.rd b=some k)->(∀b r,cy E.md b=some r->inl E.rd b=true)->(∀b k,aa E.nw b=some k->n<=b/\b<E.n)→
   match E.pn with|none=>next (a.put o.dst u) w'|some p=>Q (.panic [{v:=p,recovered:=false}]) a w'):
 o.wpIn (Fw ro) 0 P a w next Q:=by
 have hsem:(∀c,o.op≠ .defer c)->o.semAt (Fw ro).round a.eval=execOp a.eval o:=Oper.semAt_eq _ _ _;have ends: ∀{φ':bP} {u:Value} {w':World} {ex:Ending},ex=HM E.pn u->(match E.pn with|none=>next (a.put o.dst u) w'|some p=>Q (.panic [{v:=p,recovered:=false}]) a w')→
  (match ex,w' with| .returned v,w''=>next (a.put o.dst v) w''| .panicked chain,w''=>Q (.panic chain) a w''| .outgrown,_=>LetsOut Q):=λ{φ' u w' ex} hx hn=>by
  cases hp:E.pn with
  |none=>rw [hp] at hx hn;subst hx;exact hn
  |some p=>rw [hp] at hx hn;subst hx;exact hn
 refine ⟨λ_ _=>trivial,?_⟩;have plain:step (cN P o.op) e h n=some (true,E)->o.uponIn (Fw ro) 0 P a next Q ((o.semAt (Fw ro).round a.eval).run P w):=λhs=>by
  rw [hsem (λc hc=>by grind [LN])]
  have hpn:=Pw _ _ _ hs;obtain ⟨φ',u,nx,w',hr,hnx,hle,hv,hst,hro,hmd,hnw⟩:=xG (P:=P) (ρ:=a.eval) (w:=w) hs rfl (λhlt=>hn n (bx _) hlt) hk hH;rw [hr];rcases hnx with rfl|⟨rfl,rfl⟩
  ·have:=hnext φ' u w' hle hv hst hro hmd hnw;rw [hpn] at this;exact this
  ·have:=hnext φ' undef w' hle hv hst hro hmd hnw;rw [hpn] at this;exact this
 unfold cn at hs;split at hs
 ·rename_i f args hcall
  -- a call
  simp only [av] at hs;obtain ⟨v,hv,hs⟩:=hs;split at hs
  ·rename_i g caps;simp only [av] at hs;obtain ⟨l,hl,hs⟩:=hs;have hok:=hcx g (l++caps) h n true E hs rfl
   -- the model's call
   cases hop:o.op with
   |call c=>
    rw [hop] at hcall hk;simp only [cN] at hcall;obtain ⟨callee,cargs,ctys⟩:=c;cases callee with
    |value fo=>
     simp only at hcall;cases hf:cO fo with
     |none=>simp [hf,bE] at hcall
     |some f'=>
      cases ha:yu cargs.toList with
      |none=>simp [hf,ha,bE] at hcall
      |some l'=>
       simp only [hf,ha,aC,iI,bE,fM,j8.call.injEq] at hcall;obtain ⟨rfl,rfl⟩:=hcall;simp only [ZV,Op.operands,Call.operands] at hk;have h1:=hk fo (by simp) f' hf _ hv
       obtain ⟨hgy,cs,hcs,hcaps⟩:=h1.yd;have h2:=mc (ρ:=a.eval) ha hl (λy hy x hx=>hk y (by grind) x hx)
       rw [hsem (λc hc=>by grind)]
       have hans:=hok.run D φ w (cargs.toList.map a.eval++cs) hn hH (h2.append hcaps);cases hext:ext P g
       ·have hrun:(execOp a.eval o).run P w= .ok (.enter g ((cargs.toList.map a.eval++cs).toArray)) w:=by
         simp only [execOp,hop,resolve,Sem.run_bind,hcs,Deferred.ofValue,Sem.run_pure,Result.andThen_ok,invoke];rw [lg hgy hok.bH hext];simp
        rw [hrun];rw [Oper.uponIn_enter];refine ⟨λhd=>(by cases hd),?_⟩
        refine se ?_;refine (hans.calls hgy hext).mono λex w' hx=> ?_;obtain ⟨u,φ',hex,hv',hst,hro⟩:=hx;exact ends (φ':=φ') hex (hnext φ' u w' hok.le hv' hst hro hok.md hok.nw)
       ·obtain ⟨u,w',hr1,hr2⟩:=hans.ext hgy hext;have hrun:(execOp a.eval o).run P w= .ok (.value u) w':=by
         simp only [execOp,hop,resolve,Sem.run_bind,hcs,Deferred.ofValue,Sem.run_pure,Result.andThen_ok,invoke];rw [<-hr1];congr 2;simp
        rw [hrun];obtain ⟨u',φ',hu',hv',hst,hro⟩:=hr2;have:=hnext φ' u' w' hok.le hv' hst hro hok.md hok.nw;cases hp:E.pn with
        |none=>rw [hp] at hu' this;cases hu';exact this
        |some p=>rw [hp] at hu';cases hu'
    |invoke r m=>simp at hcall
    |builtin b=>
     exfalso;have h0:=fe (P:=P) (o:= .call ⟨.builtin b,cargs,ctys⟩) (λ_ _ _ h=>by simp at h) (λ_ h=>by simp at h)
     simp only [cN] at h0;simp only at hcall;rw [hcall] at h0;simp [im] at h0
   |panic y=>
    exfalso;rw [hop] at hcall;simp only [cN] at hcall;cases hy:cO y<;>simp [hy,bE] at hcall
   |_=>
    exfalso;rw [hop] at hcall;have h0:im (cN P o.op)=true:=fe (by grind) (by grind)
    rw [hop,hcall] at h0;simp [im] at h0
  ·rename_i g fs;simp only [av] at hs;obtain ⟨l,hl,hs⟩:=hs;have hok:=hcx g (fs++l) h n true E hs rfl
   -- the model's call
   cases hop:o.op with
   |call c=>
    rw [hop] at hcall hk;simp only [cN] at hcall;obtain ⟨callee,cargs,ctys⟩:=c;cases callee with
    |value fo=>
     simp only at hcall;cases hf:cO fo with
     |none=>simp [hf,bE] at hcall
     |some f'=>
      cases ha:yu cargs.toList with
      |none=>simp [hf,ha,bE] at hcall
      |some l'=>
       simp only [hf,ha,aC,iI,bE,fM,j8.call.injEq] at hcall;obtain ⟨rfl,rfl⟩:=hcall;simp only [ZV,Op.operands,Call.operands] at hk;have h1:=hk fo (by simp) f' hf _ hv
       obtain ⟨hgy,cs,hcs,hcaps⟩:=h1.Xc;have h2:=mc (ρ:=a.eval) ha hl (λy hy x hx=>hk y (by grind) x hx)
       rw [hsem (λc hc=>by grind)]
       have hans:=hok.run D φ w (cs++cargs.toList.map a.eval) hn hH (hcaps.append h2);cases hext:ext P g
       ·have hrun:(execOp a.eval o).run P w= .ok (.enter g ((cs++cargs.toList.map a.eval).toArray)) w:=by
         simp only [execOp,hop,resolve,Sem.run_bind,hcs,Deferred.ofValue,Sem.run_pure,Result.andThen_ok,invoke];rw [lg hgy hok.bH hext];simp
        rw [hrun];rw [Oper.uponIn_enter];refine ⟨λhd=>(by cases hd),?_⟩
        refine se ?_;refine (hans.calls hgy hext).mono λex w' hx=> ?_;obtain ⟨u,φ',hex,hv',hst,hro⟩:=hx;exact ends (φ':=φ') hex (hnext φ' u w' hok.le hv' hst hro hok.md hok.nw)
       ·obtain ⟨u,w',hr1,hr2⟩:=hans.ext hgy hext;have hrun:(execOp a.eval o).run P w= .ok (.value u) w':=by
         simp only [execOp,hop,resolve,Sem.run_bind,hcs,Deferred.ofValue,Sem.run_pure,Result.andThen_ok,invoke];rw [<-hr1];congr 2;simp
        rw [hrun];obtain ⟨u',φ',hu',hv',hst,hro⟩:=hr2;have:=hnext φ' u' w' hok.le hv' hst hro hok.md hok.nw;cases hp:E.pn with
        |none=>rw [hp] at hu' this;cases hu';exact this
        |some p=>rw [hp] at hu';cases hu'
    |invoke r m=>simp at hcall
    |builtin b=>
     exfalso;have h0:=fe (P:=P) (o:= .call ⟨.builtin b,cargs,ctys⟩) (λ_ _ _ h=>by simp at h) (λ_ h=>by simp at h)
     simp only [cN] at h0;simp only at hcall;rw [hcall] at h0;simp [im] at h0
   |panic y=>
    exfalso;rw [hop] at hcall;simp only [cN] at hcall;cases hy:cO y<;>simp [hy,bE] at hcall
   |_=>
    exfalso;rw [hop] at hcall;have h0:im (cN P o.op)=true:=fe (by grind) (by grind)
    rw [hop,hcall] at h0;simp [im] at h0
  ·rename_i L r ts cs0;simp only [av] at hs;obtain ⟨l,hl,hs⟩:=hs;have hok:=hcx YB (.yl L r ts cs0::l) h n true E hs rfl
   -- the model's call
   cases hop:o.op with
   |call c=>
    rw [hop] at hcall hk;simp only [cN] at hcall;obtain ⟨callee,cargs,ctys⟩:=c;cases callee with
    |value fo=>
     simp only at hcall;cases hf:cO fo with
     |none=>simp [hf,bE] at hcall
     |some f'=>
      cases ha:yu cargs.toList with
      |none=>simp [hf,ha,bE] at hcall
      |some l'=>
       simp only [hf,ha,aC,iI,bE,fM,j8.call.injEq] at hcall;obtain ⟨rfl,rfl⟩:=hcall;simp only [ZV,Op.operands,Call.operands] at hk;have h1:=hk fo (by simp) f' hf _ hv
       have h2:=mc (ρ:=a.eval) ha hl (λy hy x hx=>hk y (by grind) x hx)
       rw [hsem (λc hc=>by grind)]
       generalize hcs:a.eval fo=u0 at h1;have hans:=hok.run D φ w (u0::cargs.toList.map a.eval) hn hH (.cons h1 h2);cases h1;unfold tu at hans;rw [aT rfl] at hans;obtain ⟨L',vs,hus,hy⟩:=hans;have hus':=dC Array.toList hus;simp only [Array.toList_append,ez,List.nil_append,yQ,Value.func.injEq,Fn.yield.injEq,e9] at hus';obtain ⟨rfl,hvs⟩:=hus';obtain ⟨fn,tmps,as,bd,g1,g2⟩:=hy;have hrun:(execOp a.eval o).run P w= .ok (.round L fn tmps as bd) w:=by
        simp only [execOp,hop,resolve,Sem.run_bind,hcs,Deferred.ofValue,Sem.run_pure,Result.andThen_ok,invoke];simp_all [Array.ext']
       rw [hrun];rw [Oper.uponIn_round];refine ⟨λhd=>(by cases hd),?_⟩
       have g3:RoundIn (Fw ro) (0-1) P L fn tmps as bd w _:=g2;refine g3.mono λex w' hx=> ?_;obtain ⟨u,φ',hex,hv',hst,hro⟩:=hx;exact ends (φ':=φ') hex (hnext φ' u w' hok.le hv' hst hro hok.md hok.nw)
    |invoke r m=>simp at hcall
    |builtin b=>
     exfalso;have h0:=fe (P:=P) (o:= .call ⟨.builtin b,cargs,ctys⟩) (λ_ _ _ h=>by simp at h) (λ_ h=>by simp at h)
     simp only [cN] at h0;simp only at hcall;rw [hcall] at h0;simp [im] at h0
   |panic y=>
    exfalso;rw [hop] at hcall;simp only [cN] at hcall;cases hy:cO y<;>simp [hy,bE] at hcall
   |_=>
    exfalso;rw [hop] at hcall;have h0:im (cN P o.op)=true:=fe (by grind) (by grind)
    rw [hop,hcall] at h0;simp [im] at h0
  ·cases hs
 ·rename_i x hpan;simp only [av] at hs;obtain ⟨v,hv,hs⟩:=hs;split at hs
  ·rename_i t u;simp only [aI,aV,lI] at hs;subst hs;cases hop:o.op with
   |panic y=>
    rw [hop] at hpan hk;simp only [cN] at hpan;cases hy:cO y with
    |none=>simp [hy,bE] at hpan
    |some x'=>
     simp only [hy,iI,bE,fM,j8.S6.injEq] at hpan;subst hpan;have h1:=hk y (by simp [Op.operands]) x' hy _ hv
     generalize hu:a.eval y=u0 at h1;cases h1;rw [hsem (λc hc=>by grind)]
     have hrun:(execOp a.eval o).run P w= .halt (.panic (.iface t u)) w:=by
      simp_all [execOp,Instr.panic,goPanic]
     rw [hrun,Oper.uponIn_panic];exact hnext φ undef w (bx _) Cm (dU.Kk hH) (λb k hb _=>hb) (λb r hb=>by simp [cy] at hb) (λb k hb=>by simp [aa] at hb)
   |call c=>
    exfalso;obtain ⟨callee,cargs,ctys⟩:=c;rw [hop] at hpan;cases callee with
    |value f=>
     simp only [cN] at hpan;cases hf:cO f with
     |none=>simp [hf,bE] at hpan
     |some f'=>cases hl:yu cargs.toList<;>simp [hf,hl,bE] at hpan
    |invoke r m=>simp [cN] at hpan
    |builtin b=>
     have h0:=fe (P:=P) (o:= .call ⟨.builtin b,cargs,ctys⟩) (λ_ _ _ h=>by simp at h) (λ_ h=>by simp at h)
     rw [hpan] at h0;simp [im] at h0
   |_=>
    exfalso;rw [hop] at hpan;have h0:im (cN P o.op)=true:=fe (by grind) (by grind)
    rw [hop,hpan] at h0;simp [im] at h0
  ·cases hs
 grind
end
end Go.Ab
namespace Go.Ab
inductive bb where
 |skip
 |dY (ops:List bq)
 |jv (ops:List (bq×List Nat))
 |seq (a b:bb)
 |cond (c:cq) (a b:bb)
 |block (id:Nat) (c:bb)
 |loop (c:bb)
 |scope (c:bb)
 |pX (g:cq) (ps:List Nat) (a b:bb)
 |exit (id:Nat)
 |ret
 |bad
abbrev lU(x:List bq)(y:bb):bb:=.seq (.dY x) y
def bk (P:Program) (ops:List Oper) (sp:List Nat) (o:Oper):bq:=
 match o.guard with
 |none=>{dst:=o.dst,op:=cN P o.op,guard:=none,ZR:=match o.dst with|some d=>inl sp d|none=>false}
 |some (j,b)=>match (ops[j]?).bind (·.dst) with
  |some d=>{dst:=o.dst,op:=cN P o.op,guard:=some (d,b),ZR:=match o.dst with|some d=>inl sp d|none=>false}
  |none=>{dst:=o.dst,op:= .bad,guard:=none,ZR:=false}
def iS (ops:List Oper):List Nat:=ops.filterMap λo=>match o.guard with
 |some (j,_)=>(ops[j]?).bind (·.dst)
 |none=>none
def iu (d:Option Nat) (v:AV) (e:Env):Env:=
 match d with
 |some t=>(t,v)::e
 |none=>e
def It (c:Bool) (a b:Prop):Prop:=(c=true->a)/\(c=false->b)
def ic (s:Bool) (v:AV) (k:AV->Prop):Prop:=
 match s,v with
 |true,.b c=>It c (k (.b true)) (k (.b false))
 |_,v=>k v
theorem qp {s:Bool} {v:AV} {k:AV->Prop} (h:ic s v k):k v:=by
 unfold ic at h;split at h
 ·rename_i c;cases c
  ·exact h.2 rfl
  ·exact h.1 rfl
 ·exact h
def jN (e:Env):Option (Nat×Bool)->Option Bool
 |none=>some true
 |some (t,b)=>match bC e t with
  |some (.b c)=>some (c==b)
  |some (.bz [])=>some false
  |_=>none
def gd {α:Type} (x:Option α) (k:α->Prop):Prop:=
 match x with
 |some a=>k a
 |none=>False
theorem fD {α:Type} {x:Option α} {k:α->Prop} (h:gd x k): ∃a,x=some a/\k a:=by
 cases x with
 |none=>exact h.elim
 |some a=>exact ⟨a,rfl,h⟩
abbrev bX:=Exit->Env->Hp->Nat->Prop
def E3 (p:Option Value) (K:bX) (e:Env) (h:Hp) (n:Nat) (k:Prop):Prop:=
 match p with
 |none=>k
 |some u=>K (.panic [{v:=u,recovered:=false}]) e h n
def iv (cx:Cx):List bq->Env->Hp->Nat->bX->Prop
 |[],e,h,n,K=>K .normal e h n
 |o::os,e,h,n,K=>gd (jN e o.guard) λb=>match b with
  |true=>gd (cn cx o.op e h n) λr=>r.1=true/\E3 r.2.pn K e (r.2.fg h) r.2.n (ic o.ZR r.2.v λv=>iv cx os (iu o.dst v e) (r.2.fg h) r.2.n K)
  |false=>iv cx os (iu o.dst (.bz []) e) h n K
def Mk (m:Nat×List Deferred) (l:List Deferred) (w:World):Prop:=
 ∃ds:List Nat,l=ds.map (λD=>{target:= .collected D,args:= #[]})++m.2/\ds.Nodup/\ ∀D∈ds,m.1<=D/\w.heap[D]? =some (.deferred (some []))
theorem Mk.nil {m:Nat} {B:List Deferred} {w:World}:Mk (m,B) B w:=⟨[],rfl,Cd,λD h=>by cases h⟩
theorem HR.stays {D:Nat->Prop} {φ:bP} {H:Hf} {w w':World} (hH:HR D φ H w) (eF:GN H φ w w') {c:Nat} {o:Obj} (hc:w.heap[c]? =some o) (ho: ∀(cs:Array Value) (elem:TypeId) (fr:Nat×Nat),o≠ .cells cs elem fr) (hom: ∀(es:Array MapEntry) (clk:Nat),o≠ .map es clk):w'.heap[c]? =some o:=by
 have hlt:c<w.heap.size:=by
  grind
 rw [eF.block c hlt (λb k hb hk he=> ?_)]
 ·exact hc
 ·obtain ⟨⟨cs,elem,fr,h2,_⟩,_⟩:=(hH.at_ b k hb).2;rw [he,hc] at h2;unfold rP at h2
  grind
theorem Mk.stays {m:Nat×List Deferred} {l:List Deferred} {D:Nat->Prop} {φ:bP} {H:Hf} {w w':World} (h:Mk m l w) (hH:HR D φ H w) (eF:GN H φ w w'):Mk m l w':=
 let ⟨ds,h1,h2,h3⟩:=h;⟨ds,h1,h2,λD hD=>⟨(h3 D hD).1,hH.stays eF (h3 D hD).2 (λ_ _ _ e=>by cases e) (λ_ _ e=>by cases e)⟩⟩
structure Rel (D:Nat->Prop) (φ:bP) (e:Env) (h:Hp) (n N:Nat) (m:Nat×List Deferred) (a:Act) (w:World):Prop where
 lt: ∀b,D b->b<n
 env: ∀t v,bC e t=some v->aK D φ v (a.tmps.getD t undef)
 heap:HR D φ (aa h) w
 size:a.tmps.size=N
 defers:Mk m a.defers w
def pw (N n0:Nat) (B:List Deferred) (D0:Nat->Prop) (φ0:bP) (H0:Hf) (w0:World) (K:bX) (ex:Exit) (a:Act) (w:World):Prop:=
 ∃D φ e h n,K ex e h n/\n0<=n/\Rel D φ e h n N (w0.heap.size,B) a w/\dU D0 φ0 H0 w0 D φ (aa h) w
def j6:Code->Bool
 | .seq a b=>j6 a&&j6 b
 | .cond _ a b=>j6 a&&j6 b
 | .block _ c=>j6 c
 | .loop c=>j6 c
 | .scope c=>j6 c
 | .rangeFunc _ _ _ _=>false
 |_=>true
def WP (P:Program) (N n0:Nat) (c:Code) (K:bX) (e:Env) (h:Hp) (n:Nat):Prop:=
 ∀ro,(ro=none\/j6 c=true)-> ∀B D0 φ0 H0 w0,(∀b,D0 b->b<n0)->n0<=n-> ∀D φ a w,Rel D φ e h n N (w0.heap.size,B) a w->dU D0 φ0 H0 w0 D φ (aa h) w→
  c.wpIn (Fw ro) 0 P (λex a' w'=>pw N n0 B D0 φ0 H0 w0 K ex a' w') a w
section
variable {P:Program} {D:Nat->Prop} {φ:bP} {w:World} {n N n0:Nat} {e:Env} {h:Hp} {E:bV} {cx:Cx} {a:Act}
theorem vj {h:Hp} {g:Nat} {v:AV} (hv:iZ h g=some v): ∃c k,v= .p c 0/\aa h c=some k/\k.gid=some g:=by
 unfold iZ at hv;simp only [av] at hv;obtain ⟨u,_,hv⟩:=hv;cases u with
 |p c o=>
  simp only [av] at hv;obtain ⟨k,hk,hv⟩:=hv;cases hg:k.gid with
  |none=>rw [hg] at hv;cases hv
  |some g'=>
   rw [hg] at hv;simp only at hv;cases hb:Nat.beq g' g
   ·grind
   ·rw [hb] at hv;simp only [cond_true,aI] at hv
    grind [ee]
 |_=>cases hv
theorem pV {D:Nat->Prop} {φ:bP} {e:Env} {h:Hp} {a:Act} {w:World} {y:Operand} {x:cq} {v:AV} (hR: ∀t v,y= .tmp t->bC e t=some v->aK D φ v (a.tmps.getD t undef)) (hc:cO y=some x) (hH:HR D φ (aa h) w) (hv:x.ev e h=some v):aK D φ v (a.eval y):=by
 cases y with
 |tmp t=>
  simp only [cO,aI] at hc;subst hc;exact hR t v rfl hv
 |const u=>
  simp only [cO] at hc;obtain ⟨q,hq,rfl⟩:=bK.1 hc;simp only [cq.ev,aI] at hv;subst hv;exact lA hq
 |global g=>
  simp only [cO,aI] at hc;subst hc;obtain ⟨c,k,rfl,hk,hg⟩:=vj hv;obtain ⟨hd,hb⟩:=hH.at_ c k hk;obtain ⟨h1,h2⟩:=hb.gid g hg;have:=aK.p (D:=D) (φ:=φ) c 0 hd;rw [h1,h2] at this;exact this
 |func f=>
  simp only [cO] at hc;split at hc
  ·cases hc
  ·rename_i hf;simp only [aI] at hc;subst hc;simp only [cq.ev,aI] at hv;subst hv;exact aK.fn' (λe=>hf (by rw [e];simp)) .nil
theorem tW {y:Operand} {x:cq} {v:AV} (hR: ∀t v,y= .tmp t->bC e t=some v->aK D φ v (a.tmps.getD t undef)) (hc:cO y=some x) (hg: ∀g,y≠ .global g) (hv:x.ev e h=some v):aK D φ v (a.eval y):=by
 cases y with
 |tmp t=>
  simp only [cO,aI] at hc;subst hc;exact hR t v rfl hv
 |const u=>
  simp only [cO] at hc;obtain ⟨q,hq,rfl⟩:=bK.1 hc;simp only [cq.ev,aI] at hv;subst hv;exact lA hq
 |global g=>exact absurd rfl (hg g)
 |func f=>
  simp only [cO] at hc;split at hc
  ·cases hc
  ·rename_i hf;simp only [aI] at hc;subst hc;simp only [cq.ev,aI] at hv;subst hv;exact aK.fn' (λe=>hf (by rw [e];simp)) .nil
theorem HB {d:Option Nat} {v:AV} {t:Nat} {u:AV} (h:bC (iu d v e) t=some u):(d=some t/\u=v)\/(d≠some t/\bC e t=some u):=by
 cases d with
 |none=>exact .inr ⟨by simp,h⟩
 |some s=>
  simp only [iu,bC] at h;by_cases hs:t=s
  ·simp_all
  ·grind [bO]
theorem xV {a:Act} {d:Option Nat} {u:Value} {t:Nat} (hd:d≠some t):(a.put d u).tmps.getD t undef=a.tmps.getD t undef:=by
 cases d with
 |none=>rfl
 |some s=>
  have:s≠t:=λe=>hd (by rw [e])
  simp [Act.put,rG,Array.getElem?_setIfInBounds_ne this]
theorem rA {a:Act} {t:Nat} {u:Value} (ht:t<a.tmps.size):(a.put (some t) u).tmps.getD t undef=u:=by
 simp [Act.put,ht]
theorem yg {a:Act} {d:Option Nat} {u:Value}:(a.put d u).tmps.size=a.tmps.size:=by
 cases d<;>simp [Act.put]
theorem put_defers {a:Act} {d:Option Nat} {u:Value}:(a.put d u).defers=a.defers:=by
 cases d<;>rfl
theorem Ar:aK D φ (.bz []) undef:=aK.bz [] #[] rfl (λi a u ha=>by simp at ha)
theorem Rel.put {d:Option Nat} {v:AV} {u:Value} {D':Nat->Prop} {φ':bP} {h':Hp} {n':Nat} {w':World} {m:Nat×List Deferred} (hR:Rel D φ e h n N m a w) (hmk:Mk m a.defers w') (hd: ∀t,d=some t->t<N) (hsub: ∀b,D b->D' b) (hag:cT D φ φ')
 (hlt: ∀b,D' b->b<n') (hv:aK D' φ' v u) (hh:HR D' φ' (aa h') w'):Rel D' φ' (iu d v e) h' n' N m (a.put d u) w':=by
 refine ⟨hlt,λt x hx=> ?_,hh,by rw [yg];exact hR.size,by grind [put_defers]⟩
 rcases HB hx with ⟨rfl,rfl⟩|⟨hne,hx⟩
 ·rw [rA (by rw [hR.size];grind)];exact hv
 ·rw [xV hne];exact (hR.env t x hx).mono hsub hag
theorem sr {ops:Array Oper} {o:Oper} {io:bq} {b:Bool} (hR: ∀d c v,io.guard=some (d,c)->bC e d=some v->aK D φ v (a.tmps.getD d undef)) (hio:io.guard=(bk P ops.toList [] o).guard) (hg: ∀j c,o.guard=some (j,c)->((ops.toList[j]?).bind (·.dst)).isSome=true)
 (hw:jN e io.guard=some b):Region.wanted o (yielded ops a.tmps)=b:=by
 have hR':=hR;rw [hio] at hw hR';cases hog:o.guard with
 |none=>simp [bk,hog,jN] at hw;subst hw;simp [Region.wanted,hog]
 |some q=>
  obtain ⟨j,c⟩:=q;obtain ⟨d,hd⟩:=tx.1 (hg j c hog);simp only [bk,hog,hd,jN] at hw;have hR':=λv=>hR' d c v (by grind [bk])
  simp only [Region.wanted,hog,yielded];have hd':(ops[j]?).bind (·.dst)=some d:=by grind
  rw [hd'];split at hw
  ·rename_i x hx;cases hw;have:=hR' _ hx;generalize hu:a.tmps.getD d undef=u at this;cases this;have hlt:d<a.tmps.size:=by
    grind [eV,rG,JE,undef]
   simp_all
  ·rename_i hx;cases hw;have:=hR' _ hx;obtain ⟨m,hm,hl⟩:=this.Fe;have:=hl.mq;subst this;cases hg':a.tmps[d]? with
   |none=>simp only [aC,hg'];cases c<;>rfl
   |some u=>
    have:u= .tuple #[]:=by
     simp_all
    subst this;simp only [aC,hg'];cases c<;>rfl
  ·cases hw
def jU (N:Nat) (ops:List Oper):Bool:=ops.all λo=>match o.dst with|some d=>decide (d<N)|none=>true
def jP (ops:List Oper):Bool:=ops.all λo=>match o.guard with
 |some (j,_)=>((ops[j]?).bind (·.dst)).isSome
 |none=>true
def AN (ops:List Oper):Bool:=ops.all λo=>o.op.operands.all λy=>match y with| .global _=>false|_=>true
theorem tg {ro:Option Nat} {B:List Deferred} (hcx:Sound P cx) {K:bX} {D0:Nat->Prop} {φ0:bP} {H0:Hf} {w0:World} {ops:Array Oper} {sp:List Nat} (hn0: ∀b,D0 b->b<n0) (hgu:jP ops.toList=true):
 ∀(l:List Oper),(∀o∈l,o∈ops.toList)->jU N l=true-> ∀(e:Env) (h:Hp) (n:Nat) (D:Nat->Prop) (φ:bP) (a:Act) (w:World),n0<=n→
  iv cx (l.map (bk P ops.toList sp)) e h n K->Rel D φ e h n N (w0.heap.size,B) a w->dU D0 φ0 H0 w0 D φ (aa h) w→
  wpListIn (Fw ro) 0 P ops (λex a' w'=>pw N n0 B D0 φ0 H0 w0 K ex a' w') l a w
 |[],_,_,e,h,n,D,φ,a,w,hn,hrun,hR,hS=>⟨D,φ,e,h,n,hrun,hn,hR,hS⟩
 |o::l,hmem,hdst,e,h,n,D,φ,a,w,hn,hrun,hR,hS=>by
  simp only [fJ,iv] at hrun;obtain ⟨b,hb,hrun⟩:=fD hrun;simp only [jU,iz,ak] at hdst;have hog: ∀j c,o.guard=some (j,c)->((ops.toList[j]?).bind (·.dst)).isSome=true:=λj c hg=>by
   have:=du.1 hgu o (hmem o (iQ))
   grind
  have hgeq:(bk P ops.toList sp o).guard=(bk P ops.toList [] o).guard:=by
   unfold bk;split;all_goals grind
  have hdeq:(bk P ops.toList sp o).dst=o.dst:=by
   grind [bk]
  have hopeq:(bk P ops.toList sp o).op=cN P o.op:=by
   grind [bk,tx]
  have hdN: ∀t,o.dst=some t->t<N:=λt ht=>by
   grind
  have hw:=sr (P:=P) (o:=o) (D:=D) (φ:=φ) (a:=a) (λd c v _ hv=>hR.env d v hv) hgeq hog hb;have ih:=λe h n D φ a w=>tg (ro:=ro) (B:=B) hcx (K:=K) (sp:=sp) (D0:=D0) (φ0:=φ0) (H0:=H0) (w0:=w0) hn0 hgu l (λo ho=>hmem o (hJ _ ho)) hdst.2 e h n D φ a w;unfold wpListIn;rw [hw];cases b
  ·simp only [ei,dP];simp only at hrun;rw [hdeq] at hrun;exact ⟨λ_ _=>trivial,ih _ h n D φ _ w hn hrun (hR.put hR.defers hdN (λ_ h=>h) (cT.refl _ _) hR.lt Ar hR.heap) hS⟩
  ·simp only [cM];simp only at hrun;obtain ⟨r,hr,hrun⟩:=fD hrun;obtain ⟨c,E⟩:=r;obtain ⟨hc,hrun⟩:=hrun;simp only at hc hrun;subst hc;rw [hopeq] at hr;rw [hdeq] at hrun;have hfresh: ∀b,n<=b->b<E.n-> ¬D b:=λb hb _ hD=>by have:=hR.lt b hD;omega
   have hH0:HR D φ (only (aa h) E.rd) w:=hR.heap.sub (λb k hb=>by
    grind [only,inl])
   refine LI hcx hr hfresh (λy hy x hx v hv=>pV (λt v _ hv=>hR.env t v hv) hx hR.heap hv) hH0 (λφ' u w' hle hv hst hro hmd hnw=> ?_)
   ·have hfull:=nU hR.heap (λb k hb=>by grind [only,inl]) hmd hst hro (λ_ _ _ _ _=> .inr trivial)
    rw [<-o9] at hfull;have hlt: ∀b,Dn D n E.n b->b<E.n:=λb hb=>hb.elim (λh=>by have:=hR.lt b h;omega) (λh=>h.2)
    unfold E3 at hrun;cases hp:E.pn with
    |none=>
     rw [hp] at hrun;exact ih _ _ _ _ φ' _ w' (by omega) (qp hrun) (hR.put (hR.defers.stays hR.heap hfull.eF) hdN hfull.sub hfull.agree hlt hv hfull.hr) (hS.trans hfull)
    |some p=>
     rw [hp] at hrun;exact ⟨_,φ',e,_,_,hrun,by omega,⟨hlt,λt v hv=>(hR.env t v hv).mono hfull.sub hfull.agree,hfull.hr,hR.size,hR.defers.stays hR.heap hfull.eF⟩,hS.trans hfull⟩
end
end Go.Ab
namespace Go.Ab
def IA:List (Nat×Option bp)->List Nat->Bool
 |[],_=>true
 |(b,_)::r,rd=> !(inl rd b)&&IA r rd
def P1:List (Nat×bp)->List Nat->Bool
 |[],_=>true
 |(b,_)::r,rd=> !(inl rd b)&&P1 r rd
def kh (E Ej:bV):Bool:=IA Ej.md E.rd&&IA E.md Ej.rd&&P1 Ej.nw E.rd
def ry (un:List Nat) (E:bV):List (Nat×bV)->Bool
 |[]=>true
 |(j,Ej)::r=>(!(inl un j)||kh E Ej)&&ry un E r
def yW:List (Nat×Option bp)->List Nat->Bool
 |[],_=>true
 |(b,_)::r,rd=>inl rd b&&yW r rd
def Cu (n m:Nat):List (Nat×bp)->Bool
 |[]=>true
 |(b,_)::r=>decide (n<=b)&&decide (b<m)&&Cu n m r
def A9 (h:Hp):List (Nat×Option bp)->Bool
 |[]=>true
 |(b,_)::r=>(aa h b).isSome&&A9 h r
def pq (h:Hp) (n:Nat) (E:bV):Bool:=decide (n<=E.n)&&yW E.md E.rd&&Cu n E.n E.nw&&A9 h E.md
def nK (i:Nat) (E:bV) (done:List (Nat×bV)):List (Nat×bV):=
 match E.rd,E.md,E.nw with
 |[],[],[]=>done
 |_,_,_=>(i,E)::done
def Gg (p:Option Value) (un:List Nat) (os:List (bq×List Nat)) (K:bX) (e:Env) (h:Hp) (n:Nat) (k:Prop):Prop:=
 match p with
 |none=>k
 |some u=>(un=[]/\os=[])/\K (.panic [{v:=u,recovered:=false}]) e h n
def qY (cx:Cx):List (bq×List Nat)->Nat->List (Nat×bV)->Env->Hp->Nat->bX->Prop
 |[],_,_,e,h,n,K=>K .normal e h n
 |(o,un)::os,i,done,e,h,n,K=>gd (jN e o.guard) λb=>match b with
  |true=>gd (cn cx o.op e h n) λr=>(r.1&&pq h n r.2&&ry un r.2 done)=true/\Gg r.2.pn un os K e (r.2.fg h) r.2.n (ic o.ZR r.2.v λv=>qY cx os (i+1) (nK i r.2 done) (iu o.dst v e) (r.2.fg h) r.2.n K)
  |false=>qY cx os (i+1) done (iu o.dst (.bz []) e) h n K
def CJ (ops:Array Oper):List (List Nat):=
 (List.range ops.size).map λi=>(List.range i).filter λj=> !((Region.before ops).getD i 0).testBit j
def tc (ops:List Oper) (o:Oper):List Nat:=
 (o.op.operands.toList.filterMap λy=>match y with| .tmp t=>some t|_=>none)++
 (match o.guard with
  |some (j,_)=>((ops[j]?).bind (·.dst)).toList
  |none=>[])
def VB (ops:Array Oper):Bool:=
 (List.range ops.size).all λi=>(List.range ops.size).all λj=>
  match ops[i]?,ops[j]? with
  |some oi,some oj=>match oj.dst with
   |some t=>(i==j||oi.dst !=some t)&&(!((tc ops.toList oi).contains t)||(decide (j<i)&&((Region.before ops).getD i 0).testBit j)||(decide (i<j)&&((Region.before ops).getD j 0).testBit i))
   |none=>true
  |_,_=>true
def SD (ops:Array Oper):Bool:=
 (List.range ops.size).all λi=>match ops[i]? with
  |some o=>o.after.all λe=> !Region.binds .any e||decide (e.on<i)
  |none=>true
def xO (ops:Array Oper):Bool:=VB ops&&SD ops
/-! ### the run as a row of states -/
abbrev St:=Env×Hp×Nat
def J1 (cx:Cx) (io:bq) (un:List Nat) (s s':St) (t:Option bV) (before:Nat->bV->Prop):Prop:=
 (t=none/\jN s.1 io.guard=some false/\s'=(iu io.dst (.bz []) s.1,s.2.1,s.2.2))∨
 ∃E,t=some E/\jN s.1 io.guard=some true/\cn cx io.op s.1 s.2.1 s.2.2=some (true,E)/\pq s.2.1 s.2.2 E=true/\s'=(iu io.dst E.v s.1,E.fg s.2.1,E.n)∧
  ∀j Ej,before j Ej->inl un j=true->kh E Ej=true
theorem xl {un:List Nat} {E:bV}: ∀{done:List (Nat×bV)},ry un E done=true-> ∀j Ej,(j,Ej)∈done->inl un j=true->kh E Ej=true
 |[],_,j,Ej,hm,_=>by cases hm
 |(i,Ei)::r,h,j,Ej,hm,hu=>by
  simp only [ry,ak,mA,gG] at h;rcases gP.1 hm with heq|hm
  ·cases heq;rcases h.1 with h1|h1
   ·rw [hu] at h1;cases h1
   ·exact h1
  ·exact xl h.2 j Ej hm hu
theorem F7: ∀(l:List (Nat×Option bp)),IA l []=true
 |[]=>rfl
 |(b,_)::r=>by simp [IA,inl,F7 r]
theorem EI {i j:Nat} {E Ej:bV} {done:List (Nat×bV)} (h:(j=i/\Ej=E)\/(j,Ej)∈done):(j,Ej)∈nK i E done\/ ∀E',kh E' Ej=true:=by
 grind [nK,kh,IA,P1,F7,inl,iQ,hJ]
def KR (K:bX) (S:Nat->St) (T:Nat->Option bV) (l:List (bq×List Nat)):Prop:=
 ((∀i E,i<l.length->T i=some E->E.pn=none)/\K .normal (S l.length).1 (S l.length).2.1 (S l.length).2.2)∨
 ∃i E io,l[i]? =some (io,[])/\i+1=l.length/\T i=some E/\(∀j,j<i-> ∀E,T j=some E->E.pn=none)/\ ∃u,E.pn=some u/\K (.panic [{v:=u,recovered:=false}]) (S i).1 (E.fg (S i).2.1) E.n
theorem KR.shift {K:bX} {S S':Nat->St} {T T':Nat->Option bV} {l:List (bq×List Nat)} {x:bq×List Nat} (h:KR K S T l) (hS:(λi=>S' (i+1))=S) (hT:(λi=>T' (i+1))=T) (hz:True=True) (h0: ∀E,T' 0=some E->E.pn=none):KR K S' T' (x::l):=by
 subst hS;subst hT;rcases h with ⟨h1,h2⟩|⟨i,E,io,h1,h2,h3,h4,h5⟩
 ·refine .inl ⟨λi E hi hE=> ?_,h2⟩;cases i with
  |zero=>exact h0 E hE
  |succ i=>exact h1 i E (by grind) hE
 ·refine .inr ⟨i+1,E,io,by grind,by simp [h2],h3,λj hj E' hE'=> ?_,h5⟩
  cases j with
  |zero=>exact h0 E' hE'
  |succ j=>exact h4 j (by omega) E' hE'
theorem sG {cx:Cx}: ∀(l:List (bq×List Nat)) (k:Nat) (done:List (Nat×bV)) (e:Env) (h:Hp) (n:Nat) (K:bX) (B:Nat->bV->Prop),
 (∀j Ej,B j Ej->(j,Ej)∈done\/ ∀E',kh E' Ej=true)->qY cx l k done e h n K→
 ∃(S:Nat->St) (T:Nat->Option bV),S 0=(e,h,n)/\KR K S T l∧
  ∀i io un,l[i]? =some (io,un)->J1 cx io un (S i) (S (i+1)) (T i) (λj Ej=>B j Ej\/ ∃m,m<i/\j=k+m/\T m=some Ej)
 |[],k,done,e,h,n,K,B,hB,hr=>⟨λ_=>(e,h,n),λ_=>none,rfl,.inl ⟨λi E hi _=>by simp at hi,hr⟩,λi io un hi=>by simp at hi⟩
 |(o,un)::os,k,done,e,h,n,K,B,hB,hr=>by
  simp only [qY] at hr;obtain ⟨b,hb,hr⟩:=fD hr;cases b
  ·simp only at hr;obtain ⟨S,T,h0,hK,hst⟩:=sG os (k+1) done _ h n K B hB hr;refine ⟨λi=>match i with|0=>(e,h,n)|i+1=>S i,λi=>match i with|0=>none|i+1=>T i,rfl,hK.shift rfl rfl rfl (λE h=>by cases h),λi io un' hi=> ?_⟩
   cases i with
   |zero=>
    simp at hi;obtain ⟨rfl,rfl⟩:=hi;exact .inl ⟨rfl,hb,h0⟩
   |succ i=>
    have:=hst i io un' (by grind)
    rcases this with ⟨h1,h2,h3⟩|⟨E,h1,h2,h3,h4,h5,h6⟩
    ·exact .inl ⟨h1,h2,h3⟩
    ·refine .inr ⟨E,h1,h2,h3,h4,h5,λj Ej hj hu=>h6 j Ej ?_ hu⟩
     grind
  ·simp only at hr;obtain ⟨r,hr1,hr⟩:=fD hr;obtain ⟨c,E⟩:=r;obtain ⟨hc,hr⟩:=hr;simp only [ak] at hc;obtain ⟨⟨hc1,hc2⟩,hc3⟩:=hc;subst hc1;simp only at hr;cases hp:E.pn with
   |some u=>
    have hq:(un=[]/\os=[])/\K (.panic [{v:=u,recovered:=false}]) e (E.fg h) E.n:=by rw [hp] at hr;exact hr
    obtain ⟨⟨rfl,rfl⟩,hq⟩:=hq;refine ⟨λi=>match i with|0=>(e,h,n)|i+1=>(iu o.dst E.v e,E.fg h,E.n),λi=>match i with|0=>some E|i+1=>none,rfl,.inr ⟨0,E,o,rfl,rfl,rfl,λj hj=>by omega,u,hp,hq⟩,λi io un' hi=> ?_⟩
    cases i with
    |zero=>
     simp at hi;obtain ⟨rfl,rfl⟩:=hi;exact .inr ⟨E,rfl,hb,hr1,hc2,rfl,λj Ej hj hu=>by simp [inl] at hu⟩
    |succ i=>simp at hi
   |none=>
   have hr:=qp (s:=o.ZR) (v:=E.v) (k:=λv=>qY cx os (k+1) (nK k E done) (iu o.dst v e) (E.fg h) E.n K) (by rw [hp] at hr;exact hr)
   obtain ⟨S,T,h0,hK,hst⟩:=sG os (k+1) (nK k E done) _ _ _ K (λj Ej=>B j Ej\/(j=k/\Ej=E)) (λj Ej hj=>by
    grind [EI,inl]) hr
   refine ⟨λi=>match i with|0=>(e,h,n)|i+1=>S i,λi=>match i with|0=>some E|i+1=>T i,rfl,hK.shift rfl rfl rfl (λE' h=>by grind),λi io un' hi=> ?_⟩
   cases i with
   |zero=>
    simp at hi;obtain ⟨rfl,rfl⟩:=hi;refine .inr ⟨E,rfl,hb,hr1,hc2,h0,λj Ej hj hu=> ?_⟩;rcases hj with hj|⟨m,hm,_⟩
    ·grind [xl]
    ·omega
   |succ i=>
    have:=hst i io un' (by grind)
    rcases this with ⟨h1,h2,h3⟩|⟨E',h1,h2,h3,h4,h5,h6⟩
    ·exact .inl ⟨h1,h2,h3⟩
    ·refine .inr ⟨E',h1,h2,h3,h4,h5,λj Ej hj hu=>h6 j Ej ?_ hu⟩
     grind
/-! ### before -/
theorem vu (l:List Oper) (acc:Array Nat):(l.foldl (λacc o=>acc.push (o.after.foldl (λs e=>if Region.binds .any e then s ||| 2^e.on ||| acc.getD e.on 0 else s) 0)) acc).size=acc.size+l.length∧
 ∀i,i<acc.size->(l.foldl (λacc o=>acc.push (o.after.foldl (λs e=>if Region.binds .any e then s ||| 2^e.on ||| acc.getD e.on 0 else s) 0)) acc)[i]? =acc[i]? :=by
 induction l generalizing acc with
 |nil=>exact ⟨by simp,λi _=>rfl⟩
 |cons o l ih=>
  simp only [HK];obtain ⟨h1,h2⟩:=ih (acc.push (o.after.foldl (λs e=>if Region.binds .any e then s ||| 2^e.on ||| acc.getD e.on 0 else s) 0))
  refine ⟨by grind,λi hi=> ?_⟩
  rw [h2 i (by simp;omega)]
  exact Array.mD hi
where
 Array.mD {l:Array Nat} {o:Nat} {c:Nat} (h:c<l.size):(l.push o)[c]? =l[c]? :=by
  grind
theorem P8 (f:Edge->Nat) (l:List Edge) (s j:Nat):(l.foldl (λs e=>if Region.binds .any e then s ||| 2^e.on ||| f e else s) s).testBit j=true→
 s.testBit j=true\/ ∃e∈l,Region.binds .any e=true/\(e.on=j\/(f e).testBit j=true):=by
 induction l generalizing s with
 |nil=>intro h;exact .inl h
 |cons e l ih=>
  intro h;simp only [HK] at h;rcases ih _ h with h1|⟨e',h1,h2,h3⟩
  ·grind
  ·grind
theorem Dl {ops:Array Oper} {i j:Nat} {o:Oper} (ho:ops[i]? =some o) (h:((Region.before ops).getD i 0).testBit j=true):
 ∃e∈o.after.toList,Region.binds .any e=true/\(e.on=j\/(e.on<i/\((Region.before ops).getD e.on 0).testBit j=true)):=by
 have hlt:i<ops.size:=(kE.1 ho).1;have hsplit:ops.toList=ops.toList.take i++o::ops.toList.drop (i+1):=by
  have:ops.toList[i]? =some o:=by grind
  grind [cv,List.getElem_cons_drop,jr]
 have hb:Region.before ops=ops.toList.foldl (λacc o=>acc.push (o.after.foldl (λs e=>if Region.binds .any e then s ||| 2^e.on ||| acc.getD e.on 0 else s) 0)) #[]:=by
  unfold Region.before;simp
 rw [hsplit,List.foldl_append,HK] at hb;have hA:=vu (ops.toList.take i) #[];generalize hacc:(ops.toList.take i).foldl (λacc o=>acc.push (o.after.foldl (λs e=>if Region.binds .any e then s ||| 2^e.on ||| acc.getD e.on 0 else s) 0)) #[]=acc at hb hA
 have hsz:acc.size=i:=by grind
 have hB:=vu (ops.toList.drop (i+1)) (acc.push (o.after.foldl (λs e=>if Region.binds .any e then s ||| 2^e.on ||| acc.getD e.on 0 else s) 0))
 rw [<-hb] at hB;have hi:(Region.before ops).getD i 0=o.after.foldl (λs e=>if Region.binds .any e then s ||| 2^e.on ||| acc.getD e.on 0 else s) 0:=by
  rw [rG,hB.2 i (by simp;omega)]
  grind
 have hold: ∀m,m<i->acc.getD m 0=(Region.before ops).getD m 0:=λm hm=>by
  rw [rG,rG,hB.2 m (by simp;omega),Array.getElem?_push,aY (by omega)]
 rw [hi,<-Array.foldl_toList] at h;rcases P8 (λe=>acc.getD e.on 0) o.after.toList 0 j h with h1|⟨e,h1,h2,h3⟩
 all_goals grind
def Cl (ops:Array Oper) (listed:Array Bool):Prop:= ∀j o,listed.getD j false=true->ops[j]? =some o-> ∀e∈o.after.toList,Region.binds .any e=true->listed.getD e.on false=true
theorem ri {ops:Array Oper} {listed:Array Bool} (hcl:Cl ops listed) (hsz:listed.size=ops.size): ∀(i:Nat) (o:Oper),ops[i]? =some o->(∀e∈o.after.toList,Region.binds .any e=true->listed.getD e.on false=true)→
 ∀j,((Region.before ops).getD i 0).testBit j=true->listed.getD j false=true:=by
 intro i;induction i using Nat.strongRecOn with
 |_ i ih=>
  intro o ho hpre j hj;obtain ⟨e,he,hb,h3⟩:=Dl ho hj;have hl:=hpre e he hb;rcases h3 with h3|⟨hlt,h3⟩
  ·grind
  ·have hlt':e.on<ops.size:=by grind
   exact ih e.on hlt ops[e.on] (by simp [hlt']) (hcl e.on _ hl (by simp [hlt'])) j h3
end Go.Ab
namespace Go.Ab
theorem xK: ∀{l:List (Nat×Option bp)} {rd:List Nat},IA l rd=true-> ∀b r,cy l b=some r->inl rd b=false
 |[],_,_,b,r,h=>by simp [cy] at h
 |(c,k)::l,rd,hd,b,r,h=>by
  simp only [IA,ak,gG] at hd;simp only [cy] at h;by_cases hc:Nat.beq c b=true
  ·simp_all
  ·rw [kG] at hc;rw [hc] at h;exact xK hd.2 b r h
theorem xI: ∀{l:List (Nat×bp)} {rd:List Nat},P1 l rd=true-> ∀b r,aa l b=some r->inl rd b=false
 |[],_,_,b,r,h=>by simp [aa] at h
 |(c,k)::l,rd,hd,b,r,h=>by
  simp only [P1,ak,gG] at hd;simp only [aa] at h;by_cases hc:Nat.beq c b=true
  ·simp_all
  ·rw [kG] at hc;rw [hc] at h;exact xI hd.2 b r h
theorem zX: ∀{l:List (Nat×Option bp)} {rd:List Nat},yW l rd=true-> ∀b r,cy l b=some r->inl rd b=true
 |[],_,_,b,r,h=>by simp [cy] at h
 |(c,k)::l,rd,hd,b,r,h=>by
  simp only [yW,ak] at hd;simp only [cy] at h;by_cases hc:Nat.beq c b=true
  ·simp_all
  ·rw [kG] at hc;rw [hc] at h;exact zX hd.2 b r h
theorem y8: ∀{l:List (Nat×bp)} {n m:Nat},Cu n m l=true-> ∀b r,aa l b=some r->n<=b/\b<m
 |[],_,_,_,b,r,h=>by simp [aa] at h
 |(c,k)::l,n,m,hd,b,r,h=>by
  simp only [Cu,ak,bg] at hd;simp only [aa] at h;by_cases hc:Nat.beq c b=true
  ·simp_all
  ·rw [kG] at hc;rw [hc] at h;exact y8 hd.2 b r h
def Ao (E:bV) (b:Nat):Option (Option bp):=
 match cy E.md b with
 |some r=>some r
 |none=>(aa E.nw b).map some
theorem AD (E:bV) (H:Hf) (b:Nat):E.app H b=(Ao E b).getD (H b):=by
 grind [bV.app,Ao,cy,aa]
def HS (H0:Hf) (T:Nat->Option bV) (p:Nat->Bool):Nat->Hf
 |0=>H0
 |m+1=>λb=>match p m,T m with
  |true,some E=>(Ao E b).getD (HS H0 T p m b)
  |_,_=>HS H0 T p m b
section
variable {P:Program} {N n0:Nat} {cx:Cx}
theorem uO (H0:Hf) (T:Nat->Option bV) (p q:Nat->Bool) (b:Nat): ∀m,(∀j E r,j<m->T j=some E->Ao E b=some r->p j=q j)->HS H0 T p m b=HS H0 T q m b
 |0,_=>rfl
 |m+1,h=>by
  have ih:=uO H0 T p q b m (λj E r hj=>h j E r (by omega))
  simp only [HS];cases hT:T m with
  |none=>cases p m<;>cases q m<;>exact ih
  |some E=>
   cases hu:Ao E b with
   |none=>cases p m<;>cases q m<;>simp [hu,ih]
   |some r=>
    have:=h m E r (by omega) hT hu
    rw [this];cases q m<;>simp [hu,ih]
theorem wL (H0:Hf) (T:Nat->Option bV) (p:Nat->Bool) (b i:Nat): ∀m,i<=m->(∀j E r,i<=j->j<m->p j=true->T j=some E->Ao E b=some r->False)->HS H0 T p m b=HS H0 T p i b
 |0,hi,_=>by grind
 |m+1,hi,h=>by
  by_cases him:i=m+1
  ·grind
  ·have ih:=wL H0 T p b i m (by omega) (λj E r h1 h2=>h j E r h1 (by omega))
   simp only [HS];split
   ·rename_i E hp hT;cases hu:Ao E b with
    |none=>simpa using ih
    |some r=>exact (h m E r (by omega) (by omega) hp hT hu).elim
   ·exact ih
set_option maxHeartbeats 1000000 in
theorem vK {B:List Deferred} {ro:Option Nat} (hcx:Sound P cx) (hm:P.follows .mixedOrders=true) {K:bX} {D0:Nat->Prop} {φ0:bP} {H0:Hf} {w0:World} {ops:Array Oper} {sp:List Nat} {id:Nat} (hn0: ∀b,D0 b->b<n0)
 (hgu:jP ops.toList=true) (hdst:jU N ops.toList=true) (hgl:AN ops.toList=true) (hdr:xO ops=true)
 {e:Env} {h:Hp} {n:Nat} {D:Nat->Prop} {φ:bP} {a:Act} {w:World} (hn:n0<=n)
 (hrun:qY cx (List.zip (ops.toList.map (bk P ops.toList sp)) (CJ ops)) 0 [] e h n K) (hR:Rel D φ e h n N (w0.heap.size,B) a w) (hS:dU D0 φ0 H0 w0 D φ (aa h) w):
 (Code.region id ops true).wpIn (Fw ro) 0 P (λex a' w'=>pw N n0 B D0 φ0 H0 w0 K ex a' w'/\a'.defers=a.defers) a w:=by
 obtain ⟨S,T,hS0,hK,hst⟩:=sG _ 0 [] e h n _ (λ_ _=>False) (λ_ _ h=>h.elim) hrun;have hlen:(List.zip (ops.toList.map (bk P ops.toList sp)) (CJ ops)).length=ops.size:=by simp [CJ]
 unfold KR at hK;rw [hlen] at hK
 -- static facts
 simp only [xO,ak] at hdr;obtain ⟨htm,hed⟩:=hdr;have hgeq: ∀o,(bk P ops.toList sp o).guard=(bk P ops.toList [] o).guard:=λo=>by
  unfold bk;split
  ·rfl
  ·split<;>rfl
 have hdeq: ∀o,(bk P ops.toList sp o).dst=o.dst:=λo=>by
  unfold bk;split
  ·rfl
  ·split<;>rfl
 have hog: ∀o∈ops.toList,∀j c,o.guard=some (j,c)->((ops.toList[j]?).bind (·.dst)).isSome=true:=λo ho j c hg=>by
  have:=du.1 hgu o ho;simpa [hg] using this
 have hopeq: ∀o∈ops.toList,(bk P ops.toList sp o).op=cN P o.op:=λo ho=>by
  unfold bk;split
  ·rfl
  ·rename_i j c hg;obtain ⟨d,hd⟩:=tx.1 (hog o ho j c hg);rw [hd]
 have hdN: ∀o∈ops.toList,∀t,o.dst=some t->t<N:=λo ho t ht=>by
  have:=du.1 hdst o ho;rw [ht] at this;exact bN this
 have hmem: ∀i o,ops[i]? =some o->o∈ops.toList:=λi o ho=>by
  exact bJ (i:=i) (by simpa using ho)
 have hun: ∀i j,i<ops.size->j<i->((Region.before ops).getD i 0).testBit j=false->inl ((CJ ops).getD i []) j=true:=λi j hi hj hb=>by
  have:(CJ ops).getD i []=(List.range i).filter λj=> !((Region.before ops).getD i 0).testBit j:=by
   simp [CJ,jd,hi]
  rw [this];have hin:j∈(List.range i).filter λj=> !((Region.before ops).getD i 0).testBit j:=by
   rw [List.mem_filter];exact ⟨vC.2 hj,by rw [hb];rfl⟩
  revert hin;generalize (List.range i).filter (λj=> !((Region.before ops).getD i 0).testBit j)=l;intro hin;induction l with
  |nil=>cases hin
  |cons x l ih=>
   simp only [inl,mA];rcases gP.1 hin with rfl|hin
   ·left;simp
   ·right;exact ih hin
 have hstep: ∀i o,ops[i]? =some o->J1 cx (bk P ops.toList sp o) ((CJ ops).getD i []) (S i) (S (i+1)) (T i) (λj Ej=>j<i/\T j=some Ej):=λi o ho=>by
  have hi:i<ops.size:=(kE.1 ho).1;have hz:(List.zip (ops.toList.map (bk P ops.toList sp)) (CJ ops))[i]? =some (bk P ops.toList sp o,(CJ ops).getD i []):=by
   rw [List.getElem?_zip_eq_some];refine ⟨by simp;exact ⟨o,by simpa using ho,rfl⟩,?_⟩
   rw [jd,bj (by simp [CJ];exact hi)];rfl
  rcases hst i _ _ hz with h1|⟨E,h1,h2,h3,h4,h5,h6⟩
  ·exact .inl h1
  ·exact .inr ⟨E,h1,h2,h3,h4,h5,λj Ej hj hu=>h6 j Ej (.inr ⟨j,hj.1,by omega,hj.2⟩) hu⟩
 have hdd: ∀i j oi oj t,ops[i]? =some oi->ops[j]? =some oj->oj.dst=some t->(i=j\/oi.dst≠some t)/\((tc ops.toList oi).contains t=true->(j<i/\((Region.before ops).getD i 0).testBit j=true)\/(i<j/\((Region.before ops).getD j 0).testBit i=true)):=λi j oi oj t hi hj ht=>by
  have hli:=(kE.1 hi).1;have hlj:=(kE.1 hj).1;have h1:=du.1 htm i (vC.2 hli);have h2:=du.1 h1 j (vC.2 hlj);simp only [hi,hj,ht,ak,mA,ik,bne_iff_ne,ne_eq,gG,bg] at h2;refine ⟨h2.1,λhc=> ?_⟩;rcases h2.2 with (h3|h3)|h3
  ·rw [hc] at h3;cases h3
  ·exact .inl h3
  ·exact .inr h3
 -- numbers grow
 have hnle: ∀i,i<ops.size->(S i).2.2<=(S (i+1)).2.2:=λi hi=>by
  rcases hstep i ops[i] (by simp [hi]) with ⟨_,_,h3⟩|⟨E,_,_,_,h4,h5,_⟩
  ·rw [h3];exact bx _
  ·rw [h5];simp only [pq,ak,bg] at h4;exact h4.1.1.1
 have hnmono: ∀j i,i<=j->j<=ops.size->(S i).2.2<=(S j).2.2:=λj=>by
  induction j with
  |zero=>intro i hi _;have:i=0:=by omega
         subst this;exact bx _
  |succ j ih=>
   intro i hi hj;by_cases hij:i=j+1
   ·subst hij;exact bx _
   ·exact oP (ih i (by omega) (by omega)) (hnle j (by omega))
 have hn00:(S 0).2.2=n:=by rw [hS0]
 -- the text's states
 have htext: ∀m,m<=ops.size->aa (S m).2.1=HS (aa h) T (λ_=>true) m:=λm=>by
  induction m with
  |zero=>intro _;rw [hS0];rfl
  |succ m ih=>
   intro hm;rcases hstep m ops[m] (by simp) with ⟨h1,_,h3⟩|⟨E,h1,_,_,_,h5,_⟩
   ·rw [h3];simp only [HS,h1];rw [<-ih (by omega)]
   ·rw [h5];simp only [HS,h1];rw [o9,ih (by omega)];funext b;exact AD _ _ _
 have heff: ∀i E,i<ops.size->T i=some E->pq (S i).2.1 (S i).2.2 E=true/\(S (i+1)).2.2=E.n:=λi E hi hT=>by
  rcases hstep i ops[i] (by simp [hi]) with ⟨h1,_,_⟩|⟨E',h1,_,_,h4,h5,_⟩
  ·rw [hT] at h1;cases h1
  ·rw [hT] at h1;cases h1;exact ⟨h4,by rw [h5]⟩
 have hnew: ∀i E b k,i<ops.size->T i=some E->aa E.nw b=some k->(S i).2.2<=b/\b<(S (i+1)).2.2:=λi E b k hi hT hb=>by
  obtain ⟨h1,h2⟩:=heff i E hi hT;simp only [pq,ak] at h1;rw [h2];exact y8 h1.1.2 b k hb
 have hsub: ∀i E b r,i<ops.size->T i=some E->cy E.md b=some r->inl E.rd b=true:=λi E b r hi hT hb=>by
  obtain ⟨h1,h2⟩:=heff i E hi hT;simp only [pq,ak] at h1;exact zX h1.1.1.2 b r hb
 have hhas: ∀i E b r,i<ops.size->T i=some E->cy E.md b=some r-> ∃k,aa (S i).2.1 b=some k:=λi E b r hi hT hb=>by
  obtain ⟨h1,h2⟩:=heff i E hi hT;simp only [pq,ak] at h1;have h3:=h1.2;revert h3 hb;generalize E.md=l;intro hb h3;induction l with
  |nil=>simp [cy] at hb
  |cons x l ih=>
   obtain ⟨c,k⟩:=x;simp only [A9,ak] at h3;simp only [cy] at hb;by_cases hc:Nat.beq c b=true
   ·have:=ee hc;subst this;exact tx.1 h3.1
   ·rw [kG] at hc;rw [hc] at hb;exact ih hb h3.2
 -- names in the text's heaps are below the number
 have hbelow: ∀m,m<=ops.size-> ∀b k,aa (S m).2.1 b=some k->b<(S m).2.2:=λm=>by
  induction m with
  |zero=>intro _ b k hb;rw [hS0] at hb ⊢;exact hR.lt b (hR.heap.at_ b k hb).1
  |succ m ih=>
   intro hm b k hb;rcases hstep m ops[m] (by simp) with ⟨_,_,h3⟩|⟨E,h1,_,_,_,h5,_⟩
   ·rw [h3] at hb ⊢;exact ih (by omega) b k hb
   ·have hle:=hnle m (by omega)
    rw [h5] at hb;rw [o9,AD] at hb;cases hu:Ao E b with
    |none=>rw [hu] at hb;exact C1 (ih (by omega) b k hb) hle
    |some r=>
     unfold Ao at hu;cases hmd:cy E.md b with
     |some r'=>
      obtain ⟨k',hk'⟩:=hhas m E b r' (by omega) h1 hmd
      exact C1 (ih (by omega) b k' hk') hle
     |none=>
      rw [hmd] at hu;obtain ⟨k',hk',_⟩:=bK.1 hu;exact (hnew m E b k' (by omega) h1 hk').2
 -- the text's environments
 have henv: ∀m,m<=ops.size-> ∀t,(∀j o,j<m->ops[j]? =some o->o.dst=some t->bC (S m).1 t=some (match T j with|some E=>E.v|none=> .bz []))∧
  ((∀j o,j<m->ops[j]? =some o->o.dst≠some t)->bC (S m).1 t=bC e t):=λm=>by
  induction m with
  |zero=>intro _ t;exact ⟨λj o hj=>by omega,λ_=>by rw [hS0]⟩
  |succ m ih=>
   intro hm t;have hmlt:m<ops.size:=by omega
   have hom:ops[m]? =some ops[m]:=by simp [hmlt]
   obtain ⟨v,hv1,hv2⟩: ∃v,(S (m+1)).1=iu (bk P ops.toList sp ops[m]).dst v (S m).1/\v=(match T m with|some E=>E.v|none=> .bz []):=by
    rcases hstep m ops[m] hom with ⟨h1,_,h3⟩|⟨E,h1,_,_,_,h5,_⟩
    ·exact ⟨_,by rw [h3],by rw [h1]⟩
    ·exact ⟨_,by rw [h5],by rw [h1]⟩
   rw [hdeq] at hv1;have hput: ∀t,bC (iu ops[m].dst v (S m).1) t=if ops[m].dst=some t then some v else bC (S m).1 t:=λt=>by
    cases hd:ops[m].dst with
    |none=>simp [iu]
    |some s=>
     simp only [iu,bC];by_cases hs:t=s
     ·subst hs;simp
     ·rw [bO hs];simp [show ¬s=t from λe=>hs e.symm]
   rw [hv1,hput];refine ⟨λj o hj ho hd=> ?_,λhno=> ?_⟩
   ·by_cases hjm:j=m
    ·subst hjm;rw [hom] at ho;cases ho;rw [aT hd,hv2]
    ·have hne:ops[m].dst≠some t:=((hdd m j _ _ t hom ho hd).1).resolve_left (λe=>hjm e.symm);rw [aY hne];exact (ih (by omega) t).1 j o (by omega) ho hd
   ·rw [aY (hno m _ (by omega) hom)]
    exact (ih (by omega) t).2 (λj o hj=>hno j o (by omega))
 -- the invariant
 let pl:Array Bool->Nat->Bool:=λlisted j=>listed.getD j false;let DS:Array Bool->Nat->Prop:=λlisted b=>D b\/ ∃j,j<ops.size/\listed.getD j false=true/\(S j).2.2<=b/\b<(S (j+1)).2.2;let V:Nat->AV:=λj=>match T j with|some E=>E.v|none=> .bz []
 let Inv:Array Bool->Act->World->Prop:=λlisted a' w'=>listed.size=ops.size/\Cl ops listed/\a'.tmps.size=N/\a'.defers=a.defers/\(∀j E,listed.getD j false=true->T j=some E->E.pn=none)/\ ∃φ',
  (∀j o t,ops[j]? =some o->listed.getD j false=true->o.dst=some t->aK (DS listed) φ' (V j) (a'.tmps.getD t undef))∧
  (∀t v,(∀j o,ops[j]? =some o->listed.getD j false=true->o.dst≠some t)->bC e t=some v->aK (DS listed) φ' v (a'.tmps.getD t undef))∧
  dU D φ (aa h) w (DS listed) φ' (HS (aa h) T (pl listed) ops.size) w'
 have hone: ∀listed a' w' i,Inv listed a' w'->i∈Region.ready .any ops listed->wpOpIn (Fw ro) 0 P ops (λex a' w'=>pw N n0 B D0 φ0 H0 w0 K ex a' w'/\a'.defers=a.defers) i (λa'' w''=>Inv (listed.setIfInBounds i true) a'' w'') a' w':=by
  intro listed a' w' i hI hr;obtain ⟨hsz,hcl,hN,hdef,hpI,φ',hE1,hE2,hStp⟩:=hI;obtain ⟨hun_i,o,ho,hall⟩:=mem_ready.1 hr;have hi:i<ops.size:=(kE.1 ho).1;have hpre: ∀ed∈o.after.toList,Region.binds .any ed=true->listed.getD ed.on false=true:=λed hed hb=>hall ed (by simpa using hed) hb
  have hul:listed.getD i false=false:=by
   have:i<listed.size:=by omega
   simp [Array.getD,this] at hun_i ⊢;exact hun_i
  have hanc: ∀j,((Region.before ops).getD i 0).testBit j=true->listed.getD j false=true:=ri hcl hsz i o ho hpre;have hdesc: ∀j,listed.getD j false=true->((Region.before ops).getD j 0).testBit i=true->False:=λj hj hb=>by
   have hj':j<ops.size:=by
    rcases eV j listed.size with h'|h'
    ·omega
    ·simp [rG,JE h'] at hj
   have:=ri hcl hsz j ops[j] (by simp [hj']) (hcl j _ hj (by simp [hj'])) i hb
   rw [hul] at this;cases this
  -- the new row of marks
  have hnl: ∀j,(listed.setIfInBounds i true).getD j false=if j=i then true else listed.getD j false:=λj=>by
   by_cases hji:j=i
   ·subst hji;simp [show j<listed.size by omega]
   ·rw [getD_set_ne false (s5 hji),aY hji]
  have hcl':Cl ops (listed.setIfInBounds i true):=λj o' hj ho' ed hed hb=>by
   rw [hnl] at hj ⊢;by_cases hji:j=i
   ·subst hji;rw [ho] at ho';cases ho';split
    ·rfl
    ·exact hpre ed hed hb
   ·rw [aY hji] at hj;split
    ·rfl
    ·exact hcl j o' hj ho' ed hed hb
  have hlook: ∀t v,(tc ops.toList o).contains t=true->bC (S i).1 t=some v->aK (DS listed) φ' v (a'.tmps.getD t undef):=λt v ht hv=>by
   by_cases hex: ∃(j:Nat) (oj:Oper),ops[j]? =some oj/\oj.dst=some t
   ·obtain ⟨j,oj,hoj,hd⟩:=hex;rcases (hdd i j o oj t ho hoj hd).2 ht with ⟨hji,hb⟩|⟨hij,hb⟩
    ·have h1:=(henv i (by omega) t).1 j oj hji hoj hd
     rw [h1] at hv;cases hv;exact hE1 j oj t hoj (hanc j hb) hd
    ·have h1:=(henv i (by omega) t).2 (λj' o' hj' ho' hd'=>by
      rcases (hdd j' j o' oj t ho' hoj hd).1 with h2|h2
      ·omega
      ·exact h2 hd')
     rw [h1] at hv;refine hE2 t v (λj' o' ho' hl' hd'=> ?_) hv;rcases (hdd j' j o' oj t ho' hoj hd).1 with h2|h2
     ·subst h2;exact hdesc j' hl' hb
     ·exact h2 hd'
   ·have h1:=(henv i (by omega) t).2 (λj' o' hj' ho' hd'=>hex ⟨j',o',ho',hd'⟩)
    rw [h1] at hv;exact hE2 t v (λj' o' ho' hl' hd'=>hex ⟨j',o',ho',hd'⟩) hv
  -- wanted
  have hw: ∀b,jN (S i).1 (bk P ops.toList sp o).guard=some b->Region.wanted o (yielded ops a'.tmps)=b:=λb hb=>by
   refine sr (P:=P) (o:=o) (D:=DS listed) (φ:=φ') (a:=a') (λd c v hg hv=>hlook d v ?_ hv) (hgeq o) (hog o (hmem i o ho)) hb;unfold tc;rw [hgeq] at hg;cases hoguard:o.guard with
   |none=>simp [bk,hoguard] at hg
   |some q=>
    obtain ⟨j,c'⟩:=q;obtain ⟨d',hd'⟩:=tx.1 (hog o (hmem i o ho) j c' hoguard);simp only [bk,hoguard,hd',aI,aV] at hg;obtain ⟨rfl,rfl⟩:=hg;simp only [hd'];simp
  have hDSsub: ∀b,DS listed b->DS (listed.setIfInBounds i true) b:=λb hb=>hb.imp _root_.id (λ⟨j,h1,h2,h3⟩=>⟨j,h1,by rw [hnl];split<;>simp_all,h3⟩)
  -- the new temporaries
  have hE: ∀(u:Value) (φ2:bP),aK (DS (listed.setIfInBounds i true)) φ2 (V i) u->cT (DS listed) φ' φ2→
   (∀j o' t,ops[j]? =some o'->(listed.setIfInBounds i true).getD j false=true->o'.dst=some t->aK (DS (listed.setIfInBounds i true)) φ2 (V j) ((a'.put o.dst u).tmps.getD t undef))∧
   (∀t v,(∀j o',ops[j]? =some o'->(listed.setIfInBounds i true).getD j false=true->o'.dst≠some t)->bC e t=some v->aK (DS (listed.setIfInBounds i true)) φ2 v ((a'.put o.dst u).tmps.getD t undef)):=λu φ2 hu hag=>by
   refine ⟨λj o' t ho' hl hd=> ?_,λt v hno hv=> ?_⟩
   ·rw [hnl] at hl;by_cases hji:j=i
    ·subst hji;rw [ho] at ho';cases ho';rw [hd,rA (by rw [hN];exact hdN o (hmem j o ho) t hd)]
     exact hu
    ·rw [aY hji] at hl;have hne:o.dst≠some t:=((hdd i j o o' t ho ho' hd).1).resolve_left (λe=>hji e.symm);rw [xV hne];exact (hE1 j o' t ho' hl hd).mono hDSsub hag
   ·have hne:o.dst≠some t:=hno i o ho (by rw [hnl];simp)
    rw [xV hne];exact (hE2 t v (λj o' ho' hl=>hno j o' ho' (by rw [hnl];split<;>simp_all)) hv).mono hDSsub hag
  unfold wpOpIn;rw [ho];simp only;rcases hstep i o ho with ⟨hT,hwi,hSn⟩|⟨E,hT,hwi,hsc,heo,hSn,hpair⟩
  · -- passed over
    rw [hw false hwi];simp only [ei,dP];have hV:V i= .bz []:=by simp [V,hT]
    obtain ⟨g1,g2⟩:=hE undef φ' (by rw [hV];exact Ar) (cT.refl _ _)
    refine ⟨λ_ _=>trivial,by simp [hsz],hcl',by rw [yg];exact hN,by rw [put_defers];exact hdef,(λj Ej hj hTj=>by
     rw [hnl] at hj;by_cases hji:j=i
     ·subst hji;rw [hT] at hTj;cases hTj
     ·rw [aY hji] at hj;exact hpI j Ej hj hTj),φ',g1,g2,?_⟩
    have hHS:HS (aa h) T (pl (listed.setIfInBounds i true)) ops.size=HS (aa h) T (pl listed) ops.size:=by
     funext b;refine uO _ _ _ _ b ops.size (λj E r hj hTj hu=> ?_);show (listed.setIfInBounds i true).getD j false=listed.getD j false;rw [hnl];split
     ·rename_i hji;subst hji;rw [hT] at hTj;cases hTj
     ·rfl
    rw [hHS];exact ⟨λb hb=>hDSsub b (hStp.sub b hb),hStp.agree,hStp.hr.grow hDSsub,hStp.eF,hStp.qL,hStp.kj⟩
  · -- carried out
    rw [hw true hwi];simp only [cM];have hni:(S (i+1)).2.2=E.n:=by rw [hSn]
    have hfresh: ∀b,(S i).2.2<=b->b<E.n-> ¬DS listed b:=λb hb1 hb2 hD=>by
     rcases hD with hD|⟨j,hj,hl,h1,h2⟩
     ·have:=hR.lt b hD;have:=hnmono i 0 (by omega) (by omega)
      omega
     ·by_cases hji:j=i
      ·subst hji;rw [hul] at hl;cases hl
      ·rcases eV j i with h3|h3
       ·have:=hnmono i (j+1) (by omega) (by omega);omega
       ·have:=hnmono j (i+1) (by omega) (by omega);omega
    -- what is looked at is as in the text
    have hpairs: ∀j Ej b r,j<ops.size->j≠i->listed.getD j false=true->T j=some Ej->Ao Ej b=some r->inl E.rd b=true->i<j->(S i).2.2<=b->False\/True:=λ_ _ _ _ _ _ _ _ _ _ _ _=> .inr trivial;have hAfter: ∀j Ej b r k,i<j->j<ops.size->listed.getD j false=true->T j=some Ej->Ao Ej b=some r->inl E.rd b=true->aa (S i).2.1 b=some k->False:=λj Ej b r k hij hj hl hTj hu hrd hk=>by
     have hnb:((Region.before ops).getD j 0).testBit i=false:=by
      cases hb:((Region.before ops).getD j 0).testBit i
      ·rfl
      ·exact (hdesc j hl hb).elim
     rcases hstep j ops[j] (by simp [hj]) with ⟨h1,_,_⟩|⟨Ej',h1,_,_,_,_,h6⟩
     ·rw [hTj] at h1;cases h1
     ·rw [hTj] at h1;cases h1;have hp:=h6 i E ⟨hij,hT⟩ (hun j i hj hij hnb);simp only [kh,ak] at hp;unfold Ao at hu;cases hmd:cy Ej.md b with
      |some r'=>have:=xK hp.1.2 b r' hmd;rw [hrd] at this;cases this
      |none=>
       rw [hmd] at hu;obtain ⟨k',hk',_⟩:=bK.1 hu;have h7:=hnew j Ej b k' hj hTj hk';have h8:=hbelow i (by omega) b k hk
       have:=hnmono j i (by omega) (by omega)
       omega
    have hBefore: ∀j Ej b r,j<i->T j=some Ej->Ao Ej b=some r->inl E.rd b=true->listed.getD j false=true:=λj Ej b r hji hTj hu hrd=>by
     cases hb:((Region.before ops).getD i 0).testBit j
     ·exfalso;have hp:=hpair j Ej ⟨hji,hTj⟩ (hun i j hi hji hb);simp only [kh,ak] at hp;unfold Ao at hu;cases hmd:cy Ej.md b with
      |some r'=>have:=xK hp.1.1 b r' hmd;rw [hrd] at this;cases this
      |none=>
       rw [hmd] at hu;obtain ⟨k',hk',_⟩:=bK.1 hu;have:=xI hp.2 b k' hk';rw [hrd] at this;cases this
     ·exact hanc j hb
    have hA: ∀b k,only (aa (S i).2.1) E.rd b=some k->HS (aa h) T (pl listed) ops.size b=some k:=λb k hb=>by
     unfold only at hb;cases hrd:inl E.rd b
     ·simp [hrd] at hb
     ·simp only [hrd,cond_true] at hb;rw [wL (aa h) T (pl listed) b i ops.size (by omega) (λj Ej r hij hj hl hTj hu=>by
       by_cases hji:j=i
       ·subst hji;have:listed.getD j false=true:=hl;rw [hul] at this;cases this
       ·exact hAfter j Ej b r k (by omega) hj hl hTj hu hrd hb)]
      rw [uO (aa h) T (pl listed) (λ_=>true) b i (λj Ej r hji hTj hu=>hBefore j Ej b r hji hTj hu hrd),<-htext i (by omega)]
      exact hb
    have hHR:=hStp.hr.sub hA;refine LI hcx (by rw [<-hopeq o (hmem i o ho)];exact hsc) hfresh (λy hy x hx v hv=> ?_) hHR (λφ2 u w2 hle hv hst hro hmd hnw=> ?_)
    ·refine tW (λt v ht hv=>hlook t v ?_ hv) hx (λg hg=> ?_) hv
     ·unfold tc;have:Operand.tmp t∈o.op.operands.toList:=by rw [<-ht];exact hy
      simp only [List.contains_eq_mem,xn,List.mem_filterMap,bg];left;exact ⟨_,this,rfl⟩
     ·have:=du.1 hgl o (hmem i o ho);rw [Array.all_eq_true_iff_forall_mem] at this;have:=this y (by simpa using hy)
      rw [hg] at this;simp at this
    · -- the new state
      have hfull:=nU hStp.hr hA hmd hst hro (λ_ _ _ _ _=> .inr trivial);have hDSeq: ∀b,Dn (DS listed) (S i).2.2 E.n b↔DS (listed.setIfInBounds i true) b:=λb=>by
       constructor
       ·rintro (hb|⟨h1,h2⟩)
        ·exact hDSsub b hb
        ·exact .inr ⟨i,hi,by rw [hnl];simp,h1,by rw [hni];exact h2⟩
       ·rintro (hb|⟨j,hj,hl,h1,h2⟩)
        ·exact .inl (.inl hb)
        ·rw [hnl] at hl;by_cases hji:j=i
         ·subst hji;rw [hni] at h2;exact .inr ⟨h1,h2⟩
         ·rw [aY hji] at hl;exact .inl (.inr ⟨j,hj,hl,h1,h2⟩)
      have hDSe:Dn (DS listed) (S i).2.2 E.n=DS (listed.setIfInBounds i true):=by funext b;exact propext (hDSeq b)
      rw [hDSe] at hfull hv;have hHS:E.app (HS (aa h) T (pl listed) ops.size)=HS (aa h) T (pl (listed.setIfInBounds i true)) ops.size:=by
       funext b;rw [AD];have hsame: ∀j,j≠i->pl (listed.setIfInBounds i true) j=pl listed j:=λj hji=>by
        show (listed.setIfInBounds i true).getD j false=listed.getD j false;rw [hnl,aY hji]
       cases hu:Ao E b with
       |none=>
        simp only [tF];refine uO _ _ _ _ b ops.size (λj Ej r hj hTj huj=> ?_);by_cases hji:j=i
        ·subst hji;rw [hT] at hTj;cases hTj;rw [hu] at huj;cases huj
        ·exact (hsame j hji).symm
       |some r=>
        simp only [fM];rw [wL (aa h) T (pl (listed.setIfInBounds i true)) b (i+1) ops.size (by omega) (λj Ej rj hij hj hl hTj huj=>by
         have hl':listed.getD j false=true:=by
          have:=hsame j (by omega)
          have hl2:pl listed j=true:=by rw [<-this];exact hl
          exact hl2
         unfold Ao at hu;cases hmd':cy E.md b with
         |some r'=>
          obtain ⟨k,hk⟩:=hhas i E b r' hi hT hmd';exact hAfter j Ej b rj k (by omega) hj hl' hTj huj (hsub i E b r' hi hT hmd') hk
         |none=>
          rw [hmd'] at hu;obtain ⟨k',hk',_⟩:=bK.1 hu;have hrng:=hnew i E b k' hi hT hk';unfold Ao at huj;cases hmdj:cy Ej.md b with
          |some r'=>
           have hrdj:=hsub j Ej b r' hj hTj hmdj;have hnb:((Region.before ops).getD j 0).testBit i=false:=by
            cases hb:((Region.before ops).getD j 0).testBit i
            ·rfl
            ·exact (hdesc j hl' hb).elim
           rcases hstep j ops[j] (by simp [hj]) with ⟨h1,_,_⟩|⟨Ej',h1,_,_,_,_,h6⟩
           ·rw [hTj] at h1;cases h1
           ·rw [hTj] at h1;cases h1;have hp:=h6 i E ⟨by omega,hT⟩ (hun j i hj (by omega) hnb)
            simp only [kh,ak] at hp;have:=xI hp.2 b k' hk';rw [hrdj] at this;cases this
          |none=>
           rw [hmdj] at huj;obtain ⟨k2,hk2,_⟩:=bK.1 huj;have h7:=hnew j Ej b k2 hj hTj hk2;have:=hnmono j (i+1) (by omega) (by omega)
           omega)]
        simp only [HS];have hpi:pl (listed.setIfInBounds i true) i=true:=by
         show (listed.setIfInBounds i true).getD i false=true;rw [hnl];simp
        rw [hpi,hT];simp [hu]
      rw [hHS] at hfull;cases hpn:E.pn with
      |some u0=>
       -- a panic:the last operation,all others done
       rcases hK with ⟨hK1,_⟩|⟨i',E',io',k1,k2,k3,k4,u1,k5,k6⟩
       ·have:=hK1 i E hi hT;rw [hpn] at this;cases this
       ·have hii:i=i':=by
         rcases eV i i' with hlt|hge
         ·have:=k4 i hlt E hT;rw [hpn] at this;cases this
         ·omega
        subst hii;rw [hT] at k3;cases k3;rw [hpn] at k5;cases k5;have hune:(CJ ops).getD i []=[]:=by
         have hz:(List.zip (ops.toList.map (bk P ops.toList sp)) (CJ ops))[i]? =some (bk P ops.toList sp o,(CJ ops).getD i []):=by
          rw [List.getElem?_zip_eq_some];refine ⟨by simp;exact ⟨o,by simpa using ho,rfl⟩,?_⟩
          rw [jd,bj (by simp [CJ];exact hi)];rfl
         rw [hz] at k1;exact (zi (Cy k1)).2
        have hall: ∀j,j<i->listed.getD j false=true:=λj hj=>hanc j (by
         cases hb:((Region.before ops).getD i 0).testBit j
         ·have:=hun i j hi hj hb;rw [hune] at this;simp [inl] at this
         ·rfl)
        have hall': ∀j,j<ops.size->(listed.setIfInBounds i true).getD j false=true:=λj hj=>by
         rw [hnl];by_cases hji:j=i
         ·simp [hji]
         ·rw [aY hji];exact hall j (by omega)
        have hHS2:HS (aa h) T (pl (listed.setIfInBounds i true)) ops.size=aa (E.fg (S i).2.1):=by
         have h5:E.fg (S i).2.1=(S ops.size).2.1:=by
          rcases hstep i o ho with ⟨h1,_,_⟩|⟨E2,h1,_,_,_,h5,_⟩
          ·rw [hT] at h1;cases h1
          ·rw [hT] at h1;cases h1;rw [<-k2,h5]
         rw [h5,htext ops.size (bx _)];funext b;exact uO _ _ _ _ b ops.size (λj Ej r hj _ _=>hall' j hj)
        rw [hHS2] at hfull;have hst2:=hStp.trans hfull;have hnn:n<=E.n:=by
         have h1:=hnmono ops.size 0 (by omega) (by omega)
         rw [hn00,<-k2,hni] at h1;exact h1
        refine ⟨⟨DS (listed.setIfInBounds i true),φ2,(S i).1,E.fg (S i).2.1,E.n,k6,by omega,⟨λb hb=> ?_,λt v hv=> ?_,hst2.hr,hN,by rw [hdef];exact hR.defers.stays hR.heap hst2.eF⟩,hS.trans hst2⟩,hdef⟩
        ·rcases hb with hb|⟨j,hj,_,_,h2⟩
         ·have:=hR.lt b hb;omega
         ·have h3:=hnmono ops.size (j+1) (by omega) (by omega)
          rw [<-k2,hni] at h3;omega
        ·by_cases hex: ∃(j:Nat) (oj:Oper),j<i/\ops[j]? =some oj/\oj.dst=some t
         ·obtain ⟨j,oj,hji,hoj,hd⟩:=hex;have h1:=(henv i (by omega) t).1 j oj hji hoj hd
          rw [h1] at hv;cases hv;exact (hE1 j oj t hoj (hall j hji) hd).mono hfull.sub hfull.agree
         ·have h1:=(henv i (by omega) t).2 (λj' o' hj' ho' hd'=>hex ⟨j',o',hj',ho',hd'⟩)
          rw [h1] at hv;refine (hE2 t v (λj' o' ho' hl' hd'=>hex ⟨j',o',?_,ho',hd'⟩) hv).mono hfull.sub hfull.agree;have hj':=(kE.1 ho').1;rcases eV j' i with h'|h'
          ·exact h'
          ·have:j'=i:=by omega
           subst this;rw [hul] at hl';cases hl'
      |none=>
      have hV:V i=E.v:=by simp [V,hT]
      obtain ⟨g1,g2⟩:=hE u φ2 (by rw [hV];exact hv) hfull.agree
      exact ⟨by simp [hsz],hcl',by rw [yg];exact hN,by rw [put_defers];exact hdef,λj Ej hj hTj=>by
       rw [hnl] at hj;by_cases hji:j=i
       ·subst hji;rw [hT] at hTj;cases hTj;exact hpn
       ·rw [aY hji] at hj;exact hpI j Ej hj hTj,φ2,g1,g2,hStp.trans hfull⟩
 -- the end
 have hend: ∀listed a' w',Inv listed a' w'->(∀i,i<ops.size->listed.getD i false=true)->pw N n0 B D0 φ0 H0 w0 K .normal a' w'/\a'.defers=a.defers:=by
  intro listed a' w' hI hall;obtain ⟨hsz,hcl,hN,hdef,hpI,φ',hE1,hE2,hStp⟩:=hI;have hK:K .normal (S ops.size).1 (S ops.size).2.1 (S ops.size).2.2:=by
   rcases hK with ⟨_,hK⟩|⟨i,E,io,k1,k2,k3,k4,u,k5,k6⟩
   ·exact hK
   ·have:=hpI i E (hall i (by omega)) k3;rw [k5] at this;cases this
  have hHS:HS (aa h) T (pl listed) ops.size=aa (S ops.size).2.1:=by
   rw [htext ops.size (bx _)];funext b;exact uO _ _ _ _ b ops.size (λj Ej r hj _ _=>hall j hj)
  rw [hHS] at hStp;have hnn:n<=(S ops.size).2.2:=by rw [<-hn00];exact hnmono ops.size 0 (by omega) (by omega)
  refine ⟨⟨DS listed,φ',(S ops.size).1,(S ops.size).2.1,(S ops.size).2.2,hK,by omega,⟨λb hb=> ?_,λt v hv=> ?_,hStp.hr,hN,by rw [hdef];exact hR.defers.stays hR.heap hStp.eF⟩,hS.trans hStp⟩,hdef⟩
  ·rcases hb with hb|⟨j,hj,_,_,h2⟩
   ·have:=hR.lt b hb;omega
   ·have:=hnmono ops.size (j+1) (by omega) (by omega);omega
  ·by_cases hex: ∃(j:Nat) (oj:Oper),ops[j]? =some oj/\oj.dst=some t
   ·obtain ⟨j,oj,hoj,hd⟩:=hex;have hj:=(kE.1 hoj).1;have h1:=(henv ops.size (bx _) t).1 j oj hj hoj hd;rw [h1] at hv;cases hv;exact hE1 j oj t hoj (hall j hj) hd
   ·have h1:=(henv ops.size (bx _) t).2 (λj' o' hj' ho' hd'=>hex ⟨j',o',ho',hd'⟩);rw [h1] at hv;exact hE2 t v (λj' o' ho' hl' hd'=>hex ⟨j',o',ho',hd'⟩) hv
 have hready: ∀listed a' w',Inv listed a' w'->Region.ready .any ops listed=[]-> ∀i,i<ops.size->listed.getD i false=true:=by
  intro listed a' w' hI hnil i;induction i using Nat.strongRecOn with
  |_ i ih=>
   intro hi;cases hl:listed.getD i false
   ·exfalso;have hsz:=hI.1;have:i∈Region.ready .any ops listed:=mem_ready.2 ⟨by
     have:i<listed.size:=by omega
     simp [Array.getD,this] at hl ⊢;exact hl,ops[i],by simp [hi],λed hed' hb=>by
      have h1:=du.1 hed i (vC.2 hi);simp only [Array.getElem?_eq_getElem hi,Array.all_eq_true_iff_forall_mem] at h1;have h2:=h1 ed hed';rw [hb] at h2;simp at h2;exact ih ed.on h2 (by omega)⟩
    rw [hnil] at this;cases this
   ·rfl
 -- the count
 have hloop: ∀(fuel:Nat) (listed:Array Bool) (a':Act) (w':World),Inv listed a' w'->((List.range ops.size).filter (λi=> !listed.getD i false)).length<=fuel→
  wpAnyIn (Fw ro) 0 P .any ops (λex a' w'=>pw N n0 B D0 φ0 H0 w0 K ex a' w'/\a'.defers=a.defers) fuel listed a' w':=by
  intro fuel;induction fuel with
  |zero=>
   intro listed a' w' hI hc;have hall: ∀i,i<ops.size->listed.getD i false=true:=λi hi=>by
    cases hl:listed.getD i false
    ·exfalso;have:i∈(List.range ops.size).filter (λi=> !listed.getD i false):=by rw [List.mem_filter];exact ⟨vC.2 hi,by simp [hl]⟩
     have:=List.length_pos_of_mem this;omega
    ·rfl
   refine ⟨?_,hend listed a' w' hI hall⟩;cases hr:Region.ready .any ops listed with
   |nil=>rfl
   |cons x l=>
    exfalso;have hx:x∈Region.ready .any ops listed:=by rw [hr];exact iQ
    obtain ⟨h1,o,ho,_⟩:=mem_ready.1 hx;have hlt:=(kE.1 ho).1;have h2:=hall x hlt;have hsz:=hI.1;have:x<listed.size:=by omega
    simp [Array.getD,this] at h1 h2;rw [h1] at h2;cases h2
  |succ fuel ih=>
   intro listed a' w' hI hc;refine ⟨λhnil=>hend listed a' w' hI (hready listed a' w' hI hnil),λi hi=> ?_⟩;refine wpOpIn_mono (λa'' w'' hI'=>ih _ a'' w'' hI' ?_) (hone listed a' w' i hI hi)
   -- one fewer
   obtain ⟨h1,o,ho,_⟩:=mem_ready.1 hi;have hlt:=(kE.1 ho).1;have hsz:=hI.1;have hcount: ∀m,((List.range m).filter (λj=> !(listed.setIfInBounds i true).getD j false)).length+(if i<m then 1 else 0)<=((List.range m).filter (λj=> !listed.getD j false)).length:=λm=>by
    induction m with
    |zero=>simp
    |succ m ihm=>
     rw [List.range_succ,List.filter_append,List.filter_append,cm,cm];by_cases him:i=m
     ·subst him;have e1:(listed.setIfInBounds i true).getD i false=true:=by simp [show i<listed.size by omega]
      have e2:listed.getD i false=false:=by
       have:i<listed.size:=by omega
       simp [Array.getD,this] at h1 ⊢;exact h1
      simp only [List.filter_cons,List.filter_nil,e1,e2,tJ,kl,cM,ei,dP,fP,List.length_cons] at*;simp at ihm ⊢;omega
     ·have e1:(listed.setIfInBounds i true).getD m false=listed.getD m false:=getD_set_ne false him;simp only [List.filter_cons,List.filter_nil,e1];have:(if i<m+1 then 1 else 0)=(if i<m then 1 else 0:Nat):=by
       by_cases hh:i<m
       ·simp [hh,show i<m+1 by omega]
       ·simp [hh,show ¬i<m+1 by omega]
      rw [this];omega
   have:=hcount ops.size;rw [aT hlt] at this;omega
 refine wpIn_region_any hm (hloop ops.size _ a _ ?_ (by
  refine oP (List.length_filter_le _ _) (by simp)))
 have hfalse: ∀j,(Array.replicate ops.size false).getD j false=false:=λj=>by
  rw [rG];cases hj:(Array.replicate ops.size false)[j]? with
  |none=>rfl
  |some x=>
   rw [Array.getElem?_replicate] at hj;split at hj
   ·cases hj;rfl
   ·cases hj
 have hHS0:HS (aa h) T (pl (Array.replicate ops.size false)) ops.size=aa h:=by
  funext b;rw [wL (aa h) T _ b 0 ops.size (by omega) (λj Ej r _ _ hl=>by
   have:(Array.replicate ops.size false).getD j false=true:=hl;rw [hfalse] at this;cases this)]
  rfl
 refine ⟨by simp,(λj o hj=>by rw [hfalse] at hj;cases hj),hR.size,rfl,(λj E hj=>by rw [hfalse] at hj;cases hj),φ,(λj o t _ hj=>by rw [hfalse] at hj;cases hj),λt v _ hv=>(hR.env t v hv).mono (λb hb=> .inl hb) (cT.refl _ _),?_⟩
 rw [hHS0];have hsubD: ∀b,D b->DS (Array.replicate ops.size false) b:=λb hb=> .inl hb;have hR1:=hR.heap.world (w':={w with drawn:=w.drawn+1}) rfl
 exact ⟨hsubD,cT.refl _ _,hR1.grow hsubD,⟨rfl,rfl,rfl,bx _,λ_ _ _=>rfl⟩,λb k hb hk=> .inr ⟨b,k,hb,hk,rfl⟩,λ_ _ h=> .inl h⟩
theorem Ey {B:List Deferred} {ro:Option Nat} (hcx:Sound P cx) (hm:P.follows .mixedOrders=true) {K:bX} {D0:Nat->Prop} {φ0:bP} {H0:Hf} {w0:World} {ops:Array Oper} {sp:List Nat} {id:Nat} (hn0: ∀b,D0 b->b<n0)
 (hgu:jP ops.toList=true) (hdst:jU N ops.toList=true) (hgl:AN ops.toList=true) (hdr:xO ops=true)
 {e:Env} {h:Hp} {n:Nat} {D:Nat->Prop} {φ:bP} {a:Act} {w:World} (hn:n0<=n)
 (hrun:qY cx (List.zip (ops.toList.map (bk P ops.toList sp)) (CJ ops)) 0 [] e h n K) (hR:Rel D φ e h n N (w0.heap.size,B) a w) (hS:dU D0 φ0 H0 w0 D φ (aa h) w):
 (Code.region id ops true).wpIn (Fw ro) 0 P (λex a' w'=>pw N n0 B D0 φ0 H0 w0 K ex a' w') a w:=
 wpIn_mono (vK hcx hm hn0 hgu hdst hgl hdr hn hrun hR hS) (λ_ _ _ h=>h.1)
end
end Go.Ab
namespace Go.Ab
def db:Code->List Nat
 | .cond (.tmp t) a b=>t::(db a++db b)
 | .cond _ a b=>db a++db b
 | .seq a b=>db a++db b
 | .block _ c=>db c
 | .loop c=>db c
 | .scope c=>db c
 | .rangeFunc _ _ a b=>db a++db b
 |_=>[]
def bt (P:Program) (ct:List Nat) (N:Nat):Code->bb
 | .skip=> .skip
 | .region _ ops draw=>
  let l:=ops.toList;let sp:=iS l++ct
  if jU N l&&jP l&&(!draw||(AN l&&xO ops)) then
   (if draw then .jv (List.zip (l.map (bk P l sp)) (CJ ops)) else .dY (l.map (bk P l sp)))
  else .bad
 | .seq a b=> .seq (bt P ct N a) (bt P ct N b)
 | .cond c a b=>match cO c with
  |some (.g _)=> .bad
  |some x=> .cond x (bt P ct N a) (bt P ct N b)
  |none=> .bad
 | .block id c=> .block id (bt P ct N c)
 | .loop c=> .loop (bt P ct N c)
 | .scope c=> .scope (bt P ct N c)
 | .label _=> .skip
 | .rangeFunc g ps a b=>match cO g with
  |some (.g _)=> .bad
  |some x=> .pX x ps.toList (bt P ct N a) (bt P ct N b)
  |none=> .bad
 | .exit id=> .exit id
 | .ret=> .ret
 |_=> .bad
def Loop (P:Program) (ct:List Nat) (N n0:Nat) (c:bb) (K:bX) (e:Env) (h:Hp) (n:Nat):Prop:=
 ∀c',bt P ct N c'=c->WP P N n0 (.loop c') K e h n
def qb (P:Program) (ct:List Nat) (N n0:Nat) (g:cq) (ps:List Nat) (a b:bb) (K:bX) (e:Env) (h:Hp) (n:Nat):Prop:=
 ∀c',bt P ct N c'= .pX g ps a b->WP P N n0 c' K e h n
structure Fx where
 P:Program
 cx:Cx
 ct:List Nat
 N:Nat
 n0:Nat
def fR (K:bX) (k:Env->Hp->Nat->Prop):bX:=λex e h n=>
 match ex with
 | .normal=>k e h n
 |ex=>K ex e h n
def iK (id:Nat) (K:bX):bX:=λex e h n=>
 match ex with
 | .exit i=>if i=id then K .normal e h n else K (.exit i) e h n
 |ex=>K ex e h n
def Eo (K:bX):bX:=λex e h n=>
 match ex with
 | .goto _=>False
 |ex=>K ex e h n
def iw (F:Fx):bb->bX->Env->Hp->Nat->Prop
 | .skip,K,e,h,n=>K .normal e h n
 | .dY ops,K,e,h,n=>iv F.cx ops e h n K
 | .jv ops,K,e,h,n=>qY F.cx ops 0 [] e h n K
 | .seq a b,K,e,h,n=>iw F a (fR K (iw F b K)) e h n
 | .cond c a b,K,e,h,n=>gd (c.ev e h) λv=>match v with
  | .b x=>It x (iw F a K e h n) (iw F b K e h n)
  |_=>False
 | .block id c,K,e,h,n=>iw F c (iK id K) e h n
 | .loop c,K,e,h,n=>Loop F.P F.ct F.N F.n0 c K e h n
 | .scope c,K,e,h,n=>iw F c (Eo K) e h n
 | .pX g ps a b,K,e,h,n=>qb F.P F.ct F.N F.n0 g ps a b K e h n
 | .exit id,K,e,h,n=>K (.exit id) e h n
 | .ret,K,e,h,n=>K .ret e h n
 | .bad,_,_,_,_=>False
theorem pw.mono {B:List Deferred} {N n0:Nat} {D0:Nat->Prop} {φ0:bP} {H0:Hf} {w0:World} {K K':bX} (hk: ∀ex e h n,K ex e h n->K' ex e h n) {ex:Exit} {a:Act} {w:World} (h:pw N n0 B D0 φ0 H0 w0 K ex a w):
 pw N n0 B D0 φ0 H0 w0 K' ex a w:=
 let ⟨D,φ,e,h',n,h1,h2⟩:=h;⟨D,φ,e,h',n,hk _ _ _ _ h1,h2⟩
theorem WP.mono {P:Program} {N n0:Nat} {c:Code} {K K':bX} {e:Env} {h:Hp} {n:Nat} (hk: ∀ex e h n,K ex e h n->K' ex e h n) (hw:WP P N n0 c K e h n):WP P N n0 c K' e h n:=
 λro hro B D0 φ0 H0 w0 h1 h2 D φ a w hR hS=>wpIn_mono (hw ro hro B D0 φ0 H0 w0 h1 h2 D φ a w hR hS) (λex a' w' hp=>hp.mono hk)
theorem kD {F:Fence} {n:Nat} {P:Program} {Q:Exit->Act->World->Prop} {a:Act} {w:World} {c:Code} (h:c.wpIn F n P (Exit.noGoto Q) a w):(Code.scope c).wpIn F n P Q a w:=by
 intro b k cs hro hb hr;have h0:(lone (b.atR a (.code (.scope c)::k)) cs w).fenced P F:=fenced_calm hb hr rfl;have s1:Go.step P (lone (b.atR a (.code (.scope c)::k)) cs w)= .next (lone (b.atR a (.code c:: .inScope c::k)) cs w):=step_lone_go (by rfl)
 have s2: ∀a w,Go.step P (lone (b.atR a (.inScope c::k)) cs w)= .next (lone (b.atR a k) cs w):=λa w=>step_lone_go (by rfl)
 obtain ⟨e,a₁,w₁,hq,harr⟩:=h b (.inScope c::k) cs hro hb hr;cases e with
 |normal=>exact ⟨.normal,a₁,w₁,hq,.head h0 s1 (StepsIn.trans harr (.one (fenced_calm hb hr rfl) (s2 _ _)))⟩
 |exit id'=>
  have hx:exitTo id' (.inScope c::k)=exitTo id' k:=by simp [exitTo]
  exact ⟨.exit id',a₁,w₁,hq,λk' hk=> .head h0 s1 (harr.1 k' (by grind)),
   λhr' hk=>let ⟨k₁,h1,h2⟩:=harr.2 hr' (by grind);⟨k₁,h1,.head h0 s1 h2⟩⟩
 |goto l=>exact hq.elim
 |ret=>exact ⟨_,a₁,w₁,hq,.of_steps (.one h0 s1) harr⟩
 |panic ch=>exact ⟨_,a₁,w₁,hq,.of_steps (.one h0 s1) harr⟩
 |outgrown=>exact ⟨_,a₁,w₁,hq,.of_steps (.one h0 s1) harr⟩
theorem gZ (F:Fx) (hcx:Sound F.P F.cx) (hm:F.P.follows .mixedOrders=true): ∀(c:Code) (K:bX) (e:Env) (h:Hp) (n:Nat),iw F (bt F.P F.ct F.N c) K e h n->WP F.P F.N F.n0 c K e h n:=by
 intro c;induction c with
 |skip=>intro K e h n hi ro hro B D0 φ0 H0 w0 h1 h2 D φ a w hR hS;exact wpIn_skip ⟨D,φ,e,h,n,hi,h2,hR,hS⟩
 |region id ops draw=>
  intro K e h n hi ro hro B D0 φ0 H0 w0 h1 h2 D φ a w hR hS;simp only [bt] at hi;split at hi
  ·rename_i hc;simp only [ak,mA,gG] at hc;obtain ⟨⟨hc1,hc2⟩,hc4⟩:=hc;cases draw
   ·simp only [ei,dP,iw] at hi;exact wpIn_region_list (tg hcx h1 hc2 ops.toList (λo ho=>ho) hc1 e h n D φ a w h2 hi hR hS)
   ·simp only [cM,iw] at hi
    grind [Ey]
  ·exact hi.elim
 |seq x y ihx ihy=>
  intro K e h n hi ro hro B D0 φ0 H0 w0 h1 h2 D φ a w hR hS;simp only [bt,iw] at hi;have hro1:ro=none\/(j6 x=true/\j6 y=true):=hro.imp _root_.id (λh=>by grind [j6])
  refine wpIn_seq (wpIn_mono (ihx _ e h n hi ro (hro1.imp _root_.id (·.1)) B D0 φ0 H0 w0 h1 h2 D φ a w hR hS) (λex a' w' hp=> ?_));obtain ⟨D',φ',e',h',n',hk,hn',hR',hS'⟩:=hp;cases ex with
  |normal=>exact ihy K e' h' n' hk ro (hro1.imp _root_.id (·.2)) B D0 φ0 H0 w0 h1 hn' D' φ' a' w' hR' hS'
  |exit id=>exact ⟨D',φ',e',h',n',hk,hn',hR',hS'⟩
  |goto l=>exact ⟨D',φ',e',h',n',hk,hn',hR',hS'⟩
  |ret=>exact ⟨D',φ',e',h',n',hk,hn',hR',hS'⟩
  |panic ch=>exact ⟨D',φ',e',h',n',hk,hn',hR',hS'⟩
  |outgrown=>exact ⟨D',φ',e',h',n',hk,hn',hR',hS'⟩
 |cond c x y ihx ihy=>
  intro K e h n hi ro hro B D0 φ0 H0 w0 h1 h2 D φ a w hR hS;have hro1:ro=none\/(j6 x=true/\j6 y=true):=hro.imp _root_.id (λh=>by grind [j6])
  simp only [bt] at hi;split at hi
  ·exact hi.elim
  ·rename_i x' hng hc;simp only [iw] at hi;obtain ⟨v,hv,hi⟩:=fD hi;split at hi
   ·rename_i b;have hvr:aK D φ (.b b) (a.eval c):=tW (λt v _ hv=>hR.env t v hv) hc (λg hg=>by grind [cO,aI]) hv
    generalize hu:a.eval c=u at hvr;cases hvr;cases b
    ·exact wpIn_cond_false hu (ihy K e h n (hi.2 rfl) ro (hro1.imp _root_.id (·.2)) B D0 φ0 H0 w0 h1 h2 D φ a w hR hS)
    ·exact wpIn_cond_true hu (ihx K e h n (hi.1 rfl) ro (hro1.imp _root_.id (·.1)) B D0 φ0 H0 w0 h1 h2 D φ a w hR hS)
   grind
  ·exact hi.elim
 |block id c ih=>
  intro K e h n hi ro hro B D0 φ0 H0 w0 h1 h2 D φ a w hR hS;simp only [bt,iw] at hi;refine wpIn_block (wpIn_mono (ih _ e h n hi ro (hro.imp _root_.id (λh=>by grind [j6])) B D0 φ0 H0 w0 h1 h2 D φ a w hR hS) (λex a' w' hp=> ?_))
  obtain ⟨D',φ',e',h',n',hk,hn',hR',hS'⟩:=hp;cases ex with
  |exit i=>
   simp only [iK] at hk;simp only [Exit.inBlock];split
   ·rename_i hid;rw [aT hid] at hk;exact ⟨D',φ',e',h',n',hk,hn',hR',hS'⟩
   ·rename_i hid;rw [aY hid] at hk;exact ⟨D',φ',e',h',n',hk,hn',hR',hS'⟩
  |normal=>exact ⟨D',φ',e',h',n',hk,hn',hR',hS'⟩
  |goto l=>exact ⟨D',φ',e',h',n',hk,hn',hR',hS'⟩
  |ret=>exact ⟨D',φ',e',h',n',hk,hn',hR',hS'⟩
  |panic ch=>exact ⟨D',φ',e',h',n',hk,hn',hR',hS'⟩
  |outgrown=>exact ⟨D',φ',e',h',n',hk,hn',hR',hS'⟩
 |loop c ih=>intro K e h n hi;simp only [bt,iw] at hi;exact hi c rfl
 |rangeFunc g ps x y ihx ihy=>
  intro K e h n hi;cases hg:cO g with
  |none=>simp only [bt,hg,iw] at hi
  |some o=>
   cases o with
   |g _=>simp only [bt,hg,iw] at hi
   |t _=>simp only [bt,hg,iw] at hi;exact hi (.rangeFunc g ps x y) (by grind [bt])
   |c _=>simp only [bt,hg,iw] at hi;exact hi (.rangeFunc g ps x y) (by grind [bt])
 |scope c ih=>
  intro K e h n hi ro hro B D0 φ0 H0 w0 h1 h2 D φ a w hR hS;simp only [bt,iw] at hi;refine kD (wpIn_mono (ih _ e h n hi ro (hro.imp _root_.id (λh=>by grind [j6])) B D0 φ0 H0 w0 h1 h2 D φ a w hR hS) (λex a' w' hp=> ?_))
  obtain ⟨D',φ',e',h',n',hk,hn',hR',hS'⟩:=hp;cases ex with
  |goto l=>exact hk.elim
  |_=>exact ⟨D',φ',e',h',n',hk,hn',hR',hS'⟩
 |label l=>intro K e h n hi ro hro B D0 φ0 H0 w0 h1 h2 D φ a w hR hS;exact wpIn_label ⟨D,φ,e,h,n,hi,h2,hR,hS⟩
 |exit id=>intro K e h n hi ro hro B D0 φ0 H0 w0 h1 h2 D φ a w hR hS;exact wpIn_exit ⟨D,φ,e,h,n,hi,h2,hR,hS⟩
 |ret=>intro K e h n hi ro hro B D0 φ0 H0 w0 h1 h2 D φ a w hR hS;exact wpIn_ret ⟨D,φ,e,h,n,hi,h2,hR,hS⟩
 |_=>intro K e h n hi;exact hi.elim
/-! ### renaming and forgetting -/
mutual
def AV.aQ (ψ:Nat->Nat):AV->AV
 | .p b o=> .p (ψ b) o
 | .sl b o l c=> .sl (ψ b) o l c
 | .sg b o l=> .sg (ψ b) o l
 | .fn f l=> .fn f (aS ψ l)
 | .bm f l=> .bm f (aS ψ l)
 | .agg l=> .agg (aS ψ l)
 | .bz l=> .bz (aS ψ l)
 | .b x=> .b x
 | .i k n=> .i k n
 | .s l=> .s l
 | .np=> .np
 | .ns=> .ns
 | .nf=> .nf
 | .ni=> .ni
 | .fz l n=> .fz (aS ψ l) n
 | .fp l k=> .fp (aS ψ l) k
 | .ze=> .ze
 | .en=> .en
 | .any=> .any
 | .k t u=> .k t u
 | .m b=> .m (ψ b)
 | .nm=> .nm
 | .yl L r ts l=> .yl L r ts (aS ψ l)
def aS (ψ:Nat->Nat):List AV->List AV
 |[]=>[]
 |v::r=>v.aQ ψ::aS ψ r
end
mutual
def AV.aj (m:Nat):AV->Bool
 | .p b _=>Nat.blt b m
 | .sl b _ _ _=>Nat.blt b m
 | .sg b _ _=>Nat.blt b m
 | .fn _ l=>ab m l
 | .bm _ l=>ab m l
 | .agg l=>ab m l
 | .bz l=>ab m l
 | .b _=>true
 | .i _ _=>true
 | .s _=>true
 | .np=>true
 | .ns=>true
 | .nf=>true
 | .ni=>true
 | .fz l _=>ab m l
 | .fp l _=>ab m l
 | .ze=>true
 | .en=>true
 | .any=>true
 | .k _ _=>true
 | .m b=>Nat.blt b m
 | .nm=>true
 | .yl _ _ _ l=>ab m l
def ab (m:Nat):List AV->Bool
 |[]=>true
 |v::r=>v.aj m&&ab m r
end
theorem jg {a b:Nat} (h:Nat.blt a b=true):a<b:=by simp_all
theorem dJ (ψ:Nat->Nat): ∀l,aS ψ l=l.map (AV.aQ ψ)
 |[]=>rfl
 |v::r=>by simp [aS,dJ ψ r]
theorem cE {m:Nat}: ∀{l:List AV},ab m l=true-> ∀v∈l,v.aj m=true
 |[],_,v,hv=>by cases hv
 |x::r,h,v,hv=>by
  simp only [ab,ak] at h;rcases gP.1 hv with rfl|hv
  ·exact h.1
  ·exact cE h.2 v hv
def bP.comp (φ:bP) (ψ:Nat->Nat):bP where
 cI b:=φ.cI (ψ b)
 off b:=φ.off (ψ b)
 cap b:=φ.cap (ψ b)
 fO b:=φ.fO (ψ b)
 fz:=φ.fz
 lp:=φ.lp
theorem aK.FV {D:Nat->Prop} {φ:bP} {ψ:Nat->Nat} {m:Nat} {v':AV} {u:Value} (h:aK D φ v' u): ∀v:AV,v'=v.aQ ψ->v.aj m=true->aK (λb=>b<m/\D (ψ b)) (φ.comp ψ) v u:=by
 induction h with
 |b x=>intro v hv hb;cases v<;>simp [AV.aQ] at hv;subst hv;exact .b _
 |i k n=>intro v hv hb;cases v<;>simp [AV.aQ] at hv;obtain ⟨rfl,rfl⟩:=hv;exact .i _ _
 |s l=>intro v hv hb;cases v<;>simp [AV.aQ] at hv;subst hv;exact .s _
 |np=>intro v hv hb;cases v<;>simp [AV.aQ] at hv;exact .np
 |p b o h=>
  intro v hv hb;cases v<;>simp [AV.aQ] at hv;obtain ⟨rfl,rfl⟩:=hv;exact .p _ _ ⟨jg hb,h⟩
 |ns=>intro v hv hb;cases v<;>simp [AV.aQ] at hv;exact .ns
 |sl b o len cap h=>
  intro v hv hb;cases v<;>simp [AV.aQ] at hv;obtain ⟨rfl,rfl,rfl,rfl⟩:=hv;exact .sl _ _ _ _ ⟨jg hb,h⟩
 |sg b o len j cap h hj hc hl=>
  intro v hv hb;cases v<;>simp [AV.aQ] at hv;obtain ⟨rfl,rfl,rfl⟩:=hv;exact .sg _ _ _ j cap ⟨jg hb,h⟩ hj hc hl
 |fn f l cs hf hl h ih=>
  intro v hv hb;cases v<;>simp [AV.aQ] at hv;rename_i f' l';obtain ⟨rfl,rfl⟩:=hv;rw [dJ] at hl h ih;refine .fn _ _ cs hf (by grind) (λi a u ha hu=>ih i (a.aQ ψ) u (by simp [ha]) hu a rfl ?_)
  exact cE hb a (bJ ha)
 |bm f l cs hf hl h ih=>
  intro v hv hb;cases v<;>simp [AV.aQ] at hv;rename_i f' l';obtain ⟨rfl,rfl⟩:=hv;rw [dJ] at hl h ih;refine .bm _ _ cs hf (by grind) (λi a u ha hu=>ih i (a.aQ ψ) u (by simp [ha]) hu a rfl ?_)
  exact cE hb a (bJ ha)
 |nf=>intro v hv hb;cases v<;>simp [AV.aQ] at hv;exact .nf
 |ni=>intro v hv hb;cases v<;>simp [AV.aQ] at hv;exact .ni
 |agg l cs hl h ih=>
  intro v hv hb;cases v<;>simp [AV.aQ] at hv;rename_i l';subst hv;rw [dJ] at hl h ih;refine .agg _ cs (by grind) (λi a u ha hu=>ih i (a.aQ ψ) u (by simp [ha]) hu a rfl ?_)
  exact cE hb a (bJ ha)
 |bz l cs hl h ih=>
  intro v hv hb;cases v<;>simp [AV.aQ] at hv;rename_i l';subst hv;rw [dJ] at hl h ih;refine .bz _ cs (by grind) (λi a u ha hu=>ih i (a.aQ ψ) u (by simp [ha]) hu a rfl ?_)
  exact cE hb a (bJ ha)
 |fz l n B o cap vs hB hc hs h ih=>
  intro v hv hb;cases v<;>simp [AV.aQ] at hv;rename_i l' n';obtain ⟨rfl,rfl⟩:=hv;rw [dJ] at hs h ih;refine .fz _ _ B o cap vs hB hc (by grind) (λi a u ha hu=>ih i (a.aQ ψ) u (by simp [ha]) hu a rfl ?_)
  exact cE hb a (bJ ha)
 |nS l x cap hc=>
  intro v hv hb;cases v<;>simp [AV.aQ] at hv;obtain ⟨rfl,h0⟩:=hv;rw [<-h0];exact .nS _ _ _ hc
 |fp l k B o vs hB hs h ih=>
  intro v hv hb;cases v<;>simp [AV.aQ] at hv;rename_i l' n';obtain ⟨rfl,rfl⟩:=hv;rw [dJ] at hs h ih;refine .fp _ _ B o vs hB (by grind) (λi a u ha hu=>ih i (a.aQ ψ) u (by simp [ha]) hu a rfl ?_)
  exact cE hb a (bJ ha)
 |ze x=>intro v hv hb;cases v<;>simp [AV.aQ] at hv;exact .ze _
 |en x cap=>intro v hv hb;cases v<;>simp [AV.aQ] at hv;exact .en _ _
 |any u=>intro v hv hb;cases v<;>simp [AV.aQ] at hv;exact .any _
 |k t u=>intro v hv hb;cases v<;>simp [AV.aQ] at hv;obtain ⟨rfl,rfl⟩:=hv;exact .k _ _
 |m b h=>intro v hv hb;cases v<;>simp [AV.aQ] at hv;subst hv;exact .m _ ⟨jg hb,h⟩
 |nm=>intro v hv hb;cases v<;>simp [AV.aQ] at hv;exact .nm
 |yl L r ts l hL h ih=>
  intro v hv hb;cases v<;>simp [AV.aQ] at hv;rename_i L' r' ts' l';obtain ⟨rfl,rfl,rfl,rfl⟩:=hv;rw [dJ] at h ih;refine .yl _ _ _ _ hL (λi t a ht ha=>ih i t (a.aQ ψ) ht (by simp [ha]) a rfl ?_)
  exact cE hb a (bJ ha)
theorem aK.aQ {D2:Nat->Prop} {D:Nat->Prop} {φ2 φ:bP} {ψ:Nat->Nat} {v:AV} {u:Value} (h:aK D2 φ2 v u) (hD: ∀b,D2 b->D (ψ b)) (hφ: ∀b,D2 b->φ2.cI b=φ.cI (ψ b)/\φ2.off b=φ.off (ψ b)/\φ2.cap b=φ.cap (ψ b)/\φ2.fO b=φ.fO (ψ b)) (hz: ∀B vs,φ2.fz B=some vs->φ.fz B=some vs) (hl: ∀L r,φ2.lp L=some r->φ.lp L=some r):
 aK D φ (v.aQ ψ) u:=by
 induction h with
 |b x=>exact .b _
 |i k n=>exact .i _ _
 |s l=>exact .s _
 |np=>exact .np
 |p b o h=>obtain ⟨h1,h2,_⟩:=hφ b h;rw [h1,h2];exact .p _ _ (hD b h)
 |ns=>exact .ns
 |sl b o len cap h=>obtain ⟨h1,h2,_⟩:=hφ b h;rw [h1,h2];exact .sl _ _ _ _ (hD b h)
 |sg b o len j cap h hj hc hl=>obtain ⟨h1,h2,h3,h4⟩:=hφ b h;rw [h1,h2];exact .sg _ _ _ j cap (hD b h) (by grind) (by omega) hl
 |fn f l cs hf hl h ih=>
  refine .fn _ _ cs hf (by grind [dJ]) (λi a u ha hu=> ?_)
  rw [dJ,dX,bK] at ha;obtain ⟨a',ha',rfl⟩:=ha;exact ih i a' u ha' hu
 |bm f l cs hf hl h ih=>
  refine .bm _ _ cs hf (by grind [dJ]) (λi a u ha hu=> ?_)
  rw [dJ,dX,bK] at ha;obtain ⟨a',ha',rfl⟩:=ha;exact ih i a' u ha' hu
 |nf=>exact .nf
 |ni=>exact .ni
 |m b h=>obtain ⟨h1,_⟩:=hφ b h;rw [h1];exact .m _ (hD b h)
 |nm=>exact .nm
 |agg l cs hl h ih=>
  refine .agg _ cs (by grind [dJ]) (λi a u ha hu=> ?_)
  rw [dJ,dX,bK] at ha;obtain ⟨a',ha',rfl⟩:=ha;exact ih i a' u ha' hu
 |bz l cs hl h ih=>
  refine .bz _ cs (by grind [dJ]) (λi a u ha hu=> ?_)
  rw [dJ,dX,bK] at ha;obtain ⟨a',ha',rfl⟩:=ha;exact ih i a' u ha' hu
 |fz l n B o cap vs hB hc hs h ih=>
  refine .fz _ _ B o cap vs (hz _ _ hB) hc (by grind [dJ]) (λi a u ha hu=> ?_)
  rw [dJ,dX,bK] at ha;obtain ⟨a',ha',rfl⟩:=ha;exact ih i a' u ha' hu
 |nS l x cap hc=>exact .nS _ _ _ hc
 |fp l k B o vs hB hs h ih=>
  refine .fp _ _ B o vs (hz _ _ hB) (by grind [dJ]) (λi a u ha hu=> ?_)
  rw [dJ,dX,bK] at ha;obtain ⟨a',ha',rfl⟩:=ha;exact ih i a' u ha' hu
 |ze x=>exact .ze _
 |en x cap=>exact .en _ _
 |any u=>exact .any _
 |k t u=>exact .k _ _
 |yl L r ts l hL h ih=>
  refine .yl _ _ _ _ (hl _ _ hL) (λi t a ht ha=> ?_);rw [dJ,dX,bK] at ha;obtain ⟨a',ha',rfl⟩:=ha;exact ih i t a' ht ha'
def bp.aQ (ψ:Nat->Nat) (k:bp):bp:={k with cells:=aS ψ k.cells}
structure Wk (n0:Nat) (ψ:Nat->Nat) (e:Env) (h:Hp) (n:Nat) (e2:Env) (h2:Hp) (n2:Nat):Prop where
 OE:n0<=n2
 fix: ∀b,b<n0->ψ b=b
 env: ∀t v,bC e2 t=some v->bC e t=some (v.aQ ψ)/\v.aj n2=true
 heap: ∀b k,aa h2 b=some k->aa h (ψ b)=some (k.aQ ψ)/\ab n2 k.cells=true/\b<n2
 inj: ∀b1 b2 k1 k2,aa h2 b1=some k1->aa h2 b2=some k2->k1.ro=false->ψ b1=ψ b2->b1=b2
theorem Rel.weaken {m:Nat×List Deferred} {D:Nat->Prop} {φ:bP} {ψ:Nat->Nat} {n0 n n2 N:Nat} {e e2:Env} {h h2:Hp} {a:Act} {w:World} {D0:Nat->Prop} {φ0:bP} {H0:Hf} {w0:World} (hW:Wk n0 ψ e h n e2 h2 n2) (hn0: ∀b,D0 b->b<n0)
 (hR:Rel D φ e h n N m a w) (hS:dU D0 φ0 H0 w0 D φ (aa h) w):
 Rel (λb=>b<n2/\D (ψ b)) (φ.comp ψ) e2 h2 n2 N m a w/\dU D0 φ0 H0 w0 (λb=>b<n2/\D (ψ b)) (φ.comp ψ) (aa h2) w:=by
 have hheap:HR (λb=>b<n2/\D (ψ b)) (φ.comp ψ) (aa h2) w:=by
  refine ⟨⟨λb k hb=> ?_,λb1 b2 k1 k2 hne h1 h2' hk=> ?_⟩,hR.heap.fz,hR.heap.lp,λb k B vs hb hk hB=>hR.heap.lS (ψ b) (k.aQ ψ) B vs (hW.heap b k hb).1 hk hB⟩
  ·obtain ⟨g1,g2,g3⟩:=hW.heap b k hb;obtain ⟨hd,⟨⟨cs,elem,fr,q1,q2,q3,q4⟩,q5⟩⟩:=hR.heap.at_ (ψ b) _ g1;refine ⟨⟨g3,hd⟩,⟨⟨cs,elem,fr,q1,λi v hv=> ?_,q3,q4⟩,q5⟩⟩;obtain ⟨u,hu,hr⟩:=q2 i (v.aQ ψ) (by simp [bp.aQ,dJ,hv])
   exact ⟨u,hu,hr.FV v rfl (cE g2 v (bJ hv))⟩
  ·obtain ⟨g1,_,_⟩:=hW.heap b1 k1 h1;obtain ⟨g2,_,_⟩:=hW.heap b2 k2 h2';exact hR.heap.sep (ψ b1) (ψ b2) _ _ (λe=>hne (hW.inj b1 b2 k1 k2 h1 h2' hk e)) g1 g2 hk
 refine ⟨⟨λb hb=>hb.1,λt v hv=> ?_,hheap,hR.size,hR.defers⟩,⟨λb hb=> ?_,⟨λb hb=> ?_,hS.agree.fz,hS.agree.lp⟩,hheap,hS.eF,λb k hb hk=> ?_,hS.kj⟩⟩
 ·obtain ⟨g1,g2⟩:=hW.env t v hv;exact (hR.env t _ g1).FV v rfl g2
 ·have:=hn0 b hb;exact ⟨C1 this hW.OE,by rw [hW.fix b this];exact hS.sub b hb⟩
 ·have:=hn0 b hb;simp only [bP.comp,hW.fix b this];exact hS.agree.at_ b hb
 ·obtain ⟨g1,_,_⟩:=hW.heap b k hb;exact hS.qL (ψ b) _ g1 hk
theorem WP.weaken {P:Program} {N n0:Nat} {c:Code} {K:bX} {ψ:Nat->Nat} {e e2:Env} {h h2:Hp} {n n2:Nat} (hW:Wk n0 ψ e h n e2 h2 n2) (hw:WP P N n0 c K e2 h2 n2):WP P N n0 c K e h n:=
 λro hro B D0 φ0 H0 w0 h1 h2 D φ a w hR hS=>
  let ⟨hR',hS'⟩:=Rel.weaken hW h1 hR hS
  hw ro hro B D0 φ0 H0 w0 h1 hW.OE _ _ a w hR' hS'
theorem Loop.XZ {F:Fx} {c:bb} {K:bX} {X:Type} (I:X->Env×Hp×Nat) (μ:X->Nat) {e:Env} {h:Hp} {n:Nat} (x0:X) (ψ0:Nat->Nat)
 (h0:Wk F.n0 ψ0 e h n (I x0).1 (I x0).2.1 (I x0).2.2)
 (round: ∀x c',bt F.P F.ct F.N c'=c->WP F.P F.N F.n0 c' (fR K λe' h' n'=> ∃x' ψ,Wk F.n0 ψ e' h' n' (I x').1 (I x').2.1 (I x').2.2/\μ x'<μ x) (I x).1 (I x).2.1 (I x).2.2):
 Loop F.P F.ct F.N F.n0 c K e h n:=by
 intro c' hc';have hround:=λx=>round x c' hc';intro ro hro B D0 φ0 H0 w0 h1 h2 D φ a w hR hS;intro b k cs hro' hb hr;have key: ∀m x,μ x=m-> ∀D φ a w,Rel D φ (I x).1 (I x).2.1 (I x).2.2 F.N (w0.heap.size,B) a w->dU D0 φ0 H0 w0 D φ (aa (I x).2.1) w->F.n0<=(I x).2.2→
  ∃ex a' w',pw F.N F.n0 B D0 φ0 H0 w0 K ex a' w'/\ArrivesIn (Machine.fenced F.P (Fw ro)) F.P (lone (b.atR a (.code c':: .inLoop c'::k)) cs w) b k cs ex a' w':=by
  intro m;induction m using Nat.strongRecOn with
  |_ m ih=>
   intro x hx D φ a w hR hS hn;obtain ⟨ex,a1,w1,hq,harr⟩:=hround x ro hro B D0 φ0 H0 w0 h1 hn D φ a w hR hS b (.inLoop c'::k) cs hro' hb hr;obtain ⟨D',φ',e',h',n',hk,hn',hR',hS'⟩:=hq;cases ex with
   |normal=>
    obtain ⟨x',ψ,hW,hlt⟩:=hk;obtain ⟨hR2,hS2⟩:=Rel.weaken hW h1 hR' hS';obtain ⟨e2,a2,w2,hq2,harr2⟩:=ih (μ x') (hx▸hlt) x' rfl _ _ a1 w1 hR2 hS2 hW.OE;exact ⟨e2,a2,w2,hq2,.of_steps (StepsIn.trans harr (.one (fenced_calm hb hr rfl) stepR_inLoop)) harr2⟩
   |exit id=>exact ⟨_,a1,w1,⟨D',φ',e',h',n',hk,hn',hR',hS'⟩,.pass (x:= .inLoop c') rfl (λ_ _=> .inl (by simp)) harr⟩
   |goto l=>exact ⟨_,a1,w1,⟨D',φ',e',h',n',hk,hn',hR',hS'⟩,.pass (x:= .inLoop c') rfl (λ_ _=> .inl (by simp)) harr⟩
   |ret=>exact ⟨_,a1,w1,⟨D',φ',e',h',n',hk,hn',hR',hS'⟩,.pass (x:= .inLoop c') rfl (λ_ _=> .inl (by simp)) harr⟩
   |panic ch=>exact ⟨_,a1,w1,⟨D',φ',e',h',n',hk,hn',hR',hS'⟩,.pass (x:= .inLoop c') rfl (λ_ _=> .inl (by simp)) harr⟩
   |outgrown=>exact ⟨_,a1,w1,⟨D',φ',e',h',n',hk,hn',hR',hS'⟩,.pass (x:= .inLoop c') rfl (λ_ _=> .inl (by simp)) harr⟩
 obtain ⟨hR',hS'⟩:=Rel.weaken h0 h1 hR hS;obtain ⟨ex,a',w',hq,harr⟩:=key (μ x0) x0 rfl _ _ a w hR' hS' h0.OE;exact ⟨ex,a',w',hq,.of_steps (.one (fenced_calm hb hr rfl) stepR_loop) harr⟩
theorem Loop.inv {F:Fx} (hcx:Sound F.P F.cx) (hm:F.P.follows .mixedOrders=true) {c:bb} {K:bX} {X:Type} (I:X->Env×Hp×Nat) (μ:X->Nat) {e:Env} {h:Hp} {n:Nat} (x0:X) (ψ0:Nat->Nat)
 (h0:Wk F.n0 ψ0 e h n (I x0).1 (I x0).2.1 (I x0).2.2)
 (round: ∀x,iw F c (fR K λe' h' n'=> ∃x' ψ,Wk F.n0 ψ e' h' n' (I x').1 (I x').2.1 (I x').2.2/\μ x'<μ x) (I x).1 (I x).2.1 (I x).2.2):
 Loop F.P F.ct F.N F.n0 c K e h n:=
 Loop.XZ I μ x0 ψ0 h0 (λx c' hc'=>gZ F hcx hm c' _ _ _ _ (by grind))
end Go.Ab
namespace Go.Ab
inductive mS where
 |t (n:Nat)
 |c (n:Nat) (agg:Bool) (sz:Nat)
structure cZ where
 np:Nat
 N:Nat
 ct:List Nat
 code:bb
 res:List mS
def jO (P:Program):List ResultVar->Option (List mS)
 |[]=>some []
 | .tmp t::r=>(jO P r).map (.t t:: ·)
 | .cell a t::r=>(eY P t).bind λg=>(fh P t).bind λz=>(jO P r).map (.c a g z:: ·)
def ah (P:Program) (fn:Func):Option cZ:=
 fn.body.bind λc=>(jO P fn.results.toList).bind λrs=>
  if (decide (fn.params.size+fn.nfree<=fn.ntmps)&&Nat.ble P.funcs.size YB)=true then some {np:=fn.params.size+fn.nfree,N:=fn.ntmps,ct:=db c,code:=bt P (db c) fn.ntmps c,res:=rs} else none
def lJ (e:Env) (h:Hp):List mS->Option (Bool×List AV)
 |[]=>some (true,[])
 | .t n::r=>(bC e n).bind λv=>(lJ e h r).bind λq=>some (q.1,v::q.2)
 | .c n agg z::r=>(bC e n).bind λv=>match v with
  | .p b o=>(jo h b).bind λk=>match agg with
   |true=>(lJ e h r).bind λq=>some (decide ((aD k.cells o z).length=z)&&q.1,.agg (aD k.cells o z)::q.2)
   |false=>(k.cells[o]?).bind λv=>(lJ e h r).bind λq=>some (q.1,v::q.2)
  |_=>none
def K7:List AV->AV
 |[v]=>v
 |l=> .bz l
def I3:List Value->Value
 |[u]=>u
 |l=> .tuple l.toArray
theorem Lx {D:Nat->Prop} {φ:bP}: ∀{l:List AV} {us:List Value},cw D φ l us->aK D φ (K7 l) (I3 us)
 |[],us,h=>by rw [h.mq];exact aK.Dc .nil
 |[v],us,h=>by
  obtain ⟨u,m,rfl,h1,h2⟩:=h.eB;rw [h2.mq];exact h1
 |x::y::l,us,h=>by
  obtain ⟨u,m,rfl,h1,h2⟩:=h.eB;obtain ⟨u',m',rfl,h3,h4⟩:=h2.eB;exact aK.Dc (.cons h1 (.cons h3 h4))
def vh (rs:List mS) (e:Env) (h:Hp):Option (Bool×AV):=
 (lJ e h rs).bind λq=>some (q.1,K7 q.2)
mutual
theorem AV.zb {ψ χ:Nat->Nat} {m:Nat} (hψ: ∀b,b<m->ψ b=χ b): ∀v:AV,v.aj m=true->v.aQ ψ=v.aQ χ
 | .p b o,h=>by simp only [AV.aQ,hψ b (jg h)]
 | .sl b o l c,h=>by simp only [AV.aQ,hψ b (jg h)]
 | .sg b o l,h=>by simp only [AV.aQ,hψ b (jg h)]
 | .fn f l,h=>by simp only [AV.aQ,fu hψ l h]
 | .bm f l,h=>by simp only [AV.aQ,fu hψ l h]
 | .agg l,h=>by simp only [AV.aQ,fu hψ l h]
 | .bz l,h=>by simp only [AV.aQ,fu hψ l h]
 | .b x,_=>rfl
 | .i k n,_=>rfl
 | .s l,_=>rfl
 | .np,_=>rfl
 | .ns,_=>rfl
 | .nf,_=>rfl
 | .ni,_=>rfl
 | .fz l n,h=>by simp only [AV.aQ,fu hψ l h]
 | .fp l n,h=>by simp only [AV.aQ,fu hψ l h]
 | .ze,_=>rfl
 | .en,_=>rfl
 | .any,_=>rfl
 | .k _ _,_=>rfl
 | .m b,h=>by simp only [AV.aQ,hψ b (jg h)]
 | .nm,_=>rfl
 | .yl L r ts l,h=>by simp only [AV.aQ,fu hψ l h]
theorem fu {ψ χ:Nat->Nat} {m:Nat} (hψ: ∀b,b<m->ψ b=χ b): ∀l:List AV,ab m l=true->aS ψ l=aS χ l
 |[],_=>rfl
 |v::r,h=>by
  simp only [ab,ak] at h;simp only [aS,AV.zb hψ v h.1,fu hψ r h.2]
end
mutual
theorem AV.qu {ψ:Nat->Nat} {m:Nat} (hψ: ∀b,b<m->ψ b=b): ∀v:AV,v.aj m=true->v.aQ ψ=v
 | .p b o,h=>by simp only [AV.aQ,hψ b (jg h)]
 | .sl b o l c,h=>by simp only [AV.aQ,hψ b (jg h)]
 | .sg b o l,h=>by simp only [AV.aQ,hψ b (jg h)]
 | .fn f l,h=>by simp only [AV.aQ,gI hψ l h]
 | .bm f l,h=>by simp only [AV.aQ,gI hψ l h]
 | .agg l,h=>by simp only [AV.aQ,gI hψ l h]
 | .bz l,h=>by simp only [AV.aQ,gI hψ l h]
 | .b x,_=>rfl
 | .i k n,_=>rfl
 | .s l,_=>rfl
 | .np,_=>rfl
 | .ns,_=>rfl
 | .nf,_=>rfl
 | .ni,_=>rfl
 | .fz l n,h=>by simp only [AV.aQ,gI hψ l h]
 | .fp l n,h=>by simp only [AV.aQ,gI hψ l h]
 | .ze,_=>rfl
 | .en,_=>rfl
 | .any,_=>rfl
 | .k _ _,_=>rfl
 | .m b,h=>by simp only [AV.aQ,hψ b (jg h)]
 | .nm,_=>rfl
 | .yl L r ts l,h=>by simp only [AV.aQ,gI hψ l h]
theorem gI {ψ:Nat->Nat} {m:Nat} (hψ: ∀b,b<m->ψ b=b): ∀l:List AV,ab m l=true->aS ψ l=l
 |[],_=>rfl
 |v::r,h=>by
  simp only [ab,ak] at h;simp only [aS,AV.qu hψ v h.1,gI hψ r h.2]
end
def re (rs:List mS) (Q:AV->Hp->Nat->Prop):bX:=λex e h n=>
 match ex with
 | .normal=>gd (vh rs e h) λr=>r.1=true/\Q r.2 h n
 | .ret=>gd (vh rs e h) λr=>r.1=true/\Q r.2 h n
 |_=>False
def fx:Nat->List AV->Env
 |_,[]=>[]
 |i,v::r=>(i,v)::fx (i+1) r
theorem rW: ∀{l:List AV} {i t:Nat} {v:AV},bC (fx i l) t=some v->i<=t/\l[t-i]? =some v
 |[],_,_,_,h=>by simp [fx,bC] at h
 |x::l,i,t,v,h=>by
  simp only [fx,bC] at h;by_cases hit:t=i
  ·simp_all
  ·rw [bO hit] at h;obtain ⟨h1,h2⟩:=rW h
   grind
section
variable {P:Program} {D:Nat->Prop} {φ:bP} {w:World} {n N:Nat} {e:Env} {h:Hp} {a:Act}
theorem xW (ad:Addr) (w:World):(asAddr (.pointer (some ad))).run P w= .ok ad w:=rfl
def KV (tmps:Array Value):ResultVar->Sem Value
 | .tmp t=>pure (tmps.getD t undef)
 | .cell ad t=>do loadVar t (<-asAddr (tmps.getD ad undef))
theorem DU (fn:Func) (tmps:Array Value):results fn tmps=(do let vs <-fn.results.mapM (KV tmps);pure (if h:vs.size=1 then vs[0] else .tuple vs)):=rfl
theorem qM {m:Nat×List Deferred} (hR:Rel D φ e h n N m a w):
 ∀{rv:List ResultVar} {rs:List mS} {q:Bool×List AV},jO P rv=some rs->lJ e h rs=some q->q.1=true→
 ∃us:List Value,(rv.mapM (KV a.tmps)).run P w= .ok us w/\cw D φ q.2 us
 |[],rs,q,h1,h2,_=>by simp [jO] at h1;subst h1;simp [lJ] at h2;subst h2;exact ⟨[],by simp,.nil⟩
 | .tmp t::rv,rs,q,h1,h2,hq=>by
  simp only [jO] at h1;obtain ⟨rs',hrs,rfl⟩:=bK.1 h1;simp only [lJ,av,aI] at h2;obtain ⟨v,hv,q',hq',rfl⟩:=h2;obtain ⟨us,g1,g2⟩:=qM hR hrs hq' hq;refine ⟨a.tmps.getD t undef::us,?_,.cons (hR.env t v hv) g2⟩
  grind [List.mapM_cons,Sem.run_bind,KV,Sem.run_pure,Result.andThen_ok]
 | .cell ad t::rv,rs,q,h1,h2,hq=>by
  simp only [jO,av] at h1;obtain ⟨g,hg,z,hz,h1⟩:=h1;obtain ⟨rs',hrs,rfl⟩:=bK.1 h1;simp only [lJ,av] at h2;obtain ⟨v,hv,h2⟩:=h2;have hvr:=hR.env ad v hv;split at h2
  ·rename_i b o;simp only [av] at h2;obtain ⟨k,hk,h2⟩:=h2;obtain ⟨hk,hmp⟩:=dL hk;generalize hu:a.tmps.getD ad undef=u at hvr;cases hvr;cases g
   ·simp only [av,aI] at h2;obtain ⟨x,hx,q',hq',rfl⟩:=h2;obtain ⟨us,g1,g2⟩:=qM hR hrs hq' hq;obtain ⟨y,hy,hyr⟩:=HR.cell (P:=P) hR.heap hk hmp hx;refine ⟨y::us,?_,.cons hyr g2⟩;simp_all [loadVar,Sem.run_bind,iT,Result.andThen_ok,ei,List.mapM_cons,KV,xW]
   ·simp only [av,aI] at h2;obtain ⟨q',hq',rfl⟩:=h2;simp only [ak] at hq;obtain ⟨us,g1,g2⟩:=qM hR hrs hq' hq.2;obtain ⟨ys,hy,hyr⟩:=HR.row (P:=P) hR.heap hk hmp (bN hq.1);refine ⟨.agg ys.toArray::us,?_,.cons (aK.wb hyr) g2⟩;simp_all [loadVar,Sem.run_bind,iT,Result.andThen_ok,run_sizeOf,List.mapM_cons,KV,xW]
  ·cases h2
def cz (P:Program) (f:FuncId) (args:List AV) (h:Hp) (n:Nat) (pn:Option Value) (v:AV) (h':Hp) (n':Nat):Prop:=
 ∀D φ w (us:List Value),(∀b,D b->b<n)->HR D φ (aa h) w->cw D φ args us→
  tu P f us.toArray w λe w'=> ∃D' φ' u,e=HM pn u/\(∀b,D' b->b<n')/\aK D' φ' v u/\dU D φ (aa h) w D' φ' (aa h') w'
abbrev bG (P:Program) (f:FuncId) (args:List AV) (h:Hp) (n:Nat) (v:AV) (h':Hp) (n':Nat):Prop:=cz P f args h n none v h' n'
def EO (rs:List mS) (Q:Option Value->AV->Hp->Nat->Prop):bX:=λex e h n=>
 match ex with
 | .normal=>gd (vh rs e h) λr=>r.1=true/\Q none r.2 h n
 | .ret=>gd (vh rs e h) λr=>r.1=true/\Q none r.2 h n
 | .panic [en]=>en.recovered=false/\en.goexit=false/\Q (some en.v) (.bz []) h n
 |_=>False
theorem tI {rs:List mS} {Q:AV->Hp->Nat->Prop} {Q':Option Value->AV->Hp->Nat->Prop} (hq: ∀v h n,Q v h n->Q' none v h n) (ex:Exit) (e:Env) (h:Hp) (n:Nat) (hk:re rs Q ex e h n):EO rs Q' ex e h n:=by
 cases ex with
 |normal=>obtain ⟨r,h1,h2,h3⟩:=fD hk;show gd _ _;rw [h1];exact ⟨h2,hq _ _ _ h3⟩
 |ret=>obtain ⟨r,h1,h2,h3⟩:=fD hk;show gd _ _;rw [h1];exact ⟨h2,hq _ _ _ h3⟩
 |_=>exact hk.elim
def Ends (n0:Nat) (v:AV) (h:Hp) (n:Nat) (v2:AV) (h2:Hp) (n2:Nat):Prop:= ∃ψ,Wk n0 ψ [(0,v)] h n [(0,v2)] h2 n2
theorem FI {P:Program} {f:FuncId} {fn:Func} (hf:P.funcs[f]? =some fn) (hs:Nat.ble P.funcs.size YB=true):f≠YB:=λe=>by
 simp_all
theorem qf {P:Program} {f:FuncId} {fn:Func} {c:Code} {args:Array Value} {w:World} {R:Ending->World->Prop} (hf:P.funcs[f]? =some fn) (hb:fn.body=some c)
 (h:c.wpIn (Fw none) 0 P (bodyPostM (Fw none) 0 P fn R) {tmps:=args++Array.replicate (fn.ntmps-args.size) undef,defers:=[]} w):Calls P f args w R:=by
 have h1:CallsIn (Fw none) 0 P f args w R:=callsIn_of_wp_marks hf hb trivial h;have h2:CallsIn Fence.wide 0 P f args w R:=h1;exact callsIn_wide.1 h2
theorem tZ {P:Program} {fn:Func} {tmps:Array Value} {R:Ending->World->Prop} {m:Nat} {B:List Deferred} {u:FrameMode} (hu:u≠ .run) (S:World->Prop) (J5: ∀w D,S w->m<=D->w.heap[D]? =some (.deferred (some []))->S (w.putObj D (.deferred none)))
 (fin: ∀w,S w->LeavesInM (Fw none) 0 P fn tmps R B u w): ∀(ds:List Nat) (w:World),ds.Nodup->(∀D∈ds,m<=D/\w.heap[D]? =some (.deferred (some [])))->S w→
  LeavesInM (Fw none) 0 P fn tmps R ((ds.map λD=>{target:= .collected D,args:= #[]})++B) u w
 |[],w,_,_,h=>fin w h
 |D::ds,w,hn,hd,h=>by
  have h0:=hd D iQ;refine ⟨hu,.inl ⟨D,_,rfl,run_takeDeferred h0.2,tZ hu S J5 fin ds _ (tC.1 hn).2 (λE hE=>⟨(hd E (hJ _ hE)).1,?_⟩) (J5 w D h h0.1 h0.2)⟩⟩
  grind [tC,World.putObj_heap_other,hJ]
theorem rK {P:Program} {fn:Func} {R:Ending->World->Prop} {N n':Nat} {B:List Deferred} {u:FrameMode} {e':Env} {h':Hp} {D D':Nat->Prop} {φ φ':bP} {H:Hf} {a':Act} {w w':World} (hu:u≠ .run) (hR:Rel D' φ' e' h' n' N (w.heap.size,B) a' w') (hS:dU D φ H w D' φ' (aa h') w')
 (fin: ∀w',Rel D' φ' e' h' n' N (w.heap.size,B) {a' with defers:=B} w'->dU D φ H w D' φ' (aa h') w'->LeavesInM (Fw none) 0 P fn a'.tmps R B u w'):LeavesInM (Fw none) 0 P fn a'.tmps R a'.defers u w':=by
 obtain ⟨ds,h1,h2,h3⟩:=hR.defers;rw [h1];refine tZ (m:=w.heap.size) hu (λw'=>Rel D' φ' e' h' n' N (w.heap.size,B) {a' with defers:=B} w'/\dU D φ H w D' φ' (aa h') w') (λw1 D1 hs hm hd=> ?_) (λw' hs=>fin _ hs.1 hs.2) ds w' h2 h3 ⟨⟨hR.lt,hR.env,hR.heap,hR.size,Mk.nil⟩,hS⟩
 have hr:HR D' φ' (aa h') (w1.putObj D1 (.deferred none)):=hs.1.heap.same (λc cs elem fr hc=>by
  grind [World.putObj_heap_other]) (λc es clk hc=>by
  grind [World.putObj_heap_other]) (λL r' hL=>by
  have:=hs.1.heap.lp L r' hL
  grind [World.putObj_heap_other])
 exact ⟨⟨hs.1.lt,hs.1.env,hr,hs.1.size,Mk.nil⟩,hs.2.same hr rfl rfl rfl (by simp) (λc hc=>World.putObj_heap_other (by omega))⟩
theorem BD {P:Program} {fn:Func} {N n':Nat} {m:Nat×List Deferred} {rs:List mS} {q:Bool×AV} {e':Env} {h':Hp} {D':Nat->Prop} {φ':bP} {a':Act} {w':World} (hR':Rel D' φ' e' h' n' N m a' w') (hrs:jO P fn.results.toList=some rs) (hr:vh rs e' h'=some q) (hq:q.1=true):
 ∃u,(results fn a'.tmps).run P w'= .ok u w'/\aK D' φ' q.2 u:=by
 simp only [vh,av] at hr;obtain ⟨q',hq',hr⟩:=hr;simp only [aI] at hr;subst hr;obtain ⟨us',g1,g2⟩:=qM hR' hrs hq' hq;refine ⟨I3 us',?_,Lx g2⟩;rw [DU];simp only [Sem.run_bind];rw [Array.mapM_eq_mapM_toList];simp only [Sem.run_map];rw [g1];simp only [Result.andThen_ok,Sem.run_pure];congr 1
 match us' with
 |[]=>rfl
 |[u]=>rfl
 |_::_::_=>simp [I3]
theorem Db {n0 n n2:Nat} {v v2:AV} {h h2:Hp} {D D0:Nat->Prop} {φ φ0:bP} {H0:Hf} {w w0:World} {u:Value} (hW:Ends n0 v h n v2 h2 n2) (hD0: ∀b,D0 b->b<n0) (hD: ∀b,D b->b<n) (hv:aK D φ v u) (hH:HR D φ (aa h) w) (hS:dU D0 φ0 H0 w0 D φ (aa h) w):
 ∃D' φ',(∀b,D' b->b<n2)/\aK D' φ' v2 u/\dU D0 φ0 H0 w0 D' φ' (aa h2) w:=by
 obtain ⟨ψ,hW⟩:=hW;have hR2:Rel D φ [(0,v)] h n 1 (0,[]) {tmps:= #[u],defers:=[]} w:=by
  refine ⟨hD,λt x hx=> ?_,hH,rfl,Mk.nil⟩;simp only [bC] at hx;by_cases ht:t=0
  all_goals simp_all [bO]
 obtain ⟨hR3,hS3⟩:=Rel.weaken hW hD0 hR2 hS;exact ⟨_,_,hR3.lt,hR3.env 0 v2 (by simp [bC]),hS3⟩
def AZ (C:Nat->AV->Hp->Nat->AV->Hp->Nat->Prop):Prop:= ∀n0 v h n v2 h2 n2,C n0 v h n v2 h2 n2-> ∀(D:Nat->Prop) (φ:bP) (w:World) (D0:Nat->Prop) (φ0:bP) (H0:Hf) (w0:World) (u:Value),(∀b,D0 b->b<n0)->(∀b,D b->b<n)->aK D φ v u->HR D φ (aa h) w->dU D0 φ0 H0 w0 D φ (aa h) w→
 ∃D' φ',(∀b,D' b->b<n2)/\aK D' φ' v2 u/\dU D0 φ0 H0 w0 D' φ' (aa h2) w
theorem AZ.ends:AZ Ends:=λ_ _ _ _ _ _ _ hW D φ w D0 φ0 H0 w0 u h1 h2 h3 h4 h5=>Db hW h1 h2 h3 h4 h5
theorem cz.DR {C:Nat->AV->Hp->Nat->AV->Hp->Nat->Prop} (hC:AZ C) {f:FuncId} {fn:Func} {I:cZ} {args:List AV} {pn:Option Value} {v2:AV} {h2:Hp} {n2:Nat} (hf:P.funcs[f]? =some fn) (hI:ah P fn=some I) (hnp:args.length<=I.N)
 (hi: ∀c,bt P I.ct I.N c=I.code->WP P I.N n c (EO I.res λp v h' n'=>p=pn/\C n v h' n' v2 h2 n2) (fx 0 args) h n):cz P f args h n pn v2 h2 n2:=by
 intro D φ w us hD0 hH hargs;have hD: ∀b,(λb=>b<n) b->b<n:=λb hb=>hb;have hH:HR (λb=>b<n) φ (aa h) w:=hH.grow hD0;have hargs:cw (λb=>b<n) φ args us:=hargs.mono hD0 (cT.refl _ _);have hout: ∀D' φ' H' w',dU (λb=>b<n) φ (aa h) w D' φ' H' w'->dU D φ (aa h) w D' φ' H' w':=λD' φ' H' w' hs=>⟨λb hb=>hs.sub b (hD0 b hb),⟨λb hb=>hs.agree b (hD0 b hb),hs.agree.fz,hs.agree.lp⟩,hs.hr,hs.eF,hs.qL,hs.kj⟩;simp only [ah,av] at hI;obtain ⟨c,hc,rs,hrs,hI⟩:=hI;split at hI
 ·rename_i hle;rw [ak] at hle;have hfy:f≠YB:=FI hf hle.2;have hle:=bN hle.1;simp only [aI] at hI;subst hI;simp only at hi hnp;refine tu.of (qf hf hc ?_) hfy (qH hf hc);have hsz:(us.toArray++Array.replicate (fn.ntmps-us.toArray.size) undef).size=fn.ntmps:=by
   have:=hargs.1;simp;omega
  have hR:Rel (λb=>b<n) φ (fx 0 args) h n fn.ntmps (w.heap.size,[]) {tmps:=us.toArray++Array.replicate (fn.ntmps-us.toArray.size) undef,defers:=[]} w:=by
   refine ⟨hD,λt v hv=> ?_,hH,hsz,Mk.nil⟩;obtain ⟨_,hv'⟩:=rW hv;obtain ⟨u,hu,hr⟩:=hargs.get hv';have hlt:t<us.length:=by
    grind
   have:(us.toArray++Array.replicate (fn.ntmps-us.toArray.size) undef).getD t undef=u:=by
    simp_all [rG,Array.getElem?_append_left]
   grind
  have hw:=hi c rfl none (.inl rfl) [] _ φ (aa h) w hD (bx _) _ φ _ w hR (dU.refl hH);refine wpIn_mono hw (λex a' w' hp=> ?_);have fin:(∃D' φ' e' h' n',(gd (vh rs e' h') λr=>r.1=true/\none=pn/\C n r.2 h' n' v2 h2 n2)/\Rel D' φ' e' h' n' fn.ntmps (w.heap.size,[]) a' w'/\dU (λb=>b<n) φ (aa h) w D' φ' (aa h') w')→
   LeavesInM (Fw none) 0 P fn a'.tmps (λe w'=> ∃D' φ' u,e=HM pn u/\(∀b,D' b->b<n2)/\aK D' φ' v2 u/\dU D φ (aa h) w D' φ' (aa h2) w') a'.defers .returning w':=by
   rintro ⟨D',φ',e',h',n',hret,hR',hS'⟩;refine rK (by simp) hR' hS' (λw' hR' hS'=> ?_)
   obtain ⟨r,hr,hrc,rfl,hW⟩:=fD hret;obtain ⟨u,hres,hvr⟩:=BD hR' hrs hr hrc;obtain ⟨D3,φ3,k1,k2,k3⟩:=hC _ _ _ _ _ _ _ hW D' φ' w' _ φ _ w _ hD hR'.lt hvr hR'.heap hS';exact ⟨_,hres,_,_,_,rfl,k1,k2,hout _ _ _ _ k3⟩
  obtain ⟨D',φ',e',h',n',hk,hn',hR',hS'⟩:=hp;cases ex with
  |normal=>exact fin ⟨D',φ',e',h',n',hk,hR',hS'⟩
  |ret=>exact fin ⟨D',φ',e',h',n',hk,hR',hS'⟩
  |panic ch=>
   unfold EO at hk
   match ch,hk with
   |[en],hk=>
    obtain ⟨h1,h2,rfl,hW⟩:=hk;obtain ⟨v0,r0,g0⟩:=en;simp only at h1 h2;subst h1;subst h2;refine rK (by simp) hR' hS' (λw' hR' hS'=> ?_)
    obtain ⟨D3,φ3,k1,k2,k3⟩:=hC _ _ _ _ _ _ _ hW D' φ' w' _ φ _ w undef hD hR'.lt Cm hR'.heap hS';exact ⟨_,_,_,rfl,k1,k2,hout _ _ _ _ k3⟩
   |[],hk=>exact hk.elim
   |_::_::_,hk=>exact hk.elim
  |_=>exact hk.elim
 ·cases hI
theorem bG.of_wp {f:FuncId} {fn:Func} {I:cZ} {args:List AV} {v2:AV} {h2:Hp} {n2:Nat} (hf:P.funcs[f]? =some fn) (hI:ah P fn=some I) (hnp:args.length<=I.N)
 (hi: ∀c,bt P I.ct I.N c=I.code->WP P I.N n c (re I.res λv h' n'=>Ends n v h' n' v2 h2 n2) (fx 0 args) h n):bG P f args h n v2 h2 n2:=
 cz.DR AZ.ends hf hI hnp (λc hc=>(hi c hc).mono (tI λ_ _ _ h=>⟨rfl,h⟩))
theorem cz.dQ {f:FuncId} {fn:Func} {I:cZ} {cx:Cx} {args:List AV} {pn:Option Value} {v2:AV} {h2:Hp} {n2:Nat} (hcx:Sound P cx) (hm:P.follows .mixedOrders=true) (hf:P.funcs[f]? =some fn) (hI:ah P fn=some I) (hnp:args.length<=I.N)
 (hi:iw ⟨P,cx,I.ct,I.N,n⟩ I.code (EO I.res λp v h' n'=>p=pn/\Ends n v h' n' v2 h2 n2) (fx 0 args) h n):cz P f args h n pn v2 h2 n2:=
 cz.DR AZ.ends hf hI hnp (λc hc=>gZ ⟨P,cx,I.ct,I.N,n⟩ hcx hm c _ _ _ _ (by grind))
theorem bG.dQ {f:FuncId} {fn:Func} {I:cZ} {cx:Cx} {args:List AV} {v2:AV} {h2:Hp} {n2:Nat} (hcx:Sound P cx) (hm:P.follows .mixedOrders=true) (hf:P.funcs[f]? =some fn) (hI:ah P fn=some I) (hnp:args.length<=I.N)
 (hi:iw ⟨P,cx,I.ct,I.N,n⟩ I.code (re I.res λv h' n'=>Ends n v h' n' v2 h2 n2) (fx 0 args) h n):bG P f args h n v2 h2 n2:=
 bG.of_wp hf hI hnp (λc hc=>gZ ⟨P,cx,I.ct,I.N,n⟩ hcx hm c _ _ _ _ (by grind))
theorem Ends.pure {n0 n:Nat} {v:AV} {h:Hp} (hv:v.aj n0=true):Ends n0 v h n v [] n0:=by
 refine ⟨_root_.id,bx _,λ_ _=>rfl,λt x hx=> ?_,λb k hb=>by simp [aa] at hb,λb1 b2 k1 k2 hb=>by simp⟩
 grind [bC,AV.qu,_root_.id,bO]
theorem lR {h:Hp} {b:Nat} {k:bp} (hb:aa h b=some k):(b,k)∈h:=by
 induction h with
 |nil=>simp [aa] at hb
 |cons x h ih=>
  obtain ⟨c,j⟩:=x;simp only [aa] at hb;by_cases hc:b=c
  ·grind
  ·grind [bO,hJ]
theorem Ends.Sa {n0 n:Nat} {v:AV} {h h2:Hp} (hv:v.aj n0=true) (hh: ∀b k,(b,k)∈h2->aa h b=some k/\ab n0 k.cells=true/\b<n0):Ends n0 v h n v h2 n0:=by
 refine ⟨_root_.id,bx _,λ_ _=>rfl,λt x hx=> ?_,λb k hb=> ?_,λb1 b2 k1 k2 _ _ _ he=>he⟩
 ·grind [bC,AV.qu,_root_.id,bO]
 ·obtain ⟨h1,h2,h3⟩:=hh b k (lR hb);refine ⟨?_,h2,h3⟩;simp only [_root_.id,bp.aQ,gI (ψ:=_root_.id) (λ_ _=>rfl) k.cells h2];exact h1
theorem aA.wB {pn:Option Value} {f:FuncId} {argsL args:List AV} {hL hR h:Hp} {k kR n:Nat} {vR:AV} {E:bV} {ψ:Nat->Nat} (hc:Go.Ab.bH P f=true) (hft:cz P f argsL hL k pn vR hR kR) (hpn:E.pn=pn) (hk:k<=kR)
 (hbel:ab k argsL=true) (hcov: ∀b,b<k-> ∃kk,aa hL b=some kk) (hhb: ∀b kk,aa hL b=some kk->b<k/\ab k kk.cells=true) (hargs:args=aS ψ argsL)
 (hheap: ∀b kk,aa hL b=some kk->only (aa h) E.rd (ψ b)=some (kk.aQ ψ))
 (hinj: ∀b1 b2 k1 k2,aa hL b1=some k1->aa hL b2=some k2->k1.ro=false->ψ b1=ψ b2->b1=b2)
 (hn:E.n=n+(kR-k)) (hv:E.v=vR.aQ (λb=>if b<k then ψ b else n+(b-k)))
 (hmd: ∀b r,cy E.md b=some r->inl E.rd b=true) (hnw: ∀b kk,aa E.nw b=some kk->n<=b/\b<E.n)
 (hE: ∀c kk,E.app (only (aa h) E.rd) c=some kk-> ∃b kb,aa hR b=some kb/\b<kR/\c=(if b<k then ψ b else n+(b-k))/\kk=kb.aQ (λb=>if b<k then ψ b else n+(b-k))/\(kb.ro=true->b<k/\aa hL b=some kb)):aA P f args h n E:=by
 refine ⟨hc,by omega,hmd,hnw,λD φ w us hfresh hH hA=> ?_⟩
 subst hargs
 -- the callee's own names
 have hD: ∀b,(b<k/\D (ψ b))->b<k:=λb hb=>hb.1;have hHL:HR (λb=>b<k/\D (ψ b)) (φ.comp ψ) (aa hL) w:=by
  refine ⟨⟨λb kk hb=> ?_,λb1 b2 k1 k2 hne h1 h2 hro=> ?_⟩,hH.fz,hH.lp,λb kk B vs hb hk hB=>hH.lS (ψ b) (kk.aQ ψ) B vs (hheap b kk hb) hk hB⟩
  ·obtain ⟨g1,g2⟩:=hhb b kk hb;obtain ⟨hd,⟨⟨cs,elem,fr,q1,q2,q3,q4⟩,q5⟩⟩:=hH.at_ (ψ b) _ (hheap b kk hb);refine ⟨⟨g1,hd⟩,⟨⟨cs,elem,fr,q1,λi v hv=> ?_,q3,q4⟩,q5⟩⟩;obtain ⟨u,hu,hr⟩:=q2 i (v.aQ ψ) (by simp [bp.aQ,dJ,hv])
   exact ⟨u,hu,hr.FV v rfl (cE g2 v (bJ hv))⟩
  ·exact hH.sep (ψ b1) (ψ b2) _ _ (λe=>hne (hinj b1 b2 k1 k2 h1 h2 hro e)) (hheap b1 k1 h1) (hheap b2 k2 h2) hro
 have hAL:cw (λb=>b<k/\D (ψ b)) (φ.comp ψ) argsL us:=by
  rw [dJ] at hA;refine ⟨by simpa using hA.1,λi a u ha hu=> ?_⟩
  exact (hA.2 i (a.aQ ψ) u (by simp [ha]) hu).FV a rfl (cE hbel a (bJ ha))
 have hlt: ∀b,(b<k/\D (ψ b))->b<k:=λb hb=>hb.1;have hHL':HR (λb=>b<k) (φ.comp ψ) (aa hL) w:=hHL.grow hlt;refine (hft (λb=>b<k) (φ.comp ψ) w us (λb hb=>hb) hHL' (hAL.mono hlt (cT.refl _ _))).mono λe w' hx=> ?_;obtain ⟨D',φ',u,rfl,hD',hv',hS⟩:=hx;subst hpn;have hcovD: ∀b,b<k->D (ψ b):=λb hb=>by
  obtain ⟨kk,hkk⟩:=hcov b hb;exact (hHL.at_ b kk hkk).1.2
 -- back to the caller's
 let χ:Nat->Nat:=λb=>if b<k then ψ b else n+(b-k)
 let φ2:bP:={cI:=λc=>if n<=c/\c<E.n then φ'.cI (k+(c-n)) else φ.cI c,off:=λc=>if n<=c/\c<E.n then φ'.off (k+(c-n)) else φ.off c,cap:=λc=>if n<=c/\c<E.n then φ'.cap (k+(c-n)) else φ.cap c,fO:=λc=>if n<=c/\c<E.n then φ'.fO (k+(c-n)) else φ.fO c,fz:=φ'.fz,lp:=φ'.lp}
 have hDm: ∀c,D c->Dn D n E.n c:=λc hc=> .inl hc;have hag:cT D φ φ2:=⟨λc hc=>by
  grind,hS.agree.fz,hS.agree.lp⟩
 have hχD: ∀b,D' b->Dn D n E.n (χ b):=λb hb=>by
  have:=hD' b hb;by_cases hbk:b<k
  ·grind
  ·simp only [χ,hbk,dP];exact .inr ⟨by omega,by omega⟩
 have hφχ: ∀b,b<kR->φ'.cI b=φ2.cI (χ b)/\φ'.off b=φ2.off (χ b)/\φ'.cap b=φ2.cap (χ b)/\φ'.fO b=φ2.fO (χ b):=λb hb=>by
  by_cases hbk:b<k
  ·have h1: ¬(n<=ψ b/\ψ b<E.n):=λhh=>hfresh _ hh.1 hh.2 (hcovD b hbk);have h2:=hS.agree b hbk;simp only [χ,hbk,cM,φ2,h1,dP];exact h2
  grind
 refine ⟨u,φ2,rfl,?_,⟨hDm,hag,⟨⟨λc kk hc=> ?_,λc1 c2 k1 k2 hne h1 h2 hro=> ?_⟩,hS.hr.fz,hS.hr.lp,λc kk B vs hc hro hB=> ?_⟩,⟨hS.eF.os,hS.eF.tape,hS.eF.output,hS.eF.size,λc hc hno=>hS.eF.block c hc (λb kb hb hro=> ?_)⟩,λc kk hc hro=> ?_,λB vs hB=> ?_⟩,λc kk hc hro=> ?_⟩
 ·rw [hv];exact hv'.aQ hχD (λb hb=>hφχ b (hD' b hb)) (λ_ _ h=>h) (λ_ _ h=>h)
 ·obtain ⟨b,kb,g1,g2,rfl,rfl,g5⟩:=hE c kk hc;obtain ⟨hd,⟨⟨cs,elem,fr,q1,q2,q3,q4⟩,q5⟩⟩:=hS.hr.at_ b kb g1;obtain ⟨f1,f2,f3,f4⟩:=hφχ b g2;refine ⟨hχD b hd,⟨⟨cs,elem,fr,by rw [<-f1];exact q1,λi v hv=> ?_,λhr=>by rw [<-f2];exact q3 hr,λe he=>by rw [<-f2,<-f3,<-f4];exact q4 e he⟩,λg hg=>by rw [<-f1,<-f2];exact q5 g hg⟩⟩
  simp only [bp.aQ,dJ,dX,bK] at hv;obtain ⟨v',hv',rfl⟩:=hv;obtain ⟨u',hu',hr'⟩:=q2 i v' hv';exact ⟨u',by grind,hr'.aQ hχD (λb hb=>hφχ b (hD' b hb)) (λ_ _ h=>h) (λ_ _ h=>h)⟩
 ·obtain ⟨b1,kb1,g1,g2,rfl,rfl,_⟩:=hE c1 k1 h1;obtain ⟨b2,kb2,g3,g4,rfl,rfl,_⟩:=hE c2 k2 h2;have e1:=(hφχ b1 g2).1;have e2:=(hφχ b2 g4).1;show φ2.cI (χ b1)≠φ2.cI (χ b2);rw [<-e1,<-e2];exact hS.hr.sep b1 b2 kb1 kb2 (λe=>hne (by rw [e])) g1 g3 hro
 ·obtain ⟨b,kb,g1,g2,rfl,rfl,_⟩:=hE c kk hc;show φ2.cI (χ b)≠B;rw [<-(hφχ b g2).1];exact hS.hr.lS b kb B vs g1 hro hB
 ·exact hno (ψ b) _ (hheap b kb hb) hro
 ·obtain ⟨b,kb,g1,g2,rfl,rfl,_⟩:=hE c kk hc;have e1:=(hφχ b g2).1;show w.heap.size<=φ2.cI (χ b)\/ ∃m km,only (aa h) E.rd m=some km/\km.ro=false/\φ.cI m=φ2.cI (χ b);rw [<-e1];rcases hS.qL b kb g1 hro with h1|⟨m,km,h1,h2,h3⟩
  ·exact .inl h1
  ·exact .inr ⟨ψ m,_,hheap m km h1,h2,h3⟩
 ·rcases hS.kj B vs hB with h1|h1|⟨m,km,h1,h2,h3⟩
  ·exact .inl h1
  ·omega
  ·exact .inr (.inr ⟨ψ m,_,hheap m km h1,h2,h3⟩)
 ·obtain ⟨b,kb,g1,g2,rfl,rfl,g5⟩:=hE c kk hc;obtain ⟨h1,h2⟩:=g5 hro;rw [aT h1,hheap b kb h2];congr 1;simp only [bp.aQ,bp.mk.injEq,e9]
  grind [fu]
theorem aA.Jw {f:FuncId} {argsL args:List AV} {hL hR h:Hp} {k kR n:Nat} {vR:AV} {E:bV} {ψ:Nat->Nat} (hc:Go.Ab.bH P f=true) (hft:bG P f argsL hL k vR hR kR) (hk:k<=kR)
 (hbel:ab k argsL=true) (hcov: ∀b,b<k-> ∃kk,aa hL b=some kk) (hhb: ∀b kk,aa hL b=some kk->b<k/\ab k kk.cells=true) (hargs:args=aS ψ argsL)
 (hheap: ∀b kk,aa hL b=some kk->only (aa h) E.rd (ψ b)=some (kk.aQ ψ))
 (hinj: ∀b1 b2 k1 k2,aa hL b1=some k1->aa hL b2=some k2->k1.ro=false->ψ b1=ψ b2->b1=b2)
 (hn:E.n=n+(kR-k)) (hv:E.v=vR.aQ (λb=>if b<k then ψ b else n+(b-k)))
 (hmd: ∀b r,cy E.md b=some r->inl E.rd b=true) (hnw: ∀b kk,aa E.nw b=some kk->n<=b/\b<E.n)
 (hE: ∀c kk,E.app (only (aa h) E.rd) c=some kk-> ∃b kb,aa hR b=some kb/\b<kR/\c=(if b<k then ψ b else n+(b-k))/\kk=kb.aQ (λb=>if b<k then ψ b else n+(b-k))/\(kb.ro=true->b<k/\aa hL b=some kb)) (hpn:E.pn=none:=by rfl):aA P f args h n E:=
 aA.wB hc hft hpn hk hbel hcov hhb hargs hheap hinj hn hv hmd hnw hE
end
end Go.Ab
