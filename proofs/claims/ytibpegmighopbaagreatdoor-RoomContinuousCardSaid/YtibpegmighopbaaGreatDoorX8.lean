/- Texts laid as one. -/
import Derived.Test.YtibpegmighopbaaGreatDoorX2
import Derived.ProofKit
import Derived.Carry
import Derived.RecoverIn
set_option maxRecDepth 100000
set_option maxHeartbeats 20000000
set_option linter.unusedSimpArgs false
set_option linter.unusedVariables false
namespace Go.Ab
@[congr] theorem gd_congr {α:Type} {x y:Option α} {k:α->Prop} (h:x=y):gd x k=gd y k:=by rw [h]
theorem MQ {α:Type} {a:α} {k:α->Prop}:gd (some a) k=k a:=(rfl)
@[congr] theorem bind_congr' {α β:Type} {x y:Option α} {k:α->Option β} (h:x=y):x.bind k=y.bind k:=by rw [h]
theorem rX {α β:Type} {a:α} {k:α->Option β}:(some a).bind k=k a:=(rfl)
def jx (c:Bool) (k:Prop):Prop:=c=true/\k
theorem Bq {k:Prop}:jx true k=k:=by simp [jx]
theorem js {c:Bool} {k:Prop} (h1:c=true) (h2:k):jx c k:=⟨h1,h2⟩
def l8 (cx:Cx) (o:j8) (e:Env) (h:Hp) (n:Nat):Option (Bool×Option Value×AV×Hp×Nat):=
 (cn cx o e h n).bind λr=>some (r.1,r.2.pn,r.2.v,r.2.fg h,r.2.n)
def Hv (x:Option (Bool×Option Value×AV×Hp×Nat)) (k:Bool->Option Value->AV->Hp->Nat->Prop):Prop:=
 match x with
 |some (c,p,v,h,n)=>k c p v h n
 |none=>False
@[congr] theorem gd4_congr {x y:Option (Bool×Option Value×AV×Hp×Nat)} {k:Bool->Option Value->AV->Hp->Nat->Prop} (h:x=y):Hv x k=Hv y k:=by rw [h]
theorem Lg {c:Bool} {p:Option Value} {v:AV} {h:Hp} {n:Nat} {k:Bool->Option Value->AV->Hp->Nat->Prop}:Hv (some (c,p,v,h,n)) k=k c p v h n:=(rfl)
theorem adr {K:bX} {e:Env} {h:Hp} {n:Nat} {k:Prop}:E3 none K e h n k=k:=(rfl)
theorem ac6 {u:Value} {K:bX} {e:Env} {h:Hp} {n:Nat} {k:Prop}:E3 (some u) K e h n k=K (.panic [{v:=u,recovered:=false}]) e h n:=(rfl)
def rH (cx:Cx) (un:List Nat) (i:Nat) (dn:List (Nat×bV)) (o:j8) (e:Env) (h:Hp) (n:Nat):Option (Bool×Option Value×AV×Hp×Nat×List (Nat×bV)):=
 (cn cx o e h n).bind λr=>some (r.1&&pq h n r.2&&ry un r.2 dn,r.2.pn,r.2.v,r.2.fg h,r.2.n,nK i r.2 dn)
def MI (x:Option (Bool×Option Value×AV×Hp×Nat×List (Nat×bV))) (k:Bool->Option Value->AV->Hp->Nat->List (Nat×bV)->Prop):Prop:=
 match x with
 |some (c,p,v,h,n,d)=>k c p v h n d
 |none=>False
@[congr] theorem gd5_congr {x y:Option (Bool×Option Value×AV×Hp×Nat×List (Nat×bV))} {k:Bool->Option Value->AV->Hp->Nat->List (Nat×bV)->Prop} (h:x=y):MI x k=MI y k:=by rw [h]
theorem Lb {c:Bool} {p:Option Value} {v:AV} {h:Hp} {n:Nat} {d:List (Nat×bV)} {k:Bool->Option Value->AV->Hp->Nat->List (Nat×bV)->Prop}:MI (some (c,p,v,h,n,d)) k=k c p v h n d:=(rfl)
theorem acT {un:List Nat} {os:List (bq×List Nat)} {K:bX} {e:Env} {h:Hp} {n:Nat} {k:Prop}:Gg none un os K e h n k=k:=(rfl)
theorem Z8 {u:Value} {K:bX} {e:Env} {h:Hp} {n:Nat} {k:Prop}:Gg (some u) [] [] K e h n k=K (.panic [{v:=u,recovered:=false}]) e h n:=by simp [Gg]
theorem xR {p:Option Value} {un:List Nat} {os:List (bq×List Nat)} {K K':bX} {e:Env} {h:Hp} {n:Nat} {k k':Prop} (hK: ∀ex e h n,K ex e h n->K' ex e h n) (hk:k->k') (hp:Gg p un os K e h n k):Gg p un os K' e h n k':=by
 cases p with
 |none=>exact hk hp
 |some u=>exact ⟨hp.1,hK _ _ _ _ hp.2⟩
def lT (v:AV) (b:Bool) (y n:Prop):Prop:=
 match v,b with
 | .b true,true=>y
 | .b false,false=>y
 | .b true,false=>n
 | .b false,true=>n
 | .bz [],_=>n
 |_,_=>False
theorem Kq {y n:Prop}:lT (.b true) true y n=y:=(rfl)
theorem I4 {y n:Prop}:lT (.b false) false y n=y:=(rfl)
theorem Ln {y n:Prop}:lT (.b true) false y n=n:=(rfl)
theorem KN {y n:Prop}:lT (.b false) true y n=n:=(rfl)
theorem Oi {b:Bool} {y n:Prop}:lT (.bz []) b y n=n:=by cases b<;>rfl
theorem F8 {e:Env} {t:Nat} {b:Bool} {k:Bool->Prop}:(gd (bC e t) λv=>lT v b (k true) (k false))->gd (jN e (some (t,b))) k:=λh=>by
 obtain ⟨v,hv,h⟩:=fD h;simp only [jN,hv];unfold lT at h;split at h
 ·exact h
 ·exact h
 ·exact h
 ·exact h
 ·exact h
 grind
def vL (v:AV) (y n:Prop):Prop:=
 match v with
 | .b true=>y
 | .b false=>n
 |_=>False
theorem PI {y n:Prop}:vL (.b true) y n=y:=(rfl)
theorem OI {y n:Prop}:vL (.b false) y n=n:=(rfl)
def kr (cx:Cx):List bq->Env->Hp->Nat->bX->Prop
 |[],e,h,n,K=>K .normal e h n
 |⟨d,o,none,s⟩::os,e,h,n,K=>Hv (l8 cx o e h n) λc p v h n=>jx c (E3 p K e h n (ic s v λv=>kr cx os (iu d v e) h n K))
 |⟨d,o,some (t,b),s⟩::os,e,h,n,K=>gd (bC e t) λv=>lT v b
  (Hv (l8 cx o e h n) λc p v h n=>jx c (E3 p K e h n (ic s v λv=>kr cx os (iu d v e) h n K)))
  (kr cx os (iu d (.bz []) e) h n K)
section
variable {cx:Cx} {d:Nat} {o:j8} {s:Bool} {os:List bq} {e:Env} {h:Hp} {n t:Nat} {b:Bool} {K:bX}
theorem Jh:kr cx [] e h n K=K .normal e h n:=(rfl)
theorem VE:kr cx (⟨some d,o,none,s⟩::os) e h n K=Hv (l8 cx o e h n) λc p v h n=>jx c (E3 p K e h n (ic s v λv=>kr cx os ((d,v)::e) h n K)):=(rfl)
theorem WL:kr cx (⟨none,o,none,s⟩::os) e h n K=Hv (l8 cx o e h n) λc p v h n=>jx c (E3 p K e h n (ic s v λ_=>kr cx os e h n K)):=(rfl)
theorem MZ:kr cx (⟨some d,o,some (t,b),s⟩::os) e h n K=gd (bC e t) λv=>lT v b (kr cx (⟨some d,o,none,s⟩::os) e h n K) (kr cx os ((d,.bz [])::e) h n K):=(rfl)
end
theorem x8 {p:Option Value} {K K':bX} {e:Env} {h:Hp} {n:Nat} {k k':Prop} (hK: ∀ex e h n,K ex e h n->K' ex e h n) (hk:k->k') (hp:E3 p K e h n k):E3 p K' e h n k':=by
 cases p with
 |none=>exact hk hp
 |some u=>exact hK _ _ _ _ hp
theorem JI {cx:Cx} {o:j8} {e:Env} {h:Hp} {n:Nat} {s:Bool} {K:bX} {k k':AV->Hp->Nat->Prop} (hr:Hv (l8 cx o e h n) λc p v h n=>jx c (E3 p K e h n (ic s v λv=>k v h n)))
 (hk: ∀{s v} {k k':AV->Prop},(∀v,k v->k' v)->ic s v k->ic s v k') (hkk: ∀v h n,k v h n->k' v h n):gd (cn cx o e h n) λr=>r.1=true/\E3 r.2.pn K e (r.2.fg h) r.2.n (ic s r.2.v λv=>k' v (r.2.fg h) r.2.n):=by
 unfold l8 at hr;cases hx:cn cx o e h n with
 |none=>rw [hx] at hr;exact hr.elim
 |some r=>rw [hx] at hr;exact ⟨hr.1,x8 (λ_ _ _ _ h=>h) (hk (λv hv=>hkk _ _ _ hv)) hr.2⟩
theorem jG {s:Bool} {v:AV} {k k':AV->Prop} (hk: ∀v,k v->k' v) (h:ic s v k):ic s v k':=by
 unfold ic at h ⊢;split
 ·exact ⟨λhc=>hk _ (h.1 hc),λhc=>hk _ (h.2 hc)⟩
 grind
theorem ie {α:Type} {x:Option α} {k k':α->Prop} (hk: ∀a,k a->k' a) (h:gd x k):gd x k':=by
 cases x with
 |none=>exact h
 |some a=>exact hk a h
theorem ft {cx:Cx}: ∀{l:List bq} {e:Env} {h:Hp} {n:Nat} {K:bX},kr cx l e h n K->iv cx l e h n K
 |[],e,h,n,K,hr=>hr
 |⟨d,o,none,s⟩::os,e,h,n,K,hr=>by
  simp only [kr] at hr;rw [iv];show gd (cn cx o e h n) _;exact JI hr jG (λv h n hv=>ft hv)
 |⟨d,o,some (t,b),s⟩::os,e,h,n,K,hr=>by
  simp only [kr] at hr;unfold iv;refine F8 (ie (λv hv=> ?_) hr);unfold lT at hv ⊢;split at hv<;>first
   |exact JI hv jG (λv h n hv=>ft hv)
   |exact ft hv
   |exact hv.elim
def rD (cx:Cx):List (bq×List Nat)->Nat->List (Nat×bV)->Env->Hp->Nat->bX->Prop
 |[],_,_,e,h,n,K=>K .normal e h n
 |(⟨d,o,none,s⟩,un)::os,i,dn,e,h,n,K=>MI (rH cx un i dn o e h n) λc p v h n dn=>jx c (Gg p un os K e h n (ic s v λv=>rD cx os (i+1) dn (iu d v e) h n K))
 |(⟨d,o,some (t,b),s⟩,un)::os,i,dn,e,h,n,K=>gd (bC e t) λv=>lT v b
  (MI (rH cx un i dn o e h n) λc p v h n dn=>jx c (Gg p un os K e h n (ic s v λv=>rD cx os (i+1) dn (iu d v e) h n K)))
  (rD cx os (i+1) dn (iu d (.bz []) e) h n K)
section
variable {cx:Cx} {d:Nat} {o:j8} {s:Bool} {un:List Nat} {os:List (bq×List Nat)} {e:Env} {h:Hp} {i n t:Nat} {dn:List (Nat×bV)} {b:Bool} {K:bX}
theorem Yf:rD cx [] i dn e h n K=K .normal e h n:=(rfl)
theorem ahM:rD cx ((⟨some d,o,none,s⟩,un)::os) i dn e h n K=MI (rH cx un i dn o e h n) λc p v h n dn=>jx c (Gg p un os K e h n (ic s v λv=>rD cx os (i+1) dn ((d,v)::e) h n K)):=(rfl)
theorem ahW:rD cx ((⟨none,o,none,s⟩,un)::os) i dn e h n K=MI (rH cx un i dn o e h n) λc p v h n dn=>jx c (Gg p un os K e h n (ic s v λ_=>rD cx os (i+1) dn e h n K)):=(rfl)
theorem ac8:rD cx ((⟨some d,o,some (t,b),s⟩,un)::os) i dn e h n K=gd (bC e t) λv=>lT v b (rD cx ((⟨some d,o,none,s⟩,un)::os) i dn e h n K) (rD cx os (i+1) dn ((d,.bz [])::e) h n K):=(rfl)
end
theorem II {cx:Cx} {un:List Nat} {i:Nat} {dn:List (Nat×bV)} {o:j8} {e:Env} {h:Hp} {n:Nat} {s:Bool} {os:List (bq×List Nat)} {K:bX} {k k':AV->Hp->Nat->List (Nat×bV)->Prop} (hr:MI (rH cx un i dn o e h n) λc p v h n dn=>jx c (Gg p un os K e h n (ic s v λv=>k v h n dn)))
 (hkk: ∀v h n d,k v h n d->k' v h n d):gd (cn cx o e h n) λr=>(r.1&&pq h n r.2&&ry un r.2 dn)=true/\Gg r.2.pn un os K e (r.2.fg h) r.2.n (ic s r.2.v λv=>k' v (r.2.fg h) r.2.n (nK i r.2 dn)):=by
 unfold rH at hr;cases hx:cn cx o e h n with
 |none=>rw [hx] at hr;exact hr.elim
 |some r=>rw [hx] at hr;exact ⟨hr.1,xR (λ_ _ _ _ h=>h) (jG (λv hv=>hkk _ _ _ _ hv)) hr.2⟩
theorem lM {cx:Cx}: ∀{l:List (bq×List Nat)} {i:Nat} {dn:List (Nat×bV)} {e:Env} {h:Hp} {n:Nat} {K:bX},rD cx l i dn e h n K->qY cx l i dn e h n K
 |[],i,dn,e,h,n,K,hr=>hr
 |(⟨d,o,none,s⟩,un)::os,i,dn,e,h,n,K,hr=>by
  simp only [rD] at hr;rw [qY];show gd (cn cx o e h n) _;exact II (k':=λv h n dn=>qY cx os (i+1) dn (iu d v e) h n K) hr (λv h n dn hv=>lM hv)
 |(⟨d,o,some (t,b),s⟩,un)::os,i,dn,e,h,n,K,hr=>by
  simp only [rD] at hr;unfold qY;refine F8 (ie (λv hv=> ?_) hr);unfold lT at hv ⊢;split at hv<;>first
   |exact II (k':=λv h n dn=>qY cx os (i+1) dn (iu d v e) h n K) hv (λv h n dn hv=>lM hv)
   |exact lM hv
   |exact hv.elim
def jw (F:Fx):bb->bX->Env->Hp->Nat->Prop
 | .skip,K,e,h,n=>K .normal e h n
 | .dY ops,K,e,h,n=>kr F.cx ops e h n K
 | .jv ops,K,e,h,n=>rD F.cx ops 0 [] e h n K
 | .seq a b,K,e,h,n=>jw F a (fR K (jw F b K)) e h n
 | .cond c a b,K,e,h,n=>gd (c.ev e h) λv=>vL v (jw F a K e h n) (jw F b K e h n)
 | .block id c,K,e,h,n=>jw F c (iK id K) e h n
 | .loop c,K,e,h,n=>Loop F.P F.ct F.N F.n0 c K e h n
 | .scope c,K,e,h,n=>jw F c (Eo K) e h n
 | .pX g ps a b,K,e,h,n=>qb F.P F.ct F.N F.n0 g ps a b K e h n
 | .exit id,K,e,h,n=>K (.exit id) e h n
 | .ret,K,e,h,n=>K .ret e h n
 | .bad,_,_,_,_=>False
theorem iU {cx:Cx}: ∀{l:List bq} {e:Env} {h:Hp} {n:Nat} {K K':bX},(∀ex e h n,K ex e h n->K' ex e h n)->iv cx l e h n K->iv cx l e h n K'
 |[],e,h,n,K,K',hk,hr=>hk _ _ _ _ hr
 |o::os,e,h,n,K,K',hk,hr=>by
  simp only [iv] at hr ⊢;refine ie (λb hb=> ?_) hr;cases b
  ·exact iU hk hb
  ·exact ie (λr hr=>⟨hr.1,x8 hk (jG (λv hv=>iU hk hv)) hr.2⟩) hb
theorem uY {cx:Cx}: ∀{l:List (bq×List Nat)} {i:Nat} {dn:List (Nat×bV)} {e:Env} {h:Hp} {n:Nat} {K K':bX},(∀ex e h n,K ex e h n->K' ex e h n)->qY cx l i dn e h n K->qY cx l i dn e h n K'
 |[],i,dn,e,h,n,K,K',hk,hr=>hk _ _ _ _ hr
 |o::os,i,dn,e,h,n,K,K',hk,hr=>by
  obtain ⟨o,un⟩:=o;simp only [qY] at hr ⊢;refine ie (λb hb=> ?_) hr;cases b
  ·exact uY hk hb
  ·exact ie (λr hr=>⟨hr.1,xR hk (jG (λv hv=>uY hk hv)) hr.2⟩) hb
theorem Loop.mono {P:Program} {ct:List Nat} {N n0:Nat} {c:bb} {K K':bX} {e:Env} {h:Hp} {n:Nat} (hk: ∀ex e h n,K ex e h n->K' ex e h n) (hl:Loop P ct N n0 c K e h n):Loop P ct N n0 c K' e h n:=
 λc' hc=>(hl c' hc).mono hk
theorem qb.mono {P:Program} {ct:List Nat} {N n0:Nat} {g:cq} {ps:List Nat} {a b:bb} {K K':bX} {e:Env} {h:Hp} {n:Nat} (hk: ∀ex e h n,K ex e h n->K' ex e h n) (hl:qb P ct N n0 g ps a b K e h n):qb P ct N n0 g ps a b K' e h n:=
 λc' hc=>(hl c' hc).mono hk
theorem qC {F:Fx}: ∀{c:bb} {K K':bX} {e:Env} {h:Hp} {n:Nat},(∀ex e h n,K ex e h n->K' ex e h n)->iw F c K e h n->iw F c K' e h n:=by
 intro c;induction c with
 |skip=>intro K K' e h n hk hi;exact hk _ _ _ _ hi
 |dY ops=>intro K K' e h n hk hi;exact iU hk hi
 |jv ops=>intro K K' e h n hk hi;exact uY hk hi
 |seq a b iha ihb=>
  intro K K' e h n hk hi;exact iha (λex e h n hx=>by cases ex<;>first|exact ihb hk hx|exact hk _ _ _ _ hx) hi
 |cond c a b iha ihb=>
  intro K K' e h n hk hi;refine ie (λv hv=> ?_) hi;split at hv
  ·exact ⟨λhc=>iha hk (hv.1 hc),λhc=>ihb hk (hv.2 hc)⟩
  ·exact hv.elim
 |block id c ih=>
  intro K K' e h n hk hi;exact ih (λex e h n hx=>by
   cases ex with
   |exit i=>simp only [iK] at hx ⊢;split<;>rename_i hid<;>simp only [hid,cM,dP] at hx<;>exact hk _ _ _ _ hx
   |_=>exact hk _ _ _ _ hx) hi
 |loop c ih=>intro K K' e h n hk hi;exact Loop.mono hk hi
 |pX g ps a b=>intro K K' e h n hk hi;exact qb.mono hk hi
 |scope c ih=>intro K K' e h n hk hi;exact ih (λex e h n hx=>by cases ex<;>first|exact hx.elim|exact hk _ _ _ _ hx) hi
 |exit id=>intro K K' e h n hk hi;exact hk _ _ _ _ hi
 |ret=>intro K K' e h n hk hi;exact hk _ _ _ _ hi
 |bad=>intro K K' e h n hk hi;exact hi.elim
theorem aO {F:Fx}: ∀{c:bb} {K:bX} {e:Env} {h:Hp} {n:Nat},jw F c K e h n->iw F c K e h n:=by
 intro c;induction c with
 |skip=>intro K e h n hi;exact hi
 |dY ops=>intro K e h n hi;exact ft hi
 |jv ops=>intro K e h n hi;exact lM hi
 |seq a b iha ihb=>
  intro K e h n hi;have hi2:iw F a (fR K (jw F b K)) e h n:=iha hi;show iw F a (fR K (iw F b K)) e h n;exact qC (λex e h n hx=>by cases ex<;>first|exact ihb hx|exact hx) hi2
 |cond c a b iha ihb=>
  intro K e h n hi;simp only [jw] at hi;unfold iw;refine ie (λv hv=> ?_) hi;unfold vL at hv;split at hv
  ·exact ⟨λ_=>iha hv,λhc=>by cases hc⟩
  ·exact ⟨λhc=>Bool.noConfusion hc,λ_=>ihb hv⟩
  ·exact hv.elim
 |block id c ih=>intro K e h n hi;exact ih hi
 |loop c ih=>intro K e h n hi;exact hi
 |pX g ps a b=>intro K e h n hi;exact hi
 |scope c ih=>intro K e h n hi;exact ih hi
 |exit id=>intro K e h n hi;exact hi
 |ret=>intro K e h n hi;exact hi
 |bad=>intro K e h n hi;exact hi.elim
end Go.Ab
namespace Go.Ab
theorem HL {c:Nat} {k:AV} {r:Env} {b:Nat}:bC ((c,k)::r) b=if c=b then some k else bC r b:=by
 simp [bC]
theorem UD {h:Hp} {b:Nat}:jo h b=(aa h b).bind bp.F6:=(rfl)
@[simp] theorem eo {c:List AV} {r:Bool} {g i:Option Nat}:bp.F6 ⟨c,r,g,i,none⟩=some ⟨c,r,g,i,none⟩:=(rfl)
theorem qJ {c:Nat} {k:bp} {r:Hp} {b:Nat}:aa ((c,k)::r) b=if c=b then some k else aa r b:=by
 simp [aa]
theorem zW {c:Nat} {k x:bp} {r:Hp} {b:Nat}:iH ((c,k)::r) b x=if c=b then (c,x)::r else (c,k)::iH r b x:=by
 simp [iH]
theorem JJ {b:Nat}:oH [] b=[]:=(rfl)
theorem nI {c:Nat} {k:bp} {r:Hp} {b:Nat}:oH ((c,k)::r) b=if c=b then oH r b else (c,k)::oH r b:=by
 simp [oH]
theorem agq {e:Env} {h:Hp} {n:Nat}:(cq.t n).ev e h=bC e n:=(rfl)
theorem agZ {e:Env} {h:Hp} {v:AV}:(cq.c v).ev e h=some v:=(rfl)
theorem MX {e:Env} {h:Hp}:yM e h []=some []:=(rfl)
theorem Ma {e:Env} {h:Hp} {x:cq} {r:List cq}:yM e h (x::r)=(x.ev e h).bind λv=>(yM e h r).bind λvs=>some (v::vs):=(rfl)
theorem L6 {e:Env} {h:Hp}:th e h []=some []:=(rfl)
theorem Ie {e:Env} {h:Hp} {o z:Nat} {x:cq} {r:List (Nat×Nat×cq)}:th e h ((o,z,x)::r)=(x.ev e h).bind λv=>(th e h r).bind λvs=>some ((o,z,v)::vs):=(rfl)
theorem KI {pn:Option Value} {v:AV} {n:Nat} {rd:List Nat} {h:Hp}:(bV.mk v n rd [] [] pn).fg h=h:=(rfl)
theorem Jd {pn:Option Value} {v:AV} {n:Nat} {rd:List Nat} {x:Nat×bp} {h:Hp}:(bV.mk v n rd [] [x] pn).fg h=x::h:=(rfl)
theorem HU {pn:Option Value} {v:AV} {n:Nat} {rd:List Nat} {x y:Nat×bp} {h:Hp}:(bV.mk v n rd [] [x,y] pn).fg h=x::y::h:=(rfl)
theorem K6 {pn:Option Value} {v:AV} {n:Nat} {rd:List Nat} {b:Nat} {k:bp} {h:Hp}:(bV.mk v n rd [(b,some k)] [] pn).fg h=iH h b k:=(rfl)
theorem Ht {pn:Option Value} {v:AV} {n:Nat} {rd:List Nat} {b:Nat} {x:Nat×bp} {h:Hp}:(bV.mk v n rd [(b,none)] [x] pn).fg h=oH (x::h) b:=(rfl)
theorem ab7 {a b:Prop}:It true a b=a:=by simp [It]
theorem aaY {a b:Prop}:It false a b=b:=by simp [It]
theorem Zo {v:AV} {k:AV->Prop}:ic false v k=k v:=(rfl)
theorem W7 {k:AV->Prop}:ic true (.b true) k=k (.b true):=by simp [ic,It]
theorem Vp {k:AV->Prop}:ic true (.b false) k=k (.b false):=by simp [ic,It]
theorem Wc {c:Bool} {k:AV->Prop}:ic true (.b c) k=It c (k (.b true)) (k (.b false)):=(rfl)
section
variable {cx:Cx} {e:Env} {h:Hp} {n:Nat}
theorem aa4 {x:cq}:cn cx (.mv x) e h n=(x.ev e h).bind λv=>some (true,{v,n}):=(rfl)
def I9 (v:AV) (a b:Option (Bool×bV)):Option (Bool×bV):=match v with
 | .b true=>a
 | .b false=>b
 |_=>none
theorem OU {a b:Option (Bool×bV)}:I9 (.b true) a b=a:=(rfl)
theorem SS {a b:Option (Bool×bV)}:I9 (.b false) a b=b:=(rfl)
theorem NF {c a b:cq}:cn cx (.pick c a b) e h n=(c.ev e h).bind λv=>I9 v ((a.ev e h).bind λv=>some (true,{v,n})) ((b.ev e h).bind λv=>some (true,{v,n})):=(rfl)
theorem VV {z:List AV}:cn cx (.new z) e h n=some (true,{v:= .p n 0,n:=n+1,nw:=[(n,{cells:=z})]}):=(rfl)
theorem Vj {x:cq}:cn cx (.box x) e h n=(x.ev e h).bind λv=>some (!v.isAny,{v:= .p n 0,n:=n+1,nw:=[(n,{cells:=v.cells})]}):=(rfl)
theorem Jt {z:List AV} {ps:List (Nat×Nat×cq)}:cn cx (.build z ps) e h n=(th e h ps).bind λl=>(oC z l).bind λcs=>some (true,{v:= .agg cs,n}):=(rfl)
theorem Xp {z:List AV} {len:Nat} {ps:List (Nat×Nat×cq)}:cn cx (.ZX z len ps) e h n=(th e h ps).bind λl=>(oC z l).bind λcs=>some (true,{v:= .sl n 0 len len,n:=n+1,nw:=[(n,{cells:=cs})]}):=(rfl)
def Xd (v:AV) (k:Nat->Nat->Option (Bool×bV)):Option (Bool×bV):=match v with
 | .p b o=>k b o
 |_=>none
theorem U2 {b o:Nat} {k:Nat->Nat->Option (Bool×bV)}:Xd (.p b o) k=k b o:=(rfl)
def zk (v:AV) (k:Nat->Nat->Option (Bool×bV)) (kf:List AV->Nat->Option (Bool×bV)):Option (Bool×bV):=match v with
 | .p b o=>k b o
 | .fp l o=>kf l o
 |_=>none
theorem SG {b o:Nat} {k:Nat->Nat->Option (Bool×bV)} {kf:List AV->Nat->Option (Bool×bV)}:zk (.p b o) k kf=k b o:=(rfl)
theorem SC {l:List AV} {o:Nat} {k:Nat->Nat->Option (Bool×bV)} {kf:List AV->Nat->Option (Bool×bV)}:zk (.fp l o) k kf=kf l o:=(rfl)
def DO {α:Type} (v:AV) (kf:List AV->Nat->Option α) (kz:Option α) (k:AV->Option α):Option α:=match v with
 | .fz l n=>kf l n
 | .ze=>kz
 |v=>k v
section
variable {α:Type} {kf:List AV->Nat->Option α} {kz:Option α} {k:AV->Option α}
theorem IH {l:List AV} {n:Nat}:DO (.fz l n) kf kz k=kf l n:=(rfl)
theorem ac2:DO .ze kf kz k=kz:=(rfl)
theorem aaZ:DO .ns kf kz k=k .ns:=(rfl)
theorem adH {b o l c:Nat}:DO (.sl b o l c) kf kz k=k (.sl b o l c):=(rfl)
theorem Gh {b o l:Nat}:DO (.sg b o l) kf kz k=k (.sg b o l):=(rfl)
end
theorem Zu {z:Nat} {a:cq}:cn cx (.ld true z a) e h n=(a.ev e h).bind λv=>zk v (λb o=>(jo h b).bind λk=>some (decide ((aD k.cells o z).length=z),{v:= .agg (aD k.cells o z),n,rd:=[b]})) (λl o=>some (decide ((aD l o z).length=z),{v:= .agg (aD l o z),n})):=(rfl)
theorem Ye {z:Nat} {a:cq}:cn cx (.ld false z a) e h n=(a.ev e h).bind λv=>zk v (λb o=>(jo h b).bind λk=>(k.cells[o]?).bind λv=>some (true,{v,n,rd:=[b]})) (λl o=>(l[o]?).bind λv=>some (true,{v,n})):=(rfl)
def Nc (r:Bool) (k:Option (Bool×bV)):Option (Bool×bV):=match r with
 |true=>none
 |false=>k
theorem acp {k:Option (Bool×bV)}:Nc false k=k:=(rfl)
theorem aa3 {z:Nat} {a x:cq}:cn cx (.st z a x) e h n=(a.ev e h).bind λv=>Xd v λb o=>(jo h b).bind λk=>(x.ev e h).bind λy=>
 Nc k.ro (some (aL y.cells&&Nat.beq y.cells.length z&&decide (o+z<=k.cells.length),{v:= .bz [],n,rd:=[b],md:=[(b,some {k with cells:=eU k.cells o y.cells})]})):=(rfl)
def V9 (v:AV) (k:AV->Option (Bool×bV)):Option (Bool×bV):=match v with
 | .p b o=>k (.p b o)
 | .fn f l=>k (.fn f l)
 | .bm f l=>k (.bm f l)
 | .fp l o=>k (.fp l o)
 |_=>none
theorem Vg {b o:Nat} {k:AV->Option (Bool×bV)}:V9 (.p b o) k=k (.p b o):=(rfl)
theorem N5 {l:List AV} {o:Nat} {k:AV->Option (Bool×bV)}:V9 (.fp l o) k=k (.fp l o):=(rfl)
theorem Wp {x:cq}:cn cx (.ZH x) e h n=(x.ev e h).bind λv=>V9 v λv=>some (true,{v,n}):=(rfl)
theorem UI {op:BinOp} {x y:cq}:cn cx (.bin op x y) e h n=(x.ev e h).bind λa=>(y.ev e h).bind λb=>(bin op a b).bind λr=>some (r.1,{v:=r.2,n}):=(rfl)
theorem Vx {neg agg:Bool} {ks:List Kd} {x y:cq}:cn cx (.J4 neg agg ks x y) e h n=(x.ev e h).bind λa=>(y.ev e h).bind λb=>(J4 agg ks a b).bind λr=>some (true,{v:= .b (bif neg then !r else r),n}):=(rfl)
theorem Wa {neg:Bool} {k:Nat} {x y:cq}:cn cx (.Iz neg k x y) e h n=(x.ev e h).bind λa=>(y.ev e h).bind λb=>(Iz k a b).bind λr=>some (true,{v:= .b (bif neg then !r else r),n}):=(rfl)
def abl (v:AV) (k:Bool->Option (Bool×bV)):Option (Bool×bV):=match v with
 | .b c=>k c
 |_=>none
theorem UM {c:Bool} {k:Bool->Option (Bool×bV)}:abl (.b c) k=k c:=(rfl)
theorem Yv {x:cq}:cn cx (.not x) e h n=(x.ev e h).bind λv=>abl v λc=>some (true,{v:= .b !c,n}):=(rfl)
def Xo (v:AV) (k:IntKind->Int->Option (Bool×bV)):Option (Bool×bV):=match v with
 | .i t c=>k t c
 |_=>none
theorem X3 {t:IntKind} {c:Int} {k:IntKind->Int->Option (Bool×bV)}:Xo (.i t c) k=k t c:=(rfl)
theorem XM {x:cq}:cn cx (.neg x) e h n=(x.ev e h).bind λv=>Xo v λk m=>some (true,{v:= .i k (k.wrap (0-m)),n}):=(rfl)
theorem Xn {t:IntKind} {x:cq}:cn cx (.Dw t x) e h n=(x.ev e h).bind λv=>Xo v λk m=>some (true,{v:= .i t (t.wrap m),n}):=(rfl)
def JN (v:AV) (k:List UInt8->Option (Bool×bV)):Option (Bool×bV):=match v with
 | .s l=>k l
 |_=>none
theorem V1 {l:List UInt8} {k:List UInt8->Option (Bool×bV)}:JN (.s l) k=k l:=(rfl)
theorem Zb {x:cq}:cn cx (.b2s x) e h n=(x.ev e h).bind λv=>match v with
 | .ns=>some (true,{v:= .s [],n})
 | .fz l m=>(bytesOf (l.take m)).bind λs=>some (decide (s.length=m),{v:= .s s,n})
 |v=>(iG v).bind λq=>(jo h q.1).bind λk=>(bytesOf (aD k.cells q.2.1 q.2.2)).bind λl=>
  some (decide (l.length=q.2.2),{v:= .s l,n,rd:=[q.1]}):=(rfl)
theorem Y2 {f:FuncId} {caps:List cq}:cn cx (.mkm f caps) e h n=(yM e h caps).bind λl=>some (true,{v:= .bm f l,n}):=(rfl)
theorem W2 {f:FuncId} {caps:List cq}:cn cx (.N7 f caps) e h n=(yM e h caps).bind λl=>some (true,{v:= .fn f l,n}):=(rfl)
theorem Yg {x:cq} {lo hi:Option cq}:cn cx (.slS x lo hi) e h n=(x.ev e h).bind λv=>JN v λl=>da e h lo λlo=>da e h hi λhi=>
 some ((aM l.length l.length lo hi none).1,{v:= .s ((l.take (aM l.length l.length lo hi none).2.2.1).drop (aM l.length l.length lo hi none).2.1),n}):=(rfl)
theorem adx {off:Nat} {x:cq}:cn cx (.fa off x) e h n=(x.ev e h).bind λv=>zk v (λb o=>some (true,{v:= .p b (o+off),n})) (λl o=>some (true,{v:= .fp l (o+off),n})):=(rfl)
def acj (v:AV) (k:List AV->Option (Bool×bV)):Option (Bool×bV):=match v with
 | .agg l=>k l
 |_=>none
theorem Xj {l:List AV} {k:List AV->Option (Bool×bV)}:acj (.agg l) k=k l:=(rfl)
theorem O2 {m z:Nat} {x i:cq}:cn cx (.PV m z x i) e h n=(x.ev e h).bind λv=>(i.ev e h).bind λi=>(Dx i).bind λi=>zk v (λb o=>some (decide (0<=i/\i<m),{v:= .p b (o+i.toNat*z),n})) (λl o=>some (decide (0<=i/\i<m),{v:= .fp l (o+i.toNat*z),n})):=(rfl)
theorem Sk {z:Nat} {x i:cq}:cn cx (.uS z x i) e h n=(x.ev e h).bind λv=>(i.ev e h).bind λi=>(Dx i).bind λi=>DO v (λl len=>some (decide (0<=i/\i<len),{v:= .fp l (i.toNat*z),n})) none λv=>(iG v).bind λq=>
 some (decide (0<=i/\i<q.2.2),{v:= .p q.1 (q.2.1+i.toNat*z),n}):=by
 show (x.ev e h).bind _=_;congr 1;funext v;congr 1;funext i;congr 1;funext i;cases v<;>rfl
theorem Qs {m z:Nat} {x i:cq}:cn cx (.ixA m z false x i) e h n=(x.ev e h).bind λv=>(i.ev e h).bind λi=>(Dx i).bind λi=>acj v λl=>(l[i.toNat*z]?).bind λv=>some (decide (0<=i/\i<m),{v,n}):=(rfl)
theorem Vz {x i:cq}:cn cx (.oJ x i) e h n=(x.ev e h).bind λv=>(i.ev e h).bind λi=>(Dx i).bind λi=>JN v λl=>some (decide (0<=i/\i<l.length),{v:= .i .u8 ((l[i.toNat]?).getD 0).toNat,n}):=(rfl)
def aeQ (v:AV) (k:List AV->Option (Bool×bV)):Option (Bool×bV):=match v with
 | .bz l=>k l
 |_=>none
theorem Ws {l:List AV} {k:List AV->Option (Bool×bV)}:aeQ (.bz l) k=k l:=(rfl)
theorem Ym {x:cq} {i:Nat}:cn cx (.ext x i) e h n=(x.ev e h).bind λv=>aeQ v λl=>(l[i]?).bind λv=>some (true,{v,n}):=(rfl)
theorem RV {x:cq}:cn cx (.Ru x) e h n=(x.ev e h).bind λv=>JN v λl=>some (true,{v:= .i .i64 l.length,n}):=(rfl)
theorem GK {x:cq}:cn cx (.lh x) e h n=(x.ev e h).bind λv=>match v with
 | .ns=>some (true,{v:= .i .i64 0,n})
 | .fz _ len=>some (true,{v:= .i .i64 len,n})
 | .ze=>some (true,{v:= .i .i64 0,n})
 | .en=>some (true,{v:= .i .i64 0,n})
 |v=>(iG v).bind λq=>some (true,{v:= .i .i64 q.2.2,n}):=(rfl)
theorem ack {x:cq} {xs:List cq}:cn cx (.mn x xs) e h n=(x.ev e h).bind λv=>(VR v).bind λa=>(yM e h xs).bind λl=>(yJ a.1 a.2 l).bind λm=>some (true,{v:= .i a.1 m,n}):=(rfl)
theorem abk {x:cq} {xs:List cq}:cn cx (.mx x xs) e h n=(x.ev e h).bind λv=>(VR v).bind λa=>(yM e h xs).bind λl=>(yU a.1 a.2 l).bind λm=>some (true,{v:= .i a.1 m,n}):=(rfl)
def Nx (v:AV) (k km:FuncId->List AV->Option (Bool×bV)) (ky:AV->Option (Bool×bV)):Option (Bool×bV):=match v with
 | .fn g l=>k g l
 | .bm g l=>km g l
 | .yl L r ts l=>ky (.yl L r ts l)
 |_=>none
theorem Yp {g:FuncId} {l:List AV} {k km:FuncId->List AV->Option (Bool×bV)} {ky:AV->Option (Bool×bV)}:Nx (.fn g l) k km ky=k g l:=(rfl)
theorem VO {g:FuncId} {l:List AV} {k km:FuncId->List AV->Option (Bool×bV)} {ky:AV->Option (Bool×bV)}:Nx (.bm g l) k km ky=km g l:=(rfl)
theorem Yo {L:Nat} {r:Go.Loop} {ts:List Nat} {l:List AV} {k km:FuncId->List AV->Option (Bool×bV)} {ky:AV->Option (Bool×bV)}:Nx (.yl L r ts l) k km ky=ky (.yl L r ts l):=(rfl)
def HO (v:AV) (kn:Option (Bool×bV)) (k:TypeId->Value->Option (Bool×bV)):Option (Bool×bV):=match v with
 | .ni=>kn
 | .k t u=>k t u
 |_=>none
theorem VJ {kn:Option (Bool×bV)} {k:TypeId->Value->Option (Bool×bV)}:HO .ni kn k=kn:=(rfl)
theorem UE {t:TypeId} {u:Value} {kn:Option (Bool×bV)} {k:TypeId->Value->Option (Bool×bV)}:HO (.k t u) kn k=k t u:=(rfl)
def Jy {α:Type} (o:Option Nat) (f:Nat->Option α) (g:Option α):Option α:=match o with
 |some i=>f i
 |none=>g
theorem YG {α:Type} {i:Nat} {f:Nat->Option α} {g:Option α}:Jy (some i) f g=f i:=(rfl)
theorem UX {α:Type} {f:Nat->Option α} {g:Option α}:Jy none f g=g:=(rfl)
def R5 (kd:Nat) (k:AV) (b:Nat) (K:bp):Option (Nat×bp×bL×Option Nat):=match K.ro,K.gr,K.mp with
 |false,none,some ks=>match Nat.beq ks.kd kd with
  |true=>(ks.find k).bind λr=>some (b,K,ks,r)
  |false=>none
 |_,_,_=>none
def aeK (b n:Nat) (K:bp):Option (Bool×bV):=match K.ro,K.gr,K.mp with
 |false,none,some ks=>some (true,{v:= .i .i64 ks.len,n,rd:=[b]})
 |_,_,_=>none
theorem XK {b n:Nat} {c:List AV} {g:Option Nat} {ks:bL}:aeK b n ⟨c,false,none,g,some ks⟩=some (true,{v:= .i .i64 ks.len,n,rd:=[b]}):=(rfl)
def getM (v:AV) (f:Nat->Option (Bool×bV)):Option (Bool×bV):=match v with
 | .m b=>f b
 |_=>none
theorem VA {b:Nat} {f:Nat->Option (Bool×bV)}:getM (.m b) f=f b:=(rfl)
theorem Sq {x:cq}:cn cx (.Q5 x) e h n=(x.ev e h).bind λv=>getM v λb=>(aa h b).bind λK=>aeK b n K:=(rfl)
theorem Rf {kd b:Nat} {k:AV}:tT h kd (.m b) k=(aa h b).bind λK=>R5 kd k b K:=(rfl)
theorem Xf {b:Nat} {k:AV} {c:List AV} {g:Option Nat} {l:List Int}:R5 0 k b ⟨c,false,none,g,some (.i l)⟩=((bL.i l).find k).bind λr=>some (b,⟨c,false,none,g,some (.i l)⟩,.i l,r):=(rfl)
theorem Uv {b:Nat} {k:AV} {c:List AV} {g:Option Nat} {l:List (List UInt8)}:R5 1 k b ⟨c,false,none,g,some (.s l)⟩=((bL.s l).find k).bind λr=>some (b,⟨c,false,none,g,some (.s l)⟩,.s l,r):=(rfl)
theorem Wb {b:Nat} {k:AV} {c:List AV} {g:Option Nat} {l:List (Int×Int)}:R5 2 k b ⟨c,false,none,g,some (.a l)⟩=((bL.a l).find k).bind λr=>some (b,⟨c,false,none,g,some (.a l)⟩,.a l,r):=(rfl)
theorem XV {ks:bL}:cn cx (.Zl ks) e h n=some (true,{v:= .m n,n:=n+1,nw:=[(n,{cells:=[],mp:=some ks})]}):=(rfl)
theorem Yb {kd:Nat} {ok:Bool} {z:AV} {m k:cq}:cn cx (.mpG kd ok z m k) e h n=(m.ev e h).bind λm=>(k.ev e h).bind λk=>(tT h kd m k).bind λq=>Jy q.2.2.2
 (λi=>(q.2.1.cells[i]?).bind λv=>some (true,{v:=bif ok then .bz [v,.b true] else v,n,rd:=[q.1]})) (some (true,{v:=bif ok then .bz [z,.b false] else z,n,rd:=[q.1]})):=(rfl)
theorem Zr {kd:Nat} {m k x:cq}:cn cx (.ZA kd m k x) e h n=(m.ev e h).bind λm=>(k.ev e h).bind λk=>(x.ev e h).bind λx=>(tT h kd m k).bind λq=>Jy q.2.2.2
 (λi=>some (true,{v:= .bz [],n,rd:=[q.1],md:=[(q.1,some {q.2.1 with cells:=q.2.1.cells.set i x,mp:=some q.2.2.1})]}))
 (some (Nat.beq q.2.1.cells.length q.2.2.1.len,{v:= .bz [],n,rd:=[q.1],md:=[(q.1,some {q.2.1 with cells:=q.2.1.cells++[x],mp:=some (q.2.2.1.push k)})]})):=(rfl)
theorem Xg {kd:Nat} {m k:cq}:cn cx (.mpD kd m k) e h n=(m.ev e h).bind λm=>(k.ev e h).bind λk=>(tT h kd m k).bind λq=>Jy q.2.2.2
 (λi=>some (true,{v:= .bz [],n,rd:=[q.1],md:=[(q.1,some {q.2.1 with cells:=q.2.1.cells.eraseIdx i,mp:=some (q.2.2.1.del i)})]}))
 (some (true,{v:= .bz [],n,rd:=[q.1],md:=[(q.1,some {q.2.1 with cells:=q.2.1.cells,mp:=some q.2.2.1})]})):=(rfl)
theorem PX {l:List Int}:(bL.i l).len=l.length:=(rfl)
theorem Qq {l:List (List UInt8)}:(bL.s l).len=l.length:=(rfl)
theorem Sn {l:List Int} {k:IntKind} {x:Int}:(bL.i l).push (.i k x)= .i (l++[x]):=(rfl)
theorem P9 {l:List (List UInt8)} {x:List UInt8}:(bL.s l).push (.s x)= .s (l++[x]):=(rfl)
theorem Qz {l:List (Int×Int)}:(bL.a l).len=l.length:=(rfl)
theorem N3 {l:List (Int×Int)} {k k':IntKind} {x y:Int}:(bL.a l).push (.agg [.i k x,.i k' y])= .a (l++[(x,y)]):=(rfl)
theorem Od {l:List (Int×Int)} {j:Nat}:(bL.a l).del j= .a (l.eraseIdx j):=(rfl)
theorem W8 {t:TypeId} {x:cq}:cn cx (.ZU t x) e h n=(x.ev e h).bind λv=>(toV v).bind λu=>some (true,{v:= .k t u,n}):=(rfl)
theorem Zx {t:TypeId} {z:AV} {x:cq}:cn cx (.tas t z x) e h n=(x.ev e h).bind λv=>HO v (some (true,{v:= .bz [z,.b false],n})) λt' u=>if t'=t then (xS u).bind λv=>some (true,{v:= .bz [v,.b true],n}) else some (true,{v:= .bz [z,.b false],n}):=by
 show (x.ev e h).bind _=_;congr 1;funext v;cases v<;>try rfl
 rename_i t' u;simp only [HO];by_cases hb:t'=t
 ·simp_all [pe]
 grind [bO,pe]
theorem XH {neg:Bool} {x:cq}:cn cx (.ZK neg x) e h n=(x.ev e h).bind λv=>HO v (some (true,{v:= .b (!neg),n})) λ_ _=>some (true,{v:= .b neg,n}):=by
 simp only [cn,step];rfl
theorem YR {x:cq}:cn cx (.S6 x) e h n=(x.ev e h).bind λv=>HO v none λt u=>some (true,{v:= .bz [],n,pn:=some (.iface t u)}):=by
 simp only [cn];cases hx:x.ev e h with
 |none=>rfl
 |some v=>cases v<;>rfl
theorem OW {f:cq} {args:List cq}:cn cx (.call f args) e h n=(f.ev e h).bind λv=>Nx v (λg caps=>(yM e h args).bind λl=>cx g (l++caps) h n) (λg fs=>(yM e h args).bind λl=>cx g (fs++l) h n) λy=>(yM e h args).bind λl=>cx YB (y::l) h n:=by
 show (f.ev e h).bind _=_;congr 1
end
theorem LV {cx:Cx} {o:j8} {e:Env} {h:Hp} {n:Nat}:l8 cx o e h n=(cn cx o e h n).bind λr=>some (r.1,r.2.pn,r.2.v,r.2.fg h,r.2.n):=(rfl)
theorem Kz {cx:Cx} {un:List Nat} {i:Nat} {dn:List (Nat×bV)} {o:j8} {e:Env} {h:Hp} {n:Nat}:rH cx un i dn o e h n=(cn cx o e h n).bind λr=>some (r.1&&pq h n r.2&&ry un r.2 dn,r.2.pn,r.2.v,r.2.fg h,r.2.n,nK i r.2 dn):=(rfl)
theorem RN {pn:Option Value} {i:Nat} {v:AV} {n:Nat} {dn:List (Nat×bV)}:nK i (bV.mk v n [] [] [] pn) dn=dn:=(rfl)
theorem NY {pn:Option Value} {i:Nat} {v:AV} {n:Nat} {dn:List (Nat×bV)} {x:Nat} {rd:List Nat} {md:List (Nat×Option bp)} {nw:List (Nat×bp)}:nK i (bV.mk v n (x::rd) md nw pn) dn=(i,bV.mk v n (x::rd) md nw pn)::dn:=(rfl)
theorem Oo {pn:Option Value} {i:Nat} {v:AV} {n:Nat} {dn:List (Nat×bV)} {x:Nat×bp} {nw:List (Nat×bp)}:nK i (bV.mk v n [] [] (x::nw) pn) dn=(i,bV.mk v n [] [] (x::nw) pn)::dn:=(rfl)
theorem K4 {pn:Option Value} {h:Hp} {n:Nat} {v:AV} {m:Nat} {rd:List Nat} {md:List (Nat×Option bp)} {nw:List (Nat×bp)}:pq h n (bV.mk v m rd md nw pn)=(decide (n<=m)&&yW md rd&&Cu n m nw&&A9 h md):=(rfl)
theorem Ox {b:Nat}:inl [] b=false:=(rfl)
theorem jb {c b:Nat} {r:List Nat}:inl (c::r) b=if c=b then true else inl r b:=by
 simp only [inl];by_cases h:c=b
 all_goals simp_all
theorem Rw {F:Fx} {K:bX} {e:Env} {h:Hp} {n:Nat}:jw F .skip K e h n=K .normal e h n:=(rfl)
theorem X0 {F:Fx} {ops:List bq} {K:bX} {e:Env} {h:Hp} {n:Nat}:jw F (.dY ops) K e h n=kr F.cx ops e h n K:=(rfl)
theorem PU {F:Fx} {ops:List (bq×List Nat)} {K:bX} {e:Env} {h:Hp} {n:Nat}:jw F (.jv ops) K e h n=rD F.cx ops 0 [] e h n K:=(rfl)
theorem YV {F:Fx} {a b:bb} {K:bX} {e:Env} {h:Hp} {n:Nat}:jw F (.seq a b) K e h n=jw F a (fR K (jw F b K)) e h n:=(rfl)
theorem QM {F:Fx} {c:cq} {a b:bb} {K:bX} {e:Env} {h:Hp} {n:Nat}:jw F (.cond c a b) K e h n=gd (c.ev e h) λv=>vL v (jw F a K e h n) (jw F b K e h n):=(rfl)
theorem Jr {F:Fx} {i:Nat} {c:bb} {K:bX} {e:Env} {h:Hp} {n:Nat}:jw F (.block i c) K e h n=jw F c (iK i K) e h n:=(rfl)
theorem Ou {F:Fx} {c:bb} {K:bX} {e:Env} {h:Hp} {n:Nat}:jw F (.loop c) K e h n=Loop F.P F.ct F.N F.n0 c K e h n:=(rfl)
theorem QW {K:bX} {k:Env->Hp->Nat->Prop} {c:List PanicEntry} {e:Env} {h:Hp} {n:Nat}:fR K k (.panic c) e h n=K (.panic c) e h n:=(rfl)
theorem K3 {K:bX} {i:Nat} {c:List PanicEntry} {e:Env} {h:Hp} {n:Nat}:iK i K (.panic c) e h n=K (.panic c) e h n:=(rfl)
theorem NZ {F:Fx} {i:Nat} {K:bX} {e:Env} {h:Hp} {n:Nat}:jw F (.exit i) K e h n=K (.exit i) e h n:=(rfl)
theorem W0 {F:Fx} {K:bX} {e:Env} {h:Hp} {n:Nat}:jw F .ret K e h n=K .ret e h n:=(rfl)
theorem kW {K:bX} {k:Env->Hp->Nat->Prop} {e:Env} {h:Hp} {n:Nat}:fR K k .normal e h n=k e h n:=(rfl)
theorem O3 {K:bX} {k:Env->Hp->Nat->Prop} {e:Env} {h:Hp} {n:Nat}:fR K k .ret e h n=K .ret e h n:=(rfl)
theorem P0 {K:bX} {k:Env->Hp->Nat->Prop} {i:Nat} {e:Env} {h:Hp} {n:Nat}:fR K k (.exit i) e h n=K (.exit i) e h n:=(rfl)
theorem Kf {K:bX} {i:Nat} {e:Env} {h:Hp} {n:Nat}:iK i K .normal e h n=K .normal e h n:=(rfl)
theorem LF {K:bX} {i:Nat} {e:Env} {h:Hp} {n:Nat}:iK i K .ret e h n=K .ret e h n:=(rfl)
theorem jl {K:bX} {i j:Nat} {e:Env} {h:Hp} {n:Nat}:iK i K (.exit j) e h n=if j=i then K .normal e h n else K (.exit j) e h n:=(rfl)
theorem mu {c:Bool} {a b:Prop} (h1:c=true->a) (h2:c=false->b):It c a b:=⟨h1,h2⟩
theorem HT {e:Env} {h:Hp}:lJ e h []=some (true,[]):=(rfl)
theorem M4 {e:Env} {h:Hp} {n:Nat} {r:List mS}:lJ e h (.t n::r)=(bC e n).bind λv=>(lJ e h r).bind λq=>some (q.1,v::q.2):=(rfl)
def Tm (x:Option (Bool×AV)) (k:Bool->AV->Prop):Prop:=
 match x with
 |some (c,v)=>k c v
 |none=>False
@[congr] theorem gd2_congr {x y:Option (Bool×AV)} {k:Bool->AV->Prop} (h:x=y):Tm x k=Tm y k:=by rw [h]
theorem JV {c:Bool} {v:AV} {k:Bool->AV->Prop}:Tm (some (c,v)) k=k c v:=(rfl)
theorem BP {x:Option (Bool×AV)} {Q:AV->Prop}:(gd x λr=>r.1=true/\Q r.2)=Tm x λc v=>jx c (Q v):=by cases x<;>rfl
theorem YP {rs:List mS} {Q:AV->Hp->Nat->Prop} {e:Env} {h:Hp} {n:Nat}:re rs Q .normal e h n=Tm (vh rs e h) λc v=>jx c (Q v h n):=BP (Q:=λv=>Q v h n)
theorem Vo {rs:List mS} {Q:Option Value->AV->Hp->Nat->Prop} {e:Env} {h:Hp} {n:Nat}:EO rs Q .normal e h n=Tm (vh rs e h) λc v=>jx c (Q none v h n):=BP (Q:=λv=>Q none v h n)
theorem US {rs:List mS} {Q:Option Value->AV->Hp->Nat->Prop} {u:Value} {e:Env} {h:Hp} {n:Nat}:EO rs Q (.panic [{v:=u,recovered:=false}]) e h n=Q (some u) (.bz []) h n:=by simp [EO]
theorem VM {rs:List mS} {Q:AV->Hp->Nat->Prop} {e:Env} {h:Hp} {n:Nat}:re rs Q .ret e h n=Tm (vh rs e h) λc v=>jx c (Q v h n):=BP (Q:=λv=>Q v h n)
end Go.Ab
namespace Go.Ab
abbrev Ct:=List AV->Hp->Nat->Option (Bool×bV)
def cj:List (Nat×Ct)->Cx
 |[],_,_,_,_=>none
 |(g,k)::r,f,a,h,n=>if g=f then k a h n else cj r f a h n
theorem KS {g f:Nat} {k:Ct} {r:List (Nat×Ct)} {a:List AV} {h:Hp} {n:Nat}:cj ((g,k)::r) f a h n=if g=f then k a h n else cj r f a h n:=(rfl)
def ax (P:Program) (f:FuncId) (k:Ct):Prop:= ∀args h n c E,k args h n=some (c,E)->c=true->aA P f args h n E
theorem Sound.nil {P:Program}:Sound P (cj []):=λf args h n c E hc=>by cases hc
theorem Sound.cons {P:Program} {f:Nat} {k:Ct} {r:List (Nat×Ct)} (h1:ax P f k) (h2:Sound P (cj r)):Sound P (cj ((f,k)::r)):=λg args h n c E hc ht=>by
 simp only [cj] at hc;split at hc
 ·rename_i hg;subst hg;exact h1 _ _ _ _ _ hc ht
 ·exact h2 _ _ _ _ _ _ hc ht
theorem Ends.aw {n0 n:Nat} {v v2:AV} {h:Hp} (hv:v.aj n0=true) (he:v=v2):Ends n0 v h n v2 [] n0:=by grind [Ends.pure]
theorem aJ {ψ:Nat->Nat} (l:List AV) (h:ab 0 l=true):aS ψ l=l:=by
 grind [fu,_root_.id,absurd,gI]
theorem nb {ψ:Nat->Nat} (v:AV) (h:v.aj 0=true):v.aQ ψ=v:=by
 grind [AV.zb,_root_.id,absurd,AV.qu]
theorem aA.pure {P:Program} {f:FuncId} {args:List AV} {v:AV} (hc:Go.Ab.bH P f=true) (ha:ab 0 args=true) (hv:v.aj 0=true) (hf:bG P f args [] 0 v [] 0) (h:Hp) (n:Nat):aA P f args h n {v,n}:=by
 refine aA.Jw (ψ:=λb=>b) hc hf (bx _) ha (λb hb=>absurd hb (by omega)) (λb kk hb=>by simp [aa] at hb) (aJ _ ha).symm (λb kk hb=>by simp [aa] at hb) (λb1 b2 k1 k2 hb=>by simp) (by simp) (nb _ hv).symm
  (λb r hb=>by simp [cy] at hb) (λb kk hb=>by simp [aa] at hb) (λc kk hc=> ?_)
 simp [bV.app,cy,aa,only,inl] at hc
def lp (F:Fx) (c:bb) (K:bX):Nat->Env->Hp->Nat->Prop
 |0,_,_,_=>False
 |m+1,e,h,n=>jw F c (fR K (lp F c K m)) e h n
theorem PH {F:Fx} {c:bb} {K:bX} {m:Nat} {e:Env} {h:Hp} {n:Nat}:lp F c K (m+1) e h n=jw F c (fR K (lp F c K m)) e h n:=(rfl)
theorem Loop.rounds {F:Fx} (m:Nat) (hcx:Sound F.P F.cx) (hm:F.P.follows .mixedOrders=true) {c:bb} {K:bX} {e:Env} {h:Hp} {n:Nat}
 (hi:lp F c K m e h n):Loop F.P F.ct F.N F.n0 c K e h n:=by
 intro c' hc' ro hro B D0 φ0 H0 w0 h1 h2 D φ a w hR hS;refine wpIn_loop_rounds m ?_;induction m generalizing e h n D φ a w with
 |zero=>exact hi.elim
 |succ m ih=>
  have hw:WP F.P F.N F.n0 c' (fR K (lp F c K m)) e h n:=gZ F hcx hm c' _ _ _ _ (by rw [hc'];exact aO hi)
  refine wpIn_mono (hw ro hro B D0 φ0 H0 w0 h1 h2 D φ a w hR hS) (λex a' w' hp=> ?_);obtain ⟨D',φ',e',h',n',hk,hn',hR',hS'⟩:=hp;cases ex with
  |normal=>exact ih hk hn' D' φ' a' w' hR' hS'
  |exit id=>exact ⟨D',φ',e',h',n',hk,hn',hR',hS'⟩
  |goto l=>exact ⟨D',φ',e',h',n',hk,hn',hR',hS'⟩
  |ret=>exact ⟨D',φ',e',h',n',hk,hn',hR',hS'⟩
  |panic ch=>exact ⟨D',φ',e',h',n',hk,hn',hR',hS'⟩
  |outgrown=>exact ⟨D',φ',e',h',n',hk,hn',hR',hS'⟩
theorem HV {α:Type} {a:α} {l:List α} {i:Nat}:(a::l)[i]? =if i=0 then some a else l[i-1]? :=by
 grind
theorem Ed {α:Type} {a:α} {l:List α} {i:Nat}:(a::l).drop i=if i=0 then a::l else l.drop (i-1):=by
 cases i<;>simp
theorem DZ {α:Type} {a:α} {l:List α} {i:Nat}:(a::l).take i=if i=0 then [] else a::l.take (i-1):=by
 cases i<;>simp
theorem eu {a b:Nat}:Nat.beq a b=decide (a=b):=by
 by_cases h:a=b
 ·subst h;simp
 grind [bw,bO]
def Wo (v:AV) (k:Nat->Nat->Option (Bool×List AV)):Option (Bool×List AV):=match v with
 | .p b o=>k b o
 |_=>none
theorem U5 {b o:Nat} {k:Nat->Nat->Option (Bool×List AV)}:Wo (.p b o) k=k b o:=(rfl)
theorem Le {e:Env} {h:Hp} {n z:Nat} {r:List mS}:lJ e h (.c n true z::r)=(bC e n).bind λv=>Wo v λb o=>
 (jo h b).bind λk=>(lJ e h r).bind λq=>some (decide ((aD k.cells o z).length=z)&&q.1,.agg (aD k.cells o z)::q.2):=(rfl)
theorem JP {e:Env} {h:Hp} {n z:Nat} {r:List mS}:lJ e h (.c n false z::r)=(bC e n).bind λv=>Wo v λb o=>
 (jo h b).bind λk=>(k.cells[o]?).bind λv=>(lJ e h r).bind λq=>some (q.1,v::q.2):=(rfl)
def xA (z:List AV) (o sz:Nat) (v:AV):Option (List AV):=bif Nat.beq v.cells.length sz&&Nat.ble (o+sz) z.length&& !v.isAny then some (eU z o v.cells) else none
theorem HN {z:List AV}:oC z []=some z:=(rfl)
theorem DW {z:List AV} {o sz:Nat} {v:AV} {r:List (Nat×Nat×AV)}:oC z ((o,sz,v)::r)=(xA z o sz v).bind λz=>oC z r:=by
 grind [oC,xA,Nat.beq,Nat.ble]
theorem aa5 {a b:Nat}:Nat.ble a b=decide (a<=b):=by
 grind [af,Nat.ble_eq_true_of_le,bw,Nat.ble,absurd,Nat.le_of_ble_eq_true]
theorem vo {c c':Bool} {a a':Prop} (h:c=c') (h1:c'=true->a=a'):jx c a=jx c' a':=by
 grind [jx]
def iV (n:Nat) (e:Env):Env->Prop
 |[]=>True
 |(t,v)::r=>bC e t=some v/\v.aj n=true/\iV n e r
def mX (n:Nat) (h:Hp):Hp->Prop
 |[]=>True
 |(b,k)::r=>aa h b=some k/\ab n k.cells=true/\b<n/\mX n h r
theorem iV.get {n:Nat} {e:Env}: ∀{e2:Env},iV n e e2-> ∀t v,bC e2 t=some v->bC e t=some v/\v.aj n=true
 |[],_,t,v,h=>by simp [bC] at h
 |(s,u)::r,hi,t,v,h=>by
  simp only [bC] at h;by_cases hs:t=s
  ·subst hs;simp at h;subst h;exact ⟨hi.1,hi.2.1⟩
  ·rw [bO hs] at h;exact iV.get hi.2.2 t v h
theorem mX.get {n:Nat} {h:Hp}: ∀{h2:Hp},mX n h h2-> ∀b k,aa h2 b=some k->aa h b=some k/\ab n k.cells=true/\b<n
 |[],_,t,v,h=>by simp [aa] at h
 |(s,u)::r,hi,t,v,h=>by
  simp only [aa] at h;by_cases hs:t=s
  ·subst hs;simp at h;subst h;exact ⟨hi.1,hi.2.1,hi.2.2.1⟩
  ·rw [bO hs] at h;exact mX.get hi.2.2.2 t v h
theorem Wk.Sa {n0 n n2:Nat} {e e2:Env} {h h2:Hp} (hn:n0<=n2) (he:iV n2 e e2) (hh:mX n2 h h2):Wk n0 _root_.id e h n e2 h2 n2:=by
 refine ⟨hn,λ_ _=>rfl,λt v ht=> ?_,λb k hb=> ?_,λb1 b2 k1 k2 _ _ _ he=>he⟩
 ·obtain ⟨h1,h2⟩:=he.get t v ht
  grind [AV.qu,_root_.id]
 ·obtain ⟨h1,h2,h3⟩:=hh.get b k hb;refine ⟨?_,h2,h3⟩;simp only [_root_.id,bp.aQ,gI (ψ:=_root_.id) (λ_ _=>rfl) k.cells h2];exact h1
attribute [go_sem] iV mX
theorem agI {a b:Nat}:Nat.min a b=if a<=b then a else b:=(rfl)
theorem DX {b o l c:Nat}:iG (.sl b o l c)=some (b,o,l):=(rfl)
theorem E8 {b o l:Nat}:iG (.sg b o l)=some (b,o,l):=(rfl)
theorem Cg:bytesOf []=some []:=(rfl)
theorem Ai {n:Int} {r:List AV}:bytesOf (.i .u8 n::r)=(bytesOf r).bind λl=>some (UInt8.ofNat n.toNat::l):=(rfl)
theorem aec {k:IntKind} {n:Int}:Dx (.i k n)=some n:=(rfl)
theorem abG {n:Int}:Mw (.i .i64 n)=some n:=(rfl)
theorem Kr {k:IntKind} {a:Int}:yJ k a []=some a:=(rfl)
theorem Hb {k:IntKind} {a y:Int} {r:List AV}:yJ k a (.i k y::r)=yJ k (min a y) r:=by
 simp only [yJ,cM]
 grind
theorem Je {k:IntKind} {a:Int}:yU k a []=some a:=(rfl)
theorem HC {k:IntKind} {a y:Int} {r:List AV}:yU k a (.i k y::r)=yU k (max a y) r:=by
 simp only [yU,cM]
 grind
theorem adg {k:IntKind} {n:Int}:VR (.i k n)=some (k,n):=(rfl)
theorem lx {α:Type} {e:Env} {h:Hp} {k:Option Int->Option α}:da e h none k=k none:=(rfl)
theorem sf {α:Type} {e:Env} {h:Hp} {x:cq} {k:Option Int->Option α}:da e h (some x) k=(x.ev e h).bind λv=>(Dx v).bind λn=>k (some n):=(rfl)
def iO (k:IntKind) (a b:Int):Int:=k.wrap (BitVec.ofInt k.bits a &&& BitVec.ofInt k.bits b).toNat
def ZJ (k:IntKind) (a b:Int):Int:=k.wrap (BitVec.ofInt k.bits a ||| BitVec.ofInt k.bits b).toNat
def Gm (k:IntKind) (a b:Int):Int:=k.wrap (BitVec.ofInt k.bits a &&& ~~~(BitVec.ofInt k.bits b)).toNat
section
variable {k:IntKind} {a b:Int}
theorem Qk:qU .add k a b=some (true,.i k (k.wrap (a+b))):=(rfl)
theorem Nn:qU .sub k a b=some (true,.i k (k.wrap (a-b))):=(rfl)
theorem P5:qU .mul k a b=some (true,.i k (k.wrap (a*b))):=(rfl)
theorem Pr:qU .quo k a b=some (b !=0,.i k (k.wrap (a.tdiv b))):=(rfl)
theorem PN:qU .rem k a b=some (b !=0,.i k (a.tmod b)):=(rfl)
theorem NK:qU .and k a b=some (true,.i k (iO k a b)):=(rfl)
theorem UU:qU .or k a b=some (true,.i k (ZJ k a b)):=(rfl)
theorem Ef:qU .andNot k a b=some (true,.i k (Gm k a b)):=(rfl)
theorem Qv:qU .eql k a b=some (true,.b (a==b)):=(rfl)
theorem Pj:qU .neq k a b=some (true,.b (a !=b)):=(rfl)
theorem O0:qU .lss k a b=some (true,.b (decide (a<b))):=(rfl)
theorem QU:qU .leq k a b=some (true,.b (decide (a<=b))):=(rfl)
theorem Sl:qU .gtr k a b=some (true,.b (decide (a>b))):=(rfl)
theorem Po:qU .geq k a b=some (true,.b (decide (a>=b))):=(rfl)
end
theorem JU {a b:List UInt8}:IN .add a b=some (decide (a.length+b.length<=9223372036854775807),.s (a++b)):=(rfl)
theorem LX {a b:List UInt8}:IN .eql a b=some (true,.b (a==b)):=(rfl)
theorem KK {a b:List UInt8}:IN .neq a b=some (true,.b !(a==b)):=(rfl)
attribute [go_sem] JU LX KK J4 eqs T2 Iz
attribute [go_sem] eu aa5 xA agI mJ Qk Nn P5 Pr PN NK UU Ef Qv Pj O0 QU Sl Po
attribute [go_sem ↓] Kr Hb Je HC DX E8 Cg Ai aec abG adg lx sf
attribute [go_sem ↓] HN DW
attribute [go_sem ↓] Le JP U5
theorem Of {cx:Cx} {e:Env} {h:Hp} {n:Nat} {x lo:cq}:cn cx (.slS x (some lo) none) e h n=(x.ev e h).bind λv=>JN v λl=>(lo.ev e h).bind λv=>(Dx v).bind λlo=>
 some (decide (0<=lo/\lo<=(l.length:Int)),{v:= .s (l.drop lo.toNat),n}):=by
 rw [Yg];simp only [lx,sf,aM,fM,tF,j3,jh];simp
attribute [go_sem] List.drop_nil List.take_nil HV Ed DZ aD eU ez List.nil_append dh List.length_cons fP AV.cells aL AV.one AV.isAny jW mP mC j5 tJ kl cond_true cond_false zS Bool.true_or Bool.or_false vp qj decide_false
attribute [go_sem ↓] UD eo HL qJ zW JJ nI agq agZ MX Ma L6 Ie KI Jd HU K6 Ht ab7 aaY Zo W7 Vp aa4 OU SS NF VV Vj Jt Xp U2 SG SC IH ac2 aaZ adH Gh N5 Zu Ye acp aa3 Vg Wp UI Vx Wa UM Yv X3 XM Xn V1 Zb W2 Y2 Of adx Xj O2 Sk Qs Vz Ws Ym RV GK ack abk Yp VO Yo OW VJ UE W8 Sq VA XK XV Yb Zr Xg Rf Xf Uv Wb YG UX PX Qq Sn P9 Qz N3 Od Zx XH YR adr ac6 acT Z8 Vo US QW K3 HT M4 YP VM MQ JV Lg Lb Bq rX Kq I4 Ln KN Oi PI OI Jh VE WL MZ Yf ahM ahW ac8 Rw X0 PU YV QM Jr Ou NZ W0 kW O3 P0 Kf LF jl LV Kz Ox jb RN NY Oo K4 PH KS
attribute [go_sem] fx bin vh K7 yW Cu A9 ry kh IA P1
attribute [go_sem ↓ low] Wc
attribute [go_sem] toV KY Il xS yh nF
end Go.Ab
namespace Go.Ab
inductive XE where
 |n
 |x (i:Nat)
 |r
def idx:List Nat->Nat->Nat
 |[],_=>0
 |c::r,b=>bif Nat.beq c b then 0 else idx r b+1
def nth:List Nat->Nat->Nat
 |[],_=>0
 |c::_,0=>c
 |_::r,i+1=>nth r i
def nodup:List Nat->Bool
 |[]=>true
 |c::r=> !(inl r c)&&nodup r
theorem Ap: ∀{R:List Nat} {b:Nat},inl R b=true->idx R b<R.length/\nth R (idx R b)=b
 |[],b,h=>by simp [inl] at h
 |c::r,b,h=>by
  simp only [inl,mA] at h;simp only [idx];cases hc:Nat.beq c b
  ·rw [hc] at h;obtain ⟨h1,h2⟩:=Ap (h.resolve_left (by simp))
   simp only [cond_false];exact ⟨by simp;omega,h2⟩
  grind [ee,nth]
theorem A6: ∀{R:List Nat} {i:Nat},i<R.length->inl R (nth R i)=true
 |[],i,h=>by simp at h
 |c::r,0,h=>by simp [inl,nth]
 |c::r,i+1,h=>by
  simp only [nth,inl,mA];exact .inr (A6 (by simpa using h))
theorem F0: ∀{R:List Nat} {i:Nat},nodup R=true->i<R.length->idx R (nth R i)=i
 |[],i,_,h=>by simp at h
 |c::r,0,_,h=>by simp [idx,nth]
 |c::r,i+1,hn,h=>by
  simp only [nodup,ak,gG] at hn;have h1:=A6 (R:=r) (i:=i) (by simpa using h)
  simp only [nth,idx];cases hc:Nat.beq c (nth r i)
  ·simp only [cond_false];rw [F0 hn.2 (by simpa using h)]
  simp_all
def ada:IntKind->IntKind->Bool
 | .i8,.i8=>true
 | .i16,.i16=>true
 | .i32,.i32=>true
 | .i64,.i64=>true
 | .u8,.u8=>true
 | .u16,.u16=>true
 | .u32,.u32=>true
 | .u64,.u64=>true
 |_,_=>false
theorem N9 {k j:IntKind} (h:ada k j=true):k=j:=by
 cases k<;>cases j<;>first|rfl|cases h
mutual
def AV.same:AV->AV->Bool
 | .b x,.b y=>x==y
 | .i k x,.i j y=>ada k j&&x==y
 | .s x,.s y=>x==y
 | .np,.np=>true
 | .p b o,.p c q=>Nat.beq b c&&Nat.beq o q
 | .ns,.ns=>true
 | .sl b o l c,.sl b' o' l' c'=>Nat.beq b b'&&Nat.beq o o'&&Nat.beq l l'&&Nat.beq c c'
 | .sg b o l,.sg b' o' l'=>Nat.beq b b'&&Nat.beq o o'&&Nat.beq l l'
 | .fn f l,.fn g m=>Nat.beq f g&&rq l m
 | .bm f l,.bm g m=>Nat.beq f g&&rq l m
 | .nf,.nf=>true
 | .ni,.ni=>true
 | .agg l,.agg m=>rq l m
 | .bz l,.bz m=>rq l m
 | .fz l a,.fz m b=>Nat.beq a b&&rq l m
 | .fp l a,.fp m b=>Nat.beq a b&&rq l m
 | .ze,.ze=>true
 | .en,.en=>true
 | .any,.any=>true
 |_,_=>false
def rq:List AV->List AV->Bool
 |[],[]=>true
 |x::l,y::m=>x.same y&&rq l m
 |_,_=>false
end
mutual
theorem AV.NQ: ∀{x y:AV},x.same y=true->x=y
 | .b x,y,h=>by cases y<;>simp_all [AV.same]
 | .i k x,y,h=>by
  cases y<;>simp [AV.same] at h;obtain ⟨h1,h2⟩:=h;rw [N9 h1,h2]
 | .s x,y,h=>by cases y<;>simp_all [AV.same]
 | .np,y,h=>by cases y<;>simp_all [AV.same]
 | .p b o,y,h=>by cases y<;>simp_all [AV.same]
 | .ns,y,h=>by cases y<;>simp_all [AV.same]
 | .sl b o l c,y,h=>by cases y<;>simp_all [AV.same]
 | .sg b o l,y,h=>by cases y<;>simp_all [AV.same]
 | .fn f l,y,h=>by
  cases y<;>simp [AV.same] at h;rw [h.1,j1 h.2]
 | .bm f l,y,h=>by
  cases y<;>simp [AV.same] at h;rw [h.1,j1 h.2]
 | .nf,y,h=>by cases y<;>simp_all [AV.same]
 | .ni,y,h=>by cases y<;>simp_all [AV.same]
 | .agg l,y,h=>by
  cases y<;>simp [AV.same] at h;rw [j1 h]
 | .bz l,y,h=>by
  cases y<;>simp [AV.same] at h;rw [j1 h]
 | .fz l a,y,h=>by
  cases y<;>simp [AV.same] at h;rw [h.1,j1 h.2]
 | .fp l a,y,h=>by
  cases y<;>simp [AV.same] at h;rw [h.1,j1 h.2]
 | .ze,y,h=>by cases y<;>simp_all [AV.same]
 | .en,y,h=>by cases y<;>simp_all [AV.same]
 | .any,y,h=>by cases y<;>simp_all [AV.same]
theorem j1: ∀{l m:List AV},rq l m=true->l=m
 |[],[],_=>rfl
 |x::l,y::m,h=>by
  simp only [rq,ak] at h;rw [AV.NQ h.1,j1 h.2]
 |[],_::_,h=>by cases h
 |_::_,[],h=>by cases h
end
def PY:Option Nat->Option Nat->Bool
 |none,none=>true
 |some a,some b=>Nat.beq a b
 |_,_=>false
theorem PR {a b:Option Nat} (h:PY a b=true):a=b:=by
 cases a<;>cases b<;>simp_all [PY]
def dD (h0:Hp) (n0 b:Nat) (k:bp):Bool:=
 match k.ro with
 |false=>true
 |true=>Nat.blt b n0&&(match aa h0 b with
  |some j=>j.ro&&rq j.cells k.cells&&PY j.gr k.gr&&PY j.gid k.gid&&(j.mp.isNone&&k.mp.isNone)
  |none=>false)
theorem Dh {h0:Hp} {n0 b:Nat} {k:bp} (h:dD h0 n0 b k=true) (hr:k.ro=true):b<n0/\aa h0 b=some k:=by
 unfold dD at h;rw [hr] at h;simp only [ak] at h;obtain ⟨h1,h2⟩:=h;refine ⟨jg h1,?_⟩;split at h2
 ·rename_i j hj;simp only [ak] at h2;rw [hj];obtain ⟨c,r,g,d,m⟩:=k;obtain ⟨c',r',g',d',m'⟩:=j
  grind [BF,j1,PR]
 ·cases h2
def l5 (h0:Hp) (n0 n:Nat):Hp->Bool
 |[]=>true
 |(b,k)::r=>Nat.blt b n&&ab n k.cells&&dD h0 n0 b k&&l5 h0 n0 n r
theorem tX {h0:Hp} {n0 n:Nat}: ∀{h:Hp},l5 h0 n0 n h=true-> ∀b k,aa h b=some k->b<n/\ab n k.cells=true/\(k.ro=true->b<n0/\aa h0 b=some k)
 |[],_,b,k,hb=>by simp [aa] at hb
 |(c,j)::r,h,b,k,hb=>by
  simp only [l5,ak] at h;simp only [aa] at hb;by_cases hc:b=c
  ·subst hc;simp at hb;subst hb;exact ⟨jg h.1.1.1,h.1.1.2,λhr=>Dh h.1.2 hr⟩
  ·rw [bO hc] at hb;exact tX h.2 b k hb
def UJ:List (Nat×cZ)->Nat->Option cZ
 |[],_=>none
 |(g,I)::r,f=>bif Nat.beq g f then some I else UJ r f
def fL (χ:Nat->Nat) (m:Nat):Hp->List (Nat×bp)
 |[]=>[]
 |(b,k)::r=>bif Nat.blt b m then fL χ m r else (χ b,k.aQ χ)::fL χ m r
def jA (R:List Nat) (n:Nat):Nat->Nat:=λb=>if b<R.length then nth R b else n+(b-R.length)
end Go.Ab
namespace Go.Ab
section
variable {P:Program} {N n0:Nat}
theorem WP.seq {a b:Code} {K:bX} {e:Env} {h:Hp} {n:Nat} (hw:WP P N n0 a (fR K λe h n=>WP P N n0 b K e h n) e h n):WP P N n0 (.seq a b) K e h n:=by
 intro ro hro B D0 φ0 H0 w0 h1 h2 D φ a w hR hS;refine wpIn_seq (wpIn_mono (hw ro (hro.imp _root_.id (λh=>by simp_all [j6,ak])) B D0 φ0 H0 w0 h1 h2 D φ a w hR hS) (λex a' w' hp=> ?_))
 obtain ⟨D',φ',e',h',n',hk,hn',hR',hS'⟩:=hp;cases ex with
 |normal=>exact hk ro (hro.imp _root_.id (λh=>by simp_all [j6,ak])) B D0 φ0 H0 w0 h1 hn' D' φ' a' w' hR' hS'
 |exit id=>exact ⟨D',φ',e',h',n',hk,hn',hR',hS'⟩
 |goto l=>exact ⟨D',φ',e',h',n',hk,hn',hR',hS'⟩
 |ret=>exact ⟨D',φ',e',h',n',hk,hn',hR',hS'⟩
 |panic ch=>exact ⟨D',φ',e',h',n',hk,hn',hR',hS'⟩
 |outgrown=>exact ⟨D',φ',e',h',n',hk,hn',hR',hS'⟩
theorem WP.scope {c:Code} {K:bX} {e:Env} {h:Hp} {n:Nat} (hw:WP P N n0 c (Eo K) e h n):WP P N n0 (.scope c) K e h n:=by
 intro ro hro B D0 φ0 H0 w0 h1 h2 D φ a w hR hS;refine kD (wpIn_mono (hw ro hro B D0 φ0 H0 w0 h1 h2 D φ a w hR hS) (λex a' w' hp=> ?_));obtain ⟨D',φ',e',h',n',hk,hn',hR',hS'⟩:=hp;cases ex with
 |goto l=>exact hk.elim
 |_=>exact ⟨D',φ',e',h',n',hk,hn',hR',hS'⟩
theorem WP.block {c:Code} {id:Nat} {K:bX} {e:Env} {h:Hp} {n:Nat} (hw:WP P N n0 c (iK id K) e h n):WP P N n0 (.block id c) K e h n:=by
 intro ro hro B D0 φ0 H0 w0 h1 h2 D φ a w hR hS;refine wpIn_block (wpIn_mono (hw ro hro B D0 φ0 H0 w0 h1 h2 D φ a w hR hS) (λex a' w' hp=> ?_));obtain ⟨D',φ',e',h',n',hk,hn',hR',hS'⟩:=hp;cases ex with
 |exit i=>
  simp only [iK] at hk;simp only [Exit.inBlock];split
  ·rename_i hid;rw [aT hid] at hk;exact ⟨D',φ',e',h',n',hk,hn',hR',hS'⟩
  ·rename_i hid;rw [aY hid] at hk;exact ⟨D',φ',e',h',n',hk,hn',hR',hS'⟩
 |normal=>exact ⟨D',φ',e',h',n',hk,hn',hR',hS'⟩
 |goto l=>exact ⟨D',φ',e',h',n',hk,hn',hR',hS'⟩
 |ret=>exact ⟨D',φ',e',h',n',hk,hn',hR',hS'⟩
 |panic ch=>exact ⟨D',φ',e',h',n',hk,hn',hR',hS'⟩
 |outgrown=>exact ⟨D',φ',e',h',n',hk,hn',hR',hS'⟩
theorem WP.cond {c:Operand} {x:cq} {a b:Code} {K:bX} {e:Env} {h:Hp} {n:Nat} {v:Bool} (hc:cO c=some x) (hg: ∀g,x≠ .g g) (hv:x.ev e h=some (.b v))
 (hw:match v with|true=>WP P N n0 a K e h n|false=>WP P N n0 b K e h n):WP P N n0 (.cond c a b) K e h n:=by
 intro ro hro B D0 φ0 H0 w0 h1 h2 D φ a w hR hS;have hvr:aK D φ (.b v) (a.eval c):=tW (λt v _ hv=>hR.env t v hv) hc (λg hgg=>by grind [cO,aI]) hv
 generalize hu:a.eval c=u at hvr;cases hvr;cases v
 ·exact wpIn_cond_false hu (hw ro (hro.imp _root_.id (λh=>by simp_all [j6,ak])) B D0 φ0 H0 w0 h1 h2 D φ a w hR hS)
 ·exact wpIn_cond_true hu (hw ro (hro.imp _root_.id (λh=>by simp_all [j6,ak])) B D0 φ0 H0 w0 h1 h2 D φ a w hR hS)
end
section
variable {P:Program} {ct:List Nat} {N:Nat}
theorem NV {c:Code} {a b:bb} (h:bt P ct N c= .seq a b): ∃a' b',c= .seq a' b'/\bt P ct N a'=a/\bt P ct N b'=b:=by
 cases c with
 |seq a' b'=>simp only [bt,bb.seq.injEq] at h;exact ⟨a',b',rfl,h.1,h.2⟩
 |region id ops draw=>simp only [bt] at h;split at h<;>(try split at h)<;>cases h
 |cond x y z=>simp only [bt] at h;split at h<;>cases h
 |rangeFunc g ps x y=>simp only [bt] at h;split at h<;>cases h
 |_=>simp [bt] at h
theorem Hu {c:Code} {id:Nat} {a:bb} (h:bt P ct N c= .block id a): ∃a',c= .block id a'/\bt P ct N a'=a:=by
 cases c with
 |block i a'=>simp only [bt,bb.block.injEq] at h;obtain ⟨rfl,h⟩:=h;exact ⟨a',rfl,h⟩
 |region id ops draw=>simp only [bt] at h;split at h<;>(try split at h)<;>cases h
 |cond x y z=>simp only [bt] at h;split at h<;>cases h
 |rangeFunc g ps x y=>simp only [bt] at h;split at h<;>cases h
 |_=>simp [bt] at h
end
def Valid (P:Program) (T:List (Nat×cZ)):Prop:= ∀f I,UJ T f=some I-> ∃fn,P.funcs[f]? =some fn/\ah P fn=some I/\bH P f=true
theorem Valid.nil {P:Program}:Valid P []:=λf I h=>by cases h
theorem Valid.cons {P:Program} {T:List (Nat×cZ)} {f:Nat} {I:cZ} {fn:Func} (h1:P.funcs[f]? =some fn) (h2:ah P fn=some I) (h3:bH P f=true) (h:Valid P T):Valid P ((f,I)::T):=λg J hg=>by
 simp only [UJ] at hg;cases hfg:Nat.beq f g
 ·rw [hfg] at hg;exact h g J hg
 simp_all
theorem qK {χ:Nat->Nat} {m n:Nat} (hχ: ∀b,m<=b->χ b=n+(b-m)): ∀{hR:Hp} {c:Nat} {kk:bp},aa (fL χ m hR) c=some kk-> ∃b kb,aa hR b=some kb/\m<=b/\c=χ b/\kk=kb.aQ χ
 |[],c,kk,h=>by simp [fL,aa] at h
 |(b0,k0)::r,c,kk,h=>by
  simp only [fL] at h;cases hb:Nat.blt b0 m
  ·rw [hb] at h;simp only [cond_false,aa] at h;have hm:m<=b0:=by
    grind [eV,Nat.blt,Nat.blt_eq]
   by_cases hc:c=χ b0
   ·subst hc;simp at h;exact ⟨b0,k0,by simp [aa],hm,rfl,h.symm⟩
   ·rw [bO hc] at h;obtain ⟨b,kb,h1,h2,h3,h4⟩:=qK hχ h;refine ⟨b,kb,?_,h2,h3,h4⟩
    grind [aa,bO]
  ·rw [hb] at h;simp only [cond_true] at h;obtain ⟨b,kb,h1,h2,h3,h4⟩:=qK hχ h;refine ⟨b,kb,?_,h2,h3,h4⟩;have:b≠b0:=λe=>by simp_all;omega
   grind [aa,bO]
end Go.Ab
namespace Go.Ab
mutual
theorem AV.HW {m:Nat}: ∀v:AV,v.aj 0=true->v.aj m=true
 | .p b o,h=>by simp [AV.aj,Nat.blt] at h
 | .sl b o l c,h=>by simp [AV.aj,Nat.blt] at h
 | .sg b o l,h=>by simp [AV.aj,Nat.blt] at h
 | .fn f l,h=>au l h
 | .bm f l,h=>au l h
 | .agg l,h=>au l h
 | .bz l,h=>au l h
 | .b x,_=>rfl
 | .i k n,_=>rfl
 | .s l,_=>rfl
 | .np,_=>rfl
 | .ns,_=>rfl
 | .nf,_=>rfl
 | .ni,_=>rfl
 | .fz l _,h=>au l h
 | .fp l _,h=>au l h
 | .ze,_=>rfl
 | .en,_=>rfl
 | .any,_=>rfl
 | .k _ _,_=>rfl
 | .m b,h=>by simp [AV.aj,Nat.blt] at h
 | .nm,_=>rfl
 | .yl _ _ _ l,h=>au l h
theorem au {m:Nat}: ∀l:List AV,ab 0 l=true->ab m l=true
 |[],_=>rfl
 |v::r,h=>by
  simp only [ab,ak] at h ⊢;exact ⟨AV.HW v h.1,au r h.2⟩
end
theorem aA.aaK {P:Program} {f:FuncId} {argsL:List AV} {v:AV} {k:bp} {b n:Nat} {h:Hp} (hc:Go.Ab.bH P f=true) (ha:ab 1 argsL=true) (hk:ab 0 k.cells=true) (hv:v.aj 0=true) (hb:aa h b=some k)
 (hf:bG P f argsL [(0,k)] 1 v [(0,k)] 1):aA P f (aS (λ_=>b) argsL) h n {v,n,rd:=[b]}:=by
 have hkr:k.aQ (λ_=>b)=k:=by simp_all [bp.aQ,aJ]
 have h0: ∀c kk,aa [(0,k)] c=some kk->c=0/\kk=k:=λc kk hh=>by
  grind [aa,bO]
 have hbel1:ab 1 k.cells=true:=au _ hk;refine aA.Jw (ψ:=λ_=>b) hc hf (bx _) ha (λc hc=>⟨k,by rw [show c=0 by omega];rfl⟩) (λc kk hh=> ?_) rfl (λc kk hh=> ?_) (λb1 b2 k1 k2 h1 h2 _ _=> ?_) (by simp) (nb _ hv).symm (λc r hh=>by simp [cy] at hh) (λc kk hh=>by simp [aa] at hh) (λc kk hh=> ?_)
 ·grind
 ·obtain ⟨rfl,rfl⟩:=h0 c kk hh;simp_all [only,inl]
 ·grind
 ·simp only [bV.app,cy,aa] at hh;simp only [only,inl,Bool.or_false] at hh;by_cases hcb:b=c
  ·subst hcb;simp [hb] at hh;subst hh;exact ⟨0,k,rfl,by omega,by simp,by grind [bp.aQ,aJ],λ_=>⟨by omega,rfl⟩⟩
  grind [bO]
theorem Loop.by {F:Fx} (hcx:Sound F.P F.cx) (hm:F.P.follows .mixedOrders=true) {c:bb} {K:bX} {X:Type} (ok:X->Prop) (μ:X->Nat) (E:X->Env) (H:X->Hp) (n2:Nat) (x0:X) {e:Env} {h:Hp} {n:Nat} (hn:F.n0<=n2)
 (h0:ok x0) (he:iV n2 e (E x0)) (hh:mX n2 h (H x0))
 (round: ∀x,ok x->jw F c (fR K λe' h' n'=> ∃x',(ok x'/\μ x'<μ x)/\iV n2 e' (E x')/\mX n2 h' (H x')) (E x) (H x) n2):Loop F.P F.ct F.N F.n0 c K e h n:=by
 refine Loop.inv (F:=F) hcx hm (X:={x:X // ok x}) (λk=>(E k.1,H k.1,n2)) (λk=>μ k.1) ⟨x0,h0⟩ _root_.id (Wk.Sa hn he hh) (λk=> ?_);refine qC (λex e' h' n' hx=> ?_) (aO (round k.1 k.2));cases ex with
 |normal=>
  obtain ⟨x',⟨h1,h2⟩,h3,h4⟩:=hx;exact ⟨⟨x',h1⟩,_root_.id,Wk.Sa hn h3 h4,h2⟩
 |_=>exact hx
theorem aP {a b:Nat}:Nat.blt a b=decide (a<b):=by
 simp [Nat.blt,aa5,Nat.succ_le_iff]
theorem Ends.gH {n:Nat} {v v2:AV} {h:Hp} {k k2:bp} (hv:v.aj 1=true) (hb:aa h 0=some k) (hk:ab 1 k.cells=true) (he:v=v2) (hkk:k=k2):Ends 1 v h n v2 [(0,k2)] 1:=by
 simp_all [Ends.Sa,gP,aV,List.not_mem_nil,or_false]
theorem aN {n:Int} (h: -9223372036854775808<=n) (h':n<=9223372036854775807):IntKind.i64.wrap n=n:=by
 grind [IntKind.wrap,IntKind.bits,IntKind.signed]
theorem xD (n:Int):IntKind.u8.wrap n=n % 256:=by
 simp [IntKind.wrap,IntKind.bits,IntKind.signed]
theorem Ay (n:Int):IntKind.u16.wrap n=n % 65536:=by
 simp [IntKind.wrap,IntKind.bits,IntKind.signed]
theorem Aq (n:Int):IntKind.u32.wrap n=n % 4294967296:=by
 simp [IntKind.wrap,IntKind.bits,IntKind.signed]
theorem oe (n:Int):IntKind.u64.wrap n=n % 18446744073709551616:=by
 simp [IntKind.wrap,IntKind.bits,IntKind.signed]
theorem Bo (k:Nat) (m n:Int) (hk:k<=62) (hm:m=2^k-1):iO .i64 n m=n % 2^k:=by
 have hp:(2:Int)^k=((2^k:Nat):Int):=by simp
 have hle:(2:Nat)^k<=2^62:=Nat.pow_le_pow_right (by decide) hk
 have h62:(2:Nat)^62=4611686018427387904:=by decide
 have hpos:0<(2:Nat)^k:=Nat.two_pow_pos k;unfold iO;have h:(BitVec.ofInt 64 n &&& BitVec.ofInt 64 m).toNat=(n % 2^k).toNat:=by
  rw [BitVec.toNat_and];have e:(BitVec.ofInt 64 m).toNat=2^k-1:=by
   grind
  rw [e,Nat.and_two_pow_sub_one_eq_mod,BitVec.toNat_ofInt];have hd:((2^k:Nat):Int) ∣ ((2^64:Nat):Int):=Int.natCast_dvd_natCast.2 (Nat.pow_dvd_pow 2 (by omega))
  grind [Int.emod_emod_of_dvd,ph,Int.eq_ofNat_of_zero_le,j3]
 show IntKind.i64.wrap ((BitVec.ofInt 64 n &&& BitVec.ofInt 64 m).toNat:Int)=n % 2^k;rw [h,hp];have h1:0<=n % ((2^k:Nat):Int):=ph _ (by omega)
 have h2:n % ((2^k:Nat):Int)<((2^k:Nat):Int):=mK _ (by omega)
 grind [aN]
theorem Tn (n:Int):iO .i64 n 32767=n % 32768:=Bo 15 _ n (by decide) (by decide)
theorem aeP (n:Int):iO .i64 n 65535=n % 65536:=Bo 16 _ n (by decide) (by decide)
theorem abH (n:Int):iO .i64 n 4294967295=n % 4294967296:=Bo 32 _ n (by decide) (by decide)
def IW (p:Nat->Bool):Bool:=(List.range 256).all p
theorem yP {p:Nat->Bool} (h:IW p=true) (a:UInt8):p a.toNat=true:=by
 simp only [IW,du,vC] at h;exact h _ a.toNat_lt
end Go.Ab
namespace Go.Ab
def Fy {α:Type} (v:AV) (kn:Option α) (ks:Nat->Nat->Nat->Nat->Option α) (kg:Nat->Nat->Nat->Option α):Option α:=match v with
 | .ns=>kn
 | .sl b o l c=>ks b o l c
 | .sg b o l=>kg b o l
 |_=>none
def aey {α:Type} (v:AV) (ks:Nat->Nat->Nat->Nat->Option α):Option α:=match v with
 | .sl b o l c=>ks b o l c
 |_=>none
theorem Ns {α:Type} {b o l c:Nat} {ks:Nat->Nat->Nat->Nat->Option α}:aey (.sl b o l c) ks=ks b o l c:=(rfl)
theorem adJ {α:Type} {kn:Option α} {ks:Nat->Nat->Nat->Nat->Option α} {kg:Nat->Nat->Nat->Option α}:Fy .ns kn ks kg=kn:=(rfl)
theorem adj {α:Type} {b o l c:Nat} {kn:Option α} {ks:Nat->Nat->Nat->Nat->Option α} {kg:Nat->Nat->Nat->Option α}:Fy (.sl b o l c) kn ks kg=ks b o l c:=(rfl)
theorem Fk {α:Type} {b o l:Nat} {kn:Option α} {ks:Nat->Nat->Nat->Nat->Option α} {kg:Nat->Nat->Nat->Option α}:Fy (.sg b o l) kn ks kg=kg b o l:=(rfl)
def AT {α:Type} (v:AV) (ke k:Option α):Option α:=match v with
 | .en=>ke
 |_=>k
theorem WM {α:Type} {l:List AV} {m:Nat} {ke k:Option α}:AT (.fz l m) ke k=k:=(rfl)
theorem UK {α:Type} {ke k:Option α}:AT .ze ke k=k:=(rfl)
theorem WJ {α:Type} {ke k:Option α}:AT .ns ke k=k:=(rfl)
theorem YI {α:Type} {b o l c:Nat} {ke k:Option α}:AT (.sl b o l c) ke k=k:=(rfl)
theorem U3 {α:Type} {b o l:Nat} {ke k:Option α}:AT (.sg b o l) ke k=k:=(rfl)
def jt {α:Type} (c:Bool) (a b:Option α):Option α:=bif c then a else b
@[congr] theorem iteD_congr {α:Type} {c c':Bool} {a b:Option α} (h:c=c'):jt c a b=jt c' a b:=by rw [h]
theorem DL {α:Type} {a b:Option α}:jt true a b=a:=(rfl)
theorem uJ {α:Type} {a b:Option α}:jt false a b=b:=(rfl)
def Tq (g:Option Nat) (k:Nat->Option (Bool×bV)):Option (Bool×bV):=match g with
 |some z=>k z
 |none=>none
theorem KZ {z:Nat} {k:Nat->Option (Bool×bV)}:Tq (some z) k=k z:=(rfl)
section
variable {cx:Cx} {e:Env} {h:Hp} {n:Nat}
theorem G6 {x:cq}:cn cx (.lh x) e h n=(x.ev e h).bind λv=>AT v (some (true,{v:= .i .i64 0,n}))<|DO v (λl m=>some (true,{v:= .i .i64 (m:Int),n})) (some (true,{v:= .i .i64 0,n})) λv=>Fy v (some (true,{v:= .i .i64 0,n})) (λb o l c=>some (true,{v:= .i .i64 (l:Int),n})) (λb o l=>some (true,{v:= .i .i64 (l:Int),n})):=by
 rw [GK];congr 1;funext v;cases v<;>rfl
theorem Oj {x:cq}:cn cx (.LW x) e h n=(x.ev e h).bind λv=>DO v (λl m=>none) (some (true,{v:= .i .i64 0,n})) λv=>Fy v (some (true,{v:= .i .i64 0,n})) (λb o l c=>some (true,{v:= .i .i64 (c:Int),n})) (λb o l=>none):=by
 show (x.ev e h).bind _=_;congr 1;funext v;cases v<;>rfl
theorem Wg {m z:Nat} {x:cq} {lo hi mx:Option cq}:cn cx (.slA m z x lo hi mx) e h n=(x.ev e h).bind λv=>Xd v λb o=>da e h lo λlo=>da e h hi λhi=>da e h mx λmx=>
 some ((aM m m lo hi mx).1,{v:= .sl b (if (aM m m lo hi mx).2.2.2=(aM m m lo hi mx).2.1 then o else o+(aM m m lo hi mx).2.1*z) ((aM m m lo hi mx).2.2.1-(aM m m lo hi mx).2.1) ((aM m m lo hi mx).2.2.2-(aM m m lo hi mx).2.1),n}):=(rfl)
theorem Yj {α:Type} {c:Bool} {a b:Option α}:(match c with|true=>a|false=>b)=jt c a b:=by cases c<;>rfl
theorem Mm {z:Nat} {x:cq} {lo hi:Option cq}:cn cx (.vW z x lo hi none) e h n=(x.ev e h).bind λv=>DO v (λl len=>da e h lo λlo=>da e h hi λhi=>some ((aM len len lo hi none).1,{v:= .fz (l.drop ((aM len len lo hi none).2.1*z)) ((aM len len lo hi none).2.2.1-(aM len len lo hi none).2.1),n}))
 (da e h lo λlo=>da e h hi λhi=>some ((aM 0 0 lo hi none).1,{v:= .ze,n})) λv=>Fy v
 (da e h lo λlo=>da e h hi λhi=>some ((aM 0 0 lo hi none).1,{v:= .ns,n}))
 (λb o len cap=>da e h lo λlo=>da e h hi λhi=>some ((aM len cap lo hi none).1,{v:= .sl b (if (aM len cap lo hi none).2.2.2=(aM len cap lo hi none).2.1 then o else o+(aM len cap lo hi none).2.1*z) ((aM len cap lo hi none).2.2.1-(aM len cap lo hi none).2.1) ((aM len cap lo hi none).2.2.2-(aM len cap lo hi none).2.1),n}))
 (λb o len=>(jo h b).bind λk=>da e h lo λlo=>da e h hi λhi=>Tq k.gr λz'=>
   jt (decide ((aM len len lo hi none).2.1=0\/(aM len len lo hi none).2.1<len)) (some ((aM len len lo hi none).1&&Nat.beq z z',{v:= .sg b (o+(aM len len lo hi none).2.1*z) ((aM len len lo hi none).2.2.1-(aM len len lo hi none).2.1),n,rd:=[b]})) (some ((aM len len lo hi none).1&&Nat.beq z z',{v:= .en,n,rd:=[b]}))):=by
 show (x.ev e h).bind _=_;congr 1;funext v;cases v<;>first|rfl|(simp only [Gh,Fk];congr 1;funext k;congr 1;funext lo;congr 1;funext hi;cases k.gr with|none=>rfl|some z'=>exact Yj)|(simp only [IH,lx,Option.isSome_none,ei,false_and,dP])
theorem NH {z:Nat} {x:cq} {lo hi:Option cq} {m:cq}:cn cx (.vW z x lo hi (some m)) e h n=(x.ev e h).bind λv=>DO v (λl len=>da e h lo λlo=>da e h hi λhi=>da e h (some m) λmx=>some ((aM len len lo hi mx).1,{v:=if mx.isSome/\(aM len len lo hi mx).2.2.2=(aM len len lo hi mx).2.1 then .ze else .fz (l.drop ((aM len len lo hi mx).2.1*z)) ((aM len len lo hi mx).2.2.1-(aM len len lo hi mx).2.1),n}))
 (da e h lo λlo=>da e h hi λhi=>da e h (some m) λmx=>some ((aM 0 0 lo hi mx).1,{v:= .ze,n})) λv=>Fy v
 (da e h lo λlo=>da e h hi λhi=>da e h (some m) λmx=>some ((aM 0 0 lo hi mx).1,{v:= .ns,n}))
 (λb o len cap=>da e h lo λlo=>da e h hi λhi=>da e h (some m) λmx=>some ((aM len cap lo hi mx).1,{v:= .sl b (if (aM len cap lo hi mx).2.2.2=(aM len cap lo hi mx).2.1 then o else o+(aM len cap lo hi mx).2.1*z) ((aM len cap lo hi mx).2.2.1-(aM len cap lo hi mx).2.1) ((aM len cap lo hi mx).2.2.2-(aM len cap lo hi mx).2.1),n}))
 (λb o len=>none):=by
 show (x.ev e h).bind _=_;congr 1;funext v;cases v<;>first|rfl|(simp only [IH,lx,Option.isSome_none,ei,false_and,dP])
theorem Y7 {z bytes:Nat} {zs:List AV} {l c:cq}:cn cx (.mks z bytes zs l c) e h n=(l.ev e h).bind λl=>(Mw l).bind λl=>(c.ev e h).bind λc=>(Mw c).bind λc=>
 some (decide (0<=l/\l<=c/\bytes*c<=281474976710656/\c<=9223372036854775807),{v:= .sl n 0 l.toNat c.toNat,n:=n+1,nw:=[(n,{cells:=dA zs c.toNat})]}):=(rfl)
theorem Us {z:Nat} {zs:List AV} {x:cq}:cn cx (.ZZ z zs x) e h n=(x.ev e h).bind λv=>Fy v (some (true,{v:= .bz [],n}))
 (λb o l c=>(jo h b).bind λk=>Nc k.ro (some (aL zs&&Nat.beq zs.length z&&decide (o+l*z<=k.cells.length),{v:= .bz [],n,rd:=[b],md:=[(b,some {k with cells:=eU k.cells o (dA zs l)})]})))
 (λb o l=>(jo h b).bind λk=>Nc k.ro (some (aL zs&&Nat.beq zs.length z&&decide (o+l*z<=k.cells.length),{v:= .bz [],n,rd:=[b],md:=[(b,some {k with cells:=eU k.cells o (dA zs l)})]}))):=by
 show (x.ev e h).bind _=_;congr 1;funext v;cases v<;>rfl
def CO (h:Hp) (z:Nat) (x:AV) (k:List Nat->Nat->List AV->Bool->Option (Bool×bV)):Option (Bool×bV):=(lF h z x).bind λr=>k r.1 r.2.1 r.2.2.1 r.2.2.2
section
variable {z:Nat} {k:List Nat->Nat->List AV->Bool->Option (Bool×bV)}
theorem Uq:CO h z .en k=k [] 0 [] true:=(rfl)
theorem YQ {l:List AV} {len:Nat}:CO h z (.fz l len) k=k [] len (aD l 0 (len*z)) (decide ((aD l 0 (len*z)).length=len*z)):=(rfl)
theorem Ri {b o len cap:Nat}:CO h z (.sl b o len cap) k=(jo h b).bind λq=>k [b] len (aD q.cells o (len*z)) (decide ((aD q.cells o (len*z)).length=len*z)):=by
 show ((jo h b).bind _).bind _=_
 grind
end
theorem Me {z bytes:Nat} {zs:List AV} {s x:cq}:cn cx (.app z bytes zs s x) e h n=(s.ev e h).bind λs=>(x.ev e h).bind λx=>CO h z x λr0 m cs ok=>
 DO s (λl len=>jt (decide (m=0)) (some (ok,{v:= .fz l len,n,rd:=r0})) none) (jt (decide (m=0)) (some (ok,{v:= .ze,n,rd:=r0})) (some (ok&&decide (bytes*m<=az),{v:= .sg n 0 m,n:=n+1,rd:=r0,nw:=[(n,{cells:=cs,gr:=some z})]}))) λs=>Fy s
  (jt (decide (m=0)) (some (ok,{v:= .ns,n,rd:=r0})) (some (ok&&decide (bytes*m<=az),{v:= .sg n 0 m,n:=n+1,rd:=r0,nw:=[(n,{cells:=cs,gr:=some z})]})))
  (λb o len cap=>jt (decide (m=0)) (some (ok&&decide (len<=cap),{v:= .sl b o len cap,n,rd:=r0}))
    ((jo h b).bind λk=>jt (decide (len+m<=cap))
      (Nc k.ro (some (ok&&decide (o+len*z+cs.length<=k.cells.length)&&aL cs,{v:= .sl b o (len+m) cap,n,rd:=b::r0,md:=[(b,some {k with cells:=eU k.cells (o+len*z) cs})]})))
      (some (ok&&decide (bytes*(len+m)<=az)&&decide ((aD k.cells o (len*z)).length=len*z)&&decide (len<=cap),{v:= .sg n 0 (len+m),n:=n+1,rd:=b::r0,nw:=[(n,{cells:=aD k.cells o (len*z)++cs,gr:=some z})]}))))
  (λb o len=>jt (decide (m=0)) (some (ok,{v:= .sg b o len,n,rd:=r0}))
    ((jo h b).bind λk=>Tq k.gr λz'=>jt (decide (k.cells.length=o+len*z)) (some (ok&&decide (bytes*(len+m)<=az)&&Nat.beq z z'&&decide (k.cells.length=o+len*z)&&aL cs,{v:= .sg n 0 (len+m),n:=n+1,rd:=b::r0,md:=[(b,none)],nw:=[(n,{cells:=k.cells.drop o++cs,gr:=some z})]})) (some (ok&&decide (bytes*(len+m)<=az)&&Nat.beq z z'&&decide (o+len*z<=k.cells.length)&&aL cs,{v:= .sg n 0 (len+m),n:=n+1,rd:=b::r0,md:=[(b,none)],nw:=[(n,{cells:=aD k.cells o (len*z)++cs,gr:=some z})]})))):=by
 show (s.ev e h).bind _=_;congr 1;funext s;congr 1;funext x;unfold CO;cases lF h z x with
 |none=>rfl
 |some r=>
  obtain ⟨r0,m,cs,ok⟩:=r;simp only [aC];show (if m=0 then _ else _)=_
  by_cases hm:m=0
  ·subst hm;simp only [cM,qj,DL];cases s<;>rfl
  ·simp only [hm,dP,decide_false,uJ];cases s with
   |sl b o len cap=>
    show (jo h b).bind _=(jo h b).bind _;congr 1;funext k;by_cases hc:len+m<=cap
    ·simp only [hc,cM,qj,DL];rfl
    ·simp only [hc,dP,decide_false,uJ]
   |_=>rfl
theorem Vs {z:Nat} {d s:cq}:cn cx (.JR z d s) e h n=(d.ev e h).bind λd=>(s.ev e h).bind λs=>CO h z s λr0 m cs ok=>AT d (some (ok,{v:= .i .i64 0,n,rd:=r0}))<|Fy d (some (ok,{v:= .i .i64 0,n,rd:=r0}))
 (λb o l c=>(jo h b).bind λk=>Nc k.ro (some (ok&&(aL cs||aL (cs.take (Nat.min m l*z)))&&decide (o+Nat.min m l*z<=k.cells.length),{v:= .i .i64 (Nat.min m l),n,rd:=b::r0,md:=[(b,some {k with cells:=eU k.cells o (cs.take (Nat.min m l*z))})]})))
 (λb o l=>(jo h b).bind λk=>Nc k.ro (some (ok&&(aL cs||aL (cs.take (Nat.min m l*z)))&&decide (o+Nat.min m l*z<=k.cells.length),{v:= .i .i64 (Nat.min m l),n,rd:=b::r0,md:=[(b,some {k with cells:=eU k.cells o (cs.take (Nat.min m l*z))})]}))):=by
 show (d.ev e h).bind _=_;congr 1;funext d;congr 1;funext s;unfold CO;cases lF h z s with
 |none=>rfl
 |some r=>obtain ⟨r0,m,cs,ok⟩:=r;cases d<;>rfl
theorem UA {z bytes:Nat} {zs:List AV} {s x:cq}:cn cx (.apz z bytes zs s x) e h n=(s.ev e h).bind λs=>(x.ev e h).bind λx=>(Mw x).bind λm=>aey s λb o len cap=>(jo h b).bind λk=>
 some (decide (0<m)&&decide (cap<len+m.toNat)&&decide (bytes*(len+m.toNat)<=az)&&decide ((aD k.cells o (len*z)).length=len*z),{v:= .sg n 0 (len+m.toNat),n:=n+1,rd:=[b],nw:=[(n,{cells:=aD k.cells o (len*z)++dA zs m.toNat,gr:=some z})]}):=by
 show (s.ev e h).bind _=_;rfl
end
theorem Qd {z:List AV}:dA z 0=[]:=(rfl)
theorem tY {z:List AV} {n:Nat}:dA z (n+1)=z++dA z n:=(rfl)
attribute [go_sem ↓] WM UK WJ YI U3 G6 Oj Wg Mm NH Y7 Us Me Vs UA Ns adJ adj Fk DL uJ KZ Uq YQ Ri Qd tY
attribute [go_sem] aM tF
attribute [go_sem] beq_self_eq_true bne_self_eq_false Int.cast_ofNat_Int Int.lt_irrefl xv IntKind.bits Nat.zero_ne_one Nat.one_ne_zero o8 e9 lI fM Option.isSome_some aN gt_iff_lt ge_iff_le j3 Nat.sub_zero ite_self fy kA
end Go.Ab
namespace Go.Ab
theorem Loop.dV {F:Fx} (hcx:Sound F.P F.cx) (hm:F.P.follows .mixedOrders=true) {c:bb} {K:bX} (m:Nat) (ok:Nat->Prop) (E:Nat->Env) (H:Nat->Hp) (n2:Nat) {e:Env} {h:Hp} {n:Nat} (hn:F.n0<=n2)
 (h0:ok 0) (he:iV n2 e (E 0)) (hh:mX n2 h (H 0))
 (round: ∀k,k<=m->ok k->jw F c (fR K λe' h' n'=>(k<m/\ok (k+1))/\iV n2 e' (E (k+1))/\mX n2 h' (H (k+1))) (E k) (H k) n2):Loop F.P F.ct F.N F.n0 c K e h n:=by
 refine Loop.by (F:=F) hcx hm (X:=Nat) (λk=>k<=m/\ok k) (λk=>m-k) E H n2 0 hn ⟨cr _,h0⟩ he hh (λk hk=> ?_)
 have h1:=round k hk.1 hk.2;have key: ∀{c:bb} {K K':bX} {e:Env} {h:Hp} {n:Nat},(∀ex e h n,K ex e h n->K' ex e h n)->jw F c K e h n->jw F c K' e h n:=by
  intro c;induction c with
  |skip=>intro K K' e h n hk hi;exact hk _ _ _ _ hi
  |dY ops=>
   intro K K' e h n hk hi;have mono: ∀{l:List bq} {e:Env} {h:Hp} {n:Nat} {K K':bX},(∀ex e h n,K ex e h n->K' ex e h n)->kr F.cx l e h n K->kr F.cx l e h n K':=by
    intro l;induction l with
    |nil=>intro e h n K K' hk hr;exact hk _ _ _ _ hr
    |cons o os ih=>
     intro e h n K K' hk hr;have g4: ∀{d:Option Nat} {op:j8} {s:Bool} {e:Env} {h:Hp} {n:Nat},(Hv (l8 F.cx op e h n) λc p v h n=>jx c (E3 p K e h n (ic s v λv=>kr F.cx os (iu d v e) h n K)))->Hv (l8 F.cx op e h n) λc p v h n=>jx c (E3 p K' e h n (ic s v λv=>kr F.cx os (iu d v e) h n K')):=by
      intro d op s e h n hg;cases hx:l8 F.cx op e h n with
      |none=>rw [hx] at hg;exact hg.elim
      |some r=>rw [hx] at hg;exact ⟨hg.1,x8 hk (jG (λv hv=>ih hk hv)) hg.2⟩
     obtain ⟨d,op,g,s⟩:=o;cases g with
     |none=>simp only [kr] at hr ⊢;exact g4 hr
     |some g=>
      obtain ⟨t,b⟩:=g;simp only [kr] at hr ⊢;refine ie (λv hv=> ?_) hr;unfold lT at hv ⊢;split at hv<;>first
       |exact g4 hv
       |exact ih hk hv
       |exact hv.elim
   exact mono hk hi
  |jv ops=>
   intro K K' e h n hk hi;have mono: ∀{l:List (bq×List Nat)} {i:Nat} {dn:List (Nat×bV)} {e:Env} {h:Hp} {n:Nat} {K K':bX},(∀ex e h n,K ex e h n->K' ex e h n)->rD F.cx l i dn e h n K->rD F.cx l i dn e h n K':=by
    intro l;induction l with
    |nil=>intro i dn e h n K K' hk hr;exact hk _ _ _ _ hr
    |cons o os ih=>
     intro i dn e h n K K' hk hr;have g5: ∀{un:List Nat} {d:Option Nat} {op:j8} {s:Bool} {e:Env} {h:Hp} {n:Nat},(MI (rH F.cx un i dn op e h n) λc p v h n dn=>jx c (Gg p un os K e h n (ic s v λv=>rD F.cx os (i+1) dn (iu d v e) h n K)))->MI (rH F.cx un i dn op e h n) λc p v h n dn=>jx c (Gg p un os K' e h n (ic s v λv=>rD F.cx os (i+1) dn (iu d v e) h n K')):=by
      intro un d op s e h n hg;cases hx:rH F.cx un i dn op e h n with
      |none=>rw [hx] at hg;exact hg.elim
      |some r=>rw [hx] at hg;exact ⟨hg.1,xR hk (jG (λv hv=>ih hk hv)) hg.2⟩
     obtain ⟨⟨d,op,g,s⟩,un⟩:=o;cases g with
     |none=>simp only [rD] at hr ⊢;exact g5 hr
     |some g=>
      obtain ⟨t,b⟩:=g;simp only [rD] at hr ⊢;refine ie (λv hv=> ?_) hr;unfold lT at hv ⊢;split at hv<;>first
       |exact g5 hv
       |exact ih hk hv
       |exact hv.elim
   exact mono hk hi
  |seq a b iha ihb=>
   intro K K' e h n hk hi;exact iha (λex e h n hx=>by cases ex<;>first|exact ihb hk hx|exact hk _ _ _ _ hx) hi
  |cond c a b iha ihb=>
   intro K K' e h n hk hi;refine ie (λv hv=> ?_) hi;unfold vL at hv ⊢;split at hv
   ·grind
   ·grind
   ·exact hv.elim
  |block id c ih=>
   intro K K' e h n hk hi;exact ih (λex e h n hx=>by
    cases ex with
    |exit i=>simp only [iK] at hx ⊢;split<;>rename_i hid<;>simp only [hid,cM,dP] at hx<;>exact hk _ _ _ _ hx
    |_=>exact hk _ _ _ _ hx) hi
  |loop c ih=>intro K K' e h n hk hi;exact Loop.mono hk hi
  |pX g ps a b=>intro K K' e h n hk hi;exact qb.mono hk hi
  |scope c ih=>intro K K' e h n hk hi;exact ih (λex e h n hx=>by cases ex<;>first|exact hx.elim|exact hk _ _ _ _ hx) hi
  |exit id=>intro K K' e h n hk hi;exact hk _ _ _ _ hi
  |ret=>intro K K' e h n hk hi;exact hk _ _ _ _ hi
  |bad=>intro K K' e h n hk hi;exact hi.elim
 refine key (λex e' h' n' hx=> ?_) h1;cases ex with
 |normal=>
  obtain ⟨⟨h1,h2⟩,h3,h4⟩:=hx;exact ⟨k+1,⟨⟨h1,h2⟩,by omega⟩,h3,h4⟩
 |_=>exact hx
end Go.Ab
namespace Go.Ab
def rows {α:Type} (f:α->List AV) (l:List α):List AV:=(l.map f).flatten
section
variable {α:Type} {f:α->List AV} {z:Nat}
theorem IL:rows f []=[]:=rfl
theorem cX {a:α} {l:List α}:rows f (a::l)=f a++rows f l:=rfl
theorem dO {l m:List α}:rows f (l++m)=rows f l++rows f m:=by simp [rows]
theorem aU (hf: ∀a,(f a).length=z): ∀{l:List α},(rows f l).length=l.length*z
 |[]=>by simp [rows]
 |a::l=>by rw [cX,cm,hf,aU hf,List.length_cons,gi,pD,vN]
theorem zc (hf: ∀a,(f a).length=z): ∀{l:List α} {k:Nat},(rows f l).drop (k*z)=rows f (l.drop k)
 |l,0=>by simp
 |[],k+1=>by simp [rows]
 |a::l,k+1=>by
  rw [cX,List.drop_append,hf,oE (l:=f a) (by grind),List.nil_append,show (k+1)*z-z=k*z by rw [gi];omega,zc hf]
  rfl
theorem vf (hf: ∀a,(f a).length=z): ∀{l:List α} {k:Nat},(rows f l).take (k*z)=rows f (l.take k)
 |l,0=>by simp [rows]
 |[],k+1=>by simp [rows]
 |a::l,k+1=>by
  rw [cX,List.take_append,hf,dN (l:=f a) (by grind),show (k+1)*z-z=k*z by rw [gi];omega,vf hf]
  rfl
theorem dm (hf: ∀a,(f a).length=z) {l:List α} {k:Nat} {a:α} (h:l[k]? =some a):aD (rows f l) (k*z) z=f a:=by
 unfold aD;rw [zc hf];have hk:k<l.length:=by
  grind
 rw [rE hk,cX]
 grind
theorem bM (hf: ∀a,(f a).length=z) {l:List α} {k j:Nat} {a:α} {v:AV} (h:l[k]? =some a) (hj:(f a)[j]? =some v):(rows f l)[k*z+j]? =some v:=by
 have h1:=dm hf h
 grind [eV,lu,aD,List.getElem?_take_of_lt,oA]
theorem dj {m:Nat}: ∀{l r:List AV},ab m (l++r)=(ab m l&&ab m r)
 |[],r=>by simp [ab]
 |a::l,r=>by simp [ab,dj (l:=l),Bool.and_assoc]
theorem bh {m:Nat} (hb: ∀a,ab m (f a)=true): ∀{l:List α},ab m (rows f l)=true
 |[]=>rfl
 |a::l=>by rw [cX,dj,hb,bh hb];rfl
def bc (z:Nat) (g:List AV->Option α):Nat->List AV->Option (List α)
 |0,[]=>some []
 |0,_=>none
 |n+1,c=>(g (c.take z)).bind λa=>(bc z g n (c.drop z)).bind λl=>some (a::l)
theorem bu {g:List AV->Option α} (hg: ∀c a,g c=some a->c=f a): ∀{n:Nat} {c:List AV} {l:List α},bc z g n c=some l->c=rows f l/\l.length=n
 |0,[],l,h=>by simp only [bc,aI] at h;subst h;exact ⟨rfl,rfl⟩
 |0,_::_,l,h=>by simp [bc] at h
 |n+1,c,l,h=>by
  simp only [bc,av,aI] at h;obtain ⟨a,ha,m,hm,rfl⟩:=h;obtain ⟨h1,h2⟩:=bu hg hm
  grind [cX,jr]
theorem dM {g:List AV->Option α} (hf: ∀a,(f a).length=z) (hg: ∀a,g (f a)=some a): ∀l:List α,bc z g l.length (rows f l)=some l
 |[]=>rfl
 |a::l=>by
  show (g ((rows f (a::l)).take z)).bind _=_;have h1:(rows f (a::l)).take z=f a:=by simp_all [cX]
  have h2:(rows f (a::l)).drop z=rows f l:=by simp_all [cX]
  rw [h1,hg,aC,h2,dM hf hg l];rfl
end
end Go.Ab
namespace Go.Ab
def aq (x:Int):List AV:=[.i .i64 x]
def dG:List AV->Option Int
 |[.i .i64 x]=>some x
 |_=>none
theorem df (c:List AV) (a:Int) (h:dG c=some a):c=aq a:=by
 unfold dG at h;split at h
 ·cases h;rfl
 ·cases h
theorem bR (x:Int):(aq x).length=1:=rfl
theorem gV (x:Int):ab 0 (aq x)=true:=rfl
def Qg:bp->Option Int
 |⟨[.i .i64 x],false,none,none,none⟩=>some x
 |_=>none
theorem Bz {k:bp} {x:Int} (h:Qg k=some x):k={cells:=aq x}:=by
 unfold Qg at h;split at h
 ·cases h;rfl
 ·cases h
theorem Ends.B7 {n0 n:Nat} {v v2:AV} {h h2:Hp} (hv:v.aj n0=true) (he:v=v2) (hh:mX n0 h h2):Ends n0 v h n v2 h2 n0:=by
 subst he;refine ⟨_root_.id,bx _,λ_ _=>rfl,λt x hx=> ?_,λb k hb=> ?_,λb1 b2 k1 k2 _ _ _ he=>he⟩
 ·grind [bC,AV.qu,_root_.id,bO]
 ·obtain ⟨h1,h2,h3⟩:=hh.get b k hb;refine ⟨?_,h2,h3⟩;simp only [_root_.id,bp.aQ,gI (ψ:=_root_.id) (λ_ _=>rfl) k.cells h2];exact h1
theorem Ends.Qo {n0 n b:Nat} {v v2:AV} {h:Hp} {k k2:bp} (hb:n0<=b) (hv:v2.aQ (λi=>if i=n0 then b else i)=v) (hvb:v2.aj (n0+1)=true) (hk:aa h b=some k) (hkb:ab 0 k2.cells=true) (hkk:k=k2):Ends n0 v h n v2 [(n0,k2)] (n0+1):=by
 subst hkk;refine ⟨λi=>if i=n0 then b else i,by omega,λi hi=>by grind,λt x hx=> ?_,λc kk hc=> ?_,λb1 b2 k1 k2 h1 h2 _ _=> ?_⟩
 ·grind [bC,bO]
 ·have hm:=lR hc;simp_all [gP,aV,List.not_mem_nil,or_false,au,bp.aQ,aJ]
 ·have hm1:=lR h1;have hm2:=lR h2
  grind
end Go.Ab
namespace Go.Ab
inductive Sh where
 |nil
 |sl (k:bp) (o len cap:Nat)
 |sg (k:bp) (o len:Nat)
def Sh.v:Sh->Nat->AV
 | .nil,_=> .ns
 | .sl _ o len cap,b=> .sl b o len cap
 | .sg _ o len,b=> .sg b o len
def Sh.h:Sh->Nat->Hp
 | .nil,_=>[]
 | .sl k _ _ _,b=>[(b,k)]
 | .sg k _ _,b=>[(b,k)]
def Sh.bl:Sh->Nat->List Nat
 | .nil,_=>[]
 | .sl _ _ _ _,b=>[b]
 | .sg _ _ _,b=>[b]
def Sh.len:Sh->Nat
 | .nil=>0
 | .sl _ _ len _=>len
 | .sg _ _ len=>len
def Sh.cs (z:Nat):Sh->List AV
 | .nil=>[]
 | .sl k o len _=>aD k.cells o (len*z)
 | .sg k o len=>aD k.cells o (len*z)
def Sh.plain:Sh->Bool
 | .nil=>true
 | .sl k _ _ _=>k.mp.isNone&&ab 0 k.cells
 | .sg k _ _=>k.mp.isNone&&ab 0 k.cells
structure Sh.is {α:Type} (f:α->List AV) (z:Nat) (s:Sh) (l:List α):Prop where
 pl:s.plain=true
 ln:s.len=l.length
 cs:s.cs z=rows f l
def Ix:AV->Nat
 | .sl b _ _ _=>b
 | .sg b _ _=>b
 |_=>0
section
variable {s t:Sh} {b c:Nat} {h r:Hp} {k:bp}
theorem zD (hc:c≠b):aa (t.h c++r) b=aa r b:=by
 cases t<;>simp [Sh.h,qJ,hc]
theorem Ha (hc:c≠b):iH (t.h c++r) b k=t.h c++iH r b k:=by
 cases t<;>simp [Sh.h,zW,hc]
theorem EF {l:List Nat} (hb:b≠c):inl (s.bl b++l) c=inl l c:=by cases s<;>simp [Sh.bl,jb,hb]
theorem Fa:(s.v b).cells=[s.v b]:=by cases s<;>rfl
theorem Te:(s.v b).one=true:=by cases s<;>rfl
theorem adS {ψ:Nat->Nat}:(s.v b).aQ ψ=s.v (ψ b):=by cases s<;>rfl
theorem abN {m:Nat} (hb:b<m):(s.v b).aj m=true:=by cases s<;>simp [Sh.v,AV.aj,aP,hb]
theorem aeq {α:Type} {kf:List AV->Nat->Option α} {kz:Option α} {k:AV->Option α}:DO (s.v b) kf kz k=k (s.v b):=by cases s<;>rfl
theorem NI {n:Nat}:Fy (s.v b) (some (true,({v:= .i .i64 0,n}:bV))) (λb o l c=>some (true,{v:= .i .i64 (l:Int),n})) (λb o l=>some (true,{v:= .i .i64 (l:Int),n}))=some (true,{v:= .i .i64 (s.len:Int),n}):=by
 cases s<;>rfl
theorem Q8 {n m:Nat} (h1:n<=b) (h2:b<m):Cu n m (s.h b)=true:=by
 cases s<;>simp [Sh.h,Cu,h1,h2]
theorem YZ {rd:List Nat} (h1:inl rd b=false):P1 (s.h b) rd=true:=by
 cases s<;>simp [Sh.h,P1,h1]
end
section
variable {P:Program}
theorem zu {ψ:Nat->Nat} {k:bp} (hk:ab 0 k.cells=true):k.aQ ψ=k:=by simp_all [bp.aQ,aJ]
end
end Go.Ab
namespace Go.Ab
section
variable {P:Program}
theorem aA.cast {f:FuncId} {args args':List AV} {h:Hp} {n:Nat} {E E':bV} (hk:aA P f args h n E) (ha:args=args') (hE:E=E'):aA P f args' h n E':=by
 grind
def Sh.fresh:Sh->Bool
 | .nil=>true
 | .sl k _ _ _=> !k.ro
 | .sg k _ _=> !k.ro
end
def rn:List (Nat×Nat)->Nat->Nat
 |[],b=>b
 |(c,d)::r,b=>if b=c then d else rn r b
theorem X7 {b:Nat}:rn [] b=b:=(rfl)
theorem NA {c d b:Nat} {r:List (Nat×Nat)}:rn ((c,d)::r) b=if b=c then d else rn r b:=(rfl)
def sE (m:List (Nat×Nat)) (n0 n2:Nat):Bool:=
 (List.range n0).all (λb=>rn m b==b)&&(List.range n2).all λb=>(List.range n2).all λc=> !(rn m b==rn m c)||b==c
def jz (n:Nat) (m:List (Nat×Nat)) (e:Env):Env->Prop
 |[]=>True
 |(t,v)::r=>bC e t=some (v.aQ (rn m))/\v.aj n=true/\jz n m e r
def iW (n:Nat) (m:List (Nat×Nat)) (h:Hp):Hp->Prop
 |[]=>True
 |(b,k)::r=>aa h (rn m b)=some (k.aQ (rn m))/\ab n k.cells=true/\b<n/\iW n m h r
def sC (h:Hp) (s:Sh) (c:Nat):Prop:= ∀d kk,aa (s.h c) d=some kk->aa h d=some kk
section
variable {n:Nat} {m:List (Nat×Nat)} {e:Env} {h r:Hp} {s t:Sh} {b c d:Nat} {k:bp}
theorem Jg:jz n m e []=True:=(rfl)
theorem HX {v:AV} {r:Env}:jz n m e ((b,v)::r)=(bC e b=some (v.aQ (rn m))/\v.aj n=true/\jz n m e r):=(rfl)
theorem OJ:iW n m h []=True:=(rfl)
theorem IM:iW n m h ((b,k)::r)=(aa h (rn m b)=some (k.aQ (rn m))/\ab n k.cells=true/\b<n/\iW n m h r):=(rfl)
theorem fi:sC (s.h c++r) s c=True:=by
 refine eq_true λd kk hh=> ?_;rw [oU,hh]
theorem fI:sC (s.h c) s c=True:=eq_true λd kk hh=>hh
theorem qG (hd:d≠c):sC ((d,k)::r) s c=sC r s c:=by
 have key: ∀i kk,aa (s.h c) i=some kk->i=c:=λi kk hh=>by have:=lR hh;cases s<;>simp [Sh.h] at this<;>exact this.1
 refine propext ⟨λhh i kk hi=> ?_,λhh i kk hi=> ?_⟩
 ·have:=hh i kk hi;rw [qJ,aY (by grind)] at this;exact this
 ·rw [qJ,aY (by grind)];exact hh i kk hi
theorem fW (hd:d≠c):sC (t.h d++r) s c=sC r s c:=by
 cases t<;>simp only [Sh.h,List.nil_append,ez]<;>exact qG hd
theorem Gc (hp:s.plain=true) (hb:b<n):iW n m h (s.h b++r)=(sC h s (rn m b)/\iW n m h r):=by
 cases s with
 |nil=>simp [Sh.h,sC,aa]
 |sl k o l cc=>
  have hp':ab 0 k.cells=true:=(lP.1 hp).2;simp only [Sh.h,ez,List.nil_append,iW,hb,au _ hp',lI,zu hp'];refine propext ⟨λhh=>⟨λi kk hi=> ?_,hh.2⟩,λhh=>⟨hh.1 _ _ (by simp [Sh.h,aa]),hh.2⟩⟩
  have:=lR hi;simp [Sh.h] at this;obtain ⟨rfl,rfl⟩:=this;exact hh.1
 |sg k o l=>
  have hp':ab 0 k.cells=true:=(lP.1 hp).2;simp only [Sh.h,ez,List.nil_append,iW,hb,au _ hp',lI,zu hp'];refine propext ⟨λhh=>⟨λi kk hi=> ?_,hh.2⟩,λhh=>⟨hh.1 _ _ (by simp [Sh.h,aa]),hh.2⟩⟩
  have:=lR hi;simp [Sh.h] at this;obtain ⟨rfl,rfl⟩:=this;exact hh.1
theorem KD (hp:s.plain=true) (hb:b<n):iW n m h (s.h b)=sC h s (rn m b):=by
 have:=Gc (m:=m) (h:=h) (r:=[]) hp hb
 grind [iW]
end
theorem jz.get {n:Nat} {m:List (Nat×Nat)} {e:Env}: ∀{e2:Env},jz n m e e2-> ∀t v,bC e2 t=some v->bC e t=some (v.aQ (rn m))/\v.aj n=true
 |[],_,t,v,h=>by simp [bC] at h
 |(s,u)::r,hi,t,v,h=>by
  simp only [bC] at h;by_cases hs:t=s
  ·subst hs;simp at h;subst h;exact ⟨hi.1,hi.2.1⟩
  ·rw [bO hs] at h;exact jz.get hi.2.2 t v h
theorem iW.get {n:Nat} {m:List (Nat×Nat)} {h:Hp}: ∀{h2:Hp},iW n m h h2-> ∀b k,aa h2 b=some k->aa h (rn m b)=some (k.aQ (rn m))/\ab n k.cells=true/\b<n
 |[],_,t,v,h=>by simp [aa] at h
 |(s,u)::r,hi,t,v,h=>by
  simp only [aa] at h;by_cases hs:t=s
  ·subst hs;simp at h;subst h;exact ⟨hi.1,hi.2.1,hi.2.2.1⟩
  ·rw [bO hs] at h;exact iW.get hi.2.2.2 t v h
theorem Wk.TR {n0 n n2:Nat} {m:List (Nat×Nat)} {e e2:Env} {h h2:Hp} (hn:n0<=n2) (hm:sE m n0 n2=true) (he:jz n2 m e e2) (hh:iW n2 m h h2):Wk n0 (rn m) e h n e2 h2 n2:=by
 simp only [sE,ak,du,vC,mA,gG,ik,CA] at hm;refine ⟨hn,λb hb=>hm.1 b hb,λt v ht=>he.get t v ht,λb k hb=>hh.get b k hb,λb1 b2 k1 k2 h1 h2 _ hE=> ?_⟩;rcases hm.2 b1 (hh.get b1 k1 h1).2.2 b2 (hh.get b2 k2 h2).2.2 with h'|h'
 all_goals omega
theorem Ends.R {n0 n n2:Nat} (m:List (Nat×Nat)) {v v2:AV} {h h2:Hp} (hn:n0<=n2) (hm:sE m n0 n2=true) (hv:v=v2.aQ (rn m)) (hb:v2.aj n2=true) (hh:iW n2 m h h2):Ends n0 v h n v2 h2 n2:=
 ⟨rn m,Wk.TR hn hm ⟨by simp_all [bC],hb,trivial⟩ hh⟩
theorem Loop.nM {F:Fx} (hcx:Sound F.P F.cx) (hm:F.P.follows .mixedOrders=true) {c:bb} {K:bX} {X:Type} (ok:X->Prop) (μ:X->Nat) (E:X->Env) (H:X->Hp) (n2:Nat) (x0:X) (nx:X->X) (m0:List (Nat×Nat)) (m:X->List (Nat×Nat))
 {e:Env} {h:Hp} {n:Nat} (hn:F.n0<=n2) (hm0:sE m0 F.n0 n2=true) (hm1: ∀x,sE (m x) F.n0 n2=true) (h0:ok x0) (he:jz n2 m0 e (E x0)) (hh:iW n2 m0 h (H x0))
 (round: ∀x,ok x->jw F c (fR K λe' h' n'=>(ok (nx x)/\μ (nx x)<μ x)/\jz n2 (m x) e' (E (nx x))/\iW n2 (m x) h' (H (nx x))) (E x) (H x) n2):Loop F.P F.ct F.N F.n0 c K e h n:=by
 refine Loop.inv (F:=F) hcx hm (X:={x:X // ok x}) (λk=>(E k.1,H k.1,n2)) (λk=>μ k.1) ⟨x0,h0⟩ (rn m0) (Wk.TR hn hm0 he hh) (λk=> ?_);refine qC (λex e' h' n' hx=> ?_) (aO (round k.1 k.2));cases ex with
 |normal=>
  obtain ⟨⟨h1,h2⟩,h3,h4⟩:=hx;exact ⟨⟨nx k.1,h1⟩,rn (m k.1),Wk.TR hn (hm1 k.1) h3 h4,h2⟩
 |_=>exact hx
attribute [go_sem] zD Ha EF Fa Te adS abN Q8 YZ X7 NA Jg HX OJ IM Gc KD fi fI qG fW
attribute [go_sem ↓] NI aeq
end Go.Ab
namespace Go.Ab
section
variable {P:Program}
end
end Go.Ab
namespace Go.Ab
section
variable {α:Type} {f:α->List AV} {z:Nat}
end
end Go.Ab
namespace Go.Ab
def Sh.o:Sh->Nat
 | .nil=>0
 | .sl _ o _ _=>o
 | .sg _ o _=>o
def Sh.cI:Sh->bp
 | .nil=>{cells:=[]}
 | .sl k _ _ _=>k
 | .sg k _ _=>k
section
variable {s t:Sh} {b c:Nat} {h r:Hp}
theorem Sh.is.cells {α:Type} {f:α->List AV} {z:Nat} {l:List α} (hs:s.is f z l) (hne:s≠ .nil):aD s.cI.cells s.o (l.length*z)=rows f l/\ab 0 s.cI.cells=true:=by
 obtain ⟨h1,h2,h3⟩:=hs;rw [<-h2];cases s with
 |nil=>exact absurd rfl hne
 |sl k o l c=>exact ⟨h3,(lP.1 h1).2⟩
 |sg k o l=>exact ⟨h3,(lP.1 h1).2⟩
end
end Go.Ab
namespace Go.Ab
end Go.Ab
namespace Go.Ab
theorem JW {cx:Cx} {e:Env} {h:Hp} {n:Nat} {x:cq}:cn cx (.lh x) e h n=(x.ev e h).bind λv=>AT v (some (true,{v:= .i .i64 0,n}))<|DO v (λl m=>some (true,{v:= .i .i64 (m:Int),n})) (some (true,{v:= .i .i64 0,n})) λv=>Fy v (some (true,{v:= .i .i64 0,n})) (λb o l c=>some (true,{v:= .i .i64 (l:Int),n})) (λb o l=>some (true,{v:= .i .i64 (l:Int),n})):=G6
theorem XD {α:Type} {s:Sh} {b:Nat} {ke k:Option α}:AT (s.v b) ke k=k:=by cases s<;>rfl
attribute [go_sem ↓ high] JW
attribute [go_sem ↓] XD
end Go.Ab
namespace Go.Ab
attribute [go_sem] ne_eq not_false_eq_true
end Go.Ab
namespace Go.Ab
theorem LH {s:Sh} {b:Nat}:(s.v b).cells=[s.v b]:=Fa
theorem VX {s:Sh} {b:Nat}:(s.v b).one=true:=Te
attribute [go_sem ↓ high] LH VX
end Go.Ab
namespace Go.Ab
end Go.Ab
namespace Go.Ab
def mz:List Nat->List (Nat×Option bp)
 |[]=>[]
 |b::r=>(b,none)::mz r
end Go.Ab
namespace Go.Ab
end Go.Ab
namespace Go.Ab
section
variable {v:AV} {n b c:Nat} {rd:List Nat} {s:Sh} {h:Hp} {k:bp} {md:List (Nat×Option bp)}
theorem Xm {pn:Option Value}:(bV.mk v n rd [] (s.h b) pn).fg h=s.h b++h:=(rfl)
theorem Ip:ja h []=h:=(rfl)
theorem EB:ja h ((b,some k)::md)=iH (ja h md) b k:=(rfl)
theorem EW:ja h ((b,none)::md)=oH (ja h md) b:=(rfl)
end
attribute [go_sem ↓] Xm Ip EB EW
end Go.Ab
namespace Go.Ab
end Go.Ab
namespace Go.Ab
section
variable {n b:Nat} {s:Sh} {h r:Hp}
end
end Go.Ab
namespace Go.Ab
section
variable {v:AV} {n b c:Nat} {rd:List Nat} {s t:Sh} {h:Hp}
end
end Go.Ab
namespace Go.Ab
theorem E1 {un:List Nat} {E E':bV} {i:Nat} {dn:List (Nat×bV)}:ry un E (nK i E' dn)=((!(inl un i)||kh E E')&&ry un E dn):=by
 have hn: ∀md:List (Nat×Option bp),IA md []=true:=by
  intro md;induction md with
  |nil=>rfl
  |cons x r ih=>simp [IA,inl,ih]
 unfold nK;split
 ·grind [kh,IA,P1]
 ·rfl
attribute [go_sem] E1
end Go.Ab
namespace Go.Ab
def uw (z bytes n:Nat) (h:Hp) (r0:List Nat) (m:Nat) (cs:List AV) (ok:Bool) (s:AV):Option (Bool×bV):=
 DO s (λl len=>jt (decide (m=0)) (some (ok,{v:= .fz l len,n,rd:=r0})) none) (jt (decide (m=0)) (some (ok,{v:= .ze,n,rd:=r0})) (some (ok&&decide (bytes*m<=az),{v:= .sg n 0 m,n:=n+1,rd:=r0,nw:=[(n,{cells:=cs,gr:=some z})]}))) λs=>Fy s
  (jt (decide (m=0)) (some (ok,{v:= .ns,n,rd:=r0})) (some (ok&&decide (bytes*m<=az),{v:= .sg n 0 m,n:=n+1,rd:=r0,nw:=[(n,{cells:=cs,gr:=some z})]})))
  (λb o len cap=>jt (decide (m=0)) (some (ok&&decide (len<=cap),{v:= .sl b o len cap,n,rd:=r0}))
    ((jo h b).bind λk=>jt (decide (len+m<=cap))
      (Nc k.ro (some (ok&&decide (o+len*z+cs.length<=k.cells.length)&&aL cs,{v:= .sl b o (len+m) cap,n,rd:=b::r0,md:=[(b,some {k with cells:=eU k.cells (o+len*z) cs})]})))
      (some (ok&&decide (bytes*(len+m)<=az)&&decide ((aD k.cells o (len*z)).length=len*z)&&decide (len<=cap),{v:= .sg n 0 (len+m),n:=n+1,rd:=b::r0,nw:=[(n,{cells:=aD k.cells o (len*z)++cs,gr:=some z})]}))))
  (λb o len=>jt (decide (m=0)) (some (ok,{v:= .sg b o len,n,rd:=r0}))
    ((jo h b).bind λk=>Tq k.gr λz'=>jt (decide (k.cells.length=o+len*z)) (some (ok&&decide (bytes*(len+m)<=az)&&Nat.beq z z'&&decide (k.cells.length=o+len*z)&&aL cs,{v:= .sg n 0 (len+m),n:=n+1,rd:=b::r0,md:=[(b,none)],nw:=[(n,{cells:=k.cells.drop o++cs,gr:=some z})]})) (some (ok&&decide (bytes*(len+m)<=az)&&Nat.beq z z'&&decide (o+len*z<=k.cells.length)&&aL cs,{v:= .sg n 0 (len+m),n:=n+1,rd:=b::r0,md:=[(b,none)],nw:=[(n,{cells:=aD k.cells o (len*z)++cs,gr:=some z})]}))))
@[congr] theorem appV_congr {z bytes n m:Nat} {h:Hp} {r0:List Nat} {cs cs':List AV} {ok ok':Bool} {s s':AV} (h1:cs=cs') (h2:ok=ok') (h3:s=s'):uw z bytes n h r0 m cs ok s=uw z bytes n h r0 m cs' ok' s':=by grind
section
variable {cx:Cx} {e:Env} {h:Hp} {n z bytes:Nat} {r0:List Nat} {m:Nat} {cs:List AV} {ok:Bool}
theorem Re {zs:List AV} {s x:cq}:cn cx (.app z bytes zs s x) e h n=(s.ev e h).bind λs=>(x.ev e h).bind λx=>CO h z x λr0 m cs ok=>uw z bytes n h r0 m cs ok s:=Me
theorem Wh:uw z bytes n h r0 m cs ok .ze=(jt (decide (m=0)) (some (ok,{v:= .ze,n,rd:=r0})) (some (ok&&decide (bytes*m<=az),{v:= .sg n 0 m,n:=n+1,rd:=r0,nw:=[(n,{cells:=cs,gr:=some z})]}))):=(rfl)
theorem LZ:uw z bytes n h r0 m cs ok .ns=(jt (decide (m=0)) (some (ok,{v:= .ns,n,rd:=r0})) (some (ok&&decide (bytes*m<=az),{v:= .sg n 0 m,n:=n+1,rd:=r0,nw:=[(n,{cells:=cs,gr:=some z})]}))):=(rfl)
theorem Wi {b o len cap:Nat}:uw z bytes n h r0 m cs ok (.sl b o len cap)=(jt (decide (m=0)) (some (ok&&decide (len<=cap),{v:= .sl b o len cap,n,rd:=r0}))
 ((jo h b).bind λk=>jt (decide (len+m<=cap))
   (Nc k.ro (some (ok&&decide (o+len*z+cs.length<=k.cells.length)&&aL cs,{v:= .sl b o (len+m) cap,n,rd:=b::r0,md:=[(b,some {k with cells:=eU k.cells (o+len*z) cs})]})))
   (some (ok&&decide (bytes*(len+m)<=az)&&decide ((aD k.cells o (len*z)).length=len*z)&&decide (len<=cap),{v:= .sg n 0 (len+m),n:=n+1,rd:=b::r0,nw:=[(n,{cells:=aD k.cells o (len*z)++cs,gr:=some z})]})))):=(rfl)
theorem Et {b len:Nat}:uw z bytes n h r0 m cs ok (.sg b 0 len)=(jt (decide (m=0)) (some (ok,{v:= .sg b 0 len,n,rd:=r0}))
 ((jo h b).bind λk=>Tq k.gr λz'=>jt (decide (k.cells.length=len*z)) (some (ok&&decide (bytes*(len+m)<=az)&&Nat.beq z z'&&decide (k.cells.length=len*z)&&aL cs,{v:= .sg n 0 (len+m),n:=n+1,rd:=b::r0,md:=[(b,none)],nw:=[(n,{cells:=k.cells++cs,gr:=some z})]})) (some (ok&&decide (bytes*(len+m)<=az)&&Nat.beq z z'&&decide (len*z<=k.cells.length)&&aL cs,{v:= .sg n 0 (len+m),n:=n+1,rd:=b::r0,md:=[(b,none)],nw:=[(n,{cells:=aD k.cells 0 (len*z)++cs,gr:=some z})]})))):=by
 have e:uw z bytes n h r0 m cs ok (.sg b 0 len)=(jt (decide (m=0)) (some (ok,{v:= .sg b 0 len,n,rd:=r0}))
  ((jo h b).bind λk=>Tq k.gr λz'=>jt (decide (k.cells.length=0+len*z)) (some (ok&&decide (bytes*(len+m)<=az)&&Nat.beq z z'&&decide (k.cells.length=0+len*z)&&aL cs,{v:= .sg n 0 (len+m),n:=n+1,rd:=b::r0,md:=[(b,none)],nw:=[(n,{cells:=k.cells.drop 0++cs,gr:=some z})]})) (some (ok&&decide (bytes*(len+m)<=az)&&Nat.beq z z'&&decide (0+len*z<=k.cells.length)&&aL cs,{v:= .sg n 0 (len+m),n:=n+1,rd:=b::r0,md:=[(b,none)],nw:=[(n,{cells:=aD k.cells 0 (len*z)++cs,gr:=some z})]})))):=rfl
 grind
end
attribute [go_sem ↓ high] Re
attribute [go_sem ↓] LZ Wi Et Wh
def gQ {α:Type} (f:α->List AV) (z:Nat) (l:List α):Sh:=if l.length=0 then .nil else .sg {cells:=rows f l,gr:=some z} 0 l.length
def gS {α:Type} (f:α->List AV) (z:Nat) (l:List α) (cs:List AV):Sh:= .sg {cells:=rows f l++cs,gr:=some z} 0 (l.length+1)
section
variable {α:Type} {f:α->List AV} {z:Nat} {l:List α}
theorem pO:gQ f z []= .nil:=rfl
theorem ji {a:α}:gQ f z (l++[a])=gS f z l (f a):=by
 simp [gQ,gS,cm,rows]
theorem p7 (hb: ∀a,ab 0 (f a)=true) (hf: ∀a,(f a).length=z) (l:List α):(gQ f z l).is f z l:=by
 unfold gQ;split
 ·rename_i h;have:l=[]:=fq h;subst this;exact ⟨rfl,rfl,rfl⟩
 ·exact ⟨bh hb,rfl,by show aD _ 0 _=_;grind [aD,dk,aU,jh]⟩
theorem B9 (l:List α):(gQ f z l).fresh=true:=by unfold gQ;split<;>rfl
end
def rI (s:Sh) (b:Nat) (h:Hp):Hp:=ja h (mz (s.bl b))
section
variable {s t:Sh} {b c:Nat} {h r:Hp} {k:bp}
theorem uR:rI s b []=[]:=by cases s<;>rfl
theorem r9 (hc:c≠b):rI s b ((c,k)::r)=(c,k)::rI s b r:=by
 cases s with
 |nil=>rfl
 |sl k o l cc=>exact (nI (c:=c)).trans (aY hc)
 |sg k o l=>exact (nI (c:=c)).trans (aY hc)
theorem y6:rI s b (s.h b++r)=rI s b r:=by
 cases s with
 |nil=>rfl
 |sl k o l cc=>exact (nI (c:=b)).trans (aT rfl)
 |sg k o l=>exact (nI (c:=b)).trans (aT rfl)
theorem Eu:rI s b (s.h b)=[]:=by
 have:=y6 (s:=s) (b:=b) (r:=[])
 grind [dh,uR]
theorem yr (hc:c≠b):rI s b (t.h c++r)=t.h c++rI s b r:=by
 cases t with
 |nil=>rfl
 |sl k o l cc=>exact r9 hc
 |sg k o l=>exact r9 hc
theorem Dr (hc:c≠b):rI s b (t.h c)=t.h c:=by
 have:=yr (s:=s) (t:=t) (r:=[]) hc
 grind [dh,uR]
end
theorem Sg {pn:Option Value} {v:AV} {n b c:Nat} {rd:List Nat} {s t:Sh} {h:Hp}:(bV.mk v n rd (mz (s.bl b)) (t.h c) pn).fg h=rI s b (t.h c++h):=(rfl)
section
variable {α:Type} {f:α->List AV} {z bytes n b:Nat} {l:List α} {h:Hp} {r0:List Nat} {cs:List AV} {ok:Bool}
theorem Yc (hh:sC h (gQ f z l) b) (ho:aL cs=true) (hf:(rows f l).length=l.length*z):uw z bytes n h r0 1 cs ok ((gQ f z l).v b)=
 some (ok&&decide (bytes*(l.length+1)<=az),{v:=(gS f z l cs).v n,n:=n+1,rd:=(gQ f z l).bl b++r0,md:=mz ((gQ f z l).bl b),nw:=(gS f z l cs).h n}):=by
 revert hh;unfold gQ;split
 ·rename_i hl;have:l=[]:=fq hl;subst this;intro _;rfl
 ·intro hh;have:=JT (hh b {cells:=rows f l,gr:=some z} (by simp [Sh.h,aa])) rfl
  show uw z bytes n h r0 1 cs ok (.sg b 0 l.length)=_;rw [Et,this,bw (by decide: ¬(1:Nat)=0),uJ,rX]
  simp only [KZ,ho,hf,jW,qj,eu];rfl
end
attribute [go_sem ↓] Sg
attribute [go_sem] Yc uR r9 y6 Eu yr Dr
end Go.Ab
namespace Go.Ab
def SX (z n:Nat) (h:Hp) (m:Int) (v:AV):Option (Bool×bV):=DO v (λl len=>some ((aM len len none (some m) none).1,{v:= .fz (l.drop ((aM len len none (some m) none).2.1*z)) ((aM len len none (some m) none).2.2.1-(aM len len none (some m) none).2.1),n}))
 (some ((aM 0 0 none (some m) none).1,{v:= .ze,n})) λv=>Fy v
 (some ((aM 0 0 none (some m) none).1,{v:= .ns,n}))
 (λb o len cap=>some ((aM len cap none (some m) none).1,{v:= .sl b (if (aM len cap none (some m) none).2.2.2=(aM len cap none (some m) none).2.1 then o else o+(aM len cap none (some m) none).2.1*z) ((aM len cap none (some m) none).2.2.1-(aM len cap none (some m) none).2.1) ((aM len cap none (some m) none).2.2.2-(aM len cap none (some m) none).2.1),n}))
 (λb o len=>(jo h b).bind λk=>Tq k.gr λz'=>
   jt (decide ((aM len len none (some m) none).2.1=0\/(aM len len none (some m) none).2.1<len)) (some ((aM len len none (some m) none).1&&Nat.beq z z',{v:= .sg b (o+(aM len len none (some m) none).2.1*z) ((aM len len none (some m) none).2.2.1-(aM len len none (some m) none).2.1),n,rd:=[b]})) (some ((aM len len none (some m) none).1&&Nat.beq z z',{v:= .en,n,rd:=[b]})))
section
variable {cx:Cx} {e:Env} {h:Hp} {n z:Nat} {m:Int}
theorem X9 {x hi:cq}:cn cx (.vW z x none (some hi) none) e h n=(x.ev e h).bind λv=>(hi.ev e h).bind λw=>(Dx w).bind λm=>SX z n h m v:=by
 rw [Mm];cases hx:x.ev e h with
 |none=>rfl
 |some v=>
  simp only [aC,lx,sf];cases hhi:hi.ev e h with
  |none=>
   simp only [Option.bind_none];cases v<;>try rfl
   ·simp [Gh,Fk,jo]
  |some w=>
   simp only [aC];cases Dx w with
   |none=>
    simp only [Option.bind_none];cases v<;>try rfl
    ·simp [Gh,Fk,jo]
   |some m=>rfl
theorem Yn {l:List AV} {len:Nat}:SX z n h m (.fz l len)=some (decide (0<=m/\m<=(len:Int)),{v:= .fz l m.toNat,n}):=by
 show some (_,_)=some (_,_);simp [fM,tF,aM]
theorem UG {b o len cap:Nat}:SX z n h m (.sl b o len cap)=some (decide (0<=m/\m<=(cap:Int)),{v:= .sl b o m.toNat cap,n}):=by
 show some (_,_)=some (_,_);simp [fM,tF,aM]
theorem WX {b o len:Nat}:SX z n h m (.sg b o len)=(jo h b).bind λk=>Tq k.gr λz'=>some (decide (0<=m/\m<=(len:Int))&&Nat.beq z z',{v:= .sg b o m.toNat,n,rd:=[b]}):=by
 show (jo h b).bind _=(jo h b).bind _;congr 1;funext k;congr 1;funext z';refine dC some (Prod.ext ?_ ?_);all_goals simp [fM,tF,aM]
end
def Sh.cut (s:Sh) (m:Nat):Sh:=match s with
 | .nil=> .nil
 | .sl k o _ cap=> .sl k o m cap
 | .sg k o _=> .sg k o m
section
variable {s:Sh} {b c z n:Nat} {h r:Hp} {m:Int}
theorem O4 {k:Nat} (hk:k<=s.len):(s.cut k).len=k:=by cases s<;>simp_all [Sh.cut,Sh.len]
theorem zT {k:Nat}:(s.cut k).plain=s.plain:=by cases s<;>rfl
theorem Sh.is.cut {α:Type} {f:α->List AV} {l:List α} (hf: ∀a,(f a).length=z) (hs:s.is f z l) {k:Nat} (hk:k<=l.length):(s.cut k).is f z (l.take k):=by
 have hln:=hs.ln;refine ⟨by rw [zT];exact hs.pl,by grind [O4,fY],?_⟩
 have hc:=hs.cs;have key: ∀(c:List AV) (o:Nat),aD c o (l.length*z)=rows f l->aD c o (k*z)=rows f (l.take k):=by
  intro c o hco;rw [<-vf hf,<-hco]
  grind [aD,List.take_take,vH]
 cases s with
 |nil=>
  simp only [Sh.len] at hln;have:l=[]:=fq hln.symm;subst this;simp [Sh.cut,Sh.cs,rows]
 |sl q o len cap=>
  simp only [Sh.len] at hln;simp only [Sh.cs,hln] at hc;exact key _ _ hc
 |sg q o len=>
  simp only [Sh.len] at hln;simp only [Sh.cs,hln] at hc;exact key _ _ hc
end
attribute [go_sem ↓ high] X9
attribute [go_sem ↓] UG WX Yn
attribute [go_sem] zT
end Go.Ab
namespace Go.Ab
def cU (F:Fx) (c:bb) (K:bX) (e:Env) (h:Hp) (n:Nat):Prop:= ∀c',bt F.P F.ct F.N c'=c->WP F.P F.N F.n0 c' K e h n
section
variable {F:Fx} {a b c:bb} {K:bX} {e:Env} {h:Hp} {n:Nat}
theorem cU.run (hcx:Sound F.P F.cx) (hm:F.P.follows .mixedOrders=true) (hi:jw F c K e h n):cU F c K e h n:=λc' hc'=>gZ F hcx hm c' _ _ _ _ (by grind [aO])
theorem cU.seq (hi:cU F a (fR K (cU F b K)) e h n):cU F (.seq a b) K e h n:=λc' hc'=>by
 obtain ⟨x,y,rfl,hx,hy⟩:=NV hc';intro ro hro B D0 φ0 H0 w0 h1 h2 D φ a w hR hS;refine wpIn_seq (wpIn_mono (hi x hx ro (hro.imp _root_.id (λh=>by simp_all [j6,ak])) B D0 φ0 H0 w0 h1 h2 D φ a w hR hS) (λex a' w' hp=> ?_))
 obtain ⟨D',φ',e',h',n',hk,hn',hR',hS'⟩:=hp;cases ex with
 |normal=>exact hk y hy ro (hro.imp _root_.id (λh=>by simp_all [j6,ak])) B D0 φ0 H0 w0 h1 hn' D' φ' a' w' hR' hS'
 |exit id=>exact ⟨D',φ',e',h',n',hk,hn',hR',hS'⟩
 |goto l=>exact ⟨D',φ',e',h',n',hk,hn',hR',hS'⟩
 |ret=>exact ⟨D',φ',e',h',n',hk,hn',hR',hS'⟩
 |panic ch=>exact ⟨D',φ',e',h',n',hk,hn',hR',hS'⟩
 |outgrown=>exact ⟨D',φ',e',h',n',hk,hn',hR',hS'⟩
theorem cU.part (hcx:Sound F.P F.cx) (hm:F.P.follows .mixedOrders=true) (hi:jw F a (fR K (cU F b K)) e h n):cU F (.seq a b) K e h n:=cU.seq (cU.run hcx hm hi)
theorem cU.block {id:Nat} (hi:cU F a (iK id K) e h n):cU F (.block id a) K e h n:=λc' hc'=>by
 obtain ⟨x,rfl,hx⟩:=Hu hc';intro ro hro B D0 φ0 H0 w0 h1 h2 D φ a w hR hS;refine wpIn_block (wpIn_mono (hi x hx ro hro B D0 φ0 H0 w0 h1 h2 D φ a w hR hS) (λex a' w' hp=> ?_));obtain ⟨D',φ',e',h',n',hk,hn',hR',hS'⟩:=hp;cases ex with
 |exit i=>
  simp only [iK] at hk;simp only [Exit.inBlock];split
  ·rename_i hid;rw [aT hid] at hk;exact ⟨D',φ',e',h',n',hk,hn',hR',hS'⟩
  ·rename_i hid;rw [aY hid] at hk;exact ⟨D',φ',e',h',n',hk,hn',hR',hS'⟩
 |normal=>exact ⟨D',φ',e',h',n',hk,hn',hR',hS'⟩
 |goto l=>exact ⟨D',φ',e',h',n',hk,hn',hR',hS'⟩
 |ret=>exact ⟨D',φ',e',h',n',hk,hn',hR',hS'⟩
 |panic ch=>exact ⟨D',φ',e',h',n',hk,hn',hR',hS'⟩
 |outgrown=>exact ⟨D',φ',e',h',n',hk,hn',hR',hS'⟩
theorem cU.aQ {e2:Env} {h2:Hp} {n2:Nat} (m:List (Nat×Nat)) (hs:cU F c K e2 h2 n2) (hn:F.n0<=n2) (hm:sE m F.n0 n2=true) (he:jz n2 m e e2) (hh:iW n2 m h h2):cU F c K e h n:=
 λc' hc'=>WP.weaken (Wk.TR hn hm he hh) (hs c' hc')
end
section
variable {α:Type} {f:α->List AV} {z:Nat} {l:List α} {s:Sh} {b:Nat} {h:Hp}
theorem iy {x y:List AV}:aL (x++y)=(aL x&&aL y):=by
 induction x with
 |nil=>rfl
 |cons a x ih=>simp only [ez,aL,ih,Bool.and_assoc]
theorem dr (h1: ∀a,aL (f a)=true): ∀l:List α,aL (rows f l)=true
 |[]=>rfl
 |a::l=>by rw [cX,iy,h1,dr h1 l];rfl
end
end Go.Ab
namespace Go.Ab
section
variable {k:bp} {o l c b:Nat} {h:Hp}
theorem Wy:Sh.nil.v b= .ns:=(rfl)
theorem acy:(Sh.sg k o l).v b= .sg b o l:=(rfl)
theorem X1:Sh.nil.h b=[]:=(rfl)
theorem adt:(Sh.sg k o l).h b=[(b,k)]:=(rfl)
end
attribute [go_sem] Wy acy X1 adt
end Go.Ab
namespace Go.Ab
open Go.ChangeShapes Go.WideShapes
inductive Ty where
 |b
 |i (k:IntKind)
 |s
 |st (l:List Ty)
 |ar (n:Nat) (T:Ty)
mutual
def Ty.size:Ty->Nat
 | .b=>1
 | .i _=>1
 | .s=>1
 | .st l=>zN l
 | .ar n T=>n*T.size
def zN:List Ty->Nat
 |[]=>0
 |T::r=>T.size+zN r
end
mutual
def mL (P:Program):Ty->TypeId->Bool
 | .b,t=>match P.underlying t with|some .bool=>Nat.beq (P.cellsOf t) 1|_=>false
 | .i k,t=>match P.underlying t with|some (.int k')=>decide (k'=k)&&Nat.beq (P.cellsOf t) 1|_=>false
 | .s,t=>match P.underlying t with|some .string=>Nat.beq (P.cellsOf t) 1|_=>false
 | .st Ts,t=>match P.underlying t with|some (.struct fs)=>zf P Ts fs.toList 0&&Nat.beq (P.cellsOf t) (zN Ts)|_=>false
 | .ar n T,t=>match P.underlying t with|some (.array n' e)=>Nat.beq n' n&&mL P T e&&Nat.beq (P.cellsOf t) (n*T.size)|_=>false
def zf (P:Program):List Ty->List Field->Nat->Bool
 |[],[],_=>true
 |T::Ts,f::fs,o=>Nat.beq f.offset o&&mL P T f.type&&zf P Ts fs (o+T.size)
 |_,_,_=>false
end
mutual
def Flat:Ty->List AV->Prop
 | .b,l=> ∃x,l=[.b x]
 | .i k,l=> ∃n,l=[.i k n]/\k.min<=n/\n<=k.max
 | .s,l=> ∃x,l=[.s x]/\x.length<=maxLen
 | .st Ts,l=>Lz Ts l
 | .ar n T,l=> ∃ls:List (List AV),ls.length=n/\l=ls.flatten/\ ∀x∈ls,Flat T x
def Lz:List Ty->List AV->Prop
 |[],l=>l=[]
 |T::Ts,l=> ∃a r,l=a++r/\Flat T a/\Lz Ts r
end
section
variable {H:Type} {enc:TypeId×Value->H} {P:Program} {w:World} {base:Nat} {sp:Nat->Bool} {held:Bool} {D:Nat->Prop} {φ:bP}
theorem sA: ∀{T:Ty} {t:TypeId},mL P T t=true->P.cellsOf t=T.size
 | .b,t,h=>by simp only [mL] at h;split at h<;>first|exact ee h|cases h
 | .i k,t,h=>by
  simp only [mL] at h;split at h
  ·simp only [ak] at h;exact ee h.2
  ·cases h
 | .s,t,h=>by simp only [mL] at h;split at h<;>first|exact ee h|cases h
 | .st Ts,t,h=>by
  simp only [mL] at h;split at h
  ·simp only [ak] at h;exact ee h.2
  ·cases h
 | .ar n T,t,h=>by
  simp only [mL] at h;split at h
  ·simp only [ak] at h;exact ee h.2
  ·cases h
theorem yz {t e:TypeId} {n:Nat} {fuel:Nat} {cs:List Value} {x:DataW H×List MemPlace} (ht:P.underlying t=some (.array n e)) (h:DataW.trod enc P w base sp held fuel t cs=some x):
 ∃m,cs.length=P.cellsOf t/\ ∀i,i<n-> ∃y,DataW.trod enc P w base sp held m e ((cs.drop (i*P.cellsOf e)).take (P.cellsOf e))=some y:=by
 cases fuel with
 |zero=>simp [DataW.trod] at h
 |succ m=>
  unfold DataW.trod at h;rw [ht] at h;split at h<;>simp_all;obtain ⟨hl,xs,hp,hd⟩:=h;refine ⟨m,λi hi=> ?_⟩;have h1:=mapM_some_length hp;have h2:=mapM_some_get hp i i (by simp [hi])
  simp at h1;exact ⟨xs[i].1,xs[i].2,by grind⟩
mutual
theorem qv: ∀{T:Ty} {t:TypeId} {fuel:Nat} {cs:List Value} {x:DataW H×List MemPlace},mL P T t=true->DataW.trod enc P w base sp held fuel t cs=some x-> ∃l,Flat T l/\cw D φ l cs
 | .b,t,fuel,cs,x,hT,h=>by
  simp only [mL] at hT;split at hT
  ·rename_i hu;obtain ⟨b,rfl,_⟩:=DataW.trod_bool hu h;exact ⟨[.b b],⟨b,rfl⟩,.cons (.b b) .nil⟩
  ·cases hT
 | .i k,t,fuel,cs,x,hT,h=>by
  simp only [mL] at hT;split at hT
  ·rename_i k' hu;simp only [ak,bg] at hT;obtain ⟨rfl,_⟩:=hT;obtain ⟨n,rfl,_,hw⟩:=DataW.trod_int hu h;simp only [Lit.wf,ak,bg] at hw;exact ⟨[.i k' n],⟨n,rfl,hw⟩,.cons (.i k' n) .nil⟩
  ·cases hT
 | .s,t,fuel,cs,x,hT,h=>by
  simp only [mL] at hT;split at hT
  ·rename_i hu;obtain ⟨s,rfl,_,hs⟩:=DataW.trod_string hu h;refine ⟨[.s s.data.toList],⟨s.data.toList,rfl,by simpa using hs⟩,.cons ?_ .nil⟩
   have:=aK.s (D:=D) (φ:=φ) s.data.toList;simpa using this
  ·cases hT
 | .st Ts,t,fuel,cs,x,hT,h=>by
  simp only [mL] at hT;split at hT
  ·rename_i fs hu;simp only [ak] at hT;obtain ⟨xs,n,_,_,hl,hxl,hall⟩:=DataW.trod_struct hu h;rw [ee hT.2] at hl;obtain ⟨l,h1,h2⟩:=xX (fuel:=n) (cs:=cs) hT.1 (by omega) (λf hf=>by
    obtain ⟨i,hi⟩:=gF hf;have h1:=hall i f (by simpa using hi)
    have hlt:i<fs.size:=by
     have:=(cv.1 hi).1;simpa using this
    rw [h1];exact ⟨xs[i],by simp [hxl,hlt]⟩)
   exact ⟨l,h1,by simpa using h2⟩
  ·cases hT
 | .ar n T,t,fuel,cs,x,hT,h=>by
  simp only [mL] at hT;split at hT
  ·rename_i n' e hu;simp only [ak] at hT;obtain ⟨⟨hn,hT1⟩,hT2⟩:=hT;have hn:=ee hn;subst hn;obtain ⟨m,hl,hall⟩:=yz hu h;rw [ee hT2] at hl;have hsz:=sA hT1;have key: ∀m',m'<=n'-> ∃ls:List (List AV),ls.length=m'/\(∀x∈ls,Flat T x)/\cw D φ ls.flatten (cs.take (m'*T.size)):=by
    intro m';induction m' with
    |zero=>intro _;exact ⟨[],rfl,(λx hx=>by cases hx),by simpa using cw.nil⟩
    |succ m' ih=>
     intro hm;obtain ⟨ls,h1,h2,h3⟩:=ih (by omega)
     obtain ⟨y,hy⟩:=hall m' (by omega)
     rw [hsz] at hy;obtain ⟨l,g1,g2⟩:=qv hT1 hy;refine ⟨ls++[l],by simp [h1],λx hx=> ?_,?_⟩
     ·rcases xn.1 hx with hx|hx
      ·exact h2 x hx
      ·simp at hx;subst hx;exact g1
     ·have:cs.take ((m'+1)*T.size)=cs.take (m'*T.size)++(cs.drop (m'*T.size)).take T.size:=by
       rw [gi,pD,List.take_add]
      rw [this];simpa using h3.append g2
   obtain ⟨ls,h1,h2,h3⟩:=key n' (bx _);refine ⟨ls.flatten,⟨ls,h1,rfl,h2⟩,?_⟩;rw [dN (by omega)] at h3
   exact h3
  ·cases hT
theorem xX: ∀{Ts:List Ty} {fs:List Field} {o:Nat} {fuel:Nat} {cs:List Value},zf P Ts fs o=true->cs.length=o+zN Ts->(∀f∈fs,∃y,DataW.trod enc P w base sp held fuel f.type ((cs.drop f.offset).take (P.cellsOf f.type))=some y)-> ∃l,Lz Ts l/\cw D φ l (cs.drop o)
 |[],[],o,fuel,cs,_,hl,_=>⟨[],rfl,by
  rw [oE (by simp only [zN] at hl;omega)];exact .nil⟩
 |[],_::_,o,fuel,cs,h,_,_=>by simp [zf] at h
 |_::_,[],o,fuel,cs,h,_,_=>by simp [zf] at h
 |T::Ts,f::fs,o,fuel,cs,h,hl,hall=>by
  simp only [zf,ak] at h;obtain ⟨⟨ho,hT⟩,hr⟩:=h;have ho:=ee ho;obtain ⟨y,hy⟩:=hall f iQ;rw [ho,sA hT] at hy;obtain ⟨a,g1,g2⟩:=qv hT hy;simp only [zN] at hl;obtain ⟨r,g3,g4⟩:=xX (cs:=cs) hr (by omega) (λf hf=>hall f (hJ _ hf))
  refine ⟨a++r,⟨a,r,rfl,g1,g3⟩,?_⟩;have:=g2.append g4;rwa [<-tG,jr] at this
end
end
inductive Ty2 where
 |f (T:Ty)
 |sl (T:Ty)
def Ty.wide:Ty->Bool
 | .st _=>true
 | .ar _ _=>true
 |_=>false
def mkArg (T:Ty) (l:List AV):AV:=
 match T.wide with
 |true=> .agg l
 |false=>l.headD .np
section
variable {H:Type} {enc:TypeId×Value->H} {P:Program} {W:World} {sp:Nat->Bool} {held:Bool}
structure Ik (j m:Nat) (h:Hp) (D:Nat->Prop) (φ:bP) (W:World):Prop where
 at_: ∀b k,aa h b=some k->j<=b/\b<m/\k.ro=true/\D b/\Ew D φ W b k
theorem Hh {T:Ty} {t:TypeId} {r:Reach} {base:Nat} {v:Value} {d:DataW H} {ps:List MemPlace} {D:Nat->Prop} {φ:bP} (hT:mL P T t=true) (hval:Value.okWide P W r base t v)
 (h:DataW.Trod enc P W 0 sp held t v d ps): ∃l,Flat T l/\aK D φ (mkArg T l) v:=by
 obtain ⟨fuel,h⟩:=h;obtain ⟨l,h1,h2⟩:=qv (D:=D) (φ:=φ) hT h;refine ⟨l,h1,?_⟩;cases T with
 |b=>
  simp only [mL] at hT;split at hT
  ·rename_i hu;obtain ⟨x,rfl⟩:=h1;obtain ⟨b,hc,_⟩:=DataW.trod_bool hu h;simp only [Value.okWide,hu,Cell.okWide] at hval;cases v<;>simp [Cell.ok,hu] at hval;rw [hc] at h2;obtain ⟨u,m,he,hr,_⟩:=h2.eB;simp at he;simp [Value.cells] at hc;rw [<-hc] at he;rw [<-he.1] at hr;exact hr
  ·cases hT
 |i k=>
  simp only [mL] at hT;split at hT
  ·rename_i k' hu;obtain ⟨x,rfl,_⟩:=h1;obtain ⟨b,hc,_⟩:=DataW.trod_int hu h;simp only [Value.okWide,hu,Cell.okWide] at hval;cases v<;>simp [Cell.ok,hu] at hval;rw [hc] at h2;obtain ⟨u,m,he,hr,_⟩:=h2.eB;simp at he;simp [Value.cells] at hc;obtain ⟨rfl,rfl⟩:=hc;rw [<-he.1] at hr;exact hr
  ·cases hT
 |s=>
  simp only [mL] at hT;split at hT
  ·rename_i hu;obtain ⟨x,rfl,_⟩:=h1;obtain ⟨b,hc,_⟩:=DataW.trod_string hu h;simp only [Value.okWide,hu,Cell.okWide] at hval;cases v<;>simp [Cell.ok,hu] at hval;rw [hc] at h2;obtain ⟨u,m,he,hr,_⟩:=h2.eB;simp at he;simp [Value.cells] at hc;subst hc;rw [<-he.1] at hr;exact hr
  ·cases hT
 |st Ts=>
  simp only [mL] at hT;split at hT
  ·rename_i fs hu;simp only [Value.okWide,hu] at hval;obtain ⟨cs,rfl,_⟩:=hval;have:aK D φ (.agg l) (.agg cs):=by
    have:=aK.wb h2;simp_all [Value.cells]
   exact this
  ·cases hT
 |ar n T=>
  simp only [mL] at hT;split at hT
  ·rename_i n' e hu;simp only [Value.okWide,hu] at hval;obtain ⟨cs,rfl,_⟩:=hval;have:aK D φ (.agg l) (.agg cs):=by
    have:=aK.wb h2;simp_all [Value.cells]
   exact this
  ·cases hT
theorem Ik.append {j m k:Nat} {h1 h2:Hp} {D:Nat->Prop} {φ:bP} (h:Ik j m h1 D φ W) (h':Ik m k h2 D φ W) (hjm:j<=m) (hmk:m<=k):Ik j k (h1++h2) D φ W:=⟨λb x hb=>by
 rw [oU] at hb;cases hg:aa h1 b with
 |some y=>
  rw [hg] at hb;have hb:y=x:=by grind
  subst hb;obtain ⟨g1,g2,g3⟩:=h.at_ b y hg;exact ⟨g1,by omega,g3⟩
 |none=>
  rw [hg] at hb;obtain ⟨g1,g2,g3⟩:=h'.at_ b x hb;exact ⟨by omega,g2,g3⟩⟩
end
end Go.Ab
namespace Go.Ab
open Go.ChangeShapes Go.WideShapes Go.RowKit
section
variable {H:Type} {enc:TypeId×Value->H} {P:Program} {W:World}
theorem GN.below {h:Hp} {φ:bP} {w w':World} {j m:Nat} {D:Nat->Prop} (hr:Ik j m h D φ w) (hf:GN (aa h) φ w w'):Below w.heap.size w w':=
 ⟨hf.os,hf.tape,hf.output,hf.size,λk hk=>hf.block k hk (λb x hb hro=>by rw [(hr.at_ b x hb).2.2.1] at hro;cases hro)⟩
theorem Below.trodAll (hl:laidOutB P=true) {W':World} (hb:Below W.heap.size W W'): ∀{ts:List TypeId} {vs:List Value} {ds:List (DataW H)} {ps:List MemPlace},(ts.all λt=>P.readableRec t&&decide (t<P.types.size))=true->(∀x∈ps,x.block<W.heap.size)→
 DataW.TrodAll enc P W 0 (λ_=>true) true ts vs ds ps->DataW.TrodAll enc P W' 0 (λb=>decide (b<W.heap.size)) true ts vs ds ps
 |[],[],[],ps,_,_,h=>h
 |t::ts,v::vs,d::ds,ps,ht,hlt,⟨p,q,h1,h2,e⟩=>by
  simp only [iz,ak,bg] at ht;subst e;exact ⟨p,q,Below.trod hl ht.1.1 ht.1.2 h1 hb (λx hx=>hlt x (by simp [hx])),Below.trodAll hl hb ht.2 (λx hx=>hlt x (by simp [hx])) h2,rfl⟩
 |[],_::_,_,_,_,_,h=>h.elim
 |[],[],_::_,_,_,_,h=>h.elim
 |_::_,[],_,_,_,_,h=>h.elim
 |_::_,_::_,[],_,_,_,h=>h.elim
end
end Go.Ab
namespace Go.Ab
open Go.ChangeShapes Go.WideShapes Go.RowKit
def KU (W:World) (x:Nat×List AV):Prop:= ∃cs elem fr,W.heap[x.1]? =some (.cells cs elem fr)/\ ∀(D:Nat->Prop) (φ:bP) (i:Nat) v,x.2[i]? =some v-> ∃u,cs[i]? =some u/\aK D φ v u
def Qe:Nat->List (Nat×List AV)->Hp
 |_,[]=>[]
 |j,(g,c)::r=>(j,{cells:=c,ro:=true,gid:=some g})::Qe (j+1) r
theorem FG: ∀{Gs:List (Nat×List AV)} {j b:Nat} {k:bp},aa (Qe j Gs) b=some k->j<=b/\b<j+Gs.length/\ ∃g c,Gs[b-j]? =some (g,c)/\k={cells:=c,ro:=true,gid:=some g}
 |[],j,b,k,h=>by simp [Qe,aa] at h
 |(g,c)::r,j,b,k,h=>by
  simp only [Qe,aa] at h;by_cases hb:b=j
  ·subst hb;simp at h
   grind
  ·rw [bO hb] at h;obtain ⟨h1,h2,g',c',h3,h4⟩:=FG h
   grind
section
variable {H:Type} {enc:TypeId×Value->H} {P:Program} {W:World}
end
end Go.Ab
namespace Go.Ab
open Go.ChangeShapes Go.WideShapes Go.RowKit
inductive TyD where
 |f (T:Ty)
 |sl (T:Ty)
 |st (l:List TyD)
mutual
def TyD.size:TyD->Nat
 | .f T=>T.size
 | .sl _=>1
 | .st l=>Lq l
def Lq:List TyD->Nat
 |[]=>0
 |T::r=>T.size+Lq r
end
section
variable {H:Type} {enc:TypeId×Value->H} {P:Program} {W:World} {sp:Nat->Bool} {held:Bool}
def y4 (W:World):Nat->Option (Array Value):=λB=>match W.heap[B]? with
 |some (.cells vs _ _)=>some vs
 |_=>none
theorem nP {W:World} {B:Nat} {vs:Array Value} (h:y4 W B=some vs): ∃elem fr,W.heap[B]? =some (.cells vs elem fr):=by
 grind [y4]
end
end Go.Ab
namespace Go.Ab
mutual
def AV.pl:AV->Bool
 | .p _ _=>false
 | .sl _ _ _ _=>false
 | .sg _ _ _=>false
 | .fn _ l=>Xw l
 | .bm _ l=>Xw l
 | .agg l=>Xw l
 | .bz l=>Xw l
 | .b _=>true
 | .i _ _=>true
 | .s _=>true
 | .np=>true
 | .ns=>true
 | .nf=>true
 | .ni=>true
 | .fz _ _=>false
 | .fp _ _=>false
 | .ze=>true
 | .en=>true
 | .any=>true
 | .k _ _=>true
 | .m _=>false
 | .nm=>true
 | .yl _ _ _ _=>false
def Xw:List AV->Bool
 |[]=>true
 |v::r=>v.pl&&Xw r
end
theorem qi: ∀{l:List AV},Xw l=true-> ∀v∈l,v.pl=true
 |[],_,v,hv=>by cases hv
 |x::r,h,v,hv=>by
  simp only [Xw,ak] at h;rcases gP.1 hv with rfl|hv
  ·exact h.1
  ·exact qi h.2 v hv
theorem aK.pl {D D':Nat->Prop} {φ φ':bP} {v:AV} {u:Value} (h:aK D φ v u):v.pl=true->aK D' φ' v u:=by
 induction h with
 |b x=>intro _;exact .b x
 |i k n=>intro _;exact .i k n
 |s l=>intro _;exact .s l
 |np=>intro _;exact .np
 |p b o h=>intro hp;cases hp
 |ns=>intro _;exact .ns
 |sl b o len cap h=>intro hp;cases hp
 |sg b o len j cap h hj hc hl=>intro hp;cases hp
 |fn f l cs hf hl h ih=>intro hp;exact .fn f l cs hf hl (λi a u ha hu=>ih i a u ha hu (qi hp a (bJ ha)))
 |bm f l cs hf hl h ih=>intro hp;exact .bm f l cs hf hl (λi a u ha hu=>ih i a u ha hu (qi hp a (bJ ha)))
 |nf=>intro _;exact .nf
 |ni=>intro _;exact .ni
 |agg l cs hl h ih=>intro hp;exact .agg l cs hl (λi a u ha hu=>ih i a u ha hu (qi hp a (bJ ha)))
 |bz l cs hl h ih=>intro hp;exact .bz l cs hl (λi a u ha hu=>ih i a u ha hu (qi hp a (bJ ha)))
 |fz l n B o cap vs hB hc hs h ih=>intro hp;cases hp
 |nS l x cap hc=>intro hp;cases hp
 |fp l k B o vs hB hs h ih=>intro hp;cases hp
 |ze x=>intro _;exact .ze x
 |en x cap=>intro _;exact .en x cap
 |any u=>intro _;exact .any u
 |k t u=>intro _;exact .k t u
 |m b h=>intro hp;cases hp
 |nm=>intro _;exact .nm
 |yl L r ts l hL h ih=>intro hp;cases hp
theorem aK.BH {D D':Nat->Prop} {φ:bP} {v:AV} {u:Value} (h:aK D φ v u):v.aj 0=true->aK D' φ v u:=by
 induction h with
 |b x=>intro _;exact .b x
 |i k n=>intro _;exact .i k n
 |s l=>intro _;exact .s l
 |np=>intro _;exact .np
 |p b o h=>intro hp;simp [AV.aj,Nat.blt] at hp
 |ns=>intro _;exact .ns
 |sl b o len cap h=>intro hp;simp [AV.aj,Nat.blt] at hp
 |sg b o len j cap h hj hc hl=>intro hp;simp [AV.aj,Nat.blt] at hp
 |fn f l cs hf hl h ih=>intro hp;exact .fn f l cs hf hl (λi a u ha hu=>ih i a u ha hu (cE hp a (bJ ha)))
 |bm f l cs hf hl h ih=>intro hp;exact .bm f l cs hf hl (λi a u ha hu=>ih i a u ha hu (cE hp a (bJ ha)))
 |nf=>intro _;exact .nf
 |ni=>intro _;exact .ni
 |agg l cs hl h ih=>intro hp;exact .agg l cs hl (λi a u ha hu=>ih i a u ha hu (cE hp a (bJ ha)))
 |bz l cs hl h ih=>intro hp;exact .bz l cs hl (λi a u ha hu=>ih i a u ha hu (cE hp a (bJ ha)))
 |fz l n B o cap vs hB hc hs h ih=>intro hp;exact .fz l n B o cap vs hB hc hs (λi a u ha hu=>ih i a u ha hu (cE hp a (bJ ha)))
 |nS l x cap hc=>intro _;exact .nS l x cap hc
 |fp l k B o vs hB hs h ih=>intro hp;exact .fp l k B o vs hB hs (λi a u ha hu=>ih i a u ha hu (cE hp a (bJ ha)))
 |ze x=>intro _;exact .ze x
 |en x cap=>intro _;exact .en x cap
 |any u=>intro _;exact .any u
 |k t u=>intro _;exact .k t u
 |m b h=>intro hp;simp [AV.aj,Nat.blt] at hp
 |nm=>intro _;exact .nm
 |yl L r ts l hL h ih=>intro hp;exact .yl L r ts l hL (λi t a ht ha=>ih i t a ht ha (cE hp a (bJ ha)))
noncomputable def bP.nA (φ:bP) (H:Hf) (w:World):bP:={φ with fz:=λB=>open Classical in if (∃b k,H b=some k/\φ.cI b=B) then y4 w B else φ.fz B}
theorem HR.TX {D:Nat->Prop} {φ:bP} {H:Hf} {w:World} (hH:HR D φ H w) {B:Nat} {vs:Array Value} (hB:φ.fz B=some vs):y4 w B=some vs:=by
 obtain ⟨elem,fr,h⟩:=hH.fz B vs hB;simp [y4,h]
theorem bP.gO {D:Nat->Prop} {φ:bP} {H:Hf} {w:World} (hH:HR D φ H w) (D':Nat->Prop):cT D' φ (φ.nA H w):=⟨λb _=>⟨rfl,rfl,rfl,rfl⟩,λB vs hB=>by
 simp only [bP.nA];split
 ·exact hH.TX hB
 ·exact hB,rfl⟩
theorem bP.En {D:Nat->Prop} {φ:bP} {H:Hf} {w:World} {b:Nat} {k:bp} (hb:H b=some k):(φ.nA H w).fz (φ.cI b)=y4 w (φ.cI b):=by
 simp only [bP.nA];exact aT ⟨b,k,hb,rfl⟩
def xQ {α:Type} (h:Hp) (z:Nat) (x:AV) (k:List Nat->Nat->List AV->Bool->Option α):Option α:=match x with
 | .ns=>k [] 0 [] true
 | .ze=>k [] 0 [] true
 | .fz l m=>k [] m (aD l 0 (m*z)) (decide ((aD l 0 (m*z)).length=m*z))
 | .sl b o m c=>(jo h b).bind λq=>k [b] m (aD q.cells o (m*z)) (decide ((aD q.cells o (m*z)).length=m*z)&&decide (m<=c))
 | .sg b o m=>(jo h b).bind λq=>k [b] m (aD q.cells o (m*z)) (decide ((aD q.cells o (m*z)).length=m*z))
 |_=>none
section
variable {α:Type} {h:Hp} {z:Nat} {k:List Nat->Nat->List AV->Bool->Option α}
theorem ae4:xQ h z .ns k=k [] 0 [] true:=(rfl)
theorem abF:xQ h z .ze k=k [] 0 [] true:=(rfl)
theorem xh {l:List AV} {m:Nat}:xQ h z (.fz l m) k=k [] m (aD l 0 (m*z)) (decide ((aD l 0 (m*z)).length=m*z)):=(rfl)
theorem fv {b o m c:Nat}:xQ h z (.sl b o m c) k=((aa h b).bind bp.F6).bind λq=>k [b] m (aD q.cells o (m*z)) (decide ((aD q.cells o (m*z)).length=m*z)&&decide (m<=c)):=(rfl)
end
theorem aK.view {D D':Nat->Prop} {φ:bP} {h:Hp} {w:World} {z:Nat} {x:AV} {u:Value} {rd:List Nat} {m:Nat} {cs:List AV} (hH:HR D φ (only (aa h) rd) w) (hx:aK D φ x u)
 (hv:xQ h z x (λrd m cs ok=>some (rd,m,cs,ok))=some (rd,m,cs,true)) (hcs:ab 0 cs=true):aK D' (φ.nA (only (aa h) rd) w) (.fz cs m) u:=by
 have cell: ∀b k o,only (aa h) rd b=some k->k.mp=none->cs=aD k.cells o (m*z)-> ∃vs,(φ.nA (only (aa h) rd) w).fz (φ.cI b)=some vs/\(∀i,i<cs.length->φ.off b+o+i<vs.size)∧
  ∀(i:Nat) (a:AV) (u:Value),cs[i]? =some a->vs[φ.off b+o+i]? =some u->aK D' (φ.nA (only (aa h) rd) w) a u:=λb k o hb hm hc=>by
  obtain ⟨_,⟨⟨vs,elem,fr,h1,h2,_⟩,_⟩⟩:=hH.at_ b k hb;have h1:=h1.cells hm;have get: ∀(i:Nat) (a:AV),cs[i]? =some a-> ∃u,vs[φ.off b+o+i]? =some u/\aK D φ a u:=λi a ha=>by
   grind [aD,kJ,oA,mj]
  refine ⟨vs,by rw [bP.En (D:=D) hb];simp [y4,h1],λi hi=> ?_,λi a u ha hu=> ?_⟩
  ·obtain ⟨u,hu,_⟩:=get i _ (bj hi)
   grind
  ·obtain ⟨u',hu',hr⟩:=get i a ha;rw [hu] at hu';cases hu';exact (hr.mono (D':=D) (λ_ h=>h) (bP.gO hH D)).BH (cE hcs a (bJ ha))
 cases hx with
 |ns=>simp only [ae4,aI,aV] at hv;obtain ⟨_,rfl,_⟩:=hv;exact .nS _ _ _ (λ_=>rfl)
 |ze x=>simp only [abF,aI,aV] at hv;obtain ⟨_,rfl,_⟩:=hv;exact .nS _ _ _ (λ_=>rfl)
 |nS l x cap hc0=>simp only [xh,aI,aV] at hv;obtain ⟨_,rfl,_⟩:=hv;exact .nS _ _ _ hc0
 |fz l n B o cap vs hB hc hs h=>
  simp only [xh,aI,aV] at hv;obtain ⟨_,rfl,rfl,_⟩:=hv;have ag:=bP.gO hH D;refine .fz _ _ B o cap vs (ag.fz _ _ hB) hc (λi hi=> ?_) (λi a u ha hu=> ?_)
  ·simp [aD] at hi;exact hs i (by omega)
  ·have hb:=cE hcs a (bJ ha);simp only [aD,dk,kJ] at ha;split at ha
   ·exact ((h i a u ha hu).mono (D':=D) (λ_ h=>h) ag).BH hb
   ·cases ha
 |sl b o len cap hD=>
  simp only [xQ,av,aI,aV,ak,bg] at hv;obtain ⟨k,hk,rfl,rfl,rfl,_,hc⟩:=hv;obtain ⟨hk,hmp⟩:=dL hk;obtain ⟨vs,g1,g2,g3⟩:=cell b k o (by simp_all [ep,inl]) hmp rfl
  exact .fz _ _ _ _ _ vs g1 hc g2 g3
 |sg b o len j cap hD hj hc hl=>
  simp only [xQ,av,aI,aV,bg] at hv;obtain ⟨k,hk,rfl,rfl,rfl,_⟩:=hv;obtain ⟨hk,hmp⟩:=dL hk;obtain ⟨vs,g1,g2,g3⟩:=cell b k o (by simp_all [ep,inl]) hmp rfl
  exact .fz _ _ _ _ _ vs g1 hl g2 g3
 |b x=>cases hv
 |i k n=>cases hv
 |s l=>cases hv
 |np=>cases hv
 |p b o h=>cases hv
 |fn f l cs hf hl h=>cases hv
 |bm f l cs hf hl h=>cases hv
 |yl L r ts l hL h=>cases hv
 |nf=>cases hv
 |ni=>cases hv
 |agg l cs hl h=>cases hv
 |bz l cs hl h=>cases hv
 |fp l k B o vs hB hs h=>cases hv
 |en x cap=>cases hv
 |any u=>cases hv
 |k t v=>cases hv
 |m b h=>cases hv
 |nm=>cases hv
theorem aA.view {P:Program} {f:FuncId} {pre post:List AV} {x:AV} {h:Hp} {n z:Nat} {rd:List Nat} {m:Nat} {cs:List AV} {v:AV} (hc:Go.Ab.bH P f=true)
 (hv:xQ h z x (λrd m cs ok=>some (rd,m,cs,ok))=some (rd,m,cs,true)) (hcs:ab 0 cs=true) (hpre:ab 0 pre=true) (hpost:ab 0 post=true) (hpl:v.pl=true)
 (hf:bG P f (pre++ .fz cs m::post) [] 0 v [] 0):aA P f (pre++x::post) h n {v,n,rd}:=by
 refine ⟨hc,bx _,λb r hb=>by simp [cy] at hb,λb kk hb=>by simp [aa] at hb,λD φ w us hfresh hH hA=> ?_⟩
 let φ1:=φ.nA (only (aa h) rd) w;have ag:=bP.gO hH D;have hH1:HR (λ_=>False) φ1 (aa []) w:=⟨⟨λb k hb=>by simp [aa] at hb,λb1 b2 k1 k2 _ hb=>by simp [aa]⟩,λB vs hB=>by
  simp only [φ1,bP.nA] at hB;split at hB
  ·exact nP hB
  ·exact hH.fz B vs hB,hH.lp,λb k B vs hb=>by simp [aa] at hb⟩
 have plain: ∀l:List AV,ab 0 l=true-> ∀us:List Value,cw D φ l us->cw (λ_=>False) φ1 l us:=λl hl us hA=>
  ⟨hA.1,λi a u ha hu=>((hA.2 i a u ha hu).mono (D':=D) (λ_ h=>h) ag).BH (cE hl a (bJ ha))⟩
 have hA1:cw (λ_=>False) φ1 (pre++ .fz cs m::post) us:=by
  have e1:=hA.take pre.length;have e2:=hA.drop pre.length;simp only [List.take_left,List.drop_left] at e1 e2;obtain ⟨u,us',he,h1,h2⟩:=e2.eB;have e3:=(plain pre hpre _ e1).append (cw.cons (aK.view hH h1 hv hcs) (plain post hpost _ h2))
  grind [jr]
 refine (hf (λ_=>False) φ1 w us (λ_ h=>h.elim) hH1 hA1).mono λe w' hx=> ?_;obtain ⟨D',φ',u,rfl,hD',hr,hS⟩:=hx;have hd: ∀b,D b->Dn D n n b:=λb h=> .inl h;have e:(bV.app {v,n,rd} (only (aa h) rd))=only (aa h) rd:=by funext b;rfl
 have hst: ∀c,c<w.heap.size->w'.heap[c]? =w.heap[c]? :=λc hc=>hS.eF.block c hc (λb k hb=>by simp [aa] at hb)
 refine ⟨u,φ,rfl,hr.pl hpl,?_,λc kk hc _=>by simp_all⟩
 show dU D φ _ w (Dn D n n) φ (bV.app _ _) w';rw [e];exact dU.mk' hH rfl rfl hd (cT.refl D φ).at_ ⟨λb k hb=>⟨hd b (hH.at_ b k hb).1,(hH.at_ b k hb).2.mono hd (cT.refl _ _) (hH.at_ b k hb).1 (hst _ (hH.at_ b k hb).2.lt)⟩,hH.sep⟩
  ⟨hS.eF.os,hS.eF.tape,hS.eF.output,hS.eF.size,λc hc _=>hst c hc⟩ (λb k hb hk=> .inr ⟨b,k,hb,hk,rfl⟩)
end Go.Ab
namespace Go.Ab
open Go.ChangeShapes Go.WideShapes Go.RowKit
inductive tA where
 |f (T:Ty)
 |sl (E:tA)
 |st (l:List tA)
 |an (n:Nat) (E:tA)
mutual
def tA.size:tA->Nat
 | .f T=>T.size
 | .sl _=>1
 | .st l=>uM l
 | .an n E=>n*E.size
def uM:List tA->Nat
 |[]=>0
 |T::r=>T.size+uM r
end
mutual
def jk (P:Program):tA->TypeId->Bool
 | .f T,t=>mL P T t
 | .sl E,t=>match P.underlying t with|some (.slice e)=>jk P E e&&Nat.beq (P.cellsOf t) 1&&Nat.blt 0 E.size|_=>false
 | .st Ts,t=>match P.underlying t with|some (.struct fs)=>uE P Ts fs.toList 0&&Nat.beq (P.cellsOf t) (uM Ts)|_=>false
 | .an n E,t=>match P.underlying t with|some (.array n' e)=>Nat.beq n' n&&jk P E e&&Nat.beq (P.cellsOf t) (n*E.size)|_=>false
def uE (P:Program):List tA->List Field->Nat->Bool
 |[],[],_=>true
 |T::Ts,f::fs,o=>Nat.beq f.offset o&&jk P T f.type&&uE P Ts fs (o+T.size)
 |_,_,_=>false
end
mutual
def oN:tA->List AV->Prop
 | .f T,l=>Flat T l
 | .sl E,l=> ∃ls:List (List AV),(∀x∈ls,oN E x)/\ls.length<=maxLen/\l=[.fz ls.flatten ls.length]
 | .st Ts,l=>Lm Ts l
 | .an n E,l=> ∃ls:List (List AV),ls.length=n/\(∀x∈ls,oN E x)/\l=ls.flatten
def Lm:List tA->List AV->Prop
 |[],l=>l=[]
 |T::Ts,l=> ∃a r,l=a++r/\oN T a/\Lm Ts r
end
def EK (T:tA) (l:List AV):AV:=
 match T with
 | .f T=>mkArg T l
 | .sl _=>l.headD .np
 | .st _=> .agg l
 | .an _ _=> .agg l
def C5:List tA->List AV->Prop
 |[],vs=>vs=[]
 |T::Ts,vs=> ∃l vs',vs=EK T l::vs'/\oN T l/\C5 Ts vs'
def xL (P:Program):List tA->List TypeId->Bool
 |[],[]=>true
 |T::Ts,t::ts=>jk P T t&&xL P Ts ts
 |_,_=>false
section
variable {H:Type} {enc:TypeId×Value->H} {P:Program} {W:World} {sp:Nat->Bool} {held:Bool}
theorem pI: ∀{T:tA} {t:TypeId},jk P T t=true->P.cellsOf t=T.size
 | .f T,t,h=>sA (T:=T) (by grind [jk])
 | .sl T,t,h=>by
  simp only [jk] at h;split at h
  ·simp only [ak] at h;exact ee h.1.2
  ·cases h
 | .st Ts,t,h=>by
  simp only [jk] at h;split at h
  ·simp only [ak] at h;exact ee h.2
  ·cases h
 | .an n E,t,h=>by
  simp only [jk] at h;split at h
  ·simp only [ak] at h;exact ee h.2
  ·cases h
theorem CD {a:Addr} {v:Value} (h:W.cell? a=some v):a.spot=none/\ ∃vs,y4 W a.block=some vs/\vs[a.off]? =some v:=by
 unfold World.cell? at h;split at h;all_goals simp_all [y4]
theorem yw (a:Addr) (n:Nat) (h:a.spot=none):a.add n=⟨a.block,a.off+n,none⟩:=by
 unfold Addr.add;split
 ·rename_i hn;subst hn;cases a;simp_all
 ·rfl
theorem Da {E:tA} {t e:TypeId} {fuel:Nat} {cs:List Value} {x:DataW H×List MemPlace} (hu:P.underlying t=some (.slice e)) (hT:P.cellsOf e=E.size) (h0:0<E.size)
 (one: ∀{fuel:Nat} {cs:List Value} {x:DataW H×List MemPlace},DataW.trod enc P W 0 (λ_=>true) held fuel e cs=some x-> ∃l,oN E l/\ ∀(D:Nat->Prop) (φ:bP),φ.fz=y4 W->cw D φ l cs)
 (h:DataW.trod enc P W 0 (λ_=>true) held fuel t cs=some x): ∃l,oN (.sl E) l/\ ∀(D:Nat->Prop) (φ:bP),φ.fz=y4 W->cw D φ l cs:=by
 rcases DataW.trod_slice hu h with ⟨hc,_⟩|⟨a,l',c,elems,rest,n,_,hc,_,hb,hl,hm,hlen,hel,_⟩
 ·subst hc;exact ⟨[.fz [] 0],⟨[],(λx hx=>by cases hx),by simp [maxLen],rfl⟩,λD φ _=> .cons (.nS _ _ _ (λ_=>rfl)) .nil⟩
 ·subst hc;have key: ∀m',m'<=l'-> ∃ls:List (List AV),ls.length=m'/\(∀x∈ls,oN E x)/\ ∃us:List Value,us.length=m'*E.size/\(∀(D:Nat->Prop) (φ:bP),φ.fz=y4 W->cw D φ ls.flatten us)/\ ∀i,i<m'*E.size->(a.spot=none->W.cell? ⟨a.block,a.off+i,none⟩=us[i]?):=by
   intro m';induction m' with
   |zero=>intro _;exact ⟨[],rfl,(λx hx=>by cases hx),[],by simp,(λD φ _=>by simpa using cw.nil),λi hi=>by simp at hi⟩
   |succ m' ih=>
    intro hm';obtain ⟨ls,h1,h2,us,h3,h4,h5⟩:=ih (by omega)
    have hy:=hel m' (by omega)
    rw [bj (by omega),av,hT] at hy
    obtain ⟨cs,hcs,hy⟩:=hy;obtain ⟨_,g1,g2⟩:=World.cells?_some hcs;obtain ⟨l,f1,f2⟩:=one hy;refine ⟨ls++[l],by simp [h1],λx hx=> ?_,us++cs,by grind,λD φ hφ=> ?_,λi hi hspot=> ?_⟩
    ·grind
    ·simpa using (h4 D φ hφ).append (f2 D φ hφ)
    ·by_cases hlt:i<m'*E.size
     ·grind
     ·rw [gi,pD] at hi;rw [vE (by omega),h3]
      have:=g2 (i-m'*E.size) (by omega)
      rw [<-this];congr 1;have hs2:(a.add (m'*E.size)).spot=none:=by grind [yw]
      rw [yw _ _ hs2,yw a _ hspot]
      grind
  obtain ⟨ls,h1,h2,us,h3,h4,h5⟩:=key l' (bx _);refine ⟨[.fz ls.flatten ls.length],⟨ls,h2,by omega,rfl⟩,λD φ hφ=> .cons ?_ .nil⟩
  by_cases hz:l'=0
  ·rw [h1,hz];exact .nS _ _ _ (λh=>by cases h)
  · -- the first cell shows where the row lies
    have hy:=hel 0 (by omega)
    rw [bj (by omega),av,hT,zx] at hy
    obtain ⟨cs,hcs,_⟩:=hy;obtain ⟨_,g1,g2⟩:=World.cells?_some hcs;have g3:=g2 0 h0;rw [bj (by omega)] at g3
    have ha0:(a.add 0).add 0=a:=by simp [Addr.add]
    rw [ha0] at g3;obtain ⟨hs,vs,hvs,_⟩:=CD g3;have hA:=h4 D φ hφ;have cellv: ∀i,i<us.length->vs[a.off+i]? =us[i]? :=λi hi=>by
     have:=h5 i (by omega) hs
     rw [bj hi] at this ⊢;obtain ⟨_,vs',q1,q2⟩:=CD this
     grind
    have ha:a=⟨a.block,a.off,none⟩:=by cases a;simp_all
    rw [ha,h1];refine .fz _ _ a.block a.off c vs (by rw [hφ];exact hvs) hl (λi hi=> ?_) (λi v u hv' hu'=> ?_)
    ·have hi':i<us.length:=by rw [<-hA.1];exact hi
     grind
    ·obtain ⟨u',q1,q2⟩:=hA.get hv'
     grind
mutual
theorem uQ: ∀{T:tA} {t:TypeId} {fuel:Nat} {cs:List Value} {x:DataW H×List MemPlace},jk P T t=true->DataW.trod enc P W 0 (λ_=>true) held fuel t cs=some x→
 ∃l,oN T l/\ ∀(D:Nat->Prop) (φ:bP),φ.fz=y4 W->cw D φ l cs
 | .f T,t,fuel,cs,x,hT,h=>by
  simp only [jk] at hT;obtain ⟨l,f1,f2⟩:=qv (D:=λ_=>False) (φ:=⟨λ_=>0,λ_=>0,λ_=>0,λ_=>0,λ_=>none,λ_=>none⟩) hT h;exact ⟨l,f1,λD φ _=>⟨f2.1,λi x u hx hu=>(f2.2 i x u hx hu).vz (λb hb=>hb.elim) (λb hb=>hb.elim) (λ_ _ h=>by cases h) (λ_ _ h=>by cases h)⟩⟩
 | .sl E,t,fuel,cs,x,hT,h=>by
  simp only [jk] at hT;split at hT
  ·rename_i e hu;simp only [ak] at hT;have hb:Nat.blt 0 E.size=true:=hT.2;rw [Nat.blt_eq] at hb;exact Da hu (pI hT.1.1) hb (λh=>uQ hT.1.1 h) h
  ·cases hT
 | .st Ts,t,fuel,cs,x,hT,h=>by
  simp only [jk] at hT;split at hT
  ·rename_i fs hu;simp only [ak] at hT;obtain ⟨xs,n,_,_,hl,hxl,hall⟩:=DataW.trod_struct hu h;rw [ee hT.2] at hl;obtain ⟨l,h1,h2⟩:=Gz (fuel:=n) (cs:=cs) hT.1 (by omega) (λf hf=>by
    obtain ⟨i,hi⟩:=gF hf;have h1:=hall i f (by simpa using hi)
    have hlt:i<fs.size:=by
     have:=(cv.1 hi).1;simpa using this
    rw [h1];exact ⟨xs[i],by simp [hxl,hlt]⟩)
   exact ⟨l,h1,by simpa only [dk] using h2⟩
  ·cases hT
 | .an n E,t,fuel,cs,x,hT,h=>by
  simp only [jk] at hT;split at hT
  ·rename_i n' e hu;simp only [ak] at hT;obtain ⟨⟨hn,hT1⟩,hT2⟩:=hT;have hn:=ee hn;subst hn;obtain ⟨m,hl,hall⟩:=yz hu h;rw [ee hT2] at hl;have hsz:=pI hT1;have key: ∀m',m'<=n'-> ∃ls:List (List AV),ls.length=m'/\(∀x∈ls,oN E x)/\ ∀(D:Nat->Prop) (φ:bP),φ.fz=y4 W->cw D φ ls.flatten (cs.take (m'*E.size)):=by
    intro m';induction m' with
    |zero=>intro _;exact ⟨[],rfl,(λx hx=>by cases hx),λD φ _=>by simpa using cw.nil⟩
    |succ m' ih=>
     intro hm;obtain ⟨ls,h1,h2,h3⟩:=ih (by omega)
     obtain ⟨y,hy⟩:=hall m' (by omega)
     rw [hsz] at hy;obtain ⟨l,g1,g2⟩:=uQ hT1 hy;refine ⟨ls++[l],by simp [h1],λx hx=> ?_,λD φ hφ=> ?_⟩
     ·rcases xn.1 hx with hx|hx
      ·exact h2 x hx
      ·simp at hx;subst hx;exact g1
     ·have:cs.take ((m'+1)*E.size)=cs.take (m'*E.size)++(cs.drop (m'*E.size)).take E.size:=by
       rw [gi,pD,List.take_add]
      rw [this];simpa using (h3 D φ hφ).append (g2 D φ hφ)
   obtain ⟨ls,h1,h2,h3⟩:=key n' (bx _);refine ⟨ls.flatten,⟨ls,h1,h2,rfl⟩,λD φ hφ=> ?_⟩;have:=h3 D φ hφ;rwa [dN (by omega)] at this
  ·cases hT
theorem Gz: ∀{Ts:List tA} {fs:List Field} {o:Nat} {fuel:Nat} {cs:List Value},uE P Ts fs o=true->cs.length=o+uM Ts->(∀f∈fs,∃y,DataW.trod enc P W 0 (λ_=>true) held fuel f.type ((cs.drop f.offset).take (P.cellsOf f.type))=some y)→
 ∃l,Lm Ts l/\ ∀(D:Nat->Prop) (φ:bP),φ.fz=y4 W->cw D φ l (cs.drop o)
 |[],[],o,fuel,cs,_,hl,_=>⟨[],rfl,λD φ _=>by
  rw [oE (by simp only [uM] at hl;omega)];exact .nil⟩
 |[],_::_,o,fuel,cs,h,_,_=>by simp [uE] at h
 |_::_,[],o,fuel,cs,h,_,_=>by simp [uE] at h
 |T::Ts,f::fs,o,fuel,cs,h,hl,hall=>by
  simp only [uE,ak] at h;obtain ⟨⟨ho,hT⟩,hr⟩:=h;have ho:=ee ho;obtain ⟨y,hy⟩:=hall f iQ;rw [ho,pI hT] at hy;obtain ⟨a,g1,g2⟩:=uQ hT hy;simp only [uM] at hl;obtain ⟨r,g3,g4⟩:=Gz (cs:=cs) hr (by omega) (λf hf=>hall f (hJ _ hf))
  refine ⟨a++r,⟨a,r,rfl,g1,g3⟩,λD φ hφ=> ?_⟩;have hA:=(g2 D φ hφ).append (g4 D φ hφ);rwa [<-tG,jr] at hA
end
theorem abQ {T:tA} {t:TypeId} {r:Reach} {base:Nat} {v:Value} {d:DataW H} {ps:List MemPlace} (hT:jk P T t=true) (hval:Value.okWide P W r base t v)
 (h:DataW.Trod enc P W 0 (λ_=>true) held t v d ps): ∃l,oN T l/\ ∀(D:Nat->Prop) (φ:bP),φ.fz=y4 W->aK D φ (EK T l) v:=by
 match T with
 | .f T=>
  simp only [jk] at hT;obtain ⟨l,f1,f2⟩:=Hh (D:=λ_=>False) (φ:=⟨λ_=>0,λ_=>0,λ_=>0,λ_=>0,λ_=>none,λ_=>none⟩) hT hval h;exact ⟨l,f1,λD φ _=>f2.vz (λb hb=>hb.elim) (λb hb=>hb.elim) (λ_ _ h=>by cases h) (λ_ _ h=>by cases h)⟩
 | .sl E=>
  have hT0:=hT;obtain ⟨fuel,h⟩:=h;simp only [jk] at hT;split at hT
  ·rename_i e hu;simp only [Value.okWide,hu] at hval;have hcs:v.cells.toList=[v]:=by
    simp only [Cell.okWide,hu] at hval;cases v<;>simp [Cell.ok,hu] at hval<;>rfl
   rw [hcs] at h;obtain ⟨l,g1,g2⟩:=uQ hT0 h;refine ⟨l,g1,λD φ hφ=> ?_⟩;have k1:=g2 D φ hφ;obtain ⟨ls,_,_,rfl⟩:=g1;obtain ⟨u,m,he,hr,_⟩:=k1.eB;simp at he;rw [<-he.1] at hr;exact hr
  ·cases hT
 | .st Ts=>
  have hT':=hT;simp only [jk] at hT';split at hT'
  ·rename_i fs hu;simp only [Value.okWide,hu] at hval;obtain ⟨cs,rfl,_,ts,_,_,hrow⟩:=hval;obtain ⟨fuel,h⟩:=h;simp only [Value.cells] at h;obtain ⟨l,g1,g2⟩:=uQ hT h;refine ⟨l,g1,λD φ hφ=> ?_⟩;have:aK D φ (.agg l) (.agg cs):=by
    have:=aK.wb (g2 D φ hφ);omega
   exact this
  ·cases hT'
 | .an n E=>
  have hT':=hT;simp only [jk] at hT';split at hT'
  ·rename_i n' e hu;simp only [Value.okWide,hu] at hval;obtain ⟨cs,rfl,_⟩:=hval;obtain ⟨fuel,h⟩:=h;simp only [Value.cells] at h;obtain ⟨l,g1,g2⟩:=uQ hT h;refine ⟨l,g1,λD φ hφ=> ?_⟩;have:aK D φ (.agg l) (.agg cs):=by
    have:=aK.wb (g2 D φ hφ);omega
   exact this
  ·cases hT'
theorem xk {r:Reach} {base:Nat}: ∀{Ts:List tA} {ts:List TypeId} {vs:List Value} {ds:List (DataW H)} {ps:List MemPlace},xL P Ts ts=true->(∀(i:Nat) t v,ts[i]? =some t->vs[i]? =some v->Value.okWide P W r base t v)→
 DataW.TrodAll enc P W 0 (λ_=>true) held ts vs ds ps-> ∃avs,C5 Ts avs/\ ∀(D:Nat->Prop) (φ:bP),φ.fz=y4 W->cw D φ avs vs
 |[],[],vs,ds,ps,_,_,h=>by
  cases vs with
  |nil=>exact ⟨[],rfl,λD φ _=> .nil⟩
  |cons v vs=>cases ds<;>exact h.elim
 |T::Ts,t::ts,vs,ds,ps,hT,hv,h=>by
  simp only [xL,ak] at hT
  match vs,ds,h with
  |v::vs,d::ds,⟨p,q,h1,h2,_⟩=>
   obtain ⟨avs,g1,g2⟩:=xk hT.2 (λi t v ht hv'=>hv (i+1) t v (by grind) (by grind)) h2
   obtain ⟨l,k1,k2⟩:=abQ hT.1 (hv 0 t v rfl rfl) h1;exact ⟨EK T l::avs,⟨l,avs,rfl,k1,g1⟩,λD φ hφ=> .cons (k2 D φ hφ) (g2 D φ hφ)⟩
 |[],_::_,vs,ds,ps,hT,_,h=>by simp [xL] at hT
 |_::_,[],vs,ds,ps,hT,_,h=>by simp [xL] at hT
theorem DH {f:FuncId} {Ts:List tA} {ts:List TypeId} {args:Array Value} {ds:List (DataW H)} {ps:List MemPlace} {r:Reach} {base n':Nat} {h':Hp} {v:Bool} (Gs:List (Nat×List AV)) (hG: ∀x∈Gs,KU W x) (hT:xL P Ts ts=true)
 (hv: ∀(i:Nat) t v,ts[i]? =some t->args.toList[i]? =some v->Value.okWide P W r base t v) (h:DataW.TrodAll enc P W 0 (λ_=>true) true ts args.toList ds ps)
 (core: ∀avs,C5 Ts avs->bG P f avs (Qe 0 Gs) Gs.length (.b v) h' n') (hy:f≠YB:=by decide) (he:ext P f=false:=by kernel_rfl):Calls P f args W λe W'=>e= .returned (.bool v)/\Below W.heap.size W W':=by
 obtain ⟨avs,g1,g2⟩:=xk hT hv h;let φ:bP:=⟨λb=>((Gs[b]?).map (·.1)).getD 0,λb=>0,λ_=>0,λ_=>0,y4 W,λ_=>none⟩;have k1:=g2 (λb=>b<Gs.length) φ rfl;have k4:Ik 0 Gs.length (Qe 0 Gs) (λb=>b<Gs.length) φ W:=⟨λb k hb=>by
  obtain ⟨q1,q2,g,c,q3,rfl⟩:=FG hb;obtain ⟨cs,elem,fr,q4,q5⟩:=hG (g,c) (bJ q3);have hblk:φ.cI b=g:=by grind
  refine ⟨q1,by omega,rfl,by omega,⟨⟨cs,elem,fr,by rw [hblk];exact q4,λi v hi=> ?_,λhr=>(by cases hr),λe he=>(by cases he)⟩,λg' hg'=> ?_⟩⟩
  ·obtain ⟨u,h1,h2⟩:=q5 (λb=>b<Gs.length) φ i v hi
   grind
  grind⟩
 have hH:HR (λb=>b<Gs.length) φ (aa (Qe 0 Gs)) W:=
  ⟨⟨λb k hb=>⟨(k4.at_ b k hb).2.2.2.1,(k4.at_ b k hb).2.2.2.2⟩,λb1 b2 x1 x2 _ hb1 _ hro=>by rw [(k4.at_ b1 x1 hb1).2.2.1] at hro;cases hro⟩,(λB vs h=>nP h),(λL r h=>by cases h),(λb k B vs hb hro _=>by rw [(k4.at_ b k hb).2.2.1] at hro;cases hro)⟩
 have:=core avs g1 (λb=>b<Gs.length) φ W args.toList (λb hb=>hb) hH k1;simp only [Array.toArray_toList] at this;refine (this.calls hy he).mono λe w' hx=> ?_;obtain ⟨D',φ',u,rfl,_,hr,hS⟩:=hx;cases hr;exact ⟨rfl,GN.below k4 hS.eF⟩
theorem Hg {f:FuncId} {fn:Func} {s:ChangeSpec} {Ts:List tA} {args:Array Value} {ds gs:List (DataW H)} {before:List MemPlace} {r:Reach} {base n':Nat} {h':Hp} {tb:TypeId} {fresh handsOn:Bool} (Gs:List (Nat×List AV)) (hG: ∀x∈Gs,KU W x)
 (hT:xL P Ts fn.params.toList=true) (hl:laidOutB P=true) (hread:(fn.params.toList.all λt=>P.readableRec t&&decide (t<P.types.size))=true) (hres:fn.resultTypes= #[tb]) (htb:P.underlying tb=some .bool) (hvars:s.vars=[])
 (hspec: ∀(l:List (DataW H)),l.length=Ts.length->s.fn H l={results:=[.lit (.bool true)],args:=l})
 (hv: ∀(j:Nat) t v,fn.params[j]? =some t->args[j]? =some v->Value.okWide P W r base t v) (hW:DataW.Whole enc P fn.params.toList s.vars false W args.toList ds gs before)
 (core: ∀avs,C5 Ts avs->bG P f avs (Qe 0 Gs) Gs.length (.b true) h' n') (hy:f≠YB:=by decide) (he:ext P f=false:=by kernel_rfl):Calls P f args W λe W'=> ∃v,e= .returned v/\s.post enc P fn false fresh handsOn false W args v W':=by
 have hW':=hW;have hlt:=hW.lt;obtain ⟨p,q,hA,hV,rfl,hfz,hnd⟩:=hW;rw [hvars] at hV;obtain ⟨rfl,rfl⟩:=trodVars_none hV;refine (DH Gs hG hT (λi t v ht hv'=>hv i t v (by grind) (by grind)) hA core hy he).mono λe W' hx=> ?_
 obtain ⟨rfl,hB⟩:=hx;have hlen:ds.length=Ts.length:=by
  have h1: ∀{ts:List TypeId} {vs:List Value} {ds:List (DataW H)} {ps:List MemPlace},DataW.TrodAll enc P W 0 (λ_=>true) true ts vs ds ps->ds.length=ts.length:=by
   intro ts;induction ts with
   |nil=>intro vs ds ps h;obtain ⟨_,rfl,_⟩:=trodAll_nil h;rfl
   |cons t ts ih=>intro vs ds ps h;obtain ⟨_,_,_,_,_,_,_,rfl,_,_,h2⟩:=trodAll_cons h;simp [ih h2]
  have h2: ∀{Ts:List tA} {ts:List TypeId},xL P Ts ts=true->Ts.length=ts.length:=by
   intro Ts;induction Ts with
   |nil=>intro ts h;cases ts with
    |nil=>rfl
    |cons=>simp [xL] at h
   |cons T Ts ih=>intro ts h;cases ts with
    |nil=>simp [xL] at h
    |cons t ts=>simp only [xL,ak] at h;simp [ih h.2]
  grind
 have hfn:=hspec (ds++[]) (by grind)
 have hlt': ∀x∈p,x.block<W.heap.size:=λx hx=>hlt x (by grind)
 refine ⟨_,rfl,ds,[],p++[],[],p,[],hW',?_,?_,?_,hB.frame _,λh=>by cases h⟩
 ·rw [hfn,hres];exact trodAll_mk1 (shut_bool htb _)
 ·grind [Below.trodAll]
 ·rw [hfn,hvars];rfl
end
end Go.Ab
namespace Go.Ab
def aZ (n0:Nat) (v:AV) (h:Hp) (n:Nat) (v2:AV) (h2:Hp) (n2:Nat):Prop:=
 ∀(D:Nat->Prop) (φ:bP) (w:World) (D0:Nat->Prop) (φ0:bP) (H0:Hf) (w0:World) (u:Value),(∀b,D0 b->b<n0)->(∀b,D b->b<n)->aK D φ v u->HR D φ (aa h) w->dU D0 φ0 H0 w0 D φ (aa h) w→
  ∃D' φ',(∀b,D' b->b<n2)/\aK D' φ' v2 u/\dU D0 φ0 H0 w0 D' φ' (aa h2) w
theorem aZ.ends {n0 n n2:Nat} {v v2:AV} {h h2:Hp} (he:Ends n0 v h n v2 h2 n2):aZ n0 v h n v2 h2 n2:=AZ.ends _ _ _ _ _ _ _ he
theorem AZ.Hm:AZ aZ:=λ_ _ _ _ _ _ _ hW=>hW
theorem bG.Gr {f:FuncId} {P:Program} {fn:Func} {I:cZ} {args:List AV} {n:Nat} {h:Hp} {v2:AV} {h2:Hp} {n2:Nat} (hf:P.funcs[f]? =some fn) (hI:ah P fn=some I) (hnp:args.length<=I.N)
 (hi: ∀c,bt P I.ct I.N c=I.code->WP P I.N n c (re I.res λv h' n'=>aZ n v h' n' v2 h2 n2) (fx 0 args) h n):bG P f args h n v2 h2 n2:=
 cz.DR AZ.Hm hf hI hnp (λc hc=>(hi c hc).mono (tI λ_ _ _ h=>⟨rfl,h⟩))
theorem bG.dy {f:FuncId} {P:Program} {fn:Func} {I:cZ} {cx:Cx} {args:List AV} {n:Nat} {h:Hp} {v2:AV} {h2:Hp} {n2:Nat} (hcx:Sound P cx) (hm:P.follows .mixedOrders=true) (hf:P.funcs[f]? =some fn) (hI:ah P fn=some I) (hnp:args.length<=I.N)
 (hi:iw ⟨P,cx,I.ct,I.N,n⟩ I.code (re I.res λv h' n'=>aZ n v h' n' v2 h2 n2) (fx 0 args) h n):bG P f args h n v2 h2 n2:=
 bG.Gr hf hI hnp (λc hc=>gZ ⟨P,cx,I.ct,I.N,n⟩ hcx hm c _ _ _ _ (by grind))
theorem bG.qk {f:FuncId} {P:Program} {fn:Func} {I:cZ} {cx:Cx} {args:List AV} {n:Nat} {h:Hp} {v2:AV} {h2:Hp} {n2:Nat} (hf:P.funcs[f]? =some fn) (hI:ah P fn=some I) (hnp:args.length<=I.N)
 (hi:cU ⟨P,cx,I.ct,I.N,n⟩ I.code (re I.res λv h' n'=>aZ n v h' n' v2 h2 n2) (fx 0 args) h n):bG P f args h n v2 h2 n2:=
 bG.Gr hf hI hnp (λc hc=>hi c hc)
def bW (x y:AV) (v v':AV):Prop:= ∀(D:Nat->Prop) (φ:bP) (u:Value),(∀u1,aK D φ x u1->aK D φ y u1)->aK D φ v u->aK D φ v' u
theorem bW.hit {x y:AV}:bW x y x y:=λD φ u h hv=>h u hv
theorem bW.refl {x y v:AV}:bW x y v v:=λD φ u h hv=>hv
def dZ (x y:AV):List AV->List AV->Prop
 |[],[]=>True
 |a::l,b::m=>bW x y a b/\dZ x y l m
 |_,_=>False
theorem dZ.len {x y:AV}: ∀{l m:List AV},dZ x y l m->l.length=m.length
 |[],[],_=>rfl
 |a::l,b::m,h=>by simp [dZ.len h.2]
 |[],_::_,h=>h.elim
 |_::_,[],h=>h.elim
theorem dZ.get {x y:AV}: ∀{l m:List AV} {i:Nat} {b:AV},dZ x y l m->m[i]? =some b-> ∃a,l[i]? =some a/\bW x y a b
 |[],[],i,b,_,hi=>by simp at hi
 |a::l,c::m,0,b,h,hi=>by simp at hi;subst hi;exact ⟨a,rfl,h.1⟩
 |a::l,c::m,i+1,b,h,hi=>by
  obtain ⟨a',h1,h2⟩:=dZ.get h.2 (by simpa using hi)
  grind
 |[],_::_,_,_,h,_=>h.elim
 |_::_,[],_,_,h,_=>h.elim
theorem bW.agg {x y:AV} {l m:List AV} (h:dZ x y l m):bW x y (.agg l) (.agg m):=λD φ u hx hv=>by
 cases hv with
 |agg _ cs hl hh=>
  refine .agg m cs (by rw [<-hl,h.len]) (λi b u hb hu=> ?_)
  obtain ⟨a,h1,h2⟩:=h.get hb;exact h2 D φ u hx (hh i a u h1 hu)
theorem bW.bz {x y:AV} {l m:List AV} (h:dZ x y l m):bW x y (.bz l) (.bz m):=λD φ u hx hv=>by
 cases hv with
 |bz _ cs hl hh=>
  refine .bz m cs (by rw [<-hl,h.len]) (λi b u hb hu=> ?_)
  obtain ⟨a,h1,h2⟩:=h.get hb;exact h2 D φ u hx (hh i a u h1 hu)
theorem aZ.nA {n0 n n2:Nat} {v v' v2:AV} {h h' h2:Hp} {x:AV} {b:Nat} {k:bp} {cs:List AV} {m o:Nat} (hk:aa h b=some k) (hro:k.ro=false) (hx:(∃cap,x= .sl b o m cap/\m<=cap)\/x= .sg b o m) (hcs:cs=k.cells.drop o\/cs=(k.cells.drop o).take cs.length) (hf:bW x (.fz cs m) v v')
 (hh: ∀c kk,aa h' c=some kk->c≠b/\aa h c=some kk) (hc:aZ n0 v' h' n v2 h2 n2) (hmp:k.mp=none:=by rfl):aZ n0 v h n v2 h2 n2:=by
 intro D φ w D0 φ0 H0 w0 u hD0 hD hv hH hS;obtain ⟨hdb,⟨⟨vs,elem,fr,q1,q2,q3,q4⟩,q5⟩⟩:=hH.at_ b k hk;have q1:=q1.cells hmp;let φ1:bP:={φ with fz:=λB=>if B=φ.cI b then some vs else φ.fz B}
 have ag:cT D φ φ1:=⟨λc _=>⟨rfl,rfl,rfl,rfl⟩,λB vs' hB=>by
  simp only [φ1];split
  ·rename_i hBb;subst hBb;obtain ⟨elem',fr',h1⟩:=hH.fz _ _ hB
   grind
  ·exact hB,rfl⟩
 have hxy: ∀u1,aK D φ1 x u1->aK D φ1 (.fz cs m) u1:=λu1 h1=>by
  have get: ∀(i:Nat) (a:AV),cs[i]? =some a-> ∃u,vs[φ.off b+o+i]? =some u/\aK D φ a u:=λi a ha=>by
   grind
  have g1:φ1.fz (φ.cI b)=some vs:=by simp [φ1]
  have g2: ∀i,i<cs.length->φ.off b+o+i<vs.size:=λi hi=>by
   obtain ⟨u,hu,_⟩:=get i _ (bj hi)
   grind
  have g3: ∀(i:Nat) (a:AV) (u:Value),cs[i]? =some a->vs[φ.off b+o+i]? =some u->aK D φ1 a u:=λi a u ha hu=>by
   obtain ⟨u',hu',hr⟩:=get i a ha;rw [hu] at hu';cases hu';exact hr.mono (λ_ h=>h) ag
  rcases hx with ⟨cap,rfl,hcap⟩|rfl
  ·cases h1 with
   |sl _ _ _ _ _=>exact .fz _ _ _ _ _ vs g1 hcap g2 g3
  ·cases h1 with
   |sg _ _ _ j cap _ _ _ hl=>exact .fz _ _ _ _ _ vs g1 hl g2 g3
 have hv1:aK D φ1 v' u:=hf D φ1 u hxy (hv.mono (λ_ h=>h) ag);have hH1:HR D φ1 (aa h') w:=by
  refine ⟨⟨λc kk hc=> ?_,λb1 b2 k1 k2 hne h1 h2 hr=> ?_⟩,λB vs' hB=> ?_,hH.lp,λc kk B vs' hc hr hB=> ?_⟩
  ·obtain ⟨_,h2⟩:=hh c kk hc;have h3:=hH.at_ c kk h2;exact ⟨h3.1,h3.2.mono (λ_ h=>h) ag h3.1 rfl⟩
  ·exact hH.sep b1 b2 k1 k2 hne (hh _ _ h1).2 (hh _ _ h2).2 hr
  ·simp only [φ1] at hB;split at hB
   ·grind
   ·exact hH.fz B vs' hB
  ·obtain ⟨h1,h2⟩:=hh c kk hc;simp only [φ1] at hB;split at hB
   ·rename_i e;subst e;exact hH.sep c b kk k h1 h2 hk hr
   ·exact hH.lS c kk B vs' h2 hr hB
 refine hc D φ1 w D0 φ0 H0 w0 u hD0 hD hv1 hH1 ⟨hS.sub,⟨hS.agree.at_,λB vs' hB=>ag.fz B vs' (hS.agree.fz B vs' hB),hS.agree.lp⟩,hH1,hS.eF,λc kk hc hr=>hS.qL c kk (hh c kk hc).2 hr,λB vs' hB=> ?_⟩;simp only [φ1] at hB;split at hB
 ·rename_i e;subst e;exact .inr (hS.qL b k hk hro)
 ·exact hS.kj B vs' hB
theorem aZ.wu {n0 n n2:Nat} {v v' v2:AV} {h h2:Hp} {l:List AV} (hf:bW .ns (.fz l 0) v v') (hc:aZ n0 v' h n v2 h2 n2):aZ n0 v h n v2 h2 n2:=by
 intro D φ w D0 φ0 H0 w0 u hD0 hD hv hH hS;exact hc D φ w D0 φ0 H0 w0 u hD0 hD (hf D φ u (λu1 h1=>by cases h1;exact .nS _ _ _ (λ_=>rfl)) hv) hH hS
def Sh.Jl:Sh->Prop
 | .sl _ _ m c=>m<=c
 |_=>True
theorem aZ.aaA {α:Type} {f:α->List AV} {z:Nat} {l:List α} {s:Sh} {b:Nat} {n0 n n2:Nat} {v v' v2:AV} {h h' h2:Hp} (hs:s.is f z l) (hfr:s.fresh=true) (hcap:s.Jl) (hh0:sC h s b) (hf:bW (s.v b) (.fz (rows f l) l.length) v v')
 (hh: ∀c kk,aa h' c=some kk->c≠b/\aa h c=some kk) (hc:aZ n0 v' h' n v2 h2 n2):aZ n0 v h n v2 h2 n2:=by
 obtain ⟨h1,h2',h3⟩:=hs;cases s with
 |nil=>
  have h0:l.length=0:=h2'.symm;rw [h0] at hf;refine aZ.wu hf ?_;intro D φ w D0 φ0 H0 w0 u hD0 hD hv hH hS;exact hc D φ w D0 φ0 H0 w0 u hD0 hD hv (hH.sub λc kk hc=>(hh c kk hc).2) ⟨hS.sub,hS.agree,hH.sub λc kk hc=>(hh c kk hc).2,hS.eF,λc kk hc hr=>hS.qL c kk (hh c kk hc).2 hr,hS.kj⟩
 |sl k o m c=>
  have hm:m=l.length:=h2';subst hm;refine aZ.nA (k:=k) (o:=o) (cs:=rows f l) (hh0 b k (by simp [Sh.h,aa])) (by grind [Sh.fresh]) (.inl ⟨c,rfl,hcap⟩) (.inr ?_) hf hh hc (BF.1 (lP.1 h1).1)
  have h3:aD k.cells o (l.length*z)=rows f l:=h3;rw [<-h3,aD,fY];exact List.take_eq_take_min
 |sg k o m=>
  have hm:m=l.length:=h2';subst hm;refine aZ.nA (k:=k) (o:=o) (cs:=rows f l) (hh0 b k (by simp [Sh.h,aa])) (by grind [Sh.fresh]) (.inr rfl) (.inr ?_) hf hh hc (BF.1 (lP.1 h1).1)
  have h3:aD k.cells o (l.length*z)=rows f l:=h3;rw [<-h3,aD,fY];exact List.take_eq_take_min
end Go.Ab
namespace Go.Ab
def jR (h:Hp) (rd:List Nat) (a aF:AV):Prop:= ∀(D D':Nat->Prop) (φ:bP) (w:World) (u:Value),HR D φ (only (aa h) rd) w->aK D φ a u->aK D' (φ.nA (only (aa h) rd) w) aF u
def yG (h:Hp) (rd:List Nat):List AV->List AV->Prop
 |[],[]=>True
 |a::l,b::m=>jR h rd a b/\yG h rd l m
 |_,_=>False
section
variable {h:Hp} {rd:List Nat}
theorem jR.same {a:AV} (ha:a.aj 0=true):jR h rd a a:=λD D' φ w u hH hv=>(hv.mono (D':=D) (λ_ h=>h) (bP.gO hH D)).BH ha
theorem yG.len: ∀{l m:List AV},yG h rd l m->l.length=m.length
 |[],[],_=>rfl
 |a::l,b::m,h=>by simp [yG.len h.2]
 |[],_::_,h=>h.elim
 |_::_,[],h=>h.elim
theorem yG.get: ∀{l m:List AV} {i:Nat} {b:AV},yG h rd l m->m[i]? =some b-> ∃a,l[i]? =some a/\jR h rd a b
 |[],[],i,b,_,hi=>by simp at hi
 |a::l,c::m,0,b,h,hi=>by simp at hi;subst hi;exact ⟨a,rfl,h.1⟩
 |a::l,c::m,i+1,b,h,hi=>by
  obtain ⟨a',h1,h2⟩:=yG.get h.2 (by simpa using hi)
  grind
 |[],_::_,_,_,h,_=>h.elim
 |_::_,[],_,_,h,_=>h.elim
theorem jR.fn {f:FuncId} {l m:List AV} (hl:yG h rd l m):jR h rd (.fn f l) (.fn f m):=λD D' φ w u hH hv=>by
 cases hv with
 |fn _ _ cs hf hlen hh=>
  refine .fn f m cs hf (by rw [<-hlen,hl.len]) (λi b u hb hu=> ?_)
  obtain ⟨a,h1,h2⟩:=hl.get hb;exact h2 D D' φ w u hH (hh i a u h1 hu)
theorem jR.p {b o:Nat} {k:bp} (hb:only (aa h) rd b=some k) (hk:ab 0 k.cells=true) (hmp:k.mp=none:=by rfl):jR h rd (.p b o) (.fp k.cells o):=λD D' φ w u hH hv=>by
 cases hv with
 |p _ _ hD=>
  obtain ⟨_,⟨⟨vs,elem,fr,h1,h2,_⟩,_⟩⟩:=hH.at_ b k hb;have h1:=h1.cells hmp;have:=aK.fp (D:=D') (φ:=φ.nA (only (aa h) rd) w) k.cells o (φ.cI b) (φ.off b) vs (by rw [bP.En (D:=D) hb];simp [y4,h1]) (λi hi=>by
   obtain ⟨u,hu,_⟩:=h2 i _ (bj hi)
   grind) (λi a u ha hu=>by
   obtain ⟨u',hu',hr⟩:=h2 i a ha;rw [hu] at hu';cases hu';exact (hr.mono (D':=D) (λ_ h=>h) (bP.gO hH D)).BH (cE hk a (bJ ha)))
  exact this
theorem tK {z:Nat} {x:AV} {rd':List Nat} {m:Nat} {cs:List AV}
 (hv:xQ h z x (λrd m cs ok=>some (rd,m,cs,ok))=some (rd',m,cs,true)) (hcs:ab 0 cs=true) (hrd: ∀b,inl rd' b=true->inl rd b=true):jR h rd x (.fz cs m):=λD D' φ w u hH hx=>by
 have h1:=aK.view (D':=D') (C8 hH hrd) hx hv hcs;refine aK.mono (φ:=φ.nA (only (aa h) rd') w) (λ_ h=>h) ?_ h1;refine ⟨λb _=>⟨rfl,rfl,rfl,rfl⟩,λB vs hB=> ?_,rfl⟩;simp only [bP.nA] at hB ⊢;split at hB
 ·rename_i hex;obtain ⟨b,k,hb,hbB⟩:=hex;have hb2:only (aa h) rd b=some k:=by
   grind [only,inl]
  rw [aT ⟨b,k,hb2,hbB⟩];exact hB
 ·split
  ·exact hH.TX hB
  ·exact hB
end
theorem aA.C0 {P:Program} {f:FuncId} {args argsF:List AV} {h:Hp} {n:Nat} {rd:List Nat} {v:AV} (hc:Go.Ab.bH P f=true)
 (hv:yG h rd args argsF) (hpl:v.pl=true) (hf:bG P f argsF [] 0 v [] 0):aA P f args h n {v,n,rd}:=by
 refine ⟨hc,bx _,λb r hb=>by simp [cy] at hb,λb kk hb=>by simp [aa] at hb,λD φ w us hfresh hH hA=> ?_⟩
 let φ1:=φ.nA (only (aa h) rd) w;have hH1:HR (λ_=>False) φ1 (aa []) w:=⟨⟨λb k hb=>by simp [aa] at hb,λb1 b2 k1 k2 _ hb=>by simp [aa]⟩,λB vs hB=>by
  simp only [φ1,bP.nA] at hB;split at hB
  ·exact nP hB
  ·exact hH.fz B vs hB,hH.lp,λb k B vs hb=>by simp [aa] at hb⟩
 have hA1:cw (λ_=>False) φ1 argsF us:=⟨by rw [<-hv.len];exact hA.1,λi a u ha hu=>by
  obtain ⟨a',h1,h2⟩:=hv.get ha;exact h2 D _ φ w u hH (hA.2 i a' u h1 hu)⟩
 refine (hf (λ_=>False) φ1 w us (λ_ h=>h.elim) hH1 hA1).mono λe w' hx=> ?_;obtain ⟨D',φ',u,rfl,hD',hr,hS⟩:=hx;have hd: ∀b,D b->Dn D n n b:=λb h=> .inl h;have e:(bV.app {v,n,rd} (only (aa h) rd))=only (aa h) rd:=by funext b;rfl
 have hst: ∀c,c<w.heap.size->w'.heap[c]? =w.heap[c]? :=λc hc=>hS.eF.block c hc (λb k hb=>by simp [aa] at hb)
 refine ⟨u,φ,rfl,hr.pl hpl,?_,λc kk hc _=>by simp_all⟩
 show dU D φ _ w (Dn D n n) φ (bV.app _ _) w';rw [e];exact dU.mk' hH rfl rfl hd (cT.refl D φ).at_ ⟨λb k hb=>⟨hd b (hH.at_ b k hb).1,(hH.at_ b k hb).2.mono hd (cT.refl _ _) (hH.at_ b k hb).1 (hst _ (hH.at_ b k hb).2.lt)⟩,hH.sep⟩
  ⟨hS.eF.os,hS.eF.tape,hS.eF.output,hS.eF.size,λc hc _=>hst c hc⟩ (λb k hb hk=> .inr ⟨b,k,hb,hk,rfl⟩)
abbrev ahJ (z:Nat) (agg:Bool):bb:=(.seq (.dY [⟨some 4,.mv (.c (.i .i64 0)),none,false⟩]) (.seq (.seq (.dY [⟨some 6,.mv (.t 0),none,false⟩,⟨some 7,.lh (.t 6),none,false⟩,⟨some 8,.mv (.c (.i .i64 0)),none,false⟩])
 (.block 0 (.loop (.seq (.dY [⟨some 9,.bin .lss (.t 8) (.t 7),none,true⟩]) (.seq (.cond (.t 9) .skip (.exit 0)) (.seq (.block 1 (.seq (.dY [⟨some 10,.mv (.t 8),none,false⟩,⟨some 5,.mv (.t 10),none,false⟩])
   (.seq (.dY [⟨some 11,.mv (.t 1),none,false⟩,⟨some 12,.mv (.t 0),none,false⟩,⟨some 13,.mv (.t 5),none,false⟩,⟨some 14,.uS z (.t 12) (.t 13),none,false⟩,⟨some 15,.ld agg z (.t 14),none,false⟩,⟨some 16,.call (.t 11) [.t 15],none,true⟩])
     (.cond (.t 16) (.seq (.dY [⟨some 17,.mv (.t 5),none,false⟩,⟨some 4,.mv (.t 17),none,false⟩]) .ret) .skip)))) (.dY [⟨some 18,.bin .add (.t 8) (.c (.i .i64 1)),none,false⟩,⟨some 8,.mv (.t 18),none,false⟩])))))))
 (.seq (.dY [⟨some 4,.mv (.c (.i .i64 (-1))),none,false⟩]) .ret)))
def Hs (z:Nat) (agg:Bool):cZ:={np:=2,N:=19,ct:=[9,16],code:=ahJ z agg,res:=[.t 4]}
abbrev afO (g:FuncId):bb:=(.seq (.dY [⟨some 4,.mv (.c (.b false)),none,false⟩]) (.seq (.dY [⟨some 5,.mv (.t 0),none,false⟩,⟨some 6,.mv (.t 1),none,false⟩,⟨some 7,.call (.c (.fn g [])) [.t 5,.t 6],none,false⟩,⟨some 8,.bin .geq (.t 7) (.c (.i .i64 0)),none,false⟩,⟨some 4,.mv (.t 8),none,false⟩]) .ret))
def YK (g:FuncId):cZ:={np:=2,N:=9,ct:=[],code:=afO g,res:=[.t 4]}
def vU {α:Type} (p:α->Bool):List α->Int->Int
 |[],_=> -1
 |x::r,i=>if p x then i else vU p r (i+1)
theorem wC {α:Type} (p:α->Bool): ∀(l:List α) (i:Int),0<=i->(decide (0<=vU p l i)=l.any p)
 |[],i,_=>rfl
 |x::r,i,h=>by
  simp only [vU,List.any_cons];by_cases hx:p x=true
  ·simp [hx,h]
  ·simp [hx,wC p r (i+1) (by omega)]
theorem oW {α:Type} {p:α->Bool}: ∀{l:List α} {k:Nat} (i:Int),(∀x∈l.take k,p x=false)->vU p l i=vU p (l.drop k) (i+k)
 |l,0,i,_=>by simp
 |[],k+1,i,_=>rfl
 |x::r,k+1,i,h=>by
  simp only [vU,h x (by simp),ei,dP,List.drop_succ_cons]
  rw [oW (l:=r) (k:=k) (i+1) (λy hy=>h y (by simp [hy]))]
  grind
noncomputable def Ms {α:Type} (g:FuncId) (caps:List AV) (el:α->AV) (p:α->Bool) (l:List α):Cx:=λf args h n=>
 open Classical in if hx:f=g/\ ∃a,a∈l/\args=el a::caps then some (true,{v:= .b (p hx.2.choose),n}) else none
theorem Kb {α:Type} {g:FuncId} {caps:List AV} {el:α->AV} {p:α->Bool} {l:List α} (hp: ∀a b,el a=el b->p a=p b) {a:α} (ha:a∈l) {h:Hp} {n:Nat}:Ms g caps el p l g (el a::caps) h n=some (true,{v:= .b (p a),n}):=by
 unfold Ms;have hx:g=g/\ ∃b,b∈l/\el a::caps=el b::caps:=⟨rfl,a,ha,rfl⟩
 grind
theorem zr {P:Program} {α:Type} {g:FuncId} {caps:List AV} {el:α->AV} {p:α->Bool} {l:List α} (hc:bH P g=true) (hel: ∀a,(el a).aj 0=true) (hcaps:ab 0 caps=true)
 (hf: ∀a∈l,bG P g (el a::caps) [] 0 (.b (p a)) [] 0):Sound P (Ms g caps el p l):=λf args h n c E hx hc'=>by
 unfold Ms at hx;split at hx
 ·rename_i hy;obtain ⟨h1,h2⟩:=hy.2.choose_spec;simp only [aI,aV] at hx;obtain ⟨_,rfl⟩:=hx;obtain ⟨a,ha⟩: ∃a,a=hy.2.choose:=⟨_,rfl⟩;rw [<-ha] at h1 h2 ⊢;clear ha;obtain ⟨rfl,_⟩:=hy;rw [h2];exact aA.pure hc (by grind [ab]) rfl (hf _ h1) h n
 ·cases hx
end Go.Ab
namespace Go.Ab
section
variable {P:Program} {α:Type} {row:α->List AV} {el:α->AV} {p:α->Bool} {g:FuncId} {caps:List AV}
theorem IP {z:Nat} {f:FuncId} {fn:Func} (hm:P.follows .mixedOrders=true) (hf:P.funcs[f]? =some fn) (hI:ah P fn=some (Hs z true)) (hg:bH P g=true) (hlen: ∀a,(row a).length=z) (hbel: ∀a,ab 0 (row a)=true) (hcaps:ab 0 caps=true)
 (hel: ∀a,el a= .agg (row a)) (hp: ∀a b,el a=el b->p a=p b) (l:List α) (hl:l.length<=9223372036854775807) (hF: ∀a∈l,bG P g (el a::caps) [] 0 (.b (p a)) [] 0):bG P f [.fz (rows row l) l.length,.fn g caps] [] 0 (.i .i64 (vU p l 0)) [] 0:=by
 have hcx:Sound P (Ms g caps el p l):=zr hg (λa=>by rw [hel];exact hbel a) hcaps hF
 have hat: ∀(a:α) (h:Hp) (n:Nat),a∈l->Ms g caps el p l g (.agg (row a)::caps) h n=some (true,{v:= .b (p a),n}):=λa h n ha=>by grind [Kb]
 generalize Ms g caps el p l=cx at hcx hat;refine bG.dQ hcx hm hf hI (by simp [Hs]) (aO ?_)
 dsimp only [Hs];generalize hR:vU p l 0=R;have hLb:ab 0 (rows row l)=true:=bh hbel;have hL: ∀(k:Nat) x,l[k]? =some x->List.take z (List.drop (k*z) (rows row l))=row x:=λk x hk=>dm hlen hk;generalize rows row l=L at hL hLb ⊢;simp only [go_sem,simprocAttr];refine Loop.dV (F:=⟨P,cx,[9,16],19,0⟩) hcx hm l.length (λk=> ∀x∈l.take k,p x=false)
  (λk=>[(0,.fz L l.length),(1,.fn g caps),(7,.i .i64 (l.length:Int)),(8,.i .i64 (k:Int))])
  (λk=>[]) 0 (bx 0) (by simp) ?_ ?_ (λk hk ho=> ?_)
 ·simp only [go_sem,AV.aj,hLb,hcaps,simprocAttr]
 ·simp only [go_sem,simprocAttr]
 ·by_cases hlt:k<l.length
  ·have c1:decide ((k:Int)<(l.length:Int))=true:=af (by omega)
   have c2:decide (0<=(k:Int)/\(k:Int)<(l.length:Int))=true:=af (by omega)
   have hx:=hL k l[k] (bj hlt);have hw:IntKind.i64.wrap ((k:Int)+1)=((k+1:Nat):Int):=by grind [aN]
   have hdr:l.drop k=l[k]::l.drop (k+1):=rE hlt;have ha:=λh n=>hat l[k] h n (List.getElem_mem hlt);have hlz:=hlen l[k];cases hin:p l[k]
   ·have hnext: ∀x∈l.take (k+1),p x=false:=by
     grind
    simp only [go_sem,c1,c2,hx,ha,hlz,hin,hw,hlt,AV.aj,hLb,hcaps,simprocAttr];exact hnext
   ·have hfo:R=(k:Int):=by
     grind [oW,vU]
    simp only [go_sem,c1,c2,hx,ha,hlz,hin,simprocAttr];exact Ends.aw rfl (by rw [hfo])
  ·have c1:decide ((k:Int)<(l.length:Int))=false:=bw (by omega)
   have hkl:k=l.length:=by omega
   have hfo:R= -1:=by
    rw [<-hR,oW 0 ho,hkl,rZ];rfl
   simp only [go_sem,c1,simprocAttr];exact Ends.aw rfl (by rw [hfo])
theorem GJ {f:FuncId} {fn:Func} (hm:P.follows .mixedOrders=true) (hf:P.funcs[f]? =some fn) (hI:ah P fn=some (Hs 1 false)) (hg:bH P g=true) (hbel: ∀a,(el a).aj 0=true) (hcaps:ab 0 caps=true)
 (hrow: ∀a,row a=[el a]) (hp: ∀a b,el a=el b->p a=p b) (l:List α) (hl:l.length<=9223372036854775807) (hF: ∀a∈l,bG P g (el a::caps) [] 0 (.b (p a)) [] 0):bG P f [.fz (rows row l) l.length,.fn g caps] [] 0 (.i .i64 (vU p l 0)) [] 0:=by
 have hcx:Sound P (Ms g caps el p l):=zr hg hbel hcaps hF;have hat: ∀(a:α) (h:Hp) (n:Nat),a∈l->Ms g caps el p l g (el a::caps) h n=some (true,{v:= .b (p a),n}):=λa h n ha=>Kb hp ha;generalize Ms g caps el p l=cx at hcx hat;refine bG.dQ hcx hm hf hI (by simp [Hs]) (aO ?_)
 dsimp only [Hs];generalize hR:vU p l 0=R;have hLb:ab 0 (rows row l)=true:=bh (λa=>by grind [ab])
 have hL: ∀(k:Nat) x,l[k]? =some x->(rows row l)[k*1]? =some (el x):=λk x hk=>bM (f:=row) (z:=1) (j:=0) (v:=el x) (λa=>by simp [hrow]) hk (by simp [hrow])
 generalize rows row l=L at hL hLb ⊢;simp only [go_sem,simprocAttr];refine Loop.dV (F:=⟨P,cx,[9,16],19,0⟩) hcx hm l.length (λk=> ∀x∈l.take k,p x=false)
  (λk=>[(0,.fz L l.length),(1,.fn g caps),(7,.i .i64 (l.length:Int)),(8,.i .i64 (k:Int))])
  (λk=>[]) 0 (bx 0) (by simp) ?_ ?_ (λk hk ho=> ?_)
 ·simp only [go_sem,AV.aj,hLb,hcaps,simprocAttr]
 ·simp only [go_sem,simprocAttr]
 ·by_cases hlt:k<l.length
  ·have c1:decide ((k:Int)<(l.length:Int))=true:=af (by omega)
   have c2:decide (0<=(k:Int)/\(k:Int)<(l.length:Int))=true:=af (by omega)
   have hx:=hL k l[k] (bj hlt);rw [di] at hx;have hw:IntKind.i64.wrap ((k:Int)+1)=((k+1:Nat):Int):=by grind [aN]
   have hdr:l.drop k=l[k]::l.drop (k+1):=rE hlt;have ha:=λh n=>hat l[k] h n (List.getElem_mem hlt);cases hin:p l[k]
   ·have hnext: ∀x∈l.take (k+1),p x=false:=by
     grind
    simp only [go_sem,c1,c2,hx,ha,hin,hw,hlt,AV.aj,hLb,hcaps,di,simprocAttr];exact hnext
   ·have hfo:R=(k:Int):=by
     grind [oW,vU]
    simp only [go_sem,c1,c2,hx,ha,hin,di,simprocAttr];exact Ends.aw rfl (by rw [hfo])
  ·have c1:decide ((k:Int)<(l.length:Int))=false:=bw (by omega)
   have hkl:k=l.length:=by omega
   have hfo:R= -1:=by
    rw [<-hR,oW 0 ho,hkl,rZ];rfl
   simp only [go_sem,c1,simprocAttr];exact Ends.aw rfl (by rw [hfo])
theorem Li {f g2:FuncId} {fn:Func} {L:List AV} {m:Nat} {R:Int} {b:Bool} (hm:P.follows .mixedOrders=true) (hf:P.funcs[f]? =some fn) (hI:ah P fn=some (YK g2)) (hg:bH P g2=true) (hL:ab 0 L=true) (hcaps:ab 0 caps=true)
 (hix:bG P g2 [.fz L m,.fn g caps] [] 0 (.i .i64 R) [] 0) (hR:decide (0<=R)=b):bG P f [.fz L m,.fn g caps] [] 0 (.b b) [] 0:=by
 let cx:Cx:=λf args h n=>open Classical in if f=g2/\args=[.fz L m,.fn g caps] then some (true,{v:= .i .i64 R,n}) else none
 have hcx:Sound P cx:=λf args h n c E hx hc=>by
  grind [aA.pure,ab,AV.aj]
 have hat: ∀(h:Hp) (n:Nat),cx g2 [.fz L m,.fn g caps] h n=some (true,{v:= .i .i64 R,n}):=λh n=>aT ⟨rfl,rfl⟩;generalize cx=cx at hcx hat;refine bG.dQ hcx hm hf hI (by simp [YK]) (aO ?_)
 dsimp only [YK];simp only [go_sem,hat,simprocAttr];exact Ends.aw rfl (by rw [<-hR])
end
end Go.Ab
namespace Go.Ab
abbrev Xt:=Int×List UInt8
def xu (x:Xt):List AV:=[.i .i64 x.1,.s x.2]
theorem qA: ∀x,(xu x).length=2:=λ_=>rfl
theorem uf: ∀x,ab 0 (xu x)=true:=λ_=>rfl
structure Md where
 ma:Bool
 ty:Int
 sq:Int
 tm:Int
 ss:Int
 cs:List Int
 xs:List Xt
 pd:Int
 pl:List UInt8
def Md.l (p:Md):List AV:=[.b p.ma,.i .i64 p.ty,.i .i64 p.sq,.i .i64 p.tm,.i .i64 p.ss,.fz (rows aq p.cs) p.cs.length,.fz (rows xu p.xs) p.xs.length,.i .i64 p.pd,.s p.pl]
theorem Md.len: ∀p:Md,p.l.length=9:=λ_=>rfl
theorem Md.aj: ∀p:Md,ab 0 p.l=true:=λp=>by
 simp only [Md.l,ab,AV.aj,bh gV,bh uf,aG]
theorem xE {α:Type} {f:α->List AV} {z:Nat} (hf: ∀a,(f a).length=z) (hi: ∀a b,f a=f b->a=b): ∀{l m:List α},l.length=m.length->rows f l=rows f m->l=m
 |[],[],_,_=>rfl
 |a::l,b::m,hl,h=>by
  rw [cX,cX] at h;obtain ⟨h1,h2⟩:=List.append_inj h (by rw [hf,hf])
  rw [hi _ _ h1,xE hf hi (by grind) h2]
 |[],_::_,h,_=>by simp at h
 |_::_,[],h,_=>by simp at h
theorem Md.inj {p q:Md} (h:p.l=q.l):p=q:=by
 obtain ⟨a1,a2,a3,a4,a5,a6,a7,a8,a9⟩:=p;obtain ⟨b1,b2,b3,b4,b5,b6,b7,b8,b9⟩:=q;simp only [Md.l,yQ,AV.b.injEq,AV.i.injEq,AV.fz.injEq,AV.s.injEq,lI,e9] at h;obtain ⟨rfl,rfl,rfl,rfl,rfl,⟨h6,l6⟩,⟨h7,l7⟩,rfl,rfl⟩:=h;have e6:=xE (f:=aq) bR (λa b e=>by grind [aq]) l6 h6
 have e7:=xE (f:=xu) qA (λa b e=>by
  simp only [xu,yQ,AV.i.injEq,AV.s.injEq,lI,e9] at e
  grind) l7 h7
 rw [e6,e7]
def Md.fin (p:Md):Bool:=decide (p.cs.length<=9223372036854775807)&&decide (p.xs.length<=9223372036854775807)&&(p.xs.all λx=>decide (x.2.length<=9223372036854775807))&&decide (p.pl.length<=9223372036854775807)
def sk (bits n:Int):Bool:=decide (0<=n)&&(n.fdiv (2^(Nat.min bits.toNat 64))==0)
def vt (lo hi x:Int):Bool:=decide (lo<=x)&&decide (x<=hi)
theorem Sz {lo hi x:Int}:vt lo hi x=true↔lo<=x/\x<=hi:=by simp [vt]
theorem AA {b:Int} {m:Int} (hm:(2:Int)^(Nat.min b.toNat 64)=m+1) (hm0:0<=m) (n:Int):sk b n=vt 0 m n:=by
 rw [rh,Sz];simp only [sk,hm,ak,bg,ik];constructor
 ·rintro ⟨h1,h2⟩;rw [Dj _ (by omega)] at h2
  refine ⟨h1,?_⟩;have:=Int.mul_ediv_add_emod n (m+1);have hlt:=mK n (show 0<m+1 by omega)
  grind
 ·rintro ⟨h1,h2⟩;refine ⟨h1,?_⟩;rw [Dj _ (by omega)]
  exact Int.ediv_eq_zero_of_lt h1 (by omega)
theorem CI (n:Int):sk 7 n=vt 0 127 n:=AA (by rfl) (by omega) n
theorem AU (n:Int):sk 8 n=vt 0 255 n:=AA (by rfl) (by omega) n
theorem yk (n:Int):sk 16 n=vt 0 65535 n:=AA (by rfl) (by omega) n
theorem Z0 (n:Int):sk 32 n=vt 0 4294967295 n:=AA (by rfl) (by omega) n
def lY (l:List Xt) (i:Nat):Bool:=match l[i]? with
 |none=>true
 |some x=>vt 0 255 x.1&&vt 0 255 (x.2.length:Int)&&decide (0<x.1)&&(i==0||(match l[i-1]? with|some y=>decide (y.1<x.1)|none=>true))
def mi (p:Md):Bool:=vt 0 127 p.ty&&vt 0 65535 p.sq&&(vt 0 4294967295 p.tm&&vt 0 4294967295 p.ss)&&p.cs.all (vt 0 4294967295)&&vt 0 255 p.pd&&decide (p.cs.length<=15)&&decide (p.xs.length<=16)
def jB (f:Nat->Bool):Nat->Bool
 |0=>true
 |k+1=>jB f k&&f k
theorem BN {f:Nat->Bool} {k:Nat}:jB f (k+1)=(jB f k&&f k):=(rfl)
theorem wY {f:Nat->Bool}: ∀{k:Nat},jB f k=true↔ ∀i,i<k->f i=true
 |0=>by simp [jB]
 |k+1=>by
  rw [BN,ak,wY];constructor
  ·rintro ⟨h1,h2⟩ i hi;rcases xU.1 hi with h|h
   ·exact h1 i h
   ·rw [h];exact h2
  ·exact λh=>⟨λi hi=>h i (by omega),h k (by omega)⟩
def vY (p:Md):Bool:=mi p&&jB (lY p.xs) p.xs.length
def abr (x:Int):List AV:=[.i .u32 x]
def pcR (x:Int×List UInt8):List AV:=[.i .u8 x.1,.s x.2]
theorem Lr: ∀x,ab 0 (abr x)=true:=λ_=>rfl
theorem OK: ∀x,ab 0 (pcR x)=true:=λ_=>rfl
structure Dm where
 ma:Bool
 ty:Int
 sq:Int
 tm:Int
 ss:Int
 cs:List Int
 xs:List Xt
 pd:Int
 pl:List UInt8
def Dm.l (p:Dm):List AV:=[.b p.ma,.i .u8 p.ty,.i .u16 p.sq,.i .u32 p.tm,.i .u32 p.ss,.fz (rows abr p.cs) p.cs.length,.fz (rows pcR p.xs) p.xs.length,.i .u8 p.pd,.s p.pl]
theorem Dm.aj: ∀p:Dm,ab 0 p.l=true:=λp=>by
 simp [Dm.l,ab,AV.aj,bh,Lr,OK,aG]
def aaG:Int->List Xt->List Xt
 |_,[]=>[]
 |id,x::r=>(id+1+x.1 % 60,x.2.take 20)::aaG (id+1+x.1 % 60) r
def Dm.md (p:Dm):Md:=⟨p.ma,p.ty % 128,p.sq,p.tm,p.ss,p.cs.take 3,aaG 0 (p.xs.take 4),p.pd,p.pl.take 60⟩
structure Dm.ok (p:Dm):Prop where
 ty:0<=p.ty/\p.ty<=255
 sq:0<=p.sq/\p.sq<=65535
 tm:0<=p.tm/\p.tm<=4294967295
 ss:0<=p.ss/\p.ss<=4294967295
 pd:0<=p.pd/\p.pd<=255
 cs: ∀x∈p.cs,0<=x/\x<=4294967295
 xs: ∀x∈p.xs,0<=x.1/\x.1<=255
theorem nt {α β:Type} {h:Hp} {f:α->List AV} {z:Nat} (hf: ∀a,(f a).length=z) {l:List α} {k:List Nat->Nat->List AV->Bool->Option β}:xQ h z (.fz (rows f l) l.length) k=k [] l.length (rows f l) true:=by
 grind [aD,rows,dk,aU,jh,xh,af]
theorem pF {α:Type} {h:Hp} {z:Nat} {x:AV} {k:List Nat->Nat->List AV->Bool->Option α}:xQ h z x k=(xQ h z x (λa b c d=>some (a,b,c,d))).bind λr=>k r.1 r.2.1 r.2.2.1 r.2.2.2:=by
 cases x<;>simp only [xQ,aC,Option.bind_none]<;>(cases jo h _<;>rfl)
def ZT:List AV->Option Xt
 |[.i .i64 x,.s l]=>some (x,l)
 |_=>none
theorem KP (c:List AV) (a:Xt) (h:ZT c=some a):c=xu a:=by
 unfold ZT at h;split at h
 ·cases h;rfl
 ·cases h
def iD {α:Type} (g:Nat->α):Nat->List α
 |0=>[]
 |k+1=>iD g k++[g k]
theorem Au {α:Type} {g:Nat->α}:iD g 0=[]:=(rfl)
theorem il {α:Type} {g:Nat->α} {k:Nat}:iD g (k+1)=iD g k++[g k]:=(rfl)
theorem cJ {α:Type} {g:Nat->α}: ∀k,(iD g k).length=k
 |0=>rfl
 |k+1=>by rw [il,cm,cJ k];rfl
theorem eZ {α:Type} {g:Nat->α}: ∀{k i:Nat},i<k->(iD g k)[i]? =some (g i)
 |k+1,i,h=>by
  rw [il];rcases xU.1 h with h'|h'
  ·rw [zO (by rw [cJ];exact h')];exact eZ h'
  ·subst h';rw [vE (by rw [cJ];omega),cJ];simp
def Jj:List AV->Option Md
 |[.b ma,.i .i64 ty,.i .i64 sq,.i .i64 tm,.i .i64 ss,.fz C c,.fz X x,.i .i64 pd,.s pl]=>(bc 1 dG c C).bind λcs=>(bc 2 ZT x X).bind λxs=>some ⟨ma,ty,sq,tm,ss,cs,xs,pd,pl⟩
 |_=>none
theorem x3 {l:List AV} {p:Md} (h:Jj l=some p):l=p.l:=by
 unfold Jj at h;split at h
 ·simp only [av,aI] at h;obtain ⟨cs,h1,xs,h2,rfl⟩:=h;obtain ⟨rfl,rfl⟩:=bu (f:=aq) df h1;obtain ⟨rfl,rfl⟩:=bu (f:=xu) KP h2;rfl
 ·cases h
theorem PD (c:List AV) (p:Md) (h:Jj c=some p):c=p.l:=x3 h
theorem vG (p:Md):Jj p.l=some p:=by
 have h1:bc 1 dG p.cs.length (rows aq p.cs)=some p.cs:=dM bR (λ_=>rfl) p.cs;have h2:bc 2 ZT p.xs.length (rows xu p.xs)=some p.xs:=dM qA (λ_=>rfl) p.xs;simp_all [Jj,Md.l,aC]
theorem xw {α:Type} {f:α->List AV} {z:Nat} (hf: ∀a,(f a).length=z) {a:α}: ∀{l:List α} {i:Nat},i<l.length->eU (rows f l) (i*z) (f a)=rows f (l.set i a)
 |[],i,h=>by simp at h
 |x::l,0,_=>by
  simp_all [List.set_cons_zero,cX,eU,zx,oD,List.nil_append,fy]
 |x::l,i+1,h=>by
  rw [List.set_cons_succ,cX,cX,<-xw hf (l:=l) (i:=i) (by simpa using h)]
  unfold eU;rw [gi,pD,vN (i*z) z,<-hf x,List.take_length_add_append,mj,List.drop_length_add_append,jy,jy,jy]
end Go.Ab
namespace Go.Ab
def TF:Cx:=λ_ _ _ _=>none
theorem HJ {P:Program}:Sound P TF:=λf args h n c E hc _=>by cases hc
def Hl (m:FrameMode) (k:FrameMode->AV->Prop):Prop:=
 match m with
 | .returning=>k .returning .ni
 | .panicking [{v:= .iface t u,recovered:=false,goexit:=false}]=>k (.panicking [{v:= .iface t u,recovered:=true}]) (.k t u)
 |_=>False
theorem Zn {k:FrameMode->AV->Prop}:Hl .returning k=k .returning .ni:=(rfl)
theorem Zm {t:TypeId} {u:Value} {k:FrameMode->AV->Prop}:Hl (.panicking [{v:= .iface t u,recovered:=false}]) k=k (.panicking [{v:= .iface t u,recovered:=true}]) (.k t u):=(rfl)
def lG:j8->Bool
 | .rcv=>true
 |_=>false
abbrev vn:=FrameMode->Exit->Env->Hp->Nat->Prop
def pE:List bq->FrameMode->Env->Hp->Nat->vn->Prop
 |[],m,e,h,n,K=>K m .normal e h n
 |⟨d,o,none,s⟩::os,m,e,h,n,K=>match lG o with
  |true=>Hl m λm v=>pE os m (iu d v e) h n K
  |false=>Hv (l8 TF o e h n) λc p v h n=>jx c (p=none/\ic s v λv=>pE os m (iu d v e) h n K)
 |_::_,_,_,_,_,_=>False
def yR:bb->FrameMode->vn->Env->Hp->Nat->Prop
 | .skip,m,K,e,h,n=>K m .normal e h n
 | .dY ops,m,K,e,h,n=>pE ops m e h n K
 | .seq a b,m,K,e,h,n=>yR a m (λm ex e h n=>match ex with| .normal=>yR b m K e h n|ex=>K m ex e h n) e h n
 | .cond c a b,m,K,e,h,n=>gd (c.ev e h) λv=>match v with
  | .b x=>It x (yR a m K e h n) (yR b m K e h n)
  |_=>False
 | .ret,m,K,e,h,n=>K m .ret e h n
 | .jv ops,m,K,e,h,n=>rD TF ops 0 [] e h n (λex e h n=>K m ex e h n)
 |_,_,_,_,_,_=>False
/-! ### the model's recover -/
def xz (x:j8):Bool:= !lG x
def NR (x:Option j8):Prop:= ∀y,x=some y->xz y=true
theorem NR.bind {α:Type} {x:Option α} {f:α->Option j8} (h: ∀a,NR (f a)):NR (x.bind f):=λy hy=>by
 simp only [av] at hy;obtain ⟨a,_,hy⟩:=hy;exact h a y hy
theorem NR.map {α:Type} {x:Option α} {f:α->j8} (h: ∀a,xz (f a)=true):NR (x.map f):=λy hy=>by
 grind [bK]
theorem NR.none:NR none:=λy hy=>by cases hy
theorem NR.ite {c:Prop} [Decidable c] {x y:Option j8} (h1:NR x) (h2:NR y):NR (if c then x else y):=by grind
theorem NR.bE {x:Option j8} (h:NR x):xz (bE x)=true:=by
 cases x with
 |none=>rfl
 |some y=>exact h y rfl
theorem yS {P:Program} {o:Op} (ho: ∀args tys,o≠ .call ⟨.builtin .recover,args,tys⟩):xz (cN P o)=true:=by
 cases o<;>simp only [cN]
 case call c=>
  obtain ⟨callee,args,tys⟩:=c;cases callee with
  |value f=>exact NR.bE (NR.bind λ_=>NR.map λ_=>rfl)
  |invoke r m=>rfl
  |builtin b=>
   simp only;repeat' split
   all_goals first
    |rfl
    |exact absurd rfl (ho _ _)
    |(refine NR.bE ?_;repeat (first|(refine NR.bind (λ_=> ?_))|exact NR.map (λ_=>rfl)|exact NR.none|refine NR.ite ?_ ?_))
 case makeFunc fn first caps=>
  cases fn with
  |func f=>simp only;repeat' split
           all_goals first|rfl|exact NR.bE (NR.map (λ_=>rfl))
  |_=>rfl
 all_goals (repeat' split)
 all_goals first
  |rfl
  |(refine NR.bE ?_;repeat (first|(refine NR.bind (λ_=> ?_))|exact NR.map (λ_=>rfl)|exact NR.none|refine NR.ite ?_ ?_))
theorem NX {P:Program} {ρ:Operand->Value} {o:Oper} {w:World} (h:lG (cN P o.op)=true):(execOp ρ o).run P w= .ok .recover w:=by
 grind [builtin,execOp,resolve,invoke,Sem.run_bind,Sem.run_pure,Result.andThen_ok,yS,xz]
def adR:j8->Bool
 | .BW _ _=>true
 |_=>false
def yi (x:j8):Bool:= !adR x
theorem zA {y:j8} {x:cq} {l:List cq} (h:yi y=true) (e:y= .BW x l):False:=by rw [e] at h;cases h
def ND (x:Option j8):Prop:= ∀y,x=some y->yi y=true
theorem ND.bind {α:Type} {x:Option α} {f:α->Option j8} (h: ∀a,ND (f a)):ND (x.bind f):=λy hy=>by
 simp only [av] at hy;obtain ⟨a,_,hy⟩:=hy;exact h a y hy
theorem ND.map {α:Type} {x:Option α} {f:α->j8} (h: ∀a,yi (f a)=true):ND (x.map f):=λy hy=>by
 grind [bK]
theorem ND.none:ND none:=λy hy=>by cases hy
theorem ND.ite {c:Prop} [Decidable c] {x y:Option j8} (h1:ND x) (h2:ND y):ND (if c then x else y):=by grind
theorem ND.bE {x:Option j8} (h:ND x):yi (bE x)=true:=by
 cases x with
 |none=>rfl
 |some y=>exact h y rfl
theorem ru {P:Program} {o:Op} (ho: ∀c,o≠ .defer c):yi (cN P o)=true:=by
 cases o<;>simp only [cN]
 case defer c=>grind
 case call c=>
  obtain ⟨callee,args,tys⟩:=c;cases callee with
  |value f=>exact ND.bE (ND.bind λ_=>ND.map λ_=>rfl)
  |invoke r m=>rfl
  |builtin b=>
   simp only;repeat' split
   all_goals first
    |rfl
    |(refine ND.bE ?_;repeat (first|(refine ND.bind (λ_=> ?_))|exact ND.map (λ_=>rfl)|exact ND.none|refine ND.ite ?_ ?_))
 case makeFunc fn first caps=>
  cases fn with
  |func f=>simp only;repeat' split
           all_goals first|rfl|exact ND.bE (ND.map (λ_=>rfl))
  |_=>rfl
 all_goals (repeat' split)
 all_goals first
  |rfl
  |(refine ND.bE ?_;repeat (first|(refine ND.bind (λ_=> ?_))|exact ND.map (λ_=>rfl)|exact ND.none|refine ND.ite ?_ ?_))
/-! ### soundness -/
section
variable {P:Program} {N n0:Nat}
def Ld (N n0:Nat) (c0:Frame) (cs:List Frame) (D0:Nat->Prop) (φ0:bP) (H0:Hf) (w0:World) (K:vn) (ex:Exit) (a:Act) (cs':List Frame) (w:World):Prop:=
 ∃m D φ e h n,K m ex e h n/\n0<=n/\cs'={c0 with mode:=m}::cs/\a.defers=[]/\Rel D φ e h n N (w0.heap.size,[]) a w/\dU D0 φ0 H0 w0 D φ (aa h) w
theorem ox {c0:Frame} {cs:List Frame} {K:vn} {D0:Nat->Prop} {φ0:bP} {H0:Hf} {w0:World} {ops:Array Oper} {sp:List Nat} (hn0: ∀b,D0 b->b<n0) (hgu:jP ops.toList=true):
 ∀(l:List Oper) (i:Nat),(∀j,l[j]? =ops[i+j]?)->jU N l=true-> ∀(m:FrameMode) (e:Env) (h:Hp) (n:Nat) (D:Nat->Prop) (φ:bP) (a:Act) (w:World),n0<=n->a.defers=[]→
  pE (l.map (bk P ops.toList sp)) m e h n K->Rel D φ e h n N (w0.heap.size,[]) a w->dU D0 φ0 H0 w0 D φ (aa h) w→
  wpOpsSIn (Fw none) (0-1) P ops (Ld N n0 c0 cs D0 φ0 H0 w0 K) (List.range' i l.length) a ({c0 with mode:=m}::cs) w
 |[],i,_,_,m,e,h,n,D,φ,a,w,hn,hd0,hrun,hR,hS=>⟨m,D,φ,e,h,n,hrun,hn,rfl,hd0,hR,hS⟩
 |o::l,i,hl,hdst,m,e,h,n,D,φ,a,w,hn,hd0,hrun,hR,hS=>by
  have ho:ops[i]? =some o:=by simpa using (hl 0).symm
  have hl': ∀j,l[j]? =ops[(i+1)+j]? :=λj=>by have:=hl (j+1);grind
  simp only [jU,iz,ak] at hdst;have hom:o∈ops.toList:=bJ (i:=i) (by grind)
  have hdN: ∀t,o.dst=some t->t<N:=λt ht=>by
   grind
  simp only [List.length_cons,List.range'_succ,wpOpsSIn,ho];refine ⟨λ_ _=>trivial,?_⟩;cases hog:o.guard with
  |some q=>
   obtain ⟨j,b⟩:=q;have h1:(ops.toList[j]?.bind (·.dst)).isSome=true:=by
    have:=du.1 hgu o hom;grind
   obtain ⟨d,hd⟩:=tx.1 h1;simp only [fJ] at hrun;obtain ⟨s0,hs0⟩: ∃s0,bk P ops.toList sp o=⟨o.dst,cN P o.op,some (d,b),s0⟩:=by
    grind [bk]
   rw [hs0] at hrun;exact hrun.elim
  |none=>
   have hw:Region.wanted o (yielded ops a.tmps)=true:=by simp [Region.wanted,hog]
   rw [hw];simp only [cM];simp only [fJ] at hrun;obtain ⟨s0,hs0⟩: ∃s0,bk P ops.toList sp o=⟨o.dst,cN P o.op,none,s0⟩:=by
    grind [bk]
   rw [hs0] at hrun;simp only [pE] at hrun;cases hr:lG (cN P o.op) with
   |true=>
    rw [hr] at hrun;simp only at hrun;rw [NX hr];simp only;unfold Hl at hrun;split at hrun
    · -- nothing to recover
      simp only [recoverD];refine ox hn0 hgu l (i+1) hl' hdst.2 _ _ h n D φ _ w hn (by grind [put_defers]) hrun ?_ hS
      exact hR.put hR.defers hdN (λ_ h=>h) (cT.refl _ _) hR.lt .ni hR.heap
    ·rename_i t u;simp only [recoverD];refine ox hn0 hgu l (i+1) hl' hdst.2 _ _ h n D φ _ w hn (by grind [put_defers]) hrun ?_ hS
     exact hR.put hR.defers hdN (λ_ h=>h) (cT.refl _ _) hR.lt (.k t u) hR.heap
    ·grind
   |false=>
    rw [hr] at hrun;simp only at hrun;unfold l8 at hrun;cases hst:cn TF (cN P o.op) e h n with
    |none=>rw [hst] at hrun;exact hrun.elim
    |some r=>
     obtain ⟨c,E⟩:=r;rw [hst] at hrun;obtain ⟨hc,hp,hrun⟩:=hrun;simp only at hc hp;subst hc;have hrun:pE (l.map (bk P ops.toList sp)) m (iu o.dst E.v e) (E.fg h) E.n K:=qp (k:=λv=>pE (l.map (bk P ops.toList sp)) m (iu o.dst v e) (E.fg h) E.n K) hrun;have hst':step (cN P o.op) e h n=some (true,E):=by
      unfold cn at hst;split at hst
      ·simp only [av] at hst;obtain ⟨v,_,hst⟩:=hst;split at hst<;>first|(simp only [av] at hst;obtain ⟨l,_,hst⟩:=hst;cases hst)|cases hst
      ·simp only [av] at hst
       grind
      ·exact hst
     have hfresh: ∀b,n<=b->b<E.n-> ¬D b:=λb hb _ hD=>by have:=hR.lt b hD;omega
     have hH0:HR D φ (only (aa h) E.rd) w:=hR.heap.sub (λb k hb=>by
      grind [only,inl])
     obtain ⟨φ',u,nx,w',hrr,hnx,hle,hv,hst2,hro,hmd,hnw⟩:=xG (P:=P) (ρ:=a.eval) (w:=w) (o:=o) hst' rfl (λhlt=>hfresh n (bx _) hlt) (λy hy x hx v hv=>pV (λt v _ hv=>hR.env t v hv) hx hR.heap hv) hH0;have hfull:=nU hR.heap (λb k hb=>by grind [only,inl]) hmd hst2 hro (λ_ _ _ _ _=> .inr trivial)
     rw [<-o9] at hfull;have hlt: ∀b,Dn D n E.n b->b<E.n:=λb hb=>hb.elim (λh=>by have:=hR.lt b h;omega) (λh=>h.2)
     have fin:wpOpsSIn (Fw none) (0-1) P ops (Ld N n0 c0 cs D0 φ0 H0 w0 K) (List.range' (i+1) l.length) (a.put o.dst u) ({c0 with mode:=m}::cs) w':=
      ox hn0 hgu l (i+1) hl' hdst.2 _ _ _ _ _ φ' _ w' (by omega) (by grind [put_defers]) hrun
       (hR.put (hR.defers.stays hR.heap hfull.eF) hdN hfull.sub hfull.agree hlt hv hfull.hr) (hS.trans hfull)
     rw [hrr];rcases hnx with rfl|⟨rfl,rfl⟩
     ·exact fin
     ·exact fin
theorem HY {c0:Frame} {cs:List Frame} {ct:List Nat} {D0:Nat->Prop} {φ0:bP} {H0:Hf} {w0:World} (hm:P.follows .mixedOrders=true) (hn0: ∀b,D0 b->b<n0):
 ∀(c:Code) (K:vn) (m:FrameMode) (e:Env) (h:Hp) (n:Nat),yR (bt P ct N c) m K e h n-> ∀(D:Nat->Prop) (φ:bP) (a:Act) (w:World),n0<=n->a.defers=[]->Rel D φ e h n N (w0.heap.size,[]) a w->dU D0 φ0 H0 w0 D φ (aa h) w→
  c.wpSIn (Fw none) (0-1) P (Ld N n0 c0 cs D0 φ0 H0 w0 K) a ({c0 with mode:=m}::cs) w:=by
 intro c;induction c with
 |skip=>
  intro K m e h n hi D φ a w hn hd hR hS;exact wpSIn_of_wpIn rfl (wpIn_skip ⟨m,D,φ,e,h,n,hi,hn,rfl,hd,hR,hS⟩)
 |region id ops draw=>
  intro K m e h n hi D φ a w hn hd hR hS;simp only [bt] at hi;split at hi
  ·rename_i hc;simp only [ak,mA,gG] at hc;obtain ⟨⟨hc1,hc2⟩,hc4⟩:=hc;cases draw
   ·simp only [ei,dP,yR] at hi;refine wpSIn_region ?_;have:=ox (P:=P) (N:=N) (n0:=n0) (c0:=c0) (cs:=cs) (K:=K) (D0:=D0) (φ0:=φ0) (H0:=H0) (w0:=w0) (ops:=ops) hn0 hc2 ops.toList 0 (by simp) hc1 m e h n D φ a w hn hd hi hR hS
    grind [List.range_eq_range']
   ·simp only [cM,yR] at hi;refine wpSIn_of_wpIn rfl (wpIn_mono (vK (ro:=none) (cx:=TF) HJ hm hn0 hc2 hc1 (hc4.resolve_left (by simp)).1 (hc4.resolve_left (by simp)).2 hn (lM hi) hR hS) (λex a' w' hp=> ?_))
    obtain ⟨⟨D',φ',e',h',n',hk,hn',hR',hS'⟩,hdf⟩:=hp;exact ⟨m,D',φ',e',h',n',hk,hn',rfl,hdf.trans hd,hR',hS'⟩
  ·exact hi.elim
 |seq x y ihx ihy=>
  intro K m e h n hi D φ a w hn hd hR hS;simp only [bt,yR] at hi;refine wpSIn_seq ?_;intro b k hb hro hF hroom;obtain ⟨ex,a',cs',w',hl,hp,harr⟩:=ihx _ m e h n hi D φ a w hn hd hR hS b k hb hro hF hroom;refine ⟨ex,a',cs',w',hl,?_,harr⟩;obtain ⟨m',D',φ',e',h',n',hk,hn',rfl,hd',hR',hS'⟩:=hp;cases ex with
  |normal=>exact ihy K m' e' h' n' hk D' φ' a' w' hn' hd' hR' hS'
  |exit id=>exact ⟨m',D',φ',e',h',n',hk,hn',rfl,hd',hR',hS'⟩
  |goto l=>exact ⟨m',D',φ',e',h',n',hk,hn',rfl,hd',hR',hS'⟩
  |ret=>exact ⟨m',D',φ',e',h',n',hk,hn',rfl,hd',hR',hS'⟩
  |panic ch=>exact ⟨m',D',φ',e',h',n',hk,hn',rfl,hd',hR',hS'⟩
  |outgrown=>exact ⟨m',D',φ',e',h',n',hk,hn',rfl,hd',hR',hS'⟩
 |cond c x y ihx ihy=>
  intro K m e h n hi D φ a w hn hd hR hS;simp only [bt] at hi;split at hi
  ·exact hi.elim
  ·rename_i x' hng hc;simp only [yR] at hi;obtain ⟨v,hv,hi⟩:=fD hi;split at hi
   ·rename_i b;have hvr:aK D φ (.b b) (a.eval c):=tW (λt v _ hv=>hR.env t v hv) hc (λg hg=>by grind [cO,aI]) hv
    generalize hu:a.eval c=u at hvr;cases hvr;refine wpSIn_cond hu ?_;cases b
    ·exact ihy K m e h n (hi.2 rfl) D φ a w hn hd hR hS
    ·exact ihx K m e h n (hi.1 rfl) D φ a w hn hd hR hS
   grind
  ·exact hi.elim
 |ret=>
  intro K m e h n hi D φ a w hn hd hR hS;exact wpSIn_of_wpIn rfl (wpIn_ret ⟨m,D,φ,e,h,n,hi,hn,rfl,hd,hR,hS⟩)
 |label l=>
  intro K m e h n hi D φ a w hn hd hR hS;exact wpSIn_of_wpIn rfl (wpIn_label ⟨m,D,φ,e,h,n,hi,hn,rfl,hd,hR,hS⟩)
 |rangeFunc g ps x y ihx ihy=>
  intro K m e h n hi;simp only [bt] at hi;split at hi<;>exact hi.elim
 |_=>intro K m e h n hi;exact hi.elim
/-! ### the function -/
def sS (h:Hp):List Nat->Option (List AV)
 |[]=>some []
 |G::r=>(iZ h G).bind λv=>(sS h r).bind λvs=>some (v::vs)
def Hr (m:FrameMode) (ex:Exit) (k:Prop):Prop:=
 match m,ex with
 | .returning,.normal=>k
 | .returning,.ret=>k
 | .panicking [{v:=_,recovered:=true,goexit:=false}],.normal=>k
 | .panicking [{v:=_,recovered:=true,goexit:=false}],.ret=>k
 |_,_=>False
def yf (rs:List mS) (Ic:bb) (Gs:List Nat) (Q:Option Value->AV->Hp->Nat->Prop) (m:FrameMode) (e:Env) (h:Hp) (n:Nat):Prop:=
 gd (sS h Gs) λcaps=>yR Ic m (λm' ex' e' h' n'=>Hr m' ex' (gd (vh rs e h') λr=>r.1=true/\Q none r.2 h' n')) (fx 0 caps) h n
def yp (rs:List mS) (Ic:bb) (Gs:List Nat) (Q:Option Value->AV->Hp->Nat->Prop):bX:=λex e h n=>
 match ex with
 | .normal=>yf rs Ic Gs Q .returning e h n
 | .ret=>yf rs Ic Gs Q .returning e h n
 | .panic ch=>yf rs Ic Gs Q (.panicking ch) e h n
 |_=>False
def H3 (h:Hp):List AV->Option (List Nat)
 |[]=>some []
 | .p b 0::r=>(aa h b).bind λk=>match k.ro,k.gr,k.gid with
  |false,none,none=>(H3 h r).bind λbs=>some (b::bs)
  |_,_,_=>none
 |_=>none
def nZ (h:Hp):List Nat->List Nat->Hp
 |b::bs,G::Gs=>match aa h b with
  |some k=>iH (nZ h bs Gs) b {k with gid:=some G}
  |none=>nZ h bs Gs
 |_,_=>h
def fnK (v:AV) (k:FuncId->List AV->Prop):Prop:=match v with
 | .fn g caps=>k g caps
 |_=>False
theorem xj {v:AV} {k:FuncId->List AV->Prop} (h:fnK v k): ∃g caps,v= .fn g caps/\k g caps:=by
 cases v with
 |fn g caps=>exact ⟨g,caps,rfl,h⟩
 |_=>exact h.elim
def ET (x:cq) (g:FuncId) (k:List Nat->Env->Hp->Nat->Prop):bX:=λex e h n=>
 match ex with
 | .normal=>gd (x.ev e h) λv=>fnK v λg' caps=>g'=g/\gd (H3 h caps) λbs=>bs.Nodup/\ ∀Gs:List Nat,Gs.length=bs.length->Gs.Nodup->k Gs e (nZ h bs Gs) n
 |_=>False
theorem uB {h:Hp}: ∀{caps:List AV} {bs:List Nat},H3 h caps=some bs->caps=bs.map (λb=> .p b 0)/\ ∀b∈bs,∃k,aa h b=some k/\k.ro=false/\k.gr=none/\k.gid=none
 |[],bs,hp=>by grind [H3]
 |v::r,bs,hp=>by
  unfold H3 at hp;split at hp
  ·grind
  ·rename_i b r' he;cases he;simp only [av] at hp;obtain ⟨k,hk,hp⟩:=hp;split at hp
   ·rename_i h1 h2 h3;simp only [av,aI] at hp;obtain ⟨bs',hb,rfl⟩:=hp;obtain ⟨g1,g2⟩:=uB hb
    grind
   ·cases hp
  ·cases hp
theorem C9 {h:Hp}: ∀{bs Gs:List Nat},bs.Nodup->Gs.length=bs.length->(∀b∈bs,∃k,aa h b=some k)-> ∀c,aa (nZ h bs Gs) c=(match (bs.zip Gs).find? (λq=>q.1==c) with|some q=>(aa h c).map λk=>{k with gid:=some q.2}|none=>aa h c)
 |[],Gs,_,_,_,c=>by rfl
 |b::bs,[],_,hl,_,c=>by simp at hl
 |b::bs,G::Gs,hn,hl,hh,c=>by
  obtain ⟨k,hk⟩:=hh b iQ;have ih:=C9 (h:=h) (tC.1 hn).2 (Gs:=Gs) (by grind) (λb' hb'=>hh b' (hJ _ hb')) c
  simp only [nZ,hk,nr,List.zip_cons_cons,List.find?_cons]
  grind
theorem zH {D:Nat->Prop} {φ:bP} {h:Hp} {w:World} (hH:HR D φ (aa h) w): ∀{Gs:List Nat} {caps:List AV},sS h Gs=some caps->cw D φ caps (Gs.map λG=> .pointer (some ⟨G,0,none⟩))
 |[],caps,hc=>by simp [sS] at hc;subst hc;exact .nil
 |G::Gs,caps,hc=>by
  simp only [sS,av,aI] at hc;obtain ⟨v,hv,vs,hvs,rfl⟩:=hc;refine .cons ?_ (zH hH hvs);obtain ⟨c,k,rfl,hk,hg⟩:=vj hv;obtain ⟨hd,hb⟩:=hH.at_ c k hk;obtain ⟨h1,h2⟩:=hb.gid G hg;have:=aK.p (D:=D) (φ:=φ) c 0 hd
  grind
theorem Ju {m:FrameMode} {ex:Exit} {k:Prop} (h:Hr m ex k):k/\settle m= .returning/\(ex= .normal\/ex= .ret):=by
 unfold Hr at h;split at h
 ·exact ⟨h,rfl,.inl rfl⟩
 ·exact ⟨h,rfl,.inr rfl⟩
 ·exact ⟨h,rfl,.inl rfl⟩
 ·exact ⟨h,rfl,.inr rfl⟩
 grind
theorem nW {cx:Cx} (hcx:Sound P cx) {M:Nat×List Deferred} {K:bX} {D0:Nat->Prop} {φ0:bP} {H0:Hf} {w0:World} {ops:Array Oper} {sp:List Nat} {Q:Exit->Act->World->Prop} {l2:List Oper} (hn0: ∀b,D0 b->b<n0) (hgu:jP ops.toList=true):
 ∀(l:List Oper),(∀o∈l,o∈ops.toList)->jU N l=true-> ∀(e:Env) (h:Hp) (n:Nat) (D:Nat->Prop) (φ:bP) (a:Act) (w:World),n0<=n→
  iv cx (l.map (bk P ops.toList sp)) e h n K->Rel D φ e h n N M a w->dU D0 φ0 H0 w0 D φ (aa h) w→
  (∀D φ e h n a' w',K .normal e h n->n0<=n->a'.defers=a.defers->Rel D φ e h n N M a' w'->dU D0 φ0 H0 w0 D φ (aa h) w'->wpListIn (Fw none) 0 P ops Q l2 a' w')→
  (∀ch e h n,¬K (.panic ch) e h n)→
  wpListIn (Fw none) 0 P ops Q (l++l2) a w
 |[],_,_,e,h,n,D,φ,a,w,hn,hrun,hR,hS,hK,_=>hK D φ e h n a w hrun hn rfl hR hS
 |o::l,hmem,hdst,e,h,n,D,φ,a,w,hn,hrun,hR,hS,hK,hP=>by
  simp only [fJ,iv] at hrun;obtain ⟨b,hb,hrun⟩:=fD hrun;simp only [jU,iz,ak] at hdst;have hog: ∀j c,o.guard=some (j,c)->((ops.toList[j]?).bind (·.dst)).isSome=true:=λj c hg=>by
   have:=du.1 hgu o (hmem o (iQ))
   grind
  have hgeq:(bk P ops.toList sp o).guard=(bk P ops.toList [] o).guard:=by
   unfold bk;split;all_goals grind
  have hdeq:(bk P ops.toList sp o).dst=o.dst:=by
   unfold bk;grind
  have hopeq:(bk P ops.toList sp o).op=cN P o.op:=by
   grind [bk,tx]
  have hdN: ∀t,o.dst=some t->t<N:=λt ht=>by
   grind
  have hw:=sr (P:=P) (o:=o) (D:=D) (φ:=φ) (a:=a) (λd c v _ hv=>hR.env d v hv) hgeq hog hb;have ih:=λe h n D φ a w=>nW hcx (M:=M) (K:=K) (sp:=sp) (D0:=D0) (φ0:=φ0) (H0:=H0) (w0:=w0) (Q:=Q) (l2:=l2) hn0 hgu l (λo ho=>hmem o (hJ _ ho)) hdst.2 e h n D φ a w;show wpListIn _ _ _ _ _ (o::(l++l2)) _ _;unfold wpListIn;rw [hw];cases b
  ·simp only [ei,dP];simp only at hrun;rw [hdeq] at hrun;exact ⟨λ_ _=>trivial,ih _ h n D φ _ w hn hrun (hR.put hR.defers hdN (λ_ h=>h) (cT.refl _ _) hR.lt Ar hR.heap) hS (λD φ e h n a' w' h1 h2 h3=>hK D φ e h n a' w' h1 h2 (by rw [h3,put_defers])) hP⟩
  ·simp only [cM];simp only at hrun;obtain ⟨r,hr,hrun⟩:=fD hrun;obtain ⟨c,E⟩:=r;obtain ⟨hc,hrun⟩:=hrun;simp only at hc hrun;subst hc;rw [hopeq] at hr;rw [hdeq] at hrun;have hfresh: ∀b,n<=b->b<E.n-> ¬D b:=λb hb _ hD=>by have:=hR.lt b hD;omega
   have hH0:HR D φ (only (aa h) E.rd) w:=hR.heap.sub (λb k hb=>by
    grind [only,inl])
   refine LI hcx hr hfresh (λy hy x hx v hv=>pV (λt v _ hv=>hR.env t v hv) hx hR.heap hv) hH0 (λφ' u w' hle hv hst hro hmd hnw=> ?_);have hfull:=nU hR.heap (λb k hb=>by grind [only,inl]) hmd hst hro (λ_ _ _ _ _=> .inr trivial)
   rw [<-o9] at hfull;have hlt: ∀b,Dn D n E.n b->b<E.n:=λb hb=>hb.elim (λh=>by have:=hR.lt b h;omega) (λh=>h.2)
   unfold E3 at hrun;cases hp:E.pn with
   |none=>
    rw [hp] at hrun;exact ih _ _ _ _ φ' _ w' (by omega) (qp hrun) (hR.put (hR.defers.stays hR.heap hfull.eF) hdN hfull.sub hfull.agree hlt hv hfull.hr) (hS.trans hfull) (λD φ e h n a' w' h1 h2 h3=>hK D φ e h n a' w' h1 h2 (by rw [h3,put_defers])) hP
   |some p=>
    rw [hp] at hrun;exact (hP _ _ _ _ hrun).elim
theorem DA {N n:Nat} {D:Nat->Prop} {φ:bP} {h:Hp} {w:World} {args:List AV} {us:Array Value} {m:Nat×List Deferred} (hD: ∀b,D b->b<n) (hH:HR D φ (aa h) w) (hargs:cw D φ args us.toList) (hle:args.length<=N) (hm:m.2=[]):
 Rel D φ (fx 0 args) h n N m {tmps:=us++Array.replicate (N-us.size) undef,defers:=[]} w:=by
 obtain ⟨m1,m2⟩:=m;simp only at hm;subst hm;refine ⟨hD,λt v hv=> ?_,hH,by have:=hargs.1;grind,Mk.nil⟩
 obtain ⟨_,hv'⟩:=rW hv;obtain ⟨u,hu,hr⟩:=hargs.get hv';have hlt:t<us.size:=by
  grind
 have:(us++Array.replicate (N-us.size) undef).getD t undef=u:=by
  simp_all [rG,Array.getElem?_append_left]
 grind
theorem zh {fn gn:Func} {g:FuncId} {Ig:cZ} {rs:List mS} {R:Ending->World->Prop} {Q:Option Value->AV->Hp->Nat->Prop} {Gs:List Nat} {m0:FrameMode} {N0 n':Nat} {e':Env} {h':Hp} {D D':Nat->Prop} {φ φ':bP} {H:Hf} {a':Act} {w w':World}
 (hm:P.follows .mixedOrders=true) (hcal:bH P g=true) (hg:P.funcs[g]? =some gn) (hIg:ah P gn=some Ig) (hgr:Ig.res=[]) (hgN:Gs.length<=Ig.N) (hrs:jO P fn.results.toList=some rs) (hm0:m0≠ .run)
 (hk:yf rs Ig.code Gs Q m0 e' h' n')
 (hR:Rel D' φ' e' h' n' N0 (w.heap.size,[{target:= .fn (.func g) (Gs.map λG=>Value.pointer (some ⟨G,0,none⟩)).toArray,args:= #[]}]) a' w') (hS:dU D φ H w D' φ' (aa h') w')
 (fin: ∀D3 φ3 v3 h3 n3 u w3,Q none v3 h3 n3->(∀b,D3 b->b<n3)->aK D3 φ3 v3 u->HR D3 φ3 (aa h3) w3->dU D φ H w D3 φ3 (aa h3) w3->R (.returned u) w3):
 LeavesInM (Fw none) 0 P fn a'.tmps R a'.defers m0 w':=by
 refine rK hm0 hR hS (λw1 hR1 hS1=> ?_);simp only [ah,av] at hIg;obtain ⟨cg,hcg,rg,hrg,hIg⟩:=hIg;split at hIg
 ·rename_i hle;rw [ak] at hle;have hgy:g≠YB:=FI hg hle.2;simp only [aI] at hIg;subst hIg;simp only at hgr hgN hk;subst hgr;obtain ⟨caps,hcaps,hk⟩:=fD hk;have hA:=zH hR1.heap hcaps;have hlen:caps.length=Gs.length:=by have:=hA.1;grind
  refine ⟨hm0,.inr ⟨λhd=>(by cases hd),.func g,(Gs.map λG=>Value.pointer (some ⟨G,0,none⟩)).toArray,g,(Gs.map λG=>Value.pointer (some ⟨G,0,none⟩)).toArray,rfl,?_,λ_ _=>trivial,?_⟩⟩
  ·grind [invoke,Array.empty_append,lg,qH]
  ·refine callsDIn_of_wpSIn hg hcg trivial (λc0 cs hmode=> ?_);intro b k hb hro hF hroom;have hc0:({c0 with mode:=m0}:Frame)=c0:=by subst hmode;rfl
   have hRg:=DA (N:=gn.ntmps) (m:=(w1.heap.size,[])) hR1.lt hR1.heap (us:=(Gs.map λG=>Value.pointer (some ⟨G,0,none⟩)).toArray) (args:=caps) (by omega) (by omega) rfl
   obtain ⟨ex,a3,cs3,w3,hl,hp,harr⟩:=HY (P:=P) (N:=gn.ntmps) (n0:=n') (c0:=c0) (cs:=cs) (ct:=db cg) (D0:=D') (φ0:=φ') (H0:=aa h') (w0:=w1) hm hR1.lt cg _ m0 _ h' n' hk D' φ' _ w1 (bx _) rfl hRg (dU.refl hR1.heap) b k hb hro hF (by omega)
   rw [hc0] at harr;refine ⟨ex,a3,cs3,w3,by omega,?_,harr⟩
   obtain ⟨m3,D3,φ3,e3,h3,n3,hk3,hn3,rfl,hd3,hR3,hS3⟩:=hp;obtain ⟨hk3,iH,hex⟩:=Ju hk3;obtain ⟨r,hr,hrc,hQ⟩:=fD hk3;have hRc:Rel D3 φ3 e' h3 n3 N0 (w.heap.size,[]) {a' with defers:=[]} w3:=⟨hR3.lt,λt v hv=>(hR1.env t v hv).mono hS3.sub hS3.agree,hR3.heap,hR1.size,Mk.nil⟩
   obtain ⟨u,hres,hvr⟩:=BD (fn:=fn) (a':={a' with defers:=[]}) hRc hrs hr hrc
   obtain ⟨ug,hgres,_⟩:=BD (fn:=gn) (rs:=[]) (q:=(true,.bz [])) hR3 hrg rfl rfl;have hfin: ∃v,(results fn a'.tmps).run P w3= .ok v w3/\R (.returned v) w3:=⟨u,hres,fin D3 φ3 r.2 h3 n3 u w3 hQ hR3.lt hvr hR3.heap (hS1.trans hS3)⟩;have hpost:a3.defers=[]/\ ∃u',({c0 with mode:=m3}::cs)={c0 with mode:=u'}::cs/\ ∃v,(results gn a3.tmps).run P w3= .ok v w3/\LeavesInM (Fw none) 0 P fn a'.tmps R [] (settle u') w3:=
    ⟨hd3,m3,rfl,ug,hgres,by rw [iH];exact hfin⟩
   rcases hex with rfl|rfl
   ·exact hpost
   ·exact hpost
 ·cases hIg
theorem CM {h:Hp} {D:Nat->Prop} {φ:bP} {w:World} {bs:List Nat} (hn:bs.Nodup) (hh: ∀b∈bs,∃k,aa h b=some k/\k.ro=false/\k.gr=none/\k.gid=none) (hH:HR D φ (aa h) w):
 HR D φ (aa (nZ h bs (bs.map φ.cI))) w/\(∀b k,aa (nZ h bs (bs.map φ.cI)) b=some k-> ∃k0,aa h b=some k0/\k0.ro=k.ro):=by
 have hget':=C9 (h:=h) (Gs:=bs.map φ.cI) hn (by simp) (λb hb=>let ⟨k,hk,_⟩:=hh b hb;⟨k,hk⟩)
 have key: ∀b k,aa (nZ h bs (bs.map φ.cI)) b=some k-> ∃k0,aa h b=some k0/\(k=k0\/(b∈bs/\k={k0 with gid:=some (φ.cI b)})):=λb k hb=>by
  rw [hget'] at hb;split at hb
  ·rename_i q hq;obtain ⟨k0,hk0,rfl⟩:=bK.1 hb;refine ⟨k0,hk0,.inr ?_⟩;have h1:=List.mem_of_find?_eq_some hq;have h2:=List.find?_some hq;simp only [ik] at h2;have hz: ∀l:List Nat,l.zip (l.map φ.cI)=l.map (λb=>(b,φ.cI b)):=λl=>by
    induction l with
    |nil=>rfl
    |cons x l ih=>simp [ih]
   grind
  grind
 refine ⟨⟨⟨λb k hb=> ?_,λb1 b2 k1 k2 hne h1 h2 hro=> ?_⟩,hH.fz,hH.lp,λb k B vs hb hk hB=> ?_⟩,λb k hb=> ?_⟩
 ·obtain ⟨k0,hk0,hkk⟩:=key b k hb;obtain ⟨hd,hb0⟩:=hH.at_ b k0 hk0;rcases hkk with rfl|⟨hbs,rfl⟩
  ·grind
  ·obtain ⟨k1,hk1,g1,g2,g3⟩:=hh b hbs;rw [hk0] at hk1;cases hk1;refine ⟨hd,⟨hb0.ex,λg hg=> ?_⟩⟩;simp only [aI] at hg;obtain ⟨cs,elem,fr,q1,q2,q3,q4⟩:=hb0.ex
   grind
 ·obtain ⟨Mq,hk1,hkk1⟩:=key b1 k1 h1;obtain ⟨Ks,hk2,hkk2⟩:=key b2 k2 h2;exact hH.sep b1 b2 Mq Ks hne hk1 hk2 (by grind)
 ·obtain ⟨k0,hk0,hkk⟩:=key b k hb;exact hH.lS b k0 B vs hk0 (by grind) hB
 grind
theorem wV {h:Hp} {D:Nat->Prop} {φ:bP} {w:World} (hH:HR D φ (aa h) w): ∀{bs:List Nat} {us:List Value},(∀b∈bs,∃k,aa h b=some k/\k.ro=false/\k.gr=none/\k.gid=none)->cw D φ (bs.map λb=> .p b 0) us->us=(bs.map φ.cI).map λG=>Value.pointer (some ⟨G,0,none⟩)
 |[],us,_,hA=>by simpa using hA.mq
 |b::bs,us,hbk,hA=>by
  obtain ⟨u,m',rfl,g1,g2⟩:=hA.eB;have:=wV hH (λb' hb'=>hbk b' (hJ _ hb')) g2;subst this;obtain ⟨k,hk,k1,k2,_⟩:=hbk b iQ;obtain ⟨_,⟨⟨cs,elem,fr,q1,q2,q3,q4⟩,q5⟩⟩:=hH.at_ b k hk;have hoff:=(q3 k1).1 k2;cases g1;simp [hoff]
theorem xa {h:Hp} {D:Nat->Prop} {φ:bP} {w:World} (hH:HR D φ (aa h) w): ∀{bs:List Nat},bs.Nodup->(∀b∈bs,∃k,aa h b=some k/\k.ro=false/\k.gr=none/\k.gid=none)->(bs.map φ.cI).Nodup
 |[],_,_=>Cd
 |b::bs,hnd,hbk=>by
  have hh:=tC.1 hnd;refine tC.2 ⟨λhin=> ?_,xa hH hh.2 (λb' hb'=>hbk b' (hJ _ hb'))⟩;obtain ⟨b',hb',he⟩:=List.mem_map.1 hin;obtain ⟨k,hk,k1,_⟩:=hbk b iQ;obtain ⟨k',hk',_⟩:=hbk b' (hJ _ hb');exact hH.sep b b' k k' (λe=>hh.1 (e▸hb')) hk hk' k1 he.symm
theorem cz.YN {C:Nat->AV->Hp->Nat->AV->Hp->Nat->Prop} (hC:AZ C) {f g:FuncId} {fn gn:Func} {I Ig:cZ} {cx:Cx} {args:List AV} {pn:Option Value} {n:Nat} {h:Hp} {v2:AV} {h2:Hp} {n2:Nat} {ops:List bq} {x:cq} {s:Bool} {rest:bb}
 (hcx:Sound P cx) (hm:P.follows .mixedOrders=true) (hf:P.funcs[f]? =some fn) (hI:ah P fn=some I) (hnp:args.length<=I.N) (hcode:I.code= .seq (.dY (ops++[⟨none,.BW x [],none,s⟩])) rest)
 (hcal:bH P g=true) (hg:P.funcs[g]? =some gn) (hIg:ah P gn=some Ig) (hgr:Ig.res=[])
 (hi:iv cx ops (fx 0 args) h n (ET x g λGs e h' n'=>Gs.length<=Ig.N/\cU ⟨P,cx,I.ct,I.N,n⟩ rest (yp I.res Ig.code Gs λp v h' n'=>p=pn/\C n v h' n' v2 h2 n2) e h' n')):cz P f args h n pn v2 h2 n2:=by
 intro D φ w us hD0 hH hargs;have hD: ∀b,(λb=>b<n) b->b<n:=λb hb=>hb;have hH:HR (λb=>b<n) φ (aa h) w:=hH.grow hD0;have hargs:cw (λb=>b<n) φ args us:=hargs.mono hD0 (cT.refl _ _);have hout: ∀D' φ' H' w',dU (λb=>b<n) φ (aa h) w D' φ' H' w'->dU D φ (aa h) w D' φ' H' w':=λD' φ' H' w' hs=>⟨λb hb=>hs.sub b (hD0 b hb),⟨λb hb=>hs.agree b (hD0 b hb),hs.agree.fz,hs.agree.lp⟩,hs.hr,hs.eF,hs.qL,hs.kj⟩;simp only [ah,av] at hI;obtain ⟨c,hc,rs,hrs,hI⟩:=hI;split at hI
 ·rename_i hle;rw [ak] at hle;have hfy:f≠YB:=FI hf hle.2;have hle:=bN hle.1;simp only [aI] at hI;subst hI;simp only at hi hnp hcode;refine tu.of (qf hf hc ?_) hfy (qH hf hc)
  -- the code
  obtain ⟨c1,c2,rfl,q1,q2⟩: ∃c1 c2,c= .seq c1 c2/\bt P (db c) fn.ntmps c1= .dY (ops++[⟨none,.BW x [],none,s⟩])/\bt P (db c) fn.ntmps c2=rest:=by
   revert hcode;generalize db c=ct;intro hcode;cases c with
   |seq c1 c2=>simp only [bt,bb.seq.injEq] at hcode;exact ⟨c1,c2,rfl,hcode.1,hcode.2⟩
   |region id ops draw=>simp only [bt] at hcode;split at hcode<;>(try split at hcode)<;>cases hcode
   |cond x y z=>simp only [bt] at hcode;split at hcode<;>cases hcode
   |rangeFunc g' ps' A' B'=>simp only [bt] at hcode;split at hcode<;>cases hcode
   |_=>simp [bt] at hcode
  obtain ⟨id,rops,rfl,hok,hmap⟩: ∃id rops,c1= .region id rops false/\(jU fn.ntmps rops.toList=true/\jP rops.toList=true)/\rops.toList.map (bk P rops.toList (iS rops.toList++db (.seq c1 c2)))=ops++[⟨none,.BW x [],none,s⟩]:=by
   revert q1;generalize db (.seq c1 c2)=ct;intro h1;cases c1 with
   |seq _ _=>simp [bt] at h1
   |region id ops draw=>
    simp only [bt] at h1;split at h1
    ·grind
    ·cases h1
   |cond x y z=>simp only [bt] at h1;split at h1<;>cases h1
   |rangeFunc g' ps' A' B'=>simp only [bt] at h1;split at h1<;>cases h1
   |_=>simp [bt] at h1
  generalize iS rops.toList++db (.seq (.region id rops false) c2)=sp at hmap;obtain ⟨l,od,hsplit,hmapl,hod⟩: ∃l od,rops.toList=l++[od]/\l.map (bk P rops.toList sp)=ops/\bk P rops.toList sp od=⟨none,.BW x [],none,s⟩:=by
   obtain ⟨l1,l2,e1,e2,e3⟩:=List.map_eq_append_iff.1 hmap;cases l2 with
   |nil=>simp at e3
   |cons od l3=>
    cases l3 with
    |nil=>simp at e3;exact ⟨l1,od,e1,e2,e3⟩
    |cons _ _=>simp at e3
  -- the statement 'defer'
  obtain ⟨hog,hodst,cd,fo,hop,hcf,hfo,hca⟩:od.guard=none/\od.dst=none/\ ∃cd fo,od.op= .defer cd/\cd.callee= .value fo/\cO fo=some x/\cd.args= #[]:=by
   unfold bk at hod;split at hod
   ·rename_i hg0;simp only [bq.mk.injEq] at hod;obtain ⟨g1,g2,_⟩:=hod;refine ⟨hg0,g1,?_⟩;have h0: ∀o:Op,cN P o= .BW x []-> ∃cd fo,o= .defer cd/\cd.callee= .value fo/\cO fo=some x/\cd.args= #[]:=λo ho=>by
     cases o with
     |defer cd=>
      simp only [cN] at ho;split at ho
      ·rename_i fo hfo;cases hx:cO fo with
       |none=>simp [hx,bE] at ho
       |some x'=>
        cases hl:yu cd.args.toList with
        |none=>simp [hx,hl,bE] at ho
        |some l'=>
         simp only [hx,hl,aC,iI,bE,fM,j8.BW.injEq] at ho;obtain ⟨rfl,rfl⟩:=ho;refine ⟨cd,fo,rfl,hfo,hx,?_⟩;cases hal:cd.args.toList with
         |nil=>exact Array.toList_inj.1 (by omega)
         |cons y r=>
          rw [hal] at hl;simp only [yu,av] at hl;obtain ⟨_,_,_,_,hl⟩:=hl;cases hl
      ·cases ho
     |_=>
      exfalso;exact zA (ru (by simp)) ho
    exact h0 _ g2
   grind
  have hR:=DA (N:=fn.ntmps) (m:=(w.heap.size,[])) hD hH (us:=us.toArray) (args:=args) (by omega) hnp rfl
  refine wpIn_seq (wpIn_region_list ?_);rw [hsplit];have hmem: ∀o∈l,o∈rops.toList:=λo ho=>by grind
  have hdl:jU fn.ntmps l=true:=by
   simp_all [jU,List.all_append]
  refine nW (n0:=n) hcx (M:=(w.heap.size,[])) (sp:=sp) hD hok.2 l hmem hdl (fx 0 args) h n _ φ _ w (bx _) (by rw [hmapl];exact hi) hR (dU.refl hH) (λD1 φ1 e1 h1 n1 a1 w1 hK hn1 hd1 hR1 hS1=> ?_) (λch e h n hk=>hk)
  -- at the statement
  simp only at hd1;obtain ⟨v,hv,hK1⟩:=fD hK;obtain ⟨g',caps,hvg,hgg,hK2⟩:=xj hK1;clear hK1 hK;subst hvg;subst hgg;obtain ⟨bs,hbs,hnd,hK⟩:=fD hK2;clear hK2
  ·obtain ⟨rfl,hbk⟩:=uB hbs;have hvr:=pV (λt v _ hv=>hR1.env t v hv) hfo hR1.heap hv;obtain ⟨hgy,capsV,hev,hcv⟩:=hvr.yd;have hcapsV:=wV hR1.heap hbk hcv;obtain ⟨hHG,hkG⟩:=CM hnd hbk hR1.heap;have hGnd:=xa hR1.heap hnd hbk;obtain ⟨hGN,hseam⟩:=hK (bs.map φ1.cI) (by simp) hGnd
   -- the step
   unfold wpListIn;have hwant:Region.wanted od (yielded rops a1.tmps)=true:=by simp [Region.wanted,hog]
   rw [hwant];simp only [cM];refine ⟨λ_ _=>trivial,?_⟩;show od.uponIn (Fw none) 0 P a1 _ _ ((od.semAt none a1.eval).run P w1);rw [Oper.semAt_none];have hrun:(execOp a1.eval od).run P w1= .ok (.defer {target:= .fn (.func g') capsV.toArray,args:= #[]}) w1:=by
    grind [execOp,resolve,Sem.run_bind,Deferred.ofValue,Sem.run_pure,Result.andThen_ok]
   rw [hrun,Oper.uponIn_defer,hd1,hodst];unfold wpListIn;show Code.wpIn _ _ _ _ _ _ _;have hS2:dU (λb=>b<n) φ (aa h) w D1 φ1 (aa (nZ h1 bs (bs.map φ1.cI))) w1:=
    ⟨hS1.sub,hS1.agree,hHG,hS1.eF,λb k hb hk=>by
      obtain ⟨k0,hk0,hro⟩:=hkG b k hb;exact hS1.qL b k0 hk0 (by grind),hS1.kj⟩
   have hR2:Rel D1 φ1 e1 (nZ h1 bs (bs.map φ1.cI)) n1 fn.ntmps (w.heap.size,[{target:= .fn (.func g') capsV.toArray,args:= #[]}]) ({a1 with defers:=[{target:= .fn (.func g') capsV.toArray,args:= #[]}]}.put none undef) w1:=
    ⟨hR1.lt,hR1.env,hHG,hR1.size,Mk.nil⟩
   have hw:=hseam c2 q2 none (.inl rfl) [{target:= .fn (.func g') capsV.toArray,args:= #[]}] _ φ (aa h) w hD hn1 D1 φ1 _ w1 hR2 hS2;refine wpIn_mono hw (λex a' w' hp=> ?_);obtain ⟨D',φ',e',h',n',hk,hn',hR',hS'⟩:=hp;rw [hcapsV] at hR';have leave: ∀m0:FrameMode,m0≠ .run->yf rs Ig.code (bs.map φ1.cI) (λp v h' n'=>p=pn/\C n v h' n' v2 h2 n2) m0 e' h' n'→
    LeavesInM (Fw none) 0 P fn a'.tmps (λe w'=> ∃D' φ' u,e=HM pn u/\(∀b,D' b->b<n2)/\aK D' φ' v2 u/\dU D φ (aa h) w D' φ' (aa h2) w') a'.defers m0 w':=λm0 hm0 hk=>by
    refine zh hm hcal hg hIg hgr hGN hrs hm0 hk hR' hS' (λD3 φ3 v3 h3 n3 u w3 hQ hlt3 hv3 hH3 hS3=> ?_);obtain ⟨hpn,hW⟩:=hQ;subst hpn;obtain ⟨D4,φ4,k1,k2,k3⟩:=hC _ _ _ _ _ _ _ hW D3 φ3 w3 _ φ _ w u hD hlt3 hv3 hH3 hS3;exact ⟨_,_,_,rfl,k1,k2,hout _ _ _ _ k3⟩
   cases ex with
   |normal=>exact leave .returning (by simp) hk
   |ret=>exact leave .returning (by simp) hk
   |panic ch=>exact leave (.panicking ch) (by simp) hk
   |_=>exact hk.elim
 ·cases hI
end
end Go.Ab
namespace Go.Ab
theorem y7 {x:cq} {g:FuncId} {k k':List Nat->Env->Hp->Nat->Prop} (hk: ∀Gs e h n,k Gs e h n->k' Gs e h n) (ex:Exit) (e:Env) (h:Hp) (n:Nat) (hd:ET x g k ex e h n):ET x g k' ex e h n:=by
 cases ex with
 |normal=>
  refine ie (λv hv=> ?_) hd;obtain ⟨g',caps,rfl,h1,h2⟩:=xj hv;exact ⟨h1,ie (λbs hb=>⟨hb.1,λGs g1 g2=>hk _ _ _ _ (hb.2 Gs g1 g2)⟩) h2⟩
 |_=>exact hd.elim
theorem jF {x:cq} {g:FuncId} {k:List Nat->Env->Hp->Nat->Prop} {e:Env} {h:Hp} {n:Nat} {caps:List AV} {bs:List Nat} (h1:x.ev e h=some (.fn g caps)) (h2:H3 h caps=some bs) (h3:bs.Nodup) (h4: ∀Gs:List Nat,Gs.length=bs.length->Gs.Nodup->k Gs e (nZ h bs Gs) n):ET x g k .normal e h n:=by
 show gd _ _;rw [h1];refine ⟨rfl,?_⟩;rw [h2];exact ⟨h3,h4⟩
theorem cz.Pg {P:Program} {C:Nat->AV->Hp->Nat->AV->Hp->Nat->Prop} (hC:AZ C) {f g:FuncId} {fn gn:Func} {I Ig:cZ} {cx:Cx} {args:List AV} {pn:Option Value} {n:Nat} {h:Hp} {v2:AV} {h2:Hp} {n2:Nat} {ops:List bq} {x:cq} {s:Bool} {rest:bb}
 (hcx:Sound P cx) (hm:P.follows .mixedOrders=true) (hf:P.funcs[f]? =some fn) (hI:ah P fn=some I) (hnp:args.length<=I.N) (hcode:I.code= .seq (.dY (ops++[⟨none,.BW x [],none,s⟩])) rest)
 (hcal:bH P g=true) (hg:P.funcs[g]? =some gn) (hIg:ah P gn=some Ig) (hgr:Ig.res=[])
 (hi:kr cx ops (fx 0 args) h n (ET x g λGs e h' n'=>Gs.length<=Ig.N/\jw ⟨P,cx,I.ct,I.N,n⟩ rest (yp I.res Ig.code Gs λp v h' n'=>p=pn/\C n v h' n' v2 h2 n2) e h' n')):cz P f args h n pn v2 h2 n2:=
 cz.YN hC hcx hm hf hI hnp hcode hcal hg hIg hgr (iU (y7 λGs e h n hk=>⟨hk.1,λc' hc'=>gZ ⟨P,cx,I.ct,I.N,_⟩ hcx hm c' _ _ _ _ (by grind [aO])⟩) (ft hi))
def zM (p:Option Value) (k:Prop):Prop:=p=none/\k
theorem RE {k:Prop}:zM none k=k:=by simp [zM]
def Iy (b:Bool) (x y:Prop):Prop:=match b with
 |true=>x
 |false=>y
section
variable {x y:Prop}
theorem Vd {a0:_}:Iy (lG (.mv a0)) x y=y:=(rfl)
theorem Qb {a0:_}:Iy (lG (.new a0)) x y=y:=(rfl)
theorem YU {a0:_} {a1:_} {a2:_}:Iy (lG (.st a0 a1 a2)) x y=y:=(rfl)
theorem Qf {a0:_}:Iy (lG (.not a0)) x y=y:=(rfl)
theorem N6 {a0:_} {a1:_}:Iy (lG (.ext a0 a1)) x y=y:=(rfl)
theorem Ss {a0:_} {a1:_} {a2:_}:Iy (lG (.tas a0 a1 a2)) x y=y:=(rfl)
theorem Oq {a0:_} {a1:_}:Iy (lG (.ZK a0 a1)) x y=y:=(rfl)
theorem Pn  :Iy (lG (.rcv)) x y=x:=(rfl)
end
attribute [go_sem ↓] Vd Qb YU Qf N6 Ss Oq Pn
section
variable {m:FrameMode} {d:Nat} {o:j8} {s:Bool} {os:List bq} {e:Env} {h:Hp} {n:Nat} {K:vn}
theorem IZ:pE [] m e h n K=K m .normal e h n:=(rfl)
theorem VT:pE (⟨some d,o,none,s⟩::os) m e h n K=Iy (lG o) (Hl m λm v=>pE os m ((d,v)::e) h n K) (Hv (l8 TF o e h n) λc p v h n=>jx c (zM p (ic s v λv=>pE os m ((d,v)::e) h n K))):=by
 simp only [pE,Iy,zM,iu]<;>rfl
theorem Ze:pE (⟨none,o,none,s⟩::os) m e h n K=Iy (lG o) (Hl m λm v=>pE os m e h n K) (Hv (l8 TF o e h n) λc p v h n=>jx c (zM p (ic s v λv=>pE os m e h n K))):=by
 simp only [pE,Iy,zM,iu]<;>rfl
def thenS (K:vn) (k:FrameMode->Env->Hp->Nat->Prop):vn:=λm ex e h n=>match ex with
 | .normal=>k m e h n
 |ex=>K m ex e h n
theorem R3 {k:FrameMode->Env->Hp->Nat->Prop}:thenS K k m .normal e h n=k m e h n:=(rfl)
theorem LO:yR .skip m K e h n=K m .normal e h n:=(rfl)
theorem Qy {ops:List bq}:yR (.dY ops) m K e h n=pE ops m e h n K:=(rfl)
theorem I2 {ops:List (bq×List Nat)}:yR (.jv ops) m K e h n=rD TF ops 0 [] e h n (λex e h n=>K m ex e h n):=(rfl)
theorem Pv {a b:bb}:yR (.seq a b) m K e h n=yR a m (thenS K λm e h n=>yR b m K e h n) e h n:=(rfl)
theorem LS {c:cq} {a b:bb}:yR (.cond c a b) m K e h n=gd (c.ev e h) λv=>vL v (yR a m K e h n) (yR b m K e h n):=by
 simp only [yR];cases c.ev e h with
 |none=>rfl
 |some v=>cases v with
  |b x=>cases x<;>simp [gd,vL,It]
  |_=>rfl
theorem Qj {k:Prop}:Hr .returning .normal k=k:=(rfl)
theorem PC {u:Value} {k:Prop}:Hr (.panicking [{v:=u,recovered:=true}]) .normal k=k:=(rfl)
end
section
variable {rs:List mS} {Ic:bb} {Gs:List Nat} {Q:Option Value->AV->Hp->Nat->Prop} {m:FrameMode} {e:Env} {h:Hp} {n:Nat}
theorem P6:yp rs Ic Gs Q .normal e h n=yf rs Ic Gs Q .returning e h n:=(rfl)
theorem RS:yp rs Ic Gs Q .ret e h n=yf rs Ic Gs Q .returning e h n:=(rfl)
theorem M6 {ch:List PanicEntry}:yp rs Ic Gs Q (.panic ch) e h n=yf rs Ic Gs Q (.panicking ch) e h n:=(rfl)
theorem OP:yf rs Ic Gs Q m e h n=gd (sS h Gs) λcaps=>yR Ic m (λm' ex' e' h' n'=>Hr m' ex' (Tm (vh rs e h') λc v=>jx c (Q none v h' n'))) (fx 0 caps) h n:=by
 unfold yf;congr 1;funext caps;congr 1;funext m' ex' e' h' n';congr 1;exact BP (Q:=λv=>Q none v h' n')
theorem Hk:sS h []=some []:=(rfl)
theorem DG {G:Nat} {r:List Nat}:sS h (G::r)=(iZ h G).bind λv=>(sS h r).bind λvs=>some (v::vs):=(rfl)
end
attribute [go_sem ↓] RE IZ VT Ze Zn Zm R3 LO Qy I2 Pv LS Qj PC P6 RS M6 OP Hk DG
theorem He:xS (.agg #[])=some (.agg []):=(rfl)
attribute [go_sem ↓] He
attribute [go_sem] lG
end Go.Ab
namespace Go.Ab
theorem bG.adZ {P:Program} {f:FuncId} {pre post:List AV} {l:List AV} {h h':Hp} {n n':Nat} {v':AV} (h1:bG P f (pre++ .ns::post) h n v' h' n') (h2:bG P f (pre++ .en::post) h n v' h' n'):bG P f (pre++ .fz l 0::post) h n v' h' n':=by
 intro D φ w us hD hH hA;have hi:(pre++ .fz l 0::post)[pre.length]? =some (.fz l 0):=by simp
 obtain ⟨u,hu,hr⟩:=hA.get hi;have go: ∀y,aK D φ y u->cw D φ (pre++y::post) us:=λy hy=>⟨by have:=hA.1;grind,λi a u' ha hu'=>by
  by_cases hip:i=pre.length
  ·grind
  ·refine hA.2 i a u' ?_ hu'
   grind⟩
 cases hr with
 |fz _ _ B o cap vs hB hc hs hh=>exact h2 D φ w us hD hH (go _ (.en _ _))
 |nS _ x cap hc0=>
  cases x with
  |some x=>exact h2 D φ w us hD hH (go _ (.en _ _))
  |none=>
   exact h1 D φ w us hD hH (go _ (by rw [hc0 rfl];exact .ns))
theorem aZ.zeS {n0 n n2:Nat} {v v' v2:AV} {h h2:Hp} {b o:Nat} (hf:bW (.sl b o 0 0) .ze v v') (hc:aZ n0 v' h n v2 h2 n2):aZ n0 v h n v2 h2 n2:=by
 intro D φ w D0 φ0 H0 w0 u hD0 hD hv hH hS;exact hc D φ w D0 φ0 H0 w0 u hD0 hD (hf D φ u (λu1 h1=>by cases h1;exact .ze _) hv) hH hS
theorem aZ.zeN {n0 n n2:Nat} {v v' v2:AV} {h h2:Hp} (hf:bW .ns .ze v v') (hc:aZ n0 v' h n v2 h2 n2):aZ n0 v h n v2 h2 n2:=by
 intro D φ w D0 φ0 H0 w0 u hD0 hD hv hH hS;exact hc D φ w D0 φ0 H0 w0 u hD0 hD (hf D φ u (λu1 h1=>by cases h1;exact .ze _) hv) hH hS
abbrev ai7 (z bytes:Nat) (zs:List AV):bb:=(.seq (.dY [⟨some 2,.mv (.c .ns),none,false⟩]) (.seq (.seq (.dY [⟨some 3,.mv (.t 0),none,false⟩,⟨some 4,.Iz false 1 (.t 3) (.c .ns),none,true⟩]) (.cond (.t 4) (.seq (.dY [⟨some 2,.mv (.c .ns),none,false⟩]) .ret) .skip))
 (.seq (.dY [⟨some 5,.ZX [] 0 [],none,false⟩,⟨some 6,.mv (.t 0),none,false⟩,⟨some 7,.app z bytes zs (.t 5) (.t 6),none,false⟩,⟨some 2,.mv (.t 7),none,false⟩]) .ret)))
def ym (z bytes:Nat) (zs:List AV):cZ:={np:=1,N:=8,ct:=[4],code:=ai7 z bytes zs,res:=[.t 2]}
section
variable {P:Program} {f:FuncId} {fn:Func} {z bytes:Nat} {zs:List AV}
theorem TD (hm:P.follows .mixedOrders=true) (hf:P.funcs[f]? =some fn) (hI:ah P fn=some (ym z bytes zs)) (l:List AV):bG P f [.fz l 0] [] 0 .ze [] 0:=by
 refine bG.adZ (pre:=[]) (post:=[]) ?_ ?_
 ·refine bG.dy (cx:=cj []) Sound.nil hm hf hI (by simp [ym]) (aO ?_)
  dsimp only [ym];simp only [go_sem,simprocAttr];exact aZ.zeN bW.hit (aZ.ends (Ends.aw rfl rfl))
 ·refine bG.dy (cx:=cj []) Sound.nil hm hf hI (by simp [ym]) (aO ?_)
  dsimp only [ym];simp only [go_sem,simprocAttr];exact aZ.zeS bW.hit (aZ.ends (Ends.aw rfl rfl))
theorem T5 (hm:P.follows .mixedOrders=true) (hf:P.funcs[f]? =some fn) (hI:ah P fn=some (ym z bytes zs)) {L:List AV} {m:Nat} (hL:L.length=(m+1)*z) (hone:aL L=true) (hb:ab 0 L=true) (hz:bytes*(m+1)<=az):
 bG P f [.fz L (m+1)] [] 0 (.sg 0 0 (m+1)) [(0,{cells:=L,gr:=some z})] 1:=by
 refine bG.dQ (cx:=cj []) Sound.nil hm hf hI (by simp [ym]) (aO ?_)
 dsimp only [ym];have h1:List.take ((m+1)*z) L=L:=dN (by omega)
 have h2:decide (bytes*(m+1)<=az)=true:=af hz;simp only [go_sem,h1,h2,hL,fy,dk,zx,simprocAttr];exact Ends.Qo (b:=1) (by decide) rfl rfl rfl hb rfl
end
theorem lC {α:Type} {p:α->Bool}: ∀(l:List α) (i:Int),0<=i->vU p l i= -1\/ ∃k:Nat,k<l.length/\vU p l i=i+k/\(∀x∈l.take k,p x=false)/\ ∃a,l[k]? =some a/\p a=true
 |[],i,_=> .inl rfl
 |x::r,i,hi=>by
  simp only [vU];by_cases hx:p x=true
  ·right;rw [aT hx];exact ⟨0,by simp,by simp,by simp,x,rfl,hx⟩
  ·rw [aY hx];rcases lC r (i+1) (by omega) with h|⟨k,h1,h2,h3,a,h4,h5⟩
   ·exact .inl h
   ·right;refine ⟨k+1,by simp;omega,by rw [h2];omega,λy hy=> ?_,a,by simpa using h4,h5⟩
    rcases gP.1 (by simpa using hy) with rfl|hy
    ·simpa using hx
    ·exact h3 y hy
theorem wZ {α:Type} {p:α->Bool}: ∀(l:List α) (i:Int),0<=i->vU p l i= -1-> ∀x∈l,p x=false
 |[],i,_,_,x,hx=>by cases hx
 |y::r,i,hi,h,x,hx=>by
  simp only [vU] at h;split at h
  ·omega
  ·rename_i hy;rcases gP.1 hx with rfl|hx
   ·simpa using hy
   ·exact wZ r (i+1) (by omega) h x hx
end Go.Ab
namespace Go.Ab
theorem bG.To {P:Program} {f:FuncId} {args:List AV} {h h':Hp} {n n':Nat} {v v':AV} (hf:bG P f args h n v h' n') (hv: ∀D φ u,aK D φ v u->aK D φ v' u):bG P f args h n v' h' n':=
 λD φ w us hD hH ha=>(hf D φ w us hD hH ha).mono λe w' ⟨D',φ',u,h1,h2,h3,h4⟩=>⟨D',φ',u,h1,h2,hv _ _ _ h3,h4⟩
section
variable {P:Program} {f:FuncId} {fn:Func} {z bytes:Nat} {zs:List AV}
theorem Tc (hm:P.follows .mixedOrders=true) (hf:P.funcs[f]? =some fn) (hI:ah P fn=some (ym z bytes zs)) {L:List AV} {m:Nat} (hL:L.length=m*z) (hone:aL L=true) (hb:ab 0 L=true) (hz:bytes*m<=az):
 bG P f [.fz L m] [] 0 (.fz L m) [] 0:=by
 cases m with
 |zero=>exact (TD hm hf hI L).To λD φ u hu=>by cases hu;exact .nS _ _ _ (λ_=>rfl)
 |succ m=>
  refine bG.dy (cx:=cj []) Sound.nil hm hf hI (by simp [ym]) (aO ?_)
  dsimp only [ym];have h1:List.take ((m+1)*z) L=L:=dN (by omega)
  have h2:decide (bytes*(m+1)<=az)=true:=af hz;simp only [go_sem,h1,h2,hL,fy,dk,zx,simprocAttr];refine aZ.nA (b:=1) (k:={cells:=L,gr:=some z}) (h':=[]) (o:=0) (m:=m+1) (cs:=L) (v':= .fz L (m+1)) rfl rfl (.inr rfl) (.inl rfl) bW.hit (λc kk hc=>by simp [aa] at hc) ?_
  exact aZ.ends (Ends.aw hb rfl)
end
end Go.Ab
namespace Go.Ab
def lH (a b:AV):Prop:= ∀D φ u,aK D φ a u->aK D φ b u
def lZ:List AV->List AV->Prop
 |[],[]=>True
 |a::l,b::m=>lH a b/\lZ l m
 |_,_=>False
theorem lZ.all {D:Nat->Prop} {φ:bP}: ∀{l m:List AV} {us:List Value},lZ l m->cw D φ l us->cw D φ m us
 |[],[],_,_,h=>h
 |a::l,b::m,us,h,h2=>by
  obtain ⟨u,us',rfl,hu,ht⟩:=h2.eB;exact .cons (h.1 _ _ _ hu) (lZ.all h.2 ht)
 |[],_::_,_,h,_=>h.elim
 |_::_,[],_,h,_=>h.elim
theorem lH.refl (a:AV):lH a a:=λ_ _ _ h=>h
theorem lH.ns:lH .ns (.fz [] 0):=λ_ _ _ h=>by cases h;exact .nS _ _ _ (λ_=>rfl)
theorem lH.ze:lH .ze (.fz [] 0):=λ_ _ _ h=>by cases h;exact .nS _ _ _ (λ_=>rfl)
theorem lH.agg {l m:List AV} (h:lZ l m):lH (.agg l) (.agg m):=λD φ u hu=>by
 obtain ⟨us,rfl,ha⟩:=hu.oh;exact aK.wb (h.all ha)
theorem lH.take (l:List AV) (k m:Nat):lH (.fz l m) (.fz (l.take k) m):=λD φ u h=>by
 have hlen:(l.take k).length<=l.length:=List.length_take_le' _ _;cases h with
 |fz _ _ B o cap vs hB hc hs h=>
  refine .fz _ _ B o cap vs hB hc (λi hi=>hs i (by omega)) (λi a u h1 h2=>h i a u ?_ h2)
  rw [kJ] at h1;split at h1
  ·exact h1
  ·cases h1
 |nS _ x cap hc=>exact .nS _ x cap hc
theorem lZ.len: ∀{l m:List AV},lZ l m->l.length=m.length
 |[],[],_=>rfl
 |a::l,b::m,h=>by simp only [List.length_cons,lZ.len h.2]
 |[],_::_,h=>h.elim
 |_::_,[],h=>h.elim
theorem lZ.get: ∀{l m:List AV} {i:Nat} {b:AV},lZ l m->m[i]? =some b-> ∃a,l[i]? =some a/\lH a b
 |[],[],i,b,_,h=>by simp at h
 |a::l,c::m,0,b,h,h2=>by
  simp only [List.getElem?_cons_zero,aI] at h2;subst h2;exact ⟨a,rfl,h.1⟩
 |a::l,c::m,i+1,b,h,h2=>by
  rw [su] at h2;obtain ⟨a',h3,h4⟩:=lZ.get h.2 h2
  grind
 |[],_::_,_,_,h,_=>h.elim
 |_::_,[],_,_,h,_=>h.elim
theorem lZ.app: ∀{l m l' m':List AV},lZ l m->lZ l' m'->lZ (l++l') (m++m')
 |[],[],_,_,_,h=>h
 |a::l,b::m,_,_,h,h2=>⟨h.1,lZ.app h.2 h2⟩
 |[],_::_,_,_,h,_=>h.elim
 |_::_,[],_,_,h,_=>h.elim
theorem lH.fz {l m:List AV} {n:Nat} (hw:lZ l m):lH (.fz l n) (.fz m n):=λD φ u h=>by
 have hlen:=hw.len;cases h with
 |fz _ _ B o cap vs hB hc hs h=>
  refine .fz _ _ B o cap vs hB hc (λi hi=>hs i (by omega)) (λi b u h1 h2=> ?_)
  obtain ⟨a,ha,hab⟩:=hw.get h1;exact hab _ _ _ (h i a u ha h2)
 |nS _ x cap hc=>exact .nS _ x cap hc
end Go.Ab
namespace Go.Ab
open Go.RowKit
mutual
def AV.BS:AV->Bool
 | .p _ _=>true
 | .sl _ _ _ _=>true
 | .sg _ _ _=>true
 | .fn _ l=>fG l
 | .bm _ l=>fG l
 | .agg l=>fG l
 | .bz l=>fG l
 | .b _=>true
 | .i _ _=>true
 | .s _=>true
 | .np=>true
 | .ns=>true
 | .nf=>true
 | .ni=>true
 | .fz l _=>fG l
 | .fp l _=>fG l
 | .ze=>true
 | .en=>true
 | .any=>true
 | .k _ _=>true
 | .m _=>true
 | .nm=>true
 | .yl _ _ _ _=>false
def fG:List AV->Bool
 |[]=>true
 |v::r=>v.BS&&fG r
end
theorem gj: ∀{l:List AV},fG l=true-> ∀v∈l,v.BS=true
 |[],_,v,hv=>by cases hv
 |x::r,h,v,hv=>by
  simp only [fG,ak] at h;rcases gP.1 hv with rfl|hv
  ·exact h.1
  ·exact gj h.2 v hv
theorem vT {a b:List AV}:fG (a++b)=(fG a&&fG b):=by
 induction a with
 |nil=>rfl
 |cons x a ih=>simp only [ez,fG,ih,Bool.and_assoc]
def bP.mf (φ:bP) (X:Nat->Option Go.Loop):bP:={φ with lp:=X}
theorem aK.BS {D:Nat->Prop} {φ:bP} {X:Nat->Option Go.Loop} {v:AV} {u:Value} (h:aK D φ v u):v.BS=true->aK D (φ.mf X) v u:=by
 induction h with
 |b x=>intro _;exact .b x
 |i k n=>intro _;exact .i k n
 |s l=>intro _;exact .s l
 |np=>intro _;exact .np
 |p b o h=>intro _;exact .p (φ:=φ.mf X) b o h
 |ns=>intro _;exact .ns
 |sl b o len cap h=>intro _;exact .sl (φ:=φ.mf X) b o len cap h
 |sg b o len j cap h hj hc hl=>intro _;exact .sg (φ:=φ.mf X) b o len j cap h hj hc hl
 |fn f l cs hf hl h ih=>intro hp;exact .fn f l cs hf hl (λi a u ha hu=>ih i a u ha hu (gj hp a (bJ ha)))
 |bm f l cs hf hl h ih=>intro hp;exact .bm f l cs hf hl (λi a u ha hu=>ih i a u ha hu (gj hp a (bJ ha)))
 |nf=>intro _;exact .nf
 |ni=>intro _;exact .ni
 |agg l cs hl h ih=>intro hp;exact .agg l cs hl (λi a u ha hu=>ih i a u ha hu (gj hp a (bJ ha)))
 |bz l cs hl h ih=>intro hp;exact .bz l cs hl (λi a u ha hu=>ih i a u ha hu (gj hp a (bJ ha)))
 |fz l n B o cap vs hB hc hs h ih=>intro hp;exact .fz (φ:=φ.mf X) l n B o cap vs hB hc hs (λi a u ha hu=>ih i a u ha hu (gj hp a (bJ ha)))
 |nS l x cap hc=>intro _;exact .nS l x cap hc
 |fp l k B o vs hB hs h ih=>intro hp;exact .fp (φ:=φ.mf X) l k B o vs hB hs (λi a u ha hu=>ih i a u ha hu (gj hp a (bJ ha)))
 |ze x=>intro _;exact .ze x
 |en x cap=>intro _;exact .en x cap
 |any u=>intro _;exact .any u
 |k t u=>intro _;exact .k t u
 |m b h=>intro _;exact .m (φ:=φ.mf X) b h
 |nm=>intro _;exact .nm
 |yl L r ts l hL h ih=>intro hp;cases hp
theorem aK.Qn {D:Nat->Prop} {φ:bP} {X:Nat->Option Go.Loop} {v:AV} {u:Value} (hX: ∀L r,φ.lp L=some r->X L=some r) (h:aK D φ v u):aK D (φ.mf X) v u:=
 aK.vz (φ:=φ) (φ':=φ.mf X) (λ_ h=>h) (λ_ _=>⟨rfl,rfl,rfl,rfl⟩) (λ_ _ h=>h) hX h
theorem HR.mf {D:Nat->Prop} {φ:bP} {X:Nat->Option Go.Loop} {H:Hf} {w:World} (h:HR D φ H w) (hv: ∀b k v u,H b=some k->v∈k.cells->aK D φ v u->aK D (φ.mf X) v u) (hl: ∀L r,X L=some r->w.heap[L]? =some (.loop r)):HR D (φ.mf X) H w:=
 ⟨⟨λb k hb=>⟨(h.at_ b k hb).1,by
   obtain ⟨⟨cs,elem,fr,h1,h2,h3,h4⟩,h5⟩:=(h.at_ b k hb).2;refine ⟨⟨cs,elem,fr,h1,λi v hv'=> ?_,h3,h4⟩,h5⟩;obtain ⟨u,hu,hr⟩:=h2 i v hv';exact ⟨u,hu,hv b k v u hb (bJ hv') hr⟩⟩,h.sep⟩,h.fz,hl,h.lS⟩
theorem dU.mf {D D':Nat->Prop} {φ φ':bP} {X:Nat->Option Go.Loop} {H H':Hf} {w w':World} (h:dU D φ H w D' φ' H' w') (hr:HR D' (φ'.mf X) H' w'):dU D (φ.mf X) H w D' (φ'.mf X) H' w':=
 ⟨h.sub,⟨h.agree.at_,h.agree.fz,rfl⟩,hr,⟨h.eF.os,h.eF.tape,h.eF.output,h.eF.size,h.eF.block⟩,h.qL,h.kj⟩
theorem dU.J5 {D D':Nat->Prop} {φ φ':bP} {H H':Hf} {w w1 w' w1':World} (h:dU D φ H w D' φ' H' w1) (hr:HR D' φ' H' w1') (hos:w1'.os=w'.os) (ht:w1'.tape=w'.tape) (ho:w1'.output=w'.output) (hsz:w'.heap.size=w.heap.size) (hsz1:w1'.heap.size=w1.heap.size) (L:Nat)
 (hb: ∀c,c≠L->w'.heap[c]? =w.heap[c]?) (hb1: ∀c,c≠L->w1'.heap[c]? =w1.heap[c]?) (hL:w1'.heap[L]? =w'.heap[L]?):dU D φ H w' D' φ' H' w1':=
 ⟨h.sub,h.agree,hr,⟨hos,ht,ho,by rw [hsz,hsz1];exact h.eF.size,λc hc hn=>by
   by_cases hcL:c=L
   ·grind
   ·rw [hb1 c hcL,hb c hcL];exact h.eF.block c (by omega) hn⟩,λb k hb' hk=>by rw [hsz];exact h.qL b k hb' hk,λB vs hB=>by rw [hsz];exact h.kj B vs hB⟩
def Ck:bb->Bool
 | .seq a b=>Ck a&&Ck b
 | .cond _ a b=>Ck a&&Ck b
 | .block _ c=>Ck c
 | .loop c=>Ck c
 | .scope c=>Ck c
 | .pX _ _ _ _=>false
 | .bad=>false
 |_=>true
theorem Cf {P:Program} {ct:List Nat} {N:Nat}: ∀{c:Code},Ck (bt P ct N c)=true->j6 c=true:=by
 intro c;induction c with
 |seq a b iha ihb=>intro h;simp only [bt,Ck,ak] at h;simp only [j6,ak];exact ⟨iha h.1,ihb h.2⟩
 |cond x a b iha ihb=>
  intro h;simp only [bt] at h;split at h
  ·simp [Ck] at h
  ·simp_all [Ck,ak,j6]
  ·simp [Ck] at h
 |block id c ih=>intro h;exact ih h
 |loop c ih=>intro h;exact ih h
 |scope c ih=>intro h;exact ih h
 |rangeFunc g ps a b iha ihb=>
  intro h;simp only [bt] at h;split at h<;>simp [Ck] at h
 |_=>intro h;rfl
def IB:List Nat->List AV->Env->Env
 |t::ts,a::as,e=>IB ts as ((t,a)::e)
 |_,_,e=>e
def tL:List Nat->List AV->Env
 |t::ts,a::as=>(t,a)::tL ts as
 |_,_=>[]
theorem Ca {t:Nat} {v:AV}: ∀{ts:List Nat} {l:List AV},bC (tL ts l) t=some v-> ∃i:Nat,ts[i]? =some t/\l[i]? =some v
 |[],_,h=>by simp [tL,bC] at h
 |_::_,[],h=>by simp [tL,bC] at h
 |s::ts,a::l,h=>by
  simp only [tL,bC] at h;by_cases hs:t=s
  ·subst hs;simp at h;subst h;exact ⟨0,rfl,rfl⟩
  ·rw [bO hs] at h;obtain ⟨i,h1,h2⟩:=Ca h;exact ⟨i+1,by grind,by grind⟩
theorem GC {D:Nat->Prop} {φ:bP}: ∀{ts:List Nat} {as:List AV} {vs:List Value} {e:Env} {T:Array Value},cw D φ as vs->ts.length=as.length->(∀t∈ts,t<T.size)->(∀t v,bC e t=some v->aK D φ v (T.getD t undef))→
 ∀t v,bC (IB ts as e) t=some v->aK D φ v (((ts.zip vs).foldl (λ(T:Array Value) (x:Nat×Value)=>T.setIfInBounds x.1 x.2) T).getD t undef)
 |[],as,vs,e,T,_,_,_,he,t,v,h=>he t v (by grind [IB])
 |s::ts,[],vs,e,T,_,hl,_,he,t,v,h=>by simp at hl
 |s::ts,a::as,vs,e,T,ha,hl,hT,he,t,v,h=>by
  obtain ⟨u,vs',rfl,hu,ha'⟩:=ha.eB;simp only [List.zip_cons_cons,HK];refine GC ha' (by grind) (λt' ht'=>by grind) (λt' v' h'=> ?_) t v h
  simp only [bC] at h';by_cases hs:t'=s
  ·simp_all
  ·rw [bO hs] at h';have:=he t' v' (by grind)
   rw [rG] at this ⊢
   grind
theorem yn: ∀(l:List (Nat×Value)) (T:Array Value),(l.foldl (λ(T:Array Value) (x:Nat×Value)=>T.setIfInBounds x.1 x.2) T).size=T.size
 |[],T=>rfl
 |x::l,T=>by simp only [HK];rw [yn l];simp
def mF (F:Fx) (ps:List Nat) (A B:bb) (ts:List Nat) (cs as:List AV) (h1:Hp) (n1:Nat) (h2:Hp) (n2:Nat):Prop:=
 iw {F with n0:=n1} A (fR (λ_ _ _ _=>False) λe h n=>iw {F with n0:=n1} B (λex e3 h3 n3=>match ex with| .normal=>Ends n1 (.b true) h3 n3 (.b true) h2 n2|_=>False) e h n) (IB ps as (tL ts cs)) h1 n1
structure Tb (F:Fx) (ps:List Nat) (A B:bb) (r:Go.Loop):Prop where
 state:r.state= .ready
 pending:r.pending=none
 params:r.params=ps.toArray
 as:bt F.P F.ct F.N r.assign=A
 bd:bt F.P F.ct F.N r.body=B
 size:r.tmps.size=F.N
theorem bG.round {F:Fx} (hcx:Sound F.P F.cx) (hm:F.P.follows .mixedOrders=true) {ps:List Nat} {A B:bb} {L:Nat} {r:Go.Loop} (hr:Tb F ps A B r) (hnA:Ck A=true) (hnB:Ck B=true) (hps:(ps.all λt=>decide (t<F.N))=true)
 {ts:List Nat} {cs as:List AV} {h1:Hp} {n1:Nat} {h2:Hp} {n2:Nat} (hlen:ps.length=as.length) (hyc:fG cs=true) (hya:fG as=true) (hyh: ∀b k,aa h1 b=some k->fG k.cells=true)
 (hw:mF F ps A B ts cs as h1 n1 h2 n2):bG F.P YB (.yl L r ts cs::as) h1 n1 (.b true) h2 n2:=by
 intro D φ w us hD0 hH hargs;obtain ⟨u0,vs,rfl,hu0,hvs⟩:=hargs.eB;generalize hgen:AV.yl L r ts cs=y at hu0;cases hu0<;>cases hgen;rename_i hL henv;have hLw:=hH.lp L r hL;let X:Nat->Option Go.Loop:=λL'=>if L'=L then none else φ.lp L'
 let D1:Nat->Prop:=λb=>b<n1
 -- the relation,but for this loop's record
 have hHb:HR D1 (φ.mf X) (aa h1) w:=by
  refine ((hH.mf (X:=X) (λb k v u hb hv hr=>hr.BS (gj (hyh b k hb) v hv)) (λL' r' h=> ?_)).grow (D':=D1) hD0);simp only [X] at h;split at h
  ·cases h
  ·exact hH.lp L' r' h
 have hvsb:cw D1 (φ.mf X) as vs:=⟨hvs.1,λi a u ha hu=>((hvs.2 i a u ha hu).BS (gj hya a (bJ ha))).mono hD0 (cT.refl _ _)⟩;unfold tu;rw [aT rfl];refine ⟨L,vs.toArray,by simp,r.fn,_,r.assign,r.body,run_yield hLw (by rw [hr.params];simp;rw [hlen];exact hvs.1.symm),?_⟩
 refine roundIn_of_wpIn (F:=Fence.wide) trivial ?_;have hfold:(r.params.zip vs.toArray).foldl (λtmps (x:Nat×Value)=>tmps.setIfInBounds x.1 x.2) r.tmps=(ps.zip vs).foldl (λ(T:Array Value) (x:Nat×Value)=>T.setIfInBounds x.1 x.2) r.tmps:=by
  rw [hr.params];simp
 have hR:Rel D1 (φ.mf X) (IB ps as (tL ts cs)) h1 n1 F.N (w.heap.size,[]) {tmps:=(r.params.zip vs.toArray).foldl (λtmps (x:Nat×Value)=>tmps.setIfInBounds x.1 x.2) r.tmps,defers:=[]} w:=by
  refine ⟨λb hb=>hb,λt v hv=> ?_,hHb,?_,Mk.nil⟩
  ·show aK _ _ v (Array.getD ((r.params.zip vs.toArray).foldl (λtmps (x:Nat×Value)=>tmps.setIfInBounds x.1 x.2) r.tmps) t undef);rw [hfold];refine GC hvsb hlen (λt ht=>by rw [hr.size];grind) (λt v hv=> ?_) t v hv
   obtain ⟨i,g1,g2⟩:=Ca hv;exact ((henv i t v g1 g2).BS (gj hyc v (bJ g2))).mono hD0 (cT.refl _ _)
  ·show Array.size ((r.params.zip vs.toArray).foldl (λtmps (x:Nat×Value)=>tmps.setIfInBounds x.1 x.2) r.tmps)=F.N;rw [hfold,yn];exact hr.size
 have hA:WP F.P F.N n1 r.assign _ (IB ps as (tL ts cs)) h1 n1:=gZ {F with n0:=n1} hcx hm r.assign _ _ _ _ (by show iw _ (bt F.P F.ct F.N r.assign) _ _ _ _;rw [hr.as];exact hw)
 have h1w:=hA (some L) (.inr (Cf (by rw [hr.as];exact hnA))) [] D1 (φ.mf X) (aa h1) w (λb hb=>hb) (bx _) D1 (φ.mf X) _ w hR (dU.refl hHb)
 refine wpIn_mono (F:=Fw (some L)) h1w (λex a1 w1 hp=> ?_);obtain ⟨D',φ',e1,hh1,nn1,hk,hn',hR',hS'⟩:=hp;cases ex with
 |normal=>
  have hL1:w1.heap[L]? =some (.loop r):=hHb.stays hS'.eF hLw (λ_ _ _ e=>by cases e) (λ_ _ e=>by cases e)
  have hltL:L<w.heap.size:=(kE.1 hLw).1;refine ⟨_,run_beginRound hL1 hr.state,?_⟩;have hlpX:φ'.lp=X:=hS'.agree.lp;have hne: ∀{c:Nat} {o:Obj} {w1:World},w1.heap[c]? =some o->(∃r',w1.heap[L]? =some (.loop r'))->(∀r',o≠ .loop r')->c≠L:=λhc hl ho e=>by
   grind
  -- the loop's record is turned
  have turnHR: ∀{D':Nat->Prop} {φ':bP} {H':Hf} {w1:World} (o:Obj),φ'.lp=X->(∃r',w1.heap[L]? =some (.loop r'))->HR D' φ' H' w1->HR D' φ' H' (w1.putObj L o):=λo hX hl hh=>
   hh.same (λc cs elem fr hc=>by grind [World.putObj_heap_other]) (λc es clk hc=>by grind [World.putObj_heap_other]) (λL' r' h=>by
    have h':=h;rw [hX] at h';simp only [X] at h';split at h'
    ·cases h'
    ·rename_i hL';rw [World.putObj_heap_other hL'];exact hh.lp L' r' h)
  have turnMk: ∀{m:Nat×List Deferred} {l:List Deferred} {w1:World} (o:Obj),(∃r',w1.heap[L]? =some (.loop r'))->Mk m l w1->Mk m l (w1.putObj L o):=λo hl ⟨ds,g1,g2,g3⟩=>
   ⟨ds,g1,g2,λD hD=>⟨(g3 D hD).1,by grind [World.putObj_heap_other]⟩⟩
  have hr2:=turnHR (.loop {r with state:= .busy}) hlpX ⟨r,hL1⟩ hR'.heap
  have hS2:dU D1 (φ.mf X) (aa h1) (w.putObj L (.loop {r with state:= .busy})) D' φ' (aa hh1) (w1.putObj L (.loop {r with state:= .busy})):=
   hS'.J5 hr2 hS'.eF.os hS'.eF.tape hS'.eF.output (by simp) (by simp) L (λc hc=>World.putObj_heap_other hc) (λc hc=>World.putObj_heap_other hc)
    (by grind [World.putObj_heap_same,C1])
  have hR2:Rel D' φ' e1 hh1 nn1 F.N ((w.putObj L (.loop {r with state:= .busy})).heap.size,[]) a1 (w1.putObj L (.loop {r with state:= .busy})):=
   ⟨hR'.lt,hR'.env,hr2,hR'.size,by rw [World.putObj_size];exact turnMk _ ⟨r,hL1⟩ hR'.defers⟩
  have hB:WP F.P F.N n1 r.body _ e1 hh1 nn1:=gZ {F with n0:=n1} hcx hm r.body _ _ _ _ (by show iw _ (bt F.P F.ct F.N r.body) _ _ _ _;rw [hr.bd];exact hk)
  have h2w:=hB (some L) (.inr (Cf (by rw [hr.bd];exact hnB))) [] D1 (φ.mf X) (aa h1) _ (λb hb=>hb) hn' D' φ' a1 _ hR2 hS2
  refine wpIn_mono (F:=Fw (some L)) h2w (λex a3 w3 hp=> ?_);obtain ⟨D3,φ3,e3,h3,n3,hk3,hn3,hR3,hS3⟩:=hp;cases ex with
  |normal=>
   obtain ⟨ψ,hW⟩:=hk3;have hHwb:HR D1 (φ.mf X) (aa h1) (w.putObj L (.loop {r with state:= .busy})):=turnHR _ rfl ⟨r,hLw⟩ hHb
   have hL3:w3.heap[L]? =some (.loop {r with state:= .busy}):=hHwb.stays hS3.eF (World.putObj_heap_same hltL) (λ_ _ _ e=>by cases e) (λ_ _ e=>by cases e)
   refine ⟨_,_,run_endRound none hL3,?_⟩;have hrec:({({r with state:= .busy}:Go.Loop) with state:=if (none:Option Code).isNone then .ready else .done,pending:=none}:Go.Loop)=r:=by
    obtain ⟨st,pe,f',tm,pa,as',bd,de⟩:=r;have:=hr.state;have:=hr.pending
    grind
   rw [hrec]
   -- the result
   have hR4:Rel D3 φ3 [(0,.b true)] h3 n3 1 (0,[]) {tmps:= #[.bool true],defers:=[]} w3:=by
    refine ⟨hR3.lt,λt v hv=> ?_,hR3.heap,rfl,Mk.nil⟩;simp only [bC] at hv;by_cases ht:t=0
    ·subst ht;simp at hv;subst hv;exact .b true
    grind [bO]
   obtain ⟨hR5,hS5⟩:=Rel.weaken hW (λb hb=>hb) hR4 hS3;have hlp3:(φ3.comp ψ).lp=X:=hS5.agree.lp;have hr5:=turnHR (.loop r) hlp3 ⟨_,hL3⟩ hR5.heap;have hltL3:L<w3.heap.size:=(kE.1 hL3).1;have hS6:dU D1 (φ.mf X) (aa h1) w _ (φ3.comp ψ) (aa h2) (w3.putObj L (.loop r)):=
    hS5.J5 hr5 hS5.eF.os hS5.eF.tape hS5.eF.output (by simp) (by simp) L (λc hc=>(World.putObj_heap_other hc).symm) (λc hc=>World.putObj_heap_other hc)
     (by grind [World.putObj_heap_same])
   have hr7:HR _ ((φ3.comp ψ).mf φ.lp) (aa h2) (w3.putObj L (.loop r)):=hr5.mf (λb k v u _ _ h=>h.Qn (λL' r' h'=>by
    grind)) (λL' r' h'=>by
     by_cases hL':L'=L
     ·grind [World.putObj_heap_same]
     ·have:X L'=some r':=by grind
      rw [<-hlp3] at this;exact hr5.lp L' r' this)
   have hS7:dU D1 φ (aa h1) w _ ((φ3.comp ψ).mf φ.lp) (aa h2) (w3.putObj L (.loop r)):=hS6.mf (X:=φ.lp) hr7;refine ⟨_,_,_,rfl,hR5.lt,aK.b true,⟨λb hb=>hS7.sub b (hD0 b hb),⟨λb hb=>hS7.agree.at_ b (hD0 b hb),hS7.agree.fz,hS7.agree.lp⟩,hS7.hr,hS7.eF,hS7.qL,hS7.kj⟩⟩
  |_=>exact hk3.elim
 |_=>exact hk.elim
theorem qb.intro {F:Fx} (hcx:Sound F.P F.cx) (hm:F.P.follows .mixedOrders=true) {g:cq} {ps:List Nat} {A B:bb} {K:bX} {e:Env} {h:Hp} {n:Nat} {gf:Nat} {caps:List AV} {v':AV} {h':Hp} {n':Nat} (ts:List Nat) (cs:List AV)
 (hg:g.ev e h=some (.fn gf caps)) (hcal:(bH F.P gf&& !ext F.P gf)=true) (hnA:Ck A=true) (hnB:Ck B=true) (hps:(ps.all λt=>decide (t<F.N))=true)
 (hts: ∀(i t:Nat) (a:AV),ts[i]? =some t->cs[i]? =some a->bC e t=some a)
 (hit: ∀L r,(∀cs as h1 n1 h2 n2,ps.length=as.length->fG cs=true->fG as=true->(∀b k,aa h1 b=some k->fG k.cells=true)->mF F ps A B ts cs as h1 n1 h2 n2->bG F.P YB (.yl L r ts cs::as) h1 n1 (.b true) h2 n2)→
   bG F.P gf (.yl L r ts cs::caps) h n v' h' n')
 (hy': ∀b k,aa h' b=some k->fG k.cells=true) (hn':F.n0<=n') (hk:K .normal e h' n'):qb F.P F.ct F.N F.n0 g ps A B K e h n:=by
 rw [ak,gG] at hcal;intro c' hc' ro hro Bd D0 φ0 H0 w0 hd0 hn0 D φ a w hR hS
 -- the code
 obtain ⟨g',ps',A',B',rfl,hg',hpe,hA',hB',hgg⟩: ∃g' ps' A' B',c'= .rangeFunc g' ps' A' B'/\cO g'=some g/\ps'.toList=ps/\bt F.P F.ct F.N A'=A/\bt F.P F.ct F.N B'=B/\ ∀k,g≠ .g k:=by
  cases c' with
  |rangeFunc g' ps' A' B'=>
   simp only [bt] at hc';split at hc'
   ·cases hc'
   ·grind
   ·cases hc'
  |region id ops draw=>simp only [bt] at hc';split at hc'<;>(try split at hc')<;>cases hc'
  |cond x y z=>simp only [bt] at hc';split at hc'<;>cases hc'
  |_=>simp [bt] at hc'
 have hro':ro=none:=hro.resolve_right (by simp [j6])
 subst hro';have hvf:=tW (λt v _ hv=>hR.env t v hv) hg' (λk hk=>by grind [cO,aI]) hg
 obtain ⟨hgy,capsV,hev,hcaps⟩:=hvf.yd;refine wpIn_rangeFunc ?_;intro fn hfn;obtain ⟨r,hrdef⟩: ∃r:Go.Loop,r={state:= .ready,pending:=none,fn,tmps:=a.tmps,params:=ps',assign:=A',body:=B',defers:=w.heap.size}:=⟨_,rfl⟩;have hrec:Tb F ps A B r:=by rw [hrdef];exact ⟨rfl,rfl,by rw [<-hpe],hA',hB',hR.size⟩
 obtain ⟨W1,hW1⟩: ∃W1,(w.alloc (.deferred (some []))).alloc (.loop r)=W1:=⟨_,rfl⟩;have hsz1:W1.heap.size=w.heap.size+2:=by rw [<-hW1];simp
 have hL1:W1.heap[w.heap.size+1]? =some (.loop r):=by
  grind [World.alloc_heap_new,World.size_alloc]
 have hK1:W1.heap[w.heap.size]? =some (.deferred (some [])):=by
  grind [Below.heap_alloc,trans,World.alloc_heap_new]
 have hold: ∀c,c<w.heap.size->W1.heap[c]? =w.heap[c]? :=λc hc=>by
  grind [Below.heap_alloc,trans]
 have hHw1:HR D φ (aa h) W1:=hR.heap.same (λc cs elem fr hc=>by grind) (λc es clk hc=>by grind) (λL r' hL=>by
  have:=hR.heap.lp L r' hL
  grind)
 have hS1:dU D φ (aa h) w D φ (aa h) W1:=(dU.refl hR.heap).same hHw1 (by rw [<-hW1];rfl) (by rw [<-hW1];rfl) (by rw [<-hW1];rfl) (by omega) hold
 let X:Nat->Option Go.Loop:=λL'=>if L'=w.heap.size+1 then some r else φ.lp L'
 have hXup: ∀L r',φ.lp L=some r'->X L=some r':=λL r' hL=>by
  have h1:=hR.heap.lp L r' hL
  grind
 have hHX:HR D (φ.mf X) (aa h) W1:=hHw1.mf (λb k v u _ _ hv=>hv.Qn hXup) (λL r' hL=>by
  simp only [X] at hL;split at hL
  ·grind
  ·exact hHw1.lp L r' hL)
 have hy0:aK D (φ.mf X) (.yl (w.heap.size+1) r ts cs) (.func (.yield (w.heap.size+1)) #[] #[]):=by
  refine .yl (φ:=φ.mf X) _ _ _ _ (by simp [bP.mf,X]) (λi t a ht ha=> ?_)
  have:=hR.env t a (hts i t a ht ha);rw [hrdef];exact this.Qn hXup
 have hcaps':cw D (φ.mf X) caps capsV:=⟨hcaps.1,λi a u ha hu=>(hcaps.2 i a u ha hu).Qn hXup⟩;have hF:=hit (w.heap.size+1) r (λcs as h1 n1 h2 n2 q1 q2 q3 q4 q5=>bG.round hcx hm hrec hnA hnB hps q1 q2 q3 q4 q5) D (φ.mf X) W1 _ hR.lt hHX (.cons hy0 hcaps');refine ⟨w.heap.size+1,[{target:= .collected w.heap.size,args:= #[]}],W1,{target:= .fn (.func gf) capsV.toArray,args:= #[.func (.yield (w.heap.size+1)) #[] #[]]},W1,gf,
  #[.func (.yield (w.heap.size+1)) #[] #[]]++capsV.toArray,W1,?_,?_,λ_ _=>trivial,?_,λhd=>(by cases hd),?_⟩
 ·rw [<-hW1,hrdef];exact run_enterLoop_outer _ _ _ _ _
 ·simp only [resolve,hev];simp [go_sem]
 ·grind [invoke,lg]
 ·refine se ?_;have hF2:=hF.calls hgy hcal.2;rw [show (Value.func (.yield (w.heap.size+1)) #[] #[]::capsV).toArray= #[.func (.yield (w.heap.size+1)) #[] #[]]++capsV.toArray by simp] at hF2
  refine Calls.mono hF2 λex w2 hx=> ?_;obtain ⟨D',φ',u,rfl,hlt',hv',hS2⟩:=hx;have hlp2:φ'.lp=X:=hS2.agree.lp;have hL2:w2.heap[w.heap.size+1]? =some (.loop r):=hHX.stays hS2.eF hL1 (λ_ _ _ e=>by cases e) (λ_ _ e=>by cases e)
  have hK2:w2.heap[w.heap.size]? =some (.deferred (some [])):=hHX.stays hS2.eF hK1 (λ_ _ _ e=>by cases e) (λ_ _ e=>by cases e)
  have hlt2:w.heap.size+1<w2.heap.size:=(kE.1 hL2).1;have hpend:r.pending=none:=hrec.pending;refine ⟨none,w2.putObj (w.heap.size+1) (.loop {r with state:= .exhausted}),(by grind [run_endLoop]),?_⟩
  -- the relation behind
  have hHr:HR D' (φ'.mf φ.lp) (aa h') w2:=hS2.hr.mf (λb k v u hb hv hvr=>hvr.BS (gj (hy' b k hb) v hv)) (λL r' hL=>by
   have:=hXup L r' hL;rw [<-hlp2] at this;exact hS2.hr.lp L r' this)
  have hS3:dU D φ (aa h) W1 D' (φ'.mf φ.lp) (aa h') w2:=hS2.mf (X:=φ.lp) hHr;have hHe:HR D' (φ'.mf φ.lp) (aa h') (w2.putObj (w.heap.size+1) (.loop {r with state:= .exhausted})):=hHr.same (λc cs elem fr hc=>by
   grind [World.putObj_heap_other]) (λc es clk hc=>by
   grind [World.putObj_heap_other]) (λL r' hL=>by
   have h1:=hR.heap.lp L r' hL;have h2:=(kE.1 h1).1;rw [World.putObj_heap_other (by omega)]
   exact hHr.lp L r' hL)
  have hS4:dU D φ (aa h) w D' (φ'.mf φ.lp) (aa h') (w2.putObj (w.heap.size+1) (.loop {r with state:= .exhausted})):=
   (hS1.trans hS3).same hHe rfl rfl rfl (by simp) (λc hc=>World.putObj_heap_other (by omega))
  refine ⟨D',φ'.mf φ.lp,e,h',n',hk,hn',⟨hlt',λt v hv=> ?_,hHe,hR.size,?_⟩,hS.trans hS4⟩
  ·exact (hR.env t v hv).mono hS4.sub hS4.agree
  ·obtain ⟨ds,q1,q2,q3⟩:=hR.defers;refine ⟨w.heap.size::ds,by simp [q1],tC.2 ⟨λhin=> ?_,q2⟩,λE hE=> ?_⟩
   ·grind
   ·rcases gP.1 hE with rfl|hE
    ·exact ⟨hS.eF.size,by grind [World.putObj_heap_other]⟩
    ·have h1:=(q3 E hE).2;have h2:=(kE.1 h1).1;refine ⟨(q3 E hE).1,?_⟩;rw [World.putObj_heap_other (by omega)]
     exact (hHX.stays hS2.eF (by grind) (λ_ _ _ e=>by cases e) (λ_ _ e=>by cases e))
end Go.Ab
namespace Go.Ab
noncomputable def ZQ (f0:FuncId) (a0:List AV) (h0:Hp) (n0:Nat) (E0:bV):Cx:=λf a h n=>open Classical in if f=f0/\a=a0/\h=h0/\n=n0 then some (true,E0) else none
theorem Km {f0:FuncId} {a0:List AV} {h0:Hp} {n0:Nat} {E0:bV}:ZQ f0 a0 h0 n0 E0 f0 a0 h0 n0=some (true,E0):=aT ⟨rfl,rfl,rfl,rfl⟩
theorem zC {P:Program} {f0:FuncId} {a0:List AV} {h0:Hp} {n0:Nat} {E0:bV} (hc:aA P f0 a0 h0 n0 E0):Sound P (ZQ f0 a0 h0 n0 E0):=λf a h n c E he ht=>by
 grind [ZQ]
theorem Loop.aeh {F:Fx} (hm:F.P.follows .mixedOrders=true) {c:bb} {K:bX} {X:Type} (ok:X->Prop) (μ:X->Nat) (E:X->Env) (H:X->Hp) (n2:Nat) (x0:X) (nx:X->X) (m0:List (Nat×Nat)) (m:X->List (Nat×Nat))
 {e:Env} {h:Hp} {n:Nat} (hn:F.n0<=n2) (hm0:sE m0 F.n0 n2=true) (hm1: ∀x,sE (m x) F.n0 n2=true) (h0:ok x0) (he:jz n2 m0 e (E x0)) (hh:iW n2 m0 h (H x0))
 (round: ∀x,ok x-> ∃cx,Sound F.P cx/\jw {F with cx:=cx} c (fR K λe' h' n'=>(ok (nx x)/\μ (nx x)<μ x)/\jz n2 (m x) e' (E (nx x))/\iW n2 (m x) h' (H (nx x))) (E x) (H x) n2):Loop F.P F.ct F.N F.n0 c K e h n:=by
 refine Loop.XZ (F:=F) (X:={x:X // ok x}) (λk=>(E k.1,H k.1,n2)) (λk=>μ k.1) ⟨x0,h0⟩ (rn m0) (Wk.TR hn hm0 he hh) (λk c' hc'=> ?_);obtain ⟨cx,hcx,hr⟩:=round k.1 k.2;refine gZ {F with cx:=cx} hcx hm c' _ _ _ _ (by
  show iw _ (bt F.P F.ct F.N c') _ _ _ _;rw [hc'];refine qC (λex e' h' n' hx=> ?_) (aO hr);cases ex with
  |normal=>
   obtain ⟨⟨h1,h2⟩,h3,h4⟩:=hx;exact ⟨⟨nx k.1,h1⟩,rn (m k.1),Wk.TR hn (hm1 k.1) h3 h4,h2⟩
  |_=>exact hx)
def DY:Hp->Bool
 |[]=>true
 |(_,k)::r=>fG k.cells&&DY r
theorem nH: ∀{h:Hp} {b:Nat} {k:bp},DY h=true->aa h b=some k->fG k.cells=true
 |[],b,k,_,hb=>by simp [aa] at hb
 |(c,j)::r,b,k,h,hb=>by
  simp only [DY,ak] at h;simp only [aa] at hb;by_cases hc:b=c
  ·subst hc;simp at hb;subst hb;exact h.1
  ·rw [bO hc] at hb;exact nH h.2 hb
theorem lL {α:Type} {f:α->List AV} (hf: ∀a,fG (f a)=true): ∀{l:List α},fG (rows f l)=true
 |[]=>rfl
 |a::l=>by rw [cX,vT,hf,lL hf];rfl
def rdK (Q:Env->Hp->Nat->Prop):bX:=λex e h n=>match ex with
 | .normal=>Q e h n
 |_=>False
theorem abj {Q:Env->Hp->Nat->Prop} {e:Env} {h:Hp} {n:Nat}:rdK Q .normal e h n=Q e h n:=(rfl)
attribute [go_sem ↓] abj
theorem mF.Ue {F:Fx} {ps:List Nat} {A B:bb} {ts:List Nat} {cs as':List AV} {h1:Hp} {n1:Nat} {h2:Hp} {n2:Nat}
 (hj:jw {F with n0:=n1} A (rdK λe h n=>jw {F with n0:=n1} B (rdK λe3 h3 n3=>Ends n1 (.b true) h3 n3 (.b true) h2 n2) e h n) (IB ps as' (tL ts cs)) h1 n1):mF F ps A B ts cs as' h1 n1 h2 n2:=by
 refine qC (λex e h n hx=> ?_) (aO hj);cases ex with
 |normal=>
  refine qC (λex e h n hx=> ?_) (aO hx);cases ex<;>exact hx
 |_=>exact hx.elim
theorem aZ.agA {n0 n n2:Nat} {v v' v2:AV} {h h2:Hp} {l:List AV} (hf:bW .ze (.fz l 0) v v') (hc:aZ n0 v' h n v2 h2 n2):aZ n0 v h n v2 h2 n2:=by
 intro D φ w D0 φ0 H0 w0 u hD0 hD hv hH hS;exact hc D φ w D0 φ0 H0 w0 u hD0 hD (hf D φ u (λu1 h1=>by cases h1;exact .nS _ _ _ (λ_=>rfl)) hv) hH hS
end Go.Ab
