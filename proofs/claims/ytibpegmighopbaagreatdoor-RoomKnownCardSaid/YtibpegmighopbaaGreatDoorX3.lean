/- Texts laid as one. -/
import Derived.Test.YtibpegmighopbaaGreatDoorX2
import Derived.ProofKit
import Derived.Carry
import Derived.RecoverIn
import Derived.Below
import Derived.Laws.Externs
import GoSem.Extern.SlicesOverlaps
set_option maxRecDepth 100000
set_option maxHeartbeats 20000000
set_option linter.unusedSimpArgs false
set_option linter.unusedVariables false
namespace Go.Ab
def tD (z bytes n:Nat) (h:Hp) (r0:List Nat) (m:Nat) (cs:List AV) (ok:Bool) (s:AV):Option (Bool×bX):=
 FN s (fun l len=>jS (decide (m=0)) (some (ok,{v:= .fz l len,n,rd:=r0})) none) (jS (decide (m=0)) (some (ok,{v:= .ze,n,rd:=r0})) (some (ok&&decide (bytes*m<=aE),{v:= .sg n 0 m,n:=n+1,rd:=r0,nw:=[(n,{cells:=cs,gr:=some z})]}))) fun s=>GJ s
  (jS (decide (m=0)) (some (ok,{v:= .ns,n,rd:=r0})) (some (ok&&decide (bytes*m<=aE),{v:= .sg n 0 m,n:=n+1,rd:=r0,nw:=[(n,{cells:=cs,gr:=some z})]})))
  (fun b o len cap=>jS (decide (m=0)) (some (ok&&decide (len<=cap),{v:= .sl b o len cap,n,rd:=r0}))
    ((iO h b).bind fun k=>jS (decide (len+m<=cap))
      (OA k.ro (some (ok&&decide (o+len*z+cs.length<=k.cells.length)&&aX cs,{v:= .sl b o (len+m) cap,n,rd:=b::r0,md:=[(b,some {k with cells:=eF k.cells (o+len*z) cs})]})))
      (some (ok&&decide (bytes*(len+m)<=aE)&&decide ((aA k.cells o (len*z)).length=len*z)&&decide (len<=cap),{v:= .sg n 0 (len+m),n:=n+1,rd:=b::r0,nw:=[(n,{cells:=aA k.cells o (len*z)++cs,gr:=some z})]}))))
  (fun b o len=>jS (decide (m=0)) (some (ok,{v:= .sg b o len,n,rd:=r0}))
    ((iO h b).bind fun k=>Qt k.gr fun z'=>some (ok&&decide (bytes*(len+m)<=aE)&&Nat.beq z z'&&decide (k.cells.length=o+len*z)&&aX cs,{v:= .sg n 0 (len+m),n:=n+1,rd:=b::r0,md:=[(b,none)],nw:=[(n,{cells:=k.cells.drop o++cs,gr:=some z})]})))
@[congr] theorem appV_congr {z bytes n m:Nat} {h:Hp} {r0:List Nat} {cs cs':List AV} {ok ok':Bool} {s s':AV} (h1:cs=cs') (h2:ok=ok') (h3:s=s'):tD z bytes n h r0 m cs ok s=tD z bytes n h r0 m cs' ok' s':=by rw [h1,h2,h3]
section
variable {cx:Cx} {e:Env} {h:Hp} {n z bytes:Nat} {r0:List Nat} {m:Nat} {cs:List AV} {ok:Bool}
theorem NG {zs:List AV} {s x:cC}:cA cx (.app z bytes zs s x) e h n=(s.ev e h).bind fun s=>(x.ev e h).bind fun x=>AF h z x fun r0 m cs ok=>tD z bytes n h r0 m cs ok s:=JF
theorem aaO:tD z bytes n h r0 m cs ok .ze=(jS (decide (m=0)) (some (ok,{v:= .ze,n,rd:=r0})) (some (ok&&decide (bytes*m<=aE),{v:= .sg n 0 m,n:=n+1,rd:=r0,nw:=[(n,{cells:=cs,gr:=some z})]}))):=(rfl)
theorem JH:tD z bytes n h r0 m cs ok .ns=(jS (decide (m=0)) (some (ok,{v:= .ns,n,rd:=r0})) (some (ok&&decide (bytes*m<=aE),{v:= .sg n 0 m,n:=n+1,rd:=r0,nw:=[(n,{cells:=cs,gr:=some z})]}))):=(rfl)
theorem WH {b o len cap:Nat}:tD z bytes n h r0 m cs ok (.sl b o len cap)=(jS (decide (m=0)) (some (ok&&decide (len<=cap),{v:= .sl b o len cap,n,rd:=r0}))
 ((iO h b).bind fun k=>jS (decide (len+m<=cap))
   (OA k.ro (some (ok&&decide (o+len*z+cs.length<=k.cells.length)&&aX cs,{v:= .sl b o (len+m) cap,n,rd:=b::r0,md:=[(b,some {k with cells:=eF k.cells (o+len*z) cs})]})))
   (some (ok&&decide (bytes*(len+m)<=aE)&&decide ((aA k.cells o (len*z)).length=len*z)&&decide (len<=cap),{v:= .sg n 0 (len+m),n:=n+1,rd:=b::r0,nw:=[(n,{cells:=aA k.cells o (len*z)++cs,gr:=some z})]})))):=(rfl)
theorem DD {b len:Nat}:tD z bytes n h r0 m cs ok (.sg b 0 len)=(jS (decide (m=0)) (some (ok,{v:= .sg b 0 len,n,rd:=r0}))
 ((iO h b).bind fun k=>Qt k.gr fun z'=>some (ok&&decide (bytes*(len+m)<=aE)&&Nat.beq z z'&&decide (k.cells.length=len*z)&&aX cs,{v:= .sg n 0 (len+m),n:=n+1,rd:=b::r0,md:=[(b,none)],nw:=[(n,{cells:=k.cells++cs,gr:=some z})]}))):=by
 have e:tD z bytes n h r0 m cs ok (.sg b 0 len)=(jS (decide (m=0)) (some (ok,{v:= .sg b 0 len,n,rd:=r0}))
  ((iO h b).bind fun k=>Qt k.gr fun z'=>some (ok&&decide (bytes*(len+m)<=aE)&&Nat.beq z z'&&decide (k.cells.length=0+len*z)&&aX cs,{v:= .sg n 0 (len+m),n:=n+1,rd:=b::r0,md:=[(b,none)],nw:=[(n,{cells:=k.cells.drop 0++cs,gr:=some z})]}))):=rfl
 rw [e];simp only [fy,gv]
end
attribute [go_sem ↓ high] NG
attribute [go_sem ↓] JH WH DD aaO
def gQ {α:Type} (f:α->List AV) (z:Nat) (l:List α):Sh:=if l.length=0 then .nil else .sg {cells:=rows f l,gr:=some z} 0 l.length
def gS {α:Type} (f:α->List AV) (z:Nat) (l:List α) (cs:List AV):Sh:= .sg {cells:=rows f l++cs,gr:=some z} 0 (l.length+1)
section
variable {α:Type} {f:α->List AV} {z:Nat} {l:List α}
theorem tA:gQ f z []= .nil:=rfl
theorem rp {a:α}:gQ f z (l++[a])=gS f z l (f a):=by
 unfold gQ gS;rw [aN (by simp),df,dN]
 simp [rows]
theorem tE (hb: ∀a,ae 0 (f a)=true) (hf: ∀a,(f a).length=z) (l:List α):(gQ f z l).is f z l:=by
 unfold gQ;split
 ·rename_i h;have:l=[]:=jG h;subst this;exact ⟨rfl,rfl,rfl⟩
 ·exact ⟨bN hb,rfl,by show aA _ 0 _=_;unfold aA;rw [fy,<-aT (f:=f) (z:=z) hf,fU]⟩
theorem Kl (l:List α):(gQ f z l).fresh=true:=by unfold gQ;split<;>rfl
end
def rC (s:Sh) (b:Nat) (h:Hp):Hp:=jb h (nz (s.bl b))
section
variable {s t:Sh} {b c:Nat} {h r:Hp} {k:aW}
theorem yw:rC s b []=[]:=by cases s<;>rfl
theorem qw (hc:c≠b):rC s b ((c,k)::r)=(c,k)::rC s b r:=by
 cases s with
 |nil=>rfl
 |sl k o l cc=>exact (l5 (c:=c)).trans (aN hc)
 |sg k o l=>exact (l5 (c:=c)).trans (aN hc)
theorem yD:rC s b (s.h b++r)=rC s b r:=by
 cases s with
 |nil=>rfl
 |sl k o l cc=>exact (l5 (c:=b)).trans (aM rfl)
 |sg k o l=>exact (l5 (c:=b)).trans (aM rfl)
theorem Dr:rC s b (s.h b)=[]:=by
 have:=yD (s:=s) (b:=b) (r:=[]);rw [cM] at this;rw [this,yw]
theorem DF (hc:c≠b):rC s b (t.h c++r)=t.h c++rC s b r:=by
 cases t with
 |nil=>rfl
 |sl k o l cc=>exact qw hc
 |sg k o l=>exact qw hc
end
theorem NY {pn:Option Value} {v:AV} {n b c:Nat} {rd:List Nat} {s t:Sh} {h:Hp}:(bX.mk v n rd (nz (s.bl b)) (t.h c) pn).fe h=rC s b (t.h c++h):=(rfl)
section
variable {α:Type} {f:α->List AV} {z bytes n b:Nat} {l:List α} {h:Hp} {r0:List Nat} {cs:List AV} {ok:Bool}
theorem abQ (hh:tk h (gQ f z l) b) (ho:aX cs=true) (hf:(rows f l).length=l.length*z):tD z bytes n h r0 1 cs ok ((gQ f z l).v b)=
 some (ok&&decide (bytes*(l.length+1)<=aE),{v:=(gS f z l cs).v n,n:=n+1,rd:=(gQ f z l).bl b++r0,md:=nz ((gQ f z l).bl b),nw:=(gS f z l cs).h n}):=by
 revert hh;unfold gQ;split
 ·rename_i hl;have:l=[]:=jG hl;subst this;intro _;rfl
 ·intro hh;have:=IS (hh b {cells:=rows f l,gr:=some z} (by simp [Sh.h,ab])) rfl
  show tD z bytes n h r0 1 cs ok (.sg b 0 l.length)=_;rw [DD,this,cN (by decide: ¬(1:Nat)=0),sX,qG]
  simp only [HL,ho,hf,ie,pX,cj];rfl
end
attribute [go_sem ↓] NY
attribute [go_sem] abQ yw qw yD Dr DF
end Go.Ab
namespace Go.Ab
def Oi (z n:Nat) (h:Hp) (m:Int) (v:AV):Option (Bool×bX):=FN v (fun l len=>some ((aJ len len none (some m) none).1,{v:= .fz (l.drop ((aJ len len none (some m) none).2.1*z)) ((aJ len len none (some m) none).2.2.1-(aJ len len none (some m) none).2.1),n}))
 (some ((aJ 0 0 none (some m) none).1,{v:= .ze,n})) fun v=>GJ v
 (some ((aJ 0 0 none (some m) none).1,{v:= .ns,n}))
 (fun b o len cap=>some ((aJ len cap none (some m) none).1,{v:= .sl b (if (aJ len cap none (some m) none).2.2.2=(aJ len cap none (some m) none).2.1 then o else o+(aJ len cap none (some m) none).2.1*z) ((aJ len cap none (some m) none).2.2.1-(aJ len cap none (some m) none).2.1) ((aJ len cap none (some m) none).2.2.2-(aJ len cap none (some m) none).2.1),n}))
 (fun b o len=>(iO h b).bind fun k=>Qt k.gr fun z'=>
   jS (decide ((aJ len len none (some m) none).2.1=0\/(aJ len len none (some m) none).2.1<len)) (some ((aJ len len none (some m) none).1&&Nat.beq z z',{v:= .sg b (o+(aJ len len none (some m) none).2.1*z) ((aJ len len none (some m) none).2.2.1-(aJ len len none (some m) none).2.1),n,rd:=[b]})) (some ((aJ len len none (some m) none).1&&Nat.beq z z',{v:= .en,n,rd:=[b]})))
section
variable {cx:Cx} {e:Env} {h:Hp} {n z:Nat} {m:Int}
theorem XV {x hi:cC}:cA cx (.qT z x none (some hi) none) e h n=(x.ev e h).bind fun v=>(hi.ev e h).bind fun w=>(Cs w).bind fun m=>Oi z n h m v:=by
 rw [IM];cases hx:x.ev e h with
 |none=>rfl
 |some v=>
  simp only [aS,kA,qE];cases hhi:hi.ev e h with
  |none=>
   simp only [Option.bind_none];cases v<;>try rfl
   ·simp only [EN,Fb];cases iO h _<;>rfl
  |some w=>
   simp only [aS];cases Cs w with
   |none=>
    simp only [Option.bind_none];cases v<;>try rfl
    ·simp only [EN,Fb];cases iO h _<;>rfl
   |some m=>rfl
theorem aat {l:List AV} {len:Nat}:Oi z n h m (.fz l len)=some (decide (0<=m/\m<=(len:Int)),{v:= .fz l m.toNat,n}):=by
 show some (_,_)=some (_,_);refine cS some (oy (qF.2 ?_) ?_)
 ·simp only [gq,nu];omega
 ·simp [aJ]
theorem ach {b o len cap:Nat}:Oi z n h m (.sl b o len cap)=some (decide (0<=m/\m<=(cap:Int)),{v:= .sl b o m.toNat cap,n}):=by
 show some (_,_)=some (_,_);refine cS some (oy (qF.2 ?_) ?_)
 ·simp only [gq,nu];omega
 ·simp [aJ]
theorem Uw {b o len:Nat}:Oi z n h m (.sg b o len)=(iO h b).bind fun k=>Qt k.gr fun z'=>some (decide (0<=m/\m<=(len:Int))&&Nat.beq z z',{v:= .sg b o m.toNat,n,rd:=[b]}):=by
 show (iO h b).bind _=(iO h b).bind _;congr 1;funext k;congr 1;funext z';refine cS some (oy ?_ ?_)
 ·show (_&&_)=(_&&_);congr 1;refine qF.2 ?_;simp only [gq,nu];omega
 ·simp [aJ]
end
def Sh.cut (s:Sh) (m:Nat):Sh:=match s with
 | .nil=> .nil
 | .sl k o _ cap=> .sl k o m cap
 | .sg k o _=> .sg k o m
section
variable {s:Sh} {b c z n:Nat} {h r:Hp} {m:Int}
theorem M5 {k:Nat} (hk:k<=s.len):(s.cut k).len=k:=by cases s<;>simp_all [Sh.cut,Sh.len]
theorem yF {k:Nat}:(s.cut k).plain=s.plain:=by cases s<;>rfl
theorem Sh.is.cut {α:Type} {f:α->List AV} {l:List α} (hf: ∀a,(f a).length=z) (hs:s.is f z l) {k:Nat} (hk:k<=l.length):(s.cut k).is f z (l.take k):=by
 have hln:=hs.ln;refine ⟨by rw [yF];exact hs.pl,by rw [M5 (by omega),gO];omega,?_⟩
 have hc:=hs.cs;have key: ∀(c:List AV) (o:Nat),aA c o (l.length*z)=rows f l->aA c o (k*z)=rows f (l.take k):=by
  intro c o hco;rw [<-sS hf,<-hco];unfold aA;rw [List.take_take];congr 1;have:=Ae z hk;omega
 cases s with
 |nil=>
  simp only [Sh.len] at hln;have:l=[]:=jG hln.symm;subst this;simp [Sh.cut,Sh.cs,rows]
 |sl q o len cap=>
  simp only [Sh.len] at hln;simp only [Sh.cs,hln] at hc;exact key _ _ hc
 |sg q o len=>
  simp only [Sh.len] at hln;simp only [Sh.cs,hln] at hc;exact key _ _ hc
end
attribute [go_sem ↓ high] XV
attribute [go_sem ↓] ach Uw aat
attribute [go_sem] yF
end Go.Ab
namespace Go.Ab
def ck (F:Fx) (c:bG) (K:cF) (e:Env) (h:Hp) (n:Nat):Prop:= ∀c',bH F.P F.ct F.N c'=c->WP F.P F.N F.n0 c' K e h n
section
variable {F:Fx} {a b c:bG} {K:cF} {e:Env} {h:Hp} {n:Nat}
theorem ck.run (hcx:Sound F.P F.cx) (hm:F.P.follows .mixedOrders=true) (hi:jw F c K e h n):ck F c K e h n:=fun c' hc'=>gL F hcx hm c' _ _ _ _ (by rw [hc'];exact aQ hi)
theorem ck.seq (hi:ck F a (gH K (ck F b K)) e h n):ck F (.seq a b) K e h n:=fun c' hc'=>by
 obtain ⟨x,y,rfl,hx,hy⟩:=M1 hc';intro ro hro B D0 φ0 H0 w0 h1 h2 D φ a w hR hS;refine wpIn_seq (wpIn_mono (hi x hx ro (hro.imp _root_.id (fun h=>by simp only [jC,aw] at h;exact h.1)) B D0 φ0 H0 w0 h1 h2 D φ a w hR hS) (fun ex a' w' hp=> ?_))
 obtain ⟨D',φ',e',h',n',hk,hn',hR',hS'⟩:=hp;cases ex with
 |normal=>exact hk y hy ro (hro.imp _root_.id (fun h=>by simp only [jC,aw] at h;exact h.2)) B D0 φ0 H0 w0 h1 hn' D' φ' a' w' hR' hS'
 |exit id=>exact ⟨D',φ',e',h',n',hk,hn',hR',hS'⟩
 |goto l=>exact ⟨D',φ',e',h',n',hk,hn',hR',hS'⟩
 |ret=>exact ⟨D',φ',e',h',n',hk,hn',hR',hS'⟩
 |panic ch=>exact ⟨D',φ',e',h',n',hk,hn',hR',hS'⟩
 |outgrown=>exact ⟨D',φ',e',h',n',hk,hn',hR',hS'⟩
theorem ck.part (hcx:Sound F.P F.cx) (hm:F.P.follows .mixedOrders=true) (hi:jw F a (gH K (ck F b K)) e h n):ck F (.seq a b) K e h n:=ck.seq (ck.run hcx hm hi)
theorem ck.block {id:Nat} (hi:ck F a (iz id K) e h n):ck F (.block id a) K e h n:=fun c' hc'=>by
 obtain ⟨x,rfl,hx⟩:=Gl hc';intro ro hro B D0 φ0 H0 w0 h1 h2 D φ a w hR hS;refine wpIn_block (wpIn_mono (hi x hx ro hro B D0 φ0 H0 w0 h1 h2 D φ a w hR hS) (fun ex a' w' hp=> ?_));obtain ⟨D',φ',e',h',n',hk,hn',hR',hS'⟩:=hp;cases ex with
 |exit i=>
  simp only [iz] at hk;simp only [Exit.inBlock];split
  ·rename_i hid;rw [aM hid] at hk;exact ⟨D',φ',e',h',n',hk,hn',hR',hS'⟩
  ·rename_i hid;rw [aN hid] at hk;exact ⟨D',φ',e',h',n',hk,hn',hR',hS'⟩
 |normal=>exact ⟨D',φ',e',h',n',hk,hn',hR',hS'⟩
 |goto l=>exact ⟨D',φ',e',h',n',hk,hn',hR',hS'⟩
 |ret=>exact ⟨D',φ',e',h',n',hk,hn',hR',hS'⟩
 |panic ch=>exact ⟨D',φ',e',h',n',hk,hn',hR',hS'⟩
 |outgrown=>exact ⟨D',φ',e',h',n',hk,hn',hR',hS'⟩
theorem ck.aH {e2:Env} {h2:Hp} {n2:Nat} (m:List (Nat×Nat)) (hs:ck F c K e2 h2 n2) (hn:F.n0<=n2) (hm:uJ m F.n0 n2=true) (he:na n2 m e e2) (hh:iy n2 m h h2):ck F c K e h n:=
 fun c' hc'=>WP.weaken (Wk.ofR hn hm he hh) (hs c' hc')
end
theorem bt.jo {P:Program} {f:FuncId} {fn:Func} {I:dm} {cx:Cx} {args:List AV} {h:Hp} {n:Nat} {v2:AV} {h2:Hp} {n2:Nat} (hf:P.funcs[f]? =some fn) (hI:aK P fn=some I) (hnp:args.length<=I.N)
 (hi:ck ⟨P,cx,I.ct,I.N,n⟩ I.code (qS I.res fun v h' n'=>Ends n v h' n' v2 h2 n2) (eS 0 args) h n):bt P f args h n v2 h2 n2:=
 bt.of_wp hf hI hnp (fun c hc=>hi c hc)
section
variable {α:Type} {f:α->List AV} {z:Nat} {l:List α} {s:Sh} {b:Nat} {h:Hp}
theorem xh {x y:List AV}:aX (x++y)=(aX x&&aX y):=by
 induction x with
 |nil=>rfl
 |cons a x ih=>simp only [ee,aX,ih,yx]
theorem fF (h1: ∀a,aX (f a)=true): ∀l:List α,aX (rows f l)=true
 |[]=>rfl
 |a::l=>by rw [cT,xh,h1,fF h1 l];rfl
end
end Go.Ab
namespace Go.Ab
section
variable {k:aW} {o l c b:Nat} {h:Hp}
theorem akw:Sh.nil.v b= .ns:=(rfl)
theorem aj1:Sh.nil.h b=[]:=(rfl)
end
attribute [go_sem] akw aj1
end Go.Ab
namespace Go.Ab
open Go.ChangeShapes Go.WideShapes
inductive Ty where
 |b
 |i (k:IntKind)
 |s
 |st (l:List Ty)
 |ar (n:Nat) (T:Ty)
mutual
def Ty.size:Ty->Nat
 | .b=>1
 | .i _=>1
 | .s=>1
 | .st l=>x7 l
 | .ar n T=>n*T.size
def x7:List Ty->Nat
 |[]=>0
 |T::r=>T.size+x7 r
end
mutual
def lI (P:Program):Ty->TypeId->Bool
 | .b,t=>match P.underlying t with|some .bool=>Nat.beq (P.cellsOf t) 1|_=>false
 | .i k,t=>match P.underlying t with|some (.int k')=>decide (k'=k)&&Nat.beq (P.cellsOf t) 1|_=>false
 | .s,t=>match P.underlying t with|some .string=>Nat.beq (P.cellsOf t) 1|_=>false
 | .st Ts,t=>match P.underlying t with|some (.struct fs)=>xL P Ts fs.toList 0&&Nat.beq (P.cellsOf t) (x7 Ts)|_=>false
 | .ar n T,t=>match P.underlying t with|some (.array n' e)=>Nat.beq n' n&&lI P T e&&Nat.beq (P.cellsOf t) (n*T.size)|_=>false
def xL (P:Program):List Ty->List Field->Nat->Bool
 |[],[],_=>true
 |T::Ts,f::fs,o=>Nat.beq f.offset o&&lI P T f.type&&xL P Ts fs (o+T.size)
 |_,_,_=>false
end
mutual
def Flat:Ty->List AV->Prop
 | .b,l=> ∃x,l=[.b x]
 | .i k,l=> ∃n,l=[.i k n]/\k.min<=n/\n<=k.max
 | .s,l=> ∃x,l=[.s x]/\x.length<=maxLen
 | .st Ts,l=>JN Ts l
 | .ar n T,l=> ∃ls:List (List AV),ls.length=n/\l=ls.flatten/\ ∀x∈ls,Flat T x
def JN:List Ty->List AV->Prop
 |[],l=>l=[]
 |T::Ts,l=> ∃a r,l=a++r/\Flat T a/\JN Ts r
end
section
variable {H:Type} {enc:TypeId×Value->H} {P:Program} {w:World} {base:Nat} {sp:Nat->Bool} {held:Bool} {D:Nat->Prop} {φ:bU}
theorem qx: ∀{T:Ty} {t:TypeId},lI P T t=true->P.cellsOf t=T.size
 | .b,t,h=>by simp only [lI] at h;split at h<;>first|exact dC h|cases h
 | .i k,t,h=>by
  simp only [lI] at h;split at h
  ·simp only [aw] at h;exact dC h.2
  ·cases h
 | .s,t,h=>by simp only [lI] at h;split at h<;>first|exact dC h|cases h
 | .st Ts,t,h=>by
  simp only [lI] at h;split at h
  ·simp only [aw] at h;exact dC h.2
  ·cases h
 | .ar n T,t,h=>by
  simp only [lI] at h;split at h
  ·simp only [aw] at h;exact dC h.2
  ·cases h
theorem wL {t e:TypeId} {n:Nat} {fuel:Nat} {cs:List Value} {x:DataW H×List MemPlace} (ht:P.underlying t=some (.array n e)) (h:DataW.trod enc P w base sp held fuel t cs=some x):
 ∃m,cs.length=P.cellsOf t/\ ∀i,i<n-> ∃y,DataW.trod enc P w base sp held m e ((cs.drop (i*P.cellsOf e)).take (P.cellsOf e))=some y:=by
 cases fuel with
 |zero=>simp [DataW.trod] at h
 |succ m=>
  unfold DataW.trod at h;rw [ht] at h;split at h<;>simp_all;obtain ⟨hl,xs,hp,hd⟩:=h;refine ⟨m,fun i hi=> ?_⟩;have h1:=mapM_some_length hp;have h2:=mapM_some_get hp i i (by simp [hi])
  simp at h1;exact ⟨xs[i].1,xs[i].2,by simpa [h1,hi] using h2⟩
mutual
theorem pj: ∀{T:Ty} {t:TypeId} {fuel:Nat} {cs:List Value} {x:DataW H×List MemPlace},lI P T t=true->DataW.trod enc P w base sp held fuel t cs=some x-> ∃l,Flat T l/\cJ D φ l cs
 | .b,t,fuel,cs,x,hT,h=>by
  simp only [lI] at hT;split at hT
  ·rename_i hu;obtain ⟨b,rfl,_⟩:=DataW.trod_bool hu h;exact ⟨[.b b],⟨b,rfl⟩,.cons (.b b) .nil⟩
  ·cases hT
 | .i k,t,fuel,cs,x,hT,h=>by
  simp only [lI] at hT;split at hT
  ·rename_i k' hu;simp only [aw,aV] at hT;obtain ⟨rfl,_⟩:=hT;obtain ⟨n,rfl,_,hw⟩:=DataW.trod_int hu h;simp only [Lit.wf,aw,aV] at hw;exact ⟨[.i k' n],⟨n,rfl,hw⟩,.cons (.i k' n) .nil⟩
  ·cases hT
 | .s,t,fuel,cs,x,hT,h=>by
  simp only [lI] at hT;split at hT
  ·rename_i hu;obtain ⟨s,rfl,_,hs⟩:=DataW.trod_string hu h;refine ⟨[.s s.data.toList],⟨s.data.toList,rfl,by simpa using hs⟩,.cons ?_ .nil⟩
   have:=aI.s (D:=D) (φ:=φ) s.data.toList;simpa using this
  ·cases hT
 | .st Ts,t,fuel,cs,x,hT,h=>by
  simp only [lI] at hT;split at hT
  ·rename_i fs hu;simp only [aw] at hT;obtain ⟨xs,n,_,_,hl,hxl,hall⟩:=DataW.trod_struct hu h;rw [dC hT.2] at hl;obtain ⟨l,h1,h2⟩:=wN (fuel:=n) (cs:=cs) hT.1 (by omega) (fun f hf=>by
    obtain ⟨i,hi⟩:=vT hf;have h1:=hall i f (by simpa using hi)
    have hlt:i<fs.size:=by
     have:=(eK.1 hi).1;simpa using this
    rw [h1];exact ⟨xs[i],by simp [hxl,hlt]⟩)
   exact ⟨l,h1,by simpa using h2⟩
  ·cases hT
 | .ar n T,t,fuel,cs,x,hT,h=>by
  simp only [lI] at hT;split at hT
  ·rename_i n' e hu;simp only [aw] at hT;obtain ⟨⟨hn,hT1⟩,hT2⟩:=hT;have hn:=dC hn;subst hn;obtain ⟨m,hl,hall⟩:=wL hu h;rw [dC hT2] at hl;have hsz:=qx hT1;have key: ∀m',m'<=n'-> ∃ls:List (List AV),ls.length=m'/\(∀x∈ls,Flat T x)/\cJ D φ ls.flatten (cs.take (m'*T.size)):=by
    intro m';induction m' with
    |zero=>intro _;exact ⟨[],rfl,(fun x hx=>by cases hx),by simpa using cJ.nil⟩
    |succ m' ih=>
     intro hm;obtain ⟨ls,h1,h2,h3⟩:=ih (by omega)
     obtain ⟨y,hy⟩:=hall m' (by omega)
     rw [hsz] at hy;obtain ⟨l,g1,g2⟩:=pj hT1 hy;refine ⟨ls++[l],by simp [h1],fun x hx=> ?_,?_⟩
     ·rcases vJ.1 hx with hx|hx
      ·exact h2 x hx
      ·simp at hx;subst hx;exact g1
     ·have:cs.take ((m'+1)*T.size)=cs.take (m'*T.size)++(cs.drop (m'*T.size)).take T.size:=by
       rw [dF,sv,List.take_add]
      rw [this];simpa using h3.append g2
   obtain ⟨ls,h1,h2,h3⟩:=key n' (bx _);refine ⟨ls.flatten,⟨ls,h1,rfl,h2⟩,?_⟩;rw [h9 (by omega)] at h3
   exact h3
  ·cases hT
theorem wN: ∀{Ts:List Ty} {fs:List Field} {o:Nat} {fuel:Nat} {cs:List Value},xL P Ts fs o=true->cs.length=o+x7 Ts->(∀f∈fs,∃y,DataW.trod enc P w base sp held fuel f.type ((cs.drop f.offset).take (P.cellsOf f.type))=some y)-> ∃l,JN Ts l/\cJ D φ l (cs.drop o)
 |[],[],o,fuel,cs,_,hl,_=>⟨[],rfl,by
  rw [rN (by simp only [x7] at hl;omega)];exact .nil⟩
 |[],_::_,o,fuel,cs,h,_,_=>by simp [xL] at h
 |_::_,[],o,fuel,cs,h,_,_=>by simp [xL] at h
 |T::Ts,f::fs,o,fuel,cs,h,hl,hall=>by
  simp only [xL,aw] at h;obtain ⟨⟨ho,hT⟩,hr⟩:=h;have ho:=dC ho;obtain ⟨y,hy⟩:=hall f ja;rw [ho,qx hT] at hy;obtain ⟨a,g1,g2⟩:=pj hT hy;simp only [x7] at hl;obtain ⟨r,g3,g4⟩:=wN (cs:=cs) hr (by omega) (fun f hf=>hall f (iZ _ hf))
  refine ⟨a++r,⟨a,r,rfl,g1,g3⟩,?_⟩;have:=g2.append g4;rwa [<-qp,kQ] at this
end
end
inductive Ty2 where
 |f (T:Ty)
 |sl (T:Ty)
def Ty.wide:Ty->Bool
 | .st _=>true
 | .ar _ _=>true
 |_=>false
def mkArg (T:Ty) (l:List AV):AV:=
 match T.wide with
 |true=> .agg l
 |false=>l.headD .np
section
variable {H:Type} {enc:TypeId×Value->H} {P:Program} {W:World} {sp:Nat->Bool} {held:Bool}
structure Gm (j m:Nat) (h:Hp) (D:Nat->Prop) (φ:bU) (W:World):Prop where
 at_: ∀b k,ab h b=some k->j<=b/\b<m/\k.ro=true/\D b/\De D φ W b k
theorem Gv {T:Ty} {t:TypeId} {r:Reach} {base:Nat} {v:Value} {d:DataW H} {ps:List MemPlace} {D:Nat->Prop} {φ:bU} (hT:lI P T t=true) (hval:Value.okWide P W r base t v)
 (h:DataW.Trod enc P W 0 sp held t v d ps): ∃l,Flat T l/\aI D φ (mkArg T l) v:=by
 obtain ⟨fuel,h⟩:=h;obtain ⟨l,h1,h2⟩:=pj (D:=D) (φ:=φ) hT h;refine ⟨l,h1,?_⟩;cases T with
 |b=>
  simp only [lI] at hT;split at hT
  ·rename_i hu;obtain ⟨x,rfl⟩:=h1;obtain ⟨b,hc,_⟩:=DataW.trod_bool hu h;simp only [Value.okWide,hu,Cell.okWide] at hval;cases v<;>simp [Cell.ok,hu] at hval;rw [hc] at h2;obtain ⟨u,m,he,hr,_⟩:=h2.dZ;simp at he;simp [Value.cells] at hc;rw [<-hc] at he;rw [<-he.1] at hr;exact hr
  ·cases hT
 |i k=>
  simp only [lI] at hT;split at hT
  ·rename_i k' hu;obtain ⟨x,rfl,_⟩:=h1;obtain ⟨b,hc,_⟩:=DataW.trod_int hu h;simp only [Value.okWide,hu,Cell.okWide] at hval;cases v<;>simp [Cell.ok,hu] at hval;rw [hc] at h2;obtain ⟨u,m,he,hr,_⟩:=h2.dZ;simp at he;simp [Value.cells] at hc;obtain ⟨rfl,rfl⟩:=hc;rw [<-he.1] at hr;exact hr
  ·cases hT
 |s=>
  simp only [lI] at hT;split at hT
  ·rename_i hu;obtain ⟨x,rfl,_⟩:=h1;obtain ⟨b,hc,_⟩:=DataW.trod_string hu h;simp only [Value.okWide,hu,Cell.okWide] at hval;cases v<;>simp [Cell.ok,hu] at hval;rw [hc] at h2;obtain ⟨u,m,he,hr,_⟩:=h2.dZ;simp at he;simp [Value.cells] at hc;subst hc;rw [<-he.1] at hr;exact hr
  ·cases hT
 |st Ts=>
  simp only [lI] at hT;split at hT
  ·rename_i fs hu;simp only [Value.okWide,hu] at hval;obtain ⟨cs,rfl,_⟩:=hval;have:aI D φ (.agg l) (.agg cs):=by
    have:=aI.uP h2;simpa [Value.cells] using this
   exact this
  ·cases hT
 |ar n T=>
  simp only [lI] at hT;split at hT
  ·rename_i n' e hu;simp only [Value.okWide,hu] at hval;obtain ⟨cs,rfl,_⟩:=hval;have:aI D φ (.agg l) (.agg cs):=by
    have:=aI.uP h2;simpa [Value.cells] using this
   exact this
  ·cases hT
theorem Gm.append {j m k:Nat} {h1 h2:Hp} {D:Nat->Prop} {φ:bU} (h:Gm j m h1 D φ W) (h':Gm m k h2 D φ W) (hjm:j<=m) (hmk:m<=k):Gm j k (h1++h2) D φ W:=⟨fun b x hb=>by
 rw [nM] at hb;cases hg:ab h1 b with
 |some y=>
  rw [hg] at hb;have hb:y=x:=by simpa using hb
  subst hb;obtain ⟨g1,g2,g3⟩:=h.at_ b y hg;exact ⟨g1,by omega,g3⟩
 |none=>
  rw [hg] at hb;obtain ⟨g1,g2,g3⟩:=h'.at_ b x hb;exact ⟨by omega,g2,g3⟩⟩
end
end Go.Ab
namespace Go.Ab
open Go.ChangeShapes Go.WideShapes Go.RowKit
section
variable {H:Type} {enc:TypeId×Value->H} {P:Program} {W:World}
theorem FO.below {h:Hp} {φ:bU} {w w':World} {j m:Nat} {D:Nat->Prop} (hr:Gm j m h D φ w) (hf:FO (ab h) φ w w'):Below w.heap.size w w':=
 ⟨hf.os,hf.tape,hf.output,hf.size,fun k hk=>hf.block k hk (fun b x hb hro=>by rw [(hr.at_ b x hb).2.2.1] at hro;cases hro)⟩
theorem Below.trodAll (hl:laidOutB P=true) {W':World} (hb:Below W.heap.size W W'): ∀{ts:List TypeId} {vs:List Value} {ds:List (DataW H)} {ps:List MemPlace},(ts.all fun t=>P.readableRec t&&decide (t<P.types.size))=true->(∀x∈ps,x.block<W.heap.size)→
 DataW.TrodAll enc P W 0 (fun _=>true) true ts vs ds ps->DataW.TrodAll enc P W' 0 (fun b=>decide (b<W.heap.size)) true ts vs ds ps
 |[],[],[],ps,_,_,h=>h
 |t::ts,v::vs,d::ds,ps,ht,hlt,⟨p,q,h1,h2,e⟩=>by
  simp only [fL,aw,aV] at ht;subst e;exact ⟨p,q,Below.trod hl ht.1.1 ht.1.2 h1 hb (fun x hx=>hlt x (by simp [hx])),Below.trodAll hl hb ht.2 (fun x hx=>hlt x (by simp [hx])) h2,rfl⟩
 |[],_::_,_,_,_,_,h=>h.elim
 |[],[],_::_,_,_,_,h=>h.elim
 |_::_,[],_,_,_,_,h=>h.elim
 |_::_,_::_,[],_,_,_,h=>h.elim
end
end Go.Ab
namespace Go.Ab
open Go.ChangeShapes Go.WideShapes Go.RowKit
def H3 (W:World) (x:Nat×List AV):Prop:= ∃cs elem fr,W.heap[x.1]? =some (.cells cs elem fr)/\ ∀(D:Nat->Prop) (φ:bU) (i:Nat) v,x.2[i]? =some v-> ∃u,cs[i]? =some u/\aI D φ v u
def M8:Nat->List (Nat×List AV)->Hp
 |_,[]=>[]
 |j,(g,c)::r=>(j,{cells:=c,ro:=true,gid:=some g})::M8 (j+1) r
theorem Fg: ∀{Gs:List (Nat×List AV)} {j b:Nat} {k:aW},ab (M8 j Gs) b=some k->j<=b/\b<j+Gs.length/\ ∃g c,Gs[b-j]? =some (g,c)/\k={cells:=c,ro:=true,gid:=some g}
 |[],j,b,k,h=>by simp [M8,ab] at h
 |(g,c)::r,j,b,k,h=>by
  simp only [M8,ab] at h;by_cases hb:b=j
  ·subst hb;simp at h;exact ⟨bx _,by simp,g,c,by simp,h.symm⟩
  ·rw [bz hb] at h;obtain ⟨h1,h2,g',c',h3,h4⟩:=Fg h;refine ⟨by omega,by simp;omega,g',c',?_,h4⟩
   rw [show b-j=(b-(j+1))+1 by omega]
   simpa using h3
section
variable {H:Type} {enc:TypeId×Value->H} {P:Program} {W:World}
end
end Go.Ab
namespace Go.Ab
open Go.ChangeShapes Go.WideShapes Go.RowKit
inductive TyD where
 |f (T:Ty)
 |sl (T:Ty)
 |st (l:List TyD)
mutual
def TyD.size:TyD->Nat
 | .f T=>T.size
 | .sl _=>1
 | .st l=>JK l
def JK:List TyD->Nat
 |[]=>0
 |T::r=>T.size+JK r
end
section
variable {H:Type} {enc:TypeId×Value->H} {P:Program} {W:World} {sp:Nat->Bool} {held:Bool}
def yM (W:World):Nat->Option (Array Value):=fun B=>match W.heap[B]? with
 |some (.cells vs _ _)=>some vs
 |_=>none
theorem lP {W:World} {B:Nat} {vs:Array Value} (h:yM W B=some vs): ∃elem fr,W.heap[B]? =some (.cells vs elem fr):=by
 unfold yM at h;split at h
 ·rename_i hb;cases h;exact ⟨_,_,hb⟩
 ·cases h
end
end Go.Ab
namespace Go.Ab
mutual
def AV.pl:AV->Bool
 | .p _ _=>false
 | .sl _ _ _ _=>false
 | .sg _ _ _=>false
 | .fn _ l=>Te l
 | .bm _ l=>Te l
 | .agg l=>Te l
 | .bg l=>Te l
 | .b _=>true
 | .i _ _=>true
 | .s _=>true
 | .np=>true
 | .ns=>true
 | .nf=>true
 | .ni=>true
 | .fz _ _=>false
 | .fp _ _=>false
 | .ze=>true
 | .en=>true
 | .any=>true
 | .k _ _=>true
 | .m _=>false
 | .nm=>true
 | .yl _ _ _ _=>false
def Te:List AV->Bool
 |[]=>true
 |v::r=>v.pl&&Te r
end
theorem nT: ∀{l:List AV},Te l=true-> ∀v∈l,v.pl=true
 |[],_,v,hv=>by cases hv
 |x::r,h,v,hv=>by
  simp only [Te,aw] at h;rcases jD.1 hv with rfl|hv
  ·exact h.1
  ·exact nT h.2 v hv
theorem aI.pl {D D':Nat->Prop} {φ φ':bU} {v:AV} {u:Value} (h:aI D φ v u):v.pl=true->aI D' φ' v u:=by
 induction h with
 |b x=>intro _;exact .b x
 |i k n=>intro _;exact .i k n
 |s l=>intro _;exact .s l
 |np=>intro _;exact .np
 |p b o h=>intro hp;cases hp
 |ns=>intro _;exact .ns
 |sl b o len cap h=>intro hp;cases hp
 |sg b o len j cap h hj hc hl=>intro hp;cases hp
 |fn f l cs hf hl h ih=>intro hp;exact .fn f l cs hf hl (fun i a u ha hu=>ih i a u ha hu (nT hp a (bR ha)))
 |bm f l cs hf hl h ih=>intro hp;exact .bm f l cs hf hl (fun i a u ha hu=>ih i a u ha hu (nT hp a (bR ha)))
 |nf=>intro _;exact .nf
 |ni=>intro _;exact .ni
 |agg l cs hl h ih=>intro hp;exact .agg l cs hl (fun i a u ha hu=>ih i a u ha hu (nT hp a (bR ha)))
 |bg l cs hl h ih=>intro hp;exact .bg l cs hl (fun i a u ha hu=>ih i a u ha hu (nT hp a (bR ha)))
 |fz l n B o cap vs hB hc hs h ih=>intro hp;cases hp
 |mI l x cap hc=>intro hp;cases hp
 |fp l k B o vs hB hs h ih=>intro hp;cases hp
 |ze x=>intro _;exact .ze x
 |en x cap=>intro _;exact .en x cap
 |any u=>intro _;exact .any u
 |k t u=>intro _;exact .k t u
 |m b h=>intro hp;cases hp
 |nm=>intro _;exact .nm
 |yl L r ts l hL h ih=>intro hp;cases hp
theorem aI.y7 {D D':Nat->Prop} {φ:bU} {v:AV} {u:Value} (h:aI D φ v u):v.al 0=true->aI D' φ v u:=by
 induction h with
 |b x=>intro _;exact .b x
 |i k n=>intro _;exact .i k n
 |s l=>intro _;exact .s l
 |np=>intro _;exact .np
 |p b o h=>intro hp;simp [AV.al,Nat.blt] at hp
 |ns=>intro _;exact .ns
 |sl b o len cap h=>intro hp;simp [AV.al,Nat.blt] at hp
 |sg b o len j cap h hj hc hl=>intro hp;simp [AV.al,Nat.blt] at hp
 |fn f l cs hf hl h ih=>intro hp;exact .fn f l cs hf hl (fun i a u ha hu=>ih i a u ha hu (cX hp a (bR ha)))
 |bm f l cs hf hl h ih=>intro hp;exact .bm f l cs hf hl (fun i a u ha hu=>ih i a u ha hu (cX hp a (bR ha)))
 |nf=>intro _;exact .nf
 |ni=>intro _;exact .ni
 |agg l cs hl h ih=>intro hp;exact .agg l cs hl (fun i a u ha hu=>ih i a u ha hu (cX hp a (bR ha)))
 |bg l cs hl h ih=>intro hp;exact .bg l cs hl (fun i a u ha hu=>ih i a u ha hu (cX hp a (bR ha)))
 |fz l n B o cap vs hB hc hs h ih=>intro hp;exact .fz l n B o cap vs hB hc hs (fun i a u ha hu=>ih i a u ha hu (cX hp a (bR ha)))
 |mI l x cap hc=>intro _;exact .mI l x cap hc
 |fp l k B o vs hB hs h ih=>intro hp;exact .fp l k B o vs hB hs (fun i a u ha hu=>ih i a u ha hu (cX hp a (bR ha)))
 |ze x=>intro _;exact .ze x
 |en x cap=>intro _;exact .en x cap
 |any u=>intro _;exact .any u
 |k t u=>intro _;exact .k t u
 |m b h=>intro hp;simp [AV.al,Nat.blt] at hp
 |nm=>intro _;exact .nm
 |yl L r ts l hL h ih=>intro hp;exact .yl L r ts l hL (fun i t a ht ha=>ih i t a ht ha (cX hp a (bR ha)))
noncomputable def bU.nJ (φ:bU) (H:Hf) (w:World):bU:={φ with fz:=fun B=>open Classical in if (∃b k,H b=some k/\φ.cW b=B) then yM w B else φ.fz B}
theorem HR.Qe {D:Nat->Prop} {φ:bU} {H:Hf} {w:World} (hH:HR D φ H w) {B:Nat} {vs:Array Value} (hB:φ.fz B=some vs):yM w B=some vs:=by
 obtain ⟨elem,fr,h⟩:=hH.fz B vs hB;simp [yM,h]
theorem bU.gD {D:Nat->Prop} {φ:bU} {H:Hf} {w:World} (hH:HR D φ H w) (D':Nat->Prop):dh D' φ (φ.nJ H w):=⟨fun b _=>⟨rfl,rfl,rfl,rfl⟩,fun B vs hB=>by
 simp only [bU.nJ];split
 ·exact hH.Qe hB
 ·exact hB,rfl⟩
theorem bU.DM {D:Nat->Prop} {φ:bU} {H:Hf} {w:World} {b:Nat} {k:aW} (hb:H b=some k):(φ.nJ H w).fz (φ.cW b)=yM w (φ.cW b):=by
 simp only [bU.nJ];exact aM ⟨b,k,hb,rfl⟩
def wH {α:Type} (h:Hp) (z:Nat) (x:AV) (k:List Nat->Nat->List AV->Bool->Option α):Option α:=match x with
 | .ns=>k [] 0 [] true
 | .ze=>k [] 0 [] true
 | .fz l m=>k [] m (aA l 0 (m*z)) (decide ((aA l 0 (m*z)).length=m*z))
 | .sl b o m c=>(iO h b).bind fun q=>k [b] m (aA q.cells o (m*z)) (decide ((aA q.cells o (m*z)).length=m*z)&&decide (m<=c))
 | .sg b o m=>(iO h b).bind fun q=>k [b] m (aA q.cells o (m*z)) (decide ((aA q.cells o (m*z)).length=m*z))
 |_=>none
section
variable {α:Type} {h:Hp} {z:Nat} {k:List Nat->Nat->List AV->Bool->Option α}
theorem al8:wH h z .ns k=k [] 0 [] true:=(rfl)
theorem ajU:wH h z .ze k=k [] 0 [] true:=(rfl)
theorem wY {l:List AV} {m:Nat}:wH h z (.fz l m) k=k [] m (aA l 0 (m*z)) (decide ((aA l 0 (m*z)).length=m*z)):=(rfl)
theorem eM {b o m c:Nat}:wH h z (.sl b o m c) k=((ab h b).bind aW.DH).bind fun q=>k [b] m (aA q.cells o (m*z)) (decide ((aA q.cells o (m*z)).length=m*z)&&decide (m<=c)):=(rfl)
end
theorem aI.view {D D':Nat->Prop} {φ:bU} {h:Hp} {w:World} {z:Nat} {x:AV} {u:Value} {rd:List Nat} {m:Nat} {cs:List AV} (hH:HR D φ (only (ab h) rd) w) (hx:aI D φ x u)
 (hv:wH h z x (fun rd m cs ok=>some (rd,m,cs,ok))=some (rd,m,cs,true)) (hcs:ae 0 cs=true):aI D' (φ.nJ (only (ab h) rd) w) (.fz cs m) u:=by
 have cell: ∀b k o,only (ab h) rd b=some k->k.mp=none->cs=aA k.cells o (m*z)-> ∃vs,(φ.nJ (only (ab h) rd) w).fz (φ.cW b)=some vs/\(∀i,i<cs.length->φ.off b+o+i<vs.size)∧
  ∀(i:Nat) (a:AV) (u:Value),cs[i]? =some a->vs[φ.off b+o+i]? =some u->aI D' (φ.nJ (only (ab h) rd) w) a u:=fun b k o hb hm hc=>by
  obtain ⟨_,⟨⟨vs,elem,fr,h1,h2,_⟩,_⟩⟩:=hH.at_ b k hb;have h1:=h1.cells hm;have get: ∀(i:Nat) (a:AV),cs[i]? =some a-> ∃u,vs[φ.off b+o+i]? =some u/\aI D φ a u:=fun i a ha=>by
   rw [hc] at ha;simp only [aA,jA,iq] at ha;split at ha
   ·obtain ⟨u,hu,hr⟩:=h2 _ a ha;exact ⟨u,by rw [im];exact hu,hr⟩
   ·cases ha
  refine ⟨vs,by rw [bU.DM (D:=D) hb];simp [yM,h1],fun i hi=> ?_,fun i a u ha hu=> ?_⟩
  ·obtain ⟨u,hu,_⟩:=get i _ (aY hi);rcases dw (φ.off b+o+i) vs.size with h'|h'
   ·exact h'
   ·rw [gw h'] at hu;cases hu
  ·obtain ⟨u',hu',hr⟩:=get i a ha;rw [hu] at hu';cases hu';exact (hr.mono (D':=D) (fun _ h=>h) (bU.gD hH D)).y7 (cX hcs a (bR ha))
 cases hx with
 |ns=>simp only [al8,aP,bq] at hv;obtain ⟨_,rfl,_⟩:=hv;exact .mI _ _ _ (fun _=>rfl)
 |ze x=>simp only [ajU,aP,bq] at hv;obtain ⟨_,rfl,_⟩:=hv;exact .mI _ _ _ (fun _=>rfl)
 |mI l x cap hc0=>simp only [wY,aP,bq] at hv;obtain ⟨_,rfl,_⟩:=hv;exact .mI _ _ _ hc0
 |fz l n B o cap vs hB hc hs h=>
  simp only [wY,aP,bq] at hv;obtain ⟨_,rfl,rfl,_⟩:=hv;have ag:=bU.gD hH D;refine .fz _ _ B o cap vs (ag.fz _ _ hB) hc (fun i hi=> ?_) (fun i a u ha hu=> ?_)
  ·simp [aA] at hi;exact hs i (by omega)
  ·have hb:=cX hcs a (bR ha);simp only [aA,fy,jA] at ha;split at ha
   ·exact ((h i a u ha hu).mono (D':=D) (fun _ h=>h) ag).y7 hb
   ·cases ha
 |sl b o len cap hD=>
  simp only [wH,af,aP,bq,aw,aV] at hv;obtain ⟨k,hk,rfl,rfl,rfl,_,hc⟩:=hv;obtain ⟨hk,hmp⟩:=dO hk;obtain ⟨vs,g1,g2,g3⟩:=cell b k o (by rw [ec (by simp [inl])];exact hk) hmp rfl
  exact .fz _ _ _ _ _ vs g1 hc g2 g3
 |sg b o len j cap hD hj hc hl=>
  simp only [wH,af,aP,bq,aV] at hv;obtain ⟨k,hk,rfl,rfl,rfl,_⟩:=hv;obtain ⟨hk,hmp⟩:=dO hk;obtain ⟨vs,g1,g2,g3⟩:=cell b k o (by rw [ec (by simp [inl])];exact hk) hmp rfl
  exact .fz _ _ _ _ _ vs g1 hl g2 g3
 |b x=>cases hv
 |i k n=>cases hv
 |s l=>cases hv
 |np=>cases hv
 |p b o h=>cases hv
 |fn f l cs hf hl h=>cases hv
 |bm f l cs hf hl h=>cases hv
 |yl L r ts l hL h=>cases hv
 |nf=>cases hv
 |ni=>cases hv
 |agg l cs hl h=>cases hv
 |bg l cs hl h=>cases hv
 |fp l k B o vs hB hs h=>cases hv
 |en x cap=>cases hv
 |any u=>cases hv
 |k t v=>cases hv
 |m b h=>cases hv
 |nm=>cases hv
theorem ax.view {P:Program} {f:FuncId} {pre post:List AV} {x:AV} {h:Hp} {n z:Nat} {rd:List Nat} {m:Nat} {cs:List AV} {v:AV} (hc:Go.Ab.bJ P f=true)
 (hv:wH h z x (fun rd m cs ok=>some (rd,m,cs,ok))=some (rd,m,cs,true)) (hcs:ae 0 cs=true) (hpre:ae 0 pre=true) (hpost:ae 0 post=true) (hpl:v.pl=true)
 (hf:bt P f (pre++ .fz cs m::post) [] 0 v [] 0):ax P f (pre++x::post) h n {v,n,rd}:=by
 refine ⟨hc,bx _,fun b r hb=>by simp [dH] at hb,fun b kk hb=>by simp [ab] at hb,fun D φ w us hfresh hH hA=> ?_⟩
 let φ1:=φ.nJ (only (ab h) rd) w;have ag:=bU.gD hH D;have hH1:HR (fun _=>False) φ1 (ab []) w:=⟨⟨fun b k hb=>by simp [ab] at hb,fun b1 b2 k1 k2 _ hb=>by simp [ab] at hb⟩,fun B vs hB=>by
  simp only [φ1,bU.nJ] at hB;split at hB
  ·exact lP hB
  ·exact hH.fz B vs hB,hH.lp,fun b k B vs hb=>by simp [ab] at hb⟩
 have plain: ∀l:List AV,ae 0 l=true-> ∀us:List Value,cJ D φ l us->cJ (fun _=>False) φ1 l us:=fun l hl us hA=>
  ⟨hA.1,fun i a u ha hu=>((hA.2 i a u ha hu).mono (D':=D) (fun _ h=>h) ag).y7 (cX hl a (bR ha))⟩
 have hA1:cJ (fun _=>False) φ1 (pre++ .fz cs m::post) us:=by
  have e1:=hA.take pre.length;have e2:=hA.drop pre.length;simp only [List.take_left,List.drop_left] at e1 e2;obtain ⟨u,us',he,h1,h2⟩:=e2.dZ;have e3:=(plain pre hpre _ e1).append (cJ.cons (aI.view hH h1 hv hcs) (plain post hpost _ h2));rw [<-he,kQ] at e3;exact e3
 refine (hf (fun _=>False) φ1 w us (fun _ h=>h.elim) hH1 hA1).mono fun e w' hx=> ?_;obtain ⟨D',φ',u,rfl,hD',hr,hS⟩:=hx;have hd: ∀b,D b->Dn D n n b:=fun b h=> .inl h;have e:(bX.app {v,n,rd} (only (ab h) rd))=only (ab h) rd:=by funext b;rfl
 have hst: ∀c,c<w.heap.size->w'.heap[c]? =w.heap[c]? :=fun c hc=>hS.eC.block c hc (fun b k hb=>by simp [ab] at hb)
 refine ⟨u,φ,rfl,hr.pl hpl,?_,fun c kk hc _=>by rw [e] at hc;exact hc⟩
 show dR D φ _ w (Dn D n n) φ (bX.app _ _) w';rw [e];exact dR.mk' hH rfl rfl hd (dh.refl D φ).at_ ⟨fun b k hb=>⟨hd b (hH.at_ b k hb).1,(hH.at_ b k hb).2.mono hd (dh.refl _ _) (hH.at_ b k hb).1 (hst _ (hH.at_ b k hb).2.lt)⟩,hH.sep⟩
  ⟨hS.eC.os,hS.eC.tape,hS.eC.output,hS.eC.size,fun c hc _=>hst c hc⟩ (fun b k hb hk=> .inr ⟨b,k,hb,hk,rfl⟩)
end Go.Ab
namespace Go.Ab
open Go.ChangeShapes Go.WideShapes Go.RowKit
inductive wA where
 |f (T:Ty)
 |sl (E:wA)
 |st (l:List wA)
 |an (n:Nat) (E:wA)
mutual
def wA.size:wA->Nat
 | .f T=>T.size
 | .sl _=>1
 | .st l=>s5 l
 | .an n E=>n*E.size
def s5:List wA->Nat
 |[]=>0
 |T::r=>T.size+s5 r
end
mutual
def iY (P:Program):wA->TypeId->Bool
 | .f T,t=>lI P T t
 | .sl E,t=>match P.underlying t with|some (.slice e)=>iY P E e&&Nat.beq (P.cellsOf t) 1&&Nat.blt 0 E.size|_=>false
 | .st Ts,t=>match P.underlying t with|some (.struct fs)=>sO P Ts fs.toList 0&&Nat.beq (P.cellsOf t) (s5 Ts)|_=>false
 | .an n E,t=>match P.underlying t with|some (.array n' e)=>Nat.beq n' n&&iY P E e&&Nat.beq (P.cellsOf t) (n*E.size)|_=>false
def sO (P:Program):List wA->List Field->Nat->Bool
 |[],[],_=>true
 |T::Ts,f::fs,o=>Nat.beq f.offset o&&iY P T f.type&&sO P Ts fs (o+T.size)
 |_,_,_=>false
end
mutual
def xa:wA->List AV->Prop
 | .f T,l=>Flat T l
 | .sl E,l=> ∃ls:List (List AV),(∀x∈ls,xa E x)/\ls.length<=maxLen/\l=[.fz ls.flatten ls.length]
 | .st Ts,l=>HJ Ts l
 | .an n E,l=> ∃ls:List (List AV),ls.length=n/\(∀x∈ls,xa E x)/\l=ls.flatten
def HJ:List wA->List AV->Prop
 |[],l=>l=[]
 |T::Ts,l=> ∃a r,l=a++r/\xa T a/\HJ Ts r
end
def CQ (T:wA) (l:List AV):AV:=
 match T with
 | .f T=>mkArg T l
 | .sl _=>l.headD .np
 | .st _=> .agg l
 | .an _ _=> .agg l
def BJ:List wA->List AV->Prop
 |[],vs=>vs=[]
 |T::Ts,vs=> ∃l vs',vs=CQ T l::vs'/\xa T l/\BJ Ts vs'
def vH (P:Program):List wA->List TypeId->Bool
 |[],[]=>true
 |T::Ts,t::ts=>iY P T t&&vH P Ts ts
 |_,_=>false
section
variable {H:Type} {enc:TypeId×Value->H} {P:Program} {W:World} {sp:Nat->Bool} {held:Bool}
theorem oU: ∀{T:wA} {t:TypeId},iY P T t=true->P.cellsOf t=T.size
 | .f T,t,h=>qx (T:=T) (by simpa only [iY] using h)
 | .sl T,t,h=>by
  simp only [iY] at h;split at h
  ·simp only [aw] at h;exact dC h.1.2
  ·cases h
 | .st Ts,t,h=>by
  simp only [iY] at h;split at h
  ·simp only [aw] at h;exact dC h.2
  ·cases h
 | .an n E,t,h=>by
  simp only [iY] at h;split at h
  ·simp only [aw] at h;exact dC h.2
  ·cases h
theorem AY {a:Addr} {v:Value} (h:W.cell? a=some v):a.spot=none/\ ∃vs,yM W a.block=some vs/\vs[a.off]? =some v:=by
 unfold World.cell? at h;split at h
 ·rename_i c e f hb;split at h
  ·cases h
  ·rename_i hs;exact ⟨by simpa using hs,c,by simp [yM,hb],h⟩
 ·cases h
theorem vj (a:Addr) (n:Nat) (h:a.spot=none):a.add n=⟨a.block,a.off+n,none⟩:=by
 unfold Addr.add;split
 ·rename_i hn;subst hn;cases a;simp_all
 ·rfl
theorem Bh {E:wA} {t e:TypeId} {fuel:Nat} {cs:List Value} {x:DataW H×List MemPlace} (hu:P.underlying t=some (.slice e)) (hT:P.cellsOf e=E.size) (h0:0<E.size)
 (one: ∀{fuel:Nat} {cs:List Value} {x:DataW H×List MemPlace},DataW.trod enc P W 0 (fun _=>true) held fuel e cs=some x-> ∃l,xa E l/\ ∀(D:Nat->Prop) (φ:bU),φ.fz=yM W->cJ D φ l cs)
 (h:DataW.trod enc P W 0 (fun _=>true) held fuel t cs=some x): ∃l,xa (.sl E) l/\ ∀(D:Nat->Prop) (φ:bU),φ.fz=yM W->cJ D φ l cs:=by
 rcases DataW.trod_slice hu h with ⟨hc,_⟩|⟨a,l',c,elems,rest,n,_,hc,_,hb,hl,hm,hlen,hel,_⟩
 ·subst hc;exact ⟨[.fz [] 0],⟨[],(fun x hx=>by cases hx),by simp [maxLen],rfl⟩,fun D φ _=> .cons (.mI _ _ _ (fun _=>rfl)) .nil⟩
 ·subst hc;have key: ∀m',m'<=l'-> ∃ls:List (List AV),ls.length=m'/\(∀x∈ls,xa E x)/\ ∃us:List Value,us.length=m'*E.size/\(∀(D:Nat->Prop) (φ:bU),φ.fz=yM W->cJ D φ ls.flatten us)/\ ∀i,i<m'*E.size->(a.spot=none->W.cell? ⟨a.block,a.off+i,none⟩=us[i]?):=by
   intro m';induction m' with
   |zero=>intro _;exact ⟨[],rfl,(fun x hx=>by cases hx),[],by simp,(fun D φ _=>by simpa using cJ.nil),fun i hi=>by simp at hi⟩
   |succ m' ih=>
    intro hm';obtain ⟨ls,h1,h2,us,h3,h4,h5⟩:=ih (by omega)
    have hy:=hel m' (by omega)
    rw [aY (by omega),af,hT] at hy
    obtain ⟨cs,hcs,hy⟩:=hy;obtain ⟨_,g1,g2⟩:=World.cells?_some hcs;obtain ⟨l,f1,f2⟩:=one hy;refine ⟨ls++[l],by simp [h1],fun x hx=> ?_,us++cs,by simp [h3,g1,dF],fun D φ hφ=> ?_,fun i hi hspot=> ?_⟩
    ·rcases vJ.1 hx with hx|hx
     ·exact h2 x hx
     ·simp at hx;subst hx;exact f1
    ·simpa using (h4 D φ hφ).append (f2 D φ hφ)
    ·by_cases hlt:i<m'*E.size
     ·rw [qL (by omega)];exact h5 i hlt hspot
     ·rw [dF,sv] at hi;rw [v8 (by omega),h3]
      have:=g2 (i-m'*E.size) (by omega)
      rw [<-this];congr 1;have hs2:(a.add (m'*E.size)).spot=none:=by rw [vj a _ hspot]
      rw [vj _ _ hs2,vj a _ hspot];simp only [Addr.mk.injEq,dr,nq];omega
  obtain ⟨ls,h1,h2,us,h3,h4,h5⟩:=key l' (bx _);refine ⟨[.fz ls.flatten ls.length],⟨ls,h2,by omega,rfl⟩,fun D φ hφ=> .cons ?_ .nil⟩
  by_cases hz:l'=0
  ·rw [h1,hz];exact .mI _ _ _ (fun h=>by cases h)
  · -- the first cell shows where the row lies
    have hy:=hel 0 (by omega)
    rw [aY (by omega),af,hT,Nat.zero_mul] at hy
    obtain ⟨cs,hcs,_⟩:=hy;obtain ⟨_,g1,g2⟩:=World.cells?_some hcs;have g3:=g2 0 h0;rw [aY (by omega)] at g3
    have ha0:(a.add 0).add 0=a:=by simp [Addr.add]
    rw [ha0] at g3;obtain ⟨hs,vs,hvs,_⟩:=AY g3;have hA:=h4 D φ hφ;have cellv: ∀i,i<us.length->vs[a.off+i]? =us[i]? :=fun i hi=>by
     have:=h5 i (by omega) hs
     rw [aY hi] at this ⊢;obtain ⟨_,vs',q1,q2⟩:=AY this;rw [hvs] at q1;cases q1;exact q2
    have ha:a=⟨a.block,a.off,none⟩:=by cases a;simp_all
    rw [ha,h1];refine .fz _ _ a.block a.off c vs (by rw [hφ];exact hvs) hl (fun i hi=> ?_) (fun i v u hv' hu'=> ?_)
    ·have hi':i<us.length:=by rw [<-hA.1];exact hi
     have:=cellv i hi';rw [aY hi'] at this;rcases dw (a.off+i) vs.size with h'|h'
     ·exact h'
     ·rw [gw h'] at this;cases this
    ·obtain ⟨u',q1,q2⟩:=hA.get hv';have hi':i<us.length:=(eK.1 q1).1;have:=cellv i hi';rw [hu',q1] at this;cases this;exact q2
mutual
theorem tv: ∀{T:wA} {t:TypeId} {fuel:Nat} {cs:List Value} {x:DataW H×List MemPlace},iY P T t=true->DataW.trod enc P W 0 (fun _=>true) held fuel t cs=some x→
 ∃l,xa T l/\ ∀(D:Nat->Prop) (φ:bU),φ.fz=yM W->cJ D φ l cs
 | .f T,t,fuel,cs,x,hT,h=>by
  simp only [iY] at hT;obtain ⟨l,f1,f2⟩:=pj (D:=fun _=>False) (φ:=⟨fun _=>0,fun _=>0,fun _=>0,fun _=>0,fun _=>none,fun _=>none⟩) hT h;exact ⟨l,f1,fun D φ _=>⟨f2.1,fun i x u hx hu=>(f2.2 i x u hx hu).tQ (fun b hb=>hb.elim) (fun b hb=>hb.elim) (fun _ _ h=>by cases h) (fun _ _ h=>by cases h)⟩⟩
 | .sl E,t,fuel,cs,x,hT,h=>by
  simp only [iY] at hT;split at hT
  ·rename_i e hu;simp only [aw] at hT;have hb:Nat.blt 0 E.size=true:=hT.2;rw [Nat.blt_eq] at hb;exact Bh hu (oU hT.1.1) hb (fun h=>tv hT.1.1 h) h
  ·cases hT
 | .st Ts,t,fuel,cs,x,hT,h=>by
  simp only [iY] at hT;split at hT
  ·rename_i fs hu;simp only [aw] at hT;obtain ⟨xs,n,_,_,hl,hxl,hall⟩:=DataW.trod_struct hu h;rw [dC hT.2] at hl;obtain ⟨l,h1,h2⟩:=Fa (fuel:=n) (cs:=cs) hT.1 (by omega) (fun f hf=>by
    obtain ⟨i,hi⟩:=vT hf;have h1:=hall i f (by simpa using hi)
    have hlt:i<fs.size:=by
     have:=(eK.1 hi).1;simpa using this
    rw [h1];exact ⟨xs[i],by simp [hxl,hlt]⟩)
   exact ⟨l,h1,by simpa only [fy] using h2⟩
  ·cases hT
 | .an n E,t,fuel,cs,x,hT,h=>by
  simp only [iY] at hT;split at hT
  ·rename_i n' e hu;simp only [aw] at hT;obtain ⟨⟨hn,hT1⟩,hT2⟩:=hT;have hn:=dC hn;subst hn;obtain ⟨m,hl,hall⟩:=wL hu h;rw [dC hT2] at hl;have hsz:=oU hT1;have key: ∀m',m'<=n'-> ∃ls:List (List AV),ls.length=m'/\(∀x∈ls,xa E x)/\ ∀(D:Nat->Prop) (φ:bU),φ.fz=yM W->cJ D φ ls.flatten (cs.take (m'*E.size)):=by
    intro m';induction m' with
    |zero=>intro _;exact ⟨[],rfl,(fun x hx=>by cases hx),fun D φ _=>by simpa using cJ.nil⟩
    |succ m' ih=>
     intro hm;obtain ⟨ls,h1,h2,h3⟩:=ih (by omega)
     obtain ⟨y,hy⟩:=hall m' (by omega)
     rw [hsz] at hy;obtain ⟨l,g1,g2⟩:=tv hT1 hy;refine ⟨ls++[l],by simp [h1],fun x hx=> ?_,fun D φ hφ=> ?_⟩
     ·rcases vJ.1 hx with hx|hx
      ·exact h2 x hx
      ·simp at hx;subst hx;exact g1
     ·have:cs.take ((m'+1)*E.size)=cs.take (m'*E.size)++(cs.drop (m'*E.size)).take E.size:=by
       rw [dF,sv,List.take_add]
      rw [this];simpa using (h3 D φ hφ).append (g2 D φ hφ)
   obtain ⟨ls,h1,h2,h3⟩:=key n' (bx _);refine ⟨ls.flatten,⟨ls,h1,h2,rfl⟩,fun D φ hφ=> ?_⟩;have:=h3 D φ hφ;rwa [h9 (by omega)] at this
  ·cases hT
theorem Fa: ∀{Ts:List wA} {fs:List Field} {o:Nat} {fuel:Nat} {cs:List Value},sO P Ts fs o=true->cs.length=o+s5 Ts->(∀f∈fs,∃y,DataW.trod enc P W 0 (fun _=>true) held fuel f.type ((cs.drop f.offset).take (P.cellsOf f.type))=some y)→
 ∃l,HJ Ts l/\ ∀(D:Nat->Prop) (φ:bU),φ.fz=yM W->cJ D φ l (cs.drop o)
 |[],[],o,fuel,cs,_,hl,_=>⟨[],rfl,fun D φ _=>by
  rw [rN (by simp only [s5] at hl;omega)];exact .nil⟩
 |[],_::_,o,fuel,cs,h,_,_=>by simp [sO] at h
 |_::_,[],o,fuel,cs,h,_,_=>by simp [sO] at h
 |T::Ts,f::fs,o,fuel,cs,h,hl,hall=>by
  simp only [sO,aw] at h;obtain ⟨⟨ho,hT⟩,hr⟩:=h;have ho:=dC ho;obtain ⟨y,hy⟩:=hall f ja;rw [ho,oU hT] at hy;obtain ⟨a,g1,g2⟩:=tv hT hy;simp only [s5] at hl;obtain ⟨r,g3,g4⟩:=Fa (cs:=cs) hr (by omega) (fun f hf=>hall f (iZ _ hf))
  refine ⟨a++r,⟨a,r,rfl,g1,g3⟩,fun D φ hφ=> ?_⟩;have hA:=(g2 D φ hφ).append (g4 D φ hφ);rwa [<-qp,kQ] at hA
end
theorem akt {T:wA} {t:TypeId} {r:Reach} {base:Nat} {v:Value} {d:DataW H} {ps:List MemPlace} (hT:iY P T t=true) (hval:Value.okWide P W r base t v)
 (h:DataW.Trod enc P W 0 (fun _=>true) held t v d ps): ∃l,xa T l/\ ∀(D:Nat->Prop) (φ:bU),φ.fz=yM W->aI D φ (CQ T l) v:=by
 match T with
 | .f T=>
  simp only [iY] at hT;obtain ⟨l,f1,f2⟩:=Gv (D:=fun _=>False) (φ:=⟨fun _=>0,fun _=>0,fun _=>0,fun _=>0,fun _=>none,fun _=>none⟩) hT hval h;exact ⟨l,f1,fun D φ _=>f2.tQ (fun b hb=>hb.elim) (fun b hb=>hb.elim) (fun _ _ h=>by cases h) (fun _ _ h=>by cases h)⟩
 | .sl E=>
  have hT0:=hT;obtain ⟨fuel,h⟩:=h;simp only [iY] at hT;split at hT
  ·rename_i e hu;simp only [Value.okWide,hu] at hval;have hcs:v.cells.toList=[v]:=by
    simp only [Cell.okWide,hu] at hval;cases v<;>simp [Cell.ok,hu] at hval<;>rfl
   rw [hcs] at h;obtain ⟨l,g1,g2⟩:=tv hT0 h;refine ⟨l,g1,fun D φ hφ=> ?_⟩;have k1:=g2 D φ hφ;obtain ⟨ls,_,_,rfl⟩:=g1;obtain ⟨u,m,he,hr,_⟩:=k1.dZ;simp at he;rw [<-he.1] at hr;exact hr
  ·cases hT
 | .st Ts=>
  have hT':=hT;simp only [iY] at hT';split at hT'
  ·rename_i fs hu;simp only [Value.okWide,hu] at hval;obtain ⟨cs,rfl,_,ts,_,_,hrow⟩:=hval;obtain ⟨fuel,h⟩:=h;simp only [Value.cells] at h;obtain ⟨l,g1,g2⟩:=tv hT h;refine ⟨l,g1,fun D φ hφ=> ?_⟩;have:aI D φ (.agg l) (.agg cs):=by
    have:=aI.uP (g2 D φ hφ);simpa using this
   exact this
  ·cases hT'
 | .an n E=>
  have hT':=hT;simp only [iY] at hT';split at hT'
  ·rename_i n' e hu;simp only [Value.okWide,hu] at hval;obtain ⟨cs,rfl,_⟩:=hval;obtain ⟨fuel,h⟩:=h;simp only [Value.cells] at h;obtain ⟨l,g1,g2⟩:=tv hT h;refine ⟨l,g1,fun D φ hφ=> ?_⟩;have:aI D φ (.agg l) (.agg cs):=by
    have:=aI.uP (g2 D φ hφ);simpa using this
   exact this
  ·cases hT'
theorem wi {r:Reach} {base:Nat}: ∀{Ts:List wA} {ts:List TypeId} {vs:List Value} {ds:List (DataW H)} {ps:List MemPlace},vH P Ts ts=true->(∀(i:Nat) t v,ts[i]? =some t->vs[i]? =some v->Value.okWide P W r base t v)→
 DataW.TrodAll enc P W 0 (fun _=>true) held ts vs ds ps-> ∃avs,BJ Ts avs/\ ∀(D:Nat->Prop) (φ:bU),φ.fz=yM W->cJ D φ avs vs
 |[],[],vs,ds,ps,_,_,h=>by
  cases vs with
  |nil=>exact ⟨[],rfl,fun D φ _=> .nil⟩
  |cons v vs=>cases ds<;>exact h.elim
 |T::Ts,t::ts,vs,ds,ps,hT,hv,h=>by
  simp only [vH,aw] at hT
  match vs,ds,h with
  |v::vs,d::ds,⟨p,q,h1,h2,_⟩=>
   obtain ⟨avs,g1,g2⟩:=wi hT.2 (fun i t v ht hv'=>hv (i+1) t v (by simpa using ht) (by simpa using hv')) h2
   obtain ⟨l,k1,k2⟩:=akt hT.1 (hv 0 t v rfl rfl) h1;exact ⟨CQ T l::avs,⟨l,avs,rfl,k1,g1⟩,fun D φ hφ=> .cons (k2 D φ hφ) (g2 D φ hφ)⟩
 |[],_::_,vs,ds,ps,hT,_,h=>by simp [vH] at hT
 |_::_,[],vs,ds,ps,hT,_,h=>by simp [vH] at hT
theorem C7 {f:FuncId} {Ts:List wA} {ts:List TypeId} {args:Array Value} {ds:List (DataW H)} {ps:List MemPlace} {r:Reach} {base n':Nat} {h':Hp} {v:Bool} (Gs:List (Nat×List AV)) (hG: ∀x∈Gs,H3 W x) (hT:vH P Ts ts=true)
 (hv: ∀(i:Nat) t v,ts[i]? =some t->args.toList[i]? =some v->Value.okWide P W r base t v) (h:DataW.TrodAll enc P W 0 (fun _=>true) true ts args.toList ds ps)
 (core: ∀avs,BJ Ts avs->bt P f avs (M8 0 Gs) Gs.length (.b v) h' n') (hy:f≠YB:=by decide) (he:ext P f=false:=by kernel_rfl):Calls P f args W fun e W'=>e= .returned (.bool v)/\Below W.heap.size W W':=by
 obtain ⟨avs,g1,g2⟩:=wi hT hv h;let φ:bU:=⟨fun b=>((Gs[b]?).map (·.1)).getD 0,fun b=>0,fun _=>0,fun _=>0,yM W,fun _=>none⟩;have k1:=g2 (fun b=>b<Gs.length) φ rfl;have k4:Gm 0 Gs.length (M8 0 Gs) (fun b=>b<Gs.length) φ W:=⟨fun b k hb=>by
  obtain ⟨q1,q2,g,c,q3,rfl⟩:=Fg hb;obtain ⟨cs,elem,fr,q4,q5⟩:=hG (g,c) (bR q3);have hblk:φ.cW b=g:=by simp only [C1] at q3;simp [φ,q3]
  refine ⟨q1,by omega,rfl,by simpa using q2,⟨⟨cs,elem,fr,by rw [hblk];exact q4,fun i v hi=> ?_,fun hr=>(by cases hr),fun e he=>(by cases he)⟩,fun g' hg'=> ?_⟩⟩
  ·obtain ⟨u,h1,h2⟩:=q5 (fun b=>b<Gs.length) φ i v hi;exact ⟨u,by show cs[0+i]? =_;rw [gv];exact h1,h2⟩
  ·simp only [aP] at hg';subst hg';exact ⟨hblk,rfl⟩⟩
 have hH:HR (fun b=>b<Gs.length) φ (ab (M8 0 Gs)) W:=
  ⟨⟨fun b k hb=>⟨(k4.at_ b k hb).2.2.2.1,(k4.at_ b k hb).2.2.2.2⟩,fun b1 b2 x1 x2 _ hb1 _ hro=>by rw [(k4.at_ b1 x1 hb1).2.2.1] at hro;cases hro⟩,(fun B vs h=>lP h),(fun L r h=>by cases h),(fun b k B vs hb hro _=>by rw [(k4.at_ b k hb).2.2.1] at hro;cases hro)⟩
 have:=core avs g1 (fun b=>b<Gs.length) φ W args.toList (fun b hb=>hb) hH k1;simp only [Array.toArray_toList] at this;refine (this.calls hy he).mono fun e w' hx=> ?_;obtain ⟨D',φ',u,rfl,_,hr,hS⟩:=hx;cases hr;exact ⟨rfl,FO.below k4 hS.eC⟩
theorem GM {f:FuncId} {fn:Func} {s:ChangeSpec} {Ts:List wA} {args:Array Value} {ds gs:List (DataW H)} {before:List MemPlace} {r:Reach} {base n':Nat} {h':Hp} {tb:TypeId} {fresh handsOn:Bool} (Gs:List (Nat×List AV)) (hG: ∀x∈Gs,H3 W x)
 (hT:vH P Ts fn.params.toList=true) (hl:laidOutB P=true) (hread:(fn.params.toList.all fun t=>P.readableRec t&&decide (t<P.types.size))=true) (hres:fn.resultTypes= #[tb]) (htb:P.underlying tb=some .bool) (hvars:s.vars=[])
 (hspec: ∀(l:List (DataW H)),l.length=Ts.length->s.fn H l={results:=[.lit (.bool true)],args:=l})
 (hv: ∀(j:Nat) t v,fn.params[j]? =some t->args[j]? =some v->Value.okWide P W r base t v) (hW:DataW.Whole enc P fn.params.toList s.vars false W args.toList ds gs before)
 (core: ∀avs,BJ Ts avs->bt P f avs (M8 0 Gs) Gs.length (.b true) h' n') (hy:f≠YB:=by decide) (he:ext P f=false:=by kernel_rfl):Calls P f args W fun e W'=> ∃v,e= .returned v/\s.post enc P fn false fresh handsOn false W args v W':=by
 have hW':=hW;have hlt:=hW.lt;obtain ⟨p,q,hA,hV,rfl,hfz,hnd⟩:=hW;rw [hvars] at hV;obtain ⟨rfl,rfl⟩:=trodVars_none hV;refine (C7 Gs hG hT (fun i t v ht hv'=>hv i t v (by simpa using ht) (by simpa using hv')) hA core hy he).mono fun e W' hx=> ?_
 obtain ⟨rfl,hB⟩:=hx;have hlen:ds.length=Ts.length:=by
  have h1: ∀{ts:List TypeId} {vs:List Value} {ds:List (DataW H)} {ps:List MemPlace},DataW.TrodAll enc P W 0 (fun _=>true) true ts vs ds ps->ds.length=ts.length:=by
   intro ts;induction ts with
   |nil=>intro vs ds ps h;obtain ⟨_,rfl,_⟩:=trodAll_nil h;rfl
   |cons t ts ih=>intro vs ds ps h;obtain ⟨_,_,_,_,_,_,_,rfl,_,_,h2⟩:=trodAll_cons h;simp [ih h2]
  have h2: ∀{Ts:List wA} {ts:List TypeId},vH P Ts ts=true->Ts.length=ts.length:=by
   intro Ts;induction Ts with
   |nil=>intro ts h;cases ts with
    |nil=>rfl
    |cons=>simp [vH] at h
   |cons T Ts ih=>intro ts h;cases ts with
    |nil=>simp [vH] at h
    |cons t ts=>simp only [vH,aw] at h;simp [ih h.2]
  rw [h1 hA,h2 hT]
 have hfn:=hspec (ds++[]) (by simpa using hlen)
 have hlt': ∀x∈p,x.block<W.heap.size:=fun x hx=>hlt x (by simpa using hx)
 refine ⟨_,rfl,ds,[],p++[],[],p,[],hW',?_,?_,?_,hB.frame _,fun h=>by cases h⟩
 ·rw [hfn,hres];exact trodAll_mk1 (shut_bool htb _)
 ·rw [hfn];simpa using Below.trodAll hl hB hread hlt' hA
 ·rw [hfn,hvars];rfl
end
end Go.Ab
namespace Go.Ab
def bw (n0:Nat) (v:AV) (h:Hp) (n:Nat) (v2:AV) (h2:Hp) (n2:Nat):Prop:=
 ∀(D:Nat->Prop) (φ:bU) (w:World) (D0:Nat->Prop) (φ0:bU) (H0:Hf) (w0:World) (u:Value),(∀b,D0 b->b<n0)->(∀b,D b->b<n)->aI D φ v u->HR D φ (ab h) w->dR D0 φ0 H0 w0 D φ (ab h) w→
  ∃D' φ',(∀b,D' b->b<n2)/\aI D' φ' v2 u/\dR D0 φ0 H0 w0 D' φ' (ab h2) w
theorem bw.ends {n0 n n2:Nat} {v v2:AV} {h h2:Hp} (he:Ends n0 v h n v2 h2 n2):bw n0 v h n v2 h2 n2:=z7.ends _ _ _ _ _ _ _ he
theorem z7.F2:z7 bw:=fun _ _ _ _ _ _ _ hW=>hW
theorem bt.FF {f:FuncId} {P:Program} {fn:Func} {I:dm} {args:List AV} {n:Nat} {h:Hp} {v2:AV} {h2:Hp} {n2:Nat} (hf:P.funcs[f]? =some fn) (hI:aK P fn=some I) (hnp:args.length<=I.N)
 (hi: ∀c,bH P I.ct I.N c=I.code->WP P I.N n c (qS I.res fun v h' n'=>bw n v h' n' v2 h2 n2) (eS 0 args) h n):bt P f args h n v2 h2 n2:=
 cL.Dt z7.F2 hf hI hnp (fun c hc=>(hi c hc).mono (sr fun _ _ _ h=>⟨rfl,h⟩))
theorem bt.dU {f:FuncId} {P:Program} {fn:Func} {I:dm} {cx:Cx} {args:List AV} {n:Nat} {h:Hp} {v2:AV} {h2:Hp} {n2:Nat} (hcx:Sound P cx) (hm:P.follows .mixedOrders=true) (hf:P.funcs[f]? =some fn) (hI:aK P fn=some I) (hnp:args.length<=I.N)
 (hi:iw ⟨P,cx,I.ct,I.N,n⟩ I.code (qS I.res fun v h' n'=>bw n v h' n' v2 h2 n2) (eS 0 args) h n):bt P f args h n v2 h2 n2:=
 bt.FF hf hI hnp (fun c hc=>gL ⟨P,cx,I.ct,I.N,n⟩ hcx hm c _ _ _ _ (by show iw _ (bH P I.ct I.N c) _ _ _ _;rw [hc];exact hi))
theorem bt.rz {f:FuncId} {P:Program} {fn:Func} {I:dm} {cx:Cx} {args:List AV} {n:Nat} {h:Hp} {v2:AV} {h2:Hp} {n2:Nat} (hf:P.funcs[f]? =some fn) (hI:aK P fn=some I) (hnp:args.length<=I.N)
 (hi:ck ⟨P,cx,I.ct,I.N,n⟩ I.code (qS I.res fun v h' n'=>bw n v h' n' v2 h2 n2) (eS 0 args) h n):bt P f args h n v2 h2 n2:=
 bt.FF hf hI hnp (fun c hc=>hi c hc)
def dj (x y:AV) (v v':AV):Prop:= ∀(D:Nat->Prop) (φ:bU) (u:Value),(∀u1,aI D φ x u1->aI D φ y u1)->aI D φ v u->aI D φ v' u
theorem dj.hit {x y:AV}:dj x y x y:=fun D φ u h hv=>h u hv
theorem dj.refl {x y v:AV}:dj x y v v:=fun D φ u h hv=>hv
def gE (x y:AV):List AV->List AV->Prop
 |[],[]=>True
 |a::l,b::m=>dj x y a b/\gE x y l m
 |_,_=>False
theorem gE.len {x y:AV}: ∀{l m:List AV},gE x y l m->l.length=m.length
 |[],[],_=>rfl
 |a::l,b::m,h=>by simp [gE.len h.2]
 |[],_::_,h=>h.elim
 |_::_,[],h=>h.elim
theorem gE.get {x y:AV}: ∀{l m:List AV} {i:Nat} {b:AV},gE x y l m->m[i]? =some b-> ∃a,l[i]? =some a/\dj x y a b
 |[],[],i,b,_,hi=>by simp at hi
 |a::l,c::m,0,b,h,hi=>by simp at hi;subst hi;exact ⟨a,rfl,h.1⟩
 |a::l,c::m,i+1,b,h,hi=>by
  obtain ⟨a',h1,h2⟩:=gE.get h.2 (by simpa using hi)
  exact ⟨a',by simpa using h1,h2⟩
 |[],_::_,_,_,h,_=>h.elim
 |_::_,[],_,_,h,_=>h.elim
theorem dj.agg {x y:AV} {l m:List AV} (h:gE x y l m):dj x y (.agg l) (.agg m):=fun D φ u hx hv=>by
 cases hv with
 |agg _ cs hl hh=>
  refine .agg m cs (by rw [<-hl,h.len]) (fun i b u hb hu=> ?_)
  obtain ⟨a,h1,h2⟩:=h.get hb;exact h2 D φ u hx (hh i a u h1 hu)
theorem dj.bg {x y:AV} {l m:List AV} (h:gE x y l m):dj x y (.bg l) (.bg m):=fun D φ u hx hv=>by
 cases hv with
 |bg _ cs hl hh=>
  refine .bg m cs (by rw [<-hl,h.len]) (fun i b u hb hu=> ?_)
  obtain ⟨a,h1,h2⟩:=h.get hb;exact h2 D φ u hx (hh i a u h1 hu)
theorem bw.nJ {n0 n n2:Nat} {v v' v2:AV} {h h' h2:Hp} {x:AV} {b:Nat} {k:aW} {cs:List AV} {m o:Nat} (hk:ab h b=some k) (hro:k.ro=false) (hx:(∃cap,x= .sl b o m cap/\m<=cap)\/x= .sg b o m) (hcs:cs=k.cells.drop o\/cs=(k.cells.drop o).take cs.length) (hf:dj x (.fz cs m) v v')
 (hh: ∀c kk,ab h' c=some kk->c≠b/\ab h c=some kk) (hc:bw n0 v' h' n v2 h2 n2) (hmp:k.mp=none:=by rfl):bw n0 v h n v2 h2 n2:=by
 intro D φ w D0 φ0 H0 w0 u hD0 hD hv hH hS;obtain ⟨hdb,⟨⟨vs,elem,fr,q1,q2,q3,q4⟩,q5⟩⟩:=hH.at_ b k hk;have q1:=q1.cells hmp;let φ1:bU:={φ with fz:=fun B=>if B=φ.cW b then some vs else φ.fz B}
 have ag:dh D φ φ1:=⟨fun c _=>⟨rfl,rfl,rfl,rfl⟩,fun B vs' hB=>by
  simp only [φ1];split
  ·rename_i hBb;subst hBb;obtain ⟨elem',fr',h1⟩:=hH.fz _ _ hB;rw [q1] at h1;simp only [aP,Obj.cells.injEq] at h1;rw [h1.1]
  ·exact hB,rfl⟩
 have hxy: ∀u1,aI D φ1 x u1->aI D φ1 (.fz cs m) u1:=fun u1 h1=>by
  have get: ∀(i:Nat) (a:AV),cs[i]? =some a-> ∃u,vs[φ.off b+o+i]? =some u/\aI D φ a u:=fun i a ha=>by
   have ha':k.cells[o+i]? =some a:=by
    rcases hcs with e|e
    ·rw [e,iq] at ha;exact ha
    ·rw [e,jA,iq] at ha;split at ha
     ·exact ha
     ·cases ha
   obtain ⟨u,hu,hr⟩:=q2 _ a ha';exact ⟨u,by rw [im];exact hu,hr⟩
  have g1:φ1.fz (φ.cW b)=some vs:=by simp [φ1]
  have g2: ∀i,i<cs.length->φ.off b+o+i<vs.size:=fun i hi=>by
   obtain ⟨u,hu,_⟩:=get i _ (aY hi);rcases dw (φ.off b+o+i) vs.size with h'|h'
   ·exact h'
   ·rw [gw h'] at hu;cases hu
  have g3: ∀(i:Nat) (a:AV) (u:Value),cs[i]? =some a->vs[φ.off b+o+i]? =some u->aI D φ1 a u:=fun i a u ha hu=>by
   obtain ⟨u',hu',hr⟩:=get i a ha;rw [hu] at hu';cases hu';exact hr.mono (fun _ h=>h) ag
  rcases hx with ⟨cap,rfl,hcap⟩|rfl
  ·cases h1 with
   |sl _ _ _ _ _=>exact .fz _ _ _ _ _ vs g1 hcap g2 g3
  ·cases h1 with
   |sg _ _ _ j cap _ _ _ hl=>exact .fz _ _ _ _ _ vs g1 hl g2 g3
 have hv1:aI D φ1 v' u:=hf D φ1 u hxy (hv.mono (fun _ h=>h) ag);have hH1:HR D φ1 (ab h') w:=by
  refine ⟨⟨fun c kk hc=> ?_,fun b1 b2 k1 k2 hne h1 h2 hr=> ?_⟩,fun B vs' hB=> ?_,hH.lp,fun c kk B vs' hc hr hB=> ?_⟩
  ·obtain ⟨_,h2⟩:=hh c kk hc;have h3:=hH.at_ c kk h2;exact ⟨h3.1,h3.2.mono (fun _ h=>h) ag h3.1 rfl⟩
  ·exact hH.sep b1 b2 k1 k2 hne (hh _ _ h1).2 (hh _ _ h2).2 hr
  ·simp only [φ1] at hB;split at hB
   ·rename_i e;subst e;cases hB;exact ⟨elem,fr,q1⟩
   ·exact hH.fz B vs' hB
  ·obtain ⟨h1,h2⟩:=hh c kk hc;simp only [φ1] at hB;split at hB
   ·rename_i e;subst e;exact hH.sep c b kk k h1 h2 hk hr
   ·exact hH.kD c kk B vs' h2 hr hB
 refine hc D φ1 w D0 φ0 H0 w0 u hD0 hD hv1 hH1 ⟨hS.sub,⟨hS.agree.at_,fun B vs' hB=>ag.fz B vs' (hS.agree.fz B vs' hB),hS.agree.lp⟩,hH1,hS.eC,fun c kk hc hr=>hS.oY c kk (hh c kk hc).2 hr,fun B vs' hB=> ?_⟩;simp only [φ1] at hB;split at hB
 ·rename_i e;subst e;exact .inr (hS.oY b k hk hro)
 ·exact hS.jO B vs' hB
theorem bw.xe {n0 n n2:Nat} {v v' v2:AV} {h h2:Hp} {l:List AV} (hf:dj .ns (.fz l 0) v v') (hc:bw n0 v' h n v2 h2 n2):bw n0 v h n v2 h2 n2:=by
 intro D φ w D0 φ0 H0 w0 u hD0 hD hv hH hS;exact hc D φ w D0 φ0 H0 w0 u hD0 hD (hf D φ u (fun u1 h1=>by cases h1;exact .mI _ _ _ (fun _=>rfl)) hv) hH hS
def Sh.Qw:Sh->Prop
 | .sl _ _ m c=>m<=c
 |_=>True
theorem bw.auI {α:Type} {f:α->List AV} {z:Nat} {l:List α} {s:Sh} {b:Nat} {n0 n n2:Nat} {v v' v2:AV} {h h' h2:Hp} (hs:s.is f z l) (hfr:s.fresh=true) (hcap:s.Qw) (hh0:tk h s b) (hf:dj (s.v b) (.fz (rows f l) l.length) v v')
 (hh: ∀c kk,ab h' c=some kk->c≠b/\ab h c=some kk) (hc:bw n0 v' h' n v2 h2 n2):bw n0 v h n v2 h2 n2:=by
 obtain ⟨h1,h2',h3⟩:=hs;cases s with
 |nil=>
  have h0:l.length=0:=h2'.symm;rw [h0] at hf;refine bw.xe hf ?_;intro D φ w D0 φ0 H0 w0 u hD0 hD hv hH hS;exact hc D φ w D0 φ0 H0 w0 u hD0 hD hv (hH.sub fun c kk hc=>(hh c kk hc).2) ⟨hS.sub,hS.agree,hH.sub fun c kk hc=>(hh c kk hc).2,hS.eC,fun c kk hc hr=>hS.oY c kk (hh c kk hc).2 hr,hS.jO⟩
 |sl k o m c=>
  have hm:m=l.length:=h2';subst hm;refine bw.nJ (k:=k) (o:=o) (cs:=rows f l) (hh0 b k (by simp [Sh.h,ab])) (by simpa [Sh.fresh] using hfr) (.inl ⟨c,rfl,hcap⟩) (.inr ?_) hf hh hc (Ez.1 (jB.1 h1).1)
  have h3:aA k.cells o (l.length*z)=rows f l:=h3;rw [<-h3,aA,gO];exact List.take_eq_take_min
 |sg k o m=>
  have hm:m=l.length:=h2';subst hm;refine bw.nJ (k:=k) (o:=o) (cs:=rows f l) (hh0 b k (by simp [Sh.h,ab])) (by simpa [Sh.fresh] using hfr) (.inr rfl) (.inr ?_) hf hh hc (Ez.1 (jB.1 h1).1)
  have h3:aA k.cells o (l.length*z)=rows f l:=h3;rw [<-h3,aA,gO];exact List.take_eq_take_min
end Go.Ab
namespace Go.Ab
def jE (h:Hp) (rd:List Nat) (a aF:AV):Prop:= ∀(D D':Nat->Prop) (φ:bU) (w:World) (u:Value),HR D φ (only (ab h) rd) w->aI D φ a u->aI D' (φ.nJ (only (ab h) rd) w) aF u
def xy (h:Hp) (rd:List Nat):List AV->List AV->Prop
 |[],[]=>True
 |a::l,b::m=>jE h rd a b/\xy h rd l m
 |_,_=>False
section
variable {h:Hp} {rd:List Nat}
theorem jE.same {a:AV} (ha:a.al 0=true):jE h rd a a:=fun D D' φ w u hH hv=>(hv.mono (D':=D) (fun _ h=>h) (bU.gD hH D)).y7 ha
theorem xy.len: ∀{l m:List AV},xy h rd l m->l.length=m.length
 |[],[],_=>rfl
 |a::l,b::m,h=>by simp [xy.len h.2]
 |[],_::_,h=>h.elim
 |_::_,[],h=>h.elim
theorem xy.get: ∀{l m:List AV} {i:Nat} {b:AV},xy h rd l m->m[i]? =some b-> ∃a,l[i]? =some a/\jE h rd a b
 |[],[],i,b,_,hi=>by simp at hi
 |a::l,c::m,0,b,h,hi=>by simp at hi;subst hi;exact ⟨a,rfl,h.1⟩
 |a::l,c::m,i+1,b,h,hi=>by
  obtain ⟨a',h1,h2⟩:=xy.get h.2 (by simpa using hi)
  exact ⟨a',by simpa using h1,h2⟩
 |[],_::_,_,_,h,_=>h.elim
 |_::_,[],_,_,h,_=>h.elim
theorem jE.fn {f:FuncId} {l m:List AV} (hl:xy h rd l m):jE h rd (.fn f l) (.fn f m):=fun D D' φ w u hH hv=>by
 cases hv with
 |fn _ _ cs hf hlen hh=>
  refine .fn f m cs hf (by rw [<-hlen,hl.len]) (fun i b u hb hu=> ?_)
  obtain ⟨a,h1,h2⟩:=hl.get hb;exact h2 D D' φ w u hH (hh i a u h1 hu)
theorem jE.p {b o:Nat} {k:aW} (hb:only (ab h) rd b=some k) (hk:ae 0 k.cells=true) (hmp:k.mp=none:=by rfl):jE h rd (.p b o) (.fp k.cells o):=fun D D' φ w u hH hv=>by
 cases hv with
 |p _ _ hD=>
  obtain ⟨_,⟨⟨vs,elem,fr,h1,h2,_⟩,_⟩⟩:=hH.at_ b k hb;have h1:=h1.cells hmp;have:=aI.fp (D:=D') (φ:=φ.nJ (only (ab h) rd) w) k.cells o (φ.cW b) (φ.off b) vs (by rw [bU.DM (D:=D) hb];simp [yM,h1]) (fun i hi=>by
   obtain ⟨u,hu,_⟩:=h2 i _ (aY hi);rcases dw (φ.off b+i) vs.size with h'|h'
   ·exact h'
   ·rw [gw h'] at hu;cases hu) (fun i a u ha hu=>by
   obtain ⟨u',hu',hr⟩:=h2 i a ha;rw [hu] at hu';cases hu';exact (hr.mono (D':=D) (fun _ h=>h) (bU.gD hH D)).y7 (cX hk a (bR ha)))
  exact this
theorem rF {z:Nat} {x:AV} {rd':List Nat} {m:Nat} {cs:List AV}
 (hv:wH h z x (fun rd m cs ok=>some (rd,m,cs,ok))=some (rd',m,cs,true)) (hcs:ae 0 cs=true) (hrd: ∀b,inl rd' b=true->inl rd b=true):jE h rd x (.fz cs m):=fun D D' φ w u hH hx=>by
 have h1:=aI.view (D':=D') (A6 hH hrd) hx hv hcs;refine aI.mono (φ:=φ.nJ (only (ab h) rd') w) (fun _ h=>h) ?_ h1;refine ⟨fun b _=>⟨rfl,rfl,rfl,rfl⟩,fun B vs hB=> ?_,rfl⟩;simp only [bU.nJ] at hB ⊢;split at hB
 ·rename_i hex;obtain ⟨b,k,hb,hbB⟩:=hex;have hb2:only (ab h) rd b=some k:=by
   unfold only at hb ⊢;cases hb':inl rd' b
   ·simp [hb'] at hb
   ·rw [hrd b hb'];simpa [hb'] using hb
  rw [aM ⟨b,k,hb2,hbB⟩];exact hB
 ·split
  ·exact hH.Qe hB
  ·exact hB
end
theorem ax.A3 {P:Program} {f:FuncId} {args argsF:List AV} {h:Hp} {n:Nat} {rd:List Nat} {v:AV} (hc:Go.Ab.bJ P f=true)
 (hv:xy h rd args argsF) (hpl:v.pl=true) (hf:bt P f argsF [] 0 v [] 0):ax P f args h n {v,n,rd}:=by
 refine ⟨hc,bx _,fun b r hb=>by simp [dH] at hb,fun b kk hb=>by simp [ab] at hb,fun D φ w us hfresh hH hA=> ?_⟩
 let φ1:=φ.nJ (only (ab h) rd) w;have hH1:HR (fun _=>False) φ1 (ab []) w:=⟨⟨fun b k hb=>by simp [ab] at hb,fun b1 b2 k1 k2 _ hb=>by simp [ab] at hb⟩,fun B vs hB=>by
  simp only [φ1,bU.nJ] at hB;split at hB
  ·exact lP hB
  ·exact hH.fz B vs hB,hH.lp,fun b k B vs hb=>by simp [ab] at hb⟩
 have hA1:cJ (fun _=>False) φ1 argsF us:=⟨by rw [<-hv.len];exact hA.1,fun i a u ha hu=>by
  obtain ⟨a',h1,h2⟩:=hv.get ha;exact h2 D _ φ w u hH (hA.2 i a' u h1 hu)⟩
 refine (hf (fun _=>False) φ1 w us (fun _ h=>h.elim) hH1 hA1).mono fun e w' hx=> ?_;obtain ⟨D',φ',u,rfl,hD',hr,hS⟩:=hx;have hd: ∀b,D b->Dn D n n b:=fun b h=> .inl h;have e:(bX.app {v,n,rd} (only (ab h) rd))=only (ab h) rd:=by funext b;rfl
 have hst: ∀c,c<w.heap.size->w'.heap[c]? =w.heap[c]? :=fun c hc=>hS.eC.block c hc (fun b k hb=>by simp [ab] at hb)
 refine ⟨u,φ,rfl,hr.pl hpl,?_,fun c kk hc _=>by rw [e] at hc;exact hc⟩
 show dR D φ _ w (Dn D n n) φ (bX.app _ _) w';rw [e];exact dR.mk' hH rfl rfl hd (dh.refl D φ).at_ ⟨fun b k hb=>⟨hd b (hH.at_ b k hb).1,(hH.at_ b k hb).2.mono hd (dh.refl _ _) (hH.at_ b k hb).1 (hst _ (hH.at_ b k hb).2.lt)⟩,hH.sep⟩
  ⟨hS.eC.os,hS.eC.tape,hS.eC.output,hS.eC.size,fun c hc _=>hst c hc⟩ (fun b k hb hk=> .inr ⟨b,k,hb,hk,rfl⟩)
abbrev aur (z:Nat) (agg:Bool):bG:=(.seq (.cQ [⟨some 4,.mv (.c (.i .i64 0)),none,false⟩]) (.seq (.seq (.cQ [⟨some 6,.mv (.t 0),none,false⟩,⟨some 7,.oF (.t 6),none,false⟩,⟨some 8,.mv (.c (.i .i64 0)),none,false⟩])
 (.block 0 (.loop (.seq (.cQ [⟨some 9,.bin .lss (.t 8) (.t 7),none,true⟩]) (.seq (.cond (.t 9) .skip (.exit 0)) (.seq (.block 1 (.seq (.cQ [⟨some 10,.mv (.t 8),none,false⟩,⟨some 5,.mv (.t 10),none,false⟩])
   (.seq (.cQ [⟨some 11,.mv (.t 1),none,false⟩,⟨some 12,.mv (.t 0),none,false⟩,⟨some 13,.mv (.t 5),none,false⟩,⟨some 14,.qO z (.t 12) (.t 13),none,false⟩,⟨some 15,.ld agg z (.t 14),none,false⟩,⟨some 16,.call (.t 11) [.t 15],none,true⟩])
     (.cond (.t 16) (.seq (.cQ [⟨some 17,.mv (.t 5),none,false⟩,⟨some 4,.mv (.t 17),none,false⟩]) .ret) .skip)))) (.cQ [⟨some 18,.bin .add (.t 8) (.c (.i .i64 1)),none,false⟩,⟨some 8,.mv (.t 18),none,false⟩])))))))
 (.seq (.cQ [⟨some 4,.mv (.c (.i .i64 (-1))),none,false⟩]) .ret)))
def FX (z:Nat) (agg:Bool):dm:={np:=2,N:=19,ct:=[9,16],code:=aur z agg,res:=[.t 4]}
abbrev atq (g:FuncId):bG:=(.seq (.cQ [⟨some 4,.mv (.c (.b false)),none,false⟩]) (.seq (.cQ [⟨some 5,.mv (.t 0),none,false⟩,⟨some 6,.mv (.t 1),none,false⟩,⟨some 7,.call (.c (.fn g [])) [.t 5,.t 6],none,false⟩,⟨some 8,.bin .geq (.t 7) (.c (.i .i64 0)),none,false⟩,⟨some 4,.mv (.t 8),none,false⟩]) .ret))
def Tn (g:FuncId):dm:={np:=2,N:=9,ct:=[],code:=atq g,res:=[.t 4]}
def x5 {α:Type} (p:α->Bool):List α->Int->Int
 |[],_=> -1
 |x::r,i=>if p x then i else x5 p r (i+1)
theorem uY {α:Type} (p:α->Bool): ∀(l:List α) (i:Int),0<=i->(decide (0<=x5 p l i)=l.any p)
 |[],i,_=>rfl
 |x::r,i,h=>by
  simp only [x5,List.any_cons];by_cases hx:p x=true
  ·simp [hx,h]
  ·simp [hx,uY p r (i+1) (by omega)]
theorem oH {α:Type} {p:α->Bool}: ∀{l:List α} {k:Nat} (i:Int),(∀x∈l.take k,p x=false)->x5 p l i=x5 p (l.drop k) (i+k)
 |l,0,i,_=>by simp
 |[],k+1,i,_=>rfl
 |x::r,k+1,i,h=>by
  simp only [x5,h x (by simp),cY,bV,List.drop_succ_cons]
  rw [oH (l:=r) (k:=k) (i+1) (fun y hy=>h y (by simp [hy]))]
  congr 1;omega
noncomputable def KA {α:Type} (g:FuncId) (caps:List AV) (el:α->AV) (p:α->Bool) (l:List α):Cx:=fun f args h n=>
 open Classical in if hx:f=g/\ ∃a,a∈l/\args=el a::caps then some (true,{v:= .b (p hx.2.choose),n}) else none
theorem Ir {α:Type} {g:FuncId} {caps:List AV} {el:α->AV} {p:α->Bool} {l:List α} (hp: ∀a b,el a=el b->p a=p b) {a:α} (ha:a∈l) {h:Hp} {n:Nat}:KA g caps el p l g (el a::caps) h n=some (true,{v:= .b (p a),n}):=by
 unfold KA;have hx:g=g/\ ∃b,b∈l/\el a::caps=el b::caps:=⟨rfl,a,ha,rfl⟩;rw [dif_pos hx];have h2:el a=el hx.2.choose:=(List.cons.inj hx.2.choose_spec.2).1;exact cS (fun b=>some (true,({v:= .b b,n}:bX))) (hp _ _ h2).symm
theorem yf {P:Program} {α:Type} {g:FuncId} {caps:List AV} {el:α->AV} {p:α->Bool} {l:List α} (hc:bJ P g=true) (hel: ∀a,(el a).al 0=true) (hcaps:ae 0 caps=true)
 (hf: ∀a∈l,bt P g (el a::caps) [] 0 (.b (p a)) [] 0):Sound P (KA g caps el p l):=fun f args h n c E hx hc'=>by
 unfold KA at hx;split at hx
 ·rename_i hy;obtain ⟨h1,h2⟩:=hy.2.choose_spec;simp only [aP,bq] at hx;obtain ⟨_,rfl⟩:=hx;obtain ⟨a,ha⟩: ∃a,a=hy.2.choose:=⟨_,rfl⟩;rw [<-ha] at h1 h2 ⊢;clear ha;obtain ⟨rfl,_⟩:=hy;rw [h2];exact ax.pure hc (by simp [ae,hel,hcaps]) rfl (hf _ h1) h n
 ·cases hx
end Go.Ab
namespace Go.Ab
section
variable {P:Program} {α:Type} {row:α->List AV} {el:α->AV} {p:α->Bool} {g:FuncId} {caps:List AV}
theorem IH {z:Nat} {f:FuncId} {fn:Func} (hm:P.follows .mixedOrders=true) (hf:P.funcs[f]? =some fn) (hI:aK P fn=some (FX z true)) (hg:bJ P g=true) (hlen: ∀a,(row a).length=z) (hbel: ∀a,ae 0 (row a)=true) (hcaps:ae 0 caps=true)
 (hel: ∀a,el a= .agg (row a)) (hp: ∀a b,el a=el b->p a=p b) (l:List α) (hl:l.length<=9223372036854775807) (hF: ∀a∈l,bt P g (el a::caps) [] 0 (.b (p a)) [] 0):bt P f [.fz (rows row l) l.length,.fn g caps] [] 0 (.i .i64 (x5 p l 0)) [] 0:=by
 have hcx:Sound P (KA g caps el p l):=yf hg (fun a=>by rw [hel];exact hbel a) hcaps hF
 have hat: ∀(a:α) (h:Hp) (n:Nat),a∈l->KA g caps el p l g (.agg (row a)::caps) h n=some (true,{v:= .b (p a),n}):=fun a h n ha=>by rw [<-hel];exact Ir hp ha
 generalize KA g caps el p l=cx at hcx hat;refine bt.dQ hcx hm hf hI (by simp [FX]) (aQ ?_)
 dsimp only [FX];generalize hR:x5 p l 0=R;have hLb:ae 0 (rows row l)=true:=bN hbel;have hL: ∀(k:Nat) x,l[k]? =some x->List.take z (List.drop (k*z) (rows row l))=row x:=fun k x hk=>eo hlen hk;generalize rows row l=L at hL hLb ⊢;simp only [go_sem,simprocAttr];refine Loop.fj (F:=⟨P,cx,[9,16],19,0⟩) hcx hm l.length (fun k=> ∀x∈l.take k,p x=false)
  (fun k=>[(0,.fz L l.length),(1,.fn g caps),(7,.i .i64 (l.length:Int)),(8,.i .i64 (k:Int))])
  (fun k=>[]) 0 (bx 0) (by simp) ?_ ?_ (fun k hk ho=> ?_)
 ·simp only [go_sem,AV.al,ae,aG,hLb,hcaps,simprocAttr]
 ·simp only [go_sem,simprocAttr]
 ·by_cases hlt:k<l.length
  ·have c1:decide ((k:Int)<(l.length:Int))=true:=ah (by omega)
   have c2:decide (0<=(k:Int)/\(k:Int)<(l.length:Int))=true:=ah (by omega)
   have hx:=hL k l[k] (aY hlt);have hw:IntKind.i64.wrap ((k:Int)+1)=((k+1:Nat):Int):=by rw [bS (by omega) (by omega)];omega
   have hdr:l.drop k=l[k]::l.drop (k+1):=kW hlt;have ha:=fun h n=>hat l[k] h n (List.getElem_mem hlt);have hlz:=hlen l[k];cases hin:p l[k]
   ·have hnext: ∀x∈l.take (k+1),p x=false:=by
     intro x hx;rw [jz,aY hlt] at hx;rcases vJ.1 hx with hx|hx
     ·exact ho x hx
     ·simp at hx;subst hx;exact hin
    simp only [go_sem,c1,c2,hx,ha,hlz,hin,hw,hlt,AV.al,ae,aG,hLb,hcaps,simprocAttr];exact hnext
   ·have hfo:R=(k:Int):=by
     rw [<-hR,oH 0 ho,hdr];simp [x5,hin]
    simp only [go_sem,c1,c2,hx,ha,hlz,hin,simprocAttr];exact Ends.au rfl (by rw [hfo])
  ·have c1:decide ((k:Int)<(l.length:Int))=false:=cN (by omega)
   have hkl:k=l.length:=by omega
   have hfo:R= -1:=by
    rw [<-hR,oH 0 ho,hkl,wC];rfl
   simp only [go_sem,c1,simprocAttr];exact Ends.au rfl (by rw [hfo])
theorem E3 {f:FuncId} {fn:Func} (hm:P.follows .mixedOrders=true) (hf:P.funcs[f]? =some fn) (hI:aK P fn=some (FX 1 false)) (hg:bJ P g=true) (hbel: ∀a,(el a).al 0=true) (hcaps:ae 0 caps=true)
 (hrow: ∀a,row a=[el a]) (hp: ∀a b,el a=el b->p a=p b) (l:List α) (hl:l.length<=9223372036854775807) (hF: ∀a∈l,bt P g (el a::caps) [] 0 (.b (p a)) [] 0):bt P f [.fz (rows row l) l.length,.fn g caps] [] 0 (.i .i64 (x5 p l 0)) [] 0:=by
 have hcx:Sound P (KA g caps el p l):=yf hg hbel hcaps hF;have hat: ∀(a:α) (h:Hp) (n:Nat),a∈l->KA g caps el p l g (el a::caps) h n=some (true,{v:= .b (p a),n}):=fun a h n ha=>Ir hp ha;generalize KA g caps el p l=cx at hcx hat;refine bt.dQ hcx hm hf hI (by simp [FX]) (aQ ?_)
 dsimp only [FX];generalize hR:x5 p l 0=R;have hLb:ae 0 (rows row l)=true:=bN (fun a=>by simp [hrow,ae,hbel])
 have hL: ∀(k:Nat) x,l[k]? =some x->(rows row l)[k*1]? =some (el x):=fun k x hk=>cn (f:=row) (z:=1) (j:=0) (v:=el x) (fun a=>by simp [hrow]) hk (by simp [hrow])
 generalize rows row l=L at hL hLb ⊢;simp only [go_sem,simprocAttr];refine Loop.fj (F:=⟨P,cx,[9,16],19,0⟩) hcx hm l.length (fun k=> ∀x∈l.take k,p x=false)
  (fun k=>[(0,.fz L l.length),(1,.fn g caps),(7,.i .i64 (l.length:Int)),(8,.i .i64 (k:Int))])
  (fun k=>[]) 0 (bx 0) (by simp) ?_ ?_ (fun k hk ho=> ?_)
 ·simp only [go_sem,AV.al,ae,aG,hLb,hcaps,simprocAttr]
 ·simp only [go_sem,simprocAttr]
 ·by_cases hlt:k<l.length
  ·have c1:decide ((k:Int)<(l.length:Int))=true:=ah (by omega)
   have c2:decide (0<=(k:Int)/\(k:Int)<(l.length:Int))=true:=ah (by omega)
   have hx:=hL k l[k] (aY hlt);rw [dK] at hx;have hw:IntKind.i64.wrap ((k:Int)+1)=((k+1:Nat):Int):=by rw [bS (by omega) (by omega)];omega
   have hdr:l.drop k=l[k]::l.drop (k+1):=kW hlt;have ha:=fun h n=>hat l[k] h n (List.getElem_mem hlt);cases hin:p l[k]
   ·have hnext: ∀x∈l.take (k+1),p x=false:=by
     intro x hx;rw [jz,aY hlt] at hx;rcases vJ.1 hx with hx|hx
     ·exact ho x hx
     ·simp at hx;subst hx;exact hin
    simp only [go_sem,c1,c2,hx,ha,hin,hw,hlt,AV.al,ae,aG,hLb,hcaps,dK,simprocAttr];exact hnext
   ·have hfo:R=(k:Int):=by
     rw [<-hR,oH 0 ho,hdr];simp [x5,hin]
    simp only [go_sem,c1,c2,hx,ha,hin,dK,simprocAttr];exact Ends.au rfl (by rw [hfo])
  ·have c1:decide ((k:Int)<(l.length:Int))=false:=cN (by omega)
   have hkl:k=l.length:=by omega
   have hfo:R= -1:=by
    rw [<-hR,oH 0 ho,hkl,wC];rfl
   simp only [go_sem,c1,simprocAttr];exact Ends.au rfl (by rw [hfo])
theorem Ip {f g2:FuncId} {fn:Func} {L:List AV} {m:Nat} {R:Int} {b:Bool} (hm:P.follows .mixedOrders=true) (hf:P.funcs[f]? =some fn) (hI:aK P fn=some (Tn g2)) (hg:bJ P g2=true) (hL:ae 0 L=true) (hcaps:ae 0 caps=true)
 (hix:bt P g2 [.fz L m,.fn g caps] [] 0 (.i .i64 R) [] 0) (hR:decide (0<=R)=b):bt P f [.fz L m,.fn g caps] [] 0 (.b b) [] 0:=by
 let cx:Cx:=fun f args h n=>open Classical in if f=g2/\args=[.fz L m,.fn g caps] then some (true,{v:= .i .i64 R,n}) else none
 have hcx:Sound P cx:=fun f args h n c E hx hc=>by
  simp only [cx] at hx;split at hx
  ·rename_i hy;obtain ⟨rfl,rfl⟩:=hy;cases hx;exact ax.pure hg (by simp [ae,AV.al,hL,hcaps]) rfl hix h n
  ·cases hx
 have hat: ∀(h:Hp) (n:Nat),cx g2 [.fz L m,.fn g caps] h n=some (true,{v:= .i .i64 R,n}):=fun h n=>aM ⟨rfl,rfl⟩;generalize cx=cx at hcx hat;refine bt.dQ hcx hm hf hI (by simp [Tn]) (aQ ?_)
 dsimp only [Tn];simp only [go_sem,hat,simprocAttr];exact Ends.au rfl (by rw [<-hR])
end
end Go.Ab
namespace Go.Ab
abbrev Xt:=Int×List UInt8
def wu (x:Xt):List AV:=[.i .i64 x.1,.s x.2]
theorem o8: ∀x,(wu x).length=2:=fun _=>rfl
theorem sf: ∀x,ae 0 (wu x)=true:=fun _=>rfl
structure Md where
 ma:Bool
 ty:Int
 sq:Int
 tm:Int
 ss:Int
 cs:List Int
 xs:List Xt
 pd:Int
 pl:List UInt8
def Md.l (p:Md):List AV:=[.b p.ma,.i .i64 p.ty,.i .i64 p.sq,.i .i64 p.tm,.i .i64 p.ss,.fz (rows aC p.cs) p.cs.length,.fz (rows wu p.xs) p.xs.length,.i .i64 p.pd,.s p.pl]
theorem Md.len: ∀p:Md,p.l.length=9:=fun _=>rfl
theorem Md.al: ∀p:Md,ae 0 p.l=true:=fun p=>by
 simp only [Md.l,ae,AV.al,bN gN,bN sf,az]
theorem vI {α:Type} {f:α->List AV} {z:Nat} (hf: ∀a,(f a).length=z) (hi: ∀a b,f a=f b->a=b): ∀{l m:List α},l.length=m.length->rows f l=rows f m->l=m
 |[],[],_,_=>rfl
 |a::l,b::m,hl,h=>by
  rw [cT,cT] at h;obtain ⟨h1,h2⟩:=List.append_inj h (by rw [hf,hf])
  rw [hi _ _ h1,vI hf hi (by simpa using hl) h2]
 |[],_::_,h,_=>by simp at h
 |_::_,[],h,_=>by simp at h
theorem Md.inj {p q:Md} (h:p.l=q.l):p=q:=by
 obtain ⟨a1,a2,a3,a4,a5,a6,a7,a8,a9⟩:=p;obtain ⟨b1,b2,b3,b4,b5,b6,b7,b8,b9⟩:=q;simp only [Md.l,xF,AV.b.injEq,AV.i.injEq,AV.fz.injEq,AV.s.injEq,nq,dr] at h;obtain ⟨rfl,rfl,rfl,rfl,rfl,⟨h6,l6⟩,⟨h7,l7⟩,rfl,rfl⟩:=h;have e6:=vI (f:=aC) bP (fun a b e=>by simpa [aC] using e) l6 h6
 have e7:=vI (f:=wu) o8 (fun a b e=>by
  simp only [wu,xF,AV.i.injEq,AV.s.injEq,nq,dr] at e;exact oy e.1 e.2) l7 h7
 rw [e6,e7]
def Md.fin (p:Md):Bool:=decide (p.cs.length<=9223372036854775807)&&decide (p.xs.length<=9223372036854775807)&&(p.xs.all fun x=>decide (x.2.length<=9223372036854775807))&&decide (p.pl.length<=9223372036854775807)
def qn (bits n:Int):Bool:=decide (0<=n)&&(n.fdiv (2^(Nat.min bits.toNat 64))==0)
def uO (lo hi x:Int):Bool:=decide (lo<=x)&&decide (x<=hi)
theorem Mg {lo hi x:Int}:uO lo hi x=true↔lo<=x/\x<=hi:=by simp [uO]
theorem z8 {b:Int} {m:Int} (hm:(2:Int)^(Nat.min b.toNat 64)=m+1) (hm0:0<=m) (n:Int):qn b n=uO 0 m n:=by
 rw [iG,Mg];simp only [qn,hm,aw,aV,lU];constructor
 ·rintro ⟨h1,h2⟩;rw [sJ _ (by omega)] at h2
  refine ⟨h1,?_⟩;have:=Int.mul_ediv_add_emod n (m+1);have hlt:=Int.emod_lt_of_pos n (show 0<m+1 by omega)
  rw [h2] at this;omega
 ·rintro ⟨h1,h2⟩;refine ⟨h1,?_⟩;rw [sJ _ (by omega)]
  exact Int.ediv_eq_zero_of_lt h1 (by omega)
theorem AO (n:Int):qn 7 n=uO 0 127 n:=z8 (by rfl) (by omega) n
theorem ta (n:Int):qn 8 n=uO 0 255 n:=z8 (by rfl) (by omega) n
theorem tL (n:Int):qn 16 n=uO 0 65535 n:=z8 (by rfl) (by omega) n
theorem am9 (n:Int):qn 32 n=uO 0 4294967295 n:=z8 (by rfl) (by omega) n
def k9 (l:List Xt) (i:Nat):Bool:=match l[i]? with
 |none=>true
 |some x=>uO 0 255 x.1&&uO 0 255 (x.2.length:Int)&&decide (0<x.1)&&(i==0||(match l[i-1]? with|some y=>decide (y.1<x.1)|none=>true))
def mg (p:Md):Bool:=uO 0 127 p.ty&&uO 0 65535 p.sq&&(uO 0 4294967295 p.tm&&uO 0 4294967295 p.ss)&&p.cs.all (uO 0 4294967295)&&uO 0 255 p.pd&&decide (p.cs.length<=15)&&decide (p.xs.length<=16)
def ji (f:Nat->Bool):Nat->Bool
 |0=>true
 |k+1=>ji f k&&f k
theorem yR {f:Nat->Bool} {k:Nat}:ji f (k+1)=(ji f k&&f k):=(rfl)
theorem wW {f:Nat->Bool}: ∀{k:Nat},ji f k=true↔ ∀i,i<k->f i=true
 |0=>by simp [ji]
 |k+1=>by
  rw [yR,aw,wW];constructor
  ·rintro ⟨h1,h2⟩ i hi;rcases A5.1 hi with h|h
   ·exact h1 i h
   ·rw [h];exact h2
  ·exact fun h=>⟨fun i hi=>h i (by omega),h k (by omega)⟩
def uL (p:Md):Bool:=mg p&&ji (k9 p.xs) p.xs.length
def agz (x:Int):List AV:=[.i .u32 x]
def pcR (x:Int×List UInt8):List AV:=[.i .u8 x.1,.s x.2]
theorem I7: ∀x,ae 0 (agz x)=true:=fun _=>rfl
theorem Ll: ∀x,ae 0 (pcR x)=true:=fun _=>rfl
structure Dm where
 ma:Bool
 ty:Int
 sq:Int
 tm:Int
 ss:Int
 cs:List Int
 xs:List Xt
 pd:Int
 pl:List UInt8
def Dm.l (p:Dm):List AV:=[.b p.ma,.i .u8 p.ty,.i .u16 p.sq,.i .u32 p.tm,.i .u32 p.ss,.fz (rows agz p.cs) p.cs.length,.fz (rows pcR p.xs) p.xs.length,.i .u8 p.pd,.s p.pl]
theorem Dm.al: ∀p:Dm,ae 0 p.l=true:=fun p=>by
 simp only [Dm.l,ae,AV.al,bN I7,bN Ll,az]
def anQ:Int->List Xt->List Xt
 |_,[]=>[]
 |id,x::r=>(id+1+x.1 % 60,x.2.take 20)::anQ (id+1+x.1 % 60) r
def Dm.md (p:Dm):Md:=⟨p.ma,p.ty % 128,p.sq,p.tm,p.ss,p.cs.take 3,anQ 0 (p.xs.take 4),p.pd,p.pl.take 60⟩
structure Dm.ok (p:Dm):Prop where
 ty:0<=p.ty/\p.ty<=255
 sq:0<=p.sq/\p.sq<=65535
 tm:0<=p.tm/\p.tm<=4294967295
 ss:0<=p.ss/\p.ss<=4294967295
 pd:0<=p.pd/\p.pd<=255
 cs: ∀x∈p.cs,0<=x/\x<=4294967295
 xs: ∀x∈p.xs,0<=x.1/\x.1<=255
theorem mF {α β:Type} {h:Hp} {f:α->List AV} {z:Nat} (hf: ∀a,(f a).length=z) {l:List α} {k:List Nat->Nat->List AV->Bool->Option β}:wH h z (.fz (rows f l) l.length) k=k [] l.length (rows f l) true:=by
 have e:aA (rows f l) 0 (l.length*z)=rows f l:=by
  rw [aA,fy,<-aT (f:=f) (z:=z) hf,fU]
 rw [wY,e,aT hf,ah rfl]
theorem oS {α:Type} {h:Hp} {z:Nat} {x:AV} {k:List Nat->Nat->List AV->Bool->Option α}:wH h z x k=(wH h z x (fun a b c d=>some (a,b,c,d))).bind fun r=>k r.1 r.2.1 r.2.2.1 r.2.2.2:=by
 cases x<;>simp only [wH,aS,Option.bind_none]<;>(cases iO h _<;>rfl)
def xtV:List AV->Option Xt
 |[.i .i64 x,.s l]=>some (x,l)
 |_=>none
theorem Jo (c:List AV) (a:Xt) (h:xtV c=some a):c=wu a:=by
 unfold xtV at h;split at h
 ·cases h;rfl
 ·cases h
def yW {α:Type} (g:Nat->α):Nat->List α
 |0=>[]
 |k+1=>yW g k++[g k]
theorem zq {α:Type} {g:Nat->α} {k:Nat}:yW g (k+1)=yW g k++[g k]:=(rfl)
theorem mD {α:Type} {g:Nat->α}: ∀k,(yW g k).length=k
 |0=>rfl
 |k+1=>by rw [zq,dN,mD k];rfl
theorem rP {α:Type} {g:Nat->α}: ∀{k i:Nat},i<k->(yW g k)[i]? =some (g i)
 |k+1,i,h=>by
  rw [zq];rcases A5.1 h with h'|h'
  ·rw [qL (by rw [mD];exact h')];exact rP h'
  ·subst h';rw [v8 (by rw [mD];omega),mD];simp
def LW:List AV->Option Md
 |[.b ma,.i .i64 ty,.i .i64 sq,.i .i64 tm,.i .i64 ss,.fz C c,.fz X x,.i .i64 pd,.s pl]=>(bk 1 dJ c C).bind fun cs=>(bk 2 xtV x X).bind fun xs=>some ⟨ma,ty,sq,tm,ss,cs,xs,pd,pl⟩
 |_=>none
theorem zi {l:List AV} {p:Md} (h:LW l=some p):l=p.l:=by
 unfold LW at h;split at h
 ·simp only [af,aP] at h;obtain ⟨cs,h1,xs,h2,rfl⟩:=h;obtain ⟨rfl,rfl⟩:=bD (f:=aC) dx h1;obtain ⟨rfl,rfl⟩:=bD (f:=wu) Jo h2;rfl
 ·cases h
theorem xS (p:Md):LW p.l=some p:=by
 have h1:bk 1 dJ p.cs.length (rows aC p.cs)=some p.cs:=eu bP (fun _=>rfl) p.cs;have h2:bk 2 xtV p.xs.length (rows wu p.xs)=some p.xs:=eu o8 (fun _=>rfl) p.xs;simp only [LW,Md.l,h1,h2,aS]
theorem vq {α:Type} {f:α->List AV} {z:Nat} (hf: ∀a,(f a).length=z) {a:α}: ∀{l:List α} {i:Nat},i<l.length->eF (rows f l) (i*z) (f a)=rows f (l.set i a)
 |[],i,h=>by simp at h
 |x::l,0,_=>by
  rw [List.set_cons_zero,cT,cT];unfold eF;rw [Nat.zero_mul,s8,List.nil_append,gv,hf,<-hf x,List.drop_left]
 |x::l,i+1,h=>by
  rw [List.set_cons_succ,cT,cT,<-vq hf (l:=l) (i:=i) (by simpa using h)]
  unfold eF;rw [dF,sv,ur (i*z) z,<-hf x,List.take_length_add_append,im,List.drop_length_add_append,fG,fG,fG]
end Go.Ab
namespace Go.Ab
def Q3:Cx:=fun _ _ _ _=>none
theorem GS {P:Program}:Sound P Q3:=fun f args h n c E hc _=>by cases hc
def Gd (m:FrameMode) (k:FrameMode->AV->Prop):Prop:=
 match m with
 | .returning=>k .returning .ni
 | .panicking [{v:= .iface t u,recovered:=false,goexit:=false}]=>k (.panicking [{v:= .iface t u,recovered:=true}]) (.k t u)
 |_=>False
theorem VD {k:FrameMode->AV->Prop}:Gd .returning k=k .returning .ni:=(rfl)
theorem adj {t:TypeId} {u:Value} {k:FrameMode->AV->Prop}:Gd (.panicking [{v:= .iface t u,recovered:=false}]) k=k (.panicking [{v:= .iface t u,recovered:=true}]) (.k t u):=(rfl)
def jI:jJ->Bool
 | .Q9=>true
 |_=>false
abbrev uB:=FrameMode->Exit->Env->Hp->Nat->Prop
def nO:List aj->FrameMode->Env->Hp->Nat->uB->Prop
 |[],m,e,h,n,K=>K m .normal e h n
 |⟨d,o,none,s⟩::os,m,e,h,n,K=>match jI o with
  |true=>Gd m fun m v=>nO os m (ij d v e) h n K
  |false=>GZ (lk Q3 o e h n) fun c p v h n=>iV c (p=none/\gY s v fun v=>nO os m (ij d v e) h n K)
 |_::_,_,_,_,_,_=>False
def xk:bG->FrameMode->uB->Env->Hp->Nat->Prop
 | .skip,m,K,e,h,n=>K m .normal e h n
 | .cQ ops,m,K,e,h,n=>nO ops m e h n K
 | .seq a b,m,K,e,h,n=>xk a m (fun m ex e h n=>match ex with| .normal=>xk b m K e h n|ex=>K m ex e h n) e h n
 | .cond c a b,m,K,e,h,n=>gd (c.ev e h) fun v=>match v with
  | .b x=>Hb x (xk a m K e h n) (xk b m K e h n)
  |_=>False
 | .ret,m,K,e,h,n=>K m .ret e h n
 | .cG ops,m,K,e,h,n=>rD Q3 ops 0 [] e h n (fun ex e h n=>K m ex e h n)
 |_,_,_,_,_,_=>False
/-! ### the model's recover -/
def tj (x:jJ):Bool:= !jI x
def NR (x:Option jJ):Prop:= ∀y,x=some y->tj y=true
theorem NR.bind {α:Type} {x:Option α} {f:α->Option jJ} (h: ∀a,NR (f a)):NR (x.bind f):=fun y hy=>by
 simp only [af] at hy;obtain ⟨a,_,hy⟩:=hy;exact h a y hy
theorem NR.map {α:Type} {x:Option α} {f:α->jJ} (h: ∀a,tj (f a)=true):NR (x.map f):=fun y hy=>by
 obtain ⟨a,_,rfl⟩:=bc.1 hy;exact h a
theorem NR.none:NR none:=fun y hy=>by cases hy
theorem NR.ite {c:Prop} [Decidable c] {x y:Option jJ} (h1:NR x) (h2:NR y):NR (if c then x else y):=by split<;>assumption
theorem NR.bK {x:Option jJ} (h:NR x):tj (bK x)=true:=by
 cases x with
 |none=>rfl
 |some y=>exact h y rfl
theorem qb {P:Program} {o:Op} (ho: ∀args tys,o≠ .call ⟨.builtin .recover,args,tys⟩):tj (db P o)=true:=by
 cases o<;>simp only [db]
 case call c=>
  obtain ⟨callee,args,tys⟩:=c;cases callee with
  |value f=>exact NR.bK (NR.bind fun _=>NR.map fun _=>rfl)
  |invoke r m=>rfl
  |builtin b=>
   simp only;repeat' split
   all_goals first
    |rfl
    |exact absurd rfl (ho _ _)
    |(refine NR.bK ?_;repeat (first|(refine NR.bind (fun _=> ?_))|exact NR.map (fun _=>rfl)|exact NR.none|refine NR.ite ?_ ?_))
 case makeFunc fn first caps=>
  cases fn with
  |func f=>simp only;repeat' split
           all_goals first|rfl|exact NR.bK (NR.map (fun _=>rfl))
  |_=>rfl
 all_goals (repeat' split)
 all_goals first
  |rfl
  |(refine NR.bK ?_;repeat (first|(refine NR.bind (fun _=> ?_))|exact NR.map (fun _=>rfl)|exact NR.none|refine NR.ite ?_ ?_))
theorem OX {P:Program} {ρ:Operand->Value} {o:Oper} {w:World} (h:jI (db P o.op)=true):(execOp ρ o).run P w= .ok .recover w:=by
 cases ho:o.op with
 |call c=>
  obtain ⟨callee,args,tys⟩:=c;rw [ho] at h;by_cases hb:callee= .builtin .recover
  ·subst hb;simp only [execOp,ho,resolve,invoke,Sem.run_bind,Sem.run_pure,Result.andThen_ok,builtin]
  ·have:=qb (P:=P) (o:= .call ⟨callee,args,tys⟩) (fun a t e=>hb (by cases e;rfl))
   simp [tj,h] at this
 |_=>
  rw [ho] at h;have:=qb (P:=P) (o:=o.op) (by rw [ho];simp)
  rw [ho] at this;simp [tj,h] at this
def ajf:jJ->Bool
 | .w9 _ _=>true
 |_=>false
def vE (x:jJ):Bool:= !ajf x
theorem yI {y:jJ} {x:cC} {l:List cC} (h:vE y=true) (e:y= .w9 x l):False:=by rw [e] at h;cases h
def ND (x:Option jJ):Prop:= ∀y,x=some y->vE y=true
theorem ND.bind {α:Type} {x:Option α} {f:α->Option jJ} (h: ∀a,ND (f a)):ND (x.bind f):=fun y hy=>by
 simp only [af] at hy;obtain ⟨a,_,hy⟩:=hy;exact h a y hy
theorem ND.map {α:Type} {x:Option α} {f:α->jJ} (h: ∀a,vE (f a)=true):ND (x.map f):=fun y hy=>by
 obtain ⟨a,_,rfl⟩:=bc.1 hy;exact h a
theorem ND.none:ND none:=fun y hy=>by cases hy
theorem ND.ite {c:Prop} [Decidable c] {x y:Option jJ} (h1:ND x) (h2:ND y):ND (if c then x else y):=by split<;>assumption
theorem ND.bK {x:Option jJ} (h:ND x):vE (bK x)=true:=by
 cases x with
 |none=>rfl
 |some y=>exact h y rfl
theorem pW {P:Program} {o:Op} (ho: ∀c,o≠ .defer c):vE (db P o)=true:=by
 cases o<;>simp only [db]
 case defer c=>exact absurd rfl (ho c)
 case call c=>
  obtain ⟨callee,args,tys⟩:=c;cases callee with
  |value f=>exact ND.bK (ND.bind fun _=>ND.map fun _=>rfl)
  |invoke r m=>rfl
  |builtin b=>
   simp only;repeat' split
   all_goals first
    |rfl
    |(refine ND.bK ?_;repeat (first|(refine ND.bind (fun _=> ?_))|exact ND.map (fun _=>rfl)|exact ND.none|refine ND.ite ?_ ?_))
 case makeFunc fn first caps=>
  cases fn with
  |func f=>simp only;repeat' split
           all_goals first|rfl|exact ND.bK (ND.map (fun _=>rfl))
  |_=>rfl
 all_goals (repeat' split)
 all_goals first
  |rfl
  |(refine ND.bK ?_;repeat (first|(refine ND.bind (fun _=> ?_))|exact ND.map (fun _=>rfl)|exact ND.none|refine ND.ite ?_ ?_))
/-! ### soundness -/
section
variable {P:Program} {N n0:Nat}
def I5 (N n0:Nat) (c0:Frame) (cs:List Frame) (D0:Nat->Prop) (φ0:bU) (H0:Hf) (w0:World) (K:uB) (ex:Exit) (a:Act) (cs':List Frame) (w:World):Prop:=
 ∃m D φ e h n,K m ex e h n/\n0<=n/\cs'={c0 with mode:=m}::cs/\a.defers=[]/\Rel D φ e h n N (w0.heap.size,[]) a w/\dR D0 φ0 H0 w0 D φ (ab h) w
theorem mT {c0:Frame} {cs:List Frame} {K:uB} {D0:Nat->Prop} {φ0:bU} {H0:Hf} {w0:World} {ops:Array Oper} {sp:List Nat} (hn0: ∀b,D0 b->b<n0) (hgu:lh ops.toList=true):
 ∀(l:List Oper) (i:Nat),(∀j,l[j]? =ops[i+j]?)->kL N l=true-> ∀(m:FrameMode) (e:Env) (h:Hp) (n:Nat) (D:Nat->Prop) (φ:bU) (a:Act) (w:World),n0<=n->a.defers=[]→
  nO (l.map (bp P ops.toList sp)) m e h n K->Rel D φ e h n N (w0.heap.size,[]) a w->dR D0 φ0 H0 w0 D φ (ab h) w→
  wpOpsSIn (Fw none) (0-1) P ops (I5 N n0 c0 cs D0 φ0 H0 w0 K) (List.range' i l.length) a ({c0 with mode:=m}::cs) w
 |[],i,_,_,m,e,h,n,D,φ,a,w,hn,hd0,hrun,hR,hS=>⟨m,D,φ,e,h,n,hrun,hn,rfl,hd0,hR,hS⟩
 |o::l,i,hl,hdst,m,e,h,n,D,φ,a,w,hn,hd0,hrun,hR,hS=>by
  have ho:ops[i]? =some o:=by simpa using (hl 0).symm
  have hl': ∀j,l[j]? =ops[(i+1)+j]? :=fun j=>by have:=hl (j+1);simpa [im,ur 1 j] using this
  simp only [kL,fL,aw] at hdst;have hom:o∈ops.toList:=bR (i:=i) (by simpa using ho)
  have hdN: ∀t,o.dst=some t->t<N:=fun t ht=>by
   have:=hdst.1;rw [ht] at this;exact bO this
  simp only [List.length_cons,List.range'_succ,wpOpsSIn,ho];refine ⟨fun _ _=>trivial,?_⟩;cases hog:o.guard with
  |some q=>
   obtain ⟨j,b⟩:=q;have h1:(ops.toList[j]?.bind (·.dst)).isSome=true:=by
    have:=er.1 hgu o hom;simpa [hog] using this
   obtain ⟨d,hd⟩:=mK.1 h1;simp only [jU] at hrun;obtain ⟨s0,hs0⟩: ∃s0,bp P ops.toList sp o=⟨o.dst,db P o.op,some (d,b),s0⟩:=by
    simp only [bp,hog,hd];exact ⟨_,rfl⟩
   rw [hs0] at hrun;exact hrun.elim
  |none=>
   have hw:Region.wanted o (yielded ops a.tmps)=true:=by simp [Region.wanted,hog]
   rw [hw];simp only [cu];simp only [jU] at hrun;obtain ⟨s0,hs0⟩: ∃s0,bp P ops.toList sp o=⟨o.dst,db P o.op,none,s0⟩:=by
    simp only [bp,hog];exact ⟨_,rfl⟩
   rw [hs0] at hrun;simp only [nO] at hrun;cases hr:jI (db P o.op) with
   |true=>
    rw [hr] at hrun;simp only at hrun;rw [OX hr];simp only;unfold Gd at hrun;split at hrun
    · -- nothing to recover
      simp only [recoverD];refine mT hn0 hgu l (i+1) hl' hdst.2 _ _ h n D φ _ w hn (by rw [put_defers];exact hd0) hrun ?_ hS
      exact hR.put hR.defers hdN (fun _ h=>h) (dh.refl _ _) hR.lt .ni hR.heap
    ·rename_i t u;simp only [recoverD];refine mT hn0 hgu l (i+1) hl' hdst.2 _ _ h n D φ _ w hn (by rw [put_defers];exact hd0) hrun ?_ hS
     exact hR.put hR.defers hdN (fun _ h=>h) (dh.refl _ _) hR.lt (.k t u) hR.heap
    ·exact hrun.elim
   |false=>
    rw [hr] at hrun;simp only at hrun;unfold lk at hrun;cases hst:cA Q3 (db P o.op) e h n with
    |none=>rw [hst] at hrun;exact hrun.elim
    |some r=>
     obtain ⟨c,E⟩:=r;rw [hst] at hrun;obtain ⟨hc,hp,hrun⟩:=hrun;simp only at hc hp;subst hc;have hrun:nO (l.map (bp P ops.toList sp)) m (ij o.dst E.v e) (E.fe h) E.n K:=o9 (k:=fun v=>nO (l.map (bp P ops.toList sp)) m (ij o.dst v e) (E.fe h) E.n K) hrun;have hst':step (db P o.op) e h n=some (true,E):=by
      unfold cA at hst;split at hst
      ·simp only [af] at hst;obtain ⟨v,_,hst⟩:=hst;split at hst<;>first|(simp only [af] at hst;obtain ⟨l,_,hst⟩:=hst;cases hst)|cases hst
      ·simp only [af] at hst;obtain ⟨v,_,hst⟩:=hst;split at hst
       ·simp only [aP,bq,nq] at hst;subst hst;cases hp
       ·cases hst
      ·exact hst
     have hfresh: ∀b,n<=b->b<E.n-> ¬D b:=fun b hb _ hD=>by have:=hR.lt b hD;omega
     have hH0:HR D φ (only (ab h) E.rd) w:=hR.heap.sub (fun b k hb=>by
      unfold only at hb;cases hi:inl E.rd b<;>simp [hi] at hb;exact hb)
     obtain ⟨φ',u,nx,w',hrr,hnx,hle,hv,hst2,hro,hmd,hnw⟩:=vn (P:=P) (ρ:=a.eval) (w:=w) (o:=o) hst' rfl (fun hlt=>hfresh n (bx _) hlt) (fun y hy x hx v hv=>nZ (fun t v _ hv=>hR.env t v hv) hx hR.heap hv) hH0;have hfull:=nb hR.heap (fun b k hb=>by unfold only at hb;cases hi:inl E.rd b<;>simp [hi] at hb;exact hb) hmd hst2 hro (fun _ _ _ _ _=> .inr trivial)
     rw [<-oC] at hfull;have hlt: ∀b,Dn D n E.n b->b<E.n:=fun b hb=>hb.elim (fun h=>by have:=hR.lt b h;omega) (fun h=>h.2)
     have fin:wpOpsSIn (Fw none) (0-1) P ops (I5 N n0 c0 cs D0 φ0 H0 w0 K) (List.range' (i+1) l.length) (a.put o.dst u) ({c0 with mode:=m}::cs) w':=
      mT hn0 hgu l (i+1) hl' hdst.2 _ _ _ _ _ φ' _ w' (by omega) (by rw [put_defers];exact hd0) hrun
       (hR.put (hR.defers.stays hR.heap hfull.eC) hdN hfull.sub hfull.agree hlt hv hfull.hr) (hS.trans hfull)
     rw [hrr];rcases hnx with rfl|⟨rfl,rfl⟩
     ·exact fin
     ·exact fin
theorem GP {c0:Frame} {cs:List Frame} {ct:List Nat} {D0:Nat->Prop} {φ0:bU} {H0:Hf} {w0:World} (hm:P.follows .mixedOrders=true) (hn0: ∀b,D0 b->b<n0):
 ∀(c:Code) (K:uB) (m:FrameMode) (e:Env) (h:Hp) (n:Nat),xk (bH P ct N c) m K e h n-> ∀(D:Nat->Prop) (φ:bU) (a:Act) (w:World),n0<=n->a.defers=[]->Rel D φ e h n N (w0.heap.size,[]) a w->dR D0 φ0 H0 w0 D φ (ab h) w→
  c.wpSIn (Fw none) (0-1) P (I5 N n0 c0 cs D0 φ0 H0 w0 K) a ({c0 with mode:=m}::cs) w:=by
 intro c;induction c with
 |skip=>
  intro K m e h n hi D φ a w hn hd hR hS;exact wpSIn_of_wpIn rfl (wpIn_skip ⟨m,D,φ,e,h,n,hi,hn,rfl,hd,hR,hS⟩)
 |region id ops draw=>
  intro K m e h n hi D φ a w hn hd hR hS;simp only [bH] at hi;split at hi
  ·rename_i hc;simp only [aw,iS,iH] at hc;obtain ⟨⟨hc1,hc2⟩,hc4⟩:=hc;cases draw
   ·simp only [cY,bV,xk] at hi;refine wpSIn_region ?_;have:=mT (P:=P) (N:=N) (n0:=n0) (c0:=c0) (cs:=cs) (K:=K) (D0:=D0) (φ0:=φ0) (H0:=H0) (w0:=w0) (ops:=ops) hn0 hc2 ops.toList 0 (by simp) hc1 m e h n D φ a w hn hd hi hR hS
    rw [List.range_eq_range'];simpa using this
   ·simp only [cu,xk] at hi;refine wpSIn_of_wpIn rfl (wpIn_mono (tT (ro:=none) (cx:=Q3) GS hm hn0 hc2 hc1 (hc4.resolve_left (by simp)).1 (hc4.resolve_left (by simp)).2 hn (kM hi) hR hS) (fun ex a' w' hp=> ?_))
    obtain ⟨⟨D',φ',e',h',n',hk,hn',hR',hS'⟩,hdf⟩:=hp;exact ⟨m,D',φ',e',h',n',hk,hn',rfl,hdf.trans hd,hR',hS'⟩
  ·exact hi.elim
 |seq x y ihx ihy=>
  intro K m e h n hi D φ a w hn hd hR hS;simp only [bH,xk] at hi;refine wpSIn_seq ?_;intro b k hb hro hF hroom;obtain ⟨ex,a',cs',w',hl,hp,harr⟩:=ihx _ m e h n hi D φ a w hn hd hR hS b k hb hro hF hroom;refine ⟨ex,a',cs',w',hl,?_,harr⟩;obtain ⟨m',D',φ',e',h',n',hk,hn',rfl,hd',hR',hS'⟩:=hp;cases ex with
  |normal=>exact ihy K m' e' h' n' hk D' φ' a' w' hn' hd' hR' hS'
  |exit id=>exact ⟨m',D',φ',e',h',n',hk,hn',rfl,hd',hR',hS'⟩
  |goto l=>exact ⟨m',D',φ',e',h',n',hk,hn',rfl,hd',hR',hS'⟩
  |ret=>exact ⟨m',D',φ',e',h',n',hk,hn',rfl,hd',hR',hS'⟩
  |panic ch=>exact ⟨m',D',φ',e',h',n',hk,hn',rfl,hd',hR',hS'⟩
  |outgrown=>exact ⟨m',D',φ',e',h',n',hk,hn',rfl,hd',hR',hS'⟩
 |cond c x y ihx ihy=>
  intro K m e h n hi D φ a w hn hd hR hS;simp only [bH] at hi;split at hi
  ·exact hi.elim
  ·rename_i x' hng hc;simp only [xk] at hi;obtain ⟨v,hv,hi⟩:=fw hi;split at hi
   ·rename_i b;have hvr:aI D φ (.b b) (a.eval c):=qU (fun t v _ hv=>hR.env t v hv) hc (fun g hg=>by subst hg;simp only [cO,aP] at hc;exact hng g hc.symm) hv
    generalize hu:a.eval c=u at hvr;cases hvr;refine wpSIn_cond hu ?_;cases b
    ·exact ihy K m e h n (hi.2 rfl) D φ a w hn hd hR hS
    ·exact ihx K m e h n (hi.1 rfl) D φ a w hn hd hR hS
   ·exact hi.elim
  ·exact hi.elim
 |ret=>
  intro K m e h n hi D φ a w hn hd hR hS;exact wpSIn_of_wpIn rfl (wpIn_ret ⟨m,D,φ,e,h,n,hi,hn,rfl,hd,hR,hS⟩)
 |label l=>
  intro K m e h n hi D φ a w hn hd hR hS;exact wpSIn_of_wpIn rfl (wpIn_label ⟨m,D,φ,e,h,n,hi,hn,rfl,hd,hR,hS⟩)
 |rangeFunc g ps x y ihx ihy=>
  intro K m e h n hi;simp only [bH] at hi;split at hi<;>exact hi.elim
 |_=>intro K m e h n hi;exact hi.elim
/-! ### the function -/
def qV (h:Hp):List Nat->Option (List AV)
 |[]=>some []
 |G::r=>(iC h G).bind fun v=>(qV h r).bind fun vs=>some (v::vs)
def G0 (m:FrameMode) (ex:Exit) (k:Prop):Prop:=
 match m,ex with
 | .returning,.normal=>k
 | .returning,.ret=>k
 | .panicking [{v:=_,recovered:=true,goexit:=false}],.normal=>k
 | .panicking [{v:=_,recovered:=true,goexit:=false}],.ret=>k
 |_,_=>False
def vP (rs:List lO) (Ic:bG) (Gs:List Nat) (Q:Option Value->AV->Hp->Nat->Prop) (m:FrameMode) (e:Env) (h:Hp) (n:Nat):Prop:=
 gd (qV h Gs) fun caps=>xk Ic m (fun m' ex' e' h' n'=>G0 m' ex' (gd (sM rs e h') fun r=>r.1=true/\Q none r.2 h' n')) (eS 0 caps) h n
def wU (rs:List lO) (Ic:bG) (Gs:List Nat) (Q:Option Value->AV->Hp->Nat->Prop):cF:=fun ex e h n=>
 match ex with
 | .normal=>vP rs Ic Gs Q .returning e h n
 | .ret=>vP rs Ic Gs Q .returning e h n
 | .panic ch=>vP rs Ic Gs Q (.panicking ch) e h n
 |_=>False
def FU (h:Hp):List AV->Option (List Nat)
 |[]=>some []
 | .p b 0::r=>(ab h b).bind fun k=>match k.ro,k.gr,k.gid with
  |false,none,none=>(FU h r).bind fun bs=>some (b::bs)
  |_,_,_=>none
 |_=>none
def nd (h:Hp):List Nat->List Nat->Hp
 |b::bs,G::Gs=>match ab h b with
  |some k=>ig (nd h bs Gs) b {k with gid:=some G}
  |none=>nd h bs Gs
 |_,_=>h
def fnK (v:AV) (k:FuncId->List AV->Prop):Prop:=match v with
 | .fn g caps=>k g caps
 |_=>False
theorem wD {v:AV} {k:FuncId->List AV->Prop} (h:fnK v k): ∃g caps,v= .fn g caps/\k g caps:=by
 cases v with
 |fn g caps=>exact ⟨g,caps,rfl,h⟩
 |_=>exact h.elim
def C5 (x:cC) (g:FuncId) (k:List Nat->Env->Hp->Nat->Prop):cF:=fun ex e h n=>
 match ex with
 | .normal=>gd (x.ev e h) fun v=>fnK v fun g' caps=>g'=g/\gd (FU h caps) fun bs=>bs.Nodup/\ ∀Gs:List Nat,Gs.length=bs.length->Gs.Nodup->k Gs e (nd h bs Gs) n
 |_=>False
theorem tz {h:Hp}: ∀{caps:List AV} {bs:List Nat},FU h caps=some bs->caps=bs.map (fun b=> .p b 0)/\ ∀b∈bs,∃k,ab h b=some k/\k.ro=false/\k.gr=none/\k.gid=none
 |[],bs,hp=>by simp [FU] at hp;subst hp;exact ⟨rfl,fun b hb=>by cases hb⟩
 |v::r,bs,hp=>by
  unfold FU at hp;split at hp
  ·rename_i he;cases he
  ·rename_i b r' he;cases he;simp only [af] at hp;obtain ⟨k,hk,hp⟩:=hp;split at hp
   ·rename_i h1 h2 h3;simp only [af,aP] at hp;obtain ⟨bs',hb,rfl⟩:=hp;obtain ⟨g1,g2⟩:=tz hb;refine ⟨by rw [g1];rfl,fun c hc=> ?_⟩
    rcases jD.1 hc with rfl|hc
    ·exact ⟨k,hk,h1,h2,h3⟩
    ·exact g2 c hc
   ·cases hp
  ·cases hp
theorem AE {h:Hp}: ∀{bs Gs:List Nat},bs.Nodup->Gs.length=bs.length->(∀b∈bs,∃k,ab h b=some k)-> ∀c,ab (nd h bs Gs) c=(match (bs.zip Gs).find? (fun q=>q.1==c) with|some q=>(ab h c).map fun k=>{k with gid:=some q.2}|none=>ab h c)
 |[],Gs,_,_,_,c=>by cases Gs<;>rfl
 |b::bs,[],_,hl,_,c=>by simp at hl
 |b::bs,G::Gs,hn,hl,hh,c=>by
  obtain ⟨k,hk⟩:=hh b ja;have ih:=AE (h:=h) (D5.1 hn).2 (Gs:=Gs) (by simpa using hl) (fun b' hb'=>hh b' (iZ _ hb')) c
  simp only [nd,hk,l9,List.zip_cons_cons,List.find?_cons];by_cases hcb:c=b
  ·subst hcb;simp [hk]
  ·have:(b==c)=false:=by simp;exact fun e=>hcb e.symm
   rw [this,aN hcb,ih]
theorem yB {D:Nat->Prop} {φ:bU} {h:Hp} {w:World} (hH:HR D φ (ab h) w): ∀{Gs:List Nat} {caps:List AV},qV h Gs=some caps->cJ D φ caps (Gs.map fun G=> .pointer (some ⟨G,0,none⟩))
 |[],caps,hc=>by simp [qV] at hc;subst hc;exact .nil
 |G::Gs,caps,hc=>by
  simp only [qV,af,aP] at hc;obtain ⟨v,hv,vs,hvs,rfl⟩:=hc;refine .cons ?_ (yB hH hvs);obtain ⟨c,k,rfl,hk,hg⟩:=tX hv;obtain ⟨hd,hb⟩:=hH.at_ c k hk;obtain ⟨h1,h2⟩:=hb.gid G hg;have:=aI.p (D:=D) (φ:=φ) c 0 hd;rw [h1,h2] at this;exact this
theorem HX {m:FrameMode} {ex:Exit} {k:Prop} (h:G0 m ex k):k/\settle m= .returning/\(ex= .normal\/ex= .ret):=by
 unfold G0 at h;split at h
 ·exact ⟨h,rfl,.inl rfl⟩
 ·exact ⟨h,rfl,.inr rfl⟩
 ·exact ⟨h,rfl,.inl rfl⟩
 ·exact ⟨h,rfl,.inr rfl⟩
 ·exact h.elim
theorem mQ {cx:Cx} (hcx:Sound P cx) {M:Nat×List Deferred} {K:cF} {D0:Nat->Prop} {φ0:bU} {H0:Hf} {w0:World} {ops:Array Oper} {sp:List Nat} {Q:Exit->Act->World->Prop} {l2:List Oper} (hn0: ∀b,D0 b->b<n0) (hgu:lh ops.toList=true):
 ∀(l:List Oper),(∀o∈l,o∈ops.toList)->kL N l=true-> ∀(e:Env) (h:Hp) (n:Nat) (D:Nat->Prop) (φ:bU) (a:Act) (w:World),n0<=n→
  ic cx (l.map (bp P ops.toList sp)) e h n K->Rel D φ e h n N M a w->dR D0 φ0 H0 w0 D φ (ab h) w→
  (∀D φ e h n a' w',K .normal e h n->n0<=n->a'.defers=a.defers->Rel D φ e h n N M a' w'->dR D0 φ0 H0 w0 D φ (ab h) w'->wpListIn (Fw none) 0 P ops Q l2 a' w')→
  (∀ch e h n,¬K (.panic ch) e h n)→
  wpListIn (Fw none) 0 P ops Q (l++l2) a w
 |[],_,_,e,h,n,D,φ,a,w,hn,hrun,hR,hS,hK,_=>hK D φ e h n a w hrun hn rfl hR hS
 |o::l,hmem,hdst,e,h,n,D,φ,a,w,hn,hrun,hR,hS,hK,hP=>by
  simp only [jU,ic] at hrun;obtain ⟨b,hb,hrun⟩:=fw hrun;simp only [kL,fL,aw] at hdst;have hog: ∀j c,o.guard=some (j,c)->((ops.toList[j]?).bind (·.dst)).isSome=true:=fun j c hg=>by
   have:=er.1 hgu o (hmem o (ja));simpa [hg] using this
  have hgeq:(bp P ops.toList sp o).guard=(bp P ops.toList [] o).guard:=by
   unfold bp;split
   ·rfl
   ·split<;>rfl
  have hdeq:(bp P ops.toList sp o).dst=o.dst:=by
   unfold bp;split
   ·rfl
   ·split<;>rfl
  have hopeq:(bp P ops.toList sp o).op=db P o.op:=by
   unfold bp;split
   ·rfl
   ·rename_i j c hg;obtain ⟨d,hd⟩:=mK.1 (hog j c hg);rw [hd]
  have hdN: ∀t,o.dst=some t->t<N:=fun t ht=>by
   have:=hdst.1;rw [ht] at this;exact bO this
  have hw:=qk (P:=P) (o:=o) (D:=D) (φ:=φ) (a:=a) (fun d c v _ hv=>hR.env d v hv) hgeq hog hb;have ih:=fun e h n D φ a w=>mQ hcx (M:=M) (K:=K) (sp:=sp) (D0:=D0) (φ0:=φ0) (H0:=H0) (w0:=w0) (Q:=Q) (l2:=l2) hn0 hgu l (fun o ho=>hmem o (iZ _ ho)) hdst.2 e h n D φ a w;show wpListIn _ _ _ _ _ (o::(l++l2)) _ _;unfold wpListIn;rw [hw];cases b
  ·simp only [cY,bV];simp only at hrun;rw [hdeq] at hrun;exact ⟨fun _ _=>trivial,ih _ h n D φ _ w hn hrun (hR.put hR.defers hdN (fun _ h=>h) (dh.refl _ _) hR.lt zW hR.heap) hS (fun D φ e h n a' w' h1 h2 h3=>hK D φ e h n a' w' h1 h2 (by rw [h3,put_defers])) hP⟩
  ·simp only [cu];simp only at hrun;obtain ⟨r,hr,hrun⟩:=fw hrun;obtain ⟨c,E⟩:=r;obtain ⟨hc,hrun⟩:=hrun;simp only at hc hrun;subst hc;rw [hopeq] at hr;rw [hdeq] at hrun;have hfresh: ∀b,n<=b->b<E.n-> ¬D b:=fun b hb _ hD=>by have:=hR.lt b hD;omega
   have hH0:HR D φ (only (ab h) E.rd) w:=hR.heap.sub (fun b k hb=>by
    unfold only at hb;cases hi:inl E.rd b<;>simp [hi] at hb;exact hb)
   refine JY hcx hr hfresh (fun y hy x hx v hv=>nZ (fun t v _ hv=>hR.env t v hv) hx hR.heap hv) hH0 (fun φ' u w' hle hv hst hro hmd hnw=> ?_);have hfull:=nb hR.heap (fun b k hb=>by unfold only at hb;cases hi:inl E.rd b<;>simp [hi] at hb;exact hb) hmd hst hro (fun _ _ _ _ _=> .inr trivial)
   rw [<-oC] at hfull;have hlt: ∀b,Dn D n E.n b->b<E.n:=fun b hb=>hb.elim (fun h=>by have:=hR.lt b h;omega) (fun h=>h.2)
   unfold DY at hrun;cases hp:E.pn with
   |none=>
    rw [hp] at hrun;exact ih _ _ _ _ φ' _ w' (by omega) (o9 hrun) (hR.put (hR.defers.stays hR.heap hfull.eC) hdN hfull.sub hfull.agree hlt hv hfull.hr) (hS.trans hfull) (fun D φ e h n a' w' h1 h2 h3=>hK D φ e h n a' w' h1 h2 (by rw [h3,put_defers])) hP
   |some p=>
    rw [hp] at hrun;exact (hP _ _ _ _ hrun).elim
theorem Dv {N n:Nat} {D:Nat->Prop} {φ:bU} {h:Hp} {w:World} {args:List AV} {us:Array Value} {m:Nat×List Deferred} (hD: ∀b,D b->b<n) (hH:HR D φ (ab h) w) (hargs:cJ D φ args us.toList) (hle:args.length<=N) (hm:m.2=[]):
 Rel D φ (eS 0 args) h n N m {tmps:=us++Array.replicate (N-us.size) undef,defers:=[]} w:=by
 obtain ⟨m1,m2⟩:=m;simp only at hm;subst hm;refine ⟨hD,fun t v hv=> ?_,hH,by have:=hargs.1;simp at this ⊢;omega,Mk.nil⟩
 obtain ⟨_,hv'⟩:=qP hv;obtain ⟨u,hu,hr⟩:=hargs.get hv';have hlt:t<us.size:=by
  rcases dw t us.size with h'|h'
  ·exact h'
  ·rw [C1,fM (by simpa using h')] at hu;cases hu
 have:(us++Array.replicate (N-us.size) undef).getD t undef=u:=by
  rw [lX,Bj hlt];simp at hu ⊢;simp [hu]
 rw [this];exact hr
theorem xI {fn gn:Func} {g:FuncId} {Ig:dm} {rs:List lO} {R:Ending->World->Prop} {Q:Option Value->AV->Hp->Nat->Prop} {Gs:List Nat} {m0:FrameMode} {N0 n':Nat} {e':Env} {h':Hp} {D D':Nat->Prop} {φ φ':bU} {H:Hf} {a':Act} {w w':World}
 (hm:P.follows .mixedOrders=true) (hcal:bJ P g=true) (hg:P.funcs[g]? =some gn) (hIg:aK P gn=some Ig) (hgr:Ig.res=[]) (hgN:Gs.length<=Ig.N) (hrs:kh P fn.results.toList=some rs) (hm0:m0≠ .run)
 (hk:vP rs Ig.code Gs Q m0 e' h' n')
 (hR:Rel D' φ' e' h' n' N0 (w.heap.size,[{target:= .fn (.func g) (Gs.map fun G=>Value.pointer (some ⟨G,0,none⟩)).toArray,args:= #[]}]) a' w') (hS:dR D φ H w D' φ' (ab h') w')
 (fin: ∀D3 φ3 v3 h3 n3 u w3,Q none v3 h3 n3->(∀b,D3 b->b<n3)->aI D3 φ3 v3 u->HR D3 φ3 (ab h3) w3->dR D φ H w D3 φ3 (ab h3) w3->R (.returned u) w3):
 LeavesInM (Fw none) 0 P fn a'.tmps R a'.defers m0 w':=by
 refine qv hm0 hR hS (fun w1 hR1 hS1=> ?_);simp only [aK,af] at hIg;obtain ⟨cg,hcg,rg,hrg,hIg⟩:=hIg;split at hIg
 ·rename_i hle;rw [aw] at hle;have hgy:g≠YB:=EJ hg hle.2;simp only [aP] at hIg;subst hIg;simp only at hgr hgN hk;subst hgr;obtain ⟨caps,hcaps,hk⟩:=fw hk;have hA:=yB hR1.heap hcaps;have hlen:caps.length=Gs.length:=by have:=hA.1;simpa using this
  refine ⟨hm0,.inr ⟨fun hd=>(by cases hd),.func g,(Gs.map fun G=>Value.pointer (some ⟨G,0,none⟩)).toArray,g,(Gs.map fun G=>Value.pointer (some ⟨G,0,none⟩)).toArray,rfl,?_,fun _ _=>trivial,?_⟩⟩
  ·simp only [invoke,Array.empty_append];rw [j4 hgy hcal (px hg hcg)]
  ·refine callsDIn_of_wpSIn hg hcg trivial (fun c0 cs hmode=> ?_);intro b k hb hro hF hroom;have hc0:({c0 with mode:=m0}:Frame)=c0:=by subst hmode;rfl
   have hRg:=Dv (N:=gn.ntmps) (m:=(w1.heap.size,[])) hR1.lt hR1.heap (us:=(Gs.map fun G=>Value.pointer (some ⟨G,0,none⟩)).toArray) (args:=caps) (by simpa using hA) (by omega) rfl
   obtain ⟨ex,a3,cs3,w3,hl,hp,harr⟩:=GP (P:=P) (N:=gn.ntmps) (n0:=n') (c0:=c0) (cs:=cs) (ct:=dq cg) (D0:=D') (φ0:=φ') (H0:=ab h') (w0:=w1) hm hR1.lt cg _ m0 _ h' n' hk D' φ' _ w1 (bx _) rfl hRg (dR.refl hR1.heap) b k hb hro hF (by simpa using hroom)
   rw [hc0] at harr;refine ⟨ex,a3,cs3,w3,by simpa using hl,?_,harr⟩
   obtain ⟨m3,D3,φ3,e3,h3,n3,hk3,hn3,rfl,hd3,hR3,hS3⟩:=hp;obtain ⟨hk3,ig,hex⟩:=HX hk3;obtain ⟨r,hr,hrc,hQ⟩:=fw hk3;have hRc:Rel D3 φ3 e' h3 n3 N0 (w.heap.size,[]) {a' with defers:=[]} w3:=⟨hR3.lt,fun t v hv=>(hR1.env t v hv).mono hS3.sub hS3.agree,hR3.heap,hR1.size,Mk.nil⟩
   obtain ⟨u,hres,hvr⟩:=yZ (fn:=fn) (a':={a' with defers:=[]}) hRc hrs hr hrc
   obtain ⟨ug,hgres,_⟩:=yZ (fn:=gn) (rs:=[]) (q:=(true,.bg [])) hR3 hrg rfl rfl;have hfin: ∃v,(results fn a'.tmps).run P w3= .ok v w3/\R (.returned v) w3:=⟨u,hres,fin D3 φ3 r.2 h3 n3 u w3 hQ hR3.lt hvr hR3.heap (hS1.trans hS3)⟩;have hpost:a3.defers=[]/\ ∃u',({c0 with mode:=m3}::cs)={c0 with mode:=u'}::cs/\ ∃v,(results gn a3.tmps).run P w3= .ok v w3/\LeavesInM (Fw none) 0 P fn a'.tmps R [] (settle u') w3:=
    ⟨hd3,m3,rfl,ug,hgres,by rw [ig];exact hfin⟩
   rcases hex with rfl|rfl
   ·exact hpost
   ·exact hpost
 ·cases hIg
theorem Cf {h:Hp} {D:Nat->Prop} {φ:bU} {w:World} {bs:List Nat} (hn:bs.Nodup) (hh: ∀b∈bs,∃k,ab h b=some k/\k.ro=false/\k.gr=none/\k.gid=none) (hH:HR D φ (ab h) w):
 HR D φ (ab (nd h bs (bs.map φ.cW))) w/\(∀b k,ab (nd h bs (bs.map φ.cW)) b=some k-> ∃k0,ab h b=some k0/\k0.ro=k.ro):=by
 have hget':=AE (h:=h) (Gs:=bs.map φ.cW) hn (by simp) (fun b hb=>let ⟨k,hk,_⟩:=hh b hb;⟨k,hk⟩)
 have key: ∀b k,ab (nd h bs (bs.map φ.cW)) b=some k-> ∃k0,ab h b=some k0/\(k=k0\/(b∈bs/\k={k0 with gid:=some (φ.cW b)})):=fun b k hb=>by
  rw [hget'] at hb;split at hb
  ·rename_i q hq;obtain ⟨k0,hk0,rfl⟩:=bc.1 hb;refine ⟨k0,hk0,.inr ?_⟩;have h1:=List.mem_of_find?_eq_some hq;have h2:=List.find?_some hq;simp only [lU] at h2;have hz: ∀l:List Nat,l.zip (l.map φ.cW)=l.map (fun b=>(b,φ.cW b)):=fun l=>by
    induction l with
    |nil=>rfl
    |cons x l ih=>simp [ih]
   have h3:q∈bs.map (fun b=>(b,φ.cW b)):=by rw [hz] at h1;exact h1
   obtain ⟨b',hb',rfl⟩:=List.mem_map.1 h3;simp only at h2;subst h2;exact ⟨hb',rfl⟩
  ·exact ⟨k,hb,.inl rfl⟩
 refine ⟨⟨⟨fun b k hb=> ?_,fun b1 b2 k1 k2 hne h1 h2 hro=> ?_⟩,hH.fz,hH.lp,fun b k B vs hb hk hB=> ?_⟩,fun b k hb=> ?_⟩
 ·obtain ⟨k0,hk0,hkk⟩:=key b k hb;obtain ⟨hd,hb0⟩:=hH.at_ b k0 hk0;rcases hkk with rfl|⟨hbs,rfl⟩
  ·exact ⟨hd,hb0⟩
  ·obtain ⟨k1,hk1,g1,g2,g3⟩:=hh b hbs;rw [hk0] at hk1;cases hk1;refine ⟨hd,⟨hb0.ex,fun g hg=> ?_⟩⟩;simp only [aP] at hg;obtain ⟨cs,elem,fr,q1,q2,q3,q4⟩:=hb0.ex;exact ⟨hg,(q3 g1).1 g2⟩
 ·obtain ⟨KF,hk1,hkk1⟩:=key b1 k1 h1;obtain ⟨F3,hk2,hkk2⟩:=key b2 k2 h2;exact hH.sep b1 b2 KF F3 hne hk1 hk2 (by rcases hkk1 with rfl|⟨_,rfl⟩<;>exact hro)
 ·obtain ⟨k0,hk0,hkk⟩:=key b k hb;exact hH.kD b k0 B vs hk0 (by rcases hkk with rfl|⟨_,rfl⟩<;>exact hk) hB
 ·obtain ⟨k0,hk0,hkk⟩:=key b k hb;exact ⟨k0,hk0,by rcases hkk with rfl|⟨_,rfl⟩<;>rfl⟩
theorem wk {h:Hp} {D:Nat->Prop} {φ:bU} {w:World} (hH:HR D φ (ab h) w): ∀{bs:List Nat} {us:List Value},(∀b∈bs,∃k,ab h b=some k/\k.ro=false/\k.gr=none/\k.gid=none)->cJ D φ (bs.map fun b=> .p b 0) us->us=(bs.map φ.cW).map fun G=>Value.pointer (some ⟨G,0,none⟩)
 |[],us,_,hA=>by simpa using hA.kK
 |b::bs,us,hbk,hA=>by
  obtain ⟨u,m',rfl,g1,g2⟩:=hA.dZ;have:=wk hH (fun b' hb'=>hbk b' (iZ _ hb')) g2;subst this;obtain ⟨k,hk,k1,k2,_⟩:=hbk b ja;obtain ⟨_,⟨⟨cs,elem,fr,q1,q2,q3,q4⟩,q5⟩⟩:=hH.at_ b k hk;have hoff:=(q3 k1).1 k2;cases g1;simp [hoff]
theorem wZ {h:Hp} {D:Nat->Prop} {φ:bU} {w:World} (hH:HR D φ (ab h) w): ∀{bs:List Nat},bs.Nodup->(∀b∈bs,∃k,ab h b=some k/\k.ro=false/\k.gr=none/\k.gid=none)->(bs.map φ.cW).Nodup
 |[],_,_=>List.nodup_nil
 |b::bs,hnd,hbk=>by
  have hh:=D5.1 hnd;refine D5.2 ⟨fun hin=> ?_,wZ hH hh.2 (fun b' hb'=>hbk b' (iZ _ hb'))⟩;obtain ⟨b',hb',he⟩:=List.mem_map.1 hin;obtain ⟨k,hk,k1,_⟩:=hbk b ja;obtain ⟨k',hk',_⟩:=hbk b' (iZ _ hb');exact hH.sep b b' k k' (fun e=>hh.1 (e▸hb')) hk hk' k1 he.symm
theorem cL.Zu {C:Nat->AV->Hp->Nat->AV->Hp->Nat->Prop} (hC:z7 C) {f g:FuncId} {fn gn:Func} {I Ig:dm} {cx:Cx} {args:List AV} {pn:Option Value} {n:Nat} {h:Hp} {v2:AV} {h2:Hp} {n2:Nat} {ops:List aj} {x:cC} {s:Bool} {rest:bG}
 (hcx:Sound P cx) (hm:P.follows .mixedOrders=true) (hf:P.funcs[f]? =some fn) (hI:aK P fn=some I) (hnp:args.length<=I.N) (hcode:I.code= .seq (.cQ (ops++[⟨none,.w9 x [],none,s⟩])) rest)
 (hcal:bJ P g=true) (hg:P.funcs[g]? =some gn) (hIg:aK P gn=some Ig) (hgr:Ig.res=[])
 (hi:ic cx ops (eS 0 args) h n (C5 x g fun Gs e h' n'=>Gs.length<=Ig.N/\ck ⟨P,cx,I.ct,I.N,n⟩ rest (wU I.res Ig.code Gs fun p v h' n'=>p=pn/\C n v h' n' v2 h2 n2) e h' n')):cL P f args h n pn v2 h2 n2:=by
 intro D φ w us hD0 hH hargs;have hD: ∀b,(fun b=>b<n) b->b<n:=fun b hb=>hb;have hH:HR (fun b=>b<n) φ (ab h) w:=hH.grow hD0;have hargs:cJ (fun b=>b<n) φ args us:=hargs.mono hD0 (dh.refl _ _);have hout: ∀D' φ' H' w',dR (fun b=>b<n) φ (ab h) w D' φ' H' w'->dR D φ (ab h) w D' φ' H' w':=fun D' φ' H' w' hs=>⟨fun b hb=>hs.sub b (hD0 b hb),⟨fun b hb=>hs.agree b (hD0 b hb),hs.agree.fz,hs.agree.lp⟩,hs.hr,hs.eC,hs.oY,hs.jO⟩;simp only [aK,af] at hI;obtain ⟨c,hc,rs,hrs,hI⟩:=hI;split at hI
 ·rename_i hle;rw [aw] at hle;have hfy:f≠YB:=EJ hf hle.2;have hle:=bO hle.1;simp only [aP] at hI;subst hI;simp only at hi hnp hcode;refine rT.of (oM hf hc ?_) hfy (px hf hc)
  -- the code
  obtain ⟨c1,c2,rfl,q1,q2⟩: ∃c1 c2,c= .seq c1 c2/\bH P (dq c) fn.ntmps c1= .cQ (ops++[⟨none,.w9 x [],none,s⟩])/\bH P (dq c) fn.ntmps c2=rest:=by
   revert hcode;generalize dq c=ct;intro hcode;cases c with
   |seq c1 c2=>simp only [bH,bG.seq.injEq] at hcode;exact ⟨c1,c2,rfl,hcode.1,hcode.2⟩
   |region id ops draw=>simp only [bH] at hcode;split at hcode<;>(try split at hcode)<;>cases hcode
   |cond x y z=>simp only [bH] at hcode;split at hcode<;>cases hcode
   |rangeFunc g' ps' A' B'=>simp only [bH] at hcode;split at hcode<;>cases hcode
   |_=>simp [bH] at hcode
  obtain ⟨id,rops,rfl,hok,hmap⟩: ∃id rops,c1= .region id rops false/\(kL fn.ntmps rops.toList=true/\lh rops.toList=true)/\rops.toList.map (bp P rops.toList (kl rops.toList++dq (.seq c1 c2)))=ops++[⟨none,.w9 x [],none,s⟩]:=by
   revert q1;generalize dq (.seq c1 c2)=ct;intro h1;cases c1 with
   |seq _ _=>simp [bH] at h1
   |region id ops draw=>
    simp only [bH] at h1;split at h1
    ·rename_i hcnd;cases draw
     ·simp only [cY,bV,bG.cQ.injEq] at h1;simp only [aw] at hcnd;exact ⟨id,ops,rfl,hcnd.1,h1⟩
     ·simp at h1
    ·cases h1
   |cond x y z=>simp only [bH] at h1;split at h1<;>cases h1
   |rangeFunc g' ps' A' B'=>simp only [bH] at h1;split at h1<;>cases h1
   |_=>simp [bH] at h1
  generalize kl rops.toList++dq (.seq (.region id rops false) c2)=sp at hmap;obtain ⟨l,od,hsplit,hmapl,hod⟩: ∃l od,rops.toList=l++[od]/\l.map (bp P rops.toList sp)=ops/\bp P rops.toList sp od=⟨none,.w9 x [],none,s⟩:=by
   obtain ⟨l1,l2,e1,e2,e3⟩:=List.map_eq_append_iff.1 hmap;cases l2 with
   |nil=>simp at e3
   |cons od l3=>
    cases l3 with
    |nil=>simp at e3;exact ⟨l1,od,e1,e2,e3⟩
    |cons _ _=>simp at e3
  -- the statement 'defer'
  obtain ⟨hog,hodst,cd,fo,hop,hcf,hfo,hca⟩:od.guard=none/\od.dst=none/\ ∃cd fo,od.op= .defer cd/\cd.callee= .value fo/\cO fo=some x/\cd.args= #[]:=by
   unfold bp at hod;split at hod
   ·rename_i hg0;simp only [aj.mk.injEq] at hod;obtain ⟨g1,g2,_⟩:=hod;refine ⟨hg0,g1,?_⟩;have h0: ∀o:Op,db P o= .w9 x []-> ∃cd fo,o= .defer cd/\cd.callee= .value fo/\cO fo=some x/\cd.args= #[]:=fun o ho=>by
     cases o with
     |defer cd=>
      simp only [db] at ho;split at ho
      ·rename_i fo hfo;cases hx:cO fo with
       |none=>simp [hx,bK] at ho
       |some x'=>
        cases hl:vr cd.args.toList with
        |none=>simp [hx,hl,bK] at ho
        |some l'=>
         simp only [hx,hl,aS,fN,bK,gq,jJ.w9.injEq] at ho;obtain ⟨rfl,rfl⟩:=ho;refine ⟨cd,fo,rfl,hfo,hx,?_⟩;cases hal:cd.args.toList with
         |nil=>exact Array.toList_inj.1 (by simpa using hal)
         |cons y r=>
          rw [hal] at hl;simp only [vr,af] at hl;obtain ⟨_,_,_,_,hl⟩:=hl;cases hl
      ·cases ho
     |_=>
      exfalso;exact yI (pW (by simp)) ho
    exact h0 _ g2
   ·split at hod<;>simp at hod
  have hR:=Dv (N:=fn.ntmps) (m:=(w.heap.size,[])) hD hH (us:=us.toArray) (args:=args) (by simpa using hargs) hnp rfl
  refine wpIn_seq (wpIn_region_list ?_);rw [hsplit];have hmem: ∀o∈l,o∈rops.toList:=fun o ho=>by rw [hsplit];exact List.mem_append_left _ ho
  have hdl:kL fn.ntmps l=true:=by
   have:=hok.1;rw [hsplit] at this;simp only [kL,List.all_append,aw] at this;exact this.1
  refine mQ (n0:=n) hcx (M:=(w.heap.size,[])) (sp:=sp) hD hok.2 l hmem hdl (eS 0 args) h n _ φ _ w (bx _) (by rw [hmapl];exact hi) hR (dR.refl hH) (fun D1 φ1 e1 h1 n1 a1 w1 hK hn1 hd1 hR1 hS1=> ?_) (fun ch e h n hk=>hk)
  -- at the statement
  simp only at hd1;obtain ⟨v,hv,hK1⟩:=fw hK;obtain ⟨g',caps,hvg,hgg,hK2⟩:=wD hK1;clear hK1 hK;subst hvg;subst hgg;obtain ⟨bs,hbs,hnd,hK⟩:=fw hK2;clear hK2
  ·obtain ⟨rfl,hbk⟩:=tz hbs;have hvr:=nZ (fun t v _ hv=>hR1.env t v hv) hfo hR1.heap hv;obtain ⟨hgy,capsV,hev,hcv⟩:=hvr.wR;have hcapsV:=wk hR1.heap hbk hcv;obtain ⟨hHG,hkG⟩:=Cf hnd hbk hR1.heap;have hGnd:=wZ hR1.heap hnd hbk;obtain ⟨hGN,hseam⟩:=hK (bs.map φ1.cW) (by simp) hGnd
   -- the step
   unfold wpListIn;have hwant:Region.wanted od (yielded rops a1.tmps)=true:=by simp [Region.wanted,hog]
   rw [hwant];simp only [cu];refine ⟨fun _ _=>trivial,?_⟩;show od.uponIn (Fw none) 0 P a1 _ _ ((od.semAt none a1.eval).run P w1);rw [Oper.semAt_none];have hrun:(execOp a1.eval od).run P w1= .ok (.defer {target:= .fn (.func g') capsV.toArray,args:= #[]}) w1:=by
    obtain ⟨callee,cargs,ctys⟩:=cd;simp only at hcf hca;subst hcf;subst hca;simp only [execOp,hop,resolve,Sem.run_bind,hev,Deferred.ofValue,Sem.run_pure,Result.andThen_ok];simp
   rw [hrun,Oper.uponIn_defer,hd1,hodst];unfold wpListIn;show Code.wpIn _ _ _ _ _ _ _;have hS2:dR (fun b=>b<n) φ (ab h) w D1 φ1 (ab (nd h1 bs (bs.map φ1.cW))) w1:=
    ⟨hS1.sub,hS1.agree,hHG,hS1.eC,fun b k hb hk=>by
      obtain ⟨k0,hk0,hro⟩:=hkG b k hb;exact hS1.oY b k0 hk0 (by rw [hro];exact hk),hS1.jO⟩
   have hR2:Rel D1 φ1 e1 (nd h1 bs (bs.map φ1.cW)) n1 fn.ntmps (w.heap.size,[{target:= .fn (.func g') capsV.toArray,args:= #[]}]) ({a1 with defers:=[{target:= .fn (.func g') capsV.toArray,args:= #[]}]}.put none undef) w1:=
    ⟨hR1.lt,hR1.env,hHG,hR1.size,Mk.nil⟩
   have hw:=hseam c2 q2 none (.inl rfl) [{target:= .fn (.func g') capsV.toArray,args:= #[]}] _ φ (ab h) w hD hn1 D1 φ1 _ w1 hR2 hS2;refine wpIn_mono hw (fun ex a' w' hp=> ?_);obtain ⟨D',φ',e',h',n',hk,hn',hR',hS'⟩:=hp;rw [hcapsV] at hR';have leave: ∀m0:FrameMode,m0≠ .run->vP rs Ig.code (bs.map φ1.cW) (fun p v h' n'=>p=pn/\C n v h' n' v2 h2 n2) m0 e' h' n'→
    LeavesInM (Fw none) 0 P fn a'.tmps (fun e w'=> ∃D' φ' u,e=GQ pn u/\(∀b,D' b->b<n2)/\aI D' φ' v2 u/\dR D φ (ab h) w D' φ' (ab h2) w') a'.defers m0 w':=fun m0 hm0 hk=>by
    refine xI hm hcal hg hIg hgr hGN hrs hm0 hk hR' hS' (fun D3 φ3 v3 h3 n3 u w3 hQ hlt3 hv3 hH3 hS3=> ?_);obtain ⟨hpn,hW⟩:=hQ;subst hpn;obtain ⟨D4,φ4,k1,k2,k3⟩:=hC _ _ _ _ _ _ _ hW D3 φ3 w3 _ φ _ w u hD hlt3 hv3 hH3 hS3;exact ⟨_,_,_,rfl,k1,k2,hout _ _ _ _ k3⟩
   cases ex with
   |normal=>exact leave .returning (by simp) hk
   |ret=>exact leave .returning (by simp) hk
   |panic ch=>exact leave (.panicking ch) (by simp) hk
   |_=>exact hk.elim
 ·cases hI
end
end Go.Ab
namespace Go.Ab
theorem x8 {x:cC} {g:FuncId} {k k':List Nat->Env->Hp->Nat->Prop} (hk: ∀Gs e h n,k Gs e h n->k' Gs e h n) (ex:Exit) (e:Env) (h:Hp) (n:Nat) (hd:C5 x g k ex e h n):C5 x g k' ex e h n:=by
 cases ex with
 |normal=>
  refine gX (fun v hv=> ?_) hd;obtain ⟨g',caps,rfl,h1,h2⟩:=wD hv;exact ⟨h1,gX (fun bs hb=>⟨hb.1,fun Gs g1 g2=>hk _ _ _ _ (hb.2 Gs g1 g2)⟩) h2⟩
 |_=>exact hd.elim
theorem jl {x:cC} {g:FuncId} {k:List Nat->Env->Hp->Nat->Prop} {e:Env} {h:Hp} {n:Nat} {caps:List AV} {bs:List Nat} (h1:x.ev e h=some (.fn g caps)) (h2:FU h caps=some bs) (h3:bs.Nodup) (h4: ∀Gs:List Nat,Gs.length=bs.length->Gs.Nodup->k Gs e (nd h bs Gs) n):C5 x g k .normal e h n:=by
 show gd _ _;rw [h1];refine ⟨rfl,?_⟩;rw [h2];exact ⟨h3,h4⟩
theorem cL.Pn {P:Program} {C:Nat->AV->Hp->Nat->AV->Hp->Nat->Prop} (hC:z7 C) {f g:FuncId} {fn gn:Func} {I Ig:dm} {cx:Cx} {args:List AV} {pn:Option Value} {n:Nat} {h:Hp} {v2:AV} {h2:Hp} {n2:Nat} {ops:List aj} {x:cC} {s:Bool} {rest:bG}
 (hcx:Sound P cx) (hm:P.follows .mixedOrders=true) (hf:P.funcs[f]? =some fn) (hI:aK P fn=some I) (hnp:args.length<=I.N) (hcode:I.code= .seq (.cQ (ops++[⟨none,.w9 x [],none,s⟩])) rest)
 (hcal:bJ P g=true) (hg:P.funcs[g]? =some gn) (hIg:aK P gn=some Ig) (hgr:Ig.res=[])
 (hi:jR cx ops (eS 0 args) h n (C5 x g fun Gs e h' n'=>Gs.length<=Ig.N/\jw ⟨P,cx,I.ct,I.N,n⟩ rest (wU I.res Ig.code Gs fun p v h' n'=>p=pn/\C n v h' n' v2 h2 n2) e h' n')):cL P f args h n pn v2 h2 n2:=
 cL.Zu hC hcx hm hf hI hnp hcode hcal hg hIg hgr (iK (x8 fun Gs e h n hk=>⟨hk.1,fun c' hc'=>gL ⟨P,cx,I.ct,I.N,_⟩ hcx hm c' _ _ _ _ (by rw [hc'];exact aQ hk.2)⟩) (fq hi))
def xE (p:Option Value) (k:Prop):Prop:=p=none/\k
theorem KZ {k:Prop}:xE none k=k:=by simp [xE]
def G7 (b:Bool) (x y:Prop):Prop:=match b with
 |true=>x
 |false=>y
section
variable {x y:Prop}
theorem abt {a0:_}:G7 (jI (.mv a0)) x y=y:=(rfl)
theorem Me {a0:_}:G7 (jI (.new a0)) x y=y:=(rfl)
theorem abe {a0:_} {a1:_} {a2:_}:G7 (jI (.st a0 a1 a2)) x y=y:=(rfl)
theorem Lk {a0:_}:G7 (jI (.not a0)) x y=y:=(rfl)
theorem LF {a0:_} {a1:_}:G7 (jI (.ext a0 a1)) x y=y:=(rfl)
theorem Ni {a0:_} {a1:_} {a2:_}:G7 (jI (.OH a0 a1 a2)) x y=y:=(rfl)
theorem Lj {a0:_} {a1:_}:G7 (jI (.WM a0 a1)) x y=y:=(rfl)
theorem Oj  :G7 (jI (.Q9)) x y=x:=(rfl)
end
attribute [go_sem ↓] abt Me abe Lk LF Ni Lj Oj
section
variable {m:FrameMode} {d:Nat} {o:jJ} {s:Bool} {os:List aj} {e:Env} {h:Hp} {n:Nat} {K:uB}
theorem I6:nO [] m e h n K=K m .normal e h n:=(rfl)
theorem XP:nO (⟨some d,o,none,s⟩::os) m e h n K=G7 (jI o) (Gd m fun m v=>nO os m ((d,v)::e) h n K) (GZ (lk Q3 o e h n) fun c p v h n=>iV c (xE p (gY s v fun v=>nO os m ((d,v)::e) h n K))):=by
 simp only [nO,G7,xE,ij];try (cases jI o<;>rfl)
theorem Y2:nO (⟨none,o,none,s⟩::os) m e h n K=G7 (jI o) (Gd m fun m v=>nO os m e h n K) (GZ (lk Q3 o e h n) fun c p v h n=>iV c (xE p (gY s v fun v=>nO os m e h n K))):=by
 simp only [nO,G7,xE,ij];try (cases jI o<;>rfl)
def thenS (K:uB) (k:FrameMode->Env->Hp->Nat->Prop):uB:=fun m ex e h n=>match ex with
 | .normal=>k m e h n
 |ex=>K m ex e h n
theorem Mt {k:FrameMode->Env->Hp->Nat->Prop}:thenS K k m .normal e h n=k m e h n:=(rfl)
theorem IB:xk .skip m K e h n=K m .normal e h n:=(rfl)
theorem My {ops:List aj}:xk (.cQ ops) m K e h n=nO ops m e h n K:=(rfl)
theorem Kk {ops:List (aj×List Nat)}:xk (.cG ops) m K e h n=rD Q3 ops 0 [] e h n (fun ex e h n=>K m ex e h n):=(rfl)
theorem LN {a b:bG}:xk (.seq a b) m K e h n=xk a m (thenS K fun m e h n=>xk b m K e h n) e h n:=(rfl)
theorem Io {c:cC} {a b:bG}:xk (.cond c a b) m K e h n=gd (c.ev e h) fun v=>uv v (xk a m K e h n) (xk b m K e h n):=by
 simp only [xk];cases c.ev e h with
 |none=>rfl
 |some v=>cases v with
  |b x=>cases x<;>simp [gd,uv,Hb]
  |_=>rfl
theorem LH {k:Prop}:G0 .returning .normal k=k:=(rfl)
theorem NJ {u:Value} {k:Prop}:G0 (.panicking [{v:=u,recovered:=true}]) .normal k=k:=(rfl)
end
section
variable {rs:List lO} {Ic:bG} {Gs:List Nat} {Q:Option Value->AV->Hp->Nat->Prop} {m:FrameMode} {e:Env} {h:Hp} {n:Nat}
theorem PM:wU rs Ic Gs Q .normal e h n=vP rs Ic Gs Q .returning e h n:=(rfl)
theorem Lm:wU rs Ic Gs Q .ret e h n=vP rs Ic Gs Q .returning e h n:=(rfl)
theorem Lp {ch:List PanicEntry}:wU rs Ic Gs Q (.panic ch) e h n=vP rs Ic Gs Q (.panicking ch) e h n:=(rfl)
theorem Mj:vP rs Ic Gs Q m e h n=gd (qV h Gs) fun caps=>xk Ic m (fun m' ex' e' h' n'=>G0 m' ex' (Ra (sM rs e h') fun c v=>iV c (Q none v h' n'))) (eS 0 caps) h n:=by
 unfold vP;congr 1;funext caps;congr 1;funext m' ex' e' h' n';congr 1;exact As (Q:=fun v=>Q none v h' n')
theorem F7:qV h []=some []:=(rfl)
theorem DQ {G:Nat} {r:List Nat}:qV h (G::r)=(iC h G).bind fun v=>(qV h r).bind fun vs=>some (v::vs):=(rfl)
end
attribute [go_sem ↓] KZ I6 XP Y2 VD adj Mt IB My Kk LN Io LH NJ PM Lm Lp Mj F7 DQ
theorem GF:vZ (.agg #[])=some (.agg []):=(rfl)
attribute [go_sem ↓] GF
attribute [go_sem] jI
end Go.Ab
namespace Go.Ab
theorem bt.akA {P:Program} {f:FuncId} {pre post:List AV} {l:List AV} {h h':Hp} {n n':Nat} {v':AV} (h1:bt P f (pre++ .ns::post) h n v' h' n') (h2:bt P f (pre++ .en::post) h n v' h' n'):bt P f (pre++ .fz l 0::post) h n v' h' n':=by
 intro D φ w us hD hH hA;have hi:(pre++ .fz l 0::post)[pre.length]? =some (.fz l 0):=by simp
 obtain ⟨u,hu,hr⟩:=hA.get hi;have go: ∀y,aI D φ y u->cJ D φ (pre++y::post) us:=fun y hy=>⟨by have:=hA.1;simp at this ⊢;exact this,fun i a u' ha hu'=>by
  by_cases hip:i=pre.length
  ·subst hip;simp at ha;subst ha;rw [hu] at hu';cases hu';exact hy
  ·refine hA.2 i a u' ?_ hu';rcases dw i pre.length with hlt|hge
   ·rw [qL hlt] at ha ⊢;exact ha
   ·rw [v8 hge] at ha ⊢;obtain ⟨j,hj⟩: ∃j,i-pre.length=j+1:=⟨i-pre.length-1,by omega⟩
    rw [hj] at ha ⊢;simpa using ha⟩
 cases hr with
 |fz _ _ B o cap vs hB hc hs hh=>exact h2 D φ w us hD hH (go _ (.en _ _))
 |mI _ x cap hc0=>
  cases x with
  |some x=>exact h2 D φ w us hD hH (go _ (.en _ _))
  |none=>
   exact h1 D φ w us hD hH (go _ (by rw [hc0 rfl];exact .ns))
theorem bw.zeS {n0 n n2:Nat} {v v' v2:AV} {h h2:Hp} {b o:Nat} (hf:dj (.sl b o 0 0) .ze v v') (hc:bw n0 v' h n v2 h2 n2):bw n0 v h n v2 h2 n2:=by
 intro D φ w D0 φ0 H0 w0 u hD0 hD hv hH hS;exact hc D φ w D0 φ0 H0 w0 u hD0 hD (hf D φ u (fun u1 h1=>by cases h1;exact .ze _) hv) hH hS
theorem bw.zeN {n0 n n2:Nat} {v v' v2:AV} {h h2:Hp} (hf:dj .ns .ze v v') (hc:bw n0 v' h n v2 h2 n2):bw n0 v h n v2 h2 n2:=by
 intro D φ w D0 φ0 H0 w0 u hD0 hD hv hH hS;exact hc D φ w D0 φ0 H0 w0 u hD0 hD (hf D φ u (fun u1 h1=>by cases h1;exact .ze _) hv) hH hS
abbrev aqU (z bytes:Nat) (zs:List AV):bG:=(.seq (.cQ [⟨some 2,.mv (.c .ns),none,false⟩]) (.seq (.seq (.cQ [⟨some 3,.mv (.t 0),none,false⟩,⟨some 4,.EO false 1 (.t 3) (.c .ns),none,true⟩]) (.cond (.t 4) (.seq (.cQ [⟨some 2,.mv (.c .ns),none,false⟩]) .ret) .skip))
 (.seq (.cQ [⟨some 5,.lC [] 0 [],none,false⟩,⟨some 6,.mv (.t 0),none,false⟩,⟨some 7,.app z bytes zs (.t 5) (.t 6),none,false⟩,⟨some 2,.mv (.t 7),none,false⟩]) .ret)))
def wb (z bytes:Nat) (zs:List AV):dm:={np:=1,N:=8,ct:=[4],code:=aqU z bytes zs,res:=[.t 2]}
section
variable {P:Program} {f:FuncId} {fn:Func} {z bytes:Nat} {zs:List AV}
theorem QV (hm:P.follows .mixedOrders=true) (hf:P.funcs[f]? =some fn) (hI:aK P fn=some (wb z bytes zs)) (l:List AV):bt P f [.fz l 0] [] 0 .ze [] 0:=by
 refine bt.akA (pre:=[]) (post:=[]) ?_ ?_
 ·refine bt.dU (cx:=bZ []) Sound.nil hm hf hI (by simp [wb]) (aQ ?_)
  dsimp only [wb];simp only [go_sem,simprocAttr];exact bw.zeN dj.hit (bw.ends (Ends.au rfl rfl))
 ·refine bt.dU (cx:=bZ []) Sound.nil hm hf hI (by simp [wb]) (aQ ?_)
  dsimp only [wb];simp only [go_sem,simprocAttr];exact bw.zeS dj.hit (bw.ends (Ends.au rfl rfl))
theorem Qq (hm:P.follows .mixedOrders=true) (hf:P.funcs[f]? =some fn) (hI:aK P fn=some (wb z bytes zs)) {L:List AV} {m:Nat} (hL:L.length=(m+1)*z) (hone:aX L=true) (hb:ae 0 L=true) (hz:bytes*(m+1)<=aE):
 bt P f [.fz L (m+1)] [] 0 (.sg 0 0 (m+1)) [(0,{cells:=L,gr:=some z})] 1:=by
 refine bt.dQ (cx:=bZ []) Sound.nil hm hf hI (by simp [wb]) (aQ ?_)
 dsimp only [wb];have h1:List.take ((m+1)*z) L=L:=h9 (by omega)
 have h2:decide (bytes*(m+1)<=aE)=true:=ah hz;simp only [go_sem,h1,h2,hL,hone,gv,fy,Nat.zero_mul,simprocAttr];exact Ends.K7 (b:=1) (by decide) rfl rfl rfl hb rfl
end
theorem BT {α:Type} {p:α->Bool}: ∀(l:List α) (i:Int),0<=i->x5 p l i= -1\/ ∃k:Nat,k<l.length/\x5 p l i=i+k/\(∀x∈l.take k,p x=false)/\ ∃a,l[k]? =some a/\p a=true
 |[],i,_=> .inl rfl
 |x::r,i,hi=>by
  simp only [x5];by_cases hx:p x=true
  ·right;rw [aM hx];exact ⟨0,by simp,by simp,by simp,x,rfl,hx⟩
  ·rw [aN hx];rcases BT r (i+1) (by omega) with h|⟨k,h1,h2,h3,a,h4,h5⟩
   ·exact .inl h
   ·right;refine ⟨k+1,by simp;omega,by rw [h2];omega,fun y hy=> ?_,a,by simpa using h4,h5⟩
    rcases jD.1 (by simpa using hy) with rfl|hy
    ·simpa using hx
    ·exact h3 y hy
end Go.Ab
namespace Go.Ab
theorem bt.air {P:Program} {f:FuncId} {args:List AV} {h h':Hp} {n n':Nat} {v v':AV} (hf:bt P f args h n v h' n') (hv: ∀D φ u,aI D φ v u->aI D φ v' u):bt P f args h n v' h' n':=
 fun D φ w us hD hH ha=>(hf D φ w us hD hH ha).mono fun e w' ⟨D',φ',u,h1,h2,h3,h4⟩=>⟨D',φ',u,h1,h2,hv _ _ _ h3,h4⟩
section
variable {P:Program} {f:FuncId} {fn:Func} {z bytes:Nat} {zs:List AV}
theorem Rr (hm:P.follows .mixedOrders=true) (hf:P.funcs[f]? =some fn) (hI:aK P fn=some (wb z bytes zs)) {L:List AV} {m:Nat} (hL:L.length=m*z) (hone:aX L=true) (hb:ae 0 L=true) (hz:bytes*m<=aE):
 bt P f [.fz L m] [] 0 (.fz L m) [] 0:=by
 cases m with
 |zero=>exact (QV hm hf hI L).air fun D φ u hu=>by cases hu;exact .mI _ _ _ (fun _=>rfl)
 |succ m=>
  refine bt.dU (cx:=bZ []) Sound.nil hm hf hI (by simp [wb]) (aQ ?_)
  dsimp only [wb];have h1:List.take ((m+1)*z) L=L:=h9 (by omega)
  have h2:decide (bytes*(m+1)<=aE)=true:=ah hz;simp only [go_sem,h1,h2,hL,hone,gv,fy,Nat.zero_mul,simprocAttr];refine bw.nJ (b:=1) (k:={cells:=L,gr:=some z}) (h':=[]) (o:=0) (m:=m+1) (cs:=L) (v':= .fz L (m+1)) rfl rfl (.inr rfl) (.inl rfl) dj.hit (fun c kk hc=>by simp [ab] at hc) ?_
  exact bw.ends (Ends.au hb rfl)
end
end Go.Ab
namespace Go.Ab
def nL (a b:AV):Prop:= ∀D φ u,aI D φ a u->aI D φ b u
def mz:List AV->List AV->Prop
 |[],[]=>True
 |a::l,b::m=>nL a b/\mz l m
 |_,_=>False
theorem mz.all {D:Nat->Prop} {φ:bU}: ∀{l m:List AV} {us:List Value},mz l m->cJ D φ l us->cJ D φ m us
 |[],[],_,_,h=>h
 |a::l,b::m,us,h,h2=>by
  obtain ⟨u,us',rfl,hu,ht⟩:=h2.dZ;exact .cons (h.1 _ _ _ hu) (mz.all h.2 ht)
 |[],_::_,_,h,_=>h.elim
 |_::_,[],_,h,_=>h.elim
theorem nL.refl (a:AV):nL a a:=fun _ _ _ h=>h
theorem nL.ns:nL .ns (.fz [] 0):=fun _ _ _ h=>by cases h;exact .mI _ _ _ (fun _=>rfl)
theorem nL.ze:nL .ze (.fz [] 0):=fun _ _ _ h=>by cases h;exact .mI _ _ _ (fun _=>rfl)
theorem nL.agg {l m:List AV} (h:mz l m):nL (.agg l) (.agg m):=fun D φ u hu=>by
 obtain ⟨us,rfl,ha⟩:=hu.ph;exact aI.uP (h.all ha)
theorem nL.take (l:List AV) (k m:Nat):nL (.fz l m) (.fz (l.take k) m):=fun D φ u h=>by
 have hlen:(l.take k).length<=l.length:=List.length_take_le' _ _;cases h with
 |fz _ _ B o cap vs hB hc hs h=>
  refine .fz _ _ B o cap vs hB hc (fun i hi=>hs i (by omega)) (fun i a u h1 h2=>h i a u ?_ h2)
  rw [jA] at h1;split at h1
  ·exact h1
  ·cases h1
 |mI _ x cap hc=>exact .mI _ x cap hc
theorem mz.len: ∀{l m:List AV},mz l m->l.length=m.length
 |[],[],_=>rfl
 |a::l,b::m,h=>by simp only [List.length_cons,mz.len h.2]
 |[],_::_,h=>h.elim
 |_::_,[],h=>h.elim
theorem mz.get: ∀{l m:List AV} {i:Nat} {b:AV},mz l m->m[i]? =some b-> ∃a,l[i]? =some a/\nL a b
 |[],[],i,b,_,h=>by simp at h
 |a::l,c::m,0,b,h,h2=>by
  simp only [List.getElem?_cons_zero,aP] at h2;subst h2;exact ⟨a,rfl,h.1⟩
 |a::l,c::m,i+1,b,h,h2=>by
  rw [wv] at h2;obtain ⟨a',h3,h4⟩:=mz.get h.2 h2;exact ⟨a',by rw [wv];exact h3,h4⟩
 |[],_::_,_,_,h,_=>h.elim
 |_::_,[],_,_,h,_=>h.elim
theorem mz.app: ∀{l m l' m':List AV},mz l m->mz l' m'->mz (l++l') (m++m')
 |[],[],_,_,_,h=>h
 |a::l,b::m,_,_,h,h2=>⟨h.1,mz.app h.2 h2⟩
 |[],_::_,_,_,h,_=>h.elim
 |_::_,[],_,_,h,_=>h.elim
theorem nL.fz {l m:List AV} {n:Nat} (hw:mz l m):nL (.fz l n) (.fz m n):=fun D φ u h=>by
 have hlen:=hw.len;cases h with
 |fz _ _ B o cap vs hB hc hs h=>
  refine .fz _ _ B o cap vs hB hc (fun i hi=>hs i (by omega)) (fun i b u h1 h2=> ?_)
  obtain ⟨a,ha,hab⟩:=hw.get h1;exact hab _ _ _ (h i a u ha h2)
 |mI _ x cap hc=>exact .mI _ x cap hc
end Go.Ab
namespace Go.Ab
open Go.RowKit
mutual
def AV.Az:AV->Bool
 | .p _ _=>true
 | .sl _ _ _ _=>true
 | .sg _ _ _=>true
 | .fn _ l=>fC l
 | .bm _ l=>fC l
 | .agg l=>fC l
 | .bg l=>fC l
 | .b _=>true
 | .i _ _=>true
 | .s _=>true
 | .np=>true
 | .ns=>true
 | .nf=>true
 | .ni=>true
 | .fz l _=>fC l
 | .fp l _=>fC l
 | .ze=>true
 | .en=>true
 | .any=>true
 | .k _ _=>true
 | .m _=>true
 | .nm=>true
 | .yl _ _ _ _=>false
def fC:List AV->Bool
 |[]=>true
 |v::r=>v.Az&&fC r
end
theorem fW: ∀{l:List AV},fC l=true-> ∀v∈l,v.Az=true
 |[],_,v,hv=>by cases hv
 |x::r,h,v,hv=>by
  simp only [fC,aw] at h;rcases jD.1 hv with rfl|hv
  ·exact h.1
  ·exact fW h.2 v hv
theorem tN {a b:List AV}:fC (a++b)=(fC a&&fC b):=by
 induction a with
 |nil=>rfl
 |cons x a ih=>simp only [ee,fC,ih,yx]
def bU.ly (φ:bU) (X:Nat->Option Go.Loop):bU:={φ with lp:=X}
theorem aI.Az {D:Nat->Prop} {φ:bU} {X:Nat->Option Go.Loop} {v:AV} {u:Value} (h:aI D φ v u):v.Az=true->aI D (φ.ly X) v u:=by
 induction h with
 |b x=>intro _;exact .b x
 |i k n=>intro _;exact .i k n
 |s l=>intro _;exact .s l
 |np=>intro _;exact .np
 |p b o h=>intro _;exact .p (φ:=φ.ly X) b o h
 |ns=>intro _;exact .ns
 |sl b o len cap h=>intro _;exact .sl (φ:=φ.ly X) b o len cap h
 |sg b o len j cap h hj hc hl=>intro _;exact .sg (φ:=φ.ly X) b o len j cap h hj hc hl
 |fn f l cs hf hl h ih=>intro hp;exact .fn f l cs hf hl (fun i a u ha hu=>ih i a u ha hu (fW hp a (bR ha)))
 |bm f l cs hf hl h ih=>intro hp;exact .bm f l cs hf hl (fun i a u ha hu=>ih i a u ha hu (fW hp a (bR ha)))
 |nf=>intro _;exact .nf
 |ni=>intro _;exact .ni
 |agg l cs hl h ih=>intro hp;exact .agg l cs hl (fun i a u ha hu=>ih i a u ha hu (fW hp a (bR ha)))
 |bg l cs hl h ih=>intro hp;exact .bg l cs hl (fun i a u ha hu=>ih i a u ha hu (fW hp a (bR ha)))
 |fz l n B o cap vs hB hc hs h ih=>intro hp;exact .fz (φ:=φ.ly X) l n B o cap vs hB hc hs (fun i a u ha hu=>ih i a u ha hu (fW hp a (bR ha)))
 |mI l x cap hc=>intro _;exact .mI l x cap hc
 |fp l k B o vs hB hs h ih=>intro hp;exact .fp (φ:=φ.ly X) l k B o vs hB hs (fun i a u ha hu=>ih i a u ha hu (fW hp a (bR ha)))
 |ze x=>intro _;exact .ze x
 |en x cap=>intro _;exact .en x cap
 |any u=>intro _;exact .any u
 |k t u=>intro _;exact .k t u
 |m b h=>intro _;exact .m (φ:=φ.ly X) b h
 |nm=>intro _;exact .nm
 |yl L r ts l hL h ih=>intro hp;cases hp
theorem aI.OK {D:Nat->Prop} {φ:bU} {X:Nat->Option Go.Loop} {v:AV} {u:Value} (hX: ∀L r,φ.lp L=some r->X L=some r) (h:aI D φ v u):aI D (φ.ly X) v u:=
 aI.tQ (φ:=φ) (φ':=φ.ly X) (fun _ h=>h) (fun _ _=>⟨rfl,rfl,rfl,rfl⟩) (fun _ _ h=>h) hX h
theorem HR.ly {D:Nat->Prop} {φ:bU} {X:Nat->Option Go.Loop} {H:Hf} {w:World} (h:HR D φ H w) (hv: ∀b k v u,H b=some k->v∈k.cells->aI D φ v u->aI D (φ.ly X) v u) (hl: ∀L r,X L=some r->w.heap[L]? =some (.loop r)):HR D (φ.ly X) H w:=
 ⟨⟨fun b k hb=>⟨(h.at_ b k hb).1,by
   obtain ⟨⟨cs,elem,fr,h1,h2,h3,h4⟩,h5⟩:=(h.at_ b k hb).2;refine ⟨⟨cs,elem,fr,h1,fun i v hv'=> ?_,h3,h4⟩,h5⟩;obtain ⟨u,hu,hr⟩:=h2 i v hv';exact ⟨u,hu,hv b k v u hb (bR hv') hr⟩⟩,h.sep⟩,h.fz,hl,h.kD⟩
theorem dR.ly {D D':Nat->Prop} {φ φ':bU} {X:Nat->Option Go.Loop} {H H':Hf} {w w':World} (h:dR D φ H w D' φ' H' w') (hr:HR D' (φ'.ly X) H' w'):dR D (φ.ly X) H w D' (φ'.ly X) H' w':=
 ⟨h.sub,⟨h.agree.at_,h.agree.fz,rfl⟩,hr,⟨h.eC.os,h.eC.tape,h.eC.output,h.eC.size,h.eC.block⟩,h.oY,h.jO⟩
theorem dR.JB {D D':Nat->Prop} {φ φ':bU} {H H':Hf} {w w1 w' w1':World} (h:dR D φ H w D' φ' H' w1) (hr:HR D' φ' H' w1') (hos:w1'.os=w'.os) (ht:w1'.tape=w'.tape) (ho:w1'.output=w'.output) (hsz:w'.heap.size=w.heap.size) (hsz1:w1'.heap.size=w1.heap.size) (L:Nat)
 (hb: ∀c,c≠L->w'.heap[c]? =w.heap[c]?) (hb1: ∀c,c≠L->w1'.heap[c]? =w1.heap[c]?) (hL:w1'.heap[L]? =w'.heap[L]?):dR D φ H w' D' φ' H' w1':=
 ⟨h.sub,h.agree,hr,⟨hos,ht,ho,by rw [hsz,hsz1];exact h.eC.size,fun c hc hn=>by
   by_cases hcL:c=L
   ·rw [hcL];exact hL
   ·rw [hb1 c hcL,hb c hcL];exact h.eC.block c (by rw [<-hsz];exact hc) hn⟩,fun b k hb' hk=>by rw [hsz];exact h.oY b k hb' hk,fun B vs hB=>by rw [hsz];exact h.jO B vs hB⟩
def BW:bG->Bool
 | .seq a b=>BW a&&BW b
 | .cond _ a b=>BW a&&BW b
 | .block _ c=>BW c
 | .loop c=>BW c
 | .scope c=>BW c
 | .oO _ _ _ _=>false
 | .bad=>false
 |_=>true
theorem Ch {P:Program} {ct:List Nat} {N:Nat}: ∀{c:Code},BW (bH P ct N c)=true->jC c=true:=by
 intro c;induction c with
 |seq a b iha ihb=>intro h;simp only [bH,BW,aw] at h;simp only [jC,aw];exact ⟨iha h.1,ihb h.2⟩
 |cond x a b iha ihb=>
  intro h;simp only [bH] at h;split at h
  ·simp [BW] at h
  ·simp only [BW,aw] at h;simp only [jC,aw];exact ⟨iha h.1,ihb h.2⟩
  ·simp [BW] at h
 |block id c ih=>intro h;exact ih h
 |loop c ih=>intro h;exact ih h
 |scope c ih=>intro h;exact ih h
 |rangeFunc g ps a b iha ihb=>
  intro h;simp only [bH] at h;split at h<;>simp [BW] at h
 |_=>intro h;rfl
def G8:List Nat->List AV->Env->Env
 |t::ts,a::as,e=>G8 ts as ((t,a)::e)
 |_,_,e=>e
def rV:List Nat->List AV->Env
 |t::ts,a::as=>(t,a)::rV ts as
 |_,_=>[]
theorem A9 {t:Nat} {v:AV}: ∀{ts:List Nat} {l:List AV},cV (rV ts l) t=some v-> ∃i:Nat,ts[i]? =some t/\l[i]? =some v
 |[],_,h=>by simp [rV,cV] at h
 |_::_,[],h=>by simp [rV,cV] at h
 |s::ts,a::l,h=>by
  simp only [rV,cV] at h;by_cases hs:t=s
  ·subst hs;simp at h;subst h;exact ⟨0,rfl,rfl⟩
  ·rw [bz hs] at h;obtain ⟨i,h1,h2⟩:=A9 h;exact ⟨i+1,by simpa using h1,by simpa using h2⟩
theorem FP {D:Nat->Prop} {φ:bU}: ∀{ts:List Nat} {as:List AV} {vs:List Value} {e:Env} {T:Array Value},cJ D φ as vs->ts.length=as.length->(∀t∈ts,t<T.size)->(∀t v,cV e t=some v->aI D φ v (T.getD t undef))→
 ∀t v,cV (G8 ts as e) t=some v->aI D φ v (((ts.zip vs).foldl (fun (T:Array Value) (x:Nat×Value)=>T.setIfInBounds x.1 x.2) T).getD t undef)
 |[],as,vs,e,T,_,_,_,he,t,v,h=>he t v (by simpa [G8] using h)
 |s::ts,[],vs,e,T,_,hl,_,he,t,v,h=>by simp at hl
 |s::ts,a::as,vs,e,T,ha,hl,hT,he,t,v,h=>by
  obtain ⟨u,vs',rfl,hu,ha'⟩:=ha.dZ;simp only [List.zip_cons_cons,xO];refine FP ha' (by simpa using hl) (fun t' ht'=>by simp;exact hT t' (iZ _ ht')) (fun t' v' h'=> ?_) t v h
  simp only [cV] at h';by_cases hs:t'=s
  ·subst hs;simp at h';subst h';have:t'<T.size:=hT t' ja;rw [lX];simp [this];exact hu
  ·rw [bz hs] at h';have:=he t' v' (by simpa using h')
   rw [lX] at this ⊢;rw [Array.getElem?_setIfInBounds_ne (fun e=>hs e.symm)];exact this
theorem wF: ∀(l:List (Nat×Value)) (T:Array Value),(l.foldl (fun (T:Array Value) (x:Nat×Value)=>T.setIfInBounds x.1 x.2) T).size=T.size
 |[],T=>rfl
 |x::l,T=>by simp only [xO];rw [wF l];simp
def lF (F:Fx) (ps:List Nat) (A B:bG) (ts:List Nat) (cs as:List AV) (h1:Hp) (n1:Nat) (h2:Hp) (n2:Nat):Prop:=
 iw {F with n0:=n1} A (gH (fun _ _ _ _=>False) fun e h n=>iw {F with n0:=n1} B (fun ex e3 h3 n3=>match ex with| .normal=>Ends n1 (.b true) h3 n3 (.b true) h2 n2|_=>False) e h n) (G8 ps as (rV ts cs)) h1 n1
structure Rn (F:Fx) (ps:List Nat) (A B:bG) (r:Go.Loop):Prop where
 state:r.state= .ready
 pending:r.pending=none
 params:r.params=ps.toArray
 as:bH F.P F.ct F.N r.assign=A
 bd:bH F.P F.ct F.N r.body=B
 size:r.tmps.size=F.N
theorem bt.round {F:Fx} (hcx:Sound F.P F.cx) (hm:F.P.follows .mixedOrders=true) {ps:List Nat} {A B:bG} {L:Nat} {r:Go.Loop} (hr:Rn F ps A B r) (hnA:BW A=true) (hnB:BW B=true) (hps:(ps.all fun t=>decide (t<F.N))=true)
 {ts:List Nat} {cs as:List AV} {h1:Hp} {n1:Nat} {h2:Hp} {n2:Nat} (hlen:ps.length=as.length) (hyc:fC cs=true) (hya:fC as=true) (hyh: ∀b k,ab h1 b=some k->fC k.cells=true)
 (hw:lF F ps A B ts cs as h1 n1 h2 n2):bt F.P YB (.yl L r ts cs::as) h1 n1 (.b true) h2 n2:=by
 intro D φ w us hD0 hH hargs;obtain ⟨u0,vs,rfl,hu0,hvs⟩:=hargs.dZ;generalize hgen:AV.yl L r ts cs=y at hu0;cases hu0<;>cases hgen;rename_i hL henv;have hLw:=hH.lp L r hL;let X:Nat->Option Go.Loop:=fun L'=>if L'=L then none else φ.lp L'
 let D1:Nat->Prop:=fun b=>b<n1
 -- the relation,but for this loop's record
 have hHb:HR D1 (φ.ly X) (ab h1) w:=by
  refine ((hH.ly (X:=X) (fun b k v u hb hv hr=>hr.Az (fW (hyh b k hb) v hv)) (fun L' r' h=> ?_)).grow (D':=D1) hD0);simp only [X] at h;split at h
  ·cases h
  ·exact hH.lp L' r' h
 have hvsb:cJ D1 (φ.ly X) as vs:=⟨hvs.1,fun i a u ha hu=>((hvs.2 i a u ha hu).Az (fW hya a (bR ha))).mono hD0 (dh.refl _ _)⟩;unfold rT;rw [aM rfl];refine ⟨L,vs.toArray,by simp,r.fn,_,r.assign,r.body,run_yield hLw (by rw [hr.params];simp;rw [hlen];exact hvs.1.symm),?_⟩
 refine roundIn_of_wpIn (F:=Fence.wide) trivial ?_;have hfold:(r.params.zip vs.toArray).foldl (fun tmps (x:Nat×Value)=>tmps.setIfInBounds x.1 x.2) r.tmps=(ps.zip vs).foldl (fun (T:Array Value) (x:Nat×Value)=>T.setIfInBounds x.1 x.2) r.tmps:=by
  rw [hr.params];simp
 have hR:Rel D1 (φ.ly X) (G8 ps as (rV ts cs)) h1 n1 F.N (w.heap.size,[]) {tmps:=(r.params.zip vs.toArray).foldl (fun tmps (x:Nat×Value)=>tmps.setIfInBounds x.1 x.2) r.tmps,defers:=[]} w:=by
  refine ⟨fun b hb=>hb,fun t v hv=> ?_,hHb,?_,Mk.nil⟩
  ·show aI _ _ v (Array.getD ((r.params.zip vs.toArray).foldl (fun tmps (x:Nat×Value)=>tmps.setIfInBounds x.1 x.2) r.tmps) t undef);rw [hfold];refine FP hvsb hlen (fun t ht=>by rw [hr.size];exact bO (er.1 hps t ht)) (fun t v hv=> ?_) t v hv
   obtain ⟨i,g1,g2⟩:=A9 hv;exact ((henv i t v g1 g2).Az (fW hyc v (bR g2))).mono hD0 (dh.refl _ _)
  ·show Array.size ((r.params.zip vs.toArray).foldl (fun tmps (x:Nat×Value)=>tmps.setIfInBounds x.1 x.2) r.tmps)=F.N;rw [hfold,wF];exact hr.size
 have hA:WP F.P F.N n1 r.assign _ (G8 ps as (rV ts cs)) h1 n1:=gL {F with n0:=n1} hcx hm r.assign _ _ _ _ (by show iw _ (bH F.P F.ct F.N r.assign) _ _ _ _;rw [hr.as];exact hw)
 have h1w:=hA (some L) (.inr (Ch (by rw [hr.as];exact hnA))) [] D1 (φ.ly X) (ab h1) w (fun b hb=>hb) (bx _) D1 (φ.ly X) _ w hR (dR.refl hHb)
 refine wpIn_mono (F:=Fw (some L)) h1w (fun ex a1 w1 hp=> ?_);obtain ⟨D',φ',e1,hh1,nn1,hk,hn',hR',hS'⟩:=hp;cases ex with
 |normal=>
  have hL1:w1.heap[L]? =some (.loop r):=hHb.stays hS'.eC hLw (fun _ _ _ e=>by cases e) (fun _ _ e=>by cases e)
  have hltL:L<w.heap.size:=(gU.1 hLw).1;refine ⟨_,run_beginRound hL1 hr.state,?_⟩;have hlpX:φ'.lp=X:=hS'.agree.lp;have hne: ∀{c:Nat} {o:Obj} {w1:World},w1.heap[c]? =some o->(∃r',w1.heap[L]? =some (.loop r'))->(∀r',o≠ .loop r')->c≠L:=fun hc hl ho e=>by
   obtain ⟨r',hl⟩:=hl;rw [e,hl] at hc;cases hc;exact ho _ rfl
  -- the loop's record is turned
  have turnHR: ∀{D':Nat->Prop} {φ':bU} {H':Hf} {w1:World} (o:Obj),φ'.lp=X->(∃r',w1.heap[L]? =some (.loop r'))->HR D' φ' H' w1->HR D' φ' H' (w1.putObj L o):=fun o hX hl hh=>
   hh.same (fun c cs elem fr hc=>by rw [World.putObj_heap_other (hne hc hl (fun _ e=>by cases e))];exact hc) (fun c es clk hc=>by rw [World.putObj_heap_other (hne hc hl (fun _ e=>by cases e))];exact hc) (fun L' r' h=>by
    have h':=h;rw [hX] at h';simp only [X] at h';split at h'
    ·cases h'
    ·rename_i hL';rw [World.putObj_heap_other hL'];exact hh.lp L' r' h)
  have turnMk: ∀{m:Nat×List Deferred} {l:List Deferred} {w1:World} (o:Obj),(∃r',w1.heap[L]? =some (.loop r'))->Mk m l w1->Mk m l (w1.putObj L o):=fun o hl ⟨ds,g1,g2,g3⟩=>
   ⟨ds,g1,g2,fun D hD=>⟨(g3 D hD).1,by rw [World.putObj_heap_other (hne (g3 D hD).2 hl (fun _ e=>by cases e))];exact (g3 D hD).2⟩⟩
  have hr2:=turnHR (.loop {r with state:= .busy}) hlpX ⟨r,hL1⟩ hR'.heap
  have hS2:dR D1 (φ.ly X) (ab h1) (w.putObj L (.loop {r with state:= .busy})) D' φ' (ab hh1) (w1.putObj L (.loop {r with state:= .busy})):=
   hS'.JB hr2 hS'.eC.os hS'.eC.tape hS'.eC.output (by simp) (by simp) L (fun c hc=>World.putObj_heap_other hc) (fun c hc=>World.putObj_heap_other hc)
    (by rw [World.putObj_heap_same (wO hltL hS'.eC.size),World.putObj_heap_same hltL])
  have hR2:Rel D' φ' e1 hh1 nn1 F.N ((w.putObj L (.loop {r with state:= .busy})).heap.size,[]) a1 (w1.putObj L (.loop {r with state:= .busy})):=
   ⟨hR'.lt,hR'.env,hr2,hR'.size,by rw [World.putObj_size];exact turnMk _ ⟨r,hL1⟩ hR'.defers⟩
  have hB:WP F.P F.N n1 r.body _ e1 hh1 nn1:=gL {F with n0:=n1} hcx hm r.body _ _ _ _ (by show iw _ (bH F.P F.ct F.N r.body) _ _ _ _;rw [hr.bd];exact hk)
  have h2w:=hB (some L) (.inr (Ch (by rw [hr.bd];exact hnB))) [] D1 (φ.ly X) (ab h1) _ (fun b hb=>hb) hn' D' φ' a1 _ hR2 hS2
  refine wpIn_mono (F:=Fw (some L)) h2w (fun ex a3 w3 hp=> ?_);obtain ⟨D3,φ3,e3,h3,n3,hk3,hn3,hR3,hS3⟩:=hp;cases ex with
  |normal=>
   obtain ⟨ψ,hW⟩:=hk3;have hHwb:HR D1 (φ.ly X) (ab h1) (w.putObj L (.loop {r with state:= .busy})):=turnHR _ rfl ⟨r,hLw⟩ hHb
   have hL3:w3.heap[L]? =some (.loop {r with state:= .busy}):=hHwb.stays hS3.eC (World.putObj_heap_same hltL) (fun _ _ _ e=>by cases e) (fun _ _ e=>by cases e)
   refine ⟨_,_,run_endRound none hL3,?_⟩;have hrec:({({r with state:= .busy}:Go.Loop) with state:=if (none:Option Code).isNone then .ready else .done,pending:=none}:Go.Loop)=r:=by
    obtain ⟨st,pe,f',tm,pa,as',bd,de⟩:=r;have:=hr.state;have:=hr.pending;simp at*;simp [*]
   rw [hrec]
   -- the result
   have hR4:Rel D3 φ3 [(0,.b true)] h3 n3 1 (0,[]) {tmps:= #[.bool true],defers:=[]} w3:=by
    refine ⟨hR3.lt,fun t v hv=> ?_,hR3.heap,rfl,Mk.nil⟩;simp only [cV] at hv;by_cases ht:t=0
    ·subst ht;simp at hv;subst hv;exact .b true
    ·rw [bz ht] at hv;simp at hv
   obtain ⟨hR5,hS5⟩:=Rel.weaken hW (fun b hb=>hb) hR4 hS3;have hlp3:(φ3.comp ψ).lp=X:=hS5.agree.lp;have hr5:=turnHR (.loop r) hlp3 ⟨_,hL3⟩ hR5.heap;have hltL3:L<w3.heap.size:=(gU.1 hL3).1;have hS6:dR D1 (φ.ly X) (ab h1) w _ (φ3.comp ψ) (ab h2) (w3.putObj L (.loop r)):=
    hS5.JB hr5 hS5.eC.os hS5.eC.tape hS5.eC.output (by simp) (by simp) L (fun c hc=>(World.putObj_heap_other hc).symm) (fun c hc=>World.putObj_heap_other hc)
     (by rw [World.putObj_heap_same hltL3];exact hLw.symm)
   have hr7:HR _ ((φ3.comp ψ).ly φ.lp) (ab h2) (w3.putObj L (.loop r)):=hr5.ly (fun b k v u _ _ h=>h.OK (fun L' r' h'=>by
    rw [hlp3] at h';simp only [X] at h';split at h'
    ·cases h'
    ·exact h')) (fun L' r' h'=>by
     by_cases hL':L'=L
     ·rw [hL',World.putObj_heap_same hltL3];rw [hL',hL] at h';cases h';rfl
     ·have:X L'=some r':=by simp only [X,hL',bV];exact h'
      rw [<-hlp3] at this;exact hr5.lp L' r' this)
   have hS7:dR D1 φ (ab h1) w _ ((φ3.comp ψ).ly φ.lp) (ab h2) (w3.putObj L (.loop r)):=hS6.ly (X:=φ.lp) hr7;refine ⟨_,_,_,rfl,hR5.lt,aI.b true,⟨fun b hb=>hS7.sub b (hD0 b hb),⟨fun b hb=>hS7.agree.at_ b (hD0 b hb),hS7.agree.fz,hS7.agree.lp⟩,hS7.hr,hS7.eC,hS7.oY,hS7.jO⟩⟩
  |_=>exact hk3.elim
 |_=>exact hk.elim
theorem oA.intro {F:Fx} (hcx:Sound F.P F.cx) (hm:F.P.follows .mixedOrders=true) {g:cC} {ps:List Nat} {A B:bG} {K:cF} {e:Env} {h:Hp} {n:Nat} {gf:Nat} {caps:List AV} {v':AV} {h':Hp} {n':Nat} (ts:List Nat) (cs:List AV)
 (hg:g.ev e h=some (.fn gf caps)) (hcal:(bJ F.P gf&& !ext F.P gf)=true) (hnA:BW A=true) (hnB:BW B=true) (hps:(ps.all fun t=>decide (t<F.N))=true)
 (hts: ∀(i t:Nat) (a:AV),ts[i]? =some t->cs[i]? =some a->cV e t=some a)
 (hit: ∀L r,(∀cs as h1 n1 h2 n2,ps.length=as.length->fC cs=true->fC as=true->(∀b k,ab h1 b=some k->fC k.cells=true)->lF F ps A B ts cs as h1 n1 h2 n2->bt F.P YB (.yl L r ts cs::as) h1 n1 (.b true) h2 n2)→
   bt F.P gf (.yl L r ts cs::caps) h n v' h' n')
 (hy': ∀b k,ab h' b=some k->fC k.cells=true) (hn':F.n0<=n') (hk:K .normal e h' n'):oA F.P F.ct F.N F.n0 g ps A B K e h n:=by
 rw [aw,iH] at hcal;intro c' hc' ro hro Bd D0 φ0 H0 w0 hd0 hn0 D φ a w hR hS
 -- the code
 obtain ⟨g',ps',A',B',rfl,hg',hpe,hA',hB',hgg⟩: ∃g' ps' A' B',c'= .rangeFunc g' ps' A' B'/\cO g'=some g/\ps'.toList=ps/\bH F.P F.ct F.N A'=A/\bH F.P F.ct F.N B'=B/\ ∀k,g≠ .g k:=by
  cases c' with
  |rangeFunc g' ps' A' B'=>
   simp only [bH] at hc';split at hc'
   ·cases hc'
   ·rename_i x hng hx;cases hc';exact ⟨g',ps',A',B',rfl,hx,rfl,rfl,rfl,fun k hk=>hng k hk⟩
   ·cases hc'
  |region id ops draw=>simp only [bH] at hc';split at hc'<;>(try split at hc')<;>cases hc'
  |cond x y z=>simp only [bH] at hc';split at hc'<;>cases hc'
  |_=>simp [bH] at hc'
 have hro':ro=none:=hro.resolve_right (by simp [jC])
 subst hro';have hvf:=qU (fun t v _ hv=>hR.env t v hv) hg' (fun k hk=>by subst hk;simp only [cO,aP] at hg';exact hgg k hg'.symm) hg
 obtain ⟨hgy,capsV,hev,hcaps⟩:=hvf.wR;refine wpIn_rangeFunc ?_;intro fn hfn;obtain ⟨r,hrdef⟩: ∃r:Go.Loop,r={state:= .ready,pending:=none,fn,tmps:=a.tmps,params:=ps',assign:=A',body:=B',defers:=w.heap.size}:=⟨_,rfl⟩;have hrec:Rn F ps A B r:=by rw [hrdef];exact ⟨rfl,rfl,by rw [<-hpe],hA',hB',hR.size⟩
 obtain ⟨W1,hW1⟩: ∃W1,(w.alloc (.deferred (some []))).alloc (.loop r)=W1:=⟨_,rfl⟩;have hsz1:W1.heap.size=w.heap.size+2:=by rw [<-hW1];simp
 have hL1:W1.heap[w.heap.size+1]? =some (.loop r):=by
  rw [<-hW1];have:=World.alloc_heap_new (w.alloc (.deferred (some []))) (.loop r);rwa [World.size_alloc] at this
 have hK1:W1.heap[w.heap.size]? =some (.deferred (some [])):=by
  rw [<-hW1];exact (Below.heap_alloc _ _ _ (by simp)).trans (World.alloc_heap_new w _)
 have hold: ∀c,c<w.heap.size->W1.heap[c]? =w.heap[c]? :=fun c hc=>by
  rw [<-hW1];exact (Below.heap_alloc _ _ _ (by simp;omega)).trans (Below.heap_alloc _ _ _ hc)
 have hHw1:HR D φ (ab h) W1:=hR.heap.same (fun c cs elem fr hc=>by rw [hold c (gU.1 hc).1];exact hc) (fun c es clk hc=>by rw [hold c (gU.1 hc).1];exact hc) (fun L r' hL=>by
  have:=hR.heap.lp L r' hL;rw [hold L (gU.1 this).1];exact this)
 have hS1:dR D φ (ab h) w D φ (ab h) W1:=(dR.refl hR.heap).same hHw1 (by rw [<-hW1];rfl) (by rw [<-hW1];rfl) (by rw [<-hW1];rfl) (by omega) hold
 let X:Nat->Option Go.Loop:=fun L'=>if L'=w.heap.size+1 then some r else φ.lp L'
 have hXup: ∀L r',φ.lp L=some r'->X L=some r':=fun L r' hL=>by
  have h1:=hR.heap.lp L r' hL;have:=(gU.1 h1).1;simp only [X];rw [aN (by omega)];exact hL
 have hHX:HR D (φ.ly X) (ab h) W1:=hHw1.ly (fun b k v u _ _ hv=>hv.OK hXup) (fun L r' hL=>by
  simp only [X] at hL;split at hL
  ·rename_i e;cases hL;rw [e];exact hL1
  ·exact hHw1.lp L r' hL)
 have hy0:aI D (φ.ly X) (.yl (w.heap.size+1) r ts cs) (.func (.yield (w.heap.size+1)) #[] #[]):=by
  refine .yl (φ:=φ.ly X) _ _ _ _ (by simp [bU.ly,X]) (fun i t a ht ha=> ?_)
  have:=hR.env t a (hts i t a ht ha);rw [hrdef];exact this.OK hXup
 have hcaps':cJ D (φ.ly X) caps capsV:=⟨hcaps.1,fun i a u ha hu=>(hcaps.2 i a u ha hu).OK hXup⟩;have hF:=hit (w.heap.size+1) r (fun cs as h1 n1 h2 n2 q1 q2 q3 q4 q5=>bt.round hcx hm hrec hnA hnB hps q1 q2 q3 q4 q5) D (φ.ly X) W1 _ hR.lt hHX (.cons hy0 hcaps');refine ⟨w.heap.size+1,[{target:= .collected w.heap.size,args:= #[]}],W1,{target:= .fn (.func gf) capsV.toArray,args:= #[.func (.yield (w.heap.size+1)) #[] #[]]},W1,gf,
  #[.func (.yield (w.heap.size+1)) #[] #[]]++capsV.toArray,W1,?_,?_,fun _ _=>trivial,?_,fun hd=>(by cases hd),?_⟩
 ·rw [<-hW1,hrdef];exact run_enterLoop_outer _ _ _ _ _
 ·simp only [resolve,hev];simp [go_sem]
 ·simp only [invoke,j4 hgy hcal.1 hcal.2]
 ·refine qA ?_;have hF2:=hF.calls hgy hcal.2;rw [show (Value.func (.yield (w.heap.size+1)) #[] #[]::capsV).toArray= #[.func (.yield (w.heap.size+1)) #[] #[]]++capsV.toArray by simp] at hF2
  refine Calls.mono hF2 fun ex w2 hx=> ?_;obtain ⟨D',φ',u,rfl,hlt',hv',hS2⟩:=hx;have hlp2:φ'.lp=X:=hS2.agree.lp;have hL2:w2.heap[w.heap.size+1]? =some (.loop r):=hHX.stays hS2.eC hL1 (fun _ _ _ e=>by cases e) (fun _ _ e=>by cases e)
  have hK2:w2.heap[w.heap.size]? =some (.deferred (some [])):=hHX.stays hS2.eC hK1 (fun _ _ _ e=>by cases e) (fun _ _ e=>by cases e)
  have hlt2:w.heap.size+1<w2.heap.size:=(gU.1 hL2).1;have hpend:r.pending=none:=hrec.pending;refine ⟨none,w2.putObj (w.heap.size+1) (.loop {r with state:= .exhausted}),(by have:=run_endLoop (P:=F.P) hL2 (by rw [hrec.state];simp);rw [this,hpend]),?_⟩
  -- the relation behind
  have hHr:HR D' (φ'.ly φ.lp) (ab h') w2:=hS2.hr.ly (fun b k v u hb hv hvr=>hvr.Az (fW (hy' b k hb) v hv)) (fun L r' hL=>by
   have:=hXup L r' hL;rw [<-hlp2] at this;exact hS2.hr.lp L r' this)
  have hS3:dR D φ (ab h) W1 D' (φ'.ly φ.lp) (ab h') w2:=hS2.ly (X:=φ.lp) hHr;have hHe:HR D' (φ'.ly φ.lp) (ab h') (w2.putObj (w.heap.size+1) (.loop {r with state:= .exhausted})):=hHr.same (fun c cs elem fr hc=>by
   rw [World.putObj_heap_other (fun e=>by rw [e,hL2] at hc;cases hc)];exact hc) (fun c es clk hc=>by
   rw [World.putObj_heap_other (fun e=>by rw [e,hL2] at hc;cases hc)];exact hc) (fun L r' hL=>by
   have h1:=hR.heap.lp L r' hL;have h2:=(gU.1 h1).1;rw [World.putObj_heap_other (by omega)]
   exact hHr.lp L r' hL)
  have hS4:dR D φ (ab h) w D' (φ'.ly φ.lp) (ab h') (w2.putObj (w.heap.size+1) (.loop {r with state:= .exhausted})):=
   (hS1.trans hS3).same hHe rfl rfl rfl (by simp) (fun c hc=>World.putObj_heap_other (by omega))
  refine ⟨D',φ'.ly φ.lp,e,h',n',hk,hn',⟨hlt',fun t v hv=> ?_,hHe,hR.size,?_⟩,hS.trans hS4⟩
  ·exact (hR.env t v hv).mono hS4.sub hS4.agree
  ·obtain ⟨ds,q1,q2,q3⟩:=hR.defers;refine ⟨w.heap.size::ds,by simp [q1],D5.2 ⟨fun hin=> ?_,q2⟩,fun E hE=> ?_⟩
   ·have:=(gU.1 (q3 _ hin).2).1;omega
   ·rcases jD.1 hE with rfl|hE
    ·exact ⟨hS.eC.size,by rw [World.putObj_heap_other (by omega)];exact hK2⟩
    ·have h1:=(q3 E hE).2;have h2:=(gU.1 h1).1;refine ⟨(q3 E hE).1,?_⟩;rw [World.putObj_heap_other (by omega)]
     exact (hHX.stays hS2.eC (by rw [hold E h2];exact h1) (fun _ _ _ e=>by cases e) (fun _ _ e=>by cases e))
end Go.Ab
namespace Go.Ab
noncomputable def cx1 (f0:FuncId) (a0:List AV) (h0:Hp) (n0:Nat) (E0:bX):Cx:=fun f a h n=>open Classical in if f=f0/\a=a0/\h=h0/\n=n0 then some (true,E0) else none
theorem Jv {f0:FuncId} {a0:List AV} {h0:Hp} {n0:Nat} {E0:bX}:cx1 f0 a0 h0 n0 E0 f0 a0 h0 n0=some (true,E0):=aM ⟨rfl,rfl,rfl,rfl⟩
theorem yG {P:Program} {f0:FuncId} {a0:List AV} {h0:Hp} {n0:Nat} {E0:bX} (hc:ax P f0 a0 h0 n0 E0):Sound P (cx1 f0 a0 h0 n0 E0):=fun f a h n c E he ht=>by
 unfold cx1 at he;split at he
 ·rename_i hh;obtain ⟨rfl,rfl,rfl,rfl⟩:=hh;cases he;exact hc
 ·cases he
theorem Loop.ani {F:Fx} (hm:F.P.follows .mixedOrders=true) {c:bG} {K:cF} {X:Type} (ok:X->Prop) (μ:X->Nat) (E:X->Env) (H:X->Hp) (n2:Nat) (x0:X) (nx:X->X) (m0:List (Nat×Nat)) (m:X->List (Nat×Nat))
 {e:Env} {h:Hp} {n:Nat} (hn:F.n0<=n2) (hm0:uJ m0 F.n0 n2=true) (hm1: ∀x,uJ (m x) F.n0 n2=true) (h0:ok x0) (he:na n2 m0 e (E x0)) (hh:iy n2 m0 h (H x0))
 (round: ∀x,ok x-> ∃cx,Sound F.P cx/\jw {F with cx:=cx} c (gH K fun e' h' n'=>(ok (nx x)/\μ (nx x)<μ x)/\na n2 (m x) e' (E (nx x))/\iy n2 (m x) h' (H (nx x))) (E x) (H x) n2):Loop F.P F.ct F.N F.n0 c K e h n:=by
 refine Loop.ak0 (F:=F) (X:={x:X // ok x}) (fun k=>(E k.1,H k.1,n2)) (fun k=>μ k.1) ⟨x0,h0⟩ (rn m0) (Wk.ofR hn hm0 he hh) (fun k c' hc'=> ?_);obtain ⟨cx,hcx,hr⟩:=round k.1 k.2;refine gL {F with cx:=cx} hcx hm c' _ _ _ _ (by
  show iw _ (bH F.P F.ct F.N c') _ _ _ _;rw [hc'];refine pv (fun ex e' h' n' hx=> ?_) (aQ hr);cases ex with
  |normal=>
   obtain ⟨⟨h1,h2⟩,h3,h4⟩:=hx;exact ⟨⟨nx k.1,h1⟩,rn (m k.1),Wk.ofR hn (hm1 k.1) h3 h4,h2⟩
  |_=>exact hx)
def Dp:Hp->Bool
 |[]=>true
 |(_,k)::r=>fC k.cells&&Dp r
theorem mA: ∀{h:Hp} {b:Nat} {k:aW},Dp h=true->ab h b=some k->fC k.cells=true
 |[],b,k,_,hb=>by simp [ab] at hb
 |(c,j)::r,b,k,h,hb=>by
  simp only [Dp,aw] at h;simp only [ab] at hb;by_cases hc:b=c
  ·subst hc;simp at hb;subst hb;exact h.1
  ·rw [bz hc] at hb;exact mA h.2 hb
theorem kG {α:Type} {f:α->List AV} (hf: ∀a,fC (f a)=true): ∀{l:List α},fC (rows f l)=true
 |[]=>rfl
 |a::l=>by rw [cT,tN,hf,kG hf];rfl
def rdK (Q:Env->Hp->Nat->Prop):cF:=fun ex e h n=>match ex with
 | .normal=>Q e h n
 |_=>False
theorem ajM {Q:Env->Hp->Nat->Prop} {e:Env} {h:Hp} {n:Nat}:rdK Q .normal e h n=Q e h n:=(rfl)
attribute [go_sem ↓] ajM
theorem lF.Qj {F:Fx} {ps:List Nat} {A B:bG} {ts:List Nat} {cs as':List AV} {h1:Hp} {n1:Nat} {h2:Hp} {n2:Nat}
 (hj:jw {F with n0:=n1} A (rdK fun e h n=>jw {F with n0:=n1} B (rdK fun e3 h3 n3=>Ends n1 (.b true) h3 n3 (.b true) h2 n2) e h n) (G8 ps as' (rV ts cs)) h1 n1):lF F ps A B ts cs as' h1 n1 h2 n2:=by
 refine pv (fun ex e h n hx=> ?_) (aQ hj);cases ex with
 |normal=>
  refine pv (fun ex e h n hx=> ?_) (aQ hx);cases ex<;>exact hx
 |_=>exact hx.elim
theorem bw.asf {n0 n n2:Nat} {v v' v2:AV} {h h2:Hp} {l:List AV} (hf:dj .ze (.fz l 0) v v') (hc:bw n0 v' h n v2 h2 n2):bw n0 v h n v2 h2 n2:=by
 intro D φ w D0 φ0 H0 w0 u hD0 hD hv hH hS;exact hc D φ w D0 φ0 H0 w0 u hD0 hD (hf D φ u (fun u1 h1=>by cases h1;exact .mI _ _ _ (fun _=>rfl)) hv) hH hS
def FzE (x y:AV) (e:Env):Env->Prop
 |[]=>True
 |(t,v2)::r=>(∃v,cV e t=some v/\dj x y v v2)/\FzE x y e r
theorem FzE.get {x y:AV} {e:Env}: ∀{e2:Env},FzE x y e e2-> ∀t v2,cV e2 t=some v2-> ∃v,cV e t=some v/\dj x y v v2
 |[],_,t,v2,h=>by simp [cV] at h
 |(s,u)::r,hf,t,v2,h=>by
  simp only [cV] at h;by_cases hs:t=s
  ·subst hs;simp at h;subst h;exact hf.1
  ·rw [bz hs] at h;exact FzE.get hf.2 t v2 h
def FM (x y:AV) (b:Nat) (h:Hp):Hp->Prop
 |[]=>True
 |(c,k2)::r=>(c≠b/\ ∃k,ab h c=some k/\k2.ro=k.ro/\k2.gr=k.gr/\(k2.gid,k2.mp)=(k.gid,k.mp)/\gE x y k.cells k2.cells)/\FM x y b h r
theorem FM.get {x y:AV} {b:Nat} {h:Hp}: ∀{h2:Hp},FM x y b h h2-> ∀c k2,ab h2 c=some k2->c≠b/\ ∃k,ab h c=some k/\k2.ro=k.ro/\k2.gr=k.gr/\(k2.gid,k2.mp)=(k.gid,k.mp)/\gE x y k.cells k2.cells
 |[],_,c,k2,h=>by simp [ab] at h
 |(s,u)::r,hf,c,k2,h=>by
  simp only [ab] at h;by_cases hs:c=s
  ·subst hs;simp at h;subst h;exact hf.1
  ·rw [bz hs] at h;exact FM.get hf.2 c k2 h
theorem FM.app {x y:AV} {b:Nat} {h:Hp}: ∀{a r:Hp},FM x y b h a->FM x y b h r->FM x y b h (a++r)
 |[],r,_,hr=>hr
 |_::a,r,ha,hr=>⟨ha.1,FM.app ha.2 hr⟩
theorem gE.refl {x y:AV}: ∀{l:List AV},gE x y l l
 |[]=>trivial
 |a::l=>⟨dj.refl,gE.refl⟩
theorem ck.nJ {F:Fx} {c:bG} {K:cF} {e e2:Env} {h h2:Hp} {n b m o:Nat} {x:AV} {k:aW} {cs:List AV} (hs:ck F c K e2 h2 n) (hk:ab h b=some k) (hro:k.ro=false) (hx:(∃cap,x= .sl b o m cap/\m<=cap)\/x= .sg b o m) (hcs:cs=k.cells.drop o\/cs=(k.cells.drop o).take cs.length)
 (he:FzE x (.fz cs m) e e2) (hh:FM x (.fz cs m) b h h2) (hmp:k.mp=none:=by rfl):ck F c K e h n:=by
 intro c' hc' ro hro0 Bd D0 φ0 H0 w0 g1 g2 D φ a w hR hS;have hH:=hR.heap;obtain ⟨hdb,⟨⟨vs,elem,fr,q1,q2,q3,q4⟩,q5⟩⟩:=hH.at_ b k hk;have q1:=q1.cells hmp;let φ1:bU:={φ with fz:=fun B=>if B=φ.cW b then some vs else φ.fz B}
 have ag:dh D φ φ1:=⟨fun c _=>⟨rfl,rfl,rfl,rfl⟩,fun B vs' hB=>by
  simp only [φ1];split
  ·rename_i hBb;subst hBb;obtain ⟨elem',fr',h1⟩:=hH.fz _ _ hB;rw [q1] at h1;simp only [aP,Obj.cells.injEq] at h1;rw [h1.1]
  ·exact hB,rfl⟩
 have hxy: ∀u1,aI D φ1 x u1->aI D φ1 (.fz cs m) u1:=fun u1 h1=>by
  have get: ∀(i:Nat) (a:AV),cs[i]? =some a-> ∃u,vs[φ.off b+o+i]? =some u/\aI D φ a u:=fun i a ha=>by
   have ha':k.cells[o+i]? =some a:=by
    rcases hcs with e|e
    ·rw [e,iq] at ha;exact ha
    ·rw [e,jA,iq] at ha;split at ha
     ·exact ha
     ·cases ha
   obtain ⟨u,hu,hr⟩:=q2 _ a ha';exact ⟨u,by rw [im];exact hu,hr⟩
  have g1:φ1.fz (φ.cW b)=some vs:=by simp [φ1]
  have g2: ∀i,i<cs.length->φ.off b+o+i<vs.size:=fun i hi=>by
   obtain ⟨u,hu,_⟩:=get i _ (aY hi);rcases dw (φ.off b+o+i) vs.size with h'|h'
   ·exact h'
   ·rw [gw h'] at hu;cases hu
  have g3: ∀(i:Nat) (a:AV) (u:Value),cs[i]? =some a->vs[φ.off b+o+i]? =some u->aI D φ1 a u:=fun i a u ha hu=>by
   obtain ⟨u',hu',hr⟩:=get i a ha;rw [hu] at hu';cases hu';exact hr.mono (fun _ h=>h) ag
  rcases hx with ⟨cap,rfl,hcap⟩|rfl
  ·cases h1 with
   |sl _ _ _ _ _=>exact .fz _ _ _ _ _ vs g1 hcap g2 g3
  ·cases h1 with
   |sg _ _ _ j cap _ _ _ hl=>exact .fz _ _ _ _ _ vs g1 hl g2 g3
 have hH1:HR D φ1 (ab h2) w:=by
  refine ⟨⟨fun c kk2 hc=> ?_,fun b1 b2 k1 k2 hne h1 h2' hr=> ?_⟩,fun B vs' hB=> ?_,hH.lp,fun c kk B vs' hc hr hB=> ?_⟩
  ·obtain ⟨hne,kk,h3,e1,e2',e3,hv⟩:=hh.get c kk2 hc;obtain ⟨d1,⟨⟨vs',elem',fr',r1,r2,r3,r4⟩,r5⟩⟩:=hH.at_ c kk h3;obtain ⟨e3,e4⟩:=s9 e3;refine ⟨d1,⟨⟨vs',elem',fr',by rw [e4];exact r1,fun i v2 hi=> ?_,by rw [e1,e2'];exact r3,by rw [e1,e2'];exact r4⟩,by rw [e3];exact r5⟩⟩
   obtain ⟨v,hv1,hv2⟩:=hv.get hi;obtain ⟨u,hu,hur⟩:=r2 i v hv1;exact ⟨u,hu,hv2 D φ1 u hxy (hur.mono (fun _ h=>h) ag)⟩
  ·obtain ⟨_,kk1,a1,a2,_⟩:=hh.get _ _ h1;obtain ⟨_,kk2,b1',b2',_⟩:=hh.get _ _ h2';exact hH.sep b1 b2 kk1 kk2 hne a1 b1' (by rw [<-a2];exact hr)
  ·simp only [φ1] at hB;split at hB
   ·rename_i e;subst e;cases hB;exact ⟨elem,fr,q1⟩
   ·exact hH.fz B vs' hB
  ·obtain ⟨hne,kk1,a1,a2,_⟩:=hh.get _ _ hc;simp only [φ1] at hB;split at hB
   ·rename_i e;subst e;exact hH.sep c b kk1 k hne a1 hk (by rw [<-a2];exact hr)
   ·exact hH.kD c kk1 B vs' a1 (by rw [<-a2];exact hr) hB
 refine hs c' hc' ro hro0 Bd D0 φ0 H0 w0 g1 g2 D φ1 a w ⟨hR.lt,fun t v2 ht=> ?_,hH1,hR.size,hR.defers⟩ ⟨hS.sub,⟨hS.agree.at_,fun B vs' hB=>ag.fz B vs' (hS.agree.fz B vs' hB),hS.agree.lp⟩,hH1,hS.eC,fun c kk hc hr=> ?_,fun B vs' hB=> ?_⟩
 ·obtain ⟨v,hv1,hv2⟩:=he.get t v2 ht;exact hv2 D φ1 _ hxy ((hR.env t v hv1).mono (fun _ h=>h) ag)
 ·obtain ⟨_,kk1,a1,a2,_⟩:=hh.get _ _ hc;exact hS.oY c kk1 a1 (by rw [<-a2];exact hr)
 ·simp only [φ1] at hB;split at hB
  ·rename_i e;subst e;exact .inr (hS.oY b k hk hro)
  ·exact hS.jO B vs' hB
theorem bw.rM {n0 n n2:Nat} {v v' v2:AV} {h h' h2:Hp} {x:AV} {b:Nat} {k:aW} {cs:List AV} {m o:Nat} (hk:ab h b=some k) (hro:k.ro=false) (hx:(∃cap,x= .sl b o m cap/\m<=cap)\/x= .sg b o m) (hcs:cs=k.cells.drop o\/cs=(k.cells.drop o).take cs.length) (hf:dj x (.fz cs m) v v')
 (hh:FM x (.fz cs m) b h h') (hc:bw n0 v' h' n v2 h2 n2) (hmp:k.mp=none:=by rfl):bw n0 v h n v2 h2 n2:=by
 intro D φ w D0 φ0 H0 w0 u hD0 hD hv hH hS;obtain ⟨hdb,⟨⟨vs,elem,fr,q1,q2,q3,q4⟩,q5⟩⟩:=hH.at_ b k hk;have q1:=q1.cells hmp;let φ1:bU:={φ with fz:=fun B=>if B=φ.cW b then some vs else φ.fz B}
 have ag:dh D φ φ1:=⟨fun c _=>⟨rfl,rfl,rfl,rfl⟩,fun B vs' hB=>by
  simp only [φ1];split
  ·rename_i hBb;subst hBb;obtain ⟨elem',fr',h1⟩:=hH.fz _ _ hB;rw [q1] at h1;simp only [aP,Obj.cells.injEq] at h1;rw [h1.1]
  ·exact hB,rfl⟩
 have hxy: ∀u1,aI D φ1 x u1->aI D φ1 (.fz cs m) u1:=fun u1 h1=>by
  have get: ∀(i:Nat) (a:AV),cs[i]? =some a-> ∃u,vs[φ.off b+o+i]? =some u/\aI D φ a u:=fun i a ha=>by
   have ha':k.cells[o+i]? =some a:=by
    rcases hcs with e|e
    ·rw [e,iq] at ha;exact ha
    ·rw [e,jA,iq] at ha;split at ha
     ·exact ha
     ·cases ha
   obtain ⟨u,hu,hr⟩:=q2 _ a ha';exact ⟨u,by rw [im];exact hu,hr⟩
  have g1:φ1.fz (φ.cW b)=some vs:=by simp [φ1]
  have g2: ∀i,i<cs.length->φ.off b+o+i<vs.size:=fun i hi=>by
   obtain ⟨u,hu,_⟩:=get i _ (aY hi);rcases dw (φ.off b+o+i) vs.size with h'|h'
   ·exact h'
   ·rw [gw h'] at hu;cases hu
  have g3: ∀(i:Nat) (a:AV) (u:Value),cs[i]? =some a->vs[φ.off b+o+i]? =some u->aI D φ1 a u:=fun i a u ha hu=>by
   obtain ⟨u',hu',hr⟩:=get i a ha;rw [hu] at hu';cases hu';exact hr.mono (fun _ h=>h) ag
  rcases hx with ⟨cap,rfl,hcap⟩|rfl
  ·cases h1 with
   |sl _ _ _ _ _=>exact .fz _ _ _ _ _ vs g1 hcap g2 g3
  ·cases h1 with
   |sg _ _ _ j cap _ _ _ hl=>exact .fz _ _ _ _ _ vs g1 hl g2 g3
 have hH1:HR D φ1 (ab h') w:=by
  refine ⟨⟨fun c kk2 hc=> ?_,fun b1 b2 k1 k2 hne h1 h2' hr=> ?_⟩,fun B vs' hB=> ?_,hH.lp,fun c kk B vs' hc hr hB=> ?_⟩
  ·obtain ⟨hne,kk,h3,e1,e2',e3,hv⟩:=hh.get c kk2 hc;obtain ⟨d1,⟨⟨vs',elem',fr',r1,r2,r3,r4⟩,r5⟩⟩:=hH.at_ c kk h3;obtain ⟨e3,e4⟩:=s9 e3;refine ⟨d1,⟨⟨vs',elem',fr',by rw [e4];exact r1,fun i v2 hi=> ?_,by rw [e1,e2'];exact r3,by rw [e1,e2'];exact r4⟩,by rw [e3];exact r5⟩⟩
   obtain ⟨v,hv1,hv2⟩:=hv.get hi;obtain ⟨u,hu,hur⟩:=r2 i v hv1;exact ⟨u,hu,hv2 D φ1 u hxy (hur.mono (fun _ h=>h) ag)⟩
  ·obtain ⟨_,kk1,a1,a2,_⟩:=hh.get _ _ h1;obtain ⟨_,kk2,b1',b2',_⟩:=hh.get _ _ h2';exact hH.sep b1 b2 kk1 kk2 hne a1 b1' (by rw [<-a2];exact hr)
  ·simp only [φ1] at hB;split at hB
   ·rename_i e;subst e;cases hB;exact ⟨elem,fr,q1⟩
   ·exact hH.fz B vs' hB
  ·obtain ⟨hne,kk1,a1,a2,_⟩:=hh.get _ _ hc;simp only [φ1] at hB;split at hB
   ·rename_i e;subst e;exact hH.sep c b kk1 k hne a1 hk (by rw [<-a2];exact hr)
   ·exact hH.kD c kk1 B vs' a1 (by rw [<-a2];exact hr) hB
 refine hc D φ1 w D0 φ0 H0 w0 u hD0 hD (hf D φ1 u hxy (hv.mono (fun _ h=>h) ag)) hH1 ⟨hS.sub,⟨hS.agree.at_,fun B vs' hB=>ag.fz B vs' (hS.agree.fz B vs' hB),hS.agree.lp⟩,hH1,hS.eC,fun c kk2 hc hr=> ?_,fun B vs' hB=> ?_⟩
 ·obtain ⟨_,kk1,a1,a2,_⟩:=hh.get _ _ hc;exact hS.oY c kk1 a1 (by rw [<-a2];exact hr)
 ·simp only [φ1] at hB;split at hB
  ·rename_i e;subst e;exact .inr (hS.oY b k hk hro)
  ·exact hS.jO B vs' hB
end Go.Ab
namespace Go.Ab
section
variable {P:Program} {α:Type} {row:α->List AV} {g:FuncId} {caps:List AV}
end
end Go.Ab
namespace Go.Ab
def eZ {α:Type} (p:Nat->α->Bool):List α->Nat->Bool
 |[],_=>true
 |x::r,i=>p i x&&eZ p r (i+1)
theorem fH {α:Type} {p:Nat->α->Bool}: ∀(l:List α) (i:Nat),eZ p l i=true↔ ∀(k:Nat) (x:α),l[k]? =some x->p (i+k) x=true
 |[],i=>by simp [eZ]
 |x::r,i=>by
  simp only [eZ,aw,fH r (i+1)];constructor
  ·rintro ⟨h1,h2⟩ k y hy;cases k with
   |zero=>simp at hy;subst hy;exact h1
   |succ k=>simp at hy;have:=h2 k y hy;rwa [show i+(k+1)=i+1+k by omega]
  ·intro h;refine ⟨h 0 x rfl,fun k y hy=> ?_⟩;have:=h (k+1) y (by simpa using hy)
   rwa [show i+1+k=i+(k+1) by omega]
theorem mr {α:Type} {p:Nat->α->Bool} {l:List α} {k:Nat} {x:α} (h:l[k]? =some x):eZ p (l.drop k) k=(p k x&&eZ p (l.drop (k+1)) (k+1)):=by
 have hlt:=(eK.1 h).1;have hx:l[k]=x:=(eK.1 h).2;rw [kW hlt,hx];rfl
theorem Cz {α:Type} {p:α->Bool}: ∀(l:List α) (i:Nat),eZ (fun _ x=>p x) l i=l.all p
 |[],_=>rfl
 |x::r,i=>by simp only [eZ,fL,Cz r (i+1)]
noncomputable def Rk {α:Type} (g:FuncId) (caps:List AV) (el:α->AV) (p:Nat->α->Bool) (l:List α):Ct:=fun args h n=>
 open Classical in if hx: ∃(k:Nat) (a:α),l[k]? =some a/\args= .i .i64 (k:Int)::el a::caps then some (true,{v:= .b (p hx.choose hx.choose_spec.choose),n}) else none
theorem zY {α:Type} {g:FuncId} {caps:List AV} {el:α->AV} {p:Nat->α->Bool} {l:List α} {k:Nat} {a:α} (ha:l[k]? =some a) (h:Hp) (n:Nat):Rk g caps el p l (.i .i64 (k:Int)::el a::caps) h n=some (true,{v:= .b (p k a),n}):=by
 unfold Rk;have hx: ∃(j:Nat) (b:α),l[j]? =some b/\AV.i .i64 (k:Int)::el a::caps= .i .i64 (j:Int)::el b::caps:=⟨k,a,ha,rfl⟩;rw [dif_pos hx];obtain ⟨h1,h2⟩:=hx.choose_spec.choose_spec;have h3:=(List.cons.inj h2).1;simp only [AV.i.injEq,nq,Int.natCast_inj] at h3;generalize hx.choose_spec.choose=b at h1 ⊢;rw [<-h3] at h1 ⊢;rw [ha] at h1;cases h1;rfl
theorem pz {P:Program} {α:Type} {g:FuncId} {caps:List AV} {el:α->AV} {p:Nat->α->Bool} {l:List α} (hc:bJ P g=true) (hel: ∀a,(el a).al 0=true) (hcaps:ae 0 caps=true)
 (hf: ∀(k:Nat) (a:α),l[k]? =some a->bt P g (.i .i64 (k:Int)::el a::caps) [] 0 (.b (p k a)) [] 0):aq P g (Rk g caps el p l):=fun args h n c E hx hc'=>by
 unfold Rk at hx;split at hx
 ·rename_i hy;obtain ⟨h1,h2⟩:=hy.choose_spec.choose_spec;simp only [aP,bq] at hx;obtain ⟨_,rfl⟩:=hx;generalize hy.choose_spec.choose=a at h1 h2 ⊢;generalize hy.choose=k at h1 h2 ⊢;rw [h2];exact ax.pure hc (by simp only [ae,AV.al,hel,hcaps,az]) rfl (hf k a h1) h n
 ·cases hx
def jM:List Nat->List (Nat×Option aW)
 |[]=>[]
 |b::r=>(b,none)::jM r
theorem jh {c:Nat}: ∀{l:List Nat},dH (jM l) c=if inl l c=true then some none else none
 |[]=>rfl
 |b::r=>by
  simp only [jM,dH,iQ];by_cases h:c=b
  ·subst h;simp
  ·have h': ¬b=c:=fun e=>h e.symm;rw [bz h];simp [h',jh (l:=r)]
def vO (h:Hp):List Nat->Bool
 |[]=>true
 |b::r=>(match ab h b with|some k=> !k.ro|none=>true)&&vO h r
theorem qX {h:Hp}: ∀{l:List Nat} {b:Nat} {k:aW},vO h l=true->inl l b=true->ab h b=some k->k.ro=false
 |[],b,k,_,hb,_=>by simp [inl] at hb
 |c::r,b,k,hw,hb,hk=>by
  simp only [vO,aw] at hw;rw [iQ] at hb;by_cases h:c=b
  ·subst h;rw [hk] at hw;simpa using hw.1
  ·rw [aN h] at hb;exact qX hw.2 hb hk
theorem ax.atm {P:Program} {f:FuncId} {args argsF:List AV} {h:Hp} {n:Nat} {rd:List Nat} {v:AV} (hc:Go.Ab.bJ P f=true)
 (hv:xy h rd args argsF) (hb:v.al 0=true) (hw:vO h rd=true) (hf:bt P f argsF [] 0 v [] 0):ax P f args h n {v,n,rd,md:=jM rd}:=by
 have happ:(bX.app {v,n,rd,md:=jM rd} (only (ab h) rd))=fun _=>none:=by
  funext b;simp only [bX.app,jh,only,ab];cases hi:inl rd b<;>simp
 refine ⟨hc,bx _,fun b r hb=>(by rw [jh] at hb;by_cases hi:inl rd b=true;exact hi;rw [aN hi] at hb;cases hb),fun b kk hb=>(by simp [ab] at hb),fun D φ w us hfresh hH hA=> ?_⟩
 let φ1:=φ.nJ (only (ab h) rd) w;have hH1:HR (fun _=>False) φ1 (ab []) w:=⟨⟨fun b k hb=>by simp [ab] at hb,fun b1 b2 k1 k2 _ hb=>by simp [ab] at hb⟩,fun B vs hB=>by
  simp only [φ1,bU.nJ] at hB;split at hB
  ·exact lP hB
  ·exact hH.fz B vs hB,hH.lp,fun b k B vs hb=>by simp [ab] at hb⟩
 have hA1:cJ (fun _=>False) φ1 argsF us:=⟨by rw [<-hv.len];exact hA.1,fun i a u ha hu=>by
  obtain ⟨a',h1,h2⟩:=hv.get ha;exact h2 D _ φ w u hH (hA.2 i a' u h1 hu)⟩
 refine (hf (fun _=>False) φ1 w us (fun _ h=>h.elim) hH1 hA1).mono fun e w' hx=> ?_;obtain ⟨D',φ2,u,rfl,hD',hr,hS⟩:=hx;have ag1:=bU.gD hH D;let φ3:bU:={φ with fz:=φ2.fz,lp:=φ2.lp}
 have hst: ∀c,c<w.heap.size->w'.heap[c]? =w.heap[c]? :=fun c hc=>hS.eC.block c hc (fun b k hb=>by simp [ab] at hb)
 refine ⟨u,φ3,rfl,?_,?_,fun c kk hc _=>by rw [happ] at hc;cases hc⟩
 ·have h1:aI (fun _=>False) φ2 v u:=hr.y7 hb;exact aI.tQ (φ:=φ2) (φ':=φ3) (fun _ h=>h.elim) (fun _ h=>h.elim) (fun _ _ h=>h) (fun _ _ h=>h) h1
 show dR D φ _ w (Dn D n n) φ3 (bX.app _ _) w';rw [happ];refine ⟨fun b h=> .inl h,⟨fun b _=>⟨rfl,rfl,rfl,rfl⟩,fun B vs hB=>hS.agree.fz B vs (ag1.fz B vs hB),hS.agree.lp⟩,⟨⟨fun b k hb=>(by cases hb),fun b1 b2 k1 k2 _ hb=>(by cases hb)⟩,hS.hr.fz,hS.hr.lp,fun b k B vs hb=>(by cases hb)⟩,
  ⟨hS.eC.os,hS.eC.tape,hS.eC.output,hS.eC.size,fun c hc _=>hst c hc⟩,fun b k hb=>(by cases hb),fun B vs hB=> ?_⟩
 rcases hS.jO B vs hB with h1|h1|⟨m,km,h1,_⟩
 ·simp only [φ1,bU.nJ] at h1;split at h1
  ·rename_i hx;obtain ⟨b,k,hbk,hB'⟩:=hx;right;right;refine ⟨b,k,hbk,?_,hB'⟩;simp only [only] at hbk;cases hi:inl rd b
   ·rw [hi] at hbk;cases hbk
   ·rw [hi] at hbk;exact qX hw hi hbk
  ·exact .inl h1
 ·exact .inr (.inl h1)
 ·simp [ab] at h1
theorem GH {pn:Option Value} {v:AV} {n:Nat} {rd:List Nat} {b:Nat} {h:Hp}:(bX.mk v n rd [(b,none)] [] pn).fe h=nH h b:=(rfl)
attribute [go_sem ↓] GH
end Go.Ab
namespace Go.Ab
theorem jE.wkN {h:Hp} {rd:List Nat} {a b c:AV} (hv:jE h rd a b) (hw:nL b c):jE h rd a c:=fun D D' φ w u hH hu=>hw _ _ _ (hv D D' φ w u hH hu)
theorem jE.ar7 {h:Hp} {rd:List Nat} {l m:List AV} (hl:xy h rd l m):jE h rd (.agg l) (.agg m):=fun D D' φ w u hH hv=>by
 cases hv with
 |agg _ cs hlen hh=>
  refine .agg m cs (by rw [<-hlen,hl.len]) (fun i b u hb hu=> ?_)
  obtain ⟨a,h1,h2⟩:=hl.get hb;exact h2 D D' φ w u hH (hh i a u h1 hu)
theorem Dq {h:Hp} {rd:List Nat} {b o n:Nat} {k:aW} {cs:List AV} {D D':Nat->Prop} {φ:bU} {w:World} (hb:only (ab h) rd b=some k) (hmp:k.mp=none) (hl:xy h rd (aA k.cells o n) cs) (hH:HR D φ (only (ab h) rd) w): ∃vs,(φ.nJ (only (ab h) rd) w).fz (φ.cW b)=some vs/\(∀i,i<cs.length->φ.off b+o+i<vs.size)∧
 ∀(i:Nat) (a:AV) (u:Value),cs[i]? =some a->vs[φ.off b+o+i]? =some u->aI D' (φ.nJ (only (ab h) rd) w) a u:=by
 obtain ⟨_,⟨⟨vs,elem,fr,h1,h2,_⟩,_⟩⟩:=hH.at_ b k hb;have h1:=h1.cells hmp;have get: ∀(i:Nat) (a:AV),cs[i]? =some a-> ∃u a',vs[φ.off b+o+i]? =some u/\aI D φ a' u/\jE h rd a' a:=fun i a ha=>by
  obtain ⟨a',h3,h4⟩:=hl.get ha;simp only [aA,jA,iq] at h3;split at h3
  ·obtain ⟨u,hu,hr⟩:=h2 _ a' h3;exact ⟨u,a',by rw [im];exact hu,hr,h4⟩
  ·cases h3
 refine ⟨vs,by rw [bU.DM (D:=D) hb];simp [yM,h1],fun i hi=> ?_,fun i a u ha hu=> ?_⟩
 ·obtain ⟨u,_,hu,_⟩:=get i _ (aY hi);rcases dw (φ.off b+o+i) vs.size with h'|h'
  ·exact h'
  ·rw [gw h'] at hu;cases hu
 ·obtain ⟨u',a',hu',hr,hv⟩:=get i a ha;rw [hu] at hu';cases hu';exact hv D D' φ w u hH hr
theorem jE.slN {h:Hp} {rd:List Nat} {b o m c n:Nat} {k:aW} {cs:List AV} (hb:only (ab h) rd b=some k) (hm:m<=c) (hl:xy h rd (aA k.cells o n) cs) (hmp:k.mp=none:=by rfl):jE h rd (.sl b o m c) (.fz cs m):=fun D D' φ w u hH hv=>by
 cases hv with
 |sl _ _ _ _ hD=>
  obtain ⟨vs,g1,g2,g3⟩:=Dq (D':=D') hb hmp hl hH;exact .fz _ _ _ _ _ vs g1 hm g2 g3
theorem jE.sgN {h:Hp} {rd:List Nat} {b o m n:Nat} {k:aW} {cs:List AV} (hb:only (ab h) rd b=some k) (hl:xy h rd (aA k.cells o n) cs) (hmp:k.mp=none:=by rfl):jE h rd (.sg b o m) (.fz cs m):=fun D D' φ w u hH hv=>by
 cases hv with
 |sg _ _ _ j cap hD hj hc hle=>
  obtain ⟨vs,g1,g2,g3⟩:=Dq (D':=D') hb hmp hl hH;exact .fz _ _ _ _ _ vs g1 hle g2 g3
theorem jE.pN {h:Hp} {rd:List Nat} {b o:Nat} {k:aW} {cs:List AV} (hb:only (ab h) rd b=some k) (hl:xy h rd k.cells cs) (hmp:k.mp=none:=by rfl):jE h rd (.p b o) (.fp cs o):=fun D D' φ w u hH hv=>by
 cases hv with
 |p _ _ hD=>
  have hc:aA k.cells 0 k.cells.length=k.cells:=by simp [aA]
  obtain ⟨vs,g1,g2,g3⟩:=Dq (D':=D') (o:=0) (n:=k.cells.length) hb hmp (by rw [hc];exact hl) hH
  have:=aI.fp (D:=D') (φ:=φ.nJ (only (ab h) rd) w) cs o (φ.cW b) (φ.off b) vs g1 (fun i hi=>by have:=g2 i hi;rwa [fu] at this) (fun i a u ha hu=>g3 i a u ha (by rwa [fu]))
  exact this
def k7 (g:AV->Option (List Nat×AV)):List AV->Option (List Nat×List AV)
 |[]=>some ([],[])
 |a::l=>(g a).bind fun x=>(k7 g l).bind fun y=>some (x.1++y.1,x.2::y.2)
def nv (h:Hp):Nat->AV->Option (List Nat×AV)
 |f,.agg l=>match f with
  |0=>none
  |f+1=>(k7 (nv h f) l).bind fun r=>some (r.1,.agg r.2)
 |f,.sl b o m c=>match f with
  |0=>none
  |f+1=>((ab h b).bind aW.DH).bind fun q=>(k7 (nv h f) (aA q.cells o (m*(q.cells.length/c)))).bind fun r=>bif decide (m<=c) then some (b::r.1,.fz r.2 m) else none
 |f,.sg b o m=>match f with
  |0=>none
  |f+1=>((ab h b).bind aW.DH).bind fun q=>q.gr.bind fun z=>(k7 (nv h f) (aA q.cells o (m*z))).bind fun r=>some (b::r.1,.fz r.2 m)
 |f,.p b o=>match f with
  |0=>none
  |f+1=>((ab h b).bind aW.DH).bind fun q=>(k7 (nv h f) q.cells).bind fun r=>some (b::r.1,.fp r.2 o)
 |f,.fn g l=>match f with
  |0=>none
  |f+1=>(k7 (nv h f) l).bind fun r=>some (r.1,.fn g r.2)
 |_,.ns=>some ([],.fz [] 0)
 |_,.ze=>some ([],.fz [] 0)
 |_,v=>bif v.al 0 then some ([],v) else none
theorem FA {l m:List Nat} {b:Nat}:inl (l++m) b=(inl l b||inl m b):=by
 induction l with
 |nil=>rfl
 |cons c l ih=>simp only [ee,inl,ih,Bool.or_assoc]
theorem ox {h:Hp} {rd:List Nat} {g:AV->Option (List Nat×AV)} (hg: ∀a r,g a=some r->(∀b,inl r.1 b=true->inl rd b=true)->jE h rd a r.2/\r.2.al 0=true):
 ∀{l:List AV} {r:List Nat×List AV},k7 g l=some r->(∀b,inl r.1 b=true->inl rd b=true)->xy h rd l r.2/\ae 0 r.2=true
 |[],r,hr,_=>by cases hr;exact ⟨trivial,rfl⟩
 |a::l,r,hr,hi=>by
  simp only [k7,af] at hr;obtain ⟨x,hx,y,hy,he⟩:=hr;cases he;have h1:=hg a x hx (fun b hb=>hi b (by rw [FA,hb];rfl))
  have h2:=ox hg hy (fun b hb=>hi b (by rw [FA,hb,eU]))
  exact ⟨⟨h1.1,h2.1⟩,by simp only [ae,h1.2,h2.2,az]⟩
theorem Qp {h:Hp} {rd:List Nat}: ∀(f:Nat) (a:AV) (r:List Nat×AV),nv h f a=some r->(∀b,inl r.1 b=true->inl rd b=true)->jE h rd a r.2/\r.2.al 0=true:=by
 intro f;induction f with
 |zero=>
  intro a r hr hi;cases a<;>simp only [nv] at hr
  case agg=>cases hr
  case sl=>cases hr
  case sg=>cases hr
  case p=>cases hr
  case fn=>cases hr
  case ns=>cases hr;exact ⟨jE.wkN (jE.same rfl) nL.ns,rfl⟩
  case ze=>cases hr;exact ⟨jE.wkN (jE.same rfl) nL.ze,rfl⟩
  all_goals
   revert hr;cases hc:AV.al 0 _
   ·intro h;cases h
   ·intro h;cases h;exact ⟨jE.same hc,hc⟩
 |succ f ih=>
  intro a r hr hi;cases a<;>simp only [nv] at hr
  case ns=>cases hr;exact ⟨jE.wkN (jE.same rfl) nL.ns,rfl⟩
  case ze=>cases hr;exact ⟨jE.wkN (jE.same rfl) nL.ze,rfl⟩
  case agg l=>
   simp only [af] at hr;obtain ⟨x,hx,he⟩:=hr;cases he;obtain ⟨h1,h2⟩:=ox ih hx hi;exact ⟨jE.ar7 h1,by simpa only [AV.al] using h2⟩
  case sl b o m c=>
   simp only [af] at hr;obtain ⟨q,⟨q',hq',hq⟩,x,hx,he⟩:=hr;obtain ⟨hq,hmp⟩:=dO (show iO h b=some q by simp only [iO,hq',aS,hq])
   revert he;cases hm:decide (m<=c)
   ·intro h;cases h
   ·intro h;cases h;obtain ⟨h1,h2⟩:=ox ih hx (fun b hb=>hi b (by simp only [inl,hb,eU]))
    exact ⟨jE.slN (by unfold only;rw [hi b (by simp [inl])];exact hq) (bO hm) h1 hmp,by simpa only [AV.al] using h2⟩
  case sg b o m=>
   simp only [af] at hr;obtain ⟨q,⟨q',hq',hq⟩,z,hz,x,hx,he⟩:=hr;obtain ⟨hq,hmp⟩:=dO (show iO h b=some q by simp only [iO,hq',aS,hq])
   cases he;obtain ⟨h1,h2⟩:=ox ih hx (fun b hb=>hi b (by simp only [inl,hb,eU]))
   exact ⟨jE.sgN (by unfold only;rw [hi b (by simp [inl])];exact hq) h1 hmp,by simpa only [AV.al] using h2⟩
  case p b o=>
   simp only [af] at hr;obtain ⟨q,⟨q',hq',hq⟩,x,hx,he⟩:=hr;obtain ⟨hq,hmp⟩:=dO (show iO h b=some q by simp only [iO,hq',aS,hq])
   cases he;obtain ⟨h1,h2⟩:=ox ih hx (fun b hb=>hi b (by simp only [inl,hb,eU]))
   exact ⟨jE.pN (by unfold only;rw [hi b (by simp [inl])];exact hq) h1 hmp,by simpa only [AV.al] using h2⟩
  case fn g l=>
   simp only [af] at hr;obtain ⟨x,hx,he⟩:=hr;cases he;obtain ⟨h1,h2⟩:=ox ih hx hi;exact ⟨jE.fn h1,by simpa only [AV.al] using h2⟩
  all_goals
   revert hr;cases hc:AV.al 0 _
   ·intro h;cases h
   ·intro h;cases h;exact ⟨jE.same hc,hc⟩
theorem bt.FI {P:Program} {f:FuncId} {args:List AV} {v:AV} (h:ax P f args [] 0 {v,n:=0}):bt P f args [] 0 v [] 0:=fun D φ w us hD hH hA=>by
 have hno:only (ab []) []=ab []:=by funext b;simp [only,ab]
 have:=h.run D φ w us (fun b h1 h2=>by exact absurd h2 (Nat.not_lt_zero _)) (by show HR D φ (only (ab []) []) w;rw [hno];exact hH) hA
 refine this.mono fun e w' hx=> ?_;obtain ⟨u,φ',he,hr,hS,_⟩:=hx;refine ⟨Dn D 0 0,φ',u,he,fun b hb=> ?_,hr,?_⟩
 ·rcases hb with hb|hb
  ·exact hD b hb
  ·omega
 ·have ha:bX.app {v,n:=0} (only (ab []) [])=ab []:=by funext b;simp [bX.app,dH,ab,only]
  have h2:only (ab []) (bX.rd {v:=v,n:=0})=ab []:=hno;rw [show bX.app {v:=v,n:=0} (only (ab []) (bX.rd {v:=v,n:=0}))=ab [] from ha,h2] at hS
  exact hS
def bX.plain (E:bX):Bool:=E.rd.isEmpty&&(E.md.isEmpty&&(E.nw.isEmpty&&(Nat.beq E.n 0&&E.pn.isNone)))
theorem bX.AJ {E:bX} (h:E.plain=true):E={v:=E.v,n:=0}:=by
 obtain ⟨v,n,rd,md,nw,pn⟩:=E;simp only [bX.plain,aw,List.isEmpty_iff,Ez] at h;obtain ⟨rfl,rfl,rfl,h4,rfl⟩:=h;rw [dC h4]
def bj (k:Ct):Ct:=fun args h n=>(k7 (nv h 6) args).bind fun r=>(k r.2 [] 0).bind fun q=>bif q.1&&(q.2.plain&&q.2.v.pl) then some (true,{v:=q.2.v,n,rd:=r.1}) else none
theorem aq.nv {P:Program} {f:FuncId} {k:Ct} (hk:aq P f k):aq P f (bj k):=fun args h n c E hc ht=>by
 simp only [bj,af] at hc;obtain ⟨r,hr,q,hq,he⟩:=hc;revert he;cases hb:q.1&&(q.2.plain&&q.2.v.pl)
 ·intro h;cases h
 ·intro h;cases h;simp only [aw] at hb;obtain ⟨b1,b2,b3⟩:=hb;obtain ⟨c0,E0⟩:=q;have hok:=hk r.2 [] 0 c0 E0 hq b1;dsimp only at b2 b3;rw [bX.AJ b2] at hok;exact ax.A3 hok.bJ (ox (Qp 6) hr (fun b h=>h)).1 b3 (bt.FI hok)
def ew (k:Ct):Ct:=fun args h n=>(k7 (Ab.nv h 6) args).bind fun r=>(k r.2 [] 0).bind fun q=>bif q.1&&(q.2.plain&&(q.2.v.al 0&&vO h r.1)) then some (true,{v:=q.2.v,n,rd:=r.1,md:=jM r.1}) else none
theorem aq.ng {P:Program} {f:FuncId} {k:Ct} (hk:aq P f k):aq P f (ew k):=fun args h n c E hc ht=>by
 simp only [ew,af] at hc;obtain ⟨r,hr,q,hq,he⟩:=hc;revert he;cases hb:q.1&&(q.2.plain&&(q.2.v.al 0&&vO h r.1))
 ·intro h;cases h
 ·intro h;cases h;simp only [aw] at hb;obtain ⟨b1,b2,b3,b4⟩:=hb;obtain ⟨c0,E0⟩:=q;have hok:=hk r.2 [] 0 c0 E0 hq b1;dsimp only at b2 b3;rw [bX.AJ b2] at hok;exact ax.atm hok.bJ (ox (Qp 6) hr (fun b h=>h)).1 b3 b4 (bt.FI hok)
section
variable {h:Hp} {f:Nat}
theorem iE {l:List AV}:nv h (f+1) (.agg l)=(k7 (nv h f) l).bind fun r=>some (r.1,.agg r.2):=(rfl)
theorem iL {b o:Nat}:nv h (f+1) (.p b o)=((ab h b).bind aW.DH).bind fun q=>(k7 (nv h f) q.cells).bind fun r=>some (b::r.1,.fp r.2 o):=(rfl)
theorem HF {b o m:Nat}:nv h (f+1) (.sg b o m)=((ab h b).bind aW.DH).bind fun q=>q.gr.bind fun z=>(k7 (nv h f) (aA q.cells o (m*z))).bind fun r=>some (b::r.1,.fz r.2 m):=(rfl)
theorem jf {g:FuncId} {l:List AV}:nv h (f+1) (.fn g l)=(k7 (nv h f) l).bind fun r=>some (r.1,.fn g r.2):=(rfl)
theorem jN {k:IntKind} {x:Int}:nv h f (.i k x)=some ([],.i k x):=by cases f<;>rfl
theorem aa0 {x:Bool}:nv h f (.b x)=some ([],.b x):=by cases f<;>rfl
theorem DN {x:List UInt8}:nv h f (.s x)=some ([],.s x):=by cases f<;>rfl
theorem wG:nv h f .ns=some ([],.fz [] 0):=by cases f<;>rfl
theorem agh:nv h f .ze=some ([],.fz [] 0):=by cases f<;>rfl
theorem dz {l:List AV} {m:Nat} (hl:ae 0 l=true):nv h f (.fz l m)=some ([],.fz l m):=by
 cases f<;>(show (bif ae 0 l then _ else _)=_;rw [hl];rfl)
theorem ny {l:List AV} {m:Nat} (hl:ae 0 l=true):nv h f (.fp l m)=some ([],.fp l m):=by
 cases f<;>(show (bif ae 0 l then _ else _)=_;rw [hl];rfl)
theorem bQ {g:AV->Option (List Nat×AV)}:k7 g []=some ([],[]):=(rfl)
theorem bn {g:AV->Option (List Nat×AV)} {a:AV} {l:List AV}:k7 g (a::l)=(g a).bind fun x=>(k7 g l).bind fun y=>some (x.1++y.1,x.2::y.2):=(rfl)
theorem Ee {g:AV->Option (List Nat×AV)}: ∀{a b a' b':List AV},k7 g a=some ([],a')->k7 g b=some ([],b')->k7 g (a++b)=some ([],a'++b')
 |[],b,a',b',h1,h2=>by cases h1;exact h2
 |x::a,b,a',b',h1,h2=>by
  simp only [k7,af,aP,bq] at h1;obtain ⟨y,hy,z,hz,e1,e2⟩:=h1;obtain ⟨f1,f2⟩:=List.append_eq_nil_iff.1 e1;have hz':k7 g a=some ([],z.2):=by rw [hz,<-f2]
  simp only [ee,k7,hy,Ee hz' h2,aS,f1,<-e2,List.nil_append,ee]
theorem oJ {α:Type} {row:α->List AV} {g:AV->Option (List Nat×AV)} (hr: ∀a,k7 g (row a)=some ([],row a)): ∀l:List α,k7 g (rows row l)=some ([],rows row l)
 |[]=>rfl
 |a::l=>Ee (a:=row a) (b:=rows row l) (hr a) (oJ hr l)
end
end Go.Ab
namespace Go.Ab
/-! ### the executor -/
section
variable {P:Program} {ct:List Nat} {N n0:Nat}
theorem WP.sub {c:Code} {K:cF} {e e2:Env} {h:Hp} {n:Nat} (hs: ∀t v,cV e2 t=some v->cV e t=some v) (hw:WP P N n0 c K e2 h n):WP P N n0 c K e h n:=fun ro hro B D0 φ0 H0 w0 h1 h2 D φ a w hR hS=>
 hw ro hro B D0 φ0 H0 w0 h1 h2 D φ a w ⟨hR.lt,fun t v ht=>hR.env t v (hs t v ht),hR.heap,hR.size,hR.defers⟩ hS
end
/-! ### calls that are known -/
structure Hq where
 f:Nat
 a:List AV
 h:Hp
 k:Nat
 v:AV
 hR:Hp
 kR:Nat
structure Hq.ok (P:Program) (m:Hq):Prop where
 call:bJ P m.f=true
 ftl:bt P m.f m.a m.h m.k m.v m.hR m.kR
 le:m.k<=m.kR
 names:ko m.h m.k m.kR m.hR=true
noncomputable def MOK (P:Program) (M:List Hq):Prop:= ∀m∈M,m.ok P
theorem MOK.nil {P:Program}:MOK P []:=fun m h=>by cases h
theorem MOK.cons {P:Program} {m:Hq} {M:List Hq} (h:m.ok P) (hM:MOK P M):MOK P (m::M):=fun x hx=>by
 rcases jD.1 hx with rfl|hx
 ·exact h
 ·exact hM x hx
end Go.Ab
namespace Go.Ab
open Go.RowKit
theorem dR.below {D:Nat->Prop} {φ:bU} {w w':World} (hH:HR D φ (ab []) w) (hb:Below w.heap.size w w'):dR D φ (ab []) w D φ (ab []) w':=
 dR.mk' hH rfl rfl (fun _ h=>h) (dh.refl D φ).at_ ⟨fun b k hh=>by simp [ab] at hh,fun b1 b2 k1 k2 _ hh=>by simp [ab] at hh⟩ ⟨hb.os,hb.tape,hb.output,hb.size,fun c hc _=>hb.block c hc⟩ fun b k hh=>by simp [ab] at hh
theorem bt.Bt {P:Program} {f:FuncId} {args:List AV} {v:AV} {n:Nat} (hc: ∀D φ us,cJ D φ args us-> ∃u,aI D φ v u/\ ∀w,Calls P f us.toArray w fun e w'=>e= .returned u/\Below w.heap.size w w') (he:ext P f=false) (hy:f≠YB:=by decide):bt P f args [] n v [] n:=by
 intro D φ w us hD hH ha;obtain ⟨u,hv,hcl⟩:=hc D φ us ha;refine rT.of ((hcl w).mono fun e w' hx=> ?_) hy he;obtain ⟨rfl,hb⟩:=hx;exact ⟨D,φ,u,rfl,hD,hv,dR.below hH hb⟩
end Go.Ab
namespace Go.Ab
def alv (cx:Cx) (ops:List aj) (K:cF):cF:=fun ex e h n=>match ex with
 | .normal=>ic cx ops e h n K
 |_=>False
theorem IC {P:Program} {ct:List Nat} {N:Nat} {c:Code} {os:List aj} (h1:bH P ct N c= .cQ os): ∃id rops,c= .region id rops false/\(kL N rops.toList=true/\lh rops.toList=true)/\rops.toList.map (bp P rops.toList (kl rops.toList++ct))=os:=by
 cases c with
 |seq _ _=>simp [bH] at h1
 |region id ops draw=>
  simp only [bH] at h1;split at h1
  ·rename_i hcnd;cases draw
   ·simp only [cY,bV,bG.cQ.injEq] at h1;simp only [aw] at hcnd;exact ⟨id,ops,rfl,hcnd.1,h1⟩
   ·simp at h1
  ·cases h1
 |cond x y z=>simp only [bH] at h1;split at h1<;>cases h1
 |rangeFunc g' ps' A' B'=>simp only [bH] at h1;split at h1<;>cases h1
 |_=>simp [bH] at h1
section
variable {P:Program}
theorem cL.O4 {C:Nat->AV->Hp->Nat->AV->Hp->Nat->Prop} (hC:z7 C) {f g:FuncId} {fn gn:Func} {I Ig:dm} {cx:Cx} {args:List AV} {pn:Option Value} {n:Nat} {h:Hp} {v2:AV} {h2:Hp} {n2:Nat} {pre ops:List aj} {x:cC} {s:Bool} {rest:bG}
 (hcx:Sound P cx) (hm:P.follows .mixedOrders=true) (hf:P.funcs[f]? =some fn) (hI:aK P fn=some I) (hnp:args.length<=I.N) (hcode:I.code= .seq (.cQ pre) (.seq (.cQ (ops++[⟨none,.w9 x [],none,s⟩])) rest))
 (hcal:bJ P g=true) (hg:P.funcs[g]? =some gn) (hIg:aK P gn=some Ig) (hgr:Ig.res=[])
 (hi:ic cx pre (eS 0 args) h n (alv cx ops (C5 x g fun Gs e h' n'=>Gs.length<=Ig.N/\ck ⟨P,cx,I.ct,I.N,n⟩ rest (wU I.res Ig.code Gs fun p v h' n'=>p=pn/\C n v h' n' v2 h2 n2) e h' n'))):cL P f args h n pn v2 h2 n2:=by
 intro D φ w us hD0 hH hargs;have hD: ∀b,(fun b=>b<n) b->b<n:=fun b hb=>hb;have hH:HR (fun b=>b<n) φ (ab h) w:=hH.grow hD0;have hargs:cJ (fun b=>b<n) φ args us:=hargs.mono hD0 (dh.refl _ _);have hout: ∀D' φ' H' w',dR (fun b=>b<n) φ (ab h) w D' φ' H' w'->dR D φ (ab h) w D' φ' H' w':=fun D' φ' H' w' hs=>⟨fun b hb=>hs.sub b (hD0 b hb),⟨fun b hb=>hs.agree b (hD0 b hb),hs.agree.fz,hs.agree.lp⟩,hs.hr,hs.eC,hs.oY,hs.jO⟩;simp only [aK,af] at hI;obtain ⟨c,hc,rs,hrs,hI⟩:=hI;split at hI
 ·rename_i hle;rw [aw] at hle;have hfy:f≠YB:=EJ hf hle.2;have hle:=bO hle.1;simp only [aP] at hI;subst hI;simp only at hi hnp hcode;refine rT.of (oM hf hc ?_) hfy (px hf hc)
  -- the code
  obtain ⟨c0,c1,c2,rfl,q0,q1,q2⟩: ∃c0 c1 c2,c= .seq c0 (.seq c1 c2)/\bH P (dq c) fn.ntmps c0= .cQ pre/\bH P (dq c) fn.ntmps c1= .cQ (ops++[⟨none,.w9 x [],none,s⟩])/\bH P (dq c) fn.ntmps c2=rest:=by
   revert hcode;generalize dq c=ct;intro hcode;cases c with
   |seq c0 c3=>
    simp only [bH,bG.seq.injEq] at hcode;obtain ⟨h0,hcode⟩:=hcode;cases c3 with
    |seq c1 c2=>simp only [bH,bG.seq.injEq] at hcode;exact ⟨c0,c1,c2,rfl,h0,hcode.1,hcode.2⟩
    |region id ops draw=>simp only [bH] at hcode;split at hcode<;>(try split at hcode)<;>cases hcode
    |cond x y z=>simp only [bH] at hcode;split at hcode<;>cases hcode
    |rangeFunc g' ps' A' B'=>simp only [bH] at hcode;split at hcode<;>cases hcode
    |_=>simp [bH] at hcode
   |region id ops draw=>simp only [bH] at hcode;split at hcode<;>(try split at hcode)<;>cases hcode
   |cond x y z=>simp only [bH] at hcode;split at hcode<;>cases hcode
   |rangeFunc g' ps' A' B'=>simp only [bH] at hcode;split at hcode<;>cases hcode
   |_=>simp [bH] at hcode
  generalize hct:dq (.seq c0 (.seq c1 c2))=ct at q0 q1 q2;obtain ⟨id0,rops0,rfl,hok0,hmap0⟩:=IC q0;obtain ⟨id,rops,rfl,hok,hmap⟩:=IC q1;generalize kl rops0.toList++ct=sp0 at hmap0;generalize kl rops.toList++ct=sp at hmap;obtain ⟨l,od,hsplit,hmapl,hod⟩: ∃l od,rops.toList=l++[od]/\l.map (bp P rops.toList sp)=ops/\bp P rops.toList sp od=⟨none,.w9 x [],none,s⟩:=by
   obtain ⟨l1,l2,e1,e2,e3⟩:=List.map_eq_append_iff.1 hmap;cases l2 with
   |nil=>simp at e3
   |cons od l3=>
    cases l3 with
    |nil=>simp at e3;exact ⟨l1,od,e1,e2,e3⟩
    |cons _ _=>simp at e3
  -- the statement 'defer'
  obtain ⟨hog,hodst,cd,fo,hop,hcf,hfo,hca⟩:od.guard=none/\od.dst=none/\ ∃cd fo,od.op= .defer cd/\cd.callee= .value fo/\cO fo=some x/\cd.args= #[]:=by
   unfold bp at hod;split at hod
   ·rename_i hg0;simp only [aj.mk.injEq] at hod;obtain ⟨g1,g2,_⟩:=hod;refine ⟨hg0,g1,?_⟩;have h0: ∀o:Op,db P o= .w9 x []-> ∃cd fo,o= .defer cd/\cd.callee= .value fo/\cO fo=some x/\cd.args= #[]:=fun o ho=>by
     cases o with
     |defer cd=>
      simp only [db] at ho;split at ho
      ·rename_i fo hfo;cases hx:cO fo with
       |none=>simp [hx,bK] at ho
       |some x'=>
        cases hl:vr cd.args.toList with
        |none=>simp [hx,hl,bK] at ho
        |some l'=>
         simp only [hx,hl,aS,fN,bK,gq,jJ.w9.injEq] at ho;obtain ⟨rfl,rfl⟩:=ho;refine ⟨cd,fo,rfl,hfo,hx,?_⟩;cases hal:cd.args.toList with
         |nil=>exact Array.toList_inj.1 (by simpa using hal)
         |cons y r=>
          rw [hal] at hl;simp only [vr,af] at hl;obtain ⟨_,_,_,_,hl⟩:=hl;cases hl
      ·cases ho
     |_=>
      exfalso;exact yI (pW (by simp)) ho
    exact h0 _ g2
   ·split at hod<;>simp at hod
  have hR:=Dv (N:=fn.ntmps) (m:=(w.heap.size,[])) hD hH (us:=us.toArray) (args:=args) (by simpa using hargs) hnp rfl
  refine wpIn_seq (wpIn_region_list ?_);rw [show rops0.toList=rops0.toList++[] from (cM _).symm]
  refine mQ (n0:=n) hcx (M:=(w.heap.size,[])) (sp:=sp0) hD hok0.2 rops0.toList (fun o ho=>ho) hok0.1 (eS 0 args) h n _ φ _ w (bx _) (by rw [hmap0];exact hi) hR (dR.refl hH) (fun D2 φ2 e2' h2' n2' a2 w2 hK hn2 hd2 hR2' hS2'=> ?_) (fun ch e h n hk=>hk)
  unfold wpListIn;show Code.wpIn _ _ _ _ _ _ _;refine wpIn_seq (wpIn_region_list ?_);rw [hsplit];have hmem: ∀o∈l,o∈rops.toList:=fun o ho=>by rw [hsplit];exact List.mem_append_left _ ho
  have hdl:kL fn.ntmps l=true:=by
   have:=hok.1;rw [hsplit] at this;simp only [kL,List.all_append,aw] at this;exact this.1
  refine mQ (n0:=n) hcx (M:=(w.heap.size,[])) (sp:=sp) hD hok.2 l hmem hdl e2' h2' n2' D2 φ2 a2 w2 hn2 (by rw [hmapl];exact hK) hR2' hS2' (fun D1 φ1 e1 h1 n1 a1 w1 hK hn1 hd1' hR1 hS1=> ?_) (fun ch e h n hk=>hk)
  have hd1:a1.defers=[]:=hd1'.trans hd2
  -- at the statement
  obtain ⟨v,hv,hK1⟩:=fw hK;obtain ⟨g',caps,hvg,hgg,hK2⟩:=wD hK1;clear hK1 hK;subst hvg;subst hgg;obtain ⟨bs,hbs,hnd,hK⟩:=fw hK2;clear hK2
  ·obtain ⟨rfl,hbk⟩:=tz hbs;have hvr:=nZ (fun t v _ hv=>hR1.env t v hv) hfo hR1.heap hv;obtain ⟨hgy,capsV,hev,hcv⟩:=hvr.wR;have hcapsV:=wk hR1.heap hbk hcv;obtain ⟨hHG,hkG⟩:=Cf hnd hbk hR1.heap;have hGnd:=wZ hR1.heap hnd hbk;obtain ⟨hGN,hseam⟩:=hK (bs.map φ1.cW) (by simp) hGnd
   -- the step
   unfold wpListIn;have hwant:Region.wanted od (yielded rops a1.tmps)=true:=by simp [Region.wanted,hog]
   rw [hwant];simp only [cu];refine ⟨fun _ _=>trivial,?_⟩;show od.uponIn (Fw none) 0 P a1 _ _ ((od.semAt none a1.eval).run P w1);rw [Oper.semAt_none];have hrun:(execOp a1.eval od).run P w1= .ok (.defer {target:= .fn (.func g') capsV.toArray,args:= #[]}) w1:=by
    obtain ⟨callee,cargs,ctys⟩:=cd;simp only at hcf hca;subst hcf;subst hca;simp only [execOp,hop,resolve,Sem.run_bind,hev,Deferred.ofValue,Sem.run_pure,Result.andThen_ok];simp
   rw [hrun,Oper.uponIn_defer,hd1,hodst];unfold wpListIn;show Code.wpIn _ _ _ _ _ _ _;have hS2:dR (fun b=>b<n) φ (ab h) w D1 φ1 (ab (nd h1 bs (bs.map φ1.cW))) w1:=
    ⟨hS1.sub,hS1.agree,hHG,hS1.eC,fun b k hb hk=>by
      obtain ⟨k0,hk0,hro⟩:=hkG b k hb;exact hS1.oY b k0 hk0 (by rw [hro];exact hk),hS1.jO⟩
   have hR2:Rel D1 φ1 e1 (nd h1 bs (bs.map φ1.cW)) n1 fn.ntmps (w.heap.size,[{target:= .fn (.func g') capsV.toArray,args:= #[]}]) ({a1 with defers:=[{target:= .fn (.func g') capsV.toArray,args:= #[]}]}.put none undef) w1:=
    ⟨hR1.lt,hR1.env,hHG,hR1.size,Mk.nil⟩
   have hw:=hseam c2 (by show bH P (dq _) _ c2=rest;rw [hct];exact q2) none (.inl rfl) [{target:= .fn (.func g') capsV.toArray,args:= #[]}] _ φ (ab h) w hD hn1 D1 φ1 _ w1 hR2 hS2
   refine wpIn_mono hw (fun ex a' w' hp=> ?_);obtain ⟨D',φ',e',h',n',hk,hn',hR',hS'⟩:=hp;rw [hcapsV] at hR';have leave: ∀m0:FrameMode,m0≠ .run->vP rs Ig.code (bs.map φ1.cW) (fun p v h' n'=>p=pn/\C n v h' n' v2 h2 n2) m0 e' h' n'→
    LeavesInM (Fw none) 0 P fn a'.tmps (fun e w'=> ∃D' φ' u,e=GQ pn u/\(∀b,D' b->b<n2)/\aI D' φ' v2 u/\dR D φ (ab h) w D' φ' (ab h2) w') a'.defers m0 w':=fun m0 hm0 hk=>by
    refine xI hm hcal hg hIg hgr hGN hrs hm0 hk hR' hS' (fun D3 φ3 v3 h3 n3 u w3 hQ hlt3 hv3 hH3 hS3=> ?_);obtain ⟨hpn,hW⟩:=hQ;subst hpn;obtain ⟨D4,φ4,k1,k2,k3⟩:=hC _ _ _ _ _ _ _ hW D3 φ3 w3 _ φ _ w u hD hlt3 hv3 hH3 hS3;exact ⟨_,_,_,rfl,k1,k2,hout _ _ _ _ k3⟩
   cases ex with
   |normal=>exact leave .returning (by simp) hk
   |ret=>exact leave .returning (by simp) hk
   |panic ch=>exact leave (.panicking ch) (by simp) hk
   |_=>exact hk.elim
 ·cases hI
def tu (cx:Cx) (ops:List aj) (K:cF):cF:=fun ex e h n=>match ex with
 | .normal=>jR cx ops e h n K
 |_=>False
theorem cL.nU {C:Nat->AV->Hp->Nat->AV->Hp->Nat->Prop} (hC:z7 C) {f g:FuncId} {fn gn:Func} {I Ig:dm} {cx:Cx} {args:List AV} {pn:Option Value} {n:Nat} {h:Hp} {v2:AV} {h2:Hp} {n2:Nat} {pre ops:List aj} {x:cC} {s:Bool} {rest:bG}
 (hcx:Sound P cx) (hm:P.follows .mixedOrders=true) (hf:P.funcs[f]? =some fn) (hI:aK P fn=some I) (hnp:args.length<=I.N) (hcode:I.code= .seq (.cQ pre) (.seq (.cQ (ops++[⟨none,.w9 x [],none,s⟩])) rest))
 (hcal:bJ P g=true) (hg:P.funcs[g]? =some gn) (hIg:aK P gn=some Ig) (hgr:Ig.res=[])
 (hi:jR cx pre (eS 0 args) h n (tu cx ops (C5 x g fun Gs e h' n'=>Gs.length<=Ig.N/\jw ⟨P,cx,I.ct,I.N,n⟩ rest (wU I.res Ig.code Gs fun p v h' n'=>p=pn/\C n v h' n' v2 h2 n2) e h' n'))):cL P f args h n pn v2 h2 n2:=
 cL.O4 hC hcx hm hf hI hnp hcode hcal hg hIg hgr (iK (fun ex e h n hk=>by
  cases ex with
  |normal=>exact iK (x8 fun Gs e h n hk=>⟨hk.1,fun c' hc'=>gL ⟨P,cx,I.ct,I.N,_⟩ hcx hm c' _ _ _ _ (by rw [hc'];exact aQ hk.2)⟩) (fq hk)
  |_=>exact hk) (fq hi))
end
end Go.Ab
namespace Go.Ab
def dS:List aW->Nat->Hp
 |[],_=>[]
 |k::r,i=>(i,k)::dS r (i+1)
def Hc (R:List Nat) (h:Hp):List Nat->List aW->Prop
 |[],[]=>True
 |b::r,k::ks=>(ab h b=some (k.aH (nth R))/\ae R.length k.cells=true)/\Hc R h r ks
 |_,_=>False
theorem r6: ∀(ks:List aW) (i b:Nat),ab (dS ks i) b=if i<=b then ks[b-i]? else none
 |[],i,b=>by simp [dS,ab]
 |k::r,i,b=>by
  simp only [dS,ab];by_cases hb:b=i
  ·subst hb;simp
  ·rw [bz hb,cond_false,r6 r (i+1) b];by_cases hi:i+1<=b
   ·rw [aM hi,aM (by omega),show b-i=(b-(i+1))+1 by omega,wv]
   ·rw [aN hi,aN (by omega)]
theorem u9 {R:List Nat} {h:Hp}: ∀{r:List Nat} {ks:List aW},Hc R h r ks->r.length=ks.length
 |[],[],_=>rfl
 |b::r,k::ks,h=>by simp [u9 h.2]
 |[],_::_,h=>h.elim
 |_::_,[],h=>h.elim
theorem y6 {R:List Nat} {h:Hp}: ∀{r:List Nat} {ks:List aW} {i:Nat} {k:aW},Hc R h r ks->ks[i]? =some k->ab h (nth r i)=some (k.aH (nth R))/\ae R.length k.cells=true
 |b::r,k0::ks,0,k,h,hi=>by simp at hi;subst hi;exact h.1
 |b::r,k0::ks,i+1,k,h,hi=>by simp at hi;exact y6 (r:=r) h.2 hi
 |[],[],i,k,_,hi=>by simp at hi
 |[],_::_,_,_,h,_=>h.elim
 |_::_,[],_,_,h,_=>h.elim
def lK (χ:Nat->Nat) (hR:Hp):List Nat->Nat->List (Nat×Option aW)
 |[],_=>[]
 |b::r,i=>(b,(ab hR i).map (aW.aH χ))::lK χ hR r (i+1)
theorem oD {χ:Nat->Nat} {hR:Hp}: ∀{r:List Nat} {i c:Nat},dH (lK χ hR r i) c=if inl r c=true then some ((ab hR (i+idx r c)).map (aW.aH χ)) else none
 |[],i,c=>by simp [lK,dH,inl]
 |b::r,i,c=>by
  by_cases hb:b=c
  ·subst hb;simp [lK,dH,inl,idx]
  ·have h1:Nat.beq b c=false:=by cases h:Nat.beq b c;rfl;exact absurd (dC h) hb
   simp only [lK,dH,inl,idx,h1,cond_false,fg];rw [oD (r:=r) (i:=i+1) (c:=c),show i+1+idx r c=i+(idx r c+1) by omega]
theorem ax.canon {P:Program} {f:FuncId} {argsL:List AV} {h hR:Hp} {n kR:Nat} {pn:Option Value} {v:AV} (R:List Nat) (ks:List aW) (hcall:Go.Ab.bJ P f=true) (hnd:nodup R=true)
 (hin:ae R.length argsL=true) (hat:Hc R h R ks) (hft:cL P f argsL (dS ks 0) R.length pn v hR kR) (hk:R.length<=kR) (hok:ko (dS ks 0) R.length kR hR=true):
 ax P f (aL (nth R) argsL) h n {v:=v.aH (ix R n),n:=n+(kR-R.length),rd:=R,md:=lK (ix R n) hR R 0,nw:=fE (ix R n) R.length hR,pn}:=by
 have hlen:=u9 hat;have hget0: ∀b kk,ab (dS ks 0) b=some kk->b<R.length/\ab h (nth R b)=some (kk.aH (nth R))/\ae R.length kk.cells=true:=fun b kk hb=>by
  rw [r6,aM (eB _),C1] at hb;have:=(eK.1 hb).1;exact ⟨by omega,y6 hat hb⟩
 have hchi:ix R n=fun b=>if b<R.length then nth R b else n+(b-R.length):=rfl
 have hχ: ∀b,R.length<=b->ix R n b=n+(b-R.length):=fun b hb=>by simp only [ix];rw [aN (by omega)]
 refine ax.uV (ψ:=nth R) hcall hft rfl hk hin (fun b hb=> ?_) (fun b kk hb=>⟨(hget0 b kk hb).1,(hget0 b kk hb).2.2⟩) rfl (fun b kk hb=> ?_) (fun b1 b2 k1 k2 hb1 hb2 _ he=> ?_) rfl rfl (fun b r hb=>by
  rw [oD] at hb;split at hb
  ·assumption
  ·cases hb)
  (fun b kk hb=> ?_) (fun c kk hc=> ?_)
 ·rw [r6,aM (eB _),C1];exact ⟨_,aY (by omega)⟩
 ·obtain ⟨q1,q2,_⟩:=hget0 b kk hb;simp only [only,zd q1,cond_true];exact q2
 ·have h1:=yS (R:=R) (i:=b1) hnd (hget0 b1 k1 hb1).1;have h2:=yS (R:=R) (i:=b2) hnd (hget0 b2 k2 hb2).1;rw [<-h1,<-h2,he]
 ·obtain ⟨b',kb,h1,h2,rfl,_⟩:=pt hχ hb;have:=(se hok b' kb h1).1;rw [hχ b' h2];exact ⟨by omega,by show _<n+(kR-R.length);omega⟩
 ·simp only [bX.app] at hc;split at hc
  ·rename_i r hr;rw [oD] at hr;split at hr
   ·rename_i h1;cases hr;rw [gv] at hc;obtain ⟨kb,hkb,rfl⟩:=bc.1 hc;obtain ⟨h2,h3⟩:=Ar h1;obtain ⟨h4,_,h6⟩:=se hok _ kb hkb;exact ⟨idx R c,kb,hkb,h4,by rw [aM h2,h3],rfl,h6⟩
   ·cases hr
  ·rename_i hmn;split at hc
   ·rename_i k1 hnw;cases hc;obtain ⟨b',kb,h1,h2,rfl,rfl⟩:=pt hχ hnw;obtain ⟨h4,_,h6⟩:=se hok _ kb h1;exact ⟨b',kb,h1,h4,rfl,rfl,h6⟩
   ·rw [oD] at hmn;split at hmn
    ·cases hmn
    ·rename_i hi;simp only [only,Bool.eq_false_iff.2 hi,cond_false] at hc;cases hc
theorem IP {pn:Option Value} {v:AV} {n:Nat} {rd:List Nat} {x y:Nat×Option aW} {r:List (Nat×Option aW)} {h:Hp}:(bX.mk v n rd (x::y::r) [] pn).fe h=jb h (x::y::r):=(rfl)
theorem Hx {pn:Option Value} {v:AV} {n:Nat} {rd:List Nat} {x y:Nat×Option aW} {r:List (Nat×Option aW)} {a:Nat×aW} {h:Hp}:(bX.mk v n rd (x::y::r) [a] pn).fe h=jb (a::h) (x::y::r):=(rfl)
theorem JU {pn:Option Value} {v:AV} {n:Nat} {rd:List Nat} {b:Nat} {k:aW} {a:Nat×aW} {h:Hp}:(bX.mk v n rd [(b,some k)] [a] pn).fe h=ig (a::h) b k:=(rfl)
attribute [go_sem] IP Hx JU
def gM {α:Type} (f:α->List AV) (z:Nat) (l:List α) (cs:List AV) (m:Nat):Sh:= .sg {cells:=rows f l++cs,gr:=some z} 0 (l.length+m)
section
variable {α:Type} {f:α->List AV} {z bytes n b m:Nat} {l:List α} {h:Hp} {r0:List Nat} {cs:List AV} {ok:Bool}
theorem YL {a:List α} (ha:0<a.length):gQ f z (l++a)=gM f z l (rows f a) a.length:=by
 unfold gQ gM;rw [aN (by rw [dN];omega),df,dN]
theorem tx (hl:0<l.length):gQ f z l= .sg {cells:=rows f l,gr:=some z} 0 l.length:=by
 unfold gQ;rw [aN (by omega)]
theorem Ou (hh:tk h (gQ f z l) b) (ho:aX cs=true) (hf:(rows f l).length=l.length*z) (hm:decide (m=0)=false):tD z bytes n h r0 m cs ok ((gQ f z l).v b)=
 some (ok&&decide (bytes*(l.length+m)<=aE),{v:=(gM f z l cs m).v n,n:=n+1,rd:=(gQ f z l).bl b++r0,md:=nz ((gQ f z l).bl b),nw:=(gM f z l cs m).h n}):=by
 revert hh;unfold gQ;split
 ·rename_i hl;have:l=[]:=jG hl;subst this;intro _;show tD z bytes n h r0 m cs ok .ns=_;rw [JH,hm,sX];simp [gM,Sh.v,Sh.h,Sh.bl,nz,rows]
 ·intro hh;have:=IS (hh b {cells:=rows f l,gr:=some z} (by simp [Sh.h,ab])) rfl
  show tD z bytes n h r0 m cs ok (.sg b 0 l.length)=_;rw [DD,this,hm,sX,qG];simp only [HL,ho,hf,ie,pX,cj];rfl
end
end Go.Ab
namespace Go.Ab
def WkE (e:Env):Env->Prop
 |[]=>True
 |(t,v2)::r=>(∃v,cV e t=some v/\nL v v2)/\WkE e r
theorem WkE.get {e:Env}: ∀{e2:Env},WkE e e2-> ∀t v2,cV e2 t=some v2-> ∃v,cV e t=some v/\nL v v2
 |[],_,t,v2,h=>by simp [cV] at h
 |(s,u)::r,hf,t,v2,h=>by
  simp only [cV] at h;by_cases hs:t=s
  ·subst hs;simp at h;subst h;exact hf.1
  ·rw [bz hs] at h;exact WkE.get hf.2 t v2 h
def WkH (h:Hp):Hp->Prop
 |[]=>True
 |(c,k2)::r=>(∃k,ab h c=some k/\k2.ro=k.ro/\k2.gr=k.gr/\(k2.gid,k2.mp)=(k.gid,k.mp)/\mz k.cells k2.cells)/\WkH h r
theorem WkH.get {h:Hp}: ∀{h2:Hp},WkH h h2-> ∀c k2,ab h2 c=some k2-> ∃k,ab h c=some k/\k2.ro=k.ro/\k2.gr=k.gr/\(k2.gid,k2.mp)=(k.gid,k.mp)/\mz k.cells k2.cells
 |[],_,c,k2,h=>by simp [ab] at h
 |(s,u)::r,hf,c,k2,h=>by
  simp only [ab] at h;by_cases hs:c=s
  ·subst hs;simp at h;subst h;exact hf.1
  ·rw [bz hs] at h;exact WkH.get hf.2 c k2 h
theorem ck.cut {F:Fx} {c:bG} {K:cF} {e:Env} {h:Hp} {n:Nat} (hs: ∀K1,K1=K->ck F c K1 e h n):ck F c K e h n:=hs K rfl
theorem nL.en:nL .en (.fz [] 0):=fun _ _ _ h=>by cases h;exact .mI _ _ _ (fun e=>by cases e)
noncomputable def kP (a0:List AV) (v0:AV):List AV->Hp->Nat->Option (Bool×bX):=fun a h n=>open Classical in if a=a0 then some (true,{v:=v0,n}) else none
theorem gl {a0:List AV} {v0:AV} (h:Hp) (n:Nat):kP a0 v0 a0 h n=some (true,{v:=v0,n}):=aM rfl
theorem dv {P:Program} {f:FuncId} {a0:List AV} {v0:AV} (hc:Go.Ab.bJ P f=true) (ha:ae 0 a0=true) (hv:v0.al 0=true) (hf:bt P f a0 [] 0 v0 [] 0):aq P f (kP a0 v0):=fun args h n c E he ht=>by
 unfold kP at he;split at he
 ·rename_i hh;subst hh;cases he;exact ax.pure hc ha hv hf _ _
 ·cases he
theorem gE.app {x y:AV}: ∀{a a' b b':List AV},gE x y a a'->gE x y b b'->gE x y (a++b) (a'++b')
 |[],[],_,_,_,h=>h
 |_::_,_::_,_,_,h1,h2=>⟨h1.1,gE.app h1.2 h2⟩
theorem bw.wkH {n0 n n2:Nat} {v v' v2:AV} {h h' h2:Hp} (hv:nL v v') (hh:WkH h h') (hc:bw n0 v' h' n v2 h2 n2):bw n0 v h n v2 h2 n2:=by
 intro D φ w D0 φ0 H0 w0 u hD0 hD hv0 hH hS;have hH1:HR D φ (ab h') w:=by
  refine ⟨⟨fun c kk2 hc=> ?_,fun b1 b2 k1 k2 hne h1 h2' hr=> ?_⟩,hH.fz,hH.lp,fun c kk B vs' hc hr hB=> ?_⟩
  ·obtain ⟨kk,h3,e1,e2',e3,hv⟩:=hh.get c kk2 hc;obtain ⟨d1,⟨⟨vs',elem',fr',r1,r2,r3,r4⟩,r5⟩⟩:=hH.at_ c kk h3;obtain ⟨e3,e4⟩:=s9 e3;refine ⟨d1,⟨⟨vs',elem',fr',by rw [e4];exact r1,fun i v2 hi=> ?_,by rw [e1,e2'];exact r3,by rw [e1,e2'];exact r4⟩,by rw [e3];exact r5⟩⟩
   obtain ⟨v,hv1,hv2⟩:=hv.get hi;obtain ⟨u,hu,hur⟩:=r2 i v hv1;exact ⟨u,hu,hv2 D φ u hur⟩
  ·obtain ⟨kk1,a1,a2,_⟩:=hh.get _ _ h1;obtain ⟨kk2,b1',b2',_⟩:=hh.get _ _ h2';exact hH.sep b1 b2 kk1 kk2 hne a1 b1' (by rw [<-a2];exact hr)
  ·obtain ⟨kk1,a1,a2,_⟩:=hh.get _ _ hc;exact hH.kD c kk1 B vs' a1 (by rw [<-a2];exact hr) hB
 refine hc D φ w D0 φ0 H0 w0 u hD0 hD (hv D φ u hv0) hH1 ⟨hS.sub,hS.agree,hH1,hS.eC,fun c kk hc hr=> ?_,hS.jO⟩;obtain ⟨kk1,a1,a2,_⟩:=hh.get _ _ hc;exact hS.oY c kk1 a1 (by rw [<-a2];exact hr)
theorem yj {a b:AV} (h:dj .ns (.fz [] 0) a b):nL a b:=fun D φ u hu=>h D φ u (fun u1 h1=>nL.ns D φ u1 h1) hu
theorem wM: ∀{l m:List AV},gE .ns (.fz [] 0) l m->mz l m
 |[],[],_=>trivial
 |_::_,_::_,h=>⟨yj h.1,wM h.2⟩
 |[],_::_,h=>h.elim
 |_::_,[],h=>h.elim
theorem x6 {b:Nat} {h:Hp}: ∀{h':Hp},FM .ns (.fz [] 0) b h h'->WkH h h'
 |[],_=>trivial
 |(c,k2)::r,⟨⟨_,k,h1,h2,h3,h4,h5⟩,h6⟩=>⟨⟨k,h1,h2,h3,h4,wM h5⟩,x6 h6⟩
theorem bw.Zt {α:Type} {f:α->List AV} {z:Nat} {l:List α} {b n0 n n2:Nat} {v v' v2:AV} {h h' h2:Hp} (hh0:tk h (gQ f z l) b)
 (hf:dj ((gQ f z l).v b) (.fz (rows f l) l.length) v v') (hh:FM ((gQ f z l).v b) (.fz (rows f l) l.length) b h h') (hc:bw n0 v' h' n v2 h2 n2):bw n0 v h n v2 h2 n2:=by
 by_cases h0:l.length=0
 ·have:l=[]:=jG h0;subst this;exact bw.wkH (yj hf) (x6 hh) hc
 ·have e:gQ f z l= .sg {cells:=rows f l,gr:=some z} 0 l.length:=tx (by omega)
  rw [e] at hh0 hf hh;exact bw.rM (b:=b) (x:= .sg b 0 l.length) (k:={cells:=rows f l,gr:=some z}) (o:=0) (m:=l.length) (cs:=rows f l) (hh0 b _ (by simp [Sh.h,ab])) rfl (.inr rfl) (.inl rfl) hf hh hc
theorem cL.cov {P:Program} {f:FuncId} {args:List AV} {h h' h2:Hp} {n n' n2:Nat} {pn:Option Value} {v v2:AV} (hF:cL P f args h n pn v h' n') (hc:bw n v h' n' v2 h2 n2):cL P f args h n pn v2 h2 n2:=fun D φ w us hD hH hA=>
 (hF D φ w us hD hH hA).mono fun e w' ⟨D',φ',u,he,hD',hr,hS⟩=>by
  obtain ⟨D2,φ2,g1,g2,g3⟩:=hc D' φ' w' D φ (ab h) w u hD hD' hr hS.hr hS;exact ⟨D2,φ2,u,he,g1,g2,g3⟩
noncomputable def kH (R:List Nat) (ks:List aW) (argsL:List AV) (v:AV) (hR:Hp) (kR:Nat) (pn:Option Value):Ct:=fun a h n=>
 open Classical in if a=aL (nth R) argsL/\Hc R h R ks then some (true,{v:=v.aH (ix R n),n:=n+(kR-R.length),rd:=R,md:=lK (ix R n) hR R 0,nw:=fE (ix R n) R.length hR,pn}) else none
theorem agL {R:List Nat} {ks:List aW} {argsL:List AV} {v:AV} {hR:Hp} {kR:Nat} {pn:Option Value} {h:Hp} {n:Nat} (hat:Hc R h R ks):
 kH R ks argsL v hR kR pn (aL (nth R) argsL) h n=some (true,{v:=v.aH (ix R n),n:=n+(kR-R.length),rd:=R,md:=lK (ix R n) hR R 0,nw:=fE (ix R n) R.length hR,pn}):=aM ⟨rfl,hat⟩
theorem dt {R:List Nat} {ks:List aW} {argsL a:List AV} {v:AV} {hR:Hp} {kR:Nat} {pn:Option Value} {h:Hp} {n:Nat} {E:bX} (ha:aL (nth R) argsL=a) (hat:Hc R h R ks)
 (hE:({v:=v.aH (ix R n),n:=n+(kR-R.length),rd:=R,md:=lK (ix R n) hR R 0,nw:=fE (ix R n) R.length hR,pn}:bX)=E):kH R ks argsL v hR kR pn a h n=some (true,E):=by
 subst ha hE;exact agL hat
theorem bY {P:Program} {f:FuncId} {R:List Nat} {ks:List aW} {argsL:List AV} {v:AV} {hR:Hp} {kR:Nat} {pn:Option Value} (hcall:Go.Ab.bJ P f=true) (hnd:nodup R=true)
 (hin:ae R.length argsL=true) (hft:cL P f argsL (dS ks 0) R.length pn v hR kR) (hk:R.length<=kR) (hok:ko (dS ks 0) R.length kR hR=true):aq P f (kH R ks argsL v hR kR pn):=fun args h n c E he ht=>by
 unfold kH at he;split at he
 ·rename_i hh;obtain ⟨rfl,hat⟩:=hh;cases he;exact ax.canon R ks hcall hnd hin hat hft hk hok
 ·cases he
def gP (n:Nat):List AV:=List.replicate n .any
theorem oE {n:Nat}:(gP n).length=n:=by simp [gP]
theorem oL {j:Nat}: ∀{n:Nat},ae j (gP n)=true
 |0=>rfl
 |n+1=>by
  have:= @oL j n;simp only [gP,NI,ae,AV.al,eJ] at this ⊢;exact this
theorem JI {n i:Nat} {a:AV} (h:(gP n)[i]? =some a):a= .any:=by
 simp only [gP,List.getElem?_replicate] at h;split at h<;>cases h;rfl
def gvK (h:Hp) (z:Nat):AV->Option (Nat×Nat×List AV×Bool)
 | .sg b o m=>(iO h b).bind fun k=>some (b,m,aA k.cells o (m*z),!k.ro&&(match k.gr with|some z'=>Nat.beq z z'|none=>false)&&decide ((aA k.cells o (m*z)).length=m*z))
 | .sl b o m c=>(iO h b).bind fun k=>some (b,m,aA k.cells o (m*z),!k.ro&&(match k.gr with|some _=>false|none=>true)&&decide ((aA k.cells o (m*z)).length=m*z)&&decide (m<=c)&&decide (o+c*z<=k.cells.length))
 |_=>none
theorem Iv {h:Hp} {z b o m:Nat}:gvK h z (.sg b o m)=((ab h b).bind aW.DH).bind fun k=>some (b,m,aA k.cells o (m*z),!k.ro&&(match k.gr with|some z'=>Nat.beq z z'|none=>false)&&decide ((aA k.cells o (m*z)).length=m*z)):=(rfl)
theorem qJ {P:Program} (w:World) (tS e:TypeId) (tR:Array TypeId) (ts:Array TypeId) (h0:ts[0]? =some tS) (ht:P.underlying tS=some (.slice e)) (size:Nat) (hz:e9 P e=some size)
 (a b:Option Addr) (la ca lb cb:Nat) (hab:la≠0->lb≠0-> ∃a' b',a=some a'/\b=some b'/\a'.block≠b'.block/\(∃vs el fr,w.heap[a'.block]? =some (.cells vs el fr)/\vs.size≠0)/\ ∃vs el fr,w.heap[b'.block]? =some (.cells vs el fr)/\ ¬(fr.1<=b'.off/\b'.off<fr.2)/\ ¬(fr.1<=vs.size/\vs.size<fr.2)):
 (Extern.SlicesOverlaps.overlaps ts tR #[.slice a la ca,.slice b lb cb]).run P w= .ok (.bool false) w:=by
 change Sem.run P (α:=Value) (do
  let some t:=ts[0]? |stuck "slices.overlaps: no parameter types"
  let .slice elem ←underlying t|stuck "slices.overlaps: slice type expected"
  let size <-sizeOf elem
  match (a:Option Addr),(b:Option Addr) with
  |some a,some b=>
   if la=0\/lb=0\/size=0 then pure (Value.bool false)
   else if a.block !=b.block&&(<-frozen a)&&(<-frozen b) then unsupported .addressObserved
   else do
    if a.block !=b.block then do
     noView a;noView b
     if ←mayBeOne a b then return Value.bool ((←choose (.extern "sameAddr.stringBytes" 2))==1)
    pure (Value.bool (a.block==b.block&&a.off<b.off+lb*size&&b.off<a.off+la*size))
  |_,_=>pure (Value.bool false)) w=_
 by_cases h1:la=0\/lb=0
 ·cases a<;>cases b<;>simp [h0,run_underlying ht,run_sizeOf hz,h1];rcases h1 with h1|h1<;>simp [h1]
 ·obtain ⟨a',b',rfl,rfl,hne,⟨va,ea,fa,q1,q2⟩,vb,eb,⟨f1,f2⟩,r1,r2,r3⟩:=hab (fun h=>h1 (.inl h)) (fun h=>h1 (.inr h));have hnb:(a'.block !=b'.block)=true:=by simpa using hne
  have hnb':(a'.block==b'.block)=false:=by simpa using hne
  have hsa:w.shape? a'.block=some (ea,va.size):=by simp [World.shape?,q1]
  have hsb:w.shape? b'.block=some (eb,vb.size):=by simp [World.shape?,r1]
  have hfb:w.frozen? b'=false:=by simp only [World.frozen?,r1];simpa using r2
  have hfe:w.frozen? {block:=b'.block,off:=vb.size}=false:=by simp only [World.frozen?,r1];simpa using r3
  obtain ⟨ka,hka⟩: ∃ka,va.size=ka+1:=⟨va.size-1,by omega⟩
  rw [hka] at hsa;cases hA:w.frozen? a'<;>cases hB:w.frozen? {block:=a'.block,off:=ka+1}<;>
   simp [h0,run_underlying ht,run_sizeOf hz,h1,hnb,hnb',frozen,noView,viewAt,mayBeOne,stringish,shape,Sem.run,hsa,hsb,hfb,hfe,hA,hB]<;>(try split)<;>simp
def ahs (P:Program) (fn:Func):Bool:=match fn.params[0]? with
 |some t=>match P.underlying t with
  |some (.slice e)=>(e9 P e).isSome
  |_=>false
 |none=>false
end Go.Ab
namespace Go.Ab
abbrev aoC (z bytes:Nat) (zs:List AV) (fo fr:FuncId):List aj:=[⟨some 6,.mv (.c (.ns)),none,false⟩]
abbrev ajc (z bytes:Nat) (zs:List AV) (fo fr:FuncId):List aj:=[⟨some 10,.mv (.t 0),none,false⟩,⟨some 11,.mv (.t 1),none,false⟩,⟨some 12,.qT z (.t 10) (some (.t 11)) none none,none,false⟩]
abbrev aly (z bytes:Nat) (zs:List AV) (fo fr:FuncId):List aj:=[⟨some 13,.mv (.t 2),none,false⟩,⟨some 14,.oF (.t 13),none,false⟩,⟨some 7,.mv (.t 14),none,false⟩]
abbrev amK (z bytes:Nat) (zs:List AV) (fo fr:FuncId):List aj:=[⟨some 15,.mv (.t 7),none,false⟩,⟨some 16,.bin .eql (.t 15) (.c (.i .i64 0)),none,true⟩]
abbrev an6 (z bytes:Nat) (zs:List AV) (fo fr:FuncId):List aj:=[⟨some 17,.mv (.t 0),none,false⟩,⟨some 6,.mv (.t 17),none,false⟩]
abbrev ank (z bytes:Nat) (zs:List AV) (fo fr:FuncId):List aj:=[⟨some 18,.mv (.t 0),none,false⟩,⟨some 19,.oF (.t 18),none,false⟩,⟨some 8,.mv (.t 19),none,false⟩]
abbrev agE (z bytes:Nat) (zs:List AV) (fo fr:FuncId):List aj:=[⟨some 20,.mv (.t 1),none,false⟩,⟨some 21,.mv (.t 8),none,false⟩,⟨some 22,.bin .eql (.t 20) (.t 21),none,true⟩]
abbrev aip (z bytes:Nat) (zs:List AV) (fo fr:FuncId):List aj:=[⟨some 23,.mv (.t 0),none,false⟩,⟨some 24,.mv (.t 2),none,false⟩,⟨some 25,.app z bytes zs (.t 23) (.t 24),none,false⟩,⟨some 6,.mv (.t 25),none,false⟩]
abbrev anJ (z bytes:Nat) (zs:List AV) (fo fr:FuncId):List aj:=[⟨some 26,.mv (.t 8),none,false⟩,⟨some 27,.mv (.t 7),none,false⟩,⟨some 28,.bin .add (.t 26) (.t 27),none,false⟩,⟨some 29,.mv (.t 0),none,false⟩,⟨some 30,.Jy (.t 29),none,false⟩,⟨some 31,.bin .gtr (.t 28) (.t 30),none,true⟩]
abbrev aoM (z bytes:Nat) (zs:List AV) (fo fr:FuncId):List aj:=[⟨some 32,.mv (.t 0),none,false⟩,⟨some 33,.mv (.t 1),none,false⟩,⟨some 34,.qT z (.t 32) none (some (.t 33)) none,none,false⟩,⟨some 35,.mv (.t 8),none,false⟩,⟨some 36,.mv (.t 7),none,false⟩,⟨some 37,.bin .add (.t 35) (.t 36),none,false⟩,⟨some 38,.mv (.t 1),none,false⟩,⟨some 39,.bin .sub (.t 37) (.t 38),none,false⟩,⟨some 40,.apz z bytes zs (.t 34) (.t 39),none,false⟩,⟨some 9,.mv (.t 40),none,false⟩]
abbrev Wz (z bytes:Nat) (zs:List AV) (fo fr:FuncId):List aj:=[⟨some 41,.mv (.t 9),none,false⟩,⟨some 42,.mv (.t 1),none,false⟩,⟨some 43,.qT z (.t 41) (some (.t 42)) none none,none,false⟩,⟨some 44,.mv (.t 2),none,false⟩,⟨some 45,.FW z (.t 43) (.t 44),none,false⟩]
abbrev WN (z bytes:Nat) (zs:List AV) (fo fr:FuncId):List (aj×List Nat):=[(⟨some 46,.mv (.t 9),none,false⟩,[]),(⟨some 47,.mv (.t 1),none,false⟩,[0]),(⟨some 48,.mv (.t 7),none,false⟩,[0,1]),(⟨some 49,.bin .add (.t 47) (.t 48),none,false⟩,[0]),(⟨some 50,.qT z (.t 46) (some (.t 49)) none none,none,false⟩,[]),(⟨some 51,.mv (.t 0),none,false⟩,[0,1,2,3,4]),(⟨some 52,.mv (.t 1),none,false⟩,[0,1,2,3,4,5]),(⟨some 53,.qT z (.t 51) (some (.t 52)) none none,none,false⟩,[0,1,2,3,4]),(⟨some 54,.FW z (.t 50) (.t 53),none,false⟩,[])]
abbrev Tz (z bytes:Nat) (zs:List AV) (fo fr:FuncId):List aj:=[⟨some 55,.mv (.t 9),none,false⟩,⟨some 6,.mv (.t 55),none,false⟩]
abbrev Rv (z bytes:Nat) (zs:List AV) (fo fr:FuncId):List aj:=[⟨some 56,.mv (.t 0),none,false⟩,⟨some 57,.mv (.t 8),none,false⟩,⟨some 58,.mv (.t 7),none,false⟩,⟨some 59,.bin .add (.t 57) (.t 58),none,false⟩,⟨some 60,.qT z (.t 56) none (some (.t 59)) none,none,false⟩,⟨some 0,.mv (.t 60),none,false⟩]
abbrev YJ (z bytes:Nat) (zs:List AV) (fo fr:FuncId):List aj:=[⟨some 61,.mv (.t 2),none,false⟩,⟨some 62,.mv (.t 0),none,false⟩,⟨some 63,.mv (.t 1),none,false⟩,⟨some 64,.mv (.t 7),none,false⟩,⟨some 65,.bin .add (.t 63) (.t 64),none,false⟩,⟨some 66,.qT z (.t 62) (some (.t 65)) none none,none,false⟩,⟨some 67,.call (.c (.fn fo [])) [.t 61,.t 66],none,false⟩,⟨some 68,.not (.t 67),none,true⟩]
abbrev WT (z bytes:Nat) (zs:List AV) (fo fr:FuncId):List (aj×List Nat):=[(⟨some 69,.mv (.t 0),none,false⟩,[]),(⟨some 70,.mv (.t 1),none,false⟩,[0]),(⟨some 71,.mv (.t 7),none,false⟩,[0,1]),(⟨some 72,.bin .add (.t 70) (.t 71),none,false⟩,[0]),(⟨some 73,.qT z (.t 69) (some (.t 72)) none none,none,false⟩,[]),(⟨some 74,.mv (.t 0),none,false⟩,[0,1,2,3,4]),(⟨some 75,.mv (.t 1),none,false⟩,[0,1,2,3,4,5]),(⟨some 76,.qT z (.t 74) (some (.t 75)) none none,none,false⟩,[0,1,2,3,4]),(⟨some 77,.FW z (.t 73) (.t 76),none,false⟩,[])]
abbrev WC (z bytes:Nat) (zs:List AV) (fo fr:FuncId):List aj:=[⟨some 78,.mv (.t 0),none,false⟩,⟨some 79,.mv (.t 1),none,false⟩,⟨some 80,.qT z (.t 78) (some (.t 79)) none none,none,false⟩,⟨some 81,.mv (.t 2),none,false⟩,⟨some 82,.FW z (.t 80) (.t 81),none,false⟩]
abbrev ZG (z bytes:Nat) (zs:List AV) (fo fr:FuncId):List aj:=[⟨some 83,.mv (.t 0),none,false⟩,⟨some 6,.mv (.t 83),none,false⟩]
abbrev ac0 (z bytes:Nat) (zs:List AV) (fo fr:FuncId):List aj:=[⟨some 84,.mv (.t 0),none,false⟩,⟨some 85,.mv (.t 8),none,false⟩,⟨some 86,.qT z (.t 84) (some (.t 85)) none none,none,false⟩,⟨some 87,.mv (.t 2),none,false⟩,⟨some 88,.FW z (.t 86) (.t 87),none,false⟩]
abbrev Ue (z bytes:Nat) (zs:List AV) (fo fr:FuncId):List aj:=[⟨some 89,.mv (.t 0),none,false⟩,⟨some 90,.mv (.t 1),none,false⟩,⟨some 91,.qT z (.t 89) (some (.t 90)) none none,none,false⟩,⟨some 92,.mv (.t 7),none,false⟩,⟨some 93,.call (.c (.fn fr [])) [.t 91,.t 92],none,false⟩]
abbrev Wj (z bytes:Nat) (zs:List AV) (fo fr:FuncId):List aj:=[⟨some 94,.mv (.t 0),none,false⟩,⟨some 6,.mv (.t 94),none,false⟩]
abbrev auM (z bytes:Nat) (zs:List AV) (fo fr:FuncId):bG:=(.seq (.cQ (aoC z bytes zs fo fr)) (.seq (.cQ (ajc z bytes zs fo fr)) (.seq (.cQ (aly z bytes zs fo fr)) (.seq (.seq (.cQ (amK z bytes zs fo fr)) (.cond (.t 16) (.seq (.cQ (an6 z bytes zs fo fr)) .ret) .skip)) (.seq (.cQ (ank z bytes zs fo fr)) (.seq (.seq (.cQ (agE z bytes zs fo fr)) (.cond (.t 22) (.seq (.cQ (aip z bytes zs fo fr)) .ret) .skip)) (.seq (.seq (.cQ (anJ z bytes zs fo fr)) (.cond (.t 31) (.seq (.cQ (aoM z bytes zs fo fr)) (.seq (.cQ (Wz z bytes zs fo fr)) (.seq (.cG (WN z bytes zs fo fr)) (.seq (.cQ (Tz z bytes zs fo fr)) .ret)))) .skip)) (.seq (.cQ (Rv z bytes zs fo fr)) (.seq (.seq (.cQ (YJ z bytes zs fo fr)) (.cond (.t 68) (.seq (.cG (WT z bytes zs fo fr)) (.seq (.cQ (WC z bytes zs fo fr)) (.seq (.cQ (ZG z bytes zs fo fr)) .ret))) .skip)) (.seq (.cQ (ac0 z bytes zs fo fr)) (.seq (.cQ (Ue z bytes zs fo fr)) (.seq (.cQ (Wj z bytes zs fo fr)) .ret))))))))))))
def sG (z bytes:Nat) (zs:List AV) (fo fr:FuncId):dm:={np:=3,N:=95,ct:=[16,22,31,68],code:=auM z bytes zs fo fr,res:=[.t 6]}
theorem Fh {Q R:List AV} {p:Nat} (h:Q.length=p):List.drop p (Q++R)=R:=by subst h;simp
theorem Cv {Q R:List AV} {p:Nat} (h:Q.length=p):List.take p (Q++R)=Q:=by subst h;simp
theorem Il (L:List AV) {a b:Nat} (h:L.length=a+b): ∃x y:List AV,L=x++y/\x.length=a/\y.length=b:=⟨L.take a,L.drop a,(kQ a L).symm,by rw [gO];omega,by rw [qi];omega⟩
section
variable {P:Program} {α:Type} {row:α->List AV} {z bytes:Nat} {zs:List AV} {f fo fr:FuncId} {fn:Func}
def pK (l xs:List α) (i:Nat):List α:=l.take i++(xs++l.drop i)
end
end Go.Ab
namespace Go.Ab
abbrev aui (z bytes:Nat) (zs:List AV):bG:=
 (.seq (.cQ [oo 6 (.mv (.c (.ns)))])
 (.seq (.cQ [oo 8 (.mv (.t 0)),oo 9 (.mv (.t 1)),oo 10 (.mv (.t 2)),oo 11 (.mv (.t 0)),oo 12 (.oF (.t 11)),oo 13 (.qT z (.t 8) (some (.t 9)) (some (.t 10)) (some (.t 12)))])
 (.seq (.seq (.cQ [oo 14 (.mv (.t 1)),oo 15 (.mv (.t 2)),ot 16 (.bin .eql (.t 14) (.t 15))]) (.cond (.t 16) (.seq (.cQ [oo 17 (.mv (.t 0)),oo 6 (.mv (.t 17))]) .ret) .skip))
 (.seq (.cQ [oo 18 (.mv (.t 0)),oo 19 (.oF (.t 18)),oo 7 (.mv (.t 19))])
 (.seq (.cG [(oo 20 (.mv (.t 0)),[]),(oo 21 (.mv (.t 1)),[0]),(oo 22 (.qT z (.t 20) none (some (.t 21)) none),[]),(oo 23 (.mv (.t 0)),[0,1,2]),(oo 24 (.mv (.t 2)),[0,1,2,3]),(oo 25 (.qT z (.t 23) (some (.t 24)) none none),[0,1,2]),(oo 26 (.app z bytes zs (.t 22) (.t 25)),[]),(oo 0 (.mv (.t 26)),[])])
 (.seq (.cQ [oo 27 (.mv (.t 0)),oo 28 (.mv (.t 0)),oo 29 (.oF (.t 28)),oo 30 (.mv (.t 7)),oo 31 (.qT z (.t 27) (some (.t 29)) (some (.t 30)) none),xp (.Rt z zs (.t 31))])
 (.seq (.cQ [oo 32 (.mv (.t 0)),oo 6 (.mv (.t 32))]) .ret)))))))
def TP (z bytes:Nat) (zs:List AV):dm:={np:=3,N:=33,ct:=[16],code:=aui z bytes zs,res:=[.t 6]}
section
variable {P:Program} {α:Type} {row:α->List AV} {z bytes:Nat} {zs:List AV} {f:FuncId} {fn:Func}
end
end Go.Ab
namespace Go.Ab
abbrev T1:bG:=(.seq (.cQ [oo 4 (.mv (.c (.i .u64 0))),oo 5 (.mv (.c (.i .u64 0)))]) (.seq (.cQ [oo 14 (.mv (.t 0)),oo 15 (.bin .and (.t 14) (.c (.i .u64 4294967295))),oo 6 (.mv (.t 15))]) (.seq (.cQ [oo 16 (.mv (.t 0)),oo 17 (.bin .shr (.t 16) (.c (.i .u64 32))),oo 7 (.mv (.t 17))]) (.seq (.cQ [oo 18 (.mv (.t 1)),oo 19 (.bin .and (.t 18) (.c (.i .u64 4294967295))),oo 8 (.mv (.t 19))]) (.seq (.cQ [oo 20 (.mv (.t 1)),oo 21 (.bin .shr (.t 20) (.c (.i .u64 32))),oo 9 (.mv (.t 21))]) (.seq (.cQ [oo 22 (.mv (.t 6)),oo 23 (.mv (.t 8)),oo 24 (.bin .mul (.t 22) (.t 23)),oo 10 (.mv (.t 24))]) (.seq (.cQ [oo 25 (.mv (.t 7)),oo 26 (.mv (.t 8)),oo 27 (.bin .mul (.t 25) (.t 26)),oo 28 (.mv (.t 10)),oo 29 (.bin .shr (.t 28) (.c (.i .u64 32))),oo 30 (.bin .add (.t 27) (.t 29)),oo 11 (.mv (.t 30))]) (.seq (.cQ [oo 31 (.mv (.t 11)),oo 32 (.bin .and (.t 31) (.c (.i .u64 4294967295))),oo 12 (.mv (.t 32))]) (.seq (.cQ [oo 33 (.mv (.t 11)),oo 34 (.bin .shr (.t 33) (.c (.i .u64 32))),oo 13 (.mv (.t 34))]) (.seq (.cQ [oo 35 (.mv (.t 12)),oo 36 (.mv (.t 6)),oo 37 (.mv (.t 9)),oo 38 (.bin .mul (.t 36) (.t 37)),oo 39 (.bin .add (.t 35) (.t 38)),oo 12 (.mv (.t 39))]) (.seq (.cQ [oo 40 (.mv (.t 7)),oo 41 (.mv (.t 9)),oo 42 (.bin .mul (.t 40) (.t 41)),oo 43 (.mv (.t 13)),oo 44 (.bin .add (.t 42) (.t 43)),oo 45 (.mv (.t 12)),oo 46 (.bin .shr (.t 45) (.c (.i .u64 32))),oo 47 (.bin .add (.t 44) (.t 46)),oo 4 (.mv (.t 47))]) (.seq (.cQ [oo 48 (.mv (.t 0)),oo 49 (.mv (.t 1)),oo 50 (.bin .mul (.t 48) (.t 49)),oo 5 (.mv (.t 50))]) .ret))))))))))))
def y9:dm:={np:=2,N:=51,ct:=[],code:=T1,res:=[.t 4,.t 5]}
abbrev mulC (f32 f64:FuncId):bG:=(.seq (.cQ [oo 4 (.mv (.c (.i .u64 0))),oo 5 (.mv (.c (.i .u64 0)))]) (.seq (.cond (.c (.b false)) (.seq (.cQ [oo 11 (.mv (.t 0)),oo 12 (.yk .u32 (.t 11)),oo 13 (.mv (.t 1)),oo 14 (.yk .u32 (.t 13)),oo 15 (.call (.c (.fn f32 [])) [.t 12,.t 14]),oo 10 (.mv (.t 15)),oo 16 (.ext (.t 10) 0),oo 17 (.ext (.t 10) 1),oo 6 (.mv (.t 16)),oo 7 (.mv (.t 17))]) (.seq (.cQ [oo 18 (.mv (.t 6)),oo 19 (.yk .u64 (.t 18)),oo 20 (.mv (.t 7)),oo 21 (.yk .u64 (.t 20)),oo 4 (.mv (.t 19)),oo 5 (.mv (.t 21))]) .ret)) .skip) (.seq (.cQ [oo 23 (.mv (.t 0)),oo 24 (.mv (.t 1)),oo 25 (.call (.c (.fn f64 [])) [.t 23,.t 24]),oo 22 (.mv (.t 25)),oo 26 (.ext (.t 22) 0),oo 27 (.ext (.t 22) 1),oo 8 (.mv (.t 26)),oo 9 (.mv (.t 27))]) (.seq (.cQ [oo 28 (.mv (.t 8)),oo 29 (.mv (.t 9)),oo 4 (.mv (.t 28)),oo 5 (.mv (.t 29))]) .ret))))
def P1 (f32 f64:FuncId):dm:={np:=2,N:=30,ct:=[],code:=mulC f32 f64,res:=[.t 4,.t 5]}
def uS:Ct
 |[.i .u64 1,.i .u64 c],_,n=>some (decide (0<=c/\c<=255),{v:= .bg [.i .u64 0,.i .u64 c],n})
 |_,_,_=>none
theorem acC {c:Int} (hc:0<=c/\c<=255):iU .u64 c 4294967295=c:=by
 obtain ⟨k,rfl⟩:=Int.eq_ofNat_of_zero_le hc.1;have h: ∀k:Fin 256,iU .u64 ((k.1:Nat):Int) 4294967295=((k.1:Nat):Int):=by decide
 exact h ⟨k,by omega⟩
section
variable {P:Program} {f f32 f64 fm:FuncId} {fn:Func}
theorem Nl (hm:P.follows .mixedOrders=true) (hf:P.funcs[f]? =some fn) (hI:aK P fn=some y9) (c:Int) (hc:0<=c/\c<=255):
 bt P f [.i .u64 1,.i .u64 c] [] 0 (.bg [.i .u64 0,.i .u64 c]) [] 0:=by
 refine bt.dQ (cx:=bZ []) Sound.nil hm hf hI (by simp [y9]) (aQ ?_)
 dsimp only [y9];have e1:=acC hc;have e2:(c).fdiv 4294967296=0:=by rw [sJ _ (by decide)];omega
 have e3:IntKind.u64.wrap c=c:=by rw [EH];omega
 have e4:iU .u64 1 4294967295=1:=by decide
 have e5:iU .u64 0 4294967295=0:=by decide
 have e6:IntKind.u64.wrap 0=0:=by decide
 simp only [go_sem,e1,e2,e3,e4,e5,e6,Int.zero_mul,Int.one_mul,Int.zero_add,Int.add_zero,Int.zero_fdiv,simprocAttr];exact Ends.au rfl rfl
theorem LY (hm:P.follows .mixedOrders=true) (hc:Go.Ab.bJ P f=true) (hf:P.funcs[f]? =some fn) (hI:aK P fn=some y9):aq P f uS:=fun args h n c E hk ht=>by
 unfold uS at hk;split at hk
 ·cases hk;exact ax.pure hc rfl rfl (Nl hm hf hI _ (bO ht)) _ _
 ·cases hk
theorem amD (hm:P.follows .mixedOrders=true) (hf:P.funcs[f]? =some fn) (hI:aK P fn=some (P1 f32 f64)) (h64:aq P f64 uS) (c:Int) (hc:0<=c/\c<=255):
 bt P f [.i .u64 1,.i .u64 c] [] 0 (.bg [.i .u64 0,.i .u64 c]) [] 0:=by
 refine bt.dQ (cx:=bZ [(f64,uS)]) (Sound.cons h64 Sound.nil) hm hf hI (by simp [P1]) (aQ ?_)
 dsimp only [P1];have e1:decide (0<=c/\c<=255)=true:=ah hc;simp only [go_sem,e1,uS,simprocAttr];exact Ends.au rfl rfl
theorem akj (hm:P.follows .mixedOrders=true) (hc:Go.Ab.bJ P f=true) (hf:P.funcs[f]? =some fn) (hI:aK P fn=some (P1 f32 f64)) (h64:aq P f64 uS):aq P f uS:=fun args h n c E hk ht=>by
 unfold uS at hk;split at hk
 ·cases hk;exact ax.pure hc rfl rfl (amD hm hf hI h64 _ (bO ht)) _ _
 ·cases hk
end
/-! Repeat -/
def asU:List UInt8:=[99,97,110,110,111,116,32,98,101,32,110,101,103,97,116,105,118,101]
def auc:List UInt8:=[116,104,101,32,114,101,115,117,108,116,32,111,102,32,40,108,101,110,40,120,41,32,42,32,99,111,117,110,116,41,32,111,118,101,114,102,108,111,119,115]
abbrev asR (z:Nat):bG:=(.seq (.seq (.cQ [oo 34 (.mv (.t 8)),oo 35 (.mv (.t 7)),oo 36 (.oF (.t 35)),ot 37 (.bin .lss (.t 34) (.t 36))]) (.cond (.t 37) .skip (.exit 0))) (.block 1 (.cG [(oo 38 (.mv (.t 8)),[]),(oo 39 (.mv (.t 7)),[0]),(oo 40 (.mv (.t 8)),[0,1]),(oo 41 (.qT z (.t 39) (some (.t 40)) none none),[0]),(oo 42 (.mv (.t 7)),[0,1,2,3]),(oo 43 (.mv (.t 8)),[0,1,2,3,4]),(oo 44 (.qT z (.t 42) none (some (.t 43)) none),[0,1,2,3]),(oo 45 (.FW z (.t 41) (.t 44)),[0]),(oo 46 (.bin .add (.t 38) (.t 45)),[]),(oo 8 (.mv (.t 46)),[])])))
abbrev arH (z bytes:Nat) (zs:List AV) (ts:TypeId) (fm:FuncId):bG:=(.seq (.cQ [oo 4 (.mv (.c (.ns)))])
 (.seq (.seq (.cQ [oo 9 (.mv (.t 1)),ot 10 (.bin .lss (.t 9) (.c (.i .i64 0)))]) (.cond (.t 10) (.cQ [oo 11 (.Kw ts (.c (.s asU))),xp (.MJ (.t 11))]) .skip))
 (.seq (.cQ [oo 13 (.mv (.t 0)),oo 14 (.oF (.t 13)),oo 15 (.yk .u64 (.t 14)),oo 16 (.mv (.t 1)),oo 17 (.yk .u64 (.t 16)),oo 18 (.call (.c (.fn fm [])) [.t 15,.t 17]),oo 12 (.mv (.t 18)),oo 19 (.ext (.t 12) 0),oo 20 (.ext (.t 12) 1),oo 5 (.mv (.t 19)),oo 6 (.mv (.t 20))])
 (.seq (.seq (.cQ [oo 21 (.mv (.t 5)),oo 22 (.bin .gtr (.t 21) (.c (.i .u64 0))),ot 23 (.mv (.t 22)),og 24 (.mv (.t 6)) 23 false false,og 25 (.bin .gtr (.t 24) (.c (.i .u64 9223372036854775807))) 23 false false,ot 26 (.pick (.t 23) (.c (.b true)) (.t 25))]) (.cond (.t 26) (.cQ [oo 27 (.Kw ts (.c (.s auc))),xp (.MJ (.t 27))]) .skip))
 (.seq (.cQ [oo 28 (.mv (.t 6)),oo 29 (.yk .i64 (.t 28)),oo 30 (.R7 z bytes zs (.t 29) (.t 29)),oo 7 (.mv (.t 30))])
 (.seq (.cQ [oo 31 (.mv (.t 7)),oo 32 (.mv (.t 0)),oo 33 (.FW z (.t 31) (.t 32)),oo 8 (.mv (.t 33))])
 (.seq (.block 0 (.loop (asR z)))
 (.seq (.cQ [oo 47 (.mv (.t 7)),oo 4 (.mv (.t 47))]) .ret))))))))
def Wd (z bytes:Nat) (zs:List AV) (ts:TypeId) (fm:FuncId):dm:={np:=2,N:=48,ct:=[10,26,37],code:=arH z bytes zs ts fm,res:=[.t 4]}
section
variable {P:Program} {α:Type} {row:α->List AV} {z bytes:Nat} {zs:List AV} {ts:TypeId} {f fm:FuncId} {fn:Func}
theorem xQ: ∀{m:Nat},zs.length=z->(dI zs m).length=m*z
 |0,_=>by simp [dI]
 |m+1,h=>by rw [rq,dN,xQ h,h,dF,sv,ur]
theorem Gw (m n:Nat):dI zs (m+n)=dI zs m++dI zs n:=by
 induction m with
 |zero=>simp [dI]
 |succ m ih=>rw [Nat.succ_add,rq,rq,ih,fG]
end
end Go.Ab
namespace Go.Ab
section
variable {P:Program} {α:Type} {row:α->List AV} {z bytes:Nat} {zs:List AV} {ts:TypeId} {f fm:FuncId} {fn:Func}
theorem JV (hm:P.follows .mixedOrders=true) (hf:P.funcs[f]? =some fn) (hI:aK P fn=some (Wd z bytes zs ts fm)) (hmul:aq P fm uS) (hlen: ∀a,(row a).length=z) (hzl:zs.length=z) (hbel: ∀a,ae 0 (row a)=true) (hone: ∀a,aX (row a)=true) (hzb:ae 0 zs=true)
 (a:α) (k:Nat) (hk:k<=255) (hg:bytes*k<=281474976710656):
 bt P f [.sl 0 0 1 1,.i .i64 k] [(0,{cells:=row a})] 1 (.sl 1 0 k k) [(1,{cells:=rows row (List.replicate k a)})] 2:=by
 have hR: ∀j,(rows row (List.replicate j a)).length=j*z:=fun j=>by rw [aT hlen,List.length_replicate]
 have hRa: ∀i j,rows row (List.replicate (i+j) a)=rows row (List.replicate i a)++rows row (List.replicate j a):=fun i j=>by rw [<-df,List.replicate_append_replicate]
 have hR1:rows row (List.replicate 1 a)=row a:=by simp [rows]
 have hRb: ∀n j,ae n (rows row (List.replicate j a))=true:=fun n j=>aD _ (bN hbel);have hRo: ∀j,aX (rows row (List.replicate j a))=true:=fun j=>fF hone _;generalize hRR:(fun j=>rows row (List.replicate j a))=R at*;have hRe: ∀j,rows row (List.replicate j a)=R j:=fun j=>by rw [<-hRR]
 simp only [hRe] at*;rw [<-hR1];have hZ: ∀m,(dI zs m).length=m*z:=fun m=>xQ hzl;have hZa:=Gw (zs:=zs);have hZb: ∀n m,ae n (dI zs m)=true:=fun n m=>by
  induction m with
  |zero=>rfl
  |succ m ih=>rw [rq,eY,ih,aD _ hzb];rfl
 generalize hZZ:(fun m=>dI zs m)=Z at*;have hZe: ∀m,dI zs m=Z m:=fun m=>by rw [<-hZZ]
 simp only [hZe] at hZ hZa hZb;refine bt.dQ (cx:=bZ [(fm,uS)]) (Sound.cons hmul Sound.nil) hm hf hI (by simp [Wd]) (aQ ?_)
 dsimp only [Wd];have c0:decide ((k:Int)<0)=false:=cN (by omega)
 have w1:IntKind.u64.wrap 1=1:=by decide
 have w2:IntKind.u64.wrap (k:Int)=(k:Int):=by rw [EH];omega
 have w3:IntKind.i64.wrap (k:Int)=(k:Int):=bS (by omega) (by omega)
 have c1:decide (0<=(k:Int)/\(k:Int)<=255)=true:=ah (by omega)
 have c2:decide ((0:Int)<0)=false:=by decide
 have c3:decide (9223372036854775807<(k:Int))=false:=cN (by omega)
 have c4:decide (0<=(k:Int)/\(k:Int)<=(k:Int)/\bytes*k<=281474976710656/\(k:Int)<=9223372036854775807)=true:=ah (by omega)
 have t1:List.take (1*z) (R 1)=R 1:=h9 (by rw [hR];omega)
 have c4':decide (0<=(k:Int)/\(bytes:Int)*(k:Int)<=281474976710656/\(k:Int)<=9223372036854775807)=true:=ah (by
  refine ⟨by omega,?_,by omega⟩
  have:((bytes*k:Nat):Int)<=281474976710656:=by omega
  rwa [Int.natCast_mul] at this)
 obtain ⟨j0,hj0⟩: ∃j0,(if 1<=k then 1 else k)=j0:=⟨_,rfl⟩
 have hj0k:j0<=1/\j0<=k/\(1<=j0\/k=0):=by rw [<-hj0];split<;>omega
 have hcut: ∀i j,i<=j->List.take (i*z) (R j)=R i:=fun i j h=>by
  rw [show j=i+(j-i) by omega,hRa];exact Cv (hR i)
 have hzm: ∀i j,i<=j->i*z<=j*z:=fun i j h=>Ae _ h;have hzd: ∀i j,i<=j->List.drop (i*z) (Z j)=Z (j-i):=fun i j h=>by
  conv=>lhs;rw [show j=i+(j-i) by omega,hZa]
  exact Fh (hZ i)
 have t2:=hcut j0 1 hj0k.1;have t3:decide (j0*z<=k*z)=true:=ah (hzm _ _ hj0k.2.1);have t4:=hzd j0 k hj0k.2.1;simp only [go_sem,uS,c0,c1,c2,c3,c4,c4',w1,w2,w3,hR,hZe,hZ,hRo,fy,s8,t1,t2,t3,t4,hj0,simprocAttr];refine Loop.by (F:=⟨P,bZ [(fm,uS)],[10,26,37],48,1⟩) (Sound.cons hmul Sound.nil) hm (X:=Nat) (fun j=>j<=k/\(1<=j\/k=0)) (fun j=>k-j)
  (fun j=>[(8,.i .i64 (j:Int)),(7,.sl 1 0 k k)]) (fun j=>[(1,{cells:=R j++Z (k-j)})]) 2 j0 (show 1<=2 by decide) hj0k.2 ?_ ?_ (fun j hj=> ?_)
 ·simp only [go_sem,AV.al,ae,aG,simprocAttr]
 ·simp only [go_sem,eY,hRb,hZb,AV.al,ae,simprocAttr]
 by_cases hlt:j<k
 ·have d1:decide ((j:Int)<(k:Int))=true:=ah (by omega)
  have d2:decide (0<=(j:Int)/\(j:Int)<=(k:Int)/\0<=(k:Int))=true:=ah (by omega)
  have d3:decide (0<=(j:Int)/\(j:Int)<=(k:Int))=true:=ah (by omega)
  obtain ⟨mn,hmn⟩: ∃mn,(if j<=k-j then j else k-j)=mn:=⟨_,rfl⟩
  have hmn':1<=mn/\mn<=j/\j+mn<=k:=by rw [<-hmn];split<;>omega
  have u1:List.take (j*z) (R j++Z (k-j))=R j:=Cv (hR j);have u2:=hcut mn j hmn'.2.1;have a1: ¬k=j:=by omega
  have u3:List.drop (j*z+mn*z) (R j++Z (k-j))=Z (k-(j+mn)):=by
   rw [show k-j=mn+(k-(j+mn)) by omega,hZa,<-fG]
   exact Fh (by rw [dN,hR,hZ])
  have u4:decide (j*z+mn*z<=(R j++Z (k-j)).length)=true:=ah (by
   rw [dN,hR,hZ,<-dF,<-dF];exact hzm _ _ (by omega))
  have w4:IntKind.i64.wrap ((j:Int)+(mn:Int))=((j+mn:Nat):Int):=by rw [bS (by omega) (by omega)];omega
  simp only [go_sem,d1,d2,d3,hR,hZ,hRo,hmn,u1,u2,u3,u4,a1,w4,bV,fy,AV.al,ae,aG,simprocAttr];refine ⟨j+mn,⟨⟨hmn'.2.2,.inl (by omega)⟩,by omega⟩,rfl,?_,?_⟩
  ·rw [hRa]
  ·simp only [eY,hRb,hZb,az]
 ·have d1:decide ((j:Int)<(k:Int))=false:=cN (by omega)
  obtain rfl:j=k:=by omega
  simp only [go_sem,d1,simprocAttr];have hz0:Z (j-j)=[]:=jG (by rw [hZ];simp)
  rw [hz0,cM];exact Ends.R [] (by decide) (by decide) rfl rfl (by simp [iy,ab,rn,aW.aH,ae,AV.al,hRb,aU _ (hRb 0 _)])
end
end Go.Ab
namespace Go.Ab
theorem ax.same {P:Program} {f:FuncId} {args:List AV} {h:Hp} {n:Nat} {E:bX} (hc:ax P f args h n E) (hw:E.nw=[]) (hs: ∀b r,dH E.md b=some r->r=ab h b):ax P f args h n {E with md:=[]}:=by
 have ha:({E with md:=[]}:bX).app (only (ab h) E.rd)=E.app (only (ab h) E.rd):=by
  funext c;simp only [bX.app,dH,hw,ab];cases hm:dH E.md c with
  |none=>rfl
  |some r=>
   have h1:=hs c r hm;have h2:=hc.md c r hm;simp only [only,h2,cond_true,h1]
 refine ⟨hc.bJ,hc.le,fun b r hb=>(by cases hb),hc.nw,fun D φ w us h1 h2 h3=> ?_⟩
 rw [ha];exact hc.run D φ w us h1 h2 h3
theorem BY {χ:Nat->Nat} {m:Nat}: ∀(ks:List aW) (i:Nat),i+ks.length<=m->fE χ m (dS ks i)=[]
 |[],_,_=>rfl
 |k::ks,i,h=>by
  simp only [List.length_cons] at h;have hb:Nat.blt i m=true:=by rw [Nat.blt_eq];omega
  simp only [dS,fE,hb,cond_true];exact BY ks (i+1) (by omega)
noncomputable def YN (R:List Nat) (ks:List aW) (argsL:List AV) (v:AV):Ct:=fun a h n=>
 open Classical in if a=aL (nth R) argsL/\Hc R h R ks then some (true,{v:=v.aH (ix R n),n,rd:=R}) else none
theorem yX {R:List Nat} {ks:List aW} {argsL a:List AV} {v v2:AV} {h:Hp} {n:Nat} (ha:aL (nth R) argsL=a) (hat:Hc R h R ks) (hv:v.aH (ix R n)=v2):YN R ks argsL v a h n=some (true,{v:=v2,n,rd:=R}):=by
 subst ha hv;exact aM ⟨rfl,hat⟩
theorem pf {P:Program} {f:FuncId} {R:List Nat} {ks:List aW} {argsL:List AV} {v:AV} (hcall:Go.Ab.bJ P f=true) (hnd:nodup R=true)
 (hin:ae R.length argsL=true) (hft:bt P f argsL (dS ks 0) R.length v (dS ks 0) R.length) (hok:ko (dS ks 0) R.length R.length (dS ks 0)=true):aq P f (YN R ks argsL v):=fun args h n c E he ht=>by
 unfold YN at he;split at he
 ·rename_i hh;obtain ⟨rfl,hat⟩:=hh;cases he;have hc:=ax.canon (n:=n) R ks hcall hnd hin hat hft (bx _) hok;have hnw:fE (ix R n) R.length (dS ks 0)=[]:=BY ks 0 (by rw [u9 hat];omega)
  refine (ax.same hc hnw (fun b r hb=> ?_)).cast rfl (by rw [sF,fu,hnw])
  rw [oD] at hb;split at hb
  ·rename_i hi;cases hb;have hlt:=Ar hi;obtain ⟨k,hk⟩: ∃k,ks[idx R b]? =some k:=⟨_,aY (by rw [<-u9 hat];exact hlt.1)⟩
   have h2:=y6 hat hk;rw [hlt.2] at h2;rw [h2.1,r6,aM (eB _),gv,C1,hk];simp only [fN,aP,aW.aH];rw [ft (ψ:=ix R n) (χ:=nth R) (fun c hc=>by simp only [ix];rw [aM hc]) _ h2.2]
  ·cases hb
 ·cases he
theorem bw.auW {n0 n n2:Nat} {v v' v2:AV} {h h' h2:Hp} {x:AV} {b:Nat} {k:aW} {o:Nat} (hk:ab h b=some k) (hro:k.ro=false) (hx:x= .p b o) (hf:dj x (.fp k.cells o) v v')
 (hh:FM x (.fp k.cells o) b h h') (hc:bw n0 v' h' n v2 h2 n2) (hmp:k.mp=none:=by rfl):bw n0 v h n v2 h2 n2:=by
 intro D φ w D0 φ0 H0 w0 u hD0 hD hv hH hS;obtain ⟨hdb,⟨⟨vs,elem,fr,q1,q2,q3,q4⟩,q5⟩⟩:=hH.at_ b k hk;have q1:=q1.cells hmp;let φ1:bU:={φ with fz:=fun B=>if B=φ.cW b then some vs else φ.fz B}
 have ag:dh D φ φ1:=⟨fun c _=>⟨rfl,rfl,rfl,rfl⟩,fun B vs' hB=>by
  simp only [φ1];split
  ·rename_i hBb;subst hBb;obtain ⟨elem',fr',h1⟩:=hH.fz _ _ hB;rw [q1] at h1;simp only [aP,Obj.cells.injEq] at h1;rw [h1.1]
  ·exact hB,rfl⟩
 have hxy: ∀u1,aI D φ1 x u1->aI D φ1 (.fp k.cells o) u1:=fun u1 h1=>by
  subst hx;have g1:φ1.fz (φ.cW b)=some vs:=by simp [φ1]
  cases h1 with
  |p _ _ hd=>
   rw [ur];rw [show o+φ1.off b=φ.off b+o from ur _ _]
   refine .fp _ _ _ _ vs g1 (fun i hi=> ?_) (fun i a u ha hu=> ?_)
   ·obtain ⟨u,hu,_⟩:=q2 i _ (aY hi);rcases dw (φ.off b+i) vs.size with h'|h'
    ·exact h'
    ·rw [gw h'] at hu;cases hu
   ·obtain ⟨u',hu',hr⟩:=q2 i a ha;rw [hu] at hu';cases hu';exact hr.mono (fun _ h=>h) ag
 have hH1:HR D φ1 (ab h') w:=by
  refine ⟨⟨fun c kk2 hc=> ?_,fun b1 b2 k1 k2 hne h1 h2' hr=> ?_⟩,fun B vs' hB=> ?_,hH.lp,fun c kk B vs' hc hr hB=> ?_⟩
  ·obtain ⟨hne,kk,h3,e1,e2',e3,hv⟩:=hh.get c kk2 hc;obtain ⟨d1,⟨⟨vs',elem',fr',r1,r2,r3,r4⟩,r5⟩⟩:=hH.at_ c kk h3;obtain ⟨e3,e4⟩:=s9 e3;refine ⟨d1,⟨⟨vs',elem',fr',by rw [e4];exact r1,fun i v2 hi=> ?_,by rw [e1,e2'];exact r3,by rw [e1,e2'];exact r4⟩,by rw [e3];exact r5⟩⟩
   obtain ⟨v,hv1,hv2⟩:=hv.get hi;obtain ⟨u,hu,hur⟩:=r2 i v hv1;exact ⟨u,hu,hv2 D φ1 u hxy (hur.mono (fun _ h=>h) ag)⟩
  ·obtain ⟨_,kk1,a1,a2,_⟩:=hh.get _ _ h1;obtain ⟨_,kk2,b1',b2',_⟩:=hh.get _ _ h2';exact hH.sep b1 b2 kk1 kk2 hne a1 b1' (by rw [<-a2];exact hr)
  ·simp only [φ1] at hB;split at hB
   ·rename_i e;subst e;cases hB;exact ⟨elem,fr,q1⟩
   ·exact hH.fz B vs' hB
  ·obtain ⟨hne,kk1,a1,a2,_⟩:=hh.get _ _ hc;simp only [φ1] at hB;split at hB
   ·rename_i e;subst e;exact hH.sep c b kk1 k hne a1 hk (by rw [<-a2];exact hr)
   ·exact hH.kD c kk1 B vs' a1 (by rw [<-a2];exact hr) hB
 refine hc D φ1 w D0 φ0 H0 w0 u hD0 hD (hf D φ1 u hxy (hv.mono (fun _ h=>h) ag)) hH1 ⟨hS.sub,⟨hS.agree.at_,fun B vs' hB=>ag.fz B vs' (hS.agree.fz B vs' hB),hS.agree.lp⟩,hH1,hS.eC,fun c kk2 hc hr=> ?_,fun B vs' hB=> ?_⟩
 ·obtain ⟨_,kk1,a1,a2,_⟩:=hh.get _ _ hc;exact hS.oY c kk1 a1 (by rw [<-a2];exact hr)
 ·simp only [φ1] at hB;split at hB
  ·rename_i e;subst e;exact .inr (hS.oY b k hk hro)
  ·exact hS.jO B vs' hB
end Go.Ab
