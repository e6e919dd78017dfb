/- The small language's text of a function, computed instead of printed. -/
import Derived.Test.YtibpegmighopbaaGreatDoorX2
import Derived.Test.YtibpegmighopbaaGreatDoorProg
set_option maxRecDepth 100000
set_option maxHeartbeats 20000000
set_option linter.unusedSimpArgs false
set_option linter.unusedVariables false
section
noncomputable abbrev Go.Proofs.ay:=Go.Proofs.Tryz.prog
namespace Go.Proofs.Rom
open Go.Ab
noncomputable def PL:Program:=⟨Tryz.progTables,#[]⟩
abbrev dI {f:Func} {i:cZ} (h:ah PL f=some i):={x:cZ // x=i}
abbrev qF {α:Type} {a b:α} (h:a=b):={x:α // x=b}
abbrev Zv {α:Type} {b:α} (x:{x:α//x=b}):α:=match x with|⟨v,_⟩=>v
theorem cV {α:Type} {a b:α} (h:a=b:=by conv=>lhs;cbv):a=b:=h
theorem cW {f:Func} {i:cZ} (h:ah PL f=some i:=by conv=>lhs;cbv):ah PL f=some i:=h
section
variable {P:Program} {ct:List Nat} {N:Nat} {a b:Code} {a' b':bb}
theorem cS (h1:bt P ct N a=a') (h2:bt P ct N b=b'):bt P ct N (.seq a b)= .seq a' b':=by subst h1 h2;rfl
theorem cD {n:Nat} (h1:bt P ct N a=a') (h2:bt P ct N b=b'):bt P ct N (.cond (.tmp n) a b)= .cond (.t n) a' b':=by subst h1 h2;rfl
theorem cB {i:Nat} (h1:bt P ct N a=a'):bt P ct N (.block i a)= .block i a':=by subst h1;rfl
theorem cL (h1:bt P ct N a=a'):bt P ct N (.loop a)= .loop a':=by subst h1;rfl
theorem cM0 {α β:Type} {f:α->β}:[].map f=[]:=rfl
theorem cM1 {α β:Type} {f:α->β} {a:α} {b:β} {l:List α} {m:List β} (h1:f a=b) (h2:l.map f=m):(a::l).map f=b::m:=by rw [fJ,h1,h2]
theorem cR {i:Nat} {ops:Array Oper} {l:List Oper} {sp:List Nat} {os:List bq} (hl:ops.toList=l) (hc:(jU N l&&jP l)=true) (hs:iS l++ct=sp) (ho:l.map (bk P l sp)=os):bt P ct N (.region i ops false)= .dY os:=by
 subst hl hs ho;simp only [bt,hc,kl,Bool.true_or,jW,cM];rfl
theorem cQ {i:Nat} {ops:Array Oper} {l:List Oper} {sp:List Nat} {os:List bq} {us:List (List Nat)} {z:List (bq×List Nat)} (hl:ops.toList=l) (hc:(jU N l&&jP l&&(AN l&&xO ops))=true) (hs:iS l++ct=sp) (ho:l.map (bk P l sp)=os)
 (hu:CJ ops=us) (hz:List.zip os us=z):bt P ct N (.region i ops true)= .jv z:=by
 subst hl hs ho hu hz;simp only [bt,hc,tJ,vp,cM]
theorem cF {fn:Func} {c:Code} {rs:List mS} {code:bb} {np:Nat} (hb:fn.body=some c:=by exact rfl) (hnp:fn.params.size+fn.nfree=np:=by conv=>lhs;cbv) (hN:fn.ntmps=N:=by conv=>lhs;cbv)
 (hk:decide (np<=N)=true:=by rfl) (hct:db c=ct:=by conv=>lhs;cbv) (hr:jO PL fn.results.toList=some rs:=by conv=>lhs;cbv)
 (hc:bt PL ct N c=code:=by (repeat' (first|apply cS|apply cB|apply cL|apply cD));all_goals (try first|(conv=>lhs;cbv)|(apply cR;(conv=>lhs;cbv);kernel_rfl;(conv=>lhs;cbv);(repeat' first|apply cM0|apply cM1);all_goals (try (conv=>lhs;cbv)))|(apply cQ;(conv=>lhs;cbv);kernel_rfl;(conv=>lhs;cbv);(repeat' first|apply cM0|apply cM1);all_goals (try (conv=>lhs;cbv))))):ah PL fn=some {np,N,ct,code,res:=rs}:=by
 subst hnp hN hct hc;simp only [ah,hb,hr,aC,hk,mP];rfl
end
end Go.Proofs.Rom
namespace Go.Ab
def bb.sub:bb->List Nat->bb
 | .seq a b,k::l=>match k with|0=>a.sub l|_=>b.sub l
 | .cond _ a b,k::l=>match k with|0=>a.sub l|_=>b.sub l
 | .pX _ _ a b,k::l=>match k with|0=>a.sub l|_=>b.sub l
 | .block _ a,_::l=>a.sub l
 | .loop a,_::l=>a.sub l
 | .scope a,_::l=>a.sub l
 |c,_=>c
def bb.ops:bb->List bq
 | .dY l=>l
 |_=>[]
def bb.afH:bb->List (bq×List Nat)
 | .jv l=>l
 |_=>[]
end Go.Ab
end
