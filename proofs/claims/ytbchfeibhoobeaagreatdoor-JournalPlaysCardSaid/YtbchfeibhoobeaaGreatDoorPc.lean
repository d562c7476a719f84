/-
  This text prints what the functions reached ask of their memory, and shows what they answer. Conditions: none for the last theorem, those that each theorem states for the others.
-/
import Derived.Test.YtbchfeibhoobeaaGreatDoorPb
import Derived.DeepKeys2
import Derived.KernelRfl
import Derived.Shelf.Lays
import Derived.Shelf.SlMaps.Clone
import Derived.Shelf.Slices.In.SortNone
import Derived.Shelf.Sort.Plain
import Derived.Test.YtbchfeibhoobeaaGreatDoorProg
set_option maxRecDepth 100000
set_option maxHeartbeats 1000000
namespace Go.Proofs.YtbchfeibhoobeaaGreatDoor
open Go.Abs
variable {f sz:Nat} {T:Nat->List Item} {L:Nat->List Tmp}
abbrev pP(b o:Nat):Value:=.pointer (some ⟨b,o,none⟩)
noncomputable abbrev Tp:Program:=Tryz.prog
def Tz:Nat->List Item:=λ_=>[]
def Lz:Nat->List Tmp:=λ_=>[]
def An:Bz:={ known:=[9,47,67,88,102] }
def sub:Code->List Nat->Code
 |c,[]=>c
 |.seq a _,0::p=>sub a p
 |.seq _ b,_::p=>sub b p
 |.cond _ a _,0::p=>sub a p
 |.cond _ _ b,_::p=>sub b p
 |.block _ b,_::p=>sub b p
 |.loop b,_::p=>sub b p
 |.rangeFunc _ _ a _,0::p=>sub a p
 |.rangeFunc _ _ _ b,_::p=>sub b p
 |.scope b,_::p=>sub b p
 |c,_=>c
noncomputable def cd(f:FuncId)(p:List Nat):Code:=match Tp.funcs[f]? with
 |some fn=>(match fn.body with | some c=>sub c p | none=>.skip)
 |none=>.skip
theorem gP:POk Tp:=Aaz (by kernel_rfl) (by kernel_rfl)
def gE(W0:World)(m0:Inj Tp)(S:Nat->List Value->AW->Prop)(Q:Value->AW->Prop)(f sz:Nat)(T:Nat->List Item)(L:Nat->List Tmp)(aS:List Value)(A:AW):Prop:=CE Tp An W0 m0 f T L S Q none 4000 (Tm.fill ⟨sz,.nil⟩ 0 aS) [.code (cd f [])] false 0 0 0 [] A
def gL(W0:World)(m0:Inj Tp)(S:Nat->List Value->AW->Prop)(Q:Value->AW->Prop)(f sz:Nat)(T:Nat->List Item)(L:Nat->List Tmp)(d:Nat->Value)(id:Nat)(A:AW):Prop:=CE Tp An W0 m0 f T L S Q none 4000 (PS sz d) (T id) false 0 0 0 [] A
def Wf0(f sz:Nat)(T:Nat->List Item)(L:Nat->List Tmp):Prop:=∀ {W0:World} {m0:Inj Tp} {S:Nat->List Value->AW->Prop} {Q:Value->AW->Prop} (A:AW),LJ Tp An W0 m0 f T L S Q sz->gE W0 m0 S Q f sz T L [] A->Wc Tp An W0 m0 f [] A Q
theorem wf0(n:CM Tp f [] .normal=some (frM f (Tm.fill ⟨sz,.nil⟩ 0 []) [.code (cd f [])] false))(hs:sz<Am)(hz:(Tm.fill ⟨sz,.nil⟩ 0 []).sz=sz):Wf0 f sz T L:=λ_ hc h=>Md gP hs hc (n) (hz) h
def Wf1(f sz:Nat)(T:Nat->List Item)(L:Nat->List Tmp):Prop:=∀ {W0:World} {m0:Inj Tp} {S:Nat->List Value->AW->Prop} {Q:Value->AW->Prop} (a0:Value) (A:AW),LJ Tp An W0 m0 f T L S Q sz->gE W0 m0 S Q f sz T L [a0] A->Wc Tp An W0 m0 f [a0] A Q
theorem wf1(n:∀ (a0:Value),CM Tp f [a0] .normal=some (frM f (Tm.fill ⟨sz,.nil⟩ 0 [a0]) [.code (cd f [])] false))(hs:sz<Am)(hz:∀ (a0:Value),(Tm.fill ⟨sz,.nil⟩ 0 [a0]).sz=sz):Wf1 f sz T L:=λa0 _ hc h=>Md gP hs hc (n a0) (hz a0) h
def Wf2(f sz:Nat)(T:Nat->List Item)(L:Nat->List Tmp):Prop:=∀ {W0:World} {m0:Inj Tp} {S:Nat->List Value->AW->Prop} {Q:Value->AW->Prop} (a0 a1:Value) (A:AW),LJ Tp An W0 m0 f T L S Q sz->gE W0 m0 S Q f sz T L [a0,a1] A->Wc Tp An W0 m0 f [a0,a1] A Q
theorem wf2(n:∀ (a0 a1:Value),CM Tp f [a0,a1] .normal=some (frM f (Tm.fill ⟨sz,.nil⟩ 0 [a0,a1]) [.code (cd f [])] false))(hs:sz<Am)(hz:∀ (a0 a1:Value),(Tm.fill ⟨sz,.nil⟩ 0 [a0,a1]).sz=sz):Wf2 f sz T L:=λa0 a1 _ hc h=>Md gP hs hc (n a0 a1) (hz a0 a1) h
def Wf3(f sz:Nat)(T:Nat->List Item)(L:Nat->List Tmp):Prop:=∀ {W0:World} {m0:Inj Tp} {S:Nat->List Value->AW->Prop} {Q:Value->AW->Prop} (a0 a1 a2:Value) (A:AW),LJ Tp An W0 m0 f T L S Q sz->gE W0 m0 S Q f sz T L [a0,a1,a2] A->Wc Tp An W0 m0 f [a0,a1,a2] A Q
theorem wf3(n:∀ (a0 a1 a2:Value),CM Tp f [a0,a1,a2] .normal=some (frM f (Tm.fill ⟨sz,.nil⟩ 0 [a0,a1,a2]) [.code (cd f [])] false))(hs:sz<Am)(hz:∀ (a0 a1 a2:Value),(Tm.fill ⟨sz,.nil⟩ 0 [a0,a1,a2]).sz=sz):Wf3 f sz T L:=λa0 a1 a2 _ hc h=>Md gP hs hc (n a0 a1 a2) (hz a0 a1 a2) h
def Wf4(f sz:Nat)(T:Nat->List Item)(L:Nat->List Tmp):Prop:=∀ {W0:World} {m0:Inj Tp} {S:Nat->List Value->AW->Prop} {Q:Value->AW->Prop} (a0 a1 a2 a3:Value) (A:AW),LJ Tp An W0 m0 f T L S Q sz->gE W0 m0 S Q f sz T L [a0,a1,a2,a3] A->Wc Tp An W0 m0 f [a0,a1,a2,a3] A Q
theorem wf4(n:∀ (a0 a1 a2 a3:Value),CM Tp f [a0,a1,a2,a3] .normal=some (frM f (Tm.fill ⟨sz,.nil⟩ 0 [a0,a1,a2,a3]) [.code (cd f [])] false))(hs:sz<Am)(hz:∀ (a0 a1 a2 a3:Value),(Tm.fill ⟨sz,.nil⟩ 0 [a0,a1,a2,a3]).sz=sz):Wf4 f sz T L:=λa0 a1 a2 a3 _ hc h=>Md gP hs hc (n a0 a1 a2 a3) (hz a0 a1 a2 a3) h
def DX(f sz:Nat)(T:Nat->List Item)(L:Nat->List Tmp):Prop:=∀ {W0:World} {m0:Inj Tp} {Q:Value->AW->Prop} {I:Nat->Nat->List Value->AW->Prop},(∀ g id vals A d,I g id vals A->(L id).map d=vals->gL W0 m0 (λid v A=>∃ g2,g2<g/\I g2 id v A) Q f sz T L d id A)->LJ Tp An W0 m0 f T L (λid v A=>∃ g,I g id v A) Q sz
theorem D0(hs:sz<Am):DX f sz T L:=λh=>Zk gP hs h
section
variable (W0:World) (m0:Inj Tp) (S:Nat->List Value->AW->Prop) (Q:Value->AW->Prop) (d:Nat->Value) (a0 a1 a2 a3 a4 a5 a6:Value) (A:AW)
theorem e7:gE W0 m0 S Q 7 8 Tz Lz [a0] A=(Au (Ib A) λt0 At0=>Aa (OD a0 [(.int .i64 0)]) λt1=>Aa (Bp Tp 76 [(0,t0),(1,t1)]) λt2=>Au (DF At0 (Value.cells t2).toList 76) λt3 At3=>Q t3 At3):=by kernel_rfl
theorem w7:Wf1 7 8 Tz Lz:=wf1 (λ_=>by kernel_rfl) (by decide) λ_=>rfl
noncomputable def T8:Nat->List Item:=λi=>match i with
 |0=>[(.code (cd 8 [1,1,1,1,1,1,1,1,1,1,1,1,0,1,0,0])),(.inLoop (cd 8 [1,1,1,1,1,1,1,1,1,1,1,1,0,1,0,0])),(.inBlock 0),(.code (cd 8 [1,1,1,1,1,1,1,1,1,1,1,1,1]))]
 |2=>[(.code (cd 8 [1,1,1,1,1,1,1,1,1,1,1,1,1,0,1,0,0])),(.inLoop (cd 8 [1,1,1,1,1,1,1,1,1,1,1,1,1,0,1,0,0])),(.inBlock 2),(.code (cd 8 [1,1,1,1,1,1,1,1,1,1,1,1,1,1]))]
 |4=>[(.code (cd 8 [1,1,1,1,1,1,1,1,1,1,1,1,1,1,0,1,0,0])),(.inLoop (cd 8 [1,1,1,1,1,1,1,1,1,1,1,1,1,1,0,1,0,0])),(.inBlock 4),(.code (cd 8 [1,1,1,1,1,1,1,1,1,1,1,1,1,1,1]))]
 |_=>[]
def L8:Nat->List Tmp:=λi=>match i with
 |0=>[2,8,11,12,77,78,79]
 |2=>[2,8,11,12,88,89,90]
 |4=>[11,145,146,147]
 |_=>[]
theorem e8:gE W0 m0 S Q 8 183 T8 L8 [a0,a1] A=(Au (DF A (Value.cells a0).toList 27) λt0 At0=>Aa (Af Tp At0 27 t0) λt1=>Wc Tp An W0 m0 19 [t1] At0 λt2 At2=>Aa (Ai Tp .eql 27 (.tmp 21) (.const (.pointer none)) t2 (.pointer none)) λt3=>Ah t3 (Q (.tuple ⟨[(.pointer none),(.int .i64 1)]⟩) At2) (Aa (Ai Tp .lss 3 (.tmp 23) (.const (.int .i64 1)) a1 (.int .i64 1)) λt4=>Ah t4 (Q (.tuple ⟨[(.pointer none),(.int .i64 2)]⟩) At2) (Aa (Af Tp At2 27 t0) λt5=>Wc Tp An W0 m0 23 [t5] At2 λt6 At6=>Ah t6 (Q (.tuple ⟨[(.pointer none),(.int .i64 100)]⟩) At6) (Aa (Af Tp At6 27 t0) λt7=>Wc Tp An W0 m0 36 [t7] At6 λt8 At8=>Aa (Ap t8 0) λt9=>Aa (Ap t8 1) λt10=>Aa (Ai Tp .neq 30 (.tmp 32) (.const (.int .i64 0)) t10 (.int .i64 0)) λt11=>Ah t11 (Q (.tuple ⟨[(.pointer none),t10]⟩) At8) (Wc Tp An W0 m0 37 [t9] At8 λt12 At12=>Aa (Ap t12 0) λt13=>Aa (Ap t12 1) λt14=>Aa (Ap t12 2) λt15=>Aa (unA Tp .not t15) λt16=>Ah t16 (Q (.tuple ⟨[(.pointer none),(.int .i64 120)]⟩) At12) (Aa (Af Tp At12 27 t0) λt17=>Aa (Bp Tp 83 [(0,t17),(1,a1)]) λt18=>Au (DF At12 (Value.cells t18).toList 83) λt19 At19=>Aa (Af Tp At19 27 t0) λt20=>Wc Tp An W0 m0 11 [t20] At19 λt21 At21=>Wc Tp An W0 m0 38 [t21,(.string ⟨⟨[106,46,110,101,119]⟩⟩)] At21 λt22 At22=>Ah t22 (Au (Av Tp At22 84 1 [(0,(.func (.func 39) ⟨[]⟩ ⟨[t0]⟩))]) λt23 At23=>Au (AJ Tp At23 84 84 (.slice none 0 0) t23) λt24 At24=>Aa (Bd Tp At24 77 t13) λt25=>Aa (Ai Tp .eql 3 (.tmp 55) (.const (.int .i64 0)) t25 (.int .i64 0)) λt26=>Ah t26 (Au (Av Tp At24 46 1 [(0,(.int .i64 1))]) λt27 At27=>Wc Tp An W0 m0 41 [(.string ⟨⟨[]⟩⟩)] At27 λt28 At28=>Aa (Bd Tp At28 9 t28) λt29=>Aa (AD t19) λt30=>Aa (Ad Tp 83 t30 4) λt31=>Bh (Az Tp At28 46 t31 t27) λAt32=>Aa (AD t19) λt33=>Aa (Ad Tp 83 t33 5) λt34=>Bh (Az Tp At32 3 t34 t29) λAt35=>Aa (AD t19) λt36=>Aa (Ad Tp 83 t36 6) λt37=>Bh (Az Tp At35 4 t37 (.bool true)) λAt38=>Au (Av Tp At38 84 3 [(0,(.func (.func 42) ⟨[]⟩ ⟨[t0]⟩)),(1,(.func (.func 43) ⟨[]⟩ ⟨[t0]⟩)),(2,(.func (.func 45) ⟨[]⟩ ⟨[t0]⟩))]) λt39 At39=>Au (AJ Tp At39 84 84 t24 t39) λt40 At40=>Aa (AP Tp At40 77 t9 none (some t14) none) λt41=>Aa (Bd Tp At40 77 t41) λt42=>Bm (T8 0) (T8 0) (S 0 [t0,t13,t19,t40,t41,t42,(.int .i64 0)] At40)) (Aa (AP Tp At24 77 t9 none (some t14) none) λt43=>Aa (Bd Tp At24 77 t43) λt44=>Bm (T8 0) (T8 0) (S 0 [t0,t13,t19,t24,t43,t44,(.int .i64 0)] At24))) (Aa (Bd Tp At22 77 t13) λt45=>Aa (Ai Tp .eql 3 (.tmp 55) (.const (.int .i64 0)) t45 (.int .i64 0)) λt46=>Ah t46 (Au (Av Tp At22 46 1 [(0,(.int .i64 1))]) λt47 At47=>Wc Tp An W0 m0 41 [(.string ⟨⟨[]⟩⟩)] At47 λt48 At48=>Aa (Bd Tp At48 9 t48) λt49=>Aa (AD t19) λt50=>Aa (Ad Tp 83 t50 4) λt51=>Bh (Az Tp At48 46 t51 t47) λAt52=>Aa (AD t19) λt53=>Aa (Ad Tp 83 t53 5) λt54=>Bh (Az Tp At52 3 t54 t49) λAt55=>Aa (AD t19) λt56=>Aa (Ad Tp 83 t56 6) λt57=>Bh (Az Tp At55 4 t57 (.bool true)) λAt58=>Au (Av Tp At58 84 3 [(0,(.func (.func 42) ⟨[]⟩ ⟨[t0]⟩)),(1,(.func (.func 43) ⟨[]⟩ ⟨[t0]⟩)),(2,(.func (.func 45) ⟨[]⟩ ⟨[t0]⟩))]) λt59 At59=>Au (AJ Tp At59 84 84 (.slice none 0 0) t59) λt60 At60=>Aa (AP Tp At60 77 t9 none (some t14) none) λt61=>Aa (Bd Tp At60 77 t61) λt62=>Bm (T8 0) (T8 0) (S 0 [t0,t13,t19,t60,t61,t62,(.int .i64 0)] At60)) (Aa (AP Tp At22 77 t9 none (some t14) none) λt63=>Aa (Bd Tp At22 77 t63) λt64=>Bm (T8 0) (T8 0) (S 0 [t0,t13,t19,(.slice none 0 0),t63,t64,(.int .i64 0)] At22))))))))):=by kernel_rfl
theorem AfD:gL W0 m0 S Q 8 183 T8 L8 d 0 A=(Aa (Ai Tp .lss 3 (.tmp 79) (.tmp 78) (d 79) (d 78)) λt0=>Ah t0 (Aa (Ak Tp 77 (d 77) (d 79)) λt1=>Aa (Af Tp A 90 t1) λt2=>Au (Cz Tp A 90) λt3 At3=>Bh (Az Tp At3 90 t3 t2) λAt4=>Au (Av Tp At4 84 1 [(0,(.func (.func 48) ⟨[]⟩ ⟨[(d 2),t3]⟩))]) λt5 At5=>Au (AJ Tp At5 84 84 (d 12) t5) λt6 At6=>Aa (Ai Tp .add 3 (.tmp 79) (.const (.int .i64 1)) (d 79) (.int .i64 1)) λt7=>Bm (T8 0) (T8 0) (S 0 [(d 2),(d 8),(d 11),t6,(d 77),(d 78),t7] At6)) (Aa (Bd Tp A 77 (d 8)) λt8=>Bm (T8 2) (T8 2) (S 2 [(d 2),(d 8),(d 11),(d 12),(d 8),t8,(.int .i64 0)] A))):=by kernel_rfl
theorem AfC:gL W0 m0 S Q 8 183 T8 L8 d 2 A=(Aa (Ai Tp .lss 3 (.tmp 90) (.tmp 89) (d 90) (d 89)) λt0=>Ah t0 (Aa (Ak Tp 77 (d 88) (d 90)) λt1=>Aa (Af Tp A 90 t1) λt2=>Au (Cz Tp A 90) λt3 At3=>Bh (Az Tp At3 90 t3 t2) λAt4=>Aa (AD (d 11)) λt5=>Aa (Ad Tp 83 t5 4) λt6=>Aa (Af Tp At4 46 t6) λt7=>Aa (Ad Tp 90 t3 0) λt8=>Aa (Af Tp At4 3 t8) λt9=>Au (Av Tp At4 46 1 [(0,t9)]) λt10 At10=>Dq (BQ Tp (Co (Tm.fill ⟨1,.nil⟩ 0 [t9])) (.buildSlice 46 1 #[(0,.tmp 0)])) At10 t10 (Aa (Af Tp At10 3 t8) λt11=>eqW t11 t9 (Aa (Ad Tp 90 t3 0) λt12=>eqW t12 t8 (Aa (Af Tp At10 46 t6) λt13=>eqW t13 t7 (Aa (Ad Tp 83 t5 4) λt14=>eqW t14 t6 (Aa (AD (d 11)) λt15=>eqW t15 t5 (eqW (d 11) (d 11) (eqW (d 11) (d 11) (Au (AJ Tp At10 46 46 t7 t10) λt16 At16=>eqW (d 11) (d 11) (Aa (AD (d 11)) λt17=>Aa (Ad Tp 83 t17 4) λt18=>Bh (Az Tp At16 46 t18 t16) λAt19=>Aa (AD (d 11)) λt20=>Aa (Ad Tp 83 t20 3) λt21=>Aa (Af Tp At19 22 t21) λt22=>Aa (Ad Tp 90 t3 1) λt23=>Aa (Af Tp At19 22 t23) λt24=>Au (AJ Tp At19 22 22 t22 t24) λt25 At25=>eqW (d 11) (d 11) (Aa (AD (d 11)) λt26=>Aa (Ad Tp 83 t26 3) λt27=>Bh (Az Tp At25 22 t27 t25) λAt28=>Aa (Ad Tp 90 t3 2) λt29=>Aa (Af Tp At28 3 t29) λt30=>Aa (Ad Tp 90 t3 1) λt31=>Aa (Af Tp At28 22 t31) λt32=>Aa (Bd Tp At28 22 t32) λt33=>Aa (Ai Tp .gtr 3 (.tmp 122) (.const (.int .i64 0)) t33 (.int .i64 0)) λt34=>Aa (AD (d 11)) λt35=>Aa (Ad Tp 83 t35 5) λt36=>Bh (Az Tp At28 3 t36 t30) λAt37=>Aa (Ai Tp .gtr 3 (.tmp 122) (.const (.int .i64 0)) t33 (.int .i64 0)) λt38=>eqW t38 t34 (Aa (Bd Tp At37 22 t32) λt39=>eqW t39 t33 (Aa (Af Tp At37 22 t31) λt40=>eqW t40 t32 (Aa (Ad Tp 90 t3 1) λt41=>eqW t41 t31 (eqW (d 11) (d 11) (Aa (AD (d 11)) λt42=>Aa (Ad Tp 83 t42 6) λt43=>Bh (Az Tp At37 4 t43 t34) λAt44=>Aa (Bd Tp At44 77 (d 8)) λt45=>Aa (Ai Tp .sub 3 (.tmp 130) (.const (.int .i64 1)) t45 (.int .i64 1)) λt46=>Aa (Ai Tp .eql 3 (.tmp 128) (.tmp 131) (d 90) t46) λt47=>Ah t47 (Aa (Ad Tp 90 t3 3) λt48=>Aa (Af Tp At44 88 t48) λt49=>Aa (Ai Tp .eql 88 (.tmp 134) (.const (.int .u8 1)) t49 (.int .u8 1)) λt50=>Ah t50 (Au (Av Tp At44 84 1 [(0,(.func (.func 49) ⟨[]⟩ ⟨[(d 2),t3]⟩))]) λt51 At51=>Au (AJ Tp At51 84 84 (d 12) t51) λt52 At52=>Au (Av Tp At52 84 1 [(0,(.func (.func 51) ⟨[]⟩ ⟨[(d 2),t3]⟩))]) λt53 At53=>Au (AJ Tp At53 84 84 t52 t53) λt54 At54=>Aa (Ai Tp .add 3 (.tmp 90) (.const (.int .i64 1)) (d 90) (.int .i64 1)) λt55=>Bm (T8 2) (T8 2) (S 2 [(d 2),(d 8),(d 11),t54,(d 88),(d 89),t55] At54)) (Au (Av Tp At44 84 1 [(0,(.func (.func 51) ⟨[]⟩ ⟨[(d 2),t3]⟩))]) λt56 At56=>Au (AJ Tp At56 84 84 (d 12) t56) λt57 At57=>Aa (Ai Tp .add 3 (.tmp 90) (.const (.int .i64 1)) (d 90) (.int .i64 1)) λt58=>Bm (T8 2) (T8 2) (S 2 [(d 2),(d 8),(d 11),t57,(d 88),(d 89),t58] At57))) (Aa (Ai Tp .add 3 (.tmp 90) (.const (.int .i64 1)) (d 90) (.int .i64 1)) λt59=>Bm (T8 2) (T8 2) (S 2 [(d 2),(d 8),(d 11),(d 12),(d 88),(d 89),t59] At44)))))))))))))))))) (Aa (Bd Tp A 84 (d 12)) λt60=>Bm (T8 4) (T8 4) (S 4 [(d 11),(d 12),t60,(.int .i64 0)] A))):=by kernel_rfl
theorem AfB:gL W0 m0 S Q 8 183 T8 L8 d 4 A=(Aa (Ai Tp .lss 3 (.tmp 147) (.tmp 146) (d 147) (d 146)) λt0=>Ah t0 (Aa (Ak Tp 84 (d 145) (d 147)) λt1=>Aa (Af Tp A 50 t1) λt2=>anW Tp An W0 m0 (Fi Tp A t2 []) λt3 At3=>Aa (Ai Tp .neq 30 (.tmp 153) (.const (.int .i64 0)) t3 (.int .i64 0)) λt4=>Ah t4 (Q (.tuple ⟨[(.pointer none),t3]⟩) At3) (Aa (Ai Tp .add 3 (.tmp 147) (.const (.int .i64 1)) (d 147) (.int .i64 1)) λt5=>Bm (T8 4) (T8 4) (S 4 [(d 11),(d 145),(d 146),t5] At3))) (Aa (AD (d 11)) λt6=>Aa (Ad Tp 83 t6 3) λt7=>Aa (Af Tp A 22 t7) λt8=>Aa (Bd Tp A 22 t8) λt9=>Aa (Ai Tp .gtr 3 (.tmp 161) (.const (.int .i64 0)) t9 (.int .i64 0)) λt10=>Ah t10 (Aa (AD (d 11)) λt11=>Aa (Ad Tp 83 t11 3) λt12=>Aa (Af Tp A 22 t12) λt13=>Aa (Ak Tp 22 t13 (.int .i64 0)) λt14=>Aa (Ad Tp 35 t14 1) λt15=>Aa (Af Tp A 9 t15) λt16=>Aa (AD (d 11)) λt17=>Aa (Ad Tp 83 t17 3) λt18=>Aa (Af Tp A 22 t18) λt19=>Aa (AP Tp A 22 t19 (some (.int .i64 1)) none none) λt20=>Wc Tp An W0 m0 52 [t20] A λt21 At21=>Aa (Af Tp At21 9 t15) λt22=>eqW t22 t16 (Aa (Ad Tp 35 t14 1) λt23=>eqW t23 t15 (Aa (Ak Tp 22 t13 (.int .i64 0)) λt24=>eqW t24 t14 (Aa (Af Tp At21 22 t12) λt25=>eqW t25 t13 (Aa (Ad Tp 83 t11 3) λt26=>eqW t26 t12 (Aa (AD (d 11)) λt27=>eqW t27 t11 (eqW (d 11) (d 11) (eqW (d 11) (d 11) (eqW (d 11) (d 11) (Aa (AD (d 11)) λt28=>Aa (Ad Tp 83 t28 2) λt29=>Bh (Az Tp At21 9 t29 t16) λAt30=>eqW (d 11) (d 11) (Aa (AD (d 11)) λt31=>Aa (Ad Tp 83 t31 3) λt32=>Bh (Az Tp At30 22 t32 t21) λAt33=>Q (.tuple ⟨[(d 11),(.int .i64 0)]⟩) At33))))))))))) (Q (.tuple ⟨[(d 11),(.int .i64 0)]⟩) A))):=by kernel_rfl
theorem w8:Wf2 8 183 T8 L8:=wf2 (λ_ _=>by kernel_rfl) (by decide) λ_ _=>rfl
theorem c8:DX 8 183 T8 L8:=D0 (by decide)
theorem w10:Wf2 10 119 Tz Lz:=wf2 (λ_ _=>by kernel_rfl) (by decide) λ_ _=>rfl
theorem e11:gE W0 m0 S Q 11 12 Tz Lz [a0] A=(Wc Tp An W0 m0 58 [a0] A λt0 At0=>Aa (unA Tp .not t0) λt1=>Ah t1 (Q (.slice none 0 0) At0) (Aa (AD a0) λt2=>Aa (Ad Tp 76 t2 0) λt3=>Aa (Af Tp At0 74 t3) λt4=>Wc Tp An W0 m0 60 [t4] At0 λt5 At5=>Wc Tp An W0 m0 59 [t5] At5 λt6 At6=>Q t6 At6)):=by kernel_rfl
theorem w11:Wf1 11 12 Tz Lz:=wf1 (λ_=>by kernel_rfl) (by decide) λ_=>rfl
theorem e12:gE W0 m0 S Q 12 17 Tz Lz [a0,a1] A=(Wc Tp An W0 m0 61 [a0,a1] A λt0 At0=>Aa (Ap t0 0) λt1=>Aa (Ap t0 1) λt2=>Au (Cz Tp At0 100) λt3 At3=>Bh (Az Tp At3 100 t3 t1) λAt4=>Aa (Ad Tp 100 t3 0) λt5=>Aa (Af Tp At4 9 t5) λt6=>Q (.tuple ⟨[t6,t2]⟩) At4):=by kernel_rfl
theorem w12:Wf2 12 17 Tz Lz:=wf2 (λ_ _=>by kernel_rfl) (by decide) λ_ _=>rfl
theorem e13:gE W0 m0 S Q 13 43 Tz Lz [a0,a1,a2] A=(Au (DF A (Value.cells a0).toList 27) λt0 At0=>Au (DF At0 (Value.cells a1).toList 9) λt1 At1=>Au (DF At1 (Value.cells a2).toList 9) λt2 At2=>Aa (Af Tp At2 27 t0) λt3=>Wc Tp An W0 m0 62 [t3] At2 λt4 At4=>Aa (Ai Tp .neq 30 (.tmp 11) (.const (.int .i64 0)) t4 (.int .i64 0)) λt5=>Ah t5 (Q t4 At4) (Aa (Af Tp At4 9 t1) λt6=>Wc Tp An W0 m0 63 [t6] At4 λt7 At7=>Aa (unA Tp .not t7) λt8=>Ah t8 (Q (.int .i64 2) At7) (Au (Cz Tp At7 100) λt9 At9=>Dq (BQ Tp (λ_=>undef) (.alloc 100)) At9 t9 (Aa (Af Tp At9 27 t0) λt10=>Aa (AD t10) λt11=>Aa (Ad Tp 76 t11 0) λt12=>Aa (Af Tp At9 74 t12) λt13=>Aa (Af Tp At9 9 t1) λt14=>Aa (Dl Tp At9 74 t13 t14 false) λt15=>Bh (Az Tp At9 100 t9 t15) λAt16=>Aa (Af Tp At16 9 t2) λt17=>Aa (Bd Tp At16 9 t17) λt18=>Aa (Ad Tp 100 t9 0) λt19=>Aa (Af Tp At16 9 t19) λt20=>Aa (Bd Tp At16 9 t20) λt21=>Aa (Ai Tp .sub 3 (.const (.int .i64 1048576)) (.tmp 27) (.int .i64 1048576) t21) λt22=>Aa (Ai Tp .gtr 3 (.tmp 24) (.tmp 28) t18 t22) λt23=>Ah t23 (Q (.int .i64 3) At16) (Aa (Af Tp At16 9 t2) λt24=>Aa (Bd Tp At16 9 t24) λt25=>Aa (Af Tp At16 27 t0) λt26=>Aa (AD t26) λt27=>Aa (Ad Tp 76 t27 1) λt28=>Aa (Af Tp At16 3 t28) λt29=>Aa (Af Tp At16 27 t0) λt30=>Wc Tp An W0 m0 64 [t30] At16 λt31 At31=>Aa (Af Tp At31 3 t28) λt32=>eqW t32 t29 (Aa (Ad Tp 76 t27 1) λt33=>eqW t33 t28 (Aa (AD t26) λt34=>eqW t34 t27 (Aa (Af Tp At31 27 t0) λt35=>eqW t35 t26 (Aa (Bd Tp At31 9 t24) λt36=>eqW t36 t25 (Aa (Af Tp At31 9 t2) λt37=>eqW t37 t24 (Aa (Ai Tp .sub 3 (.tmp 35) (.tmp 37) t29 t31) λt38=>Aa (Ai Tp .gtr 3 (.tmp 31) (.tmp 38) t25 t38) λt39=>Ah t39 (Q (.int .i64 6) At31) (Aa (Af Tp At31 27 t0) λt40=>Wc Tp An W0 m0 65 [t40,(.func (.func 66) ⟨[]⟩ ⟨[t9,t2,t0,t1]⟩),(.bool true)] At31 λt41 At41=>Q t41 At41)))))))))))):=by kernel_rfl
theorem w13:Wf3 13 43 Tz Lz:=wf3 (λ_ _ _=>by kernel_rfl) (by decide) λ_ _ _=>rfl
theorem e15:gE W0 m0 S Q 15 22 Tz Lz [a0] A=(Wc Tp An W0 m0 53 [a0] A λt0 At0=>Aa (unA Tp .not t0) λt1=>Ah t1 (Q (.int .i64 1) At0) (Wc Tp An W0 m0 54 [a0] At0 λt2 At2=>Aa (Ai Tp .neq 30 (.tmp 9) (.const (.int .i64 0)) t2 (.int .i64 0)) λt3=>Ah t3 (Q t2 At2) (Aa (AD a0) λt4=>Aa (Ad Tp 83 t4 0) λt5=>Aa (Af Tp At2 27 t5) λt6=>Wc Tp An W0 m0 56 [a0] At2 λt7 At7=>Aa (Af Tp At7 27 t5) λt8=>eqW t8 t6 (Aa (Ad Tp 83 t4 0) λt9=>eqW t9 t5 (Aa (AD a0) λt10=>eqW t10 t4 (eqW a0 a0 (eqW a0 a0 (knW Tp W0 m0 47 [t7] At7 λt11 At11=>Aa (Af Tp At11 27 t5) λt12=>eqW t12 t6 (Aa (Ad Tp 83 t4 0) λt13=>eqW t13 t5 (Aa (AD a0) λt14=>eqW t14 t4 (eqW a0 a0 (eqW a0 a0 (Wc Tp An W0 m0 44 [t6,t11] At11 λt15 At15=>eqW a0 a0 (Wc Tp An W0 m0 57 [a0,t15] At15 λt16 At16=>Q t16 At16)))))))))))))):=by kernel_rfl
theorem w15:Wf1 15 22 Tz Lz:=wf1 (λ_=>by kernel_rfl) (by decide) λ_=>rfl
noncomputable def T16:Nat->List Item:=λi=>match i with
 |0=>[(.code (cd 16 [1,1,1,1,1,1,1,1,1,1,1,1,1,0,1,0,0])),(.inLoop (cd 16 [1,1,1,1,1,1,1,1,1,1,1,1,1,0,1,0,0])),(.inBlock 0),(.code (cd 16 [1,1,1,1,1,1,1,1,1,1,1,1,1,1]))]
 |_=>[]
def L16:Nat->List Tmp:=λi=>match i with
 |0=>[0,107,108,109]
 |_=>[]
theorem Adt:gL W0 m0 S Q 16 126 T16 L16 d 0 A=(Aa (Ai Tp .lss 3 (.tmp 109) (.tmp 108) (d 109) (d 108)) λt0=>Ah t0 (Aa (Ak Tp 46 (d 107) (d 109)) λt1=>Aa (Af Tp A 3 t1) λt2=>Aa (AD (d 0)) λt3=>Aa (Ad Tp 83 t3 0) λt4=>Aa (Af Tp A 27 t4) λt5=>knW Tp W0 m0 47 [t2] A λt6 At6=>Aa (Af Tp At6 27 t4) λt7=>eqW t7 t5 (Aa (Ad Tp 83 t3 0) λt8=>eqW t8 t4 (Aa (AD (d 0)) λt9=>eqW t9 t3 (eqW (d 0) (d 0) (Wc Tp An W0 m0 40 [t5,t6] At6 λt10 At10=>Aa (Ai Tp .neq 30 (.tmp 120) (.const (.int .i64 0)) t10 (.int .i64 0)) λt11=>Ah t11 (Wc Tp An W0 m0 57 [(d 0),t10] At10 λt12 At12=>Q t12 At12) (Aa (Ai Tp .add 3 (.tmp 109) (.const (.int .i64 1)) (d 109) (.int .i64 1)) λt13=>Bm (T16 0) (T16 0) (S 0 [(d 0),(d 107),(d 108),t13] At10))))))) (Q (.int .i64 0) A)):=by kernel_rfl
theorem w16:Wf2 16 126 T16 L16:=wf2 (λ_ _=>by kernel_rfl) (by decide) λ_ _=>rfl
theorem c16:DX 16 126 T16 L16:=D0 (by decide)
theorem e17:gE W0 m0 S Q 17 10 Tz Lz [a0] A=(Wc Tp An W0 m0 53 [a0] A λt0 At0=>Aa (unA Tp .not t0) λt1=>Ah t1 (Q (.string ⟨⟨[]⟩⟩) At0) (Aa (AD a0) λt2=>Aa (Ad Tp 83 t2 2) λt3=>Aa (Af Tp At0 9 t3) λt4=>Q t4 At0)):=by kernel_rfl
theorem w17:Wf1 17 10 Tz Lz:=wf1 (λ_=>by kernel_rfl) (by decide) λ_=>rfl
theorem e18:gE W0 m0 S Q 18 11 Tz Lz [a0] A=(Wc Tp An W0 m0 53 [a0] A λt0 At0=>Aa (unA Tp .not t0) λt1=>Ah t1 (Q (.slice none 0 0) At0) (Aa (AD a0) λt2=>Aa (Ad Tp 83 t2 3) λt3=>Aa (Af Tp At0 22 t3) λt4=>Wc Tp An W0 m0 52 [t4] At0 λt5 At5=>Q t5 At5)):=by kernel_rfl
theorem w18:Wf1 18 11 Tz Lz:=wf1 (λ_=>by kernel_rfl) (by decide) λ_=>rfl
theorem e19:gE W0 m0 S Q 19 25 Tz Lz [a0] A=(Wc Tp An W0 m0 58 [a0] A λt0 At0=>Aa (unA Tp .not t0) λt1=>Ah t1 (Q (.pointer none) At0) (Aa (AD a0) λt2=>Aa (Ad Tp 76 t2 0) λt3=>Aa (Af Tp At0 74 t3) λt4=>Aa (AD a0) λt5=>Aa (Ad Tp 76 t5 1) λt6=>Aa (Af Tp At0 3 t6) λt7=>Aa (AD a0) λt8=>Aa (Ad Tp 76 t8 2) λt9=>Aa (Af Tp At0 3 t9) λt10=>Aa (AD a0) λt11=>Aa (Ad Tp 76 t11 3) λt12=>Aa (Af Tp At0 4 t12) λt13=>knW Tp W0 m0 67 [t4] At0 λt14 At14=>Aa (Af Tp At14 4 t12) λt15=>eqW t15 t13 (Aa (Ad Tp 76 t11 3) λt16=>eqW t16 t12 (Aa (AD a0) λt17=>eqW t17 t11 (eqW a0 a0 (Aa (Af Tp At14 3 t9) λt18=>eqW t18 t10 (Aa (Ad Tp 76 t8 2) λt19=>eqW t19 t9 (Aa (AD a0) λt20=>eqW t20 t8 (eqW a0 a0 (Aa (Af Tp At14 3 t6) λt21=>eqW t21 t7 (Aa (Ad Tp 76 t5 1) λt22=>eqW t22 t6 (Aa (AD a0) λt23=>eqW t23 t5 (eqW a0 a0 (Aa (Bp Tp 76 [(0,t14),(1,t7),(2,t10),(3,t13)]) λt24=>Au (DF At14 (Value.cells t24).toList 76) λt25 At25=>Dq (BQ Tp (λ_=>t24) (.box 76 (.tmp 0))) At25 t25 (Aa (Bp Tp 76 [(0,t14),(1,t7),(2,t10),(3,t13)]) λt26=>eqW t26 t24 (Aa (Af Tp At25 4 t12) λt27=>eqW t27 t13 (Aa (Ad Tp 76 t11 3) λt28=>eqW t28 t12 (Aa (AD a0) λt29=>eqW t29 t11 (eqW a0 a0 (Aa (Af Tp At25 3 t9) λt30=>eqW t30 t10 (Aa (Ad Tp 76 t8 2) λt31=>eqW t31 t9 (Aa (AD a0) λt32=>eqW t32 t8 (eqW a0 a0 (Aa (Af Tp At25 3 t6) λt33=>eqW t33 t7 (Aa (Ad Tp 76 t5 1) λt34=>eqW t34 t6 (Aa (AD a0) λt35=>eqW t35 t5 (eqW a0 a0 (Aa (Af Tp At25 74 t3) λt36=>eqW t36 t4 (Aa (Ad Tp 76 t2 0) λt37=>eqW t37 t3 (Aa (AD a0) λt38=>eqW t38 t2 (eqW a0 a0 (Q t25 At25)))))))))))))))))))))))))))))))):=by kernel_rfl
theorem w19:Wf1 19 25 Tz Lz:=wf1 (λ_=>by kernel_rfl) (by decide) λ_=>rfl
theorem e21:gE W0 m0 S Q 21 18 Tz Lz [a0,a1] A=(Wc Tp An W0 m0 58 [a0] A λt0 At0=>Ah t0 (Aa (AD a0) λt1=>Aa (Ad Tp 76 t1 3) λt2=>Aa (Af Tp At0 4 t2) λt3=>Aa (unA Tp .not t3) λt4=>Ah t4 (Aa (OD a1 [(.int .i64 0)]) λt5=>Aa (AD a0) λt6=>Aa (Ad Tp 76 t6 2) λt7=>Bh (Az Tp At0 3 t7 t5) λAt8=>Q (.tuple ⟨[]⟩) At8) (Q (.tuple ⟨[]⟩) At0)) (Q (.tuple ⟨[]⟩) At0)):=by kernel_rfl
theorem w21:Wf2 21 18 Tz Lz:=wf2 (λ_ _=>by kernel_rfl) (by decide) λ_ _=>rfl
theorem e22:gE W0 m0 S Q 22 10 Tz Lz [a0] A=(Wc Tp An W0 m0 58 [a0] A λt0 At0=>Ah t0 (Aa (AD a0) λt1=>Aa (Ad Tp 76 t1 3) λt2=>Bh (Az Tp At0 4 t2 (.bool true)) λAt3=>Aa (AD a0) λt4=>Aa (Ad Tp 76 t4 2) λt5=>Bh (Az Tp At3 3 t5 (.int .i64 0)) λAt6=>Q (.tuple ⟨[]⟩) At6) (Q (.tuple ⟨[]⟩) At0)):=by kernel_rfl
theorem w22:Wf1 22 10 Tz Lz:=wf1 (λ_=>by kernel_rfl) (by decide) λ_=>rfl
theorem e23:gE W0 m0 S Q 23 12 Tz Lz [a0] A=(Wc Tp An W0 m0 58 [a0] A λt0 At0=>Aa (unA Tp .not t0) λt1=>Ah t1 (Q (.bool true) At0) (Aa (AD a0) λt2=>Aa (Ad Tp 76 t2 3) λt3=>Aa (Af Tp At0 4 t3) λt4=>Q t4 At0)):=by kernel_rfl
theorem w23:Wf1 23 12 Tz Lz:=wf1 (λ_=>by kernel_rfl) (by decide) λ_=>rfl
noncomputable def T24:Nat->List Item:=λi=>match i with
 |0=>[(.code (cd 24 [1,1,1,0,0])),(.inLoop (cd 24 [1,1,1,0,0])),(.inBlock 0)]
 |_=>[]
def L24:Nat->List Tmp:=λi=>match i with
 |0=>[0,1,22,23,24]
 |_=>[]
theorem e24:gE W0 m0 S Q 24 67 T24 L24 [a0,a1] A=(Wc Tp An W0 m0 58 [a0] A λt0 At0=>Aa (unA Tp .not t0) λt1=>Ah t1 (Q (.tuple ⟨[]⟩) At0) (Aa (AD a0) λt2=>Aa (Ad Tp 76 t2 3) λt3=>Aa (Af Tp At0 4 t3) λt4=>Aa (unA Tp .not t4) λt5=>Ah t5 (Q (.tuple ⟨[]⟩) At0) (Aa (AD a0) λt6=>Aa (Ad Tp 76 t6 3) λt7=>Bh (Az Tp At0 4 t7 (.bool false)) λAt8=>Wc Tp An W0 m0 11 [a0] At8 λt9 At9=>Aa (Bd Tp At9 37 t9) λt10=>Bm (T24 0) (T24 0) (S 0 [a0,a1,t9,t10,(.int .i64 0)] At9)))):=by kernel_rfl
theorem Adr:gL W0 m0 S Q 24 67 T24 L24 d 0 A=(Aa (Ai Tp .lss 3 (.tmp 24) (.tmp 23) (d 24) (d 23)) λt0=>Ah t0 (Aa (Ak Tp 37 (d 22) (d 24)) λt1=>Aa (Af Tp A 9 t1) λt2=>Aa (AD (d 0)) λt3=>Aa (Ad Tp 76 t3 0) λt4=>Aa (Af Tp A 74 t4) λt5=>Aa (Dl Tp A 74 t5 t2 false) λt6=>Au (Cz Tp A 100) λt7 At7=>Bh (Az Tp At7 100 t7 t6) λAt8=>Aa (Ad Tp 100 t7 1) λt9=>Aa (Af Tp At8 3 t9) λt10=>Aa (Bd Tp At8 46 (d 1)) λt11=>Aa (Ai Tp .lss 3 (.tmp 37) (.tmp 39) (d 24) t11) λt12=>Ah t12 (Aa (Ak Tp 46 (d 1) (d 24)) λt13=>Aa (Af Tp At8 3 t13) λt14=>Aa (OD t14 [(.int .i64 0)]) λt15=>Aa (Ad Tp 100 t7 0) λt16=>Aa (Af Tp At8 9 t16) λt17=>Aa (Bd Tp At8 9 t17) λt18=>Aa (Ad Tp 100 t7 1) λt19=>Aa (Af Tp At8 3 t19) λt20=>Aa (Ai Tp .sub 3 (.tmp 49) (.tmp 51) t18 t20) λt21=>Aa (RC t15 [t21]) λt22=>Aa (Ai Tp .add 3 (.tmp 41) (.tmp 53) t10 t22) λt23=>Aa (AD (d 0)) λt24=>Aa (Ad Tp 76 t24 0) λt25=>Aa (Af Tp At8 74 t25) λt26=>Aa (Ad Tp 100 t7 0) λt27=>Aa (Af Tp At8 9 t27) λt28=>Aa (AP Tp At8 9 t28 none (some t23) none) λt29=>Aa (Bp Tp 100 [(0,t29),(1,t23)]) λt30=>Bh (CC Tp At8 74 t26 t2 t30) λAt31=>Aa (Ai Tp .add 3 (.tmp 24) (.const (.int .i64 1)) (d 24) (.int .i64 1)) λt32=>Bm (T24 0) (T24 0) (S 0 [(d 0),(d 1),(d 22),(d 23),t32] At31)) (Aa (AD (d 0)) λt33=>Aa (Ad Tp 76 t33 0) λt34=>Aa (Af Tp At8 74 t34) λt35=>Aa (Ad Tp 100 t7 0) λt36=>Aa (Af Tp At8 9 t36) λt37=>Aa (AP Tp At8 9 t37 none (some t10) none) λt38=>Aa (Bp Tp 100 [(0,t38),(1,t10)]) λt39=>Bh (CC Tp At8 74 t35 t2 t39) λAt40=>Aa (Ai Tp .add 3 (.tmp 24) (.const (.int .i64 1)) (d 24) (.int .i64 1)) λt41=>Bm (T24 0) (T24 0) (S 0 [(d 0),(d 1),(d 22),(d 23),t41] At40))) (Q (.tuple ⟨[]⟩) A)):=by kernel_rfl
theorem w24:Wf2 24 67 T24 L24:=wf2 (λ_ _=>by kernel_rfl) (by decide) λ_ _=>rfl
theorem c24:DX 24 67 T24 L24:=D0 (by decide)
noncomputable def T36:Nat->List Item:=λi=>match i with
 |0=>[(.code (cd 36 [1,1,0,1,0,0])),(.inLoop (cd 36 [1,1,0,1,0,0])),(.inBlock 0),(.code (cd 36 [1,1,1]))]
 |_=>[]
def L36:Nat->List Tmp:=λi=>match i with
 |0=>[0,4,12,13,14]
 |_=>[]
theorem e36:gE W0 m0 S Q 36 48 T36 L36 [a0] A=(Wc Tp An W0 m0 11 [a0] A λt0 At0=>Aa (Bd Tp At0 37 t0) λt1=>Bm (T36 0) (T36 0) (S 0 [a0,(.slice none 0 0),t0,t1,(.int .i64 0)] At0)):=by kernel_rfl
theorem Adm:gL W0 m0 S Q 36 48 T36 L36 d 0 A=(Aa (Ai Tp .lss 3 (.tmp 14) (.tmp 13) (d 14) (d 13)) λt0=>Ah t0 (Aa (Ak Tp 37 (d 12) (d 14)) λt1=>Aa (Af Tp A 9 t1) λt2=>knW Tp W0 m0 88 [t2] A λt3 At3=>Aa (Ai Tp .eql 3 (.tmp 20) (.const (.int .i64 0)) t3 (.int .i64 0)) λt4=>Ah t4 (Aa (Ai Tp .add 3 (.tmp 14) (.const (.int .i64 1)) (d 14) (.int .i64 1)) λt5=>Bm (T36 0) (T36 0) (S 0 [(d 0),(d 4),(d 12),(d 13),t5] At3)) (Wc Tp An W0 m0 12 [(d 0),t2] At3 λt6 At6=>Aa (Ap t6 0) λt7=>Aa (Ap t6 1) λt8=>Aa (Ai Tp .neq 30 (.tmp 28) (.const (.int .i64 0)) t8 (.int .i64 0)) λt9=>Ah t9 (Q (.tuple ⟨[(.slice none 0 0),t8]⟩) At6) (Aa (Bp Tp 90 [(0,t3)]) λt10=>Au (Cz Tp At6 90) λt11 At11=>Bh (Az Tp At11 90 t11 t10) λAt12=>Wc Tp An W0 m0 89 [t7] At12 λt13 At13=>Aa (Ap t13 0) λt14=>Aa (Ap t13 1) λt15=>Aa (Ap t13 2) λt16=>Aa (Ad Tp 90 t11 1) λt17=>Bh (Az Tp At13 22 t17 t14) λAt18=>Aa (Ad Tp 90 t11 2) λt19=>Bh (Az Tp At18 3 t19 t15) λAt20=>Aa (Ad Tp 90 t11 3) λt21=>Bh (Az Tp At20 88 t21 t16) λAt22=>Aa (Af Tp At22 90 t11) λt23=>Au (Av Tp At22 77 1 [(0,t23)]) λt24 At24=>Au (AJ Tp At24 77 77 (d 4) t24) λt25 At25=>Aa (Ai Tp .add 3 (.tmp 14) (.const (.int .i64 1)) (d 14) (.int .i64 1)) λt26=>Bm (T36 0) (T36 0) (S 0 [(d 0),t25,(d 12),(d 13),t26] At25)))) (Q (.tuple ⟨[(d 4),(.int .i64 0)]⟩) A)):=by kernel_rfl
theorem w36:Wf1 36 48 T36 L36:=wf1 (λ_=>by kernel_rfl) (by decide) λ_=>rfl
theorem c36:DX 36 48 T36 L36:=D0 (by decide)
noncomputable def T37:Nat->List Item:=λi=>match i with
 |0=>[(.code (cd 37 [1,1,0,0,0])),(.inLoop (cd 37 [1,1,0,0,0])),(.inBlock 0),(.code (cd 37 [1,1,1]))]
 |2=>[(.code (cd 37 [1,1,1,1,1,0,1,0,0])),(.inLoop (cd 37 [1,1,1,1,1,0,1,0,0])),(.inBlock 2),(.code (cd 37 [1,1,1,1,1,1]))]
 |4=>[(.code (cd 37 [1,1,1,1,1,0,1,0,0,1,1,0,0,1,1,1,1,0,0])),(.inLoop (cd 37 [1,1,1,1,1,0,1,0,0,1,1,0,0,1,1,1,1,0,0])),(.inBlock 4),(.inBlock 3),(.code (cd 37 [1,1,1,1,1,0,1,0,0,1,1,1])),(.inLoop (cd 37 [1,1,1,1,1,0,1,0,0])),(.inBlock 2),(.code (cd 37 [1,1,1,1,1,1]))]
 |_=>[]
def L37:Nat->List Tmp:=λi=>match i with
 |0=>[0,5]
 |2=>[5,6,35,36,37]
 |4=>[5,6,7,35,36,37,71,72,73]
 |_=>[]
theorem e37:gE W0 m0 S Q 37 91 T37 L37 [a0] A=(Aa (Bd Tp A 77 a0) λt0=>Aa (Ai Tp .sub 3 (.tmp 13) (.const (.int .i64 1)) t0 (.int .i64 1)) λt1=>Bm (T37 0) (T37 0) (S 0 [a0,t1] A)):=by kernel_rfl
theorem Adl:gL W0 m0 S Q 37 91 T37 L37 d 0 A=(Aa (Ai Tp .geq 3 (.tmp 15) (.const (.int .i64 0)) (d 5) (.int .i64 0)) λt0=>Ah t0 (Aa (Ak Tp 77 (d 0) (d 5)) λt1=>Aa (Af Tp A 90 t1) λt2=>Wc Tp An W0 m0 90 [t2] A λt3 At3=>Aa (unA Tp .not t3) λt4=>Ah t4 (Aa (Ai Tp .sub 3 (.tmp 25) (.const (.int .i64 1)) (d 5) (.int .i64 1)) λt5=>Bm (T37 0) (T37 0) (S 0 [(d 0),t5] At3)) (Aa (Ai Tp .lss 3 (.tmp 27) (.const (.int .i64 0)) (d 5) (.int .i64 0)) λt6=>Ah t6 (Aa (Bd Tp At3 77 (d 0)) λt7=>Aa (Ai Tp .eql 3 (.tmp 30) (.const (.int .i64 0)) t7 (.int .i64 0)) λt8=>Q (.tuple ⟨[(.slice none 0 0),(.int .i64 0),t8]⟩) At3) (Aa (AP Tp At3 77 (d 0) (some (d 5)) none none) λt9=>Aa (Bd Tp At3 77 t9) λt10=>Bm (T37 2) (T37 2) (S 2 [(d 5),t9,t9,t10,(.int .i64 0)] At3)))) (Aa (Ai Tp .lss 3 (.tmp 27) (.const (.int .i64 0)) (d 5) (.int .i64 0)) λt11=>Ah t11 (Aa (Bd Tp A 77 (d 0)) λt12=>Aa (Ai Tp .eql 3 (.tmp 30) (.const (.int .i64 0)) t12 (.int .i64 0)) λt13=>Q (.tuple ⟨[(.slice none 0 0),(.int .i64 0),t13]⟩) A) (Aa (AP Tp A 77 (d 0) (some (d 5)) none none) λt14=>Aa (Bd Tp A 77 t14) λt15=>Bm (T37 2) (T37 2) (S 2 [(d 5),t14,t14,t15,(.int .i64 0)] A)))):=by kernel_rfl
theorem Adk:gL W0 m0 S Q 37 91 T37 L37 d 2 A=(Aa (Ai Tp .lss 3 (.tmp 37) (.tmp 36) (d 37) (d 36)) λt0=>Ah t0 (Aa (Ak Tp 77 (d 35) (d 37)) λt1=>Aa (Af Tp A 90 t1) λt2=>Au (Cz Tp A 90) λt3 At3=>Bh (Az Tp At3 90 t3 t2) λAt4=>Aa (Bd Tp At4 77 (d 6)) λt5=>Aa (Ai Tp .sub 3 (.tmp 44) (.const (.int .i64 1)) t5 (.int .i64 1)) λt6=>Aa (Ai Tp .eql 3 (.tmp 42) (.tmp 45) (d 37) t6) λt7=>Aa (Ad Tp 90 t3 0) λt8=>Aa (Af Tp At4 3 t8) λt9=>Aa (Ak Tp 77 (d 6) (.int .i64 0)) λt10=>Aa (Ad Tp 90 t10 0) λt11=>Aa (Af Tp At4 3 t11) λt12=>Aa (Ai Tp .add 3 (.tmp 52) (.tmp 53) t12 (d 37)) λt13=>Aa (Ai Tp .neq 3 (.tmp 48) (.tmp 54) t9 t13) λt14=>Ah t14 (Q (.tuple ⟨[(.slice none 0 0),(.int .i64 0),(.bool false)]⟩) At4) (Aa (unA Tp .not t7) λt15=>Ah t15 (Aa (Ad Tp 90 t3 3) λt16=>Aa (Af Tp At4 88 t16) λt17=>Aa (Ai Tp .neq 88 (.tmp 61) (.const (.int .u8 0)) t17 (.int .u8 0)) λt18=>Ah t18 (Q (.tuple ⟨[(.slice none 0 0),(.int .i64 0),(.bool false)]⟩) At4) (Aa (Ad Tp 90 t3 3) λt19=>Aa (Af Tp At4 88 t19) λt20=>Aa (Ai Tp .eql 88 (.tmp 67) (.const (.int .u8 2)) t20 (.int .u8 2)) λt21=>Ah t21 (Q (.tuple ⟨[(.slice none 0 0),(.int .i64 0),(.bool false)]⟩) At4) (Aa (Ad Tp 90 t3 1) λt22=>Aa (Af Tp At4 22 t22) λt23=>Aa (Bd Tp At4 22 t23) λt24=>Bm (T37 4) (T37 4) (S 4 [(d 5),(d 6),(d 37),(d 35),(d 36),(d 37),t23,t24,(.int .i64 0)] At4)))) (Aa (Ad Tp 90 t3 3) λt25=>Aa (Af Tp At4 88 t25) λt26=>Aa (Ai Tp .eql 88 (.tmp 67) (.const (.int .u8 2)) t26 (.int .u8 2)) λt27=>Ah t27 (Q (.tuple ⟨[(.slice none 0 0),(.int .i64 0),(.bool false)]⟩) At4) (Aa (Ad Tp 90 t3 1) λt28=>Aa (Af Tp At4 22 t28) λt29=>Aa (Bd Tp At4 22 t29) λt30=>Bm (T37 4) (T37 4) (S 4 [(d 5),(d 6),(d 37),(d 35),(d 36),(d 37),t29,t30,(.int .i64 0)] At4))))) (Q (.tuple ⟨[(d 6),(d 5),(.bool true)]⟩) A)):=by kernel_rfl
theorem Adj:gL W0 m0 S Q 37 91 T37 L37 d 4 A=(Aa (Ai Tp .lss 3 (.tmp 73) (.tmp 72) (d 73) (d 72)) λt0=>Ah t0 (Aa (Ak Tp 22 (d 71) (d 73)) λt1=>Aa (Af Tp A 35 t1) λt2=>Au (Cz Tp A 35) λt3 At3=>Bh (Az Tp At3 35 t3 t2) λAt4=>Aa (Ad Tp 35 t3 0) λt5=>Aa (Af Tp At4 5 t5) λt6=>Aa (Ai Tp .eql 5 (.tmp 79) (.const (.int .u8 0)) t6 (.int .u8 0)) λt7=>Ah t7 (Aa (Ai Tp .add 3 (.tmp 82) (.tmp 83) (d 7) (d 73)) λt8=>Aa (Ai Tp .gtr 3 (.tmp 84) (.const (.int .i64 0)) t8 (.int .i64 0)) λt9=>Ah t9 (Q (.tuple ⟨[(.slice none 0 0),(.int .i64 0),(.bool false)]⟩) At4) (Aa (Ai Tp .add 3 (.tmp 73) (.const (.int .i64 1)) (d 73) (.int .i64 1)) λt10=>Bm (T37 4) (T37 4) (S 4 [(d 5),(d 6),(d 7),(d 35),(d 36),(d 37),(d 71),(d 72),t10] At4))) (Aa (Ai Tp .add 3 (.tmp 73) (.const (.int .i64 1)) (d 73) (.int .i64 1)) λt11=>Bm (T37 4) (T37 4) (S 4 [(d 5),(d 6),(d 7),(d 35),(d 36),(d 37),(d 71),(d 72),t11] At4))) (Aa (Ai Tp .add 3 (.tmp 37) (.const (.int .i64 1)) (d 37) (.int .i64 1)) λt12=>Bm (T37 2) (T37 2) (S 2 [(d 5),(d 6),(d 35),(d 36),t12] A))):=by kernel_rfl
theorem w37:Wf1 37 91 T37 L37:=wf1 (λ_=>by kernel_rfl) (by decide) λ_=>rfl
theorem c37:DX 37 91 T37 L37:=D0 (by decide)
theorem e38:gE W0 m0 S Q 38 9 Tz Lz [a0,a1] A=(Wc Tp An W0 m0 91 [a0,a1] A λt0 At0=>Aa (Ai Tp .geq 3 (.tmp 7) (.const (.int .i64 0)) t0 (.int .i64 0)) λt1=>Q t1 At0):=by kernel_rfl
theorem w38:Wf2 38 9 Tz Lz:=wf2 (λ_ _=>by kernel_rfl) (by decide) λ_ _=>rfl
noncomputable def T91:Nat->List Item:=λi=>match i with
 |0=>[(.code (cd 91 [1,0,1,0,0])),(.inLoop (cd 91 [1,0,1,0,0])),(.inBlock 0),(.code (cd 91 [1,1]))]
 |_=>[]
def L91:Nat->List Tmp:=λi=>match i with
 |0=>[0,1,7,8]
 |_=>[]
theorem e91:gE W0 m0 S Q 91 19 T91 L91 [a0,a1] A=(Aa (Bd Tp A 37 a0) λt0=>Bm (T91 0) (T91 0) (S 0 [a0,a1,t0,(.int .i64 0)] A)):=by kernel_rfl
theorem Ac1:gL W0 m0 S Q 91 19 T91 L91 d 0 A=(Aa (Ai Tp .lss 3 (.tmp 8) (.tmp 7) (d 8) (d 7)) λt0=>Ah t0 (Aa (Ak Tp 37 (d 0) (d 8)) λt1=>Aa (Af Tp A 9 t1) λt2=>Aa (Ai Tp .eql 9 (.tmp 11) (.tmp 15) (d 1) t2) λt3=>Ah t3 (Q (d 8) A) (Aa (Ai Tp .add 3 (.tmp 8) (.const (.int .i64 1)) (d 8) (.int .i64 1)) λt4=>Bm (T91 0) (T91 0) (S 0 [(d 0),(d 1),(d 7),t4] A))) (Q (.int .i64 (-1)) A)):=by kernel_rfl
theorem w91:Wf2 91 19 T91 L91:=wf2 (λ_ _=>by kernel_rfl) (by decide) λ_ _=>rfl
theorem c91:DX 91 19 T91 L91:=D0 (by decide)
theorem e39:gE W0 m0 S Q 39 4 Tz Lz [a0] A=(Aa (Af Tp A 27 a0) λt0=>Wc Tp An W0 m0 40 [t0,(.string ⟨⟨[106,46,110,101,119]⟩⟩)] A λt1 At1=>Q t1 At1):=by kernel_rfl
theorem w39:Wf1 39 4 Tz Lz:=wf1 (λ_=>by kernel_rfl) (by decide) λ_=>rfl
theorem e40:gE W0 m0 S Q 40 27 Tz Lz [a0,a1] A=(Au (DF A (Value.cells a0).toList 27) λt0 At0=>Au (DF At0 (Value.cells a1).toList 9) λt1 At1=>Aa (Af Tp At1 27 t0) λt2=>Wc Tp An W0 m0 62 [t2] At1 λt3 At3=>Aa (Ai Tp .neq 30 (.tmp 10) (.const (.int .i64 0)) t3 (.int .i64 0)) λt4=>Ah t4 (Q t3 At3) (Au (Cz Tp At3 100) λt5 At5=>Dq (BQ Tp (λ_=>undef) (.alloc 100)) At5 t5 (Aa (Af Tp At5 27 t0) λt6=>Aa (AD t6) λt7=>Aa (Ad Tp 76 t7 0) λt8=>Aa (Af Tp At5 74 t8) λt9=>Aa (Af Tp At5 9 t1) λt10=>Aa (Dl Tp At5 74 t9 t10 true) λt11=>Aa (Ap t11 0) λt12=>Aa (Ap t11 1) λt13=>Bh (Az Tp At5 100 t5 t12) λAt14=>Aa (Ap t11 1) λt15=>eqW t15 t13 (Aa (unA Tp .not t13) λt16=>Ah t16 (Q (.int .i64 7) At14) (Aa (Af Tp At14 27 t0) λt17=>Wc Tp An W0 m0 65 [t17,(.func (.func 92) ⟨[]⟩ ⟨[t0,t1]⟩),(.bool false)] At14 λt18 At18=>Q t18 At18))))):=by kernel_rfl
theorem w40:Wf2 40 27 Tz Lz:=wf2 (λ_ _=>by kernel_rfl) (by decide) λ_ _=>rfl
theorem e41:gE W0 m0 S Q 41 13 Tz Lz [a0] A=(Aa (Bp Tp 35 [(1,a0)]) λt0=>Au (Av Tp A 22 1 [(0,t0)]) λt1 At1=>Wc Tp An W0 m0 55 [t1] At1 λt2 At2=>Aa (Ap t2 0) λt3=>Aa (Ap t2 1) λt4=>Q t3 At2):=by kernel_rfl
theorem w41:Wf1 41 13 Tz Lz:=wf1 (λ_=>by kernel_rfl) (by decide) λ_=>rfl
theorem e42:gE W0 m0 S Q 42 5 Tz Lz [a0] A=(Aa (Af Tp A 27 a0) λt0=>Wc Tp An W0 m0 41 [(.string ⟨⟨[]⟩⟩)] A λt1 At1=>Aa (Af Tp At1 27 a0) λt2=>eqW t2 t0 (Wc Tp An W0 m0 13 [t0,(.string ⟨⟨[106,46,110,101,119]⟩⟩),t1] At1 λt3 At3=>Q t3 At3)):=by kernel_rfl
theorem w42:Wf1 42 5 Tz Lz:=wf1 (λ_=>by kernel_rfl) (by decide) λ_=>rfl
theorem e43:gE W0 m0 S Q 43 4 Tz Lz [a0] A=(Aa (Af Tp A 27 a0) λt0=>Wc Tp An W0 m0 44 [t0,(.string ⟨⟨[106,46,110,101,119]⟩⟩)] A λt1 At1=>Q t1 At1):=by kernel_rfl
theorem w43:Wf1 43 4 Tz Lz:=wf1 (λ_=>by kernel_rfl) (by decide) λ_=>rfl
theorem e44:gE W0 m0 S Q 44 27 Tz Lz [a0,a1] A=(Au (DF A (Value.cells a0).toList 27) λt0 At0=>Au (DF At0 (Value.cells a1).toList 9) λt1 At1=>Aa (Af Tp At1 27 t0) λt2=>Wc Tp An W0 m0 62 [t2] At1 λt3 At3=>Aa (Ai Tp .neq 30 (.tmp 10) (.const (.int .i64 0)) t3 (.int .i64 0)) λt4=>Ah t4 (Q t3 At3) (Au (Cz Tp At3 100) λt5 At5=>Dq (BQ Tp (λ_=>undef) (.alloc 100)) At5 t5 (Aa (Af Tp At5 27 t0) λt6=>Aa (AD t6) λt7=>Aa (Ad Tp 76 t7 0) λt8=>Aa (Af Tp At5 74 t8) λt9=>Aa (Af Tp At5 9 t1) λt10=>Aa (Dl Tp At5 74 t9 t10 true) λt11=>Aa (Ap t11 0) λt12=>Aa (Ap t11 1) λt13=>Bh (Az Tp At5 100 t5 t12) λAt14=>Aa (Ap t11 1) λt15=>eqW t15 t13 (Aa (unA Tp .not t13) λt16=>Ah t16 (Q (.int .i64 7) At14) (Aa (Af Tp At14 27 t0) λt17=>Wc Tp An W0 m0 65 [t17,(.func (.func 93) ⟨[]⟩ ⟨[t5,t0,t1]⟩),(.bool false)] At14 λt18 At18=>Q t18 At18))))):=by kernel_rfl
theorem w44:Wf2 44 27 Tz Lz:=wf2 (λ_ _=>by kernel_rfl) (by decide) λ_ _=>rfl
theorem e45:gE W0 m0 S Q 45 5 Tz Lz [a0] A=(Aa (Af Tp A 27 a0) λt0=>knW Tp W0 m0 47 [(.int .i64 1)] A λt1 At1=>Aa (Af Tp At1 27 a0) λt2=>eqW t2 t0 (Wc Tp An W0 m0 46 [t0,(.string ⟨⟨[106,46,110,101,119]⟩⟩),t1] At1 λt3 At3=>Q t3 At3)):=by kernel_rfl
theorem w45:Wf1 45 5 Tz Lz:=wf1 (λ_=>by kernel_rfl) (by decide) λ_=>rfl
theorem e46:gE W0 m0 S Q 46 37 Tz Lz [a0,a1,a2] A=(Au (DF A (Value.cells a0).toList 27) λt0 At0=>Au (DF At0 (Value.cells a1).toList 9) λt1 At1=>Au (DF At1 (Value.cells a2).toList 9) λt2 At2=>Aa (Af Tp At2 27 t0) λt3=>Wc Tp An W0 m0 62 [t3] At2 λt4 At4=>Aa (Ai Tp .neq 30 (.tmp 12) (.const (.int .i64 0)) t4 (.int .i64 0)) λt5=>Ah t5 (Q t4 At4) (Aa (Af Tp At4 9 t1) λt6=>Wc Tp An W0 m0 63 [t6] At4 λt7 At7=>Aa (unA Tp .not t7) λt8=>Ah t8 (Q (.int .i64 2) At7) (Aa (Af Tp At7 9 t2) λt9=>Wc Tp An W0 m0 63 [t9] At7 λt10 At10=>Aa (unA Tp .not t10) λt11=>Ah t11 (Q (.int .i64 2) At10) (Au (Cz Tp At10 100) λt12 At12=>Dq (BQ Tp (λ_=>undef) (.alloc 100)) At12 t12 (Aa (Af Tp At12 27 t0) λt13=>Aa (AD t13) λt14=>Aa (Ad Tp 76 t14 0) λt15=>Aa (Af Tp At12 74 t15) λt16=>Aa (Af Tp At12 9 t1) λt17=>Aa (Dl Tp At12 74 t16 t17 true) λt18=>Aa (Ap t18 0) λt19=>Aa (Ap t18 1) λt20=>Bh (Az Tp At12 100 t12 t19) λAt21=>Aa (Ap t18 1) λt22=>eqW t22 t20 (Aa (unA Tp .not t20) λt23=>Ah t23 (Q (.int .i64 7) At21) (Aa (Af Tp At21 27 t0) λt24=>Wc Tp An W0 m0 65 [t24,(.func (.func 94) ⟨[]⟩ ⟨[t0,t1,t12,t2]⟩),(.bool false)] At21 λt25 At25=>Q t25 At25))))))):=by kernel_rfl
theorem w46:Wf3 46 37 Tz Lz:=wf3 (λ_ _ _=>by kernel_rfl) (by decide) λ_ _ _=>rfl
theorem e48:gE W0 m0 S Q 48 8 Tz Lz [a0,a1] A=(Aa (Af Tp A 27 a0) λt0=>Aa (Ad Tp 90 a1 0) λt1=>Aa (Af Tp A 3 t1) λt2=>knW Tp W0 m0 47 [t2] A λt3 At3=>Aa (Af Tp At3 27 a0) λt4=>eqW t4 t0 (Wc Tp An W0 m0 40 [t0,t3] At3 λt5 At5=>Q t5 At5)):=by kernel_rfl
theorem w48:Wf2 48 8 Tz Lz:=wf2 (λ_ _=>by kernel_rfl) (by decide) λ_ _=>rfl
theorem e49:gE W0 m0 S Q 49 10 Tz Lz [a0,a1] A=(Aa (Af Tp A 27 a0) λt0=>Aa (Ad Tp 90 a1 0) λt1=>Aa (Af Tp A 3 t1) λt2=>Aa (Ad Tp 90 a1 2) λt3=>Aa (Af Tp A 3 t3) λt4=>knW Tp W0 m0 47 [t2] A λt5 At5=>Aa (Af Tp At5 3 t3) λt6=>eqW t6 t4 (Aa (Ad Tp 90 a1 2) λt7=>eqW t7 t3 (Aa (Af Tp At5 27 a0) λt8=>eqW t8 t0 (Wc Tp An W0 m0 50 [t0,t5,t4] At5 λt9 At9=>Q t9 At9)))):=by kernel_rfl
theorem w49:Wf2 49 10 Tz Lz:=wf2 (λ_ _=>by kernel_rfl) (by decide) λ_ _=>rfl
theorem e50:gE W0 m0 S Q 50 39 Tz Lz [a0,a1,a2] A=(Au (DF A (Value.cells a0).toList 27) λt0 At0=>Au (DF At0 (Value.cells a1).toList 9) λt1 At1=>Au (DF At1 (Value.cells a2).toList 3) λt2 At2=>Aa (Af Tp At2 27 t0) λt3=>Wc Tp An W0 m0 62 [t3] At2 λt4 At4=>Aa (Ai Tp .neq 30 (.tmp 12) (.const (.int .i64 0)) t4 (.int .i64 0)) λt5=>Ah t5 (Q t4 At4) (Au (Cz Tp At4 100) λt6 At6=>Dq (BQ Tp (λ_=>undef) (.alloc 100)) At6 t6 (Aa (Af Tp At6 27 t0) λt7=>Aa (AD t7) λt8=>Aa (Ad Tp 76 t8 0) λt9=>Aa (Af Tp At6 74 t9) λt10=>Aa (Af Tp At6 9 t1) λt11=>Aa (Dl Tp At6 74 t10 t11 true) λt12=>Aa (Ap t12 0) λt13=>Aa (Ap t12 1) λt14=>Bh (Az Tp At6 100 t6 t13) λAt15=>Aa (Ap t12 1) λt16=>eqW t16 t14 (Aa (Af Tp At15 3 t2) λt17=>Aa (Ai Tp .lss 3 (.tmp 25) (.const (.int .i64 0)) t17 (.int .i64 0)) λt18=>Ah t18 (Q (.int .i64 2) At15) (Aa (unA Tp .not t14) λt19=>Ah t19 (Q (.int .i64 7) At15) (Aa (Af Tp At15 3 t2) λt20=>Aa (Ad Tp 100 t6 0) λt21=>Aa (Af Tp At15 9 t21) λt22=>Aa (Bd Tp At15 9 t22) λt23=>Aa (Ai Tp .gtr 3 (.tmp 31) (.tmp 34) t20 t23) λt24=>Ah t24 (Q (.int .i64 2) At15) (Aa (Af Tp At15 27 t0) λt25=>Wc Tp An W0 m0 65 [t25,(.func (.func 98) ⟨[]⟩ ⟨[t6,t2,t0,t1]⟩),(.bool false)] At15 λt26 At26=>Q t26 At26))))))):=by kernel_rfl
theorem w50:Wf3 50 39 Tz Lz:=wf3 (λ_ _ _=>by kernel_rfl) (by decide) λ_ _ _=>rfl
theorem e51:gE W0 m0 S Q 51 8 Tz Lz [a0,a1] A=(Aa (Af Tp A 27 a0) λt0=>Aa (Ad Tp 90 a1 0) λt1=>Aa (Af Tp A 3 t1) λt2=>knW Tp W0 m0 47 [t2] A λt3 At3=>Aa (Af Tp At3 27 a0) λt4=>eqW t4 t0 (Wc Tp An W0 m0 44 [t0,t3] At3 λt5 At5=>Q t5 At5)):=by kernel_rfl
theorem w51:Wf2 51 8 Tz Lz:=wf2 (λ_ _=>by kernel_rfl) (by decide) λ_ _=>rfl
theorem e52:gE W0 m0 S Q 52 8 Tz Lz [a0] A=(Aa (Ai Tp .eql 22 (.tmp 3) (.const (.slice none 0 0)) a0 (.slice none 0 0)) λt0=>Ah t0 (Q (.slice none 0 0) A) (Au (Av Tp A 22 0 []) λt1 At1=>Au (AJ Tp At1 22 22 t1 a0) λt2 At2=>Q t2 At2)):=by kernel_rfl
theorem w52:Wf1 52 8 Tz Lz:=wf1 (λ_=>by kernel_rfl) (by decide) λ_=>rfl
theorem e53:gE W0 m0 S Q 53 12 Tz Lz [a0] A=(Aa (Ai Tp .neq 29 (.tmp 3) (.const (.pointer none)) a0 (.pointer none)) λt0=>Ah t0 (Aa (AD a0) λt1=>Aa (Ad Tp 83 t1 0) λt2=>Aa (Af Tp A 27 t2) λt3=>Aa (Ai Tp .neq 27 (.tmp 9) (.const (.pointer none)) t3 (.pointer none)) λt4=>Q t4 A) (Q (.bool false) A)):=by kernel_rfl
theorem w53:Wf1 53 12 Tz Lz:=wf1 (λ_=>by kernel_rfl) (by decide) λ_=>rfl
theorem e54:gE W0 m0 S Q 54 7 Tz Lz [a0] A=(Aa (AD a0) λt0=>Aa (Ad Tp 83 t0 7) λt1=>Aa (Af Tp A 4 t1) λt2=>Ah t2 (Q (.int .i64 100) A) (Q (.int .i64 0) A)):=by kernel_rfl
theorem w54:Wf1 54 7 Tz Lz:=wf1 (λ_=>by kernel_rfl) (by decide) λ_=>rfl
noncomputable def T55:Nat->List Item:=λi=>match i with
 |0=>[(.code (cd 55 [1,1,0,1,0,0])),(.inLoop (cd 55 [1,1,0,1,0,0])),(.inBlock 0),(.code (cd 55 [1,1,1]))]
 |_=>[]
def L55:Nat->List Tmp:=λi=>match i with
 |0=>[4,7,8,9]
 |_=>[]
theorem e55:gE W0 m0 S Q 55 37 T55 L55 [a0] A=(Aa (Bd Tp A 22 a0) λt0=>Bm (T55 0) (T55 0) (S 0 [(.slice none 0 0),a0,t0,(.int .i64 0)] A)):=by kernel_rfl
theorem Adi:gL W0 m0 S Q 55 37 T55 L55 d 0 A=(Aa (Ai Tp .lss 3 (.tmp 9) (.tmp 8) (d 9) (d 8)) λt0=>Ah t0 (Aa (Ak Tp 22 (d 7) (d 9)) λt1=>Aa (Af Tp A 35 t1) λt2=>Au (Cz Tp A 35) λt3 At3=>Bh (Az Tp At3 35 t3 t2) λAt4=>Aa (Ad Tp 35 t3 1) λt5=>Aa (Af Tp At4 9 t5) λt6=>Aa (Bd Tp At4 9 t6) λt7=>Aa (Ai Tp .gtr 3 (.tmp 15) (.const (.int .i64 65536)) t7 (.int .i64 65536)) λt8=>Ah t8 (Q (.tuple ⟨[(.string ⟨⟨[]⟩⟩),(.int .i64 3)]⟩) At4) (Aa (Ad Tp 35 t3 0) λt9=>Aa (Af Tp At4 5 t9) λt10=>Au (Av Tp At4 41 1 [(0,t10)]) λt11 At11=>Aa (Ad Tp 35 t3 1) λt12=>Aa (Af Tp At11 9 t12) λt13=>Aa (Bd Tp At11 9 t13) λt14=>Au (AX Tp At11 3 134 t14) λt15 At15=>Wc Tp An W0 m0 100 [t11,t15,(.int .i64 4)] At15 λt16 At16=>Wc Tp An W0 m0 99 [t16] At16 λt17 At17=>Au (AJ Tp At17 41 41 (d 4) t17) λt18 At18=>Aa (Ad Tp 35 t3 1) λt19=>Aa (Af Tp At18 9 t19) λt20=>Au (AX Tp At18 9 41 t20) λt21 At21=>Wc Tp An W0 m0 99 [t21] At21 λt22 At22=>Au (AJ Tp At22 41 41 t18 t22) λt23 At23=>Aa (Ai Tp .add 3 (.tmp 9) (.const (.int .i64 1)) (d 9) (.int .i64 1)) λt24=>Bm (T55 0) (T55 0) (S 0 [t23,(d 7),(d 8),t24] At23))) (Au (AX Tp A 41 9 (d 4)) λt25 At25=>Q (.tuple ⟨[t25,(.int .i64 0)]⟩) At25)):=by kernel_rfl
theorem w55:Wf1 55 37 T55 L55:=wf1 (λ_=>by kernel_rfl) (by decide) λ_=>rfl
theorem c55:DX 55 37 T55 L55:=D0 (by decide)
theorem e56:gE W0 m0 S Q 56 15 Tz Lz [a0] A=(Aa (AD a0) λt0=>Aa (Ad Tp 83 t0 4) λt1=>Aa (Af Tp A 46 t1) λt2=>Aa (AD a0) λt3=>Aa (Ad Tp 83 t3 4) λt4=>Aa (Af Tp A 46 t4) λt5=>Aa (Bd Tp A 46 t5) λt6=>Aa (Ai Tp .sub 3 (.tmp 11) (.const (.int .i64 1)) t6 (.int .i64 1)) λt7=>Aa (Ak Tp 46 t2 t7) λt8=>Aa (Af Tp A 3 t8) λt9=>Q t9 A):=by kernel_rfl
theorem w56:Wf1 56 15 Tz Lz:=wf1 (λ_=>by kernel_rfl) (by decide) λ_=>rfl
theorem e57:gE W0 m0 S Q 57 17 Tz Lz [a0,a1] A=(Aa (AD a0) λt0=>Aa (Ad Tp 83 t0 7) λt1=>Aa (Af Tp A 4 t1) λt2=>Ah t2 (Aa (AD a0) λt3=>Aa (Ad Tp 83 t3 7) λt4=>Bh (Az Tp A 4 t4 (.bool true)) λAt5=>Q a1 At5) (Aa (Ai Tp .eql 30 (.tmp 11) (.const (.int .i64 100)) a1 (.int .i64 100)) λt6=>Aa (AD a0) λt7=>Aa (Ad Tp 83 t7 7) λt8=>Bh (Az Tp A 4 t8 t6) λAt9=>Q a1 At9)):=by kernel_rfl
theorem w57:Wf2 57 17 Tz Lz:=wf2 (λ_ _=>by kernel_rfl) (by decide) λ_ _=>rfl
theorem e58:gE W0 m0 S Q 58 12 Tz Lz [a0] A=(Aa (Ai Tp .neq 27 (.tmp 3) (.const (.pointer none)) a0 (.pointer none)) λt0=>Ah t0 (Aa (AD a0) λt1=>Aa (Ad Tp 76 t1 0) λt2=>Aa (Af Tp A 74 t2) λt3=>Aa (Ai Tp .neq 74 (.tmp 9) (.const (.map none)) t3 (.map none)) λt4=>Q t4 A) (Q (.bool false) A)):=by kernel_rfl
theorem w58:Wf1 58 12 Tz Lz:=wf1 (λ_=>by kernel_rfl) (by decide) λ_=>rfl
theorem e59:gE W0 m0 S Q 59 9 Tz Lz [a0] A=(Wc Tp An W0 m0 101 [a0] A λt0 At0=>knW Tp W0 m0 102 [t0] At0 λt1 At1=>Q t0 At1):=by kernel_rfl
theorem w59:Wf1 59 9 Tz Lz:=wf1 (λ_=>by kernel_rfl) (by decide) λ_=>rfl
theorem e60:gE W0 m0 S Q 60 4 Tz Lz [a0] A=(Au (DF A (Value.cells a0).toList 74) λt0 At0=>Q (.func (.func 103) ⟨[]⟩ ⟨[t0]⟩) At0):=by kernel_rfl
theorem w60:Wf1 60 4 Tz Lz:=wf1 (λ_=>by kernel_rfl) (by decide) λ_=>rfl
theorem e61:gE W0 m0 S Q 61 28 Tz Lz [a0,a1] A=(Au (Cz Tp A 100) λt0 At0=>Wc Tp An W0 m0 62 [a0] At0 λt1 At1=>Aa (Ai Tp .neq 30 (.tmp 11) (.const (.int .i64 0)) t1 (.int .i64 0)) λt2=>Ah t2 (Aa (Bp Tp 100 []) λt3=>Bh (Az Tp At1 100 t0 t3) λAt4=>Aa (Af Tp At4 100 t0) λt5=>Q (.tuple ⟨[t5,t1]⟩) At4) (Aa (AD a0) λt6=>Aa (Ad Tp 76 t6 0) λt7=>Aa (Af Tp At1 74 t7) λt8=>Aa (Dl Tp At1 74 t8 a1 true) λt9=>Aa (Ap t9 0) λt10=>Aa (Ap t9 1) λt11=>Au (Cz Tp At1 100) λt12 At12=>Bh (Az Tp At12 100 t12 t10) λAt13=>Aa (unA Tp .not t11) λt14=>Ah t14 (Aa (Bp Tp 100 []) λt15=>Bh (Az Tp At13 100 t0 t15) λAt16=>Aa (Af Tp At16 100 t0) λt17=>Q (.tuple ⟨[t17,(.int .i64 7)]⟩) At16) (Aa (Af Tp At13 100 t12) λt18=>Bh (Az Tp At13 100 t0 t18) λAt19=>Aa (Af Tp At19 100 t0) λt20=>Q (.tuple ⟨[t20,(.int .i64 0)]⟩) At19))):=by kernel_rfl
theorem w61:Wf2 61 28 Tz Lz:=wf2 (λ_ _=>by kernel_rfl) (by decide) λ_ _=>rfl
theorem e62:gE W0 m0 S Q 62 10 Tz Lz [a0] A=(Wc Tp An W0 m0 58 [a0] A λt0 At0=>Aa (unA Tp .not t0) λt1=>Ah t1 (Q (.int .i64 1) At0) (Aa (AD a0) λt2=>Aa (Ad Tp 76 t2 3) λt3=>Aa (Af Tp At0 4 t3) λt4=>Ah t4 (Q (.int .i64 100) At0) (Q (.int .i64 0) At0))):=by kernel_rfl
theorem w62:Wf1 62 10 Tz Lz:=wf1 (λ_=>by kernel_rfl) (by decide) λ_=>rfl
noncomputable def T63:Nat->List Item:=λi=>match i with
 |0=>[(.code (cd 63 [1,1,0,1,0,0])),(.inLoop (cd 63 [1,1,0,1,0,0])),(.inBlock 0),(.code (cd 63 [1,1,1]))]
 |_=>[]
def L63:Nat->List Tmp:=λi=>match i with
 |0=>[0,12,13]
 |_=>[]
theorem e63:gE W0 m0 S Q 63 27 T63 L63 [a0] A=(Aa (Ai Tp .eql 9 (.tmp 4) (.const (.string ⟨⟨[]⟩⟩)) a0 (.string ⟨⟨[]⟩⟩)) λt0=>Ah t0 (Q (.bool false) A) (Aa (Bd Tp A 9 a0) λt1=>Aa (Ai Tp .gtr 3 (.tmp 8) (.const (.int .i64 40)) t1 (.int .i64 40)) λt2=>Ah t2 (Q (.bool false) A) (Aa (Bd Tp A 9 a0) λt3=>Bm (T63 0) (T63 0) (S 0 [a0,t3,(.int .i64 0)] A)))):=by kernel_rfl
theorem Adh:gL W0 m0 S Q 63 27 T63 L63 d 0 A=(Aa (Ai Tp .lss 3 (.tmp 13) (.tmp 12) (d 13) (d 12)) λt0=>Ah t0 (Aa (DU Tp 9 (d 0) (d 13)) λt1=>Aa (Ai Tp .lss 5 (.tmp 18) (.const (.int .u8 33)) t1 (.int .u8 33)) λt2=>Ah t2 (Q (.bool false) A) (Aa (DU Tp 9 (d 0) (d 13)) λt3=>Aa (Ai Tp .gtr 5 (.tmp 23) (.const (.int .u8 126)) t3 (.int .u8 126)) λt4=>Ah t4 (Q (.bool false) A) (Aa (Ai Tp .add 3 (.tmp 13) (.const (.int .i64 1)) (d 13) (.int .i64 1)) λt5=>Bm (T63 0) (T63 0) (S 0 [(d 0),(d 12),t5] A)))) (Q (.bool true) A)):=by kernel_rfl
theorem w63:Wf1 63 27 T63 L63:=wf1 (λ_=>by kernel_rfl) (by decide) λ_=>rfl
theorem c63:DX 63 27 T63 L63:=D0 (by decide)
noncomputable def T64:Nat->List Item:=λi=>match i with
 |0=>[(.code (cd 64 [1,1,0,1,0,1,0,0])),(.inLoop (cd 64 [1,1,0,1,0,1,0,0])),(.inBlock 0),(.code (cd 64 [1,1,1]))]
 |_=>[]
def L64:Nat->List Tmp:=λi=>match i with
 |0=>[3,12]
 |_=>[]
theorem e64:gE W0 m0 S Q 64 23 T64 L64 [a0] A=(Wc Tp An W0 m0 58 [a0] A λt0 At0=>Ah t0 (Aa (AD a0) λt1=>Aa (Ad Tp 76 t1 0) λt2=>Aa (Af Tp At0 74 t2) λt3=>anW Tp An W0 m0 (P2 Tp At0 74 t3) λt4 At4=>Bm (T64 0) (T64 0) (S 0 [(.int .i64 0),t4] At4)) (Q (.int .i64 0) At0)):=by kernel_rfl
theorem Adg:gL W0 m0 S Q 64 23 T64 L64 d 0 A=(anW Tp An W0 m0 (Mv A (d 12) false) λt0 At0=>Aa (Ap t0 0) λt1=>Ah t1 (anW Tp An W0 m0 (Qt At0 (d 12)) λt2 At2=>Aa (Ap t2 1) λt3=>Au (Cz Tp At2 100) λt4 At4=>Bh (Az Tp At4 100 t4 t3) λAt5=>Aa (Ad Tp 100 t4 0) λt6=>Aa (Af Tp At5 9 t6) λt7=>Aa (Bd Tp At5 9 t7) λt8=>Aa (Ai Tp .add 3 (.tmp 17) (.tmp 20) (d 3) t8) λt9=>Bm (T64 0) (T64 0) (S 0 [t9,(d 12)] At5)) (Q (d 3) At0)):=by kernel_rfl
theorem w64:Wf1 64 23 T64 L64:=wf1 (λ_=>by kernel_rfl) (by decide) λ_=>rfl
theorem c64:DX 64 23 T64 L64:=D0 (by decide)
theorem e65:gE W0 m0 S Q 65 32 Tz Lz [a0,a1,a2] A=(Aa (AD a0) λt0=>Aa (Ad Tp 76 t0 2) λt1=>Aa (Af Tp A 3 t1) λt2=>Aa (Ai Tp .gtr 3 (.tmp 10) (.const (.int .i64 0)) t2 (.int .i64 0)) λt3=>Ah t3 (Aa (AD a0) λt4=>Aa (Ad Tp 76 t4 2) λt5=>Aa (Af Tp A 3 t5) λt6=>Aa (Ai Tp .sub 3 (.tmp 15) (.const (.int .i64 1)) t6 (.int .i64 1)) λt7=>Aa (AD a0) λt8=>Aa (Ad Tp 76 t8 2) λt9=>Bh (Az Tp A 3 t9 t7) λAt10=>Aa (AD a0) λt11=>Aa (Ad Tp 76 t11 2) λt12=>Aa (Af Tp At10 3 t12) λt13=>Aa (Ai Tp .eql 3 (.tmp 22) (.const (.int .i64 0)) t13 (.int .i64 0)) λt14=>Ah t14 (Ah a2 (anW Tp An W0 m0 (Fi Tp At10 a1 []) λt15 At15=>Aa (AD a0) λt16=>Aa (Ad Tp 76 t16 3) λt17=>Bh (Az Tp At15 4 t17 (.bool true)) λAt18=>Q (.int .i64 100) At18) (Aa (AD a0) λt19=>Aa (Ad Tp 76 t19 3) λt20=>Bh (Az Tp At10 4 t20 (.bool true)) λAt21=>Q (.int .i64 100) At21)) (anW Tp An W0 m0 (Fi Tp At10 a1 []) λt22 At22=>Q (.int .i64 0) At22)) (anW Tp An W0 m0 (Fi Tp A a1 []) λt23 At23=>Q (.int .i64 0) At23)):=by kernel_rfl
theorem w65:Wf3 65 32 Tz Lz:=wf3 (λ_ _ _=>by kernel_rfl) (by decide) λ_ _ _=>rfl
theorem e66:gE W0 m0 S Q 66 16 Tz Lz [a0,a1,a2,a3] A=(Aa (Af Tp A 27 a2) λt0=>Aa (AD t0) λt1=>Aa (Ad Tp 76 t1 0) λt2=>Aa (Af Tp A 74 t2) λt3=>Aa (Af Tp A 9 a3) λt4=>Aa (Ad Tp 100 a0 0) λt5=>Aa (Af Tp A 9 t5) λt6=>Aa (Af Tp A 9 a1) λt7=>Aa (Ai Tp .add 9 (.tmp 10) (.tmp 11) t6 t7) λt8=>Aa (Ad Tp 100 a0 1) λt9=>Aa (Af Tp A 3 t9) λt10=>Aa (Bp Tp 100 [(0,t8),(1,t10)]) λt11=>Bh (CC Tp A 74 t3 t4 t11) λAt12=>Q (.tuple ⟨[]⟩) At12):=by kernel_rfl
theorem w66:Wf4 66 16 Tz Lz:=wf4 (λ_ _ _ _=>by kernel_rfl) (by decide) λ_ _ _ _=>rfl
noncomputable def T89:Nat->List Item:=λi=>match i with
 |0=>[(.code (cd 89 [1,0,1,1,1,1,0,0,0])),(.inLoop (cd 89 [1,0,1,1,1,1,0,0,0])),(.inBlock 0),(.code (cd 89 [1,0,1,1,1,1,1])),(.inScope (cd 89 [1,0]))]
 |_=>[]
def L89:Nat->List Tmp:=λi=>match i with
 |0=>[0,5,6,7]
 |_=>[]
theorem e89:gE W0 m0 S Q 89 79 T89 L89 [a0] A=(Bm (T89 0) (T89 0) (S 0 [a0,(.slice none 0 0),(.int .i64 0),(.int .u8 0)] A)):=by kernel_rfl
theorem Ac2:gL W0 m0 S Q 89 79 T89 L89 d 0 A=(Aa (AP Tp A 9 (d 0) (some (d 6)) none none) λt0=>Aa (Ai Tp .eql 9 (.tmp 19) (.const (.string ⟨⟨[]⟩⟩)) t0 (.string ⟨⟨[]⟩⟩)) λt1=>Ah t1 (Q (.tuple ⟨[(d 5),(d 6),(d 7)]⟩) A) (Aa (Bd Tp A 9 t0) λt2=>Aa (Ai Tp .lss 3 (.tmp 23) (.const (.int .i64 9)) t2 (.int .i64 9)) λt3=>Ah t3 (Q (.tuple ⟨[(d 5),(d 6),(.int .u8 1)]⟩) A) (Aa (AP Tp A 9 t0 none (some (.int .i64 9)) none) λt4=>Au (AX Tp A 9 41 t4) λt5 At5=>Wc Tp An W0 m0 112 [t5] At5 λt6 At6=>Aa (Ap t6 0) λt7=>Aa (Ap t6 1) λt8=>Aa (unA Tp .not t8) λt9=>Ah t9 (Q (.tuple ⟨[(d 5),(d 6),(.int .u8 2)]⟩) At6) (Aa (AP Tp At6 41 t7 (some (.int .i64 1)) none none) λt10=>Wc Tp An W0 m0 113 [t10] At6 λt11 At11=>Wc Tp An W0 m0 114 [t11,(.int .i64 4)] At11 λt12 At12=>Aa (Ai Tp .gtr 134 (.tmp 40) (.const (.int .u64 65536)) t12 (.int .u64 65536)) λt13=>Ah t13 (Q (.tuple ⟨[(d 5),(d 6),(.int .u8 2)]⟩) At12) (Aa (Bd Tp At12 9 t0) λt14=>Aa (Ai Tp .sub 3 (.tmp 44) (.const (.int .i64 9)) t14 (.int .i64 9)) λt15=>Au (AX Tp At12 3 134 t15) λt16 At16=>Aa (Ai Tp .add 134 (.tmp 47) (.const (.int .u64 4)) t12 (.int .u64 4)) λt17=>Aa (Ai Tp .lss 134 (.tmp 46) (.tmp 48) t16 t17) λt18=>Ah t18 (Q (.tuple ⟨[(d 5),(d 6),(.int .u8 1)]⟩) At16) (Au (AX Tp At16 134 3 t12) λt19 At19=>Aa (Ai Tp .add 3 (.const (.int .i64 9)) (.tmp 51) (.int .i64 9) t19) λt20=>Aa (Ai Tp .add 3 (.tmp 52) (.const (.int .i64 4)) t20 (.int .i64 4)) λt21=>Aa (AP Tp At19 9 t0 (some (.int .i64 9)) (some t21) none) λt22=>Au (AX Tp At19 9 41 t22) λt23 At23=>Wc Tp An W0 m0 112 [t23] At23 λt24 At24=>Aa (Ap t24 0) λt25=>Aa (Ap t24 1) λt26=>Aa (unA Tp .not t26) λt27=>Ah t27 (Q (.tuple ⟨[(d 5),(d 6),(.int .u8 2)]⟩) At24) (Aa (Ak Tp 41 t7 (.int .i64 0)) λt28=>Aa (Af Tp At24 5 t28) λt29=>Au (AX Tp At24 41 9 t25) λt30 At30=>Aa (Bp Tp 35 [(0,t29),(1,t30)]) λt31=>Au (Av Tp At30 22 1 [(0,t31)]) λt32 At32=>Dq (BQ Tp (Co (Tm.fill ⟨1,.nil⟩ 0 [t31])) (.buildSlice 22 1 #[(0,.tmp 0)])) At32 t32 (Aa (Bp Tp 35 [(0,t29),(1,t30)]) λt33=>eqW t33 t31 (Au (AX Tp At32 41 9 t25) λt34 _=>eqW t34 t30 (eqW t25 t25 (Aa (Af Tp At32 5 t28) λt35=>eqW t35 t29 (Aa (Ak Tp 41 t7 (.int .i64 0)) λt36=>eqW t36 t28 (eqW t7 t7 (eqW (d 5) (d 5) (Au (AJ Tp At32 22 22 (d 5) t32) λt37 At37=>Aa (Ai Tp .add 3 (.tmp 73) (.tmp 74) (d 6) t21) λt38=>Bm (T89 0) (T89 0) (S 0 [(d 0),t37,t38,(d 7)] At37)))))))))))))))):=by kernel_rfl
theorem w89:Wf1 89 79 T89 L89:=wf1 (λ_=>by kernel_rfl) (by decide) λ_=>rfl
theorem c89:DX 89 79 T89 L89:=D0 (by decide)
theorem e90:gE W0 m0 S Q 90 15 Tz Lz [a0] A=(Au (DF A (Value.cells a0).toList 90) λt0 At0=>Aa (Ad Tp 90 t0 1) λt1=>Aa (Af Tp At0 22 t1) λt2=>Aa (Bd Tp At0 22 t2) λt3=>Aa (Ai Tp .gtr 3 (.tmp 5) (.const (.int .i64 0)) t3 (.int .i64 0)) λt4=>Ah t4 (Aa (Ad Tp 90 t0 1) λt5=>Aa (Af Tp At0 22 t5) λt6=>Aa (Ak Tp 22 t6 (.int .i64 0)) λt7=>Aa (Ad Tp 35 t7 0) λt8=>Aa (Af Tp At0 5 t8) λt9=>Aa (Ai Tp .eql 5 (.tmp 12) (.const (.int .u8 0)) t9 (.int .u8 0)) λt10=>Q t10 At0) (Q (.bool false) At0)):=by kernel_rfl
theorem w90:Wf1 90 15 Tz Lz:=wf1 (λ_=>by kernel_rfl) (by decide) λ_=>rfl
theorem e92:gE W0 m0 S Q 92 7 Tz Lz [a0,a1] A=(Aa (Af Tp A 27 a0) λt0=>Aa (AD t0) λt1=>Aa (Ad Tp 76 t1 0) λt2=>Aa (Af Tp A 74 t2) λt3=>Aa (Af Tp A 9 a1) λt4=>Bh (Hd Tp A 74 t3 t4) λAt5=>Q (.tuple ⟨[]⟩) At5):=by kernel_rfl
theorem w92:Wf2 92 7 Tz Lz:=wf2 (λ_ _=>by kernel_rfl) (by decide) λ_ _=>rfl
theorem e93:gE W0 m0 S Q 93 14 Tz Lz [a0,a1,a2] A=(Aa (Af Tp A 27 a1) λt0=>Aa (AD t0) λt1=>Aa (Ad Tp 76 t1 0) λt2=>Aa (Af Tp A 74 t2) λt3=>Aa (Af Tp A 9 a2) λt4=>Aa (Ad Tp 100 a0 0) λt5=>Aa (Af Tp A 9 t5) λt6=>Aa (Ad Tp 100 a0 0) λt7=>Aa (Af Tp A 9 t7) λt8=>Aa (Bd Tp A 9 t8) λt9=>Aa (Bp Tp 100 [(0,t6),(1,t9)]) λt10=>Bh (CC Tp A 74 t3 t4 t10) λAt11=>Q (.tuple ⟨[]⟩) At11):=by kernel_rfl
theorem w93:Wf3 93 14 Tz Lz:=wf3 (λ_ _ _=>by kernel_rfl) (by decide) λ_ _ _=>rfl
theorem e94:gE W0 m0 S Q 94 15 Tz Lz [a0,a1,a2,a3] A=(Aa (Af Tp A 27 a0) λt0=>Aa (AD t0) λt1=>Aa (Ad Tp 76 t1 0) λt2=>Aa (Af Tp A 74 t2) λt3=>Aa (Af Tp A 9 a1) λt4=>Bh (Hd Tp A 74 t3 t4) λAt5=>Aa (Af Tp At5 27 a0) λt6=>Aa (AD t6) λt7=>Aa (Ad Tp 76 t7 0) λt8=>Aa (Af Tp At5 74 t8) λt9=>Aa (Af Tp At5 9 a3) λt10=>Aa (Af Tp At5 100 a2) λt11=>Bh (CC Tp At5 74 t9 t10 t11) λAt12=>Q (.tuple ⟨[]⟩) At12):=by kernel_rfl
theorem w94:Wf4 94 15 Tz Lz:=wf4 (λ_ _ _ _=>by kernel_rfl) (by decide) λ_ _ _ _=>rfl
theorem e98:gE W0 m0 S Q 98 18 Tz Lz [a0,a1,a2,a3] A=(Aa (Af Tp A 27 a2) λt0=>Aa (AD t0) λt1=>Aa (Ad Tp 76 t1 0) λt2=>Aa (Af Tp A 74 t2) λt3=>Aa (Af Tp A 9 a3) λt4=>Aa (Ad Tp 100 a0 0) λt5=>Aa (Af Tp A 9 t5) λt6=>Aa (Af Tp A 3 a1) λt7=>Aa (AP Tp A 9 t6 none (some t7) none) λt8=>Aa (Ad Tp 100 a0 1) λt9=>Aa (Af Tp A 3 t9) λt10=>Aa (Af Tp A 3 a1) λt11=>Aa (RC t10 [t11]) λt12=>Aa (Bp Tp 100 [(0,t8),(1,t12)]) λt13=>Bh (CC Tp A 74 t3 t4 t13) λAt14=>Q (.tuple ⟨[]⟩) At14):=by kernel_rfl
theorem w98:Wf4 98 18 Tz Lz:=wf4 (λ_ _ _ _=>by kernel_rfl) (by decide) λ_ _ _ _=>rfl
noncomputable def T99:Nat->List Item:=λi=>match i with
 |0=>[(.code (cd 99 [1,1,1,1,0,1,0,0])),(.inLoop (cd 99 [1,1,1,1,0,1,0,0])),(.inBlock 0),(.code (cd 99 [1,1,1,1,1]))]
 |_=>[]
def L99:Nat->List Tmp:=λi=>match i with
 |0=>[0,3,4,15]
 |_=>[]
theorem e99:gE W0 m0 S Q 99 31 T99 L99 [a0] A=(Aa (Bd Tp A 41 a0) λt0=>Aa (Ai Tp .add 3 (.tmp 7) (.const (.int .i64 4)) t0 (.int .i64 4)) λt1=>Au (CO Tp A 41 t1 t1) λt2 At2=>Au (Lx Tp At2 41 t2 a0) λt3 At3=>Wc Tp An W0 m0 123 [a0] At3 λt4 At4=>Bm (T99 0) (T99 0) (S 0 [a0,t2,t4,(.int .i64 0)] At4)):=by kernel_rfl
theorem Ac0:gL W0 m0 S Q 99 31 T99 L99 d 0 A=(Aa (Ai Tp .lss 3 (.tmp 15) (.const (.int .i64 4)) (d 15) (.int .i64 4)) λt0=>Ah t0 (Aa (Bd Tp A 41 (d 0)) λt1=>Aa (Ai Tp .add 3 (.tmp 20) (.tmp 21) t1 (d 15)) λt2=>Aa (Ai Tp .mul 3 (.const (.int .i64 8)) (.tmp 24) (.int .i64 8) (d 15)) λt3=>Aa (Ai Tp .shr 24 (.tmp 23) (.tmp 25) (d 4) t3) λt4=>Au (AX Tp A 24 5 t4) λt5 At5=>Aa (Ak Tp 41 (d 3) t2) λt6=>Bh (Az Tp At5 5 t6 t5) λAt7=>Aa (Ai Tp .add 3 (.tmp 15) (.const (.int .i64 1)) (d 15) (.int .i64 1)) λt8=>Bm (T99 0) (T99 0) (S 0 [(d 0),(d 3),(d 4),t8] At7)) (Q (d 3) A)):=by kernel_rfl
theorem w99:Wf1 99 31 T99 L99:=wf1 (λ_=>by kernel_rfl) (by decide) λ_=>rfl
theorem c99:DX 99 31 T99 L99:=D0 (by decide)
theorem Agu:gE W0 m0 S Q 100 17 Tz Lz [a0,a1,a2] A=(Wc Tp An W0 m0 124 [a2] A λt0 At0=>Aa (unA Tp .not t0) λt1=>Ah t1 (Wc Tp An W0 m0 125 [a0,(.slice none 0 0)] At0 λt2 At2=>Q t2 At2) (Wc Tp An W0 m0 126 [a1,a2] At0 λt3 At3=>Wc Tp An W0 m0 125 [a0,t3] At3 λt4 At4=>Q t4 At4)):=by kernel_rfl
theorem Afp:Wf3 100 17 Tz Lz:=wf3 (λ_ _ _=>by kernel_rfl) (by decide) λ_ _ _=>rfl
theorem Agt:gE W0 m0 S Q 101 5 Tz Lz [a0] A=(Wc Tp An W0 m0 127 [(.slice none 0 0),a0] A λt0 At0=>Q t0 At0):=by kernel_rfl
theorem Afo:Wf1 101 5 Tz Lz:=wf1 (λ_=>by kernel_rfl) (by decide) λ_=>rfl
noncomputable def SK:Nat->List Item:=λi=>match i with
 |0=>[(.code (cd 103 [1,0,0])),(.inLoop (cd 103 [1,0,0])),(.inBlock 0)]
 |_=>[]
def Yu:Nat->List Tmp:=λi=>match i with
 |0=>[0,5]
 |_=>[]
theorem Ags:gE W0 m0 S Q 103 14 SK Yu [a0,a1] A=(Aa (Af Tp A 74 a1) λt0=>anW Tp An W0 m0 (P2 Tp A 74 t0) λt1 At1=>Bm (SK 0) (SK 0) (S 0 [a0,t1] At1)):=by kernel_rfl
theorem Aa0:gL W0 m0 S Q 103 14 SK Yu d 0 A=(anW Tp An W0 m0 (Mv A (d 5) false) λt0 At0=>Aa (Ap t0 0) λt1=>Ah t1 (anW Tp An W0 m0 (Qt At0 (d 5)) λt2 At2=>Aa (Ap t2 0) λt3=>anW Tp An W0 m0 (Fi Tp At2 (d 0) [t3]) λt4 At4=>Aa (unA Tp .not t4) λt5=>Ah t5 (Q (.tuple ⟨[]⟩) At4) (Bm (SK 0) (SK 0) (S 0 [(d 0),(d 5)] At4))) (Q (.tuple ⟨[]⟩) At0)):=by kernel_rfl
theorem Afn:Wf2 103 14 SK Yu:=wf2 (λ_ _=>by kernel_rfl) (by decide) λ_ _=>rfl
theorem Agz:DX 103 14 SK Yu:=D0 (by decide)
noncomputable def SH:Nat->List Item:=λi=>match i with
 |0=>[(.code (cd 112 [1,1,1,1,0,1,0,0])),(.inLoop (cd 112 [1,1,1,1,0,1,0,0])),(.inBlock 0),(.code (cd 112 [1,1,1,1,1]))]
 |_=>[]
def Yr:Nat->List Tmp:=λi=>match i with
 |0=>[0,4,5,18]
 |_=>[]
theorem Agj:gE W0 m0 S Q 112 40 SH Yr [a0] A=(Aa (Bd Tp A 41 a0) λt0=>Aa (Ai Tp .sub 3 (.tmp 9) (.const (.int .i64 4)) t0 (.int .i64 4)) λt1=>Aa (Ai Tp .lss 3 (.tmp 11) (.const (.int .i64 0)) t1 (.int .i64 0)) λt2=>Ah t2 (Q (.tuple ⟨[(.slice none 0 0),(.bool false)]⟩) A) (Aa (AP Tp A 41 a0 none (some t1) (some t1)) λt3=>Wc Tp An W0 m0 123 [t3] A λt4 At4=>Bm (SH 0) (SH 0) (S 0 [a0,t1,t4,(.int .i64 0)] At4))):=by kernel_rfl
theorem AaX:gL W0 m0 S Q 112 40 SH Yr d 0 A=(Aa (Ai Tp .lss 3 (.tmp 18) (.const (.int .i64 4)) (d 18) (.int .i64 4)) λt0=>Ah t0 (Aa (Ai Tp .add 3 (.tmp 22) (.tmp 23) (d 4) (d 18)) λt1=>Aa (Ak Tp 41 (d 0) t1) λt2=>Aa (Af Tp A 5 t2) λt3=>Aa (Ai Tp .mul 3 (.const (.int .i64 8)) (.tmp 28) (.int .i64 8) (d 18)) λt4=>Aa (Ai Tp .shr 24 (.tmp 27) (.tmp 29) (d 5) t4) λt5=>Au (AX Tp A 24 5 t5) λt6 At6=>Aa (Ai Tp .neq 5 (.tmp 26) (.tmp 31) t3 t6) λt7=>Ah t7 (Q (.tuple ⟨[(.slice none 0 0),(.bool false)]⟩) At6) (Aa (Ai Tp .add 3 (.tmp 18) (.const (.int .i64 1)) (d 18) (.int .i64 1)) λt8=>Bm (SH 0) (SH 0) (S 0 [(d 0),(d 4),(d 5),t8] At6))) (Au (CO Tp A 41 (d 4) (d 4)) λt9 At9=>Au (Lx Tp At9 41 t9 (d 0)) λt10 At10=>Q (.tuple ⟨[t9,(.bool true)]⟩) At10)):=by kernel_rfl
theorem Aff:Wf1 112 40 SH Yr:=wf1 (λ_=>by kernel_rfl) (by decide) λ_=>rfl
theorem Agx:DX 112 40 SH Yr:=D0 (by decide)
theorem Agi:gE W0 m0 S Q 113 9 Tz Lz [a0] A=(Wc Tp An W0 m0 136 [a0] A λt0 At0=>Aa (Bp Tp 169 [(0,t0),(1,(.bool true))]) λt1=>Au (DF At0 (Value.cells t1).toList 169) λt2 At2=>Aa (Bp Tp 171 [(0,t2)]) λt3=>Au (DF At2 (Value.cells t3).toList 171) λt4 At4=>Q t4 At4):=by kernel_rfl
theorem Afe:Wf1 113 9 Tz Lz:=wf1 (λ_=>by kernel_rfl) (by decide) λ_=>rfl
noncomputable def SG:Nat->List Item:=λi=>match i with
 |0=>[(.code (cd 114 [1,1,1,0,1,0,0])),(.inLoop (cd 114 [1,1,1,0,1,0,0])),(.inBlock 0),(.code (cd 114 [1,1,1,1]))]
 |_=>[]
def Yq:Nat->List Tmp:=λi=>match i with
 |0=>[5,15,16,17]
 |_=>[]
theorem Agh:gE W0 m0 S Q 114 28 SG Yq [a0,a1] A=(Wc Tp An W0 m0 124 [a1] A λt0 At0=>Aa (unA Tp .not t0) λt1=>Ah t1 (Wc Tp An W0 m0 137 [a0] At0 λt2 At2=>Q (.int .u64 0) At2) (Wc Tp An W0 m0 138 [a0,a1] At0 λt3 At3=>Aa (Bd Tp At3 41 t3) λt4=>Bm (SG 0) (SG 0) (S 0 [(.int .u64 0),t3,t4,(.int .i64 0)] At3))):=by kernel_rfl
theorem AaW:gL W0 m0 S Q 114 28 SG Yq d 0 A=(Aa (Ai Tp .lss 3 (.tmp 17) (.tmp 16) (d 17) (d 16)) λt0=>Ah t0 (Aa (Ak Tp 41 (d 15) (d 17)) λt1=>Aa (Af Tp A 5 t1) λt2=>Aa (Ai Tp .shl 134 (.tmp 21) (.const (.int .u64 8)) (d 5) (.int .u64 8)) λt3=>Au (AX Tp A 5 134 t2) λt4 At4=>Aa (Ai Tp .or 134 (.tmp 22) (.tmp 24) t3 t4) λt5=>Aa (Ai Tp .add 3 (.tmp 17) (.const (.int .i64 1)) (d 17) (.int .i64 1)) λt6=>Bm (SG 0) (SG 0) (S 0 [t5,(d 15),(d 16),t6] At4)) (Q (d 5) A)):=by kernel_rfl
theorem Afd:Wf2 114 28 SG Yq:=wf2 (λ_ _=>by kernel_rfl) (by decide) λ_ _=>rfl
theorem Agw:DX 114 28 SG Yq:=D0 (by decide)
theorem Agg:gE W0 m0 S Q 123 5 Tz Lz [a0] A=(Wc Tp An W0 m0 145 [(.int .u32 0),a0] A λt0 At0=>Q t0 At0):=by kernel_rfl
theorem Afc:Wf1 123 5 Tz Lz:=wf1 (λ_=>by kernel_rfl) (by decide) λ_=>rfl
theorem Agf:gE W0 m0 S Q 124 12 Tz Lz [a0] A=(Aa (Ai Tp .eql 3 (.tmp 3) (.const (.int .i64 1)) a0 (.int .i64 1)) λt0=>Ah t0 (Q (.bool true) A) (Aa (Ai Tp .eql 3 (.tmp 3) (.const (.int .i64 2)) a0 (.int .i64 2)) λt1=>Ah t1 (Q (.bool true) A) (Aa (Ai Tp .eql 3 (.tmp 3) (.const (.int .i64 4)) a0 (.int .i64 4)) λt2=>Ah t2 (Q (.bool true) A) (Aa (Ai Tp .eql 3 (.tmp 3) (.const (.int .i64 8)) a0 (.int .i64 8)) λt3=>Ah t3 (Q (.bool true) A) (Q (.bool false) A))))):=by kernel_rfl
theorem Afb:Wf1 124 12 Tz Lz:=wf1 (λ_=>by kernel_rfl) (by decide) λ_=>rfl
theorem Age:gE W0 m0 S Q 125 15 Tz Lz [a0,a1] A=(Aa (Bd Tp A 41 a0) λt0=>Aa (Bd Tp A 41 a1) λt1=>Aa (Ai Tp .add 3 (.tmp 6) (.tmp 8) t0 t1) λt2=>Au (CO Tp A 41 (.int .i64 0) t2) λt3 At3=>Au (AJ Tp At3 41 41 t3 a0) λt4 At4=>Au (AJ Tp At4 41 41 t4 a1) λt5 At5=>Q t5 At5):=by kernel_rfl
theorem Afa:Wf2 125 15 Tz Lz:=wf2 (λ_ _=>by kernel_rfl) (by decide) λ_ _=>rfl
noncomputable def SF:Nat->List Item:=λi=>match i with
 |0=>[(.code (cd 126 [1,1,0,1,0,0])),(.inLoop (cd 126 [1,1,0,1,0,0])),(.inBlock 0),(.code (cd 126 [1,1,1]))]
 |_=>[]
def QN:Nat->List Tmp:=λi=>match i with
 |0=>[0,1,5,10,11]
 |_=>[]
theorem Agd:gE W0 m0 S Q 126 27 SF QN [a0,a1] A=(Au (CO Tp A 41 a1 a1) λt0 At0=>Aa (Bd Tp At0 41 t0) λt1=>Bm (SF 0) (SF 0) (S 0 [a0,a1,t0,t1,(.int .i64 0)] At0)):=by kernel_rfl
theorem AaV:gL W0 m0 S Q 126 27 SF QN d 0 A=(Aa (Ai Tp .lss 3 (.tmp 11) (.tmp 10) (d 11) (d 10)) λt0=>Ah t0 (Aa (Ai Tp .sub 3 (.tmp 15) (.const (.int .i64 1)) (d 1) (.int .i64 1)) λt1=>Aa (Ai Tp .sub 3 (.tmp 16) (.tmp 17) t1 (d 11)) λt2=>Aa (Ai Tp .mul 3 (.const (.int .i64 8)) (.tmp 20) (.int .i64 8) (d 11)) λt3=>Aa (Ai Tp .shr 134 (.tmp 19) (.tmp 21) (d 0) t3) λt4=>Au (AX Tp A 134 5 t4) λt5 At5=>Aa (Ak Tp 41 (d 5) t2) λt6=>Bh (Az Tp At5 5 t6 t5) λAt7=>Aa (Ai Tp .add 3 (.tmp 11) (.const (.int .i64 1)) (d 11) (.int .i64 1)) λt8=>Bm (SF 0) (SF 0) (S 0 [(d 0),(d 1),(d 5),(d 10),t8] At7)) (Q (d 5) A)):=by kernel_rfl
theorem Ae9:Wf2 126 27 SF QN:=wf2 (λ_ _=>by kernel_rfl) (by decide) λ_ _=>rfl
theorem Agv:DX 126 27 SF QN:=D0 (by decide)
theorem Agc:gE W0 m0 S Q 127 13 Tz Lz [a0,a1] A=(Au (DF A (Value.cells a0).toList 37) λt0 At0=>Xm At0 127 (Ul ⟨13,.nil⟩ [(0,a0),(1,a1),(2,t0),(4,(.slice none 0 0)),(6,a1)]) [7] (cd 127 [1,0,1,0,0]) (cd 127 [1,0,1,0,1]) λDt1 Lt1 Abt1=>Ady Tp An W0 m0 Abt1 a1 [.func (.yield Lt1) #[] #[]] λ_ Act1=>N7 Act1 Lt1 (λAdt1=>Aa (Af Tp Adt1 37 t0) λt2=>HX [Dt1] Adt1 λAt3=>Q t2 At3) (λAet1=>HX [Dt1] Aet1 λAt4=>Q (.slice none 0 0) At4)):=by kernel_rfl
theorem Aax(W0:World)(m0:Inj Tp)(S:Nat->List Value->AW->Prop)(Q:Value->AW->Prop)(l:Nat)(d:Nat->Value)(A:AW):CE Tp An W0 m0 127 Tz Lz S Q (some l) 4000 (PS 13 d) [.code (cd 127 [1,0,1,0,0]),.beginRound,.code (cd 127 [1,0,1,0,1])] false 0 0 0 [] A=(T2 A l λAt0=>Aa (Af Tp At0 37 (d 2)) λt1=>Au (Av Tp At0 37 1 [(0,(d 7))]) λt2 At2=>Au (AJ Tp At2 37 37 t1 t2) λt3 At3=>Bh (Az Tp At3 37 (d 2) t3) λAt4=>TA At4 l none Q):=by kernel_rfl
theorem Ae8:Wf2 127 13 Tz Lz:=wf2 (λ_ _=>by kernel_rfl) (by decide) λ_ _=>rfl
theorem Af6:gE W0 m0 S Q 136 8 Tz Lz [a0] A=(Aa (Ai Tp .eql 41 (.tmp 3) (.const (.slice none 0 0)) a0 (.slice none 0 0)) λt0=>Ah t0 (Q (.slice none 0 0) A) (Au (Av Tp A 41 0 []) λt1 At1=>Au (AJ Tp At1 41 41 t1 a0) λt2 At2=>Q t2 At2)):=by kernel_rfl
theorem Ae2:Wf1 136 8 Tz Lz:=wf1 (λ_=>by kernel_rfl) (by decide) λ_=>rfl
theorem Af5:gE W0 m0 S Q 137 23 Tz Lz [a0] A=(Aa (Ai Tp .neq 147 (.tmp 2) (.const (.pointer none)) a0 (.pointer none)) λt0=>Ah t0 (Aa (AD a0) λt1=>Aa (Ad Tp 171 t1 0) λt2=>Aa (Af Tp A 167 t2) λt3=>Aa (Ai Tp .neq 167 (.tmp 8) (.const (.pointer none)) t3 (.pointer none)) λt4=>Ah t4 (Aa (AD a0) λt5=>Aa (Ad Tp 171 t5 0) λt6=>Aa (Af Tp A 167 t6) λt7=>Aa (AD a0) λt8=>Aa (Ad Tp 171 t8 0) λt9=>Aa (Af Tp A 167 t9) λt10=>Aa (AD t7) λt11=>Aa (Ad Tp 169 t11 0) λt12=>Bh (Az Tp A 41 t12 (.slice none 0 0)) λAt13=>Aa (AD t10) λt14=>Aa (Ad Tp 169 t14 2) λt15=>Bh (Az Tp At13 4 t15 (.bool true)) λAt16=>Q (.tuple ⟨[]⟩) At16) (Q (.tuple ⟨[]⟩) A)) (Q (.tuple ⟨[]⟩) A)):=by kernel_rfl
theorem Ae1:Wf1 137 23 Tz Lz:=wf1 (λ_=>by kernel_rfl) (by decide) λ_=>rfl
theorem Af4:gE W0 m0 S Q 138 46 Tz Lz [a0,a1] A=(Wc Tp An W0 m0 166 [a0] A λt0 At0=>Ah t0 (Wc Tp An W0 m0 137 [a0] At0 λt1 At1=>Q (.slice none 0 0) At1) (Aa (Ai Tp .lss 3 (.tmp 9) (.const (.int .i64 0)) a1 (.int .i64 0)) λt2=>Ah t2 (Wc Tp An W0 m0 137 [a0] At0 λt3 At3=>Q (.slice none 0 0) At3) (Wc Tp An W0 m0 167 [a0] At0 λt4 At4=>Aa (Ai Tp .gtr 3 (.tmp 13) (.tmp 15) a1 t4) λt5=>Ah t5 (Wc Tp An W0 m0 137 [a0] At4 λt6 At6=>Q (.slice none 0 0) At6) (Aa (AD a0) λt7=>Aa (Ad Tp 171 t7 0) λt8=>Aa (Af Tp At4 167 t8) λt9=>Aa (AD t9) λt10=>Aa (Ad Tp 169 t10 0) λt11=>Aa (Af Tp At4 41 t11) λt12=>Aa (AP Tp At4 41 t12 none (some a1) none) λt13=>Wc Tp An W0 m0 136 [t13] At4 λt14 At14=>Aa (AD a0) λt15=>Aa (Ad Tp 171 t15 0) λt16=>Aa (Af Tp At14 167 t16) λt17=>Aa (AD a0) λt18=>Aa (Ad Tp 171 t18 0) λt19=>Aa (Af Tp At14 167 t19) λt20=>Aa (AD t20) λt21=>Aa (Ad Tp 169 t21 0) λt22=>Aa (Af Tp At14 41 t22) λt23=>Aa (AP Tp At14 41 t23 (some a1) none none) λt24=>Aa (AD t17) λt25=>Aa (Ad Tp 169 t25 0) λt26=>Bh (Az Tp At14 41 t26 t24) λAt27=>Q t14 At27)))):=by kernel_rfl
theorem Ae0:Wf2 138 46 Tz Lz:=wf2 (λ_ _=>by kernel_rfl) (by decide) λ_ _=>rfl
noncomputable def SD:Nat->List Item:=λi=>match i with
 |0=>[(.code (cd 145 [1,1,0,1,0,0])),(.inLoop (cd 145 [1,1,0,1,0,0])),(.inBlock 0),(.code (cd 145 [1,1,1]))]
 |_=>[]
def Yo:Nat->List Tmp:=λi=>match i with
 |0=>[1,5,10,11]
 |_=>[]
theorem Af2:gE W0 m0 S Q 145 38 SD Yo [a0,a1] A=(Aa (unA Tp .xor a0) λt0=>Aa (Bd Tp A 41 a1) λt1=>Bm (SD 0) (SD 0) (S 0 [a1,t0,t1,(.int .i64 0)] A)):=by kernel_rfl
theorem AaT:gL W0 m0 S Q 145 38 SD Yo d 0 A=(Aa (Ai Tp .lss 3 (.tmp 11) (.tmp 10) (d 11) (d 10)) λt0=>Ah t0 (Aa (Ak Tp 41 (d 1) (d 11)) λt1=>Aa (Af Tp A 5 t1) λt2=>Au (AX Tp A 5 24 t2) λt3 At3=>Aa (Ai Tp .xor 24 (.tmp 14) (.tmp 19) (d 5) t3) λt4=>Aa (Ai Tp .shr 24 (.tmp 21) (.const (.int .u64 4)) t4 (.int .u64 4)) λt5=>Aa (Ai Tp .and 24 (.tmp 23) (.const (.int .u32 15)) t4 (.int .u32 15)) λt6=>Aa (Ak Tp 204 (pP 0 0) t6) λt7=>Aa (Af Tp At3 24 t7) λt8=>Aa (Ai Tp .xor 24 (.tmp 22) (.tmp 26) t5 t8) λt9=>Aa (Ai Tp .shr 24 (.tmp 28) (.const (.int .u64 4)) t9 (.int .u64 4)) λt10=>Aa (Ai Tp .and 24 (.tmp 30) (.const (.int .u32 15)) t9 (.int .u32 15)) λt11=>Aa (Ak Tp 204 (pP 0 0) t11) λt12=>Aa (Af Tp At3 24 t12) λt13=>Aa (Ai Tp .xor 24 (.tmp 29) (.tmp 33) t10 t13) λt14=>Aa (Ai Tp .add 3 (.tmp 11) (.const (.int .i64 1)) (d 11) (.int .i64 1)) λt15=>Bm (SD 0) (SD 0) (S 0 [(d 1),t14,(d 10),t15] At3)) (Aa (unA Tp .xor (d 5)) λt16=>Q t16 A)):=by kernel_rfl
theorem AeY:Wf2 145 38 SD Yo:=wf2 (λ_ _=>by kernel_rfl) (by decide) λ_ _=>rfl
theorem c145:DX 145 38 SD Yo:=D0 (by decide)
theorem AfV:gE W0 m0 S Q 166 12 Tz Lz [a0] A=(Aa (Ai Tp .eql 147 (.tmp 3) (.const (.pointer none)) a0 (.pointer none)) λt0=>Ah t0 (Q (.bool true) A) (Aa (AD a0) λt1=>Aa (Ad Tp 171 t1 0) λt2=>Aa (Af Tp A 167 t2) λt3=>Wc Tp An W0 m0 186 [t3] A λt4 At4=>Q t4 At4)):=by kernel_rfl
theorem AeR:Wf1 166 12 Tz Lz:=wf1 (λ_=>by kernel_rfl) (by decide) λ_=>rfl
theorem AfU:gE W0 m0 S Q 167 10 Tz Lz [a0] A=(Aa (Ai Tp .eql 147 (.tmp 3) (.const (.pointer none)) a0 (.pointer none)) λt0=>Ah t0 (Q (.int .i64 0) A) (Aa (AD a0) λt1=>Aa (Ad Tp 171 t1 0) λt2=>Aa (Af Tp A 167 t2) λt3=>Wc Tp An W0 m0 187 [t3] A λt4 At4=>Q t4 At4)):=by kernel_rfl
theorem AeQ:Wf1 167 10 Tz Lz:=wf1 (λ_=>by kernel_rfl) (by decide) λ_=>rfl
theorem AfQ:gE W0 m0 S Q 186 18 Tz Lz [a0] A=(Aa (Ai Tp .eql 167 (.tmp 3) (.const (.pointer none)) a0 (.pointer none)) λt0=>Ah t0 (Q (.bool true) A) (Aa (AD a0) λt1=>Aa (Ad Tp 169 t1 2) λt2=>Aa (Af Tp A 4 t2) λt3=>Ah t3 (Q (.bool true) A) (Aa (AD a0) λt4=>Aa (Ad Tp 169 t4 1) λt5=>Aa (Af Tp A 4 t5) λt6=>Aa (unA Tp .not t6) λt7=>Q t7 A))):=by kernel_rfl
theorem AeM:Wf1 186 18 Tz Lz:=wf1 (λ_=>by kernel_rfl) (by decide) λ_=>rfl
theorem AfP:gE W0 m0 S Q 187 10 Tz Lz [a0] A=(Aa (Ai Tp .eql 167 (.tmp 3) (.const (.pointer none)) a0 (.pointer none)) λt0=>Ah t0 (Q (.int .i64 0) A) (Aa (AD a0) λt1=>Aa (Ad Tp 169 t1 0) λt2=>Aa (Af Tp A 41 t2) λt3=>Aa (Bd Tp A 41 t3) λt4=>Q t4 A)):=by kernel_rfl
theorem AeL:Wf1 187 10 Tz Lz:=wf1 (λ_=>by kernel_rfl) (by decide) λ_=>rfl
theorem e79:gE W0 m0 S Q 79 17 Tz Lz [a0,a1] A=(Wc Tp An W0 m0 61 [a0,a1] A λt0 At0=>Aa (Ap t0 0) λt1=>Aa (Ap t0 1) λt2=>Au (Cz Tp At0 100) λt3 At3=>Bh (Az Tp At3 100 t3 t1) λAt4=>Aa (Ad Tp 100 t3 1) λt5=>Aa (Af Tp At4 3 t5) λt6=>Q (.tuple ⟨[t6,t2]⟩) At4):=by kernel_rfl
theorem w79:Wf2 79 17 Tz Lz:=wf2 (λ_ _=>by kernel_rfl) (by decide) λ_ _=>rfl
theorem e80:gE W0 m0 S Q 80 12 Tz Lz [a0] A=(Wc Tp An W0 m0 53 [a0] A λt0 At0=>Aa (unA Tp .not t0) λt1=>Ah t1 (Q (.bool true) At0) (Aa (AD a0) λt2=>Aa (Ad Tp 83 t2 7) λt3=>Aa (Af Tp At0 4 t3) λt4=>Q t4 At0)):=by kernel_rfl
theorem w80:Wf1 80 12 Tz Lz:=wf1 (λ_=>by kernel_rfl) (by decide) λ_=>rfl
end
end Go.Proofs.YtbchfeibhoobeaaGreatDoor
namespace Go.Abs
variable {i c:Nat} {b:UInt8} {A A':AW} {v:Value} {l:List UInt8} {F S:List Nat} {K:Value->AW->Prop}
def AI(l:List UInt8):List Value:=l.map λb=>.int .u8 b.toNat
theorem DT(a b:List UInt8):AI (a++b)=AI a++AI b:=List.map_append
theorem BE(a:List UInt8):(AI a).length=a.length:=List.length_map _
theorem Kp(a:List UInt8):(AI a).all AT=true:=by
 rw [List.all_eq_true];intro x hx;obtain ⟨b,_,rfl⟩:=List.mem_map.1 hx;rfl
theorem Kq(a:List UInt8):(AI a).all (λv=>!isTuple v)=true:=by
 rw [List.all_eq_true];intro x hx;obtain ⟨b,_,rfl⟩:=List.mem_map.1 hx;rfl
theorem TY{a:List UInt8}(h:a[i]? =some b):(AI a)[i]? =some (.int .u8 b.toNat):=by
 unfold AI;rw [List.getElem?_map,h];rfl
theorem Jb:∀ l:List UInt8,Cd (AI l)=some l
 |[]=>rfl
 |b::r=>by
  show (match Cd (AI r) with | some l=>some (UInt8.ofNat ((b.toNat:Int)).toNat::l) | none=>none)=_;rw [Jb r]
  simp
theorem FJ:∀ (l rest:List Value),l.all (λv=>!isTuple v)=true->BS (l++rest) l.length=some l
 |[],_,_=>by simp [BS]
 |v::r,rest,h=>by
  simp only [List.all_cons,Bq,Bool.not_eq_true'] at h;simp [BS,h.1,FJ r rest h.2]
theorem Mf:∀ (l rest:List Value),D7 (l++rest) l.length=some l
 |[],_=>by simp [D7]
 |v::r,rest=>by simp [D7,Mf r rest]
def RdB(A:AW)(v:Value)(l:List UInt8)(F:List Nat):Prop:=
 (l=[]/\F=[]/\∃ o c,v=.slice o 0 c)\/∃ r o c cs e f b ro rest,v=.slice (some ⟨r,o,none⟩) l.length c/\A.get r=some (.row cs e f b ro)/\f<A.next/\F=[f]/\cs.drop o=AI l++rest
theorem RdB.keeps(h:RdB A v l F)(k:Aj A A' S)(hd:∀ x∈F,x∉S):RdB A' v l F:=by
 rcases h with h | ⟨r,o,c,cs,e,f,b,ro,rest,h1,h2,h3,rfl,h4⟩
 ·exact .inl h
 ·exact .inr ⟨r,o,c,cs,e,f,b,ro,rest,h1,k.get r _ h2 h3 (hd f (by simp)),Nat.lt_of_lt_of_le h3 k.next,rfl,h4⟩
theorem RdB.one(h:RdB A v l F):AT v=true/\isTuple v=false:=by
 rcases h with ⟨_,_,o,c,rfl⟩ | ⟨r,o,c,cs,e,f,b,ro,rest,rfl,_⟩<;>exact ⟨rfl,rfl⟩
theorem RdB.lt(h:RdB A v l F):∀ x∈F,x<A.next:=by
 rcases h with ⟨_,rfl,_⟩ | ⟨r,o,c,cs,e,f,b,ro,rest,_,_,h3,rfl,_⟩
 ·simp
 ·simpa using h3
theorem RdB.slice{A:AW}{v:Value}{l:List UInt8}{F:List Nat}(h:RdB A v l F):∃ a c,v=.slice a l.length c:=by
 rcases h with ⟨rfl,_,o,c,rfl⟩ | ⟨r,o,c,cs,e,f,b,ro,rest,rfl,_⟩<;>exact ⟨_,_,rfl⟩
theorem RdB.src(h:RdB A v l F):Dj A 1 v=some (l.length,AI l):=by
 rcases h with ⟨rfl,_,o,c,rfl⟩ | ⟨r,o,c,cs,e,f,b,ro,rest,rfl,h2,_,_,h4⟩
 ·cases o<;>rfl
 ·unfold Dj;simp only [Nat.mul_one,Cg h2,h4]
  have:=FJ (AI l) rest (Kq l)
  rw [BE] at this;rw [this]
theorem RdB.cell{r o:Nat}(h:RdB A (.slice (some ⟨r,o,none⟩) l.length c) l F)(hi:l[i]? =some b):A.cell? ⟨r,o+i,none⟩=some (.int .u8 b.toNat):=by
 rcases h with ⟨rfl,_⟩ | ⟨r',o',c',cs,e,f,b',ro,rest,hv,h2,_,_,h4⟩
 ·simp at hi
 ·simp only [Value.slice.injEq,Oi,Addr.mk.injEq,and_true] at hv;obtain ⟨⟨rfl,rfl⟩,_⟩:=hv;rw [Ae h2];refine GX ?_ rfl;rw [<- List.getElem?_drop,h4,List.getElem?_append_left (by rw [BE];exact (Gs.1 hi).1)];exact TY hi
structure BT (P:Program) (tb ts tst:TypeId):Prop where
 sl:BL P ts=some tb
 sz:szT P tb=some 1
 by_:E9 P tb=some 1
 hz:DG P tb 1=true
 us:P.underlying ts=some (.slice tb)
 ub:P.underlying tb=some (.int .u8)
 ust:P.underlying tst=some .string
 zt:Ei P tb=some (.int .u8 0)
 ln:∀ A a n c,Bd P A ts (.slice a n c)=some (.int .i64 (n:Nat))
 ia:∀ b o n c i k,Ak P ts (.slice (some ⟨b,o,none⟩) n c) (.int k (.ofNat i))=(bif Nat.blt i n then some (.pointer (some (FY ⟨b,o,none⟩ (i*1)))) else none)
 ld:∀ A a,Af P A tb (.pointer (some a))=A.cell? a
 st:∀ A a v,Az P A tb (.pointer (some a)) v=(bif Nat.beq v.cells.toList.length 1 then A.setCells a v.cells.toList else none)
section
variable {P:Program} {tb ts tst:TypeId}
theorem RdB.len(T:BT P tb ts tst)(h:RdB A v l F):Bd P A ts v=some (.int .i64 (l.length:Nat)):=by
 obtain ⟨a,c,rfl⟩:=h.slice;exact T.ln _ _ _ _
theorem RdB.str(T:BT P tb ts tst)(h:RdB A v l F):AX P A ts tst v=.ok (.string ⟨⟨l⟩⟩) A:=by
 rcases h with ⟨rfl,_,o,c,rfl⟩ | ⟨r,o,c,cs,e,f,b,ro,rest,rfl,h2,_,_,h4⟩
 ·unfold AX;cases o with
  |none=>simp only [T.us,T.ust,T.ub];rfl
  |some a=>simp only [T.us,T.ust,T.ub,AW.cells?,Cd]
 ·unfold AX;simp only [T.us,T.ust,T.ub,Cg h2,h4]
  have:=FJ (AI l) rest (Kq l)
  rw [BE] at this;simp only [this,Jb]
theorem RdB.at{A:AW}{v:Value}{l:List UInt8}{F:List Nat}(T:BT P tb ts tst)(h:RdB A v l F){i:Nat}{b:UInt8}(hi:l[i]? =some b):
  ∃ a,Ak P ts v (.int .i64 (i:Int))=some (.pointer (some a))/\Af P A tb (.pointer (some a))=some (.int .u8 b.toNat):=by
 have h0:=h;rcases h with ⟨rfl,_⟩ | ⟨r,o,c,cs,e,f,b',ro,rest,rfl,h2,h3,h5,h4⟩
 ·simp at hi
 ·have hlt:i<l.length:=(Gs.1 hi).1;refine ⟨FY ⟨r,o,none⟩ (i*1),?_,?_⟩
  ·show Ak P ts _ (.int .i64 (.ofNat i))=_;rw [T.ia,AF.2 hlt,Ct]
  ·have e:FY ⟨r,o,none⟩ (i*1)=⟨r,o+i,none⟩:=by
    unfold FY;cases hb:Nat.beq (i*1) 0 with
    |true=>rw [Ct];have:=Nb hb;rw [Nat.mul_one] at this;rw [this];rfl
    |false=>rw [Cf,Nat.mul_one]
   rw [T.ld,e];exact h0.cell hi
theorem C6(T:BT P tb ts tst)(h:RdB A v l F):B3 P A tb ts 1 v=some (l.length,AI l):=by
 unfold B3;rw [T.us];exact h.src
def Buf(tb:TypeId)(A:AW)(v:Value)(l:List UInt8)(F:List Nat):Prop:=
 (v=.slice none 0 0/\l=[]/\F=[])\/(∃ b f,v=.slice (some ⟨b,0,none⟩) l.length (Bx+l.length)/\MM 0 A tb 1 l.length (AI l) b f/\F=[f])\/
 ∃ b c pad,v=.slice (some ⟨b,0,none⟩) l.length c/\c<room/\AS A b (AI l++pad) tb/\l.length+pad.length=c/\pad.all AT=true/\F=[b]
theorem Buf.nil(tb:TypeId)(A:AW):Buf tb A (.slice none 0 0) [] []:=.inl ⟨rfl,rfl,rfl⟩
theorem Buf.keeps(h:Buf tb A v l F)(k:Aj A A' S)(hd:∀ x∈F,x∉S):Buf tb A' v l F:=by
 rcases h with h | ⟨b,f,rfl,h,rfl⟩ | ⟨b,c,pad,h1,h2,h3,h4,h5,rfl⟩
 ·exact .inl h
 ·have:=DJ.keeps (v:=.slice (some ⟨b,0,none⟩) l.length (Bx+l.length)) (.inr ⟨b,f,rfl,h,rfl⟩) k hd
  rcases this with ⟨h1,_⟩ | ⟨b',f',h1,h2,h3⟩
  ·cases h1
  ·exact .inr (.inl ⟨b',f',h1,h2,h3⟩)
 ·exact .inr (.inr ⟨b,c,pad,h1,h2,h3.keeps k (hd b (by simp)),h4,h5,rfl⟩)
theorem Buf.rd(h:Buf tb A v l F):RdB A v l F:=by
 rcases h with ⟨rfl,rfl,rfl⟩ | ⟨b,f,rfl,h,rfl⟩ | ⟨b,c,pad,rfl,h2,h3,h4,h5,rfl⟩
 ·exact .inl ⟨rfl,rfl,none,0,rfl⟩
 ·exact .inr ⟨b,0,_,_,_,f,0,false,[],rfl,h.row,h.ltf,rfl,by simp⟩
 ·exact .inr ⟨b,0,_,_,_,b,0,false,pad,rfl,h3.row,h3.lt,rfl,by simp⟩
theorem Buf.lt(h:Buf tb A v l F):∀ x∈F,x<A.next:=h.rd.lt
theorem Hw:∀ (a mid new rest:List Value),mid.length=new.length->Ek (a++(mid++rest)) a.length new=a++(new++rest)
 |a,[],[],rest,_=>by simp [Ek]
 |a,m::ms,n::ns,rest,h=>by
  simp only [Lc,Nat.add_right_cancel_iff] at h
  have:=Hw (a++[n]) ms ns rest h
  simp only [Ek];have e:(a++(m::ms++rest)).set a.length n=(a++[n])++(ms++rest):=by simp
  rw [e];have e2:a.length+1=(a++[n]).length:=by simp
  rw [e2,this]
  simp
 |a,[],_::_,rest,h=>by simp at h
 |a,_::_,[],rest,h=>by simp at h
theorem C7 {t2:TypeId} {x:Value} {new:List UInt8} (T:BT P tb ts tst) (h:Buf tb A v l F) (hx:B3 P A tb t2 1 x=some (new.length,AI new)) (hf:Aw A) (hmax:A.next<Am) (hr:l.length+new.length<room)
  (hk:∀ v' A' F',Buf tb A' v' (l++new) F'->Aj A A' F->(∀ x∈F',x∈F\/A.next<=x)->A'.next<=A.next+1->Aw A'->K v' A'):Au (AJ P A ts t2 v x) K:=by
 have hroom:(Nat.blt (l.length+new.length) room&&Nat.blt ((l.length+new.length)*1) room&&DG P tb 1)=true:=by rw [Nat.mul_one,AF.2 hr,T.hz];rfl
 rcases Nat.eq_zero_or_pos new.length with h0 | hpos
 ·have hnew:new=[]:=List.eq_nil_of_length_eq_zero h0;subst hnew;obtain ⟨a,c,rfl⟩:=h.rd.slice;have e:AJ P A ts t2 (.slice a l.length c) x=.ok (.slice a l.length c) A:=by
   unfold AJ;simp only [T.sl,T.sz,T.by_,hx];simp only [Ln] at hroom ⊢;rw [hroom];rfl
  rw [e];refine Ba.2 (hk _ A F (by rw [List.append_nil];exact h) (.refl _ _) (λx hx=>.inl hx) (by omega) hf)
 ·obtain ⟨m,hm⟩:∃ m,new.length=m+1:=⟨new.length-1,by omega⟩;rcases h with ⟨rfl,rfl,rfl⟩ | ⟨b,f,rfl,ho,rfl⟩ | ⟨b,c,pad,rfl,hc,h3,h4,h5,rfl⟩
  ·have hx':B3 P A tb t2 (0+1) x=some (m+1,AI new):=by rw [<- hm];exact hx
   rw [hm] at hroom;rw [MK T.sl T.sz T.by_ hx' hroom hmax];have hfp:=hf.push (.row (AI new) tb A.next 0 false) hmax;have hrow:(A.push (.row (AI new) tb A.next 0 false)).get A.next=some (.row (AI new) tb A.next 0 false):=by rw [AW.BP _ hmax,if_pos rfl]
   refine Ba.2 (hk _ _ [A.next] (.inr (.inl ⟨A.next,A.next,by simp [hm],?_,rfl⟩)) ((AW.B7 _ hmax).keeps hf) (λx hx=>.inr (by simp at hx;omega)) (by rw [AW.Ce];omega) hfp);refine ⟨by simp [hm],by rw [hrow];rfl,by simp [BE],Nat.zero_le _,Nat.zero_le _,by rw [AW.Ce];omega,λi hi=>?_⟩
   have:(A.push (.row (AI new) tb A.next 0 false)).members A.next=[A.next]:=hf.alone (Nl _)
   rw [this] at hi;obtain rfl:i=A.next:=by simpa using hi
   exact ⟨Nat.zero_le _,by rw [AW.Ce];omega,_,_,_,_,hrow⟩
  ·have hx':B3 P A tb t2 (0+1) x=some (m+1,AI new):=by rw [<- hm];exact hx
   refine Jz (P:=P) (size:=0) T.sl T.sz T.by_ T.hz hx' (by rw [BE,hm];omega) (Kp new) (.inr ⟨b,f,rfl,ho,rfl⟩) hf hmax (by omega) (by omega) λv' A' F' hv hk' hF' hn hf'=>?_;refine hk v' A' F' ?_ hk' (λx hx=>?_) (by omega) hf'
   ·rcases hv with ⟨_,hz,_⟩ | ⟨b',f',h1,h2,h3⟩
    ·omega
    ·refine .inr (.inl ⟨b',f',?_,?_,h3⟩)
     ·rw [h1,Lq,hm]
     ·rw [Lq,hm,DT];exact h2
   ·rcases hF' x hx with h | h
    ·exact .inl h
    ·exact .inr (by omega)
  ·have hlen:(AI l++pad).length=c:=by rw [Lq,BE];exact h4
   have hcu:Nat.ble Bx c=false:=BV.2 (by unfold room at hc;unfold Bx;omega);by_cases hfit:l.length+new.length<=c
   ·
    have hb:=h3.lt;obtain ⟨A',h1,w⟩:=Gk (new:=AI new) (off:=l.length) h3.row h3.mem (by rw [hlen,BE];exact hfit) (Kp new) (by omega);have e:AJ P A ts t2 (.slice (some ⟨b,0,none⟩) l.length c) x=.ok (.slice (some ⟨b,0,none⟩) (l.length+new.length) c) A':=by
     unfold AJ;simp only [T.sl,T.sz,T.by_,hx];rw [hroom];rw [hm];have ha:FY ⟨b,0,none⟩ (l.length*1)=⟨b,l.length,none⟩:=by
      unfold FY;cases hb:Nat.beq (l.length*1) 0 with
      |true=>rw [Ct];have:=Nb hb;rw [Nat.mul_one] at this;rw [this]
      |false=>rw [Cf,Nat.mul_one,Nat.zero_add]
     have hfit':Nat.ble (l.length+(m+1)) c=true:=Bj.2 (by omega);simp only [hcu,Cf,hfit',Ct,ha,h1,Bool.not_true]
    rw [e];have hcs:Ek (AI l++pad) l.length (AI new)=AI (l++new)++pad.drop new.length:=by
     have hp:pad=pad.take new.length++pad.drop new.length:=(List.take_append_drop _ _).symm
     conv=>lhs;rw [hp]
     have hl2:l.length=(AI l).length:=(BE l).symm
     conv=>lhs;arg 2;rw [hl2]
     rw [Hw (AI l) (pad.take new.length) (AI new) (pad.drop new.length) (by rw [List.length_take,BE];omega),DT,Mw]
    refine Ba.2 (hk _ A' [b] (.inr (.inr ⟨b,c,pad.drop new.length,by rw [Lq],hc,?_,by rw [Lq,List.length_drop];omega,?_,rfl⟩)) (w.keeps h3.row) (λx hx=>.inl hx) (by rw [w.next];omega) (w.Ay hf h3.row))
    ·rw [<- hcs];exact ⟨w.row,by rw [w.mem];exact h3.mem,by rw [w.next];exact h3.lt⟩
    ·rw [List.all_eq_true] at h5 ⊢;exact λx hx=>h5 x (List.mem_of_mem_drop hx)
   ·
    have hold:(match (some ⟨b,0,none⟩:Option Addr) with | some a=>A.C2 a (l.length*1) | none=>some [])=some (AI l):=by
     show A.C2 ⟨b,0,none⟩ (l.length*1)=_;rw [Nat.mul_one];unfold AW.C2;cases hl:l.length with
     |zero=>
      have:l=[]:=List.eq_nil_of_length_eq_zero hl
      subst this;rfl
     |succ k=>
      simp only [h3.row,List.drop_zero]
      have:=Mf (AI l) pad
      rw [BE,hl] at this;exact this
    have hnew:A.new (.row (AI l++AI new) tb A.next 0 false)=some (A.next,A.push (.row (AI l++AI new) tb A.next 0 false)):=by
     unfold AW.new;simp only [AF.2 hmax,Ct];rfl
    have e:AJ P A ts t2 (.slice (some ⟨b,0,none⟩) l.length c) x=.ok (.slice (some ⟨A.next,0,none⟩) (l.length+new.length) (Bx+(l.length+new.length))) (A.push (.row (AI l++AI new) tb A.next 0 false)):=by
     unfold AJ;simp only [T.sl,T.sz,T.by_,hx];rw [hroom];rw [hm];have hfit':Nat.ble (l.length+(m+1)) c=false:=BV.2 (by omega);simp only [hcu,Cf,hfit',Bool.not_true];simp only at hold;rw [hold];simp only [hnew]
    rw [e];have hfp:=hf.push (.row (AI l++AI new) tb A.next 0 false) hmax;have hrow:(A.push (.row (AI l++AI new) tb A.next 0 false)).get A.next=some (.row (AI l++AI new) tb A.next 0 false):=by rw [AW.BP _ hmax,if_pos rfl]
    refine Ba.2 (hk _ _ [A.next] (.inr (.inl ⟨A.next,A.next,by rw [Lq],?_,rfl⟩)) (((AW.B7 _ hmax).keeps hf).more (by simp)) (λx hx=>.inr (by simp at hx;omega)) (by rw [AW.Ce];omega) hfp);refine ⟨by rw [Lq];omega,by rw [hrow,DT],by rw [BE,Nat.mul_one],Nat.zero_le _,Nat.zero_le _,by rw [AW.Ce];omega,λi hi=>?_⟩
    have:(A.push (.row (AI l++AI new) tb A.next 0 false)).members A.next=[A.next]:=hf.alone (Nl _)
    rw [this] at hi;obtain rfl:i=A.next:=by simpa using hi
    exact ⟨Nat.zero_le _,by rw [AW.Ce];omega,_,_,_,_,hrow⟩
theorem Nj(v:Value):∀ n,EQ [v] n=List.replicate n v
 |0=>rfl
 |n+1=>by rw [EQ,Nj v n];rfl
theorem Jo {k k2:IntKind} {n:Nat} (T:BT P tb ts tst) (hf:Aw A) (hmax:A.next<Am) (hn:n<=c) (hc:c<room)
  (hk:∀ A',Made A A' (List.replicate c (.int .u8 0)) tb->K (.slice (some ⟨A.next,0,none⟩) n c) A'):Au (CO P A ts (.int k (n:Int)) (.int k2 (c:Int))) K:=by
 have hz:Hh P tb 1 c=some (List.replicate c (.int .u8 0)):=by
  unfold Hh;rw [T.zt];cases c with
  |zero=>rfl
  |succ c=>
   have:Nat.beq ((c+1)*1) 0=false:=beq_false.2 (by omega)
   simp only [this,Cf];show (bif Nat.beq 1 1 then some (EQ [.int .u8 0] (c+1)) else none)=_;rw [Nj];rfl
 have hnr:A.newRow (List.replicate c (.int .u8 0)) tb=some (⟨A.next,0,none⟩,A.push (.row (List.replicate c (.int .u8 0)) tb A.next 0 false)):=by
  unfold AW.newRow AW.new
  have:(List.replicate c (Value.int .u8 0)).all AT=true:=by
   rw [List.all_eq_true];intro x hx;rw [List.eq_of_mem_replicate hx];rfl
  simp only [this,Ct,AF.2 hmax];rfl
 have e:CO P A ts (.int k (n:Int)) (.int k2 (c:Int))=.ok (.slice (some ⟨A.next,0,none⟩) n c) (A.push (.row (List.replicate c (.int .u8 0)) tb A.next 0 false)):=by
  show CO P A ts (.int k (.ofNat n)) (.int k2 (.ofNat c))=_;unfold CO;simp only [T.sl,T.sz,T.by_,Nat.mul_one,Bj.2 hn,AF.2 hc,Bool.and_self,Ct,hz,hnr]
 rw [e];exact Ba.2 (hk _ ⟨AW.B7 _ hmax,rfl,by rw [AW.BP _ hmax,if_pos rfl],hf.alone (Nl _),hf.push _ hmax⟩)
theorem Made.Abc(m:Made A A' (List.replicate c (.int .u8 0)) tb)(hc:c<room):Buf tb A' (.slice (some ⟨A.next,0,none⟩) 0 c) [] [A.next]:=
 .inr (.inr ⟨A.next,c,List.replicate c (.int .u8 0),rfl,hc,m.BB,by simp,by rw [List.all_eq_true];intro x hx;rw [List.eq_of_mem_replicate hx];rfl,rfl⟩)
end
section
variable {P:Program}
theorem KM{d:Nat}{xs ys:Array Value}{f:Field}{fs:List Field}{a b:Value}{r:Bool}(hn:decide (f.name≠ "_")=true)(h1:quiet P (part f.type xs f.offset)=some a)(h2:quiet P (part f.type ys f.offset)=some b)(h3:quiet P (Op.equalIn d f.type a b)=some r):
  quiet P (Op.eqFields d xs ys (f::fs))=if r=true then quiet P (Op.eqFields d xs ys fs) else some false:=by
 simp only [Op.eqFields];rw [if_pos (of_decide_eq_true hn)];show quiet P (Sem.bind _ _)=_;rw [De,h1];simp only [Option.bind_some];show quiet P (Sem.bind _ _)=_;rw [De,h2];simp only [Option.bind_some];show quiet P (Sem.bind _ _)=_;rw [De,h3];cases r<;>rfl
theorem bytes_beq(a b:ByteArray):(a==b)=(a.data.toList==b.data.toList):=by
 obtain ⟨⟨x⟩⟩:=a;obtain ⟨⟨y⟩⟩:=b;show ((⟨x⟩:Array UInt8)==⟨y⟩)=(x==y)
 simp
theorem Pd{d:Nat}{t:TypeId}{a b:ByteArray}(h:quiet P (underlying t)=some .string):quiet P (Op.equalIn (d+1) t (.string a) (.string b))=some (a.data.toList==b.data.toList):=by
 rw [MP d t a b h,bytes_beq]
end
end Go.Abs
namespace Go.Proofs.YtbchfeibhoobeaaGreatDoor
open Go.Abs
theorem E5(b o:Nat):Ad Tp 35 (pP b o) 0=some (pP b o):=by kernel_rfl
theorem Ec(b o:Nat):Ad Tp 35 (pP b o) 1=some (pP b (o+1)):=by kernel_rfl
theorem Zh(b o:Nat):Ad Tp 48 (pP b o) 0=some (pP b o):=by kernel_rfl
theorem Ju(b o:Nat):Ad Tp 48 (pP b o) 1=some (pP b (o+1)):=by kernel_rfl
theorem Zg(b o:Nat):Ad Tp 48 (pP b o) 2=some (pP b (o+3)):=by kernel_rfl
theorem UF(b o:Nat):Ad Tp 48 (pP b o) 3=some (pP b (o+4)):=by kernel_rfl
theorem UE(b o:Nat):Ad Tp 48 (pP b o) 4=some (pP b (o+5)):=by kernel_rfl
theorem CS(b o:Nat):Ad Tp 76 (pP b o) 0=some (pP b o):=by kernel_rfl
theorem Qo(b o:Nat):Ad Tp 76 (pP b o) 1=some (pP b (o+1)):=by kernel_rfl
theorem Na(b o:Nat):Ad Tp 76 (pP b o) 2=some (pP b (o+2)):=by kernel_rfl
theorem Ij(b o:Nat):Ad Tp 76 (pP b o) 3=some (pP b (o+3)):=by kernel_rfl
theorem Jt(b o:Nat):Ad Tp 83 (pP b o) 0=some (pP b o):=by kernel_rfl
theorem Zf(b o:Nat):Ad Tp 83 (pP b o) 1=some (pP b (o+1)):=by kernel_rfl
theorem Qn(b o:Nat):Ad Tp 83 (pP b o) 2=some (pP b (o+2)):=by kernel_rfl
theorem Ll(b o:Nat):Ad Tp 83 (pP b o) 3=some (pP b (o+3)):=by kernel_rfl
theorem Lk(b o:Nat):Ad Tp 83 (pP b o) 4=some (pP b (o+4)):=by kernel_rfl
theorem Lj(b o:Nat):Ad Tp 83 (pP b o) 5=some (pP b (o+5)):=by kernel_rfl
theorem Lh(b o:Nat):Ad Tp 83 (pP b o) 6=some (pP b (o+6)):=by kernel_rfl
theorem Qm(b o:Nat):Ad Tp 83 (pP b o) 7=some (pP b (o+7)):=by kernel_rfl
theorem Lg(b o:Nat):Ad Tp 90 (pP b o) 0=some (pP b o):=by kernel_rfl
theorem Lf(b o:Nat):Ad Tp 90 (pP b o) 1=some (pP b (o+1)):=by kernel_rfl
theorem Ql(b o:Nat):Ad Tp 90 (pP b o) 2=some (pP b (o+2)):=by kernel_rfl
theorem Qk(b o:Nat):Ad Tp 90 (pP b o) 3=some (pP b (o+3)):=by kernel_rfl
theorem FO(b o:Nat):Ad Tp 100 (pP b o) 0=some (pP b o):=by kernel_rfl
theorem Lr(b o:Nat):Ad Tp 100 (pP b o) 1=some (pP b (o+1)):=by kernel_rfl
theorem Lm(b o:Nat):Ad Tp 169 (pP b o) 0=some (pP b o):=by kernel_rfl
theorem XE(b o:Nat):Ad Tp 169 (pP b o) 1=some (pP b (o+1)):=by kernel_rfl
theorem R6(b o:Nat):Ad Tp 169 (pP b o) 2=some (pP b (o+2)):=by kernel_rfl
theorem I5(b o:Nat):Ad Tp 171 (pP b o) 0=some (pP b o):=by kernel_rfl
theorem D4(A:AW)(a:Addr):Af Tp A 3 (.pointer (some a))=A.cell? a:=by kernel_rfl
theorem Fh(A:AW)(a:Addr):Af Tp A 4 (.pointer (some a))=A.cell? a:=by kernel_rfl
theorem Kg(A:AW)(a:Addr):Af Tp A 5 (.pointer (some a))=A.cell? a:=by kernel_rfl
theorem CG(A:AW)(a:Addr):Af Tp A 9 (.pointer (some a))=A.cell? a:=by kernel_rfl
theorem JO(A:AW)(a:Addr):Af Tp A 22 (.pointer (some a))=A.cell? a:=by kernel_rfl
theorem AcZ(A:AW)(a:Addr):Af Tp A 24 (.pointer (some a))=A.cell? a:=by kernel_rfl
theorem Cx(A:AW)(a:Addr):Af Tp A 27 (.pointer (some a))=A.cell? a:=by kernel_rfl
theorem JL(A:AW)(a:Addr):Af Tp A 35 (.pointer (some a))=(match A.cells? a 2 with | some l=>some (.agg ⟨l⟩) | none=>none):=by kernel_rfl
theorem ZR(A:AW)(a:Addr):Af Tp A 37 (.pointer (some a))=A.cell? a:=by kernel_rfl
theorem RK(A:AW)(a:Addr):Af Tp A 41 (.pointer (some a))=A.cell? a:=by kernel_rfl
theorem Po(A:AW)(a:Addr):Af Tp A 46 (.pointer (some a))=A.cell? a:=by kernel_rfl
theorem AcY(A:AW)(a:Addr):Af Tp A 48 (.pointer (some a))=(match A.cells? a 6 with | some l=>some (.agg ⟨l⟩) | none=>none):=by kernel_rfl
theorem AcX(A:AW)(a:Addr):Af Tp A 50 (.pointer (some a))=A.cell? a:=by kernel_rfl
theorem EJ(A:AW)(a:Addr):Af Tp A 74 (.pointer (some a))=A.cell? a:=by kernel_rfl
theorem ZQ(A:AW)(a:Addr):Af Tp A 88 (.pointer (some a))=A.cell? a:=by kernel_rfl
theorem AcW(A:AW)(a:Addr):Af Tp A 90 (.pointer (some a))=(match A.cells? a 4 with | some l=>some (.agg ⟨l⟩) | none=>none):=by kernel_rfl
theorem AaP(A:AW)(a:Addr):Af Tp A 100 (.pointer (some a))=(match A.cells? a 2 with | some l=>some (.agg ⟨l⟩) | none=>none):=by kernel_rfl
theorem NQ(A:AW)(a:Addr):Af Tp A 167 (.pointer (some a))=A.cell? a:=by kernel_rfl
theorem J0(A:AW)(a:Addr)(v:Value):Az Tp A 3 (.pointer (some a)) v=(bif Nat.beq v.cells.toList.length 1 then A.setCells a v.cells.toList else none):=by kernel_rfl
theorem JZ(A:AW)(a:Addr)(v:Value):Az Tp A 4 (.pointer (some a)) v=(bif Nat.beq v.cells.toList.length 1 then A.setCells a v.cells.toList else none):=by kernel_rfl
theorem Aao(A:AW)(a:Addr)(v:Value):Az Tp A 5 (.pointer (some a)) v=(bif Nat.beq v.cells.toList.length 1 then A.setCells a v.cells.toList else none):=by kernel_rfl
theorem S2(A:AW)(a:Addr)(v:Value):Az Tp A 9 (.pointer (some a)) v=(bif Nat.beq v.cells.toList.length 1 then A.setCells a v.cells.toList else none):=by kernel_rfl
theorem Nu(A:AW)(a:Addr)(v:Value):Az Tp A 22 (.pointer (some a)) v=(bif Nat.beq v.cells.toList.length 1 then A.setCells a v.cells.toList else none):=by kernel_rfl
theorem O4(A:AW)(a:Addr)(v:Value):Az Tp A 35 (.pointer (some a)) v=(bif Nat.beq v.cells.toList.length 2 then A.setCells a v.cells.toList else none):=by kernel_rfl
theorem Acs(A:AW)(a:Addr)(v:Value):Az Tp A 37 (.pointer (some a)) v=(bif Nat.beq v.cells.toList.length 1 then A.setCells a v.cells.toList else none):=by kernel_rfl
theorem Uj(A:AW)(a:Addr)(v:Value):Az Tp A 41 (.pointer (some a)) v=(bif Nat.beq v.cells.toList.length 1 then A.setCells a v.cells.toList else none):=by kernel_rfl
theorem Ui(A:AW)(a:Addr)(v:Value):Az Tp A 46 (.pointer (some a)) v=(bif Nat.beq v.cells.toList.length 1 then A.setCells a v.cells.toList else none):=by kernel_rfl
theorem Acr(A:AW)(a:Addr)(v:Value):Az Tp A 48 (.pointer (some a)) v=(bif Nat.beq v.cells.toList.length 6 then A.setCells a v.cells.toList else none):=by kernel_rfl
theorem Acq(A:AW)(a:Addr)(v:Value):Az Tp A 88 (.pointer (some a)) v=(bif Nat.beq v.cells.toList.length 1 then A.setCells a v.cells.toList else none):=by kernel_rfl
theorem Uh(A:AW)(a:Addr)(v:Value):Az Tp A 90 (.pointer (some a)) v=(bif Nat.beq v.cells.toList.length 4 then A.setCells a v.cells.toList else none):=by kernel_rfl
theorem CY(A:AW)(a:Addr)(v:Value):Az Tp A 100 (.pointer (some a)) v=(bif Nat.beq v.cells.toList.length 2 then A.setCells a v.cells.toList else none):=by kernel_rfl
theorem Xx(b o n c i:Nat)(k:IntKind):Ak Tp 41 (.slice (some ⟨b,o,none⟩) n c) (.int k (.ofNat i))=(bif Nat.blt i n then some (.pointer (some (FY ⟨b,o,none⟩ (i*1)))) else none):=by kernel_rfl
theorem Ea(A:AW)(s:ByteArray):Bd Tp A 9 (.string s)=some (.int .i64 s.data.toList.length):=by kernel_rfl
theorem Xo(A:AW)(a:Option Addr)(n c:Nat):Bd Tp A 22 (.slice a n c)=some (.int .i64 n):=by kernel_rfl
theorem Uy(A:AW)(a:Option Addr)(n c:Nat):Bd Tp A 41 (.slice a n c)=some (.int .i64 n):=by kernel_rfl
theorem AcU(A:AW)(a:Option Addr)(n c:Nat):Bd Tp A 45 (.slice a n c)=some (.int .i64 n):=by kernel_rfl
theorem AcT(A:AW)(a:Option Addr)(n c:Nat):Bd Tp A 46 (.slice a n c)=some (.int .i64 n):=by kernel_rfl
theorem Aa1(b o i:Nat)(k:IntKind):Ak Tp 204 (pP b o) (.int k (.ofNat i))=(bif Nat.blt i 16 then some (.pointer (some (FY ⟨b,o,none⟩ (i*1)))) else none):=by kernel_rfl
theorem tb:BT Tp 5 41 9 where
 sl:=by kernel_rfl
 sz:=by kernel_rfl
 by_:=by kernel_rfl
 hz:=by kernel_rfl
 us:=by kernel_rfl
 ub:=by kernel_rfl
 ust:=by kernel_rfl
 zt:=by kernel_rfl
 ln:=Uy
 ia:=λb o n c i k=>Xx b o n c i k
 ld:=Kg
 st:=Aao
theorem Aa5(A:AW)(n:Int)(k:IntKind):AX Tp A 3 5 (.int k n)=.ok (.int .u8 (IntKind.u8.wrap n)) A:=by kernel_rfl
theorem N9(A:AW)(n:Int)(k:IntKind):AX Tp A 134 5 (.int k n)=.ok (.int .u8 (IntKind.u8.wrap n)) A:=by kernel_rfl
theorem Nc(A:AW)(n:Int)(k:IntKind):AX Tp A 24 5 (.int k n)=.ok (.int .u8 (IntKind.u8.wrap n)) A:=by kernel_rfl
theorem N8(A:AW)(n:Int)(k:IntKind):AX Tp A 3 134 (.int k n)=.ok (.int .u64 (IntKind.u64.wrap n)) A:=by kernel_rfl
theorem Sk(A:AW)(n:Int)(k:IntKind):AX Tp A 134 3 (.int k n)=.ok (.int .i64 (IntKind.i64.wrap n)) A:=by kernel_rfl
theorem Sj(A:AW)(n:Int)(k:IntKind):AX Tp A 5 134 (.int k n)=.ok (.int .u64 (IntKind.u64.wrap n)) A:=by kernel_rfl
theorem UM(A:AW)(n:Int)(k:IntKind):AX Tp A 5 24 (.int k n)=.ok (.int .u32 (IntKind.u32.wrap n)) A:=by kernel_rfl
theorem Aa4(A:AW)(n:Int)(k:IntKind):AX Tp A 5 3 (.int k n)=.ok (.int .i64 (IntKind.i64.wrap n)) A:=by kernel_rfl
theorem AdN(A:AW)(n:Int):Av Tp A 41 1 [(0,.int .u8 n)]=(match A.newRow [.int .u8 n] 5 with | some (a,w')=>.ok (.slice (some a) 1 1) w' | none=>.fail "buildSlice new"):=by kernel_rfl
theorem Ze(n:Int):BQ Tp (Co (Tm.fill ⟨1,.nil⟩ 0 [.int .u8 n])) (.buildSlice 41 1 #[(0,.tmp 0)])=some (.slice [.int .u8 n] 5 1):=by kernel_rfl
theorem ut9:quiet Tp (underlying 9)=some .string:=by kernel_rfl
variable {t:TypeId} {xo yo:Operand} {a b n:Int} {A A' B C:AW} {m:Nat} {K:Value->AW->Prop}
theorem LD{P:Program}{k:IntKind}:Ai P .mul t xo yo (.int k a) (.int k b)=some (.int k (k.wrap (a*b))):=by simp [Ai,binOp,Op.intArith,quiet,CN,AM,pure]
theorem QB{P:Program}{k:IntKind}(hb:b≠0):Ai P .rem t xo yo (.int k a) (.int k b)=some (.int k (a.tmod b)):=by simp [Ai,binOp,Op.intDiv,hb,quiet,CN,AM,pure]
theorem QC{P:Program}{k:IntKind}(hb:b≠0):Ai P .quo t xo yo (.int k a) (.int k b)=some (.int k (k.wrap (a.tdiv b))):=by simp [Ai,binOp,Op.intDiv,hb,quiet,CN,AM,pure]
theorem Ip{P:Program}{k k2:IntKind}(hb:¬ b<0):Ai P .shr t xo yo (.int k a) (.int k2 b)=some (.int k (a.fdiv (2^(min b.toNat k.bits)))):=by simp [Ai,binOp,Op.shift,hb,quiet,CN,AM,pure]
theorem wrap_u8:IntKind.u8.wrap n=n%256:=by
 simp [IntKind.wrap,IntKind.bits,IntKind.signed]
theorem wrap_u64(h1:0<=n)(h2:n<18446744073709551616):IntKind.u64.wrap n=n:=by
 simp [IntKind.wrap,IntKind.bits,IntKind.signed];omega
theorem NK(n:Nat):((UInt8.ofNat n).toNat:Int)=(n:Int)%256:=by
 rw [UInt8.toNat_ofNat'];omega
structure Grow (A A':AW) (n:Nat):Prop where
 keeps:Aj A A' []
 Ay:Aw A'
 next:A'.next<=A.next+n
theorem Grow.le{n:Nat}(h:Grow A A' n):A.next<=A'.next:=h.keeps.next
theorem Grow.refl(hf:Aw A):Grow A A 0:=⟨.refl _ _,hf,Nl _⟩
theorem Grow.trans{n:Nat}(h:Grow A B n)(k:Grow B C m):Grow A C (n+m):=⟨h.keeps.trans k.keeps (by simp),k.Ay,by have:=h.next;have:=k.next;omega⟩
theorem Grow.more{n:Nat}(h:Grow A B n)(hm:n<=m):Grow A B m:=⟨h.keeps,h.Ay,by have:=h.next;omega⟩
theorem Grow.made{cs:List Value}{e:TypeId}(m:Made A A' cs e)(hf:Aw A):Grow A A' 1:=⟨m.keeps hf,m.Ay,by rw [m.next];omega⟩
theorem Grow.own{n:Nat}{F:List Nat}(h:Grow A B n)(k:Aj B C F)(hF:∀ x∈F,A.next<=x)(hc:C.next<=B.next+m)(hf:Aw C):Grow A C (n+m):=
 ⟨h.keeps.trans k (λx hx=>.inr (hF x hx)),hf,by have:=h.next;omega⟩
def be(n:Nat):Nat->List UInt8
 |0=>[]
 |i+1=>UInt8.ofNat (n/256^i)::be n i
theorem Ef(n:Nat):∀ i,(be n i).length=i
 |0=>rfl
 |i+1=>by rw [be,Lc,Ef n i]
section
variable {W0:World} {m0:Inj Tp}
theorem ZE{w:Int}(hk:K (.bool (w==1 || (w==2 || (w==4 || w==8)))) A):Wc Tp An W0 m0 124 [.int .i64 w] A K:=by
 refine Afb _ _ BF ?_;rw [Agf];simp only [Bo,Ab,Be];refine ⟨λh=>by subst h;exact hk,λh1=>⟨λh=>by subst h;exact hk,λh2=>⟨λh=>by subst h;exact hk,λh3=>⟨λh=>by subst h;exact hk,λh4=>?_⟩⟩⟩⟩
 have:(w==1 || (w==2 || (w==4 || w==8)))=false:=by simp [h1,h2,h3,h4]
 rw [this] at hk;exact hk
theorem Zo(hf:Aw A)(h:A.next<Am)(hk:∀ A',Made A A' [.int .u8 n] 5->K (.slice (some ⟨A.next,0,none⟩) 1 1) A'):Au (Av Tp A 41 1 [(0,.int .u8 n)]) K:=by
 rw [AdN];unfold AW.newRow AW.new;simp only [show ([Value.int .u8 n].all AT)=true from rfl,Ct,AF.2 h];exact Ba.2 (hk (A.push (.row [.int .u8 n] 5 A.next 0 false)) ⟨AW.B7 _ h,rfl,by rw [AW.BP _ h,if_pos rfl],hf.alone (Nl _),hf.push _ h⟩)
theorem RU{b:Nat}{p:Prop}(h:A.get b=some (.row [.int .u8 n] 5 b 0 false))(hp:p):Dq (BQ Tp (Co (Tm.fill ⟨1,.nil⟩ 0 [.int .u8 n])) (.buildSlice 41 1 #[(0,.tmp 0)])) A (.slice (some ⟨b,0,none⟩) 1 1) p:=by
 refine ⟨⟨_,Ze n,?_⟩,hp⟩;simp only [Cj,Fy,h,EF,GD,Bool.and_self,Option.isNone_none,Bool.true_and,Nat.beq_refl]
theorem AgA{b:Nat}{c:UInt8}(h:Go.Abs.AS A b [.int .u8 c.toNat] 5):Buf 5 A (.slice (some ⟨b,0,none⟩) 1 1) [c] [b]:=
 .inr (.inr ⟨b,1,[],rfl,by decide,by simpa [AI] using h,rfl,rfl,rfl⟩)
end
variable {w n:Nat} {A:AW} {K:Value->AW->Prop}
theorem Im(n i:Nat):IntKind.u8.wrap ((n:Int).fdiv (2^(8*i)))=((UInt8.ofNat (n/256^i)).toNat:Int):=by
 rw [wrap_u8,NK,Int.fdiv_eq_ediv_of_nonneg _ (Int.pow_nonneg (by decide))];rw [show (2:Int)^(8*i)=((256^i:Nat):Int) by rw [Int.pow_mul,show (2:Int)^8=((256:Nat):Int) from by decide,Int.natCast_pow]];rfl
theorem Wb{i:Nat}(n:Nat)(h:i<w):Ek (List.replicate (w-i) (.int .u8 0)++AI (be n i)) (w-1-i) [.int .u8 ((UInt8.ofNat (n/256^i)).toNat:Int)]=List.replicate (w-(i+1)) (.int .u8 0)++AI (be n (i+1)):=by
 have e1:w-i=(w-1-i)+1:=by omega
 have e2:w-(i+1)=w-1-i:=by omega
 rw [e1,e2,List.replicate_succ',Mw];have h:=Hw (List.replicate (w-1-i) (Value.int .u8 0)) [.int .u8 0] [.int .u8 ((UInt8.ofNat (n/256^i)).toNat:Int)] (AI (be n i)) rfl;rw [List.length_replicate] at h;rw [h];rfl
section
variable {W0:World} {m0:Inj Tp}
theorem Ab7 (hf:Aw A) (hA:A.next+1<Am) (hw:w<=8)
  (hk:∀ A' v F,Grow A A' 1->Buf 5 A' v (be n w) F->(∀ x∈F,A.next<=x)->K v A'):Wc Tp An W0 m0 126 [.int .u64 (n:Int),.int .i64 (w:Int)] A K:=by
 let I:Nat->Nat->List Value->AW->Prop:=λg id vals A'=>id=0/\∃ i:Nat,vals=[.int .u64 (n:Int),.int .i64 (w:Int),.slice (some ⟨A.next,0,none⟩) w w,.int .i64 (w:Int),.int .i64 (i:Int)]/\i<=w/\
  Go.Abs.AS A' A.next (List.replicate (w-i) (.int .u8 0)++AI (be n i)) 5/\Grow A A' 1/\A'.next=A.next+1/\g=w-i
 refine Ae9 _ _ _ (Agv (I:=I) ?_) ?_
 ·rintro g id vals A' d ⟨rfl,i,rfl,hi,hr,hg,hn,rfl⟩ hd;rw [AaV];have h0:d 0=.int .u64 (n:Int):=by simp [QN] at hd;exact hd.1
  have h1:d 1=.int .i64 (w:Int):=by simp [QN] at hd;exact hd.2.1
  have h5:d 5=.slice (some ⟨A.next,0,none⟩) w w:=by simp [QN] at hd;exact hd.2.2.1
  have h10:d 10=.int .i64 (w:Int):=by simp [QN] at hd;exact hd.2.2.2.1
  have h11:d 11=.int .i64 (i:Int):=by simp [QN] at hd;exact hd.2.2.2.2
  simp only [h0,h1,h5,h10,h11,AU,Ci,LD,Ab,Ao];refine ⟨λhlt=>?_,λhge=>?_⟩
  ·have hlt:i<w:=by omega
   rw [wrap_i64 (n:=(w:Int)-1) (by omega) (by omega),wrap_i64 (n:=(w:Int)-1-i) (by omega) (by omega),wrap_i64 (n:=8*(i:Int)) (by omega) (by omega)];have e2:(w:Int)-1-i=((w-1-i:Nat):Int):=by omega
   have e3:min (8*(i:Int)).toNat (IntKind.bits .u64)=8*i:=by show min _ 64=_;omega
   rw [Ip (by omega),e2,e3];simp only [Ab,N9,Ba,Im];have hia:Ak Tp 41 (.slice (some ⟨A.next,0,none⟩) w w) (.int .i64 ((w-1-i:Nat):Int))=some (.pointer (some ⟨A.next,w-1-i,none⟩)):=by
    show Ak Tp 41 _ (.int .i64 (.ofNat (w-1-i)))=_;rw [Xx,AF.2 (by omega),Ct];unfold FY;cases hb:Nat.beq ((w-1-i)*1) 0 with
    |true=>rw [Ct];have:=Nb hb;rw [Nat.mul_one] at this;rw [this]
    |false=>rw [Cf,Nat.mul_one,Nat.zero_add]
   rw [hia];simp only [Ab,AY];refine hr.store hg.Ay (by omega) (Aao _ _ _) rfl (by simp [Value.cells,Ef];omega) rfl λA2 r2 k2 n2 f2=>?_;have hs:Ek (List.replicate (w-i) (Value.int .u8 0)++AI (be n i)) (w-1-i) (Value.cells (.int .u8 ((UInt8.ofNat (n/256^i)).toNat:Int))).toList=_:=Wb n hlt;rw [hs] at r2;rw [wrap_i64 (by omega) (by omega)];refine Ar.2 ⟨w-(i+1),by omega,rfl,i+1,rfl,by omega,r2,?_,by omega,rfl⟩;exact hg.own k2 (by simp) (m:=0) (by omega) f2
  ·have hi:i=w:=by omega
   subst hi;rw [Nat.sub_self] at hr;refine hk A' _ [A.next] hg ?_ (by simp);refine .inr (.inr ⟨A.next,i,[],?_,by have:room=68719476736:=rfl;omega,by simpa using hr,by rw [Ef];rfl,rfl,rfl⟩);rw [Ef]
 ·rw [Agd];refine Jo tb hf (by omega) (Nl w) (by have:room=68719476736:=rfl;omega) λA1 m1=>?_;simp only [Uy,Ab];refine Ar.2 ⟨w,rfl,0,rfl,by omega,?_,.made m1 hf,m1.next,rfl⟩
  simpa [be,AI] using m1.BB
theorem Ab8 {v1 v2:Value} {l1 l2:List UInt8} {F1 F2:List Nat} (hf:Aw A) (hA:A.next+3<Am) (h1:RdB A v1 l1 F1) (h2:RdB A v2 l2 F2) (hr:l1.length+l2.length<1000000)
  (hk:∀ A' v F,Grow A A' 3->Buf 5 A' v (l1++l2) F->(∀ x∈F,A.next<=x)->K v A'):Wc Tp An W0 m0 125 [v1,v2] A K:=by
 have hroom:room=68719476736:=rfl;have lt1:=h1.lt;have lt2:=h2.lt;refine Afa _ _ _ BF ?_;rw [Age];simp only [h1.len tb,h2.len tb,AY,Ab];rw [wrap_i64 (by omega) (by omega)];have e:((l1.length:Nat):Int)+((l2.length:Nat):Int)=((l1.length+l2.length:Nat):Int):=by omega
 rw [e];refine Jo (n:=0) (k:=.i64) tb hf (by omega) (Nat.zero_le _) (by omega) λA1 m1=>?_;have n1:=m1.next;refine C7 tb (m1.Abc (by omega)) (C6 tb (h1.keeps (m1.keeps hf) (by simp))) m1.Ay (by omega) (by simp;omega) λv3 A3 F3 hb3 k3 hF3 n3 f3=>?_;have g3:Grow A A3 2:=(Grow.made m1 hf).own k3 (by simp) (m:=1) (by omega) f3;have hF3':∀ x∈F3,A.next<=x:=λx hx=>by
  rcases hF3 x hx with h | h
  ·simp at h;omega
  ·omega
 refine C7 tb hb3 (C6 tb (h2.keeps g3.keeps (by simp))) f3 (by omega) (by simp;omega) λv4 A4 F4 hb4 k4 hF4 n4 f4=>?_;rw [List.nil_append] at hb4;refine hk A4 v4 F4 ((g3.own k4 hF3' (m:=1) (by omega) f4).more (by omega)) hb4 λx hx=>?_;rcases hF4 x hx with h | h
 ·exact hF3' x h
 ·have:=g3.le;omega
theorem Ack {v:Value} {l:List UInt8} {F0:List Nat} (hf:Aw A) (hA:A.next+5<Am) (hv:RdB A v l F0) (hl:l.length<900000) (hw:w=1\/w=2\/w=4\/w=8)
  (hk:∀ A' v F,Grow A A' 4->Buf 5 A' v (l++be n w) F->(∀ x∈F,A.next<=x)->K v A'):Wc Tp An W0 m0 100 [v,.int .u64 (n:Int),.int .i64 (w:Int)] A K:=by
 refine Afp _ _ _ _ BF ?_;rw [Agu];refine ZE ?_;have hb:((w:Int)==1 || ((w:Int)==2 || ((w:Int)==4 || (w:Int)==8)))=true:=by rcases hw with rfl | rfl | rfl | rfl<;>rfl
 rw [hb];simp only [Bg,Ab];refine Ag.2 ⟨λh=>by simp at h,λ_=>?_⟩;refine Ab7 hf (by omega) (by omega) λA1 v1 F1 g1 b1 _=>?_;have n1:=g1.next;have l1:=g1.le;refine Ab8 g1.Ay (by omega) (hv.keeps g1.keeps (by simp)) b1.rd (by rw [Ef];omega) λA2 v2 F2 g2 b2 hF2=>?_;exact hk A2 v2 F2 ((g1.trans g2).more (by omega)) b2 λx hx=>Nat.le_trans l1 (hF2 x hx)
end
end Go.Proofs.YtbchfeibhoobeaaGreatDoor
namespace Go.Crc
def LC(r:Nat):Nat:=if r%2=1 then (r/2) ^^^ 2197175160 else r/2
def bits:Nat->Nat->Nat
 |0,r=>r
 |n+1,r=>bits n (LC r)
def tab:List Nat:=[0,274646895,549293790,820201905,1098587580,1361435347,1640403810,1905808397,2197175160,2460548119,2722870694,2987750089,3280807620,3553878443,3811616794,4084100981]
def nib(r:Nat):Nat:=(r/16) ^^^ tab.getD (r%16) 0
def ZV(r:Nat)(c:UInt8):Nat:=bits 8 (r ^^^ c.toNat)
def I8(r:Nat)(l:List UInt8):Nat:=l.foldl ZV r
def EV(l:List UInt8):Nat:=4294967295-I8 4294967295 l
def le4(s:Nat):List UInt8:=[UInt8.ofNat s,UInt8.ofNat (s/256),UInt8.ofNat (s/65536),UInt8.ofNat (s/16777216)]
def Dy(l:List UInt8):List UInt8:=l++le4 (EV l)
theorem Wd(x y:Nat):(x ^^^ y)/2=(x/2) ^^^ (y/2):=by
 apply Nat.eq_of_testBit_eq;intro i;simp [Nat.testBit_div_two,Nat.testBit_xor]
theorem Yy(x y:Nat):((x ^^^ y)%2=1)↔¬ ((x%2=1)↔(y%2=1)):=by
 have h:=Nat.testBit_xor x y 0;simp only [Nat.testBit_zero] at h;by_cases hx:x%2=1<;>by_cases hy:y%2=1<;>simp_all
theorem X8(x y:Nat):LC (x ^^^ y)=LC x ^^^ LC y:=by
 unfold LC;have h:=Yy x y;rw [Wd];by_cases hx:x%2=1<;>by_cases hy:y%2=1
 ·rw [if_neg (λe=>(h.1 e) ⟨λ_=>hy,λ_=>hx⟩),if_pos hx,if_pos hy];apply Nat.eq_of_testBit_eq;intro i;simp only [Nat.testBit_xor];cases (x/2).testBit i<;>cases (y/2).testBit i<;>cases Nat.testBit 2197175160 i<;>rfl
 ·rw [if_pos (h.2 λe=>hy (e.1 hx)),if_pos hx,if_neg hy];apply Nat.eq_of_testBit_eq;intro i;simp only [Nat.testBit_xor];cases (x/2).testBit i<;>cases (y/2).testBit i<;>cases Nat.testBit 2197175160 i<;>rfl
 ·rw [if_pos (h.2 λe=>hx (e.2 hy)),if_neg hx,if_pos hy];apply Nat.eq_of_testBit_eq;intro i;simp only [Nat.testBit_xor];cases (x/2).testBit i<;>cases (y/2).testBit i<;>cases Nat.testBit 2197175160 i<;>rfl
 ·rw [if_neg (λe=>(h.1 e) ⟨λe=>absurd e hx,λe=>absurd e hy⟩),if_neg hx,if_neg hy]
theorem Sp:∀ (n x y:Nat),bits n (x ^^^ y)=bits n x ^^^ bits n y
 |0,_,_=>rfl
 |n+1,x,y=>by rw [bits,X8,Sp n];rfl
theorem Od:∀ (n m r:Nat),bits (n+m) r=bits m (bits n r)
 |0,m,r=>by rw [Nat.zero_add];rfl
 |n+1,m,r=>by rw [show n+1+m=(n+m)+1 by omega,bits,Od n m];rfl
theorem V0(q:Nat):LC (2*q)=q:=by
 unfold LC;rw [if_neg (by omega)];omega
theorem Oc:∀ (n q:Nat),bits n (2^n*q)=q
 |0,q=>by simp [bits]
 |n+1,q=>by rw [bits,Nat.pow_succ,Nat.mul_comm (2^n) 2,Nat.mul_assoc,V0,Oc n]
theorem U7(n r:Nat):r=(2^n*(r/2^n)) ^^^ (r%2^n):=by
 apply Nat.eq_of_testBit_eq;intro i;rw [Nat.testBit_xor,Nat.testBit_two_pow_mul,Nat.testBit_mod_two_pow];by_cases h:i<n
 ·simp [h,show ¬ n<=i by omega]
 ·have h2:n<=i:=by omega
  simp only [h,h2,decide_true,decide_false,Bool.true_and,Bool.false_and,Bool.xor_false];rw [Nat.testBit_div_two_pow,show i-n+n=i by omega]
theorem WB:∀ n,n<16->bits 4 n=tab.getD n 0:=by decide
theorem NL(r:Nat):nib r=bits 4 r:=by
 conv=>rhs;rw [U7 4 r]
 rw [Sp,Oc 4,WB _ (Nat.mod_lt _ (by decide))];rfl
theorem YX(r:Nat):nib (nib r)=bits 8 r:=by
 rw [NL,NL,<- Od]
theorem Zr{r:Nat}(h:r<4294967296):LC r<4294967296:=by
 unfold LC;split
 ·exact Nat.xor_lt_two_pow (n:=32) (by omega) (by decide)
 ·omega
theorem Nf:∀ (n:Nat) {r:Nat},r<4294967296->bits n r<4294967296
 |0,_,h=>h
 |n+1,_,h=>Nf n (Zr h)
theorem Nd(c:UInt8):c.toNat<4294967296:=Nat.lt_trans c.toNat_lt (by decide)
theorem XZ{r:Nat}(c:UInt8)(h:r<4294967296):ZV r c<4294967296:=Nf 8 (Nat.xor_lt_two_pow (n:=32) h (Nd c))
theorem Qx:∀ (l:List UInt8) {r:Nat},r<4294967296->I8 r l<4294967296
 |[],_,h=>h
 |c::l,_,h=>Qx l (XZ c h)
theorem Kf(s:Nat):(le4 s).length=4:=rfl
theorem Dx(l:List UInt8):(Dy l).length=l.length+4:=by simp [Dy,le4]
theorem ME(r:Nat)(a b:List UInt8):I8 r (a++b)=I8 (I8 r a) b:=by simp [I8]
def Ck(l:List UInt8):Bool:=decide (4<=l.length)&&(l==Dy (l.take (l.length-4)))
theorem Ml(l:List UInt8):Ck (Dy l)=true:=by
 unfold Ck;have h:(Dy l).take ((Dy l).length-4)=l:=by
  rw [Dx,Nat.add_sub_cancel];unfold Dy;rw [List.take_left'];rfl
 rw [h,Dx]
 simp
end Go.Crc
namespace Go.Abs
variable {A:AW} {v:Value} {l:List UInt8} {F:List Nat} {a:Option Addr} {len n:Nat}
def RdS(tb:TypeId)(A:AW)(v:Value)(l:List UInt8)(F:List Nat):Prop:=
 (l=[]/\F=[]/\∃ o c,v=.slice o 0 c/\c<Bx/\(o=none->c=0))\/∃ r o c C cs f b ro rest,v=.slice (some ⟨r,o,none⟩) l.length C/\(C=Bx+c\/(C=c/\c<Bx))/\l.length<=c/\A.get r=some (.row cs tb f b ro)/\f<A.next/\F=[f]/\cs.drop o=AI l++rest
theorem RdS.rd{tb:TypeId}(h:RdS tb A v l F):RdB A v l F:=by
 rcases h with ⟨h1,h2,o,c,h3,_⟩ | ⟨r,o,c,C,cs,f,b,ro,rest,h1,_,_,h2,h3,h4,h5⟩
 ·exact .inl ⟨h1,h2,o,c,h3⟩
 ·exact .inr ⟨r,o,C,cs,tb,f,b,ro,rest,h1,h2,h3,h4,h5⟩
theorem RdS.keeps{tb:TypeId}{A':AW}{S:List Nat}(h:RdS tb A v l F)(k:Aj A A' S)(hd:∀ x∈F,x∉S):RdS tb A' v l F:=by
 rcases h with h | ⟨r,o,c,C,cs,f,b,ro,rest,h1,h0,h6,h2,h3,rfl,h5⟩
 ·exact .inl h
 ·exact .inr ⟨r,o,c,C,cs,f,b,ro,rest,h1,h0,h6,k.get r _ h2 h3 (hd f (by simp)),Nat.lt_of_lt_of_le h3 k.next,rfl,h5⟩
theorem RdS.nil(tb:TypeId)(A:AW):RdS tb A (.slice none 0 0) [] []:=.inl ⟨rfl,rfl,none,0,rfl,by decide,λ_=>rfl⟩
theorem Buf.rdS{tb:TypeId}(h:Buf tb A v l F):RdS tb A v l F:=by
 rcases h with ⟨rfl,rfl,rfl⟩ | ⟨b,f,rfl,ho,rfl⟩ | ⟨b,c,pad,rfl,hc,hr,hl,ho,rfl⟩
 ·exact .nil _ _
 ·exact .inr ⟨b,0,l.length,_,_,f,0,false,[],rfl,.inl rfl,Nl _,ho.row,ho.ltf,rfl,by simp⟩
 ·have:c<Bx:=by have h1:room=68719476736:=rfl;have h2:Bx=18446744073709551616:=rfl;omega
  exact .inr ⟨b,0,c,c,_,b,0,false,pad,rfl,.inr ⟨rfl,this⟩,by omega,hr.row,hr.lt,rfl,by simp⟩
section
variable {P:Program} {tb ts tst:TypeId}
theorem HF(r o n:Nat):Ha (some ⟨r,o,none⟩) (n*1)=some ⟨r,o+n,none⟩:=by
 show some (bif Nat.beq (n*1) 0 then (⟨r,o,none⟩:Addr) else ⟨r,o+n*1,none⟩)=_;rw [Nat.mul_one];cases n<;>rfl
theorem PB{o:Option Addr}(c:Nat)(hz:o=none->c=0):(bif Nat.beq c 0 then o else Ha o (0*1))=none->c=0:=by
 cases o with
 |none=>exact λ_=>hz rfl
 |some a=>cases Nat.beq c 0<;>(intro h;cases h)
theorem Ja(l:List UInt8)(n:Nat):AI (l.take n)=(AI l).take n:=List.map_take
theorem He(l:List UInt8)(n:Nat):AI (l.drop n)=(AI l).drop n:=List.map_drop
theorem Mh(T:BT P tb ts tst){C:Nat}(hc:C<Bx)(hn:n<=C):AP P A ts (.slice a len C) none (some (.int .i64 (.ofNat n))) none=some (.slice (bif Nat.beq C 0 then a else Ha a (0*1)) n C):=by
 unfold AP;simp only [T.us,T.sz,BV.2 hc,Cf,bounds,GK,DW,Bj.2 hn,Nat.sub_zero,Option.isSome_some,Option.isSome_none,Bool.not_false,Bool.or_true,Ct]
theorem S5(T:BT P tb ts tst){c:Nat}(hr:IM A a tb=true)(hn:n<=c):AP P A ts (.slice a len (Bx+c)) none (some (.int .i64 (.ofNat n))) none=some (.slice (Ha a (0*1)) n (Bx+c)):=by
 unfold AP;simp only [T.us,T.sz,Bj.2 (show Bx<=Bx+c from Nat.le_add_right _ _),Ct,bounds,GK,DW,Nat.add_sub_cancel_left,Bj.2 hn,Nat.sub_zero,Option.isSome_some,Option.isSome_none,Bool.not_false,Bool.or_true,hr,Bool.and_self]
theorem RdS.to(T:BT P tb ts tst)(h:RdS tb A v l F)(hn:n<=l.length):∃ v',AP P A ts v none (some (.int .i64 (n:Int))) none=some v'/\RdS tb A v' (l.take n) F:=by
 show ∃ v',AP P A ts v none (some (.int .i64 (.ofNat n))) none=some v'/\_;rcases h with ⟨rfl,rfl,o,c,rfl,hc,hz⟩ | ⟨r,o,c,C,cs,f,b,ro,rest,rfl,hC,hl,h2,h3,rfl,h5⟩
 ·have hn0:n=0:=Nat.le_zero.1 hn;refine ⟨_,Mh T hc (by omega),.inl ⟨List.take_nil,rfl,_,c,by rw [hn0],hc,PB c hz⟩⟩
 ·have hd:cs.drop o=AI (l.take n)++(AI (l.drop n)++rest):=by
   rw [h5,Ja,He,<- Mw,List.take_append_drop]
  have hlen:(l.take n).length=n:=by rw [List.length_take];omega
  rcases hC with rfl | ⟨rfl,hc⟩
  ·refine ⟨_,S5 T (by unfold IM;simp only [h2];exact beq_true.2 rfl) (by omega),?_⟩;rw [HF,Nat.add_zero];exact .inr ⟨r,o,c,Bx+c,cs,f,b,ro,_,by rw [hlen],.inl rfl,by omega,h2,h3,rfl,hd⟩
  ·refine ⟨_,Mh T hc (by omega),?_⟩;rw [HF,Nat.add_zero];refine .inr ⟨r,o,C,C,cs,f,b,ro,_,?_,.inr ⟨rfl,hc⟩,by omega,h2,h3,rfl,hd⟩;rw [hlen];cases Nat.beq C 0
   ·rw [Cf]
   ·rw [Ct]
theorem RdS.from(T:BT P tb ts tst)(h:RdS tb A v l F)(hn:n<=l.length):∃ v',AP P A ts v (some (.int .i64 (n:Int))) none none=some v'/\RdS tb A v' (l.drop n) F:=by
 have hc0:Bx=18446744073709551616:=rfl;show ∃ v',AP P A ts v (some (.int .i64 (.ofNat n))) none none=some v'/\_;rcases h with ⟨rfl,rfl,o,c,rfl,hc,hz⟩ | ⟨r,o,c,C,cs,f,b,ro,rest,rfl,hC,hl,h2,h3,rfl,h5⟩
 ·obtain rfl:n=0:=by simpa using hn
  refine ⟨.slice (bif Nat.beq c 0 then o else Ha o (0*1)) 0 c,?_,.inl ⟨rfl,rfl,_,c,rfl,hc,PB c hz⟩⟩;unfold AP;simp only [T.us,T.sz,BV.2 hc,Cf,bounds,GK,DW,Bj.2 (Nl 0),Nat.sub_zero,Option.isSome_none,Bool.not_false,Bool.or_true,Ct]
 ·have hd:cs.drop (o+n)=AI (l.drop n)++rest:=by
   rw [<- List.drop_drop,h5,He,List.drop_append_of_le_length (by rw [BE];exact hn)]
  have hlen:(l.drop n).length=l.length-n:=List.length_drop;rcases hC with rfl | ⟨rfl,hc⟩
  ·refine ⟨.slice (Ha (some ⟨r,o,none⟩) (n*1)) (l.length-n) (Bx+(c-n)),?_,?_⟩
   ·unfold AP;have hr:IM A (some ⟨r,o,none⟩) tb=true:=by unfold IM;simp only [h2];exact beq_true.2 rfl
    simp only [T.us,T.sz,Bj.2 (show Bx<=Bx+c by omega),Ct,bounds,GK,DW,Nat.add_sub_cancel_left,Bj.2 hn,Bj.2 hl,Option.isSome_none,Bool.not_false,Bool.or_true,hr,Bool.and_self]
   ·rw [HF];exact .inr ⟨r,o+n,c-n,_,cs,f,b,ro,rest,by rw [hlen],.inl rfl,by omega,h2,h3,rfl,hd⟩
  ·refine ⟨.slice (bif Nat.beq C n then some ⟨r,o,none⟩ else Ha (some ⟨r,o,none⟩) (n*1)) (l.length-n) (C-n),?_,?_⟩
   ·unfold AP;simp only [T.us,T.sz,BV.2 hc,Cf,bounds,GK,DW,Bj.2 hn,Option.isSome_none,Bool.not_false,Bool.or_true,Ct]
   ·rw [HF];cases hb:Nat.beq C n with
    |false=>exact .inr ⟨r,o+n,C-n,C-n,cs,f,b,ro,rest,by rw [hlen,Cf],.inr ⟨rfl,by omega⟩,by omega,h2,h3,rfl,hd⟩
    |true=>
     have e:=Nb hb;have hnil:l.drop n=[]:=List.drop_eq_nil_of_le (by omega);refine .inr ⟨r,o,C-n,C-n,cs,f,b,ro,cs.drop o,by rw [hlen,Ct],.inr ⟨rfl,by omega⟩,by omega,h2,h3,rfl,?_⟩;rw [hnil];rfl
end
variable {A:AW} {l:List UInt8} {F:List Nat}
section
variable {P:Program} {tb ts tst:TypeId}
theorem VB(a b:Nat):least a b=min a b:=RJ a b
theorem Aba(A:AW)(a:Addr):A.cells? a 0=some []:=by unfold AW.cells?;rfl
theorem RdB.copy{v:Value}(h:RdB A v l F){n:Nat}(hn:n<=l.length):HP A 1 n v=some (AI (l.take n)):=by
 rcases h with ⟨rfl,_,o,c,rfl⟩ | ⟨r,o,c,cs,e,f,b,ro,rest,rfl,h2,_,_,h4⟩
 ·obtain rfl:n=0:=by simpa using hn
  cases o with
  |none=>rfl
  |some a=>exact Aba A a
 ·unfold HP;simp only [Nat.mul_one,Cg h2,h4];have e:AI l++rest=AI (l.take n)++(AI (l.drop n)++rest):=by rw [Ja,He,<- Mw,List.take_append_drop]
  have:=FJ (AI (l.take n)) (AI (l.drop n)++rest) (Kq _)
  rw [BE,List.length_take,Nat.min_eq_left hn] at this;rw [e,this]
theorem RdB.OE{A:AW}{v:Value}{l:List UInt8}{F:List Nat}(h:RdB A v l F):OE v=some l.length:=by
 obtain ⟨a,c,rfl⟩:=h.slice;rfl
theorem UN {b dl dc:Nat} {cs:List Value} {x:Value} {K:Value->AW->Prop} (T:BT P tb ts tst) (hd:AS A b cs tb) (h:RdB A x l F) (hf:Aw A) (hA:A.next<=Am) (hcs:min l.length dl<=cs.length)
  (hk:∀ A' v,AS A' b (Ek cs 0 (AI (l.take (min l.length dl)))) tb->Aj A A' [b]->A'.next=A.next->Aw A'->K v A'):Au (Lx P A ts (.slice (some ⟨b,0,none⟩) dl dc) x) K:=by
 have hlt:=hd.lt;obtain ⟨A',h1,w⟩:=Gk (new:=AI (l.take (min l.length dl))) (off:=0) hd.row hd.mem (by rw [BE,List.length_take];omega) (Kp _) (by omega);have e:Lx P A ts (.slice (some ⟨b,0,none⟩) dl dc) x=.ok (.int .i64 (min l.length dl:Nat)) A':=by
  unfold Lx;simp only [T.sl,T.sz,h.OE,VB,h.copy (show min l.length dl<=l.length by omega),h1]
 rw [e];exact Ba.2 (hk A' _ ⟨w.row,by rw [w.mem];exact hd.mem,by rw [w.next];exact hd.lt⟩ (w.keeps hd.row) w.next (w.Ay hf hd.row))
def AgI(P:Program)(U:Nat)(w:AW)(t t2:TypeId)(s x:Value):R Value:=
 match BL P t,s with
 |some e,.slice base n cap=>
  (match szT P e,E9 P e with
  |some 0,_=>.fail "append size 0"
  |some size,some bytes=>
   match B3 P w e t2 size x with
   |none=>.fail "append source"
   |some (m,new)=>
    let need:=n+m
    bif !(Nat.blt need room&&Nat.blt (need*bytes) room&&DG P e size) then .fail "append room" else
    match m with
    |0=>.ok s w
    |_+1=>
     let lb:=bif Nat.ble U cap then cap-U else cap
     bif Nat.ble need lb then
      match base with
      |none=>.fail "append nil with room"
      |some a=>(match w.setCells (FY a (n*size)) new with
       |some w'=>.ok (.slice base need cap) w'
       |none=>.fail "append set")
     else bif Nat.ble U cap then
      match base with
      |none=>.fail "append nil with unknown capacity"
      |some a=>match a.spot,w.get a.block with
       |none,some (.row _ e' fam b0 false)=>
        bif !(Nat.beq e' e&&new.all AT) then .fail "append elements" else
        (match w.C2 a (n*size) with
        |none=>.fail "append old cells"
        |some old=>
         match (BU (b0+a.off+n*size) (w.members fam) w).IX (old++new) e fam (b0+a.off) with
         |some (a',w')=>.ok (.slice (some a') need (U+need)) w'
         |none=>.fail "append new")
       |_,_=>.fail "append base row"
     else
      match (match base with | some a=>w.C2 a (n*size) | none=>some []) with
      |none=>.fail "append old cells"
      |some old=>(match w.new (.row (old++new) e w.next 0 false) with
       |some (b,w')=>.ok (.slice (some ⟨b,0,none⟩) need (U+need)) w'
       |none=>.fail "append new")
  |_,_=>.fail "append type")
 |_,_=>.fail "append"
theorem Ad8(A:AW)(t t2:TypeId)(s x:Value):AJ P A t t2 s x=AgI P Bx A t t2 s x:=rfl
end
end Go.Abs
namespace Go.Proofs.YtbchfeibhoobeaaGreatDoor
open Go.Abs Go.Crc
variable {n a b i r:Nat} {t:TypeId} {xo yo:Operand} {A:AW} {K:Value->AW->Prop} {x:Value} {l:List UInt8} {F:List Nat}
theorem VY(h:n<4294967296):(BitVec.ofInt 32 (n:Int)).toNat=n:=by
 rw [BitVec.toNat_ofInt]
 have:((2^32:Nat):Int)=4294967296:=by decide
 rw [this];omega
theorem wrap_u32(h:n<4294967296):IntKind.u32.wrap (n:Int)=(n:Int):=by
 simp [IntKind.wrap,IntKind.bits,IntKind.signed];omega
theorem Jy{P:Program}(ha:a<4294967296)(hb:b<4294967296):Ai P .xor t xo yo (.int .u32 (a:Int)) (.int .u32 (b:Int))=some (.int .u32 ((a ^^^ b:Nat):Int)):=by
 have e:IntKind.u32.wrap ((BitVec.ofInt 32 (a:Int) ^^^ BitVec.ofInt 32 (b:Int)).toNat:Int)=((a ^^^ b:Nat):Int):=by
  rw [BitVec.toNat_xor,VY ha,VY hb];exact wrap_u32 (Nat.xor_lt_two_pow (n:=32) ha hb)
 have:Ai P .xor t xo yo (.int .u32 (a:Int)) (.int .u32 (b:Int))=some (.int .u32 (IntKind.u32.wrap ((BitVec.ofInt 32 (a:Int) ^^^ BitVec.ofInt 32 (b:Int)).toNat:Int))):=by
  rfl
 rw [this,e]
theorem AdZ(a:Nat):a&&& 15=a%16:=Nat.and_two_pow_sub_one_eq_mod a 4
theorem V2{P:Program}(ha:a<4294967296):Ai P .and t xo yo (.int .u32 (a:Int)) (.int .u32 15)=some (.int .u32 ((a%16:Nat):Int)):=by
 have e:IntKind.u32.wrap ((BitVec.ofInt 32 (a:Int)&&& BitVec.ofInt 32 ((15:Nat):Int)).toNat:Int)=((a%16:Nat):Int):=by
  rw [BitVec.toNat_and,VY ha,VY (by decide),AdZ];exact wrap_u32 (by omega)
 have:Ai P .and t xo yo (.int .u32 (a:Int)) (.int .u32 15)=some (.int .u32 (IntKind.u32.wrap ((BitVec.ofInt 32 (a:Int)&&& BitVec.ofInt 32 ((15:Nat):Int)).toNat:Int))):=by
  rfl
 rw [this,e]
theorem Yz(h:n<4294967296):4294967295 ^^^ n=4294967295-n:=by
 apply Nat.eq_of_testBit_eq;intro i;have e1:4294967295-n=2^32-(n+1):=by omega
 rw [e1,Nat.testBit_two_pow_sub_succ (by omega),Nat.testBit_xor,show (4294967295:Nat)=2^32-1 by rfl,Nat.testBit_two_pow_sub_one];by_cases hi:i<32
 ·simp [hi]
 ·have:n.testBit i=false:=Nat.testBit_lt_two_pow (Nat.lt_of_lt_of_le h (Nat.pow_le_pow_right (n:=2) (by decide) (show 32<=i by omega)))
  simp [hi,this]
theorem Kz{P:Program}(h:n<4294967296):unA P .xor (.int .u32 (n:Int))=some (.int .u32 ((4294967295-n:Nat):Int)):=by
 have e:IntKind.u32.wrap ((BitVec.ofInt 32 ((4294967295:Nat):Int) ^^^ BitVec.ofInt 32 (n:Int)).toNat:Int)=((4294967295-n:Nat):Int):=by
  rw [BitVec.toNat_xor,VY (by decide),VY h,Yz h];exact wrap_u32 (by omega)
 have:unA P .xor (.int .u32 (n:Int))=some (.int .u32 (IntKind.u32.wrap ((BitVec.ofInt 32 ((4294967295:Nat):Int) ^^^ BitVec.ofInt 32 (n:Int)).toNat:Int))):=by
  rfl
 rw [this,e]
theorem YL(a s:Nat):((a:Int).fdiv (2^s))=((a/2^s:Nat):Int):=by
 rw [Int.fdiv_eq_ediv_of_nonneg _ (Int.pow_nonneg (by decide)),show (2:Int)^s=((2^s:Nat):Int) by rw [Int.natCast_pow];rfl];rfl
def Aco:List Value:=tab.map λ(n:Nat)=>.int .u32 (n:Int)
structure Glb (A:AW):Prop where
 row:A.get 0=some (.row Aco 204 0 0 true)
 lt:0<A.next
theorem Glb.keeps{A':AW}{S:List Nat}(h:Glb A)(k:Aj A A' S)(hn:0∉S):Glb A':=⟨k.get 0 _ h.row h.lt hn,Nat.lt_of_lt_of_le h.lt k.next⟩
theorem WA(h:Glb A)(hi:i<16):∃ a,Ak Tp 204 (pP 0 0) (.int .u32 (i:Int))=some (.pointer (some a))/\A.cell? a=some (.int .u32 ((tab.getD i 0:Nat):Int)):=by
 refine ⟨⟨0,i,none⟩,?_,?_⟩
 ·show Ak Tp 204 _ (.int .u32 (.ofNat i))=_;rw [Aa1,AF.2 hi,Ct];unfold FY;cases hb:Nat.beq (i*1) 0 with
  |true=>rw [Ct];have:=Nb hb;rw [Nat.mul_one] at this;rw [this]
  |false=>rw [Cf,Nat.mul_one,Nat.zero_add]
 ·rw [Ae h.row];refine GX ?_ rfl;unfold Aco;have hl:i<tab.length:=hi;rw [List.getElem?_map,Ge hl];simp [List.getD,Ge hl]
theorem Aak:∀ i,i<16->tab.getD i 0<4294967296:=by decide
theorem AaI(h:r<4294967296):nib r<4294967296:=by rw [NL];exact Nf 4 h
section
variable {W0:World} {m0:Inj Tp}
theorem RA{K:Value->Prop}(hg:Glb A)(hr:r<4294967296){o1 o2 o3 o4 o5 o6:Operand}(hk:K (.int .u32 ((nib r:Nat):Int))):
  Aa (Ai Tp .shr 24 o1 o2 (.int .u32 (r:Int)) (.int .u64 4)) λt5=>Aa (Ai Tp .and 24 o3 o4 (.int .u32 (r:Int)) (.int .u32 15)) λt6=>Aa (Ak Tp 204 (pP 0 0) t6) λt7=>Aa (Af Tp A 24 t7) λt8=>Aa (Ai Tp .xor 24 o5 o6 t5 t8) λt9=>K t9:=by
 have hi:r%16<16:=Nat.mod_lt _ (by decide);obtain ⟨a,h1,h2⟩:=WA hg hi;rw [Ip (by decide)];have e1:(r:Int).fdiv (2^(min (4:Int).toNat (IntKind.bits .u32)))=((r/16:Nat):Int):=YL r 4;rw [e1];simp only [V2 hr,Ab,h1,AcZ,h2];rw [Jy (by omega) (Aak _ hi)];exact Ab.2 hk
theorem AbZ{s0:Nat}(h:RdB A x l F)(hg:Glb A)(hl:l.length<1000000)(hs:s0<4294967296)(hk:K (.int .u32 ((4294967295-I8 (4294967295-s0) l:Nat):Int)) A):Wc Tp An W0 m0 145 [.int .u32 (s0:Int),x] A K:=by
 let I:Nat->Nat->List Value->AW->Prop:=λg id vals A'=>id=0/\A'=A/\∃ i:Nat,vals=[x,.int .u32 ((I8 (4294967295-s0) (l.take i):Nat):Int),.int .i64 (l.length:Int),.int .i64 (i:Int)]/\g=l.length-i/\i<=l.length;refine AeY _ _ _ (c145 (I:=I) ?_) ?_
 ·rintro g id vals A' d ⟨rfl,rfl,i,rfl,rfl,hi⟩ hd;rw [AaT];simp only [Yo,Mc,Mn,Li,and_true] at hd;obtain ⟨h1,h5,h10,h11⟩:=hd;have hr:I8 (4294967295-s0) (l.take i)<4294967296:=Qx _ (by omega);obtain ⟨r,hre⟩:∃ r,I8 (4294967295-s0) (l.take i)=r:=⟨_,rfl⟩;rw [hre] at h5 hr;simp only [h1,h5,h10,h11,AU,Ab,Ao];refine ⟨λhlt=>?_,λhge=>?_⟩
  ·have hlt:i<l.length:=by omega
   have hc:=Ge hlt;obtain ⟨a,a1,a2⟩:=h.at tb hc;have hcl:=Nd l[i];have ec:IntKind.u32.wrap ((l[i].toNat:Nat):Int)=((l[i].toNat:Nat):Int):=wrap_u32 hcl;simp only [a1,Kg,a2,Ab,UM,Ba,ec,Jy hr hcl];have hx:r ^^^ l[i].toNat<4294967296:=Nat.xor_lt_two_pow (n:=32) hr hcl;refine RA hg hx ?_;refine RA hg (AaI hx) ?_;simp only [AY,Ab];rw [wrap_i64 (by omega) (by omega),YX];refine Ar.2 ⟨l.length-(i+1),by omega,rfl,rfl,i+1,?_,rfl,by omega⟩;rw [List.take_add_one,hc];have e:I8 (4294967295-s0) (l.take i++(some l[i]).toList)=Go.Crc.bits 8 (r ^^^ l[i].toNat):=by
    rw [ME,hre];rfl
   rw [e];rfl
  ·have hi':i=l.length:=by omega
   rw [hi',List.take_length] at hre;rw [Kz hr];refine Ab.2 ?_;rw [<- hre];exact hk
 ·rw [Af2];rw [Kz hs];simp only [h.len tb,Ab];exact Ar.2 ⟨l.length,rfl,rfl,0,rfl,rfl,by omega⟩
theorem ZF(h:RdB A x l F)(hg:Glb A)(hl:l.length<1000000)(hk:K (.int .u32 ((EV l:Nat):Int)) A):Wc Tp An W0 m0 123 [x] A K:=by
 refine Afc _ _ BF ?_;rw [Agg];exact AbZ (s0:=0) h hg hl (by decide) hk
theorem Qd{s:Nat}(h:i<4):(le4 s)[i]? =some (UInt8.ofNat (s/256^i)):=by
 have hc:i=0\/i=1\/i=2\/i=3:=by omega
 rcases hc with rfl | rfl | rfl | rfl<;>simp [le4]
theorem AbA (h:RdB A x l F) (hg:Glb A) (hf:Aw A) (hA:A.next+5<Am) (hl:l.length<900000)
  (hk:∀ A' v F',Grow A A' 1->Buf 5 A' v (Go.Crc.Dy l) F'->(∀ x∈F',A.next<=x)->K v A'):Wc Tp An W0 m0 99 [x] A K:=by
 have hroom:room=68719476736:=rfl;have hlt:=h.lt;obtain ⟨a0,c0,hx⟩:=h.slice;let I:Nat->Nat->List Value->AW->Prop:=λg id vals A'=>id=0/\∃ i:Nat,vals=[x,.slice (some ⟨A.next,0,none⟩) (l.length+4) (l.length+4),.int .u32 ((EV l:Nat):Int),.int .i64 (i:Int)]/\g=4-i/\i<=4/\
  Go.Abs.AS A' A.next (AI (l++(le4 (EV l)).take i)++List.replicate (4-i) (.int .u8 0)) 5/\Grow A A' 1/\A'.next=A.next+1
 refine w99 _ _ (c99 (I:=I) ?_) ?_
 ·rintro g id vals A' d ⟨rfl,i,rfl,rfl,hi,hr,hgr,hn⟩ hd;rw [Ac0];simp only [L99,Mc,Mn,Li,and_true] at hd;obtain ⟨h0,h3,h4,h15⟩:=hd;have hx':Bd Tp A' 41 x=some (.int .i64 (l.length:Int)):=by rw [hx];exact Uy _ _ _ _
  simp only [h0,h3,h4,h15,AU,Ab,Ao];refine ⟨λhlt=>?_,λhge=>?_⟩
  ·have hlt:i<4:=by omega
   have hlen:Bd Tp A' 41 x=some (.int .i64 (l.length:Int)):=by rw [hx];exact Uy _ _ _ _
   simp only [hlen,AY,LD,Ab];rw [wrap_i64 (n:=(l.length:Int)+i) (by omega) (by omega),wrap_i64 (n:=8*(i:Int)) (by omega) (by omega),Ip (by omega)];have e3:min (8*(i:Int)).toNat (IntKind.bits .u32)=8*i:=by show min _ 32=_;omega
   rw [e3];simp only [Ab,Nc,Ba,Im];have hia:Ak Tp 41 (.slice (some ⟨A.next,0,none⟩) (l.length+4) (l.length+4)) (.int .i64 ((l.length:Int)+i))=some (.pointer (some ⟨A.next,l.length+i,none⟩)):=by
    show Ak Tp 41 _ (.int .i64 (.ofNat (l.length+i)))=_;rw [Xx,AF.2 (by omega),Ct];unfold FY;cases hb:Nat.beq ((l.length+i)*1) 0 with
    |true=>rw [Ct];have:=Nb hb;rw [Nat.mul_one] at this;rw [this]
    |false=>rw [Cf,Nat.mul_one,Nat.zero_add]
   rw [hia];simp only [Ab];refine hr.store hgr.Ay (by omega) (Aao _ _ _) rfl (by simp [Value.cells,BE,Kf];omega) rfl λA2 r2 k2 n2 f2=>?_;have e4:4-i=(4-(i+1))+1:=by omega
   have e5:l.length+i=(AI (l++(le4 (EV l)).take i)).length:=by rw [BE,Lq,List.length_take,Kf];omega
   have hs:Ek (AI (l++(le4 (EV l)).take i)++List.replicate (4-i) (Value.int .u8 0)) (l.length+i) (Value.cells (.int .u8 ((UInt8.ofNat (EV l/256^i)).toNat:Int))).toList=AI (l++(le4 (EV l)).take (i+1))++List.replicate (4-(i+1)) (.int .u8 0):=by
    rw [e4,List.replicate_succ,e5]
    have:=Hw (AI (l++(le4 (EV l)).take i)) [Value.int .u8 0] [Value.int .u8 ((UInt8.ofNat (EV l/256^i)).toNat:Int)] (List.replicate (4-(i+1)) (.int .u8 0)) rfl
    refine this.trans ?_;rw [List.take_add_one,Qd hlt,<- Mw,DT,DT,DT];simp [AI]
   rw [hs] at r2;rw [wrap_i64 (by omega) (by omega)];exact Ar.2 ⟨4-(i+1),by omega,rfl,i+1,rfl,rfl,by omega,r2,(hgr.own k2 (by simp) (m:=0) (by omega) f2),by omega⟩
  ·have hi':i=4:=by omega
   subst hi';have e:AI (l++(le4 (EV l)).take 4)++List.replicate (4-4) (Value.int .u8 0)=AI (Go.Crc.Dy l)++[]:=rfl;rw [e] at hr;refine hk A' _ [A.next] hgr (.inr (.inr ⟨A.next,l.length+4,[],by rw [Dx],by omega,hr,by rw [Dx];rfl,rfl,rfl⟩)) (by simp)
 ·rw [e99];simp only [h.len tb,AY,Ab];rw [wrap_i64 (by omega) (by omega),show (l.length:Int)+4=((l.length+4:Nat):Int) by omega];refine Jo tb hf (by omega) (Nl _) (by omega) λA1 m1=>?_;have n1:=m1.next;have k1:=m1.keeps hf;refine UN tb m1.BB (h.keeps k1 (by simp)) m1.Ay (by omega) (by rw [List.length_replicate];omega) λA2 vv r2 k2 n2 f2=>?_;rw [Nat.min_eq_left (by omega),List.take_length] at r2;have g2:Grow A A2 1:=(Grow.made m1 hf).own k2 (by simp) (m:=0) (by omega) f2;have hx2:=h.keeps g2.keeps (by simp);have hg2:=hg.keeps g2.keeps (by simp);refine ZF hx2 hg2 (by omega) ?_;refine Ar.2 ⟨4,rfl,0,rfl,rfl,by omega,?_,g2,by omega⟩;have e:Ek (List.replicate (l.length+4) (Value.int .u8 0)) 0 (AI l)=AI (l++(le4 (EV l)).take 0)++List.replicate (4-0) (.int .u8 0):=by
   rw [List.replicate_append_replicate.symm]
   have:=Hw [] (List.replicate l.length (Value.int .u8 0)) (AI l) (List.replicate 4 (.int .u8 0)) (by rw [List.length_replicate,BE])
   simp only [List.nil_append,Ln] at this;rw [this]
   simp
  rw [<- e];exact r2
theorem X0(h:Go.Abs.AS A b (AI l) 5)(hl:l.length<1000000):Buf 5 A (.slice (some ⟨b,0,none⟩) l.length l.length) l [b]:=
 .inr (.inr ⟨b,l.length,[],rfl,by have:room=68719476736:=rfl;omega,by simpa using h,rfl,rfl,rfl⟩)
end
end Go.Proofs.YtbchfeibhoobeaaGreatDoor
namespace Go.Proofs.YtbchfeibhoobeaaGreatDoor
open Go.Abs
variable {A:AW} {v r:Nat} {bs:Value} {bad:Bool} {K:Value->AW->Prop} {l:List UInt8} {F:List Nat}
theorem ZM(a:Addr)(xo yo:Operand):Ai Tp .eql 147 xo yo (.pointer (some a)) (.pointer none)=some (.bool false):=by kernel_rfl
theorem AcA(a:Addr)(xo yo:Operand):Ai Tp .neq 147 xo yo (.pointer (some a)) (.pointer none)=some (.bool true):=by kernel_rfl
theorem ZL(a:Addr)(xo yo:Operand):Ai Tp .eql 167 xo yo (.pointer (some a)) (.pointer none)=some (.bool false):=by kernel_rfl
theorem Acz(a:Addr)(xo yo:Operand):Ai Tp .neq 167 xo yo (.pointer (some a)) (.pointer none)=some (.bool true):=by kernel_rfl
theorem Al(a:Addr):AD (.pointer (some a))=some (.pointer (some a)):=rfl
theorem AdV(o:Option Addr)(n c:Nat):Bp Tp 169 [(0,.slice o n c),(1,.bool true)]=some (.agg ⟨[.slice o n c,.bool true,.bool false]⟩):=by kernel_rfl
theorem AdU(o:Option Addr):Bp Tp 171 [(0,.pointer o)]=some (.agg ⟨[.pointer o]⟩):=by kernel_rfl
structure OR (A:AW) (r v:Nat) (l:List UInt8) (bad:Bool) (F:List Nat):Prop where
 rr:Go.Abs.AS A r [pP v 0] 171
 ex:∃ bs,Go.Abs.AS A v [bs,.bool true,.bool bad] 169/\RdS 5 A bs l F
 hb:bad=true->l=[]
 ne:r≠v
 hv:v∉F
section
variable {W0:World} {m0:Inj Tp}
theorem AbN(h:Go.Abs.AS A v [bs,.bool true,.bool bad] 169)(hbs:isTuple bs=false)(hk:K (.bool bad) A):Wc Tp An W0 m0 186 [pP v 0] A K:=by
 refine AeM _ _ BF ?_;rw [AfQ];simp only [ZL,Al,XE,R6,Fh,Ae h.row,cellOf,hbs,Bt,Cf,Ab,Bg,Nat.zero_add];refine Ag.2 ⟨λh=>by simp at h,λ_=>Ag.2 ⟨λh=>?_,λh=>?_⟩⟩
 ·subst h;exact hk
 ·subst h;exact hk
theorem AbU(h:OR A r v l bad F)(hk:K (.bool bad) A):Wc Tp An W0 m0 166 [pP r 0] A K:=by
 obtain ⟨bs,h1,h2⟩:=h.ex;refine AeR _ _ BF ?_;rw [AfV];simp only [ZM,Al,I5,NQ,Ae h.rr.row,cellOf,Ax,Cf,Ab];refine Ag.2 ⟨λh=>by simp at h,λ_=>?_⟩;exact AbN h1 h2.rd.one.2 hk
theorem AbM{b1 b2:Value}(h:Go.Abs.AS A v [bs,b1,b2] 169)(hbs:RdS 5 A bs l F)(hk:K (.int .i64 (l.length:Int)) A):Wc Tp An W0 m0 187 [pP v 0] A K:=by
 refine AeL _ _ BF ?_;rw [AfP];simp only [ZL,Al,Lm,RK,Ae h.row,cellOf,hbs.rd.one.2,Cf,hbs.rd.len tb,Ab];exact Ag.2 ⟨λh=>by simp at h,λ_=>hk⟩
theorem AbT(h:OR A r v l bad F)(hk:K (.int .i64 (l.length:Int)) A):Wc Tp An W0 m0 167 [pP r 0] A K:=by
 obtain ⟨bs,h1,h2⟩:=h.ex;refine AeQ _ _ BF ?_;rw [AfU];simp only [ZM,Al,I5,NQ,Ae h.rr.row,cellOf,Ax,Cf,Ab];refine Ag.2 ⟨λh=>by simp at h,λ_=>?_⟩;exact AbM h1 h2 hk
theorem Ab1(h:OR A r v l bad F)(hf:Aw A)(hA:A.next<Am)(hk:∀ A',OR A' r v [] true []->Aj A A' [v]->A'.next=A.next->Aw A'->K (.tuple ⟨[]⟩) A'):Wc Tp An W0 m0 137 [pP r 0] A K:=by
 obtain ⟨bs,h1,h2⟩:=h.ex;refine Ae1 _ _ BF ?_;rw [Af5];simp only [AcA,Acz,Al,I5,Lm,R6,NQ,Ae h.rr.row,cellOf,Ax,Cf,Ab,Nat.zero_add];refine Ag.2 ⟨λ_=>Ag.2 ⟨λ_=>?_,λh=>by simp at h⟩,λh=>by simp at h⟩;refine h1.store hf (by omega) (Uj _ _ _) rfl (by simp) rfl λA2 r2 k2 n2 f2=>?_;have r2:Go.Abs.AS A2 v [.slice none 0 0,.bool true,.bool bad] 169:=r2;refine r2.store f2 (by omega) (JZ _ _ _) rfl (by simp) rfl λA3 r3 k3 n3 f3=>?_;have r3:Go.Abs.AS A3 v [.slice none 0 0,.bool true,.bool true] 169:=r3;have hrv:r∉[v]:=by simpa using h.ne
 exact hk A3 ⟨(h.rr.keeps k2 hrv).keeps k3 hrv,⟨_,r3,.nil _ _⟩,λ_=>rfl,h.ne,by simp⟩ (k2.trans k3 (λx hx=>.inl hx)) (by omega) f3
end
variable {A:AW} {K:Value->AW->Prop} {b a:Int} {t:TypeId} {xo yo:Operand} {F:List Nat} {r v:Nat}
theorem AcE(xo yo:Operand):Ai Tp .eql 41 xo yo (.slice none 0 0) (.slice none 0 0)=some (.bool true):=by kernel_rfl
theorem AcD(a:Addr)(n c:Nat)(xo yo:Operand):Ai Tp .eql 41 xo yo (.slice (some a) n c) (.slice none 0 0)=some (.bool false):=by kernel_rfl
theorem Abg(A:AW):Av Tp A 41 0 []=(match A.newRow [] 5 with | some (a,w')=>.ok (.slice (some a) 0 0) w' | none=>.fail "buildSlice new"):=by kernel_rfl
theorem Zp(hf:Aw A)(h:A.next<Am)(hk:∀ A',Made A A' [] 5->K (.slice (some ⟨A.next,0,none⟩) 0 0) A'):Au (Av Tp A 41 0 []) K:=by
 rw [Abg];unfold AW.newRow AW.new;simp only [show (([]:List Value).all AT)=true from rfl,Ct,AF.2 h];exact Ba.2 (hk (A.push (.row [] 5 A.next 0 false)) ⟨AW.B7 _ h,rfl,by rw [AW.BP _ h,if_pos rfl],hf.alone (Nl _),hf.push _ h⟩)
theorem Abc{b:Nat}(h:Go.Abs.AS A b [] 5):Buf 5 A (.slice (some ⟨b,0,none⟩) 0 0) [] [b]:=.inr (.inr ⟨b,0,[],rfl,by decide,by simpa [AI] using h,rfl,rfl,rfl⟩)
theorem Zs{P:Program}{k k2:IntKind}(hb:¬ b<0):Ai P .shl t xo yo (.int k a) (.int k2 b)=some (.int k (k.wrap (a*2^(min b.toNat k.bits)))):=by simp [Ai,binOp,Op.shift,hb,quiet,CN,AM,pure]
theorem Abl{P:Program}{k:IntKind}:Ai P .or t xo yo (.int k a) (.int k b)=some (.int k (k.wrap ((BitVec.ofInt k.bits a ||| BitVec.ofInt k.bits b).toNat:Int))):=by simp [Ai,binOp,Op.intBits,quiet,CN,AM,pure]
theorem AaC{a c:Nat}(hc:c<256)(h:a*256+c<18446744073709551616):IntKind.u64.wrap ((BitVec.ofInt (IntKind.bits .u64) ((a*256:Nat):Int) ||| BitVec.ofInt (IntKind.bits .u64) (c:Int)).toNat:Int)=((a*256+c:Nat):Int):=by
 have e:(BitVec.ofInt 64 ((a*256:Nat):Int) ||| BitVec.ofInt 64 (c:Int)).toNat=a*256+c:=by
  have h1:(a*256)%2^64=a*256:=Nat.mod_eq_of_lt (Nat.lt_of_le_of_lt (Nat.le_add_right _ c) h);have h2:c%2^64=c:=Nat.mod_eq_of_lt (Nat.lt_trans hc (by decide));rw [BitVec.toNat_or,BitVec.ofInt_natCast,BitVec.ofInt_natCast,BitVec.toNat_ofNat,BitVec.toNat_ofNat,h1,h2]
  have:=Nat.shiftLeft_add_eq_or_of_lt (i:=8) (show c<2^8 by omega) a
  rw [Nat.shiftLeft_eq] at this;exact this.symm
 show IntKind.u64.wrap ((BitVec.ofInt 64 ((a*256:Nat):Int) ||| BitVec.ofInt 64 (c:Int)).toNat:Int)=_;rw [e,wrap_u64 (by omega) (by omega)]
abbrev St:=List UInt8 × Bool
def tk(n:Nat)(s:St):List UInt8 × St:=if s.2=true\/s.1.length<n then ([],([],true)) else (s.1.take n,(s.1.drop n,false))
def FU(l:List UInt8):Nat:=l.foldl (λa c=>a*256+c.toNat) 0
theorem GZ(l:List UInt8)(c:UInt8):FU (l++[c])=FU l*256+c.toNat:=by simp [FU]
theorem Jc:∀ (l:List UInt8),FU l<256^l.length:=by
 intro l
 induction h:l.length generalizing l with
 |zero=>have:=List.eq_nil_of_length_eq_zero h;subst this;decide
 |succ n ih=>
  have hne:l≠[]:=by intro h0;subst h0;simp at h
  obtain ⟨q,c,rfl⟩:∃ q c,l=q++[c]:=⟨l.dropLast,l.getLast hne,(List.dropLast_concat_getLast hne).symm⟩
  have:=ih q (by simpa using h)
  have hc:c.toNat<256:=c.toNat_lt;rw [GZ,Nat.pow_succ];omega
def nm(w:Nat)(s:St):Nat × St:=(FU (tk w s).1,(tk w s).2)
theorem Wz(n:Nat)(s:St):(tk n s).1.length<=n:=by
 unfold tk;split
 ·exact Nat.zero_le _
 ·rw [List.length_take];omega
section
variable {W0:World} {m0:Inj Tp}
theorem ZD {x:Value} {l:List UInt8} (h:RdS 5 A x l F) (hf:Aw A) (hA:A.next+2<Am) (hl:l.length<1000000)
  (hk:∀ A' v F',Grow A A' 2->RdS 5 A' v l F'->(∀ y∈F',A.next<=y)->K v A'):Wc Tp An W0 m0 136 [x] A K:=by
 have hroom:room=68719476736:=rfl;refine Ae2 _ _ BF ?_;rw [Af6];obtain ⟨o,c,rfl⟩:=h.rd.slice;have hlt:=h.rd.lt;cases o with
 |none=>
  obtain ⟨hn,rfl⟩:l=[]/\c=0:=by
   rcases h with ⟨h1,_,o',c',h2,_,h3⟩ | ⟨r,o,c,C,cs,f,b,ro,rest,h1,_⟩
   ·simp only [Value.slice.injEq] at h2;exact ⟨h1,by rw [h2.2.2];exact h3 h2.1.symm⟩
   ·simp at h1
  subst hn;rw [Ln];simp only [AcE,Ab];exact Ag.2 ⟨λ_=>hk A _ [] ((Grow.refl hf).more (by omega)) (.nil _ _) (by simp),λh=>by simp at h⟩
 |some a=>
  simp only [AcD,Ab];refine Ag.2 ⟨λh=>by simp at h,λ_=>?_⟩;refine Zp hf (by omega) λA1 m1=>?_;have n1:=m1.next;refine C7 tb (Abc m1.BB) (C6 tb (h.rd.keeps (m1.keeps hf) (by simp))) m1.Ay (by omega) (by simp;omega) λv2 A2 F2 b2 k2 hF2 n2 f2=>?_;rw [List.nil_append] at b2;refine hk A2 v2 F2 ((Grow.made m1 hf).own k2 (by simp) (m:=1) (by omega) f2) b2.rdS λy hy=>?_;rcases hF2 y hy with h | h
  ·simp at h;omega
  ·omega
theorem Ab0 {s:St} {n:Nat} (h:OR A r v s.1 s.2 F) (hf:Aw A) (hA:A.next+4<Am) (hl:s.1.length<1000000) (hn:n<1000000)
  (hk:∀ A' x F' Fo,OR A' r v (tk n s).2.1 (tk n s).2.2 F'->RdS 5 A' x (tk n s).1 Fo->Aj A A' [v]->A'.next<=A.next+2->Aw A'->(∀ y∈F',y∈F)->(∀ y∈Fo,A.next<=y)->K x A'):Wc Tp An W0 m0 138 [pP r 0,.int .i64 (n:Int)] A K:=by
 obtain ⟨l,bad⟩:=s;have h:OR A r v l bad F:=h;refine Ae0 _ _ _ BF ?_;rw [Af4];have spoil:(bad=true\/l.length<n)->Wc Tp An W0 m0 137 [pP r 0] A λ_ A'=>K (.slice none 0 0) A':=λhb=>by
  refine Ab1 h hf (by omega) λA' o' k' n' f'=>?_;have e:tk n (l,bad)=([],([],true)):=by unfold tk;rw [if_pos hb]
  rw [e] at hk;exact hk A' (.slice none 0 0) [] [] o' (.nil _ _) k' (by omega) f' (by simp) (by simp)
 refine AbU h ?_;refine Ag.2 ⟨λhb=>spoil (.inl hb),λhb=>?_⟩;simp only [AU,Ab,Ao];refine ⟨λh=>by omega,λ_=>?_⟩;refine AbT h ?_;simp only [BN,Ab,Ao];refine ⟨λh=>spoil (.inr (by omega)),λhle=>?_⟩;have hle:n<=l.length:=by omega
 obtain ⟨bs,h1,h2⟩:=h.ex;obtain ⟨x1,hx1,s1⟩:=h2.to tb hle;have e:tk n (l,bad)=(l.take n,(l.drop n,false)):=by unfold tk;rw [if_neg (by simp [hb];omega)]
 rw [e] at hk;simp only [Al,I5,Lm,NQ,RK,Ae h.rr.row,Ae h1.row,cellOf,Ax,h2.rd.one.2,Cf,hx1,Ab];refine ZD s1 hf (by omega) (by rw [List.length_take];omega) λA2 x2 F2 g2 s2 hF2=>?_;have n2:=g2.next;have r2:=h.rr.keeps g2.keeps (by simp);have q2:=h1.keeps g2.keeps (by simp);have t2:=h2.keeps g2.keeps (by simp);obtain ⟨x3,hx3,s3⟩:=t2.from tb hle
 simp only [Al,I5,Lm,NQ,RK,Ae r2.row,Ae q2.row,cellOf,Ax,h2.rd.one.2,Cf,hx3,Ab];have one3:=s3.rd.one;obtain ⟨o3,c3,hx⟩:=s3.rd.slice;refine q2.store g2.Ay (by omega) (Uj _ _ _) (by rw [hx];rfl) (by simp) (by rw [hx];rfl) λA3 r3 k3 n3 f3=>?_;have r3:Go.Abs.AS A3 v [x3,.bool true,.bool bad] 169:=by rw [hx] at r3 ⊢;exact r3
 rw [hb] at r3;have hrv:r∉[v]:=by simpa using h.ne
 have hvF:=h.hv;refine hk A3 x2 F F2 ⟨r2.keeps k3 hrv,⟨x3,r3,s3.keeps k3 λy hy=>by simp;intro h0;subst h0;exact hvF hy⟩,by simp,h.ne,h.hv⟩ (s2.keeps k3 λy hy=>by have:=hF2 y hy;have:=h1.lt;simp;omega) ?_ (by omega) f3 (λy hy=>hy) hF2;exact g2.keeps.more (by simp) |>.trans k3 (λy hy=>.inl hy)
theorem Aca {s:St} {w:Nat} (h:OR A r v s.1 s.2 F) (hf:Aw A) (hA:A.next+4<Am) (hl:s.1.length<1000000) (hw:w=1\/w=2\/w=4\/w=8)
  (hk:∀ A' F',OR A' r v (nm w s).2.1 (nm w s).2.2 F'->Aj A A' [v]->A'.next<=A.next+2->Aw A'->(∀ y∈F',y∈F)->K (.int .u64 ((nm w s).1:Int)) A'):Wc Tp An W0 m0 114 [pP r 0,.int .i64 (w:Int)] A K:=by
 have hwl:w<=8:=by omega
 have hlen:=Wz w s;let I:Nat->Nat->List Value->AW->Prop:=λg' id vals A'=>id=0/\∃ (i:Nat) (x:Value) (F' Fo:List Nat),vals=[.int .u64 (FU ((tk w s).1.take i):Nat),x,.int .i64 ((tk w s).1.length:Int),.int .i64 (i:Int)]/\i<=(tk w s).1.length/\
  RdS 5 A' x (tk w s).1 Fo/\OR A' r v (tk w s).2.1 (tk w s).2.2 F'/\Aj A A' [v]/\A'.next<=A.next+2/\Aw A'/\(∀ y∈F',y∈F)/\g'=(tk w s).1.length-i
 refine Afd _ _ _ (Agw (I:=I) ?_) ?_
 ·rintro g' id vals A' d ⟨rfl,i,x,F',Fo,rfl,hi,hx,ho,k,n,f,hF,rfl⟩ hd;rw [AaW];simp only [Yq,Mc,Mn,Li,and_true] at hd;obtain ⟨h5,h15,h16,h17⟩:=hd;simp only [h5,h15,h16,h17,AU,Ab,Ao];refine ⟨λhlt=>?_,λhge=>?_⟩
  ·have hlt:i<(tk w s).1.length:=by omega
   obtain ⟨c,hc⟩:∃ c,(tk w s).1[i]? =some c:=⟨_,Ge hlt⟩;obtain ⟨a,a1,a2⟩:=hx.rd.at tb hc;have hcl:c.toNat<256:=c.toNat_lt;have hb:=Jc ((tk w s).1.take i);have hb1:=Jc ((tk w s).1.take (i+1));have e1:(tk w s).1.take (i+1)=(tk w s).1.take i++[c]:=by rw [List.take_add_one,hc];rfl
   rw [e1,GZ] at hb1;have hp:(256:Nat)^((tk w s).1.take i++[c]).length<=256^8:=Nat.pow_le_pow_right (by decide) (by rw [<- e1,List.length_take];omega);have hp8:(256:Nat)^8=18446744073709551616:=by decide
   simp only [a1,a2,Ab,Sj,Ba,AY];rw [Zs (by decide)];have e8:(FU ((tk w s).1.take i):Int)*2^(min (8:Int).toNat (IntKind.bits .u64))=((FU ((tk w s).1.take i)*256:Nat):Int):=by
    show (FU ((tk w s).1.take i):Int)*2^8=_;rw [Int.natCast_mul];rfl
   rw [e8,wrap_u64 (by omega) (by omega),wrap_u64 (by omega) (by omega),wrap_i64 (by omega) (by omega)];simp only [Ab];rw [Abl,AaC hcl (by omega)];simp only [Ab];refine Ar.2 ⟨(tk w s).1.length-(i+1),by omega,rfl,i+1,x,F',Fo,?_,by omega,hx,ho,k,n,f,hF,rfl⟩;rw [e1,GZ];rfl
  ·have hi:i=(tk w s).1.length:=by omega
   subst hi;rw [List.take_length];exact hk A' F' ho k n f hF
 ·rw [Agh];refine ZE ?_;have hb:((w:Int)==1 || ((w:Int)==2 || ((w:Int)==4 || (w:Int)==8)))=true:=by rcases hw with rfl | rfl | rfl | rfl<;>rfl
  rw [hb];simp only [Bg,Ab];refine Ag.2 ⟨λh=>by simp at h,λ_=>?_⟩;refine Ab0 h hf hA hl (by omega) λA' x F' Fo ho hx k n f hF hFo=>?_;simp only [hx.rd.len tb,Ab];exact Ar.2 ⟨(tk w s).1.length,rfl,0,x,F',Fo,rfl,Nat.zero_le _,hx,ho,k,n,f,hF,rfl⟩
end
section
variable {W0:World} {m0:Inj Tp}
theorem Acb {A:AW} {x:Value} {l:List UInt8} {F:List Nat} {K:Value->AW->Prop} (h:RdS 5 A x l F) (hf:Aw A) (hA:A.next+6<Am) (hl:l.length<1000000)
  (hk:∀ A' r v F',Grow A A' 4->OR A' r v l false F'->A.next<=r->A.next<=v->(∀ y∈F',A.next<=y)->K (pP r 0) A'):Wc Tp An W0 m0 113 [x] A K:=by
 refine Afe _ _ BF ?_;rw [Agi];refine ZD h hf (by omega) hl λA1 v1 F1 g1 s1 hF1=>?_;have n1:=g1.next;have l1:=g1.le;obtain ⟨o,c,e1⟩:=s1.rd.slice;have hlt:=s1.rd.lt;rw [e1,AdV];simp only [Ab];rw [<- e1];refine Bk (cs:=[v1,.bool true,.bool false]) g1.Ay (by omega) (by simp [s1.rd.one.1,Ry]) λA2 m2=>?_;have n2:=m2.next;rw [AdU];simp only [Ab];refine Bk (cs:=[pP A1.next 0]) m2.Ay (by omega) rfl λA3 m3=>?_;have n3:=m3.next;have k3:=m3.keeps m2.Ay;refine hk A3 A2.next A1.next F1 ((g1.trans (.made m2 g1.Ay)).trans (.made m3 m2.Ay)) ⟨m3.BB,⟨v1,m2.BB.keeps k3 (by simp),(s1.keeps (m2.keeps g1.Ay) (by simp)).keeps k3 (by simp)⟩,by simp,by omega,λhm=>by have:=hlt _ hm;omega⟩ (by omega) (by omega) hF1
end
end Go.Proofs.YtbchfeibhoobeaaGreatDoor
namespace Go.Proofs.YtbchfeibhoobeaaGreatDoor
open Go.Abs Go.Crc
variable {tb ts tst:TypeId} {A:AW} {a:Option Addr} {len n:Nat}
theorem KD{P:Program}(T:BT P tb ts tst){C:Nat}(hc:C<Bx)(hn:n<=C):AP P A ts (.slice a len C) none (some (.int .i64 (.ofNat n))) (some (.int .i64 (.ofNat n)))=some (.slice (bif Nat.beq n 0 then a else Ha a (0*1)) n n):=by
 unfold AP;simp only [T.us,T.sz,BV.2 hc,Cf,bounds,GK,DW,Bj.2 hn,Bj.2 (Nl n),Nat.sub_zero,Option.isSome_some,Bool.true_or,Ct]
theorem Q6{P:Program}(T:BT P tb ts tst){c:Nat}(hn:n<=c)(hr:n<Bx):AP P A ts (.slice a len (Bx+c)) none (some (.int .i64 (.ofNat n))) (some (.int .i64 (.ofNat n)))=some (.slice (Ha a (0*1)) n n):=by
 unfold AP;simp only [T.us,T.sz,Bj.2 (show Bx<=Bx+c from Nat.le_add_right _ _),Ct,bounds,GK,DW,Nat.add_sub_cancel_left,Bj.2 hn,Bj.2 (Nl n),Nat.sub_zero,Option.isSome_some,Bool.true_or,AF.2 hr]
theorem RdS.to3{P:Program}{v:Value}{l:List UInt8}{F:List Nat}(T:BT P tb ts tst)(h:RdS tb A v l F)(hn:n<=l.length)(hr:n<Bx):
  ∃ v',AP P A ts v none (some (.int .i64 (n:Int))) (some (.int .i64 (n:Int)))=some v'/\RdS tb A v' (l.take n) F:=by
 show ∃ v',AP P A ts v none (some (.int .i64 (.ofNat n))) (some (.int .i64 (.ofNat n)))=some v'/\_;rcases h with ⟨rfl,rfl,o,c,rfl,hc,hz⟩ | ⟨r,o,c,C,cs,f,b,ro,rest,rfl,hC,hl,h2,h3,rfl,h5⟩
 ·have hn0:n=0:=Nat.le_zero.1 hn;refine ⟨_,KD T hc (by omega),.inl ⟨List.take_nil,rfl,o,0,?_,by decide,λ_=>rfl⟩⟩;rw [hn0];rfl
 ·have hd:cs.drop o=AI (l.take n)++(AI (l.drop n)++rest):=by
   rw [h5,Ja,He,<- Mw,List.take_append_drop]
  have hlen:(l.take n).length=n:=by rw [List.length_take];omega
  have hfin:RdS tb A (.slice (some ⟨r,o,none⟩) n n) (l.take n) [f]:=.inr ⟨r,o,n,n,cs,f,b,ro,_,by rw [hlen],.inr ⟨rfl,hr⟩,by omega,h2,h3,rfl,hd⟩;rcases hC with rfl | ⟨rfl,hc⟩
  ·refine ⟨_,Q6 T (by omega) hr,?_⟩;rw [HF,Nat.add_zero];exact hfin
  ·refine ⟨_,KD T hc (by omega),?_⟩;rw [HF,Nat.add_zero];cases Nat.beq n 0
   ·rw [Cf];exact hfin
   ·rw [Ct];exact hfin
theorem Y6(h:n<1000000):n<Bx:=Nat.lt_of_lt_of_le h (by decide)
variable {l:List UInt8}
theorem AdL(h4:4<=l.length):Ck l=true↔l.drop (l.length-4)=le4 (EV (l.take (l.length-4))):=by
 unfold Ck;rw [decide_eq_true h4,Bool.true_and,beq_iff_eq];constructor
 ·intro h;have h2:=List.take_append_drop (l.length-4) l;have h3:l.take (l.length-4)++l.drop (l.length-4)=l.take (l.length-4)++le4 (EV (l.take (l.length-4))):=h2.trans h;exact List.append_cancel_left h3
 ·intro h;unfold Dy;rw [<- h,List.take_append_drop]
theorem O8(h4:4<=l.length):Ck l=true↔∀ i,i<4->l[l.length-4+i]? =(le4 (EV (l.take (l.length-4))))[i]? :=by
 rw [AdL h4];constructor
 ·intro h i _;rw [<- h,List.getElem?_drop]
 ·intro h;refine List.ext_getElem? λi=>?_;rw [List.getElem?_drop];by_cases hi:i<4
  ·exact h i hi
  ·rw [List.getElem?_eq_none (by omega),List.getElem?_eq_none (by rw [Kf];omega)]
theorem KE(h:l.length<4):Ck l=false:=by
 unfold Ck;rw [decide_eq_false (by omega)];rfl
section
variable {W0:World} {m0:Inj Tp}
theorem ZG {A:AW} {x:Value} {F:List Nat} {K:Value->AW->Prop} (h:RdS 5 A x l F) (hg:Glb A) (hf:Aw A) (hA:A.next+5<Am) (hl:l.length<900000)
  (h1:Ck l=true->∀ A' v F',Grow A A' 1->RdS 5 A' v (l.take (l.length-4)) F'->(∀ y∈F',A.next<=y)->K (.tuple ⟨[v,.bool true]⟩) A') (h2:Ck l=false->K (.tuple ⟨[.slice none 0 0,.bool false]⟩) A):
  Wc Tp An W0 m0 112 [x] A K:=by
 have hroom:room=68719476736:=rfl;let I:Nat->Nat->List Value->AW->Prop:=λg id vals A'=>id=0/\A'=A/\4<=l.length/\∃ i:Nat,vals=[x,.int .i64 ((l.length-4:Nat):Int),.int .u32 ((EV (l.take (l.length-4)):Nat):Int),.int .i64 (i:Int)]/\g=4-i/\i<=4/\
  ∀ j,j<i->l[l.length-4+j]? =(le4 (EV (l.take (l.length-4))))[j]?
 refine Aff _ _ (Agx (I:=I) ?_) ?_
 ·rintro g id vals A' d ⟨rfl,rfl,h4,i,rfl,rfl,hi,hj⟩ hd;rw [AaX];simp only [Yr,Mc,Mn,Li,and_true] at hd;obtain ⟨d0,d4,d5,d18⟩:=hd;simp only [d0,d4,d5,d18,AU,Ab,Ao];refine ⟨λhlt=>?_,λhge=>?_⟩
  ·have hlt:i<4:=by omega
   obtain ⟨c,hc⟩:∃ c,l[l.length-4+i]? =some c:=⟨_,Ge (by omega)⟩;obtain ⟨a,a1,a2⟩:=h.rd.at tb hc;simp only [AY,LD,Ab];rw [wrap_i64 (n:=((l.length-4:Nat):Int)+i) (by omega) (by omega),wrap_i64 (n:=8*(i:Int)) (by omega) (by omega),wrap_i64 (n:=(i:Int)+1) (by omega) (by omega),Ip (by omega)];have e1:((l.length-4:Nat):Int)+(i:Int)=((l.length-4+i:Nat):Int):=by omega
   have e3:min (8*(i:Int)).toNat (IntKind.bits .u32)=8*i:=by show min _ 32=_;omega
   rw [e1,e3];simp only [a1,a2,Ab,Nc,Ba,Im,BC,Bb];refine ⟨λhne=>h2 ?_,λheq=>?_⟩
   ·cases hs:Ck l with
    |false=>rfl
    |true=>
     exfalso
     have:=(O8 h4).1 hs i hlt
     rw [hc,Qd hlt,Oi] at this;rw [this] at hne;exact hne rfl
   ·refine Ar.2 ⟨4-(i+1),by omega,rfl,rfl,h4,i+1,rfl,rfl,by omega,λj hji=>?_⟩;by_cases hjl:j<i
    ·exact hj j hjl
    ·obtain rfl:j=i:=by omega
     rw [hc,Qd hlt,Oi];exact UInt8.toNat_inj.1 (by omega)
  ·have hi':i=4:=by omega
   subst hi';have hs:=(O8 h4).2 hj;refine Jo (n:=l.length-4) (c:=l.length-4) tb hf (by omega) (Nl _) (by omega) λA1 m1=>?_;have n1:=m1.next;have k1:=m1.keeps hf;refine UN tb m1.BB (h.rd.keeps k1 (by simp)) m1.Ay (by omega) (by rw [List.length_replicate];omega) λA2 vv r2 k2 n2 f2=>?_;rw [Nat.min_eq_right (by omega)] at r2;have g2:Grow A' A2 1:=(Grow.made m1 hf).own k2 (by simp) (m:=0) (by omega) f2;have lt:(l.take (l.length-4)).length=l.length-4:=by rw [List.length_take];omega
   have e:Ek (List.replicate (l.length-4) (Value.int .u8 0)) 0 (AI (l.take (l.length-4)))=AI (l.take (l.length-4)):=by
    have:=Hw [] (List.replicate (l.length-4) (Value.int .u8 0)) (AI (l.take (l.length-4))) [] (by rw [List.length_replicate,BE,lt])
    simpa using this
   rw [e] at r2;have b2:=(X0 r2 (by rw [lt];omega)).rdS;rw [lt] at b2;exact h1 hs A2 _ _ g2 b2 (by simp)
 ·rw [Agj];simp only [h.rd.len tb,Ci,Ab,AU];rw [wrap_i64 (by omega) (by omega)];simp only [Ao];refine ⟨λhlt=>h2 (KE (by omega)),λhge=>?_⟩;have e4:(l.length:Int)-4=((l.length-4:Nat):Int):=by omega
  rw [e4];obtain ⟨v,hv,hs⟩:=RdS.to3 tb h (n:=l.length-4) (by omega) (Y6 (by omega));rw [hv];simp only [Ab];refine ZF hs.rd hg (by rw [List.length_take];omega) ?_;exact Ar.2 ⟨4,rfl,rfl,by omega,0,rfl,rfl,by omega,λj hj=>by omega⟩
end
end Go.Proofs.YtbchfeibhoobeaaGreatDoor
namespace Go.Abs
variable {A A':AW} {r c i it m:Nat} {S:List Nat} {K:Value->AW->Prop}
structure En (α β:Type) where
 k:α
 v:β
 b:Nat
section
variable {α β:Type} (ke:α->Value) (ve:β->Value)
def En.entry(e:En α β):MapEntry:={ key:=ke e.k,val:=ve e.v,born:=e.b }
structure MT (P:Program) (t kt et:TypeId) (ke:α->Value) (keq:α->α->Bool):Prop where
 ty:P.underlying t=some (.map kt et)
 eq:∀ a b,eqA P kt (ke a) (ke b)=some (keq a b)
 dec:∀ {a b},keq a b=true↔a=b
 q:∀ e a,Lb P e kt (ke a)=true
 same:∀ a,(AM 4 (ke a)&&Instr.sameBits 10000 (ke a) (ke a))=true
structure Er (A:AW) (r:Nat) (es:List (En α β)) (c:Nat):Prop where
 row:SL A r (es.map (En.entry ke ve)) c
 lt:∀ e∈es,e.b<c
 nb:(es.map En.b).Nodup
 nk:(es.map En.k).Nodup
end
section
variable {P:Program} {X:Bz} {W0:World} {m0:Inj P} {α β:Type} {ke:α->Value} {ve:β->Value} {keq:α->α->Bool} {t kt et:TypeId}
theorem Er.keeps{es:List (En α β)}(h:Er ke ve A r es c)(k:Aj A A' S)(hn:r∉S):Er ke ve A' r es c:=⟨h.row.keeps k hn,h.lt,h.nb,h.nk⟩
theorem Er.ltA{es:List (En α β)}(h:Er ke ve A r es c):r<A.next:=h.row.lt
theorem Afz{K:Value->AW->Prop}(hf:Aw A)(h:A.next<Am)(hk:∀ A',Er (α:=α) (β:=β) ke ve A' A.next [] 0->Aj A A' []->A'.next=A.next+1->Aw A'->K (.map (some A.next)) A'):Au (Ib A) K:=
 AaJ hf h λA' h1 h2 h3 h4=>hk A' ⟨h1,by simp,by simp,by simp⟩ h2 h3 h4
def DR(keq:α->α->Bool):List (En α β)->α->Option β
 |[],_=>none
 |e::es,k=>if keq k e.k=true then some e.v else DR keq es k
def atE(keq:α->α->Bool):List (En α β)->α->Nat->Option Nat
 |[],_,_=>none
 |e::es,k,i=>if keq k e.k=true then some i else atE keq es k (i+1)
theorem M9(T:MT P t kt et ke keq)(k:α):∀ (es:List (En α β)) (i:Nat),HJ P kt (ke k) (es.map (En.entry ke ve)) i=some (atE keq es k i)
 |[],i=>rfl
 |e::es,i=>by
  show (match eqA P kt (ke k) (ke e.k) with | some true=>some (some i) | some false=>HJ P kt (ke k) (es.map (En.entry ke ve)) (i+1) | none=>none)=_;rw [T.eq];unfold atE;cases h:keq k e.k with
  |true=>simp
  |false=>
   simp only [Bool.false_eq_true,if_false];exact M9 T k es (i+1)
theorem Ng{es:List (En α β)}{k:α}{j:Nat}(h:atE keq es k i=some j):i<=j/\j-i<es.length/\∃ e,es[j-i]? =some e/\keq k e.k=true/\DR keq es k=some e.v:=by
 induction es generalizing i with
 |nil=>cases h
 |cons e es ih=>
  unfold atE at h;unfold DR;split at h
  ·rename_i hk;cases h;rw [if_pos hk,Nat.sub_self];exact ⟨Nl _,by simp,e,rfl,hk,rfl⟩
  ·rename_i hk;obtain ⟨h1,h2,e',h3,h4,h5⟩:=ih h;refine ⟨by omega,by simp;omega,e',?_,h4,?_⟩
   ·rw [show j-i=(j-(i+1))+1 by omega];exact h3
   ·rw [if_neg hk];exact h5
theorem QG{es:List (En α β)}{k:α}(h:atE keq es k i=none):(∀ e∈es,keq k e.k=false)/\DR keq es k=none:=by
 induction es generalizing i with
 |nil=>exact ⟨by simp,rfl⟩
 |cons e es ih=>
  unfold atE at h;unfold DR;split at h
  ·cases h
  ·rename_i hk;obtain ⟨h1,h2⟩:=ih h;refine ⟨λx hx=>?_,by rw [if_neg hk];exact h2⟩;rcases Mk.1 hx with rfl | hx
   ·simpa using hk
   ·exact h1 x hx
theorem IZ(T:MT P t kt et ke keq):D3 P t=some (kt,et):=by unfold D3;rw [T.ty]
theorem Er.look(T:MT P t kt et ke keq){es:List (En α β)}(h:Er ke ve A r es c){z:Value}(hz:Ei P et=some z)(k:α)(ok:Bool):
  Dl P A t (.map (some r)) (ke k) ok=some (match DR keq es k with | some v=>(bif ok then .tuple #[ve v,.bool true] else ve v) | none=>(bif ok then .tuple #[z,.bool false] else z)):=by
 unfold Dl LU;simp only [IZ T,h.row.row,T.q,Ct,M9 T];cases ha:atE keq es k 0 with
 |none=>
  rw [(QG ha).2];simp only [hz]
 |some i=>
  obtain ⟨_,_,e,h3,_,h5⟩:=Ng ha;rw [Nat.sub_zero] at h3;rw [h5];simp only [List.getElem?_map,h3,Option.map_some];rfl
def LO(keq:α->α->Bool):List (En α β)->α->β->Nat->List (En α β)
 |[],k,v,c=>[⟨k,v,c⟩]
 |e::es,k,v,c=>if keq k e.k=true then ⟨k,v,e.b⟩::es else e::LO keq es k v c
theorem Um(k:α)(v:β)(c:Nat):∀ (es:List (En α β)) (i j:Nat),(∀ {a b},keq a b=true↔a=b)->atE keq es k i=some j->GC (es.map (En.entry ke ve)) (j-i) (ke k) (ve v)=(LO keq es k v c).map (En.entry ke ve)
 |[],i,j,_,h=>by cases h
 |e::es,i,j,hd,h=>by
  unfold atE at h;unfold LO;split at h
  ·rename_i hk;cases h;rw [if_pos hk,Nat.sub_self];rfl
  ·rename_i hk
   have:=(Ng h).1
   rw [if_neg hk,show j-i=(j-(i+1))+1 by omega];show e.entry ke ve::GC (es.map (En.entry ke ve)) (j-(i+1)) (ke k) (ve v)=_;rw [Um k v c es (i+1) j hd h];rfl
theorem KN{es:List (En α β)}{k:α}(hn:∀ e∈es,keq k e.k=false)(v:β)(c:Nat):LO keq es k v c=es++[(⟨k,v,c⟩:En α β)]:=by
 induction es with
 |nil=>rfl
 |cons e es ih=>
  unfold LO;rw [if_neg (by rw [hn e List.mem_cons_self];simp),ih λx hx=>hn x (List.mem_cons_of_mem _ hx)];rfl
theorem Rq(k:α)(v:β)(c:Nat):∀ (es:List (En α β)),(∀ {a b},keq a b=true↔a=b)->(∃ e∈es,keq k e.k=true)->(LO keq es k v c).map En.k=es.map En.k/\(LO keq es k v c).map En.b=es.map En.b
 |[],_,h=>by obtain ⟨e,he,_⟩:=h;cases he
 |e::es,hd,h=>by
  unfold LO;split
  ·rename_i hk;rw [Mc,Mc,Mc,Mc,<- hd.1 hk];exact ⟨rfl,rfl⟩
  ·rename_i hk;obtain ⟨x,hx,h2⟩:=h;rcases Mk.1 hx with rfl | hx
   ·exact absurd h2 hk
   ·obtain ⟨h3,h4⟩:=Rq k v c es hd ⟨x,hx,h2⟩;rw [Mc,Mc,Mc,Mc,h3,h4];exact ⟨rfl,rfl⟩
theorem Er.put (T:MT P t kt et ke keq) {es:List (En α β)} (h:Er ke ve A r es c) (hf:Aw A) (hb:A.next<=Am) {k:α} {v:β} {K:AW->Prop}
  (hk:∀ A' c',Er ke ve A' r (LO keq es k v c) c'->Aj A A' [r]->A'.next=A.next->Aw A'->K A'):Bh (CC P A t (.map (some r)) (ke k) (ve v)) K:=by
 unfold CC;simp only [IZ T,h.row.row,T.q,Ct,M9 T];cases ha:atE keq es k 0 with
 |none=>
  obtain ⟨h1,h2⟩:=QG ha;obtain ⟨g1,g2,g3,g4⟩:=h.row.put (es':=es.map (En.entry ke ve)++[{ key:=ke k,val:=ve v,born:=c }]) (c':=c+1) hf hb;simp only;refine HM.2 (hk _ (c+1) ⟨?_,?_,?_,?_⟩ g2 g3 g4)
  ·rw [KN h1,List.map_append];exact g1
  ·rw [KN h1];intro e he;rcases Mz.1 he with he | he
   ·have:=h.lt e he;omega
   ·rw [Ms.1 he];exact Nat.lt_succ_self c
  ·rw [KN h1,List.map_append,List.nodup_append];refine ⟨h.nb,by simp,λa ha b hb=>?_⟩;obtain ⟨e,he,rfl⟩:=List.mem_map.1 ha
   have:=h.lt e he
   simp at hb;omega
  ·rw [KN h1,List.map_append,List.nodup_append];refine ⟨h.nk,by simp,λa ha b hb=>?_⟩;obtain ⟨e,he,rfl⟩:=List.mem_map.1 ha
   have:=h1 e he
   simp at hb;subst hb;intro h0;rw [T.dec.2 h0.symm] at this;cases this
 |some i=>
  obtain ⟨_,_,e,h3,h4,_⟩:=Ng ha;rw [Nat.sub_zero] at h3;have hke:k=e.k:=T.dec.1 h4;simp only [List.getElem?_map,h3,Option.map_some];have hs:(AM 4 (e.entry ke ve).key&&Instr.sameBits 10000 (e.entry ke ve).key (ke k))=true:=by
   show (AM 4 (ke e.k)&&Instr.sameBits 10000 (ke e.k) (ke k))=true;rw [hke];exact T.same _
  rw [hs,Ct];have hset:=Um (ke:=ke) (ve:=ve) k v c es 0 i T.dec ha;rw [Nat.sub_zero] at hset;rw [hset];obtain ⟨g1,g2,g3,g4⟩:=h.row.put (es':=(LO keq es k v c).map (En.entry ke ve)) (c':=c) hf hb;obtain ⟨p1,p2⟩:=Rq k v c es T.dec ⟨e,List.mem_of_getElem? h3,h4⟩;refine HM.2 (hk _ c ⟨g1,λx hx=>?_,by rw [p2];exact h.nb,by rw [p1];exact h.nk⟩ g2 g3 g4)
  have:x.b∈(LO keq es k v c).map En.b:=List.mem_map.2 ⟨x,hx,rfl⟩
  rw [p2] at this;obtain ⟨y,hy,hyb⟩:=List.mem_map.1 this
  have:=h.lt y hy
  omega
structure Iter (A:AW) (it m c:Nat) (vs:List (En α β)):Prop where
 get:A.get it=some (.mit (some m) c (vs.map En.b) c)
 lt:it<A.next
theorem Iter.keeps{vs:List (En α β)}(h:Iter A it m c vs)(k:Aj A A' S)(hn:it∉S):Iter A' it m c vs:=⟨k.get it _ h.get h.lt hn,Nat.lt_of_lt_of_le h.lt k.next⟩
theorem Er.range (T:MT P t kt et ke keq) {es:List (En α β)} (h:Er ke ve A r es c) (hf:Aw A) (hA:A.next<Am) {K:Value->AW->Prop}
  (hk:∀ A',Iter (α:=α) (β:=β) A' A.next r c []->Aj A A' []->A'.next=A.next+1->Aw A'->K (.pointer (some ⟨A.next,0,none⟩)) A'):anW P X W0 m0 (P2 P A t (.map (some r))) K:=by
 unfold P2 AW.new;simp only [T.ty,h.row.row,AF.2 hA,Ct];exact .inl ⟨_,_,rfl,hk (A.push (.mit (some r) c [] c)) ⟨by rw [AW.BP _ hA,if_pos rfl];rfl,by rw [AW.Ce];omega⟩ ((AW.B7 _ hA).keeps hf) rfl (hf.push _ hA)⟩
theorem WY{vs:List (En α β)}(h:Iter A it m c vs)(hf:Aw A)(hA:A.next<=Am)(e:En α β):Iter (A.put it (.mit (some m) c (vs.map En.b++[e.b]) c)) it m c (vs++[e])/\Aj A (A.put it (.mit (some m) c (vs.map En.b++[e.b]) c)) [it]/\
  (A.put it (.mit (some m) c (vs.map En.b++[e.b]) c)).next=A.next/\Aw (A.put it (.mit (some m) c (vs.map En.b++[e.b]) c)):=by
 have hlt:=h.lt;have hg:∀ i,(A.put it (.mit (some m) c (vs.map En.b++[e.b]) c)).get i=if i=it then some (.mit (some m) c (vs.map En.b++[e.b]) c) else A.get i:=λi=>AW.CK A it i _ (by omega)
 refine ⟨⟨by rw [hg,if_pos rfl,List.map_append];rfl,hlt⟩,⟨Nl _,λi o hi _ hn=>?_,λf _ _=>rfl⟩,rfl,⟨hf.fams,λi hi=>?_⟩⟩
 ·rw [hg,if_neg (λe=>?_)]
  ·exact hi
  ·subst e;rw [h.get] at hi;cases hi;exact hn (Ms.2 rfl)
 ·have hi:A.next<=i:=hi;rw [hg,if_neg (by omega)];exact hf.get i hi
theorem Xw{es:List (En α β)}(hn:(es.map En.b).Nodup):∀ {x y:En α β},x∈es->y∈es->x.b=y.b->x=y:=by
 induction es with
 |nil=>intro x y hx;cases hx
 |cons e es ih=>
  simp only [Mc,List.nodup_cons] at hn;intro x y hx hy hxy;rcases Mk.1 hx with hx | hx
  ·rcases Mk.1 hy with hy | hy
   ·rw [hx,hy]
   ·exact absurd (List.mem_map.2 ⟨y,hy,by rw [<- hxy,hx]⟩) hn.1
  ·rcases Mk.1 hy with hy | hy
   ·exact absurd (List.mem_map.2 ⟨x,hx,by rw [hxy,hy]⟩) hn.1
   ·exact ih hn.2 hx hy hxy
theorem GM{γ δ:Type}(f:γ->δ):∀ {l:List γ},(l.map f).Nodup->l.Nodup
 |[],_=>List.nodup_nil
 |x::l,h=>by
  simp only [Mc,List.nodup_cons] at h;exact List.nodup_cons.2 ⟨λhx=>h.1 (List.mem_map.2 ⟨x,hx,rfl⟩),GM f h.2⟩
theorem Er.next {es vs:List (En α β)} (h:Er ke ve A r es c) (hi:Iter A it r c vs) (hv:∀ e∈vs,e∈es) (hf:Aw A) (hA:A.next<=Am)
  (hmore:∀ e A',e∈es->e∉vs->Iter A' it r c (vs++[e])->Aj A A' [it]->A'.next=A.next->Aw A'->K (.tuple #[.bool true,ke e.k,ve e.v]) A') (hdone:(∀ e∈es,e∈vs)->K (.tuple #[.bool false]) A):
  anW P X W0 m0 (Mv A (.pointer (some ⟨it,0,none⟩)) false) K:=by
 refine .inr (.inr (.inr ⟨it,A,by unfold Mv;simp only [hi.get],r,c,vs.map En.b,c,es.map (En.entry ke ve),c,false,hi.get,h.row.row,?_,λcd hcd=>?_⟩))
 ·cases hes:es with
  |nil=>simp
  |cons e es'=>
   have:e.b<c:=h.lt e (by rw [hes];simp)
   have hb:Nat.ble c e.b=false:=BV.2 this;simp [En.entry,hb]
 ·have inj:∀ {x y:En α β},x∈es->y∈es->x.b=y.b->x=y:=Xw h.nb;have seen:∀ e∈es,(vs.map En.b).contains e.b=true↔e∈vs:=by
   intro e he;rw [List.contains_iff_mem,List.mem_map];constructor
   ·rintro ⟨x,hx,hxe⟩;rw [<- inj (hv x hx) he hxe];exact hx
   ·intro hv';exact ⟨e,hv',rfl⟩
  unfold Qz at hcd;rcases Mz.1 hcd with hcd | hcd
  ·split at hcd
   ·rename_i hem;obtain rfl:cd=none:=by simpa using hcd
    refine hdone λe he=>?_;by_cases hin:e∈vs
    ·exact hin
    ·exfalso;have hc:(vs.map En.b).contains e.b=false:=by
      cases hcc:(vs.map En.b).contains e.b with
      |false=>rfl
      |true=>exact absurd ((seen e he).1 hcc) hin
     have:e.entry ke ve∈(((es.map (En.entry ke ve)).filter λe=>!(vs.map En.b).contains e.born).filter λe=>Nat.blt e.born c):=by
      rw [List.mem_filter,List.mem_filter];refine ⟨⟨List.mem_map.2 ⟨e,he,rfl⟩,?_⟩,AF.2 (h.lt e he)⟩;show (!(vs.map En.b).contains e.b)=true;rw [hc];rfl
     rw [List.isEmpty_iff.1 hem] at this;cases this
   ·cases hcd
  ·obtain ⟨me,hme,rfl⟩:=List.mem_map.1 hcd;have hme2:me∈(es.map (En.entry ke ve)).filter λe=>!(vs.map En.b).contains e.born:=by
    rcases Mz.1 hme with hme | hme
    ·exact (List.mem_filter.1 hme).1
    ·exact (List.mem_filter.1 hme).1
   obtain ⟨hm1,hm2⟩:=List.mem_filter.1 hme2;obtain ⟨e,he,rfl⟩:=List.mem_map.1 hm1;have hm2:(!(vs.map En.b).contains e.b)=true:=hm2;have hnv:e∉vs:=λhin=>by rw [(seen e he).2 hin] at hm2;cases hm2
   obtain ⟨g1,g2,g3,g4⟩:=WY hi hf hA e;exact hmore e _ he hnv g1 g2 g3 g4
theorem RM(l:List Nat)(x:Nat):Kh (l++[x])=some x:=by
 induction l with
 |nil=>rfl
 |cons a l ih=>
  cases l with
  |nil=>rfl
  |cons b l=>exact ih
theorem Er.entry{es vs:List (En α β)}(h:Er ke ve A r es c){e:En α β}(hi:Iter A it r c (vs++[e]))(he:e∈es)(hk:K (.tuple #[ke e.k,ve e.v]) A):
  anW P X W0 m0 (Qt A (.pointer (some ⟨it,0,none⟩))) K:=by
 have hfind:∀ (l:List (En α β)) (i:Nat),e∈l->(l.map En.b).Nodup->∃ j,Ep e.b (l.map (En.entry ke ve)) i=some (i+j)/\l[j]? =some e:=by
  intro l
  induction l with
  |nil=>intro i h;cases h
  |cons x l ih=>
   intro i hx hn;simp only [Mc,List.nodup_cons] at hn;by_cases hxb:x.b=e.b
   ·rcases Mk.1 hx with rfl | hx
    ·refine ⟨0,?_,rfl⟩;show (bif Nat.beq e.b e.b then some i else _)=_;rw [Nat.beq_refl];rfl
    ·exact absurd (List.mem_map.2 ⟨e,hx,hxb.symm⟩) hn.1
   ·rcases Mk.1 hx with rfl | hx
    ·exact absurd rfl hxb
    ·obtain ⟨j,h1,h2⟩:=ih (i+1) hx hn.2;refine ⟨j+1,?_,h2⟩;show (bif Nat.beq x.b e.b then some i else Ep e.b (l.map (En.entry ke ve)) (i+1))=_
     have:Nat.beq x.b e.b=false:=by
      cases hb:Nat.beq x.b e.b with
      |false=>rfl
      |true=>exact absurd (Nb hb) hxb
     rw [this,Cf,h1,show i+1+j=i+(j+1) by omega]
 obtain ⟨j,h1,h2⟩:=hfind es 0 he h.nb;rw [Nat.zero_add] at h1;have hl:Kh ((vs++[e]).map En.b)=some e.b:=by rw [List.map_append];exact RM _ _
 have e1:LZ A (.pointer (some ⟨it,0,none⟩))=some (.tuple #[ke e.k,ve e.v]):=by
  unfold LZ;simp only [hi.get,hl,h.row.row,Nat.beq_refl,Ct,h1,List.getElem?_map,h2,Option.map_some];rfl
 unfold Qt;rw [e1];exact .inl ⟨_,_,rfl,hk⟩
theorem Q1{es vs:List (En α β)}(hn:(es.map En.b).Nodup)(hvn:(vs.map En.b).Nodup)(h1:∀ e∈vs,e∈es)(h2:∀ e∈es,e∈vs):vs.Perm es:=by
 have n1:es.Nodup:=GM _ hn;have n2:vs.Nodup:=GM _ hvn;exact (List.perm_ext_iff_of_nodup n2 n1).2 λe=>⟨h1 e,h2 e⟩
end
variable {A A':AW} {l D:Nat} {S:List Nat} {K:AW->Prop}
section
variable {P:Program} {X:Bz} {W0:World} {m0:Inj P}
theorem M5{i:Nat}{o o':AO}(h:A.get i=some o)(hfam:XD i o=i)(hlt:i<A.next)(hf:Aw A)(hA:A.next<=Am):(A.put i o').get i=some o'/\Aj A (A.put i o') [i]/\(A.put i o').next=A.next/\Aw (A.put i o'):=by
 have hg:∀ j,(A.put i o').get j=if j=i then some o' else A.get j:=λj=>AW.CK A i j _ (by omega)
 refine ⟨by rw [hg,if_pos rfl],⟨Nl _,λj q hj _ hn=>?_,λf _ _=>rfl⟩,rfl,⟨hf.fams,λj hj=>?_⟩⟩
 ·rw [hg,if_neg (λe=>?_)]
  ·exact hj
  ·subst e;rw [h] at hj;cases hj;exact hn (by rw [hfam];exact Ms.2 rfl)
 ·have hj:A.next<=j:=hj;rw [hg,if_neg (by omega)];exact hf.get j hj
structure Hf (A:AW) (l:Nat) (r:Hg):Prop where
 get:A.get l=some (.loop r)
 lt:l<A.next
theorem Hf.keeps{r:Hg}(h:Hf A l r)(k:Aj A A' S)(hn:l∉S):Hf A' l r:=⟨k.get l _ h.get h.lt hn,Nat.lt_of_lt_of_le h.lt k.next⟩
structure Wa (A:AW) (D:Nat):Prop where
 get:A.get D=some (.deferred true)
 lt:D<A.next
theorem Wa.keeps(h:Wa A D)(k:Aj A A' S)(hn:D∉S):Wa A' D:=⟨k.get D _ h.get h.lt hn,Nat.lt_of_lt_of_le h.lt k.next⟩
theorem Tw {fn:FuncId} {tm:Tm} {ps:List Tmp} {assign body:Code} {K:Nat->Nat->AW->Prop} (hf:Aw A) (hA:A.next+1<Am)
  (hk:∀ A',Wa A' A.next->Hf A' (A.next+1) { state:=.ready,pending:=none,fn:=fn,tm:=tm,params:=ps,assign:=assign,body:=body,defers:=A.next }->Aj A A' []->A'.next=A.next+2->Aw A'->K A.next (A.next+1) A'):
  Xm A fn tm ps assign body K:=by
 have e1:A.new (.deferred true)=some (A.next,A.push (.deferred true)):=by
  unfold AW.new;simp only [AF.2 (show A.next<Am by omega),Ct];rfl
 have f1:=hf.push (.deferred true) (show A.next<Am by omega);have k1:=(AW.B7 (A:=A) (.deferred true) (show A.next<Am by omega)).keeps hf;have n1:(A.push (.deferred true)).next=A.next+1:=rfl;generalize A.push (.deferred true)=A1 at e1 f1 k1 n1;refine ⟨A.next,A1,A1.next,A1.push (.loop { state:=.ready,pending:=none,fn:=fn,tm:=tm,params:=ps,assign:=assign,body:=body,defers:=A.next }),e1,?_,?_⟩
 ·unfold AW.new;simp only [AF.2 (show A1.next<Am by omega),Ct];rfl
 ·have k2:=(AW.B7 (A:=A1) (.loop { state:=.ready,pending:=none,fn:=fn,tm:=tm,params:=ps,assign:=assign,body:=body,defers:=A.next }) (show A1.next<Am by omega)).keeps f1;have hD:Wa A1 A.next:=⟨by
   unfold AW.new at e1;rw [AF.2 (show A.next<Am by omega),Ct,Oi,Pj] at e1;rw [<- e1.2];show (A.put A.next _).get A.next=_;rw [AW.CK A A.next A.next _ (by omega),if_pos rfl],by omega⟩
  rw [n1];refine hk _ (hD.keeps k2 (by simp)) ⟨?_,?_⟩ (k1.trans k2 (by simp)) ?_ (f1.push _ (by omega))
  ·rw [<- n1,AW.BP _ (by omega),if_pos rfl]
  ·rw [AW.Ce];omega
  ·rw [AW.Ce];omega
theorem Sr{r:Hg}{K:AW->Prop}(h:Hf A l r)(hs:r.state=.ready)(hf:Aw A)(hA:A.next<=Am)(hk:∀ A',Hf A' l { r with state:=.busy }->Aj A A' [l]->A'.next=A.next->Aw A'->K A'):T2 A l K:=by
 obtain ⟨h1,h2,h3,h4⟩:=M5 (o':=.loop { r with state:=.busy }) h.get rfl h.lt hf hA;exact ⟨r,h.get,hs,hk _ ⟨h1,h.lt⟩ h2 h3 h4⟩
theorem RI{r:Hg}{j:Option Code}{K:Value->AW->Prop}(h:Hf A l r)(hf:Aw A)(hA:A.next<=Am)(hk:∀ A',Hf A' l { r with state:=if j.isNone then .ready else .done,pending:=j }->Aj A A' [l]->A'.next=A.next->Aw A'->K (.bool j.isNone) A'):TA A l j K:=by
 obtain ⟨h1,h2,h3,h4⟩:=M5 (o':=.loop { r with state:=if j.isNone then .ready else .done,pending:=j }) h.get rfl h.lt hf hA;exact ⟨r,h.get,hk _ ⟨h1,h.lt⟩ h2 h3 h4⟩
theorem ON{r:Hg}{p q:AW->Prop}(h:Hf A l r)(hs:r.state≠ .busy)(hp:r.pending=none)(hf:Aw A)(hA:A.next<=Am)(hk:∀ A',Aj A A' [l]->A'.next=A.next->Aw A'->p A'):N7 A l p q:=by
 obtain ⟨h1,h2,h3,h4⟩:=M5 (o':=.loop { r with state:=.exhausted }) h.get rfl h.lt hf hA;exact ⟨r,h.get,hs,.inl ⟨hp,hk _ h2 h3 h4⟩⟩
theorem SY(h:Wa A D)(hf:Aw A)(hA:A.next<=Am)(hk:∀ A',Aj A A' [D]->A'.next=A.next->Aw A'->K A'):HX [D] A K:=by
 obtain ⟨h1,h2,h3,h4⟩:=M5 (o':=.deferred false) h.get rfl h.lt hf hA;exact ⟨h.get,hk _ h2 h3 h4⟩
theorem QR{r:Hg}{args:List Value}{K:Value->AW->Prop}(h:Hf A l r)(hn:args.length=r.params.length)(hk:QK P X W0 m0 l r.fn (DD r.tm (r.params.zip args)) r.assign r.body A K):
  anW P X W0 m0 (Fi P A (.func (.yield l) #[] #[]) args) K:=by
 refine .inr (.inr (.inl ⟨l,r.fn,DD r.tm (r.params.zip args),r.assign,r.body,A,?_,hk⟩));unfold Fi CH;simp only [h.get];rw [show (#[]:Array Value).toList++args=args from rfl];rw [show Nat.beq args.length r.params.length=true by rw [hn,Nat.beq_refl]];rfl
end
variable {A:AW} {r c:Nat}
section
variable {P:Program} {X:Bz} {W0:World} {m0:Inj P} {α β:Type} {ke:α->Value} {ve:β->Value} {keq:α->α->Bool} {t kt et:TypeId}
def OP(keq:α->α->Bool)(es:List (En α β))(k:α):List (En α β):=es.filter λe=>!keq k e.k
theorem Lv{es:List (En α β)}{k:α}(hn:∀ e∈es,keq k e.k=false):OP keq es k=es:=by
 unfold OP;rw [List.filter_eq_self];intro e he;rw [hn e he];rfl
theorem L3(hd:∀ {a b},keq a b=true↔a=b)(k:α):∀ (es:List (En α β)) (i j:Nat),(es.map En.k).Nodup->atE keq es k i=some j->es.eraseIdx (j-i)=OP keq es k
 |[],_,_,_,h=>by simp [atE] at h
 |e::es,i,j,hn,h=>by
  simp only [Mc,List.nodup_cons] at hn;unfold atE at h;unfold OP;split at h
  ·rename_i hk;cases h;rw [Nat.sub_self,List.eraseIdx_cons_zero,List.filter_cons_of_neg (by rw [hk];simp)];have hke:k=e.k:=hd.1 hk
   symm
   rw [List.filter_eq_self];intro x hx
   have:keq k x.k=false:=by
    cases hq:keq k x.k with
    |false=>rfl
    |true=>
     have:=hd.1 hq
     exact absurd (List.mem_map.2 ⟨x,hx,by rw [<- this,hke]⟩) hn.1
   rw [this];rfl
  ·rename_i hk;obtain ⟨h1,_,_⟩:=Ng h;rw [show j-i=(j-(i+1))+1 by omega,List.eraseIdx_cons_succ,List.filter_cons_of_pos (by simpa using hk),L3 hd k es (i+1) j hn.2 h];rfl
theorem Ls{γ δ:Type}(f:γ->δ):∀ (l:List γ) (i:Nat),(l.map f).eraseIdx i=(l.eraseIdx i).map f
 |[],i=>by simp
 |x::l,0=>by simp
 |x::l,i+1=>by simp [Ls f l i]
theorem Er.del (T:MT P t kt et ke keq) {es:List (En α β)} (h:Er ke ve A r es c) (hf:Aw A) (hb:A.next<=Am) {k:α} {K:AW->Prop}
  (hk:∀ A',Er ke ve A' r (OP keq es k) c->Aj A A' [r]->A'.next=A.next->Aw A'->K A'):Bh (Hd P A t (.map (some r)) (ke k)) K:=by
 have hsub:List.Sublist (OP keq es k) es:=List.filter_sublist;have fin:∀ es',es'=OP keq es k->Bh (some (A.put r (.map (es'.map (En.entry ke ve)) c false))) K:=by
  rintro es' rfl;obtain ⟨g1,g2,g3,g4⟩:=h.row.put (es':=(OP keq es k).map (En.entry ke ve)) (c':=c) hf hb;exact HM.2 (hk _ ⟨g1,λe he=>h.lt e (hsub.subset he),(hsub.map En.b).nodup h.nb,(hsub.map En.k).nodup h.nk⟩ g2 g3 g4)
 unfold Hd;simp only [IZ T,h.row.row,T.q,Ct,M9 T];cases ha:atE keq es k 0 with
 |none=>
  simp only;exact fin es (Lv (QG ha).1).symm
 |some i=>
  simp only;rw [Ls];refine fin _ ?_
  have:=L3 T.dec k es 0 i h.nk ha
  rwa [Nat.sub_zero] at this
theorem Er.clone{es:List (En α β)}(h:Er ke ve A r es c)(hf:Aw A)(hA:A.next<Am):
  ∃ A',A.new (.map (es.map (En.entry ke ve)) c false)=some (A.next,A')/\Er ke ve A' A.next es c/\Aj A A' []/\A'.next=A.next+1/\Aw A':=by
 refine ⟨A.push (.map (es.map (En.entry ke ve)) c false),?_,⟨⟨?_,?_⟩,h.lt,h.nb,h.nk⟩,(AW.B7 _ hA).keeps hf,rfl,hf.push _ hA⟩
 ·unfold AW.new;rw [AF.2 hA,Ct];rfl
 ·rw [AW.BP _ hA,if_pos rfl]
 ·rw [AW.Ce];omega
end
theorem ZW{a b:ByteArray}(h:a.data.toList=b.data.toList):a=b:=by
 obtain ⟨⟨x⟩⟩:=a;obtain ⟨⟨y⟩⟩:=b;have h:x=y:=h;rw [h]
end Go.Abs
namespace Go.Proofs.YtbchfeibhoobeaaGreatDoor
open Go.Abs
variable {A:AW} {K:Value->AW->Prop} {q r c:Nat}
theorem Adu(e:Bool)(s:ByteArray):Lb Tp e 9 (.string s)=true:=by
 cases e<;>kernel_rfl
theorem WM(s:ByteArray):(AM 4 (.string s)&&Instr.sameBits 10000 (.string s) (.string s))=true:=by
 have hs:Instr.sameBits 10000 (.string s) (.string s)=true:=by
  show Instr.sameBits (9999+1) (.string s) (.string s)=true;simp [Instr.sameBits,beq_toListBytes]
 rw [hs];rfl
theorem eqS(a b:ByteArray):eqA Tp 9 (.string a) (.string b)=some (a.data.toList==b.data.toList):=by
 unfold eqA;have hc:(AM 4 (.string a)&&AM 4 (.string b))=true:=rfl;rw [hc,Ct];show quiet Tp (Op.equalIn (9999+1) 9 _ _)=_;exact Pd (by kernel_rfl)
theorem Afs:BL Tp 37=some 9:=by kernel_rfl
theorem sz9:szT Tp 9=some 1:=by kernel_rfl
theorem by9:E9 Tp 9=some 16:=by kernel_rfl
theorem hz9:DG Tp 9 1=true:=by kernel_rfl
theorem Afq:Tp.underlying 37=some (.slice 9):=by kernel_rfl
theorem AgC(A:AW)(s:ByteArray):Av Tp A 37 1 [(0,.string s)]=(match A.newRow [.string s] 9 with | some (a,w')=>.ok (.slice (some a) 1 1) w' | none=>.fail "buildSlice new"):=by kernel_rfl
theorem Aa3(A:AW)(l:Nat)(a:Addr):Fi Tp A (.func (.func 103) ⟨[]⟩ ⟨[.pointer (some a)]⟩) [.func (.yield l) #[] #[]]=.ok (.enter 103 [.func (.yield l) #[] #[],.pointer (some a)]) A:=by kernel_rfl
theorem XH(a b:Value):Ap (.tuple #[a,b]) 0=some a:=rfl
theorem UG(a b c:Value):Ap (.tuple #[a,b,c]) 0=some a:=rfl
theorem UH(a:Value):Ap (.tuple #[a]) 0=some a:=rfl
theorem HD{γ:Type}:∀ {a b:List γ},a.Nodup->(∀ x∈a,x∈b)->a.length<=b.length
 |[],_,_,_=>Nat.zero_le _
 |x::a,b,hn,hs=>by
  obtain ⟨s,t,rfl⟩:=List.append_of_mem (hs x List.mem_cons_self);rw [List.nodup_cons] at hn
  have:=HD (a:=a) (b:=s++t) hn.2 λy hy=>by
   have hne:y≠x:=λe=>hn.1 (e▸hy);rcases Mz.1 (hs y (List.mem_cons_of_mem _ hy)) with h | h
   ·exact List.mem_append_left _ h
   ·rcases Mk.1 h with h | h
    ·exact absurd h hne
    ·exact List.mem_append_right _ h
  simp only [Lq,Lc] at *;omega
theorem YY{s:ByteArray}(hf:Aw A)(h:A.next<Am)(hk:∀ A',Made A A' [.string s] 9->K (.slice (some ⟨A.next,0,none⟩) 1 1) A'):Au (Av Tp A 37 1 [(0,.string s)]) K:=by
 rw [AgC];unfold AW.newRow AW.new;have hc:([Value.string s].all AT)=true:=rfl;simp only [hc,Ct,AF.2 h];exact Ba.2 (hk (A.push (.row [.string s] 9 A.next 0 false)) ⟨AW.B7 _ h,rfl,by rw [AW.BP _ h,if_pos rfl],hf.alone (Nl _),hf.push _ h⟩)
theorem Acn(q b:Nat)(v:Value):(DD (Ul ⟨13,.nil⟩ [(0,.slice none 0 0),(1,.func (.func 103) ⟨[]⟩ ⟨[pP q 0]⟩),(2,pP b 0),(4,.slice none 0 0),(6,.func (.func 103) ⟨[]⟩ ⟨[pP q 0]⟩)]) [(7,v)]).sz=13/\
  (DD (Ul ⟨13,.nil⟩ [(0,.slice none 0 0),(1,.func (.func 103) ⟨[]⟩ ⟨[pP q 0]⟩),(2,pP b 0),(4,.slice none 0 0),(6,.func (.func 103) ⟨[]⟩ ⟨[pP q 0]⟩)]) [(7,v)]).get 2=.pointer (some ⟨b,0,none⟩)/\
  (DD (Ul ⟨13,.nil⟩ [(0,.slice none 0 0),(1,.func (.func 103) ⟨[]⟩ ⟨[pP q 0]⟩),(2,pP b 0),(4,.slice none 0 0),(6,.func (.func 103) ⟨[]⟩ ⟨[pP q 0]⟩)]) [(7,v)]).get 7=v:=⟨by kernel_rfl,by kernel_rfl,by kernel_rfl⟩
section
variable {W0:World} {m0:Inj Tp} {β:Type} {ve:β->Value}
def kS(s:ByteArray):Value:=.string s
abbrev Ux(tm:Tm)(D:Nat)(ac bd:Code):Hg:={ state:=.ready,pending:=none,fn:=127,tm:=tm,params:=[7],assign:=ac,body:=bd,defers:=D }
theorem Aci {b l D:Nat} {es:List (En ByteArray β)} {tm:Tm} {ac bd:Code} (has:ac=cd 127 [1,0,1,0,0]) (hbd:bd=cd 127 [1,0,1,0,1]) (hq:Go.Abs.AS A q [.map (some r)] 74) (hm:Er kS ve A r es c) (hb:Go.Abs.AS A b [.slice none 0 0] 37) (hl:Hf A l (Ux tm D ac bd)) (hbl:b≠l) (hqb:q≠b) (hql:q≠l) (hrb:r≠b) (hrl:r≠l)
  (ht:∀ v,(DD tm [(7,v)]).sz=13/\(DD tm [(7,v)]).get 2=.pointer (some ⟨b,0,none⟩)/\(DD tm [(7,v)]).get 7=v) (hf:Aw A) (hes:es.length<100000) (hA:A.next+10+3*es.length<Am)
  (hk:∀ A' sv F (vs:List (En ByteArray β)),Go.Abs.AS A' b [sv] 37->Hf A' l (Ux tm D ac bd)->DJ A' 9 1 sv vs.length (vs.map λe=>kS e.k) F->vs.Perm es->(∀ x∈F,A.next<x)->Aj A A' [b,l]->A'.next<=A.next+1+3*es.length->Aw A'->K (.tuple ⟨[]⟩) A'):
  Wc Tp An W0 m0 103 [.func (.yield l) #[] #[],pP q 0] A K:=by
 have hblt:=hb.lt;have hllt:=hl.lt;have hqlt:=hq.lt;have hrlt:=hm.ltA;let I:Nat->Nat->List Value->AW->Prop:=λg id vals A'=>id=0/\∃ (sv:Value) (F:List Nat) (vs:List (En ByteArray β)),vals=[.func (.yield l) #[] #[],pP A.next 0]/\Iter A' A.next r c vs/\Er kS ve A' r es c/\Go.Abs.AS A' b [sv] 37/\Hf A' l (Ux tm D ac bd)/\
  DJ A' 9 1 sv vs.length (vs.map λe=>kS e.k) F/\(∀ e∈vs,e∈es)/\(vs.map En.b).Nodup/\(∀ x∈F,A.next<x)/\Aj A A' [b,l]/\Aw A'/\A'.next<=A.next+1+3*vs.length/\g=es.length-vs.length
 refine Afn _ _ _ (Agz (I:=I) ?_) ?_
 ·rintro g id vals A' d ⟨rfl,sv,F,vs,rfl,hit,hm',hb',hl',ho,hvs,hnd,hF,k,f,nx,rfl⟩ hd;rw [Aa0];simp only [Yu,Mc,Mn,Li,and_true] at hd;obtain ⟨d0,d5⟩:=hd;rw [d0,d5];have hlen:=HD (GM _ hnd) hvs;refine hm'.next hit hvs f (by omega) (λe A2 he hnv it2 k2 n2 f2=>?_) λhall=>?_
  ·have hm2:=hm'.keeps k2 (by simp;omega);have hb2:=hb'.keeps k2 (by simp;omega);have hl2:=hl'.keeps k2 (by simp;omega);have ho2:=ho.keeps k2 (λx hx=>by have:=hF x hx;simp;omega);have K2:Aj A A2 [b,l]:=k.trans k2 (by simp);have hvs2:∀ x∈vs++[e],x∈es:=λx hx=>by
    rcases Mz.1 hx with h | h
    ·exact hvs x h
    ·rw [Ms.1 h];exact he
   have hnd2:((vs++[e]).map En.b).Nodup:=by
    rw [List.map_append,List.nodup_append];refine ⟨hnd,by simp,λx hx y hy hxy=>hnv ?_⟩;obtain ⟨z,hz,rfl⟩:=List.mem_map.1 hx;obtain rfl:y=e.b:=by simpa using hy
    rw [<- Xw hm.nb (hvs z hz) he hxy];exact hz
   have hlen2:=HD (GM _ hnd2) hvs2;have hl1:(vs++[e]).length=vs.length+1:=by simp
   simp only [UG,Ab];refine Ag.2 ⟨λ_=>?_,λh=>by cases h⟩;refine hm2.entry it2 he ?_;simp only [XH,Ab];obtain ⟨t1,t2,t3⟩:=ht (kS e.k);refine QR hl2 rfl (WQ (T:=Tz) (L:=Lz) (N:=4000) gP (by decide) t1 ?_);rw [has,hbd,Aax];have t2:(DD tm (List.zip [7] [kS e.k])).get 2=.pointer (some ⟨b,0,none⟩):=t2;have t3:(DD tm (List.zip [7] [kS e.k])).get 7=kS e.k:=t3;refine Sr hl2 rfl f2 (by omega) λA3 hl3 k3 n3 f3=>?_;have hb3:=hb2.keeps k3 (by simp;omega);have ho3:=ho2.keeps k3 (λx hx=>by have:=hF x hx;simp;omega);have one3:=ho3.one;simp only [t2,t3,ZR,Ae hb3.row,cellOf,one3.2,Cf,Ab];refine YY f3 (by omega) λA4 m4=>?_;have n4:=m4.next;have k4:=m4.keeps f3;have hx:B3 Tp A4 9 37 (0+1) (.slice (some ⟨A3.next,0,none⟩) 1 1)=some (0+1,[kS e.k]):=by
    unfold B3;rw [Afq];show Dj A4 1 (.slice (some ⟨A3.next,0,none⟩) 1 1)=_;unfold Dj;simp only [Cg m4.BB.row];rfl
   refine Jz (m:=0) (size:=0) Afs sz9 by9 hz9 hx rfl rfl (ho3.keeps k4 (by simp)) m4.Ay (by omega) (by have:room=68719476736:=rfl;omega) (by have:room=68719476736:=rfl;omega) λsv5 A5 F5 ho5 k5 hF5 n5 f5=>?_;have hb5:=(hb3.keeps k4 (by simp)).keeps k5 (λhm=>by have:=hF _ hm;omega);have hl5:=(hl3.keeps k4 (by simp)).keeps k5 (λhm=>by have:=hF _ hm;omega);have hm5:=((hm2.keeps k3 (by simp;omega)).keeps k4 (by simp)).keeps k5 (λhm=>by have:=hF _ hm;omega);have hit5:=((it2.keeps k3 (by simp;omega)).keeps k4 (by simp)).keeps k5 (λhm=>by have:=hF _ hm;omega);have hF5':∀ x∈F5,A.next<x:=λx hx=>by
    rcases hF5 x hx with h | h
    ·exact hF x h
    ·have:=k4.next;have:=K2.next;have:=it2.lt;omega
   obtain ⟨o5,hx5⟩:∃ o n c,sv5=.slice o n c:=by
    rcases ho5 with ⟨rfl,_⟩ | ⟨_,_,rfl,_⟩
    ·exact ⟨_,_,_,rfl⟩
    ·exact ⟨_,_,_,rfl⟩
   refine hb5.store f5 (by omega) (Acs _ _ _) (by obtain ⟨n,c,rfl⟩:=hx5;rfl) (by simp) (by obtain ⟨n,c,rfl⟩:=hx5;rfl) λA6 hb6 k6 n6 f6=>?_;have hb6:Go.Abs.AS A6 b [sv5] 37:=by obtain ⟨n,c,rfl⟩:=hx5;exact hb6
   refine RI (hl5.keeps k6 (by simp;omega)) f6 (by omega) λA7 hl7 k7 n7 f7=>?_;have hl7:Hf A7 l (Ux tm D ac bd):=hl7;simp only [Bg,Ab];refine Ag.2 ⟨λh=>(by cases h),λ_=>?_⟩;refine Ar.2 ⟨es.length-(vs.length+1),by omega,rfl,sv5,F5,vs++[e],rfl,(hit5.keeps k6 (by simp;omega)).keeps k7 (by simp;omega),(hm5.keeps k6 (by simp;omega)).keeps k7 (by simp;omega),hb6.keeps k7 (by simp;omega),hl7,?_,hvs2,hnd2,hF5',?_,f7,by omega,by omega⟩
   ·rw [List.map_append,hl1];exact (ho5.keeps k6 (λx hx=>by have:=hF5' x hx;simp;omega)).keeps k7 (λx hx=>by have:=hF5' x hx;simp;omega)
   ·exact ((((K2.trans k3 (by simp)).trans k4 (by simp)).trans k5 (λx hx=>.inr (by have:=hF x hx;omega))).trans k6 (by simp)).trans k7 (by simp)
  ·simp only [UH,Ab];refine Ag.2 ⟨λh=>(by cases h),λ_=>?_⟩;exact hk A' sv F vs hb' hl' ho (Q1 hm.nb hnd hvs hall) hF k (by omega) f
 ·rw [Ags];simp only [EJ,Ae hq.row,cellOf,Cc,Cf,Ab];refine hm.range (t:=74) (P:=Tp) (kt:=9) (et:=100) (keq:=λa b=>a.data.toList==b.data.toList) ?_ hf (by omega) λA1 hit k1 n1 f1=>?_
  ·exact ⟨by kernel_rfl,eqS,λ{a b}=>by rw [beq_iff_eq];exact ⟨ZW,λh=>by rw [h]⟩,Adu,WM⟩
  ·exact Ar.2 ⟨es.length,rfl,.slice none 0 0,[],[],rfl,hit,hm.keeps k1 (by simp),hb.keeps k1 (by simp),hl.keeps k1 (by simp),.nil _ _ _,by simp,by simp,by simp,k1.more (by simp),f1,by simp;omega,rfl⟩
theorem Ab6 {es:List (En ByteArray β)} (hq:Go.Abs.AS A q [.map (some r)] 74) (hm:Er kS ve A r es c) (hf:Aw A) (hes:es.length<100000) (hA:A.next+20+3*es.length<Am)
  (hk:∀ A' sv F (vs:List (En ByteArray β)),DJ A' 9 1 sv vs.length (vs.map λe=>kS e.k) F->vs.Perm es->(∀ x∈F,A.next<=x)->Aj A A' []->A'.next<=A.next+10+3*es.length->Aw A'->K sv A'):
  Wc Tp An W0 m0 127 [.slice none 0 0,.func (.func 103) ⟨[]⟩ ⟨[pP q 0]⟩] A K:=by
 have hqlt:=hq.lt;have hrlt:=hm.ltA;refine Ae8 _ _ _ BF ?_;rw [Agc];refine Bk (cs:=[.slice none 0 0]) hf (by omega) rfl λA1 m1=>?_;have n1:=m1.next;have k1:=m1.keeps hf;refine Tw m1.Ay (by omega) λA2 hD hl k2 n2 f2=>?_;have K2:Aj A A2 []:=k1.trans k2 (by simp);refine ⟨103,_,A2,Aa3 A2 _ ⟨q,0,none⟩,Aci rfl rfl (hq.keeps K2 (by simp)) (hm.keeps K2 (by simp)) (m1.BB.keeps k2 (by simp)) hl (by omega) (by omega) (by omega) (by omega) (by omega) (λv=>Acn q _ v) f2 hes (by omega) λA3 sv F vs hb3 hl3 ho3 hp hF k3 n3 f3=>?_⟩;refine ON hl3 (show LoopState.ready≠LoopState.busy from λh=>by cases h) rfl f3 (by omega) λA4 k4 n4 f4=>?_;have hb4:=hb3.keeps k4 (by simp;omega);have ho4:=ho3.keeps k4 (λx hx=>by have:=hF x hx;simp;omega);have one4:=ho4.one;simp only [ZR,Ae hb4.row,cellOf,one4.2,Cf,Ab];refine SY ((hD.keeps k3 (by simp;omega)).keeps k4 (by simp)) f4 (by omega) λA5 k5 n5 f5=>?_;refine hk A5 sv F vs (ho4.keeps k5 (λx hx=>by have:=hF x hx;simp;omega)) hp (λx hx=>by have:=hF x hx;omega) ?_ (by omega) f5;exact ((K2.trans k3 (by simp;omega)).trans k4 (by simp;omega)).trans k5 (by simp;omega)
theorem Acj {es:List (En ByteArray β)} (hq:Go.Abs.AS A q [.map (some r)] 74) (hm:Er kS ve A r es c) (hf:Aw A) (hes:es.length<100000) (hA:A.next+20+3*es.length<Am)
  (hk:∀ A' sv F (vs:List (En ByteArray β)),DJ A' 9 1 sv vs.length (vs.map λe=>kS e.k) F->vs.Perm es->(∀ x∈F,A.next<=x)->Aj A A' []->A'.next<=A.next+10+3*es.length->Aw A'->K sv A'):
  Wc Tp An W0 m0 101 [.func (.func 103) ⟨[]⟩ ⟨[pP q 0]⟩] A K:=by
 refine Afo _ _ BF ?_;rw [Agt];exact Ab6 hq hm hf hes hA hk
end
end Go.Proofs.YtbchfeibhoobeaaGreatDoor
namespace Go.Jr
open Go.Crc
abbrev Rec:=UInt8 × List UInt8
def be4(n:Nat):List UInt8:=[UInt8.ofNat (n/16777216),UInt8.ofNat (n/65536),UInt8.ofNat (n/256),UInt8.ofNat n]
def C4:List UInt8->Nat:=λl=>l.foldl (λn c=>256*n+c.toNat) 0
theorem Xg{n:Nat}(h:n<4294967296):C4 (be4 n)=n:=by
 show 256*(256*(256*(256*0+(UInt8.ofNat (n/16777216)).toNat)+(UInt8.ofNat (n/65536)).toNat)+(UInt8.ofNat (n/256)).toNat)+(UInt8.ofNat n).toNat=n;simp only [UInt8.toNat_ofNat'];omega
def Gi(r:Rec):List UInt8:=Dy (r.1::be4 r.2.length)
def Bc(r:Rec):List UInt8:=Gi r++Dy r.2
def Cr(l:List Rec):List UInt8:=l.flatMap Bc
theorem CJ(r:Rec):(Gi r).length=9:=rfl
theorem Cn(r:Rec):(Bc r).length=13+r.2.length:=by
 unfold Bc;rw [List.length_append,CJ,Dx];omega
def D2:Nat->List UInt8->List Rec × Nat × Nat
 |0,_=>([],0,0)
 |f+1,s=>
  if s=[] then ([],0,0) else
  if s.length<9 then ([],0,1) else
  if Ck (s.take 9)=false then ([],0,2) else
  if 65536<C4 ((s.take 5).drop 1) then ([],0,2) else
  if s.length<13+C4 ((s.take 5).drop 1) then ([],0,1) else
  if Ck ((s.drop 9).take (C4 ((s.take 5).drop 1)+4))=false then ([],0,2) else
  let q:=D2 f (s.drop (13+C4 ((s.take 5).drop 1)))
  ((s.headD 0,(s.drop 9).take (C4 ((s.take 5).drop 1)))::q.1,13+C4 ((s.take 5).drop 1)+q.2.1,q.2.2)
def scan(s:List UInt8):List Rec × Nat × Nat:=D2 (s.length+1) s
theorem Nx:∀ (f g:Nat) (s:List UInt8),s.length<f->s.length<g->D2 f s=D2 g s
 |0,_,s,h,_=>by omega
 |_,0,s,_,h=>by omega
 |f+1,g+1,s,hf,hg=>by
  unfold D2;by_cases h0:s=[]
  ·rw [if_pos h0,if_pos h0]
  ·have:0<s.length:=List.length_pos_iff.2 h0
   rw [Nx f g (s.drop _) (by rw [List.length_drop];omega) (by rw [List.length_drop];omega)]
theorem Vm(r:Rec)(s:List UInt8):(Bc r++s).take 9=Gi r:=by
 unfold Bc;rw [List.append_assoc,List.take_append_of_le_length (by rw [CJ];omega),List.take_of_length_le (by rw [CJ];omega)]
theorem WZ{r:Rec}(h:r.2.length<=65536)(s:List UInt8):C4 (((Bc r++s).take 5).drop 1)=r.2.length:=by
 have:((Bc r++s).take 5).drop 1=be4 r.2.length:=rfl
 rw [this,Xg (by omega)]
theorem Th(r:Rec)(s:List UInt8):(Bc r++s).drop 9=Dy r.2++s:=by
 unfold Bc;rw [List.append_assoc,List.drop_append_of_le_length (by rw [CJ];omega),List.drop_of_length_le (by rw [CJ];omega),List.nil_append]
theorem J7(f:Nat)(s:List UInt8):D2 (f+1) s=(if s=[] then ([],0,0) else
  if s.length<9 then ([],0,1) else
  if Ck (s.take 9)=false then ([],0,2) else
  if 65536<C4 ((s.take 5).drop 1) then ([],0,2) else
  if s.length<13+C4 ((s.take 5).drop 1) then ([],0,1) else
  if Ck ((s.drop 9).take (C4 ((s.take 5).drop 1)+4))=false then ([],0,2) else
  ((s.headD 0,(s.drop 9).take (C4 ((s.take 5).drop 1)))::(D2 f (s.drop (13+C4 ((s.take 5).drop 1)))).1,13+C4 ((s.take 5).drop 1)+(D2 f (s.drop (13+C4 ((s.take 5).drop 1)))).2.1,(D2 f (s.drop (13+C4 ((s.take 5).drop 1)))).2.2)):=rfl
theorem Ve{r:Rec}(h:r.2.length<=65536)(f:Nat)(s:List UInt8):D2 (f+1) (Bc r++s)=(r::(D2 f s).1,13+r.2.length+(D2 f s).2.1,(D2 f s).2.2):=by
 have hl:=Cn r;have e1:=Vm r s;have e2:=WZ h s;have e3:=Th r s;have e4:(Bc r++s).drop (13+r.2.length)=s:=by
  rw [<- hl,List.drop_left]
 rw [J7,e1,e2,e3,e4,if_neg (by intro h0;have:=congrArg List.length h0;simp [hl] at this),if_neg (by rw [List.length_append,hl];omega),if_neg (by unfold Gi;rw [Ml];simp),if_neg (by omega),
  if_neg (by rw [List.length_append,hl];omega),if_neg (by rw [<- Dx,List.take_left,Ml];simp)]
 have e5:(Bc r++s).headD 0=r.1:=rfl;have e6:(Dy r.2++s).take r.2.length=r.2:=by
  unfold Dy;rw [List.append_assoc,List.take_left]
 rw [e5,e6]
theorem LN(r:Rec)(l:List Rec):Cr (r::l)=Bc r++Cr l:=rfl
theorem G8(a b:List Rec):Cr (a++b)=Cr a++Cr b:=List.flatMap_append
theorem Q9:∀ {l:List Rec},(∀ r∈l,r.2.length<=65536)->∀ f,(Cr l).length<f->D2 f (Cr l)=(l,(Cr l).length,0)
 |[],_,f+1,_=>rfl
 |r::l,h,f+1,hf=>by
  have hl:=Cn r;rw [LN] at hf ⊢;rw [List.length_append] at hf;rw [Ve (h r (by simp)),Q9 (λx hx=>h x (by simp [hx])) f (by omega),List.length_append,hl]
abbrev Fil:=List UInt8 × Nat
abbrev Fls:=List (List UInt8 × Fil)
def AB(D:Fls)(k:List UInt8):Option Fil:=(D.find? λe=>e.1==k).map (·.2)
def Cm:Fls->List UInt8->Fil->Fls
 |[],k,v=>[(k,v)]
 |e::r,k,v=>if e.1==k then (k,v)::r else e::Cm r k v
def Cu(D:Fls)(k:List UInt8):Fls:=D.filter λe=>!(e.1==k)
def Eg(D:Fls):Nat:=(D.map λe=>e.2.1.length).foldr (·+·) 0
structure DS where
 D:Fls
 room:Int
 B9:Int
 down:Bool
def Df(n:List UInt8):Bool:=decide (n≠[])&&(decide (n.length<=40)&&n.all λc=>decide (33<=c)&&decide (c<=126))
def HZ(s:DS):Int:=if s.down=true then 100 else 0
def C5(s:DS)(f:Fls->Fls)(though:Bool):DS × Int:=
 if 0<s.B9 then
  (if s.B9-1=0 then (⟨if though=true then f s.D else s.D,s.room,0,true⟩,100) else (⟨f s.D,s.room,s.B9-1,s.down⟩,0))
 else (⟨f s.D,s.room,s.B9,s.down⟩,0)
def fileOf(D:Fls)(n:List UInt8):Fil:=(AB D n).getD ([],0)
def BG(s:DS)(n b:List UInt8):DS × Int:=
 if s.down=true then (s,100) else
 if Df n=false then (s,2) else
 if 1048576-((fileOf s.D n).1.length:Int)<b.length then (s,3) else
 if s.room-(Eg s.D:Int)<b.length then (s,6) else
 C5 s (λD=>Cm D n ((fileOf s.D n).1++b,(fileOf s.D n).2)) true
def Bn(s:DS)(n:List UInt8):DS × Int:=
 if s.down=true then (s,100) else
 match AB s.D n with
 |none=>(s,7)
 |some f=>C5 s (λD=>Cm D n (f.1,f.1.length)) false
def CR(s:DS)(n t:List UInt8):DS × Int:=
 if s.down=true then (s,100) else
 if (Df n&&Df t)=false then (s,2) else
 match AB s.D n with
 |none=>(s,7)
 |some f=>C5 s (λD=>Cm (Cu D n) t f) false
def dig:Nat->Nat->List UInt8
 |0,_=>[]
 |k+1,n=>dig k (n/10)++[UInt8.ofNat (48+n%10)]
def nm(n:Nat):List UInt8:=[106,46]++dig 8 n
def fresh:List UInt8:=[106,46,110,101,119]
structure Seg where
 n:Nat
 l:List Rec
 size:Nat
 st:Nat
def Hx(n:Nat)(b:List UInt8):Seg:=⟨n,(scan b).1,(scan b).2.1,(scan b).2.2⟩
def DI(x:Seg):Bool:=match x.l with | r::_=>r.1==0 | []=>false
def D5:List Seg->Option Nat
 |[]=>none
 |x::r=>match D5 r with | some i=>some (i+1) | none=>if DI x=true then some 0 else none
def Iw(n0 len i:Nat)(x:Seg):Bool:=
 decide (x.n=n0+i)&&((decide (i+1=len) || decide (x.st=0))&&(decide (x.st≠2)&&(x.l.zipIdx.all λc=>!(c.1.1==0) || decide (i+c.2=0))))
def FL(r:List Seg):Bool:=r.zipIdx.all λx=>Iw ((r.head?.map (·.n)).getD 0) r.length x.2 x.1
def Ga(l:List Seg):Option (List Seg × Nat):=
 match D5 l with
 |none=>if l=[] then some ([],0) else none
 |some f=>if FL (l.drop f)=true then some (l.drop f,f) else none
end Go.Jr
namespace Go.Proofs.YtbchfeibhoobeaaGreatDoor
open Go.Abs Go.Jr
variable {A:AW} {d mp:Nat} {s:DS} {K:Value->AW->Prop}
abbrev Fv:=ByteArray × Nat
def vF(v:Fv):Value:=.agg ⟨[.string v.1,.int .i64 (v.2:Int)]⟩
def E2(a b:ByteArray):Bool:=a.data.toList==b.data.toList
def fF(v:Fv):Fil:=(v.1.data.toList,v.2)
def fE(e:En ByteArray Fv):List UInt8 × Fil:=(e.k.data.toList,fF e.v)
theorem mtF:MT Tp 74 9 100 kS E2:=⟨by kernel_rfl,eqS,λ{a b}=>by unfold E2;rw [beq_iff_eq];exact ⟨ZW,λh=>by rw [h]⟩,Adu,WM⟩
theorem zF:Ei Tp 100=some (vF (⟨⟨[]⟩⟩,0)):=by kernel_rfl
theorem Acm(v:Fv):(vF v).cells.toList=[.string v.1,.int .i64 (v.2:Int)]:=rfl
theorem E1:∀ (es:List (En ByteArray Fv)) (k:ByteArray),(DR E2 es k).map fF=AB (es.map fE) k.data.toList
 |[],_=>rfl
 |e::es,k=>by
  have ih:=E1 es k;unfold AB at ih ⊢;unfold DR;rw [Mc,List.find?_cons];have e1:((fE e).1==k.data.toList)=E2 k e.k:=by
   show (e.k.data.toList==k.data.toList)=(k.data.toList==e.k.data.toList);rw [Bool.eq_iff_iff,beq_iff_eq,beq_iff_eq];exact eq_comm
  rw [e1];cases E2 k e.k with
  |true=>simp [fE]
  |false=>simpa using ih
theorem Jj(k:ByteArray)(v:Fv)(c:Nat):∀ (es:List (En ByteArray Fv)),(LO E2 es k v c).map fE=Cm (es.map fE) k.data.toList (fF v)
 |[]=>rfl
 |e::es=>by
  have ih:=Jj k v c es;unfold LO;rw [Mc,Cm];have e1:((fE e).1==k.data.toList)=E2 k e.k:=by
   show (e.k.data.toList==k.data.toList)=(k.data.toList==e.k.data.toList);rw [Bool.eq_iff_iff,beq_iff_eq,beq_iff_eq];exact eq_comm
  rw [e1];cases h:E2 k e.k with
  |true=>
   have hk:k=e.k:=mtF.dec.1 h;subst hk;simp [fE]
  |false=>simp [ih]
theorem UK(k:ByteArray)(es:List (En ByteArray Fv)):(OP E2 es k).map fE=Cu (es.map fE) k.data.toList:=by
 unfold OP Cu;rw [List.filter_map]
 congr 1
 apply List.filter_congr;intro e _;show (!E2 k e.k)=!(e.k.data.toList==k.data.toList);unfold E2
 congr 1
 rw [Bool.eq_iff_iff,beq_iff_eq,beq_iff_eq];exact eq_comm
def Dk(A:AW)(d mp:Nat)(s:DS):Prop:=∃ es c,Go.Abs.AS A d [.map (some mp),.int .i64 s.room,.int .i64 s.B9,.bool s.down] 76/\Er kS vF A mp es c/\d≠mp/\s.D=es.map fE
theorem Dk.keeps{A':AW}{S:List Nat}(h:Dk A d mp s)(k:Aj A A' S)(hd:d∉S)(hm:mp∉S):Dk A' d mp s:=by
 obtain ⟨es,c,h1,h2,h3,h4⟩:=h;exact ⟨es,c,h1.keeps k hd,h2.keeps k hm,h3,h4⟩
theorem Dk.lt(h:Dk A d mp s):d<A.next/\mp<A.next:=by
 obtain ⟨es,c,h1,h2,h3,h4⟩:=h;exact ⟨h1.lt,h2.ltA⟩
structure OkD (s:DS):Prop where
 few:s.D.length<10000
 len:∀ f∈s.D,f.2.1.length<=1048576
 safe:∀ f∈s.D,f.2.2<=f.2.1.length
theorem Acy(a:Addr)(xo yo:Operand):Ai Tp .neq 27 xo yo (.pointer (some a)) (.pointer none)=some (.bool true):=by kernel_rfl
theorem Afx(r:Nat)(xo yo:Operand):Ai Tp .neq 74 xo yo (.map (some r)) (.map none)=some (.bool true):=by kernel_rfl
section
variable {W0:World} {m0:Inj Tp}
theorem QT(h:Dk A d mp s)(hk:K (.bool true) A):Wc Tp An W0 m0 58 [pP d 0] A K:=by
 obtain ⟨es,c,hr,hm,hne,hD⟩:=h;refine w58 _ _ BF ?_;rw [e58];simp only [Acy,Ab,Al];refine Ag.2 ⟨λ_=>?_,λh=>by cases h⟩;simp only [CS,EJ,Ae hr.row,cellOf,Cc,Cf,Ab,Afx];exact hk
theorem SO(h:Dk A d mp s)(hk:K (.int .i64 (HZ s)) A):Wc Tp An W0 m0 62 [pP d 0] A K:=by
 refine w62 _ _ BF ?_;rw [e62];refine QT h ?_;obtain ⟨es,c,hr,hm,hne,hD⟩:=h;simp only [Bg,Ab,Al,Ij,Fh,Ae hr.row,cellOf,Bt,Cf,Nat.zero_add];refine Ag.2 ⟨λh=>by simp at h,λ_=>?_⟩;unfold HZ at hk;refine Ag.2 ⟨λh=>?_,λh=>?_⟩
 ·rw [if_pos h] at hk;exact hk
 ·rw [if_neg (by rw [h];simp)] at hk;exact hk
theorem Z4(h:Dk A d mp s)(hk:K (.bool s.down) A):Wc Tp An W0 m0 23 [pP d 0] A K:=by
 refine w23 _ _ BF ?_;rw [e23];refine QT h ?_;obtain ⟨es,c,hr,hm,hne,hD⟩:=h;simp only [Bg,Ab,Al,Ij,Fh,Ae hr.row,cellOf,Bt,Cf,Nat.zero_add];exact Ag.2 ⟨λh=>by simp at h,λ_=>hk⟩
end
end Go.Proofs.YtbchfeibhoobeaaGreatDoor
namespace Go.Proofs.YtbchfeibhoobeaaGreatDoor
open Go.Abs
def srR:Go.Shelf.Ren:=⟨λ| 125=>129 | 128=>155 | 129=>156 | 190=>102 | 258=>128 | 302=>146 | 303=>147 | 304=>148 | 305=>149 | 306=>150 | 307=>151 | 308=>152 | 309=>153 | 310=>154 | 329=>175 | 330=>176 | 333=>174 | 334=>177 | 335=>178 | 336=>179 | 344=>192 | x=>x,λ| 31=>37 | 46=>42 | 51=>24 | 53=>134 | 131=>186 | 182=>181 | 183=>182 | 218=>205 | 222=>209 | 228=>221 | 229=>222 | x=>x,λx=>x⟩
theorem srX:Go.Proofs.Lays.n190 Tp srR where
 mixed:=by kernel_rfl
 f125:=Tryz.func129.trans (congrArg some (by kernel_rfl))
 f128:=Tryz.func155.trans (congrArg some (by kernel_rfl))
 f129:=Tryz.func156.trans (congrArg some (by kernel_rfl))
 f190:=Tryz.func102.trans (congrArg some (by kernel_rfl))
 f258:=Tryz.func128.trans (congrArg some (by kernel_rfl))
 f302:=Tryz.func146.trans (congrArg some (by kernel_rfl))
 f303:=Tryz.func147.trans (congrArg some (by kernel_rfl))
 f304:=Tryz.func148.trans (congrArg some (by kernel_rfl))
 f305:=Tryz.func149.trans (congrArg some (by kernel_rfl))
 f306:=Tryz.func150.trans (congrArg some (by kernel_rfl))
 f307:=Tryz.func151.trans (congrArg some (by kernel_rfl))
 f308:=Tryz.func152.trans (congrArg some (by kernel_rfl))
 f309:=Tryz.func153.trans (congrArg some (by kernel_rfl))
 f310:=Tryz.func154.trans (congrArg some (by kernel_rfl))
 f329:=Tryz.func175.trans (congrArg some (by kernel_rfl))
 f330:=Tryz.func176.trans (congrArg some (by kernel_rfl))
 f333:=Tryz.func174.trans (congrArg some (by kernel_rfl))
 f334:=Tryz.func177.trans (congrArg some (by kernel_rfl))
 f335:=Tryz.func178.trans (congrArg some (by kernel_rfl))
 f336:=Tryz.func179.trans (congrArg some (by kernel_rfl))
 f344:=Tryz.func192.trans (congrArg some (by kernel_rfl))
 t0:=Tryz.underlying0
 a0:=Tryz.isAgg0
 z0:=Tryz.sizeOf0
 v0:=Tryz.zeroValue0
 t3:=Tryz.underlying3
 a3:=Tryz.isAgg3
 z3:=Tryz.sizeOf3
 v3:=Tryz.zeroValue3
 t4:=Tryz.underlying4
 a4:=Tryz.isAgg4
 z4:=Tryz.sizeOf4
 v4:=Tryz.zeroValue4
 t5:=Tryz.underlying5
 a5:=Tryz.isAgg5
 z5:=Tryz.sizeOf5
 v5:=Tryz.zeroValue5
 t9:=Tryz.underlying9
 a9:=Tryz.isAgg9
 z9:=Tryz.sizeOf9
 v9:=Tryz.zeroValue9
 t31:=Tryz.underlying37
 a31:=Tryz.isAgg37
 z31:=Tryz.sizeOf37
 v31:=Tryz.zeroValue37
 t46:=Tryz.underlying42
 a46:=Tryz.isAgg42
 z46:=Tryz.sizeOf42
 v46:=Tryz.zeroValue42
 t51:=Tryz.underlying24
 a51:=Tryz.isAgg24
 z51:=Tryz.sizeOf24
 v51:=Tryz.zeroValue24
 t53:=Tryz.underlying134
 a53:=Tryz.isAgg134
 z53:=Tryz.sizeOf134
 v53:=Tryz.zeroValue134
 t131:=Tryz.underlying186
 a131:=Tryz.isAgg186
 z131:=Tryz.sizeOf186
 v131:=Tryz.zeroValue186
 t182:=Tryz.underlying181
 a182:=Tryz.isAgg181
 z182:=Tryz.sizeOf181
 v182:=Tryz.zeroValue181
 t183:=Tryz.underlying182
 a183:=Tryz.isAgg182
 z183:=Tryz.sizeOf182
 v183:=Tryz.zeroValue182
 t218:=Tryz.underlying205
 a218:=Tryz.isAgg205
 z218:=Tryz.sizeOf205
 v218:=Tryz.zeroValue205
 t222:=Tryz.underlying209
 a222:=Tryz.isAgg209
 z222:=Tryz.sizeOf209
 v222:=Tryz.zeroValue209
 t228:=Tryz.underlying221
 a228:=Tryz.isAgg221
 z228:=Tryz.sizeOf221
 v228:=Tryz.zeroValue221
 t229:=Tryz.underlying222
 a229:=Tryz.isAgg222
 z229:=Tryz.sizeOf222
 v229:=Tryz.zeroValue222
end Go.Proofs.YtbchfeibhoobeaaGreatDoor
namespace Go.Abs
open Go.Sort Go.Proofs
def txV(s:List UInt8):Value:=.string ⟨⟨s⟩⟩
section
variable {P:Program} {X:Bz} {W0:World} {m0:Inj P}
theorem RF {w w1:World} {blk off:Nat} {cs cs2:Array Value} {e:TypeId} {fr:Nat × Nat} {l':List (List UInt8)} (h0:w.heap[blk]? =some (.cells cs e fr)) (hsz:off+l'.length<=cs.size)
  (g2:w1.heap[blk]? =some (.cells cs2 e fr)) (g4:∀ j,(j<off\/off+l'.length<=j)->cs2[j]? =cs[j]?) (g5:∀ j,j<l'.length->cs2[off+j]? =(l'.map txV)[j]?) (g6:∀ b,b≠blk->w1.heap[b]? =w.heap[b]?) (g7:w1.heap.size=w.heap.size)
  (g8:w1.os=w.os) (g9:w1.tape=w.tape) (g10:w1.output=w.output) (_:w1.drawn=w.drawn) (n:Nat) (os:Array Obj):Low w1 (grow (putRow encStr (Sort.ahead w n) blk off l'.toArray) os):=by
 have hb:blk<w.heap.size:=(Array.getElem?_eq_some_iff.1 h0).1;refine ⟨⟨g8.symm,g9.symm,g10.symm,?_,λc hc=>?_⟩⟩
 ·show w1.heap.size<=((w.heap.modify blk _)++os).size;rw [g7];simp
 ·show ((w.heap.modify blk (onCells (putCells encStr off l'.toArray)))++os)[c]? =w1.heap[c]?;rw [Array.getElem?_append_left (by simp;omega),Array.getElem?_modify];by_cases hcb:blk=c
  ·subst hcb;rw [if_pos rfl,h0,g2];simp only [Option.map_some,onCells,Oi,Obj.cells.injEq,and_true];apply Array.ext_getElem?;intro i;unfold putCells;rw [Array.getElem?_mapIdx];by_cases hi:off<=i/\i<off+l'.length
   ·have hics:i<cs.size:=by omega
    have h5:=g5 (i-off) (by omega);rw [show off+(i-off)=i by omega] at h5;have hj:i-off<l'.length:=by omega
    rw [h5,Array.getElem?_eq_getElem hics,List.getElem?_map,Ge hj];simp only [Option.map_some,List.size_toArray,Oi];rw [if_pos hi,getElem!_pos l'.toArray (i-off) (by simpa using hj)];simp [encStr,txV]
   ·rw [g4 i (by omega)];cases hx:cs[i]? with
    |none=>rfl
    |some x=>
     simp only [Option.map_some,List.size_toArray,Oi];rw [if_neg hi]
  ·rw [if_neg hcb,g6 c (λh=>hcb h.symm)]
theorem O6:∀ (new:List Value) (pre cs:List Value),cs.length=new.length->Ek (pre++cs) pre.length new=pre++new
 |[],pre,cs,h=>by
  have:cs=[]:=List.eq_nil_of_length_eq_zero h
  subst this;rfl
 |v::r,pre,[],h=>by simp at h
 |v::r,pre,c::cs,h=>by
  have hs:(pre++c::cs).set pre.length v=(pre++[v])++cs:=by simp
  have hl:pre.length+1=(pre++[v]).length:=by simp
  rw [Ek,hs,hl,O6 r (pre++[v]) cs (by simpa using h)]
  simp
theorem Ud(l:List (List UInt8)):(l.map txV).all AT=true:=by
 rw [List.all_eq_true];intro u hu;obtain ⟨x,_,rfl⟩:=List.mem_map.1 hu;rfl
theorem Vy {ρ:Go.Shelf.Ren} (L:Go.Proofs.Lays.n190 P ρ) {A:AW} {e:TypeId} {v:Value} {l:List (List UInt8)} {F:List Nat} {K:Value->AW->Prop} (h:DJ A e 1 v l.length (l.map txV) F) (hf:Aw A) (hlen:l.length<4611686018427387904)
  (hK:∀ A',DJ A' e 1 v l.length ((l.mergeSort λx y=>decide (x<=y)).map txV) F->Aj A A' F->A'.next=A.next->Aw A'->K (.tuple #[]) A'):Abr P W0 m0 (ρ.f 190) [v] A K:=by
 intro m w args' r _ _ ha;cases ha with
 |cons hv ht=>
 cases ht;rcases h with ⟨rfl,hn,hc,rfl⟩ | ⟨b,f,rfl,ho,rfl⟩
 ·
  have hl:l=[]:=List.eq_nil_of_length_eq_zero hn;subst hl;cases hv;refine (Go.Proofs.Any.slices_Sort_string_none L none 0 w).mono ?_;rintro e w' ⟨rfl,rfl⟩;exact ⟨_,_,m,A,hK A (.inl ⟨rfl,rfl,by rw [List.mergeSort_nil];rfl,rfl⟩) (.refl _ _) rfl hf,rfl,.tuple .nil,.refl r _⟩
 ·
  have hpos:=ho.pos;cases hv with
  |@slice a a' n c c' hc hn har=>
  have hc':0<c':=by omega
  obtain ⟨_,hs',d,hm,hoff⟩:=har hc';obtain ⟨blk,off,sp⟩:=a';simp only at hs' hm hoff;subst hs';have hoff:off=d:=by omega
  subst hoff;obtain ⟨o',q1,cs',fr,rfl,hrow⟩:=r.obj b _ blk off ho.row hm;have hlcs:(l.map txV).length=l.length:=List.length_map _;have hcells:∀ j,j<l.length->cs'[off+j]? =(l.map txV)[j]? /\¬ (fr.1<=off+j/\off+j<fr.2):=by
   intro j hj;have hjl:j<(l.map txV).length:=by omega
   obtain ⟨u,k1,k2,k3⟩:=hrow j _ (Ge hjl);have e1:(l.map txV)[j]=txV l[j]:=List.getElem_map _;rw [k1,Ge hjl,e1,EC 4 (txV l[j]) u rfl (by rw [<- e1];exact k2 (by rw [e1];rfl))];exact ⟨rfl,k3 rfl⟩
  have hsize:off+l.length<=cs'.size:=by
   have h2:=(hcells (l.length-1) (by omega)).1;rw [Ge (by omega:l.length-1<(l.map txV).length)] at h2
   have:=(Array.getElem?_eq_some_iff.1 h2).1
   omega
  have hH:Go.Sort.Holds encStr w blk off l.toArray:=by
   intro j hj;have hj:j<l.length:=by simpa using hj
   obtain ⟨h2,h3⟩:=hcells j hj;refine ⟨?_,?_⟩
   ·simp only [World.cell?,q1,Option.isSome_none,Bool.false_eq_true,if_false];rw [h2,List.getElem?_map,Ge hj,getElem!_pos l.toArray j (by simpa using hj)];simp [encStr,txV]
   ·simp only [World.frozen?,q1];cases hx:(decide (fr.1<=off+j)&&decide (off+j<fr.2)) with
    |false=>rfl
    |true=>simp at hx;exact (h3 (by simpa using hx)).elim
  have hblk:blk<w.heap.size:=(Array.getElem?_eq_some_iff.1 q1).1;have hcon:=Go.Proofs.Any.slices_Sort_string L blk off c' l w hH hblk hlen;refine hcon.mono ?_;rintro e2 w' ⟨rfl,nn,os,rfl⟩;generalize hl':(l.mergeSort λx y=>decide (x<=y))=l';rw [hl'] at hK;have hl'len:l'.length=l.length:=by rw [<- hl'];exact List.length_mergeSort _
  have hnl:(l'.map txV).length=l.length:=by rw [List.length_map,hl'len]
  have hbl:=hf.lt ho.row;have hml:∀ i∈A.members f,i<Am:=λi hi=>by have:=(ho.mem i hi).2.1;have:=r.lim;omega
  obtain ⟨A',k1,k2,k3,k4,k5,k6⟩:=H2 (new:=l'.map txV) (off:=0) ho.row hml (by rw [hnl,hlcs];omega) (Ud l') (by have:=r.lim;omega);have hmem:∀ g,A'.members g=A.members g:=IY k6;have hset:Ek (l.map txV) 0 (l'.map txV)=l'.map txV:=O6 (l'.map txV) [] (l.map txV) (by rw [hnl,hlcs]);rw [hset] at k2;obtain ⟨w1,s1,s2,s3⟩:=Ev.setCells (i:=0) (a':=⟨blk,off,none⟩) r (AK.Dd (m:=m) λu hu=>by obtain ⟨x,_,rfl⟩:=List.mem_map.1 hu;exact Cy 4 _ rfl) (λ_=>⟨rfl,rfl,off,hm,rfl⟩) k1;obtain ⟨w2,cs2,g1,g2,g3,g4,g5,g6,g7,g8,g9,g10,g11⟩:=GB (P:=P) blk e fr ⟨blk,off,none⟩ rfl rfl (l'.map txV) 0 cs' w q1 (by show off+0+_<=_;rw [hnl];omega)
   (λj hj=>by rw [hnl] at hj;show ¬ (fr.1<=off+0+j/\off+0+j<fr.2);rw [Nat.add_zero];exact (hcells j hj).2) (λu hu=>List.all_eq_true.1 (Ud l') u hu)
  rw [s1] at g1;cases g1;have hlow:Low w1 (grow (putRow encStr (Sort.ahead w nn) blk off l'.toArray) os):=RF q1 (by rw [hl'len];exact hsize) g2 (λj hj=>g4 j (by show j<off+0\/off+0+_<=j;rw [hnl];rw [hl'len] at hj;omega)) (λj hj=>by
   have:=g5 j (by rw [hnl];rw [hl'len] at hj;exact hj)
   rw [show (⟨blk,off,none⟩:Addr).off+0+j=off+j by rfl] at this;exact this) g6 g7 g8 g9 g10 g11 nn os
  refine ⟨_,_,m,A',hK A' (.inr ⟨b,f,rfl,⟨ho.pos,k2,by rw [hnl];omega,Nat.zero_le _,Nat.zero_le _,by rw [k5];exact ho.ltf,λi hi=>?_⟩,rfl⟩) ⟨by rw [k5];exact Nl _,λi o hi _ hn=>?_,λg _ _=>hmem g⟩ k5 ⟨λi hi=>?_,λi hi=>?_⟩,rfl,.tuple .nil,(s2.low (Nl _)).trans (EvL.grow s2.rel hlow _)⟩
  ·rw [hmem] at hi;obtain ⟨_,h2,cs',e',b',ro',h3⟩:=ho.mem i hi;obtain ⟨cs2,h4⟩:=k4 i _ _ _ _ _ h3;exact ⟨Nat.zero_le _,by rw [k5];exact h2,cs2,e',b',ro',h4⟩
  ·rw [k3 i (λe=>?_) (λhm=>?_)]
   ·exact hi
   ·subst e;rw [ho.row] at hi;cases hi;exact hn (Ms.2 rfl)
   ·obtain ⟨_,_,cs',e',b',ro',h3⟩:=ho.mem i hm;rw [hi] at h3;cases h3;exact hn (Ms.2 rfl)
  ·rw [k6];exact hf.fams i (by rw [k5] at hi;exact hi)
  ·rw [k5] at hi;rw [k3 i (λe=>by omega) (λhm=>by have:=(ho.mem i hm).2.1;omega)];exact hf.get i hi
end
end Go.Abs
namespace Go.Abs
open Go.ChangeShapes Go.WideShapes Go.ChangeAt Go.RowKit
variable {n j i:Nat} {p:Nat × Nat} {cs:List Value} {e:TypeId} {s:Value}
abbrev Arg:=(Nat × Nat) × Option (List Value × TypeId)
def Ma(F:Nat):Nat->List Arg->Trie AO->Trie AO
 |_,[],t=>t
 |j,(_,none)::r,t=>Ma F (j+1) r t
 |j,(_,some (cs,e))::r,t=>(Ma F (j+1) r t).put depth j (some (.row cs e F 0 true))
def wR(n:Nat)(gl:List (Nat × List Value × TypeId))(L:List Arg):AW:=
 ⟨Ma (n+L.length) n L (KI gl),n+L.length+1,(Trie.nil:Trie (List Nat)).put depth (n+L.length) (some ((List.range L.length).map (n+·)))⟩
def mR(P:Program)(L:List Arg):Inj P:=mA P (L.map (·.1))
theorem FX(F:Nat):∀ (L:List Arg) (j:Nat) (t:Trie AO) (i:Nat),j+L.length<=Am->(Ma F j L t).get? i=if i<j then t.get? i else match L[i-j]? with
  |some (_,some (cs,e))=>some (.row cs e F 0 true)
  |_=>t.get? i
 |[],j,t,i,_=>by simp [Ma]
 |(p,none)::r,j,t,i,h=>by
  simp only [Lc] at h;simp only [Ma];rw [FX F r (j+1) t i (by omega)];by_cases h1:i<j
  ·rw [if_pos (by omega),if_pos h1]
  ·by_cases h2:i=j
   ·subst h2;rw [if_pos (by omega),if_neg h1,Nat.sub_self];rfl
   ·rw [if_neg (by omega),if_neg h1,show i-j=(i-(j+1))+1 by omega,List.getElem?_cons_succ]
 |(p,some (cs,e))::r,j,t,i,h=>by
  simp only [Lc] at h;simp only [Ma];rw [Trie.get?_put depth _ j i _ (by unfold depth Am at *;omega),FX F r (j+1) t i (by omega)];by_cases h1:i<j
  ·rw [if_neg (by omega),if_pos (by omega),if_pos h1]
  ·by_cases h2:i=j
   ·subst h2;rw [if_pos rfl,if_neg h1,Nat.sub_self];rfl
   ·rw [if_neg h2,if_neg (by omega),if_neg h1,show i-j=(i-(j+1))+1 by omega,List.getElem?_cons_succ]
section
variable {P:Program} {W:World} {gl:List (Nat × List Value × TypeId)} {L:List Arg}
theorem Aad(hk:n+L.length<=Am)(h:L[j]? =some (p,some (cs,e))):(wR n gl L).get (n+j)=some (.row cs e (n+L.length) 0 true):=by
 show (Ma _ n L _).get? _=_;rw [FX _ L n _ _ hk,if_neg (by omega),Nat.add_sub_cancel_left,h]
theorem SX(hok:okG n gl=true)(hk:n+L.length<=Am){o:AO}(h:(wR n gl L).get i=some o):
  (∃ x∈gl,x.1=i/\i<n/\o=.row x.2.1 x.2.2 i 0 true)\/∃ j p cs e,i=n+j/\L[j]? =some (p,some (cs,e))/\o=.row cs e (n+L.length) 0 true:=by
 have h:(Ma (n+L.length) n L (KI gl)).get? i=some o:=h;rw [FX _ L n _ _ hk] at h;unfold okG at hok;simp only [Bq,List.all_eq_true] at hok;obtain ⟨hn,hl⟩:=hok;have hn:=Bj.1 hn;have glob:(KI gl).get? i=some o->∃ x∈gl,x.1=i/\i<n/\o=.row x.2.1 x.2.2 i 0 true:=by
  intro h;obtain ⟨x,hx,rfl,rfl⟩:=LM gl (λx hx=>Nat.lt_of_lt_of_le (AF.1 (hl x hx).1) hn) i o h;exact ⟨x,hx,rfl,AF.1 (hl x hx).1,rfl⟩
 split at h
 ·exact .inl (glob h)
 ·split at h
  ·rename_i hi p cs e hq;cases h;exact .inr ⟨i-n,p,cs,e,by omega,hq,rfl⟩
  ·exact .inl (glob h)
theorem PO(hok:okG n gl=true)(hk:n+L.length+1<=Am):Aw (wR n gl L):=by
 refine ⟨λi hi=>?_,λi hi=>?_⟩
 ·have hi:n+L.length+1<=i:=hi;show ((Trie.nil:Trie (List Nat)).put depth (n+L.length) _).get? i=none;rw [Trie.get?_put depth _ _ i _ (by unfold depth Am at *;omega),if_neg (by omega)];rfl
 ·have hi:n+L.length+1<=i:=hi;cases hq:(wR n gl L).get i with
  |none=>rfl
  |some o=>
   rcases SX hok (by omega) hq with ⟨x,_,_,h,_⟩ | ⟨j,p,cs,e,rfl,h,_⟩
   ·omega
   ·have:=(Gs.1 h).1
    omega
def Zz(P:Program)(W:World)(L:List Arg):Prop:=∀ (j:Nat) (p:Nat × Nat) (cs:List Value) (e:TypeId),L[j]? =some (p,some (cs,e))->∃ cs' fr,W.heap[p.1]? =some (.cells cs' e fr)/\p.2<=cs'.size/\
 ∀ i v,cs[i]? =some v->∃ v',cs'[p.2+i]? =some v'/\AL (mR P L) v v'
theorem Afw(hok:okG P.globals.size gl=true)(hk:P.globals.size+L.length+1<=Am)(hW:Holds W gl)(hA:Zz P W L):Rel (mR P L) (wR P.globals.size gl L) W:=by
 have hget:=λ{i:Nat} {o:AO} (h:(wR P.globals.size gl L).get i=some o)=>SX hok (by omega) h;have hl:∀ x∈gl,x.2.1.all (AM 4)=true:=by
  unfold okG at hok;simp only [Bq,List.all_eq_true] at hok;intro x hx;exact List.all_eq_true.2 (hok.2 x hx).2
 have hlen:(L.map (·.1)).length=L.length:=List.length_map _;have harg:∀ {j:Nat} {p:Nat × Nat} {q:Option (List Value × TypeId)},L[j]? =some (p,q)->mR P L (P.globals.size+j)=some p:=by
  intro j p q h;show mA P _ _=_;rw [Ke,List.getElem?_map,h];rfl
 refine ⟨?_,?_,?_,?_,?_,hk,?_⟩
 ·intro i o c d hi hm;rcases hget hi with ⟨x,hx,rfl,hlt,rfl⟩ | ⟨j,p,cs,e,rfl,hj,rfl⟩
  ·have hm:mA P (L.map (·.1)) x.1=some (c,d):=hm;rw [Ie hlt] at hm;cases hm;obtain ⟨fr,hc⟩:=hW x hx;exact ⟨_,hc,_,fr,rfl,λi v hv=>⟨v,by simpa using hv,λ_=>Cy 4 v (List.all_eq_true.1 (hl x hx) v (List.mem_of_getElem? hv)),λh=>by cases h⟩⟩
  ·rw [harg hj] at hm;cases hm;obtain ⟨cs',fr,h1,h2,h3⟩:=hA j _ cs e hj;refine ⟨_,h1,cs',fr,rfl,λi v hv=>?_⟩;obtain ⟨v',g1,g2⟩:=h3 i v hv;exact ⟨v',g1,λ_=>g2,λh=>by cases h⟩
 ·intro i cs e b ro hi c d hm;rcases hget hi with ⟨x,hx,rfl,hlt,_⟩ | ⟨j,p,cs2,e2,rfl,hj,he⟩
  ·have hm:mA P (L.map (·.1)) x.1=some (c,d):=hm;rw [Ie hlt] at hm;cases hm;rfl
  ·have:=(Gs.1 hj).1
   simp only [AO.row.injEq] at he;omega
 ·intro i j oi oj c di dj hij hi hj hmi hmj;refine .inl ?_;rcases hget hi with ⟨x,hx,rfl,hlt,rfl⟩ | ⟨j,p,cs2,e2,rfl,_,rfl⟩<;>rcases hget hj with ⟨y,hy,rfl,hlt2,rfl⟩ | ⟨j2,p2,cs3,e3,rfl,_,rfl⟩<;>exact ⟨rfl,rfl⟩
 ·intro i o f b hi hf;have hmem:∀ f,(wR P.globals.size gl L).members f=if f=P.globals.size+L.length then (List.range L.length).map (P.globals.size+·) else [f]:=by
   intro f;show (match ((Trie.nil:Trie (List Nat)).put depth (P.globals.size+L.length) _).get? f with | some l=>l | none=>[f])=_;rw [Trie.get?_put depth _ _ f _ (by unfold depth Am at *;omega)];by_cases h:f=P.globals.size+L.length
   ·rw [if_pos h,if_pos h]
   ·rw [if_neg h,if_neg h];rfl
  rcases hget hi with ⟨x,hx,rfl,hlt,rfl⟩ | ⟨j,p,cs2,e2,rfl,hj,rfl⟩
  ·simp only [AO.fam,Oi,Pj] at hf;obtain ⟨rfl,rfl⟩:=hf;rw [hmem,if_neg (by omega)];exact ⟨by simp,by show x.1<P.globals.size+L.length+1;omega⟩
  ·simp only [AO.fam,Oi,Pj] at hf;obtain ⟨rfl,rfl⟩:=hf
   have:=(Gs.1 hj).1
   rw [hmem,if_pos rfl];exact ⟨List.mem_map.2 ⟨j,List.mem_range.2 this,rfl⟩,by show _<P.globals.size+L.length+1;omega⟩
 ·intro i hi;have hi:P.globals.size+L.length+1<=i:=hi;have hf:=PO (n:=P.globals.size) hok hk;refine ⟨hf.get i hi,?_,hf.fams i hi⟩;show (if i<P.globals.size then some (i,0) else (L.map (·.1))[i-P.globals.size]?)=none;rw [if_neg (by omega)];exact List.getElem?_eq_none (by omega)
 ·intro i cs e f b ro c d hi hm;rcases hget hi with ⟨x,hx,rfl,hlt,he⟩ | ⟨j,p,cs2,e2,rfl,hj,he⟩
  ·cases he;have hm:mA P (L.map (·.1)) x.1=some (c,d):=hm;rw [Ie hlt] at hm;cases hm;obtain ⟨fr,hc⟩:=hW x hx;exact ⟨λh=>absurd rfl h,_,_,fr,hc,by show 0+0<=_;omega,λh=>by cases h⟩
  ·cases he;rw [harg hj] at hm;cases hm;obtain ⟨cs',fr,h1,h2,h3⟩:=hA j _ _ _ hj;exact ⟨λh=>absurd rfl h,cs',_,fr,h1,by show _+0<=_;omega,λh=>by cases h⟩
theorem AcK(hok:okG P.globals.size gl=true)(hk:P.globals.size+L.length<=Am)(c:Nat):¬ Own (mR P L) (wR P.globals.size gl L) c:=by
 rintro ⟨i,o,d,hi,hro,_⟩;rcases SX hok hk hi with ⟨x,hx,rfl,hlt,rfl⟩ | ⟨j,p,cs2,e2,rfl,_,rfl⟩<;>cases hro
theorem MG {X:Bz} (hP:POk P) (hok:okG P.globals.size gl=true) (hk:P.globals.size+L.length+1<=Am) {g:FuncId} {args args':List Value}
  (hW:Holds W gl) (hA:Zz P W L) (ha:AK (mR P L) args args') (h:Wc P X W (mR P L) g args (wR P.globals.size gl L) λv _=>v=.bool true):Calls P g ⟨args'⟩ W λe W'=>e=.returned (.bool true)/\Below W.heap.size W W':=by
 refine (I9 hP h (Afw hok hk hW hA) (λi hi=>Ie hi) (AcK hok (by omega)) ha).mono ?_;rintro e w' ⟨v,v',m',A',rfl,rfl,h2,h3⟩;cases h2;exact ⟨rfl,Ya h3 (AcK hok (by omega))⟩
end
section
variable {H:Type} {enc:TypeId × Value->H} {P:Program}
def flat{β:Type}(f:β->List Value)(l:List β):List Value:=l.flatMap f
theorem CW{β:Type}{f:β->List Value}{n:Nat}(hn:∀ b,(f b).length=n):∀ l:List β,(flat f l).length=l.length*n
 |[]=>by simp [flat]
 |b::r=>by
  have:=CW hn r
  simp only [flat,List.flatMap_cons,Lq,hn,Lc] at *;rw [this,Nat.succ_mul];omega
theorem Eb{β:Type}{f:β->List Value}{n:Nat}(hn:∀ b,(f b).length=n):∀ (l:List β) (i:Nat) (b:β),l[i]? =some b->∃ rest,(flat f l).drop (i*n)=f b++rest
 |[],i,b,h=>by simp at h
 |x::r,0,b,h=>by
  simp only [List.getElem?_cons_zero,Oi] at h;subst h;exact ⟨flat f r,by simp [flat]⟩
 |x::r,i+1,b,h=>by
  simp only [List.getElem?_cons_succ] at h;obtain ⟨rest,h2⟩:=Eb hn r i b h;refine ⟨rest,?_⟩;rw [<- h2];simp only [flat,List.flatMap_cons];rw [Nat.succ_mul,Nat.add_comm,<- List.drop_drop,List.drop_append,hn,Nat.sub_self];rw [show List.drop n (f x)=[] from List.drop_eq_nil_of_le (by rw [hn];exact Nl _)]
  simp
theorem XA{β:Type}{f:β->List Value}(hn:∀ b,(f b).length=n){l:List β}{b:β}(h:l[i]? =some b){k:Nat}(hk:k<n):(flat f l)[i*n+k]? =(f b)[k]? :=by
 obtain ⟨rest,h2⟩:=Eb hn l i b h;rw [<- List.getElem?_drop,h2,List.getElem?_append_left (by rw [hn];exact hk)]
inductive DL (W:World) {β:Type} (f:β->List Value) (s:Value) (l:List β):Arg->Prop
 |nil (hl:l=[]) (hs:Ni s) (h0:∃ o c,s=.slice o 0 c):DL W f s l (placeOf s,none)
 |blk (a:Addr) (c:Nat) (cs:Array Value) (e':TypeId) (fr:Nat × Nat) (hs:s=.slice (some a) l.length c) (hc:l.length<=c) (hc2:c<Bx) (hsp:a.spot=none) (hb:W.heap[a.block]? =some (.cells cs e' fr)) (ho:a.off<=cs.size)
   (hg:∀ i v,(flat f l)[i]? =some v->cs[a.off+i]? =some v):DL W f s l ((a.block,a.off),some (flat f l,e'))
theorem PE(a:Addr)(n:Nat)(h:a.spot=none):a.add n=⟨a.block,a.off+n,none⟩:=by
 unfold Addr.add;split
 ·rename_i h0;subst h0;obtain ⟨b,o,s⟩:=a;simp only at h;subst h;rfl
 ·rfl
theorem Pc {W:World} {t:TypeId} {fuel:Nat} {x:DataW H × List MemPlace} {β:Type} {f:β->List Value} {ok:β->Prop} (b0:β) (hu:P.underlying t=some (.slice e)) (hz:0<P.cellsOf e) (hn:∀ b,(f b).length=P.cellsOf e)
  (hel:∀ q cs y,DataW.trod enc P W 0 (λ_=>true) true q e cs=some y->∃ b,cs=f b/\ok b) (h:DataW.trod enc P W 0 (λ_=>true) true fuel t cs=some x):
  ∃ s l L,cs=[s]/\DL W f s l L/\(∀ b∈l,ok b):=by
 have hsl:=Te hu hz h;rcases Go.Deep.open_slice hu h with ⟨rfl,_⟩ | ⟨a,n,c,m,k,D,Pl,rfl,_,hnm,hc,hm,_,hx⟩
 ·exact ⟨_,[],_,rfl,.nil rfl (.inl rfl) ⟨none,0,rfl⟩,by simp⟩
 ·obtain ⟨s',hs1,hs2⟩:=hsl;simp only [Li,and_true] at hs1;subst hs1;have hm:m=c:=hm;subst hm;have hcap:m<Bx:=by
   have h1:maxLen<Bx:=by decide
   omega
  rcases Nat.eq_zero_or_pos n with rfl | hpos
  ·exact ⟨_,[],_,rfl,.nil rfl hs2 ⟨some a,m,rfl⟩,by simp⟩
  ·have key:∀ i,i<n->∃ b:β,ok b/\∀ j,j<P.cellsOf e->∃ v,(f b)[j]? =some v/\W.cell? ((a.add (i*P.cellsOf e)).add j)=some v:=by
    intro i hi;obtain ⟨cs',g1,g2⟩:=hx i (by omega);obtain ⟨_,hl,g3⟩:=World.cells?_some g1;obtain ⟨b,rfl,hok⟩:=hel _ _ _ g2;refine ⟨b,hok,λj hj=>?_⟩;have h4:=g3 j (by omega);exact ⟨(f b)[j]'(by rw [hn];exact hj),Ge _,by rw [h4];exact Ge _⟩
   obtain ⟨bb,_,q⟩:=key 0 hpos;obtain ⟨v0,_,q2⟩:=q 0 hz;have hblk:a.spot=none/\∃ cs e' fr,W.heap[a.block]? =some (.cells cs e' fr)/\a.off<=cs.size:=by
    have:W.cell? a=some v0:=by simpa [Addr.add] using q2
    unfold World.cell? at this;split at this
    ·rename_i cs e' fr hh;split at this
     ·cases this
     ·rename_i hsp;refine ⟨?_,cs,e',fr,hh,?_⟩
      ·cases hq:a.spot with
       |none=>rfl
       |some z=>exact absurd (by simp [hq]) hsp
      ·have:=(Array.getElem?_eq_some_iff.1 this).1
       omega
    ·cases this
   obtain ⟨hsp,cs,e',fr,hh,hoff⟩:=hblk;let g:Nat->β:=λi=>if h:i<n then Classical.choose (key i h) else b0
   have hg:∀ i (h:i<n),g i=Classical.choose (key i h):=λi h=>dif_pos h;have hfl:((List.range n).map g).length=n:=by simp
   refine ⟨_,(List.range n).map g,_,rfl,.blk a m cs e' fr (by rw [hfl]) (by rw [hfl];exact hnm) hcap hsp hh hoff λi v hi=>?_,λb hb=>?_⟩
   ·have hlt:i<n*P.cellsOf e:=by
     have:=(Gs.1 hi).1
     rw [CW hn,hfl] at this;exact this
    have hdiv:i/P.cellsOf e<n:=(Nat.div_lt_iff_lt_mul hz).2 hlt;have hmod:i%P.cellsOf e<P.cellsOf e:=Nat.mod_lt _ hz;have hie:i/P.cellsOf e*P.cellsOf e+i%P.cellsOf e=i:=by rw [Nat.mul_comm];exact Nat.div_add_mod i _
    have hget:((List.range n).map g)[i/P.cellsOf e]? =some (g (i/P.cellsOf e)):=by
     rw [List.getElem?_map,List.getElem?_range hdiv];rfl
    have:=XA hn hget hmod
    rw [hie,hi,hg _ hdiv] at this;obtain ⟨_,p2⟩:=Classical.choose_spec (key _ hdiv);obtain ⟨v',p3,p4⟩:=p2 _ hmod;rw [<- this] at p3;cases p3;rw [PE a _ hsp,PE _ _ rfl] at p4;unfold World.cell? at p4;rw [hh] at p4;simp only [Option.isSome_none,Bool.false_eq_true,if_false] at p4;rw [show a.off+i/P.cellsOf e*P.cellsOf e+i%P.cellsOf e=a.off+i by omega] at p4
    simpa using p4
   ·simp only [List.mem_map,List.mem_range] at hb;obtain ⟨i,hi,rfl⟩:=hb;rw [hg i hi];exact (Classical.choose_spec (key i hi)).1
theorem DL.rel{W:World}{β:Type}{f:β->List Value}{l:List β}{La:Arg}(h:DL W f s l La){L:List Arg}(hL:L[j]? =some La):
  ∃ s',AL (mR P L) s' s/\((l=[]/\∃ o c,s'=.slice o 0 c)\/∃ c p e,s'=.slice (some ⟨P.globals.size+j,0,none⟩) l.length c/\L[j]? =some (p,some (flat f l,e))):=by
 cases h with
 |nil hl hs h0=>
  have:(L.map (·.1))[j]? =some (placeOf s):=by rw [List.getElem?_map,hL];rfl
  obtain ⟨o,n2,c2,hv⟩:=hs.rel (P:=P) (l:=L.map (·.1)) j this;obtain ⟨o',c',rfl⟩:=h0;have hn2:n2=0:=by cases hv<;>rfl
  subst hn2;exact ⟨_,hv,.inl ⟨hl,_,_,rfl⟩⟩
 |blk a c cs e' fr hs hc hc2 hsp hb ho hg=>
  subst hs;refine ⟨_,?_,.inr ⟨c,_,_,rfl,hL⟩⟩;refine .slice (.inl ⟨hc2,rfl⟩) hc λ_=>⟨rfl,hsp,a.off,?_,rfl⟩;show mA P _ _=_;rw [Ke,List.getElem?_map,hL];rfl
theorem DL.args{W:World}{β:Type}{f:β->List Value}{l:List β}{La:Arg}(h:DL W f s l La)(hf:∀ b,(f b).all (AM 4)=true)(hq:La=(p,some (cs,e))){L:List Arg}:
  ∃ cs' fr,W.heap[p.1]? =some (.cells cs' e fr)/\p.2<=cs'.size/\∀ i v,cs[i]? =some v->∃ v',cs'[p.2+i]? =some v'/\AL (mR P L) v v':=by
 cases h with
 |nil hl hs h0=>simp at hq
 |blk a c cs2 e' fr hs hc hc2 hsp hb ho hg=>
  simp only [Pj,Oi] at hq;obtain ⟨rfl,rfl,rfl⟩:=hq;refine ⟨cs2,fr,hb,ho,λi v hv=>⟨v,hg i v hv,Cy 4 v ?_⟩⟩;have hm:=List.mem_of_getElem? hv;unfold flat at hm;obtain ⟨b,_,hb2⟩:=List.mem_flatMap.1 hm;exact List.all_eq_true.1 (hf b) v hb2
end
end Go.Abs
namespace Go.Abs
variable {A A':AW} {v:Value} {F S:List Nat} {o c q:Nat} {e:TypeId}
structure ET (P:Program) (ts te:TypeId) (n:Nat) {β:Type} (f:β->List Value):Prop where
 us:P.underlying ts=some (.slice te)
 sz:szT P te=some (n+1)
 ag:NT P te=some true
 by':∃ b,E9 P te=some b/\b<=256
 hz:DG P te (n+1)=true
 len:∀ x,(f x).length=n+1
 one:∀ x,(f x).all AT=true
 noT:∀ x,(f x).all (λv=>!isTuple v)=true
section
variable {P:Program} {ts te:TypeId} {n:Nat} {β:Type} {f:β->List Value}
def RdE(n:Nat)(f:β->List Value)(A:AW)(v:Value)(l:List β)(F:List Nat):Prop:=
 (l=[]/\F=[]/\∃ o c,v=.slice o 0 c)\/∃ r o c cs e g b ro,v=.slice (some ⟨r,o,none⟩) l.length c/\A.get r=some (.row cs e g b ro)/\g<A.next/\F=[g]/\∀ (i:Nat) p,l[i]? =some p->∃ rest,cs.drop (o+i*(n+1))=f p++rest
theorem RdE.keeps{l:List β}(h:RdE n f A v l F)(k:Aj A A' S)(hd:∀ x∈F,x∉S):RdE n f A' v l F:=by
 rcases h with h | ⟨r,o,c,cs,e,g,b,ro,h1,h2,h3,rfl,h4⟩
 ·exact .inl h
 ·exact .inr ⟨r,o,c,cs,e,g,b,ro,h1,k.get r _ h2 h3 (hd g (by simp)),Nat.lt_of_lt_of_le h3 k.next,rfl,h4⟩
theorem RdE.one{l:List β}(h:RdE n f A v l F):AT v=true/\isTuple v=false:=by
 rcases h with ⟨_,_,o,c,rfl⟩ | ⟨r,o,c,cs,e,g,b,ro,rfl,_⟩<;>exact ⟨rfl,rfl⟩
theorem RdE.slice{A:AW}{v:Value}{l:List β}{F:List Nat}(h:RdE n f A v l F):∃ o c,v=.slice o l.length c:=by
 rcases h with ⟨rfl,_,o,c,rfl⟩ | ⟨r,o,c,cs,e,g,b,ro,rfl,_⟩<;>exact ⟨_,_,rfl⟩
theorem RdE.fam{l:List β}(h:RdE n f A v l F):∀ x∈F,x<A.next:=by
 rcases h with ⟨_,rfl,_⟩ | ⟨r,o,c,cs,e,g,b,ro,_,_,h3,rfl,_⟩
 ·simp
 ·simpa using h3
theorem RdE.nil(A:AW)(o:Option Addr)(c:Nat):RdE n f A (.slice o 0 c) [] []:=.inl ⟨rfl,rfl,o,c,rfl⟩
theorem RdE.len(T:ET P ts te n f){B:AW}{l:List β}(h:RdE n f A v l F):Bd P B ts v=some (.int .i64 (l.length:Int)):=by
 obtain ⟨o,c,rfl⟩:=h.slice;unfold Bd;simp only [T.us]
theorem Dc:∀ (a rest:List Value),a.all (λv=>!isTuple v)=true->BS (a++rest) a.length=some a
 |[],rest,_=>by simp [BS]
 |v::a,rest,h=>by
  simp only [List.all_cons,Bq,Bool.not_eq_true'] at h;rw [List.cons_append,Lc,Nq h.1,Dc a rest h.2]
theorem M8(T:ET P ts te n f){b len i:Nat}(hi:i<len):Ak P ts (.slice (some ⟨b,o,none⟩) len c) (.int .i64 (i:Int))=some (.pointer (some ⟨b,o+i*(n+1),none⟩)):=by
 show Ak P ts _ (.int .i64 (.ofNat i))=_;unfold Ak;simp only [T.us,AF.2 hi,Ct,T.sz];unfold FY;cases hb:Nat.beq (i*(n+1)) 0 with
 |true=>rw [Ct,Nb hb,Nat.add_zero]
 |false=>rfl
theorem RdE.at(T:ET P ts te n f){A:AW}{v:Value}{l:List β}{F:List Nat}(h:RdE n f A v l F){i:Nat}{p:β}(hi:l[i]? =some p):
  ∃ r o,Ak P ts v (.int .i64 (i:Int))=some (.pointer (some ⟨r,o,none⟩))/\A.cells? ⟨r,o,none⟩ (n+1)=some (f p)/\Af P A te (.pointer (some ⟨r,o,none⟩))=some (.agg ⟨f p⟩):=by
 rcases h with ⟨rfl,_⟩ | ⟨r,o,c,cs,e,g,b,ro,rfl,h2,h3,_,h4⟩
 ·simp at hi
 ·have hlt:i<l.length:=(Gs.1 hi).1;obtain ⟨rest,hr⟩:=h4 i p hi;have hc:A.cells? ⟨r,o+i*(n+1),none⟩ (n+1)=some (f p):=by
   rw [Cg h2,hr]
   have:=Dc (f p) rest (T.noT p)
   rwa [T.len] at this
  refine ⟨r,o+i*(n+1),M8 T hlt,hc,?_⟩;show El P A te _=_;unfold El;simp only [T.ag,T.sz,hc]
theorem cell_of{r m:Nat}{cs:List Value}(h:A.cells? ⟨r,o,none⟩ (m+1)=some cs){k:Nat}(hk:cs[k]? =some v):A.cell? ⟨r,o+k,none⟩=some v:=by
 unfold AW.cells? at h;simp only at h;unfold AW.cell?;simp only;split at h
 ·rename_i cs0 e g b ro hg;have key:∀ (m o k:Nat) (l cs:List Value),BS (l.drop o) m=some cs->cs[k]? =some v->cellOf l (o+k)=some v:=by
   intro m
   induction m with
   |zero=>intro o k l cs h hk;unfold BS at h;simp at h;subst h;simp at hk
   |succ m ih=>
    intro o k l cs h hk;cases hl:l.drop o with
    |nil=>rw [hl] at h;unfold BS at h;cases h
    |cons x r=>
     rw [hl] at h;unfold BS at h;cases hx:isTuple x with
     |true=>rw [hx] at h;cases h
     |false=>
      rw [hx,Cf] at h;cases hr:BS r m with
      |none=>rw [hr] at h;cases h
      |some q=>
       rw [hr] at h;simp only [Oi] at h;subst h;have hget:l[o]? =some x:=by
        have:(l.drop o)[0]? =some x:=by rw [hl];rfl
        rw [List.getElem?_drop,Nat.add_zero] at this;exact this
       have hr':l.drop (o+1)=r:=by
        have:=Sc hget
        rw [hl] at this
        simpa using this.symm
       cases k with
       |zero=>
        obtain rfl:x=v:=by simpa using hk
        exact GX hget hx
       |succ k=>
        have:=ih (o+1) k l q (by rw [hr'];exact hr) (by simpa using hk)
        rw [show o+(k+1)=o+1+k by omega];exact this
  exact key (m+1) o k cs0 cs h hk
 ·cases h
def BO(te:TypeId)(n:Nat)(f:β->List Value)(A:AW)(v:Value)(l:List β)(F:List Nat):Prop:=DJ A te (n+1) v l.length (flat f l) F
theorem FC(a b:List β):flat f (a++b)=flat f a++flat f b:=by simp [flat]
theorem BO.rd(hlen:∀ x,(f x).length=n+1){l:List β}(h:BO te n f A v l F):RdE n f A v l F:=by
 rcases h with ⟨rfl,h2,_,rfl⟩ | ⟨b,g,rfl,h2,rfl⟩
 ·have:l=[]:=List.eq_nil_of_length_eq_zero h2
  subst this;exact .nil _ _ _
 ·exact .inr ⟨b,0,_,_,_,g,0,false,rfl,h2.row,h2.ltf,rfl,λi p hi=>by rw [Nat.zero_add];exact Eb hlen l i p hi⟩
theorem BO.keeps{l:List β}(h:BO te n f A v l F)(k:Aj A A' S)(hd:∀ x∈F,x∉S):BO te n f A' v l F:=DJ.keeps h k hd
theorem BO.nil(A:AW):BO te n f A (.slice none 0 0) [] []:=DJ.nil _ _ _
theorem BO.lt{l:List β}(h:BO te n f A v l F):∀ x∈F,x<A.next:=DJ.lt h
theorem BO.one{l:List β}(h:BO te n f A v l F):AT v=true/\isTuple v=false:=DJ.one h
theorem Q4(T:ET P ts te n f){p:β}(hq:AS A q (f p) e):B3 P A te ts (n+1) (.slice (some ⟨q,0,none⟩) 1 1)=some (0+1,f p):=by
 unfold B3;simp only [T.us];show Dj A (n+1) (.slice (some ⟨q,0,none⟩) 1 1)=_;unfold Dj
 have:=Dc (f p) [] (T.noT p)
 rw [List.append_nil,T.len] at this;simp only [Nat.one_mul,Cg hq.row,List.drop_zero,this]
theorem BO.append (T:ET P ts te n f) {l:List β} {p:β} {K:Value->AW->Prop} (h:BO te n f A v l F) (hq:AS A q (f p) e) (hf:Aw A) (hA:A.next<Am) (hl:l.length<100000000)
  (hk:∀ v' A' F',BO te n f A' v' (l++[p]) F'->Aj A A' F->(∀ x∈F',x∈F\/x=A.next)->A'.next=A.next+1->Aw A'->K v' A'):Au (AJ P A ts ts v (.slice (some ⟨q,0,none⟩) 1 1)) K:=by
 have hroom:room=68719476736:=rfl;obtain ⟨b,hb,hb2⟩:=T.by'
 have hse:BL P ts=some te:=by unfold BL;rw [T.us]
 have hm:(l.length+(0+1))*b<=(l.length+(0+1))*256:=Nat.mul_le_mul_left _ hb2;refine Jz (m:=0) (size:=n) hse T.sz hb T.hz (Q4 T hq) (by rw [T.len];omega) (T.one p) h hf hA (by omega) (by omega) λv' A' F' h1 h2 h3 h4 h5=>?_;refine hk v' A' F' ?_ h2 h3 h4 h5;show DJ A' te (n+1) v' (l++[p]).length (flat f (l++[p])) F';rw [Lq,FC];have e:flat f [p]=f p:=by simp [flat]
 rw [e];exact h1
theorem Up(hlen:∀ x,(f x).length=n+1){N:Nat}{gl:List (Nat × List Value × TypeId)}{L:List Arg}{j:Nat}{l:List β}{p:Nat × Nat}(hk:N+L.length+1<=Am)(h:L[j]? =some (p,some (flat f l,e))):
  RdE n f (wR N gl L) (.slice (some ⟨N+j,0,none⟩) l.length c) l [N+L.length]:=
 .inr ⟨N+j,0,c,flat f l,e,N+L.length,0,true,rfl,Aad (by omega) h,by show N+L.length<N+L.length+1;omega,rfl,λi q hi=>by rw [Nat.zero_add];exact Eb hlen l i q hi⟩
end
variable {A:AW} {v:Value} {F:List Nat} {q:Nat} {e:TypeId}
structure ES (P:Program) (ts te:TypeId) {β:Type} (f:β->List Value):Prop where
 us:P.underlying ts=some (.slice te)
 sz:szT P te=some 1
 by':∃ b,E9 P te=some b/\b<=256
 hz:DG P te 1=true
 ld:∀ A a,Af P A te (.pointer (some a))=A.cell? a
 len:∀ x,(f x).length=1
 one:∀ x,(f x).all AT=true
 noT:∀ x,(f x).all (λv=>!isTuple v)=true
section
variable {P:Program} {ts te:TypeId} {β:Type} {f:β->List Value}
theorem ES.HG(T:ES P ts te f){B:AW}{l:List β}(h:RdE 0 f A v l F):Bd P B ts v=some (.int .i64 (l.length:Int)):=by
 obtain ⟨o,c,rfl⟩:=h.slice;unfold Bd;rw [T.us]
theorem ES.src(T:ES P ts te f){p:β}(hq:AS A q (f p) e):B3 P A te ts 1 (.slice (some ⟨q,0,none⟩) 1 1)=some (0+1,f p):=by
 unfold B3;simp only [T.us];show Dj A 1 (.slice (some ⟨q,0,none⟩) 1 1)=_;unfold Dj
 have:=Dc (f p) [] (T.noT p)
 rw [List.append_nil,T.len] at this;simp only [Nat.one_mul,Cg hq.row,List.drop_zero,this]
theorem ES.append (T:ES P ts te f) {l:List β} {p:β} {K:Value->AW->Prop} (h:BO te 0 f A v l F) (hq:AS A q (f p) e) (hf:Aw A) (hA:A.next<Am) (hl:l.length<100000000)
  (hk:∀ v' A' F',BO te 0 f A' v' (l++[p]) F'->Aj A A' F->(∀ x∈F',x∈F\/x=A.next)->A'.next=A.next+1->Aw A'->K v' A'):Au (AJ P A ts ts v (.slice (some ⟨q,0,none⟩) 1 1)) K:=by
 have hroom:room=68719476736:=rfl;obtain ⟨b,hb,hb2⟩:=T.by'
 have hse:BL P ts=some te:=by unfold BL;rw [T.us]
 have hm:(l.length+(0+1))*b<=(l.length+(0+1))*256:=Nat.mul_le_mul_left _ hb2;refine Jz (m:=0) (size:=0) hse T.sz hb T.hz (T.src hq) (by rw [T.len]) (T.one p) h hf hA (by omega) (by omega) λv' A' F' h1 h2 h3 h4 h5=>?_;refine hk v' A' F' ?_ h2 h3 h4 h5;show DJ A' te (0+1) v' (l++[p]).length (flat f (l++[p])) F';rw [Lq,FC];have e:flat f [p]=f p:=by simp [flat]
 rw [e];exact h1
theorem ES.ia(T:ES P ts te f){b o len c i:Nat}(hi:i<len):Ak P ts (.slice (some ⟨b,o,none⟩) len c) (.int .i64 (i:Int))=some (.pointer (some ⟨b,o+i,none⟩)):=by
 show Ak P ts (.slice (some ⟨b,o,none⟩) len c) (.int .i64 (.ofNat i))=_;unfold Ak;simp only [T.us,T.sz,AF.2 hi,Ct,Nat.mul_one];unfold FY;cases hb:Nat.beq i 0 with
 |true=>
  have:=Nb hb
  subst this
  simp
 |false=>simp
theorem ES.at(T:ES P ts te f){A:AW}{v:Value}{l:List β}{F:List Nat}(h:RdE 0 f A v l F){i:Nat}{p:β}(hi:l[i]? =some p){w:Value}(hw:f p=[w]):∃ a,Ak P ts v (.int .i64 (i:Int))=some (.pointer (some a))/\Af P A te (.pointer (some a))=some w:=by
 have hlt:=(Gs.1 hi).1;rcases h with ⟨rfl,_⟩ | ⟨r,o,c,cs,e,g,b,ro,rfl,h2,h3,h4,h5⟩
 ·simp at hi
 ·obtain ⟨rest,hr⟩:=h5 i p hi;refine ⟨_,T.ia hlt,?_⟩;rw [T.ld,Ae h2];have hn:=T.noT p;rw [hw] at hr hn;have h1:cs[o+i]? =some w:=by
   have:=congrArg (λl:List Value=>l[0]?) hr
   simpa using this
  exact GX h1 (by simpa using hn)
end
end Go.Abs
namespace Go.Proofs.YtbchfeibhoobeaaGreatDoor
open Go.Abs Go.Jr
variable {A:AW} {mp d:Nat} {K:Value->AW->Prop} {s:DS}
def leB(x y:List UInt8):Bool:=decide (x<=y)
theorem leB_trans(a b c:List UInt8)(h:leB a b=true)(k:leB b c=true):leB a c=true:=by
 unfold leB at *;rw [decide_eq_true_iff] at *;exact List.le_trans h k
theorem leB_total(a b:List UInt8):(leB a b || leB b a)=true:=by
 unfold leB;rw [Bool.or_eq_true,decide_eq_true_iff,decide_eq_true_iff];exact List.le_total a b
theorem Xp{a b:List UInt8}(h:leB a b=true)(k:leB b a=true):a=b:=by
 unfold leB at *;rw [decide_eq_true_iff] at *;exact List.le_antisymm h k
theorem U8{a b:List (List UInt8)}(h:a.Perm b):a.mergeSort leB=b.mergeSort leB:=
 List.Perm.eq_of_pairwise (le:=λx y=>leB x y=true) (λ_ _ _ _ h k=>Xp h k) (List.pairwise_mergeSort leB_trans leB_total a) (List.pairwise_mergeSort leB_trans leB_total b)
  ((List.mergeSort_perm a leB).trans (h.trans (List.mergeSort_perm b leB).symm))
def namesS(D:Fls):List (List UInt8):=(D.map (·.1)).mergeSort leB
section
variable {W0:World} {m0:Inj Tp}
theorem Aer(hf:Aw A)(hA:A.next<Am)(hk:∀ A',Go.Abs.AS A' A.next [.map (some mp)] 74->Aj A A' []->A'.next=A.next+1->Aw A'->K (.func (.func 103) ⟨[]⟩ ⟨[pP A.next 0]⟩) A'):
  Wc Tp An W0 m0 60 [.map (some mp)] A K:=by
 refine w60 _ _ BF ?_;rw [e60];refine Bk (cs:=[.map (some mp)]) hf hA rfl λA1 m1=>?_;exact hk A1 m1.BB (m1.keeps hf) m1.next m1.Ay
theorem Aes {q c:Nat} {es:List (En ByteArray Fv)} (hq:Go.Abs.AS A q [.map (some mp)] 74) (hm:Er kS vF A mp es c) (hf:Aw A) (hes:es.length<100000) (hA:A.next+20+3*es.length<Am)
  (hk:∀ A' sv F,DJ A' 9 1 sv (namesS (es.map fE)).length ((namesS (es.map fE)).map txV) F->(∀ x∈F,A.next<=x)->Aj A A' []->A'.next<=A.next+10+3*es.length->Aw A'->K sv A'):
  Wc Tp An W0 m0 59 [.func (.func 103) ⟨[]⟩ ⟨[pP q 0]⟩] A K:=by
 refine w59 _ _ BF ?_;rw [e59];refine Acj hq hm hf hes hA λA1 sv F vs ho hp hF k1 n1 f1=>?_;have el:(vs.map λe=>kS e.k)=(vs.map λe=>e.k.data.toList).map txV:=by
  rw [List.map_map];apply List.map_congr_left;intro e _;rfl
 have hlen:=hp.length_eq;have ho':DJ A1 9 1 sv (vs.map λe=>e.k.data.toList).length ((vs.map λe=>e.k.data.toList).map txV) F:=by
  rw [<- el,List.length_map];exact ho
 have hs:((vs.map λe=>e.k.data.toList).mergeSort λx y=>decide (x<=y))=namesS (es.map fE):=by
  show (vs.map λe=>e.k.data.toList).mergeSort leB=_;unfold namesS;rw [List.map_map];exact U8 (hp.map _)
 refine .inr (Vy srX ho' f1 (by rw [List.length_map];omega) λA2 h2 k2 n2 f2=>?_);rw [hs] at h2;have hl2:(vs.map λe=>e.k.data.toList).length=(namesS (es.map fE)).length:=by rw [<- hs,List.length_mergeSort]
 rw [hl2] at h2;exact hk A2 sv F h2 hF (k1.trans k2 λx hx=>.inr (hF x hx)) (by omega) f2
theorem SQ (h:Dk A d mp s) (hf:Aw A) (hes:s.D.length<100000) (hA:A.next+30+3*s.D.length<Am)
  (hk:∀ A' sv F,DJ A' 9 1 sv (namesS s.D).length ((namesS s.D).map txV) F->(∀ x∈F,A.next<=x)->Aj A A' []->A'.next<=A.next+15+3*s.D.length->Aw A'->K sv A'):
  Wc Tp An W0 m0 11 [pP d 0] A K:=by
 refine w11 _ _ BF ?_;rw [e11];refine QT h ?_;obtain ⟨es,c,hr,hm,hne,hD⟩:=h;rw [hD] at hk hes hA;rw [List.length_map] at hes hA;simp only [Bg,Ab,Al,CS,EJ,Ae hr.row,cellOf,Cc,Cf];refine Ag.2 ⟨λh=>by simp at h,λ_=>?_⟩;have hmlt:=hm.ltA;refine Aer hf (by omega) λA1 q1 k1 n1 f1=>?_;refine Aes q1 (hm.keeps k1 (by simp)) f1 hes (by omega) λA2 sv F h2 hF k2 n2 f2=>?_;rw [List.length_map] at hk;exact hk A2 sv F h2 (λx hx=>by have:=hF x hx;omega) (k1.trans k2 (by simp)) (by omega) f2
theorem Abz:(vF (⟨⟨[]⟩⟩,0)).cells.toList=[.string ⟨⟨[]⟩⟩,.int .i64 0]:=rfl
theorem Ed(a b:Value):Ap (.tuple #[a,b]) 1=some b:=rfl
theorem WC{a b:List Nat}(h:a.Perm b):a.foldr (·+·) 0=b.foldr (·+·) 0:=by
 induction h with
 |nil=>rfl
 |cons x _ ih=>simp [ih]
 |swap x y l=>simp;omega
 |trans _ _ ih1 ih2=>exact ih1.trans ih2
theorem Q2(l:List Nat)(x:Nat):(l++[x]).foldr (·+·) 0=l.foldr (·+·) 0+x:=by
 induction l with
 |nil=>simp
 |cons y l ih=>simp only [List.cons_append,List.foldr_cons,ih];omega
theorem S0{l:List Nat}{M:Nat}(h:∀ x∈l,x<=M):l.foldr (·+·) 0<=M*l.length:=by
 induction l with
 |nil=>simp
 |cons y l ih=>
  have h1:=h y (by simp);have h2:=ih λx hx=>h x (by simp [hx]);simp only [List.foldr_cons,Lc,Nat.mul_succ];omega
def Ty(e:En ByteArray Fv):Nat:=e.v.1.data.toList.length
theorem Aeq (h:Dk A d mp s) (hw:OkD s) (hf:Aw A) (hA:A.next+30+3*s.D.length<Am)
  (hk:∀ A',Aj A A' []->A'.next<=A.next+1+s.D.length->Aw A'->K (.int .i64 (Eg s.D:Int)) A'):
  Wc Tp An W0 m0 64 [pP d 0] A K:=by
 have h0:=h;obtain ⟨es,c,hr,hm,hne,hD⟩:=h;have hl:s.D.length=es.length:=by rw [hD,List.length_map]
 have hfew:=hw.few;have hM:∀ e∈es,Ty e<=1048576:=λe he=>hw.len (fE e) (by rw [hD];exact List.mem_map.2 ⟨e,he,rfl⟩);have hmlt:=hm.ltA;have hu:Eg s.D=(es.map Ty).foldr (·+·) 0:=by
  unfold Eg;rw [hD,List.map_map];rfl
 let I:Nat->Nat->List Value->AW->Prop:=λg id vals A'=>id=0/\∃ (vs:List (En ByteArray Fv)),vals=[.int .i64 ((vs.map Ty).foldr (·+·) 0:Nat),pP A.next 0]/\Iter A' A.next mp c vs/\Er kS vF A' mp es c/\
  (∀ e∈vs,e∈es)/\(vs.map En.b).Nodup/\Aj A A' []/\Aw A'/\A'.next<=A.next+1+vs.length/\g=es.length-vs.length
 refine w64 _ _ (c64 (I:=I) ?_) ?_
 ·rintro g id vals A' dd ⟨rfl,vs,rfl,hit,hm',hvs,hnd,k,f,nx,rfl⟩ hd;rw [Adg];simp only [L64,Mc,Mn,Li,and_true] at hd;obtain ⟨d3,d12⟩:=hd;rw [d3,d12];have hlen:=HD (GM _ hnd) hvs;refine hm'.next hit hvs f (by omega) (λe A2 he hnv it2 k2 n2 f2=>?_) λhall=>?_
  ·have hm2:=hm'.keeps k2 (by simp;omega);have hitlt:=hit.lt;have K2:Aj A A2 []:=k.trans k2 (λx hx=>by have:=Ms.1 hx;exact .inr (by omega));have hvs2:∀ x∈vs++[e],x∈es:=λx hx=>by
    rcases Mz.1 hx with h | h
    ·exact hvs x h
    ·rw [Ms.1 h];exact he
   have hnd2:((vs++[e]).map En.b).Nodup:=by
    rw [List.map_append,List.nodup_append];refine ⟨hnd,by simp,λx hx y hy hxy=>hnv ?_⟩;obtain ⟨z,hz,rfl⟩:=List.mem_map.1 hx;obtain rfl:y=e.b:=by simpa using hy
    rw [<- Xw hm.nb (hvs z hz) he hxy];exact hz
   have hlen2:=HD (GM _ hnd2) hvs2;have hl1:(vs++[e]).length=vs.length+1:=by simp
   simp only [UG,Ab];refine Ag.2 ⟨λ_=>?_,λh=>by cases h⟩;refine hm2.entry it2 he ?_;simp only [Ed,Ab];refine Bl zF f2 (by omega) rfl λA3 m3=>?_;have n3:=m3.next;have k3:=m3.keeps f2;refine m3.BB.store m3.Ay (by omega) (CY _ _ _) rfl (by show 0+2<=2;omega) rfl λA4 r4 k4 n4 f4=>?_;have r4:Go.Abs.AS A4 A2.next [.string e.v.1,.int .i64 (e.v.2:Int)] 100:=r4;simp only [FO,CG,Ae r4.row,cellOf,AE,Cf,Ab,Ea,AY];have hb1:(vs.map Ty).foldr (·+·) 0<=1048576*vs.length:=by
    have:=S0 (l:=vs.map Ty) (M:=1048576) λx hx=>by obtain ⟨y,hy,rfl⟩:=List.mem_map.1 hx;exact hM y (hvs y hy)
    rwa [List.length_map] at this
   have hb2:=hM e he;have hb3:e.v.1.data.toList.length=Ty e:=rfl;rw [hb3,wrap_i64 (by omega) (by omega)];have k4':Aj A3 A4 [A2.next]:=k4;refine Ar.2 ⟨es.length-(vs.length+1),by omega,rfl,vs++[e],?_,(it2.keeps k3 (by simp)).keeps k4' (by have:=it2.lt;simp;omega),(hm2.keeps k3 (by simp)).keeps k4' (by have:=hm2.ltA;simp;omega),hvs2,hnd2,?_,f4,by omega,by omega⟩
   ·rw [List.map_append,List.map_singleton,Q2]
    congr 3
   ·exact (K2.trans k3 (by simp)).trans k4' (λx hx=>by have:=Ms.1 hx;have:=K2.next;exact .inr (by omega))
  ·simp only [UH,Ab];refine Ag.2 ⟨λh=>(by cases h),λ_=>?_⟩;have hp:=Q1 hm.nb hnd hvs hall;rw [WC (hp.map Ty),<- hu];exact hk A' k (by omega) f
 ·rw [e64];refine QT h0 ?_;refine Ag.2 ⟨λ_=>?_,λh=>by cases h⟩;simp only [Al,CS,EJ,Ae hr.row,cellOf,Cc,Cf,Ab];refine hm.range (t:=74) (P:=Tp) (kt:=9) (et:=100) (keq:=E2) mtF hf (by omega) λA1 hit k1 n1 f1=>?_;exact Ar.2 ⟨es.length,rfl,[],rfl,hit,hm.keeps k1 (by simp),by simp,by simp,k1.more (by simp),f1,by simp;omega,rfl⟩
end
variable {A:AW} {b mp c:Nat}
def KL(s:DS)(n:List UInt8):List UInt8 × Int:=
 if s.down=true then ([],100) else match AB s.D n with | none=>([],7) | some f=>(f.1,0)
theorem UR:Bp Tp 100 []=some (vF (⟨⟨[]⟩⟩,0)):=by kernel_rfl
theorem Of(b:ByteArray)(n:Int):Bp Tp 100 [(0,.string b),(1,.int .i64 n)]=some (.agg ⟨[.string b,.int .i64 n]⟩):=by kernel_rfl
theorem XW{x y:Value}{e:TypeId}(h:Go.Abs.AS A b [x,y] e)(hx:isTuple x=false)(hy:isTuple y=false):A.cells? ⟨b,0,none⟩ 2=some [x,y]:=by
 rw [Cg h.row];simp only [List.drop_zero,BS,hx,hy,Cf]
theorem Qe{v:Fv}(h:Go.Abs.AS A b [.string v.1,.int .i64 (v.2:Int)] 100):Af Tp A 100 (pP b 0)=some (vF v):=by
 rw [AaP,XW h rfl rfl];rfl
theorem Ew(a b:Value):Ap (.tuple #[a,b]) 0=some a:=rfl
theorem Bw(a b:Value):Ap (.tuple ⟨[a,b]⟩) 0=some a:=rfl
theorem Bv(a b:Value):Ap (.tuple ⟨[a,b]⟩) 1=some b:=rfl
theorem lookW{es:List (En ByteArray Fv)}(hm:Er kS vF A mp es c)(k:ByteArray):Dl Tp A 74 (.map (some mp)) (.string k) true=some (match DR E2 es k with | some v=>.tuple #[vF v,.bool true] | none=>.tuple #[vF (⟨⟨[]⟩⟩,0),.bool false]):=by
 have:=hm.look mtF zF k true
 refine this.trans ?_;cases DR E2 es k<;>rfl
theorem ZP{es:List (En ByteArray Fv)}(hm:Er kS vF A mp es c)(k:ByteArray):Dl Tp A 74 (.map (some mp)) (.string k) false=some (vF ((DR E2 es k).getD (⟨⟨[]⟩⟩,0))):=by
 have:=hm.look mtF zF k false
 refine this.trans ?_;cases DR E2 es k<;>rfl
section
variable {W0:World} {m0:Inj Tp}
theorem Ab9 {d:Nat} {s:DS} {n:ByteArray} {K:Value->AW->Prop} (h:Dk A d mp s) (hf:Aw A) (hA:A.next+10<Am)
  (hk:∀ A',Aj A A' []->A'.next<=A.next+3->Aw A'->K (.tuple ⟨[.string ⟨⟨(KL s n.data.toList).1⟩⟩,.int .i64 (KL s n.data.toList).2]⟩) A'):
  Wc Tp An W0 m0 12 [pP d 0,.string n] A K:=by
 have fin:∀ (f:Fv) (q:Nat) (e:Int) (A1:AW),Aj A A1 []->A1.next<=A.next+2->Aw A1->KL s n.data.toList=(f.1.data.toList,e)->
   Au (Cz Tp A1 100) λt3 At3=>Bh (Az Tp At3 100 t3 (vF f)) λAt4=>Aa (Ad Tp 100 t3 0) λt5=>Aa (Af Tp At4 9 t5) λt6=>K (.tuple ⟨[t6,.int .i64 e]⟩) At4:=by
  intro f q e A1 k1 n1 f1 he;rw [he] at hk;refine Bl zF f1 (by omega) rfl λA3 m3=>?_;have n3:=m3.next;refine m3.BB.store m3.Ay (by omega) (CY _ _ _) rfl (by show 0+2<=2;omega) rfl λA4 r4 k4 n4 f4=>?_;have r4:Go.Abs.AS A4 A1.next [.string f.1,.int .i64 (f.2:Int)] 100:=r4;simp only [FO,CG,Ae r4.row,cellOf,AE,Cf,Ab];have hk0:=k1.next;exact hk A4 ((k1.trans (m3.keeps f1) (by simp)).trans k4 (λx hx=>by have:=Ms.1 hx;exact .inr (by omega))) (by omega) f4
 refine w12 _ _ _ BF ?_;rw [e12];refine w61 _ _ _ BF ?_;rw [e61];have hlt:=h.lt;refine Bl zF hf (by omega) rfl λA1 m1=>?_;have n1:=m1.next;have k1:=m1.keeps hf;have h1:=h.keeps k1 (by simp) (by simp);refine SO h1 ?_;simp only [BC,Ab];unfold HZ;unfold KL at fin hk;refine Bb.2 ⟨λhe=>?_,λhe=>?_⟩
 ·have hd:s.down=true:=by
   cases hq:s.down with
   |true=>rfl
   |false=>rw [hq] at he;simp at he
  rw [if_pos hd] at fin;rw [if_pos hd];simp only [UR,Ab];refine m1.BB.store m1.Ay (by omega) (CY _ _ _) rfl (by show 0+2<=2;omega) rfl λA2 r2 k2 n2 f2=>?_;rw [Qe (v:=(⟨⟨[]⟩⟩,0)) r2];simp only [Ab,Bw,Bv];exact fin (⟨⟨[]⟩⟩,0) 0 100 A2 (k1.trans k2 (λx hx=>by have:=Ms.1 hx;exact .inr (by omega))) (by omega) f2 rfl
 ·have hd:s.down=false:=by
   cases hq:s.down with
   |false=>rfl
   |true=>rw [hq] at he;simp at he
  rw [hd] at fin;simp only [Bool.false_eq_true,if_false] at fin;obtain ⟨es,c,hr,hm,hne,hD⟩:=h1;simp only [Al,CS,EJ,Ae hr.row,cellOf,Cc,Cf,Ab,lookW hm];have hlk:=E1 es n;rw [<- hD] at hlk;rw [<- hlk] at fin;cases hq:DR E2 es n with
  |none=>
   rw [hq] at fin;simp only [Ew,Ed,Ab];refine Bl zF m1.Ay (by omega) rfl λA2 m2=>?_;have n2:=m2.next;refine m2.BB.store m2.Ay (by omega) (CY _ _ _) rfl (by show 0+2<=2;omega) rfl λA3 r3 k3 n3 f3=>?_;simp only [Bg,Ab];refine Ag.2 ⟨λ_=>?_,λh=>by simp at h⟩;simp only [UR,Ab];have r1:=(m1.BB.keeps (m2.keeps m1.Ay) (by simp)).keeps k3 (by simp;omega);refine r1.store f3 (by omega) (CY _ _ _) rfl (by show 0+2<=2;omega) rfl λA4 r4 k4 n4 f4=>?_;rw [Qe (v:=(⟨⟨[]⟩⟩,0)) r4];simp only [Ab,Bw,Bv];refine fin (⟨⟨[]⟩⟩,0) 0 7 A4 (((k1.trans (m2.keeps m1.Ay) (by simp)).trans k3 (λx hx=>by have:=Ms.1 hx;exact .inr (by omega))).trans k4 (λx hx=>by have:=Ms.1 hx;exact .inr (by omega))) (by omega) f4 rfl
  |some v=>
   rw [hq] at fin;simp only [Ew,Ed,Ab];refine Bl zF m1.Ay (by omega) rfl λA2 m2=>?_;have n2:=m2.next;refine m2.BB.store m2.Ay (by omega) (CY _ _ _) rfl (by show 0+2<=2;omega) rfl λA3 r3 k3 n3 f3=>?_;simp only [Bg,Ab];refine Ag.2 ⟨λh=>by simp at h,λ_=>?_⟩;rw [Qe (v:=v) r3];simp only [Ab];have r1:=(m1.BB.keeps (m2.keeps m1.Ay) (by simp)).keeps k3 (by simp;omega);refine r1.store f3 (by omega) (CY _ _ _) rfl (by show 0+2<=2;omega) rfl λA4 r4 k4 n4 f4=>?_;rw [Qe (v:=v) r4];simp only [Ab,Bw,Bv];exact fin v 0 0 A4 (((k1.trans (m2.keeps m1.Ay) (by simp)).trans k3 (λx hx=>by have:=Ms.1 hx;exact .inr (by omega))).trans k4 (λx hx=>by have:=Ms.1 hx;exact .inr (by omega))) (by omega) f4 rfl
end
variable {A:AW} {K:Value->AW->Prop} {caps:List Value}
theorem AfJ(s:ByteArray)(k:IntKind)(i:Nat):DU Tp 9 (.string s) (.int k (.ofNat i))=(match s.data.toList[i]? with | some b=>some (.int .u8 b.toNat) | none=>none):=by kernel_rfl
theorem ix9{s:ByteArray}{k:IntKind}{i:Nat}{b:UInt8}(h:s.data.toList[i]? =some b):DU Tp 9 (.string s) (.int k (i:Int))=some (.int .u8 (b.toNat:Int)):=by
 show DU Tp 9 (.string s) (.int k (.ofNat i))=_;rw [AfJ,h]
theorem T7{a b:ByteArray}{xo yo:Operand}(h:a.data.toList.length+b.data.toList.length<1099511627776):Ai Tp .add 9 xo yo (.string a) (.string b)=some (.string ⟨⟨a.data.toList++b.data.toList⟩⟩):=by
 show (bif Nat.blt (a.data.toList++b.data.toList).length 1099511627776 then some (Value.string ⟨⟨a.data.toList++b.data.toList⟩⟩) else none)=_;rw [Lq,AF.2 h,Ct]
theorem II(a b:ByteArray)(xo yo:Operand):Ai Tp .eql 9 xo yo (.string a) (.string b)=some (.bool (a.data.toList==b.data.toList)):=L9
section
variable {W0:World} {m0:Inj Tp}
def JP(c:UInt8):Bool:=decide (33<=c)&&decide (c<=126)
theorem Js(c:UInt8):JP c=(!decide ((c.toNat:Int)<33)&&!decide ((126:Int)<(c.toNat:Int))):=by
 unfold JP;have h1:(33:UInt8)=UInt8.ofNat 33:=rfl;have h2:(33<=c)↔(33<=c.toNat):=by rw [UInt8.le_iff_toNat_le];rfl
 have h3:(c<=126)↔(c.toNat<=126):=by rw [UInt8.le_iff_toNat_le];rfl
 rw [Bool.eq_iff_iff];simp only [Bq,decide_eq_true_iff,Bool.not_eq_true',decide_eq_false_iff_not,h2,h3];omega
theorem Z1{n:ByteArray}(hk:K (.bool (Df n.data.toList)) A):Wc Tp An W0 m0 63 [.string n] A K:=by
 obtain ⟨l,hl⟩:∃ l,n.data.toList=l:=⟨_,rfl⟩;let I:Nat->Nat->List Value->AW->Prop:=λg id vals A'=>id=0/\A'=A/\∃ i:Nat,vals=[.string n,.int .i64 (l.length:Int),.int .i64 (i:Int)]/\g=l.length-i/\i<=l.length/\(l.take i).all JP=true/\l≠[]/\l.length<=40;refine w63 _ _ (c63 (I:=I) ?_) ?_
 ·rintro g id vals A' d ⟨rfl,rfl,i,rfl,rfl,hi,hall,hne,h40⟩ hd;rw [Adh];simp only [L63,Mc,Mn,Li,and_true] at hd;obtain ⟨d0,d12,d13⟩:=hd;simp only [d0,d12,d13,AU,Ab,Ao];refine ⟨λhlt=>?_,λhge=>?_⟩
  ·have hlt:i<l.length:=by omega
   have hc:n.data.toList[i]? =some l[i]:=by rw [hl];exact Ge hlt
   have hb:JP l[i]=false->Df n.data.toList=false:=by
    intro hb;rw [hl];unfold Df
    have:(l.all λc=>decide (33<=c)&&decide (c<=126))=false:=by
     cases hq:(l.all λc=>decide (33<=c)&&decide (c<=126)) with
     |false=>rfl
     |true=>
      have:=List.all_eq_true.1 hq l[i] (List.getElem_mem hlt)
      unfold JP at hb;rw [hb] at this;cases this
    rw [this]
    simp
   rw [Js] at hb;simp only [ix9 hc,Ab,AU,BN,Ao];refine ⟨λh1=>?_,λh1=>⟨λh2=>?_,λh2=>?_⟩⟩
   ·rw [hb (by simp [h1])] at hk;exact hk
   ·rw [hb (by simp [h2])] at hk;exact hk
   ·simp only [AY,Ab];rw [wrap_i64 (by omega) (by omega)];refine Ar.2 ⟨l.length-(i+1),by omega,rfl,rfl,i+1,rfl,rfl,by omega,?_,hne,h40⟩;rw [List.take_add_one,Ge hlt,List.all_append,hall];show (true&&(JP l[i]&&true))=true;rw [Js];simp [h1,h2]
  ·have hi':i=l.length:=by omega
   have:Df n.data.toList=true:=by
    rw [hl];unfold Df;rw [hi',List.take_length] at hall;have e:(l.all λc=>decide (33<=c)&&decide (c<=126))=true:=hall;rw [e];simp [hne,h40]
   rw [this] at hk;exact hk
 ·rw [e63];simp only [II,Ab];refine Ag.2 ⟨λh=>?_,λh=>?_⟩
  ·have h0:l=[]:=by rw [hl] at h;exact beq_iff_eq.1 h
   have:Df n.data.toList=false:=by rw [hl,h0];rfl
   rw [this] at hk;exact hk
  ·have hne:l≠[]:=by
    intro h0;rw [hl,h0] at h;cases h
   simp only [Ea,hl,Ab,BN,Ao];refine ⟨λh1=>?_,λh1=>?_⟩
   ·have:Df n.data.toList=false:=by
     rw [hl];unfold Df
     have:decide (l.length<=40)=false:=decide_eq_false (by omega)
     rw [this]
     simp
    rw [this] at hk;exact hk
   ·exact Ar.2 ⟨l.length,rfl,rfl,0,rfl,rfl,Nat.zero_le _,by simp,hne,by omega⟩
theorem Hp{f:FuncId}{args all:List Value}(hdyn:Fi Tp A (.func (.func f) ⟨[]⟩ ⟨caps⟩) args=.ok (.enter f all) A)(hkn:OC f An.known=false)(h:Wc Tp An W0 m0 f all A K):
  anW Tp An W0 m0 (Fi Tp A (.func (.func f) ⟨[]⟩ ⟨caps⟩) args) K:=by
 refine .inr (.inl ⟨f,all,A,hdyn,?_⟩);unfold toW;rw [hkn,Cf];exact h
theorem Wi {d mp f n:Nat} {s:DS} {g:Fls->Fls} {though:Bool} {K:Value->AW->Prop} (h:Dk A d mp s) (hf:Aw A) (hA:A.next+n+2<Am) (hfu:s.B9<9223372036854775808)
  (hdyn:∀ A,Fi Tp A (.func (.func f) ⟨[]⟩ ⟨caps⟩) []=.ok (.enter f caps) A) (hkn:OC f An.known=false)
  (hdo:∀ A1 s1 (K1:Value->AW->Prop),Aj A A1 [d]->A1.next=A.next->Aw A1->Dk A1 d mp s1->s1.D=s.D->(∀ A2 v,Dk A2 d mp { s1 with D:=g s1.D }->Aj A1 A2 [mp]->A2.next<=A1.next+n->Aw A2->K1 v A2)->Wc Tp An W0 m0 f caps A1 K1)
  (hk:∀ A2,Dk A2 d mp (C5 s g though).1->Aj A A2 [d,mp]->A2.next<=A.next+n->Aw A2->K (.int .i64 (C5 s g though).2) A2):
  Wc Tp An W0 m0 65 [pP d 0,.func (.func f) ⟨[]⟩ ⟨caps⟩,.bool though] A K:=by
 refine w65 _ _ _ _ BF ?_;rw [e65];have h0:=h;obtain ⟨es,c,hr,hm,hne,hD⟩:=h;have hdl:=hr.lt;simp only [Al,Na,Ij,D4,Ae hr.row,cellOf,Cc,AG,Cf,Ab,Nat.zero_add,BN,Ao];unfold C5 at hk;refine ⟨λhpos=>?_,λhpos=>?_⟩
 ·rw [if_pos hpos] at hk;simp only [Ci,Ab];rw [wrap_i64 (by omega) (by omega)];refine hr.store hf (by omega) (J0 _ _ _) rfl (by show 2+1<=4;omega) rfl λA1 r1 k1 n1 f1=>?_;have r1:Go.Abs.AS A1 d [.map (some mp),.int .i64 s.room,.int .i64 (s.B9-1),.bool s.down] 76:=r1;have k1:Aj A A1 [d]:=k1;have h1:Dk A1 d mp ⟨s.D,s.room,s.B9-1,s.down⟩:=⟨es,c,r1,hm.keeps k1 (by simp;exact λe=>hne e.symm),hne,hD⟩;simp only [Ae r1.row,cellOf,Cc,AG,Cf,Ab,Bo,Be];refine ⟨λhz=>?_,λhz=>?_⟩
  ·rw [if_pos hz] at hk;refine Ag.2 ⟨λht=>?_,λht=>?_⟩
   ·rw [if_pos ht] at hk;refine Hp (hdyn A1) hkn (hdo A1 _ _ k1 n1 f1 h1 rfl λA2 v h2 k2 n2 f2=>?_);obtain ⟨es2,c2,hr2,hm2,_,hD2⟩:=h2;refine hr2.store f2 (by omega) (JZ _ _ _) rfl (by show 3+1<=4;omega) rfl λA3 r3 k3 n3 f3=>?_;have r3:Go.Abs.AS A3 d [.map (some mp),.int .i64 s.room,.int .i64 (s.B9-1),.bool true] 76:=r3;have k3:Aj A2 A3 [d]:=k3;rw [hz] at r3;exact hk A3 ⟨es2,c2,r3,hm2.keeps k3 (by simp;exact λe=>hne e.symm),hne,hD2⟩ (((k1.more (by simp)).trans k2 (by simp)).trans k3 (by simp)) (by omega) f3
   ·rw [if_neg (by rw [ht];simp)] at hk;refine r1.store f1 (by omega) (JZ _ _ _) rfl (by show 3+1<=4;omega) rfl λA3 r3 k3 n3 f3=>?_;have r3:Go.Abs.AS A3 d [.map (some mp),.int .i64 s.room,.int .i64 (s.B9-1),.bool true] 76:=r3;have k3:Aj A1 A3 [d]:=k3;rw [hz] at r3;exact hk A3 ⟨es,c,r3,(hm.keeps k1 (by simp;exact λe=>hne e.symm)).keeps k3 (by simp;exact λe=>hne e.symm),hne,hD⟩ ((k1.more (T:=[d,mp]) (by simp)).trans k3 (by simp)) (by omega) f3
  ·rw [if_neg hz] at hk;refine Hp (hdyn A1) hkn (hdo A1 _ _ k1 n1 f1 h1 rfl λA2 v h2 k2 n2 f2=>?_);exact hk A2 h2 ((k1.more (T:=[d,mp]) (by simp)).trans k2 (by simp)) (by omega) f2
 ·rw [if_neg hpos] at hk;refine Hp (hdyn A) hkn (hdo A s _ (.refl _ _) rfl hf h0 rfl λA2 v h2 k2 n2 f2=>?_);exact hk A2 h2 (k2.more (by simp)) (by omega) f2
end
variable {A:AW} {b n:ByteArray} {d mp t2 t0 t1:Nat} {s:DS} {K:Value->AW->Prop}
theorem AdD(A:AW)(a b c e:Value):Fi Tp A (.func (.func 66) ⟨[]⟩ ⟨[a,b,c,e]⟩) []=.ok (.enter 66 [a,b,c,e]) A:=by kernel_rfl
theorem AdB(A:AW)(a b c:Value):Fi Tp A (.func (.func 93) ⟨[]⟩ ⟨[a,b,c]⟩) []=.ok (.enter 93 [a,b,c]) A:=by kernel_rfl
theorem AdA(A:AW)(a b c e:Value):Fi Tp A (.func (.func 94) ⟨[]⟩ ⟨[a,b,c,e]⟩) []=.ok (.enter 94 [a,b,c,e]) A:=by kernel_rfl
theorem VG:BQ Tp (λ_=>undef) (.alloc 100)=some (.row [.string ⟨⟨[]⟩⟩,.int .i64 0] 100):=by kernel_rfl
theorem I2{b:Nat}{p:Prop}(h:A.get b=some (.row [.string ⟨⟨[]⟩⟩,.int .i64 0] 100 b 0 false))(hp:p):Dq (BQ Tp (λ_=>undef) (.alloc 100)) A (pP b 0) p:=by
 refine ⟨⟨_,VG,?_⟩,hp⟩;simp only [Cj,Fy,h,EF,GD,IL,Bool.and_self,Option.isNone_none,Bool.true_and,Nat.beq_refl]
structure OkN (s:DS):Prop where
 r0:0<=s.room
 r1:s.room<9223372036854775808
 f1:s.B9<9223372036854775808
section
variable {W0:World} {m0:Inj Tp}
theorem Aep {t9:Nat} {fv:Fv} {K:Value->AW->Prop} (h:Dk A d mp s) (hf:Aw A) (hA:A.next<=Am) (h9:Go.Abs.AS A t9 [.string fv.1,.int .i64 (fv.2:Int)] 100) (h2:Go.Abs.AS A t2 [.string b] 9)
  (h0:Go.Abs.AS A t0 [pP d 0] 27) (h1:Go.Abs.AS A t1 [.string n] 9) (hl:fv.1.data.toList.length+b.data.toList.length<1099511627776)
  (hk:∀ A2 v,Dk A2 d mp { s with D:=Cm s.D n.data.toList (fv.1.data.toList++b.data.toList,fv.2) }->Aj A A2 [mp]->A2.next<=A.next->Aw A2->K v A2):
  Wc Tp An W0 m0 66 [pP t9 0,pP t2 0,pP t0 0,pP t1 0] A K:=by
 refine w66 _ _ _ _ _ BF ?_;rw [e66];obtain ⟨es,c,hr,hm,hne,hD⟩:=h;simp only [Cx,CG,D4,EJ,Al,CS,FO,Lr,Ae h0.row,Ae h1.row,Ae h2.row,Ae h9.row,Ae hr.row,cellOf,Ax,AE,AG,Cc,Cf,Ab,Nat.zero_add];rw [T7 hl];simp only [Ab,Of];refine hm.put mtF hf hA (k:=n) (v:=(⟨⟨fv.1.data.toList++b.data.toList⟩⟩,fv.2)) λA2 c2 hm2 k2 n2 f2=>?_;refine hk A2 _ ⟨_,c2,hr.keeps k2 (by simp;exact hne),hm2,hne,?_⟩ k2 (by omega) f2;show Cm s.D _ _=_;rw [hD,Jj];rfl
theorem Aeb {t5:Nat} {fv:Fv} {K:Value->AW->Prop} (h:Dk A d mp s) (hf:Aw A) (hA:A.next<=Am) (h5:Go.Abs.AS A t5 [.string fv.1,.int .i64 (fv.2:Int)] 100)
  (h0:Go.Abs.AS A t0 [pP d 0] 27) (h1:Go.Abs.AS A t1 [.string n] 9)
  (hk:∀ A2 v,Dk A2 d mp { s with D:=Cm s.D n.data.toList (fv.1.data.toList,fv.1.data.toList.length) }->Aj A A2 [mp]->A2.next<=A.next->Aw A2->K v A2):
  Wc Tp An W0 m0 93 [pP t5 0,pP t0 0,pP t1 0] A K:=by
 refine w93 _ _ _ _ BF ?_;rw [e93];obtain ⟨es,c,hr,hm,hne,hD⟩:=h;simp only [Cx,CG,EJ,Al,CS,FO,Ae h0.row,Ae h1.row,Ae h5.row,Ae hr.row,cellOf,Ax,AE,Cc,Cf,Ab,Ea,Of];refine hm.put mtF hf hA (k:=n) (v:=(fv.1,fv.1.data.toList.length)) λA2 c2 hm2 k2 n2 f2=>?_;refine hk A2 _ ⟨_,c2,hr.keeps k2 (by simp;exact hne),hm2,hne,?_⟩ k2 (by omega) f2;show Cm s.D _ _=_;rw [hD,Jj];rfl
theorem Aea {t12:Nat} {fv:Fv} {t:ByteArray} {K:Value->AW->Prop} (h:Dk A d mp s) (hf:Aw A) (hA:A.next<=Am) (h12:Go.Abs.AS A t12 [.string fv.1,.int .i64 (fv.2:Int)] 100)
  (h0:Go.Abs.AS A t0 [pP d 0] 27) (h1:Go.Abs.AS A t1 [.string n] 9) (h2:Go.Abs.AS A t2 [.string t] 9) (hd0:mp≠t0) (hd2:mp≠t2) (hd12:mp≠t12)
  (hk:∀ A2 v,Dk A2 d mp { s with D:=Cm (Cu s.D n.data.toList) t.data.toList (fF fv) }->Aj A A2 [mp]->A2.next<=A.next->Aw A2->K v A2):
  Wc Tp An W0 m0 94 [pP t0 0,pP t1 0,pP t12 0,pP t2 0] A K:=by
 refine w94 _ _ _ _ _ BF ?_;rw [e94];obtain ⟨es,c,hr,hm,hne,hD⟩:=h;simp only [Cx,CG,EJ,Al,CS,Ae h0.row,Ae h1.row,Ae hr.row,cellOf,Ax,AE,Cc,Cf,Ab];refine hm.del mtF hf hA (k:=n) λA1 hm1 k1 n1 f1=>?_;have hr1:=hr.keeps k1 (by simp;exact hne);have h01:=h0.keeps k1 (by simp;exact λe=>hd0 e.symm);have h21:=h2.keeps k1 (by simp;exact λe=>hd2 e.symm);have h121:=h12.keeps k1 (by simp;exact λe=>hd12 e.symm);simp only [Cx,CG,EJ,Al,CS,Ae h01.row,Ae h21.row,Ae hr1.row,cellOf,Ax,AE,Cc,Cf,Ab,Qe (v:=fv) h121];refine hm1.put mtF f1 (by omega) (k:=t) (v:=fv) λA2 c2 hm2 k2 n2 f2=>?_;refine hk A2 _ ⟨_,c2,hr1.keeps k2 (by simp;exact hne),hm2,hne,?_⟩ (k1.trans k2 (by simp)) (by omega) f2;show Cm (Cu s.D _) _ _=_;rw [hD,Jj,UK]
theorem TC(es:List (En ByteArray Fv))(k:ByteArray):fileOf (es.map fE) k.data.toList=fF ((DR E2 es k).getD (⟨⟨[]⟩⟩,0)):=by
 unfold fileOf;rw [<- E1];cases DR E2 es k<;>rfl
theorem TD(hw:OkD s)(n:List UInt8):(fileOf s.D n).1.length<=1048576:=by
 unfold fileOf AB;cases h:s.D.find? λe=>e.1==n with
 |none=>exact Nat.zero_le _
 |some e=>exact hw.len e (List.mem_of_find?_eq_some h)
theorem Wk (h:Dk A d mp s) (hw:OkD s) (hN:OkN s) (hb:b.data.toList.length<1000000000) (hf:Aw A) (hA:A.next+60+3*s.D.length<Am)
  (hk:∀ A',Dk A' d mp (BG s n.data.toList b.data.toList).1->Aj A A' [d,mp]->A'.next<=A.next+10+s.D.length->Aw A'->K (.int .i64 (BG s n.data.toList b.data.toList).2) A'):
  Wc Tp An W0 m0 13 [pP d 0,.string n,.string b] A K:=by
 refine w13 _ _ _ _ BF ?_;rw [e13];have hlt:=h.lt;have hfew:=hw.few;refine Bk (cs:=[pP d 0]) hf (by omega) rfl λA1 m1=>?_;have n1:=m1.next;have k1:=m1.keeps hf;refine Bk (cs:=[.string n]) m1.Ay (by omega) rfl λA2 m2=>?_;have n2:=m2.next;have k2:=m2.keeps m1.Ay;refine Bk (cs:=[.string b]) m2.Ay (by omega) rfl λA3 m3=>?_;have n3:=m3.next;have k3:=m3.keeps m2.Ay;have K3:Aj A A3 []:=(k1.trans k2 (by simp)).trans k3 (by simp);have h0:=(m1.BB.keeps k2 (by simp)).keeps k3 (by simp);have h1:=m2.BB.keeps k3 (by simp);have h2:=m3.BB;have hd3:=h.keeps K3 (by simp) (by simp);simp only [Cx,Ae h0.row,cellOf,Ax,Cf,Ab];refine SO hd3 ?_;simp only [BC,Ab];unfold HZ;unfold BG at hk;refine Bb.2 ⟨λhe=>?_,λhe=>?_⟩
 ·have hd:s.down=true:=by
   cases hq:s.down with
   |true=>rfl
   |false=>rw [hq] at he;simp at he
  rw [if_pos hd] at hk;rw [if_pos hd];exact hk A3 hd3 (K3.more (by simp)) (by omega) m3.Ay
 have hd:s.down=false:=by
  cases hq:s.down with
  |false=>rfl
  |true=>rw [hq] at he;simp at he
 rw [if_neg (by rw [hd];simp)] at hk;simp only [CG,Ae h1.row,cellOf,AE,Cf,Ab];refine Z1 ?_;simp only [Bg,Ab];refine Ag.2 ⟨λhq=>?_,λhq=>?_⟩
 ·have hq:Df n.data.toList=false:=by simpa using hq
  rw [if_pos hq] at hk;exact hk A3 hd3 (K3.more (by simp)) (by omega) m3.Ay
 have hq:Df n.data.toList=true:=by simpa using hq
 rw [if_neg (by rw [hq];simp)] at hk;refine Bl zF m3.Ay (by omega) rfl λA4 m4=>?_;have n4:=m4.next;have k4:=m4.keeps m3.Ay;refine I2 m4.row ?_;have h04:=h0.keeps k4 (by simp);have h14:=h1.keeps k4 (by simp);have h24:=h2.keeps k4 (by simp);have hd4:=hd3.keeps k4 (by simp) (by simp);obtain ⟨es,c,hr,hm,hne,hD⟩:=hd4;simp only [Cx,CG,Ae h04.row,Ae h14.row,Ae hr.row,cellOf,Ax,AE,Cc,Cf,Ab,Al,CS,EJ,ZP hm];obtain ⟨fv,hfv⟩:∃ fv,(DR E2 es n).getD (⟨⟨[]⟩⟩,0)=fv:=⟨_,rfl⟩;have hfo:fileOf s.D n.data.toList=fF fv:=by rw [hD,TC,hfv]
 rw [hfv];rw [hfo] at hk;have hfl:fv.1.data.toList.length<=1048576:=by have:=TD hw n.data.toList;rw [hfo] at this;exact this
 refine m4.BB.store m4.Ay (by omega) (CY _ _ _) rfl (by show 0+2<=2;omega) rfl λA5 r5 k5 n5 f5=>?_;have r5:Go.Abs.AS A5 A3.next [.string fv.1,.int .i64 (fv.2:Int)] 100:=r5;have k5:Aj A4 A5 [A3.next]:=k5;have h05:=h04.keeps k5 (by simp;omega);have h15:=h14.keeps k5 (by simp;omega);have h25:=h24.keeps k5 (by simp;omega);have hd5:=(hd3.keeps k4 (by simp) (by simp)).keeps k5 (by simp;omega) (by simp;omega);have K5:Aj A A5 []:=(K3.trans k4 (by simp)).trans k5 (λx hx=>by have:=Ms.1 hx;have:=K3.next;exact .inr (by omega));have hr5:=hr.keeps k5 (by simp;omega);simp only [CG,Ae h25.row,Ae r5.row,cellOf,AE,Cf,Ab,Ea,FO,Ci,BN];rw [wrap_i64 (by omega) (by omega)];simp only [Ao];have hfl1:(fF fv).1.length=fv.1.data.toList.length:=rfl;rw [hfl1] at hk;refine ⟨λhq=>?_,λhq=>?_⟩
 ·rw [if_pos hq] at hk;exact hk A5 hd5 (K5.more (by simp)) (by omega) f5
 rw [if_neg hq] at hk;simp only [Cx,Ae h05.row,Ae hr5.row,cellOf,Ax,Cc,AG,Cf,Ab,Al,Qo,D4,Nat.zero_add];refine Aeq hd5 hw f5 (by omega) λA6 k6 n6 f6=>?_;have h06:=h05.keeps k6 (by simp);have h16:=h15.keeps k6 (by simp);have h26:=h25.keeps k6 (by simp);have h96:=r5.keeps k6 (by simp);have hd6:=hd5.keeps k6 (by simp) (by simp);have hr6:=hr5.keeps k6 (by simp);have K6:Aj A A6 []:=K5.trans k6 (by simp);have hu:Eg s.D<=1048576*10000:=by
  have:=S0 (l:=s.D.map λe=>e.2.1.length) (M:=1048576) λx hx=>by obtain ⟨y,hy,rfl⟩:=List.mem_map.1 hx;exact hw.len y hy
  rw [List.length_map] at this;unfold Eg;omega
 have hr0:=hN.r0;have hr1:=hN.r1;simp only [Cx,CG,Ae h06.row,Ae h26.row,Ae hr6.row,cellOf,Ax,AE,Cc,AG,Cf,Ab,Al,Qo,D4,Nat.zero_add,AR,Ea,Ci,BN];rw [wrap_i64 (by omega) (by omega)];simp only [Ao];refine ⟨λhq=>?_,λhq=>?_⟩
 ·rw [if_pos hq] at hk;exact hk A6 hd6 (K6.more (by simp)) (by omega) f6
 rw [if_neg hq] at hk;refine Wi (n:=0) (g:=λD=>Cm D n.data.toList (fv.1.data.toList++b.data.toList,fv.2)) hd6 f6 (by omega) hN.f1 (λA=>AdD A _ _ _ _) rfl (λB s1 K1 kb nb fb hb hDb hk1=>?_) λB hb kb nb fb=>?_
 ·refine Aep (fv:=fv) (b:=b) (n:=n) hb fb (by omega) (h96.keeps kb (by simp;omega)) (h26.keeps kb (by simp;omega)) (h06.keeps kb (by simp;omega)) (h16.keeps kb (by simp;omega)) (by omega) λB2 v h2 k2 n2 f2=>?_;exact hk1 B2 v h2 k2 (by omega) f2
 ·exact hk B hb ((K6.more (T:=[d,mp]) (by simp)).trans kb (by simp)) (by omega) fb
end
variable {A:AW} {d mp:Nat} {s:DS} {n:ByteArray} {K:Value->AW->Prop}
section
variable {W0:World} {m0:Inj Tp}
theorem Wj (h:Dk A d mp s) (hN:OkN s) (hf:Aw A) (hA:A.next+60<Am)
  (hk:∀ A',Dk A' d mp (Bn s n.data.toList).1->Aj A A' [d,mp]->A'.next<=A.next+10->Aw A'->K (.int .i64 (Bn s n.data.toList).2) A'):
  Wc Tp An W0 m0 44 [pP d 0,.string n] A K:=by
 refine w44 _ _ _ BF ?_;rw [e44];have hlt:=h.lt;refine Bk (cs:=[pP d 0]) hf (by omega) rfl λA1 m1=>?_;have n1:=m1.next;have k1:=m1.keeps hf;refine Bk (cs:=[.string n]) m1.Ay (by omega) rfl λA2 m2=>?_;have n2:=m2.next;have k2:=m2.keeps m1.Ay;have K2:Aj A A2 []:=k1.trans k2 (by simp);have h0:=m1.BB.keeps k2 (by simp);have h1:=m2.BB;have hd2:=h.keeps K2 (by simp) (by simp);simp only [Cx,Ae h0.row,cellOf,Ax,Cf,Ab];refine SO hd2 ?_;simp only [BC,Ab];unfold HZ;unfold Bn at hk;refine Bb.2 ⟨λhe=>?_,λhe=>?_⟩
 ·have hd:s.down=true:=by
   cases hq:s.down with
   |true=>rfl
   |false=>rw [hq] at he;simp at he
  rw [if_pos hd] at hk;rw [if_pos hd];exact hk A2 hd2 (K2.more (by simp)) (by omega) m2.Ay
 have hd:s.down=false:=by
  cases hq:s.down with
  |false=>rfl
  |true=>rw [hq] at he;simp at he
 rw [if_neg (by rw [hd];simp)] at hk;refine Bl zF m2.Ay (by omega) rfl λA4 m4=>?_;have n4:=m4.next;have k4:=m4.keeps m2.Ay;refine I2 m4.row ?_;have h04:=h0.keeps k4 (by simp);have h14:=h1.keeps k4 (by simp);have hd4:=hd2.keeps k4 (by simp) (by simp);obtain ⟨es,c,hr,hm,hne,hD⟩:=hd4;simp only [Cx,CG,Ae h04.row,Ae h14.row,Ae hr.row,cellOf,Ax,AE,Cc,Cf,Ab,Al,CS,EJ,lookW hm];have hlk:=E1 es n;rw [<- hD] at hlk;rw [<- hlk] at hk;cases hq:DR E2 es n with
 |none=>
  rw [hq] at hk;simp only [Ew,Ed,Ab];refine m4.BB.store m4.Ay (by omega) (CY _ _ _) rfl (by show 0+2<=2;omega) rfl λA5 r5 k5 n5 f5=>?_;have k5:Aj A4 A5 [A2.next]:=k5;simp only [AR,Bg,Ab];refine Ag.2 ⟨λ_=>?_,λh=>by simp at h⟩;refine hk A5 ((hd2.keeps k4 (by simp) (by simp)).keeps k5 (by simp;omega) (by simp;omega)) (((K2.trans k4 (by simp)).trans k5 (λx hx=>by have:=Ms.1 hx;have:=K2.next;exact .inr (by omega))).more (by simp)) (by omega) f5
 |some v=>
  rw [hq] at hk;simp only [Ew,Ed,Ab];refine m4.BB.store m4.Ay (by omega) (CY _ _ _) rfl (by show 0+2<=2;omega) rfl λA5 r5 k5 n5 f5=>?_;have r5:Go.Abs.AS A5 A2.next [.string v.1,.int .i64 (v.2:Int)] 100:=r5;have k5:Aj A4 A5 [A2.next]:=k5;have K5:Aj A A5 []:=(K2.trans k4 (by simp)).trans k5 (λx hx=>by have:=Ms.1 hx;have:=K2.next;exact .inr (by omega));simp only [AR,Bg,Ab];refine Ag.2 ⟨λh=>by simp at h,λ_=>?_⟩;have h05:=h04.keeps k5 (by simp;omega);have h15:=h14.keeps k5 (by simp;omega);have hd5:=(hd2.keeps k4 (by simp) (by simp)).keeps k5 (by simp;omega) (by simp;omega);simp only [Cx,Ae h05.row,cellOf,Ax,Cf,Ab];refine Wi (n:=0) (g:=λD=>Cm D n.data.toList (v.1.data.toList,v.1.data.toList.length)) hd5 f5 (by omega) hN.f1 (λA=>AdB A _ _ _) rfl (λB s1 K1 kb nb fb hb hDb hk1=>?_) λB hb kb nb fb=>?_
  ·refine Aeb (fv:=v) (n:=n) hb fb (by omega) (r5.keeps kb (by simp;omega)) (h05.keeps kb (by simp;omega)) (h15.keeps kb (by simp;omega)) λB2 v h2 k2 n2 f2=>?_;exact hk1 B2 v h2 k2 (by omega) f2
  ·exact hk B hb ((K5.more (T:=[d,mp]) (by simp)).trans kb (by simp)) (by omega) fb
theorem AbH {t:ByteArray} (h:Dk A d mp s) (hN:OkN s) (hf:Aw A) (hA:A.next+60<Am)
  (hk:∀ A',Dk A' d mp (CR s n.data.toList t.data.toList).1->Aj A A' [d,mp]->A'.next<=A.next+10->Aw A'->K (.int .i64 (CR s n.data.toList t.data.toList).2) A'):
  Wc Tp An W0 m0 46 [pP d 0,.string n,.string t] A K:=by
 refine w46 _ _ _ _ BF ?_;rw [e46];have hlt:=h.lt;refine Bk (cs:=[pP d 0]) hf (by omega) rfl λA1 m1=>?_;have n1:=m1.next;have k1:=m1.keeps hf;refine Bk (cs:=[.string n]) m1.Ay (by omega) rfl λA2 m2=>?_;have n2:=m2.next;have k2:=m2.keeps m1.Ay;refine Bk (cs:=[.string t]) m2.Ay (by omega) rfl λA3 m3=>?_;have n3:=m3.next;have k3:=m3.keeps m2.Ay;have K3:Aj A A3 []:=(k1.trans k2 (by simp)).trans k3 (by simp);have h0:=(m1.BB.keeps k2 (by simp)).keeps k3 (by simp);have h1:=m2.BB.keeps k3 (by simp);have h2:=m3.BB;have hd3:=h.keeps K3 (by simp) (by simp);simp only [Cx,Ae h0.row,cellOf,Ax,Cf,Ab];refine SO hd3 ?_;simp only [BC,Ab];unfold HZ;unfold CR at hk;refine Bb.2 ⟨λhe=>?_,λhe=>?_⟩
 ·have hd:s.down=true:=by
   cases hq:s.down with
   |true=>rfl
   |false=>rw [hq] at he;simp at he
  rw [if_pos hd] at hk;rw [if_pos hd];exact hk A3 hd3 (K3.more (by simp)) (by omega) m3.Ay
 have hd:s.down=false:=by
  cases hq:s.down with
  |false=>rfl
  |true=>rw [hq] at he;simp at he
 rw [if_neg (by rw [hd];simp)] at hk;simp only [CG,Ae h1.row,cellOf,AE,Cf,Ab];refine Z1 ?_;simp only [Bg,Ab];refine Ag.2 ⟨λhq=>?_,λhq=>?_⟩
 ·have hq:Df n.data.toList=false:=by simpa using hq
  rw [if_pos (by rw [hq];rfl)] at hk;exact hk A3 hd3 (K3.more (by simp)) (by omega) m3.Ay
 have hq:Df n.data.toList=true:=by simpa using hq
 simp only [CG,Ae h2.row,cellOf,AE,Cf,Ab];refine Z1 ?_;simp only [Bg,Ab];refine Ag.2 ⟨λhq2=>?_,λhq2=>?_⟩
 ·have hq2:Df t.data.toList=false:=by simpa using hq2
  rw [if_pos (by rw [hq2,Bool.and_false])] at hk;exact hk A3 hd3 (K3.more (by simp)) (by omega) m3.Ay
 have hq2:Df t.data.toList=true:=by simpa using hq2
 rw [if_neg (by rw [hq,hq2];simp)] at hk;refine Bl zF m3.Ay (by omega) rfl λA4 m4=>?_;have n4:=m4.next;have k4:=m4.keeps m3.Ay;refine I2 m4.row ?_;have h04:=h0.keeps k4 (by simp);have h14:=h1.keeps k4 (by simp);have h24:=h2.keeps k4 (by simp);have hd4:=hd3.keeps k4 (by simp) (by simp);obtain ⟨es,c,hr,hm,hne,hD⟩:=hd4;simp only [Cx,CG,Ae h04.row,Ae h14.row,Ae hr.row,cellOf,Ax,AE,Cc,Cf,Ab,Al,CS,EJ,lookW hm];have hlk:=E1 es n;rw [<- hD] at hlk;rw [<- hlk] at hk;cases hq:DR E2 es n with
 |none=>
  rw [hq] at hk;simp only [Ew,Ed,Ab];refine m4.BB.store m4.Ay (by omega) (CY _ _ _) rfl (by show 0+2<=2;omega) rfl λA5 r5 k5 n5 f5=>?_;have k5:Aj A4 A5 [A3.next]:=k5;simp only [AR,Bg,Ab];refine Ag.2 ⟨λ_=>?_,λh=>by simp at h⟩;refine hk A5 ((hd3.keeps k4 (by simp) (by simp)).keeps k5 (by simp;omega) (by simp;omega)) (((K3.trans k4 (by simp)).trans k5 (λx hx=>by have:=Ms.1 hx;have:=K3.next;exact .inr (by omega))).more (by simp)) (by omega) f5
 |some v=>
  rw [hq] at hk;simp only [Ew,Ed,Ab];refine m4.BB.store m4.Ay (by omega) (CY _ _ _) rfl (by show 0+2<=2;omega) rfl λA5 r5 k5 n5 f5=>?_;have r5:Go.Abs.AS A5 A3.next [.string v.1,.int .i64 (v.2:Int)] 100:=r5;have k5:Aj A4 A5 [A3.next]:=k5;have K5:Aj A A5 []:=(K3.trans k4 (by simp)).trans k5 (λx hx=>by have:=Ms.1 hx;have:=K3.next;exact .inr (by omega));simp only [AR,Bg,Ab];refine Ag.2 ⟨λh=>by simp at h,λ_=>?_⟩;have h05:=h04.keeps k5 (by simp;omega);have h15:=h14.keeps k5 (by simp;omega);have h25:=h24.keeps k5 (by simp;omega);have hd5:=(hd3.keeps k4 (by simp) (by simp)).keeps k5 (by simp;omega) (by simp;omega);simp only [Cx,Ae h05.row,cellOf,Ax,Cf,Ab];refine Wi (n:=0) (g:=λD=>Cm (Cu D n.data.toList) t.data.toList (fF v)) hd5 f5 (by omega) hN.f1 (λA=>AdA A _ _ _ _) rfl (λB s1 K1 kb nb fb hb hDb hk1=>?_) λB hb kb nb fb=>?_
  ·refine Aea (fv:=v) (n:=n) (t:=t) hb fb (by omega) (r5.keeps kb (by simp;omega)) (h05.keeps kb (by simp;omega)) (h15.keeps kb (by simp;omega)) (h25.keeps kb (by simp;omega)) (by omega) (by omega) (by omega) λB2 v h2 k2 n2 f2=>?_;exact hk1 B2 v h2 k2 (by omega) f2
  ·exact hk B hb ((K5.more (T:=[d,mp]) (by simp)).trans kb (by simp)) (by omega) fb
end
end Go.Proofs.YtbchfeibhoobeaaGreatDoor
namespace Go.Jr
open Go.Crc
def AQ(s:DS)(n:List UInt8):DS × Int:=
 if s.down=true then (s,100) else
 match AB s.D n with
 |none=>(s,7)
 |some _=>C5 s (λD=>Cu D n) false
def FF(s:DS)(n:List UInt8)(k:Int):DS × Int:=
 if s.down=true then (s,100) else
 if k<0 then (s,2) else
 match AB s.D n with
 |none=>(s,7)
 |some f=>if (f.1.length:Int)<k then (s,2) else C5 s (λD=>Cm D n (f.1.take k.toNat,min f.2 k.toNat)) false
structure JS where
 limit:Int
 state:List UInt8
 l:List Rec
 row:List Nat
 size:Nat
 some:Bool
 broken:Bool
def DA(q:JS)(e:Int):JS:={ q with broken:=q.broken || e==100 }
inductive Ac
 |rmF | ap0 | syF | rn1
 |rm (n:Nat) | ct (n k:Nat) | sy (n:Nat)
def Gd:List UInt8:=Bc (0,[])
def Ac.run(s:DS):Ac->DS × Int
 |.rmF=>AQ s fresh
 |.ap0=>BG s fresh Gd
 |.syF=>Bn s fresh
 |.rn1=>CR s fresh (nm 1)
 |.rm n=>AQ s (nm n)
 |.ct n k=>FF s (nm n) k
 |.sy n=>Bn s (nm n)
def Fu(s:DS):List Ac->DS × Int
 |[]=>(s,0)
 |a::r=>if (a.run s).2=0 then Fu (a.run s).1 r else a.run s
def numOf(f:List UInt8):Nat:=if f.take 2=[106,46]/\f.length=10/\(f.drop 2).all (λc=>decide (48<=c)&&decide (c<=57))=true then (f.drop 2).foldl (λn c=>10*n+(c.toNat-48)) 0 else 0
def Bi(D:Fls)(names:List (List UInt8)):List Seg:=names.filterMap λf=>if numOf f=0 then none else some (Hx (numOf f) (fileOf D f).1)
def Du(names:List (List UInt8))(all r:List Seg)(below:Nat):List Ac:=
 (if fresh∈names then [.rmF] else [])++((if r=[] then [.ap0,.syF,.rn1] else [])++((all.take below).map (λx=>.rm x.n)++
  (match r.getLast? with | none=>[] | some x=>(if x.st=1 then [.ct x.n x.size] else [])++[.sy x.n])))
def Gf(r:List Seg):List Rec:=r.flatMap (·.l)
def EH(limit:Int)(r:List Seg):JS:=
 ⟨limit,(((Gf r).head?).map (·.2)).getD [],(Gf r).tail,if r=[] then [1] else r.map (·.n),match r.getLast? with | none=>13 | some x=>x.size,match r.getLast? with | none=>true | some x=>!x.l.isEmpty,false⟩
def EY(s:DS)(names:List (List UInt8))(limit:Int):DS × Option JS × Int:=
 if limit<1 then (s,none,2) else
 if s.down=true then (s,none,100) else
 match Ga (Bi s.D names) with
 |none=>(s,none,120)
 |some (r,f)=>
  let q:=Fu s (Du names (Bi s.D names) r f)
  if q.2=0 then (q.1,some (EH limit r),0) else (q.1,none,q.2)
def Cw(s:DS)(q:JS)(r:Rec):DS × JS × Int:=
 if r.1=0 then (s,q,2) else
 if q.broken=true then (s,q,100) else
 let n:=q.row.getLast?.getD 0
 if q.some=true/\q.limit-q.size<(Bc r).length then
  if n=99999999 then (s,q,6) else
  let x:=Bn s (nm n)
  if x.2≠0 then (x.1,DA q x.2,x.2) else
  let y:=BG x.1 (nm (n+1)) (Bc r)
  if y.2≠0 then (y.1,DA q y.2,y.2) else
  (y.1,{ q with row:=q.row++[n+1],size:=(Bc r).length,some:=true,l:=q.l++[r] },0)
 else
  let y:=BG s (nm n) (Bc r)
  if y.2≠0 then (y.1,DA q y.2,y.2) else
  (y.1,{ q with size:=q.size+(Bc r).length,some:=true,l:=q.l++[r] },0)
def Iu(s:DS)(q:JS):DS × JS × Int:=
 if q.broken=true then (s,q,100) else
 let x:=Bn s (nm (q.row.getLast?.getD 0))
 (x.1,DA q x.2,x.2)
end Go.Jr
namespace Go.Proofs.YtbchfeibhoobeaaGreatDoor
open Go.Abs Go.Jr
variable {A:AW} {mp:Nat} {K:Value->AW->Prop}
theorem AgG(o:Option Nat)(a b:Int)(c:Bool):Bp Tp 76 [(0,.map o),(1,.int .i64 a),(2,.int .i64 b),(3,.bool c)]=some (.agg ⟨[.map o,.int .i64 a,.int .i64 b,.bool c]⟩):=by kernel_rfl
theorem AdR(o:Option Nat)(a:Int):Bp Tp 76 [(0,.map o),(1,.int .i64 a)]=some (.agg ⟨[.map o,.int .i64 a,.int .i64 0,.bool false]⟩):=by kernel_rfl
theorem AaA(a:Addr)(xo yo:Operand):Ai Tp .eql 27 xo yo (.pointer (some a)) (.pointer none)=some (.bool false):=by kernel_rfl
theorem Zc(r:Nat)(a b:Int)(c:Bool):BQ Tp (λ_=>.agg ⟨[.map (some r),.int .i64 a,.int .i64 b,.bool c]⟩) (.box 76 (.tmp 0))=some (.row [.map (some r),.int .i64 a,.int .i64 b,.bool c] 76):=by kernel_rfl
def cR:Go.Shelf.Ren:=⟨λ| 5=>67 | 7=>104 | x=>x,λ| 23=>74 | 25=>9 | 3=>100 | x=>x,λx=>x⟩
theorem clX:SlLaysW.n5 Tp cR:=by apply SlLaysW.n5.mk<;>first | (intros;kernel_rfl) | exact ⟨Tryz.f67.name,by kernel_rfl,by kernel_rfl⟩
theorem AfF {W0:World} {m0:Inj Tp} {A1:AW} {es:List MapEntry} {c b:Nat} {ro:Bool} (hg:A.get mp=some (.map es c ro)) (hn:A.new (.map es c false)=some (b,A1))
  (hk:K (.map (some b)) A1):knW Tp W0 m0 67 [.map (some mp)] A K:=by
 refine .inr λm w args' r _ _ ha=>?_;cases ha with
 |cons hv ht=>
  cases ht;obtain ⟨c',es',rfl,hm,hc,he⟩:=r.map hg hv;obtain ⟨m',g1,g2⟩:=D8 (o':=.map ⟨es'⟩ c) r hn ⟨rfl,es',rfl,he⟩ rfl;refine (AnyW.maps_Clone clX c' ⟨es'⟩ c w hc).mono λe w' ⟨h1,h2⟩=>⟨_,_,m',A1,hk,h1,.map g2,?_⟩;subst h2;exact g1.low (Nl _)
theorem WK{n:Nat}(r:Nat):EE (n+1) (.map (some r)) (.map (some r))=true:=by simp [EE]
theorem Vw(a:Int):OD (.int .i64 a) [.int .i64 0]=some (.int .i64 (max a 0)):=by
 unfold OD;simp only [RE]
 congr 2
 split<;>omega
section
variable {W0:World} {m0:Inj Tp}
theorem wc7 {room:Int} (hf:Aw A) (hA:A.next+5<Am)
  (hk:∀ A',Dk A' (A.next+1) A.next ⟨[],max room 0,0,false⟩->Aj A A' []->A'.next=A.next+2->Aw A'->K (pP (A.next+1) 0) A'):
  Wc Tp An W0 m0 7 [.int .i64 room] A K:=by
 refine w7 _ _ BF ?_;rw [e7];refine Afz (ke:=kS) (ve:=vF) hf (by omega) λA1 h1 k1 n1 f1=>?_;simp only [Vw,AdR,Ab];refine Bk (cs:=[.map (some A.next),.int .i64 (max room 0),.int .i64 0,.bool false]) f1 (by omega) rfl λA2 m2=>?_;have n2:=m2.next;have k2:=m2.keeps f1;have r2:=m2.BB;rw [n1] at r2
 have:=hk A2 ⟨[],0,r2,h1.keeps k2 (by simp),by omega,rfl⟩ (k1.trans k2 (by simp)) (by omega) m2.Ay
 rw [n1];exact this
theorem Z5 {d:Nat} {s:DS} (h:Dk A d mp s) (hf:Aw A) (hA:A.next+5<Am)
  (hk:∀ A',Dk A' (A.next+1) A.next s->Aj A A' []->A'.next=A.next+2->Aw A'->K (pP (A.next+1) 0) A'):
  Wc Tp An W0 m0 19 [pP d 0] A K:=by
 refine w19 _ _ BF ?_;rw [e19];refine QT h ?_;have hlt:=h.lt;obtain ⟨es,c,hr,hm,hne,hD⟩:=h;simp only [Bg,Ab,Al,CS,Qo,Na,Ij,EJ,D4,Fh,Ae hr.row,cellOf,Cc,AG,Bt,Cf,Nat.zero_add];refine Ag.2 ⟨λh=>by simp at h,λ_=>?_⟩;obtain ⟨A1,hnew,hm1,k1,n1,f1⟩:=hm.clone hf (by omega);refine AfF hm.row.row hnew ?_;have hr1:=hr.keeps k1 (by simp);simp only [Ab,Ae hr1.row,cellOf,Cc,AG,Bt,Cf,AR,AgG];refine Bk (cs:=[.map (some A.next),.int .i64 s.room,.int .i64 s.B9,.bool s.down]) f1 (by omega) rfl λA2 m2=>?_;have n2:=m2.next;have k2:=m2.keeps f1;have hr2:=hr1.keeps k2 (by simp);refine ⟨⟨_,Zc _ _ _ _,?_⟩,?_⟩
 ·simp only [Cj,Fy,m2.row,EF,GD,WK,Vf,Bool.and_self,Option.isNone_none,Nat.beq_refl]
 simp only [Ae hr2.row,cellOf,Cc,AG,Bt,Cf,AR,Ab];have r2:=m2.BB;rw [n1] at r2
 have:=hk A2 ⟨es,c,r2,hm1.keeps k2 (by simp),by omega,hD⟩ (k1.trans k2 (by simp)) (by omega) m2.Ay
 rw [n1];exact this
end
variable {A:AW} {K:Value->AW->Prop}
abbrev RV:=UInt8 × ByteArray
def fR(r:RV):List Value:=[.int .u8 r.1.toNat,.string r.2]
def toR(r:RV):Rec:=(r.1,r.2.data.toList)
theorem zR:Ei Tp 35=some (.agg ⟨[.int .u8 0,.string ⟨⟨[]⟩⟩]⟩):=by kernel_rfl
theorem etR:ET Tp 22 35 1 fR where
 us:=by kernel_rfl
 sz:=by kernel_rfl
 ag:=by kernel_rfl
 by':=⟨24,by kernel_rfl,by decide⟩
 hz:=by kernel_rfl
 len:=λ_=>rfl
 one:=λ_=>rfl
 noT:=λ_=>rfl
theorem UL(A:AW)(s:ByteArray):AX Tp A 9 41 (.string s)=(match A.new (.row (AI s.data.toList) 5 A.next 0 false) with
  |some (b,w')=>.ok (.slice (some ⟨b,0,none⟩) s.data.toList.length (Bx+s.data.toList.length)) w'
  |none=>.fail "convert new"):=by kernel_rfl
theorem bytesRow{s:ByteArray}(hf:Aw A)(h:A.next<Am)(hk:∀ A',Grow A A' 1->RdS 5 A' (.slice (some ⟨A.next,0,none⟩) s.data.toList.length (Bx+s.data.toList.length)) s.data.toList [A.next]->A'.next=A.next+1->K (.slice (some ⟨A.next,0,none⟩) s.data.toList.length (Bx+s.data.toList.length)) A'):Au (AX Tp A 9 41 (.string s)) K:=by
 rw [UL];unfold AW.new;simp only [AF.2 h,Ct];have m:Made A (A.push (.row (AI s.data.toList) 5 A.next 0 false)) (AI s.data.toList) 5:=⟨AW.B7 _ h,rfl,by rw [AW.BP _ h,if_pos rfl],hf.alone (Nl _),hf.push _ h⟩;exact Ba.2 (hk _ (.made m hf) (.inr ⟨A.next,0,s.data.toList.length,_,_,A.next,0,false,[],rfl,.inl rfl,Nl _,m.row,Nat.lt_succ_self _,rfl,by simp⟩) m.next)
theorem Yb(n:Nat):be n 4=be4 n:=by
 show [UInt8.ofNat (n/256^3),UInt8.ofNat (n/256^2),UInt8.ofNat (n/256^1),UInt8.ofNat (n/256^0)]=_;simp [be4]
theorem Iq(l:List UInt8):FU l=C4 l:=by
 unfold FU C4
 congr 1
 funext a c
 rw [Nat.mul_comm]
theorem Jk(l:List Rec)(r:Rec):Cr (l++[r])=Cr l++Bc r:=by rw [G8];simp [Cr]
theorem CB{α:Type}{l:List α}{i:Nat}{p:α}(h:l[i]? =some p):l.take (i+1)=l.take i++[p]:=by rw [List.take_add_one,h];rfl
theorem X7{c:UInt8}(hf:Aw A)(h:A.next<Am)(hk:∀ A',Made A A' (AI [c]) 5->K (.slice (some ⟨A.next,0,none⟩) 1 1) A'):Au (Av Tp A 41 1 [(0,.int .u8 (c.toNat:Int))]) K:=by
 rw [AdN];unfold AW.newRow AW.new;simp only [show ([Value.int .u8 (c.toNat:Int)].all AT)=true from rfl,Ct,AF.2 h];exact Ba.2 (hk (A.push (.row [.int .u8 c.toNat] 5 A.next 0 false)) ⟨AW.B7 _ h,rfl,by rw [AW.BP _ h,if_pos rfl];rfl,hf.alone (Nl _),hf.push _ h⟩)
theorem KR(l:List Rec)(i:Nat):(Cr (l.take i)).length<=(Cr l).length:=by
 conv=>rhs;rw [<- List.take_append_drop i l]
 rw [G8,Lq];omega
section
variable {W0:World} {m0:Inj Tp}
theorem AbF {x:Value} {l:List RV} {F:List Nat} (h:RdE 1 fR A x l F) (hg:Glb A) (hf:Aw A) (hl:l.length<10000) (hd:∀ r∈l,r.2.data.toList.length<=65536) (hA:A.next+20*l.length+20<Am) (hsz:(Cr (l.map toR)).length<900000)
  (hk:∀ A',Grow A A' (20*l.length)->K (.tuple ⟨[.string ⟨⟨Cr (l.map toR)⟩⟩,.int .i64 0]⟩) A'):Wc Tp An W0 m0 55 [x] A K:=by
 have hroom:room=68719476736:=rfl;let I:Nat->Nat->List Value->AW->Prop:=λg id vals A'=>id=0/\∃ (i:Nat) (v:Value) (F':List Nat),vals=[v,x,.int .i64 (l.length:Int),.int .i64 (i:Int)]/\i<=l.length/\g=l.length-i/\
  Buf 5 A' v (Cr ((l.map toR).take i)) F'/\(∀ y∈F',A.next<=y)/\Grow A A' (20*i)
 refine w55 _ _ (c55 (I:=I) ?_) ?_
 ·rintro g id vals A' d ⟨rfl,i,v,F',rfl,hi,rfl,hb,hF,hgr⟩ hd';rw [Adi];simp only [L55,Mc,Mn,Li,and_true] at hd';obtain ⟨h4,h7,h8,h9⟩:=hd';have hn:=hgr.next;have hle:=hgr.le;simp only [h4,h7,h8,h9,AU,Ab,Ao];refine ⟨λhlt=>?_,λhge=>?_⟩
  ·have hlt:i<l.length:=by omega
   obtain ⟨p,hp⟩:∃ p,l[i]? =some p:=⟨_,Ge hlt⟩;have hpl:p.2.data.toList.length<=65536:=hd p (List.mem_of_getElem? hp);have hr:=h.keeps hgr.keeps (by simp);obtain ⟨r,o,a1,a2,a3⟩:=hr.at etR hp;rw [a1];simp only [Ab,a3];refine Bl zR hgr.Ay (by omega) rfl λA1 m1=>?_;have n1:=m1.next;refine m1.BB.store m1.Ay (by omega) (O4 _ _ _) rfl (by show 0+2<=2;omega) rfl λA2 r2 k2 n2 f2=>?_;have r2:Go.Abs.AS A2 A'.next [.int .u8 p.1.toNat,.string p.2] 35:=r2;have g2:Grow A' A2 1:=(Grow.made m1 hgr.Ay).own k2 (by simp) (m:=0) (by omega) f2;simp only [E5,Ec,Kg,CG,Ae r2.row,cellOf,AG,AE,Cf,Ab,Ea,BN,Ao,Nat.zero_add];refine ⟨λhgt=>by omega,λ_=>?_⟩;refine X7 f2 (by omega) λA3 m3=>?_;have n3:=m3.next;have g3:=g2.trans (Grow.made m3 f2);have r3:=r2.keeps (m3.keeps f2) (by simp);simp only [Ae r3.row,cellOf,AG,AE,Cf,Ab,Ea,N8,Ba];rw [wrap_u64 (by omega) (by omega)];have hb3:Buf 5 A3 (.slice (some ⟨A2.next,0,none⟩) 1 1) [p.1] [A2.next]:=X0 (l:=[p.1]) m3.BB (by simp);refine Ack (n:=p.2.data.toList.length) (w:=4) m3.Ay (by omega) hb3.rd (by simp) (by omega) λA4 v4 F4 g4 b4 hF4=>?_;have n4:=g4.next;have le4:=g4.le;refine AbA b4.rd ((hg.keeps hgr.keeps (by simp)).keeps (g3.trans g4).keeps (by simp)) g4.Ay (by omega) (by rw [Lq,Ef];simp) λA5 v5 F5 g5 b5 hF5=>?_;have n5:=g5.next;have le5:=g5.le;have g5':=(g3.trans g4).trans g5;have hbl:=KR (l.map toR) i;have hhead:Go.Crc.Dy ([p.1]++be p.2.data.toList.length 4)=Gi (toR p):=by rw [Yb];rfl
   rw [hhead] at b5;refine C7 tb (hb.keeps g5'.keeps (by simp)) (C6 tb b5.rd) g5.Ay (by omega) (by rw [CJ];omega) λv6 A6 F6 b6 k6 hF6 n6 f6=>?_;have r6:Go.Abs.AS A6 A'.next [.int .u8 p.1.toNat,.string p.2] 35:=(r3.keeps (g4.trans g5).keeps (by simp)).keeps k6 (λhm=>by have:=hb.lt _ hm;omega);simp only [E5,Ec,Kg,CG,Ae r6.row,cellOf,AG,AE,Cf,Ab,Nat.zero_add];have hle6:=k6.next;have g6:Grow A A6 (20*i+8):=((hgr.trans g5').own k6 hF (m:=1) n6 f6).more (by omega);refine bytesRow f6 (by omega) λA7 g7 b7 n7=>?_;refine AbA b7.rd ((hg.keeps g6.keeps (by simp)).keeps g7.keeps (by simp)) g7.Ay (by omega) (by omega) λA8 v8 F8 g8 b8 hF8=>?_;have n8:=g8.next;have le8:=g8.le;have g8':=g7.trans g8;refine C7 tb (b6.keeps g8'.keeps (by simp)) (C6 tb b8.rd) g8.Ay (by omega) (by rw [Lq,CJ,Go.Crc.Dx];omega) λv9 A9 F9 b9 k9 hF9 n9 f9=>?_;have hF6':∀ y∈F6,A.next<=y:=λy hy=>(hF6 y hy).elim (hF y) λh=>by omega
   rw [AY,wrap_i64 (by omega) (by omega)];simp only [Ab];refine Ar.2 ⟨l.length-(i+1),by omega,rfl,i+1,v9,F9,by simp,by omega,rfl,?_,λy hy=>(hF9 y hy).elim (hF6' y) λh=>by omega,?_⟩
   ·have hp':(l.map toR)[i]? =some (toR p):=by rw [List.getElem?_map,hp];rfl
    rw [CB hp',Jk];unfold Bc;rw [<- Mw];exact b9
   ·exact ((g6.trans g8').own k9 hF6' (m:=1) n9 f9).more (by omega)
  ·have hi:i=l.length:=by omega
   subst hi;rw [List.take_of_length_le (by simp)] at hb;rw [hb.rd.str tb];exact Ba.2 (hk A' hgr)
 ·rw [e55];rw [h.len etR];simp only [Ab];exact Ar.2 ⟨l.length,rfl,0,_,[],rfl,by omega,rfl,Buf.nil _ _,by simp,Grow.refl hf⟩
end
end Go.Proofs.YtbchfeibhoobeaaGreatDoor
