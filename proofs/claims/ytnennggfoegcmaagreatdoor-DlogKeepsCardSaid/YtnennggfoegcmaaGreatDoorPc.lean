/-
  This text prints what the functions reached ask of their memory, and shows what they answer. Conditions: those that each theorem states.
-/
import Derived.Test.YtnennggfoegcmaaGreatDoorPb
import Derived.KernelRfl
import Derived.Shelf.SlSortCmp.NoneTotal
import Derived.Test.YtnennggfoegcmaaGreatDoorProg
set_option maxRecDepth 100000
set_option maxHeartbeats 1000000
namespace Go.Proofs.YtnennggfoegcmaaGreatDoor
open Go.Abs
variable {f sz:Nat} {T:Nat->List Item} {L:Nat->List Tmp}
abbrev pP(b o:Nat):Value:=.pointer (some ⟨b,o,none⟩)
noncomputable abbrev Tp:Program:=Tryz.prog
def Tz:Nat->List Item:=λ_=>[]
def Lz:Nat->List Tmp:=λ_=>[]
def Al:Bt:={ known:=[8,78,129,130,157,160,164] }
def sub:Code->List Nat->Code
 |c,[]=>c
 |.seq a _,0::p=>sub a p
 |.seq _ b,_::p=>sub b p
 |.cond _ a _,0::p=>sub a p
 |.cond _ _ b,_::p=>sub b p
 |.block _ b,_::p=>sub b p
 |.loop b,_::p=>sub b p
 |.rangeFunc _ _ a _,0::p=>sub a p
 |.rangeFunc _ _ _ b,_::p=>sub b p
 |.scope b,_::p=>sub b p
 |c,_=>c
noncomputable def cd(f:FuncId)(p:List Nat):Code:=match Tp.funcs[f]? with
 |some fn=>(match fn.body with | some c=>sub c p | none=>.skip)
 |none=>.skip
theorem gP:POk Tp:=AcF (by kernel_rfl) (by kernel_rfl)
def gE(W0:World)(m0:Inj Tp)(S:Nat->List Value->AW->Prop)(Q:Value->AW->Prop)(f sz:Nat)(T:Nat->List Item)(L:Nat->List Tmp)(aS:List Value)(A:AW):Prop:=Cv Tp Al W0 m0 f T L S Q none 4000 (Tm.fill ⟨sz,.nil⟩ 0 aS) [.code (cd f [])] false 0 0 0 [] A
def gL(W0:World)(m0:Inj Tp)(S:Nat->List Value->AW->Prop)(Q:Value->AW->Prop)(f sz:Nat)(T:Nat->List Item)(L:Nat->List Tmp)(d:Nat->Value)(id:Nat)(A:AW):Prop:=Cv Tp Al W0 m0 f T L S Q none 4000 (OU sz d) (T id) false 0 0 0 [] A
def Wf0(f sz:Nat)(T:Nat->List Item)(L:Nat->List Tmp):Prop:=∀ {W0:World} {m0:Inj Tp} {S:Nat->List Value->AW->Prop} {Q:Value->AW->Prop} (A:AW),LQ Tp Al W0 m0 f T L S Q sz->gE W0 m0 S Q f sz T L [] A->Wc Tp Al W0 m0 f [] A Q
theorem wf0(n:CD Tp f [] .normal=some (frM f (Tm.fill ⟨sz,.nil⟩ 0 []) [.code (cd f [])] false))(hs:sz<Aj)(hz:(Tm.fill ⟨sz,.nil⟩ 0 []).sz=sz):Wf0 f sz T L:=λ_ hc h=>Mt gP hs hc (n) (hz) h
def Wf1(f sz:Nat)(T:Nat->List Item)(L:Nat->List Tmp):Prop:=∀ {W0:World} {m0:Inj Tp} {S:Nat->List Value->AW->Prop} {Q:Value->AW->Prop} (a0:Value) (A:AW),LQ Tp Al W0 m0 f T L S Q sz->gE W0 m0 S Q f sz T L [a0] A->Wc Tp Al W0 m0 f [a0] A Q
theorem wf1(n:∀ (a0:Value),CD Tp f [a0] .normal=some (frM f (Tm.fill ⟨sz,.nil⟩ 0 [a0]) [.code (cd f [])] false))(hs:sz<Aj)(hz:∀ (a0:Value),(Tm.fill ⟨sz,.nil⟩ 0 [a0]).sz=sz):Wf1 f sz T L:=λa0 _ hc h=>Mt gP hs hc (n a0) (hz a0) h
def Wf2(f sz:Nat)(T:Nat->List Item)(L:Nat->List Tmp):Prop:=∀ {W0:World} {m0:Inj Tp} {S:Nat->List Value->AW->Prop} {Q:Value->AW->Prop} (a0 a1:Value) (A:AW),LQ Tp Al W0 m0 f T L S Q sz->gE W0 m0 S Q f sz T L [a0,a1] A->Wc Tp Al W0 m0 f [a0,a1] A Q
theorem wf2(n:∀ (a0 a1:Value),CD Tp f [a0,a1] .normal=some (frM f (Tm.fill ⟨sz,.nil⟩ 0 [a0,a1]) [.code (cd f [])] false))(hs:sz<Aj)(hz:∀ (a0 a1:Value),(Tm.fill ⟨sz,.nil⟩ 0 [a0,a1]).sz=sz):Wf2 f sz T L:=λa0 a1 _ hc h=>Mt gP hs hc (n a0 a1) (hz a0 a1) h
def Wf3(f sz:Nat)(T:Nat->List Item)(L:Nat->List Tmp):Prop:=∀ {W0:World} {m0:Inj Tp} {S:Nat->List Value->AW->Prop} {Q:Value->AW->Prop} (a0 a1 a2:Value) (A:AW),LQ Tp Al W0 m0 f T L S Q sz->gE W0 m0 S Q f sz T L [a0,a1,a2] A->Wc Tp Al W0 m0 f [a0,a1,a2] A Q
theorem wf3(n:∀ (a0 a1 a2:Value),CD Tp f [a0,a1,a2] .normal=some (frM f (Tm.fill ⟨sz,.nil⟩ 0 [a0,a1,a2]) [.code (cd f [])] false))(hs:sz<Aj)(hz:∀ (a0 a1 a2:Value),(Tm.fill ⟨sz,.nil⟩ 0 [a0,a1,a2]).sz=sz):Wf3 f sz T L:=λa0 a1 a2 _ hc h=>Mt gP hs hc (n a0 a1 a2) (hz a0 a1 a2) h
def Wf4(f sz:Nat)(T:Nat->List Item)(L:Nat->List Tmp):Prop:=∀ {W0:World} {m0:Inj Tp} {S:Nat->List Value->AW->Prop} {Q:Value->AW->Prop} (a0 a1 a2 a3:Value) (A:AW),LQ Tp Al W0 m0 f T L S Q sz->gE W0 m0 S Q f sz T L [a0,a1,a2,a3] A->Wc Tp Al W0 m0 f [a0,a1,a2,a3] A Q
theorem wf4(n:∀ (a0 a1 a2 a3:Value),CD Tp f [a0,a1,a2,a3] .normal=some (frM f (Tm.fill ⟨sz,.nil⟩ 0 [a0,a1,a2,a3]) [.code (cd f [])] false))(hs:sz<Aj)(hz:∀ (a0 a1 a2 a3:Value),(Tm.fill ⟨sz,.nil⟩ 0 [a0,a1,a2,a3]).sz=sz):Wf4 f sz T L:=λa0 a1 a2 a3 _ hc h=>Mt gP hs hc (n a0 a1 a2 a3) (hz a0 a1 a2 a3) h
def EN(f sz:Nat)(T:Nat->List Item)(L:Nat->List Tmp):Prop:=∀ {W0:World} {m0:Inj Tp} {Q:Value->AW->Prop} {I:Nat->Nat->List Value->AW->Prop},(∀ g id vals A d,I g id vals A->(L id).map d=vals->gL W0 m0 (λid v A=>∃ g2,g2<g/\I g2 id v A) Q f sz T L d id A)->LQ Tp Al W0 m0 f T L (λid v A=>∃ g,I g id v A) Q sz
theorem E7(hs:sz<Aj):EN f sz T L:=λh=>AaU gP hs h
section
variable (W0:World) (m0:Inj Tp) (S:Nat->List Value->AW->Prop) (Q:Value->AW->Prop) (d:Nat->Value) (a0 a1 a2 a3 a4 a5 a6:Value) (A:AW)
theorem e5:gE W0 m0 S Q 5 8 Tz Lz [a0] A=(Ao (G4 A) λt0 At0=>Aa (Uf a0 [(.int .i64 0)]) λt1=>Aa (Bd Tp 68 [(0,t0),(1,t1)]) λt2=>Ao (CO At0 (Value.cells t2).toList 68) λt3 At3=>Q t3 At3):=by kernel_rfl
theorem w5:Wf1 5 8 Tz Lz:=wf1 (λ_=>by kernel_rfl) (by decide) λ_=>rfl
noncomputable def T27:Nat->List Item:=λi=>match i with
 |0=>[(.code (cd 27 [1,1,1,1,1,1,1,1,1,1,1,1,0,1,0,0])),(.inLoop (cd 27 [1,1,1,1,1,1,1,1,1,1,1,1,0,1,0,0])),(.inBlock 0),(.code (cd 27 [1,1,1,1,1,1,1,1,1,1,1,1,1]))]
 |2=>[(.code (cd 27 [1,1,1,1,1,1,1,1,1,1,1,1,1,0,1,0,0])),(.inLoop (cd 27 [1,1,1,1,1,1,1,1,1,1,1,1,1,0,1,0,0])),(.inBlock 2),(.code (cd 27 [1,1,1,1,1,1,1,1,1,1,1,1,1,1]))]
 |4=>[(.code (cd 27 [1,1,1,1,1,1,1,1,1,1,1,1,1,1,0,1,0,0])),(.inLoop (cd 27 [1,1,1,1,1,1,1,1,1,1,1,1,1,1,0,1,0,0])),(.inBlock 4),(.code (cd 27 [1,1,1,1,1,1,1,1,1,1,1,1,1,1,1]))]
 |_=>[]
def L27:Nat->List Tmp:=λi=>match i with
 |0=>[2,8,11,12,77,78,79]
 |2=>[2,8,11,12,88,89,90]
 |4=>[11,145,146,147]
 |_=>[]
theorem e27:gE W0 m0 S Q 27 183 T27 L27 [a0,a1] A=(Ao (CO A (Value.cells a0).toList 23) λt0 At0=>Aa (Ae Tp At0 23 t0) λt1=>Wc Tp Al W0 m0 65 [t1] At0 λt2 At2=>Aa (An Tp .eql 23 (.tmp 21) (.const (.pointer none)) t2 (.pointer none)) λt3=>Ai t3 (Q (.tuple ⟨[(.pointer none),(.int .i64 1)]⟩) At2) (Aa (An Tp .lss 3 (.tmp 23) (.const (.int .i64 1)) a1 (.int .i64 1)) λt4=>Ai t4 (Q (.tuple ⟨[(.pointer none),(.int .i64 2)]⟩) At2) (Aa (Ae Tp At2 23 t0) λt5=>Wc Tp Al W0 m0 54 [t5] At2 λt6 At6=>Ai t6 (Q (.tuple ⟨[(.pointer none),(.int .i64 100)]⟩) At6) (Aa (Ae Tp At6 23 t0) λt7=>Wc Tp Al W0 m0 66 [t7] At6 λt8 At8=>Aa (Ap t8 0) λt9=>Aa (Ap t8 1) λt10=>Aa (An Tp .neq 26 (.tmp 32) (.const (.int .i64 0)) t10 (.int .i64 0)) λt11=>Ai t11 (Q (.tuple ⟨[(.pointer none),t10]⟩) At8) (Wc Tp Al W0 m0 67 [t9] At8 λt12 At12=>Aa (Ap t12 0) λt13=>Aa (Ap t12 1) λt14=>Aa (Ap t12 2) λt15=>Aa (unA Tp .not t15) λt16=>Ai t16 (Q (.tuple ⟨[(.pointer none),(.int .i64 120)]⟩) At12) (Aa (Ae Tp At12 23 t0) λt17=>Aa (Bd Tp 123 [(0,t17),(1,a1)]) λt18=>Ao (CO At12 (Value.cells t18).toList 123) λt19 At19=>Aa (Ae Tp At19 23 t0) λt20=>Wc Tp Al W0 m0 37 [t20] At19 λt21 At21=>Wc Tp Al W0 m0 68 [t21,(.string ⟨⟨[106,46,110,101,119]⟩⟩)] At21 λt22 At22=>Ai t22 (Ao (Aq Tp At22 124 1 [(0,(.func (.func 69) ⟨[]⟩ ⟨[t0]⟩))]) λt23 At23=>Ao (AU Tp At23 124 124 (.slice none 0 0) t23) λt24 At24=>Aa (Bi Tp At24 117 t13) λt25=>Aa (An Tp .eql 3 (.tmp 55) (.const (.int .i64 0)) t25 (.int .i64 0)) λt26=>Ai t26 (Ao (Aq Tp At24 36 1 [(0,(.int .i64 1))]) λt27 At27=>Wc Tp Al W0 m0 71 [(.string ⟨⟨[]⟩⟩)] At27 λt28 At28=>Aa (Bi Tp At28 9 t28) λt29=>Aa (AY t19) λt30=>Aa (Ad Tp 123 t30 4) λt31=>Be (Av Tp At28 36 t31 t27) λAt32=>Aa (AY t19) λt33=>Aa (Ad Tp 123 t33 5) λt34=>Be (Av Tp At32 3 t34 t29) λAt35=>Aa (AY t19) λt36=>Aa (Ad Tp 123 t36 6) λt37=>Be (Av Tp At35 4 t37 (.bool true)) λAt38=>Ao (Aq Tp At38 124 3 [(0,(.func (.func 72) ⟨[]⟩ ⟨[t0]⟩)),(1,(.func (.func 74) ⟨[]⟩ ⟨[t0]⟩)),(2,(.func (.func 76) ⟨[]⟩ ⟨[t0]⟩))]) λt39 At39=>Ao (AU Tp At39 124 124 t24 t39) λt40 At40=>Aa (AX Tp At40 117 t9 none (some t14) none) λt41=>Aa (Bi Tp At40 117 t41) λt42=>BE (T27 0) (T27 0) (S 0 [t0,t13,t19,t40,t41,t42,(.int .i64 0)] At40)) (Aa (AX Tp At24 117 t9 none (some t14) none) λt43=>Aa (Bi Tp At24 117 t43) λt44=>BE (T27 0) (T27 0) (S 0 [t0,t13,t19,t24,t43,t44,(.int .i64 0)] At24))) (Aa (Bi Tp At22 117 t13) λt45=>Aa (An Tp .eql 3 (.tmp 55) (.const (.int .i64 0)) t45 (.int .i64 0)) λt46=>Ai t46 (Ao (Aq Tp At22 36 1 [(0,(.int .i64 1))]) λt47 At47=>Wc Tp Al W0 m0 71 [(.string ⟨⟨[]⟩⟩)] At47 λt48 At48=>Aa (Bi Tp At48 9 t48) λt49=>Aa (AY t19) λt50=>Aa (Ad Tp 123 t50 4) λt51=>Be (Av Tp At48 36 t51 t47) λAt52=>Aa (AY t19) λt53=>Aa (Ad Tp 123 t53 5) λt54=>Be (Av Tp At52 3 t54 t49) λAt55=>Aa (AY t19) λt56=>Aa (Ad Tp 123 t56 6) λt57=>Be (Av Tp At55 4 t57 (.bool true)) λAt58=>Ao (Aq Tp At58 124 3 [(0,(.func (.func 72) ⟨[]⟩ ⟨[t0]⟩)),(1,(.func (.func 74) ⟨[]⟩ ⟨[t0]⟩)),(2,(.func (.func 76) ⟨[]⟩ ⟨[t0]⟩))]) λt59 At59=>Ao (AU Tp At59 124 124 (.slice none 0 0) t59) λt60 At60=>Aa (AX Tp At60 117 t9 none (some t14) none) λt61=>Aa (Bi Tp At60 117 t61) λt62=>BE (T27 0) (T27 0) (S 0 [t0,t13,t19,t60,t61,t62,(.int .i64 0)] At60)) (Aa (AX Tp At22 117 t9 none (some t14) none) λt63=>Aa (Bi Tp At22 117 t63) λt64=>BE (T27 0) (T27 0) (S 0 [t0,t13,t19,(.slice none 0 0),t63,t64,(.int .i64 0)] At22))))))))):=by kernel_rfl
theorem Afk:gL W0 m0 S Q 27 183 T27 L27 d 0 A=(Aa (An Tp .lss 3 (.tmp 79) (.tmp 78) (d 79) (d 78)) λt0=>Ai t0 (Aa (Ar Tp 117 (d 77) (d 79)) λt1=>Aa (Ae Tp A 131 t1) λt2=>Ao (BB Tp A 131) λt3 At3=>Be (Av Tp At3 131 t3 t2) λAt4=>Ao (Aq Tp At4 124 1 [(0,(.func (.func 79) ⟨[]⟩ ⟨[(d 2),t3]⟩))]) λt5 At5=>Ao (AU Tp At5 124 124 (d 12) t5) λt6 At6=>Aa (An Tp .add 3 (.tmp 79) (.const (.int .i64 1)) (d 79) (.int .i64 1)) λt7=>BE (T27 0) (T27 0) (S 0 [(d 2),(d 8),(d 11),t6,(d 77),(d 78),t7] At6)) (Aa (Bi Tp A 117 (d 8)) λt8=>BE (T27 2) (T27 2) (S 2 [(d 2),(d 8),(d 11),(d 12),(d 8),t8,(.int .i64 0)] A))):=by kernel_rfl
theorem Afj:gL W0 m0 S Q 27 183 T27 L27 d 2 A=(Aa (An Tp .lss 3 (.tmp 90) (.tmp 89) (d 90) (d 89)) λt0=>Ai t0 (Aa (Ar Tp 117 (d 88) (d 90)) λt1=>Aa (Ae Tp A 131 t1) λt2=>Ao (BB Tp A 131) λt3 At3=>Be (Av Tp At3 131 t3 t2) λAt4=>Aa (AY (d 11)) λt5=>Aa (Ad Tp 123 t5 4) λt6=>Aa (Ae Tp At4 36 t6) λt7=>Aa (Ad Tp 131 t3 0) λt8=>Aa (Ae Tp At4 3 t8) λt9=>Ao (Aq Tp At4 36 1 [(0,t9)]) λt10 At10=>Cd (Bn Tp (BZ (Tm.fill ⟨1,.nil⟩ 0 [t9])) (.buildSlice 36 1 #[(0,.tmp 0)])) At10 t10 (Aa (Ae Tp At10 3 t8) λt11=>eqW t11 t9 (Aa (Ad Tp 131 t3 0) λt12=>eqW t12 t8 (Aa (Ae Tp At10 36 t6) λt13=>eqW t13 t7 (Aa (Ad Tp 123 t5 4) λt14=>eqW t14 t6 (Aa (AY (d 11)) λt15=>eqW t15 t5 (eqW (d 11) (d 11) (eqW (d 11) (d 11) (Ao (AU Tp At10 36 36 t7 t10) λt16 At16=>eqW (d 11) (d 11) (Aa (AY (d 11)) λt17=>Aa (Ad Tp 123 t17 4) λt18=>Be (Av Tp At16 36 t18 t16) λAt19=>Aa (AY (d 11)) λt20=>Aa (Ad Tp 123 t20 3) λt21=>Aa (Ae Tp At19 60 t21) λt22=>Aa (Ad Tp 131 t3 1) λt23=>Aa (Ae Tp At19 60 t23) λt24=>Ao (AU Tp At19 60 60 t22 t24) λt25 At25=>eqW (d 11) (d 11) (Aa (AY (d 11)) λt26=>Aa (Ad Tp 123 t26 3) λt27=>Be (Av Tp At25 60 t27 t25) λAt28=>Aa (Ad Tp 131 t3 2) λt29=>Aa (Ae Tp At28 3 t29) λt30=>Aa (Ad Tp 131 t3 1) λt31=>Aa (Ae Tp At28 60 t31) λt32=>Aa (Bi Tp At28 60 t32) λt33=>Aa (An Tp .gtr 3 (.tmp 122) (.const (.int .i64 0)) t33 (.int .i64 0)) λt34=>Aa (AY (d 11)) λt35=>Aa (Ad Tp 123 t35 5) λt36=>Be (Av Tp At28 3 t36 t30) λAt37=>Aa (An Tp .gtr 3 (.tmp 122) (.const (.int .i64 0)) t33 (.int .i64 0)) λt38=>eqW t38 t34 (Aa (Bi Tp At37 60 t32) λt39=>eqW t39 t33 (Aa (Ae Tp At37 60 t31) λt40=>eqW t40 t32 (Aa (Ad Tp 131 t3 1) λt41=>eqW t41 t31 (eqW (d 11) (d 11) (Aa (AY (d 11)) λt42=>Aa (Ad Tp 123 t42 6) λt43=>Be (Av Tp At37 4 t43 t34) λAt44=>Aa (Bi Tp At44 117 (d 8)) λt45=>Aa (An Tp .sub 3 (.tmp 130) (.const (.int .i64 1)) t45 (.int .i64 1)) λt46=>Aa (An Tp .eql 3 (.tmp 128) (.tmp 131) (d 90) t46) λt47=>Ai t47 (Aa (Ad Tp 131 t3 3) λt48=>Aa (Ae Tp At44 129 t48) λt49=>Aa (An Tp .eql 129 (.tmp 134) (.const (.int .u8 1)) t49 (.int .u8 1)) λt50=>Ai t50 (Ao (Aq Tp At44 124 1 [(0,(.func (.func 80) ⟨[]⟩ ⟨[(d 2),t3]⟩))]) λt51 At51=>Ao (AU Tp At51 124 124 (d 12) t51) λt52 At52=>Ao (Aq Tp At52 124 1 [(0,(.func (.func 82) ⟨[]⟩ ⟨[(d 2),t3]⟩))]) λt53 At53=>Ao (AU Tp At53 124 124 t52 t53) λt54 At54=>Aa (An Tp .add 3 (.tmp 90) (.const (.int .i64 1)) (d 90) (.int .i64 1)) λt55=>BE (T27 2) (T27 2) (S 2 [(d 2),(d 8),(d 11),t54,(d 88),(d 89),t55] At54)) (Ao (Aq Tp At44 124 1 [(0,(.func (.func 82) ⟨[]⟩ ⟨[(d 2),t3]⟩))]) λt56 At56=>Ao (AU Tp At56 124 124 (d 12) t56) λt57 At57=>Aa (An Tp .add 3 (.tmp 90) (.const (.int .i64 1)) (d 90) (.int .i64 1)) λt58=>BE (T27 2) (T27 2) (S 2 [(d 2),(d 8),(d 11),t57,(d 88),(d 89),t58] At57))) (Aa (An Tp .add 3 (.tmp 90) (.const (.int .i64 1)) (d 90) (.int .i64 1)) λt59=>BE (T27 2) (T27 2) (S 2 [(d 2),(d 8),(d 11),(d 12),(d 88),(d 89),t59] At44)))))))))))))))))) (Aa (Bi Tp A 124 (d 12)) λt60=>BE (T27 4) (T27 4) (S 4 [(d 11),(d 12),t60,(.int .i64 0)] A))):=by kernel_rfl
theorem Afi:gL W0 m0 S Q 27 183 T27 L27 d 4 A=(Aa (An Tp .lss 3 (.tmp 147) (.tmp 146) (d 147) (d 146)) λt0=>Ai t0 (Aa (Ar Tp 124 (d 145) (d 147)) λt1=>Aa (Ae Tp A 94 t1) λt2=>anW Tp Al W0 m0 (D2 Tp A t2 []) λt3 At3=>Aa (An Tp .neq 26 (.tmp 153) (.const (.int .i64 0)) t3 (.int .i64 0)) λt4=>Ai t4 (Q (.tuple ⟨[(.pointer none),t3]⟩) At3) (Aa (An Tp .add 3 (.tmp 147) (.const (.int .i64 1)) (d 147) (.int .i64 1)) λt5=>BE (T27 4) (T27 4) (S 4 [(d 11),(d 145),(d 146),t5] At3))) (Aa (AY (d 11)) λt6=>Aa (Ad Tp 123 t6 3) λt7=>Aa (Ae Tp A 60 t7) λt8=>Aa (Bi Tp A 60 t8) λt9=>Aa (An Tp .gtr 3 (.tmp 161) (.const (.int .i64 0)) t9 (.int .i64 0)) λt10=>Ai t10 (Aa (AY (d 11)) λt11=>Aa (Ad Tp 123 t11 3) λt12=>Aa (Ae Tp A 60 t12) λt13=>Aa (Ar Tp 60 t13 (.int .i64 0)) λt14=>Aa (Ad Tp 80 t14 1) λt15=>Aa (Ae Tp A 9 t15) λt16=>Aa (AY (d 11)) λt17=>Aa (Ad Tp 123 t17 3) λt18=>Aa (Ae Tp A 60 t18) λt19=>Aa (AX Tp A 60 t19 (some (.int .i64 1)) none none) λt20=>Wc Tp Al W0 m0 83 [t20] A λt21 At21=>Aa (Ae Tp At21 9 t15) λt22=>eqW t22 t16 (Aa (Ad Tp 80 t14 1) λt23=>eqW t23 t15 (Aa (Ar Tp 60 t13 (.int .i64 0)) λt24=>eqW t24 t14 (Aa (Ae Tp At21 60 t12) λt25=>eqW t25 t13 (Aa (Ad Tp 123 t11 3) λt26=>eqW t26 t12 (Aa (AY (d 11)) λt27=>eqW t27 t11 (eqW (d 11) (d 11) (eqW (d 11) (d 11) (eqW (d 11) (d 11) (Aa (AY (d 11)) λt28=>Aa (Ad Tp 123 t28 2) λt29=>Be (Av Tp At21 9 t29 t16) λAt30=>eqW (d 11) (d 11) (Aa (AY (d 11)) λt31=>Aa (Ad Tp 123 t31 3) λt32=>Be (Av Tp At30 60 t32 t21) λAt33=>Q (.tuple ⟨[(d 11),(.int .i64 0)]⟩) At33))))))))))) (Q (.tuple ⟨[(d 11),(.int .i64 0)]⟩) A))):=by kernel_rfl
theorem w27:Wf2 27 183 T27 L27:=wf2 (λ_ _=>by kernel_rfl) (by decide) λ_ _=>rfl
theorem c27:EN 27 183 T27 L27:=E7 (by decide)
theorem w40:Wf2 40 119 Tz Lz:=wf2 (λ_ _=>by kernel_rfl) (by decide) λ_ _=>rfl
theorem e37:gE W0 m0 S Q 37 12 Tz Lz [a0] A=(Wc Tp Al W0 m0 36 [a0] A λt0 At0=>Aa (unA Tp .not t0) λt1=>Ai t1 (Q (.slice none 0 0) At0) (Aa (AY a0) λt2=>Aa (Ad Tp 68 t2 0) λt3=>Aa (Ae Tp At0 66 t3) λt4=>Wc Tp Al W0 m0 96 [t4] At0 λt5 At5=>Wc Tp Al W0 m0 95 [t5] At5 λt6 At6=>Q t6 At6)):=by kernel_rfl
theorem w37:Wf1 37 12 Tz Lz:=wf1 (λ_=>by kernel_rfl) (by decide) λ_=>rfl
theorem e55:gE W0 m0 S Q 55 17 Tz Lz [a0,a1] A=(Wc Tp Al W0 m0 124 [a0,a1] A λt0 At0=>Aa (Ap t0 0) λt1=>Aa (Ap t0 1) λt2=>Ao (BB Tp At0 89) λt3 At3=>Be (Av Tp At3 89 t3 t1) λAt4=>Aa (Ad Tp 89 t3 0) λt5=>Aa (Ae Tp At4 9 t5) λt6=>Q (.tuple ⟨[t6,t2]⟩) At4):=by kernel_rfl
theorem w55:Wf2 55 17 Tz Lz:=wf2 (λ_ _=>by kernel_rfl) (by decide) λ_ _=>rfl
theorem e73:gE W0 m0 S Q 73 43 Tz Lz [a0,a1,a2] A=(Ao (CO A (Value.cells a0).toList 23) λt0 At0=>Ao (CO At0 (Value.cells a1).toList 9) λt1 At1=>Ao (CO At1 (Value.cells a2).toList 9) λt2 At2=>Aa (Ae Tp At2 23 t0) λt3=>Wc Tp Al W0 m0 134 [t3] At2 λt4 At4=>Aa (An Tp .neq 26 (.tmp 11) (.const (.int .i64 0)) t4 (.int .i64 0)) λt5=>Ai t5 (Q t4 At4) (Aa (Ae Tp At4 9 t1) λt6=>Wc Tp Al W0 m0 137 [t6] At4 λt7 At7=>Aa (unA Tp .not t7) λt8=>Ai t8 (Q (.int .i64 2) At7) (Ao (BB Tp At7 89) λt9 At9=>Cd (Bn Tp (λ_=>undef) (.alloc 89)) At9 t9 (Aa (Ae Tp At9 23 t0) λt10=>Aa (AY t10) λt11=>Aa (Ad Tp 68 t11 0) λt12=>Aa (Ae Tp At9 66 t12) λt13=>Aa (Ae Tp At9 9 t1) λt14=>Aa (Cu Tp At9 66 t13 t14 false) λt15=>Be (Av Tp At9 89 t9 t15) λAt16=>Aa (Ae Tp At16 9 t2) λt17=>Aa (Bi Tp At16 9 t17) λt18=>Aa (Ad Tp 89 t9 0) λt19=>Aa (Ae Tp At16 9 t19) λt20=>Aa (Bi Tp At16 9 t20) λt21=>Aa (An Tp .sub 3 (.const (.int .i64 1048576)) (.tmp 27) (.int .i64 1048576) t21) λt22=>Aa (An Tp .gtr 3 (.tmp 24) (.tmp 28) t18 t22) λt23=>Ai t23 (Q (.int .i64 3) At16) (Aa (Ae Tp At16 9 t2) λt24=>Aa (Bi Tp At16 9 t24) λt25=>Aa (Ae Tp At16 23 t0) λt26=>Aa (AY t26) λt27=>Aa (Ad Tp 68 t27 1) λt28=>Aa (Ae Tp At16 3 t28) λt29=>Aa (Ae Tp At16 23 t0) λt30=>Wc Tp Al W0 m0 138 [t30] At16 λt31 At31=>Aa (Ae Tp At31 3 t28) λt32=>eqW t32 t29 (Aa (Ad Tp 68 t27 1) λt33=>eqW t33 t28 (Aa (AY t26) λt34=>eqW t34 t27 (Aa (Ae Tp At31 23 t0) λt35=>eqW t35 t26 (Aa (Bi Tp At31 9 t24) λt36=>eqW t36 t25 (Aa (Ae Tp At31 9 t2) λt37=>eqW t37 t24 (Aa (An Tp .sub 3 (.tmp 35) (.tmp 37) t29 t31) λt38=>Aa (An Tp .gtr 3 (.tmp 31) (.tmp 38) t25 t38) λt39=>Ai t39 (Q (.int .i64 6) At31) (Aa (Ae Tp At31 23 t0) λt40=>Wc Tp Al W0 m0 135 [t40,(.func (.func 139) ⟨[]⟩ ⟨[t9,t2,t0,t1]⟩),(.bool true)] At31 λt41 At41=>Q t41 At41)))))))))))):=by kernel_rfl
theorem w73:Wf3 73 43 Tz Lz:=wf3 (λ_ _ _=>by kernel_rfl) (by decide) λ_ _ _=>rfl
theorem e45:gE W0 m0 S Q 45 22 Tz Lz [a0] A=(Wc Tp Al W0 m0 88 [a0] A λt0 At0=>Aa (unA Tp .not t0) λt1=>Ai t1 (Q (.int .i64 1) At0) (Wc Tp Al W0 m0 91 [a0] At0 λt2 At2=>Aa (An Tp .neq 26 (.tmp 9) (.const (.int .i64 0)) t2 (.int .i64 0)) λt3=>Ai t3 (Q t2 At2) (Aa (AY a0) λt4=>Aa (Ad Tp 123 t4 0) λt5=>Aa (Ae Tp At2 23 t5) λt6=>Wc Tp Al W0 m0 92 [a0] At2 λt7 At7=>Aa (Ae Tp At7 23 t5) λt8=>eqW t8 t6 (Aa (Ad Tp 123 t4 0) λt9=>eqW t9 t5 (Aa (AY a0) λt10=>eqW t10 t4 (eqW a0 a0 (eqW a0 a0 (knW Tp W0 m0 78 [t7] At7 λt11 At11=>Aa (Ae Tp At11 23 t5) λt12=>eqW t12 t6 (Aa (Ad Tp 123 t4 0) λt13=>eqW t13 t5 (Aa (AY a0) λt14=>eqW t14 t4 (eqW a0 a0 (eqW a0 a0 (Wc Tp Al W0 m0 75 [t6,t11] At11 λt15 At15=>eqW a0 a0 (Wc Tp Al W0 m0 93 [a0,t15] At15 λt16 At16=>Q t16 At16)))))))))))))):=by kernel_rfl
theorem w45:Wf1 45 22 Tz Lz:=wf1 (λ_=>by kernel_rfl) (by decide) λ_=>rfl
noncomputable def T34:Nat->List Item:=λi=>match i with
 |0=>[(.code (cd 34 [1,1,1,1,1,1,1,1,1,1,1,1,1,0,1,0,0])),(.inLoop (cd 34 [1,1,1,1,1,1,1,1,1,1,1,1,1,0,1,0,0])),(.inBlock 0),(.code (cd 34 [1,1,1,1,1,1,1,1,1,1,1,1,1,1]))]
 |_=>[]
def L34:Nat->List Tmp:=λi=>match i with
 |0=>[0,107,108,109]
 |_=>[]
theorem Afg:gL W0 m0 S Q 34 126 T34 L34 d 0 A=(Aa (An Tp .lss 3 (.tmp 109) (.tmp 108) (d 109) (d 108)) λt0=>Ai t0 (Aa (Ar Tp 36 (d 107) (d 109)) λt1=>Aa (Ae Tp A 3 t1) λt2=>Aa (AY (d 0)) λt3=>Aa (Ad Tp 123 t3 0) λt4=>Aa (Ae Tp A 23 t4) λt5=>knW Tp W0 m0 78 [t2] A λt6 At6=>Aa (Ae Tp At6 23 t4) λt7=>eqW t7 t5 (Aa (Ad Tp 123 t3 0) λt8=>eqW t8 t4 (Aa (AY (d 0)) λt9=>eqW t9 t3 (eqW (d 0) (d 0) (Wc Tp Al W0 m0 70 [t5,t6] At6 λt10 At10=>Aa (An Tp .neq 26 (.tmp 120) (.const (.int .i64 0)) t10 (.int .i64 0)) λt11=>Ai t11 (Wc Tp Al W0 m0 93 [(d 0),t10] At10 λt12 At12=>Q t12 At12) (Aa (An Tp .add 3 (.tmp 109) (.const (.int .i64 1)) (d 109) (.int .i64 1)) λt13=>BE (T34 0) (T34 0) (S 0 [(d 0),(d 107),(d 108),t13] At10))))))) (Q (.int .i64 0) A)):=by kernel_rfl
theorem w34:Wf2 34 126 T34 L34:=wf2 (λ_ _=>by kernel_rfl) (by decide) λ_ _=>rfl
theorem c34:EN 34 126 T34 L34:=E7 (by decide)
theorem e29:gE W0 m0 S Q 29 10 Tz Lz [a0] A=(Wc Tp Al W0 m0 88 [a0] A λt0 At0=>Aa (unA Tp .not t0) λt1=>Ai t1 (Q (.string ⟨⟨[]⟩⟩) At0) (Aa (AY a0) λt2=>Aa (Ad Tp 123 t2 2) λt3=>Aa (Ae Tp At0 9 t3) λt4=>Q t4 At0)):=by kernel_rfl
theorem w29:Wf1 29 10 Tz Lz:=wf1 (λ_=>by kernel_rfl) (by decide) λ_=>rfl
theorem e32:gE W0 m0 S Q 32 11 Tz Lz [a0] A=(Wc Tp Al W0 m0 88 [a0] A λt0 At0=>Aa (unA Tp .not t0) λt1=>Ai t1 (Q (.slice none 0 0) At0) (Aa (AY a0) λt2=>Aa (Ad Tp 123 t2 3) λt3=>Aa (Ae Tp At0 60 t3) λt4=>Wc Tp Al W0 m0 83 [t4] At0 λt5 At5=>Q t5 At5)):=by kernel_rfl
theorem w32:Wf1 32 11 Tz Lz:=wf1 (λ_=>by kernel_rfl) (by decide) λ_=>rfl
theorem e65:gE W0 m0 S Q 65 25 Tz Lz [a0] A=(Wc Tp Al W0 m0 36 [a0] A λt0 At0=>Aa (unA Tp .not t0) λt1=>Ai t1 (Q (.pointer none) At0) (Aa (AY a0) λt2=>Aa (Ad Tp 68 t2 0) λt3=>Aa (Ae Tp At0 66 t3) λt4=>Aa (AY a0) λt5=>Aa (Ad Tp 68 t5 1) λt6=>Aa (Ae Tp At0 3 t6) λt7=>Aa (AY a0) λt8=>Aa (Ad Tp 68 t8 2) λt9=>Aa (Ae Tp At0 3 t9) λt10=>Aa (AY a0) λt11=>Aa (Ad Tp 68 t11 3) λt12=>Aa (Ae Tp At0 4 t12) λt13=>knW Tp W0 m0 129 [t4] At0 λt14 At14=>Aa (Ae Tp At14 4 t12) λt15=>eqW t15 t13 (Aa (Ad Tp 68 t11 3) λt16=>eqW t16 t12 (Aa (AY a0) λt17=>eqW t17 t11 (eqW a0 a0 (Aa (Ae Tp At14 3 t9) λt18=>eqW t18 t10 (Aa (Ad Tp 68 t8 2) λt19=>eqW t19 t9 (Aa (AY a0) λt20=>eqW t20 t8 (eqW a0 a0 (Aa (Ae Tp At14 3 t6) λt21=>eqW t21 t7 (Aa (Ad Tp 68 t5 1) λt22=>eqW t22 t6 (Aa (AY a0) λt23=>eqW t23 t5 (eqW a0 a0 (Aa (Bd Tp 68 [(0,t14),(1,t7),(2,t10),(3,t13)]) λt24=>Ao (CO At14 (Value.cells t24).toList 68) λt25 At25=>Cd (Bn Tp (λ_=>t24) (.box 68 (.tmp 0))) At25 t25 (Aa (Bd Tp 68 [(0,t14),(1,t7),(2,t10),(3,t13)]) λt26=>eqW t26 t24 (Aa (Ae Tp At25 4 t12) λt27=>eqW t27 t13 (Aa (Ad Tp 68 t11 3) λt28=>eqW t28 t12 (Aa (AY a0) λt29=>eqW t29 t11 (eqW a0 a0 (Aa (Ae Tp At25 3 t9) λt30=>eqW t30 t10 (Aa (Ad Tp 68 t8 2) λt31=>eqW t31 t9 (Aa (AY a0) λt32=>eqW t32 t8 (eqW a0 a0 (Aa (Ae Tp At25 3 t6) λt33=>eqW t33 t7 (Aa (Ad Tp 68 t5 1) λt34=>eqW t34 t6 (Aa (AY a0) λt35=>eqW t35 t5 (eqW a0 a0 (Aa (Ae Tp At25 66 t3) λt36=>eqW t36 t4 (Aa (Ad Tp 68 t2 0) λt37=>eqW t37 t3 (Aa (AY a0) λt38=>eqW t38 t2 (eqW a0 a0 (Q t25 At25)))))))))))))))))))))))))))))))):=by kernel_rfl
theorem w65:Wf1 65 25 Tz Lz:=wf1 (λ_=>by kernel_rfl) (by decide) λ_=>rfl
theorem e9:gE W0 m0 S Q 9 18 Tz Lz [a0,a1] A=(Wc Tp Al W0 m0 36 [a0] A λt0 At0=>Ai t0 (Aa (AY a0) λt1=>Aa (Ad Tp 68 t1 3) λt2=>Aa (Ae Tp At0 4 t2) λt3=>Aa (unA Tp .not t3) λt4=>Ai t4 (Aa (Uf a1 [(.int .i64 0)]) λt5=>Aa (AY a0) λt6=>Aa (Ad Tp 68 t6 2) λt7=>Be (Av Tp At0 3 t7 t5) λAt8=>Q (.tuple ⟨[]⟩) At8) (Q (.tuple ⟨[]⟩) At0)) (Q (.tuple ⟨[]⟩) At0)):=by kernel_rfl
theorem w9:Wf2 9 18 Tz Lz:=wf2 (λ_ _=>by kernel_rfl) (by decide) λ_ _=>rfl
theorem e10:gE W0 m0 S Q 10 10 Tz Lz [a0] A=(Wc Tp Al W0 m0 36 [a0] A λt0 At0=>Ai t0 (Aa (AY a0) λt1=>Aa (Ad Tp 68 t1 3) λt2=>Be (Av Tp At0 4 t2 (.bool true)) λAt3=>Aa (AY a0) λt4=>Aa (Ad Tp 68 t4 2) λt5=>Be (Av Tp At3 3 t5 (.int .i64 0)) λAt6=>Q (.tuple ⟨[]⟩) At6) (Q (.tuple ⟨[]⟩) At0)):=by kernel_rfl
theorem w10:Wf1 10 10 Tz Lz:=wf1 (λ_=>by kernel_rfl) (by decide) λ_=>rfl
theorem e54:gE W0 m0 S Q 54 12 Tz Lz [a0] A=(Wc Tp Al W0 m0 36 [a0] A λt0 At0=>Aa (unA Tp .not t0) λt1=>Ai t1 (Q (.bool true) At0) (Aa (AY a0) λt2=>Aa (Ad Tp 68 t2 3) λt3=>Aa (Ae Tp At0 4 t3) λt4=>Q t4 At0)):=by kernel_rfl
theorem w54:Wf1 54 12 Tz Lz:=wf1 (λ_=>by kernel_rfl) (by decide) λ_=>rfl
noncomputable def T11:Nat->List Item:=λi=>match i with
 |0=>[(.code (cd 11 [1,1,1,0,0])),(.inLoop (cd 11 [1,1,1,0,0])),(.inBlock 0)]
 |_=>[]
def L11:Nat->List Tmp:=λi=>match i with
 |0=>[0,1,22,23,24]
 |_=>[]
theorem e11:gE W0 m0 S Q 11 67 T11 L11 [a0,a1] A=(Wc Tp Al W0 m0 36 [a0] A λt0 At0=>Aa (unA Tp .not t0) λt1=>Ai t1 (Q (.tuple ⟨[]⟩) At0) (Aa (AY a0) λt2=>Aa (Ad Tp 68 t2 3) λt3=>Aa (Ae Tp At0 4 t3) λt4=>Aa (unA Tp .not t4) λt5=>Ai t5 (Q (.tuple ⟨[]⟩) At0) (Aa (AY a0) λt6=>Aa (Ad Tp 68 t6 3) λt7=>Be (Av Tp At0 4 t7 (.bool false)) λAt8=>Wc Tp Al W0 m0 37 [a0] At8 λt9 At9=>Aa (Bi Tp At9 86 t9) λt10=>BE (T11 0) (T11 0) (S 0 [a0,a1,t9,t10,(.int .i64 0)] At9)))):=by kernel_rfl
theorem Afn:gL W0 m0 S Q 11 67 T11 L11 d 0 A=(Aa (An Tp .lss 3 (.tmp 24) (.tmp 23) (d 24) (d 23)) λt0=>Ai t0 (Aa (Ar Tp 86 (d 22) (d 24)) λt1=>Aa (Ae Tp A 9 t1) λt2=>Aa (AY (d 0)) λt3=>Aa (Ad Tp 68 t3 0) λt4=>Aa (Ae Tp A 66 t4) λt5=>Aa (Cu Tp A 66 t5 t2 false) λt6=>Ao (BB Tp A 89) λt7 At7=>Be (Av Tp At7 89 t7 t6) λAt8=>Aa (Ad Tp 89 t7 1) λt9=>Aa (Ae Tp At8 3 t9) λt10=>Aa (Bi Tp At8 36 (d 1)) λt11=>Aa (An Tp .lss 3 (.tmp 37) (.tmp 39) (d 24) t11) λt12=>Ai t12 (Aa (Ar Tp 36 (d 1) (d 24)) λt13=>Aa (Ae Tp At8 3 t13) λt14=>Aa (Uf t14 [(.int .i64 0)]) λt15=>Aa (Ad Tp 89 t7 0) λt16=>Aa (Ae Tp At8 9 t16) λt17=>Aa (Bi Tp At8 9 t17) λt18=>Aa (Ad Tp 89 t7 1) λt19=>Aa (Ae Tp At8 3 t19) λt20=>Aa (An Tp .sub 3 (.tmp 49) (.tmp 51) t18 t20) λt21=>Aa (Wn t15 [t21]) λt22=>Aa (An Tp .add 3 (.tmp 41) (.tmp 53) t10 t22) λt23=>Aa (AY (d 0)) λt24=>Aa (Ad Tp 68 t24 0) λt25=>Aa (Ae Tp At8 66 t25) λt26=>Aa (Ad Tp 89 t7 0) λt27=>Aa (Ae Tp At8 9 t27) λt28=>Aa (AX Tp At8 9 t28 none (some t23) none) λt29=>Aa (Bd Tp 89 [(0,t29),(1,t23)]) λt30=>Be (Cp Tp At8 66 t26 t2 t30) λAt31=>Aa (An Tp .add 3 (.tmp 24) (.const (.int .i64 1)) (d 24) (.int .i64 1)) λt32=>BE (T11 0) (T11 0) (S 0 [(d 0),(d 1),(d 22),(d 23),t32] At31)) (Aa (AY (d 0)) λt33=>Aa (Ad Tp 68 t33 0) λt34=>Aa (Ae Tp At8 66 t34) λt35=>Aa (Ad Tp 89 t7 0) λt36=>Aa (Ae Tp At8 9 t36) λt37=>Aa (AX Tp At8 9 t37 none (some t10) none) λt38=>Aa (Bd Tp 89 [(0,t38),(1,t10)]) λt39=>Be (Cp Tp At8 66 t35 t2 t39) λAt40=>Aa (An Tp .add 3 (.tmp 24) (.const (.int .i64 1)) (d 24) (.int .i64 1)) λt41=>BE (T11 0) (T11 0) (S 0 [(d 0),(d 1),(d 22),(d 23),t41] At40))) (Q (.tuple ⟨[]⟩) A)):=by kernel_rfl
theorem w11:Wf2 11 67 T11 L11:=wf2 (λ_ _=>by kernel_rfl) (by decide) λ_ _=>rfl
theorem c11:EN 11 67 T11 L11:=E7 (by decide)
noncomputable def T66:Nat->List Item:=λi=>match i with
 |0=>[(.code (cd 66 [1,1,0,1,0,0])),(.inLoop (cd 66 [1,1,0,1,0,0])),(.inBlock 0),(.code (cd 66 [1,1,1]))]
 |_=>[]
def L66:Nat->List Tmp:=λi=>match i with
 |0=>[0,4,12,13,14]
 |_=>[]
theorem e66:gE W0 m0 S Q 66 48 T66 L66 [a0] A=(Wc Tp Al W0 m0 37 [a0] A λt0 At0=>Aa (Bi Tp At0 86 t0) λt1=>BE (T66 0) (T66 0) (S 0 [a0,(.slice none 0 0),t0,t1,(.int .i64 0)] At0)):=by kernel_rfl
theorem Afa:gL W0 m0 S Q 66 48 T66 L66 d 0 A=(Aa (An Tp .lss 3 (.tmp 14) (.tmp 13) (d 14) (d 13)) λt0=>Ai t0 (Aa (Ar Tp 86 (d 12) (d 14)) λt1=>Aa (Ae Tp A 9 t1) λt2=>knW Tp W0 m0 130 [t2] A λt3 At3=>Aa (An Tp .eql 3 (.tmp 20) (.const (.int .i64 0)) t3 (.int .i64 0)) λt4=>Ai t4 (Aa (An Tp .add 3 (.tmp 14) (.const (.int .i64 1)) (d 14) (.int .i64 1)) λt5=>BE (T66 0) (T66 0) (S 0 [(d 0),(d 4),(d 12),(d 13),t5] At3)) (Wc Tp Al W0 m0 55 [(d 0),t2] At3 λt6 At6=>Aa (Ap t6 0) λt7=>Aa (Ap t6 1) λt8=>Aa (An Tp .neq 26 (.tmp 28) (.const (.int .i64 0)) t8 (.int .i64 0)) λt9=>Ai t9 (Q (.tuple ⟨[(.slice none 0 0),t8]⟩) At6) (Aa (Bd Tp 131 [(0,t3)]) λt10=>Ao (BB Tp At6 131) λt11 At11=>Be (Av Tp At11 131 t11 t10) λAt12=>Wc Tp Al W0 m0 131 [t7] At12 λt13 At13=>Aa (Ap t13 0) λt14=>Aa (Ap t13 1) λt15=>Aa (Ap t13 2) λt16=>Aa (Ad Tp 131 t11 1) λt17=>Be (Av Tp At13 60 t17 t14) λAt18=>Aa (Ad Tp 131 t11 2) λt19=>Be (Av Tp At18 3 t19 t15) λAt20=>Aa (Ad Tp 131 t11 3) λt21=>Be (Av Tp At20 129 t21 t16) λAt22=>Aa (Ae Tp At22 131 t11) λt23=>Ao (Aq Tp At22 117 1 [(0,t23)]) λt24 At24=>Ao (AU Tp At24 117 117 (d 4) t24) λt25 At25=>Aa (An Tp .add 3 (.tmp 14) (.const (.int .i64 1)) (d 14) (.int .i64 1)) λt26=>BE (T66 0) (T66 0) (S 0 [(d 0),t25,(d 12),(d 13),t26] At25)))) (Q (.tuple ⟨[(d 4),(.int .i64 0)]⟩) A)):=by kernel_rfl
theorem w66:Wf1 66 48 T66 L66:=wf1 (λ_=>by kernel_rfl) (by decide) λ_=>rfl
theorem c66:EN 66 48 T66 L66:=E7 (by decide)
noncomputable def T67:Nat->List Item:=λi=>match i with
 |0=>[(.code (cd 67 [1,1,0,0,0])),(.inLoop (cd 67 [1,1,0,0,0])),(.inBlock 0),(.code (cd 67 [1,1,1]))]
 |2=>[(.code (cd 67 [1,1,1,1,1,0,1,0,0])),(.inLoop (cd 67 [1,1,1,1,1,0,1,0,0])),(.inBlock 2),(.code (cd 67 [1,1,1,1,1,1]))]
 |4=>[(.code (cd 67 [1,1,1,1,1,0,1,0,0,1,1,0,0,1,1,1,1,0,0])),(.inLoop (cd 67 [1,1,1,1,1,0,1,0,0,1,1,0,0,1,1,1,1,0,0])),(.inBlock 4),(.inBlock 3),(.code (cd 67 [1,1,1,1,1,0,1,0,0,1,1,1])),(.inLoop (cd 67 [1,1,1,1,1,0,1,0,0])),(.inBlock 2),(.code (cd 67 [1,1,1,1,1,1]))]
 |_=>[]
def L67:Nat->List Tmp:=λi=>match i with
 |0=>[0,5]
 |2=>[5,6,35,36,37]
 |4=>[5,6,7,35,36,37,71,72,73]
 |_=>[]
theorem e67:gE W0 m0 S Q 67 91 T67 L67 [a0] A=(Aa (Bi Tp A 117 a0) λt0=>Aa (An Tp .sub 3 (.tmp 13) (.const (.int .i64 1)) t0 (.int .i64 1)) λt1=>BE (T67 0) (T67 0) (S 0 [a0,t1] A)):=by kernel_rfl
theorem Ae9:gL W0 m0 S Q 67 91 T67 L67 d 0 A=(Aa (An Tp .geq 3 (.tmp 15) (.const (.int .i64 0)) (d 5) (.int .i64 0)) λt0=>Ai t0 (Aa (Ar Tp 117 (d 0) (d 5)) λt1=>Aa (Ae Tp A 131 t1) λt2=>Wc Tp Al W0 m0 132 [t2] A λt3 At3=>Aa (unA Tp .not t3) λt4=>Ai t4 (Aa (An Tp .sub 3 (.tmp 25) (.const (.int .i64 1)) (d 5) (.int .i64 1)) λt5=>BE (T67 0) (T67 0) (S 0 [(d 0),t5] At3)) (Aa (An Tp .lss 3 (.tmp 27) (.const (.int .i64 0)) (d 5) (.int .i64 0)) λt6=>Ai t6 (Aa (Bi Tp At3 117 (d 0)) λt7=>Aa (An Tp .eql 3 (.tmp 30) (.const (.int .i64 0)) t7 (.int .i64 0)) λt8=>Q (.tuple ⟨[(.slice none 0 0),(.int .i64 0),t8]⟩) At3) (Aa (AX Tp At3 117 (d 0) (some (d 5)) none none) λt9=>Aa (Bi Tp At3 117 t9) λt10=>BE (T67 2) (T67 2) (S 2 [(d 5),t9,t9,t10,(.int .i64 0)] At3)))) (Aa (An Tp .lss 3 (.tmp 27) (.const (.int .i64 0)) (d 5) (.int .i64 0)) λt11=>Ai t11 (Aa (Bi Tp A 117 (d 0)) λt12=>Aa (An Tp .eql 3 (.tmp 30) (.const (.int .i64 0)) t12 (.int .i64 0)) λt13=>Q (.tuple ⟨[(.slice none 0 0),(.int .i64 0),t13]⟩) A) (Aa (AX Tp A 117 (d 0) (some (d 5)) none none) λt14=>Aa (Bi Tp A 117 t14) λt15=>BE (T67 2) (T67 2) (S 2 [(d 5),t14,t14,t15,(.int .i64 0)] A)))):=by kernel_rfl
theorem Ae8:gL W0 m0 S Q 67 91 T67 L67 d 2 A=(Aa (An Tp .lss 3 (.tmp 37) (.tmp 36) (d 37) (d 36)) λt0=>Ai t0 (Aa (Ar Tp 117 (d 35) (d 37)) λt1=>Aa (Ae Tp A 131 t1) λt2=>Ao (BB Tp A 131) λt3 At3=>Be (Av Tp At3 131 t3 t2) λAt4=>Aa (Bi Tp At4 117 (d 6)) λt5=>Aa (An Tp .sub 3 (.tmp 44) (.const (.int .i64 1)) t5 (.int .i64 1)) λt6=>Aa (An Tp .eql 3 (.tmp 42) (.tmp 45) (d 37) t6) λt7=>Aa (Ad Tp 131 t3 0) λt8=>Aa (Ae Tp At4 3 t8) λt9=>Aa (Ar Tp 117 (d 6) (.int .i64 0)) λt10=>Aa (Ad Tp 131 t10 0) λt11=>Aa (Ae Tp At4 3 t11) λt12=>Aa (An Tp .add 3 (.tmp 52) (.tmp 53) t12 (d 37)) λt13=>Aa (An Tp .neq 3 (.tmp 48) (.tmp 54) t9 t13) λt14=>Ai t14 (Q (.tuple ⟨[(.slice none 0 0),(.int .i64 0),(.bool false)]⟩) At4) (Aa (unA Tp .not t7) λt15=>Ai t15 (Aa (Ad Tp 131 t3 3) λt16=>Aa (Ae Tp At4 129 t16) λt17=>Aa (An Tp .neq 129 (.tmp 61) (.const (.int .u8 0)) t17 (.int .u8 0)) λt18=>Ai t18 (Q (.tuple ⟨[(.slice none 0 0),(.int .i64 0),(.bool false)]⟩) At4) (Aa (Ad Tp 131 t3 3) λt19=>Aa (Ae Tp At4 129 t19) λt20=>Aa (An Tp .eql 129 (.tmp 67) (.const (.int .u8 2)) t20 (.int .u8 2)) λt21=>Ai t21 (Q (.tuple ⟨[(.slice none 0 0),(.int .i64 0),(.bool false)]⟩) At4) (Aa (Ad Tp 131 t3 1) λt22=>Aa (Ae Tp At4 60 t22) λt23=>Aa (Bi Tp At4 60 t23) λt24=>BE (T67 4) (T67 4) (S 4 [(d 5),(d 6),(d 37),(d 35),(d 36),(d 37),t23,t24,(.int .i64 0)] At4)))) (Aa (Ad Tp 131 t3 3) λt25=>Aa (Ae Tp At4 129 t25) λt26=>Aa (An Tp .eql 129 (.tmp 67) (.const (.int .u8 2)) t26 (.int .u8 2)) λt27=>Ai t27 (Q (.tuple ⟨[(.slice none 0 0),(.int .i64 0),(.bool false)]⟩) At4) (Aa (Ad Tp 131 t3 1) λt28=>Aa (Ae Tp At4 60 t28) λt29=>Aa (Bi Tp At4 60 t29) λt30=>BE (T67 4) (T67 4) (S 4 [(d 5),(d 6),(d 37),(d 35),(d 36),(d 37),t29,t30,(.int .i64 0)] At4))))) (Q (.tuple ⟨[(d 6),(d 5),(.bool true)]⟩) A)):=by kernel_rfl
theorem Ae7:gL W0 m0 S Q 67 91 T67 L67 d 4 A=(Aa (An Tp .lss 3 (.tmp 73) (.tmp 72) (d 73) (d 72)) λt0=>Ai t0 (Aa (Ar Tp 60 (d 71) (d 73)) λt1=>Aa (Ae Tp A 80 t1) λt2=>Ao (BB Tp A 80) λt3 At3=>Be (Av Tp At3 80 t3 t2) λAt4=>Aa (Ad Tp 80 t3 0) λt5=>Aa (Ae Tp At4 5 t5) λt6=>Aa (An Tp .eql 5 (.tmp 79) (.const (.int .u8 0)) t6 (.int .u8 0)) λt7=>Ai t7 (Aa (An Tp .add 3 (.tmp 82) (.tmp 83) (d 7) (d 73)) λt8=>Aa (An Tp .gtr 3 (.tmp 84) (.const (.int .i64 0)) t8 (.int .i64 0)) λt9=>Ai t9 (Q (.tuple ⟨[(.slice none 0 0),(.int .i64 0),(.bool false)]⟩) At4) (Aa (An Tp .add 3 (.tmp 73) (.const (.int .i64 1)) (d 73) (.int .i64 1)) λt10=>BE (T67 4) (T67 4) (S 4 [(d 5),(d 6),(d 7),(d 35),(d 36),(d 37),(d 71),(d 72),t10] At4))) (Aa (An Tp .add 3 (.tmp 73) (.const (.int .i64 1)) (d 73) (.int .i64 1)) λt11=>BE (T67 4) (T67 4) (S 4 [(d 5),(d 6),(d 7),(d 35),(d 36),(d 37),(d 71),(d 72),t11] At4))) (Aa (An Tp .add 3 (.tmp 37) (.const (.int .i64 1)) (d 37) (.int .i64 1)) λt12=>BE (T67 2) (T67 2) (S 2 [(d 5),(d 6),(d 35),(d 36),t12] A))):=by kernel_rfl
theorem w67:Wf1 67 91 T67 L67:=wf1 (λ_=>by kernel_rfl) (by decide) λ_=>rfl
theorem c67:EN 67 91 T67 L67:=E7 (by decide)
theorem e68:gE W0 m0 S Q 68 9 Tz Lz [a0,a1] A=(Wc Tp Al W0 m0 133 [a0,a1] A λt0 At0=>Aa (An Tp .geq 3 (.tmp 7) (.const (.int .i64 0)) t0 (.int .i64 0)) λt1=>Q t1 At0):=by kernel_rfl
theorem w68:Wf2 68 9 Tz Lz:=wf2 (λ_ _=>by kernel_rfl) (by decide) λ_ _=>rfl
noncomputable def Tw:Nat->List Item:=λi=>match i with
 |0=>[(.code (cd 133 [1,0,1,0,0])),(.inLoop (cd 133 [1,0,1,0,0])),(.inBlock 0),(.code (cd 133 [1,1]))]
 |_=>[]
def ZJ:Nat->List Tmp:=λi=>match i with
 |0=>[0,1,7,8]
 |_=>[]
theorem AiE:gE W0 m0 S Q 133 19 Tw ZJ [a0,a1] A=(Aa (Bi Tp A 86 a0) λt0=>BE (Tw 0) (Tw 0) (S 0 [a0,a1,t0,(.int .i64 0)] A)):=by kernel_rfl
theorem Ac5:gL W0 m0 S Q 133 19 Tw ZJ d 0 A=(Aa (An Tp .lss 3 (.tmp 8) (.tmp 7) (d 8) (d 7)) λt0=>Ai t0 (Aa (Ar Tp 86 (d 0) (d 8)) λt1=>Aa (Ae Tp A 9 t1) λt2=>Aa (An Tp .eql 9 (.tmp 11) (.tmp 15) (d 1) t2) λt3=>Ai t3 (Q (d 8) A) (Aa (An Tp .add 3 (.tmp 8) (.const (.int .i64 1)) (d 8) (.int .i64 1)) λt4=>BE (Tw 0) (Tw 0) (S 0 [(d 0),(d 1),(d 7),t4] A))) (Q (.int .i64 (-1)) A)):=by kernel_rfl
theorem Ahi:Wf2 133 19 Tw ZJ:=wf2 (λ_ _=>by kernel_rfl) (by decide) λ_ _=>rfl
theorem AiV:EN 133 19 Tw ZJ:=E7 (by decide)
theorem e69:gE W0 m0 S Q 69 4 Tz Lz [a0] A=(Aa (Ae Tp A 23 a0) λt0=>Wc Tp Al W0 m0 70 [t0,(.string ⟨⟨[106,46,110,101,119]⟩⟩)] A λt1 At1=>Q t1 At1):=by kernel_rfl
theorem w69:Wf1 69 4 Tz Lz:=wf1 (λ_=>by kernel_rfl) (by decide) λ_=>rfl
theorem e70:gE W0 m0 S Q 70 27 Tz Lz [a0,a1] A=(Ao (CO A (Value.cells a0).toList 23) λt0 At0=>Ao (CO At0 (Value.cells a1).toList 9) λt1 At1=>Aa (Ae Tp At1 23 t0) λt2=>Wc Tp Al W0 m0 134 [t2] At1 λt3 At3=>Aa (An Tp .neq 26 (.tmp 10) (.const (.int .i64 0)) t3 (.int .i64 0)) λt4=>Ai t4 (Q t3 At3) (Ao (BB Tp At3 89) λt5 At5=>Cd (Bn Tp (λ_=>undef) (.alloc 89)) At5 t5 (Aa (Ae Tp At5 23 t0) λt6=>Aa (AY t6) λt7=>Aa (Ad Tp 68 t7 0) λt8=>Aa (Ae Tp At5 66 t8) λt9=>Aa (Ae Tp At5 9 t1) λt10=>Aa (Cu Tp At5 66 t9 t10 true) λt11=>Aa (Ap t11 0) λt12=>Aa (Ap t11 1) λt13=>Be (Av Tp At5 89 t5 t12) λAt14=>Aa (Ap t11 1) λt15=>eqW t15 t13 (Aa (unA Tp .not t13) λt16=>Ai t16 (Q (.int .i64 7) At14) (Aa (Ae Tp At14 23 t0) λt17=>Wc Tp Al W0 m0 135 [t17,(.func (.func 136) ⟨[]⟩ ⟨[t0,t1]⟩),(.bool false)] At14 λt18 At18=>Q t18 At18))))):=by kernel_rfl
theorem w70:Wf2 70 27 Tz Lz:=wf2 (λ_ _=>by kernel_rfl) (by decide) λ_ _=>rfl
theorem e71:gE W0 m0 S Q 71 13 Tz Lz [a0] A=(Aa (Bd Tp 80 [(1,a0)]) λt0=>Ao (Aq Tp A 60 1 [(0,t0)]) λt1 At1=>Wc Tp Al W0 m0 100 [t1] At1 λt2 At2=>Aa (Ap t2 0) λt3=>Aa (Ap t2 1) λt4=>Q t3 At2):=by kernel_rfl
theorem w71:Wf1 71 13 Tz Lz:=wf1 (λ_=>by kernel_rfl) (by decide) λ_=>rfl
theorem e72:gE W0 m0 S Q 72 5 Tz Lz [a0] A=(Aa (Ae Tp A 23 a0) λt0=>Wc Tp Al W0 m0 71 [(.string ⟨⟨[]⟩⟩)] A λt1 At1=>Aa (Ae Tp At1 23 a0) λt2=>eqW t2 t0 (Wc Tp Al W0 m0 73 [t0,(.string ⟨⟨[106,46,110,101,119]⟩⟩),t1] At1 λt3 At3=>Q t3 At3)):=by kernel_rfl
theorem w72:Wf1 72 5 Tz Lz:=wf1 (λ_=>by kernel_rfl) (by decide) λ_=>rfl
theorem e74:gE W0 m0 S Q 74 4 Tz Lz [a0] A=(Aa (Ae Tp A 23 a0) λt0=>Wc Tp Al W0 m0 75 [t0,(.string ⟨⟨[106,46,110,101,119]⟩⟩)] A λt1 At1=>Q t1 At1):=by kernel_rfl
theorem w74:Wf1 74 4 Tz Lz:=wf1 (λ_=>by kernel_rfl) (by decide) λ_=>rfl
theorem e75:gE W0 m0 S Q 75 27 Tz Lz [a0,a1] A=(Ao (CO A (Value.cells a0).toList 23) λt0 At0=>Ao (CO At0 (Value.cells a1).toList 9) λt1 At1=>Aa (Ae Tp At1 23 t0) λt2=>Wc Tp Al W0 m0 134 [t2] At1 λt3 At3=>Aa (An Tp .neq 26 (.tmp 10) (.const (.int .i64 0)) t3 (.int .i64 0)) λt4=>Ai t4 (Q t3 At3) (Ao (BB Tp At3 89) λt5 At5=>Cd (Bn Tp (λ_=>undef) (.alloc 89)) At5 t5 (Aa (Ae Tp At5 23 t0) λt6=>Aa (AY t6) λt7=>Aa (Ad Tp 68 t7 0) λt8=>Aa (Ae Tp At5 66 t8) λt9=>Aa (Ae Tp At5 9 t1) λt10=>Aa (Cu Tp At5 66 t9 t10 true) λt11=>Aa (Ap t11 0) λt12=>Aa (Ap t11 1) λt13=>Be (Av Tp At5 89 t5 t12) λAt14=>Aa (Ap t11 1) λt15=>eqW t15 t13 (Aa (unA Tp .not t13) λt16=>Ai t16 (Q (.int .i64 7) At14) (Aa (Ae Tp At14 23 t0) λt17=>Wc Tp Al W0 m0 135 [t17,(.func (.func 140) ⟨[]⟩ ⟨[t5,t0,t1]⟩),(.bool false)] At14 λt18 At18=>Q t18 At18))))):=by kernel_rfl
theorem w75:Wf2 75 27 Tz Lz:=wf2 (λ_ _=>by kernel_rfl) (by decide) λ_ _=>rfl
theorem e76:gE W0 m0 S Q 76 5 Tz Lz [a0] A=(Aa (Ae Tp A 23 a0) λt0=>knW Tp W0 m0 78 [(.int .i64 1)] A λt1 At1=>Aa (Ae Tp At1 23 a0) λt2=>eqW t2 t0 (Wc Tp Al W0 m0 77 [t0,(.string ⟨⟨[106,46,110,101,119]⟩⟩),t1] At1 λt3 At3=>Q t3 At3)):=by kernel_rfl
theorem w76:Wf1 76 5 Tz Lz:=wf1 (λ_=>by kernel_rfl) (by decide) λ_=>rfl
theorem e77:gE W0 m0 S Q 77 37 Tz Lz [a0,a1,a2] A=(Ao (CO A (Value.cells a0).toList 23) λt0 At0=>Ao (CO At0 (Value.cells a1).toList 9) λt1 At1=>Ao (CO At1 (Value.cells a2).toList 9) λt2 At2=>Aa (Ae Tp At2 23 t0) λt3=>Wc Tp Al W0 m0 134 [t3] At2 λt4 At4=>Aa (An Tp .neq 26 (.tmp 12) (.const (.int .i64 0)) t4 (.int .i64 0)) λt5=>Ai t5 (Q t4 At4) (Aa (Ae Tp At4 9 t1) λt6=>Wc Tp Al W0 m0 137 [t6] At4 λt7 At7=>Aa (unA Tp .not t7) λt8=>Ai t8 (Q (.int .i64 2) At7) (Aa (Ae Tp At7 9 t2) λt9=>Wc Tp Al W0 m0 137 [t9] At7 λt10 At10=>Aa (unA Tp .not t10) λt11=>Ai t11 (Q (.int .i64 2) At10) (Ao (BB Tp At10 89) λt12 At12=>Cd (Bn Tp (λ_=>undef) (.alloc 89)) At12 t12 (Aa (Ae Tp At12 23 t0) λt13=>Aa (AY t13) λt14=>Aa (Ad Tp 68 t14 0) λt15=>Aa (Ae Tp At12 66 t15) λt16=>Aa (Ae Tp At12 9 t1) λt17=>Aa (Cu Tp At12 66 t16 t17 true) λt18=>Aa (Ap t18 0) λt19=>Aa (Ap t18 1) λt20=>Be (Av Tp At12 89 t12 t19) λAt21=>Aa (Ap t18 1) λt22=>eqW t22 t20 (Aa (unA Tp .not t20) λt23=>Ai t23 (Q (.int .i64 7) At21) (Aa (Ae Tp At21 23 t0) λt24=>Wc Tp Al W0 m0 135 [t24,(.func (.func 141) ⟨[]⟩ ⟨[t0,t1,t12,t2]⟩),(.bool false)] At21 λt25 At25=>Q t25 At25))))))):=by kernel_rfl
theorem w77:Wf3 77 37 Tz Lz:=wf3 (λ_ _ _=>by kernel_rfl) (by decide) λ_ _ _=>rfl
theorem e79:gE W0 m0 S Q 79 8 Tz Lz [a0,a1] A=(Aa (Ae Tp A 23 a0) λt0=>Aa (Ad Tp 131 a1 0) λt1=>Aa (Ae Tp A 3 t1) λt2=>knW Tp W0 m0 78 [t2] A λt3 At3=>Aa (Ae Tp At3 23 a0) λt4=>eqW t4 t0 (Wc Tp Al W0 m0 70 [t0,t3] At3 λt5 At5=>Q t5 At5)):=by kernel_rfl
theorem w79:Wf2 79 8 Tz Lz:=wf2 (λ_ _=>by kernel_rfl) (by decide) λ_ _=>rfl
theorem e80:gE W0 m0 S Q 80 10 Tz Lz [a0,a1] A=(Aa (Ae Tp A 23 a0) λt0=>Aa (Ad Tp 131 a1 0) λt1=>Aa (Ae Tp A 3 t1) λt2=>Aa (Ad Tp 131 a1 2) λt3=>Aa (Ae Tp A 3 t3) λt4=>knW Tp W0 m0 78 [t2] A λt5 At5=>Aa (Ae Tp At5 3 t3) λt6=>eqW t6 t4 (Aa (Ad Tp 131 a1 2) λt7=>eqW t7 t3 (Aa (Ae Tp At5 23 a0) λt8=>eqW t8 t0 (Wc Tp Al W0 m0 81 [t0,t5,t4] At5 λt9 At9=>Q t9 At9)))):=by kernel_rfl
theorem w80:Wf2 80 10 Tz Lz:=wf2 (λ_ _=>by kernel_rfl) (by decide) λ_ _=>rfl
theorem e81:gE W0 m0 S Q 81 39 Tz Lz [a0,a1,a2] A=(Ao (CO A (Value.cells a0).toList 23) λt0 At0=>Ao (CO At0 (Value.cells a1).toList 9) λt1 At1=>Ao (CO At1 (Value.cells a2).toList 3) λt2 At2=>Aa (Ae Tp At2 23 t0) λt3=>Wc Tp Al W0 m0 134 [t3] At2 λt4 At4=>Aa (An Tp .neq 26 (.tmp 12) (.const (.int .i64 0)) t4 (.int .i64 0)) λt5=>Ai t5 (Q t4 At4) (Ao (BB Tp At4 89) λt6 At6=>Cd (Bn Tp (λ_=>undef) (.alloc 89)) At6 t6 (Aa (Ae Tp At6 23 t0) λt7=>Aa (AY t7) λt8=>Aa (Ad Tp 68 t8 0) λt9=>Aa (Ae Tp At6 66 t9) λt10=>Aa (Ae Tp At6 9 t1) λt11=>Aa (Cu Tp At6 66 t10 t11 true) λt12=>Aa (Ap t12 0) λt13=>Aa (Ap t12 1) λt14=>Be (Av Tp At6 89 t6 t13) λAt15=>Aa (Ap t12 1) λt16=>eqW t16 t14 (Aa (Ae Tp At15 3 t2) λt17=>Aa (An Tp .lss 3 (.tmp 25) (.const (.int .i64 0)) t17 (.int .i64 0)) λt18=>Ai t18 (Q (.int .i64 2) At15) (Aa (unA Tp .not t14) λt19=>Ai t19 (Q (.int .i64 7) At15) (Aa (Ae Tp At15 3 t2) λt20=>Aa (Ad Tp 89 t6 0) λt21=>Aa (Ae Tp At15 9 t21) λt22=>Aa (Bi Tp At15 9 t22) λt23=>Aa (An Tp .gtr 3 (.tmp 31) (.tmp 34) t20 t23) λt24=>Ai t24 (Q (.int .i64 2) At15) (Aa (Ae Tp At15 23 t0) λt25=>Wc Tp Al W0 m0 135 [t25,(.func (.func 145) ⟨[]⟩ ⟨[t6,t2,t0,t1]⟩),(.bool false)] At15 λt26 At26=>Q t26 At26))))))):=by kernel_rfl
theorem w81:Wf3 81 39 Tz Lz:=wf3 (λ_ _ _=>by kernel_rfl) (by decide) λ_ _ _=>rfl
theorem e82:gE W0 m0 S Q 82 8 Tz Lz [a0,a1] A=(Aa (Ae Tp A 23 a0) λt0=>Aa (Ad Tp 131 a1 0) λt1=>Aa (Ae Tp A 3 t1) λt2=>knW Tp W0 m0 78 [t2] A λt3 At3=>Aa (Ae Tp At3 23 a0) λt4=>eqW t4 t0 (Wc Tp Al W0 m0 75 [t0,t3] At3 λt5 At5=>Q t5 At5)):=by kernel_rfl
theorem w82:Wf2 82 8 Tz Lz:=wf2 (λ_ _=>by kernel_rfl) (by decide) λ_ _=>rfl
theorem e83:gE W0 m0 S Q 83 8 Tz Lz [a0] A=(Aa (An Tp .eql 60 (.tmp 3) (.const (.slice none 0 0)) a0 (.slice none 0 0)) λt0=>Ai t0 (Q (.slice none 0 0) A) (Ao (Aq Tp A 60 0 []) λt1 At1=>Ao (AU Tp At1 60 60 t1 a0) λt2 At2=>Q t2 At2)):=by kernel_rfl
theorem w83:Wf1 83 8 Tz Lz:=wf1 (λ_=>by kernel_rfl) (by decide) λ_=>rfl
theorem e88:gE W0 m0 S Q 88 12 Tz Lz [a0] A=(Aa (An Tp .neq 69 (.tmp 3) (.const (.pointer none)) a0 (.pointer none)) λt0=>Ai t0 (Aa (AY a0) λt1=>Aa (Ad Tp 123 t1 0) λt2=>Aa (Ae Tp A 23 t2) λt3=>Aa (An Tp .neq 23 (.tmp 9) (.const (.pointer none)) t3 (.pointer none)) λt4=>Q t4 A) (Q (.bool false) A)):=by kernel_rfl
theorem w88:Wf1 88 12 Tz Lz:=wf1 (λ_=>by kernel_rfl) (by decide) λ_=>rfl
theorem e91:gE W0 m0 S Q 91 7 Tz Lz [a0] A=(Aa (AY a0) λt0=>Aa (Ad Tp 123 t0 7) λt1=>Aa (Ae Tp A 4 t1) λt2=>Ai t2 (Q (.int .i64 100) A) (Q (.int .i64 0) A)):=by kernel_rfl
theorem w91:Wf1 91 7 Tz Lz:=wf1 (λ_=>by kernel_rfl) (by decide) λ_=>rfl
noncomputable def Ty:Nat->List Item:=λi=>match i with
 |0=>[(.code (cd 100 [1,1,0,1,0,0])),(.inLoop (cd 100 [1,1,0,1,0,0])),(.inBlock 0),(.code (cd 100 [1,1,1]))]
 |_=>[]
def ZL:Nat->List Tmp:=λi=>match i with
 |0=>[4,7,8,9]
 |_=>[]
theorem AiM:gE W0 m0 S Q 100 37 Ty ZL [a0] A=(Aa (Bi Tp A 60 a0) λt0=>BE (Ty 0) (Ty 0) (S 0 [(.slice none 0 0),a0,t0,(.int .i64 0)] A)):=by kernel_rfl
theorem Ac7:gL W0 m0 S Q 100 37 Ty ZL d 0 A=(Aa (An Tp .lss 3 (.tmp 9) (.tmp 8) (d 9) (d 8)) λt0=>Ai t0 (Aa (Ar Tp 60 (d 7) (d 9)) λt1=>Aa (Ae Tp A 80 t1) λt2=>Ao (BB Tp A 80) λt3 At3=>Be (Av Tp At3 80 t3 t2) λAt4=>Aa (Ad Tp 80 t3 1) λt5=>Aa (Ae Tp At4 9 t5) λt6=>Aa (Bi Tp At4 9 t6) λt7=>Aa (An Tp .gtr 3 (.tmp 15) (.const (.int .i64 65536)) t7 (.int .i64 65536)) λt8=>Ai t8 (Q (.tuple ⟨[(.string ⟨⟨[]⟩⟩),(.int .i64 3)]⟩) At4) (Aa (Ad Tp 80 t3 0) λt9=>Aa (Ae Tp At4 5 t9) λt10=>Ao (Aq Tp At4 92 1 [(0,t10)]) λt11 At11=>Aa (Ad Tp 80 t3 1) λt12=>Aa (Ae Tp At11 9 t12) λt13=>Aa (Bi Tp At11 9 t13) λt14=>Ao (AQ Tp At11 3 136 t14) λt15 At15=>Wc Tp Al W0 m0 94 [t11,t15,(.int .i64 4)] At15 λt16 At16=>Wc Tp Al W0 m0 165 [t16] At16 λt17 At17=>Ao (AU Tp At17 92 92 (d 4) t17) λt18 At18=>Aa (Ad Tp 80 t3 1) λt19=>Aa (Ae Tp At18 9 t19) λt20=>Ao (AQ Tp At18 9 92 t20) λt21 At21=>Wc Tp Al W0 m0 165 [t21] At21 λt22 At22=>Ao (AU Tp At22 92 92 t18 t22) λt23 At23=>Aa (An Tp .add 3 (.tmp 9) (.const (.int .i64 1)) (d 9) (.int .i64 1)) λt24=>BE (Ty 0) (Ty 0) (S 0 [t23,(d 7),(d 8),t24] At23))) (Ao (AQ Tp A 92 9 (d 4)) λt25 At25=>Q (.tuple ⟨[t25,(.int .i64 0)]⟩) At25)):=by kernel_rfl
theorem Ahq:Wf1 100 37 Ty ZL:=wf1 (λ_=>by kernel_rfl) (by decide) λ_=>rfl
theorem AiW:EN 100 37 Ty ZL:=E7 (by decide)
theorem e92:gE W0 m0 S Q 92 15 Tz Lz [a0] A=(Aa (AY a0) λt0=>Aa (Ad Tp 123 t0 4) λt1=>Aa (Ae Tp A 36 t1) λt2=>Aa (AY a0) λt3=>Aa (Ad Tp 123 t3 4) λt4=>Aa (Ae Tp A 36 t4) λt5=>Aa (Bi Tp A 36 t5) λt6=>Aa (An Tp .sub 3 (.tmp 11) (.const (.int .i64 1)) t6 (.int .i64 1)) λt7=>Aa (Ar Tp 36 t2 t7) λt8=>Aa (Ae Tp A 3 t8) λt9=>Q t9 A):=by kernel_rfl
theorem w92:Wf1 92 15 Tz Lz:=wf1 (λ_=>by kernel_rfl) (by decide) λ_=>rfl
theorem e93:gE W0 m0 S Q 93 17 Tz Lz [a0,a1] A=(Aa (AY a0) λt0=>Aa (Ad Tp 123 t0 7) λt1=>Aa (Ae Tp A 4 t1) λt2=>Ai t2 (Aa (AY a0) λt3=>Aa (Ad Tp 123 t3 7) λt4=>Be (Av Tp A 4 t4 (.bool true)) λAt5=>Q a1 At5) (Aa (An Tp .eql 26 (.tmp 11) (.const (.int .i64 100)) a1 (.int .i64 100)) λt6=>Aa (AY a0) λt7=>Aa (Ad Tp 123 t7 7) λt8=>Be (Av Tp A 4 t8 t6) λAt9=>Q a1 At9)):=by kernel_rfl
theorem w93:Wf2 93 17 Tz Lz:=wf2 (λ_ _=>by kernel_rfl) (by decide) λ_ _=>rfl
theorem e36:gE W0 m0 S Q 36 12 Tz Lz [a0] A=(Aa (An Tp .neq 23 (.tmp 3) (.const (.pointer none)) a0 (.pointer none)) λt0=>Ai t0 (Aa (AY a0) λt1=>Aa (Ad Tp 68 t1 0) λt2=>Aa (Ae Tp A 66 t2) λt3=>Aa (An Tp .neq 66 (.tmp 9) (.const (.map none)) t3 (.map none)) λt4=>Q t4 A) (Q (.bool false) A)):=by kernel_rfl
theorem w36:Wf1 36 12 Tz Lz:=wf1 (λ_=>by kernel_rfl) (by decide) λ_=>rfl
theorem e95:gE W0 m0 S Q 95 9 Tz Lz [a0] A=(Wc Tp Al W0 m0 156 [a0] A λt0 At0=>knW Tp W0 m0 157 [t0] At0 λt1 At1=>Q t0 At1):=by kernel_rfl
theorem w95:Wf1 95 9 Tz Lz:=wf1 (λ_=>by kernel_rfl) (by decide) λ_=>rfl
theorem e96:gE W0 m0 S Q 96 4 Tz Lz [a0] A=(Ao (CO A (Value.cells a0).toList 66) λt0 At0=>Q (.func (.func 158) ⟨[]⟩ ⟨[t0]⟩) At0):=by kernel_rfl
theorem w96:Wf1 96 4 Tz Lz:=wf1 (λ_=>by kernel_rfl) (by decide) λ_=>rfl
theorem AiI:gE W0 m0 S Q 124 28 Tz Lz [a0,a1] A=(Ao (BB Tp A 89) λt0 At0=>Wc Tp Al W0 m0 134 [a0] At0 λt1 At1=>Aa (An Tp .neq 26 (.tmp 11) (.const (.int .i64 0)) t1 (.int .i64 0)) λt2=>Ai t2 (Aa (Bd Tp 89 []) λt3=>Be (Av Tp At1 89 t0 t3) λAt4=>Aa (Ae Tp At4 89 t0) λt5=>Q (.tuple ⟨[t5,t1]⟩) At4) (Aa (AY a0) λt6=>Aa (Ad Tp 68 t6 0) λt7=>Aa (Ae Tp At1 66 t7) λt8=>Aa (Cu Tp At1 66 t8 a1 true) λt9=>Aa (Ap t9 0) λt10=>Aa (Ap t9 1) λt11=>Ao (BB Tp At1 89) λt12 At12=>Be (Av Tp At12 89 t12 t10) λAt13=>Aa (unA Tp .not t11) λt14=>Ai t14 (Aa (Bd Tp 89 []) λt15=>Be (Av Tp At13 89 t0 t15) λAt16=>Aa (Ae Tp At16 89 t0) λt17=>Q (.tuple ⟨[t17,(.int .i64 7)]⟩) At16) (Aa (Ae Tp At13 89 t12) λt18=>Be (Av Tp At13 89 t0 t18) λAt19=>Aa (Ae Tp At19 89 t0) λt20=>Q (.tuple ⟨[t20,(.int .i64 0)]⟩) At19))):=by kernel_rfl
theorem Ahm:Wf2 124 28 Tz Lz:=wf2 (λ_ _=>by kernel_rfl) (by decide) λ_ _=>rfl
theorem AiD:gE W0 m0 S Q 134 10 Tz Lz [a0] A=(Wc Tp Al W0 m0 36 [a0] A λt0 At0=>Aa (unA Tp .not t0) λt1=>Ai t1 (Q (.int .i64 1) At0) (Aa (AY a0) λt2=>Aa (Ad Tp 68 t2 3) λt3=>Aa (Ae Tp At0 4 t3) λt4=>Ai t4 (Q (.int .i64 100) At0) (Q (.int .i64 0) At0))):=by kernel_rfl
theorem Ahh:Wf1 134 10 Tz Lz:=wf1 (λ_=>by kernel_rfl) (by decide) λ_=>rfl
noncomputable def Tv:Nat->List Item:=λi=>match i with
 |0=>[(.code (cd 137 [1,1,0,1,0,0])),(.inLoop (cd 137 [1,1,0,1,0,0])),(.inBlock 0),(.code (cd 137 [1,1,1]))]
 |_=>[]
def ZI:Nat->List Tmp:=λi=>match i with
 |0=>[0,12,13]
 |_=>[]
theorem AiA:gE W0 m0 S Q 137 27 Tv ZI [a0] A=(Aa (An Tp .eql 9 (.tmp 4) (.const (.string ⟨⟨[]⟩⟩)) a0 (.string ⟨⟨[]⟩⟩)) λt0=>Ai t0 (Q (.bool false) A) (Aa (Bi Tp A 9 a0) λt1=>Aa (An Tp .gtr 3 (.tmp 8) (.const (.int .i64 40)) t1 (.int .i64 40)) λt2=>Ai t2 (Q (.bool false) A) (Aa (Bi Tp A 9 a0) λt3=>BE (Tv 0) (Tv 0) (S 0 [a0,t3,(.int .i64 0)] A)))):=by kernel_rfl
theorem Ac4:gL W0 m0 S Q 137 27 Tv ZI d 0 A=(Aa (An Tp .lss 3 (.tmp 13) (.tmp 12) (d 13) (d 12)) λt0=>Ai t0 (Aa (Io Tp 9 (d 0) (d 13)) λt1=>Aa (An Tp .lss 5 (.tmp 18) (.const (.int .u8 33)) t1 (.int .u8 33)) λt2=>Ai t2 (Q (.bool false) A) (Aa (Io Tp 9 (d 0) (d 13)) λt3=>Aa (An Tp .gtr 5 (.tmp 23) (.const (.int .u8 126)) t3 (.int .u8 126)) λt4=>Ai t4 (Q (.bool false) A) (Aa (An Tp .add 3 (.tmp 13) (.const (.int .i64 1)) (d 13) (.int .i64 1)) λt5=>BE (Tv 0) (Tv 0) (S 0 [(d 0),(d 12),t5] A)))) (Q (.bool true) A)):=by kernel_rfl
theorem Ahe:Wf1 137 27 Tv ZI:=wf1 (λ_=>by kernel_rfl) (by decide) λ_=>rfl
theorem AiU:EN 137 27 Tv ZI:=E7 (by decide)
noncomputable def Tu:Nat->List Item:=λi=>match i with
 |0=>[(.code (cd 138 [1,1,0,1,0,1,0,0])),(.inLoop (cd 138 [1,1,0,1,0,1,0,0])),(.inBlock 0),(.code (cd 138 [1,1,1]))]
 |_=>[]
def ZH:Nat->List Tmp:=λi=>match i with
 |0=>[3,12]
 |_=>[]
theorem Aiz:gE W0 m0 S Q 138 23 Tu ZH [a0] A=(Wc Tp Al W0 m0 36 [a0] A λt0 At0=>Ai t0 (Aa (AY a0) λt1=>Aa (Ad Tp 68 t1 0) λt2=>Aa (Ae Tp At0 66 t2) λt3=>anW Tp Al W0 m0 (NK Tp At0 66 t3) λt4 At4=>BE (Tu 0) (Tu 0) (S 0 [(.int .i64 0),t4] At4)) (Q (.int .i64 0) At0)):=by kernel_rfl
theorem Ac3:gL W0 m0 S Q 138 23 Tu ZH d 0 A=(anW Tp Al W0 m0 (Lk A (d 12) false) λt0 At0=>Aa (Ap t0 0) λt1=>Ai t1 (anW Tp Al W0 m0 (Ow At0 (d 12)) λt2 At2=>Aa (Ap t2 1) λt3=>Ao (BB Tp At2 89) λt4 At4=>Be (Av Tp At4 89 t4 t3) λAt5=>Aa (Ad Tp 89 t4 0) λt6=>Aa (Ae Tp At5 9 t6) λt7=>Aa (Bi Tp At5 9 t7) λt8=>Aa (An Tp .add 3 (.tmp 17) (.tmp 20) (d 3) t8) λt9=>BE (Tu 0) (Tu 0) (S 0 [t9,(d 12)] At5)) (Q (d 3) At0)):=by kernel_rfl
theorem Ahd:Wf1 138 23 Tu ZH:=wf1 (λ_=>by kernel_rfl) (by decide) λ_=>rfl
theorem c138:EN 138 23 Tu ZH:=E7 (by decide)
theorem AiC:gE W0 m0 S Q 135 32 Tz Lz [a0,a1,a2] A=(Aa (AY a0) λt0=>Aa (Ad Tp 68 t0 2) λt1=>Aa (Ae Tp A 3 t1) λt2=>Aa (An Tp .gtr 3 (.tmp 10) (.const (.int .i64 0)) t2 (.int .i64 0)) λt3=>Ai t3 (Aa (AY a0) λt4=>Aa (Ad Tp 68 t4 2) λt5=>Aa (Ae Tp A 3 t5) λt6=>Aa (An Tp .sub 3 (.tmp 15) (.const (.int .i64 1)) t6 (.int .i64 1)) λt7=>Aa (AY a0) λt8=>Aa (Ad Tp 68 t8 2) λt9=>Be (Av Tp A 3 t9 t7) λAt10=>Aa (AY a0) λt11=>Aa (Ad Tp 68 t11 2) λt12=>Aa (Ae Tp At10 3 t12) λt13=>Aa (An Tp .eql 3 (.tmp 22) (.const (.int .i64 0)) t13 (.int .i64 0)) λt14=>Ai t14 (Ai a2 (anW Tp Al W0 m0 (D2 Tp At10 a1 []) λt15 At15=>Aa (AY a0) λt16=>Aa (Ad Tp 68 t16 3) λt17=>Be (Av Tp At15 4 t17 (.bool true)) λAt18=>Q (.int .i64 100) At18) (Aa (AY a0) λt19=>Aa (Ad Tp 68 t19 3) λt20=>Be (Av Tp At10 4 t20 (.bool true)) λAt21=>Q (.int .i64 100) At21)) (anW Tp Al W0 m0 (D2 Tp At10 a1 []) λt22 At22=>Q (.int .i64 0) At22)) (anW Tp Al W0 m0 (D2 Tp A a1 []) λt23 At23=>Q (.int .i64 0) At23)):=by kernel_rfl
theorem Ahg:Wf3 135 32 Tz Lz:=wf3 (λ_ _ _=>by kernel_rfl) (by decide) λ_ _ _=>rfl
theorem Aiy:gE W0 m0 S Q 139 16 Tz Lz [a0,a1,a2,a3] A=(Aa (Ae Tp A 23 a2) λt0=>Aa (AY t0) λt1=>Aa (Ad Tp 68 t1 0) λt2=>Aa (Ae Tp A 66 t2) λt3=>Aa (Ae Tp A 9 a3) λt4=>Aa (Ad Tp 89 a0 0) λt5=>Aa (Ae Tp A 9 t5) λt6=>Aa (Ae Tp A 9 a1) λt7=>Aa (An Tp .add 9 (.tmp 10) (.tmp 11) t6 t7) λt8=>Aa (Ad Tp 89 a0 1) λt9=>Aa (Ae Tp A 3 t9) λt10=>Aa (Bd Tp 89 [(0,t8),(1,t10)]) λt11=>Be (Cp Tp A 66 t3 t4 t11) λAt12=>Q (.tuple ⟨[]⟩) At12):=by kernel_rfl
theorem Ahc:Wf4 139 16 Tz Lz:=wf4 (λ_ _ _ _=>by kernel_rfl) (by decide) λ_ _ _ _=>rfl
noncomputable def Tx:Nat->List Item:=λi=>match i with
 |0=>[(.code (cd 131 [1,0,1,1,1,1,0,0,0])),(.inLoop (cd 131 [1,0,1,1,1,1,0,0,0])),(.inBlock 0),(.code (cd 131 [1,0,1,1,1,1,1])),(.inScope (cd 131 [1,0]))]
 |_=>[]
def ZK:Nat->List Tmp:=λi=>match i with
 |0=>[0,5,6,7]
 |_=>[]
theorem AiG:gE W0 m0 S Q 131 79 Tx ZK [a0] A=(BE (Tx 0) (Tx 0) (S 0 [a0,(.slice none 0 0),(.int .i64 0),(.int .u8 0)] A)):=by kernel_rfl
theorem Ac6:gL W0 m0 S Q 131 79 Tx ZK d 0 A=(Aa (AX Tp A 9 (d 0) (some (d 6)) none none) λt0=>Aa (An Tp .eql 9 (.tmp 19) (.const (.string ⟨⟨[]⟩⟩)) t0 (.string ⟨⟨[]⟩⟩)) λt1=>Ai t1 (Q (.tuple ⟨[(d 5),(d 6),(d 7)]⟩) A) (Aa (Bi Tp A 9 t0) λt2=>Aa (An Tp .lss 3 (.tmp 23) (.const (.int .i64 9)) t2 (.int .i64 9)) λt3=>Ai t3 (Q (.tuple ⟨[(d 5),(d 6),(.int .u8 1)]⟩) A) (Aa (AX Tp A 9 t0 none (some (.int .i64 9)) none) λt4=>Ao (AQ Tp A 9 92 t4) λt5 At5=>Wc Tp Al W0 m0 184 [t5] At5 λt6 At6=>Aa (Ap t6 0) λt7=>Aa (Ap t6 1) λt8=>Aa (unA Tp .not t8) λt9=>Ai t9 (Q (.tuple ⟨[(d 5),(d 6),(.int .u8 2)]⟩) At6) (Aa (AX Tp At6 92 t7 (some (.int .i64 1)) none none) λt10=>Wc Tp Al W0 m0 84 [t10] At6 λt11 At11=>Wc Tp Al W0 m0 85 [t11,(.int .i64 4)] At11 λt12 At12=>Aa (An Tp .gtr 136 (.tmp 40) (.const (.int .u64 65536)) t12 (.int .u64 65536)) λt13=>Ai t13 (Q (.tuple ⟨[(d 5),(d 6),(.int .u8 2)]⟩) At12) (Aa (Bi Tp At12 9 t0) λt14=>Aa (An Tp .sub 3 (.tmp 44) (.const (.int .i64 9)) t14 (.int .i64 9)) λt15=>Ao (AQ Tp At12 3 136 t15) λt16 At16=>Aa (An Tp .add 136 (.tmp 47) (.const (.int .u64 4)) t12 (.int .u64 4)) λt17=>Aa (An Tp .lss 136 (.tmp 46) (.tmp 48) t16 t17) λt18=>Ai t18 (Q (.tuple ⟨[(d 5),(d 6),(.int .u8 1)]⟩) At16) (Ao (AQ Tp At16 136 3 t12) λt19 At19=>Aa (An Tp .add 3 (.const (.int .i64 9)) (.tmp 51) (.int .i64 9) t19) λt20=>Aa (An Tp .add 3 (.tmp 52) (.const (.int .i64 4)) t20 (.int .i64 4)) λt21=>Aa (AX Tp At19 9 t0 (some (.int .i64 9)) (some t21) none) λt22=>Ao (AQ Tp At19 9 92 t22) λt23 At23=>Wc Tp Al W0 m0 184 [t23] At23 λt24 At24=>Aa (Ap t24 0) λt25=>Aa (Ap t24 1) λt26=>Aa (unA Tp .not t26) λt27=>Ai t27 (Q (.tuple ⟨[(d 5),(d 6),(.int .u8 2)]⟩) At24) (Aa (Ar Tp 92 t7 (.int .i64 0)) λt28=>Aa (Ae Tp At24 5 t28) λt29=>Ao (AQ Tp At24 92 9 t25) λt30 At30=>Aa (Bd Tp 80 [(0,t29),(1,t30)]) λt31=>Ao (Aq Tp At30 60 1 [(0,t31)]) λt32 At32=>Cd (Bn Tp (BZ (Tm.fill ⟨1,.nil⟩ 0 [t31])) (.buildSlice 60 1 #[(0,.tmp 0)])) At32 t32 (Aa (Bd Tp 80 [(0,t29),(1,t30)]) λt33=>eqW t33 t31 (Ao (AQ Tp At32 92 9 t25) λt34 _=>eqW t34 t30 (eqW t25 t25 (Aa (Ae Tp At32 5 t28) λt35=>eqW t35 t29 (Aa (Ar Tp 92 t7 (.int .i64 0)) λt36=>eqW t36 t28 (eqW t7 t7 (eqW (d 5) (d 5) (Ao (AU Tp At32 60 60 (d 5) t32) λt37 At37=>Aa (An Tp .add 3 (.tmp 73) (.tmp 74) (d 6) t21) λt38=>BE (Tx 0) (Tx 0) (S 0 [(d 0),t37,t38,(d 7)] At37)))))))))))))))):=by kernel_rfl
theorem Ahk:Wf1 131 79 Tx ZK:=wf1 (λ_=>by kernel_rfl) (by decide) λ_=>rfl
theorem c131:EN 131 79 Tx ZK:=E7 (by decide)
theorem AiF:gE W0 m0 S Q 132 15 Tz Lz [a0] A=(Ao (CO A (Value.cells a0).toList 131) λt0 At0=>Aa (Ad Tp 131 t0 1) λt1=>Aa (Ae Tp At0 60 t1) λt2=>Aa (Bi Tp At0 60 t2) λt3=>Aa (An Tp .gtr 3 (.tmp 5) (.const (.int .i64 0)) t3 (.int .i64 0)) λt4=>Ai t4 (Aa (Ad Tp 131 t0 1) λt5=>Aa (Ae Tp At0 60 t5) λt6=>Aa (Ar Tp 60 t6 (.int .i64 0)) λt7=>Aa (Ad Tp 80 t7 0) λt8=>Aa (Ae Tp At0 5 t8) λt9=>Aa (An Tp .eql 5 (.tmp 12) (.const (.int .u8 0)) t9 (.int .u8 0)) λt10=>Q t10 At0) (Q (.bool false) At0)):=by kernel_rfl
theorem Ahj:Wf1 132 15 Tz Lz:=wf1 (λ_=>by kernel_rfl) (by decide) λ_=>rfl
theorem AiB:gE W0 m0 S Q 136 7 Tz Lz [a0,a1] A=(Aa (Ae Tp A 23 a0) λt0=>Aa (AY t0) λt1=>Aa (Ad Tp 68 t1 0) λt2=>Aa (Ae Tp A 66 t2) λt3=>Aa (Ae Tp A 9 a1) λt4=>Be (FJ Tp A 66 t3 t4) λAt5=>Q (.tuple ⟨[]⟩) At5):=by kernel_rfl
theorem Ahf:Wf2 136 7 Tz Lz:=wf2 (λ_ _=>by kernel_rfl) (by decide) λ_ _=>rfl
theorem Aix:gE W0 m0 S Q 140 14 Tz Lz [a0,a1,a2] A=(Aa (Ae Tp A 23 a1) λt0=>Aa (AY t0) λt1=>Aa (Ad Tp 68 t1 0) λt2=>Aa (Ae Tp A 66 t2) λt3=>Aa (Ae Tp A 9 a2) λt4=>Aa (Ad Tp 89 a0 0) λt5=>Aa (Ae Tp A 9 t5) λt6=>Aa (Ad Tp 89 a0 0) λt7=>Aa (Ae Tp A 9 t7) λt8=>Aa (Bi Tp A 9 t8) λt9=>Aa (Bd Tp 89 [(0,t6),(1,t9)]) λt10=>Be (Cp Tp A 66 t3 t4 t10) λAt11=>Q (.tuple ⟨[]⟩) At11):=by kernel_rfl
theorem Ahb:Wf3 140 14 Tz Lz:=wf3 (λ_ _ _=>by kernel_rfl) (by decide) λ_ _ _=>rfl
theorem Aiw:gE W0 m0 S Q 141 15 Tz Lz [a0,a1,a2,a3] A=(Aa (Ae Tp A 23 a0) λt0=>Aa (AY t0) λt1=>Aa (Ad Tp 68 t1 0) λt2=>Aa (Ae Tp A 66 t2) λt3=>Aa (Ae Tp A 9 a1) λt4=>Be (FJ Tp A 66 t3 t4) λAt5=>Aa (Ae Tp At5 23 a0) λt6=>Aa (AY t6) λt7=>Aa (Ad Tp 68 t7 0) λt8=>Aa (Ae Tp At5 66 t8) λt9=>Aa (Ae Tp At5 9 a3) λt10=>Aa (Ae Tp At5 89 a2) λt11=>Be (Cp Tp At5 66 t9 t10 t11) λAt12=>Q (.tuple ⟨[]⟩) At12):=by kernel_rfl
theorem Aha:Wf4 141 15 Tz Lz:=wf4 (λ_ _ _ _=>by kernel_rfl) (by decide) λ_ _ _ _=>rfl
theorem Aiu:gE W0 m0 S Q 145 18 Tz Lz [a0,a1,a2,a3] A=(Aa (Ae Tp A 23 a2) λt0=>Aa (AY t0) λt1=>Aa (Ad Tp 68 t1 0) λt2=>Aa (Ae Tp A 66 t2) λt3=>Aa (Ae Tp A 9 a3) λt4=>Aa (Ad Tp 89 a0 0) λt5=>Aa (Ae Tp A 9 t5) λt6=>Aa (Ae Tp A 3 a1) λt7=>Aa (AX Tp A 9 t6 none (some t7) none) λt8=>Aa (Ad Tp 89 a0 1) λt9=>Aa (Ae Tp A 3 t9) λt10=>Aa (Ae Tp A 3 a1) λt11=>Aa (Wn t10 [t11]) λt12=>Aa (Bd Tp 89 [(0,t8),(1,t12)]) λt13=>Be (Cp Tp A 66 t3 t4 t13) λAt14=>Q (.tuple ⟨[]⟩) At14):=by kernel_rfl
theorem Ag8:Wf4 145 18 Tz Lz:=wf4 (λ_ _ _ _=>by kernel_rfl) (by decide) λ_ _ _ _=>rfl
noncomputable def Tq:Nat->List Item:=λi=>match i with
 |0=>[(.code (cd 165 [1,1,1,1,0,1,0,0])),(.inLoop (cd 165 [1,1,1,1,0,1,0,0])),(.inBlock 0),(.code (cd 165 [1,1,1,1,1]))]
 |_=>[]
def ZD:Nat->List Tmp:=λi=>match i with
 |0=>[0,3,4,15]
 |_=>[]
theorem Aid:gE W0 m0 S Q 165 31 Tq ZD [a0] A=(Aa (Bi Tp A 92 a0) λt0=>Aa (An Tp .add 3 (.tmp 7) (.const (.int .i64 4)) t0 (.int .i64 4)) λt1=>Ao (CH Tp A 92 t1 t1) λt2 At2=>Ao (LG Tp At2 92 t2 a0) λt3 At3=>Wc Tp Al W0 m0 201 [a0] At3 λt4 At4=>BE (Tq 0) (Tq 0) (S 0 [a0,t2,t4,(.int .i64 0)] At4)):=by kernel_rfl
theorem AcY:gL W0 m0 S Q 165 31 Tq ZD d 0 A=(Aa (An Tp .lss 3 (.tmp 15) (.const (.int .i64 4)) (d 15) (.int .i64 4)) λt0=>Ai t0 (Aa (Bi Tp A 92 (d 0)) λt1=>Aa (An Tp .add 3 (.tmp 20) (.tmp 21) t1 (d 15)) λt2=>Aa (An Tp .mul 3 (.const (.int .i64 8)) (.tmp 24) (.int .i64 8) (d 15)) λt3=>Aa (An Tp .shr 30 (.tmp 23) (.tmp 25) (d 4) t3) λt4=>Ao (AQ Tp A 30 5 t4) λt5 At5=>Aa (Ar Tp 92 (d 3) t2) λt6=>Be (Av Tp At5 5 t6 t5) λAt7=>Aa (An Tp .add 3 (.tmp 15) (.const (.int .i64 1)) (d 15) (.int .i64 1)) λt8=>BE (Tq 0) (Tq 0) (S 0 [(d 0),(d 3),(d 4),t8] At7)) (Q (d 3) A)):=by kernel_rfl
theorem AgR:Wf1 165 31 Tq ZD:=wf1 (λ_=>by kernel_rfl) (by decide) λ_=>rfl
theorem AiQ:EN 165 31 Tq ZD:=E7 (by decide)
theorem e94:gE W0 m0 S Q 94 17 Tz Lz [a0,a1,a2] A=(Wc Tp Al W0 m0 147 [a2] A λt0 At0=>Aa (unA Tp .not t0) λt1=>Ai t1 (Wc Tp Al W0 m0 154 [a0,(.slice none 0 0)] At0 λt2 At2=>Q t2 At2) (Wc Tp Al W0 m0 155 [a1,a2] At0 λt3 At3=>Wc Tp Al W0 m0 154 [a0,t3] At3 λt4 At4=>Q t4 At4)):=by kernel_rfl
theorem w94:Wf3 94 17 Tz Lz:=wf3 (λ_ _ _=>by kernel_rfl) (by decide) λ_ _ _=>rfl
theorem Aij:gE W0 m0 S Q 156 5 Tz Lz [a0] A=(Wc Tp Al W0 m0 194 [(.slice none 0 0),a0] A λt0 At0=>Q t0 At0):=by kernel_rfl
theorem AgX:Wf1 156 5 Tz Lz:=wf1 (λ_=>by kernel_rfl) (by decide) λ_=>rfl
noncomputable def Ts:Nat->List Item:=λi=>match i with
 |0=>[(.code (cd 158 [1,0,0])),(.inLoop (cd 158 [1,0,0])),(.inBlock 0)]
 |_=>[]
def ZG:Nat->List Tmp:=λi=>match i with
 |0=>[0,5]
 |_=>[]
theorem Aii:gE W0 m0 S Q 158 14 Ts ZG [a0,a1] A=(Aa (Ae Tp A 66 a1) λt0=>anW Tp Al W0 m0 (NK Tp A 66 t0) λt1 At1=>BE (Ts 0) (Ts 0) (S 0 [a0,t1] At1)):=by kernel_rfl
theorem Ac1:gL W0 m0 S Q 158 14 Ts ZG d 0 A=(anW Tp Al W0 m0 (Lk A (d 5) false) λt0 At0=>Aa (Ap t0 0) λt1=>Ai t1 (anW Tp Al W0 m0 (Ow At0 (d 5)) λt2 At2=>Aa (Ap t2 0) λt3=>anW Tp Al W0 m0 (D2 Tp At2 (d 0) [t3]) λt4 At4=>Aa (unA Tp .not t4) λt5=>Ai t5 (Q (.tuple ⟨[]⟩) At4) (BE (Ts 0) (Ts 0) (S 0 [(d 0),(d 5)] At4))) (Q (.tuple ⟨[]⟩) At0)):=by kernel_rfl
theorem AgW:Wf2 158 14 Ts ZG:=wf2 (λ_ _=>by kernel_rfl) (by decide) λ_ _=>rfl
theorem AiS:EN 158 14 Ts ZG:=E7 (by decide)
noncomputable def To:Nat->List Item:=λi=>match i with
 |0=>[(.code (cd 184 [1,1,1,1,0,1,0,0])),(.inLoop (cd 184 [1,1,1,1,0,1,0,0])),(.inBlock 0),(.code (cd 184 [1,1,1,1,1]))]
 |_=>[]
def ZC:Nat->List Tmp:=λi=>match i with
 |0=>[0,4,5,18]
 |_=>[]
theorem Ah9:gE W0 m0 S Q 184 40 To ZC [a0] A=(Aa (Bi Tp A 92 a0) λt0=>Aa (An Tp .sub 3 (.tmp 9) (.const (.int .i64 4)) t0 (.int .i64 4)) λt1=>Aa (An Tp .lss 3 (.tmp 11) (.const (.int .i64 0)) t1 (.int .i64 0)) λt2=>Ai t2 (Q (.tuple ⟨[(.slice none 0 0),(.bool false)]⟩) A) (Aa (AX Tp A 92 a0 none (some t1) (some t1)) λt3=>Wc Tp Al W0 m0 201 [t3] A λt4 At4=>BE (To 0) (To 0) (S 0 [a0,t1,t4,(.int .i64 0)] At4))):=by kernel_rfl
theorem AcX:gL W0 m0 S Q 184 40 To ZC d 0 A=(Aa (An Tp .lss 3 (.tmp 18) (.const (.int .i64 4)) (d 18) (.int .i64 4)) λt0=>Ai t0 (Aa (An Tp .add 3 (.tmp 22) (.tmp 23) (d 4) (d 18)) λt1=>Aa (Ar Tp 92 (d 0) t1) λt2=>Aa (Ae Tp A 5 t2) λt3=>Aa (An Tp .mul 3 (.const (.int .i64 8)) (.tmp 28) (.int .i64 8) (d 18)) λt4=>Aa (An Tp .shr 30 (.tmp 27) (.tmp 29) (d 5) t4) λt5=>Ao (AQ Tp A 30 5 t5) λt6 At6=>Aa (An Tp .neq 5 (.tmp 26) (.tmp 31) t3 t6) λt7=>Ai t7 (Q (.tuple ⟨[(.slice none 0 0),(.bool false)]⟩) At6) (Aa (An Tp .add 3 (.tmp 18) (.const (.int .i64 1)) (d 18) (.int .i64 1)) λt8=>BE (To 0) (To 0) (S 0 [(d 0),(d 4),(d 5),t8] At6))) (Ao (CH Tp A 92 (d 4) (d 4)) λt9 At9=>Ao (LG Tp At9 92 t9 (d 0)) λt10 At10=>Q (.tuple ⟨[t9,(.bool true)]⟩) At10)):=by kernel_rfl
theorem AgN:Wf1 184 40 To ZC:=wf1 (λ_=>by kernel_rfl) (by decide) λ_=>rfl
theorem AiP:EN 184 40 To ZC:=E7 (by decide)
theorem e84:gE W0 m0 S Q 84 9 Tz Lz [a0] A=(Wc Tp Al W0 m0 146 [a0] A λt0 At0=>Aa (Bd Tp 189 [(0,t0),(1,(.bool true))]) λt1=>Ao (CO At0 (Value.cells t1).toList 189) λt2 At2=>Aa (Bd Tp 191 [(0,t2)]) λt3=>Ao (CO At2 (Value.cells t3).toList 191) λt4 At4=>Q t4 At4):=by kernel_rfl
theorem w84:Wf1 84 9 Tz Lz:=wf1 (λ_=>by kernel_rfl) (by decide) λ_=>rfl
noncomputable def T85:Nat->List Item:=λi=>match i with
 |0=>[(.code (cd 85 [1,1,1,0,1,0,0])),(.inLoop (cd 85 [1,1,1,0,1,0,0])),(.inBlock 0),(.code (cd 85 [1,1,1,1]))]
 |_=>[]
def L85:Nat->List Tmp:=λi=>match i with
 |0=>[5,15,16,17]
 |_=>[]
theorem e85:gE W0 m0 S Q 85 28 T85 L85 [a0,a1] A=(Wc Tp Al W0 m0 147 [a1] A λt0 At0=>Aa (unA Tp .not t0) λt1=>Ai t1 (Wc Tp Al W0 m0 148 [a0] At0 λt2 At2=>Q (.int .u64 0) At2) (Wc Tp Al W0 m0 149 [a0,a1] At0 λt3 At3=>Aa (Bi Tp At3 92 t3) λt4=>BE (T85 0) (T85 0) (S 0 [(.int .u64 0),t3,t4,(.int .i64 0)] At3))):=by kernel_rfl
theorem Ae6:gL W0 m0 S Q 85 28 T85 L85 d 0 A=(Aa (An Tp .lss 3 (.tmp 17) (.tmp 16) (d 17) (d 16)) λt0=>Ai t0 (Aa (Ar Tp 92 (d 15) (d 17)) λt1=>Aa (Ae Tp A 5 t1) λt2=>Aa (An Tp .shl 136 (.tmp 21) (.const (.int .u64 8)) (d 5) (.int .u64 8)) λt3=>Ao (AQ Tp A 5 136 t2) λt4 At4=>Aa (An Tp .or 136 (.tmp 22) (.tmp 24) t3 t4) λt5=>Aa (An Tp .add 3 (.tmp 17) (.const (.int .i64 1)) (d 17) (.int .i64 1)) λt6=>BE (T85 0) (T85 0) (S 0 [t5,(d 15),(d 16),t6] At4)) (Q (d 5) A)):=by kernel_rfl
theorem w85:Wf2 85 28 T85 L85:=wf2 (λ_ _=>by kernel_rfl) (by decide) λ_ _=>rfl
theorem c85:EN 85 28 T85 L85:=E7 (by decide)
theorem Ah4:gE W0 m0 S Q 201 5 Tz Lz [a0] A=(Wc Tp Al W0 m0 234 [(.int .u32 0),a0] A λt0 At0=>Q t0 At0):=by kernel_rfl
theorem AgI:Wf1 201 5 Tz Lz:=wf1 (λ_=>by kernel_rfl) (by decide) λ_=>rfl
theorem Ais:gE W0 m0 S Q 147 12 Tz Lz [a0] A=(Aa (An Tp .eql 3 (.tmp 3) (.const (.int .i64 1)) a0 (.int .i64 1)) λt0=>Ai t0 (Q (.bool true) A) (Aa (An Tp .eql 3 (.tmp 3) (.const (.int .i64 2)) a0 (.int .i64 2)) λt1=>Ai t1 (Q (.bool true) A) (Aa (An Tp .eql 3 (.tmp 3) (.const (.int .i64 4)) a0 (.int .i64 4)) λt2=>Ai t2 (Q (.bool true) A) (Aa (An Tp .eql 3 (.tmp 3) (.const (.int .i64 8)) a0 (.int .i64 8)) λt3=>Ai t3 (Q (.bool true) A) (Q (.bool false) A))))):=by kernel_rfl
theorem Ag6:Wf1 147 12 Tz Lz:=wf1 (λ_=>by kernel_rfl) (by decide) λ_=>rfl
theorem Ail:gE W0 m0 S Q 154 15 Tz Lz [a0,a1] A=(Aa (Bi Tp A 92 a0) λt0=>Aa (Bi Tp A 92 a1) λt1=>Aa (An Tp .add 3 (.tmp 6) (.tmp 8) t0 t1) λt2=>Ao (CH Tp A 92 (.int .i64 0) t2) λt3 At3=>Ao (AU Tp At3 92 92 t3 a0) λt4 At4=>Ao (AU Tp At4 92 92 t4 a1) λt5 At5=>Q t5 At5):=by kernel_rfl
theorem AgZ:Wf2 154 15 Tz Lz:=wf2 (λ_ _=>by kernel_rfl) (by decide) λ_ _=>rfl
noncomputable def Tt:Nat->List Item:=λi=>match i with
 |0=>[(.code (cd 155 [1,1,0,1,0,0])),(.inLoop (cd 155 [1,1,0,1,0,0])),(.inBlock 0),(.code (cd 155 [1,1,1]))]
 |_=>[]
def Ru:Nat->List Tmp:=λi=>match i with
 |0=>[0,1,5,10,11]
 |_=>[]
theorem Aik:gE W0 m0 S Q 155 27 Tt Ru [a0,a1] A=(Ao (CH Tp A 92 a1 a1) λt0 At0=>Aa (Bi Tp At0 92 t0) λt1=>BE (Tt 0) (Tt 0) (S 0 [a0,a1,t0,t1,(.int .i64 0)] At0)):=by kernel_rfl
theorem Ac2:gL W0 m0 S Q 155 27 Tt Ru d 0 A=(Aa (An Tp .lss 3 (.tmp 11) (.tmp 10) (d 11) (d 10)) λt0=>Ai t0 (Aa (An Tp .sub 3 (.tmp 15) (.const (.int .i64 1)) (d 1) (.int .i64 1)) λt1=>Aa (An Tp .sub 3 (.tmp 16) (.tmp 17) t1 (d 11)) λt2=>Aa (An Tp .mul 3 (.const (.int .i64 8)) (.tmp 20) (.int .i64 8) (d 11)) λt3=>Aa (An Tp .shr 136 (.tmp 19) (.tmp 21) (d 0) t3) λt4=>Ao (AQ Tp A 136 5 t4) λt5 At5=>Aa (Ar Tp 92 (d 5) t2) λt6=>Be (Av Tp At5 5 t6 t5) λAt7=>Aa (An Tp .add 3 (.tmp 11) (.const (.int .i64 1)) (d 11) (.int .i64 1)) λt8=>BE (Tt 0) (Tt 0) (S 0 [(d 0),(d 1),(d 5),(d 10),t8] At7)) (Q (d 5) A)):=by kernel_rfl
theorem AgY:Wf2 155 27 Tt Ru:=wf2 (λ_ _=>by kernel_rfl) (by decide) λ_ _=>rfl
theorem AiT:EN 155 27 Tt Ru:=E7 (by decide)
theorem Ah7:gE W0 m0 S Q 194 13 Tz Lz [a0,a1] A=(Ao (CO A (Value.cells a0).toList 86) λt0 At0=>Vg At0 194 (MA ⟨13,.nil⟩ [(0,a0),(1,a1),(2,t0),(4,(.slice none 0 0)),(6,a1)]) [7] (cd 194 [1,0,1,0,0]) (cd 194 [1,0,1,0,1]) λDt1 Lt1 Abt1=>Adb Tp Al W0 m0 Abt1 a1 [.func (.yield Lt1) #[] #[]] λ_ Act1=>LF Act1 Lt1 (λAdt1=>Aa (Ae Tp Adt1 86 t0) λt2=>GA [Dt1] Adt1 λAt3=>Q t2 At3) (λAet1=>GA [Dt1] Aet1 λAt4=>Q (.slice none 0 0) At4)):=by kernel_rfl
theorem AcA(W0:World)(m0:Inj Tp)(S:Nat->List Value->AW->Prop)(Q:Value->AW->Prop)(l:Nat)(d:Nat->Value)(A:AW):Cv Tp Al W0 m0 194 Tz Lz S Q (some l) 4000 (OU 13 d) [.code (cd 194 [1,0,1,0,0]),.beginRound,.code (cd 194 [1,0,1,0,1])] false 0 0 0 [] A=(Rl A l λAt0=>Aa (Ae Tp At0 86 (d 2)) λt1=>Ao (Aq Tp At0 86 1 [(0,(d 7))]) λt2 At2=>Ao (AU Tp At2 86 86 t1 t2) λt3 At3=>Be (Av Tp At3 86 (d 2) t3) λAt4=>QN At4 l none Q):=by kernel_rfl
theorem AgL:Wf2 194 13 Tz Lz:=wf2 (λ_ _=>by kernel_rfl) (by decide) λ_ _=>rfl
theorem Ait:gE W0 m0 S Q 146 8 Tz Lz [a0] A=(Aa (An Tp .eql 92 (.tmp 3) (.const (.slice none 0 0)) a0 (.slice none 0 0)) λt0=>Ai t0 (Q (.slice none 0 0) A) (Ao (Aq Tp A 92 0 []) λt1 At1=>Ao (AU Tp At1 92 92 t1 a0) λt2 At2=>Q t2 At2)):=by kernel_rfl
theorem Ag7:Wf1 146 8 Tz Lz:=wf1 (λ_=>by kernel_rfl) (by decide) λ_=>rfl
theorem Air:gE W0 m0 S Q 148 23 Tz Lz [a0] A=(Aa (An Tp .neq 134 (.tmp 2) (.const (.pointer none)) a0 (.pointer none)) λt0=>Ai t0 (Aa (AY a0) λt1=>Aa (Ad Tp 191 t1 0) λt2=>Aa (Ae Tp A 186 t2) λt3=>Aa (An Tp .neq 186 (.tmp 8) (.const (.pointer none)) t3 (.pointer none)) λt4=>Ai t4 (Aa (AY a0) λt5=>Aa (Ad Tp 191 t5 0) λt6=>Aa (Ae Tp A 186 t6) λt7=>Aa (AY a0) λt8=>Aa (Ad Tp 191 t8 0) λt9=>Aa (Ae Tp A 186 t9) λt10=>Aa (AY t7) λt11=>Aa (Ad Tp 189 t11 0) λt12=>Be (Av Tp A 92 t12 (.slice none 0 0)) λAt13=>Aa (AY t10) λt14=>Aa (Ad Tp 189 t14 2) λt15=>Be (Av Tp At13 4 t15 (.bool true)) λAt16=>Q (.tuple ⟨[]⟩) At16) (Q (.tuple ⟨[]⟩) A)) (Q (.tuple ⟨[]⟩) A)):=by kernel_rfl
theorem Ag5:Wf1 148 23 Tz Lz:=wf1 (λ_=>by kernel_rfl) (by decide) λ_=>rfl
theorem Aiq:gE W0 m0 S Q 149 46 Tz Lz [a0,a1] A=(Wc Tp Al W0 m0 87 [a0] A λt0 At0=>Ai t0 (Wc Tp Al W0 m0 148 [a0] At0 λt1 At1=>Q (.slice none 0 0) At1) (Aa (An Tp .lss 3 (.tmp 9) (.const (.int .i64 0)) a1 (.int .i64 0)) λt2=>Ai t2 (Wc Tp Al W0 m0 148 [a0] At0 λt3 At3=>Q (.slice none 0 0) At3) (Wc Tp Al W0 m0 152 [a0] At0 λt4 At4=>Aa (An Tp .gtr 3 (.tmp 13) (.tmp 15) a1 t4) λt5=>Ai t5 (Wc Tp Al W0 m0 148 [a0] At4 λt6 At6=>Q (.slice none 0 0) At6) (Aa (AY a0) λt7=>Aa (Ad Tp 191 t7 0) λt8=>Aa (Ae Tp At4 186 t8) λt9=>Aa (AY t9) λt10=>Aa (Ad Tp 189 t10 0) λt11=>Aa (Ae Tp At4 92 t11) λt12=>Aa (AX Tp At4 92 t12 none (some a1) none) λt13=>Wc Tp Al W0 m0 146 [t13] At4 λt14 At14=>Aa (AY a0) λt15=>Aa (Ad Tp 191 t15 0) λt16=>Aa (Ae Tp At14 186 t16) λt17=>Aa (AY a0) λt18=>Aa (Ad Tp 191 t18 0) λt19=>Aa (Ae Tp At14 186 t19) λt20=>Aa (AY t20) λt21=>Aa (Ad Tp 189 t21 0) λt22=>Aa (Ae Tp At14 92 t22) λt23=>Aa (AX Tp At14 92 t23 (some a1) none none) λt24=>Aa (AY t17) λt25=>Aa (Ad Tp 189 t25 0) λt26=>Be (Av Tp At14 92 t26 t24) λAt27=>Q t14 At27)))):=by kernel_rfl
theorem Ag4:Wf2 149 46 Tz Lz:=wf2 (λ_ _=>by kernel_rfl) (by decide) λ_ _=>rfl
noncomputable def Tn:Nat->List Item:=λi=>match i with
 |0=>[(.code (cd 234 [1,1,0,1,0,0])),(.inLoop (cd 234 [1,1,0,1,0,0])),(.inBlock 0),(.code (cd 234 [1,1,1]))]
 |_=>[]
def ZB:Nat->List Tmp:=λi=>match i with
 |0=>[1,5,10,11]
 |_=>[]
theorem Ah0:gE W0 m0 S Q 234 38 Tn ZB [a0,a1] A=(Aa (unA Tp .xor a0) λt0=>Aa (Bi Tp A 92 a1) λt1=>BE (Tn 0) (Tn 0) (S 0 [a1,t0,t1,(.int .i64 0)] A)):=by kernel_rfl
theorem AcW:gL W0 m0 S Q 234 38 Tn ZB d 0 A=(Aa (An Tp .lss 3 (.tmp 11) (.tmp 10) (d 11) (d 10)) λt0=>Ai t0 (Aa (Ar Tp 92 (d 1) (d 11)) λt1=>Aa (Ae Tp A 5 t1) λt2=>Ao (AQ Tp A 5 30 t2) λt3 At3=>Aa (An Tp .xor 30 (.tmp 14) (.tmp 19) (d 5) t3) λt4=>Aa (An Tp .shr 30 (.tmp 21) (.const (.int .u64 4)) t4 (.int .u64 4)) λt5=>Aa (An Tp .and 30 (.tmp 23) (.const (.int .u32 15)) t4 (.int .u32 15)) λt6=>Aa (Ar Tp 278 (pP 1 0) t6) λt7=>Aa (Ae Tp At3 30 t7) λt8=>Aa (An Tp .xor 30 (.tmp 22) (.tmp 26) t5 t8) λt9=>Aa (An Tp .shr 30 (.tmp 28) (.const (.int .u64 4)) t9 (.int .u64 4)) λt10=>Aa (An Tp .and 30 (.tmp 30) (.const (.int .u32 15)) t9 (.int .u32 15)) λt11=>Aa (Ar Tp 278 (pP 1 0) t11) λt12=>Aa (Ae Tp At3 30 t12) λt13=>Aa (An Tp .xor 30 (.tmp 29) (.tmp 33) t10 t13) λt14=>Aa (An Tp .add 3 (.tmp 11) (.const (.int .i64 1)) (d 11) (.int .i64 1)) λt15=>BE (Tn 0) (Tn 0) (S 0 [(d 1),t14,(d 10),t15] At3)) (Aa (unA Tp .xor (d 5)) λt16=>Q t16 A)):=by kernel_rfl
theorem AgE:Wf2 234 38 Tn ZB:=wf2 (λ_ _=>by kernel_rfl) (by decide) λ_ _=>rfl
theorem c234:EN 234 38 Tn ZB:=E7 (by decide)
theorem e87:gE W0 m0 S Q 87 12 Tz Lz [a0] A=(Aa (An Tp .eql 134 (.tmp 3) (.const (.pointer none)) a0 (.pointer none)) λt0=>Ai t0 (Q (.bool true) A) (Aa (AY a0) λt1=>Aa (Ad Tp 191 t1 0) λt2=>Aa (Ae Tp A 186 t2) λt3=>Wc Tp Al W0 m0 151 [t3] A λt4 At4=>Q t4 At4)):=by kernel_rfl
theorem w87:Wf1 87 12 Tz Lz:=wf1 (λ_=>by kernel_rfl) (by decide) λ_=>rfl
theorem Ain:gE W0 m0 S Q 152 10 Tz Lz [a0] A=(Aa (An Tp .eql 134 (.tmp 3) (.const (.pointer none)) a0 (.pointer none)) λt0=>Ai t0 (Q (.int .i64 0) A) (Aa (AY a0) λt1=>Aa (Ad Tp 191 t1 0) λt2=>Aa (Ae Tp A 186 t2) λt3=>Wc Tp Al W0 m0 193 [t3] A λt4 At4=>Q t4 At4)):=by kernel_rfl
theorem Ag1:Wf1 152 10 Tz Lz:=wf1 (λ_=>by kernel_rfl) (by decide) λ_=>rfl
theorem Aio:gE W0 m0 S Q 151 18 Tz Lz [a0] A=(Aa (An Tp .eql 186 (.tmp 3) (.const (.pointer none)) a0 (.pointer none)) λt0=>Ai t0 (Q (.bool true) A) (Aa (AY a0) λt1=>Aa (Ad Tp 189 t1 2) λt2=>Aa (Ae Tp A 4 t2) λt3=>Ai t3 (Q (.bool true) A) (Aa (AY a0) λt4=>Aa (Ad Tp 189 t4 1) λt5=>Aa (Ae Tp A 4 t5) λt6=>Aa (unA Tp .not t6) λt7=>Q t7 A))):=by kernel_rfl
theorem Ag2:Wf1 151 18 Tz Lz:=wf1 (λ_=>by kernel_rfl) (by decide) λ_=>rfl
theorem Ah8:gE W0 m0 S Q 193 10 Tz Lz [a0] A=(Aa (An Tp .eql 186 (.tmp 3) (.const (.pointer none)) a0 (.pointer none)) λt0=>Ai t0 (Q (.int .i64 0) A) (Aa (AY a0) λt1=>Aa (Ad Tp 189 t1 0) λt2=>Aa (Ae Tp A 92 t2) λt3=>Aa (Bi Tp A 92 t3) λt4=>Q t4 A)):=by kernel_rfl
theorem AgM:Wf1 193 10 Tz Lz:=wf1 (λ_=>by kernel_rfl) (by decide) λ_=>rfl
end
end Go.Proofs.YtnennggfoegcmaaGreatDoor
set_option linter.all false
namespace Go.Proofs.YtnennggfoegcmaaGreatDoor
open Go.Abs
noncomputable def T3:Nat->List Item:=λi=>match i with
 |0=>[(.code (cd 3 [1,1,1,1,1,0,1,0,0])),(.inLoop (cd 3 [1,1,1,1,1,0,1,0,0])),(.inBlock 0),(.code (cd 3 [1,1,1,1,1,1]))]
 |3=>[(.code (cd 3 [1,1,1,1,1,0,1,0,0,1,0,0,1,1,1,0,1,1,1,0,1,1,1,1,1,1,0,1,0,0])),(.inLoop (cd 3 [1,1,1,1,1,0,1,0,0,1,0,0,1,1,1,0,1,1,1,0,1,1,1,1,1,1,0,1,0,0])),(.inBlock 3),(.code (cd 3 [1,1,1,1,1,0,1,0,0,1,0,0,1,1,1,0,1,1,1,0,1,1,1,1,1,1,1])),(.inBlock 2),(.inBlock 1),(.code (cd 3 [1,1,1,1,1,0,1,0,0,1,1])),(.inLoop (cd 3 [1,1,1,1,1,0,1,0,0])),(.inBlock 0),(.code (cd 3 [1,1,1,1,1,1]))]
 |5=>[(.code (cd 3 [1,1,1,1,1,0,1,0,0,1,0,0,1,1,1,0,1,1,1,0,1,1,1,1,1,1,1,0,1,0,0])),(.inLoop (cd 3 [1,1,1,1,1,0,1,0,0,1,0,0,1,1,1,0,1,1,1,0,1,1,1,1,1,1,1,0,1,0,0])),(.inBlock 5),(.code (cd 3 [1,1,1,1,1,0,1,0,0,1,0,0,1,1,1,0,1,1,1,0,1,1,1,1,1,1,1,1])),(.inBlock 2),(.inBlock 1),(.code (cd 3 [1,1,1,1,1,0,1,0,0,1,1])),(.inLoop (cd 3 [1,1,1,1,1,0,1,0,0])),(.inBlock 0),(.code (cd 3 [1,1,1,1,1,1]))]
 |7=>[(.code (cd 3 [1,1,1,1,1,0,1,0,0,1,0,0,1,1,1,0,1,1,1,1,1,0,1,0,1,0,0])),(.inLoop (cd 3 [1,1,1,1,1,0,1,0,0,1,0,0,1,1,1,0,1,1,1,1,1,0,1,0,1,0,0])),(.inBlock 7),(.code (cd 3 [1,1,1,1,1,0,1,0,0,1,0,0,1,1,1,0,1,1,1,1,1,0,1,1])),(.inBlock 2),(.inBlock 1),(.code (cd 3 [1,1,1,1,1,0,1,0,0,1,1])),(.inLoop (cd 3 [1,1,1,1,1,0,1,0,0])),(.inBlock 0),(.code (cd 3 [1,1,1,1,1,1]))]
 |_=>[]
def L3:Nat->List Tmp:=λi=>match i with
 |0=>[0,3,4,6,7,8]
 |3=>[0,3,4,6,7,8,12,13]
 |5=>[0,3,4,7,8,12,14]
 |7=>[0,3,4,6,7,8,9,15,16]
 |_=>[]
section
variable (W0:World) (m0:Inj Tp) (S:Nat->List Value->AW->Prop) (Q:Value->AW->Prop) (d:Nat->Value) (a0 a1 a2 a3 a4 a5 a6:Value) (A:AW)
theorem e3:gE W0 m0 S Q 3 182 T3 L3 [a0] A=(Wc Tp Al W0 m0 5 [(.int .i64 400000)] A λt0 At0=>Wc Tp Al W0 m0 6 [t0,(.int .i64 300)] At0 λt1 At1=>Aa (Ap t1 0) λt2=>Aa (Ap t1 1) λt3=>Aa (An Tp .neq 26 (.tmp 24) (.const (.int .i64 0)) t3 (.int .i64 0)) λt4=>Ai t4 (Q (.bool false) At1) (Aa (An Tp .eql 25 (.tmp 27) (.const (.pointer none)) t2 (.pointer none)) λt5=>Ai t5 (Q (.bool false) At1) (BE (T3 0) (T3 0) (S 0 [a0,t0,t2,(.slice none 0 0),(.slice none 0 0),(.int .i64 0)] At1)))):=by kernel_rfl
theorem AhI:gL W0 m0 S Q 3 182 T3 L3 d 0 A=(Aa (Bi Tp A 22 (d 0)) λt0=>Aa (An Tp .lss 3 (.tmp 30) (.tmp 32) (d 8) t0) λt1=>Ai t1 (Aa (An Tp .lss 3 (.tmp 35) (.const (.int .i64 40)) (d 8) (.int .i64 40)) λt2=>Ai t2 (Aa (Ar Tp 22 (d 0) (d 8)) λt3=>Aa (Ae Tp A 38 t3) λt4=>Ao (BB Tp A 38) λt5 At5=>Be (Av Tp At5 38 t5 t4) λAt6=>Aa (Ae Tp At6 38 t5) λt7=>Wc Tp Al W0 m0 7 [t7] At6 λt8 At8=>Ai t8 (knW Tp W0 m0 8 [] At8 λt9 At9=>Q t9 At9) (Aa (Ad Tp 38 t5 0) λt10=>Aa (Ae Tp At8 5 t10) λt11=>Aa (An Tp .rem 5 (.tmp 48) (.const (.int .u8 6)) t11 (.int .u8 6)) λt12=>Aa (An Tp .eql 5 (.tmp 82) (.const (.int .u8 3)) t12 (.int .u8 3)) λt13=>Ai t13 (Aa (Ad Tp 38 t5 2) λt14=>Aa (Ae Tp At8 3 t14) λt15=>Ao (AQ Tp At8 3 42 t15) λt16 At16=>Aa (An Tp .rem 42 (.tmp 87) (.const (.int .u64 8)) t16 (.int .u64 8)) λt17=>Ao (AQ Tp At16 42 3 t17) λt18 At18=>Aa (An Tp .add 3 (.const (.int .i64 1)) (.tmp 89) (.int .i64 1) t18) λt19=>Wc Tp Al W0 m0 9 [(d 3),t19] At18 λt20 At20=>Aa (An Tp .add 3 (.tmp 38) (.const (.int .i64 1)) (d 8) (.int .i64 1)) λt21=>BE (T3 0) (T3 0) (S 0 [(d 0),(d 3),(d 4),(d 6),(d 7),t21] At20)) (Aa (An Tp .geq 5 (.tmp 93) (.const (.int .u8 4)) t12 (.int .u8 4)) λt22=>Ai t22 (Wc Tp Al W0 m0 10 [(d 3)] At8 λt23 At23=>Aa (Ad Tp 38 t5 3) λt24=>Aa (Ae Tp At23 36 t24) λt25=>Wc Tp Al W0 m0 11 [(d 3),t25] At23 λt26 At26=>Wc Tp Al W0 m0 12 [(d 4)] At26 λt27 At27=>Wc Tp Al W0 m0 6 [(d 3),(.int .i64 300)] At27 λt28 At28=>Aa (Ap t28 0) λt29=>Aa (Ap t28 1) λt30=>Aa (An Tp .neq 26 (.tmp 108) (.const (.int .i64 0)) t30 (.int .i64 0)) λt31=>Ai t31 (Q (.bool false) At28) (Aa (An Tp .eql 25 (.tmp 111) (.const (.pointer none)) t29 (.pointer none)) λt32=>Ai t32 (Q (.bool false) At28) (Wc Tp Al W0 m0 12 [t29] At28 λt33 At33=>Aa (An Tp .leq 30 (.tmp 116) (.tmp 117) t33 t27) λt34=>Ai t34 (Q (.bool false) At33) (Wc Tp Al W0 m0 13 [t29] At33 λt35 At35=>BE (T3 3) (T3 3) (S 3 [(d 0),(d 3),t29,(d 6),(d 7),(d 8),t35,(.int .i64 0)] At35))))) (Aa (An Tp .eql 5 (.tmp 151) (.const (.int .u8 2)) t12 (.int .u8 2)) λt36=>Ai t36 (BE (T3 7) (T3 7) (S 7 [(d 0),(d 3),(d 4),(d 6),(d 7),(d 8),t5,(.slice none 0 0),(.int .i64 0)] At8)) (Ao (BB Tp At8 35) λt37 At37=>Cd (Bn Tp (λ_=>undef) (.alloc 35)) At37 t37 (Aa (Ad Tp 38 t5 1) λt38=>Aa (Ad Tp 35 t38 0) λt39=>Aa (Ae Tp At37 32 t39) λt40=>Aa (Ad Tp 38 t5 1) λt41=>Aa (Ad Tp 35 t41 1) λt42=>Aa (Ae Tp At37 33 t42) λt43=>Ao (AU Tp At37 33 33 (.slice none 0 0) t43) λt44 At44=>Cd (Bn Tp (λ_=>undef) (.alloc 35)) At44 t37 (Aa (Ae Tp At44 32 t39) λt45=>eqW t45 t40 (Aa (Ad Tp 35 t38 0) λt46=>eqW t46 t39 (Aa (Ad Tp 38 t5 1) λt47=>eqW t47 t38 (Aa (Bd Tp 35 [(0,t40),(1,t44)]) λt48=>Be (Av Tp At44 35 t37 t48) λAt49=>Aa (Bi Tp At49 29 (d 7)) λt50=>Aa (Bi Tp At49 29 (d 7)) λt51=>Aa (AX Tp At49 29 (d 7) none (some t50) (some t51)) λt52=>Aa (Ae Tp At49 35 t37) λt53=>Ao (Aq Tp At49 29 1 [(0,t53)]) λt54 At54=>Cd (Bn Tp (BZ (Tm.fill ⟨1,.nil⟩ 0 [t53])) (.buildSlice 29 1 #[(0,.tmp 0)])) At54 t54 (Aa (Ae Tp At54 35 t37) λt55=>eqW t55 t53 (Aa (AX Tp At54 29 (d 7) none (some t50) (some t51)) λt56=>eqW t56 t52 (Aa (Bi Tp At54 29 (d 7)) λt57=>eqW t57 t51 (eqW (d 7) (d 7) (Aa (Bi Tp At54 29 (d 7)) λt58=>eqW t58 t50 (eqW (d 7) (d 7) (eqW (d 7) (d 7) (Ao (AU Tp At54 29 29 t52 t54) λt59 At59=>Aa (Ad Tp 38 t5 1) λt60=>Aa (Ae Tp At59 35 t60) λt61=>Wc Tp Al W0 m0 16 [(d 4),t61] At59 λt62 At62=>Aa (An Tp .eql 26 (.tmp 70) (.const (.int .i64 0)) t62 (.int .i64 0)) λt63=>Ai t63 (Aa (Bi Tp At62 29 (d 6)) λt64=>Aa (Bi Tp At62 29 (d 6)) λt65=>Aa (AX Tp At62 29 (d 6) none (some t64) (some t65)) λt66=>Aa (Ae Tp At62 35 t37) λt67=>Ao (Aq Tp At62 29 1 [(0,t67)]) λt68 At68=>Cd (Bn Tp (BZ (Tm.fill ⟨1,.nil⟩ 0 [t67])) (.buildSlice 29 1 #[(0,.tmp 0)])) At68 t68 (Aa (Ae Tp At68 35 t37) λt69=>eqW t69 t67 (Aa (AX Tp At68 29 (d 6) none (some t64) (some t65)) λt70=>eqW t70 t66 (Aa (Bi Tp At68 29 (d 6)) λt71=>eqW t71 t65 (eqW (d 6) (d 6) (Aa (Bi Tp At68 29 (d 6)) λt72=>eqW t72 t64 (eqW (d 6) (d 6) (eqW (d 6) (d 6) (Ao (AU Tp At68 29 29 t66 t68) λt73 At73=>Aa (An Tp .add 3 (.tmp 38) (.const (.int .i64 1)) (d 8) (.int .i64 1)) λt74=>BE (T3 0) (T3 0) (S 0 [(d 0),(d 3),(d 4),t73,t59,t74] At73)))))))))) (Aa (An Tp .add 3 (.tmp 38) (.const (.int .i64 1)) (d 8) (.int .i64 1)) λt75=>BE (T3 0) (T3 0) (S 0 [(d 0),(d 3),(d 4),(d 6),t59,t75] At62)))))))))))))))))))) (knW Tp W0 m0 8 [] A λt76 At76=>Q t76 At76)) (knW Tp W0 m0 8 [] A λt77 At77=>Q t77 At77)):=by kernel_rfl
theorem AhH:gL W0 m0 S Q 3 182 T3 L3 d 3 A=(Aa (Bi Tp A 29 (d 6)) λt0=>Aa (An Tp .lss 3 (.tmp 122) (.tmp 124) (d 13) t0) λt1=>Ai t1 (Aa (Ar Tp 29 (d 6) (d 13)) λt2=>Aa (Ae Tp A 35 t2) λt3=>Wc Tp Al W0 m0 14 [(d 12),t3] A λt4 At4=>Aa (unA Tp .not t4) λt5=>Ai t5 (Q (.bool false) At4) (Aa (An Tp .add 3 (.tmp 126) (.const (.int .i64 1)) (d 13) (.int .i64 1)) λt6=>BE (T3 3) (T3 3) (S 3 [(d 0),(d 3),(d 4),(d 6),(d 7),(d 8),(d 12),t6] At4))) (BE (T3 5) (T3 5) (S 5 [(d 0),(d 3),(d 4),(d 7),(d 8),(d 12),(.int .i64 0)] A))):=by kernel_rfl
theorem AhG:gL W0 m0 S Q 3 182 T3 L3 d 5 A=(Aa (Bi Tp A 29 (d 12)) λt0=>Aa (An Tp .lss 3 (.tmp 135) (.tmp 137) (d 14) t0) λt1=>Ai t1 (Aa (Ar Tp 29 (d 12) (d 14)) λt2=>Aa (Ae Tp A 35 t2) λt3=>Wc Tp Al W0 m0 14 [(d 7),t3] A λt4 At4=>Aa (unA Tp .not t4) λt5=>Ai t5 (Q (.bool false) At4) (Aa (An Tp .add 3 (.tmp 139) (.const (.int .i64 1)) (d 14) (.int .i64 1)) λt6=>BE (T3 5) (T3 5) (S 5 [(d 0),(d 3),(d 4),(d 7),(d 8),(d 12),t6] At4))) (Aa (An Tp .add 3 (.tmp 38) (.const (.int .i64 1)) (d 8) (.int .i64 1)) λt7=>BE (T3 0) (T3 0) (S 0 [(d 0),(d 3),(d 4),(d 12),(d 12),t7] A))):=by kernel_rfl
theorem AhF:gL W0 m0 S Q 3 182 T3 L3 d 7 A=(Aa (Bi Tp A 29 (d 6)) λt0=>Aa (An Tp .lss 3 (.tmp 153) (.tmp 155) (d 16) t0) λt1=>Ai t1 (Aa (Ar Tp 29 (d 6) (d 16)) λt2=>Aa (Ad Tp 35 t2 0) λt3=>Aa (Ae Tp A 32 t3) λt4=>Aa (Ad Tp 38 (d 9) 1) λt5=>Aa (Ad Tp 35 t5 0) λt6=>Aa (Ae Tp A 32 t6) λt7=>Aa (An Tp .neq 32 (.tmp 163) (.tmp 166) t4 t7) λt8=>Ai t8 (Aa (Ar Tp 29 (d 6) (d 16)) λt9=>Aa (Ae Tp A 35 t9) λt10=>Ao (Aq Tp A 29 1 [(0,t10)]) λt11 At11=>Ao (AU Tp At11 29 29 (d 15) t11) λt12 At12=>Aa (An Tp .add 3 (.tmp 157) (.const (.int .i64 1)) (d 16) (.int .i64 1)) λt13=>BE (T3 7) (T3 7) (S 7 [(d 0),(d 3),(d 4),(d 6),(d 7),(d 8),(d 9),t12,t13] At12)) (Aa (An Tp .add 3 (.tmp 157) (.const (.int .i64 1)) (d 16) (.int .i64 1)) λt14=>BE (T3 7) (T3 7) (S 7 [(d 0),(d 3),(d 4),(d 6),(d 7),(d 8),(d 9),(d 15),t14] A))) (Aa (Ad Tp 38 (d 9) 1) λt15=>Aa (Ad Tp 35 t15 0) λt16=>Aa (Ae Tp A 32 t16) λt17=>Wc Tp Al W0 m0 15 [(d 4),t17] A λt18 At18=>Aa (An Tp .add 3 (.tmp 38) (.const (.int .i64 1)) (d 8) (.int .i64 1)) λt19=>BE (T3 0) (T3 0) (S 0 [(d 0),(d 3),(d 4),(d 15),(d 7),t19] At18))):=by kernel_rfl
theorem w3:Wf1 3 182 T3 L3:=wf1 (λ_=>by kernel_rfl) (by decide) λ_=>rfl
theorem c3:EN 3 182 T3 L3:=E7 (by decide)
theorem e7:gE W0 m0 S Q 7 14 Tz Lz [a0] A=(Ao (CO A (Value.cells a0).toList 38) λt0 At0=>Aa (Ad Tp 38 t0 1) λt1=>Aa (Ad Tp 35 t1 1) λt2=>Aa (Ae Tp At0 33 t2) λt3=>Aa (Bi Tp At0 33 t3) λt4=>Aa (An Tp .gtr 3 (.tmp 6) (.const (.int .i64 20)) t4 (.int .i64 20)) λt5=>Ai t5 (Q (.bool true) At0) (Aa (Ad Tp 38 t0 3) λt6=>Aa (Ae Tp At0 36 t6) λt7=>Aa (Bi Tp At0 36 t7) λt8=>Aa (An Tp .gtr 3 (.tmp 11) (.const (.int .i64 20)) t8 (.int .i64 20)) λt9=>Q t9 At0)):=by kernel_rfl
theorem w7:Wf1 7 14 Tz Lz:=wf1 (λ_=>by kernel_rfl) (by decide) λ_=>rfl
noncomputable def T14:Nat->List Item:=λi=>match i with
 |0=>[(.code (cd 14 [1,0,1,0,0])),(.inLoop (cd 14 [1,0,1,0,0])),(.inBlock 0),(.code (cd 14 [1,1]))]
 |_=>[]
def L14:Nat->List Tmp:=λi=>match i with
 |0=>[0,3,5]
 |_=>[]
theorem e14:gE W0 m0 S Q 14 20 T14 L14 [a0,a1] A=(Ao (CO A (Value.cells a1).toList 35) λt0 At0=>BE (T14 0) (T14 0) (S 0 [a0,t0,(.int .i64 0)] At0)):=by kernel_rfl
theorem Afm:gL W0 m0 S Q 14 20 T14 L14 d 0 A=(Aa (Bi Tp A 29 (d 0)) λt0=>Aa (An Tp .lss 3 (.tmp 6) (.tmp 8) (d 5) t0) λt1=>Ai t1 (Aa (An Tp .add 3 (.tmp 14) (.const (.int .i64 1)) (d 5) (.int .i64 1)) λt2=>Aa (AX Tp A 29 (d 0) (some (d 5)) (some t2) none) λt3=>Aa (Ae Tp A 35 (d 3)) λt4=>Ao (Aq Tp A 29 1 [(0,t4)]) λt5 At5=>Cd (Bn Tp (BZ (Tm.fill ⟨1,.nil⟩ 0 [t4])) (.buildSlice 29 1 #[(0,.tmp 0)])) At5 t5 (Aa (Ae Tp At5 35 (d 3)) λt6=>eqW t6 t4 (Aa (AX Tp At5 29 (d 0) (some (d 5)) (some t2) none) λt7=>eqW t7 t3 (Aa (An Tp .add 3 (.tmp 14) (.const (.int .i64 1)) (d 5) (.int .i64 1)) λt8=>eqW t8 t2 (eqW (d 5) (d 5) (eqW (d 5) (d 5) (eqW (d 0) (d 0) (Wc Tp Al W0 m0 20 [t3,t5] At5 λt9 At9=>Ai t9 (Q (.bool true) At9) (Aa (An Tp .add 3 (.tmp 10) (.const (.int .i64 1)) (d 5) (.int .i64 1)) λt10=>BE (T14 0) (T14 0) (S 0 [(d 0),(d 3),t10] At9)))))))))) (Q (.bool false) A)):=by kernel_rfl
theorem w14:Wf2 14 20 T14 L14:=wf2 (λ_ _=>by kernel_rfl) (by decide) λ_ _=>rfl
theorem c14:EN 14 20 T14 L14:=E7 (by decide)
noncomputable def T20:Nat->List Item:=λi=>match i with
 |0=>[(.code (cd 20 [1,1,0,1,0,0])),(.inLoop (cd 20 [1,1,0,1,0,0])),(.inBlock 0),(.code (cd 20 [1,1,1]))]
 |_=>[]
def L20:Nat->List Tmp:=λi=>match i with
 |0=>[0,1,5]
 |_=>[]
theorem e20:gE W0 m0 S Q 20 42 T20 L20 [a0,a1] A=(Aa (Bi Tp A 29 a0) λt0=>Aa (Bi Tp A 29 a1) λt1=>Aa (An Tp .neq 3 (.tmp 7) (.tmp 9) t0 t1) λt2=>Ai t2 (Q (.bool false) A) (BE (T20 0) (T20 0) (S 0 [a0,a1,(.int .i64 0)] A))):=by kernel_rfl
theorem Afl:gL W0 m0 S Q 20 42 T20 L20 d 0 A=(Aa (Bi Tp A 29 (d 0)) λt0=>Aa (An Tp .lss 3 (.tmp 11) (.tmp 13) (d 5) t0) λt1=>Ai t1 (Aa (Ar Tp 29 (d 0) (d 5)) λt2=>Aa (Ad Tp 35 t2 0) λt3=>Aa (Ae Tp A 32 t3) λt4=>Aa (Ar Tp 29 (d 1) (d 5)) λt5=>Aa (Ad Tp 35 t5 0) λt6=>Aa (Ae Tp A 32 t6) λt7=>Aa (An Tp .neq 32 (.tmp 21) (.tmp 26) t4 t7) λt8=>Ai t8 (Q (.bool false) A) (Aa (Ar Tp 29 (d 0) (d 5)) λt9=>Aa (Ad Tp 35 t9 1) λt10=>Aa (Ae Tp A 33 t10) λt11=>Aa (Ar Tp 29 (d 1) (d 5)) λt12=>Aa (Ad Tp 35 t12 1) λt13=>Aa (Ae Tp A 33 t13) λt14=>Wc Tp Al W0 m0 56 [t11,t14] A λt15 At15=>Aa (unA Tp .not t15) λt16=>Ai t16 (Q (.bool false) At15) (Aa (An Tp .add 3 (.tmp 15) (.const (.int .i64 1)) (d 5) (.int .i64 1)) λt17=>BE (T20 0) (T20 0) (S 0 [(d 0),(d 1),t17] At15)))) (Q (.bool true) A)):=by kernel_rfl
theorem w20:Wf2 20 42 T20 L20:=wf2 (λ_ _=>by kernel_rfl) (by decide) λ_ _=>rfl
theorem c20:EN 20 42 T20 L20:=E7 (by decide)
noncomputable def T56:Nat->List Item:=λi=>match i with
 |0=>[(.code (cd 56 [1,1,0,1,0,0])),(.inLoop (cd 56 [1,1,0,1,0,0])),(.inBlock 0),(.code (cd 56 [1,1,1]))]
 |_=>[]
def L56:Nat->List Tmp:=λi=>match i with
 |0=>[0,1,5]
 |_=>[]
theorem e56:gE W0 m0 S Q 56 26 T56 L56 [a0,a1] A=(Aa (Bi Tp A 33 a0) λt0=>Aa (Bi Tp A 33 a1) λt1=>Aa (An Tp .neq 3 (.tmp 7) (.tmp 9) t0 t1) λt2=>Ai t2 (Q (.bool false) A) (BE (T56 0) (T56 0) (S 0 [a0,a1,(.int .i64 0)] A))):=by kernel_rfl
theorem Afb:gL W0 m0 S Q 56 26 T56 L56 d 0 A=(Aa (Bi Tp A 33 (d 0)) λt0=>Aa (An Tp .lss 3 (.tmp 11) (.tmp 13) (d 5) t0) λt1=>Ai t1 (Aa (Ar Tp 33 (d 0) (d 5)) λt2=>Aa (Ae Tp A 85 t2) λt3=>Aa (Ar Tp 33 (d 1) (d 5)) λt4=>Aa (Ae Tp A 85 t4) λt5=>Aa (An Tp .neq 85 (.tmp 20) (.tmp 24) t3 t5) λt6=>Ai t6 (Q (.bool false) A) (Aa (An Tp .add 3 (.tmp 15) (.const (.int .i64 1)) (d 5) (.int .i64 1)) λt7=>BE (T56 0) (T56 0) (S 0 [(d 0),(d 1),t7] A))) (Q (.bool true) A)):=by kernel_rfl
theorem w56:Wf2 56 26 T56 L56:=wf2 (λ_ _=>by kernel_rfl) (by decide) λ_ _=>rfl
theorem c56:EN 56 26 T56 L56:=E7 (by decide)
noncomputable def T6:Nat->List Item:=λi=>match i with
 |0=>[(.code (cd 6 [1,1,1,1,1,1,0,1,0,0])),(.inLoop (cd 6 [1,1,1,1,1,1,0,1,0,0])),(.inBlock 0),(.code (cd 6 [1,1,1,1,1,1,1]))]
 |_=>[]
def L6:Nat->List Tmp:=λi=>match i with
 |0=>[6,8,9,37,38,39]
 |_=>[]
theorem e6:gE W0 m0 S Q 6 78 T6 L6 [a0,a1] A=(Wc Tp Al W0 m0 27 [a0,a1] A λt0 At0=>Aa (Ap t0 0) λt1=>Aa (Ap t0 1) λt2=>Aa (An Tp .neq 26 (.tmp 19) (.const (.int .i64 0)) t2 (.int .i64 0)) λt3=>Ai t3 (Q (.tuple ⟨[(.pointer none),t2]⟩) At0) (Ao (G4 At0) λt4 At4=>Aa (Bd Tp 74 [(0,t1),(2,t4)]) λt5=>Ao (CO At4 (Value.cells t5).toList 74) λt6 At6=>Wc Tp Al W0 m0 29 [t1] At6 λt7 At7=>Wc Tp Al W0 m0 28 [t6,t7] At7 λt8 At8=>Aa (unA Tp .not t8) λt9=>Ai t9 (Q (.tuple ⟨[(.pointer none),(.int .i64 120)]⟩) At8) (Aa (Bd Tp 77 [(1,(.func (.func 30) ⟨[t6]⟩ ⟨[]⟩)),(2,(.func (.func 31) ⟨[t6]⟩ ⟨[]⟩))]) λt10=>Ao (BB Tp At8 77) λt11 At11=>Be (Av Tp At11 77 t11 t10) λAt12=>Wc Tp Al W0 m0 32 [t1] At12 λt13 At13=>Aa (Bi Tp At13 60 t13) λt14=>BE (T6 0) (T6 0) (S 0 [t1,t6,t11,t13,t14,(.int .i64 0)] At13)))):=by kernel_rfl
theorem AhE:gL W0 m0 S Q 6 78 T6 L6 d 0 A=(Aa (An Tp .lss 3 (.tmp 39) (.tmp 38) (d 39) (d 38)) λt0=>Ai t0 (Aa (Ar Tp 60 (d 37) (d 39)) λt1=>Aa (Ae Tp A 80 t1) λt2=>Ao (BB Tp A 80) λt3 At3=>Be (Av Tp At3 80 t3 t2) λAt4=>Aa (Ad Tp 80 t3 0) λt5=>Aa (Ae Tp At4 5 t5) λt6=>Aa (An Tp .gtr 5 (.tmp 44) (.const (.int .u8 2)) t6 (.int .u8 2)) λt7=>Ai t7 (Q (.tuple ⟨[(.pointer none),(.int .i64 120)]⟩) At4) (Aa (Ad Tp 80 t3 0) λt8=>Aa (Ae Tp At4 5 t8) λt9=>Aa (Ar Tp 77 (d 9) t9) λt10=>Aa (Ae Tp At4 75 t10) λt11=>Aa (Ad Tp 80 t3 1) λt12=>Aa (Ae Tp At4 9 t12) λt13=>anW Tp Al W0 m0 (D2 Tp At4 t11 [t13]) λt14 At14=>Aa (unA Tp .not t14) λt15=>Ai t15 (Q (.tuple ⟨[(.pointer none),(.int .i64 120)]⟩) At14) (Aa (An Tp .add 3 (.tmp 39) (.const (.int .i64 1)) (d 39) (.int .i64 1)) λt16=>BE (T6 0) (T6 0) (S 0 [(d 6),(d 8),(d 9),(d 37),(d 38),t16] At14)))) (Aa (AY (d 8)) λt17=>Aa (Ad Tp 74 t17 1) λt18=>Aa (Ae Tp A 30 t18) λt19=>Aa (An Tp .eql 30 (.tmp 60) (.const (.int .u32 2147483647)) t19 (.int .u32 2147483647)) λt20=>Ai t20 (Q (.tuple ⟨[(.pointer none),(.int .i64 6)]⟩) A) (Aa (AY (d 8)) λt21=>Aa (Ad Tp 74 t21 1) λt22=>Aa (Ae Tp A 30 t22) λt23=>Aa (An Tp .add 30 (.tmp 65) (.const (.int .u32 1)) t23 (.int .u32 1)) λt24=>Aa (AY (d 8)) λt25=>Aa (Ad Tp 74 t25 1) λt26=>Be (Av Tp A 30 t26 t24) λAt27=>Wc Tp Al W0 m0 35 [(d 8)] At27 λt28 At28=>Wc Tp Al W0 m0 34 [(d 6),t28] At28 λt29 At29=>Wc Tp Al W0 m0 33 [t29] At29 λt30 At30=>Aa (An Tp .neq 26 (.tmp 74) (.const (.int .i64 0)) t30 (.int .i64 0)) λt31=>Ai t31 (Q (.tuple ⟨[(.pointer none),t30]⟩) At30) (Q (.tuple ⟨[(d 8),(.int .i64 0)]⟩) At30)))):=by kernel_rfl
theorem w6:Wf2 6 78 T6 L6:=wf2 (λ_ _=>by kernel_rfl) (by decide) λ_ _=>rfl
theorem c6:EN 6 78 T6 L6:=E7 (by decide)
theorem e12:gE W0 m0 S Q 12 10 Tz Lz [a0] A=(Wc Tp Al W0 m0 38 [a0] A λt0 At0=>Aa (unA Tp .not t0) λt1=>Ai t1 (Q (.int .u32 0) At0) (Aa (AY a0) λt2=>Aa (Ad Tp 74 t2 1) λt3=>Aa (Ae Tp At0 30 t3) λt4=>Q t4 At0)):=by kernel_rfl
theorem w12:Wf1 12 10 Tz Lz:=wf1 (λ_=>by kernel_rfl) (by decide) λ_=>rfl
theorem e13:gE W0 m0 S Q 13 8 Tz Lz [a0] A=(Wc Tp Al W0 m0 38 [a0] A λt0 At0=>Aa (unA Tp .not t0) λt1=>Ai t1 (Q (.slice none 0 0) At0) (Wc Tp Al W0 m0 39 [a0] At0 λt2 At2=>Q t2 At2)):=by kernel_rfl
theorem w13:Wf1 13 8 Tz Lz:=wf1 (λ_=>by kernel_rfl) (by decide) λ_=>rfl
theorem e15:gE W0 m0 S Q 15 42 Tz Lz [a0,a1] A=(Ao (CO A (Value.cells a1).toList 32) λt0 At0=>Wc Tp Al W0 m0 38 [a0] At0 λt1 At1=>Aa (unA Tp .not t1) λt2=>Ai t2 (Q (.int .i64 1) At1) (Ao (BB Tp At1 35) λt3 At3=>Cd (Bn Tp (λ_=>undef) (.alloc 35)) At3 t3 (Aa (AY a0) λt4=>Aa (Ad Tp 74 t4 2) λt5=>Aa (Ae Tp At3 72 t5) λt6=>Aa (Ae Tp At3 32 t0) λt7=>Aa (Cu Tp At3 72 t6 t7 true) λt8=>Aa (Ap t8 0) λt9=>Aa (Ap t8 1) λt10=>Be (Av Tp At3 35 t3 t9) λAt11=>Aa (Ap t8 1) λt12=>eqW t12 t10 (Aa (unA Tp .not t10) λt13=>Ai t13 (Q (.int .i64 7) At11) (Aa (AY a0) λt14=>Aa (Ad Tp 74 t14 0) λt15=>Aa (Ae Tp At11 69 t15) λt16=>Aa (Ae Tp At11 32 t0) λt17=>Wc Tp Al W0 m0 41 [(.slice none 0 0),t17] At11 λt18 At18=>Aa (Ae Tp At18 69 t15) λt19=>eqW t19 t16 (Aa (Ad Tp 74 t14 0) λt20=>eqW t20 t15 (Aa (AY a0) λt21=>eqW t21 t14 (eqW a0 a0 (Ao (AQ Tp At18 92 9 t18) λt22 At22=>Aa (Bd Tp 80 [(0,(.int .u8 2)),(1,t22)]) λt23=>Wc Tp Al W0 m0 40 [t16,t23] At22 λt24 At24=>Wc Tp Al W0 m0 33 [t24] At24 λt25 At25=>Aa (An Tp .neq 26 (.tmp 32) (.const (.int .i64 0)) t25 (.int .i64 0)) λt26=>Ai t26 (Q t25 At25) (Aa (AY a0) λt27=>Aa (Ad Tp 74 t27 2) λt28=>Aa (Ae Tp At25 72 t28) λt29=>Aa (Ae Tp At25 32 t0) λt30=>Be (FJ Tp At25 72 t29 t30) λAt31=>Wc Tp Al W0 m0 42 [a0] At31 λt32 At32=>Q t32 At32)))))))))):=by kernel_rfl
theorem w15:Wf2 15 42 Tz Lz:=wf2 (λ_ _=>by kernel_rfl) (by decide) λ_ _=>rfl
theorem e16:gE W0 m0 S Q 16 58 Tz Lz [a0,a1] A=(Ao (CO A (Value.cells a1).toList 35) λt0 At0=>Wc Tp Al W0 m0 38 [a0] At0 λt1 At1=>Aa (unA Tp .not t1) λt2=>Ai t2 (Q (.int .i64 1) At1) (Aa (Ae Tp At1 35 t0) λt3=>Wc Tp Al W0 m0 43 [t3] At1 λt4 At4=>Aa (An Tp .neq 26 (.tmp 15) (.const (.int .i64 0)) t4 (.int .i64 0)) λt5=>Ai t5 (Q (.int .i64 260) At4) (Ao (BB Tp At4 35) λt6 At6=>Cd (Bn Tp (λ_=>undef) (.alloc 35)) At6 t6 (Aa (AY a0) λt7=>Aa (Ad Tp 74 t7 2) λt8=>Aa (Ae Tp At6 72 t8) λt9=>Aa (Ad Tp 35 t0 0) λt10=>Aa (Ae Tp At6 32 t10) λt11=>Aa (Cu Tp At6 72 t9 t11 true) λt12=>Aa (Ap t12 0) λt13=>Aa (Ap t12 1) λt14=>Be (Av Tp At6 35 t6 t13) λAt15=>Aa (Ap t12 1) λt16=>eqW t16 t14 (Ai t14 (Q (.int .i64 8) At15) (Aa (AY a0) λt17=>Aa (Ad Tp 74 t17 0) λt18=>Aa (Ae Tp At15 69 t18) λt19=>Aa (Ae Tp At15 35 t0) λt20=>Wc Tp Al W0 m0 44 [t20] At15 λt21 At21=>Aa (Ae Tp At21 69 t18) λt22=>eqW t22 t19 (Aa (Ad Tp 74 t17 0) λt23=>eqW t23 t18 (Aa (AY a0) λt24=>eqW t24 t17 (eqW a0 a0 (Ao (AQ Tp At21 92 9 t21) λt25 At25=>Aa (Bd Tp 80 [(0,(.int .u8 1)),(1,t25)]) λt26=>Wc Tp Al W0 m0 40 [t19,t26] At25 λt27 At27=>Wc Tp Al W0 m0 33 [t27] At27 λt28 At28=>Aa (An Tp .neq 26 (.tmp 38) (.const (.int .i64 0)) t28 (.int .i64 0)) λt29=>Ai t29 (Q t28 At28) (Aa (AY a0) λt30=>Aa (Ad Tp 74 t30 0) λt31=>Aa (Ae Tp At28 69 t31) λt32=>Wc Tp Al W0 m0 45 [t32] At28 λt33 At33=>Aa (An Tp .neq 26 (.tmp 46) (.const (.int .i64 0)) t33 (.int .i64 0)) λt34=>Ai t34 (Q t33 At33) (Aa (Ad Tp 35 t0 1) λt35=>Aa (Ae Tp At33 33 t35) λt36=>Wc Tp Al W0 m0 46 [t36] At33 λt37 At37=>Aa (Ad Tp 35 t0 1) λt38=>Be (Av Tp At37 33 t38 t37) λAt39=>Aa (Ae Tp At39 35 t0) λt40=>Wc Tp Al W0 m0 47 [a0,t40] At39 λt41 At41=>Wc Tp Al W0 m0 42 [a0] At41 λt42 At42=>Q t42 At42)))))))))))):=by kernel_rfl
theorem w16:Wf2 16 58 Tz Lz:=wf2 (λ_ _=>by kernel_rfl) (by decide) λ_ _=>rfl
noncomputable def T28:Nat->List Item:=λi=>match i with
 |0=>[(.code (cd 28 [1,1,1,1,0,1,0,0])),(.inLoop (cd 28 [1,1,1,1,0,1,0,0])),(.inBlock 0),(.code (cd 28 [1,1,1,1,1]))]
 |_=>[]
def L28:Nat->List Tmp:=λi=>match i with
 |0=>[0,1,5,6]
 |_=>[]
theorem e28:gE W0 m0 S Q 28 62 T28 L28 [a0,a1] A=(Aa (An Tp .eql 9 (.tmp 9) (.const (.string ⟨⟨[]⟩⟩)) a1 (.string ⟨⟨[]⟩⟩)) λt0=>Ai t0 (Q (.bool true) A) (Ao (AQ Tp A 9 92 a1) λt1 At1=>Wc Tp Al W0 m0 84 [t1] At1 λt2 At2=>Wc Tp Al W0 m0 85 [t2,(.int .i64 4)] At2 λt3 At3=>Ao (AQ Tp At3 136 30 t3) λt4 At4=>Aa (AY a0) λt5=>Aa (Ad Tp 74 t5 1) λt6=>Be (Av Tp At4 30 t6 t4) λAt7=>Wc Tp Al W0 m0 85 [t2,(.int .i64 2)] At7 λt8 At8=>BE (T28 0) (T28 0) (S 0 [a0,a1,t2,t8] At8))):=by kernel_rfl
theorem Afh:gL W0 m0 S Q 28 62 T28 L28 d 0 A=(Aa (An Tp .gtr 136 (.tmp 22) (.const (.int .u64 0)) (d 6) (.int .u64 0)) λt0=>Ai t0 (Wc Tp Al W0 m0 86 [(d 5)] A λt1 At1=>Aa (Ap t1 0) λt2=>Aa (Ap t1 1) λt3=>Ao (BB Tp At1 35) λt4 At4=>Be (Av Tp At4 35 t4 t2) λAt5=>Aa (unA Tp .not t3) λt6=>Ai t6 (Q (.bool false) At5) (Aa (Ae Tp At5 35 t4) λt7=>Wc Tp Al W0 m0 47 [(d 0),t7] At5 λt8 At8=>Aa (unA Tp .not t8) λt9=>Ai t9 (Q (.bool false) At8) (Aa (An Tp .sub 136 (.tmp 24) (.const (.int .u64 1)) (d 6) (.int .u64 1)) λt10=>BE (T28 0) (T28 0) (S 0 [(d 0),(d 1),(d 5),t10] At8)))) (Wc Tp Al W0 m0 87 [(d 5)] A λt11 At11=>Aa (unA Tp .not t11) λt12=>Ai t12 (Aa (AY (d 0)) λt13=>Aa (Ad Tp 74 t13 1) λt14=>Aa (Ae Tp At11 30 t14) λt15=>Aa (An Tp .geq 30 (.tmp 46) (.const (.int .u32 1)) t15 (.int .u32 1)) λt16=>Ai t16 (Aa (AY (d 0)) λt17=>Aa (Ad Tp 74 t17 1) λt18=>Aa (Ae Tp At11 30 t18) λt19=>Aa (An Tp .leq 30 (.tmp 53) (.const (.int .u32 2147483647)) t19 (.int .u32 2147483647)) λt20=>Ai t20 (Wc Tp Al W0 m0 35 [(d 0)] At11 λt21 At21=>Aa (An Tp .eql 9 (.tmp 58) (.tmp 59) t21 (d 1)) λt22=>Q t22 At21) (Q (.bool false) At11)) (Q (.bool false) At11)) (Q (.bool false) At11))):=by kernel_rfl
theorem w28:Wf2 28 62 T28 L28:=wf2 (λ_ _=>by kernel_rfl) (by decide) λ_ _=>rfl
theorem c28:EN 28 62 T28 L28:=E7 (by decide)
theorem e30:gE W0 m0 S Q 30 19 Tz Lz [a0,a1] A=(Wc Tp Al W0 m0 89 [a1] A λt0 At0=>Aa (Ap t0 0) λt1=>Aa (Ap t0 1) λt2=>Ao (BB Tp At0 35) λt3 At3=>Be (Av Tp At3 35 t3 t1) λAt4=>Aa (An Tp .eql 26 (.tmp 12) (.const (.int .i64 0)) t2 (.int .i64 0)) λt5=>Ai t5 (Aa (Ae Tp At4 35 t3) λt6=>Wc Tp Al W0 m0 47 [a0,t6] At4 λt7 At7=>Q t7 At7) (Q (.bool false) At4)):=by kernel_rfl
theorem w30:Wf2 30 19 Tz Lz:=wf2 (λ_ _=>by kernel_rfl) (by decide) λ_ _=>rfl
theorem e31:gE W0 m0 S Q 31 42 Tz Lz [a0,a1] A=(Ao (AQ Tp A 9 92 a1) λt0 At0=>Wc Tp Al W0 m0 90 [t0] At0 λt1 At1=>Aa (Ap t1 0) λt2=>Aa (Ap t1 1) λt3=>Aa (Ap t1 2) λt4=>Ao (BB Tp At1 32) λt5 At5=>Be (Av Tp At5 32 t5 t2) λAt6=>Ao (BB Tp At6 35) λt7 At7=>Cd (Bn Tp (λ_=>undef) (.alloc 35)) At7 t7 (Aa (AY a0) λt8=>Aa (Ad Tp 74 t8 2) λt9=>Aa (Ae Tp At7 72 t9) λt10=>Aa (Ae Tp At7 32 t5) λt11=>Aa (Cu Tp At7 72 t10 t11 true) λt12=>Aa (Ap t12 0) λt13=>Aa (Ap t12 1) λt14=>Be (Av Tp At7 35 t7 t13) λAt15=>Aa (Ap t12 1) λt16=>eqW t16 t14 (Aa (AY a0) λt17=>Aa (Ad Tp 74 t17 2) λt18=>Aa (Ae Tp At15 72 t18) λt19=>Aa (Ae Tp At15 32 t5) λt20=>Be (FJ Tp At15 72 t19 t20) λAt21=>Aa (An Tp .eql 26 (.tmp 31) (.const (.int .i64 0)) t4 (.int .i64 0)) λt22=>Ai t22 (Aa (Bi Tp At21 9 a1) λt23=>Aa (An Tp .eql 3 (.tmp 34) (.tmp 36) t3 t23) λt24=>Ai t24 (Q t14 At21) (Q (.bool false) At21)) (Q (.bool false) At21)))):=by kernel_rfl
theorem w31:Wf2 31 42 Tz Lz:=wf2 (λ_ _=>by kernel_rfl) (by decide) λ_ _=>rfl
theorem e33:gE W0 m0 S Q 33 6 Tz Lz [a0] A=(Aa (An Tp .eql 26 (.tmp 3) (.const (.int .i64 3)) a0 (.int .i64 3)) λt0=>Ai t0 (Q (.int .i64 6) A) (Q a0 A)):=by kernel_rfl
theorem w33:Wf1 33 6 Tz Lz:=wf1 (λ_=>by kernel_rfl) (by decide) λ_=>rfl
noncomputable def T35:Nat->List Item:=λi=>match i with
 |0=>[(.code (cd 35 [1,1,1,0,1,0,0])),(.inLoop (cd 35 [1,1,1,0,1,0,0])),(.inBlock 0),(.code (cd 35 [1,1,1,1]))]
 |_=>[]
def L35:Nat->List Tmp:=λi=>match i with
 |0=>[4,19,20,21]
 |_=>[]
theorem e35:gE W0 m0 S Q 35 32 T35 L35 [a0] A=(Wc Tp Al W0 m0 39 [a0] A λt0 At0=>Aa (AY a0) λt1=>Aa (Ad Tp 74 t1 1) λt2=>Aa (Ae Tp At0 30 t2) λt3=>Ao (AQ Tp At0 30 136 t3) λt4 At4=>Wc Tp Al W0 m0 94 [(.slice none 0 0),t4,(.int .i64 4)] At4 λt5 At5=>Aa (Bi Tp At5 29 t0) λt6=>Ao (AQ Tp At5 3 136 t6) λt7 At7=>Wc Tp Al W0 m0 94 [t5,t7,(.int .i64 2)] At7 λt8 At8=>Aa (Bi Tp At8 29 t0) λt9=>BE (T35 0) (T35 0) (S 0 [t8,t0,t9,(.int .i64 0)] At8)):=by kernel_rfl
theorem Aff:gL W0 m0 S Q 35 32 T35 L35 d 0 A=(Aa (An Tp .lss 3 (.tmp 21) (.tmp 20) (d 21) (d 20)) λt0=>Ai t0 (Aa (Ar Tp 29 (d 19) (d 21)) λt1=>Aa (Ae Tp A 35 t1) λt2=>Ao (BB Tp A 35) λt3 At3=>Be (Av Tp At3 35 t3 t2) λAt4=>Aa (Ae Tp At4 35 t3) λt5=>Wc Tp Al W0 m0 44 [t5] At4 λt6 At6=>Ao (AU Tp At6 92 92 (d 4) t6) λt7 At7=>Aa (An Tp .add 3 (.tmp 21) (.const (.int .i64 1)) (d 21) (.int .i64 1)) λt8=>BE (T35 0) (T35 0) (S 0 [t7,(d 19),(d 20),t8] At7)) (Ao (AQ Tp A 92 9 (d 4)) λt9 At9=>Q t9 At9)):=by kernel_rfl
theorem w35:Wf1 35 32 T35 L35:=wf1 (λ_=>by kernel_rfl) (by decide) λ_=>rfl
theorem c35:EN 35 32 T35 L35:=E7 (by decide)
theorem e38:gE W0 m0 S Q 38 12 Tz Lz [a0] A=(Aa (An Tp .neq 25 (.tmp 3) (.const (.pointer none)) a0 (.pointer none)) λt0=>Ai t0 (Aa (AY a0) λt1=>Aa (Ad Tp 74 t1 2) λt2=>Aa (Ae Tp A 72 t2) λt3=>Aa (An Tp .neq 72 (.tmp 9) (.const (.map none)) t3 (.map none)) λt4=>Q t4 A) (Q (.bool false) A)):=by kernel_rfl
theorem w38:Wf1 38 12 Tz Lz:=wf1 (λ_=>by kernel_rfl) (by decide) λ_=>rfl
noncomputable def T39:Nat->List Item:=λi=>match i with
 |0=>[(.code (cd 39 [1,1,0,1,0,0])),(.inLoop (cd 39 [1,1,0,1,0,0])),(.inBlock 0),(.code (cd 39 [1,1,1]))]
 |_=>[]
def L39:Nat->List Tmp:=λi=>match i with
 |0=>[0,3,12,13,14]
 |_=>[]
theorem e39:gE W0 m0 S Q 39 34 T39 L39 [a0] A=(Aa (AY a0) λt0=>Aa (Ad Tp 74 t0 2) λt1=>Aa (Ae Tp A 72 t1) λt2=>Wc Tp Al W0 m0 98 [t2] A λt3 At3=>Wc Tp Al W0 m0 97 [t3,(.func (.func 99) #[] #[])] At3 λt4 At4=>Aa (Bi Tp At4 148 t4) λt5=>BE (T39 0) (T39 0) (S 0 [a0,(.slice none 0 0),t4,t5,(.int .i64 0)] At4)):=by kernel_rfl
theorem Afe:gL W0 m0 S Q 39 34 T39 L39 d 0 A=(Aa (An Tp .lss 3 (.tmp 14) (.tmp 13) (d 14) (d 13)) λt0=>Ai t0 (Aa (Ar Tp 148 (d 12) (d 14)) λt1=>Aa (Ae Tp A 32 t1) λt2=>Ao (BB Tp A 32) λt3 At3=>Be (Av Tp At3 32 t3 t2) λAt4=>Ao (BB Tp At4 35) λt5 At5=>Cd (Bn Tp (λ_=>undef) (.alloc 35)) At5 t5 (Aa (AY (d 0)) λt6=>Aa (Ad Tp 74 t6 2) λt7=>Aa (Ae Tp At5 72 t7) λt8=>Aa (Ae Tp At5 32 t3) λt9=>Aa (Cu Tp At5 72 t8 t9 false) λt10=>Be (Av Tp At5 35 t5 t10) λAt11=>Aa (Ad Tp 35 t5 1) λt12=>Aa (Ae Tp At11 33 t12) λt13=>Wc Tp Al W0 m0 46 [t13] At11 λt14 At14=>Aa (Ad Tp 35 t5 1) λt15=>Be (Av Tp At14 33 t15 t14) λAt16=>Aa (Ae Tp At16 35 t5) λt17=>Ao (Aq Tp At16 29 1 [(0,t17)]) λt18 At18=>Ao (AU Tp At18 29 29 (d 3) t18) λt19 At19=>Aa (An Tp .add 3 (.tmp 14) (.const (.int .i64 1)) (d 14) (.int .i64 1)) λt20=>BE (T39 0) (T39 0) (S 0 [(d 0),t19,(d 12),(d 13),t20] At19))) (Q (d 3) A)):=by kernel_rfl
theorem w39:Wf1 39 34 T39 L39:=wf1 (λ_=>by kernel_rfl) (by decide) λ_=>rfl
theorem c39:EN 39 34 T39 L39:=E7 (by decide)
theorem e41:gE W0 m0 S Q 41 15 Tz Lz [a0,a1] A=(Ao (CO A (Value.cells a1).toList 32) λt0 At0=>Aa (Ae Tp At0 32 t0) λt1=>Wc Tp Al W0 m0 101 [t1] At0 λt2 At2=>Aa (Ap t2 0) λt3=>Aa (Ap t2 1) λt4=>Ao (AU Tp At2 92 92 a0 t3) λt5 At5=>Q t5 At5):=by kernel_rfl
theorem w41:Wf2 41 15 Tz Lz:=wf2 (λ_ _=>by kernel_rfl) (by decide) λ_ _=>rfl
theorem e42:gE W0 m0 S Q 42 20 Tz Lz [a0] A=(Aa (AY a0) λt0=>Aa (Ad Tp 74 t0 0) λt1=>Aa (Ae Tp A 69 t1) λt2=>Wc Tp Al W0 m0 32 [t2] A λt3 At3=>Aa (Bi Tp At3 60 t3) λt4=>Aa (An Tp .geq 3 (.tmp 8) (.const (.int .i64 64)) t4 (.int .i64 64)) λt5=>Ai t5 (Aa (AY a0) λt6=>Aa (Ad Tp 74 t6 0) λt7=>Aa (Ae Tp At3 69 t7) λt8=>Wc Tp Al W0 m0 35 [a0] At3 λt9 At9=>Aa (Ae Tp At9 69 t7) λt10=>eqW t10 t8 (Aa (Ad Tp 74 t6 0) λt11=>eqW t11 t7 (Aa (AY a0) λt12=>eqW t12 t6 (eqW a0 a0 (Wc Tp Al W0 m0 34 [t8,t9] At9 λt13 At13=>Aa (An Tp .eql 26 (.tmp 17) (.const (.int .i64 100)) t13 (.int .i64 100)) λt14=>Ai t14 (Q (.int .i64 100) At13) (Q (.int .i64 0) At13)))))) (eqW undef undef (eqW undef undef (eqW undef undef (eqW undef undef (Q (.int .i64 0) At3)))))):=by kernel_rfl
theorem w42:Wf1 42 20 Tz Lz:=wf1 (λ_=>by kernel_rfl) (by decide) λ_=>rfl
noncomputable def T43:Nat->List Item:=λi=>match i with
 |0=>[(.code (cd 43 [1,1,1,0,1,0,0])),(.inLoop (cd 43 [1,1,1,0,1,0,0])),(.inBlock 0),(.code (cd 43 [1,1,1,1]))]
 |_=>[]
def L43:Nat->List Tmp:=λi=>match i with
 |0=>[1,3,29,30,31]
 |_=>[]
theorem e43:gE W0 m0 S Q 43 66 T43 L43 [a0] A=(Ao (CO A (Value.cells a0).toList 35) λt0 At0=>Aa (Ad Tp 35 t0 0) λt1=>Aa (Ae Tp At0 32 t1) λt2=>Wc Tp Al W0 m0 102 [t2] At0 λt3 At3=>Aa (An Tp .neq 26 (.tmp 8) (.const (.int .i64 0)) t3 (.int .i64 0)) λt4=>Ai t4 (Q (.int .i64 260) At3) (Aa (Ad Tp 35 t0 0) λt5=>Aa (Ad Tp 32 t5 2) λt6=>Aa (Ae Tp At3 9 t6) λt7=>Aa (An Tp .neq 9 (.tmp 13) (.const (.string ⟨⟨[]⟩⟩)) t7 (.string ⟨⟨[]⟩⟩)) λt8=>Ai t8 (Q (.int .i64 260) At3) (Aa (Ad Tp 35 t0 1) λt9=>Aa (Ae Tp At3 33 t9) λt10=>Aa (Bi Tp At3 33 t10) λt11=>Aa (An Tp .lss 3 (.tmp 19) (.const (.int .i64 1)) t11 (.int .i64 1)) λt12=>Ai t12 (Q (.int .i64 260) At3) (Aa (Ad Tp 35 t0 1) λt13=>Aa (Ae Tp At3 33 t13) λt14=>Aa (Bi Tp At3 33 t14) λt15=>Aa (An Tp .gtr 3 (.tmp 25) (.const (.int .i64 8)) t15 (.int .i64 8)) λt16=>Ai t16 (Q (.int .i64 260) At3) (Aa (Ad Tp 35 t0 1) λt17=>Aa (Ae Tp At3 33 t17) λt18=>Aa (Bi Tp At3 33 t18) λt19=>BE (T43 0) (T43 0) (S 0 [t0,(.int .u8 0),t18,t19,(.int .i64 0)] At3)))))):=by kernel_rfl
theorem Afd:gL W0 m0 S Q 43 66 T43 L43 d 0 A=(Aa (An Tp .lss 3 (.tmp 31) (.tmp 30) (d 31) (d 30)) λt0=>Ai t0 (Aa (Ar Tp 33 (d 29) (d 31)) λt1=>Aa (Ae Tp A 85 t1) λt2=>Ao (BB Tp A 85) λt3 At3=>Be (Av Tp At3 85 t3 t2) λAt4=>Aa (Ad Tp 85 t3 0) λt5=>Aa (Ae Tp At4 5 t5) λt6=>Aa (An Tp .leq 5 (.tmp 36) (.tmp 37) t6 (d 3)) λt7=>Ai t7 (Q (.int .i64 260) At4) (Aa (Ad Tp 85 t3 0) λt8=>Aa (Ae Tp At4 5 t8) λt9=>Aa (An Tp .gtr 5 (.tmp 41) (.const (.int .u8 8)) t9 (.int .u8 8)) λt10=>Ai t10 (Q (.int .i64 260) At4) (Aa (Ad Tp 85 t3 2) λt11=>Aa (Ae Tp At4 83 t11) λt12=>Aa (An Tp .neq 83 (.tmp 46) (.const (.int .u8 0)) t12 (.int .u8 0)) λt13=>Ai t13 (Q (.int .i64 260) At4) (Aa (Ad Tp 85 t3 1) λt14=>Aa (Ae Tp At4 32 t14) λt15=>Wc Tp Al W0 m0 102 [t15] At4 λt16 At16=>Aa (An Tp .neq 26 (.tmp 52) (.const (.int .i64 0)) t16 (.int .i64 0)) λt17=>Ai t17 (Q (.int .i64 260) At16) (Aa (Ad Tp 85 t3 1) λt18=>Aa (Ae Tp At16 32 t18) λt19=>Aa (Ad Tp 35 (d 1) 0) λt20=>Aa (Ae Tp At16 32 t20) λt21=>Wc Tp Al W0 m0 103 [t19,t21] At16 λt22 At22=>Aa (unA Tp .not t22) λt23=>Ai t23 (Q (.int .i64 260) At22) (Aa (Ad Tp 85 t3 0) λt24=>Aa (Ae Tp At22 5 t24) λt25=>Aa (An Tp .add 3 (.tmp 31) (.const (.int .i64 1)) (d 31) (.int .i64 1)) λt26=>BE (T43 0) (T43 0) (S 0 [(d 1),t25,(d 29),(d 30),t26] At22))))))) (Q (.int .i64 0) A)):=by kernel_rfl
theorem w43:Wf1 43 66 T43 L43:=wf1 (λ_=>by kernel_rfl) (by decide) λ_=>rfl
theorem c43:EN 43 66 T43 L43:=E7 (by decide)
noncomputable def T44:Nat->List Item:=λi=>match i with
 |0=>[(.code (cd 44 [1,1,0,1,0,0])),(.inLoop (cd 44 [1,1,0,1,0,0])),(.inBlock 0),(.code (cd 44 [1,1,1]))]
 |_=>[]
def L44:Nat->List Tmp:=λi=>match i with
 |0=>[3,16,17,18]
 |_=>[]
theorem e44:gE W0 m0 S Q 44 32 T44 L44 [a0] A=(Ao (CO A (Value.cells a0).toList 35) λt0 At0=>Aa (Ad Tp 35 t0 0) λt1=>Aa (Ae Tp At0 32 t1) λt2=>Aa (Ad Tp 35 t0 1) λt3=>Aa (Ae Tp At0 33 t3) λt4=>Aa (Bi Tp At0 33 t4) λt5=>Ao (AQ Tp At0 3 5 t5) λt6 At6=>Ao (Aq Tp At6 92 1 [(0,t6)]) λt7 At7=>Cd (Bn Tp (BZ (Tm.fill ⟨1,.nil⟩ 0 [t6])) (.buildSlice 92 1 #[(0,.tmp 0)])) At7 t7 (Ao (AQ Tp At7 3 5 t5) λt8 _=>eqW t8 t6 (Aa (Bi Tp At7 33 t4) λt9=>eqW t9 t5 (Aa (Ae Tp At7 33 t3) λt10=>eqW t10 t4 (Aa (Ad Tp 35 t0 1) λt11=>eqW t11 t3 (Aa (Ae Tp At7 32 t1) λt12=>eqW t12 t2 (Aa (Ad Tp 35 t0 0) λt13=>eqW t13 t1 (Wc Tp Al W0 m0 41 [(.slice none 0 0),t2] At7 λt14 At14=>Cd (Bn Tp (BZ (Tm.fill ⟨1,.nil⟩ 0 [t6])) (.buildSlice 92 1 #[(0,.tmp 0)])) At14 t7 (Ao (AQ Tp At14 3 5 t5) λt15 _=>eqW t15 t6 (Aa (Bi Tp At14 33 t4) λt16=>eqW t16 t5 (Aa (Ae Tp At14 33 t3) λt17=>eqW t17 t4 (Aa (Ad Tp 35 t0 1) λt18=>eqW t18 t3 (Ao (AU Tp At14 92 92 t14 t7) λt19 At19=>Aa (Ad Tp 35 t0 1) λt20=>Aa (Ae Tp At19 33 t20) λt21=>Aa (Bi Tp At19 33 t21) λt22=>BE (T44 0) (T44 0) (S 0 [t19,t21,t22,(.int .i64 0)] At19)))))))))))))):=by kernel_rfl
theorem Afc:gL W0 m0 S Q 44 32 T44 L44 d 0 A=(Aa (An Tp .lss 3 (.tmp 18) (.tmp 17) (d 18) (d 17)) λt0=>Ai t0 (Aa (Ar Tp 33 (d 16) (d 18)) λt1=>Aa (Ae Tp A 85 t1) λt2=>Ao (BB Tp A 85) λt3 At3=>Be (Av Tp At3 85 t3 t2) λAt4=>Aa (Ad Tp 85 t3 0) λt5=>Aa (Ae Tp At4 5 t5) λt6=>Ao (Aq Tp At4 92 1 [(0,t6)]) λt7 At7=>Cd (Bn Tp (BZ (Tm.fill ⟨1,.nil⟩ 0 [t6])) (.buildSlice 92 1 #[(0,.tmp 0)])) At7 t7 (Aa (Ae Tp At7 5 t5) λt8=>eqW t8 t6 (Aa (Ad Tp 85 t3 0) λt9=>eqW t9 t5 (eqW (d 3) (d 3) (Aa (Ad Tp 85 t3 1) λt10=>Aa (Ae Tp At7 32 t10) λt11=>Ao (AU Tp At7 92 92 (d 3) t7) λt12 At12=>Aa (Ae Tp At12 32 t10) λt13=>eqW t13 t11 (Aa (Ad Tp 85 t3 1) λt14=>eqW t14 t10 (Wc Tp Al W0 m0 41 [t12,t11] At12 λt15 At15=>Aa (An Tp .add 3 (.tmp 18) (.const (.int .i64 1)) (d 18) (.int .i64 1)) λt16=>BE (T44 0) (T44 0) (S 0 [t15,(d 16),(d 17),t16] At15)))))))) (Q (d 3) A)):=by kernel_rfl
theorem w44:Wf1 44 32 T44 L44:=wf1 (λ_=>by kernel_rfl) (by decide) λ_=>rfl
theorem c44:EN 44 32 T44 L44:=E7 (by decide)
theorem e46:gE W0 m0 S Q 46 8 Tz Lz [a0] A=(Aa (An Tp .eql 33 (.tmp 3) (.const (.slice none 0 0)) a0 (.slice none 0 0)) λt0=>Ai t0 (Q (.slice none 0 0) A) (Ao (Aq Tp A 33 0 []) λt1 At1=>Ao (AU Tp At1 33 33 t1 a0) λt2 At2=>Q t2 At2)):=by kernel_rfl
theorem w46:Wf1 46 8 Tz Lz:=wf1 (λ_=>by kernel_rfl) (by decide) λ_=>rfl
theorem e47:gE W0 m0 S Q 47 26 Tz Lz [a0,a1] A=(Ao (CO A (Value.cells a1).toList 35) λt0 At0=>Ao (BB Tp At0 35) λt1 At1=>Cd (Bn Tp (λ_=>undef) (.alloc 35)) At1 t1 (Aa (AY a0) λt2=>Aa (Ad Tp 74 t2 2) λt3=>Aa (Ae Tp At1 72 t3) λt4=>Aa (Ad Tp 35 t0 0) λt5=>Aa (Ae Tp At1 32 t5) λt6=>Aa (Cu Tp At1 72 t4 t6 true) λt7=>Aa (Ap t7 0) λt8=>Aa (Ap t7 1) λt9=>Be (Av Tp At1 35 t1 t8) λAt10=>Aa (Ap t7 1) λt11=>eqW t11 t9 (Aa (AY a0) λt12=>Aa (Ad Tp 74 t12 2) λt13=>Aa (Ae Tp At10 72 t13) λt14=>Aa (Ad Tp 35 t0 0) λt15=>Aa (Ae Tp At10 32 t15) λt16=>Aa (Ae Tp At10 35 t0) λt17=>Be (Cp Tp At10 72 t14 t16 t17) λAt18=>Aa (unA Tp .not t9) λt19=>Q t19 At18))):=by kernel_rfl
theorem w47:Wf2 47 26 Tz Lz:=wf2 (λ_ _=>by kernel_rfl) (by decide) λ_ _=>rfl
noncomputable def T86:Nat->List Item:=λi=>match i with
 |0=>[(.code (cd 86 [1,1,0,1,0,0])),(.inLoop (cd 86 [1,1,0,1,0,0])),(.inBlock 0),(.code (cd 86 [1,1,1]))]
 |_=>[]
def L86:Nat->List Tmp:=λi=>match i with
 |0=>[0,2,4,5]
 |_=>[]
theorem e86:gE W0 m0 S Q 86 43 T86 L86 [a0] A=(Ao (BB Tp A 35) λt0 At0=>Wc Tp Al W0 m0 150 [a0] At0 λt1 At1=>Aa (Bd Tp 35 [(0,t1)]) λt2=>Ao (BB Tp At1 35) λt3 At3=>Be (Av Tp At3 35 t3 t2) λAt4=>Wc Tp Al W0 m0 85 [a0,(.int .i64 1)] At4 λt5 At5=>BE (T86 0) (T86 0) (S 0 [a0,t0,t3,t5] At5)):=by kernel_rfl
theorem Ae5:gL W0 m0 S Q 86 43 T86 L86 d 0 A=(Aa (An Tp .gtr 136 (.tmp 12) (.const (.int .u64 0)) (d 5) (.int .u64 0)) λt0=>Ai t0 (Wc Tp Al W0 m0 87 [(d 0)] A λt1 At1=>Aa (unA Tp .not t1) λt2=>Ai t2 (Wc Tp Al W0 m0 85 [(d 0),(.int .i64 1)] At1 λt3 At3=>Ao (AQ Tp At3 136 5 t3) λt4 At4=>Aa (Bd Tp 85 [(0,t4)]) λt5=>Ao (BB Tp At4 85) λt6 At6=>Be (Av Tp At6 85 t6 t5) λAt7=>Wc Tp Al W0 m0 150 [(d 0)] At7 λt8 At8=>Aa (Ad Tp 85 t6 1) λt9=>Be (Av Tp At8 32 t9 t8) λAt10=>Aa (Ad Tp 35 (d 4) 1) λt11=>Aa (Ae Tp At10 33 t11) λt12=>Aa (Ae Tp At10 85 t6) λt13=>Ao (Aq Tp At10 33 1 [(0,t13)]) λt14 At14=>Ao (AU Tp At14 33 33 t12 t14) λt15 At15=>Aa (Ad Tp 35 (d 4) 1) λt16=>Be (Av Tp At15 33 t16 t15) λAt17=>Aa (An Tp .sub 136 (.tmp 19) (.const (.int .u64 1)) (d 5) (.int .u64 1)) λt18=>BE (T86 0) (T86 0) (S 0 [(d 0),(d 2),(d 4),t18] At17)) (Aa (Ae Tp At1 35 (d 4)) λt19=>Wc Tp Al W0 m0 87 [(d 0)] At1 λt20 At20=>Aa (Ae Tp At20 35 (d 4)) λt21=>eqW t21 t19 (Aa (unA Tp .not t20) λt22=>Ai t22 (Aa (Ae Tp At20 35 (d 4)) λt23=>Wc Tp Al W0 m0 43 [t23] At20 λt24 At24=>Aa (Ae Tp At24 35 (d 4)) λt25=>eqW t25 t19 (Aa (An Tp .eql 26 (.tmp 40) (.const (.int .i64 0)) t24 (.int .i64 0)) λt26=>Be (Av Tp At24 35 (d 2) t19) λAt27=>eqW t26 t26 (Aa (An Tp .eql 26 (.tmp 40) (.const (.int .i64 0)) t24 (.int .i64 0)) λt28=>eqW t28 t26 (Aa (Ae Tp At27 35 (d 2)) λt29=>Q (.tuple ⟨[t29,t26]⟩) At27)))) (Aa (Ae Tp At20 35 (d 4)) λt30=>eqW t30 t19 (Be (Av Tp At20 35 (d 2) t19) λAt31=>eqW (.bool false) (.bool false) (eqW undef undef (Aa (Ae Tp At31 35 (d 2)) λt32=>Q (.tuple ⟨[t32,(.bool false)]⟩) At31))))))) (Aa (Ae Tp A 35 (d 4)) λt33=>Wc Tp Al W0 m0 87 [(d 0)] A λt34 At34=>Aa (Ae Tp At34 35 (d 4)) λt35=>eqW t35 t33 (Aa (unA Tp .not t34) λt36=>Ai t36 (Aa (Ae Tp At34 35 (d 4)) λt37=>Wc Tp Al W0 m0 43 [t37] At34 λt38 At38=>Aa (Ae Tp At38 35 (d 4)) λt39=>eqW t39 t33 (Aa (An Tp .eql 26 (.tmp 40) (.const (.int .i64 0)) t38 (.int .i64 0)) λt40=>Be (Av Tp At38 35 (d 2) t33) λAt41=>eqW t40 t40 (Aa (An Tp .eql 26 (.tmp 40) (.const (.int .i64 0)) t38 (.int .i64 0)) λt42=>eqW t42 t40 (Aa (Ae Tp At41 35 (d 2)) λt43=>Q (.tuple ⟨[t43,t40]⟩) At41)))) (Aa (Ae Tp At34 35 (d 4)) λt44=>eqW t44 t33 (Be (Av Tp At34 35 (d 2) t33) λAt45=>eqW (.bool false) (.bool false) (eqW undef undef (Aa (Ae Tp At45 35 (d 2)) λt46=>Q (.tuple ⟨[t46,(.bool false)]⟩) At45))))))):=by kernel_rfl
theorem w86:Wf1 86 43 T86 L86:=wf1 (λ_=>by kernel_rfl) (by decide) λ_=>rfl
theorem c86:EN 86 43 T86 L86:=E7 (by decide)
theorem e89:gE W0 m0 S Q 89 24 Tz Lz [a0] A=(Ao (BB Tp A 35) λt0 At0=>Ao (AQ Tp At0 9 92 a0) λt1 At1=>Wc Tp Al W0 m0 84 [t1] At1 λt2 At2=>Wc Tp Al W0 m0 86 [t2] At2 λt3 At3=>Aa (Ap t3 0) λt4=>Aa (Ap t3 1) λt5=>Ao (BB Tp At3 35) λt6 At6=>Be (Av Tp At6 35 t6 t4) λAt7=>Aa (unA Tp .not t5) λt8=>Ai t8 (Aa (Bd Tp 35 []) λt9=>Be (Av Tp At7 35 t0 t9) λAt10=>Aa (Ae Tp At10 35 t0) λt11=>Q (.tuple ⟨[t11,(.int .i64 260)]⟩) At10) (Wc Tp Al W0 m0 152 [t2] At7 λt12 At12=>Aa (An Tp .gtr 3 (.tmp 19) (.const (.int .i64 0)) t12 (.int .i64 0)) λt13=>Ai t13 (Aa (Bd Tp 35 []) λt14=>Be (Av Tp At12 35 t0 t14) λAt15=>Aa (Ae Tp At15 35 t0) λt16=>Q (.tuple ⟨[t16,(.int .i64 260)]⟩) At15) (Aa (Ae Tp At12 35 t6) λt17=>Be (Av Tp At12 35 t0 t17) λAt18=>Aa (Ae Tp At18 35 t0) λt19=>Q (.tuple ⟨[t19,(.int .i64 0)]⟩) At18))):=by kernel_rfl
theorem w89:Wf1 89 24 Tz Lz:=wf1 (λ_=>by kernel_rfl) (by decide) λ_=>rfl
theorem e90:gE W0 m0 S Q 90 35 Tz Lz [a0] A=(Ao (BB Tp A 32) λt0 At0=>Wc Tp Al W0 m0 84 [a0] At0 λt1 At1=>Wc Tp Al W0 m0 85 [t1,(.int .i64 4)] At1 λt2 At2=>Ao (AQ Tp At2 136 30 t2) λt3 At3=>Aa (Bd Tp 32 [(0,t3)]) λt4=>Ao (BB Tp At3 32) λt5 At5=>Be (Av Tp At5 32 t5 t4) λAt6=>Wc Tp Al W0 m0 153 [t1,(.int .i64 1),(.int .i64 255)] At6 λt7 At7=>Aa (Ad Tp 32 t5 1) λt8=>Be (Av Tp At7 9 t8 t7) λAt9=>Wc Tp Al W0 m0 153 [t1,(.int .i64 1),(.int .i64 255)] At9 λt10 At10=>Aa (Ad Tp 32 t5 2) λt11=>Be (Av Tp At10 9 t11 t10) λAt12=>Wc Tp Al W0 m0 87 [t1] At12 λt13 At13=>Ai t13 (Aa (Bd Tp 32 []) λt14=>Be (Av Tp At13 32 t0 t14) λAt15=>Aa (Ae Tp At15 32 t0) λt16=>Q (.tuple ⟨[t16,(.int .i64 0),(.int .i64 4)]⟩) At15) (Aa (Ae Tp At13 32 t5) λt17=>Wc Tp Al W0 m0 102 [t17] At13 λt18 At18=>Aa (An Tp .neq 26 (.tmp 25) (.const (.int .i64 0)) t18 (.int .i64 0)) λt19=>Ai t19 (Aa (Bd Tp 32 []) λt20=>Be (Av Tp At18 32 t0 t20) λAt21=>Aa (Ae Tp At21 32 t0) λt22=>Q (.tuple ⟨[t22,(.int .i64 0),t18]⟩) At21) (Aa (Ae Tp At18 32 t5) λt23=>Aa (Bi Tp At18 92 a0) λt24=>Wc Tp Al W0 m0 152 [t1] At18 λt25 At25=>Aa (Bi Tp At25 92 a0) λt26=>eqW t26 t24 (eqW a0 a0 (Aa (Ae Tp At25 32 t5) λt27=>eqW t27 t23 (Aa (An Tp .sub 3 (.tmp 31) (.tmp 33) t24 t25) λt28=>Be (Av Tp At25 32 t0 t23) λAt29=>Aa (An Tp .sub 3 (.tmp 31) (.tmp 33) t24 t25) λt30=>eqW t30 t28 (Aa (Bi Tp At29 92 a0) λt31=>eqW t31 t24 (eqW a0 a0 (Aa (Ae Tp At29 32 t0) λt32=>Q (.tuple ⟨[t32,t28,(.int .i64 0)]⟩) At29))))))))):=by kernel_rfl
theorem w90:Wf1 90 35 Tz Lz:=wf1 (λ_=>by kernel_rfl) (by decide) λ_=>rfl
theorem e97:gE W0 m0 S Q 97 12 Tz Lz [a0,a1] A=(Wc Tp Al W0 m0 159 [a0] A λt0 At0=>knW Tp W0 m0 160 [t0,a1] At0 λt1 At1=>Q t0 At1):=by kernel_rfl
theorem w97:Wf2 97 12 Tz Lz:=wf2 (λ_ _=>by kernel_rfl) (by decide) λ_ _=>rfl
theorem e98:gE W0 m0 S Q 98 4 Tz Lz [a0] A=(Ao (CO A (Value.cells a0).toList 72) λt0 At0=>Q (.func (.func 161) ⟨[]⟩ ⟨[t0]⟩) At0):=by kernel_rfl
theorem w98:Wf1 98 4 Tz Lz:=wf1 (λ_=>by kernel_rfl) (by decide) λ_=>rfl
theorem e99:gE W0 m0 S Q 99 22 Tz Lz [a0,a1] A=(Ao (CO A (Value.cells a0).toList 32) λt0 At0=>Ao (CO At0 (Value.cells a1).toList 32) λt1 At1=>Aa (Ad Tp 32 t0 0) λt2=>Aa (Ae Tp At1 30 t2) λt3=>Aa (Ad Tp 32 t1 0) λt4=>Aa (Ae Tp At1 30 t4) λt5=>Aa (Ad Tp 32 t0 1) λt6=>Aa (Ae Tp At1 9 t6) λt7=>Aa (Ad Tp 32 t1 1) λt8=>Aa (Ae Tp At1 9 t8) λt9=>Aa (Ad Tp 32 t0 2) λt10=>Aa (Ae Tp At1 9 t10) λt11=>Aa (Ad Tp 32 t1 2) λt12=>Aa (Ae Tp At1 9 t12) λt13=>Wc Tp Al W0 m0 163 [t3,t5] At1 λt14 At14=>Aa (Ae Tp At14 9 t12) λt15=>eqW t15 t13 (Aa (Ad Tp 32 t1 2) λt16=>eqW t16 t12 (Aa (Ae Tp At14 9 t10) λt17=>eqW t17 t11 (Aa (Ad Tp 32 t0 2) λt18=>eqW t18 t10 (Aa (Ae Tp At14 9 t8) λt19=>eqW t19 t9 (Aa (Ad Tp 32 t1 1) λt20=>eqW t20 t8 (Aa (Ae Tp At14 9 t6) λt21=>eqW t21 t7 (Aa (Ad Tp 32 t0 1) λt22=>eqW t22 t6 (knW Tp W0 m0 164 [t7,t9] At14 λt23 At23=>Aa (Ae Tp At23 9 t12) λt24=>eqW t24 t13 (Aa (Ad Tp 32 t1 2) λt25=>eqW t25 t12 (Aa (Ae Tp At23 9 t10) λt26=>eqW t26 t11 (Aa (Ad Tp 32 t0 2) λt27=>eqW t27 t10 (knW Tp W0 m0 164 [t11,t13] At23 λt28 At28=>Ao (Aq Tp At28 36 3 [(0,t14),(1,t23),(2,t28)]) λt29 At29=>Cd (Bn Tp (BZ (Tm.fill ⟨3,.nil⟩ 0 [t14,t23,t28])) (.buildSlice 36 3 #[(0,.tmp 0),(1,.tmp 1),(2,.tmp 2)])) At29 t29 (Aa (Ae Tp At29 9 t12) λt30=>eqW t30 t13 (Aa (Ad Tp 32 t1 2) λt31=>eqW t31 t12 (Aa (Ae Tp At29 9 t10) λt32=>eqW t32 t11 (Aa (Ad Tp 32 t0 2) λt33=>eqW t33 t10 (Aa (Ae Tp At29 9 t8) λt34=>eqW t34 t9 (Aa (Ad Tp 32 t1 1) λt35=>eqW t35 t8 (Aa (Ae Tp At29 9 t6) λt36=>eqW t36 t7 (Aa (Ad Tp 32 t0 1) λt37=>eqW t37 t6 (Aa (Ae Tp At29 30 t4) λt38=>eqW t38 t5 (Aa (Ad Tp 32 t1 0) λt39=>eqW t39 t4 (Aa (Ae Tp At29 30 t2) λt40=>eqW t40 t3 (Aa (Ad Tp 32 t0 0) λt41=>eqW t41 t2 (Wc Tp Al W0 m0 162 [t29] At29 λt42 At42=>Q t42 At42)))))))))))))))))))))))))):=by kernel_rfl
theorem w99:Wf2 99 22 Tz Lz:=wf2 (λ_ _=>by kernel_rfl) (by decide) λ_ _=>rfl
theorem AiL:gE W0 m0 S Q 101 30 Tz Lz [a0] A=(Ao (CO A (Value.cells a0).toList 32) λt0 At0=>Aa (Ae Tp At0 32 t0) λt1=>Wc Tp Al W0 m0 102 [t1] At0 λt2 At2=>Aa (An Tp .neq 26 (.tmp 8) (.const (.int .i64 0)) t2 (.int .i64 0)) λt3=>Ai t3 (Q (.tuple ⟨[(.slice none 0 0),t2]⟩) At2) (Aa (Ad Tp 32 t0 0) λt4=>Aa (Ae Tp At2 30 t4) λt5=>Ao (AQ Tp At2 30 136 t5) λt6 At6=>Wc Tp Al W0 m0 94 [(.slice none 0 0),t6,(.int .i64 4)] At6 λt7 At7=>Aa (Ad Tp 32 t0 1) λt8=>Aa (Ae Tp At7 9 t8) λt9=>Wc Tp Al W0 m0 166 [t7,t9,(.int .i64 1)] At7 λt10 At10=>Aa (Ap t10 0) λt11=>Aa (Ap t10 1) λt12=>Aa (Ad Tp 32 t0 2) λt13=>Aa (Ae Tp At10 9 t13) λt14=>Wc Tp Al W0 m0 166 [t11,t14,(.int .i64 1)] At10 λt15 At15=>Aa (Ap t15 0) λt16=>Aa (Ap t15 1) λt17=>Q (.tuple ⟨[t16,(.int .i64 0)]⟩) At15)):=by kernel_rfl
theorem Ahp:Wf1 101 30 Tz Lz:=wf1 (λ_=>by kernel_rfl) (by decide) λ_=>rfl
theorem AiK:gE W0 m0 S Q 102 18 Tz Lz [a0] A=(Ao (CO A (Value.cells a0).toList 32) λt0 At0=>Aa (Ad Tp 32 t0 1) λt1=>Aa (Ae Tp At0 9 t1) λt2=>Aa (An Tp .eql 9 (.tmp 4) (.const (.string ⟨⟨[]⟩⟩)) t2 (.string ⟨⟨[]⟩⟩)) λt3=>Ai t3 (Q (.int .i64 40) At0) (Aa (Ad Tp 32 t0 1) λt4=>Aa (Ae Tp At0 9 t4) λt5=>Aa (Bi Tp At0 9 t5) λt6=>Aa (An Tp .gtr 3 (.tmp 9) (.const (.int .i64 64)) t6 (.int .i64 64)) λt7=>Ai t7 (Q (.int .i64 40) At0) (Aa (Ad Tp 32 t0 2) λt8=>Aa (Ae Tp At0 9 t8) λt9=>Aa (Bi Tp At0 9 t9) λt10=>Aa (An Tp .gtr 3 (.tmp 15) (.const (.int .i64 64)) t10 (.int .i64 64)) λt11=>Ai t11 (Q (.int .i64 40) At0) (Q (.int .i64 0) At0)))):=by kernel_rfl
theorem Aho:Wf1 102 18 Tz Lz:=wf1 (λ_=>by kernel_rfl) (by decide) λ_=>rfl
theorem AiJ:gE W0 m0 S Q 103 10 Tz Lz [a0,a1] A=(Ao (CO A (Value.cells a0).toList 32) λt0 At0=>Ao (CO At0 (Value.cells a1).toList 32) λt1 At1=>Aa (Ad Tp 32 t0 2) λt2=>Be (Av Tp At1 9 t2 (.string ⟨⟨[]⟩⟩)) λAt3=>Aa (Ad Tp 32 t1 2) λt4=>Be (Av Tp At3 9 t4 (.string ⟨⟨[]⟩⟩)) λAt5=>Aa (Ae Tp At5 32 t0) λt6=>Aa (Ae Tp At5 32 t1) λt7=>Aa (An Tp .eql 32 (.tmp 7) (.tmp 8) t6 t7) λt8=>Q t8 At5):=by kernel_rfl
theorem Ahn:Wf2 103 10 Tz Lz:=wf2 (λ_ _=>by kernel_rfl) (by decide) λ_ _=>rfl
theorem Aip:gE W0 m0 S Q 150 15 Tz Lz [a0] A=(Ao (BB Tp A 32) λt0 At0=>Wc Tp Al W0 m0 85 [a0,(.int .i64 4)] At0 λt1 At1=>Ao (AQ Tp At1 136 30 t1) λt2 At2=>Aa (Bd Tp 32 [(0,t2)]) λt3=>Ao (BB Tp At2 32) λt4 At4=>Be (Av Tp At4 32 t4 t3) λAt5=>Wc Tp Al W0 m0 153 [a0,(.int .i64 1),(.int .i64 255)] At5 λt6 At6=>Aa (Ad Tp 32 t4 1) λt7=>Be (Av Tp At6 9 t7 t6) λAt8=>Wc Tp Al W0 m0 153 [a0,(.int .i64 1),(.int .i64 255)] At8 λt9 At9=>Aa (Ad Tp 32 t4 2) λt10=>Be (Av Tp At9 9 t10 t9) λAt11=>Aa (Ae Tp At11 32 t4) λt12=>Be (Av Tp At11 32 t0 t12) λAt13=>Aa (Ae Tp At13 32 t0) λt14=>Q t14 At13):=by kernel_rfl
theorem Ag3:Wf1 150 15 Tz Lz:=wf1 (λ_=>by kernel_rfl) (by decide) λ_=>rfl
theorem Aim:gE W0 m0 S Q 153 41 Tz Lz [a0,a1,a2] A=(Aa (An Tp .eql 3 (.tmp 8) (.const (.int .i64 8)) a1 (.int .i64 8)) λt0=>Ai t0 (Wc Tp Al W0 m0 148 [a0] A λt1 At1=>Q (.string ⟨⟨[]⟩⟩) At1) (Wc Tp Al W0 m0 85 [a0,a1] A λt2 At2=>Wc Tp Al W0 m0 87 [a0] At2 λt3 At3=>Ai t3 (Wc Tp Al W0 m0 148 [a0] At3 λt4 At4=>Q (.string ⟨⟨[]⟩⟩) At4) (Aa (An Tp .lss 3 (.tmp 18) (.const (.int .i64 0)) a2 (.int .i64 0)) λt5=>Ai t5 (Wc Tp Al W0 m0 148 [a0] At3 λt6 At6=>Q (.string ⟨⟨[]⟩⟩) At6) (Ao (AQ Tp At3 3 136 a2) λt7 At7=>Aa (An Tp .gtr 136 (.tmp 22) (.tmp 24) t2 t7) λt8=>Ai t8 (Wc Tp Al W0 m0 148 [a0] At7 λt9 At9=>Q (.string ⟨⟨[]⟩⟩) At9) (Wc Tp Al W0 m0 152 [a0] At7 λt10 At10=>Ao (AQ Tp At10 3 136 t10) λt11 At11=>Aa (An Tp .gtr 136 (.tmp 28) (.tmp 31) t2 t11) λt12=>Ai t12 (Wc Tp Al W0 m0 148 [a0] At11 λt13 At13=>Q (.string ⟨⟨[]⟩⟩) At13) (Ao (AQ Tp At11 136 3 t2) λt14 At14=>Wc Tp Al W0 m0 149 [a0,t14] At14 λt15 At15=>Ao (AQ Tp At15 92 9 t15) λt16 At16=>Q t16 At16)))))):=by kernel_rfl
theorem Ag0:Wf3 153 41 Tz Lz:=wf3 (λ_ _ _=>by kernel_rfl) (by decide) λ_ _ _=>rfl
theorem Aih:gE W0 m0 S Q 159 5 Tz Lz [a0] A=(Wc Tp Al W0 m0 197 [(.slice none 0 0),a0] A λt0 At0=>Q t0 At0):=by kernel_rfl
theorem AgV:Wf1 159 5 Tz Lz:=wf1 (λ_=>by kernel_rfl) (by decide) λ_=>rfl
noncomputable def Tr:Nat->List Item:=λi=>match i with
 |0=>[(.code (cd 161 [1,0,0])),(.inLoop (cd 161 [1,0,0])),(.inBlock 0)]
 |_=>[]
def ZF:Nat->List Tmp:=λi=>match i with
 |0=>[0,5]
 |_=>[]
theorem Aig:gE W0 m0 S Q 161 14 Tr ZF [a0,a1] A=(Aa (Ae Tp A 72 a1) λt0=>anW Tp Al W0 m0 (NK Tp A 72 t0) λt1 At1=>BE (Tr 0) (Tr 0) (S 0 [a0,t1] At1)):=by kernel_rfl
theorem Ac0:gL W0 m0 S Q 161 14 Tr ZF d 0 A=(anW Tp Al W0 m0 (Lk A (d 5) false) λt0 At0=>Aa (Ap t0 0) λt1=>Ai t1 (anW Tp Al W0 m0 (Ow At0 (d 5)) λt2 At2=>Aa (Ap t2 0) λt3=>Ao (BB Tp At2 32) λt4 At4=>Be (Av Tp At4 32 t4 t3) λAt5=>Aa (Ae Tp At5 32 t4) λt6=>anW Tp Al W0 m0 (D2 Tp At5 (d 0) [t6]) λt7 At7=>Aa (unA Tp .not t7) λt8=>Ai t8 (Q (.tuple ⟨[]⟩) At7) (BE (Tr 0) (Tr 0) (S 0 [(d 0),(d 5)] At7))) (Q (.tuple ⟨[]⟩) At0)):=by kernel_rfl
theorem AgU:Wf2 161 14 Tr ZF:=wf2 (λ_ _=>by kernel_rfl) (by decide) λ_ _=>rfl
theorem AiR:EN 161 14 Tr ZF:=E7 (by decide)
noncomputable def Pp:Nat->List Item:=λi=>match i with
 |0=>[(.code (cd 162 [1,1,0,1,0,0])),(.inLoop (cd 162 [1,1,0,1,0,0])),(.inBlock 0),(.code (cd 162 [1,1,1]))]
 |_=>[]
def ZE:Nat->List Tmp:=λi=>match i with
 |0=>[3,6,7,8]
 |_=>[]
theorem Aif:gE W0 m0 S Q 162 18 Pp ZE [a0] A=(Aa (Bi Tp A 36 a0) λt0=>BE (Pp 0) (Pp 0) (S 0 [(.int .i64 0),a0,t0,(.int .i64 0)] A)):=by kernel_rfl
theorem AcZ:gL W0 m0 S Q 162 18 Pp ZE d 0 A=(Aa (An Tp .lss 3 (.tmp 8) (.tmp 7) (d 8) (d 7)) λt0=>Ai t0 (Aa (Ar Tp 36 (d 6) (d 8)) λt1=>Aa (Ae Tp A 3 t1) λt2=>Aa (An Tp .neq 3 (.tmp 12) (.tmp 13) t2 (d 3)) λt3=>Ai t3 (Q t2 A) (Aa (An Tp .add 3 (.tmp 8) (.const (.int .i64 1)) (d 8) (.int .i64 1)) λt4=>BE (Pp 0) (Pp 0) (S 0 [(d 3),(d 6),(d 7),t4] A))) (Q (d 3) A)):=by kernel_rfl
theorem AgT:Wf1 162 18 Pp ZE:=wf1 (λ_=>by kernel_rfl) (by decide) λ_=>rfl
theorem c162:EN 162 18 Pp ZE:=E7 (by decide)
theorem Aie:gE W0 m0 S Q 163 20 Tz Lz [a0,a1] A=(Wc Tp Al W0 m0 199 [a0] A λt0 At0=>Wc Tp Al W0 m0 199 [a1] At0 λt1 At1=>Ai t0 (Ai t1 (Q (.int .i64 0) At1) (Q (.int .i64 (-1)) At1)) (Ai t1 (Q (.int .i64 1) At1) (Aa (An Tp .lss 30 (.tmp 14) (.tmp 15) a0 a1) λt2=>Ai t2 (Q (.int .i64 (-1)) At1) (Aa (An Tp .gtr 30 (.tmp 17) (.tmp 18) a0 a1) λt3=>Ai t3 (Q (.int .i64 1) At1) (Q (.int .i64 0) At1))))):=by kernel_rfl
theorem AgS:Wf2 163 20 Tz Lz:=wf2 (λ_ _=>by kernel_rfl) (by decide) λ_ _=>rfl
theorem Aic:gE W0 m0 S Q 166 31 Tz Lz [a0,a1,a2] A=(Aa (An Tp .eql 3 (.tmp 8) (.const (.int .i64 8)) a2 (.int .i64 8)) λt0=>Ai t0 (Q (.tuple ⟨[(.slice none 0 0),(.int .i64 2)]⟩) A) (Wc Tp Al W0 m0 147 [a2] A λt1 At1=>Aa (unA Tp .not t1) λt2=>Ai t2 (Q (.tuple ⟨[(.slice none 0 0),(.int .i64 2)]⟩) At1) (Aa (Bi Tp At1 9 a1) λt3=>Ao (AQ Tp At1 3 136 t3) λt4 At4=>Aa (An Tp .mul 3 (.const (.int .i64 8)) (.tmp 18) (.int .i64 8) a2) λt5=>Aa (An Tp .shr 136 (.tmp 17) (.tmp 19) t4 t5) λt6=>Aa (An Tp .neq 136 (.tmp 20) (.const (.int .u64 0)) t6 (.int .u64 0)) λt7=>Ai t7 (Q (.tuple ⟨[(.slice none 0 0),(.int .i64 3)]⟩) At4) (Aa (Bi Tp At4 9 a1) λt8=>Ao (AQ Tp At4 3 136 t8) λt9 At9=>Wc Tp Al W0 m0 155 [t9,a2] At9 λt10 At10=>Ao (AU Tp At10 92 9 t10 a1) λt11 At11=>Wc Tp Al W0 m0 154 [a0,t11] At11 λt12 At12=>Q (.tuple ⟨[t12,(.int .i64 0)]⟩) At12)))):=by kernel_rfl
theorem AgQ:Wf3 166 31 Tz Lz:=wf3 (λ_ _ _=>by kernel_rfl) (by decide) λ_ _ _=>rfl
theorem Ah6:gE W0 m0 S Q 197 13 Tz Lz [a0,a1] A=(Ao (CO A (Value.cells a0).toList 148) λt0 At0=>Vg At0 197 (MA ⟨13,.nil⟩ [(0,a0),(1,a1),(2,t0),(4,(.slice none 0 0)),(6,a1)]) [7] (cd 197 [1,0,1,0,0]) (cd 197 [1,0,1,0,1]) λDt1 Lt1 Abt1=>Adb Tp Al W0 m0 Abt1 a1 [.func (.yield Lt1) #[] #[]] λ_ Act1=>LF Act1 Lt1 (λAdt1=>Aa (Ae Tp Adt1 148 t0) λt2=>GA [Dt1] Adt1 λAt3=>Q t2 At3) (λAet1=>GA [Dt1] Aet1 λAt4=>Q (.slice none 0 0) At4)):=by kernel_rfl
theorem Acz(W0:World)(m0:Inj Tp)(S:Nat->List Value->AW->Prop)(Q:Value->AW->Prop)(l:Nat)(d:Nat->Value)(A:AW):Cv Tp Al W0 m0 197 Tz Lz S Q (some l) 4000 (OU 13 d) [.code (cd 197 [1,0,1,0,0]),.beginRound,.code (cd 197 [1,0,1,0,1])] false 0 0 0 [] A=(Ao (BB Tp A 32) λt0 At0=>Be (Av Tp At0 32 t0 (d 7)) λAt1=>Rl At1 l λAt2=>Aa (Ae Tp At2 148 (d 2)) λt3=>Aa (Ae Tp At2 32 t0) λt4=>Ao (Aq Tp At2 148 1 [(0,t4)]) λt5 At5=>Ao (AU Tp At5 148 148 t3 t5) λt6 At6=>Be (Av Tp At6 148 (d 2) t6) λAt7=>QN At7 l none Q):=by kernel_rfl
theorem AgK:Wf2 197 13 Tz Lz:=wf2 (λ_ _=>by kernel_rfl) (by decide) λ_ _=>rfl
theorem Ah5:gE W0 m0 S Q 199 6 Tz Lz [a0] A=(Aa (An Tp .neq 30 (.tmp 3) (.tmp 4) a0 a0) λt0=>Q t0 A):=by kernel_rfl
theorem AgJ:Wf1 199 6 Tz Lz:=wf1 (λ_=>by kernel_rfl) (by decide) λ_=>rfl
end
end Go.Proofs.YtnennggfoegcmaaGreatDoor
namespace Go.Abs
variable {i c:Nat} {b:UInt8} {A A':AW} {v:Value} {l:List UInt8} {F S:List Nat} {K:Value->AW->Prop}
def AP(l:List UInt8):List Value:=l.map λb=>.int .u8 b.toNat
theorem DN(a b:List UInt8):AP (a++b)=AP a++AP b:=List.map_append
theorem BA(a:List UInt8):(AP a).length=a.length:=List.length_map _
theorem KJ(a:List UInt8):(AP a).all AK=true:=by
 rw [List.all_eq_true];intro x hx;obtain ⟨b,_,rfl⟩:=List.mem_map.1 hx;rfl
theorem KK(a:List UInt8):(AP a).all (λv=>!isTuple v)=true:=by
 rw [List.all_eq_true];intro x hx;obtain ⟨b,_,rfl⟩:=List.mem_map.1 hx;rfl
theorem UK{a:List UInt8}(h:a[i]? =some b):(AP a)[i]? =some (.int .u8 b.toNat):=by
 unfold AP;rw [List.getElem?_map,h];rfl
theorem Jo:∀ l:List UInt8,B7 (AP l)=some l
 |[]=>rfl
 |b::r=>by
  show (match B7 (AP r) with | some l=>some (UInt8.ofNat ((b.toNat:Int)).toNat::l) | none=>none)=_;rw [Jo r]
  simp
theorem FG:∀ (l rest:List Value),l.all (λv=>!isTuple v)=true->Bh (l++rest) l.length=some l
 |[],_,_=>by simp [Bh]
 |v::r,rest,h=>by
  simp only [List.all_cons,Bq,Bool.not_eq_true'] at h;simp [Bh,h.1,FG r rest h.2]
theorem Mu:∀ (l rest:List Value),D6 (l++rest) l.length=some l
 |[],_=>by simp [D6]
 |v::r,rest=>by simp [D6,Mu r rest]
def RdB(A:AW)(v:Value)(l:List UInt8)(F:List Nat):Prop:=
 (l=[]/\F=[]/\∃ o c,v=.slice o 0 c)\/∃ r o c cs e f b ro rest,v=.slice (some ⟨r,o,none⟩) l.length c/\A.get r=some (.row cs e f b ro)/\f<A.next/\F=[f]/\cs.drop o=AP l++rest
theorem RdB.keeps(h:RdB A v l F)(k:Ah A A' S)(hd:∀ x∈F,x∉S):RdB A' v l F:=by
 rcases h with h | ⟨r,o,c,cs,e,f,b,ro,rest,h1,h2,h3,rfl,h4⟩
 ·exact .inl h
 ·exact .inr ⟨r,o,c,cs,e,f,b,ro,rest,h1,k.get r _ h2 h3 (hd f (by simp)),Nat.lt_of_lt_of_le h3 k.next,rfl,h4⟩
theorem RdB.one(h:RdB A v l F):AK v=true/\isTuple v=false:=by
 rcases h with ⟨_,_,o,c,rfl⟩ | ⟨r,o,c,cs,e,f,b,ro,rest,rfl,_⟩<;>exact ⟨rfl,rfl⟩
theorem RdB.lt(h:RdB A v l F):∀ x∈F,x<A.next:=by
 rcases h with ⟨_,rfl,_⟩ | ⟨r,o,c,cs,e,f,b,ro,rest,_,_,h3,rfl,_⟩
 ·simp
 ·simpa using h3
theorem RdB.slice{A:AW}{v:Value}{l:List UInt8}{F:List Nat}(h:RdB A v l F):∃ a c,v=.slice a l.length c:=by
 rcases h with ⟨rfl,_,o,c,rfl⟩ | ⟨r,o,c,cs,e,f,b,ro,rest,rfl,_⟩<;>exact ⟨_,_,rfl⟩
theorem RdB.src(h:RdB A v l F):Df A 1 v=some (l.length,AP l):=by
 rcases h with ⟨rfl,_,o,c,rfl⟩ | ⟨r,o,c,cs,e,f,b,ro,rest,rfl,h2,_,_,h4⟩
 ·cases o<;>rfl
 ·unfold Df;simp only [Nat.mul_one,Bc h2,h4]
  have:=FG (AP l) rest (KK l)
  rw [BA] at this;rw [this]
theorem RdB.cell{r o:Nat}(h:RdB A (.slice (some ⟨r,o,none⟩) l.length c) l F)(hi:l[i]? =some b):A.cell? ⟨r,o+i,none⟩=some (.int .u8 b.toNat):=by
 rcases h with ⟨rfl,_⟩ | ⟨r',o',c',cs,e,f,b',ro,rest,hv,h2,_,_,h4⟩
 ·simp at hi
 ·simp only [Value.slice.injEq,Oi,Addr.mk.injEq,and_true] at hv;obtain ⟨⟨rfl,rfl⟩,_⟩:=hv;rw [Af h2];refine Fz ?_ rfl;rw [<- List.getElem?_drop,h4,List.getElem?_append_left (by rw [BA];exact (Gs.1 hi).1)];exact UK hi
structure BT (P:Program) (tb ts tst:TypeId):Prop where
 sl:BG P ts=some tb
 sz:szT P tb=some 1
 by_:EB P tb=some 1
 hz:C9 P tb 1=true
 us:P.underlying ts=some (.slice tb)
 ub:P.underlying tb=some (.int .u8)
 ust:P.underlying tst=some .string
 zt:Dt P tb=some (.int .u8 0)
 ln:∀ A a n c,Bi P A ts (.slice a n c)=some (.int .i64 (n:Nat))
 ia:∀ b o n c i k,Ar P ts (.slice (some ⟨b,o,none⟩) n c) (.int k (.ofNat i))=(bif Nat.blt i n then some (.pointer (some (Ek ⟨b,o,none⟩ (i*1)))) else none)
 ld:∀ A a,Ae P A tb (.pointer (some a))=A.cell? a
 st:∀ A a v,Av P A tb (.pointer (some a)) v=(bif Nat.beq v.cells.toList.length 1 then A.setCells a v.cells.toList else none)
section
variable {P:Program} {tb ts tst:TypeId}
theorem RdB.len(T:BT P tb ts tst)(h:RdB A v l F):Bi P A ts v=some (.int .i64 (l.length:Nat)):=by
 obtain ⟨a,c,rfl⟩:=h.slice;exact T.ln _ _ _ _
theorem RdB.str(T:BT P tb ts tst)(h:RdB A v l F):AQ P A ts tst v=.ok (.string ⟨⟨l⟩⟩) A:=by
 rcases h with ⟨rfl,_,o,c,rfl⟩ | ⟨r,o,c,cs,e,f,b,ro,rest,rfl,h2,_,_,h4⟩
 ·unfold AQ;cases o with
  |none=>simp only [T.us,T.ust,T.ub];rfl
  |some a=>simp only [T.us,T.ust,T.ub,AW.cells?,B7]
 ·unfold AQ;simp only [T.us,T.ust,T.ub,Bc h2,h4]
  have:=FG (AP l) rest (KK l)
  rw [BA] at this;simp only [this,Jo]
theorem RdB.at{A:AW}{v:Value}{l:List UInt8}{F:List Nat}(T:BT P tb ts tst)(h:RdB A v l F){i:Nat}{b:UInt8}(hi:l[i]? =some b):
  ∃ a,Ar P ts v (.int .i64 (i:Int))=some (.pointer (some a))/\Ae P A tb (.pointer (some a))=some (.int .u8 b.toNat):=by
 have h0:=h;rcases h with ⟨rfl,_⟩ | ⟨r,o,c,cs,e,f,b',ro,rest,rfl,h2,h3,h5,h4⟩
 ·simp at hi
 ·have hlt:i<l.length:=(Gs.1 hi).1;refine ⟨Ek ⟨r,o,none⟩ (i*1),?_,?_⟩
  ·show Ar P ts _ (.int .i64 (.ofNat i))=_;rw [T.ia,AA.2 hlt,Ct]
  ·have e:Ek ⟨r,o,none⟩ (i*1)=⟨r,o+i,none⟩:=by
    unfold Ek;cases hb:Nat.beq (i*1) 0 with
    |true=>rw [Ct];have:=Nb hb;rw [Nat.mul_one] at this;rw [this];rfl
    |false=>rw [Cf,Nat.mul_one]
   rw [T.ld,e];exact h0.cell hi
theorem D9(T:BT P tb ts tst)(h:RdB A v l F):BM P A tb ts 1 v=some (l.length,AP l):=by
 unfold BM;rw [T.us];exact h.src
def Buf(tb:TypeId)(A:AW)(v:Value)(l:List UInt8)(F:List Nat):Prop:=
 (v=.slice none 0 0/\l=[]/\F=[])\/(∃ b f,v=.slice (some ⟨b,0,none⟩) l.length (Bo+l.length)/\LP 0 A tb 1 l.length (AP l) b f/\F=[f])\/
 ∃ b c pad,v=.slice (some ⟨b,0,none⟩) l.length c/\c<room/\Row1 A b (AP l++pad) tb/\l.length+pad.length=c/\pad.all AK=true/\F=[b]
theorem Buf.nil(tb:TypeId)(A:AW):Buf tb A (.slice none 0 0) [] []:=.inl ⟨rfl,rfl,rfl⟩
theorem Buf.keeps(h:Buf tb A v l F)(k:Ah A A' S)(hd:∀ x∈F,x∉S):Buf tb A' v l F:=by
 rcases h with h | ⟨b,f,rfl,h,rfl⟩ | ⟨b,c,pad,h1,h2,h3,h4,h5,rfl⟩
 ·exact .inl h
 ·have:=Dq.keeps (v:=.slice (some ⟨b,0,none⟩) l.length (Bo+l.length)) (.inr ⟨b,f,rfl,h,rfl⟩) k hd
  rcases this with ⟨h1,_⟩ | ⟨b',f',h1,h2,h3⟩
  ·cases h1
  ·exact .inr (.inl ⟨b',f',h1,h2,h3⟩)
 ·exact .inr (.inr ⟨b,c,pad,h1,h2,h3.keeps k (hd b (by simp)),h4,h5,rfl⟩)
theorem Buf.rd(h:Buf tb A v l F):RdB A v l F:=by
 rcases h with ⟨rfl,rfl,rfl⟩ | ⟨b,f,rfl,h,rfl⟩ | ⟨b,c,pad,rfl,h2,h3,h4,h5,rfl⟩
 ·exact .inl ⟨rfl,rfl,none,0,rfl⟩
 ·exact .inr ⟨b,0,_,_,_,f,0,false,[],rfl,h.row,h.ltf,rfl,by simp⟩
 ·exact .inr ⟨b,0,_,_,_,b,0,false,pad,rfl,h3.row,h3.lt,rfl,by simp⟩
theorem Buf.lt(h:Buf tb A v l F):∀ x∈F,x<A.next:=h.rd.lt
theorem Hx:∀ (a mid new rest:List Value),mid.length=new.length->Gg (a++(mid++rest)) a.length new=a++(new++rest)
 |a,[],[],rest,_=>by simp [Gg]
 |a,m::ms,n::ns,rest,h=>by
  simp only [Lc,Nat.add_right_cancel_iff] at h
  have:=Hx (a++[n]) ms ns rest h
  simp only [Gg];have e:(a++(m::ms++rest)).set a.length n=(a++[n])++(ms++rest):=by simp
  rw [e];have e2:a.length+1=(a++[n]).length:=by simp
  rw [e2,this]
  simp
 |a,[],_::_,rest,h=>by simp at h
 |a,_::_,[],rest,h=>by simp at h
theorem DO {t2:TypeId} {x:Value} {new:List UInt8} (T:BT P tb ts tst) (h:Buf tb A v l F) (hx:BM P A tb t2 1 x=some (new.length,AP new)) (hf:Aw A) (hmax:A.next<Aj) (hr:l.length+new.length<room)
  (hk:∀ v' A' F',Buf tb A' v' (l++new) F'->Ah A A' F->(∀ x∈F',x∈F\/A.next<=x)->A'.next<=A.next+1->Aw A'->K v' A'):Ao (AU P A ts t2 v x) K:=by
 have hroom:(Nat.blt (l.length+new.length) room&&Nat.blt ((l.length+new.length)*1) room&&C9 P tb 1)=true:=by rw [Nat.mul_one,AA.2 hr,T.hz];rfl
 rcases Nat.eq_zero_or_pos new.length with h0 | hpos
 ·have hnew:new=[]:=List.eq_nil_of_length_eq_zero h0;subst hnew;obtain ⟨a,c,rfl⟩:=h.rd.slice;have e:AU P A ts t2 (.slice a l.length c) x=.ok (.slice a l.length c) A:=by
   unfold AU;simp only [T.sl,T.sz,T.by_,hx];simp only [Ln] at hroom ⊢;rw [hroom];rfl
  rw [e];refine AT.2 (hk _ A F (by rw [List.append_nil];exact h) (.refl _ _) (λx hx=>.inl hx) (by omega) hf)
 ·obtain ⟨m,hm⟩:∃ m,new.length=m+1:=⟨new.length-1,by omega⟩;rcases h with ⟨rfl,rfl,rfl⟩ | ⟨b,f,rfl,ho,rfl⟩ | ⟨b,c,pad,rfl,hc,h3,h4,h5,rfl⟩
  ·have hx':BM P A tb t2 (0+1) x=some (m+1,AP new):=by rw [<- hm];exact hx
   rw [hm] at hroom;rw [Js T.sl T.sz T.by_ hx' hroom hmax];have hfp:=hf.push (.row (AP new) tb A.next 0 false) hmax;have hrow:(A.push (.row (AP new) tb A.next 0 false)).get A.next=some (.row (AP new) tb A.next 0 false):=by rw [AW.BK _ hmax,if_pos rfl]
   refine AT.2 (hk _ _ [A.next] (.inr (.inl ⟨A.next,A.next,by simp [hm],?_,rfl⟩)) ((AW.BR _ hmax).keeps hf) (λx hx=>.inr (by simp at hx;omega)) (by rw [AW.B0];omega) hfp);refine ⟨by simp [hm],by rw [hrow];rfl,by simp [BA],Nat.zero_le _,Nat.zero_le _,by rw [AW.B0];omega,λi hi=>?_⟩
   have:(A.push (.row (AP new) tb A.next 0 false)).members A.next=[A.next]:=hf.alone (Nl _)
   rw [this] at hi;obtain rfl:i=A.next:=by simpa using hi
   exact ⟨Nat.zero_le _,by rw [AW.B0];omega,_,_,_,_,hrow⟩
  ·have hx':BM P A tb t2 (0+1) x=some (m+1,AP new):=by rw [<- hm];exact hx
   refine JT (P:=P) (size:=0) T.sl T.sz T.by_ T.hz hx' (by rw [BA,hm];omega) (KJ new) (.inr ⟨b,f,rfl,ho,rfl⟩) hf hmax (by omega) (by omega) λv' A' F' hv hk' hF' hn hf'=>?_;refine hk v' A' F' ?_ hk' (λx hx=>?_) (by omega) hf'
   ·rcases hv with ⟨_,hz,_⟩ | ⟨b',f',h1,h2,h3⟩
    ·omega
    ·refine .inr (.inl ⟨b',f',?_,?_,h3⟩)
     ·rw [h1,Lq,hm]
     ·rw [Lq,hm,DN];exact h2
   ·rcases hF' x hx with h | h
    ·exact .inl h
    ·exact .inr (by omega)
  ·have hlen:(AP l++pad).length=c:=by rw [Lq,BA];exact h4
   have hcu:Nat.ble Bo c=false:=BL.2 (by unfold room at hc;unfold Bo;omega);by_cases hfit:l.length+new.length<=c
   ·
    have hb:=h3.lt;obtain ⟨A',h1,w⟩:=Gh (new:=AP new) (off:=l.length) h3.row h3.mem (by rw [hlen,BA];exact hfit) (KJ new) (by omega);have e:AU P A ts t2 (.slice (some ⟨b,0,none⟩) l.length c) x=.ok (.slice (some ⟨b,0,none⟩) (l.length+new.length) c) A':=by
     unfold AU;simp only [T.sl,T.sz,T.by_,hx];rw [hroom];rw [hm];have ha:Ek ⟨b,0,none⟩ (l.length*1)=⟨b,l.length,none⟩:=by
      unfold Ek;cases hb:Nat.beq (l.length*1) 0 with
      |true=>rw [Ct];have:=Nb hb;rw [Nat.mul_one] at this;rw [this]
      |false=>rw [Cf,Nat.mul_one,Nat.zero_add]
     have hfit':Nat.ble (l.length+(m+1)) c=true:=Bb.2 (by omega);simp only [hcu,Cf,hfit',Ct,ha,h1,Bool.not_true]
    rw [e];have hcs:Gg (AP l++pad) l.length (AP new)=AP (l++new)++pad.drop new.length:=by
     have hp:pad=pad.take new.length++pad.drop new.length:=(List.take_append_drop _ _).symm
     conv=>lhs;rw [hp]
     have hl2:l.length=(AP l).length:=(BA l).symm
     conv=>lhs;arg 2;rw [hl2]
     rw [Hx (AP l) (pad.take new.length) (AP new) (pad.drop new.length) (by rw [List.length_take,BA];omega),DN,Mw]
    refine AT.2 (hk _ A' [b] (.inr (.inr ⟨b,c,pad.drop new.length,by rw [Lq],hc,?_,by rw [Lq,List.length_drop];omega,?_,rfl⟩)) (w.keeps h3.row) (λx hx=>.inl hx) (by rw [w.next];omega) (w.Ay hf h3.row))
    ·rw [<- hcs];exact ⟨w.row,by rw [w.mem];exact h3.mem,by rw [w.next];exact h3.lt⟩
    ·rw [List.all_eq_true] at h5 ⊢;exact λx hx=>h5 x (List.mem_of_mem_drop hx)
   ·
    have hold:(match (some ⟨b,0,none⟩:Option Addr) with | some a=>A.CE a (l.length*1) | none=>some [])=some (AP l):=by
     show A.CE ⟨b,0,none⟩ (l.length*1)=_;rw [Nat.mul_one];unfold AW.CE;cases hl:l.length with
     |zero=>
      have:l=[]:=List.eq_nil_of_length_eq_zero hl
      subst this;rfl
     |succ k=>
      simp only [h3.row,List.drop_zero]
      have:=Mu (AP l) pad
      rw [BA,hl] at this;exact this
    have hnew:A.new (.row (AP l++AP new) tb A.next 0 false)=some (A.next,A.push (.row (AP l++AP new) tb A.next 0 false)):=by
     unfold AW.new;simp only [AA.2 hmax,Ct];rfl
    have e:AU P A ts t2 (.slice (some ⟨b,0,none⟩) l.length c) x=.ok (.slice (some ⟨A.next,0,none⟩) (l.length+new.length) (Bo+(l.length+new.length))) (A.push (.row (AP l++AP new) tb A.next 0 false)):=by
     unfold AU;simp only [T.sl,T.sz,T.by_,hx];rw [hroom];rw [hm];have hfit':Nat.ble (l.length+(m+1)) c=false:=BL.2 (by omega);simp only [hcu,Cf,hfit',Bool.not_true];simp only at hold;rw [hold];simp only [hnew]
    rw [e];have hfp:=hf.push (.row (AP l++AP new) tb A.next 0 false) hmax;have hrow:(A.push (.row (AP l++AP new) tb A.next 0 false)).get A.next=some (.row (AP l++AP new) tb A.next 0 false):=by rw [AW.BK _ hmax,if_pos rfl]
    refine AT.2 (hk _ _ [A.next] (.inr (.inl ⟨A.next,A.next,by rw [Lq],?_,rfl⟩)) (((AW.BR _ hmax).keeps hf).more (by simp)) (λx hx=>.inr (by simp at hx;omega)) (by rw [AW.B0];omega) hfp);refine ⟨by rw [Lq];omega,by rw [hrow,DN],by rw [BA,Nat.mul_one],Nat.zero_le _,Nat.zero_le _,by rw [AW.B0];omega,λi hi=>?_⟩
    have:(A.push (.row (AP l++AP new) tb A.next 0 false)).members A.next=[A.next]:=hf.alone (Nl _)
    rw [this] at hi;obtain rfl:i=A.next:=by simpa using hi
    exact ⟨Nat.zero_le _,by rw [AW.B0];omega,_,_,_,_,hrow⟩
theorem Ni(v:Value):∀ n,EO [v] n=List.replicate n v
 |0=>rfl
 |n+1=>by rw [EO,Ni v n];rfl
theorem JH {k k2:IntKind} {n:Nat} (T:BT P tb ts tst) (hf:Aw A) (hmax:A.next<Aj) (hn:n<=c) (hc:c<room)
  (hk:∀ A',Made A A' (List.replicate c (.int .u8 0)) tb->K (.slice (some ⟨A.next,0,none⟩) n c) A'):Ao (CH P A ts (.int k (n:Int)) (.int k2 (c:Int))) K:=by
 have hz:Hf P tb 1 c=some (List.replicate c (.int .u8 0)):=by
  unfold Hf;rw [T.zt];cases c with
  |zero=>rfl
  |succ c=>
   have:Nat.beq ((c+1)*1) 0=false:=beq_false.2 (by omega)
   simp only [this,Cf];show (bif Nat.beq 1 1 then some (EO [.int .u8 0] (c+1)) else none)=_;rw [Ni];rfl
 have hnr:A.newRow (List.replicate c (.int .u8 0)) tb=some (⟨A.next,0,none⟩,A.push (.row (List.replicate c (.int .u8 0)) tb A.next 0 false)):=by
  unfold AW.newRow AW.new
  have:(List.replicate c (Value.int .u8 0)).all AK=true:=by
   rw [List.all_eq_true];intro x hx;rw [List.eq_of_mem_replicate hx];rfl
  simp only [this,Ct,AA.2 hmax];rfl
 have e:CH P A ts (.int k (n:Int)) (.int k2 (c:Int))=.ok (.slice (some ⟨A.next,0,none⟩) n c) (A.push (.row (List.replicate c (.int .u8 0)) tb A.next 0 false)):=by
  show CH P A ts (.int k (.ofNat n)) (.int k2 (.ofNat c))=_;unfold CH;simp only [T.sl,T.sz,T.by_,Nat.mul_one,Bb.2 hn,AA.2 hc,Bool.and_self,Ct,hz,hnr]
 rw [e];exact AT.2 (hk _ ⟨AW.BR _ hmax,rfl,by rw [AW.BK _ hmax,if_pos rfl],hf.alone (Nl _),hf.push _ hmax⟩)
theorem Made.Adp(m:Made A A' (List.replicate c (.int .u8 0)) tb)(hc:c<room):Buf tb A' (.slice (some ⟨A.next,0,none⟩) 0 c) [] [A.next]:=
 .inr (.inr ⟨A.next,c,List.replicate c (.int .u8 0),rfl,hc,m.Bk,by simp,by rw [List.all_eq_true];intro x hx;rw [List.eq_of_mem_replicate hx];rfl,rfl⟩)
end
variable {A:AW} {v:Value} {l:List UInt8} {F:List Nat} {a:Option Addr} {len n:Nat}
def RdS(tb:TypeId)(A:AW)(v:Value)(l:List UInt8)(F:List Nat):Prop:=
 (l=[]/\F=[]/\∃ o c,v=.slice o 0 c/\c<Bo/\(o=none->c=0))\/∃ r o c C cs f b ro rest,v=.slice (some ⟨r,o,none⟩) l.length C/\(C=Bo+c\/(C=c/\c<Bo))/\l.length<=c/\A.get r=some (.row cs tb f b ro)/\f<A.next/\F=[f]/\cs.drop o=AP l++rest
theorem RdS.rd{tb:TypeId}(h:RdS tb A v l F):RdB A v l F:=by
 rcases h with ⟨h1,h2,o,c,h3,_⟩ | ⟨r,o,c,C,cs,f,b,ro,rest,h1,_,_,h2,h3,h4,h5⟩
 ·exact .inl ⟨h1,h2,o,c,h3⟩
 ·exact .inr ⟨r,o,C,cs,tb,f,b,ro,rest,h1,h2,h3,h4,h5⟩
theorem RdS.keeps{tb:TypeId}{A':AW}{S:List Nat}(h:RdS tb A v l F)(k:Ah A A' S)(hd:∀ x∈F,x∉S):RdS tb A' v l F:=by
 rcases h with h | ⟨r,o,c,C,cs,f,b,ro,rest,h1,h0,h6,h2,h3,rfl,h5⟩
 ·exact .inl h
 ·exact .inr ⟨r,o,c,C,cs,f,b,ro,rest,h1,h0,h6,k.get r _ h2 h3 (hd f (by simp)),Nat.lt_of_lt_of_le h3 k.next,rfl,h5⟩
theorem RdS.nil(tb:TypeId)(A:AW):RdS tb A (.slice none 0 0) [] []:=.inl ⟨rfl,rfl,none,0,rfl,by decide,λ_=>rfl⟩
theorem Buf.rdS{tb:TypeId}(h:Buf tb A v l F):RdS tb A v l F:=by
 rcases h with ⟨rfl,rfl,rfl⟩ | ⟨b,f,rfl,ho,rfl⟩ | ⟨b,c,pad,rfl,hc,hr,hl,ho,rfl⟩
 ·exact .nil _ _
 ·exact .inr ⟨b,0,l.length,_,_,f,0,false,[],rfl,.inl rfl,Nl _,ho.row,ho.ltf,rfl,by simp⟩
 ·have:c<Bo:=by have h1:room=68719476736:=rfl;have h2:Bo=18446744073709551616:=rfl;omega
  exact .inr ⟨b,0,c,c,_,b,0,false,pad,rfl,.inr ⟨rfl,this⟩,by omega,hr.row,hr.lt,rfl,by simp⟩
section
variable {P:Program} {tb ts tst:TypeId}
theorem HE(r o n:Nat):Gc (some ⟨r,o,none⟩) (n*1)=some ⟨r,o+n,none⟩:=by
 show some (bif Nat.beq (n*1) 0 then (⟨r,o,none⟩:Addr) else ⟨r,o+n*1,none⟩)=_;rw [Nat.mul_one];cases n<;>rfl
theorem Qd{o:Option Addr}(c:Nat)(hz:o=none->c=0):(bif Nat.beq c 0 then o else Gc o (0*1))=none->c=0:=by
 cases o with
 |none=>exact λ_=>hz rfl
 |some a=>cases Nat.beq c 0<;>(intro h;cases h)
theorem Jm(l:List UInt8)(n:Nat):AP (l.take n)=(AP l).take n:=List.map_take
theorem He(l:List UInt8)(n:Nat):AP (l.drop n)=(AP l).drop n:=List.map_drop
theorem Mx(T:BT P tb ts tst){C:Nat}(hc:C<Bo)(hn:n<=C):AX P A ts (.slice a len C) none (some (.int .i64 (.ofNat n))) none=some (.slice (bif Nat.beq C 0 then a else Gc a (0*1)) n C):=by
 unfold AX;simp only [T.us,T.sz,BL.2 hc,Cf,bounds,FQ,Dn,Bb.2 hn,Nat.sub_zero,Option.isSome_some,Option.isSome_none,Bool.not_false,Bool.or_true,Ct]
theorem TR(T:BT P tb ts tst){c:Nat}(hr:HA A a tb=true)(hn:n<=c):AX P A ts (.slice a len (Bo+c)) none (some (.int .i64 (.ofNat n))) none=some (.slice (Gc a (0*1)) n (Bo+c)):=by
 unfold AX;simp only [T.us,T.sz,Bb.2 (show Bo<=Bo+c from Nat.le_add_right _ _),Ct,bounds,FQ,Dn,Nat.add_sub_cancel_left,Bb.2 hn,Nat.sub_zero,Option.isSome_some,Option.isSome_none,Bool.not_false,Bool.or_true,hr,Bool.and_self]
theorem RdS.to(T:BT P tb ts tst)(h:RdS tb A v l F)(hn:n<=l.length):∃ v',AX P A ts v none (some (.int .i64 (n:Int))) none=some v'/\RdS tb A v' (l.take n) F:=by
 show ∃ v',AX P A ts v none (some (.int .i64 (.ofNat n))) none=some v'/\_;rcases h with ⟨rfl,rfl,o,c,rfl,hc,hz⟩ | ⟨r,o,c,C,cs,f,b,ro,rest,rfl,hC,hl,h2,h3,rfl,h5⟩
 ·have hn0:n=0:=Nat.le_zero.1 hn;refine ⟨_,Mx T hc (by omega),.inl ⟨List.take_nil,rfl,_,c,by rw [hn0],hc,Qd c hz⟩⟩
 ·have hd:cs.drop o=AP (l.take n)++(AP (l.drop n)++rest):=by
   rw [h5,Jm,He,<- Mw,List.take_append_drop]
  have hlen:(l.take n).length=n:=by rw [List.length_take];omega
  rcases hC with rfl | ⟨rfl,hc⟩
  ·refine ⟨_,TR T (by unfold HA;simp only [h2];exact beq_true.2 rfl) (by omega),?_⟩;rw [HE,Nat.add_zero];exact .inr ⟨r,o,c,Bo+c,cs,f,b,ro,_,by rw [hlen],.inl rfl,by omega,h2,h3,rfl,hd⟩
  ·refine ⟨_,Mx T hc (by omega),?_⟩;rw [HE,Nat.add_zero];refine .inr ⟨r,o,C,C,cs,f,b,ro,_,?_,.inr ⟨rfl,hc⟩,by omega,h2,h3,rfl,hd⟩;rw [hlen];cases Nat.beq C 0
   ·rw [Cf]
   ·rw [Ct]
theorem RdS.from(T:BT P tb ts tst)(h:RdS tb A v l F)(hn:n<=l.length):∃ v',AX P A ts v (some (.int .i64 (n:Int))) none none=some v'/\RdS tb A v' (l.drop n) F:=by
 have hc0:Bo=18446744073709551616:=rfl;show ∃ v',AX P A ts v (some (.int .i64 (.ofNat n))) none none=some v'/\_;rcases h with ⟨rfl,rfl,o,c,rfl,hc,hz⟩ | ⟨r,o,c,C,cs,f,b,ro,rest,rfl,hC,hl,h2,h3,rfl,h5⟩
 ·obtain rfl:n=0:=by simpa using hn
  refine ⟨.slice (bif Nat.beq c 0 then o else Gc o (0*1)) 0 c,?_,.inl ⟨rfl,rfl,_,c,rfl,hc,Qd c hz⟩⟩;unfold AX;simp only [T.us,T.sz,BL.2 hc,Cf,bounds,FQ,Dn,Bb.2 (Nl 0),Nat.sub_zero,Option.isSome_none,Bool.not_false,Bool.or_true,Ct]
 ·have hd:cs.drop (o+n)=AP (l.drop n)++rest:=by
   rw [<- List.drop_drop,h5,He,List.drop_append_of_le_length (by rw [BA];exact hn)]
  have hlen:(l.drop n).length=l.length-n:=List.length_drop;rcases hC with rfl | ⟨rfl,hc⟩
  ·refine ⟨.slice (Gc (some ⟨r,o,none⟩) (n*1)) (l.length-n) (Bo+(c-n)),?_,?_⟩
   ·unfold AX;have hr:HA A (some ⟨r,o,none⟩) tb=true:=by unfold HA;simp only [h2];exact beq_true.2 rfl
    simp only [T.us,T.sz,Bb.2 (show Bo<=Bo+c by omega),Ct,bounds,FQ,Dn,Nat.add_sub_cancel_left,Bb.2 hn,Bb.2 hl,Option.isSome_none,Bool.not_false,Bool.or_true,hr,Bool.and_self]
   ·rw [HE];exact .inr ⟨r,o+n,c-n,_,cs,f,b,ro,rest,by rw [hlen],.inl rfl,by omega,h2,h3,rfl,hd⟩
  ·refine ⟨.slice (bif Nat.beq C n then some ⟨r,o,none⟩ else Gc (some ⟨r,o,none⟩) (n*1)) (l.length-n) (C-n),?_,?_⟩
   ·unfold AX;simp only [T.us,T.sz,BL.2 hc,Cf,bounds,FQ,Dn,Bb.2 hn,Option.isSome_none,Bool.not_false,Bool.or_true,Ct]
   ·rw [HE];cases hb:Nat.beq C n with
    |false=>exact .inr ⟨r,o+n,C-n,C-n,cs,f,b,ro,rest,by rw [hlen,Cf],.inr ⟨rfl,by omega⟩,by omega,h2,h3,rfl,hd⟩
    |true=>
     have e:=Nb hb;have hnil:l.drop n=[]:=List.drop_eq_nil_of_le (by omega);refine .inr ⟨r,o,C-n,C-n,cs,f,b,ro,cs.drop o,by rw [hlen,Ct],.inr ⟨rfl,by omega⟩,by omega,h2,h3,rfl,?_⟩;rw [hnil];rfl
end
section
variable {P:Program}
theorem CN{d:Nat}{xs ys:Array Value}{f:Field}{fs:List Field}{a b:Value}{r:Bool}(hn:decide (f.name≠ "_")=true)(h1:quiet P (part f.type xs f.offset)=some a)(h2:quiet P (part f.type ys f.offset)=some b)(h3:quiet P (Op.equalIn d f.type a b)=some r):
  quiet P (Op.eqFields d xs ys (f::fs))=if r=true then quiet P (Op.eqFields d xs ys fs) else some false:=by
 simp only [Op.eqFields];rw [if_pos (of_decide_eq_true hn)];show quiet P (Sem.bind _ _)=_;rw [Dd,h1];simp only [Option.bind_some];show quiet P (Sem.bind _ _)=_;rw [Dd,h2];simp only [Option.bind_some];show quiet P (Sem.bind _ _)=_;rw [Dd,h3];cases r<;>rfl
theorem bytes_beq(a b:ByteArray):(a==b)=(a.data.toList==b.data.toList):=by
 obtain ⟨⟨x⟩⟩:=a;obtain ⟨⟨y⟩⟩:=b;show ((⟨x⟩:Array UInt8)==⟨y⟩)=(x==y)
 simp
theorem HB{d:Nat}{t:TypeId}{a b:ByteArray}(h:quiet P (underlying t)=some .string):quiet P (Op.equalIn (d+1) t (.string a) (.string b))=some (a.data.toList==b.data.toList):=by
 rw [MV d t a b h,bytes_beq]
end
theorem XS{P:Program}{tb ts tst:TypeId}{A:AW}{s:ByteArray}(T:BT P tb ts tst):BM P A tb tst 1 (.string s)=some (s.data.toList.length,AP s.data.toList):=by
 unfold BM;rw [T.ust];rfl
end Go.Abs
namespace Go.Crc
def Rj(r:Nat):Nat:=if r%2=1 then (r/2) ^^^ 2197175160 else r/2
def bits:Nat->Nat->Nat
 |0,r=>r
 |n+1,r=>bits n (Rj r)
def tab:List Nat:=[0,274646895,549293790,820201905,1098587580,1361435347,1640403810,1905808397,2197175160,2460548119,2722870694,2987750089,3280807620,3553878443,3811616794,4084100981]
def nib(r:Nat):Nat:=(r/16) ^^^ tab.getD (r%16) 0
def AbN(r:Nat)(c:UInt8):Nat:=bits 8 (r ^^^ c.toNat)
def Oz(r:Nat)(l:List UInt8):Nat:=l.foldl AbN r
def FM(l:List UInt8):Nat:=4294967295-Oz 4294967295 l
def le4(s:Nat):List UInt8:=[UInt8.ofNat s,UInt8.ofNat (s/256),UInt8.ofNat (s/65536),UInt8.ofNat (s/16777216)]
def FO(l:List UInt8):List UInt8:=l++le4 (FM l)
theorem Xj(x y:Nat):(x ^^^ y)/2=(x/2) ^^^ (y/2):=by
 apply Nat.eq_of_testBit_eq;intro i;simp [Nat.testBit_div_two,Nat.testBit_xor]
theorem ZO(x y:Nat):((x ^^^ y)%2=1)↔¬ ((x%2=1)↔(y%2=1)):=by
 have h:=Nat.testBit_xor x y 0;simp only [Nat.testBit_zero] at h;by_cases hx:x%2=1<;>by_cases hy:y%2=1<;>simp_all
theorem Zq(x y:Nat):Rj (x ^^^ y)=Rj x ^^^ Rj y:=by
 unfold Rj;have h:=ZO x y;rw [Xj];by_cases hx:x%2=1<;>by_cases hy:y%2=1
 ·rw [if_neg (λe=>(h.1 e) ⟨λ_=>hy,λ_=>hx⟩),if_pos hx,if_pos hy];apply Nat.eq_of_testBit_eq;intro i;simp only [Nat.testBit_xor];cases (x/2).testBit i<;>cases (y/2).testBit i<;>cases Nat.testBit 2197175160 i<;>rfl
 ·rw [if_pos (h.2 λe=>hy (e.1 hx)),if_pos hx,if_neg hy];apply Nat.eq_of_testBit_eq;intro i;simp only [Nat.testBit_xor];cases (x/2).testBit i<;>cases (y/2).testBit i<;>cases Nat.testBit 2197175160 i<;>rfl
 ·rw [if_pos (h.2 λe=>hx (e.2 hy)),if_neg hx,if_pos hy];apply Nat.eq_of_testBit_eq;intro i;simp only [Nat.testBit_xor];cases (x/2).testBit i<;>cases (y/2).testBit i<;>cases Nat.testBit 2197175160 i<;>rfl
 ·rw [if_neg (λe=>(h.1 e) ⟨λe=>absurd e hx,λe=>absurd e hy⟩),if_neg hx,if_neg hy]
theorem Ta:∀ (n x y:Nat),bits n (x ^^^ y)=bits n x ^^^ bits n y
 |0,_,_=>rfl
 |n+1,x,y=>by rw [bits,Zq,Ta n];rfl
theorem Tb:∀ (n m r:Nat),bits (n+m) r=bits m (bits n r)
 |0,m,r=>by rw [Nat.zero_add];rfl
 |n+1,m,r=>by rw [show n+1+m=(n+m)+1 by omega,bits,Tb n m];rfl
theorem W4(q:Nat):Rj (2*q)=q:=by
 unfold Rj;rw [if_neg (by omega)];omega
theorem OG:∀ (n q:Nat),bits n (2^n*q)=q
 |0,q=>by simp [bits]
 |n+1,q=>by rw [bits,Nat.pow_succ,Nat.mul_comm (2^n) 2,Nat.mul_assoc,W4,OG n]
theorem VV(n r:Nat):r=(2^n*(r/2^n)) ^^^ (r%2^n):=by
 apply Nat.eq_of_testBit_eq;intro i;rw [Nat.testBit_xor,Nat.testBit_two_pow_mul,Nat.testBit_mod_two_pow];by_cases h:i<n
 ·simp [h,show ¬ n<=i by omega]
 ·have h2:n<=i:=by omega
  simp only [h,h2,decide_true,decide_false,Bool.true_and,Bool.false_and,Bool.xor_false];rw [Nat.testBit_div_two_pow,show i-n+n=i by omega]
theorem XG:∀ n,n<16->bits 4 n=tab.getD n 0:=by decide
theorem NU(r:Nat):nib r=bits 4 r:=by
 conv=>rhs;rw [VV 4 r]
 rw [Ta,OG 4,XG _ (Nat.mod_lt _ (by decide))];rfl
theorem Aap(r:Nat):nib (nib r)=bits 8 r:=by
 rw [NU,NU,<- Tb]
theorem Aa3{r:Nat}(h:r<4294967296):Rj r<4294967296:=by
 unfold Rj;split
 ·exact Nat.xor_lt_two_pow (n:=32) (by omega) (by decide)
 ·omega
theorem Ri:∀ (n:Nat) {r:Nat},r<4294967296->bits n r<4294967296
 |0,_,h=>h
 |n+1,_,h=>Ri n (Aa3 h)
theorem VE(c:UInt8):c.toNat<4294967296:=Nat.lt_trans c.toNat_lt (by decide)
theorem Zo{r:Nat}(c:UInt8)(h:r<4294967296):AbN r c<4294967296:=Ri 8 (Nat.xor_lt_two_pow (n:=32) h (VE c))
theorem Vy:∀ (l:List UInt8) {r:Nat},r<4294967296->Oz r l<4294967296
 |[],_,h=>h
 |c::l,_,h=>Vy l (Zo c h)
theorem Kx(s:Nat):(le4 s).length=4:=rfl
theorem DZ(l:List UInt8):(FO l).length=l.length+4:=by simp [FO,le4]
theorem S6(r:Nat)(a b:List UInt8):Oz r (a++b)=Oz (Oz r a) b:=by simp [Oz]
def Dz(l:List UInt8):Bool:=decide (4<=l.length)&&(l==FO (l.take (l.length-4)))
theorem IQ(l:List UInt8):Dz (FO l)=true:=by
 unfold Dz;have h:(FO l).take ((FO l).length-4)=l:=by
  rw [DZ,Nat.add_sub_cancel];unfold FO;rw [List.take_left'];rfl
 rw [h,DZ]
 simp
end Go.Crc
namespace Go.Jr
open Go.Crc
abbrev Rec:=UInt8 × List UInt8
def be4(n:Nat):List UInt8:=[UInt8.ofNat (n/16777216),UInt8.ofNat (n/65536),UInt8.ofNat (n/256),UInt8.ofNat n]
def Ee:List UInt8->Nat:=λl=>l.foldl (λn c=>256*n+c.toNat) 0
theorem Sh{n:Nat}(h:n<4294967296):Ee (be4 n)=n:=by
 show 256*(256*(256*(256*0+(UInt8.ofNat (n/16777216)).toNat)+(UInt8.ofNat (n/65536)).toNat)+(UInt8.ofNat (n/256)).toNat)+(UInt8.ofNat n).toNat=n;simp only [UInt8.toNat_ofNat'];omega
def N8(r:Rec):List UInt8:=FO (r.1::be4 r.2.length)
def AL(r:Rec):List UInt8:=N8 r++FO r.2
def AF(l:List Rec):List UInt8:=l.flatMap AL
theorem DB(r:Rec):(N8 r).length=9:=rfl
theorem BQ(r:Rec):(AL r).length=13+r.2.length:=by
 unfold AL;rw [List.length_append,DB,DZ];omega
def FP:Nat->List UInt8->List Rec × Nat × Nat
 |0,_=>([],0,0)
 |f+1,s=>
  if s=[] then ([],0,0) else
  if s.length<9 then ([],0,1) else
  if Dz (s.take 9)=false then ([],0,2) else
  if 65536<Ee ((s.take 5).drop 1) then ([],0,2) else
  if s.length<13+Ee ((s.take 5).drop 1) then ([],0,1) else
  if Dz ((s.drop 9).take (Ee ((s.take 5).drop 1)+4))=false then ([],0,2) else
  let q:=FP f (s.drop (13+Ee ((s.take 5).drop 1)))
  ((s.headD 0,(s.drop 9).take (Ee ((s.take 5).drop 1)))::q.1,13+Ee ((s.take 5).drop 1)+q.2.1,q.2.2)
def scan(s:List UInt8):List Rec × Nat × Nat:=FP (s.length+1) s
theorem NA:∀ (f g:Nat) (s:List UInt8),s.length<f->s.length<g->FP f s=FP g s
 |0,_,s,h,_=>by omega
 |_,0,s,_,h=>by omega
 |f+1,g+1,s,hf,hg=>by
  unfold FP;by_cases h0:s=[]
  ·rw [if_pos h0,if_pos h0]
  ·have:0<s.length:=List.length_pos_iff.2 h0
   rw [NA f g (s.drop _) (by rw [List.length_drop];omega) (by rw [List.length_drop];omega)]
theorem PG(r:Rec)(s:List UInt8):(AL r++s).take 9=N8 r:=by
 unfold AL;rw [List.append_assoc,List.take_append_of_le_length (by rw [DB];omega),List.take_of_length_le (by rw [DB];omega)]
theorem X9{r:Rec}(h:r.2.length<=65536)(s:List UInt8):Ee (((AL r++s).take 5).drop 1)=r.2.length:=by
 have:((AL r++s).take 5).drop 1=be4 r.2.length:=rfl
 rw [this,Sh (by omega)]
theorem T1(r:Rec)(s:List UInt8):(AL r++s).drop 9=FO r.2++s:=by
 unfold AL;rw [List.append_assoc,List.drop_append_of_le_length (by rw [DB];omega),List.drop_of_length_le (by rw [DB];omega),List.nil_append]
theorem Kj(f:Nat)(s:List UInt8):FP (f+1) s=(if s=[] then ([],0,0) else
  if s.length<9 then ([],0,1) else
  if Dz (s.take 9)=false then ([],0,2) else
  if 65536<Ee ((s.take 5).drop 1) then ([],0,2) else
  if s.length<13+Ee ((s.take 5).drop 1) then ([],0,1) else
  if Dz ((s.drop 9).take (Ee ((s.take 5).drop 1)+4))=false then ([],0,2) else
  ((s.headD 0,(s.drop 9).take (Ee ((s.take 5).drop 1)))::(FP f (s.drop (13+Ee ((s.take 5).drop 1)))).1,13+Ee ((s.take 5).drop 1)+(FP f (s.drop (13+Ee ((s.take 5).drop 1)))).2.1,(FP f (s.drop (13+Ee ((s.take 5).drop 1)))).2.2)):=rfl
theorem PD{r:Rec}(h:r.2.length<=65536)(f:Nat)(s:List UInt8):FP (f+1) (AL r++s)=(r::(FP f s).1,13+r.2.length+(FP f s).2.1,(FP f s).2.2):=by
 have hl:=BQ r;have e1:=PG r s;have e2:=X9 h s;have e3:=T1 r s;have e4:(AL r++s).drop (13+r.2.length)=s:=by
  rw [<- hl,List.drop_left]
 rw [Kj,e1,e2,e3,e4,if_neg (by intro h0;have:=congrArg List.length h0;simp [hl] at this),if_neg (by rw [List.length_append,hl];omega),if_neg (by unfold N8;rw [IQ];simp),if_neg (by omega),
  if_neg (by rw [List.length_append,hl];omega),if_neg (by rw [<- DZ,List.take_left,IQ];simp)]
 have e5:(AL r++s).headD 0=r.1:=rfl;have e6:(FO r.2++s).take r.2.length=r.2:=by
  unfold FO;rw [List.append_assoc,List.take_left]
 rw [e5,e6]
theorem CU(r:Rec)(l:List Rec):AF (r::l)=AL r++AF l:=rfl
theorem Du(a b:List Rec):AF (a++b)=AF a++AF b:=List.flatMap_append
theorem Nz:∀ {l:List Rec},(∀ r∈l,r.2.length<=65536)->∀ f,(AF l).length<f->FP f (AF l)=(l,(AF l).length,0)
 |[],_,f+1,_=>rfl
 |r::l,h,f+1,hf=>by
  have hl:=BQ r;rw [CU] at hf ⊢;rw [List.length_append] at hf;rw [PD (h r (by simp)),Nz (λx hx=>h x (by simp [hx])) f (by omega),List.length_append,hl]
abbrev Fil:=List UInt8 × Nat
abbrev Fls:=List (List UInt8 × Fil)
def BV(D:Fls)(k:List UInt8):Option Fil:=(D.find? λe=>e.1==k).map (·.2)
def Cm:Fls->List UInt8->Fil->Fls
 |[],k,v=>[(k,v)]
 |e::r,k,v=>if e.1==k then (k,v)::r else e::Cm r k v
def Ho(D:Fls)(k:List UInt8):Fls:=D.filter λe=>!(e.1==k)
def IJ(D:Fls):Nat:=(D.map λe=>e.2.1.length).foldr (·+·) 0
structure DS where
 D:Fls
 room:Int
 Dj:Int
 down:Bool
def FR(n:List UInt8):Bool:=decide (n≠[])&&(decide (n.length<=40)&&n.all λc=>decide (33<=c)&&decide (c<=126))
def IN(s:DS):Int:=if s.down=true then 100 else 0
def El(s:DS)(f:Fls->Fls)(though:Bool):DS × Int:=
 if 0<s.Dj then
  (if s.Dj-1=0 then (⟨if though=true then f s.D else s.D,s.room,0,true⟩,100) else (⟨f s.D,s.room,s.Dj-1,s.down⟩,0))
 else (⟨f s.D,s.room,s.Dj,s.down⟩,0)
def fileOf(D:Fls)(n:List UInt8):Fil:=(BV D n).getD ([],0)
def Bg(s:DS)(n b:List UInt8):DS × Int:=
 if s.down=true then (s,100) else
 if FR n=false then (s,2) else
 if 1048576-((fileOf s.D n).1.length:Int)<b.length then (s,3) else
 if s.room-(IJ s.D:Int)<b.length then (s,6) else
 El s (λD=>Cm D n ((fileOf s.D n).1++b,(fileOf s.D n).2)) true
def Ca(s:DS)(n:List UInt8):DS × Int:=
 if s.down=true then (s,100) else
 match BV s.D n with
 |none=>(s,7)
 |some f=>El s (λD=>Cm D n (f.1,f.1.length)) false
def Co(s:DS)(n t:List UInt8):DS × Int:=
 if s.down=true then (s,100) else
 if (FR n&&FR t)=false then (s,2) else
 match BV s.D n with
 |none=>(s,7)
 |some f=>El s (λD=>Cm (Ho D n) t f) false
def dig:Nat->Nat->List UInt8
 |0,_=>[]
 |k+1,n=>dig k (n/10)++[UInt8.ofNat (48+n%10)]
def nm(n:Nat):List UInt8:=[106,46]++dig 8 n
def fresh:List UInt8:=[106,46,110,101,119]
structure Seg where
 n:Nat
 l:List Rec
 size:Nat
 st:Nat
def EU(n:Nat)(b:List UInt8):Seg:=⟨n,(scan b).1,(scan b).2.1,(scan b).2.2⟩
def Ec(x:Seg):Bool:=match x.l with | r::_=>r.1==0 | []=>false
def E2:List Seg->Option Nat
 |[]=>none
 |x::r=>match E2 r with | some i=>some (i+1) | none=>if Ec x=true then some 0 else none
def JX(n0 len i:Nat)(x:Seg):Bool:=
 decide (x.n=n0+i)&&((decide (i+1=len) || decide (x.st=0))&&(decide (x.st≠2)&&(x.l.zipIdx.all λc=>!(c.1.1==0) || decide (i+c.2=0))))
def U9(r:List Seg):Bool:=r.zipIdx.all λx=>JX ((r.head?.map (·.n)).getD 0) r.length x.2 x.1
def Kl(l:List Seg):Option (List Seg × Nat):=
 match E2 l with
 |none=>if l=[] then some ([],0) else none
 |some f=>if U9 (l.drop f)=true then some (l.drop f,f) else none
def BH(s:DS)(n:List UInt8):DS × Int:=
 if s.down=true then (s,100) else
 match BV s.D n with
 |none=>(s,7)
 |some _=>El s (λD=>Ho D n) false
def S5(s:DS)(n:List UInt8)(k:Int):DS × Int:=
 if s.down=true then (s,100) else
 if k<0 then (s,2) else
 match BV s.D n with
 |none=>(s,7)
 |some f=>if (f.1.length:Int)<k then (s,2) else El s (λD=>Cm D n (f.1.take k.toNat,min f.2 k.toNat)) false
structure JS where
 limit:Int
 state:List UInt8
 l:List Rec
 row:List Nat
 size:Nat
 some:Bool
 broken:Bool
def CZ(q:JS)(e:Int):JS:={ q with broken:=q.broken || e==100 }
inductive Ac
 |rmF | ap0 | syF | rn1
 |rm (n:Nat) | ct (n k:Nat) | sy (n:Nat)
def Ck:List UInt8:=AL (0,[])
def Ac.run(s:DS):Ac->DS × Int
 |.rmF=>BH s fresh
 |.ap0=>Bg s fresh Ck
 |.syF=>Ca s fresh
 |.rn1=>Co s fresh (nm 1)
 |.rm n=>BH s (nm n)
 |.ct n k=>S5 s (nm n) k
 |.sy n=>Ca s (nm n)
def Cw(s:DS):List Ac->DS × Int
 |[]=>(s,0)
 |a::r=>if (a.run s).2=0 then Cw (a.run s).1 r else a.run s
def numOf(f:List UInt8):Nat:=if f.take 2=[106,46]/\f.length=10/\(f.drop 2).all (λc=>decide (48<=c)&&decide (c<=57))=true then (f.drop 2).foldl (λn c=>10*n+(c.toNat-48)) 0 else 0
def Cs(D:Fls)(names:List (List UInt8)):List Seg:=names.filterMap λf=>if numOf f=0 then none else some (EU (numOf f) (fileOf D f).1)
def FB(names:List (List UInt8))(all r:List Seg)(below:Nat):List Ac:=
 (if fresh∈names then [.rmF] else [])++((if r=[] then [.ap0,.syF,.rn1] else [])++((all.take below).map (λx=>.rm x.n)++
  (match r.getLast? with | none=>[] | some x=>(if x.st=1 then [.ct x.n x.size] else [])++[.sy x.n])))
def Rr(r:List Seg):List Rec:=r.flatMap (·.l)
def HF(limit:Int)(r:List Seg):JS:=
 ⟨limit,(((Rr r).head?).map (·.2)).getD [],(Rr r).tail,if r=[] then [1] else r.map (·.n),match r.getLast? with | none=>13 | some x=>x.size,match r.getLast? with | none=>true | some x=>!x.l.isEmpty,false⟩
def Cl(s:DS)(names:List (List UInt8))(limit:Int):DS × Option JS × Int:=
 if limit<1 then (s,none,2) else
 if s.down=true then (s,none,100) else
 match Kl (Cs s.D names) with
 |none=>(s,none,120)
 |some (r,f)=>
  let q:=Cw s (FB names (Cs s.D names) r f)
  if q.2=0 then (q.1,some (HF limit r),0) else (q.1,none,q.2)
def Ak(s:DS)(q:JS)(r:Rec):DS × JS × Int:=
 if r.1=0 then (s,q,2) else
 if q.broken=true then (s,q,100) else
 let n:=q.row.getLast?.getD 0
 if q.some=true/\q.limit-q.size<(AL r).length then
  if n=99999999 then (s,q,6) else
  let x:=Ca s (nm n)
  if x.2≠0 then (x.1,CZ q x.2,x.2) else
  let y:=Bg x.1 (nm (n+1)) (AL r)
  if y.2≠0 then (y.1,CZ q y.2,y.2) else
  (y.1,{ q with row:=q.row++[n+1],size:=(AL r).length,some:=true,l:=q.l++[r] },0)
 else
  let y:=Bg s (nm n) (AL r)
  if y.2≠0 then (y.1,CZ q y.2,y.2) else
  (y.1,{ q with size:=q.size+(AL r).length,some:=true,l:=q.l++[r] },0)
def BJ(s:DS)(q:JS):DS × JS × Int:=
 if q.broken=true then (s,q,100) else
 let x:=Ca s (nm (q.row.getLast?.getD 0))
 (x.1,CZ q x.2,x.2)
end Go.Jr
namespace Go.Jr
def C6(s:DS):List Nat->DS × Int
 |[]=>(s,0)
 |k::r=>if (BH s (nm k)).2≠0 then BH s (nm k) else C6 (BH s (nm k)).1 r
def AE(s:DS)(names:List (List UInt8))(q:JS)(st:List UInt8):DS × JS × Int:=
 if q.broken=true then (s,q,100) else
 if 65536<st.length then (s,q,3) else
 let n:=q.row.getLast?.getD 0+1
 if 99999999<n then (s,q,6) else
 let x0:=if fresh∈names then BH s fresh else (s,0)
 if x0.2≠0 then (x0.1,CZ q x0.2,x0.2) else
 let x1:=Bg x0.1 fresh (AL (0,st))
 if x1.2≠0 then (x1.1,CZ q x1.2,x1.2) else
 let x2:=Ca x1.1 fresh
 if x2.2≠0 then (x2.1,CZ q x2.2,x2.2) else
 let x3:=Co x2.1 fresh (nm n)
 if x3.2≠0 then (x3.1,CZ q x3.2,x3.2) else
 let q':JS:={ q with state:=st,l:=[],row:=[n],size:=(AL (0,st)).length,some:=true };let y:=C6 x3.1 q.row
 if y.2≠0 then (y.1,CZ q' y.2,y.2) else (y.1,q',0)
def HG(s:DS)(n:Int):DS:=if s.down=true then s else { s with Dj:=max n 0 }
def C1(s:DS):DS:={ s with down:=true,Dj:=0 }
def Gz(f:Fil)(k:Option Int):Fil:=
 match k with
 |none=>(f.1.take f.2,f.2)
 |some k=>(f.1.take (f.2+(min (max k 0) ((f.1.length:Int)-f.2)).toNat),f.2+(min (max k 0) ((f.1.length:Int)-f.2)).toNat)
def GY(D:Fls)(keep:List Int):List (List UInt8)->Nat->Fls
 |[],_=>D
 |p::r,i=>GY (Cm D p (Gz (fileOf D p) keep[i]?)) keep r (i+1)
def CF(s:DS)(names:List (List UInt8))(keep:List Int):DS:=if s.down=true then ⟨GY s.D keep names 0,s.room,s.Dj,false⟩ else s
end Go.Jr
section
namespace Go.Proofs.YtnennggfoegcmaaGreatDoor
open Go.Jr Go.Crc
structure OkD (s:DS):Prop where
 few:s.D.length<10000
 len:∀ f∈s.D,f.2.1.length<=1048576
 safe:∀ f∈s.D,f.2.2<=f.2.1.length
end Go.Proofs.YtnennggfoegcmaaGreatDoor
end
section
namespace Go.Proofs.YtnennggfoegcmaaGreatDoor
open Go.Jr Go.Crc
def leB(x y:List UInt8):Bool:=decide (x<=y)
def namesS(D:Fls):List (List UInt8):=(D.map (·.1)).mergeSort leB
end Go.Proofs.YtnennggfoegcmaaGreatDoor
end
section
namespace Go.Proofs.YtnennggfoegcmaaGreatDoor
open Go.Jr Go.Crc
structure OkN (s:DS):Prop where
 r0:0<=s.room
 r1:s.room<9223372036854775808
 f1:s.Dj<9223372036854775808
end Go.Proofs.YtnennggfoegcmaaGreatDoor
end
section
namespace Go.Proofs.YtnennggfoegcmaaGreatDoor
open Go.Jr Go.Crc
theorem lastB_snoc(x:Seg):∀ l:List Seg,E2 (l++[x])=if Ec x=true then some l.length else E2 l
 |[]=>by
  show (match E2 [] with | some i=>some (i+1) | none=>if Ec x=true then some 0 else none)=_;rfl
 |y::l=>by
  rw [List.cons_append];unfold E2;rw [lastB_snoc x l];by_cases h:Ec x=true
  ·simp [h]
  ·simp [h]
def okC(i:Nat)(c:Rec × Nat):Bool:=!(c.1.1==0) || decide (i+c.2=0)
theorem okSeg_eq(n0 len i:Nat)(x:Seg):JX n0 len i x=(decide (x.n=n0+i)&&((decide (i+1=len) || decide (x.st=0))&&(decide (x.st≠2)&&x.l.zipIdx.all (okC i)))):=rfl
theorem all_zip{α:Type}(l:List α)(p:α × Nat->Bool):l.zipIdx.all p=true↔∀ (i:Nat) (x:α),l[i]? =some x->p (x,i)=true:=by
 rw [List.all_eq_true];constructor
 ·intro h i x hx;exact h (x,i) (List.mem_zipIdx_iff_getElem?.2 hx)
 ·rintro h ⟨x,i⟩ hm;exact h i x (List.mem_zipIdx_iff_getElem?.1 hm)
end Go.Proofs.YtnennggfoegcmaaGreatDoor
end
section
namespace Go.Jr
open Go.Jr Go.Crc
variable {k:Nat} {s:DS}
theorem Lf(D:Fls)(k:List UInt8)(v:Fil):(Cm D k v).length<=D.length+1:=by
 induction D with
 |nil=>simp [Cm]
 |cons e r ih=>
  unfold Cm;split
  ·simp
  ·simp;omega
theorem GI{D:Fls}{k:List UInt8}{v:Fil}{e:List UInt8 × Fil}(h:e∈Cm D k v):e=(k,v)\/e∈D:=by
 induction D with
 |nil=>left;simpa [Cm] using h
 |cons x r ih=>
  unfold Cm at h;split at h
  ·rcases List.mem_cons.1 h with h | h
   ·exact .inl h
   ·exact .inr (List.mem_cons_of_mem _ h)
  ·rcases List.mem_cons.1 h with h | h
   ·exact .inr (by rw [h];exact List.mem_cons_self)
   ·rcases ih h with h | h
    ·exact .inl h
    ·exact .inr (List.mem_cons_of_mem _ h)
theorem S2(D:Fls)(k:List UInt8):(Ho D k).length<=D.length:=List.length_filter_le _ _
theorem S1{D:Fls}{k:List UInt8}{e:List UInt8 × Fil}(h:e∈Ho D k):e∈D:=(List.mem_filter.1 h).1
theorem Ft{D:Fls}{k:List UInt8}{f:Fil}(h:BV D k=some f):(k,f)∈D:=by
 unfold BV at h;cases hq:D.find? λe=>e.1==k with
 |none=>rw [hq] at h;cases h
 |some e=>
  rw [hq] at h;have h1:=List.find?_some hq;have h2:=List.mem_of_find?_eq_some hq;obtain ⟨a,b⟩:=e;obtain rfl:a=k:=by simpa using h1
  obtain rfl:b=f:=by simpa using h
  exact h2
structure OkS (k:Nat) (s:DS):Prop where
 few:s.D.length<=k
 len:∀ f∈s.D,f.2.1.length<=1048576
 safe:∀ f∈s.D,f.2.2<=f.2.1.length
 r0:0<=s.room
 r1:s.room<9223372036854775808
 f1:s.Dj<9223372036854775808
theorem OkS.more{n:Nat}(h:OkS k s)(hn:k<=n):OkS n s:=⟨Nat.le_trans h.few hn,h.len,h.safe,h.r0,h.r1,h.f1⟩
theorem LO{g:Fls->Fls}{though:Bool}(h:OkS k s)(hl:(g s.D).length<=k+1)(hg:∀ e∈g s.D,e.2.1.length<=1048576/\e.2.2<=e.2.1.length):OkS (k+1) (El s g though).1:=by
 have h1:∀ f d,f<9223372036854775808->OkS (k+1) ⟨s.D,s.room,f,d⟩:=λf d hf=>⟨Nat.le_succ_of_le h.few,h.len,h.safe,h.r0,h.r1,hf⟩;have h2:∀ f d,f<9223372036854775808->OkS (k+1) ⟨g s.D,s.room,f,d⟩:=λf d hf=>⟨hl,λe he=>(hg e he).1,λe he=>(hg e he).2,h.r0,h.r1,hf⟩
 have:=h.f1
 unfold El;split
 ·split
  ·cases though
   ·exact h1 _ _ (by omega)
   ·exact h2 _ _ (by omega)
  ·exact h2 _ _ (by omega)
 ·exact h2 _ _ (by omega)
theorem WE(h:OkS k s)(n:List UInt8):(fileOf s.D n).1.length<=1048576/\(fileOf s.D n).2<=(fileOf s.D n).1.length:=by
 unfold fileOf;cases hq:BV s.D n with
 |none=>exact ⟨Nat.zero_le _,Nat.le_refl _⟩
 |some f=>have:=Ft hq;exact ⟨h.len _ this,h.safe _ this⟩
theorem EC(h:OkS k s)(n b:List UInt8):OkS (k+1) (Bg s n b).1:=by
 unfold Bg;split
 ·exact h.more (by omega)
 ·split
  ·exact h.more (by omega)
  ·split
   ·exact h.more (by omega)
   ·split
    ·exact h.more (by omega)
    ·refine LO h (Nat.le_trans (Lf _ _ _) (by have:=h.few;omega)) λe he=>?_;rcases GI he with rfl | he
     ·have:=WE h n
      refine ⟨?_,?_⟩
      ·show ((fileOf s.D n).1++b).length<=_;rw [List.length_append];omega
      ·show (fileOf s.D n).2<=((fileOf s.D n).1++b).length;rw [List.length_append];omega
     ·exact ⟨h.len _ he,h.safe _ he⟩
theorem EQ(h:OkS k s)(n:List UInt8):OkS (k+1) (Ca s n).1:=by
 unfold Ca;split
 ·exact h.more (by omega)
 ·split
  ·exact h.more (by omega)
  ·rename_i f hq;have hm:=Ft hq;refine LO h (Nat.le_trans (Lf _ _ _) (by have:=h.few;omega)) λe he=>?_;rcases GI he with rfl | he
   ·exact ⟨show f.1.length<=_ from h.len (n,f) hm,Nat.le_refl _⟩
   ·exact ⟨h.len _ he,h.safe _ he⟩
theorem Ko(h:OkS k s)(n t:List UInt8):OkS (k+1) (Co s n t).1:=by
 unfold Co;split
 ·exact h.more (by omega)
 ·split
  ·exact h.more (by omega)
  ·split
   ·exact h.more (by omega)
   ·rename_i f hq;have hm:=Ft hq;refine LO h (Nat.le_trans (Lf _ _ _) (by have:=h.few;have:=S2 s.D n;omega)) λe he=>?_;rcases GI he with rfl | he
    ·exact ⟨show f.1.length<=_ from h.len (n,f) hm,show f.2<=f.1.length from h.safe (n,f) hm⟩
    ·have he:=S1 he;exact ⟨h.len _ he,h.safe _ he⟩
theorem Ew(h:OkS k s)(n:List UInt8):OkS (k+1) (BH s n).1:=by
 unfold BH;split
 ·exact h.more (by omega)
 ·split
  ·exact h.more (by omega)
  ·refine LO h (Nat.le_trans (S2 _ _) (by have:=h.few;omega)) λe he=>?_;have he:=S1 he;exact ⟨h.len _ he,h.safe _ he⟩
theorem AaV(h:OkS k s)(n:List UInt8)(c:Int):OkS (k+1) (S5 s n c).1:=by
 unfold S5;split
 ·exact h.more (by omega)
 ·split
  ·exact h.more (by omega)
  ·split
   ·exact h.more (by omega)
   ·rename_i f hq;have hm:=Ft hq;split
    ·exact h.more (by omega)
    ·refine LO h (Nat.le_trans (Lf _ _ _) (by have:=h.few;omega)) λe he=>?_;rcases GI he with rfl | he
     ·have h1:=h.len _ hm;have h2:=h.safe _ hm;refine ⟨?_,?_⟩
      ·show (f.1.take c.toNat).length<=_;rw [List.length_take];simp only at h1;omega
      ·show min f.2 c.toNat<=(f.1.take c.toNat).length;rw [List.length_take];simp only at h2;omega
     ·exact ⟨h.len _ he,h.safe _ he⟩
theorem Ac.NE(h:OkS k s)(a:Ac):OkS (k+1) (a.run s).1:=by
 cases a with
 |rmF=>exact Ew h _
 |ap0=>exact EC h _ _
 |syF=>exact EQ h _
 |rn1=>exact Ko h _ _
 |rm n=>exact Ew h _
 |ct n c=>exact AaV h _ _
 |sy n=>exact EQ h _
end Go.Jr
namespace Go.Proofs.YtnennggfoegcmaaGreatDoor
open Go.Jr Go.Crc
theorem _root_.Go.Jr.OkS.d{k:Nat}{s:DS}(h:OkS k s)(hk:k<10000):OkD s:=⟨Nat.lt_of_le_of_lt h.few hk,h.len,h.safe⟩
theorem _root_.Go.Jr.OkS.n{k:Nat}{s:DS}(h:OkS k s):OkN s:=⟨h.r0,h.r1,h.f1⟩
end Go.Proofs.YtnennggfoegcmaaGreatDoor
end
section
namespace Go.Proofs.YtnennggfoegcmaaGreatDoor
open Go.Jr Go.Crc
theorem IS(s:DS)(a:Ac)(r:List Ac):Cw s (a::r)=if (a.run s).2=0 then Cw (a.run s).1 r else a.run s:=rfl
end Go.Proofs.YtnennggfoegcmaaGreatDoor
end
section
namespace Go.Proofs.YtnennggfoegcmaaGreatDoor
open Go.Jr Go.Crc
theorem HD:∀ i,i<100->numOf (Jr.nm i)=i/\FR (Jr.nm i)=true/\Jr.nm i≠fresh:=by decide+kernel
theorem Kt{i j:Nat}(hi:i<100)(hj:j<100)(h:Jr.nm i=Jr.nm j):i=j:=by
 rw [<- (HD i hi).1,<- (HD j hj).1,h]
theorem Yw:∀ i,i<100->∀ j,j<100->i<=j->leB (Jr.nm i) (Jr.nm j)=true:=by
 have h:((List.range 100).all λi=>(List.range 100).all λj=>!decide (i<=j) || leB (Jr.nm i) (Jr.nm j))=true:=by decide+kernel
 intro i hi j hj hij;have h1:=List.all_eq_true.1 h i (List.mem_range.2 hi);have h2:=List.all_eq_true.1 h1 j (List.mem_range.2 hj)
 simpa [hij] using h2
def Y0(F:Nat->Nat)(bs:List (List UInt8)):Fls:=bs.zipIdx.map λx=>(Jr.nm (x.2+1),(x.1,F x.2))
theorem EW{D:Fls}{k:List UInt8}(h:∀ e∈D,e.1≠k)(v:Fil)(R:Fls):Cm (D++R) k v=D++Cm R k v:=by
 induction D with
 |nil=>rfl
 |cons e r ih=>
  rw [List.cons_append,Cm];have he:(e.1==k)=false:=by rw [beq_eq_false_iff_ne];exact h e (by simp)
  rw [he];simp only [Bool.false_eq_true,if_false,List.cons_append];rw [ih λx hx=>h x (by simp [hx])]
theorem DL{D:Fls}{k:List UInt8}(h:∀ e∈D,e.1≠k)(R:Fls):BV (D++R) k=BV R k:=by
 unfold BV;rw [List.find?_append]
 have:D.find? (λe=>e.1==k)=none:=List.find?_eq_none.2 λe he=>by simpa using h e he
 rw [this];rfl
theorem foldr_add(l:List Nat):l.foldr (·+·) 0=l.sum:=rfl
theorem Hl{α β:Type}{f:α->Option β}{g:α->β}:∀ {l:List α},(∀ x∈l,f x=some (g x))->l.filterMap f=l.map g
 |[],_=>rfl
 |x::r,h=>by rw [List.filterMap_cons,h x (by simp),Hl λy hy=>h y (by simp [hy])];rfl
end Go.Proofs.YtnennggfoegcmaaGreatDoor
end
section
namespace Go.Proofs.YtnennggfoegcmaaGreatDoor
open Go.Jr Go.Crc
theorem CX(r:Rec):AF [r]=AL r:=by simp [AF]
def TI(room limit:Int)(R:List Rec)(s:DS)(q:JS):Prop:=
 ∃ F gs g,s=⟨Y0 F ((gs++[g]).map AF),room,0,false⟩/\q=⟨limit,[],R,(List.range (gs.length+1)).map (·+1),(AF g).length,true,false⟩/\(gs++[g]).flatten=(0,[])::R/\(∀ x∈gs++[g],x≠[])/\gs.length<=R.length
theorem Yl{room limit:Int}(hr:13<=room)(hl:1<=limit):∃ s q,Cl ⟨[],room,0,false⟩ (namesS []) limit=(s,some q,0)/\TI room limit [] s q:=by
 have hn:namesS []=[]:=by unfold namesS;simp
 have hseg:Cs [] []=[]:=rfl;have hrow:Kl []=some ([],0):=rfl;have hacts:FB [] [] [] 0=[.ap0,.syF,.rn1]:=by unfold FB;simp
 have hb0:Ck.length=13:=BQ _;have hmf:FR fresh=true:=by decide
 have hm1:FR (Jr.nm 1)=true:=(HD 1 (by omega)).2.1;have h1:Bg ⟨[],room,0,false⟩ fresh Ck=(⟨[(fresh,(Ck,0))],room,0,false⟩,0):=by
  unfold Bg;have hfo:fileOf [] fresh=([],0):=rfl;have hu:IJ []=0:=rfl;simp only [Bool.false_eq_true,if_false,hmf,hfo,hu,List.length_nil,hb0];rw [if_neg (by simp),if_neg (by omega),if_neg (by omega)];unfold El;simp only [Int.lt_irrefl,if_false];rfl
 have h2:Ca ⟨[(fresh,(Ck,0))],room,0,false⟩ fresh=(⟨[(fresh,(Ck,13))],room,0,false⟩,0):=by
  unfold Ca;have hl:BV [(fresh,(Ck,0))] fresh=some (Ck,0):=by simp [BV]
  simp only [Bool.false_eq_true,if_false,hl];unfold El;simp only [Int.lt_irrefl,if_false,hb0];simp [Cm]
 have h3:Co ⟨[(fresh,(Ck,13))],room,0,false⟩ fresh (Jr.nm 1)=(⟨[(Jr.nm 1,(Ck,13))],room,0,false⟩,0):=by
  unfold Co;have hl:BV [(fresh,(Ck,13))] fresh=some (Ck,13):=by simp [BV]
  simp only [Bool.false_eq_true,if_false,hl,hmf,hm1,Bool.and_self];rw [if_neg (by simp)];unfold El;simp only [Int.lt_irrefl,if_false];simp [Ho,Cm]
 have hrun:Cw ⟨[],room,0,false⟩ [.ap0,.syF,.rn1]=(⟨[(Jr.nm 1,(Ck,13))],room,0,false⟩,0):=by
  simp only [Cw,Ac.run,h1,h2,h3,if_true]
 refine ⟨⟨[(Jr.nm 1,(Ck,13))],room,0,false⟩,HF limit [],?_,λ_=>13,[],[(0,[])],?_,?_,?_,?_,?_⟩
 ·unfold Cl;rw [if_neg (by omega),hn];simp only [Bool.false_eq_true,if_false,hseg,hrow,hacts,hrun,if_true]
 ·simp [Y0,CX,Ck]
 ·unfold HF;simp [Rr,CX,BQ]
 ·rfl
 ·simp
 ·simp
end Go.Proofs.YtnennggfoegcmaaGreatDoor
end
section
namespace Go.Proofs.YtnennggfoegcmaaGreatDoor
open Go.Jr Go.Crc
theorem Sv{x:Seg}{r:List Seg}(h:∀ y∈r,Ec y=false):E2 (x::r)=if Ec x=true then some 0 else none:=by
 have hr:E2 r=none:=by
  induction r with
  |nil=>rfl
  |cons y r ih=>
   unfold E2;rw [ih λz hz=>h z (by simp [hz])];simp [h y (by simp)]
 unfold E2;rw [hr]
theorem W7{x:Seg}(h:∀ c∈x.l,c.1≠0):Ec x=false:=by
 obtain ⟨n,l,sz,st⟩:=x;cases l with
 |nil=>rfl
 |cons c r=>
  have:=h c (by simp)
  show (c.1==0)=false
  simpa using this
end Go.Proofs.YtnennggfoegcmaaGreatDoor
end
section
namespace Go.Proofs.YtnennggfoegcmaaGreatDoor
open Go.Jr Go.Crc
theorem Ya(l:List Rec){n:Nat}(h:∀ r∈l,r.2.length<=n):(AF l).length<=l.length*(13+n):=by
 induction l with
 |nil=>simp [AF]
 |cons r l ih=>
  rw [CU,List.length_append,BQ,List.length_cons,Nat.succ_mul]
  have:=ih λx hx=>h x (by simp [hx])
  have:=h r (by simp)
  omega
theorem Sd{room limit:Int}(hr:13<=room)(hr2:room<9223372036854775808)(hl:1<=limit):∃ s q,Cl ⟨[],room,0,false⟩ (namesS []) limit=(s,some q,0)/\TI room limit [] s q/\OkS 5 s:=by
 obtain ⟨s,q,h1,h2⟩:=Yl hr hl;refine ⟨s,q,h1,h2,?_⟩;have h0:OkS 0 ⟨[],room,0,false⟩:=⟨Nat.le_refl _,by simp,by simp,by show (0:Int)<=room;omega,hr2,by show (0:Int)<9223372036854775808;decide⟩;have key:∀ (l:List Ac) (k:Nat) (s:DS),OkS k s->OkS (k+l.length) (Cw s l).1:=by
  intro l
  induction l with
  |nil=>intro k s h;exact h
  |cons a r ih=>
   intro k s h;rw [IS];split
   ·exact (ih (k+1) _ (Ac.NE h a)).more (by simp;omega)
   ·exact (Ac.NE h a).more (by simp)
 have hn:namesS []=[]:=by unfold namesS;simp
 have hacts:FB [] [] [] 0=[.ap0,.syF,.rn1]:=by unfold FB;simp
 have:=key [.ap0,.syF,.rn1] 0 _ h0
 unfold Cl at h1;rw [if_neg (by omega),hn] at h1;have hseg:Cs [] []=[]:=rfl;have hrow:Kl []=some ([],0):=rfl;simp only [Bool.false_eq_true,if_false,hseg,hrow,hacts] at h1;split at h1
 ·simp only [Prod.mk.injEq] at h1;rw [<- h1.1];exact this.more (by simp)
 ·simp only [Prod.mk.injEq] at h1;simp at h1
end Go.Proofs.YtnennggfoegcmaaGreatDoor
end
section
namespace Go.Proofs.YtnennggfoegcmaaGreatDoor
open Go.Jr Go.Crc
variable {n0 n:Nat} {F:Nat->Nat} {bs:List (List UInt8)}
def Am(n0:Nat)(F:Nat->Nat)(bs:List (List UInt8)):Fls:=bs.zipIdx.map λx=>(Jr.nm (x.2+n0),(x.1,F x.2))
theorem EJ(n0:Nat)(F:Nat->Nat)(bs:List (List UInt8))(b:List UInt8):Am n0 F (bs++[b])=Am n0 F bs++[(Jr.nm (bs.length+n0),(b,F bs.length))]:=by
 unfold Am;rw [List.zipIdx_append,List.map_append]
 simp
theorem Gr{G:Nat->Nat}(h:∀ i,i<bs.length->F i=G i):Am n0 F bs=Am n0 G bs:=by
 unfold Am;apply List.map_congr_left;rintro ⟨b,i⟩ hm
 have:=(List.getElem?_eq_some_iff.1 (List.mem_zipIdx_iff_getElem?.1 hm)).1
 rw [h i this]
theorem Fu{e:List UInt8 × Fil}(h:e∈Am n0 F bs):∃ i b,bs[i]? =some b/\e=(Jr.nm (i+n0),(b,F i)):=by
 obtain ⟨⟨b,i⟩,hm,rfl⟩:=List.mem_map.1 h;exact ⟨i,b,List.mem_zipIdx_iff_getElem?.1 hm,rfl⟩
theorem Iq(n0:Nat)(F:Nat->Nat)(bs:List (List UInt8)):(Am n0 F bs).length=bs.length:=by unfold Am;rw [List.length_map,List.length_zipIdx]
theorem Gx(hn:bs.length+n0<=n)(h64:n<100):∀ e∈Am n0 F bs,e.1≠Jr.nm n:=by
 intro e he h;obtain ⟨i,b,hi,rfl⟩:=Fu he
 have:=(List.getElem?_eq_some_iff.1 hi).1
 have:=Kt (by omega) h64 h
 omega
theorem Gq(h64:bs.length+n0<100):∀ e∈Am n0 F bs,e.1≠fresh:=by
 intro e he;obtain ⟨i,b,hi,rfl⟩:=Fu he
 have:=(List.getElem?_eq_some_iff.1 hi).1
 exact (HD (i+n0) (by omega)).2.2
theorem Il(n0:Nat)(F:Nat->Nat)(bs:List (List UInt8))(b:List UInt8)(h64:bs.length+n0<100):BV (Am n0 F (bs++[b])) (Jr.nm (bs.length+n0))=some (b,F bs.length):=by
 rw [EJ,DL (Gx (by omega) h64)];simp [BV]
theorem Uj(n0:Nat)(F:Nat->Nat)(bs:List (List UInt8))(hn:bs.length+n0<=n)(h64:n<100):BV (Am n0 F bs) (Jr.nm n)=none:=by
 have:=DL (Gx (F:=F) hn h64) []
 rw [List.append_nil] at this;rw [this];rfl
theorem JB(n0:Nat)(F:Nat->Nat)(bs:List (List UInt8))(b b':List UInt8)(n:Nat)(h64:bs.length+n0<100):Cm (Am n0 F (bs++[b])) (Jr.nm (bs.length+n0)) (b',n)=Am n0 (λi=>if i=bs.length then n else F i) (bs++[b']):=by
 rw [EJ,EW (Gx (by omega) h64),EJ];simp only [Cm,BEq.rfl,if_true]
 congr 1
 exact Gr λi hi=>by rw [if_neg (by omega)]
theorem Yb(n0:Nat)(F:Nat->Nat)(bs:List (List UInt8))(b:List UInt8)(n:Nat)(h64:bs.length+n0<100):Cm (Am n0 F bs) (Jr.nm (bs.length+n0)) (b,n)=Am n0 (λi=>if i=bs.length then n else F i) (bs++[b]):=by
 have:=EW (Gx (F:=F) (bs:=bs) (n:=bs.length+n0) (Nat.le_refl _) h64) (b,n) []
 rw [List.append_nil] at this;rw [this,EJ];simp only [Cm,if_true]
 congr 1
 exact Gr λi hi=>by rw [if_neg (by omega)]
theorem IK(n0:Nat)(F:Nat->Nat)(bs:List (List UInt8)):IJ (Am n0 F bs)=bs.flatten.length:=by
 unfold IJ Am;rw [List.map_map,List.length_flatten,foldr_add]
 congr 1
 rw [List.zipIdx_eq_zip_range'];rw [show (λe:List UInt8 × Fil=>e.2.1.length)∘(λx:List UInt8 × Nat=>(Jr.nm (x.2+n0),(x.1,F x.2)))=λx=>x.1.length from rfl];rw [show (λx:List UInt8 × Nat=>x.1.length)=List.length∘Prod.fst from rfl,<- List.map_map,List.map_fst_zip (by simp)]
theorem Lm(n0:Nat)(F:Nat->Nat)(bs:List (List UInt8))(h64:bs.length+n0<100):namesS (Am n0 F bs)=bs.zipIdx.map λx=>Jr.nm (x.2+n0):=by
 unfold namesS;have e:(Am n0 F bs).map (·.1)=bs.zipIdx.map λx=>Jr.nm (x.2+n0):=by unfold Am;rw [List.map_map];rfl
 rw [e];refine List.mergeSort_of_pairwise ?_;rw [List.zipIdx_eq_zip_range',List.pairwise_map];rw [List.pairwise_iff_getElem];intro i j hi hj hij;simp only [List.getElem_zip,List.getElem_range'];simp at hi hj;exact Yw _ (by omega) _ (by omega) (by omega)
theorem Ud(n0:Nat)(F:Nat->Nat)(bs:List (List UInt8))(h64:bs.length+n0<100){i:Nat}{p:List UInt8}(h:(namesS (Am n0 F bs))[i]? =some p):i<bs.length/\p=Jr.nm (i+n0):=by
 rw [Lm n0 F bs h64,List.getElem?_map,List.getElem?_zipIdx] at h;cases hb:bs[i]? with
 |none=>rw [hb] at h;cases h
 |some b=>
  rw [hb] at h;have h1:Jr.nm (0+i+n0)=p:=by simpa using h
  rw [Nat.zero_add] at h1;exact ⟨(List.getElem?_eq_some_iff.1 hb).1,h1.symm⟩
theorem Ip(n0:Nat)(F:Nat->Nat)(bs:List (List UInt8))(h64:bs.length+n0<100):fresh∉namesS (Am n0 F bs):=by
 intro hm;obtain ⟨i,hi⟩:=List.mem_iff_getElem?.1 hm;obtain ⟨h1,h2⟩:=Ud n0 F bs h64 hi;exact (HD (i+n0) (by omega)).2.2 h2.symm
theorem MH(n0:Nat)(F:Nat->Nat):∀ (bs:List (List UInt8)),bs.length+n0<100->∀ i b,bs[i]? =some b->BV (Am n0 F bs) (Jr.nm (i+n0))=some (b,F i):=by
 intro bs h64 i b hb;have hm:(Jr.nm (i+n0),(b,F i))∈Am n0 F bs:=List.mem_map.2 ⟨(b,i),List.mem_zipIdx_iff_getElem?.2 hb,rfl⟩;have hi:=(List.getElem?_eq_some_iff.1 hb).1;unfold BV;cases hq:(Am n0 F bs).find? λe=>e.1==Jr.nm (i+n0) with
 |none=>have:=List.find?_eq_none.1 hq _ hm;simp at this
 |some e=>
  have h1:=List.find?_some hq;obtain ⟨j,c,hj,rfl⟩:=Fu (List.mem_of_find?_eq_some hq);have hjl:=(List.getElem?_eq_some_iff.1 hj).1;have h1:Jr.nm (j+n0)=Jr.nm (i+n0):=by simpa using h1
  have:=Kt (by omega) (by omega) h1
  obtain rfl:j=i:=by omega
  rw [hb] at hj;obtain rfl:b=c:=by simpa using hj
  rfl
theorem RO(n0:Nat)(F:Nat->Nat)(bs:List (List UInt8))(h1:1<=n0)(h64:bs.length+n0<100):Cs (Am n0 F bs) (namesS (Am n0 F bs))=bs.zipIdx.map λx=>EU (x.2+n0) x.1:=by
 rw [Lm n0 F bs h64];unfold Cs;rw [List.filterMap_map];refine Hl ?_;rintro ⟨b,i⟩ hm;have hb:=List.mem_zipIdx_iff_getElem?.1 hm;have hi:=(List.getElem?_eq_some_iff.1 hb).1;have hl:=MH n0 F bs h64 i b hb;have hn:=(HD (i+n0) (by omega)).1;simp only [Function.comp];rw [hn,if_neg (by omega)];unfold fileOf;rw [hl];rfl
theorem Kh{c:List UInt8}{room:Int}(h64:bs.length+n0<96):
  Ca ⟨Am n0 F (bs++[c]),room,0,false⟩ (Jr.nm (bs.length+n0))=(⟨Am n0 (λi=>if i=bs.length then c.length else F i) (bs++[c]),room,0,false⟩,0):=by
 have hl:=Il n0 F bs c (by omega);unfold Ca;simp only [Bool.false_eq_true,if_false,hl];unfold El;simp only [Int.lt_irrefl,if_false];rw [JB n0 F bs c c _ (by omega)]
end Go.Proofs.YtnennggfoegcmaaGreatDoor
end
section
namespace Go.Proofs.YtnennggfoegcmaaGreatDoor
open Go.Jr Go.Crc
theorem Gu(n n0:Nat):((List.range (n+1)).map (·+n0)).getLast? =some (n+n0):=by
 rw [List.range_succ,List.map_append,List.map_singleton,List.getLast?_concat]
theorem V4(n n0:Nat):(List.range (n+1)).map (·+n0)++[n+n0+1]=(List.range (n+2)).map (·+n0):=by
 rw [List.range_succ (n:=n+1),List.map_append,List.map_singleton,show n+1+n0=n+n0+1 by omega]
theorem Hn{D:Fls}{k:List UInt8}(h:∀ e∈D,e.1≠k)(v:Fil):Ho (D++[(k,v)]) k=D:=by
 unfold Ho;rw [List.filter_append];have h1:D.filter (λe=>!(e.1==k))=D:=List.filter_eq_self.2 λe he=>by simpa using h e he
 rw [h1]
 simp
theorem Oy{D:Fls}{k:List UInt8}(h:∀ e∈D,e.1≠k)(v:Fil):Ho ((k,v)::D) k=D:=by
 unfold Ho;rw [List.filter_cons];have h1:D.filter (λe=>!(e.1==k))=D:=List.filter_eq_self.2 λe he=>by simpa using h e he
 rw [h1]
 simp
theorem IU{room:Int}:∀ (bs:List (List UInt8)) (n0:Nat) (F:Nat->Nat) (v:Fil),1<=n0->bs.length+n0<96->
  C6 ⟨Am n0 F bs++[(Jr.nm (bs.length+n0),v)],room,0,false⟩ ((List.range bs.length).map (·+n0))=(⟨[(Jr.nm (bs.length+n0),v)],room,0,false⟩,0)
 |[],n0,F,v,_,_=>by simp [Am,C6]
 |b::r,n0,F,v,h1,h64=>by
  have h64:r.length+1+n0<96:=h64;have e1:Am n0 F (b::r)=(Jr.nm n0,(b,F 0))::Am (n0+1) (λi=>F (i+1)) r:=by
   unfold Am;rw [List.zipIdx_cons',List.map_cons,List.map_map];simp only [Nat.zero_add,Function.comp_def]
   congr 1
   apply List.map_congr_left;intro x _;show (Jr.nm (x.2+1+n0),(x.1,F (x.2+1)))=(Jr.nm (x.2+(n0+1)),(x.1,F (x.2+1)));rw [show x.2+1+n0=x.2+(n0+1) by omega]
  have e2:(List.range (b::r).length).map (·+n0)=n0::(List.range r.length).map (·+(n0+1)):=by
   rw [List.length_cons,List.range_succ_eq_map,List.map_cons,List.map_map];simp only [Nat.zero_add]
   congr 1
   apply List.map_congr_left;intro x _;show x+1+n0=x+(n0+1);omega
  have hne:∀ e∈Am (n0+1) (λi=>F (i+1)) r++[(Jr.nm (r.length+(n0+1)),v)],e.1≠Jr.nm n0:=by
   intro e he h;rcases List.mem_append.1 he with he | he
   ·obtain ⟨i,c,hi,rfl⟩:=Fu he
    have:=(List.getElem?_eq_some_iff.1 hi).1
    have:=Kt (by omega) (by omega) h
    omega
   ·rw [List.mem_singleton.1 he] at h
    have:=Kt (by omega) (by omega) h
    omega
  have ih:=IU (room:=room) r (n0+1) (λi=>F (i+1)) v (by omega) (by omega);have e3:(b::r).length+n0=r.length+(n0+1):=by rw [List.length_cons];omega
  rw [e1,e2,e3];have hrm:BH ⟨(Jr.nm n0,(b,F 0))::Am (n0+1) (λi=>F (i+1)) r++[(Jr.nm (r.length+(n0+1)),v)],room,0,false⟩ (Jr.nm n0)=(⟨Am (n0+1) (λi=>F (i+1)) r++[(Jr.nm (r.length+(n0+1)),v)],room,0,false⟩,0):=by
   unfold BH;have hl:BV ((Jr.nm n0,(b,F 0))::Am (n0+1) (λi=>F (i+1)) r++[(Jr.nm (r.length+(n0+1)),v)]) (Jr.nm n0)=some (b,F 0):=by simp [BV]
   simp only [Bool.false_eq_true,if_false,hl];unfold El;simp only [Int.lt_irrefl,if_false];rw [List.cons_append,Oy hne]
  unfold C6;rw [hrm];simp only [ne_eq,not_true_eq_false,if_false];exact ih
end Go.Proofs.YtnennggfoegcmaaGreatDoor
end
section
namespace Go.Proofs.YtnennggfoegcmaaGreatDoor
open Go.Jr Go.Crc
end Go.Proofs.YtnennggfoegcmaaGreatDoor
end
namespace Go.Jr
open Go.Crc
theorem MB:∀ {l:List Rec},(∀ r∈l,r.2.length<=65536)->∀ n,n<=(AF l).length->∀ f,n<f->∃ k st,k<=l.length/\(st=0\/st=1)/\FP f ((AF l).take n)=(l.take k,(AF (l.take k)).length,st)/\(AF (l.take k)).length<=n/\(st=0->(AF (l.take k)).length=n)/\∀ c,c<=l.length->(AF (l.take c)).length<=n->c<=k
 |[],_,n,hn,f+1,_=>by
  obtain rfl:n=0:=by simpa [AF] using hn
  exact ⟨0,0,Nat.le_refl _,.inl rfl,rfl,Nat.le_refl _,λ_=>rfl,λc hc _=>hc⟩
 |r::l,h,n,hn,f+1,hf=>by
  have hr:=h r (by simp);have hl:=BQ r;rw [CU,List.length_append] at hn;by_cases hlt:n<13+r.2.length
  ·have hmono:∀ c,c<=(r::l).length->(AF ((r::l).take c)).length<=n->c<=0:=by
    intro c hc h2;cases c with
    |zero=>exact Nat.le_refl _
    |succ c=>
     rw [List.take_succ_cons,CU,List.length_append] at h2;omega
   have hslen:((AF (r::l)).take n).length=n:=by rw [List.length_take,CU,List.length_append];omega
   by_cases h0:n=0
   ·subst h0;exact ⟨0,0,Nat.zero_le _,.inl rfl,by rw [List.take_zero];rfl,Nat.le_refl _,λ_=>rfl,hmono⟩
   ·refine ⟨0,1,Nat.zero_le _,.inr rfl,?_,Nat.zero_le _,λh=>by simp at h,hmono⟩;have hne:(AF (r::l)).take n≠[]:=by intro h;rw [h] at hslen;simp at hslen;omega
    show FP (f+1) ((AF (r::l)).take n)=([],0,1);rw [Kj,if_neg hne,hslen];by_cases h9:n<9
    ·rw [if_pos h9]
    ·have e1:((AF (r::l)).take n).take 9=N8 r:=by
      rw [List.take_take,Nat.min_eq_left (by omega),CU,PG]
     have e5:(((AF (r::l)).take n).take 5).drop 1=be4 r.2.length:=by
      rw [List.take_take,Nat.min_eq_left (by omega),CU];rfl
     have e6:Ee ((((AF (r::l)).take n).take 5).drop 1)=r.2.length:=by rw [e5,Sh (by omega)]
     rw [if_neg h9,e1,if_neg (by unfold N8;rw [IQ];simp),e6,if_neg (by omega),if_pos hlt]
  ·obtain ⟨k,st,hk,hst,hs,hle,hz,hm⟩:=MB (l:=l) (λx hx=>h x (by simp [hx])) (n-(13+r.2.length)) (by omega) f (by omega);refine ⟨k+1,st,by simpa using hk,hst,?_,?_,?_,?_⟩
   ·have e:(AF (r::l)).take n=AL r++(AF l).take (n-(13+r.2.length)):=by
     rw [CU,List.take_append,hl,List.take_of_length_le (by omega)]
    rw [e,PD hr,hs];show _=(r::l.take k,(AF (r::l.take k)).length,st);rw [CU,List.length_append,hl]
   ·rw [List.take_succ_cons,CU,List.length_append,hl];omega
   ·intro h0
    have:=hz h0
    rw [List.take_succ_cons,CU,List.length_append,hl];omega
   ·intro c hc h2;cases c with
    |zero=>omega
    |succ c=>
     rw [List.take_succ_cons,CU,List.length_append,hl] at h2
     have:=hm c (by simpa using hc) (by omega)
     omega
def FL(keep:List Int):Nat->Fls->Fls
 |_,[]=>[]
 |i,e::r=>(e.1,Gz e.2 keep[i]?)::FL keep (i+1) r
theorem Pw(keep:List Int):∀ (i:Nat) (a b:Fls),FL keep i (a++b)=FL keep i a++FL keep (i+a.length) b
 |i,[],b=>rfl
 |i,e::r,b=>by
  rw [List.cons_append,FL,FL,Pw keep (i+1) r b,List.cons_append,List.length_cons,show i+1+r.length=i+(r.length+1) by omega]
theorem No(keep:List Int):∀ (D P:Fls) (i:Nat),((P++D).map (·.1)).Nodup->GY (P++D) keep (D.map (·.1)) i=P++FL keep i D
 |[],P,i,_=>by simp [GY,FL]
 |e::r,P,i,hn=>by
  have hne:∀ x∈P,x.1≠e.1:=by
   intro x hx h;rw [List.map_append,List.nodup_append] at hn;exact hn.2.2 x.1 (List.mem_map.2 ⟨x,hx,rfl⟩) e.1 (by simp) h
  have hfo:fileOf (P++e::r) e.1=e.2:=by
   unfold fileOf;rw [Go.Proofs.YtnennggfoegcmaaGreatDoor.DL hne];simp [BV]
  rw [List.map_cons,GY,hfo,Go.Proofs.YtnennggfoegcmaaGreatDoor.EW hne];have hp:Cm (e::r) e.1 (Gz e.2 keep[i]?)=(e.1,Gz e.2 keep[i]?)::r:=by simp [Cm]
  rw [hp,show P++(e.1,Gz e.2 keep[i]?)::r=(P++[(e.1,Gz e.2 keep[i]?)])++r by simp];rw [No keep r (P++[(e.1,Gz e.2 keep[i]?)]) (i+1) (by simpa using hn)];simp [FL]
theorem RB{f:Fil}(h:f.2<=f.1.length)(k:Option Int):∃ n,f.2<=n/\n<=f.1.length/\Gz f k=(f.1.take n,n):=by
 cases k with
 |none=>exact ⟨f.2,Nat.le_refl _,h,rfl⟩
 |some k=>exact ⟨_,by omega,by omega,rfl⟩
theorem Pu(keep:List Int):∀ (i:Nat) (D:Fls),(FL keep i D).length=D.length
 |_,[]=>rfl
 |i,e::r=>by rw [FL,List.length_cons,List.length_cons,Pu keep (i+1) r]
end Go.Jr
namespace Go.Proofs.YtnennggfoegcmaaGreatDoor
section
open Go.Jr
variable {F:Nat->Nat} {bs:List (List UInt8)} {n0:Nat} {room:Int}
theorem Pv(keep:List Int):∀ (j:Nat) (D:Fls) (i:Nat),(FL keep j D)[i]? =(D[i]?).map λe=>(e.1,Gz e.2 keep[j+i]?)
 |_,[],i=>by simp [FL]
 |j,e::r,0=>by simp [FL]
 |j,e::r,i+1=>by
  rw [FL,List.getElem?_cons_succ,List.getElem?_cons_succ,Pv keep (j+1) r i,show j+1+i=j+(i+1) by omega]
theorem Oh(n0:Nat)(F:Nat->Nat)(bs:List (List UInt8))(i:Nat):(Am n0 F bs)[i]? =(bs[i]?).map λb=>(Jr.nm (i+n0),(b,F i)):=by
 unfold Am;rw [List.getElem?_map,List.getElem?_zipIdx,Option.map_map];cases bs[i]? with
 |none=>rfl
 |some b=>simp
theorem TK(keep:List Int)(j n0:Nat)(hs:∀ (i:Nat) b,bs[i]? =some b->F i<=b.length):
  ∃ F' bs',FL keep j (Am n0 F bs)=Am n0 F' bs'/\bs'.length=bs.length/\∀ (i:Nat) b,bs[i]? =some b->∃ n,F i<=n/\n<=b.length/\bs'[i]? =some (b.take n)/\F' i=n:=by
 let G:Nat->List UInt8->Fil:=λi b=>Gz (b,F i) keep[j+i]?;let bs':=bs.zipIdx.map λx=>(G x.2 x.1).1;let F':Nat->Nat:=λi=>(G i (bs[i]?.getD [])).2;have hb':∀ i,bs'[i]? =(bs[i]?).map λb=>(G i b).1:=by
  intro i;show (bs.zipIdx.map _)[i]? =_;rw [List.getElem?_map,List.getElem?_zipIdx,Option.map_map];cases bs[i]? with
  |none=>rfl
  |some b=>simp
 refine ⟨F',bs',?_,by show (bs.zipIdx.map _).length=_;rw [List.length_map,List.length_zipIdx],λi b hb=>?_⟩
 ·apply List.ext_getElem?;intro i;rw [Pv,Oh,Oh,hb' i];cases hq:bs[i]? with
  |none=>rfl
  |some b=>
   simp only [Option.map_some]
   have:F' i=(G i b).2:=by show (G i (bs[i]?.getD [])).2=_;rw [hq];rfl
   rw [this]
 ·obtain ⟨n,h1,h2,h3⟩:=RB (f:=(b,F i)) (hs i b hb) keep[j+i]?;refine ⟨n,h1,h2,?_,?_⟩
  ·rw [hb' i,hb];show some (G i b).1=_;rw [show G i b=(b.take n,n) from h3]
  ·show (G i (bs[i]?.getD [])).2=n;rw [hb];show (G i b).2=n;rw [show G i b=(b.take n,n) from h3]
def Bes(E:Fls):Prop:=E=[]\/∃ v:Fil,E=[(fresh,v)]/\v.1.length<=50013
theorem Yx:∀ i,i<100->leB (Jr.nm i) fresh=true:=by
 have h:((List.range 100).all λi=>leB (Jr.nm i) fresh)=true:=by decide+kernel
 intro i hi;exact List.all_eq_true.1 h i (List.mem_range.2 hi)
theorem L5(n0:Nat)(F:Nat->Nat)(bs:List (List UInt8)):(Am n0 F bs).map (·.1)=bs.zipIdx.map λx=>Jr.nm (x.2+n0):=by unfold Am;rw [List.map_map];rfl
theorem Uc(h64:bs.length+n0<100):(bs.zipIdx.map λx=>Jr.nm (x.2+n0)).Pairwise λa b=>leB a b=true/\a≠b:=by
 rw [List.zipIdx_eq_zip_range',List.pairwise_map,List.pairwise_iff_getElem];intro i j hi hj hij;simp only [List.getElem_zip,List.getElem_range'];simp at hi hj;refine ⟨Yw _ (by omega) _ (by omega) (by omega),λh=>?_⟩
 have:=Kt (by omega) (by omega) h
 omega
theorem Yj{E:Fls}(hE:Bes E)(h64:bs.length+n0<100):((Am n0 F bs++E).map (·.1)).Pairwise λa b=>leB a b=true/\a≠b:=by
 rw [List.map_append,L5];refine List.pairwise_append.2 ⟨Uc h64,?_,?_⟩
 ·rcases hE with rfl | ⟨v,rfl,hv⟩<;>simp
 ·intro a ha b hb;rcases hE with rfl | ⟨v,rfl,hv⟩
  ·simp at hb
  ·obtain rfl:b=fresh:=by simpa using hb
   obtain ⟨⟨c,i⟩,hm,rfl⟩:=List.mem_map.1 ha
   have:=(List.getElem?_eq_some_iff.1 (List.mem_zipIdx_iff_getElem?.1 hm)).1
   exact ⟨Yx _ (by omega),(HD _ (by omega)).2.2⟩
theorem Lo{E:Fls}(hE:Bes E)(h64:bs.length+n0<100):namesS (Am n0 F bs++E)=(Am n0 F bs++E).map (·.1):=by
 unfold namesS;exact List.mergeSort_of_pairwise ((Yj hE h64).imp λh=>h.1)
theorem Vb{E:Fls}(hE:Bes E)(h64:bs.length+n0<100):((Am n0 F bs++E).map (·.1)).Nodup:=(Yj hE h64).imp λh=>h.2
theorem Xt{E:Fls}{Dj:Int}(keep:List Int)(hE:Bes E)(h64:bs.length+n0<100)(hs:∀ (i:Nat) b,bs[i]? =some b->F i<=b.length):
  ∃ F' bs' E',CF ⟨Am n0 F bs++E,room,Dj,true⟩ (namesS (Am n0 F bs++E)) keep=⟨Am n0 F' bs'++E',room,Dj,false⟩/\Bes E'/\bs'.length=bs.length/\∀ (i:Nat) b,bs[i]? =some b->∃ n,F i<=n/\n<=b.length/\bs'[i]? =some (b.take n)/\F' i=n:=by
 obtain ⟨F',bs',h1,h2,h3⟩:=TK keep 0 n0 hs;refine ⟨F',bs',FL keep (Am n0 F bs).length E,?_,?_,h2,h3⟩
 ·unfold CF;rw [if_pos rfl,Lo hE h64]
  have:=No keep (Am n0 F bs++E) [] 0 (by simpa using Vb hE h64)
  rw [List.nil_append,List.nil_append,Pw,h1,Nat.zero_add] at this;rw [this]
 ·rcases hE with rfl | ⟨v,rfl,hv⟩
  ·exact .inl rfl
  ·refine .inr ⟨_,rfl,Nat.le_trans ?_ hv⟩;unfold Gz;split<;>exact List.length_take_le' _ _
theorem Sg:numOf fresh=0:=by decide
theorem Aax{D E:Fls}{k:List UInt8}{v:Fil}(h:BV D k=some v):BV (D++E) k=some v:=by
 unfold BV at *;rw [List.find?_append];cases hq:D.find? λe=>e.1==k with
 |none=>rw [hq] at h;cases h
 |some e=>rw [hq] at h;exact h
theorem XU{E:Fls}(hE:Bes E)(h1:1<=n0)(h64:bs.length+n0<100):
  Cs (Am n0 F bs++E) (namesS (Am n0 F bs++E))=bs.zipIdx.map λx=>EU (x.2+n0) x.1:=by
 rw [Lo hE h64,List.map_append,L5];unfold Cs;rw [List.filterMap_append];have e2:(E.map (·.1)).filterMap (λf=>if numOf f=0 then none else some (EU (numOf f) (fileOf (Am n0 F bs++E) f).1))=[]:=by
  rcases hE with rfl | ⟨v,rfl,hv⟩
  ·rfl
  ·simp [Sg]
 rw [e2,List.append_nil,List.filterMap_map];refine Hl ?_;rintro ⟨b,i⟩ hm;have hb:=List.mem_zipIdx_iff_getElem?.1 hm;have hi:=(List.getElem?_eq_some_iff.1 hb).1;have hl:=Aax (E:=E) (MH n0 F bs h64 i b hb);have hn:=(HD (i+n0) (by omega)).1;simp only [Function.comp];rw [hn,if_neg (by omega)];unfold fileOf;rw [hl];rfl
theorem Vo{E:Fls}(hE:Bes E)(h64:bs.length+n0<100):fresh∈namesS (Am n0 F bs++E)↔E≠[]:=by
 rw [Lo hE h64,List.map_append,List.mem_append];constructor
 ·rintro (h | h) h0
  ·obtain ⟨e,he,h2⟩:=List.mem_map.1 h;exact Gq (by omega) e he h2
  ·subst h0;simp at h
 ·intro h;rcases hE with rfl | ⟨v,rfl,hv⟩
  ·exact absurd rfl h
  ·right;simp
theorem Qz{D:Fls}{v:Fil}(h:∀ e∈D,e.1≠fresh):BH ⟨D++[(fresh,v)],room,0,false⟩ fresh=(⟨D,room,0,false⟩,0):=by
 unfold BH;have hl:BV (D++[(fresh,v)]) fresh=some v:=by rw [DL h];simp [BV]
 simp only [Bool.false_eq_true,if_false,hl];unfold El;simp only [Int.lt_irrefl,if_false];rw [Hn h]
theorem V2{E:Fls}(hE:Bes E)(h64:bs.length+n0<100)(l:List Ac):
  Cw ⟨Am n0 F bs++E,room,0,false⟩ ((if fresh∈namesS (Am n0 F bs++E) then [.rmF] else [])++l)=Cw ⟨Am n0 F bs,room,0,false⟩ l:=by
 by_cases h:E=[]
 ·rw [if_neg (λhm=>(Vo hE h64).1 hm h),List.nil_append,h,List.append_nil]
 ·rw [if_pos ((Vo hE h64).2 h)];rcases hE with rfl | ⟨v,rfl,hv⟩
  ·exact absurd rfl h
  ·show Cw _ (.rmF::l)=_;rw [Cw];simp only [Ac.run,Qz (Gq (n0:=n0) (F:=F) (bs:=bs) (by omega)),if_true]
variable {st:List UInt8} {R gl:List Rec} {gs:List (List Rec)} {n0 st1:Nat} {F:Nat->Nat} {bs:List (List UInt8)} {room limit:Int}
structure GC (st:List UInt8) (R:List Rec) (gs:List (List Rec)) (gl:List Rec):Prop where
 flat:(gs++[gl]).flatten=(0,st)::R
 ne:∀ g∈gs,g≠[]
 kind:∀ r∈R,r.1≠0
 len:∀ r∈R,r.2.length<=65536
 lst:st.length<=65536
theorem GC.first(h:GC st R gs gl):∃ g0 r,gs++[gl]=((0,st)::g0)::r/\(∀ c∈g0,c.1≠0)/\∀ g∈r,∀ c∈g,c.1≠0:=by
 have hf:=h.flat;have key:∀ (g:List Rec) (r:List (List Rec)),gs++[gl]=g::r->g≠[]->∃ g0 r',gs++[gl]=((0,st)::g0)::r'/\(∀ c∈g0,c.1≠0)/\∀ g∈r',∀ c∈g,c.1≠0:=by
  intro g r hg hne;rw [hg,List.flatten_cons] at hf;cases g with
  |nil=>exact absurd rfl hne
  |cons c g0=>
   rw [List.cons_append] at hf;obtain ⟨rfl,hR⟩:=by simpa using hf
   refine ⟨g0,r,hg,λc hc=>h.kind c (by rw [<- hR];simp [hc]),λg hgm c hc=>h.kind c ?_⟩;rw [<- hR,List.mem_append];exact .inr (List.mem_flatten.2 ⟨g,hgm,hc⟩)
 rcases List.eq_nil_or_concat gs with hg | _
 ·refine key gl [] (by rw [hg];rfl) ?_;rintro rfl;rw [hg] at hf;simp at hf
 ·by_cases hg:gs=[]
  ·refine key gl [] (by rw [hg];rfl) ?_;rintro rfl;rw [hg] at hf;simp at hf
  ·obtain ⟨g,r,hgr⟩:=List.exists_cons_of_ne_nil hg;exact key g (r++[gl]) (by rw [hgr];rfl) (h.ne g (by rw [hgr];simp))
theorem GC.lens{g:List Rec}(h:GC st R gs gl)(hg:g∈gs++[gl]):∀ r∈g,r.2.length<=65536:=by
 intro r hr
 have:r∈(gs++[gl]).flatten:=List.mem_flatten.2 ⟨g,hg,hr⟩
 rw [h.flat] at this;rcases List.mem_cons.1 this with rfl | h1
 ·exact h.lst
 ·exact h.len r h1
def IA(n0 st1 m:Nat)(x:List Rec × Nat):Seg:=⟨x.2+n0,x.1,(AF x.1).length,if x.2=m then st1 else 0⟩
theorem XZ(h:GC st R gs gl)(hst:st1=0\/st1=1):
  Kl ((gs++[gl]).zipIdx.map (IA n0 st1 gs.length))=some ((gs++[gl]).zipIdx.map (IA n0 st1 gs.length),0):=by
 obtain ⟨g0,r,hgs,hk0,hkr⟩:=h.first
 have hlen:(gs++[gl]).length=gs.length+1:=by simp
 have hlast:E2 ((gs++[gl]).zipIdx.map (IA n0 st1 gs.length))=some 0:=by
  rw [hgs,List.zipIdx_cons,List.map_cons];rw [Sv]
  ·rfl
  ·intro y hy;obtain ⟨⟨g,i⟩,hm,rfl⟩:=List.mem_map.1 hy;have hg:g∈r:=by
    have:=List.mem_zipIdx hm
    exact this.2.2▸List.getElem_mem _
   exact W7 (hkr g hg)
 unfold Kl;rw [hlast];simp only [List.drop_zero];rw [if_pos];refine (all_zip _ _).2 λi x hx=>?_;rw [List.getElem?_map,List.getElem?_zipIdx] at hx;cases hq:(gs++[gl])[i]? with
 |none=>rw [hq] at hx;cases hx
 |some g=>
  rw [hq] at hx;have hx:IA n0 st1 gs.length (g,0+i)=x:=by simpa using hx
  rw [Nat.zero_add] at hx;subst hx;have hil:i<gs.length+1:=by rw [<- hlen];exact (List.getElem?_eq_some_iff.1 hq).1
  have hhead:(((gs++[gl]).zipIdx.map (IA n0 st1 gs.length)).head?.map (·.n)).getD 0=n0:=by
   rw [hgs,List.zipIdx_cons];simp [IA]
  rw [hhead,okSeg_eq];have e1:(IA n0 st1 gs.length (g,i)).n=n0+i:=by show i+n0=_;omega
  have e2:((gs++[gl]).zipIdx.map (IA n0 st1 gs.length)).length=gs.length+1:=by rw [List.length_map,List.length_zipIdx,hlen]
  have e3:(IA n0 st1 gs.length (g,i)).st=if i=gs.length then st1 else 0:=rfl
  rw [e1,e2,e3,decide_eq_true rfl];have e4:(decide (i+1=gs.length+1) || decide ((if i=gs.length then st1 else 0)=0))=true:=by
   by_cases hi:i=gs.length
   ·rw [decide_eq_true (by omega),Bool.true_or]
   ·rw [if_neg hi];simp
  have e5:decide ((if i=gs.length then st1 else 0)≠2)=true:=by
   by_cases hi:i=gs.length
   ·rw [if_pos hi];rcases hst with rfl | rfl<;>rfl
   ·rw [if_neg hi];rfl
  rw [e4,e5];simp only [Bool.true_and];refine (all_zip _ _).2 λk c hc=>?_;have hc:g[k]? =some c:=hc;unfold okC;by_cases hz:i+k=0
  ·simp [hz]
  ·have hc0:c.1≠0:=by
    rw [hgs] at hq;cases i with
    |zero=>
     obtain rfl:(0,st)::g0=g:=by simpa using hq
     cases k with
     |zero=>exact absurd rfl hz
     |succ k=>
      have hc:((0,st)::g0)[k+1]? =some c:=hc;exact hk0 c (List.mem_of_getElem? (by simpa using hc))
    |succ i=>exact hkr g (List.mem_of_getElem? (by simpa using hq)) c (List.mem_of_getElem? hc)
   simp [hc0]
theorem Xa(l:List (List Rec))(n0 st1 m:Nat):Rr (l.zipIdx.map (IA n0 st1 m))=l.flatten:=by
 unfold Rr;rw [List.flatMap_map];show l.zipIdx.flatMap (λx=>x.1)=_;rw [List.flatMap_def,List.zipIdx_eq_zip_range',List.map_fst_zip (by simp)]
theorem Zi{c:List UInt8}{m:Nat}(h64:bs.length+n0<96)(hm:m<=c.length):
  S5 ⟨Am n0 F (bs++[c]),room,0,false⟩ (Jr.nm (bs.length+n0)) (m:Nat)=(⟨Am n0 (λi=>if i=bs.length then min (F bs.length) m else F i) (bs++[c.take m]),room,0,false⟩,0):=by
 have hl:=Il n0 F bs c (by omega);unfold S5;simp only [Bool.false_eq_true,if_false,hl];rw [if_neg (by omega),if_neg (by omega)];unfold El;simp only [Int.lt_irrefl,if_false];rw [Int.toNat_natCast,JB n0 F bs c (c.take m) _ (by omega)]
theorem Wf {b:List UInt8} {E:Fls} (h:GC st R gs gl) (hE:Bes E) (h1n:1<=n0) (h64:gs.length+n0<92) (hl:1<=limit)
  (hsc:scan b=(gl,(AF gl).length,st1)) (hst:st1=0\/st1=1) (htk:b.take (AF gl).length=AF gl) (hle:(AF gl).length<=b.length) (hz:st1=0->(AF gl).length=b.length):
  ∃ F',Cl ⟨Am n0 F (gs.map AF++[b])++E,room,0,false⟩ (namesS (Am n0 F (gs.map AF++[b])++E)) limit=
   (⟨Am n0 F' ((gs++[gl]).map AF),room,0,false⟩,some ⟨limit,st,R,(List.range (gs.length+1)).map (·+n0),(AF gl).length,!gl.isEmpty,false⟩,0)/\F' gs.length=(AF gl).length/\∀ i,i<gs.length->F' i=F i:=by
 have elen:(gs.map AF++[b]).length=gs.length+1:=by simp
 have hl0:(gs.map AF).length=gs.length:=List.length_map _;have hseg:Cs (Am n0 F (gs.map AF++[b])++E) (namesS (Am n0 F (gs.map AF++[b])++E))=(gs++[gl]).zipIdx.map (IA n0 st1 gs.length):=by
  rw [XU hE h1n (by omega)];rw [List.zipIdx_append,List.map_append,List.zipIdx_append,List.map_append]
  congr 1
  ·rw [List.zipIdx_map,List.map_map];apply List.map_congr_left;rintro ⟨g,i⟩ hm;have hi:=(List.getElem?_eq_some_iff.1 (List.mem_zipIdx_iff_getElem?.1 hm)).1;have hg:=List.mem_of_getElem? (List.mem_zipIdx_iff_getElem?.1 hm);show EU (i+n0) (AF g)=⟨i+n0,g,(AF g).length,if i=gs.length then st1 else 0⟩;have hsg:scan (AF g)=(g,(AF g).length,0):=Nz (h.lens (List.mem_append_left _ hg)) _ (Nat.lt_succ_self _);unfold EU;rw [hsg,if_neg (by omega)]
  ·rw [hl0];show [EU (0+gs.length+n0) b]=[(⟨0+gs.length+n0,gl,(AF gl).length,if 0+gs.length=gs.length then st1 else 0⟩:Seg)];unfold EU;rw [hsc,Nat.zero_add,if_pos rfl]
 have hrow:=XZ (n0:=n0) h hst;have hlast:((gs++[gl]).zipIdx.map (IA n0 st1 gs.length)).getLast? =some ⟨gs.length+n0,gl,(AF gl).length,st1⟩:=by
  rw [List.zipIdx_append,List.map_append];simp [IA]
 have hne:(gs++[gl]).zipIdx.map (IA n0 st1 gs.length)≠[]:=by
  intro h0;rw [h0] at hlast;cases hlast
 have hmade:HF limit ((gs++[gl]).zipIdx.map (IA n0 st1 gs.length))=⟨limit,st,R,(List.range (gs.length+1)).map (·+n0),(AF gl).length,!gl.isEmpty,false⟩:=by
  unfold HF;rw [Xa,h.flat,hlast,if_neg hne]
  have:((gs++[gl]).zipIdx.map (IA n0 st1 gs.length)).map (·.n)=(List.range (gs.length+1)).map (·+n0):=by
   rw [List.map_map,List.zipIdx_eq_zip_range'];show ((gs++[gl]).zip _).map ((λi=>i+n0)∘Prod.snd)=_;rw [<- List.map_map,List.map_snd_zip (by simp),List.range_eq_range']
   simp
  rw [this];rfl
 have em:(gs++[gl]).map AF=gs.map AF++[AF gl]:=by rw [List.map_append];rfl
 have hacts:FB (namesS (Am n0 F (gs.map AF++[b])++E)) ((gs++[gl]).zipIdx.map (IA n0 st1 gs.length)) ((gs++[gl]).zipIdx.map (IA n0 st1 gs.length)) 0=
   (if fresh∈namesS (Am n0 F (gs.map AF++[b])++E) then [.rmF] else [])++((if st1=1 then [.ct (gs.length+n0) (AF gl).length] else [])++[.sy (gs.length+n0)]):=by
  unfold FB;rw [if_neg hne,hlast]
  simp
 unfold Cl;rw [if_neg (by omega)];simp only [Bool.false_eq_true,if_false,hseg,hrow,hacts,hmade,V2 hE (show (gs.map AF++[b]).length+n0<100 by omega)];rcases hst with rfl | rfl
 ·have hb:b=AF gl:=by
   have h2:=hz rfl;rw [h2,List.take_length] at htk;exact htk
  have hsync:=Kh (n0:=n0) (F:=F) (bs:=gs.map AF) (c:=b) (room:=room) (by omega);rw [hl0] at hsync;refine ⟨λi=>if i=gs.length then b.length else F i,?_,by show (if gs.length=gs.length then b.length else _)=_;rw [if_pos rfl,hb],λi hi=>by show (if i=gs.length then _ else F i)=F i;rw [if_neg (by omega)]⟩;simp only [Nat.zero_ne_one,if_false,List.nil_append,Cw,Ac.run,hsync,if_true];rw [em,<- hb]
 ·have hcut:=Zi (n0:=n0) (F:=F) (bs:=gs.map AF) (c:=b) (room:=room) (m:=(AF gl).length) (by omega) hle;rw [hl0,htk] at hcut;have hsync:=Kh (n0:=n0) (F:=λi=>if i=gs.length then min (F gs.length) (AF gl).length else F i) (bs:=gs.map AF) (c:=AF gl) (room:=room) (by omega);rw [hl0] at hsync;refine ⟨λi=>if i=gs.length then (AF gl).length else if i=gs.length then min (F gs.length) (AF gl).length else F i,?_,?_,?_⟩
  ·simp only [if_true,List.cons_append,List.nil_append,Cw,Ac.run,hcut,hsync];rw [em]
  ·show (if gs.length=gs.length then (AF gl).length else _)=_;rw [if_pos rfl]
  ·intro i hi;show (if i=gs.length then _ else (if i=gs.length then _ else F i))=F i;rw [if_neg (by omega),if_neg (by omega)]
theorem Aad{s:DS}(l:List Nat)(rest:List Ac)(h:(C6 s l).2=0):Cw s (l.map .rm++rest)=Cw (C6 s l).1 rest:=by
 induction l generalizing s with
 |nil=>rfl
 |cons k r ih=>
  have e:C6 s (k::r)=if (BH s (Jr.nm k)).2≠0 then BH s (Jr.nm k) else C6 (BH s (Jr.nm k)).1 r:=rfl
  rw [e] at h ⊢;have e2:Cw s ((k::r).map .rm++rest)=if (BH s (Jr.nm k)).2=0 then Cw (BH s (Jr.nm k)).1 (r.map .rm++rest) else BH s (Jr.nm k):=rfl
  rw [e2];by_cases hk:(BH s (Jr.nm k)).2=0
  ·have hk':¬ ((BH s (Jr.nm k)).2≠0):=λh=>h hk;rw [if_neg hk'] at h ⊢;rw [if_pos hk];exact ih h
  ·rw [if_pos hk] at h;exact absurd h hk
theorem Wg(h1n:1<=n0)(h64:bs.length+n0<92)(hl:1<=limit)(hst:st.length<=65536):
  ∃ F',Cl ⟨Am n0 F (bs++[AL (0,st)]),room,0,false⟩ (namesS (Am n0 F (bs++[AL (0,st)]))) limit=
   (⟨Am (bs.length+n0) F' ([[(0,st)]].map AF),room,0,false⟩,some ⟨limit,st,[],(List.range 1).map (·+(bs.length+n0)),(AF [(0,st)]).length,true,false⟩,0)/\F' 0=(AF [(0,st)]).length:=by
 have elen:(bs++[AL (0,st)]).length=bs.length+1:=by simp
 have hsc:scan (AL (0,st))=([(0,st)],(AF [(0,st)]).length,0):=by
  have:=Nz (l:=[(0,st)]) (by simpa using hst) ((AF [(0,st)]).length+1) (by omega)
  rw [CX] at this ⊢;exact this
 have hseg:Cs (Am n0 F (bs++[AL (0,st)])) (namesS (Am n0 F (bs++[AL (0,st)])))=(bs.zipIdx.map λx=>EU (x.2+n0) x.1)++[⟨bs.length+n0,[(0,st)],(AF [(0,st)]).length,0⟩]:=by
  rw [RO n0 F _ h1n (by omega),List.zipIdx_append,List.map_append]
  congr 1
  show [EU (0+bs.length+n0) (AL (0,st))]=_;unfold EU;rw [hsc,Nat.zero_add]
 have hlen2:(bs.zipIdx.map λx=>EU (x.2+n0) x.1).length=bs.length:=by rw [List.length_map,List.length_zipIdx]
 have hrow:Kl ((bs.zipIdx.map λx=>EU (x.2+n0) x.1)++[⟨bs.length+n0,[(0,st)],(AF [(0,st)]).length,0⟩])=some ([⟨bs.length+n0,[(0,st)],(AF [(0,st)]).length,0⟩],bs.length):=by
  unfold Kl;rw [lastB_snoc,if_pos (by rfl),hlen2];simp only;rw [List.drop_left' hlen2,if_pos];unfold U9;simp [JX]
 have hfr:=Ip n0 F (bs++[AL (0,st)]) (by omega);have hacts:FB (namesS (Am n0 F (bs++[AL (0,st)]))) ((bs.zipIdx.map λx=>EU (x.2+n0) x.1)++[⟨bs.length+n0,[(0,st)],(AF [(0,st)]).length,0⟩]) [⟨bs.length+n0,[(0,st)],(AF [(0,st)]).length,0⟩] bs.length=
   ((List.range bs.length).map (·+n0)).map .rm++[.sy (bs.length+n0)]:=by
  unfold FB;rw [if_neg hfr,List.take_left' hlen2,List.map_map];have e:bs.zipIdx.map ((λx=>Ac.rm x.n)∘λx=>EU (x.2+n0) x.1)=((List.range bs.length).map (·+n0)).map .rm:=by
   rw [List.zipIdx_eq_zip_range'];show (bs.zip _).map ((λi=>Ac.rm (i+n0))∘Prod.snd)=_;rw [<- List.map_map,List.map_snd_zip (by simp),List.range_eq_range',List.map_map];rfl
  rw [e]
  simp
 have hrm:=IU (room:=room) bs n0 F (AL (0,st),F bs.length) h1n (by omega);rw [<- EJ] at hrm;have hsync:=Kh (n0:=bs.length+n0) (F:=λ_=>F bs.length) (bs:=[]) (c:=AL (0,st)) (room:=room) (by simp;omega);have e0:Am (bs.length+n0) (λ_=>F bs.length) ([]++[AL (0,st)])=[(Jr.nm (bs.length+n0),(AL (0,st),F bs.length))]:=by simp [Am]
 have e1:([]:List (List UInt8)).length+(bs.length+n0)=bs.length+n0:=by simp
 rw [e0,e1] at hsync;unfold Cl;rw [if_neg (by omega)];simp only [Bool.false_eq_true,if_false,hseg,hrow,hacts];rw [Aad _ _ (by rw [hrm]),hrm];simp only [Cw,Ac.run,hsync,if_true];refine ⟨λi=>if i=([]:List (List UInt8)).length then (AL (0,st)).length else F bs.length,?_,?_⟩
 ·have e2:HF limit [⟨bs.length+n0,[(0,st)],(AF [(0,st)]).length,0⟩]=⟨limit,st,[],(List.range 1).map (·+(bs.length+n0)),(AF [(0,st)]).length,true,false⟩:=by
   unfold HF;simp [Rr]
  rw [e2];simp [CX]
 ·show (if 0=0 then (AL (0,st)).length else _)=_;rw [if_pos rfl,CX]
variable {r:Rec} {bs:List (List UInt8)} {b:List UInt8} {room fu:Int}
abbrev Gf:=List UInt8 × List Rec
structure RW (i:Nat) (had:List Gf) (n0:Nat) (F:Nat->Nat) (gs:List (List Rec)) (g:List Rec) (c:Nat) (st:List UInt8) (R:List Rec):Prop where
 safe:∀ (j:Nat) x,gs[j]? =some x->F j=(AF x).length
 last:F gs.length=(AF (g.take c)).length
 cle:c<=g.length
 n1:1<=n0
 hi:gs.length+n0<=i+1
 flat:(gs++[g]).flatten=(0,st)::R
 ne:∀ x∈gs,x≠[]
 c1:gs=[]->1<=c
 cov:∀ k,c<=k->k<=g.length->∀ R',(gs++[g.take k]).flatten=(0,st)::R'->(st,R')∈had
 kind:∀ r∈R,r.1≠0
 len:∀ r∈R,r.2.length<=1200
 lst:st.length<=50000
 cnt:R.length<=i
section
variable {i:Nat} {had had':List Gf} {n0:Nat} {F:Nat->Nat} {gs:List (List Rec)} {g:List Rec} {c:Nat} {st:List UInt8} {R:List Rec}
theorem RW.mono{i':Nat}(h:RW i had n0 F gs g c st R)(hi:i<=i')(hs:∀ p∈had,p∈had'):RW i' had' n0 F gs g c st R:=
 ⟨h.safe,h.last,h.cle,h.n1,Nat.le_trans h.hi (by omega),h.flat,h.ne,h.c1,λk h1 h2 R' h3=>hs _ (h.cov k h1 h2 R' h3),h.kind,h.len,h.lst,Nat.le_trans h.cnt hi⟩
theorem RW.here(h:RW i had n0 F gs g c st R):(st,R)∈had:=h.cov g.length h.cle (Nat.le_refl _) R (by rw [List.take_length];exact h.flat)
theorem RW.sync(h:RW i had n0 F gs g c st R):RW i had n0 (λj=>if j=gs.length then (AF g).length else F j) gs g g.length st R:=by
 refine ⟨λj x hj=>?_,?_,Nat.le_refl _,h.n1,h.hi,h.flat,h.ne,λh0=>Nat.le_trans (h.c1 h0) h.cle,λk h1 h2=>h.cov k (Nat.le_trans h.cle h1) h2,h.kind,h.len,h.lst,h.cnt⟩
 ·have:=(List.getElem?_eq_some_iff.1 hj).1
  show (if j=gs.length then _ else F j)=_;rw [if_neg (by omega)];exact h.safe j x hj
 ·show (if gs.length=gs.length then (AF g).length else _)=_;rw [if_pos rfl,List.take_length]
theorem RW.put(h:RW i had n0 F gs g c st R)(hr:r.1≠0)(hl:r.2.length<=1200)(hs:∀ p∈had,p∈had')(hm:(st,R++[r])∈had'):RW (i+1) had' n0 F gs (g++[r]) c st (R++[r]):=by
 have hfl:(gs++[g++[r]]).flatten=(0,st)::(R++[r]):=by
  have:=h.flat
  rw [List.flatten_append] at this ⊢;rw [<- List.cons_append,<- this]
  simp
 refine ⟨h.safe,?_,?_,h.n1,Nat.le_trans h.hi (by omega),hfl,h.ne,h.c1,λk h1 h2 R' h3=>?_,λx hx=>?_,λx hx=>?_,h.lst,?_⟩
 ·rw [List.take_append_of_le_length h.cle];exact h.last
 ·rw [List.length_append];exact Nat.le_trans h.cle (by omega)
 ·rw [List.length_append,List.length_singleton] at h2;by_cases hk:k<=g.length
  ·rw [List.take_append_of_le_length hk] at h3;exact hs _ (h.cov k h1 hk R' h3)
  ·rw [List.take_of_length_le (by simp;omega),hfl] at h3;obtain rfl:R++[r]=R':=by simpa using h3
   exact hm
 ·rcases List.mem_append.1 hx with hx | hx
  ·exact h.kind x hx
  ·rw [List.mem_singleton.1 hx];exact hr
 ·rcases List.mem_append.1 hx with hx | hx
  ·exact h.len x hx
  ·rw [List.mem_singleton.1 hx];exact hl
 ·rw [List.length_append]
  have:=h.cnt
  simp;omega
theorem RW.Aen(h:RW i had n0 F gs g c st R)(hg:g≠[])(hr:r.1≠0)(hl:r.2.length<=1200)(hs:∀ p∈had,p∈had')(hm:(st,R++[r])∈had'):
  RW (i+1) had' n0 (λj=>if j=gs.length+1 then 0 else if j=gs.length then (AF g).length else F j) (gs++[g]) [r] 0 st (R++[r]):=by
 have hfl:((gs++[g])++[[r]]).flatten=(0,st)::(R++[r]):=by
  rw [List.flatten_append,h.flat];simp
 refine ⟨λj x hj=>?_,?_,by simp,h.n1,?_,hfl,λx hx=>?_,λh0=>by simp at h0,λk h1 h2 R' h3=>?_,λx hx=>?_,λx hx=>?_,h.lst,?_⟩
 ·have hlt:=(List.getElem?_eq_some_iff.1 hj).1;rw [List.length_append,List.length_singleton] at hlt;show (if j=gs.length+1 then 0 else if j=gs.length then (AF g).length else F j)=_;rw [if_neg (by omega)];by_cases hjg:j=gs.length
  ·subst hjg;rw [if_pos rfl];rw [List.getElem?_append_right (Nat.le_refl _),Nat.sub_self] at hj;obtain rfl:g=x:=by simpa using hj
   rfl
  ·rw [if_neg hjg];rw [List.getElem?_append_left (by omega)] at hj;exact h.safe j x hj
 ·show (if (gs++[g]).length=gs.length+1 then 0 else _)=_;rw [if_pos (by simp)];simp [AF]
 ·rw [List.length_append]
  have:=h.hi
  simp;omega
 ·rcases List.mem_append.1 hx with hx | hx
  ·exact h.ne x hx
  ·rw [List.mem_singleton.1 hx];exact hg
 ·match k,h2 with
  |0,_=>
   rw [List.take_zero,List.flatten_append,h.flat] at h3;obtain rfl:R=R':=by simpa using h3
   exact hs _ h.here
  |1,_=>
   have h3:((gs++[g])++[[r]]).flatten=(0,st)::R':=h3;rw [hfl] at h3;obtain rfl:R++[r]=R':=by simpa using h3
   exact hm
  |k+2,h2=>simp at h2
 ·rcases List.mem_append.1 hx with hx | hx
  ·exact h.kind x hx
  ·rw [List.mem_singleton.1 hx];exact hr
 ·rcases List.mem_append.1 hx with hx | hx
  ·exact h.len x hx
  ·rw [List.mem_singleton.1 hx];exact hl
 ·rw [List.length_append]
  have:=h.cnt
  simp;omega
end
theorem UY{i:Nat}{had:List Gf}{n0:Nat}{F:Nat->Nat}{gs:List (List Rec)}{g:List Rec}{c:Nat}{st:List UInt8}{R:List Rec}(h:RW i had n0 F gs g c st R):(AF ((0,st)::R)).length<=50013+i*1213:=by
 have h1:=Ya R (n:=1200) h.len;have h2:=h.lst;have h3:=h.cnt;rw [CU,List.length_append,BQ];show 13+st.length+_<=_;omega
theorem Lv{i:Nat}{had:List Gf}{n0:Nat}{F:Nat->Nat}{gs:List (List Rec)}{g x:List Rec}{c:Nat}{st:List UInt8}{R:List Rec}(h:RW i had n0 F gs g c st R)(hx:x∈gs++[g]):(AF x).length<=50013+i*1213:=by
 refine Nat.le_trans ?_ (UY h);obtain ⟨a,b,hab⟩:=List.append_of_mem hx;rw [<- h.flat,hab,List.flatten_append,List.flatten_cons,Du,Du,List.length_append,List.length_append];omega
def KU(lim:Int)(i:Nat)(s:DS)(q:JS)(had:List Gf):Prop:=
 ∃ fu n0 F gs g c,s=⟨Am n0 F ((gs++[g]).map AF),400000,fu,false⟩/\q=⟨lim,q.state,q.l,(List.range (gs.length+1)).map (·+n0),(AF g).length,!g.isEmpty,false⟩/\RW i had n0 F gs g c q.state q.l
def KX(i:Nat)(s:DS)(had:List Gf):Prop:=
 (∃ n0 F gs g c E st R,s=⟨Am n0 F ((gs++[g]).map AF)++E,400000,0,true⟩/\Bes E/\RW i had n0 F gs g c st R)\/
 ∃ n0 F bs st,s=⟨Am n0 F (bs++[AL (0,st)]),400000,0,true⟩/\F bs.length=(AL (0,st)).length/\(st,[])∈had/\1<=n0/\bs.length+n0<=i+1/\st.length<=50000/\∀ b∈bs,b.length<=(50013+i*1213)
def TE(lim:Int)(i:Nat)(s:DS)(q:JS)(had:List Gf):Prop:=(s.down=false->KU lim i s q had)/\(s.down=true->KX i s had)
theorem Iv(D:Fls)(room fu:Int)(f:Fls->Fls)(t:Bool):(∃ fu',El ⟨D,room,fu,false⟩ f t=(⟨f D,room,fu',false⟩,0))\/El ⟨D,room,fu,false⟩ f t=(⟨if t=true then f D else D,room,0,true⟩,100):=by
 unfold El;by_cases h:0<fu
 ·rw [if_pos h];by_cases h1:fu-1=0
  ·right;rw [if_pos h1]
  ·left;rw [if_neg h1];exact ⟨_,rfl⟩
 ·left
  rw [if_neg h];exact ⟨_,rfl⟩
theorem Po{n0:Nat}{F:Nat->Nat}(h64:bs.length+n0<96)(hb:b.length<=1048576):
  Bg ⟨Am n0 F bs,room,fu,false⟩ (Jr.nm (bs.length+n0)) b=(⟨Am n0 F bs,room,fu,false⟩,6)\/
  (∃ fu',Bg ⟨Am n0 F bs,room,fu,false⟩ (Jr.nm (bs.length+n0)) b=(⟨Am n0 (λi=>if i=bs.length then 0 else F i) (bs++[b]),room,fu',false⟩,0))\/
  Bg ⟨Am n0 F bs,room,fu,false⟩ (Jr.nm (bs.length+n0)) b=(⟨Am n0 (λi=>if i=bs.length then 0 else F i) (bs++[b]),room,0,true⟩,100):=by
 have hl:=Uj n0 F bs (n:=bs.length+n0) (Nat.le_refl _) (by omega);have hfo:fileOf (Am n0 F bs) (Jr.nm (bs.length+n0))=([],0):=by unfold fileOf;rw [hl];rfl
 have hm:=(HD (bs.length+n0) (by omega)).2.1;unfold Bg;simp only [Bool.false_eq_true,if_false,hm,IK,hfo,List.length_nil];rw [if_neg (by simp),if_neg (by omega)];by_cases hr:room-(bs.flatten.length:Int)<(b.length:Int)
 ·left;rw [if_pos hr]
 ·right
  rw [if_neg hr];have e:=Yb n0 F bs b 0 (by omega);rw [List.nil_append];rcases Iv (Am n0 F bs) room fu (λD=>Cm D (Jr.nm (bs.length+n0)) (b,0)) true with ⟨fu',h⟩ | h
  ·left;rw [e] at h;exact ⟨fu',h⟩
  ·right;rw [if_pos rfl,e] at h;exact h
theorem OL{n0:Nat}{F:Nat->Nat}{c:List UInt8}(h64:bs.length+n0<96)(hb:c.length+b.length<=1048576):
  Bg ⟨Am n0 F (bs++[c]),room,fu,false⟩ (Jr.nm (bs.length+n0)) b=(⟨Am n0 F (bs++[c]),room,fu,false⟩,6)\/
  (∃ fu',Bg ⟨Am n0 F (bs++[c]),room,fu,false⟩ (Jr.nm (bs.length+n0)) b=(⟨Am n0 F (bs++[c++b]),room,fu',false⟩,0))\/
  Bg ⟨Am n0 F (bs++[c]),room,fu,false⟩ (Jr.nm (bs.length+n0)) b=(⟨Am n0 F (bs++[c++b]),room,0,true⟩,100):=by
 have hl:=Il n0 F bs c (by omega);have hfo:fileOf (Am n0 F (bs++[c])) (Jr.nm (bs.length+n0))=(c,F bs.length):=by unfold fileOf;rw [hl];rfl
 have hm:=(HD (bs.length+n0) (by omega)).2.1;unfold Bg;simp only [Bool.false_eq_true,if_false,hm,IK,hfo];rw [if_neg (by simp),if_neg (by omega)];by_cases hr:room-((bs++[c]).flatten.length:Int)<(b.length:Int)
 ·left;rw [if_pos hr]
 ·right
  rw [if_neg hr];have e:Cm (Am n0 F (bs++[c])) (Jr.nm (bs.length+n0)) (c++b,F bs.length)=Am n0 F (bs++[c++b]):=by
   rw [JB n0 F bs c (c++b) _ (by omega)];exact Gr λi _=>by split<;>simp_all
  rcases Iv (Am n0 F (bs++[c])) room fu (λD=>Cm D (Jr.nm (bs.length+n0)) (c++b,F bs.length)) true with ⟨fu',h⟩ | h
  ·left;rw [e] at h;exact ⟨fu',h⟩
  ·right;rw [if_pos rfl,e] at h;exact h
theorem H8{n0:Nat}{F:Nat->Nat}{c:List UInt8}(h64:bs.length+n0<96):
  (∃ fu',Ca ⟨Am n0 F (bs++[c]),room,fu,false⟩ (Jr.nm (bs.length+n0))=(⟨Am n0 (λi=>if i=bs.length then c.length else F i) (bs++[c]),room,fu',false⟩,0))\/
  Ca ⟨Am n0 F (bs++[c]),room,fu,false⟩ (Jr.nm (bs.length+n0))=(⟨Am n0 F (bs++[c]),room,0,true⟩,100):=by
 have hl:=Il n0 F bs c (by omega);unfold Ca;simp only [Bool.false_eq_true,if_false,hl];have e:=JB n0 F bs c c c.length (by omega);rcases Iv (Am n0 F (bs++[c])) room fu (λD=>Cm D (Jr.nm (bs.length+n0)) (c,c.length)) false with ⟨fu',h⟩ | h
 ·left;rw [e] at h;exact ⟨fu',h⟩
 ·right;exact h
theorem Q7(q:JS)(h:q.broken=false):CZ q 6=q:=by
 obtain ⟨a,b,c,d,e,f,g⟩:=q;simp only at h;subst h;rfl
section
variable {lim:Int} {i:Nat} {s:DS} {q:JS} {had:List Gf}
theorem Tg(h:KU lim i s q had)(hi:i<88)(hr:r.1≠0)(hl:r.2.length<=1200):
  TE lim (i+1) (Ak s q r).1 (Ak s q r).2.1 (had++[(q.state,q.l++[r])]++[((Ak s q r).2.1.state,(Ak s q r).2.1.l)]):=by
 obtain ⟨fu,n0,F,gs,g,c,hs,hq,hw⟩:=h;generalize hst:q.state=st at hq hw ⊢;generalize hRl:q.l=R at hq hw ⊢;subst hs hq;clear hst hRl;have hpr:=BQ r;have hhi:=hw.hi;have em:(gs++[g]).map AF=gs.map AF++[AF g]:=by rw [List.map_append];rfl
 have el:(gs.map AF).length=gs.length:=List.length_map _;have hgl:=Lv (x:=g) hw (by simp);unfold Ak;rw [if_neg hr];simp only [Bool.false_eq_true,if_false,Gu,Option.getD_some];have inl:∀ x,∀ p∈had,p∈had++[(st,R++[r])]++[x]:=λx p hp=>by simp [hp]
 have inm:∀ x,(st,R++[r])∈had++[(st,R++[r])]++[x]:=λx=>by simp
 by_cases ht:(!g.isEmpty)=true/\lim-((AF g).length:Int)<((AL r).length:Int)
 ·rw [if_pos ht,if_neg (by omega)];have hg:g≠[]:=by rintro rfl;simp at ht
  have h1:=H8 (n0:=n0) (F:=F) (bs:=gs.map AF) (c:=AF g) (room:=400000) (fu:=fu) (by omega);rw [el,<- em] at h1;rcases h1 with ⟨fu1,h1⟩ | h1
  ·rw [h1];simp only [ne_eq,not_true_eq_false,if_false];have h2:=Po (n0:=n0) (F:=λj=>if j=gs.length then (AF g).length else F j) (bs:=(gs++[g]).map AF) (b:=AL r) (room:=400000) (fu:=fu1) (by rw [List.length_map];simp;omega) (by omega);rw [show ((gs++[g]).map AF).length+n0=gs.length+n0+1 by rw [List.length_map];simp;omega,show ((gs++[g]).map AF).length=gs.length+1 by rw [List.length_map];simp] at h2;have e2:(gs++[g]).map AF++[AL r]=(gs++[g]++[[r]]).map AF:=by rw [List.map_append (l₁:=gs++[g]),List.map_singleton,CX]
   rw [e2] at h2;rcases h2 with h2 | ⟨fu2,h2⟩ | h2
   ·rw [h2];rw [if_pos (by simp),Q7 _ rfl];exact ⟨λ_=>⟨fu1,n0,_,gs,g,g.length,rfl,rfl,hw.sync.mono (by omega) (inl _)⟩,λh=>by cases h⟩
   ·rw [h2];simp only [not_true_eq_false,if_false];refine ⟨λ_=>⟨fu2,n0,_,gs++[g],[r],0,rfl,?_,hw.Aen hg hr hl (inl _) (inm _)⟩,λh=>by cases h⟩;rw [CX,List.length_append,V4];rfl
   ·rw [h2];rw [if_pos (by simp)];exact ⟨λh=>by (have h:true=false:=h;cases h),λ_=>.inl ⟨n0,_,gs++[g],[r],0,[],st,R++[r],by rw [List.append_nil],.inl rfl,hw.Aen hg hr hl (inl _) (inm _)⟩⟩
  ·rw [h1];rw [if_pos (by simp)];exact ⟨λh=>by (have h:true=false:=h;cases h),λ_=>.inl ⟨n0,_,gs,g,c,[],st,R,by rw [List.append_nil],.inl rfl,hw.mono (by omega) (inl _)⟩⟩
 ·rw [if_neg ht];have h1:=OL (n0:=n0) (F:=F) (bs:=gs.map AF) (c:=AF g) (b:=AL r) (room:=400000) (fu:=fu) (by omega) (by omega);have e2:gs.map AF++[AF g++AL r]=(gs++[g++[r]]).map AF:=by rw [List.map_append,List.map_singleton,Du,CX]
  rw [el,<- em,e2] at h1;rcases h1 with h1 | ⟨fu1,h1⟩ | h1
  ·rw [h1];rw [if_pos (by simp),Q7 _ rfl];exact ⟨λ_=>⟨fu,n0,F,gs,g,c,rfl,rfl,hw.mono (by omega) (inl _)⟩,λh=>by cases h⟩
  ·rw [h1];simp only [ne_eq,not_true_eq_false,if_false];refine ⟨λ_=>⟨fu1,n0,F,gs,g++[r],c,rfl,?_,hw.put hr hl (inl _) (inm _)⟩,λh=>by cases h⟩;rw [Du,CX,List.length_append]
   simp
  ·rw [h1];rw [if_pos (by simp)];exact ⟨λh=>by (have h:true=false:=h;cases h),λ_=>.inl ⟨n0,_,gs,g++[r],c,[],st,R++[r],by rw [List.append_nil],.inl rfl,hw.put hr hl (inl _) (inm _)⟩⟩
theorem Acq(h:KU lim i s q had)(hi:i<88):TE lim (i+1) (BJ s q).1 (BJ s q).2.1 (if (BJ s q).2.2=0 then [((BJ s q).2.1.state,(BJ s q).2.1.l)] else had++[((BJ s q).2.1.state,(BJ s q).2.1.l)]):=by
 obtain ⟨fu,n0,F,gs,g,c,hs,hq,hw⟩:=h;generalize hst:q.state=st at hq hw ⊢;generalize hRl:q.l=R at hq hw ⊢;subst hs hq;clear hst hRl;have hhi:=hw.hi;have em:(gs++[g]).map AF=gs.map AF++[AF g]:=by rw [List.map_append];rfl
 have el:(gs.map AF).length=gs.length:=List.length_map _;have h1:=H8 (n0:=n0) (F:=F) (bs:=gs.map AF) (c:=AF g) (room:=400000) (fu:=fu) (by omega);rw [el,<- em] at h1;unfold BJ;simp only [Bool.false_eq_true,if_false,Gu,Option.getD_some];rcases h1 with ⟨fu1,h1⟩ | h1
 ·rw [h1];simp only [if_true];refine ⟨λ_=>⟨fu1,n0,_,gs,g,g.length,rfl,rfl,?_⟩,λh=>by cases h⟩;have hs:=hw.sync.mono (i':=i+1) (had':=had) (by omega) (λp hp=>hp);refine ⟨hs.safe,hs.last,hs.cle,hs.n1,hs.hi,hs.flat,hs.ne,hs.c1,λk h1 h2 R' h3=>?_,hs.kind,hs.len,hs.lst,hs.cnt⟩;have hk:k=g.length:=by omega
  subst hk;rw [List.take_length] at h3;have h4:(0,st)::R=(0,st)::R':=hs.flat.symm.trans h3;obtain rfl:R=R':=by simpa using h4
  exact List.mem_singleton.2 rfl
 ·rw [h1];rw [if_neg (by simp)];exact ⟨λh=>by (have h:true=false:=h;cases h),λ_=>.inl ⟨n0,_,gs,g,c,[],st,R,by rw [List.append_nil],.inl rfl,hw.mono (by omega) (λp hp=>by simp [hp])⟩⟩
theorem Ada(n:Int)(h:KU lim i s q had):TE lim (i+1) (HG s n) q (had++[(q.state,q.l)]):=by
 obtain ⟨fu,n0,F,gs,g,c,rfl,hq,hw⟩:=h;exact ⟨λ_=>⟨max n 0,n0,F,gs,g,c,rfl,hq,hw.mono (by omega) (λp hp=>by simp [hp])⟩,λh=>by cases h⟩
theorem AaW(h:KU lim i s q had):TE lim (i+1) (C1 s) q (had++[(q.state,q.l)]):=by
 obtain ⟨fu,n0,F,gs,g,c,rfl,hq,hw⟩:=h;exact ⟨λh=>by (have h:true=false:=h;cases h),λ_=>.inl ⟨n0,F,gs,g,c,[],_,_,by rw [List.append_nil];rfl,.inl rfl,hw.mono (by omega) (λp hp=>by simp [hp])⟩⟩
end
theorem RT{room:Int}:∀ (bs:List (List UInt8)) (n0:Nat) (F:Nat->Nat) (v:Fil) (fu:Int),1<=n0->bs.length+n0<96->
  (∃ fu',C6 ⟨Am n0 F bs++[(Jr.nm (bs.length+n0),v)],room,fu,false⟩ ((List.range bs.length).map (·+n0))=(⟨[(Jr.nm (bs.length+n0),v)],room,fu',false⟩,0))\/
  ∃ k F',k<=bs.length/\C6 ⟨Am n0 F bs++[(Jr.nm (bs.length+n0),v)],room,fu,false⟩ ((List.range bs.length).map (·+n0))=(⟨Am (n0+k) F' (bs.drop k)++[(Jr.nm (bs.length+n0),v)],room,0,true⟩,100)
 |[],n0,F,v,fu,_,_=>.inl ⟨fu,by simp [Am,C6]⟩
 |b::r,n0,F,v,fu,h1,h64=>by
  have h64:r.length+1+n0<96:=h64;have e1:Am n0 F (b::r)=(Jr.nm n0,(b,F 0))::Am (n0+1) (λi=>F (i+1)) r:=by
   unfold Am;rw [List.zipIdx_cons',List.map_cons,List.map_map];simp only [Nat.zero_add,Function.comp_def]
   congr 1
   apply List.map_congr_left;intro x _;show (Jr.nm (x.2+1+n0),(x.1,F (x.2+1)))=(Jr.nm (x.2+(n0+1)),(x.1,F (x.2+1)));rw [show x.2+1+n0=x.2+(n0+1) by omega]
  have e2:(List.range (b::r).length).map (·+n0)=n0::(List.range r.length).map (·+(n0+1)):=by
   rw [List.length_cons,List.range_succ_eq_map,List.map_cons,List.map_map];simp only [Nat.zero_add]
   congr 1
   apply List.map_congr_left;intro x _;show x+1+n0=x+(n0+1);omega
  have hne:∀ e∈Am (n0+1) (λi=>F (i+1)) r++[(Jr.nm (r.length+(n0+1)),v)],e.1≠Jr.nm n0:=by
   intro e he h;rcases List.mem_append.1 he with he | he
   ·obtain ⟨i,c,hi,rfl⟩:=Fu he
    have:=(List.getElem?_eq_some_iff.1 hi).1
    have:=Kt (by omega) (by omega) h
    omega
   ·rw [List.mem_singleton.1 he] at h
    have:=Kt (by omega) (by omega) h
    omega
  have e3:(b::r).length+n0=r.length+(n0+1):=by rw [List.length_cons];omega
  have hrm:(∃ fu',BH ⟨(Jr.nm n0,(b,F 0))::Am (n0+1) (λi=>F (i+1)) r++[(Jr.nm (r.length+(n0+1)),v)],room,fu,false⟩ (Jr.nm n0)=(⟨Am (n0+1) (λi=>F (i+1)) r++[(Jr.nm (r.length+(n0+1)),v)],room,fu',false⟩,0))\/
    BH ⟨(Jr.nm n0,(b,F 0))::Am (n0+1) (λi=>F (i+1)) r++[(Jr.nm (r.length+(n0+1)),v)],room,fu,false⟩ (Jr.nm n0)=(⟨(Jr.nm n0,(b,F 0))::Am (n0+1) (λi=>F (i+1)) r++[(Jr.nm (r.length+(n0+1)),v)],room,0,true⟩,100):=by
   unfold BH;have hl:BV ((Jr.nm n0,(b,F 0))::Am (n0+1) (λi=>F (i+1)) r++[(Jr.nm (r.length+(n0+1)),v)]) (Jr.nm n0)=some (b,F 0):=by simp [BV]
   simp only [Bool.false_eq_true,if_false,hl];rcases Iv ((Jr.nm n0,(b,F 0))::Am (n0+1) (λi=>F (i+1)) r++[(Jr.nm (r.length+(n0+1)),v)]) room fu (λD=>Ho D (Jr.nm n0)) false with ⟨fu',h⟩ | h
   ·left
    rw [List.cons_append,Oy hne] at h;exact ⟨fu',h⟩
   ·right;exact h
  rw [e1,e2,e3];rcases hrm with ⟨fu',hrm⟩ | hrm
  ·rcases RT (room:=room) r (n0+1) (λi=>F (i+1)) v fu' (by omega) (by omega) with ⟨fu2,h⟩ | ⟨k,F',hk,h⟩
   ·left
    refine ⟨fu2,?_⟩;unfold C6;rw [hrm];simp only [ne_eq,not_true_eq_false,if_false];exact h
   ·right
    refine ⟨k+1,F',by simpa using hk,?_⟩;unfold C6;rw [hrm];simp only [ne_eq,not_true_eq_false,if_false];rw [h,List.drop_succ_cons,show n0+1+k=n0+(k+1) by omega]
  ·right
   refine ⟨0,F,Nat.zero_le _,?_⟩;unfold C6;rw [hrm,if_pos (by simp)];show _=((⟨Am n0 F (b::r)++[(Jr.nm (r.length+(n0+1)),v)],room,0,true⟩:DS),(100:Int));rw [e1]
theorem RW.alone{i n:Nat}{F:Nat->Nat}{st:List UInt8}(hF:F 0=(AF [(0,st)]).length)(hn:1<=n)(hi:n<=i+1)(hst:st.length<=50000):RW i [(st,[])] n F [] [(0,st)] 1 st []:=by
 refine ⟨by simp,hF,Nat.le_refl _,hn,by simpa using hi,rfl,by simp,λ_=>Nat.le_refl _,λk h1 h2 R' h3=>?_,by simp,by simp,hst,by simp⟩;have hk:k=1:=Nat.le_antisymm h2 h1;subst hk;have h3:[((0:UInt8),st)]=(0,st)::R':=h3;obtain rfl:[]=R':=by simpa using h3
 exact List.mem_singleton.2 rfl
section
variable {lim:Int} {i:Nat} {s:DS} {q:JS} {had:List Gf}
theorem Re{st':List UInt8}(h:KU lim i s q had)(hi:i<88)(hl:st'.length<=50000):
  TE lim (i+1) (AE s (namesS s.D) q st').1 (AE s (namesS s.D) q st').2.1
   (if (AE s (namesS s.D) q st').2.2=0 then [((AE s (namesS s.D) q st').2.1.state,(AE s (namesS s.D) q st').2.1.l)] else had++[(st',[])]++[((AE s (namesS s.D) q st').2.1.state,(AE s (namesS s.D) q st').2.1.l)]):=by
 obtain ⟨fu,n0,F,gs,g,c,hs,hq,hw⟩:=h;generalize hst:q.state=st at hq hw ⊢;generalize hRl:q.l=R at hq hw ⊢;subst hs hq;clear hst hRl;have hpr:(AL (0,st')).length=13+st'.length:=BQ (0,st');have hhi:=hw.hi;have h1n:=hw.n1;have el:((gs++[g]).map AF).length=gs.length+1:=by rw [List.length_map,List.length_append];rfl
 have hbl:∀ b∈(gs++[g]).map AF,b.length<=(50013+i*1213):=λb hb=>by
  obtain ⟨x,hx,rfl⟩:=List.mem_map.1 hb;exact Lv hw hx
 have inl:∀ x y,∀ p∈had,p∈had++[x]++[y]:=λx y p hp=>by simp [hp]
 have hmono:(50013+i*1213)<=(50013+(i+1)*1213):=by omega
 have hmf:FR fresh=true:=by decide
 have hm1:FR (Jr.nm (gs.length+n0+1))=true:=(HD _ (by omega)).2.1;have hfr:=Ip n0 F ((gs++[g]).map AF) (by omega);have hnf:=Gq (n0:=n0) (F:=F) (bs:=(gs++[g]).map AF) (by omega);have hnn:∀ e∈Am n0 F ((gs++[g]).map AF),e.1≠Jr.nm (gs.length+n0+1):=Gx (by omega) (by omega);have h1:Bg ⟨Am n0 F ((gs++[g]).map AF),400000,fu,false⟩ fresh (AL (0,st'))=(⟨Am n0 F ((gs++[g]).map AF),400000,fu,false⟩,6)\/
   (∃ fu',Bg ⟨Am n0 F ((gs++[g]).map AF),400000,fu,false⟩ fresh (AL (0,st'))=(⟨Am n0 F ((gs++[g]).map AF)++[(fresh,(AL (0,st'),0))],400000,fu',false⟩,0))\/
   Bg ⟨Am n0 F ((gs++[g]).map AF),400000,fu,false⟩ fresh (AL (0,st'))=(⟨Am n0 F ((gs++[g]).map AF)++[(fresh,(AL (0,st'),0))],400000,0,true⟩,100):=by
  have hlk:BV (Am n0 F ((gs++[g]).map AF)) fresh=none:=by
   have:=DL hnf []
   rw [List.append_nil] at this;rw [this];rfl
  have hfo:fileOf (Am n0 F ((gs++[g]).map AF)) fresh=([],0):=by unfold fileOf;rw [hlk];rfl
  unfold Bg;simp only [Bool.false_eq_true,if_false,hmf,hfo,List.length_nil];rw [if_neg (by simp),if_neg (by omega)];split
  ·left;rfl
  ·right
   have e:=EW hnf (AL (0,st'),0) [];rw [List.append_nil] at e;have e:Cm (Am n0 F ((gs++[g]).map AF)) fresh (AL (0,st'),0)=Am n0 F ((gs++[g]).map AF)++[(fresh,(AL (0,st'),0))]:=e;rw [List.nil_append];rcases Iv (Am n0 F ((gs++[g]).map AF)) 400000 fu (λD=>Cm D fresh (AL (0,st'),0)) true with ⟨fu',h⟩ | h
   ·left;rw [e] at h;exact ⟨fu',h⟩
   ·right;rw [if_pos rfl,e] at h;exact h
 have h2:∀ fu,(∃ fu',Ca ⟨Am n0 F ((gs++[g]).map AF)++[(fresh,(AL (0,st'),0))],400000,fu,false⟩ fresh=(⟨Am n0 F ((gs++[g]).map AF)++[(fresh,(AL (0,st'),(AL (0,st')).length))],400000,fu',false⟩,0))\/
   Ca ⟨Am n0 F ((gs++[g]).map AF)++[(fresh,(AL (0,st'),0))],400000,fu,false⟩ fresh=(⟨Am n0 F ((gs++[g]).map AF)++[(fresh,(AL (0,st'),0))],400000,0,true⟩,100):=by
  intro fu;unfold Ca;have hl:BV (Am n0 F ((gs++[g]).map AF)++[(fresh,(AL (0,st'),0))]) fresh=some (AL (0,st'),0):=by rw [DL hnf];simp [BV]
  simp only [Bool.false_eq_true,if_false,hl];have e:Cm (Am n0 F ((gs++[g]).map AF)++[(fresh,(AL (0,st'),0))]) fresh (AL (0,st'),(AL (0,st')).length)=Am n0 F ((gs++[g]).map AF)++[(fresh,(AL (0,st'),(AL (0,st')).length))]:=by
   rw [EW hnf];simp [Cm]
  rcases Iv (Am n0 F ((gs++[g]).map AF)++[(fresh,(AL (0,st'),0))]) 400000 fu (λD=>Cm D fresh (AL (0,st'),(AL (0,st')).length)) false with ⟨fu',h⟩ | h
  ·left;rw [e] at h;exact ⟨fu',h⟩
  ·right;exact h
 have h3:∀ fu,(∃ fu',Co ⟨Am n0 F ((gs++[g]).map AF)++[(fresh,(AL (0,st'),(AL (0,st')).length))],400000,fu,false⟩ fresh (Jr.nm (gs.length+n0+1))=(⟨Am n0 F ((gs++[g]).map AF)++[(Jr.nm (gs.length+n0+1),(AL (0,st'),(AL (0,st')).length))],400000,fu',false⟩,0))\/
   Co ⟨Am n0 F ((gs++[g]).map AF)++[(fresh,(AL (0,st'),(AL (0,st')).length))],400000,fu,false⟩ fresh (Jr.nm (gs.length+n0+1))=(⟨Am n0 F ((gs++[g]).map AF)++[(fresh,(AL (0,st'),(AL (0,st')).length))],400000,0,true⟩,100):=by
  intro fu;unfold Co;have hl:BV (Am n0 F ((gs++[g]).map AF)++[(fresh,(AL (0,st'),(AL (0,st')).length))]) fresh=some (AL (0,st'),(AL (0,st')).length):=by rw [DL hnf];simp [BV]
  simp only [Bool.false_eq_true,if_false,hl,hmf,hm1,Bool.and_self];rw [if_neg (by simp)];have e:Cm (Ho (Am n0 F ((gs++[g]).map AF)++[(fresh,(AL (0,st'),(AL (0,st')).length))]) fresh) (Jr.nm (gs.length+n0+1)) (AL (0,st'),(AL (0,st')).length)=Am n0 F ((gs++[g]).map AF)++[(Jr.nm (gs.length+n0+1),(AL (0,st'),(AL (0,st')).length))]:=by
   rw [Hn hnf]
   have:=EW hnn (AL (0,st'),(AL (0,st')).length) []
   rw [List.append_nil] at this;rw [this];rfl
  rcases Iv (Am n0 F ((gs++[g]).map AF)++[(fresh,(AL (0,st'),(AL (0,st')).length))]) 400000 fu (λD=>Cm (Ho D fresh) (Jr.nm (gs.length+n0+1)) (AL (0,st'),(AL (0,st')).length)) false with ⟨fu',h⟩ | h
  ·left;rw [e] at h;exact ⟨fu',h⟩
  ·right;exact h
 have h4:=λfu=>RT (room:=400000) ((gs++[g]).map AF) n0 F (AL (0,st'),(AL (0,st')).length) fu h1n (by omega);rw [show ((gs++[g]).map AF).length+n0=gs.length+n0+1 by omega,el] at h4;have hbes:∀ n,Bes [(fresh,(AL (0,st'),n))]:=λn=>.inr ⟨_,rfl,by show (AL (0,st')).length<=50013;omega⟩;unfold AE;simp only [Bool.false_eq_true,if_false,Gu,Option.getD_some];rw [if_neg (by omega),if_neg (by omega),if_neg hfr];simp only [ne_eq,not_true_eq_false,if_false];rcases h1 with h1 | ⟨fu1,h1⟩ | h1
 ·rw [h1,if_pos (by simp),Q7 _ rfl,if_neg (by simp)];exact ⟨λ_=>⟨fu,n0,F,gs,g,c,rfl,rfl,hw.mono (by omega) (inl _ _)⟩,λh=>by cases h⟩
 ·rw [h1,if_neg (by simp)];simp only;rcases h2 fu1 with ⟨fu2,h2⟩ | h2
  ·rw [h2,if_neg (by simp)];simp only;rcases h3 fu2 with ⟨fu3,h3⟩ | h3
   ·rw [h3,if_neg (by simp)];simp only;rcases h4 fu3 with ⟨fu4,h4⟩ | ⟨k,F',hk,h4⟩
    ·rw [h4,if_neg (by simp),if_pos rfl];refine ⟨λ_=>⟨fu4,gs.length+n0+1,λ_=>(AL (0,st')).length,[],[(0,st')],1,?_,?_,RW.alone ?_ (by omega) (by omega) hl⟩,λh=>by cases h⟩
     ·simp [Am,CX]
     ·simp [CX]
     ·rw [CX]
    ·rw [h4,if_pos (by simp),if_neg (by simp)];refine ⟨λh=>by (have h:true=false:=h;cases h),λ_=>.inr ⟨n0+k,λj=>if j=(((gs++[g]).map AF).drop k).length then (AL (0,st')).length else F' j,((gs++[g]).map AF).drop k,st',?_,if_pos rfl,by simp,by omega,?_,hl,λb hb=>Nat.le_trans (hbl b (List.mem_of_mem_drop hb)) hmono⟩⟩
     ·have hdl:(((gs++[g]).map AF).drop k).length+(n0+k)=gs.length+n0+1:=by rw [List.length_drop,el];omega
      have hc:Am (n0+k) (λj=>if j=(((gs++[g]).map AF).drop k).length then (AL (0,st')).length else F' j) (((gs++[g]).map AF).drop k)=Am (n0+k) F' (((gs++[g]).map AF).drop k):=Gr λj hj=>by
       show (if j=_ then _ else F' j)=F' j;rw [if_neg (by omega)]
      rw [EJ,hdl,if_pos rfl,hc]
     ·rw [List.length_drop,el];omega
   ·rw [h3,if_pos (by simp),if_neg (by simp)];exact ⟨λh=>by (have h:true=false:=h;cases h),λ_=>.inl ⟨n0,F,gs,g,c,_,st,R,rfl,hbes _,hw.mono (by omega) (inl _ _)⟩⟩
  ·rw [h2,if_pos (by simp),if_neg (by simp)];exact ⟨λh=>by (have h:true=false:=h;cases h),λ_=>.inl ⟨n0,F,gs,g,c,_,st,R,rfl,hbes _,hw.mono (by omega) (inl _ _)⟩⟩
 ·rw [h1,if_pos (by simp),if_neg (by simp)];exact ⟨λh=>by (have h:true=false:=h;cases h),λ_=>.inl ⟨n0,F,gs,g,c,_,st,R,rfl,hbes _,hw.mono (by omega) (inl _ _)⟩⟩
end
variable {n0:Nat} {F:Nat->Nat} {bs:List (List UInt8)}
structure FX (hi L:Nat) (D:Fls):Prop where
 names:∀ f∈namesS D,f=fresh\/∃ n,1<=n/\n<=hi/\f=Jr.nm n
 segs:∀ x∈Cs D (namesS D),1<=x.n/\x.n<=hi
 few:D.length<=hi+1
 lens:∀ f∈D,f.2.1.length<=L
theorem AbI{E:Fls}{hi L:Nat}(hE:Bes E)(h1:1<=n0)(hh:bs.length+n0<=hi+1)(h45:hi<96)(hb:∀ b∈bs,b.length<=L)(hL:50013<=L):FX hi L (Am n0 F bs++E):=by
 refine ⟨λf hf=>?_,λx hx=>?_,?_,λf hf=>?_⟩
 ·rw [Lo hE (by omega),List.map_append] at hf;rcases List.mem_append.1 hf with hf | hf
  ·right
   rw [L5] at hf;obtain ⟨⟨b,i⟩,hm,rfl⟩:=List.mem_map.1 hf
   have:=(List.getElem?_eq_some_iff.1 (List.mem_zipIdx_iff_getElem?.1 hm)).1
   exact ⟨i+n0,by omega,by omega,rfl⟩
  ·left
   rcases hE with rfl | ⟨v,rfl,hv⟩
   ·simp at hf
   ·simpa using hf
 ·rw [XU hE h1 (by omega)] at hx;obtain ⟨⟨b,i⟩,hm,rfl⟩:=List.mem_map.1 hx
  have:=(List.getElem?_eq_some_iff.1 (List.mem_zipIdx_iff_getElem?.1 hm)).1
  show 1<=i+n0/\i+n0<=hi;omega
 ·rw [List.length_append,Iq];rcases hE with rfl | ⟨v,rfl,hv⟩
  ·simp;omega
  ·simp;omega
 ·rcases List.mem_append.1 hf with hf | hf
  ·obtain ⟨i,b,hi',rfl⟩:=Fu hf;exact hb b (List.mem_of_getElem? hi')
  ·rcases hE with rfl | ⟨v,rfl,hv⟩
   ·simp at hf
   ·rw [List.mem_singleton.1 hf];exact Nat.le_trans hv hL
theorem RP{E:Fls}(h:∀ f∈Am n0 F bs++E,f.2.2<=f.2.1.length):∀ (i:Nat) b,bs[i]? =some b->F i<=b.length:=by
 intro i b hb
 have:(Jr.nm (i+n0),(b,F i))∈Am n0 F bs++E:=List.mem_append_left _ (List.mem_map.2 ⟨(b,i),List.mem_zipIdx_iff_getElem?.2 hb,rfl⟩)
 exact h _ this
theorem WC{gs:List (List Rec)}{g:List Rec}{k:Nat}{x:Rec}{R:List Rec}(h:(gs++[g]).flatten=x::R)(hne:(gs++[g.take k]).flatten≠[]):∃ R',(gs++[g.take k]).flatten=x::R'/\R'.length<=R.length/\∀ y∈R',y∈R:=by
 have e:(gs++[g]).flatten=(gs++[g.take k]).flatten++g.drop k:=by
  rw [List.flatten_append,List.flatten_append]
  simp
 rw [e] at h;cases hq:(gs++[g.take k]).flatten with
 |nil=>exact absurd hq hne
 |cons y R'=>
  rw [hq,List.cons_append] at h;obtain ⟨rfl,h2⟩:=by simpa using h
  refine ⟨R',rfl,?_,λz hz=>?_⟩
  ·rw [<- h2,List.length_append];omega
  ·rw [<- h2];exact List.mem_append_left _ hz
theorem Ab8{i:Nat}{s:DS}{had:List Gf}{lim:Int}(keep:List Int)(h:KX i s had)(hs:∀ f∈s.D,f.2.2<=f.2.1.length)(hi:i<88)(hl:1<=lim):
  FX (i+1) ((50013+i*1213)) (CF s (namesS s.D) keep).D/\∃ s3 q3,Cl (CF s (namesS s.D) keep) (namesS (CF s (namesS s.D) keep).D) lim=(s3,some q3,0)/\KU lim i s3 q3 [(q3.state,q3.l)]/\(q3.state,q3.l)∈had/\s3.Dj=0:=by
 have h213:50013<=(50013+i*1213):=by omega
 rcases h with ⟨n0,F,gs,g,c,E,st,R,rfl,hE,hw⟩ | ⟨n0,F,bs,st,rfl,hF,hmem,h1n,hbi,hst,hbl⟩
 ·have hsg:=RP hs;have elen:((gs++[g]).map AF).length=gs.length+1:=by simp
  have hhi:=hw.hi;have h1n:=hw.n1;obtain ⟨F',bs',E',e1,hE',hbl,hb'⟩:=Xt (room:=400000) (Dj:=0) keep hE (show ((gs++[g]).map AF).length+n0<100 by omega) hsg;show FX _ _ (CF ⟨Am n0 F ((gs++[g]).map AF)++E,400000,0,true⟩ (namesS (Am n0 F ((gs++[g]).map AF)++E)) keep).D/\∃ s3 q3,Cl (CF ⟨Am n0 F ((gs++[g]).map AF)++E,400000,0,true⟩ (namesS (Am n0 F ((gs++[g]).map AF)++E)) keep) (namesS (CF ⟨Am n0 F ((gs++[g]).map AF)++E,400000,0,true⟩ (namesS (Am n0 F ((gs++[g]).map AF)++E)) keep).D) lim=_/\_;rw [e1];show FX _ _ (Am n0 F' bs'++E')/\∃ s3 q3,Cl ⟨Am n0 F' bs'++E',400000,0,false⟩ (namesS (Am n0 F' bs'++E')) lim=_/\_;obtain ⟨n,hn1,hn2,hn3,hn4⟩:=hb' gs.length (AF g) (by rw [List.getElem?_map,List.getElem?_append_right (Nat.le_refl _),Nat.sub_self];rfl);have hfull:∀ (j:Nat) x,gs[j]? =some x->bs'[j]? =some (AF x)/\F' j=(AF x).length:=by
   intro j x hj;have hjl:=(List.getElem?_eq_some_iff.1 hj).1;obtain ⟨m,hm1,hm2,hm3,hm4⟩:=hb' j (AF x) (by rw [List.getElem?_map,List.getElem?_append_left hjl,hj];rfl);rw [hw.safe j x hj] at hm1
   have:m=(AF x).length:=by omega
   subst this;rw [List.take_length] at hm3;exact ⟨hm3,hm4⟩
  have ebs:bs'=gs.map AF++[(AF g).take n]:=by
   apply List.ext_getElem?;intro j;by_cases hj:j<gs.length
   ·obtain ⟨x,hx⟩:∃ x,gs[j]? =some x:=⟨_,List.getElem?_eq_getElem hj⟩;rw [(hfull j x hx).1,List.getElem?_append_left (by rw [List.length_map];exact hj),List.getElem?_map,hx];rfl
   ·by_cases hj2:j=gs.length
    ·subst hj2;rw [hn3,List.getElem?_append_right (by rw [List.length_map];exact Nat.le_refl _),List.length_map,Nat.sub_self];rfl
    ·rw [List.getElem?_eq_none (by rw [hbl,elen];omega),List.getElem?_eq_none (by simp;omega)]
  have hlen200:∀ r∈g,r.2.length<=65536:=λr hr=>by
   have:r∈(gs++[g]).flatten:=List.mem_flatten.2 ⟨g,by simp,hr⟩
   rw [hw.flat] at this;rcases List.mem_cons.1 this with rfl | h
   ·have:=hw.lst
    show st.length<=65536;omega
   ·have:=hw.len r h;omega
  obtain ⟨k,st1,hk,hst1,hsc,hple,hz,hmx⟩:=MB hlen200 n hn2 (n+1) (by omega);have hbn:((AF g).take n).length=n:=by rw [List.length_take];omega
  rw [hw.last] at hn1;have hck:c<=k:=hmx c hw.cle hn1;have hne:(gs++[g.take k]).flatten≠[]:=by
   intro h0;by_cases hg0:gs=[]
   ·subst hg0;have hc1:=hw.c1 rfl;have h0:g.take k=[]:=by simpa using h0
    have:g=[]\/k=0:=by
     rcases List.take_eq_nil_iff.1 h0 with h | h
     ·exact .inr h
     ·exact .inl h
    rcases this with h | h
    ·have:=hw.cle;rw [h] at this;simp at this;omega
    ·omega
   ·obtain ⟨a,r,rfl⟩:=List.exists_cons_of_ne_nil hg0
    have:=hw.ne a (by simp)
    rw [List.cons_append,List.flatten_cons] at h0;exact this (List.append_eq_nil_iff.1 h0).1
  obtain ⟨R',hR',hRl,hRm⟩:=WC hw.flat hne;have hGC:GC st R' gs (g.take k):=⟨hR',hw.ne,λr hr=>hw.kind r (hRm r hr),λr hr=>by have:=hw.len r (hRm r hr);omega,by have:=hw.lst;omega⟩;have hpt:(AF g).take (AF (g.take k)).length=AF (g.take k):=by
   have:AF g=AF (g.take k)++AF (g.drop k):=by rw [<- Du,List.take_append_drop]
   conv=>lhs;rw [this]
   rw [List.take_left]
  obtain ⟨F2,ho,hF1,hF2⟩:=Wf (F:=F') (room:=400000) (limit:=lim) hGC hE' h1n (show gs.length+n0<92 by omega) hl (b:=(AF g).take n) (st1:=st1) (by unfold scan;rw [hbn];exact hsc) hst1 (by rw [List.take_take,Nat.min_eq_left hple];exact hpt) (by rw [hbn];exact hple) (λh=>by rw [hbn];exact hz h);rw [ebs];refine ⟨AbI hE' h1n (by simp;omega) (by omega) (λb hb=>?_) h213,_,_,ho,?_,hw.cov k hck hk R' hR',rfl⟩
  ·rcases List.mem_append.1 hb with hb | hb
   ·obtain ⟨x,hx,rfl⟩:=List.mem_map.1 hb;exact Lv hw (by simp [hx])
   ·rw [List.mem_singleton.1 hb,hbn];exact Nat.le_trans hn2 (Lv hw (by simp))
  ·refine ⟨0,n0,F2,gs,g.take k,(g.take k).length,rfl,rfl,?_⟩;refine ⟨λj x hj=>?_,?_,Nat.le_refl _,h1n,hw.hi,hR',hw.ne,λh0=>?_,λk2 h1 h2 R2 h3=>?_,hGC.kind,λr hr=>hw.len r (hRm r hr),hw.lst,Nat.le_trans hRl hw.cnt⟩
   ·rw [hF2 j (List.getElem?_eq_some_iff.1 hj).1];exact (hfull j x hj).2
   ·rw [hF1,List.take_length]
   ·have:=hw.c1 h0
    rw [List.length_take];omega
   ·have hk2:k2=(g.take k).length:=by omega
    subst hk2;rw [List.take_length] at h3;have h4:(0,st)::R'=(0,st)::R2:=hR'.symm.trans h3;obtain rfl:R'=R2:=by simpa using h4
    exact List.mem_singleton.2 rfl
 ·have hsg:=RP (E:=[]) (by rw [List.append_nil];exact hs);have elen:(bs++[AL (0,st)]).length=bs.length+1:=by simp
  obtain ⟨F',bs',E',e1,hE',hbl',hb'⟩:=Xt (room:=400000) (Dj:=0) (E:=[]) keep (.inl rfl) (show (bs++[AL (0,st)]).length+n0<100 by omega) hsg;have hE0:E'=[]\/E'≠[]:=Classical.em _;rw [List.append_nil] at e1;have hE'2:E'=[]:=by
   have h1:(CF ⟨Am n0 F (bs++[AL (0,st)]),400000,0,true⟩ (namesS (Am n0 F (bs++[AL (0,st)]))) keep).D.length=bs.length+1:=by
    unfold CF;rw [if_pos rfl];have h2:=Lo (F:=F) (bs:=bs++[AL (0,st)]) (n0:=n0) (.inl rfl:Bes []) (by omega);rw [List.append_nil] at h2;rw [h2]
    have:=No keep (Am n0 F (bs++[AL (0,st)])) [] 0 (by have:=Vb (F:=F) (bs:=bs++[AL (0,st)]) (n0:=n0) (.inl rfl:Bes []) (by omega);simpa using this)
    rw [List.nil_append,List.nil_append] at this;show (GY (Am n0 F (bs++[AL (0,st)])) keep _ 0).length=_;rw [this,Pu,Iq,elen]
   rw [e1] at h1;have h1:(Am n0 F' bs'++E').length=bs.length+1:=h1;rw [List.length_append,Iq,hbl',elen] at h1;exact List.length_eq_zero_iff.1 (by omega)
  rw [hE'2,List.append_nil] at e1;show FX _ _ (CF ⟨Am n0 F (bs++[AL (0,st)]),400000,0,true⟩ (namesS (Am n0 F (bs++[AL (0,st)]))) keep).D/\∃ s3 q3,Cl (CF ⟨Am n0 F (bs++[AL (0,st)]),400000,0,true⟩ (namesS (Am n0 F (bs++[AL (0,st)]))) keep) (namesS (CF ⟨Am n0 F (bs++[AL (0,st)]),400000,0,true⟩ (namesS (Am n0 F (bs++[AL (0,st)]))) keep).D) lim=_/\_;rw [e1];show FX _ _ (Am n0 F' bs')/\∃ s3 q3,Cl ⟨Am n0 F' bs',400000,0,false⟩ (namesS (Am n0 F' bs')) lim=_/\_;obtain ⟨n,hn1,hn2,hn3,hn4⟩:=hb' bs.length (AL (0,st)) (by rw [List.getElem?_append_right (Nat.le_refl _),Nat.sub_self];rfl);rw [hF] at hn1;have hnn:n=(AL (0,st)).length:=by omega
  subst hnn;rw [List.take_length] at hn3;have hpr:=BQ (0,st);have ebs:bs'=bs'.take bs.length++[AL (0,st)]:=by
   have h1:=(List.take_append_drop bs.length bs').symm;have h2:bs'.drop bs.length=[AL (0,st)]:=by
    rw [List.drop_eq_getElem_cons (by rw [hbl',elen];omega)];have h3:=List.getElem?_eq_some_iff.1 hn3;obtain ⟨hlt,h3⟩:=h3;rw [h3,List.drop_of_length_le (by rw [hbl',elen];omega)]
   rw [h2] at h1;exact h1
  have htl:(bs'.take bs.length).length=bs.length:=by rw [List.length_take,hbl',elen];omega
  have hlens:∀ b∈bs',b.length<=(50013+i*1213):=by
   intro b hb;obtain ⟨j,hj⟩:=List.mem_iff_getElem?.1 hb;have hjl:=(List.getElem?_eq_some_iff.1 hj).1;rw [hbl'] at hjl;obtain ⟨b0,hb0⟩:∃ b0,(bs++[AL (0,st)])[j]? =some b0:=⟨_,List.getElem?_eq_getElem hjl⟩;obtain ⟨m,_,hm2,hm3,_⟩:=hb' j b0 hb0;rw [hj] at hm3;obtain rfl:b=b0.take m:=by simpa using hm3
   have hb0l:b0.length<=(50013+i*1213):=by
    rcases List.mem_append.1 (List.mem_of_getElem? hb0) with h | h
    ·exact hbl b0 h
    ·rw [List.mem_singleton.1 h,hpr];show 13+st.length<=_;omega
   exact Nat.le_trans (List.length_take_le' _ _) hb0l
  obtain ⟨F2,ho,hF2⟩:=Wg (F:=F') (bs:=bs'.take bs.length) (room:=400000) (limit:=lim) (st:=st) h1n (by rw [htl];omega) hl (by omega);rw [<- ebs,htl] at ho;have hfx:=AbI (F:=F') (n0:=n0) (bs:=bs') (E:=[]) (hi:=i+1) (.inl rfl) h1n (by rw [hbl',elen];omega) (by omega) hlens h213;rw [List.append_nil] at hfx;exact ⟨hfx,_,_,ho,⟨0,bs.length+n0,F2,[],[(0,st)],1,rfl,rfl,RW.alone hF2 (by omega) (by omega) hst⟩,hmem,rfl⟩
variable {lim:Int} {s:DS} {k:Nat}
theorem KU.facts{i:Nat}{q:JS}{had:List Gf}(h:KU lim i s q had)(hi:i<=88):∃ n,q.row.getLast? =some n/\1<=n/\n<=i+1/\q.row.length<=i+1/\q.l.length<=i/\q.size<=160000/\q.limit=lim/\s.down=false/\(∀ x∈q.row,1<=x/\x<=i+1)/\s.D.length<=i+1/\(q.state,q.l)∈had/\(∀ r∈q.l,r.2.length<=1200)/\∃ fu n0 F bs,s=⟨Am n0 F bs,400000,fu,false⟩/\bs.length+n0<=i+2/\1<=n0:=by
 obtain ⟨fu,n0,F,gs,g,c,hs,hq,hw⟩:=h;have hhi:=hw.hi;have h1n:=hw.n1;have hg:=Lv (x:=g) hw (by simp);have h213:(50013+i*1213)<=160000:=by omega
 have hrow:q.row=(List.range (gs.length+1)).map (·+n0):=by rw [hq]
 have hsz:q.size=(AF g).length:=by rw [hq]
 have hlm:q.limit=lim:=by rw [hq]
 refine ⟨gs.length+n0,by rw [hrow];exact Gu _ _,by omega,hhi,by rw [hrow];simp;omega,hw.cnt,by rw [hsz];omega,hlm,by rw [hs],?_,by rw [hs];show (Am _ _ _).length<=_;rw [Iq,List.length_map];simp;omega,hw.here,hw.len,fu,n0,F,_,hs,by rw [List.length_map];simp;omega,h1n⟩;intro x hx;rw [hrow] at hx;obtain ⟨j,hj,rfl⟩:=List.mem_map.1 hx
 have:=List.mem_range.1 hj
 show 1<=j+n0/\j+n0<=_;omega
theorem Ys{h n:Nat}(ok:OkS k s)(hf:s.D.length<=h)(hn:h<=n):OkS n s:=⟨Nat.le_trans hf hn,ok.len,ok.safe,ok.r0,ok.r1,ok.f1⟩
theorem LV:∀ (l:List Ac) {k:Nat} {s:DS},OkS k s->OkS (k+l.length) (Cw s l).1
 |[],k,s,h=>h
 |a::r,k,s,h=>by
  rw [IS];split
  ·exact (LV r (Ac.NE h a)).more (by simp;omega)
  ·exact (Ac.NE h a).more (by simp)
theorem Ym{names:List (List UInt8)}(h:OkS k s):∃ n,OkS n (Cl s names lim).1:=by
 unfold Cl;split
 ·exact ⟨_,h⟩
 ·split
  ·exact ⟨_,h⟩
  ·split
   ·exact ⟨_,h⟩
   ·simp only;split
    ·exact ⟨_,LV _ h⟩
    ·exact ⟨_,LV _ h⟩
theorem Nn(keep:List Int):∀ (l:List (List UInt8)) (D:Fls) (i:Nat),(∀ f∈D,f.2.2<=f.2.1.length)->∀ f∈GY D keep l i,f.2.2<=f.2.1.length
 |[],D,i,h=>h
 |p::r,D,i,h=>by
  rw [GY];refine Nn keep r _ (i+1) λf hf=>?_;rcases GI hf with rfl | h1
  ·have hfo:(fileOf D p).2<=(fileOf D p).1.length:=by
    unfold fileOf;cases hl:BV D p with
    |none=>exact Nat.le_refl _
    |some v=>exact h _ (Ft hl)
   obtain ⟨n,h1,h2,h3⟩:=RB hfo keep[i]?;show (Gz (fileOf D p) keep[i]?).2<=(Gz (fileOf D p) keep[i]?).1.length;rw [h3];show n<=((fileOf D p).1.take n).length;rw [List.length_take];omega
  ·exact h f h1
theorem Xu{hi L:Nat}{keep:List Int}(h:OkS k s)(hx:FX hi L (CF s (namesS s.D) keep).D)(hL:L<=1048576):OkS (hi+1) (CF s (namesS s.D) keep):=by
 refine ⟨hx.few,λf hf=>Nat.le_trans (hx.lens f hf) hL,?_,?_,?_,?_⟩
 ·unfold CF;split
  ·exact Nn keep _ _ _ h.safe
  ·exact h.safe
 ·unfold CF;split<;>exact h.r0
 ·unfold CF;split<;>exact h.r1
 ·unfold CF;split<;>exact h.f1
theorem YS{n:Int}(h:OkS k s)(hn:n<9223372036854775808):OkS k (HG s n):=by
 unfold HG;split
 ·exact h
 ·exact ⟨h.few,h.len,h.safe,h.r0,h.r1,by show max n 0<_;omega⟩
theorem Mj(h:OkS k s):OkS k (C1 s):=⟨h.few,h.len,h.safe,h.r0,h.r1,by show (0:Int)<_;decide⟩
theorem W9(s:DS)(q:JS)(r:Rec):(Ak s q r).2.1.l.length<=q.l.length+1:=by
 unfold Ak;split
 ·simp
 ·split
  ·simp
  ·simp only;split
   ·split
    ·simp
    ·split
     ·simp [CZ]
     ·split
      ·simp [CZ]
      ·simp
   ·split
    ·simp [CZ]
    ·simp
theorem T5{limit:Int}(hl:1<=limit):∃ s q,Cl ⟨[],400000,0,false⟩ (namesS []) limit=(s,some q,0)/\KU limit 0 s q [([],[])]/\OkS 5 s/\s.Dj=0:=by
 obtain ⟨s,q,h1,h2,h3⟩:=Sd (room:=400000) (limit:=limit) (by decide) (by decide) hl
 suffices hh:KU limit 0 s q [([],[])]/\s.Dj=0 from ⟨s,q,h1,hh.1,h3,hh.2⟩
 have hn:namesS []=[]:=by unfold namesS;simp
 have hseg:Cs [] []=[]:=rfl;have hrow:Kl []=some ([],0):=rfl;have hacts:FB [] [] [] 0=[.ap0,.syF,.rn1]:=by unfold FB;simp
 have hb0:Ck.length=13:=BQ _;have hmf:FR fresh=true:=by decide
 have hm1:FR (Jr.nm 1)=true:=(HD 1 (by omega)).2.1;have e1:Bg ⟨[],400000,0,false⟩ fresh Ck=(⟨[(fresh,(Ck,0))],400000,0,false⟩,0):=by
  unfold Bg;have hfo:fileOf [] fresh=([],0):=rfl;have hu:IJ []=0:=rfl;simp only [Bool.false_eq_true,if_false,hmf,hfo,hu,List.length_nil,hb0];rw [if_neg (by simp),if_neg (by omega),if_neg (by omega)];unfold El;simp only [Int.lt_irrefl,if_false];rfl
 have e2:Ca ⟨[(fresh,(Ck,0))],400000,0,false⟩ fresh=(⟨[(fresh,(Ck,13))],400000,0,false⟩,0):=by
  unfold Ca;have hl:BV [(fresh,(Ck,0))] fresh=some (Ck,0):=by simp [BV]
  simp only [Bool.false_eq_true,if_false,hl];unfold El;simp only [Int.lt_irrefl,if_false,hb0];simp [Cm]
 have e3:Co ⟨[(fresh,(Ck,13))],400000,0,false⟩ fresh (Jr.nm 1)=(⟨[(Jr.nm 1,(Ck,13))],400000,0,false⟩,0):=by
  unfold Co;have hl:BV [(fresh,(Ck,13))] fresh=some (Ck,13):=by simp [BV]
  simp only [Bool.false_eq_true,if_false,hl,hmf,hm1,Bool.and_self];rw [if_neg (by simp)];unfold El;simp only [Int.lt_irrefl,if_false];simp [Ho,Cm]
 have hrun:Cw ⟨[],400000,0,false⟩ [.ap0,.syF,.rn1]=(⟨[(Jr.nm 1,(Ck,13))],400000,0,false⟩,0):=by
  simp only [Cw,Ac.run,e1,e2,e3,if_true]
 have ho:Cl ⟨[],400000,0,false⟩ (namesS []) limit=(⟨[(Jr.nm 1,(Ck,13))],400000,0,false⟩,some (HF limit []),0):=by
  unfold Cl;rw [if_neg (by omega),hn];simp only [Bool.false_eq_true,if_false,hseg,hrow,hacts,hrun,if_true]
 rw [ho] at h1;simp only [Prod.mk.injEq,Option.some.injEq,and_true] at h1;obtain ⟨rfl,rfl⟩:=h1;refine ⟨⟨0,1,λ_=>13,[],[(0,[])],1,?_,?_,?_⟩,rfl⟩
 ·simp [Am,CX,Ck]
 ·unfold HF;simp [Rr,CX,BQ]
 ·exact RW.alone (by rw [CX,BQ];rfl) (by omega) (by omega) (by simp)
end
section
variable {g b:ByteArray} {f i:Nat}
theorem NR(n:Nat):((UInt8.ofNat n).toNat:Int)=(n:Int)%256:=by
 rw [UInt8.toNat_ofNat'];omega
def EL(s:ByteArray):Nat:=s.data.toList.length
def be(n:Nat):Nat->List UInt8
 |0=>[]
 |i+1=>UInt8.ofNat (n/256^i)::be n i
theorem BW(n:Nat):∀ i,(be n i).length=i
 |0=>rfl
 |i+1=>by rw [be,List.length_cons,BW n i]
def DQ(g b:ByteArray):Int:=if EL g=0\/64<EL g\/64<EL b then 40 else 0
def Wh(f f':Int)(g g':ByteArray):Bool:=f==f'&&g.data.toList==g'.data.toList
def tx(s:ByteArray):List UInt8:=be (EL s) 1++s.data.toList
def xb(f:Nat)(g b:ByteArray):List UInt8:=be f 4++tx g++tx b
theorem LR(s:ByteArray):(tx s).length=1+EL s:=by unfold tx;rw [List.length_append,BW];rfl
theorem D3(f:Nat)(g b:ByteArray):(xb f g b).length=6+EL g+EL b:=by unfold xb;rw [List.length_append,List.length_append,LR,LR,BW];omega
theorem CT(h:DQ g b=0):0<EL g/\EL g<=64/\EL b<=64:=by
 unfold DQ at h;split at h
 ·cases h
 ·omega
theorem Yp(n:Nat):be n 1=[UInt8.ofNat n]:=by simp [be]
structure Pt where
 node:Nat
 f:Nat
 g:ByteArray
 b:ByteArray
 st:Nat
def Pt.wf(p:Pt):Prop:=p.node<256/\p.f<4294967296/\p.st<256
def C7(f:Nat)(g:ByteArray):Nat->List Pt->Bool
 |_,[]=>true
 |last,p::r=>decide (last<p.node)&&(decide (p.node<=8)&&(decide (p.st=0)&&(decide (DQ p.g p.b=0)&&(Wh (p.f:Int) (f:Int) p.g g&&C7 f g p.node r))))
def Jk(f:Nat)(g b:ByteArray)(l:List Pt):Int:=if DQ g b=0/\b.data.toList=[]/\1<=l.length/\l.length<=8/\C7 f g 0 l=true then 0 else 260
theorem Gl{last:Nat}{p:Pt}{r:List Pt}:C7 f g last (p::r)=true↔last<p.node/\p.node<=8/\p.st=0/\DQ p.g p.b=0/\Wh (p.f:Int) (f:Int) p.g g=true/\C7 f g p.node r=true:=by
 rw [C7];simp only [Bool.and_eq_true,decide_eq_true_eq]
theorem AaO{l:List Pt}{p:Pt}(h:l[i]? =some p):l.drop i=p::l.drop (i+1):=by
 obtain ⟨hlt,rfl⟩:=List.getElem?_eq_some_iff.1 h;exact List.drop_eq_getElem_cons hlt
def pb(l:List Pt):List UInt8:=l.flatMap λp=>UInt8.ofNat p.node::xb p.f p.g p.b
def db(f:Nat)(g b:ByteArray)(l ps:List Pt):List UInt8:=xb f g b++[UInt8.ofNat l.length]++pb ps
theorem Aal(ps:List Pt)(p:Pt):pb (ps++[p])=pb ps++([UInt8.ofNat p.node]++xb p.f p.g p.b):=by simp [pb]
theorem VR{l:List Pt}{p:Pt}(h:l[i]? =some p):l.take (i+1)=l.take i++[p]:=by rw [List.take_add_one,h];rfl
theorem MF{f:Nat}{g:ByteArray}:∀ {l:List Pt} {last:Nat},C7 f g last l=true->∀ p∈l,DQ p.g p.b=0
 |[],_,_=>by simp
 |q::l,last,h=>by
  rw [Gl] at h;intro p hp;rcases List.mem_cons.1 hp with rfl | hp
  ·exact h.2.2.2.1
  ·exact MF h.2.2.2.2.2 p hp
theorem WU{l:List Pt}(h:Jk f g b l=0):DQ g b=0/\l.length<=8/\∀ p∈l,DQ p.g p.b=0:=by
 unfold Jk at h;split at h
 ·next hh=>exact ⟨hh.1,hh.2.2.2.1,MF hh.2.2.2.2⟩
 ·cases h
theorem PL:∀ {l:List Pt},(∀ p∈l,DQ p.g p.b=0)->(pb l).length<=200*l.length
 |[],_=>by simp [pb]
 |p::l,h=>by
  have h1:=CT (h p (by simp));have h2:=PL (l:=l) λq hq=>h q (by simp [hq])
  have:pb (p::l)=(UInt8.ofNat p.node::xb p.f p.g p.b)++pb l:=by simp [pb]
  rw [this,List.length_append,List.length_cons,D3,List.length_cons];omega
theorem Qa{l ps:List Pt}(h0:DQ g b=0)(h:∀ p∈ps,DQ p.g p.b=0)(hn:ps.length<=8):(db f g b l ps).length<=2000:=by
 have:=CT h0
 have:=PL h
 unfold db;rw [List.length_append,List.length_append,D3];simp only [List.length_cons,List.length_nil];omega
abbrev St:=List UInt8 × Bool
def tk(n:Nat)(s:St):List UInt8 × St:=if s.2=true\/s.1.length<n then ([],([],true)) else (s.1.take n,(s.1.drop n,false))
def Ej(l:List UInt8):Nat:=l.foldl (λa c=>a*256+c.toNat) 0
theorem KL(l:List UInt8)(c:UInt8):Ej (l++[c])=Ej l*256+c.toNat:=by simp [Ej]
theorem Jp:∀ (l:List UInt8),Ej l<256^l.length:=by
 intro l
 induction h:l.length generalizing l with
 |zero=>have:=List.eq_nil_of_length_eq_zero h;subst this;decide
 |succ n ih=>
  have hne:l≠[]:=by intro h0;subst h0;simp at h
  obtain ⟨q,c,rfl⟩:∃ q c,l=q++[c]:=⟨l.dropLast,l.getLast hne,(List.dropLast_concat_getLast hne).symm⟩
  have:=ih q (by simpa using h)
  have hc:c.toNat<256:=c.toNat_lt;rw [KL,Nat.pow_succ];omega
def nm(w:Nat)(s:St):Nat × St:=(Ej (tk w s).1,(tk w s).2)
def tx1(s:St):List UInt8 × St:=if (nm 1 s).2.2=true\/(nm 1 s).2.1.length<(nm 1 s).1 then ([],([],true)) else ((nm 1 s).2.1.take (nm 1 s).1,((nm 1 s).2.1.drop (nm 1 s).1,false))
theorem TN(n:Nat)(s:St):(tk n s).1.length<=n:=by
 unfold tk;split
 ·exact Nat.zero_le _
 ·rw [List.length_take];omega
def rnF(s:St):Nat:=(nm 4 s).1
def rnG(s:St):List UInt8:=(tx1 (nm 4 s).2).1
def rnB(s:St):List UInt8:=(tx1 (tx1 (nm 4 s).2).2).1
def rnS(s:St):St:=(tx1 (tx1 (nm 4 s).2).2).2
theorem VQ(n:Nat)(s:St):(tk n s).2.1.length<=s.1.length:=by
 unfold tk;split
 ·exact Nat.zero_le _
 ·rw [List.length_drop];omega
theorem Gw(n:Nat)(s:St):(nm n s).2.1.length<=s.1.length:=VQ n s
theorem HZ(s:St):(tx1 s).2.1.length<=s.1.length:=by
 have:=Gw 1 s
 unfold tx1;split
 ·exact Nat.zero_le _
 ·rw [List.length_drop];omega
theorem NG(s:St):(rnS s).1.length<=s.1.length:=Nat.le_trans (HZ _) (Nat.le_trans (HZ _) (Gw 4 s))
theorem Vc(w:Nat)(s:St):(nm w s).1<256^w:=Nat.lt_of_lt_of_le (Jp _) (Nat.pow_le_pow_right (by decide) (TN w s))
def pt(s:St):Pt:=⟨(nm 1 s).1,rnF (nm 1 s).2,⟨⟨rnG (nm 1 s).2⟩⟩,⟨⟨rnB (nm 1 s).2⟩⟩,0⟩
def ps:Nat->St->List Pt->List Pt × St
 |0,s,acc=>(acc,s)
 |k+1,s,acc=>if s.2=true then (acc,s) else ps k (rnS (nm 1 s).2) (acc++[pt s])
def dcP(s:St):List Pt:=(ps (nm 1 (rnS s)).1 (nm 1 (rnS s)).2 []).1
def dcS(s:St):St:=(ps (nm 1 (rnS s)).1 (nm 1 (rnS s)).2 []).2
def okD(f:Nat)(g b:List UInt8)(l:List Pt)(s:St):Bool:=!s.2&&(Jk f ⟨⟨g⟩⟩ ⟨⟨b⟩⟩ l==0)
def WV(s:St):Bool:=okD (rnF s) (rnG s) (rnB s) (dcP s) (dcS s)
def gok(l:List UInt8):Bool:=WV (l,false)&&((dcS (l,false)).1.length==0)
def gF(l:List UInt8):Nat:=if gok l=true then rnF (l,false) else 0
def gG(l:List UInt8):List UInt8:=if gok l=true then rnG (l,false) else []
def gB(l:List UInt8):List UInt8:=if gok l=true then rnB (l,false) else []
def gPs(l:List UInt8):List Pt:=if gok l=true then dcP (l,false) else []
def goE(l:List UInt8):Int:=if gok l=true then 0 else 260
def xgE(l:List UInt8):Int:=if (rnS (l,false)).2=true then 4 else DQ ⟨⟨rnG (l,false)⟩⟩ ⟨⟨rnB (l,false)⟩⟩
def xgN(l:List UInt8):Nat:=l.length-(rnS (l,false)).1.length
theorem Tc(r:List UInt8):∀ a,r.foldl (λa c=>a*256+c.toNat) a=a*256^r.length+Ej r:=by
 induction r with
 |nil=>intro a;simp [Ej]
 |cons c r ih=>
  intro a;have hb:Ej (c::r)=c.toNat*256^r.length+Ej r:=by
   show List.foldl _ (0*256+c.toNat) r=_;rw [ih,Nat.zero_mul,Nat.zero_add]
  rw [List.foldl_cons,ih,hb,List.length_cons,Nat.pow_succ,Nat.add_mul,Nat.mul_assoc a 256,Nat.mul_comm 256 (256^r.length),Nat.add_assoc]
theorem UM(c:UInt8)(r:List UInt8):Ej (c::r)=c.toNat*256^r.length+Ej r:=by
 rw [Ej,List.foldl_cons,Tc,Nat.zero_mul,Nat.zero_add]
end
end Go.Proofs.YtnennggfoegcmaaGreatDoor
namespace Go.Abs
open Go.ChangeShapes Go.WideShapes Go.ChangeAt Go.RowKit
variable {n j i:Nat} {p:Nat × Nat} {cs:List Value} {e:TypeId} {s:Value}
abbrev Arg:=(Nat × Nat) × Option (List Value × TypeId)
def Mp(F:Nat):Nat->List Arg->Trie AO->Trie AO
 |_,[],t=>t
 |j,(_,none)::r,t=>Mp F (j+1) r t
 |j,(_,some (cs,e))::r,t=>(Mp F (j+1) r t).put depth j (some (.row cs e F 0 true))
def wR(n:Nat)(gl:List (Nat × List Value × TypeId))(L:List Arg):AW:=
 ⟨Mp (n+L.length) n L (Lb gl),n+L.length+1,(Trie.nil:Trie (List Nat)).put depth (n+L.length) (some ((List.range L.length).map (n+·)))⟩
def mR(P:Program)(L:List Arg):Inj P:=mA P (L.map (·.1))
theorem FY(F:Nat):∀ (L:List Arg) (j:Nat) (t:Trie AO) (i:Nat),j+L.length<=Aj->(Mp F j L t).get? i=if i<j then t.get? i else match L[i-j]? with
  |some (_,some (cs,e))=>some (.row cs e F 0 true)
  |_=>t.get? i
 |[],j,t,i,_=>by simp [Mp]
 |(p,none)::r,j,t,i,h=>by
  simp only [Lc] at h;simp only [Mp];rw [FY F r (j+1) t i (by omega)];by_cases h1:i<j
  ·rw [if_pos (by omega),if_pos h1]
  ·by_cases h2:i=j
   ·subst h2;rw [if_pos (by omega),Ff h1,Nat.sub_self];rfl
   ·rw [Ff (by omega),Ff h1,show i-j=(i-(j+1))+1 by omega,List.getElem?_cons_succ]
 |(p,some (cs,e))::r,j,t,i,h=>by
  simp only [Lc] at h;simp only [Mp];rw [Trie.get?_put depth _ j i _ (by unfold depth Aj at *;omega),FY F r (j+1) t i (by omega)];by_cases h1:i<j
  ·rw [Ff (by omega),if_pos (by omega),if_pos h1]
  ·by_cases h2:i=j
   ·subst h2;rw [if_pos rfl,Ff h1,Nat.sub_self];rfl
   ·rw [Ff h2,Ff (by omega),Ff h1,show i-j=(i-(j+1))+1 by omega,List.getElem?_cons_succ]
section
variable {P:Program} {W:World} {gl:List (Nat × List Value × TypeId)} {L:List Arg}
theorem Acg(hk:n+L.length<=Aj)(h:L[j]? =some (p,some (cs,e))):(wR n gl L).get (n+j)=some (.row cs e (n+L.length) 0 true):=by
 show (Mp _ n L _).get? _=_;rw [FY _ L n _ _ hk,Ff (by omega),Nat.add_sub_cancel_left,h]
theorem TM(hok:okG n gl=true)(hk:n+L.length<=Aj){o:AO}(h:(wR n gl L).get i=some o):
  (∃ x∈gl,x.1=i/\i<n/\o=.row x.2.1 x.2.2 i 0 true)\/∃ j p cs e,i=n+j/\L[j]? =some (p,some (cs,e))/\o=.row cs e (n+L.length) 0 true:=by
 have h:(Mp (n+L.length) n L (Lb gl)).get? i=some o:=h;rw [FY _ L n _ _ hk] at h;unfold okG at hok;simp only [Bq,List.all_eq_true] at hok;obtain ⟨hn,hl⟩:=hok;have hn:=Bb.1 hn;have glob:(Lb gl).get? i=some o->∃ x∈gl,x.1=i/\i<n/\o=.row x.2.1 x.2.2 i 0 true:=by
  intro h;obtain ⟨x,hx,rfl,rfl⟩:=LX gl (λx hx=>Nat.lt_of_lt_of_le (AA.1 (hl x hx).1) hn) i o h;exact ⟨x,hx,rfl,AA.1 (hl x hx).1,rfl⟩
 split at h
 ·exact .inl (glob h)
 ·split at h
  ·rename_i hi p cs e hq;cases h;exact .inr ⟨i-n,p,cs,e,by omega,hq,rfl⟩
  ·exact .inl (glob h)
theorem Qo(hok:okG n gl=true)(hk:n+L.length+1<=Aj):Aw (wR n gl L):=by
 refine ⟨λi hi=>?_,λi hi=>?_⟩
 ·have hi:n+L.length+1<=i:=hi;show ((Trie.nil:Trie (List Nat)).put depth (n+L.length) _).get? i=none;rw [Trie.get?_put depth _ _ i _ (by unfold depth Aj at *;omega),Ff (by omega)];rfl
 ·have hi:n+L.length+1<=i:=hi;cases hq:(wR n gl L).get i with
  |none=>rfl
  |some o=>
   rcases TM hok (by omega) hq with ⟨x,_,_,h,_⟩ | ⟨j,p,cs,e,rfl,h,_⟩
   ·omega
   ·have:=(Gs.1 h).1
    omega
def Abb(P:Program)(W:World)(L:List Arg):Prop:=∀ (j:Nat) (p:Nat × Nat) (cs:List Value) (e:TypeId),L[j]? =some (p,some (cs,e))->∃ cs' fr,W.heap[p.1]? =some (.cells cs' e fr)/\p.2<=cs'.size/\
 ∀ i v,cs[i]? =some v->∃ v',cs'[p.2+i]? =some v'/\AM (mR P L) v v'
theorem Ahv(hok:okG P.globals.size gl=true)(hk:P.globals.size+L.length+1<=Aj)(hW:Holds W gl)(hA:Abb P W L):Rel (mR P L) (wR P.globals.size gl L) W:=by
 have hget:=λ{i:Nat} {o:AO} (h:(wR P.globals.size gl L).get i=some o)=>TM hok (by omega) h;have hl:∀ x∈gl,x.2.1.all (Ax 4)=true:=by
  unfold okG at hok;simp only [Bq,List.all_eq_true] at hok;intro x hx;exact List.all_eq_true.2 (hok.2 x hx).2
 have hlen:(L.map (·.1)).length=L.length:=List.length_map _;have harg:∀ {j:Nat} {p:Nat × Nat} {q:Option (List Value × TypeId)},L[j]? =some (p,q)->mR P L (P.globals.size+j)=some p:=by
  intro j p q h;show mA P _ _=_;rw [Kv,List.getElem?_map,h];rfl
 refine ⟨?_,?_,?_,?_,?_,hk,?_⟩
 ·intro i o c d hi hm;rcases hget hi with ⟨x,hx,rfl,hlt,rfl⟩ | ⟨j,p,cs,e,rfl,hj,rfl⟩
  ·have hm:mA P (L.map (·.1)) x.1=some (c,d):=hm;rw [Hh hlt] at hm;cases hm;obtain ⟨fr,hc⟩:=hW x hx;exact ⟨_,hc,_,fr,rfl,λi v hv=>⟨v,by simpa using hv,λ_=>Cb 4 v (List.all_eq_true.1 (hl x hx) v (List.mem_of_getElem? hv)),λh=>by cases h⟩⟩
  ·rw [harg hj] at hm;cases hm;obtain ⟨cs',fr,h1,h2,h3⟩:=hA j _ cs e hj;refine ⟨_,h1,cs',fr,rfl,λi v hv=>?_⟩;obtain ⟨v',g1,g2⟩:=h3 i v hv;exact ⟨v',g1,λ_=>g2,λh=>by cases h⟩
 ·intro i cs e b ro hi c d hm;rcases hget hi with ⟨x,hx,rfl,hlt,_⟩ | ⟨j,p,cs2,e2,rfl,hj,he⟩
  ·have hm:mA P (L.map (·.1)) x.1=some (c,d):=hm;rw [Hh hlt] at hm;cases hm;rfl
  ·have:=(Gs.1 hj).1
   simp only [AO.row.injEq] at he;omega
 ·intro i j oi oj c di dj hij hi hj hmi hmj;refine .inl ?_;rcases hget hi with ⟨x,hx,rfl,hlt,rfl⟩ | ⟨j,p,cs2,e2,rfl,_,rfl⟩<;>rcases hget hj with ⟨y,hy,rfl,hlt2,rfl⟩ | ⟨j2,p2,cs3,e3,rfl,_,rfl⟩<;>exact ⟨rfl,rfl⟩
 ·intro i o f b hi hf;have hmem:∀ f,(wR P.globals.size gl L).members f=if f=P.globals.size+L.length then (List.range L.length).map (P.globals.size+·) else [f]:=by
   intro f;show (match ((Trie.nil:Trie (List Nat)).put depth (P.globals.size+L.length) _).get? f with | some l=>l | none=>[f])=_;rw [Trie.get?_put depth _ _ f _ (by unfold depth Aj at *;omega)];by_cases h:f=P.globals.size+L.length
   ·rw [if_pos h,if_pos h]
   ·rw [Ff h,Ff h];rfl
  rcases hget hi with ⟨x,hx,rfl,hlt,rfl⟩ | ⟨j,p,cs2,e2,rfl,hj,rfl⟩
  ·simp only [AO.fam,Oi,Pj] at hf;obtain ⟨rfl,rfl⟩:=hf;rw [hmem,Ff (by omega)];exact ⟨by simp,by show x.1<P.globals.size+L.length+1;omega⟩
  ·simp only [AO.fam,Oi,Pj] at hf;obtain ⟨rfl,rfl⟩:=hf
   have:=(Gs.1 hj).1
   rw [hmem,if_pos rfl];exact ⟨List.mem_map.2 ⟨j,List.mem_range.2 this,rfl⟩,by show _<P.globals.size+L.length+1;omega⟩
 ·intro i hi;have hi:P.globals.size+L.length+1<=i:=hi;have hf:=Qo (n:=P.globals.size) hok hk;refine ⟨hf.get i hi,?_,hf.fams i hi⟩;show (if i<P.globals.size then some (i,0) else (L.map (·.1))[i-P.globals.size]?)=none;rw [Ff (by omega)];exact List.getElem?_eq_none (by omega)
 ·intro i cs e f b ro c d hi hm;rcases hget hi with ⟨x,hx,rfl,hlt,he⟩ | ⟨j,p,cs2,e2,rfl,hj,he⟩
  ·cases he;have hm:mA P (L.map (·.1)) x.1=some (c,d):=hm;rw [Hh hlt] at hm;cases hm;obtain ⟨fr,hc⟩:=hW x hx;exact ⟨λh=>absurd rfl h,_,_,fr,hc,by show 0+0<=_;omega,λh=>by cases h⟩
  ·cases he;rw [harg hj] at hm;cases hm;obtain ⟨cs',fr,h1,h2,h3⟩:=hA j _ _ _ hj;exact ⟨λh=>absurd rfl h,cs',_,fr,h1,by show _+0<=_;omega,λh=>by cases h⟩
theorem AeO(hok:okG P.globals.size gl=true)(hk:P.globals.size+L.length<=Aj)(c:Nat):¬ Own (mR P L) (wR P.globals.size gl L) c:=by
 rintro ⟨i,o,d,hi,hro,_⟩;rcases TM hok hk hi with ⟨x,hx,rfl,hlt,rfl⟩ | ⟨j,p,cs2,e2,rfl,_,rfl⟩<;>cases hro
theorem MP {X:Bt} (hP:POk P) (hok:okG P.globals.size gl=true) (hk:P.globals.size+L.length+1<=Aj) {g:FuncId} {args args':List Value}
  (hW:Holds W gl) (hA:Abb P W L) (ha:AJ (mR P L) args args') (h:Wc P X W (mR P L) g args (wR P.globals.size gl L) λv _=>v=.bool true):Calls P g ⟨args'⟩ W λe W'=>e=.returned (.bool true)/\Below W.heap.size W W':=by
 refine (Hd hP h (Ahv hok hk hW hA) (λi hi=>Hh hi) (AeO hok (by omega)) ha).mono ?_;rintro e w' ⟨v,v',m',A',rfl,rfl,h2,h3⟩;cases h2;exact ⟨rfl,Zr h3 (AeO hok (by omega))⟩
end
section
variable {H:Type} {enc:TypeId × Value->H} {P:Program}
def flat{β:Type}(f:β->List Value)(l:List β):List Value:=l.flatMap f
theorem CC{β:Type}{f:β->List Value}{n:Nat}(hn:∀ b,(f b).length=n):∀ l:List β,(flat f l).length=l.length*n
 |[]=>by simp [flat]
 |b::r=>by
  have:=CC hn r
  simp only [flat,List.flatMap_cons,Lq,hn,Lc] at *;rw [this,Nat.succ_mul];omega
theorem DM{β:Type}{f:β->List Value}{n:Nat}(hn:∀ b,(f b).length=n):∀ (l:List β) (i:Nat) (b:β),l[i]? =some b->∃ rest,(flat f l).drop (i*n)=f b++rest
 |[],i,b,h=>by simp at h
 |x::r,0,b,h=>by
  simp only [List.getElem?_cons_zero,Oi] at h;subst h;exact ⟨flat f r,by simp [flat]⟩
 |x::r,i+1,b,h=>by
  simp only [List.getElem?_cons_succ] at h;obtain ⟨rest,h2⟩:=DM hn r i b h;refine ⟨rest,?_⟩;rw [<- h2];simp only [flat,List.flatMap_cons];rw [Nat.succ_mul,Nat.add_comm,<- List.drop_drop,List.drop_append,hn,Nat.sub_self];rw [show List.drop n (f x)=[] from List.drop_eq_nil_of_le (by rw [hn];exact Nl _)]
  simp
theorem SH{β:Type}{f:β->List Value}(hn:∀ b,(f b).length=n){l:List β}{b:β}(h:l[i]? =some b){k:Nat}(hk:k<n):(flat f l)[i*n+k]? =(f b)[k]? :=by
 obtain ⟨rest,h2⟩:=DM hn l i b h;rw [<- List.getElem?_drop,h2,List.getElem?_append_left (by rw [hn];exact hk)]
inductive CP (W:World) {β:Type} (f:β->List Value) (s:Value) (l:List β):Arg->Prop
 |nil (hl:l=[]) (hs:Nh s) (h0:∃ o c,s=.slice o 0 c):CP W f s l (placeOf s,none)
 |blk (a:Addr) (c:Nat) (cs:Array Value) (e':TypeId) (fr:Nat × Nat) (hs:s=.slice (some a) l.length c) (hc:l.length<=c) (hc2:c<Bo) (hsp:a.spot=none) (hb:W.heap[a.block]? =some (.cells cs e' fr)) (ho:a.off<=cs.size)
   (hg:∀ i v,(flat f l)[i]? =some v->cs[a.off+i]? =some v):CP W f s l ((a.block,a.off),some (flat f l,e'))
theorem Qi(a:Addr)(n:Nat)(h:a.spot=none):a.add n=⟨a.block,a.off+n,none⟩:=by
 unfold Addr.add;split
 ·rename_i h0;subst h0;obtain ⟨b,o,s⟩:=a;simp only at h;subst h;rfl
 ·rfl
theorem LY {W:World} {t:TypeId} {fuel:Nat} {x:DataW H × List MemPlace} {β:Type} {f:β->List Value} {ok:β->Prop} (b0:β) (hu:P.underlying t=some (.slice e)) (hz:0<P.cellsOf e) (hn:∀ b,(f b).length=P.cellsOf e)
  (hel:∀ q cs y,DataW.trod enc P W 0 (λ_=>true) true q e cs=some y->∃ b,cs=f b/\ok b) (h:DataW.trod enc P W 0 (λ_=>true) true fuel t cs=some x):
  ∃ s l L,cs=[s]/\CP W f s l L/\(∀ b∈l,ok b):=by
 have hsl:=TY hu hz h;rcases Go.Deep.open_slice hu h with ⟨rfl,_⟩ | ⟨a,n,c,m,k,D,Pl,rfl,_,hnm,hc,hm,_,hx⟩
 ·exact ⟨_,[],_,rfl,.nil rfl (.inl rfl) ⟨none,0,rfl⟩,by simp⟩
 ·obtain ⟨s',hs1,hs2⟩:=hsl;simp only [Li,and_true] at hs1;subst hs1;have hm:m=c:=hm;subst hm;have hcap:m<Bo:=by
   have h1:maxLen<Bo:=by decide
   omega
  rcases Nat.eq_zero_or_pos n with rfl | hpos
  ·exact ⟨_,[],_,rfl,.nil rfl hs2 ⟨some a,m,rfl⟩,by simp⟩
  ·have key:∀ i,i<n->∃ b:β,ok b/\∀ j,j<P.cellsOf e->∃ v,(f b)[j]? =some v/\W.cell? ((a.add (i*P.cellsOf e)).add j)=some v:=by
    intro i hi;obtain ⟨cs',g1,g2⟩:=hx i (by omega);obtain ⟨_,hl,g3⟩:=World.cells?_some g1;obtain ⟨b,rfl,hok⟩:=hel _ _ _ g2;refine ⟨b,hok,λj hj=>?_⟩;have h4:=g3 j (by omega);exact ⟨(f b)[j]'(by rw [hn];exact hj),Ge _,by rw [h4];exact Ge _⟩
   obtain ⟨bb,_,q⟩:=key 0 hpos;obtain ⟨v0,_,q2⟩:=q 0 hz;have hblk:a.spot=none/\∃ cs e' fr,W.heap[a.block]? =some (.cells cs e' fr)/\a.off<=cs.size:=by
    have:W.cell? a=some v0:=by simpa [Addr.add] using q2
    unfold World.cell? at this;split at this
    ·rename_i cs e' fr hh;split at this
     ·cases this
     ·rename_i hsp;refine ⟨?_,cs,e',fr,hh,?_⟩
      ·cases hq:a.spot with
       |none=>rfl
       |some z=>exact absurd (by simp [hq]) hsp
      ·have:=(Array.getElem?_eq_some_iff.1 this).1
       omega
    ·cases this
   obtain ⟨hsp,cs,e',fr,hh,hoff⟩:=hblk;let g:Nat->β:=λi=>if h:i<n then Classical.choose (key i h) else b0
   have hg:∀ i (h:i<n),g i=Classical.choose (key i h):=λi h=>dif_pos h;have hfl:((List.range n).map g).length=n:=by simp
   refine ⟨_,(List.range n).map g,_,rfl,.blk a m cs e' fr (by rw [hfl]) (by rw [hfl];exact hnm) hcap hsp hh hoff λi v hi=>?_,λb hb=>?_⟩
   ·have hlt:i<n*P.cellsOf e:=by
     have:=(Gs.1 hi).1
     rw [CC hn,hfl] at this;exact this
    have hdiv:i/P.cellsOf e<n:=(Nat.div_lt_iff_lt_mul hz).2 hlt;have hmod:i%P.cellsOf e<P.cellsOf e:=Nat.mod_lt _ hz;have hie:i/P.cellsOf e*P.cellsOf e+i%P.cellsOf e=i:=by rw [Nat.mul_comm];exact Nat.div_add_mod i _
    have hget:((List.range n).map g)[i/P.cellsOf e]? =some (g (i/P.cellsOf e)):=by
     rw [List.getElem?_map,List.getElem?_range hdiv];rfl
    have:=SH hn hget hmod
    rw [hie,hi,hg _ hdiv] at this;obtain ⟨_,p2⟩:=Classical.choose_spec (key _ hdiv);obtain ⟨v',p3,p4⟩:=p2 _ hmod;rw [<- this] at p3;cases p3;rw [Qi a _ hsp,Qi _ _ rfl] at p4;unfold World.cell? at p4;rw [hh] at p4;simp only [Option.isSome_none,Bool.false_eq_true,if_false] at p4;rw [show a.off+i/P.cellsOf e*P.cellsOf e+i%P.cellsOf e=a.off+i by omega] at p4
    simpa using p4
   ·simp only [List.mem_map,List.mem_range] at hb;obtain ⟨i,hi,rfl⟩:=hb;rw [hg i hi];exact (Classical.choose_spec (key i hi)).1
theorem CP.rel{W:World}{β:Type}{f:β->List Value}{l:List β}{La:Arg}(h:CP W f s l La){L:List Arg}(hL:L[j]? =some La):
  ∃ s',AM (mR P L) s' s/\((l=[]/\∃ o c,s'=.slice o 0 c)\/∃ c p e,s'=.slice (some ⟨P.globals.size+j,0,none⟩) l.length c/\L[j]? =some (p,some (flat f l,e))):=by
 cases h with
 |nil hl hs h0=>
  have:(L.map (·.1))[j]? =some (placeOf s):=by rw [List.getElem?_map,hL];rfl
  obtain ⟨o,n2,c2,hv⟩:=hs.rel (P:=P) (l:=L.map (·.1)) j this;obtain ⟨o',c',rfl⟩:=h0;have hn2:n2=0:=by cases hv<;>rfl
  subst hn2;exact ⟨_,hv,.inl ⟨hl,_,_,rfl⟩⟩
 |blk a c cs e' fr hs hc hc2 hsp hb ho hg=>
  subst hs;refine ⟨_,?_,.inr ⟨c,_,_,rfl,hL⟩⟩;refine .slice (.inl ⟨hc2,rfl⟩) hc λ_=>⟨rfl,hsp,a.off,?_,rfl⟩;show mA P _ _=_;rw [Kv,List.getElem?_map,hL];rfl
theorem CP.args{W:World}{β:Type}{f:β->List Value}{l:List β}{La:Arg}(h:CP W f s l La)(hf:∀ b,(f b).all (Ax 4)=true)(hq:La=(p,some (cs,e))){L:List Arg}:
  ∃ cs' fr,W.heap[p.1]? =some (.cells cs' e fr)/\p.2<=cs'.size/\∀ i v,cs[i]? =some v->∃ v',cs'[p.2+i]? =some v'/\AM (mR P L) v v':=by
 cases h with
 |nil hl hs h0=>simp at hq
 |blk a c cs2 e' fr hs hc hc2 hsp hb ho hg=>
  simp only [Pj,Oi] at hq;obtain ⟨rfl,rfl,rfl⟩:=hq;refine ⟨cs2,fr,hb,ho,λi v hv=>⟨v,hg i v hv,Cb 4 v ?_⟩⟩;have hm:=List.mem_of_getElem? hv;unfold flat at hm;obtain ⟨b,_,hb2⟩:=List.mem_flatMap.1 hm;exact List.all_eq_true.1 (hf b) v hb2
end
end Go.Abs
namespace Go.Abs
open Go.Sort
variable {q:Prop} {w:World} {g:FuncId} {k:Nat} {e:TypeId}
theorem LH:∀ (n:Nat) (v:Value),Ax n v=true->Ax (n+1) v=true:=by
 intro n
 induction n with
 |zero=>
  intro v h;cases v with
  |pointer a=>cases a<;>simp [Ax] at h ⊢
  |slice a n c=>
   cases a with
   |some a=>simp [Ax] at h
   |none=>cases n<;>cases c<;>simp [Ax] at h ⊢
  |map r=>cases r<;>simp [Ax] at h ⊢
  |chan r=>cases r<;>simp [Ax] at h ⊢
  |_=>first | rfl | (simp [Ax] at h;done)
 |succ n ih=>
  intro v h;cases v with
  |pointer a=>cases a<;>simp [Ax] at h ⊢
  |slice a n c=>
   cases a with
   |some a=>simp [Ax] at h
   |none=>cases n<;>cases c<;>simp [Ax] at h ⊢
  |map r=>cases r<;>simp [Ax] at h ⊢
  |chan r=>cases r<;>simp [Ax] at h ⊢
  |iface t v=>simp only [Ax] at h ⊢;exact ih v h
  |agg cs=>
   obtain ⟨l⟩:=cs;simp only [Ax,List.all_eq_true] at h ⊢;exact λu hu=>ih u (h u hu)
  |tuple cs=>
   obtain ⟨l⟩:=cs;simp only [Ax,List.all_eq_true] at h ⊢;exact λu hu=>ih u (h u hu)
  |func f a c=>
   obtain ⟨a⟩:=a;obtain ⟨c⟩:=c;simp only [Ax,Bq,List.all_eq_true] at h ⊢;exact ⟨h.1,λu hu=>ih u (h.2.1 u hu),λu hu=>ih u (h.2.2 u hu)⟩
  |_=>first | rfl | (simp [Ax] at h;done)
theorem YA(hq:q){w':World}(h:Low q w w'):∃ q os,w'=grow (w.drewN q) os:=by
 obtain ⟨hp,tp,dr,o,out⟩:=w;obtain ⟨hp',tp',dr',o',out'⟩:=w';obtain ⟨h1,h2,h3,h4,h5⟩:=h.below;have hd:dr<=dr':=h.draws hq;simp only at h1 h2 h3 h4 h5;subst h1;subst h2;subst h3;refine ⟨dr'-dr,hp'.extract hp.size hp'.size,?_⟩;have hh:hp'=hp++hp'.extract hp.size hp'.size:=by
  apply Array.ext_getElem?;intro i;by_cases hi:i<hp.size
  ·rw [h5 i hi,Array.getElem?_append_left hi]
  ·rw [Array.getElem?_append_right (by omega),Array.getElem?_extract];by_cases hj:i<hp'.size
   ·rw [if_pos (by omega),show hp.size+(i-hp.size)=i by omega]
   ·rw [Ff (by omega)];exact Array.getElem?_eq_none (by omega)
 show (⟨hp',tp',dr',o',out'⟩:World)=⟨hp++hp'.extract hp.size hp'.size,tp',dr+(dr'-dr),o',out'⟩;rw [<- hh,show dr+(dr'-dr)=dr' by omega]
def mF(P:Program):Inj P:=⟨λi=>if i<P.globals.size then some (i,0) else none,λ_=>0,λ_=>0,λ_=>1,λ_ h=>absurd rfl h⟩
def wF(n:Nat):AW:=⟨.nil,n,.nil⟩
theorem II(n i:Nat):(wF n).get i=none:=by show (Trie.nil:Trie AO).get? i=none;simp [Trie.get?]
theorem Ahw{P:Program}(hn:P.globals.size<=Aj)(W:World):Rel (mF P) (wF P.globals.size) W:=by
 refine ⟨?_,?_,?_,?_,?_,hn,?_⟩
 ·intro i o c d hi _;rw [II] at hi;cases hi
 ·intro i cs e b ro hi;rw [II] at hi;cases hi
 ·intro i j oi oj c di dj hij hi;rw [II] at hi;cases hi
 ·intro i o f b hi;rw [II] at hi;cases hi
 ·intro i hi;have hi:P.globals.size<=i:=hi;refine ⟨II _ _,?_,rfl⟩;show (if i<P.globals.size then some (i,0) else none)=none;rw [Ff (by omega)]
 ·intro i cs e f b ro c d hi;rw [II] at hi;cases hi
theorem gF'{P:Program}:GOk (mF P):=λi hi=>by
 show (if i<P.globals.size then some (i,0) else none)=some (i,0);rw [if_pos hi]
theorem Abw{P:Program}(n c:Nat):¬ Own (mF P) (wF n) c:=by
 rintro ⟨i,o,d,hi,_⟩;rw [II] at hi;cases hi
theorem flF{P:Program}(h:0<P.globals.size):Fl (mF P):=⟨rfl,(0,0),by show (if 0<P.globals.size then some (0,0) else none)=some (0,0);rw [if_pos h]⟩
section
variable {P:Program} {X:Bt} {W0:World} {m0:Inj P}
theorem Zj (hP:POk P) (hn:P.globals.size<=Aj) (h0:0<P.globals.size) {α:Type} [Inhabited α] {enc:α->List Value} {cf:α->α->Int} (hcl:∀ x,(enc x).all (Ax 3)=true)
  (hwc:∀ (W:World) (x y:α),Wc P X W (mF P) g [.agg ⟨enc x⟩,.agg ⟨enc y⟩] (wF P.globals.size) λv _=>v=.int .i64 (cf x y)) (blk off size:Nat) (w:World):Go.Proofs.CmpLays P g #[] enc k cf blk off size w:=by
 intro m os dk _ x y;have hc:∀ z,Ax 4 (.agg ⟨enc z⟩)=true:=λz=>by
  simp only [Ax];exact hcl z
 have e:(#[.agg (enc x).toArray,.agg (enc y).toArray]++#[]:Array Value)=⟨[.agg ⟨enc x⟩,.agg ⟨enc y⟩]⟩:=by simp
 rw [e];refine (Hd hP (hwc _ x y) (Ahw hn _) gF' (Abw _) (AJ.Dr λv hv=>?_)).mono ?_
 ·simp only [Mk,List.not_mem_nil,or_false] at hv;rcases hv with rfl | rfl<;>exact Cb 4 _ (hc _)
 ·rintro e w' ⟨v,v',m',A',rfl,rfl,h2,h3⟩;cases h2;exact ⟨rfl,YA (flF h0) (Ui h3 (Abw _))⟩
theorem Oe{α:Type}[Inhabited α]{enc:α->List Value}(hk:∀ x,(enc x).length=k)(hk0:0<k)(l:List α){j:Nat}(hj:j<l.length*k):(flat enc l)[j]? =some ((flatK enc k l.toArray)[j]!):=by
 have hi:j/k<l.length:=(Nat.div_lt_iff_lt_mul hk0).2 hj;have h1:=SH hk (Ge hi) (Nat.mod_lt j hk0);rw [Nat.div_add_mod' j k] at h1;rw [h1,get_flatK enc k l.toArray j (by simpa using hj)];have e1:l.toArray[j/k]! =l[j/k]:=by
  rw [getElem!_pos l.toArray (j/k) (by simpa using hi)]
  simp
 rw [e1];have h2:j%k<(enc l[j/k]).length:=by rw [hk];exact Nat.mod_lt j hk0
 rw [getElem!_pos (enc l[j/k]) (j%k) h2,Ge h2]
theorem Uh {w1:World} {blk off:Nat} {α:Type} [Inhabited α] {enc:α->List Value} {cs cs2:Array Value} {fr:Nat × Nat} {l':List α} (hk:∀ x,(enc x).length=k) (hk0:0<k) (h0:w.heap[blk]? =some (.cells cs e fr)) (hlen:off+l'.length*k<=cs.size)
  (g2:w1.heap[blk]? =some (.cells cs2 e fr)) (g3:cs2.size=cs.size) (g4:∀ j,(j<off\/off+l'.length*k<=j)->cs2[j]? =cs[j]?) (g5:∀ j,j<l'.length*k->cs2[off+j]? =(flat enc l')[j]?) (g6:∀ b,b≠blk->w1.heap[b]? =w.heap[b]?) (g7:w1.heap.size=w.heap.size)
  (g8:w1.os=w.os) (g9:w1.tape=w.tape) (g10:w1.output=w.output) (g11:w1.drawn=w.drawn) (n:Nat) (os:Array Obj):Low q w1 (Go.Proofs.sortWorldK enc k w blk off n l'.toArray os):=by
 have hb:blk<w.heap.size:=(Array.getElem?_eq_some_iff.1 h0).1;refine ⟨⟨g8.symm,g9.symm,g10.symm,?_,λc hc=>?_⟩,λ_=>?_⟩
 ·show w1.heap.size<=((w.heap.modify blk _)++os).size;rw [g7];simp
 ·show ((w.heap.modify blk (onCells (putCells id off (flatK enc k l'.toArray))))++os)[c]? =w1.heap[c]?;rw [Array.getElem?_append_left (by simp;omega),Array.getElem?_modify];by_cases hcb:blk=c
  ·subst hcb;rw [if_pos rfl,h0,g2];simp only [Option.map_some,onCells,Oi,Obj.cells.injEq,and_true];apply Array.ext_getElem?;intro i;unfold putCells;rw [Array.getElem?_mapIdx];by_cases hi:off<=i/\i<off+l'.length*k
   ·have hics:i<cs.size:=by omega
    have h5:=g5 (i-off) (by omega);rw [show off+(i-off)=i by omega] at h5;rw [h5,Oe hk hk0 l' (by omega),Array.getElem?_eq_getElem hics];simp only [Option.map_some,size_flatK,List.size_toArray,id,Oi];rw [if_pos hi]
   ·rw [g4 i (by omega)];cases hx:cs[i]? with
    |none=>rfl
    |some x=>
     simp only [Option.map_some,size_flatK,List.size_toArray,id,Oi];rw [Ff hi]
  ·rw [Ff hcb,g6 c (λh=>hcb h.symm)]
 ·show w1.drawn<=w.drawn+n;omega
theorem RN:∀ (new:List Value) (pre cs:List Value),cs.length=new.length->Gg (pre++cs) pre.length new=pre++new
 |[],pre,cs,h=>by
  have:cs=[]:=List.eq_nil_of_length_eq_zero h
  subst this;rfl
 |v::r,pre,[],h=>by simp at h
 |v::r,pre,c::cs,h=>by
  have hs:(pre++c::cs).set pre.length v=(pre++[v])++cs:=by simp
  have hl:pre.length+1=(pre++[v]).length:=by simp
  rw [Gg,hs,hl,RN r (pre++[v]) cs (by simpa using h)]
  simp
theorem YE {ρ:Go.Shelf.Ren} (L:Go.Proofs.SlLaysF0.n6 P ρ) (hk0:0<k) (aE:∀ w,(isAgg (ρ.t 24)).run P w=.ok true w) (zE:∀ w,(Go.sizeOf (ρ.t 24)).run P w=.ok k w) {α:Type} [Inhabited α] {enc:α->List Value} (hk:∀ x,(enc x).length=k)
  (h1:∀ x,∀ v∈enc x,v.oneCell'=true) (h1':∀ x,(enc x).all AK=true) (hcl:∀ x,(enc x).all (Ax 3)=true) {cf:α->α->Int} (hO:SWO (Go.Proofs.ltOf cf)) (hT:∀ x y,Go.Proofs.ltOf cf x y=false->Go.Proofs.ltOf cf y x=false->x=y)
  (eg:∀ args w,(callFunc g args).run P w=.ok (.enter g args) w) (hcmp:∀ blk off size w,Go.Proofs.CmpLays P g #[] enc k cf blk off size w)
  {A:AW} {v:Value} {l:List α} {F:List Nat} {K:Value->AW->Prop} (h:Dq A e k v l.length (flat enc l) F) (hf:Aw A) (hlen:l.length<4611686018427387904)
  (hK:∀ A',Dq A' e k v l.length (flat enc (l.mergeSort λx y=>!(Go.Proofs.ltOf cf y x))) F->Ah A A' F->A'.next=A.next->Aw A'->K (.tuple #[]) A'):Aa8 P W0 m0 (ρ.f 6) [v,.func (.func g) #[] #[]] A K:=by
 intro m w args' r _ _ ha;cases ha with
 |cons hv ht=>
 cases ht with
 |cons hfn ht=>
 cases ht;have hfe:=DC 4 _ _ (show Ax 4 (.func (.func g) #[] #[])=true by rfl) hfn;subst hfe;have hcell:∀ x,∀ u∈enc x,Ax 3 u=true:=λx u hu=>List.all_eq_true.1 (hcl x) u hu;have hflat:∀ (l:List α),∀ u∈flat enc l,Ax 3 u=true:=λl u hu=>by
  obtain ⟨b,_,hb⟩:=List.mem_flatMap.1 hu;exact hcell b u hb
 have hone:∀ (l:List α),(flat enc l).all AK=true:=λl=>by
  rw [List.all_eq_true];intro u hu;obtain ⟨b,_,hb⟩:=List.mem_flatMap.1 hu;exact List.all_eq_true.1 (h1' b) u hb
 rcases h with ⟨rfl,hn,hc,rfl⟩ | ⟨b,f,rfl,ho,rfl⟩
 ·
  have hl:l=[]:=List.eq_nil_of_length_eq_zero hn;subst hl;cases hv;refine (Go.Proofs.AnyF.slices_SortFunc_none L none 0 _ w).mono ?_;rintro e w' ⟨rfl,rfl⟩;exact ⟨_,_,m,A,hK A (.inl ⟨rfl,rfl,by rw [List.mergeSort_nil];rfl,rfl⟩) (.refl _ _) rfl hf,rfl,.tuple .nil,.refl r _⟩
 ·
  have hpos:=ho.pos;cases hv with
  |@slice a a' n c c' hc hn har=>
  have hc':0<c':=by omega
  obtain ⟨_,hs',d,hm,hoff⟩:=har hc';obtain ⟨blk,off,sp⟩:=a';simp only at hs' hm hoff;subst hs';have hoff:off=d:=by omega
  subst hoff;obtain ⟨o',q1,cs',fr,rfl,hrow⟩:=r.obj b _ blk off ho.row hm;have hlcs:(flat enc l).length=l.length*k:=CC hk l;have hcells:∀ j,j<l.length*k->cs'[off+j]? =(flat enc l)[j]? /\¬ (fr.1<=off+j/\off+j<fr.2):=by
   intro j hj;have hjl:j<(flat enc l).length:=by omega
   obtain ⟨u,k1,k2,k3⟩:=hrow j _ (Ge hjl);have hm:=List.getElem_mem hjl;have hcu:=hflat l _ hm;have hcu4:Ax 4 (flat enc l)[j]=true:=LH 3 _ hcu;have hnt:isTuple (flat enc l)[j]=false:=by
    have:=List.all_eq_true.1 (hone l) _ hm
    cases hx:(flat enc l)[j]<;>first | rfl | (rw [hx] at this;cases this)
   rw [k1,DC 4 _ _ hcu4 (k2 hnt),Ge hjl];exact ⟨rfl,k3 rfl⟩
  have hsize:off+l.length*k<=cs'.size:=by
   have:0<l.length*k:=Nat.mul_pos hpos hk0
   have h2:=(hcells (l.length*k-1) (by omega)).1;rw [Ge (by omega:l.length*k-1<(flat enc l).length)] at h2
   have:=(Array.getElem?_eq_some_iff.1 h2).1
   omega
  have hH:HoldsK enc k w blk off l.toArray:=by
   intro j hj;have hj:j<l.length*k:=by simpa using hj
   obtain ⟨h2,h3⟩:=hcells j hj;have h4:=Oe hk hk0 l hj;refine ⟨?_,?_⟩
   ·simp only [World.cell?,q1,Option.isSome_none,Bool.false_eq_true,if_false];rw [h2,h4];rfl
   ·simp only [World.frozen?,q1];cases hx:(decide (fr.1<=off+j)&&decide (off+j<fr.2)) with
    |false=>rfl
    |true=>simp at hx;exact (h3 (by simpa using hx)).elim
  have hblk:blk<w.heap.size:=(Array.getElem?_eq_some_iff.1 q1).1;have hcon:=Go.Proofs.AnyQ.slices_SortFunc_total L k aE zE enc hk h1 cf hO g #[] blk off c' l.toArray w eg (hcmp _ _ _ _) hH hblk (by simpa using hlen) hT;simp only [List.size_toArray] at hcon;refine hcon.mono ?_;rintro e2 w' ⟨rfl,nn,os,rfl⟩;generalize hl':(l.mergeSort λx y=>!(Go.Proofs.ltOf cf y x))=l';rw [hl'] at hK;have hl'len:l'.length=l.length:=by rw [<- hl'];exact List.length_mergeSort _
  have hnl:(flat enc l').length=l.length*k:=by rw [CC hk,hl'len]
  have hbl:=hf.lt ho.row;have hml:∀ i∈A.members f,i<Aj:=λi hi=>by have:=(ho.mem i hi).2.1;have:=r.lim;omega
  obtain ⟨A',k1,k2,k3,k4,k5,k6⟩:=Ib (new:=flat enc l') (off:=0) ho.row hml (by rw [hnl,hlcs];omega) (hone l') (by have:=r.lim;omega);have hmem:∀ g,A'.members g=A.members g:=I1 k6;have hset:Gg (flat enc l) 0 (flat enc l')=flat enc l':=RN (flat enc l') [] (flat enc l) (by rw [hnl,hlcs]);rw [hset] at k2;obtain ⟨w1,s1,s2,s3⟩:=Ev.setCells (i:=0) (a':=⟨blk,off,none⟩) r (AJ.Dr (m:=m) λu hu=>Cb 4 u (LH 3 _ (hflat l' u hu))) (λ_=>⟨rfl,rfl,off,hm,rfl⟩) k1;obtain ⟨w2,cs2,g1,g2,g3,g4,g5,g6,g7,g8,g9,g10,g11⟩:=ER (P:=P) blk e fr ⟨blk,off,none⟩ rfl rfl (flat enc l') 0 cs' w q1 (by show off+0+_<=_;rw [hnl];omega)
   (λj hj=>by rw [hnl] at hj;show ¬ (fr.1<=off+0+j/\off+0+j<fr.2);rw [Nat.add_zero];exact (hcells j hj).2) (λu hu=>List.all_eq_true.1 (hone l') u hu)
  rw [s1] at g1;cases g1;have hlow:Low (Fl m) w1 (Go.Proofs.sortWorldK enc k w blk off nn l'.toArray os):=Uh hk hk0 q1 (by rw [hl'len];exact hsize) g2 g3 (λj hj=>g4 j (by show j<off+0\/off+0+_<=j;rw [hnl];rw [hl'len] at hj;omega)) (λj hj=>by
   have:=g5 j (by rw [hnl];rw [hl'len] at hj;exact hj)
   rw [show (⟨blk,off,none⟩:Addr).off+0+j=off+j by rfl] at this;exact this) g6 g7 g8 g9 g10 g11 nn os
  refine ⟨_,_,m,A',hK A' (.inr ⟨b,f,rfl,⟨ho.pos,k2,by rw [hnl],Nat.zero_le _,Nat.zero_le _,by rw [k5];exact ho.ltf,λi hi=>?_⟩,rfl⟩) ⟨by rw [k5];exact Nl _,λi o hi _ hn=>?_,λg _ _=>hmem g⟩ k5 ⟨λi hi=>?_,λi hi=>?_⟩,rfl,.tuple .nil,(s2.low (Nl _)).trans (EvL.grow s2.rel hlow _)⟩
  ·rw [hmem] at hi;obtain ⟨_,h2,cs',e',b',ro',h3⟩:=ho.mem i hi;obtain ⟨cs2,h4⟩:=k4 i _ _ _ _ _ h3;exact ⟨Nat.zero_le _,by rw [k5];exact h2,cs2,e',b',ro',h4⟩
  ·rw [k3 i (λe=>?_) (λhm=>?_)]
   ·exact hi
   ·subst e;rw [ho.row] at hi;cases hi;exact hn (Ms.2 rfl)
   ·obtain ⟨_,_,cs',e',b',ro',h3⟩:=ho.mem i hm;rw [hi] at h3;cases h3;exact hn (Ms.2 rfl)
  ·rw [k6];exact hf.fams i (by rw [k5] at hi;exact hi)
  ·rw [k5] at hi;rw [k3 i (λe=>by omega) (λhm=>by have:=(ho.mem i hm).2.1;omega)];exact hf.get i hi
end
end Go.Abs
