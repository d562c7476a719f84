/-
  This text prints what the functions reached ask of their memory, and shows what they answer. Conditions: none for the last theorem, those that each theorem states for the others.
-/
import Derived.Test.YtdpdajpiadohjaaGreatDoorPc
import Derived.Lib.Bytealg
set_option maxRecDepth 100000
set_option maxHeartbeats 1000000
namespace Go.Proofs.YtdpdajpiadohjaaGreatDoor
open Go.Abs
section
variable (W0:World) (m0:Inj Tp) (S:Nat→List Value→AW→Prop) (Q:Value→AW→Prop)
theorem e4(a0 a1:Value)(A:AW):gE W0 m0 S Q 4 31 Tz Lz [a0,a1] A=(Al (Bk A (Value.cells a0).toList 37) fun t0 At0=>Al (Bk At0 (Value.cells a1).toList 41) fun t1 At1=>Aa (Ad Tp At1 37 t0) fun t2=>Wc Tp Ak W0 m0 15 [t2] At1 fun t3 At3=>Aa (unA Tp .not t3) fun t4=>Ae t4 (knW Tp W0 m0 7 [] At3 fun t5 At5=>Q t5 At5) (Aa (Ac Tp 41 t1 0) fun t6=>Aa (Ad Tp At3 38 t6) fun t7=>Aa (AB Tp At3 38 t7) fun t8=>Aa (Af Tp .gtr 3 (.tmp 11) (.const (.int .i64 20)) t8 (.int .i64 20)) fun t9=>Ae t9 (knW Tp W0 m0 7 [] At3 fun t10 At10=>Q t10 At10) (Aa (Ac Tp 41 t1 1) fun t11=>Aa (Ad Tp At3 39 t11) fun t12=>Aa (AB Tp At3 39 t12) fun t13=>Aa (Af Tp .gtr 3 (.tmp 17) (.const (.int .i64 20)) t13 (.int .i64 20)) fun t14=>Ae t14 (knW Tp W0 m0 7 [] At3 fun t15 At15=>Q t15 At15) (Aa (Ad Tp At3 37 t0) fun t16=>Aa (Ad Tp At3 41 t1) fun t17=>Aa (Ad Tp At3 37 t0) fun t18=>Aa (Ad Tp At3 41 t1) fun t19=>Wc Tp Ak W0 m0 16 [t16,t17] At3 fun t20 At20=>Aa (Ad Tp At20 41 t1) fun t21=>eqW t21 t19 (Aa (Ad Tp At20 37 t0) fun t22=>eqW t22 t18 (Wc Tp Ak W0 m0 17 [t18,t19] At20 fun t23 At23=>Aa (Af Tp .eql 4 (.tmp 23) (.tmp 26) t20 t23) fun t24=>Ae t24 (knW Tp W0 m0 7 [] At23 fun t25 At25=>Q t25 At25) (Q (.bool false) At23))))))):=by kernel_rfl
theorem w4:Wf2 4 31 Tz Lz:=wf2 (fun _ _=>by kernel_rfl) (by decide) fun _ _=>rfl
noncomputable def T16:Nat→List Item:=fun i=>match i with
 |0=>[(.code (cd 16 [1,1,1,1,0,1,0,0])),(.inLoop (cd 16 [1,1,1,1,0,1,0,0])),(.inBlock 0),(.code (cd 16 [1,1,1,1,1]))]
 |_=>[]
def L16:Nat→List Tmp:=fun i=>match i with
 |0=>[2,5,6,18,19,20]
 |_=>[]
theorem e16(a0 a1:Value)(A:AW):gE W0 m0 S Q 16 56 T16 L16 [a0,a1] A=(Al (Bk A (Value.cells a0).toList 37) fun t0 At0=>Al (Bk At0 (Value.cells a1).toList 41) fun t1 At1=>Aa (Ad Tp At1 37 t0) fun t2=>Wc Tp Ak W0 m0 37 [t2] At1 fun t3 At3=>Aa (Af Tp .neq 94 (.tmp 10) (.const (.int .i64 0)) t3 (.int .i64 0)) fun t4=>Ae t4 (Q (.bool false) At3) (Aa (Ad Tp At3 41 t1) fun t5=>Wc Tp Ak W0 m0 38 [t5] At3 fun t6 At6=>Aa (Af Tp .neq 94 (.tmp 14) (.const (.int .i64 0)) t6 (.int .i64 0)) fun t7=>Ae t7 (Q (.bool false) At6) (Aa (Ac Tp 41 t1 0) fun t8=>Aa (Ad Tp At6 38 t8) fun t9=>Aa (AB Tp At6 38 t9) fun t10=>AE (T16 0) (T16 0) (S 0 [t0,(.slice none 0 0),(.slice none 0 0),t9,t10,(.int .i64 0)] At6)))):=by kernel_rfl
abbrev KA(x0:Value)(X2:AW)(x10:Value)(x13:Value)(x15:Value)(x16:Value)(x17:Value)(x18:Value):Prop:=Aa (Ac Tp 100 x0 0) fun t901=>Aa (Ad Tp X2 46 t901) fun t903=>Aa (Ac Tp 100 x0 1) fun t904=>Aa (Ad Tp X2 97 t904) fun t905=>Aa (Af Tp .eql 97 (.tmp 40) (.const (.int .u8 3)) t905 (.int .u8 3)) fun t906=>Aa (Ch Tp 102 [(0,t903),(1,t906)]) fun t907=>Al (AG Tp X2 35 1 [(0,t907)]) fun t908 At909=>Al (Bh Tp At909 35 35 x10 t908) fun t911 At912=>Aa (Af Tp .add 3 (.tmp 20) (.const (.int .i64 1)) x13 (.int .i64 1)) fun t914=>AE (T16 0) (T16 0) (S 0 [x15,x16,t911,x17,x18,t914] At912)
theorem Aff(d:Nat→Value)(A:AW):gL W0 m0 S Q 16 56 T16 L16 d 0 A=(Aa (Af Tp .lss 3 (.tmp 20) (.tmp 19) (d 20) (d 19)) fun t0=>Ae t0 (Aa (Ag Tp 38 (d 18) (d 20)) fun t1=>Aa (Ad Tp A 100 t1) fun t2=>Al (BB Tp A 100) fun t3 At3=>B5 (Bg Tp At3 100 t3 t2) fun At4=>Aa (Ac Tp 100 t3 1) fun t5=>Aa (Ad Tp At4 97 t5) fun t6=>Aa (Af Tp .eql 97 (.tmp 25) (.const (.int .u8 2)) t6 (.int .u8 2)) fun t7=>Ae t7 (Aa (Ac Tp 100 t3 0) fun t8=>Aa (Ad Tp At4 46 t8) fun t9=>Al (AG Tp At4 28 1 [(0,t9)]) fun t10 At10=>Al (Bh Tp At10 28 28 (d 5) t10) fun t11 At11=>Aa (Af Tp .add 3 (.tmp 20) (.const (.int .i64 1)) (d 20) (.int .i64 1)) fun t12=>AE (T16 0) (T16 0) (S 0 [(d 2),t11,(d 6),(d 18),(d 19),t12] At11)) (Aa (Af Tp .eql 97 (.tmp 25) (.const (.int .u8 3)) t6 (.int .u8 3)) fun t13=>Ae t13 (KA S t3 At4 (d 6) (d 20) (d 2) (d 5) (d 18) (d 19)) (Aa (Af Tp .eql 97 (.tmp 25) (.const (.int .u8 4)) t6 (.int .u8 4)) fun t23=>Ae t23 (KA S t3 At4 (d 6) (d 20) (d 2) (d 5) (d 18) (d 19)) (Aa (Af Tp .add 3 (.tmp 20) (.const (.int .i64 1)) (d 20) (.int .i64 1)) fun t33=>AE (T16 0) (T16 0) (S 0 [(d 2),(d 5),(d 6),(d 18),(d 19),t33] At4))))) (Aa (Ac Tp 37 (d 2) 3) fun t34=>Aa (Ad Tp A 35 t34) fun t35=>Wc Tp Ak W0 m0 39 [(d 6),t35] A fun t36 At36=>Ae t36 (Aa (Ac Tp 37 (d 2) 2) fun t37=>Aa (Ad Tp At36 34 t37) fun t38=>Wc Tp Ak W0 m0 40 [(d 5),t38,(.func (.func 41) #[] #[])] At36 fun t39 At39=>Q t39 At39) (Q (.bool false) At36))):=by kernel_rfl
theorem w16:Wf2 16 56 T16 L16:=wf2 (fun _ _=>by kernel_rfl) (by decide) fun _ _=>rfl
theorem c16:B9 16 56 T16 L16:=Ce (by decide)
noncomputable def T17:Nat→List Item:=fun i=>match i with
 |0=>[(.code (cd 17 [1,1,1,0,1,0,0])),(.inLoop (cd 17 [1,1,1,0,1,0,0])),(.inBlock 0),(.code (cd 17 [1,1,1,1]))]
 |_=>[]
def L17:Nat→List Tmp:=fun i=>match i with
 |0=>[2,3,5,6,7]
 |_=>[]
theorem e17(a0 a1:Value)(A:AW):gE W0 m0 S Q 17 83 T17 L17 [a0,a1] A=(Al (Bk A (Value.cells a0).toList 37) fun t0 At0=>Al (Bk At0 (Value.cells a1).toList 41) fun t1 At1=>Aa (Ad Tp At1 37 t0) fun t2=>Wc Tp Ak W0 m0 42 [t2] At1 fun t3 At3=>Aa (Af Tp .neq 3 (.tmp 11) (.const (.int .i64 0)) t3 (.int .i64 0)) fun t4=>Ae t4 (Q (.bool false) At3) (Aa (Ad Tp At3 41 t1) fun t5=>Wc Tp Ak W0 m0 43 [t5] At3 fun t6 At6=>Aa (Af Tp .neq 3 (.tmp 15) (.const (.int .i64 0)) t6 (.int .i64 0)) fun t7=>Ae t7 (Q (.bool false) At6) (AE (T17 0) (T17 0) (S 0 [t0,t1,(.int .i64 0),(.int .i64 0),(.int .i64 0)] At6)))):=by kernel_rfl
abbrev Kz(x0:Value)(x2:Value)(X4:AW)(x5:Value)(x11:Value)(x14:Value)(x21:Value):Prop:=Aa (Af Tp .add 3 (.tmp 51) (.const (.int .i64 1)) x0 (.int .i64 1)) fun t901=>Aa (Af Tp .lss 3 (.tmp 53) (.const (.int .i64 0)) x2 (.int .i64 0)) fun t903=>Ae t903 (Q (.bool false) X4) (Aa (Ac Tp 37 x5 3) fun t906=>Aa (Ad Tp X4 35 t906) fun t907=>Aa (Ag Tp 35 t907 x2) fun t908=>Aa (Ac Tp 102 t908 1) fun t909=>Aa (Ad Tp X4 4 t909) fun t910=>Aa (Ac Tp 41 x11 0) fun t912=>Aa (Ad Tp X4 38 t912) fun t913=>Aa (Ag Tp 38 t913 x14) fun t915=>Aa (Ac Tp 100 t915 1) fun t916=>Aa (Ad Tp X4 97 t916) fun t917=>Aa (Af Tp .eql 97 (.tmp 67) (.const (.int .u8 3)) t917 (.int .u8 3)) fun t918=>Aa (Af Tp .neq 4 (.tmp 61) (.tmp 68) t910 t918) fun t919=>Ae t919 (Q (.bool false) X4) (Aa (Af Tp .add 3 (.tmp 23) (.const (.int .i64 1)) x14 (.int .i64 1)) fun t920=>AE (T17 0) (T17 0) (S 0 [x5,x11,x21,t901,t920] X4)))
theorem Afe(d:Nat→Value)(A:AW):gL W0 m0 S Q 17 83 T17 L17 d 0 A=(Aa (Ac Tp 41 (d 3) 0) fun t0=>Aa (Ad Tp A 38 t0) fun t1=>Aa (AB Tp A 38 t1) fun t2=>Aa (Af Tp .lss 3 (.tmp 18) (.tmp 21) (d 7) t2) fun t3=>Ae t3 (Aa (Ac Tp 41 (d 3) 0) fun t4=>Aa (Ad Tp A 38 t4) fun t5=>Aa (Ag Tp 38 t5 (d 7)) fun t6=>Aa (Ac Tp 100 t6 0) fun t7=>Aa (Ad Tp A 46 t7) fun t8=>Al (BB Tp A 46) fun t9 At9=>B5 (Bg Tp At9 46 t9 t8) fun At10=>Aa (Ad Tp At10 37 (d 2)) fun t11=>Aa (Ad Tp At10 46 t9) fun t12=>Wc Tp Ak W0 m0 44 [t11,t12] At10 fun t13 At13=>Aa (Ac Tp 41 (d 3) 0) fun t14=>Aa (Ad Tp At13 38 t14) fun t15=>Aa (Ag Tp 38 t15 (d 7)) fun t16=>Aa (Ac Tp 100 t16 1) fun t17=>Aa (Ad Tp At13 97 t17) fun t18=>Aa (Af Tp .eql 97 (.tmp 39) (.const (.int .u8 2)) t18 (.int .u8 2)) fun t19=>Ae t19 (Aa (Af Tp .add 3 (.tmp 42) (.const (.int .i64 1)) (d 5) (.int .i64 1)) fun t20=>Aa (Ad Tp At13 37 (d 2)) fun t21=>Aa (Ad Tp At13 46 t9) fun t22=>Wc Tp Ak W0 m0 45 [t21,t22] At13 fun t23 At23=>Aa (Af Tp .lss 3 (.tmp 46) (.const (.int .i64 0)) t23 (.int .i64 0)) fun t24=>Ae t24 (Q (.bool false) At23) (Aa (Af Tp .add 3 (.tmp 23) (.const (.int .i64 1)) (d 7) (.int .i64 1)) fun t25=>AE (T17 0) (T17 0) (S 0 [(d 2),(d 3),t20,(d 6),t25] At23))) (Aa (Af Tp .eql 97 (.tmp 39) (.const (.int .u8 3)) t18 (.int .u8 3)) fun t26=>Ae t26 (Kz S Q (d 6) t13 At13 (d 2) (d 3) (d 7) (d 5)) (Aa (Af Tp .eql 97 (.tmp 39) (.const (.int .u8 4)) t18 (.int .u8 4)) fun t42=>Ae t42 (Kz S Q (d 6) t13 At13 (d 2) (d 3) (d 7) (d 5)) (Aa (Af Tp .add 3 (.tmp 23) (.const (.int .i64 1)) (d 7) (.int .i64 1)) fun t58=>AE (T17 0) (T17 0) (S 0 [(d 2),(d 3),(d 5),(d 6),t58] At13))))) (Aa (Ac Tp 37 (d 2) 2) fun t59=>Aa (Ad Tp A 34 t59) fun t60=>Aa (AB Tp A 34 t60) fun t61=>Aa (Af Tp .eql 3 (.tmp 71) (.tmp 74) (d 5) t61) fun t62=>Ae t62 (Aa (Ac Tp 37 (d 2) 3) fun t63=>Aa (Ad Tp A 35 t63) fun t64=>Aa (AB Tp A 35 t64) fun t65=>Aa (Af Tp .eql 3 (.tmp 77) (.tmp 80) (d 6) t65) fun t66=>Q t66 A) (Q (.bool false) A))):=by kernel_rfl
theorem w17:Wf2 17 83 T17 L17:=wf2 (fun _ _=>by kernel_rfl) (by decide) fun _ _=>rfl
theorem c17:B9 17 83 T17 L17:=Ce (by decide)
noncomputable def T37:Nat→List Item:=fun i=>match i with
 |0=>[(.code (cd 37 [1,1,0,1,0,0])),(.inLoop (cd 37 [1,1,0,1,0,0])),(.inBlock 0),(.code (cd 37 [1,1,1]))]
 |_=>[]
def L37:Nat→List Tmp:=fun i=>match i with
 |0=>[1,32,33,34]
 |_=>[]
theorem e37(a0:Value)(A:AW):gE W0 m0 S Q 37 53 T37 L37 [a0] A=(Al (Bk A (Value.cells a0).toList 37) fun t0 At0=>Aa (Ac Tp 37 t0 0) fun t1=>Aa (Ad Tp At0 32 t1) fun t2=>Aa (Af Tp .lss 32 (.tmp 8) (.const (.int .u64 1)) t2 (.int .u64 1)) fun t3=>Ae t3 (Q (.int .i64 140) At0) (Aa (Ac Tp 37 t0 0) fun t4=>Aa (Ad Tp At0 32 t4) fun t5=>Aa (Af Tp .gtr 32 (.tmp 12) (.const (.int .u64 1099511627777)) t5 (.int .u64 1099511627777)) fun t6=>Ae t6 (Q (.int .i64 140) At0) (Aa (Ad Tp At0 37 t0) fun t7=>Wc Tp Ak W0 m0 62 [t7] At0 fun t8 At8=>Aa (unA Tp .not t8) fun t9=>Ae t9 (Q (.int .i64 140) At8) (Aa (Ad Tp At8 37 t0) fun t10=>Wc Tp Ak W0 m0 63 [t10] At8 fun t11 At11=>Aa (unA Tp .not t11) fun t12=>Ae t12 (Q (.int .i64 140) At11) (Aa (Ac Tp 37 t0 3) fun t13=>Aa (Ad Tp At11 35 t13) fun t14=>Wc Tp Ak W0 m0 64 [t14,(.func (.func 65) #[] #[])] At11 fun t15 At15=>Aa (unA Tp .not t15) fun t16=>Ae t16 (Q (.int .i64 140) At15) (Aa (Ac Tp 37 t0 3) fun t17=>Aa (Ad Tp At15 35 t17) fun t18=>Aa (AB Tp At15 35 t18) fun t19=>AE (T37 0) (T37 0) (S 0 [t0,t18,t19,(.int .i64 0)] At15))))))):=by kernel_rfl
theorem Afc(d:Nat→Value)(A:AW):gL W0 m0 S Q 37 53 T37 L37 d 0 A=(Aa (Af Tp .lss 3 (.tmp 34) (.tmp 33) (d 34) (d 33)) fun t0=>Ae t0 (Aa (Ag Tp 35 (d 32) (d 34)) fun t1=>Aa (Ad Tp A 102 t1) fun t2=>Al (BB Tp A 102) fun t3 At3=>B5 (Bg Tp At3 102 t3 t2) fun At4=>Aa (Ad Tp At4 37 (d 1)) fun t5=>Aa (Ac Tp 102 t3 0) fun t6=>Aa (Ad Tp At4 46 t6) fun t7=>Wc Tp Ak W0 m0 66 [t5,t7] At4 fun t8 At8=>Aa (Aw t8 0) fun t9=>Aa (Aw t8 1) fun t10=>Ae t10 (Q (.int .i64 140) At8) (Aa (Ac Tp 102 t3 0) fun t11=>Aa (Ad Tp At8 46 t11) fun t12=>Wc Tp Ak W0 m0 67 [t12] At8 fun t13 At13=>Aa (Af Tp .neq 94 (.tmp 49) (.const (.int .i64 0)) t13 (.int .i64 0)) fun t14=>Ae t14 (Q (.int .i64 140) At13) (Aa (Af Tp .add 3 (.tmp 34) (.const (.int .i64 1)) (d 34) (.int .i64 1)) fun t15=>AE (T37 0) (T37 0) (S 0 [(d 1),(d 32),(d 33),t15] At13)))) (Q (.int .i64 0) A)):=by kernel_rfl
theorem w37:Wf1 37 53 T37 L37:=wf1 (fun _=>by kernel_rfl) (by decide) fun _=>rfl
theorem c37:B9 37 53 T37 L37:=Ce (by decide)
noncomputable def T38:Nat→List Item:=fun i=>match i with
 |0=>[(.code (cd 38 [1,0,1,0,0])),(.inLoop (cd 38 [1,0,1,0,0])),(.inBlock 0),(.code (cd 38 [1,1]))]
 |2=>[(.code (cd 38 [1,1,1,0,1,0,0])),(.inLoop (cd 38 [1,1,1,0,1,0,0])),(.inBlock 2),(.code (cd 38 [1,1,1,1]))]
 |_=>[]
def L38:Nat→List Tmp:=fun i=>match i with
 |0=>[1,10,11,12]
 |2=>[1,43,44,45]
 |_=>[]
theorem e38(a0:Value)(A:AW):gE W0 m0 S Q 38 69 T38 L38 [a0] A=(Al (Bk A (Value.cells a0).toList 41) fun t0 At0=>Aa (Ac Tp 41 t0 0) fun t1=>Aa (Ad Tp At0 38 t1) fun t2=>Aa (AB Tp At0 38 t2) fun t3=>AE (T38 0) (T38 0) (S 0 [t0,t2,t3,(.int .i64 0)] At0)):=by kernel_rfl
theorem Afb(d:Nat→Value)(A:AW):gL W0 m0 S Q 38 69 T38 L38 d 0 A=(Aa (Af Tp .lss 3 (.tmp 12) (.tmp 11) (d 12) (d 11)) fun t0=>Ae t0 (Aa (Ag Tp 38 (d 10) (d 12)) fun t1=>Aa (Ad Tp A 100 t1) fun t2=>Al (BB Tp A 100) fun t3 At3=>B5 (Bg Tp At3 100 t3 t2) fun At4=>Aa (Ad Tp At4 100 t3) fun t5=>Wc Tp Ak W0 m0 68 [t5] At4 fun t6 At6=>Aa (unA Tp .not t6) fun t7=>Ae t7 (Q (.int .i64 190) At6) (Aa (Af Tp .gtr 3 (.tmp 21) (.const (.int .i64 0)) (d 12) (.int .i64 0)) fun t8=>Ae t8 (Aa (Ac Tp 41 (d 1) 0) fun t9=>Aa (Ad Tp At6 38 t9) fun t10=>Aa (Af Tp .sub 3 (.tmp 26) (.const (.int .i64 1)) (d 12) (.int .i64 1)) fun t11=>Aa (Ag Tp 38 t10 t11) fun t12=>Aa (Ac Tp 100 t12 0) fun t13=>Aa (Ad Tp At6 46 t13) fun t14=>Aa (Ac Tp 100 t3 0) fun t15=>Aa (Ad Tp At6 46 t15) fun t16=>Wc Tp Ak W0 m0 27 [t14,t16] At6 fun t17 At17=>Aa (Af Tp .geq 3 (.tmp 33) (.const (.int .i64 0)) t17 (.int .i64 0)) fun t18=>Ae t18 (Q (.int .i64 190) At17) (Aa (Af Tp .add 3 (.tmp 12) (.const (.int .i64 1)) (d 12) (.int .i64 1)) fun t19=>AE (T38 0) (T38 0) (S 0 [(d 1),(d 10),(d 11),t19] At17))) (Aa (Af Tp .add 3 (.tmp 12) (.const (.int .i64 1)) (d 12) (.int .i64 1)) fun t20=>AE (T38 0) (T38 0) (S 0 [(d 1),(d 10),(d 11),t20] At6)))) (Aa (Ac Tp 41 (d 1) 1) fun t21=>Aa (Ad Tp A 39 t21) fun t22=>Wc Tp Ak W0 m0 69 [t22] A fun t23 At23=>Aa (Af Tp .neq 94 (.tmp 40) (.const (.int .i64 0)) t23 (.int .i64 0)) fun t24=>Ae t24 (Q (.int .i64 190) At23) (Aa (Ac Tp 41 (d 1) 1) fun t25=>Aa (Ad Tp At23 39 t25) fun t26=>Aa (AB Tp At23 39 t26) fun t27=>AE (T38 2) (T38 2) (S 2 [(d 1),t26,t27,(.int .i64 0)] At23)))):=by kernel_rfl
theorem Afa(d:Nat→Value)(A:AW):gL W0 m0 S Q 38 69 T38 L38 d 2 A=(Aa (Af Tp .lss 3 (.tmp 45) (.tmp 44) (d 45) (d 44)) fun t0=>Ae t0 (Aa (Ag Tp 39 (d 43) (d 45)) fun t1=>Aa (Ad Tp A 129 t1) fun t2=>Al (BB Tp A 129) fun t3 At3=>B5 (Bg Tp At3 129 t3 t2) fun At4=>Aa (Ac Tp 41 (d 1) 0) fun t5=>Aa (Ad Tp At4 38 t5) fun t6=>Aa (Ac Tp 129 t3 1) fun t7=>Aa (Ad Tp At4 46 t7) fun t8=>Wc Tp Ak W0 m0 70 [t6,t8] At4 fun t9 At9=>Aa (Aw t9 0) fun t10=>Aa (Aw t9 1) fun t11=>Aa (unA Tp .not t11) fun t12=>Ae t12 (Q (.int .i64 190) At9) (Aa (Ac Tp 41 (d 1) 0) fun t13=>Aa (Ad Tp At9 38 t13) fun t14=>Aa (Ag Tp 38 t14 t10) fun t15=>Aa (Ac Tp 100 t15 1) fun t16=>Aa (Ad Tp At9 97 t16) fun t17=>Aa (Af Tp .neq 97 (.tmp 65) (.const (.int .u8 1)) t17 (.int .u8 1)) fun t18=>Ae t18 (Q (.int .i64 190) At9) (Aa (Af Tp .add 3 (.tmp 45) (.const (.int .i64 1)) (d 45) (.int .i64 1)) fun t19=>AE (T38 2) (T38 2) (S 2 [(d 1),(d 43),(d 44),t19] At9)))) (Q (.int .i64 0) A)):=by kernel_rfl
theorem w38:Wf1 38 69 T38 L38:=wf1 (fun _=>by kernel_rfl) (by decide) fun _=>rfl
theorem c38:B9 38 69 T38 L38:=Ce (by decide)
noncomputable def T39:Nat→List Item:=fun i=>match i with
 |0=>[(.code (cd 39 [1,1,0,1,0,0])),(.inLoop (cd 39 [1,1,0,1,0,0])),(.inBlock 0),(.code (cd 39 [1,1,1]))]
 |_=>[]
def L39:Nat→List Tmp:=fun i=>match i with
 |0=>[0,1,12,13]
 |_=>[]
theorem e39(a0 a1:Value)(A:AW):gE W0 m0 S Q 39 26 T39 L39 [a0,a1] A=(Aa (AB Tp A 35 a0) fun t0=>Aa (AB Tp A 35 a1) fun t1=>Aa (Af Tp .neq 3 (.tmp 7) (.tmp 9) t0 t1) fun t2=>Ae t2 (Q (.bool false) A) (Aa (AB Tp A 35 a0) fun t3=>AE (T39 0) (T39 0) (S 0 [a0,a1,t3,(.int .i64 0)] A))):=by kernel_rfl
theorem Ae9(d:Nat→Value)(A:AW):gL W0 m0 S Q 39 26 T39 L39 d 0 A=(Aa (Af Tp .lss 3 (.tmp 13) (.tmp 12) (d 13) (d 12)) fun t0=>Ae t0 (Aa (Ag Tp 35 (d 0) (d 13)) fun t1=>Aa (Ad Tp A 102 t1) fun t2=>Aa (Ag Tp 35 (d 1) (d 13)) fun t3=>Aa (Ad Tp A 102 t3) fun t4=>Aa (Af Tp .neq 102 (.tmp 19) (.tmp 23) t2 t4) fun t5=>Ae t5 (Q (.bool false) A) (Aa (Af Tp .add 3 (.tmp 13) (.const (.int .i64 1)) (d 13) (.int .i64 1)) fun t6=>AE (T39 0) (T39 0) (S 0 [(d 0),(d 1),(d 12),t6] A))) (Q (.bool true) A)):=by kernel_rfl
theorem w39:Wf2 39 26 T39 L39:=wf2 (fun _ _=>by kernel_rfl) (by decide) fun _ _=>rfl
theorem c39:B9 39 26 T39 L39:=Ce (by decide)
noncomputable def T40:Nat→List Item:=fun i=>match i with
 |0=>[(.code (cd 40 [1,1,0,1,0,0])),(.inLoop (cd 40 [1,1,0,1,0,0])),(.inBlock 0),(.code (cd 40 [1,1,1]))]
 |_=>[]
def L40:Nat→List Tmp:=fun i=>match i with
 |0=>[1,2,15,16,17]
 |_=>[]
theorem e40(a0 a1 a2:Value)(A:AW):gE W0 m0 S Q 40 32 T40 L40 [a0,a1,a2] A=(Aa (AB Tp A 28 a0) fun t0=>Aa (AB Tp A 34 a1) fun t1=>Aa (Af Tp .neq 3 (.tmp 11) (.tmp 13) t0 t1) fun t2=>Ae t2 (Q (.bool false) A) (Aa (AB Tp A 28 a0) fun t3=>AE (T40 0) (T40 0) (S 0 [a1,a2,a0,t3,(.int .i64 0)] A))):=by kernel_rfl
theorem Ae8(d:Nat→Value)(A:AW):gL W0 m0 S Q 40 32 T40 L40 d 0 A=(Aa (Af Tp .lss 3 (.tmp 17) (.tmp 16) (d 17) (d 16)) fun t0=>Ae t0 (Aa (Ag Tp 28 (d 15) (d 17)) fun t1=>Aa (Ad Tp A 46 t1) fun t2=>Al (BB Tp A 46) fun t3 At3=>B5 (Bg Tp At3 46 t3 t2) fun At4=>Aa (Ag Tp 34 (d 1) (d 17)) fun t5=>Aa (Ad Tp At4 89 t5) fun t6=>Al (BB Tp At4 89) fun t7 At7=>B5 (Bg Tp At7 89 t7 t6) fun At8=>Aa (Ad Tp At8 46 t3) fun t9=>Aa (Ad Tp At8 89 t7) fun t10=>anW Tp Ak W0 m0 (Cu Tp Ak At8 (d 2) [t9,t10]) fun t11 At11=>Aa (unA Tp .not t11) fun t12=>Ae t12 (Q (.bool false) At11) (Aa (Af Tp .add 3 (.tmp 17) (.const (.int .i64 1)) (d 17) (.int .i64 1)) fun t13=>AE (T40 0) (T40 0) (S 0 [(d 1),(d 2),(d 15),(d 16),t13] At11))) (Q (.bool true) A)):=by kernel_rfl
theorem w40:Wf3 40 32 T40 L40:=wf3 (fun _ _ _=>by kernel_rfl) (by decide) fun _ _ _=>rfl
theorem c40:B9 40 32 T40 L40:=Ce (by decide)
theorem e41(a0 a1:Value)(A:AW):gE W0 m0 S Q 41 9 Tz Lz [a0,a1] A=(Al (Bk A (Value.cells a0).toList 46) fun t0 At0=>Al (Bk At0 (Value.cells a1).toList 89) fun t1 At1=>Aa (Ad Tp At1 46 t0) fun t2=>Aa (Ac Tp 89 t1 0) fun t3=>Aa (Ad Tp At1 46 t3) fun t4=>Aa (Af Tp .eql 46 (.tmp 5) (.tmp 7) t2 t4) fun t5=>Q t5 At1):=by kernel_rfl
theorem w41:Wf2 41 9 Tz Lz:=wf2 (fun _ _=>by kernel_rfl) (by decide) fun _ _=>rfl
noncomputable def T42:Nat→List Item:=fun i=>match i with
 |0=>[(.code (cd 42 [1,1,0,1,0,0])),(.inLoop (cd 42 [1,1,0,1,0,0])),(.inBlock 0),(.code (cd 42 [1,1,1]))]
 |2=>[(.code (cd 42 [1,1,0,1,0,0,1,0,0,1,1,0,1,0,0])),(.inLoop (cd 42 [1,1,0,1,0,0,1,0,0,1,1,0,1,0,0])),(.inBlock 2),(.code (cd 42 [1,1,0,1,0,0,1,0,0,1,1,1])),(.inBlock 1),(.code (cd 42 [1,1,0,1,0,0,1,1])),(.inLoop (cd 42 [1,1,0,1,0,0])),(.inBlock 0),(.code (cd 42 [1,1,1]))]
 |4=>[(.code (cd 42 [1,1,0,1,0,0,1,0,0,1,1,1,1,0,0])),(.inLoop (cd 42 [1,1,0,1,0,0,1,0,0,1,1,1,1,0,0])),(.inBlock 4),(.inBlock 1),(.code (cd 42 [1,1,0,1,0,0,1,1])),(.inLoop (cd 42 [1,1,0,1,0,0])),(.inBlock 0),(.code (cd 42 [1,1,1]))]
 |6=>[(.code (cd 42 [1,1,1,0,1,0,0])),(.inLoop (cd 42 [1,1,1,0,1,0,0])),(.inBlock 6),(.code (cd 42 [1,1,1,1]))]
 |_=>[]
def L42:Nat→List Tmp:=fun i=>match i with
 |0=>[1,3]
 |2=>[1,3,4,5]
 |4=>[1,3,4,6]
 |6=>[1,7]
 |_=>[]
theorem e42(a0:Value)(A:AW):gE W0 m0 S Q 42 134 T42 L42 [a0] A=(Al (Bk A (Value.cells a0).toList 37) fun t0 At0=>Aa (Ac Tp 37 t0 0) fun t1=>Aa (Ad Tp At0 32 t1) fun t2=>Aa (Af Tp .lss 32 (.tmp 10) (.const (.int .u64 1)) t2 (.int .u64 1)) fun t3=>Ae t3 (Q (.int .i64 140) At0) (Aa (Ac Tp 37 t0 0) fun t4=>Aa (Ad Tp At0 32 t4) fun t5=>Aa (Af Tp .gtr 32 (.tmp 14) (.const (.int .u64 1099511627777)) t5 (.int .u64 1099511627777)) fun t6=>Ae t6 (Q (.int .i64 140) At0) (Aa (Ad Tp At0 37 t0) fun t7=>Wc Tp Ak W0 m0 71 [t7] At0 fun t8 At8=>Aa (unA Tp .not t8) fun t9=>Ae t9 (Q (.int .i64 140) At8) (AE (T42 0) (T42 0) (S 0 [t0,(.int .i64 0)] At8))))):=by kernel_rfl
theorem Ae7(d:Nat→Value)(A:AW):gL W0 m0 S Q 42 134 T42 L42 d 0 A=(Aa (Ac Tp 37 (d 1) 2) fun t0=>Aa (Ad Tp A 34 t0) fun t1=>Aa (AB Tp A 34 t1) fun t2=>Aa (Af Tp .lss 3 (.tmp 22) (.tmp 25) (d 3) t2) fun t3=>Ae t3 (Aa (Ac Tp 37 (d 1) 2) fun t4=>Aa (Ad Tp A 34 t4) fun t5=>Aa (Ag Tp 34 t5 (d 3)) fun t6=>Aa (Ad Tp A 89 t6) fun t7=>Al (BB Tp A 89) fun t8 At8=>B5 (Bg Tp At8 89 t8 t7) fun At9=>Aa (Ad Tp At9 89 t8) fun t10=>Wc Tp Ak W0 m0 36 [t10] At9 fun t11 At11=>Wc Tp Ak W0 m0 72 [t11] At11 fun t12 At12=>Aa (Af Tp .neq 3 (.tmp 36) (.const (.int .i64 0)) t12 (.int .i64 0)) fun t13=>Ae t13 (Q (.int .i64 140) At12) (Aa (Af Tp .gtr 3 (.tmp 39) (.const (.int .i64 0)) (d 3) (.int .i64 0)) fun t14=>Ae t14 (Aa (Ac Tp 37 (d 1) 2) fun t15=>Aa (Ad Tp At12 34 t15) fun t16=>Aa (Af Tp .sub 3 (.tmp 44) (.const (.int .i64 1)) (d 3) (.int .i64 1)) fun t17=>Aa (Ag Tp 34 t16 t17) fun t18=>Aa (Ac Tp 89 t18 0) fun t19=>Aa (Ad Tp At12 46 t19) fun t20=>Aa (Ac Tp 89 t8 0) fun t21=>Aa (Ad Tp At12 46 t21) fun t22=>Wc Tp Ak W0 m0 59 [t20,t22] At12 fun t23 At23=>Aa (Af Tp .geq 3 (.tmp 51) (.const (.int .i64 0)) t23 (.int .i64 0)) fun t24=>Ae t24 (Q (.int .i64 140) At23) (AE (T42 2) (T42 2) (S 2 [(d 1),(d 3),t8,(.int .i64 0)] At23))) (AE (T42 2) (T42 2) (S 2 [(d 1),(d 3),t8,(.int .i64 0)] At12)))) (AE (T42 6) (T42 6) (S 6 [(d 1),(.int .i64 0)] A))):=by kernel_rfl
theorem Ae6(d:Nat→Value)(A:AW):gL W0 m0 S Q 42 134 T42 L42 d 2 A=(Aa (Ac Tp 89 (d 4) 1) fun t0=>Aa (Ad Tp A 86 t0) fun t1=>Aa (AB Tp A 86 t1) fun t2=>Aa (Af Tp .lss 3 (.tmp 55) (.tmp 58) (d 5) t2) fun t3=>Ae t3 (Aa (Ad Tp A 37 (d 1)) fun t4=>Aa (Ac Tp 89 (d 4) 1) fun t5=>Aa (Ad Tp A 86 t5) fun t6=>Aa (Ag Tp 86 t6 (d 5)) fun t7=>Aa (Ac Tp 134 t7 0) fun t8=>Aa (Ad Tp A 9 t8) fun t9=>Wc Tp Ak W0 m0 73 [t4,t9] A fun t10 At10=>Aa (Af Tp .lss 3 (.tmp 69) (.const (.int .i64 0)) t10 (.int .i64 0)) fun t11=>Ae t11 (Q (.int .i64 140) At10) (Aa (Af Tp .add 3 (.tmp 60) (.const (.int .i64 1)) (d 5) (.int .i64 1)) fun t12=>AE (T42 2) (T42 2) (S 2 [(d 1),(d 3),(d 4),t12] At10))) (AE (T42 4) (T42 4) (S 4 [(d 1),(d 3),(d 4),(.int .i64 0)] A))):=by kernel_rfl
theorem Ae5(d:Nat→Value)(A:AW):gL W0 m0 S Q 42 134 T42 L42 d 4 A=(Aa (Ac Tp 89 (d 4) 2) fun t0=>Aa (Ad Tp A 87 t0) fun t1=>Aa (AB Tp A 87 t1) fun t2=>Aa (Af Tp .lss 3 (.tmp 71) (.tmp 74) (d 6) t2) fun t3=>Ae t3 (Aa (Ad Tp A 37 (d 1)) fun t4=>Aa (Ac Tp 89 (d 4) 2) fun t5=>Aa (Ad Tp A 87 t5) fun t6=>Aa (Ag Tp 87 t6 (d 6)) fun t7=>Aa (Ad Tp A 120 t7) fun t8=>Wc Tp Ak W0 m0 74 [t4,t8] A fun t9 At9=>Aa (Af Tp .lss 3 (.tmp 84) (.const (.int .i64 0)) t9 (.int .i64 0)) fun t10=>Ae t10 (Q (.int .i64 140) At9) (Aa (Ad Tp At9 37 (d 1)) fun t11=>Aa (Ac Tp 89 (d 4) 2) fun t12=>Aa (Ad Tp At9 87 t12) fun t13=>Aa (Ag Tp 87 t13 (d 6)) fun t14=>Aa (Ad Tp At9 120 t14) fun t15=>Wc Tp Ak W0 m0 75 [t11,t15] At9 fun t16 At16=>Aa (Af Tp .neq 3 (.tmp 93) (.const (.int .i64 1)) t16 (.int .i64 1)) fun t17=>Ae t17 (Q (.int .i64 140) At16) (Aa (Af Tp .add 3 (.tmp 76) (.const (.int .i64 1)) (d 6) (.int .i64 1)) fun t18=>AE (T42 4) (T42 4) (S 4 [(d 1),(d 3),(d 4),t18] At16)))) (Aa (Af Tp .add 3 (.tmp 27) (.const (.int .i64 1)) (d 3) (.int .i64 1)) fun t19=>AE (T42 0) (T42 0) (S 0 [(d 1),t19] A))):=by kernel_rfl
theorem Ae4(d:Nat→Value)(A:AW):gL W0 m0 S Q 42 134 T42 L42 d 6 A=(Aa (Ac Tp 37 (d 1) 3) fun t0=>Aa (Ad Tp A 35 t0) fun t1=>Aa (AB Tp A 35 t1) fun t2=>Aa (Af Tp .lss 3 (.tmp 96) (.tmp 99) (d 7) t2) fun t3=>Ae t3 (Aa (Ac Tp 37 (d 1) 3) fun t4=>Aa (Ad Tp A 35 t4) fun t5=>Aa (Ag Tp 35 t5 (d 7)) fun t6=>Aa (Ac Tp 102 t6 0) fun t7=>Aa (Ad Tp A 46 t7) fun t8=>Al (BB Tp A 46) fun t9 At9=>B5 (Bg Tp At9 46 t9 t8) fun At10=>Aa (Ad Tp At10 46 t9) fun t11=>Wc Tp Ak W0 m0 76 [t11] At10 fun t12 At12=>Aa (Af Tp .neq 3 (.tmp 110) (.const (.int .i64 0)) t12 (.int .i64 0)) fun t13=>Ae t13 (Q (.int .i64 140) At12) (Aa (Ad Tp At12 37 (d 1)) fun t14=>Aa (Ad Tp At12 46 t9) fun t15=>Wc Tp Ak W0 m0 45 [t14,t15] At12 fun t16 At16=>Aa (Af Tp .geq 3 (.tmp 115) (.const (.int .i64 0)) t16 (.int .i64 0)) fun t17=>Ae t17 (Q (.int .i64 140) At16) (Aa (Af Tp .gtr 3 (.tmp 119) (.const (.int .i64 0)) (d 7) (.int .i64 0)) fun t18=>Ae t18 (Aa (Ac Tp 37 (d 1) 3) fun t19=>Aa (Ad Tp At16 35 t19) fun t20=>Aa (Af Tp .sub 3 (.tmp 124) (.const (.int .i64 1)) (d 7) (.int .i64 1)) fun t21=>Aa (Ag Tp 35 t20 t21) fun t22=>Aa (Ac Tp 102 t22 0) fun t23=>Aa (Ad Tp At16 46 t23) fun t24=>Aa (Ad Tp At16 46 t9) fun t25=>Wc Tp Ak W0 m0 59 [t24,t25] At16 fun t26 At26=>Aa (Af Tp .geq 3 (.tmp 130) (.const (.int .i64 0)) t26 (.int .i64 0)) fun t27=>Ae t27 (Q (.int .i64 140) At26) (Aa (Af Tp .add 3 (.tmp 101) (.const (.int .i64 1)) (d 7) (.int .i64 1)) fun t28=>AE (T42 6) (T42 6) (S 6 [(d 1),t28] At26))) (Aa (Af Tp .add 3 (.tmp 101) (.const (.int .i64 1)) (d 7) (.int .i64 1)) fun t29=>AE (T42 6) (T42 6) (S 6 [(d 1),t29] At16))))) (Q (.int .i64 0) A)):=by kernel_rfl
theorem w42:Wf1 42 134 T42 L42:=wf1 (fun _=>by kernel_rfl) (by decide) fun _=>rfl
theorem c42:B9 42 134 T42 L42:=Ce (by decide)
noncomputable def T43:Nat→List Item:=fun i=>match i with
 |0=>[(.code (cd 43 [1,0,1,0,0])),(.inLoop (cd 43 [1,0,1,0,0])),(.inBlock 0),(.code (cd 43 [1,1]))]
 |2=>[(.code (cd 43 [1,1,1,0,1,0,0])),(.inLoop (cd 43 [1,1,1,0,1,0,0])),(.inBlock 2),(.code (cd 43 [1,1,1,1]))]
 |_=>[]
def L43:Nat→List Tmp:=fun i=>match i with
 |0=>[1,3]
 |2=>[1,5]
 |_=>[]
theorem e43(a0:Value)(A:AW):gE W0 m0 S Q 43 119 T43 L43 [a0] A=(Al (Bk A (Value.cells a0).toList 41) fun t0 At0=>AE (T43 0) (T43 0) (S 0 [t0,(.int .i64 0)] At0)):=by kernel_rfl
abbrev Ky(x0:Value)(X2:AW)(x19:Value)(x21:Value):Prop:=Aa (Ac Tp 100 x0 1) fun t901=>Aa (Ad Tp X2 97 t901) fun t903=>Aa (Af Tp .eql 97 (.tmp 64) (.const (.int .u8 1)) t903 (.int .u8 1)) fun t904=>Ae t904 (Aa (Ac Tp 100 x0 2) fun t905=>Aa (Ad Tp X2 98 t905) fun t906=>Aa (Af Tp .eql 98 (.tmp 68) (.const (.int .u8 0)) t906 (.int .u8 0)) fun t907=>Ae t907 (Aa (Ac Tp 100 x0 3) fun t908=>Aa (Ad Tp X2 44 t908) fun t909=>Aa (Af Tp .gtr 44 (.tmp 73) (.const (.int .u32 0)) t909 (.int .u32 0)) fun t910=>Ae t910 (Aa (Ac Tp 100 x0 4) fun t911=>Aa (Ad Tp X2 44 t911) fun t912=>Aa (Af Tp .lss 44 (.tmp 77) (.const (.int .u32 1)) t912 (.int .u32 1)) fun t913=>Ae t913 (Q (.int .i64 190) X2) (Aa (Ac Tp 100 x0 4) fun t914=>Aa (Ad Tp X2 44 t914) fun t915=>Aa (Ac Tp 100 x0 3) fun t916=>Aa (Ad Tp X2 44 t916) fun t917=>Aa (Af Tp .gtr 44 (.tmp 81) (.tmp 83) t915 t917) fun t918=>Ae t918 (Q (.int .i64 190) X2) (Aa (Af Tp .add 3 (.tmp 12) (.const (.int .i64 1)) x19 (.int .i64 1)) fun t920=>AE (T43 0) (T43 0) (S 0 [x21,t920] X2)))) (Aa (Ac Tp 100 x0 4) fun t922=>Aa (Ad Tp X2 44 t922) fun t923=>Aa (Af Tp .neq 44 (.tmp 87) (.const (.int .u32 0)) t923 (.int .u32 0)) fun t924=>Ae t924 (Q (.int .i64 190) X2) (Aa (Af Tp .add 3 (.tmp 12) (.const (.int .i64 1)) x19 (.int .i64 1)) fun t925=>AE (T43 0) (T43 0) (S 0 [x21,t925] X2)))) (Aa (Ac Tp 100 x0 4) fun t926=>Aa (Ad Tp X2 44 t926) fun t927=>Aa (Af Tp .neq 44 (.tmp 87) (.const (.int .u32 0)) t927 (.int .u32 0)) fun t928=>Ae t928 (Q (.int .i64 190) X2) (Aa (Af Tp .add 3 (.tmp 12) (.const (.int .i64 1)) x19 (.int .i64 1)) fun t929=>AE (T43 0) (T43 0) (S 0 [x21,t929] X2)))) (Aa (Ac Tp 100 x0 4) fun t930=>Aa (Ad Tp X2 44 t930) fun t931=>Aa (Af Tp .neq 44 (.tmp 87) (.const (.int .u32 0)) t931 (.int .u32 0)) fun t932=>Ae t932 (Q (.int .i64 190) X2) (Aa (Af Tp .add 3 (.tmp 12) (.const (.int .i64 1)) x19 (.int .i64 1)) fun t933=>AE (T43 0) (T43 0) (S 0 [x21,t933] X2)))
abbrev Kx(x0:Value)(X2:AW)(x17:Value)(x18:Value):Prop:=Aa (Ac Tp 100 x0 1) fun t901=>Aa (Ad Tp X2 97 t901) fun t903=>Aa (Af Tp .lss 97 (.tmp 41) (.const (.int .u8 1)) t903 (.int .u8 1)) fun t904=>Ae t904 (Q (.int .i64 190) X2) (Aa (Ac Tp 100 x0 1) fun t905=>Aa (Ad Tp X2 97 t905) fun t906=>Aa (Af Tp .gtr 97 (.tmp 45) (.const (.int .u8 4)) t906 (.int .u8 4)) fun t907=>Ae t907 (Q (.int .i64 190) X2) (Aa (Ac Tp 100 x0 2) fun t908=>Aa (Ad Tp X2 98 t908) fun t909=>Aa (Af Tp .gtr 98 (.tmp 50) (.const (.int .u8 2)) t909 (.int .u8 2)) fun t910=>Ae t910 (Q (.int .i64 190) X2) (Aa (Ac Tp 100 x0 1) fun t911=>Aa (Ad Tp X2 97 t911) fun t912=>Aa (Af Tp .neq 97 (.tmp 55) (.const (.int .u8 1)) t912 (.int .u8 1)) fun t913=>Ae t913 (Aa (Ac Tp 100 x0 2) fun t914=>Aa (Ad Tp X2 98 t914) fun t915=>Aa (Af Tp .neq 98 (.tmp 59) (.const (.int .u8 0)) t915 (.int .u8 0)) fun t916=>Ae t916 (Q (.int .i64 190) X2) (Ky S Q x0 X2 x17 x18)) (Ky S Q x0 X2 x17 x18))))
theorem Ae3(d:Nat→Value)(A:AW):gL W0 m0 S Q 43 119 T43 L43 d 0 A=(Aa (Ac Tp 41 (d 1) 0) fun t0=>Aa (Ad Tp A 38 t0) fun t1=>Aa (AB Tp A 38 t1) fun t2=>Aa (Af Tp .lss 3 (.tmp 7) (.tmp 10) (d 3) t2) fun t3=>Ae t3 (Aa (Ac Tp 41 (d 1) 0) fun t4=>Aa (Ad Tp A 38 t4) fun t5=>Aa (Ag Tp 38 t5 (d 3)) fun t6=>Aa (Ad Tp A 100 t6) fun t7=>Al (BB Tp A 100) fun t8 At8=>B5 (Bg Tp At8 100 t8 t7) fun At9=>Aa (Ac Tp 100 t8 0) fun t10=>Aa (Ad Tp At9 46 t10) fun t11=>Wc Tp Ak W0 m0 76 [t11] At9 fun t12 At12=>Aa (Af Tp .neq 3 (.tmp 21) (.const (.int .i64 0)) t12 (.int .i64 0)) fun t13=>Ae t13 (Q (.int .i64 190) At12) (Aa (Af Tp .gtr 3 (.tmp 24) (.const (.int .i64 0)) (d 3) (.int .i64 0)) fun t14=>Ae t14 (Aa (Ac Tp 41 (d 1) 0) fun t15=>Aa (Ad Tp At12 38 t15) fun t16=>Aa (Af Tp .sub 3 (.tmp 29) (.const (.int .i64 1)) (d 3) (.int .i64 1)) fun t17=>Aa (Ag Tp 38 t16 t17) fun t18=>Aa (Ac Tp 100 t18 0) fun t19=>Aa (Ad Tp At12 46 t19) fun t20=>Aa (Ac Tp 100 t8 0) fun t21=>Aa (Ad Tp At12 46 t21) fun t22=>Wc Tp Ak W0 m0 59 [t20,t22] At12 fun t23 At23=>Aa (Af Tp .geq 3 (.tmp 36) (.const (.int .i64 0)) t23 (.int .i64 0)) fun t24=>Ae t24 (Q (.int .i64 190) At23) (Kx S Q t8 At23 (d 3) (d 1))) (Kx S Q t8 At12 (d 3) (d 1)))) (Aa (Ac Tp 41 (d 1) 1) fun t175=>Aa (Ad Tp A 39 t175) fun t176=>Wc Tp Ak W0 m0 77 [t176] A fun t177 At177=>Aa (Af Tp .neq 3 (.tmp 91) (.const (.int .i64 0)) t177 (.int .i64 0)) fun t178=>Ae t178 (Q (.int .i64 190) At177) (AE (T43 2) (T43 2) (S 2 [(d 1),(.int .i64 0)] At177)))):=by kernel_rfl
theorem Ae2(d:Nat→Value)(A:AW):gL W0 m0 S Q 43 119 T43 L43 d 2 A=(Aa (Ac Tp 41 (d 1) 1) fun t0=>Aa (Ad Tp A 39 t0) fun t1=>Aa (AB Tp A 39 t1) fun t2=>Aa (Af Tp .lss 3 (.tmp 93) (.tmp 96) (d 5) t2) fun t3=>Ae t3 (Aa (Ad Tp A 41 (d 1)) fun t4=>Aa (Ac Tp 41 (d 1) 1) fun t5=>Aa (Ad Tp A 39 t5) fun t6=>Aa (Ag Tp 39 t6 (d 5)) fun t7=>Aa (Ac Tp 129 t7 1) fun t8=>Aa (Ad Tp A 46 t8) fun t9=>Wc Tp Ak W0 m0 78 [t4,t9] A fun t10 At10=>Aa (Af Tp .lss 3 (.tmp 108) (.const (.int .i64 0)) t10 (.int .i64 0)) fun t11=>Ae t11 (Q (.int .i64 190) At10) (Aa (Ac Tp 41 (d 1) 0) fun t12=>Aa (Ad Tp At10 38 t12) fun t13=>Aa (Ag Tp 38 t13 t10) fun t14=>Aa (Ac Tp 100 t14 1) fun t15=>Aa (Ad Tp At10 97 t15) fun t16=>Aa (Af Tp .neq 97 (.tmp 116) (.const (.int .u8 1)) t16 (.int .u8 1)) fun t17=>Ae t17 (Q (.int .i64 190) At10) (Aa (Af Tp .add 3 (.tmp 98) (.const (.int .i64 1)) (d 5) (.int .i64 1)) fun t18=>AE (T43 2) (T43 2) (S 2 [(d 1),t18] At10)))) (Q (.int .i64 0) A)):=by kernel_rfl
theorem w43:Wf1 43 119 T43 L43:=wf1 (fun _=>by kernel_rfl) (by decide) fun _=>rfl
theorem c43:B9 43 119 T43 L43:=Ce (by decide)
noncomputable def T44:Nat→List Item:=fun i=>match i with
 |0=>[(.code (cd 44 [1,0,1,0,0])),(.inLoop (cd 44 [1,0,1,0,0])),(.inBlock 0),(.code (cd 44 [1,1]))]
 |_=>[]
def L44:Nat→List Tmp:=fun i=>match i with
 |0=>[2,3,5]
 |_=>[]
theorem e44(a0 a1:Value)(A:AW):gE W0 m0 S Q 44 22 T44 L44 [a0,a1] A=(Al (Bk A (Value.cells a0).toList 37) fun t0 At0=>Al (Bk At0 (Value.cells a1).toList 46) fun t1 At1=>AE (T44 0) (T44 0) (S 0 [t0,t1,(.int .i64 0)] At1)):=by kernel_rfl
theorem Ae1(d:Nat→Value)(A:AW):gL W0 m0 S Q 44 22 T44 L44 d 0 A=(Aa (Ac Tp 37 (d 2) 3) fun t0=>Aa (Ad Tp A 35 t0) fun t1=>Aa (AB Tp A 35 t1) fun t2=>Aa (Af Tp .lss 3 (.tmp 6) (.tmp 9) (d 5) t2) fun t3=>Ae t3 (Aa (Ac Tp 37 (d 2) 3) fun t4=>Aa (Ad Tp A 35 t4) fun t5=>Aa (Ag Tp 35 t5 (d 5)) fun t6=>Aa (Ac Tp 102 t6 0) fun t7=>Aa (Ad Tp A 46 t7) fun t8=>Aa (Ad Tp A 46 (d 3)) fun t9=>Aa (Af Tp .eql 46 (.tmp 18) (.tmp 19) t8 t9) fun t10=>Ae t10 (Q (d 5) A) (Aa (Af Tp .add 3 (.tmp 11) (.const (.int .i64 1)) (d 5) (.int .i64 1)) fun t11=>AE (T44 0) (T44 0) (S 0 [(d 2),(d 3),t11] A))) (Q (.int .i64 (-1)) A)):=by kernel_rfl
theorem w44:Wf2 44 22 T44 L44:=wf2 (fun _ _=>by kernel_rfl) (by decide) fun _ _=>rfl
theorem c44:B9 44 22 T44 L44:=Ce (by decide)
noncomputable def T45:Nat→List Item:=fun i=>match i with
 |0=>[(.code (cd 45 [1,0,1,0,0])),(.inLoop (cd 45 [1,0,1,0,0])),(.inBlock 0),(.code (cd 45 [1,1]))]
 |_=>[]
def L45:Nat→List Tmp:=fun i=>match i with
 |0=>[2,3,5]
 |_=>[]
theorem e45(a0 a1:Value)(A:AW):gE W0 m0 S Q 45 22 T45 L45 [a0,a1] A=(Al (Bk A (Value.cells a0).toList 37) fun t0 At0=>Al (Bk At0 (Value.cells a1).toList 46) fun t1 At1=>AE (T45 0) (T45 0) (S 0 [t0,t1,(.int .i64 0)] At1)):=by kernel_rfl
theorem Ae0(d:Nat→Value)(A:AW):gL W0 m0 S Q 45 22 T45 L45 d 0 A=(Aa (Ac Tp 37 (d 2) 2) fun t0=>Aa (Ad Tp A 34 t0) fun t1=>Aa (AB Tp A 34 t1) fun t2=>Aa (Af Tp .lss 3 (.tmp 6) (.tmp 9) (d 5) t2) fun t3=>Ae t3 (Aa (Ac Tp 37 (d 2) 2) fun t4=>Aa (Ad Tp A 34 t4) fun t5=>Aa (Ag Tp 34 t5 (d 5)) fun t6=>Aa (Ac Tp 89 t6 0) fun t7=>Aa (Ad Tp A 46 t7) fun t8=>Aa (Ad Tp A 46 (d 3)) fun t9=>Aa (Af Tp .eql 46 (.tmp 18) (.tmp 19) t8 t9) fun t10=>Ae t10 (Q (d 5) A) (Aa (Af Tp .add 3 (.tmp 11) (.const (.int .i64 1)) (d 5) (.int .i64 1)) fun t11=>AE (T45 0) (T45 0) (S 0 [(d 2),(d 3),t11] A))) (Q (.int .i64 (-1)) A)):=by kernel_rfl
theorem w45:Wf2 45 22 T45 L45:=wf2 (fun _ _=>by kernel_rfl) (by decide) fun _ _=>rfl
theorem c45:B9 45 22 T45 L45:=Ce (by decide)
noncomputable def T62:Nat→List Item:=fun i=>match i with
 |0=>[(.code (cd 62 [1,0,1,0,0])),(.inLoop (cd 62 [1,0,1,0,0])),(.inBlock 0),(.code (cd 62 [1,1]))]
 |2=>[(.code (cd 62 [1,0,1,0,0,1,1,0,0,1,1,1,1,0,0])),(.inLoop (cd 62 [1,0,1,0,0,1,1,0,0,1,1,1,1,0,0])),(.inBlock 2),(.inBlock 1),(.code (cd 62 [1,0,1,0,0,1,1,1])),(.inLoop (cd 62 [1,0,1,0,0])),(.inBlock 0),(.code (cd 62 [1,1]))]
 |_=>[]
def L62:Nat→List Tmp:=fun i=>match i with
 |0=>[1,10,11,12]
 |2=>[1,4,5,10,11,12,31,32,33]
 |_=>[]
theorem e62(a0:Value)(A:AW):gE W0 m0 S Q 62 71 T62 L62 [a0] A=(Al (Bk A (Value.cells a0).toList 37) fun t0 At0=>Aa (Ac Tp 37 t0 1) fun t1=>Aa (Ad Tp At0 33 t1) fun t2=>Aa (AB Tp At0 33 t2) fun t3=>AE (T62 0) (T62 0) (S 0 [t0,t2,t3,(.int .i64 0)] At0)):=by kernel_rfl
theorem AeY(d:Nat→Value)(A:AW):gL W0 m0 S Q 62 71 T62 L62 d 0 A=(Aa (Af Tp .lss 3 (.tmp 12) (.tmp 11) (d 12) (d 11)) fun t0=>Ae t0 (Aa (Ag Tp 33 (d 10) (d 12)) fun t1=>Aa (Ad Tp A 75 t1) fun t2=>Al (BB Tp A 75) fun t3 At3=>B5 (Bg Tp At3 75 t3 t2) fun At4=>Aa (Ac Tp 75 t3 0) fun t5=>Aa (Ad Tp At4 9 t5) fun t6=>Wc Tp Ak W0 m0 89 [t6] At4 fun t7 At7=>Aa (unA Tp .not t7) fun t8=>Ae t8 (Q (.bool false) At7) (Aa (Ac Tp 75 t3 1) fun t9=>Aa (Ad Tp At7 32 t9) fun t10=>Aa (Af Tp .lss 32 (.tmp 22) (.const (.int .u64 1)) t10 (.int .u64 1)) fun t11=>Ae t11 (Q (.bool false) At7) (Aa (Ac Tp 75 t3 1) fun t12=>Aa (Ad Tp At7 32 t12) fun t13=>Aa (Af Tp .gtr 32 (.tmp 27) (.const (.int .u64 1099511627776)) t13 (.int .u64 1099511627776)) fun t14=>Ae t14 (Q (.bool false) At7) (Aa (Ac Tp 75 t3 2) fun t15=>Aa (Ad Tp At7 73 t15) fun t16=>Aa (AB Tp At7 73 t16) fun t17=>AE (T62 2) (T62 2) (S 2 [(d 1),t3,(.int .u64 0),(d 10),(d 11),(d 12),t16,t17,(.int .i64 0)] At7))))) (Aa (Ac Tp 37 (d 1) 1) fun t18=>Aa (Ad Tp A 33 t18) fun t19=>Wc Tp Ak W0 m0 91 [t19,(.func (.func 92) #[] #[])] A fun t20 At20=>Q t20 At20)):=by kernel_rfl
theorem AeX(d:Nat→Value)(A:AW):gL W0 m0 S Q 62 71 T62 L62 d 2 A=(Aa (Af Tp .lss 3 (.tmp 33) (.tmp 32) (d 33) (d 32)) fun t0=>Ae t0 (Aa (Ag Tp 73 (d 31) (d 33)) fun t1=>Aa (Ad Tp A 84 t1) fun t2=>Al (BB Tp A 84) fun t3 At3=>B5 (Bg Tp At3 84 t3 t2) fun At4=>Aa (Ac Tp 75 (d 4) 0) fun t5=>Aa (Ad Tp At4 9 t5) fun t6=>Aa (Ac Tp 84 t3 0) fun t7=>Aa (Ad Tp At4 32 t7) fun t8=>Aa (Ac Tp 84 t3 1) fun t9=>Aa (Ad Tp At4 82 t9) fun t10=>Aa (Ac Tp 84 t3 2) fun t11=>Aa (Ad Tp At4 9 t11) fun t12=>Aa (Ch Tp 134 [(0,t6),(1,t8),(2,t10),(3,t12)]) fun t13=>Al (BB Tp At4 134) fun t14 At14=>B5 (Bg Tp At14 134 t14 t13) fun At15=>Aa (Ac Tp 84 t3 0) fun t16=>Aa (Ad Tp At15 32 t16) fun t17=>Aa (Af Tp .leq 32 (.tmp 47) (.tmp 48) t17 (d 5)) fun t18=>Ae t18 (Q (.bool false) At15) (Aa (Ac Tp 84 t3 0) fun t19=>Aa (Ad Tp At15 32 t19) fun t20=>Aa (Ac Tp 37 (d 1) 0) fun t21=>Aa (Ad Tp At15 32 t21) fun t22=>Aa (Af Tp .geq 32 (.tmp 52) (.tmp 54) t20 t22) fun t23=>Ae t23 (Q (.bool false) At15) (Aa (Ad Tp At15 134 t14) fun t24=>Al (AG Tp At15 86 1 [(0,t24)]) fun t25 At25=>Aa (Ch Tp 92 [(0,(.int .u8 3)),(4,t25)]) fun t26=>Wc Tp Ak W0 m0 90 [t26] At25 fun t27 At27=>Aa (Af Tp .neq 94 (.tmp 61) (.const (.int .i64 0)) t27 (.int .i64 0)) fun t28=>Ae t28 (Q (.bool false) At27) (Aa (Ac Tp 84 t3 0) fun t29=>Aa (Ad Tp At27 32 t29) fun t30=>Aa (Af Tp .add 3 (.tmp 33) (.const (.int .i64 1)) (d 33) (.int .i64 1)) fun t31=>AE (T62 2) (T62 2) (S 2 [(d 1),(d 4),t30,(d 10),(d 11),(d 12),(d 31),(d 32),t31] At27))))) (Aa (Af Tp .add 3 (.tmp 12) (.const (.int .i64 1)) (d 12) (.int .i64 1)) fun t32=>AE (T62 0) (T62 0) (S 0 [(d 1),(d 10),(d 11),t32] A))):=by kernel_rfl
theorem w62:Wf1 62 71 T62 L62:=wf1 (fun _=>by kernel_rfl) (by decide) fun _=>rfl
theorem c62:B9 62 71 T62 L62:=Ce (by decide)
noncomputable def T63:Nat→List Item:=fun i=>match i with
 |0=>[(.code (cd 63 [1,1,0,1,0,0])),(.inLoop (cd 63 [1,1,0,1,0,0])),(.inBlock 0),(.code (cd 63 [1,1,1]))]
 |2=>[(.code (cd 63 [1,1,0,1,0,0,1,1,0,0,1,1,0,1,0,0])),(.inLoop (cd 63 [1,1,0,1,0,0,1,1,0,0,1,1,0,1,0,0])),(.inBlock 2),(.code (cd 63 [1,1,0,1,0,0,1,1,0,0,1,1,1])),(.inBlock 1),(.code (cd 63 [1,1,0,1,0,0,1,1,1])),(.inLoop (cd 63 [1,1,0,1,0,0])),(.inBlock 0),(.code (cd 63 [1,1,1]))]
 |4=>[(.code (cd 63 [1,1,0,1,0,0,1,1,0,0,1,1,1,1,0,0])),(.inLoop (cd 63 [1,1,0,1,0,0,1,1,0,0,1,1,1,1,0,0])),(.inBlock 4),(.inBlock 1),(.code (cd 63 [1,1,0,1,0,0,1,1,1])),(.inLoop (cd 63 [1,1,0,1,0,0])),(.inBlock 0),(.code (cd 63 [1,1,1]))]
 |_=>[]
def L63:Nat→List Tmp:=fun i=>match i with
 |0=>[1,3,17,18,19]
 |2=>[1,3,5,17,18,19,28,29,30]
 |4=>[1,3,17,18,19,45,46,47]
 |_=>[]
theorem e63(a0:Value)(A:AW):gE W0 m0 S Q 63 77 T63 L63 [a0] A=(Al (Bk A (Value.cells a0).toList 37) fun t0 At0=>Al (GC At0) fun t1 At1=>Aa (Ac Tp 37 t0 2) fun t2=>Aa (Ad Tp At1 34 t2) fun t3=>Aa (AB Tp At1 34 t3) fun t4=>AE (T63 0) (T63 0) (S 0 [t0,t1,t3,t4,(.int .i64 0)] At1)):=by kernel_rfl
theorem AeW(d:Nat→Value)(A:AW):gL W0 m0 S Q 63 77 T63 L63 d 0 A=(Aa (Af Tp .lss 3 (.tmp 19) (.tmp 18) (d 19) (d 18)) fun t0=>Ae t0 (Aa (Ag Tp 34 (d 17) (d 19)) fun t1=>Aa (Ad Tp A 89 t1) fun t2=>Al (BB Tp A 89) fun t3 At3=>B5 (Bg Tp At3 89 t3 t2) fun At4=>Aa (Ad Tp At4 89 t3) fun t5=>Wc Tp Ak W0 m0 93 [t5] At4 fun t6 At6=>Wc Tp Ak W0 m0 90 [t6] At6 fun t7 At7=>Aa (Af Tp .neq 94 (.tmp 25) (.const (.int .i64 0)) t7 (.int .i64 0)) fun t8=>Ae t8 (Q (.bool false) At7) (Aa (Ac Tp 89 t3 1) fun t9=>Aa (Ad Tp At7 86 t9) fun t10=>Aa (AB Tp At7 86 t10) fun t11=>AE (T63 2) (T63 2) (S 2 [(d 1),(d 3),t3,(d 17),(d 18),(d 19),t10,t11,(.int .i64 0)] At7))) (Aa (Ac Tp 37 (d 1) 2) fun t12=>Aa (Ad Tp A 34 t12) fun t13=>Wc Tp Ak W0 m0 96 [t13,(.func (.func 97) #[] #[])] A fun t14 At14=>Q t14 At14)):=by kernel_rfl
theorem AeV(d:Nat→Value)(A:AW):gL W0 m0 S Q 63 77 T63 L63 d 2 A=(Aa (Af Tp .lss 3 (.tmp 30) (.tmp 29) (d 30) (d 29)) fun t0=>Ae t0 (Aa (Ag Tp 86 (d 28) (d 30)) fun t1=>Aa (Ad Tp A 134 t1) fun t2=>Al (BB Tp A 134) fun t3 At3=>B5 (Bg Tp At3 134 t3 t2) fun At4=>Aa (Ad Tp At4 37 (d 1)) fun t5=>Aa (Ac Tp 134 t3 0) fun t6=>Aa (Ad Tp At4 9 t6) fun t7=>Wc Tp Ak W0 m0 94 [t5,t7] At4 fun t8 At8=>Aa (Aw t8 0) fun t9=>Aa (Aw t8 1) fun t10=>Aa (unA Tp .not t10) fun t11=>Ae t11 (Q (.bool false) At8) (Aa (Af Tp .add 3 (.tmp 30) (.const (.int .i64 1)) (d 30) (.int .i64 1)) fun t12=>AE (T63 2) (T63 2) (S 2 [(d 1),(d 3),(d 5),(d 17),(d 18),(d 19),(d 28),(d 29),t12] At8))) (Aa (Ac Tp 89 (d 5) 2) fun t13=>Aa (Ad Tp A 87 t13) fun t14=>Aa (AB Tp A 87 t14) fun t15=>AE (T63 4) (T63 4) (S 4 [(d 1),(d 3),(d 17),(d 18),(d 19),t14,t15,(.int .i64 0)] A))):=by kernel_rfl
theorem AeU(d:Nat→Value)(A:AW):gL W0 m0 S Q 63 77 T63 L63 d 4 A=(Aa (Af Tp .lss 3 (.tmp 47) (.tmp 46) (d 47) (d 46)) fun t0=>Ae t0 (Aa (Ag Tp 87 (d 45) (d 47)) fun t1=>Aa (Ad Tp A 120 t1) fun t2=>Al (BB Tp A 120) fun t3 At3=>B5 (Bg Tp At3 120 t3 t2) fun At4=>Aa (Ad Tp At4 120 t3) fun t5=>Aa (DH Tp At4 152 (d 3) t5 false) fun t6=>Aa (Af Tp .add 3 (.tmp 53) (.const (.int .i64 1)) t6 (.int .i64 1)) fun t7=>Al (G4 Tp At4 152 (d 3) t5) fun t8 At8=>Aa (Af Tp .add 3 (.tmp 53) (.const (.int .i64 1)) t6 (.int .i64 1)) fun t9=>eqW t9 t7 (Aa (DH Tp At8 152 (d 3) t5 false) fun t10=>eqW t10 t6 (Aa (Aw t8 1) fun t11=>B5 (El At8 (d 3) t11 t7) fun At12=>Aa (Ad Tp At12 37 (d 1)) fun t13=>Aa (Ad Tp At12 120 t3) fun t14=>Wc Tp Ak W0 m0 95 [t13,t14] At12 fun t15 At15=>Aa (Aw t15 0) fun t16=>Aa (Aw t15 1) fun t17=>Aa (Aw t15 2) fun t18=>Aa (unA Tp .not t18) fun t19=>Ae t19 (Q (.bool false) At15) (Aa (Ad Tp At15 120 t3) fun t20=>Aa (DH Tp At15 152 (d 3) t20 false) fun t21=>Aa (Af Tp .gtr 3 (.tmp 69) (.const (.int .i64 1)) t21 (.int .i64 1)) fun t22=>Ae t22 (Q (.bool false) At15) (Aa (Af Tp .add 3 (.tmp 47) (.const (.int .i64 1)) (d 47) (.int .i64 1)) fun t23=>AE (T63 4) (T63 4) (S 4 [(d 1),(d 3),(d 17),(d 18),(d 19),(d 45),(d 46),t23] At15)))))) (Aa (Af Tp .add 3 (.tmp 19) (.const (.int .i64 1)) (d 19) (.int .i64 1)) fun t24=>AE (T63 0) (T63 0) (S 0 [(d 1),(d 3),(d 17),(d 18),t24] A))):=by kernel_rfl
theorem w63:Wf1 63 77 T63 L63:=wf1 (fun _=>by kernel_rfl) (by decide) fun _=>rfl
theorem c63:B9 63 77 T63 L63:=Ce (by decide)
noncomputable def T64:Nat→List Item:=fun i=>match i with
 |0=>[(.code (cd 64 [1,0,1,0,0])),(.inLoop (cd 64 [1,0,1,0,0])),(.inBlock 0),(.code (cd 64 [1,1]))]
 |_=>[]
def L64:Nat→List Tmp:=fun i=>match i with
 |0=>[0,1,5]
 |_=>[]
theorem e64(a0 a1:Value)(A:AW):gE W0 m0 S Q 64 24 T64 L64 [a0,a1] A=(AE (T64 0) (T64 0) (S 0 [a0,a1,(.int .i64 1)] A)):=by kernel_rfl
theorem AeT(d:Nat→Value)(A:AW):gL W0 m0 S Q 64 24 T64 L64 d 0 A=(Aa (AB Tp A 35 (d 0)) fun t0=>Aa (Af Tp .lss 3 (.tmp 6) (.tmp 8) (d 5) t0) fun t1=>Ae t1 (Aa (Af Tp .sub 3 (.tmp 14) (.const (.int .i64 1)) (d 5) (.int .i64 1)) fun t2=>Aa (Ag Tp 35 (d 0) t2) fun t3=>Aa (Ad Tp A 102 t3) fun t4=>Aa (Ag Tp 35 (d 0) (d 5)) fun t5=>Aa (Ad Tp A 102 t5) fun t6=>anW Tp Ak W0 m0 (Cu Tp Ak A (d 1) [t4,t6]) fun t7 At7=>Aa (Af Tp .geq 3 (.tmp 22) (.const (.int .i64 0)) t7 (.int .i64 0)) fun t8=>Ae t8 (Q (.bool false) At7) (Aa (Af Tp .add 3 (.tmp 10) (.const (.int .i64 1)) (d 5) (.int .i64 1)) fun t9=>AE (T64 0) (T64 0) (S 0 [(d 0),(d 1),t9] At7))) (Q (.bool true) A)):=by kernel_rfl
theorem w64:Wf2 64 24 T64 L64:=wf2 (fun _ _=>by kernel_rfl) (by decide) fun _ _=>rfl
theorem c64:B9 64 24 T64 L64:=Ce (by decide)
theorem e65(a0 a1:Value)(A:AW):gE W0 m0 S Q 65 10 Tz Lz [a0,a1] A=(Al (Bk A (Value.cells a0).toList 102) fun t0 At0=>Al (Bk At0 (Value.cells a1).toList 102) fun t1 At1=>Aa (Ac Tp 102 t0 0) fun t2=>Aa (Ad Tp At1 46 t2) fun t3=>Aa (Ac Tp 102 t1 0) fun t4=>Aa (Ad Tp At1 46 t4) fun t5=>Wc Tp Ak W0 m0 27 [t3,t5] At1 fun t6 At6=>Q t6 At6):=by kernel_rfl
theorem w65:Wf2 65 10 Tz Lz:=wf2 (fun _ _=>by kernel_rfl) (by decide) fun _ _=>rfl
theorem e66(a0 a1:Value)(A:AW):gE W0 m0 S Q 66 12 Tz Lz [a0,a1] A=(Al (Bk A (Value.cells a0).toList 37) fun t0 At0=>Al (Bk At0 (Value.cells a1).toList 46) fun t1 At1=>Aa (Ac Tp 37 t0 2) fun t2=>Aa (Ad Tp At1 34 t2) fun t3=>Wc Tp Ak W0 m0 98 [t3,(.func (.func 99) ⟨[]⟩ ⟨[t1]⟩)] At1 fun t4 At4=>Aa (Aw t4 0) fun t5=>Aa (Aw t4 1) fun t6=>Q (.tuple ⟨[t5,t6]⟩) At4):=by kernel_rfl
theorem w66:Wf2 66 12 Tz Lz:=wf2 (fun _ _=>by kernel_rfl) (by decide) fun _ _=>rfl
theorem e67(a0:Value)(A:AW):gE W0 m0 S Q 67 18 Tz Lz [a0] A=(Al (Bk A (Value.cells a0).toList 46) fun t0 At0=>Aa (Ac Tp 46 t0 1) fun t1=>Aa (Ad Tp At0 9 t1) fun t2=>Aa (Af Tp .eql 9 (.tmp 4) (.const (.string ⟨⟨[]⟩⟩)) t2 (.string ⟨⟨[]⟩⟩)) fun t3=>Ae t3 (Q (.int .i64 40) At0) (Aa (Ac Tp 46 t0 1) fun t4=>Aa (Ad Tp At0 9 t4) fun t5=>Aa (AB Tp At0 9 t5) fun t6=>Aa (Af Tp .gtr 3 (.tmp 9) (.const (.int .i64 64)) t6 (.int .i64 64)) fun t7=>Ae t7 (Q (.int .i64 40) At0) (Aa (Ac Tp 46 t0 2) fun t8=>Aa (Ad Tp At0 9 t8) fun t9=>Aa (AB Tp At0 9 t9) fun t10=>Aa (Af Tp .gtr 3 (.tmp 15) (.const (.int .i64 64)) t10 (.int .i64 64)) fun t11=>Ae t11 (Q (.int .i64 40) At0) (Q (.int .i64 0) At0)))):=by kernel_rfl
theorem w67:Wf1 67 18 Tz Lz:=wf1 (fun _=>by kernel_rfl) (by decide) fun _=>rfl
abbrev NW(x0:Value)(X2:AW):Prop:=Aa (Ac Tp 100 x0 4) fun t901=>Aa (Ad Tp X2 44 t901) fun t903=>Aa (Af Tp .eql 44 (.tmp 36) (.const (.int .u32 0)) t903 (.int .u32 0)) fun t904=>Ae t904 (Aa (Ac Tp 100 x0 1) fun t905=>Aa (Ad Tp X2 97 t905) fun t906=>Aa (Af Tp .eql 97 (.tmp 40) (.const (.int .u8 1)) t906 (.int .u8 1)) fun t907=>Ae t907 (Q (.bool true) X2) (Aa (Ac Tp 100 x0 2) fun t908=>Aa (Ad Tp X2 98 t908) fun t909=>Aa (Af Tp .eql 98 (.tmp 44) (.const (.int .u8 0)) t909 (.int .u8 0)) fun t910=>Q t910 X2)) (Q (.bool false) X2)
theorem e68(a0:Value)(A:AW):gE W0 m0 S Q 68 58 Tz Lz [a0] A=(Al (Bk A (Value.cells a0).toList 100) fun t0 At0=>Aa (Ac Tp 100 t0 0) fun t1=>Aa (Ad Tp At0 46 t1) fun t2=>Wc Tp Ak W0 m0 67 [t2] At0 fun t3 At3=>Aa (Af Tp .neq 94 (.tmp 5) (.const (.int .i64 0)) t3 (.int .i64 0)) fun t4=>Ae t4 (Q (.bool false) At3) (Aa (Ac Tp 100 t0 1) fun t5=>Aa (Ad Tp At3 97 t5) fun t6=>Aa (Af Tp .lss 97 (.tmp 9) (.const (.int .u8 1)) t6 (.int .u8 1)) fun t7=>Ae t7 (Q (.bool false) At3) (Aa (Ac Tp 100 t0 1) fun t8=>Aa (Ad Tp At3 97 t8) fun t9=>Aa (Af Tp .gtr 97 (.tmp 14) (.const (.int .u8 4)) t9 (.int .u8 4)) fun t10=>Ae t10 (Q (.bool false) At3) (Aa (Ac Tp 100 t0 2) fun t11=>Aa (Ad Tp At3 98 t11) fun t12=>Aa (Af Tp .gtr 98 (.tmp 19) (.const (.int .u8 2)) t12 (.int .u8 2)) fun t13=>Ae t13 (Q (.bool false) At3) (Aa (Ac Tp 100 t0 1) fun t14=>Aa (Ad Tp At3 97 t14) fun t15=>Aa (Af Tp .neq 97 (.tmp 23) (.const (.int .u8 1)) t15 (.int .u8 1)) fun t16=>Ae t16 (NW Q t0 At3) (Aa (Ac Tp 100 t0 2) fun t26=>Aa (Ad Tp At3 98 t26) fun t27=>Aa (Af Tp .neq 98 (.tmp 27) (.const (.int .u8 0)) t27 (.int .u8 0)) fun t28=>Ae t28 (NW Q t0 At3) (Aa (Ac Tp 100 t0 3) fun t38=>Aa (Ad Tp At3 44 t38) fun t39=>Aa (Af Tp .eql 44 (.tmp 32) (.const (.int .u32 0)) t39 (.int .u32 0)) fun t40=>Ae t40 (NW Q t0 At3) (Aa (Ac Tp 100 t0 4) fun t50=>Aa (Ad Tp At3 44 t50) fun t51=>Aa (Af Tp .geq 44 (.tmp 49) (.const (.int .u32 1)) t51 (.int .u32 1)) fun t52=>Ae t52 (Aa (Ac Tp 100 t0 4) fun t53=>Aa (Ad Tp At3 44 t53) fun t54=>Aa (Ac Tp 100 t0 3) fun t55=>Aa (Ad Tp At3 44 t55) fun t56=>Aa (Af Tp .leq 44 (.tmp 53) (.tmp 55) t54 t56) fun t57=>Q t57 At3) (Q (.bool false) At3))))))))):=by kernel_rfl
theorem w68:Wf1 68 58 Tz Lz:=wf1 (fun _=>by kernel_rfl) (by decide) fun _=>rfl
noncomputable def T69:Nat→List Item:=fun i=>match i with
 |0=>[(.code (cd 69 [1,1,0,1,0,0])),(.inLoop (cd 69 [1,1,0,1,0,0])),(.inBlock 0),(.code (cd 69 [1,1,1]))]
 |_=>[]
def L69:Nat→List Tmp:=fun i=>match i with
 |0=>[0,3,6,7,8]
 |_=>[]
theorem e69(a0:Value)(A:AW):gE W0 m0 S Q 69 53 T69 L69 [a0] A=(Aa (AB Tp A 39 a0) fun t0=>AE (T69 0) (T69 0) (S 0 [a0,(.int .u64 0),a0,t0,(.int .i64 0)] A)):=by kernel_rfl
abbrev Kw(x0:Value)(X2:AW)(x7:Value)(x9:Value)(x10:Value)(x11:Value)(x13:Value):Prop:=Aa (Ac Tp 129 x0 2) fun t901=>Aa (Ad Tp X2 4 t901) fun t903=>Aa (unA Tp .not t903) fun t904=>Ae t904 (Aa (Ac Tp 129 x0 0) fun t905=>Aa (Ad Tp X2 32 t905) fun t906=>Aa (Af Tp .add 3 (.tmp 8) (.const (.int .i64 1)) x7 (.int .i64 1)) fun t908=>AE (T69 0) (T69 0) (S 0 [x9,t906,x10,x11,t908] X2)) (Aa (Af Tp .add 3 (.tmp 8) (.const (.int .i64 1)) x7 (.int .i64 1)) fun t912=>AE (T69 0) (T69 0) (S 0 [x9,x13,x10,x11,t912] X2))
abbrev Kv(x0:Value)(X2:AW)(x7:Value)(x9:Value)(x10:Value)(x11:Value)(x12:Value):Prop:=Aa (Ac Tp 129 x0 2) fun t901=>Aa (Ad Tp X2 4 t901) fun t903=>Aa (unA Tp .not t903) fun t904=>Ae t904 (Aa (Ac Tp 129 x0 0) fun t905=>Aa (Ad Tp X2 32 t905) fun t906=>Aa (Af Tp .eql 32 (.tmp 42) (.tmp 43) t906 x7) fun t908=>Ae t908 (Q (.int .i64 180) X2) (Kw S x0 X2 x9 x10 x11 x12 x7)) (Kw S x0 X2 x9 x10 x11 x12 x7)
theorem AeS(d:Nat→Value)(A:AW):gL W0 m0 S Q 69 53 T69 L69 d 0 A=(Aa (Af Tp .lss 3 (.tmp 8) (.tmp 7) (d 8) (d 7)) fun t0=>Ae t0 (Aa (Ag Tp 39 (d 6) (d 8)) fun t1=>Aa (Ad Tp A 129 t1) fun t2=>Al (BB Tp A 129) fun t3 At3=>B5 (Bg Tp At3 129 t3 t2) fun At4=>Aa (Ac Tp 129 t3 0) fun t5=>Aa (Ad Tp At4 32 t5) fun t6=>Aa (Af Tp .eql 32 (.tmp 14) (.const (.int .u64 0)) t6 (.int .u64 0)) fun t7=>Ae t7 (Q (.int .i64 180) At4) (Aa (Ac Tp 129 t3 1) fun t8=>Aa (Ad Tp At4 46 t8) fun t9=>Wc Tp Ak W0 m0 67 [t9] At4 fun t10 At10=>Aa (Af Tp .neq 94 (.tmp 19) (.const (.int .i64 0)) t10 (.int .i64 0)) fun t11=>Ae t11 (Q (.int .i64 180) At10) (Aa (Af Tp .gtr 3 (.tmp 23) (.const (.int .i64 0)) (d 8) (.int .i64 0)) fun t12=>Ae t12 (Aa (Af Tp .sub 3 (.tmp 27) (.const (.int .i64 1)) (d 8) (.int .i64 1)) fun t13=>Aa (Ag Tp 39 (d 0) t13) fun t14=>Aa (Ad Tp At10 129 t14) fun t15=>Aa (Ad Tp At10 129 t3) fun t16=>Wc Tp Ak W0 m0 100 [t15,t16] At10 fun t17 At17=>Aa (Af Tp .geq 3 (.tmp 32) (.const (.int .i64 0)) t17 (.int .i64 0)) fun t18=>Ae t18 (Q (.int .i64 180) At17) (Kv S Q t3 At17 (d 3) (d 8) (d 0) (d 6) (d 7))) (Kv S Q t3 At10 (d 3) (d 8) (d 0) (d 6) (d 7))))) (Q (.int .i64 0) A)):=by kernel_rfl
theorem w69:Wf1 69 53 T69 L69:=wf1 (fun _=>by kernel_rfl) (by decide) fun _=>rfl
theorem c69:B9 69 53 T69 L69:=Ce (by decide)
theorem e70(a0 a1:Value)(A:AW):gE W0 m0 S Q 70 11 Tz Lz [a0,a1] A=(Al (Bk A (Value.cells a1).toList 46) fun t0 At0=>Aa (Ad Tp At0 46 t0) fun t1=>Wc Tp Ak W0 m0 101 [a0,t1,(.func (.func 102) #[] #[])] At0 fun t2 At2=>Aa (Aw t2 0) fun t3=>Aa (Aw t2 1) fun t4=>Q (.tuple ⟨[t3,t4]⟩) At2):=by kernel_rfl
theorem w70:Wf2 70 11 Tz Lz:=wf2 (fun _ _=>by kernel_rfl) (by decide) fun _ _=>rfl
noncomputable def T71:Nat→List Item:=fun i=>match i with
 |0=>[(.code (cd 71 [1,0,1,0,0])),(.inLoop (cd 71 [1,0,1,0,0])),(.inBlock 0),(.code (cd 71 [1,1]))]
 |2=>[(.code (cd 71 [1,0,1,0,0,1,0,0,1,1,1,0,0])),(.inLoop (cd 71 [1,0,1,0,0,1,0,0,1,1,1,0,0])),(.inBlock 2),(.inBlock 1),(.code (cd 71 [1,0,1,0,0,1,1])),(.inLoop (cd 71 [1,0,1,0,0])),(.inBlock 0),(.code (cd 71 [1,1]))]
 |_=>[]
def L71:Nat→List Tmp:=fun i=>match i with
 |0=>[1,3]
 |2=>[1,3,4,5]
 |_=>[]
theorem e71(a0:Value)(A:AW):gE W0 m0 S Q 71 92 T71 L71 [a0] A=(Al (Bk A (Value.cells a0).toList 37) fun t0 At0=>AE (T71 0) (T71 0) (S 0 [t0,(.int .i64 0)] At0)):=by kernel_rfl
theorem AeR(d:Nat→Value)(A:AW):gL W0 m0 S Q 71 92 T71 L71 d 0 A=(Aa (Ac Tp 37 (d 1) 1) fun t0=>Aa (Ad Tp A 33 t0) fun t1=>Aa (AB Tp A 33 t1) fun t2=>Aa (Af Tp .lss 3 (.tmp 7) (.tmp 10) (d 3) t2) fun t3=>Ae t3 (Aa (Ac Tp 37 (d 1) 1) fun t4=>Aa (Ad Tp A 33 t4) fun t5=>Aa (Ag Tp 33 t5 (d 3)) fun t6=>Aa (Ad Tp A 75 t6) fun t7=>Al (BB Tp A 75) fun t8 At8=>B5 (Bg Tp At8 75 t8 t7) fun At9=>Aa (Ac Tp 75 t8 0) fun t10=>Aa (Ad Tp At9 9 t10) fun t11=>Wc Tp Ak W0 m0 103 [t11] At9 fun t12 At12=>Aa (unA Tp .not t12) fun t13=>Ae t13 (Q (.bool false) At12) (Aa (Ac Tp 75 t8 1) fun t14=>Aa (Ad Tp At12 32 t14) fun t15=>Wc Tp Ak W0 m0 104 [t15] At12 fun t16 At16=>Aa (unA Tp .not t16) fun t17=>Ae t17 (Q (.bool false) At16) (Aa (Af Tp .gtr 3 (.tmp 30) (.const (.int .i64 0)) (d 3) (.int .i64 0)) fun t18=>Ae t18 (Aa (Ac Tp 37 (d 1) 1) fun t19=>Aa (Ad Tp At16 33 t19) fun t20=>Aa (Af Tp .sub 3 (.tmp 35) (.const (.int .i64 1)) (d 3) (.int .i64 1)) fun t21=>Aa (Ag Tp 33 t20 t21) fun t22=>Aa (Ac Tp 75 t22 0) fun t23=>Aa (Ad Tp At16 9 t23) fun t24=>Aa (Ac Tp 75 t8 0) fun t25=>Aa (Ad Tp At16 9 t25) fun t26=>Aa (Af Tp .geq 9 (.tmp 39) (.tmp 41) t24 t26) fun t27=>Ae t27 (Q (.bool false) At16) (AE (T71 2) (T71 2) (S 2 [(d 1),(d 3),t8,(.int .i64 0)] At16))) (AE (T71 2) (T71 2) (S 2 [(d 1),(d 3),t8,(.int .i64 0)] At16))))) (Q (.bool true) A)):=by kernel_rfl
abbrev Ku(x0:Value)(X2:AW)(x10:Value)(x12:Value)(x13:Value)(x14:Value):Prop:=Aa (Ac Tp 84 x0 1) fun t901=>Aa (Ad Tp X2 82 t901) fun t903=>Aa (Ac Tp 84 x0 2) fun t904=>Aa (Ad Tp X2 9 t904) fun t905=>Aa (Ch Tp 134 [(0,(.string ⟨⟨[113]⟩⟩)),(2,t903),(3,t905)]) fun t906=>Wc Tp Ak W0 m0 105 [t906] X2 fun t907 At908=>Aa (unA Tp .not t907) fun t909=>Ae t909 (Q (.bool false) At908) (Aa (Af Tp .add 3 (.tmp 50) (.const (.int .i64 1)) x10 (.int .i64 1)) fun t911=>AE (T71 2) (T71 2) (S 2 [x12,x13,x14,t911] At908))
theorem AeQ(d:Nat→Value)(A:AW):gL W0 m0 S Q 71 92 T71 L71 d 2 A=(Aa (Ac Tp 75 (d 4) 2) fun t0=>Aa (Ad Tp A 73 t0) fun t1=>Aa (AB Tp A 73 t1) fun t2=>Aa (Af Tp .lss 3 (.tmp 45) (.tmp 48) (d 5) t2) fun t3=>Ae t3 (Aa (Ac Tp 75 (d 4) 2) fun t4=>Aa (Ad Tp A 73 t4) fun t5=>Aa (Ag Tp 73 t5 (d 5)) fun t6=>Aa (Ad Tp A 84 t6) fun t7=>Al (BB Tp A 84) fun t8 At8=>B5 (Bg Tp At8 84 t8 t7) fun At9=>Aa (Ac Tp 84 t8 0) fun t10=>Aa (Ad Tp At9 32 t10) fun t11=>Aa (Af Tp .lss 32 (.tmp 58) (.const (.int .u64 1)) t11 (.int .u64 1)) fun t12=>Ae t12 (Q (.bool false) At9) (Aa (Ac Tp 84 t8 0) fun t13=>Aa (Ad Tp At9 32 t13) fun t14=>Aa (Ac Tp 37 (d 1) 0) fun t15=>Aa (Ad Tp At9 32 t15) fun t16=>Aa (Af Tp .geq 32 (.tmp 62) (.tmp 64) t14 t16) fun t17=>Ae t17 (Q (.bool false) At9) (Aa (Af Tp .gtr 3 (.tmp 68) (.const (.int .i64 0)) (d 5) (.int .i64 0)) fun t18=>Ae t18 (Aa (Ac Tp 75 (d 4) 2) fun t19=>Aa (Ad Tp At9 73 t19) fun t20=>Aa (Af Tp .sub 3 (.tmp 73) (.const (.int .i64 1)) (d 5) (.int .i64 1)) fun t21=>Aa (Ag Tp 73 t20 t21) fun t22=>Aa (Ac Tp 84 t22 0) fun t23=>Aa (Ad Tp At9 32 t23) fun t24=>Aa (Ac Tp 84 t8 0) fun t25=>Aa (Ad Tp At9 32 t25) fun t26=>Aa (Af Tp .geq 32 (.tmp 77) (.tmp 79) t24 t26) fun t27=>Ae t27 (Q (.bool false) At9) (Ku W0 m0 S Q t8 At9 (d 5) (d 1) (d 3) (d 4))) (Ku W0 m0 S Q t8 At9 (d 5) (d 1) (d 3) (d 4))))) (Aa (Af Tp .add 3 (.tmp 12) (.const (.int .i64 1)) (d 3) (.int .i64 1)) fun t44=>AE (T71 0) (T71 0) (S 0 [(d 1),t44] A))):=by kernel_rfl
theorem w71:Wf1 71 92 T71 L71:=wf1 (fun _=>by kernel_rfl) (by decide) fun _=>rfl
theorem c71:B9 71 92 T71 L71:=Ce (by decide)
noncomputable def T72:Nat→List Item:=fun i=>match i with
 |0=>[(.code (cd 72 [1,1,1,1,1,0,1,0,0])),(.inLoop (cd 72 [1,1,1,1,1,0,1,0,0])),(.inBlock 0),(.code (cd 72 [1,1,1,1,1,1]))]
 |2=>[(.code (cd 72 [1,1,1,1,1,1,0,1,0,0])),(.inLoop (cd 72 [1,1,1,1,1,1,0,1,0,0])),(.inBlock 2),(.code (cd 72 [1,1,1,1,1,1,1]))]
 |_=>[]
def L72:Nat→List Tmp:=fun i=>match i with
 |0=>[1,8]
 |2=>[1,9]
 |_=>[]
abbrev QN(x0:Value)(x1:Value)(X3:AW)(x13:Value):Prop:=Ae x0 (Aa (Ac Tp 92 x1 3) fun t902=>Aa (Ad Tp X3 46 t902) fun t904=>Wc Tp Ak W0 m0 76 [t904] X3 fun t905 At906=>Aa (Af Tp .neq 3 (.tmp 71) (.const (.int .i64 0)) t905 (.int .i64 0)) fun t907=>Ae t907 (Q (.int .i64 130) At906) (Aa (unA Tp .not x0) fun t908=>Ae t908 (Aa (Ac Tp 92 x1 3) fun t909=>Aa (Ad Tp At906 46 t909) fun t910=>Aa (Ch Tp 46 []) fun t911=>Aa (Af Tp .neq 46 (.tmp 79) (.tmp 80) t910 t911) fun t912=>Ae t912 (Q (.int .i64 130) At906) (Aa (unA Tp .not x13) fun t914=>Ae t914 (Aa (Ac Tp 92 x1 4) fun t915=>Aa (Ad Tp At906 86 t915) fun t916=>Aa (AB Tp At906 86 t916) fun t917=>Aa (Ac Tp 92 x1 5) fun t918=>Aa (Ad Tp At906 87 t918) fun t919=>Aa (AB Tp At906 87 t919) fun t920=>Aa (Af Tp .add 3 (.tmp 90) (.tmp 93) t917 t920) fun t921=>Aa (Af Tp .gtr 3 (.tmp 94) (.const (.int .i64 0)) t921 (.int .i64 0)) fun t922=>Ae t922 (Q (.int .i64 130) At906) (AE (T72 0) (T72 0) (S 0 [x1,(.int .i64 0)] At906))) (AE (T72 0) (T72 0) (S 0 [x1,(.int .i64 0)] At906)))) (Aa (unA Tp .not x13) fun t923=>Ae t923 (Aa (Ac Tp 92 x1 4) fun t924=>Aa (Ad Tp At906 86 t924) fun t925=>Aa (AB Tp At906 86 t925) fun t926=>Aa (Ac Tp 92 x1 5) fun t927=>Aa (Ad Tp At906 87 t927) fun t928=>Aa (AB Tp At906 87 t928) fun t929=>Aa (Af Tp .add 3 (.tmp 90) (.tmp 93) t926 t929) fun t930=>Aa (Af Tp .gtr 3 (.tmp 94) (.const (.int .i64 0)) t930 (.int .i64 0)) fun t931=>Ae t931 (Q (.int .i64 130) At906) (AE (T72 0) (T72 0) (S 0 [x1,(.int .i64 0)] At906))) (AE (T72 0) (T72 0) (S 0 [x1,(.int .i64 0)] At906))))) (Aa (unA Tp .not x0) fun t932=>Ae t932 (Aa (Ac Tp 92 x1 3) fun t933=>Aa (Ad Tp X3 46 t933) fun t934=>Aa (Ch Tp 46 []) fun t935=>Aa (Af Tp .neq 46 (.tmp 79) (.tmp 80) t934 t935) fun t936=>Ae t936 (Q (.int .i64 130) X3) (Aa (unA Tp .not x13) fun t937=>Ae t937 (Aa (Ac Tp 92 x1 4) fun t938=>Aa (Ad Tp X3 86 t938) fun t939=>Aa (AB Tp X3 86 t939) fun t940=>Aa (Ac Tp 92 x1 5) fun t941=>Aa (Ad Tp X3 87 t941) fun t942=>Aa (AB Tp X3 87 t942) fun t943=>Aa (Af Tp .add 3 (.tmp 90) (.tmp 93) t940 t943) fun t944=>Aa (Af Tp .gtr 3 (.tmp 94) (.const (.int .i64 0)) t944 (.int .i64 0)) fun t945=>Ae t945 (Q (.int .i64 130) X3) (AE (T72 0) (T72 0) (S 0 [x1,(.int .i64 0)] X3))) (AE (T72 0) (T72 0) (S 0 [x1,(.int .i64 0)] X3)))) (Aa (unA Tp .not x13) fun t946=>Ae t946 (Aa (Ac Tp 92 x1 4) fun t947=>Aa (Ad Tp X3 86 t947) fun t948=>Aa (AB Tp X3 86 t948) fun t949=>Aa (Ac Tp 92 x1 5) fun t950=>Aa (Ad Tp X3 87 t950) fun t951=>Aa (AB Tp X3 87 t951) fun t952=>Aa (Af Tp .add 3 (.tmp 90) (.tmp 93) t949 t952) fun t953=>Aa (Af Tp .gtr 3 (.tmp 94) (.const (.int .i64 0)) t953 (.int .i64 0)) fun t954=>Ae t954 (Q (.int .i64 130) X3) (AE (T72 0) (T72 0) (S 0 [x1,(.int .i64 0)] X3))) (AE (T72 0) (T72 0) (S 0 [x1,(.int .i64 0)] X3))))
abbrev Yf(x0:Value)(x1:Value)(X3:AW)(x12:Value)(x13:Value):Prop:=Ae x0 (Aa (Ac Tp 92 x1 2) fun t902=>Aa (Ad Tp X3 32 t902) fun t904=>Wc Tp Ak W0 m0 104 [t904] X3 fun t905 At906=>Aa (unA Tp .not t905) fun t907=>Ae t907 (Q (.int .i64 130) At906) (Aa (unA Tp .not x0) fun t908=>Ae t908 (Aa (Ac Tp 92 x1 2) fun t909=>Aa (Ad Tp At906 32 t909) fun t910=>Aa (Af Tp .neq 32 (.tmp 63) (.const (.int .u64 0)) t910 (.int .u64 0)) fun t911=>Ae t911 (Q (.int .i64 130) At906) (QN W0 m0 S Q x12 x1 At906 x13)) (QN W0 m0 S Q x12 x1 At906 x13))) (Aa (unA Tp .not x0) fun t914=>Ae t914 (Aa (Ac Tp 92 x1 2) fun t915=>Aa (Ad Tp X3 32 t915) fun t916=>Aa (Af Tp .neq 32 (.tmp 63) (.const (.int .u64 0)) t916 (.int .u64 0)) fun t917=>Ae t917 (Q (.int .i64 130) X3) (QN W0 m0 S Q x12 x1 X3 x13)) (QN W0 m0 S Q x12 x1 X3 x13))
abbrev Ui(x0:Value)(x2:Value)(X4:AW)(x7:Value)(x8:Value)(x9:Value):Prop:=Aa (unA Tp .not x0) fun t901=>Ae t901 (Aa (Ac Tp 92 x2 1) fun t903=>Aa (Ad Tp X4 9 t903) fun t905=>Aa (Af Tp .neq 9 (.tmp 45) (.const (.string ⟨⟨[]⟩⟩)) t905 (.string ⟨⟨[]⟩⟩)) fun t906=>Ae t906 (Q (.int .i64 130) X4) (Yf W0 m0 S Q x7 x2 X4 x8 x9)) (Yf W0 m0 S Q x7 x2 X4 x8 x9)
theorem e72(a0:Value)(A:AW):gE W0 m0 S Q 72 150 T72 L72 [a0] A=(Al (Bk A (Value.cells a0).toList 92) fun t0 At0=>Aa (Ac Tp 92 t0 0) fun t1=>Aa (Ad Tp At0 5 t1) fun t2=>Wc Tp Ak W0 m0 106 [t2] At0 fun t3 At3=>Aa (Aw t3 0) fun t4=>Aa (Aw t3 1) fun t5=>Aa (Aw t3 2) fun t6=>Aa (Aw t3 3) fun t7=>Aa (Aw t3 4) fun t8=>Aa (unA Tp .not t8) fun t9=>Ae t9 (Q (.int .i64 130) At3) (Aa (Ac Tp 92 t0 4) fun t10=>Aa (Ad Tp At3 86 t10) fun t11=>Aa (AB Tp At3 86 t11) fun t12=>Aa (Af Tp .gtr 3 (.tmp 24) (.const (.int .i64 100)) t12 (.int .i64 100)) fun t13=>Ae t13 (Q (.int .i64 130) At3) (Aa (Ac Tp 92 t0 5) fun t14=>Aa (Ad Tp At3 87 t14) fun t15=>Aa (AB Tp At3 87 t15) fun t16=>Aa (Af Tp .gtr 3 (.tmp 30) (.const (.int .i64 100)) t16 (.int .i64 100)) fun t17=>Ae t17 (Q (.int .i64 130) At3) (Ae t4 (Aa (Ac Tp 92 t0 1) fun t18=>Aa (Ad Tp At3 9 t18) fun t19=>Wc Tp Ak W0 m0 103 [t19] At3 fun t20 At20=>Aa (unA Tp .not t20) fun t21=>Ae t21 (Q (.int .i64 130) At20) (Ui W0 m0 S Q t4 t0 At20 t5 t6 t7)) (Ui W0 m0 S Q t4 t0 At3 t5 t6 t7))))):=by kernel_rfl
theorem AeP(d:Nat→Value)(A:AW):gL W0 m0 S Q 72 150 T72 L72 d 0 A=(Aa (Ac Tp 92 (d 1) 4) fun t0=>Aa (Ad Tp A 86 t0) fun t1=>Aa (AB Tp A 86 t1) fun t2=>Aa (Af Tp .lss 3 (.tmp 98) (.tmp 101) (d 8) t2) fun t3=>Ae t3 (Aa (Ac Tp 92 (d 1) 4) fun t4=>Aa (Ad Tp A 86 t4) fun t5=>Aa (Ag Tp 86 t5 (d 8)) fun t6=>Aa (Ad Tp A 134 t6) fun t7=>Wc Tp Ak W0 m0 105 [t7] A fun t8 At8=>Aa (unA Tp .not t8) fun t9=>Ae t9 (Q (.int .i64 130) At8) (Aa (Ac Tp 92 (d 1) 4) fun t10=>Aa (Ad Tp At8 86 t10) fun t11=>Aa (Ag Tp 86 t11 (d 8)) fun t12=>Aa (Ac Tp 134 t12 1) fun t13=>Aa (Ad Tp At8 32 t13) fun t14=>Aa (Af Tp .eql 32 (.tmp 118) (.const (.int .u64 0)) t14 (.int .u64 0)) fun t15=>Aa (Ac Tp 92 (d 1) 0) fun t16=>Aa (Ad Tp At8 5 t16) fun t17=>Aa (Af Tp .eql 5 (.tmp 121) (.const (.int .u8 4)) t17 (.int .u8 4)) fun t18=>Aa (Af Tp .neq 4 (.tmp 119) (.tmp 122) t15 t18) fun t19=>Ae t19 (Q (.int .i64 130) At8) (Aa (Af Tp .add 3 (.tmp 103) (.const (.int .i64 1)) (d 8) (.int .i64 1)) fun t20=>AE (T72 0) (T72 0) (S 0 [(d 1),t20] At8)))) (AE (T72 2) (T72 2) (S 2 [(d 1),(.int .i64 0)] A))):=by kernel_rfl
theorem AeO(d:Nat→Value)(A:AW):gL W0 m0 S Q 72 150 T72 L72 d 2 A=(Aa (Ac Tp 92 (d 1) 5) fun t0=>Aa (Ad Tp A 87 t0) fun t1=>Aa (AB Tp A 87 t1) fun t2=>Aa (Af Tp .lss 3 (.tmp 125) (.tmp 128) (d 9) t2) fun t3=>Ae t3 (Aa (Ac Tp 92 (d 1) 5) fun t4=>Aa (Ad Tp A 87 t4) fun t5=>Aa (Ag Tp 87 t5 (d 9)) fun t6=>Aa (Ac Tp 120 t6 0) fun t7=>Aa (Ad Tp A 9 t7) fun t8=>Wc Tp Ak W0 m0 103 [t8] A fun t9 At9=>Aa (unA Tp .not t9) fun t10=>Ae t10 (Q (.int .i64 130) At9) (Aa (Ac Tp 92 (d 1) 5) fun t11=>Aa (Ad Tp At9 87 t11) fun t12=>Aa (Ag Tp 87 t12 (d 9)) fun t13=>Aa (Ac Tp 120 t13 1) fun t14=>Aa (Ad Tp At9 32 t14) fun t15=>Wc Tp Ak W0 m0 104 [t15] At9 fun t16 At16=>Aa (unA Tp .not t16) fun t17=>Ae t17 (Q (.int .i64 130) At16) (Aa (Af Tp .add 3 (.tmp 130) (.const (.int .i64 1)) (d 9) (.int .i64 1)) fun t18=>AE (T72 2) (T72 2) (S 2 [(d 1),t18] At16)))) (Q (.int .i64 0) A)):=by kernel_rfl
theorem w72:Wf1 72 150 T72 L72:=wf1 (fun _=>by kernel_rfl) (by decide) fun _=>rfl
theorem c72:B9 72 150 T72 L72:=Ce (by decide)
noncomputable def T73:Nat→List Item:=fun i=>match i with
 |0=>[(.code (cd 73 [1,0,1,0,0])),(.inLoop (cd 73 [1,0,1,0,0])),(.inBlock 0),(.code (cd 73 [1,1]))]
 |_=>[]
def L73:Nat→List Tmp:=fun i=>match i with
 |0=>[1,2,5]
 |_=>[]
theorem e73(a0 a1:Value)(A:AW):gE W0 m0 S Q 73 22 T73 L73 [a0,a1] A=(Al (Bk A (Value.cells a0).toList 37) fun t0 At0=>AE (T73 0) (T73 0) (S 0 [a1,t0,(.int .i64 0)] At0)):=by kernel_rfl
theorem AeN(d:Nat→Value)(A:AW):gL W0 m0 S Q 73 22 T73 L73 d 0 A=(Aa (Ac Tp 37 (d 2) 1) fun t0=>Aa (Ad Tp A 33 t0) fun t1=>Aa (AB Tp A 33 t1) fun t2=>Aa (Af Tp .lss 3 (.tmp 6) (.tmp 9) (d 5) t2) fun t3=>Ae t3 (Aa (Ac Tp 37 (d 2) 1) fun t4=>Aa (Ad Tp A 33 t4) fun t5=>Aa (Ag Tp 33 t5 (d 5)) fun t6=>Aa (Ac Tp 75 t6 0) fun t7=>Aa (Ad Tp A 9 t7) fun t8=>Aa (Af Tp .eql 9 (.tmp 18) (.tmp 19) t8 (d 1)) fun t9=>Ae t9 (Q (d 5) A) (Aa (Af Tp .add 3 (.tmp 11) (.const (.int .i64 1)) (d 5) (.int .i64 1)) fun t10=>AE (T73 0) (T73 0) (S 0 [(d 1),(d 2),t10] A))) (Q (.int .i64 (-1)) A)):=by kernel_rfl
theorem w73:Wf2 73 22 T73 L73:=wf2 (fun _ _=>by kernel_rfl) (by decide) fun _ _=>rfl
theorem c73:B9 73 22 T73 L73:=Ce (by decide)
noncomputable def T74:Nat→List Item:=fun i=>match i with
 |0=>[(.code (cd 74 [1,1,1,0,1,0,0])),(.inLoop (cd 74 [1,1,1,0,1,0,0])),(.inBlock 0),(.code (cd 74 [1,1,1,1]))]
 |_=>[]
def L74:Nat→List Tmp:=fun i=>match i with
 |0=>[2,3,5,6]
 |_=>[]
theorem e74(a0 a1:Value)(A:AW):gE W0 m0 S Q 74 38 T74 L74 [a0,a1] A=(Al (Bk A (Value.cells a0).toList 37) fun t0 At0=>Al (Bk At0 (Value.cells a1).toList 120) fun t1 At1=>Aa (Ad Tp At1 37 t0) fun t2=>Aa (Ac Tp 120 t1 0) fun t3=>Aa (Ad Tp At1 9 t3) fun t4=>Wc Tp Ak W0 m0 73 [t2,t4] At1 fun t5 At5=>Aa (Af Tp .lss 3 (.tmp 11) (.const (.int .i64 0)) t5 (.int .i64 0)) fun t6=>Ae t6 (Q (.int .i64 (-1)) At5) (AE (T74 0) (T74 0) (S 0 [t0,t1,t5,(.int .i64 0)] At5))):=by kernel_rfl
theorem AeM(d:Nat→Value)(A:AW):gL W0 m0 S Q 74 38 T74 L74 d 0 A=(Aa (Ac Tp 37 (d 2) 1) fun t0=>Aa (Ad Tp A 33 t0) fun t1=>Aa (Ag Tp 33 t1 (d 5)) fun t2=>Aa (Ac Tp 75 t2 2) fun t3=>Aa (Ad Tp A 73 t3) fun t4=>Aa (AB Tp A 73 t4) fun t5=>Aa (Af Tp .lss 3 (.tmp 13) (.tmp 20) (d 6) t5) fun t6=>Ae t6 (Aa (Ac Tp 37 (d 2) 1) fun t7=>Aa (Ad Tp A 33 t7) fun t8=>Aa (Ag Tp 33 t8 (d 5)) fun t9=>Aa (Ac Tp 75 t9 2) fun t10=>Aa (Ad Tp A 73 t10) fun t11=>Aa (Ag Tp 73 t11 (d 6)) fun t12=>Aa (Ac Tp 84 t12 0) fun t13=>Aa (Ad Tp A 32 t13) fun t14=>Aa (Ac Tp 120 (d 3) 1) fun t15=>Aa (Ad Tp A 32 t15) fun t16=>Aa (Af Tp .eql 32 (.tmp 33) (.tmp 35) t14 t16) fun t17=>Ae t17 (Q (d 6) A) (Aa (Af Tp .add 3 (.tmp 22) (.const (.int .i64 1)) (d 6) (.int .i64 1)) fun t18=>AE (T74 0) (T74 0) (S 0 [(d 2),(d 3),(d 5),t18] A))) (Q (.int .i64 (-1)) A)):=by kernel_rfl
theorem w74:Wf2 74 38 T74 L74:=wf2 (fun _ _=>by kernel_rfl) (by decide) fun _ _=>rfl
theorem c74:B9 74 38 T74 L74:=Ce (by decide)
noncomputable def T75:Nat→List Item:=fun i=>match i with
 |0=>[(.code (cd 75 [1,1,0,1,0,0])),(.inLoop (cd 75 [1,1,0,1,0,0])),(.inBlock 0),(.code (cd 75 [1,1,1]))]
 |2=>[(.code (cd 75 [1,1,0,1,0,0,1,0,0,1,0,0])),(.inLoop (cd 75 [1,1,0,1,0,0,1,0,0,1,0,0])),(.inBlock 2),(.inBlock 1),(.code (cd 75 [1,1,0,1,0,0,1,1])),(.inLoop (cd 75 [1,1,0,1,0,0])),(.inBlock 0),(.code (cd 75 [1,1,1]))]
 |_=>[]
def L75:Nat→List Tmp:=fun i=>match i with
 |0=>[2,3,5,6]
 |2=>[2,3,5,6,7]
 |_=>[]
theorem e75(a0 a1:Value)(A:AW):gE W0 m0 S Q 75 40 T75 L75 [a0,a1] A=(Al (Bk A (Value.cells a0).toList 37) fun t0 At0=>Al (Bk At0 (Value.cells a1).toList 120) fun t1 At1=>AE (T75 0) (T75 0) (S 0 [t0,t1,(.int .i64 0),(.int .i64 0)] At1)):=by kernel_rfl
theorem AeL(d:Nat→Value)(A:AW):gL W0 m0 S Q 75 40 T75 L75 d 0 A=(Aa (Ac Tp 37 (d 2) 2) fun t0=>Aa (Ad Tp A 34 t0) fun t1=>Aa (AB Tp A 34 t1) fun t2=>Aa (Af Tp .lss 3 (.tmp 8) (.tmp 11) (d 6) t2) fun t3=>Ae t3 (AE (T75 2) (T75 2) (S 2 [(d 2),(d 3),(d 5),(d 6),(.int .i64 0)] A)) (Q (d 5) A)):=by kernel_rfl
theorem AeK(d:Nat→Value)(A:AW):gL W0 m0 S Q 75 40 T75 L75 d 2 A=(Aa (Ac Tp 37 (d 2) 2) fun t0=>Aa (Ad Tp A 34 t0) fun t1=>Aa (Ag Tp 34 t1 (d 6)) fun t2=>Aa (Ac Tp 89 t2 2) fun t3=>Aa (Ad Tp A 87 t3) fun t4=>Aa (AB Tp A 87 t4) fun t5=>Aa (Af Tp .lss 3 (.tmp 15) (.tmp 22) (d 7) t5) fun t6=>Ae t6 (Aa (Ac Tp 37 (d 2) 2) fun t7=>Aa (Ad Tp A 34 t7) fun t8=>Aa (Ag Tp 34 t8 (d 6)) fun t9=>Aa (Ac Tp 89 t9 2) fun t10=>Aa (Ad Tp A 87 t10) fun t11=>Aa (Ag Tp 87 t11 (d 7)) fun t12=>Aa (Ad Tp A 120 t12) fun t13=>Aa (Ad Tp A 120 (d 3)) fun t14=>Aa (Af Tp .eql 120 (.tmp 34) (.tmp 35) t13 t14) fun t15=>Ae t15 (Aa (Af Tp .add 3 (.tmp 37) (.const (.int .i64 1)) (d 5) (.int .i64 1)) fun t16=>Aa (Af Tp .add 3 (.tmp 24) (.const (.int .i64 1)) (d 7) (.int .i64 1)) fun t17=>AE (T75 2) (T75 2) (S 2 [(d 2),(d 3),t16,(d 6),t17] A)) (Aa (Af Tp .add 3 (.tmp 24) (.const (.int .i64 1)) (d 7) (.int .i64 1)) fun t18=>AE (T75 2) (T75 2) (S 2 [(d 2),(d 3),(d 5),(d 6),t18] A))) (Aa (Af Tp .add 3 (.tmp 13) (.const (.int .i64 1)) (d 6) (.int .i64 1)) fun t19=>AE (T75 0) (T75 0) (S 0 [(d 2),(d 3),(d 5),t19] A))):=by kernel_rfl
theorem w75:Wf2 75 40 T75 L75:=wf2 (fun _ _=>by kernel_rfl) (by decide) fun _ _=>rfl
theorem c75:B9 75 40 T75 L75:=Ce (by decide)
theorem e76(a0:Value)(A:AW):gE W0 m0 S Q 76 19 Tz Lz [a0] A=(Al (Bk A (Value.cells a0).toList 46) fun t0 At0=>Aa (Ac Tp 46 t0 1) fun t1=>Aa (Ad Tp At0 9 t1) fun t2=>Aa (AB Tp At0 9 t2) fun t3=>Aa (Af Tp .lss 3 (.tmp 5) (.const (.int .i64 1)) t3 (.int .i64 1)) fun t4=>Ae t4 (Q (.int .i64 40) At0) (Aa (Ac Tp 46 t0 1) fun t5=>Aa (Ad Tp At0 9 t5) fun t6=>Aa (AB Tp At0 9 t6) fun t7=>Aa (Af Tp .gtr 3 (.tmp 10) (.const (.int .i64 64)) t7 (.int .i64 64)) fun t8=>Ae t8 (Q (.int .i64 40) At0) (Aa (Ac Tp 46 t0 2) fun t9=>Aa (Ad Tp At0 9 t9) fun t10=>Aa (AB Tp At0 9 t10) fun t11=>Aa (Af Tp .gtr 3 (.tmp 16) (.const (.int .i64 64)) t11 (.int .i64 64)) fun t12=>Ae t12 (Q (.int .i64 40) At0) (Q (.int .i64 0) At0)))):=by kernel_rfl
theorem w76:Wf1 76 19 Tz Lz:=wf1 (fun _=>by kernel_rfl) (by decide) fun _=>rfl
noncomputable def T77:Nat→List Item:=fun i=>match i with
 |0=>[(.code (cd 77 [1,0,1,0,0])),(.inLoop (cd 77 [1,0,1,0,0])),(.inBlock 0),(.code (cd 77 [1,1]))]
 |2=>[(.code (cd 77 [1,0,1,0,0,1,0,0,1,1,1,0,0])),(.inLoop (cd 77 [1,0,1,0,0,1,0,0,1,1,1,0,0])),(.inBlock 2),(.inBlock 1),(.code (cd 77 [1,0,1,0,0,1,1])),(.inLoop (cd 77 [1,0,1,0,0])),(.inBlock 0),(.code (cd 77 [1,1]))]
 |_=>[]
def L77:Nat→List Tmp:=fun i=>match i with
 |0=>[0,3]
 |2=>[0,3,4]
 |_=>[]
theorem e77(a0:Value)(A:AW):gE W0 m0 S Q 77 103 T77 L77 [a0] A=(AE (T77 0) (T77 0) (S 0 [a0,(.int .i64 0)] A)):=by kernel_rfl
theorem AeJ(d:Nat→Value)(A:AW):gL W0 m0 S Q 77 103 T77 L77 d 0 A=(Aa (AB Tp A 39 (d 0)) fun t0=>Aa (Af Tp .lss 3 (.tmp 5) (.tmp 7) (d 3) t0) fun t1=>Ae t1 (Aa (Ag Tp 39 (d 0) (d 3)) fun t2=>Aa (Ac Tp 129 t2 0) fun t3=>Aa (Ad Tp A 32 t3) fun t4=>Aa (Af Tp .eql 32 (.tmp 15) (.const (.int .u64 0)) t4 (.int .u64 0)) fun t5=>Ae t5 (Q (.int .i64 180) A) (Aa (Ag Tp 39 (d 0) (d 3)) fun t6=>Aa (Ac Tp 129 t6 1) fun t7=>Aa (Ad Tp A 46 t7) fun t8=>Wc Tp Ak W0 m0 76 [t8] A fun t9 At9=>Aa (Af Tp .neq 3 (.tmp 23) (.const (.int .i64 0)) t9 (.int .i64 0)) fun t10=>Ae t10 (Q (.int .i64 180) At9) (Aa (Af Tp .gtr 3 (.tmp 26) (.const (.int .i64 0)) (d 3) (.int .i64 0)) fun t11=>Ae t11 (Aa (Af Tp .sub 3 (.tmp 30) (.const (.int .i64 1)) (d 3) (.int .i64 1)) fun t12=>Aa (Ag Tp 39 (d 0) t12) fun t13=>Aa (Ac Tp 129 t13 0) fun t14=>Aa (Ad Tp At9 32 t14) fun t15=>Aa (Ag Tp 39 (d 0) (d 3)) fun t16=>Aa (Ac Tp 129 t16 0) fun t17=>Aa (Ad Tp At9 32 t17) fun t18=>Aa (Af Tp .gtr 32 (.tmp 34) (.tmp 39) t15 t18) fun t19=>Ae t19 (Q (.int .i64 180) At9) (Aa (Af Tp .sub 3 (.tmp 43) (.const (.int .i64 1)) (d 3) (.int .i64 1)) fun t20=>Aa (Ag Tp 39 (d 0) t20) fun t21=>Aa (Ac Tp 129 t21 0) fun t22=>Aa (Ad Tp At9 32 t22) fun t23=>Aa (Ag Tp 39 (d 0) (d 3)) fun t24=>Aa (Ac Tp 129 t24 0) fun t25=>Aa (Ad Tp At9 32 t25) fun t26=>Aa (Af Tp .eql 32 (.tmp 47) (.tmp 52) t23 t26) fun t27=>Ae t27 (Aa (Af Tp .sub 3 (.tmp 56) (.const (.int .i64 1)) (d 3) (.int .i64 1)) fun t28=>Aa (Ag Tp 39 (d 0) t28) fun t29=>Aa (Ac Tp 129 t29 1) fun t30=>Aa (Ad Tp At9 46 t30) fun t31=>Aa (Ag Tp 39 (d 0) (d 3)) fun t32=>Aa (Ac Tp 129 t32 1) fun t33=>Aa (Ad Tp At9 46 t33) fun t34=>Wc Tp Ak W0 m0 59 [t31,t34] At9 fun t35 At35=>Aa (Af Tp .geq 3 (.tmp 66) (.const (.int .i64 0)) t35 (.int .i64 0)) fun t36=>Ae t36 (Q (.int .i64 180) At35) (AE (T77 2) (T77 2) (S 2 [(d 0),(d 3),(.int .i64 0)] At35))) (AE (T77 2) (T77 2) (S 2 [(d 0),(d 3),(.int .i64 0)] At9)))) (AE (T77 2) (T77 2) (S 2 [(d 0),(d 3),(.int .i64 0)] At9))))) (Q (.int .i64 0) A)):=by kernel_rfl
abbrev Ir(A:AW)(x0:Value)(x2:Value)(x3:Value):Prop:=Aa (Af Tp .add 3 (.tmp 74) (.const (.int .i64 1)) x0 (.int .i64 1)) fun t901=>AE (T77 2) (T77 2) (S 2 [x2,x3,t901] A)
theorem AeI(d:Nat→Value)(A:AW):gL W0 m0 S Q 77 103 T77 L77 d 2 A=(Aa (Af Tp .lss 3 (.tmp 71) (.tmp 72) (d 4) (d 3)) fun t0=>Ae t0 (Aa (Ag Tp 39 (d 0) (d 4)) fun t1=>Aa (Ac Tp 129 t1 0) fun t2=>Aa (Ad Tp A 32 t2) fun t3=>Aa (Ag Tp 39 (d 0) (d 3)) fun t4=>Aa (Ac Tp 129 t4 0) fun t5=>Aa (Ad Tp A 32 t5) fun t6=>Aa (Af Tp .eql 32 (.tmp 80) (.tmp 85) t3 t6) fun t7=>Ae t7 (Aa (Ag Tp 39 (d 0) (d 4)) fun t8=>Aa (Ac Tp 129 t8 2) fun t9=>Aa (Ad Tp A 4 t9) fun t10=>Aa (unA Tp .not t10) fun t11=>Ae t11 (Aa (Ag Tp 39 (d 0) (d 3)) fun t12=>Aa (Ac Tp 129 t12 2) fun t13=>Aa (Ad Tp A 4 t13) fun t14=>Aa (unA Tp .not t14) fun t15=>Ae t15 (Q (.int .i64 180) A) (Ir S A (d 4) (d 0) (d 3))) (Ir S A (d 4) (d 0) (d 3))) (Ir S A (d 4) (d 0) (d 3))) (Aa (Af Tp .add 3 (.tmp 9) (.const (.int .i64 1)) (d 3) (.int .i64 1)) fun t19=>AE (T77 0) (T77 0) (S 0 [(d 0),t19] A))):=by kernel_rfl
theorem w77:Wf1 77 103 T77 L77:=wf1 (fun _=>by kernel_rfl) (by decide) fun _=>rfl
theorem c77:B9 77 103 T77 L77:=Ce (by decide)
noncomputable def T78:Nat→List Item:=fun i=>match i with
 |0=>[(.code (cd 78 [1,0,1,0,0])),(.inLoop (cd 78 [1,0,1,0,0])),(.inBlock 0),(.code (cd 78 [1,1]))]
 |_=>[]
def L78:Nat→List Tmp:=fun i=>match i with
 |0=>[2,3,5]
 |_=>[]
theorem e78(a0 a1:Value)(A:AW):gE W0 m0 S Q 78 22 T78 L78 [a0,a1] A=(Al (Bk A (Value.cells a0).toList 41) fun t0 At0=>Al (Bk At0 (Value.cells a1).toList 46) fun t1 At1=>AE (T78 0) (T78 0) (S 0 [t0,t1,(.int .i64 0)] At1)):=by kernel_rfl
theorem AeH(d:Nat→Value)(A:AW):gL W0 m0 S Q 78 22 T78 L78 d 0 A=(Aa (Ac Tp 41 (d 2) 0) fun t0=>Aa (Ad Tp A 38 t0) fun t1=>Aa (AB Tp A 38 t1) fun t2=>Aa (Af Tp .lss 3 (.tmp 6) (.tmp 9) (d 5) t2) fun t3=>Ae t3 (Aa (Ac Tp 41 (d 2) 0) fun t4=>Aa (Ad Tp A 38 t4) fun t5=>Aa (Ag Tp 38 t5 (d 5)) fun t6=>Aa (Ac Tp 100 t6 0) fun t7=>Aa (Ad Tp A 46 t7) fun t8=>Aa (Ad Tp A 46 (d 3)) fun t9=>Aa (Af Tp .eql 46 (.tmp 18) (.tmp 19) t8 t9) fun t10=>Ae t10 (Q (d 5) A) (Aa (Af Tp .add 3 (.tmp 11) (.const (.int .i64 1)) (d 5) (.int .i64 1)) fun t11=>AE (T78 0) (T78 0) (S 0 [(d 2),(d 3),t11] A))) (Q (.int .i64 (-1)) A)):=by kernel_rfl
theorem w78:Wf2 78 22 T78 L78:=wf2 (fun _ _=>by kernel_rfl) (by decide) fun _ _=>rfl
theorem c78:B9 78 22 T78 L78:=Ce (by decide)
noncomputable def T89:Nat→List Item:=fun i=>match i with
 |0=>[(.code (cd 89 [1,1,0,1,0,0])),(.inLoop (cd 89 [1,1,0,1,0,0])),(.inBlock 0),(.code (cd 89 [1,1,1]))]
 |_=>[]
def L89:Nat→List Tmp:=fun i=>match i with
 |0=>[0,12,13]
 |_=>[]
theorem e89(a0:Value)(A:AW):gE W0 m0 S Q 89 27 T89 L89 [a0] A=(Aa (Af Tp .eql 9 (.tmp 4) (.const (.string ⟨⟨[]⟩⟩)) a0 (.string ⟨⟨[]⟩⟩)) fun t0=>Ae t0 (Q (.bool false) A) (Aa (AB Tp A 9 a0) fun t1=>Aa (Af Tp .gtr 3 (.tmp 8) (.const (.int .i64 40)) t1 (.int .i64 40)) fun t2=>Ae t2 (Q (.bool false) A) (Aa (AB Tp A 9 a0) fun t3=>AE (T89 0) (T89 0) (S 0 [a0,t3,(.int .i64 0)] A)))):=by kernel_rfl
theorem AeC(d:Nat→Value)(A:AW):gL W0 m0 S Q 89 27 T89 L89 d 0 A=(Aa (Af Tp .lss 3 (.tmp 13) (.tmp 12) (d 13) (d 12)) fun t0=>Ae t0 (Aa (BU Tp 9 (d 0) (d 13)) fun t1=>Aa (Af Tp .lss 5 (.tmp 18) (.const (.int .u8 33)) t1 (.int .u8 33)) fun t2=>Ae t2 (Q (.bool false) A) (Aa (BU Tp 9 (d 0) (d 13)) fun t3=>Aa (Af Tp .gtr 5 (.tmp 23) (.const (.int .u8 126)) t3 (.int .u8 126)) fun t4=>Ae t4 (Q (.bool false) A) (Aa (Af Tp .add 3 (.tmp 13) (.const (.int .i64 1)) (d 13) (.int .i64 1)) fun t5=>AE (T89 0) (T89 0) (S 0 [(d 0),(d 12),t5] A)))) (Q (.bool true) A)):=by kernel_rfl
theorem w89:Wf1 89 27 T89 L89:=wf1 (fun _=>by kernel_rfl) (by decide) fun _=>rfl
theorem c89:B9 89 27 T89 L89:=Ce (by decide)
abbrev LG(x0:Value)(x3:Value)(X5:AW):Prop:=Aa (Af Tp .and 3 (.tmp 48) (.const (.int .i64 4)) x0 (.int .i64 4)) fun t901=>Aa (Af Tp .neq 3 (.tmp 49) (.const (.int .i64 0)) t901 (.int .i64 0)) fun t902=>Ae t902 (Aa (Ac Tp 92 x3 3) fun t904=>Aa (Ad Tp X5 46 t904) fun t906=>Wc Tp Ak W0 m0 67 [t906] X5 fun t907 At908=>Aa (Af Tp .neq 94 (.tmp 54) (.const (.int .i64 0)) t907 (.int .i64 0)) fun t909=>Ae t909 (Q (.int .i64 130) At908) (Aa (Af Tp .and 3 (.tmp 58) (.const (.int .i64 4)) x0 (.int .i64 4)) fun t910=>Aa (Af Tp .eql 3 (.tmp 59) (.const (.int .i64 0)) t910 (.int .i64 0)) fun t911=>Ae t911 (Aa (Ac Tp 92 x3 3) fun t912=>Aa (Ad Tp At908 46 t912) fun t913=>Aa (Ch Tp 46 []) fun t914=>Aa (Af Tp .neq 46 (.tmp 63) (.tmp 64) t913 t914) fun t915=>Ae t915 (Q (.int .i64 130) At908) (Aa (Af Tp .and 3 (.tmp 68) (.const (.int .i64 8)) x0 (.int .i64 8)) fun t916=>Aa (Af Tp .eql 3 (.tmp 69) (.const (.int .i64 0)) t916 (.int .i64 0)) fun t917=>Ae t917 (Aa (Ac Tp 92 x3 4) fun t918=>Aa (Ad Tp At908 86 t918) fun t919=>Aa (AB Tp At908 86 t919) fun t920=>Aa (Af Tp .gtr 3 (.tmp 74) (.const (.int .i64 0)) t920 (.int .i64 0)) fun t921=>Ae t921 (Q (.int .i64 130) At908) (Aa (Ac Tp 92 x3 5) fun t922=>Aa (Ad Tp At908 87 t922) fun t923=>Aa (AB Tp At908 87 t923) fun t924=>Aa (Af Tp .gtr 3 (.tmp 79) (.const (.int .i64 0)) t924 (.int .i64 0)) fun t925=>Ae t925 (Q (.int .i64 130) At908) (Aa (Ad Tp At908 92 x3) fun t926=>Wc Tp Ak W0 m0 120 [t926] At908 fun t927 At928=>Aa (unA Tp .not t927) fun t929=>Ae t929 (Q (.int .i64 130) At928) (Q (.int .i64 0) At928)))) (Aa (Ad Tp At908 92 x3) fun t930=>Wc Tp Ak W0 m0 120 [t930] At908 fun t931 At932=>Aa (unA Tp .not t931) fun t933=>Ae t933 (Q (.int .i64 130) At932) (Q (.int .i64 0) At932)))) (Aa (Af Tp .and 3 (.tmp 68) (.const (.int .i64 8)) x0 (.int .i64 8)) fun t934=>Aa (Af Tp .eql 3 (.tmp 69) (.const (.int .i64 0)) t934 (.int .i64 0)) fun t935=>Ae t935 (Aa (Ac Tp 92 x3 4) fun t936=>Aa (Ad Tp At908 86 t936) fun t937=>Aa (AB Tp At908 86 t937) fun t938=>Aa (Af Tp .gtr 3 (.tmp 74) (.const (.int .i64 0)) t938 (.int .i64 0)) fun t939=>Ae t939 (Q (.int .i64 130) At908) (Aa (Ac Tp 92 x3 5) fun t940=>Aa (Ad Tp At908 87 t940) fun t941=>Aa (AB Tp At908 87 t941) fun t942=>Aa (Af Tp .gtr 3 (.tmp 79) (.const (.int .i64 0)) t942 (.int .i64 0)) fun t943=>Ae t943 (Q (.int .i64 130) At908) (Aa (Ad Tp At908 92 x3) fun t944=>Wc Tp Ak W0 m0 120 [t944] At908 fun t945 At946=>Aa (unA Tp .not t945) fun t947=>Ae t947 (Q (.int .i64 130) At946) (Q (.int .i64 0) At946)))) (Aa (Ad Tp At908 92 x3) fun t948=>Wc Tp Ak W0 m0 120 [t948] At908 fun t949 At950=>Aa (unA Tp .not t949) fun t951=>Ae t951 (Q (.int .i64 130) At950) (Q (.int .i64 0) At950))))) (Aa (Af Tp .and 3 (.tmp 58) (.const (.int .i64 4)) x0 (.int .i64 4)) fun t952=>Aa (Af Tp .eql 3 (.tmp 59) (.const (.int .i64 0)) t952 (.int .i64 0)) fun t953=>Ae t953 (Aa (Ac Tp 92 x3 3) fun t954=>Aa (Ad Tp X5 46 t954) fun t955=>Aa (Ch Tp 46 []) fun t956=>Aa (Af Tp .neq 46 (.tmp 63) (.tmp 64) t955 t956) fun t957=>Ae t957 (Q (.int .i64 130) X5) (Aa (Af Tp .and 3 (.tmp 68) (.const (.int .i64 8)) x0 (.int .i64 8)) fun t958=>Aa (Af Tp .eql 3 (.tmp 69) (.const (.int .i64 0)) t958 (.int .i64 0)) fun t959=>Ae t959 (Aa (Ac Tp 92 x3 4) fun t960=>Aa (Ad Tp X5 86 t960) fun t961=>Aa (AB Tp X5 86 t961) fun t962=>Aa (Af Tp .gtr 3 (.tmp 74) (.const (.int .i64 0)) t962 (.int .i64 0)) fun t963=>Ae t963 (Q (.int .i64 130) X5) (Aa (Ac Tp 92 x3 5) fun t964=>Aa (Ad Tp X5 87 t964) fun t965=>Aa (AB Tp X5 87 t965) fun t966=>Aa (Af Tp .gtr 3 (.tmp 79) (.const (.int .i64 0)) t966 (.int .i64 0)) fun t967=>Ae t967 (Q (.int .i64 130) X5) (Aa (Ad Tp X5 92 x3) fun t968=>Wc Tp Ak W0 m0 120 [t968] X5 fun t969 At970=>Aa (unA Tp .not t969) fun t971=>Ae t971 (Q (.int .i64 130) At970) (Q (.int .i64 0) At970)))) (Aa (Ad Tp X5 92 x3) fun t972=>Wc Tp Ak W0 m0 120 [t972] X5 fun t973 At974=>Aa (unA Tp .not t973) fun t975=>Ae t975 (Q (.int .i64 130) At974) (Q (.int .i64 0) At974)))) (Aa (Af Tp .and 3 (.tmp 68) (.const (.int .i64 8)) x0 (.int .i64 8)) fun t976=>Aa (Af Tp .eql 3 (.tmp 69) (.const (.int .i64 0)) t976 (.int .i64 0)) fun t977=>Ae t977 (Aa (Ac Tp 92 x3 4) fun t978=>Aa (Ad Tp X5 86 t978) fun t979=>Aa (AB Tp X5 86 t979) fun t980=>Aa (Af Tp .gtr 3 (.tmp 74) (.const (.int .i64 0)) t980 (.int .i64 0)) fun t981=>Ae t981 (Q (.int .i64 130) X5) (Aa (Ac Tp 92 x3 5) fun t982=>Aa (Ad Tp X5 87 t982) fun t983=>Aa (AB Tp X5 87 t983) fun t984=>Aa (Af Tp .gtr 3 (.tmp 79) (.const (.int .i64 0)) t984 (.int .i64 0)) fun t985=>Ae t985 (Q (.int .i64 130) X5) (Aa (Ad Tp X5 92 x3) fun t986=>Wc Tp Ak W0 m0 120 [t986] X5 fun t987 At988=>Aa (unA Tp .not t987) fun t989=>Ae t989 (Q (.int .i64 130) At988) (Q (.int .i64 0) At988)))) (Aa (Ad Tp X5 92 x3) fun t990=>Wc Tp Ak W0 m0 120 [t990] X5 fun t991 At992=>Aa (unA Tp .not t991) fun t993=>Ae t993 (Q (.int .i64 130) At992) (Q (.int .i64 0) At992))))
abbrev QM(x0:Value)(x3:Value)(X5:AW):Prop:=Aa (Af Tp .and 3 (.tmp 29) (.const (.int .i64 2)) x0 (.int .i64 2)) fun t901=>Aa (Af Tp .neq 3 (.tmp 30) (.const (.int .i64 0)) t901 (.int .i64 0)) fun t902=>Ae t902 (Aa (Ac Tp 92 x3 2) fun t904=>Aa (Ad Tp X5 32 t904) fun t906=>Wc Tp Ak W0 m0 119 [t906] X5 fun t907 At908=>Aa (unA Tp .not t907) fun t909=>Ae t909 (Q (.int .i64 130) At908) (Aa (Af Tp .and 3 (.tmp 39) (.const (.int .i64 2)) x0 (.int .i64 2)) fun t910=>Aa (Af Tp .eql 3 (.tmp 40) (.const (.int .i64 0)) t910 (.int .i64 0)) fun t911=>Ae t911 (Aa (Ac Tp 92 x3 2) fun t912=>Aa (Ad Tp At908 32 t912) fun t913=>Aa (Af Tp .neq 32 (.tmp 44) (.const (.int .u64 0)) t913 (.int .u64 0)) fun t914=>Ae t914 (Q (.int .i64 130) At908) (LG W0 m0 Q x0 x3 At908)) (LG W0 m0 Q x0 x3 At908))) (Aa (Af Tp .and 3 (.tmp 39) (.const (.int .i64 2)) x0 (.int .i64 2)) fun t915=>Aa (Af Tp .eql 3 (.tmp 40) (.const (.int .i64 0)) t915 (.int .i64 0)) fun t916=>Ae t916 (Aa (Ac Tp 92 x3 2) fun t917=>Aa (Ad Tp X5 32 t917) fun t918=>Aa (Af Tp .neq 32 (.tmp 44) (.const (.int .u64 0)) t918 (.int .u64 0)) fun t919=>Ae t919 (Q (.int .i64 130) X5) (LG W0 m0 Q x0 x3 X5)) (LG W0 m0 Q x0 x3 X5))
abbrev QL(x0:Value)(x3:Value)(X5:AW):Prop:=Aa (Af Tp .and 3 (.tmp 20) (.const (.int .i64 1)) x0 (.int .i64 1)) fun t901=>Aa (Af Tp .eql 3 (.tmp 21) (.const (.int .i64 0)) t901 (.int .i64 0)) fun t902=>Ae t902 (Aa (Ac Tp 92 x3 1) fun t904=>Aa (Ad Tp X5 9 t904) fun t906=>Aa (Af Tp .neq 9 (.tmp 25) (.const (.string ⟨⟨[]⟩⟩)) t906 (.string ⟨⟨[]⟩⟩)) fun t907=>Ae t907 (Q (.int .i64 130) X5) (QM W0 m0 Q x0 x3 X5)) (QM W0 m0 Q x0 x3 X5)
theorem e90(a0:Value)(A:AW):gE W0 m0 S Q 90 86 Tz Lz [a0] A=(Al (Bk A (Value.cells a0).toList 92) fun t0 At0=>Aa (Ac Tp 92 t0 0) fun t1=>Aa (Ad Tp At0 5 t1) fun t2=>Wc Tp Ak W0 m0 118 [t2] At0 fun t3 At3=>Aa (Af Tp .eql 3 (.tmp 8) (.const (.int .i64 0)) t3 (.int .i64 0)) fun t4=>Ae t4 (Q (.int .i64 130) At3) (Aa (Af Tp .and 3 (.tmp 10) (.const (.int .i64 1)) t3 (.int .i64 1)) fun t5=>Aa (Af Tp .neq 3 (.tmp 11) (.const (.int .i64 0)) t5 (.int .i64 0)) fun t6=>Ae t6 (Aa (Ac Tp 92 t0 1) fun t7=>Aa (Ad Tp At3 9 t7) fun t8=>Wc Tp Ak W0 m0 89 [t8] At3 fun t9 At9=>Aa (unA Tp .not t9) fun t10=>Ae t10 (Q (.int .i64 130) At9) (QL W0 m0 Q t3 t0 At9)) (QL W0 m0 Q t3 t0 At3))):=by kernel_rfl
theorem w90:Wf1 90 86 Tz Lz:=wf1 (fun _=>by kernel_rfl) (by decide) fun _=>rfl
noncomputable def T91:Nat→List Item:=fun i=>match i with
 |0=>[(.code (cd 91 [1,0,1,0,0])),(.inLoop (cd 91 [1,0,1,0,0])),(.inBlock 0),(.code (cd 91 [1,1]))]
 |_=>[]
def L91:Nat→List Tmp:=fun i=>match i with
 |0=>[0,1,5]
 |_=>[]
theorem e91(a0 a1:Value)(A:AW):gE W0 m0 S Q 91 24 T91 L91 [a0,a1] A=(AE (T91 0) (T91 0) (S 0 [a0,a1,(.int .i64 1)] A)):=by kernel_rfl
theorem AeB(d:Nat→Value)(A:AW):gL W0 m0 S Q 91 24 T91 L91 d 0 A=(Aa (AB Tp A 33 (d 0)) fun t0=>Aa (Af Tp .lss 3 (.tmp 6) (.tmp 8) (d 5) t0) fun t1=>Ae t1 (Aa (Af Tp .sub 3 (.tmp 14) (.const (.int .i64 1)) (d 5) (.int .i64 1)) fun t2=>Aa (Ag Tp 33 (d 0) t2) fun t3=>Aa (Ad Tp A 75 t3) fun t4=>Aa (Ag Tp 33 (d 0) (d 5)) fun t5=>Aa (Ad Tp A 75 t5) fun t6=>anW Tp Ak W0 m0 (Cu Tp Ak A (d 1) [t4,t6]) fun t7 At7=>Aa (Af Tp .geq 3 (.tmp 22) (.const (.int .i64 0)) t7 (.int .i64 0)) fun t8=>Ae t8 (Q (.bool false) At7) (Aa (Af Tp .add 3 (.tmp 10) (.const (.int .i64 1)) (d 5) (.int .i64 1)) fun t9=>AE (T91 0) (T91 0) (S 0 [(d 0),(d 1),t9] At7))) (Q (.bool true) A)):=by kernel_rfl
theorem w91:Wf2 91 24 T91 L91:=wf2 (fun _ _=>by kernel_rfl) (by decide) fun _ _=>rfl
theorem c91:B9 91 24 T91 L91:=Ce (by decide)
theorem e92(a0 a1:Value)(A:AW):gE W0 m0 S Q 92 10 Tz Lz [a0,a1] A=(Al (Bk A (Value.cells a0).toList 75) fun t0 At0=>Al (Bk At0 (Value.cells a1).toList 75) fun t1 At1=>Aa (Ac Tp 75 t0 0) fun t2=>Aa (Ad Tp At1 9 t2) fun t3=>Aa (Ac Tp 75 t1 0) fun t4=>Aa (Ad Tp At1 9 t4) fun t5=>Wc Tp Ak W0 m0 58 [t3,t5] At1 fun t6 At6=>Q t6 At6):=by kernel_rfl
theorem w92:Wf2 92 10 Tz Lz:=wf2 (fun _ _=>by kernel_rfl) (by decide) fun _ _=>rfl
theorem e93(a0:Value)(A:AW):gE W0 m0 S Q 93 10 Tz Lz [a0] A=(Al (Bk A (Value.cells a0).toList 89) fun t0 At0=>Al (BB Tp At0 92) fun t1 At1=>Aa (Ac Tp 89 t0 0) fun t2=>Aa (Ad Tp At1 46 t2) fun t3=>Aa (Ac Tp 89 t0 1) fun t4=>Aa (Ad Tp At1 86 t4) fun t5=>Aa (Ac Tp 89 t0 2) fun t6=>Aa (Ad Tp At1 87 t6) fun t7=>Aa (Ch Tp 92 [(0,(.int .u8 4)),(3,t3),(4,t5),(5,t7)]) fun t8=>B5 (Bg Tp At1 92 t1 t8) fun At9=>Aa (Ad Tp At9 92 t1) fun t10=>Q t10 At9):=by kernel_rfl
theorem w93:Wf1 93 10 Tz Lz:=wf1 (fun _=>by kernel_rfl) (by decide) fun _=>rfl
theorem e94(a0 a1:Value)(A:AW):gE W0 m0 S Q 94 12 Tz Lz [a0,a1] A=(Al (Bk A (Value.cells a0).toList 37) fun t0 At0=>Al (Bk At0 (Value.cells a1).toList 9) fun t1 At1=>Aa (Ac Tp 37 t0 1) fun t2=>Aa (Ad Tp At1 33 t2) fun t3=>Wc Tp Ak W0 m0 121 [t3,(.func (.func 122) ⟨[]⟩ ⟨[t1]⟩)] At1 fun t4 At4=>Aa (Aw t4 0) fun t5=>Aa (Aw t4 1) fun t6=>Q (.tuple ⟨[t5,t6]⟩) At4):=by kernel_rfl
theorem w94:Wf2 94 12 Tz Lz:=wf2 (fun _ _=>by kernel_rfl) (by decide) fun _ _=>rfl
theorem e95(a0 a1:Value)(A:AW):gE W0 m0 S Q 95 33 Tz Lz [a0,a1] A=(Al (Bk A (Value.cells a0).toList 37) fun t0 At0=>Al (Bk At0 (Value.cells a1).toList 120) fun t1 At1=>Aa (Ad Tp At1 37 t0) fun t2=>Aa (Ac Tp 120 t1 0) fun t3=>Aa (Ad Tp At1 9 t3) fun t4=>Wc Tp Ak W0 m0 94 [t2,t4] At1 fun t5 At5=>Aa (Aw t5 0) fun t6=>Aa (Aw t5 1) fun t7=>Aa (unA Tp .not t7) fun t8=>Ae t8 (Q (.tuple ⟨[(.int .i64 0),(.int .i64 0),(.bool false)]⟩) At5) (Aa (Ac Tp 37 t0 1) fun t9=>Aa (Ad Tp At5 33 t9) fun t10=>Aa (Ag Tp 33 t10 t6) fun t11=>Aa (Ac Tp 75 t11 2) fun t12=>Aa (Ad Tp At5 73 t12) fun t13=>Wc Tp Ak W0 m0 123 [t13,(.func (.func 124) ⟨[]⟩ ⟨[t1]⟩)] At5 fun t14 At14=>Aa (Aw t14 0) fun t15=>Aa (Aw t14 1) fun t16=>Q (.tuple ⟨[t6,t15,t16]⟩) At14)):=by kernel_rfl
theorem w95:Wf2 95 33 Tz Lz:=wf2 (fun _ _=>by kernel_rfl) (by decide) fun _ _=>rfl
noncomputable def T96:Nat→List Item:=fun i=>match i with
 |0=>[(.code (cd 96 [1,0,1,0,0])),(.inLoop (cd 96 [1,0,1,0,0])),(.inBlock 0),(.code (cd 96 [1,1]))]
 |_=>[]
def L96:Nat→List Tmp:=fun i=>match i with
 |0=>[0,1,5]
 |_=>[]
theorem e96(a0 a1:Value)(A:AW):gE W0 m0 S Q 96 24 T96 L96 [a0,a1] A=(AE (T96 0) (T96 0) (S 0 [a0,a1,(.int .i64 1)] A)):=by kernel_rfl
theorem AeA(d:Nat→Value)(A:AW):gL W0 m0 S Q 96 24 T96 L96 d 0 A=(Aa (AB Tp A 34 (d 0)) fun t0=>Aa (Af Tp .lss 3 (.tmp 6) (.tmp 8) (d 5) t0) fun t1=>Ae t1 (Aa (Af Tp .sub 3 (.tmp 14) (.const (.int .i64 1)) (d 5) (.int .i64 1)) fun t2=>Aa (Ag Tp 34 (d 0) t2) fun t3=>Aa (Ad Tp A 89 t3) fun t4=>Aa (Ag Tp 34 (d 0) (d 5)) fun t5=>Aa (Ad Tp A 89 t5) fun t6=>anW Tp Ak W0 m0 (Cu Tp Ak A (d 1) [t4,t6]) fun t7 At7=>Aa (Af Tp .geq 3 (.tmp 22) (.const (.int .i64 0)) t7 (.int .i64 0)) fun t8=>Ae t8 (Q (.bool false) At7) (Aa (Af Tp .add 3 (.tmp 10) (.const (.int .i64 1)) (d 5) (.int .i64 1)) fun t9=>AE (T96 0) (T96 0) (S 0 [(d 0),(d 1),t9] At7))) (Q (.bool true) A)):=by kernel_rfl
theorem w96:Wf2 96 24 T96 L96:=wf2 (fun _ _=>by kernel_rfl) (by decide) fun _ _=>rfl
theorem c96:B9 96 24 T96 L96:=Ce (by decide)
theorem e97(a0 a1:Value)(A:AW):gE W0 m0 S Q 97 10 Tz Lz [a0,a1] A=(Al (Bk A (Value.cells a0).toList 89) fun t0 At0=>Al (Bk At0 (Value.cells a1).toList 89) fun t1 At1=>Aa (Ac Tp 89 t0 0) fun t2=>Aa (Ad Tp At1 46 t2) fun t3=>Aa (Ac Tp 89 t1 0) fun t4=>Aa (Ad Tp At1 46 t4) fun t5=>Wc Tp Ak W0 m0 27 [t3,t5] At1 fun t6 At6=>Q t6 At6):=by kernel_rfl
theorem w97:Wf2 97 10 Tz Lz:=wf2 (fun _ _=>by kernel_rfl) (by decide) fun _ _=>rfl
theorem e98(a0 a1:Value)(A:AW):gE W0 m0 S Q 98 12 Tz Lz [a0,a1] A=(Al (Bk A (Value.cells a1).toList 159) fun t0 At0=>Aa (Ch Tp 182 []) fun t1=>Wc Tp Ak W0 m0 125 [a0,t1,(.func (.func 126) ⟨[]⟩ ⟨[t0]⟩)] At0 fun t2 At2=>Aa (Aw t2 0) fun t3=>Aa (Aw t2 1) fun t4=>Q (.tuple ⟨[t3,t4]⟩) At2):=by kernel_rfl
theorem w98:Wf2 98 12 Tz Lz:=wf2 (fun _ _=>by kernel_rfl) (by decide) fun _ _=>rfl
theorem e99(a0 a1:Value)(A:AW):gE W0 m0 S Q 99 8 Tz Lz [a0,a1] A=(Al (Bk A (Value.cells a0).toList 89) fun t0 At0=>Aa (Ac Tp 89 t0 0) fun t1=>Aa (Ad Tp At0 46 t1) fun t2=>Aa (Ad Tp At0 46 a1) fun t3=>Wc Tp Ak W0 m0 27 [t2,t3] At0 fun t4 At4=>Q t4 At4):=by kernel_rfl
theorem w99:Wf2 99 8 Tz Lz:=wf2 (fun _ _=>by kernel_rfl) (by decide) fun _ _=>rfl
theorem Ai0(a0 a1:Value)(A:AW):gE W0 m0 S Q 100 17 Tz Lz [a0,a1] A=(Al (Bk A (Value.cells a0).toList 129) fun t0 At0=>Al (Bk At0 (Value.cells a1).toList 129) fun t1 At1=>Aa (Ac Tp 129 t0 0) fun t2=>Aa (Ad Tp At1 32 t2) fun t3=>Aa (Ac Tp 129 t1 0) fun t4=>Aa (Ad Tp At1 32 t4) fun t5=>Aa (Ac Tp 129 t0 1) fun t6=>Aa (Ad Tp At1 46 t6) fun t7=>Aa (Ac Tp 129 t1 1) fun t8=>Aa (Ad Tp At1 46 t8) fun t9=>Wc Tp Ak W0 m0 127 [t3,t5] At1 fun t10 At10=>Aa (Ad Tp At10 46 t8) fun t11=>eqW t11 t9 (Aa (Ac Tp 129 t1 1) fun t12=>eqW t12 t8 (Aa (Ad Tp At10 46 t6) fun t13=>eqW t13 t7 (Aa (Ac Tp 129 t0 1) fun t14=>eqW t14 t6 (Wc Tp Ak W0 m0 27 [t7,t9] At10 fun t15 At15=>Al (AG Tp At15 143 2 [(0,t10),(1,t15)]) fun t16 At16=>EC (BS Tp (BI (Tm.fill ⟨2,.nil⟩ 0 [t10,t15])) (.buildSlice 143 2 #[(0,.tmp 0),(1,.tmp 1)])) At16 t16 (Aa (Ad Tp At16 46 t8) fun t17=>eqW t17 t9 (Aa (Ac Tp 129 t1 1) fun t18=>eqW t18 t8 (Aa (Ad Tp At16 46 t6) fun t19=>eqW t19 t7 (Aa (Ac Tp 129 t0 1) fun t20=>eqW t20 t6 (Aa (Ad Tp At16 32 t4) fun t21=>eqW t21 t5 (Aa (Ac Tp 129 t1 0) fun t22=>eqW t22 t4 (Aa (Ad Tp At16 32 t2) fun t23=>eqW t23 t3 (Aa (Ac Tp 129 t0 0) fun t24=>eqW t24 t2 (Wc Tp Ak W0 m0 56 [t16] At16 fun t25 At25=>Q t25 At25)))))))))))))):=by kernel_rfl
theorem AhE:Wf2 100 17 Tz Lz:=wf2 (fun _ _=>by kernel_rfl) (by decide) fun _ _=>rfl
noncomputable def PI:Nat→List Item:=fun i=>match i with
 |0=>[(.code (cd 101 [1,1,1,0,0,0])),(.inLoop (cd 101 [1,1,1,0,0,0])),(.inBlock 0),(.code (cd 101 [1,1,1,1]))]
 |_=>[]
def ZR:Nat→List Tmp:=fun i=>match i with
 |0=>[0,2,4,8,9,10]
 |_=>[]
theorem AiZ(a0 a1 a2:Value)(A:AW):gE W0 m0 S Q 101 49 PI ZR [a0,a1,a2] A=(Al (Bk A (Value.cells a1).toList 46) fun t0 At0=>Aa (AB Tp At0 38 a0) fun t1=>AE (PI 0) (PI 0) (S 0 [a0,a2,t0,t1,(.int .i64 0),t1] At0)):=by kernel_rfl
theorem AcG(d:Nat→Value)(A:AW):gL W0 m0 S Q 101 49 PI ZR d 0 A=(Aa (Af Tp .lss 3 (.tmp 15) (.tmp 16) (d 9) (d 10)) fun t0=>Ae t0 (Aa (Af Tp .add 3 (.tmp 18) (.tmp 19) (d 9) (d 10)) fun t1=>Al (AI Tp A 3 142 t1) fun t2 At2=>Aa (Af Tp .shr 142 (.tmp 21) (.const (.int .u64 1)) t2 (.int .u64 1)) fun t3=>Al (AI Tp At2 142 3 t3) fun t4 At4=>Aa (Ag Tp 38 (d 0) t4) fun t5=>Aa (Ad Tp At4 100 t5) fun t6=>Aa (Ad Tp At4 46 (d 4)) fun t7=>anW Tp Ak W0 m0 (Cu Tp Ak At4 (d 2) [t6,t7]) fun t8 At8=>Aa (Af Tp .lss 3 (.tmp 30) (.const (.int .i64 0)) t8 (.int .i64 0)) fun t9=>Ae t9 (Aa (Af Tp .add 3 (.tmp 32) (.const (.int .i64 1)) t4 (.int .i64 1)) fun t10=>AE (PI 0) (PI 0) (S 0 [(d 0),(d 2),(d 4),(d 8),t10,(d 10)] At8)) (AE (PI 0) (PI 0) (S 0 [(d 0),(d 2),(d 4),(d 8),(d 9),t4] At8))) (Aa (Af Tp .lss 3 (.tmp 36) (.tmp 37) (d 9) (d 8)) fun t11=>Ae t11 (Aa (Ag Tp 38 (d 0) (d 9)) fun t12=>Aa (Ad Tp A 100 t12) fun t13=>Aa (Ad Tp A 46 (d 4)) fun t14=>anW Tp Ak W0 m0 (Cu Tp Ak A (d 2) [t13,t14]) fun t15 At15=>eqW (d 9) (d 9) (Aa (Af Tp .eql 3 (.tmp 46) (.const (.int .i64 0)) t15 (.int .i64 0)) fun t16=>eqW t16 t16 (Aa (Af Tp .eql 3 (.tmp 46) (.const (.int .i64 0)) t15 (.int .i64 0)) fun t17=>eqW t17 t16 (Q (.tuple ⟨[(d 9),t16]⟩) At15)))) (eqW (d 9) (d 9) (eqW (.bool false) (.bool false) (eqW undef undef (Q (.tuple ⟨[(d 9),(.bool false)]⟩) A)))))):=by kernel_rfl
theorem AhD:Wf3 101 49 PI ZR:=wf3 (fun _ _ _=>by kernel_rfl) (by decide) fun _ _ _=>rfl
theorem Ajs:B9 101 49 PI ZR:=Ce (by decide)
theorem AiY(a0 a1:Value)(A:AW):gE W0 m0 S Q 102 9 Tz Lz [a0,a1] A=(Al (Bk A (Value.cells a0).toList 100) fun t0 At0=>Al (Bk At0 (Value.cells a1).toList 46) fun t1 At1=>Aa (Ac Tp 100 t0 0) fun t2=>Aa (Ad Tp At1 46 t2) fun t3=>Aa (Ad Tp At1 46 t1) fun t4=>Wc Tp Ak W0 m0 27 [t3,t4] At1 fun t5 At5=>Q t5 At5):=by kernel_rfl
theorem AhC:Wf2 102 9 Tz Lz:=wf2 (fun _ _=>by kernel_rfl) (by decide) fun _ _=>rfl
noncomputable def TD:Nat→List Item:=fun i=>match i with
 |0=>[(.code (cd 103 [1,0,1,0,0])),(.inLoop (cd 103 [1,0,1,0,0])),(.inBlock 0),(.code (cd 103 [1,1]))]
 |_=>[]
def ZQ:Nat→List Tmp:=fun i=>match i with
 |0=>[0,3]
 |_=>[]
theorem AiX(a0:Value)(A:AW):gE W0 m0 S Q 103 28 TD ZQ [a0] A=(AE (TD 0) (TD 0) (S 0 [a0,(.int .i64 0)] A)):=by kernel_rfl
theorem AcF(d:Nat→Value)(A:AW):gL W0 m0 S Q 103 28 TD ZQ d 0 A=(Aa (AB Tp A 9 (d 0)) fun t0=>Aa (Af Tp .lss 3 (.tmp 4) (.tmp 6) (d 3) t0) fun t1=>Ae t1 (Aa (BU Tp 9 (d 0) (d 3)) fun t2=>Aa (Af Tp .leq 5 (.tmp 12) (.const (.int .u8 32)) t2 (.int .u8 32)) fun t3=>Ae t3 (Q (.bool false) A) (Aa (BU Tp 9 (d 0) (d 3)) fun t4=>Aa (Af Tp .geq 5 (.tmp 17) (.const (.int .u8 127)) t4 (.int .u8 127)) fun t5=>Ae t5 (Q (.bool false) A) (Aa (Af Tp .add 3 (.tmp 8) (.const (.int .i64 1)) (d 3) (.int .i64 1)) fun t6=>AE (TD 0) (TD 0) (S 0 [(d 0),t6] A)))) (Aa (AB Tp A 9 (d 0)) fun t7=>Aa (Af Tp .geq 3 (.tmp 21) (.const (.int .i64 1)) t7 (.int .i64 1)) fun t8=>Ae t8 (Aa (AB Tp A 9 (d 0)) fun t9=>Aa (Af Tp .leq 3 (.tmp 25) (.const (.int .i64 40)) t9 (.int .i64 40)) fun t10=>Q t10 A) (Q (.bool false) A))):=by kernel_rfl
theorem AhB:Wf1 103 28 TD ZQ:=wf1 (fun _=>by kernel_rfl) (by decide) fun _=>rfl
theorem Ajr:B9 103 28 TD ZQ:=Ce (by decide)
theorem AiW(a0:Value)(A:AW):gE W0 m0 S Q 104 9 Tz Lz [a0] A=(Aa (Af Tp .geq 32 (.tmp 3) (.const (.int .u64 1)) a0 (.int .u64 1)) fun t0=>Ae t0 (Aa (Af Tp .leq 32 (.tmp 6) (.const (.int .u64 1099511627776)) a0 (.int .u64 1099511627776)) fun t1=>Q t1 A) (Q (.bool false) A)):=by kernel_rfl
theorem AhA:Wf1 104 9 Tz Lz:=wf1 (fun _=>by kernel_rfl) (by decide) fun _=>rfl
abbrev Np(x0:Value)(X2:AW)(x3:Value)(x6:Value):Prop:=Aa (Af Tp .eql 3 (.tmp 25) (.const (.int .i64 0)) x0 (.int .i64 0)) fun t901=>Ae t901 (Aa (AB Tp X2 9 x3) fun t904=>Aa (Af Tp .leq 3 (.tmp 30) (.const (.int .i64 8192)) t904 (.int .i64 8192)) fun t905=>Ae t905 (Aa (Ac Tp 134 x6 3) fun t907=>Aa (Ad Tp X2 9 t907) fun t908=>Aa (AB Tp X2 9 t908) fun t909=>Aa (Af Tp .leq 3 (.tmp 36) (.const (.int .i64 4096)) t909 (.int .i64 4096)) fun t910=>Q t910 X2) (Q (.bool false) X2)) (Q (.bool false) X2)
theorem AiV(a0:Value)(A:AW):gE W0 m0 S Q 105 39 Tz Lz [a0] A=(Al (Bk A (Value.cells a0).toList 134) fun t0 At0=>Aa (Ac Tp 134 t0 2) fun t1=>Aa (Ad Tp At0 82 t1) fun t2=>knW Tp W0 m0 128 [t2] At0 fun t3 At3=>Aa (Aw t3 0) fun t4=>Aa (Aw t3 1) fun t5=>Aa (Ac Tp 134 t0 0) fun t6=>Aa (Ad Tp At3 9 t6) fun t7=>Wc Tp Ak W0 m0 103 [t7] At3 fun t8 At8=>Ae t8 (Aa (Ac Tp 134 t0 1) fun t9=>Aa (Ad Tp At8 32 t9) fun t10=>Aa (Af Tp .eql 32 (.tmp 16) (.const (.int .u64 0)) t10 (.int .u64 0)) fun t11=>Ae t11 (Np Q t5 At8 t4 t0) (Aa (Ac Tp 134 t0 1) fun t19=>Aa (Ad Tp At8 32 t19) fun t20=>Wc Tp Ak W0 m0 104 [t20] At8 fun t21 At21=>Ae t21 (Np Q t5 At21 t4 t0) (Q (.bool false) At21))) (Q (.bool false) At8)):=by kernel_rfl
theorem Ahz:Wf1 105 39 Tz Lz:=wf1 (fun _=>by kernel_rfl) (by decide) fun _=>rfl
theorem AiU(a0:Value)(A:AW):gE W0 m0 S Q 106 23 Tz Lz [a0] A=(Aa (Af Tp .eql 5 (.tmp 7) (.const (.int .u8 1)) a0 (.int .u8 1)) fun t0=>Ae t0 (Q (.tuple ⟨[(.bool true),(.bool true),(.bool false),(.bool false),(.bool true)]⟩) A) (Aa (Af Tp .eql 5 (.tmp 7) (.const (.int .u8 2)) a0 (.int .u8 2)) fun t1=>Ae t1 (Q (.tuple ⟨[(.bool true),(.bool false),(.bool false),(.bool false),(.bool true)]⟩) A) (Aa (Af Tp .eql 5 (.tmp 7) (.const (.int .u8 3)) a0 (.int .u8 3)) fun t2=>Ae t2 (Q (.tuple ⟨[(.bool false),(.bool false),(.bool false),(.bool true),(.bool true)]⟩) A) (Aa (Af Tp .eql 5 (.tmp 7) (.const (.int .u8 4)) a0 (.int .u8 4)) fun t3=>Ae t3 (Q (.tuple ⟨[(.bool false),(.bool false),(.bool true),(.bool true),(.bool true)]⟩) A) (Aa (Af Tp .eql 5 (.tmp 7) (.const (.int .u8 5)) a0 (.int .u8 5)) fun t4=>Ae t4 (Q (.tuple ⟨[(.bool false),(.bool true),(.bool true),(.bool false),(.bool true)]⟩) A) (Aa (Af Tp .eql 5 (.tmp 7) (.const (.int .u8 7)) a0 (.int .u8 7)) fun t5=>Ae t5 (Q (.tuple ⟨[(.bool false),(.bool true),(.bool true),(.bool false),(.bool true)]⟩) A) (Aa (Af Tp .eql 5 (.tmp 7) (.const (.int .u8 6)) a0 (.int .u8 6)) fun t6=>Ae t6 (Q (.tuple ⟨[(.bool false),(.bool false),(.bool true),(.bool false),(.bool true)]⟩) A) (Aa (Af Tp .eql 5 (.tmp 7) (.const (.int .u8 8)) a0 (.int .u8 8)) fun t7=>Ae t7 (Q (.tuple ⟨[(.bool false),(.bool false),(.bool true),(.bool false),(.bool true)]⟩) A) (Aa (Af Tp .eql 5 (.tmp 7) (.const (.int .u8 9)) a0 (.int .u8 9)) fun t8=>Ae t8 (Q (.tuple ⟨[(.bool false),(.bool false),(.bool true),(.bool false),(.bool true)]⟩) A) (Q (.tuple ⟨[(.bool false),(.bool false),(.bool false),(.bool false),(.bool false)]⟩) A)))))))))):=by kernel_rfl
theorem Ahy:Wf1 106 23 Tz Lz:=wf1 (fun _=>by kernel_rfl) (by decide) fun _=>rfl
abbrev KD(A:AW)(z0:Nat)(y1:Value)(z2:Nat)(y3:Value):Prop:=Aa (Af Tp .or 3 (.tmp z0) (.const y1) (.int .i64 0) y1) fun t900=>Aa (Af Tp .or 3 (.tmp z2) (.const y3) t900 y3) fun t901=>Q t901 A
theorem AiT(a0:Value)(A:AW):gE W0 m0 S Q 118 33 Tz Lz [a0] A=(Aa (Af Tp .eql 5 (.tmp 4) (.const (.int .u8 1)) a0 (.int .u8 1)) fun t0=>Ae t0 (KD Q A 20 (.int .i64 2) 22 (.int .i64 1)) (Aa (Af Tp .eql 5 (.tmp 4) (.const (.int .u8 2)) a0 (.int .u8 2)) fun t3=>Ae t3 (Aa (Af Tp .or 3 (.tmp 22) (.const (.int .i64 1)) (.int .i64 0) (.int .i64 1)) fun t4=>Q t4 A) (Aa (Af Tp .eql 5 (.tmp 4) (.const (.int .u8 4)) a0 (.int .u8 4)) fun t5=>Ae t5 (KD Q A 24 (.int .i64 4) 26 (.int .i64 8)) (Aa (Af Tp .eql 5 (.tmp 4) (.const (.int .u8 3)) a0 (.int .u8 3)) fun t8=>Ae t8 (Aa (Af Tp .or 3 (.tmp 26) (.const (.int .i64 8)) (.int .i64 0) (.int .i64 8)) fun t9=>Q t9 A) (Aa (Af Tp .eql 5 (.tmp 4) (.const (.int .u8 5)) a0 (.int .u8 5)) fun t10=>Ae t10 (KD Q A 28 (.int .i64 2) 30 (.int .i64 4)) (Aa (Af Tp .eql 5 (.tmp 4) (.const (.int .u8 7)) a0 (.int .u8 7)) fun t13=>Ae t13 (KD Q A 28 (.int .i64 2) 30 (.int .i64 4)) (Aa (Af Tp .eql 5 (.tmp 4) (.const (.int .u8 6)) a0 (.int .u8 6)) fun t16=>Ae t16 (Aa (Af Tp .or 3 (.tmp 30) (.const (.int .i64 4)) (.int .i64 0) (.int .i64 4)) fun t17=>Q t17 A) (Aa (Af Tp .eql 5 (.tmp 4) (.const (.int .u8 8)) a0 (.int .u8 8)) fun t18=>Ae t18 (Aa (Af Tp .or 3 (.tmp 30) (.const (.int .i64 4)) (.int .i64 0) (.int .i64 4)) fun t19=>Q t19 A) (Aa (Af Tp .eql 5 (.tmp 4) (.const (.int .u8 9)) a0 (.int .u8 9)) fun t20=>Ae t20 (Aa (Af Tp .or 3 (.tmp 30) (.const (.int .i64 4)) (.int .i64 0) (.int .i64 4)) fun t21=>Q t21 A) (Q (.int .i64 0) A)))))))))):=by kernel_rfl
theorem Ahx:Wf1 118 33 Tz Lz:=wf1 (fun _=>by kernel_rfl) (by decide) fun _=>rfl
theorem AiS(a0:Value)(A:AW):gE W0 m0 S Q 119 9 Tz Lz [a0] A=(Aa (Af Tp .geq 32 (.tmp 3) (.const (.int .u64 1)) a0 (.int .u64 1)) fun t0=>Ae t0 (Aa (Af Tp .leq 32 (.tmp 6) (.const (.int .u64 1099511627776)) a0 (.int .u64 1099511627776)) fun t1=>Q t1 A) (Q (.bool false) A)):=by kernel_rfl
theorem Ahw:Wf1 119 9 Tz Lz:=wf1 (fun _=>by kernel_rfl) (by decide) fun _=>rfl
theorem AiR(a0:Value)(A:AW):gE W0 m0 S Q 120 24 Tz Lz [a0] A=(Al (Bk A (Value.cells a0).toList 92) fun t0 At0=>Aa (Ac Tp 92 t0 4) fun t1=>Aa (Ad Tp At0 86 t1) fun t2=>Aa (AB Tp At0 86 t2) fun t3=>Aa (Af Tp .gtr 3 (.tmp 5) (.const (.int .i64 100)) t3 (.int .i64 100)) fun t4=>Ae t4 (Q (.bool false) At0) (Aa (Ac Tp 92 t0 5) fun t5=>Aa (Ad Tp At0 87 t5) fun t6=>Aa (AB Tp At0 87 t6) fun t7=>Aa (Af Tp .gtr 3 (.tmp 10) (.const (.int .i64 100)) t7 (.int .i64 100)) fun t8=>Ae t8 (Q (.bool false) At0) (Aa (Ac Tp 92 t0 4) fun t9=>Aa (Ad Tp At0 86 t9) fun t10=>Wc Tp Ak W0 m0 134 [t10,(.func (.func 135) ⟨[]⟩ ⟨[t0]⟩)] At0 fun t11 At11=>Aa (unA Tp .not t11) fun t12=>Ae t12 (Aa (Ac Tp 92 t0 5) fun t13=>Aa (Ad Tp At11 87 t13) fun t14=>Wc Tp Ak W0 m0 137 [t14,(.func (.func 138) #[] #[])] At11 fun t15 At15=>Aa (unA Tp .not t15) fun t16=>Q t16 At15) (Q (.bool false) At11)))):=by kernel_rfl
theorem Ahv:Wf1 120 24 Tz Lz:=wf1 (fun _=>by kernel_rfl) (by decide) fun _=>rfl
theorem AiQ(a0 a1:Value)(A:AW):gE W0 m0 S Q 121 12 Tz Lz [a0,a1] A=(Al (Bk A (Value.cells a1).toList 178) fun t0 At0=>Aa (Ch Tp 182 []) fun t1=>Wc Tp Ak W0 m0 139 [a0,t1,(.func (.func 140) ⟨[]⟩ ⟨[t0]⟩)] At0 fun t2 At2=>Aa (Aw t2 0) fun t3=>Aa (Aw t2 1) fun t4=>Q (.tuple ⟨[t3,t4]⟩) At2):=by kernel_rfl
theorem Ahu:Wf2 121 12 Tz Lz:=wf2 (fun _ _=>by kernel_rfl) (by decide) fun _ _=>rfl
theorem AiP(a0 a1:Value)(A:AW):gE W0 m0 S Q 122 8 Tz Lz [a0,a1] A=(Al (Bk A (Value.cells a0).toList 75) fun t0 At0=>Aa (Ac Tp 75 t0 0) fun t1=>Aa (Ad Tp At0 9 t1) fun t2=>Aa (Ad Tp At0 9 a1) fun t3=>Wc Tp Ak W0 m0 58 [t2,t3] At0 fun t4 At4=>Q t4 At4):=by kernel_rfl
theorem Aht:Wf2 122 8 Tz Lz:=wf2 (fun _ _=>by kernel_rfl) (by decide) fun _ _=>rfl
theorem AiO(a0 a1:Value)(A:AW):gE W0 m0 S Q 123 12 Tz Lz [a0,a1] A=(Al (Bk A (Value.cells a1).toList 180) fun t0 At0=>Aa (Ch Tp 182 []) fun t1=>Wc Tp Ak W0 m0 141 [a0,t1,(.func (.func 142) ⟨[]⟩ ⟨[t0]⟩)] At0 fun t2 At2=>Aa (Aw t2 0) fun t3=>Aa (Aw t2 1) fun t4=>Q (.tuple ⟨[t3,t4]⟩) At2):=by kernel_rfl
theorem Ahs:Wf2 123 12 Tz Lz:=wf2 (fun _ _=>by kernel_rfl) (by decide) fun _ _=>rfl
theorem AiN(a0 a1:Value)(A:AW):gE W0 m0 S Q 124 16 Tz Lz [a0,a1] A=(Al (Bk A (Value.cells a0).toList 84) fun t0 At0=>Aa (Ac Tp 84 t0 0) fun t1=>Aa (Ad Tp At0 32 t1) fun t2=>Aa (Ac Tp 120 a1 1) fun t3=>Aa (Ad Tp At0 32 t3) fun t4=>Aa (Af Tp .lss 32 (.tmp 6) (.tmp 8) t2 t4) fun t5=>Ae t5 (Q (.int .i64 (-1)) At0) (Aa (Ac Tp 84 t0 0) fun t6=>Aa (Ad Tp At0 32 t6) fun t7=>Aa (Ac Tp 120 a1 1) fun t8=>Aa (Ad Tp At0 32 t8) fun t9=>Aa (Af Tp .gtr 32 (.tmp 12) (.tmp 14) t7 t9) fun t10=>Ae t10 (Q (.int .i64 1) At0) (Q (.int .i64 0) At0))):=by kernel_rfl
theorem Ahr:Wf2 124 16 Tz Lz:=wf2 (fun _ _=>by kernel_rfl) (by decide) fun _ _=>rfl
noncomputable def PH:Nat→List Item:=fun i=>match i with
 |0=>[(.code (cd 125 [1,1,1,0,0,0])),(.inLoop (cd 125 [1,1,1,0,0,0])),(.inBlock 0),(.code (cd 125 [1,1,1,1]))]
 |_=>[]
def ZP:Nat→List Tmp:=fun i=>match i with
 |0=>[0,2,4,8,9,10]
 |_=>[]
theorem AiM(a0 a1 a2:Value)(A:AW):gE W0 m0 S Q 125 49 PH ZP [a0,a1,a2] A=(Al (Bk A (Value.cells a1).toList 182) fun t0 At0=>Aa (AB Tp At0 34 a0) fun t1=>AE (PH 0) (PH 0) (S 0 [a0,a2,t0,t1,(.int .i64 0),t1] At0)):=by kernel_rfl
theorem AcE(d:Nat→Value)(A:AW):gL W0 m0 S Q 125 49 PH ZP d 0 A=(Aa (Af Tp .lss 3 (.tmp 15) (.tmp 16) (d 9) (d 10)) fun t0=>Ae t0 (Aa (Af Tp .add 3 (.tmp 18) (.tmp 19) (d 9) (d 10)) fun t1=>Al (AI Tp A 3 142 t1) fun t2 At2=>Aa (Af Tp .shr 142 (.tmp 21) (.const (.int .u64 1)) t2 (.int .u64 1)) fun t3=>Al (AI Tp At2 142 3 t3) fun t4 At4=>Aa (Ag Tp 34 (d 0) t4) fun t5=>Aa (Ad Tp At4 89 t5) fun t6=>Aa (Ad Tp At4 182 (d 4)) fun t7=>anW Tp Ak W0 m0 (Cu Tp Ak At4 (d 2) [t6,t7]) fun t8 At8=>Aa (Af Tp .lss 3 (.tmp 30) (.const (.int .i64 0)) t8 (.int .i64 0)) fun t9=>Ae t9 (Aa (Af Tp .add 3 (.tmp 32) (.const (.int .i64 1)) t4 (.int .i64 1)) fun t10=>AE (PH 0) (PH 0) (S 0 [(d 0),(d 2),(d 4),(d 8),t10,(d 10)] At8)) (AE (PH 0) (PH 0) (S 0 [(d 0),(d 2),(d 4),(d 8),(d 9),t4] At8))) (Aa (Af Tp .lss 3 (.tmp 36) (.tmp 37) (d 9) (d 8)) fun t11=>Ae t11 (Aa (Ag Tp 34 (d 0) (d 9)) fun t12=>Aa (Ad Tp A 89 t12) fun t13=>Aa (Ad Tp A 182 (d 4)) fun t14=>anW Tp Ak W0 m0 (Cu Tp Ak A (d 2) [t13,t14]) fun t15 At15=>eqW (d 9) (d 9) (Aa (Af Tp .eql 3 (.tmp 46) (.const (.int .i64 0)) t15 (.int .i64 0)) fun t16=>eqW t16 t16 (Aa (Af Tp .eql 3 (.tmp 46) (.const (.int .i64 0)) t15 (.int .i64 0)) fun t17=>eqW t17 t16 (Q (.tuple ⟨[(d 9),t16]⟩) At15)))) (eqW (d 9) (d 9) (eqW (.bool false) (.bool false) (eqW undef undef (Q (.tuple ⟨[(d 9),(.bool false)]⟩) A)))))):=by kernel_rfl
theorem Ahq:Wf3 125 49 PH ZP:=wf3 (fun _ _ _=>by kernel_rfl) (by decide) fun _ _ _=>rfl
theorem Ajq:B9 125 49 PH ZP:=Ce (by decide)
theorem AiL(a0 a1 a2:Value)(A:AW):gE W0 m0 S Q 126 9 Tz Lz [a0,a1,a2] A=(Al (Bk A (Value.cells a0).toList 89) fun t0 At0=>Al (Bk At0 (Value.cells a1).toList 182) fun t1 At1=>Aa (Ad Tp At1 159 a2) fun t2=>Aa (Ad Tp At1 89 t0) fun t3=>anW Tp Ak W0 m0 (Cu Tp Ak At1 t2 [t3]) fun t4 At4=>Q t4 At4):=by kernel_rfl
theorem Ahp:Wf3 126 9 Tz Lz:=wf3 (fun _ _ _=>by kernel_rfl) (by decide) fun _ _ _=>rfl
theorem AiK(a0 a1:Value)(A:AW):gE W0 m0 S Q 127 20 Tz Lz [a0,a1] A=(Wc Tp Ak W0 m0 143 [a0] A fun t0 At0=>Wc Tp Ak W0 m0 143 [a1] At0 fun t1 At1=>Ae t0 (Ae t1 (Q (.int .i64 0) At1) (Q (.int .i64 (-1)) At1)) (Ae t1 (Q (.int .i64 1) At1) (Aa (Af Tp .lss 32 (.tmp 14) (.tmp 15) a0 a1) fun t2=>Ae t2 (Q (.int .i64 (-1)) At1) (Aa (Af Tp .gtr 32 (.tmp 17) (.tmp 18) a0 a1) fun t3=>Ae t3 (Q (.int .i64 1) At1) (Q (.int .i64 0) At1))))):=by kernel_rfl
theorem Aho:Wf2 127 20 Tz Lz:=wf2 (fun _ _=>by kernel_rfl) (by decide) fun _ _=>rfl
theorem AiI(a0 a1:Value)(A:AW):gE W0 m0 S Q 134 9 Tz Lz [a0,a1] A=(Wc Tp Ak W0 m0 150 [a0,a1] A fun t0 At0=>Aa (Af Tp .geq 3 (.tmp 7) (.const (.int .i64 0)) t0 (.int .i64 0)) fun t1=>Q t1 At0):=by kernel_rfl
theorem Ahm:Wf2 134 9 Tz Lz:=wf2 (fun _ _=>by kernel_rfl) (by decide) fun _ _=>rfl
theorem AiH(a0 a1:Value)(A:AW):gE W0 m0 S Q 135 10 Tz Lz [a0,a1] A=(Al (Bk A (Value.cells a0).toList 134) fun t0 At0=>Aa (Ad Tp At0 134 t0) fun t1=>Aa (Ac Tp 92 a1 0) fun t2=>Aa (Ad Tp At0 5 t2) fun t3=>Aa (Af Tp .eql 5 (.tmp 6) (.const (.int .u8 3)) t3 (.int .u8 3)) fun t4=>Wc Tp Ak W0 m0 136 [t1,t4] At0 fun t5 At5=>Aa (unA Tp .not t5) fun t6=>Q t6 At5):=by kernel_rfl
theorem Ahl:Wf2 135 10 Tz Lz:=wf2 (fun _ _=>by kernel_rfl) (by decide) fun _ _=>rfl
abbrev Nn(x0:Value)(X2:AW):Prop:=Aa (Ac Tp 134 x0 3) fun t901=>Aa (Ad Tp X2 9 t901) fun t903=>Aa (AB Tp X2 9 t903) fun t904=>Aa (Af Tp .leq 3 (.tmp 26) (.const (.int .i64 4096)) t904 (.int .i64 4096)) fun t905=>Ae t905 (Aa (Ac Tp 134 x0 2) fun t906=>Aa (Ad Tp X2 82 t906) fun t907=>Wc Tp Ak W0 m0 151 [t907] X2 fun t908 At909=>Q t908 At909) (Q (.bool false) X2)
theorem AiG(a0 a1:Value)(A:AW):gE W0 m0 S Q 136 34 Tz Lz [a0,a1] A=(Al (Bk A (Value.cells a0).toList 134) fun t0 At0=>Aa (Ac Tp 134 t0 0) fun t1=>Aa (Ad Tp At0 9 t1) fun t2=>Wc Tp Ak W0 m0 89 [t2] At0 fun t3 At3=>Ae t3 (Aa (Ac Tp 134 t0 1) fun t4=>Aa (Ad Tp At3 32 t4) fun t5=>Wc Tp Ak W0 m0 119 [t5] At3 fun t6 At6=>Aa (Af Tp .eql 4 (.tmp 11) (.tmp 12) t6 a1) fun t7=>Ae t7 (Ae a1 (Nn W0 m0 Q t0 At6) (Aa (Ac Tp 134 t0 1) fun t15=>Aa (Ad Tp At6 32 t15) fun t16=>Aa (Af Tp .eql 32 (.tmp 19) (.const (.int .u64 0)) t16 (.int .u64 0)) fun t17=>Ae t17 (Nn W0 m0 Q t0 At6) (Q (.bool false) At6))) (Q (.bool false) At6)) (Q (.bool false) At3)):=by kernel_rfl
theorem Ahk:Wf2 136 34 Tz Lz:=wf2 (fun _ _=>by kernel_rfl) (by decide) fun _ _=>rfl
theorem AiF(a0 a1:Value)(A:AW):gE W0 m0 S Q 137 9 Tz Lz [a0,a1] A=(Wc Tp Ak W0 m0 152 [a0,a1] A fun t0 At0=>Aa (Af Tp .geq 3 (.tmp 7) (.const (.int .i64 0)) t0 (.int .i64 0)) fun t1=>Q t1 At0):=by kernel_rfl
theorem Ahj:Wf2 137 9 Tz Lz:=wf2 (fun _ _=>by kernel_rfl) (by decide) fun _ _=>rfl
theorem AiE(a0:Value)(A:AW):gE W0 m0 S Q 138 13 Tz Lz [a0] A=(Al (Bk A (Value.cells a0).toList 120) fun t0 At0=>Aa (Ac Tp 120 t0 0) fun t1=>Aa (Ad Tp At0 9 t1) fun t2=>Wc Tp Ak W0 m0 89 [t2] At0 fun t3 At3=>Aa (unA Tp .not t3) fun t4=>Ae t4 (Q (.bool true) At3) (Aa (Ac Tp 120 t0 1) fun t5=>Aa (Ad Tp At3 32 t5) fun t6=>Wc Tp Ak W0 m0 119 [t6] At3 fun t7 At7=>Aa (unA Tp .not t7) fun t8=>Q t8 At7)):=by kernel_rfl
theorem Ahi:Wf1 138 13 Tz Lz:=wf1 (fun _=>by kernel_rfl) (by decide) fun _=>rfl
noncomputable def PG:Nat→List Item:=fun i=>match i with
 |0=>[(.code (cd 139 [1,1,1,0,0,0])),(.inLoop (cd 139 [1,1,1,0,0,0])),(.inBlock 0),(.code (cd 139 [1,1,1,1]))]
 |_=>[]
def ZO:Nat→List Tmp:=fun i=>match i with
 |0=>[0,2,4,8,9,10]
 |_=>[]
theorem AiD(a0 a1 a2:Value)(A:AW):gE W0 m0 S Q 139 49 PG ZO [a0,a1,a2] A=(Al (Bk A (Value.cells a1).toList 182) fun t0 At0=>Aa (AB Tp At0 33 a0) fun t1=>AE (PG 0) (PG 0) (S 0 [a0,a2,t0,t1,(.int .i64 0),t1] At0)):=by kernel_rfl
theorem AcD(d:Nat→Value)(A:AW):gL W0 m0 S Q 139 49 PG ZO d 0 A=(Aa (Af Tp .lss 3 (.tmp 15) (.tmp 16) (d 9) (d 10)) fun t0=>Ae t0 (Aa (Af Tp .add 3 (.tmp 18) (.tmp 19) (d 9) (d 10)) fun t1=>Al (AI Tp A 3 142 t1) fun t2 At2=>Aa (Af Tp .shr 142 (.tmp 21) (.const (.int .u64 1)) t2 (.int .u64 1)) fun t3=>Al (AI Tp At2 142 3 t3) fun t4 At4=>Aa (Ag Tp 33 (d 0) t4) fun t5=>Aa (Ad Tp At4 75 t5) fun t6=>Aa (Ad Tp At4 182 (d 4)) fun t7=>anW Tp Ak W0 m0 (Cu Tp Ak At4 (d 2) [t6,t7]) fun t8 At8=>Aa (Af Tp .lss 3 (.tmp 30) (.const (.int .i64 0)) t8 (.int .i64 0)) fun t9=>Ae t9 (Aa (Af Tp .add 3 (.tmp 32) (.const (.int .i64 1)) t4 (.int .i64 1)) fun t10=>AE (PG 0) (PG 0) (S 0 [(d 0),(d 2),(d 4),(d 8),t10,(d 10)] At8)) (AE (PG 0) (PG 0) (S 0 [(d 0),(d 2),(d 4),(d 8),(d 9),t4] At8))) (Aa (Af Tp .lss 3 (.tmp 36) (.tmp 37) (d 9) (d 8)) fun t11=>Ae t11 (Aa (Ag Tp 33 (d 0) (d 9)) fun t12=>Aa (Ad Tp A 75 t12) fun t13=>Aa (Ad Tp A 182 (d 4)) fun t14=>anW Tp Ak W0 m0 (Cu Tp Ak A (d 2) [t13,t14]) fun t15 At15=>eqW (d 9) (d 9) (Aa (Af Tp .eql 3 (.tmp 46) (.const (.int .i64 0)) t15 (.int .i64 0)) fun t16=>eqW t16 t16 (Aa (Af Tp .eql 3 (.tmp 46) (.const (.int .i64 0)) t15 (.int .i64 0)) fun t17=>eqW t17 t16 (Q (.tuple ⟨[(d 9),t16]⟩) At15)))) (eqW (d 9) (d 9) (eqW (.bool false) (.bool false) (eqW undef undef (Q (.tuple ⟨[(d 9),(.bool false)]⟩) A)))))):=by kernel_rfl
theorem Ahh:Wf3 139 49 PG ZO:=wf3 (fun _ _ _=>by kernel_rfl) (by decide) fun _ _ _=>rfl
theorem Ajp:B9 139 49 PG ZO:=Ce (by decide)
theorem AiC(a0 a1 a2:Value)(A:AW):gE W0 m0 S Q 140 9 Tz Lz [a0,a1,a2] A=(Al (Bk A (Value.cells a0).toList 75) fun t0 At0=>Al (Bk At0 (Value.cells a1).toList 182) fun t1 At1=>Aa (Ad Tp At1 178 a2) fun t2=>Aa (Ad Tp At1 75 t0) fun t3=>anW Tp Ak W0 m0 (Cu Tp Ak At1 t2 [t3]) fun t4 At4=>Q t4 At4):=by kernel_rfl
theorem Ahg:Wf3 140 9 Tz Lz:=wf3 (fun _ _ _=>by kernel_rfl) (by decide) fun _ _ _=>rfl
noncomputable def PF:Nat→List Item:=fun i=>match i with
 |0=>[(.code (cd 141 [1,1,1,0,0,0])),(.inLoop (cd 141 [1,1,1,0,0,0])),(.inBlock 0),(.code (cd 141 [1,1,1,1]))]
 |_=>[]
def ZN:Nat→List Tmp:=fun i=>match i with
 |0=>[0,2,4,8,9,10]
 |_=>[]
theorem AiB(a0 a1 a2:Value)(A:AW):gE W0 m0 S Q 141 49 PF ZN [a0,a1,a2] A=(Al (Bk A (Value.cells a1).toList 182) fun t0 At0=>Aa (AB Tp At0 73 a0) fun t1=>AE (PF 0) (PF 0) (S 0 [a0,a2,t0,t1,(.int .i64 0),t1] At0)):=by kernel_rfl
theorem AcC(d:Nat→Value)(A:AW):gL W0 m0 S Q 141 49 PF ZN d 0 A=(Aa (Af Tp .lss 3 (.tmp 15) (.tmp 16) (d 9) (d 10)) fun t0=>Ae t0 (Aa (Af Tp .add 3 (.tmp 18) (.tmp 19) (d 9) (d 10)) fun t1=>Al (AI Tp A 3 142 t1) fun t2 At2=>Aa (Af Tp .shr 142 (.tmp 21) (.const (.int .u64 1)) t2 (.int .u64 1)) fun t3=>Al (AI Tp At2 142 3 t3) fun t4 At4=>Aa (Ag Tp 73 (d 0) t4) fun t5=>Aa (Ad Tp At4 84 t5) fun t6=>Aa (Ad Tp At4 182 (d 4)) fun t7=>anW Tp Ak W0 m0 (Cu Tp Ak At4 (d 2) [t6,t7]) fun t8 At8=>Aa (Af Tp .lss 3 (.tmp 30) (.const (.int .i64 0)) t8 (.int .i64 0)) fun t9=>Ae t9 (Aa (Af Tp .add 3 (.tmp 32) (.const (.int .i64 1)) t4 (.int .i64 1)) fun t10=>AE (PF 0) (PF 0) (S 0 [(d 0),(d 2),(d 4),(d 8),t10,(d 10)] At8)) (AE (PF 0) (PF 0) (S 0 [(d 0),(d 2),(d 4),(d 8),(d 9),t4] At8))) (Aa (Af Tp .lss 3 (.tmp 36) (.tmp 37) (d 9) (d 8)) fun t11=>Ae t11 (Aa (Ag Tp 73 (d 0) (d 9)) fun t12=>Aa (Ad Tp A 84 t12) fun t13=>Aa (Ad Tp A 182 (d 4)) fun t14=>anW Tp Ak W0 m0 (Cu Tp Ak A (d 2) [t13,t14]) fun t15 At15=>eqW (d 9) (d 9) (Aa (Af Tp .eql 3 (.tmp 46) (.const (.int .i64 0)) t15 (.int .i64 0)) fun t16=>eqW t16 t16 (Aa (Af Tp .eql 3 (.tmp 46) (.const (.int .i64 0)) t15 (.int .i64 0)) fun t17=>eqW t17 t16 (Q (.tuple ⟨[(d 9),t16]⟩) At15)))) (eqW (d 9) (d 9) (eqW (.bool false) (.bool false) (eqW undef undef (Q (.tuple ⟨[(d 9),(.bool false)]⟩) A)))))):=by kernel_rfl
theorem Ahf:Wf3 141 49 PF ZN:=wf3 (fun _ _ _=>by kernel_rfl) (by decide) fun _ _ _=>rfl
theorem Ajo:B9 141 49 PF ZN:=Ce (by decide)
theorem AiA(a0 a1 a2:Value)(A:AW):gE W0 m0 S Q 142 9 Tz Lz [a0,a1,a2] A=(Al (Bk A (Value.cells a0).toList 84) fun t0 At0=>Al (Bk At0 (Value.cells a1).toList 182) fun t1 At1=>Aa (Ad Tp At1 180 a2) fun t2=>Aa (Ad Tp At1 84 t0) fun t3=>anW Tp Ak W0 m0 (Cu Tp Ak At1 t2 [t3]) fun t4 At4=>Q t4 At4):=by kernel_rfl
theorem Ahe:Wf3 142 9 Tz Lz:=wf3 (fun _ _ _=>by kernel_rfl) (by decide) fun _ _ _=>rfl
theorem Aiz(a0:Value)(A:AW):gE W0 m0 S Q 143 6 Tz Lz [a0] A=(Aa (Af Tp .neq 32 (.tmp 3) (.tmp 4) a0 a0) fun t0=>Q t0 A):=by kernel_rfl
theorem Ahd:Wf1 143 6 Tz Lz:=wf1 (fun _=>by kernel_rfl) (by decide) fun _=>rfl
noncomputable def TC:Nat→List Item:=fun i=>match i with
 |0=>[(.code (cd 150 [1,0,1,0,0])),(.inLoop (cd 150 [1,0,1,0,0])),(.inBlock 0),(.code (cd 150 [1,1]))]
 |_=>[]
def ZL:Nat→List Tmp:=fun i=>match i with
 |0=>[0,1,7,8]
 |_=>[]
theorem Ait(a0 a1:Value)(A:AW):gE W0 m0 S Q 150 19 TC ZL [a0,a1] A=(Aa (AB Tp A 86 a0) fun t0=>AE (TC 0) (TC 0) (S 0 [a0,a1,t0,(.int .i64 0)] A)):=by kernel_rfl
theorem AcA(d:Nat→Value)(A:AW):gL W0 m0 S Q 150 19 TC ZL d 0 A=(Aa (Af Tp .lss 3 (.tmp 8) (.tmp 7) (d 8) (d 7)) fun t0=>Ae t0 (Aa (Ag Tp 86 (d 0) (d 8)) fun t1=>Aa (Ad Tp A 134 t1) fun t2=>anW Tp Ak W0 m0 (Cu Tp Ak A (d 1) [t2]) fun t3 At3=>Ae t3 (Q (d 8) At3) (Aa (Af Tp .add 3 (.tmp 8) (.const (.int .i64 1)) (d 8) (.int .i64 1)) fun t4=>AE (TC 0) (TC 0) (S 0 [(d 0),(d 1),(d 7),t4] At3))) (Q (.int .i64 (-1)) A)):=by kernel_rfl
theorem Ag7:Wf2 150 19 TC ZL:=wf2 (fun _ _=>by kernel_rfl) (by decide) fun _ _=>rfl
theorem Ajm:B9 150 19 TC ZL:=Ce (by decide)
theorem Ais(a0:Value)(A:AW):gE W0 m0 S Q 151 17 Tz Lz [a0] A=(Al (Bk A (Value.cells a0).toList 82) fun t0 At0=>Aa (Ad Tp At0 82 t0) fun t1=>knW Tp W0 m0 156 [t1] At0 fun t2 At2=>Aa (Aw t2 0) fun t3=>Aa (Aw t2 1) fun t4=>Aa (Af Tp .eql 94 (.tmp 10) (.const (.int .i64 0)) t4 (.int .i64 0)) fun t5=>Ae t5 (Aa (AB Tp At2 9 t3) fun t6=>Aa (Af Tp .leq 3 (.tmp 14) (.const (.int .i64 8192)) t6 (.int .i64 8192)) fun t7=>Q t7 At2) (Q (.bool false) At2)):=by kernel_rfl
theorem Ag6:Wf1 151 17 Tz Lz:=wf1 (fun _=>by kernel_rfl) (by decide) fun _=>rfl
noncomputable def TB:Nat→List Item:=fun i=>match i with
 |0=>[(.code (cd 152 [1,0,1,0,0])),(.inLoop (cd 152 [1,0,1,0,0])),(.inBlock 0),(.code (cd 152 [1,1]))]
 |_=>[]
def ZK:Nat→List Tmp:=fun i=>match i with
 |0=>[0,1,7,8]
 |_=>[]
theorem Air(a0 a1:Value)(A:AW):gE W0 m0 S Q 152 19 TB ZK [a0,a1] A=(Aa (AB Tp A 87 a0) fun t0=>AE (TB 0) (TB 0) (S 0 [a0,a1,t0,(.int .i64 0)] A)):=by kernel_rfl
theorem Acz(d:Nat→Value)(A:AW):gL W0 m0 S Q 152 19 TB ZK d 0 A=(Aa (Af Tp .lss 3 (.tmp 8) (.tmp 7) (d 8) (d 7)) fun t0=>Ae t0 (Aa (Ag Tp 87 (d 0) (d 8)) fun t1=>Aa (Ad Tp A 120 t1) fun t2=>anW Tp Ak W0 m0 (Cu Tp Ak A (d 1) [t2]) fun t3 At3=>Ae t3 (Q (d 8) At3) (Aa (Af Tp .add 3 (.tmp 8) (.const (.int .i64 1)) (d 8) (.int .i64 1)) fun t4=>AE (TB 0) (TB 0) (S 0 [(d 0),(d 1),(d 7),t4] At3))) (Q (.int .i64 (-1)) A)):=by kernel_rfl
theorem Ag5:Wf2 152 19 TB ZK:=wf2 (fun _ _=>by kernel_rfl) (by decide) fun _ _=>rfl
theorem Ajl:B9 152 19 TB ZK:=Ce (by decide)
end
theorem Nz(b o:Nat):Ac Tp 37 (pP b o) 0=some (pP b o):=by kernel_rfl
theorem DU(b o:Nat):Ac Tp 41 (pP b o) 0=some (pP b o):=by kernel_rfl
theorem K8(b o:Nat):Ac Tp 41 (pP b o) 1=some (pP b (o+1)):=by kernel_rfl
theorem Q9(b o:Nat):Ac Tp 75 (pP b o) 1=some (pP b (o+1)):=by kernel_rfl
theorem Dm(b o:Nat):Ac Tp 80 (pP b o) 0=some (pP b o):=by kernel_rfl
theorem HW(b o:Nat):Ac Tp 80 (pP b o) 1=some (pP b (o+1)):=by kernel_rfl
theorem V1(b o:Nat):Ac Tp 82 (pP b o) 1=some (pP b (o+1)):=by kernel_rfl
theorem V0(b o:Nat):Ac Tp 82 (pP b o) 2=some (pP b (o+2)):=by kernel_rfl
theorem HT(b o:Nat):Ac Tp 84 (pP b o) 0=some (pP b o):=by kernel_rfl
theorem Nx(b o:Nat):Ac Tp 92 (pP b o) 0=some (pP b o):=by kernel_rfl
theorem Q6(b o:Nat):Ac Tp 92 (pP b o) 2=some (pP b (o+2)):=by kernel_rfl
theorem Q5(b o:Nat):Ac Tp 92 (pP b o) 3=some (pP b (o+3)):=by kernel_rfl
theorem EH(b o:Nat):Ac Tp 100 (pP b o) 0=some (pP b o):=by kernel_rfl
theorem D3(b o:Nat):Ac Tp 100 (pP b o) 1=some (pP b (o+3)):=by kernel_rfl
theorem Ld(b o:Nat):Ac Tp 100 (pP b o) 2=some (pP b (o+4)):=by kernel_rfl
theorem SX(b o:Nat):Ac Tp 100 (pP b o) 3=some (pP b (o+5)):=by kernel_rfl
theorem OG(b o:Nat):Ac Tp 100 (pP b o) 4=some (pP b (o+6)):=by kernel_rfl
theorem Hf(b o:Nat):Ac Tp 102 (pP b o) 0=some (pP b o):=by kernel_rfl
theorem Y1(b o:Nat):Ac Tp 102 (pP b o) 1=some (pP b (o+3)):=by kernel_rfl
theorem K9(b o:Nat):Ac Tp 120 (pP b o) 1=some (pP b (o+1)):=by kernel_rfl
theorem Fj(b o:Nat):Ac Tp 129 (pP b o) 0=some (pP b o):=by kernel_rfl
theorem Gf(b o:Nat):Ac Tp 129 (pP b o) 1=some (pP b (o+1)):=by kernel_rfl
theorem OF(b o:Nat):Ac Tp 129 (pP b o) 2=some (pP b (o+4)):=by kernel_rfl
theorem OE(b o:Nat):Ac Tp 134 (pP b o) 1=some (pP b (o+1)):=by kernel_rfl
theorem SU(b o:Nat):Ac Tp 239 (pP b o) 0=some (pP b o):=by kernel_rfl
theorem SS(b o:Nat):Ac Tp 239 (pP b o) 1=some (pP b (o+1)):=by kernel_rfl
theorem KR(A:AW)(a:Addr):Ad Tp A 4 (.pointer (some a))=A.cell? a:=by kernel_rfl
theorem Cl(A:AW)(a:Addr):Ad Tp A 32 (.pointer (some a))=A.cell? a:=by kernel_rfl
theorem G7(A:AW)(a:Addr):Ad Tp A 38 (.pointer (some a))=A.cell? a:=by kernel_rfl
theorem Sx(A:AW)(a:Addr):Ad Tp A 39 (.pointer (some a))=A.cell? a:=by kernel_rfl
theorem Aey(A:AW)(a:Addr):Ad Tp A 41 (.pointer (some a))=(match A.cells? a 2 with | some l=>some (.agg ⟨l⟩) | none=>none):=by kernel_rfl
theorem FZ(A:AW)(a:Addr):Ad Tp A 76 (.pointer (some a))=A.cell? a:=by kernel_rfl
theorem JF(A:AW)(a:Addr):Ad Tp A 97 (.pointer (some a))=A.cell? a:=by kernel_rfl
theorem VP(A:AW)(a:Addr):Ad Tp A 98 (.pointer (some a))=A.cell? a:=by kernel_rfl
theorem Acf(A:AW)(a:Addr):Ad Tp A 100 (.pointer (some a))=(match A.cells? a 7 with | some l=>some (.agg ⟨l⟩) | none=>none):=by kernel_rfl
theorem Ace(A:AW)(a:Addr):Ad Tp A 120 (.pointer (some a))=(match A.cells? a 2 with | some l=>some (.agg ⟨l⟩) | none=>none):=by kernel_rfl
theorem Acd(A:AW)(a:Addr):Ad Tp A 129 (.pointer (some a))=(match A.cells? a 5 with | some l=>some (.agg ⟨l⟩) | none=>none):=by kernel_rfl
theorem Acb(A:AW)(a:Addr):Ad Tp A 134 (.pointer (some a))=(match A.cells? a 12 with | some l=>some (.agg ⟨l⟩) | none=>none):=by kernel_rfl
theorem Aca(A:AW)(a:Addr):Ad Tp A 159 (.pointer (some a))=A.cell? a:=by kernel_rfl
theorem Ab9(A:AW)(a:Addr):Ad Tp A 178 (.pointer (some a))=A.cell? a:=by kernel_rfl
theorem Ab8(A:AW)(a:Addr):Ad Tp A 180 (.pointer (some a))=A.cell? a:=by kernel_rfl
theorem LP(A:AW)(a:Addr):Ad Tp A 182 (.pointer (some a))=(match A.cells? a 0 with | some l=>some (.agg ⟨l⟩) | none=>none):=by kernel_rfl
theorem UJ(A:AW)(a:Addr):Ad Tp A 203 (.pointer (some a))=A.cell? a:=by kernel_rfl
theorem Ab7(A:AW)(a:Addr):Ad Tp A 239 (.pointer (some a))=(match A.cells? a 2 with | some l=>some (.agg ⟨l⟩) | none=>none):=by kernel_rfl
theorem AhH(A:AW)(a:Addr)(v:Value):Bg Tp A 5 (.pointer (some a)) v=(bif Nat.beq v.cells.toList.length 1 then A.setCells a v.cells.toList else none):=by kernel_rfl
theorem Ad8(A:AW)(a:Addr)(v:Value):Bg Tp A 80 (.pointer (some a)) v=(bif Nat.beq v.cells.toList.length 5 then A.setCells a v.cells.toList else none):=by kernel_rfl
theorem AbP(A:AW)(a:Addr)(v:Value):Bg Tp A 100 (.pointer (some a)) v=(bif Nat.beq v.cells.toList.length 7 then A.setCells a v.cells.toList else none):=by kernel_rfl
theorem AbO(A:AW)(a:Addr)(v:Value):Bg Tp A 102 (.pointer (some a)) v=(bif Nat.beq v.cells.toList.length 4 then A.setCells a v.cells.toList else none):=by kernel_rfl
theorem AbN(A:AW)(a:Addr)(v:Value):Bg Tp A 120 (.pointer (some a)) v=(bif Nat.beq v.cells.toList.length 2 then A.setCells a v.cells.toList else none):=by kernel_rfl
theorem AbM(A:AW)(a:Addr)(v:Value):Bg Tp A 129 (.pointer (some a)) v=(bif Nat.beq v.cells.toList.length 5 then A.setCells a v.cells.toList else none):=by kernel_rfl
theorem AbL(A:AW)(a:Addr)(v:Value):Bg Tp A 134 (.pointer (some a)) v=(bif Nat.beq v.cells.toList.length 12 then A.setCells a v.cells.toList else none):=by kernel_rfl
theorem AbK(A:AW)(a:Addr)(v:Value):Bg Tp A 203 (.pointer (some a)) v=(bif Nat.beq v.cells.toList.length 1 then A.setCells a v.cells.toList else none):=by kernel_rfl
theorem XT(A:AW)(a:Addr)(v:Value):Bg Tp A 239 (.pointer (some a)) v=(bif Nat.beq v.cells.toList.length 2 then A.setCells a v.cells.toList else none):=by kernel_rfl
theorem AcL(b o n c i:Nat)(k:IntKind):Ag Tp 203 (.slice (some ⟨b,o,none⟩) n c) (.int k (.ofNat i))=(bif Nat.blt i n then some (.pointer (some (Eh ⟨b,o,none⟩ (i*1)))) else none):=by kernel_rfl
theorem AcK(b o n c i:Nat)(k:IntKind):Ag Tp 229 (.slice (some ⟨b,o,none⟩) n c) (.int k (.ofNat i))=(bif Nat.blt i n then some (.pointer (some (Eh ⟨b,o,none⟩ (i*1)))) else none):=by kernel_rfl
theorem Aes(A:AW)(a:Option Addr)(n c:Nat):AB Tp A 38 (.slice a n c)=some (.int .i64 n):=by kernel_rfl
theorem Aer(A:AW)(a:Option Addr)(n c:Nat):AB Tp A 39 (.slice a n c)=some (.int .i64 n):=by kernel_rfl
theorem Ab3(A:AW)(a:Option Addr)(n c:Nat):AB Tp A 203 (.slice a n c)=some (.int .i64 n):=by kernel_rfl
theorem Ab2(A:AW)(a:Option Addr)(n c:Nat):AB Tp A 229 (.slice a n c)=some (.int .i64 n):=by kernel_rfl
theorem tb:BT Tp 5 203 9 where
 sl:=by kernel_rfl
 sz:=by kernel_rfl
 by_:=by kernel_rfl
 hz:=by kernel_rfl
 us:=by kernel_rfl
 ub:=by kernel_rfl
 ust:=by kernel_rfl
 zt:=by kernel_rfl
 ln:=fun _ _ _ _=>by kernel_rfl
 ia:=fun _ _ _ _ _ _=>by kernel_rfl
 ld:=fun _ _=>by kernel_rfl
 st:=fun _ _ _=>by kernel_rfl
theorem GL(A:AW)(n:Int)(k:IntKind):AI Tp A 3 32 (.int k n)=.ok (.int .u64 (IntKind.u64.wrap n)) A:=by kernel_rfl
theorem Y8(A:AW)(n:Int)(k:IntKind):AI Tp A 3 5 (.int k n)=.ok (.int .u8 (IntKind.u8.wrap n)) A:=by kernel_rfl
theorem Ri(A:AW)(n:Int)(k:IntKind):AI Tp A 32 5 (.int k n)=.ok (.int .u8 (IntKind.u8.wrap n)) A:=by kernel_rfl
theorem V2(A:AW)(n:Int)(k:IntKind):AI Tp A 5 21 (.int k n)=.ok (.int .i32 (IntKind.i32.wrap n)) A:=by kernel_rfl
theorem Rh(A:AW)(n:Int)(k:IntKind):AI Tp A 5 3 (.int k n)=.ok (.int .i64 (IntKind.i64.wrap n)) A:=by kernel_rfl
theorem AfB(A:AW)(n:Int):AG Tp A 203 1 [(0,.int .u8 n)]=(match A.newRow [.int .u8 n] 5 with | some (a,w')=>.ok (.slice (some a) 1 1) w' | none=>.fail "buildSlice new"):=by kernel_rfl
theorem AaA(A:AW)(n m:Int):AG Tp A 203 2 [(0,.int .u8 n),(1,.int .u8 m)]=(match A.newRow [.int .u8 n,.int .u8 m] 5 with | some (a,w')=>.ok (.slice (some a) 2 2) w' | none=>.fail "buildSlice new"):=by kernel_rfl
theorem V8(A:AW)(a b c d:Int):AG Tp A 203 4 [(0,.int .u8 a),(1,.int .u8 b),(2,.int .u8 c),(3,.int .u8 d)]=(match A.newRow [.int .u8 a,.int .u8 b,.int .u8 c,.int .u8 d] 5 with | some (a,w')=>.ok (.slice (some a) 4 4) w' | none=>.fail "buildSlice new"):=by kernel_rfl
structure Grow (A A':AW) (n:Nat):Prop where
 keeps:Bs A A' []
 Ap:AH A'
 next:A'.next≤A.next+n
theorem Grow.le{A A':AW}{n:Nat}(h:Grow A A' n):A.next≤A'.next:=h.keeps.next
theorem Grow.refl{A:AW}(hf:AH A):Grow A A 0:=⟨.refl _ _,hf,Nl _⟩
theorem Grow.trans{A B C:AW}{n m:Nat}(h:Grow A B n)(k:Grow B C m):Grow A C (n+m):=⟨h.keeps.trans k.keeps (by simp),k.Ap,by have:=h.next;have:=k.next;omega⟩
theorem Grow.more{A B:AW}{n m:Nat}(h:Grow A B n)(hm:n≤m):Grow A B m:=⟨h.keeps,h.Ap,by have:=h.next;omega⟩
theorem Grow.made{A A':AW}{cs:List Value}{e:TypeId}(m:Made A A' cs e)(hf:AH A):Grow A A' 1:=⟨m.keeps hf,m.Ap,by rw [m.next];omega⟩
theorem Grow.own{A B C:AW}{n m:Nat}{F:List Nat}(h:Grow A B n)(k:Bs B C F)(hF:∀ x∈F,A.next≤x)(hc:C.next≤B.next+m)(hf:AH C):Grow A C (n+m):=
 ⟨h.keeps.trans k (fun x hx=>.inr (hF x hx)),hf,by have:=h.next;omega⟩
theorem AcN(a b:ByteArray):quiet Tp (callFunc 117 ⟨[.string a,.string b]⟩)=some (.value (.int .i64 (Go.Extern.BytealgCompare.cmp a b))):=by kernel_rfl
section
variable {W0:World} {m0:Inj Tp}
theorem Af8{a b:ByteArray}{A:AW}{K:Value→AW→Prop}(hk:K (.int .i64 (Db a b)) A):Wc Tp Ak W0 m0 84 [.string a,.string b] A K:=by
 refine w84 _ _ _ (Au (S:=fun _ _ _=>False) fun _ _ _ h=>h) ?_;rw [e84];have hb:HP Tp 117=false:=by kernel_rfl
 have hcf:Co Tp Ak A 117 [.string a,.string b]=.ok (.value (.int .i64 (Db a b))) A:=by
  unfold Co;have hc:([Value.string a,.string b].all (Av 4))=true:=rfl;simp only [hb,Cf,Ak,DZ,hc,Ct,AcN,Go.Lib.cmp_eq];rfl
 exact .inl ⟨_,_,hcf,hk⟩
theorem Z3{a b:ByteArray}{A:AW}{K:Value→AW→Prop}(hk:K (.int .i64 (Db a b)) A):Wc Tp Ak W0 m0 58 [.string a,.string b] A K:=by
 refine w58 _ _ _ (Au (S:=fun _ _ _=>False) fun _ _ _ h=>h) ?_;rw [e58];exact Af8 hk
theorem Adq{n:Int}{A:AW}{K:Value→AW→Prop}(hk:K (.bool false) A):Wc Tp Ak W0 m0 83 [.int .u32 n] A K:=by
 refine w83 _ _ (Au (S:=fun _ _ _=>False) fun _ _ _ h=>h) ?_;rw [e83]
 have:(n != n)=false:=by simp
 simp only [AR,Ab,this];exact hk
theorem Ago{n m:Int}{A:AW}{K:Value→AW→Prop}(hk:K (.int .i64 (Ep n m)) A):Wc Tp Ak W0 m0 57 [.int .u32 n,.int .u32 m] A K:=by
 refine w57 _ _ _ (Au (S:=fun _ _ _=>False) fun _ _ _ h=>h) ?_;rw [e57];refine Adq (Adq ?_);refine Aj.2 ⟨fun h=>by simp at h,fun _=>Aj.2 ⟨fun h=>by simp at h,fun _=>?_⟩⟩;simp only [Ar,Bc,Ab,Ah];unfold Ep at hk;refine ⟨fun h=>?_,fun h=>⟨fun h2=>?_,fun h2=>?_⟩⟩
 ·rw [if_pos h] at hk;exact hk
 ·rw [Ff h,if_pos h2] at hk;exact hk
 ·rw [Ff h,Ff h2] at hk;exact hk
theorem YT{q n i:Nat}(hi:i<n):Ag Tp 143 (.slice (some ⟨q,0,none⟩) n n) (.int .i64 (i:Int))=some (pP q i):=by
 show Ag Tp 143 _ (.int .i64 (.ofNat i))=_;rw [YR,AF.2 hi,Ct];unfold Eh;cases hb:Nat.beq (i*1) 0 with
 |true=>rw [Ct];have:=Nb hb;rw [Nat.mul_one] at this;rw [this]
 |false=>rw [Cf,Nat.mul_one,Nat.zero_add]
theorem Agp{q:Nat}{a b c:Int}{A:AW}{K:Value→AW→Prop}(hr:Go.Abs.Row1 A q [.int .i64 a,.int .i64 b,.int .i64 c] 3)(hk:K (.int .i64 (orL [a,b,c])) A):Wc Tp Ak W0 m0 56 [.slice (some ⟨q,0,none⟩) 3 3] A K:=by
 let I:Nat→Nat→List Value→AW→Prop:=fun g id vals A'=>id=0∧A'=A∧∃ i:Nat,vals=[.int .i64 0,.slice (some ⟨q,0,none⟩) 3 3,.int .i64 3,.int .i64 (i:Int)]∧g=3-i∧i≤3∧orL [a,b,c]=orL ([a,b,c].drop i);refine w56 _ _ (c56 (I:=I) ?_) ?_
 ·rintro g id vals A' d ⟨rfl,rfl,i,rfl,rfl,hi,ho⟩ hd;rw [Abb];simp only [L56,Mc,Mn,Li,and_true] at hd;obtain ⟨h3,h6,h7,h8⟩:=hd;simp only [h3,h6,h7,h8,Ar,Ab,Ah];have hcase:i=0∨i=1∨i=2∨i=3:=by omega
  have fin:∀ {x:Int} {r:List Int},[a,b,c].drop i=x::r→Ad Tp A' 3 (pP q i)=some (.int .i64 x)→i<3→
    Aa (Ad Tp A' 3 (pP q i)) fun t2=>Aa (Af Tp .neq 3 (.tmp 12) (.tmp 13) t2 (.int .i64 0)) fun t3=>Ae t3 (K t2 A') (Aa (Af Tp .add 3 (.tmp 8) (.const (.int .i64 1)) (.int .i64 (i:Int)) (.int .i64 1)) fun t4=>AE (T56 0) (T56 0) (∃ g',g'<3-i∧I g' 0 [.int .i64 0,.slice (some ⟨q,0,none⟩) 3 3,.int .i64 3,t4] A')):=by
   intro x r hdr hld hlt;rw [hld];simp only [Ab,AR,AL,AA];rw [hdr] at ho;refine ⟨fun hx=>?_,fun hx=>?_⟩
   ·rw [ho] at hk;simp only [orL] at hk;rw [if_pos hx] at hk;exact hk
   ·rw [wrap_i64 (by omega) (by omega)];refine Ai.2 ⟨3-(i+1),by omega,rfl,rfl,i+1,rfl,rfl,by omega,?_⟩
    have:[a,b,c].drop (i+1)=r:=by rw [← List.drop_drop,hdr];rfl
    rw [this,ho];simp only [orL];rw [Ff (by simp [hx])]
  rcases hcase with rfl | rfl | rfl | rfl
  ·refine ⟨fun _=>?_,fun h=>absurd (by decide) h⟩;rw [YT (by decide)];simp only [Ab];exact fin rfl (by rw [UI,Ax hr.row];rfl) (by decide)
  ·refine ⟨fun _=>?_,fun h=>absurd (by decide) h⟩;rw [YT (by decide)];simp only [Ab];exact fin rfl (by rw [UI,Ax hr.row];rfl) (by decide)
  ·refine ⟨fun _=>?_,fun h=>absurd (by decide) h⟩;rw [YT (by decide)];simp only [Ab];exact fin rfl (by rw [UI,Ax hr.row];rfl) (by decide)
  ·refine ⟨fun h=>absurd h (by decide),fun _=>?_⟩;rw [ho] at hk;exact hk
 ·rw [e56];simp only [YE,Ab];exact Ai.2 ⟨3,rfl,rfl,0,rfl,rfl,by decide,rfl⟩
theorem WO{A:AW}{a b c:Int}{K:Value→AW→Prop}(hf:AH A)(h:A.next<Ao)(hk:∀ A',Made A A' [.int .i64 a,.int .i64 b,.int .i64 c] 3→K (.slice (some ⟨A.next,0,none⟩) 3 3) A'):Al (AG Tp A 143 3 [(0,.int .i64 a),(1,.int .i64 b),(2,.int .i64 c)]) K:=by
 rw [AfC];unfold AW.newRow AW.new;have hc:([Value.int .i64 a,.int .i64 b,.int .i64 c].all AT)=true:=rfl;simp only [hc,Ct,AF.2 h];exact AU.2 (hk (A.push (.row [.int .i64 a,.int .i64 b,.int .i64 c] 3 A.next 0 false)) ⟨AW.C6 _ h,rfl,by rw [AW.B8 _ h,if_pos rfl],hf.alone (Nl _),hf.push _ h⟩)
theorem UM{a b c:Int}{A:AW}{q:Nat}{p:Prop}(h:A.get q=some (.row [.int .i64 a,.int .i64 b,.int .i64 c] 3 q 0 false))(hp:p):EC (BS Tp (BI (Tm.fill ⟨3,.nil⟩ 0 [.int .i64 a,.int .i64 b,.int .i64 c])) (.buildSlice 143 3 #[(0,.tmp 0),(1,.tmp 1),(2,.tmp 2)])) A (.slice (some ⟨q,0,none⟩) 3 3) p:=by
 refine ⟨⟨_,YW a b c,?_⟩,hp⟩;simp only [Cq,HC,h,Fu,NP,Bool.and_self,Option.isNone_none,Bool.true_and,Nat.beq_refl]
theorem Wi{p q:Nm}{A:AW}{K:Value→AW→Prop}(hf:AH A)(hA:A.next+5<Ao)(hk:∀ A',Grow A A' 3→K (.int .i64 (B6 p q)) A'):Wc Tp Ak W0 m0 27 [.agg ⟨p.cells⟩,.agg ⟨q.cells⟩] A K:=by
 refine w27 _ _ _ (Au (S:=fun _ _ _=>False) fun _ _ _ h=>h) ?_;rw [e27];refine Am (cs:=p.cells) hf (by omega) rfl fun A1 m1=>?_;have n1:=m1.next;refine Am (cs:=q.cells) m1.Ap (by omega) rfl fun A2 m2=>?_;have n2:=m2.next;have g2:=(Grow.made m1 hf).trans (.made m2 m1.Ap);have r1:Go.Abs.Row1 A2 A.next [.int .u32 (p.f:Int),.string p.g,.string p.b] 46:=(m1.AS).keeps (m2.keeps m1.Ap) (by simp);have r2:Go.Abs.Row1 A2 A1.next [.int .u32 (q.f:Int),.string q.g,.string q.b] 46:=m2.AS;simp only [Ny,K7,K6,P5,B1,Ax r1.row,Ax r2.row,cellOf,isTuple,Cf,Ab,Nat.zero_add];refine Ago ?_;simp only [Ax r1.row,Ax r2.row,cellOf,isTuple,Cf,Ab,BA];refine Z3 ?_;simp only [Ax r1.row,Ax r2.row,cellOf,isTuple,Cf,Ab,BA];refine Z3 ?_;refine WO m2.Ap (by omega) fun A3 m3=>?_;have n3:=m3.next;have q1:=r1.keeps (m3.keeps m2.Ap) (by simp);have q2:=r2.keeps (m3.keeps m2.Ap) (by simp);refine UM m3.row ?_;simp only [Ax q1.row,Ax q2.row,cellOf,isTuple,Cf,Ab,BA];exact Agp m3.AS (hk A3 (g2.trans (.made m3 m2.Ap)))
end
def Bm(s:ByteArray):Nat:=s.data.toList.length
theorem Abj:∀ (i:Nat) (a b:List UInt8),a.take i=b.take i→i≤a.length→i≤b.length→Go.Lib.compareBytes a b=Go.Lib.compareBytes (a.drop i) (b.drop i)
 |0,a,b,_,_,_=>rfl
 |i+1,[],b,_,h,_=>by simp at h
 |i+1,_::_,[],_,_,h=>by simp at h
 |i+1,a::xs,b::ys,h,h1,h2=>by
  simp only [List.take_succ_cons,Li] at h;obtain ⟨rfl,h⟩:=h;simp only [Go.Lib.compareBytes,UInt8.lt_irrefl,if_false,List.drop_succ_cons];exact Abj i xs ys h (by simpa using h1) (by simpa using h2)
theorem Ac2{a b:UInt8}{xs ys:List UInt8}(h:(a.toNat:Int)≠(b.toNat:Int)):(a.toNat:Int)<(b.toNat:Int)↔Go.Lib.compareBytes (a::xs) (b::ys)<0:=by
 simp only [Go.Lib.compareBytes];by_cases h1:a<b
 ·have:=UInt8.lt_iff_toNat_lt.1 h1
  rw [if_pos h1];omega
 ·have hn:¬ a.toNat<b.toNat:=fun h=>h1 (UInt8.lt_iff_toNat_lt.2 h);have h2:b<a:=UInt8.lt_iff_toNat_lt.2 (by omega);rw [Ff h1,if_pos h2];omega
theorem Ac1{a b:List UInt8}(h:a=[]∨b=[]):Go.Lib.compareBytes a b<0↔a.length<b.length:=by
 cases a with
 |nil=>cases b<;>simp [Go.Lib.compareBytes]
 |cons x a=>
  cases b with
  |nil=>simp [Go.Lib.compareBytes]
  |cons y b=>simp at h
theorem AcH{s:ByteArray}{i:Nat}{c:UInt8}(h:s.data.toList[i]? =some c):BU Tp 9 (.string s) (.int .i64 (i:Int))=some (.int .u8 (c.toNat:Int)):=by
 show BU Tp 9 (.string s) (.int .i64 (.ofNat i))=some (.int .u8 (c.toNat:Int));unfold BU;simp only [AbE];rw [h]
theorem YN{p q:Nm}:QX p q=false↔p≠q:=by
 rw [← Bool.not_eq_true,Dr]
theorem YC{A:AW}{b:Nat}{p:Nm}{e:TypeId}(h:Go.Abs.Row1 A b p.cells e):Ad Tp A 46 (pP b 0)=some (.agg ⟨p.cells⟩):=by
 rw [Aex,Bd h.row];rfl
section
variable {W0:World} {m0:Inj Tp}
theorem Adp{A:AW}{a b:ByteArray}{K:Value→AW→Prop}(ha:Bm a<9223372036854775808)(hk:K (.bool (decide (Db a b<0))) A):Wc Tp Ak W0 m0 85 [.string a,.string b] A K:=by
 let I:Nat→Nat→List Value→AW→Prop:=fun g id vals A'=>id=0∧A'=A∧∃ i:Nat,vals=[.string a,.string b,.int .i64 (i:Int)]∧i≤Bm a∧i≤Bm b∧a.data.toList.take i=b.data.toList.take i∧g=Bm a-i;have hsa:a.data.toList.length=Bm a:=rfl;have hsb:b.data.toList.length=Bm b:=rfl;refine w85 _ _ _ (c85 (I:=I) ?_) ?_
 ·rintro g id vals A' d ⟨rfl,rfl,i,rfl,hi,hi2,ht,rfl⟩ hd;rw [AeG];simp only [L85,Mc,Mn,Li,and_true] at hd;obtain ⟨h0,h1,h5⟩:=hd;have hat:=Abj i a.data.toList b.data.toList ht (by omega) (by omega);simp only [h0,h1,h5,Eb,hsa,hsb,Ar,Ab,Ah];have hend:(i=Bm a∨i=Bm b)→K (.bool (decide ((Bm a:Int)<(Bm b:Int)))) A':=fun h=>by
   have e:decide (Db a b<0)=decide ((Bm a:Int)<(Bm b:Int)):=by
    apply decide_eq_decide.2;unfold Db;rw [hat,Ac1]
    ·rw [List.length_drop,List.length_drop,hsa,hsb];omega
    ·rcases h with h | h
     ·exact .inl (List.drop_eq_nil_of_le (by omega))
     ·exact .inr (List.drop_eq_nil_of_le (by omega))
   rw [e] at hk;exact hk
  refine ⟨fun hlt=>⟨fun hlt2=>?_,fun h=>hend (.inr (by omega))⟩,fun h=>hend (.inl (by omega))⟩;have g1:i<a.data.toList.length:=by omega
  have g2:i<b.data.toList.length:=by omega
  have e1:=AcH (Ge g1);have e2:=AcH (Ge g2);simp only [e1,e2,AR,Ar,AA,Ab,AL];refine ⟨fun hne=>?_,fun heq=>?_⟩
  ·have e:decide (Db a b<0)=decide ((a.data.toList[i].toNat:Int)<(b.data.toList[i].toNat:Int)):=by
    apply decide_eq_decide.2;unfold Db;rw [Ac2 (xs:=a.data.toList.drop (i+1)) (ys:=b.data.toList.drop (i+1)) hne,← List.drop_eq_getElem_cons,← List.drop_eq_getElem_cons,← hat]
   rw [e] at hk;exact hk
  ·rw [wrap_i64 (by omega) (by omega)];refine Ai.2 ⟨Bm a-(i+1),by omega,rfl,rfl,i+1,rfl,by omega,by omega,?_,rfl⟩;have hc:a.data.toList[i]=b.data.toList[i]:=by
    apply UInt8.toNat_inj.1;omega
   rw [List.take_add_one,List.take_add_one,ht,Ge g1,Ge g2,hc]
 ·rw [e85];exact Ai.2 ⟨_,rfl,rfl,0,rfl,by omega,by omega,by simp,rfl⟩
theorem Z2{A:AW}{p q:Nm}{K:Value→AW→Prop}(hf:AH A)(hA:A.next+4<Ao)(h1:Bm p.g<9223372036854775808)(h2:Bm p.b<9223372036854775808)(hk:∀ A' r,Grow A A' 2→(r<0↔B6 p q<0)→K (.int .i64 r) A'):Wc Tp Ak W0 m0 59 [.agg ⟨p.cells⟩,.agg ⟨q.cells⟩] A K:=by
 refine w59 _ _ _ (Au (S:=fun _ _ _=>False) fun _ _ _ h=>h) ?_;rw [e59];refine Am (cs:=p.cells) hf (by omega) rfl fun A1 m1=>?_;have n1:=m1.next;refine Am (cs:=q.cells) m1.Ap (by omega) rfl fun A2 m2=>?_;have gr:=(Grow.made m1 hf).trans (.made m2 m1.Ap);have r1:Go.Abs.Row1 A2 A.next p.cells 46:=m1.AS.keeps (m2.keeps m1.Ap) (by simp);have r2:Go.Abs.Row1 A2 A1.next q.cells 46:=m2.AS;have t1:=YC r1;have t2:=YC r2;have r1:Go.Abs.Row1 A2 A.next [.int .u32 (p.f:Int),.string p.g,.string p.b] 46:=r1;have r2:Go.Abs.Row1 A2 A1.next [.int .u32 (q.f:Int),.string q.g,.string q.b] 46:=r2;simp only [t1,t2,eqN,Ab];have hlt {r:Int} (hr:r<0↔B6 p q<0):K (.int .i64 r) A2:=hk A2 r gr hr;have hcs:∀ x y:ByteArray,(!(x.data.toList==y.data.toList))=true↔x≠y:=fun x y=>by
  rw [Bool.not_eq_true',beq_eq_false_iff_ne];exact ⟨fun h e=>h (by rw [e]),fun h e=>h (OW e)⟩
 have hcs0:∀ x y:ByteArray,(!(x.data.toList==y.data.toList))=false↔x=y:=fun x y=>by
  rw [Bool.not_eq_false',beq_iff_eq];exact ⟨fun h=>OW h,fun h=>by rw [h]⟩
 refine Aj.2 ⟨fun h=>?_,fun h=>?_⟩
 ·have:=Dr.1 h
  subst this;exact hlt (by rw [C2.2 rfl])
 have hne:=YN.1 h;have hcz:∀ {x y:ByteArray},x≠y→Db x y≠0:=fun h e=>h (Cg.1 e);simp only [Ny,K7,K6,B1,Ax r1.row,Ax r2.row,cellOf,B7,BX,Cf,Ab,Nat.zero_add];refine Adp h2 ?_;simp only [Ny,K7,K6,B1,P5,Ax r1.row,Ax r2.row,cellOf,B7,BX,Cf,BP,AR,Ar,Ab,AL,Ah,Nat.zero_add];refine Aj.2 ⟨fun hg=>?_,fun hg=>⟨fun hff=>⟨fun h3=>hlt ?_,fun h3=>hlt ?_⟩,fun hff=>⟨fun h3=>hlt ?_,fun h3=>hlt ?_⟩⟩⟩
 ·have hg:=(hcs _ _).1 hg;refine Adp h1 ?_;simp only [Ny,P5,Ax r1.row,Ax r2.row,cellOf,B7,BX,Cf,AR,Ar,Ab,AL,Ah,Nat.zero_add];refine ⟨fun hff=>⟨fun h3=>hlt ?_,fun h3=>hlt ?_⟩,fun hff=>⟨fun h3=>hlt ?_,fun h3=>hlt ?_⟩⟩<;>rw [NJ]
  ·exact ⟨fun _=>.inl (by omega),fun _=>by decide⟩
  ·refine ⟨fun h=>absurd h (by decide),fun h=>?_⟩;rcases h with h | ⟨h,_⟩<;>omega
  ·exact ⟨fun _=>.inr ⟨by omega,.inl h3⟩,fun _=>by decide⟩
  ·refine ⟨fun h=>absurd h (by decide),fun h=>?_⟩;rcases h with h | ⟨h,h4 | ⟨h4,_⟩⟩
   ·omega
   ·exact absurd h4 h3
   ·exact absurd h4 hg
 all_goals have hg:=(hcs0 _ _).1 hg
 all_goals rw [NJ]
 ·exact ⟨fun _=>.inl (by omega),fun _=>by decide⟩
 ·refine ⟨fun h=>absurd h (by decide),fun h=>?_⟩;rcases h with h | ⟨h,_⟩<;>omega
 ·exact ⟨fun _=>.inr ⟨by omega,.inr ⟨hg,h3⟩⟩,fun _=>by decide⟩
 ·refine ⟨fun h=>absurd h (by decide),fun h=>?_⟩;rcases h with h | ⟨h,h4 | ⟨_,h4⟩⟩
  ·omega
  ·exact absurd h4 (by rw [hg,Cg.2 rfl];decide)
  ·exact absurd h4 h3
end
theorem V9{P:Program}{t:TypeId}{xo yo:Operand}{k:IntKind}{a b:Int}:Af P .mul t xo yo (.int k a) (.int k b)=some (.int k (k.wrap (a*b))):=by simp [Af,binOp,Op.intArith,quiet,Cj,Av,pure]
theorem AaB{P:Program}{t:TypeId}{xo yo:Operand}{k:IntKind}{a b:Int}(hb:b≠0):Af P .rem t xo yo (.int k a) (.int k b)=some (.int k (a.tmod b)):=by simp [Af,binOp,Op.intDiv,hb,quiet,Cj,Av,pure]
theorem AaC{P:Program}{t:TypeId}{xo yo:Operand}{k:IntKind}{a b:Int}(hb:b≠0):Af P .quo t xo yo (.int k a) (.int k b)=some (.int k (k.wrap (a.tdiv b))):=by simp [Af,binOp,Op.intDiv,hb,quiet,Cj,Av,pure]
theorem HZ{P:Program}{t:TypeId}{xo yo:Operand}{k k2:IntKind}{a b:Int}(hb:¬ b<0):Af P .shr t xo yo (.int k a) (.int k2 b)=some (.int k (a.fdiv (2^(min b.toNat k.bits)))):=by simp [Af,binOp,Op.shift,hb,quiet,Cj,Av,pure]
theorem wrap_u8{n:Int}:IntKind.u8.wrap n=n%256:=by
 simp [IntKind.wrap,IntKind.bits,IntKind.signed]
theorem wrap_u64{n:Int}(h1:0≤n)(h2:n<18446744073709551616):IntKind.u64.wrap n=n:=by
 simp [IntKind.wrap,IntKind.bits,IntKind.signed];omega
theorem N4(n:Nat):((UInt8.ofNat n).toNat:Int)=(n:Int)%256:=by
 rw [UInt8.toNat_ofNat'];omega
def be(n:Nat):Nat→List UInt8
 |0=>[]
 |i+1=>UInt8.ofNat (n/256^i)::be n i
theorem AP(n:Nat):∀ i,(be n i).length=i
 |0=>rfl
 |i+1=>by rw [be,Lc,AP n i]
theorem Aax(n i:Nat):IntKind.u8.wrap ((n:Int).fdiv (2^(8*i)))=((UInt8.ofNat (n/256^i)).toNat:Int):=by
 rw [wrap_u8,N4,Int.fdiv_eq_ediv_of_nonneg _ (Int.pow_nonneg (by decide))];rw [show (2:Int)^(8*i)=((256^i:Nat):Int) by rw [Int.pow_mul,show (2:Int)^8=((256:Nat):Int) from by decide,Int.natCast_pow]];rfl
theorem Xp{w i:Nat}(n:Nat)(h:i<w):NO (List.replicate (w-i) (.int .u8 0)++Bj (be n i)) (w-1-i) [.int .u8 ((UInt8.ofNat (n/256^i)).toNat:Int)]=List.replicate (w-(i+1)) (.int .u8 0)++Bj (be n (i+1)):=by
 have e1:w-i=(w-1-i)+1:=by omega
 have e2:w-(i+1)=w-1-i:=by omega
 rw [e1,e2,List.replicate_succ',Mw];have h:=Kk (List.replicate (w-1-i) (Value.int .u8 0)) [.int .u8 0] [.int .u8 ((UInt8.ofNat (n/256^i)).toNat:Int)] (Bj (be n i)) rfl;rw [List.length_replicate] at h;rw [h];rfl
section
variable {W0:World} {m0:Inj Tp}
theorem AaQ{w:Int}{A:AW}{K:Value→AW→Prop}(hk:K (.bool (w==1 || (w==2 || (w==4 || w==8)))) A):Wc Tp Ak W0 m0 168 [.int .i64 w] A K:=by
 refine AgP _ _ (Au (S:=fun _ _ _=>False) fun _ _ _ h=>h) ?_;rw [Aib];simp only [AQ,Ab,Aq];refine ⟨fun h=>by subst h;exact hk,fun h1=>⟨fun h=>by subst h;exact hk,fun h2=>⟨fun h=>by subst h;exact hk,fun h3=>⟨fun h=>by subst h;exact hk,fun h4=>?_⟩⟩⟩⟩
 have:(w==1 || (w==2 || (w==4 || w==8)))=false:=by simp [h1,h2,h3,h4]
 rw [this] at hk;exact hk
theorem Jo{A:AW}{n:Int}{K:Value→AW→Prop}(hf:AH A)(h:A.next<Ao)(hk:∀ A',Made A A' [.int .u8 n] 5→K (.slice (some ⟨A.next,0,none⟩) 1 1) A'):Al (AG Tp A 203 1 [(0,.int .u8 n)]) K:=by
 rw [AfB];unfold AW.newRow AW.new;simp only [show ([Value.int .u8 n].all AT)=true from rfl,Ct,AF.2 h];exact AU.2 (hk (A.push (.row [.int .u8 n] 5 A.next 0 false)) ⟨AW.C6 _ h,rfl,by rw [AW.B8 _ h,if_pos rfl],hf.alone (Nl _),hf.push _ h⟩)
theorem Xi{A:AW}{b:Nat}{c:UInt8}(h:Go.Abs.Row1 A b [.int .u8 c.toNat] 5):Buf 5 A (.slice (some ⟨b,0,none⟩) 1 1) [c] [b]:=
 .inr (.inr ⟨b,1,[],rfl,by decide,by simpa [Bj] using h,rfl,rfl,rfl⟩)
theorem AaO {n w:Nat} {A:AW} {K:Value→AW→Prop} (hf:AH A) (hA:A.next+1<Ao) (hw:w≤8)
  (hk:∀ A' v F,Grow A A' 1→Buf 5 A' v (be n w) F→(∀ x∈F,A.next≤x)→K v A'):Wc Tp Ak W0 m0 170 [.int .u64 (n:Int),.int .i64 (w:Int)] A K:=by
 let I:Nat→Nat→List Value→AW→Prop:=fun g id vals A'=>id=0∧∃ i:Nat,vals=[.int .u64 (n:Int),.int .i64 (w:Int),.slice (some ⟨A.next,0,none⟩) w w,.int .i64 (w:Int),.int .i64 (i:Int)]∧i≤w∧
  Go.Abs.Row1 A' A.next (List.replicate (w-i) (.int .u8 0)++Bj (be n i)) 5∧Grow A A' 1∧A'.next=A.next+1∧g=w-i
 refine AgN _ _ _ (Ajd (I:=I) ?_) ?_
 ·rintro g id vals A' d ⟨rfl,i,rfl,hi,hr,hg,hn,rfl⟩ hd;rw [Acn];have h0:d 0=.int .u64 (n:Int):=by simp [Ry] at hd;exact hd.1
  have h1:d 1=.int .i64 (w:Int):=by simp [Ry] at hd;exact hd.2.1
  have h5:d 5=.slice (some ⟨A.next,0,none⟩) w w:=by simp [Ry] at hd;exact hd.2.2.1
  have h10:d 10=.int .i64 (w:Int):=by simp [Ry] at hd;exact hd.2.2.2.1
  have h11:d 11=.int .i64 (i:Int):=by simp [Ry] at hd;exact hd.2.2.2.2
  simp only [h0,h1,h5,h10,h11,Ar,Cp,V9,Ab,Ah];refine ⟨fun hlt=>?_,fun hge=>?_⟩
  ·have hlt:i<w:=by omega
   rw [wrap_i64 (n:=(w:Int)-1) (by omega) (by omega),wrap_i64 (n:=(w:Int)-1-i) (by omega) (by omega),wrap_i64 (n:=8*(i:Int)) (by omega) (by omega)];have e2:(w:Int)-1-i=((w-1-i:Nat):Int):=by omega
   have e3:min (8*(i:Int)).toNat (IntKind.bits .u64)=8*i:=by show min _ 64=_;omega
   rw [HZ (by omega),e2,e3];simp only [Ab,Ri,AU,Aax];have hia:Ag Tp 203 (.slice (some ⟨A.next,0,none⟩) w w) (.int .i64 ((w-1-i:Nat):Int))=some (.pointer (some ⟨A.next,w-1-i,none⟩)):=by
    show Ag Tp 203 _ (.int .i64 (.ofNat (w-1-i)))=_;rw [AcL,AF.2 (by omega),Ct];unfold Eh;cases hb:Nat.beq ((w-1-i)*1) 0 with
    |true=>rw [Ct];have:=Nb hb;rw [Nat.mul_one] at this;rw [this]
    |false=>rw [Cf,Nat.mul_one,Nat.zero_add]
   rw [hia];simp only [Ab,AA];refine hr.store hg.Ap (by omega) (AhH _ _ _) rfl (by simp [Value.cells,AP];omega) rfl fun A2 r2 k2 n2 f2=>?_;have hs:NO (List.replicate (w-i) (Value.int .u8 0)++Bj (be n i)) (w-1-i) (Value.cells (.int .u8 ((UInt8.ofNat (n/256^i)).toNat:Int))).toList=_:=Xp n hlt;rw [hs] at r2;rw [wrap_i64 (by omega) (by omega)];refine Ai.2 ⟨w-(i+1),by omega,rfl,i+1,rfl,by omega,r2,?_,by omega,rfl⟩;exact hg.own k2 (by simp) (m:=0) (by omega) f2
  ·have hi:i=w:=by omega
   subst hi;rw [Nat.sub_self] at hr;refine hk A' _ [A.next] hg ?_ (by simp);refine .inr (.inr ⟨A.next,i,[],?_,by have:room=68719476736:=rfl;omega,by simpa using hr,by rw [AP];rfl,rfl,rfl⟩);rw [AP]
 ·rw [Ah9];refine P2 tb hf (by omega) (Nl w) (by have:room=68719476736:=rfl;omega) fun A1 m1=>?_;simp only [Ab3,Ab];refine Ai.2 ⟨w,rfl,0,rfl,by omega,?_,.made m1 hf,m1.next,rfl⟩
  simpa [be,Bj] using m1.AS
theorem RI {n w:Nat} {A:AW} {K:Value→AW→Prop} (hf:AH A) (hA:A.next+20<Ao) (hn:n<18446744073709551616) (hw:w≤8)
  (hk:∀ A' v F,Grow A A' 16→Buf 5 A' v (be n w) F→(∀ x∈F,A.next≤x)→K v A'):Wc Tp Ak W0 m0 155 [.int .u64 (n:Int),.int .i64 (w:Int)] A K:=by
 let I:Nat→Nat→List Value→AW→Prop:=fun g id vals A'=>id=0∧∃ (i:Nat) (v:Value) (F:List Nat),vals=[.int .u64 ((n/256^i:Nat):Int),.int .i64 (w:Int),v,.int .i64 (i:Int)]∧i≤w∧
  Buf 5 A' v (be n i) F∧(∀ x∈F,A.next≤x)∧Grow A A' (2*i)∧g=w-i
 refine Ag2 _ _ _ (Ajj (I:=I) ?_) ?_
 ·rintro g id vals A' d ⟨rfl,i,v,F,rfl,hi,hb,hF,hg,rfl⟩ hd;rw [Acw];simp only [ZJ,Mc,Mn,Li,and_true] at hd;obtain ⟨h0,h1,h5,h6⟩:=hd;have hnx:=hg.next;have hq:n/256^i<18446744073709551616:=Nat.lt_of_le_of_lt (Nat.div_le_self _ _) hn;obtain ⟨q,hqd⟩:∃ q,n/256^i=q:=⟨_,rfl⟩;rw [hqd] at h0 hq;simp only [h0,h1,h5,h6,Ar,Ab,Ah];refine ⟨fun hlt=>?_,fun hge=>?_⟩
  ·have hlt:i<w:=by omega
   rw [AaB (by decide),AaC (by decide)];simp only [Ab,Ri,AU];have hx:IntKind.u8.wrap ((q:Int).tmod 256)=((UInt8.ofNat q).toNat:Int):=by
    rw [wrap_u8,N4,Int.tmod_eq_emod_of_nonneg (by omega)];omega
   have hq2:IntKind.u64.wrap ((q:Int).tdiv 256)=((n/256^(i+1):Nat):Int):=by
    have e:n/256^(i+1)=q/256:=by rw [Nat.pow_succ,← Nat.div_div_eq_div_mul,hqd]
    rw [Int.tdiv_eq_ediv_of_nonneg (by omega),wrap_u64 (by omega) (by omega),e];omega
   rw [hx,hq2];refine Jo hg.Ap (by omega) fun A2 m2=>?_;have n2:=m2.next;have hb2:=hb.keeps (m2.keeps hg.Ap) (by simp);refine BH tb (Xi m2.AS) (BY tb hb2.rd) m2.Ap (by omega) (by rw [AP];have:room=68719476736:=rfl;simp;omega) fun v3 A3 F3 hb3 k3 hF3 n3 f3=>?_;simp only [AA,Ab];rw [wrap_i64 (by omega) (by omega)];have hnx2:=hg.le;refine Ai.2 ⟨w-(i+1),by omega,rfl,i+1,v3,F3,rfl,by omega,by rw [be,hqd];exact hb3,fun x hx=>?_,?_,rfl⟩
   ·rcases hF3 x hx with h | h
    ·simp at h;omega
    ·omega
   ·exact ((hg.trans (.made m2 hg.Ap)).own k3 (by simp;omega) (m:=1) (by omega) f3).more (by omega)
  ·have hi:i=w:=by omega
   subst hi;exact hk A' v F (hg.more (by omega)) hb hF
 ·rw [Aio];refine Ai.2 ⟨w,rfl,0,.slice none 0 0,[],by simp,by omega,.nil _ _,by simp,.refl hf,rfl⟩
theorem AaP {v1 v2:Value} {l1 l2:List UInt8} {F1 F2:List Nat} {A:AW} {K:Value→AW→Prop} (hf:AH A) (hA:A.next+3<Ao) (h1:RdB A v1 l1 F1) (h2:RdB A v2 l2 F2) (hr:l1.length+l2.length<10000000)
  (hk:∀ A' v F,Grow A A' 3→Buf 5 A' v (l1++l2) F→(∀ x∈F,A.next≤x)→K v A'):Wc Tp Ak W0 m0 169 [v1,v2] A K:=by
 have hroom:room=68719476736:=rfl;have lt1:=h1.lt;have lt2:=h2.lt;refine AgO _ _ _ (Au (S:=fun _ _ _=>False) fun _ _ _ h=>h) ?_;rw [Aia];simp only [h1.len tb,h2.len tb,AA,Ab];rw [wrap_i64 (by omega) (by omega)];have e:((l1.length:Nat):Int)+((l2.length:Nat):Int)=((l1.length+l2.length:Nat):Int):=by omega
 rw [e];refine P2 (n:=0) (k:=.i64) tb hf (by omega) (Nat.zero_le _) (by omega) fun A1 m1=>?_;have n1:=m1.next;refine BH tb (m1.Ajt (by omega)) (BY tb (h1.keeps (m1.keeps hf) (by simp))) m1.Ap (by omega) (by simp;omega) fun v3 A3 F3 hb3 k3 hF3 n3 f3=>?_;have g3:Grow A A3 2:=(Grow.made m1 hf).own k3 (by simp) (m:=1) (by omega) f3;have hF3':∀ x∈F3,A.next≤x:=fun x hx=>by
  rcases hF3 x hx with h | h
  ·simp at h;omega
  ·omega
 refine BH tb hb3 (BY tb (h2.keeps g3.keeps (by simp))) f3 (by omega) (by simp;omega) fun v4 A4 F4 hb4 k4 hF4 n4 f4=>?_;rw [List.nil_append] at hb4;refine hk A4 v4 F4 ((g3.own k4 hF3' (m:=1) (by omega) f4).more (by omega)) hb4 fun x hx=>?_;rcases hF4 x hx with h | h
 ·exact hF3' x h
 ·have:=g3.le;omega
theorem RH {v:Value} {l:List UInt8} {F0:List Nat} {n w:Nat} {A:AW} {K:Value→AW→Prop} (hf:AH A) (hA:A.next+5<Ao) (hv:RdB A v l F0) (hl:l.length<9000000) (hw:w=1∨w=2∨w=4∨w=8)
  (hk:∀ A' v F,Grow A A' 4→Buf 5 A' v (l++be n w) F→(∀ x∈F,A.next≤x)→K v A'):Wc Tp Ak W0 m0 160 [v,.int .u64 (n:Int),.int .i64 (w:Int)] A K:=by
 refine AgX _ _ _ _ (Au (S:=fun _ _ _=>False) fun _ _ _ h=>h) ?_;rw [Aij];refine AaQ ?_;have hb:((w:Int)==1 || ((w:Int)==2 || ((w:Int)==4 || (w:Int)==8)))=true:=by rcases hw with rfl | rfl | rfl | rfl<;>rfl
 rw [hb];simp only [Bo,Ab];refine Aj.2 ⟨fun h=>by simp at h,fun _=>?_⟩;refine AaO hf (by omega) (by omega) fun A1 v1 F1 g1 b1 _=>?_;have n1:=g1.next;have l1:=g1.le;refine AaP g1.Ap (by omega) (hv.keeps g1.keeps (by simp)) b1.rd (by rw [AP];omega) fun A2 v2 F2 g2 b2 hF2=>?_;exact hk A2 v2 F2 ((g1.trans g2).more (by omega)) b2 fun x hx=>Nat.le_trans l1 (hF2 x hx)
theorem XD {v:Value} {l:List UInt8} {F0:List Nat} {s:ByteArray} {w:Nat} {A:AW} {K:Value→AW→Prop} (hf:AH A) (hA:A.next+6<Ao) (hv:RdB A v l F0) (hl:l.length<9000000) (hw:(w=1∧Bm s<256)∨(w=2∧Bm s<65536)∨(w=4∧Bm s<65536))
  (hk:∀ A' v F,Grow A A' 5→Buf 5 A' v (l++(be (Bm s) w++s.data.toList)) F→(∀ x∈F,A.next≤x)→K (.tuple ⟨[v,.int .i64 0]⟩) A'):Wc Tp Ak W0 m0 161 [v,.string s,.int .i64 (w:Int)] A K:=by
 have hroom:room=68719476736:=rfl;have hsl:s.data.toList.length=Bm s:=rfl;refine AgW _ _ _ _ (Au (S:=fun _ _ _=>False) fun _ _ _ h=>h) ?_;rw [Aii];simp only [AQ,Ab,Aq];refine ⟨fun h=>by omega,fun _=>?_⟩;refine AaQ ?_;have hb:((w:Int)==1 || ((w:Int)==2 || ((w:Int)==4 || (w:Int)==8)))=true:=by rcases hw with ⟨rfl,_⟩ | ⟨rfl,_⟩ | ⟨rfl,_⟩<;>rfl
 rw [hb];simp only [Bo,Ab];refine Aj.2 ⟨fun h=>by simp at h,fun _=>?_⟩;simp only [Eb,hsl,Ab,GL,AU,V9];rw [wrap_u64 (by omega) (by omega),wrap_i64 (by omega) (by omega),HZ (by omega)];have hz:((Bm s:Nat):Int).fdiv (2^(min ((8:Int)*(w:Int)).toNat (IntKind.bits .u64)))=0:=by
  rw [Int.fdiv_eq_ediv_of_nonneg _ (Int.pow_nonneg (by decide))];rcases hw with ⟨rfl,h⟩ | ⟨rfl,h⟩ | ⟨rfl,h⟩
  ·show ((Bm s:Nat):Int)/256=0;omega
  ·show ((Bm s:Nat):Int)/65536=0;omega
  ·show ((Bm s:Nat):Int)/4294967296=0;omega
 rw [hz];simp only [Ab,AR,AL];refine ⟨fun h=>by omega,fun _=>?_⟩;refine AaO (n:=Bm s) (w:=w) hf (by omega) (by omega) fun A1 v1 F1 g1 b1 hF1=>?_;have n1:=g1.next;have l1:=g1.le;refine BH tb b1 (Ki tb) g1.Ap (by omega) (by rw [AP];omega) fun v2 A2 F2 b2 k2 hF2 n2 f2=>?_;have g2:=g1.own k2 hF1 (m:=1) (by omega) f2;have n2:=g2.next;have l2:=g2.le;refine AaP g2.Ap (by omega) (hv.keeps g2.keeps (by simp)) b2.rd (by rw [List.length_append,AP];omega) fun A3 v3 F3 g3 b3 hF3=>?_;exact hk A3 v3 F3 ((g2.trans g3).more (by omega)) b3 fun x hx=>Nat.le_trans l2 (hF3 x hx)
end
end Go.Proofs.YtdpdajpiadohjaaGreatDoor
namespace Go.Proofs.YtdpdajpiadohjaaGreatDoor
open Go.Abs Go.Sort
section
variable {W0:World} {m0:Inj Tp}
theorem Adh(x:Nm):x.cells.all (Av 3)=true:=rfl
theorem AhK(x:Nm):x.cells.all AT=true:=rfl
end
end Go.Proofs.YtdpdajpiadohjaaGreatDoor
namespace Go.Proofs.YtdpdajpiadohjaaGreatDoor
open Go.Abs
theorem Afr(a b:Value):Aw (.tuple #[a,b]) 0=some a:=rfl
theorem AfU(a b c:Value):Aw (.tuple #[a,b,c]) 0=some a:=rfl
theorem AfV(a:Value):Aw (.tuple #[a]) 0=some a:=rfl
theorem PY{γ:Type}:∀ {a b:List γ},a.Nodup→(∀ x∈a,x∈b)→a.length≤b.length
 |[],_,_,_=>Nat.zero_le _
 |x::a,b,hn,hs=>by
  obtain ⟨s,t,rfl⟩:=List.append_of_mem (hs x List.mem_cons_self);rw [List.nodup_cons] at hn
  have:=PY (a:=a) (b:=s++t) hn.2 fun y hy=>by
   have hne:y≠x:=fun e=>hn.1 (e▸hy);rcases Mz.1 (hs y (List.mem_cons_of_mem _ hy)) with h | h
   ·exact List.mem_append_left _ h
   ·rcases Mk.1 h with h | h
    ·exact absurd h hne
    ·exact List.mem_append_right _ h
  simp only [List.length_append,Lc] at *;omega
theorem Ab0{A:AW}{p:Nm}{K:Value→AW→Prop}(hf:AH A)(h:A.next<Ao)(hk:∀ A',Made A A' p.cells 46→K (.slice (some ⟨A.next,0,none⟩) 1 1) A'):Al (AG Tp A 28 1 [(0,.agg ⟨p.cells⟩)]) K:=by
 show Al (AG Tp A 28 1 [(0,.agg ⟨[.int .u32 (p.f:Int),.string p.g,.string p.b]⟩)]) K;rw [Ajw];unfold AW.newRow AW.new;have hc:([Value.int .u32 (p.f:Int),.string p.g,.string p.b].all AT)=true:=rfl;simp only [hc,Ct,AF.2 h];exact AU.2 (hk (A.push (.row p.cells 46 A.next 0 false)) ⟨AW.C6 _ h,rfl,by rw [AW.B8 _ h,if_pos rfl],hf.alone (Nl _),hf.push _ h⟩)
section
variable {W0:World} {m0:Inj Tp} {β:Type} {ve:β→Value}
end
end Go.Proofs.YtdpdajpiadohjaaGreatDoor
