/-
  TopOwn returns true.
-/
import Derived.Test.YtoeeackjlclneaaGreatDoorToRun1
import Derived.Test.YtoeeackjlclneaaGreatDoorToRun2
import Derived.Test.YtoeeackjlclneaaGreatDoorToRun3
import Derived.Test.YtoeeackjlclneaaGreatDoorToRun4
import Derived.Test.YtoeeackjlclneaaGreatDoorToRun5
import Derived.Test.YtoeeackjlclneaaGreatDoorToRun6
import Derived.Test.YtoeeackjlclneaaGreatDoorToRun7
import Derived.Test.YtoeeackjlclneaaGreatDoorToRun8
import Derived.Test.YtoeeackjlclneaaGreatDoorToRun9
import Derived.Test.YtoeeackjlclneaaGreatDoorToRun10
import Derived.Test.YtoeeackjlclneaaGreatDoorToRun11
import Derived.Test.YtoeeackjlclneaaGreatDoorToRun12
import Derived.Test.YtoeeackjlclneaaGreatDoorToRun13
import Derived.Test.YtoeeackjlclneaaGreatDoorToRun14
import Derived.Test.YtoeeackjlclneaaGreatDoorToRun15
import Derived.Test.YtoeeackjlclneaaGreatDoorToRun16
import Derived.Test.YtoeeackjlclneaaGreatDoorToRun17
import Derived.Test.YtoeeackjlclneaaGreatDoorToRun18
import Derived.Test.YtoeeackjlclneaaGreatDoorToRun19
import Derived.Test.YtoeeackjlclneaaGreatDoorToRun20
import Derived.Test.YtoeeackjlclneaaGreatDoorToRun21
import Derived.Test.YtoeeackjlclneaaGreatDoorToRun22
import Derived.Test.YtoeeackjlclneaaGreatDoorToRun23
import Derived.Test.YtoeeackjlclneaaGreatDoorToRun24
import Derived.Test.YtoeeackjlclneaaGreatDoorToRun25
import Derived.Test.YtoeeackjlclneaaGreatDoorToRun26
import Derived.Test.YtoeeackjlclneaaGreatDoorToRun27
import Derived.Test.YtoeeackjlclneaaGreatDoorToRun28
import Derived.Test.YtoeeackjlclneaaGreatDoorToRun29
import Derived.Test.YtoeeackjlclneaaGreatDoorToRun30
import Derived.Test.YtoeeackjlclneaaGreatDoorToRun31
import Derived.Test.YtoeeackjlclneaaGreatDoorToRun32
namespace Go.Proofs.YtoeeackjlclneaaGreatDoor
open Go.RowKit
set_option linter.unusedVariables false

theorem ow1 : Rn 1 0 [] := rua0
theorem ow2 : Rn 2 0 [] := rub0
theorem ow3 : Rn 3 1 [] := nd ruc1 ruc0
theorem ow4 : Rn 4 2 [] := nd (nd rud3 rud2) (nd rud1 rud0)
theorem ow5 : Rn 5 3 [] := nd (nd (nd rue7 rue6) (nd rue5 rue4)) (nd (nd rue3 rue2) (nd rue1 rue0))
theorem ow6 : Rn 6 4 [] := nd (nd (nd (nd ruf15 ruf14) (nd ruf13 ruf12)) (nd (nd ruf11 ruf10) (nd ruf9 ruf8))) (nd (nd (nd ruf7 ruf6) (nd ruf5 ruf4)) (nd (nd ruf3 ruf2) (nd ruf1 ruf0)))
theorem ow7 : Rn 7 5 [] := nd (nd (nd (nd (nd rug31 rug30) (nd rug29 rug28)) (nd (nd rug27 rug26) (nd rug25 rug24))) (nd (nd (nd rug23 rug22) (nd rug21 rug20)) (nd (nd rug19 rug18) (nd rug17 rug16)))) (nd (nd (nd (nd rug15 rug14) (nd rug13 rug12)) (nd (nd rug11 rug10) (nd rug9 rug8))) (nd (nd (nd rug7 rug6) (nd rug5 rug4)) (nd (nd rug3 rug2) (nd rug1 rug0))))
theorem ow8 : Rn 8 6 [] := nd (nd (nd (nd (nd (nd ruh63 ruh62) (nd ruh61 ruh60)) (nd (nd ruh59 ruh58) (nd ruh57 ruh56))) (nd (nd (nd ruh55 ruh54) (nd ruh53 ruh52)) (nd (nd ruh51 ruh50) (nd ruh49 ruh48)))) (nd (nd (nd (nd ruh47 ruh46) (nd ruh45 ruh44)) (nd (nd ruh43 ruh42) (nd ruh41 ruh40))) (nd (nd (nd ruh39 ruh38) (nd ruh37 ruh36)) (nd (nd ruh35 ruh34) (nd ruh33 ruh32))))) (nd (nd (nd (nd (nd ruh31 ruh30) (nd ruh29 ruh28)) (nd (nd ruh27 ruh26) (nd ruh25 ruh24))) (nd (nd (nd ruh23 ruh22) (nd ruh21 ruh20)) (nd (nd ruh19 ruh18) (nd ruh17 ruh16)))) (nd (nd (nd (nd ruh15 ruh14) (nd ruh13 ruh12)) (nd (nd ruh11 ruh10) (nd ruh9 ruh8))) (nd (nd (nd ruh7 ruh6) (nd ruh5 ruh4)) (nd (nd ruh3 ruh2) (nd ruh1 ruh0)))))
theorem ow9 : Rn 9 7 [] := nd (nd (nd (nd (nd (nd (nd rui127 rui126) (nd rui125 rui124)) (nd (nd rui123 rui122) (nd rui121 rui120))) (nd (nd (nd rui119 rui118) (nd rui117 rui116)) (nd (nd rui115 rui114) (nd rui113 rui112)))) (nd (nd (nd (nd rui111 rui110) (nd rui109 rui108)) (nd (nd rui107 rui106) (nd rui105 rui104))) (nd (nd (nd rui103 rui102) (nd rui101 rui100)) (nd (nd rui99 rui98) (nd rui97 rui96))))) (nd (nd (nd (nd (nd rui95 rui94) (nd rui93 rui92)) (nd (nd rui91 rui90) (nd rui89 rui88))) (nd (nd (nd rui87 rui86) (nd rui85 rui84)) (nd (nd rui83 rui82) (nd rui81 rui80)))) (nd (nd (nd (nd rui79 rui78) (nd rui77 rui76)) (nd (nd rui75 rui74) (nd rui73 rui72))) (nd (nd (nd rui71 rui70) (nd rui69 rui68)) (nd (nd rui67 rui66) (nd rui65 rui64)))))) (nd (nd (nd (nd (nd (nd rui63 rui62) (nd rui61 rui60)) (nd (nd rui59 rui58) (nd rui57 rui56))) (nd (nd (nd rui55 rui54) (nd rui53 rui52)) (nd (nd rui51 rui50) (nd rui49 rui48)))) (nd (nd (nd (nd rui47 rui46) (nd rui45 rui44)) (nd (nd rui43 rui42) (nd rui41 rui40))) (nd (nd (nd rui39 rui38) (nd rui37 rui36)) (nd (nd rui35 rui34) (nd rui33 rui32))))) (nd (nd (nd (nd (nd rui31 rui30) (nd rui29 rui28)) (nd (nd rui27 rui26) (nd rui25 rui24))) (nd (nd (nd rui23 rui22) (nd rui21 rui20)) (nd (nd rui19 rui18) (nd rui17 rui16)))) (nd (nd (nd (nd rui15 rui14) (nd rui13 rui12)) (nd (nd rui11 rui10) (nd rui9 rui8))) (nd (nd (nd rui7 rui6) (nd rui5 rui4)) (nd (nd rui3 rui2) (nd rui1 rui0))))))
theorem ow10 : Rn 10 8 [] := nd (nd (nd (nd (nd (nd (nd (nd ruj255 ruj254) (nd ruj253 ruj252)) (nd (nd ruj251 ruj250) (nd ruj249 ruj248))) (nd (nd (nd ruj247 ruj246) (nd ruj245 ruj244)) (nd (nd ruj243 ruj242) (nd ruj241 ruj240)))) (nd (nd (nd (nd ruj239 ruj238) (nd ruj237 ruj236)) (nd (nd ruj235 ruj234) (nd ruj233 ruj232))) (nd (nd (nd ruj231 ruj230) (nd ruj229 ruj228)) (nd (nd ruj227 ruj226) (nd ruj225 ruj224))))) (nd (nd (nd (nd (nd ruj223 ruj222) (nd ruj221 ruj220)) (nd (nd ruj219 ruj218) (nd ruj217 ruj216))) (nd (nd (nd ruj215 ruj214) (nd ruj213 ruj212)) (nd (nd ruj211 ruj210) (nd ruj209 ruj208)))) (nd (nd (nd (nd ruj207 ruj206) (nd ruj205 ruj204)) (nd (nd ruj203 ruj202) (nd ruj201 ruj200))) (nd (nd (nd ruj199 ruj198) (nd ruj197 ruj196)) (nd (nd ruj195 ruj194) (nd ruj193 ruj192)))))) (nd (nd (nd (nd (nd (nd ruj191 ruj190) (nd ruj189 ruj188)) (nd (nd ruj187 ruj186) (nd ruj185 ruj184))) (nd (nd (nd ruj183 ruj182) (nd ruj181 ruj180)) (nd (nd ruj179 ruj178) (nd ruj177 ruj176)))) (nd (nd (nd (nd ruj175 ruj174) (nd ruj173 ruj172)) (nd (nd ruj171 ruj170) (nd ruj169 ruj168))) (nd (nd (nd ruj167 ruj166) (nd ruj165 ruj164)) (nd (nd ruj163 ruj162) (nd ruj161 ruj160))))) (nd (nd (nd (nd (nd ruj159 ruj158) (nd ruj157 ruj156)) (nd (nd ruj155 ruj154) (nd ruj153 ruj152))) (nd (nd (nd ruj151 ruj150) (nd ruj149 ruj148)) (nd (nd ruj147 ruj146) (nd ruj145 ruj144)))) (nd (nd (nd (nd ruj143 ruj142) (nd ruj141 ruj140)) (nd (nd ruj139 ruj138) (nd ruj137 ruj136))) (nd (nd (nd ruj135 ruj134) (nd ruj133 ruj132)) (nd (nd ruj131 ruj130) (nd ruj129 ruj128))))))) (nd (nd (nd (nd (nd (nd (nd ruj127 ruj126) (nd ruj125 ruj124)) (nd (nd ruj123 ruj122) (nd ruj121 ruj120))) (nd (nd (nd ruj119 ruj118) (nd ruj117 ruj116)) (nd (nd ruj115 ruj114) (nd ruj113 ruj112)))) (nd (nd (nd (nd ruj111 ruj110) (nd ruj109 ruj108)) (nd (nd ruj107 ruj106) (nd ruj105 ruj104))) (nd (nd (nd ruj103 ruj102) (nd ruj101 ruj100)) (nd (nd ruj99 ruj98) (nd ruj97 ruj96))))) (nd (nd (nd (nd (nd ruj95 ruj94) (nd ruj93 ruj92)) (nd (nd ruj91 ruj90) (nd ruj89 ruj88))) (nd (nd (nd ruj87 ruj86) (nd ruj85 ruj84)) (nd (nd ruj83 ruj82) (nd ruj81 ruj80)))) (nd (nd (nd (nd ruj79 ruj78) (nd ruj77 ruj76)) (nd (nd ruj75 ruj74) (nd ruj73 ruj72))) (nd (nd (nd ruj71 ruj70) (nd ruj69 ruj68)) (nd (nd ruj67 ruj66) (nd ruj65 ruj64)))))) (nd (nd (nd (nd (nd (nd ruj63 ruj62) (nd ruj61 ruj60)) (nd (nd ruj59 ruj58) (nd ruj57 ruj56))) (nd (nd (nd ruj55 ruj54) (nd ruj53 ruj52)) (nd (nd ruj51 ruj50) (nd ruj49 ruj48)))) (nd (nd (nd (nd ruj47 ruj46) (nd ruj45 ruj44)) (nd (nd ruj43 ruj42) (nd ruj41 ruj40))) (nd (nd (nd ruj39 ruj38) (nd ruj37 ruj36)) (nd (nd ruj35 ruj34) (nd ruj33 ruj32))))) (nd (nd (nd (nd (nd ruj31 ruj30) (nd ruj29 ruj28)) (nd (nd ruj27 ruj26) (nd ruj25 ruj24))) (nd (nd (nd ruj23 ruj22) (nd ruj21 ruj20)) (nd (nd ruj19 ruj18) (nd ruj17 ruj16)))) (nd (nd (nd (nd ruj15 ruj14) (nd ruj13 ruj12)) (nd (nd ruj11 ruj10) (nd ruj9 ruj8))) (nd (nd (nd ruj7 ruj6) (nd ruj5 ruj4)) (nd (nd ruj3 ruj2) (nd ruj1 ruj0)))))))
theorem runs_all : ∀ k : Nat, 1 ≤ k → k ≤ 10 → ∃ p, Rn k p [] := by
  intro k h1 h2
  have hk : k ∈ [1, 2, 3, 4, 5, 6, 7, 8, 9, 10] := by
    simp only [List.mem_cons, List.not_mem_nil, or_false]
    omega
  simp only [List.mem_cons, List.not_mem_nil, or_false] at hk
  rcases hk with rfl | rfl | rfl | rfl | rfl | rfl | rfl | rfl | rfl | rfl
  · exact ⟨_, ow1⟩
  · exact ⟨_, ow2⟩
  · exact ⟨_, ow3⟩
  · exact ⟨_, ow4⟩
  · exact ⟨_, ow5⟩
  · exact ⟨_, ow6⟩
  · exact ⟨_, ow7⟩
  · exact ⟨_, ow8⟩
  · exact ⟨_, ow9⟩
  · exact ⟨_, ow10⟩
theorem walk_own (w : World) (hM : MaxOk w) (hT : Lib.TabIs Tryz.prog w "internal/strconv.uint64pow10" .u64 Lib.pow10Tab) (n : Int) (im : In64 n) (u : Value) (B : Nat → Bool) (hu : LstV w u B) :
    Calls Tryz.prog 7 #[.int .i64 n, u] w fun e w' => e = .returned (.bool true) ∧ Aft w w' := by
  obtain ⟨m1, m2⟩ := wi_in (lo := 1) (hi := 10) (by decide) (by decide) n
  obtain ⟨k, hk⟩ : ∃ k : Nat, wiF n 1 10 = (k : Int) := ⟨(wiF n 1 10).toNat, by omega⟩
  obtain ⟨p, hp⟩ := runs_all k (by omega) (by omega)
  obtain ⟨m, hm, hr⟩ := Rn.at (B := B) p [] (fun i b h => by cases h) hp
  exact cls_own im hM hT hr hm hu hk
end Go.Proofs.YtoeeackjlclneaaGreatDoor
