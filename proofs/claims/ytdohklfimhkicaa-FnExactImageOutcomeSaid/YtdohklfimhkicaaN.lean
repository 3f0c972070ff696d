/- Printed by a program of mine. -/
import Derived.Test.YtdohklfimhkicaaXn
import Derived.Test.YtdohklfimhkicaaProg
set_option linter.unusedVariables false
set_option maxRecDepth 100000
set_option maxHeartbeats 4000000
namespace Go.Proofs.Ytdohklfimhkicaa.N
open Go.Proofs.Ytdohklfimhkicaa.X
structure Machine where
  Regs : List Int
  Pc : Int
  Mem : List Int
def dMachine (x : Machine) : D := .agg [.row 3 1 (x.Regs.map (D.int .i64)), .int .i64 x.Pc, .row 3 1 (x.Mem.map (D.int .i64))]

structure Ring where
  Room : Int
  Head : Int
  Len : Int
  Slots : List Int
def dRing (x : Ring) : D := .agg [.int .i64 x.Room, .int .i64 x.Head, .int .i64 x.Len, .row 3 1 (x.Slots.map (D.int .i64))]

structure Box where
  Room : Int
  Items : List Int
def dBox (x : Box) : D := .agg [.int .i64 x.Room, .row 3 1 (x.Items.map (D.int .i64))]

structure Outcome where
  Out : List Int
  Items : List (List Int)
  Ended : List Bool
  Rest : Bool
def dOutcome (x : Outcome) : D := .agg [.row 3 1 (x.Out.map (D.int .i64)), .row 22 1 (x.Items.map (fun (l : List Int) => D.row 3 1 (l.map (D.int .i64)))), .row 4 1 (x.Ended.map D.bool), .bool x.Rest]

theorem T.u22 : Try.prog.underlying 22 = some (.slice 3) := by kernel_rfl
theorem T.f24_0 : fOff Try.prog 24 0 = some (0, 1, false) := by kernel_rfl
theorem T.t22 : tinfo Try.prog 22 = some (false, some (.slice none 0 0), 1, 24) := by kernel_rfl
theorem T.f24_2 : fOff Try.prog 24 2 = some (2, 1, false) := by kernel_rfl
theorem T.t3 : tinfo Try.prog 3 = some (false, some (.int .i64 0), 1, 8) := by kernel_rfl
theorem T.f31_0 : fOff Try.prog 31 0 = some (0, 1, false) := by kernel_rfl
theorem T.f31_1 : fOff Try.prog 31 1 = some (1, 1, false) := by kernel_rfl
theorem T.f31_2 : fOff Try.prog 31 2 = some (2, 1, false) := by kernel_rfl
theorem T.f51_0 : fOff Try.prog 51 0 = some (0, 1, false) := by kernel_rfl
theorem T.f51_1 : fOff Try.prog 51 1 = some (1, 1, false) := by kernel_rfl
theorem T.f51_2 : fOff Try.prog 51 2 = some (2, 1, false) := by kernel_rfl
theorem T.f51_3 : fOff Try.prog 51 3 = some (3, 1, false) := by kernel_rfl
theorem T.t47 : tinfo Try.prog 47 = some (true, some (.agg #[.int .i64 0, .slice none 0 0]), 2, 32) := by kernel_rfl
theorem T.t51 : tinfo Try.prog 51 = some (true, some (.agg #[.int .i64 0, .int .i64 0, .int .i64 0, .slice none 0 0]), 4, 48) := by kernel_rfl
theorem T.s47 : sinfo Try.prog 47 = some ([(0, 1), (1, 1)], [.int .i64 0, .slice none 0 0]) := by kernel_rfl
theorem T.f47_1 : fOff Try.prog 47 1 = some (1, 1, false) := by kernel_rfl
theorem T.mix : Try.prog.follows .mixedOrders = true := by kernel_rfl
theorem T.s51 : sinfo Try.prog 51 = some ([(0, 1), (1, 1), (2, 1), (3, 1)], [.int .i64 0, .int .i64 0, .int .i64 0, .slice none 0 0]) := by kernel_rfl
theorem T.u26 : Try.prog.underlying 26 = some (.slice 22) := by kernel_rfl
theorem T.t29 : tinfo Try.prog 29 = some (true, some (.agg #[.slice none 0 0, .slice none 0 0, .slice none 0 0, .bool false]), 4, 80) := by kernel_rfl
theorem T.t31 : tinfo Try.prog 31 = some (true, some (.agg #[.slice none 0 0, .int .i64 0, .slice none 0 0]), 3, 56) := by kernel_rfl
theorem T.s29 : sinfo Try.prog 29 = some ([(0, 1), (1, 1), (2, 1), (3, 1)], [.slice none 0 0, .slice none 0 0, .slice none 0 0, .bool false]) := by kernel_rfl
theorem T.u27 : Try.prog.underlying 27 = some (.slice 4) := by kernel_rfl
theorem T.t4 : tinfo Try.prog 4 = some (false, some (.bool false), 1, 1) := by kernel_rfl
theorem T.f29_2 : fOff Try.prog 29 2 = some (2, 1, false) := by kernel_rfl
theorem T.t27 : tinfo Try.prog 27 = some (false, some (.slice none 0 0), 1, 24) := by kernel_rfl
theorem T.f24_1 : fOff Try.prog 24 1 = some (1, 1, false) := by kernel_rfl
theorem T.f29_1 : fOff Try.prog 29 1 = some (1, 1, false) := by kernel_rfl
theorem T.t26 : tinfo Try.prog 26 = some (false, some (.slice none 0 0), 1, 24) := by kernel_rfl
theorem T.u4 : Try.prog.underlying 4 = some (.bool) := by kernel_rfl
theorem T.f29_0 : fOff Try.prog 29 0 = some (0, 1, false) := by kernel_rfl
theorem T.f29_3 : fOff Try.prog 29 3 = some (3, 1, false) := by kernel_rfl
theorem T.t24 : tinfo Try.prog 24 = some (true, some (.agg #[.slice none 0 0, .int .i64 0, .slice none 0 0]), 3, 56) := by kernel_rfl
def laws_szIntS (a0 : List Int) (a1 : Int) : Option (Int) :=
sel (decide ((w64 (a1 - (a0.length : Int))) < 0)) (some (-1)) <|
some (w64 (a1 - (a0.length : Int)))
def laws_szMachine (a0 : Machine) (a1 : Int) : Option (Int) :=
(laws_szIntS a0.Regs a1).bind fun y1 =>
sel (decide (y1 < 0)) (some (-1)) <|
(laws_szIntS a0.Mem y1).bind fun y2 =>
sel (decide (y2 < 0)) (some (-1)) <|
some y2
def spec_l6In (a0 : Int) (a1 : Int) (a2 : Int) : Option (Bool) :=
some ((decide (a0 ≥ a1)) && (decide (a0 ≤ a2)))
def spec_WordValid (a0 : Int) : Option (Bool) :=
(spec_l6In a0 (-2147483648) 2147483647).bind fun y1 =>
some y1
def spec_l4Words_b1 (a0 : List Int) (s1 : Int) : Option (Int ⊕ (Bool ⊕ Unit)) :=
sel (decide (s1 < (a0.length : Int))) ((nth a0 s1).bind fun x1 =>
(spec_WordValid x1).bind fun y4 =>
sel (!y4) (some (.inr (.inl false))) <|
some (.inl (w64 (s1 + 1)))) <|
some (.inr (.inr ()))
noncomputable def spec_l4Words (a0 : List Int) (a1 : Int) : Option (Bool) :=
sel ((a0.length : Int) != a1) (some false) <|
(iter (spec_l4Words_b1 a0) 0).bind fun y1 =>
both y1 (fun o3 => some o3) (fun o4 =>
some true)
noncomputable def spec_MachineValid (a0 : Machine) : Option (Bool) :=
(spec_l4Words a0.Regs 32).bind fun y1 =>
(sel y1 ((nth a0.Regs 0).bind fun x1 => some (x1 == 0)) (some false)).bind fun b1 =>
(sel b1 ((spec_WordValid a0.Pc).bind fun y2 => some y2) (some false)).bind fun b2 =>
(sel (b2 && (decide ((a0.Mem.length : Int) ≤ 10000))) ((spec_l4Words a0.Mem (a0.Mem.length : Int)).bind fun y3 => some y3) (some false)).bind fun b3 =>
some b3
def spec_l47Fits (a0 : List Int) (a1 : Int) : Option (Bool) :=
sel (((decide (a1 < 0)) || ((Int.tmod a1 4) != 0)) || (decide ((w64 ((w64 (Int.tdiv a1 4)) + 4)) > (a0.length : Int)))) (some false) <|
(nth a0 (w64 ((w64 (Int.tdiv a1 4)) + 1))).bind fun x1 =>
(spec_l6In x1 1 3).bind fun y1 =>
some (y1 && (decide ((w64 ((w64 ((w64 ((w64 (Int.tdiv a1 4)) + 4)) + 24)) + (w64 (16 * x1)))) ≤ (a0.length : Int))))
noncomputable def spec_RingValid (a0 : Ring) : Option (Bool) :=
(spec_l6In a0.Room 1 4).bind fun y1 =>
(sel y1 ((spec_l6In a0.Head 0 (w64 (a0.Room - 1))).bind fun y2 => some y2) (some false)).bind fun b1 =>
(sel b1 ((spec_l6In a0.Len 0 a0.Room).bind fun y3 => some y3) (some false)).bind fun b2 =>
(sel b2 ((spec_l4Words a0.Slots 4).bind fun y4 => some y4) (some false)).bind fun b3 =>
some b3
def spec_RingBox_b1 (a0 : Ring) (s1 : Int × (List Int)) : Option ((Int × (List Int)) ⊕ ((List Int))) :=
sel (decide (s1.1 < a0.Len)) ((remO (w64 (a0.Head + s1.1)) a0.Room).bind fun d1 =>
(nth a0.Slots d1).bind fun x1 =>
(app 8 s1.2 [x1]).bind fun r1 =>
some (.inl (w64 (s1.1 + 1), r1))) <|
some (.inr s1.2)
noncomputable def spec_RingBox (a0 : Ring) : Option (Box × Bool) :=
(spec_RingValid (Ring.mk a0.Room a0.Head a0.Len a0.Slots)).bind fun y1 =>
sel (!y1) (some ((Box.mk 0 []), false)) <|
(iter (spec_RingBox_b1 a0) (0, [])).bind fun y2 =>
some ((Box.mk a0.Room y2), true)
def spec_l47Ring (a0 : List Int) (a1 : Int) : Option (Ring) :=
(nth a0 a1).bind fun x1 =>
(nth a0 (w64 (a1 + 1))).bind fun x2 =>
(nth a0 (w64 (a1 + 2))).bind fun x3 =>
(cut a0 (w64 (a1 + 4)) (w64 (a1 + 8))).bind fun r1 =>
(app 8 [] r1).bind fun r2 =>
some (Ring.mk x1 x2 x3 r2)
noncomputable def spec_l47Items_b1 (a0 : List Int) (a1 : Int) (s1 : (List (List Int)) × Int) : Option (((List (List Int)) × Int) ⊕ (((List (List Int)) × Bool) ⊕ ((List (List Int))))) :=
(sel (decide (s1.2 < 3)) ((nth a0 (w64 ((w64 (a1 + 4)) + (w64 (8 * s1.2))))).bind fun x1 => some (x1 != 0)) (some false)).bind fun b1 =>
sel b1 ((spec_l47Ring a0 (w64 ((w64 (a1 + 4)) + (w64 (8 * s1.2))))).bind fun y4 =>
(spec_RingBox (Ring.mk y4.Room y4.Head y4.Len y4.Slots)).bind fun y5 =>
sel (!y5.2) (some (.inr (.inl ([], false)))) <|
(app 24 s1.1 [y5.1.Items]).bind fun r1 =>
some (.inl (r1, w64 (s1.2 + 1)))) <|
some (.inr (.inr s1.1))
noncomputable def spec_l47Items (a0 : List Int) (a1 : Int) : Option ((List (List Int)) × Bool) :=
(iter (spec_l47Items_b1 a0 a1) ([], 0)).bind fun y1 =>
both y1 (fun o3 => some o3) (fun o4 =>
some (o4, true))
def spec_ImageOutcome_b1 (a0 : Machine) (a1 : Int) (x1 : Int) (s1 : Int × (List Bool)) : Option ((Int × (List Bool)) ⊕ ((List Bool))) :=
sel (decide (s1.1 < x1)) ((nth a0.Mem (w64 ((w64 ((w64 ((w64 ((w64 (Int.tdiv a1 4)) + 4)) + 24)) + (w64 (16 * s1.1)))) + 13))).bind fun x3 =>
(app 1 s1.2 [x3 == 5]).bind fun r2 =>
some (.inl (w64 (s1.1 + 1), r2))) <|
some (.inr s1.2)
noncomputable def spec_ImageOutcome (a0 : Machine) (a1 : Int) (a2 : List Int) : Option (Outcome) :=
(spec_MachineValid (Machine.mk a0.Regs a0.Pc a0.Mem)).bind fun y1 =>
(sel (!y1) (some true) ((spec_l4Words a2 (a2.length : Int)).bind fun y2 => some (!y2))).bind fun b1 =>
(sel b1 (some true) ((spec_l47Fits a0.Mem a1).bind fun y3 => some (!y3))).bind fun b2 =>
sel b2 (some (Outcome.mk [] [] [] false)) <|
(spec_l47Items a0.Mem (w64 (Int.tdiv a1 4))).bind fun y4 =>
sel (!y4.2) (some (Outcome.mk [] [] [] false)) <|
(nth a0.Mem (w64 ((w64 (Int.tdiv a1 4)) + 1))).bind fun x1 =>
(nth a0.Mem (w64 (Int.tdiv a1 4))).bind fun x2 =>
(app 8 [] a2).bind fun r1 =>
(iter (spec_ImageOutcome_b1 a0 a1 x1) (0, [])).bind fun y5 =>
some (Outcome.mk r1 y4.1 y5 (x2 == x1))
def laws_toIntS_b1 (a0 : List Int) (s1 : Int × (List Int)) : Option ((Int × (List Int)) ⊕ ((List Int))) :=
sel (decide (s1.1 < (a0.length : Int))) ((nth a0 s1.1).bind fun x1 =>
(nth s1.2 s1.1).bind fun x2 =>
(upd s1.2 s1.1 x1).bind fun r2 =>
some (.inl (w64 (s1.1 + 1), r2))) <|
some (.inr s1.2)
noncomputable def laws_toIntS (a0 : List Int) : Option ((List Int)) :=
(mk 8 (a0.length : Int) 0).bind fun r1 =>
(iter (laws_toIntS_b1 a0) (0, r1)).bind fun y1 =>
some y1
noncomputable def laws_toMachine (a0 : Machine) : Option (Machine) :=
(laws_toIntS a0.Regs).bind fun y1 =>
(laws_toIntS a0.Mem).bind fun y2 =>
some (Machine.mk y1 a0.Pc y2)
def impl_WordValid (a0 : Int) : Option (Bool) :=
some ((decide (a0 ≥ (-2147483648))) && (decide (a0 ≤ 2147483647)))
def impl_areWords_b1 (a0 : List Int) (s1 : Int) : Option (Int ⊕ (Bool ⊕ Unit)) :=
sel (decide (s1 < (a0.length : Int))) ((nth a0 s1).bind fun x1 =>
(impl_WordValid x1).bind fun y4 =>
sel (!y4) (some (.inr (.inl false))) <|
some (.inl (w64 (s1 + 1)))) <|
some (.inr (.inr ()))
noncomputable def impl_areWords (a0 : List Int) : Option (Bool) :=
(iter (impl_areWords_b1 a0) 0).bind fun y1 =>
both y1 (fun o3 => some o3) (fun o4 =>
some true)
noncomputable def impl_MachineValid (a0 : Machine) : Option (Bool) :=
(sel ((a0.Regs.length : Int) == 32) ((impl_areWords a0.Regs).bind fun y1 => some y1) (some false)).bind fun b1 =>
(sel b1 ((nth a0.Regs 0).bind fun x1 => some (x1 == 0)) (some false)).bind fun b2 =>
(sel b2 ((impl_WordValid a0.Pc).bind fun y2 => some y2) (some false)).bind fun b3 =>
(sel (b3 && (decide ((a0.Mem.length : Int) ≤ 10000))) ((impl_areWords a0.Mem).bind fun y3 => some y3) (some false)).bind fun b4 =>
some b4
def slices_Clone___int_int_ (a0 : List Int) : Option ((List Int)) :=
(app 8 [] a0).bind fun r1 =>
some r1
noncomputable def impl_RingValid (a0 : Ring) : Option (Bool) :=
(sel (((((((decide (a0.Room ≥ 1)) && (decide (a0.Room ≤ 4))) && (decide (a0.Head ≥ 0))) && (decide (a0.Head < a0.Room))) && (decide (a0.Len ≥ 0))) && (decide (a0.Len ≤ a0.Room))) && ((a0.Slots.length : Int) == 4)) ((impl_areWords a0.Slots).bind fun y1 => some y1) (some false)).bind fun b1 =>
some b1
def impl_RingBox_b1 (a0 : Ring) (s1 : Int × (List Int)) : Option ((Int × (List Int)) ⊕ ((List Int))) :=
sel (decide (s1.1 < a0.Len)) ((remO (w64 (a0.Head + s1.1)) a0.Room).bind fun d1 =>
(nth a0.Slots d1).bind fun x1 =>
(app 8 s1.2 [x1]).bind fun r1 =>
some (.inl (w64 (s1.1 + 1), r1))) <|
some (.inr s1.2)
noncomputable def impl_RingBox (a0 : Ring) : Option (Box × Bool) :=
(impl_RingValid (Ring.mk a0.Room a0.Head a0.Len a0.Slots)).bind fun y1 =>
sel (!y1) (some ((Box.mk 0 []), false)) <|
(iter (impl_RingBox_b1 a0) (0, [])).bind fun y2 =>
some ((Box.mk a0.Room y2), true)
noncomputable def impl_ImageOutcome_b1 (r1 : List Int) (s1 : Int × (List (List Int))) : Option ((Int × (List (List Int))) ⊕ (Outcome ⊕ ((List (List Int))))) :=
(sel (decide (s1.1 < 3)) ((nth r1 (w64 (4 + (w64 (8 * s1.1))))).bind fun x3 => some (x3 != 0)) (some false)).bind fun b2 =>
sel b2 ((cut r1 (w64 (4 + (w64 (8 * s1.1)))) (r1.length : Int)).bind fun r2 =>
(nth r2 0).bind fun x4 =>
(nth r2 1).bind fun x5 =>
(nth r2 2).bind fun x6 =>
(cut r2 4 8).bind fun r3 =>
(impl_RingBox (Ring.mk x4 x5 x6 r3)).bind fun y7 =>
sel (!y7.2) (some (.inr (.inl (Outcome.mk [] [] [] false)))) <|
(app 24 s1.2 [y7.1.Items]).bind fun r4 =>
some (.inl (w64 (s1.1 + 1), r4))) <|
some (.inr (.inr s1.2))
def impl_ImageOutcome_b2 (r1 : List Int) (x1 : Int) (s2 : Int × (List Bool)) : Option ((Int × (List Bool)) ⊕ ((List Bool))) :=
sel (decide (s2.1 < x1)) ((nth r1 (w64 ((w64 (28 + (w64 (16 * s2.1)))) + 13))).bind fun x7 =>
(app 1 s2.2 [x7 == 5]).bind fun r5 =>
some (.inl (w64 (s2.1 + 1), r5))) <|
some (.inr s2.2)
noncomputable def impl_ImageOutcome (a0 : Machine) (a1 : Int) (a2 : List Int) : Option (Outcome) :=
(impl_MachineValid (Machine.mk a0.Regs a0.Pc a0.Mem)).bind fun y1 =>
(sel (!y1) (some true) ((impl_areWords a2).bind fun y2 => some (!y2))).bind fun b1 =>
sel (((b1 || (decide (a1 < 0))) || ((Int.tmod a1 4) != 0)) || (decide ((w64 ((w64 (Int.tdiv a1 4)) + 1)) ≥ (a0.Mem.length : Int)))) (some (Outcome.mk [] [] [] false)) <|
(cut a0.Mem (w64 (Int.tdiv a1 4)) (a0.Mem.length : Int)).bind fun r1 =>
(nth r1 1).bind fun x1 =>
sel (((decide (x1 < 1)) || (decide (x1 > 3))) || (decide ((w64 (28 + (w64 (16 * x1)))) > (r1.length : Int)))) (some (Outcome.mk [] [] [] false)) <|
(nth r1 0).bind fun x2 =>
(slices_Clone___int_int_ a2).bind fun y3 =>
(iter (impl_ImageOutcome_b1 r1) (0, [])).bind fun y4 =>
both y4 (fun o3 => some o3) (fun o4 =>
(iter (impl_ImageOutcome_b2 r1 x1) (0, [])).bind fun y8 =>
some (Outcome.mk y3 o4 y8 (x2 == x1)))
def laws_eqIntS_b1 (a0 : List Int) (a1 : List Int) (s1 : Int) : Option (Int ⊕ (Bool ⊕ Unit)) :=
sel (decide (s1 < (a0.length : Int))) ((nth a0 s1).bind fun x1 =>
(nth a1 s1).bind fun x2 =>
sel (x1 != x2) (some (.inr (.inl false))) <|
some (.inl (w64 (s1 + 1)))) <|
some (.inr (.inr ()))
noncomputable def laws_eqIntS (a0 : List Int) (a1 : List Int) : Option (Bool) :=
sel ((a0.length : Int) != (a1.length : Int)) (some false) <|
(iter (laws_eqIntS_b1 a0 a1) 0).bind fun y1 =>
both y1 (fun o3 => some o3) (fun o4 =>
some true)
noncomputable def laws_eqIntSS_b1 (a0 : List (List Int)) (a1 : List (List Int)) (s1 : Int) : Option (Int ⊕ (Bool ⊕ Unit)) :=
sel (decide (s1 < (a0.length : Int))) ((nth a0 s1).bind fun x1 =>
(nth a1 s1).bind fun x2 =>
(laws_eqIntS x1 x2).bind fun y4 =>
sel (!y4) (some (.inr (.inl false))) <|
some (.inl (w64 (s1 + 1)))) <|
some (.inr (.inr ()))
noncomputable def laws_eqIntSS (a0 : List (List Int)) (a1 : List (List Int)) : Option (Bool) :=
sel ((a0.length : Int) != (a1.length : Int)) (some false) <|
(iter (laws_eqIntSS_b1 a0 a1) 0).bind fun y1 =>
both y1 (fun o3 => some o3) (fun o4 =>
some true)
def laws_eqBoolS_b1 (a0 : List Bool) (a1 : List Bool) (s1 : Int) : Option (Int ⊕ (Bool ⊕ Unit)) :=
sel (decide (s1 < (a0.length : Int))) ((nth a0 s1).bind fun x1 =>
(nth a1 s1).bind fun x2 =>
sel (x1 != x2) (some (.inr (.inl false))) <|
some (.inl (w64 (s1 + 1)))) <|
some (.inr (.inr ()))
noncomputable def laws_eqBoolS (a0 : List Bool) (a1 : List Bool) : Option (Bool) :=
sel ((a0.length : Int) != (a1.length : Int)) (some false) <|
(iter (laws_eqBoolS_b1 a0 a1) 0).bind fun y1 =>
both y1 (fun o3 => some o3) (fun o4 =>
some true)
noncomputable def laws_eqOutcome (a0 : Outcome) (a1 : Outcome) : Option (Bool) :=
(laws_eqIntS a0.Out a1.Out).bind fun y1 =>
sel (!y1) (some false) <|
(laws_eqIntSS a0.Items a1.Items).bind fun y2 =>
sel (!y2) (some false) <|
(laws_eqBoolS a0.Ended a1.Ended).bind fun y3 =>
sel (!y3) (some false) <|
sel (a0.Rest != a1.Rest) (some false) <|
some true
noncomputable def laws_eqMachine (a0 : Machine) (a1 : Machine) : Option (Bool) :=
(laws_eqIntS a0.Regs a1.Regs).bind fun y1 =>
sel (!y1) (some false) <|
sel (a0.Pc != a1.Pc) (some false) <|
(laws_eqIntS a0.Mem a1.Mem).bind fun y2 =>
sel (!y2) (some false) <|
some true
def laws_markIntS_b1 (s1 : Int × Int × (List Int)) : Option ((Int × Int × (List Int)) ⊕ (Int × (List Int))) :=
sel (decide (s1.2.1 < (s1.2.2.length : Int))) ((nth s1.2.2 s1.2.1).bind fun x1 =>
(upd s1.2.2 s1.2.1 s1.1).bind fun r1 =>
some (.inl (w64 (s1.1 + 1), w64 (s1.2.1 + 1), r1))) <|
some (.inr (s1.1, s1.2.2))
noncomputable def laws_markIntS (a0 : List Int) (a1 : Int) : Option (Int × (List Int)) :=
(iter (laws_markIntS_b1) (a1, 0, a0)).bind fun y1 =>
some (y1.1, y1.2)
noncomputable def laws_markMachine (a0 : Machine) (a1 : Int) : Option (Int × (List Int) × (List Int)) :=
(laws_markIntS a0.Regs a1).bind fun y1 =>
(laws_markIntS a0.Mem y1.1).bind fun y2 =>
some (y2.1, y1.2, y2.2)
noncomputable def laws_markIntSS_b1 (s1 : Int × Int × (List (List Int))) : Option ((Int × Int × (List (List Int))) ⊕ (Int × (List (List Int)))) :=
sel (decide (s1.2.1 < (s1.2.2.length : Int))) ((nth s1.2.2 s1.2.1).bind fun x1 =>
(laws_markIntS x1 s1.1).bind fun y4 =>
some (.inl (y4.1, w64 (s1.2.1 + 1), (s1.2.2.set (Int.toNat s1.2.1) y4.2)))) <|
some (.inr (s1.1, s1.2.2))
noncomputable def laws_markIntSS (a0 : List (List Int)) (a1 : Int) : Option (Int × (List (List Int))) :=
(iter (laws_markIntSS_b1) (a1, 0, a0)).bind fun y1 =>
some (y1.1, y1.2)
def laws_markBoolS_b1 (s1 : Int × Int × (List Bool)) : Option ((Int × Int × (List Bool)) ⊕ (Int × (List Bool))) :=
sel (decide (s1.2.1 < (s1.2.2.length : Int))) ((nth s1.2.2 s1.2.1).bind fun x1 =>
(upd s1.2.2 s1.2.1 ((Int.tmod s1.1 3) == 0)).bind fun r1 =>
some (.inl (w64 (s1.1 + 1), w64 (s1.2.1 + 1), r1))) <|
some (.inr (s1.1, s1.2.2))
noncomputable def laws_markBoolS (a0 : List Bool) (a1 : Int) : Option (Int × (List Bool)) :=
(iter (laws_markBoolS_b1) (a1, 0, a0)).bind fun y1 =>
some (y1.1, y1.2)
noncomputable def laws_markOutcome (a0 : Outcome) (a1 : Int) : Option (Int × (List Int) × (List (List Int)) × (List Bool)) :=
(laws_markIntS a0.Out a1).bind fun y1 =>
(laws_markIntSS a0.Items y1.1).bind fun y2 =>
(laws_markBoolS a0.Ended y2.1).bind fun y3 =>
some (y3.1, y1.2, y2.2, y3.2)
def laws_heldIntS_b1 (a0 : List Int) (s1 : Int × Int) : Option ((Int × Int) ⊕ (Int ⊕ Int)) :=
sel (decide (s1.2 < (a0.length : Int))) ((nth a0 s1.2).bind fun x1 =>
sel (x1 != s1.1) (some (.inr (.inl (-1)))) <|
some (.inl (w64 (s1.1 + 1), w64 (s1.2 + 1)))) <|
some (.inr (.inr s1.1))
noncomputable def laws_heldIntS (a0 : List Int) (a1 : Int) : Option (Int) :=
(iter (laws_heldIntS_b1 a0) (a1, 0)).bind fun y1 =>
both y1 (fun o3 => some o3) (fun o4 =>
some o4)
noncomputable def laws_heldIntSS_b1 (a0 : List (List Int)) (s1 : Int × Int) : Option ((Int × Int) ⊕ (Int ⊕ Int)) :=
sel (decide (s1.2 < (a0.length : Int))) ((nth a0 s1.2).bind fun x1 =>
(laws_heldIntS x1 s1.1).bind fun y4 =>
sel (decide (y4 < 0)) (some (.inr (.inl (-1)))) <|
some (.inl (y4, w64 (s1.2 + 1)))) <|
some (.inr (.inr s1.1))
noncomputable def laws_heldIntSS (a0 : List (List Int)) (a1 : Int) : Option (Int) :=
(iter (laws_heldIntSS_b1 a0) (a1, 0)).bind fun y1 =>
both y1 (fun o3 => some o3) (fun o4 =>
some o4)
def laws_heldBoolS_b1 (a0 : List Bool) (s1 : Int × Int) : Option ((Int × Int) ⊕ (Int ⊕ Int)) :=
sel (decide (s1.2 < (a0.length : Int))) ((nth a0 s1.2).bind fun x1 =>
sel (x1 != ((Int.tmod s1.1 3) == 0)) (some (.inr (.inl (-1)))) <|
some (.inl (w64 (s1.1 + 1), w64 (s1.2 + 1)))) <|
some (.inr (.inr s1.1))
noncomputable def laws_heldBoolS (a0 : List Bool) (a1 : Int) : Option (Int) :=
(iter (laws_heldBoolS_b1 a0) (a1, 0)).bind fun y1 =>
both y1 (fun o3 => some o3) (fun o4 =>
some o4)
noncomputable def laws_heldOutcome (a0 : Outcome) (a1 : Int) : Option (Int) :=
(laws_heldIntS a0.Out a1).bind fun y1 =>
sel (decide (y1 < 0)) (some (-1)) <|
(laws_heldIntSS a0.Items y1).bind fun y2 =>
sel (decide (y2 < 0)) (some (-1)) <|
(laws_heldBoolS a0.Ended y2).bind fun y3 =>
sel (decide (y3 < 0)) (some (-1)) <|
some y3
noncomputable def laws_FnExactImageOutcome (a0 : Machine) (a1 : Int) (a2 : List Int) : Option (Bool) :=
sel (decide ((a2.length : Int) > 1048576)) (some true) <|
(laws_szMachine (Machine.mk a0.Regs a0.Pc a0.Mem) 1048576).bind fun y1 =>
sel (decide (y1 < 0)) (some true) <|
(laws_toMachine (Machine.mk a0.Regs a0.Pc a0.Mem)).bind fun y2 =>
(laws_toIntS a2).bind fun y3 =>
(spec_ImageOutcome (Machine.mk y2.Regs y2.Pc y2.Mem) a1 y3).bind fun y4 =>
(laws_toMachine (Machine.mk a0.Regs a0.Pc a0.Mem)).bind fun y5 =>
(laws_toIntS a2).bind fun y6 =>
(impl_ImageOutcome (Machine.mk y5.Regs y5.Pc y5.Mem) a1 y6).bind fun y7 =>
(laws_eqOutcome (Outcome.mk y7.Out y7.Items y7.Ended y7.Rest) (Outcome.mk y4.Out y4.Items y4.Ended y4.Rest)).bind fun y8 =>
sel (!y8) (some false) <|
(laws_toMachine (Machine.mk a0.Regs a0.Pc a0.Mem)).bind fun y9 =>
(laws_eqMachine (Machine.mk y5.Regs y5.Pc y5.Mem) (Machine.mk y9.Regs y9.Pc y9.Mem)).bind fun y10 =>
sel (!y10) (some false) <|
(laws_toIntS a2).bind fun y11 =>
(laws_eqIntS y6 y11).bind fun y12 =>
sel (!y12) (some false) <|
(laws_markMachine (Machine.mk y5.Regs y5.Pc y5.Mem) 1).bind fun y13 =>
(laws_markIntS y6 y13.1).bind fun y14 =>
(sel (decide (y14.1 < 0)) (some true) ((laws_eqOutcome (Outcome.mk y7.Out y7.Items y7.Ended y7.Rest) (Outcome.mk y4.Out y4.Items y4.Ended y4.Rest)).bind fun y15 => some (!y15))).bind fun b1 =>
sel b1 (some false) <|
(laws_markOutcome (Outcome.mk y7.Out y7.Items y7.Ended y7.Rest) 1).bind fun y16 =>
(laws_heldOutcome (Outcome.mk y16.2.1 y16.2.2.1 y16.2.2.2 y7.Rest) 1).bind fun y17 =>
sel (decide (y17 < 0)) (some false) <|
sel (y17 != y16.1) (some false) <|
(laws_toMachine (Machine.mk a0.Regs a0.Pc a0.Mem)).bind fun y18 =>
(laws_toIntS a2).bind fun y19 =>
(impl_ImageOutcome (Machine.mk y18.Regs y18.Pc y18.Mem) a1 y19).bind fun y20 =>
(laws_eqOutcome (Outcome.mk y20.Out y20.Items y20.Ended y20.Rest) (Outcome.mk y4.Out y4.Items y4.Ended y4.Rest)).bind fun y21 =>
sel (!y21) (some false) <|
(laws_heldOutcome (Outcome.mk y16.2.1 y16.2.2.1 y16.2.2.2 y7.Rest) 1).bind fun y22 =>
sel (decide (y22 < 0)) (some false) <|
sel (y22 != y16.1) (some false) <|
some true

theorem laws_szIntS_ok {a0 : List Int} {a1 : Int} {v_0 : Hd} {w : World} {r : Int} (h : laws_szIntS a0 a1 = some r) (q_0 : RV w (Old No w) (sv v_0) 3 1 (D.int .i64) a0) : Calls Try.prog 16 #[(sv v_0), .int .i64 a1] w (Ret No w (fun s : Unit => .int .i64 r) (fun s => [])) := by
  unfold laws_szIntS at h
  refine enter Try.func16 rfl rfl ?_
  have hS := Sep.start w
  refine .seq ?_
  refine .region ?_
  refine .p rfl rfl rfl ?_
  refine .nil ?_
  refine .seq ?_
  refine .region ?_
  refine .p rfl rfl rfl ?_
  refine .p rfl rfl rfl ?_
  refine .r (lenv (hS.keep q_0) T.u22 rfl rfl) ?_ rfl rfl
  refine .p rfl rfl rfl ?_
  refine .p rfl rfl rfl ?_
  refine .nil ?_
  refine .seq ?_
  refine .seq ?_
  refine .region ?_
  refine .p rfl rfl rfl ?_
  refine .p rfl rfl rfl ?_
  refine .nil ?_
  refine .cond rfl (fun hb => ?_) (fun hb => ?_)
  · have h := sel_t hb h
    refine .seq ?_
    refine .region ?_
    refine .p rfl rfl rfl ?_
    refine .nil ?_
    refine .ret ?_
    cases h
    exact fin_ret (vs := [_]) () (rt rfl rn) rfl (hS.to [] rfl)
  · have h := sel_f hb h
    refine .skip ?_
    refine .seq ?_
    refine .region ?_
    refine .p rfl rfl rfl ?_
    refine .p rfl rfl rfl ?_
    refine .nil ?_
    refine .ret ?_
    cases h
    exact fin_ret (vs := [_]) () (rt rfl rn) rfl (hS.to [] rfl)
theorem laws_szMachine_ok {a0 : Machine} {a1 : Int} {v_0_Regs : Hd} {v_0_Mem : Hd} {w : World} {r : Int} (h : laws_szMachine a0 a1 = some r) (q_0_Regs : RV w (Old No w) (sv v_0_Regs) 3 1 (D.int .i64) a0.Regs) (q_0_Mem : RV w (Old No w) (sv v_0_Mem) 3 1 (D.int .i64) a0.Mem) : Calls Try.prog 4 #[.agg #[(sv v_0_Regs), .int .i64 a0.Pc, (sv v_0_Mem)], .int .i64 a1] w (Ret No w (fun s : Unit => .int .i64 r) (fun s => [])) := by
  unfold laws_szMachine at h
  refine enter Try.func4 rfl rfl ?_
  have hS := Sep.start w
  refine .seq ?_
  refine .region ?_
  refine .c (.box hS rfl rfl ?_ rfl rfl)
  intro g1 W hS
  refine .p rfl rfl rfl ?_
  refine .nil ?_
  refine .seq ?_
  refine .region ?_
  refine .r (fa T.f24_0 rfl rfl rfl) ?_ rfl rfl
  refine .r (ld T.t22 hS rfl rfl rfl rfl rfl) ?_ rfl rfl
  refine .p rfl rfl rfl ?_
  obtain ⟨y1, hy1, h⟩ := bnd h
  refine .c (.call0 hS Try.func16 (laws_szIntS_ok hy1 (hS.keep q_0_Regs)) rfl rfl ?_ rfl (by kernel_rfl) rfl rfl)
  intro W hS
  refine .p rfl rfl rfl ?_
  refine .nil ?_
  refine .seq ?_
  refine .seq ?_
  refine .region ?_
  refine .p rfl rfl rfl ?_
  refine .p rfl rfl rfl ?_
  refine .nil ?_
  refine .cond rfl (fun hb => ?_) (fun hb => ?_)
  · have h := sel_t hb h
    refine .seq ?_
    refine .region ?_
    refine .p rfl rfl rfl ?_
    refine .nil ?_
    refine .ret ?_
    cases h
    exact fin_ret (vs := [_]) () (rt rfl rn) rfl (hS.to [] rfl)
  · have h := sel_f hb h
    refine .skip ?_
    refine .seq ?_
    refine .region ?_
    refine .r (fa T.f24_2 rfl rfl rfl) ?_ rfl rfl
    refine .r (ld T.t22 hS rfl rfl rfl rfl rfl) ?_ rfl rfl
    refine .p rfl rfl rfl ?_
    obtain ⟨y2, hy2, h⟩ := bnd h
    refine .c (.call0 hS Try.func16 (laws_szIntS_ok hy2 (hS.keep q_0_Mem)) rfl rfl ?_ rfl (by kernel_rfl) rfl rfl)
    intro W hS
    refine .p rfl rfl rfl ?_
    refine .nil ?_
    refine .seq ?_
    refine .seq ?_
    refine .region ?_
    refine .p rfl rfl rfl ?_
    refine .p rfl rfl rfl ?_
    refine .nil ?_
    refine .cond rfl (fun hb => ?_) (fun hb => ?_)
    · have h := sel_t hb h
      refine .seq ?_
      refine .region ?_
      refine .p rfl rfl rfl ?_
      refine .nil ?_
      refine .ret ?_
      cases h
      exact fin_ret (vs := [_]) () (rt rfl rn) rfl (hS.to [] rfl)
    · have h := sel_f hb h
      refine .skip ?_
      refine .seq ?_
      refine .region ?_
      refine .p rfl rfl rfl ?_
      refine .p rfl rfl rfl ?_
      refine .nil ?_
      refine .ret ?_
      cases h
      exact fin_ret (vs := [_]) () (rt rfl rn) rfl (hS.to [] rfl)
theorem spec_l6In_ok {a0 : Int} {a1 : Int} {a2 : Int} {w : World} {r : Bool} (h : spec_l6In a0 a1 a2 = some r) : Calls Try.prog 33 #[.int .i64 a0, .int .i64 a1, .int .i64 a2] w (Ret No w (fun s : Unit => .bool r) (fun s => [])) := by
  unfold spec_l6In at h
  refine enter Try.func33 rfl rfl ?_
  have hS := Sep.start w
  refine .seq ?_
  refine .region ?_
  refine .p rfl rfl rfl ?_
  refine .nil ?_
  refine .seq ?_
  refine .region ?_
  refine .p rfl rfl rfl ?_
  refine .p rfl rfl rfl ?_
  refine .p rfl rfl rfl ?_
  refine .p rfl rfl rfl ?_
  refine .chunk 4 14 ((decide (a0 ≥ a1)) && (decide (a0 ≤ a2))) hS ?_ ?_
  · refine .both (decide (a0 ≥ a1)) (fun hb => ?_) (fun hb => ?_)
    · have hg1 := hb
      refine .g hg1 (.p rfl rfl rfl ?_) rfl
      refine .g hg1 (.p rfl rfl rfl ?_) rfl
      refine .g hg1 (.p rfl rfl rfl ?_) rfl
      refine .r (pkt hg1 rfl rfl rfl) ?_ rfl rfl
      exact .nil (ck 4 hS rfl (and_t hg1) rfl rfl)
    · skip
      refine .x hb ?_ rfl rfl
      refine .x hb ?_ rfl rfl
      refine .x hb ?_ rfl rfl
      refine .r (pkf hb rfl rfl rfl) ?_ rfl rfl
      exact .nil (ck 4 hS rfl (and_f hb) rfl rfl)
  intro W hS
  refine .p rfl rfl rfl ?_
  refine .nil ?_
  refine .ret ?_
  cases h
  exact fin_ret (vs := [_]) () (rt rfl rn) rfl (hS.to [] rfl)
theorem spec_WordValid_ok {a0 : Int} {w : World} {r : Bool} (h : spec_WordValid a0 = some r) : Calls Try.prog 32 #[.int .i64 a0] w (Ret No w (fun s : Unit => .bool r) (fun s => [])) := by
  unfold spec_WordValid at h
  refine enter Try.func32 rfl rfl ?_
  have hS := Sep.start w
  refine .seq ?_
  refine .region ?_
  refine .p rfl rfl rfl ?_
  refine .nil ?_
  refine .seq ?_
  refine .region ?_
  refine .p rfl rfl rfl ?_
  obtain ⟨y1, hy1, h⟩ := bnd h
  refine .c (.call0 hS Try.func33 (spec_l6In_ok hy1) rfl rfl ?_ rfl (by kernel_rfl) rfl rfl)
  intro W hS
  refine .p rfl rfl rfl ?_
  refine .nil ?_
  refine .ret ?_
  cases h
  exact fin_ret (vs := [_]) () (rt rfl rn) rfl (hS.to [] rfl)
def spec_l4Words_F (w : World) (r : Bool) : Env → World → Prop := Fin Try.prog Try.f18 No w (fun s : Unit => .bool r) (fun s => []) .ret
theorem spec_l4Words_ok {a0 : List Int} {a1 : Int} {v_0 : Hd} {w : World} {r : Bool} (h : spec_l4Words a0 a1 = some r) (q_0 : RV w (Old No w) (sv v_0) 3 1 (D.int .i64) a0) : Calls Try.prog 18 #[(sv v_0), .int .i64 a1] w (Ret No w (fun s : Unit => .bool r) (fun s => [])) := by
  unfold spec_l4Words at h
  refine enter Try.func18 rfl rfl ?_
  have hS := Sep.start w
  refine .seq ?_
  refine .region ?_
  refine .p rfl rfl rfl ?_
  refine .nil ?_
  refine .seq ?_
  refine .seq ?_
  refine .region ?_
  refine .p rfl rfl rfl ?_
  refine .r (lenv (hS.keep q_0) T.u22 rfl rfl) ?_ rfl rfl
  refine .p rfl rfl rfl ?_
  refine .p rfl rfl rfl ?_
  refine .nil ?_
  refine .cond rfl (fun hb => ?_) (fun hb => ?_)
  · have h := sel_t hb h
    refine .seq ?_
    refine .region ?_
    refine .p rfl rfl rfl ?_
    refine .nil ?_
    refine .ret ?_
    cases h
    exact fin_ret (vs := [_]) () (rt rfl rn) rfl (hS.to [] rfl)
  · have h := sel_f hb h
    refine .skip ?_
    refine .seq ?_
    refine .seq ?_
    refine .region ?_
    refine .p rfl rfl rfl ?_
    refine .nil ?_
    refine .block ?_
    obtain ⟨y1, hy1, h⟩ := bnd h
    refine .via (.iter (fun s1 E' W' => SubL E' [(0, (sv v_0)), (5, .int .i64 s1)] ∧ Sep No w W' []) (fun y2 x E' W' => (match y2 with | .inl o1 => x = .ret ∧ spec_l4Words_F w o1 E' W' | .inr o2 => x = .exit 0 ∧ SubL E' [] ∧ Sep No w W' [])) hy1 ⟨sb rfl, hS.to [] rfl⟩ ?_) ?_
    · intro s1 y3 E W h hI
      obtain ⟨hE, hS⟩ := hI
      refine CW.sub hE ?_
      unfold spec_l4Words_b1 at h
      refine .seq ?_
      refine .seq ?_
      refine .region ?_
      refine .p rfl rfl rfl ?_
      refine .p rfl rfl rfl ?_
      refine .r (lenv (hS.keep q_0) T.u22 rfl rfl) ?_ rfl rfl
      refine .p rfl rfl rfl ?_
      refine .nil ?_
      refine .cond rfl (fun hb => ?_) (fun hb => ?_)
      · have h := sel_t hb h
        refine .skip ?_
        refine .seq ?_
        refine .block ?_
        refine .seq ?_
        refine .region ?_
        refine .p rfl rfl rfl ?_
        refine .p rfl rfl rfl ?_
        obtain ⟨x1, hx1, h⟩ := bnd h
        refine .r (ixv (hS.keep q_0) hx1 T.u22 T.t3 rfl rfl rfl) ?_ rfl rfl
        refine .r (lde (RV.flat (hS.keep q_0) hx1 rfl) T.t3 rfl rfl rfl rfl rfl) ?_ rfl rfl
        obtain ⟨y4, hy4, h⟩ := bnd h
        refine .c (.call0 hS Try.func32 (spec_WordValid_ok hy4) rfl rfl ?_ rfl (by kernel_rfl) rfl rfl)
        intro W hS
        refine .p rfl rfl rfl ?_
        refine .nil ?_
        refine .cond rfl (fun hb => ?_) (fun hb => ?_)
        · have h := sel_t hb h
          refine .seq ?_
          refine .region ?_
          refine .p rfl rfl rfl ?_
          refine .nil ?_
          refine .ret ?_
          cases h
          exact ⟨by simp, rfl, fin_ret (vs := [_]) () (rt rfl rn) rfl (hS.to [] rfl)⟩
        · have h := sel_f hb h
          refine .skip ?_
          refine .region ?_
          refine .p rfl rfl rfl ?_
          refine .p rfl rfl rfl ?_
          refine .p rfl rfl rfl ?_
          refine .nil ?_
          cases h
          exact ⟨rfl, sb rfl, hS.to [] rfl⟩
      · have h := sel_f hb h
        refine .exit ?_
        cases h
        exact ⟨by simp, rfl, sb rfl, hS.to [] rfl⟩
    · intro x E W hJ
      rcases y1 with o3 | o4
      · skip
        obtain ⟨rfl, hF⟩ := hJ
        refine ⟨_, fun _ _ h => h, ?_⟩
        cases h
        exact hF
      · skip
        obtain ⟨rfl, hE, hS⟩ := hJ
        refine ⟨_, hE.sub, ?_⟩
        refine .seq ?_
        refine .region ?_
        refine .p rfl rfl rfl ?_
        refine .nil ?_
        refine .ret ?_
        cases h
        exact fin_ret (vs := [_]) () (rt rfl rn) rfl (hS.to [] rfl)
theorem spec_MachineValid_ok {a0 : Machine} {v_0_Regs : Hd} {v_0_Mem : Hd} {w : World} {r : Bool} (h : spec_MachineValid a0 = some r) (q_0_Regs : RV w (Old No w) (sv v_0_Regs) 3 1 (D.int .i64) a0.Regs) (q_0_Mem : RV w (Old No w) (sv v_0_Mem) 3 1 (D.int .i64) a0.Mem) : Calls Try.prog 17 #[.agg #[(sv v_0_Regs), .int .i64 a0.Pc, (sv v_0_Mem)]] w (Ret No w (fun s : Unit => .bool r) (fun s => [])) := by
  unfold spec_MachineValid at h
  refine enter Try.func17 rfl rfl ?_
  have hS := Sep.start w
  refine .seq ?_
  refine .region ?_
  refine .c (.box hS rfl rfl ?_ rfl rfl)
  intro g1 W hS
  refine .p rfl rfl rfl ?_
  refine .nil ?_
  refine .seq ?_
  refine .region ?_
  refine .r (fa T.f31_0 rfl rfl rfl) ?_ rfl rfl
  refine .r (ld T.t22 hS rfl rfl rfl rfl rfl) ?_ rfl rfl
  obtain ⟨y1, hy1, h⟩ := bnd h
  refine .c (.call0 hS Try.func18 (spec_l4Words_ok hy1 (hS.keep q_0_Regs)) rfl rfl ?_ rfl (by kernel_rfl) rfl rfl)
  intro W hS
  refine .p rfl rfl rfl ?_
  obtain ⟨b1, hb1, h⟩ := bnd h
  refine .chunk 6 12 (b1) hS ?_ ?_
  · refine .both (y1) (fun hb => ?_) (fun hb => ?_)
    · have hg1 := hb
      have h := sel_t hb hb1
      refine .g hg1 (.r (fa T.f31_0 rfl rfl rfl) ?_ rfl rfl) rfl
      refine .g hg1 (.r (ld T.t22 hS rfl rfl rfl rfl rfl) ?_ rfl rfl) rfl
      obtain ⟨x1, hx1, h⟩ := bnd h
      refine .g hg1 (.r (ixv (hS.keep q_0_Regs) hx1 T.u22 T.t3 rfl rfl rfl) ?_ rfl rfl) rfl
      refine .g hg1 (.r (lde (RV.flat (hS.keep q_0_Regs) hx1 rfl) T.t3 rfl rfl rfl rfl rfl) ?_ rfl rfl) rfl
      refine .g hg1 (.p rfl rfl rfl ?_) rfl
      refine .r (pkt hg1 rfl rfl rfl) ?_ rfl rfl
      cases h
      exact .nil (ck 6 hS rfl rfl rfl rfl)
    · skip
      refine .x hb ?_ rfl rfl
      refine .x hb ?_ rfl rfl
      refine .x hb ?_ rfl rfl
      refine .x hb ?_ rfl rfl
      refine .x hb ?_ rfl rfl
      cases sel_f hb hb1
      refine .r (pkf hb rfl rfl rfl) ?_ rfl rfl
      exact .nil (ck 6 hS rfl rfl rfl rfl)
  intro W hS
  refine .p rfl rfl rfl ?_
  obtain ⟨b2, hb2, h⟩ := bnd h
  refine .chunk 4 17 (b2) hS ?_ ?_
  · refine .both (b1) (fun hb => ?_) (fun hb => ?_)
    · have hg2 := hb
      have h := sel_t hb hb2
      refine .g hg2 (.r (fa T.f31_1 rfl rfl rfl) ?_ rfl rfl) rfl
      refine .g hg2 (.r (ld T.t3 hS rfl rfl rfl rfl rfl) ?_ rfl rfl) rfl
      obtain ⟨y2, hy2, h⟩ := bnd h
      refine .g hg2 (.c (.call0 hS Try.func32 (spec_WordValid_ok hy2) rfl rfl ?_ rfl (by kernel_rfl) rfl rfl)) rfl
      intro W hS
      refine .r (pkt hg2 rfl rfl rfl) ?_ rfl rfl
      cases h
      exact .nil (ck 4 hS rfl rfl rfl rfl)
    · skip
      refine .x hb ?_ rfl rfl
      refine .x hb ?_ rfl rfl
      refine .x hb ?_ rfl rfl
      cases sel_f hb hb2
      refine .r (pkf hb rfl rfl rfl) ?_ rfl rfl
      exact .nil (ck 4 hS rfl rfl rfl rfl)
  intro W hS
  refine .p rfl rfl rfl ?_
  refine .chunk 5 23 (b2 && (decide ((a0.Mem.length : Int) ≤ 10000))) hS ?_ ?_
  · refine .both (b2) (fun hb => ?_) (fun hb => ?_)
    · have hg3 := hb
      refine .g hg3 (.r (fa T.f31_2 rfl rfl rfl) ?_ rfl rfl) rfl
      refine .g hg3 (.r (ld T.t22 hS rfl rfl rfl rfl rfl) ?_ rfl rfl) rfl
      refine .g hg3 (.r (lenv (hS.keep q_0_Mem) T.u22 rfl rfl) ?_ rfl rfl) rfl
      refine .g hg3 (.p rfl rfl rfl ?_) rfl
      refine .r (pkt hg3 rfl rfl rfl) ?_ rfl rfl
      exact .nil (ck 5 hS rfl (and_t hg3) rfl rfl)
    · skip
      refine .x hb ?_ rfl rfl
      refine .x hb ?_ rfl rfl
      refine .x hb ?_ rfl rfl
      refine .x hb ?_ rfl rfl
      refine .r (pkf hb rfl rfl rfl) ?_ rfl rfl
      exact .nil (ck 5 hS rfl (and_f hb) rfl rfl)
  intro W hS
  refine .p rfl rfl rfl ?_
  obtain ⟨b3, hb3, h⟩ := bnd h
  refine .chunk 7 31 (b3) hS ?_ ?_
  · refine .both (b2 && (decide ((a0.Mem.length : Int) ≤ 10000))) (fun hb => ?_) (fun hb => ?_)
    · have hg4 := hb
      have h := sel_t hb hb3
      refine .g hg4 (.r (fa T.f31_2 rfl rfl rfl) ?_ rfl rfl) rfl
      refine .g hg4 (.r (ld T.t22 hS rfl rfl rfl rfl rfl) ?_ rfl rfl) rfl
      refine .g hg4 (.r (fa T.f31_2 rfl rfl rfl) ?_ rfl rfl) rfl
      refine .g hg4 (.r (ld T.t22 hS rfl rfl rfl rfl rfl) ?_ rfl rfl) rfl
      refine .g hg4 (.r (lenv (hS.keep q_0_Mem) T.u22 rfl rfl) ?_ rfl rfl) rfl
      obtain ⟨y3, hy3, h⟩ := bnd h
      refine .g hg4 (.c (.call0 hS Try.func18 (spec_l4Words_ok hy3 (hS.keep q_0_Mem)) rfl rfl ?_ rfl (by kernel_rfl) rfl rfl)) rfl
      intro W hS
      refine .r (pkt hg4 rfl rfl rfl) ?_ rfl rfl
      cases h
      exact .nil (ck 7 hS rfl rfl rfl rfl)
    · skip
      refine .x hb ?_ rfl rfl
      refine .x hb ?_ rfl rfl
      refine .x hb ?_ rfl rfl
      refine .x hb ?_ rfl rfl
      refine .x hb ?_ rfl rfl
      refine .x hb ?_ rfl rfl
      cases sel_f hb hb3
      refine .r (pkf hb rfl rfl rfl) ?_ rfl rfl
      exact .nil (ck 7 hS rfl rfl rfl rfl)
  intro W hS
  refine .p rfl rfl rfl ?_
  refine .nil ?_
  refine .ret ?_
  cases h
  exact fin_ret (vs := [_]) () (rt rfl rn) rfl (hS.to [] rfl)
theorem spec_l47Fits_ok {a0 : List Int} {a1 : Int} {v_0 : Hd} {w : World} {r : Bool} (h : spec_l47Fits a0 a1 = some r) (q_0 : RV w (Old No w) (sv v_0) 3 1 (D.int .i64) a0) : Calls Try.prog 19 #[(sv v_0), .int .i64 a1] w (Ret No w (fun s : Unit => .bool r) (fun s => [])) := by
  unfold spec_l47Fits at h
  refine enter Try.func19 rfl rfl ?_
  have hS := Sep.start w
  refine .seq ?_
  refine .region ?_
  refine .p rfl rfl rfl ?_
  refine .nil ?_
  refine .seq ?_
  refine .seq ?_
  refine .region ?_
  refine .p rfl rfl rfl ?_
  refine .p rfl rfl rfl ?_
  refine .p rfl rfl rfl ?_
  refine .chunk 4 12 ((decide (a1 < 0)) || ((Int.tmod a1 4) != 0)) hS ?_ ?_
  · refine .both (decide (a1 < 0)) (fun hb => ?_) (fun hb => ?_)
    · skip
      refine .x hb ?_ rfl rfl
      refine .x hb ?_ rfl rfl
      refine .x hb ?_ rfl rfl
      refine .r (pkt hb rfl rfl rfl) ?_ rfl rfl
      exact .nil (ck 4 hS rfl (or_t hb) rfl rfl)
    · have hg1 := hb
      refine .g hg1 (.p rfl rfl rfl ?_) rfl
      refine .g hg1 (.p rfl rfl rfl ?_) rfl
      refine .g hg1 (.p rfl rfl rfl ?_) rfl
      refine .r (pkf hg1 rfl rfl rfl) ?_ rfl rfl
      exact .nil (ck 4 hS rfl (or_f hg1) rfl rfl)
  intro W hS
  refine .p rfl rfl rfl ?_
  refine .chunk 7 20 (((decide (a1 < 0)) || ((Int.tmod a1 4) != 0)) || (decide ((w64 ((w64 (Int.tdiv a1 4)) + 4)) > (a0.length : Int)))) hS ?_ ?_
  · refine .both ((decide (a1 < 0)) || ((Int.tmod a1 4) != 0)) (fun hb => ?_) (fun hb => ?_)
    · skip
      refine .x hb ?_ rfl rfl
      refine .x hb ?_ rfl rfl
      refine .x hb ?_ rfl rfl
      refine .x hb ?_ rfl rfl
      refine .x hb ?_ rfl rfl
      refine .x hb ?_ rfl rfl
      refine .r (pkt hb rfl rfl rfl) ?_ rfl rfl
      exact .nil (ck 7 hS rfl (or_t hb) rfl rfl)
    · have hg2 := hb
      refine .g hg2 (.p rfl rfl rfl ?_) rfl
      refine .g hg2 (.p rfl rfl rfl ?_) rfl
      refine .g hg2 (.p rfl rfl rfl ?_) rfl
      refine .g hg2 (.p rfl rfl rfl ?_) rfl
      refine .g hg2 (.r (lenv (hS.keep q_0) T.u22 rfl rfl) ?_ rfl rfl) rfl
      refine .g hg2 (.p rfl rfl rfl ?_) rfl
      refine .r (pkf hg2 rfl rfl rfl) ?_ rfl rfl
      exact .nil (ck 7 hS rfl (or_f hg2) rfl rfl)
  intro W hS
  refine .nil ?_
  refine .cond rfl (fun hb => ?_) (fun hb => ?_)
  · have h := sel_t hb h
    refine .seq ?_
    refine .region ?_
    refine .p rfl rfl rfl ?_
    refine .nil ?_
    refine .ret ?_
    cases h
    exact fin_ret (vs := [_]) () (rt rfl rn) rfl (hS.to [] rfl)
  · have h := sel_f hb h
    refine .skip ?_
    refine .seq ?_
    refine .region ?_
    refine .p rfl rfl rfl ?_
    refine .p rfl rfl rfl ?_
    refine .p rfl rfl rfl ?_
    refine .p rfl rfl rfl ?_
    obtain ⟨x1, hx1, h⟩ := bnd h
    refine .r (ixv (hS.keep q_0) hx1 T.u22 T.t3 rfl rfl rfl) ?_ rfl rfl
    refine .r (lde (RV.flat (hS.keep q_0) hx1 rfl) T.t3 rfl rfl rfl rfl rfl) ?_ rfl rfl
    refine .p rfl rfl rfl ?_
    refine .nil ?_
    refine .seq ?_
    refine .region ?_
    refine .p rfl rfl rfl ?_
    obtain ⟨y1, hy1, h⟩ := bnd h
    refine .c (.call0 hS Try.func33 (spec_l6In_ok hy1) rfl rfl ?_ rfl (by kernel_rfl) rfl rfl)
    intro W hS
    refine .p rfl rfl rfl ?_
    refine .chunk 11 40 (y1 && (decide ((w64 ((w64 ((w64 ((w64 (Int.tdiv a1 4)) + 4)) + 24)) + (w64 (16 * x1)))) ≤ (a0.length : Int)))) hS ?_ ?_
    · refine .both (y1) (fun hb => ?_) (fun hb => ?_)
      · have hg3 := hb
        refine .g hg3 (.p rfl rfl rfl ?_) rfl
        refine .g hg3 (.p rfl rfl rfl ?_) rfl
        refine .g hg3 (.p rfl rfl rfl ?_) rfl
        refine .g hg3 (.p rfl rfl rfl ?_) rfl
        refine .g hg3 (.p rfl rfl rfl ?_) rfl
        refine .g hg3 (.p rfl rfl rfl ?_) rfl
        refine .g hg3 (.p rfl rfl rfl ?_) rfl
        refine .g hg3 (.p rfl rfl rfl ?_) rfl
        refine .g hg3 (.r (lenv (hS.keep q_0) T.u22 rfl rfl) ?_ rfl rfl) rfl
        refine .g hg3 (.p rfl rfl rfl ?_) rfl
        refine .r (pkt hg3 rfl rfl rfl) ?_ rfl rfl
        exact .nil (ck 11 hS rfl (and_t hg3) rfl rfl)
      · skip
        refine .x hb ?_ rfl rfl
        refine .x hb ?_ rfl rfl
        refine .x hb ?_ rfl rfl
        refine .x hb ?_ rfl rfl
        refine .x hb ?_ rfl rfl
        refine .x hb ?_ rfl rfl
        refine .x hb ?_ rfl rfl
        refine .x hb ?_ rfl rfl
        refine .x hb ?_ rfl rfl
        refine .x hb ?_ rfl rfl
        refine .r (pkf hb rfl rfl rfl) ?_ rfl rfl
        exact .nil (ck 11 hS rfl (and_f hb) rfl rfl)
    intro W hS
    refine .p rfl rfl rfl ?_
    refine .nil ?_
    refine .ret ?_
    cases h
    exact fin_ret (vs := [_]) () (rt rfl rn) rfl (hS.to [] rfl)
theorem spec_RingValid_ok {a0 : Ring} {v_0_Slots : Hd} {w : World} {r : Bool} (h : spec_RingValid a0 = some r) (q_0_Slots : RV w (Old No w) (sv v_0_Slots) 3 1 (D.int .i64) a0.Slots) : Calls Try.prog 38 #[.agg #[.int .i64 a0.Room, .int .i64 a0.Head, .int .i64 a0.Len, (sv v_0_Slots)]] w (Ret No w (fun s : Unit => .bool r) (fun s => [])) := by
  unfold spec_RingValid at h
  refine enter Try.func38 rfl rfl ?_
  have hS := Sep.start w
  refine .seq ?_
  refine .region ?_
  refine .c (.box hS rfl rfl ?_ rfl rfl)
  intro g1 W hS
  refine .p rfl rfl rfl ?_
  refine .nil ?_
  refine .seq ?_
  refine .region ?_
  refine .r (fa T.f51_0 rfl rfl rfl) ?_ rfl rfl
  refine .r (ld T.t3 hS rfl rfl rfl rfl rfl) ?_ rfl rfl
  obtain ⟨y1, hy1, h⟩ := bnd h
  refine .c (.call0 hS Try.func33 (spec_l6In_ok hy1) rfl rfl ?_ rfl (by kernel_rfl) rfl rfl)
  intro W hS
  refine .p rfl rfl rfl ?_
  obtain ⟨b1, hb1, h⟩ := bnd h
  refine .chunk 7 13 (b1) hS ?_ ?_
  · refine .both (y1) (fun hb => ?_) (fun hb => ?_)
    · have hg1 := hb
      have h := sel_t hb hb1
      refine .g hg1 (.r (fa T.f51_1 rfl rfl rfl) ?_ rfl rfl) rfl
      refine .g hg1 (.r (ld T.t3 hS rfl rfl rfl rfl rfl) ?_ rfl rfl) rfl
      refine .g hg1 (.r (fa T.f51_0 rfl rfl rfl) ?_ rfl rfl) rfl
      refine .g hg1 (.r (ld T.t3 hS rfl rfl rfl rfl rfl) ?_ rfl rfl) rfl
      refine .g hg1 (.p rfl rfl rfl ?_) rfl
      obtain ⟨y2, hy2, h⟩ := bnd h
      refine .g hg1 (.c (.call0 hS Try.func33 (spec_l6In_ok hy2) rfl rfl ?_ rfl (by kernel_rfl) rfl rfl)) rfl
      intro W hS
      refine .r (pkt hg1 rfl rfl rfl) ?_ rfl rfl
      cases h
      exact .nil (ck 7 hS rfl rfl rfl rfl)
    · skip
      refine .x hb ?_ rfl rfl
      refine .x hb ?_ rfl rfl
      refine .x hb ?_ rfl rfl
      refine .x hb ?_ rfl rfl
      refine .x hb ?_ rfl rfl
      refine .x hb ?_ rfl rfl
      cases sel_f hb hb1
      refine .r (pkf hb rfl rfl rfl) ?_ rfl rfl
      exact .nil (ck 7 hS rfl rfl rfl rfl)
  intro W hS
  refine .p rfl rfl rfl ?_
  obtain ⟨b2, hb2, h⟩ := bnd h
  refine .chunk 6 20 (b2) hS ?_ ?_
  · refine .both (b1) (fun hb => ?_) (fun hb => ?_)
    · have hg2 := hb
      have h := sel_t hb hb2
      refine .g hg2 (.r (fa T.f51_2 rfl rfl rfl) ?_ rfl rfl) rfl
      refine .g hg2 (.r (ld T.t3 hS rfl rfl rfl rfl rfl) ?_ rfl rfl) rfl
      refine .g hg2 (.r (fa T.f51_0 rfl rfl rfl) ?_ rfl rfl) rfl
      refine .g hg2 (.r (ld T.t3 hS rfl rfl rfl rfl rfl) ?_ rfl rfl) rfl
      obtain ⟨y3, hy3, h⟩ := bnd h
      refine .g hg2 (.c (.call0 hS Try.func33 (spec_l6In_ok hy3) rfl rfl ?_ rfl (by kernel_rfl) rfl rfl)) rfl
      intro W hS
      refine .r (pkt hg2 rfl rfl rfl) ?_ rfl rfl
      cases h
      exact .nil (ck 6 hS rfl rfl rfl rfl)
    · skip
      refine .x hb ?_ rfl rfl
      refine .x hb ?_ rfl rfl
      refine .x hb ?_ rfl rfl
      refine .x hb ?_ rfl rfl
      refine .x hb ?_ rfl rfl
      cases sel_f hb hb2
      refine .r (pkf hb rfl rfl rfl) ?_ rfl rfl
      exact .nil (ck 6 hS rfl rfl rfl rfl)
  intro W hS
  refine .p rfl rfl rfl ?_
  obtain ⟨b3, hb3, h⟩ := bnd h
  refine .chunk 4 25 (b3) hS ?_ ?_
  · refine .both (b2) (fun hb => ?_) (fun hb => ?_)
    · have hg3 := hb
      have h := sel_t hb hb3
      refine .g hg3 (.r (fa T.f51_3 rfl rfl rfl) ?_ rfl rfl) rfl
      refine .g hg3 (.r (ld T.t22 hS rfl rfl rfl rfl rfl) ?_ rfl rfl) rfl
      obtain ⟨y4, hy4, h⟩ := bnd h
      refine .g hg3 (.c (.call0 hS Try.func18 (spec_l4Words_ok hy4 (hS.keep q_0_Slots)) rfl rfl ?_ rfl (by kernel_rfl) rfl rfl)) rfl
      intro W hS
      refine .r (pkt hg3 rfl rfl rfl) ?_ rfl rfl
      cases h
      exact .nil (ck 4 hS rfl rfl rfl rfl)
    · skip
      refine .x hb ?_ rfl rfl
      refine .x hb ?_ rfl rfl
      refine .x hb ?_ rfl rfl
      cases sel_f hb hb3
      refine .r (pkf hb rfl rfl rfl) ?_ rfl rfl
      exact .nil (ck 4 hS rfl rfl rfl rfl)
  intro W hS
  refine .p rfl rfl rfl ?_
  refine .nil ?_
  refine .ret ?_
  cases h
  exact fin_ret (vs := [_]) () (rt rfl rn) rfl (hS.to [] rfl)
theorem spec_RingBox_ok {a0 : Ring} {v_0_Slots : Hd} {w : World} {r : Box × Bool} (h : spec_RingBox a0 = some r) (q_0_Slots : RV w (Old No w) (sv v_0_Slots) 3 1 (D.int .i64) a0.Slots) : Calls Try.prog 34 #[.agg #[.int .i64 a0.Room, .int .i64 a0.Head, .int .i64 a0.Len, (sv v_0_Slots)]] w (Ret No w (fun s : Hd => .tuple #[.agg #[.int .i64 r.1.Room, (sv s)], .bool r.2]) (fun s => [rowV (sv s) 3 1 (D.int .i64) r.1.Items])) := by
  unfold spec_RingBox at h
  refine enter Try.func34 rfl rfl ?_
  have hS := Sep.start w
  refine .seq ?_
  refine .region ?_
  refine .c (.box hS rfl rfl ?_ rfl rfl)
  intro g1 W hS
  refine .c (.alloc T.t47 hS ?_ rfl rfl rfl)
  intro g2 W hS
  refine .p rfl rfl rfl ?_
  refine .nil ?_
  refine .seq ?_
  refine .seq ?_
  refine .region ?_
  refine .r (ld T.t51 hS.p1 rfl rfl rfl rfl rfl) ?_ rfl rfl
  obtain ⟨y1, hy1, h⟩ := bnd h
  refine .c (.call0 hS Try.func38 (spec_RingValid_ok hy1 (hS.keep q_0_Slots)) rfl rfl ?_ rfl (by kernel_rfl) rfl rfl)
  intro W hS
  refine .p rfl rfl rfl ?_
  refine .nil ?_
  refine .cond rfl (fun hb => ?_) (fun hb => ?_)
  · have h := sel_t hb h
    refine .seq ?_
    refine .region ?_
    refine .r (bs T.s47 rfl rfl) ?_ rfl rfl
    refine .c (.st T.t47 hS rfl rfl rfl ?_ rfl rfl rfl rfl rfl)
    intro W hS
    refine .p rfl rfl rfl ?_
    refine .nil ?_
    refine .ret ?_
    have hS := hS.nilv 3 1 (D.int .i64)
    cases h
    exact fin_ret (vs := [_, _]) nilH (rc hS.p1 T.t47 rfl (rt rfl rn) rfl rfl) rfl (hS.to [0] rfl)
  · have h := sel_f hb h
    refine .skip ?_
    refine .seq ?_
    refine .region ?_
    refine .r (fa T.f51_0 rfl rfl rfl) ?_ rfl rfl
    refine .r (ld T.t3 hS.p1 rfl rfl rfl rfl rfl) ?_ rfl rfl
    refine .c (.liv [] (D.int .i64) T.u22 T.t3 hS rfl rfl rfl rfl ?_ rfl (fun _ => rfl) rfl rfl rfl rfl)
    intro v1 W hS
    refine .r (bs T.s47 rfl rfl) ?_ rfl rfl
    refine .c (.alloc T.t47 hS ?_ rfl rfl rfl)
    intro g3 W hS
    refine .c (.st T.t47 hS rfl rfl rfl ?_ rfl rfl rfl rfl rfl)
    intro W hS
    refine .nil ?_
    refine .seq ?_
    refine .seq ?_
    refine .region ?_
    refine .p rfl rfl rfl ?_
    refine .nil ?_
    refine .block ?_
    obtain ⟨y2, hy2, h⟩ := bnd h
    refine .via (.iter (fun s1 E' W' => ∃ (v4 : Hd), SubL E' [(1, .pointer (some ⟨g1, 0, none⟩)), (2, .pointer (some ⟨g2, 0, none⟩)), (4, .pointer (some ⟨g3, 0, none⟩)), (5, .int .i64 s1.1)] ∧ Sep No w W' [.box g3 47 [.int .i64 a0.Room, (sv v4)], .box g2 47 [.int .i64 0, (sv nilH)], .box g1 51 [.int .i64 a0.Room, .int .i64 a0.Head, .int .i64 a0.Len, (sv v_0_Slots)], rowV (sv v4) 3 1 (D.int .i64) s1.2]) (fun y3 x E' W' => x = .exit 0 ∧ ∃ (v5 : Hd), SubL E' [(2, .pointer (some ⟨g2, 0, none⟩)), (4, .pointer (some ⟨g3, 0, none⟩))] ∧ Sep No w W' [.box g3 47 [.int .i64 a0.Room, (sv v5)], .box g2 47 [.int .i64 0, (sv nilH)], .box g1 51 [.int .i64 a0.Room, .int .i64 a0.Head, .int .i64 a0.Len, (sv v_0_Slots)], rowV (sv v5) 3 1 (D.int .i64) y3]) hy2 ⟨v1, sb rfl, hS.to [0, 1, 1, 0] rfl⟩ ?_) ?_
    · intro s1 y4 E W h hI
      obtain ⟨v3, hE, hS⟩ := hI
      refine CW.sub hE ?_
      unfold spec_RingBox_b1 at h
      refine .seq ?_
      refine .seq ?_
      refine .region ?_
      refine .p rfl rfl rfl ?_
      refine .r (fa T.f51_2 rfl rfl rfl) ?_ rfl rfl
      refine .r (ld T.t3 hS.p2 rfl rfl rfl rfl rfl) ?_ rfl rfl
      refine .p rfl rfl rfl ?_
      refine .nil ?_
      refine .cond rfl (fun hb => ?_) (fun hb => ?_)
      · have h := sel_t hb h
        refine .skip ?_
        refine .seq ?_
        refine .block ?_
        refine .rk 16 hS [0, 0, 0] T.mix ?_
        intro W hS
        have hT : Sep _ _ W [.box g3 47 [.int .i64 a0.Room, (sv v3)], .box g2 47 [.int .i64 0, (sv nilH)], .box g1 51 [.int .i64 a0.Room, .int .i64 a0.Head, .int .i64 a0.Len, (sv v_0_Slots)]] := hS.to [0, 0, 0] rfl
        refine .t1 0 rfl (fun W hT => fa T.f47_1 rfl rfl rfl) hT ?_ (by kernel_rfl) rfl rfl
        refine .t1 1 rfl (fun W hT => ld T.t22 hT rfl rfl rfl rfl rfl) hT ?_ (by kernel_rfl) rfl rfl
        refine .t1 2 rfl (fun W hT => fa T.f51_3 rfl rfl rfl) hT ?_ (by kernel_rfl) rfl rfl
        refine .t1 3 rfl (fun W hT => ld T.t22 hT.p2 rfl rfl rfl rfl rfl) hT ?_ (by kernel_rfl) rfl rfl
        refine .t1 4 rfl (fun W hT => fa T.f51_1 rfl rfl rfl) hT ?_ (by kernel_rfl) rfl rfl
        refine .t1 5 rfl (fun W hT => ld T.t3 hT.p2 rfl rfl rfl rfl rfl) hT ?_ (by kernel_rfl) rfl rfl
        refine .t1 6 rfl (fun W hT => pr rfl) hT ?_ (by kernel_rfl) rfl rfl
        refine .t1 7 rfl (fun W hT => pr rfl) hT ?_ (by kernel_rfl) rfl rfl
        refine .t1 8 rfl (fun W hT => fa T.f51_0 rfl rfl rfl) hT ?_ (by kernel_rfl) rfl rfl
        refine .t1 9 rfl (fun W hT => ld T.t3 hT.p2 rfl rfl rfl rfl rfl) hT ?_ (by kernel_rfl) rfl rfl
        obtain ⟨d1, hd1, h⟩ := bnd h
        refine .t1 10 rfl (fun W hT => dr hd1 rfl rfl rfl) hT ?_ (by kernel_rfl) rfl rfl
        obtain ⟨x1, hx1, h⟩ := bnd h
        refine .t1 11 rfl (fun W hT => ixv (hS.keep q_0_Slots) hx1 T.u22 T.t3 rfl rfl rfl) hT ?_ (by kernel_rfl) rfl rfl
        refine .t1 12 rfl (fun W hT => lde (RV.flat (hT.keep q_0_Slots) hx1 rfl) T.t3 rfl rfl rfl rfl rfl) hT ?_ (by kernel_rfl) rfl rfl
        refine .by1 13 rfl (.liv [x1] (D.int .i64) T.u22 T.t3 hS rfl rfl rfl rfl ?_ rfl (fun _ => rfl) rfl rfl rfl rfl) (by kernel_rfl)
        intro v6 W hS
        have hT : Sep _ _ W [.box g3 47 [.int .i64 a0.Room, (sv v3)], .box g2 47 [.int .i64 0, (sv nilH)], .box g1 51 [.int .i64 a0.Room, .int .i64 a0.Head, .int .i64 a0.Len, (sv v_0_Slots)]] := hS.to [1, 1, 1] rfl
        refine ⟨fun _ => hT, ?_⟩
        obtain ⟨r1, hr1, h⟩ := bnd h
        have hT0 := hS.p4
        refine .by1 14 rfl (.apprv hr1 hT0 hT0.p1.lendv (fun _ => rfl) T.u22 T.t3 rfl rfl rfl ?_ rfl rfl rfl rfl rfl) (by kernel_rfl)
        intro v7 W hS
        have hT : Sep _ _ W [.box g3 47 [.int .i64 a0.Room, (sv v3)], .box g2 47 [.int .i64 0, (sv nilH)], .box g1 51 [.int .i64 a0.Room, .int .i64 a0.Head, .int .i64 a0.Len, (sv v_0_Slots)]] := hS.to [2, 2, 2] rfl
        refine ⟨fun _ => hT, ?_⟩
        refine .t1 15 rfl (fun W hT => fa T.f47_1 rfl rfl rfl) hT ?_ (by kernel_rfl) rfl rfl
        refine .by1 16 rfl (.st T.t22 hS.p2 rfl rfl rfl ?_ rfl rfl rfl rfl rfl) (by kernel_rfl)
        intro W hS
        refine ⟨fun h => absurd rfl h, ?_⟩
        refine .done ?_ (by kernel_rfl)
        refine .region ?_
        refine .p rfl rfl rfl ?_
        refine .p rfl rfl rfl ?_
        refine .p rfl rfl rfl ?_
        refine .nil ?_
        cases h
        exact ⟨rfl, v7, sb rfl, hS.to [0, 2, 2, 0] rfl⟩
      · have h := sel_f hb h
        refine .exit ?_
        cases h
        exact ⟨by simp, rfl, v3, sb rfl, hS.to [0, 0, 0, 0] rfl⟩
    · intro x E W hJ
      obtain ⟨rfl, v8, hE, hS⟩ := hJ
      refine ⟨_, hE.sub, ?_⟩
      refine .seq ?_
      refine .region ?_
      refine .r (ld T.t47 hS rfl rfl rfl rfl rfl) ?_ rfl rfl
      refine .c (.st T.t47 hS.p1 rfl rfl rfl ?_ rfl rfl rfl rfl rfl)
      intro W hS
      refine .p rfl rfl rfl ?_
      refine .nil ?_
      refine .ret ?_
      cases h
      exact fin_ret (vs := [_, _]) v8 (rc hS T.t47 rfl (rt rfl rn) rfl rfl) rfl (hS.to [3] rfl)
theorem spec_l47Ring_ok {a0 : List Int} {a1 : Int} {v_0 : Hd} {w : World} {r : Ring} (h : spec_l47Ring a0 a1 = some r) (q_0 : RV w (Old No w) (sv v_0) 3 1 (D.int .i64) a0) : Calls Try.prog 35 #[(sv v_0), .int .i64 a1] w (Ret No w (fun s : Hd => .agg #[.int .i64 r.Room, .int .i64 r.Head, .int .i64 r.Len, (sv s)]) (fun s => [rowV (sv s) 3 1 (D.int .i64) r.Slots])) := by
  unfold spec_l47Ring at h
  refine enter Try.func35 rfl rfl ?_
  have hS := Sep.start w
  refine .seq ?_
  refine .region ?_
  refine .c (.alloc T.t51 hS ?_ rfl rfl rfl)
  intro g1 W hS
  refine .nil ?_
  refine .seq ?_
  refine .rk 23 hS [0] T.mix ?_
  intro W hS
  have hT : Sep _ _ W [.box g1 51 [.int .i64 0, .int .i64 0, .int .i64 0, (sv nilH)]] := hS.to [0] rfl
  refine .t1 0 rfl (fun W hT => pr rfl) hT ?_ (by kernel_rfl) rfl rfl
  refine .t1 1 rfl (fun W hT => pr rfl) hT ?_ (by kernel_rfl) rfl rfl
  obtain ⟨x1, hx1, h⟩ := bnd h
  refine .t1 2 rfl (fun W hT => ixv (hS.keep q_0) hx1 T.u22 T.t3 rfl rfl rfl) hT ?_ (by kernel_rfl) rfl rfl
  refine .t1 3 rfl (fun W hT => lde (RV.flat (hT.keep q_0) hx1 rfl) T.t3 rfl rfl rfl rfl rfl) hT ?_ (by kernel_rfl) rfl rfl
  refine .t1 4 rfl (fun W hT => pr rfl) hT ?_ (by kernel_rfl) rfl rfl
  refine .t1 5 rfl (fun W hT => pr rfl) hT ?_ (by kernel_rfl) rfl rfl
  refine .t1 6 rfl (fun W hT => pr rfl) hT ?_ (by kernel_rfl) rfl rfl
  obtain ⟨x2, hx2, h⟩ := bnd h
  refine .t1 7 rfl (fun W hT => ixv (hS.keep q_0) hx2 T.u22 T.t3 rfl rfl rfl) hT ?_ (by kernel_rfl) rfl rfl
  refine .t1 8 rfl (fun W hT => lde (RV.flat (hT.keep q_0) hx2 rfl) T.t3 rfl rfl rfl rfl rfl) hT ?_ (by kernel_rfl) rfl rfl
  refine .t1 9 rfl (fun W hT => pr rfl) hT ?_ (by kernel_rfl) rfl rfl
  refine .t1 10 rfl (fun W hT => pr rfl) hT ?_ (by kernel_rfl) rfl rfl
  refine .t1 11 rfl (fun W hT => pr rfl) hT ?_ (by kernel_rfl) rfl rfl
  obtain ⟨x3, hx3, h⟩ := bnd h
  refine .t1 12 rfl (fun W hT => ixv (hS.keep q_0) hx3 T.u22 T.t3 rfl rfl rfl) hT ?_ (by kernel_rfl) rfl rfl
  refine .t1 13 rfl (fun W hT => lde (RV.flat (hT.keep q_0) hx3 rfl) T.t3 rfl rfl rfl rfl rfl) hT ?_ (by kernel_rfl) rfl rfl
  refine .t1 15 rfl (fun W hT => pr rfl) hT ?_ (by kernel_rfl) rfl rfl
  refine .t1 16 rfl (fun W hT => pr rfl) hT ?_ (by kernel_rfl) rfl rfl
  refine .t1 17 rfl (fun W hT => pr rfl) hT ?_ (by kernel_rfl) rfl rfl
  refine .t1 18 rfl (fun W hT => pr rfl) hT ?_ (by kernel_rfl) rfl rfl
  refine .t1 19 rfl (fun W hT => pr rfl) hT ?_ (by kernel_rfl) rfl rfl
  obtain ⟨r1, hr1, h⟩ := bnd h
  refine .t1 20 rfl (fun W hT => slv hr1 q_0 T.u22 T.t3 rfl rfl rfl rfl) hT ?_ (by kernel_rfl) rfl rfl
  refine .by1 14 rfl (.liv [] (D.int .i64) T.u22 T.t3 hS rfl rfl rfl rfl ?_ rfl (fun _ => rfl) rfl rfl rfl rfl) (by kernel_rfl)
  intro v1 W hS
  have hT : Sep _ _ W [.box g1 51 [.int .i64 0, .int .i64 0, .int .i64 0, (sv nilH)]] := hS.to [1] rfl
  refine ⟨fun _ => hT, ?_⟩
  obtain ⟨r2, hr2, h⟩ := bnd h
  refine .by1 21 rfl (.apprv hr2 hS (hS.keep (slv_rd hr1 q_0)) (fun _ => rfl) T.u22 T.t3 rfl rfl rfl ?_ rfl rfl rfl rfl rfl) (by kernel_rfl)
  intro v2 W hS
  have hT : Sep _ _ W [.box g1 51 [.int .i64 0, .int .i64 0, .int .i64 0, (sv nilH)]] := hS.to [1] rfl
  refine ⟨fun _ => hT, ?_⟩
  refine .t1 22 rfl (fun W hT => bs T.s51 rfl rfl) hT ?_ (by kernel_rfl) rfl rfl
  refine .by1 23 rfl (.st T.t51 hS.p1 rfl rfl rfl ?_ rfl rfl rfl rfl rfl) (by kernel_rfl)
  intro W hS
  refine ⟨fun h => absurd rfl h, ?_⟩
  refine .done ?_ (by kernel_rfl)
  refine .ret ?_
  cases h
  exact fin_ret (vs := [_]) v2 (rc hS T.t51 rfl rn rfl rfl) rfl (hS.to [1] rfl)
def spec_l47Items_F (w : World) (r : (List (List Int)) × Bool) : Env → World → Prop := Fin Try.prog Try.f20 No w (fun s : Hd => .tuple #[(sv s), .bool r.2]) (fun s => [rowV (sv s) 22 1 (fun (l : List Int) => D.row 3 1 (l.map (D.int .i64))) r.1]) .ret
theorem spec_l47Items_ok {a0 : List Int} {a1 : Int} {v_0 : Hd} {w : World} {r : (List (List Int)) × Bool} (h : spec_l47Items a0 a1 = some r) (q_0 : RV w (Old No w) (sv v_0) 3 1 (D.int .i64) a0) : Calls Try.prog 20 #[(sv v_0), .int .i64 a1] w (Ret No w (fun s : Hd => .tuple #[(sv s), .bool r.2]) (fun s => [rowV (sv s) 22 1 (fun (l : List Int) => D.row 3 1 (l.map (D.int .i64))) r.1])) := by
  unfold spec_l47Items at h
  refine enter Try.func20 rfl rfl ?_
  have hS := Sep.start w
  refine .seq ?_
  refine .region ?_
  refine .p rfl rfl rfl ?_
  refine .p rfl rfl rfl ?_
  refine .nil ?_
  refine .seq ?_
  refine .region ?_
  refine .c (.ligv (L1 := []) [] (fun (l : List Int) => D.row 3 1 (l.map (D.int .i64))) T.u26 T.t22 (hS.to [] rfl) rfl rfl rfl (.nil) ?_ rfl (fun _ => rfl) rfl rfl rfl rfl rfl)
  intro v1 W hS
  refine .p rfl rfl rfl ?_
  refine .nil ?_
  refine .seq ?_
  refine .seq ?_
  refine .region ?_
  refine .p rfl rfl rfl ?_
  refine .nil ?_
  refine .block ?_
  obtain ⟨y1, hy1, h⟩ := bnd h
  refine .via (.iter (fun s1 E' W' => ∃ (v4 : Hd), SubL E' [(0, (sv v_0)), (1, .int .i64 a1), (6, (sv v4)), (7, .int .i64 s1.2)] ∧ Sep No w W' [rowV (sv v4) 22 1 (fun (l : List Int) => D.row 3 1 (l.map (D.int .i64))) s1.1]) (fun y2 x E' W' => (match y2 with | .inl o1 => x = .ret ∧ spec_l47Items_F w o1 E' W' | .inr o2 => x = .exit 0 ∧ ∃ (v5 : Hd), SubL E' [(6, (sv v5))] ∧ Sep No w W' [rowV (sv v5) 22 1 (fun (l : List Int) => D.row 3 1 (l.map (D.int .i64))) o2])) hy1 ⟨v1, sb rfl, hS.to [0] rfl⟩ ?_) ?_
  · intro s1 y3 E W h hI
    obtain ⟨v3, hE, hS⟩ := hI
    refine CW.sub hE ?_
    unfold spec_l47Items_b1 at h
    refine .seq ?_
    refine .seq ?_
    refine .region ?_
    refine .p rfl rfl rfl ?_
    refine .p rfl rfl rfl ?_
    refine .p rfl rfl rfl ?_
    obtain ⟨b1, hb1, h⟩ := bnd h
    refine .chunk 10 23 (b1) hS ?_ ?_
    · refine .both (decide (s1.2 < 3)) (fun hb => ?_) (fun hb => ?_)
      · have hg1 := hb
        have h := sel_t hb hb1
        refine .g hg1 (.p rfl rfl rfl ?_) rfl
        refine .g hg1 (.p rfl rfl rfl ?_) rfl
        refine .g hg1 (.p rfl rfl rfl ?_) rfl
        refine .g hg1 (.p rfl rfl rfl ?_) rfl
        refine .g hg1 (.p rfl rfl rfl ?_) rfl
        refine .g hg1 (.p rfl rfl rfl ?_) rfl
        obtain ⟨x1, hx1, h⟩ := bnd h
        refine .g hg1 (.r (ixv (hS.keep q_0) hx1 T.u22 T.t3 rfl rfl rfl) ?_ rfl rfl) rfl
        refine .g hg1 (.r (lde (RV.flat (hS.keep q_0) hx1 rfl) T.t3 rfl rfl rfl rfl rfl) ?_ rfl rfl) rfl
        refine .g hg1 (.p rfl rfl rfl ?_) rfl
        refine .r (pkt hg1 rfl rfl rfl) ?_ rfl rfl
        cases h
        exact .nil (ck 10 hS rfl rfl rfl rfl)
      · skip
        refine .x hb ?_ rfl rfl
        refine .x hb ?_ rfl rfl
        refine .x hb ?_ rfl rfl
        refine .x hb ?_ rfl rfl
        refine .x hb ?_ rfl rfl
        refine .x hb ?_ rfl rfl
        refine .x hb ?_ rfl rfl
        refine .x hb ?_ rfl rfl
        refine .x hb ?_ rfl rfl
        cases sel_f hb hb1
        refine .r (pkf hb rfl rfl rfl) ?_ rfl rfl
        exact .nil (ck 10 hS rfl rfl rfl rfl)
    intro W hS
    refine .nil ?_
    refine .cond rfl (fun hb => ?_) (fun hb => ?_)
    · have h := sel_t hb h
      refine .skip ?_
      refine .seq ?_
      refine .block ?_
      refine .seq ?_
      refine .region ?_
      refine .p rfl rfl rfl ?_
      refine .p rfl rfl rfl ?_
      refine .p rfl rfl rfl ?_
      refine .p rfl rfl rfl ?_
      refine .p rfl rfl rfl ?_
      refine .p rfl rfl rfl ?_
      obtain ⟨y4, hy4, h⟩ := bnd h
      refine .c (.call1v hS Try.func35 (spec_l47Ring_ok hy4 (hS.keep q_0)) rfl rfl ?_ rfl (by kernel_rfl) rfl rfl)
      intro v6 W hS
      obtain ⟨y5, hy5, h⟩ := bnd h
      refine .c (.call1v hS Try.func34 (spec_RingBox_ok hy5 hS.lendv) rfl rfl ?_ rfl (by kernel_rfl) rfl rfl)
      intro v7 W hS
      refine .p rfl rfl rfl ?_
      refine .p rfl rfl rfl ?_
      refine .p rfl rfl rfl ?_
      refine .c (.alloc T.t47 hS ?_ rfl rfl rfl)
      intro g1 W hS
      refine .c (.st T.t47 hS rfl rfl rfl ?_ rfl rfl rfl rfl rfl)
      intro W hS
      refine .p rfl rfl rfl ?_
      refine .nil ?_
      refine .seq ?_
      refine .seq ?_
      refine .region ?_
      refine .p rfl rfl rfl ?_
      refine .p rfl rfl rfl ?_
      refine .nil ?_
      refine .cond rfl (fun hb => ?_) (fun hb => ?_)
      · have h := sel_t hb h
        refine .seq ?_
        refine .region ?_
        refine .c (.ligv (L1 := []) [] (fun (l : List Int) => D.row 3 1 (l.map (D.int .i64))) T.u26 T.t22 (hS.to [0, 0, 0, 0] rfl) rfl rfl rfl (.nil) ?_ rfl (fun _ => rfl) rfl rfl rfl rfl rfl)
        intro v8 W hS
        refine .p rfl rfl rfl ?_
        refine .p rfl rfl rfl ?_
        refine .nil ?_
        refine .ret ?_
        cases h
        exact ⟨by simp, rfl, fin_ret (vs := [_, _]) v8 (rt rfl (rt rfl rn)) rfl (hS.to [0] rfl)⟩
      · have h := sel_f hb h
        refine .skip ?_
        refine .region ?_
        refine .p rfl rfl rfl ?_
        refine .r (fa T.f47_1 rfl rfl rfl) ?_ rfl rfl
        refine .r (ld T.t22 hS rfl rfl rfl rfl rfl) ?_ rfl rfl
        refine .c (.ligv (L1 := [rowV (sv v7) 3 1 (D.int .i64) y5.1.Items]) [y5.1.Items] (fun (l : List Int) => D.row 3 1 (l.map (D.int .i64))) T.u26 T.t22 (hS.to [1, 0, 0, 0] rfl) rfl rfl rfl (.row (.nil)) ?_ rfl (fun _ => rfl) rfl rfl rfl rfl rfl)
        intro v9 W hS
        obtain ⟨r1, hr1, h⟩ := bnd h
        refine .c (.appv hr1 (hS.to [3, 0, 0, 0] rfl) T.u26 T.t22 rfl rfl rfl ?_ rfl rfl rfl rfl rfl)
        intro v10 W hS
        refine .p rfl rfl rfl ?_
        refine .nil ?_
        refine .region ?_
        refine .p rfl rfl rfl ?_
        refine .p rfl rfl rfl ?_
        refine .p rfl rfl rfl ?_
        refine .nil ?_
        cases h
        exact ⟨rfl, v10, sb rfl, hS.to [0] rfl⟩
    · have h := sel_f hb h
      refine .exit ?_
      cases h
      exact ⟨by simp, rfl, v3, sb rfl, hS.to [0] rfl⟩
  · intro x E W hJ
    rcases y1 with o3 | o4
    · skip
      obtain ⟨rfl, hF⟩ := hJ
      refine ⟨_, fun _ _ h => h, ?_⟩
      cases h
      exact hF
    · skip
      obtain ⟨rfl, v11, hE, hS⟩ := hJ
      refine ⟨_, hE.sub, ?_⟩
      refine .seq ?_
      refine .region ?_
      refine .p rfl rfl rfl ?_
      refine .p rfl rfl rfl ?_
      refine .p rfl rfl rfl ?_
      refine .nil ?_
      refine .ret ?_
      cases h
      exact fin_ret (vs := [_, _]) v11 (rt rfl (rt rfl rn)) rfl (hS.to [0] rfl)
theorem spec_ImageOutcome_ok {a0 : Machine} {a1 : Int} {a2 : List Int} {v_0_Regs : Hd} {v_0_Mem : Hd} {v_2 : Hd} {w : World} {r : Outcome} (h : spec_ImageOutcome a0 a1 a2 = some r) (q_0_Regs : RV w (Old No w) (sv v_0_Regs) 3 1 (D.int .i64) a0.Regs) (q_0_Mem : RV w (Old No w) (sv v_0_Mem) 3 1 (D.int .i64) a0.Mem) (q_2 : RV w (Old No w) (sv v_2) 3 1 (D.int .i64) a2) : Calls Try.prog 5 #[.agg #[(sv v_0_Regs), .int .i64 a0.Pc, (sv v_0_Mem)], .int .i64 a1, (sv v_2)] w (Ret No w (fun s : Hd × Hd × Hd => .agg #[(sv s.1), (sv s.2.1), (sv s.2.2), .bool r.Rest]) (fun s => [rowV (sv s.1) 3 1 (D.int .i64) r.Out, rowV (sv s.2.1) 22 1 (fun (l : List Int) => D.row 3 1 (l.map (D.int .i64))) r.Items, rowV (sv s.2.2) 4 1 D.bool r.Ended])) := by
  unfold spec_ImageOutcome at h
  refine enter Try.func5 rfl rfl ?_
  have hS := Sep.start w
  refine .seq ?_
  refine .region ?_
  refine .c (.box hS rfl rfl ?_ rfl rfl)
  intro g1 W hS
  refine .c (.alloc T.t29 hS ?_ rfl rfl rfl)
  intro g2 W hS
  refine .nil ?_
  refine .seq ?_
  refine .seq ?_
  refine .region ?_
  refine .r (ld T.t31 hS.p1 rfl rfl rfl rfl rfl) ?_ rfl rfl
  obtain ⟨y1, hy1, h⟩ := bnd h
  refine .c (.call0 hS Try.func17 (spec_MachineValid_ok hy1 (hS.keep q_0_Regs) (hS.keep q_0_Mem)) rfl rfl ?_ rfl (by kernel_rfl) rfl rfl)
  intro W hS
  refine .p rfl rfl rfl ?_
  refine .p rfl rfl rfl ?_
  obtain ⟨b1, hb1, h⟩ := bnd h
  refine .chunk 6 22 (b1) hS ?_ ?_
  · refine .both (!y1) (fun hb => ?_) (fun hb => ?_)
    · skip
      refine .x hb ?_ rfl rfl
      refine .x hb ?_ rfl rfl
      refine .x hb ?_ rfl rfl
      refine .x hb ?_ rfl rfl
      refine .x hb ?_ rfl rfl
      cases sel_t hb hb1
      refine .r (pkt hb rfl rfl rfl) ?_ rfl rfl
      exact .nil (ck 6 hS rfl rfl rfl rfl)
    · have hg1 := hb
      have h := sel_f hb hb1
      refine .g hg1 (.p rfl rfl rfl ?_) rfl
      refine .g hg1 (.p rfl rfl rfl ?_) rfl
      refine .g hg1 (.r (lenv (hS.keep q_2) T.u22 rfl rfl) ?_ rfl rfl) rfl
      obtain ⟨y2, hy2, h⟩ := bnd h
      refine .g hg1 (.c (.call0 hS Try.func18 (spec_l4Words_ok hy2 (hS.keep q_2)) rfl rfl ?_ rfl (by kernel_rfl) rfl rfl)) rfl
      intro W hS
      refine .g hg1 (.p rfl rfl rfl ?_) rfl
      refine .r (pkf hg1 rfl rfl rfl) ?_ rfl rfl
      cases h
      exact .nil (ck 6 hS rfl rfl rfl rfl)
  intro W hS
  refine .p rfl rfl rfl ?_
  obtain ⟨b2, hb2, h⟩ := bnd h
  refine .chunk 6 29 (b2) hS ?_ ?_
  · refine .both (b1) (fun hb => ?_) (fun hb => ?_)
    · skip
      refine .x hb ?_ rfl rfl
      refine .x hb ?_ rfl rfl
      refine .x hb ?_ rfl rfl
      refine .x hb ?_ rfl rfl
      refine .x hb ?_ rfl rfl
      cases sel_t hb hb2
      refine .r (pkt hb rfl rfl rfl) ?_ rfl rfl
      exact .nil (ck 6 hS rfl rfl rfl rfl)
    · have hg2 := hb
      have h := sel_f hb hb2
      refine .g hg2 (.r (fa T.f31_2 rfl rfl rfl) ?_ rfl rfl) rfl
      refine .g hg2 (.r (ld T.t22 hS.p1 rfl rfl rfl rfl rfl) ?_ rfl rfl) rfl
      refine .g hg2 (.p rfl rfl rfl ?_) rfl
      obtain ⟨y3, hy3, h⟩ := bnd h
      refine .g hg2 (.c (.call0 hS Try.func19 (spec_l47Fits_ok hy3 (hS.keep q_0_Mem)) rfl rfl ?_ rfl (by kernel_rfl) rfl rfl)) rfl
      intro W hS
      refine .g hg2 (.p rfl rfl rfl ?_) rfl
      refine .r (pkf hg2 rfl rfl rfl) ?_ rfl rfl
      cases h
      exact .nil (ck 6 hS rfl rfl rfl rfl)
  intro W hS
  refine .nil ?_
  refine .cond rfl (fun hb => ?_) (fun hb => ?_)
  · have h := sel_t hb h
    refine .seq ?_
    refine .region ?_
    refine .r (bs T.s29 rfl rfl) ?_ rfl rfl
    refine .c (.st T.t29 hS rfl rfl rfl ?_ rfl rfl rfl rfl rfl)
    intro W hS
    refine .nil ?_
    refine .ret ?_
    have hS := hS.nilv 3 1 (D.int .i64)
    have hS := hS.nilv 22 1 (fun (l : List Int) => D.row 3 1 (l.map (D.int .i64)))
    have hS := hS.nilv 4 1 D.bool
    cases h
    exact fin_ret (vs := [_]) (nilH, nilH, nilH) (rc hS.p3 T.t29 rfl rn rfl rfl) rfl (hS.to [2, 1, 0] rfl)
  · have h := sel_f hb h
    refine .skip ?_
    refine .seq ?_
    refine .region ?_
    refine .p rfl rfl rfl ?_
    refine .p rfl rfl rfl ?_
    refine .p rfl rfl rfl ?_
    refine .nil ?_
    refine .seq ?_
    refine .region ?_
    refine .r (fa T.f31_2 rfl rfl rfl) ?_ rfl rfl
    refine .r (ld T.t22 hS.p1 rfl rfl rfl rfl rfl) ?_ rfl rfl
    refine .p rfl rfl rfl ?_
    obtain ⟨y4, hy4, h⟩ := bnd h
    refine .c (.call1v hS Try.func20 (spec_l47Items_ok hy4 (hS.keep q_0_Mem)) rfl rfl ?_ rfl (by kernel_rfl) rfl rfl)
    intro v1 W hS
    refine .p rfl rfl rfl ?_
    refine .p rfl rfl rfl ?_
    refine .p rfl rfl rfl ?_
    refine .p rfl rfl rfl ?_
    refine .p rfl rfl rfl ?_
    refine .nil ?_
    refine .seq ?_
    refine .seq ?_
    refine .region ?_
    refine .p rfl rfl rfl ?_
    refine .p rfl rfl rfl ?_
    refine .nil ?_
    refine .cond rfl (fun hb => ?_) (fun hb => ?_)
    · have h := sel_t hb h
      refine .seq ?_
      refine .region ?_
      refine .r (bs T.s29 rfl rfl) ?_ rfl rfl
      refine .c (.st T.t29 hS.p1 rfl rfl rfl ?_ rfl rfl rfl rfl rfl)
      intro W hS
      refine .nil ?_
      refine .ret ?_
      have hS := hS.nilv 3 1 (D.int .i64)
      have hS := hS.nilv 22 1 (fun (l : List Int) => D.row 3 1 (l.map (D.int .i64)))
      have hS := hS.nilv 4 1 D.bool
      cases h
      exact fin_ret (vs := [_]) (nilH, nilH, nilH) (rc hS.p3 T.t29 rfl rn rfl rfl) rfl (hS.to [2, 1, 0] rfl)
    · have h := sel_f hb h
      refine .skip ?_
      refine .seq ?_
      refine .region ?_
      refine .r (fa T.f31_2 rfl rfl rfl) ?_ rfl rfl
      refine .r (ld T.t22 hS.p2 rfl rfl rfl rfl rfl) ?_ rfl rfl
      refine .p rfl rfl rfl ?_
      refine .p rfl rfl rfl ?_
      obtain ⟨x1, hx1, h⟩ := bnd h
      refine .r (ixv (hS.keep q_0_Mem) hx1 T.u22 T.t3 rfl rfl rfl) ?_ rfl rfl
      refine .r (lde (RV.flat (hS.keep q_0_Mem) hx1 rfl) T.t3 rfl rfl rfl rfl rfl) ?_ rfl rfl
      refine .p rfl rfl rfl ?_
      refine .nil ?_
      refine .seq ?_
      obtain ⟨x2, hx2, h⟩ := bnd h
      obtain ⟨r1, hr1, h⟩ := bnd h
      refine .via (R' := fun x E' W' => x = .normal ∧ ∃ (g3 : Nat) (v2 : Hd) (v3 : Hd), SubL E' [(3, .pointer (some ⟨g1, 0, none⟩)), (6, .pointer (some ⟨g2, 0, none⟩)), (7, .int .i64 (w64 (Int.tdiv a1 4))), (10, .int .i64 x1), (11, .pointer (some ⟨g3, 0, none⟩))] ∧ Sep No w W' [rowV (sv v1) 22 1 (fun (l : List Int) => D.row 3 1 (l.map (D.int .i64))) y4.1, .box g2 29 [(sv nilH), (sv nilH), (sv nilH), .bool false], .box g1 31 [(sv v_0_Regs), .int .i64 a0.Pc, (sv v_0_Mem)], .box g3 29 [(sv v2), (sv v1), (sv v3), .bool (x2 == x1)], rowV (sv v2) 3 1 (D.int .i64) r1, rowV (sv v3) 4 1 D.bool []]) ?_ ?_
      · skip
        refine .rk 14 hS [0, 0, 0] T.mix ?_
        intro W hS
        have hT : Sep _ _ W [rowV (sv v1) 22 1 (fun (l : List Int) => D.row 3 1 (l.map (D.int .i64))) y4.1, .box g2 29 [(sv nilH), (sv nilH), (sv nilH), .bool false], .box g1 31 [(sv v_0_Regs), .int .i64 a0.Pc, (sv v_0_Mem)]] := hS.to [0, 0, 0] rfl
        refine .t1 1 rfl (fun W hT => pr rfl) hT ?_ (by kernel_rfl) rfl rfl
        refine .t1 3 rfl (fun W hT => pr rfl) hT ?_ (by kernel_rfl) rfl rfl
        refine .t1 5 rfl (fun W hT => fa T.f31_2 rfl rfl rfl) hT ?_ (by kernel_rfl) rfl rfl
        refine .t1 6 rfl (fun W hT => ld T.t22 hT.p2 rfl rfl rfl rfl rfl) hT ?_ (by kernel_rfl) rfl rfl
        refine .t1 7 rfl (fun W hT => pr rfl) hT ?_ (by kernel_rfl) rfl rfl
        refine .t1 8 rfl (fun W hT => ixv (hS.keep q_0_Mem) hx2 T.u22 T.t3 rfl rfl rfl) hT ?_ (by kernel_rfl) rfl rfl
        refine .t1 9 rfl (fun W hT => lde (RV.flat (hT.keep q_0_Mem) hx2 rfl) T.t3 rfl rfl rfl rfl rfl) hT ?_ (by kernel_rfl) rfl rfl
        refine .t1 10 rfl (fun W hT => pr rfl) hT ?_ (by kernel_rfl) rfl rfl
        refine .t1 11 rfl (fun W hT => pr rfl) hT ?_ (by kernel_rfl) rfl rfl
        refine .by [0, 4, 13] ⟨⟨_, rfl, ?_⟩, ⟨_, rfl, ?_⟩, ⟨_, rfl, ?_⟩, trivial⟩ (by kernel_rfl) rfl
        · skip
          refine (.liv [] (D.int .i64) T.u22 T.t3 hS rfl rfl rfl rfl ?_ rfl (fun _ => rfl) rfl rfl rfl rfl)
          intro v4 W hS
          have hT : Sep _ _ W [rowV (sv v1) 22 1 (fun (l : List Int) => D.row 3 1 (l.map (D.int .i64))) y4.1, .box g2 29 [(sv nilH), (sv nilH), (sv nilH), .bool false], .box g1 31 [(sv v_0_Regs), .int .i64 a0.Pc, (sv v_0_Mem)]] := hS.to [1, 1, 1] rfl
          refine ⟨fun _ => hT, ?_⟩
          refine .by [2, 4, 13] ⟨⟨_, rfl, ?_⟩, ⟨_, rfl, ?_⟩, ⟨_, rfl, ?_⟩, trivial⟩ (by kernel_rfl) rfl
          · skip
            refine (.apprv hr1 hS (hS.keep q_2) (fun _ => rfl) T.u22 T.t3 rfl rfl rfl ?_ rfl rfl rfl rfl rfl)
            intro v5 W hS
            have hT : Sep _ _ W [rowV (sv v1) 22 1 (fun (l : List Int) => D.row 3 1 (l.map (D.int .i64))) y4.1, .box g2 29 [(sv nilH), (sv nilH), (sv nilH), .bool false], .box g1 31 [(sv v_0_Regs), .int .i64 a0.Pc, (sv v_0_Mem)]] := hS.to [1, 1, 1] rfl
            refine ⟨fun _ => hT, ?_⟩
            refine .by [4, 13] ⟨⟨_, rfl, ?_⟩, ⟨_, rfl, ?_⟩, trivial⟩ (by kernel_rfl) rfl
            · skip
              refine (.liv [] D.bool T.u27 T.t4 hS rfl rfl rfl rfl ?_ rfl (fun _ => rfl) rfl rfl rfl rfl)
              intro v6 W hS
              have hT : Sep _ _ W [rowV (sv v1) 22 1 (fun (l : List Int) => D.row 3 1 (l.map (D.int .i64))) y4.1, .box g2 29 [(sv nilH), (sv nilH), (sv nilH), .bool false], .box g1 31 [(sv v_0_Regs), .int .i64 a0.Pc, (sv v_0_Mem)]] := hS.to [2, 2, 2] rfl
              refine ⟨fun _ => hT, ?_⟩
              refine .t1 12 rfl (fun W hT => bs T.s29 rfl rfl) hT ?_ (by kernel_rfl) rfl rfl
              refine .by1 13 rfl (.alloc T.t29 hS ?_ rfl rfl rfl) (by kernel_rfl)
              intro g4 W hS
              have hT : Sep _ _ W [rowV (sv v1) 22 1 (fun (l : List Int) => D.row 3 1 (l.map (D.int .i64))) y4.1, .box g2 29 [(sv nilH), (sv nilH), (sv nilH), .bool false], .box g1 31 [(sv v_0_Regs), .int .i64 a0.Pc, (sv v_0_Mem)]] := hS.to [3, 3, 3] rfl
              refine ⟨fun _ => hT, ?_⟩
              refine .by1 14 rfl (.st T.t29 hS rfl rfl rfl ?_ rfl rfl rfl rfl rfl) (by kernel_rfl)
              intro W hS
              refine ⟨fun h => absurd rfl h, ?_⟩
              refine .done ?_ (by kernel_rfl)
              exact ⟨rfl, g4, v5, v6, sb rfl, hS.to [3, 3, 3, 0, 1, 0] rfl⟩
            · skip
              refine (.alloc T.t29 hS ?_ rfl rfl rfl)
              intro g5 W hS
              have hT : Sep _ _ W [rowV (sv v1) 22 1 (fun (l : List Int) => D.row 3 1 (l.map (D.int .i64))) y4.1, .box g2 29 [(sv nilH), (sv nilH), (sv nilH), .bool false], .box g1 31 [(sv v_0_Regs), .int .i64 a0.Pc, (sv v_0_Mem)]] := hS.to [2, 2, 2] rfl
              refine ⟨fun _ => hT, ?_⟩
              refine .by1 4 rfl (.liv [] D.bool T.u27 T.t4 hS rfl rfl rfl rfl ?_ rfl (fun _ => rfl) rfl rfl rfl rfl) (by kernel_rfl)
              intro v7 W hS
              have hT : Sep _ _ W [rowV (sv v1) 22 1 (fun (l : List Int) => D.row 3 1 (l.map (D.int .i64))) y4.1, .box g2 29 [(sv nilH), (sv nilH), (sv nilH), .bool false], .box g1 31 [(sv v_0_Regs), .int .i64 a0.Pc, (sv v_0_Mem)]] := hS.to [3, 3, 3] rfl
              refine ⟨fun _ => hT, ?_⟩
              refine .t1 12 rfl (fun W hT => bs T.s29 rfl rfl) hT ?_ (by kernel_rfl) rfl rfl
              refine .by1 14 rfl (.st T.t29 hS.p1 rfl rfl rfl ?_ rfl rfl rfl rfl rfl) (by kernel_rfl)
              intro W hS
              refine ⟨fun h => absurd rfl h, ?_⟩
              refine .done ?_ (by kernel_rfl)
              exact ⟨rfl, g5, v5, v7, sb rfl, hS.to [3, 3, 3, 0, 1, 0] rfl⟩
          · skip
            refine (.liv [] D.bool T.u27 T.t4 hS rfl rfl rfl rfl ?_ rfl (fun _ => rfl) rfl rfl rfl rfl)
            intro v8 W hS
            have hT : Sep _ _ W [rowV (sv v1) 22 1 (fun (l : List Int) => D.row 3 1 (l.map (D.int .i64))) y4.1, .box g2 29 [(sv nilH), (sv nilH), (sv nilH), .bool false], .box g1 31 [(sv v_0_Regs), .int .i64 a0.Pc, (sv v_0_Mem)]] := hS.to [2, 2, 2] rfl
            refine ⟨fun _ => hT, ?_⟩
            refine .by [2, 13] ⟨⟨_, rfl, ?_⟩, ⟨_, rfl, ?_⟩, trivial⟩ (by kernel_rfl) rfl
            · skip
              refine (.apprv hr1 hS.p1 (hS.keep q_2) (fun _ => rfl) T.u22 T.t3 rfl rfl rfl ?_ rfl rfl rfl rfl rfl)
              intro v9 W hS
              have hT : Sep _ _ W [rowV (sv v1) 22 1 (fun (l : List Int) => D.row 3 1 (l.map (D.int .i64))) y4.1, .box g2 29 [(sv nilH), (sv nilH), (sv nilH), .bool false], .box g1 31 [(sv v_0_Regs), .int .i64 a0.Pc, (sv v_0_Mem)]] := hS.to [2, 2, 2] rfl
              refine ⟨fun _ => hT, ?_⟩
              refine .t1 12 rfl (fun W hT => bs T.s29 rfl rfl) hT ?_ (by kernel_rfl) rfl rfl
              refine .by1 13 rfl (.alloc T.t29 hS ?_ rfl rfl rfl) (by kernel_rfl)
              intro g6 W hS
              have hT : Sep _ _ W [rowV (sv v1) 22 1 (fun (l : List Int) => D.row 3 1 (l.map (D.int .i64))) y4.1, .box g2 29 [(sv nilH), (sv nilH), (sv nilH), .bool false], .box g1 31 [(sv v_0_Regs), .int .i64 a0.Pc, (sv v_0_Mem)]] := hS.to [3, 3, 3] rfl
              refine ⟨fun _ => hT, ?_⟩
              refine .by1 14 rfl (.st T.t29 hS rfl rfl rfl ?_ rfl rfl rfl rfl rfl) (by kernel_rfl)
              intro W hS
              refine ⟨fun h => absurd rfl h, ?_⟩
              refine .done ?_ (by kernel_rfl)
              exact ⟨rfl, g6, v9, v8, sb rfl, hS.to [3, 3, 3, 0, 0, 0] rfl⟩
            · skip
              refine (.alloc T.t29 hS ?_ rfl rfl rfl)
              intro g7 W hS
              have hT : Sep _ _ W [rowV (sv v1) 22 1 (fun (l : List Int) => D.row 3 1 (l.map (D.int .i64))) y4.1, .box g2 29 [(sv nilH), (sv nilH), (sv nilH), .bool false], .box g1 31 [(sv v_0_Regs), .int .i64 a0.Pc, (sv v_0_Mem)]] := hS.to [3, 3, 3] rfl
              refine ⟨fun _ => hT, ?_⟩
              refine .by1 2 rfl (.apprv hr1 hS.p2 (hS.keep q_2) (fun _ => rfl) T.u22 T.t3 rfl rfl rfl ?_ rfl rfl rfl rfl rfl) (by kernel_rfl)
              intro v10 W hS
              have hT : Sep _ _ W [rowV (sv v1) 22 1 (fun (l : List Int) => D.row 3 1 (l.map (D.int .i64))) y4.1, .box g2 29 [(sv nilH), (sv nilH), (sv nilH), .bool false], .box g1 31 [(sv v_0_Regs), .int .i64 a0.Pc, (sv v_0_Mem)]] := hS.to [3, 3, 3] rfl
              refine ⟨fun _ => hT, ?_⟩
              refine .t1 12 rfl (fun W hT => bs T.s29 rfl rfl) hT ?_ (by kernel_rfl) rfl rfl
              refine .by1 14 rfl (.st T.t29 hS.p1 rfl rfl rfl ?_ rfl rfl rfl rfl rfl) (by kernel_rfl)
              intro W hS
              refine ⟨fun h => absurd rfl h, ?_⟩
              refine .done ?_ (by kernel_rfl)
              exact ⟨rfl, g7, v10, v8, sb rfl, hS.to [3, 3, 3, 0, 0, 0] rfl⟩
          · skip
            refine (.alloc T.t29 hS ?_ rfl rfl rfl)
            intro g8 W hS
            have hT : Sep _ _ W [rowV (sv v1) 22 1 (fun (l : List Int) => D.row 3 1 (l.map (D.int .i64))) y4.1, .box g2 29 [(sv nilH), (sv nilH), (sv nilH), .bool false], .box g1 31 [(sv v_0_Regs), .int .i64 a0.Pc, (sv v_0_Mem)]] := hS.to [2, 2, 2] rfl
            refine ⟨fun _ => hT, ?_⟩
            refine .by [2, 4] ⟨⟨_, rfl, ?_⟩, ⟨_, rfl, ?_⟩, trivial⟩ (by kernel_rfl) rfl
            · skip
              refine (.apprv hr1 hS.p1 (hS.keep q_2) (fun _ => rfl) T.u22 T.t3 rfl rfl rfl ?_ rfl rfl rfl rfl rfl)
              intro v11 W hS
              have hT : Sep _ _ W [rowV (sv v1) 22 1 (fun (l : List Int) => D.row 3 1 (l.map (D.int .i64))) y4.1, .box g2 29 [(sv nilH), (sv nilH), (sv nilH), .bool false], .box g1 31 [(sv v_0_Regs), .int .i64 a0.Pc, (sv v_0_Mem)]] := hS.to [2, 2, 2] rfl
              refine ⟨fun _ => hT, ?_⟩
              refine .by1 4 rfl (.liv [] D.bool T.u27 T.t4 hS rfl rfl rfl rfl ?_ rfl (fun _ => rfl) rfl rfl rfl rfl) (by kernel_rfl)
              intro v12 W hS
              have hT : Sep _ _ W [rowV (sv v1) 22 1 (fun (l : List Int) => D.row 3 1 (l.map (D.int .i64))) y4.1, .box g2 29 [(sv nilH), (sv nilH), (sv nilH), .bool false], .box g1 31 [(sv v_0_Regs), .int .i64 a0.Pc, (sv v_0_Mem)]] := hS.to [3, 3, 3] rfl
              refine ⟨fun _ => hT, ?_⟩
              refine .t1 12 rfl (fun W hT => bs T.s29 rfl rfl) hT ?_ (by kernel_rfl) rfl rfl
              refine .by1 14 rfl (.st T.t29 hS.p2 rfl rfl rfl ?_ rfl rfl rfl rfl rfl) (by kernel_rfl)
              intro W hS
              refine ⟨fun h => absurd rfl h, ?_⟩
              refine .done ?_ (by kernel_rfl)
              exact ⟨rfl, g8, v11, v12, sb rfl, hS.to [3, 3, 3, 0, 1, 0] rfl⟩
            · skip
              refine (.liv [] D.bool T.u27 T.t4 hS rfl rfl rfl rfl ?_ rfl (fun _ => rfl) rfl rfl rfl rfl)
              intro v13 W hS
              have hT : Sep _ _ W [rowV (sv v1) 22 1 (fun (l : List Int) => D.row 3 1 (l.map (D.int .i64))) y4.1, .box g2 29 [(sv nilH), (sv nilH), (sv nilH), .bool false], .box g1 31 [(sv v_0_Regs), .int .i64 a0.Pc, (sv v_0_Mem)]] := hS.to [3, 3, 3] rfl
              refine ⟨fun _ => hT, ?_⟩
              refine .by1 2 rfl (.apprv hr1 hS.p2 (hS.keep q_2) (fun _ => rfl) T.u22 T.t3 rfl rfl rfl ?_ rfl rfl rfl rfl rfl) (by kernel_rfl)
              intro v14 W hS
              have hT : Sep _ _ W [rowV (sv v1) 22 1 (fun (l : List Int) => D.row 3 1 (l.map (D.int .i64))) y4.1, .box g2 29 [(sv nilH), (sv nilH), (sv nilH), .bool false], .box g1 31 [(sv v_0_Regs), .int .i64 a0.Pc, (sv v_0_Mem)]] := hS.to [3, 3, 3] rfl
              refine ⟨fun _ => hT, ?_⟩
              refine .t1 12 rfl (fun W hT => bs T.s29 rfl rfl) hT ?_ (by kernel_rfl) rfl rfl
              refine .by1 14 rfl (.st T.t29 hS.p2 rfl rfl rfl ?_ rfl rfl rfl rfl rfl) (by kernel_rfl)
              intro W hS
              refine ⟨fun h => absurd rfl h, ?_⟩
              refine .done ?_ (by kernel_rfl)
              exact ⟨rfl, g8, v14, v13, sb rfl, hS.to [3, 3, 3, 0, 0, 0] rfl⟩
        · skip
          refine (.liv [] D.bool T.u27 T.t4 hS rfl rfl rfl rfl ?_ rfl (fun _ => rfl) rfl rfl rfl rfl)
          intro v15 W hS
          have hT : Sep _ _ W [rowV (sv v1) 22 1 (fun (l : List Int) => D.row 3 1 (l.map (D.int .i64))) y4.1, .box g2 29 [(sv nilH), (sv nilH), (sv nilH), .bool false], .box g1 31 [(sv v_0_Regs), .int .i64 a0.Pc, (sv v_0_Mem)]] := hS.to [1, 1, 1] rfl
          refine ⟨fun _ => hT, ?_⟩
          refine .by [0, 13] ⟨⟨_, rfl, ?_⟩, ⟨_, rfl, ?_⟩, trivial⟩ (by kernel_rfl) rfl
          · skip
            refine (.liv [] (D.int .i64) T.u22 T.t3 hS rfl rfl rfl rfl ?_ rfl (fun _ => rfl) rfl rfl rfl rfl)
            intro v16 W hS
            have hT : Sep _ _ W [rowV (sv v1) 22 1 (fun (l : List Int) => D.row 3 1 (l.map (D.int .i64))) y4.1, .box g2 29 [(sv nilH), (sv nilH), (sv nilH), .bool false], .box g1 31 [(sv v_0_Regs), .int .i64 a0.Pc, (sv v_0_Mem)]] := hS.to [2, 2, 2] rfl
            refine ⟨fun _ => hT, ?_⟩
            refine .by [2, 13] ⟨⟨_, rfl, ?_⟩, ⟨_, rfl, ?_⟩, trivial⟩ (by kernel_rfl) rfl
            · skip
              refine (.apprv hr1 hS (hS.keep q_2) (fun _ => rfl) T.u22 T.t3 rfl rfl rfl ?_ rfl rfl rfl rfl rfl)
              intro v17 W hS
              have hT : Sep _ _ W [rowV (sv v1) 22 1 (fun (l : List Int) => D.row 3 1 (l.map (D.int .i64))) y4.1, .box g2 29 [(sv nilH), (sv nilH), (sv nilH), .bool false], .box g1 31 [(sv v_0_Regs), .int .i64 a0.Pc, (sv v_0_Mem)]] := hS.to [2, 2, 2] rfl
              refine ⟨fun _ => hT, ?_⟩
              refine .t1 12 rfl (fun W hT => bs T.s29 rfl rfl) hT ?_ (by kernel_rfl) rfl rfl
              refine .by1 13 rfl (.alloc T.t29 hS ?_ rfl rfl rfl) (by kernel_rfl)
              intro g9 W hS
              have hT : Sep _ _ W [rowV (sv v1) 22 1 (fun (l : List Int) => D.row 3 1 (l.map (D.int .i64))) y4.1, .box g2 29 [(sv nilH), (sv nilH), (sv nilH), .bool false], .box g1 31 [(sv v_0_Regs), .int .i64 a0.Pc, (sv v_0_Mem)]] := hS.to [3, 3, 3] rfl
              refine ⟨fun _ => hT, ?_⟩
              refine .by1 14 rfl (.st T.t29 hS rfl rfl rfl ?_ rfl rfl rfl rfl rfl) (by kernel_rfl)
              intro W hS
              refine ⟨fun h => absurd rfl h, ?_⟩
              refine .done ?_ (by kernel_rfl)
              exact ⟨rfl, g9, v17, v15, sb rfl, hS.to [3, 3, 3, 0, 0, 0] rfl⟩
            · skip
              refine (.alloc T.t29 hS ?_ rfl rfl rfl)
              intro g10 W hS
              have hT : Sep _ _ W [rowV (sv v1) 22 1 (fun (l : List Int) => D.row 3 1 (l.map (D.int .i64))) y4.1, .box g2 29 [(sv nilH), (sv nilH), (sv nilH), .bool false], .box g1 31 [(sv v_0_Regs), .int .i64 a0.Pc, (sv v_0_Mem)]] := hS.to [3, 3, 3] rfl
              refine ⟨fun _ => hT, ?_⟩
              refine .by1 2 rfl (.apprv hr1 hS.p1 (hS.keep q_2) (fun _ => rfl) T.u22 T.t3 rfl rfl rfl ?_ rfl rfl rfl rfl rfl) (by kernel_rfl)
              intro v18 W hS
              have hT : Sep _ _ W [rowV (sv v1) 22 1 (fun (l : List Int) => D.row 3 1 (l.map (D.int .i64))) y4.1, .box g2 29 [(sv nilH), (sv nilH), (sv nilH), .bool false], .box g1 31 [(sv v_0_Regs), .int .i64 a0.Pc, (sv v_0_Mem)]] := hS.to [3, 3, 3] rfl
              refine ⟨fun _ => hT, ?_⟩
              refine .t1 12 rfl (fun W hT => bs T.s29 rfl rfl) hT ?_ (by kernel_rfl) rfl rfl
              refine .by1 14 rfl (.st T.t29 hS.p1 rfl rfl rfl ?_ rfl rfl rfl rfl rfl) (by kernel_rfl)
              intro W hS
              refine ⟨fun h => absurd rfl h, ?_⟩
              refine .done ?_ (by kernel_rfl)
              exact ⟨rfl, g10, v18, v15, sb rfl, hS.to [3, 3, 3, 0, 0, 0] rfl⟩
          · skip
            refine (.alloc T.t29 hS ?_ rfl rfl rfl)
            intro g11 W hS
            have hT : Sep _ _ W [rowV (sv v1) 22 1 (fun (l : List Int) => D.row 3 1 (l.map (D.int .i64))) y4.1, .box g2 29 [(sv nilH), (sv nilH), (sv nilH), .bool false], .box g1 31 [(sv v_0_Regs), .int .i64 a0.Pc, (sv v_0_Mem)]] := hS.to [2, 2, 2] rfl
            refine ⟨fun _ => hT, ?_⟩
            refine .by1 0 rfl (.liv [] (D.int .i64) T.u22 T.t3 hS rfl rfl rfl rfl ?_ rfl (fun _ => rfl) rfl rfl rfl rfl) (by kernel_rfl)
            intro v19 W hS
            have hT : Sep _ _ W [rowV (sv v1) 22 1 (fun (l : List Int) => D.row 3 1 (l.map (D.int .i64))) y4.1, .box g2 29 [(sv nilH), (sv nilH), (sv nilH), .bool false], .box g1 31 [(sv v_0_Regs), .int .i64 a0.Pc, (sv v_0_Mem)]] := hS.to [3, 3, 3] rfl
            refine ⟨fun _ => hT, ?_⟩
            refine .by1 2 rfl (.apprv hr1 hS (hS.keep q_2) (fun _ => rfl) T.u22 T.t3 rfl rfl rfl ?_ rfl rfl rfl rfl rfl) (by kernel_rfl)
            intro v20 W hS
            have hT : Sep _ _ W [rowV (sv v1) 22 1 (fun (l : List Int) => D.row 3 1 (l.map (D.int .i64))) y4.1, .box g2 29 [(sv nilH), (sv nilH), (sv nilH), .bool false], .box g1 31 [(sv v_0_Regs), .int .i64 a0.Pc, (sv v_0_Mem)]] := hS.to [3, 3, 3] rfl
            refine ⟨fun _ => hT, ?_⟩
            refine .t1 12 rfl (fun W hT => bs T.s29 rfl rfl) hT ?_ (by kernel_rfl) rfl rfl
            refine .by1 14 rfl (.st T.t29 hS.p1 rfl rfl rfl ?_ rfl rfl rfl rfl rfl) (by kernel_rfl)
            intro W hS
            refine ⟨fun h => absurd rfl h, ?_⟩
            refine .done ?_ (by kernel_rfl)
            exact ⟨rfl, g11, v20, v15, sb rfl, hS.to [3, 3, 3, 0, 0, 0] rfl⟩
        · skip
          refine (.alloc T.t29 hS ?_ rfl rfl rfl)
          intro g12 W hS
          have hT : Sep _ _ W [rowV (sv v1) 22 1 (fun (l : List Int) => D.row 3 1 (l.map (D.int .i64))) y4.1, .box g2 29 [(sv nilH), (sv nilH), (sv nilH), .bool false], .box g1 31 [(sv v_0_Regs), .int .i64 a0.Pc, (sv v_0_Mem)]] := hS.to [1, 1, 1] rfl
          refine ⟨fun _ => hT, ?_⟩
          refine .by [0, 4] ⟨⟨_, rfl, ?_⟩, ⟨_, rfl, ?_⟩, trivial⟩ (by kernel_rfl) rfl
          · skip
            refine (.liv [] (D.int .i64) T.u22 T.t3 hS rfl rfl rfl rfl ?_ rfl (fun _ => rfl) rfl rfl rfl rfl)
            intro v21 W hS
            have hT : Sep _ _ W [rowV (sv v1) 22 1 (fun (l : List Int) => D.row 3 1 (l.map (D.int .i64))) y4.1, .box g2 29 [(sv nilH), (sv nilH), (sv nilH), .bool false], .box g1 31 [(sv v_0_Regs), .int .i64 a0.Pc, (sv v_0_Mem)]] := hS.to [2, 2, 2] rfl
            refine ⟨fun _ => hT, ?_⟩
            refine .by [2, 4] ⟨⟨_, rfl, ?_⟩, ⟨_, rfl, ?_⟩, trivial⟩ (by kernel_rfl) rfl
            · skip
              refine (.apprv hr1 hS (hS.keep q_2) (fun _ => rfl) T.u22 T.t3 rfl rfl rfl ?_ rfl rfl rfl rfl rfl)
              intro v22 W hS
              have hT : Sep _ _ W [rowV (sv v1) 22 1 (fun (l : List Int) => D.row 3 1 (l.map (D.int .i64))) y4.1, .box g2 29 [(sv nilH), (sv nilH), (sv nilH), .bool false], .box g1 31 [(sv v_0_Regs), .int .i64 a0.Pc, (sv v_0_Mem)]] := hS.to [2, 2, 2] rfl
              refine ⟨fun _ => hT, ?_⟩
              refine .by1 4 rfl (.liv [] D.bool T.u27 T.t4 hS rfl rfl rfl rfl ?_ rfl (fun _ => rfl) rfl rfl rfl rfl) (by kernel_rfl)
              intro v23 W hS
              have hT : Sep _ _ W [rowV (sv v1) 22 1 (fun (l : List Int) => D.row 3 1 (l.map (D.int .i64))) y4.1, .box g2 29 [(sv nilH), (sv nilH), (sv nilH), .bool false], .box g1 31 [(sv v_0_Regs), .int .i64 a0.Pc, (sv v_0_Mem)]] := hS.to [3, 3, 3] rfl
              refine ⟨fun _ => hT, ?_⟩
              refine .t1 12 rfl (fun W hT => bs T.s29 rfl rfl) hT ?_ (by kernel_rfl) rfl rfl
              refine .by1 14 rfl (.st T.t29 hS.p2 rfl rfl rfl ?_ rfl rfl rfl rfl rfl) (by kernel_rfl)
              intro W hS
              refine ⟨fun h => absurd rfl h, ?_⟩
              refine .done ?_ (by kernel_rfl)
              exact ⟨rfl, g12, v22, v23, sb rfl, hS.to [3, 3, 3, 0, 1, 0] rfl⟩
            · skip
              refine (.liv [] D.bool T.u27 T.t4 hS rfl rfl rfl rfl ?_ rfl (fun _ => rfl) rfl rfl rfl rfl)
              intro v24 W hS
              have hT : Sep _ _ W [rowV (sv v1) 22 1 (fun (l : List Int) => D.row 3 1 (l.map (D.int .i64))) y4.1, .box g2 29 [(sv nilH), (sv nilH), (sv nilH), .bool false], .box g1 31 [(sv v_0_Regs), .int .i64 a0.Pc, (sv v_0_Mem)]] := hS.to [3, 3, 3] rfl
              refine ⟨fun _ => hT, ?_⟩
              refine .by1 2 rfl (.apprv hr1 hS.p1 (hS.keep q_2) (fun _ => rfl) T.u22 T.t3 rfl rfl rfl ?_ rfl rfl rfl rfl rfl) (by kernel_rfl)
              intro v25 W hS
              have hT : Sep _ _ W [rowV (sv v1) 22 1 (fun (l : List Int) => D.row 3 1 (l.map (D.int .i64))) y4.1, .box g2 29 [(sv nilH), (sv nilH), (sv nilH), .bool false], .box g1 31 [(sv v_0_Regs), .int .i64 a0.Pc, (sv v_0_Mem)]] := hS.to [3, 3, 3] rfl
              refine ⟨fun _ => hT, ?_⟩
              refine .t1 12 rfl (fun W hT => bs T.s29 rfl rfl) hT ?_ (by kernel_rfl) rfl rfl
              refine .by1 14 rfl (.st T.t29 hS.p2 rfl rfl rfl ?_ rfl rfl rfl rfl rfl) (by kernel_rfl)
              intro W hS
              refine ⟨fun h => absurd rfl h, ?_⟩
              refine .done ?_ (by kernel_rfl)
              exact ⟨rfl, g12, v25, v24, sb rfl, hS.to [3, 3, 3, 0, 0, 0] rfl⟩
          · skip
            refine (.liv [] D.bool T.u27 T.t4 hS rfl rfl rfl rfl ?_ rfl (fun _ => rfl) rfl rfl rfl rfl)
            intro v26 W hS
            have hT : Sep _ _ W [rowV (sv v1) 22 1 (fun (l : List Int) => D.row 3 1 (l.map (D.int .i64))) y4.1, .box g2 29 [(sv nilH), (sv nilH), (sv nilH), .bool false], .box g1 31 [(sv v_0_Regs), .int .i64 a0.Pc, (sv v_0_Mem)]] := hS.to [2, 2, 2] rfl
            refine ⟨fun _ => hT, ?_⟩
            refine .by1 0 rfl (.liv [] (D.int .i64) T.u22 T.t3 hS rfl rfl rfl rfl ?_ rfl (fun _ => rfl) rfl rfl rfl rfl) (by kernel_rfl)
            intro v27 W hS
            have hT : Sep _ _ W [rowV (sv v1) 22 1 (fun (l : List Int) => D.row 3 1 (l.map (D.int .i64))) y4.1, .box g2 29 [(sv nilH), (sv nilH), (sv nilH), .bool false], .box g1 31 [(sv v_0_Regs), .int .i64 a0.Pc, (sv v_0_Mem)]] := hS.to [3, 3, 3] rfl
            refine ⟨fun _ => hT, ?_⟩
            refine .by1 2 rfl (.apprv hr1 hS (hS.keep q_2) (fun _ => rfl) T.u22 T.t3 rfl rfl rfl ?_ rfl rfl rfl rfl rfl) (by kernel_rfl)
            intro v28 W hS
            have hT : Sep _ _ W [rowV (sv v1) 22 1 (fun (l : List Int) => D.row 3 1 (l.map (D.int .i64))) y4.1, .box g2 29 [(sv nilH), (sv nilH), (sv nilH), .bool false], .box g1 31 [(sv v_0_Regs), .int .i64 a0.Pc, (sv v_0_Mem)]] := hS.to [3, 3, 3] rfl
            refine ⟨fun _ => hT, ?_⟩
            refine .t1 12 rfl (fun W hT => bs T.s29 rfl rfl) hT ?_ (by kernel_rfl) rfl rfl
            refine .by1 14 rfl (.st T.t29 hS.p2 rfl rfl rfl ?_ rfl rfl rfl rfl rfl) (by kernel_rfl)
            intro W hS
            refine ⟨fun h => absurd rfl h, ?_⟩
            refine .done ?_ (by kernel_rfl)
            exact ⟨rfl, g12, v28, v26, sb rfl, hS.to [3, 3, 3, 0, 0, 0] rfl⟩
      · intro x E W hJ
        obtain ⟨rfl, g13, v29, v30, hE, hS⟩ := hJ
        refine ⟨_, hE.sub, ?_⟩
        refine .seq ?_
        refine .seq ?_
        refine .region ?_
        refine .p rfl rfl rfl ?_
        refine .nil ?_
        refine .block ?_
        obtain ⟨y5, hy5, h⟩ := bnd h
        refine .via (.iter (fun s1 E' W' => ∃ (v33 : Hd), SubL E' [(3, .pointer (some ⟨g1, 0, none⟩)), (6, .pointer (some ⟨g2, 0, none⟩)), (7, .int .i64 (w64 (Int.tdiv a1 4))), (10, .int .i64 x1), (11, .pointer (some ⟨g13, 0, none⟩)), (12, .int .i64 s1.1)] ∧ Sep No w W' [rowV (sv v1) 22 1 (fun (l : List Int) => D.row 3 1 (l.map (D.int .i64))) y4.1, .box g2 29 [(sv nilH), (sv nilH), (sv nilH), .bool false], .box g1 31 [(sv v_0_Regs), .int .i64 a0.Pc, (sv v_0_Mem)], .box g13 29 [(sv v29), (sv v1), (sv v33), .bool (x2 == x1)], rowV (sv v29) 3 1 (D.int .i64) r1, rowV (sv v33) 4 1 D.bool s1.2]) (fun y6 x E' W' => x = .exit 0 ∧ ∃ (v34 : Hd), SubL E' [(6, .pointer (some ⟨g2, 0, none⟩)), (11, .pointer (some ⟨g13, 0, none⟩))] ∧ Sep No w W' [rowV (sv v1) 22 1 (fun (l : List Int) => D.row 3 1 (l.map (D.int .i64))) y4.1, .box g2 29 [(sv nilH), (sv nilH), (sv nilH), .bool false], .box g1 31 [(sv v_0_Regs), .int .i64 a0.Pc, (sv v_0_Mem)], .box g13 29 [(sv v29), (sv v1), (sv v34), .bool (x2 == x1)], rowV (sv v29) 3 1 (D.int .i64) r1, rowV (sv v34) 4 1 D.bool y6]) hy5 ⟨v30, sb rfl, hS.to [0, 0, 0, 0, 0, 0] rfl⟩ ?_) ?_
        · intro s1 y7 E W h hI
          obtain ⟨v32, hE, hS⟩ := hI
          refine CW.sub hE ?_
          unfold spec_ImageOutcome_b1 at h
          refine .seq ?_
          refine .seq ?_
          refine .region ?_
          refine .p rfl rfl rfl ?_
          refine .p rfl rfl rfl ?_
          refine .p rfl rfl rfl ?_
          refine .nil ?_
          refine .cond rfl (fun hb => ?_) (fun hb => ?_)
          · have h := sel_t hb h
            refine .skip ?_
            refine .seq ?_
            refine .block ?_
            refine .rk 17 hS [0, 0, 0, 0, 0] T.mix ?_
            intro W hS
            have hT : Sep _ _ W [rowV (sv v1) 22 1 (fun (l : List Int) => D.row 3 1 (l.map (D.int .i64))) y4.1, .box g2 29 [(sv nilH), (sv nilH), (sv nilH), .bool false], .box g1 31 [(sv v_0_Regs), .int .i64 a0.Pc, (sv v_0_Mem)], .box g13 29 [(sv v29), (sv v1), (sv v32), .bool (x2 == x1)], rowV (sv v29) 3 1 (D.int .i64) r1] := hS.to [0, 0, 0, 0, 0] rfl
            refine .t1 0 rfl (fun W hT => fa T.f29_2 rfl rfl rfl) hT ?_ (by kernel_rfl) rfl rfl
            refine .t1 1 rfl (fun W hT => ld T.t27 hT.p3 rfl rfl rfl rfl rfl) hT ?_ (by kernel_rfl) rfl rfl
            refine .t1 2 rfl (fun W hT => fa T.f31_2 rfl rfl rfl) hT ?_ (by kernel_rfl) rfl rfl
            refine .t1 3 rfl (fun W hT => ld T.t22 hT.p2 rfl rfl rfl rfl rfl) hT ?_ (by kernel_rfl) rfl rfl
            refine .t1 4 rfl (fun W hT => pr rfl) hT ?_ (by kernel_rfl) rfl rfl
            refine .t1 5 rfl (fun W hT => pr rfl) hT ?_ (by kernel_rfl) rfl rfl
            refine .t1 6 rfl (fun W hT => pr rfl) hT ?_ (by kernel_rfl) rfl rfl
            refine .t1 7 rfl (fun W hT => pr rfl) hT ?_ (by kernel_rfl) rfl rfl
            refine .t1 8 rfl (fun W hT => pr rfl) hT ?_ (by kernel_rfl) rfl rfl
            refine .t1 9 rfl (fun W hT => pr rfl) hT ?_ (by kernel_rfl) rfl rfl
            refine .t1 10 rfl (fun W hT => pr rfl) hT ?_ (by kernel_rfl) rfl rfl
            obtain ⟨x3, hx3, h⟩ := bnd h
            refine .t1 11 rfl (fun W hT => ixv (hS.keep q_0_Mem) hx3 T.u22 T.t3 rfl rfl rfl) hT ?_ (by kernel_rfl) rfl rfl
            refine .t1 12 rfl (fun W hT => lde (RV.flat (hT.keep q_0_Mem) hx3 rfl) T.t3 rfl rfl rfl rfl rfl) hT ?_ (by kernel_rfl) rfl rfl
            refine .t1 13 rfl (fun W hT => pr rfl) hT ?_ (by kernel_rfl) rfl rfl
            refine .by1 14 rfl (.liv [x3 == 5] D.bool T.u27 T.t4 hS rfl rfl rfl rfl ?_ rfl (fun _ => rfl) rfl rfl rfl rfl) (by kernel_rfl)
            intro v35 W hS
            have hT : Sep _ _ W [rowV (sv v1) 22 1 (fun (l : List Int) => D.row 3 1 (l.map (D.int .i64))) y4.1, .box g2 29 [(sv nilH), (sv nilH), (sv nilH), .bool false], .box g1 31 [(sv v_0_Regs), .int .i64 a0.Pc, (sv v_0_Mem)], .box g13 29 [(sv v29), (sv v1), (sv v32), .bool (x2 == x1)], rowV (sv v29) 3 1 (D.int .i64) r1] := hS.to [1, 1, 1, 1, 1] rfl
            refine ⟨fun _ => hT, ?_⟩
            obtain ⟨r2, hr2, h⟩ := bnd h
            have hT0 := hS.p6
            refine .by1 15 rfl (.apprv hr2 hT0 hT0.p1.lendv (fun _ => rfl) T.u27 T.t4 rfl rfl rfl ?_ rfl rfl rfl rfl rfl) (by kernel_rfl)
            intro v36 W hS
            have hT : Sep _ _ W [rowV (sv v1) 22 1 (fun (l : List Int) => D.row 3 1 (l.map (D.int .i64))) y4.1, .box g2 29 [(sv nilH), (sv nilH), (sv nilH), .bool false], .box g1 31 [(sv v_0_Regs), .int .i64 a0.Pc, (sv v_0_Mem)], .box g13 29 [(sv v29), (sv v1), (sv v32), .bool (x2 == x1)], rowV (sv v29) 3 1 (D.int .i64) r1] := hS.to [2, 2, 2, 2, 2] rfl
            refine ⟨fun _ => hT, ?_⟩
            refine .t1 16 rfl (fun W hT => fa T.f29_2 rfl rfl rfl) hT ?_ (by kernel_rfl) rfl rfl
            refine .by1 17 rfl (.st T.t27 hS.p5 rfl rfl rfl ?_ rfl rfl rfl rfl rfl) (by kernel_rfl)
            intro W hS
            refine ⟨fun h => absurd rfl h, ?_⟩
            refine .done ?_ (by kernel_rfl)
            refine .region ?_
            refine .p rfl rfl rfl ?_
            refine .p rfl rfl rfl ?_
            refine .p rfl rfl rfl ?_
            refine .nil ?_
            cases h
            exact ⟨rfl, v36, sb rfl, hS.to [3, 3, 3, 0, 2, 0] rfl⟩
          · have h := sel_f hb h
            refine .exit ?_
            cases h
            exact ⟨by simp, rfl, v32, sb rfl, hS.to [0, 0, 0, 0, 0, 0] rfl⟩
        · intro x E W hJ
          obtain ⟨rfl, v37, hE, hS⟩ := hJ
          refine ⟨_, hE.sub, ?_⟩
          refine .seq ?_
          refine .region ?_
          refine .r (ld T.t29 hS.p3 rfl rfl rfl rfl rfl) ?_ rfl rfl
          refine .c (.st T.t29 hS.p1 rfl rfl rfl ?_ rfl rfl rfl rfl rfl)
          intro W hS
          refine .nil ?_
          refine .ret ?_
          cases h
          exact fin_ret (vs := [_]) (v29, v1, v37) (rc hS T.t29 rfl rn rfl rfl) rfl (hS.to [4, 1, 3] rfl)
theorem laws_toIntS_ok {a0 : List Int} {v_0 : Hd} {w : World} {r : (List Int)} (h : laws_toIntS a0 = some r) (q_0 : RV w (Old No w) (sv v_0) 3 1 (D.int .i64) a0) : Calls Try.prog 7 #[(sv v_0)] w (Ret No w (fun s : Hd => (sv s)) (fun s => [rowV (sv s) 3 1 (D.int .i64) r])) := by
  unfold laws_toIntS at h
  refine enter Try.func7 rfl rfl ?_
  have hS := Sep.start w
  refine .seq ?_
  refine .region ?_
  refine .p rfl rfl rfl ?_
  refine .nil ?_
  refine .seq ?_
  refine .region ?_
  refine .p rfl rfl rfl ?_
  refine .r (lenv (hS.keep q_0) T.u22 rfl rfl) ?_ rfl rfl
  obtain ⟨r1, hr1, h⟩ := bnd h
  refine .c (.mkv 0 (D.int .i64) hr1 T.u22 T.t3 hS rfl rfl rfl rfl rfl (fun _ => rfl) ?_ rfl rfl rfl)
  intro v1 W hS
  refine .p rfl rfl rfl ?_
  refine .nil ?_
  refine .seq ?_
  refine .seq ?_
  refine .region ?_
  refine .p rfl rfl rfl ?_
  refine .nil ?_
  refine .block ?_
  obtain ⟨y1, hy1, h⟩ := bnd h
  refine .via (.iter (fun s1 E' W' => SubL E' [(0, (sv v_0)), (3, (sv v1)), (4, .int .i64 s1.1)] ∧ Sep No w W' [rowV (sv v1) 3 1 (D.int .i64) s1.2]) (fun y2 x E' W' => x = .exit 0 ∧ SubL E' [(3, (sv v1))] ∧ Sep No w W' [rowV (sv v1) 3 1 (D.int .i64) y2]) hy1 ⟨sb rfl, hS.to [0] rfl⟩ ?_) ?_
  · intro s1 y3 E W h hI
    obtain ⟨hE, hS⟩ := hI
    refine CW.sub hE ?_
    unfold laws_toIntS_b1 at h
    refine .seq ?_
    refine .seq ?_
    refine .region ?_
    refine .p rfl rfl rfl ?_
    refine .p rfl rfl rfl ?_
    refine .r (lenv (hS.keep q_0) T.u22 rfl rfl) ?_ rfl rfl
    refine .p rfl rfl rfl ?_
    refine .nil ?_
    refine .cond rfl (fun hb => ?_) (fun hb => ?_)
    · have h := sel_t hb h
      refine .skip ?_
      refine .seq ?_
      refine .block ?_
      refine .region ?_
      refine .p rfl rfl rfl ?_
      refine .p rfl rfl rfl ?_
      refine .p rfl rfl rfl ?_
      refine .p rfl rfl rfl ?_
      obtain ⟨x1, hx1, h⟩ := bnd h
      refine .r (ixv (hS.keep q_0) hx1 T.u22 T.t3 rfl rfl rfl) ?_ rfl rfl
      refine .r (lde (RV.flat (hS.keep q_0) hx1 rfl) T.t3 rfl rfl rfl rfl rfl) ?_ rfl rfl
      obtain ⟨x2, hx2, h⟩ := bnd h
      refine .r (ixv hS.lendv hx2 T.u22 T.t3 rfl rfl rfl) ?_ rfl rfl
      obtain ⟨r2, hr2, h⟩ := bnd h
      refine .c (.sev hr2 hx2 hS T.t3 rfl rfl rfl rfl rfl rfl ?_ rfl rfl rfl rfl rfl rfl)
      intro W hS
      refine .nil ?_
      refine .region ?_
      refine .p rfl rfl rfl ?_
      refine .p rfl rfl rfl ?_
      refine .p rfl rfl rfl ?_
      refine .nil ?_
      cases h
      exact ⟨rfl, sb rfl, hS.to [0] rfl⟩
    · have h := sel_f hb h
      refine .exit ?_
      cases h
      exact ⟨by simp, rfl, sb rfl, hS.to [0] rfl⟩
  · intro x E W hJ
    obtain ⟨rfl, hE, hS⟩ := hJ
    refine ⟨_, hE.sub, ?_⟩
    refine .seq ?_
    refine .region ?_
    refine .p rfl rfl rfl ?_
    refine .p rfl rfl rfl ?_
    refine .nil ?_
    refine .ret ?_
    cases h
    exact fin_ret (vs := [_]) v1 (rt rfl rn) rfl (hS.to [0] rfl)
theorem laws_toMachine_ok {a0 : Machine} {v_0_Regs : Hd} {v_0_Mem : Hd} {w : World} {r : Machine} (h : laws_toMachine a0 = some r) (q_0_Regs : RV w (Old No w) (sv v_0_Regs) 3 1 (D.int .i64) a0.Regs) (q_0_Mem : RV w (Old No w) (sv v_0_Mem) 3 1 (D.int .i64) a0.Mem) : Calls Try.prog 6 #[.agg #[(sv v_0_Regs), .int .i64 a0.Pc, (sv v_0_Mem)]] w (Ret No w (fun s : Hd × Hd => .agg #[(sv s.1), .int .i64 r.Pc, (sv s.2)]) (fun s => [rowV (sv s.1) 3 1 (D.int .i64) r.Regs, rowV (sv s.2) 3 1 (D.int .i64) r.Mem])) := by
  unfold laws_toMachine at h
  refine enter Try.func6 rfl rfl ?_
  have hS := Sep.start w
  refine .seq ?_
  refine .region ?_
  refine .c (.box hS rfl rfl ?_ rfl rfl)
  intro g1 W hS
  refine .c (.alloc T.t31 hS ?_ rfl rfl rfl)
  intro g2 W hS
  refine .nil ?_
  refine .seq ?_
  refine .region ?_
  refine .c (.alloc T.t31 hS ?_ rfl rfl rfl)
  intro g3 W hS
  refine .nil ?_
  refine .seq ?_
  refine .region ?_
  refine .r (fa T.f24_0 rfl rfl rfl) ?_ rfl rfl
  refine .r (ld T.t22 hS.p2 rfl rfl rfl rfl rfl) ?_ rfl rfl
  obtain ⟨y1, hy1, h⟩ := bnd h
  refine .c (.call1v hS Try.func7 (laws_toIntS_ok hy1 (hS.keep q_0_Regs)) rfl rfl ?_ rfl (by kernel_rfl) rfl rfl)
  intro v1 W hS
  refine .r (fa T.f31_0 rfl rfl rfl) ?_ rfl rfl
  refine .c (.st T.t22 hS.p1 rfl rfl rfl ?_ rfl rfl rfl rfl rfl)
  intro W hS
  refine .nil ?_
  refine .seq ?_
  refine .region ?_
  refine .r (fa T.f24_1 rfl rfl rfl) ?_ rfl rfl
  refine .r (ld T.t3 hS.p3 rfl rfl rfl rfl rfl) ?_ rfl rfl
  refine .r (fa T.f31_1 rfl rfl rfl) ?_ rfl rfl
  refine .c (.st T.t3 hS rfl rfl rfl ?_ rfl rfl rfl rfl rfl)
  intro W hS
  refine .nil ?_
  refine .seq ?_
  refine .region ?_
  refine .r (fa T.f24_2 rfl rfl rfl) ?_ rfl rfl
  refine .r (ld T.t22 hS.p3 rfl rfl rfl rfl rfl) ?_ rfl rfl
  obtain ⟨y2, hy2, h⟩ := bnd h
  refine .c (.call1v hS Try.func7 (laws_toIntS_ok hy2 (hS.keep q_0_Mem)) rfl rfl ?_ rfl (by kernel_rfl) rfl rfl)
  intro v2 W hS
  refine .r (fa T.f31_2 rfl rfl rfl) ?_ rfl rfl
  refine .c (.st T.t22 hS.p1 rfl rfl rfl ?_ rfl rfl rfl rfl rfl)
  intro W hS
  refine .nil ?_
  refine .seq ?_
  refine .region ?_
  refine .r (ld T.t31 hS rfl rfl rfl rfl rfl) ?_ rfl rfl
  refine .c (.st T.t31 hS.p3 rfl rfl rfl ?_ rfl rfl rfl rfl rfl)
  intro W hS
  refine .nil ?_
  refine .ret ?_
  cases h
  exact fin_ret (vs := [_]) (v1, v2) (rc hS T.t31 rfl rn rfl rfl) rfl (hS.to [3, 2] rfl)
theorem impl_WordValid_ok {a0 : Int} {w : World} {r : Bool} (h : impl_WordValid a0 = some r) : Calls Try.prog 36 #[.int .i64 a0] w (Ret No w (fun s : Unit => .bool r) (fun s => [])) := by
  unfold impl_WordValid at h
  refine enter Try.func36 rfl rfl ?_
  have hS := Sep.start w
  refine .seq ?_
  refine .region ?_
  refine .p rfl rfl rfl ?_
  refine .nil ?_
  refine .seq ?_
  refine .region ?_
  refine .p rfl rfl rfl ?_
  refine .p rfl rfl rfl ?_
  refine .p rfl rfl rfl ?_
  refine .chunk 3 8 ((decide (a0 ≥ (-2147483648))) && (decide (a0 ≤ 2147483647))) hS ?_ ?_
  · refine .both (decide (a0 ≥ (-2147483648))) (fun hb => ?_) (fun hb => ?_)
    · have hg1 := hb
      refine .g hg1 (.p rfl rfl rfl ?_) rfl
      refine .g hg1 (.p rfl rfl rfl ?_) rfl
      refine .r (pkt hg1 rfl rfl rfl) ?_ rfl rfl
      exact .nil (ck 3 hS rfl (and_t hg1) rfl rfl)
    · skip
      refine .x hb ?_ rfl rfl
      refine .x hb ?_ rfl rfl
      refine .r (pkf hb rfl rfl rfl) ?_ rfl rfl
      exact .nil (ck 3 hS rfl (and_f hb) rfl rfl)
  intro W hS
  refine .p rfl rfl rfl ?_
  refine .nil ?_
  refine .ret ?_
  cases h
  exact fin_ret (vs := [_]) () (rt rfl rn) rfl (hS.to [] rfl)
def impl_areWords_F (w : World) (r : Bool) : Env → World → Prop := Fin Try.prog Try.f22 No w (fun s : Unit => .bool r) (fun s => []) .ret
theorem impl_areWords_ok {a0 : List Int} {v_0 : Hd} {w : World} {r : Bool} (h : impl_areWords a0 = some r) (q_0 : RV w (Old No w) (sv v_0) 3 1 (D.int .i64) a0) : Calls Try.prog 22 #[(sv v_0)] w (Ret No w (fun s : Unit => .bool r) (fun s => [])) := by
  unfold impl_areWords at h
  refine enter Try.func22 rfl rfl ?_
  have hS := Sep.start w
  refine .seq ?_
  refine .region ?_
  refine .p rfl rfl rfl ?_
  refine .nil ?_
  refine .seq ?_
  refine .seq ?_
  refine .region ?_
  refine .p rfl rfl rfl ?_
  refine .r (lenv (hS.keep q_0) T.u22 rfl rfl) ?_ rfl rfl
  refine .p rfl rfl rfl ?_
  refine .nil ?_
  refine .block ?_
  obtain ⟨y1, hy1, h⟩ := bnd h
  refine .via (.iter (fun s1 E' W' => SubL E' [(5, (sv v_0)), (6, .int .i64 (a0.length : Int)), (7, .int .i64 s1)] ∧ Sep No w W' []) (fun y2 x E' W' => (match y2 with | .inl o1 => x = .ret ∧ impl_areWords_F w o1 E' W' | .inr o2 => x = .exit 0 ∧ SubL E' [] ∧ Sep No w W' [])) hy1 ⟨sb rfl, hS.to [] rfl⟩ ?_) ?_
  · intro s1 y3 E W h hI
    obtain ⟨hE, hS⟩ := hI
    refine CW.sub hE ?_
    unfold impl_areWords_b1 at h
    refine .seq ?_
    refine .region ?_
    refine .p rfl rfl rfl ?_
    refine .nil ?_
    refine .seq ?_
    refine .cond rfl (fun hb => ?_) (fun hb => ?_)
    · have h := sel_t hb h
      refine .skip ?_
      refine .seq ?_
      refine .block ?_
      refine .seq ?_
      refine .region ?_
      obtain ⟨x1, hx1, h⟩ := bnd h
      refine .r (ixv (hS.keep q_0) hx1 T.u22 T.t3 rfl rfl rfl) ?_ rfl rfl
      refine .r (lde (RV.flat (hS.keep q_0) hx1 rfl) T.t3 rfl rfl rfl rfl rfl) ?_ rfl rfl
      refine .p rfl rfl rfl ?_
      refine .nil ?_
      refine .seq ?_
      refine .region ?_
      refine .p rfl rfl rfl ?_
      obtain ⟨y4, hy4, h⟩ := bnd h
      refine .c (.call0 hS Try.func36 (impl_WordValid_ok hy4) rfl rfl ?_ rfl (by kernel_rfl) rfl rfl)
      intro W hS
      refine .p rfl rfl rfl ?_
      refine .nil ?_
      refine .cond rfl (fun hb => ?_) (fun hb => ?_)
      · have h := sel_t hb h
        refine .seq ?_
        refine .region ?_
        refine .p rfl rfl rfl ?_
        refine .nil ?_
        refine .ret ?_
        cases h
        exact ⟨by simp, rfl, fin_ret (vs := [_]) () (rt rfl rn) rfl (hS.to [] rfl)⟩
      · have h := sel_f hb h
        refine .skip ?_
        refine .region ?_
        refine .p rfl rfl rfl ?_
        refine .p rfl rfl rfl ?_
        refine .nil ?_
        cases h
        exact ⟨rfl, sb rfl, hS.to [] rfl⟩
    · have h := sel_f hb h
      refine .exit ?_
      cases h
      exact ⟨by simp, rfl, sb rfl, hS.to [] rfl⟩
  · intro x E W hJ
    rcases y1 with o3 | o4
    · skip
      obtain ⟨rfl, hF⟩ := hJ
      refine ⟨_, fun _ _ h => h, ?_⟩
      cases h
      exact hF
    · skip
      obtain ⟨rfl, hE, hS⟩ := hJ
      refine ⟨_, hE.sub, ?_⟩
      refine .seq ?_
      refine .region ?_
      refine .p rfl rfl rfl ?_
      refine .nil ?_
      refine .ret ?_
      cases h
      exact fin_ret (vs := [_]) () (rt rfl rn) rfl (hS.to [] rfl)
theorem impl_MachineValid_ok {a0 : Machine} {v_0_Regs : Hd} {v_0_Mem : Hd} {w : World} {r : Bool} (h : impl_MachineValid a0 = some r) (q_0_Regs : RV w (Old No w) (sv v_0_Regs) 3 1 (D.int .i64) a0.Regs) (q_0_Mem : RV w (Old No w) (sv v_0_Mem) 3 1 (D.int .i64) a0.Mem) : Calls Try.prog 21 #[.agg #[(sv v_0_Regs), .int .i64 a0.Pc, (sv v_0_Mem)]] w (Ret No w (fun s : Unit => .bool r) (fun s => [])) := by
  unfold impl_MachineValid at h
  refine enter Try.func21 rfl rfl ?_
  have hS := Sep.start w
  refine .seq ?_
  refine .region ?_
  refine .c (.box hS rfl rfl ?_ rfl rfl)
  intro g1 W hS
  refine .p rfl rfl rfl ?_
  refine .nil ?_
  refine .seq ?_
  refine .region ?_
  refine .r (fa T.f31_0 rfl rfl rfl) ?_ rfl rfl
  refine .r (ld T.t22 hS rfl rfl rfl rfl rfl) ?_ rfl rfl
  refine .r (lenv (hS.keep q_0_Regs) T.u22 rfl rfl) ?_ rfl rfl
  refine .p rfl rfl rfl ?_
  refine .p rfl rfl rfl ?_
  obtain ⟨b1, hb1, h⟩ := bnd h
  refine .chunk 4 11 (b1) hS ?_ ?_
  · refine .both ((a0.Regs.length : Int) == 32) (fun hb => ?_) (fun hb => ?_)
    · have hg1 := hb
      have h := sel_t hb hb1
      refine .g hg1 (.r (fa T.f31_0 rfl rfl rfl) ?_ rfl rfl) rfl
      refine .g hg1 (.r (ld T.t22 hS rfl rfl rfl rfl rfl) ?_ rfl rfl) rfl
      obtain ⟨y1, hy1, h⟩ := bnd h
      refine .g hg1 (.c (.call0 hS Try.func22 (impl_areWords_ok hy1 (hS.keep q_0_Regs)) rfl rfl ?_ rfl (by kernel_rfl) rfl rfl)) rfl
      intro W hS
      refine .r (pkt hg1 rfl rfl rfl) ?_ rfl rfl
      cases h
      exact .nil (ck 4 hS rfl rfl rfl rfl)
    · skip
      refine .x hb ?_ rfl rfl
      refine .x hb ?_ rfl rfl
      refine .x hb ?_ rfl rfl
      cases sel_f hb hb1
      refine .r (pkf hb rfl rfl rfl) ?_ rfl rfl
      exact .nil (ck 4 hS rfl rfl rfl rfl)
  intro W hS
  refine .p rfl rfl rfl ?_
  obtain ⟨b2, hb2, h⟩ := bnd h
  refine .chunk 6 18 (b2) hS ?_ ?_
  · refine .both (b1) (fun hb => ?_) (fun hb => ?_)
    · have hg2 := hb
      have h := sel_t hb hb2
      refine .g hg2 (.r (fa T.f31_0 rfl rfl rfl) ?_ rfl rfl) rfl
      refine .g hg2 (.r (ld T.t22 hS rfl rfl rfl rfl rfl) ?_ rfl rfl) rfl
      obtain ⟨x1, hx1, h⟩ := bnd h
      refine .g hg2 (.r (ixv (hS.keep q_0_Regs) hx1 T.u22 T.t3 rfl rfl rfl) ?_ rfl rfl) rfl
      refine .g hg2 (.r (lde (RV.flat (hS.keep q_0_Regs) hx1 rfl) T.t3 rfl rfl rfl rfl rfl) ?_ rfl rfl) rfl
      refine .g hg2 (.p rfl rfl rfl ?_) rfl
      refine .r (pkt hg2 rfl rfl rfl) ?_ rfl rfl
      cases h
      exact .nil (ck 6 hS rfl rfl rfl rfl)
    · skip
      refine .x hb ?_ rfl rfl
      refine .x hb ?_ rfl rfl
      refine .x hb ?_ rfl rfl
      refine .x hb ?_ rfl rfl
      refine .x hb ?_ rfl rfl
      cases sel_f hb hb2
      refine .r (pkf hb rfl rfl rfl) ?_ rfl rfl
      exact .nil (ck 6 hS rfl rfl rfl rfl)
  intro W hS
  refine .p rfl rfl rfl ?_
  obtain ⟨b3, hb3, h⟩ := bnd h
  refine .chunk 4 23 (b3) hS ?_ ?_
  · refine .both (b2) (fun hb => ?_) (fun hb => ?_)
    · have hg3 := hb
      have h := sel_t hb hb3
      refine .g hg3 (.r (fa T.f31_1 rfl rfl rfl) ?_ rfl rfl) rfl
      refine .g hg3 (.r (ld T.t3 hS rfl rfl rfl rfl rfl) ?_ rfl rfl) rfl
      obtain ⟨y2, hy2, h⟩ := bnd h
      refine .g hg3 (.c (.call0 hS Try.func36 (impl_WordValid_ok hy2) rfl rfl ?_ rfl (by kernel_rfl) rfl rfl)) rfl
      intro W hS
      refine .r (pkt hg3 rfl rfl rfl) ?_ rfl rfl
      cases h
      exact .nil (ck 4 hS rfl rfl rfl rfl)
    · skip
      refine .x hb ?_ rfl rfl
      refine .x hb ?_ rfl rfl
      refine .x hb ?_ rfl rfl
      cases sel_f hb hb3
      refine .r (pkf hb rfl rfl rfl) ?_ rfl rfl
      exact .nil (ck 4 hS rfl rfl rfl rfl)
  intro W hS
  refine .p rfl rfl rfl ?_
  refine .chunk 5 29 (b3 && (decide ((a0.Mem.length : Int) ≤ 10000))) hS ?_ ?_
  · refine .both (b3) (fun hb => ?_) (fun hb => ?_)
    · have hg4 := hb
      refine .g hg4 (.r (fa T.f31_2 rfl rfl rfl) ?_ rfl rfl) rfl
      refine .g hg4 (.r (ld T.t22 hS rfl rfl rfl rfl rfl) ?_ rfl rfl) rfl
      refine .g hg4 (.r (lenv (hS.keep q_0_Mem) T.u22 rfl rfl) ?_ rfl rfl) rfl
      refine .g hg4 (.p rfl rfl rfl ?_) rfl
      refine .r (pkt hg4 rfl rfl rfl) ?_ rfl rfl
      exact .nil (ck 5 hS rfl (and_t hg4) rfl rfl)
    · skip
      refine .x hb ?_ rfl rfl
      refine .x hb ?_ rfl rfl
      refine .x hb ?_ rfl rfl
      refine .x hb ?_ rfl rfl
      refine .r (pkf hb rfl rfl rfl) ?_ rfl rfl
      exact .nil (ck 5 hS rfl (and_f hb) rfl rfl)
  intro W hS
  refine .p rfl rfl rfl ?_
  obtain ⟨b4, hb4, h⟩ := bnd h
  refine .chunk 4 34 (b4) hS ?_ ?_
  · refine .both (b3 && (decide ((a0.Mem.length : Int) ≤ 10000))) (fun hb => ?_) (fun hb => ?_)
    · have hg5 := hb
      have h := sel_t hb hb4
      refine .g hg5 (.r (fa T.f31_2 rfl rfl rfl) ?_ rfl rfl) rfl
      refine .g hg5 (.r (ld T.t22 hS rfl rfl rfl rfl rfl) ?_ rfl rfl) rfl
      obtain ⟨y3, hy3, h⟩ := bnd h
      refine .g hg5 (.c (.call0 hS Try.func22 (impl_areWords_ok hy3 (hS.keep q_0_Mem)) rfl rfl ?_ rfl (by kernel_rfl) rfl rfl)) rfl
      intro W hS
      refine .r (pkt hg5 rfl rfl rfl) ?_ rfl rfl
      cases h
      exact .nil (ck 4 hS rfl rfl rfl rfl)
    · skip
      refine .x hb ?_ rfl rfl
      refine .x hb ?_ rfl rfl
      refine .x hb ?_ rfl rfl
      cases sel_f hb hb4
      refine .r (pkf hb rfl rfl rfl) ?_ rfl rfl
      exact .nil (ck 4 hS rfl rfl rfl rfl)
  intro W hS
  refine .p rfl rfl rfl ?_
  refine .nil ?_
  refine .ret ?_
  cases h
  exact fin_ret (vs := [_]) () (rt rfl rn) rfl (hS.to [] rfl)
theorem slices_Clone___int_int__ok {a0 : List Int} {v_0 : Hd} {w : World} {r : (List Int)} (h : slices_Clone___int_int_ a0 = some r) (q_0 : RV w (Old No w) (sv v_0) 3 1 (D.int .i64) a0) : Calls Try.prog 23 #[(sv v_0)] w (Ret No w (fun s : Hd => (sv s)) (fun s => [rowV (sv s) 3 1 (D.int .i64) r])) := by
  unfold slices_Clone___int_int_ at h
  refine enter Try.func23 rfl rfl ?_
  have hS := Sep.start w
  refine .seq ?_
  refine .region ?_
  refine .p rfl rfl rfl ?_
  refine .nil ?_
  refine .seq ?_
  refine .seq ?_
  refine .region ?_
  refine .p rfl rfl rfl ?_
  refine .r (nilq T.u22 rfl rfl) ?_ rfl rfl
  refine .nil ?_
  refine .cond rfl (fun hb => ?_) (fun hb => ?_)
  · have hl := RV.isnil q_0 hb
    subst hl
    refine .seq ?_
    refine .region ?_
    refine .p rfl rfl rfl ?_
    refine .nil ?_
    refine .ret ?_
    have hS := hS.nilv 3 1 (D.int .i64)
    have h : some [] = some r := h
    cases h
    exact fin_ret (vs := [_]) nilH (rt rfl rn) rfl (hS.to [0] rfl)
  · skip
    refine .skip ?_
    refine .seq ?_
    refine .region ?_
    refine .c (.liv [] (D.int .i64) T.u22 T.t3 hS rfl rfl rfl rfl ?_ rfl (fun _ => rfl) rfl rfl rfl rfl)
    intro v1 W hS
    refine .p rfl rfl rfl ?_
    obtain ⟨r1, hr1, h⟩ := bnd h
    refine .c (.apprv hr1 hS (hS.keep q_0) (fun _ => rfl) T.u22 T.t3 rfl rfl rfl ?_ rfl rfl rfl rfl rfl)
    intro v2 W hS
    refine .p rfl rfl rfl ?_
    refine .nil ?_
    refine .ret ?_
    cases h
    exact fin_ret (vs := [_]) v2 (rt rfl rn) rfl (hS.to [0] rfl)
theorem impl_RingValid_ok {a0 : Ring} {v_0_Slots : Hd} {w : World} {r : Bool} (h : impl_RingValid a0 = some r) (q_0_Slots : RV w (Old No w) (sv v_0_Slots) 3 1 (D.int .i64) a0.Slots) : Calls Try.prog 37 #[.agg #[.int .i64 a0.Room, .int .i64 a0.Head, .int .i64 a0.Len, (sv v_0_Slots)]] w (Ret No w (fun s : Unit => .bool r) (fun s => [])) := by
  unfold impl_RingValid at h
  refine enter Try.func37 rfl rfl ?_
  have hS := Sep.start w
  refine .seq ?_
  refine .region ?_
  refine .c (.box hS rfl rfl ?_ rfl rfl)
  intro g1 W hS
  refine .p rfl rfl rfl ?_
  refine .nil ?_
  refine .seq ?_
  refine .region ?_
  refine .r (fa T.f51_0 rfl rfl rfl) ?_ rfl rfl
  refine .r (ld T.t3 hS rfl rfl rfl rfl rfl) ?_ rfl rfl
  refine .p rfl rfl rfl ?_
  refine .p rfl rfl rfl ?_
  refine .chunk 4 10 ((decide (a0.Room ≥ 1)) && (decide (a0.Room ≤ 4))) hS ?_ ?_
  · refine .both (decide (a0.Room ≥ 1)) (fun hb => ?_) (fun hb => ?_)
    · have hg1 := hb
      refine .g hg1 (.r (fa T.f51_0 rfl rfl rfl) ?_ rfl rfl) rfl
      refine .g hg1 (.r (ld T.t3 hS rfl rfl rfl rfl rfl) ?_ rfl rfl) rfl
      refine .g hg1 (.p rfl rfl rfl ?_) rfl
      refine .r (pkt hg1 rfl rfl rfl) ?_ rfl rfl
      exact .nil (ck 4 hS rfl (and_t hg1) rfl rfl)
    · skip
      refine .x hb ?_ rfl rfl
      refine .x hb ?_ rfl rfl
      refine .x hb ?_ rfl rfl
      refine .r (pkf hb rfl rfl rfl) ?_ rfl rfl
      exact .nil (ck 4 hS rfl (and_f hb) rfl rfl)
  intro W hS
  refine .p rfl rfl rfl ?_
  refine .chunk 4 15 (((decide (a0.Room ≥ 1)) && (decide (a0.Room ≤ 4))) && (decide (a0.Head ≥ 0))) hS ?_ ?_
  · refine .both ((decide (a0.Room ≥ 1)) && (decide (a0.Room ≤ 4))) (fun hb => ?_) (fun hb => ?_)
    · have hg2 := hb
      refine .g hg2 (.r (fa T.f51_1 rfl rfl rfl) ?_ rfl rfl) rfl
      refine .g hg2 (.r (ld T.t3 hS rfl rfl rfl rfl rfl) ?_ rfl rfl) rfl
      refine .g hg2 (.p rfl rfl rfl ?_) rfl
      refine .r (pkt hg2 rfl rfl rfl) ?_ rfl rfl
      exact .nil (ck 4 hS rfl (and_t hg2) rfl rfl)
    · skip
      refine .x hb ?_ rfl rfl
      refine .x hb ?_ rfl rfl
      refine .x hb ?_ rfl rfl
      refine .r (pkf hb rfl rfl rfl) ?_ rfl rfl
      exact .nil (ck 4 hS rfl (and_f hb) rfl rfl)
  intro W hS
  refine .p rfl rfl rfl ?_
  refine .chunk 6 22 ((((decide (a0.Room ≥ 1)) && (decide (a0.Room ≤ 4))) && (decide (a0.Head ≥ 0))) && (decide (a0.Head < a0.Room))) hS ?_ ?_
  · refine .both (((decide (a0.Room ≥ 1)) && (decide (a0.Room ≤ 4))) && (decide (a0.Head ≥ 0))) (fun hb => ?_) (fun hb => ?_)
    · have hg3 := hb
      refine .g hg3 (.r (fa T.f51_1 rfl rfl rfl) ?_ rfl rfl) rfl
      refine .g hg3 (.r (ld T.t3 hS rfl rfl rfl rfl rfl) ?_ rfl rfl) rfl
      refine .g hg3 (.r (fa T.f51_0 rfl rfl rfl) ?_ rfl rfl) rfl
      refine .g hg3 (.r (ld T.t3 hS rfl rfl rfl rfl rfl) ?_ rfl rfl) rfl
      refine .g hg3 (.p rfl rfl rfl ?_) rfl
      refine .r (pkt hg3 rfl rfl rfl) ?_ rfl rfl
      exact .nil (ck 6 hS rfl (and_t hg3) rfl rfl)
    · skip
      refine .x hb ?_ rfl rfl
      refine .x hb ?_ rfl rfl
      refine .x hb ?_ rfl rfl
      refine .x hb ?_ rfl rfl
      refine .x hb ?_ rfl rfl
      refine .r (pkf hb rfl rfl rfl) ?_ rfl rfl
      exact .nil (ck 6 hS rfl (and_f hb) rfl rfl)
  intro W hS
  refine .p rfl rfl rfl ?_
  refine .chunk 4 27 (((((decide (a0.Room ≥ 1)) && (decide (a0.Room ≤ 4))) && (decide (a0.Head ≥ 0))) && (decide (a0.Head < a0.Room))) && (decide (a0.Len ≥ 0))) hS ?_ ?_
  · refine .both ((((decide (a0.Room ≥ 1)) && (decide (a0.Room ≤ 4))) && (decide (a0.Head ≥ 0))) && (decide (a0.Head < a0.Room))) (fun hb => ?_) (fun hb => ?_)
    · have hg4 := hb
      refine .g hg4 (.r (fa T.f51_2 rfl rfl rfl) ?_ rfl rfl) rfl
      refine .g hg4 (.r (ld T.t3 hS rfl rfl rfl rfl rfl) ?_ rfl rfl) rfl
      refine .g hg4 (.p rfl rfl rfl ?_) rfl
      refine .r (pkt hg4 rfl rfl rfl) ?_ rfl rfl
      exact .nil (ck 4 hS rfl (and_t hg4) rfl rfl)
    · skip
      refine .x hb ?_ rfl rfl
      refine .x hb ?_ rfl rfl
      refine .x hb ?_ rfl rfl
      refine .r (pkf hb rfl rfl rfl) ?_ rfl rfl
      exact .nil (ck 4 hS rfl (and_f hb) rfl rfl)
  intro W hS
  refine .p rfl rfl rfl ?_
  refine .chunk 6 34 ((((((decide (a0.Room ≥ 1)) && (decide (a0.Room ≤ 4))) && (decide (a0.Head ≥ 0))) && (decide (a0.Head < a0.Room))) && (decide (a0.Len ≥ 0))) && (decide (a0.Len ≤ a0.Room))) hS ?_ ?_
  · refine .both (((((decide (a0.Room ≥ 1)) && (decide (a0.Room ≤ 4))) && (decide (a0.Head ≥ 0))) && (decide (a0.Head < a0.Room))) && (decide (a0.Len ≥ 0))) (fun hb => ?_) (fun hb => ?_)
    · have hg5 := hb
      refine .g hg5 (.r (fa T.f51_2 rfl rfl rfl) ?_ rfl rfl) rfl
      refine .g hg5 (.r (ld T.t3 hS rfl rfl rfl rfl rfl) ?_ rfl rfl) rfl
      refine .g hg5 (.r (fa T.f51_0 rfl rfl rfl) ?_ rfl rfl) rfl
      refine .g hg5 (.r (ld T.t3 hS rfl rfl rfl rfl rfl) ?_ rfl rfl) rfl
      refine .g hg5 (.p rfl rfl rfl ?_) rfl
      refine .r (pkt hg5 rfl rfl rfl) ?_ rfl rfl
      exact .nil (ck 6 hS rfl (and_t hg5) rfl rfl)
    · skip
      refine .x hb ?_ rfl rfl
      refine .x hb ?_ rfl rfl
      refine .x hb ?_ rfl rfl
      refine .x hb ?_ rfl rfl
      refine .x hb ?_ rfl rfl
      refine .r (pkf hb rfl rfl rfl) ?_ rfl rfl
      exact .nil (ck 6 hS rfl (and_f hb) rfl rfl)
  intro W hS
  refine .p rfl rfl rfl ?_
  refine .chunk 5 40 (((((((decide (a0.Room ≥ 1)) && (decide (a0.Room ≤ 4))) && (decide (a0.Head ≥ 0))) && (decide (a0.Head < a0.Room))) && (decide (a0.Len ≥ 0))) && (decide (a0.Len ≤ a0.Room))) && ((a0.Slots.length : Int) == 4)) hS ?_ ?_
  · refine .both ((((((decide (a0.Room ≥ 1)) && (decide (a0.Room ≤ 4))) && (decide (a0.Head ≥ 0))) && (decide (a0.Head < a0.Room))) && (decide (a0.Len ≥ 0))) && (decide (a0.Len ≤ a0.Room))) (fun hb => ?_) (fun hb => ?_)
    · have hg6 := hb
      refine .g hg6 (.r (fa T.f51_3 rfl rfl rfl) ?_ rfl rfl) rfl
      refine .g hg6 (.r (ld T.t22 hS rfl rfl rfl rfl rfl) ?_ rfl rfl) rfl
      refine .g hg6 (.r (lenv (hS.keep q_0_Slots) T.u22 rfl rfl) ?_ rfl rfl) rfl
      refine .g hg6 (.p rfl rfl rfl ?_) rfl
      refine .r (pkt hg6 rfl rfl rfl) ?_ rfl rfl
      exact .nil (ck 5 hS rfl (and_t hg6) rfl rfl)
    · skip
      refine .x hb ?_ rfl rfl
      refine .x hb ?_ rfl rfl
      refine .x hb ?_ rfl rfl
      refine .x hb ?_ rfl rfl
      refine .r (pkf hb rfl rfl rfl) ?_ rfl rfl
      exact .nil (ck 5 hS rfl (and_f hb) rfl rfl)
  intro W hS
  refine .p rfl rfl rfl ?_
  obtain ⟨b1, hb1, h⟩ := bnd h
  refine .chunk 4 45 (b1) hS ?_ ?_
  · refine .both (((((((decide (a0.Room ≥ 1)) && (decide (a0.Room ≤ 4))) && (decide (a0.Head ≥ 0))) && (decide (a0.Head < a0.Room))) && (decide (a0.Len ≥ 0))) && (decide (a0.Len ≤ a0.Room))) && ((a0.Slots.length : Int) == 4)) (fun hb => ?_) (fun hb => ?_)
    · have hg7 := hb
      have h := sel_t hb hb1
      refine .g hg7 (.r (fa T.f51_3 rfl rfl rfl) ?_ rfl rfl) rfl
      refine .g hg7 (.r (ld T.t22 hS rfl rfl rfl rfl rfl) ?_ rfl rfl) rfl
      obtain ⟨y1, hy1, h⟩ := bnd h
      refine .g hg7 (.c (.call0 hS Try.func22 (impl_areWords_ok hy1 (hS.keep q_0_Slots)) rfl rfl ?_ rfl (by kernel_rfl) rfl rfl)) rfl
      intro W hS
      refine .r (pkt hg7 rfl rfl rfl) ?_ rfl rfl
      cases h
      exact .nil (ck 4 hS rfl rfl rfl rfl)
    · skip
      refine .x hb ?_ rfl rfl
      refine .x hb ?_ rfl rfl
      refine .x hb ?_ rfl rfl
      cases sel_f hb hb1
      refine .r (pkf hb rfl rfl rfl) ?_ rfl rfl
      exact .nil (ck 4 hS rfl rfl rfl rfl)
  intro W hS
  refine .p rfl rfl rfl ?_
  refine .nil ?_
  refine .ret ?_
  cases h
  exact fin_ret (vs := [_]) () (rt rfl rn) rfl (hS.to [] rfl)
theorem impl_RingBox_ok {a0 : Ring} {v_0_Slots : Hd} {w : World} {r : Box × Bool} (h : impl_RingBox a0 = some r) (q_0_Slots : RV w (Old No w) (sv v_0_Slots) 3 1 (D.int .i64) a0.Slots) : Calls Try.prog 24 #[.agg #[.int .i64 a0.Room, .int .i64 a0.Head, .int .i64 a0.Len, (sv v_0_Slots)]] w (Ret No w (fun s : Hd => .tuple #[.agg #[.int .i64 r.1.Room, (sv s)], .bool r.2]) (fun s => [rowV (sv s) 3 1 (D.int .i64) r.1.Items])) := by
  unfold impl_RingBox at h
  refine enter Try.func24 rfl rfl ?_
  have hS := Sep.start w
  refine .seq ?_
  refine .region ?_
  refine .c (.box hS rfl rfl ?_ rfl rfl)
  intro g1 W hS
  refine .c (.alloc T.t47 hS ?_ rfl rfl rfl)
  intro g2 W hS
  refine .p rfl rfl rfl ?_
  refine .nil ?_
  refine .seq ?_
  refine .seq ?_
  refine .region ?_
  refine .r (ld T.t51 hS.p1 rfl rfl rfl rfl rfl) ?_ rfl rfl
  obtain ⟨y1, hy1, h⟩ := bnd h
  refine .c (.call0 hS Try.func37 (impl_RingValid_ok hy1 (hS.keep q_0_Slots)) rfl rfl ?_ rfl (by kernel_rfl) rfl rfl)
  intro W hS
  refine .p rfl rfl rfl ?_
  refine .nil ?_
  refine .cond rfl (fun hb => ?_) (fun hb => ?_)
  · have h := sel_t hb h
    refine .seq ?_
    refine .region ?_
    refine .r (bs T.s47 rfl rfl) ?_ rfl rfl
    refine .c (.st T.t47 hS rfl rfl rfl ?_ rfl rfl rfl rfl rfl)
    intro W hS
    refine .p rfl rfl rfl ?_
    refine .nil ?_
    refine .ret ?_
    have hS := hS.nilv 3 1 (D.int .i64)
    cases h
    exact fin_ret (vs := [_, _]) nilH (rc hS.p1 T.t47 rfl (rt rfl rn) rfl rfl) rfl (hS.to [0] rfl)
  · have h := sel_f hb h
    refine .skip ?_
    refine .seq ?_
    refine .region ?_
    refine .r (fa T.f51_0 rfl rfl rfl) ?_ rfl rfl
    refine .r (ld T.t3 hS.p1 rfl rfl rfl rfl rfl) ?_ rfl rfl
    refine .r (bs T.s47 rfl rfl) ?_ rfl rfl
    refine .c (.alloc T.t47 hS ?_ rfl rfl rfl)
    intro g3 W hS
    refine .c (.st T.t47 hS rfl rfl rfl ?_ rfl rfl rfl rfl rfl)
    intro W hS
    refine .nil ?_
    refine .seq ?_
    refine .seq ?_
    refine .region ?_
    refine .r (fa T.f51_2 rfl rfl rfl) ?_ rfl rfl
    refine .r (ld T.t3 hS.p2 rfl rfl rfl rfl rfl) ?_ rfl rfl
    refine .p rfl rfl rfl ?_
    refine .nil ?_
    refine .block ?_
    have hS := hS.nilv 3 1 (D.int .i64)
    obtain ⟨y2, hy2, h⟩ := bnd h
    refine .via (.iter (fun s1 E' W' => ∃ (v3 : Hd), SubL E' [(1, .pointer (some ⟨g1, 0, none⟩)), (2, .pointer (some ⟨g2, 0, none⟩)), (4, .pointer (some ⟨g3, 0, none⟩)), (14, .int .i64 a0.Len), (15, .int .i64 s1.1)] ∧ Sep No w W' [.box g3 47 [.int .i64 a0.Room, (sv v3)], .box g2 47 [.int .i64 0, (sv nilH)], .box g1 51 [.int .i64 a0.Room, .int .i64 a0.Head, .int .i64 a0.Len, (sv v_0_Slots)], rowV (sv v3) 3 1 (D.int .i64) s1.2]) (fun y3 x E' W' => x = .exit 0 ∧ ∃ (v4 : Hd), SubL E' [(2, .pointer (some ⟨g2, 0, none⟩)), (4, .pointer (some ⟨g3, 0, none⟩))] ∧ Sep No w W' [.box g3 47 [.int .i64 a0.Room, (sv v4)], .box g2 47 [.int .i64 0, (sv nilH)], .box g1 51 [.int .i64 a0.Room, .int .i64 a0.Head, .int .i64 a0.Len, (sv v_0_Slots)], rowV (sv v4) 3 1 (D.int .i64) y3]) hy2 ⟨nilH, sb rfl, hS.to [1, 1, 1, 0] rfl⟩ ?_) ?_
    · intro s1 y4 E W h hI
      obtain ⟨v2, hE, hS⟩ := hI
      refine CW.sub hE ?_
      unfold impl_RingBox_b1 at h
      refine .seq ?_
      refine .region ?_
      refine .p rfl rfl rfl ?_
      refine .nil ?_
      refine .seq ?_
      refine .cond rfl (fun hb => ?_) (fun hb => ?_)
      · have h := sel_t hb h
        refine .skip ?_
        refine .seq ?_
        refine .block ?_
        refine .seq ?_
        refine .region ?_
        refine .p rfl rfl rfl ?_
        refine .p rfl rfl rfl ?_
        refine .nil ?_
        refine .rk 16 hS [0, 0, 0] T.mix ?_
        intro W hS
        have hT : Sep _ _ W [.box g3 47 [.int .i64 a0.Room, (sv v2)], .box g2 47 [.int .i64 0, (sv nilH)], .box g1 51 [.int .i64 a0.Room, .int .i64 a0.Head, .int .i64 a0.Len, (sv v_0_Slots)]] := hS.to [0, 0, 0] rfl
        refine .t1 0 rfl (fun W hT => fa T.f47_1 rfl rfl rfl) hT ?_ (by kernel_rfl) rfl rfl
        refine .t1 1 rfl (fun W hT => ld T.t22 hT rfl rfl rfl rfl rfl) hT ?_ (by kernel_rfl) rfl rfl
        refine .t1 2 rfl (fun W hT => fa T.f51_3 rfl rfl rfl) hT ?_ (by kernel_rfl) rfl rfl
        refine .t1 3 rfl (fun W hT => ld T.t22 hT.p2 rfl rfl rfl rfl rfl) hT ?_ (by kernel_rfl) rfl rfl
        refine .t1 4 rfl (fun W hT => fa T.f51_1 rfl rfl rfl) hT ?_ (by kernel_rfl) rfl rfl
        refine .t1 5 rfl (fun W hT => ld T.t3 hT.p2 rfl rfl rfl rfl rfl) hT ?_ (by kernel_rfl) rfl rfl
        refine .t1 6 rfl (fun W hT => pr rfl) hT ?_ (by kernel_rfl) rfl rfl
        refine .t1 7 rfl (fun W hT => pr rfl) hT ?_ (by kernel_rfl) rfl rfl
        refine .t1 8 rfl (fun W hT => fa T.f51_0 rfl rfl rfl) hT ?_ (by kernel_rfl) rfl rfl
        refine .t1 9 rfl (fun W hT => ld T.t3 hT.p2 rfl rfl rfl rfl rfl) hT ?_ (by kernel_rfl) rfl rfl
        obtain ⟨d1, hd1, h⟩ := bnd h
        refine .t1 10 rfl (fun W hT => dr hd1 rfl rfl rfl) hT ?_ (by kernel_rfl) rfl rfl
        obtain ⟨x1, hx1, h⟩ := bnd h
        refine .t1 11 rfl (fun W hT => ixv (hS.keep q_0_Slots) hx1 T.u22 T.t3 rfl rfl rfl) hT ?_ (by kernel_rfl) rfl rfl
        refine .t1 12 rfl (fun W hT => lde (RV.flat (hT.keep q_0_Slots) hx1 rfl) T.t3 rfl rfl rfl rfl rfl) hT ?_ (by kernel_rfl) rfl rfl
        refine .by1 13 rfl (.liv [x1] (D.int .i64) T.u22 T.t3 hS rfl rfl rfl rfl ?_ rfl (fun _ => rfl) rfl rfl rfl rfl) (by kernel_rfl)
        intro v5 W hS
        have hT : Sep _ _ W [.box g3 47 [.int .i64 a0.Room, (sv v2)], .box g2 47 [.int .i64 0, (sv nilH)], .box g1 51 [.int .i64 a0.Room, .int .i64 a0.Head, .int .i64 a0.Len, (sv v_0_Slots)]] := hS.to [1, 1, 1] rfl
        refine ⟨fun _ => hT, ?_⟩
        obtain ⟨r1, hr1, h⟩ := bnd h
        have hT0 := hS.p4
        refine .by1 14 rfl (.apprv hr1 hT0 hT0.p1.lendv (fun _ => rfl) T.u22 T.t3 rfl rfl rfl ?_ rfl rfl rfl rfl rfl) (by kernel_rfl)
        intro v6 W hS
        have hT : Sep _ _ W [.box g3 47 [.int .i64 a0.Room, (sv v2)], .box g2 47 [.int .i64 0, (sv nilH)], .box g1 51 [.int .i64 a0.Room, .int .i64 a0.Head, .int .i64 a0.Len, (sv v_0_Slots)]] := hS.to [2, 2, 2] rfl
        refine ⟨fun _ => hT, ?_⟩
        refine .t1 15 rfl (fun W hT => fa T.f47_1 rfl rfl rfl) hT ?_ (by kernel_rfl) rfl rfl
        refine .by1 16 rfl (.st T.t22 hS.p2 rfl rfl rfl ?_ rfl rfl rfl rfl rfl) (by kernel_rfl)
        intro W hS
        refine ⟨fun h => absurd rfl h, ?_⟩
        refine .done ?_ (by kernel_rfl)
        refine .region ?_
        refine .p rfl rfl rfl ?_
        refine .p rfl rfl rfl ?_
        refine .nil ?_
        cases h
        exact ⟨rfl, v6, sb rfl, hS.to [0, 2, 2, 0] rfl⟩
      · have h := sel_f hb h
        refine .exit ?_
        cases h
        exact ⟨by simp, rfl, v2, sb rfl, hS.to [0, 0, 0, 0] rfl⟩
    · intro x E W hJ
      obtain ⟨rfl, v7, hE, hS⟩ := hJ
      refine ⟨_, hE.sub, ?_⟩
      refine .seq ?_
      refine .region ?_
      refine .r (ld T.t47 hS rfl rfl rfl rfl rfl) ?_ rfl rfl
      refine .c (.st T.t47 hS.p1 rfl rfl rfl ?_ rfl rfl rfl rfl rfl)
      intro W hS
      refine .p rfl rfl rfl ?_
      refine .nil ?_
      refine .ret ?_
      cases h
      exact fin_ret (vs := [_, _]) v7 (rc hS T.t47 rfl (rt rfl rn) rfl rfl) rfl (hS.to [3] rfl)
def impl_ImageOutcome_F (w : World) (r : Outcome) : Env → World → Prop := Fin Try.prog Try.f8 No w (fun s : Hd × Hd × Hd => .agg #[(sv s.1), (sv s.2.1), (sv s.2.2), .bool r.Rest]) (fun s => [rowV (sv s.1) 3 1 (D.int .i64) r.Out, rowV (sv s.2.1) 22 1 (fun (l : List Int) => D.row 3 1 (l.map (D.int .i64))) r.Items, rowV (sv s.2.2) 4 1 D.bool r.Ended]) .ret
theorem impl_ImageOutcome_ok {a0 : Machine} {a1 : Int} {a2 : List Int} {v_0_Regs : Hd} {v_0_Mem : Hd} {v_2 : Hd} {w : World} {r : Outcome} (h : impl_ImageOutcome a0 a1 a2 = some r) (q_0_Regs : RV w (Old No w) (sv v_0_Regs) 3 1 (D.int .i64) a0.Regs) (q_0_Mem : RV w (Old No w) (sv v_0_Mem) 3 1 (D.int .i64) a0.Mem) (q_2 : RV w (Old No w) (sv v_2) 3 1 (D.int .i64) a2) : Calls Try.prog 8 #[.agg #[(sv v_0_Regs), .int .i64 a0.Pc, (sv v_0_Mem)], .int .i64 a1, (sv v_2)] w (Ret No w (fun s : Hd × Hd × Hd => .agg #[(sv s.1), (sv s.2.1), (sv s.2.2), .bool r.Rest]) (fun s => [rowV (sv s.1) 3 1 (D.int .i64) r.Out, rowV (sv s.2.1) 22 1 (fun (l : List Int) => D.row 3 1 (l.map (D.int .i64))) r.Items, rowV (sv s.2.2) 4 1 D.bool r.Ended])) := by
  unfold impl_ImageOutcome at h
  refine enter Try.func8 rfl rfl ?_
  have hS := Sep.start w
  refine .seq ?_
  refine .region ?_
  refine .c (.box hS rfl rfl ?_ rfl rfl)
  intro g1 W hS
  refine .c (.alloc T.t29 hS ?_ rfl rfl rfl)
  intro g2 W hS
  refine .nil ?_
  refine .seq ?_
  refine .seq ?_
  refine .region ?_
  refine .r (ld T.t31 hS.p1 rfl rfl rfl rfl rfl) ?_ rfl rfl
  obtain ⟨y1, hy1, h⟩ := bnd h
  refine .c (.call0 hS Try.func21 (impl_MachineValid_ok hy1 (hS.keep q_0_Regs) (hS.keep q_0_Mem)) rfl rfl ?_ rfl (by kernel_rfl) rfl rfl)
  intro W hS
  refine .p rfl rfl rfl ?_
  refine .p rfl rfl rfl ?_
  obtain ⟨b1, hb1, h⟩ := bnd h
  refine .chunk 4 22 (b1) hS ?_ ?_
  · refine .both (!y1) (fun hb => ?_) (fun hb => ?_)
    · skip
      refine .x hb ?_ rfl rfl
      refine .x hb ?_ rfl rfl
      refine .x hb ?_ rfl rfl
      cases sel_t hb hb1
      refine .r (pkt hb rfl rfl rfl) ?_ rfl rfl
      exact .nil (ck 4 hS rfl rfl rfl rfl)
    · have hg1 := hb
      have h := sel_f hb hb1
      refine .g hg1 (.p rfl rfl rfl ?_) rfl
      obtain ⟨y2, hy2, h⟩ := bnd h
      refine .g hg1 (.c (.call0 hS Try.func22 (impl_areWords_ok hy2 (hS.keep q_2)) rfl rfl ?_ rfl (by kernel_rfl) rfl rfl)) rfl
      intro W hS
      refine .g hg1 (.p rfl rfl rfl ?_) rfl
      refine .r (pkf hg1 rfl rfl rfl) ?_ rfl rfl
      cases h
      exact .nil (ck 4 hS rfl rfl rfl rfl)
  intro W hS
  refine .p rfl rfl rfl ?_
  refine .chunk 3 26 (b1 || (decide (a1 < 0))) hS ?_ ?_
  · refine .both (b1) (fun hb => ?_) (fun hb => ?_)
    · skip
      refine .x hb ?_ rfl rfl
      refine .x hb ?_ rfl rfl
      refine .r (pkt hb rfl rfl rfl) ?_ rfl rfl
      exact .nil (ck 3 hS rfl (or_t hb) rfl rfl)
    · have hg2 := hb
      refine .g hg2 (.p rfl rfl rfl ?_) rfl
      refine .g hg2 (.p rfl rfl rfl ?_) rfl
      refine .r (pkf hg2 rfl rfl rfl) ?_ rfl rfl
      exact .nil (ck 3 hS rfl (or_f hg2) rfl rfl)
  intro W hS
  refine .p rfl rfl rfl ?_
  refine .chunk 4 31 ((b1 || (decide (a1 < 0))) || ((Int.tmod a1 4) != 0)) hS ?_ ?_
  · refine .both (b1 || (decide (a1 < 0))) (fun hb => ?_) (fun hb => ?_)
    · skip
      refine .x hb ?_ rfl rfl
      refine .x hb ?_ rfl rfl
      refine .x hb ?_ rfl rfl
      refine .r (pkt hb rfl rfl rfl) ?_ rfl rfl
      exact .nil (ck 4 hS rfl (or_t hb) rfl rfl)
    · have hg3 := hb
      refine .g hg3 (.p rfl rfl rfl ?_) rfl
      refine .g hg3 (.p rfl rfl rfl ?_) rfl
      refine .g hg3 (.p rfl rfl rfl ?_) rfl
      refine .r (pkf hg3 rfl rfl rfl) ?_ rfl rfl
      exact .nil (ck 4 hS rfl (or_f hg3) rfl rfl)
  intro W hS
  refine .p rfl rfl rfl ?_
  refine .chunk 8 40 (((b1 || (decide (a1 < 0))) || ((Int.tmod a1 4) != 0)) || (decide ((w64 ((w64 (Int.tdiv a1 4)) + 1)) ≥ (a0.Mem.length : Int)))) hS ?_ ?_
  · refine .both ((b1 || (decide (a1 < 0))) || ((Int.tmod a1 4) != 0)) (fun hb => ?_) (fun hb => ?_)
    · skip
      refine .x hb ?_ rfl rfl
      refine .x hb ?_ rfl rfl
      refine .x hb ?_ rfl rfl
      refine .x hb ?_ rfl rfl
      refine .x hb ?_ rfl rfl
      refine .x hb ?_ rfl rfl
      refine .x hb ?_ rfl rfl
      refine .r (pkt hb rfl rfl rfl) ?_ rfl rfl
      exact .nil (ck 8 hS rfl (or_t hb) rfl rfl)
    · have hg4 := hb
      refine .g hg4 (.p rfl rfl rfl ?_) rfl
      refine .g hg4 (.p rfl rfl rfl ?_) rfl
      refine .g hg4 (.p rfl rfl rfl ?_) rfl
      refine .g hg4 (.r (fa T.f31_2 rfl rfl rfl) ?_ rfl rfl) rfl
      refine .g hg4 (.r (ld T.t22 hS.p1 rfl rfl rfl rfl rfl) ?_ rfl rfl) rfl
      refine .g hg4 (.r (lenv (hS.keep q_0_Mem) T.u22 rfl rfl) ?_ rfl rfl) rfl
      refine .g hg4 (.p rfl rfl rfl ?_) rfl
      refine .r (pkf hg4 rfl rfl rfl) ?_ rfl rfl
      exact .nil (ck 8 hS rfl (or_f hg4) rfl rfl)
  intro W hS
  refine .nil ?_
  refine .cond rfl (fun hb => ?_) (fun hb => ?_)
  · have h := sel_t hb h
    refine .seq ?_
    refine .region ?_
    refine .r (bs T.s29 rfl rfl) ?_ rfl rfl
    refine .c (.st T.t29 hS rfl rfl rfl ?_ rfl rfl rfl rfl rfl)
    intro W hS
    refine .nil ?_
    refine .ret ?_
    have hS := hS.nilv 3 1 (D.int .i64)
    have hS := hS.nilv 22 1 (fun (l : List Int) => D.row 3 1 (l.map (D.int .i64)))
    have hS := hS.nilv 4 1 D.bool
    cases h
    exact fin_ret (vs := [_]) (nilH, nilH, nilH) (rc hS.p3 T.t29 rfl rn rfl rfl) rfl (hS.to [2, 1, 0] rfl)
  · have h := sel_f hb h
    refine .skip ?_
    refine .seq ?_
    refine .region ?_
    refine .r (fa T.f31_2 rfl rfl rfl) ?_ rfl rfl
    refine .r (ld T.t22 hS.p1 rfl rfl rfl rfl rfl) ?_ rfl rfl
    refine .p rfl rfl rfl ?_
    refine .p rfl rfl rfl ?_
    obtain ⟨r1, hr1, h⟩ := bnd h
    refine .r (slv hr1 q_0_Mem T.u22 T.t3 rfl rfl rfl rfl) ?_ rfl rfl
    refine .p rfl rfl rfl ?_
    refine .nil ?_
    refine .seq ?_
    refine .region ?_
    refine .p rfl rfl rfl ?_
    obtain ⟨x1, hx1, h⟩ := bnd h
    refine .r (ixv (hS.keep (slv_rd hr1 q_0_Mem)) hx1 T.u22 T.t3 rfl rfl rfl) ?_ rfl rfl
    refine .r (lde (RV.flat (hS.keep (slv_rd hr1 q_0_Mem)) hx1 rfl) T.t3 rfl rfl rfl rfl rfl) ?_ rfl rfl
    refine .p rfl rfl rfl ?_
    refine .nil ?_
    refine .seq ?_
    refine .seq ?_
    refine .region ?_
    refine .p rfl rfl rfl ?_
    refine .p rfl rfl rfl ?_
    refine .p rfl rfl rfl ?_
    refine .chunk 3 55 ((decide (x1 < 1)) || (decide (x1 > 3))) hS ?_ ?_
    · refine .both (decide (x1 < 1)) (fun hb => ?_) (fun hb => ?_)
      · skip
        refine .x hb ?_ rfl rfl
        refine .x hb ?_ rfl rfl
        refine .r (pkt hb rfl rfl rfl) ?_ rfl rfl
        exact .nil (ck 3 hS rfl (or_t hb) rfl rfl)
      · have hg5 := hb
        refine .g hg5 (.p rfl rfl rfl ?_) rfl
        refine .g hg5 (.p rfl rfl rfl ?_) rfl
        refine .r (pkf hg5 rfl rfl rfl) ?_ rfl rfl
        exact .nil (ck 3 hS rfl (or_f hg5) rfl rfl)
    intro W hS
    refine .p rfl rfl rfl ?_
    refine .chunk 7 63 (((decide (x1 < 1)) || (decide (x1 > 3))) || (decide ((w64 (28 + (w64 (16 * x1)))) > (r1.length : Int)))) hS ?_ ?_
    · refine .both ((decide (x1 < 1)) || (decide (x1 > 3))) (fun hb => ?_) (fun hb => ?_)
      · skip
        refine .x hb ?_ rfl rfl
        refine .x hb ?_ rfl rfl
        refine .x hb ?_ rfl rfl
        refine .x hb ?_ rfl rfl
        refine .x hb ?_ rfl rfl
        refine .x hb ?_ rfl rfl
        refine .r (pkt hb rfl rfl rfl) ?_ rfl rfl
        exact .nil (ck 7 hS rfl (or_t hb) rfl rfl)
      · have hg6 := hb
        refine .g hg6 (.p rfl rfl rfl ?_) rfl
        refine .g hg6 (.p rfl rfl rfl ?_) rfl
        refine .g hg6 (.p rfl rfl rfl ?_) rfl
        refine .g hg6 (.p rfl rfl rfl ?_) rfl
        refine .g hg6 (.r (lenv (hS.keep (slv_rd hr1 q_0_Mem)) T.u22 rfl rfl) ?_ rfl rfl) rfl
        refine .g hg6 (.p rfl rfl rfl ?_) rfl
        refine .r (pkf hg6 rfl rfl rfl) ?_ rfl rfl
        exact .nil (ck 7 hS rfl (or_f hg6) rfl rfl)
    intro W hS
    refine .nil ?_
    refine .cond rfl (fun hb => ?_) (fun hb => ?_)
    · have h := sel_t hb h
      refine .seq ?_
      refine .region ?_
      refine .r (bs T.s29 rfl rfl) ?_ rfl rfl
      refine .c (.st T.t29 hS rfl rfl rfl ?_ rfl rfl rfl rfl rfl)
      intro W hS
      refine .nil ?_
      refine .ret ?_
      have hS := hS.nilv 3 1 (D.int .i64)
      have hS := hS.nilv 22 1 (fun (l : List Int) => D.row 3 1 (l.map (D.int .i64)))
      have hS := hS.nilv 4 1 D.bool
      cases h
      exact fin_ret (vs := [_]) (nilH, nilH, nilH) (rc hS.p3 T.t29 rfl rn rfl rfl) rfl (hS.to [2, 1, 0] rfl)
    · have h := sel_f hb h
      refine .skip ?_
      refine .seq ?_
      obtain ⟨x2, hx2, h⟩ := bnd h
      obtain ⟨y3, hy3, h⟩ := bnd h
      refine .via (R' := fun x E' W' => x = .normal ∧ ∃ (g3 : Nat) (v1 : Hd) (v2 : Hd) (v3 : Hd), SubL E' [(6, .pointer (some ⟨g2, 0, none⟩)), (7, (sv (cutH v_0_Mem (Int.toNat (w64 (Int.tdiv a1 4))) 1 r1.length))), (8, .int .i64 x1), (9, .pointer (some ⟨g3, 0, none⟩))] ∧ Sep No w W' [.box g2 29 [(sv nilH), (sv nilH), (sv nilH), .bool false], .box g1 31 [(sv v_0_Regs), .int .i64 a0.Pc, (sv v_0_Mem)], .box g3 29 [(sv v1), (sv v2), (sv v3), .bool (x2 == x1)], rowV (sv v1) 3 1 (D.int .i64) y3, rowV (sv v2) 22 1 (fun (l : List Int) => D.row 3 1 (l.map (D.int .i64))) [], rowV (sv v3) 4 1 D.bool []]) ?_ ?_
      · skip
        refine .rk 9 hS [0, 0] T.mix ?_
        intro W hS
        have hT : Sep _ _ W [.box g2 29 [(sv nilH), (sv nilH), (sv nilH), .bool false], .box g1 31 [(sv v_0_Regs), .int .i64 a0.Pc, (sv v_0_Mem)]] := hS.to [0, 0] rfl
        refine .t1 0 rfl (fun W hT => pr rfl) hT ?_ (by kernel_rfl) rfl rfl
        refine .t1 2 rfl (fun W hT => pr rfl) hT ?_ (by kernel_rfl) rfl rfl
        refine .t1 3 rfl (fun W hT => ixv (hS.keep (slv_rd hr1 q_0_Mem)) hx2 T.u22 T.t3 rfl rfl rfl) hT ?_ (by kernel_rfl) rfl rfl
        refine .t1 4 rfl (fun W hT => lde (RV.flat (hT.keep (slv_rd hr1 q_0_Mem)) hx2 rfl) T.t3 rfl rfl rfl rfl rfl) hT ?_ (by kernel_rfl) rfl rfl
        refine .t1 5 rfl (fun W hT => pr rfl) hT ?_ (by kernel_rfl) rfl rfl
        refine .t1 6 rfl (fun W hT => pr rfl) hT ?_ (by kernel_rfl) rfl rfl
        refine .by [1, 8] ⟨⟨_, rfl, ?_⟩, ⟨_, rfl, ?_⟩, trivial⟩ (by kernel_rfl) rfl
        · skip
          refine (.call1v hS Try.func23 (slices_Clone___int_int__ok hy3 (hS.keep q_2)) rfl rfl ?_ rfl (by kernel_rfl) rfl rfl)
          intro v4 W hS
          have hT : Sep _ _ W [.box g2 29 [(sv nilH), (sv nilH), (sv nilH), .bool false], .box g1 31 [(sv v_0_Regs), .int .i64 a0.Pc, (sv v_0_Mem)]] := hS.to [1, 1] rfl
          refine ⟨fun _ => hT, ?_⟩
          refine .t1 7 rfl (fun W hT => bs T.s29 rfl rfl) hT ?_ (by kernel_rfl) rfl rfl
          refine .by1 8 rfl (.alloc T.t29 hS ?_ rfl rfl rfl) (by kernel_rfl)
          intro g4 W hS
          have hT : Sep _ _ W [.box g2 29 [(sv nilH), (sv nilH), (sv nilH), .bool false], .box g1 31 [(sv v_0_Regs), .int .i64 a0.Pc, (sv v_0_Mem)]] := hS.to [2, 2] rfl
          refine ⟨fun _ => hT, ?_⟩
          refine .by1 9 rfl (.st T.t29 hS rfl rfl rfl ?_ rfl rfl rfl rfl rfl) (by kernel_rfl)
          intro W hS
          refine ⟨fun h => absurd rfl h, ?_⟩
          refine .done ?_ (by kernel_rfl)
          have hS := hS.nilv 22 1 (fun (l : List Int) => D.row 3 1 (l.map (D.int .i64)))
          have hS := hS.nilv 4 1 D.bool
          exact ⟨rfl, g4, v4, nilH, nilH, sb rfl, hS.to [4, 4, 2, 2, 1, 0] rfl⟩
        · skip
          refine (.alloc T.t29 hS ?_ rfl rfl rfl)
          intro g5 W hS
          have hT : Sep _ _ W [.box g2 29 [(sv nilH), (sv nilH), (sv nilH), .bool false], .box g1 31 [(sv v_0_Regs), .int .i64 a0.Pc, (sv v_0_Mem)]] := hS.to [1, 1] rfl
          refine ⟨fun _ => hT, ?_⟩
          refine .by1 1 rfl (.call1v hS Try.func23 (slices_Clone___int_int__ok hy3 (hS.keep q_2)) rfl rfl ?_ rfl (by kernel_rfl) rfl rfl) (by kernel_rfl)
          intro v5 W hS
          have hT : Sep _ _ W [.box g2 29 [(sv nilH), (sv nilH), (sv nilH), .bool false], .box g1 31 [(sv v_0_Regs), .int .i64 a0.Pc, (sv v_0_Mem)]] := hS.to [2, 2] rfl
          refine ⟨fun _ => hT, ?_⟩
          refine .t1 7 rfl (fun W hT => bs T.s29 rfl rfl) hT ?_ (by kernel_rfl) rfl rfl
          refine .by1 9 rfl (.st T.t29 hS.p1 rfl rfl rfl ?_ rfl rfl rfl rfl rfl) (by kernel_rfl)
          intro W hS
          refine ⟨fun h => absurd rfl h, ?_⟩
          refine .done ?_ (by kernel_rfl)
          have hS := hS.nilv 22 1 (fun (l : List Int) => D.row 3 1 (l.map (D.int .i64)))
          have hS := hS.nilv 4 1 D.bool
          exact ⟨rfl, g5, v5, nilH, nilH, sb rfl, hS.to [4, 4, 2, 2, 1, 0] rfl⟩
      · intro x E W hJ
        obtain ⟨rfl, g6, v6, v7, v8, hE, hS⟩ := hJ
        refine ⟨_, hE.sub, ?_⟩
        refine .seq ?_
        refine .seq ?_
        refine .region ?_
        refine .p rfl rfl rfl ?_
        refine .nil ?_
        refine .block ?_
        obtain ⟨y4, hy4, h⟩ := bnd h
        refine .via (.iter (fun s1 E' W' => ∃ (v11 : Hd), SubL E' [(6, .pointer (some ⟨g2, 0, none⟩)), (7, (sv (cutH v_0_Mem (Int.toNat (w64 (Int.tdiv a1 4))) 1 r1.length))), (8, .int .i64 x1), (9, .pointer (some ⟨g6, 0, none⟩)), (10, .int .i64 s1.1)] ∧ Sep No w W' [.box g2 29 [(sv nilH), (sv nilH), (sv nilH), .bool false], .box g1 31 [(sv v_0_Regs), .int .i64 a0.Pc, (sv v_0_Mem)], .box g6 29 [(sv v6), (sv v11), (sv v8), .bool (x2 == x1)], rowV (sv v6) 3 1 (D.int .i64) y3, rowV (sv v8) 4 1 D.bool [], rowV (sv v11) 22 1 (fun (l : List Int) => D.row 3 1 (l.map (D.int .i64))) s1.2]) (fun y5 x E' W' => (match y5 with | .inl o1 => x = .ret ∧ impl_ImageOutcome_F w o1 E' W' | .inr o2 => x = .exit 0 ∧ ∃ (v12 : Hd), SubL E' [(6, .pointer (some ⟨g2, 0, none⟩)), (7, (sv (cutH v_0_Mem (Int.toNat (w64 (Int.tdiv a1 4))) 1 r1.length))), (8, .int .i64 x1), (9, .pointer (some ⟨g6, 0, none⟩))] ∧ Sep No w W' [.box g2 29 [(sv nilH), (sv nilH), (sv nilH), .bool false], .box g1 31 [(sv v_0_Regs), .int .i64 a0.Pc, (sv v_0_Mem)], .box g6 29 [(sv v6), (sv v12), (sv v8), .bool (x2 == x1)], rowV (sv v6) 3 1 (D.int .i64) y3, rowV (sv v8) 4 1 D.bool [], rowV (sv v12) 22 1 (fun (l : List Int) => D.row 3 1 (l.map (D.int .i64))) o2])) hy4 ⟨v7, sb rfl, hS.to [0, 0, 0, 0, 1, 0] rfl⟩ ?_) ?_
        · intro s1 y6 E W h hI
          obtain ⟨v10, hE, hS⟩ := hI
          refine CW.sub hE ?_
          unfold impl_ImageOutcome_b1 at h
          refine .seq ?_
          refine .seq ?_
          refine .region ?_
          refine .p rfl rfl rfl ?_
          refine .p rfl rfl rfl ?_
          refine .p rfl rfl rfl ?_
          obtain ⟨b2, hb2, h⟩ := bnd h
          refine .chunk 8 83 (b2) hS ?_ ?_
          · refine .both (decide (s1.1 < 3)) (fun hb => ?_) (fun hb => ?_)
            · have hg7 := hb
              have h := sel_t hb hb2
              refine .g hg7 (.p rfl rfl rfl ?_) rfl
              refine .g hg7 (.p rfl rfl rfl ?_) rfl
              refine .g hg7 (.p rfl rfl rfl ?_) rfl
              refine .g hg7 (.p rfl rfl rfl ?_) rfl
              obtain ⟨x3, hx3, h⟩ := bnd h
              refine .g hg7 (.r (ixv (hS.keep (slv_rd hr1 q_0_Mem)) hx3 T.u22 T.t3 rfl rfl rfl) ?_ rfl rfl) rfl
              refine .g hg7 (.r (lde (RV.flat (hS.keep (slv_rd hr1 q_0_Mem)) hx3 rfl) T.t3 rfl rfl rfl rfl rfl) ?_ rfl rfl) rfl
              refine .g hg7 (.p rfl rfl rfl ?_) rfl
              refine .r (pkt hg7 rfl rfl rfl) ?_ rfl rfl
              cases h
              exact .nil (ck 8 hS rfl rfl rfl rfl)
            · skip
              refine .x hb ?_ rfl rfl
              refine .x hb ?_ rfl rfl
              refine .x hb ?_ rfl rfl
              refine .x hb ?_ rfl rfl
              refine .x hb ?_ rfl rfl
              refine .x hb ?_ rfl rfl
              refine .x hb ?_ rfl rfl
              cases sel_f hb hb2
              refine .r (pkf hb rfl rfl rfl) ?_ rfl rfl
              exact .nil (ck 8 hS rfl rfl rfl rfl)
          intro W hS
          refine .nil ?_
          refine .cond rfl (fun hb => ?_) (fun hb => ?_)
          · have h := sel_t hb h
            refine .skip ?_
            refine .seq ?_
            refine .block ?_
            refine .seq ?_
            refine .region ?_
            refine .p rfl rfl rfl ?_
            refine .p rfl rfl rfl ?_
            refine .p rfl rfl rfl ?_
            refine .p rfl rfl rfl ?_
            obtain ⟨r2, hr2, h⟩ := bnd h
            refine .r (slv hr2 (slv_rd hr1 q_0_Mem) T.u22 T.t3 rfl rfl rfl rfl) ?_ rfl rfl
            refine .p rfl rfl rfl ?_
            refine .nil ?_
            refine .seq ?_
            obtain ⟨x4, hx4, h⟩ := bnd h
            obtain ⟨x5, hx5, h⟩ := bnd h
            obtain ⟨x6, hx6, h⟩ := bnd h
            obtain ⟨r3, hr3, h⟩ := bnd h
            obtain ⟨y7, hy7, h⟩ := bnd h
            refine .via (R' := fun x E' W' => x = .normal ∧ ∃ (g7 : Nat) (v13 : Hd), SubL E' [(6, .pointer (some ⟨g2, 0, none⟩)), (7, (sv (cutH v_0_Mem (Int.toNat (w64 (Int.tdiv a1 4))) 1 r1.length))), (8, .int .i64 x1), (9, .pointer (some ⟨g6, 0, none⟩)), (10, .int .i64 s1.1), (12, .pointer (some ⟨g7, 0, none⟩)), (13, .bool y7.2)] ∧ Sep No w W' [.box g2 29 [(sv nilH), (sv nilH), (sv nilH), .bool false], .box g1 31 [(sv v_0_Regs), .int .i64 a0.Pc, (sv v_0_Mem)], .box g6 29 [(sv v6), (sv v10), (sv v8), .bool (x2 == x1)], rowV (sv v6) 3 1 (D.int .i64) y3, rowV (sv v8) 4 1 D.bool [], rowV (sv v10) 22 1 (fun (l : List Int) => D.row 3 1 (l.map (D.int .i64))) s1.2, .box g7 47 [.int .i64 y7.1.Room, (sv v13)], rowV (sv v13) 3 1 (D.int .i64) y7.1.Items]) ?_ ?_
            · skip
              refine .rk 19 hS [0, 0, 0, 0, 0, 0] T.mix ?_
              intro W hS
              have hT : Sep _ _ W [.box g2 29 [(sv nilH), (sv nilH), (sv nilH), .bool false], .box g1 31 [(sv v_0_Regs), .int .i64 a0.Pc, (sv v_0_Mem)], .box g6 29 [(sv v6), (sv v10), (sv v8), .bool (x2 == x1)], rowV (sv v6) 3 1 (D.int .i64) y3, rowV (sv v8) 4 1 D.bool [], rowV (sv v10) 22 1 (fun (l : List Int) => D.row 3 1 (l.map (D.int .i64))) s1.2] := hS.to [0, 0, 0, 0, 0, 0] rfl
              refine .t1 0 rfl (fun W hT => pr rfl) hT ?_ (by kernel_rfl) rfl rfl
              refine .t1 1 rfl (fun W hT => ixv (hS.keep (slv_rd hr2 (slv_rd hr1 q_0_Mem))) hx4 T.u22 T.t3 rfl rfl rfl) hT ?_ (by kernel_rfl) rfl rfl
              refine .t1 2 rfl (fun W hT => lde (RV.flat (hT.keep (slv_rd hr2 (slv_rd hr1 q_0_Mem))) hx4 rfl) T.t3 rfl rfl rfl rfl rfl) hT ?_ (by kernel_rfl) rfl rfl
              refine .t1 3 rfl (fun W hT => pr rfl) hT ?_ (by kernel_rfl) rfl rfl
              refine .t1 4 rfl (fun W hT => ixv (hS.keep (slv_rd hr2 (slv_rd hr1 q_0_Mem))) hx5 T.u22 T.t3 rfl rfl rfl) hT ?_ (by kernel_rfl) rfl rfl
              refine .t1 5 rfl (fun W hT => lde (RV.flat (hT.keep (slv_rd hr2 (slv_rd hr1 q_0_Mem))) hx5 rfl) T.t3 rfl rfl rfl rfl rfl) hT ?_ (by kernel_rfl) rfl rfl
              refine .t1 6 rfl (fun W hT => pr rfl) hT ?_ (by kernel_rfl) rfl rfl
              refine .t1 7 rfl (fun W hT => ixv (hS.keep (slv_rd hr2 (slv_rd hr1 q_0_Mem))) hx6 T.u22 T.t3 rfl rfl rfl) hT ?_ (by kernel_rfl) rfl rfl
              refine .t1 8 rfl (fun W hT => lde (RV.flat (hT.keep (slv_rd hr2 (slv_rd hr1 q_0_Mem))) hx6 rfl) T.t3 rfl rfl rfl rfl rfl) hT ?_ (by kernel_rfl) rfl rfl
              refine .t1 9 rfl (fun W hT => pr rfl) hT ?_ (by kernel_rfl) rfl rfl
              refine .t1 10 rfl (fun W hT => slv hr3 (slv_rd hr2 (slv_rd hr1 q_0_Mem)) T.u22 T.t3 rfl rfl rfl rfl) hT ?_ (by kernel_rfl) rfl rfl
              refine .t1 11 rfl (fun W hT => bs T.s51 rfl rfl) hT ?_ (by kernel_rfl) rfl rfl
              refine .by [12, 16] ⟨⟨_, rfl, ?_⟩, ⟨_, rfl, ?_⟩, trivial⟩ (by kernel_rfl) rfl
              · skip
                refine (.call1v hS Try.func24 (impl_RingBox_ok hy7 (hS.keep (slv_rd hr3 (slv_rd hr2 (slv_rd hr1 q_0_Mem))))) rfl rfl ?_ rfl (by kernel_rfl) rfl rfl)
                intro v14 W hS
                have hT : Sep _ _ W [.box g2 29 [(sv nilH), (sv nilH), (sv nilH), .bool false], .box g1 31 [(sv v_0_Regs), .int .i64 a0.Pc, (sv v_0_Mem)], .box g6 29 [(sv v6), (sv v10), (sv v8), .bool (x2 == x1)], rowV (sv v6) 3 1 (D.int .i64) y3, rowV (sv v8) 4 1 D.bool [], rowV (sv v10) 22 1 (fun (l : List Int) => D.row 3 1 (l.map (D.int .i64))) s1.2] := hS.to [1, 1, 1, 1, 1, 1] rfl
                refine ⟨fun _ => hT, ?_⟩
                refine .t1 13 rfl (fun W hT => pr rfl) hT ?_ (by kernel_rfl) rfl rfl
                refine .t1 14 rfl (fun W hT => pr rfl) hT ?_ (by kernel_rfl) rfl rfl
                refine .t1 15 rfl (fun W hT => pr rfl) hT ?_ (by kernel_rfl) rfl rfl
                refine .by1 16 rfl (.alloc T.t47 hS ?_ rfl rfl rfl) (by kernel_rfl)
                intro g8 W hS
                have hT : Sep _ _ W [.box g2 29 [(sv nilH), (sv nilH), (sv nilH), .bool false], .box g1 31 [(sv v_0_Regs), .int .i64 a0.Pc, (sv v_0_Mem)], .box g6 29 [(sv v6), (sv v10), (sv v8), .bool (x2 == x1)], rowV (sv v6) 3 1 (D.int .i64) y3, rowV (sv v8) 4 1 D.bool [], rowV (sv v10) 22 1 (fun (l : List Int) => D.row 3 1 (l.map (D.int .i64))) s1.2] := hS.to [2, 2, 2, 2, 2, 2] rfl
                refine ⟨fun _ => hT, ?_⟩
                refine .by1 17 rfl (.st T.t47 hS rfl rfl rfl ?_ rfl rfl rfl rfl rfl) (by kernel_rfl)
                intro W hS
                have hT : Sep _ _ W [.box g2 29 [(sv nilH), (sv nilH), (sv nilH), .bool false], .box g1 31 [(sv v_0_Regs), .int .i64 a0.Pc, (sv v_0_Mem)], .box g6 29 [(sv v6), (sv v10), (sv v8), .bool (x2 == x1)], rowV (sv v6) 3 1 (D.int .i64) y3, rowV (sv v8) 4 1 D.bool [], rowV (sv v10) 22 1 (fun (l : List Int) => D.row 3 1 (l.map (D.int .i64))) s1.2] := hS.to [2, 2, 2, 2, 2, 2] rfl
                refine ⟨fun _ => hT, ?_⟩
                refine .t1 18 rfl (fun W hT => pr rfl) hT ?_ (by kernel_rfl) rfl rfl
                refine .done ?_ (by kernel_rfl)
                exact ⟨rfl, g8, v14, sb rfl, hS.to [2, 2, 2, 2, 2, 2, 0, 0] rfl⟩
              · skip
                refine (.alloc T.t47 hS ?_ rfl rfl rfl)
                intro g9 W hS
                have hT : Sep _ _ W [.box g2 29 [(sv nilH), (sv nilH), (sv nilH), .bool false], .box g1 31 [(sv v_0_Regs), .int .i64 a0.Pc, (sv v_0_Mem)], .box g6 29 [(sv v6), (sv v10), (sv v8), .bool (x2 == x1)], rowV (sv v6) 3 1 (D.int .i64) y3, rowV (sv v8) 4 1 D.bool [], rowV (sv v10) 22 1 (fun (l : List Int) => D.row 3 1 (l.map (D.int .i64))) s1.2] := hS.to [1, 1, 1, 1, 1, 1] rfl
                refine ⟨fun _ => hT, ?_⟩
                refine .by1 12 rfl (.call1v hS Try.func24 (impl_RingBox_ok hy7 (hS.keep (slv_rd hr3 (slv_rd hr2 (slv_rd hr1 q_0_Mem))))) rfl rfl ?_ rfl (by kernel_rfl) rfl rfl) (by kernel_rfl)
                intro v15 W hS
                have hT : Sep _ _ W [.box g2 29 [(sv nilH), (sv nilH), (sv nilH), .bool false], .box g1 31 [(sv v_0_Regs), .int .i64 a0.Pc, (sv v_0_Mem)], .box g6 29 [(sv v6), (sv v10), (sv v8), .bool (x2 == x1)], rowV (sv v6) 3 1 (D.int .i64) y3, rowV (sv v8) 4 1 D.bool [], rowV (sv v10) 22 1 (fun (l : List Int) => D.row 3 1 (l.map (D.int .i64))) s1.2] := hS.to [2, 2, 2, 2, 2, 2] rfl
                refine ⟨fun _ => hT, ?_⟩
                refine .t1 13 rfl (fun W hT => pr rfl) hT ?_ (by kernel_rfl) rfl rfl
                refine .t1 14 rfl (fun W hT => pr rfl) hT ?_ (by kernel_rfl) rfl rfl
                refine .t1 15 rfl (fun W hT => pr rfl) hT ?_ (by kernel_rfl) rfl rfl
                refine .by1 17 rfl (.st T.t47 hS.p1 rfl rfl rfl ?_ rfl rfl rfl rfl rfl) (by kernel_rfl)
                intro W hS
                have hT : Sep _ _ W [.box g2 29 [(sv nilH), (sv nilH), (sv nilH), .bool false], .box g1 31 [(sv v_0_Regs), .int .i64 a0.Pc, (sv v_0_Mem)], .box g6 29 [(sv v6), (sv v10), (sv v8), .bool (x2 == x1)], rowV (sv v6) 3 1 (D.int .i64) y3, rowV (sv v8) 4 1 D.bool [], rowV (sv v10) 22 1 (fun (l : List Int) => D.row 3 1 (l.map (D.int .i64))) s1.2] := hS.to [2, 2, 2, 2, 2, 2] rfl
                refine ⟨fun _ => hT, ?_⟩
                refine .t1 18 rfl (fun W hT => pr rfl) hT ?_ (by kernel_rfl) rfl rfl
                refine .done ?_ (by kernel_rfl)
                exact ⟨rfl, g9, v15, sb rfl, hS.to [2, 2, 2, 2, 2, 2, 0, 0] rfl⟩
            · intro x E W hJ
              obtain ⟨rfl, g10, v16, hE, hS⟩ := hJ
              refine ⟨_, hE.sub, ?_⟩
              refine .seq ?_
              refine .seq ?_
              refine .region ?_
              refine .p rfl rfl rfl ?_
              refine .p rfl rfl rfl ?_
              refine .nil ?_
              refine .cond rfl (fun hb => ?_) (fun hb => ?_)
              · have h := sel_t hb h
                refine .seq ?_
                refine .region ?_
                refine .r (bs T.s29 rfl rfl) ?_ rfl rfl
                refine .c (.st T.t29 hS rfl rfl rfl ?_ rfl rfl rfl rfl rfl)
                intro W hS
                refine .nil ?_
                refine .ret ?_
                have hS := hS.nilv 3 1 (D.int .i64)
                have hS := hS.nilv 22 1 (fun (l : List Int) => D.row 3 1 (l.map (D.int .i64)))
                have hS := hS.nilv 4 1 D.bool
                cases h
                exact ⟨by simp, rfl, fin_ret (vs := [_]) (nilH, nilH, nilH) (rc hS.p3 T.t29 rfl rn rfl rfl) rfl (hS.to [2, 1, 0] rfl)⟩
              · have h := sel_f hb h
                refine .skip ?_
                refine .region ?_
                refine .r (fa T.f29_1 rfl rfl rfl) ?_ rfl rfl
                refine .r (ld T.t26 hS.p2 rfl rfl rfl rfl rfl) ?_ rfl rfl
                refine .r (fa T.f47_1 rfl rfl rfl) ?_ rfl rfl
                refine .r (ld T.t22 hS.p6 rfl rfl rfl rfl rfl) ?_ rfl rfl
                refine .c (.ligv (L1 := [rowV (sv v16) 3 1 (D.int .i64) y7.1.Items]) [y7.1.Items] (fun (l : List Int) => D.row 3 1 (l.map (D.int .i64))) T.u26 T.t22 (hS.to [7, 0, 0, 0, 0, 0, 0, 0] rfl) rfl rfl rfl (.row (.nil)) ?_ rfl (fun _ => rfl) rfl rfl rfl rfl rfl)
                intro v17 W hS
                obtain ⟨r4, hr4, h⟩ := bnd h
                refine .c (.appv hr4 (hS.to [6, 0, 0, 0, 0, 0, 0, 0] rfl) T.u26 T.t22 rfl rfl rfl ?_ rfl rfl rfl rfl rfl)
                intro v18 W hS
                refine .r (fa T.f29_1 rfl rfl rfl) ?_ rfl rfl
                refine .c (.st T.t26 hS.p3 rfl rfl rfl ?_ rfl rfl rfl rfl rfl)
                intro W hS
                refine .nil ?_
                refine .region ?_
                refine .p rfl rfl rfl ?_
                refine .p rfl rfl rfl ?_
                refine .p rfl rfl rfl ?_
                refine .nil ?_
                cases h
                exact ⟨rfl, v18, sb rfl, hS.to [2, 2, 0, 1, 1, 0] rfl⟩
          · have h := sel_f hb h
            refine .exit ?_
            cases h
            exact ⟨by simp, rfl, v10, sb rfl, hS.to [0, 0, 0, 0, 0, 0] rfl⟩
        · intro x E W hJ
          rcases y4 with o3 | o4
          · skip
            obtain ⟨rfl, hF⟩ := hJ
            refine ⟨_, fun _ _ h => h, ?_⟩
            cases h
            exact hF
          · skip
            obtain ⟨rfl, v19, hE, hS⟩ := hJ
            refine ⟨_, hE.sub, ?_⟩
            refine .seq ?_
            refine .seq ?_
            refine .region ?_
            refine .p rfl rfl rfl ?_
            refine .p rfl rfl rfl ?_
            refine .nil ?_
            refine .block ?_
            obtain ⟨y8, hy8, h⟩ := bnd h
            refine .via (.iter (fun s2 E' W' => ∃ (v22 : Hd), SubL E' [(6, .pointer (some ⟨g2, 0, none⟩)), (7, (sv (cutH v_0_Mem (Int.toNat (w64 (Int.tdiv a1 4))) 1 r1.length))), (9, .pointer (some ⟨g6, 0, none⟩)), (117, .int .i64 x1), (118, .int .i64 s2.1)] ∧ Sep No w W' [.box g2 29 [(sv nilH), (sv nilH), (sv nilH), .bool false], .box g1 31 [(sv v_0_Regs), .int .i64 a0.Pc, (sv v_0_Mem)], .box g6 29 [(sv v6), (sv v19), (sv v22), .bool (x2 == x1)], rowV (sv v6) 3 1 (D.int .i64) y3, rowV (sv v19) 22 1 (fun (l : List Int) => D.row 3 1 (l.map (D.int .i64))) o4, rowV (sv v22) 4 1 D.bool s2.2]) (fun y9 x E' W' => x = .exit 2 ∧ ∃ (v23 : Hd), SubL E' [(6, .pointer (some ⟨g2, 0, none⟩)), (9, .pointer (some ⟨g6, 0, none⟩))] ∧ Sep No w W' [.box g2 29 [(sv nilH), (sv nilH), (sv nilH), .bool false], .box g1 31 [(sv v_0_Regs), .int .i64 a0.Pc, (sv v_0_Mem)], .box g6 29 [(sv v6), (sv v19), (sv v23), .bool (x2 == x1)], rowV (sv v6) 3 1 (D.int .i64) y3, rowV (sv v19) 22 1 (fun (l : List Int) => D.row 3 1 (l.map (D.int .i64))) o4, rowV (sv v23) 4 1 D.bool y9]) hy8 ⟨v8, sb rfl, hS.to [0, 0, 0, 0, 1, 0] rfl⟩ ?_) ?_
            · intro s2 y10 E W h hI
              obtain ⟨v21, hE, hS⟩ := hI
              refine CW.sub hE ?_
              unfold impl_ImageOutcome_b2 at h
              refine .seq ?_
              refine .region ?_
              refine .p rfl rfl rfl ?_
              refine .nil ?_
              refine .seq ?_
              refine .cond rfl (fun hb => ?_) (fun hb => ?_)
              · have h := sel_t hb h
                refine .skip ?_
                refine .seq ?_
                refine .block ?_
                refine .seq ?_
                refine .region ?_
                refine .p rfl rfl rfl ?_
                refine .p rfl rfl rfl ?_
                refine .nil ?_
                refine .rk 13 hS [0, 0, 0, 0, 0] T.mix ?_
                intro W hS
                have hT : Sep _ _ W [.box g2 29 [(sv nilH), (sv nilH), (sv nilH), .bool false], .box g1 31 [(sv v_0_Regs), .int .i64 a0.Pc, (sv v_0_Mem)], .box g6 29 [(sv v6), (sv v19), (sv v21), .bool (x2 == x1)], rowV (sv v6) 3 1 (D.int .i64) y3, rowV (sv v19) 22 1 (fun (l : List Int) => D.row 3 1 (l.map (D.int .i64))) o4] := hS.to [0, 0, 0, 0, 0] rfl
                refine .t1 0 rfl (fun W hT => fa T.f29_2 rfl rfl rfl) hT ?_ (by kernel_rfl) rfl rfl
                refine .t1 1 rfl (fun W hT => ld T.t27 hT.p2 rfl rfl rfl rfl rfl) hT ?_ (by kernel_rfl) rfl rfl
                refine .t1 2 rfl (fun W hT => pr rfl) hT ?_ (by kernel_rfl) rfl rfl
                refine .t1 3 rfl (fun W hT => pr rfl) hT ?_ (by kernel_rfl) rfl rfl
                refine .t1 4 rfl (fun W hT => pr rfl) hT ?_ (by kernel_rfl) rfl rfl
                refine .t1 5 rfl (fun W hT => pr rfl) hT ?_ (by kernel_rfl) rfl rfl
                refine .t1 6 rfl (fun W hT => pr rfl) hT ?_ (by kernel_rfl) rfl rfl
                obtain ⟨x7, hx7, h⟩ := bnd h
                refine .t1 7 rfl (fun W hT => ixv (hS.keep (slv_rd hr1 q_0_Mem)) hx7 T.u22 T.t3 rfl rfl rfl) hT ?_ (by kernel_rfl) rfl rfl
                refine .t1 8 rfl (fun W hT => lde (RV.flat (hT.keep (slv_rd hr1 q_0_Mem)) hx7 rfl) T.t3 rfl rfl rfl rfl rfl) hT ?_ (by kernel_rfl) rfl rfl
                refine .t1 9 rfl (fun W hT => pr rfl) hT ?_ (by kernel_rfl) rfl rfl
                refine .by1 10 rfl (.liv [x7 == 5] D.bool T.u27 T.t4 hS rfl rfl rfl rfl ?_ rfl (fun _ => rfl) rfl rfl rfl rfl) (by kernel_rfl)
                intro v24 W hS
                have hT : Sep _ _ W [.box g2 29 [(sv nilH), (sv nilH), (sv nilH), .bool false], .box g1 31 [(sv v_0_Regs), .int .i64 a0.Pc, (sv v_0_Mem)], .box g6 29 [(sv v6), (sv v19), (sv v21), .bool (x2 == x1)], rowV (sv v6) 3 1 (D.int .i64) y3, rowV (sv v19) 22 1 (fun (l : List Int) => D.row 3 1 (l.map (D.int .i64))) o4] := hS.to [1, 1, 1, 1, 1] rfl
                refine ⟨fun _ => hT, ?_⟩
                obtain ⟨r5, hr5, h⟩ := bnd h
                have hT0 := hS.p6
                refine .by1 11 rfl (.apprv hr5 hT0 hT0.p1.lendv (fun _ => rfl) T.u27 T.t4 rfl rfl rfl ?_ rfl rfl rfl rfl rfl) (by kernel_rfl)
                intro v25 W hS
                have hT : Sep _ _ W [.box g2 29 [(sv nilH), (sv nilH), (sv nilH), .bool false], .box g1 31 [(sv v_0_Regs), .int .i64 a0.Pc, (sv v_0_Mem)], .box g6 29 [(sv v6), (sv v19), (sv v21), .bool (x2 == x1)], rowV (sv v6) 3 1 (D.int .i64) y3, rowV (sv v19) 22 1 (fun (l : List Int) => D.row 3 1 (l.map (D.int .i64))) o4] := hS.to [2, 2, 2, 2, 2] rfl
                refine ⟨fun _ => hT, ?_⟩
                refine .t1 12 rfl (fun W hT => fa T.f29_2 rfl rfl rfl) hT ?_ (by kernel_rfl) rfl rfl
                refine .by1 13 rfl (.st T.t27 hS.p4 rfl rfl rfl ?_ rfl rfl rfl rfl rfl) (by kernel_rfl)
                intro W hS
                refine ⟨fun h => absurd rfl h, ?_⟩
                refine .done ?_ (by kernel_rfl)
                refine .region ?_
                refine .p rfl rfl rfl ?_
                refine .p rfl rfl rfl ?_
                refine .nil ?_
                cases h
                exact ⟨rfl, v25, sb rfl, hS.to [3, 3, 0, 2, 2, 0] rfl⟩
              · have h := sel_f hb h
                refine .exit ?_
                cases h
                exact ⟨by simp, rfl, v21, sb rfl, hS.to [0, 0, 0, 0, 0, 0] rfl⟩
            · intro x E W hJ
              obtain ⟨rfl, v26, hE, hS⟩ := hJ
              refine ⟨_, hE.sub, ?_⟩
              refine .seq ?_
              refine .region ?_
              refine .r (ld T.t29 hS.p2 rfl rfl rfl rfl rfl) ?_ rfl rfl
              refine .c (.st T.t29 hS rfl rfl rfl ?_ rfl rfl rfl rfl rfl)
              intro W hS
              refine .nil ?_
              refine .ret ?_
              cases h
              exact fin_ret (vs := [_]) (v6, v19, v26) (rc hS T.t29 rfl rn rfl rfl) rfl (hS.to [3, 3, 3] rfl)
def laws_eqIntS_F (w : World) (r : Bool) : Env → World → Prop := Fin Try.prog Try.f11 No w (fun s : Unit => .bool r) (fun s => []) .ret
theorem laws_eqIntS_ok {a0 : List Int} {a1 : List Int} {v_0 : Hd} {v_1 : Hd} {w : World} {r : Bool} (h : laws_eqIntS a0 a1 = some r) (q_0 : RV w (Old No w) (sv v_0) 3 1 (D.int .i64) a0) (q_1 : RV w (Old No w) (sv v_1) 3 1 (D.int .i64) a1) : Calls Try.prog 11 #[(sv v_0), (sv v_1)] w (Ret No w (fun s : Unit => .bool r) (fun s => [])) := by
  unfold laws_eqIntS at h
  refine enter Try.func11 rfl rfl ?_
  have hS := Sep.start w
  refine .seq ?_
  refine .region ?_
  refine .p rfl rfl rfl ?_
  refine .nil ?_
  refine .seq ?_
  refine .seq ?_
  refine .region ?_
  refine .p rfl rfl rfl ?_
  refine .r (lenv (hS.keep q_0) T.u22 rfl rfl) ?_ rfl rfl
  refine .p rfl rfl rfl ?_
  refine .r (lenv (hS.keep q_1) T.u22 rfl rfl) ?_ rfl rfl
  refine .p rfl rfl rfl ?_
  refine .nil ?_
  refine .cond rfl (fun hb => ?_) (fun hb => ?_)
  · have h := sel_t hb h
    refine .seq ?_
    refine .region ?_
    refine .p rfl rfl rfl ?_
    refine .nil ?_
    refine .ret ?_
    cases h
    exact fin_ret (vs := [_]) () (rt rfl rn) rfl (hS.to [] rfl)
  · have h := sel_f hb h
    refine .skip ?_
    refine .seq ?_
    refine .seq ?_
    refine .region ?_
    refine .p rfl rfl rfl ?_
    refine .nil ?_
    refine .block ?_
    obtain ⟨y1, hy1, h⟩ := bnd h
    refine .via (.iter (fun s1 E' W' => SubL E' [(0, (sv v_0)), (1, (sv v_1)), (5, .int .i64 s1)] ∧ Sep No w W' []) (fun y2 x E' W' => (match y2 with | .inl o1 => x = .ret ∧ laws_eqIntS_F w o1 E' W' | .inr o2 => x = .exit 0 ∧ SubL E' [] ∧ Sep No w W' [])) hy1 ⟨sb rfl, hS.to [] rfl⟩ ?_) ?_
    · intro s1 y3 E W h hI
      obtain ⟨hE, hS⟩ := hI
      refine CW.sub hE ?_
      unfold laws_eqIntS_b1 at h
      refine .seq ?_
      refine .seq ?_
      refine .region ?_
      refine .p rfl rfl rfl ?_
      refine .p rfl rfl rfl ?_
      refine .r (lenv (hS.keep q_0) T.u22 rfl rfl) ?_ rfl rfl
      refine .p rfl rfl rfl ?_
      refine .nil ?_
      refine .cond rfl (fun hb => ?_) (fun hb => ?_)
      · have h := sel_t hb h
        refine .skip ?_
        refine .seq ?_
        refine .block ?_
        refine .seq ?_
        refine .rk 9 hS [] T.mix ?_
        intro W hS
        have hT : Sep _ _ W [] := hS.to [] rfl
        refine .t1 0 rfl (fun W hT => pr rfl) hT ?_ (by kernel_rfl) rfl rfl
        refine .t1 1 rfl (fun W hT => pr rfl) hT ?_ (by kernel_rfl) rfl rfl
        obtain ⟨x1, hx1, h⟩ := bnd h
        refine .t1 2 rfl (fun W hT => ixv (hS.keep q_0) hx1 T.u22 T.t3 rfl rfl rfl) hT ?_ (by kernel_rfl) rfl rfl
        refine .t1 3 rfl (fun W hT => lde (RV.flat (hT.keep q_0) hx1 rfl) T.t3 rfl rfl rfl rfl rfl) hT ?_ (by kernel_rfl) rfl rfl
        refine .t1 4 rfl (fun W hT => pr rfl) hT ?_ (by kernel_rfl) rfl rfl
        refine .t1 5 rfl (fun W hT => pr rfl) hT ?_ (by kernel_rfl) rfl rfl
        obtain ⟨x2, hx2, h⟩ := bnd h
        refine .t1 6 rfl (fun W hT => ixv (hS.keep q_1) hx2 T.u22 T.t3 rfl rfl rfl) hT ?_ (by kernel_rfl) rfl rfl
        refine .t1 7 rfl (fun W hT => lde (RV.flat (hT.keep q_1) hx2 rfl) T.t3 rfl rfl rfl rfl rfl) hT ?_ (by kernel_rfl) rfl rfl
        refine .t1 8 rfl (fun W hT => pr rfl) hT ?_ (by kernel_rfl) rfl rfl
        refine .done ?_ (by kernel_rfl)
        refine .cond rfl (fun hb => ?_) (fun hb => ?_)
        · have h := sel_t hb h
          refine .seq ?_
          refine .region ?_
          refine .p rfl rfl rfl ?_
          refine .nil ?_
          refine .ret ?_
          cases h
          exact ⟨by simp, rfl, fin_ret (vs := [_]) () (rt rfl rn) rfl (hS.to [] rfl)⟩
        · have h := sel_f hb h
          refine .skip ?_
          refine .region ?_
          refine .p rfl rfl rfl ?_
          refine .p rfl rfl rfl ?_
          refine .p rfl rfl rfl ?_
          refine .nil ?_
          cases h
          exact ⟨rfl, sb rfl, hS.to [] rfl⟩
      · have h := sel_f hb h
        refine .exit ?_
        cases h
        exact ⟨by simp, rfl, sb rfl, hS.to [] rfl⟩
    · intro x E W hJ
      rcases y1 with o3 | o4
      · skip
        obtain ⟨rfl, hF⟩ := hJ
        refine ⟨_, fun _ _ h => h, ?_⟩
        cases h
        exact hF
      · skip
        obtain ⟨rfl, hE, hS⟩ := hJ
        refine ⟨_, hE.sub, ?_⟩
        refine .seq ?_
        refine .region ?_
        refine .p rfl rfl rfl ?_
        refine .nil ?_
        refine .ret ?_
        cases h
        exact fin_ret (vs := [_]) () (rt rfl rn) rfl (hS.to [] rfl)
def laws_eqIntSS_F (w : World) (r : Bool) : Env → World → Prop := Fin Try.prog Try.f25 No w (fun s : Unit => .bool r) (fun s => []) .ret
theorem laws_eqIntSS_ok {a0 : List (List Int)} {a1 : List (List Int)} {v_0 : Hd} {v_1 : Hd} {w : World} {r : Bool} (h : laws_eqIntSS a0 a1 = some r) (q_0 : RV w (Old No w) (sv v_0) 22 1 (fun (l : List Int) => D.row 3 1 (l.map (D.int .i64))) a0) (q_1 : RV w (Old No w) (sv v_1) 22 1 (fun (l : List Int) => D.row 3 1 (l.map (D.int .i64))) a1) : Calls Try.prog 25 #[(sv v_0), (sv v_1)] w (Ret No w (fun s : Unit => .bool r) (fun s => [])) := by
  unfold laws_eqIntSS at h
  refine enter Try.func25 rfl rfl ?_
  have hS := Sep.start w
  refine .seq ?_
  refine .region ?_
  refine .p rfl rfl rfl ?_
  refine .nil ?_
  refine .seq ?_
  refine .seq ?_
  refine .region ?_
  refine .p rfl rfl rfl ?_
  refine .r (lenv (hS.keep q_0) T.u26 rfl rfl) ?_ rfl rfl
  refine .p rfl rfl rfl ?_
  refine .r (lenv (hS.keep q_1) T.u26 rfl rfl) ?_ rfl rfl
  refine .p rfl rfl rfl ?_
  refine .nil ?_
  refine .cond rfl (fun hb => ?_) (fun hb => ?_)
  · have h := sel_t hb h
    refine .seq ?_
    refine .region ?_
    refine .p rfl rfl rfl ?_
    refine .nil ?_
    refine .ret ?_
    cases h
    exact fin_ret (vs := [_]) () (rt rfl rn) rfl (hS.to [] rfl)
  · have h := sel_f hb h
    refine .skip ?_
    refine .seq ?_
    refine .seq ?_
    refine .region ?_
    refine .p rfl rfl rfl ?_
    refine .nil ?_
    refine .block ?_
    obtain ⟨y1, hy1, h⟩ := bnd h
    refine .via (.iter (fun s1 E' W' => SubL E' [(0, (sv v_0)), (1, (sv v_1)), (5, .int .i64 s1)] ∧ Sep No w W' []) (fun y2 x E' W' => (match y2 with | .inl o1 => x = .ret ∧ laws_eqIntSS_F w o1 E' W' | .inr o2 => x = .exit 0 ∧ SubL E' [] ∧ Sep No w W' [])) hy1 ⟨sb rfl, hS.to [] rfl⟩ ?_) ?_
    · intro s1 y3 E W h hI
      obtain ⟨hE, hS⟩ := hI
      refine CW.sub hE ?_
      unfold laws_eqIntSS_b1 at h
      refine .seq ?_
      refine .seq ?_
      refine .region ?_
      refine .p rfl rfl rfl ?_
      refine .p rfl rfl rfl ?_
      refine .r (lenv (hS.keep q_0) T.u26 rfl rfl) ?_ rfl rfl
      refine .p rfl rfl rfl ?_
      refine .nil ?_
      refine .cond rfl (fun hb => ?_) (fun hb => ?_)
      · have h := sel_t hb h
        refine .skip ?_
        refine .seq ?_
        refine .block ?_
        refine .seq ?_
        refine .rk 10 hS [] T.mix ?_
        intro W hS
        have hT : Sep _ _ W [] := hS.to [] rfl
        refine .t1 0 rfl (fun W hT => pr rfl) hT ?_ (by kernel_rfl) rfl rfl
        refine .t1 1 rfl (fun W hT => pr rfl) hT ?_ (by kernel_rfl) rfl rfl
        obtain ⟨x1, hx1, h⟩ := bnd h
        obtain ⟨k1, hd, hck1⟩ := RV.el2 q_0 hx1
        obtain ⟨v1, k1, rfl, q1, hd⟩ := rrowv q_0 hd
        obtain rfl := rnil q_0 hd
        refine .t1 2 rfl (fun W hT => ixv (hS.keep q_0) hx1 T.u26 T.t22 rfl rfl rfl) hT ?_ (by kernel_rfl) rfl rfl
        refine .t1 3 rfl (fun W hT => lde (hck1 _ hT.agree) T.t22 rfl rfl rfl rfl rfl) hT ?_ (by kernel_rfl) rfl rfl
        refine .t1 4 rfl (fun W hT => pr rfl) hT ?_ (by kernel_rfl) rfl rfl
        refine .t1 5 rfl (fun W hT => pr rfl) hT ?_ (by kernel_rfl) rfl rfl
        obtain ⟨x2, hx2, h⟩ := bnd h
        obtain ⟨k2, hd, hck2⟩ := RV.el2 q_1 hx2
        obtain ⟨v2, k2, rfl, q2, hd⟩ := rrowv q_1 hd
        obtain rfl := rnil q_1 hd
        refine .t1 6 rfl (fun W hT => ixv (hS.keep q_1) hx2 T.u26 T.t22 rfl rfl rfl) hT ?_ (by kernel_rfl) rfl rfl
        refine .t1 7 rfl (fun W hT => lde (hck2 _ hT.agree) T.t22 rfl rfl rfl rfl rfl) hT ?_ (by kernel_rfl) rfl rfl
        obtain ⟨y4, hy4, h⟩ := bnd h
        refine .by1 8 rfl (.call0 hS Try.func11 (laws_eqIntS_ok hy4 (hS.keep (q1 _ q_0)) (hS.keep (q2 _ q_1))) rfl rfl ?_ rfl (by kernel_rfl) rfl rfl) (by kernel_rfl)
        intro W hS
        have hT : Sep _ _ W [] := hS.to [] rfl
        refine ⟨fun _ => hT, ?_⟩
        refine .t1 9 rfl (fun W hT => pr rfl) hT ?_ (by kernel_rfl) rfl rfl
        refine .done ?_ (by kernel_rfl)
        refine .cond rfl (fun hb => ?_) (fun hb => ?_)
        · have h := sel_t hb h
          refine .seq ?_
          refine .region ?_
          refine .p rfl rfl rfl ?_
          refine .nil ?_
          refine .ret ?_
          cases h
          exact ⟨by simp, rfl, fin_ret (vs := [_]) () (rt rfl rn) rfl (hS.to [] rfl)⟩
        · have h := sel_f hb h
          refine .skip ?_
          refine .region ?_
          refine .p rfl rfl rfl ?_
          refine .p rfl rfl rfl ?_
          refine .p rfl rfl rfl ?_
          refine .nil ?_
          cases h
          exact ⟨rfl, sb rfl, hS.to [] rfl⟩
      · have h := sel_f hb h
        refine .exit ?_
        cases h
        exact ⟨by simp, rfl, sb rfl, hS.to [] rfl⟩
    · intro x E W hJ
      rcases y1 with o3 | o4
      · skip
        obtain ⟨rfl, hF⟩ := hJ
        refine ⟨_, fun _ _ h => h, ?_⟩
        cases h
        exact hF
      · skip
        obtain ⟨rfl, hE, hS⟩ := hJ
        refine ⟨_, hE.sub, ?_⟩
        refine .seq ?_
        refine .region ?_
        refine .p rfl rfl rfl ?_
        refine .nil ?_
        refine .ret ?_
        cases h
        exact fin_ret (vs := [_]) () (rt rfl rn) rfl (hS.to [] rfl)
def laws_eqBoolS_F (w : World) (r : Bool) : Env → World → Prop := Fin Try.prog Try.f26 No w (fun s : Unit => .bool r) (fun s => []) .ret
theorem laws_eqBoolS_ok {a0 : List Bool} {a1 : List Bool} {v_0 : Hd} {v_1 : Hd} {w : World} {r : Bool} (h : laws_eqBoolS a0 a1 = some r) (q_0 : RV w (Old No w) (sv v_0) 4 1 D.bool a0) (q_1 : RV w (Old No w) (sv v_1) 4 1 D.bool a1) : Calls Try.prog 26 #[(sv v_0), (sv v_1)] w (Ret No w (fun s : Unit => .bool r) (fun s => [])) := by
  unfold laws_eqBoolS at h
  refine enter Try.func26 rfl rfl ?_
  have hS := Sep.start w
  refine .seq ?_
  refine .region ?_
  refine .p rfl rfl rfl ?_
  refine .nil ?_
  refine .seq ?_
  refine .seq ?_
  refine .region ?_
  refine .p rfl rfl rfl ?_
  refine .r (lenv (hS.keep q_0) T.u27 rfl rfl) ?_ rfl rfl
  refine .p rfl rfl rfl ?_
  refine .r (lenv (hS.keep q_1) T.u27 rfl rfl) ?_ rfl rfl
  refine .p rfl rfl rfl ?_
  refine .nil ?_
  refine .cond rfl (fun hb => ?_) (fun hb => ?_)
  · have h := sel_t hb h
    refine .seq ?_
    refine .region ?_
    refine .p rfl rfl rfl ?_
    refine .nil ?_
    refine .ret ?_
    cases h
    exact fin_ret (vs := [_]) () (rt rfl rn) rfl (hS.to [] rfl)
  · have h := sel_f hb h
    refine .skip ?_
    refine .seq ?_
    refine .seq ?_
    refine .region ?_
    refine .p rfl rfl rfl ?_
    refine .nil ?_
    refine .block ?_
    obtain ⟨y1, hy1, h⟩ := bnd h
    refine .via (.iter (fun s1 E' W' => SubL E' [(0, (sv v_0)), (1, (sv v_1)), (5, .int .i64 s1)] ∧ Sep No w W' []) (fun y2 x E' W' => (match y2 with | .inl o1 => x = .ret ∧ laws_eqBoolS_F w o1 E' W' | .inr o2 => x = .exit 0 ∧ SubL E' [] ∧ Sep No w W' [])) hy1 ⟨sb rfl, hS.to [] rfl⟩ ?_) ?_
    · intro s1 y3 E W h hI
      obtain ⟨hE, hS⟩ := hI
      refine CW.sub hE ?_
      unfold laws_eqBoolS_b1 at h
      refine .seq ?_
      refine .seq ?_
      refine .region ?_
      refine .p rfl rfl rfl ?_
      refine .p rfl rfl rfl ?_
      refine .r (lenv (hS.keep q_0) T.u27 rfl rfl) ?_ rfl rfl
      refine .p rfl rfl rfl ?_
      refine .nil ?_
      refine .cond rfl (fun hb => ?_) (fun hb => ?_)
      · have h := sel_t hb h
        refine .skip ?_
        refine .seq ?_
        refine .block ?_
        refine .seq ?_
        refine .rk 9 hS [] T.mix ?_
        intro W hS
        have hT : Sep _ _ W [] := hS.to [] rfl
        refine .t1 0 rfl (fun W hT => pr rfl) hT ?_ (by kernel_rfl) rfl rfl
        refine .t1 1 rfl (fun W hT => pr rfl) hT ?_ (by kernel_rfl) rfl rfl
        obtain ⟨x1, hx1, h⟩ := bnd h
        refine .t1 2 rfl (fun W hT => ixv (hS.keep q_0) hx1 T.u27 T.t4 rfl rfl rfl) hT ?_ (by kernel_rfl) rfl rfl
        refine .t1 3 rfl (fun W hT => lde (RV.flat (hT.keep q_0) hx1 rfl) T.t4 rfl rfl rfl rfl rfl) hT ?_ (by kernel_rfl) rfl rfl
        refine .t1 4 rfl (fun W hT => pr rfl) hT ?_ (by kernel_rfl) rfl rfl
        refine .t1 5 rfl (fun W hT => pr rfl) hT ?_ (by kernel_rfl) rfl rfl
        obtain ⟨x2, hx2, h⟩ := bnd h
        refine .t1 6 rfl (fun W hT => ixv (hS.keep q_1) hx2 T.u27 T.t4 rfl rfl rfl) hT ?_ (by kernel_rfl) rfl rfl
        refine .t1 7 rfl (fun W hT => lde (RV.flat (hT.keep q_1) hx2 rfl) T.t4 rfl rfl rfl rfl rfl) hT ?_ (by kernel_rfl) rfl rfl
        refine .t1 8 rfl (fun W hT => neb T.u4 rfl rfl rfl) hT ?_ (by kernel_rfl) rfl rfl
        refine .done ?_ (by kernel_rfl)
        refine .cond rfl (fun hb => ?_) (fun hb => ?_)
        · have h := sel_t hb h
          refine .seq ?_
          refine .region ?_
          refine .p rfl rfl rfl ?_
          refine .nil ?_
          refine .ret ?_
          cases h
          exact ⟨by simp, rfl, fin_ret (vs := [_]) () (rt rfl rn) rfl (hS.to [] rfl)⟩
        · have h := sel_f hb h
          refine .skip ?_
          refine .region ?_
          refine .p rfl rfl rfl ?_
          refine .p rfl rfl rfl ?_
          refine .p rfl rfl rfl ?_
          refine .nil ?_
          cases h
          exact ⟨rfl, sb rfl, hS.to [] rfl⟩
      · have h := sel_f hb h
        refine .exit ?_
        cases h
        exact ⟨by simp, rfl, sb rfl, hS.to [] rfl⟩
    · intro x E W hJ
      rcases y1 with o3 | o4
      · skip
        obtain ⟨rfl, hF⟩ := hJ
        refine ⟨_, fun _ _ h => h, ?_⟩
        cases h
        exact hF
      · skip
        obtain ⟨rfl, hE, hS⟩ := hJ
        refine ⟨_, hE.sub, ?_⟩
        refine .seq ?_
        refine .region ?_
        refine .p rfl rfl rfl ?_
        refine .nil ?_
        refine .ret ?_
        cases h
        exact fin_ret (vs := [_]) () (rt rfl rn) rfl (hS.to [] rfl)
theorem laws_eqOutcome_ok {a0 : Outcome} {a1 : Outcome} {v_0_Out : Hd} {v_0_Items : Hd} {v_0_Ended : Hd} {v_1_Out : Hd} {v_1_Items : Hd} {v_1_Ended : Hd} {w : World} {r : Bool} (h : laws_eqOutcome a0 a1 = some r) (q_0_Out : RV w (Old No w) (sv v_0_Out) 3 1 (D.int .i64) a0.Out) (q_0_Items : RV w (Old No w) (sv v_0_Items) 22 1 (fun (l : List Int) => D.row 3 1 (l.map (D.int .i64))) a0.Items) (q_0_Ended : RV w (Old No w) (sv v_0_Ended) 4 1 D.bool a0.Ended) (q_1_Out : RV w (Old No w) (sv v_1_Out) 3 1 (D.int .i64) a1.Out) (q_1_Items : RV w (Old No w) (sv v_1_Items) 22 1 (fun (l : List Int) => D.row 3 1 (l.map (D.int .i64))) a1.Items) (q_1_Ended : RV w (Old No w) (sv v_1_Ended) 4 1 D.bool a1.Ended) : Calls Try.prog 9 #[.agg #[(sv v_0_Out), (sv v_0_Items), (sv v_0_Ended), .bool a0.Rest], .agg #[(sv v_1_Out), (sv v_1_Items), (sv v_1_Ended), .bool a1.Rest]] w (Ret No w (fun s : Unit => .bool r) (fun s => [])) := by
  unfold laws_eqOutcome at h
  refine enter Try.func9 rfl rfl ?_
  have hS := Sep.start w
  refine .seq ?_
  refine .region ?_
  refine .c (.box hS rfl rfl ?_ rfl rfl)
  intro g1 W hS
  refine .c (.box hS rfl rfl ?_ rfl rfl)
  intro g2 W hS
  refine .p rfl rfl rfl ?_
  refine .nil ?_
  refine .seq ?_
  refine .seq ?_
  refine .region ?_
  refine .r (fa T.f29_0 rfl rfl rfl) ?_ rfl rfl
  refine .r (ld T.t22 hS.p1 rfl rfl rfl rfl rfl) ?_ rfl rfl
  refine .r (fa T.f29_0 rfl rfl rfl) ?_ rfl rfl
  refine .r (ld T.t22 hS rfl rfl rfl rfl rfl) ?_ rfl rfl
  obtain ⟨y1, hy1, h⟩ := bnd h
  refine .c (.call0 hS Try.func11 (laws_eqIntS_ok hy1 (hS.keep q_0_Out) (hS.keep q_1_Out)) rfl rfl ?_ rfl (by kernel_rfl) rfl rfl)
  intro W hS
  refine .p rfl rfl rfl ?_
  refine .nil ?_
  refine .cond rfl (fun hb => ?_) (fun hb => ?_)
  · have h := sel_t hb h
    refine .seq ?_
    refine .region ?_
    refine .p rfl rfl rfl ?_
    refine .nil ?_
    refine .ret ?_
    cases h
    exact fin_ret (vs := [_]) () (rt rfl rn) rfl (hS.to [] rfl)
  · have h := sel_f hb h
    refine .skip ?_
    refine .seq ?_
    refine .seq ?_
    refine .region ?_
    refine .r (fa T.f29_1 rfl rfl rfl) ?_ rfl rfl
    refine .r (ld T.t26 hS.p1 rfl rfl rfl rfl rfl) ?_ rfl rfl
    refine .r (fa T.f29_1 rfl rfl rfl) ?_ rfl rfl
    refine .r (ld T.t26 hS rfl rfl rfl rfl rfl) ?_ rfl rfl
    obtain ⟨y2, hy2, h⟩ := bnd h
    refine .c (.call0 hS Try.func25 (laws_eqIntSS_ok hy2 (hS.keep q_0_Items) (hS.keep q_1_Items)) rfl rfl ?_ rfl (by kernel_rfl) rfl rfl)
    intro W hS
    refine .p rfl rfl rfl ?_
    refine .nil ?_
    refine .cond rfl (fun hb => ?_) (fun hb => ?_)
    · have h := sel_t hb h
      refine .seq ?_
      refine .region ?_
      refine .p rfl rfl rfl ?_
      refine .nil ?_
      refine .ret ?_
      cases h
      exact fin_ret (vs := [_]) () (rt rfl rn) rfl (hS.to [] rfl)
    · have h := sel_f hb h
      refine .skip ?_
      refine .seq ?_
      refine .seq ?_
      refine .region ?_
      refine .r (fa T.f29_2 rfl rfl rfl) ?_ rfl rfl
      refine .r (ld T.t27 hS.p1 rfl rfl rfl rfl rfl) ?_ rfl rfl
      refine .r (fa T.f29_2 rfl rfl rfl) ?_ rfl rfl
      refine .r (ld T.t27 hS rfl rfl rfl rfl rfl) ?_ rfl rfl
      obtain ⟨y3, hy3, h⟩ := bnd h
      refine .c (.call0 hS Try.func26 (laws_eqBoolS_ok hy3 (hS.keep q_0_Ended) (hS.keep q_1_Ended)) rfl rfl ?_ rfl (by kernel_rfl) rfl rfl)
      intro W hS
      refine .p rfl rfl rfl ?_
      refine .nil ?_
      refine .cond rfl (fun hb => ?_) (fun hb => ?_)
      · have h := sel_t hb h
        refine .seq ?_
        refine .region ?_
        refine .p rfl rfl rfl ?_
        refine .nil ?_
        refine .ret ?_
        cases h
        exact fin_ret (vs := [_]) () (rt rfl rn) rfl (hS.to [] rfl)
      · have h := sel_f hb h
        refine .skip ?_
        refine .seq ?_
        refine .seq ?_
        refine .region ?_
        refine .r (fa T.f29_3 rfl rfl rfl) ?_ rfl rfl
        refine .r (ld T.t4 hS.p1 rfl rfl rfl rfl rfl) ?_ rfl rfl
        refine .r (fa T.f29_3 rfl rfl rfl) ?_ rfl rfl
        refine .r (ld T.t4 hS rfl rfl rfl rfl rfl) ?_ rfl rfl
        refine .r (neb T.u4 rfl rfl rfl) ?_ rfl rfl
        refine .nil ?_
        refine .cond rfl (fun hb => ?_) (fun hb => ?_)
        · have h := sel_t hb h
          refine .seq ?_
          refine .region ?_
          refine .p rfl rfl rfl ?_
          refine .nil ?_
          refine .ret ?_
          cases h
          exact fin_ret (vs := [_]) () (rt rfl rn) rfl (hS.to [] rfl)
        · have h := sel_f hb h
          refine .skip ?_
          refine .seq ?_
          refine .region ?_
          refine .p rfl rfl rfl ?_
          refine .nil ?_
          refine .ret ?_
          cases h
          exact fin_ret (vs := [_]) () (rt rfl rn) rfl (hS.to [] rfl)
theorem laws_eqMachine_ok {a0 : Machine} {a1 : Machine} {v_0_Regs : Hd} {v_0_Mem : Hd} {v_1_Regs : Hd} {v_1_Mem : Hd} {w : World} {r : Bool} (h : laws_eqMachine a0 a1 = some r) (q_0_Regs : RV w (Old No w) (sv v_0_Regs) 3 1 (D.int .i64) a0.Regs) (q_0_Mem : RV w (Old No w) (sv v_0_Mem) 3 1 (D.int .i64) a0.Mem) (q_1_Regs : RV w (Old No w) (sv v_1_Regs) 3 1 (D.int .i64) a1.Regs) (q_1_Mem : RV w (Old No w) (sv v_1_Mem) 3 1 (D.int .i64) a1.Mem) : Calls Try.prog 10 #[.agg #[(sv v_0_Regs), .int .i64 a0.Pc, (sv v_0_Mem)], .agg #[(sv v_1_Regs), .int .i64 a1.Pc, (sv v_1_Mem)]] w (Ret No w (fun s : Unit => .bool r) (fun s => [])) := by
  unfold laws_eqMachine at h
  refine enter Try.func10 rfl rfl ?_
  have hS := Sep.start w
  refine .seq ?_
  refine .region ?_
  refine .c (.box hS rfl rfl ?_ rfl rfl)
  intro g1 W hS
  refine .c (.box hS rfl rfl ?_ rfl rfl)
  intro g2 W hS
  refine .p rfl rfl rfl ?_
  refine .nil ?_
  refine .seq ?_
  refine .seq ?_
  refine .region ?_
  refine .r (fa T.f31_0 rfl rfl rfl) ?_ rfl rfl
  refine .r (ld T.t22 hS.p1 rfl rfl rfl rfl rfl) ?_ rfl rfl
  refine .r (fa T.f31_0 rfl rfl rfl) ?_ rfl rfl
  refine .r (ld T.t22 hS rfl rfl rfl rfl rfl) ?_ rfl rfl
  obtain ⟨y1, hy1, h⟩ := bnd h
  refine .c (.call0 hS Try.func11 (laws_eqIntS_ok hy1 (hS.keep q_0_Regs) (hS.keep q_1_Regs)) rfl rfl ?_ rfl (by kernel_rfl) rfl rfl)
  intro W hS
  refine .p rfl rfl rfl ?_
  refine .nil ?_
  refine .cond rfl (fun hb => ?_) (fun hb => ?_)
  · have h := sel_t hb h
    refine .seq ?_
    refine .region ?_
    refine .p rfl rfl rfl ?_
    refine .nil ?_
    refine .ret ?_
    cases h
    exact fin_ret (vs := [_]) () (rt rfl rn) rfl (hS.to [] rfl)
  · have h := sel_f hb h
    refine .skip ?_
    refine .seq ?_
    refine .seq ?_
    refine .region ?_
    refine .r (fa T.f31_1 rfl rfl rfl) ?_ rfl rfl
    refine .r (ld T.t3 hS.p1 rfl rfl rfl rfl rfl) ?_ rfl rfl
    refine .r (fa T.f31_1 rfl rfl rfl) ?_ rfl rfl
    refine .r (ld T.t3 hS rfl rfl rfl rfl rfl) ?_ rfl rfl
    refine .p rfl rfl rfl ?_
    refine .nil ?_
    refine .cond rfl (fun hb => ?_) (fun hb => ?_)
    · have h := sel_t hb h
      refine .seq ?_
      refine .region ?_
      refine .p rfl rfl rfl ?_
      refine .nil ?_
      refine .ret ?_
      cases h
      exact fin_ret (vs := [_]) () (rt rfl rn) rfl (hS.to [] rfl)
    · have h := sel_f hb h
      refine .skip ?_
      refine .seq ?_
      refine .seq ?_
      refine .region ?_
      refine .r (fa T.f31_2 rfl rfl rfl) ?_ rfl rfl
      refine .r (ld T.t22 hS.p1 rfl rfl rfl rfl rfl) ?_ rfl rfl
      refine .r (fa T.f31_2 rfl rfl rfl) ?_ rfl rfl
      refine .r (ld T.t22 hS rfl rfl rfl rfl rfl) ?_ rfl rfl
      obtain ⟨y2, hy2, h⟩ := bnd h
      refine .c (.call0 hS Try.func11 (laws_eqIntS_ok hy2 (hS.keep q_0_Mem) (hS.keep q_1_Mem)) rfl rfl ?_ rfl (by kernel_rfl) rfl rfl)
      intro W hS
      refine .p rfl rfl rfl ?_
      refine .nil ?_
      refine .cond rfl (fun hb => ?_) (fun hb => ?_)
      · have h := sel_t hb h
        refine .seq ?_
        refine .region ?_
        refine .p rfl rfl rfl ?_
        refine .nil ?_
        refine .ret ?_
        cases h
        exact fin_ret (vs := [_]) () (rt rfl rn) rfl (hS.to [] rfl)
      · have h := sel_f hb h
        refine .skip ?_
        refine .seq ?_
        refine .region ?_
        refine .p rfl rfl rfl ?_
        refine .nil ?_
        refine .ret ?_
        cases h
        exact fin_ret (vs := [_]) () (rt rfl rn) rfl (hS.to [] rfl)
theorem laws_markIntS_ok {a0 : List Int} {a1 : Int} {v_0 : Hd} {S : Nat → Prop} {w : World} {r : Int × (List Int)} (h : laws_markIntS a0 a1 = some r) (hO : Owns w [rowV (sv v_0) 3 1 (D.int .i64) a0] S) (hlt : ∀ b, S b → b < w.heap.size) : Calls Try.prog 13 #[(sv v_0), .int .i64 a1] w (Ret S w (fun s : Unit => .int .i64 r.1) (fun s => [rowV (sv v_0) 3 1 (D.int .i64) r.2])) := by
  unfold laws_markIntS at h
  refine enter Try.func13 rfl rfl ?_
  have hS := Sep.startM hO hlt
  refine .seq ?_
  refine .region ?_
  refine .p rfl rfl rfl ?_
  refine .nil ?_
  refine .seq ?_
  refine .seq ?_
  refine .region ?_
  refine .p rfl rfl rfl ?_
  refine .nil ?_
  refine .block ?_
  obtain ⟨y1, hy1, h⟩ := bnd h
  refine .via (.iter (fun s1 E' W' => SubL E' [(0, (sv v_0)), (1, .int .i64 s1.1), (5, .int .i64 s1.2.1)] ∧ Sep S w W' [rowV (sv v_0) 3 1 (D.int .i64) s1.2.2]) (fun y2 x E' W' => x = .exit 0 ∧ SubL E' [(1, .int .i64 y2.1)] ∧ Sep S w W' [rowV (sv v_0) 3 1 (D.int .i64) y2.2]) hy1 ⟨sb rfl, hS.to [0] rfl⟩ ?_) ?_
  · intro s1 y3 E W h hI
    obtain ⟨hE, hS⟩ := hI
    refine CW.sub hE ?_
    unfold laws_markIntS_b1 at h
    refine .seq ?_
    refine .seq ?_
    refine .region ?_
    refine .p rfl rfl rfl ?_
    refine .p rfl rfl rfl ?_
    refine .r (lenv hS.lendv T.u22 rfl rfl) ?_ rfl rfl
    refine .p rfl rfl rfl ?_
    refine .nil ?_
    refine .cond rfl (fun hb => ?_) (fun hb => ?_)
    · have h := sel_t hb h
      refine .skip ?_
      refine .seq ?_
      refine .block ?_
      refine .seq ?_
      refine .region ?_
      refine .p rfl rfl rfl ?_
      refine .p rfl rfl rfl ?_
      refine .p rfl rfl rfl ?_
      obtain ⟨x1, hx1, h⟩ := bnd h
      refine .r (ixv hS.lendv hx1 T.u22 T.t3 rfl rfl rfl) ?_ rfl rfl
      obtain ⟨r1, hr1, h⟩ := bnd h
      refine .c (.sev hr1 hx1 hS T.t3 rfl rfl rfl rfl rfl rfl ?_ rfl rfl rfl rfl rfl rfl)
      intro W hS
      refine .nil ?_
      refine .region ?_
      refine .p rfl rfl rfl ?_
      refine .p rfl rfl rfl ?_
      refine .p rfl rfl rfl ?_
      refine .nil ?_
      refine .region ?_
      refine .p rfl rfl rfl ?_
      refine .p rfl rfl rfl ?_
      refine .p rfl rfl rfl ?_
      refine .nil ?_
      cases h
      exact ⟨rfl, sb rfl, hS.to [0] rfl⟩
    · have h := sel_f hb h
      refine .exit ?_
      cases h
      exact ⟨by simp, rfl, sb rfl, hS.to [0] rfl⟩
  · intro x E W hJ
    obtain ⟨rfl, hE, hS⟩ := hJ
    refine ⟨_, hE.sub, ?_⟩
    refine .seq ?_
    refine .region ?_
    refine .p rfl rfl rfl ?_
    refine .p rfl rfl rfl ?_
    refine .nil ?_
    refine .ret ?_
    cases h
    exact fin_ret (vs := [_]) () (rt rfl rn) rfl (hS.to [0] rfl)
theorem laws_markMachine_ok {a0 : Machine} {a1 : Int} {v_0_Regs : Hd} {v_0_Mem : Hd} {S : Nat → Prop} {w : World} {r : Int × (List Int) × (List Int)} (h : laws_markMachine a0 a1 = some r) (hO : Owns w [rowV (sv v_0_Regs) 3 1 (D.int .i64) a0.Regs, rowV (sv v_0_Mem) 3 1 (D.int .i64) a0.Mem] S) (hlt : ∀ b, S b → b < w.heap.size) : Calls Try.prog 12 #[.agg #[(sv v_0_Regs), .int .i64 a0.Pc, (sv v_0_Mem)], .int .i64 a1] w (Ret S w (fun s : Unit => .int .i64 r.1) (fun s => [rowV (sv v_0_Regs) 3 1 (D.int .i64) r.2.1, rowV (sv v_0_Mem) 3 1 (D.int .i64) r.2.2])) := by
  unfold laws_markMachine at h
  refine enter Try.func12 rfl rfl ?_
  have hS := Sep.startM hO hlt
  refine .seq ?_
  refine .region ?_
  refine .c (.box hS rfl rfl ?_ rfl rfl)
  intro g1 W hS
  refine .p rfl rfl rfl ?_
  refine .nil ?_
  refine .seq ?_
  refine .region ?_
  refine .r (fa T.f31_0 rfl rfl rfl) ?_ rfl rfl
  refine .r (ld T.t22 hS rfl rfl rfl rfl rfl) ?_ rfl rfl
  refine .p rfl rfl rfl ?_
  obtain ⟨y1, hy1, h⟩ := bnd h
  have hS := hS.p1
  refine .c (.callS2 (L0 := [rowV (sv v_0_Regs) 3 1 (D.int .i64) a0.Regs]) hS Try.func13 (fun S h1 h2 h3 => (laws_markIntS_ok hy1 h2 (fun b hb => (h1 b hb).2))) rfl rfl ?_ rfl (by kernel_rfl) rfl rfl)
  rintro ⟨⟩ W hS
  have hS : Sep _ _ W [rowV (sv v_0_Regs) 3 1 (D.int .i64) y1.2, .box g1 31 [(sv v_0_Regs), .int .i64 a0.Pc, (sv v_0_Mem)], rowV (sv v_0_Mem) 3 1 (D.int .i64) a0.Mem] := hS
  refine .p rfl rfl rfl ?_
  refine .nil ?_
  refine .seq ?_
  refine .region ?_
  refine .r (fa T.f31_2 rfl rfl rfl) ?_ rfl rfl
  refine .r (ld T.t22 hS.p1 rfl rfl rfl rfl rfl) ?_ rfl rfl
  refine .p rfl rfl rfl ?_
  obtain ⟨y2, hy2, h⟩ := bnd h
  have hS := hS.p2
  refine .c (.callS2 (L0 := [rowV (sv v_0_Mem) 3 1 (D.int .i64) a0.Mem]) hS Try.func13 (fun S h1 h2 h3 => (laws_markIntS_ok hy2 h2 (fun b hb => (h1 b hb).2))) rfl rfl ?_ rfl (by kernel_rfl) rfl rfl)
  rintro ⟨⟩ W hS
  have hS : Sep _ _ W [rowV (sv v_0_Mem) 3 1 (D.int .i64) y2.2, rowV (sv v_0_Regs) 3 1 (D.int .i64) y1.2, .box g1 31 [(sv v_0_Regs), .int .i64 a0.Pc, (sv v_0_Mem)]] := hS
  refine .p rfl rfl rfl ?_
  refine .nil ?_
  refine .seq ?_
  refine .region ?_
  refine .p rfl rfl rfl ?_
  refine .p rfl rfl rfl ?_
  refine .nil ?_
  refine .ret ?_
  cases h
  exact fin_ret (vs := [_]) () (rt rfl rn) rfl (hS.to [1, 0] rfl)
theorem laws_markIntSS_ok {a0 : List (List Int)} {a1 : Int} {v_0 : Hd} {S : Nat → Prop} {w : World} {r : Int × (List (List Int))} (h : laws_markIntSS a0 a1 = some r) (hO : Owns w [rowV (sv v_0) 22 1 (fun (l : List Int) => D.row 3 1 (l.map (D.int .i64))) a0] S) (hlt : ∀ b, S b → b < w.heap.size) : Calls Try.prog 27 #[(sv v_0), .int .i64 a1] w (Ret S w (fun s : Unit => .int .i64 r.1) (fun s => [rowV (sv v_0) 22 1 (fun (l : List Int) => D.row 3 1 (l.map (D.int .i64))) r.2])) := by
  unfold laws_markIntSS at h
  refine enter Try.func27 rfl rfl ?_
  have hS := Sep.startM hO hlt
  refine .seq ?_
  refine .region ?_
  refine .p rfl rfl rfl ?_
  refine .nil ?_
  refine .seq ?_
  refine .seq ?_
  refine .region ?_
  refine .p rfl rfl rfl ?_
  refine .nil ?_
  refine .block ?_
  obtain ⟨y1, hy1, h⟩ := bnd h
  refine .via (.iter (fun s1 E' W' => SubL E' [(0, (sv v_0)), (1, .int .i64 s1.1), (5, .int .i64 s1.2.1)] ∧ Sep S w W' [rowV (sv v_0) 22 1 (fun (l : List Int) => D.row 3 1 (l.map (D.int .i64))) s1.2.2]) (fun y2 x E' W' => x = .exit 0 ∧ SubL E' [(1, .int .i64 y2.1)] ∧ Sep S w W' [rowV (sv v_0) 22 1 (fun (l : List Int) => D.row 3 1 (l.map (D.int .i64))) y2.2]) hy1 ⟨sb rfl, hS.to [0] rfl⟩ ?_) ?_
  · intro s1 y3 E W h hI
    obtain ⟨hE, hS⟩ := hI
    refine CW.sub hE ?_
    unfold laws_markIntSS_b1 at h
    refine .seq ?_
    refine .seq ?_
    refine .region ?_
    refine .p rfl rfl rfl ?_
    refine .p rfl rfl rfl ?_
    refine .r (lenv hS.lendv T.u26 rfl rfl) ?_ rfl rfl
    refine .p rfl rfl rfl ?_
    refine .nil ?_
    refine .cond rfl (fun hb => ?_) (fun hb => ?_)
    · have h := sel_t hb h
      refine .skip ?_
      refine .seq ?_
      refine .block ?_
      refine .region ?_
      refine .p rfl rfl rfl ?_
      refine .p rfl rfl rfl ?_
      obtain ⟨x1, hx1, h⟩ := bnd h
      refine .r (ixv hS.lendv hx1 T.u26 T.t22 rfl rfl rfl) ?_ rfl rfl
      obtain ⟨k1, hS⟩ := Sep.outv hS hx1
      obtain ⟨v1, k1, rfl, hS⟩ := hS.orowv
      obtain ⟨rfl, hS⟩ := hS.onil
      have hS : Sep _ _ W [rowV (sv v1) 3 1 (D.int .i64) x1, holeV (sv v_0) 22 1 (fun (l : List Int) => D.row 3 1 (l.map (D.int .i64))) s1.2.2 (Int.toNat s1.2.1) [(sv v1)]] := hS
      refine .r (lde (hS.p1.hcellsv) T.t22 rfl rfl rfl rfl rfl) ?_ rfl rfl
      refine .p rfl rfl rfl ?_
      obtain ⟨y4, hy4, h⟩ := bnd h
      refine .c (.callS2 (L0 := [rowV (sv v1) 3 1 (D.int .i64) x1]) hS Try.func13 (fun S h1 h2 h3 => (laws_markIntS_ok hy4 h2 (fun b hb => (h1 b hb).2))) rfl rfl ?_ rfl (by kernel_rfl) rfl rfl)
      rintro ⟨⟩ W hS
      have hS : Sep _ _ W [rowV (sv v1) 3 1 (D.int .i64) y4.2, holeV (sv v_0) 22 1 (fun (l : List Int) => D.row 3 1 (l.map (D.int .i64))) s1.2.2 (Int.toNat s1.2.1) [(sv v1)]] := hS
      refine .p rfl rfl rfl ?_
      refine .nil ?_
      refine .region ?_
      refine .p rfl rfl rfl ?_
      refine .p rfl rfl rfl ?_
      refine .p rfl rfl rfl ?_
      refine .nil ?_
      have hS := Sep.gat (ds := [.row 3 1 (y4.2.map (D.int .i64))]) (cs := [(sv v1)]) (L1 := [rowV (sv v1) 3 1 (D.int .i64) y4.2]) (.row (.nil)) (hS.to [0, 0] rfl)
      have hS : Sep _ _ W [rowV (sv v_0) 22 1 (fun (l : List Int) => D.row 3 1 (l.map (D.int .i64))) (s1.2.2.set (Int.toNat s1.2.1) y4.2)] := hS.backv
      cases h
      exact ⟨rfl, sb rfl, hS.to [0] rfl⟩
    · have h := sel_f hb h
      refine .exit ?_
      cases h
      exact ⟨by simp, rfl, sb rfl, hS.to [0] rfl⟩
  · intro x E W hJ
    obtain ⟨rfl, hE, hS⟩ := hJ
    refine ⟨_, hE.sub, ?_⟩
    refine .seq ?_
    refine .region ?_
    refine .p rfl rfl rfl ?_
    refine .p rfl rfl rfl ?_
    refine .nil ?_
    refine .ret ?_
    cases h
    exact fin_ret (vs := [_]) () (rt rfl rn) rfl (hS.to [0] rfl)
theorem laws_markBoolS_ok {a0 : List Bool} {a1 : Int} {v_0 : Hd} {S : Nat → Prop} {w : World} {r : Int × (List Bool)} (h : laws_markBoolS a0 a1 = some r) (hO : Owns w [rowV (sv v_0) 4 1 D.bool a0] S) (hlt : ∀ b, S b → b < w.heap.size) : Calls Try.prog 28 #[(sv v_0), .int .i64 a1] w (Ret S w (fun s : Unit => .int .i64 r.1) (fun s => [rowV (sv v_0) 4 1 D.bool r.2])) := by
  unfold laws_markBoolS at h
  refine enter Try.func28 rfl rfl ?_
  have hS := Sep.startM hO hlt
  refine .seq ?_
  refine .region ?_
  refine .p rfl rfl rfl ?_
  refine .nil ?_
  refine .seq ?_
  refine .seq ?_
  refine .region ?_
  refine .p rfl rfl rfl ?_
  refine .nil ?_
  refine .block ?_
  obtain ⟨y1, hy1, h⟩ := bnd h
  refine .via (.iter (fun s1 E' W' => SubL E' [(0, (sv v_0)), (1, .int .i64 s1.1), (5, .int .i64 s1.2.1)] ∧ Sep S w W' [rowV (sv v_0) 4 1 D.bool s1.2.2]) (fun y2 x E' W' => x = .exit 0 ∧ SubL E' [(1, .int .i64 y2.1)] ∧ Sep S w W' [rowV (sv v_0) 4 1 D.bool y2.2]) hy1 ⟨sb rfl, hS.to [0] rfl⟩ ?_) ?_
  · intro s1 y3 E W h hI
    obtain ⟨hE, hS⟩ := hI
    refine CW.sub hE ?_
    unfold laws_markBoolS_b1 at h
    refine .seq ?_
    refine .seq ?_
    refine .region ?_
    refine .p rfl rfl rfl ?_
    refine .p rfl rfl rfl ?_
    refine .r (lenv hS.lendv T.u27 rfl rfl) ?_ rfl rfl
    refine .p rfl rfl rfl ?_
    refine .nil ?_
    refine .cond rfl (fun hb => ?_) (fun hb => ?_)
    · have h := sel_t hb h
      refine .skip ?_
      refine .seq ?_
      refine .block ?_
      refine .seq ?_
      refine .region ?_
      refine .p rfl rfl rfl ?_
      refine .p rfl rfl rfl ?_
      refine .p rfl rfl rfl ?_
      refine .p rfl rfl rfl ?_
      refine .p rfl rfl rfl ?_
      obtain ⟨x1, hx1, h⟩ := bnd h
      refine .r (ixv hS.lendv hx1 T.u27 T.t4 rfl rfl rfl) ?_ rfl rfl
      obtain ⟨r1, hr1, h⟩ := bnd h
      refine .c (.sev hr1 hx1 hS T.t4 rfl rfl rfl rfl rfl rfl ?_ rfl rfl rfl rfl rfl rfl)
      intro W hS
      refine .nil ?_
      refine .region ?_
      refine .p rfl rfl rfl ?_
      refine .p rfl rfl rfl ?_
      refine .p rfl rfl rfl ?_
      refine .nil ?_
      refine .region ?_
      refine .p rfl rfl rfl ?_
      refine .p rfl rfl rfl ?_
      refine .p rfl rfl rfl ?_
      refine .nil ?_
      cases h
      exact ⟨rfl, sb rfl, hS.to [0] rfl⟩
    · have h := sel_f hb h
      refine .exit ?_
      cases h
      exact ⟨by simp, rfl, sb rfl, hS.to [0] rfl⟩
  · intro x E W hJ
    obtain ⟨rfl, hE, hS⟩ := hJ
    refine ⟨_, hE.sub, ?_⟩
    refine .seq ?_
    refine .region ?_
    refine .p rfl rfl rfl ?_
    refine .p rfl rfl rfl ?_
    refine .nil ?_
    refine .ret ?_
    cases h
    exact fin_ret (vs := [_]) () (rt rfl rn) rfl (hS.to [0] rfl)
theorem laws_markOutcome_ok {a0 : Outcome} {a1 : Int} {v_0_Out : Hd} {v_0_Items : Hd} {v_0_Ended : Hd} {S : Nat → Prop} {w : World} {r : Int × (List Int) × (List (List Int)) × (List Bool)} (h : laws_markOutcome a0 a1 = some r) (hO : Owns w [rowV (sv v_0_Out) 3 1 (D.int .i64) a0.Out, rowV (sv v_0_Items) 22 1 (fun (l : List Int) => D.row 3 1 (l.map (D.int .i64))) a0.Items, rowV (sv v_0_Ended) 4 1 D.bool a0.Ended] S) (hlt : ∀ b, S b → b < w.heap.size) : Calls Try.prog 14 #[.agg #[(sv v_0_Out), (sv v_0_Items), (sv v_0_Ended), .bool a0.Rest], .int .i64 a1] w (Ret S w (fun s : Unit => .int .i64 r.1) (fun s => [rowV (sv v_0_Out) 3 1 (D.int .i64) r.2.1, rowV (sv v_0_Items) 22 1 (fun (l : List Int) => D.row 3 1 (l.map (D.int .i64))) r.2.2.1, rowV (sv v_0_Ended) 4 1 D.bool r.2.2.2])) := by
  unfold laws_markOutcome at h
  refine enter Try.func14 rfl rfl ?_
  have hS := Sep.startM hO hlt
  refine .seq ?_
  refine .region ?_
  refine .c (.box hS rfl rfl ?_ rfl rfl)
  intro g1 W hS
  refine .p rfl rfl rfl ?_
  refine .nil ?_
  refine .seq ?_
  refine .region ?_
  refine .r (fa T.f29_0 rfl rfl rfl) ?_ rfl rfl
  refine .r (ld T.t22 hS rfl rfl rfl rfl rfl) ?_ rfl rfl
  refine .p rfl rfl rfl ?_
  obtain ⟨y1, hy1, h⟩ := bnd h
  have hS := hS.p1
  refine .c (.callS2 (L0 := [rowV (sv v_0_Out) 3 1 (D.int .i64) a0.Out]) hS Try.func13 (fun S h1 h2 h3 => (laws_markIntS_ok hy1 h2 (fun b hb => (h1 b hb).2))) rfl rfl ?_ rfl (by kernel_rfl) rfl rfl)
  rintro ⟨⟩ W hS
  have hS : Sep _ _ W [rowV (sv v_0_Out) 3 1 (D.int .i64) y1.2, .box g1 29 [(sv v_0_Out), (sv v_0_Items), (sv v_0_Ended), .bool a0.Rest], rowV (sv v_0_Items) 22 1 (fun (l : List Int) => D.row 3 1 (l.map (D.int .i64))) a0.Items, rowV (sv v_0_Ended) 4 1 D.bool a0.Ended] := hS
  refine .p rfl rfl rfl ?_
  refine .nil ?_
  refine .seq ?_
  refine .region ?_
  refine .r (fa T.f29_1 rfl rfl rfl) ?_ rfl rfl
  refine .r (ld T.t26 hS.p1 rfl rfl rfl rfl rfl) ?_ rfl rfl
  refine .p rfl rfl rfl ?_
  obtain ⟨y2, hy2, h⟩ := bnd h
  have hS := hS.p2
  refine .c (.callS2 (L0 := [rowV (sv v_0_Items) 22 1 (fun (l : List Int) => D.row 3 1 (l.map (D.int .i64))) a0.Items]) hS Try.func27 (fun S h1 h2 h3 => (laws_markIntSS_ok hy2 h2 (fun b hb => (h1 b hb).2))) rfl rfl ?_ rfl (by kernel_rfl) rfl rfl)
  rintro ⟨⟩ W hS
  have hS : Sep _ _ W [rowV (sv v_0_Items) 22 1 (fun (l : List Int) => D.row 3 1 (l.map (D.int .i64))) y2.2, rowV (sv v_0_Out) 3 1 (D.int .i64) y1.2, .box g1 29 [(sv v_0_Out), (sv v_0_Items), (sv v_0_Ended), .bool a0.Rest], rowV (sv v_0_Ended) 4 1 D.bool a0.Ended] := hS
  refine .p rfl rfl rfl ?_
  refine .nil ?_
  refine .seq ?_
  refine .region ?_
  refine .r (fa T.f29_2 rfl rfl rfl) ?_ rfl rfl
  refine .r (ld T.t27 hS.p2 rfl rfl rfl rfl rfl) ?_ rfl rfl
  refine .p rfl rfl rfl ?_
  obtain ⟨y3, hy3, h⟩ := bnd h
  have hS := hS.p3
  refine .c (.callS2 (L0 := [rowV (sv v_0_Ended) 4 1 D.bool a0.Ended]) hS Try.func28 (fun S h1 h2 h3 => (laws_markBoolS_ok hy3 h2 (fun b hb => (h1 b hb).2))) rfl rfl ?_ rfl (by kernel_rfl) rfl rfl)
  rintro ⟨⟩ W hS
  have hS : Sep _ _ W [rowV (sv v_0_Ended) 4 1 D.bool y3.2, rowV (sv v_0_Items) 22 1 (fun (l : List Int) => D.row 3 1 (l.map (D.int .i64))) y2.2, rowV (sv v_0_Out) 3 1 (D.int .i64) y1.2, .box g1 29 [(sv v_0_Out), (sv v_0_Items), (sv v_0_Ended), .bool a0.Rest]] := hS
  refine .p rfl rfl rfl ?_
  refine .nil ?_
  refine .seq ?_
  refine .region ?_
  refine .p rfl rfl rfl ?_
  refine .p rfl rfl rfl ?_
  refine .nil ?_
  refine .ret ?_
  cases h
  exact fin_ret (vs := [_]) () (rt rfl rn) rfl (hS.to [2, 1, 0] rfl)
def laws_heldIntS_F (w : World) (r : Int) : Env → World → Prop := Fin Try.prog Try.f29 No w (fun s : Unit => .int .i64 r) (fun s => []) .ret
theorem laws_heldIntS_ok {a0 : List Int} {a1 : Int} {v_0 : Hd} {w : World} {r : Int} (h : laws_heldIntS a0 a1 = some r) (q_0 : RV w (Old No w) (sv v_0) 3 1 (D.int .i64) a0) : Calls Try.prog 29 #[(sv v_0), .int .i64 a1] w (Ret No w (fun s : Unit => .int .i64 r) (fun s => [])) := by
  unfold laws_heldIntS at h
  refine enter Try.func29 rfl rfl ?_
  have hS := Sep.start w
  refine .seq ?_
  refine .region ?_
  refine .p rfl rfl rfl ?_
  refine .nil ?_
  refine .seq ?_
  refine .seq ?_
  refine .region ?_
  refine .p rfl rfl rfl ?_
  refine .nil ?_
  refine .block ?_
  obtain ⟨y1, hy1, h⟩ := bnd h
  refine .via (.iter (fun s1 E' W' => SubL E' [(0, (sv v_0)), (1, .int .i64 s1.1), (5, .int .i64 s1.2)] ∧ Sep No w W' []) (fun y2 x E' W' => (match y2 with | .inl o1 => x = .ret ∧ laws_heldIntS_F w o1 E' W' | .inr o2 => x = .exit 0 ∧ SubL E' [(1, .int .i64 o2)] ∧ Sep No w W' [])) hy1 ⟨sb rfl, hS.to [] rfl⟩ ?_) ?_
  · intro s1 y3 E W h hI
    obtain ⟨hE, hS⟩ := hI
    refine CW.sub hE ?_
    unfold laws_heldIntS_b1 at h
    refine .seq ?_
    refine .seq ?_
    refine .region ?_
    refine .p rfl rfl rfl ?_
    refine .p rfl rfl rfl ?_
    refine .r (lenv (hS.keep q_0) T.u22 rfl rfl) ?_ rfl rfl
    refine .p rfl rfl rfl ?_
    refine .nil ?_
    refine .cond rfl (fun hb => ?_) (fun hb => ?_)
    · have h := sel_t hb h
      refine .skip ?_
      refine .seq ?_
      refine .block ?_
      refine .seq ?_
      refine .seq ?_
      refine .region ?_
      refine .p rfl rfl rfl ?_
      refine .p rfl rfl rfl ?_
      obtain ⟨x1, hx1, h⟩ := bnd h
      refine .r (ixv (hS.keep q_0) hx1 T.u22 T.t3 rfl rfl rfl) ?_ rfl rfl
      refine .r (lde (RV.flat (hS.keep q_0) hx1 rfl) T.t3 rfl rfl rfl rfl rfl) ?_ rfl rfl
      refine .p rfl rfl rfl ?_
      refine .p rfl rfl rfl ?_
      refine .nil ?_
      refine .cond rfl (fun hb => ?_) (fun hb => ?_)
      · have h := sel_t hb h
        refine .seq ?_
        refine .region ?_
        refine .p rfl rfl rfl ?_
        refine .nil ?_
        refine .ret ?_
        cases h
        exact ⟨by simp, rfl, fin_ret (vs := [_]) () (rt rfl rn) rfl (hS.to [] rfl)⟩
      · have h := sel_f hb h
        refine .skip ?_
        refine .region ?_
        refine .p rfl rfl rfl ?_
        refine .p rfl rfl rfl ?_
        refine .p rfl rfl rfl ?_
        refine .nil ?_
        refine .region ?_
        refine .p rfl rfl rfl ?_
        refine .p rfl rfl rfl ?_
        refine .p rfl rfl rfl ?_
        refine .nil ?_
        cases h
        exact ⟨rfl, sb rfl, hS.to [] rfl⟩
    · have h := sel_f hb h
      refine .exit ?_
      cases h
      exact ⟨by simp, rfl, sb rfl, hS.to [] rfl⟩
  · intro x E W hJ
    rcases y1 with o3 | o4
    · skip
      obtain ⟨rfl, hF⟩ := hJ
      refine ⟨_, fun _ _ h => h, ?_⟩
      cases h
      exact hF
    · skip
      obtain ⟨rfl, hE, hS⟩ := hJ
      refine ⟨_, hE.sub, ?_⟩
      refine .seq ?_
      refine .region ?_
      refine .p rfl rfl rfl ?_
      refine .p rfl rfl rfl ?_
      refine .nil ?_
      refine .ret ?_
      cases h
      exact fin_ret (vs := [_]) () (rt rfl rn) rfl (hS.to [] rfl)
def laws_heldIntSS_F (w : World) (r : Int) : Env → World → Prop := Fin Try.prog Try.f30 No w (fun s : Unit => .int .i64 r) (fun s => []) .ret
theorem laws_heldIntSS_ok {a0 : List (List Int)} {a1 : Int} {v_0 : Hd} {w : World} {r : Int} (h : laws_heldIntSS a0 a1 = some r) (q_0 : RV w (Old No w) (sv v_0) 22 1 (fun (l : List Int) => D.row 3 1 (l.map (D.int .i64))) a0) : Calls Try.prog 30 #[(sv v_0), .int .i64 a1] w (Ret No w (fun s : Unit => .int .i64 r) (fun s => [])) := by
  unfold laws_heldIntSS at h
  refine enter Try.func30 rfl rfl ?_
  have hS := Sep.start w
  refine .seq ?_
  refine .region ?_
  refine .p rfl rfl rfl ?_
  refine .nil ?_
  refine .seq ?_
  refine .seq ?_
  refine .region ?_
  refine .p rfl rfl rfl ?_
  refine .nil ?_
  refine .block ?_
  obtain ⟨y1, hy1, h⟩ := bnd h
  refine .via (.iter (fun s1 E' W' => SubL E' [(0, (sv v_0)), (1, .int .i64 s1.1), (5, .int .i64 s1.2)] ∧ Sep No w W' []) (fun y2 x E' W' => (match y2 with | .inl o1 => x = .ret ∧ laws_heldIntSS_F w o1 E' W' | .inr o2 => x = .exit 0 ∧ SubL E' [(1, .int .i64 o2)] ∧ Sep No w W' [])) hy1 ⟨sb rfl, hS.to [] rfl⟩ ?_) ?_
  · intro s1 y3 E W h hI
    obtain ⟨hE, hS⟩ := hI
    refine CW.sub hE ?_
    unfold laws_heldIntSS_b1 at h
    refine .seq ?_
    refine .seq ?_
    refine .region ?_
    refine .p rfl rfl rfl ?_
    refine .p rfl rfl rfl ?_
    refine .r (lenv (hS.keep q_0) T.u26 rfl rfl) ?_ rfl rfl
    refine .p rfl rfl rfl ?_
    refine .nil ?_
    refine .cond rfl (fun hb => ?_) (fun hb => ?_)
    · have h := sel_t hb h
      refine .skip ?_
      refine .seq ?_
      refine .block ?_
      refine .seq ?_
      refine .region ?_
      refine .p rfl rfl rfl ?_
      refine .p rfl rfl rfl ?_
      obtain ⟨x1, hx1, h⟩ := bnd h
      obtain ⟨k1, hd, hck1⟩ := RV.el2 q_0 hx1
      obtain ⟨v1, k1, rfl, q1, hd⟩ := rrowv q_0 hd
      obtain rfl := rnil q_0 hd
      refine .r (ixv (hS.keep q_0) hx1 T.u26 T.t22 rfl rfl rfl) ?_ rfl rfl
      refine .r (lde (hck1 _ hS.agree) T.t22 rfl rfl rfl rfl rfl) ?_ rfl rfl
      refine .p rfl rfl rfl ?_
      obtain ⟨y4, hy4, h⟩ := bnd h
      refine .c (.call0 hS Try.func29 (laws_heldIntS_ok hy4 (hS.keep (q1 _ q_0))) rfl rfl ?_ rfl (by kernel_rfl) rfl rfl)
      intro W hS
      refine .p rfl rfl rfl ?_
      refine .nil ?_
      refine .seq ?_
      refine .region ?_
      refine .p rfl rfl rfl ?_
      refine .p rfl rfl rfl ?_
      refine .nil ?_
      refine .cond rfl (fun hb => ?_) (fun hb => ?_)
      · have h := sel_t hb h
        refine .seq ?_
        refine .region ?_
        refine .p rfl rfl rfl ?_
        refine .nil ?_
        refine .ret ?_
        cases h
        exact ⟨by simp, rfl, fin_ret (vs := [_]) () (rt rfl rn) rfl (hS.to [] rfl)⟩
      · have h := sel_f hb h
        refine .skip ?_
        refine .region ?_
        refine .p rfl rfl rfl ?_
        refine .p rfl rfl rfl ?_
        refine .p rfl rfl rfl ?_
        refine .nil ?_
        cases h
        exact ⟨rfl, sb rfl, hS.to [] rfl⟩
    · have h := sel_f hb h
      refine .exit ?_
      cases h
      exact ⟨by simp, rfl, sb rfl, hS.to [] rfl⟩
  · intro x E W hJ
    rcases y1 with o3 | o4
    · skip
      obtain ⟨rfl, hF⟩ := hJ
      refine ⟨_, fun _ _ h => h, ?_⟩
      cases h
      exact hF
    · skip
      obtain ⟨rfl, hE, hS⟩ := hJ
      refine ⟨_, hE.sub, ?_⟩
      refine .seq ?_
      refine .region ?_
      refine .p rfl rfl rfl ?_
      refine .p rfl rfl rfl ?_
      refine .nil ?_
      refine .ret ?_
      cases h
      exact fin_ret (vs := [_]) () (rt rfl rn) rfl (hS.to [] rfl)
def laws_heldBoolS_F (w : World) (r : Int) : Env → World → Prop := Fin Try.prog Try.f31 No w (fun s : Unit => .int .i64 r) (fun s => []) .ret
theorem laws_heldBoolS_ok {a0 : List Bool} {a1 : Int} {v_0 : Hd} {w : World} {r : Int} (h : laws_heldBoolS a0 a1 = some r) (q_0 : RV w (Old No w) (sv v_0) 4 1 D.bool a0) : Calls Try.prog 31 #[(sv v_0), .int .i64 a1] w (Ret No w (fun s : Unit => .int .i64 r) (fun s => [])) := by
  unfold laws_heldBoolS at h
  refine enter Try.func31 rfl rfl ?_
  have hS := Sep.start w
  refine .seq ?_
  refine .region ?_
  refine .p rfl rfl rfl ?_
  refine .nil ?_
  refine .seq ?_
  refine .seq ?_
  refine .region ?_
  refine .p rfl rfl rfl ?_
  refine .nil ?_
  refine .block ?_
  obtain ⟨y1, hy1, h⟩ := bnd h
  refine .via (.iter (fun s1 E' W' => SubL E' [(0, (sv v_0)), (1, .int .i64 s1.1), (5, .int .i64 s1.2)] ∧ Sep No w W' []) (fun y2 x E' W' => (match y2 with | .inl o1 => x = .ret ∧ laws_heldBoolS_F w o1 E' W' | .inr o2 => x = .exit 0 ∧ SubL E' [(1, .int .i64 o2)] ∧ Sep No w W' [])) hy1 ⟨sb rfl, hS.to [] rfl⟩ ?_) ?_
  · intro s1 y3 E W h hI
    obtain ⟨hE, hS⟩ := hI
    refine CW.sub hE ?_
    unfold laws_heldBoolS_b1 at h
    refine .seq ?_
    refine .seq ?_
    refine .region ?_
    refine .p rfl rfl rfl ?_
    refine .p rfl rfl rfl ?_
    refine .r (lenv (hS.keep q_0) T.u27 rfl rfl) ?_ rfl rfl
    refine .p rfl rfl rfl ?_
    refine .nil ?_
    refine .cond rfl (fun hb => ?_) (fun hb => ?_)
    · have h := sel_t hb h
      refine .skip ?_
      refine .seq ?_
      refine .block ?_
      refine .seq ?_
      refine .seq ?_
      refine .region ?_
      refine .p rfl rfl rfl ?_
      refine .p rfl rfl rfl ?_
      obtain ⟨x1, hx1, h⟩ := bnd h
      refine .r (ixv (hS.keep q_0) hx1 T.u27 T.t4 rfl rfl rfl) ?_ rfl rfl
      refine .r (lde (RV.flat (hS.keep q_0) hx1 rfl) T.t4 rfl rfl rfl rfl rfl) ?_ rfl rfl
      refine .p rfl rfl rfl ?_
      refine .p rfl rfl rfl ?_
      refine .p rfl rfl rfl ?_
      refine .r (neb T.u4 rfl rfl rfl) ?_ rfl rfl
      refine .nil ?_
      refine .cond rfl (fun hb => ?_) (fun hb => ?_)
      · have h := sel_t hb h
        refine .seq ?_
        refine .region ?_
        refine .p rfl rfl rfl ?_
        refine .nil ?_
        refine .ret ?_
        cases h
        exact ⟨by simp, rfl, fin_ret (vs := [_]) () (rt rfl rn) rfl (hS.to [] rfl)⟩
      · have h := sel_f hb h
        refine .skip ?_
        refine .region ?_
        refine .p rfl rfl rfl ?_
        refine .p rfl rfl rfl ?_
        refine .p rfl rfl rfl ?_
        refine .nil ?_
        refine .region ?_
        refine .p rfl rfl rfl ?_
        refine .p rfl rfl rfl ?_
        refine .p rfl rfl rfl ?_
        refine .nil ?_
        cases h
        exact ⟨rfl, sb rfl, hS.to [] rfl⟩
    · have h := sel_f hb h
      refine .exit ?_
      cases h
      exact ⟨by simp, rfl, sb rfl, hS.to [] rfl⟩
  · intro x E W hJ
    rcases y1 with o3 | o4
    · skip
      obtain ⟨rfl, hF⟩ := hJ
      refine ⟨_, fun _ _ h => h, ?_⟩
      cases h
      exact hF
    · skip
      obtain ⟨rfl, hE, hS⟩ := hJ
      refine ⟨_, hE.sub, ?_⟩
      refine .seq ?_
      refine .region ?_
      refine .p rfl rfl rfl ?_
      refine .p rfl rfl rfl ?_
      refine .nil ?_
      refine .ret ?_
      cases h
      exact fin_ret (vs := [_]) () (rt rfl rn) rfl (hS.to [] rfl)
theorem laws_heldOutcome_ok {a0 : Outcome} {a1 : Int} {v_0_Out : Hd} {v_0_Items : Hd} {v_0_Ended : Hd} {w : World} {r : Int} (h : laws_heldOutcome a0 a1 = some r) (q_0_Out : RV w (Old No w) (sv v_0_Out) 3 1 (D.int .i64) a0.Out) (q_0_Items : RV w (Old No w) (sv v_0_Items) 22 1 (fun (l : List Int) => D.row 3 1 (l.map (D.int .i64))) a0.Items) (q_0_Ended : RV w (Old No w) (sv v_0_Ended) 4 1 D.bool a0.Ended) : Calls Try.prog 15 #[.agg #[(sv v_0_Out), (sv v_0_Items), (sv v_0_Ended), .bool a0.Rest], .int .i64 a1] w (Ret No w (fun s : Unit => .int .i64 r) (fun s => [])) := by
  unfold laws_heldOutcome at h
  refine enter Try.func15 rfl rfl ?_
  have hS := Sep.start w
  refine .seq ?_
  refine .region ?_
  refine .c (.box hS rfl rfl ?_ rfl rfl)
  intro g1 W hS
  refine .p rfl rfl rfl ?_
  refine .nil ?_
  refine .seq ?_
  refine .region ?_
  refine .r (fa T.f29_0 rfl rfl rfl) ?_ rfl rfl
  refine .r (ld T.t22 hS rfl rfl rfl rfl rfl) ?_ rfl rfl
  refine .p rfl rfl rfl ?_
  obtain ⟨y1, hy1, h⟩ := bnd h
  refine .c (.call0 hS Try.func29 (laws_heldIntS_ok hy1 (hS.keep q_0_Out)) rfl rfl ?_ rfl (by kernel_rfl) rfl rfl)
  intro W hS
  refine .p rfl rfl rfl ?_
  refine .nil ?_
  refine .seq ?_
  refine .seq ?_
  refine .region ?_
  refine .p rfl rfl rfl ?_
  refine .p rfl rfl rfl ?_
  refine .nil ?_
  refine .cond rfl (fun hb => ?_) (fun hb => ?_)
  · have h := sel_t hb h
    refine .seq ?_
    refine .region ?_
    refine .p rfl rfl rfl ?_
    refine .nil ?_
    refine .ret ?_
    cases h
    exact fin_ret (vs := [_]) () (rt rfl rn) rfl (hS.to [] rfl)
  · have h := sel_f hb h
    refine .skip ?_
    refine .seq ?_
    refine .region ?_
    refine .r (fa T.f29_1 rfl rfl rfl) ?_ rfl rfl
    refine .r (ld T.t26 hS rfl rfl rfl rfl rfl) ?_ rfl rfl
    refine .p rfl rfl rfl ?_
    obtain ⟨y2, hy2, h⟩ := bnd h
    refine .c (.call0 hS Try.func30 (laws_heldIntSS_ok hy2 (hS.keep q_0_Items)) rfl rfl ?_ rfl (by kernel_rfl) rfl rfl)
    intro W hS
    refine .p rfl rfl rfl ?_
    refine .nil ?_
    refine .seq ?_
    refine .seq ?_
    refine .region ?_
    refine .p rfl rfl rfl ?_
    refine .p rfl rfl rfl ?_
    refine .nil ?_
    refine .cond rfl (fun hb => ?_) (fun hb => ?_)
    · have h := sel_t hb h
      refine .seq ?_
      refine .region ?_
      refine .p rfl rfl rfl ?_
      refine .nil ?_
      refine .ret ?_
      cases h
      exact fin_ret (vs := [_]) () (rt rfl rn) rfl (hS.to [] rfl)
    · have h := sel_f hb h
      refine .skip ?_
      refine .seq ?_
      refine .region ?_
      refine .r (fa T.f29_2 rfl rfl rfl) ?_ rfl rfl
      refine .r (ld T.t27 hS rfl rfl rfl rfl rfl) ?_ rfl rfl
      refine .p rfl rfl rfl ?_
      obtain ⟨y3, hy3, h⟩ := bnd h
      refine .c (.call0 hS Try.func31 (laws_heldBoolS_ok hy3 (hS.keep q_0_Ended)) rfl rfl ?_ rfl (by kernel_rfl) rfl rfl)
      intro W hS
      refine .p rfl rfl rfl ?_
      refine .nil ?_
      refine .seq ?_
      refine .seq ?_
      refine .region ?_
      refine .p rfl rfl rfl ?_
      refine .p rfl rfl rfl ?_
      refine .nil ?_
      refine .cond rfl (fun hb => ?_) (fun hb => ?_)
      · have h := sel_t hb h
        refine .seq ?_
        refine .region ?_
        refine .p rfl rfl rfl ?_
        refine .nil ?_
        refine .ret ?_
        cases h
        exact fin_ret (vs := [_]) () (rt rfl rn) rfl (hS.to [] rfl)
      · have h := sel_f hb h
        refine .skip ?_
        refine .seq ?_
        refine .region ?_
        refine .p rfl rfl rfl ?_
        refine .p rfl rfl rfl ?_
        refine .nil ?_
        refine .ret ?_
        cases h
        exact fin_ret (vs := [_]) () (rt rfl rn) rfl (hS.to [] rfl)
theorem laws_FnExactImageOutcome_ok {a0 : Machine} {a1 : Int} {a2 : List Int} {v_0_Regs : Hd} {v_0_Mem : Hd} {v_2 : Hd} {w : World} {r : Bool} (h : laws_FnExactImageOutcome a0 a1 a2 = some r) (q_0_Regs : RV w (Old No w) (sv v_0_Regs) 3 1 (D.int .i64) a0.Regs) (q_0_Mem : RV w (Old No w) (sv v_0_Mem) 3 1 (D.int .i64) a0.Mem) (q_2 : RV w (Old No w) (sv v_2) 3 1 (D.int .i64) a2) : Calls Try.prog 3 #[.agg #[(sv v_0_Regs), .int .i64 a0.Pc, (sv v_0_Mem)], .int .i64 a1, (sv v_2)] w (Ret No w (fun s : Unit => .bool r) (fun s => [])) := by
  unfold laws_FnExactImageOutcome at h
  refine enter Try.func3 rfl rfl ?_
  have hS := Sep.start w
  refine .seq ?_
  refine .region ?_
  refine .c (.box hS rfl rfl ?_ rfl rfl)
  intro g1 W hS
  refine .p rfl rfl rfl ?_
  refine .nil ?_
  refine .seq ?_
  refine .seq ?_
  refine .region ?_
  refine .p rfl rfl rfl ?_
  refine .r (lenv (hS.keep q_2) T.u22 rfl rfl) ?_ rfl rfl
  refine .p rfl rfl rfl ?_
  refine .nil ?_
  refine .cond rfl (fun hb => ?_) (fun hb => ?_)
  · have h := sel_t hb h
    refine .seq ?_
    refine .region ?_
    refine .p rfl rfl rfl ?_
    refine .nil ?_
    refine .ret ?_
    cases h
    exact fin_ret (vs := [_]) () (rt rfl rn) rfl (hS.to [] rfl)
  · have h := sel_f hb h
    refine .skip ?_
    refine .seq ?_
    refine .region ?_
    refine .p rfl rfl rfl ?_
    refine .nil ?_
    refine .seq ?_
    refine .region ?_
    refine .r (ld T.t24 hS rfl rfl rfl rfl rfl) ?_ rfl rfl
    refine .p rfl rfl rfl ?_
    obtain ⟨y1, hy1, h⟩ := bnd h
    refine .c (.call0 hS Try.func4 (laws_szMachine_ok hy1 (hS.keep q_0_Regs) (hS.keep q_0_Mem)) rfl rfl ?_ rfl (by kernel_rfl) rfl rfl)
    intro W hS
    refine .p rfl rfl rfl ?_
    refine .nil ?_
    refine .seq ?_
    refine .seq ?_
    refine .region ?_
    refine .p rfl rfl rfl ?_
    refine .p rfl rfl rfl ?_
    refine .nil ?_
    refine .cond rfl (fun hb => ?_) (fun hb => ?_)
    · have h := sel_t hb h
      refine .seq ?_
      refine .region ?_
      refine .p rfl rfl rfl ?_
      refine .nil ?_
      refine .ret ?_
      cases h
      exact fin_ret (vs := [_]) () (rt rfl rn) rfl (hS.to [] rfl)
    · have h := sel_f hb h
      refine .skip ?_
      refine .seq ?_
      refine .region ?_
      refine .r (ld T.t24 hS rfl rfl rfl rfl rfl) ?_ rfl rfl
      obtain ⟨y2, hy2, h⟩ := bnd h
      refine .c (.call hS Try.func6 (laws_toMachine_ok hy2 (hS.keep q_0_Regs) (hS.keep q_0_Mem)) rfl rfl ?_ rfl (by kernel_rfl) rfl rfl)
      rintro ⟨v1, v2⟩ W hS
      have hS : Sep _ _ W [rowV (sv v1) 3 1 (D.int .i64) y2.Regs, rowV (sv v2) 3 1 (D.int .i64) y2.Mem, .box g1 24 [(sv v_0_Regs), .int .i64 a0.Pc, (sv v_0_Mem)]] := hS
      refine .p rfl rfl rfl ?_
      refine .p rfl rfl rfl ?_
      obtain ⟨y3, hy3, h⟩ := bnd h
      refine .c (.call1v hS Try.func7 (laws_toIntS_ok hy3 (hS.keep q_2)) rfl rfl ?_ rfl (by kernel_rfl) rfl rfl)
      intro v3 W hS
      obtain ⟨y4, hy4, h⟩ := bnd h
      refine .c (.call hS Try.func5 (spec_ImageOutcome_ok hy4 hS.p1.lendv hS.p2.lendv hS.lendv) rfl rfl ?_ rfl (by kernel_rfl) rfl rfl)
      rintro ⟨v4, v5, v6⟩ W hS
      have hS : Sep _ _ W [rowV (sv v4) 3 1 (D.int .i64) y4.Out, rowV (sv v5) 22 1 (fun (l : List Int) => D.row 3 1 (l.map (D.int .i64))) y4.Items, rowV (sv v6) 4 1 D.bool y4.Ended, rowV (sv v3) 3 1 (D.int .i64) y3, rowV (sv v1) 3 1 (D.int .i64) y2.Regs, rowV (sv v2) 3 1 (D.int .i64) y2.Mem, .box g1 24 [(sv v_0_Regs), .int .i64 a0.Pc, (sv v_0_Mem)]] := hS
      refine .c (.alloc T.t29 hS ?_ rfl rfl rfl)
      intro g2 W hS
      refine .c (.st T.t29 hS rfl rfl rfl ?_ rfl rfl rfl rfl rfl)
      intro W hS
      refine .nil ?_
      refine .seq ?_
      refine .region ?_
      refine .r (ld T.t24 hS.p7 rfl rfl rfl rfl rfl) ?_ rfl rfl
      obtain ⟨y5, hy5, h⟩ := bnd h
      refine .c (.call hS Try.func6 (laws_toMachine_ok hy5 (hS.keep q_0_Regs) (hS.keep q_0_Mem)) rfl rfl ?_ rfl (by kernel_rfl) rfl rfl)
      rintro ⟨v7, v8⟩ W hS
      have hS : Sep _ _ W [rowV (sv v7) 3 1 (D.int .i64) y5.Regs, rowV (sv v8) 3 1 (D.int .i64) y5.Mem, .box g2 29 [(sv v4), (sv v5), (sv v6), .bool y4.Rest], rowV (sv v4) 3 1 (D.int .i64) y4.Out, rowV (sv v5) 22 1 (fun (l : List Int) => D.row 3 1 (l.map (D.int .i64))) y4.Items, rowV (sv v6) 4 1 D.bool y4.Ended, rowV (sv v3) 3 1 (D.int .i64) y3, rowV (sv v1) 3 1 (D.int .i64) y2.Regs, rowV (sv v2) 3 1 (D.int .i64) y2.Mem, .box g1 24 [(sv v_0_Regs), .int .i64 a0.Pc, (sv v_0_Mem)]] := hS
      refine .c (.alloc T.t31 hS ?_ rfl rfl rfl)
      intro g3 W hS
      refine .c (.st T.t31 hS rfl rfl rfl ?_ rfl rfl rfl rfl rfl)
      intro W hS
      refine .nil ?_
      refine .seq ?_
      refine .region ?_
      refine .p rfl rfl rfl ?_
      obtain ⟨y6, hy6, h⟩ := bnd h
      refine .c (.call1v hS Try.func7 (laws_toIntS_ok hy6 (hS.keep q_2)) rfl rfl ?_ rfl (by kernel_rfl) rfl rfl)
      intro v9 W hS
      refine .p rfl rfl rfl ?_
      refine .nil ?_
      refine .seq ?_
      refine .region ?_
      refine .r (ld T.t31 hS.p1 rfl rfl rfl rfl rfl) ?_ rfl rfl
      refine .p rfl rfl rfl ?_
      refine .p rfl rfl rfl ?_
      obtain ⟨y7, hy7, h⟩ := bnd h
      refine .c (.call hS Try.func8 (impl_ImageOutcome_ok hy7 hS.p2.lendv hS.p3.lendv hS.lendv) rfl rfl ?_ rfl (by kernel_rfl) rfl rfl)
      rintro ⟨v10, v11, v12⟩ W hS
      have hS : Sep _ _ W [rowV (sv v10) 3 1 (D.int .i64) y7.Out, rowV (sv v11) 22 1 (fun (l : List Int) => D.row 3 1 (l.map (D.int .i64))) y7.Items, rowV (sv v12) 4 1 D.bool y7.Ended, rowV (sv v9) 3 1 (D.int .i64) y6, .box g3 31 [(sv v7), .int .i64 y5.Pc, (sv v8)], rowV (sv v7) 3 1 (D.int .i64) y5.Regs, rowV (sv v8) 3 1 (D.int .i64) y5.Mem, .box g2 29 [(sv v4), (sv v5), (sv v6), .bool y4.Rest], rowV (sv v4) 3 1 (D.int .i64) y4.Out, rowV (sv v5) 22 1 (fun (l : List Int) => D.row 3 1 (l.map (D.int .i64))) y4.Items, rowV (sv v6) 4 1 D.bool y4.Ended, rowV (sv v3) 3 1 (D.int .i64) y3, rowV (sv v1) 3 1 (D.int .i64) y2.Regs, rowV (sv v2) 3 1 (D.int .i64) y2.Mem, .box g1 24 [(sv v_0_Regs), .int .i64 a0.Pc, (sv v_0_Mem)]] := hS
      refine .c (.alloc T.t29 hS ?_ rfl rfl rfl)
      intro g4 W hS
      refine .c (.st T.t29 hS rfl rfl rfl ?_ rfl rfl rfl rfl rfl)
      intro W hS
      refine .nil ?_
      refine .seq ?_
      refine .seq ?_
      refine .region ?_
      refine .r (ld T.t29 hS rfl rfl rfl rfl rfl) ?_ rfl rfl
      refine .r (ld T.t29 hS.p8 rfl rfl rfl rfl rfl) ?_ rfl rfl
      obtain ⟨y8, hy8, h⟩ := bnd h
      refine .c (.call0 hS Try.func9 (laws_eqOutcome_ok hy8 hS.p1.lendv hS.p2.lendv hS.p3.lendv hS.p9.lendv hS.p10.lendv hS.p11.lendv) rfl rfl ?_ rfl (by kernel_rfl) rfl rfl)
      intro W hS
      refine .p rfl rfl rfl ?_
      refine .nil ?_
      refine .cond rfl (fun hb => ?_) (fun hb => ?_)
      · have h := sel_t hb h
        refine .seq ?_
        refine .region ?_
        refine .p rfl rfl rfl ?_
        refine .nil ?_
        refine .ret ?_
        cases h
        exact fin_ret (vs := [_]) () (rt rfl rn) rfl (hS.to [] rfl)
      · have h := sel_f hb h
        refine .skip ?_
        refine .seq ?_
        refine .seq ?_
        refine .rk 5 hS [0, 0, 0, 0, 0, 0, 0, 0, 0, 0, 0, 0, 0, 0, 0, 0] T.mix ?_
        intro W hS
        have hT : Sep _ _ W [.box g4 29 [(sv v10), (sv v11), (sv v12), .bool y7.Rest], rowV (sv v10) 3 1 (D.int .i64) y7.Out, rowV (sv v11) 22 1 (fun (l : List Int) => D.row 3 1 (l.map (D.int .i64))) y7.Items, rowV (sv v12) 4 1 D.bool y7.Ended, rowV (sv v9) 3 1 (D.int .i64) y6, .box g3 31 [(sv v7), .int .i64 y5.Pc, (sv v8)], rowV (sv v7) 3 1 (D.int .i64) y5.Regs, rowV (sv v8) 3 1 (D.int .i64) y5.Mem, .box g2 29 [(sv v4), (sv v5), (sv v6), .bool y4.Rest], rowV (sv v4) 3 1 (D.int .i64) y4.Out, rowV (sv v5) 22 1 (fun (l : List Int) => D.row 3 1 (l.map (D.int .i64))) y4.Items, rowV (sv v6) 4 1 D.bool y4.Ended, rowV (sv v3) 3 1 (D.int .i64) y3, rowV (sv v1) 3 1 (D.int .i64) y2.Regs, rowV (sv v2) 3 1 (D.int .i64) y2.Mem, .box g1 24 [(sv v_0_Regs), .int .i64 a0.Pc, (sv v_0_Mem)]] := hS.to [0, 0, 0, 0, 0, 0, 0, 0, 0, 0, 0, 0, 0, 0, 0, 0] rfl
        refine .t1 0 rfl (fun W hT => ld T.t31 hT.p5 rfl rfl rfl rfl rfl) hT ?_ (by kernel_rfl) rfl rfl
        refine .t1 1 rfl (fun W hT => ld T.t24 (hT.pull (i := 15) rfl) rfl rfl rfl rfl rfl) hT ?_ (by kernel_rfl) rfl rfl
        obtain ⟨y9, hy9, h⟩ := bnd h
        refine .by1 2 rfl (.call hS Try.func6 (laws_toMachine_ok hy9 (hS.keep q_0_Regs) (hS.keep q_0_Mem)) rfl rfl ?_ rfl (by kernel_rfl) rfl rfl) (by kernel_rfl)
        rintro ⟨v13, v14⟩ W hS
        have hS : Sep _ _ W [rowV (sv v13) 3 1 (D.int .i64) y9.Regs, rowV (sv v14) 3 1 (D.int .i64) y9.Mem, .box g4 29 [(sv v10), (sv v11), (sv v12), .bool y7.Rest], rowV (sv v10) 3 1 (D.int .i64) y7.Out, rowV (sv v11) 22 1 (fun (l : List Int) => D.row 3 1 (l.map (D.int .i64))) y7.Items, rowV (sv v12) 4 1 D.bool y7.Ended, rowV (sv v9) 3 1 (D.int .i64) y6, .box g3 31 [(sv v7), .int .i64 y5.Pc, (sv v8)], rowV (sv v7) 3 1 (D.int .i64) y5.Regs, rowV (sv v8) 3 1 (D.int .i64) y5.Mem, .box g2 29 [(sv v4), (sv v5), (sv v6), .bool y4.Rest], rowV (sv v4) 3 1 (D.int .i64) y4.Out, rowV (sv v5) 22 1 (fun (l : List Int) => D.row 3 1 (l.map (D.int .i64))) y4.Items, rowV (sv v6) 4 1 D.bool y4.Ended, rowV (sv v3) 3 1 (D.int .i64) y3, rowV (sv v1) 3 1 (D.int .i64) y2.Regs, rowV (sv v2) 3 1 (D.int .i64) y2.Mem, .box g1 24 [(sv v_0_Regs), .int .i64 a0.Pc, (sv v_0_Mem)]] := hS
        have hT : Sep _ _ W [.box g4 29 [(sv v10), (sv v11), (sv v12), .bool y7.Rest], rowV (sv v10) 3 1 (D.int .i64) y7.Out, rowV (sv v11) 22 1 (fun (l : List Int) => D.row 3 1 (l.map (D.int .i64))) y7.Items, rowV (sv v12) 4 1 D.bool y7.Ended, rowV (sv v9) 3 1 (D.int .i64) y6, .box g3 31 [(sv v7), .int .i64 y5.Pc, (sv v8)], rowV (sv v7) 3 1 (D.int .i64) y5.Regs, rowV (sv v8) 3 1 (D.int .i64) y5.Mem, .box g2 29 [(sv v4), (sv v5), (sv v6), .bool y4.Rest], rowV (sv v4) 3 1 (D.int .i64) y4.Out, rowV (sv v5) 22 1 (fun (l : List Int) => D.row 3 1 (l.map (D.int .i64))) y4.Items, rowV (sv v6) 4 1 D.bool y4.Ended, rowV (sv v3) 3 1 (D.int .i64) y3, rowV (sv v1) 3 1 (D.int .i64) y2.Regs, rowV (sv v2) 3 1 (D.int .i64) y2.Mem, .box g1 24 [(sv v_0_Regs), .int .i64 a0.Pc, (sv v_0_Mem)]] := hS.to [2, 2, 2, 2, 2, 2, 2, 2, 2, 2, 2, 2, 2, 2, 2, 2] rfl
        refine ⟨fun _ => hT, ?_⟩
        obtain ⟨y10, hy10, h⟩ := bnd h
        refine .by1 3 rfl (.call0 hS Try.func10 (laws_eqMachine_ok hy10 hS.p8.lendv hS.p9.lendv hS.lendv hS.p1.lendv) rfl rfl ?_ rfl (by kernel_rfl) rfl rfl) (by kernel_rfl)
        intro W hS
        have hT : Sep _ _ W [.box g4 29 [(sv v10), (sv v11), (sv v12), .bool y7.Rest], rowV (sv v10) 3 1 (D.int .i64) y7.Out, rowV (sv v11) 22 1 (fun (l : List Int) => D.row 3 1 (l.map (D.int .i64))) y7.Items, rowV (sv v12) 4 1 D.bool y7.Ended, rowV (sv v9) 3 1 (D.int .i64) y6, .box g3 31 [(sv v7), .int .i64 y5.Pc, (sv v8)], rowV (sv v7) 3 1 (D.int .i64) y5.Regs, rowV (sv v8) 3 1 (D.int .i64) y5.Mem, .box g2 29 [(sv v4), (sv v5), (sv v6), .bool y4.Rest], rowV (sv v4) 3 1 (D.int .i64) y4.Out, rowV (sv v5) 22 1 (fun (l : List Int) => D.row 3 1 (l.map (D.int .i64))) y4.Items, rowV (sv v6) 4 1 D.bool y4.Ended, rowV (sv v3) 3 1 (D.int .i64) y3, rowV (sv v1) 3 1 (D.int .i64) y2.Regs, rowV (sv v2) 3 1 (D.int .i64) y2.Mem, .box g1 24 [(sv v_0_Regs), .int .i64 a0.Pc, (sv v_0_Mem)]] := hS.to [2, 2, 2, 2, 2, 2, 2, 2, 2, 2, 2, 2, 2, 2, 2, 2] rfl
        refine ⟨fun _ => hT, ?_⟩
        refine .t1 4 rfl (fun W hT => pr rfl) hT ?_ (by kernel_rfl) rfl rfl
        refine .done ?_ (by kernel_rfl)
        refine .cond rfl (fun hb => ?_) (fun hb => ?_)
        · have h := sel_t hb h
          refine .seq ?_
          refine .region ?_
          refine .p rfl rfl rfl ?_
          refine .nil ?_
          refine .ret ?_
          cases h
          exact fin_ret (vs := [_]) () (rt rfl rn) rfl (hS.to [] rfl)
        · have h := sel_f hb h
          refine .skip ?_
          refine .seq ?_
          refine .seq ?_
          refine .region ?_
          refine .p rfl rfl rfl ?_
          refine .p rfl rfl rfl ?_
          obtain ⟨y11, hy11, h⟩ := bnd h
          refine .c (.call1v hS Try.func7 (laws_toIntS_ok hy11 (hS.keep q_2)) rfl rfl ?_ rfl (by kernel_rfl) rfl rfl)
          intro v15 W hS
          obtain ⟨y12, hy12, h⟩ := bnd h
          refine .c (.call0 hS Try.func11 (laws_eqIntS_ok hy12 hS.p7.lendv hS.lendv) rfl rfl ?_ rfl (by kernel_rfl) rfl rfl)
          intro W hS
          refine .p rfl rfl rfl ?_
          refine .nil ?_
          refine .cond rfl (fun hb => ?_) (fun hb => ?_)
          · have h := sel_t hb h
            refine .seq ?_
            refine .region ?_
            refine .p rfl rfl rfl ?_
            refine .nil ?_
            refine .ret ?_
            cases h
            exact fin_ret (vs := [_]) () (rt rfl rn) rfl (hS.to [] rfl)
          · have h := sel_f hb h
            refine .skip ?_
            refine .seq ?_
            refine .region ?_
            refine .p rfl rfl rfl ?_
            refine .nil ?_
            refine .seq ?_
            refine .region ?_
            refine .r (ld T.t31 hS.p8 rfl rfl rfl rfl rfl) ?_ rfl rfl
            refine .p rfl rfl rfl ?_
            obtain ⟨y13, hy13, h⟩ := bnd h
            have hS := hS.p10
            have hS := hS.p10
            refine .c (.callS2 (L0 := [rowV (sv v7) 3 1 (D.int .i64) y5.Regs, rowV (sv v8) 3 1 (D.int .i64) y5.Mem]) hS Try.func12 (fun S h1 h2 h3 => (laws_markMachine_ok hy13 h2 (fun b hb => (h1 b hb).2))) rfl rfl ?_ rfl (by kernel_rfl) rfl rfl)
            rintro ⟨⟩ W hS
            have hS : Sep _ _ W [rowV (sv v7) 3 1 (D.int .i64) y13.2.1, rowV (sv v8) 3 1 (D.int .i64) y13.2.2, rowV (sv v15) 3 1 (D.int .i64) y11, rowV (sv v13) 3 1 (D.int .i64) y9.Regs, rowV (sv v14) 3 1 (D.int .i64) y9.Mem, .box g4 29 [(sv v10), (sv v11), (sv v12), .bool y7.Rest], rowV (sv v10) 3 1 (D.int .i64) y7.Out, rowV (sv v11) 22 1 (fun (l : List Int) => D.row 3 1 (l.map (D.int .i64))) y7.Items, rowV (sv v12) 4 1 D.bool y7.Ended, rowV (sv v9) 3 1 (D.int .i64) y6, .box g3 31 [(sv v7), .int .i64 y5.Pc, (sv v8)], .box g2 29 [(sv v4), (sv v5), (sv v6), .bool y4.Rest], rowV (sv v4) 3 1 (D.int .i64) y4.Out, rowV (sv v5) 22 1 (fun (l : List Int) => D.row 3 1 (l.map (D.int .i64))) y4.Items, rowV (sv v6) 4 1 D.bool y4.Ended, rowV (sv v3) 3 1 (D.int .i64) y3, rowV (sv v1) 3 1 (D.int .i64) y2.Regs, rowV (sv v2) 3 1 (D.int .i64) y2.Mem, .box g1 24 [(sv v_0_Regs), .int .i64 a0.Pc, (sv v_0_Mem)]] := hS
            refine .p rfl rfl rfl ?_
            refine .nil ?_
            refine .seq ?_
            refine .region ?_
            refine .p rfl rfl rfl ?_
            refine .p rfl rfl rfl ?_
            obtain ⟨y14, hy14, h⟩ := bnd h
            have hS := hS.p9
            refine .c (.callS2 (L0 := [rowV (sv v9) 3 1 (D.int .i64) y6]) hS Try.func13 (fun S h1 h2 h3 => (laws_markIntS_ok hy14 h2 (fun b hb => (h1 b hb).2))) rfl rfl ?_ rfl (by kernel_rfl) rfl rfl)
            rintro ⟨⟩ W hS
            have hS : Sep _ _ W [rowV (sv v9) 3 1 (D.int .i64) y14.2, rowV (sv v7) 3 1 (D.int .i64) y13.2.1, rowV (sv v8) 3 1 (D.int .i64) y13.2.2, rowV (sv v15) 3 1 (D.int .i64) y11, rowV (sv v13) 3 1 (D.int .i64) y9.Regs, rowV (sv v14) 3 1 (D.int .i64) y9.Mem, .box g4 29 [(sv v10), (sv v11), (sv v12), .bool y7.Rest], rowV (sv v10) 3 1 (D.int .i64) y7.Out, rowV (sv v11) 22 1 (fun (l : List Int) => D.row 3 1 (l.map (D.int .i64))) y7.Items, rowV (sv v12) 4 1 D.bool y7.Ended, .box g3 31 [(sv v7), .int .i64 y5.Pc, (sv v8)], .box g2 29 [(sv v4), (sv v5), (sv v6), .bool y4.Rest], rowV (sv v4) 3 1 (D.int .i64) y4.Out, rowV (sv v5) 22 1 (fun (l : List Int) => D.row 3 1 (l.map (D.int .i64))) y4.Items, rowV (sv v6) 4 1 D.bool y4.Ended, rowV (sv v3) 3 1 (D.int .i64) y3, rowV (sv v1) 3 1 (D.int .i64) y2.Regs, rowV (sv v2) 3 1 (D.int .i64) y2.Mem, .box g1 24 [(sv v_0_Regs), .int .i64 a0.Pc, (sv v_0_Mem)]] := hS
            refine .p rfl rfl rfl ?_
            refine .nil ?_
            refine .seq ?_
            refine .seq ?_
            refine .region ?_
            refine .p rfl rfl rfl ?_
            refine .p rfl rfl rfl ?_
            refine .p rfl rfl rfl ?_
            obtain ⟨b1, hb1, h⟩ := bnd h
            refine .chunk 5 65 (b1) hS ?_ ?_
            · refine .both (decide (y14.1 < 0)) (fun hb => ?_) (fun hb => ?_)
              · skip
                refine .x hb ?_ rfl rfl
                refine .x hb ?_ rfl rfl
                refine .x hb ?_ rfl rfl
                refine .x hb ?_ rfl rfl
                cases sel_t hb hb1
                refine .r (pkt hb rfl rfl rfl) ?_ rfl rfl
                exact .nil (ck 5 hS rfl rfl rfl rfl)
              · have hg1 := hb
                have h := sel_f hb hb1
                refine .g hg1 (.r (ld T.t29 hS.p6 rfl rfl rfl rfl rfl) ?_ rfl rfl) rfl
                refine .g hg1 (.r (ld T.t29 hS.p11 rfl rfl rfl rfl rfl) ?_ rfl rfl) rfl
                obtain ⟨y15, hy15, h⟩ := bnd h
                refine .g hg1 (.c (.call0 hS Try.func9 (laws_eqOutcome_ok hy15 hS.p7.lendv hS.p8.lendv hS.p9.lendv (hS.pull (i := 12) rfl).lendv (hS.pull (i := 13) rfl).lendv (hS.pull (i := 14) rfl).lendv) rfl rfl ?_ rfl (by kernel_rfl) rfl rfl)) rfl
                intro W hS
                refine .g hg1 (.p rfl rfl rfl ?_) rfl
                refine .r (pkf hg1 rfl rfl rfl) ?_ rfl rfl
                cases h
                exact .nil (ck 5 hS rfl rfl rfl rfl)
            intro W hS
            refine .nil ?_
            refine .cond rfl (fun hb => ?_) (fun hb => ?_)
            · have h := sel_t hb h
              refine .seq ?_
              refine .region ?_
              refine .p rfl rfl rfl ?_
              refine .nil ?_
              refine .ret ?_
              cases h
              exact fin_ret (vs := [_]) () (rt rfl rn) rfl (hS.to [] rfl)
            · have h := sel_f hb h
              refine .skip ?_
              refine .seq ?_
              refine .region ?_
              refine .p rfl rfl rfl ?_
              refine .nil ?_
              refine .seq ?_
              refine .region ?_
              refine .r (ld T.t29 hS.p6 rfl rfl rfl rfl rfl) ?_ rfl rfl
              refine .p rfl rfl rfl ?_
              obtain ⟨y16, hy16, h⟩ := bnd h
              have hS := hS.p9
              have hS := hS.p9
              have hS := hS.p9
              refine .c (.callS2 (L0 := [rowV (sv v10) 3 1 (D.int .i64) y7.Out, rowV (sv v11) 22 1 (fun (l : List Int) => D.row 3 1 (l.map (D.int .i64))) y7.Items, rowV (sv v12) 4 1 D.bool y7.Ended]) hS Try.func14 (fun S h1 h2 h3 => (laws_markOutcome_ok hy16 h2 (fun b hb => (h1 b hb).2))) rfl rfl ?_ rfl (by kernel_rfl) rfl rfl)
              rintro ⟨⟩ W hS
              have hS : Sep _ _ W [rowV (sv v10) 3 1 (D.int .i64) y16.2.1, rowV (sv v11) 22 1 (fun (l : List Int) => D.row 3 1 (l.map (D.int .i64))) y16.2.2.1, rowV (sv v12) 4 1 D.bool y16.2.2.2, rowV (sv v9) 3 1 (D.int .i64) y14.2, rowV (sv v7) 3 1 (D.int .i64) y13.2.1, rowV (sv v8) 3 1 (D.int .i64) y13.2.2, rowV (sv v15) 3 1 (D.int .i64) y11, rowV (sv v13) 3 1 (D.int .i64) y9.Regs, rowV (sv v14) 3 1 (D.int .i64) y9.Mem, .box g4 29 [(sv v10), (sv v11), (sv v12), .bool y7.Rest], .box g3 31 [(sv v7), .int .i64 y5.Pc, (sv v8)], .box g2 29 [(sv v4), (sv v5), (sv v6), .bool y4.Rest], rowV (sv v4) 3 1 (D.int .i64) y4.Out, rowV (sv v5) 22 1 (fun (l : List Int) => D.row 3 1 (l.map (D.int .i64))) y4.Items, rowV (sv v6) 4 1 D.bool y4.Ended, rowV (sv v3) 3 1 (D.int .i64) y3, rowV (sv v1) 3 1 (D.int .i64) y2.Regs, rowV (sv v2) 3 1 (D.int .i64) y2.Mem, .box g1 24 [(sv v_0_Regs), .int .i64 a0.Pc, (sv v_0_Mem)]] := hS
              refine .p rfl rfl rfl ?_
              refine .nil ?_
              refine .seq ?_
              refine .region ?_
              refine .p rfl rfl rfl ?_
              refine .nil ?_
              refine .seq ?_
              refine .region ?_
              refine .r (ld T.t29 hS.p9 rfl rfl rfl rfl rfl) ?_ rfl rfl
              refine .p rfl rfl rfl ?_
              obtain ⟨y17, hy17, h⟩ := bnd h
              refine .c (.call0 hS Try.func15 (laws_heldOutcome_ok hy17 hS.lendv hS.p1.lendv hS.p2.lendv) rfl rfl ?_ rfl (by kernel_rfl) rfl rfl)
              intro W hS
              refine .p rfl rfl rfl ?_
              refine .nil ?_
              refine .seq ?_
              refine .seq ?_
              refine .region ?_
              refine .p rfl rfl rfl ?_
              refine .p rfl rfl rfl ?_
              refine .nil ?_
              refine .cond rfl (fun hb => ?_) (fun hb => ?_)
              · have h := sel_t hb h
                refine .seq ?_
                refine .region ?_
                refine .p rfl rfl rfl ?_
                refine .nil ?_
                refine .ret ?_
                cases h
                exact fin_ret (vs := [_]) () (rt rfl rn) rfl (hS.to [] rfl)
              · have h := sel_f hb h
                refine .skip ?_
                refine .seq ?_
                refine .seq ?_
                refine .region ?_
                refine .p rfl rfl rfl ?_
                refine .p rfl rfl rfl ?_
                refine .p rfl rfl rfl ?_
                refine .nil ?_
                refine .cond rfl (fun hb => ?_) (fun hb => ?_)
                · have h := sel_t hb h
                  refine .seq ?_
                  refine .region ?_
                  refine .p rfl rfl rfl ?_
                  refine .nil ?_
                  refine .ret ?_
                  cases h
                  exact fin_ret (vs := [_]) () (rt rfl rn) rfl (hS.to [] rfl)
                · have h := sel_f hb h
                  refine .skip ?_
                  refine .seq ?_
                  refine .region ?_
                  refine .r (ld T.t24 (hS.pull (i := 18) rfl) rfl rfl rfl rfl rfl) ?_ rfl rfl
                  obtain ⟨y18, hy18, h⟩ := bnd h
                  refine .c (.call hS Try.func6 (laws_toMachine_ok hy18 (hS.keep q_0_Regs) (hS.keep q_0_Mem)) rfl rfl ?_ rfl (by kernel_rfl) rfl rfl)
                  rintro ⟨v16, v17⟩ W hS
                  have hS : Sep _ _ W [rowV (sv v16) 3 1 (D.int .i64) y18.Regs, rowV (sv v17) 3 1 (D.int .i64) y18.Mem, rowV (sv v10) 3 1 (D.int .i64) y16.2.1, rowV (sv v11) 22 1 (fun (l : List Int) => D.row 3 1 (l.map (D.int .i64))) y16.2.2.1, rowV (sv v12) 4 1 D.bool y16.2.2.2, rowV (sv v9) 3 1 (D.int .i64) y14.2, rowV (sv v7) 3 1 (D.int .i64) y13.2.1, rowV (sv v8) 3 1 (D.int .i64) y13.2.2, rowV (sv v15) 3 1 (D.int .i64) y11, rowV (sv v13) 3 1 (D.int .i64) y9.Regs, rowV (sv v14) 3 1 (D.int .i64) y9.Mem, .box g4 29 [(sv v10), (sv v11), (sv v12), .bool y7.Rest], .box g3 31 [(sv v7), .int .i64 y5.Pc, (sv v8)], .box g2 29 [(sv v4), (sv v5), (sv v6), .bool y4.Rest], rowV (sv v4) 3 1 (D.int .i64) y4.Out, rowV (sv v5) 22 1 (fun (l : List Int) => D.row 3 1 (l.map (D.int .i64))) y4.Items, rowV (sv v6) 4 1 D.bool y4.Ended, rowV (sv v3) 3 1 (D.int .i64) y3, rowV (sv v1) 3 1 (D.int .i64) y2.Regs, rowV (sv v2) 3 1 (D.int .i64) y2.Mem, .box g1 24 [(sv v_0_Regs), .int .i64 a0.Pc, (sv v_0_Mem)]] := hS
                  refine .p rfl rfl rfl ?_
                  refine .p rfl rfl rfl ?_
                  obtain ⟨y19, hy19, h⟩ := bnd h
                  refine .c (.call1v hS Try.func7 (laws_toIntS_ok hy19 (hS.keep q_2)) rfl rfl ?_ rfl (by kernel_rfl) rfl rfl)
                  intro v18 W hS
                  obtain ⟨y20, hy20, h⟩ := bnd h
                  refine .c (.call hS Try.func8 (impl_ImageOutcome_ok hy20 hS.p1.lendv hS.p2.lendv hS.lendv) rfl rfl ?_ rfl (by kernel_rfl) rfl rfl)
                  rintro ⟨v19, v20, v21⟩ W hS
                  have hS : Sep _ _ W [rowV (sv v19) 3 1 (D.int .i64) y20.Out, rowV (sv v20) 22 1 (fun (l : List Int) => D.row 3 1 (l.map (D.int .i64))) y20.Items, rowV (sv v21) 4 1 D.bool y20.Ended, rowV (sv v18) 3 1 (D.int .i64) y19, rowV (sv v16) 3 1 (D.int .i64) y18.Regs, rowV (sv v17) 3 1 (D.int .i64) y18.Mem, rowV (sv v10) 3 1 (D.int .i64) y16.2.1, rowV (sv v11) 22 1 (fun (l : List Int) => D.row 3 1 (l.map (D.int .i64))) y16.2.2.1, rowV (sv v12) 4 1 D.bool y16.2.2.2, rowV (sv v9) 3 1 (D.int .i64) y14.2, rowV (sv v7) 3 1 (D.int .i64) y13.2.1, rowV (sv v8) 3 1 (D.int .i64) y13.2.2, rowV (sv v15) 3 1 (D.int .i64) y11, rowV (sv v13) 3 1 (D.int .i64) y9.Regs, rowV (sv v14) 3 1 (D.int .i64) y9.Mem, .box g4 29 [(sv v10), (sv v11), (sv v12), .bool y7.Rest], .box g3 31 [(sv v7), .int .i64 y5.Pc, (sv v8)], .box g2 29 [(sv v4), (sv v5), (sv v6), .bool y4.Rest], rowV (sv v4) 3 1 (D.int .i64) y4.Out, rowV (sv v5) 22 1 (fun (l : List Int) => D.row 3 1 (l.map (D.int .i64))) y4.Items, rowV (sv v6) 4 1 D.bool y4.Ended, rowV (sv v3) 3 1 (D.int .i64) y3, rowV (sv v1) 3 1 (D.int .i64) y2.Regs, rowV (sv v2) 3 1 (D.int .i64) y2.Mem, .box g1 24 [(sv v_0_Regs), .int .i64 a0.Pc, (sv v_0_Mem)]] := hS
                  refine .c (.alloc T.t29 hS ?_ rfl rfl rfl)
                  intro g5 W hS
                  refine .c (.st T.t29 hS rfl rfl rfl ?_ rfl rfl rfl rfl rfl)
                  intro W hS
                  refine .nil ?_
                  refine .seq ?_
                  refine .seq ?_
                  refine .region ?_
                  refine .r (ld T.t29 hS rfl rfl rfl rfl rfl) ?_ rfl rfl
                  refine .r (ld T.t29 (hS.pull (i := 18) rfl) rfl rfl rfl rfl rfl) ?_ rfl rfl
                  obtain ⟨y21, hy21, h⟩ := bnd h
                  refine .c (.call0 hS Try.func9 (laws_eqOutcome_ok hy21 hS.p1.lendv hS.p2.lendv hS.p3.lendv (hS.pull (i := 19) rfl).lendv (hS.pull (i := 20) rfl).lendv (hS.pull (i := 21) rfl).lendv) rfl rfl ?_ rfl (by kernel_rfl) rfl rfl)
                  intro W hS
                  refine .p rfl rfl rfl ?_
                  refine .nil ?_
                  refine .cond rfl (fun hb => ?_) (fun hb => ?_)
                  · have h := sel_t hb h
                    refine .seq ?_
                    refine .region ?_
                    refine .p rfl rfl rfl ?_
                    refine .nil ?_
                    refine .ret ?_
                    cases h
                    exact fin_ret (vs := [_]) () (rt rfl rn) rfl (hS.to [] rfl)
                  · have h := sel_f hb h
                    refine .skip ?_
                    refine .seq ?_
                    refine .region ?_
                    refine .p rfl rfl rfl ?_
                    refine .nil ?_
                    refine .seq ?_
                    refine .region ?_
                    refine .r (ld T.t29 (hS.pull (i := 16) rfl) rfl rfl rfl rfl rfl) ?_ rfl rfl
                    refine .p rfl rfl rfl ?_
                    obtain ⟨y22, hy22, h⟩ := bnd h
                    refine .c (.call0 hS Try.func15 (laws_heldOutcome_ok hy22 hS.p7.lendv hS.p8.lendv hS.p9.lendv) rfl rfl ?_ rfl (by kernel_rfl) rfl rfl)
                    intro W hS
                    refine .p rfl rfl rfl ?_
                    refine .nil ?_
                    refine .seq ?_
                    refine .seq ?_
                    refine .region ?_
                    refine .p rfl rfl rfl ?_
                    refine .p rfl rfl rfl ?_
                    refine .nil ?_
                    refine .cond rfl (fun hb => ?_) (fun hb => ?_)
                    · have h := sel_t hb h
                      refine .seq ?_
                      refine .region ?_
                      refine .p rfl rfl rfl ?_
                      refine .nil ?_
                      refine .ret ?_
                      cases h
                      exact fin_ret (vs := [_]) () (rt rfl rn) rfl (hS.to [] rfl)
                    · have h := sel_f hb h
                      refine .skip ?_
                      refine .seq ?_
                      refine .seq ?_
                      refine .region ?_
                      refine .p rfl rfl rfl ?_
                      refine .p rfl rfl rfl ?_
                      refine .p rfl rfl rfl ?_
                      refine .nil ?_
                      refine .cond rfl (fun hb => ?_) (fun hb => ?_)
                      · have h := sel_t hb h
                        refine .seq ?_
                        refine .region ?_
                        refine .p rfl rfl rfl ?_
                        refine .nil ?_
                        refine .ret ?_
                        cases h
                        exact fin_ret (vs := [_]) () (rt rfl rn) rfl (hS.to [] rfl)
                      · have h := sel_f hb h
                        refine .skip ?_
                        refine .seq ?_
                        refine .region ?_
                        refine .p rfl rfl rfl ?_
                        refine .nil ?_
                        refine .ret ?_
                        cases h
                        exact fin_ret (vs := [_]) () (rt rfl rn) rfl (hS.to [] rfl)
end Go.Proofs.Ytdohklfimhkicaa.N
