/- A new image: reference and program lay out the same memory. -/
import Derived.Test.YtdohklfimhkicaaDoorQa
set_option linter.unusedVariables false
set_option linter.unusedSimpArgs false
set_option maxRecDepth 100000
set_option maxHeartbeats 4000000
namespace Go.Proofs.YtdohklfimhkicaaDoor.N
open Go.Proofs.YtdohklfimhkicaaDoor.X
theorem boxes_sim (rooms mem d : List Int) (hr : rooms.length ≤ 1048576) (hm : mem.length + d.length ≤ 10000000) :
    ∃ e, iter (spec_l47Data_b1 rooms) (d, 0) = some (d ++ e) ∧ iter (impl_ImageNew_b2 rooms) (mem ++ d, 0) = some (mem ++ (d ++ e)) ∧ e.length = 24 := by
  obtain ⟨r, r', h1, h2, e, rfl, rfl, he⟩ := iter_sim (f := spec_l47Data_b1 rooms) (g := impl_ImageNew_b2 rooms)
    (fun s t => ∃ (j : Nat) (e : List Int), s = (d ++ e, (j : Int)) ∧ t = (mem ++ (d ++ e), (j : Int)) ∧ e.length = 8 * j ∧ j ≤ 3) (fun s => (3 - s.2).toNat)
    (fun r r' => ∃ e, r = d ++ e ∧ r' = mem ++ (d ++ e) ∧ e.length = 24) (s := (d, 0)) (t := (mem ++ d, 0)) (fun s t ⟨j, e, hs, ht, he, hj⟩ => by
      subst hs
      subst ht
      unfold spec_l47Data_b1 impl_ImageNew_b2
      have hmk : mk 8 8 (0 : Int) = some (List.replicate 8 0) := rfl
      simp only
      rcases Nat.lt_or_ge j 3 with hlt | hge
      · left
        rw [sel_true (b := decide ((j : Int) < 3)) (decide_eq_true (by omega)), sel_true (b := decide ((j : Int) < 3)) (decide_eq_true (by omega)), hmk]
        have hbox : ∃ x : Int, (sel (decide ((j : Int) < (rooms.length : Int))) ((nth rooms (j : Int)).bind fun x1 => some x1) (some 0) : Option Int) = some x ∧
            (sel (decide ((j : Int) < (rooms.length : Int))) ((nth rooms (j : Int)).bind fun x2 => (nth (List.replicate 8 (0 : Int)) 0).bind fun x3 => (upd (List.replicate 8 (0 : Int)) 0 x2).bind fun r5 => some r5) (some (List.replicate 8 (0 : Int))) : Option (List Int)) = some [x, 0, 0, 0, 0, 0, 0, 0] := by
          rcases Nat.lt_or_ge j rooms.length with hl | hl
          · refine ⟨rooms[j], ?_, ?_⟩
            · rw [sel_true (decide_eq_true (by omega)), nth_at hl]; rfl
            · rw [sel_true (decide_eq_true (by omega)), nth_at hl]; rfl
          · refine ⟨0, ?_, ?_⟩
            · rw [sel_false (decide_eq_false (by omega))]
            · rw [sel_false (decide_eq_false (by omega))]; rfl
        obtain ⟨x, hx1, hx2⟩ := hbox
        simp only [Option.bind_some] at hx1 hx2 ⊢
        rw [hx1, hx2]
        simp only [Option.bind_some]
        rw [app_ok (by simp; omega), app_ok (by simp; omega), w64_nat (by omega)]
        refine ⟨_, _, rfl, rfl, ⟨j + 1, e ++ [x, 0, 0, 0, 0, 0, 0, 0], by simp, by simp, by simp; omega, by omega⟩, by simp only; omega⟩
      · right
        rw [sel_false (b := decide ((j : Int) < 3)) (decide_eq_false (by omega)), sel_false (b := decide ((j : Int) < 3)) (decide_eq_false (by omega))]
        exact ⟨_, _, rfl, rfl, e, rfl, rfl, by omega⟩) ⟨0, [], by simp, by simp, rfl, by omega⟩
  exact ⟨e, h1, h2, he⟩
theorem blocks_sim (at_ : Nat) (starts mem d : List Int) (lists : List (List Instr)) (w : List Int) (hl : lists.length = starts.length) (hw : w.length = at_) (hs : starts.length ≤ 3) (ha : at_ ≤ 10000000) (hx : ∀ x ∈ starts, 0 ≤ x ∧ x ≤ 10000000) (hm : mem.length + d.length ≤ 20000000) :
    ∃ e, iter (spec_l47Data_b2 (at_ : Int) starts) (d, 0) = some (d ++ e) ∧ iter (impl_ImageNew_b3 lists (w, starts.map (4 * ·))) (mem ++ d, 0) = some (mem ++ (d ++ e)) ∧ e.length = 16 * starts.length ∧ (1 ≤ starts.length → e[2]? = some (4 * ((at_ : Int) + 28 + 16 * starts.length))) := by
  obtain ⟨r, r', h1, h2, e, rfl, rfl, he, he2⟩ := iter_sim (f := spec_l47Data_b2 (at_ : Int) starts) (g := impl_ImageNew_b3 lists (w, starts.map (4 * ·)))
    (fun s t => ∃ (j : Nat) (e : List Int), s = (d ++ e, (j : Int)) ∧ t = (mem ++ (d ++ e), (j : Int)) ∧ e.length = 16 * j ∧ j ≤ starts.length ∧ (1 ≤ j → e[2]? = some (4 * ((at_ : Int) + 28 + 16 * starts.length)))) (fun s => (starts.length - s.2).toNat)
    (fun r r' => ∃ e, r = d ++ e ∧ r' = mem ++ (d ++ e) ∧ e.length = 16 * starts.length ∧ (1 ≤ starts.length → e[2]? = some (4 * ((at_ : Int) + 28 + 16 * starts.length)))) (s := (d, 0)) (t := (mem ++ d, 0)) (fun s t ⟨j, e, hs', ht, he, hj, he2⟩ => by
      subst hs'
      subst ht
      unfold spec_l47Data_b2 impl_ImageNew_b3
      have hlen4 : (starts.map (4 * ·)).length = starts.length := by simp
      have hmk : mk 8 16 (0 : Int) = some (List.replicate 16 0) := rfl
      simp only [hlen4]
      rcases Nat.lt_or_ge j starts.length with hlt | hge
      · left
        have hb := hx _ (List.getElem_mem hlt)
        have n1 : nth starts (j : Int) = some starts[j] := nth_at hlt
        have n2 : nth (starts.map (4 * ·)) (j : Int) = some (4 * starts[j]) := by rw [nth_at (by omega)]; simp
        rw [sel_true (b := decide ((j : Int) < (starts.length : Int))) (decide_eq_true (by omega)), sel_true (b := decide ((j : Int) < (starts.length : Int))) (decide_eq_true (by omega)), hmk]
        have v1 : w64 (4 * starts[j]) = 4 * starts[j] := w64_id (by omega) (by omega)
        have v2 : w64 (w64 (w64 ((at_ : Int) + 4) + 24) + w64 (16 * (starts.length : Int))) = (at_ : Int) + 28 + 16 * starts.length := by
          rw [w64_id (x := (at_ : Int) + 4) (by omega) (by omega), w64_id (x := (at_ : Int) + 4 + 24) (by omega) (by omega), w64_id (x := 16 * (starts.length : Int)) (by omega) (by omega), w64_id (by omega) (by omega)]
          omega
        have v3 : w64 (12 * (j : Int)) = 12 * j := w64_id (by omega) (by omega)
        have v4 : w64 (4 * w64 ((at_ : Int) + 28 + 16 * starts.length + 12 * j)) = 4 * ((at_ : Int) + 28 + 16 * starts.length + 12 * j) := by
          rw [w64_id (x := (at_ : Int) + 28 + 16 * starts.length + 12 * j) (by omega) (by omega), w64_id (by omega) (by omega)]
        have v5 : w64 (w64 (w64 (w64 (4 * (w.length : Int)) + 112) + w64 (64 * (lists.length : Int))) + w64 (48 * (j : Int))) = 4 * ((at_ : Int) + 28 + 16 * starts.length + 12 * j) := by
          rw [hw, hl, w64_id (x := 4 * (at_ : Int)) (by omega) (by omega), w64_id (x := 4 * (at_ : Int) + 112) (by omega) (by omega), w64_id (x := 64 * (starts.length : Int)) (by omega) (by omega), w64_id (x := 48 * (j : Int)) (by omega) (by omega),
            w64_id (x := 4 * (at_ : Int) + 112 + 64 * (starts.length : Int)) (by omega) (by omega), w64_id (by omega) (by omega)]
          omega
        simp only [n1, n2, Option.bind_some, v1, v2, v3, v4, v5]
        have hB : ∀ a b : Int, ((nth (List.replicate 16 (0 : Int)) 0).bind fun x3 => (upd (List.replicate 16 (0 : Int)) 0 a).bind fun r3 => (nth r3 2).bind fun x4 => (upd r3 2 b).bind fun r4 => some r4) = some [a, 0, b, 0, 0, 0, 0, 0, 0, 0, 0, 0, 0, 0, 0, 0] := fun a b => rfl
        have u1 : upd (List.replicate 16 (0 : Int)) 0 (4 * starts[j]) = some [4 * starts[j], 0, 0, 0, 0, 0, 0, 0, 0, 0, 0, 0, 0, 0, 0, 0] := rfl
        have u0 : nth (List.replicate 16 (0 : Int)) 0 = some 0 := rfl
        have u2 : ∀ a : Int, nth [a, 0, 0, 0, 0, 0, 0, 0, 0, 0, 0, 0, 0, 0, 0, 0] 2 = some 0 := fun a => rfl
        have u3 : ∀ a b : Int, upd [a, 0, 0, 0, 0, 0, 0, 0, 0, 0, 0, 0, 0, 0, 0, 0] 2 b = some [a, 0, b, 0, 0, 0, 0, 0, 0, 0, 0, 0, 0, 0, 0, 0] := fun a b => rfl
        simp only [u0, u1, u2, u3, Option.bind_some]
        rw [app_ok (by simp; omega), app_ok (by simp; omega), w64_nat (by omega)]
        refine ⟨_, _, rfl, rfl, ⟨j + 1, e ++ [4 * starts[j], 0, 4 * ((at_ : Int) + 28 + 16 * starts.length + 12 * j), 0, 0, 0, 0, 0, 0, 0, 0, 0, 0, 0, 0, 0], by simp, by simp, by simp; omega, by omega, fun _ => ?_⟩, by simp only; omega⟩
        rcases Nat.eq_zero_or_pos j with h0 | h0
        · subst h0
          have : e = [] := List.eq_nil_of_length_eq_zero (by omega)
          subst this
          simp
        · rw [List.getElem?_append_left (by omega)]
          exact he2 h0
      · right
        rw [sel_false (b := decide ((j : Int) < (starts.length : Int))) (decide_eq_false (by omega)), sel_false (b := decide ((j : Int) < (starts.length : Int))) (decide_eq_false (by omega))]
        have : j = starts.length := by omega
        subst this
        exact ⟨_, _, rfl, rfl, e, rfl, rfl, he, he2⟩) ⟨0, [], by simp, by simp, rfl, by omega, by omega⟩
  exact ⟨e, h1, h2, he, he2⟩
end Go.Proofs.YtdohklfimhkicaaDoor.N
