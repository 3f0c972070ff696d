/- The program logic: from a row's arguments to what can be read. -/
import Derived.Test.YtodnendchboieaaDoorXi
import Derived.ChangeSlices
import Derived.WideShapes
import Derived.OpenShut
import Derived.Carry
set_option linter.unusedVariables false
set_option linter.unusedSimpArgs false
namespace Go.Proofs.YtodnendchboieaaDoor.X
open Go.ChangeShapes Go.WideShapes Go.ChangeShapes
variable {P : Program} {W : World} {T : Nat → Prop} {e t : TypeId} {k : IntKind}
theorem rds_ints : ∀ {l : List Int}, D.rds W (l.map (D.int k)) T (l.map (Value.int k))
  | [] => rfl
  | x :: l => ⟨[Value.int k x], l.map (Value.int k), rfl, rfl, rfl, rds_ints⟩
theorem rd_ofInts {x : Addr} {zs : List Int} {len cap : Nat} (h0 : len ≤ cap) (h1 : cap ≤ maxLen) (hz : len ≤ zs.length) (hc : ∀ i, i < zs.length → W.cell? (x.add i) = some (.int k (zs.getD i 0))) (hT : 0 < len → T x.block) :
    D.rd W (.row e 1 ((zs.take len).map (D.int k))) T [.slice (some x) len cap] := by
  have hl : (zs.take len).length = len := by rw [List.length_take]; omega
  refine ⟨some x, cap, (zs.take len).map (Value.int k), by rw [List.length_map, hl], by simp only [List.length_map, hl]; exact h0, by simp only [List.length_map, hl]; omega, ?_, fun hne => ⟨x, rfl, hT ?_, fun j u hj => ?_⟩, rds_ints⟩
  · intro d hd
    obtain ⟨y, _, rfl⟩ := List.mem_map.1 hd
    rfl
  · rcases Nat.eq_zero_or_pos len with h2 | h2
    · subst h2; simp at hne
    · exact h2
  · rw [List.getElem?_map, List.getElem?_take] at hj
    split at hj
    · rename_i hlt
      have hj' : j < zs.length := by omega
      rw [List.getElem?_eq_getElem hj'] at hj
      simp only [Option.map_some, Option.some.injEq] at hj
      subst hj
      rw [hc j hj']
      simp [List.getD_eq_getElem?_getD, List.getElem?_eq_getElem hj']
    · simp at hj
/-- A slice of whole numbers among the arguments. -/
theorem open_slice {H : Type} {enc : TypeId × Value → H} {v : Value} {d : DataW H} {ps : List MemPlace} (ht : P.underlying t = some (.slice e)) (he : P.underlying e = some (.int k)) (hc : P.cellsOf e = 1)
    (h : DataW.Trod enc P W 0 (fun _ => true) true t v d ps) (hv : ∃ a len cap, v = .slice a len cap) : ∃ A l c, v = .slice A l.length c ∧ Rd W (Old No W) A c e 1 (D.int k) l ∧ ∀ n ∈ l, (Lit.int k n).wf = true := by
  obtain ⟨a, len, cap, rfl⟩ := hv
  obtain ⟨fuel, hf⟩ := h
  rcases open_ints ht he hc hf with ⟨hcs, _⟩ | ⟨x, l, c, zs, hcs, _, hl, hm, hz, _, hcell, hwz⟩
  · simp [Value.cells] at hcs
    obtain ⟨rfl, rfl, rfl⟩ := hcs
    exact ⟨none, [], 0, rfl, Rd.nil _ _ _ _ _, by simp⟩
  · simp [Value.cells] at hcs
    obtain ⟨rfl, rfl, rfl⟩ := hcs
    have hz' : zs.length = cap := by simpa using hz
    have hlen : (zs.take len).length = len := by rw [List.length_take]; omega
    refine ⟨some x, zs.take len, cap, by rw [hlen], ?_, fun n hn => hwz n (List.mem_of_mem_take hn)⟩
    have := rd_ofInts (W := W) (T := Old No W) (e := e) (k := k) hl hm (by omega) hcell fun hpos => ?_
    · unfold Rd
      rw [hlen]
      exact this
    · refine ⟨?_, id⟩
      have h0 := hcell 0 (by omega)
      rcases Nat.lt_or_ge x.block W.heap.size with h1 | h1
      · exact h1
      · simp only [Addr.add, if_true] at h0
        rw [World.cell?_of_block (w := { W with heap := #[] }) (by simp [Array.getElem?_eq_none h1])] at h0
        simp [World.cell?] at h0
end Go.Proofs.YtodnendchboieaaDoor.X
