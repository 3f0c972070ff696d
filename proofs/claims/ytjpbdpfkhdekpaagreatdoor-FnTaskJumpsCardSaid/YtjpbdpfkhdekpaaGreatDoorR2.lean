/- What a package-level variable's laid datum says of its cells. -/
import Derived.Test.YtjpbdpfkhdekpaaGreatDoorR1
import Derived.Test.YtjpbdpfkhdekpaaGreatDoorZ3
import Derived.OpenShut
import Derived.LaidMore
import Derived.LaidLaws
import GoSem.ClaimJoined
set_option linter.unusedVariables false
set_option linter.unusedSimpArgs false
namespace Go.Proofs.YtjpbdpfkhdekpaaGreatDoor.X
variable {P : Program} {w : World} {T : Nat → Prop} {t e : TypeId} {size : Nat} {k : IntKind} {α : Type} {H : Type} {en : TypeId × Value → H} {base : Nat} {spare : Nat → Bool} {held : Bool}
/-- The cells of a datum without memory behind it. -/
def dcells : DataW H → List Value
  | .lit (.int k n) => [.int k n]
  | .lit (.bool b) => [.bool b]
  | .lit (.string s) => [.string ⟨s.toArray⟩]
  | .agg ds => dcellsL ds
  | _ => []
where dcellsL : List (DataW H) → List Value
  | [] => []
  | d :: r => dcells d ++ dcellsL r
theorem dcellsL_map {γ : Type} (f : γ → DataW H) : ∀ {xs : List γ}, dcells.dcellsL (xs.map f) = (xs.map fun x => dcells (f x)).flatten
  | [] => rfl
  | x :: xs => by simp only [List.map_cons, dcells.dcellsL, List.flatten_cons, dcellsL_map f]
def okF (P : Program) (ts : List TypeId) (t : TypeId) : Bool := match P.underlying t with
  | some (.int _) | some .bool | some .string => Nat.beq (P.cellsOf t) 1
  | some (.array n e) => Nat.beq (P.cellsOf t) (n * P.cellsOf e) && ts.contains e
  | some (.struct fs) => (match contig P fs.toList 0 with
    | some n => Nat.beq n (P.cellsOf t)
    | none => false) && fs.toList.all (fun f => ts.contains f.type)
  | _ => false
theorem trod_cells {ts : List TypeId} (hts : ts.all (okF P ts) = true) : ∀ {fuel : Nat} {t : TypeId} {cs : List Value} {x : DataW H × List MemPlace}, t ∈ ts → DataW.trod en P w base spare held fuel t cs = some x → cs = dcells x.1 ∧ cs.length = P.cellsOf t := by
  intro fuel
  induction fuel with
  | zero => intro t cs x _ h; simp [DataW.trod] at h
  | succ fuel ih =>
    intro t cs x ht h
    have hok := List.all_eq_true.1 hts t ht
    unfold okF at hok
    split at hok
    · rename_i k hu
      obtain ⟨n, rfl, rfl, hw⟩ := DataW.trod_int hu h
      exact ⟨rfl, (Nat.eq_of_beq_eq_true hok).symm⟩
    · rename_i hu
      obtain ⟨b, rfl, rfl⟩ := DataW.trod_bool hu h
      exact ⟨rfl, (Nat.eq_of_beq_eq_true hok).symm⟩
    · rename_i hu
      obtain ⟨s, rfl, rfl, hs⟩ := DataW.trod_string hu h
      exact ⟨by simp [dcells], (Nat.eq_of_beq_eq_true hok).symm⟩
    · rename_i n e hu
      simp only [Bool.and_eq_true] at hok
      obtain ⟨h1, h2⟩ := hok
      have he : e ∈ ts := by simpa using h2
      have h1' := Nat.eq_of_beq_eq_true h1
      obtain ⟨xs, m, hn, rfl, hlen, hxl, hel⟩ := DataW.trod_array hu h
      obtain rfl : fuel = m := by omega
      refine ⟨?_, hlen⟩
      have key : ∀ j, j ≤ n → cs.take (j * P.cellsOf e) = ((xs.take j).map fun y => dcells y.1).flatten := by
        intro j
        induction j with
        | zero => intro _; simp
        | succ j ihj =>
          intro hj
          have hi := hel j (by omega)
          have hlt : j < xs.length := by omega
          rw [List.getElem?_eq_getElem hlt] at hi
          obtain ⟨g1, g2⟩ := ih he hi
          rw [← List.take_append_getElem hlt, List.map_append, List.flatten_append, ← ihj (by omega)]
          simp only [List.map_cons, List.map_nil, List.flatten_cons, List.flatten_nil, List.append_nil]
          rw [← g1, Nat.add_mul, Nat.one_mul, List.take_add]
      have := key n (Nat.le_refl _)
      rw [List.take_of_length_le (by omega), List.take_of_length_le (by omega)] at this
      rw [this]
      show _ = dcells.dcellsL (xs.map (·.1))
      rw [dcellsL_map]
    · rename_i fs hu
      simp only [Bool.and_eq_true] at hok
      obtain ⟨h1, h2⟩ := hok
      split at h1
      · rename_i tot hcg
        obtain rfl := Nat.eq_of_beq_eq_true h1
        obtain ⟨xs, n, hn, rfl, hlen, hxl, hf⟩ := DataW.trod_struct hu h
        obtain rfl : fuel = n := by omega
        refine ⟨?_, hlen⟩
        have key : ∀ (gs : List Field) (o i : Nat), (∀ j f, gs[j]? = some f → fs[i + j]? = some f ∧ f.type ∈ ts) → i + gs.length = xs.length → contig P gs o = some (P.cellsOf t) → cs.drop o = ((xs.drop i).map fun y => dcells y.1).flatten := by
          intro gs
          induction gs with
          | nil =>
            intro o i _ hlen2 hc
            simp only [contig, Option.some.injEq] at hc
            simp only [List.length_nil, Nat.add_zero] at hlen2
            rw [hc, ← hlen, List.drop_length, hlen2, List.drop_length]
            rfl
          | cons f gs ihg =>
            intro o i hall hlen2 hc
            simp only [contig] at hc
            split at hc
            · rename_i ho
              have ho' := Nat.eq_of_beq_eq_true ho
              obtain ⟨hf0, hft⟩ := hall 0 f rfl
              have hi := hf i f (by simpa using hf0)
              have hlt : i < xs.length := by simp only [List.length_cons] at hlen2; omega
              rw [List.getElem?_eq_getElem hlt, ho'] at hi
              obtain ⟨g1, g2⟩ := ih hft hi
              have hr := ihg (o + P.cellsOf f.type) (i + 1) (fun j f' hj => by
                have := hall (j + 1) f' (by simpa using hj)
                rwa [show i + (j + 1) = i + 1 + j by omega] at this) (by simp only [List.length_cons] at hlen2; omega) hc
              rw [List.drop_eq_getElem_cons hlt, List.map_cons, List.flatten_cons, ← g1, ← hr, ← List.drop_drop, List.take_append_drop]
            · cases hc
        have := key fs.toList 0 0 (fun j f hj => ⟨by simpa using hj, by
          have := List.all_eq_true.1 h2 f (List.mem_of_getElem? hj)
          simpa using this⟩) (by simp [hxl]) hcg
        simp only [List.drop_zero] at this
        rw [this]
        show _ = dcells.dcellsL (xs.map (·.1))
        rw [dcellsL_map]
      · cases h1
    · cases hok
theorem flat_get {f : α → List Value} (hs : ∀ x, (f x).length = size) : ∀ {l : List α} {i j : Nat} {x : α} {u : Value}, l[i]? = some x → (f x)[j]? = some u → ((l.map f).flatten)[i * size + j]? = some u
  | [], i, j, x, u, h, _ => by simp at h
  | y :: ys, 0, j, x, u, h, hu => by
    have : y = x := by simpa using h
    subst this
    have hlt : j < (f y).length := by
      rcases Nat.lt_or_ge j (f y).length with h | h
      · exact h
      · rw [List.getElem?_eq_none h] at hu; cases hu
    simp only [List.map_cons, List.flatten_cons, Nat.zero_mul, Nat.zero_add]
    rw [List.getElem?_append_left hlt]
    exact hu
  | y :: ys, i + 1, j, x, u, h, hu => by
    have ih := flat_get hs (l := ys) (i := i) (j := j) (by simpa using h) hu
    simp only [List.map_cons, List.flatten_cons]
    rw [List.getElem?_append_right (by rw [hs, Nat.add_mul]; omega), hs]
    rw [show (i + 1) * size + j - size = i * size + j by rw [Nat.add_mul]; omega]
    exact ih
theorem tab_of {g : Nat} {f : α → List Value} {l : List α} {cs : Array Value} (hs : ∀ x, (f x).length = size) (hc : cs.toList = (l.map f).flatten) (hv : ∀ j, w.cell? ⟨g, j, none⟩ = cs[j]?) (h0 : Nat.ble 1 ((l.map f).flatten).length = true) : Tab g size f l w :=
  have h1 : 0 < cs.size := by
    have h1 := Nat.le_of_ble_eq_true h0
    rw [← hc, Array.length_toList] at h1
    omega
  ⟨World.block_lt_of_cell? w ⟨g, 0, none⟩ ((hv 0).trans (Array.getElem?_eq_getElem h1)), fun i x hx j v hj => by
    rw [hv]
    have := flat_get hs hx hj
    rw [← hc] at this
    simpa using this⟩
theorem glob_of {g : Nat} {cs : Array Value} {l : List Value} (hc : cs.toList = l) (hv : ∀ j, w.cell? ⟨g, j, none⟩ = cs[j]?) : Glob g l w := fun j u hj => by
  rw [hv, ← hj, ← hc]
  simp
theorem vars_two {sp : Nat → Bool} {n1 n2 : String} {gs : List (DataW H)} {ps : List MemPlace} (h : DataW.TrodVars en P w sp [n1, n2] gs ps) : ∃ g1 g2, gs = [g1, g2] := by
  match gs, h with
  | [], h => exact h.elim
  | [g1], h => obtain ⟨_, _, _, _, _, _, _, _, _, _, h, _⟩ := h; exact h.elim
  | [g1, g2], _ => exact ⟨g1, g2, rfl⟩
  | g1 :: g2 :: g3 :: r, h => obtain ⟨_, _, _, _, _, _, _, _, _, _, ⟨_, _, _, _, _, _, _, _, _, _, h, _⟩, _⟩ := h; exact h.elim
theorem vars_one {sp : Nat → Bool} {n1 : String} {gs : List (DataW H)} {ps : List MemPlace} (h : DataW.TrodVars en P w sp [n1] gs ps) : ∃ g1, gs = [g1] := by
  match gs, h with
  | [], h => exact h.elim
  | [g1], _ => exact ⟨g1, rfl⟩
  | g1 :: g2 :: r, h => obtain ⟨_, _, _, _, _, _, _, _, _, _, h, _⟩ := h; exact h.elim
theorem rds_mem {d : D} : ∀ {xs : List D} {cs : List Value}, D.rds w xs T cs → d ∈ xs → ∃ c1, D.rd w d T c1
  | [], _, _, h => by cases h
  | x :: xs, cs, ⟨c1, c2, _, _, h1, h2⟩, h => by
    rcases List.mem_cons.1 h with h | h
    · subst h; exact ⟨c1, h1⟩
    · exact rds_mem h2 h
/-- The rows in a row are of a slice's length. -/
theorem RV.lens {v : Value} {e2 s2 : Nat} {f : α → D} {q : List (List α)} (h : RV w T v e size (fun (l : List α) => D.row e2 s2 (l.map f)) q) : ∀ x ∈ q, x.length ≤ maxLen := by
  intro x hx
  obtain ⟨A', cap, cs, e1, e2, e3, e4, e5, e6⟩ := h
  obtain ⟨c1, A1, cap1, cs1, _, _, h3, _⟩ := rds_mem e6 (List.mem_map_of_mem hx)
  simpa using h3
/-- The cells of a laid variable. -/
theorem laid_cells {ts : List TypeId} (hts : ts.all (okF P ts) = true) {n : String} {d : DataW Unit} {r : List (String × DataW Unit)} {ps : List MemPlace} {g t : Nat} (hg : P.globalNamed n = some g) (ht : (P.globals[g]?).map (·.type) = some t) (hm : t ∈ ts)
    (h : DataW.LaidVars P w ((n, d) :: r) ps) : ∃ cs : Array Value, cs.toList = dcells d ∧ (∀ j, w.cell? ⟨g, j, none⟩ = cs[j]?) ∧ ∃ qs, DataW.LaidVars P w r qs := by
  obtain ⟨g', t', cs, fuel, p, q, h1, h2, h3, h4, h5, _⟩ := h
  obtain rfl := Option.some.inj (hg.symm.trans h1)
  obtain rfl := Option.some.inj (ht.symm.trans h2)
  exact ⟨cs, (trod_cells hts hm h4).1, fun j => World.var?_cell hg h3 j, q, h5⟩
end Go.Proofs.YtjpbdpfkhdekpaaGreatDoor.X
