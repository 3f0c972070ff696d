/- The program logic's rules for what is made: structs and rows out of parts, append, make, stores into rows, cuts. -/
import Derived.Test.YtjpbdpfkhdekpaaGreatDoorX4
set_option linter.unusedVariables false
set_option linter.unusedSimpArgs false
namespace Go.Proofs.YtjpbdpfkhdekpaaGreatDoor.X
variable {P : Program} {n : Nat} {ops : Array Oper} {o : Oper} {rest : List Oper} {E E' : Env} {W W' w0 : World} {a : Act} {v u : Value} {K : Env → World → Prop} {M T : Nat → Prop} {L : List Ent}
variable {t e : TypeId} {ag : Bool} {z : Option Value} {zv : Value} {size bytes : Nat} {A A2 : Option Addr} {m c c2 : Nat} {α : Type} {enc : α → D} {l l2 r : List α} {i : Int} {x y : α}

theorem Owns.split : ∀ {L1 L2 : List Ent} {Ok : Nat → Prop}, Owns W (L1 ++ L2) Ok → ∃ S, (∀ b, S b → Ok b) ∧ Owns W L1 S ∧ Owns W L2 (fun b => Ok b ∧ ¬ S b)
  | [], L2, Ok, h => ⟨fun _ => False, fun _ hf => hf.elim, trivial, h.mono fun b hb => ⟨hb, id⟩⟩
  | x :: L1, L2, Ok, ⟨S, h1, h2, h3⟩ => by
    obtain ⟨S', k1, k2, k3⟩ := Owns.split (L1 := L1) h3
    refine ⟨fun b => S b ∨ S' b, fun b hb => hb.elim (h1 b) fun hb => (k1 b hb).1, ⟨S, fun b hb => .inl hb, h2, k2.mono fun b hb => ⟨.inr hb, (k1 b hb).2⟩⟩, k3.mono fun b hb => ⟨hb.1.1, fun hh => hh.elim hb.1.2 hb.2⟩⟩
/-- Some things are exchanged for others, the world turned in their blocks alone, and in new ones. -/
theorem Sep.turnL {L1 L' : List Ent} (h : Sep M w0 W (L1 ++ L)) (k : ∀ S, (∀ b, S b → OkS M w0 W b) → Owns W L1 S → Frame S W W' ∧ Owns W' L' (fun b => S b ∨ (W.heap.size ≤ b ∧ b < W'.heap.size))) : Sep M w0 W' (L' ++ L) := by
  obtain ⟨S, h1, h2, h3⟩ := h.own.split
  obtain ⟨k1, k2⟩ := k S h1 h2
  refine ⟨h.frame.trans k1 fun b hb hs => ?_, ?_⟩
  · rcases (h1 b hs).1 with h4 | h4
    · omega
    · exact h4
  · have h4 : Owns W' L (fun b => OkS M w0 W b ∧ ¬ S b) := h3.agree fun b hb => k1.block b hb.1.2 hb.2
    refine (Owns.append k2 h4 fun b hb hb' => ?_).mono fun b hb => ?_
    · rcases hb with hb | hb
      · exact hb'.2 hb
      · have := hb'.1.2; omega
    · rcases hb with (hb | hb) | hb
      · exact ⟨(h1 b hb).1, Nat.lt_of_lt_of_le (h1 b hb).2 k1.size⟩
      · exact ⟨.inl (Nat.le_trans h.frame.size hb.1), hb.2⟩
      · exact ⟨hb.1.1, Nat.lt_of_lt_of_le hb.1.2 k1.size⟩

/-! ### Parts put together -/
theorem foldl_set (off : Nat) : ∀ (vs : List Value) (k : Nat) (cs : Array Value), off + k + vs.length ≤ cs.size →
    (vs.zipIdx k).foldl (fun cs (p : Value × Nat) => cs.setIfInBounds (off + p.2) p.1) cs = (splice cs.toList (off + k) vs).toArray
  | [], k, cs, h => by simp [splice]
  | v :: vs, k, cs, h => by
    simp only [List.length_cons] at h
    simp only [List.zipIdx_cons, List.foldl_cons]
    rw [foldl_set off vs (k + 1) _ (by simp; omega)]
    congr 1
    simp only [splice, Array.toList_setIfInBounds]
    have h1 : off + k < cs.toList.length := by simp; omega
    rw [show off + (k + 1) = off + k + 1 from rfl, List.take_succ_eq_append_getElem (by simpa using h1), List.take_set_of_le (Nat.le_refl _), List.getElem_set_self, List.drop_set_of_lt (by omega)]
    simp only [List.append_assoc, List.singleton_append, List.length_cons]
    rw [show off + k + 1 + vs.length = off + k + (vs.length + 1) by omega]
    rfl
/-- Parts laid over cells. -/
def bfill (place : Nat → Option (Nat × Nat)) : List Value → List (Nat × Value) → Option (List Value)
  | cs, [] => some cs
  | cs, (i, v) :: rest => match place i with
    | none => none
    | some (off, size) => match Nat.beq v.cells.toList.length size && Nat.ble (off + size) cs.length with
      | true => bfill place (splice cs off v.cells.toList) rest
      | false => none
theorem bfill_spec {place : Nat → Option (Nat × Nat)} : ∀ {parts : List (Nat × Value)} {cs : List Value} {r : List Value}, bfill place cs parts = some r → Instr.fill place cs.toArray parts = some r.toArray
  | [], cs, r, h => by simp only [bfill] at h; injection h with h; subst h; rfl
  | (i, v) :: rest, cs, r, h => by
    simp only [bfill] at h
    cases hp : place i <;> simp only [hp] at h <;> try contradiction
    rename_i q
    obtain ⟨off, size⟩ := q
    simp only at h
    split at h <;> try contradiction
    rename_i hq
    simp only [Bool.and_eq_true, Nat.beq_eq_true_eq, Nat.ble_eq] at hq
    obtain ⟨h1, h2⟩ := hq
    have h1' : v.cells.size = size := by simpa using h1
    have ih := bfill_spec h
    simp only [Instr.fill, hp]
    rw [if_neg (by simp [h1']; omega)]
    have := foldl_set off v.cells.toList 0 cs.toArray (by simp [h1']; omega)
    rw [Nat.add_zero] at this
    rw [show (Array.foldl (fun cs (x : Value × Nat) => cs.setIfInBounds (off + x.2) x.1) cs.toArray v.cells.zipIdx) = (splice cs off v.cells.toList).toArray by
      rw [← this, ← Array.foldl_toList, Array.toList_zipIdx]]
    exact ih
def zipV : List (Nat × Operand) → Env → Option (List (Nat × Value))
  | [], _ => some []
  | (i, x) :: r, E => match ev E x, zipV r E with
    | some v, some vs => some ((i, v) :: vs)
    | _, _ => none
theorem zipV_spec (ha : Fits n E a) : ∀ {ps : List (Nat × Operand)} {vs : List (Nat × Value)}, zipV ps E = some vs → ps.map (fun p => (p.1, a.eval p.2)) = vs
  | [], vs, h => by simp only [zipV, Option.some.injEq] at h; subst h; rfl
  | (i, x) :: r, vs, h => by
    simp only [zipV] at h
    cases h1 : ev E x <;> simp only [h1] at h <;> try contradiction
    cases h2 : zipV r E <;> simp only [h2] at h <;> try contradiction
    injection h with h
    subst h
    simp [ha.ev h1, zipV_spec ha h2]
/-- A struct's fields and its zero value's cells. -/
def sinfo (P : Program) (t : TypeId) : Option (List (Nat × Nat) × List Value) := match P.underlying t, P.info? t with
  | some (.struct fs), some i => match i.zero, fs.toList.mapM (fun f => (P.info? f.type).map fun i => (f.offset, i.size)) with
    | some z, some places => some (places, z.cells.toList)
    | _, _ => none
  | _, _ => none
theorem sinfo_run {places : List (Nat × Nat)} {zc : List Value} {parts : List (Nat × Value)} {cs : List Value} (h : sinfo P t = some (places, zc)) (hf : bfill (nth? places) zc parts = some cs) :
    (Instr.build t parts.toArray).run P W = .ok (.agg cs.toArray) W := by
  unfold sinfo at h
  split at h <;> try contradiction
  rename_i fs i hu hi
  split at h <;> try contradiction
  rename_i z places' hz hp
  injection h with h
  simp only [Prod.mk.injEq] at h
  obtain ⟨rfl, rfl⟩ := h
  have hf' := bfill_spec hf
  have e2 : nth? places' = (places'.toArray[·]?) := by funext x; simp [nth?_eq]
  rw [e2] at hf'
  refine run_build W t parts.toArray cs.toArray ?_
  simp only [Program.built, hi, hu, hz, hp]
  simpa using hf'
theorem bd {parts : Array (Nat × Operand)} {ps : List (Nat × Value)} {places : List (Nat × Nat)} {zc cs : List Value} (h : sinfo P t = some (places, zc)) (ho : o.op = .build t parts) (hp : zipV parts.toList E = some ps)
    (hf : bfill (nth? places) zc ps = some cs) : Runs P n E o W (.agg cs.toArray) W := by
  intro a ha
  have h1 := zipV_spec ha hp
  have h2 : parts.map (fun p => (p.1, a.eval p.2)) = ps.toArray := by rw [← h1]; apply Array.ext'; simp
  unfold execOp
  simp only [ho, Sem.run_bind]
  rw [show (parts.map fun (x : Nat × Operand) => match x with | (i, x) => (i, a.eval x)) = ps.toArray from h2, sinfo_run h hf]
  rfl

/-! ### A row out of parts -/
def partsFrom (k : Nat) : List Value → List (Nat × Value)
  | [] => []
  | v :: r => (k, v) :: partsFrom (k + 1) r
def zipRow : Nat → List (Nat × Operand) → Env → Option (List Value)
  | _, [], _ => some []
  | k, (i, x) :: r, E => match Nat.beq i k, ev E x, zipRow (k + 1) r E with
    | true, some v, some vs => some (v :: vs)
    | _, _, _ => none
theorem zipRow_spec (ha : Fits n E a) : ∀ {ps : List (Nat × Operand)} {k : Nat} {vs : List Value}, zipRow k ps E = some vs → ps.map (fun p => (p.1, a.eval p.2)) = partsFrom k vs
  | [], k, vs, h => by simp only [zipRow, Option.some.injEq] at h; subst h; rfl
  | (i, x) :: r, k, vs, h => by
    simp only [zipRow] at h
    cases h0 : Nat.beq i k <;> simp only [h0] at h <;> try contradiction
    obtain rfl := Nat.eq_of_beq_eq_true h0
    cases h1 : ev E x <;> simp only [h1] at h <;> try contradiction
    cases h2 : zipRow (i + 1) r E <;> simp only [h2] at h <;> try contradiction
    injection h with h
    subst h
    simp [partsFrom, ha.ev h1, zipRow_spec ha h2]
def cellsOf : List Value → List Value
  | [] => []
  | v :: r => v.cells.toList ++ cellsOf r
theorem cellsOf_length : ∀ {vs : List Value}, (∀ v ∈ vs, v.cells.toList.length = size) → (cellsOf vs).length = vs.length * size
  | [], _ => by simp [cellsOf]
  | v :: r, h => by simp only [cellsOf, List.length_append, List.length_cons, Nat.add_mul, Nat.one_mul]; rw [h v (by simp), cellsOf_length fun x hx => h x (by simp [hx])]; omega
theorem fill_from : ∀ {vs : List Value} {k : Nat} {pre post : List Value}, pre.length = k * size → post.length = vs.length * size → (∀ v ∈ vs, v.cells.toList.length = size) →
    bfill (fun i => some (i * size, size)) (pre ++ post) (partsFrom k vs) = some (pre ++ cellsOf vs)
  | [], k, pre, post, h1, h2, h3 => by
    have : post = [] := List.eq_nil_of_length_eq_zero (by simpa using h2)
    subst this
    rfl
  | v :: vs, k, pre, post, h1, h2, h3 => by
    have hv := h3 v (by simp)
    simp only [List.length_cons, Nat.add_mul, Nat.one_mul] at h2
    simp only [partsFrom, bfill, hv]
    have hb : (Nat.beq size size && Nat.ble (k * size + size) (pre ++ post).length) = true := by
      simp only [Nat.beq_refl, Bool.true_and, Nat.ble_eq, List.length_append]
      omega
    rw [hb]
    have hs : splice (pre ++ post) (k * size) v.cells.toList = (pre ++ v.cells.toList) ++ post.drop size := by
      simp only [splice, ← h1, List.take_left', List.append_assoc]
      congr 2
      rw [List.drop_append, hv]
      simp
    simp only [hs]
    rw [fill_from (by simp [h1, hv, Nat.add_mul]) (by simp; omega) fun x hx => h3 x (by simp [hx])]
    simp [cellsOf]
theorem run_buildSlice {k : Nat} {vs : List Value} (hu : P.underlying t = some (.slice e)) (ht : tinfo P e = some (ag, some zv, size, bytes)) (hk : vs.length = k) (hc : ∀ v ∈ vs, v.cells.toList.length = size) (hle : k * size ≤ 16777216) :
    (Instr.buildSlice t k (partsFrom 0 vs).toArray).run P W = .ok (.slice (some ⟨W.heap.size, 0, none⟩) k k) (W.alloc (.cells (cellsOf vs).toArray e)) := by
  have hf : ∀ zs : Array Value, zs.size = k * size → Instr.fill (fun i => some (i * size, size)) zs (partsFrom 0 vs) = some (cellsOf vs).toArray := by
    intro zs hz
    have := fill_from (size := size) (vs := vs) (k := 0) (pre := []) (post := zs.toList) (by simp) (by simp [hz, hk]) hc
    have := bfill_spec this
    simpa using this
  have hgt : ¬ (k * size > 2 ^ 24) := by
    have : (2 : Nat) ^ 24 = 16777216 := by decide
    omega
  unfold Instr.buildSlice
  simp only [Sem.run_bind, run_underlying hu, Result.andThen_ok, run_sizeOf ht, if_neg hgt, Sem.run_pure]
  by_cases h0 : k * size = 0
  · simp only [h0, if_true, Sem.run_bind, Sem.run_pure, Result.andThen_ok]
    rw [hf _ (by simp [h0])]
    simp [newRow]
  · simp only [h0, if_false, Sem.run_bind, run_zeroValue ht, Result.andThen_ok, Sem.run_pure]
    rw [hf _ (by simp)]
    simp [newRow]
end Go.Proofs.YtjpbdpfkhdekpaaGreatDoor.X
