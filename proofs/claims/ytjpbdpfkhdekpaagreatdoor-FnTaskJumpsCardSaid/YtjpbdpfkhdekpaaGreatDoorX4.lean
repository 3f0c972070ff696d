/- The program logic's rules for rows: their elements, what is made, appended, cut, written. -/
import Derived.Test.YtjpbdpfkhdekpaaGreatDoorX3
import Derived.Laws.MakeOwn
set_option linter.unusedVariables false
set_option linter.unusedSimpArgs false
namespace Go.Proofs.YtjpbdpfkhdekpaaGreatDoor.X
variable {P : Program} {n : Nat} {ops : Array Oper} {o : Oper} {rest : List Oper} {E E' : Env} {W W' w0 : World} {a : Act} {v u : Value} {K : Env → World → Prop} {M T : Nat → Prop} {L : List Ent}
variable {t e : TypeId} {ag : Bool} {z : Option Value} {size bytes : Nat} {A : Option Addr} {m c : Nat} {α : Type} {enc : α → D} {l : List α} {i : Int} {x : α}

/-! ### The plain functions of a program's own words -/
/-- l[i] -/
def nth (l : List α) (i : Int) : Option α := if i < 0 then none else l[i.toNat]?
theorem nth_some (h : nth l i = some x) : 0 ≤ i ∧ i.toNat < l.length ∧ l[i.toNat]? = some x := by
  unfold nth at h
  split at h
  · cases h
  · refine ⟨by omega, ?_, h⟩
    rcases Nat.lt_or_ge i.toNat l.length with h1 | h1
    · exact h1
    · rw [List.getElem?_eq_none h1] at h; cases h
/-- A row whose elements are bytes long may be n long. -/
def roomy (bytes n : Nat) : Bool := Nat.ble (n * bytes) 140737488355328
/-- append(l, m...) -/
def app (bytes : Nat) (l m : List α) : Option (List α) := match roomy bytes (l.length + m.length) with
  | true => some (l ++ m)
  | false => none
theorem app_some {m r : List α} (h : app bytes l m = some r) : r = l ++ m ∧ (l.length + m.length) * bytes ≤ 140737488355328 := by
  unfold app at h
  split at h
  · rename_i hr
    injection h with h
    exact ⟨h.symm, Nat.le_of_ble_eq_true hr⟩
  · cases h
/-- make([]T, n) -/
def mk (bytes : Nat) (n : Int) (z : α) : Option (List α) := if n < 0 then none else match Nat.ble (n.toNat * bytes) 281474976710656 with
  | true => some (List.replicate n.toNat z)
  | false => none
theorem mk_some {n : Int} {z : α} {r : List α} (h : mk bytes n z = some r) : r = List.replicate n.toNat z ∧ 0 ≤ n ∧ n.toNat * bytes ≤ 281474976710656 := by
  unfold mk at h
  split at h
  · cases h
  · split at h
    · rename_i h1 hr
      injection h with h
      exact ⟨h.symm, by omega, Nat.le_of_ble_eq_true hr⟩
    · cases h
/-- l[lo:hi], hi at most the length -/
def cut (l : List α) (lo hi : Int) : Option (List α) := if 0 ≤ lo ∧ lo ≤ hi ∧ hi ≤ l.length then some ((l.take hi.toNat).drop lo.toNat) else none
theorem cut_some {lo hi : Int} {r : List α} (h : cut l lo hi = some r) : r = (l.take hi.toNat).drop lo.toNat ∧ 0 ≤ lo ∧ lo ≤ hi ∧ hi ≤ l.length := by
  unfold cut at h
  split at h
  · rename_i h1
    injection h with h
    exact ⟨h.symm, h1⟩
  · cases h
/-- l[i] = x -/
def upd (l : List α) (i : Int) (x : α) : Option (List α) := if 0 ≤ i ∧ i < l.length then some (l.set i.toNat x) else none
theorem upd_some {r : List α} (h : upd l i x = some r) : r = l.set i.toNat x ∧ 0 ≤ i ∧ i.toNat < l.length := by
  unfold upd at h
  split at h
  · rename_i h1
    injection h with h
    exact ⟨h.symm, h1.1, by omega⟩
  · cases h

/-! ### A row that is read -/
/-- '.slice A l.length c' reads as l, all of it in blocks of T. -/
abbrev Rd (W : World) (T : Nat → Prop) (A : Option Addr) (c : Nat) (e size : Nat) (enc : α → D) (l : List α) : Prop := D.rd W (.row e size (l.map enc)) T [.slice A l.length c]
theorem rds_get : ∀ {xs : List D} {cs : List Value} {i : Nat} {x : D}, D.rds W xs T cs → (∀ x ∈ xs, x.sz = size) → xs[i]? = some x → ∃ ci, D.rd W x T ci ∧ ci.length = size ∧ ∀ j u, ci[j]? = some u → cs[i * size + j]? = some u
  | [], _, i, _, _, _, hi => by simp at hi
  | y :: xs, cs, 0, x, ⟨c1, c2, h1, h2, h3, h4⟩, hs, hi => by
    have : y = x := by simpa using hi
    subst this
    have h5 := hs y (by simp)
    refine ⟨c1, h3, by omega, fun j u hj => ?_⟩
    have hlt : j < c1.length := by
      rcases Nat.lt_or_ge j c1.length with h | h
      · exact h
      · rw [List.getElem?_eq_none h] at hj; cases hj
    rw [h1, Nat.zero_mul, Nat.zero_add, List.getElem?_append_left hlt]
    exact hj
  | y :: xs, cs, i + 1, x, ⟨c1, c2, h1, h2, h3, h4⟩, hs, hi => by
    obtain ⟨ci, k1, k2, k3⟩ := rds_get (i := i) h4 (fun z hz => hs z (by simp [hz])) (by simpa using hi)
    refine ⟨ci, k1, k2, fun j u hj => ?_⟩
    have h5 := hs y (by simp)
    have : (i + 1) * size + j = c1.length + (i * size + j) := by rw [h2, h5, Nat.add_mul]; omega
    rw [h1, this, List.getElem?_append_right (by omega)]
    simpa using k3 j u hj
theorem Rd.lt (h : Rd W T A c e size enc l) : l.length ≤ maxLen := by
  obtain ⟨A', cap, cs, h1, h2, h3, _⟩ := h
  simpa using h3
/-- An element's cells. -/
theorem Rd.elt (h : Rd W T A c e size enc l) (hx : nth l i = some x) : ∃ cs, D.rd W (enc x) T cs ∧ cs.length = size ∧ ∀ j u, cs[j]? = some u → W.cell? (elemA A (i.toNat * size + j)) = some u := by
  obtain ⟨h0, h1, h2⟩ := nth_some hx
  obtain ⟨A', cap, cs, e1, e2, e3, e4, e5, e6⟩ := h
  simp only [List.cons.injEq, and_true, Value.slice.injEq] at e1
  obtain ⟨rfl, _, rfl⟩ := e1
  obtain ⟨ci, k1, k2, k3⟩ := rds_get (i := i.toNat) (x := enc x) e6 e4 (by simp [h2])
  have hne : l.map enc ≠ [] := by intro hn; rw [List.map_eq_nil_iff] at hn; subst hn; simp at h1
  obtain ⟨ad, rfl, _, f2⟩ := e5 hne
  exact ⟨ci, k1, k2, fun j u hj => f2 _ _ (k3 j u hj)⟩
theorem Rd.some (h : Rd W T A c e size enc l) (hx : nth l i = some x) : ∃ ad, A = some ad := by
  obtain ⟨h0, h1, h2⟩ := nth_some hx
  obtain ⟨A', cap, cs, e1, e2, e3, e4, e5, e6⟩ := h
  simp only [List.cons.injEq, and_true, Value.slice.injEq] at e1
  obtain ⟨rfl, _, rfl⟩ := e1
  have hne : l.map enc ≠ [] := by intro hn; rw [List.map_eq_nil_iff] at hn; subst hn; simp at h1
  obtain ⟨ad, rfl, _⟩ := e5 hne
  exact ⟨ad, rfl⟩
/-- The address of an element. -/
theorem ix {k : IntKind} {p q : Operand} (hr : Rd W' T A c e size enc l) (hx : nth l i = some x) (hu : P.underlying t = some (.slice e)) (ht : tinfo P e = some (ag, z, size, bytes)) (ho : o.op = .indexAddr t p q)
    (hp : ev E p = some (.slice A l.length c)) (hq : ev E q = some (.int k i)) : Runs P n E o W (.pointer (some (elemA A (i.toNat * size + 0)))) W := by
  intro a ha
  obtain ⟨h0, h1, h2⟩ := nth_some hx
  obtain ⟨ad, rfl⟩ := hr.some hx
  unfold execOp
  simp only [ho, ha.ev hp, ha.ev hq, Sem.run_bind, Instr.indexAt, asIntOf, Sem.run_pure, Result.andThen_ok, run_underlying hu, elemA, Option.getD_some, Nat.add_zero]
  rw [if_pos ⟨h0, by omega⟩]
  simp [run_sizeOf ht]
/-- A part of an element is read. -/
theorem lde {k j : Nat} {cs : List Value} {p : Operand} (hc : ∀ j u, cs[j]? = some u → W.cell? (elemA A (k + j)) = some u) (ht : tinfo P t = some (ag, z, size, bytes)) (ho : o.op = .load t p) (hp : ev E p = some (.pointer (some (elemA A (k + j)))))
    (hv : ofCells ag (seg cs j size) = v) (hl : (seg cs j size).length = size) (h2 : (ag || Nat.beq size 1) = true) : Runs P n E o W v W := by
  intro a ha
  have hr := run_loadVar (P := P) (W := W) (ad := elemA A (k + j)) (cs := seg cs j size) ht hl (fun e => by subst e; simpa using h2) (fun i u hu => by
    have hadd : (elemA A (k + j)).add i = elemA A (k + (j + i)) := by unfold elemA; rw [Addr.add_add, Nat.add_assoc]
    rw [hadd]
    refine hc _ _ ?_
    simp only [seg, List.getElem?_take, List.getElem?_drop] at hu
    split at hu
    · simpa using hu
    · cases hu)
  unfold execOp
  simp only [ho, ha.ev hp, Instr.loadAt, Instr.sureAddr, Sem.run_bind, Sem.run_pure, Result.andThen_ok, hr, hv]

/-! ### What came in stays readable -/
theorem Sep.agree (h : Sep M w0 W L) : Agree (fun b => b < w0.heap.size ∧ ¬ M b) w0 W := fun b hb => h.frame.block b hb.1 hb.2
theorem Sep.rd {d : D} {cs : List Value} (h : Sep M w0 W L) (hr : D.rd w0 d (fun b => b < w0.heap.size ∧ ¬ M b) cs) : D.rd W d (fun b => b < w0.heap.size ∧ ¬ M b) cs := D.rd_agree hr h.agree
/-- A row of the call's own can be read. -/
theorem Sep.own_rd {xs : List D} (h : Sep M w0 W (.row v e size xs :: L)) : ∃ S, (∀ b, S b → OkS M w0 W b) ∧ D.rd W (.row e size xs) S [v] := by
  obtain ⟨S, h1, h2, _⟩ := h.own
  exact ⟨S, h1, D.own_rd (d := .row e size xs) h2⟩

/-! ### Rows of the call's own -/
abbrev rowE (A : Option Addr) (c : Nat) (e size : Nat) (enc : α → D) (l : List α) : Ent := .row (.slice A l.length c) e size (l.map enc)
theorem Sep.nil (h : Sep M w0 W L) (e size : Nat) (enc : α → D) : Sep M w0 W (rowE none 0 e size enc ([] : List α) :: L) :=
  ⟨h.frame, fun _ => False, fun _ hf => hf.elim, ⟨_, [], rfl, ⟨World.ownsRow_nil W 0 e size, fun g hg => by simp [Value.ownBlock] at hg⟩, by simp, fun _ => False, fun _ hf => hf.elim, rfl⟩, h.own.mono fun b hb => ⟨hb, id⟩⟩

/-- The cells of data without rows inside. -/
def flat : D → Option (List Value)
  | .int k n => some [.int k n]
  | .bool b => some [.bool b]
  | .str s => some [.string s]
  | .row .. => none
  | .agg xs => flats xs
where flats : List D → Option (List Value)
  | [] => some []
  | x :: xs => match flat x, flats xs with
    | some a, some b => some (a ++ b)
    | _, _ => none
mutual
theorem flat_own : ∀ {d : D} {cs : List Value} {S : Nat → Prop}, flat d = some cs → D.own W d S cs
  | .int _ _, _, _, h => by simp only [flat] at h; injection h with h; exact h.symm
  | .bool _, _, _, h => by simp only [flat] at h; injection h with h; exact h.symm
  | .str _, _, _, h => by simp only [flat] at h; injection h with h; exact h.symm
  | .row .., _, _, h => by simp only [flat] at h; cases h
  | .agg xs, _, _, h => by simp only [flat] at h; exact flats_own (xs := xs) h
theorem flats_own : ∀ {xs : List D} {cs : List Value} {S : Nat → Prop}, flat.flats xs = some cs → D.owns W xs S cs
  | [], _, _, h => by simp only [flat.flats] at h; injection h with h; exact h.symm
  | x :: xs, _, S, h => by
    simp only [flat.flats] at h
    cases h1 : flat x <;> simp only [h1] at h <;> try contradiction
    cases h2 : flat.flats xs <;> simp only [h2] at h <;> try contradiction
    injection h with h
    subst h
    rename_i c1 c2
    have h3 : D.own W x (fun _ => False) c1 := flat_own h1
    exact ⟨fun _ => False, c1, c2, rfl, D.own_length h3, fun _ hf => hf.elim, h3, flats_own h2⟩
end
mutual
theorem flat_rd : ∀ {d : D} {cs cs' : List Value}, flat d = some cs → D.rd W d T cs' → cs' = cs
  | .int _ _, _, _, h, hr => by simp only [flat] at h; injection h with h; subst h; exact hr
  | .bool _, _, _, h, hr => by simp only [flat] at h; injection h with h; subst h; exact hr
  | .str _, _, _, h, hr => by simp only [flat] at h; injection h with h; subst h; exact hr
  | .row .., _, _, h, _ => by simp only [flat] at h; cases h
  | .agg xs, _, _, h, hr => by simp only [flat] at h; exact flats_rd (xs := xs) h hr
theorem flats_rd : ∀ {xs : List D} {cs cs' : List Value}, flat.flats xs = some cs → D.rds W xs T cs' → cs' = cs
  | [], _, _, h, hr => by simp only [flat.flats] at h; injection h with h; subst h; exact hr
  | x :: xs, _, _, h, ⟨c1, c2, h1, h2, h3, h4⟩ => by
    simp only [flat.flats] at h
    cases k1 : flat x <;> simp only [k1] at h <;> try contradiction
    cases k2 : flat.flats xs <;> simp only [k2] at h <;> try contradiction
    injection h with h
    subst h
    rw [h1, flat_rd k1 h3, flats_rd k2 h4]
end
theorem owns_mono_all {xs : List D} {S T : Nat → Prop} {cs : List Value} (h : D.owns W xs S cs) (hs : ∀ b, S b → T b) : D.owns W xs T cs := D.owns_mono h hs
theorem owns_append : ∀ {xs ys : List D} {S S' : Nat → Prop} {c1 c2 : List Value}, D.owns W xs S c1 → D.owns W ys S' c2 → (∀ b, S b → ¬ S' b) → D.owns W (xs ++ ys) (fun b => S b ∨ S' b) (c1 ++ c2)
  | [], ys, S, S', c1, c2, h, h', _ => by
    have : c1 = [] := h
    subst this
    exact D.owns_mono h' fun b hb => .inr hb
  | x :: xs, ys, S, S', _, c2, ⟨S1, d1, d2, h1, h2, h3, h4, h5⟩, h', hd => ⟨S1, d1, d2 ++ c2, by rw [h1, List.append_assoc], h2, fun b hb => .inl (h3 b hb), h4,
      D.owns_mono (owns_append h5 h' fun b hb => hd b hb.1) fun b hb => by
        rcases hb with hb | hb
        · exact ⟨.inl hb.1, hb.2⟩
        · exact ⟨.inr hb, fun hs => hd b (h3 b hs) hb⟩⟩
end Go.Proofs.YtjpbdpfkhdekpaaGreatDoor.X
