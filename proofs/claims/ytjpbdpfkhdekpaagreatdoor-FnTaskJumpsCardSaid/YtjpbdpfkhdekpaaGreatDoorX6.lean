/- The program logic's rules for rows that a call makes: literals, append, make, stores, cuts; calls, a function's begin and end. -/
import Derived.Test.YtjpbdpfkhdekpaaGreatDoorX5
set_option linter.unusedVariables false
set_option linter.unusedSimpArgs false
namespace Go.Proofs.YtjpbdpfkhdekpaaGreatDoor.X
variable {P : Program} {n : Nat} {ops : Array Oper} {o : Oper} {rest : List Oper} {E E' : Env} {W W' w0 : World} {a : Act} {v u : Value} {K : Env → World → Prop} {M T : Nat → Prop} {L : List Ent}
variable {t e : TypeId} {ag : Bool} {z : Option Value} {zv : Value} {size bytes : Nat} {A A2 : Option Addr} {m c c2 : Nat} {α : Type} {enc : α → D} {l l2 r : List α} {i : Int} {x y : α}

theorem flats_length : ∀ {xs : List D} {cs : List Value}, flat.flats xs = some cs → cs.length = D.szs xs := fun h => D.owns_length (W := default) (S := fun _ => False) (flats_own h)
/-- The values' cells are the data's, one by one. -/
def flatV (enc : α → D) : List α → List Value → Bool → Prop
  | [], [], _ => True
  | x :: l, v :: vs, b => flat (enc x) = some v.cells.toList ∧ flatV enc l vs b
  | _, _, _ => False
theorem flatV_owns {W : World} : ∀ {l : List α} {vs : List Value}, flatV enc l vs true → l.length = vs.length ∧ D.owns W (l.map enc) (fun _ => False) (cellsOf vs) ∧ ∀ v ∈ vs, ∃ x ∈ l, v.cells.toList.length = (enc x).sz
  | [], [], _ => ⟨rfl, rfl, by simp⟩
  | x :: l, v :: vs, ⟨h1, h2⟩ => by
    obtain ⟨k1, k2, k3⟩ := flatV_owns (W := W) h2
    have h3 : D.own W (enc x) (fun _ => False) v.cells.toList := flat_own h1
    refine ⟨by simp [k1], ⟨fun _ => False, _, _, rfl, D.own_length h3, fun _ hf => hf, h3, D.owns_mono k2 fun _ hf => hf.elim⟩, fun w hw => ?_⟩
    rcases List.mem_cons.1 hw with rfl | hw
    · exact ⟨x, by simp, D.own_length h3⟩
    · obtain ⟨y, hy, e⟩ := k3 w hw
      exact ⟨y, by simp [hy], e⟩
  | [], _ :: _, h => h.elim
  | _ :: _, [], h => h.elim
/-- A row's literal. -/
theorem OpW.lit {k : Nat} {parts : Array (Nat × Operand)} {vs : List Value} (l : List α) (enc : α → D) (hu : P.underlying t = some (.slice e)) (ht : tinfo P e = some (ag, some zv, size, bytes)) (hS : Sep M w0 W L) (ho : o.op = .buildSlice t k parts)
    (hp : zipRow 0 parts.toList E = some vs) (hk : vs.length = k) (hl : k = l.length) (hf : flatV enc l vs true) (hsz : ∀ x ∈ l, (enc x).sz = size)
    (h : ∀ A c W', Sep M w0 W' (rowE A c e size enc l :: L) → K (put E o.dst (.slice A l.length c)) W') (hle : Nat.ble (k * size) 16777216 = true) (h0 : Nat.blt 0 size = true) (hg : o.guard = none) (hd : okD n o.dst = true) : OpW P n ops o E W K := by
  obtain ⟨f1, f2, f3⟩ := flatV_owns (W := W.alloc (.cells (cellsOf vs).toArray e)) hf
  have hvs : ∀ v ∈ vs, v.cells.toList.length = size := fun v hv => by
    obtain ⟨x, hx, e1⟩ := f3 v hv
    rw [e1, hsz x hx]
  subst hl
  refine .runs (W' := W.alloc (.cells (cellsOf vs).toArray e)) (v := .slice (some ⟨W.heap.size, 0, none⟩) l.length l.length) (fun a ha => ?_) hg hd (h _ _ _ ?_)
  · have h1 := zipRow_spec ha hp
    have h2 : parts.map (fun p => (p.1, a.eval p.2)) = (partsFrom 0 vs).toArray := by rw [← h1]; apply Array.ext'; simp
    unfold execOp
    simp only [ho, Sem.run_bind]
    rw [show (parts.map fun (x : Nat × Operand) => match x with | (i, x) => (i, a.eval x)) = (partsFrom 0 vs).toArray from h2, run_buildSlice hu ht hk hvs (Nat.le_of_ble_eq_true hle)]
    rfl
  · have hlen := cellsOf_length hvs
    refine hS.new (L' := [rowE (some ⟨W.heap.size, 0, none⟩) l.length e size enc l]) frame_alloc ⟨fun b => b = W.heap.size, fun b hb => by subst hb; simp, ?_, trivial⟩
    have hmax : l.length ≤ maxLen := by
      have h1 : 0 < size := by simpa [Nat.blt_eq] using h0
      have := Nat.le_of_ble_eq_true hle
      have h3 : l.length ≤ l.length * size := Nat.le_mul_of_pos_right _ h1
      simp only [maxLen]; omega
    have h5 := World.ownsRow_lit (base := 0) (e := e) (size := size) W (cellsOf vs).toArray l.length (Nat.zero_le _) hmax (by simp [hlen, hk])
    refine ⟨_, _, rfl, ⟨by simpa using h5, fun g hg => by simp only [Value.ownBlock, Option.some.injEq] at hg; exact hg.symm⟩, fun d hd => ?_, fun _ => False, fun _ hf => hf.elim, f2⟩
    obtain ⟨x, hx, rfl⟩ := List.mem_map.1 hd
    exact hsz x hx

theorem tinfo_parts (ht : tinfo P e = some (ag, some zv, size, bytes)) : ∃ i0, P.info? e = some i0 ∧ i0.zero = some zv ∧ i0.size = size ∧ i0.bytes = bytes := by
  obtain ⟨i, d, h1, h2, h3, h4, h5, h6⟩ := tinfo_spec ht
  exact ⟨i, h1, h4, h5, h6⟩
mutual
theorem D.own_one : ∀ {d : D} {S : Nat → Prop} {cs : List Value}, D.own W d S cs → ∀ u ∈ cs, u.oneCell' = true
  | .int _ _, _, _, h => by simp only [D.own] at h; subst h; simp [Value.oneCell']
  | .bool _, _, _, h => by simp only [D.own] at h; subst h; simp [Value.oneCell']
  | .str _, _, _, h => by simp only [D.own] at h; subst h; simp [Value.oneCell']
  | .agg xs, _, _, h => D.owns_one (xs := xs) h
  | .row _ _ xs, _, _, ⟨v, c, h1, h2, _⟩ => by
    subst h1
    intro u hu
    simp only [List.mem_singleton] at hu
    subst hu
    rcases h2.1.2 with ⟨rfl, _⟩ | ⟨g, cap, cur, rfl, _⟩ <;> rfl
theorem D.owns_one : ∀ {xs : List D} {S : Nat → Prop} {cs : List Value}, D.owns W xs S cs → ∀ u ∈ cs, u.oneCell' = true
  | [], _, _, h => by simp only [D.owns] at h; subst h; simp
  | x :: xs, _, _, ⟨S1, c1, c2, h1, h2, h3, h4, h5⟩ => by
    subst h1
    intro u hu
    rcases List.mem_append.1 hu with hu | hu
    · exact D.own_one h4 u hu
    · exact D.owns_one h5 u hu
end
theorem Sep.of_parts {S : Nat → Prop} {L' : List Ent} (hf : Frame M w0 W) (h1 : ∀ b, S b → OkS M w0 W b) (h3 : Owns W L (fun b => OkS M w0 W b ∧ ¬ S b)) (k1 : Frame S W W')
    (k2 : Owns W' L' (fun b => S b ∨ (W.heap.size ≤ b ∧ b < W'.heap.size))) : Sep M w0 W' (L' ++ L) := by
  refine ⟨hf.trans k1 fun b hb hs => ?_, ?_⟩
  · rcases (h1 b hs).1 with h4 | h4
    · omega
    · exact h4
  · have h4 : Owns W' L (fun b => OkS M w0 W b ∧ ¬ S b) := h3.agree fun b hb => k1.block b hb.1.2 hb.2
    refine (Owns.append k2 h4 fun b hb hb' => ?_).mono fun b hb => ?_
    · rcases hb with hb | hb
      · exact hb'.2 hb
      · have := hb'.1.2; omega
    · rcases hb with (hb | hb) | hb
      · exact ⟨(h1 b hb).1, Nat.lt_of_lt_of_le (h1 b hb).2 k1.size⟩
      · exact ⟨.inl (Nat.le_trans hf.size hb.1), hb.2⟩
      · exact ⟨hb.1.1, Nat.lt_of_lt_of_le hb.1.2 k1.size⟩
theorem app_key {S1 S2' : Nat → Prop} {k2 : List Value} {ty : TypeId} (hroom : (l.length + l2.length) * bytes ≤ 140737488355328) (hu : P.underlying t = some (.slice e)) (ht : tinfo P e = some (ag, some zv, size, bytes)) (hz : zv.cells.size = size) (hpos : 0 < size) (hbpos : 0 < bytes)
    (hS1 : ∀ b, S1 b → b < W.heap.size) (hS2 : ∀ b, S2' b → b < W.heap.size) (hd12 : ∀ b, S2' b → ¬ S1 b) (hx1 : (rowE A c e size enc l).holds W S1)
    (hnil : A2 = none → l2 = [] ∧ c2 = 0) (hnews : ∀ a, A2 = some a → ∀ j u, k2[j]? = some u → W.cell? (a.add j) = some u) (hk2 : k2.length = l2.length * size) (s2 : ∀ x ∈ l2.map enc, x.sz = size) (o2 : D.owns W (l2.map enc) S2' k2) :
    ∃ A' c' W', (Builtin.append_ #[t, t] ty #[.slice A l.length c, .slice A2 l2.length c2]).run P W = .ok (.slice A' (l ++ l2).length c') W' ∧ Frame S1 W W' ∧
      Owns W' [rowE A' c' e size enc (l ++ l2)] (fun b => (S1 b ∨ S2' b) ∨ (W.heap.size ≤ b ∧ b < W'.heap.size)) := by
  obtain ⟨i0, hi, hz0, hz1, hz2⟩ := tinfo_parts ht
  obtain ⟨v1, k1, e1, ⟨r1, b1⟩, s1, S1', p1, o1⟩ := hx1
  simp only [List.cons.injEq, and_true] at e1
  subst e1
  simp only [List.length_map] at r1
  have hone := D.owns_one o2
  cases A2 with
  | none =>
    obtain ⟨rfl, rfl⟩ := hnil rfl
    have hrun := run_append_owned_none (P := P) (w := W) 0 t ty e i0 size hu hi _ _ _ r1
    refine ⟨A, c, W, by simpa using hrun, Frame.refl _ _, S1, fun b hb => .inl (.inl hb), ?_, trivial⟩
    exact ⟨_, k1, rfl, ⟨by simpa using r1, by simpa using b1⟩, by simpa using s1, S1', by simpa using p1, by simpa using o1⟩
  | some ad =>
    have hmaxl : l.length + l2.length ≤ 140737488355328 := Nat.le_trans (Nat.le_mul_of_pos_right _ hbpos) hroom
    obtain ⟨v', W', hrun, hown, hgrow, hn0, hat⟩ := run_append_own_at (P := P) W 0 t ty e i0 zv size bytes hu hi hz0 hz1 hz2 hz hpos _ _ _ r1 ad l2.length c2 k2 hk2 (hnews ad rfl) hone (by simp only [maxLen]; omega) hroom (Nat.zero_le _)
    obtain ⟨A', c', rfl⟩ : ∃ A' c', v' = .slice A' (l.length + l2.length) c' := by
      rcases hown.2 with ⟨h1, h2⟩ | ⟨g, cap, cur, h1, _⟩
      · exact ⟨none, 0, by rw [h1, h2]⟩
      · exact ⟨_, _, h1⟩
    refine ⟨A', c', W', by simpa using hrun, Frame.of_grown hgrow fun b hb => b1 b hb, fun b => (S1 b ∨ S2' b) ∨ b = W.heap.size ∧ b < W'.heap.size, fun b hb => ?_, ?_, trivial⟩
    · rcases hb with hb | ⟨rfl, hb⟩
      · exact .inl hb
      · exact .inr ⟨Nat.le_refl _, hb⟩
    · refine ⟨_, k1 ++ k2, rfl, ⟨by simpa using hown, fun g hg0 => ?_⟩, fun x hx => ?_, fun b => S1' b ∨ S2' b, fun b hb => ⟨?_, ?_⟩, ?_⟩
      · have hg : Value.ownBlock (.slice A' (l.length + l2.length) c') = some g := by rw [List.length_append] at hg0; exact hg0
        rcases hat with hat | hat
        · exact .inl (.inl (b1 g (hat ▸ hg)))
        · have : g = W.heap.size := by
            have h1 := hg
            rw [hat] at h1
            injection h1 with h1
            exact h1.symm
          subst this
          rcases hown.lt W.heap.size hat with ⟨_, h2⟩
          exact .inr ⟨rfl, h2⟩
      · rcases List.mem_append.1 (by simpa using hx : x ∈ l.map enc ++ l2.map enc) with h1 | h1
        · exact s1 x h1
        · exact s2 x h1
      · rcases hb with hb | hb
        · exact .inl (.inl (p1 b hb).1)
        · exact .inl (.inr hb)
      · have hv : Value.ownBlock (.slice A' (l ++ l2).length c') = Value.ownBlock (.slice A' (l.length + l2.length) c') := by rw [List.length_append]
        rw [hv]
        rcases hat with hat | hat
        · rw [hat]
          intro he
          rcases hb with hb | hb
          · exact (p1 b hb).2 he
          · exact hd12 b hb (b1 b he)
        · rw [hat]
          intro he
          injection he with he
          subst he
          rcases hb with hb | hb
          · have := hS1 _ (p1 _ hb).1; omega
          · have := hS2 _ hb; omega
      · rw [List.map_append]
        have hag : ∀ (S : Nat → Prop), (∀ b, S b → b < W.heap.size) → (∀ b, S b → Value.ownBlock (.slice A l.length c) ≠ some b) → Agree S W W' := fun S h1 h2 b hb => hgrow.block b (h1 b hb) fun he => h2 b hb he.symm
        refine owns_append (D.owns_agree o1 (hag S1' (fun b hb => hS1 b (p1 b hb).1) fun b hb => (p1 b hb).2)) (D.owns_agree o2 (hag S2' hS2 fun b hb he => hd12 b hb (b1 b he))) fun b hb hb' => hd12 b hb' (p1 b hb).1
/-- append: both rows are the call's own, the second is used up. -/
theorem OpW.app {p q : Operand} (hr : app bytes l l2 = some r) (hS : Sep M w0 W (rowE A c e size enc l :: rowE A2 c2 e size enc l2 :: L)) (hu : P.underlying t = some (.slice e)) (ht : tinfo P e = some (ag, some zv, size, bytes))
    (ho : o.op = .call { callee := .builtin .append, args := #[p, q], argTypes := #[t, t] }) (hp : ev E p = some (.slice A l.length c)) (hq : ev E q = some (.slice A2 l2.length c2))
    (h : ∀ A c W', Sep M w0 W' (rowE A c e size enc r :: L) → K (put E o.dst (.slice A r.length c)) W')
    (hz : zv.cells.size = size) (h0 : Nat.blt 0 size = true) (hb0 : Nat.blt 0 bytes = true) (hg : o.guard = none) (hd : okD n o.dst = true) : OpW P n ops o E W K := by
  obtain ⟨rfl, hroom⟩ := app_some hr
  obtain ⟨S1, hS1, hx1, S2, hS2, hx2, hrest⟩ := hS.own
  obtain ⟨v2, k2, e2, ⟨r2, b2⟩, s2, S2', p2, o2⟩ := hx2
  simp only [List.cons.injEq, and_true] at e2
  subst e2
  simp only [List.length_map] at r2
  obtain ⟨A', c', W', hrun, hfr, hown⟩ := app_key (P := P) (W := W) (A2 := A2) (c2 := c2) (S1 := S1) (S2' := S2') (k2 := k2) (ty := o.type) hroom hu ht hz (by simpa [Nat.blt_eq] using h0) (by simpa [Nat.blt_eq] using hb0) (fun b hb => (hS1 b hb).2) (fun b hb => (hS2 b (p2 b hb).1).1.2) (fun b hb => (hS2 b (p2 b hb).1).2) hx1
    (fun hn => by
      subst hn
      rcases r2.2 with ⟨h1, h2⟩ | ⟨g, cap, cur, h1, _⟩
      · simp only [Value.slice.injEq, true_and] at h1
        exact ⟨List.eq_nil_of_length_eq_zero h2, h1.2⟩
      · cases h1)
    (fun a ha j u hj => by
      subst ha
      rcases r2.2 with ⟨h1, h2⟩ | ⟨g, cap, cur, h1, _⟩
      · cases h1
      · simp only [Value.slice.injEq, Option.some.injEq] at h1
        obtain ⟨rfl, _, rfl⟩ := h1
        exact r2.cells (g := g) rfl j u hj) r2.1 s2 o2
  refine .runs (W' := W') (v := .slice A' (l ++ l2).length c') (fun a ha => ?_) hg hd (h _ _ _ (Sep.of_parts hS.frame (S := fun b => S1 b ∨ S2 b) (fun b hb => hb.elim (hS1 b) fun hb => (hS2 b hb).1) (hrest.mono fun b hb => ⟨hb.1.1, fun hh => hh.elim hb.1.2 hb.2⟩)
    ⟨hfr.os, hfr.tape, hfr.output, hfr.size, fun b hb hn => hfr.block b hb fun h1 => hn (.inl h1)⟩ (hown.mono fun b hb => hb.imp (fun hb => hb.imp id fun hb => (p2 b hb).1) id)))
  unfold execOp
  simp only [ho, resolve, Deferred.ofValue, invoke, builtin, Sem.run_bind, Sem.run_pure, Result.andThen_ok]
  simp [ha.ev hp, ha.ev hq, hrun]
theorem rds_flat : ∀ {l : List α} {cs : List Value}, (∀ x ∈ l, (flat (enc x)).isSome = true) → D.rds W (l.map enc) T cs → D.owns W (l.map enc) (fun _ => False) cs
  | [], cs, _, h => h
  | x :: l, cs, hf, ⟨c1, c2, h1, h2, h3, h4⟩ => by
    obtain ⟨cx, hcx⟩ := Option.isSome_iff_exists.1 (hf x (by simp))
    have := flat_rd hcx h3
    subst this
    exact ⟨fun _ => False, _, c2, h1, h2, fun _ hf => hf, flat_own hcx, D.owns_mono (rds_flat (fun y hy => hf y (by simp [hy])) h4) fun _ hf => hf.elim⟩
/-- append: what is appended is only read; its elements have no rows inside. -/
theorem OpW.appr {p q : Operand} (hr : X.app bytes l l2 = some r) (hS : Sep M w0 W (rowE A c e size enc l :: L)) (hrd : Rd W T A2 c2 e size enc l2) (hfl : ∀ x, (flat (enc x)).isSome = true) (hu : P.underlying t = some (.slice e)) (ht : tinfo P e = some (ag, some zv, size, bytes))
    (ho : o.op = .call { callee := .builtin .append, args := #[p, q], argTypes := #[t, t] }) (hp : ev E p = some (.slice A l.length c)) (hq : ev E q = some (.slice A2 l2.length c2))
    (h : ∀ A c W', Sep M w0 W' (rowE A c e size enc r :: L) → K (put E o.dst (.slice A r.length c)) W')
    (hz : zv.cells.size = size) (h0 : Nat.blt 0 size = true) (hb0 : Nat.blt 0 bytes = true) (hg : o.guard = none) (hd : okD n o.dst = true) : OpW P n ops o E W K := by
  obtain ⟨rfl, hroom⟩ := app_some hr
  obtain ⟨S1, hS1, hx1, hrest⟩ := hS.own
  obtain ⟨A', cap, cs, e1, e2, e3, e4, e5, e6⟩ := hrd
  simp only [List.cons.injEq, and_true, Value.slice.injEq] at e1
  obtain ⟨rfl, _, rfl⟩ := e1
  have o2 := rds_flat (fun x _ => hfl x) e6
  have hlen : cs.length = l2.length * size := by rw [D.owns_length o2, szs_const e4, List.length_map]
  by_cases hne : l2 = []
  · subst hne
    have hcs : cs = [] := List.eq_nil_of_length_eq_zero (by simpa using hlen)
    subst hcs
    -- nothing is appended, whatever the second slice is
    obtain ⟨i0, hi, hz0, hz1, hz2⟩ := tinfo_parts ht
    obtain ⟨v1, k1, f1, ⟨r1, b1⟩, s1, S1', p1, o1⟩ := hx1
    simp only [List.cons.injEq, and_true] at f1
    subst f1
    simp only [List.length_map] at r1
    have hrun : (Builtin.append_ #[t, t] o.type #[.slice A l.length c, .slice A2 0 c2]).run P W = .ok (.slice A l.length c) W := by
      rcases r1.2 with ⟨hv, h00⟩ | ⟨g, cap, cur, hv, _, _, hnc, _⟩
      · simp only [Value.slice.injEq] at hv
        obtain ⟨rfl, hh, rfl⟩ := hv
        rw [hh]
        cases A2 <;> simp [Builtin.append_, run_underlying hu, sizeOf, typeInfo, hi, Builtin.lenOf, Builtin.firstCells, loadCells, loadCellsFrom]
      · simp only [Value.slice.injEq] at hv
        obtain ⟨rfl, _, rfl⟩ := hv
        cases A2 <;> simp [Builtin.append_, run_underlying hu, sizeOf, typeInfo, hi, Builtin.lenOf, Builtin.firstCells, hnc, storeCells, loadCells, loadCellsFrom]
    have hh := h A c W (by simpa using hS)
    refine .runs (W' := W) (v := .slice A l.length c) (fun a ha => ?_) hg hd (by simpa using hh)
    unfold execOp
    simp only [ho, resolve, Deferred.ofValue, invoke, builtin, Sem.run_bind, Sem.run_pure, Result.andThen_ok]
    simp at hq
    simp [ha.ev hp, ha.ev hq, hrun]
  · obtain ⟨ad, rfl, _, f3⟩ := e5 (by simpa using hne)
    obtain ⟨A', c', W', hrun, hfr, hown⟩ := app_key (P := P) (W := W) (A2 := some ad) (c2 := c2) (S1 := S1) (S2' := fun _ => False) (k2 := cs) (ty := o.type) hroom hu ht hz (by simpa [Nat.blt_eq] using h0) (by simpa [Nat.blt_eq] using hb0) (fun b hb => (hS1 b hb).2) (fun b hb => hb.elim) (fun b hb => hb.elim) hx1
      (fun hn => by cases hn) (fun a ha j u hj => by injection ha with ha; subst ha; exact f3 j u hj) hlen e4 o2
    refine .runs (W' := W') (v := .slice A' (l ++ l2).length c') (fun a ha => ?_) hg hd (h _ _ _ (Sep.of_parts hS.frame (S := S1) hS1 hrest hfr (hown.mono fun b hb => hb.imp (fun hb => hb.elim id False.elim) id)))
    unfold execOp
    simp only [ho, resolve, Deferred.ofValue, invoke, builtin, Sem.run_bind, Sem.run_pure, Result.andThen_ok]
    simp [ha.ev hp, ha.ev hq, hrun]
end Go.Proofs.YtjpbdpfkhdekpaaGreatDoor.X
