/- The program logic's memory: data as trees, rows that a call owns, variables in memory, and what a call leaves as it was. -/
import Derived.Test.YtjpbdpfkhdekpaaGreatDoorX1
import Derived.Laws.AppendOwn
import Derived.Maps.AppendAt
import Derived.Laws.OwnMore
set_option linter.unusedVariables false
set_option linter.unusedSimpArgs false
namespace Go.Proofs.YtjpbdpfkhdekpaaGreatDoor.X

/-- Data: numbers, strings, rows with their element type and its cells, structs. -/
inductive D where
  | int (k : IntKind) (n : Int)
  | bool (b : Bool)
  | str (s : ByteArray)
  | row (e : TypeId) (size : Nat) (xs : List D)
  | agg (xs : List D)

mutual
def D.sz : D → Nat
  | .agg xs => D.szs xs
  | _ => 1
def D.szs : List D → Nat
  | [] => 0
  | x :: xs => x.sz + D.szs xs
end
/-- The slice v has n elements of the type e; its cells are these; it lies at the begin of a block of S. -/
def RowAt (W : World) (S : Nat → Prop) (v : Value) (e size n : Nat) (cs : List Value) : Prop :=
  W.ownsRow 0 e size v n cs ∧ ∀ g, v.ownBlock = some g → S g
mutual
/-- The cells cs bear d in W; all memory behind them lies in blocks of S, each row in a block of its own. -/
def D.own (W : World) : D → (Nat → Prop) → List Value → Prop
  | .int k n, S, cs => cs = [.int k n]
  | .bool b, S, cs => cs = [.bool b]
  | .str s, S, cs => cs = [.string s]
  | .agg xs, S, cs => D.owns W xs S cs
  | .row e size xs, S, cs => ∃ v c, cs = [v] ∧ RowAt W S v e size xs.length c ∧ (∀ x ∈ xs, x.sz = size) ∧ ∃ S', (∀ b, S' b → S b ∧ v.ownBlock ≠ some b) ∧ D.owns W xs S' c
def D.owns (W : World) : List D → (Nat → Prop) → List Value → Prop
  | [], S, cs => cs = []
  | x :: xs, S, cs => ∃ S1 c1 c2, cs = c1 ++ c2 ∧ c1.length = x.sz ∧ (∀ b, S1 b → S b) ∧ D.own W x S1 c1 ∧ D.owns W xs (fun b => S b ∧ ¬ S1 b) c2
end
mutual
/-- The cells cs read as d in W; all memory behind them lies in blocks of T. -/
def D.rd (W : World) : D → (Nat → Prop) → List Value → Prop
  | .int k n, T, cs => cs = [.int k n]
  | .bool b, T, cs => cs = [.bool b]
  | .str s, T, cs => cs = [.string s]
  | .agg xs, T, cs => D.rds W xs T cs
  | .row e size xs, T, cs => ∃ A cap c, cs = [.slice A xs.length cap] ∧ xs.length ≤ cap ∧ xs.length ≤ maxLen ∧ (∀ x ∈ xs, x.sz = size) ∧
      (xs ≠ [] → ∃ ad, A = some ad ∧ T ad.block ∧ ∀ j u, c[j]? = some u → W.cell? (ad.add j) = some u) ∧ D.rds W xs T c
def D.rds (W : World) : List D → (Nat → Prop) → List Value → Prop
  | [], T, cs => cs = []
  | x :: xs, T, cs => ∃ c1 c2, cs = c1 ++ c2 ∧ c1.length = x.sz ∧ D.rd W x T c1 ∧ D.rds W xs T c2
end

variable {W W' : World} {S T S' T' : Nat → Prop} {v : Value} {e size n : Nat} {cs : List Value}

def Agree (S : Nat → Prop) (W W' : World) : Prop := ∀ b, S b → W'.heap[b]? = W.heap[b]?
theorem Agree.refl (S : Nat → Prop) (W : World) : Agree S W W := fun _ _ => rfl
theorem Agree.mono (h : Agree S W W') (hs : ∀ b, T b → S b) : Agree T W W' := fun b hb => h b (hs b hb)

theorem ownsRow_agree {base : Nat} (h : W.ownsRow base e size v n cs) (ha : ∀ g, v.ownBlock = some g → W'.heap[g]? = W.heap[g]?) : W'.ownsRow base e size v n cs := by
  refine ⟨h.1, ?_⟩
  rcases h.2 with hn | ⟨g, cap, cur, rfl, hb, hg, r⟩
  · exact .inl hn
  · exact .inr ⟨g, cap, cur, rfl, hb, (ha g rfl).trans hg, r⟩
theorem RowAt.agree (h : RowAt W S v e size n cs) (ha : Agree S W W') : RowAt W' S v e size n cs :=
  ⟨ownsRow_agree h.1 fun g hg => ha g (h.2 g hg), h.2⟩
theorem RowAt.mono (h : RowAt W S v e size n cs) (hs : ∀ b, S b → T b) : RowAt W T v e size n cs := ⟨h.1, fun g hg => hs g (h.2 g hg)⟩

mutual
theorem D.own_agree : ∀ {d : D} {S : Nat → Prop} {cs : List Value}, D.own W d S cs → Agree S W W' → D.own W' d S cs
  | .int _ _, _, _, h, _ => h
  | .bool _, _, _, h, _ => h
  | .str _, _, _, h, _ => h
  | .agg xs, _, _, h, ha => D.owns_agree (xs := xs) h ha
  | .row _ _ xs, _, _, ⟨v, c, h1, h2, h3, S', h4, h5⟩, ha => ⟨v, c, h1, h2.agree ha, h3, S', h4, D.owns_agree h5 (ha.mono fun b hb => (h4 b hb).1)⟩
theorem D.owns_agree : ∀ {xs : List D} {S : Nat → Prop} {cs : List Value}, D.owns W xs S cs → Agree S W W' → D.owns W' xs S cs
  | [], _, _, h, _ => h
  | x :: xs, _, _, ⟨S1, c1, c2, h1, h2, h3, h4, h5⟩, ha => ⟨S1, c1, c2, h1, h2, h3, D.own_agree h4 (ha.mono h3), D.owns_agree h5 (ha.mono fun b hb => hb.1)⟩
end
mutual
theorem D.own_mono : ∀ {d : D} {S T : Nat → Prop} {cs : List Value}, D.own W d S cs → (∀ b, S b → T b) → D.own W d T cs
  | .int _ _, _, _, _, h, _ => h
  | .bool _, _, _, _, h, _ => h
  | .str _, _, _, _, h, _ => h
  | .agg xs, _, _, _, h, ha => D.owns_mono (xs := xs) h ha
  | .row _ _ xs, _, _, _, ⟨v, c, h1, h2, h3, S', h4, h5⟩, ha => ⟨v, c, h1, h2.mono ha, h3, S', fun b hb => ⟨ha b (h4 b hb).1, (h4 b hb).2⟩, h5⟩
theorem D.owns_mono : ∀ {xs : List D} {S T : Nat → Prop} {cs : List Value}, D.owns W xs S cs → (∀ b, S b → T b) → D.owns W xs T cs
  | [], _, _, _, h, _ => h
  | x :: xs, _, _, _, ⟨S1, c1, c2, h1, h2, h3, h4, h5⟩, ha => ⟨S1, c1, c2, h1, h2, fun b hb => ha b (h3 b hb), h4, D.owns_mono h5 fun b hb => ⟨ha b hb.1, hb.2⟩⟩
end
mutual
theorem D.own_length : ∀ {d : D} {S : Nat → Prop} {cs : List Value}, D.own W d S cs → cs.length = d.sz
  | .int _ _, _, _, h => by simp only [D.own] at h; subst h; rfl
  | .bool _, _, _, h => by simp only [D.own] at h; subst h; rfl
  | .str _, _, _, h => by simp only [D.own] at h; subst h; rfl
  | .agg xs, _, _, h => by simp only [D.sz]; exact D.owns_length (xs := xs) h
  | .row _ _ xs, _, _, ⟨v, c, h1, _⟩ => by subst h1; rfl
theorem D.owns_length : ∀ {xs : List D} {S : Nat → Prop} {cs : List Value}, D.owns W xs S cs → cs.length = D.szs xs
  | [], _, _, h => by simp only [D.owns] at h; subst h; rfl
  | x :: xs, _, _, ⟨S1, c1, c2, h1, h2, h3, h4, h5⟩ => by subst h1; simp only [List.length_append, D.szs, h2, D.owns_length h5]
end
mutual
theorem D.rd_agree : ∀ {d : D} {T : Nat → Prop} {cs : List Value}, D.rd W d T cs → Agree T W W' → D.rd W' d T cs
  | .int _ _, _, _, h, _ => h
  | .bool _, _, _, h, _ => h
  | .str _, _, _, h, _ => h
  | .agg xs, _, _, h, ha => D.rds_agree (xs := xs) h ha
  | .row _ _ xs, T, _, ⟨A, cap, c, h1, h2, h3, h4, h5, h6⟩, ha => ⟨A, cap, c, h1, h2, h3, h4, fun hne => by
      obtain ⟨ad, e1, e2, e3⟩ := h5 hne
      exact ⟨ad, e1, e2, fun j u hj => by
        have hb : (ad.add j).block = ad.block := by unfold Addr.add; split <;> rfl
        rw [World.cell?_of_block (w := W) (w' := W') (by rw [hb]; exact ha _ e2)]
        exact e3 j u hj⟩, D.rds_agree h6 ha⟩
theorem D.rds_agree : ∀ {xs : List D} {T : Nat → Prop} {cs : List Value}, D.rds W xs T cs → Agree T W W' → D.rds W' xs T cs
  | [], _, _, h, _ => h
  | x :: xs, _, _, ⟨c1, c2, h1, h2, h4, h5⟩, ha => ⟨c1, c2, h1, h2, D.rd_agree h4 ha, D.rds_agree h5 ha⟩
end
mutual
theorem D.rd_mono : ∀ {d : D} {T T' : Nat → Prop} {cs : List Value}, D.rd W d T cs → (∀ b, T b → T' b) → D.rd W d T' cs
  | .int _ _, _, _, _, h, _ => h
  | .bool _, _, _, _, h, _ => h
  | .str _, _, _, _, h, _ => h
  | .agg xs, _, _, _, h, ha => D.rds_mono (xs := xs) h ha
  | .row _ _ xs, T, _, _, ⟨A, cap, c, h1, h2, h3, h4, h5, h6⟩, ha => ⟨A, cap, c, h1, h2, h3, h4, fun hne => by
      obtain ⟨ad, e1, e2, e3⟩ := h5 hne
      exact ⟨ad, e1, ha _ e2, e3⟩, D.rds_mono h6 ha⟩
theorem D.rds_mono : ∀ {xs : List D} {T T' : Nat → Prop} {cs : List Value}, D.rds W xs T cs → (∀ b, T b → T' b) → D.rds W xs T' cs
  | [], _, _, _, h, _ => h
  | x :: xs, _, _, _, ⟨c1, c2, h1, h2, h4, h5⟩, ha => ⟨c1, c2, h1, h2, D.rd_mono h4 ha, D.rds_mono h5 ha⟩
end
theorem szs_const : ∀ {xs : List D} {size : Nat}, (∀ x ∈ xs, x.sz = size) → D.szs xs = xs.length * size
  | [], _, _ => by simp [D.szs]
  | x :: xs, size, h => by
    simp only [D.szs, List.length_cons, Nat.add_mul, Nat.one_mul]
    rw [h x (by simp), szs_const fun y hy => h y (by simp [hy])]
    omega
mutual
theorem D.own_rd : ∀ {d : D} {S : Nat → Prop} {cs : List Value}, D.own W d S cs → D.rd W d S cs
  | .int _ _, _, _, h => h
  | .bool _, _, _, h => h
  | .str _, _, _, h => h
  | .agg xs, _, _, h => D.owns_rds (xs := xs) h
  | .row e size xs, S, _, ⟨v, c, h1, h2, h3, S', h4, h5⟩ => by
    obtain ⟨⟨hl, hr⟩, hS⟩ := h2
    rcases hr with ⟨rfl, h0⟩ | ⟨g, cap, cur, rfl, _, hg, hnc, hcm, hcs, htake⟩
    · have hx : xs = [] := List.eq_nil_of_length_eq_zero h0
      subst hx
      exact ⟨none, 0, c, h1, Nat.le_refl _, by simp [maxLen], h3, fun hne => absurd rfl hne, D.rds_mono (D.owns_rds h5) fun b hb => (h4 b hb).1⟩
    · refine ⟨some ⟨g, 0, none⟩, cap, c, h1, hnc, Nat.le_trans hnc hcm, h3, fun hne => ⟨_, rfl, hS g rfl, fun j u hj => ?_⟩, D.rds_mono (D.owns_rds h5) fun b hb => (h4 b hb).1⟩
      have hadd : (⟨g, 0, none⟩ : Addr).add j = ⟨g, j, none⟩ := by unfold Addr.add; split <;> simp_all
      rw [hadd, cell_of_row W g j cur e (0, 0) hg]
      rw [← htake, List.getElem?_take] at hj
      split at hj
      · simpa using hj
      · cases hj
theorem D.owns_rds : ∀ {xs : List D} {S : Nat → Prop} {cs : List Value}, D.owns W xs S cs → D.rds W xs S cs
  | [], _, _, h => h
  | x :: xs, S, _, ⟨S1, c1, c2, h1, h2, h3, h4, h5⟩ => ⟨c1, c2, h1, h2, D.rd_mono (D.own_rd h4) h3, D.rds_mono (D.owns_rds h5) fun b hb => hb.1⟩
end

/-! ### What a call may change, what it owns -/
structure Frame (M : Nat → Prop) (w W : World) : Prop where
  os : W.os = w.os
  tape : W.tape = w.tape
  output : W.output = w.output
  size : w.heap.size ≤ W.heap.size
  block : ∀ b, b < w.heap.size → ¬ M b → W.heap[b]? = w.heap[b]?
variable {M M' : Nat → Prop} {w w0 W1 W2 : World}
theorem Frame.refl (M : Nat → Prop) (w : World) : Frame M w w := ⟨rfl, rfl, rfl, Nat.le_refl _, fun _ _ _ => rfl⟩
theorem Frame.trans (h : Frame M w W1) (k : Frame M' W1 W2) (hM : ∀ b, b < w.heap.size → M' b → M b) : Frame M w W2 :=
  ⟨k.os.trans h.os, k.tape.trans h.tape, k.output.trans h.output, Nat.le_trans h.size k.size, fun b hb hn => (k.block b (Nat.lt_of_lt_of_le hb h.size) fun hm => hn (hM b hb hm)).trans (h.block b hb hn)⟩
theorem Frame.of_grown {row : Option Nat} (h : w.grownBy W row) (hr : ∀ b, row = some b → M b) : Frame M w W :=
  ⟨h.os, h.tape, h.output, h.size, fun b hb hn => h.block b hb fun e => hn (hr b e.symm)⟩
theorem Frame.drewN (M : Nat → Prop) (w : World) (m : Nat) : Frame M w { w with drawn := m } := ⟨rfl, rfl, rfl, Nat.le_refl _, fun _ _ _ => rfl⟩

/-- A row of which the i-th element is out: that element's cells are cs, what lies behind them isn't spoken of. -/
def Hole (W : World) (v : Value) (e size : Nat) (xs : List D) (i : Nat) (cs : List Value) (S : Nat → Prop) : Prop :=
  ∃ c1 c2, RowAt W S v e size xs.length (c1 ++ (cs ++ c2)) ∧ c1.length = i * size ∧ cs.length = size ∧ i < xs.length ∧ (∀ x ∈ xs, x.sz = size) ∧
    ∃ S', (∀ b, S' b → S b ∧ v.ownBlock ≠ some b) ∧ D.owns W (xs.take i ++ xs.drop (i + 1)) S' (c1 ++ c2)
theorem Hole.agree {xs : List D} {i : Nat} (h : Hole W v e size xs i cs S) (ha : Agree S W W') : Hole W' v e size xs i cs S := by
  obtain ⟨c1, c2, h1, h2, h3, h4, h5, S', h7, h8⟩ := h
  exact ⟨c1, c2, h1.agree ha, h2, h3, h4, h5, S', h7, D.owns_agree h8 (ha.mono fun b hb => (h7 b hb).1)⟩
theorem Hole.mono {xs : List D} {i : Nat} (h : Hole W v e size xs i cs S) (hs : ∀ b, S b → T b) : Hole W v e size xs i cs T := by
  obtain ⟨c1, c2, h1, h2, h3, h4, h5, S', h7, h8⟩ := h
  exact ⟨c1, c2, h1.mono hs, h2, h3, h4, h5, S', fun b hb => ⟨hs b (h7 b hb).1, (h7 b hb).2⟩, h8⟩
inductive Ent where
  | row (v : Value) (e size : Nat) (xs : List D)
  | box (g : Nat) (t : TypeId) (cs : List Value)
  | hole (v : Value) (e size : Nat) (xs : List D) (i : Nat) (cs : List Value)
  | dat (ds : List D) (cs : List Value)
def Ent.holds (W : World) : Ent → (Nat → Prop) → Prop
  | .row v e size xs, S => D.own W (.row e size xs) S [v]
  | .box g t cs, S => S g ∧ W.heap[g]? = some (.cells cs.toArray t (0, 0))
  | .hole v e size xs i cs, S => Hole W v e size xs i cs S
  | .dat ds cs, S => D.owns W ds S cs
theorem Ent.holds_agree {x : Ent} (h : x.holds W S) (ha : Agree S W W') : x.holds W' S := by
  cases x with
  | row v e size xs => exact D.own_agree (d := .row e size xs) h ha
  | box g t cs => exact ⟨h.1, (ha g h.1).trans h.2⟩
  | hole v e size xs i cs => exact Hole.agree h ha
  | dat ds cs => exact D.owns_agree (xs := ds) h ha
theorem Ent.holds_mono {x : Ent} (h : x.holds W S) (hs : ∀ b, S b → T b) : x.holds W T := by
  cases x with
  | row v e size xs => exact D.own_mono (d := .row e size xs) h hs
  | box g t cs => exact ⟨hs g h.1, h.2⟩
  | hole v e size xs i cs => exact Hole.mono h hs
  | dat ds cs => exact D.owns_mono (xs := ds) h hs
def Owns (W : World) : List Ent → (Nat → Prop) → Prop
  | [], _ => True
  | x :: L, Ok => ∃ S, (∀ b, S b → Ok b) ∧ x.holds W S ∧ Owns W L (fun b => Ok b ∧ ¬ S b)
variable {L L' : List Ent} {Ok Ok' : Nat → Prop} {x y : Ent}
theorem Owns.agree : ∀ {L : List Ent} {Ok : Nat → Prop}, Owns W L Ok → Agree Ok W W' → Owns W' L Ok
  | [], _, _, _ => trivial
  | x :: L, Ok, ⟨S, h1, h2, h3⟩, ha => ⟨S, h1, x.holds_agree h2 (ha.mono h1), Owns.agree h3 (ha.mono fun b hb => hb.1)⟩
theorem Owns.mono : ∀ {L : List Ent} {Ok Ok' : Nat → Prop}, Owns W L Ok → (∀ b, Ok b → Ok' b) → Owns W L Ok'
  | [], _, _, _, _ => trivial
  | x :: L, Ok, Ok', ⟨S, h1, h2, h3⟩, hs => ⟨S, fun b hb => hs b (h1 b hb), h2, Owns.mono h3 fun b hb => ⟨hs b hb.1, hb.2⟩⟩
theorem Owns.swap (h : Owns W (x :: y :: L) Ok) : Owns W (y :: x :: L) Ok := by
  obtain ⟨S, h1, h2, S', h3, h4, h5⟩ := h
  exact ⟨S', fun b hb => (h3 b hb).1, h4, S, fun b hb => ⟨h1 b hb, fun hb' => (h3 b hb').2 hb⟩, h2, h5.mono fun b hb => ⟨⟨hb.1.1, hb.2⟩, hb.1.2⟩⟩
theorem Owns.pull : ∀ {i : Nat} {L : List Ent} {Ok : Nat → Prop}, Owns W L Ok → L[i]? = some x → Owns W (x :: L.eraseIdx i) Ok
  | _, [], _, _, hi => by simp at hi
  | 0, y :: L, _, h, hi => by
    have : y = x := by simpa using hi
    subst this
    exact h
  | i + 1, y :: L, _, ⟨S, h1, h2, h3⟩, hi => Owns.swap ⟨S, h1, h2, Owns.pull (i := i) h3 (by simpa using hi)⟩
theorem Owns.append : ∀ {L L' : List Ent} {Ok Ok' : Nat → Prop}, Owns W L Ok → Owns W L' Ok' → (∀ b, Ok b → ¬ Ok' b) → Owns W (L ++ L') (fun b => Ok b ∨ Ok' b)
  | [], _, _, _, _, h, _ => h.mono fun b hb => .inr hb
  | x :: L, L', Ok, Ok', ⟨S, h1, h2, h3⟩, h, hd => ⟨S, fun b hb => .inl (h1 b hb), h2, (Owns.append h3 h fun b hb => hd b hb.1).mono fun b hb => by
      rcases hb with hb | hb
      · exact ⟨.inl hb.1, hb.2⟩
      · exact ⟨.inr hb, fun hs => hd b (h1 b hs) hb⟩⟩

def OkS (M : Nat → Prop) (w0 W : World) (b : Nat) : Prop := (w0.heap.size ≤ b ∨ M b) ∧ b < W.heap.size
structure Sep (M : Nat → Prop) (w0 W : World) (L : List Ent) : Prop where
  frame : Frame M w0 W
  own : Owns W L (OkS M w0 W)
theorem Sep.start (w : World) : Sep (fun _ => False) w w [] := ⟨.refl _ _, trivial⟩
theorem Sep.pull {i : Nat} (h : Sep M w0 W L) (hi : L[i]? = some x) : Sep M w0 W (x :: L.eraseIdx i) := ⟨h.frame, h.own.pull hi⟩
theorem Sep.drop (h : Sep M w0 W (x :: L)) : Sep M w0 W L := ⟨h.frame, let ⟨_, _, _, r⟩ := h.own; r.mono fun b hb => hb.1⟩
theorem Sep.swap (h : Sep M w0 W (x :: y :: L)) : Sep M w0 W (y :: x :: L) := ⟨h.frame, h.own.swap⟩
/-- The head is exchanged for others, the world turned in its blocks alone, and in new ones. -/
theorem Sep.turn {W' : World} {L' : List Ent} (h : Sep M w0 W (x :: L)) (k : ∀ S, (∀ b, S b → OkS M w0 W b) → x.holds W S → Frame S W W' ∧ Owns W' L' (fun b => S b ∨ (W.heap.size ≤ b ∧ b < W'.heap.size))) : Sep M w0 W' (L' ++ L) := by
  obtain ⟨S, h1, h2, h3⟩ := h.own
  obtain ⟨k1, k2⟩ := k S h1 h2
  refine ⟨h.frame.trans k1 fun b hb hs => ?_, ?_⟩
  · rcases (h1 b hs).1 with h4 | h4
    · omega
    · exact h4
  · have h4 : Owns W' L (fun b => OkS M w0 W b ∧ ¬ S b) := h3.agree fun b hb => k1.block b hb.1.2 hb.2
    refine (Owns.append k2 h4 fun b hb hb' => ?_).mono fun b hb => ?_
    · rcases hb with hb | hb
      · exact hb'.2 hb
      · have := hb'.1.2; omega
    · rcases hb with (hb | hb) | hb
      · exact ⟨(h1 b hb).1, Nat.lt_of_lt_of_le (h1 b hb).2 k1.size⟩
      · exact ⟨.inl (Nat.le_trans h.frame.size hb.1), hb.2⟩
      · exact ⟨hb.1.1, Nat.lt_of_lt_of_le hb.1.2 k1.size⟩
/-- New things beside what there is. -/
theorem Sep.new {W' : World} {L' : List Ent} (h : Sep M w0 W L) (k1 : Frame (fun _ => False) W W') (k2 : Owns W' L' (fun b => W.heap.size ≤ b ∧ b < W'.heap.size)) : Sep M w0 W' (L' ++ L) := by
  refine ⟨h.frame.trans k1 fun b hb hs => hs.elim, ?_⟩
  have h4 : Owns W' L (OkS M w0 W) := h.own.agree fun b hb => k1.block b hb.2 id
  refine (Owns.append k2 h4 fun b hb hb' => ?_).mono fun b hb => ?_
  · have := hb'.2; omega
  · rcases hb with hb | hb
    · exact ⟨.inl (Nat.le_trans h.frame.size hb.1), hb.2⟩
    · exact ⟨hb.1, Nat.lt_of_lt_of_le hb.2 k1.size⟩
theorem Sep.drewN (h : Sep M w0 W L) (m : Nat) : Sep M w0 { W with drawn := m } L := by
  have := h.new (L' := []) (Frame.drewN _ W m) trivial
  simpa using this
end Go.Proofs.YtjpbdpfkhdekpaaGreatDoor.X
