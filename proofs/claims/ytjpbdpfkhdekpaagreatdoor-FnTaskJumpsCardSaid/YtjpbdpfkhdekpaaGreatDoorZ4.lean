/- Functions as arguments, variables that are only read, min and max, elements that are out and addressed again. -/
import Derived.Test.YtjpbdpfkhdekpaaGreatDoorZ3
set_option linter.unusedVariables false
set_option linter.unusedSimpArgs false
namespace Go.Proofs.YtjpbdpfkhdekpaaGreatDoor.X
variable {P : Program} {n : Nat} {ops : Array Oper} {o : Oper} {E : Env} {M S T : Nat → Prop} {w0 w W W' : World} {L L0 : List Ent} {K : Env → World → Prop} {v : Value} {t e te size i : Nat} {α : Type} {enc : α → D} {l : List α} {x : α} {cs : List Value} {ag : Bool} {z : Option Value} {bytes : Nat}
/-! ### min, max -/
theorem mnv {k : IntKind} {p q : Operand} {a b : Int} {t1 t2 : TypeId} (ho : o.op = .call { callee := .builtin .min, args := #[p, q], argTypes := #[t1, t2] }) (hp : ev E p = some (.int k a)) (hq : ev E q = some (.int k b)) : Runs P n E o W (.int k (min a b)) W := by
  intro s hs
  have e1 : (if b < a then b else a) = min a b := by split <;> omega
  unfold execOp
  simp only [ho, resolve, Deferred.ofValue, invoke, builtin, Sem.run_bind, Sem.run_pure, Result.andThen_ok]
  simp [hs.ev hp, hs.ev hq, Builtin.min_, Builtin.min2, e1]
theorem mxv {k : IntKind} {p q : Operand} {a b : Int} {t1 t2 : TypeId} (ho : o.op = .call { callee := .builtin .max, args := #[p, q], argTypes := #[t1, t2] }) (hp : ev E p = some (.int k a)) (hq : ev E q = some (.int k b)) : Runs P n E o W (.int k (max a b)) W := by
  intro s hs
  have e1 : (if b > a then b else a) = max a b := by split <;> omega
  unfold execOp
  simp only [ho, resolve, Deferred.ofValue, invoke, builtin, Sem.run_bind, Sem.run_pure, Result.andThen_ok]
  simp [hs.ev hp, hs.ev hq, Builtin.max_, Builtin.max2, e1]
/-! ### An element that is out, addressed -/
theorem ixh {j : IntKind} {p q : Operand} (hS : Sep M w0 W (holeV v e size enc l i cs :: L)) {i' : Int} (hx : nth l i' = some x) (hu : P.underlying t = some (.slice e)) (ht : tinfo P e = some (ag, z, size, bytes)) (ho : o.op = .indexAddr t p q)
    (hp : ev E p = some v) (hq : ev E q = some (.int j i')) : Runs P n E o W (.pointer (some (elemA (adr v) (i'.toNat * size + 0)))) W := by
  obtain ⟨h0, h1, h2⟩ := nth_some hx
  obtain ⟨S, _, ⟨c1, c2, h3, _⟩, _⟩ := hS.own
  rcases h3.1.2 with ⟨h3, h4⟩ | ⟨g, cap, cur, h3, _⟩
  · rw [List.length_map] at h4; omega
  · rw [List.length_map] at h3
    subst h3
    intro a ha
    unfold execOp
    simp only [ho, ha.ev hp, ha.ev hq, Sem.run_bind, Instr.indexAt, asIntOf, Sem.run_pure, Result.andThen_ok, run_underlying hu, elemA, adr, Option.getD_some, Nat.add_zero]
    rw [if_pos ⟨h0, by omega⟩]
    simp [run_sizeOf ht]
/-! ### Variables that are only read -/
/-- A variable that can be read. -/
def BR (w : World) (T : Nat → Prop) (g t : Nat) (cs : List Value) : Prop := T g ∧ w.heap[g]? = some (.cells cs.toArray t (0, 0))
variable {g : Nat}
theorem BR.lt (h : BR w T g t cs) : g < w.heap.size := by
  rcases Nat.lt_or_ge g w.heap.size with h1 | h1
  · exact h1
  · have := h.2; rw [Array.getElem?_eq_none h1] at this; cases this
theorem BR.old (h : BR w T g t cs) : BR w (Old No w) g t cs := ⟨⟨h.lt, id⟩, h.2⟩
theorem BR.agree (h : BR w T g t cs) (ha : Agree T w W) : BR W (Old No W) g t cs := BR.old (T := T) ⟨h.1, (ha g h.1).trans h.2⟩
theorem Sep.keepB (h : Sep M w W L) (hb : BR w (Old M w) g t cs) : BR W (Old No W) g t cs := hb.agree h.agree
theorem Sep.keepBS (h : Sep M w W L) (hb : BR w (Old M w) g t cs) (hS : ∀ b, S b → OkS M w W b) : BR W (Old S W) g t cs :=
  ⟨⟨(h.keepB hb).lt, fun hs => (hS g hs).1.elim (fun h1 => by have := hb.1.1; omega) hb.1.2⟩, (h.keepB hb).2⟩
theorem Sep.boxB (h : Sep M w0 W (.box g t cs :: L)) : BR W (Old No W) g t cs := by
  obtain ⟨S, h1, ⟨h2, h3⟩, _⟩ := h.own
  exact BR.old (T := S) ⟨h2, h3⟩
theorem Owns.boxB {k : Nat} {Ok : Nat → Prop} : ∀ {L : List Ent} {k : Nat}, Owns W L Ok → L[k]? = some (.box g t cs) → Ok g ∧ W.heap[g]? = some (.cells cs.toArray t (0, 0))
  | [], k, _, h => by simp at h
  | x :: L, 0, ⟨S, h1, h2, _⟩, h => by
    have : x = .box g t cs := by simpa using h
    subst this
    exact ⟨h1 g h2.1, h2.2⟩
  | x :: L, k + 1, ⟨S, h1, _, h3⟩, h => (h3.mono (fun b hb => hb.1)).boxB (k := k) (by simpa using h)
theorem Owns.boxS {k : Nat} (h3 : Owns W L (fun b => OkS M w0 W b ∧ ¬ S b)) (hk : L[k]? = some (.box g t cs)) : BR W (Old S W) g t cs := by
  obtain ⟨h1, h2⟩ := h3.boxB (k := k) hk
  exact ⟨⟨h1.1.2, h1.2⟩, h2⟩
theorem ldb {j : Nat} {x : Operand} (ht : tinfo P t = some (ag, z, size, bytes)) (hb : BR W T g te cs) (ho : o.op = .load t x) (hx : ev E x = some (.pointer (some ⟨g, j, none⟩)))
    (hv : ofCells ag (seg cs j size) = v) (hl : (seg cs j size).length = size) (h2 : (ag || Nat.beq size 1) = true) : Runs P n E o W v W := by
  have hS : Sep No W W [] := Sep.start W
  have hS2 : Sep (fun b => b = g) W W [.box g te cs] := ⟨.refl _ _, fun b => b = g, fun b hb' => ⟨.inr hb', by subst hb'; exact hb.lt⟩, ⟨rfl, hb.2⟩, trivial⟩
  exact ld ht hS2 ho hx hv hl h2
/-! ### Functions as arguments -/
def FnOk (P : Program) (f : FuncId) : Prop := ∃ fn, P.funcs[f]? = some fn ∧ fn.body.isSome = true ∧ (fn.name == "runtime.NumGoroutine") = false
theorem OpW.callv {σ : Type} {f : FuncId} {fo : Operand} {as : Array Operand} {ts : Array TypeId} {vs : List Value} {cap : Array Value} {v : σ → Value} {L' : σ → List Ent} (hS : Sep M w0 W L) (hf : FnOk P f) (hc : Calls P f (vs ++ cap.toList).toArray W (Ret No W v L'))
    (ho : o.op = .call { callee := .value fo, args := as, argTypes := ts }) (hfo : ev E fo = some (.func (.func f) #[] cap)) (hv : evs E as.toList = some vs)
    (k : ∀ s W', Sep M w0 W' (L' s ++ L) → K (put E o.dst (v s)) W') (hg : o.guard = none) (hd : okD n o.dst = true) : OpW P n ops o E W K := by
  obtain ⟨fn, hf, hb, hn⟩ := hf
  refine .enter hg hd (run_callv (cap := cap.toList) hf hb hn ho (by simpa using hfo) hv) (hc.mono ?_)
  rintro x W' ⟨s, rfl, hs⟩
  refine ⟨_, rfl, k s W' (hS.new hs.frame (hs.own.mono fun b hb => ⟨?_, hb.2⟩))⟩
  exact hb.1.elim id False.elim
end Go.Proofs.YtjpbdpfkhdekpaaGreatDoor.X
