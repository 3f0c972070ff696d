/- The program logic: elements that hold rows are read; what is lent beside what is read. -/
import Derived.Test.YtjpbdpfkhdekpaaGreatDoorY1
set_option linter.unusedVariables false
set_option linter.unusedSimpArgs false
namespace Go.Proofs.YtjpbdpfkhdekpaaGreatDoor.X
variable {P : Program} {n : Nat} {ops : Array Oper} {o : Oper} {rest : List Oper} {E E' : Env} {W W' w w0 : World} {a : Act} {v u : Value} {K : Env → World → Prop} {M T S : Nat → Prop} {L L0 : List Ent}
variable {t e : TypeId} {ag : Bool} {z : Option Value} {zv : Value} {size bytes : Nat} {A A2 : Option Addr} {m c c2 : Nat} {α : Type} {enc : α → D} {l l2 r : List α} {i : Int} {x y : α}
/-- An element's cells, in whatever world in which nothing of it has turned. -/
theorem Rd.el (h : Rd w T A c e size enc l) (hx : nth l i = Option.some x) : ∃ cs, D.rd w (enc x) T cs ∧ cs.length = size ∧ ∀ W, Agree T w W → ∀ j u, cs[j]? = Option.some u → W.cell? (elemA A (i.toNat * size + j)) = Option.some u := by
  obtain ⟨h0, h1, h2⟩ := nth_some hx
  obtain ⟨A', cap, cs, e1, e2, e3, e4, e5, e6⟩ := h
  simp only [List.cons.injEq, and_true, Value.slice.injEq] at e1
  obtain ⟨rfl, _, rfl⟩ := e1
  obtain ⟨ci, k1, k2, k3⟩ := rds_get (i := i.toNat) (x := enc x) e6 e4 (by simp [h2])
  have hne : l.map enc ≠ [] := by intro hn; rw [List.map_eq_nil_iff] at hn; subst hn; simp at h1
  obtain ⟨ad, rfl, f1, f2⟩ := e5 hne
  refine ⟨ci, k1, k2, fun W hW j u hj => ?_⟩
  have hb : (elemA (Option.some ad) (i.toNat * size + j)).block = ad.block := by unfold elemA Addr.add; simp only [Option.getD_some]; split <;> rfl
  rw [World.cell?_of_block (w := w) (by rw [hb]; exact hW _ f1)]
  exact f2 _ _ (k3 j u hj)
theorem rd_row {cs : List Value} (h : D.rd w (.row e size (l.map enc)) T cs) : ∃ A c, cs = [.slice A l.length c] ∧ Rd w T A c e size enc l := by
  have h' := h
  obtain ⟨A', cap, c', e1, _⟩ := h
  rw [List.length_map] at e1
  subst e1
  exact ⟨A', cap, rfl, h'⟩
/-- A row beside what is lent can be read by the call. -/
theorem Owns.rd {k : Nat} (h : Owns W L (fun b => OkS M w0 W b ∧ ¬ S b)) (hk : L[k]? = some (rowE A c e size enc l)) : Rd W (Old S W) A c e size enc l := by
  obtain ⟨S1, h1, h2, _⟩ := h.pull hk
  have := D.rd_mono (D.own_rd (d := .row e size (l.map enc)) h2) (T' := Old S W) fun b hb => ⟨(h1 b hb).1.2, (h1 b hb).2⟩
  exact this
theorem OpW.callS2 {σ : Type} {f : FuncId} {fn : Func} {as : Array Operand} {ts : Array TypeId} {vs : List Value} {v : σ → Value} {L' : σ → List Ent} (hS : Sep M w0 W (L0 ++ L)) (hf : P.funcs[f]? = some fn)
    (hc : ∀ S : Nat → Prop, (∀ b, S b → OkS M w0 W b) → Owns W L0 S → Owns W L (fun b => OkS M w0 W b ∧ ¬ S b) → Calls P f vs.toArray W (Ret S W v L'))
    (ho : o.op = .call { callee := .value (.func f), args := as, argTypes := ts }) (hv : evs E as.toList = some vs)
    (k : ∀ s W', Sep M w0 W' (L' s ++ L) → K (put E o.dst (v s)) W') (hb : fn.body.isSome = true) (hn : (fn.name == "runtime.NumGoroutine") = false) (hg : o.guard = none) (hd : okD n o.dst = true) : OpW P n ops o E W K := by
  obtain ⟨S, h1, h2, h3⟩ := hS.own.split
  refine .enter hg hd (run_call hf hb hn ho hv) ((hc S h1 h2 h3).mono ?_)
  rintro x W' ⟨s, rfl, hs⟩
  refine ⟨_, rfl, k s W' (Sep.of_parts hS.frame h1 h3 hs.frame (hs.own.mono fun b hb => ?_))⟩
  exact hb.1.elim (fun h => .inr ⟨h, hb.2⟩) .inl

/-- A slot's value in other words. -/
theorem RG.eqv (d : Nat) {todo : List Oper} (h : look E d = some u) (he : u = v) (k : RG P n ops todo ((d, v) :: E) W K) : RG P n ops todo E W K := by
  subst he
  refine fun a Q ha hk => k a Q (ha.sub fun i x hi => ?_) hk
  simp only [look] at hi
  cases hb : Nat.beq d i
  · rw [hb] at hi; exact hi
  · rw [hb] at hi
    obtain rfl := Nat.eq_of_beq_eq_true hb
    injection hi with hi
    subst hi
    exact h
theorem upd_len {r : List α} (h : upd l i x = some r) : l.length = r.length := by
  obtain ⟨rfl, _⟩ := upd_some h
  simp
theorem sl_len {k1 k2 : Nat} (h : k1 = k2) : Value.slice A k1 c = Value.slice A k2 c := by rw [h]
end Go.Proofs.YtjpbdpfkhdekpaaGreatDoor.X
