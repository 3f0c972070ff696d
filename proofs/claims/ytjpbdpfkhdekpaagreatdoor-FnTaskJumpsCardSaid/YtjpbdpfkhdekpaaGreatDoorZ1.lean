/- The program logic: slices as opaque values: the words that the printed proofs use. -/
import Derived.Test.YtjpbdpfkhdekpaaGreatDoorY3
set_option linter.unusedVariables false
set_option linter.unusedSimpArgs false
namespace Go.Proofs.YtjpbdpfkhdekpaaGreatDoor.X
variable {P : Program} {n : Nat} {ops : Array Oper} {o : Oper} {rest : List Oper} {E E' : Env} {W W' w w0 : World} {a : Act} {v u v2 : Value} {K : Env → World → Prop} {M T S : Nat → Prop} {L L0 L1 : List Ent}
variable {t e : TypeId} {ag : Bool} {z : Option Value} {zv : Value} {size bytes : Nat} {A A2 : Option Addr} {m c c2 k : Nat} {α : Type} {enc : α → D} {l l2 r : List α} {i : Int} {x y : α} {d : D} {ds xs ys : List D} {cs c1 : List Value}

/-- The slice v reads as l, all of it in blocks of T. -/
abbrev RV (W : World) (T : Nat → Prop) (v : Value) (e size : Nat) (enc : α → D) (l : List α) : Prop := D.rd W (.row e size (l.map enc)) T [v]
abbrev rowV (v : Value) (e size : Nat) (enc : α → D) (l : List α) : Ent := .row v e size (l.map enc)
abbrev holeV (v : Value) (e size : Nat) (enc : α → D) (l : List α) (k : Nat) (cs : List Value) : Ent := .hole v e size (l.map enc) k cs
/-- A slice's head: where it begins, its length, its capacity. -/
structure Hd where
  A : Option Addr
  n : Nat
  c : Nat
def sv (h : Hd) : Value := .slice h.A h.n h.c
def nilH : Hd := ⟨none, 0, 0⟩
def adr : Value → Option Addr
  | .slice A _ _ => A
  | _ => none
theorem RV.shape (h : RV W T v e size enc l) : ∃ A c, v = .slice A l.length c := by
  obtain ⟨A, c, cs, e1, _⟩ := h
  rw [List.length_map] at e1
  exact ⟨A, c, by simpa using e1⟩
theorem row_shape (h : Ent.holds W (rowV v e size enc l) S) : ∃ A c, v = .slice A l.length c := by
  obtain ⟨v', c', e1, e2, _⟩ := h
  simp only [List.cons.injEq, and_true] at e1
  subst e1
  rcases e2.1.2 with ⟨h1, h2⟩ | ⟨g, cap, cur, h1, _⟩
  · rw [List.length_map] at h2; exact ⟨none, 0, by rw [h1, h2]⟩
  · rw [List.length_map] at h1; exact ⟨_, _, h1⟩
theorem Sep.shape (h : Sep M w0 W (rowV v e size enc l :: L)) : ∃ A c, v = .slice A l.length c := by
  obtain ⟨S, _, h1, _⟩ := h.own
  exact row_shape h1
theorem Sep.hshape {k : Nat} (h : Sep M w0 W (holeV v e size enc l k cs :: L)) : ∃ A c, v = .slice A l.length c := by
  obtain ⟨S, _, ⟨c1, c2, h1, _⟩, _⟩ := h.own
  rcases h1.1.2 with ⟨h1, h2⟩ | ⟨g, cap, cur, h1, _⟩
  · rw [List.length_map] at h2; exact ⟨none, 0, by rw [h1, h2]⟩
  · rw [List.length_map] at h1; exact ⟨_, _, h1⟩
/-- The address of an element. -/
theorem ixv {j : IntKind} {p q : Operand} (hr : RV W' T v e size enc l) (hx : nth l i = some x) (hu : P.underlying t = some (.slice e)) (ht : tinfo P e = some (ag, z, size, bytes)) (ho : o.op = .indexAddr t p q)
    (hp : ev E p = some v) (hq : ev E q = some (.int j i)) : Runs P n E o W (.pointer (some (elemA (adr v) (i.toNat * size + 0)))) W := by
  obtain ⟨A, c, rfl⟩ := hr.shape
  exact ix hr hx hu ht ho hp hq
theorem RV.flat (h : RV W T v e size enc l) (hx : nth l i = Option.some x) (hf : X.flat (enc x) = Option.some cs) : ∀ j u, cs[j]? = Option.some u → W.cell? (elemA (adr v) (i.toNat * size + j)) = Option.some u := by
  obtain ⟨A, c, rfl⟩ := h.shape
  exact Rd.flat h hx hf
theorem RV.el2 (h : RV w T v e size enc l) (hx : nth l i = Option.some x) : ∃ cs, (∀ T', RV w T' v e size enc l → D.rds w [enc x] T' cs) ∧ ∀ W, Agree T w W → ∀ j u, cs[j]? = Option.some u → W.cell? (elemA (adr v) (i.toNat * size + j)) = Option.some u := by
  obtain ⟨A, c, rfl⟩ := h.shape
  exact Rd.el2 h hx
theorem rrowv {Q : (Nat → Prop) → Prop} {T0 : Nat → Prop} (q : Q T0) (h : ∀ T', Q T' → D.rds w (.row e size (l.map enc) :: ds) T' cs) : ∃ (v : Hd) (cs' : List Value), cs = sv v :: cs' ∧ (∀ T', Q T' → RV w T' (sv v) e size enc l) ∧ ∀ T', Q T' → D.rds w ds T' cs' := by
  obtain ⟨A, c, cs', h1, h2, h3⟩ := rrow q h
  exact ⟨⟨A, _, c⟩, cs', h1, h2, h3⟩
theorem lenv {p : Operand} (hr : RV W' T v e size enc l) (hu : P.underlying t = some (.slice e)) (ho : o.op = .call { callee := .builtin .len, args := #[p], argTypes := #[t] }) (hp : ev E p = some v) : Runs P n E o W (.int .i64 l.length) W := by
  obtain ⟨A, c, rfl⟩ := hr.shape
  exact len hu ho hp
theorem Sep.lendv (h : Sep M w0 W (rowV v e size enc l :: L)) : RV W (Old No W) v e size enc l := by
  obtain ⟨A, c, rfl⟩ := h.shape
  exact h.lend
theorem RV.nil (W : World) (T : Nat → Prop) (e size : Nat) (enc : α → D) : RV W T (sv nilH) e size enc ([] : List α) := Rd.nil W T e size enc
theorem Sep.nilv (h : Sep M w0 W L) (e size : Nat) (enc : α → D) : Sep M w0 W (rowV (sv nilH) e size enc ([] : List α) :: L) := h.nil e size enc
def cutH (h : Hd) (lo size m : Nat) : Hd := ⟨cutA h.A h.c lo size, m, h.c - lo⟩
theorem RV.hd {h : Hd} (hr : RV W T (sv h) e size enc l) : h.n = l.length := by
  obtain ⟨A, c, e1⟩ := hr.shape
  simp only [sv, Value.slice.injEq] at e1
  exact e1.2.1
theorem slv {h : Hd} {lo hi : Int} {p : Operand} {x y : Option Operand} (hc : cut l lo hi = some r) (hr : RV W' T (sv h) e size enc l) (hu : P.underlying t = some (.slice e)) (ht : tinfo P e = some (ag, z, size, bytes)) (ho : o.op = .slice t p x y none)
    (hp : ev E p = some (sv h)) (hx : evI E 0 x = some lo) (hy : evI E l.length y = some hi) : Runs P n E o W (sv (cutH h lo.toNat size r.length)) W := by
  obtain ⟨A, k, c⟩ := h
  have hk : k = l.length := hr.hd
  subst hk
  exact sl hc (Rd.cap hr) hu ht ho hp hx hy
theorem slv_rd {h : Hd} {lo hi : Int} (hc : cut l lo hi = some r) (hr : RV W T (sv h) e size enc l) : RV W T (sv (cutH h lo.toNat size r.length)) e size enc r := by
  obtain ⟨A, k, c⟩ := h
  have hk : k = l.length := hr.hd
  subst hk
  exact sl_rd hc hr
/-! ### What is made -/
theorem OpW.appv {p q : Operand} (hr : X.app bytes l l2 = some r) (hS : Sep M w0 W (rowV v e size enc l :: rowV v2 e size enc l2 :: L)) (hu : P.underlying t = some (.slice e)) (ht : tinfo P e = some (ag, some zv, size, bytes))
    (ho : o.op = .call { callee := .builtin .append, args := #[p, q], argTypes := #[t, t] }) (hp : ev E p = some v) (hq : ev E q = some v2)
    (h : ∀ (v : Hd) W', Sep M w0 W' (rowV (sv v) e size enc r :: L) → K (put E o.dst (sv v)) W')
    (hz : zv.cells.size = size) (h0 : Nat.blt 0 size = true) (hb0 : Nat.blt 0 bytes = true) (hg : o.guard = none) (hd : okD n o.dst = true) : OpW P n ops o E W K := by
  obtain ⟨A, c, rfl⟩ := hS.shape
  obtain ⟨A2, c2, rfl⟩ := hS.swap.shape
  exact .app hr hS hu ht ho hp hq (fun A c W' hS => h ⟨A, _, c⟩ W' hS) hz h0 hb0 hg hd
theorem OpW.apprv {p q : Operand} (hr : X.app bytes l l2 = some r) (hS : Sep M w0 W (rowV v e size enc l :: L)) (hrd : RV W T v2 e size enc l2) (hfl : ∀ x, (flat (enc x)).isSome = true) (hu : P.underlying t = some (.slice e)) (ht : tinfo P e = some (ag, some zv, size, bytes))
    (ho : o.op = .call { callee := .builtin .append, args := #[p, q], argTypes := #[t, t] }) (hp : ev E p = some v) (hq : ev E q = some v2)
    (h : ∀ (v : Hd) W', Sep M w0 W' (rowV (sv v) e size enc r :: L) → K (put E o.dst (sv v)) W')
    (hz : zv.cells.size = size) (h0 : Nat.blt 0 size = true) (hb0 : Nat.blt 0 bytes = true) (hg : o.guard = none) (hd : okD n o.dst = true) : OpW P n ops o E W K := by
  obtain ⟨A, c, rfl⟩ := hS.shape
  obtain ⟨A2, c2, rfl⟩ := hrd.shape
  exact .appr hr hS hrd hfl hu ht ho hp hq (fun A c W' hS => h ⟨A, _, c⟩ W' hS) hz h0 hb0 hg hd
theorem OpW.liv {k : Nat} {parts : Array (Nat × Operand)} {vs : List Value} (l : List α) (enc : α → D) (hu : P.underlying t = some (.slice e)) (ht : tinfo P e = some (ag, some zv, size, bytes)) (hS : Sep M w0 W L) (ho : o.op = .buildSlice t k parts)
    (hp : zipRow 0 parts.toList E = some vs) (hk : vs.length = k) (hf : flatL enc l = some (cellsL vs))
    (h : ∀ (v : Hd) W', Sep M w0 W' (rowV (sv v) e size enc l :: L) → K (put E o.dst (sv v)) W') (hl : k = l.length) (hsz : ∀ x : α, (enc x).sz = size) (hle : Nat.ble (k * size) 16777216 = true) (h0 : Nat.blt 0 size = true) (hg : o.guard = none) (hd : okD n o.dst = true) : OpW P n ops o E W K :=
  .li l enc hu ht hS ho hp hk hf (fun A c W' hS => h ⟨A, _, c⟩ W' hS) hl hsz hle h0 hg hd
def allSz (size : Nat) : List Value → Bool
  | [] => true
  | v :: r => match Nat.beq v.cells.toList.length size with
    | true => allSz size r
    | false => false
theorem allSz_spec : ∀ {vs : List Value}, allSz size vs = true → ∀ v ∈ vs, v.cells.toList.length = size
  | [], _, v, hv => by simp at hv
  | u :: r, h, v, hv => by
    simp only [allSz] at h
    split at h
    · rename_i h1
      rcases List.mem_cons.1 hv with rfl | hv
      · exact Nat.eq_of_beq_eq_true h1
      · exact allSz_spec h v hv
    · cases h
theorem OpW.ligv {k : Nat} {parts : Array (Nat × Operand)} {vs : List Value} (l : List α) (enc : α → D) (hu : P.underlying t = some (.slice e)) (ht : tinfo P e = some (ag, some zv, size, bytes)) (hS : Sep M w0 W (L1 ++ L)) (ho : o.op = .buildSlice t k parts)
    (hp : zipRow 0 parts.toList E = some vs) (hk : vs.length = k) (hg0 : Gat (l.map enc) (cellsOf vs) L1)
    (h : ∀ (v : Hd) W', Sep M w0 W' (rowV (sv v) e size enc l :: L) → K (put E o.dst (sv v)) W') (hl : k = l.length) (hsz : ∀ x : α, (enc x).sz = size) (hvs : allSz size vs = true) (hle : Nat.ble (k * size) 16777216 = true) (h0 : Nat.blt 0 size = true) (hg : o.guard = none) (hd : okD n o.dst = true) : OpW P n ops o E W K :=
  .lig l enc hu ht hS ho hp hk hg0 (fun A c W' hS => h ⟨A, _, c⟩ W' hS) hl hsz (allSz_spec hvs) hle h0 hg hd
theorem OpW.mkv {p q : Operand} {j k : IntKind} {nn : Int} (z0 : α) (enc : α → D) (h : X.mk bytes nn z0 = some r) (hu : P.underlying t = some (.slice e)) (ht : tinfo P e = some (ag, some zv, size, bytes)) (hS : Sep M w0 W L) (ho : o.op = .makeSlice t p q)
    (hp : ev E p = some (.int j nn)) (hq : ev E q = some (.int k nn)) (hf : zflat (enc z0) = some zv.cells.toList) (hz : zv.cells.size = size) (hsz : ∀ x : α, (enc x).sz = size)
    (k2 : ∀ (v : Hd) W', Sep M w0 W' (rowV (sv v) e size enc r :: L) → K (put E o.dst (sv v)) W') (hb0 : Nat.blt 0 bytes = true) (hg : o.guard = none) (hd : okD n o.dst = true) : OpW P n ops o E W K :=
  .mkz z0 enc h hu ht hS ho hp hq hf hz hsz (fun A c W' hS => k2 ⟨A, _, c⟩ W' hS) hb0 hg hd
theorem OpW.sev {p q : Operand} {j tsize tb : Nat} {x0 x1 : α} {c0 c1 : List Value} (hr : upd l i x1 = some r) (hx : nth l i = some x0) (hS : Sep M w0 W (rowV v2 e size enc l :: L)) (ht : tinfo P t = some (ag, z, tsize, tb)) (ho : o.op = .store t p q)
    (hp : ev E p = some (.pointer (some (elemA (adr v2) (i.toNat * size + j))))) (hq : ev E q = some v) (hf0 : flat (enc x0) = some c0) (hf1 : flat (enc x1) = some c1) (hc : splice c0 j v.cells.toList = c1)
    (k : ∀ W', Sep M w0 W' (rowV v2 e size enc r :: L) → K E W') (hl : v.cells.size = tsize) (h1 : v.cells.toList.all (·.oneCell') = true) (hj : Nat.ble (j + tsize) c0.length = true) (h0 : Nat.blt 0 tsize = true) (hg : o.guard = none) (hd : o.dst = none) : OpW P n ops o E W K := by
  obtain ⟨A, c, rfl⟩ := hS.shape
  have hlen : r.length = l.length := by rw [(upd_some hr).1, List.length_set]
  refine .se hr hx hS ht ho hp hq hf0 hf1 hc (fun W' hS' => k W' ?_) hl h1 hj h0 hg hd
  unfold rowE at hS'
  rw [hlen] at hS'
  exact hS'
theorem OpW.call1v {f : FuncId} {fn : Func} {as : Array Operand} {ts : Array TypeId} {vs : List Value} {v : Hd → Value} {x : Hd → Ent} (hS : Sep M w0 W L) (hf : P.funcs[f]? = some fn) (hc : Calls P f vs.toArray W (Ret No W v fun s => [x s]))
    (ho : o.op = .call { callee := .value (.func f), args := as, argTypes := ts }) (hv : evs E as.toList = some vs)
    (k : ∀ s W', Sep M w0 W' (x s :: L) → K (put E o.dst (v s)) W') (hb : fn.body.isSome = true) (hn : (fn.name == "runtime.NumGoroutine") = false) (hg : o.guard = none) (hd : okD n o.dst = true) : OpW P n ops o E W K :=
  .call hS hf hc ho hv (fun s W' h => k s W' (by simpa using h)) hb hn hg hd
/-! ### Elements that are out -/
theorem Sep.outv (h : Sep M w0 W (rowV v e size enc l :: L)) (hx : nth l i = some x) : ∃ cs, Sep M w0 W (.dat [enc x] cs :: holeV v e size enc l i.toNat cs :: L) := by
  obtain ⟨A, c, rfl⟩ := h.shape
  exact h.out hx
theorem Sep.backv {k : Nat} (h : Sep M w0 W (.dat [enc y] cs :: holeV v e size enc l k cs :: L)) : Sep M w0 W (rowV v e size enc (l.set k y) :: L) := by
  obtain ⟨A, c, rfl⟩ := h.swap.hshape
  have := h.back
  unfold rowE at this
  rw [List.length_set] at this
  exact this
theorem Sep.back0v (hx : nth l i = some x) (h : Sep M w0 W (.dat [enc x] cs :: holeV v e size enc l i.toNat cs :: L)) : Sep M w0 W (rowV v e size enc l :: L) := by
  have := h.backv
  rw [set_same hx] at this
  exact this
theorem Sep.orowv (h : Sep M w0 W (.dat (.row e size (l.map enc) :: ds) cs :: L)) : ∃ (v : Hd) (cs' : List Value), cs = sv v :: cs' ∧ Sep M w0 W (.dat ds cs' :: rowV (sv v) e size enc l :: L) := by
  obtain ⟨A, c, cs', h1, h2⟩ := h.orow
  exact ⟨⟨A, _, c⟩, cs', h1, h2⟩
theorem Sep.hcellsv {k : Nat} (h : Sep M w0 W (holeV v e size enc l k cs :: L)) : ∀ j u, cs[j]? = some u → W.cell? (elemA (adr v) (k * size + j)) = some u := by
  obtain ⟨A, c, rfl⟩ := h.hshape
  exact h.hcells
theorem OpW.sthv {p q : Operand} {k j tsize tb : Nat} (hS : Sep M w0 W (holeV v2 e size enc l k cs :: L)) (ht : tinfo P t = some (ag, z, tsize, tb)) (ho : o.op = .store t p q)
    (hp : ev E p = some (.pointer (some (elemA (adr v2) (k * size + j))))) (hq : ev E q = some v)
    (kk : ∀ W', Sep M w0 W' (holeV v2 e size enc l k (splice cs j v.cells.toList) :: L) → K E W') (hl : v.cells.size = tsize) (h1 : v.cells.toList.all (·.oneCell') = true) (hj : Nat.ble (j + tsize) cs.length = true) (h0 : Nat.blt 0 tsize = true) (hg : o.guard = none) (hd : o.dst = none) : OpW P n ops o E W K := by
  obtain ⟨A, c, rfl⟩ := hS.hshape
  exact .sth hS ht ho hp hq kk hl h1 hj h0 hg hd
/-! ### What may be read on both sides -/
theorem rds_split : ∀ {xs ys : List D} {cs : List Value}, D.rds W (xs ++ ys) T cs → ∃ c1 c2, cs = c1 ++ c2 ∧ D.rds W xs T c1 ∧ D.rds W ys T c2
  | [], ys, cs, h => ⟨[], cs, rfl, rfl, h⟩
  | x :: xs, ys, _, ⟨d1, d2, h1, h2, h3, h4⟩ => by
    obtain ⟨c1, c2, k1, k2, k3⟩ := rds_split (xs := xs) h4
    exact ⟨d1 ++ c1, c2, by rw [h1, k1, List.append_assoc], ⟨d1, c1, rfl, h2, h3, k2⟩, k3⟩
theorem rds_length : ∀ {xs : List D} {T : Nat → Prop} {cs : List Value}, D.rds W xs T cs → cs.length = D.szs xs
  | [], _, _, h => by have : _ = _ := h; subst this; rfl
  | x :: xs, _, _, ⟨d1, d2, h1, h2, h3, h4⟩ => by subst h1; rw [List.length_append, h2, rds_length h4]; rfl
variable {T1 T2 : Nat → Prop}
mutual
theorem D.rd_and : ∀ {d : D} {cs : List Value}, D.rd W d T1 cs → D.rd W d T2 cs → D.rd W d (fun b => T1 b ∧ T2 b) cs
  | .int _ _, _, h, _ => h
  | .bool _, _, h, _ => h
  | .str _, _, h, _ => h
  | .agg xs, _, h, h' => D.rds_and (xs := xs) h h'
  | .row _ _ xs, _, ⟨A, cap, c, h1, h2, h3, h4, h5, h6⟩, ⟨A', cap', c', k1, k2, k3, k4, k5, k6⟩ => by
    subst h1
    simp only [List.cons.injEq, and_true, Value.slice.injEq, true_and] at k1
    obtain ⟨rfl, rfl⟩ := k1
    by_cases hne : xs = []
    · subst hne
      exact ⟨A, cap, [], rfl, h2, h3, h4, fun h => absurd rfl h, rfl⟩
    · obtain ⟨ad, rfl, f1, f2⟩ := h5 hne
      obtain ⟨ad', e1, g1, g2⟩ := k5 hne
      injection e1 with e1
      subst e1
      have hl : c.length = c'.length := by rw [rds_length h6, rds_length k6]
      have hc : c = c' := by
        apply List.ext_getElem?
        intro j
        rcases Nat.lt_or_ge j c.length with hj | hj
        · have e1 := f2 j _ (List.getElem?_eq_getElem hj)
          have e2 := g2 j _ (List.getElem?_eq_getElem (hl ▸ hj))
          rw [e1] at e2
          rw [List.getElem?_eq_getElem hj, List.getElem?_eq_getElem (hl ▸ hj)]
          exact e2
        · rw [List.getElem?_eq_none hj, List.getElem?_eq_none (hl ▸ hj)]
      subst hc
      exact ⟨some ad, cap, c, rfl, h2, h3, h4, fun _ => ⟨ad, rfl, ⟨f1, g1⟩, f2⟩, D.rds_and h6 k6⟩
theorem D.rds_and : ∀ {xs : List D} {cs : List Value}, D.rds W xs T1 cs → D.rds W xs T2 cs → D.rds W xs (fun b => T1 b ∧ T2 b) cs
  | [], _, h, _ => h
  | x :: xs, _, ⟨c1, c2, h1, h2, h4, h5⟩, ⟨d1, d2, k1, k2, k4, k5⟩ => by
    subst h1
    have : d1 = c1 := by
      have := congrArg (List.take c1.length) k1
      rw [List.take_left', List.take_append_of_le_length (by rw [h2, k2]; exact Nat.le_refl _), List.take_of_length_le (by rw [h2, k2]; exact Nat.le_refl _)] at this
      · exact this.symm
      · rfl
    subst this
    have := List.append_cancel_left k1
    subst this
    exact ⟨_, _, rfl, h2, D.rd_and h4 k4, D.rds_and h5 k5⟩
end
theorem Sep.keepA (h : Sep M w W L) (hr : D.rd w d T cs) (hr' : D.rd w d (Old M w) cs) : D.rd W d (fun b => T b ∧ Old M w b) cs := D.rd_agree (D.rd_and hr hr') fun b hb => h.agree b hb.2
theorem Sep.wasA (h : Sep M w W L) (hr : D.rd W d (fun b => T b ∧ Old M w b) cs) : D.rd w d T cs := D.rd_mono (D.rd_agree hr fun b hb => (h.agree b hb.2).symm) fun b hb => hb.1
end Go.Proofs.YtjpbdpfkhdekpaaGreatDoor.X
