/- The program logic: rows that are made, elements that are written. -/
import Derived.Test.YtjpbdpfkhdekpaaGreatDoorX9
set_option linter.unusedVariables false
set_option linter.unusedSimpArgs false
namespace Go.Proofs.YtjpbdpfkhdekpaaGreatDoor.X
variable {P : Program} {n : Nat} {ops : Array Oper} {o : Oper} {rest : List Oper} {E E' : Env} {W W' w w0 : World} {a : Act} {v u : Value} {K : Env → World → Prop} {M T S : Nat → Prop} {L L0 : List Ent}
variable {t e : TypeId} {ag : Bool} {z : Option Value} {zv : Value} {size bytes : Nat} {A A2 : Option Addr} {m c c2 : Nat} {α : Type} {enc : α → D} {l l2 r : List α} {i : Int} {x y : α}

/-! ### make -/
theorem made_list {z : Array Value} : ∀ {n : Nat}, (madeCells z (n * z.size)).toList = (List.replicate n z.toList).flatten
  | 0 => by simp [madeCells]
  | n + 1 => by
    have ih := made_list (z := z) (n := n)
    have h1 : (n + 1) * z.size = n * z.size + z.size := by rw [Nat.add_mul, Nat.one_mul]
    rw [List.replicate_succ', List.flatten_append, ← ih, h1]
    simp only [madeCells, Array.toList_map, Array.toList_range, List.range_add, List.map_append, List.map_map, List.flatten_cons, List.flatten_nil, List.append_nil]
    congr 1
    apply List.ext_getElem
    · simp
    · intro j h2 h3
      have hj : j < z.size := by simpa using h2
      simp only [List.getElem_map, List.getElem_range, Function.comp]
      rw [Nat.mul_add_mod_self_right, Nat.mod_eq_of_lt hj]
      simp [hj]
theorem made_owns {z0 : α} {zc : List Value} (hf : flat (enc z0) = some zc) : ∀ {n : Nat}, D.owns W ((List.replicate n z0).map enc) (fun _ => False) (List.replicate n zc).flatten
  | 0 => by simp [D.owns]
  | n + 1 => by
    have h3 : D.own W (enc z0) (fun _ => False) zc := flat_own hf
    rw [List.replicate_succ, List.replicate_succ]
    exact ⟨fun _ => False, zc, _, rfl, D.own_length h3, fun _ hf => hf, h3, D.owns_mono (made_owns hf) fun _ hf => hf.elim⟩
/-- make([]T, n) -/
theorem OpW.mk {p q : Operand} {j k : IntKind} {nn : Int} (z0 : α) (enc : α → D) (h : X.mk bytes nn z0 = some r) (hu : P.underlying t = some (.slice e)) (ht : tinfo P e = some (ag, some zv, size, bytes)) (hS : Sep M w0 W L) (ho : o.op = .makeSlice t p q)
    (hp : ev E p = some (.int j nn)) (hq : ev E q = some (.int k nn)) (hf : flat (enc z0) = some zv.cells.toList) (hz : zv.cells.size = size) (hsz : ∀ x : α, (enc x).sz = size)
    (k2 : ∀ A c W', Sep M w0 W' (rowE A c e size enc r :: L) → K (put E o.dst (.slice A r.length c)) W') (hb0 : Nat.blt 0 bytes = true) (hg : o.guard = none) (hd : okD n o.dst = true) : OpW P n ops o E W K := by
  obtain ⟨rfl, h0, hroom⟩ := mk_some h
  obtain ⟨i0, hi, hz0, hz1, hz2⟩ := tinfo_parts ht
  have hb : 0 < bytes := by simpa [Nat.blt_eq] using hb0
  have hle : nn.toNat ≤ nn.toNat * bytes := Nat.le_mul_of_pos_right _ hb
  have hbytes : (i0.bytes : Int) * nn ≤ 281474976710656 := by
    have e1 : nn = ((nn.toNat : Nat) : Int) := by omega
    rw [hz2, e1, ← Int.natCast_mul, Nat.mul_comm]
    omega
  have hrun := run_make (P := P) W t e i0 zv hu hi hz0 j k nn nn h0 (Int.le_refl _) hbytes (by omega)
  refine .runs (W' := W.alloc (.cells (madeCells zv.cells (nn.toNat * i0.size)) e)) (v := .slice (some ⟨W.heap.size, 0, none⟩) nn.toNat nn.toNat) (fun a ha => ?_) hg hd ?_
  · unfold execOp
    simp only [ho, ha.ev hp, ha.ev hq, Sem.run_bind, hrun, Result.andThen_ok]
    rfl
  · have hk := k2 (some ⟨W.heap.size, 0, none⟩) nn.toNat (W.alloc (.cells (madeCells zv.cells (nn.toNat * i0.size)) e)) ?_
    · simpa using hk
    · refine hS.new (L' := [rowE (some ⟨W.heap.size, 0, none⟩) nn.toNat e size enc (List.replicate nn.toNat z0)]) frame_alloc ⟨fun b => b = W.heap.size, fun b hb => by subst hb; simp, ?_, trivial⟩
      have hsize : (madeCells zv.cells (nn.toNat * i0.size)).size = nn.toNat * size := by rw [size_madeCells, hz1]
      have h5 := World.ownsRow_lit (base := 0) (e := e) (size := size) W (madeCells zv.cells (nn.toNat * i0.size)) nn.toNat (Nat.zero_le _) (by simp only [maxLen]; omega) hsize
      have hl : (madeCells zv.cells (nn.toNat * i0.size)).toList = (List.replicate nn.toNat zv.cells.toList).flatten := by
        rw [hz1, ← hz]; exact made_list
      refine ⟨_, (madeCells zv.cells (nn.toNat * i0.size)).toList, rfl, ⟨by simpa using h5, fun g hg => by simp only [Value.ownBlock, Option.some.injEq] at hg; exact hg.symm⟩, fun d hd => ?_, fun _ => False, fun _ hf => hf.elim, ?_⟩
      · obtain ⟨x, hx, rfl⟩ := List.mem_map.1 hd
        exact hsz x
      · rw [hl]; exact made_owns hf

/-! ### An element is written -/
theorem splice_app {d1 d2 c1 : List Value} {k : Nat} : splice (d1 ++ d2) (d1.length + k) c1 = d1 ++ splice d2 k c1 := by
  simp only [splice, List.take_append, List.drop_append, List.append_assoc]
  rw [List.take_of_length_le (by omega), show d1.length + k - d1.length = k by omega, List.drop_eq_nil_of_le (show d1.length ≤ d1.length + k + c1.length by omega), show d1.length + k + c1.length - d1.length = k + c1.length by omega]
  simp
theorem owns_set {x1 : D} {c1 : List Value} (hf : flat x1 = some c1) (hl : c1.length = size) : ∀ {xs : List D} {S : Nat → Prop} {cs : List Value} {k : Nat} {x0 : D}, D.owns W xs S cs → (∀ x ∈ xs, x.sz = size) → xs[k]? = some x0 → D.owns W (xs.set k x1) S (splice cs (k * size) c1)
  | [], _, _, _, _, _, _, hk => by simp at hk
  | x :: xs, S, _, 0, x0, ⟨S1, d1, d2, h1, h2, h3, h4, h5⟩, hs, hk => by
    have hx := hs x (by simp)
    have h6 : D.own W x1 (fun _ => False) c1 := flat_own hf
    subst h1
    have : splice (d1 ++ d2) (0 * size) c1 = c1 ++ d2 := by
      simp only [splice, Nat.zero_mul, List.take_zero, List.nil_append, Nat.zero_add]
      rw [List.drop_append, List.drop_eq_nil_of_le (by omega), show c1.length - d1.length = 0 by omega]
      simp
    rw [this]
    exact ⟨fun _ => False, c1, d2, rfl, D.own_length h6, fun _ hf => hf.elim, h6, D.owns_mono h5 fun b hb => ⟨hb.1, id⟩⟩
  | x :: xs, S, _, k + 1, x0, ⟨S1, d1, d2, h1, h2, h3, h4, h5⟩, hs, hk => by
    have hx := hs x (by simp)
    have ih := owns_set hf hl (k := k) h5 (fun y hy => hs y (by simp [hy])) (by simpa using hk)
    subst h1
    have e : (k + 1) * size = d1.length + k * size := by rw [h2, hx, Nat.add_mul]; omega
    rw [e, splice_app]
    exact ⟨S1, d1, _, rfl, h2, h3, h4, ih⟩
theorem splice_in {cs c0 vc : List Value} {k j : Nat} (h0 : ∀ i u, c0[i]? = some u → cs[k + i]? = some u) (hj : j + vc.length ≤ c0.length) (hk : k + c0.length ≤ cs.length) : splice cs (k + j) vc = splice cs k (splice c0 j vc) := by
  have hseg : (cs.drop k).take c0.length = c0 := by
    apply List.ext_getElem?
    intro i
    rw [List.getElem?_take, List.getElem?_drop]
    rcases Nat.lt_or_ge i c0.length with h | h
    · rw [if_pos h, List.getElem?_eq_getElem h]
      exact h0 i _ (List.getElem?_eq_getElem h)
    · rw [if_neg (by omega), List.getElem?_eq_none h]
  have hcs : cs = cs.take k ++ (c0 ++ cs.drop (k + c0.length)) := by
    rw [← List.drop_drop]
    conv => lhs; rw [← List.take_append_drop k cs, ← List.take_append_drop c0.length (cs.drop k), hseg]
  have hlt : (cs.take k).length = k := by rw [List.length_take]; omega
  have hsl : (splice c0 j vc).length = c0.length := by simp only [splice, List.length_append, List.length_take, List.length_drop]; omega
  have e1 : splice cs (k + j) vc = cs.take k ++ (splice c0 j vc ++ cs.drop (k + c0.length)) := by
    conv => lhs; rw [hcs]
    have := splice_app (d1 := cs.take k) (d2 := c0 ++ cs.drop (k + c0.length)) (k := j) (c1 := vc)
    rw [hlt] at this
    rw [this]
    congr 1
    simp only [splice, List.append_assoc]
    rw [List.take_append_of_le_length (by omega), List.drop_append_of_le_length (by omega)]
  rw [e1]
  have e2 : splice cs k (splice c0 j vc) = cs.take k ++ (splice c0 j vc ++ cs.drop (k + (splice c0 j vc).length)) := rfl
  rw [e2, hsl]
theorem row_store {cs vc : List Value} {n0 k : Nat} (hr : W.ownsRow 0 e size (.slice A n0 c) n0 cs) (hpos : 0 < vc.length) (hk : k + vc.length ≤ n0 * size) :
    ∃ g cur, A = some ⟨g, 0, none⟩ ∧ W.heap[g]? = some (.cells cur e (0, 0)) ∧ k + vc.length ≤ cur.size ∧ (W.setRow g (splice cur.toList k vc).toArray).ownsRow 0 e size (.slice A n0 c) n0 (splice cs k vc) := by
  rcases hr.2 with ⟨h1, h2⟩ | ⟨g, cap, cur, h1, hb, hg, hnc, hcm, hcs, htake⟩
  · subst h2; omega
  · simp only [Value.slice.injEq, true_and] at h1
    obtain ⟨rfl, rfl⟩ := h1
    have hle : n0 * size ≤ c * size := Nat.mul_le_mul_right _ hnc
    have hlen : (splice cur.toList k vc).length = cur.size := by simp only [splice, List.length_append, List.length_take, List.length_drop, Array.length_toList]; omega
    refine ⟨g, cur, rfl, hg, by omega, ?_, .inr ⟨g, c, (splice cur.toList k vc).toArray, rfl, hb, setRow_heap W g _ _ e (0, 0) hg, hnc, hcm, by simpa [hlen] using hcs, ?_⟩⟩
    · have := hr.1
      simp only [splice, List.length_append, List.length_take, List.length_drop]
      omega
    · rw [← htake]
      simp only [splice]
      have hkl : (cur.toList.take k).length = k := by rw [List.length_take, Array.length_toList]; omega
      have e1 : List.take (n0 * size) (cur.toList.take k ++ (vc ++ cur.toList.drop (k + vc.length))) = cur.toList.take k ++ (vc ++ (cur.toList.drop (k + vc.length)).take (n0 * size - (k + vc.length))) := by
        rw [← List.append_assoc, List.take_append, List.take_of_length_le (by rw [List.length_append, hkl]; omega), List.length_append, hkl, List.append_assoc]
      rw [e1, List.take_take, Nat.min_eq_left (show k ≤ n0 * size by omega), List.drop_take]
/-- l[i] = x, or a part of it. -/
theorem OpW.se {p q : Operand} {j tsize tb : Nat} {x0 x1 : α} {c0 c1 : List Value} (hr : upd l i x1 = some r) (hx : nth l i = some x0) (hS : Sep M w0 W (rowE A c e size enc l :: L)) (ht : tinfo P t = some (ag, z, tsize, tb)) (ho : o.op = .store t p q)
    (hp : ev E p = some (.pointer (some (elemA A (i.toNat * size + j))))) (hq : ev E q = some v) (hf0 : flat (enc x0) = some c0) (hf1 : flat (enc x1) = some c1) (hc : splice c0 j v.cells.toList = c1)
    (k : ∀ W', Sep M w0 W' (rowE A c e size enc r :: L) → K E W') (hl : v.cells.size = tsize) (h1 : v.cells.toList.all (·.oneCell') = true) (hj : Nat.ble (j + tsize) c0.length = true) (h0 : Nat.blt 0 tsize = true) (hg : o.guard = none) (hd : o.dst = none) : OpW P n ops o E W K := by
  obtain ⟨hrr, hi0, hi1⟩ := upd_some hr
  obtain ⟨_, _, hxi⟩ := nth_some hx
  have hj' : j + tsize ≤ c0.length := by simpa using hj
  have hpos : 0 < tsize := by simpa [Nat.blt_eq] using h0
  have hvl : v.cells.toList.length = tsize := by simpa using hl
  obtain ⟨S1, hS1, ⟨v1, cs, f1, ⟨r1, b1⟩, s1, S2, p2, o2⟩, hrest⟩ := hS.own
  simp only [List.cons.injEq, and_true] at f1
  subst f1
  simp only [List.length_map] at r1
  have hsz0 : c0.length = size := by
    have := D.own_length (flat_own (W := W) (S := fun _ => False) hf0)
    rw [this]
    exact s1 _ (List.mem_map.2 ⟨x0, List.mem_of_getElem? hxi, rfl⟩)
  have hget : (l.map enc)[i.toNat]? = some (enc x0) := by simp [hxi]
  have hcell : ∀ q u, c0[q]? = some u → cs[i.toNat * size + q]? = some u := by
    obtain ⟨ci, g1, g2, g3⟩ := rds_get (D.owns_rds o2) s1 hget
    have := flat_rd hf0 g1
    subst this
    exact g3
  have hcl : cs.length = l.length * size := by rw [r1.1]
  have hbound : i.toNat * size + c0.length ≤ cs.length := by
    rw [hcl, hsz0]
    have : (i.toNat + 1) * size ≤ l.length * size := Nat.mul_le_mul_right _ (by omega)
    rw [Nat.add_mul] at this
    omega
  have hspl := splice_in hcell (by omega : j + v.cells.toList.length ≤ c0.length) hbound
  rw [hc] at hspl
  obtain ⟨g, cur, rfl, hgc, hfit, hrow⟩ := row_store (k := i.toNat * size + j) (vc := v.cells.toList) r1 (by omega) (by omega)
  have hadd : elemA (some ⟨g, 0, none⟩) (i.toNat * size + j) = ⟨g, i.toNat * size + j, none⟩ := by unfold elemA Addr.add; split <;> simp_all
  rw [hadd] at hp
  have hgS : S1 g := b1 g rfl
  refine .skip hg hd (W' := W.setRow g (splice cur.toList (i.toNat * size + j) v.cells.toList).toArray) (fun a ha => ?_) (k _ ?_)
  · have hrun := run_storeVar (P := P) (v := v) (j := i.toNat * size + j) ht hgc hl h1 (by omega)
    unfold execOp
    simp only [ho, ha.ev hp, ha.ev hq, Instr.storeAt, Instr.sureAddr, Sem.run_bind, Sem.run_pure, Result.andThen_ok, hrun]
  · have hfr : Frame S1 W (W.setRow g (splice cur.toList (i.toNat * size + j) v.cells.toList).toArray) := ⟨rfl, rfl, rfl, frame_setRow.size, fun b hb hn => frame_setRow.block b hb fun e => hn (e ▸ hgS)⟩
    refine Sep.of_parts (L' := [rowE (some ⟨g, 0, none⟩) c e size enc r]) hS.frame (S := S1) hS1 hrest hfr ⟨S1, fun b hb => .inl hb, ?_, trivial⟩
    have hl1 : c1.length = size := by rw [← hc]; simp only [splice, List.length_append, List.length_take, List.length_drop]; omega
    have hset : r.map enc = (l.map enc).set i.toNat (enc x1) := by rw [hrr, List.map_set]
    have hrl : r.length = l.length := by rw [hrr, List.length_set]
    have hag : Agree S2 W (W.setRow g (splice cur.toList (i.toNat * size + j) v.cells.toList).toArray) := fun b hb => by
      have hne : b ≠ g := fun he => (p2 b hb).2 (by rw [he]; rfl)
      simp only [World.setRow, Array.getElem?_modify]
      rw [if_neg (fun h => hne h.symm)]
    refine ⟨_, splice cs (i.toNat * size + j) v.cells.toList, by rw [hrl], ⟨by simpa [hrl] using hrow, by simpa using b1⟩, fun d hd => ?_, S2, by simpa using p2, ?_⟩
    · rw [hset] at hd
      rcases List.mem_or_eq_of_mem_set hd with h | h
      · exact s1 d h
      · rw [h, ← D.own_length (flat_own (W := W) (S := fun _ => False) hf1)]; exact hl1
    · rw [hset, hspl]
      exact owns_set hf1 hl1 (D.owns_agree o2 hag) s1 hget
end Go.Proofs.YtjpbdpfkhdekpaaGreatDoor.X
