/- The program logic: zeros appended, closures, tests in drawn regions, pointers that may be nil, shifts, tables. -/
import Derived.Test.YtjpbdpfkhdekpaaGreatDoorZ2
import Derived.Lib.AppendZerosOnto
import Derived.Laws.Pointers
set_option linter.unusedVariables false
set_option linter.unusedSimpArgs false
namespace Go.Proofs.YtjpbdpfkhdekpaaGreatDoor.X
variable {P : Program} {n : Nat} {ops : Array Oper} {o : Oper} {rest : List Oper} {E E' : Env} {W W' w w0 : World} {a : Act} {v u v2 : Value} {K : Env → World → Prop} {M T S : Nat → Prop} {L L0 L1 : List Ent} {R : Exit → Env → World → Prop}
variable {t tn e : TypeId} {ag : Bool} {z : Option Value} {zv : Value} {size bytes : Nat} {A A2 : Option Addr} {m c c2 k : Nat} {α : Type} {enc : α → D} {l l2 r : List α} {i : Int} {x y z0 : α} {d : D} {ds xs ys : List D} {cs c1 zc : List Value}

/-! ### append(l, make(.., k)...) -/
theorem zero_list (zs : Array Value) (n : Nat) : (Builtin.zeroCells zs n).toList = (List.replicate n zs.toList).flatten := made_list (z := zs) (n := n)
theorem app_zeros {kn kq : IntKind} {ty : TypeId} {cs : List Value} {n0 : Nat} {v : Value} (hu : P.underlying t = some (.slice e)) (htn : P.underlying tn = some (.int kn)) (ht : tinfo P e = some (ag, some zv, size, bytes)) (hzs : zv.cells.size = size) (hpos : 0 < size) (hb : 0 < bytes)
    (h1 : zv.cells.toList.all (·.oneCell') = true) (hown : W.ownsRow 0 e size v n0 cs) (hroom : (n0 + k) * bytes ≤ 140737488355328) :
    ∃ v' W', (Builtin.append_ #[t, tn] ty #[v, .int kq k]).run P W = .ok v' W' ∧ W'.ownsRow 0 e size v' (n0 + k) (cs ++ (List.replicate k zv.cells.toList).flatten) ∧ W.grownBy W' v.ownBlock ∧ (v'.ownBlock = v.ownBlock ∨ v'.ownBlock = some W.heap.size) := by
  obtain ⟨i0, hi, hz0, hz1, hz2⟩ := tinfo_parts ht
  subst hz1
  subst hz2
  have hle : n0 + k ≤ 140737488355328 := Nat.le_trans (Nat.le_mul_of_pos_right _ hb) hroom
  have hkb : k * i0.bytes ≤ 140737488355328 := Nat.le_trans (Nat.mul_le_mul_right _ (by omega)) hroom
  have hw : IntKind.i64.wrap (k : Int) = k := by rw [IntKind.wrap_i64]; omega
  have hw0 : IntKind.i64.wrap 0 = 0 := by decide
  have hzl : (List.replicate k zv.cells.toList).flatten.length = k * i0.size := by
    rw [← zero_list, Array.length_toList, size_zeroCells, hzs]
  have hlen : (cs ++ (List.replicate k zv.cells.toList).flatten).length = (n0 + k) * i0.size := by rw [List.length_append, hown.1, hzl, Nat.add_mul]
  have hone : ∀ u ∈ (List.replicate k zv.cells.toList).flatten, u.oneCell' = true := fun u hu => by
    obtain ⟨l, hl, hu⟩ := List.mem_flatten.1 hu
    rw [(List.mem_replicate.1 hl).2] at hu
    exact List.all_eq_true.1 h1 u hu
  have grown : ∀ (old : Nat), old < n0 + k → ∀ (row : Option Nat), (W.drew.alloc (.cells (cs.toArray ++ Builtin.zeroCells zv.cells k ++ Builtin.zeroCells zv.cells (grownCap W (n0 + k) old e - (n0 + k))) e)).ownsRow 0 e i0.size (.slice (some ⟨W.heap.size, 0, none⟩) (n0 + k) (grownCap W (n0 + k) old e)) (n0 + k) (cs ++ (List.replicate k zv.cells.toList).flatten) ∧
      W.grownBy (W.drew.alloc (.cells (cs.toArray ++ Builtin.zeroCells zv.cells k ++ Builtin.zeroCells zv.cells (grownCap W (n0 + k) old e - (n0 + k))) e)) row := by
    intro old ho row
    have hge := grownCap_ge W (n0 + k) old e
    have hcm : grownCap W (n0 + k) old e ≤ maxLen := grownCap_le_maxLen W (n0 + k) old e (by simp only [maxLen]; omega)
    refine ⟨⟨hlen, .inr ⟨W.heap.size, _, _, rfl, Nat.zero_le _, heap_alloc_new W.drew _, hge, hcm, ?_, ?_⟩⟩, ⟨rfl, rfl, rfl, by simp, fun q hq _ => heap_alloc_old W.drew _ q hq⟩⟩
    · simp only [Array.size_append, List.size_toArray, size_zeroCells, hzs, hown.1, ← Nat.add_mul]
      congr 1
      omega
    · rw [← hlen]
      simp only [Array.toList_append, zero_list]
      exact List.take_left
  have hneg : ¬ ((k : Int) < 0) := by omega
  rcases hown.2 with ⟨rfl, rfl⟩ | ⟨g, cap, cur, rfl, hbg, hg, hnc, hcm, hcs, htake⟩
  · have hx : cs = [] := List.eq_nil_of_length_eq_zero (by simpa using hown.1)
    subst hx
    by_cases hm : k = 0
    · subst hm
      refine ⟨.slice none 0 0, W, ?_, by simpa using World.ownsRow_nil W 0 e i0.size, ⟨rfl, rfl, rfl, Nat.le_refl _, fun _ _ _ => rfl⟩, Or.inl rfl⟩
      simp [Builtin.append_, run_underlying hu, run_underlying htn, sizeOf, typeInfo, hi, asInt, asIntOf, hw0]
    · have hr := Lib.run_append_nil_zeros (P := P) W t tn ty e i0 zv kq kn hu htn hi hz0 k (by omega) hpos (by omega) (by omega)
      have hgr := grown 0 (by omega) (Value.ownBlock (.slice none 0 0))
      simp only [Nat.zero_add, List.nil_append, Array.empty_append] at hgr ⊢
      exact ⟨_, _, hr, hgr.1, hgr.2, Or.inr rfl⟩
  · by_cases hfitc : n0 + k ≤ cap
    · have hfit : n0 * i0.size + (List.replicate k zv.cells.toList).flatten.length ≤ cur.size := by rw [hzl, hcs, ← Nat.add_mul]; exact Nat.mul_le_mul_right _ hfitc
      have hst := run_storeCells_at P g (n0 * i0.size) e (List.replicate k zv.cells.toList).flatten 0 cur W hg (by simpa using hfit) hone
      simp only [Nat.add_zero] at hst
      have hr : (Builtin.append_ #[t, tn] ty #[.slice (some ⟨g, 0, none⟩) n0 cap, .int kq k]).run P W = .ok (.slice (some ⟨g, 0, none⟩) (n0 + k) cap) (W.setRow g (cur.toList.take (n0 * i0.size) ++ (List.replicate k zv.cells.toList).flatten ++ cur.toList.drop (n0 * i0.size + (List.replicate k zv.cells.toList).flatten.length)).toArray) := by
        have h48i : ¬ (281474976710656 < (k : Int) * (i0.bytes : Int)) := by rw [← Int.natCast_mul]; omega
        by_cases hk0 : k = 0
        · subst hk0
          simp only [List.replicate_zero, List.flatten_nil, List.length_nil, List.append_nil, Nat.add_zero] at hst ⊢
          simp [Builtin.append_, run_underlying hu, run_underlying htn, sizeOf, typeInfo, hi, asInt, asIntOf, hw0, hnc, Addr.add_lit]
          simp at hst
          rw [hst]
          rfl
        · have hns : ¬ (k * i0.size = 0) := Nat.mul_ne_zero hk0 (by omega)
          simp [Builtin.append_, run_underlying hu, run_underlying htn, sizeOf, typeInfo, zeroValue, hi, hz0, asInt, asIntOf, hw, hneg, h48i, hns, hfitc, Addr.add_lit]
          rw [zero_list]
          simp at hst
          rw [hst]
          rfl
      refine ⟨_, _, hr, ⟨hlen, .inr ⟨g, cap, _, rfl, hbg, setRow_heap W g cur _ e _ hg, hfitc, hcm, ?_, ?_⟩⟩, ⟨rfl, rfl, rfl, by simp, fun q _ hq => setRow_other W g q _ (fun e => hq (by simp [Value.ownBlock, e]))⟩, Or.inl rfl⟩
      · simp only [List.size_toArray, List.length_append, List.length_take, List.length_drop, Array.length_toList]
        omega
      · rw [htake, ← hlen]
        exact List.take_left
    · have hf := run_firstCells_some (P := P) W.drew i0.size n0 ⟨g, 0, none⟩ n0 cap cs hown.1 (fun j u hj => hown.cells (g := g) rfl j u hj)
      have hk0 : 0 < k := by omega
      have hr := Lib.run_append_grow_zeros (P := P) W t tn ty e i0 zv kq kn hu htn hi hz0 (some ⟨g, 0, none⟩) n0 cap cs hf k hk0 hpos (by omega) (by omega) (by omega) (growslice_fits (by omega) hroom)
      have hgr := grown cap (by omega) (Value.ownBlock (.slice (some ⟨g, 0, none⟩) n0 cap))
      exact ⟨_, _, hr, hgr.1, hgr.2, Or.inr rfl⟩

/-- append(l, make([]T, k)...) in the functions' own words -/
def appz (bytes : Nat) (l : List α) (k : Int) (z : α) : Option (List α) := if k < 0 then none else app bytes l (List.replicate k.toNat z)
theorem appz_some {kk : Int} {r : List α} (h : appz bytes l kk z0 = some r) : 0 ≤ kk ∧ r = l ++ List.replicate kk.toNat z0 ∧ (l.length + kk.toNat) * bytes ≤ 140737488355328 := by
  unfold appz at h
  split at h
  · cases h
  · obtain ⟨h1, h2⟩ := app_some h
    rw [List.length_replicate] at h2
    exact ⟨by omega, h1, h2⟩
theorem OpW.appz {kn j : IntKind} {kk : Int} {p q : Operand} (z0 : α) (hr : X.appz bytes l kk z0 = some r) (hS : Sep M w0 W (rowV v e size enc l :: L)) (hu : P.underlying t = some (.slice e)) (htn : P.underlying tn = some (.int kn)) (ht : tinfo P e = some (ag, some zv, size, bytes))
    (ho : o.op = .call { callee := .builtin .append, args := #[p, q], argTypes := #[t, tn] }) (hp : ev E p = some v) (hq : ev E q = some (.int j kk)) (hf : zflat (enc z0) = some zv.cells.toList)
    (h : ∀ (v : Hd) W', Sep M w0 W' (rowV (sv v) e size enc r :: L) → K (put E o.dst (sv v)) W') (hsz : ∀ x : α, (enc x).sz = size)
    (hz : zv.cells.size = size) (h1 : zv.cells.toList.all (·.oneCell') = true) (h0 : Nat.blt 0 size = true) (hb0 : Nat.blt 0 bytes = true) (hg : o.guard = none) (hd : okD n o.dst = true) : OpW P n ops o E W K := by
  obtain ⟨hk0, rfl, hroom⟩ := appz_some hr
  obtain ⟨S1, hS1, hx1, hrest⟩ := hS.own
  obtain ⟨v1, k1, e1, ⟨r1, b1⟩, s1, S1', p1, o1⟩ := hx1
  simp only [List.cons.injEq, and_true] at e1
  subst e1
  simp only [List.length_map] at r1
  obtain ⟨v', W', hrun, hown, hgrow, hat⟩ := app_zeros (P := P) (k := kk.toNat) (kq := j) (ty := o.type) hu htn ht hz (by simpa [Nat.blt_eq] using h0) (by simpa [Nat.blt_eq] using hb0) h1 r1 hroom
  obtain ⟨hd', rfl⟩ : ∃ hd' : Hd, v' = sv hd' := by
    rcases hown.2 with ⟨h1, h2⟩ | ⟨g, cap, cur, h1, _⟩
    · exact ⟨nilH, h1⟩
    · exact ⟨⟨_, _, _⟩, h1⟩
  have hlen : (l ++ List.replicate kk.toNat z0).length = l.length + kk.toNat := by simp
  refine .runs (W' := W') (v := sv hd') (fun a ha => ?_) hg hd (h _ _ (Sep.of_parts (L' := [rowV (sv hd') e size enc (l ++ List.replicate kk.toNat z0)]) hS.frame hS1 hrest (Frame.of_grown hgrow fun b hb => b1 b hb) ⟨fun b => S1 b ∨ b = W.heap.size ∧ b < W'.heap.size, fun b hb => hb.imp id fun h => ⟨by omega, h.2⟩, ?_, trivial⟩))
  · have hkk : ((kk.toNat : Nat) : Int) = kk := by omega
    rw [hkk] at hrun
    unfold execOp
    simp only [ho, resolve, Deferred.ofValue, invoke, builtin, Sem.run_bind, Sem.run_pure, Result.andThen_ok]
    simp [ha.ev hp, ha.ev hq, hrun]
  · refine ⟨_, _, rfl, ⟨by simpa using hown, fun g hg0 => ?_⟩, fun x hx => ?_, S1', fun b hb => ⟨.inl (p1 b hb).1, ?_⟩, ?_⟩
    · rcases hat with hat | hat
      · exact .inl (b1 g (hat ▸ hg0))
      · have : g = W.heap.size := by rw [hat] at hg0; injection hg0 with hg0; exact hg0.symm
        subst this
        rcases hown.lt W.heap.size hat with ⟨_, h2⟩
        exact .inr ⟨rfl, h2⟩
    · obtain ⟨y, hy, rfl⟩ := List.mem_map.1 hx
      exact hsz y
    · rcases hat with hat | hat
      · rw [hat]; exact (p1 b hb).2
      · rw [hat]
        intro he
        injection he with he
        have := (hS1 b (p1 b hb).1).2
        omega
    · rw [List.map_append]
      exact D.owns_mono (owns_append (D.owns_agree o1 fun b hb => hgrow.block b (hS1 b (p1 b hb).1).2 fun he => (p1 b hb).2 he.symm) (made_zowns (W := W') hf) fun b _ h => h) fun b hb => hb.elim id False.elim

/-- A row beside what is lent can be read by the call. -/
theorem Owns.rdv {k : Nat} (h : Owns W L (fun b => OkS M w0 W b ∧ ¬ S b)) (hk : L[k]? = some (rowV v e size enc l)) : RV W (Old S W) v e size enc l := by
  obtain ⟨S1, h1, h2, _⟩ := h.pull hk
  have := D.rd_mono (D.own_rd (d := .row e size (l.map enc)) h2) (T' := Old S W) fun b hb => ⟨(h1 b hb).1.2, (h1 b hb).2⟩
  exact this
/-! ### Functions as values -/
theorem run_callv {f : FuncId} {fn : Func} {fo : Operand} {as : Array Operand} {ts : Array TypeId} {vs cap : List Value} (hf : P.funcs[f]? = some fn) (hb : fn.body.isSome = true) (hn : (fn.name == "runtime.NumGoroutine") = false)
    (ho : o.op = .call { callee := .value fo, args := as, argTypes := ts }) (hfo : ev E fo = some (.func (.func f) #[] cap.toArray)) (hv : evs E as.toList = some vs) : ∀ a, Fits n E a → (execOp a.eval o).run P W = .ok (.enter f (vs ++ cap).toArray) W := by
  intro a ha
  have h1 := ha.evs hv
  have h2 : as.map a.eval = vs.toArray := by rw [← h1]; apply Array.ext'; simp
  have h3 : fn.name ≠ "runtime.NumGoroutine" := by simpa using hn
  obtain ⟨cb, hcb⟩ := Option.isSome_iff_exists.1 hb
  unfold execOp
  simp [ho, resolve, Deferred.ofValue, invoke, ha.ev hfo, h2, callFunc, hf, h3, hcb]
/-- A call of a closure that is lent what it has caught. -/
theorem OpW.callC {σ : Type} {f : FuncId} {fn : Func} {fo : Operand} {as : Array Operand} {ts : Array TypeId} {vs cap : List Value} {v : σ → Value} {L' : σ → List Ent} (hS : Sep M w0 W (L0 ++ L)) (hf : P.funcs[f]? = some fn)
    (hc : ∀ S : Nat → Prop, (∀ b, S b → OkS M w0 W b) → Owns W L0 S → Owns W L (fun b => OkS M w0 W b ∧ ¬ S b) → Calls P f (vs ++ cap).toArray W (Ret S W v L'))
    (ho : o.op = .call { callee := .value fo, args := as, argTypes := ts }) (hfo : ev E fo = some (.func (.func f) #[] cap.toArray)) (hv : evs E as.toList = some vs)
    (k : ∀ s W', Sep M w0 W' (L' s ++ L) → K (put E o.dst (v s)) W') (hb : fn.body.isSome = true) (hn : (fn.name == "runtime.NumGoroutine") = false) (hg : o.guard = none) (hd : okD n o.dst = true) : OpW P n ops o E W K := by
  obtain ⟨S, h1, h2, h3⟩ := hS.own.split
  refine .enter hg hd (run_callv hf hb hn ho hfo hv) ((hc S h1 h2 h3).mono ?_)
  rintro x W' ⟨s, rfl, hs⟩
  refine ⟨_, rfl, k s W' (Sep.of_parts hS.frame h1 h3 hs.frame (hs.own.mono fun b hb => ?_))⟩
  exact hb.1.elim (fun h => .inr ⟨h, hb.2⟩) .inl
theorem mf {f : FuncId} {cap : Array Operand} {vs : List Value} (ho : o.op = .makeFunc (.func f) #[] cap) (hv : evs E cap.toList = some vs) : Runs P n E o W (.func (.func f) #[] vs.toArray) W := by
  intro a ha
  have h1 := ha.evs hv
  have h2 : cap.map a.eval = vs.toArray := by rw [← h1]; apply Array.ext'; simp
  unfold execOp
  simp [ho, Instr.makeFunc, h2]

/-! ### Tests in regions whose order is drawn -/
theorem OpW.gd {c b : Bool} (hc : c = b) (h : OpW P n ops { o with guard := none } E W K) (hg : gdv ops.toList E o.guard = some (c, b)) : OpW P n ops o E W K := by
  subst hc
  obtain ⟨j, d, h1, h2, h3⟩ := gdv_spec hg
  intro a Q Kc ha hk
  have hw : Region.wanted o (yielded ops a.tmps) = true := by simp [Region.wanted, h1, yielded_of ha h2 h3]
  have := h a Q Kc ha hk
  rw [if_pos (by simp [Region.wanted])] at this
  rw [if_pos hw]
  exact this
variable {SW : World → Prop}
theorem RK.t1g {f : Nat} {ls : Array Bool} {c b : Bool} (i : Nat) (ho : ops[i]? = some o) (hc : c = b) (hv : ∀ W, SW W → Runs P n E o W v W) (hS : SW W) (h : RK P n ops SW k f (ls.setIfInBounds i true) (put E o.dst v) W K)
    (hs : (Region.noSelect ops && Region.free .any ops ls i && (Region.ready .any ops ls).contains i && waits ops k i && !(Nat.beq i k)) = true) (hg : gdv ops.toList E o.guard = some (c, b)) (hd : okD n o.dst = true) : RK P n ops SW k (f + 1) ls E W K := by
  subst hc
  intro a Q ha hk
  simp only [Bool.and_eq_true, Bool.not_eq_true'] at hs
  obtain ⟨⟨⟨⟨h1, h2⟩, h3⟩, h4⟩, h5⟩ := hs
  obtain ⟨j, d, g1, g2, g3⟩ := gdv_spec hg
  exact wpK_first ho h1 (fun c a w h => h) h4 (by rintro rfl; rw [Nat.beq_refl] at h5; cases h5) (Lone.of ho h2) (by simpa using h3) (.inl ⟨by simp [Region.wanted, g1, yielded_of ha g2 g3], fun w hw => hv w hw a ha⟩) hS (h _ Q (ha.put hd v) hk)
theorem RK.off {f : Nat} {ls : Array Bool} {c b : Bool} (i : Nat) (ho : ops[i]? = some o) (hc : c = !b) (hS : SW W) (h : RK P n ops SW k f (ls.setIfInBounds i true) (put E o.dst undef) W K)
    (hs : (Region.noSelect ops && Region.free .any ops ls i && (Region.ready .any ops ls).contains i && waits ops k i && !(Nat.beq i k)) = true) (hg : gdv ops.toList E o.guard = some (c, b)) (hd : okD n o.dst = true) : RK P n ops SW k (f + 1) ls E W K := by
  subst hc
  intro a Q ha hk
  simp only [Bool.and_eq_true, Bool.not_eq_true'] at hs
  obtain ⟨⟨⟨⟨h1, h2⟩, h3⟩, h4⟩, h5⟩ := hs
  obtain ⟨j, d, g1, g2, g3⟩ := gdv_spec hg
  exact wpK_first ho h1 (fun c a w h => h) h4 (by rintro rfl; rw [Nat.beq_refl] at h5; cases h5) (Lone.of ho h2) (by simpa using h3) (.inr ⟨by simp [Region.wanted, g1, yielded_of ha g2 g3], rfl⟩) hS (h _ Q (ha.put hd _) hk)
theorem RK.eqv {f : Nat} {ls : Array Bool} (d : Nat) (h : look E d = some u) (he : u = v) (kk : RK P n ops SW k f ls ((d, v) :: E) W K) : RK P n ops SW k f ls E W K := by
  subst he
  refine fun a Q ha hk => kk a Q (ha.sub fun i x hi => ?_) hk
  simp only [look] at hi
  cases hb : Nat.beq d i
  · rw [hb] at hi; exact hi
  · rw [hb] at hi
    obtain rfl := Nat.eq_of_beq_eq_true hb
    injection hi with hi
    subst hi
    exact h
theorem RK.both {f : Nat} {ls : Array Bool} (b : Bool) (ht : b = true → RK P n ops SW k f ls E W K) (hf : b = false → RK P n ops SW k f ls E W K) : RK P n ops SW k f ls E W K := by
  cases b
  · exact hf rfl
  · exact ht rfl
theorem CW.eqv {c : Code} (d : Nat) (h : look E d = some u) (he : u = v) (kk : CW P n c ((d, v) :: E) W R) : CW P n c E W R := by
  subst he
  refine fun a ha => kk a (ha.sub fun i x hi => ?_)
  simp only [look] at hi
  cases hb : Nat.beq d i
  · rw [hb] at hi; exact hi
  · rw [hb] at hi
    obtain rfl := Nat.eq_of_beq_eq_true hb
    injection hi with hi
    subst hi
    exact h
theorem bool_eq {x y : Bool} (h : some x = some y) : Value.bool x = Value.bool y := by injection h with h; rw [h]

/-! ### A pointer to an element, or nil: the number behind it is less than 0 then -/
def ptrV (v : Value) (size : Nat) (r : Int) : Value := if r < 0 then .pointer none else .pointer (some (elemA (adr v) (r.toNat * size + 0)))
theorem ptr_at (h : nth l i = some x) : ptrV v size i = .pointer (some (elemA (adr v) (i.toNat * size + 0))) := by
  obtain ⟨h0, _⟩ := nth_some h
  unfold ptrV
  rw [if_neg (by omega)]
theorem ptr_no : ptrV v size (-1) = .pointer none := rfl
theorem run_eq_ptr_nil {t e : TypeId} {q : Option Addr} (d : Nat) (h : P.underlying t = some (.pointer e)) : (Op.equalIn (d + 1) t (.pointer q) (.pointer none)).run P W = .ok q.isNone W := by
  unfold Op.equalIn
  rw [Sem.run_bind, run_underlying h]
  cases q <;> rfl
theorem run_equal_ptr_nil {t e : TypeId} {q : Option Addr} (h : P.underlying t = some (.pointer e)) : (Op.equal t (.pointer q) (.pointer none)).run P W = .ok q.isNone W := run_eq_ptr_nil 9999 h
theorem nilp {p : Operand} {t' e' : TypeId} (hu : P.underlying t = some (.pointer e')) (ho : o.op = .binOp .eql t p (.const (.pointer none)) t') (hp : ev E p = some (ptrV v size i)) : Runs P n E o W (.bool (decide (i < 0))) W := by
  intro a ha
  have hc : ∀ q : Option Addr, (do eqGuard .eql t p (.const (.pointer none)) (.pointer q) (Act.eval a (.const (.pointer none))); binOp .eql t (.pointer q) (Act.eval a (.const (.pointer none))) : Sem Value).run P W = .ok (.bool q.isNone) W := by
    intro q
    have h1 := run_equal_ptr_nil (P := P) (W := W) (q := q) hu
    have h3 : (eqGuard .eql t p (.const (.pointer none)) (.pointer q) (Act.eval a (.const (.pointer none)))).run P W = .ok () W := rfl
    simp only [Sem.run_bind, h3, Result.andThen_ok]
    show (binOp .eql t (.pointer q) (.pointer none)).run P W = _
    simp [binOp, h1]
  unfold execOp
  simp only [ho, ha.ev hp, Sem.run_bind]
  unfold ptrV
  split
  · rename_i h
    have := hc none
    simp only [Sem.run_bind] at this
    rw [this]
    simp [h]
  · rename_i h
    have := hc (some (elemA (adr v) (i.toNat * size + 0)))
    simp only [Sem.run_bind] at this
    rw [this]
    simp [h]

/-! ### Shifts by numbers that are not written out -/
def shO (op : BinOp) (k : IntKind) (x y : Int) : Option Int := if y < 0 then none else match op with
  | .shl => some (kwrap k (x * 2 ^ (min y.toNat k.bits)))
  | .shr => some (x.fdiv (2 ^ (min y.toNat k.bits)))
  | _ => none
theorem shr_run {op : BinOp} {k j : IntKind} {x y r : Int} {p q : Operand} {t' : TypeId} (h : shO op k x y = some r) (ho : o.op = .binOp op t p q t') (hp : ev E p = some (.int k x)) (hq : ev E q = some (.int j y)) : Runs P n E o W (.int k r) W := by
  have hv : binV op (.int k x) (.int j y) = some (.int k r) := by
    unfold shO at h
    split at h
    · cases h
    · rename_i hy
      obtain ⟨m, rfl⟩ : ∃ m : Nat, y = Int.ofNat m := ⟨y.toNat, by simp; omega⟩
      cases op <;> simp only at h <;> try contradiction
      all_goals
        injection h with h
        subst h
        simp [binV, isSh, shI]
  refine pr ?_
  simp only [ho, pv, hp, hq, hv]

/-! ### Elements of package-level arrays -/
/-- The variable g holds a table, each entry f x. -/
def Tab (g size : Nat) (f : α → List Value) (l : List α) (w : World) : Prop := g < w.heap.size ∧ ∀ (i : Nat) x, l[i]? = some x → ∀ j u, (f x)[j]? = some u → w.cell? ⟨g, i * size + j, none⟩ = some u
theorem Tab.at {g : Nat} {f : α → List Value} (h : Tab g size f l w) (hS : Sep M w W L) (hM : ¬ M g) : Tab g size f l W := by
  refine ⟨Nat.lt_of_lt_of_le h.1 hS.frame.size, fun i x hx j u hj => ?_⟩
  rw [World.cell?_of_block (w := w) (hS.frame.block g h.1 hM)]
  exact h.2 i x hx j u hj
theorem ixt {g N : Nat} {j : IntKind} {p q : Operand} (hx : nth l i = some x) (hN : l.length = N) (hu : P.underlying t = some (.array N e)) (ht : tinfo P e = some (ag, z, size, bytes)) (ho : o.op = .indexAddr t p q)
    (hp : ev E p = some (.pointer (some ⟨g, 0, none⟩))) (hq : ev E q = some (.int j i)) : Runs P n E o W (.pointer (some ⟨g, i.toNat * size + 0, none⟩)) W := by
  intro a ha
  obtain ⟨h0, h1, h2⟩ := nth_some hx
  have hadd : (⟨g, 0, none⟩ : Addr).add (i.toNat * size) = ⟨g, i.toNat * size, none⟩ := by unfold Addr.add; split <;> simp_all
  unfold execOp
  simp only [ho, ha.ev hp, ha.ev hq, Sem.run_bind, Instr.indexAt, asIntOf, Sem.run_pure, Result.andThen_ok, run_underlying hu, Instr.sureAddr]
  rw [if_pos ⟨h0, by omega⟩]
  simp [run_sizeOf ht, hadd]
theorem ldt {g j : Nat} {f : α → List Value} {p : Operand} (hT : Tab g size f l W) (hx : nth l i = some x) (ht : tinfo P t = some (ag, z, m, bytes)) (ho : o.op = .load t p) (hp : ev E p = some (.pointer (some ⟨g, i.toNat * size + j, none⟩)))
    (hv : ofCells ag (seg (f x) j m) = v) (hl : (seg (f x) j m).length = m) (h2 : (ag || Nat.beq m 1) = true) : Runs P n E o W v W := by
  intro a ha
  obtain ⟨h0, h1, hxi⟩ := nth_some hx
  have hr := run_loadVar (P := P) (W := W) (ad := ⟨g, i.toNat * size + j, none⟩) (cs := seg (f x) j m) ht hl (fun e => by subst e; simpa using h2) (fun q u hu => by
    have hadd : (⟨g, i.toNat * size + j, none⟩ : Addr).add q = ⟨g, i.toNat * size + (j + q), none⟩ := by unfold Addr.add; split <;> simp_all [Nat.add_assoc]
    rw [hadd]
    refine hT.2 _ x hxi _ _ ?_
    simp only [seg, List.getElem?_take, List.getElem?_drop] at hu
    split at hu
    · simpa using hu
    · cases hu)
  unfold execOp
  simp only [ho, ha.ev hp, Instr.loadAt, Instr.sureAddr, Sem.run_bind, Sem.run_pure, Result.andThen_ok, hr, hv]
end Go.Proofs.YtjpbdpfkhdekpaaGreatDoor.X
