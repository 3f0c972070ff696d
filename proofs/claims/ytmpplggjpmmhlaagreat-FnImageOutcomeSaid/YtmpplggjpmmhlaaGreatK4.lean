/- Plain laws: SqueezeCode keeps a code valid; a code is optimized. Plain laws: expressions and statements are drawn, they are valid, they compile to valid codes. Plain laws: valid statements compile to valid codes; codes are drawn. Plain laws: the program's codes are valid as the reference's are; numbers' bits; the instructions of a quad. Plain laws: the instructions of a quad, of a code: the program's are the reference's. Plain laws: the instructions of a code: the program's are the reference's; places, jumps, colors. Plain laws: the instructions of a valid quad, of a valid code, are valid. Plain laws: lists of instructions are drawn. Plain laws: an image is drawn. Plain laws: machines are the same as themselves; drawn images; runs. Plain laws: an image behind some steps is drawn. The law of an image's outcome: reference and program answer alike. Plain law: an outcome is that of the data. -/
import Derived.Test.YtmpplggjpmmhlaaGreatK3
set_option linter.unusedVariables false
set_option linter.unusedSimpArgs false
set_option maxRecDepth 100000
set_option maxHeartbeats 4000000
namespace Go.Proofs.YtmpplggjpmmhlaaGreat.N
open Go.Proofs.YtmpplggjpmmhlaaGreat.X
theorem getD_true {l : List Bool} {i : Nat} : (l[i]?).getD false = true ↔ l[i]? = some true:=by
 cases h : l[i]? with
 | none=>simp
 | some b=>simp
theorem lt_of_get {α : Type} {l : List α} {i : Nat} {a : α} (h : l[i]? = some a) : i < l.length:=by
 rcases Nat.lt_or_ge i l.length with h' | h'
 ·exact h'
 ·rw [List.getElem?_eq_none h'] at h; cases h
def Closed (code : List Quad) (seen : List Bool) (m : Int) : Prop:=∀ (i : Nat) q,(i : Int) < m → code[i]? = some q → seen[i]? = some true → ∀ x ∈ nx q i,seen[x.toNat]? = some true
theorem bm_set {l : List Bool} {i : Nat} (h : l[i]? = some false) : bm (l.set i true) < bm l:=by
 have : bm (l.set i true) + 1 = bm l + 0:=sum_set (fun b=>if b then 0 else 1) true h
 omega
theorem spread_tot {code : List Quad} (hc : COk code) {seen : List Bool} (hs : seen.length = code.length) : Tot (f61 code seen) fun r => r.2.length = code.length ∧ (∀ (k : Nat), seen[k]? = some true → r.2[k]? = some true) ∧ (r.1 = true → bm r.2 < bm seen) ∧ (r.1 = false → r.2 = seen ∧ Closed code seen code.length) := by
  have hmx := hc.max
  unfold f61
  refine .bind (.iter (fun s => 0 ≤ s.2.1 ∧ s.2.1 ≤ (code.length : Int) ∧ s.2.2.length = code.length ∧ (∀ (k : Nat), seen[k]? = some true → s.2.2[k]? = some true) ∧ bm s.2.2 ≤ bm seen ∧ (s.1 = true → bm s.2.2 < bm seen) ∧ (s.1 = false → s.2.2 = seen ∧ Closed code seen s.2.1)) (fun s => ((code.length : Int) - s.2.1).toNat) ⟨by simp, by simp, hs, by simp, by simp, by simp, fun _ => ⟨rfl, fun i q h => by simp only at h; omega⟩⟩ fun s hs => ?_)
    fun r (hr : r.2.length = code.length ∧ (∀ (k : Nat), seen[k]? = some true → r.2[k]? = some true) ∧ (r.1 = true → bm r.2 < bm seen) ∧ (r.1 = false → r.2 = seen ∧ Closed code seen code.length)) => .pure hr
  obtain ⟨fresh, i, a⟩ := s
  obtain ⟨g0, g1, g2, g3, g4, g5, g6⟩ := hs
  simp only at g0 g1 g2 g3 g4 g5 g6
  unfold f8i
  refine .sel (fun hlt => ?_) fun hge => .inr (show a.length = code.length ∧ (∀ (k : Nat), seen[k]? = some true → a[k]? = some true) ∧ (fresh = true → bm a < bm seen) ∧ (fresh = false → a = seen ∧ Closed code seen code.length) from ?_)
  rotate_left
  · simp only [decide_eq_false_iff_not] at hge
    exact ⟨g2, g3, g5, fun h => by have := g6 h; rw [show i = (code.length : Int) by omega] at this; exact this⟩
  simp only [decide_eq_true_eq] at hlt
  refine .bind (P := fun z => z.2.length = code.length ∧ (∀ (k : Nat), seen[k]? = some true → z.2[k]? = some true) ∧ bm z.2 ≤ bm seen ∧ (z.1 = true → bm z.2 < bm seen) ∧ (z.1 = false → z.2 = seen ∧ Closed code seen (i + 1))) ?_ fun z hz => .inl ?_
  · refine .bind (.nth g0 (by rw [g2]; exact hlt)) fun b ⟨hb, _⟩ => .sel (fun hbf => .pure ⟨g2, g3, g4, g5, fun h => ⟨(g6 h).1, fun j q hj hq hsj => ?_⟩⟩) fun hbt => ?_
    · by_cases e : (j : Int) = i
      · obtain rfl : j = i.toNat := by omega
        rw [← (g6 h).1, hb] at hsj
        injection hsj with hsj
        subst hsj
        simp at hbf
      · exact (g6 h).2 j q (by omega) hq hsj
    have hbt' : b = true := by simpa using hbt
    subst hbt'
    obtain ⟨q, hq⟩ : ∃ q, code[i.toNat]? = some q := ⟨_, List.getElem?_eq_getElem (by omega)⟩
    have hnx := nx_in hc hq
    rw [show ((i.toNat : Nat) : Int) = i by omega] at hnx
    rw [next_eq g0 hq (by omega), Option.bind_some]
    have hlen : (nx q i).length ≤ 2 := by unfold nx; repeat' split
                                          all_goals simp
    refine .bind (.iter (fun s => 0 ≤ s.2.1 ∧ s.2.1 ≤ ((nx q i).length : Int) ∧ s.2.2.length = code.length ∧ (∀ (k : Nat), seen[k]? = some true → s.2.2[k]? = some true) ∧ bm s.2.2 ≤ bm seen ∧ (s.1 = true → bm s.2.2 < bm seen) ∧ (s.1 = false → s.2.2 = seen ∧ Closed code seen i ∧ ∀ x ∈ (nx q i).take s.2.1.toNat, seen[x.toNat]? = some true)) (fun s => (((nx q i).length : Int) - s.2.1).toNat) ⟨by simp, by simp, g2, g3, g4, g5, fun h => ⟨(g6 h).1, (g6 h).2, by simp⟩⟩ fun s hs => ?_)
      fun r (hr : r.2.length = code.length ∧ (∀ (k : Nat), seen[k]? = some true → r.2[k]? = some true) ∧ bm r.2 ≤ bm seen ∧ (r.1 = true → bm r.2 < bm seen) ∧ (r.1 = false → r.2 = seen ∧ Closed code seen (i + 1))) => .pure hr
    obtain ⟨fresh', j, a'⟩ := s
    obtain ⟨k0, k1, k2, k3, k4, k5, k6⟩ := hs
    simp only at k0 k1 k2 k3 k4 k5 k6
    unfold f8q
    refine .sel (fun hlt' => ?_) fun hge' => .inr (show a'.length = code.length ∧ (∀ (k : Nat), seen[k]? = some true → a'[k]? = some true) ∧ bm a' ≤ bm seen ∧ (fresh' = true → bm a' < bm seen) ∧ (fresh' = false → a' = seen ∧ Closed code seen (i + 1)) from ⟨k2, k3, k4, k5, fun h => ⟨(k6 h).1, fun m p hm hp hsm => ?_⟩⟩)
    · simp only [decide_eq_true_eq] at hlt'
      refine .bind (P := fun z => z.2.length = code.length ∧ (∀ (k : Nat), seen[k]? = some true → z.2[k]? = some true) ∧ bm z.2 ≤ bm seen ∧ (z.1 = true → bm z.2 < bm seen) ∧ (z.1 = false → z.2 = seen ∧ Closed code seen i ∧ ∀ x ∈ (nx q i).take (j + 1).toNat, seen[x.toNat]? = some true)) ?_ fun z hz => .inl ?_
      · refine .bind (.nth k0 hlt') fun x ⟨hx, hxm⟩ => ?_
        have hxr := hnx x hxm
        have hxl : x < a'.length := by rw [k2]; exact hxr.2
        refine .bind (.nth hxr.1 hxl) fun b ⟨hb2, _⟩ => .sel (fun hbf => ?_) fun hbt => .pure ⟨k2, k3, k4, k5, fun h => ⟨(k6 h).1, (k6 h).2.1, fun y hy => ?_⟩⟩
        · refine .bind (.nth k0 hlt') fun x2 ⟨hx2, _⟩ => ?_
          obtain rfl : x = x2 := Option.some.inj (hx.symm.trans hx2)
          refine .bind (.nth hxr.1 hxl) fun _ _ => .bind (.upd hxr.1 hxl) fun r hr => .pure ?_
          subst hr
          have hbf' : b = false := by simpa using hbf
          subst hbf'
          have hb3 : a'[x.toNat]? = some false := hb2
          have h4 := bm_set hb3
          refine ⟨by rw [List.length_set]; exact k2, fun k hk => ?_, by simp only; omega, fun _ => by simp only; omega, fun h => by cases h⟩
          simp only
          by_cases e : x.toNat = k
          · subst e; rw [List.getElem?_set_self (lt_of_get hb2)]
          · rw [List.getElem?_set_ne e]; exact k3 k hk
        · rw [show (j + 1).toNat = j.toNat + 1 by omega, List.take_add_one, hx] at hy
          simp only [Option.toList_some, List.mem_append, List.mem_singleton] at hy
          rcases hy with hy | rfl
          · exact (k6 h).2.2 y hy
          · rw [← (k6 h).1, hb2]; simpa using hbt
      · rw [w64_up k0 (by omega)]
        exact ⟨⟨by simp only; omega, by simp only; omega, hz⟩, by simp only; omega⟩
    · simp only [decide_eq_false_iff_not] at hge'
      have k7 := (k6 h).2.2
      rw [List.take_of_length_le (by omega)] at k7
      by_cases e : (m : Int) = i
      · obtain rfl : m = i.toNat := by omega
        obtain rfl : q = p := Option.some.inj (hq.symm.trans hp)
        rw [show ((i.toNat : Nat) : Int) = i by omega]
        exact k7
      · exact (k6 h).2.1 m p (by omega) hp hsm
  · rw [w64_up g0 (by omega)]
    exact ⟨⟨by simp only; omega, by simp only; omega, hz⟩, by simp only; omega⟩
theorem reach_tot {code : List Quad} (hc : COk code) : Tot (f5c code) fun seen=>seen.length = code.length ∧ seen[0]? = some true ∧ Closed code seen code.length:=by
 have hmx:=hc.max
 have h1:=hc.one
 unfold f5c
 rw [codevalid_true hc,Option.bind_some]
 refine .sf rfl (.bind (.mk (by omega) (by omega)) fun l hl=>?_)
 subst hl
 refine .bind (.nth (by omega) (by simp; omega)) fun _ _=>.bind (.upd (by omega) (by simp; omega)) fun l2 hl2=>?_
 have h0 : l2.length = code.length ∧ l2[0]? = some true:=by
  subst hl2
  refine ⟨by simp,?_⟩
  rw [show (0 : Int).toNat = 0 from rfl,List.getElem?_set_self (by simp; omega)]
 refine .bind (P:=fun seen=>seen.length = code.length ∧ seen[0]? = some true ∧ Closed code seen code.length) (.iter (fun s=>s.length = code.length ∧ s[0]? = some true) bm h0 fun s hs=>?_) fun r hr=>.pure hr
 unfold f8s
 exact .bind (spread_tot hc hs.1) fun r hr=>.sel (fun h=>.inl ⟨⟨hr.1,hr.2.1 0 hs.2⟩,hr.2.2.1 h⟩) fun h=>.inr (by
  obtain ⟨e,hcl⟩:=hr.2.2.2 h
  rw [e]; exact ⟨hs.1,hs.2,hcl⟩)
def idleB (q : Quad) (i : Int) : Bool:=if q.Op = 4 ∨ q.Op = 5 then q.N == i + 1 else if q.Op = 2 then q.Dst == q.A else false
theorem idle_eq (q : Quad) {i : Int} (h0 : 0 ≤ i) (h : i ≤ 1000) : f7m q i = some (idleB q i):=by
 refine Tot.eq ?_
 unfold f7m idleB
 rw [w64_up h0 (by omega)]
 refine .bind (P:=fun b=>b = true ↔ (q.Op = 4 ∨ q.Op = 5)) (.sel (fun h=>.pure ?_) fun h=>.pure ?_) fun b hb=>.sel (fun h=>.pure (by rw [if_pos (hb.1 h)])) fun h=>.sel (fun h'=>.pure ?_) fun h'=>.pure ?_
 ·simp only [beq_iff_eq] at *; simp [h]
 ·simp only [beq_eq_false_iff_ne,ne_eq] at *; simp [h]
 ·rw [if_neg (fun hh=>by rw [hb.2 hh] at h; cases h),if_pos (by simpa using h')]
 ·rw [if_neg (fun hh=>by rw [hb.2 hh] at h; cases h),if_neg (by simpa using h')]
def cnt (K : Nat → Bool) : Nat → Nat
 | 0=>0
 | m + 1=>cnt K m + if K m then 1 else 0
theorem cnt_le (K : Nat → Bool) : ∀ m,cnt K m ≤ m
 | 0=>Nat.le_refl _
 | m + 1=>by have:=cnt_le K m; simp only [cnt]; split <;> omega
theorem cnt_mono (K : Nat → Bool) {a : Nat} : ∀ {b : Nat}, a ≤ b → cnt K a ≤ cnt K b
  | 0, h => by have : a = 0 := by omega
               subst this; exact Nat.le_refl _
  | b + 1, h => by
    by_cases e : a = b + 1
    · subst e; exact Nat.le_refl _
    · have := cnt_mono K (a := a) (b := b) (by omega); simp only [cnt]; omega
theorem cnt_lt (K : Nat → Bool) {a j n : Nat} (h : a ≤ j) (hj : j < n) (hk : K j = true) : cnt K a < cnt K n:=by
 have h1:=cnt_mono K h
 have h2:=cnt_mono K (show j + 1 ≤ n from hj)
 simp only [cnt,hk,if_true] at h2
 omega
def kp (keep : List Bool) (j : Nat) : Bool:=(keep[j]?).getD false
theorem place_tot {keep : List Bool} {m : Int} (h0 : 0 ≤ m) (h1 : m ≤ keep.length) (hl : keep.length ≤ 1000) : Tot (f6q keep m) fun r=>r = (cnt (kp keep) m.toNat : Int):=by
 unfold f6q
 refine .bind (P:=fun r=>r = (cnt (kp keep) m.toNat : Int)) (.iter (fun s=>0 ≤ s.2 ∧ s.2 ≤ m ∧ s.1 = (cnt (kp keep) s.2.toNat : Int)) (fun s=>(m - s.2).toNat) ⟨by simp,by simpa using h0,rfl⟩ fun s hs=>?_) fun r hr=>.pure hr
 obtain ⟨c,i⟩:=s
 obtain ⟨g0,g1,g2⟩:=hs
 simp only at g0 g1 g2
 unfold f98
 refine .sel (fun hlt=>?_) fun hge=>.inr (show c = _ from ?_)
 ·simp only [decide_eq_true_eq] at hlt
  have hcl:=cnt_le (kp keep) i.toNat
  refine .bind (P:=fun z=>z = (cnt (kp keep) (i + 1).toNat : Int)) (.bind (.nth g0 (by omega)) fun b ⟨hb,_⟩=>?_) fun z hz=>.inl ?_
  ·have hk : kp keep i.toNat = b:=by unfold kp; rw [hb]; rfl
   have e : (i + 1).toNat = i.toNat + 1:=by omega
   refine .sel (fun h=>.pure ?_) fun h=>.pure ?_
   ·rw [w64_s (by omega) (by omega),e,cnt,hk,h,g2]; rfl
   ·rw [e,cnt,hk,h,g2]; rfl
  ·rw [w64_up g0 (by omega)]
   exact ⟨⟨by simp only; omega,by simp only; omega,hz⟩,by simp only; omega⟩
 ·simp only [decide_eq_false_iff_not] at hge
  rw [g2,show i = m by omega]
theorem squeezeCode_ok : PassOk f4m:=fun {code} hc=>by
 have hmx:=hc.max
 unfold f4m
 rw [codevalid_true hc,Option.bind_some]
 refine .sf rfl (.bind (reach_tot hc) fun seen ⟨s1,s2,s3⟩=>.bind (P:=fun keep=>keep.length = code.length ∧ ∀ (j : Nat) (q : Quad),code[j]? = some q → keep[j]? = some ((seen[j]?).getD false && !idleB q j)) (.iter (fun s=>0 ≤ s.1 ∧ s.1 ≤ (code.length : Int) ∧ s.2.length = code.length ∧ (∀ (j : Nat) (q : Quad),(j : Int) < s.1 → code[j]? = some q → s.2[j]? = some ((seen[j]?).getD false && !idleB q j)) ∧ ∀ (j : Nat),s.1 ≤ (j : Int) → s.2[j]? = seen[j]?) (fun s=>((code.length : Int) - s.1).toNat) ⟨by simp,by simp,s1,fun j q h=>by simp only at h; omega,fun j _=>rfl⟩ fun s hs=>?_) fun keep ⟨k1,k2⟩=>?_)
 ·obtain ⟨i,a⟩:=s
  obtain ⟨g0,g1,g2,g3,g4⟩:=hs
  simp only at g0 g1 g2 g3 g4
  unfold f77
  refine .sel (fun hlt=>?_) fun hge=>.inr (show a.length = code.length ∧ _ from ⟨g2,fun j q hq=>g3 j q (by have:=lt_of_get hq; simp only [decide_eq_false_iff_not] at hge; omega) hq⟩)
  simp only [decide_eq_true_eq] at hlt
  have hia : i < a.length:=by rw [g2]; exact hlt
  obtain ⟨q,hq⟩ : ∃ q,code[i.toNat]? = some q:=⟨_,List.getElem?_eq_getElem (by omega)⟩
  refine .bind (.nth g0 hia) fun b ⟨hb,_⟩=>.bind (P:=fun z=>z = ((seen[i.toNat]?).getD false && !idleB q i)) ?_ fun z hz=>.bind (.nth g0 hia) fun _ _=>.bind (.upd g0 hia) fun r hr=>.inl ?_
  ·have hsb : (seen[i.toNat]?).getD false = b:=by rw [← g4 i.toNat (by omega),hb]; rfl
   refine .sel (fun h=>.bind (.nth g0 hlt) fun q' ⟨hq',_⟩=>?_) fun h=>.pure (by rw [hsb,h]; rfl)
   obtain rfl : q = q':=Option.some.inj (hq.symm.trans hq')
   rw [idle_eq q g0 (by omega),Option.bind_some,hsb,h]
   exact .pure rfl
  ·subst hr hz
   rw [w64_up g0 (by omega)]
   refine ⟨⟨by simp only; omega,by simp only; omega,by simp [g2],fun j p hj hp=>?_,fun j hj=>?_⟩,by simp only; omega⟩
   ·simp only at hj ⊢
    by_cases e : (j : Int) = i
    ·obtain rfl : j = i.toNat:=by omega
     obtain rfl : q = p:=Option.some.inj (hq.symm.trans hp)
     have hlt3 : i.toNat < a.length:=by omega
     rw [List.getElem?_set_self hlt3,show ((i.toNat : Nat) : Int) = i by omega]
    ·rw [List.getElem?_set_ne (by omega)]
     exact g3 j p (by omega) hp
   ·simp only at hj ⊢
    rw [List.getElem?_set_ne (by omega)]
    exact g4 j (by omega)
 have hK : ∀ (j : Nat) (q : Quad),code[j]? = some q → (kp keep j = true ↔ seen[j]? = some true ∧ idleB q j = false):=fun j q hq=>by
  unfold kp
  rw [k2 j q hq]
  simp [getD_true]
 have hsucc : ∀ (j : Nat) (q : Quad),code[j]? = some q → q.Op ≠ 10 → (q.Op = 4 → q.N = (j : Int) + 1) → seen[j]? = some true → seen[j + 1]? = some true:=fun j q hq h10 h4 hs=>by
  have hin : (j : Int) + 1 ∈ nx q j:=by
   unfold nx
   rw [if_neg h10]
   split
   ·rename_i h; rw [h4 h]; simp
   ·split
    ·simp
    ·split <;> simp
  have:=s3 j q (by have:=lt_of_get hq; omega) hq hs _ hin
  rwa [show ((j : Int) + 1).toNat = j + 1 by omega] at this
 have hkept : ∀ n j,code.length - j ≤ n → seen[j]? = some true → j < code.length → ∃ m,j ≤ m ∧ m < code.length ∧ kp keep m = true:=by
  intro n
  induction n with
  | zero=>intro j h1 _ h2; omega
  | succ n ih =>
   intro j h1 hs hj
   obtain ⟨q,hq⟩ : ∃ q,code[j]? = some q:=⟨_,List.getElem?_eq_getElem hj⟩
   cases hi : idleB q j
   ·exact ⟨j,Nat.le_refl _,hj,(hK j q hq).2 ⟨hs,hi⟩⟩
   ·unfold idleB at hi
    have h10 : q.Op ≠ 10:=by rintro h; simp [h] at hi
    have h4 : q.Op = 4 → q.N = (j : Int) + 1:=fun h=>by simp [h] at hi; exact hi
    have hs':=hsucc j q hq h10 h4 hs
    have hj' : j + 1 < code.length:=by have:=lt_of_get hs'; omega
    obtain ⟨m,h2,h3,h4⟩:=ih (j + 1) (by omega) hs' hj'
    exact ⟨m,by omega,h3,h4⟩
 have h01:=hc.one
 obtain ⟨m0,_,hm0,hkm0⟩:=hkept _ 0 (Nat.le_refl _) s2 (by omega)
 refine .bind (P:=fun out=>out.length = cnt (kp keep) code.length ∧ (∀ q' ∈ out,QOk (cnt (kp keep) code.length : Nat) q') ∧ ∀ q',out.getLast? = some q' → ∃ (j : Nat) (q : Quad),j < code.length ∧ code[j]? = some q ∧ q'.Op = q.Op ∧ kp keep j = true ∧ ∀ l,j < l → l < code.length → kp keep l = false)
  (.iter (fun s=>0 ≤ s.2 ∧ s.2 ≤ (code.length : Int) ∧ s.1.length = cnt (kp keep) s.2.toNat ∧ (∀ q' ∈ s.1,QOk (cnt (kp keep) code.length : Nat) q') ∧ ∀ q',s.1.getLast? = some q' → ∃ (j : Nat) (q : Quad),j < s.2.toNat ∧ code[j]? = some q ∧ q'.Op = q.Op ∧ kp keep j = true ∧ ∀ l,j < l → l < s.2.toNat → kp keep l = false) (fun s=>((code.length : Int) - s.2).toNat) ⟨by simp,by simp,rfl,by simp,by simp⟩ fun s hs=>?_) fun out ⟨o1,o2,o3⟩=>.pure ⟨?_,rfl,by simp only; rw [o1]; exact cnt_le _ _⟩
 ·obtain ⟨out,i⟩:=s
  obtain ⟨g0,g1,g2,g3,g4⟩:=hs
  simp only at g0 g1 g2 g3 g4
  unfold f78
  refine .sel (fun hlt=>?_) fun hge=>.inr (show out.length = cnt (kp keep) code.length ∧ _ from ?_)
  rotate_left
  ·simp only [decide_eq_false_iff_not] at hge
   rw [show i.toNat = code.length by omega] at g2 g4
   exact ⟨g2,g3,g4⟩
  simp only [decide_eq_true_eq] at hlt
  obtain ⟨q,hq⟩ : ∃ q,code[i.toNat]? = some q:=⟨_,List.getElem?_eq_getElem (by omega)⟩
  have e1 : (i + 1).toNat = i.toNat + 1:=by omega
  refine .bind (P:=fun o=>o.length = cnt (kp keep) (i + 1).toNat ∧ (∀ q' ∈ o,QOk (cnt (kp keep) code.length : Nat) q') ∧ ∀ q',o.getLast? = some q' → ∃ (j : Nat) (q : Quad),j < (i + 1).toNat ∧ code[j]? = some q ∧ q'.Op = q.Op ∧ kp keep j = true ∧ ∀ l,j < l → l < (i + 1).toNat → kp keep l = false) ?_ fun o ho=>.inl ?_
  ·refine .bind (.nth g0 hlt) fun q' ⟨hq',hqm⟩=>?_
   obtain rfl : q = q':=Option.some.inj (hq.symm.trans hq')
   have hv:=hc.q q hqm
   refine .bind (.nth g0 (by rw [k1]; exact hlt)) fun b ⟨hb,_⟩=>?_
   have hkb : kp keep i.toNat = b:=by unfold kp; rw [hb]; rfl
   refine .sel (fun hbf=>.pure ?_) fun hbt=>?_
   ·have hbf' : b = false:=by simpa using hbf
    subst hbf'
    rw [e1]
    refine ⟨by simp only [cnt,hkb]; simpa using g2,g3,fun q' hq'=>?_⟩
    obtain ⟨j,p,h1,h2,h3,h4,h5⟩:=g4 q' hq'
    refine ⟨j,p,by omega,h2,h3,h4,fun l hl1 hl2=>?_⟩
    by_cases e : l = i.toNat
    ·subst e; exact hkb
    ·exact h5 l hl1 (by omega)
   ·have hbt' : b = true:=by simpa using hbt
    subst hbt'
    obtain ⟨hsi,hid⟩:=(hK i.toNat q hq).1 hkb
    refine .bind (P:=fun q'=>QOk (cnt (kp keep) code.length : Nat) q' ∧ q'.Op = q.Op) (.sel (fun h=>?_) fun h=>.pure ⟨?_,rfl⟩) fun q' hq'=>.bind (.app (by rw [g2]; have:=cnt_le (kp keep) i.toNat; simp; omega)) fun r hr=>.pure ?_
    ·simp only [Bool.or_eq_true,beq_iff_eq] at h
     have hw:=hv
     unfold QOk at hw
     have hr : 0 ≤ q.N ∧ q.N < code.length:=by rcases h with h | h <;> simp [h] at hw <;> omega
     have hni : q.N ≠ i + 1:=fun e=>by
      unfold idleB at hid
      rw [if_pos h,show ((i.toNat : Nat) : Int) = i by omega] at hid
      simp [e] at hid
     have hin : q.N ∈ nx q i:=by
      unfold nx
      rcases h with h | h
      ·simp [h]
      ·rw [if_neg (by omega),if_neg (by omega)]
       split
       ·simp
       ·rw [if_pos ⟨h,by omega⟩]; simp
     have hsn : seen[q.N.toNat]? = some true:=s3 i.toNat q (by omega) hq hsi _ (by rw [show ((i.toNat : Nat) : Int) = i by omega]; exact hin)
     obtain ⟨m,h1,h2,h3⟩:=hkept _ q.N.toNat (Nat.le_refl _) hsn (by omega)
     have hcl:=cnt_lt (kp keep) h1 h2 h3
     refine .bind (place_tot hr.1 (by rw [k1]; omega) (by omega)) fun p hp=>.pure ⟨?_,rfl⟩
     subst hp
     rcases h with h | h <;> simp [h] at hw <;> simp [QOk,h,hw] <;> omega
    ·simp only [Bool.or_eq_false_iff,beq_eq_false_iff_ne,ne_eq] at h
     unfold QOk at hv ⊢
     rcases hv with h' | h' | h' | h' | h' | h' | h' | h' | h'
     ·exact .inl h'
     ·exact .inr (.inl h')
     ·exact .inr (.inr (.inl h'))
     ·exact absurd h'.1 h.1
     ·exact absurd h'.1 h.2
     ·exact .inr (.inr (.inr (.inr (.inr (.inl h')))))
     ·exact .inr (.inr (.inr (.inr (.inr (.inr (.inl h'))))))
     ·exact .inr (.inr (.inr (.inr (.inr (.inr (.inr (.inl h')))))))
     ·exact .inr (.inr (.inr (.inr (.inr (.inr (.inr (.inr h')))))))
    ·subst hr
     rw [e1]
     refine ⟨by simp only [cnt,hkb]; simp [g2],fun z hz=>?_,fun z hz=>?_⟩
     ·simp only [List.mem_append,List.mem_singleton] at hz
      rcases hz with hz | rfl
      ·exact g3 z hz
      ·exact hq'.1
     ·rw [List.getLast?_concat] at hz
      injection hz with hz
      subst hz
      exact ⟨i.toNat,q,by omega,hq,hq'.2,hkb,fun l h1 h2=>by omega⟩
  ·rw [w64_up g0 (by omega)]
   exact ⟨⟨by simp only; omega,by simp only; omega,ho⟩,by simp only; omega⟩
 ·have hpos:=cnt_lt (kp keep) (Nat.zero_le _) hm0 hkm0
  have hle:=cnt_le (kp keep) code.length
  refine ⟨by simp only; omega,by simp only; omega,fun z hz=>by simp only at hz ⊢; rw [o1]; exact o2 z hz,?_⟩
  have hne : out ≠ []:=by rintro rfl; simp at o1; omega
  obtain ⟨z,hz⟩ : ∃ z,out.getLast? = some z:=⟨_,List.getLast?_eq_some_getLast hne⟩
  refine ⟨z,hz,?_⟩
  obtain ⟨j,q,h1,h2,h3,h4,h5⟩:=o3 z hz
  obtain ⟨hs,hi⟩:=(hK j q h2).1 h4
  rw [h3]
  by_cases e10 : q.Op = 10
  ·exact .inl e10
  by_cases e4 : q.Op = 4
  ·exact .inr e4
  exfalso
  have hs':=hsucc j q h2 e10 (fun h=>absurd h e4) hs
  have hj' : j + 1 < code.length:=by have:=lt_of_get hs'; omega
  obtain ⟨m,m1,m2,m3⟩:=hkept _ (j + 1) (Nat.le_refl _) hs' hj'
  rw [h5 m (by omega) m2] at m3
  cases m3
theorem once_tot {code : List Quad} (hc : COk code) : Tot (f7o code) fun r=>COk r ∧ r.length ≤ code.length:=by
 unfold f7o
 exact .bind (foldCode_ok hc) fun a ha=>.bind (copyCode_ok ha.1) fun b hb=>.bind (jumpCode_ok hb.1) fun c hcc=>.bind (deadCode_ok hcc.1) fun d hd=>.bind (squeezeCode_ok hd.1) fun e he=>.pure ⟨he.1,by have:=ha.2.2; have:=hb.2.2; have:=hcc.2.2; have:=hd.2.2; have:=he.2.2; omega⟩
theorem optimize_tot {code : List Quad} (hc : COk code) {t : Int} (h0 : 0 ≤ t) (h4 : t ≤ 4) : Tot (f3w code t) fun r=>COk r.1 ∧ r.2 = true ∧ r.1.length ≤ code.length:=by
 have hmx:=hc.max
 unfold f3w
 rw [codevalid_true hc,Option.bind_some,in_eq]
 refine .bind (P:=fun b=>b = false) (.sf rfl (.pure (by simp; omega))) fun b hb=>.sf hb (.bind (.app (by simp; omega)) fun r hr=>?_)
 rw [List.nil_append] at hr
 subst hr
 refine .bind (P:=fun o=>COk o ∧ o.length ≤ r.length) (.iter (fun s=>0 ≤ s.2 ∧ s.2 ≤ t ∧ COk s.1 ∧ s.1.length ≤ r.length) (fun s=>(t - s.2).toNat) ⟨by simp,by simpa using h0,hc,Nat.le_refl _⟩ fun s hs=>?_) fun o ho=>.pure ⟨ho.1,rfl,ho.2⟩
 obtain ⟨o,i⟩:=s
 obtain ⟨g0,g1,g2,g3⟩:=hs
 simp only at g0 g1 g2 g3
 unfold f6f
 refine .sel (fun h=>?_) fun h=>.inr (show COk o ∧ o.length ≤ r.length from ⟨g2,g3⟩)
 simp only [decide_eq_true_eq] at h
 refine .bind (once_tot (code:=o) g2) fun o2 ho2=>.inl ?_
 rw [w64_up g0 (by omega)]
 exact ⟨⟨by simp only; omega,by simp only; omega,ho2.1,by have:=ho2.2; simp only; omega⟩,by simp only; omega⟩
end Go.Proofs.YtmpplggjpmmhlaaGreat.N
namespace Go.Proofs.YtmpplggjpmmhlaaGreat.N
open Go.Proofs.YtmpplggjpmmhlaaGreat.X
theorem Expr.eta' (x : Expr) : Expr.mk x.Op x.N x.Args = x:=by cases x; rfl
theorem Stmt.eta' (x : Stmt) : Stmt.mk x.Kind x.Var x.Box (Expr.mk x.Expr.Op x.Expr.N x.Expr.Args) x.Body x.Else = x:=by rw [Expr.eta']; cases x; rfl
def EOk : Nat → Expr → Prop
 | 0,_=>False
 | d + 1,e=>(e.Op = 0 ∧ 0 ≤ e.N ∧ e.N ≤ 99999 ∧ e.Args = []) ∨ (e.Op = 13 ∧ 0 ≤ e.N ∧ e.N ≤ 3 ∧ e.Args = []) ∨ ((1 ≤ e.Op ∧ e.Op ≤ 12) ∧ e.N = 0 ∧ ∃ a b,e.Args = [a,b] ∧ EOk d a ∧ EOk d b)
theorem EOk.mono : ∀ {d d' : Nat} {e : Expr},EOk d e → d ≤ d' → EOk d' e
 | 0,_,_,h,_=>h.elim
 | d + 1,0,_,_,h=>by omega
 | d + 1,d' + 1,e,h,hd=>by
  rcases h with h | h | ⟨h1,h2,a,b,h3,h4,h5⟩
  ·exact .inl h
  ·exact .inr (.inl h)
  ·exact .inr (.inr ⟨h1,h2,a,b,h3,h4.mono (by omega),h5.mono (by omega)⟩)
theorem l4ok_eq : ∀ {d k : Nat} {e : Expr} {dd : Int},EOk d e → (d : Int) ≤ dd → dd ≤ 1000 → d ≤ k → fal k e dd = some true
 | 0,_,_,_,h,_,_,_=>h.elim
 | d + 1,0,_,_,_,_,_,h=>by omega
 | d + 1,k + 1,e,dd,h,hd,hd',hk=>by
  show f8v k (fal k) e dd = _
  unfold f8v
  rw [sel_false (by simp; omega)]
  rcases h with ⟨h1,h2,h3,h4⟩ | ⟨h1,h2,h3,h4⟩ | ⟨h1,h2,a,b,h3,h4,h5⟩
  ·rw [sel_true (by simpa using h1),in_eq,h4]; simp; omega
  ·rw [sel_false (by simp [h1]),sel_true (by simpa using h1),in_eq,h4]; simp; omega
  ·rw [sel_false (by simp; omega),sel_false (by simp; omega),opvalid_eq,Option.bind_some,h3,w64_s (by omega) (by omega)]
   have e1 : nth [a,b] 0 = some a:=rfl
   have e2 : nth [a,b] 1 = some b:=rfl
   rw [sel_true (by simp [h1,h2]),e1]
   simp only [Option.bind_some,Expr.eta',l4ok_eq (k:=k) h4 (show (d : Int) ≤ dd - 1 by omega) (by omega) (by omega)]
   rw [sel_true rfl,e2]
   simp only [Option.bind_some,Expr.eta',l4ok_eq (k:=k) h5 (show (d : Int) ≤ dd - 1 by omega) (by omega) (by omega)]
theorem exprvalid_eq {k : Nat} {e : Expr} (h : EOk 5 e) (hk : 5 ≤ k) : f1y k e = some true:=by
 unfold f1y
 rw [Expr.eta',l4ok_eq h (by omega) (by omega) hk]; rfl
theorem cexpr_tot : ∀ {d k : Nat} {e : Expr} {at_ : Int},EOk d e → 0 ≤ at_ → at_ + d ≤ 12 → d ≤ k → Tot (f2a k e at_) fun out=>out.length + 1 ≤ 2 ^ d ∧ 1 ≤ out.length ∧ ∀ q ∈ out,∀ m,QOk m q
 | 0,_,_,_,h,_,_,_=>h.elim
 | d + 1,0,_,_,_,_,_,h=>by omega
 | d + 1,k + 1,e,at_,h,h0,h12,hk=>by
  show Tot (f5r k (f2a k) e at_) _
  unfold f5r
  have hp : 2 ≤ 2 ^ (d + 1):=by rw [Nat.pow_succ]; have:=Nat.two_pow_pos d; omega
  have hr : Rg at_:=by unfold Rg; omega
  rcases h with ⟨h1,h2,h3,h4⟩ | ⟨h1,h2,h3,h4⟩ | ⟨h1,h2,a,b,h3,h4,h5⟩
  ·refine .st (by simpa using h1) (.pure ⟨by simpa using hp,by simp,fun q hq m=>?_⟩)
   rw [List.mem_singleton.1 hq]
   exact .inl ⟨rfl,hr,rfl,rfl,by unfold Wd; simp only; omega⟩
  ·refine .sf (by simp [h1]) (.st (by simpa using h1) (.pure ⟨by simpa using hp,by simp,fun q hq m=>?_⟩))
   rw [List.mem_singleton.1 hq]
   exact .inr (.inl ⟨rfl,hr,by unfold Rg; simp only; omega,rfl,rfl⟩)
  ·refine .sf (by simp; omega) (.sf (by simp; omega) ?_)
   have e1 : nth e.Args 0 = some a:=by rw [h3]; rfl
   have e2 : nth e.Args 1 = some b:=by rw [h3]; rfl
   have hd : 1 ≤ d:=by cases d with
    | zero=>exact h4.elim
    | succ d=>omega
   rw [e1,e2]
   simp only [Option.bind_some,Expr.eta']
   rw [w64_s (by omega) (by omega)]
   have h256 : 2 ^ d ≤ 4096:=Nat.le_trans (Nat.pow_le_pow_right (by omega) (show d ≤ 12 by omega)) (by decide)
   refine .bind (cexpr_tot (k:=k) h4 h0 (by omega) (by omega)) fun x hx=>.bind (cexpr_tot (k:=k) h5 (show 0 ≤ at_ + 1 by omega) (by omega) (by omega)) fun y hy=>.bind (.app (by omega)) fun r hr'=>.bind (.app (by subst hr'; simp; omega)) fun r2 hr2=>.pure ?_
   subst hr' hr2
   refine ⟨by simp only [List.length_append,List.length_cons,List.length_nil,Nat.pow_succ]; omega,by simp only [List.length_append,List.length_cons]; omega,fun q hq m=>?_⟩
   simp only [List.mem_append,List.mem_singleton] at hq
   rcases hq with (hq | hq) | rfl
   ·exact hx.2.2 q hq m
   ·exact hy.2.2 q hq m
   ·exact .inr (.inr (.inl ⟨rfl,hr,hr,by unfold Rg; simp only; omega,by simp only; omega,by simp only; omega⟩))
def pc : Nat → Int
 | 0=>2
 | d + 1=>3 + 2 * pc d
theorem pc_pos : ∀ d,2 ≤ pc d
 | 0=>by simp [pc]
 | d + 1=>by have:=pc_pos d; simp only [pc]; omega
variable {b : List Int} {p m : Int}
theorem op_dr (hb : By b) (h0 : 0 ≤ p) (hm : p ≤ m) (hp : m ≤ 100000000) : Dr (f8g ⟨b,p⟩) (m + 1) fun x=>1 ≤ x ∧ x ≤ 12:=by
 unfold f8g
 refine .bind (pick_dr hb h0 hm (by omega) (by omega) (by omega)) fun x p' hx h1 h2=>.pure ?_ h1 h2
 rw [w64_s (by omega) (by omega)]; omega
theorem leaf_dr (hb : By b) (h0 : 0 ≤ p) (hm : p ≤ m) (hp : m ≤ 100000000) : Dr (f5e ⟨b,p⟩) (m + 2) (EOk 1):=by
 unfold f5e
 refine .bind (pick_dr hb h0 hm (by omega) (by omega) (by omega)) fun x p' hx h1 h2=>.sel (fun _=>?_) fun _=>.sel (fun _=>?_) fun _=>?_
 ·refine .bind (pick_dr hb h1 h2 (by omega) (by omega) (by omega)) fun y p2 hy h3 h4=>.pure ?_ h3 (by omega)
  exact .inl ⟨rfl,by simp only; omega,by simp only; omega,rfl⟩
 ·refine .bind (pick_dr hb h1 h2 (by omega) (by omega) (by omega)) fun y p2 hy h3 h4=>.tot (.nth hy.1 (by simpa using hy.2)) fun z ⟨_,hz⟩=>.pure ?_ h3 (by omega)
  refine .inl ⟨rfl,?_,?_,rfl⟩ <;> (simp at hz; simp only; omega)
 ·refine .bind (pick_dr hb h1 h2 (by omega) (by omega) (by omega)) fun y p2 hy h3 h4=>.pure ?_ h3 (by omega)
  exact .inr (.inl ⟨rfl,by simp only; omega,by simp only; omega,rfl⟩)
theorem expr_dr (hb : By b) : ∀ {d k : Nat} {p m depth : Int},1 ≤ depth → depth ≤ (d : Int) + 1 → (d + 1 ≤ k ∧ d ≤ 100) → 0 ≤ p → p ≤ m → m + pc d ≤ 100000000 → Dr (f2k k ⟨b,p⟩ depth) (m + pc d) (EOk (d + 1))
 | d,0,_,_,_,_,_,h,_,_,_=>by omega
 | d,k + 1,p,m,depth,h1,h2,hk,h0,hm,hp=>by
  show Dr (f5g k (f2k k) ⟨b,p⟩ depth) _ _
  unfold f5g
  have hpc:=pc_pos d
  have leaf : ∀ {p' : Int},0 ≤ p' → p' ≤ m + pc d - 2 → Dr ((f5e ⟨b,p'⟩).bind fun y2=>some (Expr.mk y2.1.Op y2.1.N y2.1.Args,y2.2)) (m + pc d) (EOk (d + 1)):=fun h0 hm=>by
   refine .bind (leaf_dr hb h0 hm (by omega)) fun x p2 hx h3 h4=>.pure ?_ h3 (by omega)
   rw [Expr.eta']
   exact hx.mono (by omega)
  by_cases hd : depth < 2
  ·refine .bind (x:=sel _ _ _) (m:=m) (P:=fun c=>c = true) (.sel (fun _=>.pure rfl h0 hm) fun h=>?_) fun c p' hc h3 h4=>.sel (fun _=>leaf h3 (by omega)) fun h=>by rw [hc] at h; cases h
   simp at h; omega
  ·obtain ⟨d,rfl⟩ : ∃ e,d = e + 1:=⟨d - 1,by omega⟩
   have hpd:=pc_pos d
   simp only [pc] at *
   refine .bind (x:=sel _ _ _) (m:=m + 1) (P:=fun _=>True) (.sel (fun h=>?_) fun h=>.bind (pick_dr hb h0 hm (by omega) (by omega) (by omega)) fun x p' _ h3 h4=>.pure trivial h3 h4) fun c p' _ h3 h4=>.sel (fun _=>leaf h3 (by omega)) fun _=>?_
   ·simp at h; omega
   ·rw [w64_s (by omega) (by omega)]
    refine .bind (op_dr hb h3 h4 (by omega)) fun op p2 hop h5 h6=>.bind (expr_dr hb (k:=k) (d:=d) (by omega) (by omega) ⟨by omega,by omega⟩ h5 h6 (by omega)) fun x p3 hx h7 h8=>.bind (expr_dr hb (k:=k) (d:=d) (by omega) (by omega) ⟨by omega,by omega⟩ h7 h8 (by omega)) fun y p4 hy h9 h10=>?_
    refine .pure ?_ h9 (by omega)
    simp only [Expr.eta']
    exact .inr (.inr ⟨hop,rfl,x,y,rfl,hx,hy⟩)
def Simp (s : Stmt) : Prop:=s.Body = [] ∧ s.Else = [] ∧ ((s.Kind = 1 ∧ (0 ≤ s.Var ∧ s.Var ≤ 3) ∧ s.Box = 0 ∧ EOk 5 s.Expr) ∨ (s.Kind = 4 ∧ s.Var = 0 ∧ (0 ≤ s.Box ∧ s.Box ≤ 2) ∧ EOk 5 s.Expr) ∨
 (s.Kind = 5 ∧ (0 ≤ s.Var ∧ s.Var ≤ 3) ∧ (0 ≤ s.Box ∧ s.Box ≤ 2) ∧ s.Expr = ⟨0,0,[]⟩) ∨ (s.Kind = 6 ∧ s.Var = 0 ∧ s.Box = 0 ∧ s.Expr = ⟨0,0,[]⟩) ∨ (s.Kind = 7 ∧ s.Var = 0 ∧ s.Box = 0 ∧ EOk 5 s.Expr))
def SOk : Nat → Stmt → Prop
 | 0,s=>Simp s
 | n + 1,s=>Simp s ∨ ((s.Kind = 2 ∨ (s.Kind = 3 ∧ s.Else = [])) ∧ s.Var = 0 ∧ s.Box = 0 ∧ EOk 5 s.Expr ∧ (∀ x ∈ s.Body,SOk n x) ∧ ∀ x ∈ s.Else,SOk n x)
theorem SOk.of_simp {s : Stmt} (h : Simp s) : ∀ n,SOk n s
 | 0=>h
 | _ + 1=>.inl h
mutual
def ct : Stmt → Nat
 | ⟨_,_,_,_,b,e⟩=>1 + cts b + cts e
def cts : List Stmt → Nat
 | []=>0
 | x :: r=>ct x + cts r
end
theorem ct_eq (s : Stmt) : ct s = 1 + cts s.Body + cts s.Else:=by cases s; rfl
theorem cts_app : ∀ l m : List Stmt,cts (l ++ m) = cts l + cts m
 | [],m=>by simp [cts]
 | x :: l,m=>by simp only [List.cons_append,cts,cts_app l m]; omega
theorem cts_take : ∀ (l : List Stmt) (i : Nat) (s : Stmt),l[i]? = some s → cts (l.take (i + 1)) = cts (l.take i) + ct s
 | [],_,_,h=>by simp at h
 | x :: l,0,s,h=>by
  have : x = s:=by simpa using h
  subst this; simp [cts]
 | x :: l,i + 1,s,h=>by
  have:=cts_take l i s (by simpa using h)
  simp only [List.take_succ_cons,cts,this]; omega
theorem cts_take_le : ∀ (l : List Stmt) (i : Nat),cts (l.take i) ≤ cts l
 | [],_=>by simp [cts]
 | x :: l,0=>by simp [cts]
 | x :: l,i + 1=>by have:=cts_take_le l i; simp only [List.take_succ_cons,cts]; omega
theorem ct_pos (s : Stmt) : 1 ≤ ct s:=by rw [ct_eq]; omega
theorem len_cts : ∀ l : List Stmt,l.length ≤ cts l
 | []=>Nat.le_refl _
 | x :: l=>by have:=len_cts l; have:=ct_pos x; simp only [List.length_cons,cts]; omega
theorem SOk.body {n : Nat} {s : Stmt} (h : SOk n s) : (∀ x ∈ s.Body,SOk (n - 1) x) ∧ (∀ x ∈ s.Else,SOk (n - 1) x) ∧ (n = 0 → s.Body = [] ∧ s.Else = []):=by
 cases n with
 | zero=>exact ⟨by rw [h.1]; simp,by rw [h.2.1]; simp,fun _=>⟨h.1,h.2.1⟩⟩
 | succ n =>
  rcases h with h | h
  ·exact ⟨by rw [h.1]; simp,by rw [h.2.1]; simp,fun h=>by omega⟩
  ·exact ⟨h.2.2.2.2.1,h.2.2.2.2.2,fun h=>by omega⟩
theorem count_nil {k : Nat} (hk : 1 ≤ k) : f2d k [] = some 0:=by
 obtain ⟨k,rfl⟩ : ∃ j,k = j + 1:=⟨k - 1,by omega⟩
 show f2n k (f2d k) [] = _
 unfold f2n
 rw [iter_eq]
 unfold f6c
 rfl
theorem count_tot : ∀ {n k : Nat} {l : List Stmt},n + 2 ≤ k → (∀ x ∈ l,SOk n x) → cts l ≤ 1000000 → Tot (f2d k l) fun r=>r = (cts l : Int)
 | n,0,_,h,_,_=>by omega
 | n,k + 1,l,hk,hl,hc=>by
  show Tot (f2n k (f2d k) l) _
  unfold f2n
  have hlen:=len_cts l
  refine .bind (P:=fun r=>r = (cts l : Int)) (.iter (fun s=>0 ≤ s.2 ∧ s.2 ≤ (l.length : Int) ∧ s.1 = (cts (l.take s.2.toNat) : Int)) (fun s=>((l.length : Int) - s.2).toNat) ⟨by simp,by simp,by simp [cts]⟩ fun s hs=>?_) fun r hr=>.pure hr
  obtain ⟨c,i⟩:=s
  obtain ⟨g0,g1,g2⟩:=hs
  simp only at g0 g1 g2
  unfold f6c
  refine .sel (fun hlt=>?_) fun hge=>.inr (show c = _ from ?_)
  ·simp only [decide_eq_true_eq] at hlt
   refine .bind (.nth g0 hlt) fun x ⟨hx,hxm⟩=>.bind (.nth g0 hlt) fun x' ⟨hx',_⟩=>?_
   obtain rfl : x = x':=Option.some.inj (hx.symm.trans hx')
   have h1:=cts_take l i.toNat x hx
   have h2:=cts_take_le l (i.toNat + 1)
   have h3:=ct_eq x
   have hb:=(hl x hxm).body
   have sub : ∀ bl,(∀ y ∈ bl,SOk (n - 1) y) → (n = 0 → bl = []) → cts bl ≤ 1000000 → Tot (f2d k bl) fun r=>r = (cts bl : Int):=fun bl hbl hn hcb=>by
    cases n with
    | zero=>rw [hn rfl,count_nil (by omega)]; exact .pure rfl
    | succ n=>exact count_tot (by omega) hbl hcb
   refine .bind (sub x.Body hb.1 (fun h=>(hb.2.2 h).1) (by omega)) fun y hy=>.bind (sub x.Else hb.2.1 (fun h=>(hb.2.2 h).2) (by omega)) fun z hz=>.inl ?_
   subst hy hz
   rw [w64_s (i:=c + 1) (by omega) (by omega),w64_s (i:=c + 1 + _) (by omega) (by omega),w64_s (by omega) (by omega),w64_up g0 (by omega)]
   refine ⟨⟨by simp only; omega,by simp only; omega,?_⟩,by simp only; omega⟩
   simp only
   rw [show (i + 1).toNat = i.toNat + 1 by omega,h1,h3,g2]; omega
  ·simp only [decide_eq_false_iff_not] at hge
   rw [g2,List.take_of_length_le (by omega)]
def tc : Nat → Int
 | 0=>60
 | n + 1=>60 + 4 * tc n
def sc : Nat → Nat
 | 0=>2
 | n + 1=>3 + 4 * sc n
theorem tc_pos : ∀ n,60 ≤ tc n
 | 0=>by simp [tc]
 | n + 1=>by have:=tc_pos n; simp only [tc]; omega
theorem sc_pos : ∀ n,2 ≤ sc n
 | 0=>by simp [sc]
 | n + 1=>by have:=sc_pos n; simp only [sc]; omega
theorem expr3_dr (hb : By b) {k : Nat} {depth : Int} (h1 : 1 ≤ depth) (h2 : depth ≤ 3) (hk : 3 ≤ k) (h0 : 0 ≤ p) (hm : p ≤ m) (hp : m ≤ 90000000) : Dr (f2k k ⟨b,p⟩ depth) (m + 17) (EOk 5):=
 (expr_dr hb (d:=2) h1 (by omega) ⟨hk,by omega⟩ h0 hm (by simp only [pc]; omega)).mono (by simp only [pc]; omega) fun e h=>h.mono (by omega)
theorem set_dr (hb : By b) {k : Nat} (hk : 3 ≤ k) (h0 : 0 ≤ p) (hm : p ≤ m) (hp : m ≤ 80000000) : Dr (f75 k ⟨b,p⟩) (m + 19) Simp:=by
 unfold f75
 refine .bind (pick_dr hb h0 hm (by omega) (by omega) (by omega)) fun v p1 hv h1 h2=>.bind (pick_dr hb h1 h2 (by omega) (by omega) (by omega)) fun x p2 hx h3 h4=>?_
 rw [w64_s (by omega) (by omega)]
 refine .bind (expr3_dr hb (by omega) (by omega) hk h3 h4 (by omega)) fun e p3 he h5 h6=>.pure ?_ h5 (by omega)
 rw [Expr.eta']
 exact ⟨rfl,rfl,.inl ⟨rfl,⟨hv.1,by simp only; omega⟩,rfl,he⟩⟩
theorem talk_dr (hb : By b) {k : Nat} {nb : Int} (hn : nb ≤ 3) (hk : 3 ≤ k) (h0 : 0 ≤ p) (hm : p ≤ m) (hp : m ≤ 80000000) : Dr (f7p k ⟨b,p⟩ nb) (m + 20) Simp:=by
 unfold f7p
 refine .sel (fun _=>.bind (set_dr hb hk h0 hm hp) fun s p' hs h1 h2=>.pure (by rw [Stmt.eta']; exact hs) h1 (by omega)) fun h=>?_
 simp only [decide_eq_false_iff_not] at h
 refine .bind (pick_dr hb h0 hm (by omega) (by omega) (by omega)) fun v p1 hv h1 h2=>.bind (pick_dr hb h1 h2 (by omega) (by omega) (by omega)) fun x p2 hx h3 h4=>.sel (fun _=>?_) fun _=>?_
 ·refine .bind (pick_dr hb h3 h4 (by omega) (by omega) (by omega)) fun y p3 hy h5 h6=>?_
  rw [w64_s (by omega) (by omega)]
  refine .bind (expr3_dr hb (by omega) (by omega) hk h5 h6 (by omega)) fun e p4 he h7 h8=>.pure ?_ h7 (by omega)
  rw [Expr.eta']
  exact ⟨rfl,rfl,.inr (.inl ⟨rfl,rfl,⟨hv.1,by simp only; omega⟩,he⟩)⟩
 ·refine .bind (pick_dr hb h3 h4 (by omega) (by omega) (by omega)) fun y p3 hy h5 h6=>.pure ?_ h5 (by omega)
  exact ⟨rfl,rfl,.inr (.inr (.inl ⟨rfl,⟨hy.1,by simp only; omega⟩,⟨hv.1,by simp only; omega⟩,rfl⟩))⟩
def BlockOk (n : Nat) (c : Nat) (l : List Stmt) : Prop:=(∀ x ∈ l,SOk n x) ∧ cts l ≤ c
def BlkP (b : List Int) (nb : Int) (n : Nat) : Prop:=∀ (k : Nat) {p m w : Int} {loops : Bool},3 * n + 8 ≤ k → 0 ≤ p → p ≤ m → 0 ≤ w → w ≤ 10 → m + w * tc n ≤ 50000000 → Dr (f2e k ⟨b,p⟩ nb n w loops) (m + w * tc n) (BlockOk n (w.toNat * sc n))
theorem BlkP.two {nb : Int} {n : Nat} (h : BlkP b nb n) (k : Nat) {w : Int} {loops : Bool} (hk : 3 * n + 8 ≤ k) (h0 : 0 ≤ p) (hm : p ≤ m) (w0 : 0 ≤ w) (w2 : w ≤ 2) (hb : m + 2 * tc n ≤ 50000000) : Dr (f2e k ⟨b,p⟩ nb n w loops) (m + 2 * tc n) (BlockOk n (2 * sc n)):=by
 have h1 : w * tc n ≤ 2 * tc n:=Int.mul_le_mul_of_nonneg_right w2 (by have:=tc_pos n; omega)
 have h2 : w.toNat * sc n ≤ 2 * sc n:=Nat.mul_le_mul_right _ (by omega)
 exact (h k hk h0 hm w0 (by omega) (by omega)).mono (by omega) fun l hl=>⟨hl.1,Nat.le_trans hl.2 h2⟩
theorem simp_block {n : Nat} {s : Stmt} (h : Simp s) : BlockOk n (sc n) [s] ∧ [s].length ≤ 2:=by
 have h1 : ct s = 1:=by rw [ct_eq,h.1,h.2.1]; rfl
 have h2:=sc_pos n
 refine ⟨⟨fun x hx=>?_,by simp only [cts,h1]; omega⟩,by simp⟩
 rw [List.mem_singleton.1 hx]
 exact .of_simp h n
theorem stmt_dr (hb : By b) {nb : Int} (hnb : nb ≤ 3) {n k : Nat} (hk : 3 * n + 7 ≤ k) (ih : ∀ e,n = e + 1 → BlkP b nb e) {loops : Bool} (h0 : 0 ≤ p) (hm : p ≤ m) (hn : n ≤ 3) (hp : m + tc n ≤ 50000000) : Dr (f5p k ⟨b,p⟩ nb n loops) (m + tc n) (fun l=>BlockOk n (sc n) l ∧ l.length ≤ 2):=by
 obtain ⟨k,rfl⟩ : ∃ j,k = j + 1:=⟨k - 1,by omega⟩
 show Dr (f60 k (f2e k) (f5p k) (f9r k) (f81 k) ⟨b,p⟩ nb n loops) _ _
 have htc:=tc_pos n
 unfold f60
 refine .tot (P:=fun z=>match z with | .inl q=>0 ≤ q ∧ q ≤ m + 1 | .inr r=>0 ≤ r.2 ∧ r.2 ≤ m + tc n ∧ BlockOk n (sc n) r.1 ∧ r.1.length ≤ 2) ?_ fun z hz=>?_
 ·refine .bind (pick_dr hb h0 hm (by omega) (by omega) (by omega)) fun y hy=>.bind (P:=fun _=>True) (.sel (fun _=>.pure trivial) fun _=>.pure trivial) fun _ _=>.sel (fun _=>.bind (set_dr hb (by omega) hy.1 hy.2.1 (by omega)) fun r hr=>.inr ⟨hr.1,by have:=hr.2.1; simp only; omega,?_⟩) fun _=>.sel (fun _=>.sel (fun hpos=>?_) fun _=>.inl ⟨hy.1,hy.2.1⟩) fun _=>.sel (fun _=>.sel (fun hpos=>?_) fun _=>.inl ⟨hy.1,hy.2.1⟩) fun _ =>
   .bind (P:=fun _=>True) (.sel (fun _=>.pure trivial) fun _=>.sel (fun _=>.pure trivial) fun _=>.pure trivial) fun _ _=>.sel (fun _=>.bind (talk_dr hb hnb (by omega) hy.1 hy.2.1 (by omega)) fun r hr=>.inr ⟨hr.1,by have:=hr.2.1; simp only; omega,?_⟩) fun _=>.sel (fun _=>.inr ⟨hy.1,by have:=hy.2.1; simp only; omega,?_⟩) fun _=>.inl ⟨hy.1,hy.2.1⟩
  ·rw [Stmt.eta']; exact simp_block hr.2.2
  ·-- an if
   simp only [decide_eq_true_eq] at hpos
   obtain ⟨n,rfl⟩ : ∃ e,n = e + 1:=⟨n - 1,by omega⟩
   have hB:=ih n rfl
   have ht:=tc_pos n
   obtain ⟨k,rfl⟩ : ∃ j,k = j + 1:=⟨k - 1,by omega⟩
   simp only [tc] at htc hp ⊢
   refine .bind (P:=fun r=>0 ≤ r.2 ∧ r.2 ≤ m + (60 + 4 * tc n) ∧ SOk (n + 1) r.1 ∧ ct r.1 ≤ 1 + 4 * sc n) ?_ fun r hr=>.inr ⟨hr.1,hr.2.1,⟨fun x hx=>?_,?_⟩,by simp⟩
   ·show Tot (f8b k (f2e k) (f5p k) (f9r k) (f81 k) ⟨b,y.2⟩ nb ((n + 1 : Nat) : Int) loops) _
    unfold f8b
    rw [w64_s (i:=((n + 1 : Nat) : Int) - 1) (by omega) (by omega),show ((n + 1 : Nat) : Int) - 1 = n by omega]
    refine .bind (pick_dr hb hy.1 hy.2.1 (by omega) (by omega) (by omega)) fun y1 h1=>?_
    rw [w64_s (i:=1 + y1.1) (by have:=h1.2.2; omega) (by have:=h1.2.2; omega)]
    refine .bind (expr3_dr hb (by have:=h1.2.2; omega) (by have:=h1.2.2; omega) (by omega) h1.1 h1.2.1 (by omega)) fun y2 h2=>.bind (pick_dr hb h2.1 h2.2.1 (by omega) (by omega) (by omega)) fun y3 h3=>.bind (hB.two k (by omega) h3.1 h3.2.1 h3.2.2.1 (by have:=h3.2.2.2; omega) (by omega)) fun y4 h4=>.bind (pick_dr hb h4.1 h4.2.1 (by omega) (by omega) (by omega)) fun y5 h5=>.bind (hB.two k (by omega) h5.1 h5.2.1 h5.2.2.1 (by have:=h5.2.2.2; omega) (by omega)) fun y6 h6=>.pure ⟨h6.1,by have:=h6.2.1; simp only; omega,?_,?_⟩
    ·rw [Expr.eta']
     exact .inr ⟨.inl rfl,rfl,rfl,h2.2.2,h4.2.2.1,h6.2.2.1⟩
    ·rw [ct_eq]; have:=h4.2.2.2; have:=h6.2.2.2; simp only; omega
   ·rw [List.mem_singleton.1 hx,Stmt.eta']; exact hr.2.2.1
   ·simp only [cts,Stmt.eta',sc]; have:=hr.2.2.2; omega
  ·-- a loop
   simp only [Bool.and_eq_true,decide_eq_true_eq] at hpos
   obtain ⟨n,rfl⟩ : ∃ e,n = e + 1:=⟨n - 1,by omega⟩
   have hB:=ih n rfl
   have ht:=tc_pos n
   obtain ⟨k,rfl⟩ : ∃ j,k = j + 1:=⟨k - 1,by omega⟩
   simp only [tc] at htc hp ⊢
   refine .bind (P:=fun r=>0 ≤ r.2 ∧ r.2 ≤ m + (60 + 4 * tc n) ∧ BlockOk (n + 1) (sc (n + 1)) r.1 ∧ r.1.length ≤ 2) ?_ fun r hr=>.inr hr
   show Tot (f63 k (f2e k) (f5p k) (f9r k) (f81 k) ⟨b,y.2⟩ nb ((n + 1 : Nat) : Int)) _
   unfold f63
   rw [w64_s (i:=((n + 1 : Nat) : Int) - 1) (by omega) (by omega),show ((n + 1 : Nat) : Int) - 1 = n by omega]
   refine .bind (pick_dr hb hy.1 hy.2.1 (by omega) (by omega) (by omega)) fun y1 h1=>.bind (hB.two k (by omega) h1.1 h1.2.1 h1.2.2.1 (by have:=h1.2.2.2; omega) (by omega)) fun y2 h2=>?_
   simp only [f26,f76,Option.bind_some]
   refine .bind (pick_dr hb h2.1 h2.2.1 (by omega) (by omega) (by omega)) fun y7 h7=>?_
   rw [w64_s (i:=1 + y7.1) (by have:=h7.2.2; omega) (by have:=h7.2.2; omega)]
   have hlen:=len_cts y2.1
   have hct:=h2.2.2.2
   have hsc : sc n ≤ 10000:=by
    rcases (show n = 0 ∨ n = 1 ∨ n = 2 by omega) with rfl | rfl | rfl <;> decide
   refine .bind (.app (by simp only [List.length_cons,List.length_nil]; omega)) fun r hr=>.pure ⟨h7.1,by have:=h7.2.1; simp only; omega,?_⟩
   subst hr
   have e13 : EOk 4 ⟨13,3,[]⟩:=.inr (.inl ⟨rfl,by simp,by simp,rfl⟩)
   have e0 : ∀ v,0 ≤ v → v ≤ 99999 → EOk 4 ⟨0,v,[]⟩:=fun v h1 h2=>.inl ⟨rfl,h1,h2,rfl⟩
   have s1 : Simp (Stmt.mk 1 3 0 (Expr.mk 8 0 [⟨13,3,[]⟩,⟨0,1,[]⟩]) [] []):=⟨rfl,rfl,.inl ⟨rfl,⟨by simp,by simp⟩,rfl,.inr (.inr ⟨⟨by simp,by simp⟩,rfl,_,_,rfl,e13,e0 1 (by omega) (by omega)⟩)⟩⟩
   have s2 : Simp (Stmt.mk 1 3 0 (Expr.mk 0 0 []) [] []):=⟨rfl,rfl,.inl ⟨rfl,⟨by simp,by simp⟩,rfl,(e0 0 (by omega) (by omega)).mono (by omega)⟩⟩
   have h77 : 0 ≤ y7.1 ∧ y7.1 < 3:=h7.2.2
   refine ⟨⟨fun x hx=>?_,?_⟩,by simp⟩
   ·simp only [List.mem_cons,List.not_mem_nil,or_false] at hx
    rcases hx with rfl | rfl
    ·exact .of_simp s2 _
    ·refine .inr ⟨.inr ⟨rfl,rfl⟩,rfl,rfl,.inr (.inr ⟨⟨by simp,by simp⟩,rfl,_,_,rfl,e13,e0 (1 + y7.1) (by omega) (by omega)⟩),fun x hx=>?_,by simp⟩
     simp only [List.mem_append,List.mem_singleton] at hx
     rcases hx with hx | rfl
     ·exact h2.2.2.1 x hx
     ·exact .of_simp s1 _
   ·simp only [cts,ct,cts_app,sc]; omega
  ·rw [Stmt.eta']; exact simp_block hr.2.2
  ·exact simp_block ⟨rfl,rfl,.inr (.inr (.inr (.inl ⟨rfl,rfl,rfl,rfl⟩)))⟩
 ·refine .both (fun q e=>?_) fun r e=>?_
  ·subst e
   obtain ⟨g0,g1⟩ : 0 ≤ q ∧ q ≤ m + 1:=hz
   refine .bind (pick_dr hb g0 g1 (by omega) (by omega) (by omega)) fun x p2 hx h3 h4=>?_
   dsimp only
   rw [w64_s (i:=1 + x) (by omega) (by omega)]
   refine .bind (expr3_dr hb (depth:=1 + x) (by omega) (by omega) (by omega) h3 h4 (by omega)) fun e p3 he h5 h6=>.pure ?_ h5 (by omega)
   rw [Expr.eta']
   exact simp_block ⟨rfl,rfl,.inr (.inr (.inr (.inr ⟨rfl,rfl,rfl,he⟩)))⟩
  ·subst e; obtain ⟨r1,r2⟩:=r; exact .pure hz.2.2 hz.1 hz.2.1
theorem block_dr (hb : By b) {nb : Int} (hnb : nb ≤ 3) : ∀ n,n ≤ 3 → BlkP b nb n:=by
 intro n
 induction n with
 | zero=>intro _; exact blk 0 (by omega) fun e h=>by omega
 | succ n ih=>intro hn; exact blk (n + 1) hn fun e h=>(by omega : e = n) ▸ ih (by omega)
where
 blk (n : Nat) (hn : n ≤ 3) (ih : ∀ e,n = e + 1 → BlkP b nb e) : BlkP b nb n:=by
  intro k p m w loops hk h0 hm w0 w10 hp
  obtain ⟨k,rfl⟩ : ∃ j,k = j + 1:=⟨k - 1,by omega⟩
  show Dr (f54 k (f2e k) (f5p k) (f9r k) (f81 k) ⟨b,p⟩ nb n w loops) _ _
  unfold f54
  have htc:=tc_pos n
  have hsc : sc n ≤ 10000:=by
   rcases (show n = 0 ∨ n = 1 ∨ n = 2 ∨ n = 3 by omega) with rfl | rfl | rfl | rfl <;> decide
  refine .tot (P:=fun r=>0 ≤ r.2 ∧ r.2 ≤ m + w * tc n ∧ BlockOk n (w.toNat * sc n) r.1) (.iter (fun s=>0 ≤ s.2.1 ∧ s.2.1 ≤ w ∧ 0 ≤ s.2.2 ∧ s.2.2 ≤ m + s.2.1 * tc n ∧ BlockOk n (s.2.1.toNat * sc n) s.1) (fun s=>(w - s.2.1).toNat) ⟨by simp,by simpa using w0,h0,by simp only; omega,by simp [BlockOk,cts]⟩ fun s hs=>?_) fun r hr=>.pure hr.2.2 hr.1 hr.2.1
  obtain ⟨l,i,q⟩:=s
  obtain ⟨g0,g1,g2,g3,g4⟩:=hs
  simp only at g0 g1 g2 g3 g4
  unfold f96
  refine .sel (fun hlt=>?_) fun hge=>.inr (show 0 ≤ q ∧ q ≤ m + w * tc n ∧ BlockOk n (w.toNat * sc n) l from ?_)
  ·simp only [decide_eq_true_eq] at hlt
   have e1 : (i + 1) * tc n = i * tc n + tc n:=by rw [Int.add_mul,Int.one_mul]
   have e2 : (i + 1) * tc n ≤ w * tc n:=Int.mul_le_mul_of_nonneg_right (by omega) (by omega)
   refine .bind (stmt_dr hb hnb (by omega) ih g2 g3 hn (by omega)) fun y hy=>?_
   have hll:=len_cts l
   have hil : i.toNat * sc n ≤ 10 * sc n:=Nat.mul_le_mul_right _ (by omega)
   have hb4:=g4.2
   have hy22 : BlockOk n (sc n) y.1 ∧ y.1.length ≤ 2:=hy.2.2
   refine .bind (.app (l:=l) (by have:=hy22.2; omega)) fun r hr=>.inl ?_
   subst hr
   rw [w64_up g0 (by omega)]
   refine ⟨⟨by simp only; omega,by simp only; omega,hy.1,by have:=hy.2.1; simp only; omega,fun x hx=>?_,?_⟩,by simp only; omega⟩
   ·simp only [List.mem_append] at hx
    exact hx.elim (g4.1 x) (hy.2.2.1.1 x)
   ·simp only
    rw [cts_app,show (i + 1).toNat = i.toNat + 1 by omega,Nat.add_mul,Nat.one_mul]
    have:=hy.2.2.1.2
    omega
  ·simp only [decide_eq_false_iff_not] at hge
   obtain rfl : i = w:=by omega
   exact ⟨g2,g3,g4⟩
theorem stmts_dr (hb : By b) {nb : Int} (hnb : nb ≤ 3) {k : Nat} (hk : 20 ≤ k) (h0 : 0 ≤ p) (hm : p ≤ m) (hp : m ≤ 1000000) : Dr (f6l k ⟨b,p⟩ nb) (m + 40000) (BlockOk 3 16):=by
 unfold f6l
 refine .bind (pick_dr hb h0 hm (by omega) (by omega) (by omega)) fun v p1 hv h1 h2=>?_
 dsimp only
 rw [w64_s (by omega) (by omega)]
 have e1 : (1 + v) * tc 3 ≤ 6 * tc 3:=Int.mul_le_mul_of_nonneg_right (by omega) (by decide)
 have e2 : (6 : Int) * tc 3 = 30600:=by decide
 have e5 : m + 1 + (1 + v) * tc 3 ≤ 50000000:=by omega
 refine .bind (block_dr hb hnb 3 (by omega) k (by omega) h1 h2 (by omega) (by omega) e5) fun l p2 hl h3 h4=>?_
 have e3 : (1 + v).toNat * sc 3 ≤ 6 * sc 3:=Nat.mul_le_mul_right _ (by omega)
 have e4 : 6 * sc 3 = 1146:=by decide
 dsimp only
 have hl2:=hl.2
 refine .tot (P:=BlockOk 3 16) (.iter (fun s=>BlockOk 3 1146 s) List.length ⟨hl.1,by omega⟩ fun s hs=>?_) fun r hr=>.pure hr h3 (by omega)
 unfold f97
 refine .bind (count_tot (n:=3) (by omega) hs.1 (by have:=hs.2; omega)) fun c hc=>.sel (fun h=>?_) fun h=>.inr ?_
 ·simp only [decide_eq_true_eq] at h
  have hne : 1 ≤ s.length:=by
   rcases Nat.eq_zero_or_pos s.length with h0 | h0
   ·have : s = []:=List.eq_nil_of_length_eq_zero h0
    subst this; simp [cts] at hc; omega
   ·exact h0
  have hlen:=len_cts s
  have h1146:=hs.2
  rw [w64_s (by omega) (by omega)]
  refine .bind (.cut (by omega)) fun r hr=>.inl ?_
  subst hr
  simp only [Int.toNat_zero,List.drop_zero]
  exact ⟨⟨fun x hx=>hs.1 x (List.mem_of_mem_take hx),Nat.le_trans (cts_take_le _ _) hs.2⟩,by rw [List.length_take]; omega⟩
 ·simp only [decide_eq_false_iff_not] at h
  exact ⟨hs.1,by omega⟩
end Go.Proofs.YtmpplggjpmmhlaaGreat.N
namespace Go.Proofs.YtmpplggjpmmhlaaGreat.N
open Go.Proofs.YtmpplggjpmmhlaaGreat.X
variable {b : List Int} {p m : Int}
theorem ct_mem : ∀ {l : List Stmt} {x : Stmt},x ∈ l → ct x ≤ cts l
 | [],_,h=>by simp at h
 | y :: l,x,h=>by
  simp only [cts]
  rcases List.mem_cons.1 h with rfl | h
  ·omega
  ·have:=ct_mem h; omega
theorem var_eq (s : Stmt) (u : Bool) : f3b s u = some (if u then decide (0 ≤ s.Var) && decide (s.Var ≤ 3) else s.Var == 0):=by cases u <;> rfl
theorem box_eq (s : Stmt) (u : Bool) : f39 s u = some (if u then decide (0 ≤ s.Box) && decide (s.Box ≤ 2) else s.Box == 0):=by cases u <;> rfl
theorem simple_eq {k : Nat} (hk : 5 ≤ k) {s : Stmt} (h : Simp s) : f49 k s = some true:=by
 obtain ⟨h1,h2,h3⟩:=h
 unfold f49
 simp only [Stmt.eta',Expr.eta',var_eq,box_eq,h1,h2]
 rw [sel_false (by simp)]
 rcases h3 with ⟨a1,a2,a3,a4⟩ | ⟨a1,a2,a3,a4⟩ | ⟨a1,a2,a3,a4⟩ | ⟨a1,a2,a3,a4⟩ | ⟨a1,a2,a3,a4⟩
 ·rw [sel_true (by simp [a1])]; simp [a2.1,a2.2,a3,exprvalid_eq a4 hk,sel]
 ·rw [sel_false (by simp [a1]),sel_true (by simp [a1])]; simp [a2,a3.1,a3.2,exprvalid_eq a4 hk,sel]
 ·rw [sel_false (by simp [a1]),sel_false (by simp [a1]),sel_true (by simp [a1])]; simp [a2.1,a2.2,a3.1,a3.2,a4,f4q,sel]
 ·rw [sel_false (by simp [a1]),sel_false (by simp [a1]),sel_false (by simp [a1]),sel_true (by simp [a1])]; simp [a2,a3,a4,f4q,sel]
 ·rw [sel_false (by simp [a1]),sel_false (by simp [a1]),sel_false (by simp [a1]),sel_false (by simp [a1]),sel_true (by simp [a1])]; simp [a2,a3,exprvalid_eq a4 hk,sel]
theorem Simp.kind {s : Stmt} (h : Simp s) : s.Kind ≠ 2 ∧ s.Kind ≠ 3:=by
 obtain ⟨_,_,h⟩:=h
 rcases h with h | h | h | h | h <;> (have:=h.1; omega)
theorem blocks_eq : ∀ (n : Nat) {k : Nat} {l : List Stmt},2 * n + 8 ≤ k → n ≤ 3 → (∀ x ∈ l,SOk n x) → cts l ≤ 1000000 → f1o k l n = some true:=by
 intro n
 induction n with
 | zero=>exact fun hk hn hl hc=>key 0 (fun h=>by omega) hk hn hl hc
 | succ n ih=>exact fun hk hn hl hc=>key (n + 1) (fun _ {k l} h1 h2 h3=>by have:=ih (k:=k) (l:=l) h1 (by omega) h2 h3; simpa using this) hk hn hl hc
where
 key (n : Nat) (ih : 1 ≤ n → ∀ {k : Nat} {l : List Stmt},2 * (n - 1) + 8 ≤ k → (∀ x ∈ l,SOk (n - 1) x) → cts l ≤ 1000000 → f1o k l ((n - 1 : Nat) : Int) = some true) {k : Nat} {l : List Stmt} (hk : 2 * n + 8 ≤ k) (hn : n ≤ 3) (hl : ∀ x ∈ l,SOk n x) (hc : cts l ≤ 1000000) : f1o k l n = some true:=by
  obtain ⟨k,rfl⟩ : ∃ j,k = j + 2:=⟨k - 2,by omega⟩
  refine Tot.eq ?_
  show Tot (f4l (k + 1) (f1o (k + 1)) (fc0 (k + 1)) l n) _
  unfold f4l
  have hlen:=len_cts l
  refine .bind (P:=fun z=>z = .inr ()) (.iter (fun i : Int=>0 ≤ i ∧ i ≤ l.length) (fun i=>(l.length - i).toNat) ⟨by omega,by omega⟩ fun i ⟨g0,g1⟩=>?_) fun z hz=>by subst hz; exact .pure rfl
  unfold f8l
  refine .sel (fun h=>?_) fun _=>.inr rfl
  simp only [decide_eq_true_eq] at h
  refine .bind (.nth g0 h) fun x ⟨_,hm⟩=>?_
  rw [Stmt.eta']
  refine .bind (P:=fun y=>y = true) ?_ fun y hy=>.sf (by rw [hy]; rfl) (.inl ?_)
  ·have hx:=hl x hm
   have hcx:=ct_mem hm
   have hce:=ct_eq x
   show Tot (f88 k (f1o k) (fc0 k) x n) _
   unfold f88
   simp only [Stmt.eta',Expr.eta',var_eq,box_eq]
   have simp_case : Simp x → Tot (sel (x.Kind != 2 && x.Kind != 3) ((f49 k x).bind fun y1=>some y1) (sel (decide ((n : Int) < 1) || (x.Kind == 3 && decide ((x.Else.length : Int) > 0))) (some false) ((some (if false = true then decide (0 ≤ x.Var) && decide (x.Var ≤ 3) else x.Var == 0)).bind fun y2=>(sel y2 ((some (if false = true then decide (0 ≤ x.Box) && decide (x.Box ≤ 2) else x.Box == 0)).bind fun y3=>some y3) (some false)).bind fun b1=>(sel b1 ((f1y k x.Expr).bind fun y4=>some y4) (some false)).bind fun b2=>(sel b2 ((f1o k x.Body (w64 ((n : Int) - 1))).bind fun y5=>some y5) (some false)).bind fun b3=>(sel b3 ((f1o k x.Else (w64 ((n : Int) - 1))).bind fun y6=>some y6) (some false)).bind fun b4=>some b4))) (fun y=>y = true):=fun hs=>by
    refine .st (by have:=hs.kind; simp [this.1,this.2]) ?_
    rw [simple_eq (by omega) hs]; exact .pure rfl
   cases n with
   | zero=>exact simp_case hx
   | succ n =>
    rcases hx with hx | ⟨hkd,hv,hb,he,hbd,hel⟩
    ·exact simp_case hx
    ·refine .sf (by rcases hkd with h | h <;> simp [h]) (.sf (by rcases hkd with h | h <;> simp [h] <;> omega) ?_)
     rw [w64_s (by omega) (by omega),show ((n + 1 : Nat) : Int) - 1 = ((n + 1 - 1 : Nat) : Int) by omega]
     have i1:=ih (by omega) (k:=k) (l:=x.Body) (by omega) hbd (by omega)
     have i2:=ih (by omega) (k:=k) (l:=x.Else) (by omega) hel (by omega)
     simp only [i1,i2,exprvalid_eq he (show 5 ≤ k by omega),hv,hb]
     exact .pure rfl
  ·rw [w64_up g0 (by omega)]
   exact ⟨⟨by omega,by omega⟩,by omega⟩
theorem stmtsvalid_eq {k : Nat} (hk : 20 ≤ k) {l : List Stmt} (h : BlockOk 3 16 l) : f52 k l = some true:=by
 unfold f52
 have h2:=h.2
 have h1:=blocks_eq 3 (k:=k) (by omega) (by omega) h.1 (by omega)
 rw [show ((3 : Nat) : Int) = 3 from rfl] at h1
 rw [h1,Option.bind_some,sel_true rfl,(count_tot (n:=3) (k:=k) (by omega) h.1 (by omega)).eq]
 simp; omega
def Cq (hi : Int) (out : List Quad) : Prop:=∀ q ∈ out,QOk (hi + 1) q
theorem Cq.mono {hi hi' : Int} {out : List Quad} (h : Cq hi out) (hh : hi ≤ hi') : Cq hi' out:=fun q hq=>(h q hq).mono (by omega)
theorem Cq.app {hi : Int} {out out' : List Quad} (h : Cq hi out) (h' : Cq hi out') : Cq hi (out ++ out'):=fun q hq=>(List.mem_append.1 hq).elim (h q) (h' q)
theorem Cq.one {hi : Int} {q : Quad} (h : QOk (hi + 1) q) : Cq hi [q]:=fun q' hq=>by rw [List.mem_singleton.1 hq]; exact h
theorem cexpr4 {k : Nat} {e : Expr} (h : EOk 5 e) (hk : 5 ≤ k) : Tot (f2a k e 4) fun out=>out.length ≤ 31 ∧ 1 ≤ out.length ∧ ∀ hi,Cq hi out:=
 (cexpr_tot h (by omega) (by omega) hk).mono fun out ho=>⟨by have:=ho.1; omega,ho.2.1,fun hi q hq=>ho.2.2 q hq _⟩
theorem cexpr0 {k : Nat} (hk : 1 ≤ k) : Tot (f2a k ⟨0,0,[]⟩ 4) fun out=>out.length ≤ 31 ∧ 1 ≤ out.length ∧ ∀ hi,Cq hi out:=
 (cexpr_tot (d:=1) (.inl ⟨rfl,by simp,by simp,rfl⟩) (by omega) (by omega) hk).mono fun out ho=>⟨by have:=ho.1; omega,ho.2.1,fun hi q hq=>ho.2.2 q hq _⟩
def CRes (base : Int) (c : Nat) (out : List Quad) : Prop:=out.length ≤ 33 * c ∧ Cq (base + out.length) out
def ListP (n : Nat) : Prop:=∀ {k : Nat} {l : List Stmt} {base : Int},3 * n + 8 ≤ k → (∀ x ∈ l,SOk n x) → 0 ≤ base → base + 33 * cts l ≤ 100000 → Tot (f3g k l base) (CRes base (cts l))
theorem cstmt_tot {n k : Nat} (ih : ∀ e, n = e + 1 → ListP e) {x : Stmt} (hx : SOk n x) {base : Int} (hk : 3 * n + 7 ≤ k) (h0 : 0 ≤ base) (h1 : base + 33 * ct x ≤ 100000) : Tot (f62 k x base) (CRes base (ct x)) := by
  obtain ⟨k, rfl⟩ : ∃ j, k = j + 1 := ⟨k - 1, by omega⟩
  show Tot (f5n k (f3g k) (f62 k) (faa k) (f6v k) x base) _
  have hce := ct_eq x
  have r4 : Rg 4 := by unfold Rg; omega
  have hexp : EOk 5 x.Expr ∨ x.Expr = ⟨0, 0, []⟩ := by
    have hs : Simp x → EOk 5 x.Expr ∨ x.Expr = ⟨0, 0, []⟩ := fun h => by
      rcases h.2.2 with h | h | h | h | h
      · exact .inl h.2.2.2
      · exact .inl h.2.2.2
      · exact .inr h.2.2.2
      · exact .inr h.2.2.2
      · exact .inl h.2.2.2
    cases n with
    | zero => exact hs hx
    | succ n => rcases hx with h | h
                · exact hs h
                · exact .inl h.2.2.2.1
  have he : ∀ {k}, 5 ≤ k → Tot (f2a k x.Expr 4) fun out => out.length ≤ 31 ∧ 1 ≤ out.length ∧ ∀ hi, Cq hi out := fun hk => hexp.elim (fun h => cexpr4 h hk) fun h => by rw [h]; exact cexpr0 (by omega)
  unfold f5n
  simp only [Stmt.eta', Expr.eta']
  refine .bind (he (by omega)) fun ex hex => .sel (fun hkd => ?_) fun h2 => .sel (fun hkd => ?_) fun h3 => ?_
  · -- an if
    simp only [beq_iff_eq] at hkd
    have hns : ¬ Simp x := fun h => h.kind.1 hkd
    obtain ⟨n, rfl⟩ : ∃ e, n = e + 1 := ⟨n - 1, by cases n with | zero => exact absurd hx hns | succ n => omega⟩
    obtain ⟨_, _, _, hee, hbd, hel⟩ := hx.resolve_left hns
    obtain ⟨k, rfl⟩ : ∃ j, k = j + 1 := ⟨k - 1, by omega⟩
    refine .bind (P := CRes base (ct x)) ?_ fun r hr => .pure hr
    show Tot (f86 k (f3g k) (f62 k) (faa k) (f6v k) x base) _
    unfold f86
    simp only [Expr.eta']
    refine .bind (cexpr4 hee (by omega)) fun e he => ?_
    rw [w64_s (i := base + e.length) (by omega) (by omega), w64_s (i := base + e.length + 1) (by omega) (by omega)]
    refine .bind (ih n rfl (k := k) (by omega) hbd (by omega) (by omega)) fun bd ⟨hb1, hb2⟩ => ?_
    rw [w64_s (i := base + e.length + 1 + bd.length) (by omega) (by omega)]
    refine .sel (fun h => ?_) fun h => ?_
    · refine .bind (.app (by simp; omega)) fun r hr => .bind (.app (by subst hr; simp; omega)) fun r2 hr2 => .pure ?_
      subst hr hr2
      refine ⟨by simp; omega, ((he.2.2 _).app (.one ?_)).app (hb2.mono (by simp; omega))⟩
      exact .inr (.inr (.inr (.inr (.inl ⟨rfl, rfl, r4, rfl, by simp only; omega, by simp; omega⟩))))
    · rw [w64_s (i := base + e.length + 1 + bd.length + 1) (by omega) (by omega)]
      refine .bind (ih n rfl (k := k) (by omega) hel (by omega) (by omega)) fun el ⟨he1, he2⟩ => .bind (.app (by simp; omega)) fun r hr => .bind (.app (by subst hr; simp; omega)) fun r2 hr2 => .bind (.app (by subst hr hr2; simp; omega)) fun r3 hr3 => .bind (.app (by subst hr hr2 hr3; simp; omega)) fun r4' hr4 => .pure ?_
      subst hr hr2 hr3 hr4
      rw [w64_s (i := base + e.length + 1 + bd.length + 1 + el.length) (by omega) (by omega)]
      refine ⟨by simp; omega, ((((he.2.2 _).app (.one ?_)).app (hb2.mono (by simp; omega))).app (.one ?_)).app (he2.mono (by simp; omega))⟩
      · exact .inr (.inr (.inr (.inr (.inl ⟨rfl, rfl, r4, rfl, by simp only; omega, by simp; omega⟩))))
      · exact .inr (.inr (.inr (.inl ⟨rfl, rfl, rfl, rfl, by simp only; omega, by simp; omega⟩)))
  · -- a while
    simp only [beq_iff_eq] at hkd
    have hns : ¬ Simp x := fun h => h.kind.2 hkd
    obtain ⟨n, rfl⟩ : ∃ e, n = e + 1 := ⟨n - 1, by cases n with | zero => exact absurd hx hns | succ n => omega⟩
    obtain ⟨_, _, _, hee, hbd, hel⟩ := hx.resolve_left hns
    obtain ⟨k, rfl⟩ : ∃ j, k = j + 1 := ⟨k - 1, by omega⟩
    refine .bind (P := CRes base (ct x)) ?_ fun r hr => .pure hr
    show Tot (f50 k (f3g k) (f62 k) (faa k) (f6v k) x base) _
    unfold f50
    simp only [Expr.eta']
    refine .bind (cexpr4 hee (by omega)) fun e he => ?_
    rw [w64_s (i := base + e.length) (by omega) (by omega), w64_s (i := base + e.length + 1) (by omega) (by omega)]
    refine .bind (ih n rfl (k := k) (by omega) hbd (by omega) (by omega)) fun bd ⟨hb1, hb2⟩ => ?_
    rw [w64_s (i := base + e.length + 1 + bd.length) (by omega) (by omega), w64_s (i := base + e.length + 1 + bd.length + 1) (by omega) (by omega)]
    refine .bind (.app (by simp; omega)) fun r hr => .bind (.app (by subst hr; simp; omega)) fun r2 hr2 => .bind (.app (by subst hr hr2; simp; omega)) fun r3 hr3 => .pure ?_
    subst hr hr2 hr3
    refine ⟨by simp; omega, (((he.2.2 _).app (.one ?_)).app (hb2.mono (by simp; omega))).app (.one ?_)⟩
    · exact .inr (.inr (.inr (.inr (.inl ⟨rfl, rfl, r4, rfl, by simp only; omega, by simp; omega⟩))))
    · exact .inr (.inr (.inr (.inl ⟨rfl, rfl, rfl, rfl, h0, by simp; omega⟩)))
  · have hs : Simp x := by
      simp only [beq_eq_false_iff_ne, ne_eq] at h2 h3
      cases n with
      | zero => exact hx
      | succ n => rcases hx with h | h
                  · exact h
                  · exact absurd h.1 (by omega)
    obtain ⟨s1, s2, s3⟩ := hs
    have h33 : 33 ≤ 33 * ct x := by have := ct_pos x; omega
    have rg : ∀ {v : Int}, 0 ≤ v ∧ v ≤ 3 → Rg v := fun h => by unfold Rg; omega
    have ap : ∀ q : Quad, (∀ hi, 0 ≤ hi → QOk (hi + 1) q) → Tot ((X.app 40 ex [q]).bind fun r => some r) (CRes base (ct x)) := fun q hq => .bind (.app (by simp; omega)) fun r hr => .pure (by
      subst hr
      exact ⟨by simp; omega, (hex.2.2 _).app (.one (hq _ (by omega)))⟩)
    refine .sel (fun h => ap _ fun hi hh => ?_) fun n1 => .sel (fun h => ap _ fun hi hh => ?_) fun n4 => .sel (fun h => ap _ fun hi hh => ?_) fun n7 => .sel (fun h => .pure ⟨by simp; omega, .one ?_⟩) fun n5 => .pure ⟨by simp; omega, .one ?_⟩
    all_goals try simp only [beq_iff_eq] at h
    · simp [h] at s3
      exact .inr (.inl ⟨rfl, rg s3.1, r4, rfl, rfl⟩)
    · simp [h] at s3
      exact .inr (.inr (.inr (.inr (.inr (.inl ⟨rfl, rfl, r4, rfl, s3.2.1.1, s3.2.1.2⟩)))))
    · exact .inr (.inr (.inr (.inr (.inr (.inr (.inr (.inl ⟨rfl, rfl, r4, rfl, rfl⟩)))))))
    · simp [h] at s3
      exact .inr (.inr (.inr (.inr (.inr (.inr (.inl ⟨rfl, rg s3.1, rfl, rfl, s3.2.1.1, s3.2.1.2⟩))))))
    · exact .inr (.inr (.inr (.inr (.inr (.inr (.inr (.inr ⟨.inl rfl, rfl, rfl, rfl, rfl⟩)))))))
theorem clist_tot : ∀ n,ListP n:=by
 intro n
 induction n with
 | zero=>exact key 0 fun e h=>by omega
 | succ n ih=>exact key (n + 1) fun e h=>(by omega : n = e) ▸ ih
where
 key (n : Nat) (ih : ∀ e,n = e + 1 → ListP e) : ListP n:=by
  intro k l base hk hl h0 h1
  obtain ⟨k,rfl⟩ : ∃ j,k = j + 1:=⟨k - 1,by omega⟩
  show Tot (f5v k (f3g k) (f62 k) (faa k) (f6v k) l base) _
  unfold f5v
  have hlen:=len_cts l
  refine .bind (P:=CRes base (cts l)) (.iter (fun s=>0 ≤ s.2 ∧ s.2 ≤ (l.length : Int) ∧ CRes base (cts (l.take s.2.toNat)) s.1) (fun s=>((l.length : Int) - s.2).toNat) ⟨by simp,by simp,by simp [CRes,Cq]⟩ fun s hs=>?_) fun r hr=>.pure hr
  obtain ⟨out,i⟩:=s
  obtain ⟨g0,g1,g2,g3⟩:=hs
  simp only at g0 g1 g2 g3
  have hle:=cts_take_le l i.toNat
  unfold fa0
  refine .sel (fun h=>?_) fun h=>.inr (show CRes base (cts l) out from ?_)
  ·simp only [decide_eq_true_eq] at h
   refine .bind (.nth g0 h) fun x ⟨hx,hm⟩=>?_
   have h1:=cts_take l i.toNat x hx
   have h2:=cts_take_le l (i.toNat + 1)
   have h3:=ct_mem hm
   dsimp only
   rw [Stmt.eta',w64_s (by omega) (by omega)]
   refine .bind (cstmt_tot ih (hl x hm) (by omega) (by omega) (by omega)) fun y ⟨hy1,hy2⟩=>.bind (.app (l:=out) (by omega)) fun r hr=>.inl ?_
   subst hr
   rw [w64_up g0 (by omega)]
   refine ⟨⟨by simp only; omega,by simp only; omega,?_⟩,by simp only; omega⟩
   simp only
   rw [show (i + 1).toNat = i.toNat + 1 by omega,h1]
   exact ⟨by simp; omega,(g3.mono (by simp; omega)).app (hy2.mono (by simp; omega))⟩
  ·simp only [decide_eq_false_iff_not] at h
   rw [List.take_of_length_le (by omega)] at g2
   exact ⟨g2,g3⟩
theorem compile_tot {k : Nat} (hk : 20 ≤ k) {l : List Stmt} (h : BlockOk 3 16 l) : Tot (f4n k l) fun r=>r.2 = true ∧ COk r.1:=by
 unfold f4n
 rw [stmtsvalid_eq hk h,Option.bind_some]
 have h2:=h.2
 refine .sf rfl (.bind (clist_tot 3 (k:=k) (by omega) h.1 (by omega) (by omega)) fun out ⟨h1,h2'⟩=>.bind (.app (by simp; omega)) fun r hr=>.pure ⟨rfl,?_⟩)
 subst hr
 refine ⟨by simp,by simp; omega,fun q hq=>?_,⟨_,List.getLast?_concat,.inl rfl⟩⟩
 simp only [List.mem_append,List.mem_singleton] at hq
 rcases hq with hq | rfl
 ·exact (h2' q hq).mono (by simp)
 ·exact .inr (.inr (.inr (.inr (.inr (.inr (.inr (.inr ⟨.inr rfl,rfl,rfl,rfl,rfl⟩)))))))
theorem word_dr (hb : By b) (h0 : 0 ≤ p) (hm : p ≤ m) (hp : m ≤ 100000000) : Dr (f85 ⟨b,p⟩) (m + 5) Wd:=by
 unfold f85
 have wd : ∀ {v : Int},-1000 ≤ v → v ≤ 1000 → Wd v:=fun h1 h2=>by unfold Wd; omega
 refine .bind (pick_dr hb h0 hm (by omega) (by omega) (by omega)) fun x p1 hx h1 h2=>.sel (fun _=>?_) fun _=>.sel (fun _=>?_) fun _=>.sel (fun _=>?_) fun _=>?_
 ·refine .bind (pick_dr hb h1 h2 (by omega) (by omega) (by omega)) fun y p2 hy h3 h4=>.tot (.nth hy.1 (by simpa using hy.2)) fun z ⟨_,hz⟩=>.pure ?_ h3 (by omega)
  unfold Wd
  simp at hz
  omega
 ·refine .bind (pick_dr hb h1 h2 (by omega) (by omega) (by omega)) fun y p2 hy h3 h4=>.bind (pick_dr hb h3 h4 (by omega) (by omega) (by omega)) fun y p2 hy h3 h4=>.bind (pick_dr hb h3 h4 (by omega) (by omega) (by omega)) fun y p2 hy h3 h4=>.bind (pick_dr hb h3 h4 (by omega) (by omega) (by omega)) fun y p2 hy h3 h4=>.tot (wrap_tot _) fun z hz=>.pure hz h3 (by omega)
 ·refine .bind (pick_dr hb h1 h2 (by omega) (by omega) (by omega)) fun y p2 hy h3 h4=>.pure ?_ h3 (by omega)
  rw [w64_s (by omega) (by omega)]
  exact wd (by omega) (by omega)
 ·refine .bind (pick_dr hb h1 h2 (by omega) (by omega) (by omega)) fun y p2 hy h3 h4=>.pure (wd (by omega) (by omega)) h3 (by omega)
theorem reg_dr (hb : By b) (h0 : 0 ≤ p) (hm : p ≤ m) (hp : m ≤ 100000000) : Dr (f1g ⟨b,p⟩) (m + 1) Rg:=by
 unfold f1g
 exact .bind (pick_dr hb h0 hm (by omega) (by omega) (by omega)) fun x p1 hx h1 h2=>.pure (by unfold Rg; omega) h1 h2
theorem quad_dr (hb : By b) {many : Int} (hn : 1 ≤ many) (hn' : many ≤ 600) (h0 : 0 ≤ p) (hm : p ≤ m) (hp : m ≤ 90000000) : Dr (f7u ⟨b,p⟩ many) (m + 10) (QOk many):=by
 unfold f7u
 refine .bind (pick_dr hb h0 hm (by omega) (by omega) (by omega)) fun x p1 hx h1 h2=>?_
 have tt : ∀ c d : Bool,Tot (sel c (some c) (some d)) fun _=>True:=fun c d=>.sel (fun _=>.pure trivial) fun _=>.pure trivial
 have tt2 : ∀ c d e : Bool,Tot (sel c (some c) (sel d (some d) (some e))) fun _=>True:=fun c d e=>.sel (fun _=>.pure trivial) fun _=>tt d e
 refine .tot (tt _ _) fun _ _=>.sel (fun _=>?_) fun _=>.tot (tt _ _) fun _ _=>.sel (fun _=>?_) fun _=>.tot (tt2 _ _ _) fun _ _=>.sel (fun _=>?_) fun _=>.sel (fun _=>?_) fun _=>.sel (fun _=>?_) fun _=>.sel (fun _=>?_) fun _=>.sel (fun _=>?_) fun _=>?_
 ·refine .bind (reg_dr hb h1 h2 (by omega)) fun d p2 hd h3 h4=>.bind (word_dr hb h3 h4 (by omega)) fun w p3 hw h5 h6=>.bind (pick_dr hb h5 h6 (by omega) (by omega) (by omega)) fun y p4 hy h7 h8=>.tot (.nth hy.1 (by simpa using hy.2)) fun z ⟨_,hz⟩=>.pure (.inl ⟨rfl,hd,rfl,rfl,?_⟩) h7 (by omega)
  simp at hz
  rcases hz with h | h | h | h <;> first | (rw [h]; exact hw) | (rw [h]; unfold Wd; simp)
 ·exact .bind (reg_dr hb h1 h2 (by omega)) fun d p2 hd h3 h4=>.bind (reg_dr hb h3 h4 (by omega)) fun a p3 ha h5 h6=>.pure (.inr (.inl ⟨rfl,hd,ha,rfl,rfl⟩)) h5 (by omega)
 ·exact .bind (reg_dr hb h1 h2 (by omega)) fun d p2 hd h3 h4=>.bind (reg_dr hb h3 h4 (by omega)) fun a p3 ha h5 h6=>.bind (reg_dr hb h5 h6 (by omega)) fun c p4 hc h7 h8=>.bind (op_dr hb h7 h8 (by omega)) fun o p5 ho h9 h10=>.pure (.inr (.inr (.inl ⟨rfl,hd,ha,hc,ho.1,ho.2⟩))) h9 (by omega)
 ·exact .bind (pick_dr hb h1 h2 (by omega) hn (by omega)) fun y p2 hy h3 h4=>.pure (.inr (.inr (.inr (.inl ⟨rfl,rfl,rfl,rfl,hy.1,hy.2⟩)))) h3 (by omega)
 ·exact .bind (reg_dr hb h1 h2 (by omega)) fun a p2 ha h3 h4=>.bind (pick_dr hb h3 h4 (by omega) hn (by omega)) fun y p3 hy h5 h6=>.pure (.inr (.inr (.inr (.inr (.inl ⟨rfl,rfl,ha,rfl,hy.1,hy.2⟩))))) h5 (by omega)
 ·exact .bind (reg_dr hb h1 h2 (by omega)) fun a p2 ha h3 h4=>.bind (pick_dr hb h3 h4 (by omega) (by omega) (by omega)) fun y p3 hy h5 h6=>.pure (.inr (.inr (.inr (.inr (.inr (.inl ⟨rfl,rfl,ha,rfl,hy.1,by simp only; omega⟩)))))) h5 (by omega)
 ·exact .bind (reg_dr hb h1 h2 (by omega)) fun a p2 ha h3 h4=>.bind (pick_dr hb h3 h4 (by omega) (by omega) (by omega)) fun y p3 hy h5 h6=>.pure (.inr (.inr (.inr (.inr (.inr (.inr (.inl ⟨rfl,ha,rfl,rfl,hy.1,by simp only; omega⟩))))))) h5 (by omega)
 ·exact .bind (pick_dr hb h1 h2 (by omega) (by omega) (by omega)) fun y p2 hy h3 h4=>.sel (fun _=>.pure (.inr (.inr (.inr (.inr (.inr (.inr (.inr (.inr ⟨.inl rfl,rfl,rfl,rfl,rfl⟩)))))))) h3 (by omega)) fun _=>.bind (reg_dr hb h3 h4 (by omega)) fun a p3 ha h5 h6=>.pure (.inr (.inr (.inr (.inr (.inr (.inr (.inr (.inl ⟨rfl,rfl,ha,rfl,rfl⟩)))))))) h5 (by omega)
theorem random_dr (hb : By b) (h0 : 0 ≤ p) (hm : p ≤ m) (hp : m ≤ 50000000) : Dr (f4a ⟨b,p⟩) (m + 200) fun c=>COk c ∧ c.length ≤ 14:=by
 unfold f4a
 refine .bind (pick_dr hb h0 hm (by omega) (by omega) (by omega)) fun x p1 hx h1 h2=>?_
 dsimp only
 obtain ⟨n,hn⟩ : ∃ n : Int,n = 1 + x:=⟨_,rfl⟩
 have hw : w64 (1 + x) = n:=by rw [w64_s (by omega) (by omega),hn]
 refine .tot (P:=fun r=>0 ≤ r.2 ∧ r.2 ≤ m + 1 + 140 ∧ (r.1.length : Int) + 1 = n ∧ ∀ q ∈ r.1,QOk n q) (.iter (fun s=>0 ≤ s.2.1 ∧ s.2.1 + 1 ≤ n ∧ 0 ≤ s.2.2 ∧ s.2.2 ≤ m + 1 + 10 * s.2.1 ∧ (s.1.length : Int) = s.2.1 ∧ ∀ q ∈ s.1,QOk n q) (fun s=>(n - s.2.1).toNat) ⟨by simp,by simp only; omega,h1,by simp only; omega,by simp,by simp⟩ fun s hs=>?_) fun r hr=>?_
 ·obtain ⟨out,i,q⟩:=s
  obtain ⟨g0,g1,g2,g3,g4,g5⟩:=hs
  simp only at g0 g1 g2 g3 g4 g5
  unfold f8n
  dsimp only
  rw [hw,w64_up g0 (by omega)]
  refine .sel (fun h=>?_) fun h=>.inr (show 0 ≤ q ∧ q ≤ m + 1 + 140 ∧ (out.length : Int) + 1 = n ∧ ∀ q ∈ out,QOk n q from ?_)
  ·simp only [decide_eq_true_eq] at h
   refine .bind (quad_dr hb (by omega) (by omega) g2 g3 (by omega)) fun y hy=>.bind (.app (l:=out) (by simp; omega)) fun r hr=>.inl ?_
   subst hr
   refine ⟨⟨by simp only; omega,by simp only; omega,hy.1,by have:=hy.2.1; simp only; omega,by simp; omega,fun z hz=>?_⟩,by simp only; omega⟩
   simp only [List.mem_append,List.mem_singleton] at hz
   rcases hz with hz | rfl
   ·exact g5 z hz
   ·exact hy.2.2
  ·simp only [decide_eq_false_iff_not] at h
   exact ⟨g2,by omega,by omega,g5⟩
 ·obtain ⟨out,q⟩:=r
  obtain ⟨k0,k1,k2,k3⟩:=hr
  simp only at k0 k1 k2 k3
  have fin : ∀ z : Quad,QOk n z → (z.Op = 10 ∨ z.Op = 4) → COk (out ++ [z]) ∧ (out ++ [z]).length ≤ 14:=fun z hz ho=>⟨⟨by simp,by simp; omega,fun y hy=>by
   have e : (((out ++ [z]).length : Nat) : Int) = n:=by simp; omega
   rw [e]
   simp only [List.mem_append,List.mem_singleton] at hy
   rcases hy with hy | rfl
   ·exact k3 y hy
   ·exact hz,⟨z,List.getLast?_concat,ho⟩⟩,by simp; omega⟩
  refine .bind (pick_dr hb k0 k1 (by omega) (by omega) (by omega)) fun y p2 hy h3 h4=>.sel (fun _=>?_) fun _=>?_
  ·dsimp only
   rw [hw]
   refine .bind (pick_dr hb h3 h4 (by omega) (by omega) (by omega)) fun z p3 hz h5 h6=>.tot (.app (by simp; omega)) fun r hr=>.pure ?_ h5 (by omega)
   subst hr
   exact fin _ (.inr (.inr (.inr (.inl ⟨rfl,rfl,rfl,rfl,hz.1,hz.2⟩)))) (.inr rfl)
  ·refine .tot (.app (by simp; omega)) fun r hr=>.pure ?_ h3 (by omega)
   subst hr
   exact fin _ (.inr (.inr (.inr (.inr (.inr (.inr (.inr (.inr ⟨.inr rfl,rfl,rfl,rfl,rfl⟩)))))))) (.inl rfl)
theorem good_dr (hb : By b) {k : Nat} (hk : 20 ≤ k) (h0 : 0 ≤ p) (hm : p ≤ m) (hp : m ≤ 900000) : Dr (f84 k ⟨b,p⟩) (m + 50000) fun c=>COk c ∧ c.length ≤ 40:=by
 unfold f84
 refine .bind (pick_dr hb h0 hm (by omega) (by omega) (by omega)) fun x p1 hx h1 h2=>.sel (fun _=>.bind (random_dr hb h1 h2 (by omega)) fun c p2 hc h3 h4=>.pure ⟨hc.1,by have:=hc.2; simp only; omega⟩ h3 (by omega)) fun _=>.bind (stmts_dr hb (by omega) hk h1 h2 (by omega)) fun l p2 hl h3 h4=>.tot (compile_tot hk hl) fun r hr=>.sel (fun _=>.bind (random_dr hb h3 h4 (by omega)) fun c p2 hc h3 h4=>.pure ⟨hc.1,by have:=hc.2; simp only; omega⟩ h3 (by omega)) fun hle=>.bind (pick_dr hb h3 h4 (by omega) (by omega) (by omega)) fun t p3 ht h5 h6=>?_
 simp only [decide_eq_false_iff_not] at hle
 have h01 : 0 ≤ Int.tdiv t 2 ∧ Int.tdiv t 2 ≤ 1:=by
  rcases (show t = 0 ∨ t = 1 ∨ t = 2 by omega) with rfl | rfl | rfl <;> decide
 dsimp only
 rw [w64_s (by omega) (by omega)]
 exact .tot (optimize_tot hr.2 h01.1 (by omega)) fun o ho=>.pure ⟨ho.1,by have:=ho.2.2; omega⟩ h5 (by omega)
end Go.Proofs.YtmpplggjpmmhlaaGreat.N
namespace Go.Proofs.YtmpplggjpmmhlaaGreat.N
open Go.Proofs.YtmpplggjpmmhlaaGreat.X
theorem iword_eq (n : Int) : f10 n = some (decide (Wd n)):=by
 unfold f10
 congr 1
 unfold Wd
 by_cases h1 : -2147483648 ≤ n <;> by_cases h2 : n ≤ 2147483647 <;> simp [h1,h2]
theorem pow_eq {n : Nat} (h : n ≤ 32) : f14 (n : Int) = some ((2 ^ n : Nat) : Int):=by
 refine Tot.eq ?_
 unfold f14
 refine .bind (P:=fun r=>r = ((2 ^ n : Nat) : Int)) (.iter (fun s=>0 ≤ s.2 ∧ s.2 ≤ (n : Int) ∧ s.1 = ((2 ^ s.2.toNat : Nat) : Int)) (fun s=>((n : Int) - s.2).toNat) ⟨by simp,by simp,rfl⟩ fun s hs=>?_) fun r hr=>.pure hr
 obtain ⟨c,i⟩:=s
 obtain ⟨g0,g1,g2⟩:=hs
 simp only at g0 g1 g2
 unfold f3k
 refine .sel (fun h=>.inl ?_) fun h=>.inr (show c = _ from ?_)
 ·simp only [decide_eq_true_eq] at h
  have hp : 2 ^ i.toNat ≤ 2 ^ 32:=Nat.pow_le_pow_right (by omega) (by omega)
  have h32 : (2 : Nat) ^ 32 = 4294967296:=by decide
  have e : 2 ^ (i + 1).toNat = 2 ^ i.toNat * 2:=by rw [show (i + 1).toNat = i.toNat + 1 by omega,Nat.pow_succ]
  dsimp only
  rw [w64_up g0 (by omega),w64_s (by omega) (by omega)]
  exact ⟨⟨by omega,by omega,by rw [e,g2]; omega⟩,by omega⟩
 ·simp only [decide_eq_false_iff_not] at h
  rw [g2,show i = (n : Int) by omega]; rfl
theorem sbits_eq {u : Int} (h0 : 0 ≤ u) (h1 : u ≤ 4294967295) {lo n : Nat} (hn : 1 ≤ n) (h : lo + n ≤ 32) : f08 u lo n = some (u / ((2 ^ lo : Nat) : Int) % ((2 ^ n : Nat) : Int)):=by
 unfold f08
 have e1 : (decide ((0 : Int) ≤ (lo : Int)) && decide ((lo : Int) ≤ 31)) = true:=by simp; omega
 have e2 : (decide ((0 : Int) ≤ u) && decide (u ≤ 4294967295)) = true:=by simp; omega
 rw [in_eq,e2,Option.bind_some,Bool.not_true,sel_false rfl,in_eq,e1]
 simp only [Option.bind_some,Bool.not_true]
 rw [sel_false rfl,w64_s (by omega) (by omega),in_eq]
 have e3 : (decide ((1 : Int) ≤ (n : Int)) && decide ((n : Int) ≤ 32 - (lo : Int))) = true:=by simp; omega
 rw [e3]
 simp only [Option.bind_some,Bool.not_true]
 rw [sel_false rfl,pow_eq (by omega),Option.bind_some]
 have p1 : 0 < 2 ^ lo:=Nat.two_pow_pos lo
 have p2 : 0 < 2 ^ n:=Nat.two_pow_pos n
 obtain ⟨k,rfl⟩:=Int.eq_ofNat_of_zero_le h0
 have hk : k / 2 ^ lo ≤ k:=Nat.div_le_self _ _
 have hq : quoO .i64 (k : Int) ((2 ^ lo : Nat) : Int) = some ((k / 2 ^ lo : Nat) : Int):=by
  unfold quoO
  rw [if_neg (by omega)]
  congr 1
  have hx : ∀ x : Nat,x ≤ k → w64 (x : Int) = x:=fun x hx=>w64_s (by omega) (by omega)
  exact hx _ hk
 rw [hq,Option.bind_some,pow_eq (by omega),Option.bind_some]
 unfold remO
 rw [if_neg (by omega)]
 simp only [Option.bind_some]
 rfl
theorem ibits_eq {u : Int} (h0 : 0 ≤ u) (h1 : u ≤ 4294967295) {lo n : Nat} (hn : 1 ≤ n) (h : lo + n ≤ 32) : f0n u lo n = some (u / ((2 ^ lo : Nat) : Int) % ((2 ^ n : Nat) : Int)):=by
 unfold f0n f51
 rw [Option.bind_some,w64_s (by omega) (by omega),sel_false (by simp; omega)]
 obtain ⟨k,rfl⟩:=Int.eq_ofNat_of_zero_le h0
 have p1 : (2 : Nat) ^ n ≤ 2 ^ 32:=Nat.pow_le_pow_right (by omega) (by omega)
 have h32 : (2 : Nat) ^ 32 = 4294967296:=by decide
 have p2 : 0 < 2 ^ n:=Nat.two_pow_pos n
 have hk : k / 2 ^ lo ≤ k:=Nat.div_le_self _ _
 rw [shr_nat (by omega),Option.bind_some]
 have hs:=shl_nat (x:=1) (k:=n) (by omega) (by omega)
 rw [Nat.one_mul] at hs
 rw [show ((1 : Nat) : Int) = 1 from rfl] at hs
 rw [hs,Option.bind_some,w64_s (by omega) (by omega),mask_nat (by omega) (by omega)]
 rfl
theorem unsigned_eq {n : Int} (h : Wd n) : f1m n = some (n % 4294967296) ∧ f1k n = some (n % 4294967296):=by
 unfold f1m f1k
 rw [word_eq,iword_eq,decide_eq_true h]
 simp only [Option.bind_some,Bool.not_true]
 rw [sel_false rfl,sel_false rfl]
 have hu : kwrap .u32 n = n % 4294967296:=by
  rw [kwrap_eq]
  simp [IntKind.wrap,IntKind.signed,IntKind.bits]
 unfold Wd at h
 rw [hu,w64_s (i:=n % 4294967296) (by omega) (by omega)]
 refine ⟨?_,rfl⟩
 refine Tot.eq (.sel (fun h'=>.pure ?_) fun h'=>.pure ?_)
 ·simp only [decide_eq_true_eq] at h'
  rw [w64_s (by omega) (by omega)]; omega
 ·simp only [decide_eq_false_iff_not] at h'
  omega
theorem swrap_eq {n : Int} : f0m n = some (if 2147483648 ≤ n % 4294967296 then n % 4294967296 - 4294967296 else n % 4294967296):=by
 refine Tot.eq ?_
 unfold f0m
 have hm : n.tmod 4294967296 = if 0 ≤ n ∨ n % 4294967296 = 0 then n % 4294967296 else n % 4294967296 - 4294967296:=by
  rw [Int.tmod_eq_emod]
  simp only [Int.dvd_iff_emod_eq_zero]
  split <;> simp
 rw [hm]
 refine .sel (fun h=>.pure ?_) fun h=>.sel (fun h'=>.pure ?_) fun h'=>.pure ?_
 all_goals simp only [decide_eq_true_eq,decide_eq_false_iff_not] at *
 ·rw [w64_s (by split <;> omega) (by split <;> omega)]; split <;> split <;> split at h <;> omega
 ·rw [w64_s (by split <;> omega) (by split <;> omega)]; split <;> split <;> split at h' <;> omega
 ·split <;> split <;> omega
theorem sext_eq {x : Int} (h0 : 0 ≤ x) (h1 : x < 4096) : f1a x 12 = some (if 2048 ≤ x then x - 4096 else x) ∧ f22 x 12 = some (if 2048 ≤ x then x - 4096 else x):=by
 have e12 : f14 12 = some 4096:=pow_eq (n:=12) (by omega)
 have e11 : f14 11 = some 2048:=pow_eq (n:=11) (by omega)
 have s12 : shO .shl .i64 1 12 = some 4096:=by decide
 have s11 : shO .shl .i64 1 11 = some 2048:=by decide
 have w12 : w64 (12 - 1) = 11:=by decide
 have w13 : w64 (4096 - 1) = 4095:=by decide
 constructor
 ·unfold f1a
  simp only [in_eq,e12,w12,e11,Option.bind_some,w13]
  rw [sel_false (b:=!_) (by decide)]
  simp only [Option.bind_some]
  rw [sel_false (by simp; omega)]
  refine Tot.eq (.sel (fun h=>.pure ?_) fun h=>.pure ?_)
  ·simp at h; rw [if_pos h,w64_s (by omega) (by omega)]
  ·simp at h; rw [if_neg (by omega)]
 ·unfold f22
  simp only [s12,w12,s11,Option.bind_some]
  rw [sel_false (b:=_ || _) (by simp; omega)]
  simp only [Option.bind_some]
  rw [sel_false (by simp; omega)]
  refine Tot.eq (.sel (fun h=>.pure ?_) fun h=>.pure ?_)
  ·simp at h; rw [if_pos h,w64_s (by omega) (by omega)]
  ·simp at h; rw [if_neg (by omega)]
def lo12 (n : Int) : Int:=if 2048 ≤ n % 4096 then n % 4096 - 4096 else n % 4096
def hi20 (n : Int) : Int:=(n - lo12 n) % 4294967296 / 4096
def constL (rd n : Int) : List Instr:=if -2048 ≤ n ∧ n ≤ 2047 then [⟨12,rd,0,0,n⟩] else [⟨19,rd,0,0,hi20 n⟩,⟨12,rd,rd,0,lo12 n⟩]
theorem const_eq {rd n : Int} (h : Wd n) : f6t rd n = some (constL rd n):=by
 have hu:=unsigned_eq h
 have hb1 : ∀ {u : Int},0 ≤ u → u ≤ 4294967295 → f08 u 0 12 = some (u % 4096) ∧ f0n u 0 12 = some (u % 4096):=fun h0 h1=>by
  have a:=sbits_eq h0 h1 (lo:=0) (n:=12) (by omega) (by omega)
  have b:=ibits_eq h0 h1 (lo:=0) (n:=12) (by omega) (by omega)
  simp at a b
  exact ⟨a,b⟩
 have hb2 : ∀ {u : Int},0 ≤ u → u ≤ 4294967295 → f08 u 12 20 = some (u / 4096 % 1048576) ∧ f0n u 12 20 = some (u / 4096 % 1048576):=fun h0 h1=>by
  have a:=sbits_eq h0 h1 (lo:=12) (n:=20) (by omega) (by omega)
  have b:=ibits_eq h0 h1 (lo:=12) (n:=20) (by omega) (by omega)
  simp at a b
  exact ⟨a,b⟩
 have hw:=h
 unfold Wd at hw
 have e0 : n % 4294967296 % 4096 = n % 4096:=by omega
 have hl : -2048 ≤ lo12 n ∧ lo12 n ≤ 2047:=by unfold lo12; split <;> omega
 have hwd : ∀ m : Int,Wd (if 2147483648 ≤ m % 4294967296 then m % 4294967296 - 4294967296 else m % 4294967296):=fun m=>by unfold Wd; split <;> omega
 have e1 : ∀ m : Int,(if 2147483648 ≤ m % 4294967296 then m % 4294967296 - 4294967296 else m % 4294967296) % 4294967296 = m % 4294967296:=fun m=>by split <;> omega
 have e2 : (n - lo12 n) % 4294967296 / 4096 % 1048576 = hi20 n:=by unfold hi20; omega
 ·unfold f6t constL
  rw [in_eq,Option.bind_some]
  refine Tot.eq (.sel (fun h=>.pure ?_) fun h=>?_)
  ·simp at h; rw [if_pos h]
  ·rw [if_neg (by simp at h; omega),hu.1,Option.bind_some,(hb1 (by omega) (by omega)).1,Option.bind_some,(sext_eq (by omega) (by omega)).1,Option.bind_some,e0]
   rw [show (if 2048 ≤ n % 4096 then n % 4096 - 4096 else n % 4096) = lo12 n from rfl,w64_s (by omega) (by omega),swrap_eq,Option.bind_some,(unsigned_eq (hwd _)).1,Option.bind_some,e1,(hb2 (by omega) (by omega)).1,Option.bind_some,e2]
   refine .bind (.app (by simp)) fun r hr=>.pure ?_
   subst hr; rfl
end Go.Proofs.YtmpplggjpmmhlaaGreat.N
namespace Go.Proofs.YtmpplggjpmmhlaaGreat.N
open Go.Proofs.YtmpplggjpmmhlaaGreat.X
def binInstrs : List Int:=[7,8,6,8,11,9,10,1,2,3,4,5]
def colorRegs : List Int:=[8,9,18,19,20,21,22,23]
def rgOf (c p s : Int) : Int:=if p < c then (colorRegs[p.toNat]?).getD 0 else s
def rdL (c p s : Int) : List Instr:=if p < c then [] else [⟨14,s,2,0,4 * (p - c)⟩]
def wrL (c p : Int) : List Instr:=if p < c then [] else [⟨16,0,2,7,4 * (p - c)⟩]
def callL (n : Int) : List Instr:=[⟨12,17,0,0,n⟩,⟨15,1,0,0,0⟩]
def opOf (n : Int) : Int:=(binInstrs[(n - 1).toNat]?).getD 0
def quadL (q : Quad) (c off : Int) : List Instr:=
 if q.Op = 1 then constL (rgOf c q.Dst 7) q.N ++ wrL c q.Dst
 else if q.Op = 2 then rdL c q.A 5 ++ [⟨12,rgOf c q.Dst 7,rgOf c q.A 5,0,0⟩] ++ wrL c q.Dst
 else if q.Op = 3 then rdL c q.A 5 ++ rdL c q.B 6 ++ [⟨opOf q.N,rgOf c q.Dst 7,rgOf c q.A 5,rgOf c q.B 6,0⟩] ++ (if q.N = 4 then [⟨13,rgOf c q.Dst 7,rgOf c q.Dst 7,0,1⟩] else []) ++ wrL c q.Dst
 else if q.Op = 4 then [⟨20,0,0,0,off⟩]
 else if q.Op = 5 then rdL c q.A 5 ++ [⟨18,0,rgOf c q.A 5,0,8⟩] ++ [⟨20,0,0,0,off - 4 * ((rdL c q.A 5).length + 1)⟩]
 else if q.Op = 6 then rdL c q.A 5 ++ [⟨12,10,rgOf c q.A 5,0,0⟩,⟨12,11,0,0,q.N⟩] ++ callL 1
 else if q.Op = 7 then [⟨12,11,0,0,q.N⟩] ++ callL 2 ++ [⟨12,rgOf c q.Dst 7,10,0,0⟩] ++ wrL c q.Dst
 else if q.Op = 8 then callL 3
 else if q.Op = 9 then rdL c q.A 5 ++ [⟨12,10,rgOf c q.A 5,0,0⟩] ++ callL 4
 else callL 5
theorem rd_len (c p s : Int) : (rdL c p s).length ≤ 1:=by unfold rdL; split <;> simp
theorem wr_len (c p : Int) : (wrL c p).length ≤ 1:=by unfold wrL; split <;> simp
theorem const_len (r n : Int) : 1 ≤ (constL r n).length ∧ (constL r n).length ≤ 2:=by unfold constL; split <;> simp
theorem sreg_eq {c p s : Int} (hc : 1 ≤ c ∧ c ≤ 8) (hp : Rg p) : f28 p c s = some (rgOf c p s):=by
 refine Tot.eq ?_
 unfold f28 rgOf Rg at *
 refine .sel (fun h=>.pure (by simp at h; rw [if_neg (by omega)])) fun h=>?_
 simp at h
 refine .bind (.nth (by omega) (by simp; omega)) fun x ⟨hx,_⟩=>.pure ?_
 rw [if_pos h]
 show x = ((colorRegs[p.toNat]?).getD 0)
 unfold colorRegs
 rw [hx]; rfl
theorem sread_eq {c p s : Int} (hc : 1 ≤ c ∧ c ≤ 8) (hp : Rg p) : f2q p c s = some (rdL c p s):=by
 refine Tot.eq ?_
 unfold f2q rdL Rg at *
 refine .sel (fun h=>.pure (by simp at h; rw [if_pos h])) fun h=>.pure ?_
 simp at h
 rw [if_neg (by omega),w64_s (i:=p - c) (by omega) (by omega),w64_s (by omega) (by omega)]
theorem swrite_eq {c p : Int} (hc : 1 ≤ c ∧ c ≤ 8) (hp : Rg p) {l : List Instr} (hl : l.length ≤ 1000) : f2x l p c = some (l ++ wrL c p):=by
 refine Tot.eq ?_
 unfold f2x wrL Rg at *
 refine .sel (fun h=>.pure (by simp at h; rw [if_pos h,List.append_nil])) fun h=>?_
 simp at h
 rw [if_neg (by omega),w64_s (i:=p - c) (by omega) (by omega),w64_s (by omega) (by omega)]
 exact .bind (.app (by simp; omega)) fun r hr=>.pure hr
theorem scall_eq {n : Int} {l : List Instr} (hl : l.length ≤ 1000) : f2m l n = some (l ++ callL n):=by
 refine Tot.eq ?_
 unfold f2m
 refine .bind (.app (by simp; omega)) fun r hr=>.bind (.app (by subst hr; simp; omega)) fun r2 hr2=>.pure ?_
 subst hr hr2; simp [callL]
theorem opnth {n : Int} (h : 1 ≤ n ∧ n ≤ 12) : nth binInstrs (w64 (n - 1)) = some (opOf n):=by
 rw [w64_s (by omega) (by omega)]
 refine (Tot.nth (l:=binInstrs) (i:=n - 1) (by omega) (by simp [binInstrs]; omega)).mono (Q:=fun x=>x = opOf n) (fun x ⟨hx,_⟩=>?_) |>.eq
 unfold opOf; rw [hx]; rfl
theorem sop_eq {n : Int} (h : 1 ≤ n ∧ n ≤ 12) : f9y n = some (opOf n):=by
 unfold f9y
 have:=opnth h
 unfold binInstrs at this
 rw [this]; rfl
theorem sgive_eq {c p : Int} (hc : 1 ≤ c ∧ c ≤ 8) (hp : Rg p) : f5l p c = some (rdL c p 5 ++ [⟨12,10,rgOf c p 5,0,0⟩]):=by
 refine Tot.eq ?_
 unfold f5l f3f
 rw [sread_eq hc hp,sreg_eq hc hp]
 simp only [Option.bind_some]
 have:=rd_len c p 5
 exact .bind (.app (by simp; omega)) fun r hr=>.pure hr
theorem squad_eq {q : Quad} {m c off : Int} (hq : QOk m q) (hc : 1 ≤ c ∧ c ≤ 8) (ho : -1000000 ≤ off ∧ off ≤ 1000000) : f5s q c off = some (quadL q c off):=by
 have hd : Rg q.Dst:=by unfold QOk at hq; unfold Rg at *; omega
 have l1:=rd_len c q.A 5
 have l2:=rd_len c q.B 6
 refine Tot.eq ?_
 unfold f5s quadL
 rw [sreg_eq hc hd,Option.bind_some]
 refine .sel (fun h=>?_) fun h1=>.sel (fun h=>?_) fun h2=>.sel (fun h=>?_) fun h3=>.sel (fun h=>?_) fun h4=>.sel (fun h=>?_) fun h5=>.sel (fun h=>?_) fun h6=>.sel (fun h=>?_) fun h7=>.sel (fun h=>?_) fun h8=>.sel (fun h=>?_) fun h9=>?_
 all_goals
  simp only [beq_iff_eq,beq_eq_false_iff_ne,ne_eq] at *
  unfold QOk at hq
 ·simp [h] at hq
  have:=const_len (rgOf c q.Dst 7) q.N
  rw [if_pos h,const_eq hq.2.2.2,Option.bind_some,swrite_eq hc hd (by omega)]; exact .pure rfl
 ·simp [h] at hq
  rw [if_neg h1,if_pos h,sread_eq hc hq.2.1,sreg_eq hc hq.2.1]
  simp only [Option.bind_some,f3f]
  refine .bind (.app (by simp; omega)) fun r hr=>?_
  rw [swrite_eq hc hd (by subst hr; simp; omega),hr]; exact .pure rfl
 ·simp [h] at hq
  rw [if_neg h1,if_neg h2,if_pos h]
  refine .bind (P:=fun r=>r = _) ?_ fun r hr=>.pure hr
  unfold fai
  rw [sread_eq hc hq.2.1,sread_eq hc hq.2.2.1,sreg_eq hc hq.2.1,sreg_eq hc hq.2.2.1,sreg_eq hc hd,sop_eq hq.2.2.2]
  simp only [Option.bind_some]
  refine .bind (.app (by omega)) fun r hr=>.bind (.app (by subst hr; simp; omega)) fun r2 hr2=>?_
  have e2 : r2.length ≤ 3:=by subst hr hr2; simp; omega
  refine .bind (P:=fun y=>y = r2 ++ (if q.N = 4 then [⟨13,rgOf c q.Dst 7,rgOf c q.Dst 7,0,1⟩] else []) ∧ y.length ≤ 4) (.sel (fun h=>.bind (.app (by simp; omega)) fun r3 hr3=>.pure ?_) fun h=>.pure ?_) fun y ⟨hy,hyl⟩=>?_
  ·simp at h; rw [if_pos h,hr3]; exact ⟨rfl,by simp; omega⟩
  ·simp at h; rw [if_neg h,List.append_nil]; exact ⟨rfl,by omega⟩
  ·rw [swrite_eq hc hd (by omega),hy,hr2,hr]
   exact .pure (by simp)
 ·rw [if_neg h1,if_neg h2,if_neg h3,if_pos h]; exact .pure rfl
 ·simp [h] at hq
  rw [if_neg h1,if_neg h2,if_neg h3,if_neg h4,if_pos h]
  refine .bind (P:=fun r=>r = _) ?_ fun r hr=>.pure hr
  unfold fa2
  rw [sread_eq hc hq.2.1,sreg_eq hc hq.2.1]
  simp only [Option.bind_some]
  refine .bind (.app (by simp; omega)) fun r hr=>?_
  have e1 : r.length = (rdL c q.A 5).length + 1:=by subst hr; simp
  rw [w64_s (i:=4 * (r.length : Int)) (by omega) (by omega),w64_s (by omega) (by omega)]
  refine .bind (.app (by simp; omega)) fun r2 hr2=>.pure ?_
  rw [hr2,e1,hr]; simp
 ·simp [h] at hq
  rw [if_neg h1,if_neg h2,if_neg h3,if_neg h4,if_neg h5,if_pos h,sgive_eq hc hq.2.1]
  simp only [Option.bind_some,f74]
  refine .bind (.app (by simp; omega)) fun r hr=>?_
  rw [scall_eq (by subst hr; simp; omega),hr]; exact .pure (by simp)
 ·simp [h] at hq
  rw [if_neg h1,if_neg h2,if_neg h3,if_neg h4,if_neg h5,if_neg h6,if_pos h]
  simp only [Option.bind_some,f74,f3f]
  rw [scall_eq (by simp),Option.bind_some]
  refine .bind (.app (by simp [callL])) fun r hr=>?_
  rw [swrite_eq hc hd (by subst hr; simp [callL]),hr]; exact .pure (by simp)
 ·rw [if_neg h1,if_neg h2,if_neg h3,if_neg h4,if_neg h5,if_neg h6,if_neg h7,if_pos h,scall_eq (by simp)]; exact .pure (by simp)
 ·simp [h] at hq
  rw [if_neg h1,if_neg h2,if_neg h3,if_neg h4,if_neg h5,if_neg h6,if_neg h7,if_neg h8,if_pos h,sgive_eq hc hq.2.1,Option.bind_some,scall_eq (by simp; omega)]; exact .pure (by simp)
 ·rw [if_neg h1,if_neg h2,if_neg h3,if_neg h4,if_neg h5,if_neg h6,if_neg h7,if_neg h8,if_neg h9,scall_eq (by simp)]; exact .pure (by simp)
theorem quadL_len (q : Quad) (c off : Int) : 1 ≤ (quadL q c off).length ∧ (quadL q c off).length ≤ 6 ∧ (quadL q c off).length = (quadL q c 0).length:=by
 have l1:=rd_len c q.A 5
 have l2:=rd_len c q.B 6
 have l3:=wr_len c q.Dst
 have l4:=const_len (rgOf c q.Dst 7) q.N
 unfold quadL callL
 split
 ·simp; omega
 split
 ·simp; omega
 split
 ·split <;> simp <;> omega
 split
 ·simp
 split
 ·simp; omega
 split
 ·simp; omega
 split
 ·simp; omega
 split
 ·simp
 split
 ·simp; omega
 ·simp
end Go.Proofs.YtmpplggjpmmhlaaGreat.N
namespace Go.Proofs.YtmpplggjpmmhlaaGreat.N
open Go.Proofs.YtmpplggjpmmhlaaGreat.X
def qAt (code : List Quad) (i : Nat) : Quad:=(code[i]?).getD ⟨0,0,0,0,0⟩
theorem qAt_of {code : List Quad} {i : Nat} {q : Quad} (h : code[i]? = some q) : qAt code i = q:=by unfold qAt; rw [h]; rfl
def pl (code : List Quad) (c : Int) : Nat → Nat
 | 0=>0
 | i + 1=>pl code c i + (quadL (qAt code i) c 0).length
def offL (code : List Quad) (c : Int) (i : Nat) : Int:=if (qAt code i).Op = 4 ∨ (qAt code i).Op = 5 then 4 * ((pl code c (qAt code i).N.toNat : Int) - pl code c i) else 0
def blk (code : List Quad) (c : Int) (i : Nat) : List Instr:=quadL (qAt code i) c (offL code c i)
def tk (code : List Quad) (c : Int) : Nat → List Instr
 | 0=>[]
 | i + 1=>tk code c i ++ blk code c i
def plL (code : List Quad) (c : Int) (n : Nat) : List Int:=(List.range n).map fun i=>(pl code c i : Int)
theorem pl_le (code : List Quad) (c : Int) : ∀ i,pl code c i ≤ 6 * i
 | 0=>Nat.le_refl _
 | i + 1=>by have:=pl_le code c i; have:=(quadL_len (qAt code i) c 0).2.1; simp only [pl]; omega
theorem tk_len (code : List Quad) (c : Int) : ∀ i,(tk code c i).length = pl code c i
 | 0=>rfl
 | i + 1=>by simp only [tk,pl,List.length_append,tk_len code c i,blk,(quadL_len (qAt code i) c (offL code c i)).2.2]
theorem plL_get {code : List Quad} {c : Int} {n i : Nat} (h : i < n) : (plL code c n)[i]? = some (pl code c i : Int):=by simp [plL,h]
theorem plL_len (code : List Quad) (c : Int) (n : Nat) : (plL code c n).length = n:=by simp [plL]
theorem plL_nth {code : List Quad} {c : Int} {n : Nat} {i : Int} (h0 : 0 ≤ i) (h : i < n) : nth (plL code c n) i = some (pl code c i.toNat : Int):=by
 refine (Tot.nth (l:=plL code c n) h0 (by rw [plL_len]; exact h)).mono (Q:=fun x=>x = (pl code c i.toNat : Int)) (fun x ⟨hx,_⟩=>?_) |>.eq
 rw [plL_get (by omega)] at hx
 injection hx with hx
 exact hx.symm
theorem plL_succ (code : List Quad) (c : Int) (n : Nat) : plL code c (n + 1) = plL code c n ++ [(pl code c n : Int)]:=by simp [plL,List.range_succ]
theorem COk.at {code : List Quad} (hc : COk code) {i : Int} (h0 : 0 ≤ i) (h1 : i < code.length) : ∃ q,nth code i = some q ∧ qAt code i.toNat = q ∧ QOk code.length q:=by
 obtain ⟨q,e,h2,h3⟩:=Tot.nth (l:=code) h0 h1
 exact ⟨q,e,qAt_of h2,hc.q q h3⟩
theorem splaces_eq {code : List Quad} (hc : COk code) {c : Int} (h : 1 ≤ c ∧ c ≤ 8) : f5i code c = some (plL code c code.length):=by
 have hmx:=hc.max
 refine Tot.eq ?_
 unfold f5i
 refine .bind (P:=fun r=>r = plL code c code.length) (.iter (fun s=>0 ≤ s.2.2 ∧ s.2.2 ≤ (code.length : Int) ∧ s.1 = plL code c s.2.2.toNat ∧ s.2.1 = (pl code c s.2.2.toNat : Int)) (fun s=>((code.length : Int) - s.2.2).toNat) ⟨by simp,by simp,rfl,rfl⟩ fun s hs=>?_) fun r hr=>.pure hr
 obtain ⟨out,a,i⟩:=s
 obtain ⟨g0,g1,g2,g3⟩:=hs
 simp only at g0 g1 g2 g3
 unfold f8r
 refine .sel (fun hlt=>?_) fun hge=>.inr (show out = _ from ?_)
 ·simp only [decide_eq_true_eq] at hlt
  obtain ⟨q,e1,e2,hq⟩:=hc.at g0 hlt
  have hl:=plL_len code c i.toNat
  have h6:=pl_le code c i.toNat
  have hql:=(quadL_len q c 0).2.1
  refine .bind (.app (by subst g2; simp; omega)) fun r hr=>?_
  dsimp only
  rw [e1,Option.bind_some,squad_eq hq h (by omega),Option.bind_some,w64_up g0 (by omega),w64_s (by omega) (by omega)]
  have e3 : (i + 1).toNat = i.toNat + 1:=by omega
  refine .inl ⟨⟨by simp only; omega,by simp only; omega,?_,?_⟩,by simp only; omega⟩
  ·simp only; rw [e3,plL_succ,hr,g2,g3]
  ·simp only; rw [e3,pl,e2,g3]; simp
 ·simp only [decide_eq_false_iff_not] at hge
  rw [g2,show i.toNat = code.length by omega]
theorem off_small {code : List Quad} (hc : COk code) {c : Int} {i : Nat} (hi : i < code.length) : -1000000 ≤ offL code c i ∧ offL code c i ≤ 1000000:=by
 have hmx:=hc.max
 have hq:=hc.q _ (List.mem_of_getElem? (List.getElem?_eq_getElem hi))
 have e : qAt code i = code[i]:=qAt_of (List.getElem?_eq_getElem hi)
 unfold offL
 rw [e]
 split
 ·rename_i h
  have hN : 0 ≤ (code[i]).N ∧ (code[i]).N < code.length:=by unfold QOk at hq; rcases h with h | h <;> simp [h] at hq <;> omega
  have h1:=pl_le code c (code[i]).N.toNat
  have h2:=pl_le code c i
  omega
 ·omega
theorem stask_eq {code : List Quad} (hc : COk code) {c : Int} (h : 1 ≤ c ∧ c ≤ 8) : f7v code c = some (tk code c code.length):=by
 have hmx:=hc.max
 refine Tot.eq ?_
 unfold f7v
 rw [splaces_eq hc h,Option.bind_some]
 refine .bind (P:=fun r=>r = tk code c code.length) (.iter (fun s=>0 ≤ s.2 ∧ s.2 ≤ (code.length : Int) ∧ s.1 = tk code c s.2.toNat) (fun s=>((code.length : Int) - s.2).toNat) ⟨by simp,by simp,rfl⟩ fun s hs=>?_) fun r hr=>.pure hr
 obtain ⟨out,i⟩:=s
 obtain ⟨g0,g1,g2⟩:=hs
 simp only at g0 g1 g2
 unfold f9u
 refine .sel (fun hlt=>?_) fun hge=>.inr (show out = _ from ?_)
 ·simp only [decide_eq_true_eq] at hlt
  obtain ⟨q,e1,e2,hq⟩:=hc.at g0 hlt
  have h6:=pl_le code c i.toNat
  have hql:=(quadL_len q c (offL code c i.toNat)).2.1
  have hof:=off_small hc (c:=c) (i:=i.toNat) (by omega)
  dsimp only
  rw [e1]
  simp only [Option.bind_some]
  refine .bind (P:=fun y=>y = offL code c i.toNat) (.bind (P:=fun b=>b = true ↔ (q.Op = 4 ∨ q.Op = 5)) (.sel (fun h=>.pure ?_) fun h=>.pure ?_) fun b hb=>.sel (fun h=>?_) fun h=>.pure ?_) fun y hy=>?_
  ·simp at h; simp [h]
  ·simp at h; simp [h]
  ·have ho:=hb.1 h
   have hN : 0 ≤ q.N ∧ q.N < code.length:=by unfold QOk at hq; rcases ho with h | h <;> simp [h] at hq <;> omega
   have h7:=pl_le code c q.N.toNat
   rw [plL_nth hN.1 hN.2,plL_nth g0 hlt,Option.bind_some,Option.bind_some,w64_s (i:=_ - _) (by omega) (by omega),w64_s (by omega) (by omega)]
   unfold offL
   rw [e2,if_pos ho]; exact .pure rfl
  ·unfold offL; rw [e2,if_neg (fun hh=>by rw [hb.2 hh] at h; cases h)]
  ·subst hy
   rw [squad_eq hq h hof,Option.bind_some]
   refine .bind (.app (by subst g2; rw [tk_len]; omega)) fun r hr=>.inl ?_
   rw [w64_up g0 (by omega)]
   refine ⟨⟨by simp only; omega,by simp only; omega,?_⟩,by simp only; omega⟩
   simp only
   rw [show (i + 1).toNat = i.toNat + 1 by omega,tk,hr,g2,blk,e2]
 ·simp only [decide_eq_false_iff_not] at hge
  rw [g2,show i.toNat = code.length by omega]
theorem bytes_wf {l : List Int} (h : ∀ x ∈ l,(fun n=>(Lit.int .u8 n).wf = true) x) : ∀ x ∈ l,0 ≤ x ∧ x ≤ 255:=fun x hx=>by
 have h1 : (Lit.int .u8 x).wf = true:=h x hx
 simp [Lit.wf,IntKind.min,IntKind.max,IntKind.signed,IntKind.bits] at h1
 omega
end Go.Proofs.YtmpplggjpmmhlaaGreat.N
namespace Go.Proofs.YtmpplggjpmmhlaaGreat.N
open Go.Proofs.YtmpplggjpmmhlaaGreat.X
theorem rgOf_bd {c p s : Int} (hc : 1 ≤ c ∧ c ≤ 8) (hp : Rg p) (hs : 0 ≤ s ∧ s ≤ 31) : 0 ≤ rgOf c p s ∧ rgOf c p s ≤ 31:=by
 unfold rgOf
 split
 ·rename_i h
  unfold Rg at hp
  rcases (by omega : p = 0 ∨ p = 1 ∨ p = 2 ∨ p = 3 ∨ p = 4 ∨ p = 5 ∨ p = 6 ∨ p = 7) with rfl | rfl | rfl | rfl | rfl | rfl | rfl | rfl <;> decide
 ·exact hs
theorem opOf_bd {n : Int} (h : 1 ≤ n ∧ n ≤ 12) : 1 ≤ opOf n ∧ opOf n ≤ 11:=by
 rcases (by omega : n = 1 ∨ n = 2 ∨ n = 3 ∨ n = 4 ∨ n = 5 ∨ n = 6 ∨ n = 7 ∨ n = 8 ∨ n = 9 ∨ n = 10 ∨ n = 11 ∨ n = 12) with rfl | rfl | rfl | rfl | rfl | rfl | rfl | rfl | rfl | rfl | rfl | rfl <;> decide
def All (l : List Instr) : Prop:=∀ x ∈ l,IOk x
theorem All.nil : All []:=fun x h=>by cases h
theorem All.cons {x : Instr} {l : List Instr} (h : IOk x) (k : All l) : All (x :: l):=fun y hy=>by
 rcases List.mem_cons.1 hy with rfl | hy
 ·exact h
 ·exact k y hy
theorem All.app {l l' : List Instr} (h : All l) (k : All l') : All (l ++ l'):=fun y hy=>(List.mem_append.1 hy).elim (h y) (k y)
theorem q0 : (0 : Int) ≤ 0 ∧ (0 : Int) ≤ 31:=by decide
theorem q2 : (0 : Int) ≤ 2 ∧ (2 : Int) ≤ 31:=by decide
theorem q7 : (0 : Int) ≤ 7 ∧ (7 : Int) ≤ 31:=by decide
theorem io_addi {d s i : Int} (hd : 0 ≤ d ∧ d ≤ 31) (hs : 0 ≤ s ∧ s ≤ 31) (hi : -2048 ≤ i ∧ i ≤ 2047) {op : Int} (ho : 12 ≤ op ∧ op ≤ 15) : IOk ⟨op,d,s,0,i⟩:=⟨hd,hs,q0,.inr (.inl ⟨ho.1,ho.2,rfl,hi.1,hi.2⟩)⟩
theorem rdL_iok {c p s : Int} (hc : 1 ≤ c ∧ c ≤ 8) (hp : Rg p) (hs : 0 ≤ s ∧ s ≤ 31) : All (rdL c p s):=by
 unfold rdL Rg at *
 split
 ·exact .nil
 ·exact .cons (io_addi hs (by omega) (by omega) (by omega)) .nil
theorem wrL_iok {c p : Int} (hc : 1 ≤ c ∧ c ≤ 8) (hp : Rg p) : All (wrL c p):=by
 unfold wrL Rg at *
 split
 ·exact .nil
 ·exact .cons ⟨q0,q2,q7,.inr (.inr (.inl ⟨rfl,rfl,by show -2048 ≤ 4 * (p - c); omega,by show 4 * (p - c) ≤ 2047; omega⟩))⟩ .nil
theorem callL_iok {n : Int} (h : 0 ≤ n ∧ n ≤ 5) : All (callL n):=.cons (io_addi (by omega) (by omega) (by omega) (by omega)) (.cons (io_addi (by omega) (by omega) (by omega) (by omega)) .nil)
theorem constL_iok {d n : Int} (hd : 0 ≤ d ∧ d ≤ 31) (hn : Wd n) : All (constL d n):=by
 unfold constL
 split
 ·exact .cons (io_addi hd (by omega) (by omega) (by omega)) .nil
 ·refine .cons ?_ (.cons (io_addi hd hd ?_ (by omega)) .nil)
  ·exact ⟨hd,q0,q0,.inr (.inr (.inr (.inr (.inl ⟨rfl,rfl,rfl,by show 0 ≤ hi20 n; unfold hi20; omega,by show hi20 n ≤ 1048575; unfold hi20; omega⟩))))⟩
  ·unfold lo12; split <;> omega
theorem quadL_iok {q : Quad} {m c off : Int} (hq : QOk m q) (hc : 1 ≤ c ∧ c ≤ 8) (ho : -1000000 ≤ off ∧ off ≤ 1000000) (he : off % 2 = 0) : All (quadL q c off):=by
 unfold QOk at hq
 unfold quadL
 split
 ·rename_i h1
  simp [h1] at hq
  exact (constL_iok (rgOf_bd hc (hq.1) (by omega)) (hq.2.2.2)).app (wrL_iok hc (hq.1))
 split
 ·rename_i h1 h2
  simp [h2] at hq
  exact ((rdL_iok hc (hq.2.1) (by omega)).app (.cons (io_addi (rgOf_bd hc (hq.1) (by omega)) (rgOf_bd hc (hq.2.1) (by omega)) (by omega) (by omega)) .nil)).app (wrL_iok hc (hq.1))
 split
 ·rename_i h1 h2 h3
  simp [h3] at hq
  have r1:=rgOf_bd (c:=c) (p:=q.Dst) (s:=7) hc (hq.1) (by omega)
  have r2:=rgOf_bd (c:=c) (p:=q.A) (s:=5) hc (hq.2.1) (by omega)
  have r3:=rgOf_bd (c:=c) (p:=q.B) (s:=6) hc (hq.2.2.1) (by omega)
  have r4:=opOf_bd (n:=q.N) (by omega)
  refine (((rdL_iok hc (hq.2.1) (by omega)).app (rdL_iok hc (hq.2.2.1) (by omega))).app (.cons ⟨r1,r2,r3,.inl ⟨r4.1,r4.2,rfl⟩⟩ .nil) |>.app ?_).app (wrL_iok hc (hq.1))
  ·split
   ·exact .cons (io_addi r1 r1 (by omega) (by omega)) .nil
   ·exact .nil
 split
 ·exact .cons ⟨q0,q0,q0,.inr (.inr (.inr (.inr (.inr (.inl ⟨rfl,rfl,rfl,by show -1048576 ≤ off; omega,by show off ≤ 1048574; omega,he⟩)))))⟩ .nil
 split
 ·rename_i h1 h2 h3 h4 h5
  simp [h5] at hq
  have r2:=rgOf_bd (c:=c) (p:=q.A) (s:=5) hc (hq.2.1) (by omega)
  have l1:=rd_len c q.A 5
  refine ((rdL_iok hc (hq.2.1) (by omega)).app (.cons ⟨q0,r2,q0,.inr (.inr (.inr (.inl ⟨.inr rfl,rfl,(by decide : (-4096 : Int) ≤ 8),(by decide : (8 : Int) ≤ 4094),(rfl : (8 : Int) % 2 = 0)⟩)))⟩ .nil)).app (.cons ?_ .nil)
  refine ⟨q0,q0,q0,.inr (.inr (.inr (.inr (.inr (.inl ⟨rfl,rfl,rfl,?_,?_,?_⟩)))))⟩
  ·show -1048576 ≤ off - 4 * (((rdL c q.A 5).length : Int) + 1); omega
  ·show off - 4 * (((rdL c q.A 5).length : Int) + 1) ≤ 1048574; omega
  ·show (off - 4 * (((rdL c q.A 5).length : Int) + 1)) % 2 = 0; omega
 split
 ·rename_i h1 h2 h3 h4 h5 h6
  simp [h6] at hq
  have r2:=rgOf_bd (c:=c) (p:=q.A) (s:=5) hc (hq.2.1) (by omega)
  exact ((rdL_iok hc (hq.2.1) (by omega)).app (.cons (io_addi (by omega) r2 (by omega) (by omega)) (.cons (io_addi (by omega) (by omega) (by omega) (by omega)) .nil))).app (callL_iok (by omega))
 split
 ·rename_i h1 h2 h3 h4 h5 h6 h7
  simp [h7] at hq
  exact (((All.cons (io_addi (by omega) (by omega) (by omega) (by omega)) .nil).app (callL_iok (by omega))).app (.cons (io_addi (rgOf_bd hc (hq.1) (by omega)) (by omega) (by omega) (by omega)) .nil)).app (wrL_iok hc (hq.1))
 split
 ·exact callL_iok (by omega)
 split
 ·rename_i h1 h2 h3 h4 h5 h6 h7 h8 h9
  simp [h9] at hq
  have r2:=rgOf_bd (c:=c) (p:=q.A) (s:=5) hc (hq.2.1) (by omega)
  exact ((rdL_iok hc (hq.2.1) (by omega)).app (.cons (io_addi (by omega) r2 (by omega) (by omega)) .nil)).app (callL_iok (by omega))
 ·exact callL_iok (by omega)
theorem off_even (code : List Quad) (c : Int) (i : Nat) : offL code c i % 2 = 0:=by
 unfold offL; split <;> omega
theorem tk_iok {code : List Quad} (hc : COk code) {c : Int} (h : 1 ≤ c ∧ c ≤ 8) : ∀ i,i ≤ code.length → All (tk code c i)
 | 0,_=>.nil
 | i + 1,hi=>by
  have e : qAt code i = code[i]:=qAt_of (List.getElem?_eq_getElem (by omega))
  have hq:=hc.q _ (List.mem_of_getElem? (List.getElem?_eq_getElem (show i < code.length by omega)))
  refine (tk_iok hc h i (by omega)).app ?_
  unfold blk
  rw [e]
  exact quadL_iok hq h (off_small hc (by omega)) (off_even code c i)
end Go.Proofs.YtmpplggjpmmhlaaGreat.N
namespace Go.Proofs.YtmpplggjpmmhlaaGreat.N
open Go.Proofs.YtmpplggjpmmhlaaGreat.X
variable {b : List Int} {p m : Int}
theorem codes_dr (hb : By b) {k : Nat} (hk : 20 ≤ k) (h0 : 0 ≤ p) (hm : p ≤ m) (hp : m ≤ 100000) : Dr (f6x k ⟨b,p⟩) (m + 150001) fun l=>1 ≤ l.length ∧ l.length ≤ 3 ∧ ∀ c ∈ l,COk c ∧ c.length ≤ 40:=by
 unfold f6x
 refine .bind (pick_dr hb h0 hm (by omega) (by omega) (by omega)) fun x p1 hx h1 h2=>?_
 dsimp only
 obtain ⟨n,hn⟩ : ∃ n : Int,n = 1 + x:=⟨_,rfl⟩
 have hw : w64 (1 + x) = n:=by rw [w64_s (by omega) (by omega),hn]
 refine .tot (P:=fun r=>0 ≤ r.2 ∧ r.2 ≤ m + 1 + 150000 ∧ (r.1.length : Int) = n ∧ ∀ c ∈ r.1,COk c ∧ c.length ≤ 40) (.iter (fun s=>0 ≤ s.2.1 ∧ s.2.1 ≤ n ∧ 0 ≤ s.2.2 ∧ s.2.2 ≤ m + 1 + 50000 * s.2.1 ∧ (s.1.length : Int) = s.2.1 ∧ ∀ c ∈ s.1,COk c ∧ c.length ≤ 40) (fun s=>(n - s.2.1).toNat) ⟨by simp,by simp only; omega,h1,by simp only; omega,by simp,by simp⟩ fun s hs=>?_) fun r hr=>?_
 ·obtain ⟨out,i,q⟩:=s
  obtain ⟨g0,g1,g2,g3,g4,g5⟩:=hs
  simp only at g0 g1 g2 g3 g4 g5
  unfold f9o
  dsimp only
  rw [hw,w64_up g0 (by omega)]
  refine .sel (fun h=>?_) fun h=>.inr (show 0 ≤ q ∧ q ≤ m + 1 + 150000 ∧ (out.length : Int) = n ∧ ∀ c ∈ out,COk c ∧ c.length ≤ 40 from ?_)
  ·simp only [decide_eq_true_eq] at h
   refine .bind (good_dr hb hk g2 g3 (by omega)) fun y hy=>.bind (.app (l:=out) (by simp; omega)) fun r hr=>.inl ?_
   subst hr
   refine ⟨⟨by simp only; omega,by simp only; omega,hy.1,by have:=hy.2.1; simp only; omega,by simp; omega,fun z hz=>?_⟩,by simp only; omega⟩
   simp only [List.mem_append,List.mem_singleton] at hz
   rcases hz with hz | rfl
   ·exact g5 z hz
   ·exact hy.2.2
  ·simp only [decide_eq_false_iff_not] at h
   exact ⟨g2,by omega,by omega,g5⟩
 ·exact .pure ⟨by have:=hr.2.2.1; omega,by have:=hr.2.2.1; omega,hr.2.2.2⟩ hr.1 (by have:=hr.2.1; omega)
def LOk (l : List (List Instr)) : Prop:=1 ≤ l.length ∧ l.length ≤ 3 ∧ ∀ x ∈ l,x.length ≤ 240 ∧ All x
theorem lists_dr (hb : By b) {k : Nat} (hk : 20 ≤ k) (h0 : 0 ≤ p) (hm : p ≤ m) (hp : m ≤ 100000) : Dr (f6k k ⟨b,p⟩) (m + 150002) LOk:=by
 unfold f6k
 refine .bind (codes_dr hb hk h0 hm hp) fun l p1 hl h1 h2=>.bind (pick_dr hb h1 h2 (by omega) (by omega) (by omega)) fun x p2 hx h3 h4=>?_
 refine .tot (P:=LOk) (.iter (fun s : List (List Instr) × Int=>0 ≤ s.2 ∧ s.2 ≤ (l.length : Int) ∧ (s.1.length : Int) = s.2 ∧ ∀ x ∈ s.1,x.length ≤ 240 ∧ All x) (fun s=>((l.length : Int) - s.2).toNat) ⟨by simp,by simp only; omega,by simp,by simp⟩ fun s hs=>?_) fun r hr=>.pure hr h3 (by omega)
 obtain ⟨out,i⟩:=s
 obtain ⟨g0,g1,g2,g3⟩:=hs
 simp only at g0 g1 g2 g3
 have hl1:=hl.1
 have hl2:=hl.2.1
 unfold f9d
 dsimp only
 rw [w64_s (i:=1 + x) (by omega) (by omega),w64_up g0 (by omega)]
 refine .sel (fun h=>?_) fun h=>.inr (show LOk out from ?_)
 ·simp only [decide_eq_true_eq] at h
  refine .bind (.nth (l:=l) g0 h) fun c ⟨_,hc⟩=>?_
  have hc':=hl.2.2 c hc
  rw [stask_eq hc'.1 (c:=1 + x) (by omega)]
  refine .bind (.pure (Q:=fun y=>y = tk c (1 + x) c.length) rfl) fun y hy=>.bind (.app (l:=out) (by simp; omega)) fun r hr=>.inl ?_
  subst hr hy
  refine ⟨⟨by simp only; omega,by simp only; omega,by simp; omega,fun z hz=>?_⟩,by simp only; omega⟩
  simp only [List.mem_append,List.mem_singleton] at hz
  rcases hz with hz | rfl
  ·exact g3 z hz
  ·refine ⟨?_,tk_iok hc'.1 (by omega) _ (Nat.le_refl _)⟩
   rw [tk_len]
   have:=pl_le c (1 + x) c.length
   have:=hc'.2
   omega
 ·simp only [decide_eq_false_iff_not] at h
  exact ⟨by omega,by omega,g3⟩
end Go.Proofs.YtmpplggjpmmhlaaGreat.N
namespace Go.Proofs.YtmpplggjpmmhlaaGreat.N
open Go.Proofs.YtmpplggjpmmhlaaGreat.X
theorem ivalid_of {x : Instr} (h : IOk x) : f0j x = some true:=by
 obtain ⟨b,v1,v2⟩:=valid_ok x
 rw [svalid_eq,decide_eq_true h] at v1
 rw [v2,← Option.some.inj v1]
theorem wls_some : ∀ {l : List (List Instr)},(∀ x ∈ l,All x) → ∃ ws,wls l = some ws
 | [],_=>⟨[],rfl⟩
 | x :: xs,h=>by
  obtain ⟨w,hw⟩:=wl_some (l:=x) fun y hy=>ivalid_of (h x (by simp) y hy)
  obtain ⟨ws,hws⟩:=wls_some (l:=xs) fun y hy=>h y (by simp [hy])
  exact ⟨w :: ws,by simp only [wls,hw,hws]⟩
theorem roomsB_two {r1 r2 : Int} (h1 : 1 ≤ r1 ∧ r1 ≤ 4) (h2 : 1 ≤ r2 ∧ r2 ≤ 4) : roomsB [r1,r2] = true:=by
 have s0 : f1i [r1,r2] 0 = some (.inl 1):=by
  unfold f1i f02
  rw [show nth [r1,r2] 0 = some r1 from rfl]
  simp only [Option.bind_some]
  rw [decide_eq_true (show r1 ≥ 1 from h1.1),decide_eq_true (show r1 ≤ 4 from h1.2)]
  rfl
 have s1 : f1i [r1,r2] 1 = some (.inl 2):=by
  unfold f1i f02
  rw [show nth [r1,r2] 1 = some r2 from rfl]
  simp only [Option.bind_some]
  rw [decide_eq_true (show r2 ≥ 1 from h2.1),decide_eq_true (show r2 ≤ 4 from h2.2)]
  rfl
 have s2 : f1i [r1,r2] 2 = some (.inr (.inr ())):=rfl
 unfold roomsB f3q
 rw [iter_eq,s0]
 simp only
 rw [iter_eq,s1]
 simp only
 rw [iter_eq,s2]
 rfl
theorem szs_lok {l : List (List Instr)} (n : Nat) (h : ∀ x ∈ l,x.length ≤ n) : szs List.length l ≤ n * l.length:=by
 induction l with
 | nil=>simp [szs]
 | cons x xs ih =>
  have h1:=h x (by simp)
  have h2:=ih fun y hy=>h y (by simp [hy])
  simp only [szs,List.length_cons,Nat.mul_add,Nat.mul_one]
  omega
theorem atN_eq {lists : List (List Instr)} {ws : List (List Int)} (hw : wls lists = some ws) : ws.length = lists.length ∧ atN ws = 92 + szs List.length lists:=by
 obtain ⟨k1,k2⟩:=wls_length hw
 refine ⟨k1,?_⟩
 unfold atN
 rw [List.length_append,rtW_len,k2]
theorem new_lok {lists : List (List Instr)} (h : LOk lists) {r1 r2 : Int} (h1 : 1 ≤ r1 ∧ r1 ≤ 4) (h2 : 1 ≤ r2 ∧ r2 ≤ 4) : ∃ ws,wls lists = some ws ∧ ws.length = lists.length ∧ atN ws ≤ 812 ∧
  f4s [r1,r2] lists = some (Machine.mk (imgR ws) 368 (imgM [r1,r2] ws),4 * (atN ws : Int),true):=by
 obtain ⟨ws,hw⟩:=wls_some fun x hx=>(h.2.2 x hx).2
 obtain ⟨k1,k2⟩:=atN_eq hw
 have k3:=szs_lok 240 fun x hx=>(h.2.2 x hx).1
 have k4:=h.1
 have k5:=h.2.1
 have k6:=imgM_len [r1,r2] ws
 refine ⟨ws,hw,k1,by omega,?_⟩
 rw [(new_ok [r1,r2] lists (by simp) (by omega) (by omega)).1]
 unfold newR
 rw [if_pos ⟨roomsB_two h1 h2,k4,k5⟩,hw]
 simp only
 rw [if_pos (by omega)]
 rfl
end Go.Proofs.YtmpplggjpmmhlaaGreat.N
namespace Go.Proofs.YtmpplggjpmmhlaaGreat.N
open Go.Proofs.YtmpplggjpmmhlaaGreat.X
theorem sameInts_refl {l : List Int} (hl : l.length ≤ 1048576) : f3p l l = some true:=by
 unfold f3p
 refine sel_to (by simp) ?_
 have e:=all_loop (f:=f4h l l) (l:=l) (fun _=>true) (by omega) (fun i hi=>by
  unfold f4h
  exact sel_tt' (by simpa using hi) (bind_to (nth_at hi) (bind_to (nth_at hi) (sel_to (by simp) rfl)))) (by
  unfold f4h
  exact sel_to (by simp) rfl)
 rw [show l.all (fun _=>true) = true by simp] at e
 exact bind_to e rfl
theorem all_wd {l : List Int} (h : ∀ x ∈ l,Wd x) : l.all wdB = true:=by
 rw [List.all_eq_true]
 intro x hx
 have:=h x hx
 unfold Wd at this
 unfold wdB
 simp
 exact this
theorem mv_true {r : List Int} {pc : Int} {m : List Int} (hM : MOK r pc m) (h0 : r[0]? = some 0) : f0w ⟨r,pc,m⟩ = some true ∧ f1c ⟨r,pc,m⟩ = some true:=by
 have h32:=hM.r32
 have h10:=hM.m10
 have hn:=nth_at (l:=r) (i:=0) (by omega)
 have g0 : (r[0]'(by omega) == 0) = true:=by
  rw [List.getElem?_eq_getElem (by omega)] at h0
  rw [Option.some.inj h0]; rfl
 have w1 : f1e r = some true:=(iwords_ok r (by omega)).trans (by rw [all_wd hM.wr])
 have w2 : f1e m = some true:=(iwords_ok m (by omega)).trans (by rw [all_wd hM.wm])
 have w3 : f10 pc = some true:=by
  have:=hM.wp
  unfold Wd at this
  unfold f10
  rw [decide_eq_true (by omega),decide_eq_true (by omega)]; rfl
 have key : f0w ⟨r,pc,m⟩ = some true:=by
  unfold f0w
  exact bind_to (y:=true) (sel_tt' (by simp [h32]) (bind_to w1 rfl)) (bind_to (y:=true) (sel_tt' rfl (bind_to hn (congrArg some g0))) (bind_to (y:=true) (sel_tt' rfl (bind_to w3 rfl)) (bind_to (y:=true) (sel_tt' (by simp; omega) (bind_to w2 rfl)) rfl)))
 obtain ⟨b,v1,v2,_⟩:=mv_ok r pc m (by omega) (by omega)
 rw [v2] at key
 rw [v1,v2]
 exact ⟨key,key⟩
theorem image_run {r : List Int} {pc : Int} {m : List Int} {n : Nat} (hn : n ≤ 1000000) (hM : MOK r pc m) (h0 : r[0]? = some 0) : f93 ⟨r,pc,m⟩ (n : Int) = some (runF n ([],r,pc,m)):=by
 unfold f93
 have a1 : app 8 [] r = some r:=(app_ok (by simp; have:=hM.r32; omega)).trans (by simp)
 have a2 : app 8 [] m = some m:=(app_ok (by simp; have:=hM.m10; omega)).trans (by simp)
 have c2 : f4f (Machine.mk r pc m) = some (Machine.mk r pc m):=by
  unfold f4f f0q
  dsimp only
  rw [a1,a2]
  rfl
 have e2 : ((!true || decide ((n : Int) < 0)) || decide ((n : Int) > 1000000)) = false:=by rw [decide_eq_false (by omega),decide_eq_false (by omega)]; rfl
 have it:=iter_run hn n ([],r,pc,m) 0 (by omega) hM (by simp)
 refine bind_to (mv_true hM h0).1 (sel_to e2 (bind_to c2 (bind_to it ?_)))
 unfold runF
 cases runS n ([],r,pc,m) <;> rfl
theorem runF_ok (n : Nat) {s : St} (hM : SOK s) : MOK (runF n s).1.Regs (runF n s).1.Pc (runF n s).1.Mem ∧ (runF n s).1.Mem.length = s.2.2.2.length ∧ (runF n s).2.1.length ≤ s.1.length + n ∧ (runF n s).2.2 ≠ 0:=by
 have h:=runS_inv n hM
 unfold runF
 cases h2 : runS n s with
 | inl x=>rw [h2] at h; exact ⟨h.2.2.1,h.2.2.2.1,h.2.2.2.2,h.2.1⟩
 | inr t=>rw [h2] at h; exact ⟨h.1,h.2.2.1,h.2.2.2,by simp⟩
theorem wl_wd : ∀ {l : List Instr} {ws : List Int},wl l = some ws → ∀ x ∈ ws,Wd x
 | [],ws,h=>by simp only [wl,Option.some.injEq] at h; subst h; intro x hx; cases hx
 | x :: xs,ws,h=>by
  simp only [wl] at h
  split at h
  ·rename_i w ws' h1 h2
   injection h with h
   subst h
   intro y hy
   rcases List.mem_cons.1 hy with rfl | hy
   ·rcases encW_cases x with ⟨r,_,_,e⟩ | ⟨r,_,_,e⟩
    ·rw [e] at h1
     rw [← Option.some.inj h1]
     exact wrapW_bd r
    ·rw [e] at h1; cases h1
   ·exact wl_wd h2 y hy
  ·cases h
theorem wls_wd : ∀ {l : List (List Instr)} {ws : List (List Int)},wls l = some ws → ∀ x ∈ ws.flatten,Wd x
 | [],ws,h=>by simp only [wls,Option.some.injEq] at h; subst h; intro x hx; simp at hx
 | x :: xs,ws,h=>by
  simp only [wls] at h
  split at h
  ·rename_i w ws' h1 h2
   injection h with h
   subst h
   intro y hy
   simp only [List.flatten_cons,List.mem_append] at hy
   rcases hy with hy | hy
   ·exact wl_wd h1 y hy
   ·exact wls_wd h2 y hy
  ·cases h
theorem rtW_wd : ∀ x ∈ rtW,Wd x:=by
 obtain ⟨mem0,m1,m2⟩:=rt_words
 unfold rtW
 rw [m1]
 exact wl_wd m1
theorem bx_wd {rooms : List Int} (h : ∀ x ∈ rooms,Wd x) : ∀ j,∀ x ∈ bxL rooms j,Wd x
 | 0,x,hx=>by cases hx
 | j + 1,x,hx=>by
  simp only [bxL,List.mem_append,List.mem_cons,List.not_mem_nil,or_false] at hx
  rcases hx with hx | rfl | hx
  ·exact bx_wd h j x hx
  ·cases hg : rooms[j]? with
   | none=>unfold Wd; simp
   | some y=>exact h y (List.mem_of_getElem? hg)
  ·have : x = 0:=by omega
   subst this; unfold Wd; omega
theorem bk_wd {at_ : Nat} {st : List Int} (ha : at_ ≤ 10000) (hs : st.length ≤ 3) (h : ∀ x ∈ st,0 ≤ x ∧ x ≤ 10000) : ∀ j,j ≤ 3 → ∀ x ∈ bkL at_ st j,Wd x
 | 0,_,x,hx=>by cases hx
 | j + 1,hj,x,hx=>by
  simp only [bkL,List.mem_append,List.mem_cons,List.not_mem_nil,or_false] at hx
  rcases hx with hx | rfl | hx
  ·exact bk_wd ha hs h j (by omega) x hx
  ·cases hg : st[j]? with
   | none=>unfold Wd; simp
   | some y=>have:=h y (List.mem_of_getElem? hg); unfold Wd; simp only [Option.getD_some]; omega
  ·unfold Wd; omega
theorem new_mok {lists : List (List Instr)} {ws : List (List Int)} (hw : wls lists = some ws) (h3 : ws.length ≤ 3) {r1 r2 : Int} (h1 : 0 ≤ r1 ∧ r1 ≤ 4) (h2 : 0 ≤ r2 ∧ r2 ≤ 4) (hl : (imgM [r1,r2] ws).length ≤ 10000) :
  MOK (imgR ws) 368 (imgM [r1,r2] ws) ∧ (imgR ws)[0]? = some 0:=by
 have k6:=imgM_len [r1,r2] ws
 have hat : atN ws = 92 + ws.flatten.length:=by unfold atN; rw [List.length_append,rtW_len]
 refine ⟨⟨rfl,hl,?_,?_,by unfold Wd; omega⟩,rfl⟩
 ·intro x hx
  have hx : x ∈ ((((List.replicate 32 (0 : Int)).set 2 (4 * (atN ws : Int) + 112 + 64 * ws.length)).set 3 (4 * (atN ws : Int))).set 4 (4 * (atN ws : Int) + 112)):=hx
  have hm:=List.mem_or_eq_of_mem_set hx
  unfold Wd
  rcases hm with hm | rfl
  ·rcases List.mem_or_eq_of_mem_set hm with hm | rfl
   ·rcases List.mem_or_eq_of_mem_set hm with hm | rfl
    ·have:=List.eq_of_mem_replicate hm; omega
    ·omega
   ·omega
  ·omega
 ·intro x hx
  rw [imgM_eq] at hx
  unfold datL hdL at hx
  simp only [List.mem_append] at hx
  rcases hx with (hx | hx) | ((hx | hx) | hx) | hx
  ·exact rtW_wd x hx
  ·exact wls_wd hw x hx
  ·simp only [List.mem_cons,List.not_mem_nil,or_false] at hx
   unfold Wd; omega
  ·exact bx_wd (fun y hy=>by simp only [List.mem_cons,List.not_mem_nil,or_false] at hy; unfold Wd; omega) 3 x hx
  ·refine bk_wd (by omega) (by rw [offs_length]; exact h3) (fun y hy=>?_) ws.length h3 x hx
   have:=offs_bd hy
   omega
  ·have:=List.eq_of_mem_replicate hx
   unfold Wd; omega
end Go.Proofs.YtmpplggjpmmhlaaGreat.N
namespace Go.Proofs.YtmpplggjpmmhlaaGreat.N
open Go.Proofs.YtmpplggjpmmhlaaGreat.X
variable {b : List Int} {p m : Int}
def ImgOk (M : Machine) (d : Int) (out : List Int) : Prop:=MOK M.Regs M.Pc M.Mem ∧ (∃ a : Nat,d = 4 * (a : Int) ∧ a ≤ 812 ∧ a + 28 ≤ M.Mem.length) ∧ out.length ≤ 2000
theorem image_dr (hb : By b) {k : Nat} (hk : 20 ≤ k) (h0 : 0 ≤ p) (hm : p ≤ m) (hp : m ≤ 100000) : Tot (f6y k ⟨b,p⟩) fun z=>0 ≤ z.2.2.2 ∧ z.2.2.2 ≤ m + 150010 ∧ ImgOk z.1 z.2.1 z.2.2.1:=by
 unfold f6y
 refine .bind (lists_dr hb hk h0 hm hp) fun l hl=>.bind (pick_dr hb hl.1 hl.2.1 (by omega) (by omega) (by omega)) fun x hx=>.bind (pick_dr hb hx.1 hx.2.1 (by omega) (by omega) (by omega)) fun y hy=>?_
 have hx2:=hx.2.2
 have hy2:=hy.2.2
 rw [w64_s (i:=1 + x.1) (by omega) (by omega),w64_s (i:=1 + y.1) (by omega) (by omega)]
 obtain ⟨ws,hw,k1,k2,k3⟩:=new_lok hl.2.2 (r1:=1 + x.1) (r2:=1 + y.1) (by omega) (by omega)
 have hl3:=hl.2.2.2.1
 have k6:=imgM_len [1 + x.1,1 + y.1] ws
 obtain ⟨hM,hz⟩:=new_mok hw (by omega) (r1:=1 + x.1) (r2:=1 + y.1) (by omega) (by omega) (by omega)
 rw [k3,Option.bind_some]
 refine .bind (pick_dr hb hy.1 hy.2.1 (by omega) (by omega) (by omega)) fun n hn=>.bind (pick_dr hb hn.1 hn.2.1 (by omega) (by omega) (by omega)) fun t ht=>.bind (.nth ht.2.2.1 (by simpa using ht.2.2.2)) fun f ⟨_,hf⟩=>?_
 have hn2:=hn.2.2
 have hf2 : 1 ≤ f ∧ f ≤ 10:=by simp only [List.mem_cons,List.not_mem_nil,or_false] at hf; omega
 obtain ⟨N,hN,hN2⟩ : ∃ N : Nat,w64 (n.1 * f) = (N : Int) ∧ N ≤ 2000:=by
  simp only [List.mem_cons,List.not_mem_nil,or_false] at hf
  rcases hf with rfl | rfl
  ·exact ⟨n.1.toNat,by rw [w64_s (by omega) (by omega)]; omega,by omega⟩
  ·exact ⟨(n.1 * 10).toNat,by rw [w64_s (by omega) (by omega)]; omega,by omega⟩
 dsimp only
 rw [hN]
 have e1:=image_run (n:=N) (by omega) hM hz
 obtain ⟨A,out,c,q1,q2,_⟩:=image_ok (imgR ws) 368 (imgM [1 + x.1,1 + y.1] ws) (N : Int) (by rw [hM.r32]; omega) (by have:=hM.m10; omega)
 have e2 : f4t (Machine.mk (imgR ws) 368 (imgM [1 + x.1,1 + y.1] ws)) (N : Int) = some (runF N ([],imgR ws,368,imgM [1 + x.1,1 + y.1] ws)):=by rw [q1,← q2,e1]
 have hr:=runF_ok N (s:=([],imgR ws,368,imgM [1 + x.1,1 + y.1] ws)) hM
 rw [e2,Option.bind_some]
 exact .pure ⟨ht.1,by have:=ht.2.1; simp only; omega,hr.1,⟨atN ws,rfl,k2,by have:=hr.2.1; simp only at this ⊢; omega⟩,by have:=hr.2.2.1; simp only [List.length_nil] at this ⊢; omega⟩
end Go.Proofs.YtmpplggjpmmhlaaGreat.N
namespace Go.Proofs.YtmpplggjpmmhlaaGreat.N
open Go.Proofs.YtmpplggjpmmhlaaGreat.X
def word (x : Int) : Bool:=(decide (x ≥ (-2147483648))) && (decide (x ≤ 2147483647))
theorem b1_eq (l : List Int) : f2l l = f1h l:=by
 funext s
 unfold f2l f1h f0u f02 f10
 rfl
theorem areWords_ok (l : List Int) (h : l.length ≤ 1048576) : f1e l = some (l.all word):=by
 have key:=iter_inv (f:=f1h l) (fun s=>∃ i : Nat,s = (i : Int) ∧ i ≤ l.length ∧ (l.take i).all word = true) (fun s=>l.length - s.toNat) (fun r=>both r (fun o=>some o) (fun _=>some true) = some (l.all word)) (s:=0) (fun s hs=>?_) ⟨0,rfl,by omega,by simp⟩
 ·obtain ⟨r,h1,h2⟩:=key
  unfold f1e
  rw [h1]
  exact h2
 ·obtain ⟨i,rfl,hi,ha⟩:=hs
  unfold f1h
  rcases Nat.lt_or_ge i l.length with hlt | hge
  ·rw [sel_true (by simpa using hlt)]
   simp only [nth_at hlt,Option.bind_some,f10]
   cases hw : word l[i]
   ·right
    refine ⟨.inl false,?_,?_⟩
    ·rw [sel_true]
     unfold word at hw
     rw [hw]; rfl
    ·show some false = some (l.all word)
     congr 1
     symm
     rw [List.all_eq_false]
     exact ⟨l[i],List.getElem_mem hlt,by simp [hw]⟩
   ·left
    refine ⟨((i + 1 : Nat) : Int),?_,⟨i + 1,rfl,by omega,?_⟩,by omega⟩
    ·rw [sel_false,w64_nat (by omega)]
     unfold word at hw
     rw [hw]; rfl
    ·rw [← List.take_append_getElem hlt,List.all_append,ha]
     simp [hw]
  ·right
   rw [sel_false (by simpa using hge)]
   refine ⟨_,rfl,?_⟩
   show some true = _
   rw [← ha,List.take_of_length_le hge]
theorem l4Words_ok (l : List Int) (h : l.length ≤ 1048576) : f0z l l.length = some (l.all word):=by
 unfold f0z
 rw [sel_false (by simp),b1_eq]
 exact areWords_ok l h
theorem l4Words_n (l : List Int) (n : Nat) (h : l.length ≤ 1048576) : f0z l n = some ((l.length == n) && l.all word):=by
 by_cases hn : l.length = n
 ·subst hn
  rw [l4Words_ok l h]
  simp
 ·unfold f0z
  rw [sel_true (by simp; omega)]
  simp [hn]
theorem mvm_ok (m : Machine) (h1 : m.Regs.length ≤ 1048576) (h2 : m.Mem.length ≤ 1048576) :
  ∃ b,f1c m = some b ∧ f0w m = some b ∧ (b = true → m.Regs.length = 32 ∧ m.Mem.length ≤ 10000 ∧ m.Mem.all word = true):=by
 have e1 : f0z m.Regs 32 = some ((m.Regs.length == 32) && m.Regs.all word):=l4Words_n m.Regs 32 h1
 unfold f1c f0w
 rw [e1,areWords_ok _ h1,l4Words_ok _ h2,areWords_ok _ h2]
 simp only [Option.bind_some]
 have e2 : ((m.Regs.length : Int) == 32) = (m.Regs.length == 32):=by rw [Bool.eq_iff_iff]; simp; omega
 rw [e2]
 cases h3 : (m.Regs.length == 32)
 ·refine ⟨false,?_,?_,by simp⟩ <;> simp [sel]
 ·have h3' : m.Regs.length = 32:=by simpa using h3
  cases h4 : m.Regs.all word
  ·refine ⟨false,?_,?_,by simp⟩ <;> simp [sel]
  ·have hn:=nth_at (l:=m.Regs) (i:=0) (by omega)
   rw [show ((0 : Nat) : Int) = 0 from rfl] at hn
   simp only [sel,hn,Option.bind_some,Bool.and_self]
   cases h5 : (m.Regs[0] == 0)
   ·refine ⟨false,?_,?_,by simp⟩ <;> simp [sel]
   ·simp only [f0u,f02,f10,Option.bind_some]
    cases h6 : (decide (m.Pc ≥ -2147483648) && decide (m.Pc ≤ 2147483647))
    ·refine ⟨false,?_,?_,by simp⟩ <;> simp [sel]
    ·simp only [Bool.true_and]
     cases h7 : decide ((m.Mem.length : Int) ≤ 10000)
     ·refine ⟨false,?_,?_,by simp⟩ <;> simp [sel]
     ·refine ⟨m.Mem.all word,by simp [sel],by simp [sel],fun hb=>⟨h3',?_,hb⟩⟩
      have:=of_decide_eq_true h7
      omega
theorem rv_ok (r : Ring) (h : r.Slots.length ≤ 1048576) : ∃ b,f45 r = some b ∧ f4c r = some b ∧ (b = true → 1 ≤ r.Room ∧ r.Room ≤ 4 ∧ 0 ≤ r.Head ∧ r.Head < r.Room ∧ 0 ≤ r.Len ∧ r.Len ≤ r.Room ∧ r.Slots.length = 4):=by
 have e1 : f0z r.Slots 4 = some ((r.Slots.length == 4) && r.Slots.all word):=l4Words_n r.Slots 4 h
 unfold f45 f4c f02
 rw [e1,areWords_ok _ h]
 simp only [Option.bind_some]
 by_cases ha : 1 ≤ r.Room ∧ r.Room ≤ 4
 ·have hw : w64 (r.Room - 1) = r.Room - 1:=w64_id (by omega) (by omega)
  have e2 : ((r.Slots.length : Int) == 4) = (r.Slots.length == 4):=by rw [Bool.eq_iff_iff]; simp; omega
  rw [hw,e2]
  by_cases hb : 0 ≤ r.Head ∧ r.Head < r.Room
  ·by_cases hc : 0 ≤ r.Len ∧ r.Len ≤ r.Room
   ·cases hd : (r.Slots.length == 4)
    ·have : r.Head ≤ r.Room - 1:=by omega
     refine ⟨false,?_,?_,by simp⟩
     ·simp [sel,ha,hb,hc,this]
     ·simp [sel,ha,hb,hc]
    ·refine ⟨r.Slots.all word,?_,?_,fun _=>⟨ha.1,ha.2,hb.1,hb.2,hc.1,hc.2,by simpa using hd⟩⟩
     ·have : r.Head ≤ r.Room - 1:=by omega
      simp [sel,ha,hb,hc,this]
     ·simp [sel,ha,hb,hc]
   ·have hc' : (decide (r.Len ≥ 0) && decide (r.Len ≤ r.Room)) = false:=by simp; omega
    refine ⟨false,?_,?_,by simp⟩
    ·have : r.Head ≤ r.Room - 1:=by omega
     rcases Int.lt_or_le r.Len 0 with h | h
     ·simp [sel,ha,hb,this,show ¬ (0 ≤ r.Len) by omega]
     ·simp [sel,ha,hb,this,show ¬ (r.Len ≤ r.Room) by omega]
    ·simp [sel,ha,hb]
     rcases Int.lt_or_le r.Len 0 with h | h
     ·simp [show ¬ (0 ≤ r.Len) by omega]
     ·simp [show ¬ (r.Len ≤ r.Room) by omega]
  ·refine ⟨false,?_,?_,by simp⟩
   ·have : (decide (r.Head ≥ 0) && decide (r.Head ≤ r.Room - 1)) = false:=by simp; omega
    simp only [this,ha]
    simp [sel]
   ·have : (decide (r.Head ≥ 0) && decide (r.Head < r.Room)) = false:=by simp; omega
    simp [sel,ha]
    rcases Int.lt_or_le r.Head 0 with h | h
    ·simp [show ¬ (0 ≤ r.Head) by omega]
    ·simp [show ¬ (r.Head < r.Room) by omega]
 ·have hx : (decide (r.Room ≥ 1) && decide (r.Room ≤ 4)) = false:=by simp; omega
  refine ⟨false,?_,?_,by simp⟩
  ·rw [hx]; simp [sel]
  ·rw [hx]; simp [sel]
theorem rb_eq (r : Ring) : f9q r = f4y r:=rfl
theorem rb_ok (r : Ring) (h : r.Slots.length ≤ 1048576) : ∃ y,f7n r = some y ∧ f89 r = some y ∧ (y.2 = true → y.1.Items.length ≤ 4):=by
 obtain ⟨b,e1,e2,hb⟩:=rv_ok r h
 unfold f7n f89
 rw [rb_eq]
 have e1' : f45 (Ring.mk r.Room r.Head r.Len r.Slots) = some b:=e1
 have e2' : f4c (Ring.mk r.Room r.Head r.Len r.Slots) = some b:=e2
 rw [e1',e2']
 simp only [Option.bind_some]
 cases b
 ·exact ⟨_,rfl,rfl,fun h=>by cases h⟩
 ·obtain ⟨g1,g2,g3,g4,g5,g6,g7⟩:=hb rfl
  obtain ⟨y,k1,k2⟩:=iter_inv (f:=f4y r) (fun s=>0 ≤ s.1 ∧ s.1 ≤ r.Len ∧ s.2.length = s.1.toNat) (fun s=>(r.Len - s.1).toNat) (fun y=>y.length ≤ 4) (s:=(0,[])) (fun s ⟨i1,i2,i3⟩=>by
   unfold f4y
   by_cases hlt : s.1 < r.Len
   ·left
    have hd : w64 (r.Head + s.1) = r.Head + s.1:=w64_id (by omega) (by omega)
    have hr : remO (r.Head + s.1) r.Room = some ((r.Head + s.1).tmod r.Room):=by unfold remO; rw [if_neg (by omega)]
    have m1 : 0 ≤ (r.Head + s.1).tmod r.Room:=Int.tmod_nonneg _ (by omega)
    have m2 : (r.Head + s.1).tmod r.Room < r.Room:=Int.tmod_lt_of_pos _ (by omega)
    have hn:=nth_at (l:=r.Slots) (i:=((r.Head + s.1).tmod r.Room).toNat) (by omega)
    rw [Int.toNat_of_nonneg m1] at hn
    rw [sel_true (by simpa using hlt),hd,hr]
    simp only [Option.bind_some,hn]
    rw [app_ok (by simp; omega),w64_id (by omega) (by omega)]
    exact ⟨_,rfl,⟨by simp only; omega,by simp only; omega,by simp [i3]; omega⟩,by simp only; omega⟩
   ·right
    rw [sel_false (by simpa using hlt)]
    exact ⟨_,rfl,by omega⟩) ⟨by omega,by omega,rfl⟩
  rw [k1]
  exact ⟨_,rfl,rfl,fun _=>k2⟩
theorem nth_drop (M : List Int) (a : Nat) (k : Int) (hk : 0 ≤ k) : nth (M.drop a) k = nth M ((a : Int) + k):=by
 unfold nth
 rw [if_neg (by omega),if_neg (by omega),List.getElem?_drop]
 congr 1
 omega
theorem cutm_ok {l : List Int} {lo hi : Int} (h0 : 0 ≤ lo) (h1 : lo ≤ hi) (h2 : hi ≤ l.length) : cut l lo hi = some ((l.take hi.toNat).drop lo.toNat):=by
 unfold cut
 rw [if_pos ⟨h0,h1,h2⟩]
theorem items_ok (M : List Int) (a : Nat) (h : a + 44 ≤ M.length) (hl : M.length ≤ 1048576) (o : Outcome) :
  ∃ r,(iter (f4e M (a : Int)) ([],0)) = some r ∧
   (match r with
   | .inl x=>x = ([],false) ∧ iter (f1x (M.drop a)) (0,[]) = some (.inl (Outcome.mk [] [] [] false))
   | .inr y=>(y.length ≤ 3 ∧ ∀ x ∈ y,x.length ≤ 4) ∧ iter (f1x (M.drop a)) (0,[]) = some (.inr y)):=by
 obtain ⟨r,r',h1,h2,h3⟩:=iter_sim (f:=f4e M (a : Int)) (g:=f1x (M.drop a))
  (fun s t=>s.2 = t.1 ∧ s.1 = t.2 ∧ 0 ≤ s.2 ∧ s.2 ≤ 3 ∧ s.1.length = s.2.toNat ∧ ∀ x ∈ s.1,x.length ≤ 4) (fun s=>(3 - s.2).toNat)
  (fun r r'=>match r,r' with
   | .inl x,.inl y=>x = ([],false) ∧ y = Outcome.mk [] [] [] false
   | .inr x,.inr y=>x = y ∧ (y.length ≤ 3 ∧ ∀ x ∈ y,x.length ≤ 4)
   | _,_=>False) (s:=([],0)) (t:=(0,[])) (fun s t ⟨i1,i2,i3,i4,i5,i6⟩=>by
  obtain ⟨acc,j⟩:=s
  obtain ⟨j',acc'⟩:=t
  simp only at i1 i2 i3 i4 i5 i6
  subst i1
  subst i2
  unfold f4e f1x
  by_cases hj : j < 3
  ·obtain ⟨q,rfl⟩ : ∃ q : Nat,j = (q : Int):=⟨j.toNat,by omega⟩
   have w1 : w64 ((a : Int) + 4) = (a : Int) + 4:=w64_id (by omega) (by omega)
   have w2 : w64 (8 * (q : Int)) = 8 * (q : Int):=w64_id (by omega) (by omega)
   have w3 : w64 ((a : Int) + 4 + 8 * (q : Int)) = (a : Int) + 4 + 8 * (q : Int):=w64_id (by omega) (by omega)
   have w4 : w64 (4 + 8 * (q : Int)) = 4 + 8 * (q : Int):=w64_id (by omega) (by omega)
   have n1 : nth (M.drop a) (4 + 8 * (q : Int)) = nth M ((a : Int) + 4 + 8 * (q : Int)):=by
    rw [nth_drop _ _ _ (by omega)]
    congr 1
    omega
   have hB : a + 4 + 8 * q + 8 ≤ M.length:=by omega
   have eB : (a : Int) + 4 + 8 * (q : Int) = ((a + 4 + 8 * q : Nat) : Int):=by omega
   have n2:=nth_at (l:=M) (i:=a + 4 + 8 * q) (by omega)
   rw [← eB] at n2
   simp only [hj,decide_true,sel,w1,w2,w3,w4,n1,n2,Option.bind_some]
   cases hz : (M[a + 4 + 8 * q] != 0)
   ·right
    exact ⟨_,_,rfl,rfl,rfl,by omega,i6⟩
   ·have w5 : w64 ((a : Int) + 4 + 8 * (q : Int) + 1) = ((a + 4 + 8 * q + 1 : Nat) : Int):=by rw [w64_id (by omega) (by omega)]; omega
    have w6 : w64 ((a : Int) + 4 + 8 * (q : Int) + 2) = ((a + 4 + 8 * q + 2 : Nat) : Int):=by rw [w64_id (by omega) (by omega)]; omega
    have w7 : w64 ((a : Int) + 4 + 8 * (q : Int) + 4) = ((a + 4 + 8 * q + 4 : Nat) : Int):=by rw [w64_id (by omega) (by omega)]; omega
    have w8 : w64 ((a : Int) + 4 + 8 * (q : Int) + 8) = ((a + 4 + 8 * q + 8 : Nat) : Int):=by rw [w64_id (by omega) (by omega)]; omega
    have c1 : cut (M.drop a) (4 + 8 * (q : Int)) ((M.drop a).length : Int) = some (M.drop (a + 4 + 8 * q)):=by
     rw [cutm_ok (by omega) (by rw [List.length_drop]; omega) (by omega)]
     rw [show ((M.drop a).length : Int).toNat = (M.drop a).length by omega,List.take_length,List.drop_drop]
     congr 2
     omega
    have c2 : cut (M.drop (a + 4 + 8 * q)) 4 8 = some ((M.take (a + 4 + 8 * q + 8)).drop (a + 4 + 8 * q + 4)):=by
     rw [cutm_ok (by omega) (by omega) (by rw [List.length_drop]; omega)]
     congr 1
     rw [show Int.toNat 4 = 4 from rfl,show Int.toNat 8 = 8 from rfl,List.take_drop,List.drop_drop]
    have c3 : cut M ((a + 4 + 8 * q + 4 : Nat) : Int) ((a + 4 + 8 * q + 8 : Nat) : Int) = some ((M.take (a + 4 + 8 * q + 8)).drop (a + 4 + 8 * q + 4)):=by
     rw [cutm_ok (by omega) (by omega) (by omega)]
     congr 1
    have d0 : nth (M.drop (a + 4 + 8 * q)) 0 = some M[a + 4 + 8 * q]:=by
     rw [nth_drop _ _ _ (by omega),← n2]; first | rfl | (congr 1; omega) | congr 1
    have d1 : nth (M.drop (a + 4 + 8 * q)) 1 = some M[a + 4 + 8 * q + 1]:=by
     rw [nth_drop _ _ _ (by omega),← nth_at (l:=M) (i:=a + 4 + 8 * q + 1) (by omega)]; congr 1
    have d2 : nth (M.drop (a + 4 + 8 * q)) 2 = some M[a + 4 + 8 * q + 2]:=by
     rw [nth_drop _ _ _ (by omega),← nth_at (l:=M) (i:=a + 4 + 8 * q + 2) (by omega)]; congr 1
    have hsl : ((M.take (a + 4 + 8 * q + 8)).drop (a + 4 + 8 * q + 4)).length = 4:=by rw [List.length_drop,List.length_take]; omega
    have e1 : f82 M ((a : Int) + 4 + 8 * (q : Int)) = some (Ring.mk M[a + 4 + 8 * q] M[a + 4 + 8 * q + 1] M[a + 4 + 8 * q + 2] ((M.take (a + 4 + 8 * q + 8)).drop (a + 4 + 8 * q + 4))):=by
     unfold f82
     rw [n2,w5,w6,w7,w8,nth_at (show a + 4 + 8 * q + 1 < M.length by omega),nth_at (show a + 4 + 8 * q + 2 < M.length by omega),c3]
     simp only [Option.bind_some]
     rw [app_ok (by simp only [List.length_nil,hsl]; omega)]
     rfl
    obtain ⟨y,f1,f2,f3⟩:=rb_ok (Ring.mk M[a + 4 + 8 * q] M[a + 4 + 8 * q + 1] M[a + 4 + 8 * q + 2] ((M.take (a + 4 + 8 * q + 8)).drop (a + 4 + 8 * q + 4))) (by show _ ≤ _; rw [hsl]; omega)
    rw [e1,c1]
    simp only [Option.bind_some,d0,d1,d2,c2,f1,f2]
    cases hy : y.2
    ·right
     exact ⟨_,_,rfl,rfl,rfl,rfl⟩
    ·left
     simp only [Bool.not_true]
     rw [app_ok (by simp only [List.length_singleton]; omega)]
     simp only [Option.bind_some]
     refine ⟨_,_,rfl,rfl,⟨rfl,rfl,?_,?_,?_,?_⟩,?_⟩
     ·simp only [w64_nat (show q ≤ 9223372036854775806 by omega)]; omega
     ·simp only [w64_nat (show q ≤ 9223372036854775806 by omega)]; omega
     ·simp only [w64_nat (show q ≤ 9223372036854775806 by omega)]; simp; omega
     ·intro x hx
      rcases List.mem_append.1 hx with hx | hx
      ·exact i6 x hx
      ·rw [List.mem_singleton.1 hx]; exact f3 hy
     ·simp only [w64_nat (show q ≤ 9223372036854775806 by omega)]; omega
  ·right
   simp only [hj,decide_false,sel,Option.bind_some]
   exact ⟨_,_,rfl,rfl,rfl,by omega,i6⟩) ⟨rfl,rfl,by omega,by omega,rfl,by simp⟩
 refine ⟨r,h1,?_⟩
 rw [h2]
 cases r <;> cases r' <;> simp only at h3 ⊢
 ·obtain ⟨rfl,rfl⟩:=h3; exact ⟨rfl,rfl⟩
 ·obtain ⟨rfl,h3⟩:=h3; exact ⟨h3,rfl⟩
theorem outcome_ok (m : Machine) (d : Int) (p : List Int) (h1 : m.Regs.length ≤ 1048576) (h2 : m.Mem.length ≤ 1048576) (h3 : p.length ≤ 1048576) (hd : -9223372036854775808 ≤ d) (hd2 : d ≤ 9223372036854775807) :
  ∃ o,f3t m d p = some o ∧ f3v m d p = some o ∧ o.Out.length ≤ 1048576 ∧ (o.Items.length ≤ 3 ∧ ∀ x ∈ o.Items,x.length ≤ 4) ∧ o.Ended.length ≤ 3 ∧ (o.Ended = [] ∨ ∃ (q : Nat) (a b : Int),d = 4 * (q : Int) ∧ m.Mem[q]? = some a ∧ m.Mem[q + 1]? = some b ∧ (o.Ended.length : Int) = b ∧ o.Rest = (a == b) ∧ o.Out = p):=by
 obtain ⟨b,e1,e2,hb⟩:=mvm_ok m h1 h2
 have e1' : f1c (Machine.mk m.Regs m.Pc m.Mem) = some b:=e1
 have e2' : f0w (Machine.mk m.Regs m.Pc m.Mem) = some b:=e2
 have none_ok : ∀ {x y : Option Outcome},x = some (Outcome.mk [] [] [] false) → y = some (Outcome.mk [] [] [] false) → ∃ o,x = some o ∧ y = some o ∧ o.Out.length ≤ 1048576 ∧ (o.Items.length ≤ 3 ∧ ∀ x ∈ o.Items,x.length ≤ 4) ∧ o.Ended.length ≤ 3 ∧ (o.Ended = [] ∨ ∃ (q : Nat) (a b : Int),d = 4 * (q : Int) ∧ m.Mem[q]? = some a ∧ m.Mem[q + 1]? = some b ∧ (o.Ended.length : Int) = b ∧ o.Rest = (a == b) ∧ o.Out = p):=
  fun hx hy=>⟨_,hx,hy,by simp,by simp,by simp,.inl rfl⟩
 unfold f3t f3v
 rw [e1',e2',l4Words_ok p h3,areWords_ok p h3]
 cases b
 ·exact none_ok rfl rfl
 obtain ⟨hr,hm,hw⟩:=hb rfl
 cases hp : p.all word
 ·exact none_ok rfl rfl
 simp only [Option.bind_some,Bool.not_true,sel]
 unfold fa4
 by_cases hq : d < 0 ∨ Int.tmod d 4 ≠ 0
 ·have c1 : ((decide (d < 0)) || ((Int.tmod d 4) != 0)) = true:=by
   rcases hq with h | h
   ·simp [h]
   ·simp [h]
  have c2 : ((false || decide (d < 0)) || ((Int.tmod d 4) != 0)) = true:=by simpa using c1
  refine none_ok ?_ ?_
  ·rw [c1]; rfl
  ·rw [c2]; rfl
 ·obtain ⟨q,rfl⟩ : ∃ q : Nat,d = 4 * (q : Int):=by
   have hd0 : 0 ≤ d:=by omega
   have ht : Int.tmod d 4 = 0:=by
    rcases Decidable.em (Int.tmod d 4 = 0) with h | h
    ·exact h
    ·exact absurd (Or.inr h) hq
   rw [Int.tmod_eq_emod_of_nonneg hd0] at ht
   exact ⟨(d / 4).toNat,by omega⟩
  have ht : Int.tdiv (4 * (q : Int)) 4 = (q : Int):=by rw [Int.tdiv_eq_ediv_of_nonneg (by omega)]; omega
  have hm0 : Int.tmod (4 * (q : Int)) 4 = 0:=by rw [Int.tmod_eq_emod_of_nonneg (by omega)]; omega
  have wq : w64 (q : Int) = q:=w64_id (by omega) (by omega)
  have wq4 : w64 ((q : Int) + 4) = q + 4:=w64_id (by omega) (by omega)
  have wq1 : w64 ((q : Int) + 1) = ((q + 1 : Nat) : Int):=by rw [w64_id (by omega) (by omega)]; omega
  rw [ht,hm0,wq,wq4,wq1]
  have cN : decide (4 * (q : Int) < 0) = false:=by simp; omega
  rw [cN]
  by_cases hlen : (q : Int) + 4 > m.Mem.length
  ·have c7 : decide ((q : Int) + 4 > m.Mem.length) = true:=by simpa using hlen
   refine none_ok ?_ ?_
   ·rw [c7]; rfl
   ·by_cases h1' : ((q + 1 : Nat) : Int) ≥ m.Mem.length
    ·have c6 : decide (((q + 1 : Nat) : Int) ≥ m.Mem.length) = true:=by simpa using h1'
     rw [c6]; rfl
    ·have c3 : cut m.Mem (q : Int) (m.Mem.length : Int) = some (m.Mem.drop q):=by
      rw [cutm_ok (by omega) (by omega) (by omega)]
      simp
     have c4 : nth (m.Mem.drop q) 1 = some m.Mem[q + 1]:=by
      rw [nth_drop _ _ _ (by omega),← nth_at (l:=m.Mem) (i:=q + 1) (by omega)]; congr 1
     have c5 : (((decide (m.Mem[q + 1] < 1)) || (decide (m.Mem[q + 1] > 3))) || (decide ((w64 (28 + (w64 (16 * m.Mem[q + 1])))) > ((m.Mem.drop q).length : Int)))) = true:=by
      by_cases ha : 1 ≤ m.Mem[q + 1] ∧ m.Mem[q + 1] ≤ 3
      ·have v1 : w64 (16 * m.Mem[q + 1]) = 16 * m.Mem[q + 1]:=w64_id (by omega) (by omega)
       have v2 : w64 (28 + 16 * m.Mem[q + 1]) = 28 + 16 * m.Mem[q + 1]:=w64_id (by omega) (by omega)
       rw [v1,v2,List.length_drop]
       simp
       omega
      ·simp
       omega
     have c6 : decide (((q + 1 : Nat) : Int) ≥ m.Mem.length) = false:=by simpa using h1'
     rw [c6]
     simp only [Bool.or_false,Bool.false_or,bne_self_eq_false]
     rw [c3]
     simp only [Option.bind_some,c4]
     rw [c5]
  ·have c6 : decide (((q + 1 : Nat) : Int) ≥ m.Mem.length) = false:=by simp; omega
   have c7 : decide ((q : Int) + 4 > m.Mem.length) = false:=by simpa using hlen
   have c3 : cut m.Mem (q : Int) (m.Mem.length : Int) = some (m.Mem.drop q):=by
    rw [cutm_ok (by omega) (by omega) (by omega)]
    simp
   have c4 : nth (m.Mem.drop q) 1 = some m.Mem[q + 1]:=by
    rw [nth_drop _ _ _ (by omega),← nth_at (l:=m.Mem) (i:=q + 1) (by omega)]; congr 1
   have c0 : nth (m.Mem.drop q) 0 = some m.Mem[q]:=by
    rw [nth_drop _ _ _ (by omega),← nth_at (l:=m.Mem) (i:=q) (by omega)]; congr 1
   have c8 : nth m.Mem (q : Int) = some m.Mem[q]:=nth_at (by omega)
   have c9 : nth m.Mem ((q + 1 : Nat) : Int) = some m.Mem[q + 1]:=nth_at (by omega)
   rw [c6,c7]
   simp only [Bool.or_false,Bool.false_or,bne_self_eq_false]
   rw [c3]
   simp only [Option.bind_some,c4,c9,f02,c0,c8]
   by_cases ha : 1 ≤ m.Mem[q + 1] ∧ m.Mem[q + 1] ≤ 3
   ·have v1 : w64 (16 * m.Mem[q + 1]) = 16 * m.Mem[q + 1]:=w64_id (by omega) (by omega)
    have v2 : w64 (28 + 16 * m.Mem[q + 1]) = 28 + 16 * m.Mem[q + 1]:=w64_id (by omega) (by omega)
    have v3 : w64 ((q : Int) + 4 + 24) = q + 28:=by rw [w64_id (by omega) (by omega)]; omega
    have v4 : w64 ((q : Int) + 28 + 16 * m.Mem[q + 1]) = q + 28 + 16 * m.Mem[q + 1]:=w64_id (by omega) (by omega)
    rw [v1,v2,v3,v4]
    by_cases hf : (q : Int) + 28 + 16 * m.Mem[q + 1] ≤ m.Mem.length
    ·have k1 : (decide (m.Mem[q + 1] ≥ 1) && decide (m.Mem[q + 1] ≤ 3) && decide ((q : Int) + 28 + 16 * m.Mem[q + 1] ≤ m.Mem.length)) = true:=by simp [ha,hf]
     have k2 : (decide (m.Mem[q + 1] < 1) || decide (m.Mem[q + 1] > 3) || decide (28 + 16 * m.Mem[q + 1] > ((m.Mem.drop q).length : Int))) = false:=by
      rw [List.length_drop]; simp; omega
     rw [k1,k2]
     simp only [Bool.not_true]
     obtain ⟨r,g1,g2⟩:=items_ok m.Mem q (by omega) (by omega) (Outcome.mk [] [] [] false)
     unfold f8z
     have hcl : f0q p = some p:=by
      unfold f0q
      rw [app_ok (by simp only [List.length_nil]; omega)]
      rfl
     have happ : app 8 [] p = some p:=by rw [app_ok (by simp only [List.length_nil]; omega)]; rfl
     rw [g1,hcl,happ]
     cases r with
     | inl x =>
      obtain ⟨rfl,g3⟩:=g2
      rw [g3]
      exact none_ok rfl rfl
     | inr y =>
      obtain ⟨g3,g4⟩:=g2
      rw [g4]
      simp only [Option.bind_some,both,Bool.not_true]
      obtain ⟨z,z',f1,f2,rfl,f4⟩:=iter_sim (f:=f3x m (4 * (q : Int)) m.Mem[q + 1]) (g:=f3y (m.Mem.drop q) m.Mem[q + 1]) (fun s t=>s = t ∧ 0 ≤ s.1 ∧ s.1 ≤ m.Mem[q + 1] ∧ s.2.length = s.1.toNat) (fun s=>(m.Mem[q + 1] - s.1).toNat) (fun r r'=>r = r' ∧ r.length ≤ 3 ∧ (r.length : Int) = m.Mem[q + 1])
       (s:=(0,[])) (t:=(0,[])) (fun s t ⟨i1,i2,i3,i4⟩=>by
        subst i1
        obtain ⟨i,acc⟩:=s
        simp only at i2 i3 i4
        unfold f3x f3y
        by_cases hi : i < m.Mem[q + 1]
        ·left
         have u1 : w64 (16 * i) = 16 * i:=w64_id (by omega) (by omega)
         have u2 : w64 ((q : Int) + 28 + 16 * i) = q + 28 + 16 * i:=w64_id (by omega) (by omega)
         have u3 : w64 ((q : Int) + 28 + 16 * i + 13) = ((q + 41 + 16 * i.toNat : Nat) : Int):=by rw [w64_id (by omega) (by omega)]; omega
         have u4 : w64 (28 + 16 * i) = 28 + 16 * i:=w64_id (by omega) (by omega)
         have u5 : w64 (28 + 16 * i + 13) = 41 + 16 * i:=by rw [w64_id (by omega) (by omega)]; omega
         have u6 : nth (m.Mem.drop q) (41 + 16 * i) = some m.Mem[q + 41 + 16 * i.toNat]:=by
          rw [nth_drop _ _ _ (by omega),← nth_at (l:=m.Mem) (i:=q + 41 + 16 * i.toNat) (by omega)]; congr 1; omega
         simp only [hi,decide_true,sel,ht,wq,wq4,v3,u1,u2,u3,u4,u5,u6,nth_at (show q + 41 + 16 * i.toNat < m.Mem.length by omega),Option.bind_some]
         rw [app_ok (by simp only [List.length_singleton]; omega),w64_id (by omega) (by omega)]
         simp only [Option.bind_some]
         exact ⟨_,_,rfl,rfl,⟨rfl,by simp only; omega,by simp only; omega,by simp [i4]; omega⟩,by simp only; omega⟩
        ·right
         simp only [hi,decide_false,sel]
         exact ⟨_,_,rfl,rfl,rfl,by omega,by omega⟩) ⟨rfl,by omega,by omega,rfl⟩
      rw [f1,f2]
      refine ⟨_,rfl,rfl,h3,g3,f4.1,.inr ⟨q,m.Mem[q],m.Mem[q + 1],rfl,List.getElem?_eq_getElem _,List.getElem?_eq_getElem _,f4.2,rfl,rfl⟩⟩
    ·have k1 : (decide (m.Mem[q + 1] ≥ 1) && decide (m.Mem[q + 1] ≤ 3) && decide ((q : Int) + 28 + 16 * m.Mem[q + 1] ≤ m.Mem.length)) = false:=by simp [hf]
     have k2 : (decide (m.Mem[q + 1] < 1) || decide (m.Mem[q + 1] > 3) || decide (28 + 16 * m.Mem[q + 1] > ((m.Mem.drop q).length : Int))) = true:=by
      rw [List.length_drop]; simp; omega
     rw [k1,k2]
     exact none_ok rfl rfl
   ·have k1 : (decide (m.Mem[q + 1] ≥ 1) && decide (m.Mem[q + 1] ≤ 3)) = false:=by simp; omega
    have k2 : (decide (m.Mem[q + 1] < 1) || decide (m.Mem[q + 1] > 3)) = true:=by simp; omega
    rw [k1,k2]
    exact none_ok rfl rfl
end Go.Proofs.YtmpplggjpmmhlaaGreat.N
namespace Go.Proofs.YtmpplggjpmmhlaaGreat.N
open Go.Proofs.YtmpplggjpmmhlaaGreat.X
theorem sameLists_refl {l : List (List Int)} (hl : l.length ≤ 1048576) (h : ∀ x ∈ l,x.length ≤ 1048576) : f5u l l = some true:=by
 unfold f5u
 refine sel_to (by simp) ?_
 have e:=all_loop (f:=f3u l l) (l:=l) (fun _=>true) (by omega) (fun i hi=>by
  unfold f3u
  exact sel_tt' (by simpa using hi) (bind_to (nth_at hi) (bind_to (nth_at hi) (bind_to (sameInts_refl (l:=l[i]) (h _ (List.getElem_mem hi))) (sel_to rfl rfl))))) (by
  unfold f3u
  exact sel_to (by simp) rfl)
 rw [show l.all (fun _=>true) = true by simp] at e
 exact bind_to e rfl
theorem sameFlags_refl {l : List Bool} (hl : l.length ≤ 1048576) : f5q l l = some true:=by
 unfold f5q
 refine sel_to (by simp) ?_
 have e:=all_loop (f:=f3s l l) (l:=l) (fun _=>true) (by omega) (fun i hi=>by
  unfold f3s
  exact sel_tt' (by simpa using hi) (bind_to (nth_at hi) (bind_to (nth_at hi) (sel_to (by simp) rfl)))) (by
  unfold f3s
  exact sel_to (by simp) rfl)
 rw [show l.all (fun _=>true) = true by simp] at e
 exact bind_to e rfl
theorem sameOutcome_refl {o : Outcome} (h1 : o.Out.length ≤ 1048576) (h2 : o.Items.length ≤ 1048576) (h3 : ∀ x ∈ o.Items,x.length ≤ 1048576) (h4 : o.Ended.length ≤ 1048576) : f32 o o = some true:=by
 unfold f32
 exact bind_to (sameInts_refl h1) (bind_to (y:=true) (sel_tt' rfl (bind_to (sameLists_refl h2 h3) rfl)) (bind_to (y:=true) (sel_tt' rfl (bind_to (sameFlags_refl h4) rfl)) (by simp)))
theorem drawOut_tot {k : Nat} (hk : 20 ≤ k) {code : List Int} (h : ∀ x ∈ code,0 ≤ x ∧ x ≤ 255) : Tot (f2i k code) fun z=>z.1.Regs.length = 32 ∧ z.1.Mem.length ≤ 10000 ∧ -100000 ≤ z.2.1 ∧ z.2.1 ≤ 100000 ∧ z.2.2.length ≤ 2001:=by
 unfold f2i
 refine .bind (open_tot h) fun r ⟨hb,hp⟩=>.bind (image_dr (m:=0) hb hk (by rw [hp]; omega) (by rw [hp]; omega) (by omega)) fun z hz=>?_
 obtain ⟨z0,z1,hM,⟨a,ha,ha1,ha2⟩,ho⟩:=hz
 have r32:=hM.r32
 have m10:=hM.m10
 have t : Int.tdiv z.2.1 4 = (a : Int):=by rw [ha,Int.tdiv_eq_ediv_of_nonneg (by omega)]; omega
 have w1 : w64 (w64 (Int.tdiv z.2.1 4) + 5) = ((a + 5 : Nat) : Int):=by rw [t,w64_id (x:=(a : Int)) (by omega) (by omega),w64_id (by omega) (by omega)]; omega
 rw [w1]
 refine .bind (P:=fun q=>-100000 ≤ q.1 ∧ q.1 ≤ 100000 ∧ q.2.1.length ≤ 2001 ∧ q.2.2.2.length ≤ 10000) (.bind (pick_dr hb z0 z1 (by omega) (by omega) (by omega)) fun p1 hp1=>.sel (fun _=>.bind (pick_dr hb hp1.1 hp1.2.1 (by omega) (by omega) (by omega)) fun p2 hp2=>.bind (.nth hp2.2.2.1 (by simpa using hp2.2.2.2)) fun x ⟨_,hx⟩=>.pure ?_) fun _ =>
  .sel (fun _=>.bind (.nth (by omega) (by omega)) fun x _=>.bind (.upd (by omega) (by omega)) fun u hu=>.pure ?_) fun _=>.sel (fun _=>.bind (.app (by simp; omega)) fun u hu=>.pure ?_) fun _=>.pure ?_) fun q hq=>.pure ?_
 ·simp only [List.mem_cons,List.not_mem_nil,or_false] at hx
  have hw : w64 (z.2.1 + x) = z.2.1 + x:=w64_id (by omega) (by omega)
  refine ⟨?_,?_,by simp only; omega,by simp only; omega⟩
  ·simp only [hw]; omega
  ·simp only [hw]; omega
 ·subst hu
  exact ⟨by simp only; omega,by simp only; omega,by simp only; omega,by simp only [List.length_set]; omega⟩
 ·subst hu
  exact ⟨by simp only; omega,by simp only; omega,by simp only [List.length_append,List.length_singleton]; omega,by simp only; omega⟩
 ·exact ⟨by simp only; omega,by simp only; omega,by simp only; omega,by simp only; omega⟩
 ·obtain ⟨q1,q2,q3,q4⟩:=hq
  exact ⟨r32,q4,q1,q2,q3⟩
theorem law_outcome {k : Nat} (hk : 20 ≤ k) {a0 : List Int} (h : ∀ x ∈ a0,0 ≤ x ∧ x ≤ 255) : f4o k a0 = some true:=by
 refine Tot.eq ?_
 unfold f4o
 refine .sel (fun _=>.pure rfl) fun hlen=>.bind (drawOut_tot hk h) fun z hz=>?_
 obtain ⟨m,d,p⟩:=z
 obtain ⟨h1,h2,h3,h4,h5⟩:=hz
 simp only at h1 h2 h3 h4 h5
 obtain ⟨o,e1,e2,o1,⟨o2,o3⟩,o4,o5⟩:=outcome_ok m d p (by omega) (by omega) (by omega) (by omega) (by omega)
 have hS:=sameOutcome_refl (o:=o) o1 (by omega) (fun x hx=>by have:=o3 x hx; omega) (by omega)
 refine .of (bind_to e2 (bind_to e1 (bind_to hS ?_))) rfl
 cases hE : ((o.Ended.length : Int) == 0)
 ·refine sel_to rfl ?_
  have L:=all_loop (f:=f27 o) (l:=o.Items) (fun _=>true) (by omega) (fun i hi=>by
   have:=o3 _ (List.getElem_mem hi)
   unfold f27
   exact sel_tt' (by simpa using hi) (bind_to (nth_at hi) (sel_to (by simp; omega) rfl))) (by
   unfold f27
   exact sel_to (by simp) rfl)
  rw [show o.Items.all (fun _=>true) = true by simp] at L
  refine bind_to L ?_
  dsimp only [both,cond_true]
  rcases o5 with o5 | ⟨q,a,b,rfl,m1,m2,k1,k2,k3⟩
  ·rw [o5] at hE; cases hE
  ·have hq : q < m.Mem.length:=by rcases Nat.lt_or_ge q m.Mem.length with h | h; exact h; rw [List.getElem?_eq_none h] at m1; cases m1
   have t : Int.tdiv (4 * (q : Int)) 4 = (q : Int):=by rw [Int.tdiv_eq_ediv_of_nonneg (by omega)]; omega
   have w0 : w64 (q : Int) = (q : Int):=w64_id (by omega) (by omega)
   have w1 : w64 ((q : Int) + 1) = ((q + 1 : Nat) : Int):=by rw [w64_id (by omega) (by omega)]; omega
   have n0 : nth m.Mem (q : Int) = some a:=by unfold nth; rw [if_neg (by omega)]; simpa using m1
   have n1 : nth m.Mem ((q + 1 : Nat) : Int) = some b:=by unfold nth; rw [if_neg (by omega)]; simpa using m2
   rw [t,w0,w1,k3]
   refine bind_to (sameInts_refl (by omega)) (bind_to (y:=true) (sel_tt' (by simp; omega) (bind_to n1 (by rw [k1]; simp))) (bind_to (y:=true) (sel_tt' rfl (bind_to n0 (by rw [k1,k2]; simp))) rfl))
 ·exact sel_tt' rfl (bind_to hS rfl)
end Go.Proofs.YtmpplggjpmmhlaaGreat.N
