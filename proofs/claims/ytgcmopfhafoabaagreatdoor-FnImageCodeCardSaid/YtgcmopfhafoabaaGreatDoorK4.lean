/- Plain laws: DeadCode and SqueezeCode keep a eQ valid; a eQ is optimized. Plain laws: SqueezeCode keeps a eQ valid; a eQ is optimized. Plain laws: expres -/
import Derived.Test.YtgcmopfhafoabaaGreatDoorK3
set_option linter.unusedVariables false
set_option linter.unusedSimpArgs false
set_option maxRecDepth 100000
set_option maxHeartbeats 4000000
namespace Go.Proofs.YtgcmopfhafoabaaGreatDoor.N
open Go.Proofs.YtgcmopfhafoabaaGreatDoor.X
noncomputable section
def nx (q : ah) (i : Int) : List Int:=if q.Op = 10 then [] else if q.Op = 4 then [q.N] else if q.Op = 5 ∧ q.N < i + 1 then [q.N,i + 1] else if q.Op = 5 ∧ q.N > i + 1 then [i + 1,q.N] else [i + 1]
theorem uZ {eQ : List ah} {i : Int} {q : ah} (h0 : 0 ≤ i) (hi : eQ[i.toNat]? = some q) (hl : i ≤ 1000) : dy eQ i = some (nx q i):=by
 refine Tot.eq ?_
 have hlt : i.toNat < eQ.length:=by
  rcases Nat.lt_or_ge i.toNat eQ.length with h | h
  ·exact h
  ·rw [List.getElem?_eq_none h] at hi; cases hi
 unfold dy
 refine .bind (.nth h0 (by omega)) fun q' ⟨hq,_⟩=>?_
 obtain rfl : q = q':=o9 (hi.symm.trans hq)
 rw [bE h0 (by omega)]
 unfold nx
 refine .sel (fun h=>.pure ?_) fun e1=>.sel (fun h=>.pure ?_) fun e2=>.sel (fun h=>.pure ?_) fun e3=>.sel (fun h=>.pure ?_) fun e4=>.pure ?_
 all_goals simp only [beq_iff_eq,beq_eq_false_iff_ne,ne_eq,Bool.and_eq_true,Bool.and_eq_false_iff,decide_eq_true_eq,decide_eq_false_iff_not] at *
 ·rw [if_pos h]
 ·rw [if_neg e1,if_pos h]
 ·rw [if_neg e1,if_neg e2,if_pos h]
 ·rw [if_neg e1,if_neg e2,if_neg (by omega),if_pos h]
 ·rw [if_neg e1,if_neg e2,if_neg (by omega),if_neg (by omega)]
theorem BL {eQ : List ah} (hc : COk eQ) {i : Nat} {q : ah} (hi : eQ[i]? = some q) : ∀ x ∈ nx q i,0 ≤ x ∧ x < eQ.length:=by
 have hlt : i < eQ.length:=by
  rcases Nat.lt_or_ge i eQ.length with h | h
  ·exact h
  ·rw [List.getElem?_eq_none h] at hi; cases hi
 have hm:=hc.max
 obtain ⟨l,e,h1,h2⟩:=tq hc (i:=i) (by omega) (by omega)
 rw [uZ (by omega) (by simpa using hi) (by omega)] at e
 injection e with e
 exact e ▸ h2
def lZ (q : ah) : List Int:=if q.Op = 2 ∨ q.Op = 5 ∨ q.Op = 6 ∨ q.Op = 9 then [q.A] else if q.Op = 3 then (if q.A = q.B then [q.A] else [min q.A q.B,max q.A q.B]) else []
def ms (q : ah) : Int:=if q.Op = 1 ∨ q.Op = 2 ∨ q.Op = 3 ∨ q.Op = 7 then q.Dst else -1
theorem A6 {q : ah} {m : Int} (h : QOk m q) (hm : m ≤ 600) : iG q = some (lZ q):=by
 refine Tot.eq ?_
 unfold iG lZ
 rw [uV,decide_eq_true (QOk.v (h.mono hm)),ob9]
 refine .sf rfl (.bind (P:=fun b=>b = true ↔ (q.Op = 2 ∨ q.Op = 5 ∨ q.Op = 6 ∨ q.Op = 9)) (.sel (fun h=>.pure ?_) fun h=>.sel (fun h'=>.pure ?_) fun h'=>.sel (fun h''=>.pure ?_) fun h''=>.pure ?_) fun b hb=>.sel (fun h=>.pure ?_) fun h=>.sel (fun h'=>.sel (fun h''=>.pure ?_) fun h''=>.pure ?_) fun h'=>.pure ?_)
 all_goals try simp only [beq_iff_eq,beq_eq_false_iff_ne,ne_eq] at *
 ·simp [h]
 ·simp [h']
 ·simp [h'']
 ·simp [h,h',h'']
 ·rw [if_pos (hb.1 h)]
 ·rw [if_neg (fun hh=>by rw [hb.2 hh] at h; cases h),if_pos h',if_pos h'']
 ·rw [if_neg (fun hh=>by rw [hb.2 hh] at h; cases h),if_pos h',if_neg h'']
 ·rw [if_neg (fun hh=>by rw [hb.2 hh] at h; cases h),if_neg h']
theorem A7 {q : ah} {m : Int} (h : QOk m q) : ∀ x ∈ lZ q,Rg x:=by
 intro x hx
 unfold lZ at hx
 unfold QOk at h
 split at hx
 ·rename_i h'
  rw [List.mem_singleton.1 hx]
  unfold Rg at *; omega
 ·split at hx
  ·rename_i h3
   simp [h3] at h
   split at hx
   ·rw [List.mem_singleton.1 hx]; exact h.2.1
   ·simp only [List.mem_cons,List.not_mem_nil,or_false] at hx
    unfold Rg at *; omega
  ·simp at hx
theorem zy {q : ah} {m : Int} (h : QOk m q) (hm : m ≤ 600) : dz q = some (ms q):=xG q h hm
theorem zA {q : ah} {m : Int} (h : QOk m q) : ms q = -1 ∨ Rg (ms q):=by
 unfold ms
 unfold QOk at h
 split
 ·right; unfold Rg at *; omega
 ·exact .inl rfl
def Fn (l : List Bool) (g : Nat → Bool) : Prop:=l.length = 12 ∧ ∀ k,k < 12 → l[k]? = some (g k)
theorem Fn.ext {l : List Bool} {g g' : Nat → Bool} (h : Fn l g) (he : ∀ k,k < 12 → g k = g' k) : Fn l g':=⟨h.1,fun k hk=>by rw [h.2 k hk,he k hk]⟩
theorem Fn.set {l : List Bool} {g : Nat → Bool} (h : Fn l g) (i : Nat) (b : Bool) : Fn (l.set i b) (fun k=>if k = i then b else g k):=⟨by rw [List.length_set]; exact h.1,fun k hk=>by
 by_cases e : k = i
 ·subst e; have : k < l.length:=by rw [h.1]; exact hk
  rw [List.getElem?_set_self this]; simp
 ·rw [List.getElem?_set_ne (fun h=>e h.symm),h.2 k hk]; simp [e]⟩
theorem Fn.rep (b : Bool) : Fn (List.replicate 12 b) (fun _=>b):=⟨by simp,fun k hk=>by rw [List.getElem?_replicate,if_pos hk]⟩
theorem Fn.inj {l l' : List Bool} {g : Nat → Bool} (h : Fn l g) (h' : Fn l' g) : l = l':=by
 apply List.ext_getElem?
 intro k
 rcases Nat.lt_or_ge k 12 with hk | hk
 ·rw [h.2 k hk,h'.2 k hk]
 ·rw [List.getElem?_eq_none (by rw [h.1]; exact hk),List.getElem?_eq_none (by rw [h'.1]; exact hk)]
def tB (n : Nat) (live : List (List Bool)) : Prop:=live.length = n ∧ ∀ l ∈ live,l.length = 12
def lv (live : List (List Bool)) (x : Int) (r : Nat) : Bool:=(((live[x.toNat]?).getD [])[r]?).getD false
theorem C9 {live : List (List Bool)} {x : Int} {l : List Bool} (h : live[x.toNat]? = some l) : (fun r=>lv live x r) = fun k=>(l[k]?).getD false:=by funext r; unfold lv; rw [h]; rfl
def nl (live : List (List Bool)) (q : ah) (i : Int) (r : Nat) : Bool:=(nx q i).any fun x=>lv live x r
theorem tC {eQ : List ah} (hc : COk eQ) {live : List (List Bool)} (hl : tB eQ.length live) {i : Int} {q : ah} (h0 : 0 ≤ i) (hi : eQ[i.toNat]? = some q) : Tot (fT eQ live i) fun l => Fn l (nl live q i) := by
  have hlt : i.toNat < eQ.length := by
    rcases Nat.lt_or_ge i.toNat eQ.length with h | h
    · exact h
    · rw [List.getElem?_eq_none h] at hi; cases hi
  have hmx := hc.max
  have hnx := BL hc hi
  rw [show ((i.toNat : Nat) : Int) = i by omega] at hnx
  have hlen : (nx q i).length ≤ 2 := by unfold nx; repeat' split
                                        all_goals simp
  unfold fT
  rw [uZ h0 hi (by omega)]
  refine .bind (.mk (by omega) (by decide)) fun l0 hl0 => ?_
  subst hl0
  rw [ob9]
  refine .bind (P := fun l => Fn l (nl live q i)) (.iter (fun s => 0 ≤ s.1 ∧ s.1 ≤ ((nx q i).length : Int) ∧ Fn s.2 (fun r => ((nx q i).take s.1.toNat).any fun x => lv live x r)) (fun s => (((nx q i).length : Int) - s.1).toNat) ⟨by simp, by simp, ?_⟩ fun s hs => ?_) fun l h => .pure h
  · exact (Fn.rep false).ext fun k _ => by simp
  obtain ⟨j, l⟩ := s
  obtain ⟨g0, g1, g2⟩ := hs
  simp only at g0 g1 g2
  unfold km
  refine .sel (fun hlt' => ?_) fun hge => .inr (show Fn l (nl live q i) from ?_)
  · simp only [decide_eq_true_eq] at hlt'
    have hj : j.toNat < (nx q i).length := by omega
    obtain ⟨x, hx⟩ : ∃ x, (nx q i)[j.toNat]? = some x := ⟨_, List.getElem?_eq_getElem hj⟩
    have hxm := hnx x (List.mem_of_getElem? hx)
    refine .bind (P := fun l' => Fn l' (fun r => ((nx q i).take (j + 1).toNat).any fun x => lv live x r)) (.iter (fun s => 0 ≤ s.1 ∧ s.1 ≤ 12 ∧ Fn s.2 (fun r => (((nx q i).take j.toNat).any fun x => lv live x r) || (decide ((r : Int) < s.1) && lv live x r))) (fun s => (12 - s.1).toNat) ⟨by simp, by simp, ?_⟩ fun s hs => ?_) fun l' h' => .inl ?_
    · refine g2.ext fun k _ => ?_
      have : decide ((k : Int) < 0) = false := by simp
      simp only [this, Bool.false_and, Bool.or_false]
    · obtain ⟨r, l'⟩ := s
      obtain ⟨k0, k1, k2⟩ := hs
      simp only at k0 k1 k2
      unfold kl
      refine .sel (fun hr => ?_) fun hr => .inr (show Fn l' _ from k2.ext fun k hk => ?_)
      · simp only [decide_eq_true_eq] at hr
        have hrl : r < l'.length := by rw [k2.1]; exact hr
        have hr12 : r.toNat < 12 := by omega
        refine .bind (.nth k0 hrl) fun y ⟨hy, _⟩ => ?_
        have hy' := k2.2 r.toNat hr12
        rw [hy] at hy'
        injection hy' with hy'
        simp only at hy'
        refine .bind (P := fun b => b = (y || lv live x r.toNat)) (.sel (fun h => .pure (by rw [h]; rfl)) fun h => ?_) fun b hb => .bind (.nth k0 hrl) fun _ _ => .bind (.upd k0 hrl) fun r2 hr2 => .inl ?_
        · refine .bind (.nth g0 hlt') fun x2 ⟨hx2, _⟩ => ?_
          obtain rfl : x = x2 := o9 (hx.symm.trans hx2)
          refine .bind (.nth hxm.1 (by rw [hl.1]; exact hxm.2)) fun lx ⟨hlx, hlm⟩ => .bind (.nth k0 (by rw [hl.2 lx hlm]; exact hr)) fun z ⟨hz, _⟩ => .pure ?_
          rw [h]
          unfold lv
          rw [hlx]
          simp [hz]
        · subst hr2 hb
          rw [bE k0 (by omega)]
          refine ⟨⟨by simp only; omega, by simp only; omega, (k2.set r.toNat _).ext fun k hk => ?_⟩, by simp only; omega⟩
          simp only
          split
          · rename_i e
            subst e
            rw [hy']
            have h1 : decide (((r.toNat : Nat) : Int) < r) = false := by simp; omega
            have h2 : decide (((r.toNat : Nat) : Int) < r + 1) = true := by simp; omega
            rw [h1, h2]; simp
          · rename_i e
            have : decide ((k : Int) < r) = decide ((k : Int) < r + 1) := by rw [decide_eq_decide]; omega
            rw [this]
      · simp only [decide_eq_false_iff_not] at hr
        have h1 : decide ((k : Int) < r) = true := by simp; omega
        rw [h1, show (j + 1).toNat = j.toNat + 1 by omega, List.take_add_one, hx]
        simp [List.any_append]
    · rw [bE g0 (by omega)]
      exact ⟨⟨by simp only; omega, by simp only; omega, h'⟩, by simp only; omega⟩
  · simp only [decide_eq_false_iff_not] at hge
    refine g2.ext fun k _ => ?_
    rw [List.take_of_length_le (by omega)]
    rfl
def wT (q : ah) (g : Nat → Bool) (r : Nat) : Bool:=(lZ q).contains (r : Int) || (!decide ((r : Int) = ms q) && g r)
theorem vY {q : ah} {m : Int} (hq : QOk m q) (hm : m ≤ 600) {l : List Bool} {g : Nat → Bool} (hl : Fn l g) : Tot (gp q l) fun l' => Fn l' (wT q g) := by
  unfold gp
  rw [zy hq hm, A6 hq hm]
  refine .bind (.app (by simp [hl.1])) fun r hr => ?_
  rw [List.nil_append] at hr
  subst hr
  simp only [ob9]
  have hs := zA hq
  refine .bind (P := fun l' => Fn l' (fun r => !decide ((r : Int) = ms q) && g r)) (.sel (fun h => ?_) fun h => .pure (hl.ext fun k _ => ?_)) fun l1 h1 => ?_
  · simp only [ge_iff_le, decide_eq_true_eq] at h
    have hr : Rg (ms q) := hs.resolve_left (by omega)
    refine .bind (.nth (hr.lt hl.1).1 (hr.lt hl.1).2) fun _ _ => .bind (.upd (hr.lt hl.1).1 (hr.lt hl.1).2) fun r2 hr2 => .pure (hr2 ▸ (hl.set _ _).ext fun k _ => ?_)
    by_cases e : (k : Int) = ms q
    · have h1 : k = (ms q).toNat := by omega
      have h2 : decide ((k : Int) = ms q) = true := by simpa using e
      simp only [h2, if_pos h1, Bool.not_true, Bool.false_and]
    · have h1 : ¬ k = (ms q).toNat := by unfold Rg at hr; omega
      have h2 : decide ((k : Int) = ms q) = false := by simpa using e
      simp only [h2, if_neg h1, Bool.not_false, Bool.true_and]
  · simp only [ge_iff_le, decide_eq_false_iff_not] at h
    have : ¬ (k : Int) = ms q := by omega
    simp [this]
  have hlen : (lZ q).length ≤ 2 := by unfold lZ; repeat' split
                                      all_goals simp
  refine .bind (P := fun l' => Fn l' (wT q g)) (.iter (fun s => 0 ≤ s.1 ∧ s.1 ≤ ((lZ q).length : Int) ∧ Fn s.2 (fun r => ((lZ q).take s.1.toNat).contains (r : Int) || (!decide ((r : Int) = ms q) && g r))) (fun s => (((lZ q).length : Int) - s.1).toNat) ⟨by simp, by simp, h1.ext fun k _ => by simp⟩ fun s hs => ?_) fun l h => .pure h
  obtain ⟨j, l2⟩ := s
  obtain ⟨g0, g1, g2⟩ := hs
  simp only at g0 g1 g2
  unfold jy
  refine .sel (fun hlt => ?_) fun hge => .inr (show Fn l2 (wT q g) from g2.ext fun k _ => ?_)
  · simp only [decide_eq_true_eq] at hlt
    refine .bind (.nth g0 hlt) fun x ⟨hx, hxm⟩ => ?_
    have hr := A7 hq x hxm
    refine .bind (.nth (hr.lt g2.1).1 (hr.lt g2.1).2) fun _ _ => .bind (.upd (hr.lt g2.1).1 (hr.lt g2.1).2) fun r2 hr2 => .inl ?_
    subst hr2
    rw [bE g0 (by omega)]
    refine ⟨⟨by simp only; omega, by simp only; omega, (g2.set _ _).ext fun k _ => ?_⟩, by simp only; omega⟩
    have hx0 := (hr.lt g2.1).1
    have ht : (lZ q).take (j + 1).toNat = (lZ q).take j.toNat ++ [x] := by rw [show (j + 1).toNat = j.toNat + 1 by omega, List.take_add_one, hx]; rfl
    simp only [ht]
    by_cases e : (k : Int) = x
    · have h1 : k = x.toNat := by omega
      have h2 : ((lZ q).take j.toNat ++ [x]).contains (k : Int) = true := by rw [e]; simp
      rw [if_pos h1, h2, Bool.true_or]
    · have h1 : ¬ k = x.toNat := by omega
      have h2 : ((lZ q).take j.toNat ++ [x]).contains (k : Int) = ((lZ q).take j.toNat).contains (k : Int) := by
        rw [Bool.eq_iff_iff]; simp [e]
      rw [if_neg h1, h2]
  · simp only [decide_eq_false_iff_not] at hge
    rw [List.take_of_length_le (by omega)]
    rfl
theorem zB {a b : List Bool} (ha : a.length = 12) (hb : b.length = 12) : Tot (jz a b) fun z=>z = true ↔ a = b:=by
 unfold jz
 refine .bind (P:=fun z=>match z with | .inl y=>y = false ∧ a ≠ b | .inr _=>a = b) (.iter (fun i : Int=>0 ≤ i ∧ i ≤ 12 ∧ ∀ (j : Nat),(j : Int) < i → a[j]? = b[j]?) (fun i=>(12 - i).toNat) ⟨by omega,by omega,fun j h=>by omega⟩ fun i ⟨h0,h1,h2⟩=>?_) fun z hz=>?_
 ·unfold lf
  refine .sel (fun h=>?_) fun h=>.inr ?_
  ·simp only [decide_eq_true_eq] at h
   refine .bind (.nth h0 h) fun x ⟨hx,_⟩=>.bind (.nth h0 (by omega)) fun y ⟨hy,_⟩=>.sel (fun he=>.inr ⟨rfl,?_⟩) fun he=>.inl ?_
   ·rintro rfl
    rw [hx] at hy
    injection hy with hy
    subst hy
    simp at he
   ·rw [bE h0 (by omega)]
    refine ⟨⟨by omega,by omega,fun j hj=>?_⟩,by omega⟩
    by_cases e : (j : Int) = i
    ·obtain rfl : j = i.toNat:=by omega
     rw [hx,hy]
     simpa using he
    ·exact h2 j (by omega)
  ·simp only [decide_eq_false_iff_not] at h
   apply List.ext_getElem?
   intro j
   rcases Nat.lt_or_ge j 12 with hj | hj
   ·exact h2 j (by omega)
   ·rw [List.getElem?_eq_none (by omega),List.getElem?_eq_none (by omega)]
 ·refine .both (fun y e=>?_) fun _ e=>?_
  ·subst e; exact .pure (by rw [hz.1]; simpa using hz.2)
  ·subst e; exact .pure (by simp [ha,hb]; exact hz)
def bm (l : List Bool) : Nat:=(l.map fun b=>if b then 0 else 1).sum
theorem BM : ∀ {l x : List Bool},l.length = x.length → (∀ k : Nat,l[k]? = some true → x[k]? = some true) → bm x ≤ bm l ∧ (x ≠ l → bm x < bm l)
 | [],[],_,_=>⟨Nat.le_refl _,fun h=>absurd rfl h⟩
 | [],_ :: _,h,_=>by simp at h
 | _ :: _,[],h,_=>by simp at h
 | a :: l,b :: x,h,hk=>by
  obtain ⟨h1,h2⟩:=BM (l:=l) (x:=x) (by simpa using h) fun k hl=>by simpa using hk (k + 1) (by simpa using hl)
  have h0:=hk 0
  simp only [List.getElem?_cons_zero,Option.some.injEq] at h0
  have e1 : bm (a :: l) = (if a then 0 else 1) + bm l:=by simp [bm]
  have e2 : bm (b :: x) = (if b then 0 else 1) + bm x:=by simp [bm]
  rw [e1,e2]
  cases a <;> cases b <;> simp at h0 ⊢
  ·exact ⟨h1,h2⟩
  ·omega
  ·exact ⟨h1,h2⟩
def bms (live : List (List Bool)) : Nat:=(live.map bm).sum
def Pre (eQ : List ah) (live : List (List Bool)) : Prop:=∀ (i : Nat) q,eQ[i]? = some q → ∀ r,r < 12 → lv live i r = true → wT q (nl live q i) r = true
theorem wU {live live' : List (List Bool)} (h : ∀ (x : Int) r,lv live x r = true → lv live' x r = true) {q : ah} {i : Int} {r : Nat} (ha : nl live q i r = true) : nl live' q i r = true:=by
 unfold nl at *
 rw [List.any_eq_true] at *
 obtain ⟨x,hx,hr⟩:=ha
 exact ⟨x,hx,h x r hr⟩
theorem zC {q : ah} {g g' : Nat → Bool} {r : Nat} (h : g r = true → g' r = true) (hb : wT q g r = true) : wT q g' r = true:=by
 unfold wT at *
 simp only [Bool.or_eq_true,Bool.and_eq_true] at *
 exact hb.imp id fun hh=>⟨hh.1,h hh.2⟩
theorem wV {eQ : List ah} (hc : COk eQ) {live : List (List Bool)} (hl : tB eQ.length live) (hp : Pre eQ live) : Tot (iH eQ live) fun r=>tB eQ.length r.2 ∧ Pre eQ r.2 ∧ (r.1 = true → bms r.2 < bms live):=by
 have hmx:=hc.max
 unfold iH
 rw [a7 (by omega) (by omega)]
 refine .bind (.iter (fun s=>-1 ≤ s.2.1 ∧ s.2.1 < (eQ.length : Int) ∧ tB eQ.length s.2.2 ∧ Pre eQ s.2.2 ∧ bms s.2.2 ≤ bms live ∧ (s.1 = true → bms s.2.2 < bms live)) (fun s=>(s.2.1 + 1).toNat) ⟨by simp only; omega,by simp only; omega,hl,hp,by simp,by simp⟩ fun s hs=>?_) fun r (hr : tB eQ.length r.2 ∧ Pre eQ r.2 ∧ bms r.2 ≤ bms live ∧ (r.1 = true → bms r.2 < bms live))=>.pure ⟨hr.1,hr.2.1,hr.2.2.2⟩
 obtain ⟨mC,i,a⟩:=s
 obtain ⟨g0,g1,g2,g3,g4,g5⟩:=hs
 simp only at g0 g1 g2 g3 g4 g5
 unfold ko
 refine .sel (fun h=>?_) fun h=>.inr ⟨g2,g3,g4,g5⟩
 simp only [ge_iff_le,decide_eq_true_eq] at h
 refine .bind (P:=fun z=>tB eQ.length z.2 ∧ Pre eQ z.2 ∧ bms z.2 ≤ bms live ∧ (z.1 = true → bms z.2 < bms live)) ?_ fun z hz=>.inl ?_
 ·refine .bind (.nth h g1) fun q ⟨hq,hqm⟩=>.bind (tC hc g2 h hq) fun af haf=>.bind (vY (hc.q q hqm) (by omega) haf) fun x hx=>.bind (.nth h (by rw [g2.1]; exact g1)) fun l ⟨hl',hlm⟩=>?_
  have hl12:=g2.2 l hlm
  refine .bind (zB hx.1 hl12) fun sm hsm=>.sel (fun hne=>.pure ?_) fun _=>.pure ⟨g2,g3,g4,g5⟩
  have hxl : x ≠ l:=fun e=>by rw [hsm.2 e] at hne; cases hne
  have hlv:=C9 hl'
  have hsub : ∀ k,l[k]? = some true → x[k]? = some true:=fun k hk=>by
   have hk12 : k < 12:=by
    rcases Nat.lt_or_ge k l.length with h | h
    ·omega
    ·rw [List.getElem?_eq_none h] at hk; cases hk
   have h1 : lv a i k = true:=by have:=congrFun hlv k; simp only at this; rw [this,hk]; rfl
   have h2:=g3 i.toNat q hq k hk12 (by rw [show ((i.toNat : Nat) : Int) = i by omega]; exact h1)
   rw [show ((i.toNat : Nat) : Int) = i by omega] at h2
   rw [hx.2 k hk12,h2]
  have hb:=(BM (by rw [hx.1,hl12]) hsub).2 hxl
  have e2 : bms (a.set i.toNat x) + bm l = bms a + bm x:=nj bm x hl'
  have hlen : i.toNat < a.length:=by rw [g2.1]; omega
  have hle : ∀ (y : Int) r,lv a y r = true → lv (a.set i.toNat x) y r = true:=fun y r hy=>by
   unfold lv at *
   by_cases e : y.toNat = i.toNat
   ·rw [e] at hy ⊢
    rw [hl'] at hy
    rw [List.getElem?_set_self hlen]
    simp only [Option.getD_some] at *
    have hlr : l[r]? = some true:=by
     cases hq' : l[r]? with
     | none=>rw [hq'] at hy; simp at hy
     | some b=>rw [hq'] at hy; simp at hy; rw [hy]
    rw [hsub r hlr]; rfl
   ·rw [List.getElem?_set_ne (fun h=>e h.symm)]; exact hy
  refine ⟨⟨by rw [List.length_set]; exact g2.1,fun y hy=>(pR hy).elim (g2.2 y) fun e=>e ▸ hx.1⟩,fun j p hj r hr hlr=>?_,by simp only; omega,fun _=>by simp only; omega⟩
  have hmono : ∀ r,nl a p j r = true → nl (a.set i.toNat x) p j r = true:=fun r=>wU hle
  refine zC (hmono r) ?_
  by_cases e : j = i.toNat
  ·subst e
   obtain rfl : q = p:=o9 (hq.symm.trans hj)
   unfold lv at hlr
   rw [show (((i.toNat : Nat) : Int)).toNat = i.toNat by omega,List.getElem?_set_self hlen] at hlr
   simp only [Option.getD_some] at hlr
   rw [hx.2 r hr] at hlr
   rw [show ((i.toNat : Nat) : Int) = i by omega]
   exact hlr
  ·refine g3 j p hj r hr ?_
   unfold lv at hlr ⊢
   rw [show (((j : Nat) : Int)).toNat = j by omega] at *
   rw [List.getElem?_set_ne (fun h=>e h.symm)] at hlr
   exact hlr
 ·rw [a7 (i:=i - 1) (by omega) (by omega)]
  exact ⟨⟨by simp only; omega,by simp only; omega,hz⟩,by simp only; omega⟩
theorem zD {eQ : List ah} (hc : COk eQ) : Tot (kU eQ) (tB eQ.length):=by
 have hmx:=hc.max
 unfold kU
 rw [cK hc,ob9]
 refine .sf rfl (.bind (P:=fun s=>tB eQ.length s ∧ ∀ x r,lv s x r = false) (.iter (fun s=>0 ≤ s.2 ∧ s.2 ≤ (eQ.length : Int) ∧ s.1 = List.replicate s.2.toNat (List.replicate 12 false)) (fun s=>((eQ.length : Int) - s.2).toNat) ⟨by simp,by simp,by simp⟩ fun s hs=>?_) fun a0 ha0=>.bind (P:=tB eQ.length) (.iter (fun s=>tB eQ.length s ∧ Pre eQ s) bms ⟨ha0.1,fun i q _ r _ h=>by rw [ha0.2] at h; cases h⟩ fun s hs=>?_) fun r hr=>.pure hr)
 ·obtain ⟨a,i⟩:=s
  obtain ⟨g0,g1,g2⟩:=hs
  simp only at g0 g1 g2
  unfold lO
  refine .sel (fun hlt=>?_) fun hlt=>.inr (show tB eQ.length a ∧ ∀ x r,lv a x r = false from ?_)
  ·simp only [decide_eq_true_eq] at hlt
   refine .bind (.mk (by omega) (by decide)) fun l hl'=>.bind (.app (by rw [g2]; simp; omega)) fun r hr=>.inl ?_
   subst hr hl' g2
   rw [bE g0 (by omega)]
   refine ⟨⟨by simp only; omega,by simp only; omega,?_⟩,by simp only; omega⟩
   simp only
   rw [show (i + 1).toNat = i.toNat + 1 by omega]
   rw [List.replicate_succ' (n:=i.toNat)]
   rfl
  ·simp only [decide_eq_false_iff_not] at hlt
   subst g2
   refine ⟨⟨by simp; omega,fun l hl=>by rw [(List.mem_replicate.1 hl).2]; simp⟩,fun x r=>?_⟩
   unfold lv
   rw [List.getElem?_replicate]
   split
   ·rw [Option.getD_some,List.getElem?_replicate]
    split <;> rfl
   ·rfl
 ·unfold lP
  exact .bind (wV hc hs.1 hs.2) fun r hr=>.sel (fun h=>.inl ⟨⟨hr.1,hr.2.1⟩,hr.2.2 h⟩) fun _=>.inr hr.1
theorem zE {q : ah} {m : Int} (hq : QOk m q) {l : List Bool} (hl : l.length = 12) : Tot (jA q l) fun b=>b = true → q.Op = 1 ∨ q.Op = 2 ∨ q.Op = 3:=by
 unfold jA
 refine .bind (P:=fun b=>b = true ↔ (q.Op = 1 ∨ q.Op = 2 ∨ q.Op = 3)) (.sel (fun h=>.pure ?_) fun h=>.sel (fun h'=>.pure ?_) fun h'=>.pure ?_) fun b hb=>.sel (fun h=>?_) fun _=>.pure (by simp)
 ·simp only [beq_iff_eq] at *; simp [h]
 ·simp only [beq_iff_eq] at *; simp [h']
 ·simp only [beq_eq_false_iff_ne,ne_eq] at *; simp [h,h']
 ·have ho:=hb.1 h
  have hd : Rg q.Dst:=by unfold QOk at hq; unfold Rg at *; omega
  exact .bind (.nth (hd.lt hl).1 (hd.lt hl).2) fun _ _=>.pure fun _=>ho
theorem vZ : tz iI:=fun {eQ} hc=>by
 unfold iI
 rw [cK hc,ob9]
 have hl:=hc.max
 refine .sf rfl (.bind (zD hc) fun bs hbs=>.bind (pV (n:=eQ.length) (fun i q'=>∃ q : ah,eQ[i]? = some q ∧ QOk eQ.length q' ∧ (q.Op = 10 ∨ q.Op = 4 → q'.Op = 10 ∨ q'.Op = 4)) hc.max (fun i out h0 h1 h2=>?_) fun out=>?_) fun out ho=>.pure ⟨hc.alike ho,rfl,by rw [ho.1]; exact Nat.le_refl _⟩)
 ·unfold gN
  refine .st (by simpa using h1) (.bind (.nth h0 h1) fun q ⟨hq,hqm⟩=>.bind (P:=fun q'=>QOk eQ.length q' ∧ (q.Op = 10 ∨ q.Op = 4 → q'.Op = 10 ∨ q'.Op = 4)) (.bind (tC hc hbs h0 hq) fun af haf=>.bind (zE (hc.q q hqm) haf.1) fun b hb=>.sel (fun h=>.pure ?_) fun _=>.pure ⟨hc.q q hqm,id⟩) fun q' hq'=>.bind (.app (by simp [h2]; omega)) fun r hr=>.pure ⟨q',?_,q,hq,hq'⟩)
  ·have ho:=hb h
   have hn:=hc.nxt hq (by omega) (by omega)
   rw [bE h0 (by omega)]
   exact ⟨.inr (.inr (.inr (.inl ⟨rfl,rfl,rfl,rfl,by simp only; omega,by simp only; omega⟩))),fun h'=>by omega⟩
  ·rw [bE h0 (by omega),hr]
 ·unfold gN; rw [aj (by simp)]
end
noncomputable section
theorem yq {l : List Bool} {i : Nat} : (l[i]?).getD false = true ↔ l[i]? = some true:=by
 cases h : l[i]? with
 | none=>simp
 | some b=>simp
theorem mN {α : Type} {l : List α} {i : Nat} {a : α} (h : l[i]? = some a) : i < l.length:=by
 rcases Nat.lt_or_ge i l.length with h' | h'
 ·exact h'
 ·rw [List.getElem?_eq_none h'] at h; cases h
def l9 (eQ : List ah) (seen : List Bool) (m : Int) : Prop:=∀ (i : Nat) q,(i : Int) < m → eQ[i]? = some q → seen[i]? = some true → ∀ x ∈ nx q i,seen[x.toNat]? = some true
theorem Cx {l : List Bool} {i : Nat} (h : l[i]? = some false) : bm (l.set i true) < bm l:=by
 have : bm (l.set i true) + 1 = bm l + 0:=nj (fun b=>if b then 0 else 1) true h
 omega
theorem wW {eQ : List ah} (hc : COk eQ) {seen : List Bool} (hs : seen.length = eQ.length) : Tot (gq eQ seen) fun r => r.2.length = eQ.length ∧ (∀ (k : Nat), seen[k]? = some true → r.2[k]? = some true) ∧ (r.1 = true → bm r.2 < bm seen) ∧ (r.1 = false → r.2 = seen ∧ l9 eQ seen eQ.length) := by
  have hmx := hc.max
  unfold gq
  refine .bind (.iter (fun s => 0 ≤ s.2.1 ∧ s.2.1 ≤ (eQ.length : Int) ∧ s.2.2.length = eQ.length ∧ (∀ (k : Nat), seen[k]? = some true → s.2.2[k]? = some true) ∧ bm s.2.2 ≤ bm seen ∧ (s.1 = true → bm s.2.2 < bm seen) ∧ (s.1 = false → s.2.2 = seen ∧ l9 eQ seen s.2.1)) (fun s => ((eQ.length : Int) - s.2.1).toNat) ⟨by simp, by simp, hs, by simp, by simp, by simp, fun _ => ⟨rfl, fun i q h => by simp only at h; omega⟩⟩ fun s hs => ?_)
    fun r (hr : r.2.length = eQ.length ∧ (∀ (k : Nat), seen[k]? = some true → r.2[k]? = some true) ∧ (r.1 = true → bm r.2 < bm seen) ∧ (r.1 = false → r.2 = seen ∧ l9 eQ seen eQ.length)) => .pure hr
  obtain ⟨mC, i, a⟩ := s
  obtain ⟨g0, g1, g2, g3, g4, g5, g6⟩ := hs
  simp only at g0 g1 g2 g3 g4 g5 g6
  unfold jC
  refine .sel (fun hlt => ?_) fun hge => .inr (show a.length = eQ.length ∧ (∀ (k : Nat), seen[k]? = some true → a[k]? = some true) ∧ (mC = true → bm a < bm seen) ∧ (mC = false → a = seen ∧ l9 eQ seen eQ.length) from ?_)
  rotate_left
  · simp only [decide_eq_false_iff_not] at hge
    exact ⟨g2, g3, g5, fun h => by have := g6 h; rw [show i = (eQ.length : Int) by omega] at this; exact this⟩
  simp only [decide_eq_true_eq] at hlt
  refine .bind (P := fun z => z.2.length = eQ.length ∧ (∀ (k : Nat), seen[k]? = some true → z.2[k]? = some true) ∧ bm z.2 ≤ bm seen ∧ (z.1 = true → bm z.2 < bm seen) ∧ (z.1 = false → z.2 = seen ∧ l9 eQ seen (i + 1))) ?_ fun z hz => .inl ?_
  · refine .bind (.nth g0 (by rw [g2]; exact hlt)) fun b ⟨hb, _⟩ => .sel (fun hbf => .pure ⟨g2, g3, g4, g5, fun h => ⟨(g6 h).1, fun j q hj hq hsj => ?_⟩⟩) fun hbt => ?_
    · by_cases e : (j : Int) = i
      · obtain rfl : j = i.toNat := by omega
        rw [← (g6 h).1, hb] at hsj
        injection hsj with hsj
        subst hsj
        simp at hbf
      · exact (g6 h).2 j q (by omega) hq hsj
    have hbt' : b = true := by simpa using hbt
    subst hbt'
    obtain ⟨q, hq⟩ : ∃ q, eQ[i.toNat]? = some q := ⟨_, List.getElem?_eq_getElem (by omega)⟩
    have hnx := BL hc hq
    rw [show ((i.toNat : Nat) : Int) = i by omega] at hnx
    rw [uZ g0 hq (by omega), ob9]
    have hlen : (nx q i).length ≤ 2 := by unfold nx; repeat' split
                                          all_goals simp
    refine .bind (.iter (fun s => 0 ≤ s.2.1 ∧ s.2.1 ≤ ((nx q i).length : Int) ∧ s.2.2.length = eQ.length ∧ (∀ (k : Nat), seen[k]? = some true → s.2.2[k]? = some true) ∧ bm s.2.2 ≤ bm seen ∧ (s.1 = true → bm s.2.2 < bm seen) ∧ (s.1 = false → s.2.2 = seen ∧ l9 eQ seen i ∧ ∀ x ∈ (nx q i).take s.2.1.toNat, seen[x.toNat]? = some true)) (fun s => (((nx q i).length : Int) - s.2.1).toNat) ⟨by simp, by simp, g2, g3, g4, g5, fun h => ⟨(g6 h).1, (g6 h).2, by simp⟩⟩ fun s hs => ?_)
      fun r (hr : r.2.length = eQ.length ∧ (∀ (k : Nat), seen[k]? = some true → r.2[k]? = some true) ∧ bm r.2 ≤ bm seen ∧ (r.1 = true → bm r.2 < bm seen) ∧ (r.1 = false → r.2 = seen ∧ l9 eQ seen (i + 1))) => .pure hr
    obtain ⟨fresh', j, a'⟩ := s
    obtain ⟨k0, k1, k2, k3, k4, k5, k6⟩ := hs
    simp only at k0 k1 k2 k3 k4 k5 k6
    unfold jB
    refine .sel (fun hlt' => ?_) fun hge' => .inr (show a'.length = eQ.length ∧ (∀ (k : Nat), seen[k]? = some true → a'[k]? = some true) ∧ bm a' ≤ bm seen ∧ (fresh' = true → bm a' < bm seen) ∧ (fresh' = false → a' = seen ∧ l9 eQ seen (i + 1)) from ⟨k2, k3, k4, k5, fun h => ⟨(k6 h).1, fun m p hm hp hsm => ?_⟩⟩)
    · simp only [decide_eq_true_eq] at hlt'
      refine .bind (P := fun z => z.2.length = eQ.length ∧ (∀ (k : Nat), seen[k]? = some true → z.2[k]? = some true) ∧ bm z.2 ≤ bm seen ∧ (z.1 = true → bm z.2 < bm seen) ∧ (z.1 = false → z.2 = seen ∧ l9 eQ seen i ∧ ∀ x ∈ (nx q i).take (j + 1).toNat, seen[x.toNat]? = some true)) ?_ fun z hz => .inl ?_
      · refine .bind (.nth k0 hlt') fun x ⟨hx, hxm⟩ => ?_
        have hxr := hnx x hxm
        have hxl : x < a'.length := by rw [k2]; exact hxr.2
        refine .bind (.nth hxr.1 hxl) fun b ⟨hb2, _⟩ => .sel (fun hbf => ?_) fun hbt => .pure ⟨k2, k3, k4, k5, fun h => ⟨(k6 h).1, (k6 h).2.1, fun y hy => ?_⟩⟩
        · refine .bind (.nth k0 hlt') fun x2 ⟨hx2, _⟩ => ?_
          obtain rfl : x = x2 := o9 (hx.symm.trans hx2)
          refine .bind (.nth hxr.1 hxl) fun _ _ => .bind (.upd hxr.1 hxl) fun r hr => .pure ?_
          subst hr
          have hbf' : b = false := by simpa using hbf
          subst hbf'
          have hb3 : a'[x.toNat]? = some false := hb2
          have h4 := Cx hb3
          refine ⟨by rw [List.length_set]; exact k2, fun k hk => ?_, by simp only; omega, fun _ => by simp only; omega, fun h => by cases h⟩
          simp only
          by_cases e : x.toNat = k
          · subst e; rw [List.getElem?_set_self (mN hb2)]
          · rw [List.getElem?_set_ne e]; exact k3 k hk
        · rw [show (j + 1).toNat = j.toNat + 1 by omega, List.take_add_one, hx] at hy
          simp only [Option.toList_some, List.mem_append, List.mem_singleton] at hy
          rcases hy with hy | rfl
          · exact (k6 h).2.2 y hy
          · rw [← (k6 h).1, hb2]; simpa using hbt
      · rw [bE k0 (by omega)]
        exact ⟨⟨by simp only; omega, by simp only; omega, hz⟩, by simp only; omega⟩
    · simp only [decide_eq_false_iff_not] at hge'
      have k7 := (k6 h).2.2
      rw [List.take_of_length_le (by omega)] at k7
      by_cases e : (m : Int) = i
      · obtain rfl : m = i.toNat := by omega
        obtain rfl : q = p := o9 (hq.symm.trans hp)
        rw [show ((i.toNat : Nat) : Int) = i by omega]
        exact k7
      · exact (k6 h).2.1 m p (by omega) hp hsm
  · rw [bE g0 (by omega)]
    exact ⟨⟨by simp only; omega, by simp only; omega, hz⟩, by simp only; omega⟩
theorem yr {eQ : List ah} (hc : COk eQ) : Tot (gr eQ) fun seen=>seen.length = eQ.length ∧ seen[0]? = some true ∧ l9 eQ seen eQ.length:=by
 have hmx:=hc.max
 have h1:=hc.one
 unfold gr
 rw [cK hc,ob9]
 refine .sf rfl (.bind (.mk (by omega) (by omega)) fun l hl=>?_)
 subst hl
 refine .bind (.nth (by omega) (by simp; omega)) fun _ _=>.bind (.upd (by omega) (by simp; omega)) fun l2 hl2=>?_
 have h0 : l2.length = eQ.length ∧ l2[0]? = some true:=by
  subst hl2
  refine ⟨by simp,?_⟩
  rw [show (0 : Int).toNat = 0 from rfl,List.getElem?_set_self (by simp; omega)]
 refine .bind (P:=fun seen=>seen.length = eQ.length ∧ seen[0]? = some true ∧ l9 eQ seen eQ.length) (.iter (fun s=>s.length = eQ.length ∧ s[0]? = some true) bm h0 fun s hs=>?_) fun r hr=>.pure hr
 unfold jD
 exact .bind (wW hc hs.1) fun r hr=>.sel (fun h=>.inl ⟨⟨hr.1,hr.2.1 0 hs.2⟩,hr.2.2.1 h⟩) fun h=>.inr (by
  obtain ⟨e,hcl⟩:=hr.2.2.2 h
  rw [e]; exact ⟨hs.1,hs.2,hcl⟩)
def pW (q : ah) (i : Int) : Bool:=if q.Op = 4 ∨ q.Op = 5 then q.N == i + 1 else if q.Op = 2 then q.Dst == q.A else false
theorem A8 (q : ah) {i : Int} (h0 : 0 ≤ i) (h : i ≤ 1000) : jE q i = some (pW q i):=by
 refine Tot.eq ?_
 unfold jE pW
 rw [bE h0 (by omega)]
 refine .bind (P:=fun b=>b = true ↔ (q.Op = 4 ∨ q.Op = 5)) (.sel (fun h=>.pure ?_) fun h=>.pure ?_) fun b hb=>.sel (fun h=>.pure (by rw [if_pos (hb.1 h)])) fun h=>.sel (fun h'=>.pure ?_) fun h'=>.pure ?_
 ·simp only [beq_iff_eq] at *; simp [h]
 ·simp only [beq_eq_false_iff_ne,ne_eq] at *; simp [h]
 ·rw [if_neg (fun hh=>by rw [hb.2 hh] at h; cases h),if_pos (by simpa using h')]
 ·rw [if_neg (fun hh=>by rw [hb.2 hh] at h; cases h),if_neg (by simpa using h')]
def cnt (K : Nat → Bool) : Nat → Nat
 | 0=>0
 | m + 1=>cnt K m + if K m then 1 else 0
theorem tD (K : Nat → Bool) : ∀ m,cnt K m ≤ m
 | 0=>Nat.le_refl _
 | m + 1=>by have:=tD K m; simp only [cnt]; split <;> omega
theorem tE (K : Nat → Bool) {a : Nat} : ∀ {b : Nat}, a ≤ b → cnt K a ≤ cnt K b
  | 0, h => by have : a = 0 := by omega
               subst this; exact Nat.le_refl _
  | b + 1, h => by
    by_cases e : a = b + 1
    · subst e; exact Nat.le_refl _
    · have := tE K (a := a) (b := b) (by omega); simp only [cnt]; omega
theorem zF (K : Nat → Bool) {a j n : Nat} (h : a ≤ j) (hj : j < n) (hk : K j = true) : cnt K a < cnt K n:=by
 have h1:=tE K h
 have h2:=tE K (show j + 1 ≤ n from hj)
 simp only [cnt,hk,if_true] at h2
 omega
def kp (keep : List Bool) (j : Nat) : Bool:=(keep[j]?).getD false
theorem yt {keep : List Bool} {m : Int} (h0 : 0 ≤ m) (h1 : m ≤ keep.length) (hl : keep.length ≤ 1000) : Tot (iJ keep m) fun r=>r = (cnt (kp keep) m.toNat : Int):=by
 unfold iJ
 refine .bind (P:=fun r=>r = (cnt (kp keep) m.toNat : Int)) (.iter (fun s=>0 ≤ s.2 ∧ s.2 ≤ m ∧ s.1 = (cnt (kp keep) s.2.toNat : Int)) (fun s=>(m - s.2).toNat) ⟨by simp,by simpa using h0,rfl⟩ fun s hs=>?_) fun r hr=>.pure hr
 obtain ⟨c,i⟩:=s
 obtain ⟨g0,g1,g2⟩:=hs
 simp only at g0 g1 g2
 unfold kr
 refine .sel (fun hlt=>?_) fun hge=>.inr (show c = _ from ?_)
 ·simp only [decide_eq_true_eq] at hlt
  have hcl:=tD (kp keep) i.toNat
  refine .bind (P:=fun z=>z = (cnt (kp keep) (i + 1).toNat : Int)) (.bind (.nth g0 (by omega)) fun b ⟨hb,_⟩=>?_) fun z hz=>.inl ?_
  ·have hk : kp keep i.toNat = b:=by unfold kp; rw [hb]; rfl
   have e : (i + 1).toNat = i.toNat + 1:=by omega
   refine .sel (fun h=>.pure ?_) fun h=>.pure ?_
   ·rw [a7 (by omega) (by omega),e,cnt,hk,h,g2]; rfl
   ·rw [e,cnt,hk,h,g2]; rfl
  ·rw [bE g0 (by omega)]
   exact ⟨⟨by simp only; omega,by simp only; omega,hz⟩,by simp only; omega⟩
 ·simp only [decide_eq_false_iff_not] at hge
  rw [g2,show i = m by omega]
theorem tF : tz fb:=fun {eQ} hc=>by
 have hmx:=hc.max
 unfold fb
 rw [cK hc,ob9]
 refine .sf rfl (.bind (yr hc) fun seen ⟨s1,s2,s3⟩=>.bind (P:=fun keep=>keep.length = eQ.length ∧ ∀ (j : Nat) (q : ah),eQ[j]? = some q → keep[j]? = some ((seen[j]?).getD false && !pW q j)) (.iter (fun s=>0 ≤ s.1 ∧ s.1 ≤ (eQ.length : Int) ∧ s.2.length = eQ.length ∧ (∀ (j : Nat) (q : ah),(j : Int) < s.1 → eQ[j]? = some q → s.2[j]? = some ((seen[j]?).getD false && !pW q j)) ∧ ∀ (j : Nat),s.1 ≤ (j : Int) → s.2[j]? = seen[j]?) (fun s=>((eQ.length : Int) - s.1).toNat) ⟨by simp,by simp,s1,fun j q h=>by simp only at h; omega,fun j _=>rfl⟩ fun s hs=>?_) fun keep ⟨k1,k2⟩=>?_)
 ·obtain ⟨i,a⟩:=s
  obtain ⟨g0,g1,g2,g3,g4⟩:=hs
  simp only at g0 g1 g2 g3 g4
  unfold ie
  refine .sel (fun hlt=>?_) fun hge=>.inr (show a.length = eQ.length ∧ _ from ⟨g2,fun j q hq=>g3 j q (by have:=mN hq; simp only [decide_eq_false_iff_not] at hge; omega) hq⟩)
  simp only [decide_eq_true_eq] at hlt
  have hia : i < a.length:=by rw [g2]; exact hlt
  obtain ⟨q,hq⟩ : ∃ q,eQ[i.toNat]? = some q:=⟨_,List.getElem?_eq_getElem (by omega)⟩
  refine .bind (.nth g0 hia) fun b ⟨hb,_⟩=>.bind (P:=fun z=>z = ((seen[i.toNat]?).getD false && !pW q i)) ?_ fun z hz=>.bind (.nth g0 hia) fun _ _=>.bind (.upd g0 hia) fun r hr=>.inl ?_
  ·have hsb : (seen[i.toNat]?).getD false = b:=by rw [← g4 i.toNat (by omega),hb]; rfl
   refine .sel (fun h=>.bind (.nth g0 hlt) fun q' ⟨hq',_⟩=>?_) fun h=>.pure (by rw [hsb,h]; rfl)
   obtain rfl : q = q':=o9 (hq.symm.trans hq')
   rw [A8 q g0 (by omega),ob9,hsb,h]
   exact .pure rfl
  ·subst hr hz
   rw [bE g0 (by omega)]
   refine ⟨⟨by simp only; omega,by simp only; omega,by simp [g2],fun j p hj hp=>?_,fun j hj=>?_⟩,by simp only; omega⟩
   ·simp only at hj ⊢
    by_cases e : (j : Int) = i
    ·obtain rfl : j = i.toNat:=by omega
     obtain rfl : q = p:=o9 (hq.symm.trans hp)
     have hlt3 : i.toNat < a.length:=by omega
     rw [List.getElem?_set_self hlt3,show ((i.toNat : Nat) : Int) = i by omega]
    ·rw [List.getElem?_set_ne (by omega)]
     exact g3 j p (by omega) hp
   ·simp only at hj ⊢
    rw [List.getElem?_set_ne (by omega)]
    exact g4 j (by omega)
 have hK : ∀ (j : Nat) (q : ah),eQ[j]? = some q → (kp keep j = true ↔ seen[j]? = some true ∧ pW q j = false):=fun j q hq=>by
  unfold kp
  rw [k2 j q hq]
  simp [yq]
 have hsucc : ∀ (j : Nat) (q : ah),eQ[j]? = some q → q.Op ≠ 10 → (q.Op = 4 → q.N = (j : Int) + 1) → seen[j]? = some true → seen[j + 1]? = some true:=fun j q hq h10 h4 hs=>by
  have hin : (j : Int) + 1 ∈ nx q j:=by
   unfold nx
   rw [if_neg h10]
   split
   ·rename_i h; rw [h4 h]; simp
   ·split
    ·simp
    ·split <;> simp
  have:=s3 j q (by have:=mN hq; omega) hq hs _ hin
  rwa [show ((j : Int) + 1).toNat = j + 1 by omega] at this
 have hkept : ∀ n j,eQ.length - j ≤ n → seen[j]? = some true → j < eQ.length → ∃ m,j ≤ m ∧ m < eQ.length ∧ kp keep m = true:=by
  intro n
  induction n with
  | zero=>intro j h1 _ h2; omega
  | succ n ih =>
   intro j h1 hs hj
   obtain ⟨q,hq⟩ : ∃ q,eQ[j]? = some q:=⟨_,List.getElem?_eq_getElem hj⟩
   cases hi : pW q j
   ·exact ⟨j,Nat.le_refl _,hj,(hK j q hq).2 ⟨hs,hi⟩⟩
   ·unfold pW at hi
    have h10 : q.Op ≠ 10:=by rintro h; simp [h] at hi
    have h4 : q.Op = 4 → q.N = (j : Int) + 1:=fun h=>by simp [h] at hi; exact hi
    have hs':=hsucc j q hq h10 h4 hs
    have hj' : j + 1 < eQ.length:=by have:=mN hs'; omega
    obtain ⟨m,h2,h3,h4⟩:=ih (j + 1) (by omega) hs' hj'
    exact ⟨m,by omega,h3,h4⟩
 have h01:=hc.one
 obtain ⟨m0,_,hm0,hkm0⟩:=hkept _ 0 (Nat.le_refl _) s2 (by omega)
 refine .bind (P:=fun out=>out.length = cnt (kp keep) eQ.length ∧ (∀ q' ∈ out,QOk (cnt (kp keep) eQ.length : Nat) q') ∧ ∀ q',out.getLast? = some q' → ∃ (j : Nat) (q : ah),j < eQ.length ∧ eQ[j]? = some q ∧ q'.Op = q.Op ∧ kp keep j = true ∧ ∀ l,j < l → l < eQ.length → kp keep l = false)
  (.iter (fun s=>0 ≤ s.2 ∧ s.2 ≤ (eQ.length : Int) ∧ s.1.length = cnt (kp keep) s.2.toNat ∧ (∀ q' ∈ s.1,QOk (cnt (kp keep) eQ.length : Nat) q') ∧ ∀ q',s.1.getLast? = some q' → ∃ (j : Nat) (q : ah),j < s.2.toNat ∧ eQ[j]? = some q ∧ q'.Op = q.Op ∧ kp keep j = true ∧ ∀ l,j < l → l < s.2.toNat → kp keep l = false) (fun s=>((eQ.length : Int) - s.2).toNat) ⟨by simp,by simp,rfl,by simp,by simp⟩ fun s hs=>?_) fun out ⟨o1,o2,o3⟩=>.pure ⟨?_,rfl,by simp only; rw [o1]; exact tD _ _⟩
 ·obtain ⟨out,i⟩:=s
  obtain ⟨g0,g1,g2,g3,g4⟩:=hs
  simp only at g0 g1 g2 g3 g4
  unfold ig
  refine .sel (fun hlt=>?_) fun hge=>.inr (show out.length = cnt (kp keep) eQ.length ∧ _ from ?_)
  rotate_left
  ·simp only [decide_eq_false_iff_not] at hge
   rw [show i.toNat = eQ.length by omega] at g2 g4
   exact ⟨g2,g3,g4⟩
  simp only [decide_eq_true_eq] at hlt
  obtain ⟨q,hq⟩ : ∃ q,eQ[i.toNat]? = some q:=⟨_,List.getElem?_eq_getElem (by omega)⟩
  have e1 : (i + 1).toNat = i.toNat + 1:=by omega
  refine .bind (P:=fun o=>o.length = cnt (kp keep) (i + 1).toNat ∧ (∀ q' ∈ o,QOk (cnt (kp keep) eQ.length : Nat) q') ∧ ∀ q',o.getLast? = some q' → ∃ (j : Nat) (q : ah),j < (i + 1).toNat ∧ eQ[j]? = some q ∧ q'.Op = q.Op ∧ kp keep j = true ∧ ∀ l,j < l → l < (i + 1).toNat → kp keep l = false) ?_ fun o ho=>.inl ?_
  ·refine .bind (.nth g0 hlt) fun q' ⟨hq',hqm⟩=>?_
   obtain rfl : q = q':=o9 (hq.symm.trans hq')
   have hv:=hc.q q hqm
   refine .bind (.nth g0 (by rw [k1]; exact hlt)) fun b ⟨hb,_⟩=>?_
   have hkb : kp keep i.toNat = b:=by unfold kp; rw [hb]; rfl
   refine .sel (fun hbf=>.pure ?_) fun hbt=>?_
   ·have hbf' : b = false:=by simpa using hbf
    subst hbf'
    rw [e1]
    refine ⟨by simp only [cnt,hkb]; simpa using g2,g3,fun q' hq'=>?_⟩
    obtain ⟨j,p,h1,h2,h3,h4,h5⟩:=g4 q' hq'
    refine ⟨j,p,by omega,h2,h3,h4,fun l hl1 hl2=>?_⟩
    by_cases e : l = i.toNat
    ·subst e; exact hkb
    ·exact h5 l hl1 (by omega)
   ·have hbt' : b = true:=by simpa using hbt
    subst hbt'
    obtain ⟨hsi,hid⟩:=(hK i.toNat q hq).1 hkb
    refine .bind (P:=fun q'=>QOk (cnt (kp keep) eQ.length : Nat) q' ∧ q'.Op = q.Op) (.sel (fun h=>?_) fun h=>.pure ⟨?_,rfl⟩) fun q' hq'=>.bind (.app (by rw [g2]; have:=tD (kp keep) i.toNat; simp; omega)) fun r hr=>.pure ?_
    ·simp only [Bool.or_eq_true,beq_iff_eq] at h
     have hw:=hv
     unfold QOk at hw
     have hr : 0 ≤ q.N ∧ q.N < eQ.length:=by rcases h with h | h <;> simp [h] at hw <;> omega
     have hni : q.N ≠ i + 1:=fun e=>by
      unfold pW at hid
      rw [if_pos h,show ((i.toNat : Nat) : Int) = i by omega] at hid
      simp [e] at hid
     have hin : q.N ∈ nx q i:=by
      unfold nx
      rcases h with h | h
      ·simp [h]
      ·rw [if_neg (by omega),if_neg (by omega)]
       split
       ·simp
       ·rw [if_pos ⟨h,by omega⟩]; simp
     have hsn : seen[q.N.toNat]? = some true:=s3 i.toNat q (by omega) hq hsi _ (by rw [show ((i.toNat : Nat) : Int) = i by omega]; exact hin)
     obtain ⟨m,h1,h2,h3⟩:=hkept _ q.N.toNat (Nat.le_refl _) hsn (by omega)
     have hcl:=zF (kp keep) h1 h2 h3
     refine .bind (yt hr.1 (by rw [k1]; omega) (by omega)) fun p hp=>.pure ⟨?_,rfl⟩
     subst hp
     rcases h with h | h <;> simp [h] at hw <;> simp [QOk,h,hw] <;> omega
    ·simp only [Bool.or_eq_false_iff,beq_eq_false_iff_ne,ne_eq] at h
     unfold QOk at hv ⊢
     rcases hv with h' | h' | h' | h' | h' | h' | h' | h' | h'
     ·exact .inl h'
     ·exact .inr (.inl h')
     ·exact .inr (.inr (.inl h'))
     ·exact absurd h'.1 h.1
     ·exact absurd h'.1 h.2
     ·exact .inr (.inr (.inr (.inr (.inr (.inl h')))))
     ·exact .inr (.inr (.inr (.inr (.inr (.inr (.inl h'))))))
     ·exact .inr (.inr (.inr (.inr (.inr (.inr (.inr (.inl h')))))))
     ·exact .inr (.inr (.inr (.inr (.inr (.inr (.inr (.inr h')))))))
    ·subst hr
     rw [e1]
     refine ⟨by simp only [cnt,hkb]; simp [g2],fun z hz=>?_,fun z hz=>?_⟩
     ·simp only [List.mem_append,List.mem_singleton] at hz
      rcases hz with hz | rfl
      ·exact g3 z hz
      ·exact hq'.1
     ·rw [List.getLast?_concat] at hz
      injection hz with hz
      subst hz
      exact ⟨i.toNat,q,by omega,hq,hq'.2,hkb,fun l h1 h2=>by omega⟩
  ·rw [bE g0 (by omega)]
   exact ⟨⟨by simp only; omega,by simp only; omega,ho⟩,by simp only; omega⟩
 ·have hpos:=zF (kp keep) (Nat.zero_le _) hm0 hkm0
  have hle:=tD (kp keep) eQ.length
  refine ⟨by simp only; omega,by simp only; omega,fun z hz=>by simp only at hz ⊢; rw [o1]; exact o2 z hz,?_⟩
  have hne : out ≠ []:=by rintro rfl; simp at o1; omega
  obtain ⟨z,hz⟩ : ∃ z,out.getLast? = some z:=⟨_,List.getLast?_eq_some_getLast hne⟩
  refine ⟨z,hz,?_⟩
  obtain ⟨j,q,h1,h2,h3,h4,h5⟩:=o3 z hz
  obtain ⟨hs,hi⟩:=(hK j q h2).1 h4
  rw [h3]
  by_cases e10 : q.Op = 10
  ·exact .inl e10
  by_cases e4 : q.Op = 4
  ·exact .inr e4
  exfalso
  have hs':=hsucc j q h2 e10 (fun h=>absurd h e4) hs
  have hj' : j + 1 < eQ.length:=by have:=mN hs'; omega
  obtain ⟨m,m1,m2,m3⟩:=hkept _ (j + 1) (Nat.le_refl _) hs' hj'
  rw [h5 m (by omega) m2] at m3
  cases m3
theorem zG {eQ : List ah} (hc : COk eQ) : Tot (jF eQ) fun r=>COk r ∧ r.length ≤ eQ.length:=by
 unfold jF
 exact .bind (vT hc) fun a ha=>.bind (vW ha.1) fun b hb=>.bind (vX hb.1) fun c hcc=>.bind (vZ hcc.1) fun d hd=>.bind (tF hd.1) fun e he=>.pure ⟨he.1,by have:=ha.2.2; have:=hb.2.2; have:=hcc.2.2; have:=hd.2.2; have:=he.2.2; omega⟩
theorem u6 {eQ : List ah} (hc : COk eQ) {t : Int} (h0 : 0 ≤ t) (h4 : t ≤ 4) : Tot (eG eQ t) fun r=>COk r.1 ∧ r.2 = true ∧ r.1.length ≤ eQ.length:=by
 have hmx:=hc.max
 unfold eG
 rw [cK hc,ob9,mK]
 refine .bind (P:=fun b=>b = false) (.sf rfl (.pure (by simp; omega))) fun b hb=>.sf hb (.bind (.app (by simp; omega)) fun r hr=>?_)
 rw [List.nil_append] at hr
 subst hr
 refine .bind (P:=fun o=>COk o ∧ o.length ≤ r.length) (.iter (fun s=>0 ≤ s.2 ∧ s.2 ≤ t ∧ COk s.1 ∧ s.1.length ≤ r.length) (fun s=>(t - s.2).toNat) ⟨by simp,by simpa using h0,hc,Nat.le_refl _⟩ fun s hs=>?_) fun o ho=>.pure ⟨ho.1,rfl,ho.2⟩
 obtain ⟨o,i⟩:=s
 obtain ⟨g0,g1,g2,g3⟩:=hs
 simp only at g0 g1 g2 g3
 unfold gu
 refine .sel (fun h=>?_) fun h=>.inr (show COk o ∧ o.length ≤ r.length from ⟨g2,g3⟩)
 simp only [decide_eq_true_eq] at h
 refine .bind (zG (eQ:=o) g2) fun o2 ho2=>.inl ?_
 rw [bE g0 (by omega)]
 exact ⟨⟨by simp only; omega,by simp only; omega,ho2.1,by have:=ho2.2; simp only; omega⟩,by simp only; omega⟩
end
noncomputable section
theorem Expr.eta' (x : Expr) : Expr.mk x.Op x.N x.Args = x:=by cases x; rfl
theorem au.eta' (x : au) : au.mk x.Kind x.Var x.Box (Expr.mk x.Expr.Op x.Expr.N x.Expr.Args) x.Body x.Else = x:=by rw [Expr.eta']; cases x; rfl
def EOk : Nat → Expr → Prop
 | 0,_=>False
 | d + 1,e=>(e.Op = 0 ∧ 0 ≤ e.N ∧ e.N ≤ 99999 ∧ e.Args = []) ∨ (e.Op = 13 ∧ 0 ≤ e.N ∧ e.N ≤ 3 ∧ e.Args = []) ∨ ((1 ≤ e.Op ∧ e.Op ≤ 12) ∧ e.N = 0 ∧ ∃ a b,e.Args = [a,b] ∧ EOk d a ∧ EOk d b)
theorem EOk.mono : ∀ {d d' : Nat} {e : Expr},EOk d e → d ≤ d' → EOk d' e
 | 0,_,_,h,_=>h.elim
 | d + 1,0,_,_,h=>by omega
 | d + 1,d' + 1,e,h,hd=>by
  rcases h with h | h | ⟨h1,h2,a,b,h3,h4,h5⟩
  ·exact .inl h
  ·exact .inr (.inl h)
  ·exact .inr (.inr ⟨h1,h2,a,b,h3,h4.mono (by omega),h5.mono (by omega)⟩)
theorem u7 : ∀ {d k : Nat} {e : Expr} {dd : Int},EOk d e → (d : Int) ≤ dd → dd ≤ 1000 → d ≤ k → mE k e dd = some true
 | 0,_,_,_,h,_,_,_=>h.elim
 | d + 1,0,_,_,_,_,_,h=>by omega
 | d + 1,k + 1,e,dd,h,hd,hd',hk=>by
  show kQ k (mE k) e dd = _
  unfold kQ
  rw [aj (by simp; omega)]
  rcases h with ⟨h1,h2,h3,h4⟩ | ⟨h1,h2,h3,h4⟩ | ⟨h1,h2,a,b,h3,h4,h5⟩
  ·rw [aW (by simpa using h1),mK,h4]; simp; omega
  ·rw [aj (by simp [h1]),aW (by simpa using h1),mK,h4]; simp; omega
  ·rw [aj (by simp; omega),aj (by simp; omega),pw,ob9,h3,a7 (by omega) (by omega)]
   have e1 : nth [a,b] 0 = some a:=rfl
   have e2 : nth [a,b] 1 = some b:=rfl
   rw [aW (by simp [h1,h2]),e1]
   simp only [ob9,Expr.eta',u7 (k:=k) h4 (show (d : Int) ≤ dd - 1 by omega) (by omega) (by omega)]
   rw [aW rfl,e2]
   simp only [ob9,Expr.eta',u7 (k:=k) h5 (show (d : Int) ≤ dd - 1 by omega) (by omega) (by omega)]
theorem ly {k : Nat} {e : Expr} (h : EOk 5 e) (hk : 5 ≤ k) : c6 k e = some true:=by
 unfold c6
 rw [Expr.eta',u7 h (by omega) (by omega) hk]; rfl
theorem oK : ∀ {d k : Nat} {e : Expr} {at_ : Int},EOk d e → 0 ≤ at_ → at_ + d ≤ 12 → d ≤ k → Tot (dw k e at_) fun out=>out.length + 1 ≤ 2 ^ d ∧ 1 ≤ out.length ∧ ∀ q ∈ out,∀ m,QOk m q
 | 0,_,_,_,h,_,_,_=>h.elim
 | d + 1,0,_,_,_,_,_,h=>by omega
 | d + 1,k + 1,e,at_,h,h0,h12,hk=>by
  show Tot (gb k (dw k) e at_) _
  unfold gb
  have hp : 2 ≤ 2 ^ (d + 1):=by rw [Nat.pow_succ]; have:=Nat.two_pow_pos d; omega
  have hr : Rg at_:=by unfold Rg; omega
  rcases h with ⟨h1,h2,h3,h4⟩ | ⟨h1,h2,h3,h4⟩ | ⟨h1,h2,a,b,h3,h4,h5⟩
  ·refine .st (by simpa using h1) (.pure ⟨by simpa using hp,by simp,fun q hq m=>?_⟩)
   rw [List.mem_singleton.1 hq]
   exact .inl ⟨rfl,hr,rfl,rfl,by unfold Wd; simp only; omega⟩
  ·refine .sf (by simp [h1]) (.st (by simpa using h1) (.pure ⟨by simpa using hp,by simp,fun q hq m=>?_⟩))
   rw [List.mem_singleton.1 hq]
   exact .inr (.inl ⟨rfl,hr,by unfold Rg; simp only; omega,rfl,rfl⟩)
  ·refine .sf (by simp; omega) (.sf (by simp; omega) ?_)
   have e1 : nth e.Args 0 = some a:=by rw [h3]; rfl
   have e2 : nth e.Args 1 = some b:=by rw [h3]; rfl
   have hd : 1 ≤ d:=by cases d with
    | zero=>exact h4.elim
    | succ d=>omega
   rw [e1,e2]
   simp only [ob9,Expr.eta']
   rw [a7 (by omega) (by omega)]
   have h256 : 2 ^ d ≤ 4096:=Nat.le_trans (Nat.pow_le_pow_right (by omega) (show d ≤ 12 by omega)) (by decide)
   refine .bind (oK (k:=k) h4 h0 (by omega) (by omega)) fun x hx=>.bind (oK (k:=k) h5 (show 0 ≤ at_ + 1 by omega) (by omega) (by omega)) fun y hy=>.bind (.app (by omega)) fun r hr'=>.bind (.app (by subst hr'; simp; omega)) fun r2 hr2=>.pure ?_
   subst hr' hr2
   refine ⟨by simp only [List.length_append,List.length_cons,List.length_nil,Nat.pow_succ]; omega,by simp only [List.length_append,List.length_cons]; omega,fun q hq m=>?_⟩
   simp only [List.mem_append,List.mem_singleton] at hq
   rcases hq with (hq | hq) | rfl
   ·exact hx.2.2 q hq m
   ·exact hy.2.2 q hq m
   ·exact .inr (.inr (.inl ⟨rfl,hr,hr,by unfold Rg; simp only; omega,by simp only; omega,by simp only; omega⟩))
def pc : Nat → Int
 | 0=>2
 | d + 1=>3 + 2 * pc d
theorem wX : ∀ d,2 ≤ pc d
 | 0=>by simp [pc]
 | d + 1=>by have:=wX d; simp only [pc]; omega
variable {b : List Int} {p m : Int}
theorem BN (hb : By b) (h0 : 0 ≤ p) (hm : p ≤ m) (hp : m ≤ 100000000) : Dr (j6 ⟨b,p⟩) (m + 1) fun x=>1 ≤ x ∧ x ≤ 12:=by
 unfold j6
 refine .bind (be hb h0 hm (by omega) (by omega) (by omega)) fun x p' hx h1 h2=>.pure ?_ h1 h2
 rw [a7 (by omega) (by omega)]; omega
theorem Ba (hb : By b) (h0 : 0 ≤ p) (hm : p ≤ m) (hp : m ≤ 100000000) : Dr (gH ⟨b,p⟩) (m + 2) (EOk 1):=by
 unfold gH
 refine .bind (be hb h0 hm (by omega) (by omega) (by omega)) fun x p' hx h1 h2=>.sel (fun _=>?_) fun _=>.sel (fun _=>?_) fun _=>?_
 ·refine .bind (be hb h1 h2 (by omega) (by omega) (by omega)) fun y p2 hy h3 h4=>.pure ?_ h3 (by omega)
  exact .inl ⟨rfl,by simp only; omega,by simp only; omega,rfl⟩
 ·refine .bind (be hb h1 h2 (by omega) (by omega) (by omega)) fun y p2 hy h3 h4=>.tot (.nth hy.1 (by simpa using hy.2)) fun z ⟨_,hz⟩=>.pure ?_ h3 (by omega)
  refine .inl ⟨rfl,?_,?_,rfl⟩ <;> (simp at hz; simp only; omega)
 ·refine .bind (be hb h1 h2 (by omega) (by omega) (by omega)) fun y p2 hy h3 h4=>.pure ?_ h3 (by omega)
  exact .inr (.inl ⟨rfl,by simp only; omega,by simp only; omega,rfl⟩)
theorem u9 (hb : By b) : ∀ {d k : Nat} {p m depth : Int},1 ≤ depth → depth ≤ (d : Int) + 1 → (d + 1 ≤ k ∧ d ≤ 100) → 0 ≤ p → p ≤ m → m + pc d ≤ 100000000 → Dr (dR k ⟨b,p⟩ depth) (m + pc d) (EOk (d + 1))
 | d,0,_,_,_,_,_,h,_,_,_=>by omega
 | d,k + 1,p,m,depth,h1,h2,hk,h0,hm,hp=>by
  show Dr (gh k (dR k) ⟨b,p⟩ depth) _ _
  unfold gh
  have hpc:=wX d
  have leaf : ∀ {p' : Int},0 ≤ p' → p' ≤ m + pc d - 2 → Dr ((gH ⟨b,p'⟩).bind fun y2=>some (Expr.mk y2.1.Op y2.1.N y2.1.Args,y2.2)) (m + pc d) (EOk (d + 1)):=fun h0 hm=>by
   refine .bind (Ba hb h0 hm (by omega)) fun x p2 hx h3 h4=>.pure ?_ h3 (by omega)
   rw [Expr.eta']
   exact hx.mono (by omega)
  by_cases hd : depth < 2
  ·refine .bind (x:=sel _ _ _) (m:=m) (P:=fun c=>c = true) (.sel (fun _=>.pure rfl h0 hm) fun h=>?_) fun c p' hc h3 h4=>.sel (fun _=>leaf h3 (by omega)) fun h=>by rw [hc] at h; cases h
   simp at h; omega
  ·obtain ⟨d,rfl⟩ : ∃ e,d = e + 1:=⟨d - 1,by omega⟩
   have hpd:=wX d
   simp only [pc] at *
   refine .bind (x:=sel _ _ _) (m:=m + 1) (P:=fun _=>True) (.sel (fun h=>?_) fun h=>.bind (be hb h0 hm (by omega) (by omega) (by omega)) fun x p' _ h3 h4=>.pure trivial h3 h4) fun c p' _ h3 h4=>.sel (fun _=>leaf h3 (by omega)) fun _=>?_
   ·simp at h; omega
   ·rw [a7 (by omega) (by omega)]
    refine .bind (BN hb h3 h4 (by omega)) fun op p2 hop h5 h6=>.bind (u9 hb (k:=k) (d:=d) (by omega) (by omega) ⟨by omega,by omega⟩ h5 h6 (by omega)) fun x p3 hx h7 h8=>.bind (u9 hb (k:=k) (d:=d) (by omega) (by omega) ⟨by omega,by omega⟩ h7 h8 (by omega)) fun y p4 hy h9 h10=>?_
    refine .pure ?_ h9 (by omega)
    simp only [Expr.eta']
    exact .inr (.inr ⟨hop,rfl,x,y,rfl,hx,hy⟩)
def oO (s : au) : Prop:=s.Body = [] ∧ s.Else = [] ∧ ((s.Kind = 1 ∧ (0 ≤ s.Var ∧ s.Var ≤ 3) ∧ s.Box = 0 ∧ EOk 5 s.Expr) ∨ (s.Kind = 4 ∧ s.Var = 0 ∧ (0 ≤ s.Box ∧ s.Box ≤ 1) ∧ EOk 5 s.Expr) ∨
 (s.Kind = 5 ∧ (0 ≤ s.Var ∧ s.Var ≤ 3) ∧ (0 ≤ s.Box ∧ s.Box ≤ 1) ∧ s.Expr = ⟨0,0,[]⟩) ∨ (s.Kind = 6 ∧ s.Var = 0 ∧ s.Box = 0 ∧ s.Expr = ⟨0,0,[]⟩) ∨ (s.Kind = 7 ∧ s.Var = 0 ∧ s.Box = 0 ∧ EOk 5 s.Expr))
def SOk : Nat → au → Prop
 | 0,s=>oO s
 | n + 1,s=>oO s ∨ ((s.Kind = 2 ∨ (s.Kind = 3 ∧ s.Else = [])) ∧ s.Var = 0 ∧ s.Box = 0 ∧ EOk 5 s.Expr ∧ (∀ x ∈ s.Body,SOk n x) ∧ ∀ x ∈ s.Else,SOk n x)
theorem SOk.of_simp {s : au} (h : oO s) : ∀ n,SOk n s
 | 0=>h
 | _ + 1=>.inl h
mutual
def ct : au → Nat
 | ⟨_,_,_,_,b,e⟩=>1 + cts b + cts e
def cts : List au → Nat
 | []=>0
 | x :: r=>ct x + cts r
end
theorem uB (s : au) : ct s = 1 + cts s.Body + cts s.Else:=by cases s; rfl
theorem va : ∀ l m : List au,cts (l ++ m) = cts l + cts m
 | [],m=>by simp [cts]
 | x :: l,m=>by simp only [List.cons_append,cts,va l m]; omega
theorem tG : ∀ (l : List au) (i : Nat) (s : au),l[i]? = some s → cts (l.take (i + 1)) = cts (l.take i) + ct s
 | [],_,_,h=>by simp at h
 | x :: l,0,s,h=>by
  have : x = s:=by simpa using h
  subst this; simp [cts]
 | x :: l,i + 1,s,h=>by
  have:=tG l i s (by simpa using h)
  simp only [List.take_succ_cons,cts,this]; omega
theorem kV : ∀ (l : List au) (i : Nat),cts (l.take i) ≤ cts l
 | [],_=>by simp [cts]
 | x :: l,0=>by simp [cts]
 | x :: l,i + 1=>by have:=kV l i; simp only [List.take_succ_cons,cts]; omega
theorem zH (s : au) : 1 ≤ ct s:=by rw [uB]; omega
theorem nm : ∀ l : List au,l.length ≤ cts l
 | []=>Nat.le_refl _
 | x :: l=>by have:=nm l; have:=zH x; simp only [List.length_cons,cts]; omega
theorem SOk.body {n : Nat} {s : au} (h : SOk n s) : (∀ x ∈ s.Body,SOk (n - 1) x) ∧ (∀ x ∈ s.Else,SOk (n - 1) x) ∧ (n = 0 → s.Body = [] ∧ s.Else = []):=by
 cases n with
 | zero=>exact ⟨by rw [h.1]; simp,by rw [h.2.1]; simp,fun _=>⟨h.1,h.2.1⟩⟩
 | succ n =>
  rcases h with h | h
  ·exact ⟨by rw [h.1]; simp,by rw [h.2.1]; simp,fun h=>by omega⟩
  ·exact ⟨h.2.2.2.2.1,h.2.2.2.2.2,fun h=>by omega⟩
theorem yu {k : Nat} (hk : 1 ≤ k) : du k [] = some 0:=by
 obtain ⟨k,rfl⟩ : ∃ j,k = j + 1:=⟨k - 1,by omega⟩
 show dI k (du k) [] = _
 unfold dI
 rw [cy]
 unfold gF
 rfl
theorem qE : ∀ {n k : Nat} {l : List au},n + 2 ≤ k → (∀ x ∈ l,SOk n x) → cts l ≤ 1000000 → Tot (du k l) fun r=>r = (cts l : Int)
 | n,0,_,h,_,_=>by omega
 | n,k + 1,l,hk,hl,hc=>by
  show Tot (dI k (du k) l) _
  unfold dI
  have hlen:=nm l
  refine .bind (P:=fun r=>r = (cts l : Int)) (.iter (fun s=>0 ≤ s.2 ∧ s.2 ≤ (l.length : Int) ∧ s.1 = (cts (l.take s.2.toNat) : Int)) (fun s=>((l.length : Int) - s.2).toNat) ⟨by simp,by simp,by simp [cts]⟩ fun s hs=>?_) fun r hr=>.pure hr
  obtain ⟨c,i⟩:=s
  obtain ⟨g0,g1,g2⟩:=hs
  simp only at g0 g1 g2
  unfold gF
  refine .sel (fun hlt=>?_) fun hge=>.inr (show c = _ from ?_)
  ·simp only [decide_eq_true_eq] at hlt
   refine .bind (.nth g0 hlt) fun x ⟨hx,hxm⟩=>.bind (.nth g0 hlt) fun x' ⟨hx',_⟩=>?_
   obtain rfl : x = x':=o9 (hx.symm.trans hx')
   have h1:=tG l i.toNat x hx
   have h2:=kV l (i.toNat + 1)
   have h3:=uB x
   have hb:=(hl x hxm).body
   have sub : ∀ bl,(∀ y ∈ bl,SOk (n - 1) y) → (n = 0 → bl = []) → cts bl ≤ 1000000 → Tot (du k bl) fun r=>r = (cts bl : Int):=fun bl hbl hn hcb=>by
    cases n with
    | zero=>rw [hn rfl,yu (by omega)]; exact .pure rfl
    | succ n=>exact qE (by omega) hbl hcb
   refine .bind (sub x.Body hb.1 (fun h=>(hb.2.2 h).1) (by omega)) fun y hy=>.bind (sub x.Else hb.2.1 (fun h=>(hb.2.2 h).2) (by omega)) fun z hz=>.inl ?_
   subst hy hz
   rw [a7 (i:=c + 1) (by omega) (by omega),a7 (i:=c + 1 + _) (by omega) (by omega),a7 (by omega) (by omega),bE g0 (by omega)]
   refine ⟨⟨by simp only; omega,by simp only; omega,?_⟩,by simp only; omega⟩
   simp only
   rw [show (i + 1).toNat = i.toNat + 1 by omega,h1,h3,g2]; omega
  ·simp only [decide_eq_false_iff_not] at hge
   rw [g2,List.take_of_length_le (by omega)]
def tc : Nat → Int
 | 0=>60
 | n + 1=>60 + 4 * tc n
def sc : Nat → Nat
 | 0=>2
 | n + 1=>3 + 4 * sc n
theorem qF : ∀ n,60 ≤ tc n
 | 0=>by simp [tc]
 | n + 1=>by have:=qF n; simp only [tc]; omega
theorem zI : ∀ n,2 ≤ sc n
 | 0=>by simp [sc]
 | n + 1=>by have:=zI n; simp only [sc]; omega
theorem pX (hb : By b) {k : Nat} {depth : Int} (h1 : 1 ≤ depth) (h2 : depth ≤ 3) (hk : 3 ≤ k) (h0 : 0 ≤ p) (hm : p ≤ m) (hp : m ≤ 90000000) : Dr (dR k ⟨b,p⟩ depth) (m + 17) (EOk 5):=
 (u9 hb (d:=2) h1 (by omega) ⟨hk,by omega⟩ h0 hm (by simp only [pc]; omega)).mono (by simp only [pc]; omega) fun e h=>h.mono (by omega)
theorem zJ (hb : By b) {k : Nat} (hk : 3 ≤ k) (h0 : 0 ≤ p) (hm : p ≤ m) (hp : m ≤ 80000000) : Dr (je k ⟨b,p⟩) (m + 19) oO:=by
 unfold je
 refine .bind (be hb h0 hm (by omega) (by omega) (by omega)) fun v p1 hv h1 h2=>.bind (be hb h1 h2 (by omega) (by omega) (by omega)) fun x p2 hx h3 h4=>?_
 rw [a7 (by omega) (by omega)]
 refine .bind (pX hb (by omega) (by omega) hk h3 h4 (by omega)) fun e p3 he h5 h6=>.pure ?_ h5 (by omega)
 rw [Expr.eta']
 exact ⟨rfl,rfl,.inl ⟨rfl,⟨hv.1,by simp only; omega⟩,rfl,he⟩⟩
theorem Bb (hb : By b) {k : Nat} {nb : Int} (hn : nb ≤ 2) (hk : 3 ≤ k) (h0 : 0 ≤ p) (hm : p ≤ m) (hp : m ≤ 80000000) : Dr (jp k ⟨b,p⟩ nb) (m + 20) oO:=by
 unfold jp
 refine .sel (fun _=>.bind (zJ hb hk h0 hm hp) fun s p' hs h1 h2=>.pure (by rw [au.eta']; exact hs) h1 (by omega)) fun h=>?_
 simp only [decide_eq_false_iff_not] at h
 refine .bind (be hb h0 hm (by omega) (by omega) (by omega)) fun v p1 hv h1 h2=>.bind (be hb h1 h2 (by omega) (by omega) (by omega)) fun x p2 hx h3 h4=>.sel (fun _=>?_) fun _=>?_
 ·refine .bind (be hb h3 h4 (by omega) (by omega) (by omega)) fun y p3 hy h5 h6=>?_
  rw [a7 (by omega) (by omega)]
  refine .bind (pX hb (by omega) (by omega) hk h5 h6 (by omega)) fun e p4 he h7 h8=>.pure ?_ h7 (by omega)
  rw [Expr.eta']
  exact ⟨rfl,rfl,.inr (.inl ⟨rfl,rfl,⟨hv.1,by simp only; omega⟩,he⟩)⟩
 ·refine .bind (be hb h3 h4 (by omega) (by omega) (by omega)) fun y p3 hy h5 h6=>.pure ?_ h5 (by omega)
  exact ⟨rfl,rfl,.inr (.inr (.inl ⟨rfl,⟨hy.1,by simp only; omega⟩,⟨hv.1,by simp only; omega⟩,rfl⟩))⟩
def eT (n : Nat) (c : Nat) (l : List au) : Prop:=(∀ x ∈ l,SOk n x) ∧ cts l ≤ c
def yv (b : List Int) (nb : Int) (n : Nat) : Prop:=∀ (k : Nat) {p m w : Int} {loops : Bool},3 * n + 8 ≤ k → 0 ≤ p → p ≤ m → 0 ≤ w → w ≤ 10 → m + w * tc n ≤ 50000000 → Dr (dx k ⟨b,p⟩ nb n w loops) (m + w * tc n) (eT n (w.toNat * sc n))
theorem yv.two {nb : Int} {n : Nat} (h : yv b nb n) (k : Nat) {w : Int} {loops : Bool} (hk : 3 * n + 8 ≤ k) (h0 : 0 ≤ p) (hm : p ≤ m) (w0 : 0 ≤ w) (w2 : w ≤ 2) (hb : m + 2 * tc n ≤ 50000000) : Dr (dx k ⟨b,p⟩ nb n w loops) (m + 2 * tc n) (eT n (2 * sc n)):=by
 have h1 : w * tc n ≤ 2 * tc n:=Int.mul_le_mul_of_nonneg_right w2 (by have:=qF n; omega)
 have h2 : w.toNat * sc n ≤ 2 * sc n:=Nat.mul_le_mul_right _ (by omega)
 exact (h k hk h0 hm w0 (by omega) (by omega)).mono (by omega) fun l hl=>⟨hl.1,Nat.le_trans hl.2 h2⟩
theorem np {n : Nat} {s : au} (h : oO s) : eT n (sc n) [s] ∧ [s].length ≤ 2:=by
 have h1 : ct s = 1:=by rw [uB,h.1,h.2.1]; rfl
 have h2:=zI n
 refine ⟨⟨fun x hx=>?_,by simp only [cts,h1]; omega⟩,by simp⟩
 rw [List.mem_singleton.1 hx]
 exact .of_simp h n
theorem Bc (hb : By b) {nb : Int} (hnb : nb ≤ 2) {n k : Nat} (hk : 3 * n + 7 ≤ k) (ih : ∀ e,n = e + 1 → yv b nb e) {loops : Bool} (h0 : 0 ≤ p) (hm : p ≤ m) (hn : n ≤ 3) (hp : m + tc n ≤ 50000000) : Dr (gI k ⟨b,p⟩ nb n loops) (m + tc n) (fun l=>eT n (sc n) l ∧ l.length ≤ 2):=by
 obtain ⟨k,rfl⟩ : ∃ j,k = j + 1:=⟨k - 1,by omega⟩
 show Dr (gj k (dx k) (gI k) (lM k) (jr k) ⟨b,p⟩ nb n loops) _ _
 have htc:=qF n
 unfold gj
 refine .tot (P:=fun z=>match z with | .inl q=>0 ≤ q ∧ q ≤ m + 1 | .inr r=>0 ≤ r.2 ∧ r.2 ≤ m + tc n ∧ eT n (sc n) r.1 ∧ r.1.length ≤ 2) ?_ fun z hz=>?_
 ·refine .bind (be hb h0 hm (by omega) (by omega) (by omega)) fun y hy=>.bind (P:=fun _=>True) (.sel (fun _=>.pure trivial) fun _=>.pure trivial) fun _ _=>.sel (fun _=>.bind (zJ hb (by omega) hy.1 hy.2.1 (by omega)) fun r hr=>.inr ⟨hr.1,by have:=hr.2.1; simp only; omega,?_⟩) fun _=>.sel (fun _=>.sel (fun hpos=>?_) fun _=>.inl ⟨hy.1,hy.2.1⟩) fun _=>.sel (fun _=>.sel (fun hpos=>?_) fun _=>.inl ⟨hy.1,hy.2.1⟩) fun _ =>
   .bind (P:=fun _=>True) (.sel (fun _=>.pure trivial) fun _=>.sel (fun _=>.pure trivial) fun _=>.pure trivial) fun _ _=>.sel (fun _=>.bind (Bb hb hnb (by omega) hy.1 hy.2.1 (by omega)) fun r hr=>.inr ⟨hr.1,by have:=hr.2.1; simp only; omega,?_⟩) fun _=>.sel (fun _=>.inr ⟨hy.1,by have:=hy.2.1; simp only; omega,?_⟩) fun _=>.inl ⟨hy.1,hy.2.1⟩
  ·rw [au.eta']; exact np hr.2.2
  ·-- an if
   simp only [decide_eq_true_eq] at hpos
   obtain ⟨n,rfl⟩ : ∃ e,n = e + 1:=⟨n - 1,by omega⟩
   have hB:=ih n rfl
   have ht:=qF n
   obtain ⟨k,rfl⟩ : ∃ j,k = j + 1:=⟨k - 1,by omega⟩
   simp only [tc] at htc hp ⊢
   refine .bind (P:=fun r=>0 ≤ r.2 ∧ r.2 ≤ m + (60 + 4 * tc n) ∧ SOk (n + 1) r.1 ∧ ct r.1 ≤ 1 + 4 * sc n) ?_ fun r hr=>.inr ⟨hr.1,hr.2.1,⟨fun x hx=>?_,?_⟩,by simp⟩
   ·show Tot (jq k (dx k) (gI k) (lM k) (jr k) ⟨b,y.2⟩ nb ((n + 1 : Nat) : Int) loops) _
    unfold jq
    rw [a7 (i:=((n + 1 : Nat) : Int) - 1) (by omega) (by omega),show ((n + 1 : Nat) : Int) - 1 = n by omega]
    refine .bind (be hb hy.1 hy.2.1 (by omega) (by omega) (by omega)) fun y1 h1=>?_
    rw [a7 (i:=1 + y1.1) (by have:=h1.2.2; omega) (by have:=h1.2.2; omega)]
    refine .bind (pX hb (by have:=h1.2.2; omega) (by have:=h1.2.2; omega) (by omega) h1.1 h1.2.1 (by omega)) fun y2 h2=>.bind (be hb h2.1 h2.2.1 (by omega) (by omega) (by omega)) fun y3 h3=>.bind (hB.two k (by omega) h3.1 h3.2.1 h3.2.2.1 (by have:=h3.2.2.2; omega) (by omega)) fun y4 h4=>.bind (be hb h4.1 h4.2.1 (by omega) (by omega) (by omega)) fun y5 h5=>.bind (hB.two k (by omega) h5.1 h5.2.1 h5.2.2.1 (by have:=h5.2.2.2; omega) (by omega)) fun y6 h6=>.pure ⟨h6.1,by have:=h6.2.1; simp only; omega,?_,?_⟩
    ·rw [Expr.eta']
     exact .inr ⟨.inl rfl,rfl,rfl,h2.2.2,h4.2.2.1,h6.2.2.1⟩
    ·rw [uB]; have:=h4.2.2.2; have:=h6.2.2.2; simp only; omega
   ·rw [List.mem_singleton.1 hx,au.eta']; exact hr.2.2.1
   ·simp only [cts,au.eta',sc]; have:=hr.2.2.2; omega
  ·-- a loop
   simp only [Bool.and_eq_true,decide_eq_true_eq] at hpos
   obtain ⟨n,rfl⟩ : ∃ e,n = e + 1:=⟨n - 1,by omega⟩
   have hB:=ih n rfl
   have ht:=qF n
   obtain ⟨k,rfl⟩ : ∃ j,k = j + 1:=⟨k - 1,by omega⟩
   simp only [tc] at htc hp ⊢
   refine .bind (P:=fun r=>0 ≤ r.2 ∧ r.2 ≤ m + (60 + 4 * tc n) ∧ eT (n + 1) (sc (n + 1)) r.1 ∧ r.1.length ≤ 2) ?_ fun r hr=>.inr hr
   show Tot (gk k (dx k) (gI k) (lM k) (jr k) ⟨b,y.2⟩ nb ((n + 1 : Nat) : Int)) _
   unfold gk
   rw [a7 (i:=((n + 1 : Nat) : Int) - 1) (by omega) (by omega),show ((n + 1 : Nat) : Int) - 1 = n by omega]
   refine .bind (be hb hy.1 hy.2.1 (by omega) (by omega) (by omega)) fun y1 h1=>.bind (hB.two k (by omega) h1.1 h1.2.1 h1.2.2.1 (by have:=h1.2.2.2; omega) (by omega)) fun y2 h2=>?_
   simp only [dC,jd,ob9]
   refine .bind (be hb h2.1 h2.2.1 (by omega) (by omega) (by omega)) fun y7 h7=>?_
   rw [a7 (i:=1 + y7.1) (by have:=h7.2.2; omega) (by have:=h7.2.2; omega)]
   have hlen:=nm y2.1
   have hct:=h2.2.2.2
   have hsc : sc n ≤ 10000:=by
    rcases (show n = 0 ∨ n = 1 ∨ n = 2 by omega) with rfl | rfl | rfl <;> decide
   refine .bind (.app (by simp only [List.length_cons,List.length_nil]; omega)) fun r hr=>.pure ⟨h7.1,by have:=h7.2.1; simp only; omega,?_⟩
   subst hr
   have e13 : EOk 4 ⟨13,3,[]⟩:=.inr (.inl ⟨rfl,by simp,by simp,rfl⟩)
   have e0 : ∀ v,0 ≤ v → v ≤ 99999 → EOk 4 ⟨0,v,[]⟩:=fun v h1 h2=>.inl ⟨rfl,h1,h2,rfl⟩
   have s1 : oO (au.mk 1 3 0 (Expr.mk 8 0 [⟨13,3,[]⟩,⟨0,1,[]⟩]) [] []):=⟨rfl,rfl,.inl ⟨rfl,⟨by simp,by simp⟩,rfl,.inr (.inr ⟨⟨by simp,by simp⟩,rfl,_,_,rfl,e13,e0 1 (by omega) (by omega)⟩)⟩⟩
   have s2 : oO (au.mk 1 3 0 (Expr.mk 0 0 []) [] []):=⟨rfl,rfl,.inl ⟨rfl,⟨by simp,by simp⟩,rfl,(e0 0 (by omega) (by omega)).mono (by omega)⟩⟩
   have h77 : 0 ≤ y7.1 ∧ y7.1 < 3:=h7.2.2
   refine ⟨⟨fun x hx=>?_,?_⟩,by simp⟩
   ·simp only [List.mem_cons,List.not_mem_nil,or_false] at hx
    rcases hx with rfl | rfl
    ·exact .of_simp s2 _
    ·refine .inr ⟨.inr ⟨rfl,rfl⟩,rfl,rfl,.inr (.inr ⟨⟨by simp,by simp⟩,rfl,_,_,rfl,e13,e0 (1 + y7.1) (by omega) (by omega)⟩),fun x hx=>?_,by simp⟩
     simp only [List.mem_append,List.mem_singleton] at hx
     rcases hx with hx | rfl
     ·exact h2.2.2.1 x hx
     ·exact .of_simp s1 _
   ·simp only [cts,ct,va,sc]; omega
  ·rw [au.eta']; exact np hr.2.2
  ·exact np ⟨rfl,rfl,.inr (.inr (.inr (.inl ⟨rfl,rfl,rfl,rfl⟩)))⟩
 ·refine .both (fun q e=>?_) fun r e=>?_
  ·subst e
   obtain ⟨g0,g1⟩ : 0 ≤ q ∧ q ≤ m + 1:=hz
   refine .bind (be hb g0 g1 (by omega) (by omega) (by omega)) fun x p2 hx h3 h4=>?_
   dsimp only
   rw [a7 (i:=1 + x) (by omega) (by omega)]
   refine .bind (pX hb (depth:=1 + x) (by omega) (by omega) (by omega) h3 h4 (by omega)) fun e p3 he h5 h6=>.pure ?_ h5 (by omega)
   rw [Expr.eta']
   exact np ⟨rfl,rfl,.inr (.inr (.inr (.inr ⟨rfl,rfl,rfl,he⟩)))⟩
  ·subst e; obtain ⟨r1,r2⟩:=r; exact .pure hz.2.2 hz.1 hz.2.1
theorem zK (hb : By b) {nb : Int} (hnb : nb ≤ 2) : ∀ n,n ≤ 3 → yv b nb n:=by
 intro n
 induction n with
 | zero=>intro _; exact blk 0 (by omega) fun e h=>by omega
 | succ n ih=>intro hn; exact blk (n + 1) hn fun e h=>(by omega : e = n) ▸ ih (by omega)
where
 blk (n : Nat) (hn : n ≤ 3) (ih : ∀ e,n = e + 1 → yv b nb e) : yv b nb n:=by
  intro k p m w loops hk h0 hm w0 w10 hp
  obtain ⟨k,rfl⟩ : ∃ j,k = j + 1:=⟨k - 1,by omega⟩
  show Dr (fI k (dx k) (gI k) (lM k) (jr k) ⟨b,p⟩ nb n w loops) _ _
  unfold fI
  have htc:=qF n
  have hsc : sc n ≤ 10000:=by
   rcases (show n = 0 ∨ n = 1 ∨ n = 2 ∨ n = 3 by omega) with rfl | rfl | rfl | rfl <;> decide
  refine .tot (P:=fun r=>0 ≤ r.2 ∧ r.2 ≤ m + w * tc n ∧ eT n (w.toNat * sc n) r.1) (.iter (fun s=>0 ≤ s.2.1 ∧ s.2.1 ≤ w ∧ 0 ≤ s.2.2 ∧ s.2.2 ≤ m + s.2.1 * tc n ∧ eT n (s.2.1.toNat * sc n) s.1) (fun s=>(w - s.2.1).toNat) ⟨by simp,by simpa using w0,h0,by simp only; omega,by simp [eT,cts]⟩ fun s hs=>?_) fun r hr=>.pure hr.2.2 hr.1 hr.2.1
  obtain ⟨l,i,q⟩:=s
  obtain ⟨g0,g1,g2,g3,g4⟩:=hs
  simp only at g0 g1 g2 g3 g4
  unfold j7
  refine .sel (fun hlt=>?_) fun hge=>.inr (show 0 ≤ q ∧ q ≤ m + w * tc n ∧ eT n (w.toNat * sc n) l from ?_)
  ·simp only [decide_eq_true_eq] at hlt
   have e1 : (i + 1) * tc n = i * tc n + tc n:=by rw [Int.add_mul,Int.one_mul]
   have e2 : (i + 1) * tc n ≤ w * tc n:=Int.mul_le_mul_of_nonneg_right (by omega) (by omega)
   refine .bind (Bc hb hnb (by omega) ih g2 g3 hn (by omega)) fun y hy=>?_
   have hll:=nm l
   have hil : i.toNat * sc n ≤ 10 * sc n:=Nat.mul_le_mul_right _ (by omega)
   have hb4:=g4.2
   have hy22 : eT n (sc n) y.1 ∧ y.1.length ≤ 2:=hy.2.2
   refine .bind (.app (l:=l) (by have:=hy22.2; omega)) fun r hr=>.inl ?_
   subst hr
   rw [bE g0 (by omega)]
   refine ⟨⟨by simp only; omega,by simp only; omega,hy.1,by have:=hy.2.1; simp only; omega,fun x hx=>?_,?_⟩,by simp only; omega⟩
   ·simp only [List.mem_append] at hx
    exact hx.elim (g4.1 x) (hy.2.2.1.1 x)
   ·simp only
    rw [va,show (i + 1).toNat = i.toNat + 1 by omega,Nat.add_mul,Nat.one_mul]
    have:=hy.2.2.1.2
    omega
  ·simp only [decide_eq_false_iff_not] at hge
   obtain rfl : i = w:=by omega
   exact ⟨g2,g3,g4⟩
theorem zL (hb : By b) {nb : Int} (hnb : nb ≤ 2) {k : Nat} (hk : 20 ≤ k) (h0 : 0 ≤ p) (hm : p ≤ m) (hp : m ≤ 1000000) : Dr (io k ⟨b,p⟩ nb) (m + 40000) (eT 3 16):=by
 unfold io
 refine .bind (be hb h0 hm (by omega) (by omega) (by omega)) fun v p1 hv h1 h2=>?_
 dsimp only
 rw [a7 (by omega) (by omega)]
 have e1 : (1 + v) * tc 3 ≤ 6 * tc 3:=Int.mul_le_mul_of_nonneg_right (by omega) (by decide)
 have e2 : (6 : Int) * tc 3 = 30600:=by decide
 have e5 : m + 1 + (1 + v) * tc 3 ≤ 50000000:=by omega
 refine .bind (zK hb hnb 3 (by omega) k (by omega) h1 h2 (by omega) (by omega) e5) fun l p2 hl h3 h4=>?_
 have e3 : (1 + v).toNat * sc 3 ≤ 6 * sc 3:=Nat.mul_le_mul_right _ (by omega)
 have e4 : 6 * sc 3 = 1146:=by decide
 dsimp only
 have hl2:=hl.2
 refine .tot (P:=eT 3 16) (.iter (fun s=>eT 3 1146 s) List.length ⟨hl.1,by omega⟩ fun s hs=>?_) fun r hr=>.pure hr h3 (by omega)
 unfold j8
 refine .bind (qE (n:=3) (by omega) hs.1 (by have:=hs.2; omega)) fun c hc=>.sel (fun h=>?_) fun h=>.inr ?_
 ·simp only [decide_eq_true_eq] at h
  have hne : 1 ≤ s.length:=by
   rcases Nat.eq_zero_or_pos s.length with h0 | h0
   ·have : s = []:=List.eq_nil_of_length_eq_zero h0
    subst this; simp [cts] at hc; omega
   ·exact h0
  have hlen:=nm s
  have h1146:=hs.2
  rw [a7 (by omega) (by omega)]
  refine .bind (.cut (by omega)) fun r hr=>.inl ?_
  subst hr
  simp only [Int.toNat_zero,List.drop_zero]
  exact ⟨⟨fun x hx=>hs.1 x (List.mem_of_mem_take hx),Nat.le_trans (kV _ _) hs.2⟩,by rw [List.length_take]; omega⟩
 ·simp only [decide_eq_false_iff_not] at h
  exact ⟨hs.1,by omega⟩
end
noncomputable section
variable {b : List Int} {p m : Int}
theorem wY : ∀ {l : List au} {x : au},x ∈ l → ct x ≤ cts l
 | [],_,h=>by simp at h
 | y :: l,x,h=>by
  simp only [cts]
  rcases List.mem_cons.1 h with rfl | h
  ·omega
  ·have:=wY h; omega
theorem zM (s : au) (u : Bool) : eB s u = some (if u then decide (0 ≤ s.Var) && decide (s.Var ≤ 3) else s.Var == 0):=by cases u <;> rfl
theorem zN (s : au) (u : Bool) : eC s u = some (if u then decide (0 ≤ s.Box) && decide (s.Box ≤ 2) else s.Box == 0):=by cases u <;> rfl
theorem yw {k : Nat} (hk : 5 ≤ k) {s : au} (h : oO s) : eW k s = some true:=by
 obtain ⟨h1,h2,h3⟩:=h
 unfold eW
 simp only [au.eta',Expr.eta',zM,zN,h1,h2]
 rw [aj (by simp)]
 rcases h3 with ⟨a1,a2,a3,a4⟩ | ⟨a1,a2,a3,a4⟩ | ⟨a1,a2,a3,a4⟩ | ⟨a1,a2,a3,a4⟩ | ⟨a1,a2,a3,a4⟩
 ·rw [aW (by simp [a1])]; simp [a2.1,a2.2,a3,ly a4 hk,sel]
 ·rw [aj (by simp [a1]),aW (by simp [a1])]; simp [a2,a3.1,show s.Box ≤ 2 by omega,ly a4 hk,sel]
 ·rw [aj (by simp [a1]),aj (by simp [a1]),aW (by simp [a1])]; simp [a2.1,a2.2,a3.1,show s.Box ≤ 2 by omega,a4,fQ,sel]
 ·rw [aj (by simp [a1]),aj (by simp [a1]),aj (by simp [a1]),aW (by simp [a1])]; simp [a2,a3,a4,fQ,sel]
 ·rw [aj (by simp [a1]),aj (by simp [a1]),aj (by simp [a1]),aj (by simp [a1]),aW (by simp [a1])]; simp [a2,a3,ly a4 hk,sel]
theorem oO.kind {s : au} (h : oO s) : s.Kind ≠ 2 ∧ s.Kind ≠ 3:=by
 obtain ⟨_,_,h⟩:=h
 rcases h with h | h | h | h | h <;> (have:=h.1; omega)
theorem yx : ∀ (n : Nat) {k : Nat} {l : List au},2 * n + 8 ≤ k → n ≤ 3 → (∀ x ∈ l,SOk n x) → cts l ≤ 1000000 → cI k l n = some true:=by
 intro n
 induction n with
 | zero=>exact fun hk hn hl hc=>key 0 (fun h=>by omega) hk hn hl hc
 | succ n ih=>exact fun hk hn hl hc=>key (n + 1) (fun _ {k l} h1 h2 h3=>by have:=ih (k:=k) (l:=l) h1 (by omega) h2 h3; simpa using this) hk hn hl hc
where
 key (n : Nat) (ih : 1 ≤ n → ∀ {k : Nat} {l : List au},2 * (n - 1) + 8 ≤ k → (∀ x ∈ l,SOk (n - 1) x) → cts l ≤ 1000000 → cI k l ((n - 1 : Nat) : Int) = some true) {k : Nat} {l : List au} (hk : 2 * n + 8 ≤ k) (hn : n ≤ 3) (hl : ∀ x ∈ l,SOk n x) (hc : cts l ≤ 1000000) : cI k l n = some true:=by
  obtain ⟨k,rfl⟩ : ∃ j,k = j + 2:=⟨k - 2,by omega⟩
  refine Tot.eq ?_
  show Tot (eX (k + 1) (cI (k + 1)) (pp (k + 1)) l n) _
  unfold eX
  have hlen:=nm l
  refine .bind (P:=fun z=>z = .inr ()) (.iter (fun i : Int=>0 ≤ i ∧ i ≤ l.length) (fun i=>(l.length - i).toNat) ⟨by omega,by omega⟩ fun i ⟨g0,g1⟩=>?_) fun z hz=>by subst hz; exact .pure rfl
  unfold jm
  refine .sel (fun h=>?_) fun _=>.inr rfl
  simp only [decide_eq_true_eq] at h
  refine .bind (.nth g0 h) fun x ⟨_,hm⟩=>?_
  rw [au.eta']
  refine .bind (P:=fun y=>y = true) ?_ fun y hy=>.sf (by rw [hy]; rfl) (.inl ?_)
  ·have hx:=hl x hm
   have hcx:=wY hm
   have hce:=uB x
   show Tot (jn k (cI k) (pp k) x n) _
   unfold jn
   simp only [au.eta',Expr.eta',zM,zN]
   have simp_case : oO x → Tot (sel (x.Kind != 2 && x.Kind != 3) ((eW k x).bind fun y1=>some y1) (sel (decide ((n : Int) < 1) || (x.Kind == 3 && decide ((x.Else.length : Int) > 0))) (some false) ((some (if false = true then decide (0 ≤ x.Var) && decide (x.Var ≤ 3) else x.Var == 0)).bind fun y2=>(sel y2 ((some (if false = true then decide (0 ≤ x.Box) && decide (x.Box ≤ 2) else x.Box == 0)).bind fun y3=>some y3) (some false)).bind fun b1=>(sel b1 ((c6 k x.Expr).bind fun y4=>some y4) (some false)).bind fun b2=>(sel b2 ((cI k x.Body (w64 ((n : Int) - 1))).bind fun y5=>some y5) (some false)).bind fun b3=>(sel b3 ((cI k x.Else (w64 ((n : Int) - 1))).bind fun y6=>some y6) (some false)).bind fun b4=>some b4))) (fun y=>y = true):=fun hs=>by
    refine .st (by have:=hs.kind; simp [this.1,this.2]) ?_
    rw [yw (by omega) hs]; exact .pure rfl
   cases n with
   | zero=>exact simp_case hx
   | succ n =>
    rcases hx with hx | ⟨hkd,hv,hb,he,hbd,hel⟩
    ·exact simp_case hx
    ·refine .sf (by rcases hkd with h | h <;> simp [h]) (.sf (by rcases hkd with h | h <;> simp [h] <;> omega) ?_)
     rw [a7 (by omega) (by omega),show ((n + 1 : Nat) : Int) - 1 = ((n + 1 - 1 : Nat) : Int) by omega]
     have i1:=ih (by omega) (k:=k) (l:=x.Body) (by omega) hbd (by omega)
     have i2:=ih (by omega) (k:=k) (l:=x.Else) (by omega) hel (by omega)
     simp only [i1,i2,ly he (show 5 ≤ k by omega),hv,hb]
     exact .pure rfl
  ·rw [bE g0 (by omega)]
   exact ⟨⟨by omega,by omega⟩,by omega⟩
theorem uf {k : Nat} (hk : 20 ≤ k) {l : List au} (h : eT 3 16 l) : fG k l = some true:=by
 unfold fG
 have h2:=h.2
 have h1:=yx 3 (k:=k) (by omega) (by omega) h.1 (by omega)
 rw [show ((3 : Nat) : Int) = 3 from rfl] at h1
 rw [h1,ob9,aW rfl,(qE (n:=3) (k:=k) (by omega) h.1 (by omega)).eq]
 simp; omega
def Cq (hi : Int) (out : List ah) : Prop:=∀ q ∈ out,QOk (hi + 1) q
theorem Cq.mono {hi hi' : Int} {out : List ah} (h : Cq hi out) (hh : hi ≤ hi') : Cq hi' out:=fun q hq=>(h q hq).mono (by omega)
theorem Cq.app {hi : Int} {out out' : List ah} (h : Cq hi out) (h' : Cq hi out') : Cq hi (out ++ out'):=fun q hq=>(List.mem_append.1 hq).elim (h q) (h' q)
theorem Cq.one {hi : Int} {q : ah} (h : QOk (hi + 1) q) : Cq hi [q]:=fun q' hq=>by rw [List.mem_singleton.1 hq]; exact h
theorem wZ {k : Nat} {e : Expr} (h : EOk 5 e) (hk : 5 ≤ k) : Tot (dw k e 4) fun out=>out.length ≤ 31 ∧ 1 ≤ out.length ∧ ∀ hi,Cq hi out:=
 (oK h (by omega) (by omega) hk).mono fun out ho=>⟨by have:=ho.1; omega,ho.2.1,fun hi q hq=>ho.2.2 q hq _⟩
theorem Cy {k : Nat} (hk : 1 ≤ k) : Tot (dw k ⟨0,0,[]⟩ 4) fun out=>out.length ≤ 31 ∧ 1 ≤ out.length ∧ ∀ hi,Cq hi out:=
 (oK (d:=1) (.inl ⟨rfl,by simp,by simp,rfl⟩) (by omega) (by omega) hk).mono fun out ho=>⟨by have:=ho.1; omega,ho.2.1,fun hi q hq=>ho.2.2 q hq _⟩
def vb (base : Int) (c : Nat) (out : List ah) : Prop:=out.length ≤ 33 * c ∧ Cq (base + out.length) out
def xH (n : Nat) : Prop:=∀ {k : Nat} {l : List au} {base : Int},3 * n + 8 ≤ k → (∀ x ∈ l,SOk n x) → 0 ≤ base → base + 33 * cts l ≤ 100000 → Tot (eE k l base) (vb base (cts l))
theorem yy {n k : Nat} (ih : ∀ e, n = e + 1 → xH e) {x : au} (hx : SOk n x) {base : Int} (hk : 3 * n + 7 ≤ k) (h0 : 0 ≤ base) (h1 : base + 33 * ct x ≤ 100000) : Tot (gG k x base) (vb base (ct x)) := by
  obtain ⟨k, rfl⟩ : ∃ j, k = j + 1 := ⟨k - 1, by omega⟩
  show Tot (gg k (eE k) (gG k) (lL k) (il k) x base) _
  have hce := uB x
  have r4 : Rg 4 := by unfold Rg; omega
  have hexp : EOk 5 x.Expr ∨ x.Expr = ⟨0, 0, []⟩ := by
    have hs : oO x → EOk 5 x.Expr ∨ x.Expr = ⟨0, 0, []⟩ := fun h => by
      rcases h.2.2 with h | h | h | h | h
      · exact .inl h.2.2.2
      · exact .inl h.2.2.2
      · exact .inr h.2.2.2
      · exact .inr h.2.2.2
      · exact .inl h.2.2.2
    cases n with
    | zero => exact hs hx
    | succ n => rcases hx with h | h
                · exact hs h
                · exact .inl h.2.2.2.1
  have he : ∀ {k}, 5 ≤ k → Tot (dw k x.Expr 4) fun out => out.length ≤ 31 ∧ 1 ≤ out.length ∧ ∀ hi, Cq hi out := fun hk => hexp.elim (fun h => wZ h hk) fun h => by rw [h]; exact Cy (by omega)
  unfold gg
  simp only [au.eta', Expr.eta']
  refine .bind (he (by omega)) fun ex hex => .sel (fun hkd => ?_) fun h2 => .sel (fun hkd => ?_) fun h3 => ?_
  · -- an if
    simp only [beq_iff_eq] at hkd
    have hns : ¬ oO x := fun h => h.kind.1 hkd
    obtain ⟨n, rfl⟩ : ∃ e, n = e + 1 := ⟨n - 1, by cases n with | zero => exact absurd hx hns | succ n => omega⟩
    obtain ⟨_, _, _, hee, hbd, hel⟩ := hx.resolve_left hns
    obtain ⟨k, rfl⟩ : ∃ j, k = j + 1 := ⟨k - 1, by omega⟩
    refine .bind (P := vb base (ct x)) ?_ fun r hr => .pure hr
    show Tot (jo k (eE k) (gG k) (lL k) (il k) x base) _
    unfold jo
    simp only [Expr.eta']
    refine .bind (wZ hee (by omega)) fun e he => ?_
    rw [a7 (i := base + e.length) (by omega) (by omega), a7 (i := base + e.length + 1) (by omega) (by omega)]
    refine .bind (ih n rfl (k := k) (by omega) hbd (by omega) (by omega)) fun bd ⟨hb1, hb2⟩ => ?_
    rw [a7 (i := base + e.length + 1 + bd.length) (by omega) (by omega)]
    refine .sel (fun h => ?_) fun h => ?_
    · refine .bind (.app (by simp; omega)) fun r hr => .bind (.app (by subst hr; simp; omega)) fun r2 hr2 => .pure ?_
      subst hr hr2
      refine ⟨by simp; omega, ((he.2.2 _).app (.one ?_)).app (hb2.mono (by simp; omega))⟩
      exact .inr (.inr (.inr (.inr (.inl ⟨rfl, rfl, r4, rfl, by simp only; omega, by simp; omega⟩))))
    · rw [a7 (i := base + e.length + 1 + bd.length + 1) (by omega) (by omega)]
      refine .bind (ih n rfl (k := k) (by omega) hel (by omega) (by omega)) fun el ⟨he1, he2⟩ => .bind (.app (by simp; omega)) fun r hr => .bind (.app (by subst hr; simp; omega)) fun r2 hr2 => .bind (.app (by subst hr hr2; simp; omega)) fun r3 hr3 => .bind (.app (by subst hr hr2 hr3; simp; omega)) fun r4' hr4 => .pure ?_
      subst hr hr2 hr3 hr4
      rw [a7 (i := base + e.length + 1 + bd.length + 1 + el.length) (by omega) (by omega)]
      refine ⟨by simp; omega, ((((he.2.2 _).app (.one ?_)).app (hb2.mono (by simp; omega))).app (.one ?_)).app (he2.mono (by simp; omega))⟩
      · exact .inr (.inr (.inr (.inr (.inl ⟨rfl, rfl, r4, rfl, by simp only; omega, by simp; omega⟩))))
      · exact .inr (.inr (.inr (.inl ⟨rfl, rfl, rfl, rfl, by simp only; omega, by simp; omega⟩)))
  · -- a while
    simp only [beq_iff_eq] at hkd
    have hns : ¬ oO x := fun h => h.kind.2 hkd
    obtain ⟨n, rfl⟩ : ∃ e, n = e + 1 := ⟨n - 1, by cases n with | zero => exact absurd hx hns | succ n => omega⟩
    obtain ⟨_, _, _, hee, hbd, hel⟩ := hx.resolve_left hns
    obtain ⟨k, rfl⟩ : ∃ j, k = j + 1 := ⟨k - 1, by omega⟩
    refine .bind (P := vb base (ct x)) ?_ fun r hr => .pure hr
    show Tot (fH k (eE k) (gG k) (lL k) (il k) x base) _
    unfold fH
    simp only [Expr.eta']
    refine .bind (wZ hee (by omega)) fun e he => ?_
    rw [a7 (i := base + e.length) (by omega) (by omega), a7 (i := base + e.length + 1) (by omega) (by omega)]
    refine .bind (ih n rfl (k := k) (by omega) hbd (by omega) (by omega)) fun bd ⟨hb1, hb2⟩ => ?_
    rw [a7 (i := base + e.length + 1 + bd.length) (by omega) (by omega), a7 (i := base + e.length + 1 + bd.length + 1) (by omega) (by omega)]
    refine .bind (.app (by simp; omega)) fun r hr => .bind (.app (by subst hr; simp; omega)) fun r2 hr2 => .bind (.app (by subst hr hr2; simp; omega)) fun r3 hr3 => .pure ?_
    subst hr hr2 hr3
    refine ⟨by simp; omega, (((he.2.2 _).app (.one ?_)).app (hb2.mono (by simp; omega))).app (.one ?_)⟩
    · exact .inr (.inr (.inr (.inr (.inl ⟨rfl, rfl, r4, rfl, by simp only; omega, by simp; omega⟩))))
    · exact .inr (.inr (.inr (.inl ⟨rfl, rfl, rfl, rfl, h0, by simp; omega⟩)))
  · have hs : oO x := by
      simp only [beq_eq_false_iff_ne, ne_eq] at h2 h3
      cases n with
      | zero => exact hx
      | succ n => rcases hx with h | h
                  · exact h
                  · exact absurd h.1 (by omega)
    obtain ⟨s1, s2, s3⟩ := hs
    have h33 : 33 ≤ 33 * ct x := by have := zH x; omega
    have rg : ∀ {v : Int}, 0 ≤ v ∧ v ≤ 3 → Rg v := fun h => by unfold Rg; omega
    have ap : ∀ q : ah, (∀ hi, 0 ≤ hi → QOk (hi + 1) q) → Tot ((X.app 40 ex [q]).bind fun r => some r) (vb base (ct x)) := fun q hq => .bind (.app (by simp; omega)) fun r hr => .pure (by
      subst hr
      exact ⟨by simp; omega, (hex.2.2 _).app (.one (hq _ (by omega)))⟩)
    refine .sel (fun h => ap _ fun hi hh => ?_) fun n1 => .sel (fun h => ap _ fun hi hh => ?_) fun n4 => .sel (fun h => ap _ fun hi hh => ?_) fun n7 => .sel (fun h => .pure ⟨by simp; omega, .one ?_⟩) fun n5 => .pure ⟨by simp; omega, .one ?_⟩
    all_goals try simp only [beq_iff_eq] at h
    · simp [h] at s3
      exact .inr (.inl ⟨rfl, rg s3.1, r4, rfl, rfl⟩)
    · simp [h] at s3
      exact .inr (.inr (.inr (.inr (.inr (.inl ⟨rfl, rfl, r4, rfl, s3.2.1.1, s3.2.1.2⟩)))))
    · exact .inr (.inr (.inr (.inr (.inr (.inr (.inr (.inl ⟨rfl, rfl, r4, rfl, rfl⟩)))))))
    · simp [h] at s3
      exact .inr (.inr (.inr (.inr (.inr (.inr (.inl ⟨rfl, rg s3.1, rfl, rfl, s3.2.1.1, s3.2.1.2⟩))))))
    · exact .inr (.inr (.inr (.inr (.inr (.inr (.inr (.inr ⟨.inl rfl, rfl, rfl, rfl, rfl⟩)))))))
theorem yz : ∀ n,xH n:=by
 intro n
 induction n with
 | zero=>exact key 0 fun e h=>by omega
 | succ n ih=>exact key (n + 1) fun e h=>(by omega : n = e) ▸ ih
where
 key (n : Nat) (ih : ∀ e,n = e + 1 → xH e) : xH n:=by
  intro k l base hk hl h0 h1
  obtain ⟨k,rfl⟩ : ∃ j,k = j + 1:=⟨k - 1,by omega⟩
  show Tot (gf k (eE k) (gG k) (lL k) (il k) l base) _
  unfold gf
  have hlen:=nm l
  refine .bind (P:=vb base (cts l)) (.iter (fun s=>0 ≤ s.2 ∧ s.2 ≤ (l.length : Int) ∧ vb base (cts (l.take s.2.toNat)) s.1) (fun s=>((l.length : Int) - s.2).toNat) ⟨by simp,by simp,by simp [vb,Cq]⟩ fun s hs=>?_) fun r hr=>.pure hr
  obtain ⟨out,i⟩:=s
  obtain ⟨g0,g1,g2,g3⟩:=hs
  simp only at g0 g1 g2 g3
  have hle:=kV l i.toNat
  unfold kY
  refine .sel (fun h=>?_) fun h=>.inr (show vb base (cts l) out from ?_)
  ·simp only [decide_eq_true_eq] at h
   refine .bind (.nth g0 h) fun x ⟨hx,hm⟩=>?_
   have h1:=tG l i.toNat x hx
   have h2:=kV l (i.toNat + 1)
   have h3:=wY hm
   dsimp only
   rw [au.eta',a7 (by omega) (by omega)]
   refine .bind (yy ih (hl x hm) (by omega) (by omega) (by omega)) fun y ⟨hy1,hy2⟩=>.bind (.app (l:=out) (by omega)) fun r hr=>.inl ?_
   subst hr
   rw [bE g0 (by omega)]
   refine ⟨⟨by simp only; omega,by simp only; omega,?_⟩,by simp only; omega⟩
   simp only
   rw [show (i + 1).toNat = i.toNat + 1 by omega,h1]
   exact ⟨by simp; omega,(g3.mono (by simp; omega)).app (hy2.mono (by simp; omega))⟩
  ·simp only [decide_eq_false_iff_not] at h
   rw [List.take_of_length_le (by omega)] at g2
   exact ⟨g2,g3⟩
theorem wc {k : Nat} (hk : 20 ≤ k) {l : List au} (h : eT 3 16 l) : Tot (eY k l) fun r=>r.2 = true ∧ COk r.1:=by
 unfold eY
 rw [uf hk h,ob9]
 have h2:=h.2
 refine .sf rfl (.bind (yz 3 (k:=k) (by omega) h.1 (by omega) (by omega)) fun out ⟨h1,h2'⟩=>.bind (.app (by simp; omega)) fun r hr=>.pure ⟨rfl,?_⟩)
 subst hr
 refine ⟨by simp,by simp; omega,fun q hq=>?_,⟨_,List.getLast?_concat,.inl rfl⟩⟩
 simp only [List.mem_append,List.mem_singleton] at hq
 rcases hq with hq | rfl
 ·exact (h2' q hq).mono (by simp)
 ·exact .inr (.inr (.inr (.inr (.inr (.inr (.inr (.inr ⟨.inr rfl,rfl,rfl,rfl,rfl⟩)))))))
theorem Bd (hb : By b) (h0 : 0 ≤ p) (hm : p ≤ m) (hp : m ≤ 100000000) : Dr (jj ⟨b,p⟩) (m + 5) Wd:=by
 unfold jj
 have wd : ∀ {v : Int},-1000 ≤ v → v ≤ 1000 → Wd v:=fun h1 h2=>by unfold Wd; omega
 refine .bind (be hb h0 hm (by omega) (by omega) (by omega)) fun x p1 hx h1 h2=>.sel (fun _=>?_) fun _=>.sel (fun _=>?_) fun _=>.sel (fun _=>?_) fun _=>?_
 ·refine .bind (be hb h1 h2 (by omega) (by omega) (by omega)) fun y p2 hy h3 h4=>.tot (.nth hy.1 (by simpa using hy.2)) fun z ⟨_,hz⟩=>.pure ?_ h3 (by omega)
  unfold Wd
  simp at hz
  omega
 ·refine .bind (be hb h1 h2 (by omega) (by omega) (by omega)) fun y p2 hy h3 h4=>.bind (be hb h3 h4 (by omega) (by omega) (by omega)) fun y p2 hy h3 h4=>.bind (be hb h3 h4 (by omega) (by omega) (by omega)) fun y p2 hy h3 h4=>.bind (be hb h3 h4 (by omega) (by omega) (by omega)) fun y p2 hy h3 h4=>.tot (mL _) fun z hz=>.pure hz h3 (by omega)
 ·refine .bind (be hb h1 h2 (by omega) (by omega) (by omega)) fun y p2 hy h3 h4=>.pure ?_ h3 (by omega)
  rw [a7 (by omega) (by omega)]
  exact wd (by omega) (by omega)
 ·refine .bind (be hb h1 h2 (by omega) (by omega) (by omega)) fun y p2 hy h3 h4=>.pure (wd (by omega) (by omega)) h3 (by omega)
theorem mz (hb : By b) (h0 : 0 ≤ p) (hm : p ≤ m) (hp : m ≤ 100000000) : Dr (cF ⟨b,p⟩) (m + 1) Rg:=by
 unfold cF
 exact .bind (be hb h0 hm (by omega) (by omega) (by omega)) fun x p1 hx h1 h2=>.pure (by unfold Rg; omega) h1 h2
theorem Be (hb : By b) {many : Int} (hn : 1 ≤ many) (hn' : many ≤ 600) (h0 : 0 ≤ p) (hm : p ≤ m) (hp : m ≤ 90000000) : Dr (jk ⟨b,p⟩ many) (m + 10) (QOk many):=by
 unfold jk
 refine .bind (be hb h0 hm (by omega) (by omega) (by omega)) fun x p1 hx h1 h2=>?_
 have tt : ∀ c d : Bool,Tot (sel c (some c) (some d)) fun _=>True:=fun c d=>.sel (fun _=>.pure trivial) fun _=>.pure trivial
 have tt2 : ∀ c d e : Bool,Tot (sel c (some c) (sel d (some d) (some e))) fun _=>True:=fun c d e=>.sel (fun _=>.pure trivial) fun _=>tt d e
 refine .tot (tt _ _) fun _ _=>.sel (fun _=>?_) fun _=>.tot (tt _ _) fun _ _=>.sel (fun _=>?_) fun _=>.tot (tt2 _ _ _) fun _ _=>.sel (fun _=>?_) fun _=>.sel (fun _=>?_) fun _=>.sel (fun _=>?_) fun _=>.sel (fun _=>?_) fun _=>.sel (fun _=>?_) fun _=>?_
 ·refine .bind (mz hb h1 h2 (by omega)) fun d p2 hd h3 h4=>.bind (Bd hb h3 h4 (by omega)) fun w p3 hw h5 h6=>.bind (be hb h5 h6 (by omega) (by omega) (by omega)) fun y p4 hy h7 h8=>.tot (.nth hy.1 (by simpa using hy.2)) fun z ⟨_,hz⟩=>.pure (.inl ⟨rfl,hd,rfl,rfl,?_⟩) h7 (by omega)
  simp at hz
  rcases hz with h | h | h | h <;> first | (rw [h]; exact hw) | (rw [h]; unfold Wd; simp)
 ·exact .bind (mz hb h1 h2 (by omega)) fun d p2 hd h3 h4=>.bind (mz hb h3 h4 (by omega)) fun a p3 ha h5 h6=>.pure (.inr (.inl ⟨rfl,hd,ha,rfl,rfl⟩)) h5 (by omega)
 ·exact .bind (mz hb h1 h2 (by omega)) fun d p2 hd h3 h4=>.bind (mz hb h3 h4 (by omega)) fun a p3 ha h5 h6=>.bind (mz hb h5 h6 (by omega)) fun c p4 hc h7 h8=>.bind (BN hb h7 h8 (by omega)) fun o p5 ho h9 h10=>.pure (.inr (.inr (.inl ⟨rfl,hd,ha,hc,ho.1,ho.2⟩))) h9 (by omega)
 ·exact .bind (be hb h1 h2 (by omega) hn (by omega)) fun y p2 hy h3 h4=>.pure (.inr (.inr (.inr (.inl ⟨rfl,rfl,rfl,rfl,hy.1,hy.2⟩)))) h3 (by omega)
 ·exact .bind (mz hb h1 h2 (by omega)) fun a p2 ha h3 h4=>.bind (be hb h3 h4 (by omega) hn (by omega)) fun y p3 hy h5 h6=>.pure (.inr (.inr (.inr (.inr (.inl ⟨rfl,rfl,ha,rfl,hy.1,hy.2⟩))))) h5 (by omega)
 ·exact .bind (mz hb h1 h2 (by omega)) fun a p2 ha h3 h4=>.bind (be hb h3 h4 (by omega) (by omega) (by omega)) fun y p3 hy h5 h6=>.pure (.inr (.inr (.inr (.inr (.inr (.inl ⟨rfl,rfl,ha,rfl,hy.1,by simp only; omega⟩)))))) h5 (by omega)
 ·exact .bind (mz hb h1 h2 (by omega)) fun a p2 ha h3 h4=>.bind (be hb h3 h4 (by omega) (by omega) (by omega)) fun y p3 hy h5 h6=>.pure (.inr (.inr (.inr (.inr (.inr (.inr (.inl ⟨rfl,ha,rfl,rfl,hy.1,by simp only; omega⟩))))))) h5 (by omega)
 ·exact .bind (be hb h1 h2 (by omega) (by omega) (by omega)) fun y p2 hy h3 h4=>.sel (fun _=>.pure (.inr (.inr (.inr (.inr (.inr (.inr (.inr (.inr ⟨.inl rfl,rfl,rfl,rfl,rfl⟩)))))))) h3 (by omega)) fun _=>.bind (mz hb h3 h4 (by omega)) fun a p3 ha h5 h6=>.pure (.inr (.inr (.inr (.inr (.inr (.inr (.inr (.inl ⟨rfl,rfl,ha,rfl,rfl⟩)))))))) h5 (by omega)
theorem uC (hb : By b) (h0 : 0 ≤ p) (hm : p ≤ m) (hp : m ≤ 50000000) : Dr (eV ⟨b,p⟩) (m + 200) fun c=>COk c ∧ c.length ≤ 14:=by
 unfold eV
 refine .bind (be hb h0 hm (by omega) (by omega) (by omega)) fun x p1 hx h1 h2=>?_
 dsimp only
 obtain ⟨n,hn⟩ : ∃ n : Int,n = 1 + x:=⟨_,rfl⟩
 have hw : w64 (1 + x) = n:=by rw [a7 (by omega) (by omega),hn]
 refine .tot (P:=fun r=>0 ≤ r.2 ∧ r.2 ≤ m + 1 + 140 ∧ (r.1.length : Int) + 1 = n ∧ ∀ q ∈ r.1,QOk n q) (.iter (fun s=>0 ≤ s.2.1 ∧ s.2.1 + 1 ≤ n ∧ 0 ≤ s.2.2 ∧ s.2.2 ≤ m + 1 + 10 * s.2.1 ∧ (s.1.length : Int) = s.2.1 ∧ ∀ q ∈ s.1,QOk n q) (fun s=>(n - s.2.1).toNat) ⟨by simp,by simp only; omega,h1,by simp only; omega,by simp,by simp⟩ fun s hs=>?_) fun r hr=>?_
 ·obtain ⟨out,i,q⟩:=s
  obtain ⟨g0,g1,g2,g3,g4,g5⟩:=hs
  simp only at g0 g1 g2 g3 g4 g5
  unfold jl
  dsimp only
  rw [hw,bE g0 (by omega)]
  refine .sel (fun h=>?_) fun h=>.inr (show 0 ≤ q ∧ q ≤ m + 1 + 140 ∧ (out.length : Int) + 1 = n ∧ ∀ q ∈ out,QOk n q from ?_)
  ·simp only [decide_eq_true_eq] at h
   refine .bind (Be hb (by omega) (by omega) g2 g3 (by omega)) fun y hy=>.bind (.app (l:=out) (by simp; omega)) fun r hr=>.inl ?_
   subst hr
   refine ⟨⟨by simp only; omega,by simp only; omega,hy.1,by have:=hy.2.1; simp only; omega,by simp; omega,fun z hz=>?_⟩,by simp only; omega⟩
   simp only [List.mem_append,List.mem_singleton] at hz
   rcases hz with hz | rfl
   ·exact g5 z hz
   ·exact hy.2.2
  ·simp only [decide_eq_false_iff_not] at h
   exact ⟨g2,by omega,by omega,g5⟩
 ·obtain ⟨out,q⟩:=r
  obtain ⟨k0,k1,k2,k3⟩:=hr
  simp only at k0 k1 k2 k3
  have fin : ∀ z : ah,QOk n z → (z.Op = 10 ∨ z.Op = 4) → COk (out ++ [z]) ∧ (out ++ [z]).length ≤ 14:=fun z hz ho=>⟨⟨by simp,by simp; omega,fun y hy=>by
   have e : (((out ++ [z]).length : Nat) : Int) = n:=by simp; omega
   rw [e]
   simp only [List.mem_append,List.mem_singleton] at hy
   rcases hy with hy | rfl
   ·exact k3 y hy
   ·exact hz,⟨z,List.getLast?_concat,ho⟩⟩,by simp; omega⟩
  refine .bind (be hb k0 k1 (by omega) (by omega) (by omega)) fun y p2 hy h3 h4=>.sel (fun _=>?_) fun _=>?_
  ·dsimp only
   rw [hw]
   refine .bind (be hb h3 h4 (by omega) (by omega) (by omega)) fun z p3 hz h5 h6=>.tot (.app (by simp; omega)) fun r hr=>.pure ?_ h5 (by omega)
   subst hr
   exact fin _ (.inr (.inr (.inr (.inl ⟨rfl,rfl,rfl,rfl,hz.1,hz.2⟩)))) (.inr rfl)
  ·refine .tot (.app (by simp; omega)) fun r hr=>.pure ?_ h3 (by omega)
   subst hr
   exact fin _ (.inr (.inr (.inr (.inr (.inr (.inr (.inr (.inr ⟨.inr rfl,rfl,rfl,rfl,rfl⟩)))))))) (.inl rfl)
theorem Bf (hb : By b) {k : Nat} (hk : 20 ≤ k) (h0 : 0 ≤ p) (hm : p ≤ m) (hp : m ≤ 900000) : Dr (jG k ⟨b,p⟩) (m + 50000) fun c=>COk c ∧ c.length ≤ 40:=by
 unfold jG
 refine .bind (be hb h0 hm (by omega) (by omega) (by omega)) fun x p1 hx h1 h2=>.sel (fun _=>.bind (uC hb h1 h2 (by omega)) fun c p2 hc h3 h4=>.pure ⟨hc.1,by have:=hc.2; simp only; omega⟩ h3 (by omega)) fun _=>.bind (zL hb (by omega) hk h1 h2 (by omega)) fun l p2 hl h3 h4=>.tot (wc hk hl) fun r hr=>.sel (fun _=>.bind (uC hb h3 h4 (by omega)) fun c p2 hc h3 h4=>.pure ⟨hc.1,by have:=hc.2; simp only; omega⟩ h3 (by omega)) fun hle=>.bind (be hb h3 h4 (by omega) (by omega) (by omega)) fun t p3 ht h5 h6=>?_
 simp only [decide_eq_false_iff_not] at hle
 have h01 : 0 ≤ Int.tdiv t 2 ∧ Int.tdiv t 2 ≤ 1:=by
  rcases (show t = 0 ∨ t = 1 ∨ t = 2 by omega) with rfl | rfl | rfl <;> decide
 dsimp only
 rw [a7 (by omega) (by omega)]
 exact .tot (u6 hr.2 h01.1 (by omega)) fun o ho=>.pure ⟨ho.1,by have:=ho.2.2; omega⟩ h5 (by omega)
end
noncomputable section
theorem we (n : Int) : co n = some (decide (Wd n)):=by
 unfold co
 congr 1
 unfold Wd
 by_cases h1 : -2147483648 ≤ n <;> by_cases h2 : n ≤ 2147483647 <;> simp [h1,h2]
theorem Bg (n : Int) : lU n = some (decide (Rg n)):=by
 unfold lU
 congr 1
 unfold Rg
 by_cases h1 : 0 ≤ n <;> by_cases h2 : n ≤ 11 <;> simp [h1,h2] <;> omega
theorem Cz (n : Int) : ni n = some (decide (1 ≤ n ∧ n ≤ 12)):=by
 unfold ni
 congr 1
 by_cases h1 : 1 ≤ n <;> by_cases h2 : n ≤ 12 <;> simp [h1,h2]
theorem zO (q : ah) (m : Int) : lV q m = some (decide (QV m q)):=by
 refine Tot.eq ?_
 unfold lV
 simp only [Bg,we,Cz,ob9,xA,zf]
 have key : ∀ b : Bool,(b = true ↔ QV m q) → Tot (some b) (fun z=>z = decide (QV m q)):=fun b h=>.pure (by
  cases b
  ·exact (decide_eq_false fun hq=>by simpa using h.2 hq).symm
  ·exact (decide_eq_true (h.1 rfl)).symm)
 have e3 : (q.N < 3) = (q.N ≤ 2):=propext ⟨fun h=>by omega,fun h=>by omega⟩
 refine .sel (fun h=>key _ ?_) fun h1=>.sel (fun h=>key _ ?_) fun h2=>.sel (fun h=>key _ ?_) fun h3=>.sel (fun h=>key _ ?_) fun h4=>.sel (fun h=>key _ ?_) fun h5=>.sel (fun h=>key _ ?_) fun h6=>.sel (fun h=>key _ ?_) fun h7=>.sel (fun h=>key _ ?_) fun h8=>key _ ?_
 all_goals try simp only [beq_iff_eq,beq_eq_false_iff_ne,Bool.or_eq_true,Bool.or_eq_false_iff,ne_eq] at *
 all_goals try (simp [QV, *,and_assoc,and_comm,and_left_comm]; done)
theorem zP (eQ : List ah) (hl : eQ.length ≤ 4611686018427387904) : Tot (nT eQ) fun b=>b = true ↔ CV eQ:=by
 unfold nT
 refine .sel (fun h=>.pure ?_) fun h=>?_
 ·simp only [Bool.or_eq_true,decide_eq_true_eq] at h
  exact ⟨fun h=>by simp at h,fun hc=>by have:=hc.one; have:=hc.max; omega⟩
 simp only [Bool.or_eq_false_iff,decide_eq_false_iff_not] at h
 refine .bind (P:=fun z=>match z with | .inl b=>b = false ∧ ¬ CV eQ | .inr _=>∀ q ∈ eQ,QV eQ.length q) (.iter (fun i : Int=>0 ≤ i ∧ i ≤ eQ.length ∧ ∀ (j : Nat) (q : ah),(j : Int) < i → eQ[j]? = some q → QV eQ.length q) (fun i=>(eQ.length - i).toNat) ⟨by omega,by omega,fun j q h=>by omega⟩ fun i ⟨h0,h1,h2⟩=>?_) fun z hz=>?_
 ·unfold mo
  refine .sel (fun h=>?_) fun h=>.inr ?_
  ·simp only [decide_eq_true_eq] at h
   refine .bind (.nth h0 h) fun q ⟨hq,hm⟩=>?_
   rw [zO,ob9]
   refine .sel (fun hv=>.inr ⟨rfl,fun hc=>?_⟩) fun hv=>.inl ?_
   ·simp only [Bool.not_eq_true',decide_eq_false_iff_not] at hv
    exact hv (hc.q q hm)
   ·simp only [Bool.not_eq_false',decide_eq_true_eq] at hv
    rw [bE h0 (by omega)]
    refine ⟨⟨by omega,by omega,fun j q' hj hq'=>?_⟩,by omega⟩
    by_cases e : (j : Int) = i
    ·have : j = i.toNat:=by omega
     subst this
     rw [hq] at hq'
     injection hq' with hq'
     exact hq' ▸ hv
    ·exact h2 j q' (by omega) hq'
  ·simp only [decide_eq_false_iff_not] at h
   intro q hq
   obtain ⟨j,hj,rfl⟩:=List.getElem_of_mem hq
   exact h2 j _ (by omega) (List.getElem?_eq_getElem hj)
 ·refine .both (fun b e=>?_) fun _ e=>?_
  ·subst e
   exact .pure ⟨fun h=>by rw [hz.1] at h; simp at h,fun h=>absurd h hz.2⟩
  ·subst e
   have hq : ∀ q ∈ eQ,QV eQ.length q:=hz
   rw [a7 (by omega) (by omega)]
   refine .bind (.nth (by omega) (by omega)) fun x ⟨hx,_⟩=>.pure ?_
   have hgl : eQ.getLast? = some x:=by rw [List.getLast?_eq_getElem?]; rw [← hx]; congr 1; omega
   have hlast : uW eQ ↔ (x.Op = 10 ∨ x.Op = 4):=⟨fun ⟨y,h1,h2⟩=>by rw [hgl] at h1; injection h1 with h1; exact h1 ▸ h2,fun h=>⟨x,hgl,h⟩⟩
   simp only [Bool.or_eq_true,beq_iff_eq]
   exact ⟨fun h=>⟨by omega,by omega,hq,hlast.2 h⟩,fun hc=>hlast.1 hc.last⟩
theorem vd {n : Nat} (h : n ≤ 32) : cf (n : Int) = some ((2 ^ n : Nat) : Int):=by
 refine Tot.eq ?_
 unfold cf
 refine .bind (P:=fun r=>r = ((2 ^ n : Nat) : Int)) (.iter (fun s=>0 ≤ s.2 ∧ s.2 ≤ (n : Int) ∧ s.1 = ((2 ^ s.2.toNat : Nat) : Int)) (fun s=>((n : Int) - s.2).toNat) ⟨by simp,by simp,rfl⟩ fun s hs=>?_) fun r hr=>.pure hr
 obtain ⟨c,i⟩:=s
 obtain ⟨g0,g1,g2⟩:=hs
 simp only at g0 g1 g2
 unfold ep
 refine .sel (fun h=>.inl ?_) fun h=>.inr (show c = _ from ?_)
 ·simp only [decide_eq_true_eq] at h
  have hp : 2 ^ i.toNat ≤ 2 ^ 32:=Nat.pow_le_pow_right (by omega) (by omega)
  have h32 : (2 : Nat) ^ 32 = 4294967296:=by decide
  have e : 2 ^ (i + 1).toNat = 2 ^ i.toNat * 2:=by rw [show (i + 1).toNat = i.toNat + 1 by omega,Nat.pow_succ]
  dsimp only
  rw [bE g0 (by omega),a7 (by omega) (by omega)]
  exact ⟨⟨by omega,by omega,by rw [e,g2]; omega⟩,by omega⟩
 ·simp only [decide_eq_false_iff_not] at h
  rw [g2,show i = (n : Int) by omega]; rfl
theorem wg {u : Int} (h0 : 0 ≤ u) (h1 : u ≤ 4294967295) {lo n : Nat} (hn : 1 ≤ n) (h : lo + n ≤ 32) : aR u lo n = some (u / ((2 ^ lo : Nat) : Int) % ((2 ^ n : Nat) : Int)):=by
 unfold aR
 have e1 : (decide ((0 : Int) ≤ (lo : Int)) && decide ((lo : Int) ≤ 31)) = true:=by simp; omega
 have e2 : (decide ((0 : Int) ≤ u) && decide (u ≤ 4294967295)) = true:=by simp; omega
 rw [mK,e2,ob9,Bool.not_true,aj rfl,mK,e1]
 simp only [ob9,Bool.not_true]
 rw [aj rfl,a7 (by omega) (by omega),mK]
 have e3 : (decide ((1 : Int) ≤ (n : Int)) && decide ((n : Int) ≤ 32 - (lo : Int))) = true:=by simp; omega
 rw [e3]
 simp only [ob9,Bool.not_true]
 rw [aj rfl,vd (by omega),ob9]
 have p1 : 0 < 2 ^ lo:=Nat.two_pow_pos lo
 have p2 : 0 < 2 ^ n:=Nat.two_pow_pos n
 obtain ⟨k,rfl⟩:=Int.eq_ofNat_of_zero_le h0
 have hk : k / 2 ^ lo ≤ k:=Nat.div_le_self _ _
 have hq : pK .i64 (k : Int) ((2 ^ lo : Nat) : Int) = some ((k / 2 ^ lo : Nat) : Int):=by
  unfold pK
  rw [if_neg (by omega)]
  congr 1
  have hx : ∀ x : Nat,x ≤ k → w64 (x : Int) = x:=fun x hx=>a7 (by omega) (by omega)
  exact hx _ hk
 rw [hq,ob9,vd (by omega),ob9]
 unfold nL
 rw [if_neg (by omega)]
 simp only [ob9]
 rfl
theorem wh {u : Int} (h0 : 0 ≤ u) (h1 : u ≤ 4294967295) {lo n : Nat} (hn : 1 ≤ n) (h : lo + n ≤ 32) : bj u lo n = some (u / ((2 ^ lo : Nat) : Int) % ((2 ^ n : Nat) : Int)):=by
 unfold bj dJ
 rw [ob9,a7 (by omega) (by omega),aj (by simp; omega)]
 obtain ⟨k,rfl⟩:=Int.eq_ofNat_of_zero_le h0
 have p1 : (2 : Nat) ^ n ≤ 2 ^ 32:=Nat.pow_le_pow_right (by omega) (by omega)
 have h32 : (2 : Nat) ^ 32 = 4294967296:=by decide
 have p2 : 0 < 2 ^ n:=Nat.two_pow_pos n
 have hk : k / 2 ^ lo ≤ k:=Nat.div_le_self _ _
 rw [xt (by omega),ob9]
 have hs:=pO (x:=1) (k:=n) (by omega) (by omega)
 rw [Nat.one_mul] at hs
 rw [show ((1 : Nat) : Int) = 1 from rfl] at hs
 rw [hs,ob9,a7 (by omega) (by omega),tl (by omega) (by omega)]
 rfl
theorem nY {n : Int} (h : Wd n) : cJ n = some (n % 4294967296) ∧ bG n = some (n % 4294967296):=by
 unfold cJ bG
 rw [uU,we,decide_eq_true h]
 simp only [ob9,Bool.not_true]
 rw [aj rfl,aj rfl]
 have hu : ja .u32 n = n % 4294967296:=by
  rw [kI]
  simp [IntKind.wrap,IntKind.signed,IntKind.bits]
 unfold Wd at h
 rw [hu,a7 (i:=n % 4294967296) (by omega) (by omega)]
 refine ⟨?_,rfl⟩
 refine Tot.eq (.sel (fun h'=>.pure ?_) fun h'=>.pure ?_)
 ·simp only [decide_eq_true_eq] at h'
  rw [a7 (by omega) (by omega)]; omega
 ·simp only [decide_eq_false_iff_not] at h'
  omega
theorem zQ {n : Int} : bq n = some (if 2147483648 ≤ n % 4294967296 then n % 4294967296 - 4294967296 else n % 4294967296):=by
 unfold bq
 have : ja .i32 n = if 2147483648 ≤ n % 4294967296 then n % 4294967296 - 4294967296 else n % 4294967296:=by
  rw [kI]
  simp [IntKind.wrap,IntKind.signed,IntKind.bits]
 rw [this]
 congr 1
 split <;> exact a7 (by omega) (by omega)
theorem zR {n : Int} : bI n = some (if 2147483648 ≤ n % 4294967296 then n % 4294967296 - 4294967296 else n % 4294967296):=by
 refine Tot.eq ?_
 unfold bI
 have hm : n.tmod 4294967296 = if 0 ≤ n ∨ n % 4294967296 = 0 then n % 4294967296 else n % 4294967296 - 4294967296:=by
  rw [Int.tmod_eq_emod]
  simp only [Int.dvd_iff_emod_eq_zero]
  split <;> simp
 rw [hm]
 refine .sel (fun h=>.pure ?_) fun h=>.sel (fun h'=>.pure ?_) fun h'=>.pure ?_
 all_goals simp only [decide_eq_true_eq,decide_eq_false_iff_not] at *
 ·rw [a7 (by split <;> omega) (by split <;> omega)]; split <;> split <;> split at h <;> omega
 ·rw [a7 (by split <;> omega) (by split <;> omega)]; split <;> split <;> split at h' <;> omega
 ·split <;> split <;> omega
theorem xI {x : Int} (h0 : 0 ≤ x) (h1 : x < 4096) : cg x 12 = some (if 2048 ≤ x then x - 4096 else x) ∧ ch x 12 = some (if 2048 ≤ x then x - 4096 else x):=by
 have e12 : cf 12 = some 4096:=vd (n:=12) (by omega)
 have e11 : cf 11 = some 2048:=vd (n:=11) (by omega)
 have s12 : shO .shl .i64 1 12 = some 4096:=by decide
 have s11 : shO .shl .i64 1 11 = some 2048:=by decide
 have w12 : w64 (12 - 1) = 11:=by decide
 have w13 : w64 (4096 - 1) = 4095:=by decide
 constructor
 ·unfold cg
  simp only [mK,e12,w12,e11,ob9,w13]
  rw [aj (b:=!_) (by decide)]
  simp only [ob9]
  rw [aj (by simp; omega)]
  refine Tot.eq (.sel (fun h=>.pure ?_) fun h=>.pure ?_)
  ·simp at h; rw [if_pos h,a7 (by omega) (by omega)]
  ·simp at h; rw [if_neg (by omega)]
 ·unfold ch
  simp only [s12,w12,s11,ob9]
  rw [aj (b:=_ || _) (by simp; omega)]
  simp only [ob9]
  rw [aj (by simp; omega)]
  refine Tot.eq (.sel (fun h=>.pure ?_) fun h=>.pure ?_)
  ·simp at h; rw [if_pos h,a7 (by omega) (by omega)]
  ·simp at h; rw [if_neg (by omega)]
def ve (n : Int) : Int:=if 2048 ≤ n % 4096 then n % 4096 - 4096 else n % 4096
def w4 (n : Int) : Int:=(n - ve n) % 4294967296 / 4096
def ma (rd n : Int) : List Instr:=if -2048 ≤ n ∧ n ≤ 2047 then [⟨12,rd,0,0,n⟩] else [⟨19,rd,0,0,w4 n⟩,⟨12,rd,rd,0,ve n⟩]
theorem zS {rd n : Int} (h : Wd n) : iL rd n = some (ma rd n) ∧ mH rd n = some (ma rd n):=by
 have hu:=nY h
 have hb1 : ∀ {u : Int},0 ≤ u → u ≤ 4294967295 → aR u 0 12 = some (u % 4096) ∧ bj u 0 12 = some (u % 4096):=fun h0 h1=>by
  have a:=wg h0 h1 (lo:=0) (n:=12) (by omega) (by omega)
  have b:=wh h0 h1 (lo:=0) (n:=12) (by omega) (by omega)
  simp at a b
  exact ⟨a,b⟩
 have hb2 : ∀ {u : Int},0 ≤ u → u ≤ 4294967295 → aR u 12 20 = some (u / 4096 % 1048576) ∧ bj u 12 20 = some (u / 4096 % 1048576):=fun h0 h1=>by
  have a:=wg h0 h1 (lo:=12) (n:=20) (by omega) (by omega)
  have b:=wh h0 h1 (lo:=12) (n:=20) (by omega) (by omega)
  simp at a b
  exact ⟨a,b⟩
 have hw:=h
 unfold Wd at hw
 have e0 : n % 4294967296 % 4096 = n % 4096:=by omega
 have hl : -2048 ≤ ve n ∧ ve n ≤ 2047:=by unfold ve; split <;> omega
 have hwd : ∀ m : Int,Wd (if 2147483648 ≤ m % 4294967296 then m % 4294967296 - 4294967296 else m % 4294967296):=fun m=>by unfold Wd; split <;> omega
 have e1 : ∀ m : Int,(if 2147483648 ≤ m % 4294967296 then m % 4294967296 - 4294967296 else m % 4294967296) % 4294967296 = m % 4294967296:=fun m=>by split <;> omega
 have e2 : (n - ve n) % 4294967296 / 4096 % 1048576 = w4 n:=by unfold w4; omega
 constructor
 ·unfold iL ma
  rw [mK,ob9]
  refine Tot.eq (.sel (fun h=>.pure ?_) fun h=>?_)
  ·simp at h; rw [if_pos h]
  ·rw [if_neg (by simp at h; omega),hu.1,ob9,(hb1 (by omega) (by omega)).1,ob9,(xI (by omega) (by omega)).1,ob9,e0]
   rw [show (if 2048 ≤ n % 4096 then n % 4096 - 4096 else n % 4096) = ve n from rfl,a7 (by omega) (by omega),zR,ob9,(nY (hwd _)).1,ob9,e1,(hb2 (by omega) (by omega)).1,ob9,e2]
   refine .bind (.app (by simp)) fun r hr=>.pure ?_
   subst hr; rfl
 ·unfold mH ma
  refine Tot.eq (.sel (fun h=>.pure ?_) fun h=>?_)
  ·simp at h; rw [if_pos h]
  ·rw [if_neg (by simp at h; omega),hu.2,ob9,(hb1 (by omega) (by omega)).2,ob9,(xI (by omega) (by omega)).2,ob9,e0]
   rw [show (if 2048 ≤ n % 4096 then n % 4096 - 4096 else n % 4096) = ve n from rfl,a7 (by omega) (by omega),zQ,ob9,(nY (hwd _)).2,ob9,e1,(hb2 (by omega) (by omega)).2,ob9,e2]
   exact .pure rfl
end
noncomputable section
def kW (c p s : Int) : Int:=if p < c then (qy[p.toNat]?).getD 0 else s
def rdL (c p s : Int) : List Instr:=if p < c then [] else [⟨14,s,2,0,4 * (p - c)⟩]
def wrL (c p : Int) : List Instr:=if p < c then [] else [⟨16,0,2,7,4 * (p - c)⟩]
def nZ (n : Int) : List Instr:=[⟨12,17,0,0,n⟩,⟨15,1,0,0,0⟩]
def w5 (n : Int) : Int:=(mD[(n - 1).toNat]?).getD 0
def mO (q : ah) (c off : Int) : List Instr:=
 if q.Op = 1 then ma (kW c q.Dst 7) q.N ++ wrL c q.Dst
 else if q.Op = 2 then rdL c q.A 5 ++ [⟨12,kW c q.Dst 7,kW c q.A 5,0,0⟩] ++ wrL c q.Dst
 else if q.Op = 3 then rdL c q.A 5 ++ rdL c q.B 6 ++ [⟨w5 q.N,kW c q.Dst 7,kW c q.A 5,kW c q.B 6,0⟩] ++ (if q.N = 4 then [⟨13,kW c q.Dst 7,kW c q.Dst 7,0,1⟩] else []) ++ wrL c q.Dst
 else if q.Op = 4 then [⟨20,0,0,0,off⟩]
 else if q.Op = 5 then rdL c q.A 5 ++ [⟨18,0,kW c q.A 5,0,8⟩] ++ [⟨20,0,0,0,off - 4 * ((rdL c q.A 5).length + 1)⟩]
 else if q.Op = 6 then rdL c q.A 5 ++ [⟨12,10,kW c q.A 5,0,0⟩,⟨12,11,0,0,q.N⟩] ++ nZ 1
 else if q.Op = 7 then [⟨12,11,0,0,q.N⟩] ++ nZ 2 ++ [⟨12,kW c q.Dst 7,10,0,0⟩] ++ wrL c q.Dst
 else if q.Op = 8 then nZ 3
 else if q.Op = 9 then rdL c q.A 5 ++ [⟨12,10,kW c q.A 5,0,0⟩] ++ nZ 4
 else nZ 5
theorem qG (c p s : Int) : (rdL c p s).length ≤ 1:=by unfold rdL; split <;> simp
theorem CA (c p : Int) : (wrL c p).length ≤ 1:=by unfold wrL; split <;> simp
theorem uD (r n : Int) : 1 ≤ (ma r n).length ∧ (ma r n).length ≤ 2:=by unfold ma; split <;> simp
theorem nq {c p s : Int} (hc : 1 ≤ c ∧ c ≤ 8) (hp : Rg p) : dD p c s = some (kW c p s):=by
 refine Tot.eq ?_
 unfold dD kW Rg at *
 refine .sel (fun h=>.pure (by simp at h; rw [if_neg (by omega)])) fun h=>?_
 simp at h
 refine .bind (.nth (by omega) (by simp; omega)) fun x ⟨hx,_⟩=>.pure ?_
 rw [if_pos h]
 show x = ((qy[p.toNat]?).getD 0)
 unfold qy
 rw [hx]; rfl
theorem oa {c p s : Int} (hc : 1 ≤ c ∧ c ≤ 8) (hp : Rg p) : dS p c s = some (rdL c p s):=by
 refine Tot.eq ?_
 unfold dS rdL Rg at *
 refine .sel (fun h=>.pure (by simp at h; rw [if_pos h])) fun h=>.pure ?_
 simp at h
 rw [if_neg (by omega),a7 (i:=p - c) (by omega) (by omega),a7 (by omega) (by omega)]
theorem oL {c p : Int} (hc : 1 ≤ c ∧ c ≤ 8) (hp : Rg p) {l : List Instr} (hl : l.length ≤ 1000) : dV l p c = some (l ++ wrL c p):=by
 refine Tot.eq ?_
 unfold dV wrL Rg at *
 refine .sel (fun h=>.pure (by simp at h; rw [if_pos h,List.append_nil])) fun h=>?_
 simp at h
 rw [if_neg (by omega),a7 (i:=p - c) (by omega) (by omega),a7 (by omega) (by omega)]
 exact .bind (.app (by simp; omega)) fun r hr=>.pure hr
theorem ob {n : Int} {l : List Instr} (hl : l.length ≤ 1000) : dT l n = some (l ++ nZ n):=by
 refine Tot.eq ?_
 unfold dT
 refine .bind (.app (by simp; omega)) fun r hr=>.bind (.app (by subst hr; simp; omega)) fun r2 hr2=>.pure ?_
 subst hr hr2; simp [nZ]
theorem Da {n : Int} (h : 1 ≤ n ∧ n ≤ 12) : nth mD (w64 (n - 1)) = some (w5 n):=by
 rw [a7 (by omega) (by omega)]
 refine (Tot.nth (l:=mD) (i:=n - 1) (by omega) (by simp [mD]; omega)).mono (Q:=fun x=>x = w5 n) (fun x ⟨hx,_⟩=>?_) |>.eq
 unfold w5; rw [hx]; rfl
theorem CB {n : Int} (h : 1 ≤ n ∧ n ≤ 12) : lQ n = some (w5 n):=by
 unfold lQ
 have:=Da h
 unfold mD at this
 rw [this]; rfl
theorem wi {c p : Int} (hc : 1 ≤ c ∧ c ≤ 8) (hp : Rg p) : gO p c = some (rdL c p 5 ++ [⟨12,10,kW c p 5,0,0⟩]):=by
 refine Tot.eq ?_
 unfold gO eH
 rw [oa hc hp,nq hc hp]
 simp only [ob9]
 have:=qG c p 5
 exact .bind (.app (by simp; omega)) fun r hr=>.pure hr
theorem wj {q : ah} {m c off : Int} (hq : QOk m q) (hc : 1 ≤ c ∧ c ≤ 8) (ho : -1000000 ≤ off ∧ off ≤ 1000000) : gP q c off = some (mO q c off):=by
 have hd : Rg q.Dst:=by unfold QOk at hq; unfold Rg at *; omega
 have l1:=qG c q.A 5
 have l2:=qG c q.B 6
 refine Tot.eq ?_
 unfold gP mO
 rw [nq hc hd,ob9]
 refine .sel (fun h=>?_) fun h1=>.sel (fun h=>?_) fun h2=>.sel (fun h=>?_) fun h3=>.sel (fun h=>?_) fun h4=>.sel (fun h=>?_) fun h5=>.sel (fun h=>?_) fun h6=>.sel (fun h=>?_) fun h7=>.sel (fun h=>?_) fun h8=>.sel (fun h=>?_) fun h9=>?_
 all_goals
  simp only [beq_iff_eq,beq_eq_false_iff_ne,ne_eq] at *
  unfold QOk at hq
 ·simp [h] at hq
  have:=uD (kW c q.Dst 7) q.N
  rw [if_pos h,(zS hq.2.2.2).1,ob9,oL hc hd (by omega)]; exact .pure rfl
 ·simp [h] at hq
  rw [if_neg h1,if_pos h,oa hc hq.2.1,nq hc hq.2.1]
  simp only [ob9,eH]
  refine .bind (.app (by simp; omega)) fun r hr=>?_
  rw [oL hc hd (by subst hr; simp; omega),hr]; exact .pure rfl
 ·simp [h] at hq
  rw [if_neg h1,if_neg h2,if_pos h]
  refine .bind (P:=fun r=>r = _) ?_ fun r hr=>.pure hr
  unfold mm
  rw [oa hc hq.2.1,oa hc hq.2.2.1,nq hc hq.2.1,nq hc hq.2.2.1,nq hc hd,CB hq.2.2.2]
  simp only [ob9]
  refine .bind (.app (by omega)) fun r hr=>.bind (.app (by subst hr; simp; omega)) fun r2 hr2=>?_
  have e2 : r2.length ≤ 3:=by subst hr hr2; simp; omega
  refine .bind (P:=fun y=>y = r2 ++ (if q.N = 4 then [⟨13,kW c q.Dst 7,kW c q.Dst 7,0,1⟩] else []) ∧ y.length ≤ 4) (.sel (fun h=>.bind (.app (by simp; omega)) fun r3 hr3=>.pure ?_) fun h=>.pure ?_) fun y ⟨hy,hyl⟩=>?_
  ·simp at h; rw [if_pos h,hr3]; exact ⟨rfl,by simp; omega⟩
  ·simp at h; rw [if_neg h,List.append_nil]; exact ⟨rfl,by omega⟩
  ·rw [oL hc hd (by omega),hy,hr2,hr]
   exact .pure (by simp)
 ·rw [if_neg h1,if_neg h2,if_neg h3,if_pos h]; exact .pure rfl
 ·simp [h] at hq
  rw [if_neg h1,if_neg h2,if_neg h3,if_neg h4,if_pos h]
  refine .bind (P:=fun r=>r = _) ?_ fun r hr=>.pure hr
  unfold lu
  rw [oa hc hq.2.1,nq hc hq.2.1]
  simp only [ob9]
  refine .bind (.app (by simp; omega)) fun r hr=>?_
  have e1 : r.length = (rdL c q.A 5).length + 1:=by subst hr; simp
  rw [a7 (i:=4 * (r.length : Int)) (by omega) (by omega),a7 (by omega) (by omega)]
  refine .bind (.app (by simp; omega)) fun r2 hr2=>.pure ?_
  rw [hr2,e1,hr]; simp
 ·simp [h] at hq
  rw [if_neg h1,if_neg h2,if_neg h3,if_neg h4,if_neg h5,if_pos h,wi hc hq.2.1]
  simp only [ob9,jf]
  refine .bind (.app (by simp; omega)) fun r hr=>?_
  rw [ob (by subst hr; simp; omega),hr]; exact .pure (by simp)
 ·simp [h] at hq
  rw [if_neg h1,if_neg h2,if_neg h3,if_neg h4,if_neg h5,if_neg h6,if_pos h]
  simp only [ob9,jf,eH]
  rw [ob (by simp),ob9]
  refine .bind (.app (by simp [nZ])) fun r hr=>?_
  rw [oL hc hd (by subst hr; simp [nZ]),hr]; exact .pure (by simp)
 ·rw [if_neg h1,if_neg h2,if_neg h3,if_neg h4,if_neg h5,if_neg h6,if_neg h7,if_pos h,ob (by simp)]; exact .pure (by simp)
 ·simp [h] at hq
  rw [if_neg h1,if_neg h2,if_neg h3,if_neg h4,if_neg h5,if_neg h6,if_neg h7,if_neg h8,if_pos h,wi hc hq.2.1,ob9,ob (by simp; omega)]; exact .pure (by simp)
 ·rw [if_neg h1,if_neg h2,if_neg h3,if_neg h4,if_neg h5,if_neg h6,if_neg h7,if_neg h8,if_neg h9,ob (by simp)]; exact .pure (by simp)
theorem lD (q : ah) (c off : Int) : 1 ≤ (mO q c off).length ∧ (mO q c off).length ≤ 6 ∧ (mO q c off).length = (mO q c 0).length:=by
 have l1:=qG c q.A 5
 have l2:=qG c q.B 6
 have l3:=CA c q.Dst
 have l4:=uD (kW c q.Dst 7) q.N
 unfold mO nZ
 split
 ·simp; omega
 split
 ·simp; omega
 split
 ·split <;> simp <;> omega
 split
 ·simp
 split
 ·simp; omega
 split
 ·simp; omega
 split
 ·simp; omega
 split
 ·simp
 split
 ·simp; omega
 ·simp
end
noncomputable section
def qAt (eQ : List ah) (i : Nat) : ah:=(eQ[i]?).getD ⟨0,0,0,0,0⟩
theorem vf {eQ : List ah} {i : Nat} {q : ah} (h : eQ[i]? = some q) : qAt eQ i = q:=by unfold qAt; rw [h]; rfl
def pl (eQ : List ah) (c : Int) : Nat → Nat
 | 0=>0
 | i + 1=>pl eQ c i + (mO (qAt eQ i) c 0).length
def pY (eQ : List ah) (c : Int) (i : Nat) : Int:=if (qAt eQ i).Op = 4 ∨ (qAt eQ i).Op = 5 then 4 * ((pl eQ c (qAt eQ i).N.toNat : Int) - pl eQ c i) else 0
def blk (eQ : List ah) (c : Int) (i : Nat) : List Instr:=mO (qAt eQ i) c (pY eQ c i)
def tk (eQ : List ah) (c : Int) : Nat → List Instr
 | 0=>[]
 | i + 1=>tk eQ c i ++ blk eQ c i
def plL (eQ : List ah) (c : Int) (n : Nat) : List Int:=(List.range n).map fun i=>(pl eQ c i : Int)
theorem tH (eQ : List ah) (c : Int) : ∀ i,pl eQ c i ≤ 6 * i
 | 0=>Nat.le_refl _
 | i + 1=>by have:=tH eQ c i; have:=(lD (qAt eQ i) c 0).2.1; simp only [pl]; omega
theorem tI (eQ : List ah) (c : Int) : ∀ i,(tk eQ c i).length = pl eQ c i
 | 0=>rfl
 | i + 1=>by simp only [tk,pl,List.length_append,tI eQ c i,blk,(lD (qAt eQ i) c (pY eQ c i)).2.2]
theorem Bh {eQ : List ah} {c : Int} {n i : Nat} (h : i < n) : (plL eQ c n)[i]? = some (pl eQ c i : Int):=by simp [plL,h]
theorem xJ (eQ : List ah) (c : Int) (n : Nat) : (plL eQ c n).length = n:=by simp [plL]
theorem xK {eQ : List ah} {c : Int} {n : Nat} {i : Int} (h0 : 0 ≤ i) (h : i < n) : nth (plL eQ c n) i = some (pl eQ c i.toNat : Int):=by
 refine (Tot.nth (l:=plL eQ c n) h0 (by rw [xJ]; exact h)).mono (Q:=fun x=>x = (pl eQ c i.toNat : Int)) (fun x ⟨hx,_⟩=>?_) |>.eq
 rw [Bh (by omega)] at hx
 injection hx with hx
 exact hx.symm
theorem zT (eQ : List ah) (c : Int) (n : Nat) : plL eQ c (n + 1) = plL eQ c n ++ [(pl eQ c n : Int)]:=by simp [plL,List.range_succ]
theorem COk.at {eQ : List ah} (hc : COk eQ) {i : Int} (h0 : 0 ≤ i) (h1 : i < eQ.length) : ∃ q,nth eQ i = some q ∧ qAt eQ i.toNat = q ∧ QOk eQ.length q:=by
 obtain ⟨q,e,h2,h3⟩:=Tot.nth (l:=eQ) h0 h1
 exact ⟨q,e,vf h2,hc.q q h3⟩
theorem w6 {eQ : List ah} (hc : COk eQ) {c : Int} (h : 1 ≤ c ∧ c ≤ 8) : gv eQ c = some (plL eQ c eQ.length):=by
 have hmx:=hc.max
 refine Tot.eq ?_
 unfold gv
 refine .bind (P:=fun r=>r = plL eQ c eQ.length) (.iter (fun s=>0 ≤ s.2.2 ∧ s.2.2 ≤ (eQ.length : Int) ∧ s.1 = plL eQ c s.2.2.toNat ∧ s.2.1 = (pl eQ c s.2.2.toNat : Int)) (fun s=>((eQ.length : Int) - s.2.2).toNat) ⟨by simp,by simp,rfl,rfl⟩ fun s hs=>?_) fun r hr=>.pure hr
 obtain ⟨out,a,i⟩:=s
 obtain ⟨g0,g1,g2,g3⟩:=hs
 simp only at g0 g1 g2 g3
 unfold jH
 refine .sel (fun hlt=>?_) fun hge=>.inr (show out = _ from ?_)
 ·simp only [decide_eq_true_eq] at hlt
  obtain ⟨q,e1,e2,hq⟩:=hc.at g0 hlt
  have hl:=xJ eQ c i.toNat
  have h6:=tH eQ c i.toNat
  have hql:=(lD q c 0).2.1
  refine .bind (.app (by subst g2; simp; omega)) fun r hr=>?_
  dsimp only
  rw [e1,ob9,wj hq h (by omega),ob9,bE g0 (by omega),a7 (by omega) (by omega)]
  have e3 : (i + 1).toNat = i.toNat + 1:=by omega
  refine .inl ⟨⟨by simp only; omega,by simp only; omega,?_,?_⟩,by simp only; omega⟩
  ·simp only; rw [e3,zT,hr,g2,g3]
  ·simp only; rw [e3,pl,e2,g3]; simp
 ·simp only [decide_eq_false_iff_not] at hge
  rw [g2,show i.toNat = eQ.length by omega]
theorem uE {eQ : List ah} (hc : COk eQ) {c : Int} {i : Nat} (hi : i < eQ.length) : -1000000 ≤ pY eQ c i ∧ pY eQ c i ≤ 1000000:=by
 have hmx:=hc.max
 have hq:=hc.q _ (List.mem_of_getElem? (List.getElem?_eq_getElem hi))
 have e : qAt eQ i = eQ[i]:=vf (List.getElem?_eq_getElem hi)
 unfold pY
 rw [e]
 split
 ·rename_i h
  have hN : 0 ≤ (eQ[i]).N ∧ (eQ[i]).N < eQ.length:=by unfold QOk at hq; rcases h with h | h <;> simp [h] at hq <;> omega
  have h1:=tH eQ c (eQ[i]).N.toNat
  have h2:=tH eQ c i
  omega
 ·omega
theorem zU {eQ : List ah} (hc : COk eQ) {c : Int} (h : 1 ≤ c ∧ c ≤ 8) : jI eQ c = some (tk eQ c eQ.length):=by
 have hmx:=hc.max
 refine Tot.eq ?_
 unfold jI
 rw [w6 hc h,ob9]
 refine .bind (P:=fun r=>r = tk eQ c eQ.length) (.iter (fun s=>0 ≤ s.2 ∧ s.2 ≤ (eQ.length : Int) ∧ s.1 = tk eQ c s.2.toNat) (fun s=>((eQ.length : Int) - s.2).toNat) ⟨by simp,by simp,rfl⟩ fun s hs=>?_) fun r hr=>.pure hr
 obtain ⟨out,i⟩:=s
 obtain ⟨g0,g1,g2⟩:=hs
 simp only at g0 g1 g2
 unfold lh
 refine .sel (fun hlt=>?_) fun hge=>.inr (show out = _ from ?_)
 ·simp only [decide_eq_true_eq] at hlt
  obtain ⟨q,e1,e2,hq⟩:=hc.at g0 hlt
  have h6:=tH eQ c i.toNat
  have hql:=(lD q c (pY eQ c i.toNat)).2.1
  have hof:=uE hc (c:=c) (i:=i.toNat) (by omega)
  dsimp only
  rw [e1]
  simp only [ob9]
  refine .bind (P:=fun y=>y = pY eQ c i.toNat) (.bind (P:=fun b=>b = true ↔ (q.Op = 4 ∨ q.Op = 5)) (.sel (fun h=>.pure ?_) fun h=>.pure ?_) fun b hb=>.sel (fun h=>?_) fun h=>.pure ?_) fun y hy=>?_
  ·simp at h; simp [h]
  ·simp at h; simp [h]
  ·have ho:=hb.1 h
   have hN : 0 ≤ q.N ∧ q.N < eQ.length:=by unfold QOk at hq; rcases ho with h | h <;> simp [h] at hq <;> omega
   have h7:=tH eQ c q.N.toNat
   rw [xK hN.1 hN.2,xK g0 hlt,ob9,ob9,a7 (i:=_ - _) (by omega) (by omega),a7 (by omega) (by omega)]
   unfold pY
   rw [e2,if_pos ho]; exact .pure rfl
  ·unfold pY; rw [e2,if_neg (fun hh=>by rw [hb.2 hh] at h; cases h)]
  ·subst hy
   rw [wj hq h hof,ob9]
   refine .bind (.app (by subst g2; rw [tI]; omega)) fun r hr=>.inl ?_
   rw [bE g0 (by omega)]
   refine ⟨⟨by simp only; omega,by simp only; omega,?_⟩,by simp only; omega⟩
   simp only
   rw [show (i + 1).toNat = i.toNat + 1 by omega,tk,hr,g2,blk,e2]
 ·simp only [decide_eq_false_iff_not] at hge
  rw [g2,show i.toNat = eQ.length by omega]
theorem zV {l : List Int} (h : ∀ x ∈ l,(fun n=>(Lit.int .u8 n).wf = true) x) : ∀ x ∈ l,0 ≤ x ∧ x ≤ 255:=fun x hx=>by
 have h1 : (Lit.int .u8 x).wf = true:=h x hx
 simp [Lit.wf,IntKind.min,IntKind.max,IntKind.signed,IntKind.bits] at h1
 omega
end
noncomputable section
theorem kE {c p s : Int} (hc : 1 ≤ c ∧ c ≤ 8) (hp : Rg p) (hs : 0 ≤ s ∧ s ≤ 31) : 0 ≤ kW c p s ∧ kW c p s ≤ 31:=by
 unfold kW
 split
 ·rename_i h
  unfold Rg at hp
  rcases (by omega : p = 0 ∨ p = 1 ∨ p = 2 ∨ p = 3 ∨ p = 4 ∨ p = 5 ∨ p = 6 ∨ p = 7) with rfl | rfl | rfl | rfl | rfl | rfl | rfl | rfl <;> decide
 ·exact hs
theorem xL {n : Int} (h : 1 ≤ n ∧ n ≤ 12) : 1 ≤ w5 n ∧ w5 n ≤ 11:=by
 rcases (by omega : n = 1 ∨ n = 2 ∨ n = 3 ∨ n = 4 ∨ n = 5 ∨ n = 6 ∨ n = 7 ∨ n = 8 ∨ n = 9 ∨ n = 10 ∨ n = 11 ∨ n = 12) with rfl | rfl | rfl | rfl | rfl | rfl | rfl | rfl | rfl | rfl | rfl | rfl <;> decide
def All (l : List Instr) : Prop:=∀ x ∈ l,IOk x
theorem All.nil : All []:=fun x h=>by cases h
theorem All.cons {x : Instr} {l : List Instr} (h : IOk x) (k : All l) : All (x :: l):=fun y hy=>by
 rcases List.mem_cons.1 hy with rfl | hy
 ·exact h
 ·exact k y hy
theorem All.app {l l' : List Instr} (h : All l) (k : All l') : All (l ++ l'):=fun y hy=>(List.mem_append.1 hy).elim (h y) (k y)
theorem q0 : (0 : Int) ≤ 0 ∧ (0 : Int) ≤ 31:=by decide
theorem q2 : (0 : Int) ≤ 2 ∧ (2 : Int) ≤ 31:=by decide
theorem q7 : (0 : Int) ≤ 7 ∧ (7 : Int) ≤ 31:=by decide
theorem iU {d s i : Int} (hd : 0 ≤ d ∧ d ≤ 31) (hs : 0 ≤ s ∧ s ≤ 31) (hi : -2048 ≤ i ∧ i ≤ 2047) {op : Int} (ho : 12 ≤ op ∧ op ≤ 15) : IOk ⟨op,d,s,0,i⟩:=⟨hd,hs,q0,.inr (.inl ⟨ho.1,ho.2,rfl,hi.1,hi.2⟩)⟩
theorem oM {c p s : Int} (hc : 1 ≤ c ∧ c ≤ 8) (hp : Rg p) (hs : 0 ≤ s ∧ s ≤ 31) : All (rdL c p s):=by
 unfold rdL Rg at *
 split
 ·exact .nil
 ·exact .cons (iU hs (by omega) (by omega) (by omega)) .nil
theorem sP {c p : Int} (hc : 1 ≤ c ∧ c ≤ 8) (hp : Rg p) : All (wrL c p):=by
 unfold wrL Rg at *
 split
 ·exact .nil
 ·exact .cons ⟨q0,q2,q7,.inr (.inr (.inl ⟨rfl,rfl,by show -2048 ≤ 4 * (p - c); omega,by show 4 * (p - c) ≤ 2047; omega⟩))⟩ .nil
theorem mP {n : Int} (h : 0 ≤ n ∧ n ≤ 5) : All (nZ n):=.cons (iU (by omega) (by omega) (by omega) (by omega)) (.cons (iU (by omega) (by omega) (by omega) (by omega)) .nil)
theorem w7 {d n : Int} (hd : 0 ≤ d ∧ d ≤ 31) (hn : Wd n) : All (ma d n):=by
 unfold ma
 split
 ·exact .cons (iU hd (by omega) (by omega) (by omega)) .nil
 ·refine .cons ?_ (.cons (iU hd hd ?_ (by omega)) .nil)
  ·exact ⟨hd,q0,q0,.inr (.inr (.inr (.inr (.inl ⟨rfl,rfl,rfl,by show 0 ≤ w4 n; unfold w4; omega,by show w4 n ≤ 1048575; unfold w4; omega⟩))))⟩
  ·unfold ve; split <;> omega
theorem yA {q : ah} {m c off : Int} (hq : QOk m q) (hc : 1 ≤ c ∧ c ≤ 8) (ho : -1000000 ≤ off ∧ off ≤ 1000000) (he : off % 2 = 0) : All (mO q c off):=by
 unfold QOk at hq
 unfold mO
 split
 ·rename_i h1
  simp [h1] at hq
  exact (w7 (kE hc (hq.1) (by omega)) (hq.2.2.2)).app (sP hc (hq.1))
 split
 ·rename_i h1 h2
  simp [h2] at hq
  exact ((oM hc (hq.2.1) (by omega)).app (.cons (iU (kE hc (hq.1) (by omega)) (kE hc (hq.2.1) (by omega)) (by omega) (by omega)) .nil)).app (sP hc (hq.1))
 split
 ·rename_i h1 h2 h3
  simp [h3] at hq
  have r1:=kE (c:=c) (p:=q.Dst) (s:=7) hc (hq.1) (by omega)
  have r2:=kE (c:=c) (p:=q.A) (s:=5) hc (hq.2.1) (by omega)
  have r3:=kE (c:=c) (p:=q.B) (s:=6) hc (hq.2.2.1) (by omega)
  have r4:=xL (n:=q.N) (by omega)
  refine (((oM hc (hq.2.1) (by omega)).app (oM hc (hq.2.2.1) (by omega))).app (.cons ⟨r1,r2,r3,.inl ⟨r4.1,r4.2,rfl⟩⟩ .nil) |>.app ?_).app (sP hc (hq.1))
  ·split
   ·exact .cons (iU r1 r1 (by omega) (by omega)) .nil
   ·exact .nil
 split
 ·exact .cons ⟨q0,q0,q0,.inr (.inr (.inr (.inr (.inr (.inl ⟨rfl,rfl,rfl,by show -1048576 ≤ off; omega,by show off ≤ 1048574; omega,he⟩)))))⟩ .nil
 split
 ·rename_i h1 h2 h3 h4 h5
  simp [h5] at hq
  have r2:=kE (c:=c) (p:=q.A) (s:=5) hc (hq.2.1) (by omega)
  have l1:=qG c q.A 5
  refine ((oM hc (hq.2.1) (by omega)).app (.cons ⟨q0,r2,q0,.inr (.inr (.inr (.inl ⟨.inr rfl,rfl,(by decide : (-4096 : Int) ≤ 8),(by decide : (8 : Int) ≤ 4094),(rfl : (8 : Int) % 2 = 0)⟩)))⟩ .nil)).app (.cons ?_ .nil)
  refine ⟨q0,q0,q0,.inr (.inr (.inr (.inr (.inr (.inl ⟨rfl,rfl,rfl,?_,?_,?_⟩)))))⟩
  ·show -1048576 ≤ off - 4 * (((rdL c q.A 5).length : Int) + 1); omega
  ·show off - 4 * (((rdL c q.A 5).length : Int) + 1) ≤ 1048574; omega
  ·show (off - 4 * (((rdL c q.A 5).length : Int) + 1)) % 2 = 0; omega
 split
 ·rename_i h1 h2 h3 h4 h5 h6
  simp [h6] at hq
  have r2:=kE (c:=c) (p:=q.A) (s:=5) hc (hq.2.1) (by omega)
  exact ((oM hc (hq.2.1) (by omega)).app (.cons (iU (by omega) r2 (by omega) (by omega)) (.cons (iU (by omega) (by omega) (by omega) (by omega)) .nil))).app (mP (by omega))
 split
 ·rename_i h1 h2 h3 h4 h5 h6 h7
  simp [h7] at hq
  exact (((All.cons (iU (by omega) (by omega) (by omega) (by omega)) .nil).app (mP (by omega))).app (.cons (iU (kE hc (hq.1) (by omega)) (by omega) (by omega) (by omega)) .nil)).app (sP hc (hq.1))
 split
 ·exact mP (by omega)
 split
 ·rename_i h1 h2 h3 h4 h5 h6 h7 h8 h9
  simp [h9] at hq
  have r2:=kE (c:=c) (p:=q.A) (s:=5) hc (hq.2.1) (by omega)
  exact ((oM hc (hq.2.1) (by omega)).app (.cons (iU (by omega) r2 (by omega) (by omega)) .nil)).app (mP (by omega))
 ·exact mP (by omega)
theorem zW (eQ : List ah) (c : Int) (i : Nat) : pY eQ c i % 2 = 0:=by
 unfold pY; split <;> omega
theorem zX {eQ : List ah} (hc : COk eQ) {c : Int} (h : 1 ≤ c ∧ c ≤ 8) : ∀ i,i ≤ eQ.length → All (tk eQ c i)
 | 0,_=>.nil
 | i + 1,hi=>by
  have e : qAt eQ i = eQ[i]:=vf (List.getElem?_eq_getElem (by omega))
  have hq:=hc.q _ (List.mem_of_getElem? (List.getElem?_eq_getElem (show i < eQ.length by omega)))
  refine (zX hc h i (by omega)).app ?_
  unfold blk
  rw [e]
  exact yA hq h (uE hc (by omega)) (zW eQ c i)
end
noncomputable section
variable {b : List Int} {p m : Int}
theorem zY (hb : By b) {k : Nat} (hk : 20 ≤ k) (h0 : 0 ≤ p) (hm : p ≤ m) (hp : m ≤ 100000) : Dr (iK k ⟨b,p⟩) (m + 150001) fun l=>1 ≤ l.length ∧ l.length ≤ 3 ∧ ∀ c ∈ l,COk c ∧ c.length ≤ 40:=by
 unfold iK
 refine .bind (be hb h0 hm (by omega) (by omega) (by omega)) fun x p1 hx h1 h2=>?_
 dsimp only
 obtain ⟨n,hn⟩ : ∃ n : Int,n = 1 + x:=⟨_,rfl⟩
 have hw : w64 (1 + x) = n:=by rw [a7 (by omega) (by omega),hn]
 refine .tot (P:=fun r=>0 ≤ r.2 ∧ r.2 ≤ m + 1 + 150000 ∧ (r.1.length : Int) = n ∧ ∀ c ∈ r.1,COk c ∧ c.length ≤ 40) (.iter (fun s=>0 ≤ s.2.1 ∧ s.2.1 ≤ n ∧ 0 ≤ s.2.2 ∧ s.2.2 ≤ m + 1 + 50000 * s.2.1 ∧ (s.1.length : Int) = s.2.1 ∧ ∀ c ∈ s.1,COk c ∧ c.length ≤ 40) (fun s=>(n - s.2.1).toNat) ⟨by simp,by simp only; omega,h1,by simp only; omega,by simp,by simp⟩ fun s hs=>?_) fun r hr=>?_
 ·obtain ⟨out,i,q⟩:=s
  obtain ⟨g0,g1,g2,g3,g4,g5⟩:=hs
  simp only at g0 g1 g2 g3 g4 g5
  unfold kt
  dsimp only
  rw [hw,bE g0 (by omega)]
  refine .sel (fun h=>?_) fun h=>.inr (show 0 ≤ q ∧ q ≤ m + 1 + 150000 ∧ (out.length : Int) = n ∧ ∀ c ∈ out,COk c ∧ c.length ≤ 40 from ?_)
  ·simp only [decide_eq_true_eq] at h
   refine .bind (Bf hb hk g2 g3 (by omega)) fun y hy=>.bind (.app (l:=out) (by simp; omega)) fun r hr=>.inl ?_
   subst hr
   refine ⟨⟨by simp only; omega,by simp only; omega,hy.1,by have:=hy.2.1; simp only; omega,by simp; omega,fun z hz=>?_⟩,by simp only; omega⟩
   simp only [List.mem_append,List.mem_singleton] at hz
   rcases hz with hz | rfl
   ·exact g5 z hz
   ·exact hy.2.2
  ·simp only [decide_eq_false_iff_not] at h
   exact ⟨g2,by omega,by omega,g5⟩
 ·exact .pure ⟨by have:=hr.2.2.1; omega,by have:=hr.2.2.1; omega,hr.2.2.2⟩ hr.1 (by have:=hr.2.1; omega)
def LOk (l : List (List Instr)) : Prop:=1 ≤ l.length ∧ l.length ≤ 3 ∧ ∀ x ∈ l,x.length ≤ 240 ∧ All x
end
noncomputable section
theorem xM {l : List (List Instr)} (n : Nat) (h : ∀ x ∈ l,x.length ≤ n) : szs List.length l ≤ n * l.length:=by
 induction l with
 | nil=>simp [szs]
 | cons x xs ih =>
  have h1:=h x (by simp)
  have h2:=ih fun y hy=>h y (by simp [hy])
  simp only [szs,List.length_cons,Nat.mul_add,Nat.mul_one]
  omega
theorem CC {rW : List (List Instr)} {ws : List (List Int)} (hw : wls rW = some ws) : ws.length = rW.length ∧ atN ws = 92 + szs List.length rW:=by
 obtain ⟨k1,k2⟩:=lX hw
 refine ⟨k1,?_⟩
 unfold atN
 rw [List.length_append,pT,k2]
end
noncomputable section
theorem kF {l : List Int} (hl : l.length ≤ 1048576) : dX l l = some true:=by
 unfold dX
 refine ac (by simp) ?_
 have e:=tu (f:=fg l l) (l:=l) (fun _=>true) (by omega) (fun i hi=>by
  unfold fg
  exact al (by simpa using hi) (aa (df hi) (aa (df hi) (ac (by simp) rfl)))) (by
  unfold fg
  exact ac (by simp) rfl)
 rw [show l.all (fun _=>true) = true by simp] at e
 exact aa e rfl
theorem gY {m : ai} (h1 : m.Regs.length ≤ 1048576) (h2 : m.Mem.length ≤ 1048576) : cW m m = some true:=by
 unfold cW
 exact aa (y:=true) (al (by simp) (aa (kF h1) rfl)) (aa (y:=true) (al rfl (aa (kF h2) rfl)) rfl)
theorem zZ {l : List Int} (h : ∀ x ∈ l,Wd x) : l.all wdB = true:=by
 rw [List.all_eq_true]
 intro x hx
 have:=h x hx
 unfold Wd at this
 unfold wdB
 simp
 exact this
theorem Bi {r : List Int} {pc : Int} {m : List Int} (hM : MOK r pc m) (h0 : r[0]? = some 0) : c9 ⟨r,pc,m⟩ = some true ∧ mp ⟨r,pc,m⟩ = some true:=by
 have h32:=hM.r32
 have h10:=hM.m10
 have hn:=df (l:=r) (i:=0) (by omega)
 have g0 : (r[0]'(by omega) == 0) = true:=by
  rw [List.getElem?_eq_getElem (by omega)] at h0
  rw [o9 h0]; rfl
 have w1 : dY r = some true:=(oJ r (by omega)).trans (by rw [zZ hM.wr])
 have w2 : dY m = some true:=(oJ m (by omega)).trans (by rw [zZ hM.wm])
 have w3 : co pc = some true:=by
  have:=hM.wp
  unfold Wd at this
  unfold co
  rw [decide_eq_true (by omega),decide_eq_true (by omega)]; rfl
 have key : c9 ⟨r,pc,m⟩ = some true:=by
  unfold c9
  exact aa (y:=true) (al (by simp [h32]) (aa w1 rfl)) (aa (y:=true) (al rfl (aa hn (congrArg some g0))) (aa (y:=true) (al rfl (aa w3 rfl)) (aa (y:=true) (al (by simp; omega) (aa w2 rfl)) rfl)))
 obtain ⟨b,v1,v2,_⟩:=C6 r pc m (by omega) (by omega)
 rw [v2] at key
 rw [v1,v2]
 exact ⟨key,key⟩
theorem yB {r : List Int} {pc : Int} {m : List Int} {n : Nat} (hn : n ≤ 1000000) (hM : MOK r pc m) (h0 : r[0]? = some 0) : fW ⟨r,pc,m⟩ (n : Int) = some (ue n ([],r,pc,m)):=by
 unfold fW
 have a1 : app 8 [] r = some r:=(ij (by simp; have:=hM.r32; omega)).trans (by simp)
 have a2 : app 8 [] m = some m:=(ij (by simp; have:=hM.m10; omega)).trans (by simp)
 have c2 : fi (ai.mk r pc m) = some (ai.mk r pc m):=by
  unfold fi cX
  dsimp only
  rw [a1,a2]
  rfl
 have e2 : ((!true || decide ((n : Int) < 0)) || decide ((n : Int) > 1000000)) = false:=by rw [decide_eq_false (by omega),decide_eq_false (by omega)]; rfl
 have it:=vN hn n ([],r,pc,m) 0 (by omega) hM (by simp)
 refine aa (Bi hM h0).1 (ac e2 (aa c2 (aa it ?_)))
 unfold ue
 cases ym n ([],r,pc,m) <;> rfl
theorem z9 : ∀ {l : List Instr} {ws : List Int},wl l = some ws → ∀ x ∈ ws,Wd x
 | [],ws,h=>by simp only [wl,Option.some.injEq] at h; subst h; intro x hx; cases hx
 | x :: xs,ws,h=>by
  simp only [wl] at h
  split at h
  ·rename_i w ws' h1 h2
   injection h with h
   subst h
   intro y hy
   rcases List.mem_cons.1 hy with rfl | hy
   ·rcases nk x with ⟨r,_,_,e⟩ | ⟨r,_,_,e⟩
    ·rw [e] at h1
     rw [← o9 h1]
     exact pQ r
    ·rw [e] at h1; cases h1
   ·exact z9 h2 y hy
  ·cases h
theorem Aa : ∀ {l : List (List Instr)} {ws : List (List Int)},wls l = some ws → ∀ x ∈ ws.flatten,Wd x
 | [],ws,h=>by simp only [wls,Option.some.injEq] at h; subst h; intro x hx; simp at hx
 | x :: xs,ws,h=>by
  simp only [wls] at h
  split at h
  ·rename_i w ws' h1 h2
   injection h with h
   subst h
   intro y hy
   simp only [List.flatten_cons,List.mem_append] at hy
   rcases hy with hy | hy
   ·exact z9 h1 y hy
   ·exact Aa h2 y hy
  ·cases h
theorem CD : ∀ x ∈ rtW,Wd x:=by
 obtain ⟨mem0,m1,m2⟩:=nV
 unfold rtW
 rw [m1]
 exact z9 m1
theorem BO {rooms : List Int} (h : ∀ x ∈ rooms,Wd x) : ∀ j,∀ x ∈ bxL rooms j,Wd x
 | 0,x,hx=>by cases hx
 | j + 1,x,hx=>by
  simp only [bxL,List.mem_append,List.mem_cons,List.not_mem_nil,or_false] at hx
  rcases hx with hx | rfl | hx
  ·exact BO h j x hx
  ·cases hg : rooms[j]? with
   | none=>unfold Wd; simp
   | some y=>exact h y (List.mem_of_getElem? hg)
  ·have : x = 0:=by omega
   subst this; unfold Wd; omega
theorem BP {at_ : Nat} {st : List Int} (ha : at_ ≤ 10000) (hs : st.length ≤ 3) (h : ∀ x ∈ st,0 ≤ x ∧ x ≤ 10000) : ∀ j,j ≤ 3 → ∀ x ∈ bkL at_ st j,Wd x
 | 0,_,x,hx=>by cases hx
 | j + 1,hj,x,hx=>by
  simp only [bkL,List.mem_append,List.mem_cons,List.not_mem_nil,or_false] at hx
  rcases hx with hx | rfl | hx
  ·exact BP ha hs h j (by omega) x hx
  ·cases hg : st[j]? with
   | none=>unfold Wd; simp
   | some y=>have:=h y (List.mem_of_getElem? hg); unfold Wd; simp only [Option.getD_some]; omega
  ·unfold Wd; omega
theorem Bj {rW : List (List Instr)} {ws : List (List Int)} (hw : wls rW = some ws) (h3 : ws.length ≤ 3) {r1 r2 : Int} (h1 : 0 ≤ r1 ∧ r1 ≤ 4) (h2 : 0 ≤ r2 ∧ r2 ≤ 4) (hl : (dU [r1,r2] ws).length ≤ 10000) :
  MOK (jZ ws) 368 (dU [r1,r2] ws) ∧ (jZ ws)[0]? = some 0:=by
 have k6:=pU [r1,r2] ws
 have hat : atN ws = 92 + ws.flatten.length:=by unfold atN; rw [List.length_append,pT]
 refine ⟨⟨rfl,hl,?_,?_,by unfold Wd; omega⟩,rfl⟩
 ·intro x hx
  have hx : x ∈ ((((List.replicate 32 (0 : Int)).set 2 (4 * (atN ws : Int) + 112 + 64 * ws.length)).set 3 (4 * (atN ws : Int))).set 4 (4 * (atN ws : Int) + 112)):=hx
  have hm:=List.mem_or_eq_of_mem_set hx
  unfold Wd
  rcases hm with hm | rfl
  ·rcases List.mem_or_eq_of_mem_set hm with hm | rfl
   ·rcases List.mem_or_eq_of_mem_set hm with hm | rfl
    ·have:=List.eq_of_mem_replicate hm; omega
    ·omega
   ·omega
  ·omega
 ·intro x hx
  rw [sO] at hx
  unfold tx hdL at hx
  simp only [List.mem_append] at hx
  rcases hx with (hx | hx) | ((hx | hx) | hx) | hx
  ·exact CD x hx
  ·exact Aa hw x hx
  ·simp only [List.mem_cons,List.not_mem_nil,or_false] at hx
   unfold Wd; omega
  ·exact BO (fun y hy=>by simp only [List.mem_cons,List.not_mem_nil,or_false] at hy; unfold Wd; omega) 3 x hx
  ·refine BP (by omega) (by rw [mq]; exact h3) (fun y hy=>?_) ws.length h3 x hx
   have:=uY hy
   omega
  ·have:=List.eq_of_mem_replicate hx
   unfold Wd; omega
end
noncomputable section
theorem Db {k f3 f7 : Nat} (hk : k < 21) (h3 : k < 18 → f3 = t3 k) (h7 : k < 11 → f7 = t7 k) : So (tO k) f3 f7 = k + 1:=by
 rcases Nat.lt_or_ge k 11 with h | h
 ·obtain rfl:=h3 (by omega)
  obtain rfl:=h7 h
  rcases (by omega : k = 0 ∨ k = 1 ∨ k = 2 ∨ k = 3 ∨ k = 4 ∨ k = 5 ∨ k = 6 ∨ k = 7 ∨ k = 8 ∨ k = 9 ∨ k = 10) with rfl | rfl | rfl | rfl | rfl | rfl | rfl | rfl | rfl | rfl | rfl <;> rfl
 rcases Nat.lt_or_ge k 18 with h' | h'
 ·obtain rfl:=h3 h'
  rcases (by omega : k = 11 ∨ k = 12 ∨ k = 13 ∨ k = 14 ∨ k = 15 ∨ k = 16 ∨ k = 17) with rfl | rfl | rfl | rfl | rfl | rfl | rfl <;> rfl
 ·rcases (by omega : k = 18 ∨ k = 19 ∨ k = 20) with rfl | rfl | rfl <;> rfl
theorem CE {i : Instr} {r : Nat} (hr : r < 4294967296) (h : Fl i r) (he : bB i = some (r : Int)) : cC (r : Int) = some (i,true):=by
 obtain ⟨x,b,d1,d2,_⟩:=wH r hr
 have key : dn (r : Int) = some (i,true):=by
  obtain ⟨k,hk,ho,f1,f2,f3,f4⟩:=h
  have hop : kv (r : Int) = some ((k : Int) + 1):=by
   rw [xz r hr]
   have e1 : r / 2 ^ 0 % 2 ^ 7 = tO k:=by simp only [Nat.pow_zero,Nat.div_one,Nat.reducePow]; exact f1
   have e2:=Db (f3:=r / 2 ^ 12 % 2 ^ 3) (f7:=r / 2 ^ 25 % 2 ^ 7) hk (fun h=>by simp only [Nat.reducePow]; exact f2 h) (fun h=>by simp only [Nat.reducePow]; exact f3 h)
   rw [e1,e2]
   rfl
  have e1 : (decide ((r : Int) ≥ 0) && decide ((r : Int) ≤ 4294967295)) = true:=by rw [decide_eq_true (by omega),decide_eq_true (by omega)]; rfl
  unfold dn aJ
  rw [e1]
  rw [ho] at f4
  have hz : ((k : Int) + 1 == 0) = false:=by simp; omega
  simp only [ob9,Bool.not_true,hop,f4,he,hz,sel,bne_self_eq_false]
 rw [d1] at key
 rw [d2]
 exact key
theorem Ab {x : Instr} {w : Int} (h : pS x = some w) : ∃ u : Nat,bG w = some (u : Int) ∧ cC (u : Int) = some (x,true):=by
 obtain ⟨r,b,h1,h2,h3,h4,h5,h6,h7⟩:=wM x
 unfold pS at h
 rw [h3] at h
 cases b
 ·cases h
 ·obtain rfl:=o9 h
  have hb:=pQ (r : Int)
  obtain ⟨u,u1,u2,u3,_⟩:=jP (x:=bC (r : Int)) hb.1 hb.2
  have : u = r:=by
   have : bC (r : Int) % 4294967296 = (r : Int):=by unfold bC; split <;> omega
   omega
  subst this
  exact ⟨u,u3,CE h1 (h7 rfl) (h4 rfl)⟩
theorem Ac : ∀ {l : List Instr} {ws : List Int},wl l = some ws → ∀ (i : Nat) (x : Instr),l[i]? = some x → ∃ (w : Int) (u : Nat),ws[i]? = some w ∧ bG w = some (u : Int) ∧ cC (u : Int) = some (x,true)
 | [],ws,h,i,x,hx=>by simp at hx
 | y :: ys,ws,h,i,x,hx=>by
  simp only [wl] at h
  split at h
  ·rename_i w ws' h1 h2
   injection h with h
   subst h
   cases i with
   | zero =>
    obtain rfl : y = x:=by simpa using hx
    obtain ⟨u,u1,u2⟩:=Ab h1
    exact ⟨w,u,rfl,u1,u2⟩
   | succ i=>exact Ac h2 i x (by simpa using hx)
  ·cases h
end
noncomputable section
def Dc (rooms : List Int) (rW : List (List Instr)) : Prop:=(∃ r1 r2 : Int,rooms = [r1,r2] ∧ (0 ≤ r1 ∧ r1 ≤ 4) ∧ (1 ≤ r2 ∧ r2 ≤ 4)) ∧ 1 ≤ rW.length ∧ rW.length ≤ 6 ∧ ∀ x ∈ rW,x.length ≤ 241
theorem Bk {α : Type} {l : List α} {n : Nat} {x : α} (h : l[n]? = some x) : nth l (n : Int) = some x:=by
 unfold nth
 rw [if_neg (by omega)]
 simpa using h
end
noncomputable section
def hM (n : Nat) (ws : List Int) : ai:=⟨(List.replicate 32 (0 : Int)).set 2 (4 * ((n : Int) + 1)),4,0 :: ws ++ List.replicate 12 0⟩
def hN (l : List Instr) : Option ai:=match wl l with
 | some ws=>some (hM l.length ws)
 | none=>none
end
noncomputable section
def st (regs : List Int) (rd v : Int) : List Int:=if rd = 0 then regs else regs.set rd.toNat v
theorem nr {regs : List Int} {pc : Int} {mem : List Int} (h32 : regs.length = 32) {rd v : Int} (hr : 0 ≤ rd ∧ rd ≤ 31) : dE (ai.mk regs pc mem) rd v = some (st regs rd v):=by
 obtain ⟨d,rfl,hd⟩:=i9 hr.1 hr.2
 unfold dE st
 cases h0 : ((d : Int) != 0)
 ·rw [if_pos (by simpa using h0)]; exact ac rfl rfl
 ·rw [if_neg (by simpa using h0)]
  exact al rfl (aa (df (l:=regs) (i:=d) (by omega)) (aa (uO (l:=regs) (i:=d) (by omega) v) (by simp)))
theorem w8 {regs : List Int} {rd v : Int} : (st regs rd v).length = regs.length:=by unfold st; split <;> simp
theorem pZ {regs : List Int} {rd v : Int} (hr : 0 ≤ rd) {k : Nat} (h : (k : Int) ≠ rd) : (st regs rd v)[k]? = regs[k]?:=by
 unfold st
 split
 ·rfl
 ·rw [List.getElem?_set_ne (by omega)]
theorem wk {regs : List Int} {k : Nat} {v : Int} (h0 : k ≠ 0) (hk : k < regs.length) : (st regs (k : Int) v)[k]? = some v:=by
 unfold st
 rw [if_neg (by omega),Int.toNat_natCast,List.getElem?_set_self hk]
theorem Ad {regs : List Int} {rd v : Int} (hw : ∀ x ∈ regs,Wd x) (hv : Wd v) : ∀ x ∈ st regs rd v,Wd x:=by
 unfold st
 split
 ·exact hw
 ·intro x hx
  rcases List.mem_or_eq_of_mem_set hx with h | h
  ·exact hw x h
  ·exact h ▸ hv
section
variable {regs mem : List Int} {pc rd rs rt imm a b : Int}
theorem oc (hM : MOK regs pc mem) (h0 : 0 ≤ pc) (h1 : pc ≤ 40000) (hd : 0 ≤ rd ∧ rd ≤ 31) (ha : nth regs rs = some a) : bX (ai.mk regs pc mem) ⟨12,rd,rs,rt,imm⟩ = some (true,st regs rd (bC (w64 (a + imm))),pc + 4,mem):=by
 obtain ⟨n1,n2,n3,n4⟩:=cY hM h0 h1
 have k1:=nr (pc:=pc) (mem:=mem) hM.r32 hd (v:=bC (w64 (a + imm)))
 exact aa ha (aa (y:=.inl (st regs rd (bC (w64 (a + imm))))) (aa (y:=false) rfl (ac rfl (aa (y:=false) rfl (ac rfl (al rfl (aa (ce _) (aa k1 rfl))))))) (by show some (true,_,w64 (pc + 4),mem) = _; rw [n3]))
theorem yC (hM : MOK regs pc mem) (h0 : 0 ≤ pc) (h1 : pc ≤ 40000) (hd : 0 ≤ rd ∧ rd ≤ 31) (hs : 0 ≤ rs ∧ rs ≤ 31) (hi : -1048576 ≤ imm ∧ imm ≤ 1048575) : ∃ v,Wd v ∧ bX (ai.mk regs pc mem) ⟨13,rd,rs,rt,imm⟩ = some (true,st regs rd v,pc + 4,mem):=by
 obtain ⟨a,ha,wa⟩:=dp hM.r32 hM.wr hs
 obtain ⟨n1,n2,n3,n4⟩:=cY hM h0 h1
 obtain ⟨u1,_,_,p1,p2⟩:=jP wa.1 wa.2
 obtain ⟨u2,_,_,p3,p4⟩:=jP (x:=imm) (by omega) (by omega)
 obtain ⟨v,f1,f2,f3⟩:=uX (decide ((u1 : Int) < (u2 : Int)))
 have k1:=nr (pc:=pc) (mem:=mem) hM.r32 hd (v:=v)
 exact ⟨v,f1,aa ha (aa (y:=.inl (st regs rd v)) (aa (y:=false) rfl (ac rfl (aa (y:=false) rfl (ac rfl (ac rfl (al rfl (aa p2 (aa p4 (aa f2 (aa k1 rfl)))))))))) (by show some (true,_,w64 (pc + 4),mem) = _; rw [n3]))⟩
theorem Bl (hM : MOK regs pc mem) (h0 : 0 ≤ pc) (h1 : pc ≤ 40000) (hd : 0 ≤ rd ∧ rd ≤ 31) (hs : 0 ≤ rs ∧ rs ≤ 31) : ∃ v,Wd v ∧ bX (ai.mk regs pc mem) ⟨19,rd,rs,rt,imm⟩ = some (true,st regs rd v,pc + 4,mem):=by
 obtain ⟨a,ha,wa⟩:=dp hM.r32 hM.wr hs
 obtain ⟨n1,n2,n3,n4⟩:=cY hM h0 h1
 have k1:=nr (pc:=pc) (mem:=mem) hM.r32 hd (v:=bC (w64 (imm * 4096)))
 exact ⟨_,fZ _,aa ha (aa (y:=.inl (st regs rd (bC (w64 (imm * 4096))))) (aa (y:=false) rfl (ac rfl (aa (y:=false) rfl (ac rfl (ac rfl (ac rfl (al rfl (aa (ce _) (aa k1 rfl))))))))) (by show some (true,_,w64 (pc + 4),mem) = _; rw [n3]))⟩
theorem Bm {k : Nat} (hk : k < 11) (hM : MOK regs pc mem) (h0 : 0 ≤ pc) (h1 : pc ≤ 40000) (hd : 0 ≤ rd ∧ rd ≤ 31) (hs : 0 ≤ rs ∧ rs ≤ 31) (ht : 0 ≤ rt ∧ rt ≤ 31) : ∃ v,Wd v ∧ bX (ai.mk regs pc mem) ⟨(k : Int) + 1,rd,rs,rt,imm⟩ = some (true,st regs rd v,pc + 4,mem):=by
 obtain ⟨a,ha,wa⟩:=dp hM.r32 hM.wr hs
 obtain ⟨b,hb,wb⟩:=dp hM.r32 hM.wr ht
 obtain ⟨n1,n2,n3,n4⟩:=cY hM h0 h1
 obtain ⟨v,f1,f2,_⟩:=zk k hk wa wb
 have k1:=nr (pc:=pc) (mem:=mem) hM.r32 hd (v:=v)
 have c : ∀ n : Int,12 ≤ n → (((k : Int) + 1) == n) = false:=fun n hn=>by simp; omega
 exact ⟨v,f1,aa ha (aa (y:=.inl (st regs rd v)) (aa (y:=false) (ac (c 14 (by decide)) (congrArg some (c 16 (by decide)))) (ac rfl (aa (y:=false) (ac (c 15 (by decide)) (ac (c 20 (by decide)) (ac (c 17 (by decide)) (congrArg some (c 18 (by decide)))))) (ac rfl (ac (c 12 (by decide)) (ac (c 13 (by decide)) (ac (c 19 (by decide)) (aa hb (aa f2 (aa k1 rfl))))))))))
  (by show some (true,_,w64 (pc + 4),mem) = _; rw [n3]))⟩
theorem Ae {k : Nat} {v : Int} (hk : k < 11) (hM : MOK regs pc mem) (h0 : 0 ≤ pc) (h1 : pc ≤ 40000) (hd : 0 ≤ rd ∧ rd ≤ 31) (ha : nth regs rs = some a) (hb : nth regs rt = some b) (f2 : gy ((k : Int) + 1) a b = some v) : bX (ai.mk regs pc mem) ⟨(k : Int) + 1,rd,rs,rt,imm⟩ = some (true,st regs rd v,pc + 4,mem):=by
 obtain ⟨n1,n2,n3,n4⟩:=cY hM h0 h1
 have k1:=nr (pc:=pc) (mem:=mem) hM.r32 hd (v:=v)
 have c : ∀ n : Int,12 ≤ n → (((k : Int) + 1) == n) = false:=fun n hn=>by simp; omega
 exact aa ha (aa (y:=.inl (st regs rd v)) (aa (y:=false) (ac (c 14 (by decide)) (congrArg some (c 16 (by decide)))) (ac rfl (aa (y:=false) (ac (c 15 (by decide)) (ac (c 20 (by decide)) (ac (c 17 (by decide)) (congrArg some (c 18 (by decide)))))) (ac rfl (ac (c 12 (by decide)) (ac (c 13 (by decide)) (ac (c 19 (by decide)) (aa hb (aa f2 (aa k1 rfl))))))))))
  (by show some (true,_,w64 (pc + 4),mem) = _; rw [n3]))
theorem qa (ha : Wd a) (hb : Wd b) : gy (((0 : Nat) : Int) + 1) a b = some (bC (w64 (a + b))):=aa (y:=8) rfl (aa ((fj rfl ha hb).trans (ac rfl (ac rfl (ac rfl (ac rfl (ac rfl (ac rfl (ac rfl (al rfl (aa (ce _) rfl)))))))))) rfl)
theorem xN (ha : Wd a) (hb : Wd b) (h : b ≠ 0) : gy (((4 : Nat) : Int) + 1) a b = some (a.tmod b):=by
 have hq : nL a b = some (a.tmod b):=by unfold nL; rw [if_neg h]
 have hb0 : (b == 0) = false:=by simpa using h
 exact aa (y:=12) rfl (aa ((fj rfl ha hb).trans (ac rfl (ac rfl (ac rfl (ac rfl (ac rfl (ac rfl (ac rfl (ac rfl (ac rfl (ac rfl (ac rfl (aa (ac hb0 (aa hq rfl)) rfl))))))))))))) rfl)
theorem sQ {x s : Nat} (hx : x < 4) (hs : s = 2 ∨ s = 5) : gy (((8 : Nat) : Int) + 1) (x : Int) (s : Int) = some ((x * 2 ^ s : Nat) : Int):=by
 rcases hs with rfl | rfl <;> rcases (by omega : x = 0 ∨ x = 1 ∨ x = 2 ∨ x = 3) with rfl | rfl | rfl | rfl <;> kernel_rfl
theorem vg {j : Nat} (hj : j < mem.length) (hl : mem.length ≤ 10000) : fC mem (4 * (j : Int)) = some true ∧ w64 (Int.tdiv (4 * (j : Int)) 4) = (j : Int):=by
 rcases sL (mem:=mem) [] 0 (a:=4 * (j : Int)) (by unfold Wd; omega) hl with ⟨j',hj',e1,e2,_,e4⟩ | ⟨e2,_⟩
 ·obtain rfl : j' = j:=by omega
  exact ⟨e2,e4⟩
 ·exfalso
  unfold fC at e2
  rw [Int.tmod_eq_emod_of_nonneg (by omega),Int.tdiv_eq_ediv_of_nonneg (by omega),ax (by omega) (by omega)] at e2
  have:=o9 e2
  simp at this
  omega
theorem w9 {j : Nat} (hM : MOK regs pc mem) (h0 : 0 ≤ pc) (h1 : pc ≤ 40000) (hd : 0 ≤ rd ∧ rd ≤ 31) (ha : nth regs rs = some a) (hj : j < mem.length) (hj' : bC (w64 (a + imm)) = 4 * (j : Int)) : bX (ai.mk regs pc mem) ⟨14,rd,rs,rt,imm⟩ = some (true,st regs rd mem[j],pc + 4,mem):=by
 obtain ⟨n1,n2,n3,n4⟩:=cY hM h0 h1
 obtain ⟨e2,e4⟩:=vg hj hM.m10
 have k1:=nr (pc:=pc) (mem:=mem) hM.r32 hd (v:=mem[j])
 have hx' : nth mem (w64 (Int.tdiv (4 * (j : Int)) 4)) = some mem[j]:=by rw [e4]; exact df hj
 refine aa ha (aa (y:=.inr (true,st regs rd mem[j],pc + 4,mem)) (aa (y:=true) rfl (al rfl (aa (y:=(true,st regs rd mem[j],pc + 4,mem)) ?_ rfl))) rfl)
 refine aa ha (aa ((ce _).trans (congrArg some hj')) (aa e2 (ac rfl (aa (y:=(st regs rd mem[j],mem)) (al rfl (aa hx' (aa k1 rfl))) ?_))))
 show some (true,_,w64 (pc + 4),mem) = _
 rw [n3]
theorem Af {j : Nat} (hM : MOK regs pc mem) (h0 : 0 ≤ pc) (h1 : pc ≤ 40000) (ha : nth regs rs = some a) (hb : nth regs rt = some b) (hj : j < mem.length) (hj' : bC (w64 (a + imm)) = 4 * (j : Int)) : bX (ai.mk regs pc mem) ⟨16,rd,rs,rt,imm⟩ = some (true,regs,pc + 4,mem.set j b):=by
 obtain ⟨n1,n2,n3,n4⟩:=cY hM h0 h1
 obtain ⟨e2,e4⟩:=vg hj hM.m10
 have hx' : nth mem (w64 (Int.tdiv (4 * (j : Int)) 4)) = some mem[j]:=by rw [e4]; exact df hj
 have hu' : upd mem (w64 (Int.tdiv (4 * (j : Int)) 4)) b = some (mem.set j b):=by rw [e4]; exact uO hj b
 refine aa ha (aa (y:=.inr (true,regs,pc + 4,mem.set j b)) (aa (y:=true) rfl (al rfl (aa (y:=(true,regs,pc + 4,mem.set j b)) ?_ rfl))) rfl)
 refine aa ha (aa ((ce _).trans (congrArg some hj')) (aa e2 (ac rfl (aa (y:=(regs,mem.set j b)) (ac rfl (aa hb (aa hx' (aa hu' rfl)))) ?_))))
 show some (true,regs,w64 (pc + 4),mem.set j b) = _
 rw [n3]
theorem Ag (hM : MOK regs pc mem) (h0 : 0 ≤ pc) (h1 : pc ≤ 40000) (hz : nth regs 0 = some 0) : bX (ai.mk regs pc mem) ⟨15,1,0,0,0⟩ = some (true,st regs 1 (pc + 4),0,mem):=by
 obtain ⟨n1,n2,n3,n4⟩:=cY hM h0 h1
 have k1:=nr (pc:=pc) (mem:=mem) hM.r32 (rd:=1) (by omega) (v:=pc + 4)
 refine aa hz (aa (y:=.inr (true,st regs 1 (pc + 4),0,mem)) (aa (y:=false) rfl (ac rfl (aa (y:=true) rfl (al rfl (aa (y:=(st regs 1 (pc + 4),0)) ?_ rfl))))) rfl)
 exact aa n2 (aa hz (aa hz (al rfl (aa hz (aa (y:=0) rfl (aa k1 rfl))))))
theorem CF {x : Nat} (hM : MOK regs pc mem) (h0 : 0 ≤ pc) (h1 : pc ≤ 40000) (hz : nth regs 0 = some 0) (ha : nth regs rs = some (4 * (x : Int))) (hx : x ≤ 10000) : bX (ai.mk regs pc mem) ⟨15,0,rs,0,0⟩ = some (true,regs,4 * (x : Int),mem):=by
 obtain ⟨n1,n2,n3,n4⟩:=cY hM h0 h1
 have k1:=nr (pc:=pc) (mem:=mem) hM.r32 (rd:=0) (by omega) (v:=pc + 4)
 have hw : bC (w64 (4 * (x : Int) + 0)) = 4 * (x : Int):=by rw [ax (by omega) (by omega)]; unfold bC; split <;> omega
 have hb : w64 (4 * (x : Int) - aC .and .i64 (4 * (x : Int)) 1) = 4 * (x : Int):=by rw [Ci]; rw [show (4 * (x : Int)) % 2 = 0 by omega,ax (by omega) (by omega)]; omega
 refine aa ha (aa (y:=.inr (true,regs,4 * (x : Int),mem)) (aa (y:=false) rfl (ac rfl (aa (y:=true) rfl (al rfl (aa (y:=(regs,4 * (x : Int))) ?_ rfl))))) rfl)
 exact aa n2 (aa ha (aa hz (al rfl (aa ha (aa ((ce _).trans (congrArg some hw)) (aa k1 (by show some (regs,w64 (4 * (x : Int) - aC .and .i64 (4 * (x : Int)) 1)) = _; rw [hb])))))))
theorem CG {op : Int} (ho : op = 17 ∨ op = 18) {q : Int} (hM : MOK regs pc mem) (h0 : 0 ≤ pc) (h1 : pc ≤ 40000) (ha : nth regs rs = some a) (hb : nth regs rt = some b) (hq : bC (w64 (pc + imm)) = q) : bX (ai.mk regs pc mem) ⟨op,0,rs,rt,imm⟩ = some (true,regs,if (a = b) = (op = 17) then q else pc + 4,mem):=by
 obtain ⟨n1,n2,n3,n4⟩:=cY hM h0 h1
 have key : pN (ai.mk regs pc mem) ⟨op,0,rs,rt,imm⟩ = some (regs,if (a = b) = (op = 17) then q else pc + 4):=by
  refine aa n2 (aa ha (aa hb ?_))
  rcases ho with rfl | rfl
  ·refine ac rfl (ac rfl ?_)
   by_cases h : a = b
   ·rw [if_pos (by simp [h])]
    exact al (by simp [h]) (aa ((ce _).trans (congrArg some hq)) rfl)
   ·rw [if_neg (by simp [h])]
    exact ac (by simp [h]) rfl
  ·refine ac rfl (ac rfl ?_)
   by_cases h : a = b
   ·rw [if_neg (by simp [h])]
    exact ac (by simp [h]) rfl
   ·rw [if_pos (by simp [h])]
    exact al (by simp [h]) (aa ((ce _).trans (congrArg some hq)) rfl)
 rcases ho with rfl | rfl <;> exact aa ha (aa (y:=.inr (true,regs,_,mem)) (aa (y:=false) rfl (ac rfl (aa (y:=true) rfl (al rfl (aa key rfl))))) rfl)
theorem xO {q : Int} (hM : MOK regs pc mem) (h0 : 0 ≤ pc) (h1 : pc ≤ 40000) (hz : nth regs 0 = some 0) (hq : bC (w64 (pc + imm)) = q) : bX (ai.mk regs pc mem) ⟨20,0,0,0,imm⟩ = some (true,regs,q,mem):=by
 obtain ⟨n1,n2,n3,n4⟩:=cY hM h0 h1
 have k1:=nr (pc:=pc) (mem:=mem) hM.r32 (rd:=0) (by omega) (v:=pc + 4)
 exact aa hz (aa (y:=.inr (true,regs,q,mem)) (aa (y:=false) rfl (ac rfl (aa (y:=true) rfl (al rfl (aa (y:=(regs,q)) (aa n2 (aa hz (aa hz (ac rfl (al rfl (aa k1 (aa ((ce _).trans (congrArg some hq)) rfl))))))) rfl))))) rfl)
theorem Bn {q : Int} (hM : MOK regs pc mem) (h0 : 0 ≤ pc) (h1 : pc ≤ 40000) (hs : 0 ≤ rs ∧ rs ≤ 31) (hz : nth regs 0 = some 0) (hq : bC (w64 (pc + imm)) = q) : ∃ p,(p = pc + 4 ∨ p = q) ∧ bX (ai.mk regs pc mem) ⟨18,0,rs,0,imm⟩ = some (true,regs,p,mem):=by
 obtain ⟨a,ha,wa⟩:=dp hM.r32 hM.wr hs
 obtain ⟨n1,n2,n3,n4⟩:=cY hM h0 h1
 cases hc : ((a == 0) == ((18 : Int) == 17))
 ·refine ⟨pc + 4,.inl rfl,aa ha (aa (y:=.inr (true,regs,pc + 4,mem)) (aa (y:=false) rfl (ac rfl (aa (y:=true) rfl (al rfl (aa (y:=(regs,pc + 4)) ?_ rfl))))) rfl)⟩
  exact aa n2 (aa ha (aa hz (ac rfl (ac rfl (ac hc rfl)))))
 ·refine ⟨q,.inr rfl,aa ha (aa (y:=.inr (true,regs,q,mem)) (aa (y:=false) rfl (ac rfl (aa (y:=true) rfl (al rfl (aa (y:=(regs,q)) ?_ rfl))))) rfl)⟩
  exact aa n2 (aa ha (aa hz (ac rfl (ac rfl (al hc (aa ((ce _).trans (congrArg some hq)) rfl))))))
end
inductive Kn where
 | any
 | b11
 | c17 (n : Int)
def Kn.holds (regs : List Int) : Kn → Prop
 | .any=>True
 | .b11=>∃ b : Int,regs[11]? = some b ∧ 0 ≤ b ∧ b ≤ 1
 | .c17 n=>regs[17]? = some n ∧ 1 ≤ n ∧ n ≤ 5 ∧ (n ≤ 2 → ∃ b : Int,regs[11]? = some b ∧ 0 ≤ b ∧ b ≤ 1)
def Kp (d : Int) : Prop:=d ≠ 2 ∧ d ≠ 3 ∧ d ≠ 4
def Ah (i : Instr) : Prop:=
 ((1 ≤ i.Op ∧ i.Op ≤ 11 ∨ i.Op = 12 ∨ i.Op = 13 ∨ i.Op = 19) ∧ (0 ≤ i.Rd ∧ i.Rd ≤ 31) ∧ Kp i.Rd ∧ (0 ≤ i.Rs ∧ i.Rs ≤ 31) ∧ (0 ≤ i.Rt ∧ i.Rt ≤ 31) ∧ (i.Op = 13 → -1048576 ≤ i.Imm ∧ i.Imm ≤ 1048575)) ∨
 (i.Op = 14 ∧ i.Rs = 2 ∧ (0 ≤ i.Rd ∧ i.Rd ≤ 31) ∧ Kp i.Rd ∧ ∃ k : Nat,k < 12 ∧ i.Imm = 4 * (k : Int)) ∨ (i.Op = 16 ∧ i.Rs = 2 ∧ i.Rt = 7 ∧ ∃ k : Nat,k < 12 ∧ i.Imm = 4 * (k : Int))
def chk (F : Prop) (J : Int → Prop) : Int → Kn → List Instr → Prop
 | _,_,[]=>F
 | at_,σ,i :: s=>(Ah i ∧ chk F J (at_ + 1) .any s) ∨ (∃ b : Int,i = ⟨12,11,0,0,b⟩ ∧ 0 ≤ b ∧ b ≤ 1 ∧ chk F J (at_ + 1) .b11 s) ∨
   (∃ n : Int,i = ⟨12,17,0,0,n⟩ ∧ 1 ≤ n ∧ n ≤ 5 ∧ (n ≤ 2 → σ = .b11) ∧ chk F J (at_ + 1) (.c17 n) s) ∨ (i = ⟨15,1,0,0,0⟩ ∧ ∃ n,σ = .c17 n ∧ (n ≠ 5 → chk F J (at_ + 1) .any s)) ∨
   (∃ imm : Int,i = ⟨20,0,0,0,imm⟩ ∧ J (4 * at_ + imm)) ∨ (∃ rs : Int,(0 ≤ rs ∧ rs ≤ 31) ∧ i = ⟨18,0,rs,0,8⟩ ∧ s.length = 1 ∧ F ∧ chk F J (at_ + 1) .any s)
section
variable {F : Prop} {J : Int → Prop}
theorem chk.pl {σ : Kn} {at_ : Int} {i : Instr} {s : List Instr} (h : Ah i) (k : chk F J (at_ + 1) .any s) : chk F J at_ σ (i :: s):=.inl ⟨h,k⟩
theorem nt {c p s : Int} (hc : 1 ≤ c ∧ c ≤ 8) (hp : Rg p) (hs : s = 5 ∨ s = 6 ∨ s = 7) : (0 ≤ kW c p s ∧ kW c p s ≤ 31) ∧ Kp (kW c p s):=by
 unfold kW Kp
 unfold Rg at hp
 split
 ·obtain ⟨k,hk,hk2⟩ : ∃ k : Nat,p = (k : Int) ∧ k < 8:=⟨p.toNat,by omega,by omega⟩
  subst hk
  rcases (by omega : k = 0 ∨ k = 1 ∨ k = 2 ∨ k = 3 ∨ k = 4 ∨ k = 5 ∨ k = 6 ∨ k = 7) with rfl | rfl | rfl | rfl | rfl | rfl | rfl | rfl <;> exact ⟨⟨by decide,by decide⟩,by decide,by decide,by decide⟩
 ·omega
theorem chk.rd {σ : Kn} {at_ c p s : Int} {l : List Instr} (hc : 1 ≤ c ∧ c ≤ 8) (hp : Rg p) (hs : s = 5 ∨ s = 6) (k : ∀ a σ,chk F J a σ l) : chk F J at_ σ (rdL c p s ++ l):=by
 unfold rdL
 unfold Rg at hp
 split
 ·exact k _ _
 ·exact .pl (.inr (.inl ⟨rfl,rfl,by simp only; omega,by unfold Kp; simp only; omega,(p - c).toNat,by omega,by simp only; omega⟩)) (k _ _)
theorem chk.wr {at_ c p : Int} (hc : 1 ≤ c ∧ c ≤ 8) (hp : Rg p) (hF : F) : chk F J at_ .any (wrL c p):=by
 unfold wrL
 unfold Rg at hp
 split
 ·exact hF
 ·exact .pl (.inr (.inr ⟨rfl,rfl,rfl,(p - c).toNat,by omega,by simp only; omega⟩)) hF
theorem ky {d s i : Int} (hd : 0 ≤ d ∧ d ≤ 31) (h2 : Kp d) (hs : 0 ≤ s ∧ s ≤ 31) : Ah ⟨12,d,s,0,i⟩:=.inl ⟨.inr (.inl rfl),hd,h2,hs,by simp,fun h=>by cases h⟩
theorem Ai {q : ah} {m c off : Int} (hq : QOk m q) (hc : 1 ≤ c ∧ c ≤ 8) (hF : q.Op ≠ 4 → q.Op ≠ 10 → F) (hJ : q.Op = 4 ∨ q.Op = 5 → J off) : chk F J 0 .any (mO q c off):=by
 have hd : Rg q.Dst:=by unfold QOk at hq; unfold Rg at *; omega
 have rD:=nt hc hd (s:=7) (by omega)
 unfold mO
 unfold QOk at hq
 split
 ·rename_i h
  have hf:=hF (by omega) (by omega)
  unfold ma
  split
  ·exact .pl (ky rD.1 rD.2 (by omega)) (.wr hc hd hf)
  ·exact .pl (.inl ⟨.inr (.inr (.inr rfl)),rD.1,rD.2,by simp,by simp,fun h=>by cases h⟩) (.pl (ky rD.1 rD.2 rD.1) (.wr hc hd hf))
 split
 ·rename_i h
  have hf:=hF (by omega) (by omega)
  have hA : Rg q.A:=by unfold Rg at *; omega
  have rA:=nt hc hA (s:=5) (by omega)
  rw [List.append_assoc]
  exact .rd hc hA (.inl rfl) fun a σ=>.pl (ky rD.1 rD.2 rA.1) (.wr hc hd hf)
 split
 ·rename_i h
  have hf:=hF (by omega) (by omega)
  have hA : Rg q.A:=by unfold Rg at *; omega
  have hB : Rg q.B:=by unfold Rg at *; omega
  have rA:=nt hc hA (s:=5) (by omega)
  have rB:=nt hc hB (s:=6) (by omega)
  have ho:=xL (n:=q.N) (by omega)
  rw [List.append_assoc,List.append_assoc,List.append_assoc]
  refine .rd hc hA (.inl rfl) fun a σ=>.rd hc hB (.inr rfl) fun a σ=>.pl (.inl ⟨.inl ho,rD.1,rD.2,rA.1,rB.1,fun h=>by simp only at h; omega⟩) ?_
  split
  ·exact .pl (.inl ⟨.inr (.inr (.inl rfl)),rD.1,rD.2,rD.1,by simp,fun _=>by simp⟩) (.wr hc hd hf)
  ·exact .wr hc hd hf
 split
 ·rename_i h
  exact .inr (.inr (.inr (.inr (.inl ⟨off,rfl,by have:=hJ (.inl h); simpa using this⟩))))
 split
 ·rename_i h
  have hf:=hF (by omega) (by omega)
  have hA : Rg q.A:=by unfold Rg at *; omega
  have rA:=nt hc hA (s:=5) (by omega)
  have hj:=hJ (.inr h)
  unfold rdL
  split
  ·exact .inr (.inr (.inr (.inr (.inr ⟨_,rA.1,rfl,rfl,hf,.inr (.inr (.inr (.inr (.inl ⟨_,rfl,by simp only [List.length_nil]; rw [show (4 * (0 + 1) + (off - 4 * (((0 : Nat) : Int) + 1)) : Int) = off by omega]; exact hj⟩))))⟩))))
  ·unfold Rg at hA
   exact .pl (.inr (.inl ⟨rfl,rfl,by simp,by unfold Kp; simp,(q.A - c).toNat,by omega,by simp only; omega⟩)) (.inr (.inr (.inr (.inr (.inr ⟨_,rA.1,rfl,rfl,hf,.inr (.inr (.inr (.inr (.inl ⟨_,rfl,by simp only [List.length_singleton]; rw [show (4 * (0 + 1 + 1) + (off - 4 * (((1 : Nat) : Int) + 1)) : Int) = off by omega]; exact hj⟩))))⟩)))))
 split
 ·rename_i h
  have hf:=hF (by omega) (by omega)
  have hA : Rg q.A:=by unfold Rg at *; omega
  have rA:=nt hc hA (s:=5) (by omega)
  rw [List.append_assoc]
  exact .rd hc hA (.inl rfl) fun a σ=>.pl (ky (by omega) (by unfold Kp; omega) rA.1) (.inr (.inl ⟨q.N,rfl,by omega,by omega,.inr (.inr (.inl ⟨1,rfl,by omega,by omega,fun _=>rfl,.inr (.inr (.inr (.inl ⟨rfl,1,rfl,fun _=>hf⟩)))⟩))⟩))
 split
 ·rename_i h
  have hf:=hF (by omega) (by omega)
  rw [List.append_assoc,List.append_assoc]
  exact .inr (.inl ⟨q.N,rfl,by omega,by omega,.inr (.inr (.inl ⟨2,rfl,by omega,by omega,fun _=>rfl,.inr (.inr (.inr (.inl ⟨rfl,2,rfl,fun _=>.pl (ky rD.1 rD.2 (by omega)) (.wr hc hd hf)⟩)))⟩))⟩)
 split
 ·rename_i h
  have hf:=hF (by omega) (by omega)
  exact .inr (.inr (.inl ⟨3,rfl,by omega,by omega,fun h=>by omega,.inr (.inr (.inr (.inl ⟨rfl,3,rfl,fun _=>hf⟩)))⟩))
 split
 ·rename_i h
  have hf:=hF (by omega) (by omega)
  have hA : Rg q.A:=by unfold Rg at *; omega
  have rA:=nt hc hA (s:=5) (by omega)
  rw [List.append_assoc]
  exact .rd hc hA (.inl rfl) fun a σ=>.pl (ky (by omega) (by unfold Kp; omega) rA.1) (.inr (.inr (.inl ⟨4,rfl,by omega,by omega,fun h=>by omega,.inr (.inr (.inr (.inl ⟨rfl,4,rfl,fun _=>hf⟩)))⟩)))
 ·exact .inr (.inr (.inl ⟨5,rfl,by omega,by omega,fun h=>by omega,.inr (.inr (.inr (.inl ⟨rfl,5,rfl,fun h=>absurd rfl h⟩)))⟩))
end
end
noncomputable section
section
variable {eQ : List ah} {c : Int}
def Jp (eQ : List ah) (c : Int) (i : Nat) (x : Int) : Prop:=∃ t : Nat,t < eQ.length ∧ 4 * (pl eQ c t : Int) = 4 * (pl eQ c i : Int) + x
theorem Bo (hc : COk eQ) (h : 1 ≤ c ∧ c ≤ 8) {i : Nat} (hi : i < eQ.length) : chk (i + 1 < eQ.length) (Jp eQ c i) 0 .any (blk eQ c i):=by
 have hg:=List.getElem?_eq_getElem hi
 have hq:=hc.q _ (List.mem_of_getElem? hg)
 have hqa:=vf hg
 unfold blk
 rw [hqa]
 refine Ai hq h (fun h4 h10=>hc.nxt hg h10 h4) fun ho=>?_
 have hN : 0 ≤ (eQ[i]).N ∧ (eQ[i]).N < eQ.length:=by unfold QOk at hq; omega
 refine ⟨(eQ[i]).N.toNat,by omega,?_⟩
 unfold pY
 rw [hqa,if_pos ho]
 omega
theorem BQ (eQ : List ah) (c : Int) {i j : Nat} (h : i ≤ j) : pl eQ c i ≤ pl eQ c j:=by
 induction j with
 | zero =>
  obtain rfl : i = 0:=by omega
  exact Nat.le_refl _
 | succ j ih =>
  rcases Nat.lt_or_ge i (j + 1) with h1 | h1
  ·have:=ih (by omega)
   simp only [pl]
   omega
  ·obtain rfl : i = j + 1:=by omega
   exact Nat.le_refl _
theorem sR (eQ : List ah) (c : Int) (i : Nat) : pl eQ c (i + 1) = pl eQ c i + (blk eQ c i).length:=by
 simp only [pl,blk,(lD (qAt eQ i) c (pY eQ c i)).2.2]
theorem Aj (eQ : List ah) (c : Int) : ∀ (n i r : Nat),i < n → r < (blk eQ c i).length → (tk eQ c n)[pl eQ c i + r]? = (blk eQ c i)[r]?
 | 0,i,r,h,_=>by omega
 | n + 1,i,r,h,hr=>by
  simp only [tk]
  have hl:=tI eQ c n
  rcases Nat.lt_or_ge i n with h1 | h1
  ·have h2:=BQ eQ c (show i + 1 ≤ n by omega)
   have h3:=sR eQ c i
   rw [List.getElem?_append_left (by omega)]
   exact Aj eQ c n i r h1 hr
  ·obtain rfl : i = n:=by omega
   rw [List.getElem?_append_right (by omega),hl,Nat.add_sub_cancel_left]
def Run (eQ : List ah) (c : Int) (p : Nat) (σ : Kn) : Prop:=∃ (i : Nat) (pre s : List Instr),i < eQ.length ∧ blk eQ c i = pre ++ s ∧ s ≠ [] ∧ p = pl eQ c i + pre.length ∧ chk (i + 1 < eQ.length) (Jp eQ c i) (pre.length : Int) σ s
theorem Run.start (hc : COk eQ) (h : 1 ≤ c ∧ c ≤ 8) {t : Nat} (ht : t < eQ.length) : Run eQ c (pl eQ c t) .any:=by
 refine ⟨t,[],blk eQ c t,ht,rfl,fun he=>?_,rfl,Bo hc h ht⟩
 have:=(lD (qAt eQ t) c (pY eQ c t)).1
 unfold blk at he
 rw [he] at this
 simp at this
theorem Run.norm (hc : COk eQ) (h : 1 ≤ c ∧ c ≤ 8) {i : Nat} {pre s : List Instr} {σ : Kn} (hi : i < eQ.length) (hb : blk eQ c i = pre ++ s) (hk : chk (i + 1 < eQ.length) (Jp eQ c i) (pre.length : Int) σ s) : ∃ σ',Run eQ c (pl eQ c i + pre.length) σ' ∧ (σ' = σ ∨ σ' = .any):=by
 cases s with
 | nil =>
  have hF : i + 1 < eQ.length:=hk
  have:=sR eQ c i
  rw [hb,List.append_nil] at this
  rw [← this]
  exact ⟨.any,.start hc h hF,.inr rfl⟩
 | cons x s=>exact ⟨σ,⟨i,pre,x :: s,hi,hb,by simp,rfl,hk⟩,.inl rfl⟩
theorem Run.lt {p : Nat} {σ : Kn} (h : Run eQ c p σ) : p < (tk eQ c eQ.length).length:=by
 obtain ⟨i,pre,s,hi,hb,hs,rfl,_⟩:=h
 have h1:=BQ eQ c (show i + 1 ≤ eQ.length by omega)
 have h2:=sR eQ c i
 rw [hb,List.length_append] at h2
 have : 0 < s.length:=List.length_pos_iff.2 hs
 rw [tI]
 omega
end
def Dd (eQ : List ah) (c : Int) (B : Nat) (regs : List Int) : Prop:=∃ n,(Kn.c17 n).holds regs ∧ (n ≠ 5 → ∃ p,Run eQ c p .any ∧ regs[1]? = some (4 * ((B + p : Nat) : Int)))
def At (eQ : List ah) (c : Int) (B : Nat) (regs : List Int) (pc : Int) : Prop:=(∃ p σ,Run eQ c p σ ∧ pc = 4 * ((B + p : Nat) : Int) ∧ σ.holds regs) ∨ (pc = 0 ∧ Dd eQ c B regs)
theorem fk {l : List Int} {k : Nat} {x : Int} (h : l[k]? = some x) : nth l (k : Int) = some x:=Bk h
theorem Kn.any_or {σ' σ : Kn} {r : List Int} (h : σ' = σ ∨ σ' = .any) (hσ : σ.holds r) : σ'.holds r:=by
 rcases h with rfl | rfl
 ·exact hσ
 ·trivial
section
variable {regs mem : List Int} {pc : Int}
theorem qH {L : List Instr} {ws : List Int} (hw : wl L = some ws) (hok : MOK regs pc mem) {B p : Nat} {i : Instr} (hcode : ∀ (j : Nat) w,ws[j]? = some w → mem[B + j]? = some w) (hp : pc = 4 * ((B + p : Nat) : Int)) (hi : L[p]? = some i) :
  ((i.Op == 21) = true → dA ⟨regs,pc,mem⟩ = some (2,regs,pc,mem)) ∧ ((i.Op == 21) = false → ∀ r q m',bX (ai.mk regs pc mem) i = some (true,r,q,m') → dA ⟨regs,pc,mem⟩ = some (1,r,q,m')):=by
 obtain ⟨w,u,w1,w2,w3⟩:=Ac hw p i hi
 have hm:=hcode p w w1
 have hlt : B + p < mem.length:=by rcases Nat.lt_or_ge (B + p) mem.length with h | h; exact h; rw [List.getElem?_eq_none h] at hm; cases hm
 obtain ⟨e2,e4⟩:=vg hlt hok.m10
 rw [← hp] at e2 e4
 have hx : nth mem (w64 (Int.tdiv pc 4)) = some w:=by rw [e4]; exact fk hm
 have hwd:=hok.wm w (List.mem_of_getElem? hm)
 obtain ⟨u',u1,u2,u3,u4⟩:=jP hwd.1 hwd.2
 have hu : u' = u:=by rw [u3] at w2; have:=o9 w2; omega
 subst hu
 obtain ⟨x,b,d1,d2,_⟩:=wH u' u1
 rw [d2] at w3
 obtain ⟨rfl,rfl⟩:=Prod.mk.inj (o9 w3)
 unfold dA
 exact ⟨fun h21=>aa e2 (ac rfl (aa hx (aa u4 (aa d1 (ac rfl (al h21 rfl)))))),fun h21 r q m' hd=>aa e2 (ac rfl (aa hx (aa u4 (aa d1 (ac rfl (ac h21 (aa hd (ac rfl rfl))))))))⟩
structure Tn (F : Nat) (regs mem r m : List Int) : Prop where
 r32 : r.length = 32
 wr : ∀ x ∈ r,Wd x
 z0 : r[0]? = regs[0]?
 z2 : r[2]? = regs[2]?
 z3 : r[3]? = regs[3]?
 z4 : r[4]? = regs[4]?
 m : m = mem ∨ ∃ k b,k < 12 ∧ Wd b ∧ m = mem.set (F + k) b
variable {eQ : List ah} {c : Int} {ws : List Int}
theorem yD (hc : COk eQ) (h8 : 1 ≤ c ∧ c ≤ 8) (hw : wl (tk eQ c eQ.length) = some ws) (hok : MOK regs pc mem) {B F n : Nat} (hn : (tk eQ c eQ.length).length = n) (z0 : regs[0]? = some 0) (sp : regs[2]? = some (4 * (F : Int))) (hF : F + 12 ≤ mem.length) (hBn : B + n ≤ 9999)
  (hcode : ∀ (j : Nat) w,ws[j]? = some w → mem[B + j]? = some w) {p : Nat} {σ : Kn} (hR : Run eQ c p σ) (hp : pc = 4 * ((B + p : Nat) : Int)) (hσ : σ.holds regs) :
  ∃ r q m',dA ⟨regs,pc,mem⟩ = some (1,r,q,m') ∧ Tn F regs mem r m' ∧ At eQ c B r q:=by
 have hpn:=hR.lt
 rw [hn] at hpn
 have h32:=hok.r32
 have h10:=hok.m10
 obtain ⟨i,pre,s,hi,hb,hs,rfl,hk⟩:=hR
 obtain ⟨x,s,rfl⟩ : ∃ x t,s = x :: t:=by cases s with | nil=>exact absurd rfl hs | cons x t=>exact ⟨x,t,rfl⟩
 have hx : (tk eQ c eQ.length)[pl eQ c i + pre.length]? = some x:=by
  rw [Aj eQ c _ i pre.length hi (by rw [hb,List.length_append,List.length_cons]; omega),hb,List.getElem?_append_right (Nat.le_refl _),Nat.sub_self]; rfl
 have hb' : blk eQ c i = (pre ++ [x]) ++ s:=by rw [hb,List.append_assoc]; rfl
 have hl' : ((pre.length : Int) + 1) = ((pre ++ [x]).length : Int):=by rw [List.length_append,List.length_singleton]; omega
 have hpc0 : 0 ≤ pc:=by rw [hp]; omega
 have hpc1 : pc ≤ 40000:=by rw [hp]; omega
 have hz : nth regs 0 = some 0:=fk (k:=0) z0
 have hsp : nth regs 2 = some (4 * (F : Int)):=fk (k:=2) sp
 have fall : ∀ {r : List Int} {m' : List Int} {τ : Kn},bX (ai.mk regs pc mem) x = some (true,r,pc + 4,m') → (x.Op == 21) = false → Tn F regs mem r m' → τ.holds r → chk (i + 1 < eQ.length) (Jp eQ c i) ((pre.length : Int) + 1) τ s →
   ∃ r q m',dA ⟨regs,pc,mem⟩ = some (1,r,q,m') ∧ Tn F regs mem r m' ∧ At eQ c B r q:=by
  intro r m' τ hd h21 hT hτ hch
  rw [hl'] at hch
  obtain ⟨σ',q1,q2⟩:=Run.norm hc h8 hi hb' hch
  refine ⟨r,pc + 4,m',(qH hw hok hcode hp hx).2 h21 _ _ _ hd,hT,.inl ⟨_,σ',q1,?_,Kn.any_or q2 hτ⟩⟩
  rw [hp,List.length_append,List.length_singleton]; omega
 have goes : ∀ {v rd : Int},0 ≤ rd ∧ rd ≤ 31 → Kp rd → Wd v → Tn F regs mem (st regs rd v) mem:=by
  intro v rd h1 h2 hv
  unfold Kp at h2
  refine ⟨by rw [w8,h32],Ad hok.wr hv,?_,pZ h1.1 (by omega),pZ h1.1 (by omega),pZ h1.1 (by omega),.inl rfl⟩
  by_cases h0 : rd = 0
  ·unfold st; rw [if_pos h0]
  ·exact pZ h1.1 (by omega)
 rcases hk with ⟨hpl,hk⟩ | ⟨b,rfl,b0,b1,hk⟩ | ⟨k,rfl,k1,k5,kb,hk⟩ | ⟨rfl,k,rfl,hk⟩ | ⟨imm,rfl,t,ht,hk⟩ | ⟨rs,hrs,rfl,hsl,hF,hk⟩
 ·rcases hpl with ⟨ho,hrd,hrd2,hrs,hrt,him⟩ | ⟨ho,hrs,hrd,hrd2,k,hk12,him⟩ | ⟨ho,hrs,hrt,k,hk12,him⟩
  ·have h21 : (x.Op == 21) = false:=by simp; omega
   obtain ⟨op,rd,rs,rt,imm⟩:=x
   simp only at ho hrd hrd2 hrs hrt him h21
   have hd : ∃ v,Wd v ∧ bX (ai.mk regs pc mem) ⟨op,rd,rs,rt,imm⟩ = some (true,st regs rd v,pc + 4,mem):=by
    rcases ho with ho | rfl | rfl | rfl
    ·obtain ⟨k,rfl,hk⟩ : ∃ k : Nat,op = (k : Int) + 1 ∧ k < 11:=⟨(op - 1).toNat,by omega,by omega⟩
     exact Bm hk hok hpc0 hpc1 hrd hrs hrt
    ·obtain ⟨a,ha,_⟩:=dp h32 hok.wr hrs
     exact ⟨_,fZ _,oc hok hpc0 hpc1 hrd ha⟩
    ·exact yC hok hpc0 hpc1 hrd hrs (him rfl)
    ·exact Bl hok hpc0 hpc1 hrd hrs
   obtain ⟨v,hv,hd⟩:=hd
   exact fall (τ:=.any) hd h21 (goes hrd hrd2 hv) trivial hk
  ·obtain ⟨op,rd,rs,rt,imm⟩:=x
   simp only at ho hrs hrd hrd2 him
   subst ho hrs him
   have hj : F + k < mem.length:=by omega
   have ha : bC (w64 (4 * (F : Int) + 4 * (k : Int))) = 4 * ((F + k : Nat) : Int):=by rw [ax (by omega) (by omega)]; unfold bC; split <;> omega
   have hd:=w9 (rt:=rt) hok hpc0 hpc1 hrd hsp hj ha
   exact fall (τ:=.any) hd rfl (goes hrd hrd2 (hok.wm _ (List.getElem_mem hj))) trivial hk
  ·obtain ⟨op,rd,rs,rt,imm⟩:=x
   simp only at ho hrs hrt him
   subst ho hrs hrt him
   have hj : F + k < mem.length:=by omega
   have ha : bC (w64 (4 * (F : Int) + 4 * (k : Int))) = 4 * ((F + k : Nat) : Int):=by rw [ax (by omega) (by omega)]; unfold bC; split <;> omega
   obtain ⟨b,hb7,wb⟩:=dp h32 hok.wr (r:=7) (by omega)
   have hd:=Af (rd:=rd) hok hpc0 hpc1 hsp hb7 hj ha
   exact fall (τ:=.any) hd rfl ⟨h32,hok.wr,rfl,rfl,rfl,rfl,.inr ⟨k,b,hk12,wb,rfl⟩⟩ trivial hk
 ·have hd:=oc (rt:=0) (imm:=b) hok hpc0 hpc1 (rd:=11) (by omega) hz
  have hv : bC (w64 (0 + b)) = b:=by rw [ax (by omega) (by omega)]; unfold bC; split <;> omega
  rw [hv] at hd
  exact fall (τ:=.b11) hd rfl (goes (by omega) (by unfold Kp; omega) (by unfold Wd; omega)) ⟨b,wk (k:=11) (by omega) (by omega),b0,b1⟩ hk
 ·have hd:=oc (rt:=0) (imm:=k) hok hpc0 hpc1 (rd:=17) (by omega) hz
  have hv : bC (w64 (0 + k)) = k:=by rw [ax (by omega) (by omega)]; unfold bC; split <;> omega
  rw [hv] at hd
  refine fall (τ:=.c17 k) hd rfl (goes (by omega) (by unfold Kp; omega) (by unfold Wd; omega)) ⟨wk (k:=17) (by omega) (by omega),k1,k5,fun h2=>?_⟩ hk
  obtain rfl:=kb h2
  obtain ⟨b,hb1,hb2⟩:=hσ
  exact ⟨b,(pZ (rd:=17) (k:=11) (by omega) (by omega)).trans hb1,hb2⟩
 ·have hd:=Ag hok hpc0 hpc1 hz
  obtain ⟨s1,s2,s3,s4⟩:=hσ
  refine ⟨_,0,mem,(qH hw hok hcode hp hx).2 rfl _ _ _ hd,goes (by omega) (by unfold Kp; omega) (by unfold Wd; omega),.inr ⟨rfl,k,⟨(pZ (rd:=1) (k:=17) (by omega) (by omega)).trans s1,s2,s3,fun h2=>?_⟩,fun h5=>?_⟩⟩
  ·obtain ⟨b,hb1,hb2⟩:=s4 h2
   exact ⟨b,(pZ (rd:=1) (k:=11) (by omega) (by omega)).trans hb1,hb2⟩
  ·have hch:=hk h5
   rw [hl'] at hch
   obtain ⟨σ',q1,q2⟩:=Run.norm hc h8 hi hb' hch
   obtain rfl : σ' = .any:=by rcases q2 with h | h <;> exact h
   refine ⟨_,q1,(wk (k:=1) (by omega) (by omega)).trans ?_⟩
   congr 1
   rw [hp,List.length_append,List.length_singleton]; omega
 ·have hlt:=(Run.start hc h8 ht).lt
  rw [hn] at hlt
  have hq : bC (w64 (pc + imm)) = 4 * ((B + pl eQ c t : Nat) : Int):=by
   have : pc + imm = 4 * ((B + pl eQ c t : Nat) : Int):=by rw [hp]; omega
   rw [this,ax (by omega) (by omega)]; unfold bC; split <;> omega
  have hd:=xO hok hpc0 hpc1 hz hq
  exact ⟨_,_,_,(qH hw hok hcode hp hx).2 rfl _ _ _ hd,⟨h32,hok.wr,rfl,rfl,rfl,rfl,.inl rfl⟩,.inl ⟨_,.any,Run.start hc h8 ht,rfl,trivial⟩⟩
 ·have hlt:=(Run.start hc h8 hF).lt
  rw [hn] at hlt
  have hbl:=sR eQ c i
  rw [hb',List.length_append,List.length_append,List.length_singleton,hsl] at hbl
  have hq : bC (w64 (pc + 8)) = 4 * ((B + pl eQ c (i + 1) : Nat) : Int):=by
   have : pc + 8 = 4 * ((B + pl eQ c (i + 1) : Nat) : Int):=by rw [hp]; omega
   rw [this,ax (by omega) (by omega)]; unfold bC; split <;> omega
  obtain ⟨q,hq2,hd⟩:=Bn hok hpc0 hpc1 hrs hz hq
  rcases hq2 with rfl | rfl
  ·exact fall (τ:=.any) hd rfl ⟨h32,hok.wr,rfl,rfl,rfl,rfl,.inl rfl⟩ trivial hk
  ·exact ⟨_,_,_,(qH hw hok hcode hp hx).2 rfl _ _ _ hd,⟨h32,hok.wr,rfl,rfl,rfl,rfl,.inl rfl⟩,.inl ⟨_,.any,Run.start hc h8 hF,rfl,trivial⟩⟩
end
end
noncomputable section
structure Im where
 cs : List (List ah)
 c : Int
 r : Nat → Nat
 A : Nat
 T : Nat
 B : Nat → Nat
 W : List Int
structure iO (I : Im) : Prop where
 c8 : 1 ≤ I.c ∧ I.c ≤ 8
 T1 : 1 ≤ I.T
 T3 : I.T ≤ 3
 A9 : I.A ≤ 9000
 rt : ∀ (k : Nat) w,rtW[k]? = some w → I.W[k]? = some w
 Wl : I.W.length = I.A
 rm : ∀ b,b < 2 → 1 ≤ I.r b ∧ I.r b ≤ 4
 cd : ∀ i,i < I.T → ∃ eQ ws,I.cs[i]? = some eQ ∧ COk eQ ∧ wl (tk eQ I.c eQ.length) = some ws ∧ (∀ (k : Nat) w,ws[k]? = some w → I.W[I.B i + k]? = some w) ∧ I.B i + (tk eQ I.c eQ.length).length ≤ I.A
structure fM (I : Im) (mem : List Int) : Prop where
 len : mem.length = I.A + 28 + 28 * I.T
 wd : ∀ x ∈ mem,Wd x
 eQ : ∀ (k : Nat) w,I.W[k]? = some w → mem[k]? = some w
 idle : ∃ v : Nat,mem[I.A]? = some (v : Int) ∧ v ≤ I.T
 d1 : mem[I.A + 1]? = some (I.T : Int)
 d2 : mem[I.A + 2]? = some (4 * ((I.A + 28 : Nat) : Int))
 d3 : mem[I.A + 3]? = some (4 * ((I.A + 28 + 16 * I.T : Nat) : Int))
 bx : ∀ b,b < 2 → ∃ h l : Nat,mem[I.A + 4 + 8 * b]? = some (I.r b : Int) ∧ mem[I.A + 5 + 8 * b]? = some (h : Int) ∧ mem[I.A + 6 + 8 * b]? = some (l : Int) ∧ h < I.r b ∧ l ≤ I.r b
 b2 : mem[I.A + 20]? = some 0
section
variable {I : Im} {mem : List Int} {x : Nat} {b : Int}
theorem ik {l : List Int} {i k : Nat} {v : Int} (h : l[k]? = some v) (hne : i ≠ k) (b : Int) : (l.set i b)[k]? = some v:=by rw [List.getElem?_set_ne hne]; exact h
theorem xa {l : List Int} (h : ∀ x ∈ l,Wd x) {i : Nat} (hb : Wd b) : ∀ x ∈ l.set i b,Wd x:=fun x hx=>by
 rcases List.mem_or_eq_of_mem_set hx with h1 | h1
 ·exact h x h1
 ·exact h1 ▸ hb
theorem fM.set (hI : iO I) (h : fM I mem) (hb : Wd b) (hx : (I.A + 8 ≤ x ∧ x < I.A + 12) ∨ (I.A + 16 ≤ x ∧ x < I.A + 20) ∨ I.A + 28 ≤ x) : fM I (mem.set x b):=by
 obtain ⟨v,v1,v2⟩:=h.idle
 have hWl:=hI.Wl
 refine ⟨by rw [List.length_set]; exact h.len,xa h.wd hb,fun k w hk=>?_,⟨v,ik v1 (by omega) b,v2⟩,ik h.d1 (by omega) b,ik h.d2 (by omega) b,ik h.d3 (by omega) b,fun q hq=>?_,ik h.b2 (by omega) b⟩
 ·have hkl : k < I.W.length:=by rcases Nat.lt_or_ge k I.W.length with h | h; exact h; rw [List.getElem?_eq_none h] at hk; cases hk
  exact ik (h.eQ k w hk) (by omega) b
 ·obtain ⟨a,l,h1,h2,h3,h4⟩:=h.bx q hq
  exact ⟨a,l,ik h1 (by omega) b,ik h2 (by omega) b,ik h3 (by omega) b,h4⟩
theorem fM.idl (hI : iO I) (h : fM I mem) {v : Nat} (hv : v ≤ I.T) : fM I (mem.set I.A (v : Int)):=by
 have hWl:=hI.Wl
 have hl:=h.len
 have h3:=hI.T3
 refine ⟨by rw [List.length_set]; exact h.len,xa h.wd (by unfold Wd; omega),fun k w hk=>?_,⟨v,List.getElem?_set_self (by omega),hv⟩,ik h.d1 (by omega) _,ik h.d2 (by omega) _,ik h.d3 (by omega) _,fun q hq=>?_,ik h.b2 (by omega) _⟩
 ·have hkl : k < I.W.length:=by rcases Nat.lt_or_ge k I.W.length with h | h; exact h; rw [List.getElem?_eq_none h] at hk; cases hk
  exact ik (h.eQ k w hk) (by omega) _
 ·obtain ⟨a,l,h1,h2,h3,h4⟩:=h.bx q hq
  exact ⟨a,l,ik h1 (by omega) _,ik h2 (by omega) _,ik h3 (by omega) _,h4⟩
theorem fM.box (hI : iO I) (h : fM I mem) {q v t : Nat} (hq : q < 2) (ht : (t = 5 ∧ v < I.r q) ∨ (t = 6 ∧ v ≤ I.r q)) : fM I (mem.set (I.A + t + 8 * q) (v : Int)):=by
 obtain ⟨w,v1,v2⟩:=h.idle
 have hWl:=hI.Wl
 have hl:=h.len
 have hr:=hI.rm q hq
 refine ⟨by rw [List.length_set]; exact h.len,xa h.wd (by unfold Wd; omega),fun k w hk=>?_,⟨w,ik v1 (by omega) _,v2⟩,ik h.d1 (by omega) _,ik h.d2 (by omega) _,ik h.d3 (by omega) _,fun p hp=>?_,ik h.b2 (by omega) _⟩
 ·have hkl : k < I.W.length:=by rcases Nat.lt_or_ge k I.W.length with h | h; exact h; rw [List.getElem?_eq_none h] at hk; cases hk
  exact ik (h.eQ k w hk) (by omega) _
 ·obtain ⟨a,l,h1,h2,h3,h4,h5⟩:=h.bx p hp
  by_cases hpq : p = q
  ·subst hpq
   rcases ht with ⟨rfl,hv⟩ | ⟨rfl,hv⟩
   ·exact ⟨v,l,ik h1 (by omega) _,List.getElem?_set_self (by omega),ik h3 (by omega) _,hv,h5⟩
   ·exact ⟨a,v,ik h1 (by omega) _,ik h2 (by omega) _,List.getElem?_set_self (by omega),h4,hv⟩
  ·exact ⟨a,l,ik h1 (by omega) _,ik h2 (by omega) _,ik h3 (by omega) _,h4,h5⟩
end
structure RC (I : Im) (j : Nat) (regs : List Int) : Prop where
 r32 : regs.length = 32
 wr : ∀ x ∈ regs,Wd x
 z0 : regs[0]? = some 0
 x3 : regs[3]? = some (4 * (I.A : Int))
 x4 : regs[4]? = some (4 * ((I.A + 28 + 16 * j : Nat) : Int))
 jT : j ≤ I.T
def Sf (I : Im) (s : St) : Prop:=fM I s.2.2.2 ∧ ∃ j,RC I j s.2.1
def Ok (I : Im) : Nat → St → Prop
 | 0,s=>Sf I s
 | n + 1,s=>Sf I s ∧ match one s with
  | .inl t=>Ok I n t
  | .inr x=>x.2.2 = 2
section
variable {I : Im} {regs mem r m' : List Int} {pc q : Int} {o : List Int} {n N j : Nat}
theorem RC.mok (hI : iO I) (h : RC I j regs) (hS : fM I mem) (hp : Wd pc) : MOK regs pc mem:=⟨h.r32,by have:=hS.len; have:=hI.T3; have:=hI.A9; omega,h.wr,hS.wd,hp⟩
theorem CH (hM : MOK regs pc mem) (h : dA ⟨regs,pc,mem⟩ = some (1,r,q,m')) : one (o,regs,pc,mem) = .inl (o,r,q,m'):=by
 obtain ⟨k,r',p,m,s1,s2,_⟩:=sM hM
 rw [s1] at h
 injection h with h
 injection h with h1 h
 injection h with h2 h
 injection h with h3 h4
 subst h1 h2 h3 h4
 unfold one
 simp only
 rw [s2]
 simp only
 rw [if_neg (by omega),if_pos trivial]
theorem Ak (hM : MOK regs pc mem) (h : dA ⟨regs,pc,mem⟩ = some (2,regs,pc,mem)) : one (o,regs,pc,mem) = if regs[17]? = some 4 then .inl (o ++ [(regs[10]?).getD 0],regs,pc + 4,mem) else .inr (⟨regs,pc,mem⟩,o,2):=by
 obtain ⟨k,r',p,m,s1,s2,_⟩:=sM hM
 rw [s1] at h
 injection h with h
 injection h with h1 h
 injection h with h2 h
 injection h with h3 h4
 subst h1 h2 h3 h4
 unfold one
 simp only
 rw [s2]
 simp only
 by_cases h4 : r'[17]? = some 4
 ·rw [if_pos ⟨trivial,h4⟩,if_pos h4]
 ·rw [if_neg (fun h=>h4 h.2),if_neg (by omega),if_neg h4]
theorem Ok.go (hI : iO I) (hn : n ≤ N) (hS : fM I mem) (hR : RC I j regs) (hp : Wd pc) (h : dA ⟨regs,pc,mem⟩ = some (1,r,q,m')) (nx : ∀ n',n' < N → Ok I n' (o,r,q,m')) : Ok I n (o,regs,pc,mem):=by
 cases n with
 | zero=>exact ⟨hS,j,hR⟩
 | succ n =>
  refine ⟨⟨hS,j,hR⟩,?_⟩
  rw [CH (hR.mok hI hS hp) h]
  exact nx n (by omega)
def Al : List (Nat × Int) → Nat → Option Int
 | [],_=>none
 | (k,v) :: G,r=>bif Nat.beq k r then some v else Al G r
def RF (regs : List Int) (G : List (Nat × Int)) : Prop:=∀ k v,Al G k = some v → regs[k]? = some v
theorem RF.nil : RF regs []:=fun k v h=>by cases h
theorem RF.put {G : List (Nat × Int)} (h : RF regs G) {k : Nat} {v : Int} (hk : regs[k]? = some v) : RF regs ((k,v) :: G):=fun r w hr=>by
 unfold Al at hr
 cases hb : Nat.beq k r with
 | true =>
  rw [hb] at hr
  obtain rfl:=Nat.eq_of_beq_eq_true hb
  exact hk.trans hr
 | false =>
  rw [hb] at hr
  exact h r w hr
theorem iV {x : Int} (h : Wd x) : bC (w64 x) = x:=by
 unfold Wd at h
 rw [ax (by omega) (by omega)]; unfold bC; split <;> omega
variable {k : Nat} {i : Instr} {G : List (Nat × Int)}
theorem uF (hI : iO I) (hn : n ≤ N) (hS : fM I mem) (hR : RC I j regs) (hi : cU[k]? = some i) (h21 : (i.Op == 21) = false) (hd : MOK regs (4 * (k : Int)) mem → 0 ≤ 4 * (k : Int) → 4 * (k : Int) ≤ 40000 → nth regs 0 = some 0 → bX ⟨regs,4 * (k : Int),mem⟩ i = some (true,r,q,m')) (nx : ∀ n',n' < N → Ok I n' (o,r,q,m')) : Ok I n (o,regs,4 * (k : Int),mem):=by
 have hk : k < 92:=by
  rcases Nat.lt_or_ge k 92 with h | h
  ·exact h
  ·rw [List.getElem?_eq_none (by rw [show cU.length = 92 by kernel_rfl]; exact h)] at hi
   cases hi
 have hp : Wd (4 * (k : Int)):=by unfold Wd; omega
 have hM:=hR.mok hI hS hp
 obtain ⟨ws,w1,w2⟩:=nV
 have hrt : rtW = ws:=by unfold rtW; rw [w1]; rfl
 refine Ok.go hI hn hS hR hp ((qH (B:=0) (p:=k) w1 hM (fun j w hw=>?_) (by rw [Nat.zero_add]) hi).2 h21 _ _ _ (hd hM (by omega) (by omega) (fk (k:=0) hR.z0))) nx
 rw [Nat.zero_add]
 exact hS.eQ j w (hI.rt j w (hrt ▸ hw))
theorem xb (hI : iO I) (hn : n ≤ N) (hS : fM I mem) (hR : RC I j regs) {d : Nat} {v : Int} (hG : RF regs G) (hi : cU[k]? = some i) (h21 : (i.Op == 21) = false) (hd : 0 < d ∧ d < 32 ∧ d ≠ 3 ∧ d ≠ 4) (hv : Wd v) (hdo : MOK regs (4 * (k : Int)) mem → 0 ≤ 4 * (k : Int) → 4 * (k : Int) ≤ 40000 → nth regs 0 = some 0 → bX ⟨regs,4 * (k : Int),mem⟩ i = some (true,st regs (d : Int) v,4 * (k : Int) + 4,mem))
  (nx : ∀ r' n',n' < N → RC I j r' → RF r' ((d,v) :: G) → (∀ x,x ≠ d → r'[x]? = regs[x]?) → Ok I n' (o,r',4 * ((k + 1 : Nat) : Int),mem)) : Ok I n (o,regs,4 * (k : Int),mem):=by
 refine uF hI hn hS hR hi h21 hdo fun n' hn'=>?_
 have hne : ∀ x,x ≠ d → (st regs (d : Int) v)[x]? = regs[x]?:=fun x hx=>pZ (by omega) (by omega)
 have:=nx (st regs (d : Int) v) n' hn' ⟨by rw [w8]; exact hR.r32,Ad hR.wr hv,(hne 0 (by omega)).trans hR.z0,(hne 3 (by omega)).trans hR.x3,(hne 4 (by omega)).trans hR.x4,hR.jT⟩ (fun r w hr=>?_) hne
 ·rw [show 4 * ((k + 1 : Nat) : Int) = 4 * (k : Int) + 4 by omega] at this
  exact this
 ·unfold Al at hr
  cases hb : Nat.beq d r with
  | true =>
   rw [hb] at hr
   obtain rfl:=Nat.eq_of_beq_eq_true hb
   rw [← hr]
   exact wk (by omega) (by rw [hR.r32]; omega)
  | false =>
   rw [hb] at hr
   have : r ≠ d:=fun h=>by subst h; rw [Nat.beq_refl] at hb; cases hb
   exact (hne r this).trans (hG r w hr)
theorem fE (hI : iO I) (hn : n ≤ N) (hS : fM I mem) (hR : RC I j regs) {d s : Nat} {a im v : Int} (hG : RF regs G) (hi : cU[k]? = some ⟨12,(d : Int),(s : Int),0,im⟩) (hd : 0 < d ∧ d < 32 ∧ d ≠ 3 ∧ d ≠ 4) (ha : regs[s]? = some a) (hv : a + im = v) (hw : Wd v)
  (nx : ∀ r' n',n' < N → RC I j r' → RF r' ((d,v) :: G) → (∀ x,x ≠ d → r'[x]? = regs[x]?) → Ok I n' (o,r',4 * ((k + 1 : Nat) : Int),mem)) : Ok I n (o,regs,4 * (k : Int),mem):=by
 refine xb hI hn hS hR hG hi rfl hd hw (fun hM h0 h1 hz=>?_) nx
 have:=oc (rt:=0) (imm:=im) hM h0 h1 (rd:=(d : Int)) (by omega) (fk ha)
 rw [hv,iV hw] at this
 exact this
theorem mb (hI : iO I) (hn : n ≤ N) (hS : fM I mem) (hR : RC I j regs) {e : Nat} {d s t : Nat} {a b v : Int} (hG : RF regs G) (he : e < 11) (hi : cU[k]? = some ⟨(e : Int) + 1,(d : Int),(s : Int),(t : Int),0⟩) (hd : 0 < d ∧ d < 32 ∧ d ≠ 3 ∧ d ≠ 4) (ha : regs[s]? = some a) (hb : regs[t]? = some b) (hv : gy ((e : Int) + 1) a b = some v) (hw : Wd v)
  (nx : ∀ r' n',n' < N → RC I j r' → RF r' ((d,v) :: G) → (∀ x,x ≠ d → r'[x]? = regs[x]?) → Ok I n' (o,r',4 * ((k + 1 : Nat) : Int),mem)) : Ok I n (o,regs,4 * (k : Int),mem):=
 xb hI hn hS hR hG hi (by simp; omega) hd hw (fun hM h0 h1 hz=>Ae he hM h0 h1 (by omega) (fk ha) (fk hb) hv) nx
theorem mQ (hI : iO I) (hn : n ≤ N) (hS : fM I mem) (hR : RC I j regs) {d s x : Nat} {a im v : Int} (hG : RF regs G) (hi : cU[k]? = some ⟨14,(d : Int),(s : Int),0,im⟩) (hd : 0 < d ∧ d < 32 ∧ d ≠ 3 ∧ d ≠ 4) (ha : regs[s]? = some a) (hx : a + im = 4 * (x : Int)) (hm : mem[x]? = some v)
  (nx : ∀ r' n',n' < N → RC I j r' → RF r' ((d,v) :: G) → (∀ x,x ≠ d → r'[x]? = regs[x]?) → Ok I n' (o,r',4 * ((k + 1 : Nat) : Int),mem)) : Ok I n (o,regs,4 * (k : Int),mem):=by
 have hlt : x < mem.length:=by rcases Nat.lt_or_ge x mem.length with h | h; exact h; rw [List.getElem?_eq_none h] at hm; cases hm
 obtain rfl : mem[x] = v:=by rw [List.getElem?_eq_getElem hlt] at hm; exact o9 hm
 refine xb hI hn hS hR hG hi rfl hd (hS.wd _ (List.getElem_mem hlt)) (fun hM h0 h1 hz=>?_) nx
 exact w9 (rt:=0) hM h0 h1 (rd:=(d : Int)) (by omega) (fk ha) hlt (by rw [hx]; exact iV (by have:=hM.m10; unfold Wd; omega))
theorem qb (hI : iO I) (hn : n ≤ N) (hS : fM I mem) (hR : RC I j regs) {s t x : Nat} {a b im : Int} (hi : cU[k]? = some ⟨16,0,(s : Int),(t : Int),im⟩) (ha : regs[s]? = some a) (hb : regs[t]? = some b) (hx : a + im = 4 * (x : Int)) (hlt : x < mem.length)
  (nx : ∀ n',n' < N → Ok I n' (o,regs,4 * ((k + 1 : Nat) : Int),mem.set x b)) : Ok I n (o,regs,4 * (k : Int),mem):=by
 refine uF hI hn hS hR hi rfl (fun hM h0 h1 hz=>Af (rd:=0) hM h0 h1 (fk ha) (fk hb) hlt (by rw [hx]; exact iV (by have:=hM.m10; unfold Wd; omega))) fun n' hn'=>?_
 have:=nx n' hn'
 rw [show 4 * ((k + 1 : Nat) : Int) = 4 * (k : Int) + 4 by omega] at this
 exact this
theorem BS (hI : iO I) (hn : n ≤ N) (hS : fM I mem) (hR : RC I j regs) {op : Int} (ho : op = 17 ∨ op = 18) {s t k' : Nat} {a b im : Int} (hi : cU[k]? = some ⟨op,0,(s : Int),(t : Int),im⟩) (ha : regs[s]? = some a) (hb : regs[t]? = some b) (hk : 4 * (k : Int) + im = 4 * (k' : Int)) (hk' : k' < 92)
  (h1 : (a = b) = (op = 17) → ∀ n',n' < N → Ok I n' (o,regs,4 * (k' : Int),mem)) (h2 : ¬ ((a = b) = (op = 17)) → ∀ n',n' < N → Ok I n' (o,regs,4 * ((k + 1 : Nat) : Int),mem)) : Ok I n (o,regs,4 * (k : Int),mem):=by
 refine uF hI hn hS hR hi (by rcases ho with rfl | rfl <;> rfl) (fun hM h0 h1 hz=>CG (q:=4 * (k' : Int)) ho hM h0 h1 (fk ha) (fk hb) (by rw [hk]; exact iV (by unfold Wd; omega))) fun n' hn'=>?_
 by_cases hc : (a = b) = (op = 17)
 ·rw [if_pos hc]
  exact h1 hc n' hn'
 ·rw [if_neg hc]
  have:=h2 hc n' hn'
  rw [show 4 * ((k + 1 : Nat) : Int) = 4 * (k : Int) + 4 by omega] at this
  exact this
theorem pA (hI : iO I) (hn : n ≤ N) (hS : fM I mem) (hR : RC I j regs) {s t k' : Nat} {a b im : Int} (hi : cU[k]? = some ⟨17,0,(s : Int),(t : Int),im⟩) (ha : regs[s]? = some a) (hb : regs[t]? = some b) (hk : 4 * (k : Int) + im = 4 * (k' : Int)) (hk' : k' < 92)
  (h1 : a = b → ∀ n',n' < N → Ok I n' (o,regs,4 * (k' : Int),mem)) (h2 : a ≠ b → ∀ n',n' < N → Ok I n' (o,regs,4 * ((k + 1 : Nat) : Int),mem)) : Ok I n (o,regs,4 * (k : Int),mem):=
 BS hI hn hS hR (.inl rfl) hi ha hb hk hk' (fun h=>h1 (by simpa using h)) (fun h=>h2 (by simpa using h))
theorem CI (hI : iO I) (hn : n ≤ N) (hS : fM I mem) (hR : RC I j regs) {s t k' : Nat} {a b im : Int} (hi : cU[k]? = some ⟨18,0,(s : Int),(t : Int),im⟩) (ha : regs[s]? = some a) (hb : regs[t]? = some b) (hk : 4 * (k : Int) + im = 4 * (k' : Int)) (hk' : k' < 92)
  (h1 : a ≠ b → ∀ n',n' < N → Ok I n' (o,regs,4 * (k' : Int),mem)) (h2 : a = b → ∀ n',n' < N → Ok I n' (o,regs,4 * ((k + 1 : Nat) : Int),mem)) : Ok I n (o,regs,4 * (k : Int),mem):=
 BS hI hn hS hR (.inr rfl) hi ha hb hk hk' (fun h=>h1 (by simpa using h)) (fun h=>h2 (by simpa using h))
theorem Am (hI : iO I) (hn : n ≤ N) (hS : fM I mem) (hR : RC I j regs) {k' : Nat} {im : Int} (hi : cU[k]? = some ⟨20,0,0,0,im⟩) (hk : 4 * (k : Int) + im = 4 * (k' : Int)) (hk' : k' < 92) (nx : ∀ n',n' < N → Ok I n' (o,regs,4 * (k' : Int),mem)) : Ok I n (o,regs,4 * (k : Int),mem):=
 uF hI hn hS hR hi rfl (fun hM h0 h1 hz=>xO hM h0 h1 hz (by rw [hk]; exact iV (by unfold Wd; omega))) nx
theorem BT (hI : iO I) (hn : n ≤ N) (hS : fM I mem) (hR : RC I j regs) {s x : Nat} (hi : cU[k]? = some ⟨15,0,(s : Int),0,0⟩) (ha : regs[s]? = some (4 * (x : Int))) (hx : x ≤ 10000) (nx : ∀ n',n' < N → Ok I n' (o,regs,4 * (x : Int),mem)) : Ok I n (o,regs,4 * (k : Int),mem):=
 uF hI hn hS hR hi rfl (fun hM h0 h1 hz=>CF hM h0 h1 hz (fk ha) hx) nx
theorem xP (hI : iO I) (hn : n ≤ N) (hS : fM I mem) (hR : RC I j regs) (hi : cU[k]? = some ⟨21,0,0,0,0⟩) (nx : regs[17]? = some 4 → ∀ o' n',n' < N → Ok I n' (o',regs,4 * ((k + 1 : Nat) : Int),mem)) : Ok I n (o,regs,4 * (k : Int),mem):=by
 have hk : k < 92:=by
  rcases Nat.lt_or_ge k 92 with h | h
  ·exact h
  ·rw [List.getElem?_eq_none (by rw [show cU.length = 92 by kernel_rfl]; exact h)] at hi
   cases hi
 have hp : Wd (4 * (k : Int)):=by unfold Wd; omega
 have hM:=hR.mok hI hS hp
 obtain ⟨ws,w1,w2⟩:=nV
 have hrt : rtW = ws:=by unfold rtW; rw [w1]; rfl
 have hc:=Ak (o:=o) hM ((qH (B:=0) (p:=k) w1 hM (fun j w hw=>by rw [Nat.zero_add]; exact hS.eQ j w (hI.rt j w (hrt ▸ hw))) (by rw [Nat.zero_add]) hi).1 rfl)
 cases n with
 | zero=>exact ⟨hS,j,hR⟩
 | succ n =>
  refine ⟨⟨hS,j,hR⟩,?_⟩
  rw [hc]
  by_cases h4 : regs[17]? = some 4
  ·rw [if_pos h4]
   have:=nx h4 (o ++ [(regs[10]?).getD 0]) n (by omega)
   rw [show 4 * ((k + 1 : Nat) : Int) = 4 * (k : Int) + 4 by omega] at this
   exact this
  ·rw [if_neg h4]
end
end
noncomputable section
def slB (r : Nat) : Nat:=if r = 1 then 1 else if r = 2 then 2 else if r = 11 then 12 else 13
def Rdy (eQ : List ah) (c : Int) (B F : Nat) (pc : Int) (g : Nat → Option Int) : Prop:=g 2 = some (4 * (F : Int)) ∧
 ((∃ p,Run eQ c p .any ∧ pc = 4 * ((B + p : Nat) : Int)) ∨ (pc = 0 ∧ ∃ n,g 17 = some n ∧ 1 ≤ n ∧ n ≤ 5 ∧ (n ≤ 2 → ∃ b : Int,g 11 = some b ∧ 0 ≤ b ∧ b ≤ 1) ∧ (n ≠ 5 → ∃ p,Run eQ c p .any ∧ g 1 = some (4 * ((B + p : Nat) : Int)))))
theorem Rdy.congr {eQ : List ah} {c : Int} {B F : Nat} {pc : Int} {g g' : Nat → Option Int} (h : Rdy eQ c B F pc g) (h1 : g' 1 = g 1) (h2 : g' 2 = g 2) (h11 : g' 11 = g 11) (h17 : g' 17 = g 17) : Rdy eQ c B F pc g':=by
 unfold Rdy
 rw [h1,h2,h11,h17]
 exact h
def mc (I : Im) (i : Nat) (mem : List Int) : Prop:=∃ eQ pc,I.cs[i]? = some eQ ∧ mem[I.A + 28 + 16 * i]? = some pc ∧ Rdy eQ I.c (I.B i) (I.A + 28 + 16 * I.T + 12 * i) pc (fun r=>mem[I.A + 28 + 16 * i + slB r]?)
theorem mc.set {I : Im} {i x : Nat} {mem : List Int} {b : Int} (h : mc I i mem) (hx : x < I.A + 28 + 16 * i ∨ I.A + 28 + 16 * i + 16 ≤ x) : mc I i (mem.set x b):=by
 obtain ⟨eQ,pc,h1,h2,h3⟩:=h
 exact ⟨eQ,pc,h1,ik h2 (by omega) b,h3.congr (List.getElem?_set_ne (by show x ≠ I.A + 28 + 16 * i + 1; omega)) (List.getElem?_set_ne (by show x ≠ I.A + 28 + 16 * i + 2; omega)) (List.getElem?_set_ne (by show x ≠ I.A + 28 + 16 * i + 12; omega)) (List.getElem?_set_ne (by show x ≠ I.A + 28 + 16 * i + 13; omega))⟩
structure Tk (I : Im) (j : Nat) (regs : List Int) (pc : Int) (mem : List Int) : Prop where
 S : fM I mem
 R : RC I j regs
 jT : j < I.T
 at_ : ∃ eQ,I.cs[j]? = some eQ ∧ regs[2]? = some (4 * ((I.A + 28 + 16 * I.T + 12 * j : Nat) : Int)) ∧ At eQ I.c (I.B j) regs pc
 oth : ∀ i,i < I.T → i ≠ j → mc I i mem
 idl : ∃ v : Nat,mem[I.A]? = some (v : Int) ∧ v < I.T
def Inv (I : Im) (s : St) : Prop:=∃ j,Tk I j s.2.1 s.2.2.1 s.2.2.2
theorem Rdy.at_ {eQ : List ah} {c : Int} {B F : Nat} {pc : Int} {regs : List Int} (h : Rdy eQ c B F pc (fun r=>regs[r]?)) : regs[2]? = some (4 * (F : Int)) ∧ At eQ c B regs pc:=by
 refine ⟨h.1,?_⟩
 rcases h.2 with ⟨p,h1,h2⟩ | ⟨h1,n,a1,a2,a3,a4,a5⟩
 ·exact .inl ⟨p,.any,h1,h2,trivial⟩
 ·exact .inr ⟨h1,n,⟨a1,a2,a3,a4⟩,a5⟩
def svr : List Nat:=[1,2,8,9,18,19,20,21,22,23,10,11,17]
theorem Bp : ∀ q,q < 13 → ∃ r,r < 32 ∧ svr[q]? = some r ∧ cU[55 + q]? = some ⟨16,0,((4 : Nat) : Int),(r : Int),4 * ((1 + q : Nat) : Int)⟩
 | 0,_=>⟨1,by decide,rfl,rfl⟩
 | 1,_=>⟨2,by decide,rfl,rfl⟩
 | 2,_=>⟨8,by decide,rfl,rfl⟩
 | 3,_=>⟨9,by decide,rfl,rfl⟩
 | 4,_=>⟨18,by decide,rfl,rfl⟩
 | 5,_=>⟨19,by decide,rfl,rfl⟩
 | 6,_=>⟨20,by decide,rfl,rfl⟩
 | 7,_=>⟨21,by decide,rfl,rfl⟩
 | 8,_=>⟨22,by decide,rfl,rfl⟩
 | 9,_=>⟨23,by decide,rfl,rfl⟩
 | 10,_=>⟨10,by decide,rfl,rfl⟩
 | 11,_=>⟨11,by decide,rfl,rfl⟩
 | 12,_=>⟨17,by decide,rfl,rfl⟩
 | q + 13,h=>by omega
theorem Bq : ∀ q,q < 13 → ∃ r,(0 < r ∧ r < 32 ∧ r ≠ 3 ∧ r ≠ 4) ∧ svr[q]? = some r ∧ cU[75 + q]? = some ⟨14,(r : Int),((4 : Nat) : Int),0,4 * ((1 + q : Nat) : Int)⟩
 | 0,_=>⟨1,by decide,rfl,rfl⟩
 | 1,_=>⟨2,by decide,rfl,rfl⟩
 | 2,_=>⟨8,by decide,rfl,rfl⟩
 | 3,_=>⟨9,by decide,rfl,rfl⟩
 | 4,_=>⟨18,by decide,rfl,rfl⟩
 | 5,_=>⟨19,by decide,rfl,rfl⟩
 | 6,_=>⟨20,by decide,rfl,rfl⟩
 | 7,_=>⟨21,by decide,rfl,rfl⟩
 | 8,_=>⟨22,by decide,rfl,rfl⟩
 | 9,_=>⟨23,by decide,rfl,rfl⟩
 | 10,_=>⟨10,by decide,rfl,rfl⟩
 | 11,_=>⟨11,by decide,rfl,rfl⟩
 | 12,_=>⟨17,by decide,rfl,rfl⟩
 | q + 13,h=>by omega
theorem CJ : ∀ p,p < 13 → ∀ q,q < 13 → svr[p]? = svr[q]? → p = q:=by decide
section
variable {I : Im} {N : Nat}
theorem wn {regs : List Int} (h : regs.length = 32) {r : Nat} (hr : r < 32) : ∃ v,regs[r]? = some v:=⟨_,List.getElem?_eq_getElem (by omega)⟩
theorem xQ {regs : List Int} (h : ∀ x ∈ regs,Wd x) {r : Nat} {v : Int} (hr : regs[r]? = some v) : Wd v:=h v (List.mem_of_getElem? hr)
theorem tJ (hI : iO I) (IH : ∀ m,m < N → ∀ s,Inv I s → Ok I m s) {j : Nat} (hj : j < I.T) {mem o : List Int} (hS : fM I mem) (all : ∀ i,i < I.T → mc I i mem) (idl : ∃ v : Nat,mem[I.A]? = some (v : Int) ∧ v < I.T) :
  ∀ (m q n : Nat) (regs : List Int),q + m = 13 → n < N → RC I j regs → (∀ p r,p < q → svr[p]? = some r → regs[r]? = mem[I.A + 28 + 16 * j + 1 + p]?) → Ok I n (o,regs,4 * ((75 + q : Nat) : Int),mem)
 | 0,q,n,regs,hq,hn,hR,hL=>by
  obtain rfl : q = 13:=by omega
  obtain ⟨eQ,pc,h1,h2,h3⟩:=all j hj
  refine mQ hI (Nat.le_of_lt hn) hS hR RF.nil (d:=5) (s:=4) rfl (by decide) hR.x4 (x:=I.A + 28 + 16 * j) (by omega) h2 fun r1 n1 hn1 hR1 hG1 hne1=>?_
  have hr : Rdy eQ I.c (I.B j) (I.A + 28 + 16 * I.T + 12 * j) pc (fun r=>r1[r]?):=h3.congr ((hne1 1 (by decide)).trans (hL 0 1 (by decide) rfl)) ((hne1 2 (by decide)).trans (hL 1 2 (by decide) rfl)) ((hne1 11 (by decide)).trans (hL 11 11 (by decide) rfl)) ((hne1 17 (by decide)).trans (hL 12 17 (by decide) rfl))
  obtain ⟨x,hx,hx2⟩ : ∃ x : Nat,pc = 4 * (x : Int) ∧ x ≤ 10000:=by
   rcases hr.2 with ⟨p,hp1,hp2⟩ | ⟨hp,_⟩
   ·obtain ⟨eQ',ws,c1,c2,c3,c4,c5⟩:=hI.cd j hj
    rw [h1] at c1
    obtain rfl:=o9 c1
    have:=hp1.lt
    have:=hI.A9
    exact ⟨I.B j + p,hp2,by omega⟩
   ·exact ⟨0,hp,by omega⟩
  subst hx
  obtain ⟨g1,g2⟩:=hr.at_
  exact BT hI (Nat.le_of_lt hn1) hS hR1 (s:=5) rfl (hG1 5 _ rfl) hx2 fun n2 hn2=>IH n2 hn2 _ ⟨j,hS,hR1,hj,⟨eQ,h1,g1,g2⟩,fun i hi _=>all i hi,idl⟩
 | m + 1,q,n,regs,hq,hn,hR,hL=>by
  obtain ⟨r,hr1,hr2,hr3⟩:=Bq q (by omega)
  have hl:=hS.len
  obtain ⟨v,hv⟩ : ∃ v,mem[I.A + 28 + 16 * j + 1 + q]? = some v:=⟨_,List.getElem?_eq_getElem (by omega)⟩
  refine mQ hI (Nat.le_of_lt hn) hS hR RF.nil hr3 hr1 hR.x4 (x:=I.A + 28 + 16 * j + 1 + q) (by omega) hv fun r1 n1 hn1 hR1 hG1 hne1=>?_
  refine tJ hI IH hj hS all idl m (q + 1) n1 r1 (by omega) hn1 hR1 fun p s hp hs=>?_
  rcases Nat.lt_or_ge p q with h | h
  ·have hne : s ≠ r:=fun e=>by
    have:=CJ p (by omega) q (by omega) (by rw [hs,hr2,e])
    omega
   exact (hne1 s hne).trans (hL p s h hs)
  ·obtain rfl : p = q:=by omega
   rw [hr2] at hs
   obtain rfl:=o9 hs
   rw [hv]
   exact hG1 r v (by simp [Al,Nat.beq_refl])
theorem BU {n j j' k : Nat} {i : Instr} {regs mem o : List Int} (hI : iO I) (hn : n ≤ N) (hS : fM I mem) (hR : RC I j regs) (hi : cU[k]? = some i) (h21 : (i.Op == 21) = false) (hj : j' ≤ I.T)
  (hdo : MOK regs (4 * (k : Int)) mem → 0 ≤ 4 * (k : Int) → 4 * (k : Int) ≤ 40000 → nth regs 0 = some 0 → bX ⟨regs,4 * (k : Int),mem⟩ i = some (true,st regs ((4 : Nat) : Int) (4 * ((I.A + 28 + 16 * j' : Nat) : Int)),4 * (k : Int) + 4,mem))
  (nx : ∀ r' n',n' < N → RC I j' r' → Ok I n' (o,r',4 * ((k + 1 : Nat) : Int),mem)) : Ok I n (o,regs,4 * (k : Int),mem):=by
 refine uF hI hn hS hR hi h21 hdo fun n' hn'=>?_
 have hne : ∀ x,x ≠ 4 → (st regs ((4 : Nat) : Int) (4 * ((I.A + 28 + 16 * j' : Nat) : Int)))[x]? = regs[x]?:=fun x hx=>pZ (by omega) (by omega)
 have hA:=hI.A9
 have hT:=hI.T3
 have:=nx (st regs ((4 : Nat) : Int) (4 * ((I.A + 28 + 16 * j' : Nat) : Int))) n' hn' ⟨by rw [w8]; exact hR.r32,Ad hR.wr (by unfold Wd; omega),(hne 0 (by omega)).trans hR.z0,(hne 3 (by omega)).trans hR.x3,wk (by omega) (by rw [hR.r32]; omega),hj⟩
 rw [show 4 * ((k + 1 : Nat) : Int) = 4 * (k : Int) + 4 by omega] at this
 exact this
theorem An (hI : iO I) (IH : ∀ m,m < N → ∀ s,Inv I s → Ok I m s) {n j : Nat} (hj : j < I.T) {regs mem o : List Int} (hn : n < N) (hS : fM I mem) (hR : RC I j regs) (all : ∀ i,i < I.T → mc I i mem) : Ok I n (o,regs,4 * ((68 : Nat) : Int),mem):=by
 obtain ⟨v,v1,v2⟩:=hS.idle
 have hA:=hI.A9
 have hT:=hI.T3
 refine mQ hI (Nat.le_of_lt hn) hS hR RF.nil (d:=6) (s:=3) (im:=0) rfl (by decide) hR.x3 (x:=I.A) (by omega) v1 fun r1 n1 hn1 hR1 hG1 _=>?_
 refine mQ hI (Nat.le_of_lt hn1) hS hR1 hG1 (d:=7) (s:=3) (im:=4) (k:=69) rfl (by decide) hR1.x3 (x:=I.A + 1) (by omega) hS.d1 fun r2 n2 hn2 hR2 hG2 _=>?_
 refine pA hI (Nat.le_of_lt hn2) hS hR2 (s:=6) (t:=7) (im:=80) (k:=70) (k':=90) rfl (hG2 6 _ rfl) (hG2 7 _ rfl) (by decide) (by decide) (fun _ n3 hn3=>?_) fun hvT n3 hn3=>?_
 ·refine fE hI (Nat.le_of_lt hn3) hS hR2 RF.nil (d:=17) (s:=0) (im:=0) (k:=90) rfl (by decide) hR2.z0 (v:=0) rfl (by unfold Wd; omega) fun r4 n4 hn4 hR4 hG4 _=>?_
  refine xP hI (Nat.le_of_lt hn4) hS hR4 (k:=91) rfl fun h=>?_
  have:=hG4 17 _ rfl
  rw [this] at h
  cases h
 ·have idl : ∃ v : Nat,mem[I.A]? = some (v : Int) ∧ v < I.T:=⟨v,v1,by omega⟩
  refine BU hI (Nat.le_of_lt hn3) hS hR2 (k:=71) (j':=j + 1) (i:=⟨12,4,4,0,64⟩) rfl rfl (by omega) (fun hM h0 h1 hz=>?_) fun r4 n4 hn4 hR4=>?_
  ·have:=oc (rt:=0) (imm:=64) hM h0 h1 (rd:=4) (by omega) (fk hR2.x4)
   rw [show 4 * ((I.A + 28 + 16 * j : Nat) : Int) + 64 = 4 * ((I.A + 28 + 16 * (j + 1) : Nat) : Int) by omega,iV (by unfold Wd; omega)] at this
   exact this
  ·refine mQ hI (Nat.le_of_lt hn4) hS hR4 RF.nil (d:=5) (s:=3) (im:=12) (k:=72) rfl (by decide) hR4.x3 (x:=I.A + 3) (by omega) hS.d3 fun r5 n5 hn5 hR5 hG5 _=>?_
   refine CI hI (Nat.le_of_lt hn5) hS hR5 (s:=4) (t:=5) (im:=8) (k:=73) (k':=75) rfl hR5.x4 (hG5 5 _ rfl) (by decide) (by decide) (fun hne n6 hn6=>?_) fun he n6 hn6=>?_
   ·exact tJ hI IH (j:=j + 1) (by omega) hS all idl 13 0 n6 r5 rfl hn6 hR5 fun p r hp=>by omega
   ·refine BU hI (Nat.le_of_lt hn6) hS hR5 (k:=74) (j':=0) (i:=⟨14,4,3,0,8⟩) rfl rfl (by omega) (fun hM h0 h1 hz=>?_) fun r7 n7 hn7 hR7=>?_
    ·have hl:=hS.len
     have hlt : I.A + 2 < mem.length:=by omega
     have hm : mem[I.A + 2] = 4 * ((I.A + 28 : Nat) : Int):=by have:=hS.d2; rw [List.getElem?_eq_getElem hlt] at this; exact o9 this
     have:=w9 (rt:=0) (imm:=8) hM h0 h1 (rd:=4) (by omega) (fk hR5.x3) hlt (by rw [show 4 * (I.A : Int) + 8 = 4 * ((I.A + 2 : Nat) : Int) by omega]; exact iV (by unfold Wd; omega))
     rw [hm] at this
     exact this
    ·exact tJ hI IH (j:=0) (by omega) hS all idl 13 0 n7 r7 rfl hn7 hR7 fun p r hp=>by omega
theorem wo (hI : iO I) (IH : ∀ m,m < N → ∀ s,Inv I s → Ok I m s) {j : Nat} (hj : j < I.T) {regs o : List Int} (hR : RC I j regs) {eQ : List ah} {pc : Int} (hc : I.cs[j]? = some eQ) (hr : Rdy eQ I.c (I.B j) (I.A + 28 + 16 * I.T + 12 * j) pc (fun r=>regs[r]?)) :
  ∀ (m q n : Nat) (mem : List Int),q + m = 13 → n < N → fM I mem → (∀ i,i < I.T → i ≠ j → mc I i mem) → mem[I.A + 28 + 16 * j]? = some pc → (∀ p r,p < q → svr[p]? = some r → mem[I.A + 28 + 16 * j + 1 + p]? = regs[r]?) → Ok I n (o,regs,4 * ((55 + q : Nat) : Int),mem)
 | 0,q,n,mem,hq,hn,hS,oth,h0,hL=>by
  obtain rfl : q = 13:=by omega
  refine An hI IH hj hn hS hR fun i hi=>?_
  by_cases hij : i = j
  ·subst hij
   exact ⟨eQ,pc,hc,h0,hr.congr (hL 0 1 (by decide) rfl) (hL 1 2 (by decide) rfl) (hL 11 11 (by decide) rfl) (hL 12 17 (by decide) rfl)⟩
  ·exact oth i hi hij
 | m + 1,q,n,mem,hq,hn,hS,oth,h0,hL=>by
  obtain ⟨r,hr1,hr2,hr3⟩:=Bp q (by omega)
  have hl:=hS.len
  obtain ⟨b,hb⟩:=wn hR.r32 hr1
  refine qb hI (Nat.le_of_lt hn) hS hR hr3 hR.x4 hb (x:=I.A + 28 + 16 * j + 1 + q) (by omega) (by omega) fun n1 hn1=>?_
  refine wo hI IH hj hR hc hr m (q + 1) n1 _ (by omega) hn1 (hS.set hI (xQ hR.wr hb) (by omega)) (fun i hi hij=>(oth i hi hij).set (by omega)) (ik h0 (by omega) b) fun p s hp hs=>?_
  rcases Nat.lt_or_ge p q with h | h
  ·rw [List.getElem?_set_ne (by omega)]
   exact hL p s h hs
  ·obtain rfl : p = q:=by omega
   rw [hr2] at hs
   obtain rfl:=o9 hs
   rw [List.getElem?_set_self (by omega),hb]
theorem xR (hI : iO I) (IH : ∀ m,m < N → ∀ s,Inv I s → Ok I m s) {n j : Nat} (hj : j < I.T) {regs mem o : List Int} (hn : n < N) (hS : fM I mem) (hR : RC I j regs) (oth : ∀ i,i < I.T → i ≠ j → mc I i mem) {eQ : List ah} {pc : Int} (hc : I.cs[j]? = some eQ) (hr : Rdy eQ I.c (I.B j) (I.A + 28 + 16 * I.T + 12 * j) pc (fun r=>regs[r]?)) (h5 : regs[5]? = some pc) :
  Ok I n (o,regs,4 * ((54 : Nat) : Int),mem):=by
 have hl:=hS.len
 refine qb hI (Nat.le_of_lt hn) hS hR (s:=4) (t:=5) (im:=0) rfl hR.x4 h5 (x:=I.A + 28 + 16 * j) (by omega) (by omega) fun n1 hn1=>?_
 exact wo hI IH hj hR hc hr 13 0 n1 _ rfl hn1 (hS.set hI (xQ hR.wr h5) (by omega)) (fun i hi hij=>(oth i hi hij).set (by omega)) (List.getElem?_set_self (by omega)) fun p s hp=>by omega
theorem tK (hI : iO I) (IH : ∀ m,m < N → ∀ s,Inv I s → Ok I m s) {n j : Nat} (hj : j < I.T) {regs mem o : List Int} (hn : n < N) (hS : fM I mem) (hR : RC I j regs) (oth : ∀ i,i < I.T → i ≠ j → mc I i mem) (idl : ∃ v : Nat,mem[I.A]? = some (v : Int) ∧ v < I.T) {eQ : List ah} (hc : I.cs[j]? = some eQ) (hr : Rdy eQ I.c (I.B j) (I.A + 28 + 16 * I.T + 12 * j) 0 (fun r=>regs[r]?)) :
  Ok I n (o,regs,4 * ((50 : Nat) : Int),mem):=by
 obtain ⟨v,v1,v2⟩:=idl
 have hl:=hS.len
 have hT:=hI.T3
 refine fE hI (Nat.le_of_lt hn) hS hR RF.nil (d:=5) (s:=0) (im:=0) rfl (by decide) hR.z0 (v:=0) rfl (by unfold Wd; omega) fun r1 n1 hn1 hR1 hG1 e1=>?_
 refine mQ hI (Nat.le_of_lt hn1) hS hR1 hG1 (d:=6) (s:=3) (im:=0) (k:=51) rfl (by decide) hR1.x3 (x:=I.A) (by omega) v1 fun r2 n2 hn2 hR2 hG2 e2=>?_
 refine fE hI (Nat.le_of_lt hn2) hS hR2 hG2 (d:=6) (s:=6) (im:=1) (k:=52) rfl (by decide) (hG2 6 _ rfl) (v:=((v + 1 : Nat) : Int)) (by omega) (by unfold Wd; omega) fun r3 n3 hn3 hR3 hG3 e3=>?_
 refine qb hI (Nat.le_of_lt hn3) hS hR3 (s:=3) (t:=6) (im:=0) (k:=53) rfl hR3.x3 (hG3 6 _ rfl) (x:=I.A) (by omega) (by omega) fun n4 hn4=>?_
 have e : ∀ x,x ≠ 5 → x ≠ 6 → r3[x]? = regs[x]?:=fun x h5 h6=>(e3 x h6).trans ((e2 x h6).trans (e1 x h5))
 exact xR hI IH hj hn4 (hS.idl hI (by omega)) hR3 (fun i hi hij=>(oth i hi hij).set (by omega)) hc (hr.congr (e 1 (by decide) (by decide)) (e 2 (by decide) (by decide)) (e 11 (by decide) (by decide)) (e 17 (by decide) (by decide))) (hG3 5 _ rfl)
theorem tL (hI : iO I) (IH : ∀ m,m < N → ∀ s,Inv I s → Ok I m s) {n j k : Nat} (hj : j < I.T) {regs mem o : List Int} (hn : n < N) (hS : fM I mem) (hR : RC I j regs) (oth : ∀ i,i < I.T → i ≠ j → mc I i mem) {eQ : List ah} (hc : I.cs[j]? = some eQ)
  (hk : cU[k]? = some ⟨16,0,((3 : Nat) : Int),((0 : Nat) : Int),0⟩) (hk1 : cU[k + 1]? = some ⟨15,0,((1 : Nat) : Int),0,0⟩) {p : Nat} (hp : Run eQ I.c p .any) (h1 : regs[1]? = some (4 * ((I.B j + p : Nat) : Int))) (h2 : regs[2]? = some (4 * ((I.A + 28 + 16 * I.T + 12 * j : Nat) : Int))) : Ok I n (o,regs,4 * (k : Int),mem):=by
 have hl:=hS.len
 obtain ⟨eQ',ws,c1,c2,c3,c4,c5⟩:=hI.cd j hj
 rw [hc] at c1
 obtain rfl:=o9 c1
 have:=hp.lt
 have:=hI.A9
 have hS':=hS.idl hI (v:=0) (by omega)
 refine qb hI (Nat.le_of_lt hn) hS hR hk hR.x3 hR.z0 (x:=I.A) (by omega) (by omega) fun n1 hn1=>?_
 exact BT hI (Nat.le_of_lt hn1) hS' hR hk1 h1 (by omega) fun n2 hn2=>IH n2 hn2 _ ⟨j,hS',hR,hj,⟨eQ,hc,h2,.inl ⟨p,.any,hp,rfl,trivial⟩⟩,fun i hi hij=>(oth i hi hij).set (by omega),0,List.getElem?_set_self (by omega),by have:=hI.T1; omega⟩
theorem yE (hI : iO I) (IH : ∀ m,m < N → ∀ s,Inv I s → Ok I m s) {n j : Nat} (hj : j < I.T) {regs mem o : List Int} (hn : n < N) (hS : fM I mem) (hR : RC I j regs) (oth : ∀ i,i < I.T → i ≠ j → mc I i mem) {eQ : List ah} (hc : I.cs[j]? = some eQ)
  {p : Nat} (hp : Run eQ I.c p .any) (h1 : regs[1]? = some (4 * ((I.B j + p : Nat) : Int))) (h2 : regs[2]? = some (4 * ((I.A + 28 + 16 * I.T + 12 * j : Nat) : Int))) : Ok I n (o,regs,4 * ((47 : Nat) : Int),mem):=by
 have hl:=hS.len
 refine fE hI (Nat.le_of_lt hn) hS hR RF.nil (d:=5) (s:=1) (im:=0) rfl (by decide) h1 (v:=4 * ((I.B j + p : Nat) : Int)) (by omega) (xQ hR.wr h1) fun r1 n1 hn1 hR1 hG1 e1=>?_
 refine qb hI (Nat.le_of_lt hn1) hS hR1 (s:=3) (t:=0) (im:=0) (k:=48) rfl hR1.x3 hR1.z0 (x:=I.A) (by omega) (by omega) fun n2 hn2=>?_
 have hS':=hS.idl hI (v:=0) (by omega)
 refine Am hI (Nat.le_of_lt hn2) hS' hR1 (im:=20) (k:=49) (k':=54) rfl (by decide) (by decide) fun n3 hn3=>?_
 exact xR hI IH hj hn3 hS' hR1 (fun i hi hij=>(oth i hi hij).set (by omega)) hc ⟨(e1 2 (by decide)).trans h2,.inl ⟨p,hp,rfl⟩⟩ (hG1 5 _ rfl)
theorem yF (hI : iO I) (IH : ∀ m,m < N → ∀ s,Inv I s → Ok I m s) {n j : Nat} (hj : j < I.T) {regs mem o : List Int} (hn : n < N) (hS : fM I mem) (hR : RC I j regs) (oth : ∀ i,i < I.T → i ≠ j → mc I i mem) {eQ : List ah} (hc : I.cs[j]? = some eQ)
  {p : Nat} (hp : Run eQ I.c p .any) (h1 : regs[1]? = some (4 * ((I.B j + p : Nat) : Int))) (h2 : regs[2]? = some (4 * ((I.A + 28 + 16 * I.T + 12 * j : Nat) : Int))) : Ok I n (o,regs,4 * ((44 : Nat) : Int),mem):=
 xP hI (Nat.le_of_lt hn) hS hR rfl fun _ o' n1 hn1=>tL hI IH hj hn1 hS hR oth hc (k:=45) rfl rfl hp h1 h2
theorem Ao (hI : iO I) (IH : ∀ m,m < N → ∀ s,Inv I s → Ok I m s) {n j : Nat} (hj : j < I.T) {regs mem o : List Int} (hn : n < N) (hS : fM I mem) (hR : RC I j regs) (oth : ∀ i,i < I.T → i ≠ j → mc I i mem) (idl : ∃ v : Nat,mem[I.A]? = some (v : Int) ∧ v < I.T) {eQ : List ah} (hc : I.cs[j]? = some eQ)
  {p b : Nat} (hp : Run eQ I.c p .any) (h1 : regs[1]? = some (4 * ((I.B j + p : Nat) : Int))) (h2 : regs[2]? = some (4 * ((I.A + 28 + 16 * I.T + 12 * j : Nat) : Int))) (h17 : regs[17]? = some 1) (h11 : regs[11]? = some (b : Int)) (hb : b < 2) : Ok I n (o,regs,4 * ((9 : Nat) : Int),mem):=by
 have hl:=hS.len
 have hT:=hI.T3
 have hA:=hI.A9
 obtain ⟨h,l,b1,b2,b3,b4,b5⟩:=hS.bx b hb
 have hrm:=hI.rm b hb
 have hG : RF regs [(1,4 * ((I.B j + p : Nat) : Int)),(2,4 * ((I.A + 28 + 16 * I.T + 12 * j : Nat) : Int)),(17,1),(11,(b : Int))]:=((((RF.nil).put h11).put h17).put h2).put h1
 refine fE hI (Nat.le_of_lt hn) hS hR hG (d:=5) (s:=0) (im:=5) rfl (by decide) hR.z0 (v:=((5 : Nat) : Int)) rfl (by unfold Wd; omega) fun r1 n1 hn1 hR1 hG1 _=>?_
 refine mb hI (Nat.le_of_lt hn1) hS hR1 hG1 (e:=8) (d:=6) (s:=11) (t:=5) (k:=10) (by decide) rfl (by decide) (hG1 11 _ rfl) (hG1 5 _ rfl) (sQ (by omega) (.inr rfl)) (by unfold Wd; omega) fun r2 n2 hn2 hR2 hG2 _=>?_
 refine mb hI (Nat.le_of_lt hn2) hS hR2 hG2 (e:=0) (d:=6) (s:=6) (t:=3) (k:=11) (v:=4 * ((I.A + 8 * b : Nat) : Int)) (by decide) rfl (by decide) (hG2 6 _ rfl) hR2.x3 ((qa (by unfold Wd; omega) (by unfold Wd; omega)).trans (by rw [iV (by unfold Wd; omega)]; congr 1; omega)) (by unfold Wd; omega) fun r3 n3 hn3 hR3 hG3 _=>?_
 refine mQ hI (Nat.le_of_lt hn3) hS hR3 hG3 (d:=7) (s:=6) (im:=24) (k:=12) rfl (by decide) (hG3 6 _ rfl) (x:=I.A + 6 + 8 * b) (by omega) b3 fun r4 n4 hn4 hR4 hG4 _=>?_
 refine mQ hI (Nat.le_of_lt hn4) hS hR4 hG4 (d:=28) (s:=6) (im:=16) (k:=13) rfl (by decide) (hG4 6 _ rfl) (x:=I.A + 4 + 8 * b) (by omega) b1 fun r5 n5 hn5 hR5 hG5 _=>?_
 refine pA hI (Nat.le_of_lt hn5) hS hR5 (s:=7) (t:=28) (im:=144) (k:=14) (k':=50) rfl (hG5 7 _ rfl) (hG5 28 _ rfl) (by decide) (by decide) (fun _ n6 hn6=>?_) fun hne n6 hn6=>?_
 ·exact tK hI IH hj hn6 hS hR5 oth idl hc ⟨hG5 2 _ rfl,.inr ⟨rfl,1,hG5 17 _ rfl,by omega,by omega,fun _=>⟨b,hG5 11 _ rfl,by omega,by omega⟩,fun _=>⟨p,hp,hG5 1 _ rfl⟩⟩⟩
 refine mQ hI (Nat.le_of_lt hn6) hS hR5 hG5 (d:=29) (s:=6) (im:=20) (k:=15) rfl (by decide) (hG5 6 _ rfl) (x:=I.A + 5 + 8 * b) (by omega) b2 fun r7 n7 hn7 hR7 hG7 _=>?_
 refine mb hI (Nat.le_of_lt hn7) hS hR7 hG7 (e:=0) (d:=29) (s:=29) (t:=7) (k:=16) (v:=((h + l : Nat) : Int)) (by decide) rfl (by decide) (hG7 29 _ rfl) (hG7 7 _ rfl) ((qa (by unfold Wd; omega) (by unfold Wd; omega)).trans (by rw [iV (by unfold Wd; omega)]; congr 1)) (by unfold Wd; omega) fun r8 n8 hn8 hR8 hG8 _=>?_
 obtain ⟨s,hs,hs4⟩ : ∃ s : Nat,Int.tmod ((h + l : Nat) : Int) (I.r b : Int) = (s : Int) ∧ s < 4:=⟨(h + l) % I.r b,by rw [← Int.ofNat_tmod],by have:=Nat.mod_lt (h + l) (show I.r b > 0 by omega); omega⟩
 refine mb hI (Nat.le_of_lt hn8) hS hR8 hG8 (e:=4) (d:=29) (s:=29) (t:=28) (k:=17) (v:=(s : Int)) (by decide) rfl (by decide) (hG8 29 _ rfl) (hG8 28 _ rfl) ((xN (by unfold Wd; omega) (by unfold Wd; omega) (by omega)).trans (by rw [hs])) (by unfold Wd; omega) fun r9 n9 hn9 hR9 hG9 _=>?_
 refine fE hI (Nat.le_of_lt hn9) hS hR9 hG9 (d:=5) (s:=0) (im:=2) (k:=18) rfl (by decide) hR9.z0 (v:=((2 : Nat) : Int)) rfl (by unfold Wd; omega) fun ra na hna hRa hGa _=>?_
 refine mb hI (Nat.le_of_lt hna) hS hRa hGa (e:=8) (d:=29) (s:=29) (t:=5) (k:=19) (by decide) rfl (by decide) (hGa 29 _ rfl) (hGa 5 _ rfl) (sQ hs4 (.inl rfl)) (by unfold Wd; omega) fun rb nb hnb hRb hGb _=>?_
 refine mb hI (Nat.le_of_lt hnb) hS hRb hGb (e:=0) (d:=29) (s:=29) (t:=6) (k:=20) (v:=4 * ((I.A + 8 * b + s : Nat) : Int)) (by decide) rfl (by decide) (hGb 29 _ rfl) (hGb 6 _ rfl) ((qa (by unfold Wd; omega) (by unfold Wd; omega)).trans (by rw [iV (by unfold Wd; omega)]; congr 1; omega)) (by unfold Wd; omega) fun rc nc hnc hRc hGc _=>?_
 obtain ⟨w,hw⟩:=wn hRc.r32 (r:=10) (by decide)
 refine qb hI (Nat.le_of_lt hnc) hS hRc (s:=29) (t:=10) (im:=32) (k:=21) rfl (hGc 29 _ rfl) hw (x:=I.A + 8 + 8 * b + s) (by omega) (by omega) fun nd hnd=>?_
 have hS1:=hS.set hI (xQ hRc.wr hw) (x:=I.A + 8 + 8 * b + s) (by omega)
 refine fE hI (Nat.le_of_lt hnd) hS1 hRc hGc (d:=7) (s:=7) (im:=1) (k:=22) rfl (by decide) (hGc 7 _ rfl) (v:=((l + 1 : Nat) : Int)) (by omega) (by unfold Wd; omega) fun re ne hne' hRe hGe _=>?_
 refine qb hI (Nat.le_of_lt hne') hS1 hRe (s:=6) (t:=7) (im:=24) (k:=23) rfl (hGe 6 _ rfl) (hGe 7 _ rfl) (x:=I.A + 6 + 8 * b) (by omega) (by rw [List.length_set]; omega) fun nf hnf=>?_
 exact tL hI IH hj hnf (hS1.box hI hb (t:=6) (.inr ⟨rfl,by omega⟩)) hRe (fun i hi hij=>((oth i hi hij).set (by omega)).set (by omega)) hc (k:=24) rfl rfl hp (hGe 1 _ rfl) (hGe 2 _ rfl)
theorem Ap (hI : iO I) (IH : ∀ m,m < N → ∀ s,Inv I s → Ok I m s) {n j : Nat} (hj : j < I.T) {regs mem o : List Int} (hn : n < N) (hS : fM I mem) (hR : RC I j regs) (oth : ∀ i,i < I.T → i ≠ j → mc I i mem) (idl : ∃ v : Nat,mem[I.A]? = some (v : Int) ∧ v < I.T) {eQ : List ah} (hc : I.cs[j]? = some eQ)
  {p b : Nat} (hp : Run eQ I.c p .any) (h1 : regs[1]? = some (4 * ((I.B j + p : Nat) : Int))) (h2 : regs[2]? = some (4 * ((I.A + 28 + 16 * I.T + 12 * j : Nat) : Int))) (h17 : regs[17]? = some 2) (h11 : regs[11]? = some (b : Int)) (hb : b < 2) : Ok I n (o,regs,4 * ((26 : Nat) : Int),mem):=by
 have hl:=hS.len
 have hT:=hI.T3
 have hA:=hI.A9
 obtain ⟨h,l,b1,b2,b3,b4,b5⟩:=hS.bx b hb
 have hrm:=hI.rm b hb
 have hG : RF regs [(1,4 * ((I.B j + p : Nat) : Int)),(2,4 * ((I.A + 28 + 16 * I.T + 12 * j : Nat) : Int)),(17,2),(11,(b : Int))]:=((((RF.nil).put h11).put h17).put h2).put h1
 refine fE hI (Nat.le_of_lt hn) hS hR hG (d:=5) (s:=0) (im:=5) rfl (by decide) hR.z0 (v:=((5 : Nat) : Int)) rfl (by unfold Wd; omega) fun r1 n1 hn1 hR1 hG1 _=>?_
 refine mb hI (Nat.le_of_lt hn1) hS hR1 hG1 (e:=8) (d:=6) (s:=11) (t:=5) (k:=27) (by decide) rfl (by decide) (hG1 11 _ rfl) (hG1 5 _ rfl) (sQ (by omega) (.inr rfl)) (by unfold Wd; omega) fun r2 n2 hn2 hR2 hG2 _=>?_
 refine mb hI (Nat.le_of_lt hn2) hS hR2 hG2 (e:=0) (d:=6) (s:=6) (t:=3) (k:=28) (v:=4 * ((I.A + 8 * b : Nat) : Int)) (by decide) rfl (by decide) (hG2 6 _ rfl) hR2.x3 ((qa (by unfold Wd; omega) (by unfold Wd; omega)).trans (by rw [iV (by unfold Wd; omega)]; congr 1; omega)) (by unfold Wd; omega) fun r3 n3 hn3 hR3 hG3 _=>?_
 refine mQ hI (Nat.le_of_lt hn3) hS hR3 hG3 (d:=7) (s:=6) (im:=24) (k:=29) rfl (by decide) (hG3 6 _ rfl) (x:=I.A + 6 + 8 * b) (by omega) b3 fun r4 n4 hn4 hR4 hG4 _=>?_
 refine pA hI (Nat.le_of_lt hn4) hS hR4 (s:=7) (t:=0) (im:=80) (k:=30) (k':=50) rfl (hG4 7 _ rfl) hR4.z0 (by decide) (by decide) (fun _ n6 hn6=>?_) fun hne n6 hn6=>?_
 ·exact tK hI IH hj hn6 hS hR4 oth idl hc ⟨hG4 2 _ rfl,.inr ⟨rfl,2,hG4 17 _ rfl,by omega,by omega,fun _=>⟨b,hG4 11 _ rfl,by omega,by omega⟩,fun _=>⟨p,hp,hG4 1 _ rfl⟩⟩⟩
 refine mQ hI (Nat.le_of_lt hn6) hS hR4 hG4 (d:=28) (s:=6) (im:=16) (k:=31) rfl (by decide) (hG4 6 _ rfl) (x:=I.A + 4 + 8 * b) (by omega) b1 fun r5 n5 hn5 hR5 hG5 _=>?_
 refine mQ hI (Nat.le_of_lt hn5) hS hR5 hG5 (d:=29) (s:=6) (im:=20) (k:=32) rfl (by decide) (hG5 6 _ rfl) (x:=I.A + 5 + 8 * b) (by omega) b2 fun r7 n7 hn7 hR7 hG7 _=>?_
 refine fE hI (Nat.le_of_lt hn7) hS hR7 hG7 (d:=5) (s:=0) (im:=2) (k:=33) rfl (by decide) hR7.z0 (v:=((2 : Nat) : Int)) rfl (by unfold Wd; omega) fun r8 n8 hn8 hR8 hG8 _=>?_
 refine mb hI (Nat.le_of_lt hn8) hS hR8 hG8 (e:=8) (d:=30) (s:=29) (t:=5) (k:=34) (by decide) rfl (by decide) (hG8 29 _ rfl) (hG8 5 _ rfl) (sQ (x:=h) (by omega) (.inl rfl)) (by unfold Wd; omega) fun r9 n9 hn9 hR9 hG9 _=>?_
 refine mb hI (Nat.le_of_lt hn9) hS hR9 hG9 (e:=0) (d:=30) (s:=30) (t:=6) (k:=35) (v:=4 * ((I.A + 8 * b + h : Nat) : Int)) (by decide) rfl (by decide) (hG9 30 _ rfl) (hG9 6 _ rfl) ((qa (by unfold Wd; omega) (by unfold Wd; omega)).trans (by rw [iV (by unfold Wd; omega)]; congr 1; omega)) (by unfold Wd; omega) fun ra na hna hRa hGa _=>?_
 obtain ⟨w,hw⟩ : ∃ w,mem[I.A + 8 + 8 * b + h]? = some w:=⟨_,List.getElem?_eq_getElem (by omega)⟩
 refine mQ hI (Nat.le_of_lt hna) hS hRa hGa (d:=10) (s:=30) (im:=32) (k:=36) rfl (by decide) (hGa 30 _ rfl) (x:=I.A + 8 + 8 * b + h) (by omega) hw fun rb nb hnb hRb hGb _=>?_
 refine fE hI (Nat.le_of_lt hnb) hS hRb hGb (d:=29) (s:=29) (im:=1) (k:=37) rfl (by decide) (hGb 29 _ rfl) (v:=((h + 1 : Nat) : Int)) (by omega) (by unfold Wd; omega) fun rc nc hnc hRc hGc _=>?_
 obtain ⟨s,hs,hs4⟩ : ∃ s : Nat,Int.tmod ((h + 1 : Nat) : Int) (I.r b : Int) = (s : Int) ∧ s < I.r b:=⟨(h + 1) % I.r b,by rw [← Int.ofNat_tmod],Nat.mod_lt (h + 1) (by omega)⟩
 refine mb hI (Nat.le_of_lt hnc) hS hRc hGc (e:=4) (d:=29) (s:=29) (t:=28) (k:=38) (v:=(s : Int)) (by decide) rfl (by decide) (hGc 29 _ rfl) (hGc 28 _ rfl) ((xN (by unfold Wd; omega) (by unfold Wd; omega) (by omega)).trans (by rw [hs])) (by unfold Wd; omega) fun rd nd hnd hRd hGd _=>?_
 refine qb hI (Nat.le_of_lt hnd) hS hRd (s:=6) (t:=29) (im:=20) (k:=39) rfl (hGd 6 _ rfl) (hGd 29 _ rfl) (x:=I.A + 5 + 8 * b) (by omega) (by omega) fun ne hne'=>?_
 have hS1:=hS.box hI hb (t:=5) (v:=s) (.inl ⟨rfl,hs4⟩)
 refine fE hI (Nat.le_of_lt hne') hS1 hRd hGd (d:=7) (s:=7) (im:=-1) (k:=40) rfl (by decide) (hGd 7 _ rfl) (v:=((l - 1 : Nat) : Int)) (by omega) (by unfold Wd; omega) fun rf nf hnf hRf hGf _=>?_
 refine qb hI (Nat.le_of_lt hnf) hS1 hRf (s:=6) (t:=7) (im:=24) (k:=41) rfl (hGf 6 _ rfl) (hGf 7 _ rfl) (x:=I.A + 6 + 8 * b) (by omega) (by rw [List.length_set]; omega) fun ng hng=>?_
 exact tL hI IH hj hng (hS1.box hI hb (t:=6) (.inr ⟨rfl,by omega⟩)) hRf (fun i hi hij=>((oth i hi hij).set (by omega)).set (by omega)) hc (k:=42) rfl rfl hp (hGf 1 _ rfl) (hGf 2 _ rfl)
theorem Aq (hI : iO I) (IH : ∀ m,m < N → ∀ s,Inv I s → Ok I m s) {n j : Nat} (hj : j < I.T) {regs mem o : List Int} (hn : n ≤ N) (hS : fM I mem) (hR : RC I j regs) (oth : ∀ i,i < I.T → i ≠ j → mc I i mem) (idl : ∃ v : Nat,mem[I.A]? = some (v : Int) ∧ v < I.T) {eQ : List ah} (hc : I.cs[j]? = some eQ)
  (h2 : regs[2]? = some (4 * ((I.A + 28 + 16 * I.T + 12 * j : Nat) : Int))) (hC : Dd eQ I.c (I.B j) regs) : Ok I n (o,regs,4 * ((0 : Nat) : Int),mem):=by
 obtain ⟨m,⟨m1,m2,m3,m4⟩,m5⟩:=hC
 have hr : Rdy eQ I.c (I.B j) (I.A + 28 + 16 * I.T + 12 * j) 0 (fun r=>regs[r]?):=⟨h2,.inr ⟨rfl,m,m1,m2,m3,m4,m5⟩⟩
 have nb : ∀ b : Int,0 ≤ b → b ≤ 1 → ∃ b' : Nat,b = (b' : Int) ∧ b' < 2:=fun b h h'=>⟨b.toNat,by omega,by omega⟩
 refine fE hI hn hS hR (RF.nil.put m1) (d:=5) (s:=0) (im:=1) rfl (by decide) hR.z0 (v:=1) rfl (by unfold Wd; omega) fun r1 n1 hn1 hR1 hG1 e1=>?_
 refine pA hI (Nat.le_of_lt hn1) hS hR1 (s:=17) (t:=5) (im:=32) (k:=1) (k':=9) rfl (hG1 17 _ rfl) (hG1 5 _ rfl) (by decide) (by decide) (fun he n2 hn2=>?_) fun he1 n2 hn2=>?_
 ·subst he
  obtain ⟨b,hb1,hb2,hb3⟩:=m4 (by omega)
  obtain ⟨b,rfl,hb4⟩:=nb b hb2 hb3
  obtain ⟨p,hp,hp1⟩:=m5 (by omega)
  exact Ao hI IH hj hn2 hS hR1 oth idl hc hp ((e1 1 (by decide)).trans hp1) ((e1 2 (by decide)).trans h2) ((e1 17 (by decide)).trans m1) ((e1 11 (by decide)).trans hb1) hb4
 refine fE hI (Nat.le_of_lt hn2) hS hR1 hG1 (d:=5) (s:=0) (im:=2) (k:=2) rfl (by decide) hR1.z0 (v:=2) rfl (by unfold Wd; omega) fun r2 n3 hn3 hR2 hG2 e2=>?_
 have e2 : ∀ x,x ≠ 5 → r2[x]? = regs[x]?:=fun x hx=>(e2 x hx).trans (e1 x hx)
 refine pA hI (Nat.le_of_lt hn3) hS hR2 (s:=17) (t:=5) (im:=92) (k:=3) (k':=26) rfl (hG2 17 _ rfl) (hG2 5 _ rfl) (by decide) (by decide) (fun he n4 hn4=>?_) fun he2 n4 hn4=>?_
 ·subst he
  obtain ⟨b,hb1,hb2,hb3⟩:=m4 (by omega)
  obtain ⟨b,rfl,hb4⟩:=nb b hb2 hb3
  obtain ⟨p,hp,hp1⟩:=m5 (by omega)
  exact Ap hI IH hj hn4 hS hR2 oth idl hc hp ((e2 1 (by decide)).trans hp1) ((e2 2 (by decide)).trans h2) ((e2 17 (by decide)).trans m1) ((e2 11 (by decide)).trans hb1) hb4
 refine fE hI (Nat.le_of_lt hn4) hS hR2 hG2 (d:=5) (s:=0) (im:=3) (k:=4) rfl (by decide) hR2.z0 (v:=3) rfl (by unfold Wd; omega) fun r3 n5 hn5 hR3 hG3 e3=>?_
 have e3 : ∀ x,x ≠ 5 → r3[x]? = regs[x]?:=fun x hx=>(e3 x hx).trans (e2 x hx)
 refine pA hI (Nat.le_of_lt hn5) hS hR3 (s:=17) (t:=5) (im:=168) (k:=5) (k':=47) rfl (hG3 17 _ rfl) (hG3 5 _ rfl) (by decide) (by decide) (fun he n6 hn6=>?_) fun he3 n6 hn6=>?_
 ·obtain ⟨p,hp,hp1⟩:=m5 (by omega)
  exact yE hI IH hj hn6 hS hR3 oth hc hp ((e3 1 (by decide)).trans hp1) ((e3 2 (by decide)).trans h2)
 refine fE hI (Nat.le_of_lt hn6) hS hR3 hG3 (d:=5) (s:=0) (im:=4) (k:=6) rfl (by decide) hR3.z0 (v:=4) rfl (by unfold Wd; omega) fun r4 n7 hn7 hR4 hG4 e4=>?_
 have e4 : ∀ x,x ≠ 5 → r4[x]? = regs[x]?:=fun x hx=>(e4 x hx).trans (e3 x hx)
 refine pA hI (Nat.le_of_lt hn7) hS hR4 (s:=17) (t:=5) (im:=148) (k:=7) (k':=44) rfl (hG4 17 _ rfl) (hG4 5 _ rfl) (by decide) (by decide) (fun he n8 hn8=>?_) fun he4 n8 hn8=>?_
 ·obtain ⟨p,hp,hp1⟩:=m5 (by omega)
  exact yF hI IH hj hn8 hS hR4 oth hc hp ((e4 1 (by decide)).trans hp1) ((e4 2 (by decide)).trans h2)
 refine Am hI (Nat.le_of_lt hn8) hS hR4 (im:=168) (k:=8) (k':=50) rfl (by decide) (by decide) fun n9 hn9=>?_
 exact tK hI IH hj hn9 hS hR4 oth idl hc (hr.congr (e4 1 (by decide)) (e4 2 (by decide)) (e4 11 (by decide)) (e4 17 (by decide)))
theorem CK (hI : iO I) : ∀ (N : Nat) (s : St),Inv I s → Ok I N s:=by
 intro N
 induction N using Nat.strongRecOn with
 | ind N IH =>
  intro s hs
  obtain ⟨o,regs,pc,mem⟩:=s
  obtain ⟨j,hS,hR,hj,⟨eQ,hc,h2,hA⟩,oth,idl⟩:=hs
  simp only at hS hR h2 hA oth idl
  rcases hA with ⟨p,σ,hRun,hpc,hσ⟩ | ⟨hpc,hC⟩
  ·obtain ⟨eQ',ws,c1,c2,c3,c4,c5⟩:=hI.cd j hj
   rw [hc] at c1
   obtain rfl:=o9 c1
   have hlt:=hRun.lt
   have hA9:=hI.A9
   have hT3:=hI.T3
   have hl:=hS.len
   have hp : Wd pc:=by rw [hpc]; unfold Wd; omega
   have hM:=hR.mok hI hS hp
   obtain ⟨r,q,m',t1,t2,t3⟩:=yD c2 hI.c8 c3 hM rfl hR.z0 h2 (by omega) (by omega) (fun k w hk=>hS.eQ _ w (c4 k w hk)) hRun hpc hσ
   have hR' : RC I j r:=⟨t2.r32,t2.wr,t2.z0.trans hR.z0,t2.z3.trans hR.x3,t2.z4.trans hR.x4,hR.jT⟩
   refine Ok.go hI (Nat.le_refl N) hS hR hp t1 fun n' hn'=>IH n' hn' _ ⟨j,?_⟩
   rcases t2.m with rfl | ⟨k,b,hk,hb,rfl⟩
   ·exact ⟨hS,hR',hj,⟨eQ,hc,t2.z2.trans h2,t3⟩,oth,idl⟩
   ·obtain ⟨v,v1,v2⟩:=idl
    exact ⟨hS.set hI hb (by omega),hR',hj,⟨eQ,hc,t2.z2.trans h2,t3⟩,fun i hi hij=>(oth i hi hij).set (by omega),v,ik v1 (by omega) b,v2⟩
  ·have:=Aq (o:=o) hI IH hj (Nat.le_refl N) hS hR oth idl hc h2 hC
   rw [hpc]
   exact this
end
end

end Go.Proofs.YtgcmopfhafoabaaGreatDoor.N
