/- Plain laws: SqueezeCode keeps a eQ valid; a eQ is optimized. Plain laws: expressions and statements are drawn, they are valid, they compile to valid codes.  -/
import Derived.Test.YtgcmopfhafoabaaGreatDoorK3
set_option linter.unusedVariables false
set_option linter.unusedSimpArgs false
set_option maxRecDepth 100000
set_option maxHeartbeats 4000000
namespace Go.Proofs.YtgcmopfhafoabaaGreatDoor.N
open Go.Proofs.YtgcmopfhafoabaaGreatDoor.X
noncomputable section
theorem Ad {l:List Bool} {i:Nat}:(l[i]?).getD false=true↔l[i]?=some true:=by
 cases h:l[i]? with
 | none=>simp
 | some b=>simp
theorem oH {α:Type} {l:List α} {i:Nat} {a:α} (h:l[i]?=some a):i<l.length:=by
 rcases Nat.lt_or_ge i l.length with h' | h'
 ·exact h'
 ·rw [List.getElem?_eq_none h'] at h; cases h
def nv (eQ:List ah) (seen:List Bool) (m:Int):Prop:=∀ (i:Nat) q,(i:Int)<m->eQ[i]?=some q->seen[i]?=some true->∀ x∈nx q i,seen[x.toNat]?=some true
theorem DM {l:List Bool} {i:Nat} (h:l[i]?=some false):bm (l.set i true)<bm l:=by
 have:bm (l.set i true)+1=bm l+0:=pe (λb=>if b then 0 else 1) true h
 omega
theorem yN {eQ : List ah} (hc : COk eQ) {seen : List Bool} (hs : seen.length = eQ.length) : Tot (iY eQ seen) fun r => r.2.length = eQ.length ∧ (∀ (k : Nat), seen[k]? = some true → r.2[k]? = some true) ∧ (r.1 = true → bm r.2 < bm seen) ∧ (r.1 = false → r.2 = seen ∧ nv eQ seen eQ.length) := by
  have hmx := hc.max
  unfold iY
  refine .bind (.iter (fun s => 0 ≤ s.2.1 ∧ s.2.1 ≤ (eQ.length : Int) ∧ s.2.2.length = eQ.length ∧ (∀ (k : Nat), seen[k]? = some true → s.2.2[k]? = some true) ∧ bm s.2.2 ≤ bm seen ∧ (s.1 = true → bm s.2.2 < bm seen) ∧ (s.1 = false → s.2.2 = seen ∧ nv eQ seen s.2.1)) (fun s => ((eQ.length : Int) - s.2.1).toNat) ⟨by simp, by simp, hs, by simp, by simp, by simp, fun _ => ⟨rfl, fun i q h => by simp only at h; omega⟩⟩ fun s hs => ?_)
    fun r (hr : r.2.length = eQ.length ∧ (∀ (k : Nat), seen[k]? = some true → r.2[k]? = some true) ∧ (r.1 = true → bm r.2 < bm seen) ∧ (r.1 = false → r.2 = seen ∧ nv eQ seen eQ.length)) => .pure hr
  obtain ⟨ot, i, a⟩ := s
  obtain ⟨g0, g1, g2, g3, g4, g5, g6⟩ := hs
  simp only at g0 g1 g2 g3 g4 g5 g6
  unfold kU
  refine .sel (fun hlt => ?_) fun hge => .inr (show a.length = eQ.length ∧ (∀ (k : Nat), seen[k]? = some true → a[k]? = some true) ∧ (ot = true → bm a < bm seen) ∧ (ot = false → a = seen ∧ nv eQ seen eQ.length) from ?_)
  rotate_left
  · simp only [decide_eq_false_iff_not] at hge
    exact ⟨g2, g3, g5, fun h => by have := g6 h; rw [show i = (eQ.length : Int) by omega] at this; exact this⟩
  simp only [decide_eq_true_eq] at hlt
  refine .bind (P := fun z => z.2.length = eQ.length ∧ (∀ (k : Nat), seen[k]? = some true → z.2[k]? = some true) ∧ bm z.2 ≤ bm seen ∧ (z.1 = true → bm z.2 < bm seen) ∧ (z.1 = false → z.2 = seen ∧ nv eQ seen (i + 1))) ?_ fun z hz => .inl ?_
  · refine .bind (.nth g0 (by rw [g2]; exact hlt)) fun b ⟨hb, _⟩ => .sel (fun hbf => .pure ⟨g2, g3, g4, g5, fun h => ⟨(g6 h).1, fun j q hj hq hsj => ?_⟩⟩) fun hbt => ?_
    · by_cases e : (j : Int) = i
      · obtain rfl : j = i.toNat := by omega
        rw [← (g6 h).1, hb] at hsj
        injection hsj with hsj
        subst hsj
        simp at hbf
      · exact (g6 h).2 j q (by omega) hq hsj
    have hbt' : b = true := by simpa using hbt
    subst hbt'
    obtain ⟨q, hq⟩ : ∃ q, eQ[i.toNat]? = some q := ⟨_, List.getElem?_eq_getElem (by omega)⟩
    have hnx := C8 hc hq
    rw [show ((i.toNat : Nat) : Int) = i by omega] at hnx
    rw [xe g0 hq (by omega), ob9]
    have hlen : (nx q i).length ≤ 2 := by unfold nx; repeat' split
                                          all_goals simp
    refine .bind (.iter (fun s => 0 ≤ s.2.1 ∧ s.2.1 ≤ ((nx q i).length : Int) ∧ s.2.2.length = eQ.length ∧ (∀ (k : Nat), seen[k]? = some true → s.2.2[k]? = some true) ∧ bm s.2.2 ≤ bm seen ∧ (s.1 = true → bm s.2.2 < bm seen) ∧ (s.1 = false → s.2.2 = seen ∧ nv eQ seen i ∧ ∀ x ∈ (nx q i).take s.2.1.toNat, seen[x.toNat]? = some true)) (fun s => (((nx q i).length : Int) - s.2.1).toNat) ⟨by simp, by simp, g2, g3, g4, g5, fun h => ⟨(g6 h).1, (g6 h).2, by simp⟩⟩ fun s hs => ?_)
      fun r (hr : r.2.length = eQ.length ∧ (∀ (k : Nat), seen[k]? = some true → r.2[k]? = some true) ∧ bm r.2 ≤ bm seen ∧ (r.1 = true → bm r.2 < bm seen) ∧ (r.1 = false → r.2 = seen ∧ nv eQ seen (i + 1))) => .pure hr
    obtain ⟨fresh', j, a'⟩ := s
    obtain ⟨k0, k1, k2, k3, k4, k5, k6⟩ := hs
    simp only at k0 k1 k2 k3 k4 k5 k6
    unfold kT
    refine .sel (fun hlt' => ?_) fun hge' => .inr (show a'.length = eQ.length ∧ (∀ (k : Nat), seen[k]? = some true → a'[k]? = some true) ∧ bm a' ≤ bm seen ∧ (fresh' = true → bm a' < bm seen) ∧ (fresh' = false → a' = seen ∧ nv eQ seen (i + 1)) from ⟨k2, k3, k4, k5, fun h => ⟨(k6 h).1, fun m p hm hp hsm => ?_⟩⟩)
    · simp only [decide_eq_true_eq] at hlt'
      refine .bind (P := fun z => z.2.length = eQ.length ∧ (∀ (k : Nat), seen[k]? = some true → z.2[k]? = some true) ∧ bm z.2 ≤ bm seen ∧ (z.1 = true → bm z.2 < bm seen) ∧ (z.1 = false → z.2 = seen ∧ nv eQ seen i ∧ ∀ x ∈ (nx q i).take (j + 1).toNat, seen[x.toNat]? = some true)) ?_ fun z hz => .inl ?_
      · refine .bind (.nth k0 hlt') fun x ⟨hx, hxm⟩ => ?_
        have hxr := hnx x hxm
        have hxl : x < a'.length := by rw [k2]; exact hxr.2
        refine .bind (.nth hxr.1 hxl) fun b ⟨hb2, _⟩ => .sel (fun hbf => ?_) fun hbt => .pure ⟨k2, k3, k4, k5, fun h => ⟨(k6 h).1, (k6 h).2.1, fun y hy => ?_⟩⟩
        · refine .bind (.nth k0 hlt') fun x2 ⟨hx2, _⟩ => ?_
          obtain rfl : x = x2 := o9 (hx.symm.trans hx2)
          refine .bind (.nth hxr.1 hxl) fun _ _ => .bind (.upd hxr.1 hxl) fun r hr => .pure ?_
          subst hr
          have hbf' : b = false := by simpa using hbf
          subst hbf'
          have hb3 : a'[x.toNat]? = some false := hb2
          have h4 := DM hb3
          refine ⟨by rw [List.length_set]; exact k2, fun k hk => ?_, by simp only; omega, fun _ => by simp only; omega, fun h => by cases h⟩
          simp only
          by_cases e : x.toNat = k
          · subst e; rw [List.getElem?_set_self (oH hb2)]
          · rw [List.getElem?_set_ne e]; exact k3 k hk
        · rw [show (j + 1).toNat = j.toNat + 1 by omega, List.take_add_one, hx] at hy
          simp only [Option.toList_some, List.mem_append, List.mem_singleton] at hy
          rcases hy with hy | rfl
          · exact (k6 h).2.2 y hy
          · rw [← (k6 h).1, hb2]; simpa using hbt
      · rw [ce k0 (by omega)]
        exact ⟨⟨by simp only; omega, by simp only; omega, hz⟩, by simp only; omega⟩
    · simp only [decide_eq_false_iff_not] at hge'
      have k7 := (k6 h).2.2
      rw [List.take_of_length_le (by omega)] at k7
      by_cases e : (m : Int) = i
      · obtain rfl : m = i.toNat := by omega
        obtain rfl : q = p := o9 (hq.symm.trans hp)
        rw [show ((i.toNat : Nat) : Int) = i by omega]
        exact k7
      · exact (k6 h).2.1 m p (by omega) hp hsm
  · rw [ce g0 (by omega)]
    exact ⟨⟨by simp only; omega, by simp only; omega, hz⟩, by simp only; omega⟩
theorem Ae {eQ:List ah} (hc:COk eQ):Tot (iZ eQ) λseen=>seen.length=eQ.length/\seen[0]?=some true/\nv eQ seen eQ.length:=by
 have hmx:=hc.max
 have h1:=hc.one
 unfold iZ
 rw [dh hc,ob9]
 refine .sf rfl (.bind (.mk (by omega) (by omega)) λl hl=>?_)
 subst hl
 refine .bind (.nth (by omega) (by simp; omega)) λ_ _=>.bind (.upd (by omega) (by simp; omega)) λl2 hl2=>?_
 have h0:l2.length=eQ.length/\l2[0]?=some true:=by
  subst hl2
  refine ⟨by simp,?_⟩
  rw [show (0:Int).toNat=0 from rfl,List.getElem?_set_self (by simp; omega)]
 refine .bind (P:=λseen=>seen.length=eQ.length/\seen[0]?=some true/\nv eQ seen eQ.length) (.iter (λs=>s.length=eQ.length/\s[0]?=some true) bm h0 λs hs=>?_) λr hr=>.pure hr
 unfold kV
 exact .bind (yN hc hs.1) λr hr=>.sel (λh=>.inl ⟨⟨hr.1,hr.2.1 0 hs.2⟩,hr.2.2.1 h⟩) λh=>.inr (by
  obtain ⟨e,hcl⟩:=hr.2.2.2 h
  rw [e]; exact ⟨hs.1,hs.2,hcl⟩)
def rY (q:ah) (i:Int):Bool:=if q.Op=4\/q.Op=5 then q.N==i+1 else if q.Op=2 then q.Dst==q.A else false
theorem CB (q:ah) {i:Int} (h0:0<=i) (h:i<=1000):kW q i=some (rY q i):=by
 refine Tot.eq ?_
 unfold kW rY
 rw [ce h0 (by omega)]
 refine .bind (P:=λb=>b=true↔(q.Op=4\/q.Op=5)) (.sel (λh=>.pure ?_) λh=>.pure ?_) λb hb=>.sel (λh=>.pure (by rw [if_pos (hb.1 h)])) λh=>.sel (λh'=>.pure ?_) λh'=>.pure ?_
 ·simp only [beq_iff_eq] at *; simp [h]
 ·simp only [beq_eq_false_iff_ne,ne_eq] at *; simp [h]
 ·rw [if_neg (λhh=>by rw [hb.2 hh] at h; cases h),if_pos (by simpa using h')]
 ·rw [if_neg (λhh=>by rw [hb.2 hh] at h; cases h),if_neg (by simpa using h')]
def cnt (K:Nat->Bool):Nat->Nat
 | 0=>0
 | m+1=>cnt K m+if K m then 1 else 0
theorem vw (K:Nat->Bool):∀ m,cnt K m<=m
 | 0=>Nat.le_refl _
 | m+1=>by have:=vw K m; simp only [cnt]; split <;> omega
theorem vx (K : Nat → Bool) {a : Nat} : ∀ {b : Nat}, a ≤ b → cnt K a ≤ cnt K b
  | 0, h => by have : a = 0 := by omega
               subst this; exact Nat.le_refl _
  | b + 1, h => by
    by_cases e : a = b + 1
    · subst e; exact Nat.le_refl _
    · have := vx K (a := a) (b := b) (by omega); simp only [cnt]; omega
theorem Bj (K:Nat->Bool) {a j n:Nat} (h:a<=j) (hj:j<n) (hk:K j=true):cnt K a<cnt K n:=by
 have h1:=vx K h
 have h2:=vx K (show j+1<=n from hj)
 simp only [cnt,hk,if_true] at h2
 omega
def kp (keep:List Bool) (j:Nat):Bool:=(keep[j]?).getD false
theorem Af {keep:List Bool} {m:Int} (h0:0<=m) (h1:m<=keep.length) (hl:keep.length<=1000):Tot (jW keep m) λr=>r=(cnt (kp keep) m.toNat:Int):=by
 unfold jW
 refine .bind (P:=λr=>r=(cnt (kp keep) m.toNat:Int)) (.iter (λs=>0<=s.2/\s.2<=m/\s.1=(cnt (kp keep) s.2.toNat:Int)) (λs=>(m-s.2).toNat) ⟨by simp,by simpa using h0,rfl⟩ λs hs=>?_) λr hr=>.pure hr
 obtain ⟨c,i⟩:=s
 obtain ⟨g0,g1,g2⟩:=hs
 simp only at g0 g1 g2
 unfold ma
 refine .sel (λhlt=>?_) λhge=>.inr (show c=_ from ?_)
 ·simp only [decide_eq_true_eq] at hlt
  have hcl:=vw (kp keep) i.toNat
  refine .bind (P:=λz=>z=(cnt (kp keep) (i+1).toNat:Int)) (.bind (.nth g0 (by omega)) λb ⟨hb,_⟩=>?_) λz hz=>.inl ?_
  ·have hk:kp keep i.toNat=b:=by unfold kp; rw [hb]; rfl
   have e:(i+1).toNat=i.toNat+1:=by omega
   refine .sel (λh=>.pure ?_) λh=>.pure ?_
   ·rw [bf (by omega) (by omega),e,cnt,hk,h,g2]; rfl
   ·rw [e,cnt,hk,h,g2]; rfl
  ·rw [ce g0 (by omega)]
   exact ⟨⟨by simp only; omega,by simp only; omega,hz⟩,by simp only; omega⟩
 ·simp only [decide_eq_false_iff_not] at hge
  rw [g2,show i=m by omega]
theorem vy:vq gn:=λ{eQ} hc=>by
 have hmx:=hc.max
 unfold gn
 rw [dh hc,ob9]
 refine .sf rfl (.bind (Ae hc) λseen ⟨s1,s2,s3⟩=>.bind (P:=λkeep=>keep.length=eQ.length/\∀ (j:Nat) (q:ah),eQ[j]?=some q->keep[j]?=some ((seen[j]?).getD false&&!rY q j)) (.iter (λs=>0<=s.1/\s.1<=(eQ.length:Int)/\s.2.length=eQ.length/\(∀ (j:Nat) (q:ah),(j:Int)<s.1->eQ[j]?=some q->s.2[j]?=some ((seen[j]?).getD false&&!rY q j))/\∀ (j:Nat),s.1<=(j:Int)->s.2[j]?=seen[j]?) (λs=>((eQ.length:Int)-s.1).toNat) ⟨by simp,by simp,s1,λj q h=>by simp only at h; omega,λj _=>rfl⟩ λs hs=>?_) λkeep ⟨k1,k2⟩=>?_)
 ·obtain ⟨i,a⟩:=s
  obtain ⟨g0,g1,g2,g3,g4⟩:=hs
  simp only at g0 g1 g2 g3 g4
  unfold jD
  refine .sel (λhlt=>?_) λhge=>.inr (show a.length=eQ.length/\_ from ⟨g2,λj q hq=>g3 j q (by have:=oH hq; simp only [decide_eq_false_iff_not] at hge; omega) hq⟩)
  simp only [decide_eq_true_eq] at hlt
  have hia:i<a.length:=by rw [g2]; exact hlt
  obtain ⟨q,hq⟩:∃ q,eQ[i.toNat]?=some q:=⟨_,List.getElem?_eq_getElem (by omega)⟩
  refine .bind (.nth g0 hia) λb ⟨hb,_⟩=>.bind (P:=λz=>z=((seen[i.toNat]?).getD false&&!rY q i)) ?_ λz hz=>.bind (.nth g0 hia) λ_ _=>.bind (.upd g0 hia) λr hr=>.inl ?_
  ·have hsb:(seen[i.toNat]?).getD false=b:=by rw [<-g4 i.toNat (by omega),hb]; rfl
   refine .sel (λh=>.bind (.nth g0 hlt) λq' ⟨hq',_⟩=>?_) λh=>.pure (by rw [hsb,h]; rfl)
   obtain rfl:q=q':=o9 (hq.symm.trans hq')
   rw [CB q g0 (by omega),ob9,hsb,h]
   exact .pure rfl
  ·subst hr hz
   rw [ce g0 (by omega)]
   refine ⟨⟨by simp only; omega,by simp only; omega,by simp [g2],λj p hj hp=>?_,λj hj=>?_⟩,by simp only; omega⟩
   ·simp only at hj ⊢
    by_cases e:(j:Int)=i
    ·obtain rfl:j=i.toNat:=by omega
     obtain rfl:q=p:=o9 (hq.symm.trans hp)
     have hlt3:i.toNat<a.length:=by omega
     rw [List.getElem?_set_self hlt3,show ((i.toNat:Nat):Int)=i by omega]
    ·rw [List.getElem?_set_ne (by omega)]
     exact g3 j p (by omega) hp
   ·simp only at hj ⊢
    rw [List.getElem?_set_ne (by omega)]
    exact g4 j (by omega)
 have hK:∀ (j:Nat) (q:ah),eQ[j]?=some q->(kp keep j=true↔seen[j]?=some true/\rY q j=false):=λj q hq=>by
  unfold kp
  rw [k2 j q hq]
  simp [Ad]
 have hsucc:∀ (j:Nat) (q:ah),eQ[j]?=some q->q.Op≠10->(q.Op=4->q.N=(j:Int)+1)->seen[j]?=some true->seen[j+1]?=some true:=λj q hq h10 h4 hs=>by
  have hin:(j:Int)+1∈nx q j:=by
   unfold nx
   rw [if_neg h10]
   split
   ·rename_i h; rw [h4 h]; simp
   ·split
    ·simp
    ·split <;> simp
  have:=s3 j q (by have:=oH hq; omega) hq hs _ hin
  rwa [show ((j:Int)+1).toNat=j+1 by omega] at this
 have hkept:∀ n j,eQ.length-j<=n->seen[j]?=some true->j<eQ.length->∃ m,j<=m/\m<eQ.length/\kp keep m=true:=by
  intro n
  induction n with
  | zero=>intro j h1 _ h2; omega
  | succ n ih =>
   intro j h1 hs hj
   obtain ⟨q,hq⟩:∃ q,eQ[j]?=some q:=⟨_,List.getElem?_eq_getElem hj⟩
   cases hi:rY q j
   ·exact ⟨j,Nat.le_refl _,hj,(hK j q hq).2 ⟨hs,hi⟩⟩
   ·unfold rY at hi
    have h10:q.Op≠10:=by rintro h; simp [h] at hi
    have h4:q.Op=4->q.N=(j:Int)+1:=λh=>by simp [h] at hi; exact hi
    have hs':=hsucc j q hq h10 h4 hs
    have hj':j+1<eQ.length:=by have:=oH hs'; omega
    obtain ⟨m,h2,h3,h4⟩:=ih (j+1) (by omega) hs' hj'
    exact ⟨m,by omega,h3,h4⟩
 have h01:=hc.one
 obtain ⟨m0,_,hm0,hkm0⟩:=hkept _ 0 (Nat.le_refl _) s2 (by omega)
 refine .bind (P:=λout=>out.length=cnt (kp keep) eQ.length/\(∀ q'∈out,QOk (cnt (kp keep) eQ.length:Nat) q')/\∀ q',out.getLast?=some q'->∃ (j:Nat) (q:ah),j<eQ.length/\eQ[j]?=some q/\q'.Op=q.Op/\kp keep j=true/\∀ l,j<l->l<eQ.length->kp keep l=false)
  (.iter (λs=>0<=s.2/\s.2<=(eQ.length:Int)/\s.1.length=cnt (kp keep) s.2.toNat/\(∀ q'∈s.1,QOk (cnt (kp keep) eQ.length:Nat) q')/\∀ q',s.1.getLast?=some q'->∃ (j:Nat) (q:ah),j<s.2.toNat/\eQ[j]?=some q/\q'.Op=q.Op/\kp keep j=true/\∀ l,j<l->l<s.2.toNat->kp keep l=false) (λs=>((eQ.length:Int)-s.2).toNat) ⟨by simp,by simp,rfl,by simp,by simp⟩ λs hs=>?_) λout ⟨o1,o2,o3⟩=>.pure ⟨?_,rfl,by simp only; rw [o1]; exact vw _ _⟩
 ·obtain ⟨out,i⟩:=s
  obtain ⟨g0,g1,g2,g3,g4⟩:=hs
  simp only at g0 g1 g2 g3 g4
  unfold jE
  refine .sel (λhlt=>?_) λhge=>.inr (show out.length=cnt (kp keep) eQ.length/\_ from ?_)
  rotate_left
  ·simp only [decide_eq_false_iff_not] at hge
   rw [show i.toNat=eQ.length by omega] at g2 g4
   exact ⟨g2,g3,g4⟩
  simp only [decide_eq_true_eq] at hlt
  obtain ⟨q,hq⟩:∃ q,eQ[i.toNat]?=some q:=⟨_,List.getElem?_eq_getElem (by omega)⟩
  have e1:(i+1).toNat=i.toNat+1:=by omega
  refine .bind (P:=λo=>o.length=cnt (kp keep) (i+1).toNat/\(∀ q'∈o,QOk (cnt (kp keep) eQ.length:Nat) q')/\∀ q',o.getLast?=some q'->∃ (j:Nat) (q:ah),j<(i+1).toNat/\eQ[j]?=some q/\q'.Op=q.Op/\kp keep j=true/\∀ l,j<l->l<(i+1).toNat->kp keep l=false) ?_ λo ho=>.inl ?_
  ·refine .bind (.nth g0 hlt) λq' ⟨hq',hqm⟩=>?_
   obtain rfl:q=q':=o9 (hq.symm.trans hq')
   have hv:=hc.q q hqm
   refine .bind (.nth g0 (by rw [k1]; exact hlt)) λb ⟨hb,_⟩=>?_
   have hkb:kp keep i.toNat=b:=by unfold kp; rw [hb]; rfl
   refine .sel (λhbf=>.pure ?_) λhbt=>?_
   ·have hbf':b=false:=by simpa using hbf
    subst hbf'
    rw [e1]
    refine ⟨by simp only [cnt,hkb]; simpa using g2,g3,λq' hq'=>?_⟩
    obtain ⟨j,p,h1,h2,h3,h4,h5⟩:=g4 q' hq'
    refine ⟨j,p,by omega,h2,h3,h4,λl hl1 hl2=>?_⟩
    by_cases e:l=i.toNat
    ·subst e; exact hkb
    ·exact h5 l hl1 (by omega)
   ·have hbt':b=true:=by simpa using hbt
    subst hbt'
    obtain ⟨hsi,hid⟩:=(hK i.toNat q hq).1 hkb
    refine .bind (P:=λq'=>QOk (cnt (kp keep) eQ.length:Nat) q'/\q'.Op=q.Op) (.sel (λh=>?_) λh=>.pure ⟨?_,rfl⟩) λq' hq'=>.bind (.app (by rw [g2]; have:=vw (kp keep) i.toNat; simp; omega)) λr hr=>.pure ?_
    ·simp only [Bool.or_eq_true,beq_iff_eq] at h
     have hw:=hv
     unfold QOk at hw
     have hr:0<=q.N/\q.N<eQ.length:=by rcases h with h | h <;> simp [h] at hw <;> omega
     have hni:q.N≠i+1:=λe=>by
      unfold rY at hid
      rw [if_pos h,show ((i.toNat:Nat):Int)=i by omega] at hid
      simp [e] at hid
     have hin:q.N∈nx q i:=by
      unfold nx
      rcases h with h | h
      ·simp [h]
      ·rw [if_neg (by omega),if_neg (by omega)]
       split
       ·simp
       ·rw [if_pos ⟨h,by omega⟩]; simp
     have hsn:seen[q.N.toNat]?=some true:=s3 i.toNat q (by omega) hq hsi _ (by rw [show ((i.toNat:Nat):Int)=i by omega]; exact hin)
     obtain ⟨m,h1,h2,h3⟩:=hkept _ q.N.toNat (Nat.le_refl _) hsn (by omega)
     have hcl:=Bj (kp keep) h1 h2 h3
     refine .bind (Af hr.1 (by rw [k1]; omega) (by omega)) λp hp=>.pure ⟨?_,rfl⟩
     subst hp
     rcases h with h | h <;> simp [h] at hw <;> simp [QOk,h,hw] <;> omega
    ·simp only [Bool.or_eq_false_iff,beq_eq_false_iff_ne,ne_eq] at h
     unfold QOk at hv ⊢
     rcases hv with h' | h' | h' | h' | h' | h' | h' | h' | h'
     ·exact .inl h'
     ·exact .inr (.inl h')
     ·exact .inr (.inr (.inl h'))
     ·exact absurd h'.1 h.1
     ·exact absurd h'.1 h.2
     ·exact .inr (.inr (.inr (.inr (.inr (.inl h')))))
     ·exact .inr (.inr (.inr (.inr (.inr (.inr (.inl h'))))))
     ·exact .inr (.inr (.inr (.inr (.inr (.inr (.inr (.inl h')))))))
     ·exact .inr (.inr (.inr (.inr (.inr (.inr (.inr (.inr h')))))))
    ·subst hr
     rw [e1]
     refine ⟨by simp only [cnt,hkb]; simp [g2],λz hz=>?_,λz hz=>?_⟩
     ·simp only [List.mem_append,List.mem_singleton] at hz
      rcases hz with hz | rfl
      ·exact g3 z hz
      ·exact hq'.1
     ·rw [List.getLast?_concat] at hz
      injection hz with hz
      subst hz
      exact ⟨i.toNat,q,by omega,hq,hq'.2,hkb,λl h1 h2=>by omega⟩
  ·rw [ce g0 (by omega)]
   exact ⟨⟨by simp only; omega,by simp only; omega,ho⟩,by simp only; omega⟩
 ·have hpos:=Bj (kp keep) (Nat.zero_le _) hm0 hkm0
  have hle:=vw (kp keep) eQ.length
  refine ⟨by simp only; omega,by simp only; omega,λz hz=>by simp only at hz ⊢; rw [o1]; exact o2 z hz,?_⟩
  have hne:out≠[]:=by rintro rfl; simp at o1; omega
  obtain ⟨z,hz⟩:∃ z,out.getLast?=some z:=⟨_,List.getLast?_eq_some_getLast hne⟩
  refine ⟨z,hz,?_⟩
  obtain ⟨j,q,h1,h2,h3,h4,h5⟩:=o3 z hz
  obtain ⟨hs,hi⟩:=(hK j q h2).1 h4
  rw [h3]
  by_cases e10:q.Op=10
  ·exact .inl e10
  by_cases e4:q.Op=4
  ·exact .inr e4
  exfalso
  have hs':=hsucc j q h2 e10 (λh=>absurd h e4) hs
  have hj':j+1<eQ.length:=by have:=oH hs'; omega
  obtain ⟨m,m1,m2,m3⟩:=hkept _ (j+1) (Nat.le_refl _) hs' hj'
  rw [h5 m (by omega) m2] at m3
  cases m3
theorem Bl {eQ:List ah} (hc:COk eQ):Tot (kX eQ) λr=>COk r/\r.length<=eQ.length:=by
 unfold kX
 exact .bind (xT hc) λa ha=>.bind (xW ha.1) λb hb=>.bind (xX hb.1) λc hcc=>.bind (xZ hcc.1) λd hd=>.bind (vy hd.1) λe he=>.pure ⟨he.1,by have:=ha.2.2; have:=hb.2.2; have:=hcc.2.2; have:=hd.2.2; have:=he.2.2; omega⟩
theorem xf {eQ:List ah} (hc:COk eQ) {t:Int} (h0:0<=t) (h4:t<=4):Tot (fP eQ t) λr=>COk r.1/\r.2=true/\r.1.length<=eQ.length:=by
 have hmx:=hc.max
 unfold fP
 rw [dh hc,ob9,oD]
 refine .bind (P:=λb=>b=false) (.sf rfl (.pure (by simp; omega))) λb hb=>.sf hb (.bind (.app (by simp; omega)) λr hr=>?_)
 rw [List.nil_append] at hr
 subst hr
 refine .bind (P:=λo=>COk o/\o.length<=r.length) (.iter (λs=>0<=s.2/\s.2<=t/\COk s.1/\s.1.length<=r.length) (λs=>(t-s.2).toNat) ⟨by simp,by simpa using h0,hc,Nat.le_refl _⟩ λs hs=>?_) λo ho=>.pure ⟨ho.1,rfl,ho.2⟩
 obtain ⟨o,i⟩:=s
 obtain ⟨g0,g1,g2,g3⟩:=hs
 simp only at g0 g1 g2 g3
 unfold i3
 refine .sel (λh=>?_) λh=>.inr (show COk o/\o.length<=r.length from ⟨g2,g3⟩)
 simp only [decide_eq_true_eq] at h
 refine .bind (Bl (eQ:=o) g2) λo2 ho2=>.inl ?_
 rw [ce g0 (by omega)]
 exact ⟨⟨by simp only; omega,by simp only; omega,ho2.1,by have:=ho2.2; simp only; omega⟩,by simp only; omega⟩
end
noncomputable section
theorem Expr.eta' (x:Expr):Expr.mk x.Op x.N x.Args=x:=by cases x; rfl
theorem ax.eta' (x:ax):ax.mk x.Kind x.Var x.Box (Expr.mk x.Expr.Op x.Expr.N x.Expr.Args) x.Body x.Else=x:=by rw [Expr.eta']; cases x; rfl
def EOk:Nat->Expr->Prop
 | 0,_=>False
 | d+1,e=>(e.Op=0/\0<=e.N/\e.N<=99999/\e.Args=[])\/(e.Op=13/\0<=e.N/\e.N<=3/\e.Args=[])\/((1<=e.Op/\e.Op<=12)/\e.N=0/\∃ a b,e.Args=[a,b]/\EOk d a/\EOk d b)
theorem EOk.mono:∀ {d d':Nat} {e:Expr},EOk d e->d<=d'->EOk d' e
 | 0,_,_,h,_=>h.elim
 | d+1,0,_,_,h=>by omega
 | d+1,d'+1,e,h,hd=>by
  rcases h with h | h | ⟨h1,h2,a,b,h3,h4,h5⟩
  ·exact .inl h
  ·exact .inr (.inl h)
  ·exact .inr (.inr ⟨h1,h2,a,b,h3,h4.mono (by omega),h5.mono (by omega)⟩)
theorem xg:∀ {d k:Nat} {e:Expr} {dd:Int},EOk d e->(d:Int)<=dd->dd<=1000->d<=k->oy k e dd=some true
 | 0,_,_,_,h,_,_,_=>h.elim
 | d+1,0,_,_,_,_,_,h=>by omega
 | d+1,k+1,e,dd,h,hd,hd',hk=>by
  show mB k (oy k) e dd=_
  unfold mB
  rw [ak (by simp; omega)]
  rcases h with ⟨h1,h2,h3,h4⟩ | ⟨h1,h2,h3,h4⟩ | ⟨h1,h2,a,b,h3,h4,h5⟩
  ·rw [bM (by simpa using h1),oD,h4]; simp; omega
  ·rw [ak (by simp [h1]),bM (by simpa using h1),oD,h4]; simp; omega
  ·rw [ak (by simp; omega),ak (by simp; omega),rq,ob9,h3,bf (by omega) (by omega)]
   have e1:nth [a,b] 0=some a:=rfl
   have e2:nth [a,b] 1=some b:=rfl
   rw [bM (by simp [h1,h2]),e1]
   simp only [ob9,Expr.eta',xg (k:=k) h4 (show (d:Int)<=dd-1 by omega) (by omega) (by omega)]
   rw [bM rfl,e2]
   simp only [ob9,Expr.eta',xg (k:=k) h5 (show (d:Int)<=dd-1 by omega) (by omega) (by omega)]
theorem m6 {k:Nat} {e:Expr} (h:EOk 5 e) (hk:5<=k):dR k e=some true:=by
 unfold dR
 rw [Expr.eta',xg h (by omega) (by omega) hk]; rfl
theorem qw:∀ {d k:Nat} {e:Expr} {at_:Int},EOk d e->0<=at_->at_+d<=12->d<=k->Tot (ee k e at_) λout=>out.length+1<=2^d/\1<=out.length/\∀ q∈out,∀ m,QOk m q
 | 0,_,_,_,h,_,_,_=>h.elim
 | d+1,0,_,_,_,_,_,h=>by omega
 | d+1,k+1,e,at_,h,h0,h12,hk=>by
  show Tot (iJ k (ee k) e at_) _
  unfold iJ
  have hp:2<=2^(d+1):=by rw [Nat.pow_succ]; have:=Nat.two_pow_pos d; omega
  have hr:Rg at_:=by unfold Rg; omega
  rcases h with ⟨h1,h2,h3,h4⟩ | ⟨h1,h2,h3,h4⟩ | ⟨h1,h2,a,b,h3,h4,h5⟩
  ·refine .st (by simpa using h1) (.pure ⟨by simpa using hp,by simp,λq hq m=>?_⟩)
   rw [List.mem_singleton.1 hq]
   exact .inl ⟨rfl,hr,rfl,rfl,by unfold Wd; simp only; omega⟩
  ·refine .sf (by simp [h1]) (.st (by simpa using h1) (.pure ⟨by simpa using hp,by simp,λq hq m=>?_⟩))
   rw [List.mem_singleton.1 hq]
   exact .inr (.inl ⟨rfl,hr,by unfold Rg; simp only; omega,rfl,rfl⟩)
  ·refine .sf (by simp; omega) (.sf (by simp; omega) ?_)
   have e1:nth e.Args 0=some a:=by rw [h3]; rfl
   have e2:nth e.Args 1=some b:=by rw [h3]; rfl
   have hd:1<=d:=by cases d with
    | zero=>exact h4.elim
    | succ d=>omega
   rw [e1,e2]
   simp only [ob9,Expr.eta']
   rw [bf (by omega) (by omega)]
   have h256:2^d<=4096:=Nat.le_trans (Nat.pow_le_pow_right (by omega) (show d<=12 by omega)) (by decide)
   refine .bind (qw (k:=k) h4 h0 (by omega) (by omega)) λx hx=>.bind (qw (k:=k) h5 (show 0<=at_+1 by omega) (by omega) (by omega)) λy hy=>.bind (.app (by omega)) λr hr'=>.bind (.app (by subst hr'; simp; omega)) λr2 hr2=>.pure ?_
   subst hr' hr2
   refine ⟨by simp only [List.length_append,List.length_cons,List.length_nil,Nat.pow_succ]; omega,by simp only [List.length_append,List.length_cons]; omega,λq hq m=>?_⟩
   simp only [List.mem_append,List.mem_singleton] at hq
   rcases hq with (hq | hq) | rfl
   ·exact hx.2.2 q hq m
   ·exact hy.2.2 q hq m
   ·exact .inr (.inr (.inl ⟨rfl,hr,hr,by unfold Rg; simp only; omega,by simp only; omega,by simp only; omega⟩))
def pc:Nat->Int
 | 0=>2
 | d+1=>3+2*pc d
theorem yO:∀ d,2<=pc d
 | 0=>by simp [pc]
 | d+1=>by have:=yO d; simp only [pc]; omega
variable {b:List Int} {p m:Int}
theorem Da (hb:By b) (h0:0<=p) (hm:p<=m) (hp:m<=100000000):Dr (lK ⟨b,p⟩) (m+1) λx=>1<=x/\x<=12:=by
 unfold lK
 refine .bind (bE hb h0 hm (by omega) (by omega) (by omega)) λx p' hx h1 h2=>.pure ?_ h1 h2
 rw [bf (by omega) (by omega)]; omega
theorem CD (hb:By b) (h0:0<=p) (hm:p<=m) (hp:m<=100000000):Dr (jh ⟨b,p⟩) (m+2) (EOk 1):=by
 unfold jh
 refine .bind (bE hb h0 hm (by omega) (by omega) (by omega)) λx p' hx h1 h2=>.sel (λ_=>?_) λ_=>.sel (λ_=>?_) λ_=>?_
 ·refine .bind (bE hb h1 h2 (by omega) (by omega) (by omega)) λy p2 hy h3 h4=>.pure ?_ h3 (by omega)
  exact .inl ⟨rfl,by simp only; omega,by simp only; omega,rfl⟩
 ·refine .bind (bE hb h1 h2 (by omega) (by omega) (by omega)) λy p2 hy h3 h4=>.tot (.nth hy.1 (by simpa using hy.2)) λz ⟨_,hz⟩=>.pure ?_ h3 (by omega)
  refine .inl ⟨rfl,?_,?_,rfl⟩ <;> (simp at hz; simp only; omega)
 ·refine .bind (bE hb h1 h2 (by omega) (by omega) (by omega)) λy p2 hy h3 h4=>.pure ?_ h3 (by omega)
  exact .inr (.inl ⟨rfl,by simp only; omega,by simp only; omega,rfl⟩)
theorem xh (hb:By b):∀ {d k:Nat} {p m depth:Int},1<=depth->depth<=(d:Int)+1->(d+1<=k/\d<=100)->0<=p->p<=m->m+pc d<=100000000->Dr (eM k ⟨b,p⟩ depth) (m+pc d) (EOk (d+1))
 | d,0,_,_,_,_,_,h,_,_,_=>by omega
 | d,k+1,p,m,depth,h1,h2,hk,h0,hm,hp=>by
  show Dr (iO k (eM k) ⟨b,p⟩ depth) _ _
  unfold iO
  have hpc:=yO d
  have leaf:∀ {p':Int},0<=p'->p'<=m+pc d-2->Dr ((jh ⟨b,p'⟩).bind λy2=>some (Expr.mk y2.1.Op y2.1.N y2.1.Args,y2.2)) (m+pc d) (EOk (d+1)):=λh0 hm=>by
   refine .bind (CD hb h0 hm (by omega)) λx p2 hx h3 h4=>.pure ?_ h3 (by omega)
   rw [Expr.eta']
   exact hx.mono (by omega)
  by_cases hd:depth<2
  ·refine .bind (x:=sel _ _ _) (m:=m) (P:=λc=>c=true) (.sel (λ_=>.pure rfl h0 hm) λh=>?_) λc p' hc h3 h4=>.sel (λ_=>leaf h3 (by omega)) λh=>by rw [hc] at h; cases h
   simp at h; omega
  ·obtain ⟨d,rfl⟩:∃ e,d=e+1:=⟨d-1,by omega⟩
   have hpd:=yO d
   simp only [pc] at *
   refine .bind (x:=sel _ _ _) (m:=m+1) (P:=λ_=>True) (.sel (λh=>?_) λh=>.bind (bE hb h0 hm (by omega) (by omega) (by omega)) λx p' _ h3 h4=>.pure trivial h3 h4) λc p' _ h3 h4=>.sel (λ_=>leaf h3 (by omega)) λ_=>?_
   ·simp at h; omega
   ·rw [bf (by omega) (by omega)]
    refine .bind (Da hb h3 h4 (by omega)) λop p2 hop h5 h6=>.bind (xh hb (k:=k) (d:=d) (by omega) (by omega) ⟨by omega,by omega⟩ h5 h6 (by omega)) λx p3 hx h7 h8=>.bind (xh hb (k:=k) (d:=d) (by omega) (by omega) ⟨by omega,by omega⟩ h7 h8 (by omega)) λy p4 hy h9 h10=>?_
    refine .pure ?_ h9 (by omega)
    simp only [Expr.eta']
    exact .inr (.inr ⟨hop,rfl,x,y,rfl,hx,hy⟩)
def qD (s:ax):Prop:=s.Body=[]/\s.Else=[]/\((s.Kind=1/\(0<=s.Var/\s.Var<=3)/\s.Box=0/\EOk 5 s.Expr)\/(s.Kind=4/\s.Var=0/\(0<=s.Box/\s.Box<=1)/\EOk 5 s.Expr) \/
 (s.Kind=5/\(0<=s.Var/\s.Var<=3)/\(0<=s.Box/\s.Box<=1)/\s.Expr=⟨0,0,[]⟩)\/(s.Kind=6/\s.Var=0/\s.Box=0/\s.Expr=⟨0,0,[]⟩)\/(s.Kind=7/\s.Var=0/\s.Box=0/\EOk 5 s.Expr))
def SOk:Nat->ax->Prop
 | 0,s=>qD s
 | n+1,s=>qD s\/((s.Kind=2\/(s.Kind=3/\s.Else=[]))/\s.Var=0/\s.Box=0/\EOk 5 s.Expr/\(∀ x∈s.Body,SOk n x)/\∀ x∈s.Else,SOk n x)
theorem SOk.of_simp {s:ax} (h:qD s):∀ n,SOk n s
 | 0=>h
 | _+1=>.inl h
mutual
def ct:ax->Nat
 | ⟨_,_,_,_,b,e⟩=>1+cts b+cts e
def cts:List ax->Nat
 | []=>0
 | x::r=>ct x+cts r
end
theorem wN (s:ax):ct s=1+cts s.Body+cts s.Else:=by cases s; rfl
theorem xi:∀ l m:List ax,cts (l++m)=cts l+cts m
 | [],m=>by simp [cts]
 | x::l,m=>by simp only [List.cons_append,cts,xi l m]; omega
theorem vz:∀ (l:List ax) (i:Nat) (s:ax),l[i]?=some s->cts (l.take (i+1))=cts (l.take i)+ct s
 | [],_,_,h=>by simp at h
 | x::l,0,s,h=>by
  have:x=s:=by simpa using h
  subst this; simp [cts]
 | x::l,i+1,s,h=>by
  have:=vz l i s (by simpa using h)
  simp only [List.take_succ_cons,cts,this]; omega
theorem mI:∀ (l:List ax) (i:Nat),cts (l.take i)<=cts l
 | [],_=>by simp [cts]
 | x::l,0=>by simp [cts]
 | x::l,i+1=>by have:=mI l i; simp only [List.take_succ_cons,cts]; omega
theorem Bm (s:ax):1<=ct s:=by rw [wN]; omega
theorem pg:∀ l:List ax,l.length<=cts l
 | []=>Nat.le_refl _
 | x::l=>by have:=pg l; have:=Bm x; simp only [List.length_cons,cts]; omega
theorem SOk.body {n:Nat} {s:ax} (h:SOk n s):(∀ x∈s.Body,SOk (n-1) x)/\(∀ x∈s.Else,SOk (n-1) x)/\(n=0->s.Body=[]/\s.Else=[]):=by
 cases n with
 | zero=>exact ⟨by rw [h.1]; simp,by rw [h.2.1]; simp,λ_=>⟨h.1,h.2.1⟩⟩
 | succ n =>
  rcases h with h | h
  ·exact ⟨by rw [h.1]; simp,by rw [h.2.1]; simp,λh=>by omega⟩
  ·exact ⟨h.2.2.2.2.1,h.2.2.2.2.2,λh=>by omega⟩
theorem Ag {k:Nat} (hk:1<=k):d9 k []=some 0:=by
 obtain ⟨k,rfl⟩:∃ j,k=j+1:=⟨k-1,by omega⟩
 show eC k (d9 k) []=_
 unfold eC
 rw [c6]
 unfold jf
 rfl
theorem sU:∀ {n k:Nat} {l:List ax},n+2<=k->(∀ x∈l,SOk n x)->cts l<=1000000->Tot (d9 k l) λr=>r=(cts l:Int)
 | n,0,_,h,_,_=>by omega
 | n,k+1,l,hk,hl,hc=>by
  show Tot (eC k (d9 k) l) _
  unfold eC
  have hlen:=pg l
  refine .bind (P:=λr=>r=(cts l:Int)) (.iter (λs=>0<=s.2/\s.2<=(l.length:Int)/\s.1=(cts (l.take s.2.toNat):Int)) (λs=>((l.length:Int)-s.2).toNat) ⟨by simp,by simp,by simp [cts]⟩ λs hs=>?_) λr hr=>.pure hr
  obtain ⟨c,i⟩:=s
  obtain ⟨g0,g1,g2⟩:=hs
  simp only at g0 g1 g2
  unfold jf
  refine .sel (λhlt=>?_) λhge=>.inr (show c=_ from ?_)
  ·simp only [decide_eq_true_eq] at hlt
   refine .bind (.nth g0 hlt) λx ⟨hx,hxm⟩=>.bind (.nth g0 hlt) λx' ⟨hx',_⟩=>?_
   obtain rfl:x=x':=o9 (hx.symm.trans hx')
   have h1:=vz l i.toNat x hx
   have h2:=mI l (i.toNat+1)
   have h3:=wN x
   have hb:=(hl x hxm).body
   have sub:∀ bl,(∀ y∈bl,SOk (n-1) y)->(n=0->bl=[])->cts bl<=1000000->Tot (d9 k bl) λr=>r=(cts bl:Int):=λbl hbl hn hcb=>by
    cases n with
    | zero=>rw [hn rfl,Ag (by omega)]; exact .pure rfl
    | succ n=>exact sU (by omega) hbl hcb
   refine .bind (sub x.Body hb.1 (λh=>(hb.2.2 h).1) (by omega)) λy hy=>.bind (sub x.Else hb.2.1 (λh=>(hb.2.2 h).2) (by omega)) λz hz=>.inl ?_
   subst hy hz
   rw [bf (i:=c+1) (by omega) (by omega),bf (i:=c+1+_) (by omega) (by omega),bf (by omega) (by omega),ce g0 (by omega)]
   refine ⟨⟨by simp only; omega,by simp only; omega,?_⟩,by simp only; omega⟩
   simp only
   rw [show (i+1).toNat=i.toNat+1 by omega,h1,h3,g2]; omega
  ·simp only [decide_eq_false_iff_not] at hge
   rw [g2,List.take_of_length_le (by omega)]
def tc:Nat->Int
 | 0=>60
 | n+1=>60+4*tc n
def sc:Nat->Nat
 | 0=>2
 | n+1=>3+4*sc n
theorem sV:∀ n,60<=tc n
 | 0=>by simp [tc]
 | n+1=>by have:=sV n; simp only [tc]; omega
theorem Bn:∀ n,2<=sc n
 | 0=>by simp [sc]
 | n+1=>by have:=Bn n; simp only [sc]; omega
theorem rZ (hb:By b) {k:Nat} {depth:Int} (h1:1<=depth) (h2:depth<=3) (hk:3<=k) (h0:0<=p) (hm:p<=m) (hp:m<=90000000):Dr (eM k ⟨b,p⟩ depth) (m+17) (EOk 5):=
 (xh hb (d:=2) h1 (by omega) ⟨hk,by omega⟩ h0 hm (by simp only [pc]; omega)).mono (by simp only [pc]; omega) λe h=>h.mono (by omega)
theorem Bo (hb:By b) {k:Nat} (hk:3<=k) (h0:0<=p) (hm:p<=m) (hp:m<=80000000):Dr (kt k ⟨b,p⟩) (m+19) qD:=by
 unfold kt
 refine .bind (bE hb h0 hm (by omega) (by omega) (by omega)) λv p1 hv h1 h2=>.bind (bE hb h1 h2 (by omega) (by omega) (by omega)) λx p2 hx h3 h4=>?_
 rw [bf (by omega) (by omega)]
 refine .bind (rZ hb (by omega) (by omega) hk h3 h4 (by omega)) λe p3 he h5 h6=>.pure ?_ h5 (by omega)
 rw [Expr.eta']
 exact ⟨rfl,rfl,.inl ⟨rfl,⟨hv.1,by simp only; omega⟩,rfl,he⟩⟩
theorem CE (hb:By b) {k:Nat} {nb:Int} (hn:nb<=2) (hk:3<=k) (h0:0<=p) (hm:p<=m) (hp:m<=80000000):Dr (kH k ⟨b,p⟩ nb) (m+20) qD:=by
 unfold kH
 refine .sel (λ_=>.bind (Bo hb hk h0 hm hp) λs p' hs h1 h2=>.pure (by rw [ax.eta']; exact hs) h1 (by omega)) λh=>?_
 simp only [decide_eq_false_iff_not] at h
 refine .bind (bE hb h0 hm (by omega) (by omega) (by omega)) λv p1 hv h1 h2=>.bind (bE hb h1 h2 (by omega) (by omega) (by omega)) λx p2 hx h3 h4=>.sel (λ_=>?_) λ_=>?_
 ·refine .bind (bE hb h3 h4 (by omega) (by omega) (by omega)) λy p3 hy h5 h6=>?_
  rw [bf (by omega) (by omega)]
  refine .bind (rZ hb (by omega) (by omega) hk h5 h6 (by omega)) λe p4 he h7 h8=>.pure ?_ h7 (by omega)
  rw [Expr.eta']
  exact ⟨rfl,rfl,.inr (.inl ⟨rfl,rfl,⟨hv.1,by simp only; omega⟩,he⟩)⟩
 ·refine .bind (bE hb h3 h4 (by omega) (by omega) (by omega)) λy p3 hy h5 h6=>.pure ?_ h5 (by omega)
  exact ⟨rfl,rfl,.inr (.inr (.inl ⟨rfl,⟨hy.1,by simp only; omega⟩,⟨hv.1,by simp only; omega⟩,rfl⟩))⟩
def gg (n:Nat) (c:Nat) (l:List ax):Prop:=(∀ x∈l,SOk n x)/\cts l<=c
def Ah (b:List Int) (nb:Int) (n:Nat):Prop:=∀ (k:Nat) {p m w:Int} {loops:Bool},3*n+8<=k->0<=p->p<=m->0<=w->w<=10->m+w*tc n<=50000000->Dr (ef k ⟨b,p⟩ nb n w loops) (m+w*tc n) (gg n (w.toNat*sc n))
theorem Ah.two {nb:Int} {n:Nat} (h:Ah b nb n) (k:Nat) {w:Int} {loops:Bool} (hk:3*n+8<=k) (h0:0<=p) (hm:p<=m) (w0:0<=w) (w2:w<=2) (hb:m+2*tc n<=50000000):Dr (ef k ⟨b,p⟩ nb n w loops) (m+2*tc n) (gg n (2*sc n)):=by
 have h1:w*tc n<=2*tc n:=Int.mul_le_mul_of_nonneg_right w2 (by have:=sV n; omega)
 have h2:w.toNat*sc n<=2*sc n:=Nat.mul_le_mul_right _ (by omega)
 exact (h k hk h0 hm w0 (by omega) (by omega)).mono (by omega) λl hl=>⟨hl.1,Nat.le_trans hl.2 h2⟩
theorem ph {n:Nat} {s:ax} (h:qD s):gg n (sc n) [s]/\[s].length<=2:=by
 have h1:ct s=1:=by rw [wN,h.1,h.2.1]; rfl
 have h2:=Bn n
 refine ⟨⟨λx hx=>?_,by simp only [cts,h1]; omega⟩,by simp⟩
 rw [List.mem_singleton.1 hx]
 exact .of_simp h n
theorem CF (hb:By b) {nb:Int} (hnb:nb<=2) {n k:Nat} (hk:3*n+7<=k) (ih:∀ e,n=e+1->Ah b nb e) {loops:Bool} (h0:0<=p) (hm:p<=m) (hn:n<=3) (hp:m+tc n<=50000000):Dr (ji k ⟨b,p⟩ nb n loops) (m+tc n) (λl=>gg n (sc n) l/\l.length<=2):=by
 obtain ⟨k,rfl⟩:∃ j,k=j+1:=⟨k-1,by omega⟩
 show Dr (iQ k (ef k) (ji k) (nj k) (kJ k) ⟨b,p⟩ nb n loops) _ _
 have htc:=sV n
 unfold iQ
 refine .tot (P:=λz=>match z with | .inl q=>0<=q/\q<=m+1 | .inr r=>0<=r.2/\r.2<=m+tc n/\gg n (sc n) r.1/\r.1.length<=2) ?_ λz hz=>?_
 ·refine .bind (bE hb h0 hm (by omega) (by omega) (by omega)) λy hy=>.bind (P:=λ_=>True) (.sel (λ_=>.pure trivial) λ_=>.pure trivial) λ_ _=>.sel (λ_=>.bind (Bo hb (by omega) hy.1 hy.2.1 (by omega)) λr hr=>.inr ⟨hr.1,by have:=hr.2.1; simp only; omega,?_⟩) λ_=>.sel (λ_=>.sel (λhpos=>?_) λ_=>.inl ⟨hy.1,hy.2.1⟩) λ_=>.sel (λ_=>.sel (λhpos=>?_) λ_=>.inl ⟨hy.1,hy.2.1⟩) λ_ =>
   .bind (P:=λ_=>True) (.sel (λ_=>.pure trivial) λ_=>.sel (λ_=>.pure trivial) λ_=>.pure trivial) λ_ _=>.sel (λ_=>.bind (CE hb hnb (by omega) hy.1 hy.2.1 (by omega)) λr hr=>.inr ⟨hr.1,by have:=hr.2.1; simp only; omega,?_⟩) λ_=>.sel (λ_=>.inr ⟨hy.1,by have:=hy.2.1; simp only; omega,?_⟩) λ_=>.inl ⟨hy.1,hy.2.1⟩
  ·rw [ax.eta']; exact ph hr.2.2
  ·-- an if
   simp only [decide_eq_true_eq] at hpos
   obtain ⟨n,rfl⟩:∃ e,n=e+1:=⟨n-1,by omega⟩
   have hB:=ih n rfl
   have ht:=sV n
   obtain ⟨k,rfl⟩:∃ j,k=j+1:=⟨k-1,by omega⟩
   simp only [tc] at htc hp ⊢
   refine .bind (P:=λr=>0<=r.2/\r.2<=m+(60+4*tc n)/\SOk (n+1) r.1/\ct r.1<=1+4*sc n) ?_ λr hr=>.inr ⟨hr.1,hr.2.1,⟨λx hx=>?_,?_⟩,by simp⟩
   ·show Tot (kI k (ef k) (ji k) (nj k) (kJ k) ⟨b,y.2⟩ nb ((n+1:Nat):Int) loops) _
    unfold kI
    rw [bf (i:=((n+1:Nat):Int)-1) (by omega) (by omega),show ((n+1:Nat):Int)-1=n by omega]
    refine .bind (bE hb hy.1 hy.2.1 (by omega) (by omega) (by omega)) λy1 h1=>?_
    rw [bf (i:=1+y1.1) (by have:=h1.2.2; omega) (by have:=h1.2.2; omega)]
    refine .bind (rZ hb (by have:=h1.2.2; omega) (by have:=h1.2.2; omega) (by omega) h1.1 h1.2.1 (by omega)) λy2 h2=>.bind (bE hb h2.1 h2.2.1 (by omega) (by omega) (by omega)) λy3 h3=>.bind (hB.two k (by omega) h3.1 h3.2.1 h3.2.2.1 (by have:=h3.2.2.2; omega) (by omega)) λy4 h4=>.bind (bE hb h4.1 h4.2.1 (by omega) (by omega) (by omega)) λy5 h5=>.bind (hB.two k (by omega) h5.1 h5.2.1 h5.2.2.1 (by have:=h5.2.2.2; omega) (by omega)) λy6 h6=>.pure ⟨h6.1,by have:=h6.2.1; simp only; omega,?_,?_⟩
    ·rw [Expr.eta']
     exact .inr ⟨.inl rfl,rfl,rfl,h2.2.2,h4.2.2.1,h6.2.2.1⟩
    ·rw [wN]; have:=h4.2.2.2; have:=h6.2.2.2; simp only; omega
   ·rw [List.mem_singleton.1 hx,ax.eta']; exact hr.2.2.1
   ·simp only [cts,ax.eta',sc]; have:=hr.2.2.2; omega
  ·-- a loop
   simp only [Bool.and_eq_true,decide_eq_true_eq] at hpos
   obtain ⟨n,rfl⟩:∃ e,n=e+1:=⟨n-1,by omega⟩
   have hB:=ih n rfl
   have ht:=sV n
   obtain ⟨k,rfl⟩:∃ j,k=j+1:=⟨k-1,by omega⟩
   simp only [tc] at htc hp ⊢
   refine .bind (P:=λr=>0<=r.2/\r.2<=m+(60+4*tc n)/\gg (n+1) (sc (n+1)) r.1/\r.1.length<=2) ?_ λr hr=>.inr hr
   show Tot (iR k (ef k) (ji k) (nj k) (kJ k) ⟨b,y.2⟩ nb ((n+1:Nat):Int)) _
   unfold iR
   rw [bf (i:=((n+1:Nat):Int)-1) (by omega) (by omega),show ((n+1:Nat):Int)-1=n by omega]
   refine .bind (bE hb hy.1 hy.2.1 (by omega) (by omega) (by omega)) λy1 h1=>.bind (hB.two k (by omega) h1.1 h1.2.1 h1.2.2.1 (by have:=h1.2.2.2; omega) (by omega)) λy2 h2=>?_
   simp only [ek,kr,ob9]
   refine .bind (bE hb h2.1 h2.2.1 (by omega) (by omega) (by omega)) λy7 h7=>?_
   rw [bf (i:=1+y7.1) (by have:=h7.2.2; omega) (by have:=h7.2.2; omega)]
   have hlen:=pg y2.1
   have hct:=h2.2.2.2
   have hsc:sc n<=10000:=by
    rcases (show n=0\/n=1\/n=2 by omega) with rfl | rfl | rfl <;> decide
   refine .bind (.app (by simp only [List.length_cons,List.length_nil]; omega)) λr hr=>.pure ⟨h7.1,by have:=h7.2.1; simp only; omega,?_⟩
   subst hr
   have e13:EOk 4 ⟨13,3,[]⟩:=.inr (.inl ⟨rfl,by simp,by simp,rfl⟩)
   have e0:∀ v,0<=v->v<=99999->EOk 4 ⟨0,v,[]⟩:=λv h1 h2=>.inl ⟨rfl,h1,h2,rfl⟩
   have s1:qD (ax.mk 1 3 0 (Expr.mk 8 0 [⟨13,3,[]⟩,⟨0,1,[]⟩]) [] []):=⟨rfl,rfl,.inl ⟨rfl,⟨by simp,by simp⟩,rfl,.inr (.inr ⟨⟨by simp,by simp⟩,rfl,_,_,rfl,e13,e0 1 (by omega) (by omega)⟩)⟩⟩
   have s2:qD (ax.mk 1 3 0 (Expr.mk 0 0 []) [] []):=⟨rfl,rfl,.inl ⟨rfl,⟨by simp,by simp⟩,rfl,(e0 0 (by omega) (by omega)).mono (by omega)⟩⟩
   have h77:0<=y7.1/\y7.1<3:=h7.2.2
   refine ⟨⟨λx hx=>?_,?_⟩,by simp⟩
   ·simp only [List.mem_cons,List.not_mem_nil,or_false] at hx
    rcases hx with rfl | rfl
    ·exact .of_simp s2 _
    ·refine .inr ⟨.inr ⟨rfl,rfl⟩,rfl,rfl,.inr (.inr ⟨⟨by simp,by simp⟩,rfl,_,_,rfl,e13,e0 (1+y7.1) (by omega) (by omega)⟩),λx hx=>?_,by simp⟩
     simp only [List.mem_append,List.mem_singleton] at hx
     rcases hx with hx | rfl
     ·exact h2.2.2.1 x hx
     ·exact .of_simp s1 _
   ·simp only [cts,ct,xi,sc]; omega
  ·rw [ax.eta']; exact ph hr.2.2
  ·exact ph ⟨rfl,rfl,.inr (.inr (.inr (.inl ⟨rfl,rfl,rfl,rfl⟩)))⟩
 ·refine .both (λq e=>?_) λr e=>?_
  ·subst e
   obtain ⟨g0,g1⟩:0<=q/\q<=m+1:=hz
   refine .bind (bE hb g0 g1 (by omega) (by omega) (by omega)) λx p2 hx h3 h4=>?_
   dsimp only
   rw [bf (i:=1+x) (by omega) (by omega)]
   refine .bind (rZ hb (depth:=1+x) (by omega) (by omega) (by omega) h3 h4 (by omega)) λe p3 he h5 h6=>.pure ?_ h5 (by omega)
   rw [Expr.eta']
   exact ph ⟨rfl,rfl,.inr (.inr (.inr (.inr ⟨rfl,rfl,rfl,he⟩)))⟩
  ·subst e; obtain ⟨r1,r2⟩:=r; exact .pure hz.2.2 hz.1 hz.2.1
theorem Bp (hb:By b) {nb:Int} (hnb:nb<=2):∀ n,n<=3->Ah b nb n:=by
 intro n
 induction n with
 | zero=>intro _; exact blk 0 (by omega) λe h=>by omega
 | succ n ih=>intro hn; exact blk (n+1) hn λe h=>(by omega:e=n)▸ih (by omega)
where
 blk (n:Nat) (hn:n<=3) (ih:∀ e,n=e+1->Ah b nb e):Ah b nb n:=by
  intro k p m w loops hk h0 hm w0 w10 hp
  obtain ⟨k,rfl⟩:∃ j,k=j+1:=⟨k-1,by omega⟩
  show Dr (gX k (ef k) (ji k) (nj k) (kJ k) ⟨b,p⟩ nb n w loops) _ _
  unfold gX
  have htc:=sV n
  have hsc:sc n<=10000:=by
   rcases (show n=0\/n=1\/n=2\/n=3 by omega) with rfl | rfl | rfl | rfl <;> decide
  refine .tot (P:=λr=>0<=r.2/\r.2<=m+w*tc n/\gg n (w.toNat*sc n) r.1) (.iter (λs=>0<=s.2.1/\s.2.1<=w/\0<=s.2.2/\s.2.2<=m+s.2.1*tc n/\gg n (s.2.1.toNat*sc n) s.1) (λs=>(w-s.2.1).toNat) ⟨by simp,by simpa using w0,h0,by simp only; omega,by simp [gg,cts]⟩ λs hs=>?_) λr hr=>.pure hr.2.2 hr.1 hr.2.1
  obtain ⟨l,i,q⟩:=s
  obtain ⟨g0,g1,g2,g3,g4⟩:=hs
  simp only at g0 g1 g2 g3 g4
  unfold lL
  refine .sel (λhlt=>?_) λhge=>.inr (show 0<=q/\q<=m+w*tc n/\gg n (w.toNat*sc n) l from ?_)
  ·simp only [decide_eq_true_eq] at hlt
   have e1:(i+1)*tc n=i*tc n+tc n:=by rw [Int.add_mul,Int.one_mul]
   have e2:(i+1)*tc n<=w*tc n:=Int.mul_le_mul_of_nonneg_right (by omega) (by omega)
   refine .bind (CF hb hnb (by omega) ih g2 g3 hn (by omega)) λy hy=>?_
   have hll:=pg l
   have hil:i.toNat*sc n<=10*sc n:=Nat.mul_le_mul_right _ (by omega)
   have hb4:=g4.2
   have hy22:gg n (sc n) y.1/\y.1.length<=2:=hy.2.2
   refine .bind (.app (l:=l) (by have:=hy22.2; omega)) λr hr=>.inl ?_
   subst hr
   rw [ce g0 (by omega)]
   refine ⟨⟨by simp only; omega,by simp only; omega,hy.1,by have:=hy.2.1; simp only; omega,λx hx=>?_,?_⟩,by simp only; omega⟩
   ·simp only [List.mem_append] at hx
    exact hx.elim (g4.1 x) (hy.2.2.1.1 x)
   ·simp only
    rw [xi,show (i+1).toNat=i.toNat+1 by omega,Nat.add_mul,Nat.one_mul]
    have:=hy.2.2.1.2
    omega
  ·simp only [decide_eq_false_iff_not] at hge
   obtain rfl:i=w:=by omega
   exact ⟨g2,g3,g4⟩
theorem Bq (hb:By b) {nb:Int} (hnb:nb<=2) {k:Nat} (hk:20<=k) (h0:0<=p) (hm:p<=m) (hp:m<=1000000):Dr (jH k ⟨b,p⟩ nb) (m+40000) (gg 3 16):=by
 unfold jH
 refine .bind (bE hb h0 hm (by omega) (by omega) (by omega)) λv p1 hv h1 h2=>?_
 dsimp only
 rw [bf (by omega) (by omega)]
 have e1:(1+v)*tc 3<=6*tc 3:=Int.mul_le_mul_of_nonneg_right (by omega) (by decide)
 have e2:(6:Int)*tc 3=30600:=by decide
 have e5:m+1+(1+v)*tc 3<=50000000:=by omega
 refine .bind (Bp hb hnb 3 (by omega) k (by omega) h1 h2 (by omega) (by omega) e5) λl p2 hl h3 h4=>?_
 have e3:(1+v).toNat*sc 3<=6*sc 3:=Nat.mul_le_mul_right _ (by omega)
 have e4:6*sc 3=1146:=by decide
 dsimp only
 have hl2:=hl.2
 refine .tot (P:=gg 3 16) (.iter (λs=>gg 3 1146 s) List.length ⟨hl.1,by omega⟩ λs hs=>?_) λr hr=>.pure hr h3 (by omega)
 unfold lM
 refine .bind (sU (n:=3) (by omega) hs.1 (by have:=hs.2; omega)) λc hc=>.sel (λh=>?_) λh=>.inr ?_
 ·simp only [decide_eq_true_eq] at h
  have hne:1<=s.length:=by
   rcases Nat.eq_zero_or_pos s.length with h0 | h0
   ·have:s=[]:=List.eq_nil_of_length_eq_zero h0
    subst this; simp [cts] at hc; omega
   ·exact h0
  have hlen:=pg s
  have h1146:=hs.2
  rw [bf (by omega) (by omega)]
  refine .bind (.cut (by omega)) λr hr=>.inl ?_
  subst hr
  simp only [Int.toNat_zero,List.drop_zero]
  exact ⟨⟨λx hx=>hs.1 x (List.mem_of_mem_take hx),Nat.le_trans (mI _ _) hs.2⟩,by rw [List.length_take]; omega⟩
 ·simp only [decide_eq_false_iff_not] at h
  exact ⟨hs.1,by omega⟩
end
noncomputable section
variable {b:List Int} {p m:Int}
theorem yP:∀ {l:List ax} {x:ax},x∈l->ct x<=cts l
 | [],_,h=>by simp at h
 | y::l,x,h=>by
  simp only [cts]
  rcases List.mem_cons.1 h with rfl | h
  ·omega
  ·have:=yP h; omega
theorem Br (s:ax) (u:Bool):fJ s u=some (if u then decide (0<=s.Var)&&decide (s.Var<=3) else s.Var==0):=by cases u <;> rfl
theorem Bt (s:ax) (u:Bool):fK s u=some (if u then decide (0<=s.Box)&&decide (s.Box<=2) else s.Box==0):=by cases u <;> rfl
theorem Ai {k:Nat} (hk:5<=k) {s:ax} (h:qD s):gj k s=some true:=by
 obtain ⟨h1,h2,h3⟩:=h
 unfold gj
 simp only [ax.eta',Expr.eta',Br,Bt,h1,h2]
 rw [ak (by simp)]
 rcases h3 with ⟨a1,a2,a3,a4⟩ | ⟨a1,a2,a3,a4⟩ | ⟨a1,a2,a3,a4⟩ | ⟨a1,a2,a3,a4⟩ | ⟨a1,a2,a3,a4⟩
 ·rw [bM (by simp [a1])]; simp [a2.1,a2.2,a3,m6 a4 hk,sel]
 ·rw [ak (by simp [a1]),bM (by simp [a1])]; simp [a2,a3.1,show s.Box<=2 by omega,m6 a4 hk,sel]
 ·rw [ak (by simp [a1]),ak (by simp [a1]),bM (by simp [a1])]; simp [a2.1,a2.2,a3.1,show s.Box<=2 by omega,a4,ia,sel]
 ·rw [ak (by simp [a1]),ak (by simp [a1]),ak (by simp [a1]),bM (by simp [a1])]; simp [a2,a3,a4,ia,sel]
 ·rw [ak (by simp [a1]),ak (by simp [a1]),ak (by simp [a1]),ak (by simp [a1]),bM (by simp [a1])]; simp [a2,a3,m6 a4 hk,sel]
theorem qD.kind {s:ax} (h:qD s):s.Kind≠2/\s.Kind≠3:=by
 obtain ⟨_,_,h⟩:=h
 rcases h with h | h | h | h | h <;> (have:=h.1; omega)
theorem Aj:∀ (n:Nat) {k:Nat} {l:List ax},2*n+8<=k->n<=3->(∀ x∈l,SOk n x)->cts l<=1000000->dB k l n=some true:=by
 intro n
 induction n with
 | zero=>exact λhk hn hl hc=>key 0 (λh=>by omega) hk hn hl hc
 | succ n ih=>exact λhk hn hl hc=>key (n+1) (λ_ {k l} h1 h2 h3=>by have:=ih (k:=k) (l:=l) h1 (by omega) h2 h3; simpa using this) hk hn hl hc
where
 key (n:Nat) (ih:1<=n->∀ {k:Nat} {l:List ax},2*(n-1)+8<=k->(∀ x∈l,SOk (n-1) x)->cts l<=1000000->dB k l ((n-1:Nat):Int)=some true) {k:Nat} {l:List ax} (hk:2*n+8<=k) (hn:n<=3) (hl:∀ x∈l,SOk n x) (hc:cts l<=1000000):dB k l n=some true:=by
  obtain ⟨k,rfl⟩:∃ j,k=j+2:=⟨k-2,by omega⟩
  refine Tot.eq ?_
  show Tot (gk (k+1) (dB (k+1)) (rl (k+1)) l n) _
  unfold gk
  have hlen:=pg l
  refine .bind (P:=λz=>z=.inr ()) (.iter (λi:Int=>0<=i/\i<=l.length) (λi=>(l.length-i).toNat) ⟨by omega,by omega⟩ λi ⟨g0,g1⟩=>?_) λz hz=>by subst hz; exact .pure rfl
  unfold kE
  refine .sel (λh=>?_) λ_=>.inr rfl
  simp only [decide_eq_true_eq] at h
  refine .bind (.nth g0 h) λx ⟨_,hm⟩=>?_
  rw [ax.eta']
  refine .bind (P:=λy=>y=true) ?_ λy hy=>.sf (by rw [hy]; rfl) (.inl ?_)
  ·have hx:=hl x hm
   have hcx:=yP hm
   have hce:=wN x
   show Tot (kF k (dB k) (rl k) x n) _
   unfold kF
   simp only [ax.eta',Expr.eta',Br,Bt]
   have simp_case:qD x->Tot (sel (x.Kind !=2&&x.Kind !=3) ((gj k x).bind λy1=>some y1) (sel (decide ((n:Int)<1)||(x.Kind==3&&decide ((x.Else.length:Int)>0))) (some false) ((some (if false=true then decide (0<=x.Var)&&decide (x.Var<=3) else x.Var==0)).bind λy2=>(sel y2 ((some (if false=true then decide (0<=x.Box)&&decide (x.Box<=2) else x.Box==0)).bind λy3=>some y3) (some false)).bind λb1=>(sel b1 ((dR k x.Expr).bind λy4=>some y4) (some false)).bind λb2=>(sel b2 ((dB k x.Body (w64 ((n:Int)-1))).bind λy5=>some y5) (some false)).bind λb3=>(sel b3 ((dB k x.Else (w64 ((n:Int)-1))).bind λy6=>some y6) (some false)).bind λb4=>some b4))) (λy=>y=true):=λhs=>by
    refine .st (by have:=hs.kind; simp [this.1,this.2]) ?_
    rw [Ai (by omega) hs]; exact .pure rfl
   cases n with
   | zero=>exact simp_case hx
   | succ n =>
    rcases hx with hx | ⟨hkd,hv,hb,he,hbd,hel⟩
    ·exact simp_case hx
    ·refine .sf (by rcases hkd with h | h <;> simp [h]) (.sf (by rcases hkd with h | h <;> simp [h] <;> omega) ?_)
     rw [bf (by omega) (by omega),show ((n+1:Nat):Int)-1=((n+1-1:Nat):Int) by omega]
     have i1:=ih (by omega) (k:=k) (l:=x.Body) (by omega) hbd (by omega)
     have i2:=ih (by omega) (k:=k) (l:=x.Else) (by omega) hel (by omega)
     simp only [i1,i2,m6 he (show 5<=k by omega),hv,hb]
     exact .pure rfl
  ·rw [ce g0 (by omega)]
   exact ⟨⟨by omega,by omega⟩,by omega⟩
theorem wq {k:Nat} (hk:20<=k) {l:List ax} (h:gg 3 16 l):gV k l=some true:=by
 unfold gV
 have h2:=h.2
 have h1:=Aj 3 (k:=k) (by omega) (by omega) h.1 (by omega)
 rw [show ((3:Nat):Int)=3 from rfl] at h1
 rw [h1,ob9,bM rfl,(sU (n:=3) (k:=k) (by omega) h.1 (by omega)).eq]
 simp; omega
def Cq (hi:Int) (out:List ah):Prop:=∀ q∈out,QOk (hi+1) q
theorem Cq.mono {hi hi':Int} {out:List ah} (h:Cq hi out) (hh:hi<=hi'):Cq hi' out:=λq hq=>(h q hq).mono (by omega)
theorem Cq.app {hi:Int} {out out':List ah} (h:Cq hi out) (h':Cq hi out'):Cq hi (out++out'):=λq hq=>(List.mem_append.1 hq).elim (h q) (h' q)
theorem Cq.one {hi:Int} {q:ah} (h:QOk (hi+1) q):Cq hi [q]:=λq' hq=>by rw [List.mem_singleton.1 hq]; exact h
theorem yQ {k:Nat} {e:Expr} (h:EOk 5 e) (hk:5<=k):Tot (ee k e 4) λout=>out.length<=31/\1<=out.length/\∀ hi,Cq hi out:=
 (qw h (by omega) (by omega) hk).mono λout ho=>⟨by have:=ho.1; omega,ho.2.1,λhi q hq=>ho.2.2 q hq _⟩
theorem DN {k:Nat} (hk:1<=k):Tot (ee k ⟨0,0,[]⟩ 4) λout=>out.length<=31/\1<=out.length/\∀ hi,Cq hi out:=
 (qw (d:=1) (.inl ⟨rfl,by simp,by simp,rfl⟩) (by omega) (by omega) hk).mono λout ho=>⟨by have:=ho.1; omega,ho.2.1,λhi q hq=>ho.2.2 q hq _⟩
def xj (base:Int) (c:Nat) (out:List ah):Prop:=out.length<=33*c/\Cq (base+out.length) out
def zH (n:Nat):Prop:=∀ {k:Nat} {l:List ax} {base:Int},3*n+8<=k->(∀ x∈l,SOk n x)->0<=base->base+33*cts l<=100000->Tot (fM k l base) (xj base (cts l))
theorem Ak {n k : Nat} (ih : ∀ e, n = e + 1 → zH e) {x : ax} (hx : SOk n x) {base : Int} (hk : 3 * n + 7 ≤ k) (h0 : 0 ≤ base) (h1 : base + 33 * ct x ≤ 100000) : Tot (jg k x base) (xj base (ct x)) := by
  obtain ⟨k, rfl⟩ : ∃ j, k = j + 1 := ⟨k - 1, by omega⟩
  show Tot (iM k (fM k) (jg k) (ni k) (jG k) x base) _
  have hce := wN x
  have r4 : Rg 4 := by unfold Rg; omega
  have hexp : EOk 5 x.Expr ∨ x.Expr = ⟨0, 0, []⟩ := by
    have hs : qD x → EOk 5 x.Expr ∨ x.Expr = ⟨0, 0, []⟩ := fun h => by
      rcases h.2.2 with h | h | h | h | h
      · exact .inl h.2.2.2
      · exact .inl h.2.2.2
      · exact .inr h.2.2.2
      · exact .inr h.2.2.2
      · exact .inl h.2.2.2
    cases n with
    | zero => exact hs hx
    | succ n => rcases hx with h | h
                · exact hs h
                · exact .inl h.2.2.2.1
  have he : ∀ {k}, 5 ≤ k → Tot (ee k x.Expr 4) fun out => out.length ≤ 31 ∧ 1 ≤ out.length ∧ ∀ hi, Cq hi out := fun hk => hexp.elim (fun h => yQ h hk) fun h => by rw [h]; exact DN (by omega)
  unfold iM
  simp only [ax.eta', Expr.eta']
  refine .bind (he (by omega)) fun ex hex => .sel (fun hkd => ?_) fun h2 => .sel (fun hkd => ?_) fun h3 => ?_
  · -- an if
    simp only [beq_iff_eq] at hkd
    have hns : ¬ qD x := fun h => h.kind.1 hkd
    obtain ⟨n, rfl⟩ : ∃ e, n = e + 1 := ⟨n - 1, by cases n with | zero => exact absurd hx hns | succ n => omega⟩
    obtain ⟨_, _, _, hee, hbd, hel⟩ := hx.resolve_left hns
    obtain ⟨k, rfl⟩ : ∃ j, k = j + 1 := ⟨k - 1, by omega⟩
    refine .bind (P := xj base (ct x)) ?_ fun r hr => .pure hr
    show Tot (kG k (fM k) (jg k) (ni k) (jG k) x base) _
    unfold kG
    simp only [Expr.eta']
    refine .bind (yQ hee (by omega)) fun e he => ?_
    rw [bf (i := base + e.length) (by omega) (by omega), bf (i := base + e.length + 1) (by omega) (by omega)]
    refine .bind (ih n rfl (k := k) (by omega) hbd (by omega) (by omega)) fun bd ⟨hb1, hb2⟩ => ?_
    rw [bf (i := base + e.length + 1 + bd.length) (by omega) (by omega)]
    refine .sel (fun h => ?_) fun h => ?_
    · refine .bind (.app (by simp; omega)) fun r hr => .bind (.app (by subst hr; simp; omega)) fun r2 hr2 => .pure ?_
      subst hr hr2
      refine ⟨by simp; omega, ((he.2.2 _).app (.one ?_)).app (hb2.mono (by simp; omega))⟩
      exact .inr (.inr (.inr (.inr (.inl ⟨rfl, rfl, r4, rfl, by simp only; omega, by simp; omega⟩))))
    · rw [bf (i := base + e.length + 1 + bd.length + 1) (by omega) (by omega)]
      refine .bind (ih n rfl (k := k) (by omega) hel (by omega) (by omega)) fun el ⟨he1, he2⟩ => .bind (.app (by simp; omega)) fun r hr => .bind (.app (by subst hr; simp; omega)) fun r2 hr2 => .bind (.app (by subst hr hr2; simp; omega)) fun r3 hr3 => .bind (.app (by subst hr hr2 hr3; simp; omega)) fun r4' hr4 => .pure ?_
      subst hr hr2 hr3 hr4
      rw [bf (i := base + e.length + 1 + bd.length + 1 + el.length) (by omega) (by omega)]
      refine ⟨by simp; omega, ((((he.2.2 _).app (.one ?_)).app (hb2.mono (by simp; omega))).app (.one ?_)).app (he2.mono (by simp; omega))⟩
      · exact .inr (.inr (.inr (.inr (.inl ⟨rfl, rfl, r4, rfl, by simp only; omega, by simp; omega⟩))))
      · exact .inr (.inr (.inr (.inl ⟨rfl, rfl, rfl, rfl, by simp only; omega, by simp; omega⟩)))
  · -- a while
    simp only [beq_iff_eq] at hkd
    have hns : ¬ qD x := fun h => h.kind.2 hkd
    obtain ⟨n, rfl⟩ : ∃ e, n = e + 1 := ⟨n - 1, by cases n with | zero => exact absurd hx hns | succ n => omega⟩
    obtain ⟨_, _, _, hee, hbd, hel⟩ := hx.resolve_left hns
    obtain ⟨k, rfl⟩ : ∃ j, k = j + 1 := ⟨k - 1, by omega⟩
    refine .bind (P := xj base (ct x)) ?_ fun r hr => .pure hr
    show Tot (gW k (fM k) (jg k) (ni k) (jG k) x base) _
    unfold gW
    simp only [Expr.eta']
    refine .bind (yQ hee (by omega)) fun e he => ?_
    rw [bf (i := base + e.length) (by omega) (by omega), bf (i := base + e.length + 1) (by omega) (by omega)]
    refine .bind (ih n rfl (k := k) (by omega) hbd (by omega) (by omega)) fun bd ⟨hb1, hb2⟩ => ?_
    rw [bf (i := base + e.length + 1 + bd.length) (by omega) (by omega), bf (i := base + e.length + 1 + bd.length + 1) (by omega) (by omega)]
    refine .bind (.app (by simp; omega)) fun r hr => .bind (.app (by subst hr; simp; omega)) fun r2 hr2 => .bind (.app (by subst hr hr2; simp; omega)) fun r3 hr3 => .pure ?_
    subst hr hr2 hr3
    refine ⟨by simp; omega, (((he.2.2 _).app (.one ?_)).app (hb2.mono (by simp; omega))).app (.one ?_)⟩
    · exact .inr (.inr (.inr (.inr (.inl ⟨rfl, rfl, r4, rfl, by simp only; omega, by simp; omega⟩))))
    · exact .inr (.inr (.inr (.inl ⟨rfl, rfl, rfl, rfl, h0, by simp; omega⟩)))
  · have hs : qD x := by
      simp only [beq_eq_false_iff_ne, ne_eq] at h2 h3
      cases n with
      | zero => exact hx
      | succ n => rcases hx with h | h
                  · exact h
                  · exact absurd h.1 (by omega)
    obtain ⟨s1, s2, s3⟩ := hs
    have h33 : 33 ≤ 33 * ct x := by have := Bm x; omega
    have rg : ∀ {v : Int}, 0 ≤ v ∧ v ≤ 3 → Rg v := fun h => by unfold Rg; omega
    have ap : ∀ q : ah, (∀ hi, 0 ≤ hi → QOk (hi + 1) q) → Tot ((X.app 40 ex [q]).bind fun r => some r) (xj base (ct x)) := fun q hq => .bind (.app (by simp; omega)) fun r hr => .pure (by
      subst hr
      exact ⟨by simp; omega, (hex.2.2 _).app (.one (hq _ (by omega)))⟩)
    refine .sel (fun h => ap _ fun hi hh => ?_) fun n1 => .sel (fun h => ap _ fun hi hh => ?_) fun n4 => .sel (fun h => ap _ fun hi hh => ?_) fun n7 => .sel (fun h => .pure ⟨by simp; omega, .one ?_⟩) fun n5 => .pure ⟨by simp; omega, .one ?_⟩
    all_goals try simp only [beq_iff_eq] at h
    · simp [h] at s3
      exact .inr (.inl ⟨rfl, rg s3.1, r4, rfl, rfl⟩)
    · simp [h] at s3
      exact .inr (.inr (.inr (.inr (.inr (.inl ⟨rfl, rfl, r4, rfl, s3.2.1.1, s3.2.1.2⟩)))))
    · exact .inr (.inr (.inr (.inr (.inr (.inr (.inr (.inl ⟨rfl, rfl, r4, rfl, rfl⟩)))))))
    · simp [h] at s3
      exact .inr (.inr (.inr (.inr (.inr (.inr (.inl ⟨rfl, rg s3.1, rfl, rfl, s3.2.1.1, s3.2.1.2⟩))))))
    · exact .inr (.inr (.inr (.inr (.inr (.inr (.inr (.inr ⟨.inl rfl, rfl, rfl, rfl, rfl⟩)))))))
theorem Al:∀ n,zH n:=by
 intro n
 induction n with
 | zero=>exact key 0 λe h=>by omega
 | succ n ih=>exact key (n+1) λe h=>(by omega:n=e)▸ih
where
 key (n:Nat) (ih:∀ e,n=e+1->zH e):zH n:=by
  intro k l base hk hl h0 h1
  obtain ⟨k,rfl⟩:∃ j,k=j+1:=⟨k-1,by omega⟩
  show Tot (iL k (fM k) (jg k) (ni k) (jG k) l base) _
  unfold iL
  have hlen:=pg l
  refine .bind (P:=xj base (cts l)) (.iter (λs=>0<=s.2/\s.2<=(l.length:Int)/\xj base (cts (l.take s.2.toNat)) s.1) (λs=>((l.length:Int)-s.2).toNat) ⟨by simp,by simp,by simp [xj,Cq]⟩ λs hs=>?_) λr hr=>.pure hr
  obtain ⟨out,i⟩:=s
  obtain ⟨g0,g1,g2,g3⟩:=hs
  simp only at g0 g1 g2 g3
  have hle:=mI l i.toNat
  unfold mL
  refine .sel (λh=>?_) λh=>.inr (show xj base (cts l) out from ?_)
  ·simp only [decide_eq_true_eq] at h
   refine .bind (.nth g0 h) λx ⟨hx,hm⟩=>?_
   have h1:=vz l i.toNat x hx
   have h2:=mI l (i.toNat+1)
   have h3:=yP hm
   dsimp only
   rw [ax.eta',bf (by omega) (by omega)]
   refine .bind (Ak ih (hl x hm) (by omega) (by omega) (by omega)) λy ⟨hy1,hy2⟩=>.bind (.app (l:=out) (by omega)) λr hr=>.inl ?_
   subst hr
   rw [ce g0 (by omega)]
   refine ⟨⟨by simp only; omega,by simp only; omega,?_⟩,by simp only; omega⟩
   simp only
   rw [show (i+1).toNat=i.toNat+1 by omega,h1]
   exact ⟨by simp; omega,(g3.mono (by simp; omega)).app (hy2.mono (by simp; omega))⟩
  ·simp only [decide_eq_false_iff_not] at h
   rw [List.take_of_length_le (by omega)] at g2
   exact ⟨g2,g3⟩
theorem ya {k:Nat} (hk:20<=k) {l:List ax} (h:gg 3 16 l):Tot (gl k l) λr=>r.2=true/\COk r.1:=by
 unfold gl
 rw [wq hk h,ob9]
 have h2:=h.2
 refine .sf rfl (.bind (Al 3 (k:=k) (by omega) h.1 (by omega) (by omega)) λout ⟨h1,h2'⟩=>.bind (.app (by simp; omega)) λr hr=>.pure ⟨rfl,?_⟩)
 subst hr
 refine ⟨by simp,by simp; omega,λq hq=>?_,⟨_,List.getLast?_concat,.inl rfl⟩⟩
 simp only [List.mem_append,List.mem_singleton] at hq
 rcases hq with hq | rfl
 ·exact (h2' q hq).mono (by simp)
 ·exact .inr (.inr (.inr (.inr (.inr (.inr (.inr (.inr ⟨.inr rfl,rfl,rfl,rfl,rfl⟩)))))))
theorem CG (hb:By b) (h0:0<=p) (hm:p<=m) (hp:m<=100000000):Dr (kB ⟨b,p⟩) (m+5) Wd:=by
 unfold kB
 have wd:∀ {v:Int},-1000<=v->v<=1000->Wd v:=λh1 h2=>by unfold Wd; omega
 refine .bind (bE hb h0 hm (by omega) (by omega) (by omega)) λx p1 hx h1 h2=>.sel (λ_=>?_) λ_=>.sel (λ_=>?_) λ_=>.sel (λ_=>?_) λ_=>?_
 ·refine .bind (bE hb h1 h2 (by omega) (by omega) (by omega)) λy p2 hy h3 h4=>.tot (.nth hy.1 (by simpa using hy.2)) λz ⟨_,hz⟩=>.pure ?_ h3 (by omega)
  unfold Wd
  simp at hz
  omega
 ·refine .bind (bE hb h1 h2 (by omega) (by omega) (by omega)) λy p2 hy h3 h4=>.bind (bE hb h3 h4 (by omega) (by omega) (by omega)) λy p2 hy h3 h4=>.bind (bE hb h3 h4 (by omega) (by omega) (by omega)) λy p2 hy h3 h4=>.bind (bE hb h3 h4 (by omega) (by omega) (by omega)) λy p2 hy h3 h4=>.tot (oE _) λz hz=>.pure hz h3 (by omega)
 ·refine .bind (bE hb h1 h2 (by omega) (by omega) (by omega)) λy p2 hy h3 h4=>.pure ?_ h3 (by omega)
  rw [bf (by omega) (by omega)]
  exact wd (by omega) (by omega)
 ·refine .bind (bE hb h1 h2 (by omega) (by omega) (by omega)) λy p2 hy h3 h4=>.pure (wd (by omega) (by omega)) h3 (by omega)
theorem oc (hb:By b) (h0:0<=p) (hm:p<=m) (hp:m<=100000000):Dr (dv ⟨b,p⟩) (m+1) Rg:=by
 unfold dv
 exact .bind (bE hb h0 hm (by omega) (by omega) (by omega)) λx p1 hx h1 h2=>.pure (by unfold Rg; omega) h1 h2
theorem CH (hb:By b) {many:Int} (hn:1<=many) (hn':many<=600) (h0:0<=p) (hm:p<=m) (hp:m<=90000000):Dr (kC ⟨b,p⟩ many) (m+10) (QOk many):=by
 unfold kC
 refine .bind (bE hb h0 hm (by omega) (by omega) (by omega)) λx p1 hx h1 h2=>?_
 have tt:∀ c d:Bool,Tot (sel c (some c) (some d)) λ_=>True:=λc d=>.sel (λ_=>.pure trivial) λ_=>.pure trivial
 have tt2:∀ c d e:Bool,Tot (sel c (some c) (sel d (some d) (some e))) λ_=>True:=λc d e=>.sel (λ_=>.pure trivial) λ_=>tt d e
 refine .tot (tt _ _) λ_ _=>.sel (λ_=>?_) λ_=>.tot (tt _ _) λ_ _=>.sel (λ_=>?_) λ_=>.tot (tt2 _ _ _) λ_ _=>.sel (λ_=>?_) λ_=>.sel (λ_=>?_) λ_=>.sel (λ_=>?_) λ_=>.sel (λ_=>?_) λ_=>.sel (λ_=>?_) λ_=>?_
 ·refine .bind (oc hb h1 h2 (by omega)) λd p2 hd h3 h4=>.bind (CG hb h3 h4 (by omega)) λw p3 hw h5 h6=>.bind (bE hb h5 h6 (by omega) (by omega) (by omega)) λy p4 hy h7 h8=>.tot (.nth hy.1 (by simpa using hy.2)) λz ⟨_,hz⟩=>.pure (.inl ⟨rfl,hd,rfl,rfl,?_⟩) h7 (by omega)
  simp at hz
  rcases hz with h | h | h | h <;> first | (rw [h]; exact hw) | (rw [h]; unfold Wd; simp)
 ·exact .bind (oc hb h1 h2 (by omega)) λd p2 hd h3 h4=>.bind (oc hb h3 h4 (by omega)) λa p3 ha h5 h6=>.pure (.inr (.inl ⟨rfl,hd,ha,rfl,rfl⟩)) h5 (by omega)
 ·exact .bind (oc hb h1 h2 (by omega)) λd p2 hd h3 h4=>.bind (oc hb h3 h4 (by omega)) λa p3 ha h5 h6=>.bind (oc hb h5 h6 (by omega)) λc p4 hc h7 h8=>.bind (Da hb h7 h8 (by omega)) λo p5 ho h9 h10=>.pure (.inr (.inr (.inl ⟨rfl,hd,ha,hc,ho.1,ho.2⟩))) h9 (by omega)
 ·exact .bind (bE hb h1 h2 (by omega) hn (by omega)) λy p2 hy h3 h4=>.pure (.inr (.inr (.inr (.inl ⟨rfl,rfl,rfl,rfl,hy.1,hy.2⟩)))) h3 (by omega)
 ·exact .bind (oc hb h1 h2 (by omega)) λa p2 ha h3 h4=>.bind (bE hb h3 h4 (by omega) hn (by omega)) λy p3 hy h5 h6=>.pure (.inr (.inr (.inr (.inr (.inl ⟨rfl,rfl,ha,rfl,hy.1,hy.2⟩))))) h5 (by omega)
 ·exact .bind (oc hb h1 h2 (by omega)) λa p2 ha h3 h4=>.bind (bE hb h3 h4 (by omega) (by omega) (by omega)) λy p3 hy h5 h6=>.pure (.inr (.inr (.inr (.inr (.inr (.inl ⟨rfl,rfl,ha,rfl,hy.1,by simp only; omega⟩)))))) h5 (by omega)
 ·exact .bind (oc hb h1 h2 (by omega)) λa p2 ha h3 h4=>.bind (bE hb h3 h4 (by omega) (by omega) (by omega)) λy p3 hy h5 h6=>.pure (.inr (.inr (.inr (.inr (.inr (.inr (.inl ⟨rfl,ha,rfl,rfl,hy.1,by simp only; omega⟩))))))) h5 (by omega)
 ·exact .bind (bE hb h1 h2 (by omega) (by omega) (by omega)) λy p2 hy h3 h4=>.sel (λ_=>.pure (.inr (.inr (.inr (.inr (.inr (.inr (.inr (.inr ⟨.inl rfl,rfl,rfl,rfl,rfl⟩)))))))) h3 (by omega)) λ_=>.bind (oc hb h3 h4 (by omega)) λa p3 ha h5 h6=>.pure (.inr (.inr (.inr (.inr (.inr (.inr (.inr (.inl ⟨rfl,rfl,ha,rfl,rfl⟩)))))))) h5 (by omega)
theorem wO (hb:By b) (h0:0<=p) (hm:p<=m) (hp:m<=50000000):Dr (gi ⟨b,p⟩) (m+200) λc=>COk c/\c.length<=14:=by
 unfold gi
 refine .bind (bE hb h0 hm (by omega) (by omega) (by omega)) λx p1 hx h1 h2=>?_
 dsimp only
 obtain ⟨n,hn⟩:∃ n:Int,n=1+x:=⟨_,rfl⟩
 have hw:w64 (1+x)=n:=by rw [bf (by omega) (by omega),hn]
 refine .tot (P:=λr=>0<=r.2/\r.2<=m+1+140/\(r.1.length:Int)+1=n/\∀ q∈r.1,QOk n q) (.iter (λs=>0<=s.2.1/\s.2.1+1<=n/\0<=s.2.2/\s.2.2<=m+1+10*s.2.1/\(s.1.length:Int)=s.2.1/\∀ q∈s.1,QOk n q) (λs=>(n-s.2.1).toNat) ⟨by simp,by simp only; omega,h1,by simp only; omega,by simp,by simp⟩ λs hs=>?_) λr hr=>?_
 ·obtain ⟨out,i,q⟩:=s
  obtain ⟨g0,g1,g2,g3,g4,g5⟩:=hs
  simp only at g0 g1 g2 g3 g4 g5
  unfold kD
  dsimp only
  rw [hw,ce g0 (by omega)]
  refine .sel (λh=>?_) λh=>.inr (show 0<=q/\q<=m+1+140/\(out.length:Int)+1=n/\∀ q∈out,QOk n q from ?_)
  ·simp only [decide_eq_true_eq] at h
   refine .bind (CH hb (by omega) (by omega) g2 g3 (by omega)) λy hy=>.bind (.app (l:=out) (by simp; omega)) λr hr=>.inl ?_
   subst hr
   refine ⟨⟨by simp only; omega,by simp only; omega,hy.1,by have:=hy.2.1; simp only; omega,by simp; omega,λz hz=>?_⟩,by simp only; omega⟩
   simp only [List.mem_append,List.mem_singleton] at hz
   rcases hz with hz | rfl
   ·exact g5 z hz
   ·exact hy.2.2
  ·simp only [decide_eq_false_iff_not] at h
   exact ⟨g2,by omega,by omega,g5⟩
 ·obtain ⟨out,q⟩:=r
  obtain ⟨k0,k1,k2,k3⟩:=hr
  simp only at k0 k1 k2 k3
  have fin:∀ z:ah,QOk n z->(z.Op=10\/z.Op=4)->COk (out++[z])/\(out++[z]).length<=14:=λz hz ho=>⟨⟨by simp,by simp; omega,λy hy=>by
   have e:(((out++[z]).length:Nat):Int)=n:=by simp; omega
   rw [e]
   simp only [List.mem_append,List.mem_singleton] at hy
   rcases hy with hy | rfl
   ·exact k3 y hy
   ·exact hz,⟨z,List.getLast?_concat,ho⟩⟩,by simp; omega⟩
  refine .bind (bE hb k0 k1 (by omega) (by omega) (by omega)) λy p2 hy h3 h4=>.sel (λ_=>?_) λ_=>?_
  ·dsimp only
   rw [hw]
   refine .bind (bE hb h3 h4 (by omega) (by omega) (by omega)) λz p3 hz h5 h6=>.tot (.app (by simp; omega)) λr hr=>.pure ?_ h5 (by omega)
   subst hr
   exact fin _ (.inr (.inr (.inr (.inl ⟨rfl,rfl,rfl,rfl,hz.1,hz.2⟩)))) (.inr rfl)
  ·refine .tot (.app (by simp; omega)) λr hr=>.pure ?_ h3 (by omega)
   subst hr
   exact fin _ (.inr (.inr (.inr (.inr (.inr (.inr (.inr (.inr ⟨.inr rfl,rfl,rfl,rfl,rfl⟩)))))))) (.inl rfl)
theorem CI (hb:By b) {k:Nat} (hk:20<=k) (h0:0<=p) (hm:p<=m) (hp:m<=900000):Dr (kY k ⟨b,p⟩) (m+50000) λc=>COk c/\c.length<=40:=by
 unfold kY
 refine .bind (bE hb h0 hm (by omega) (by omega) (by omega)) λx p1 hx h1 h2=>.sel (λ_=>.bind (wO hb h1 h2 (by omega)) λc p2 hc h3 h4=>.pure ⟨hc.1,by have:=hc.2; simp only; omega⟩ h3 (by omega)) λ_=>.bind (Bq hb (by omega) hk h1 h2 (by omega)) λl p2 hl h3 h4=>.tot (ya hk hl) λr hr=>.sel (λ_=>.bind (wO hb h3 h4 (by omega)) λc p2 hc h3 h4=>.pure ⟨hc.1,by have:=hc.2; simp only; omega⟩ h3 (by omega)) λhle=>.bind (bE hb h3 h4 (by omega) (by omega) (by omega)) λt p3 ht h5 h6=>?_
 simp only [decide_eq_false_iff_not] at hle
 have h01:0<=Int.tdiv t 2/\Int.tdiv t 2<=1:=by
  rcases (show t=0\/t=1\/t=2 by omega) with rfl | rfl | rfl <;> decide
 dsimp only
 rw [bf (by omega) (by omega)]
 exact .tot (xf hr.2 h01.1 (by omega)) λo ho=>.pure ⟨ho.1,by have:=ho.2.2; omega⟩ h5 (by omega)
end
noncomputable section
theorem yb (n:Int):da n=some (decide (Wd n)):=by
 unfold da
 congr 1
 unfold Wd
 by_cases h1 : -2147483648<=n <;> by_cases h2:n<=2147483647 <;> simp [h1,h2]
theorem CJ (n:Int):kh n=some (decide (Rg n)):=by
 unfold kh
 congr 1
 unfold Rg
 by_cases h1:0<=n <;> by_cases h2:n<=11 <;> simp [h1,h2] <;> omega
theorem DP (n:Int):la n=some (decide (1<=n/\n<=12)):=by
 unfold la
 congr 1
 by_cases h1:1<=n <;> by_cases h2:n<=12 <;> simp [h1,h2]
theorem Bu (q:ah) (m:Int):i4 q m=some (decide (QV m q)):=by
 refine Tot.eq ?_
 unfold i4
 simp only [CJ,yb,DP,ob9,zC,A1]
 have key:∀ b:Bool,(b=true↔QV m q)->Tot (some b) (λz=>z=decide (QV m q)):=λb h=>.pure (by
  cases b
  ·exact (decide_eq_false λhq=>by simpa using h.2 hq).symm
  ·exact (decide_eq_true (h.1 rfl)).symm)
 have e3:(q.N<3)=(q.N<=2):=propext ⟨λh=>by omega,λh=>by omega⟩
 refine .sel (λh=>key _ ?_) λh1=>.sel (λh=>key _ ?_) λh2=>.sel (λh=>key _ ?_) λh3=>.sel (λh=>key _ ?_) λh4=>.sel (λh=>key _ ?_) λh5=>.sel (λh=>key _ ?_) λh6=>.sel (λh=>key _ ?_) λh7=>.sel (λh=>key _ ?_) λh8=>key _ ?_
 all_goals try simp only [beq_iff_eq,beq_eq_false_iff_ne,Bool.or_eq_true,Bool.or_eq_false_iff,ne_eq] at *
 all_goals try (simp [QV, *,and_assoc,and_comm,and_left_comm]; done)
theorem vA (eQ:List ah) (hl:eQ.length<=4611686018427387904):Tot (eo eQ) λb=>b=true↔CV eQ:=by
 unfold eo
 refine .sel (λh=>.pure ?_) λh=>?_
 ·simp only [Bool.or_eq_true,decide_eq_true_eq] at h
  exact ⟨λh=>by simp at h,λhc=>by have:=hc.one; have:=hc.max; omega⟩
 simp only [Bool.or_eq_false_iff,decide_eq_false_iff_not] at h
 refine .bind (P:=λz=>match z with | .inl b=>b=false/\¬ CV eQ | .inr _=>∀ q∈eQ,QV eQ.length q) (.iter (λi:Int=>0<=i/\i<=eQ.length/\∀ (j:Nat) (q:ah),(j:Int)<i->eQ[j]?=some q->QV eQ.length q) (λi=>(eQ.length-i).toNat) ⟨by omega,by omega,λj q h=>by omega⟩ λi ⟨h0,h1,h2⟩=>?_) λz hz=>?_
 ·unfold lb
  refine .sel (λh=>?_) λh=>.inr ?_
  ·simp only [decide_eq_true_eq] at h
   refine .bind (.nth h0 h) λq ⟨hq,hm⟩=>?_
   rw [Bu,ob9]
   refine .sel (λhv=>.inr ⟨rfl,λhc=>?_⟩) λhv=>.inl ?_
   ·simp only [Bool.not_eq_true',decide_eq_false_iff_not] at hv
    exact hv (hc.q q hm)
   ·simp only [Bool.not_eq_false',decide_eq_true_eq] at hv
    rw [ce h0 (by omega)]
    refine ⟨⟨by omega,by omega,λj q' hj hq'=>?_⟩,by omega⟩
    by_cases e:(j:Int)=i
    ·have:j=i.toNat:=by omega
     subst this
     rw [hq] at hq'
     injection hq' with hq'
     exact hq'▸hv
    ·exact h2 j q' (by omega) hq'
  ·simp only [decide_eq_false_iff_not] at h
   intro q hq
   obtain ⟨j,hj,rfl⟩:=List.getElem_of_mem hq
   exact h2 j _ (by omega) (List.getElem?_eq_getElem hj)
 ·refine .both (λb e=>?_) λ_ e=>?_
  ·subst e
   exact .pure ⟨λh=>by rw [hz.1] at h; simp at h,λh=>absurd h hz.2⟩
  ·subst e
   have hq:∀ q∈eQ,QV eQ.length q:=hz
   rw [bf (by omega) (by omega)]
   refine .bind (.nth (by omega) (by omega)) λx ⟨hx,_⟩=>.pure ?_
   have hgl:eQ.getLast?=some x:=by rw [List.getLast?_eq_getElem?]; rw [<-hx]; congr 1; omega
   have hlast:xd eQ↔(x.Op=10\/x.Op=4):=⟨λ⟨y,h1,h2⟩=>by rw [hgl] at h1; injection h1 with h1; exact h1▸h2,λh=>⟨x,hgl,h⟩⟩
   simp only [Bool.or_eq_true,beq_iff_eq]
   exact ⟨λh=>⟨by omega,by omega,hq,hlast.2 h⟩,λhc=>hlast.1 hc.last⟩
theorem py {eQ:List ah} (h:COk eQ) (hl:eQ.length<=4611686018427387904):eo eQ=some true:=by
 obtain ⟨x,ex,hx⟩:=vA eQ hl
 rw [ex,hx.2 ⟨h.one,h.max,λq hq=>(h.q q hq).v,h.last⟩]
theorem xk {n:Nat} (h:n<=32):dn (n:Int)=some ((2^n:Nat):Int):=by
 refine Tot.eq ?_
 unfold dn
 refine .bind (P:=λr=>r=((2^n:Nat):Int)) (.iter (λs=>0<=s.2/\s.2<=(n:Int)/\s.1=((2^s.2.toNat:Nat):Int)) (λs=>((n:Int)-s.2).toNat) ⟨by simp,by simp,rfl⟩ λs hs=>?_) λr hr=>.pure hr
 obtain ⟨c,i⟩:=s
 obtain ⟨g0,g1,g2⟩:=hs
 simp only at g0 g1 g2
 unfold gY
 refine .sel (λh=>.inl ?_) λh=>.inr (show c=_ from ?_)
 ·simp only [decide_eq_true_eq] at h
  have hp:2^i.toNat<=2^32:=Nat.pow_le_pow_right (by omega) (by omega)
  have h32:(2:Nat)^32=4294967296:=by decide
  have e:2^(i+1).toNat=2^i.toNat*2:=by rw [show (i+1).toNat=i.toNat+1 by omega,Nat.pow_succ]
  dsimp only
  rw [ce g0 (by omega),bf (by omega) (by omega)]
  exact ⟨⟨by omega,by omega,by rw [e,g2]; omega⟩,by omega⟩
 ·simp only [decide_eq_false_iff_not] at h
  rw [g2,show i=(n:Int) by omega]; rfl
theorem yc {u:Int} (h0:0<=u) (h1:u<=4294967295) {lo n:Nat} (hn:1<=n) (h:lo+n<=32):bg u lo n=some (u/((2^lo:Nat):Int)%((2^n:Nat):Int)):=by
 unfold bg
 have e1:(decide ((0:Int)<=(lo:Int))&&decide ((lo:Int)<=31))=true:=by simp; omega
 have e2:(decide ((0:Int)<=u)&&decide (u<=4294967295))=true:=by simp; omega
 rw [oD,e2,ob9,Bool.not_true,ak rfl,oD,e1]
 simp only [ob9,Bool.not_true]
 rw [ak rfl,bf (by omega) (by omega),oD]
 have e3:(decide ((1:Int)<=(n:Int))&&decide ((n:Int)<=32-(lo:Int)))=true:=by simp; omega
 rw [e3]
 simp only [ob9,Bool.not_true]
 rw [ak rfl,xk (by omega),ob9]
 have p1:0<2^lo:=Nat.two_pow_pos lo
 have p2:0<2^n:=Nat.two_pow_pos n
 obtain ⟨k,rfl⟩:=Int.eq_ofNat_of_zero_le h0
 have hk:k/2^lo<=k:=Nat.div_le_self _ _
 have hq:rM .i64 (k:Int) ((2^lo:Nat):Int)=some ((k/2^lo:Nat):Int):=by
  unfold rM
  rw [if_neg (by omega)]
  congr 1
  have hx:∀ x:Nat,x<=k->w64 (x:Int)=x:=λx hx=>bf (by omega) (by omega)
  exact hx _ hk
 rw [hq,ob9,xk (by omega),ob9]
 unfold ox
 rw [if_neg (by omega)]
 simp only [ob9]
 rfl
theorem yd {u:Int} (h0:0<=u) (h1:u<=4294967295) {lo n:Nat} (hn:1<=n) (h:lo+n<=32):bL u lo n=some (u/((2^lo:Nat):Int)%((2^n:Nat):Int)):=by
 unfold bL eD
 rw [ob9,bf (by omega) (by omega),ak (by simp; omega)]
 obtain ⟨k,rfl⟩:=Int.eq_ofNat_of_zero_le h0
 have p1:(2:Nat)^n<=2^32:=Nat.pow_le_pow_right (by omega) (by omega)
 have h32:(2:Nat)^32=4294967296:=by decide
 have p2:0<2^n:=Nat.two_pow_pos n
 have hk:k/2^lo<=k:=Nat.div_le_self _ _
 rw [zw (by omega),ob9]
 have hs:=rR (x:=1) (k:=n) (by omega) (by omega)
 rw [Nat.one_mul] at hs
 rw [show ((1:Nat):Int)=1 from rfl] at hs
 rw [hs,ob9,bf (by omega) (by omega),vm (by omega) (by omega)]
 rfl
theorem pS {n:Int} (h:Wd n):ei n=some (n%4294967296)/\ch n=some (n%4294967296):=by
 unfold ei ch
 rw [xb,yb,decide_eq_true h]
 simp only [ob9,Bool.not_true]
 rw [ak rfl,ak rfl]
 have hu:km .u32 n=n%4294967296:=by
  rw [mx]
  simp [IntKind.wrap,IntKind.signed,IntKind.bits]
 unfold Wd at h
 rw [hu,bf (i:=n%4294967296) (by omega) (by omega)]
 refine ⟨?_,rfl⟩
 refine Tot.eq (.sel (λh'=>.pure ?_) λh'=>.pure ?_)
 ·simp only [decide_eq_true_eq] at h'
  rw [bf (by omega) (by omega)]; omega
 ·simp only [decide_eq_false_iff_not] at h'
  omega
theorem Bv {n:Int}:bR n=some (if 2147483648<=n%4294967296 then n%4294967296-4294967296 else n%4294967296):=by
 unfold bR
 have:km .i32 n=if 2147483648<=n%4294967296 then n%4294967296-4294967296 else n%4294967296:=by
  rw [mx]
  simp [IntKind.wrap,IntKind.signed,IntKind.bits]
 rw [this]
 congr 1
 split <;> exact bf (by omega) (by omega)
theorem Bw {n:Int}:cn n=some (if 2147483648<=n%4294967296 then n%4294967296-4294967296 else n%4294967296):=by
 refine Tot.eq ?_
 unfold cn
 have hm:n.tmod 4294967296=if 0<=n\/n%4294967296=0 then n%4294967296 else n%4294967296-4294967296:=by
  rw [Int.tmod_eq_emod]
  simp only [Int.dvd_iff_emod_eq_zero]
  split <;> simp
 rw [hm]
 refine .sel (λh=>.pure ?_) λh=>.sel (λh'=>.pure ?_) λh'=>.pure ?_
 all_goals simp only [decide_eq_true_eq,decide_eq_false_iff_not] at *
 ·rw [bf (by split <;> omega) (by split <;> omega)]; split <;> split <;> split at h <;> omega
 ·rw [bf (by split <;> omega) (by split <;> omega)]; split <;> split <;> split at h' <;> omega
 ·split <;> split <;> omega
theorem zI {x:Int} (h0:0<=x) (h1:x<4096):dF x 12=some (if 2048<=x then x-4096 else x)/\cU x 12=some (if 2048<=x then x-4096 else x):=by
 have e12:dn 12=some 4096:=xk (n:=12) (by omega)
 have e11:dn 11=some 2048:=xk (n:=11) (by omega)
 have s12:shO .shl .i64 1 12=some 4096:=by decide
 have s11:shO .shl .i64 1 11=some 2048:=by decide
 have w12:w64 (12-1)=11:=by decide
 have w13:w64 (4096-1)=4095:=by decide
 constructor
 ·unfold dF
  simp only [oD,e12,w12,e11,ob9,w13]
  rw [ak (b:=!_) (by decide)]
  simp only [ob9]
  rw [ak (by simp; omega)]
  refine Tot.eq (.sel (λh=>.pure ?_) λh=>.pure ?_)
  ·simp at h; rw [if_pos h,bf (by omega) (by omega)]
  ·simp at h; rw [if_neg (by omega)]
 ·unfold cU
  simp only [s12,w12,s11,ob9]
  rw [ak (b:=_||_) (by simp; omega)]
  simp only [ob9]
  rw [ak (by simp; omega)]
  refine Tot.eq (.sel (λh=>.pure ?_) λh=>.pure ?_)
  ·simp at h; rw [if_pos h,bf (by omega) (by omega)]
  ·simp at h; rw [if_neg (by omega)]
def pT (n:Int):Int:=if 2048<=n%4096 then n%4096-4096 else n%4096
def rv (n:Int):Int:=(n-pT n)%4294967296/4096
def lr (rd n:Int):List Instr:=if -2048<=n/\n<=2047 then [⟨12,rd,0,0,n⟩] else [⟨19,rd,0,0,rv n⟩,⟨12,rd,rd,0,pT n⟩]
theorem ye {rd n:Int} (h:Wd n):ob rd n=some (lr rd n)/\gz rd n=some (lr rd n):=by
 have hu:=pS h
 have hb1:∀ {u:Int},0<=u->u<=4294967295->bg u 0 12=some (u%4096)/\bL u 0 12=some (u%4096):=λh0 h1=>by
  have a:=yc h0 h1 (lo:=0) (n:=12) (by omega) (by omega)
  have b:=yd h0 h1 (lo:=0) (n:=12) (by omega) (by omega)
  simp at a b
  exact ⟨a,b⟩
 have hb2:∀ {u:Int},0<=u->u<=4294967295->bg u 12 20=some (u/4096%1048576)/\bL u 12 20=some (u/4096%1048576):=λh0 h1=>by
  have a:=yc h0 h1 (lo:=12) (n:=20) (by omega) (by omega)
  have b:=yd h0 h1 (lo:=12) (n:=20) (by omega) (by omega)
  simp at a b
  exact ⟨a,b⟩
 have hw:=h
 unfold Wd at hw
 have e0:n%4294967296%4096=n%4096:=by omega
 have hl : -2048<=pT n/\pT n<=2047:=by unfold pT; split <;> omega
 have hwd:∀ m:Int,Wd (if 2147483648<=m%4294967296 then m%4294967296-4294967296 else m%4294967296):=λm=>by unfold Wd; split <;> omega
 have e1:∀ m:Int,(if 2147483648<=m%4294967296 then m%4294967296-4294967296 else m%4294967296)%4294967296=m%4294967296:=λm=>by split <;> omega
 have e2:(n-pT n)%4294967296/4096%1048576=rv n:=by unfold rv; omega
 constructor
 ·unfold ob lr
  rw [oD,ob9]
  refine Tot.eq (.sel (λh=>.pure ?_) λh=>?_)
  ·simp at h; rw [if_pos h]
  ·rw [if_neg (by simp at h; omega),hu.1,ob9,(hb1 (by omega) (by omega)).1,ob9,(zI (by omega) (by omega)).1,ob9,e0]
   rw [show (if 2048<=n%4096 then n%4096-4096 else n%4096)=pT n from rfl,bf (by omega) (by omega),Bw,ob9,(pS (hwd _)).1,ob9,e1,(hb2 (by omega) (by omega)).1,ob9,e2]
   refine .bind (.app (by simp)) λr hr=>.pure ?_
   subst hr; rfl
 ·unfold gz lr
  refine Tot.eq (.sel (λh=>.pure ?_) λh=>?_)
  ·simp at h; rw [if_pos h]
  ·rw [if_neg (by simp at h; omega),hu.2,ob9,(hb1 (by omega) (by omega)).2,ob9,(zI (by omega) (by omega)).2,ob9,e0]
   rw [show (if 2048<=n%4096 then n%4096-4096 else n%4096)=pT n from rfl,bf (by omega) (by omega),Bv,ob9,(pS (hwd _)).2,ob9,e1,(hb2 (by omega) (by omega)).2,ob9,e2]
   exact .pure rfl
end
noncomputable section
def eY (c p s:Int):Int:=if p<c then (je[p.toNat]?).getD 0 else s
def rdL (c p s:Int):List Instr:=if p<c then [] else [⟨14,s,2,0,4*(p-c)⟩]
def wrL (c p:Int):List Instr:=if p<c then [] else [⟨16,0,2,7,4*(p-c)⟩]
def nw (n:Int):List Instr:=[⟨12,17,0,0,n⟩,⟨15,1,0,0,0⟩]
def rx (n:Int):Int:=(lJ[(n-1).toNat]?).getD 0
def gC (q:ah) (c off:Int):List Instr:=
 if q.Op=1 then lr (eY c q.Dst 7) q.N++wrL c q.Dst
 else if q.Op=2 then rdL c q.A 5++[⟨12,eY c q.Dst 7,eY c q.A 5,0,0⟩]++wrL c q.Dst
 else if q.Op=3 then rdL c q.A 5++rdL c q.B 6++[⟨rx q.N,eY c q.Dst 7,eY c q.A 5,eY c q.B 6,0⟩]++(if q.N=4 then [⟨13,eY c q.Dst 7,eY c q.Dst 7,0,1⟩] else [])++wrL c q.Dst
 else if q.Op=4 then [⟨20,0,0,0,off⟩]
 else if q.Op=5 then rdL c q.A 5++[⟨18,0,eY c q.A 5,0,8⟩]++[⟨20,0,0,0,off-4*((rdL c q.A 5).length+1)⟩]
 else if q.Op=6 then rdL c q.A 5++[⟨12,10,eY c q.A 5,0,0⟩,⟨12,11,0,0,q.N⟩]++nw 1
 else if q.Op=7 then [⟨12,11,0,0,q.N⟩]++nw 2++[⟨12,eY c q.Dst 7,10,0,0⟩]++wrL c q.Dst
 else if q.Op=8 then nw 3
 else if q.Op=9 then rdL c q.A 5++[⟨12,10,eY c q.A 5,0,0⟩]++nw 4
 else nw 5
theorem lu (c p s:Int):(rdL c p s).length<=1:=by unfold rdL; split <;> simp
theorem vB (c p:Int):(wrL c p).length<=1:=by unfold wrL; split <;> simp
theorem qx (r n:Int):1<=(lr r n).length/\(lr r n).length<=2:=by unfold lr; split <;> simp
theorem pi {c p s:Int} (hc:1<=c/\c<=8) (hp:Rg p):fQ p c s=some (eY c p s):=by
 refine Tot.eq ?_
 unfold fQ eY Rg at *
 refine .sel (λh=>.pure (by simp at h; rw [if_neg (by omega)])) λh=>?_
 simp at h
 refine .bind (.nth (by omega) (by simp; omega)) λx ⟨hx,_⟩=>.pure ?_
 rw [if_pos h]
 show x=((je[p.toNat]?).getD 0)
 unfold je
 rw [hx]; rfl
theorem yf {c p:Int} (hc:1<=c/\c<=8) (hp:Rg p) (h:p<c) (s:Int):nth je p=some (eY c p s):=by
 unfold Rg at hp
 refine (Tot.nth (l:=je) hp.1 (by simp [je]; omega)).mono (Q:=λx=>x=eY c p s) (λx ⟨hx,_⟩=>?_) |>.eq
 unfold eY
 rw [if_pos h,hx]; rfl
theorem pU {c p s:Int} (hc:1<=c/\c<=8) (hp:Rg p):gO p c s=some (rdL c p s):=by
 refine Tot.eq ?_
 unfold gO rdL Rg at *
 refine .sel (λh=>.pure (by simp at h; rw [if_pos h])) λh=>.pure ?_
 simp at h
 rw [if_neg (by omega),bf (i:=p-c) (by omega) (by omega),bf (by omega) (by omega)]
theorem qy {c p:Int} (hc:1<=c/\c<=8) (hp:Rg p) {l:List Instr} (hl:l.length<=1000):ig l p c=some (l++wrL c p):=by
 refine Tot.eq ?_
 unfold ig wrL Rg at *
 refine .sel (λh=>.pure (by simp at h; rw [if_pos h,List.append_nil])) λh=>?_
 simp at h
 rw [if_neg (by omega),bf (i:=p-c) (by omega) (by omega),bf (by omega) (by omega)]
 exact .bind (.app (by simp; omega)) λr hr=>.pure hr
theorem pV {n:Int} {l:List Instr} (hl:l.length<=1000):gP l n=some (l++nw n):=by
 refine Tot.eq ?_
 unfold gP
 refine .bind (.app (by simp; omega)) λr hr=>.bind (.app (by subst hr; simp; omega)) λr2 hr2=>.pure ?_
 subst hr hr2; simp [nw]
theorem Db {n:Int} (h:1<=n/\n<=12):nth lJ (w64 (n-1))=some (rx n):=by
 rw [bf (by omega) (by omega)]
 refine (Tot.nth (l:=lJ) (i:=n-1) (by omega) (by simp [lJ]; omega)).mono (Q:=λx=>x=rx n) (λx ⟨hx,_⟩=>?_) |>.eq
 unfold rx; rw [hx]; rfl
theorem DQ {n:Int} (h:1<=n/\n<=12):ro n=some (rx n):=by
 unfold ro
 have:=Db h
 unfold lJ at this
 rw [this]; rfl
theorem yg {c p:Int} (hc:1<=c/\c<=8) (hp:Rg p):mX p c=some (rdL c p 5++[⟨12,10,eY c p 5,0,0⟩]):=by
 refine Tot.eq ?_
 unfold mX jo
 rw [pU hc hp,pi hc hp]
 simp only [ob9]
 have:=lu c p 5
 exact .bind (.app (by simp; omega)) λr hr=>.pure hr
theorem Bx {q:ah} {m c off:Int} (hq:QOk m q) (hc:1<=c/\c<=8) (ho : -1000000<=off/\off<=1000000):pa q c off=some (gC q c off):=by
 have hd:Rg q.Dst:=by unfold QOk at hq; unfold Rg at *; omega
 have l1:=lu c q.A 5
 have l2:=lu c q.B 6
 refine Tot.eq ?_
 unfold pa gC
 rw [pi hc hd,ob9]
 refine .sel (λh=>?_) λh1=>.sel (λh=>?_) λh2=>.sel (λh=>?_) λh3=>.sel (λh=>?_) λh4=>.sel (λh=>?_) λh5=>.sel (λh=>?_) λh6=>.sel (λh=>?_) λh7=>.sel (λh=>?_) λh8=>.sel (λh=>?_) λh9=>?_
 all_goals
  simp only [beq_iff_eq,beq_eq_false_iff_ne,ne_eq] at *
  unfold QOk at hq
 ·simp [h] at hq
  have:=qx (eY c q.Dst 7) q.N
  rw [if_pos h,(ye hq.2.2.2).1,ob9,qy hc hd (by omega)]; exact .pure rfl
 ·simp [h] at hq
  rw [if_neg h1,if_pos h,pU hc hq.2.1,pi hc hq.2.1]
  simp only [ob9,jo]
  refine .bind (.app (by simp; omega)) λr hr=>?_
  rw [qy hc hd (by subst hr; simp; omega),hr]; exact .pure rfl
 ·simp [h] at hq
  rw [if_neg h1,if_neg h2,if_pos h]
  refine .bind (P:=λr=>r=_) ?_ λr hr=>.pure hr
  unfold ub
  rw [pU hc hq.2.1,pU hc hq.2.2.1,pi hc hq.2.1,pi hc hq.2.2.1,pi hc hd,DQ hq.2.2.2]
  simp only [ob9]
  refine .bind (.app (by omega)) λr hr=>.bind (.app (by subst hr; simp; omega)) λr2 hr2=>?_
  have e2:r2.length<=3:=by subst hr hr2; simp; omega
  refine .bind (P:=λy=>y=r2++(if q.N=4 then [⟨13,eY c q.Dst 7,eY c q.Dst 7,0,1⟩] else [])/\y.length<=4) (.sel (λh=>.bind (.app (by simp; omega)) λr3 hr3=>.pure ?_) λh=>.pure ?_) λy ⟨hy,hyl⟩=>?_
  ·simp at h; rw [if_pos h,hr3]; exact ⟨rfl,by simp; omega⟩
  ·simp at h; rw [if_neg h,List.append_nil]; exact ⟨rfl,by omega⟩
  ·rw [qy hc hd (by omega),hy,hr2,hr]
   exact .pure (by simp)
 ·rw [if_neg h1,if_neg h2,if_neg h3,if_pos h]; exact .pure rfl
 ·simp [h] at hq
  rw [if_neg h1,if_neg h2,if_neg h3,if_neg h4,if_pos h]
  refine .bind (P:=λr=>r=_) ?_ λr hr=>.pure hr
  unfold rP
  rw [pU hc hq.2.1,pi hc hq.2.1]
  simp only [ob9]
  refine .bind (.app (by simp; omega)) λr hr=>?_
  have e1:r.length=(rdL c q.A 5).length+1:=by subst hr; simp
  rw [bf (i:=4*(r.length:Int)) (by omega) (by omega),bf (by omega) (by omega)]
  refine .bind (.app (by simp; omega)) λr2 hr2=>.pure ?_
  rw [hr2,e1,hr]; simp
 ·simp [h] at hq
  rw [if_neg h1,if_neg h2,if_neg h3,if_neg h4,if_neg h5,if_pos h,yg hc hq.2.1]
  simp only [ob9,nS]
  refine .bind (.app (by simp; omega)) λr hr=>?_
  rw [pV (by subst hr; simp; omega),hr]; exact .pure (by simp)
 ·simp [h] at hq
  rw [if_neg h1,if_neg h2,if_neg h3,if_neg h4,if_neg h5,if_neg h6,if_pos h]
  simp only [ob9,nS,jo]
  rw [pV (by simp),ob9]
  refine .bind (.app (by simp [nw])) λr hr=>?_
  rw [qy hc hd (by subst hr; simp [nw]),hr]; exact .pure (by simp)
 ·rw [if_neg h1,if_neg h2,if_neg h3,if_neg h4,if_neg h5,if_neg h6,if_neg h7,if_pos h,pV (by simp)]; exact .pure (by simp)
 ·simp [h] at hq
  rw [if_neg h1,if_neg h2,if_neg h3,if_neg h4,if_neg h5,if_neg h6,if_neg h7,if_neg h8,if_pos h,yg hc hq.2.1,ob9,pV (by simp; omega)]; exact .pure (by simp)
 ·rw [if_neg h1,if_neg h2,if_neg h3,if_neg h4,if_neg h5,if_neg h6,if_neg h7,if_neg h8,if_neg h9,pV (by simp)]; exact .pure (by simp)
theorem mt {c:Int} {l l2:List Instr} (h:l.length+l2.length<=1000):bK ⟨c,l⟩ l2=some (l++l2):=by
 unfold bK
 rw [dN (by simp only; omega)]; rfl
theorem qz {c p s:Int} (hc:1<=c/\c<=8) (hp:Rg p) {l:List Instr} (hl:l.length<=900):cN ⟨c,l⟩ p s=some (eY c p s,l++rdL c p s):=by
 refine Tot.eq ?_
 unfold cN rdL
 refine .sel (λh=>?_) λh=>?_
 ·simp at h
  rw [yf hc hp h s,if_pos h,List.append_nil]; exact .pure rfl
 ·simp at h
  unfold Rg at hp
  rw [if_neg (by omega),bf (i:=p-c) (by omega) (by omega),bf (by omega) (by omega),mt (by simp; omega)]
  unfold eY
  rw [if_neg (by omega)]; exact .pure rfl
theorem r7 {c p:Int} (hc:1<=c/\c<=8) (hp:Rg p) {l:List Instr} (hl:l.length<=900) {f:Int->Option (List Instr)} {g:Int->List Instr} (hf:∀ r,f r=some (g r)) (hg:∀ r,(g r).length<=2):db ⟨c,l⟩ p f=some (l++g (eY c p 7)++wrL c p):=by
 refine Tot.eq ?_
 unfold db wrL
 simp only [hf,ob9]
 have h1:=hg (eY c p 7)
 refine .sel (λh=>?_) λh=>?_
 ·simp at h
  rw [yf hc hp h 7,ob9,mt (by omega),if_pos h,List.append_nil]; exact .pure rfl
 ·simp at h
  have e:eY c p 7=7:=by unfold eY; rw [if_neg (by omega)]
  rw [e] at h1 ⊢
  unfold Rg at hp
  rw [if_neg (by omega),bf (i:=p-c) (by omega) (by omega),bf (by omega) (by omega),mt (by omega),ob9,mt (by simp; omega)]; exact .pure rfl
theorem r8 {c n:Int} {l:List Instr} (hl:l.length<=900):cZ ⟨c,l⟩ n=some (l++nw n):=by
 unfold cZ d6
 rw [ob9,mt (by simp; omega)]; rfl
theorem zJ {c off:Int} {l:List Instr} (hl:l.length<=900) (ho : -1000000<=off/\off<=1000000):ey ⟨c,l⟩ off=some (l++[⟨20,0,0,0,off-4*l.length⟩]):=by
 unfold ey
 simp only
 rw [bf (i:=4*(l.length:Int)) (by omega) (by omega),bf (by omega) (by omega),mt (by simp; omega)]; rfl
theorem wP {q:ah} {m c off:Int} (hq:QOk m q) (hc:1<=c/\c<=8) (ho : -1000000<=off/\off<=1000000):fC q c off=some (gC q c off):=by
 have hd:Rg q.Dst:=by unfold QOk at hq; unfold Rg at *; omega
 have l1:=lu c q.A 5
 have l2:=lu c q.B 6
 refine Tot.eq ?_
 unfold fC gC
 refine .bind (P:=λr=>r=_) ?_ λr hr=>.pure hr
 refine .sel (λh=>?_) λh1=>.sel (λh=>?_) λh2=>.sel (λh=>?_) λh3=>.sel (λh=>?_) λh4=>.sel (λh=>?_) λh5=>.sel (λh=>?_) λh6=>.sel (λh=>?_) λh7=>.sel (λh=>?_) λh8=>.sel (λh=>?_) λh9=>.sel (λh=>?_) λh10=>?_
 all_goals
  simp only [beq_iff_eq,beq_eq_false_iff_ne,ne_eq] at *
  unfold QOk at hq
 ·simp [h] at hq
  rw [if_pos h,r7 hc hd (by simp) (g:=λr=>lr r q.N) (λr=>by unfold ir; rw [(ye hq.2.2.2).2]; rfl) λr=>(qx r q.N).2]; exact .pure (by simp)
 ·simp [h] at hq
  rw [if_neg h1,if_pos h,qz hc hq.2.1 (by simp)]
  simp only [ob9,List.nil_append]
  rw [r7 hc hd (l:=rdL c q.A 5) (by omega) (f:=λb0=>iu b0 (eY c q.A 5)) (g:=λr=>[⟨12,r,eY c q.A 5,0,0⟩]) (λr=>rfl) λr=>by simp]; exact .pure (by simp)
 ·simp [h] at hq
  rw [if_neg h1,if_neg h2,if_pos h,qz hc hq.2.1 (by simp)]
  simp only [ob9,List.nil_append]
  rw [qz hc hq.2.2.1 (by omega)]
  simp only [ob9]
  rw [r7 hc hd (by simp; omega) (g:=λr=>[⟨rx q.N,r,eY c q.A 5,eY c q.B 6,0⟩]++(if q.N=4 then [⟨13,r,r,0,1⟩] else [])) (λr=>?_) λr=>by split <;> simp]
  ·exact .pure (by simp)
  ·unfold iv
   rw [Db hq.2.2.2,ob9]
   refine Tot.eq (.sel (λh=>.bind (.app (by simp)) λr hr=>.pure ?_) λh=>.pure ?_)
   ·simp at h; rw [if_pos h,hr]
   ·simp at h; rw [if_neg h]; rfl
 ·rw [if_neg h1,if_neg h2,if_neg h3,if_pos h,zJ (by simp) ho]; exact .pure (by simp)
 ·simp [h] at hq
  rw [if_neg h1,if_neg h2,if_neg h3,if_neg h4,if_pos h,qz hc hq.2.1 (by simp)]
  simp only [ob9,List.nil_append]
  rw [mt (by simp; omega),ob9,zJ (by simp; omega) ho]
  exact .pure (by simp)
 ·simp [h] at hq
  rw [if_neg h1,if_neg h2,if_neg h3,if_neg h4,if_neg h5,if_pos h,qz hc hq.2.1 (by simp)]
  simp only [ob9,List.nil_append,d6]
  rw [mt (by simp; omega),ob9,r8 (by simp; omega)]; exact .pure (by simp)
 ·simp [h] at hq
  rw [if_neg h1,if_neg h2,if_neg h3,if_neg h4,if_neg h5,if_neg h6,if_pos h]
  simp only [ob9,d6]
  rw [mt (by simp),ob9,r8 (by simp),ob9,r7 hc hd (by simp [nw]) (f:=iw) (g:=λr=>[⟨12,r,10,0,0⟩]) (λr=>rfl) λr=>by simp]; exact .pure (by simp)
 ·rw [if_neg h1,if_neg h2,if_neg h3,if_neg h4,if_neg h5,if_neg h6,if_neg h7,if_pos h,r8 (by simp)]; exact .pure (by simp)
 ·simp [h] at hq
  rw [if_neg h1,if_neg h2,if_neg h3,if_neg h4,if_neg h5,if_neg h6,if_neg h7,if_neg h8,if_pos h,qz hc hq.2.1 (by simp)]
  simp only [ob9,List.nil_append,d6]
  rw [mt (by simp; omega),ob9,r8 (by simp; omega)]; exact .pure (by simp)
 ·rw [if_neg h1,if_neg h2,if_neg h3,if_neg h4,if_neg h5,if_neg h6,if_neg h7,if_neg h8,if_neg h9,r8 (by simp)]; exact .pure (by simp)
 ·simp [h1,h2,h3,h4,h5,h6,h7,h8,h9,h10] at hq
theorem nd (q:ah) (c off:Int):1<=(gC q c off).length/\(gC q c off).length<=6/\(gC q c off).length=(gC q c 0).length:=by
 have l1:=lu c q.A 5
 have l2:=lu c q.B 6
 have l3:=vB c q.Dst
 have l4:=qx (eY c q.Dst 7) q.N
 unfold gC nw
 split
 ·simp; omega
 split
 ·simp; omega
 split
 ·split <;> simp <;> omega
 split
 ·simp
 split
 ·simp; omega
 split
 ·simp; omega
 split
 ·simp; omega
 split
 ·simp
 split
 ·simp; omega
 ·simp
end
noncomputable section
def qAt (eQ:List ah) (i:Nat):ah:=(eQ[i]?).getD ⟨0,0,0,0,0⟩
theorem ry {eQ:List ah} {i:Nat} {q:ah} (h:eQ[i]?=some q):qAt eQ i=q:=by unfold qAt; rw [h]; rfl
def pl (eQ:List ah) (c:Int):Nat->Nat
 | 0=>0
 | i+1=>pl eQ c i+(gC (qAt eQ i) c 0).length
def ny (eQ:List ah) (c:Int) (i:Nat):Int:=if (qAt eQ i).Op=4\/(qAt eQ i).Op=5 then 4*((pl eQ c (qAt eQ i).N.toNat:Int)-pl eQ c i) else 0
def blk (eQ:List ah) (c:Int) (i:Nat):List Instr:=gC (qAt eQ i) c (ny eQ c i)
def tk (eQ:List ah) (c:Int):Nat->List Instr
 | 0=>[]
 | i+1=>tk eQ c i++blk eQ c i
def plL (eQ:List ah) (c:Int) (n:Nat):List Int:=(List.range n).map λi=>(pl eQ c i:Int)
theorem r9 (eQ:List ah) (c:Int):∀ i,pl eQ c i<=6*i
 | 0=>Nat.le_refl _
 | i+1=>by have:=r9 eQ c i; have:=(nd (qAt eQ i) c 0).2.1; simp only [pl]; omega
theorem sW (eQ:List ah) (c:Int):∀ i,(tk eQ c i).length=pl eQ c i
 | 0=>rfl
 | i+1=>by simp only [tk,pl,List.length_append,sW eQ c i,blk,(nd (qAt eQ i) c (ny eQ c i)).2.2]
theorem CK {eQ:List ah} {c:Int} {n i:Nat} (h:i<n):(plL eQ c n)[i]?=some (pl eQ c i:Int):=by simp [plL,h]
theorem uT (eQ:List ah) (c:Int) (n:Nat):(plL eQ c n).length=n:=by simp [plL]
theorem zK {eQ:List ah} {c:Int} {n:Nat} {i:Int} (h0:0<=i) (h:i<n):nth (plL eQ c n) i=some (pl eQ c i.toNat:Int):=by
 refine (Tot.nth (l:=plL eQ c n) h0 (by rw [uT]; exact h)).mono (Q:=λx=>x=(pl eQ c i.toNat:Int)) (λx ⟨hx,_⟩=>?_) |>.eq
 rw [CK (by omega)] at hx
 injection hx with hx
 exact hx.symm
theorem yh (eQ:List ah) (c:Int) (n:Nat):plL eQ c (n+1)=plL eQ c n++[(pl eQ c n:Int)]:=by simp [plL,List.range_succ]
theorem COk.at {eQ:List ah} (hc:COk eQ) {i:Int} (h0:0<=i) (h1:i<eQ.length):∃ q,nth eQ i=some q/\qAt eQ i.toNat=q/\QOk eQ.length q:=by
 obtain ⟨q,e,h2,h3⟩:=Tot.nth (l:=eQ) h0 h1
 exact ⟨q,e,ry h2,hc.q q h3⟩
theorem DR {eQ:List ah} (hc:COk eQ) {c:Int} (h:1<=c/\c<=8):pP eQ c=some (plL eQ c eQ.length):=by
 have hmx:=hc.max
 refine Tot.eq ?_
 unfold pP
 refine .bind (P:=λr=>r=plL eQ c eQ.length) (.iter (λs=>0<=s.2.2/\s.2.2<=(eQ.length:Int)/\s.1=plL eQ c s.2.2.toNat/\s.2.1=(pl eQ c s.2.2.toNat:Int)) (λs=>((eQ.length:Int)-s.2.2).toNat) ⟨by simp,by simp,rfl,rfl⟩ λs hs=>?_) λr hr=>.pure hr
 obtain ⟨out,a,i⟩:=s
 obtain ⟨g0,g1,g2,g3⟩:=hs
 simp only at g0 g1 g2 g3
 unfold nT
 refine .sel (λhlt=>?_) λhge=>.inr (show out=_ from ?_)
 ·simp only [decide_eq_true_eq] at hlt
  obtain ⟨q,e1,e2,hq⟩:=hc.at g0 hlt
  have hl:=uT eQ c i.toNat
  have h6:=r9 eQ c i.toNat
  have hql:=(nd q c 0).2.1
  refine .bind (.app (by subst g2; simp; omega)) λr hr=>?_
  dsimp only
  rw [e1,ob9,Bx hq h (by omega),ob9,ce g0 (by omega),bf (by omega) (by omega)]
  have e3:(i+1).toNat=i.toNat+1:=by omega
  refine .inl ⟨⟨by simp only; omega,by simp only; omega,?_,?_⟩,by simp only; omega⟩
  ·simp only; rw [e3,yh,hr,g2,g3]
  ·simp only; rw [e3,pl,e2,g3]; simp
 ·simp only [decide_eq_false_iff_not] at hge
  rw [g2,show i.toNat=eQ.length by omega]
theorem yR {eQ:List ah} (hc:COk eQ) {c:Int} (h:1<=c/\c<=8):hP eQ c=some (plL eQ c eQ.length):=by
 have hmx:=hc.max
 refine Tot.eq ?_
 unfold hP
 have e:=py hc (by omega)
 rw [e,ob9]
 refine .sf (by simp; omega) (.bind (P:=λr=>r=plL eQ c eQ.length) (.iter (λs=>0<=s.2.2/\s.2.2<=(eQ.length:Int)/\s.1=plL eQ c s.2.2.toNat/\s.2.1=(pl eQ c s.2.2.toNat:Int)) (λs=>((eQ.length:Int)-s.2.2).toNat) ⟨by simp,by simp,rfl,rfl⟩ λs hs=>?_) λr hr=>.pure hr)
 obtain ⟨out,a,i⟩:=s
 obtain ⟨g0,g1,g2,g3⟩:=hs
 simp only at g0 g1 g2 g3
 unfold ki
 refine .sel (λhlt=>?_) λhge=>.inr (show out=_ from ?_)
 ·simp only [decide_eq_true_eq] at hlt
  obtain ⟨q,e1,e2,hq⟩:=hc.at g0 hlt
  have hl:=uT eQ c i.toNat
  have h6:=r9 eQ c i.toNat
  have hql:=(nd q c 0).2.1
  dsimp only
  rw [e1,ob9]
  refine .bind (.app (by subst g2; simp; omega)) λr hr=>?_
  rw [wP hq h (by omega),ob9,ce g0 (by omega),bf (by omega) (by omega)]
  have e3:(i+1).toNat=i.toNat+1:=by omega
  refine .inl ⟨⟨by simp only; omega,by simp only; omega,?_,?_⟩,by simp only; omega⟩
  ·simp only; rw [e3,yh,hr,g2,g3]
  ·simp only; rw [e3,pl,e2,g3]; simp
 ·simp only [decide_eq_false_iff_not] at hge
  rw [g2,show i.toNat=eQ.length by omega]
theorem wQ {eQ:List ah} (hc:COk eQ) {c:Int} {i:Nat} (hi:i<eQ.length) : -1000000<=ny eQ c i/\ny eQ c i<=1000000:=by
 have hmx:=hc.max
 have hq:=hc.q _ (List.mem_of_getElem? (List.getElem?_eq_getElem hi))
 have e:qAt eQ i=eQ[i]:=ry (List.getElem?_eq_getElem hi)
 unfold ny
 rw [e]
 split
 ·rename_i h
  have hN:0<=(eQ[i]).N/\(eQ[i]).N<eQ.length:=by unfold QOk at hq; rcases h with h | h <;> simp [h] at hq <;> omega
  have h1:=r9 eQ c (eQ[i]).N.toNat
  have h2:=r9 eQ c i
  omega
 ·omega
theorem Bz {eQ:List ah} (hc:COk eQ) {c:Int} (h:1<=c/\c<=8):hU eQ c=some (tk eQ c eQ.length,true):=by
 have hmx:=hc.max
 have hone:=hc.one
 refine Tot.eq ?_
 unfold hU
 rw [yR hc h,ob9]
 have hne:List.isEmpty (plL eQ c eQ.length)=false:=by
  rw [List.isEmpty_eq_false_iff]; intro e; have:=uT eQ c eQ.length; rw [e] at this; simp at this; omega
 refine .sf hne (.bind (P:=λr=>r=tk eQ c eQ.length) (.iter (λs=>0<=s.2/\s.2<=(eQ.length:Int)/\s.1=tk eQ c s.2.toNat) (λs=>((eQ.length:Int)-s.2).toNat) ⟨by simp,by simp,rfl⟩ λs hs=>?_) λr hr=>.pure (by rw [hr]))
 obtain ⟨out,i⟩:=s
 obtain ⟨g0,g1,g2⟩:=hs
 simp only at g0 g1 g2
 unfold kj
 refine .sel (λhlt=>?_) λhge=>.inr (show out=_ from ?_)
 ·simp only [decide_eq_true_eq] at hlt
  obtain ⟨q,e1,e2,hq⟩:=hc.at g0 hlt
  have h6:=r9 eQ c i.toNat
  have hql:=(nd q c (ny eQ c i.toNat)).2.1
  have hof:=wQ hc (c:=c) (i:=i.toNat) (by omega)
  dsimp only
  rw [e1]
  simp only [ob9,lj]
  refine .bind (P:=λy=>y=ny eQ c i.toNat) (.sel (λh=>?_) λh=>.pure ?_) λy hy=>?_
  ·have ho:q.Op=4\/q.Op=5:=by simpa using h
   have hN:0<=q.N/\q.N<eQ.length:=by unfold QOk at hq; rcases ho with h | h <;> simp [h] at hq <;> omega
   have h7:=r9 eQ c q.N.toNat
   rw [zK hN.1 hN.2,zK g0 hlt,ob9,ob9,bf (i:=_-_) (by omega) (by omega),bf (by omega) (by omega)]
   unfold ny
   rw [e2,if_pos ho]; exact .pure rfl
  ·unfold ny; rw [e2,if_neg (by simpa using h)]
  ·subst hy
   rw [wP hq h hof,ob9]
   refine .bind (.app (by subst g2; rw [sW]; omega)) λr hr=>.inl ?_
   rw [ce g0 (by omega)]
   refine ⟨⟨by simp only; omega,by simp only; omega,?_⟩,by simp only; omega⟩
   simp only
   rw [show (i+1).toNat=i.toNat+1 by omega,tk,hr,g2,blk,e2]
 ·simp only [decide_eq_false_iff_not] at hge
  rw [g2,show i.toNat=eQ.length by omega]
theorem BA {l:List Int} (h:∀ x∈l,(λn=>(Lit.int .u8 n).wf=true) x):∀ x∈l,0<=x/\x<=255:=λx hx=>by
 have h1:(Lit.int .u8 x).wf=true:=h x hx
 simp [Lit.wf,IntKind.min,IntKind.max,IntKind.signed,IntKind.bits] at h1
 omega
end
noncomputable section
theorem mu {c p s:Int} (hc:1<=c/\c<=8) (hp:Rg p) (hs:0<=s/\s<=31):0<=eY c p s/\eY c p s<=31:=by
 unfold eY
 split
 ·rename_i h
  unfold Rg at hp
  rcases (by omega:p=0\/p=1\/p=2\/p=3\/p=4\/p=5\/p=6\/p=7) with rfl | rfl | rfl | rfl | rfl | rfl | rfl | rfl <;> decide
 ·exact hs
theorem CM {n:Int} (h:1<=n/\n<=12):1<=rx n/\rx n<=11:=by
 rcases (by omega:n=1\/n=2\/n=3\/n=4\/n=5\/n=6\/n=7\/n=8\/n=9\/n=10\/n=11\/n=12) with rfl | rfl | rfl | rfl | rfl | rfl | rfl | rfl | rfl | rfl | rfl | rfl <;> decide
def All (l:List Instr):Prop:=∀ x∈l,IOk x
theorem All.nil:All []:=λx h=>by cases h
theorem All.cons {x:Instr} {l:List Instr} (h:IOk x) (k:All l):All (x::l):=λy hy=>by
 rcases List.mem_cons.1 hy with rfl | hy
 ·exact h
 ·exact k y hy
theorem All.app {l l':List Instr} (h:All l) (k:All l'):All (l++l'):=λy hy=>(List.mem_append.1 hy).elim (h y) (k y)
theorem q0:(0:Int)<=0/\(0:Int)<=31:=by decide
theorem q2:(0:Int)<=2/\(2:Int)<=31:=by decide
theorem q7:(0:Int)<=7/\(7:Int)<=31:=by decide
theorem j9 {d s i:Int} (hd:0<=d/\d<=31) (hs:0<=s/\s<=31) (hi : -2048<=i/\i<=2047) {op:Int} (ho:12<=op/\op<=15):IOk ⟨op,d,s,0,i⟩:=⟨hd,hs,q0,.inr (.inl ⟨ho.1,ho.2,rfl,hi.1,hi.2⟩)⟩
theorem qA {c p s:Int} (hc:1<=c/\c<=8) (hp:Rg p) (hs:0<=s/\s<=31):All (rdL c p s):=by
 unfold rdL Rg at *
 split
 ·exact .nil
 ·exact .cons (j9 hs (by omega) (by omega) (by omega)) .nil
theorem uU {c p:Int} (hc:1<=c/\c<=8) (hp:Rg p):All (wrL c p):=by
 unfold wrL Rg at *
 split
 ·exact .nil
 ·exact .cons ⟨q0,q2,q7,.inr (.inr (.inl ⟨rfl,rfl,by show -2048<=4*(p-c); omega,by show 4*(p-c)<=2047; omega⟩))⟩ .nil
theorem oI {n:Int} (h:0<=n/\n<=5):All (nw n):=.cons (j9 (by omega) (by omega) (by omega) (by omega)) (.cons (j9 (by omega) (by omega) (by omega) (by omega)) .nil)
theorem yS {d n:Int} (hd:0<=d/\d<=31) (hn:Wd n):All (lr d n):=by
 unfold lr
 split
 ·exact .cons (j9 hd (by omega) (by omega) (by omega)) .nil
 ·refine .cons ?_ (.cons (j9 hd hd ?_ (by omega)) .nil)
  ·exact ⟨hd,q0,q0,.inr (.inr (.inr (.inr (.inl ⟨rfl,rfl,rfl,by show 0<=rv n; unfold rv; omega,by show rv n<=1048575; unfold rv; omega⟩))))⟩
  ·unfold pT; split <;> omega
theorem Am {q:ah} {m c off:Int} (hq:QOk m q) (hc:1<=c/\c<=8) (ho : -1000000<=off/\off<=1000000) (he:off%2=0):All (gC q c off):=by
 unfold QOk at hq
 unfold gC
 split
 ·rename_i h1
  simp [h1] at hq
  exact (yS (mu hc (hq.1) (by omega)) (hq.2.2.2)).app (uU hc (hq.1))
 split
 ·rename_i h1 h2
  simp [h2] at hq
  exact ((qA hc (hq.2.1) (by omega)).app (.cons (j9 (mu hc (hq.1) (by omega)) (mu hc (hq.2.1) (by omega)) (by omega) (by omega)) .nil)).app (uU hc (hq.1))
 split
 ·rename_i h1 h2 h3
  simp [h3] at hq
  have r1:=mu (c:=c) (p:=q.Dst) (s:=7) hc (hq.1) (by omega)
  have r2:=mu (c:=c) (p:=q.A) (s:=5) hc (hq.2.1) (by omega)
  have r3:=mu (c:=c) (p:=q.B) (s:=6) hc (hq.2.2.1) (by omega)
  have r4:=CM (n:=q.N) (by omega)
  refine (((qA hc (hq.2.1) (by omega)).app (qA hc (hq.2.2.1) (by omega))).app (.cons ⟨r1,r2,r3,.inl ⟨r4.1,r4.2,rfl⟩⟩ .nil) |>.app ?_).app (uU hc (hq.1))
  ·split
   ·exact .cons (j9 r1 r1 (by omega) (by omega)) .nil
   ·exact .nil
 split
 ·exact .cons ⟨q0,q0,q0,.inr (.inr (.inr (.inr (.inr (.inl ⟨rfl,rfl,rfl,by show -1048576<=off; omega,by show off<=1048574; omega,he⟩)))))⟩ .nil
 split
 ·rename_i h1 h2 h3 h4 h5
  simp [h5] at hq
  have r2:=mu (c:=c) (p:=q.A) (s:=5) hc (hq.2.1) (by omega)
  have l1:=lu c q.A 5
  refine ((qA hc (hq.2.1) (by omega)).app (.cons ⟨q0,r2,q0,.inr (.inr (.inr (.inl ⟨.inr rfl,rfl,(by decide:(-4096:Int)<=8),(by decide:(8:Int)<=4094),(rfl:(8:Int)%2=0)⟩)))⟩ .nil)).app (.cons ?_ .nil)
  refine ⟨q0,q0,q0,.inr (.inr (.inr (.inr (.inr (.inl ⟨rfl,rfl,rfl,?_,?_,?_⟩)))))⟩
  ·show -1048576<=off-4*(((rdL c q.A 5).length:Int)+1); omega
  ·show off-4*(((rdL c q.A 5).length:Int)+1)<=1048574; omega
  ·show (off-4*(((rdL c q.A 5).length:Int)+1))%2=0; omega
 split
 ·rename_i h1 h2 h3 h4 h5 h6
  simp [h6] at hq
  have r2:=mu (c:=c) (p:=q.A) (s:=5) hc (hq.2.1) (by omega)
  exact ((qA hc (hq.2.1) (by omega)).app (.cons (j9 (by omega) r2 (by omega) (by omega)) (.cons (j9 (by omega) (by omega) (by omega) (by omega)) .nil))).app (oI (by omega))
 split
 ·rename_i h1 h2 h3 h4 h5 h6 h7
  simp [h7] at hq
  exact (((All.cons (j9 (by omega) (by omega) (by omega) (by omega)) .nil).app (oI (by omega))).app (.cons (j9 (mu hc (hq.1) (by omega)) (by omega) (by omega) (by omega)) .nil)).app (uU hc (hq.1))
 split
 ·exact oI (by omega)
 split
 ·rename_i h1 h2 h3 h4 h5 h6 h7 h8 h9
  simp [h9] at hq
  have r2:=mu (c:=c) (p:=q.A) (s:=5) hc (hq.2.1) (by omega)
  exact ((qA hc (hq.2.1) (by omega)).app (.cons (j9 (by omega) r2 (by omega) (by omega)) .nil)).app (oI (by omega))
 ·exact oI (by omega)
theorem BB (eQ:List ah) (c:Int) (i:Nat):ny eQ c i%2=0:=by
 unfold ny; split <;> omega
theorem BC {eQ:List ah} (hc:COk eQ) {c:Int} (h:1<=c/\c<=8):∀ i,i<=eQ.length->All (tk eQ c i)
 | 0,_=>.nil
 | i+1,hi=>by
  have e:qAt eQ i=eQ[i]:=ry (List.getElem?_eq_getElem (by omega))
  have hq:=hc.q _ (List.mem_of_getElem? (List.getElem?_eq_getElem (show i<eQ.length by omega)))
  refine (BC hc h i (by omega)).app ?_
  unfold blk
  rw [e]
  exact Am hq h (wQ hc (by omega)) (BB eQ c i)
end
noncomputable section
variable {b:List Int} {p m:Int}
theorem BD (hb:By b) {k:Nat} (hk:20<=k) (h0:0<=p) (hm:p<=m) (hp:m<=100000):Dr (jX k ⟨b,p⟩) (m+150001) λl=>1<=l.length/\l.length<=3/\∀ c∈l,COk c/\c.length<=40:=by
 unfold jX
 refine .bind (bE hb h0 hm (by omega) (by omega) (by omega)) λx p1 hx h1 h2=>?_
 dsimp only
 obtain ⟨n,hn⟩:∃ n:Int,n=1+x:=⟨_,rfl⟩
 have hw:w64 (1+x)=n:=by rw [bf (by omega) (by omega),hn]
 refine .tot (P:=λr=>0<=r.2/\r.2<=m+1+150000/\(r.1.length:Int)=n/\∀ c∈r.1,COk c/\c.length<=40) (.iter (λs=>0<=s.2.1/\s.2.1<=n/\0<=s.2.2/\s.2.2<=m+1+50000*s.2.1/\(s.1.length:Int)=s.2.1/\∀ c∈s.1,COk c/\c.length<=40) (λs=>(n-s.2.1).toNat) ⟨by simp,by simp only; omega,h1,by simp only; omega,by simp,by simp⟩ λs hs=>?_) λr hr=>?_
 ·obtain ⟨out,i,q⟩:=s
  obtain ⟨g0,g1,g2,g3,g4,g5⟩:=hs
  simp only at g0 g1 g2 g3 g4 g5
  unfold mb
  dsimp only
  rw [hw,ce g0 (by omega)]
  refine .sel (λh=>?_) λh=>.inr (show 0<=q/\q<=m+1+150000/\(out.length:Int)=n/\∀ c∈out,COk c/\c.length<=40 from ?_)
  ·simp only [decide_eq_true_eq] at h
   refine .bind (CI hb hk g2 g3 (by omega)) λy hy=>.bind (.app (l:=out) (by simp; omega)) λr hr=>.inl ?_
   subst hr
   refine ⟨⟨by simp only; omega,by simp only; omega,hy.1,by have:=hy.2.1; simp only; omega,by simp; omega,λz hz=>?_⟩,by simp only; omega⟩
   simp only [List.mem_append,List.mem_singleton] at hz
   rcases hz with hz | rfl
   ·exact g5 z hz
   ·exact hy.2.2
  ·simp only [decide_eq_false_iff_not] at h
   exact ⟨g2,by omega,by omega,g5⟩
 ·exact .pure ⟨by have:=hr.2.2.1; omega,by have:=hr.2.2.1; omega,hr.2.2.2⟩ hr.1 (by have:=hr.2.1; omega)
end
noncomputable section
theorem An {x:Instr} (h:IOk x):bA x=some true:=by
 obtain ⟨b,v1,v2⟩:=xS x
 rw [qu,decide_eq_true h] at v1
 rw [v2,<-o9 v1]
theorem vC {r1 r2:Int} (h1:1<=r1/\r1<=4) (h2:1<=r2/\r2<=4):ja [r1,r2]=true:=by
 have s0:bS [r1,r2] 0=some (.inl 1):=by
  unfold bS aE
  rw [show nth [r1,r2] 0=some r1 from rfl]
  simp only [ob9]
  rw [decide_eq_true (show r1>=1 from h1.1),decide_eq_true (show r1<=4 from h1.2)]
  rfl
 have s1:bS [r1,r2] 1=some (.inl 2):=by
  unfold bS aE
  rw [show nth [r1,r2] 1=some r2 from rfl]
  simp only [ob9]
  rw [decide_eq_true (show r2>=1 from h2.1),decide_eq_true (show r2<=4 from h2.2)]
  rfl
 have s2:bS [r1,r2] 2=some (.inr (.inr ())):=rfl
 unfold ja dP
 rw [c6,s0]
 simp only
 rw [c6,s1]
 simp only
 rw [c6,s2]
 rfl
end
noncomputable section
theorem oe {l:List Int} (hl:l.length<=1048576):f8 l l=some true:=by
 unfold f8
 refine ab (by simp) ?_
 have e:=fj (f:=go l l) (l:=l) (λ_=>true) (by omega) (λi hi=>by
  unfold go
  exact ai (by simpa using hi) (aa (cJ hi) (aa (cJ hi) (ab (by simp) rfl)))) (by
  unfold go
  exact ab (by simp) rfl)
 rw [show l.all (λ_=>true)=true by simp] at e
 exact aa e rfl
theorem vD {l:List Int} (h:∀ x∈l,Wd x):l.all wdB=true:=by
 rw [List.all_eq_true]
 intro x hx
 have:=h x hx
 unfold Wd at this
 unfold wdB
 simp
 exact this
theorem zL {r:List Int} {pc:Int} {m:List Int} (hM:MOK r pc m) (h0:r[0]?=some 0):dS ⟨r,pc,m⟩=some true/\ln ⟨r,pc,m⟩=some true:=by
 have h32:=hM.r32
 have h10:=hM.m10
 have hn:=cJ (l:=r) (i:=0) (by omega)
 have g0:(r[0]'(by omega)==0)=true:=by
  rw [List.getElem?_eq_getElem (by omega)] at h0
  rw [o9 h0]; rfl
 have w1:di r=some true:=(na r (by omega)).trans (by rw [vD hM.wr])
 have w2:di m=some true:=(na m (by omega)).trans (by rw [vD hM.wm])
 have w3:da pc=some true:=by
  have:=hM.wp
  unfold Wd at this
  unfold da
  rw [decide_eq_true (by omega),decide_eq_true (by omega)]; rfl
 have key:dS ⟨r,pc,m⟩=some true:=by
  unfold dS
  exact aa (y:=true) (ai (by simp [h32]) (aa w1 rfl)) (aa (y:=true) (ai rfl (aa hn (congrArg some g0))) (aa (y:=true) (ai rfl (aa w3 rfl)) (aa (y:=true) (ai (by simp; omega) (aa w2 rfl)) rfl)))
 obtain ⟨b,v1,v2,_⟩:=En r pc m (by omega) (by omega)
 rw [v2] at key
 rw [v1,v2]
 exact ⟨key,key⟩
theorem Dc:∀ {l:List Instr} {ws:List Int},wl l=some ws->∀ x∈ws,Wd x
 | [],ws,h=>by simp only [wl,Option.some.injEq] at h; subst h; intro x hx; cases hx
 | x::xs,ws,h=>by
  simp only [wl] at h
  split at h
  ·rename_i w ws' h1 h2
   injection h with h
   subst h
   intro y hy
   rcases List.mem_cons.1 hy with rfl | hy
   ·rcases ru x with ⟨r,_,_,e⟩ | ⟨r,_,_,e⟩
    ·rw [e] at h1
     rw [<-o9 h1]
     exact rT r
    ·rw [e] at h1; cases h1
   ·exact Dc h2 y hy
  ·cases h
end
noncomputable section
theorem Es {k f3 f7:Nat} (hk:k<21) (h3:k<18->f3=t3 k) (h7:k<11->f7=t7 k):So (tO k) f3 f7=k+1:=by
 rcases Nat.lt_or_ge k 11 with h | h
 ·obtain rfl:=h3 (by omega)
  obtain rfl:=h7 h
  rcases (by omega:k=0\/k=1\/k=2\/k=3\/k=4\/k=5\/k=6\/k=7\/k=8\/k=9\/k=10) with rfl | rfl | rfl | rfl | rfl | rfl | rfl | rfl | rfl | rfl | rfl <;> rfl
 rcases Nat.lt_or_ge k 18 with h' | h'
 ·obtain rfl:=h3 h'
  rcases (by omega:k=11\/k=12\/k=13\/k=14\/k=15\/k=16\/k=17) with rfl | rfl | rfl | rfl | rfl | rfl | rfl <;> rfl
 ·rcases (by omega:k=18\/k=19\/k=20) with rfl | rfl | rfl <;> rfl
theorem DT {i:Instr} {r:Nat} (hr:r<4294967296) (h:Fl i r) (he:cB i=some (r:Int)):dp (r:Int)=some (i,true):=by
 obtain ⟨x,b,d1,d2,_⟩:=yx r hr
 have key:d7 (r:Int)=some (i,true):=by
  obtain ⟨k,hk,ho,f1,f2,f3,f4⟩:=h
  have hop:mc (r:Int)=some ((k:Int)+1):=by
   rw [zB r hr]
   have e1:r/2^0%2^7=tO k:=by simp only [Nat.pow_zero,Nat.div_one,Nat.reducePow]; exact f1
   have e2:=Es (f3:=r/2^12%2^3) (f7:=r/2^25%2^7) hk (λh=>by simp only [Nat.reducePow]; exact f2 h) (λh=>by simp only [Nat.reducePow]; exact f3 h)
   rw [e1,e2]
   rfl
  have e1:(decide ((r:Int)>=0)&&decide ((r:Int)<=4294967295))=true:=by rw [decide_eq_true (by omega),decide_eq_true (by omega)]; rfl
  unfold d7 aE
  rw [e1]
  rw [ho] at f4
  have hz:((k:Int)+1==0)=false:=by simp; omega
  simp only [ob9,Bool.not_true,hop,f4,he,hz,sel,bne_self_eq_false]
 rw [d1] at key
 rw [d2]
 exact key
theorem BE {x:Instr} {w:Int} (h:ue x=some w):∃ u:Nat,ch w=some (u:Int)/\dp (u:Int)=some (x,true):=by
 obtain ⟨r,b,h1,h2,h3,h4,h5,h6,h7⟩:=yD x
 unfold ue at h
 rw [h3] at h
 cases b
 ·cases h
 ·obtain rfl:=o9 h
  have hb:=rT (r:Int)
  obtain ⟨u,u1,u2,u3,_⟩:=lq (x:=cA (r:Int)) hb.1 hb.2
  have:u=r:=by
   have:cA (r:Int)%4294967296=(r:Int):=by unfold cA; split <;> omega
   omega
  subst this
  exact ⟨u,u3,DT h1 (h7 rfl) (h4 rfl)⟩
theorem xl:∀ {l:List Instr} {ws:List Int},wl l=some ws->∀ (i:Nat) (x:Instr),l[i]?=some x->∃ (w:Int) (u:Nat),ws[i]?=some w/\ch w=some (u:Int)/\dp (u:Int)=some (x,true)
 | [],ws,h,i,x,hx=>by simp at hx
 | y::ys,ws,h,i,x,hx=>by
  simp only [wl] at h
  split at h
  ·rename_i w ws' h1 h2
   injection h with h
   subst h
   cases i with
   | zero =>
    obtain rfl:y=x:=by simpa using hx
    obtain ⟨u,u1,u2⟩:=BE h1
    exact ⟨w,u,rfl,u1,u2⟩
   | succ i=>exact xl h2 i x (by simpa using hx)
  ·cases h
theorem CN (l:List Instr) (hl:l.length<=1000):(wl l=none/\fV l=some (⟨[],0,[]⟩,false)/\js l=some (⟨[],0,[]⟩,false)) \/
  ∃ ws,wl l=some ws/\fV l=some (⟨(List.replicate 32 (0:Int)).set 2 (4*((l.length:Int)+1)),4,0::ws++List.replicate 12 0⟩,true)/\js l=some (⟨(List.replicate 32 (0:Int)).set 2 (4*((l.length:Int)+1)),4,0::ws++List.replicate 12 0⟩,true):=by
 have w:=A8 l (by omega)
 obtain ⟨m',c⟩:=yE l [0] (by simp; omega)
 have hmk:mk 8 32 (0:Int)=some (List.replicate 32 0):=rfl
 cases hw:wl l with
 | none =>
  rw [hw] at w c
  refine .inl ⟨rfl,?_,?_⟩
  ·unfold fV
   exact aa w (ai rfl rfl)
  ·unfold js
   exact ab (by simp; omega) (aa c (ai rfl rfl))
 | some ws =>
  rw [hw] at w c
  have hlen:=oG hw
  have ha:app 8 [0] ws=some ([0]++ws):=dN (by simp; omega)
  have hz:xJ 8 ([0]++ws) 12 0=some ([0]++ws++List.replicate 12 0):=Cu (k:=12) (by simp; omega)
  have e1:w64 (4*((([0]++ws:List Int).length:Nat):Int))=4*((l.length:Int)+1):=by
   rw [List.length_append,List.length_singleton,hlen,aO (by omega) (by omega)]; omega
  have hu:upd (List.replicate 32 (0:Int)) 2 (w64 (4*((([0]++ws:List Int).length:Nat):Int)))=some ((List.replicate 32 (0:Int)).set 2 (4*((l.length:Int)+1))):=by rw [e1]; rfl
  have hn:nth (List.replicate 32 (0:Int)) 2=some 0:=rfl
  refine .inr ⟨ws,rfl,?_,?_⟩
  ·unfold fV
   refine aa w (ab ?_ (aa hmk (aa ha (aa hn (aa hu (aa hz rfl))))))
   simp only [Bool.not_true,Bool.false_or]
   rw [aO (x:=(ws.length:Int)+1) (by omega) (by omega),aO (by omega) (by omega)]
   simp; omega
  ·unfold js
   exact ab (by simp; omega) (aa c (ab rfl (aa hmk (aa hn (aa hu (aa hz rfl))))))
theorem BG {l:List Instr} {ws:List Int} (hl:l.length<=1000) (hw:wl l=some ws):MOK ((List.replicate 32 (0:Int)).set 2 (4*((l.length:Int)+1))) 4 (0::ws++List.replicate 12 0):=by
 have hlen:=oG hw
 refine ⟨rfl,by simp; omega,?_,?_,by unfold Wd; omega⟩
 ·intro x hx
  unfold Wd
  rcases List.mem_or_eq_of_mem_set hx with hm | rfl
  ·have:=List.eq_of_mem_replicate hm; omega
  ·omega
 ·intro x hx
  rw [List.cons_append] at hx
  rcases List.mem_cons.1 hx with rfl | hx
  ·unfold Wd; omega
  ·rcases List.mem_append.1 hx with hx | hx
   ·exact Dc hw x hx
   ·have:=List.eq_of_mem_replicate hx; unfold Wd; omega
end
noncomputable section
theorem c7 {α:Type} {l:List α} {n:Nat} {x:α} (h:l[n]?=some x):nth l (n:Int)=some x:=by
 unfold nth
 rw [if_neg (by omega)]
 simpa using h
def mp {α β:Type} (g:α->Option β):List α->Option (List β)
 | []=>some []
 | x::xs=>match g x,mp g xs with
  | some y,some ys=>some (y::ys)
  | _,_=>none
theorem BH {α β:Type} {g:α->Option β}:∀ {l:List α} {ys:List β},mp g l=some ys->ys.length=l.length/\∀ (i:Nat) x,l[i]?=some x->∃ y,g x=some y/\ys[i]?=some y
 | [],ys,h=>by simp only [mp,Option.some.injEq] at h; subst h; exact ⟨rfl,λi x hx=>by simp at hx⟩
 | x::xs,ys,h=>by
  simp only [mp] at h
  split at h
  ·rename_i y ys' h1 h2
   injection h with h
   subst h
   obtain ⟨k1,k2⟩:=BH h2
   refine ⟨by simp [k1],λi z hz=>?_⟩
   cases i with
   | zero =>
    obtain rfl:x=z:=by simpa using hz
    exact ⟨y,h1,rfl⟩
   | succ i=>exact k2 i z (by simpa using hz)
  ·cases h
theorem zM {α β ρ:Type} {f:Int×List β->Option ((Int×List β)⊕(ρ⊕List β))} {l:List α} {g:α->Option β} {z:ρ}
  (h1:∀ (i:Nat) acc x,l[i]?=some x->acc.length=i->f ((i:Int),acc)=some (match g x with | some y=>.inl (((i+1:Nat):Int),acc++[y]) | none=>.inr (.inl z)))
  (h2:∀ acc,acc.length=l.length->f ((l.length:Int),acc)=some (.inr (.inr acc))):bB f (0,[])=some (match mp g l with | some ys=>.inr ys | none=>.inl z):=by
 have key:∀ (suf pre:List α) (acc:List β),l=pre++suf->acc.length=pre.length->bB f ((pre.length:Int),acc)=some (match mp g suf with | some ys=>.inr (acc++ys) | none=>.inl z):=by
  intro suf
  induction suf with
  | nil =>
   intro pre acc hl ha
   rw [List.append_nil] at hl
   subst hl
   rw [c6,h2 acc ha]
   simp [mp]
  | cons x xs ih =>
   intro pre acc hl ha
   have hx:l[pre.length]?=some x:=by rw [hl,List.getElem?_append_right (Nat.le_refl _),Nat.sub_self]; rfl
   rw [c6,h1 _ acc x hx ha]
   simp only [mp]
   cases hg:g x with
   | none=>simp
   | some y =>
    simp only
    have:=ih (pre++[x]) (acc++[y]) (by rw [hl,List.append_assoc]; rfl) (by simp [ha])
    rw [List.length_append,List.length_singleton] at this
    rw [this]
    cases mp g xs with
    | none=>rfl
    | some ys=>simp
 have:=key l [] [] rfl rfl
 simpa using this
theorem mg {α β:Type} {f:List β×Int->Option ((List β×Int)⊕List β)} {l:List α} {g:α->β} (h1:∀ (i:Nat) acc x,l[i]?=some x->acc.length=i->f (acc,(i:Int))=some (.inl (acc++[g x],((i+1:Nat):Int))))
  (h2:∀ acc,acc.length=l.length->f (acc,(l.length:Int))=some (.inr acc)):bB f ([],0)=some (l.map g):=by
 have key:∀ (suf pre:List α) (acc:List β),l=pre++suf->acc.length=pre.length->bB f (acc,(pre.length:Int))=some (acc++suf.map g):=by
  intro suf
  induction suf with
  | nil =>
   intro pre acc hl ha
   rw [List.append_nil] at hl
   subst hl
   rw [c6,h2 acc ha]
   simp
  | cons x xs ih =>
   intro pre acc hl ha
   have hx:l[pre.length]?=some x:=by rw [hl,List.getElem?_append_right (Nat.le_refl _),Nat.sub_self]; rfl
   rw [c6,h1 _ acc x hx ha]
   simp only
   have:=ih (pre++[x]) (acc++[g x]) (by rw [hl,List.append_assoc]; rfl) (by simp [ha])
   rw [List.length_append,List.length_singleton] at this
   rw [this]
   simp
 exact key l [] [] rfl rfl
end
noncomputable section
def hM (n:Nat) (ws:List Int):al:=⟨(List.replicate 32 (0:Int)).set 2 (4*((n:Int)+1)),4,0::ws++List.replicate 12 0⟩
def hN (l:List Instr):Option al:=match wl l with
 | some ws=>some (hM l.length ws)
 | none=>none
theorem Dd {l:List Instr} (hl:l.length<=1000):fV l=some (match hN l with | some m=>(m,true) | none=>(⟨[],0,[]⟩,false))/\js l=some (match hN l with | some m=>(m,true) | none=>(⟨[],0,[]⟩,false)):=by
 rcases CN l hl with ⟨h,e1,e2⟩ | ⟨ws,h,e1,e2⟩
 ·unfold hN; rw [h]; exact ⟨e1,e2⟩
 ·unfold hN; rw [h]; exact ⟨e1,e2⟩
theorem qB {rooms:List Int} (h:rooms.length<=1000):ij rooms=some (rooms.map λr=>Box.mk r [])/\ik rooms=some (rooms.map λr=>Box.mk r []):=by
 refine ⟨?_,?_⟩
 ·unfold ij
  refine aa (mg (λi acc x hx ha=>?_) λacc ha=>?_) rfl
  ·have hi:i<rooms.length:=by rcases Nat.lt_or_ge i rooms.length with h | h; exact h; rw [List.getElem?_eq_none h] at hx; cases hx
   unfold jp
   exact ai (by simpa using hi) (aa (c7 hx) (aa (dN (by simp; omega)) (by rw [dH (by omega)])))
  ·unfold jp
   exact ab (by simp) rfl
 ·unfold ik
  refine aa (mg (λi acc x hx ha=>?_) λacc ha=>?_) rfl
  ·have hi:i<rooms.length:=by rcases Nat.lt_or_ge i rooms.length with h | h; exact h; rw [List.getElem?_eq_none h] at hx; cases hx
   unfold jq
   exact ai (by simpa using hi) (aa (c7 hx) (aa (dN (by simp; omega)) (by rw [dH (by omega)])))
  ·unfold jq
   exact ab (by simp) rfl
def sqR (rooms:List Int) (rW:List (List Instr)):cg×Bool:=
 if ja rooms=true/\1<=rW.length/\rW.length<=3 then match mp hN rW with
  | some ms=>(cg.mk ms (rooms.map λr=>Box.mk r []) 0 0 [],true)
  | none=>(cg.mk [] [] 0 0 [],false)
 else (cg.mk [] [] 0 0 [],false)
theorem BI {rooms:List Int} {rW:List (List Instr)} (h1:rooms.length<=1000) (h2:rW.length<=1000) (h3:∀ x∈rW,x.length<=1000):ip rooms rW=some (sqR rooms rW)/\qV rooms rW=some (sqR rooms rW):=by
 obtain ⟨b,r1,r2⟩:=rV rooms (by omega)
 have hrb:ja rooms=b:=by unfold ja; rw [r1]; rfl
 obtain ⟨b1,b2⟩:=qB h1
 have L1:=zM (f:=gA rW) (l:=rW) (g:=hN) (z:=(cg.mk [] [] 0 0 [],false)) (λi acc x hx ha=>by
  have hi:i<rW.length:=by rcases Nat.lt_or_ge i rW.length with h | h; exact h; rw [List.getElem?_eq_none h] at hx; cases hx
  have hh:=(Dd (h3 x (List.mem_of_getElem? hx))).1
  unfold gA
  refine ai (by simpa using hi) (aa (c7 hx) (aa hh ?_))
  cases hN x with
  | none=>exact ai rfl rfl
  | some m=>exact ab rfl (aa (dN (by simp; omega)) (by rw [dH (by omega)]))) (λacc ha=>by
  unfold gA
  exact ab (by simp) rfl)
 have L2:=zM (f:=jt rW) (l:=rW) (g:=hN) (z:=(cg.mk [] [] 0 0 [],false)) (λi acc x hx ha=>by
  have hi:i<rW.length:=by rcases Nat.lt_or_ge i rW.length with h | h; exact h; rw [List.getElem?_eq_none h] at hx; cases hx
  have hh:=(Dd (h3 x (List.mem_of_getElem? hx))).2
  unfold jt
  refine ai (by simpa using hi) (aa (c7 hx) (aa hh ?_))
  cases hN x with
  | none=>exact ai rfl rfl
  | some m=>exact ab rfl (aa (dN (by simp; omega)) (by rw [dH (by omega)]))) (λacc ha=>by
  unfold jt
  exact ab (by simp) rfl)
 unfold ip qV aE sqR
 rw [r1,r2,hrb]
 simp only [ob9]
 cases b
 ·exact ⟨ai rfl rfl,aa (y:=true) (ai rfl rfl) (ai rfl rfl)⟩
 rcases (Decidable.em (1<=rW.length/\rW.length<=3)).symm with hn | hn
 ·rw [if_neg (by simpa using hn)]
  have c1:(decide ((rW.length:Int)>=1)&&decide ((rW.length:Int)<=3))=false:=by simp; omega
  exact ⟨ai (by simp; omega) rfl,aa (y:=true) (ab rfl (by rw [c1]; rfl)) (ai rfl rfl)⟩
 ·rw [if_pos (by simpa using hn)]
  have c1:(decide ((rW.length:Int)>=1)&&decide ((rW.length:Int)<=3))=true:=by rw [decide_eq_true (by omega),decide_eq_true (by omega)]; rfl
  refine ⟨ab (by simp; omega) (aa b1 (aa L1 ?_)),aa (y:=false) (ab rfl (by rw [c1]; rfl)) (ab rfl (aa b2 (aa L2 ?_)))⟩
  ·cases mp hN rW <;> rfl
  ·cases mp hN rW <;> rfl
theorem xm {b:Box} (h:b.Items.length<=1048576):lf b b=some true:=by
 unfold lf
 exact aa (y:=true) (ai (by simp) (aa (oe h) rfl)) rfl
theorem vE {l:List Box} (hl:l.length<=1048576) (h:∀ b∈l,b.Items.length<=1048576):i6 l l=some true:=by
 unfold i6
 refine ab (by simp) ?_
 have e:=fj (f:=fT l l) (l:=l) (λ_=>true) (by omega) (λi hi=>by
  unfold fT
  exact ai (by simpa using hi) (aa (cJ hi) (aa (cJ hi) (aa (xm (b:=l[i]) (h _ (List.getElem_mem hi))) (ab rfl rfl))))) (by
  unfold fT
  exact ab (by simp) rfl)
 rw [show l.all (λ_=>true)=true by simp] at e
 exact aa e rfl
end
noncomputable section
def st (regs:List Int) (rd v:Int):List Int:=if rd=0 then regs else regs.set rd.toNat v
theorem rz {regs:List Int} {pc:Int} {mem:List Int} (h32:regs.length=32) {rd v:Int} (hr:0<=rd/\rd<=31):et (al.mk regs pc mem) rd v=some (st regs rd v):=by
 obtain ⟨d,rfl,hd⟩:=kl hr.1 hr.2
 unfold et st
 cases h0:((d:Int) !=0)
 ·rw [if_pos (by simpa using h0)]; exact ab rfl rfl
 ·rw [if_neg (by simpa using h0)]
  exact ai rfl (aa (cJ (l:=regs) (i:=d) (by omega)) (aa (sQ (l:=regs) (i:=d) (by omega) v) (by simp)))
theorem DU {regs:List Int} {rd v:Int}:(st regs rd v).length=regs.length:=by unfold st; split <;> simp
theorem sa {regs:List Int} {rd v:Int} (hr:0<=rd) {k:Nat} (h:(k:Int)≠rd):(st regs rd v)[k]?=regs[k]?:=by
 unfold st
 split
 ·rfl
 ·rw [List.getElem?_set_ne (by omega)]
theorem uc {regs:List Int} {k:Nat} {v:Int} (h0:k≠0) (hk:k<regs.length):(st regs (k:Int) v)[k]?=some v:=by
 unfold st
 rw [if_neg (by omega),Int.toNat_natCast,List.getElem?_set_self hk]
theorem Et {regs:List Int} {rd v:Int} (hw:∀ x∈regs,Wd x) (hv:Wd v):∀ x∈st regs rd v,Wd x:=by
 unfold st
 split
 ·exact hw
 ·intro x hx
  rcases List.mem_or_eq_of_mem_set hx with h | h
  ·exact hw x h
  ·exact h▸hv
section
variable {regs mem:List Int} {pc rd rs rt imm a b:Int}
theorem pW (hM:MOK regs pc mem) (h0:0<=pc) (h1:pc<=40000) (hd:0<=rd/\rd<=31) (ha:nth regs rs=some a):de (al.mk regs pc mem) ⟨12,rd,rs,rt,imm⟩=some (true,st regs rd (cA (w64 (a+imm))),pc+4,mem):=by
 obtain ⟨n1,n2,n3,n4⟩:=eO hM h0 h1
 have k1:=rz (pc:=pc) (mem:=mem) hM.r32 hd (v:=cA (w64 (a+imm)))
 exact aa ha (aa (y:=.inl (st regs rd (cA (w64 (a+imm))))) (aa (y:=false) rfl (ab rfl (aa (y:=false) rfl (ab rfl (ai rfl (aa (dg _) (aa k1 rfl))))))) (by show some (true,_,w64 (pc+4),mem)=_; rw [n3]))
theorem BJ {k:Nat} {v:Int} (hk:k<11) (hM:MOK regs pc mem) (h0:0<=pc) (h1:pc<=40000) (hd:0<=rd/\rd<=31) (ha:nth regs rs=some a) (hb:nth regs rt=some b) (f2:pQ ((k:Int)+1) a b=some v):de (al.mk regs pc mem) ⟨(k:Int)+1,rd,rs,rt,imm⟩=some (true,st regs rd v,pc+4,mem):=by
 obtain ⟨n1,n2,n3,n4⟩:=eO hM h0 h1
 have k1:=rz (pc:=pc) (mem:=mem) hM.r32 hd (v:=v)
 have c:∀ n:Int,12<=n->(((k:Int)+1)==n)=false:=λn hn=>by simp; omega
 exact aa ha (aa (y:=.inl (st regs rd v)) (aa (y:=false) (ab (c 14 (by decide)) (congrArg some (c 16 (by decide)))) (ab rfl (aa (y:=false) (ab (c 15 (by decide)) (ab (c 20 (by decide)) (ab (c 17 (by decide)) (congrArg some (c 18 (by decide)))))) (ab rfl (ab (c 12 (by decide)) (ab (c 13 (by decide)) (ab (c 19 (by decide)) (aa hb (aa f2 (aa k1 rfl))))))))))
  (by show some (true,_,w64 (pc+4),mem)=_; rw [n3]))
theorem BK (hM:MOK regs pc mem) (h0:0<=pc) (h1:pc<=40000) (hd:0<=rd/\rd<=31) (ha:nth regs rs=some a):de (al.mk regs pc mem) ⟨19,rd,rs,rt,imm⟩=some (true,st regs rd (cA (w64 (imm*4096))),pc+4,mem):=by
 obtain ⟨n1,n2,n3,n4⟩:=eO hM h0 h1
 have k1:=rz (pc:=pc) (mem:=mem) hM.r32 hd (v:=cA (w64 (imm*4096)))
 exact aa ha (aa (y:=.inl (st regs rd (cA (w64 (imm*4096))))) (aa (y:=false) rfl (ab rfl (aa (y:=false) rfl (ab rfl (ab rfl (ab rfl (ai rfl (aa (dg _) (aa k1 rfl))))))))) (by show some (true,_,w64 (pc+4),mem)=_; rw [n3]))
theorem CO (hM:MOK regs pc mem) (h0:0<=pc) (h1:pc<=40000) (hd:0<=rd/\rd<=31) (ha:nth regs rs=some a) (wa:Wd a):de (al.mk regs pc mem) ⟨13,rd,rs,rt,1⟩=some (true,st regs rd (if a=0 then 1 else 0),pc+4,mem):=by
 obtain ⟨n1,n2,n3,n4⟩:=eO hM h0 h1
 obtain ⟨u1,b1,b2,p1,p2⟩:=lq wa.1 wa.2
 obtain ⟨u2,b3,b4,p3,p4⟩:=lq (x:=1) (by omega) (by omega)
 have f2:fN (decide ((u1:Int)<(u2:Int)))=some (if a=0 then 1 else 0):=by
  obtain ⟨w1,w2⟩:=wa
  by_cases h:a=0
  ·rw [if_pos h,decide_eq_true (by omega)]; rfl
  ·rw [if_neg h,decide_eq_false (by omega)]; rfl
 have k1:=rz (pc:=pc) (mem:=mem) hM.r32 hd (v:=if a=0 then 1 else 0)
 exact aa ha (aa (y:=.inl (st regs rd (if a=0 then 1 else 0))) (aa (y:=false) rfl (ab rfl (aa (y:=false) rfl (ab rfl (ab rfl (ai rfl (aa p2 (aa p4 (aa f2 (aa k1 rfl)))))))))) (by show some (true,_,w64 (pc+4),mem)=_; rw [n3]))
theorem xn {j:Nat} (hj:j<mem.length) (hl:mem.length<=10000):gR mem (4*(j:Int))=some true/\w64 (Int.tdiv (4*(j:Int)) 4)=(j:Int):=by
 rcases uR (mem:=mem) [] 0 (a:=4*(j:Int)) (by unfold Wd; omega) hl with ⟨j',hj',e1,e2,_,e4⟩ | ⟨e2,_⟩
 ·obtain rfl:j'=j:=by omega
  exact ⟨e2,e4⟩
 ·exfalso
  unfold gR at e2
  rw [Int.tmod_eq_emod_of_nonneg (by omega),Int.tdiv_eq_ediv_of_nonneg (by omega),aO (by omega) (by omega)] at e2
  have:=o9 e2
  simp at this
  omega
theorem DV {j:Nat} (hM:MOK regs pc mem) (h0:0<=pc) (h1:pc<=40000) (hd:0<=rd/\rd<=31) (ha:nth regs rs=some a) (hj:j<mem.length) (hj':cA (w64 (a+imm))=4*(j:Int)):de (al.mk regs pc mem) ⟨14,rd,rs,rt,imm⟩=some (true,st regs rd mem[j],pc+4,mem):=by
 obtain ⟨n1,n2,n3,n4⟩:=eO hM h0 h1
 obtain ⟨e2,e4⟩:=xn hj hM.m10
 have k1:=rz (pc:=pc) (mem:=mem) hM.r32 hd (v:=mem[j])
 have hx':nth mem (w64 (Int.tdiv (4*(j:Int)) 4))=some mem[j]:=by rw [e4]; exact cJ hj
 refine aa ha (aa (y:=.inr (true,st regs rd mem[j],pc+4,mem)) (aa (y:=true) rfl (ai rfl (aa (y:=(true,st regs rd mem[j],pc+4,mem)) ?_ rfl))) rfl)
 refine aa ha (aa ((dg _).trans (congrArg some hj')) (aa e2 (ab rfl (aa (y:=(st regs rd mem[j],mem)) (ai rfl (aa hx' (aa k1 rfl))) ?_))))
 show some (true,_,w64 (pc+4),mem)=_
 rw [n3]
theorem DW {j:Nat} (hM:MOK regs pc mem) (h0:0<=pc) (h1:pc<=40000) (ha:nth regs rs=some a) (hb:nth regs rt=some b) (hj:j<mem.length) (hj':cA (w64 (a+imm))=4*(j:Int)):de (al.mk regs pc mem) ⟨16,rd,rs,rt,imm⟩=some (true,regs,pc+4,mem.set j b):=by
 obtain ⟨n1,n2,n3,n4⟩:=eO hM h0 h1
 obtain ⟨e2,e4⟩:=xn hj hM.m10
 have hx':nth mem (w64 (Int.tdiv (4*(j:Int)) 4))=some mem[j]:=by rw [e4]; exact cJ hj
 have hu':upd mem (w64 (Int.tdiv (4*(j:Int)) 4)) b=some (mem.set j b):=by rw [e4]; exact sQ hj b
 refine aa ha (aa (y:=.inr (true,regs,pc+4,mem.set j b)) (aa (y:=true) rfl (ai rfl (aa (y:=(true,regs,pc+4,mem.set j b)) ?_ rfl))) rfl)
 refine aa ha (aa ((dg _).trans (congrArg some hj')) (aa e2 (ab rfl (aa (y:=(regs,mem.set j b)) (ab rfl (aa hb (aa hx' (aa hu' rfl)))) ?_))))
 show some (true,regs,w64 (pc+4),mem.set j b)=_
 rw [n3]
theorem BL (hM:MOK regs pc mem) (h0:0<=pc) (h1:pc<=40000) (hz:nth regs 0=some 0):de (al.mk regs pc mem) ⟨15,1,0,0,0⟩=some (true,st regs 1 (pc+4),0,mem):=by
 obtain ⟨n1,n2,n3,n4⟩:=eO hM h0 h1
 have k1:=rz (pc:=pc) (mem:=mem) hM.r32 (rd:=1) (by omega) (v:=pc+4)
 refine aa hz (aa (y:=.inr (true,st regs 1 (pc+4),0,mem)) (aa (y:=false) rfl (ab rfl (aa (y:=true) rfl (ai rfl (aa (y:=(st regs 1 (pc+4),0)) ?_ rfl))))) rfl)
 exact aa n2 (aa hz (aa hz (ai rfl (aa hz (aa (y:=0) rfl (aa k1 rfl))))))
theorem DX {op:Int} (ho:op=17\/op=18) {q:Int} (hM:MOK regs pc mem) (h0:0<=pc) (h1:pc<=40000) (ha:nth regs rs=some a) (hb:nth regs rt=some b) (hq:cA (w64 (pc+imm))=q):de (al.mk regs pc mem) ⟨op,0,rs,rt,imm⟩=some (true,regs,if (a=b)=(op=17) then q else pc+4,mem):=by
 obtain ⟨n1,n2,n3,n4⟩:=eO hM h0 h1
 have key:rQ (al.mk regs pc mem) ⟨op,0,rs,rt,imm⟩=some (regs,if (a=b)=(op=17) then q else pc+4):=by
  refine aa n2 (aa ha (aa hb ?_))
  rcases ho with rfl | rfl
  ·refine ab rfl (ab rfl ?_)
   by_cases h:a=b
   ·rw [if_pos (by simp [h])]
    exact ai (by simp [h]) (aa ((dg _).trans (congrArg some hq)) rfl)
   ·rw [if_neg (by simp [h])]
    exact ab (by simp [h]) rfl
  ·refine ab rfl (ab rfl ?_)
   by_cases h:a=b
   ·rw [if_neg (by simp [h])]
    exact ab (by simp [h]) rfl
   ·rw [if_pos (by simp [h])]
    exact ai (by simp [h]) (aa ((dg _).trans (congrArg some hq)) rfl)
 rcases ho with rfl | rfl <;> exact aa ha (aa (y:=.inr (true,regs,_,mem)) (aa (y:=false) rfl (ab rfl (aa (y:=true) rfl (ai rfl (aa key rfl))))) rfl)
theorem zN {q:Int} (hM:MOK regs pc mem) (h0:0<=pc) (h1:pc<=40000) (hz:nth regs 0=some 0) (hq:cA (w64 (pc+imm))=q):de (al.mk regs pc mem) ⟨20,0,0,0,imm⟩=some (true,regs,q,mem):=by
 obtain ⟨n1,n2,n3,n4⟩:=eO hM h0 h1
 have k1:=rz (pc:=pc) (mem:=mem) hM.r32 (rd:=0) (by omega) (v:=pc+4)
 exact aa hz (aa (y:=.inr (true,regs,q,mem)) (aa (y:=false) rfl (ab rfl (aa (y:=true) rfl (ai rfl (aa (y:=(regs,q)) (aa n2 (aa hz (aa hz (ab rfl (ai rfl (aa k1 (aa ((dg _).trans (congrArg some hq)) rfl))))))) rfl))))) rfl)
end
inductive Kn where
 | any
 | b11
 | c17 (n:Int)
def Kp (d:Int):Prop:=d≠2/\d≠3/\d≠4
def De (i:Instr):Prop:=
 ((1<=i.Op/\i.Op<=11\/i.Op=12\/i.Op=13\/i.Op=19)/\(0<=i.Rd/\i.Rd<=31)/\Kp i.Rd/\(0<=i.Rs/\i.Rs<=31)/\(0<=i.Rt/\i.Rt<=31)/\(i.Op=13 -> -1048576<=i.Imm/\i.Imm<=1048575)) \/
 (i.Op=14/\i.Rs=2/\(0<=i.Rd/\i.Rd<=31)/\Kp i.Rd/\∃ k:Nat,k<12/\i.Imm=4*(k:Int))\/(i.Op=16/\i.Rs=2/\i.Rt=7/\∃ k:Nat,k<12/\i.Imm=4*(k:Int))
def chk (F:Prop) (J:Int->Prop):Int->Kn->List Instr->Prop
 | _,_,[]=>F
 | at_,σ,i::s=>(De i/\chk F J (at_+1) .any s)\/(∃ b:Int,i=⟨12,11,0,0,b⟩/\0<=b/\b<=1/\chk F J (at_+1) .b11 s) \/
   (∃ n:Int,i=⟨12,17,0,0,n⟩/\1<=n/\n<=5/\(n<=2->σ=.b11)/\chk F J (at_+1) (.c17 n) s)\/(i=⟨15,1,0,0,0⟩/\∃ n,σ=.c17 n/\(n≠5->chk F J (at_+1) .any s)) \/
   (∃ imm:Int,i=⟨20,0,0,0,imm⟩/\J (4*at_+imm))\/(∃ rs:Int,(0<=rs/\rs<=31)/\i=⟨18,0,rs,0,8⟩/\s.length=1/\F/\chk F J (at_+1) .any s)
section
variable {F:Prop} {J:Int->Prop}
theorem chk.pl {σ:Kn} {at_:Int} {i:Instr} {s:List Instr} (h:De i) (k:chk F J (at_+1) .any s):chk F J at_ σ (i::s):=.inl ⟨h,k⟩
theorem chk.rd {σ:Kn} {at_ c p s:Int} {l:List Instr} (hc:1<=c/\c<=8) (hp:Rg p) (hs:s=5\/s=6) (k:∀ a σ,chk F J a σ l):chk F J at_ σ (rdL c p s++l):=by
 unfold rdL
 unfold Rg at hp
 split
 ·exact k _ _
 ·exact .pl (.inr (.inl ⟨rfl,rfl,by simp only; omega,by unfold Kp; simp only; omega,(p-c).toNat,by omega,by simp only; omega⟩)) (k _ _)
end
end
noncomputable section
section
variable {eQ:List ah} {c:Int}
theorem Df (eQ:List ah) (c:Int) {i j:Nat} (h:i<=j):pl eQ c i<=pl eQ c j:=by
 induction j with
 | zero =>
  obtain rfl:i=0:=by omega
  exact Nat.le_refl _
 | succ j ih =>
  rcases Nat.lt_or_ge i (j+1) with h1 | h1
  ·have:=ih (by omega)
   simp only [pl]
   omega
  ·obtain rfl:i=j+1:=by omega
   exact Nat.le_refl _
theorem sd (eQ:List ah) (c:Int) (i:Nat):pl eQ c (i+1)=pl eQ c i+(blk eQ c i).length:=by
 simp only [pl,blk,(nd (qAt eQ i) c (ny eQ c i)).2.2]
theorem BM (eQ:List ah) (c:Int):∀ (n i r:Nat),i<n->r<(blk eQ c i).length->(tk eQ c n)[pl eQ c i+r]?=(blk eQ c i)[r]?
 | 0,i,r,h,_=>by omega
 | n+1,i,r,h,hr=>by
  simp only [tk]
  have hl:=sW eQ c n
  rcases Nat.lt_or_ge i n with h1 | h1
  ·have h2:=Df eQ c (show i+1<=n by omega)
   have h3:=sd eQ c i
   rw [List.getElem?_append_left (by omega)]
   exact BM eQ c n i r h1 hr
  ·obtain rfl:i=n:=by omega
   rw [List.getElem?_append_right (by omega),hl,Nat.add_sub_cancel_left]
end
theorem d8 {l:List Int} {k:Nat} {x:Int} (h:l[k]?=some x):nth l (k:Int)=some x:=c7 h
section
variable {regs mem:List Int} {pc:Int}
theorem DY {L:List Instr} {ws:List Int} (hw:wl L=some ws) (hok:MOK regs pc mem) {B p:Nat} {i:Instr} (hcode:∀ (j:Nat) w,ws[j]?=some w->mem[B+j]?=some w) (hp:pc=4*((B+p:Nat):Int)) (hi:L[p]?=some i) :
  ((i.Op==21)=true->gS ⟨regs,pc,mem⟩=some (2,regs,pc,mem))/\((i.Op==21)=false->∀ r q m',de (al.mk regs pc mem) i=some (true,r,q,m')->gS ⟨regs,pc,mem⟩=some (1,r,q,m')):=by
 obtain ⟨w,u,w1,w2,w3⟩:=xl hw p i hi
 have hm:=hcode p w w1
 have hlt:B+p<mem.length:=by rcases Nat.lt_or_ge (B+p) mem.length with h | h; exact h; rw [List.getElem?_eq_none h] at hm; cases hm
 obtain ⟨e2,e4⟩:=xn hlt hok.m10
 rw [<-hp] at e2 e4
 have hx:nth mem (w64 (Int.tdiv pc 4))=some w:=by rw [e4]; exact d8 hm
 have hwd:=hok.wm w (List.mem_of_getElem? hm)
 obtain ⟨u',u1,u2,u3,u4⟩:=lq hwd.1 hwd.2
 have hu:u'=u:=by rw [u3] at w2; have:=o9 w2; omega
 subst hu
 obtain ⟨x,b,d1,d2,_⟩:=yx u' u1
 rw [d2] at w3
 obtain ⟨rfl,rfl⟩:=Prod.mk.inj (o9 w3)
 unfold gS
 exact ⟨λh21=>aa e2 (ab rfl (aa hx (aa u4 (aa d1 (ab rfl (ai h21 rfl)))))),λh21 r q m' hd=>aa e2 (ab rfl (aa hx (aa u4 (aa d1 (ab rfl (ab h21 (aa hd (ab rfl rfl))))))))⟩
structure Tn (F:Nat) (regs mem r m:List Int):Prop where
 r32:r.length=32
 wr:∀ x∈r,Wd x
 z0:r[0]?=regs[0]?
 z2:r[2]?=regs[2]?
 z3:r[3]?=regs[3]?
 z4:r[4]?=regs[4]?
 m:m=mem\/∃ k b,k<12/\Wd b/\m=mem.set (F+k) b
variable {eQ:List ah} {c:Int} {ws:List Int}
end
end
noncomputable section
def col (r:Nat):Nat:=(([8,9,18,19,20,21,22,23]:List Nat)[r]?).getD 0
theorem pX:∀ r,r<8->8<=col r/\col r<=23/\col r≠10/\col r≠11/\col r≠17:=by decide
theorem CP:∀ r,r<8->∀ s,s<8->col r=col s->r=s:=by decide
def rgN (c p s:Nat):Nat:=if p<c then col p else s
theorem oh {c p s:Nat} (hc:c<=8):eY (c:Int) (p:Int) (s:Int)=((rgN c p s:Nat):Int):=by
 unfold eY rgN
 by_cases h:p<c
 ·rw [if_pos (by omega),if_pos h]
  rcases (by omega:p=0\/p=1\/p=2\/p=3\/p=4\/p=5\/p=6\/p=7) with rfl | rfl | rfl | rfl | rfl | rfl | rfl | rfl <;> rfl
 ·rw [if_neg (by omega),if_neg h]
theorem rA {c p s:Nat} (hc:c<=8) (hs:5<=s/\s<=7):5<=rgN c p s/\rgN c p s<=23/\rgN c p s≠10/\rgN c p s≠11/\rgN c p s≠17:=by
 unfold rgN
 split
 ·have:=pX p (by omega); omega
 ·omega
structure Bs (F:Nat) (regs mem:List Int):Prop where
 r32:regs.length=32
 wr:∀ x∈regs,Wd x
 m10:mem.length<=10000
 wm:∀ x∈mem,Wd x
 z0:regs[0]?=some 0
 sp:regs[2]?=some (4*(F:Int))
 fl:F+12<=mem.length
structure VX (d c F:Nat) (ρ regs mem:List Int):Prop where
 len:ρ.length=12
 wd:∀ x∈ρ,Wd x
 hi:∀ r x,r≠d->r<c->ρ[r]?=some x->regs[col r]?=some x
 lo:∀ r x,r≠d->c<=r->ρ[r]?=some x->mem[F+(r-c)]?=some x
abbrev VR:=VX 12
section
variable {c F d:Nat} {ρ regs mem r1 m1:List Int}
theorem Bs.mok (h:Bs F regs mem) {pc:Int} (hp:Wd pc):MOK regs pc mem:=⟨h.r32,h.m10,h.wr,h.wm,hp⟩
theorem Bs.tn (h:Bs F regs mem) (t:Tn F regs mem r1 m1):Bs F r1 m1:=by
 refine ⟨t.r32,t.wr,?_,?_,t.z0.trans h.z0,t.z2.trans h.sp,?_⟩
 ·rcases t.m with rfl | ⟨k,b,h1,h2,rfl⟩
  ·exact h.m10
  ·rw [List.length_set]; exact h.m10
 ·rcases t.m with rfl | ⟨k,b,h1,h2,rfl⟩
  ·exact h.wm
  ·intro x hx
   rcases List.mem_or_eq_of_mem_set hx with h3 | h3
   ·exact h.wm x h3
   ·exact h3▸h2
 ·rcases t.m with rfl | ⟨k,b,h1,h2,rfl⟩
  ·exact h.fl
  ·rw [List.length_set]; exact h.fl
theorem Bs.pt (h:Bs F regs mem) {k:Nat} {v:Int} (hk:0<k/\k<32/\k≠2/\k≠3/\k≠4) (hv:Wd v):Tn F regs mem (st regs (k:Int) v) mem:=⟨by rw [DU,h.r32],Et h.wr hv,sa (by omega) (by omega),sa (by omega) (by omega),sa (by omega) (by omega),sa (by omega) (by omega),.inl rfl⟩
theorem VX.wk (h:VR c F ρ regs mem) (d:Nat):VX d c F ρ regs mem:=⟨h.len,h.wd,λr x _ hr hx=>h.hi r x (by rintro rfl; have:=h.len; rw [List.getElem?_eq_none (by omega)] at hx; cases hx) hr hx,λr x _ hr hx=>h.lo r x (by rintro rfl; have:=h.len; rw [List.getElem?_eq_none (by omega)] at hx; cases hx) hr hx⟩
theorem VX.rg (h:VX d c F ρ regs mem) (hc:c<=8) (hr:∀ r,r≠d->r<c->r1[col r]?=regs[col r]?):VX d c F ρ r1 mem:=⟨h.len,h.wd,λr x hd hrc hx=>(hr r hd hrc).trans (h.hi r x hd hrc hx),h.lo⟩
theorem VX.pt (h:VX d c F ρ regs mem) (hc:c<=8) {k:Nat} {v:Int} (hk:k<8\/k=10\/k=11\/k=17):VX d c F ρ (st regs (k:Int) v) mem:=h.rg hc λr _ hr=>by
 have:=pX r (by omega)
 exact sa (by omega) (by omega)
theorem VX.dst (h:VX d c F ρ regs mem) (hc:c<=8) {v:Int}:VX d c F ρ (st regs ((rgN c d 7:Nat):Int) v) mem:=h.rg hc λr hd hr=>by
 have:=pX r (by omega)
 refine sa (by omega) ?_
 unfold rgN
 split
 ·intro e
  exact hd (CP r (by omega) d (by omega) (by omega))
 ·omega
def SL (F:Nat):List Instr->List Int->List Int->List Int->List Int->Prop
 | [],r,m,r',m'=>r=r'/\m=m'
 | i::L,r,m,r',m'=>∃ r1 m1,(i.Op==21)=false/\(∀ pc,MOK r pc m->0<=pc->pc<=40000->de ⟨r,pc,m⟩ i=some (true,r1,pc+4,m1))/\Tn F r m r1 m1/\SL F L r1 m1 r' m'
theorem SL.app {L1 L2:List Instr}:∀ {r m r1 m1 r2 m2:List Int},SL F L1 r m r1 m1->SL F L2 r1 m1 r2 m2->SL F (L1++L2) r m r2 m2:=by
 induction L1 with
 | nil=>intro r m r1 m1 r2 m2 h k; obtain ⟨rfl,rfl⟩:=h; exact k
 | cons i L ih=>intro r m r1 m1 r2 m2 ⟨r3,m3,h1,h2,h3,h4⟩ k; exact ⟨r3,m3,h1,h2,h3,ih h4 k⟩
theorem SL.one {i:Instr} (h21:(i.Op==21)=false) (h:∀ pc,MOK regs pc mem->0<=pc->pc<=40000->de ⟨regs,pc,mem⟩ i=some (true,r1,pc+4,m1)) (t:Tn F regs mem r1 m1):SL F [i] regs mem r1 m1:=⟨r1,m1,h21,h,t,rfl,rfl⟩
theorem SL.bs:∀ {L:List Instr} {r m r' m':List Int},SL F L r m r' m'->Bs F r m->Bs F r' m'
 | [],_,_,_,_,h,hb=>by obtain ⟨rfl,rfl⟩:=h; exact hb
 | i::L,_,_,_,_,⟨r1,m1,_,_,t,h⟩,hb=>SL.bs h (hb.tn t)
theorem vF {l:List Int} (h:∀ x∈l,Wd x) {k:Nat} {x:Int} (hx:l[k]?=some x):Wd x:=h x (List.mem_of_getElem? hx)
theorem m7 {x:Int} (h:Wd x):cA (w64 x)=x:=by
 unfold Wd at h
 rw [aO (by omega) (by omega)]; unfold cA; split <;> omega
theorem Ao (hc:1<=c/\c<=8) (hB:Bs F regs mem) (hV:VX d c F ρ regs mem) {p s:Nat} (hp:p<12) (hpd:p≠d) (hs:s=5\/s=6) {x:Int} (hx:ρ[p]?=some x) :
  ∃ r1,SL F (rdL (c:Int) (p:Int) (s:Int)) regs mem r1 mem/\Bs F r1 mem/\VX d c F ρ r1 mem/\r1[rgN c p s]?=some x/\∀ k,k≠s->r1[k]?=regs[k]?:=by
 unfold rdL rgN
 by_cases h:p<c
 ·rw [if_pos (by omega),if_pos h]
  exact ⟨regs,⟨rfl,rfl⟩,hB,hV,hV.hi p x hpd h hx,λk _=>rfl⟩
 ·rw [if_neg (by omega),if_neg h]
  have hm:=hV.lo p x hpd (by omega) hx
  have hlt:F+(p-c)<mem.length:=by have:=hB.fl; omega
  obtain rfl:mem[F+(p-c)]=x:=by rw [List.getElem?_eq_getElem hlt] at hm; exact o9 hm
  have hl:=hB.m10
  have t:=hB.pt (k:=s) (v:=mem[F+(p-c)]) (by omega) (vF hB.wm hm)
  refine ⟨st regs (s:Int) mem[F+(p-c)],SL.one rfl (λpc hM h0 h1=>DV (rt:=0) hM h0 h1 (by omega) (d8 hB.sp) hlt ?_) t,hB.tn t,hV.pt hc.2 (by omega),uc (by omega) (by rw [hB.r32]; omega),λk hk=>sa (by omega) (by omega)⟩
  rw [show 4*(F:Int)+4*((p:Int)-(c:Int))=4*((F+(p-c):Nat):Int) by omega]
  exact m7 (by unfold Wd; omega)
theorem sX (hc:1<=c/\c<=8) (hB:Bs F regs mem) (hV:VX d c F ρ regs mem) (hd:d<12) {v:Int} (hv:Wd v) {i:Instr} (h21:(i.Op==21)=false)
  (hi:∀ pc,MOK regs pc mem->0<=pc->pc<=40000->de ⟨regs,pc,mem⟩ i=some (true,st regs ((rgN c d 7:Nat):Int) v,pc+4,mem)) :
  ∃ r1 m1,SL F ([i]++wrL (c:Int) (d:Int)) regs mem r1 m1/\Bs F r1 m1/\VR c F (ρ.set d v) r1 m1:=by
 have hg:=rA (p:=d) (s:=7) hc.2 (by omega)
 have t:=hB.pt (k:=rgN c d 7) (v:=v) (by omega) hv
 have hB1:=hB.tn t
 have hV1:=hV.dst hc.2 (v:=v)
 have s1:SL F [i] regs mem _ mem:=SL.one h21 hi t
 have hlen:=hV.len
 have hwd:∀ x∈ρ.set d v,Wd x:=λx hx=>by
  rcases List.mem_or_eq_of_mem_set hx with h | h
  ·exact hV.wd x h
  ·exact h▸hv
 unfold wrL
 by_cases h:d<c
 ·rw [if_pos (by omega),List.append_nil]
  refine ⟨_,mem,s1,hB1,by rw [List.length_set]; exact hlen,hwd,λr x _ hr hx=>?_,λr x _ hr hx=>?_⟩
  ·by_cases hrd:r=d
   ·subst hrd
    rw [List.getElem?_set_self (by omega)] at hx
    obtain rfl:=o9 hx
    have e:rgN c r 7=col r:=by unfold rgN; rw [if_pos h]
    rw [e]
    exact uc (by have:=pX r (by omega); omega) (by rw [hB.r32]; have:=pX r (by omega); omega)
   ·rw [List.getElem?_set_ne (by omega)] at hx
    exact hV1.hi r x hrd hr hx
  ·rw [List.getElem?_set_ne (by omega)] at hx
   exact hV1.lo r x (by omega) hr hx
 ·rw [if_neg (by omega)]
  have e:rgN c d 7=7:=by unfold rgN; rw [if_neg h]
  rw [e] at s1 hB1 hV1
  have h7:(st regs ((7:Nat):Int) v)[7]?=some v:=uc (by omega) (by rw [hB.r32]; omega)
  have hfl:=hB.fl
  have hlt:F+(d-c)<mem.length:=by omega
  have hl:=hB.m10
  have t2:Tn F (st regs ((7:Nat):Int) v) mem (st regs ((7:Nat):Int) v) (mem.set (F+(d-c)) v):=⟨hB1.r32,hB1.wr,rfl,rfl,rfl,rfl,.inr ⟨d-c,v,by omega,hv,rfl⟩⟩
  refine ⟨_,_,s1.app (SL.one rfl (λpc hM h0 h1=>DW (rd:=0) (rt:=7) hM h0 h1 (d8 hB1.sp) (d8 (k:=7) h7) hlt ?_) t2),hB1.tn t2,by rw [List.length_set]; exact hlen,hwd,λr x _ hr hx=>?_,λr x _ hr hx=>?_⟩
  ·rw [show 4*(F:Int)+4*((d:Int)-(c:Int))=4*((F+(d-c):Nat):Int) by omega]
   exact m7 (by unfold Wd; omega)
  ·rw [List.getElem?_set_ne (by omega)] at hx
   exact hV1.hi r x (by omega) hr hx
  ·by_cases hrd:r=d
   ·subst hrd
    rw [List.getElem?_set_self (by omega)] at hx
    obtain rfl:=o9 hx
    exact List.getElem?_set_self hlt
   ·rw [List.getElem?_set_ne (by omega)] at hx
    have hr12:r<12:=by rcases Nat.lt_or_ge r 12 with h | h; exact h; rw [List.getElem?_eq_none (by omega)] at hx; cases hx
    rw [List.getElem?_set_ne (by omega)]
    exact hV1.lo r x hrd hr hx
theorem DZ (hc:1<=c/\c<=8) (hB:Bs F regs mem) (hV:VX d c F ρ regs mem) {k s:Nat} (hk:k=10\/k=11\/k=17) {a n:Int} (ha:regs[s]?=some a) (hn:Wd (a+n)) :
  ∃ r1,SL F [⟨12,(k:Int),(s:Int),0,n⟩] regs mem r1 mem/\Bs F r1 mem/\VX d c F ρ r1 mem/\r1[k]?=some (a+n)/\∀ q,q≠k->r1[q]?=regs[q]?:=by
 have t:=hB.pt (k:=k) (v:=a+n) (by omega) hn
 refine ⟨_,SL.one rfl (λpc hM h0 h1=>?_) t,hB.tn t,hV.pt hc.2 (by omega),uc (by omega) (by rw [hB.r32]; omega),λq hq=>sa (by omega) (by omega)⟩
 have:=pW (rt:=0) (imm:=n) hM h0 h1 (rd:=(k:Int)) (by omega) (d8 ha)
 rw [m7 hn] at this
 exact this
theorem BN (hc:1<=c/\c<=8) (hB:Bs F regs mem) (hV:VR c F ρ regs mem) (hd:d<12) {n:Int} (hn:Wd n) :
  ∃ r1 m1,SL F (lr ((rgN c d 7:Nat):Int) n++wrL (c:Int) (d:Int)) regs mem r1 m1/\Bs F r1 m1/\VR c F (ρ.set d n) r1 m1:=by
 have hg:=rA (p:=d) (s:=7) hc.2 (by omega)
 unfold lr
 split
 ·refine sX hc hB (hV.wk d) hd hn rfl λpc hM h0 h1=>?_
  have:=pW (rt:=0) (imm:=n) hM h0 h1 (rd:=((rgN c d 7:Nat):Int)) (by omega) (d8 (k:=0) hB.z0)
  rw [show (0:Int)+n=n by omega,m7 hn] at this
  exact this
 ·obtain ⟨g1,g2⟩:=hn
  have hv1:Wd (cA (w64 (rv n*4096))):=jv _
  have t:=hB.pt (k:=rgN c d 7) (v:=cA (w64 (rv n*4096))) (by omega) hv1
  have hB1:=hB.tn t
  have e7:(st regs ((rgN c d 7:Nat):Int) (cA (w64 (rv n*4096))))[rgN c d 7]?=some (cA (w64 (rv n*4096))):=uc (by omega) (by rw [hB.r32]; omega)
  obtain ⟨r1,m1,s1,b1,v1⟩:=sX (v:=n) (i:=⟨12,((rgN c d 7:Nat):Int),((rgN c d 7:Nat):Int),0,pT n⟩) hc hB1 ((hV.wk d).dst hc.2 (v:=cA (w64 (rv n*4096)))) hd ⟨g1,g2⟩ rfl λpc hM h0 h1=>by
   have:=pW (rt:=0) (imm:=pT n) hM h0 h1 (rd:=((rgN c d 7:Nat):Int)) (by omega) (d8 e7)
   have e:cA (w64 (cA (w64 (rv n*4096))+pT n))=n:=by
    have hl : -2048<=pT n/\pT n<=2047/\(n-pT n)%4096=0:=by unfold pT; split <;> omega
    unfold rv
    generalize pT n=l at hl
    rw [aO (x:=(n-l)%4294967296/4096*4096) (by omega) (by omega)]
    unfold cA
    split <;> rw [aO (by omega) (by omega)] <;> split <;> omega
   rw [e] at this
   exact this
  refine ⟨r1,m1,?_,b1,v1⟩
  have:=(SL.one (F:=F) (i:=⟨19,((rgN c d 7:Nat):Int),0,0,rv n⟩) rfl (λpc hM h0 h1=>BK hM h0 h1 (by omega) (d8 (k:=0) hB.z0)) t).app s1
  exact this
theorem CQ (hc:1<=c/\c<=8) (hB:Bs F regs mem) (hV:VR c F ρ regs mem) (hd:d<12) {p:Nat} (hp:p<12) {x:Int} (hx:ρ[p]?=some x) :
  ∃ r1 m1,SL F (rdL (c:Int) (p:Int) 5++[⟨12,((rgN c d 7:Nat):Int),((rgN c p 5:Nat):Int),0,0⟩]++wrL (c:Int) (d:Int)) regs mem r1 m1/\Bs F r1 m1/\VR c F (ρ.set d x) r1 m1:=by
 have hg:=rA (p:=d) (s:=7) hc.2 (by omega)
 obtain ⟨r1,s1,b1,v1,e1,_⟩:=Ao (s:=5) hc hB hV hp (by omega) (.inl rfl) hx
 have wx:=vF hV.wd hx
 obtain ⟨r2,m2,s2,b2,v2⟩:=sX (v:=x) (i:=⟨12,((rgN c d 7:Nat):Int),((rgN c p 5:Nat):Int),0,0⟩) hc b1 (v1.wk d) hd wx rfl λpc hM h0 h1=>by
  have:=pW (rt:=0) (imm:=0) hM h0 h1 (rd:=((rgN c d 7:Nat):Int)) (by omega) (d8 e1)
  rw [show x+0=x by omega,m7 wx] at this
  exact this
 refine ⟨r2,m2,?_,b2,v2⟩
 rw [List.append_assoc]
 exact s1.app s2
theorem BO {a b:Int} (ha:Wd a) (hb:Wd b):aG .xor .i64 a b=0↔a=b:=by
 have e:aG .xor .i64 a b=(BitVec.ofInt 64 a ^^^ BitVec.ofInt 64 b).toInt:=ga _
 have ea:=fW ha
 have eb:=fW hb
 rw [e]
 constructor
 ·intro h
  have h1:BitVec.ofInt 64 a ^^^ BitVec.ofInt 64 b=0#64:=BitVec.eq_of_toInt_eq (by rw [h]; rfl)
  rw [BitVec.xor_eq_zero_iff] at h1
  rw [<-ea,<-eb,h1]
 ·intro h
  subst h
  rw [BitVec.xor_self]; rfl
theorem Dg {n:Int} (h:1<=n/\n<=12):∃ k:Nat,k<11/\rx n=(k:Int)+1/\nth lI (k:Int)=some (if n=4 then 2 else n):=by
 obtain ⟨m,rfl,hm⟩:∃ m:Nat,n=(m:Int)/\m<=12:=⟨n.toNat,by omega,by omega⟩
 rcases (by omega:m=1\/m=2\/m=3\/m=4\/m=5\/m=6\/m=7\/m=8\/m=9\/m=10\/m=11\/m=12) with rfl | rfl | rfl | rfl | rfl | rfl | rfl | rfl | rfl | rfl | rfl | rfl
 ·exact ⟨6,by decide,rfl,rfl⟩
 ·exact ⟨7,by decide,rfl,rfl⟩
 ·exact ⟨5,by decide,rfl,rfl⟩
 ·exact ⟨7,by decide,rfl,rfl⟩
 ·exact ⟨10,by decide,rfl,rfl⟩
 ·exact ⟨8,by decide,rfl,rfl⟩
 ·exact ⟨9,by decide,rfl,rfl⟩
 ·exact ⟨0,by decide,rfl,rfl⟩
 ·exact ⟨1,by decide,rfl,rfl⟩
 ·exact ⟨2,by decide,rfl,rfl⟩
 ·exact ⟨3,by decide,rfl,rfl⟩
 ·exact ⟨4,by decide,rfl,rfl⟩
theorem D0 (hc:1<=c/\c<=8) (hB:Bs F regs mem) (hV:VR c F ρ regs mem) (hd:d<12) {p q:Nat} (hp:p<12) (hq:q<12) {x y n:Int} (hx:ρ[p]?=some x) (hy:ρ[q]?=some y) (hn:1<=n/\n<=12) :
  ∃ v r1 m1,f9 n x y=some v/\SL F (rdL (c:Int) (p:Int) 5++rdL (c:Int) (q:Int) 6++[⟨rx n,((rgN c d 7:Nat):Int),((rgN c p 5:Nat):Int),((rgN c q 6:Nat):Int),0⟩]++(if n=4 then [⟨13,((rgN c d 7:Nat):Int),((rgN c d 7:Nat):Int),0,1⟩] else [])++wrL (c:Int) (d:Int)) regs mem r1 m1/\Bs F r1 m1/\VR c F (ρ.set d v) r1 m1:=by
 have hg:=rA (p:=d) (s:=7) hc.2 (by omega)
 obtain ⟨r1,s1,b1,v1,e1,_⟩:=Ao (s:=5) hc hB hV hp (by omega) (.inl rfl) hx
 obtain ⟨r2,s2,b2,v2,e2,k2⟩:=Ao (s:=6) hc b1 v1 hq (by omega) (.inr rfl) hy
 have e1':r2[rgN c p 5]?=some x:=(k2 _ (by have:=rA (c:=c) (p:=p) (s:=5) hc.2 (by omega); unfold rgN; split; have:=pX p (by omega); omega; omega)).trans e1
 have wx:=vF hV.wd hx
 have wy:=vF hV.wd hy
 obtain ⟨k,hk,ho,hm⟩:=Dg hn
 obtain ⟨v,wv,a1,x',a2,a3⟩:=yB k hk wx wy
 rw [hm] at a2
 obtain rfl:=o9 a2
 have hdo:∀ pc,MOK r2 pc mem->0<=pc->pc<=40000->de ⟨r2,pc,mem⟩ ⟨rx n,((rgN c d 7:Nat):Int),((rgN c p 5:Nat):Int),((rgN c q 6:Nat):Int),0⟩=some (true,st r2 ((rgN c d 7:Nat):Int) v,pc+4,mem):=λpc hM h0 h1=>by
  rw [ho]
  exact BJ hk hM h0 h1 (by omega) (d8 e1') (d8 e2) a1
 have h21:(rx n==21)=false:=by rw [ho]; simp; omega
 by_cases h4:n=4
 ·subst h4
  rw [if_pos rfl] at a3 ⊢
  have t:=b2.pt (k:=rgN c d 7) (v:=v) (by omega) wv
  have b3:=b2.tn t
  have e7:(st r2 ((rgN c d 7:Nat):Int) v)[rgN c d 7]?=some v:=uc (by omega) (by rw [b2.r32]; omega)
  have ev:v=aG .xor .i64 x y:=by
   have:f9 2 x y=some (aG .xor .i64 x y):=ab rfl (ai rfl rfl)
   rw [this] at a3
   exact (o9 a3).symm
  have hv0:=BO wx wy
  rw [<-ev] at hv0
  have hwf:Wd (if v=0 then (1:Int) else 0):=by unfold Wd; split <;> omega
  obtain ⟨r4,m4,s4,b4,v4⟩:=sX (v:=if v=0 then 1 else 0) (i:=⟨13,((rgN c d 7:Nat):Int),((rgN c d 7:Nat):Int),0,1⟩) hc b3 ((v2.wk d).dst hc.2 (v:=v)) hd hwf rfl λpc hM h0 h1=>CO hM h0 h1 (by omega) (d8 e7) wv
  refine ⟨_,r4,m4,?_,?_,b4,v4⟩
  ·refine ab rfl (ab rfl (ab rfl (ai rfl ?_)))
   by_cases h:x=y
   ·subst h
    rw [if_pos (hv0.2 rfl)]
    simp
    rfl
   ·rw [if_neg (λe=>h (hv0.1 e)),show (x==y)=false by simpa using h]
    rfl
  ·have:=(s1.app s2).app ((SL.one (F:=F) (i:=⟨rx 4,((rgN c d 7:Nat):Int),((rgN c p 5:Nat):Int),((rgN c q 6:Nat):Int),0⟩) h21 hdo t).app s4)
   simpa [List.append_assoc] using this
 ·rw [if_neg h4] at a3 ⊢
  obtain ⟨r4,m4,s4,b4,v4⟩:=sX (v:=v) (i:=⟨rx n,((rgN c d 7:Nat):Int),((rgN c p 5:Nat):Int),((rgN c q 6:Nat):Int),0⟩) hc b2 (v2.wk d) hd wv h21 hdo
  refine ⟨v,r4,m4,a3,?_,b4,v4⟩
  have:=(s1.app s2).app s4
  simpa [List.append_assoc] using this
end
end
noncomputable section
abbrev Mc:=List Int×Int×List Int
def nV:Nat->Mc->Mc->Prop
 | 0,s,t=>s=t
 | k+1,s,t=>s.2.1≠0/\∃ u:Mc,gS ⟨s.1,s.2.1,s.2.2⟩=some (1,u.1,u.2.1,u.2.2)/\nV k u t
theorem nV.add:∀ {a b:Nat} {s t u:Mc},nV a s t->nV b t u->nV (a+b) s u
 | 0,b,s,t,u,h,k=>by obtain rfl:=h; rw [Nat.zero_add]; exact k
 | a+1,b,s,t,u,⟨h1,v,h2,h3⟩,k=>by rw [show a+1+b=(a+b)+1 by omega]; exact ⟨h1,v,h2,h3.add k⟩
def Cw (ws:List Int) (B:Nat) (mem:List Int):Prop:=∀ (k:Nat) w,ws[k]?=some w->mem[B+k]?=some w
section
variable {ws r m r1 m1:List Int} {B F p:Nat} {L0:List Instr}
theorem Cw.tn (h:Cw ws B m) (hw:B+ws.length<=F) (t:Tn F r m r1 m1):Cw ws B m1:=λk w hk=>by
 have hkl:k<ws.length:=by rcases Nat.lt_or_ge k ws.length with h | h; exact h; rw [List.getElem?_eq_none h] at hk; cases hk
 rcases t.m with rfl | ⟨q,b,h1,h2,rfl⟩
 ·exact h k w hk
 ·rw [List.getElem?_set_ne (by omega)]
  exact h k w hk
theorem vG (hw:wl L0=some ws) (hB1:1<=B) (hb:Bs F r m) (hcw:Cw ws B m) {i:Instr} (hi:L0[p]?=some i) (h21:(i.Op==21)=false) {q:Int}
  (hd:MOK r (4*((B+p:Nat):Int)) m->de ⟨r,4*((B+p:Nat):Int),m⟩ i=some (true,r1,q,m1)):nV 1 (r,4*((B+p:Nat):Int),m) (r1,q,m1):=by
 have hl:=hb.m10
 have hp:Wd (4*((B+p:Nat):Int)):=by
  obtain ⟨w,u,w1,_⟩:=xl hw p i hi
  have:=hcw p w w1
  have hlt:B+p<m.length:=by rcases Nat.lt_or_ge (B+p) m.length with h | h; exact h; rw [List.getElem?_eq_none h] at this; cases this
  unfold Wd; omega
 have hM:=hb.mok hp
 exact ⟨by show 4*((B+p:Nat):Int)≠0; omega,(r1,q,m1),(DY hw hM hcw rfl hi).2 h21 _ _ _ (hd hM),rfl⟩
theorem SL.run (hw:wl L0=some ws) (hB1:1<=B) (hBF:B+ws.length<=F) (h9:F<=9990):∀ {L:List Instr} {r m r' m':List Int} {p:Nat},(∀ q,q<L.length->L0[p+q]?=L[q]?)->Bs F r m->Cw ws B m->SL F L r m r' m' ->
  nV L.length (r,4*((B+p:Nat):Int),m) (r',4*((B+(p+L.length):Nat):Int),m')/\Cw ws B m'
 | [],r,m,r',m',p,_,hb,hc,h=>by obtain ⟨rfl,rfl⟩:=h; exact ⟨rfl,hc⟩
 | i::L,r,m,r',m',p,hs,hb,hc,⟨r1,m1,h1,h2,t,h3⟩=>by
  have hi:L0[p]?=some i:=(hs 0 (by simp)).trans rfl
  have hpl:B+p<=10000:=by
   obtain ⟨w,u,w1,_⟩:=xl hw p i hi
   have:=hc p w w1
   have hl:=hb.m10
   have hlt:B+p<m.length:=by rcases Nat.lt_or_ge (B+p) m.length with h | h; exact h; rw [List.getElem?_eq_none h] at this; cases this
   omega
  have R1:=vG hw hB1 hb hc hi h1 λhM=>h2 _ hM (by omega) (by omega)
  obtain ⟨R2,c2⟩:=SL.run hw hB1 hBF h9 (L:=L) (p:=p+1) (λq hq=>by rw [show p+1+q=p+(q+1) by omega,hs (q+1) (by simp; omega)]; rfl) (hb.tn t) (hc.tn hBF t) h3
  refine ⟨?_,c2⟩
  rw [show 4*((B+(p+1):Nat):Int)=4*((B+p:Nat):Int)+4 by omega] at R2
  have:=R1.add R2
  rw [List.length_cons,show p+(L.length+1)=p+1+L.length by omega,show L.length+1=1+L.length by omega]
  exact this
end
structure Rl (eQ:List ah) (c B F:Nat) (ws:List Int) (i:Nat) (ρ:List Int) (s:Mc):Prop where
 b:Bs F s.1 s.2.2
 v:VR c F ρ s.1 s.2.2
 cw:Cw ws B s.2.2
 pc:s.2.1=4*((B+pl eQ (c:Int) i:Nat):Int)
def QP (q:ah) (i:Nat) (ρ:List Int) (i':Nat) (ρ':List Int):Prop:=
 (q.Op=1/\i'=i+1/\ρ'=ρ.set q.Dst.toNat q.N)\/(q.Op=2/\i'=i+1/\∃ x,ρ[q.A.toNat]?=some x/\ρ'=ρ.set q.Dst.toNat x) \/
 (q.Op=3/\i'=i+1/\∃ x y v,ρ[q.A.toNat]?=some x/\ρ[q.B.toNat]?=some y/\f9 q.N x y=some v/\ρ'=ρ.set q.Dst.toNat v) \/
 (q.Op=4/\ρ'=ρ/\i'=q.N.toNat)\/(q.Op=5/\ρ'=ρ/\∃ x,ρ[q.A.toNat]?=some x/\i'=if x=0 then q.N.toNat else i+1)
structure Cl (eQ:List ah) (c B F:Nat) (ws:List Int) (i:Nat) (ρ:List Int) (q:ah) (s:Mc):Prop where
 b:Bs F s.1 s.2.2
 v:VR c F ρ s.1 s.2.2
 cw:Cw ws B s.2.2
 pc:s.2.1=0
 n17:s.1[17]?=some (q.Op-5)
 a10:q.Op=6\/q.Op=9->s.1[10]?=ρ[q.A.toNat]?
 b11:q.Op=6\/q.Op=7->s.1[11]?=some q.N
 r1:s.1[1]?=some (4*((B+(if q.Op=7 then pl eQ (c:Int) i+3 else pl eQ (c:Int) (i+1)):Nat):Int))
section
variable {eQ:List ah} {c B F:Nat} {ws:List Int} {i:Nat} {ρ:List Int} {s:Mc}
theorem pY {pre L post:List Instr} (hi:i<eQ.length) (hb:blk eQ (c:Int) i=pre++L++post):∀ q,q<L.length->(tk eQ (c:Int) eQ.length)[pl eQ (c:Int) i+pre.length+q]?=L[q]?:=λq hq=>by
 rw [Nat.add_assoc,BM eQ (c:Int) _ i (pre.length+q) hi (by rw [hb]; simp; omega),hb,List.append_assoc,List.getElem?_append_right (by omega),Nat.add_sub_cancel_left,List.getElem?_append_left hq]
structure CC (eQ:List ah) (c B F:Nat) (ws:List Int):Prop where
 ok:COk eQ
 c8:1<=c/\c<=8
 wl:wl (tk eQ (c:Int) eQ.length)=some ws
 B1:1<=B
 BF:B+ws.length<=F
 F9:F<=9900
theorem vH {r:Int} (h:Rg r):∃ k:Nat,r=(k:Int)/\k<12:=by unfold Rg at h; exact ⟨r.toNat,by omega,by omega⟩
theorem VX.get (h:VR c F ρ s.1 s.2.2) {k:Nat} (hk:k<12):∃ x,ρ[k]?=some x:=⟨_,List.getElem?_eq_getElem (by have:=h.len; omega)⟩
theorem BP {q:ah} (hq:eQ[i]?=some q) (ho:q.Op=4\/q.Op=5):ny eQ (c:Int) i=4*((pl eQ (c:Int) q.N.toNat:Int)-(pl eQ (c:Int) i:Int)):=by
 unfold ny
 rw [ry hq,if_pos ho]
theorem yi (hC:CC eQ c B F ws) {j:Nat} (hj:j<=eQ.length):pl eQ (c:Int) j<=ws.length:=by
 have h1:=Df eQ (c:Int) hj
 have h2:=oG hC.wl
 rw [sW] at h2
 omega
theorem Ap (hC:CC eQ c B F ws) {q:ah} (hq:eQ[i]?=some q) (ho:1<=q.Op/\q.Op<=5) (h:Rl eQ c B F ws i ρ s):∃ k i' ρ' s',1<=k/\k<=6/\nV k s s'/\Rl eQ c B F ws i' ρ' s'/\QP q i ρ i' ρ'/\i'<eQ.length:=by
 obtain ⟨r,pc,m⟩:=s
 obtain ⟨hB,hV,hcw,hpc⟩:=h
 simp only at hB hV hcw hpc
 subst hpc
 have hi:i<eQ.length:=by rcases Nat.lt_or_ge i eQ.length with h | h; exact h; rw [List.getElem?_eq_none h] at hq; cases hq
 have hQ:=hC.ok.q q (List.mem_of_getElem? hq)
 have hqa:=ry hq
 have hbl:blk eQ (c:Int) i=gC q (c:Int) (ny eQ (c:Int) i):=by unfold blk; rw [hqa]
 have hpl:=sd eQ (c:Int) i
 have hF:=hC.F9
 have hBF:=hC.BF
 have hB1:=hC.B1
 have nx:q.Op≠4->i+1<eQ.length:=λh4=>hC.ok.nxt hq (by omega) h4
 have str:∀ {L:List Instr} {r' m' ρ':List Int},blk eQ (c:Int) i=L->1<=L.length->L.length<=6->(∃ r1 m1,SL F L r m r1 m1/\Bs F r1 m1/\VR c F ρ' r1 m1)->QP q i ρ (i+1) ρ'->q.Op≠4->∃ k i' ρ' s',1<=k/\k<=6/\nV k (r,4*((B+pl eQ (c:Int) i:Nat):Int),m) s'/\Rl eQ c B F ws i' ρ' s'/\QP q i ρ i' ρ'/\i'<eQ.length:=by
  intro L _ _ ρ' hL l1 l6 ⟨r1,m1,s1,b1,v1⟩ hqp h4
  obtain ⟨R,cw⟩:=SL.run hC.wl hC.B1 hC.BF (by omega) (p:=pl eQ (c:Int) i) (λq hq=>by have:=pY (pre:=[]) (post:=[]) (L:=L) hi (by rw [hL]; simp) q hq; simpa using this) hB hcw s1
  refine ⟨L.length,i+1,ρ',_,l1,l6,R,⟨b1,v1,cw,?_⟩,hqp,nx h4⟩
  show 4*((B+(pl eQ (c:Int) i+L.length):Nat):Int)=_
  rw [hpl,hL]
 rcases (by omega:q.Op=1\/q.Op=2\/q.Op=3\/q.Op=4\/q.Op=5) with h1 | h1 | h1 | h1 | h1
 ·obtain ⟨d,hd,hd2⟩:∃ d:Nat,q.Dst=(d:Int)/\d<12:=vH (by unfold QOk at hQ; unfold Rg at *; omega)
  have hN:Wd q.N:=by unfold QOk at hQ; unfold Wd at *; omega
  have e:blk eQ (c:Int) i=lr ((rgN c d 7:Nat):Int) q.N++wrL (c:Int) (d:Int):=by rw [hbl]; unfold gC; rw [if_pos h1,hd]; rw [show eY (c:Int) (d:Int) 7=((rgN c d 7:Nat):Int) from oh (s:=7) hC.c8.2]
  have l1:=qx ((rgN c d 7:Nat):Int) q.N
  have l2:=vB (c:Int) (d:Int)
  exact str (r':=r) (m':=m) e (by rw [List.length_append]; omega) (by rw [List.length_append]; omega) (BN hC.c8 hB hV hd2 hN) (.inl ⟨h1,rfl,by rw [hd]; rfl⟩) (by omega)
 ·obtain ⟨d,hd,hd2⟩:∃ d:Nat,q.Dst=(d:Int)/\d<12:=vH (by unfold QOk at hQ; unfold Rg at *; omega)
  obtain ⟨a,ha,ha2⟩:∃ a:Nat,q.A=(a:Int)/\a<12:=vH (by unfold QOk at hQ; unfold Rg at *; omega)
  obtain ⟨x,hx⟩:=VX.get (s:=(r,0,m)) hV ha2
  have e:blk eQ (c:Int) i=rdL (c:Int) (a:Int) 5++[⟨12,((rgN c d 7:Nat):Int),((rgN c a 5:Nat):Int),0,0⟩]++wrL (c:Int) (d:Int):=by
   rw [hbl]; unfold gC; rw [if_neg (by omega),if_pos h1,hd,ha]; rw [show eY (c:Int) (d:Int) 7=((rgN c d 7:Nat):Int) from oh (s:=7) hC.c8.2,show eY (c:Int) (a:Int) 5=((rgN c a 5:Nat):Int) from oh (s:=5) hC.c8.2]
  have l1:=lu (c:Int) (a:Int) 5
  have l2:=vB (c:Int) (d:Int)
  exact str (r':=r) (m':=m) e (by simp; omega) (by simp; omega) (CQ hC.c8 hB hV hd2 ha2 hx) (.inr (.inl ⟨h1,rfl,x,by rw [ha]; exact hx,by rw [hd]; rfl⟩)) (by omega)
 ·obtain ⟨d,hd,hd2⟩:∃ d:Nat,q.Dst=(d:Int)/\d<12:=vH (by unfold QOk at hQ; unfold Rg at *; omega)
  obtain ⟨a,ha,ha2⟩:∃ a:Nat,q.A=(a:Int)/\a<12:=vH (by unfold QOk at hQ; unfold Rg at *; omega)
  obtain ⟨b,hb,hb2⟩:∃ b:Nat,q.B=(b:Int)/\b<12:=vH (by unfold QOk at hQ; unfold Rg at *; omega)
  obtain ⟨x,hx⟩:=VX.get (s:=(r,0,m)) hV ha2
  obtain ⟨y,hy⟩:=VX.get (s:=(r,0,m)) hV hb2
  obtain ⟨v,r1,m1,hv,s1,b1,v1⟩:=D0 hC.c8 hB hV hd2 ha2 hb2 hx hy (n:=q.N) (by unfold QOk at hQ; omega)
  have e:blk eQ (c:Int) i=rdL (c:Int) (a:Int) 5++rdL (c:Int) (b:Int) 6++[⟨rx q.N,((rgN c d 7:Nat):Int),((rgN c a 5:Nat):Int),((rgN c b 6:Nat):Int),0⟩]++(if q.N=4 then [⟨13,((rgN c d 7:Nat):Int),((rgN c d 7:Nat):Int),0,1⟩] else [])++wrL (c:Int) (d:Int):=by
   rw [hbl]; unfold gC; rw [if_neg (by omega),if_neg (by omega),if_pos h1,hd,ha,hb]
   rw [show eY (c:Int) (d:Int) 7=((rgN c d 7:Nat):Int) from oh (s:=7) hC.c8.2,show eY (c:Int) (a:Int) 5=((rgN c a 5:Nat):Int) from oh (s:=5) hC.c8.2,show eY (c:Int) (b:Int) 6=((rgN c b 6:Nat):Int) from oh (s:=6) hC.c8.2]
  have l1:=lu (c:Int) (a:Int) 5
  have l2:=vB (c:Int) (d:Int)
  have l3:=lu (c:Int) (b:Int) 6
  exact str (r':=r) (m':=m) e (by simp only [List.length_append,List.length_singleton]; omega) (by simp only [List.length_append,List.length_singleton]; split <;> simp <;> omega) ⟨r1,m1,s1,b1,v1⟩ (.inr (.inr (.inl ⟨h1,rfl,x,y,v,by rw [ha]; exact hx,by rw [hb]; exact hy,hv,by rw [hd]; rfl⟩))) (by omega)
 ·have hN:0<=q.N/\q.N<eQ.length:=by unfold QOk at hQ; omega
  have e:blk eQ (c:Int) i=[⟨20,0,0,0,ny eQ (c:Int) i⟩]:=by rw [hbl]; unfold gC; rw [if_neg (by omega),if_neg (by omega),if_neg (by omega),if_pos h1]
  have hi0:=pY (pre:=[]) (post:=[]) (L:=[⟨20,0,0,0,ny eQ (c:Int) i⟩]) hi (by rw [e]; rfl) 0 (by simp)
  have b1:=yi hC (j:=q.N.toNat) (by omega)
  have b2:=yi hC (j:=i) (by omega)
  have R:=vG (p:=pl eQ (c:Int) i) (i:=⟨20,0,0,0,ny eQ (c:Int) i⟩) hC.wl hC.B1 hB hcw (by simpa using hi0) rfl λhM=>zN hM (by omega) (by omega) (d8 (k:=0) hB.z0) (q:=4*((B+pl eQ (c:Int) q.N.toNat:Nat):Int)) (by
   rw [BP hq (.inl h1),show 4*((B+pl eQ (c:Int) i:Nat):Int)+4*((pl eQ (c:Int) q.N.toNat:Int)-(pl eQ (c:Int) i:Int))=4*((B+pl eQ (c:Int) q.N.toNat:Nat):Int) by omega]
   exact m7 (by unfold Wd; omega))
  exact ⟨1,q.N.toNat,ρ,_,by omega,by omega,R,⟨hB,hV,hcw,rfl⟩,.inr (.inr (.inr (.inl ⟨h1,rfl,rfl⟩))),by omega⟩
 ·obtain ⟨a,ha,ha2⟩:∃ a:Nat,q.A=(a:Int)/\a<12:=vH (by unfold QOk at hQ; unfold Rg at *; omega)
  have hN:0<=q.N/\q.N<eQ.length:=by unfold QOk at hQ; omega
  obtain ⟨x,hx⟩:=VX.get (s:=(r,0,m)) hV ha2
  have e:blk eQ (c:Int) i=rdL (c:Int) (a:Int) 5++[⟨18,0,((rgN c a 5:Nat):Int),0,8⟩]++[⟨20,0,0,0,ny eQ (c:Int) i-4*((rdL (c:Int) (a:Int) 5).length+1)⟩]:=by
   rw [hbl]; unfold gC; rw [if_neg (by omega),if_neg (by omega),if_neg (by omega),if_neg (by omega),if_pos h1,ha,show eY (c:Int) (a:Int) 5=((rgN c a 5:Nat):Int) from oh (s:=5) hC.c8.2]
  have l1:=lu (c:Int) (a:Int) 5
  have hbn:=rA (c:=c) (p:=a) (s:=5) hC.c8.2 (by omega)
  obtain ⟨r1,s1,b1,v1,e1,_⟩:=Ao (s:=5) hC.c8 hB hV ha2 (by omega) (.inl rfl) hx
  obtain ⟨R1,cw1⟩:=SL.run hC.wl hC.B1 hC.BF (by omega) (p:=pl eQ (c:Int) i) (L:=rdL (c:Int) (a:Int) 5) (λq hq=>by have:=pY (pre:=[]) (L:=rdL (c:Int) (a:Int) 5) hi (by rw [e,List.append_assoc]; rfl) q hq; simpa using this) hB hcw s1
  have b0:=yi hC (j:=i+1) (by omega)
  have b2:=yi hC (j:=q.N.toNat) (by omega)
  have hlen:pl eQ (c:Int) (i+1)=pl eQ (c:Int) i+(rdL (c:Int) (a:Int) 5).length+2:=by rw [hpl,e]; simp; omega
  have hi0:=pY (pre:=rdL (c:Int) (a:Int) 5) (L:=[⟨18,0,((rgN c a 5:Nat):Int),0,8⟩]) hi e 0 (by simp)
  have R2:=vG (p:=pl eQ (c:Int) i+(rdL (c:Int) (a:Int) 5).length) (i:=⟨18,0,((rgN c a 5:Nat):Int),0,8⟩) hC.wl hC.B1 b1 cw1 (by simpa using hi0) rfl λhM=>DX (.inr rfl) hM (by omega) (by omega) (d8 e1) (d8 (k:=0) b1.z0) (q:=4*((B+pl eQ (c:Int) (i+1):Nat):Int)) (by
   rw [show 4*((B+(pl eQ (c:Int) i+(rdL (c:Int) (a:Int) 5).length):Nat):Int)+8=4*((B+pl eQ (c:Int) (i+1):Nat):Int) by omega]
   exact m7 (by unfold Wd; omega))
  by_cases h0:x=0
  ·subst h0
   rw [if_neg (by simp)] at R2
   have hi1:=pY (pre:=rdL (c:Int) (a:Int) 5++[⟨18,0,((rgN c a 5:Nat):Int),0,8⟩]) (L:=[⟨20,0,0,0,ny eQ (c:Int) i-4*((rdL (c:Int) (a:Int) 5).length+1)⟩]) (post:=[]) hi (by rw [e,List.append_nil]) 0 (by simp)
   rw [show 4*((B+(pl eQ (c:Int) i+(rdL (c:Int) (a:Int) 5).length):Nat):Int)+4=4*((B+(pl eQ (c:Int) i+(rdL (c:Int) (a:Int) 5).length+1):Nat):Int) by omega] at R2
   have R3:=vG (p:=pl eQ (c:Int) i+(rdL (c:Int) (a:Int) 5).length+1) (i:=⟨20,0,0,0,ny eQ (c:Int) i-4*((rdL (c:Int) (a:Int) 5).length+1)⟩) hC.wl hC.B1 b1 cw1 (by rw [List.length_append,List.length_singleton] at hi1; simpa [Nat.add_assoc] using hi1) rfl λhM=>zN hM (by omega) (by omega) (d8 (k:=0) b1.z0) (q:=4*((B+pl eQ (c:Int) q.N.toNat:Nat):Int)) (by
    rw [BP hq (.inr h1),show 4*((B+(pl eQ (c:Int) i+(rdL (c:Int) (a:Int) 5).length+1):Nat):Int)+(4*((pl eQ (c:Int) q.N.toNat:Int)-(pl eQ (c:Int) i:Int))-4*(((rdL (c:Int) (a:Int) 5).length:Int)+1))=4*((B+pl eQ (c:Int) q.N.toNat:Nat):Int) by omega]
    exact m7 (by unfold Wd; omega))
   exact ⟨_,q.N.toNat,ρ,_,by omega,by omega,(R1.add R2).add R3,⟨b1,v1,cw1,rfl⟩,.inr (.inr (.inr (.inr ⟨h1,rfl,0,by rw [ha]; exact hx,by rw [if_pos rfl]⟩))),by omega⟩
  ·rw [if_pos (by simp [h0])] at R2
   exact ⟨_,i+1,ρ,_,by omega,by omega,R1.add R2,⟨b1,v1,cw1,rfl⟩,.inr (.inr (.inr (.inr ⟨h1,rfl,x,by rw [ha]; exact hx,by rw [if_neg h0]⟩))),nx (by omega)⟩
end
end
noncomputable section
section
variable {eQ:List ah} {c B F:Nat} {ws:List Int} {i:Nat} {ρ:List Int} {s:Mc}
theorem sg (hC:CC eQ c B F ws) (hi:i<eQ.length) {pre post:List Instr} (hb:blk eQ (c:Int) i=pre++[⟨15,1,0,0,0⟩]++post) {r m r1 m1:List Int} (hB:Bs F r m) (hcw:Cw ws B m) (h:SL F pre r m r1 m1) :
  ∃ r2,nV (pre.length+1) (r,4*((B+pl eQ (c:Int) i:Nat):Int),m) (r2,0,m1)/\Bs F r2 m1/\Cw ws B m1/\r2[1]?=some (4*((B+(pl eQ (c:Int) i+pre.length+1):Nat):Int))/\∀ k,k≠1->r2[k]?=r1[k]?:=by
 have hF:=hC.F9
 have hBF:=hC.BF
 have b0:=yi hC (j:=i+1) (by omega)
 have hpl:=sd eQ (c:Int) i
 rw [hb] at hpl
 simp only [List.length_append,List.length_singleton] at hpl
 obtain ⟨R1,cw1⟩:=SL.run hC.wl hC.B1 hC.BF (by omega) (p:=pl eQ (c:Int) i) (L:=pre) (λq hq=>by have:=pY (pre:=[]) (L:=pre) hi (by rw [hb,List.append_assoc]; rfl) q hq; simpa using this) hB hcw h
 have b1:=SL.bs h hB
 have hw:Wd (4*((B+(pl eQ (c:Int) i+pre.length):Nat):Int)+4):=by unfold Wd; omega
 have hi0:=pY (pre:=pre) (L:=[⟨15,1,0,0,0⟩]) hi hb 0 (by simp)
 have R2:=vG (p:=pl eQ (c:Int) i+pre.length) (i:=⟨15,1,0,0,0⟩) hC.wl hC.B1 b1 cw1 (by simpa using hi0) rfl λhM=>BL hM (by omega) (by omega) (d8 (k:=0) b1.z0)
 have t:=b1.pt (k:=1) (v:=4*((B+(pl eQ (c:Int) i+pre.length):Nat):Int)+4) (by omega) hw
 refine ⟨_,R1.add R2,b1.tn t,cw1,?_,λk hk=>sa (by omega) (by omega)⟩
 rw [show 4*((B+(pl eQ (c:Int) i+pre.length+1):Nat):Int)=4*((B+(pl eQ (c:Int) i+pre.length):Nat):Int)+4 by omega]
 exact uc (k:=1) (by omega) (by rw [b1.r32]; omega)
theorem VX.at {d:Nat} {regs mem r1:List Int} (h:VX d c F ρ regs mem) (hc:c<=8) (hk:∀ k,k≠1->r1[k]?=regs[k]?):VX d c F ρ r1 mem:=h.rg hc λr _ hr=>hk _ (by have:=pX r (by omega); omega)
theorem Aq (hC:CC eQ c B F ws) {q:ah} (hq:eQ[i]?=some q) (ho:6<=q.Op/\q.Op<=10) (h:Rl eQ c B F ws i ρ s):∃ k s',1<=k/\k<=6/\nV k s s'/\Cl eQ c B F ws i ρ q s':=by
 obtain ⟨r,pc,m⟩:=s
 obtain ⟨hB,hV,hcw,hpc⟩:=h
 simp only at hB hV hcw hpc
 subst hpc
 have hi:i<eQ.length:=by rcases Nat.lt_or_ge i eQ.length with h | h; exact h; rw [List.getElem?_eq_none h] at hq; cases hq
 have hQ:=hC.ok.q q (List.mem_of_getElem? hq)
 have hqa:=ry hq
 have hbl:blk eQ (c:Int) i=gC q (c:Int) (ny eQ (c:Int) i):=by unfold blk; rw [hqa]
 have hpl:=sd eQ (c:Int) i
 have arg:∀ {d k s:Nat} {a n:Int} {r m:List Int},Bs F r m->VX d c F ρ r m->k=10\/k=11\/k=17->r[s]?=some a->Wd (a+n)->∃ r1,SL F [⟨12,(k:Int),(s:Int),0,n⟩] r m r1 m/\Bs F r1 m/\VX d c F ρ r1 m/\r1[k]?=some (a+n)/\∀ q,q≠k->r1[q]?=r[q]?:=λhB hV hk ha hn=>DZ hC.c8 hB hV hk ha hn
 rcases (by omega:q.Op=6\/q.Op=7\/q.Op=8\/q.Op=9\/q.Op=10) with h1 | h1 | h1 | h1 | h1
 ·obtain ⟨a,ha,ha2⟩:∃ a:Nat,q.A=(a:Int)/\a<12:=vH (by unfold QOk at hQ; unfold Rg at *; omega)
  have hN:0<=q.N/\q.N<=2:=by unfold QOk at hQ; omega
  obtain ⟨x,hx⟩:=VX.get (s:=(r,0,m)) hV ha2
  have wx:=vF hV.wd hx
  obtain ⟨r1,s1,b1,v1,e1,_⟩:=Ao (s:=5) hC.c8 hB hV ha2 (by omega) (.inl rfl) hx
  obtain ⟨r2,s2,b2,v2,e2,k2⟩:=arg (n:=0) b1 v1 (.inl rfl) e1 (by unfold Wd at *; omega)
  obtain ⟨r3,s3,b3,v3,e3,k3⟩:=arg (n:=q.N) b2 v2 (.inr (.inl rfl)) (s:=0) b2.z0 (by unfold Wd; omega)
  obtain ⟨r4,s4,b4,v4,e4,k4⟩:=arg (n:=1) b3 v3 (.inr (.inr rfl)) (s:=0) b3.z0 (by unfold Wd; omega)
  have e:blk eQ (c:Int) i=(rdL (c:Int) (a:Int) 5++[⟨12,((10:Nat):Int),((rgN c a 5:Nat):Int),0,0⟩]++[⟨12,((11:Nat):Int),((0:Nat):Int),0,q.N⟩]++[⟨12,((17:Nat):Int),((0:Nat):Int),0,1⟩])++[⟨15,1,0,0,0⟩]++[]:=by
   rw [hbl]; unfold gC; rw [if_neg (by omega),if_neg (by omega),if_neg (by omega),if_neg (by omega),if_neg (by omega),if_pos h1,ha,show eY (c:Int) (a:Int) 5=((rgN c a 5:Nat):Int) from oh (s:=5) hC.c8.2]
   simp only [List.append_assoc,List.append_nil]; rfl
  have l1:=lu (c:Int) (a:Int) 5
  obtain ⟨r5,R,b5,cw5,e5,k5⟩:=sg hC hi e hB hcw (((s1.app s2).app s3).app s4)
  have hl:pl eQ (c:Int) (i+1)=pl eQ (c:Int) i+(rdL (c:Int) (a:Int) 5++[Instr.mk 12 (((10:Nat):Int)) (((rgN c a 5:Nat):Int)) 0 0]++[Instr.mk 12 (((11:Nat):Int)) (((0:Nat):Int)) 0 q.N]++[Instr.mk 12 (((17:Nat):Int)) (((0:Nat):Int)) 0 1]).length+1:=by rw [hpl,e,List.append_nil,List.length_append]; rfl
  refine ⟨_,_,by omega,?_,R,b5,v4.at hC.c8.2 k5,cw5,rfl,?_,λ_=>?_,λ_=>?_,?_⟩
  ·simp only [List.length_append,List.length_singleton]; omega
  ·exact (k5 17 (by decide)).trans (e4.trans (by rw [h1]; rfl))
  ·rw [ha]; exact (k5 10 (by decide)).trans ((k4 10 (by decide)).trans ((k3 10 (by decide)).trans (e2.trans (by rw [Int.add_zero]; exact hx.symm))))
  ·exact (k5 11 (by decide)).trans ((k4 11 (by decide)).trans (e3.trans (by rw [Int.zero_add])))
  ·rw [if_neg (by omega),hl]; exact e5
 ·have hN:0<=q.N/\q.N<=2:=by unfold QOk at hQ; omega
  obtain ⟨r3,s3,b3,v3,e3,k3⟩:=arg (n:=q.N) hB hV (.inr (.inl rfl)) (s:=0) hB.z0 (by unfold Wd; omega)
  obtain ⟨r4,s4,b4,v4,e4,k4⟩:=arg (n:=2) b3 v3 (.inr (.inr rfl)) (s:=0) b3.z0 (by unfold Wd; omega)
  have e:blk eQ (c:Int) i=([⟨12,((11:Nat):Int),((0:Nat):Int),0,q.N⟩]++[⟨12,((17:Nat):Int),((0:Nat):Int),0,2⟩])++[⟨15,1,0,0,0⟩]++([⟨12,eY (c:Int) q.Dst 7,10,0,0⟩]++wrL (c:Int) q.Dst):=by
   rw [hbl]; unfold gC; rw [if_neg (by omega),if_neg (by omega),if_neg (by omega),if_neg (by omega),if_neg (by omega),if_neg (by omega),if_pos h1]
   simp only [List.append_assoc]; rfl
  obtain ⟨r5,R,b5,cw5,e5,k5⟩:=sg hC hi e hB hcw (s3.app s4)
  refine ⟨_,_,by omega,by simp,R,b5,v4.at hC.c8.2 k5,cw5,rfl,?_,λh=>by omega,λ_=>?_,?_⟩
  ·exact (k5 17 (by decide)).trans (e4.trans (by rw [h1]; rfl))
  ·exact (k5 11 (by decide)).trans ((k4 11 (by decide)).trans (e3.trans (by rw [Int.zero_add])))
  ·rw [if_pos h1]; exact e5
 ·obtain ⟨r4,s4,b4,v4,e4,k4⟩:=arg (n:=3) hB hV (.inr (.inr rfl)) (s:=0) hB.z0 (by unfold Wd; omega)
  have e:blk eQ (c:Int) i=[⟨12,((17:Nat):Int),((0:Nat):Int),0,3⟩]++[⟨15,1,0,0,0⟩]++[]:=by
   rw [hbl]; unfold gC; rw [if_neg (by omega),if_neg (by omega),if_neg (by omega),if_neg (by omega),if_neg (by omega),if_neg (by omega),if_neg (by omega),if_pos h1]; rfl
  obtain ⟨r5,R,b5,cw5,e5,k5⟩:=sg hC hi e hB hcw s4
  have hl:pl eQ (c:Int) (i+1)=pl eQ (c:Int) i+[Instr.mk 12 ((17:Nat):Int) ((0:Nat):Int) 0 3].length+1:=by rw [hpl,e]; rfl
  refine ⟨_,_,by omega,by simp,R,b5,v4.at hC.c8.2 k5,cw5,rfl,?_,λh=>by omega,λh=>by omega,?_⟩
  ·exact (k5 17 (by decide)).trans (e4.trans (by rw [h1]; rfl))
  ·rw [if_neg (by omega),hl]; exact e5
 ·obtain ⟨a,ha,ha2⟩:∃ a:Nat,q.A=(a:Int)/\a<12:=vH (by unfold QOk at hQ; unfold Rg at *; omega)
  obtain ⟨x,hx⟩:=VX.get (s:=(r,0,m)) hV ha2
  have wx:=vF hV.wd hx
  obtain ⟨r1,s1,b1,v1,e1,_⟩:=Ao (s:=5) hC.c8 hB hV ha2 (by omega) (.inl rfl) hx
  obtain ⟨r2,s2,b2,v2,e2,k2⟩:=arg (n:=0) b1 v1 (.inl rfl) e1 (by unfold Wd at *; omega)
  obtain ⟨r4,s4,b4,v4,e4,k4⟩:=arg (n:=4) b2 v2 (.inr (.inr rfl)) (s:=0) b2.z0 (by unfold Wd; omega)
  have e:blk eQ (c:Int) i=(rdL (c:Int) (a:Int) 5++[⟨12,((10:Nat):Int),((rgN c a 5:Nat):Int),0,0⟩]++[⟨12,((17:Nat):Int),((0:Nat):Int),0,4⟩])++[⟨15,1,0,0,0⟩]++[]:=by
   rw [hbl]; unfold gC; rw [if_neg (by omega),if_neg (by omega),if_neg (by omega),if_neg (by omega),if_neg (by omega),if_neg (by omega),if_neg (by omega),if_neg (by omega),if_pos h1,ha,show eY (c:Int) (a:Int) 5=((rgN c a 5:Nat):Int) from oh (s:=5) hC.c8.2]
   simp only [List.append_assoc,List.append_nil]; rfl
  have l1:=lu (c:Int) (a:Int) 5
  obtain ⟨r5,R,b5,cw5,e5,k5⟩:=sg hC hi e hB hcw ((s1.app s2).app s4)
  have hl:pl eQ (c:Int) (i+1)=pl eQ (c:Int) i+(rdL (c:Int) (a:Int) 5++[Instr.mk 12 (((10:Nat):Int)) (((rgN c a 5:Nat):Int)) 0 0]++[Instr.mk 12 (((17:Nat):Int)) (((0:Nat):Int)) 0 4]).length+1:=by rw [hpl,e,List.append_nil,List.length_append]; rfl
  refine ⟨_,_,by omega,?_,R,b5,v4.at hC.c8.2 k5,cw5,rfl,?_,λ_=>?_,λh=>by omega,?_⟩
  ·simp only [List.length_append,List.length_singleton]; omega
  ·exact (k5 17 (by decide)).trans (e4.trans (by rw [h1]; rfl))
  ·rw [ha]; exact (k5 10 (by decide)).trans ((k4 10 (by decide)).trans (e2.trans (by rw [Int.add_zero]; exact hx.symm)))
  ·rw [if_neg (by omega),hl]; exact e5
 ·obtain ⟨r4,s4,b4,v4,e4,k4⟩:=arg (n:=5) hB hV (.inr (.inr rfl)) (s:=0) hB.z0 (by unfold Wd; omega)
  have e:blk eQ (c:Int) i=[⟨12,((17:Nat):Int),((0:Nat):Int),0,5⟩]++[⟨15,1,0,0,0⟩]++[]:=by
   rw [hbl]; unfold gC; rw [if_neg (by omega),if_neg (by omega),if_neg (by omega),if_neg (by omega),if_neg (by omega),if_neg (by omega),if_neg (by omega),if_neg (by omega),if_neg (by omega)]; rfl
  obtain ⟨r5,R,b5,cw5,e5,k5⟩:=sg hC hi e hB hcw s4
  have hl:pl eQ (c:Int) (i+1)=pl eQ (c:Int) i+[Instr.mk 12 ((17:Nat):Int) ((0:Nat):Int) 0 5].length+1:=by rw [hpl,e]; rfl
  refine ⟨_,_,by omega,by simp,R,b5,v4.at hC.c8.2 k5,cw5,rfl,?_,λh=>by omega,λh=>by omega,?_⟩
  ·exact (k5 17 (by decide)).trans (e4.trans (by rw [h1]; rfl))
  ·rw [if_neg (by omega),hl]; exact e5
theorem Cl.ret {q:ah} (h:Cl eQ c B F ws i ρ q s) (h7:q.Op≠7) {pc:Int} (hp:s.1[1]?=some pc):Rl eQ c B F ws (i+1) ρ (s.1,pc,s.2.2):=by
 have:=h.r1
 rw [hp,if_neg h7] at this
 exact ⟨h.b,h.v,h.cw,o9 this⟩
theorem Cl.got (hC:CC eQ c B F ws) {q:ah} (hq:eQ[i]?=some q) (h:Cl eQ c B F ws i ρ q s) (h7:q.Op=7) {pc x:Int} (hp:s.1[1]?=some pc) (hx:Wd x):∃ k s',1<=k/\k<=2/\nV k (s.1.set 10 x,pc,s.2.2) s'/\Rl eQ c B F ws (i+1) (ρ.set q.Dst.toNat x) s':=by
 obtain ⟨r,pc0,m⟩:=s
 obtain ⟨hB,hV,hcw,_,_,_,_,h1⟩:=h
 simp only at hB hV hcw h1 hp
 rw [hp,if_pos h7] at h1
 obtain rfl:=o9 h1
 have hi:i<eQ.length:=by rcases Nat.lt_or_ge i eQ.length with h | h; exact h; rw [List.getElem?_eq_none h] at hq; cases hq
 have hQ:=hC.ok.q q (List.mem_of_getElem? hq)
 have hF:=hC.F9
 have hbl:blk eQ (c:Int) i=gC q (c:Int) (ny eQ (c:Int) i):=by unfold blk; rw [ry hq]
 have hpl:=sd eQ (c:Int) i
 obtain ⟨d,hd,hd2⟩:∃ d:Nat,q.Dst=(d:Int)/\d<12:=vH (by unfold QOk at hQ; unfold Rg at *; omega)
 have e:blk eQ (c:Int) i=([⟨12,11,0,0,q.N⟩]++nw 2)++([⟨12,((rgN c d 7:Nat):Int),((10:Nat):Int),0,0⟩]++wrL (c:Int) (d:Int))++[]:=by
  rw [hbl]; unfold gC; rw [if_neg (by omega),if_neg (by omega),if_neg (by omega),if_neg (by omega),if_neg (by omega),if_neg (by omega),if_pos h7,hd,show eY (c:Int) (d:Int) 7=((rgN c d 7:Nat):Int) from oh (s:=7) hC.c8.2]
  simp only [List.append_assoc,List.append_nil]; rfl
 have es:r.set 10 x=st r ((10:Nat):Int) x:=by unfold st; rw [if_neg (by omega)]; rfl
 have t:=hB.pt (k:=10) (v:=x) (by omega) hx
 have hg:=rA (p:=d) (s:=7) hC.c8.2 (by omega)
 have e10:(st r ((10:Nat):Int) x)[10]?=some x:=uc (by omega) (by rw [hB.r32]; omega)
 obtain ⟨r1,m1,s1,b1,v1⟩:=sX (v:=x) (i:=⟨12,((rgN c d 7:Nat):Int),((10:Nat):Int),0,0⟩) hC.c8 (hB.tn t) ((hV.pt hC.c8.2 (k:=10) (v:=x) (by omega)).wk d) hd2 hx rfl λpc hM h0 h1=>by
  have:=pW (rt:=0) (imm:=0) hM h0 h1 (rd:=((rgN c d 7:Nat):Int)) (by omega) (d8 e10)
  rw [Int.add_zero,m7 hx] at this
  exact this
 have l2:=vB (c:Int) (d:Int)
 obtain ⟨R,cw⟩:=SL.run hC.wl hC.B1 hC.BF (by omega) (p:=pl eQ (c:Int) i+3) (λq' hq'=>by have:=pY hi e q' hq'; exact this) (hB.tn t) hcw s1
 refine ⟨_,(r1,_,m1),?_,?_,by rw [es]; exact R,b1,by rw [hd]; exact v1,cw,?_⟩
 rotate_left 2
 ·show 4*((B+(pl eQ (c:Int) i+3+([Instr.mk 12 ((rgN c d 7:Nat):Int) ((10:Nat):Int) 0 0]++wrL (c:Int) (d:Int)).length):Nat):Int)=_
  have hl:pl eQ (c:Int) (i+1)=pl eQ (c:Int) i+3+([Instr.mk 12 ((rgN c d 7:Nat):Int) ((10:Nat):Int) 0 0]++wrL (c:Int) (d:Int)).length:=by rw [hpl,e]; simp [nw]; omega
  rw [hl]
 ·simp
 ·simp; omega
end
end
noncomputable section
def srv (n:Int) (k:Nat) (x:Int) (bs:List Box):Int×List Int×List Box×Int:=
 if n=1 then (match bs[k]? with
  | some b=>if (b.Items.length:Int)>=b.Room then (3,[],bs,0) else (1,[],bs.set k ⟨b.Room,b.Items++[x]⟩,0)
  | none=>(0,[],bs,0))
 else if n=2 then (match bs[k]? with
  | some b=>(match b.Items with
   | []=>(3,[],bs,0)
   | y::ys=>(1,[],bs.set k ⟨b.Room,ys⟩,y))
  | none=>(0,[],bs,0))
 else if n=3 then (2,[],bs,0)
 else if n=4 then (1,[x],bs,0)
 else (4,[],bs,0)
structure CrS where
 th:List (List Int×Nat)
 bx:List Box
 t:Nat
 id:Nat
 out:List Int
structure SqS where
 ha:List Mc
 bx:List Box
 t:Nat
 id:Nat
 out:List Int
def nxt (n t id:Nat) (d:Int):Nat×Nat:=if d=1 then (t,0) else if d=2 then ((t+1)%n,0) else ((t+1)%n,id+1)
def TSt (q:ah) (i:Nat) (ρ:List Int) (bs:List Box) (i':Nat) (ρ':List Int) (d:Int) (o:List Int) (bs':List Box):Prop:=
 (q.Op<=5/\QP q i ρ i' ρ'/\d=1/\o=[]/\bs'=bs) \/
 (6<=q.Op/\∃ y,srv (q.Op-5) q.N.toNat ((ρ[q.A.toNat]?).getD 0) bs=(d,o,bs',y)/\(((d=1\/d=2)/\i'=i+1/\ρ'=if q.Op=7 then ρ.set q.Dst.toNat y else ρ)\/((d=3\/d=4)/\i'=i/\ρ'=ρ)))
def CSt (codes:List (List ah)) (s s':CrS):Prop:=∃ eQ ρ i q i' ρ' d o bs',codes[s.t]?=some eQ/\s.th[s.t]?=some (ρ,i)/\eQ[i]?=some q/\TSt q i ρ s.bx i' ρ' d o bs' /\
 s'=⟨s.th.set s.t (ρ',i'),bs',(nxt codes.length s.t s.id d).1,(nxt codes.length s.t s.id d).2,s.out++o⟩
def qE (m:Mc) (d n a y:Int):Mc:=if d<=2 then (if n=2 then m.1.set 10 y else m.1,a,m.2.2) else m
def SSt (s s':SqS):Prop:=∃ m,s.ha[s.t]?=some m /\
  ((m.2.1≠0/\∃ u:Mc,gS ⟨m.1,m.2.1,m.2.2⟩=some (1,u.1,u.2.1,u.2.2)/\s'=⟨s.ha.set s.t u,s.bx,s.t,0,s.out⟩) \/
   (m.2.1=0/\∃ n k x a d o bs' y,m.1[17]?=some n/\(1<=n/\n<=5)/\m.1[10]?=some x/\m.1[1]?=some a/\(n<=2->m.1[11]?=some ((k:Nat):Int)/\k<s.bx.length)/\srv n k x s.bx=(d,o,bs',y) /\
     s'=⟨s.ha.set s.t (qE m d n a y),bs',(nxt s.ha.length s.t s.id d).1,(nxt s.ha.length s.t s.id d).2,s.out++o⟩))
def oJ:Nat->SqS->SqS->Prop
 | 0,s,z=>s=z
 | k+1,s,z=>s.id<s.ha.length/\∃ u,SSt s u/\oJ k u z
theorem oJ.add:∀ {a b:Nat} {s t u:SqS},oJ a s t->oJ b t u->oJ (a+b) s u
 | 0,b,s,t,u,h,k=>by obtain rfl:=h; rw [Nat.zero_add]; exact k
 | a+1,b,s,t,u,⟨h1,v,h2,h3⟩,k=>by rw [show a+1+b=(a+b)+1 by omega]; exact ⟨h1,v,h2,h3.add k⟩
theorem pz {α:Type} {l:List α} {k:Nat} {x:α} (h:l[k]?=some x):k<l.length:=by
 rcases Nat.lt_or_ge k l.length with h' | h'
 ·exact h'
 ·rw [List.getElem?_eq_none h'] at h; cases h
theorem oJ.of:∀ {k:Nat} {m m':Mc} {s:SqS},nV k m m'->s.ha[s.t]?=some m->s.id<s.ha.length->oJ k s ⟨s.ha.set s.t m',s.bx,s.t,if k=0 then s.id else 0,s.out⟩
 | 0,m,m',s,h,hm,hi=>by
  obtain rfl:=h
  have hl:=pz hm
  have e:s.ha.set s.t m=s.ha:=by
   obtain rfl:s.ha[s.t]=m:=by rw [List.getElem?_eq_getElem hl] at hm; exact o9 hm
   exact List.set_getElem_self hl
  show s=_
  rw [e,if_pos rfl]
 | k+1,m,m',s,⟨h1,u,h2,h3⟩,hm,hi=>by
  have hl:=pz hm
  refine ⟨hi,_,⟨m,hm,.inl ⟨h1,u,h2,rfl⟩⟩,?_⟩
  have:=oJ.of (s:=⟨s.ha.set s.t u,s.bx,s.t,0,s.out⟩) h3 (List.getElem?_set_self hl) (by show 0<(s.ha.set s.t u).length; rw [List.length_set]; omega)
  simp only [List.set_set,ite_self] at this
  rw [if_neg (by omega)]
  exact this
theorem vI {n:Int} {k:Nat} {x:Int} {bs:List Box} (hn:1<=n/\n<=5) (hk:n<=2->k<bs.length):1<=(srv n k x bs).1/\(srv n k x bs).1<=4/\(3<=(srv n k x bs).1->(srv n k x bs).2.1=[]/\(srv n k x bs).2.2.1=bs):=by
 unfold srv
 by_cases h1:n=1
 ·rw [if_pos h1,List.getElem?_eq_getElem (hk (by omega))]
  simp only
  split
  ·simp
  ·simp
 ·rw [if_neg h1]
  by_cases h2:n=2
  ·rw [if_pos h2,List.getElem?_eq_getElem (hk (by omega))]
   simp only
   split <;> simp
  ·rw [if_neg h2]
   by_cases h3:n=3
   ·rw [if_pos h3]; simp
   ·rw [if_neg h3]
    by_cases h4:n=4
    ·rw [if_pos h4]; simp
    ·rw [if_neg h4]; simp
theorem Dh {n:Int} {k k':Nat} {x x':Int} {bs:List Box} (hn:1<=n/\n<=5) (hx:n=1\/n=4->x=x') (hk:n<=2->k=k'):srv n k x bs=srv n k' x' bs:=by
 unfold srv
 rcases (by omega:n=1\/n=2\/n=3\/n=4\/n=5) with rfl | rfl | rfl | rfl | rfl
 ·obtain rfl:=hx (.inl rfl); obtain rfl:=hk (by omega); rfl
 ·obtain rfl:=hk (by omega); rfl
 ·rfl
 ·obtain rfl:=hx (.inr rfl); rfl
 ·rfl
theorem yT {n:Int} {k:Nat} {x:Int} {bs:List Box} (hb:∀ b∈bs,∀ x∈b.Items,Wd x) (hx:Wd x):(∀ b∈(srv n k x bs).2.2.1,∀ x∈b.Items,Wd x)/\Wd (srv n k x bs).2.2.2/\∀ v∈(srv n k x bs).2.1,Wd v:=by
 have w0:Wd 0:=by unfold Wd; omega
 unfold srv
 by_cases h1:n=1
 ·rw [if_pos h1]
  cases hk:bs[k]? with
  | none=>exact ⟨hb,w0,by simp⟩
  | some b =>
   simp only
   split
   ·exact ⟨hb,w0,by simp⟩
   ·refine ⟨λb' hb' v hv=>?_,w0,by simp⟩
    rcases List.mem_or_eq_of_mem_set hb' with h | rfl
    ·exact hb b' h v hv
    ·rcases List.mem_append.1 hv with h | h
     ·exact hb b (List.mem_of_getElem? hk) v h
     ·rw [List.mem_singleton.1 h]; exact hx
 ·rw [if_neg h1]
  by_cases h2:n=2
  ·rw [if_pos h2]
   cases hk:bs[k]? with
   | none=>exact ⟨hb,w0,by simp⟩
   | some b =>
    simp only
    cases hy:b.Items with
    | nil=>exact ⟨hb,w0,by simp⟩
    | cons y ys =>
     have hm:=List.mem_of_getElem? hk
     refine ⟨λb' hb' v hv=>?_,hb b hm y (by rw [hy]; simp),by simp⟩
     rcases List.mem_or_eq_of_mem_set hb' with h | rfl
     ·exact hb b' h v hv
     ·exact hb b hm v (by rw [hy]; exact List.mem_cons_of_mem _ hv)
  ·rw [if_neg h2]
   by_cases h3:n=3
   ·rw [if_pos h3]; exact ⟨hb,w0,by simp⟩
   ·rw [if_neg h3]
    by_cases h4:n=4
    ·rw [if_pos h4]; exact ⟨hb,w0,by simpa using hx⟩
    ·rw [if_neg h4]; exact ⟨hb,w0,by simp⟩
def Tw (c:Nat) (bs:List Box) (eQ:List ah) (ws:List Int) (F:Nat) (i:Nat) (ρ:List Int) (m:Mc):Prop:=Rl eQ c 1 F ws i ρ m\/∃ q,eQ[i]?=some q/\6<=q.Op/\Cl eQ c 1 F ws i ρ q m
def Bk (c:Nat) (bs:List Box) (eQ:List ah) (ws:List Int) (F:Nat) (i:Nat) (ρ:List Int) (m:Mc):Prop:=∃ q,eQ[i]?=some q/\6<=q.Op/\Cl eQ c 1 F ws i ρ q m/\3<=(srv (q.Op-5) q.N.toNat ((ρ[q.A.toNat]?).getD 0) bs).1
structure Kx where
 codes:List (List ah)
 c:Nat
 ws:Nat->List Int
 F:Nat->Nat
 nb:Nat
structure BQ (K:Kx):Prop where
 l1:1<=K.codes.length
 l3:K.codes.length<=3
 cc:∀ (j:Nat) eQ,K.codes[j]?=some eQ->CC eQ K.c 1 (K.F j) (K.ws j)
 nq:∀ (j:Nat) eQ,K.codes[j]?=some eQ->∀ q∈eQ,q.Op=6\/q.Op=7->q.N<K.nb
structure Sm (K:Kx) (s:CrS) (z:SqS):Prop where
 hl:s.th.length=K.codes.length
 zl:z.ha.length=K.codes.length
 t:z.t=s.t
 tl:s.t<K.codes.length
 bx:z.bx=s.bx
 bl:s.bx.length=K.nb
 bw:∀ b∈s.bx,∀ x∈b.Items,Wd x
 out:z.out=s.out
 id:z.id<=s.id
 il:s.id<=K.codes.length
 h:∀ (j:Nat) eQ ρ i m,K.codes[j]?=some eQ->s.th[j]?=some (ρ,i)->z.ha[j]?=some m->i<eQ.length/\Tw K.c s.bx eQ (K.ws j) (K.F j) i ρ m
 w:∀ (r j:Nat) eQ ρ i m,1<=r->r<=s.id->j=(s.t+K.codes.length-r)%K.codes.length->K.codes[j]?=some eQ->s.th[j]?=some (ρ,i)->z.ha[j]?=some m->Bk K.c s.bx eQ (K.ws j) (K.F j) i ρ m
section
variable {K:Kx} {s s':CrS} {z:SqS}
theorem CR (hK:BQ K) (h:Sm K s z) (hid:s.id<K.codes.length) (hst:CSt K.codes s s'):∃ k z',(1<=k/\k<=9)/\oJ k z z'/\Sm K s' z':=by
 obtain ⟨eQ,ρ,i,q,i',ρ',d,o,bs',hc,hth,hq,hT,rfl⟩:=hst
 have hzl:s.t<z.ha.length:=by rw [h.zl]; exact h.tl
 obtain ⟨m,hm⟩:∃ m,z.ha[s.t]?=some m:=⟨_,List.getElem?_eq_getElem hzl⟩
 have hC:=hK.cc _ _ hc
 obtain ⟨hi,hTw⟩:=h.h _ _ _ _ _ hc hth hm
 have hzi:z.id<z.ha.length:=by rw [h.zl]; have:=h.id; omega
 have hm':z.ha[z.t]?=some m:=by rw [h.t]; exact hm
 have hl1:=hK.l1
 have hsl:s.t<s.th.length:=pz hth
 have oth:∀ {j:Nat} {x:List Int×Nat} {y:Mc},j≠s.t->(s.th.set s.t x)[j]?=s.th[j]?/\(z.ha.set z.t y)[j]?=z.ha[j]?:=λhj=>⟨List.getElem?_set_ne (by omega),List.getElem?_set_ne (by rw [h.t]; omega)⟩
 have done:∀ {k:Nat} {m1:Mc} {o':List Int} {bs1:List Box} {t':Nat} {i1:Nat} {ρ1:List Int},1<=k/\k<=9->oJ k z ⟨z.ha.set z.t m1,bs1,t',0,z.out++o'⟩->t'<K.codes.length->bs1.length=K.nb->(∀ b∈bs1,∀ x∈b.Items,Wd x)->i1<eQ.length->Tw K.c bs1 eQ (K.ws s.t) (K.F s.t) i1 ρ1 m1 ->
   ∃ k z',(1<=k/\k<=9)/\oJ k z z'/\Sm K ⟨s.th.set s.t (ρ1,i1),bs1,t',0,s.out++o'⟩ z':=by
  intro k m1 o' bs1 t' i1 ρ1 hk hR ht' hb1 hw1 hi1 hw
  refine ⟨k,_,hk,hR,by simpa using h.hl,by simpa using h.zl,rfl,ht',rfl,hb1,hw1,by simp only [h.out],Nat.le_refl _,Nat.zero_le _,λj eQ' ρ' i' m' g1 g2 g3=>?_,λr j _ _ _ _ r1 r2=>by simp only at r2; omega⟩
  simp only at g2 g3
  by_cases hj:j=s.t
  ·subst hj
   rw [hc] at g1
   obtain rfl:=o9 g1
   rw [List.getElem?_set_self hsl] at g2
   obtain ⟨rfl,rfl⟩:=Prod.mk.inj (o9 g2)
   rw [h.t,List.getElem?_set_self hzl] at g3
   obtain rfl:=o9 g3
   exact ⟨hi1,hw⟩
  ·rw [(oth (x:=(ρ1,i1)) (y:=m1) hj).1] at g2
   rw [(oth (x:=(ρ1,i1)) (y:=m1) hj).2] at g3
   exact h.h j _ _ _ _ g1 g2 g3
 rcases hT with ⟨ho,hQ,rfl,rfl,rfl⟩ | ⟨ho,y,hs,hd⟩
 ·have ho1:1<=q.Op:=by have:=hC.ok.q q (List.mem_of_getElem? hq); unfold QOk at this; omega
  rcases hTw with hR | ⟨q',g1,g2,_⟩
  ·obtain ⟨k,i1,ρ1,m1,k1,k6,R,hR1,hQ1,hi1⟩:=Ap hC hq ⟨ho1,ho⟩ hR
   obtain ⟨rfl,rfl⟩:i1=i'/\ρ1=ρ':=by
    unfold QP at hQ hQ1
    rcases hQ with ⟨a1,a2,a3⟩ | ⟨a1,a2,x,a3,a4⟩ | ⟨a1,a2,x,y,v,a3,a4,a5,a6⟩ | ⟨a1,a2,a3⟩ | ⟨a1,a2,x,a3,a4⟩ <;> rcases hQ1 with ⟨b1,b2,b3⟩ | ⟨b1,b2,x',b3,b4⟩ | ⟨b1,b2,x',y',v',b3,b4,b5,b6⟩ | ⟨b1,b2,b3⟩ | ⟨b1,b2,x',b3,b4⟩ <;> first | (exfalso; omega) | skip
    ·exact ⟨by omega,by rw [a3,b3]⟩
    ·rw [a3] at b3; obtain rfl:=o9 b3; exact ⟨by omega,by rw [a4,b4]⟩
    ·rw [a3] at b3; obtain rfl:=o9 b3; rw [a4] at b4; obtain rfl:=o9 b4; rw [a5] at b5; obtain rfl:=o9 b5; exact ⟨by omega,by rw [a6,b6]⟩
    ·exact ⟨by omega,by rw [a2,b2]⟩
    ·rw [a3] at b3; obtain rfl:=o9 b3; exact ⟨by rw [a4,b4],by rw [a2,b2]⟩
   have R':=oJ.of R hm' hzi
   rw [if_neg (by omega)] at R'
   have e1:nxt K.codes.length s.t s.id 1=(s.t,0):=rfl
   rw [e1]
   have R2:oJ k z ⟨z.ha.set z.t m1,s.bx,s.t,0,z.out++[]⟩:=by rw [<-h.bx,<-h.t,List.append_nil]; exact R'
   exact done (by omega) R2 h.tl h.bl h.bw hi1 (.inl hR1)
  ·rw [hq] at g1
   obtain rfl:=o9 g1
   omega
 ·have ho10:q.Op<=10:=by have:=hC.ok.q q (List.mem_of_getElem? hq); unfold QOk at this; omega
  obtain ⟨k0,m0,hk0,hR0,hCl,hz0⟩:∃ k0 m0,k0<=6/\nV k0 m m0/\Cl eQ K.c 1 (K.F s.t) (K.ws s.t) i ρ q m0/\(k0=0->True):=by
   rcases hTw with hR | ⟨q',g1,g2,g3⟩
   ·obtain ⟨k,m1,k1,k6,R,hCl⟩:=Aq hC hq ⟨ho,ho10⟩ hR
    exact ⟨k,m1,k6,R,hCl,λ_=>trivial⟩
   ·rw [hq] at g1
    obtain rfl:=o9 g1
    exact ⟨0,m,by omega,rfl,g3,λ_=>trivial⟩
  have hR1:=oJ.of hR0 hm' hzi
  generalize hid0:(if k0=0 then z.id else 0)=id0 at hR1
  have hid0':id0<=z.id:=by rw [<-hid0]; split <;> omega
  have hQO:=hC.ok.q q (List.mem_of_getElem? hq)
  have hb:=hCl.b
  obtain ⟨x,hx⟩:∃ x,m0.1[10]?=some x:=⟨_,List.getElem?_eq_getElem (by rw [hb.r32]; omega)⟩
  have hr1:=hCl.r1
  generalize ha:(4*((1+(if q.Op=7 then pl eQ (K.c:Int) i+3 else pl eQ (K.c:Int) (i+1)):Nat):Int))=a at hr1
  have hn:1<=q.Op-5/\q.Op-5<=5:=by omega
  have hk2:q.Op-5<=2->m0.1[11]?=some ((q.N.toNat:Nat):Int)/\q.N.toNat<s.bx.length:=λh2=>by
   rw [h.bl]
   have e:=hCl.b11 (by omega)
   have hN:0<=q.N/\q.N<K.nb:=⟨by unfold QOk at hQO; omega,hK.nq _ _ hc q (List.mem_of_getElem? hq) (by omega)⟩
   exact ⟨by rw [e]; congr 1; omega,by omega⟩
  have hsx:srv (q.Op-5) q.N.toNat x s.bx=(d,o,bs',y):=by
   rw [<-hs]
   refine Dh hn (λh14=>?_) (λ_=>rfl)
   have e:=hCl.a10 (by omega)
   rw [hx] at e
   rw [<-e]; rfl
  have hw:=yT (n:=q.Op-5) (k:=q.N.toNat) h.bw (vF hb.wr hx)
  rw [hsx] at hw
  simp only at hw
  have hcode:=vI (x:=x) (bs:=s.bx) hn (λh2=>(hk2 h2).2)
  rw [hsx] at hcode
  simp only at hcode
  have hset:(z.ha.set z.t m0)[z.t]?=some m0:=List.getElem?_set_self (by rw [h.t]; exact hzl)
  have hS:oJ 1 ⟨z.ha.set z.t m0,z.bx,z.t,id0,z.out⟩ ⟨z.ha.set z.t (qE m0 d (q.Op-5) a y),bs',(nxt K.codes.length s.t id0 d).1,(nxt K.codes.length s.t id0 d).2,z.out++o⟩:=by
   refine ⟨by show id0<(z.ha.set z.t m0).length; rw [List.length_set]; omega,_,⟨m0,hset,.inr ⟨hCl.pc,q.Op-5,q.N.toNat,x,a,d,o,bs',y,hCl.n17,hn,hx,hr1,λh2=>?_,?_,rfl⟩⟩,?_⟩
   ·have:=hk2 h2; rw [h.bx]; exact this
   ·rw [h.bx]; exact hsx
   ·simp only [List.set_set,List.length_set,h.zl,h.t]
    rfl
  have hS2:=hR1.add hS
  rcases hd with ⟨hd12,rfl,rfl⟩ | ⟨hd34,rfl,rfl⟩
  ·-- done or yielded
   have hb2:bs'.length=K.nb:=by
    have e:bs'=(srv (q.Op-5) q.N.toNat x s.bx).2.2.1:=by rw [hsx]
    rw [e]
    unfold srv
    repeat' split
    all_goals first | exact h.bl | (rw [List.length_set]; exact h.bl)
   have hid':(nxt K.codes.length s.t id0 d).2=0/\(nxt K.codes.length s.t s.id d)=(nxt K.codes.length s.t id0 d):=by
    unfold nxt
    rcases hd12 with rfl | rfl
    ·exact ⟨rfl,rfl⟩
    ·exact ⟨rfl,rfl⟩
   have ht':(nxt K.codes.length s.t id0 d).1<K.codes.length:=by
    unfold nxt
    rcases hd12 with rfl | rfl
    ·exact h.tl
    ·exact Nat.mod_lt _ hl1
   rw [hid'.2,hid'.1]
   rw [hid'.1] at hS2
   have hne10:q.Op≠10:=λe=>by
    rw [e] at hsx
    unfold srv at hsx
    rw [if_neg (by omega),if_neg (by omega),if_neg (by omega),if_neg (by omega)] at hsx
    injection hsx with e1
    omega
   have hne4:q.Op≠4:=by omega
   have hi1:=hC.ok.nxt hq hne10 hne4
   have hret:qE m0 d (q.Op-5) a y=(if q.Op-5=2 then m0.1.set 10 y else m0.1,a,m0.2.2):=by unfold qE; rw [if_pos (by omega)]
   by_cases h7:q.Op=7
   ·rw [if_pos h7]
    rw [hret,if_pos (by omega)] at hS2
    obtain rfl:d=1:=by
     rcases hd12 with h1 | h1
     ·exact h1
     ·exfalso
      rw [h1,show q.Op-5=2 by omega] at hsx
      unfold srv at hsx
      rw [if_neg (by omega),if_pos rfl] at hsx
      split at hsx
      ·split at hsx <;> (injection hsx with e1; omega)
      ·injection hsx with e1; omega
    obtain ⟨k3,m3,k31,k32,R3,hR3⟩:=hCl.got hC hq h7 hr1 hw.2.1
    have e1:∀ e,nxt K.codes.length s.t e 1=(s.t,0):=λ_=>rfl
    rw [e1] at hS2 ⊢
    have S3:=oJ.of (s:=⟨z.ha.set z.t (m0.1.set 10 y,a,m0.2.2),bs',s.t,0,z.out++o⟩) R3 (by rw [h.t]; exact List.getElem?_set_self hzl) (by show 0<(z.ha.set z.t _).length; rw [List.length_set]; omega)
    have S4:=hS2.add S3
    simp only [List.set_set,ite_self,<-h.t] at S4
    have hzt:=h.t
    refine done (k:=k0+1+k3) (t':=s.t) (by omega) ?_ h.tl hb2 hw.1 hi1 (.inl hR3)
    rw [<-h.t]
    exact S4
   ·rw [if_neg h7]
    rw [hret,if_neg (by omega)] at hS2
    exact done (by omega) hS2 ht' hb2 hw.1 hi1 (.inl (hCl.ret h7 hr1))
  ·-- it kA,or has ended
   obtain ⟨rfl,rfl⟩:=hcode.2.2 (by omega)
   have hret:qE m0 d (q.Op-5) a y=m0:=by unfold qE; rw [if_neg (by omega)]
   rw [hret] at hS2
   have hnx:∀ e,nxt K.codes.length s.t e d=((s.t+1)%K.codes.length,e+1):=λe=>by unfold nxt; rw [if_neg (by omega),if_neg (by omega)]
   rw [hnx]
   rw [hnx] at hS2
   have hBk:Bk K.c s.bx eQ (K.ws s.t) (K.F s.t) i' ρ' m0:=⟨q,hq,ho,hCl,by rw [hs]; simp only; omega⟩
   have hsame:s.th.set s.t (ρ',i')=s.th:=by
    obtain e:s.th[s.t]=(ρ',i'):=by rw [List.getElem?_eq_getElem hsl] at hth; exact o9 hth
    rw [<-e]; exact List.set_getElem_self hsl
   rw [hsame]
   refine ⟨_,_,by omega,hS2,h.hl,by simpa using h.zl,rfl,Nat.mod_lt _ hl1,rfl,h.bl,h.bw,by simp only [h.out],by have:=h.id; simp only; omega,by simp only; omega,λj eQ' ρ1 i1 m1 g1 g2 g3=>?_,λr j eQ' ρ1 i1 m1 r1 r2 rj g1 g2 g3=>?_⟩
   ·simp only at g2 g3
    by_cases hj:j=s.t
    ·subst hj
     rw [hc] at g1
     obtain rfl:=o9 g1
     rw [hth] at g2
     obtain ⟨rfl,rfl⟩:=Prod.mk.inj (o9 g2)
     rw [h.t,List.getElem?_set_self hzl] at g3
     obtain rfl:=o9 g3
     exact ⟨hi,.inr ⟨q,hq,ho,hCl⟩⟩
    ·rw [(oth (x:=(ρ1,i1)) hj).2] at g3
     exact h.h j _ _ _ _ g1 g2 g3
   ·simp only at r2 rj g2 g3
    by_cases hj:j=s.t
    ·subst hj
     rw [hc] at g1
     obtain rfl:=o9 g1
     rw [hth] at g2
     obtain ⟨rfl,rfl⟩:=Prod.mk.inj (o9 g2)
     rw [h.t,List.getElem?_set_self hzl] at g3
     obtain rfl:=o9 g3
     exact hBk
    ·rw [(oth (x:=(ρ1,i1)) hj).2] at g3
     have htl:=h.tl
     have hl3:=hK.l3
     refine h.w (r-1) j _ _ _ _ ?_ (by omega) ?_ g1 g2 g3
     ·rcases Nat.lt_or_ge 1 r with h' | h'
      ·omega
      ·exfalso
       apply hj
       rw [rj]
       obtain rfl:r=1:=by omega
       generalize K.codes.length=n at hl1 hl3 htl
       generalize s.t=t at htl
       rcases (by omega:n=1\/n=2\/n=3) with rfl | rfl | rfl <;> omega
     ·rw [rj]
      generalize K.codes.length=n at hl1 hl3 htl r2 hid
      generalize s.t=t at htl
      generalize s.id=e at r2 hid
      rcases (by omega:n=1\/n=2\/n=3) with rfl | rfl | rfl <;> omega
end
end
noncomputable section
def Ar (codes:List (List ah)):Nat->CrS->CrS->Prop
 | 0,s,z=>s=z
 | k+1,s,z=>s.id<codes.length/\∃ u,CSt codes s u/\Ar codes k u z
section
variable {K:Kx} {s s':CrS} {z:SqS}
theorem BS (hK:BQ K):∀ {N:Nat} {s s':CrS} {z:SqS},Ar K.codes N s s'->Sm K s z->∃ k z',(N<=k/\k<=9*N)/\oJ k z z'/\Sm K s' z'
 | 0,s,s',z,h,hs=>by obtain rfl:=h; exact ⟨0,z,by omega,rfl,hs⟩
 | N+1,s,s',z,⟨h1,u,h2,h3⟩,hs=>by
  obtain ⟨k,z1,k1,r1,s1⟩:=CR hK hs h1 h2
  obtain ⟨k',z2,k2,r2,s2⟩:=BS hK h3 s1
  exact ⟨k+k',z2,by omega,r1.add r2,s2⟩
theorem zO (hK:BQ K) {th:List (List Int×Nat)} (hth:th.length=K.codes.length):∀ (e:Nat) (z:SqS),z.id+e=K.codes.length->z.ha.length=K.codes.length->z.t<K.codes.length->z.bx.length=K.nb ->
  (∀ (j:Nat) eQ ρ i m,K.codes[j]?=some eQ->th[j]?=some (ρ,i)->z.ha[j]?=some m->Bk K.c z.bx eQ (K.ws j) (K.F j) i ρ m)->∃ z':SqS,oJ e z z'/\z'.ha=z.ha/\z'.bx=z.bx/\z'.out=z.out/\z'.id=K.codes.length/\z'.t<K.codes.length
 | 0,z,he,hl,ht,_,_=>⟨z,rfl,rfl,rfl,rfl,by omega,ht⟩
 | e+1,z,he,hl,ht,hb,all=>by
  obtain ⟨eQ,hc⟩:∃ eQ,K.codes[z.t]?=some eQ:=⟨_,List.getElem?_eq_getElem ht⟩
  obtain ⟨⟨ρ,i⟩,hr⟩:∃ x,th[z.t]?=some x:=⟨_,List.getElem?_eq_getElem (by omega)⟩
  obtain ⟨m,hm⟩:∃ m,z.ha[z.t]?=some m:=⟨_,List.getElem?_eq_getElem (by omega)⟩
  obtain ⟨q,hq,ho,hCl,hs⟩:=all _ _ _ _ _ hc hr hm
  have hC:=hK.cc _ _ hc
  have hQO:=hC.ok.q q (List.mem_of_getElem? hq)
  have ho10:q.Op<=10:=by unfold QOk at hQO; omega
  have hn:1<=q.Op-5/\q.Op-5<=5:=by omega
  obtain ⟨x,hx⟩:∃ x,m.1[10]?=some x:=⟨_,List.getElem?_eq_getElem (by rw [hCl.b.r32]; omega)⟩
  have hr1:=hCl.r1
  generalize (4*((1+(if q.Op=7 then pl eQ (K.c:Int) i+3 else pl eQ (K.c:Int) (i+1)):Nat):Int))=a at hr1
  have hk2:q.Op-5<=2->m.1[11]?=some ((q.N.toNat:Nat):Int)/\q.N.toNat<z.bx.length:=λh2=>by
   rw [hb]
   have e:=hCl.b11 (by omega)
   have hN:0<=q.N/\q.N<K.nb:=⟨by unfold QOk at hQO; omega,hK.nq _ _ hc q (List.mem_of_getElem? hq) (by omega)⟩
   exact ⟨by rw [e]; congr 1; omega,by omega⟩
  have hsx:srv (q.Op-5) q.N.toNat x z.bx=srv (q.Op-5) q.N.toNat ((ρ[q.A.toNat]?).getD 0) z.bx:=Dh hn (λh14=>by
   have e:=hCl.a10 (by omega)
   rw [hx] at e
   rw [<-e]; rfl) (λ_=>rfl)
  have hcode:=vI (x:=x) (bs:=z.bx) hn (λh2=>(hk2 h2).2)
  rw [<-hsx] at hs
  obtain ⟨hs1,hs2⟩:=hcode.2.2 hs
  generalize hsv:srv (q.Op-5) q.N.toNat x z.bx=v at hs hs1 hs2 hcode
  obtain ⟨d,o,bs',y⟩:=v
  simp only at hs hs1 hs2 hcode
  subst hs1 hs2
  have hset:z.ha.set z.t m=z.ha:=by
   obtain e:z.ha[z.t]'(by omega)=m:=by rw [List.getElem?_eq_getElem (by omega)] at hm; exact o9 hm
   rw [<-e]; exact List.set_getElem_self _
  have hnx:nxt z.ha.length z.t z.id d=((z.t+1)%z.ha.length,z.id+1):=by unfold nxt; rw [if_neg (by omega),if_neg (by omega)]
  obtain ⟨z',r',e1,e2,e3,e4,e5⟩:=zO hK hth e ⟨z.ha,z.bx,(z.t+1)%z.ha.length,z.id+1,z.out⟩ (by simp only; omega) hl (by simp only; rw [hl]; exact Nat.mod_lt _ (by omega)) hb all
  refine ⟨z',⟨by omega,_,⟨m,hm,.inr ⟨hCl.pc,q.Op-5,q.N.toNat,x,a,d,[],z.bx,y,hCl.n17,hn,hx,hr1,hk2,hsv,rfl⟩⟩,?_⟩,e1,e2,e3,e4,e5⟩
  have hret:qE m d (q.Op-5) a y=m:=by unfold qE; rw [if_neg (by omega)]
  rw [hret,hset,hnx,List.append_nil]
  exact r'
theorem CS (hK:BQ K) (h:Sm K s z) (hr:s.id=K.codes.length):∃ k z',k<=3/\oJ k z z'/\z'.id=K.codes.length/\z'.bx=s.bx/\z'.out=s.out/\z'.ha.length=K.codes.length/\z'.t<K.codes.length /\
  ∀ (j:Nat) eQ ρ i m,K.codes[j]?=some eQ->s.th[j]?=some (ρ,i)->z'.ha[j]?=some m->∃ q,eQ[i]?=some q/\6<=q.Op/\Cl eQ K.c 1 (K.F j) (K.ws j) i ρ q m:=by
 have hzi:=h.id
 have hl3:=hK.l3
 have hl1:=hK.l1
 have all:∀ (j:Nat) eQ ρ i m,K.codes[j]?=some eQ->s.th[j]?=some (ρ,i)->z.ha[j]?=some m->Bk K.c z.bx eQ (K.ws j) (K.F j) i ρ m:=λj eQ ρ i m g1 g2 g3=>by
  rw [h.bx]
  have hj:=pz g1
  have ht:=h.tl
  obtain ⟨r,r1,r2,r3⟩:∃ r,1<=r/\r<=s.id/\j=(s.t+K.codes.length-r)%K.codes.length:=by
   rw [hr]
   generalize K.codes.length=n at hl1 hl3 hj ht
   generalize s.t=t at ht
   rcases (by omega:n=1\/n=2\/n=3) with rfl | rfl | rfl
   ·exact ⟨1,by omega,by omega,by omega⟩
   ·by_cases e:j=t
    ·exact ⟨2,by omega,by omega,by omega⟩
    ·exact ⟨1,by omega,by omega,by omega⟩
   ·by_cases e:j=t
    ·exact ⟨3,by omega,by omega,by omega⟩
    ·by_cases e2:j=(t+2)%3
     ·exact ⟨1,by omega,by omega,by omega⟩
     ·exact ⟨2,by omega,by omega,by omega⟩
  exact h.w r j _ _ _ _ r1 r2 r3 g1 g2 g3
 obtain ⟨z',R,e1,e2,e3,e4,e5⟩:=zO hK h.hl (K.codes.length-z.id) z (by omega) h.zl (by rw [h.t]; exact h.tl) (by rw [h.bx]; exact h.bl) all
 refine ⟨_,z',by omega,R,e4,e2.trans h.bx,e3.trans h.out,by rw [e1]; exact h.zl,e5,λj eQ ρ i m g1 g2 g3=>?_⟩
 rw [e1] at g3
 obtain ⟨q,q1,q2,q3,_⟩:=all j _ _ _ _ g1 g2 g3
 exact ⟨q,q1,q2,q3⟩
end
end

end Go.Proofs.YtgcmopfhafoabaaGreatDoor.N
