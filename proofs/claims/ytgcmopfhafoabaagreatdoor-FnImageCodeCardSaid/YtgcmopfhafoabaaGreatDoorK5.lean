/- Plain laws: new images: data, blocks. Plain laws: what is drawn are the instructions of codes; their image is safe. Printed by a program of mine: what a law com -/
import Derived.Test.YtgcmopfhafoabaaGreatDoorK4
set_option linter.unusedVariables false
set_option linter.unusedSimpArgs false
set_option maxRecDepth 100000
set_option maxHeartbeats 4000000
namespace Go.Proofs.YtgcmopfhafoabaaGreatDoor.N
open Go.Proofs.YtgcmopfhafoabaaGreatDoor.X
noncomputable section
theorem wq (rooms : List Int) (rW : List (List Instr)) : pz rooms rW = (ai.mk [] 0 [],0,false) ∨
  ∃ ws,wls rW = some ws ∧ qD rooms = true ∧ 1 ≤ rW.length ∧ rW.length ≤ 3 ∧ (dU rooms ws).length ≤ 10000 ∧ pz rooms rW = (ai.mk (jZ ws) 368 (dU rooms ws),4 * (atN ws : Int),true):=by
 unfold pz
 split
 ·rename_i h
  split
  ·rename_i ws hw
   split
   ·rename_i hl
    exact .inr ⟨ws,hw,h.1,h.2.1,h.2.2,hl,rfl⟩
   ·exact .inl rfl
  ·exact .inl rfl
 ·exact .inl rfl
theorem Br {rooms : List Int} {rW : List (List Instr)} (hz : Dc rooms rW) : (cZ rooms rW = some (ai.mk [] 0 [],0,false) ∧ cr rooms rW = some (ai.mk [] 0 [],0,false)) ∨
  ∃ r1 r2 ws,rooms = [r1,r2] ∧ (1 ≤ r1 ∧ r1 ≤ 4) ∧ (1 ≤ r2 ∧ r2 ≤ 4) ∧ wls rW = some ws ∧ ws.length = rW.length ∧ 1 ≤ ws.length ∧ ws.length ≤ 3 ∧ atN ws ≤ 10000 ∧ (dU [r1,r2] ws).length = atN ws + 28 + 28 * ws.length ∧ (dU [r1,r2] ws).length ≤ 10000 ∧
   MOK (jZ ws) 368 (dU [r1,r2] ws) ∧ (jZ ws)[0]? = some 0 ∧ cZ rooms rW = some (ai.mk (jZ ws) 368 (dU rooms ws),4 * (atN ws : Int),true) ∧ cr rooms rW = some (ai.mk (jZ ws) 368 (dU rooms ws),4 * (atN ws : Int),true):=by
 obtain ⟨⟨r1,r2,rfl,h1,h2⟩,l1,l2,l3⟩:=hz
 have k3:=xM 241 l3
 obtain ⟨e1,e2⟩:=Ct [r1,r2] rW (by simp) (by omega) (by omega)
 rcases wq [r1,r2] rW with h0 | ⟨ws,hw,hr,c1,c2,c3,he⟩
 ·rw [h0] at e1 e2
  exact .inl ⟨e1,e2⟩
 ·rw [he] at e1 e2
  have k1:=(lX hw).1
  have k6:=pU [r1,r2] ws
  obtain ⟨hM,hz⟩:=Bj hw (by omega) (r1:=r1) (r2:=r2) (by omega) (by omega) c3
  have hr1 : 1 ≤ r1:=by
   rcases Int.lt_or_le r1 1 with h | h
   ·have s0 : d8 [r1,r2] 0 = some (.inr (.inl false)):=by
     unfold d8 aJ
     rw [show nth [r1,r2] 0 = some r1 from rfl]
     simp only [ob9]
     rw [decide_eq_false (show ¬ r1 ≥ 1 by omega)]
     rfl
    unfold qD eL at hr
    rw [cy,s0] at hr
    cases hr
   ·exact h
  exact .inr ⟨r1,r2,ws,rfl,⟨hr1,h1.2⟩,h2,hw,k1,by omega,by omega,by omega,k6,c3,hM,hz,e1,e2⟩
theorem BV (n : Nat) : Int.tdiv (4 * (n : Int)) 4 = (n : Int):=by rw [Int.tdiv_eq_ediv_of_nonneg (by omega)]; omega
theorem xS {n : Nat} (h : n ≤ 1000000000) : w64 (n : Int) = (n : Int):=ax (by omega) (by omega)
theorem vj : ∀ {l : List (List Instr)} {ws : List (List Int)},wls l = some ws → ∀ (i : Nat) x,l[i]? = some x → ∃ w,wl x = some w ∧ ws[i]? = some w
 | [],ws,h,i,x,hx=>by simp at hx
 | y :: ys,ws,h,i,x,hx=>by
  simp only [wls] at h
  split at h
  ·rename_i w ws' h1 h2
   injection h with h
   subst h
   cases i with
   | zero =>
    obtain rfl : y = x:=by simpa using hx
    exact ⟨w,h1,rfl⟩
   | succ i=>exact vj h2 i x (by simpa using hx)
  ·cases h
theorem yG {ws : List (List Int)} {i : Nat} {w : List Int} (h : ws[i]? = some w) : (ws.take (i + 1)).flatten.length = (ws.take i).flatten.length + w.length:=by
 rw [List.take_add_one,h]
 simp
theorem Bs {rooms : List Int} {ws : List (List Int)} {i : Nat} (hi : i < ws.length) : ((dU rooms ws).take (atN ws + 28 + 16 * i + 16)).drop (atN ws + 28 + 16 * i) = [4 * ((92 + (ws.take i).flatten.length : Nat) : Int),0,4 * ((atN ws : Int) + 28 + 16 * ws.length + 12 * i),0,0,0,0,0,0,0,0,0,0,0,0,0]:=by
 have hlen:=pU rooms ws
 apply List.ext_getElem?
 intro r
 rw [List.getElem?_drop,List.getElem?_take]
 rcases Nat.lt_or_ge r 16 with hr | hr
 ·rw [if_pos (by omega),show atN ws + 28 + 16 * i + r = atN ws + (28 + (16 * i + r)) by omega,xE,Cw (by omega),zt _ _ r hr _ _ hi,vS hi,mq]
  rfl
 ·rw [if_neg (by omega)]
  exact (List.getElem?_eq_none (by simpa using hr)).symm
end
noncomputable section
variable {b : List Int} {p m : Int}
def LQ (c : Int) (l : List (List Instr)) : Prop:=1 ≤ l.length ∧ l.length ≤ 3 ∧ ∀ x ∈ l,∃ eQ,COk eQ ∧ eQ.length ≤ 40 ∧ x = tk eQ c eQ.length
theorem Ar (hb : By b) {k : Nat} (hk : 20 ≤ k) (h0 : 0 ≤ p) (hm : p ≤ m) (hp : m ≤ 100000) : Dr (iM k ⟨b,p⟩) (m + 150002) fun l=>∃ c,(1 ≤ c ∧ c ≤ 8) ∧ LQ c l:=by
 unfold iM
 refine .bind (zY hb hk h0 hm hp) fun l p1 hl h1 h2=>.bind (be hb h1 h2 (by omega) (by omega) (by omega)) fun x p2 hx h3 h4=>?_
 refine .tot (P:=LQ (1 + x)) (.iter (fun s : List (List Instr) × Int=>0 ≤ s.2 ∧ s.2 ≤ (l.length : Int) ∧ (s.1.length : Int) = s.2 ∧ ∀ y ∈ s.1,∃ eQ,COk eQ ∧ eQ.length ≤ 40 ∧ y = tk eQ (1 + x) eQ.length) (fun s=>((l.length : Int) - s.2).toNat) ⟨by simp,by simp only; omega,by simp,by simp⟩ fun s hs=>?_) fun r hr=>.pure ⟨1 + x,by omega,hr⟩ h3 (by omega)
 obtain ⟨out,i⟩:=s
 obtain ⟨g0,g1,g2,g3⟩:=hs
 simp only at g0 g1 g2 g3
 have hl1:=hl.1
 have hl2:=hl.2.1
 unfold ku
 dsimp only
 rw [a7 (i:=1 + x) (by omega) (by omega),bE g0 (by omega)]
 refine .sel (fun h=>?_) fun h=>.inr (show LQ (1 + x) out from ?_)
 ·simp only [decide_eq_true_eq] at h
  refine .bind (.nth (l:=l) g0 h) fun c ⟨_,hc⟩=>?_
  have hc':=hl.2.2 c hc
  rw [zU hc'.1 (c:=1 + x) (by omega)]
  refine .bind (.pure (Q:=fun y=>y = tk c (1 + x) c.length) rfl) fun y hy=>.bind (.app (l:=out) (by simp; omega)) fun r hr=>.inl ?_
  subst hr hy
  refine ⟨⟨by simp only; omega,by simp only; omega,by simp; omega,fun z hz=>?_⟩,by simp only; omega⟩
  simp only [List.mem_append,List.mem_singleton] at hz
  rcases hz with hz | rfl
  ·exact g3 z hz
  ·exact ⟨c,hc'.1,hc'.2,rfl⟩
 ·simp only [decide_eq_false_iff_not] at h
  exact ⟨by omega,by omega,g3⟩
theorem LQ.lok {c : Int} (h : 1 ≤ c ∧ c ≤ 8) {l : List (List Instr)} (hl : LQ c l) : LOk l:=by
 refine ⟨hl.1,hl.2.1,fun x hx=>?_⟩
 obtain ⟨eQ,h1,h2,rfl⟩:=hl.2.2 x hx
 refine ⟨?_,zX h1 h _ (Nat.le_refl _)⟩
 rw [tI]
 have:=tH eQ c eQ.length
 omega
theorem Bt : pS (Instr.mk 0 0 0 0 0) = none:=by
 have e : cB (Instr.mk 0 0 0 0 0) = some (0,false):=by kernel_rfl
 rcases nk (Instr.mk 0 0 0 0 0) with ⟨r,h,_⟩ | ⟨_,_,_,h⟩
 ·rw [e] at h; cases h
 ·exact h
theorem Au : ∀ l : List Instr,wl (l ++ [Instr.mk 0 0 0 0 0]) = none
 | []=>by simp only [List.nil_append,wl,Bt]
 | x :: xs=>by
  rw [List.cons_append]
  simp only [wl,Au xs]
  cases pS x <;> rfl
def DrI (z : List Int × List (List Instr)) : Prop:=Dc z.1 z.2 ∧ ((∃ c,(1 ≤ c ∧ c ≤ 8) ∧ LQ c z.2) ∨ 4 ≤ z.2.length ∨ ∃ x ∈ z.2,wl x = none)
theorem qc {k : Nat} (hk : 20 ≤ k) {eQ : List Int} (h : ∀ x ∈ eQ,0 ≤ x ∧ x ≤ 255) : Tot (dG k eQ) DrI:=by
 unfold dG
 refine .bind (P:=DrI) ?_ fun q hq=>.pure hq
 unfold fX
 refine .bind (ze h) fun r ⟨hb,hp⟩=>.bind (Ar (m:=0) hb hk (by rw [hp]; omega) (by rw [hp]; omega) (by omega)) fun z hz=>.bind (be hb hz.1 hz.2.1 (by omega) (by omega) (by omega)) fun x hx=>.bind (be hb hx.1 hx.2.1 (by omega) (by omega) (by omega)) fun y hy=>?_
 have hx2:=hx.2.2
 have hy2:=hy.2.2
 obtain ⟨c,h8,hL⟩:=hz.2.2
 have hlok:=hL.lok h8
 have l1:=hL.1
 have l2:=hL.2.1
 have l3 : ∀ w ∈ z.1,w.length ≤ 240:=fun w hw=>by have:=(hlok.2.2 w hw).1; omega
 rw [a7 (i:=1 + x.1) (by omega) (by omega),a7 (i:=1 + y.1) (by omega) (by omega)]
 refine .bind (P:=fun q=>DrI (q.2.2,q.1)) (.bind (be hb hy.1 hy.2.1 (by omega) (by omega) (by omega)) fun t ht=>.sel (fun _=>.bind (.nth (by omega) (by simp)) fun _ _=>.bind (.upd (by omega) (by simp)) fun r hr=>.pure ?_) fun _=>.sel (fun _=>.bind (.nth (l:=z.1) (by omega) (by omega)) fun w ⟨_,hw⟩=>.bind (.app (by simp; omega)) fun r hr=>.pure ?_) fun _ =>
  .sel (fun _=>.bind (.nth (l:=z.1) (by omega) (by omega)) fun w ⟨_,hw⟩=>.bind (.app (by have:=l3 w hw; simp; omega)) fun r hr=>.pure ?_) fun _=>.pure ?_) fun q hq=>.pure hq
 ·subst hr
  exact ⟨⟨⟨0,1 + y.1,rfl,by omega,by omega⟩,l1,by simp only; omega,fun x hx=>by have:=l3 x hx; omega⟩,.inl ⟨c,h8,hL⟩⟩
 ·subst hr
  refine ⟨⟨⟨1 + x.1,1 + y.1,rfl,by omega,by omega⟩,by simp only [List.length_append,List.length_replicate]; omega,by simp only [List.length_append,List.length_replicate]; omega,fun v hv=>?_⟩,.inr (.inl (by simp only [List.length_append,List.length_replicate]; omega))⟩
  rcases List.mem_append.1 hv with hv | hv
  ·have:=l3 v hv; omega
  ·rw [(List.mem_replicate.1 hv).2]
   have:=l3 w hw; omega
 ·subst hr
  refine ⟨⟨⟨1 + x.1,1 + y.1,rfl,by omega,by omega⟩,by simp only [List.length_set]; omega,by simp only [List.length_set]; omega,fun v hv=>?_⟩,.inr (.inr ⟨w ++ [Instr.mk 0 0 0 0 0],List.mem_set (by show 0 < z.1.length; omega) _,Au w⟩)⟩
  rcases List.mem_or_eq_of_mem_set hv with hv | rfl
  ·have:=l3 v hv; omega
  ·have:=l3 w hw
   simp only [List.length_append,List.length_singleton]; omega
 ·exact ⟨⟨⟨1 + x.1,1 + y.1,rfl,by omega,by omega⟩,l1,by simp only; omega,fun x hx=>by have:=l3 x hx; omega⟩,.inl ⟨c,h8,hL⟩⟩
theorem Av {c : Int} {l : List (List Instr)} (h : ∀ x ∈ l,∃ eQ,COk eQ ∧ eQ.length ≤ 40 ∧ x = tk eQ c eQ.length) : ∃ cs : List (List ah),cs.length = l.length ∧ ∀ (i : Nat) eQ,cs[i]? = some eQ → COk eQ ∧ l[i]? = some (tk eQ c eQ.length):=by
 induction l with
 | nil=>exact ⟨[],rfl,fun i eQ h=>by cases h⟩
 | cons x l ih =>
  obtain ⟨cs,h1,h2⟩:=ih fun y hy=>h y (List.mem_cons_of_mem _ hy)
  obtain ⟨eQ,g1,_,g3⟩:=h x (List.mem_cons_self ..)
  refine ⟨eQ :: cs,by simp [h1],fun i q hq=>?_⟩
  cases i with
  | zero =>
   obtain rfl : eQ = q:=o9 hq
   exact ⟨g1,by rw [g3]; rfl⟩
  | succ i=>exact h2 i q hq
theorem BW : ∀ {ws : List (List Int)} {i k : Nat} {w : List Int} {v : Int},ws[i]? = some w → w[k]? = some v → ws.flatten[(ws.take i).flatten.length + k]? = some v
 | [],i,k,w,v,h,_=>by cases h
 | u :: ws,0,k,w,v,h,hk=>by
  obtain rfl : u = w:=o9 h
  have hl : k < u.length:=by rcases Nat.lt_or_ge k u.length with h | h; exact h; rw [List.getElem?_eq_none h] at hk; cases hk
  simp only [List.take_zero,List.flatten_nil,List.length_nil,Nat.zero_add,List.flatten_cons]
  rw [List.getElem?_append_left hl]
  exact hk
 | u :: ws,i + 1,k,w,v,h,hk=>by
  simp only [List.take_succ_cons,List.flatten_cons,List.length_append]
  rw [List.getElem?_append_right (by omega),show u.length + (ws.take i).flatten.length + k - u.length = (ws.take i).flatten.length + k by omega]
  exact BW (ws:=ws) h hk
theorem Bu {ws : List (List Int)} (i : Nat) : (ws.take i).flatten.length ≤ ws.flatten.length:=by
 have h : ws.flatten = (ws.take i).flatten ++ (ws.drop i).flatten:=by rw [← List.flatten_append,List.take_append_drop]
 rw [h,List.length_append]
 omega
def yH (cs : List (List ah)) (c : Int) (r1 r2 : Int) (ws : List (List Int)) (A : Nat) (W : List Int) : Im:=⟨cs,c,fun b=>if b = 0 then r1.toNat else r2.toNat,A,ws.length,fun i=>92 + (ws.take i).flatten.length,W⟩
structure De (r1 r2 : Int) (T A : Nat) (M R : List Int) : Prop where
 a0 : M[A]? = some 0
 a1 : M[A + 1]? = some (T : Int)
 a2 : M[A + 2]? = some (4 * ((A + 28 : Nat) : Int))
 a3 : M[A + 3]? = some (4 * ((A + 28 + 16 * T : Nat) : Int))
 a4 : M[A + 4]? = some r1
 a5 : M[A + 5]? = some 0
 a6 : M[A + 6]? = some 0
 b4 : M[A + 12]? = some r2
 b5 : M[A + 13]? = some 0
 b6 : M[A + 14]? = some 0
 c4 : M[A + 20]? = some 0
 z0 : R[0]? = some 0
 x2 : R[2]? = some (4 * ((A + 28 + 16 * T + 12 * 0 : Nat) : Int))
 x3 : R[3]? = some (4 * (A : Int))
 x4 : R[4]? = some (4 * ((A + 28 + 16 * 0 : Nat) : Int))
theorem BX {r1 r2 : Int} {ws : List (List Int)} : De r1 r2 ws.length (atN ws) (dU [r1,r2] ws) (jZ ws):=by
 have hdat:=xE [r1,r2] ws
 have e2 : (4 * (atN ws : Int) + 112) = 4 * ((atN ws + 28 : Nat) : Int):=by omega
 have e3 : (4 * (atN ws : Int) + 112 + 64 * (ws.length : Int)) = 4 * ((atN ws + 28 + 16 * ws.length : Nat) : Int):=by omega
 have hh : hdL ws = [0,(ws.length : Int),4 * ((atN ws + 28 : Nat) : Int),4 * ((atN ws + 28 + 16 * ws.length : Nat) : Int)]:=by unfold hdL; rw [e3,e2]
 have hr : jZ ws = (((List.replicate 32 (0 : Int)).set 2 (4 * ((atN ws + 28 + 16 * ws.length + 12 * 0 : Nat) : Int))).set 3 (4 * (atN ws : Int))).set 4 (4 * ((atN ws + 28 + 16 * 0 : Nat) : Int)):=by
  rw [show atN ws + 28 + 16 * ws.length + 12 * 0 = atN ws + 28 + 16 * ws.length by omega,show atN ws + 28 + 16 * 0 = atN ws + 28 by omega,← e3,← e2]; rfl
 rw [hr]
 have k : ∀ q,q < 4 → (dU [r1,r2] ws)[atN ws + q]? = ([0,(ws.length : Int),4 * ((atN ws + 28 : Nat) : Int),4 * ((atN ws + 28 + 16 * ws.length : Nat) : Int)] : List Int)[q]?:=fun q hq=>by rw [hdat,Cu hq,hh]
 have kb : ∀ q,q < 24 → (dU [r1,r2] ws)[atN ws + (4 + q)]? = (bxL [r1,r2] 3)[q]?:=fun q hq=>by rw [hdat,Cv hq]
 generalize dU [r1,r2] ws = M at k kb ⊢
 generalize atN ws = A at k kb ⊢
 exact ⟨k 0 (by decide),k 1 (by decide),k 2 (by decide),k 3 (by decide),kb 0 (by decide),kb 1 (by decide),kb 2 (by decide),kb 8 (by decide),kb 9 (by decide),kb 10 (by decide),kb 16 (by decide),rfl,rfl,rfl,rfl⟩
theorem CL {c r1 r2 : Int} {ws : List (List Int)} {cs : List (List ah)} {A : Nat} {W M R : List Int} (h8 : 1 ≤ c ∧ c ≤ 8) (l1 : 1 ≤ ws.length) (l3 : ws.length ≤ 3) (h1 : 1 ≤ r1 ∧ r1 ≤ 4) (h2 : 1 ≤ r2 ∧ r2 ≤ 4) (hA : A ≤ 9000) (hM : MOK R 368 M) (hlen : M.length = A + 28 + 28 * ws.length) (D : De r1 r2 ws.length A M R)
  (hcode : ∀ k,k < A → M[k]? = W[k]?) (hW : W.length = A) (hrt : ∀ (k : Nat) w,rtW[k]? = some w → W[k]? = some w)
  (hcd : ∀ i,i < ws.length → ∃ eQ w,cs[i]? = some eQ ∧ COk eQ ∧ wl (tk eQ c eQ.length) = some w ∧ (∀ (k : Nat) v,w[k]? = some v → W[92 + (ws.take i).flatten.length + k]? = some v) ∧ 92 + (ws.take i).flatten.length + (tk eQ c eQ.length).length ≤ A)
  (hb : ∀ i r,i < ws.length → r < 16 → M[A + 28 + 16 * i + r]? = ([4 * ((92 + (ws.take i).flatten.length : Nat) : Int),0,4 * ((A : Int) + 28 + 16 * ws.length + 12 * i),0,0,0,0,0,0,0,0,0,0,0,0,0] : List Int)[r]?) :
  iO (yH cs c r1 r2 ws A W) ∧ Inv (yH cs c r1 r2 ws A W) ([],R,368,M):=by
 refine ⟨⟨h8,l1,l3,hA,hrt,hW,fun b hb=>?_,hcd⟩,0,⟨hlen,hM.wm,fun k w hk=>?_,⟨0,D.a0,Nat.zero_le _⟩,D.a1,D.a2,D.a3,fun b hb=>?_,D.c4⟩,⟨hM.r32,hM.wr,D.z0,D.x3,D.x4,Nat.zero_le _⟩,l1,?_,fun i hi h0=>?_,0,D.a0,l1⟩
 ·show 1 ≤ (if b = 0 then r1.toNat else r2.toNat) ∧ (if b = 0 then r1.toNat else r2.toNat) ≤ 4
  split <;> omega
 ·have hk : W[k]? = some w:=hk
  have hkl : k < W.length:=by rcases Nat.lt_or_ge k W.length with h | h; exact h; rw [List.getElem?_eq_none h] at hk; cases hk
  exact (hcode k (by omega)).trans hk
 ·have hrb : ∀ r : Int,1 ≤ r → ((r.toNat : Nat) : Int) = r:=fun r hr=>by omega
  rcases (by omega : b = 0 ∨ b = 1) with rfl | rfl
  ·exact ⟨0,0,D.a4.trans (congrArg some (hrb r1 h1.1).symm),D.a5,D.a6,by show 0 < r1.toNat; omega,Nat.zero_le _⟩
  ·exact ⟨0,0,D.b4.trans (congrArg some (hrb r2 h2.1).symm),D.b5,D.b6,by show 0 < r2.toNat; omega,Nat.zero_le _⟩
 ·obtain ⟨eQ,w,g1,g2,g3,g4⟩:=hcd 0 l1
  exact ⟨eQ,g1,D.x2,.inl ⟨0,.any,Run.start g2 h8 (t:=0) (by have:=g2.one; omega),rfl,trivial⟩⟩
 ·obtain ⟨eQ,w,g1,g2,g3,g4⟩:=hcd i hi
  refine ⟨eQ,_,g1,(hb i 0 hi (by decide)).trans rfl,(hb i 2 hi (by decide)).trans (congrArg some ?_),.inl ⟨0,Run.start g2 h8 (t:=0) (by have:=g2.one; omega),rfl⟩⟩
  show 4 * ((A : Int) + 28 + 16 * ws.length + 12 * i) = 4 * ((A + 28 + 16 * ws.length + 12 * i : Nat) : Int)
  omega
theorem Bv {c r1 r2 : Int} {rW : List (List Instr)} {ws : List (List Int)} (h8 : 1 ≤ c ∧ c ≤ 8) (hL : LQ c rW) (hw : wls rW = some ws) (h1 : 1 ≤ r1 ∧ r1 ≤ 4) (h2 : 1 ≤ r2 ∧ r2 ≤ 4) (hM : MOK (jZ ws) 368 (dU [r1,r2] ws)) :
  ∃ cs A W,A = atN ws ∧ (∀ k,k < A → (dU [r1,r2] ws)[k]? = W[k]?) ∧ W.length = A ∧ iO (yH cs c r1 r2 ws A W) ∧ Inv (yH cs c r1 r2 ws A W) ([],jZ ws,368,dU [r1,r2] ws):=by
 obtain ⟨cs,hcl,hcs⟩:=Av hL.2.2
 have k1:=(lX hw).1
 have l1:=hL.1
 have l2:=hL.2.1
 have k6:=pU [r1,r2] ws
 have hat : atN ws = 92 + ws.flatten.length:=by unfold atN; rw [List.length_append,pT]
 have hA : atN ws ≤ 9000:=by
  have h:=CC hw
  have:=xM 240 (l:=rW) fun x hx=>by have:=((hL.lok h8).2.2 x hx).1; omega
  omega
 refine ⟨cs,atN ws,rtW ++ ws.flatten,rfl,fun k hk=>vR hk,rfl,CL h8 (by omega) (by omega) h1 h2 hA hM k6 BX (fun k hk=>vR hk) rfl (fun k w hk=>?_) (fun i hi=>?_) fun i r hi hr=>?_⟩
 ·have hkl : k < rtW.length:=by rcases Nat.lt_or_ge k rtW.length with h | h; exact h; rw [List.getElem?_eq_none h] at hk; cases hk
  rw [List.getElem?_append_left hkl]
  exact hk
 ·obtain ⟨eQ,hc⟩ : ∃ eQ,cs[i]? = some eQ:=⟨_,List.getElem?_eq_getElem (by omega)⟩
  obtain ⟨g1,g2⟩:=hcs i eQ hc
  obtain ⟨w,w1,w2⟩:=vj hw i _ g2
  have t1:=yG w2
  have t2:=Bu (ws:=ws) (i + 1)
  have t3:=jg w1
  refine ⟨eQ,w,hc,g1,w1,fun k v hk=>?_,by omega⟩
  rw [List.getElem?_append_right (by rw [pT]; omega),pT,show 92 + (ws.take i).flatten.length + k - 92 = (ws.take i).flatten.length + k by omega]
  exact BW w2 hk
 ·rw [← Bs hi (rooms:=[r1,r2]),List.getElem?_drop,List.getElem?_take,if_pos (by omega)]
theorem wt {I : Im} : ∀ (n : Nat) {s : St},SOK s → Ok I n s → Sf I ([],(ue n s).1.Regs,0,(ue n s).1.Mem) ∧ ((ue n s).2.2 = 1 ∨ (ue n s).2.2 = 2)
 | 0,s,hM,h=>⟨h,.inl rfl⟩
 | n + 1,s,hM,h=>by
  have hI:=xB hM
  obtain ⟨h1,h2⟩:=h
  have e : ue (n + 1) s = match one s with
   | .inl t=>ue n t
   | .inr x=>x:=by
   unfold ue
   simp only [ym]
   cases one s <;> rfl
  rw [e]
  cases ho : one s with
  | inl t =>
   rw [ho] at hI h2
   exact wt n hI.1 h2
  | inr x =>
   rw [ho] at hI h2
   simp only at hI h2 ⊢
   rw [hI.2.2.2]
   exact ⟨h1,.inr h2⟩
end
noncomputable section
def gZ (k : Nat) (a0 : List Int) (a1 : List Int) : Option (Bool):=
sel ((decide ((a0.length : Int) > 1048576)) || (decide ((a1.length : Int) > 1048576))) (some true) <|
(dG k a0).bind fun y1 =>
(cr y1.1 y1.2).bind fun y2 =>
(cZ y1.1 y1.2).bind fun y3 =>
(sel ((y2.2.2 != y3.2.2) || (y2.2.1 != y3.2.1)) (some true) ((cW (ai.mk y2.1.Regs y2.1.Pc y2.1.Mem) (ai.mk y3.1.Regs y3.1.Pc y3.1.Mem)).bind fun y4=>some (!y4)) : Option (Bool)).bind fun b1 =>
sel (b1 || (!y2.2.2)) ((sel ((y2.2.2 == y3.2.2) && (y2.2.1 == y3.2.1)) ((cW (ai.mk y2.1.Regs y2.1.Pc y2.1.Mem) (ai.mk y3.1.Regs y3.1.Pc y3.1.Mem)).bind fun y5=>some y5) (some false) : Option (Bool)).bind fun b2 =>
some b2) <|
(gW y1.1 y1.2 (Int.tmod (w64 ((a1.length : Int) * 7)) 1501)).bind fun y6 =>
(sel ((y6.2.2.2 == 1) || (y6.2.2.2 == 2)) ((cut y6.1.Mem 0 (w64 (Int.tdiv y2.2.1 4))).bind fun b_1=>(cut y2.1.Mem 0 (w64 (Int.tdiv y2.2.1 4))).bind fun b_2=>(dX b_1 b_2).bind fun b_3=>some b_3) (some false)).bind fun b3 =>
(sel b3 ((nth y6.1.Regs 3).bind fun b_1=>some (b_1 == y2.2.1)) (some false)).bind fun b4 =>
some b4
end
noncomputable section
structure IFA (r1 r2 : Int) (T A : Nat) (W0 : List Int) (M : ai) : Prop where
 r32 : M.Regs.length = 32
 len : M.Mem.length = A + 28 + 28 * T
 eQ : ∀ k,k < A → M.Mem[k]? = W0[k]?
 x3 : M.Regs[3]? = some (4 * (A : Int))
 x4 : ∃ j,j ≤ T ∧ M.Regs[4]? = some (4 * ((A + 28 + 16 * j : Nat) : Int))
 idle : ∃ v : Nat,M.Mem[A]? = some (v : Int) ∧ v ≤ T
 d1 : M.Mem[A + 1]? = some (T : Int)
 d2 : M.Mem[A + 2]? = some (4 * ((A + 28 : Nat) : Int))
 d3 : M.Mem[A + 3]? = some (4 * ((A + 28 + 16 * T : Nat) : Int))
 b0 : M.Mem[A + 4]? = some r1 ∧ ∃ l : Nat,M.Mem[A + 6]? = some (l : Int) ∧ (l : Int) ≤ r1
 b1 : M.Mem[A + 12]? = some r2 ∧ ∃ l : Nat,M.Mem[A + 14]? = some (l : Int) ∧ (l : Int) ≤ r2
 b2 : M.Mem[A + 20]? = some 0
def IF (r1 r2 : Int) (ws : List (List Int)) (M : ai) : Prop:=IFA r1 r2 ws.length (atN ws) (dU [r1,r2] ws) M
theorem Aw {c r1 r2 : Int} {rW : List (List Instr)} {ws : List (List Int)} (h8 : 1 ≤ c ∧ c ≤ 8) (hL : LQ c rW) (hw : wls rW = some ws) (h1 : 1 ≤ r1 ∧ r1 ≤ 4) (h2 : 1 ≤ r2 ∧ r2 ≤ 4) (hM : MOK (jZ ws) 368 (dU [r1,r2] ws)) (hz : (jZ ws)[0]? = some 0) {N : Nat} (hN : N ≤ 1000000) :
  ∃ M out st,fW (ai.mk (jZ ws) 368 (dU [r1,r2] ws)) (N : Int) = some (M,out,st) ∧ (st = 1 ∨ st = 2) ∧ IF r1 r2 ws M:=by
 have e:=yB hN hM hz
 obtain ⟨cs,A,W,hA,hcode,hW,hI,hInv⟩:=Bv h8 hL hw h1 h2 hM
 obtain ⟨⟨hS,j,hR⟩,hst⟩:=wt N (s:=([],jZ ws,368,dU [r1,r2] ws)) hM (CK hI N _ hInv)
 generalize ue N ([],jZ ws,368,dU [r1,r2] ws) = z at e hS hR hst
 obtain ⟨M,out,st⟩:=z
 have hS : fM (yH cs c r1 r2 ws A W) M.Mem:=hS
 have hR : RC (yH cs c r1 r2 ws A W) j M.Regs:=hR
 obtain ⟨v,v1,v2⟩:=hS.idle
 obtain ⟨ha,la,a1,a2,a3,a4,a5⟩:=hS.bx 0 (by omega)
 obtain ⟨hb,lb,c1,c2,c3,c4,c5⟩:=hS.bx 1 (by omega)
 have t1 : ((r1.toNat : Nat) : Int) = r1:=by omega
 have t2 : ((r2.toNat : Nat) : Int) = r2:=by omega
 have a1 : M.Mem[A + 4]? = some ((r1.toNat : Nat) : Int):=a1
 have a3 : M.Mem[A + 6]? = some (la : Int):=a3
 have a5 : la ≤ r1.toNat:=a5
 have c1 : M.Mem[A + 12]? = some ((r2.toNat : Nat) : Int):=c1
 have c3 : M.Mem[A + 14]? = some (lb : Int):=c3
 have c5 : lb ≤ r2.toNat:=c5
 rw [t1] at a1
 rw [t2] at c1
 have key : IFA r1 r2 ws.length A (dU [r1,r2] ws) M:=⟨hR.r32,hS.len,fun k hk=>by
  have hk' : k < W.length:=by omega
  rw [hcode k hk]
  rw [List.getElem?_eq_getElem hk']
  exact hS.eQ k _ (List.getElem?_eq_getElem hk'),hR.x3,⟨j,hR.jT,hR.x4⟩,⟨v,v1,v2⟩,hS.d1,hS.d2,hS.d3,⟨a1,la,a3,by omega⟩,⟨c1,lb,c3,by omega⟩,hS.b2⟩
 rw [hA] at key
 exact ⟨M,out,st,e,hst,key⟩
theorem wu {z : List Int × List (List Instr)} (hz : DrI z) : (cZ z.1 z.2 = some (ai.mk [] 0 [],0,false) ∧ cr z.1 z.2 = some (ai.mk [] 0 [],0,false)) ∨
  ∃ r1 r2 ws c,z.1 = [r1,r2] ∧ (1 ≤ r1 ∧ r1 ≤ 4) ∧ (1 ≤ r2 ∧ r2 ≤ 4) ∧ (1 ≤ c ∧ c ≤ 8) ∧ LQ c z.2 ∧ wls z.2 = some ws ∧ ws.length = z.2.length ∧ 1 ≤ ws.length ∧ ws.length ≤ 3 ∧ atN ws ≤ 10000 ∧ (dU [r1,r2] ws).length = atN ws + 28 + 28 * ws.length ∧ (dU [r1,r2] ws).length ≤ 10000 ∧
   MOK (jZ ws) 368 (dU [r1,r2] ws) ∧ (jZ ws)[0]? = some 0 ∧ cZ z.1 z.2 = some (ai.mk (jZ ws) 368 (dU z.1 ws),4 * (atN ws : Int),true) ∧ cr z.1 z.2 = some (ai.mk (jZ ws) 368 (dU z.1 ws),4 * (atN ws : Int),true):=by
 obtain ⟨hq,hd⟩:=hz
 rcases Br hq with h | ⟨r1,r2,ws,hrm,hr1,hr2,hw,k1,c1,c2,c3,c4,c5,hM,hz0,e1,e2⟩
 ·exact .inl h
 ·refine .inr ⟨r1,r2,ws,?_⟩
  rcases hd with ⟨c,h8,hL⟩ | h4 | ⟨x,hx,hbad⟩
  ·exact ⟨c,hrm,hr1,hr2,h8,hL,hw,k1,c1,c2,c3,c4,c5,hM,hz0,e1,e2⟩
  ·omega
  ·exfalso
   obtain ⟨i,hi,rfl⟩:=List.getElem_of_mem hx
   obtain ⟨w,hw1,_⟩:=vj hw i _ (List.getElem?_eq_getElem hi)
   rw [hbad] at hw1
   cases hw1
theorem Ax {c r1 r2 : Int} {rW : List (List Instr)} {ws : List (List Int)} (h8 : 1 ≤ c ∧ c ≤ 8) (hL : LQ c rW) (hw : wls rW = some ws) (h1 : 1 ≤ r1 ∧ r1 ≤ 4) (h2 : 1 ≤ r2 ∧ r2 ≤ 4) (hM : MOK (jZ ws) 368 (dU [r1,r2] ws)) (hz : (jZ ws)[0]? = some 0)
  (e2 : cr [r1,r2] rW = some (ai.mk (jZ ws) 368 (dU [r1,r2] ws),4 * (atN ws : Int),true)) {a : List Int} (ha : a.length ≤ 1048576) : ∃ M out st,gW [r1,r2] rW (Int.tmod (w64 ((a.length : Int) * 7)) 1501) = some (M,4 * (atN ws : Int),out,st) ∧ (st = 1 ∨ st = 2) ∧ IF r1 r2 ws M:=by
 have e : Int.tmod (w64 ((a.length : Int) * 7)) 1501 = ((a.length * 7 % 1501 : Nat) : Int):=by rw [ax (by omega) (by omega),Int.tmod_eq_emod_of_nonneg (by omega)]; omega
 obtain ⟨M,out,st,f1,f2,f3⟩:=Aw h8 hL hw h1 h2 hM hz (N:=a.length * 7 % 1501) (by omega)
 refine ⟨M,out,st,?_,f2,f3⟩
 unfold gW
 rw [e]
 exact aa e2 (ac rfl (aa f1 rfl))
theorem Bw {k : Nat} (hk : 20 ≤ k) {a0 a1 : List Int} (h : ∀ x ∈ a0,0 ≤ x ∧ x ≤ 255) : lS k a0 a1 = some true:=by
 refine Tot.eq ?_
 unfold lS
 refine .sel (fun _=>.pure rfl) fun hlen=>.bind (qc hk h) fun z hz=>?_
 simp only [Bool.or_eq_false_iff,decide_eq_false_iff_not] at hlen
 rcases wu hz with ⟨e1,e2⟩ | ⟨r1,r2,ws,c,hrm,hr1,hr2,h8,hL,hw,k1,c1,c2,c3,c4,c5,hM,hz0,e1,e2⟩
 ·have hS:=gY (m:=⟨[],0,[]⟩) (by simp) (by simp)
  exact .of (aa e2 (aa e1 (aa (y:=false) (ac rfl (aa hS rfl)) (al rfl (aa (y:=true) (al (by simp) (aa hS rfl)) rfl))))) rfl
 ·obtain ⟨rooms,rW⟩:=z
  simp only at hrm hL hw k1 e1 e2
  subst hrm
  have hS:=gY (m:=⟨jZ ws,368,dU [r1,r2] ws⟩) (by rw [hM.r32]; omega) (by simp only; omega)
  obtain ⟨M,out,st,f1,f2,F⟩:=Ax h8 hL hw hr1 hr2 hM hz0 e2 (a:=a1) (by omega)
  have D:=BX (r1:=r1) (r2:=r2) (ws:=ws)
  have t:=BV (atN ws)
  have g1 : w64 (w64 (Int.tdiv (4 * (atN ws : Int)) 4) + 1) = ((atN ws + 1 : Nat) : Int):=by rw [t,xS (by omega),ax (by omega) (by omega)]; omega
  have g2 : w64 (w64 (Int.tdiv (4 * (atN ws : Int)) 4) + 2) = ((atN ws + 2 : Nat) : Int):=by rw [t,xS (by omega),ax (by omega) (by omega)]; omega
  have g4 : w64 (w64 (Int.tdiv (4 * (atN ws : Int)) 4) + 4) = ((atN ws + 4 : Nat) : Int):=by rw [t,xS (by omega),ax (by omega) (by omega)]; omega
  have hlM:=F.len
  have hcut : ∀ l : List Int,l.length = atN ws + 28 + 28 * ws.length → cut l ((atN ws + 1 : Nat) : Int) ((atN ws + 4 : Nat) : Int) = some ((l.take (atN ws + 4)).drop (atN ws + 1)):=fun l hl=>by unfold cut; rw [if_pos (by omega),Int.toNat_natCast,Int.toNat_natCast]
  have hX : (M.Mem.take (atN ws + 4)).drop (atN ws + 1) = ((dU [r1,r2] ws).take (atN ws + 4)).drop (atN ws + 1):=by
   apply List.ext_getElem?
   intro q
   rw [List.getElem?_drop,List.getElem?_drop,List.getElem?_take,List.getElem?_take]
   by_cases hq : atN ws + 1 + q < atN ws + 4
   ·rw [if_pos hq,if_pos hq]
    rcases (by omega : q = 0 ∨ q = 1 ∨ q = 2) with rfl | rfl | rfl
    ·exact F.d1.trans D.a1.symm
    ·exact F.d2.trans D.a2.symm
    ·exact F.d3.trans D.a3.symm
   ·rw [if_neg hq,if_neg hq]
  have hI:=kF (l:=((dU [r1,r2] ws).take (atN ws + 4)).drop (atN ws + 1)) (by simp; omega)
  have L:=xq (f:=ej (ai.mk (jZ ws) 368 (dU [r1,r2] ws),4 * (atN ws : Int),true) (M,4 * (atN ws : Int),out,st)) (ρ:=Bool ⊕ Unit) (fun i=>((i : Nat) : Int)) 3 (r:=.inr ()) (fun i hi=>by
   have g : w64 (w64 (w64 (Int.tdiv (4 * (atN ws : Int)) 4) + 4) + w64 (8 * (i : Int))) = ((atN ws + 4 + 8 * i : Nat) : Int):=by rw [g4,ax (x:=8 * (i : Int)) (by omega) (by omega),ax (by omega) (by omega)]; omega
   obtain ⟨x,x1,x2⟩ : ∃ x,M.Mem[atN ws + 4 + 8 * i]? = some x ∧ (dU [r1,r2] ws)[atN ws + 4 + 8 * i]? = some x:=by
    rcases (by omega : i = 0 ∨ i = 1 ∨ i = 2) with rfl | rfl | rfl
    ·exact ⟨r1,F.b0.1,D.a4⟩
    ·exact ⟨r2,F.b1.1,D.b4⟩
    ·exact ⟨0,F.b2,D.c4⟩
   unfold ej
   dsimp only
   rw [g]
   exact al (by simp; omega) (aa (fk x1) (aa (fk x2) (ac (by simp) (by rw [kD (by omega)])))))
   (by unfold ej; exact ac (by simp) rfl)
  obtain ⟨j,j1,j2⟩:=F.x4
  have y1 : w64 (4 * ((atN ws + 28 + 16 * j : Nat) : Int) - 4 * ((atN ws + 28 : Nat) : Int)) = ((64 * j : Nat) : Int):=by rw [ax (by omega) (by omega)]; omega
  have y2 : w64 (64 * (rW.length : Int)) = ((64 * ws.length : Nat) : Int):=by rw [ax (by omega) (by omega),k1]; omega
  refine .of (aa e2 (aa e1 (aa (y:=false) (ac (by simp) (aa hS rfl)) (ac rfl (aa f1 (aa (y:=false) (ac (by simp; omega) (aa (y:=(M.Mem.take (atN ws + 4)).drop (atN ws + 1)) ?_ (aa (y:=((dU [r1,r2] ws).take (atN ws + 4)).drop (atN ws + 1)) ?_ (aa (y:=true) ?_ rfl)))) (ac rfl (aa L ?_)))))))) rfl
  ·dsimp only; rw [g1,g4]; exact hcut _ hlM
  ·dsimp only; rw [g1,g4]; exact hcut _ c4
  ·rw [hX]; exact hI
  ·dsimp only [i6]
   rw [g2]
   refine aa (fk (k:=4) j2) (aa (fk D.a2) ?_)
   rw [y1,y2,Int.tmod_eq_emod_of_nonneg (by omega)]
   refine congrArg some ?_
   simp
   omega
theorem xc {k : Nat} (hk : 20 ≤ k) {a0 a1 : List Int} (h : ∀ x ∈ a0,0 ≤ x ∧ x ≤ 255) : gZ k a0 a1 = some true:=by
 refine Tot.eq ?_
 unfold gZ
 refine .sel (fun _=>.pure rfl) fun hlen=>.bind (qc hk h) fun z hz=>?_
 simp only [Bool.or_eq_false_iff,decide_eq_false_iff_not] at hlen
 rcases wu hz with ⟨e1,e2⟩ | ⟨r1,r2,ws,c,hrm,hr1,hr2,h8,hL,hw,k1,c1,c2,c3,c4,c5,hM,hz0,e1,e2⟩
 ·have hS:=gY (m:=⟨[],0,[]⟩) (by simp) (by simp)
  exact .of (aa e2 (aa e1 (aa (y:=false) (ac rfl (aa hS rfl)) (al rfl (aa (y:=true) (al (by simp) (aa hS rfl)) rfl))))) rfl
 ·obtain ⟨rooms,rW⟩:=z
  simp only at hrm hL hw k1 e1 e2
  subst hrm
  have hS:=gY (m:=⟨jZ ws,368,dU [r1,r2] ws⟩) (by rw [hM.r32]; omega) (by simp only; omega)
  obtain ⟨M,out,st,f1,f2,F⟩:=Ax h8 hL hw hr1 hr2 hM hz0 e2 (a:=a1) (by omega)
  have t:=BV (atN ws)
  have g0 : w64 (Int.tdiv (4 * (atN ws : Int)) 4) = ((atN ws : Nat) : Int):=by rw [t,xS (by omega)]
  have hlM:=F.len
  have hcut : ∀ l : List Int,l.length = atN ws + 28 + 28 * ws.length → cut l 0 ((atN ws : Nat) : Int) = some (l.take (atN ws)):=fun l hl=>by unfold cut; rw [if_pos (by omega),Int.toNat_natCast]; rfl
  have hX : M.Mem.take (atN ws) = (dU [r1,r2] ws).take (atN ws):=by
   apply List.ext_getElem?
   intro q
   rw [List.getElem?_take,List.getElem?_take]
   by_cases hq : q < atN ws
   ·rw [if_pos hq,if_pos hq]; exact F.eQ q hq
   ·rw [if_neg hq,if_neg hq]
  have hI:=kF (l:=(dU [r1,r2] ws).take (atN ws)) (by simp; omega)
  have hst : (((st == 1) || (st == 2)) : Bool) = true:=by rcases f2 with rfl | rfl <;> rfl
  refine .of (aa e2 (aa e1 (aa (y:=false) (ac (by simp) (aa hS rfl)) (ac rfl (aa f1 (aa (y:=true) (al hst (aa (y:=M.Mem.take (atN ws)) ?_ (aa (y:=(dU [r1,r2] ws).take (atN ws)) ?_ (aa (y:=true) ?_ rfl)))) (aa (y:=true) (al rfl (aa (fk (k:=3) F.x3) ?_)) rfl))))))) rfl
  ·dsimp only; rw [g0]; exact hcut _ hlM
  ·dsimp only; rw [g0]; exact hcut _ c4
  ·rw [hX]; exact hI
  ·simp
end
noncomputable section
abbrev Cl := Calls Tryz.prog
abbrev vi (x : Int) : Value := Value.int IntKind.i64 x
abbrev RO (w : World) (h : Hd) {α : Type} := @RV α w (Old No w) (sv h)
abbrev RU (w : World) (v : Value) := Ret No w (fun _ : Unit => v) fun _ => []
theorem z.{u} {α : Sort u} {a : α} : a = a := rfl
theorem zz {A S T : Nat → Prop} (h : ∀ b, S b → A b ∧ T b) : ∀ b, S b → T b := fun b hb => (h b hb).2
end
end Go.Proofs.YtgcmopfhafoabaaGreatDoor.N
namespace Go.Proofs.YtgcmopfhafoabaaGreatDoor.X
noncomputable section
theorem CW.g {P : Program} {n id : Nat} {ops : Array Oper} {d : Code} {E : Env} {W : World} {R : Exit → Env → World → Prop} (h : RG P n ops ops.toList E W (fun E' W' => CW P n d E' W' R)) : CW P n (.seq (.region id ops false) d) E W R := .seq (.region h)
variable {P : Program} {n : Nat} {ops : Array Oper} {o : Oper} {E : Env} {W : World} {v : Value} {K : Env → World → Prop} {SW : World → Prop} {k f : Nat} {ls : Array Bool}
theorem RK.tp' (i : Nat) (ho : ops[i]? = some o) (hv : pq n E o = some v) (hS : SW W) (h : RK P n ops SW k f (ls.setIfInBounds i true) (put E o.dst v) W K) (hs : (Region.noSelect ops && Region.free .any ops ls i && (Region.ready .any ops ls).contains i && j0 ops k i && !(Nat.beq i k)) = true := by kernel_rfl) : RK P n ops SW k (f + 1) ls E W K := .tp i ho hv hS hs h
theorem RK.ts' (i : Nat) (ho : ops[i]? = some o) (hv : ∀ W, SW W → ez P n E o W v W) (hS : SW W) (hg : og n o = true) (h : RK P n ops SW k f (ls.setIfInBounds i true) (put E o.dst v) W K) (hs : (Region.noSelect ops && Region.free .any ops ls i && (Region.ready .any ops ls).contains i && j0 ops k i && !(Nat.beq i k)) = true := by kernel_rfl) : RK P n ops SW k (f + 1) ls E W K := .ts i ho hv hS hg hs h
theorem RG.qn {P : Program} {n : Nat} {ops : Array Oper} {o : Oper} {E : Env} {W : World} {v : Value} {K : Env → World → Prop} (h : pq n E o = some v) (k : K (put E o.dst v) W) : RG P n ops [o] E W K := .q h (.nil k)
end
end Go.Proofs.YtgcmopfhafoabaaGreatDoor.X
namespace Go.Proofs.YtgcmopfhafoabaaGreatDoor.N
open Go.Proofs.YtgcmopfhafoabaaGreatDoor.X
noncomputable section
theorem tM {a0 : List Int} {v_0 : Hd} {w : World} {r : aH} (h : kP a0 = some r) (q_0 : RO w v_0 5 1 (D.int .u8) a0) : Cl 38 #[(sv v_0)] w (Ret No w (fun s : Nat × {x : Hd // ∀ (T : Nat → Prop),RV w T (sv v_0) 5 1 (D.int .u8) a0 → RV w T (sv x) 5 1 (D.int .u8) r.b}=>.pointer (some ⟨s.1,0,none⟩)) (fun s=>[.box s.1 117 [(sv s.2.1),vi r.p]])):=by
 unfold kP at h
 refine ar Tryz.func38 z z ?_
 have hS:=Sep.start w
 refine .g (.q z (.nil ?_))
 have ⟨y1,hy1,h⟩:=bnd h
 refine .seq (CW.via (R':=fun x E' W'=>x = .normal ∧ ∃ (v1 : Hd),(∀ (T : Nat → Prop),RV w T (sv v_0) 5 1 (D.int .u8) a0 → RV w T (sv v1) 5 1 (D.int .u8) y1) ∧ aD E' [(0,(sv v1))] ∧ Sep No w W' []) ?_ ?_)
 ·have h:=hy1
  refine .g (.q z (.s (bF (hS.keep q_0) T.u22 z z) z (.q z (.nil ?_))))
  refine .cs z h ?_ ?_ <;> intro h
  ·refine .region (.q z ?_)
   have ⟨r1,hr1,h⟩:=bnd h
   refine .s (slv hr1 q_0 T.u22 T.t5 z z z z) z (.q z (.nil ?_))
   obtain rfl:=o9 h
   exact ⟨z,(xZ v_0 (Int.toNat 0) 1 r1.length),fun _ q_0=>(B4 hr1 q_0),sb z,hS.to []⟩
  refine .skip ?_
  obtain rfl:=o9 h
  exact ⟨z,v_0,fun _ q_0=>q_0,sb z,hS.to []⟩
 intro x E W hJ
 obtain ⟨rfl,v2,q2,hE,hS⟩:=hJ
 refine ⟨_,hE.sub,?_⟩
 refine .g (.q z (.s (bs T.s117 z z) z (.c (.box hS z z ?_))))
 intro g1 W hS
 cases h
 exact .qn z (.ret (ab (vs:=[_]) (g1,⟨v2,fun _ q_0=>(q2 _ q_0)⟩) (rt z rn) z (hS.to [0])))
theorem ak {a0 : aH} {a1 : Int} {aq : Hd} {g_0 : Nat} {S : Nat → Prop} {w : World} {r : Int × Int} (h : ao a0 a1 = some r) (aE : RV w (Old S w) (sv aq) 5 1 (D.int .u8) a0.b) (hO : bO w [.box g_0 117 [(sv aq),vi a0.p]] S) (hlt : ∀ b,S b → b < w.heap.size) : Cl 39 #[pt g_0,vi a1] w (Ret S w (fun s : Unit=>.int .i64 r.1) (fun s=>[.box g_0 117 [(sv aq),vi r.2]])):=by
 unfold ao at h
 refine ar Tryz.func39 z z ?_
 have hS:=Sep.sm hO hlt
 refine .g (.qn z (.g (.q z (.q z (.q z (.s (fa T.f117_1 z z z) z (.s (ld T.t3 hS z z z z z) z (.q z (.q z (.s (fa T.f117_1 z z z) z (.c (.st T.t3 hS z z z ?_))))))))))))
 intro W hS
 refine .nil (.seq (.g (.q z (.q z (.q z (.cu 7 24 ((decide (a1 < 1)) || ((a0.b.length : Int) == 0)) hS ?_ ?_))))))
 ·refine .both (decide (a1 < 1)) (fun hb=>?_) (fun hb=>?_)
  ·exact .xx hb z (.xx hb z (.xx hb z (.xx hb z (.xx hb z (.xx hb z (.s (pkt hb z z z) z (.nil (ck 7 hS z (kL hb)))))))))
  have hg1:=hb
  exact .g hg1 (.q z (.g hg1 (.q z (.g hg1 (.s (fa T.f117_0 z z z) z (.g hg1 (.s (ld T.t22 hS z z z z z) z (.g hg1 (.s (bF (hS.keep aE) T.u22 z z) z (.g hg1 (.q z (.s (pkf hg1 z z z) z (.nil (ck 7 hS z (kM hg1)))))))))))))))
 intro W hS
 refine .nil ?_
 refine .cs z h ?_ ?_ <;> intro h
 ·cases h
  exact .g (.qn z (.ret (ab (vs:=[_]) () (rt z rn) z (hS.to [0]))))
 refine .skip (.g (.q z (.q z (.s (fa T.f117_1 z z z) z (.s (ld T.t3 hS z z z z z) z (.q z (.qn z (.seq (.g (.q z (.q z (.q z (.s (fa T.f117_0 z z z) z (.s (ld T.t22 hS z z z z z) z (.s (bF (hS.keep aE) T.u22 z z) z (.q z (.nil ?_)))))))))))))))))
 refine .cs z h ?_ ?_ <;> intro h
 ·refine .g (.q z (.q z (.s (fa T.f117_0 z z z) z (.s (ld T.t22 hS z z z z z) z (.q z ?_)))))
  have ⟨x1,hx1,h⟩:=bnd h
  refine .s (ixv (hS.keep aE) hx1 T.u22 T.t5 z z z) z (.s (lde (RV.flat (hS.keep aE) hx1 z) T.t5 z z z z z) z (.s (cv T.u5 T.u3 z z) z (.q z ?_)))
  have ⟨d1,hd1,h⟩:=bnd h
  cases h
  exact .s (dr hd1 z z z) z (.qn z (.ret (ab (vs:=[_]) () (rt z rn) z (hS.to [0]))))
 refine .skip (.seq (.rk 46 hS [0] T.mix ?_))
 intro W hS
 have hT:=hS.to [0]
 refine .tp' 0 z z hT (.tp' 1 z z hT (.ts' 2 z (fun W hT=>fa T.f117_0 z z z) hT z (.ts' 3 z (fun W hT=>ld T.t22 hT z z z z z) hT z (.tp' 4 z z hT (.tp' 5 z z hT (.tp' 6 z z hT (.ts' 7 z (fun W hT=>fa T.f117_0 z z z) hT z (.ts' 8 z (fun W hT=>ld T.t22 hT z z z z z) hT z (.ts' 9 z (fun W hT=>bF (hS.keep aE) T.u22 z z) hT z ?_)))))))))
 have ⟨d2,hd2,h⟩:=bnd h
 refine .ts' 10 z (fun W hT=>dr hd2 z z z) hT z ?_
 have ⟨x2,hx2,h⟩:=bnd h
 refine .ts' 11 z (fun W hT=>ixv (hS.keep aE) hx2 T.u22 T.t5 z z z) hT z (.ts' 12 z (fun W hT=>lde (RV.flat (hT.keep aE) hx2 z) T.t5 z z z z z) hT z (.ts' 13 z (fun W hT=>cv T.u5 T.u3 z z) hT z (.tp' 14 z z hT (.tp' 15 z z hT (.tp' 16 z z hT (.ts' 17 z (fun W hT=>fa T.f117_0 z z z) hT z (.ts' 18 z (fun W hT=>ld T.t22 hT z z z z z) hT z (.tp' 19 z z hT (.tp' 20 z z hT (.tp' 21 z z hT (.tp' 22 z z hT (.tp' 23 z z hT (.ts' 24 z (fun W hT=>fa T.f117_0 z z z) hT z (.ts' 25 z (fun W hT=>ld T.t22 hT z z z z z) hT z (.ts' 26 z (fun W hT=>bF (hS.keep aE) T.u22 z z) hT z ?_)))))))))))))))
 have ⟨d3,hd3,h⟩:=bnd h
 refine .ts' 27 z (fun W hT=>dr hd3 z z z) hT z ?_
 have ⟨x3,hx3,h⟩:=bnd h
 refine .ts' 28 z (fun W hT=>ixv (hS.keep aE) hx3 T.u22 T.t5 z z z) hT z (.ts' 29 z (fun W hT=>lde (RV.flat (hT.keep aE) hx3 z) T.t5 z z z z z) hT z (.ts' 30 z (fun W hT=>cv T.u5 T.u3 z z) hT z (.tp' 31 z z hT (.tp' 32 z z hT (.tp' 33 z z hT (.tp' 34 z z hT (.tp' 35 z z hT (.tp' 36 z z hT (.tp' 37 z z hT (.tp' 38 z z hT (.ts' 39 z (fun W hT=>fa T.f117_0 z z z) hT z (.ts' 40 z (fun W hT=>ld T.t22 hT z z z z z) hT z (.ts' 41 z (fun W hT=>bF (hS.keep aE) T.u22 z z) hT z ?_)))))))))))))
 have ⟨d4,hd4,h⟩:=bnd h
 refine .ts' 42 z (fun W hT=>dq hd4 z z z) hT z (.tp' 43 z z hT (.tp' 44 z z hT (.tp' 45 z z hT (.done (.g (.q z (.q z (.q z (.q z (.qn z (.g (.q z (.q z ?_)))))))))))))
 have ⟨d5,hd5,h⟩:=bnd h
 cases h
 exact .s (dr hd5 z z z) z (.qn z (.ret (ab (vs:=[_]) () (rt z rn) z (hS.to [0]))))
theorem cL {a0 : aH} {aq : Hd} {g_0 : Nat} {S : Nat → Prop} {w : World} {r : Int × Int} (h : cF a0 = some r) (aE : RV w (Old S w) (sv aq) 5 1 (D.int .u8) a0.b) (hO : bO w [.box g_0 117 [(sv aq),vi a0.p]] S) (hlt : ∀ b,S b → b < w.heap.size) : Cl 194 #[pt g_0] w (Ret S w (fun s : Unit=>.int .i64 r.1) (fun s=>[.box g_0 117 [(sv aq),vi r.2]])):=by
 unfold cF at h
 refine ar Tryz.func194 z z ?_
 have hS:=Sep.sm hO hlt
 refine .g (.qn z (.g (.q z ?_)))
 have ⟨y1,hy1,h⟩:=bnd h
 refine .c (.cS (L0:=[.box g_0 117 [(sv aq),vi a0.p]]) hS Tryz.func39 (fun S h1 h2 h3=>(ak hy1 (hS.ks aE h1) h2 (zz h1))) z z ?_)
 rintro ⟨⟩ W hS
 cases h
 exact .qn z (.ret (ab (vs:=[_]) () (rt z rn) z (hS.to [0])))
theorem eI {a0 : Int} {w : World} {r : Int} (h : bI a0 = some r) : Cl 72 #[vi a0] w (RU w (.int .i64 r)):=by
 unfold bI at h
 refine ar Tryz.func72 z z ?_
 have hS:=Sep.start w
 refine .g (.qn z (.g (.q z (.q z (.qn z (.seq (.g (.q z (.q z (.nil ?_))))))))))
 refine .cs z h ?_ ?_ <;> intro h
 ·cases h
  exact .g (.q z (.q z (.qn z (.ret (ab (vs:=[_]) () (rt z rn) z (hS.to []))))))
 refine .skip (.seq (.g (.q z (.q z (.nil ?_)))))
 refine .cs z h ?_ ?_ <;> intro h
 ·cases h
  exact .g (.q z (.q z (.qn z (.ret (ab (vs:=[_]) () (rt z rn) z (hS.to []))))))
 cases h
 exact .skip (.g (.q z (.qn z (.ret (ab (vs:=[_]) () (rt z rn) z (hS.to []))))))
theorem rP {a0 : aH} {aq : Hd} {g_0 : Nat} {S : Nat → Prop} {w : World} {r : Int × Int} (h : jj a0 = some r) (aE : RV w (Old S w) (sv aq) 5 1 (D.int .u8) a0.b) (hO : bO w [.box g_0 117 [(sv aq),vi a0.p]] S) (hlt : ∀ b,S b → b < w.heap.size) : Cl 195 #[pt g_0] w (Ret S w (fun s : Unit=>.int .i64 r.1) (fun s=>[.box g_0 117 [(sv aq),vi r.2]])):=by
 unfold jj at h
 refine ar Tryz.func195 z z ?_
 have hS:=Sep.sm hO hlt
 refine .g (.qn z (.seq (.g (.q z ?_))))
 have ⟨y1,hy1,h⟩:=bnd h
 refine .c (.cS (L0:=[.box g_0 117 [(sv aq),vi a0.p]]) hS Tryz.func39 (fun S h1 h2 h3=>(ak hy1 (hS.ks aE h1) h2 (zz h1))) z z ?_)
 rintro ⟨⟩ W hS
 refine .nil (.block (.g (.q z (.qn z (.cond z (fun hb=>?_) (fun hb=>?_))))))
 ·have h:=aF hb h
  refine .g (.c (.liv [(-2147483648),2147483647,(-1),0,1,(-2147483647),65536,(-65536)] (D.int .i64) T.u23 T.t3 hS z z z z ?_ z (fun _=>z)))
  intro v1 W hS
  refine .q z ?_
  have ⟨y2,hy2,h⟩:=bnd h
  have hS:=hS.p1
  refine .c (.cS (L0:=[.box g_0 117 [(sv aq),vi y1.2]]) hS Tryz.func39 (fun S h1 h2 h3=>(ak hy2 (hS.ks aE h1) h2 (zz h1))) z z ?_)
  rintro ⟨⟩ W hS
  have ⟨x1,hx1,h⟩:=bnd h
  cases h
  exact .s (ixv hS.p1.lv hx1 T.u23 T.t3 z z z) z (.s (lde (RV.flat hS.p1.lv hx1 z) T.t3 z z z z z) z (.qn z (.ret (ab (vs:=[_]) () (rt z rn) z (hS.to [0])))))
 have h:=aG hb h
 refine .g (.q z (.qn z (.cond z (fun hb=>?_) (fun hb=>?_))))
 ·have h:=aF hb h
  refine .g (.q z ?_)
  have ⟨y3,hy3,h⟩:=bnd h
  refine .c (.cS (L0:=[.box g_0 117 [(sv aq),vi y1.2]]) hS Tryz.func39 (fun S h1 h2 h3=>(ak hy3 (hS.ks aE h1) h2 (zz h1))) z z ?_)
  rintro ⟨⟩ W hS
  refine .q z (.q z ?_)
  have ⟨y4,hy4,h⟩:=bnd h
  refine .c (.cS (L0:=[.box g_0 117 [(sv aq),vi y3.2]]) hS Tryz.func39 (fun S h1 h2 h3=>(ak hy4 (hS.ks aE h1) h2 (zz h1))) z z ?_)
  rintro ⟨⟩ W hS
  refine .q z (.q z (.q z ?_))
  have ⟨y5,hy5,h⟩:=bnd h
  refine .c (.cS (L0:=[.box g_0 117 [(sv aq),vi y4.2]]) hS Tryz.func39 (fun S h1 h2 h3=>(ak hy5 (hS.ks aE h1) h2 (zz h1))) z z ?_)
  rintro ⟨⟩ W hS
  refine .q z (.q z ?_)
  have ⟨y6,hy6,h⟩:=bnd h
  refine .c (.cS (L0:=[.box g_0 117 [(sv aq),vi y5.2]]) hS Tryz.func39 (fun S h1 h2 h3=>(ak hy6 (hS.ks aE h1) h2 (zz h1))) z z ?_)
  rintro ⟨⟩ W hS
  refine .q z (.q z ?_)
  have ⟨y7,hy7,h⟩:=bnd h
  refine .c (.cO hS Tryz.func72 (eI hy7) z z ?_)
  intro W hS
  cases h
  exact .qn z (.ret (ab (vs:=[_]) () (rt z rn) z (hS.to [0])))
 have h:=aG hb h
 refine .g (.q z (.qn z (.cond z (fun hb=>?_) (fun hb=>?_))))
 ·have h:=aF hb h
  refine .g (.q z ?_)
  have ⟨y8,hy8,h⟩:=bnd h
  refine .c (.cS (L0:=[.box g_0 117 [(sv aq),vi y1.2]]) hS Tryz.func39 (fun S h1 h2 h3=>(ak hy8 (hS.ks aE h1) h2 (zz h1))) z z ?_)
  rintro ⟨⟩ W hS
  cases h
  exact .q z (.qn z (.ret (ab (vs:=[_]) () (rt z rn) z (hS.to [0]))))
 have h:=aG hb h
 refine .skip (.g (.q z ?_))
 have ⟨y9,hy9,h⟩:=bnd h
 refine .c (.cS (L0:=[.box g_0 117 [(sv aq),vi y1.2]]) hS Tryz.func39 (fun S h1 h2 h3=>(ak hy9 (hS.ks aE h1) h2 (zz h1))) z z ?_)
 rintro ⟨⟩ W hS
 cases h
 exact .qn z (.ret (ab (vs:=[_]) () (rt z rn) z (hS.to [0])))
theorem pd {a0 : aH} {aq : Hd} {g_0 : Nat} {S : Nat → Prop} {w : World} {r : Int × Int} (h : j6 a0 = some r) (aE : RV w (Old S w) (sv aq) 5 1 (D.int .u8) a0.b) (hO : bO w [.box g_0 117 [(sv aq),vi a0.p]] S) (hlt : ∀ b,S b → b < w.heap.size) : Cl 196 #[pt g_0] w (Ret S w (fun s : Unit=>.int .i64 r.1) (fun s=>[.box g_0 117 [(sv aq),vi r.2]])):=by
 unfold j6 at h
 refine ar Tryz.func196 z z ?_
 have hS:=Sep.sm hO hlt
 refine .g (.qn z (.g (.q z ?_)))
 have ⟨y1,hy1,h⟩:=bnd h
 refine .c (.cS (L0:=[.box g_0 117 [(sv aq),vi a0.p]]) hS Tryz.func39 (fun S h1 h2 h3=>(ak hy1 (hS.ks aE h1) h2 (zz h1))) z z ?_)
 rintro ⟨⟩ W hS
 cases h
 exact .q z (.qn z (.ret (ab (vs:=[_]) () (rt z rn) z (hS.to [0]))))
theorem rQ {a0 : aH} {a1 : Int} {aq : Hd} {g_0 : Nat} {S : Nat → Prop} {w : World} {r : ah × Int} (h : jk a0 a1 = some r) (aE : RV w (Old S w) (sv aq) 5 1 (D.int .u8) a0.b) (hO : bO w [.box g_0 117 [(sv aq),vi a0.p]] S) (hlt : ∀ b,S b → b < w.heap.size) : Cl 172 #[pt g_0,vi a1] w (Ret S w (fun s : Unit=>.agg #[vi r.1.Op,vi r.1.Dst,vi r.1.A,vi r.1.B,vi r.1.N]) (fun s=>[.box g_0 117 [(sv aq),vi r.2]])):=by
 unfold jk at h
 refine ar Tryz.func172 z z ?_
 have hS:=Sep.sm hO hlt
 refine .g (.c (.alloc T.t102 hS ?_))
 intro g1 W hS
 refine .nil (.seq (.g (.q z ?_)))
 have ⟨y1,hy1,h⟩:=bnd h
 have hS:=hS.p1
 refine .c (.cS (L0:=[.box g_0 117 [(sv aq),vi a0.p]]) hS Tryz.func39 (fun S h1 h2 h3=>(ak hy1 (hS.ks aE h1) h2 (zz h1))) z z ?_)
 rintro ⟨⟩ W hS
 refine .nil (.block ?_)
 have ⟨y2,hy2,h⟩:=bnd h
 refine .seq (CW.via (R':=fun x E' W'=>x = .normal ∧ aD E' [(0,pt g_0),(1,vi a1),(4,pt g1),(13,vi y1.1),(14,.bool y2)] ∧ Sep S w W' [.box g_0 117 [(sv aq),vi y1.2],.box g1 102 [vi 0,vi 0,vi 0,vi 0,vi 0]]) ?_ ?_)
 ·have h:=hy2
  refine .g (.q z (.q z (.nil ?_)))
  refine .cs z h ?_ ?_ <;> intro h
  ·refine .skip ?_
   cases h
   exact ⟨z,sb z,hS.to [0,0]⟩
  refine .region (.q z (.q z (.nil ?_)))
  cases h
  exact ⟨z,sb z,hS.to [0,0]⟩
 intro x E W hJ
 obtain ⟨rfl,hE,hS⟩:=hJ
 refine ⟨_,hE.sub,?_⟩
 refine .cond z (fun hb=>?_) (fun hb=>?_)
 ·have h:=aF hb h
  refine .g (.q z ?_)
  have ⟨y3,hy3,h⟩:=bnd h
  refine .c (.cS (L0:=[.box g_0 117 [(sv aq),vi y1.2]]) hS Tryz.func194 (fun S h1 h2 h3=>(cL hy3 (hS.ks aE h1) h2 (zz h1))) z z ?_)
  rintro ⟨⟩ W hS
  refine .q z ?_
  have ⟨y4,hy4,h⟩:=bnd h
  refine .c (.cS (L0:=[.box g_0 117 [(sv aq),vi y3.2]]) hS Tryz.func195 (fun S h1 h2 h3=>(rP hy4 (hS.ks aE h1) h2 (zz h1))) z z ?_)
  rintro ⟨⟩ W hS
  refine .c (.liv [0,1,2,y4.1] (D.int .i64) T.u23 T.t3 hS z z z z ?_ z (fun _=>z))
  intro v1 W hS
  refine .q z ?_
  have ⟨y5,hy5,h⟩:=bnd h
  have hS:=hS.p1
  refine .c (.cS (L0:=[.box g_0 117 [(sv aq),vi y4.2]]) hS Tryz.func39 (fun S h1 h2 h3=>(ak hy5 (hS.ks aE h1) h2 (zz h1))) z z ?_)
  rintro ⟨⟩ W hS
  have ⟨x1,hx1,h⟩:=bnd h
  refine .s (ixv hS.p1.lv hx1 T.u23 T.t3 z z z) z (.s (lde (RV.flat hS.p1.lv hx1 z) T.t3 z z z z z) z (.s (bs T.s102 z z) z (.c (.st T.t102 hS.p2 z z z ?_))))
  intro W hS
  cases h
  exact .nil (.ret (ab (vs:=[_]) () (rc hS T.t102 z rn z z) z (hS.to [1])))
 have h:=aG hb h
 have ⟨y6,hy6,h⟩:=bnd h
 refine .seq (CW.via (R':=fun x E' W'=>x = .normal ∧ aD E' [(0,pt g_0),(1,vi a1),(4,pt g1),(13,vi y1.1),(27,.bool y6)] ∧ Sep S w W' [.box g_0 117 [(sv aq),vi y1.2],.box g1 102 [vi 0,vi 0,vi 0,vi 0,vi 0]]) ?_ ?_)
 ·have h:=hy6
  refine .g (.q z (.q z (.nil ?_)))
  refine .cs z h ?_ ?_ <;> intro h
  ·refine .skip ?_
   cases h
   exact ⟨z,sb z,hS.to [0,0]⟩
  refine .region (.q z (.q z (.nil ?_)))
  cases h
  exact ⟨z,sb z,hS.to [0,0]⟩
 intro x E W hJ
 obtain ⟨rfl,hE,hS⟩:=hJ
 refine ⟨_,hE.sub,?_⟩
 refine .cond z (fun hb=>?_) (fun hb=>?_)
 ·have h:=aF hb h
  refine .g (.q z ?_)
  have ⟨y7,hy7,h⟩:=bnd h
  refine .c (.cS (L0:=[.box g_0 117 [(sv aq),vi y1.2]]) hS Tryz.func194 (fun S h1 h2 h3=>(cL hy7 (hS.ks aE h1) h2 (zz h1))) z z ?_)
  rintro ⟨⟩ W hS
  refine .qn z (.g (.q z (.q z ?_)))
  have ⟨y8,hy8,h⟩:=bnd h
  refine .c (.cS (L0:=[.box g_0 117 [(sv aq),vi y7.2]]) hS Tryz.func194 (fun S h1 h2 h3=>(cL hy8 (hS.ks aE h1) h2 (zz h1))) z z ?_)
  rintro ⟨⟩ W hS
  refine .s (bs T.s102 z z) z (.c (.st T.t102 hS.p1 z z z ?_))
  intro W hS
  cases h
  exact .nil (.ret (ab (vs:=[_]) () (rc hS T.t102 z rn z z) z (hS.to [1])))
 have h:=aG hb h
 have ⟨y9,hy9,h⟩:=bnd h
 refine .seq (CW.via (R':=fun x E' W'=>x = .normal ∧ aD E' [(0,pt g_0),(1,vi a1),(4,pt g1),(13,vi y1.1),(36,.bool y9)] ∧ Sep S w W' [.box g_0 117 [(sv aq),vi y1.2],.box g1 102 [vi 0,vi 0,vi 0,vi 0,vi 0]]) ?_ ?_)
 ·have h:=hy9
  refine .g (.q z (.q z (.nil ?_)))
  refine .cs z h ?_ ?_ <;> intro h
  ·refine .skip ?_
   cases h
   exact ⟨z,sb z,hS.to [0,0]⟩
  refine .g (.q z (.q z (.nil ?_)))
  refine .cs z h ?_ ?_ <;> intro h
  ·refine .skip ?_
   cases h
   exact ⟨z,sb z,hS.to [0,0]⟩
  refine .region (.q z (.q z (.nil ?_)))
  cases h
  exact ⟨z,sb z,hS.to [0,0]⟩
 intro x E W hJ
 obtain ⟨rfl,hE,hS⟩:=hJ
 refine ⟨_,hE.sub,?_⟩
 refine .cond z (fun hb=>?_) (fun hb=>?_)
 ·have h:=aF hb h
  refine .g (.q z ?_)
  have ⟨y10,hy10,h⟩:=bnd h
  refine .c (.cS (L0:=[.box g_0 117 [(sv aq),vi y1.2]]) hS Tryz.func194 (fun S h1 h2 h3=>(cL hy10 (hS.ks aE h1) h2 (zz h1))) z z ?_)
  rintro ⟨⟩ W hS
  refine .qn z (.g (.q z ?_))
  have ⟨y11,hy11,h⟩:=bnd h
  refine .c (.cS (L0:=[.box g_0 117 [(sv aq),vi y10.2]]) hS Tryz.func194 (fun S h1 h2 h3=>(cL hy11 (hS.ks aE h1) h2 (zz h1))) z z ?_)
  rintro ⟨⟩ W hS
  refine .qn z (.g (.q z ?_))
  have ⟨y12,hy12,h⟩:=bnd h
  refine .c (.cS (L0:=[.box g_0 117 [(sv aq),vi y11.2]]) hS Tryz.func194 (fun S h1 h2 h3=>(cL hy12 (hS.ks aE h1) h2 (zz h1))) z z ?_)
  rintro ⟨⟩ W hS
  refine .qn z (.g (.q z (.q z (.q z (.q z ?_)))))
  have ⟨y13,hy13,h⟩:=bnd h
  refine .c (.cS (L0:=[.box g_0 117 [(sv aq),vi y12.2]]) hS Tryz.func196 (fun S h1 h2 h3=>(pd hy13 (hS.ks aE h1) h2 (zz h1))) z z ?_)
  rintro ⟨⟩ W hS
  refine .s (bs T.s102 z z) z (.c (.st T.t102 hS.p1 z z z ?_))
  intro W hS
  cases h
  exact .nil (.ret (ab (vs:=[_]) () (rc hS T.t102 z rn z z) z (hS.to [1])))
 have h:=aG hb h
 refine .g (.q z (.qn z (.cond z (fun hb=>?_) (fun hb=>?_))))
 ·have h:=aF hb h
  refine .g (.q z (.q z ?_))
  have ⟨y14,hy14,h⟩:=bnd h
  refine .c (.cS (L0:=[.box g_0 117 [(sv aq),vi y1.2]]) hS Tryz.func39 (fun S h1 h2 h3=>(ak hy14 (hS.ks aE h1) h2 (zz h1))) z z ?_)
  rintro ⟨⟩ W hS
  refine .s (bs T.s102 z z) z (.c (.st T.t102 hS.p1 z z z ?_))
  intro W hS
  cases h
  exact .nil (.ret (ab (vs:=[_]) () (rc hS T.t102 z rn z z) z (hS.to [1])))
 have h:=aG hb h
 refine .g (.q z (.qn z (.cond z (fun hb=>?_) (fun hb=>?_))))
 ·have h:=aF hb h
  refine .g (.q z ?_)
  have ⟨y15,hy15,h⟩:=bnd h
  refine .c (.cS (L0:=[.box g_0 117 [(sv aq),vi y1.2]]) hS Tryz.func194 (fun S h1 h2 h3=>(cL hy15 (hS.ks aE h1) h2 (zz h1))) z z ?_)
  rintro ⟨⟩ W hS
  refine .qn z (.g (.q z (.q z (.q z ?_))))
  have ⟨y16,hy16,h⟩:=bnd h
  refine .c (.cS (L0:=[.box g_0 117 [(sv aq),vi y15.2]]) hS Tryz.func39 (fun S h1 h2 h3=>(ak hy16 (hS.ks aE h1) h2 (zz h1))) z z ?_)
  rintro ⟨⟩ W hS
  refine .s (bs T.s102 z z) z (.c (.st T.t102 hS.p1 z z z ?_))
  intro W hS
  cases h
  exact .nil (.ret (ab (vs:=[_]) () (rc hS T.t102 z rn z z) z (hS.to [1])))
 have h:=aG hb h
 refine .g (.q z (.qn z (.cond z (fun hb=>?_) (fun hb=>?_))))
 ·have h:=aF hb h
  refine .g (.q z ?_)
  have ⟨y17,hy17,h⟩:=bnd h
  refine .c (.cS (L0:=[.box g_0 117 [(sv aq),vi y1.2]]) hS Tryz.func194 (fun S h1 h2 h3=>(cL hy17 (hS.ks aE h1) h2 (zz h1))) z z ?_)
  rintro ⟨⟩ W hS
  refine .qn z (.g (.q z (.q z ?_)))
  have ⟨y18,hy18,h⟩:=bnd h
  refine .c (.cS (L0:=[.box g_0 117 [(sv aq),vi y17.2]]) hS Tryz.func39 (fun S h1 h2 h3=>(ak hy18 (hS.ks aE h1) h2 (zz h1))) z z ?_)
  rintro ⟨⟩ W hS
  refine .s (bs T.s102 z z) z (.c (.st T.t102 hS.p1 z z z ?_))
  intro W hS
  cases h
  exact .nil (.ret (ab (vs:=[_]) () (rc hS T.t102 z rn z z) z (hS.to [1])))
 have h:=aG hb h
 refine .g (.q z (.qn z (.cond z (fun hb=>?_) (fun hb=>?_))))
 ·have h:=aF hb h
  refine .g (.q z ?_)
  have ⟨y19,hy19,h⟩:=bnd h
  refine .c (.cS (L0:=[.box g_0 117 [(sv aq),vi y1.2]]) hS Tryz.func194 (fun S h1 h2 h3=>(cL hy19 (hS.ks aE h1) h2 (zz h1))) z z ?_)
  rintro ⟨⟩ W hS
  refine .qn z (.g (.q z (.q z ?_)))
  have ⟨y20,hy20,h⟩:=bnd h
  refine .c (.cS (L0:=[.box g_0 117 [(sv aq),vi y19.2]]) hS Tryz.func39 (fun S h1 h2 h3=>(ak hy20 (hS.ks aE h1) h2 (zz h1))) z z ?_)
  rintro ⟨⟩ W hS
  refine .s (bs T.s102 z z) z (.c (.st T.t102 hS.p1 z z z ?_))
  intro W hS
  cases h
  exact .nil (.ret (ab (vs:=[_]) () (rc hS T.t102 z rn z z) z (hS.to [1])))
 have h:=aG hb h
 refine .skip (.seq (.g (.q z ?_)))
 have ⟨y21,hy21,h⟩:=bnd h
 refine .c (.cS (L0:=[.box g_0 117 [(sv aq),vi y1.2]]) hS Tryz.func39 (fun S h1 h2 h3=>(ak hy21 (hS.ks aE h1) h2 (zz h1))) z z ?_)
 rintro ⟨⟩ W hS
 refine .qn z (.cond z (fun hb=>?_) (fun hb=>?_))
 ·have h:=aF hb h
  refine .g (.s (bs T.s102 z z) z (.c (.st T.t102 hS.p1 z z z ?_)))
  intro W hS
  cases h
  exact .nil (.ret (ab (vs:=[_]) () (rc hS T.t102 z rn z z) z (hS.to [1])))
 have h:=aG hb h
 refine .skip (.g (.q z ?_))
 have ⟨y22,hy22,h⟩:=bnd h
 refine .c (.cS (L0:=[.box g_0 117 [(sv aq),vi y21.2]]) hS Tryz.func194 (fun S h1 h2 h3=>(cL hy22 (hS.ks aE h1) h2 (zz h1))) z z ?_)
 rintro ⟨⟩ W hS
 refine .s (bs T.s102 z z) z (.c (.st T.t102 hS.p1 z z z ?_))
 intro W hS
 cases h
 exact .nil (.ret (ab (vs:=[_]) () (rc hS T.t102 z rn z z) z (hS.to [1])))
theorem mt {a0 : aH} {aq : Hd} {g_0 : Nat} {S : Nat → Prop} {w : World} {r : (List ah) × Int} (h : eV a0 = some r) (aE : RV w (Old S w) (sv aq) 5 1 (D.int .u8) a0.b) (hO : bO w [.box g_0 117 [(sv aq),vi a0.p]] S) (hlt : ∀ b,S b → b < w.heap.size) : Cl 129 #[pt g_0] w (Ret S w (fun s : Hd=>(sv s)) (fun s=>[.box g_0 117 [(sv aq),vi r.2],ae (sv s) 102 5 aK r.1])):=by
 unfold eV at h
 refine ar Tryz.func129 z z ?_
 have hS:=Sep.sm hO hlt
 refine .g (.qn z (.g (.q z ?_)))
 have ⟨y1,hy1,h⟩:=bnd h
 refine .c (.cS (L0:=[.box g_0 117 [(sv aq),vi a0.p]]) hS Tryz.func39 (fun S h1 h2 h3=>(ak hy1 (hS.ks aE h1) h2 (zz h1))) z z ?_)
 rintro ⟨⟩ W hS
 refine .q z (.qn z (.g (.c (.liv [] aK T.u78 T.t102 hS z z z z ?_ z (fun _=>z)))))
 intro v1 W hS
 refine .qn z (.seq (.g (.qn z (.block ?_))))
 have ⟨y2,hy2,h⟩:=bnd h
 refine .via (.iter (fun s1 E' W'=>∃ (v4 : Hd),aD E' [(0,pt g_0),(3,vi (w64 (1 + y1.1))),(4,(sv v4)),(5,vi s1.2.1)] ∧ Sep S w W' [.box g_0 117 [(sv aq),vi s1.2.2],ae (sv v4) 102 5 aK s1.1]) (fun y3 x E' W'=>x = .exit 0 ∧ ∃ (v5 : Hd),aD E' [(0,pt g_0),(3,vi (w64 (1 + y1.1))),(4,(sv v5))] ∧ Sep S w W' [.box g_0 117 [(sv aq),vi y3.2],ae (sv v5) 102 5 aK y3.1]) hy2 ⟨v1,sb z,hS.to [1,0]⟩ ?_) ?_
 ·intro s1 y4 E W h hI
  obtain ⟨v3,hE,hS⟩:=hI
  refine CW.sub hE ?_
  unfold jl at h
  refine .seq (.g (.q z (.q z (.q z (.qn z (.cond z (fun hb=>?_) (fun hb=>?_)))))))
  ·have h:=aF hb h
   refine .skip (.seq (.block (.region (.q z (.q z (.q z ?_))))))
   have ⟨y5,hy5,h⟩:=bnd h
   refine .c (.cS (L0:=[.box g_0 117 [(sv aq),vi s1.2.2]]) hS Tryz.func172 (fun S h1 h2 h3=>(rQ hy5 (hS.ks aE h1) h2 (zz h1))) z z ?_)
   rintro ⟨⟩ W hS
   refine .c (.liv [y5.1] aK T.u78 T.t102 hS z z z z ?_ z (fun _=>z))
   intro v6 W hS
   have ⟨r1,hr1,h⟩:=bnd h
   have hT0:=hS.p2
   refine .c (.av hr1 hT0 hT0.p1.lv (fun _=>z) T.u78 T.t102 z z z ?_)
   intro v7 W hS
   refine .qn z (.region (.q z (.q z (.q z (.nil ?_)))))
   cases h
   exact ⟨z,v7,sb z,hS.to [2,0]⟩
  have h:=aG hb h
  refine .exit ?_
  cases h
  exact ⟨by simp,z,v3,sb z,hS.to [0,0]⟩
 intro x E W hJ
 obtain ⟨rfl,v8,hE,hS⟩:=hJ
 refine ⟨_,hE.sub,?_⟩
 refine .seq (.g (.q z ?_))
 have ⟨y6,hy6,h⟩:=bnd h
 refine .c (.cS (L0:=[.box g_0 117 [(sv aq),vi y2.2]]) hS Tryz.func39 (fun S h1 h2 h3=>(ak hy6 (hS.ks aE h1) h2 (zz h1))) z z ?_)
 rintro ⟨⟩ W hS
 refine .qn z (.cond z (fun hb=>?_) (fun hb=>?_))
 ·have h:=aF hb h
  refine .g (.q z (.q z (.q z ?_)))
  have ⟨y7,hy7,h⟩:=bnd h
  refine .c (.cS (L0:=[.box g_0 117 [(sv aq),vi y6.2]]) hS Tryz.func39 (fun S h1 h2 h3=>(ak hy7 (hS.ks aE h1) h2 (zz h1))) z z ?_)
  rintro ⟨⟩ W hS
  refine .s (bs T.s102 z z) z (.c (.liv [(ah.mk 4 0 0 0 y7.1)] aK T.u78 T.t102 hS z z z z ?_ z (fun _=>z)))
  intro v9 W hS
  have ⟨r2,hr2,h⟩:=bnd h
  have hT0:=hS.p2
  refine .c (.av hr2 hT0 hT0.p1.lv (fun _=>z) T.u78 T.t102 z z z ?_)
  intro v10 W hS
  cases h
  exact .qn z (.ret (ab (vs:=[_]) v10 (rt z rn) z (hS.to [2,0])))
 have h:=aG hb h
 refine .skip (.g (.q z (.s (bs T.s102 z z) z (.c (.liv [(ah.mk 10 0 0 0 0)] aK T.u78 T.t102 hS z z z z ?_ z (fun _=>z))))))
 intro v11 W hS
 have ⟨r3,hr3,h⟩:=bnd h
 have hT0:=hS.p2
 refine .c (.av hr3 hT0 hT0.p1.lv (fun _=>z) T.u78 T.t102 z z z ?_)
 intro v12 W hS
 cases h
 exact .qn z (.ret (ab (vs:=[_]) v12 (rt z rn) z (hS.to [2,0])))
def iW (F : List au → Option (Int)) : Prop:=∀ {a0 : List au} {v_0 : Hd} {w : World} {r : Int} (h : F a0 = some r) (q_0 : RO w v_0 206 8 aA a0) , Cl 176 #[(sv v_0)] w (RU w (.int .i64 r))
theorem rR {k : Nat} {dH : List au → Option (Int)} (mR : iW dH) : iW (dI k dH):=by
 intro a0 v_0 w r h q_0
 unfold dI at h
 refine ar Tryz.func176 z z ?_
 have hS:=Sep.start w
 refine .g (.qn z (.g (.qn z (.seq (.g (.qn z (.block ?_)))))))
 have ⟨y1,hy1,h⟩:=bnd h
 refine .via (.iter (fun s1 E' W'=>aD E' [(0,(sv v_0)),(3,vi s1.1),(4,vi s1.2)] ∧ Sep No w W' []) (fun y2 x E' W'=>x = .exit 0 ∧ aD E' [(3,vi y2)] ∧ Sep No w W' []) hy1 ⟨sb z,hS.to []⟩ ?_) ?_
 ·intro s1 y3 E W h hI
  obtain ⟨hE,hS⟩:=hI
  refine CW.sub hE ?_
  unfold gF at h
  refine .seq (.g (.q z (.q z (.s (bF (hS.keep q_0) T.u162 z z) z (.q z (.nil ?_))))))
  refine .cs z h ?_ ?_ <;> intro h
  ·refine .skip (.seq (.block (.rk 17 hS [] T.mix ?_)))
   intro W hS
   have hT:=hS.to []
   refine .tp' 0 z z hT (.tp' 1 z z hT (.tp' 2 z z hT (.tp' 3 z z hT ?_)))
   have ⟨x1,hx1,h⟩:=bnd h
   obtain ⟨k1,hd,hck1⟩:=RV.el2 q_0 hx1
   have hd1:=nw (ga _) hd
   obtain ⟨k1,rfl,hd2⟩:=eP q_0 z hd1
   obtain ⟨k1,rfl,hd3⟩:=eP q_0 z hd2
   obtain ⟨k1,rfl,hd4⟩:=eP q_0 z hd3
   have hd5:=nw (eA _) hd4
   obtain ⟨k1,rfl,hd6⟩:=eP q_0 z hd5
   obtain ⟨k1,rfl,hd7⟩:=eP q_0 z hd6
   obtain ⟨v1,k1,rfl,q1,hd8⟩:=jc q_0 hd7
   obtain ⟨v2,k1,rfl,q2,hd9⟩:=jc q_0 hd8
   obtain ⟨v3,k1,rfl,q3,hd10⟩:=jc q_0 hd9
   obtain rfl:=rO q_0 hd10
   refine .ts' 4 z (fun W hT=>ixv (hS.keep q_0) hx1 T.u162 T.t206 z z z) hT z (.ts' 5 z (fun W hT=>fe T.f206_4 z z z) hT z (.ts' 6 z (fun W hT=>lde (hck1 _ hT.agree) T.t162 z z z z z) hT z (.tp' 9 z z hT (.tp' 10 z z hT ?_))))
   have ⟨x2,hx2,h⟩:=bnd h
   obtain ⟨k2,hd,hck2⟩:=RV.el2 q_0 hx2
   have hd1:=nw (ga _) hd
   obtain ⟨k2,rfl,hd2⟩:=eP q_0 z hd1
   obtain ⟨k2,rfl,hd3⟩:=eP q_0 z hd2
   obtain ⟨k2,rfl,hd4⟩:=eP q_0 z hd3
   have hd5:=nw (eA _) hd4
   obtain ⟨k2,rfl,hd6⟩:=eP q_0 z hd5
   obtain ⟨k2,rfl,hd7⟩:=eP q_0 z hd6
   obtain ⟨v4,k2,rfl,q4,hd8⟩:=jc q_0 hd7
   obtain ⟨v5,k2,rfl,q5,hd9⟩:=jc q_0 hd8
   obtain ⟨v6,k2,rfl,q6,hd10⟩:=jc q_0 hd9
   obtain rfl:=rO q_0 hd10
   refine .ts' 11 z (fun W hT=>ixv (hS.keep q_0) hx2 T.u162 T.t206 z z z) hT z (.ts' 12 z (fun W hT=>fe T.f206_5 z z z) hT z (.ts' 13 z (fun W hT=>lde (hck2 _ hT.agree) T.t162 z z z z z) hT z ?_))
   have ⟨y4,hy4,h⟩:=bnd h
   refine .by1 7 z (.cO hS Tryz.func176 (mR hy4 (hS.keep (q2 _ q_0))) z z ?_)
   intro W hS
   have hT:=hS.to []
   refine ⟨fun _=>hT,.tp' 8 z z hT ?_⟩
   have ⟨y5,hy5,h⟩:=bnd h
   refine .by1 14 z (.cO hS Tryz.func176 (mR hy5 (hS.keep (q6 _ q_0))) z z ?_)
   intro W hS
   have hT:=hS.to []
   refine ⟨fun _=>hT,.tp' 15 z z hT (.tp' 16 z z hT (.done (.region (.q z (.q z (.q z (.nil ?_)))))))⟩
   cases h
   exact ⟨z,sb z,hS.to []⟩
  refine .exit ?_
  cases h
  exact ⟨by simp,z,sb z,hS.to []⟩
 intro x E W hJ
 obtain ⟨rfl,hE,hS⟩:=hJ
 refine ⟨_,hE.sub,?_⟩
 obtain rfl:=o9 h
 exact .g (.q z (.qn z (.ret (ab (vs:=[_]) () (rt z rn) z (hS.to [])))))
theorem oe (k : Nat) : iW (du k):=by
  induction k with
  | zero=>exact by intro a0 v_0 w r h q_0; exact no h
  | succ k ih=>exact rR (k:=k) ih
theorem mS {k : Nat} : iW (du k):=(oe k)
theorem aQ {a0 : Int} {a1 : Int} {a2 : Int} {w : World} {r : Bool} (h : aJ a0 a1 a2 = some r) : Cl 32 #[vi a0,vi a1,vi a2] w (RU w (.bool r)):=by
 unfold aJ at h
 refine ar Tryz.func32 z z ?_
 have hS:=Sep.start w
 refine .g (.qn z (.g (.q z (.q z (.q z (.q z (.cu 4 14 ((decide (a0 ≥ a1)) && (decide (a0 ≤ a2))) hS ?_ ?_)))))))
 ·refine .both (decide (a0 ≥ a1)) (fun hb=>?_) (fun hb=>?_)
  ·have hg1:=hb
   exact .g hg1 (.q z (.g hg1 (.q z (.g hg1 (.q z (.s (pkt hg1 z z z) z (.nil (ck 4 hS z (bR hg1)))))))))
  exact .xx hb z (.xx hb z (.xx hb z (.s (pkf hb z z z) z (.nil (ck 4 hS z (bS hb))))))
 intro W hS
 cases h
 exact .qn z (.ret (ab (vs:=[_]) () (rt z rn) z (hS.to [])))
theorem fp {a0 : au} {a1 : Bool} {aL : Hd} {bP : Hd} {bQ : Hd} {w : World} {r : Bool} (h : eB a0 a1 = some r) (aB : RO w aL 204 3 aX a0.Expr.Args) (bD : RO w bP 206 8 aA a0.Body) (bu : RO w bQ 206 8 aA a0.Else) : Cl 234 #[.agg #[vi a0.Kind,vi a0.Var,vi a0.Box,vi a0.Expr.Op,vi a0.Expr.N,(sv aL),(sv bP),(sv bQ)],.bool a1] w (RU w (.bool r)):=by
 unfold eB at h
 refine ar Tryz.func234 z z ?_
 have hS:=Sep.start w
 refine .g (.c (.box hS z z ?_))
 intro g1 W hS
 refine .qn z (.seq (.g (.q z (.nil ?_))))
 refine .cs z h ?_ ?_ <;> intro h
 ·refine .g (.s (fa T.f206_1 z z z) z (.s (ld T.t3 hS z z z z z) z ?_))
  have ⟨y1,hy1,h⟩:=bnd h
  refine .c (.cO hS Tryz.func32 (aQ hy1) z z ?_)
  intro W hS
  obtain rfl:=o9 h
  exact .qn z (.ret (ab (vs:=[_]) () (rt z rn) z (hS.to [])))
 cases h
 exact .skip (.g (.s (fa T.f206_1 z z z) z (.s (ld T.t3 hS z z z z z) z (.q z (.qn z (.ret (ab (vs:=[_]) () (rt z rn) z (hS.to []))))))))
theorem fq {a0 : au} {a1 : Bool} {aL : Hd} {bP : Hd} {bQ : Hd} {w : World} {r : Bool} (h : eC a0 a1 = some r) (aB : RO w aL 204 3 aX a0.Expr.Args) (bD : RO w bP 206 8 aA a0.Body) (bu : RO w bQ 206 8 aA a0.Else) : Cl 235 #[.agg #[vi a0.Kind,vi a0.Var,vi a0.Box,vi a0.Expr.Op,vi a0.Expr.N,(sv aL),(sv bP),(sv bQ)],.bool a1] w (RU w (.bool r)):=by
 unfold eC at h
 refine ar Tryz.func235 z z ?_
 have hS:=Sep.start w
 refine .g (.c (.box hS z z ?_))
 intro g1 W hS
 refine .qn z (.seq (.g (.q z (.nil ?_))))
 refine .cs z h ?_ ?_ <;> intro h
 ·refine .g (.s (fa T.f206_2 z z z) z (.s (ld T.t3 hS z z z z z) z ?_))
  have ⟨y1,hy1,h⟩:=bnd h
  refine .c (.cO hS Tryz.func32 (aQ hy1) z z ?_)
  intro W hS
  obtain rfl:=o9 h
  exact .qn z (.ret (ab (vs:=[_]) () (rt z rn) z (hS.to [])))
 cases h
 exact .skip (.g (.s (fa T.f206_2 z z z) z (.s (ld T.t3 hS z z z z z) z (.q z (.qn z (.ret (ab (vs:=[_]) () (rt z rn) z (hS.to []))))))))
theorem lj {a0 : Int} {w : World} {r : Bool} (h : eD a0 = some r) : Cl 208 #[vi a0] w (RU w (.bool r)):=by
 unfold eD at h
 refine ar Tryz.func208 z z ?_
 have hS:=Sep.start w
 refine .g (.qn z (.g (.q z ?_)))
 have ⟨y1,hy1,h⟩:=bnd h
 refine .c (.cO hS Tryz.func32 (aQ hy1) z z ?_)
 intro W hS
 obtain rfl:=o9 h
 exact .qn z (.ret (ab (vs:=[_]) () (rt z rn) z (hS.to [])))
def mu (F : Expr → Int → Option (Bool)) : Prop:=∀ {a0 : Expr} {a1 : Int} {ef : Hd} {w : World} {r : Bool} (h : F a0 a1 = some r) (ba : RO w ef 204 3 aX a0.Args) , Cl 249 #[.agg #[vi a0.Op,vi a0.N,(sv ef)],vi a1] w (RU w (.bool r))
theorem wv {k : Nat} {kR : Expr → Int → Option (Bool)} (qd : mu kR) : mu (kQ k kR):=by
 intro a0 a1 ef w r h ba
 unfold kQ at h
 refine ar Tryz.func249 z z ?_
 have hS:=Sep.start w
 refine .g (.c (.box hS z z ?_))
 intro g1 W hS
 refine .qn z (.seq (.g (.q z (.q z (.nil ?_)))))
 refine .cs z h ?_ ?_ <;> intro h
 ·obtain rfl:=o9 h
  exact .g (.qn z (.ret (ab (vs:=[_]) () (rt z rn) z (hS.to []))))
 refine .skip (.seq (.g (.s (fa T.f204_0 z z z) z (.s (ld T.t3 hS z z z z z) z (.q z (.nil ?_))))))
 refine .cs z h ?_ ?_ <;> intro h
 ·refine .g (.s (fa T.f204_1 z z z) z (.s (ld T.t3 hS z z z z z) z ?_))
  have ⟨y1,hy1,h⟩:=bnd h
  refine .c (.cO hS Tryz.func32 (aQ hy1) z z ?_)
  intro W hS
  refine .q z (.cu 5 18 (y1 && ((a0.Args.length : Int) == 0)) hS ?_ ?_)
  ·refine .both (y1) (fun hb=>?_) (fun hb=>?_)
   ·have hg1:=hb
    exact .g hg1 (.s (fa T.f204_2 z z z) z (.g hg1 (.s (ld T.t202 hS z z z z z) z (.g hg1 (.s (bF (hS.keep ba) T.u202 z z) z (.g hg1 (.q z (.s (pkt hg1 z z z) z (.nil (ck 5 hS z (bR hg1)))))))))))
   exact .xx hb z (.xx hb z (.xx hb z (.xx hb z (.s (pkf hb z z z) z (.nil (ck 5 hS z (bS hb)))))))
  intro W hS
  cases h
  exact .qn z (.ret (ab (vs:=[_]) () (rt z rn) z (hS.to [])))
 refine .skip (.seq (.g (.s (fa T.f204_0 z z z) z (.s (ld T.t3 hS z z z z z) z (.q z (.nil ?_))))))
 refine .cs z h ?_ ?_ <;> intro h
 ·refine .g (.s (fa T.f204_1 z z z) z (.s (ld T.t3 hS z z z z z) z ?_))
  have ⟨y2,hy2,h⟩:=bnd h
  refine .c (.cO hS Tryz.func32 (aQ hy2) z z ?_)
  intro W hS
  refine .q z (.cu 5 30 (y2 && ((a0.Args.length : Int) == 0)) hS ?_ ?_)
  ·refine .both (y2) (fun hb=>?_) (fun hb=>?_)
   ·have hg2:=hb
    exact .g hg2 (.s (fa T.f204_2 z z z) z (.g hg2 (.s (ld T.t202 hS z z z z z) z (.g hg2 (.s (bF (hS.keep ba) T.u202 z z) z (.g hg2 (.q z (.s (pkt hg2 z z z) z (.nil (ck 5 hS z (bR hg2)))))))))))
   exact .xx hb z (.xx hb z (.xx hb z (.xx hb z (.s (pkf hb z z z) z (.nil (ck 5 hS z (bS hb)))))))
  intro W hS
  cases h
  exact .qn z (.ret (ab (vs:=[_]) () (rt z rn) z (hS.to [])))
 refine .skip (.g (.s (fa T.f204_0 z z z) z (.s (ld T.t3 hS z z z z z) z ?_)))
 have ⟨y3,hy3,h⟩:=bnd h
 refine .c (.cO hS Tryz.func208 (lj hy3) z z ?_)
 intro W hS
 refine .q z (.cu 4 38 (y3 && (a0.N == 0)) hS ?_ ?_)
 ·refine .both (y3) (fun hb=>?_) (fun hb=>?_)
  ·have hg3:=hb
   exact .g hg3 (.s (fa T.f204_1 z z z) z (.g hg3 (.s (ld T.t3 hS z z z z z) z (.g hg3 (.q z (.s (pkt hg3 z z z) z (.nil (ck 4 hS z (bR hg3)))))))))
  exact .xx hb z (.xx hb z (.xx hb z (.s (pkf hb z z z) z (.nil (ck 4 hS z (bS hb))))))
 intro W hS
 refine .q z (.cu 5 44 ((y3 && (a0.N == 0)) && ((a0.Args.length : Int) == 2)) hS ?_ ?_)
 ·refine .both (y3 && (a0.N == 0)) (fun hb=>?_) (fun hb=>?_)
  ·have hg4:=hb
   exact .g hg4 (.s (fa T.f204_2 z z z) z (.g hg4 (.s (ld T.t202 hS z z z z z) z (.g hg4 (.s (bF (hS.keep ba) T.u202 z z) z (.g hg4 (.q z (.s (pkt hg4 z z z) z (.nil (ck 5 hS z (bR hg4)))))))))))
  exact .xx hb z (.xx hb z (.xx hb z (.xx hb z (.s (pkf hb z z z) z (.nil (ck 5 hS z (bS hb)))))))
 intro W hS
 refine .q z ?_
 have ⟨b1,hb1,h⟩:=bnd h
 refine .cu 8 53 (b1) hS ?_ ?_
 ·refine .both ((y3 && (a0.N == 0)) && ((a0.Args.length : Int) == 2)) (fun hb=>?_) (fun hb=>?_)
  ·have hg5:=hb
   have h:=aF hb hb1
   refine .g hg5 (.s (fa T.f204_2 z z z) z (.g hg5 (.s (ld T.t202 hS z z z z z) z ?_)))
   have ⟨x1,hx1,h⟩:=bnd h
   obtain ⟨k1,hd,hck1⟩:=RV.el2 ba hx1
   have hd1:=nw (eA _) hd
   obtain ⟨k1,rfl,hd2⟩:=eP ba z hd1
   obtain ⟨k1,rfl,hd3⟩:=eP ba z hd2
   obtain ⟨v1,k1,rfl,q1,hd4⟩:=jc ba hd3
   obtain rfl:=rO ba hd4
   refine .g hg5 (.s (ixv (hS.keep ba) hx1 T.u202 T.t204 z z z) z (.g hg5 (.s (lde (hck1 _ hS.agree) T.t204 z z z z z) z (.g hg5 (.q z (.g hg5 (.q z ?_)))))))
   have ⟨y4,hy4,h⟩:=bnd h
   refine .g hg5 (.c (.cO hS Tryz.func249 (qd hy4 (hS.keep (q1 _ ba))) z z ?_))
   intro W hS
   refine .s (pkt hg5 z z z) z ?_
   cases h
   exact .nil (ck 8 hS)
  refine .xx hb z (.xx hb z (.xx hb z (.xx hb z (.xx hb z (.xx hb z (.xx hb z ?_))))))
  cases aG hb hb1
  exact .s (pkf hb z z z) z (.nil (ck 8 hS))
 intro W hS
 refine .q z ?_
 have ⟨b2,hb2,h⟩:=bnd h
 refine .cu 8 62 (b2) hS ?_ ?_
 ·refine .both (b1) (fun hb=>?_) (fun hb=>?_)
  ·have hg6:=hb
   have h:=aF hb hb2
   refine .g hg6 (.s (fa T.f204_2 z z z) z (.g hg6 (.s (ld T.t202 hS z z z z z) z ?_)))
   have ⟨x2,hx2,h⟩:=bnd h
   obtain ⟨k2,hd,hck2⟩:=RV.el2 ba hx2
   have hd1:=nw (eA _) hd
   obtain ⟨k2,rfl,hd2⟩:=eP ba z hd1
   obtain ⟨k2,rfl,hd3⟩:=eP ba z hd2
   obtain ⟨v2,k2,rfl,q2,hd4⟩:=jc ba hd3
   obtain rfl:=rO ba hd4
   refine .g hg6 (.s (ixv (hS.keep ba) hx2 T.u202 T.t204 z z z) z (.g hg6 (.s (lde (hck2 _ hS.agree) T.t204 z z z z z) z (.g hg6 (.q z (.g hg6 (.q z ?_)))))))
   have ⟨y5,hy5,h⟩:=bnd h
   refine .g hg6 (.c (.cO hS Tryz.func249 (qd hy5 (hS.keep (q2 _ ba))) z z ?_))
   intro W hS
   refine .s (pkt hg6 z z z) z ?_
   cases h
   exact .nil (ck 8 hS)
  refine .xx hb z (.xx hb z (.xx hb z (.xx hb z (.xx hb z (.xx hb z (.xx hb z ?_))))))
  cases aG hb hb2
  exact .s (pkf hb z z z) z (.nil (ck 8 hS))
 intro W hS
 obtain rfl:=o9 h
 exact .qn z (.ret (ab (vs:=[_]) () (rt z rn) z (hS.to [])))
theorem qI (k : Nat) : mu (mE k):=by
  induction k with
  | zero=>exact by intro a0 a1 ef w r h ba; exact no h
  | succ k ih=>exact wv (k:=k) ih
theorem vk {k : Nat} : mu (mE k):=(qI k)
theorem f0 {k : Nat} {a0 : Expr} {ef : Hd} {w : World} {r : Bool} (h : c6 k a0 = some r) (ba : RO w ef 204 3 aX a0.Args) : Cl 236 #[.agg #[vi a0.Op,vi a0.N,(sv ef)]] w (RU w (.bool r)):=by
 unfold c6 at h
 refine ar Tryz.func236 z z ?_
 have hS:=Sep.start w
 refine .g (.c (.box hS z z ?_))
 intro g1 W hS
 refine .qn z (.g (.s (ld T.t204 hS z z z z z) z ?_))
 have ⟨y1,hy1,h⟩:=bnd h
 refine .c (.cO hS Tryz.func249 (vk hy1 (hS.keep ba)) z z ?_)
 intro W hS
 obtain rfl:=o9 h
 exact .qn z (.ret (ab (vs:=[_]) () (rt z rn) z (hS.to [])))
theorem mT {a0 : Expr} {ef : Hd} {w : World} {r : Bool} (h : fQ a0 = some r) (ba : RO w ef 204 3 aX a0.Args) : Cl 248 #[.agg #[vi a0.Op,vi a0.N,(sv ef)]] w (RU w (.bool r)):=by
 unfold fQ at h
 refine ar Tryz.func248 z z ?_
 have hS:=Sep.start w
 refine .g (.c (.box hS z z ?_))
 intro g1 W hS
 refine .qn z (.g (.s (fa T.f204_0 z z z) z (.s (ld T.t3 hS z z z z z) z (.q z (.q z (.cu 4 10 ((a0.Op == 0) && (a0.N == 0)) hS ?_ ?_))))))
 ·refine .both (a0.Op == 0) (fun hb=>?_) (fun hb=>?_)
  ·have hg1:=hb
   exact .g hg1 (.s (fa T.f204_1 z z z) z (.g hg1 (.s (ld T.t3 hS z z z z z) z (.g hg1 (.q z (.s (pkt hg1 z z z) z (.nil (ck 4 hS z (bR hg1)))))))))
  exact .xx hb z (.xx hb z (.xx hb z (.s (pkf hb z z z) z (.nil (ck 4 hS z (bS hb))))))
 intro W hS
 refine .q z (.cu 5 16 (((a0.Op == 0) && (a0.N == 0)) && ((a0.Args.length : Int) == 0)) hS ?_ ?_)
 ·refine .both ((a0.Op == 0) && (a0.N == 0)) (fun hb=>?_) (fun hb=>?_)
  ·have hg2:=hb
   exact .g hg2 (.s (fa T.f204_2 z z z) z (.g hg2 (.s (ld T.t202 hS z z z z z) z (.g hg2 (.s (bF (hS.keep ba) T.u202 z z) z (.g hg2 (.q z (.s (pkt hg2 z z z) z (.nil (ck 5 hS z (bR hg2)))))))))))
  exact .xx hb z (.xx hb z (.xx hb z (.xx hb z (.s (pkf hb z z z) z (.nil (ck 5 hS z (bS hb)))))))
 intro W hS
 cases h
 exact .qn z (.ret (ab (vs:=[_]) () (rt z rn) z (hS.to [])))
theorem qe {k : Nat} {a0 : au} {aL : Hd} {bP : Hd} {bQ : Hd} {w : World} {r : Bool} (h : eW k a0 = some r) (aB : RO w aL 204 3 aX a0.Expr.Args) (bD : RO w bP 206 8 aA a0.Body) (bu : RO w bQ 206 8 aA a0.Else) : Cl 233 #[.agg #[vi a0.Kind,vi a0.Var,vi a0.Box,vi a0.Expr.Op,vi a0.Expr.N,(sv aL),(sv bP),(sv bQ)]] w (RU w (.bool r)):=by
 unfold eW at h
 refine ar Tryz.func233 z z ?_
 have hS:=Sep.start w
 refine .g (.c (.box hS z z ?_))
 intro g1 W hS
 refine .qn z (.seq (.g (.s (fa T.f206_4 z z z) z (.s (ld T.t162 hS z z z z z) z (.s (bF (hS.keep bD) T.u162 z z) z (.q z (.q z (.cu 5 12 ((decide ((a0.Body.length : Int) > 0)) || (decide ((a0.Else.length : Int) > 0))) hS ?_ ?_))))))))
 ·refine .both (decide ((a0.Body.length : Int) > 0)) (fun hb=>?_) (fun hb=>?_)
  ·exact .xx hb z (.xx hb z (.xx hb z (.xx hb z (.s (pkt hb z z z) z (.nil (ck 5 hS z (kL hb)))))))
  have hg1:=hb
  exact .g hg1 (.s (fa T.f206_5 z z z) z (.g hg1 (.s (ld T.t162 hS z z z z z) z (.g hg1 (.s (bF (hS.keep bu) T.u162 z z) z (.g hg1 (.q z (.s (pkf hg1 z z z) z (.nil (ck 5 hS z (kM hg1)))))))))))
 intro W hS
 refine .nil ?_
 refine .cs z h ?_ ?_ <;> intro h
 ·obtain rfl:=o9 h
  exact .g (.qn z (.ret (ab (vs:=[_]) () (rt z rn) z (hS.to []))))
 refine .skip (.seq (.g (.s (fa T.f206_0 z z z) z (.s (ld T.t3 hS z z z z z) z (.nil (.block (.g (.q z (.q z (.nil ?_))))))))))
 refine .cs z h ?_ ?_ <;> intro h
 ·refine .g (.s (ld T.t206 hS z z z z z) z ?_)
  have ⟨y1,hy1,h⟩:=bnd h
  refine .c (.cO hS Tryz.func234 (fp hy1 (hS.keep aB) (hS.keep bD) (hS.keep bu)) z z ?_)
  intro W hS
  refine .q z ?_
  have ⟨b1,hb1,h⟩:=bnd h
  refine .cu 3 22 (b1) hS ?_ ?_
  ·refine .both (y1) (fun hb=>?_) (fun hb=>?_)
   ·have hg2:=hb
    have h:=aF hb hb1
    refine .g hg2 (.s (ld T.t206 hS z z z z z) z ?_)
    have ⟨y2,hy2,h⟩:=bnd h
    refine .g hg2 (.c (.cO hS Tryz.func235 (fq hy2 (hS.keep aB) (hS.keep bD) (hS.keep bu)) z z ?_))
    intro W hS
    refine .s (pkt hg2 z z z) z ?_
    cases h
    exact .nil (ck 3 hS)
   refine .xx hb z (.xx hb z ?_)
   cases aG hb hb1
   exact .s (pkf hb z z z) z (.nil (ck 3 hS))
  intro W hS
  refine .q z ?_
  have ⟨b2,hb2,h⟩:=bnd h
  refine .cu 4 27 (b2) hS ?_ ?_
  ·refine .both (b1) (fun hb=>?_) (fun hb=>?_)
   ·have hg3:=hb
    have h:=aF hb hb2
    refine .g hg3 (.s (fa T.f206_3 z z z) z (.g hg3 (.s (ld T.t204 hS z z z z z) z ?_)))
    have ⟨y3,hy3,h⟩:=bnd h
    refine .g hg3 (.c (.cO hS Tryz.func236 (f0 hy3 (hS.keep aB)) z z ?_))
    intro W hS
    refine .s (pkt hg3 z z z) z ?_
    cases h
    exact .nil (ck 4 hS)
   refine .xx hb z (.xx hb z (.xx hb z ?_))
   cases aG hb hb2
   exact .s (pkf hb z z z) z (.nil (ck 4 hS))
  intro W hS
  obtain rfl:=o9 h
  exact .qn z (.ret (ab (vs:=[_]) () (rt z rn) z (hS.to [])))
 refine .g (.q z (.q z (.nil ?_)))
 refine .cs z h ?_ ?_ <;> intro h
 ·refine .g (.s (ld T.t206 hS z z z z z) z ?_)
  have ⟨y4,hy4,h⟩:=bnd h
  refine .c (.cO hS Tryz.func234 (fp hy4 (hS.keep aB) (hS.keep bD) (hS.keep bu)) z z ?_)
  intro W hS
  refine .q z ?_
  have ⟨b3,hb3,h⟩:=bnd h
  refine .cu 3 35 (b3) hS ?_ ?_
  ·refine .both (y4) (fun hb=>?_) (fun hb=>?_)
   ·have hg4:=hb
    have h:=aF hb hb3
    refine .g hg4 (.s (ld T.t206 hS z z z z z) z ?_)
    have ⟨y5,hy5,h⟩:=bnd h
    refine .g hg4 (.c (.cO hS Tryz.func235 (fq hy5 (hS.keep aB) (hS.keep bD) (hS.keep bu)) z z ?_))
    intro W hS
    refine .s (pkt hg4 z z z) z ?_
    cases h
    exact .nil (ck 3 hS)
   refine .xx hb z (.xx hb z ?_)
   cases aG hb hb3
   exact .s (pkf hb z z z) z (.nil (ck 3 hS))
  intro W hS
  refine .q z ?_
  have ⟨b4,hb4,h⟩:=bnd h
  refine .cu 4 40 (b4) hS ?_ ?_
  ·refine .both (b3) (fun hb=>?_) (fun hb=>?_)
   ·have hg5:=hb
    have h:=aF hb hb4
    refine .g hg5 (.s (fa T.f206_3 z z z) z (.g hg5 (.s (ld T.t204 hS z z z z z) z ?_)))
    have ⟨y6,hy6,h⟩:=bnd h
    refine .g hg5 (.c (.cO hS Tryz.func236 (f0 hy6 (hS.keep aB)) z z ?_))
    intro W hS
    refine .s (pkt hg5 z z z) z ?_
    cases h
    exact .nil (ck 4 hS)
   refine .xx hb z (.xx hb z (.xx hb z ?_))
   cases aG hb hb4
   exact .s (pkf hb z z z) z (.nil (ck 4 hS))
  intro W hS
  obtain rfl:=o9 h
  exact .qn z (.ret (ab (vs:=[_]) () (rt z rn) z (hS.to [])))
 refine .g (.q z (.q z (.nil ?_)))
 refine .cs z h ?_ ?_ <;> intro h
 ·refine .g (.s (ld T.t206 hS z z z z z) z ?_)
  have ⟨y7,hy7,h⟩:=bnd h
  refine .c (.cO hS Tryz.func234 (fp hy7 (hS.keep aB) (hS.keep bD) (hS.keep bu)) z z ?_)
  intro W hS
  refine .q z ?_
  have ⟨b5,hb5,h⟩:=bnd h
  refine .cu 3 48 (b5) hS ?_ ?_
  ·refine .both (y7) (fun hb=>?_) (fun hb=>?_)
   ·have hg6:=hb
    have h:=aF hb hb5
    refine .g hg6 (.s (ld T.t206 hS z z z z z) z ?_)
    have ⟨y8,hy8,h⟩:=bnd h
    refine .g hg6 (.c (.cO hS Tryz.func235 (fq hy8 (hS.keep aB) (hS.keep bD) (hS.keep bu)) z z ?_))
    intro W hS
    refine .s (pkt hg6 z z z) z ?_
    cases h
    exact .nil (ck 3 hS)
   refine .xx hb z (.xx hb z ?_)
   cases aG hb hb5
   exact .s (pkf hb z z z) z (.nil (ck 3 hS))
  intro W hS
  refine .q z ?_
  have ⟨b6,hb6,h⟩:=bnd h
  refine .cu 4 53 (b6) hS ?_ ?_
  ·refine .both (b5) (fun hb=>?_) (fun hb=>?_)
   ·have hg7:=hb
    have h:=aF hb hb6
    refine .g hg7 (.s (fa T.f206_3 z z z) z (.g hg7 (.s (ld T.t204 hS z z z z z) z ?_)))
    have ⟨y9,hy9,h⟩:=bnd h
    refine .g hg7 (.c (.cO hS Tryz.func248 (mT hy9 (hS.keep aB)) z z ?_))
    intro W hS
    refine .s (pkt hg7 z z z) z ?_
    cases h
    exact .nil (ck 4 hS)
   refine .xx hb z (.xx hb z (.xx hb z ?_))
   cases aG hb hb6
   exact .s (pkf hb z z z) z (.nil (ck 4 hS))
  intro W hS
  obtain rfl:=o9 h
  exact .qn z (.ret (ab (vs:=[_]) () (rt z rn) z (hS.to [])))
 refine .g (.q z (.q z (.nil ?_)))
 refine .cs z h ?_ ?_ <;> intro h
 ·refine .g (.s (ld T.t206 hS z z z z z) z ?_)
  have ⟨y10,hy10,h⟩:=bnd h
  refine .c (.cO hS Tryz.func234 (fp hy10 (hS.keep aB) (hS.keep bD) (hS.keep bu)) z z ?_)
  intro W hS
  refine .q z ?_
  have ⟨b7,hb7,h⟩:=bnd h
  refine .cu 3 61 (b7) hS ?_ ?_
  ·refine .both (y10) (fun hb=>?_) (fun hb=>?_)
   ·have hg8:=hb
    have h:=aF hb hb7
    refine .g hg8 (.s (ld T.t206 hS z z z z z) z ?_)
    have ⟨y11,hy11,h⟩:=bnd h
    refine .g hg8 (.c (.cO hS Tryz.func235 (fq hy11 (hS.keep aB) (hS.keep bD) (hS.keep bu)) z z ?_))
    intro W hS
    refine .s (pkt hg8 z z z) z ?_
    cases h
    exact .nil (ck 3 hS)
   refine .xx hb z (.xx hb z ?_)
   cases aG hb hb7
   exact .s (pkf hb z z z) z (.nil (ck 3 hS))
  intro W hS
  refine .q z ?_
  have ⟨b8,hb8,h⟩:=bnd h
  refine .cu 4 66 (b8) hS ?_ ?_
  ·refine .both (b7) (fun hb=>?_) (fun hb=>?_)
   ·have hg9:=hb
    have h:=aF hb hb8
    refine .g hg9 (.s (fa T.f206_3 z z z) z (.g hg9 (.s (ld T.t204 hS z z z z z) z ?_)))
    have ⟨y12,hy12,h⟩:=bnd h
    refine .g hg9 (.c (.cO hS Tryz.func248 (mT hy12 (hS.keep aB)) z z ?_))
    intro W hS
    refine .s (pkt hg9 z z z) z ?_
    cases h
    exact .nil (ck 4 hS)
   refine .xx hb z (.xx hb z (.xx hb z ?_))
   cases aG hb hb8
   exact .s (pkf hb z z z) z (.nil (ck 4 hS))
  intro W hS
  obtain rfl:=o9 h
  exact .qn z (.ret (ab (vs:=[_]) () (rt z rn) z (hS.to [])))
 refine .g (.q z (.q z (.nil ?_)))
 refine .cs z h ?_ ?_ <;> intro h
 ·refine .g (.s (ld T.t206 hS z z z z z) z ?_)
  have ⟨y13,hy13,h⟩:=bnd h
  refine .c (.cO hS Tryz.func234 (fp hy13 (hS.keep aB) (hS.keep bD) (hS.keep bu)) z z ?_)
  intro W hS
  refine .q z ?_
  have ⟨b9,hb9,h⟩:=bnd h
  refine .cu 3 74 (b9) hS ?_ ?_
  ·refine .both (y13) (fun hb=>?_) (fun hb=>?_)
   ·have hg10:=hb
    have h:=aF hb hb9
    refine .g hg10 (.s (ld T.t206 hS z z z z z) z ?_)
    have ⟨y14,hy14,h⟩:=bnd h
    refine .g hg10 (.c (.cO hS Tryz.func235 (fq hy14 (hS.keep aB) (hS.keep bD) (hS.keep bu)) z z ?_))
    intro W hS
    refine .s (pkt hg10 z z z) z ?_
    cases h
    exact .nil (ck 3 hS)
   refine .xx hb z (.xx hb z ?_)
   cases aG hb hb9
   exact .s (pkf hb z z z) z (.nil (ck 3 hS))
  intro W hS
  refine .q z ?_
  have ⟨b10,hb10,h⟩:=bnd h
  refine .cu 4 79 (b10) hS ?_ ?_
  ·refine .both (b9) (fun hb=>?_) (fun hb=>?_)
   ·have hg11:=hb
    have h:=aF hb hb10
    refine .g hg11 (.s (fa T.f206_3 z z z) z (.g hg11 (.s (ld T.t204 hS z z z z z) z ?_)))
    have ⟨y15,hy15,h⟩:=bnd h
    refine .g hg11 (.c (.cO hS Tryz.func236 (f0 hy15 (hS.keep aB)) z z ?_))
    intro W hS
    refine .s (pkt hg11 z z z) z ?_
    cases h
    exact .nil (ck 4 hS)
   refine .xx hb z (.xx hb z (.xx hb z ?_))
   cases aG hb hb10
   exact .s (pkf hb z z z) z (.nil (ck 4 hS))
  intro W hS
  obtain rfl:=o9 h
  exact .qn z (.ret (ab (vs:=[_]) () (rt z rn) z (hS.to [])))
 obtain rfl:=o9 h
 exact .skip (.g (.qn z (.ret (ab (vs:=[_]) () (rt z rn) z (hS.to [])))))
def fr (F : List au → Int → Option (Bool)) : Prop:=∀ {a0 : List au} {a1 : Int} {v_0 : Hd} {w : World} {r : Bool} (h : F a0 a1 = some r) (q_0 : RO w v_0 206 8 aA a0) , Cl 197 #[(sv v_0),vi a1] w (RU w (.bool r))
def lz (F : au → Int → Option (Bool)) : Prop:=∀ {a0 : au} {a1 : Int} {aL : Hd} {bP : Hd} {bQ : Hd} {w : World} {r : Bool} (h : F a0 a1 = some r) (aB : RO w aL 204 3 aX a0.Expr.Args) (bD : RO w bP 206 8 aA a0.Body) (bu : RO w bQ 206 8 aA a0.Else) , Cl 212 #[.agg #[vi a0.Kind,vi a0.Var,vi a0.Box,vi a0.Expr.Op,vi a0.Expr.N,(sv aL),(sv bP),(sv bQ)],vi a1] w (RU w (.bool r))
def qJ (w : World) (r : Bool) : Env → World → Prop:=Fin Tryz.prog Tryz.f197 No w (fun s : Unit=>.bool r) (fun s=>[]) .ret
theorem qK {k : Nat} {cz : List au → Int → Option (Bool)} {dv : au → Int → Option (Bool)} (jQ : fr cz) (pe : lz dv) : fr (eX k cz dv):=by
 intro a0 a1 v_0 w r h q_0
 unfold eX at h
 refine ar Tryz.func197 z z ?_
 have hS:=Sep.start w
 refine .g (.qn z (.seq (.g (.qn z (.block ?_)))))
 have ⟨y1,hy1,h⟩:=bnd h
 refine .via (.iter (fun s1 E' W'=>aD E' [(0,(sv v_0)),(1,vi a1),(5,vi s1)] ∧ Sep No w W' []) (fun y2 x E' W'=>(match y2 with | .inl o1=>x = .ret ∧ qJ w o1 E' W' | .inr o2=>x = .exit 0 ∧ aD E' [] ∧ Sep No w W' [])) hy1 ⟨sb rfl,hS.to [] rfl⟩ ?_) ?_
 ·intro s1 y3 E W h hI
  obtain ⟨hE,hS⟩:=hI
  refine CW.sub hE ?_
  unfold jm at h
  refine .seq (.g (.q z (.q z (.s (bF (hS.keep q_0) T.u162 z z) z (.q z (.nil ?_))))))
  refine .cs z h ?_ ?_ <;> intro h
  ·refine .skip (.seq (.block (.g (.q z (.q z ?_)))))
   have ⟨x1,hx1,h⟩:=bnd h
   obtain ⟨k1,hd,hck1⟩:=RV.el2 q_0 hx1
   have hd1:=nw (ga _) hd
   obtain ⟨k1,rfl,hd2⟩:=eP q_0 z hd1
   obtain ⟨k1,rfl,hd3⟩:=eP q_0 z hd2
   obtain ⟨k1,rfl,hd4⟩:=eP q_0 z hd3
   have hd5:=nw (eA _) hd4
   obtain ⟨k1,rfl,hd6⟩:=eP q_0 z hd5
   obtain ⟨k1,rfl,hd7⟩:=eP q_0 z hd6
   obtain ⟨v1,k1,rfl,q1,hd8⟩:=jc q_0 hd7
   obtain ⟨v2,k1,rfl,q2,hd9⟩:=jc q_0 hd8
   obtain ⟨v3,k1,rfl,q3,hd10⟩:=jc q_0 hd9
   obtain rfl:=rO q_0 hd10
   refine .s (ixv (hS.keep q_0) hx1 T.u162 T.t206 z z z) z (.s (lde (hck1 _ hS.agree) T.t206 z z z z z) z (.q z ?_))
   have ⟨y4,hy4,h⟩:=bnd h
   refine .c (.cO hS Tryz.func212 (pe hy4 (hS.keep (q1 _ q_0)) (hS.keep (q2 _ q_0)) (hS.keep (q3 _ q_0))) z z ?_)
   intro W hS
   refine .q z (.nil ?_)
   refine .cs z h ?_ ?_ <;> intro h
   ·refine .g (.qn z (.ret ?_))
    cases h
    exact ⟨by simp,z,ab (vs:=[_]) () (rt z rn) z (hS.to [])⟩
   refine .skip (.region (.q z (.q z (.q z (.nil ?_)))))
   cases h
   exact ⟨z,sb z,hS.to []⟩
  refine .exit ?_
  cases h
  exact ⟨by simp,z,sb z,hS.to []⟩
 intro x E W hJ
 rcases y1 with o3 | o4
 ·obtain ⟨rfl,hF⟩:=hJ
  refine ⟨_,fun _ _ h=>h,?_⟩
  cases h
  exact hF
 obtain ⟨rfl,hE,hS⟩:=hJ
 refine ⟨_,hE.sub,?_⟩
 obtain rfl:=o9 h
 exact .g (.qn z (.ret (ab (vs:=[_]) () (rt z rn) z (hS.to []))))
theorem vl {k : Nat} {cz : List au → Int → Option (Bool)} {dv : au → Int → Option (Bool)} (jQ : fr cz) (pe : lz dv) : lz (jn k cz dv):=by
 intro a0 a1 aL bP bQ w r h aB bD bu
 unfold jn at h
 refine ar Tryz.func212 z z ?_
 have hS:=Sep.start w
 refine .g (.c (.box hS z z ?_))
 intro g1 W hS
 refine .qn z (.seq (.g (.s (fa T.f206_0 z z z) z (.s (ld T.t3 hS z z z z z) z (.q z (.q z (.cu 4 12 ((a0.Kind != 2) && (a0.Kind != 3)) hS ?_ ?_)))))))
 ·refine .both (a0.Kind != 2) (fun hb=>?_) (fun hb=>?_)
  ·have hg1:=hb
   exact .g hg1 (.s (fa T.f206_0 z z z) z (.g hg1 (.s (ld T.t3 hS z z z z z) z (.g hg1 (.q z (.s (pkt hg1 z z z) z (.nil (ck 4 hS z (bR hg1)))))))))
  exact .xx hb z (.xx hb z (.xx hb z (.s (pkf hb z z z) z (.nil (ck 4 hS z (bS hb))))))
 intro W hS
 refine .nil ?_
 refine .cs z h ?_ ?_ <;> intro h
 ·refine .g (.s (ld T.t206 hS z z z z z) z ?_)
  have ⟨y1,hy1,h⟩:=bnd h
  refine .c (.cO hS Tryz.func233 (qe hy1 (hS.keep aB) (hS.keep bD) (hS.keep bu)) z z ?_)
  intro W hS
  obtain rfl:=o9 h
  exact .qn z (.ret (ab (vs:=[_]) () (rt z rn) z (hS.to [])))
 refine .skip (.seq (.g (.q z (.q z (.q z (.cu 10 27 ((decide (a1 < 1)) || ((a0.Kind == 3) && (decide ((a0.Else.length : Int) > 0)))) hS ?_ ?_))))))
 ·refine .both (decide (a1 < 1)) (fun hb=>?_) (fun hb=>?_)
  ·exact .xx hb z (.xx hb z (.xx hb z (.xx hb z (.xu (.xu (.xu (.xu (.xx hb z (.s (pkt hb z z z) z (.nil (ck 10 hS z (kL hb))))))))))))
  have hg2:=hb
  refine .g hg2 (.s (fa T.f206_0 z z z) z (.g hg2 (.s (ld T.t3 hS z z z z z) z (.g hg2 (.q z (.g hg2 (.q z (.cu 5 26 ((a0.Kind == 3) && (decide ((a0.Else.length : Int) > 0))) hS ?_ ?_))))))))
  ·refine .both (a0.Kind == 3) (fun hb=>?_) (fun hb=>?_)
   ·have hg3:=hb
    exact .g hg3 (.s (fa T.f206_5 z z z) z (.g hg3 (.s (ld T.t162 hS z z z z z) z (.g hg3 (.s (bF (hS.keep bu) T.u162 z z) z (.g hg3 (.q z (.g hg2 (.s (pkt hg3 z z z) z (.nil (ck 5 hS z (bR hg3))))))))))))
   exact .xx hb z (.xx hb z (.xx hb z (.xx hb z (.g hg2 (.s (pkf hb z z z) z (.nil (ck 5 hS z (bS hb))))))))
  intro W hS
  exact .s (pkf hg2 z z z) z (.nil (ck 6 hS z (kM hg2)))
 intro W hS
 refine .nil ?_
 refine .cs z h ?_ ?_ <;> intro h
 ·obtain rfl:=o9 h
  exact .g (.qn z (.ret (ab (vs:=[_]) () (rt z rn) z (hS.to []))))
 refine .skip (.g (.s (ld T.t206 hS z z z z z) z ?_))
 have ⟨y2,hy2,h⟩:=bnd h
 refine .c (.cO hS Tryz.func234 (fp hy2 (hS.keep aB) (hS.keep bD) (hS.keep bu)) z z ?_)
 intro W hS
 refine .q z ?_
 have ⟨b1,hb1,h⟩:=bnd h
 refine .cu 3 33 (b1) hS ?_ ?_
 ·refine .both (y2) (fun hb=>?_) (fun hb=>?_)
  ·have hg4:=hb
   have h:=aF hb hb1
   refine .g hg4 (.s (ld T.t206 hS z z z z z) z ?_)
   have ⟨y3,hy3,h⟩:=bnd h
   refine .g hg4 (.c (.cO hS Tryz.func235 (fq hy3 (hS.keep aB) (hS.keep bD) (hS.keep bu)) z z ?_))
   intro W hS
   refine .s (pkt hg4 z z z) z ?_
   cases h
   exact .nil (ck 3 hS)
  refine .xx hb z (.xx hb z ?_)
  cases aG hb hb1
  exact .s (pkf hb z z z) z (.nil (ck 3 hS))
 intro W hS
 refine .q z ?_
 have ⟨b2,hb2,h⟩:=bnd h
 refine .cu 4 38 (b2) hS ?_ ?_
 ·refine .both (b1) (fun hb=>?_) (fun hb=>?_)
  ·have hg5:=hb
   have h:=aF hb hb2
   refine .g hg5 (.s (fa T.f206_3 z z z) z (.g hg5 (.s (ld T.t204 hS z z z z z) z ?_)))
   have ⟨y4,hy4,h⟩:=bnd h
   refine .g hg5 (.c (.cO hS Tryz.func236 (f0 hy4 (hS.keep aB)) z z ?_))
   intro W hS
   refine .s (pkt hg5 z z z) z ?_
   cases h
   exact .nil (ck 4 hS)
  refine .xx hb z (.xx hb z (.xx hb z ?_))
  cases aG hb hb2
  exact .s (pkf hb z z z) z (.nil (ck 4 hS))
 intro W hS
 refine .q z ?_
 have ⟨b3,hb3,h⟩:=bnd h
 refine .cu 6 45 (b3) hS ?_ ?_
 ·refine .both (b2) (fun hb=>?_) (fun hb=>?_)
  ·have hg6:=hb
   have h:=aF hb hb3
   refine .g hg6 (.s (fa T.f206_4 z z z) z (.g hg6 (.s (ld T.t162 hS z z z z z) z (.g hg6 (.q z (.g hg6 (.q z ?_)))))))
   have ⟨y5,hy5,h⟩:=bnd h
   refine .g hg6 (.c (.cO hS Tryz.func197 (jQ hy5 (hS.keep bD)) z z ?_))
   intro W hS
   refine .s (pkt hg6 z z z) z ?_
   cases h
   exact .nil (ck 6 hS)
  refine .xx hb z (.xx hb z (.xx hb z (.xx hb z (.xx hb z ?_))))
  cases aG hb hb3
  exact .s (pkf hb z z z) z (.nil (ck 6 hS))
 intro W hS
 refine .q z ?_
 have ⟨b4,hb4,h⟩:=bnd h
 refine .cu 6 52 (b4) hS ?_ ?_
 ·refine .both (b3) (fun hb=>?_) (fun hb=>?_)
  ·have hg7:=hb
   have h:=aF hb hb4
   refine .g hg7 (.s (fa T.f206_5 z z z) z (.g hg7 (.s (ld T.t162 hS z z z z z) z (.g hg7 (.q z (.g hg7 (.q z ?_)))))))
   have ⟨y6,hy6,h⟩:=bnd h
   refine .g hg7 (.c (.cO hS Tryz.func197 (jQ hy6 (hS.keep bu)) z z ?_))
   intro W hS
   refine .s (pkt hg7 z z z) z ?_
   cases h
   exact .nil (ck 6 hS)
  refine .xx hb z (.xx hb z (.xx hb z (.xx hb z (.xx hb z ?_))))
  cases aG hb hb4
  exact .s (pkf hb z z z) z (.nil (ck 6 hS))
 intro W hS
 obtain rfl:=o9 h
 exact .qn z (.ret (ab (vs:=[_]) () (rt z rn) z (hS.to [])))
theorem nM (k : Nat) : fr (cI k) ∧ lz (pp k):=by
  induction k with
  | zero=>exact ⟨by intro a0 a1 v_0 w r h q_0; exact no h,by intro a0 a1 aL bP bQ w r h aB bD bu; exact no h⟩
  | succ k ih=>exact ⟨qK (k:=k) ih.1 ih.2,vl (k:=k) ih.1 ih.2⟩
theorem qf {k : Nat} : fr (cI k):=(nM k).1
theorem pB {k : Nat} {a0 : List au} {v_0 : Hd} {w : World} {r : Bool} (h : fG k a0 = some r) (q_0 : RO w v_0 206 8 aA a0) : Cl 173 #[(sv v_0)] w (RU w (.bool r)):=by
 unfold fG at h
 refine ar Tryz.func173 z z ?_
 have hS:=Sep.start w
 refine .g (.qn z (.g (.q z ?_)))
 have ⟨y1,hy1,h⟩:=bnd h
 refine .c (.cO hS Tryz.func197 (qf hy1 (hS.keep q_0)) z z ?_)
 intro W hS
 refine .q z ?_
 have ⟨b1,hb1,h⟩:=bnd h
 refine .cu 4 9 (b1) hS ?_ ?_
 ·refine .both (y1) (fun hb=>?_) (fun hb=>?_)
  ·have hg1:=hb
   have h:=aF hb hb1
   refine .g hg1 (.q z ?_)
   have ⟨y2,hy2,h⟩:=bnd h
   refine .g hg1 (.c (.cO hS Tryz.func176 (mS hy2 (hS.keep q_0)) z z ?_))
   intro W hS
   refine .g hg1 (.q z (.s (pkt hg1 z z z) z ?_))
   cases h
   exact .nil (ck 4 hS)
  refine .xx hb z (.xx hb z (.xx hb z ?_))
  cases aG hb hb1
  exact .s (pkf hb z z z) z (.nil (ck 4 hS))
 intro W hS
 obtain rfl:=o9 h
 exact .qn z (.ret (ab (vs:=[_]) () (rt z rn) z (hS.to [])))
def jR (F : Expr → Int → Option ((List ah))) : Prop:=∀ {a0 : Expr} {a1 : Int} {ef : Hd} {w : World} {r : (List ah)} (h : F a0 a1 = some r) (ba : RO w ef 204 3 aX a0.Args) , Cl 213 #[.agg #[vi a0.Op,vi a0.N,(sv ef)],vi a1] w (Ret No w (fun s : Hd=>(sv s)) (fun s=>[ae (sv s) 102 5 aK r]))
theorem tN {k : Nat} {gc : Expr → Int → Option ((List ah))} (nA : jR gc) : jR (gb k gc):=by
 intro a0 a1 ef w r h ba
 unfold gb at h
 refine ar Tryz.func213 z z ?_
 have hS:=Sep.start w
 refine .g (.c (.box hS z z ?_))
 intro g1 W hS
 refine .qn z (.seq (.g (.s (fa T.f204_0 z z z) z (.s (ld T.t3 hS z z z z z) z (.q z (.nil ?_))))))
 refine .cs z h ?_ ?_ <;> intro h
 ·refine .g (.q z (.s (fa T.f204_1 z z z) z (.s (ld T.t3 hS z z z z z) z (.s (bs T.s102 z z) z (.c (.liv [(ah.mk 1 a1 0 0 a0.N)] aK T.u78 T.t102 hS z z z z ?_ z (fun _=>z)))))))
  intro v1 W hS
  cases h
  exact .qn z (.ret (ab (vs:=[_]) v1 (rt z rn) z (hS.to [0])))
 refine .skip (.seq (.g (.s (fa T.f204_0 z z z) z (.s (ld T.t3 hS z z z z z) z (.q z (.nil ?_))))))
 refine .cs z h ?_ ?_ <;> intro h
 ·refine .g (.q z (.s (fa T.f204_1 z z z) z (.s (ld T.t3 hS z z z z z) z (.s (bs T.s102 z z) z (.c (.liv [(ah.mk 2 a1 a0.N 0 0)] aK T.u78 T.t102 hS z z z z ?_ z (fun _=>z)))))))
  intro v2 W hS
  cases h
  exact .qn z (.ret (ab (vs:=[_]) v2 (rt z rn) z (hS.to [0])))
 refine .skip (.seq (.rk 15 hS [0] T.mix ?_))
 intro W hS
 have hT:=hS.to [0]
 refine .ts' 0 z (fun W hT=>fa T.f204_2 z z z) hT z (.ts' 1 z (fun W hT=>ld T.t202 hT z z z z z) hT z ?_)
 have ⟨x1,hx1,h⟩:=bnd h
 obtain ⟨k1,hd,hck1⟩:=RV.el2 ba hx1
 have hd1:=nw (eA _) hd
 obtain ⟨k1,rfl,hd2⟩:=eP ba z hd1
 obtain ⟨k1,rfl,hd3⟩:=eP ba z hd2
 obtain ⟨v3,k1,rfl,q1,hd4⟩:=jc ba hd3
 obtain rfl:=rO ba hd4
 refine .ts' 2 z (fun W hT=>ixv (hS.keep ba) hx1 T.u202 T.t204 z z z) hT z (.ts' 3 z (fun W hT=>lde (hck1 _ hT.agree) T.t204 z z z z z) hT z (.tp' 4 z z hT (.ts' 6 z (fun W hT=>fa T.f204_2 z z z) hT z (.ts' 7 z (fun W hT=>ld T.t202 hT z z z z z) hT z ?_))))
 have ⟨x2,hx2,h⟩:=bnd h
 obtain ⟨k2,hd,hck2⟩:=RV.el2 ba hx2
 have hd1:=nw (eA _) hd
 obtain ⟨k2,rfl,hd2⟩:=eP ba z hd1
 obtain ⟨k2,rfl,hd3⟩:=eP ba z hd2
 obtain ⟨v4,k2,rfl,q2,hd4⟩:=jc ba hd3
 obtain rfl:=rO ba hd4
 refine .ts' 8 z (fun W hT=>ixv (hS.keep ba) hx2 T.u202 T.t204 z z z) hT z (.ts' 9 z (fun W hT=>lde (hck2 _ hT.agree) T.t204 z z z z z) hT z (.tp' 10 z z hT (.tp' 11 z z hT ?_)))
 have ⟨y1,hy1,h⟩:=bnd h
 refine .by1 5 z (.cV hS Tryz.func213 (nA hy1 (hS.keep (q1 _ ba))) z z ?_)
 intro v5 W hS
 have hT:=hS.to [1]
 refine ⟨fun _=>hT,?_⟩
 have ⟨y2,hy2,h⟩:=bnd h
 refine .by1 12 z (.cV hS Tryz.func213 (nA hy2 (hS.keep (q2 _ ba))) z z ?_)
 intro v6 W hS
 have hT:=hS.to [2]
 refine ⟨fun _=>hT,?_⟩
 have ⟨r1,hr1,h⟩:=bnd h
 have hT0:=hS.p1
 refine .by1 13 z (.av hr1 hT0 hT0.p1.lv (fun _=>z) T.u78 T.t102 z z z ?_)
 intro v7 W hS
 have hT:=hS.to [2]
 refine ⟨fun _=>hT,.tp' 14 z z hT (.done (.g (.q z (.q z (.q z (.q z (.q z (.s (fa T.f204_0 z z z) z (.s (ld T.t3 hS.p2 z z z z z) z (.s (bs T.s102 z z) z (.c (.liv [(ah.mk 3 a1 a1 (w64 (a1 + 1)) a0.Op)] aK T.u78 T.t102 hS z z z z ?_ z (fun _=>z)))))))))))))⟩
 intro v8 W hS
 have ⟨r2,hr2,h⟩:=bnd h
 have hT0:=hS.p1
 refine .c (.av hr2 hT0 hT0.p1.lv (fun _=>z) T.u78 T.t102 z z z ?_)
 intro v9 W hS
 obtain rfl:=o9 h
 exact .qn z (.ret (ab (vs:=[_]) v9 (rt z rn) z (hS.to [0])))
theorem oP (k : Nat) : jR (dw k):=by
  induction k with
  | zero=>exact by intro a0 a1 ef w r h ba; exact no h
  | succ k ih=>exact tN (k:=k) ih
theorem lk {k : Nat} : jR (dw k):=(oP k)
def eg (F : List au → Int → Option ((List ah))) : Prop:=∀ {a0 : List au} {a1 : Int} {v_0 : Hd} {w : World} {r : (List ah)} (h : F a0 a1 = some r) (q_0 : RO w v_0 206 8 aA a0) , Cl 174 #[(sv v_0),vi a1] w (Ret No w (fun s : Hd=>(sv s)) (fun s=>[ae (sv s) 102 5 aK r]))
def ft (F : au → Int → Option ((List ah))) : Prop:=∀ {a0 : au} {a1 : Int} {aL : Hd} {bP : Hd} {bQ : Hd} {w : World} {r : (List ah)} (h : F a0 a1 = some r) (aB : RO w aL 204 3 aX a0.Expr.Args) (bD : RO w bP 206 8 aA a0.Body) (bu : RO w bQ 206 8 aA a0.Else) , Cl 198 #[.agg #[vi a0.Kind,vi a0.Var,vi a0.Box,vi a0.Expr.Op,vi a0.Expr.N,(sv aL),(sv bP),(sv bQ)],vi a1] w (Ret No w (fun s : Hd=>(sv s)) (fun s=>[ae (sv s) 102 5 aK r]))
def hH (F : au → Int → Option ((List ah))) : Prop:=∀ {a0 : au} {a1 : Int} {aL : Hd} {bP : Hd} {bQ : Hd} {w : World} {r : (List ah)} (h : F a0 a1 = some r) (aB : RO w aL 204 3 aX a0.Expr.Args) (bD : RO w bP 206 8 aA a0.Body) (bu : RO w bQ 206 8 aA a0.Else) , Cl 214 #[.agg #[vi a0.Kind,vi a0.Var,vi a0.Box,vi a0.Expr.Op,vi a0.Expr.N,(sv aL),(sv bP),(sv bQ)],vi a1] w (Ret No w (fun s : Hd=>(sv s)) (fun s=>[ae (sv s) 102 5 aK r]))
def eu (F : au → Int → Option ((List ah))) : Prop:=∀ {a0 : au} {a1 : Int} {aL : Hd} {bP : Hd} {bQ : Hd} {w : World} {r : (List ah)} (h : F a0 a1 = some r) (aB : RO w aL 204 3 aX a0.Expr.Args) (bD : RO w bP 206 8 aA a0.Body) (bu : RO w bQ 206 8 aA a0.Else) , Cl 215 #[.agg #[vi a0.Kind,vi a0.Var,vi a0.Box,vi a0.Expr.Op,vi a0.Expr.N,(sv aL),(sv bP),(sv bQ)],vi a1] w (Ret No w (fun s : Hd=>(sv s)) (fun s=>[ae (sv s) 102 5 aK r]))
theorem tP {k : Nat} {bh : List au → Int → Option ((List ah))} {bg : au → Int → Option ((List ah))} {bT : au → Int → Option ((List ah))} {bo : au → Int → Option ((List ah))} (ew : eg bh) (iX : ft bg) (kG : hH bT) (hP : eu bo) : eg (gf k bh bg bT bo):=by
 intro a0 a1 v_0 w r h q_0
 unfold gf at h
 refine ar Tryz.func174 z z ?_
 have hS:=Sep.start w
 refine .g (.qn z (.g (.c (.liv [] aK T.u78 T.t102 hS z z z z ?_ z (fun _=>z)))))
 intro v1 W hS
 refine .qn z (.seq (.g (.qn z (.block ?_))))
 have ⟨y1,hy1,h⟩:=bnd h
 refine .via (.iter (fun s1 E' W'=>∃ (v4 : Hd),aD E' [(0,(sv v_0)),(1,vi a1),(5,(sv v4)),(6,vi s1.2)] ∧ Sep No w W' [ae (sv v4) 102 5 aK s1.1]) (fun y2 x E' W'=>x = .exit 0 ∧ ∃ (v5 : Hd),aD E' [(5,(sv v5))] ∧ Sep No w W' [ae (sv v5) 102 5 aK y2]) hy1 ⟨v1,sb z,hS.to [0]⟩ ?_) ?_
 ·intro s1 y3 E W h hI
  obtain ⟨v3,hE,hS⟩:=hI
  refine CW.sub hE ?_
  unfold kY at h
  refine .seq (.g (.q z (.q z (.s (bF (hS.keep q_0) T.u162 z z) z (.q z (.nil ?_))))))
  refine .cs z h ?_ ?_ <;> intro h
  ·refine .skip (.seq (.block (.region (.q z (.q z (.q z ?_))))))
   have ⟨x1,hx1,h⟩:=bnd h
   obtain ⟨k1,hd,hck1⟩:=RV.el2 q_0 hx1
   have hd1:=nw (ga _) hd
   obtain ⟨k1,rfl,hd2⟩:=eP q_0 z hd1
   obtain ⟨k1,rfl,hd3⟩:=eP q_0 z hd2
   obtain ⟨k1,rfl,hd4⟩:=eP q_0 z hd3
   have hd5:=nw (eA _) hd4
   obtain ⟨k1,rfl,hd6⟩:=eP q_0 z hd5
   obtain ⟨k1,rfl,hd7⟩:=eP q_0 z hd6
   obtain ⟨v6,k1,rfl,q5,hd8⟩:=jc q_0 hd7
   obtain ⟨v7,k1,rfl,q6,hd9⟩:=jc q_0 hd8
   obtain ⟨v8,k1,rfl,q7,hd10⟩:=jc q_0 hd9
   obtain rfl:=rO q_0 hd10
   refine .s (ixv (hS.keep q_0) hx1 T.u162 T.t206 z z z) z (.s (lde (hck1 _ hS.agree) T.t206 z z z z z) z (.q z (.q z (.s (bF hS.lv T.u78 z z) z (.q z ?_)))))
   have ⟨y4,hy4,h⟩:=bnd h
   refine .c (.cV hS Tryz.func198 (iX hy4 (hS.keep (q5 _ q_0)) (hS.keep (q6 _ q_0)) (hS.keep (q7 _ q_0))) z z ?_)
   intro v9 W hS
   have ⟨r1,hr1,h⟩:=bnd h
   have hT0:=hS.p1
   refine .c (.av hr1 hT0 hT0.p1.lv (fun _=>z) T.u78 T.t102 z z z ?_)
   intro v10 W hS
   refine .qn z (.region (.q z (.q z (.q z (.nil ?_)))))
   cases h
   exact ⟨z,v10,sb z,hS.to [0]⟩
  refine .exit ?_
  cases h
  exact ⟨by simp,z,v3,sb z,hS.to [0]⟩
 intro x E W hJ
 obtain ⟨rfl,v11,hE,hS⟩:=hJ
 refine ⟨_,hE.sub,?_⟩
 obtain rfl:=o9 h
 exact .g (.q z (.qn z (.ret (ab (vs:=[_]) v11 (rt z rn) z (hS.to [0])))))
theorem tQ {k : Nat} {bh : List au → Int → Option ((List ah))} {bg : au → Int → Option ((List ah))} {bT : au → Int → Option ((List ah))} {bo : au → Int → Option ((List ah))} (ew : eg bh) (iX : ft bg) (kG : hH bT) (hP : eu bo) : ft (gg k bh bg bT bo):=by
 intro a0 a1 aL bP bQ w r h aB bD bu
 unfold gg at h
 refine ar Tryz.func198 z z ?_
 have hS:=Sep.start w
 refine .g (.c (.box hS z z ?_))
 intro g1 W hS
 refine .qn z (.g (.s (fa T.f206_3 z z z) z (.s (ld T.t204 hS z z z z z) z ?_)))
 have ⟨y1,hy1,h⟩:=bnd h
 refine .c (.cV hS Tryz.func213 (lk hy1 (hS.keep aB)) z z ?_)
 intro v1 W hS
 refine .qn z (.seq (.g (.s (fa T.f206_0 z z z) z (.s (ld T.t3 hS.p1 z z z z z) z (.nil (.block (.g (.q z (.q z (.nil ?_))))))))))
 refine .cs z h ?_ ?_ <;> intro h
 ·refine .g (.s (ld T.t206 hS.p1 z z z z z) z (.q z ?_))
  have ⟨y2,hy2,h⟩:=bnd h
  refine .c (.cV hS Tryz.func214 (kG hy2 (hS.keep aB) (hS.keep bD) (hS.keep bu)) z z ?_)
  intro v2 W hS
  obtain rfl:=o9 h
  exact .qn z (.ret (ab (vs:=[_]) v2 (rt z rn) z (hS.to [0])))
 refine .g (.q z (.q z (.nil ?_)))
 refine .cs z h ?_ ?_ <;> intro h
 ·refine .g (.s (ld T.t206 hS.p1 z z z z z) z (.q z ?_))
  have ⟨y3,hy3,h⟩:=bnd h
  refine .c (.cV hS Tryz.func215 (hP hy3 (hS.keep aB) (hS.keep bD) (hS.keep bu)) z z ?_)
  intro v3 W hS
  obtain rfl:=o9 h
  exact .qn z (.ret (ab (vs:=[_]) v3 (rt z rn) z (hS.to [0])))
 refine .g (.q z (.q z (.nil ?_)))
 refine .cs z h ?_ ?_ <;> intro h
 ·refine .g (.q z (.s (fa T.f206_1 z z z) z (.s (ld T.t3 hS.p1 z z z z z) z (.s (bs T.s102 z z) z (.c (.liv [(ah.mk 2 a0.Var 4 0 0)] aK T.u78 T.t102 hS z z z z ?_ z (fun _=>z)))))))
  intro v4 W hS
  have ⟨r1,hr1,h⟩:=bnd h
  have hT0:=hS.p1
  refine .c (.av hr1 hT0 hT0.p1.lv (fun _=>z) T.u78 T.t102 z z z ?_)
  intro v5 W hS
  obtain rfl:=o9 h
  exact .qn z (.ret (ab (vs:=[_]) v5 (rt z rn) z (hS.to [0])))
 refine .g (.q z (.q z (.nil ?_)))
 refine .cs z h ?_ ?_ <;> intro h
 ·refine .g (.q z (.s (fa T.f206_2 z z z) z (.s (ld T.t3 hS.p1 z z z z z) z (.s (bs T.s102 z z) z (.c (.liv [(ah.mk 6 0 4 0 a0.Box)] aK T.u78 T.t102 hS z z z z ?_ z (fun _=>z)))))))
  intro v6 W hS
  have ⟨r2,hr2,h⟩:=bnd h
  have hT0:=hS.p1
  refine .c (.av hr2 hT0 hT0.p1.lv (fun _=>z) T.u78 T.t102 z z z ?_)
  intro v7 W hS
  obtain rfl:=o9 h
  exact .qn z (.ret (ab (vs:=[_]) v7 (rt z rn) z (hS.to [0])))
 refine .g (.q z (.q z (.nil ?_)))
 refine .cs z h ?_ ?_ <;> intro h
 ·refine .g (.q z (.s (bs T.s102 z z) z (.c (.liv [(ah.mk 9 0 4 0 0)] aK T.u78 T.t102 hS z z z z ?_ z (fun _=>z)))))
  intro v8 W hS
  have ⟨r3,hr3,h⟩:=bnd h
  have hT0:=hS.p1
  refine .c (.av hr3 hT0 hT0.p1.lv (fun _=>z) T.u78 T.t102 z z z ?_)
  intro v9 W hS
  obtain rfl:=o9 h
  exact .qn z (.ret (ab (vs:=[_]) v9 (rt z rn) z (hS.to [0])))
 refine .g (.q z (.q z (.nil ?_)))
 refine .cs z h ?_ ?_ <;> intro h
 ·refine .g (.s (fa T.f206_1 z z z) z (.s (ld T.t3 hS.p1 z z z z z) z (.s (fa T.f206_2 z z z) z (.s (ld T.t3 hS.p1 z z z z z) z (.s (bs T.s102 z z) z (.c (.liv [(ah.mk 7 a0.Var 0 0 a0.Box)] aK T.u78 T.t102 hS z z z z ?_ z (fun _=>z))))))))
  intro v10 W hS
  cases h
  exact .qn z (.ret (ab (vs:=[_]) v10 (rt z rn) z (hS.to [0])))
 refine .skip (.g (.s (bs T.s102 z z) z (.c (.liv [(ah.mk 8 0 0 0 0)] aK T.u78 T.t102 hS z z z z ?_ z (fun _=>z)))))
 intro v11 W hS
 cases h
 exact .qn z (.ret (ab (vs:=[_]) v11 (rt z rn) z (hS.to [0])))
theorem vm {k : Nat} {bh : List au → Int → Option ((List ah))} {bg : au → Int → Option ((List ah))} {bT : au → Int → Option ((List ah))} {bo : au → Int → Option ((List ah))} (ew : eg bh) (iX : ft bg) (kG : hH bT) (hP : eu bo) : hH (jo k bh bg bT bo):=by
 intro a0 a1 aL bP bQ w r h aB bD bu
 unfold jo at h
 refine ar Tryz.func214 z z ?_
 have hS:=Sep.start w
 refine .g (.c (.box hS z z ?_))
 intro g1 W hS
 refine .qn z (.g (.s (fa T.f206_3 z z z) z (.s (ld T.t204 hS z z z z z) z ?_)))
 have ⟨y1,hy1,h⟩:=bnd h
 refine .c (.cV hS Tryz.func213 (lk hy1 (hS.keep aB)) z z ?_)
 intro v1 W hS
 refine .qn z (.g (.s (fa T.f206_4 z z z) z (.s (ld T.t162 hS.p1 z z z z z) z (.q z (.q z (.s (bF hS.lv T.u78 z z) z (.q z (.q z ?_))))))))
 have ⟨y2,hy2,h⟩:=bnd h
 refine .c (.cV hS Tryz.func174 (ew hy2 (hS.keep bD)) z z ?_)
 intro v2 W hS
 refine .qn z (.g (.q z (.q z (.s (bF hS.p1.lv T.u78 z z) z (.q z (.q z (.q z (.s (bF hS.lv T.u78 z z) z (.q z (.qn z (.seq (.g (.s (fa T.f206_5 z z z) z (.s (ld T.t162 hS.p2 z z z z z) z (.s (bF (hS.keep bu) T.u162 z z) z (.q z (.nil ?_)))))))))))))))))
 refine .cs z h ?_ ?_ <;> intro h
 ·refine .g (.q z (.q z (.s (bs T.s102 z z) z (.c (.liv [(ah.mk 5 0 4 0 (w64 ((w64 ((w64 (a1 + (y1.length : Int))) + 1)) + (y2.length : Int))))] aK T.u78 T.t102 hS z z z z ?_ z (fun _=>z))))))
  intro v3 W hS
  have ⟨r1,hr1,h⟩:=bnd h
  have hT0:=hS.p2
  refine .c (.av hr1 hT0 hT0.p1.lv (fun _=>z) T.u78 T.t102 z z z ?_)
  intro v4 W hS
  refine .qn z (.g (.q z (.q z ?_)))
  have ⟨r2,hr2,h⟩:=bnd h
  have hT0:=hS
  refine .c (.av hr2 hT0 hT0.p2.lv (fun _=>z) T.u78 T.t102 z z z ?_)
  intro v5 W hS
  obtain rfl:=o9 h
  exact .qn z (.ret (ab (vs:=[_]) v5 (rt z rn) z (hS.to [0])))
 refine .skip (.g (.s (fa T.f206_5 z z z) z (.s (ld T.t162 hS.p2 z z z z z) z (.q z (.q z ?_)))))
 have ⟨y3,hy3,h⟩:=bnd h
 refine .c (.cV hS Tryz.func174 (ew hy3 (hS.keep bu)) z z ?_)
 intro v6 W hS
 refine .qn z (.g (.q z (.q z (.q z (.s (bs T.s102 z z) z (.c (.liv [(ah.mk 5 0 4 0 (w64 ((w64 ((w64 ((w64 (a1 + (y1.length : Int))) + 1)) + (y2.length : Int))) + 1)))] aK T.u78 T.t102 hS z z z z ?_ z (fun _=>z))))))))
 intro v7 W hS
 have ⟨r3,hr3,h⟩:=bnd h
 have hT0:=hS.p3
 refine .c (.av hr3 hT0 hT0.p1.lv (fun _=>z) T.u78 T.t102 z z z ?_)
 intro v8 W hS
 refine .qn z (.g (.q z (.q z ?_)))
 have ⟨r4,hr4,h⟩:=bnd h
 have hT0:=hS
 refine .c (.av hr4 hT0 hT0.p3.lv (fun _=>z) T.u78 T.t102 z z z ?_)
 intro v9 W hS
 refine .qn z (.g (.q z (.q z (.q z (.q z (.s (bF hS.p2.lv T.u78 z z) z (.q z (.s (bs T.s102 z z) z (.c (.liv [(ah.mk 4 0 0 0 (w64 ((w64 ((w64 ((w64 ((w64 (a1 + (y1.length : Int))) + 1)) + (y2.length : Int))) + 1)) + (y3.length : Int))))] aK T.u78 T.t102 hS z z z z ?_ z (fun _=>z)))))))))))
 intro v10 W hS
 have ⟨r5,hr5,h⟩:=bnd h
 have hT0:=hS.p1
 refine .c (.av hr5 hT0 hT0.p1.lv (fun _=>z) T.u78 T.t102 z z z ?_)
 intro v11 W hS
 refine .qn z (.g (.q z (.q z ?_)))
 have ⟨r6,hr6,h⟩:=bnd h
 have hT0:=hS
 refine .c (.av hr6 hT0 hT0.p3.lv (fun _=>z) T.u78 T.t102 z z z ?_)
 intro v12 W hS
 obtain rfl:=o9 h
 exact .qn z (.ret (ab (vs:=[_]) v12 (rt z rn) z (hS.to [0])))
theorem rS {k : Nat} {bh : List au → Int → Option ((List ah))} {bg : au → Int → Option ((List ah))} {bT : au → Int → Option ((List ah))} {bo : au → Int → Option ((List ah))} (ew : eg bh) (iX : ft bg) (kG : hH bT) (hP : eu bo) : eu (fH k bh bg bT bo):=by
 intro a0 a1 aL bP bQ w r h aB bD bu
 unfold fH at h
 refine ar Tryz.func215 z z ?_
 have hS:=Sep.start w
 refine .g (.c (.box hS z z ?_))
 intro g1 W hS
 refine .qn z (.g (.s (fa T.f206_3 z z z) z (.s (ld T.t204 hS z z z z z) z ?_)))
 have ⟨y1,hy1,h⟩:=bnd h
 refine .c (.cV hS Tryz.func213 (lk hy1 (hS.keep aB)) z z ?_)
 intro v1 W hS
 refine .qn z (.g (.s (fa T.f206_4 z z z) z (.s (ld T.t162 hS.p1 z z z z z) z (.q z (.q z (.s (bF hS.lv T.u78 z z) z (.q z (.q z ?_))))))))
 have ⟨y2,hy2,h⟩:=bnd h
 refine .c (.cV hS Tryz.func174 (ew hy2 (hS.keep bD)) z z ?_)
 intro v2 W hS
 refine .qn z (.g (.q z (.q z (.q z (.s (bF hS.p1.lv T.u78 z z) z (.q z (.q z (.q z (.s (bF hS.lv T.u78 z z) z (.q z (.q z (.s (bs T.s102 z z) z (.c (.liv [(ah.mk 5 0 4 0 (w64 ((w64 ((w64 ((w64 (a1 + (y1.length : Int))) + 1)) + (y2.length : Int))) + 1)))] aK T.u78 T.t102 hS z z z z ?_ z (fun _=>z)))))))))))))))
 intro v3 W hS
 have ⟨r1,hr1,h⟩:=bnd h
 have hT0:=hS.p2
 refine .c (.av hr1 hT0 hT0.p1.lv (fun _=>z) T.u78 T.t102 z z z ?_)
 intro v4 W hS
 refine .qn z (.g (.q z (.q z ?_)))
 have ⟨r2,hr2,h⟩:=bnd h
 have hT0:=hS
 refine .c (.av hr2 hT0 hT0.p2.lv (fun _=>z) T.u78 T.t102 z z z ?_)
 intro v5 W hS
 refine .qn z (.g (.q z (.q z (.s (bs T.s102 z z) z (.c (.liv [(ah.mk 4 0 0 0 a1)] aK T.u78 T.t102 hS z z z z ?_ z (fun _=>z)))))))
 intro v6 W hS
 have ⟨r3,hr3,h⟩:=bnd h
 have hT0:=hS.p1
 refine .c (.av hr3 hT0 hT0.p1.lv (fun _=>z) T.u78 T.t102 z z z ?_)
 intro v7 W hS
 obtain rfl:=o9 h
 exact .qn z (.ret (ab (vs:=[_]) v7 (rt z rn) z (hS.to [0])))
theorem oQ (k : Nat) : eg (eE k) ∧ ft (gG k) ∧ hH (lL k) ∧ eu (il k):=by
  induction k with
  | zero=>exact ⟨by intro a0 a1 v_0 w r h q_0; exact no h,by intro a0 a1 aL bP bQ w r h aB bD bu; exact no h,by intro a0 a1 aL bP bQ w r h aB bD bu; exact no h,by intro a0 a1 aL bP bQ w r h aB bD bu; exact no h⟩
  | succ k ih=>exact ⟨tP (k:=k) ih.1 ih.2.1 ih.2.2.1 ih.2.2.2,tQ (k:=k) ih.1 ih.2.1 ih.2.2.1 ih.2.2.2,vm (k:=k) ih.1 ih.2.1 ih.2.2.1 ih.2.2.2,rS (k:=k) ih.1 ih.2.1 ih.2.2.1 ih.2.2.2⟩
theorem rT {k : Nat} : eg (eE k):=(oQ k).1
theorem oS {k : Nat} {a0 : List au} {v_0 : Hd} {w : World} {r : (List ah) × Bool} (h : eY k a0 = some r) (q_0 : RO w v_0 206 8 aA a0) : Cl 130 #[(sv v_0)] w (Ret No w (fun s : Hd=>.tuple #[(sv s),.bool r.2]) (fun s=>[ae (sv s) 102 5 aK r.1])):=by
 unfold eY at h
 refine ar Tryz.func130 z z ?_
 have hS:=Sep.start w
 refine .g (.q z (.qn z (.seq (.g (.q z ?_)))))
 have ⟨y1,hy1,h⟩:=bnd h
 refine .c (.cO hS Tryz.func173 (pB hy1 (hS.keep q_0)) z z ?_)
 intro W hS
 refine .q z (.nil ?_)
 refine .cs z h ?_ ?_ <;> intro h
 ·refine .g (.c (.liv [] aK T.u78 T.t102 hS z z z z ?_ z (fun _=>z)))
  intro v1 W hS
  cases h
  exact .q z (.qn z (.ret (ab (vs:=[_,_]) v1 (rt z (rt z rn)) z (hS.to [0]))))
 refine .skip (.g (.q z ?_))
 have ⟨y2,hy2,h⟩:=bnd h
 refine .c (.cV hS Tryz.func174 (rT hy2 (hS.keep q_0)) z z ?_)
 intro v2 W hS
 refine .s (bs T.s102 z z) z (.c (.liv [(ah.mk 10 0 0 0 0)] aK T.u78 T.t102 hS z z z z ?_ z (fun _=>z)))
 intro v3 W hS
 have ⟨r1,hr1,h⟩:=bnd h
 have hT0:=hS.p1
 refine .c (.av hr1 hT0 hT0.p1.lv (fun _=>z) T.u78 T.t102 z z z ?_)
 intro v4 W hS
 cases h
 exact .q z (.qn z (.ret (ab (vs:=[_,_]) v4 (rt z (rt z rn)) z (hS.to [0]))))
theorem cM {a0 : Int} {a1 : Expr} {a2 : Expr} {tR : Hd} {tS : Hd} {S : Nat → Prop} {w : World} {r : Expr} (h : jd a0 a1 a2 = some r) (hO : bO w [ae (sv tR) 204 3 aX a1.Args,ae (sv tS) 204 3 aX a2.Args] S) (hlt : ∀ b,S b → b < w.heap.size) : Cl 237 #[vi a0,.agg #[vi a1.Op,vi a1.N,(sv tR)],.agg #[vi a2.Op,vi a2.N,(sv tS)]] w (Ret S w (fun s : Hd=>.agg #[vi r.Op,vi r.N,(sv s)]) (fun s=>[ae (sv s) 204 3 aX r.Args])):=by
 unfold jd at h
 refine ar Tryz.func237 z z ?_
 have hS:=Sep.sm hO hlt
 refine .g (.c (.box hS z z ?_))
 intro g1 W hS
 refine .c (.box hS z z ?_)
 intro g2 W hS
 refine .c (.alloc T.t204 hS ?_)
 intro g3 W hS
 refine .nil (.g (.q z (.s (ld T.t204 hS.p2 z z z z z) z (.s (ld T.t204 hS.p1 z z z z z) z (.c (.lg (L1:=[ae (sv tR) 204 3 aX a1.Args,ae (sv tS) 204 3 aX a2.Args]) [(Expr.mk a1.Op a1.N a1.Args),(Expr.mk a2.Op a2.N a2.Args)] aX T.u202 T.t204 (hS.to [3,3,0,0,0]) z z z (.aggE (eA _) (.flat (c1:=[vi a1.Op]) z (.flat (c1:=[vi a1.N]) z (.row (.aggE (eA _) (.flat (c1:=[vi a2.Op]) z (.flat (c1:=[vi a2.N]) z (.row .nil)))))))) ?_ z yS))))))
 intro v1 W hS
 refine .s (bs T.s204 z z) z (.c (.st T.t204 hS.p1 z z z ?_))
 intro W hS
 cases h
 exact .nil (.ret (ab (vs:=[_]) v1 (rc hS T.t204 z rn z z) z (hS.to [1])))
theorem aZ {a0 : Int} {a1 : Int} {w : World} {r : Expr} (h : dC a0 a1 = some r) : Cl 238 #[vi a0,vi a1] w (Ret No w (fun s : Hd=>.agg #[vi r.Op,vi r.N,(sv s)]) (fun s=>[ae (sv s) 204 3 aX r.Args])):=by
 unfold dC at h
 refine ar Tryz.func238 z z ?_
 have hS:=Sep.start w
 refine .g (.c (.alloc T.t204 hS ?_))
 intro g1 W hS
 refine .nil (.g (.q z (.q z (.c (.lg (L1:=[]) [] aX T.u202 T.t204 (hS.to [0]) z z z (.nil) ?_ z yS)))))
 intro v1 W hS
 refine .s (bs T.s204 z z) z (.c (.st T.t204 hS.p1 z z z ?_))
 intro W hS
 cases h
 exact .nil (.ret (ab (vs:=[_]) v1 (rc hS T.t204 z rn z z) z (hS.to [1])))
theorem rU {a0 : aH} {aq : Hd} {g_0 : Nat} {S : Nat → Prop} {w : World} {r : Expr × Int} (h : gH a0 = some r) (aE : RV w (Old S w) (sv aq) 5 1 (D.int .u8) a0.b) (hO : bO w [.box g_0 117 [(sv aq),vi a0.p]] S) (hlt : ∀ b,S b → b < w.heap.size) : Cl 239 #[pt g_0] w (Ret S w (fun s : Hd=>.agg #[vi r.1.Op,vi r.1.N,(sv s)]) (fun s=>[.box g_0 117 [(sv aq),vi r.2],ae (sv s) 204 3 aX r.1.Args])):=by
 unfold gH at h
 refine ar Tryz.func239 z z ?_
 have hS:=Sep.sm hO hlt
 refine .g (.c (.alloc T.t204 hS ?_))
 intro g1 W hS
 refine .nil (.seq (.g (.q z ?_)))
 have ⟨y1,hy1,h⟩:=bnd h
 have hS:=hS.p1
 refine .c (.cS (L0:=[.box g_0 117 [(sv aq),vi a0.p]]) hS Tryz.func39 (fun S h1 h2 h3=>(ak hy1 (hS.ks aE h1) h2 (zz h1))) z z ?_)
 rintro ⟨⟩ W hS
 refine .nil (.block (.g (.q z (.qn z (.cond z (fun hb=>?_) (fun hb=>?_))))))
 ·have h:=aF hb h
  refine .g (.q z ?_)
  have ⟨y2,hy2,h⟩:=bnd h
  refine .c (.cS (L0:=[.box g_0 117 [(sv aq),vi y1.2]]) hS Tryz.func39 (fun S h1 h2 h3=>(ak hy2 (hS.ks aE h1) h2 (zz h1))) z z ?_)
  rintro ⟨⟩ W hS
  have ⟨y3,hy3,h⟩:=bnd h
  refine .c (.cV hS Tryz.func238 (aZ hy3) z z ?_)
  intro v1 W hS
  refine .c (.st T.t204 hS.p2 z z z ?_)
  intro W hS
  cases h
  exact .nil (.ret (ab (vs:=[_]) v1 (rc hS T.t204 z rn z z) z (hS.to [2,1])))
 have h:=aG hb h
 refine .g (.q z (.qn z (.cond z (fun hb=>?_) (fun hb=>?_))))
 ·have h:=aF hb h
  refine .g (.c (.liv [5,31,32,100,2047,2048,65536,99999] (D.int .i64) T.u23 T.t3 hS z z z z ?_ z (fun _=>z)))
  intro v2 W hS
  refine .q z ?_
  have ⟨y4,hy4,h⟩:=bnd h
  have hS:=hS.p1
  refine .c (.cS (L0:=[.box g_0 117 [(sv aq),vi y1.2]]) hS Tryz.func39 (fun S h1 h2 h3=>(ak hy4 (hS.ks aE h1) h2 (zz h1))) z z ?_)
  rintro ⟨⟩ W hS
  have ⟨x1,hx1,h⟩:=bnd h
  refine .s (ixv hS.p1.lv hx1 T.u23 T.t3 z z z) z (.s (lde (RV.flat hS.p1.lv hx1 z) T.t3 z z z z z) z ?_)
  have ⟨y5,hy5,h⟩:=bnd h
  refine .c (.cV hS Tryz.func238 (aZ hy5) z z ?_)
  intro v3 W hS
  refine .c (.st T.t204 hS.p3 z z z ?_)
  intro W hS
  cases h
  exact .nil (.ret (ab (vs:=[_]) v3 (rc hS T.t204 z rn z z) z (hS.to [2,1])))
 have h:=aG hb h
 refine .skip (.g (.q z ?_))
 have ⟨y6,hy6,h⟩:=bnd h
 refine .c (.cS (L0:=[.box g_0 117 [(sv aq),vi y1.2]]) hS Tryz.func39 (fun S h1 h2 h3=>(ak hy6 (hS.ks aE h1) h2 (zz h1))) z z ?_)
 rintro ⟨⟩ W hS
 have ⟨y7,hy7,h⟩:=bnd h
 refine .c (.cV hS Tryz.func238 (aZ hy7) z z ?_)
 intro v4 W hS
 refine .c (.st T.t204 hS.p2 z z z ?_)
 intro W hS
 cases h
 exact .nil (.ret (ab (vs:=[_]) v4 (rc hS T.t204 z rn z z) z (hS.to [2,1])))
def jS (F : aH → Int → Option (Expr × Int)) : Prop:=∀ {a0 : aH} {a1 : Int} {aq : Hd} {g_0 : Nat} {S : Nat → Prop} {w : World} {r : Expr × Int} (h : F a0 a1 = some r) (aE : RV w (Old S w) (sv aq) 5 1 (D.int .u8) a0.b) (hO : bO w [.box g_0 117 [(sv aq),vi a0.p]] S) (hlt : ∀ b,S b → b < w.heap.size) , Cl 220 #[pt g_0,vi a1] w (Ret S w (fun s : Hd=>.agg #[vi r.1.Op,vi r.1.N,(sv s)]) (fun s=>[.box g_0 117 [(sv aq),vi r.2],ae (sv s) 204 3 aX r.1.Args]))
end
noncomputable section
theorem tT {k : Nat} {gi : aH → Int → Option (Expr × Int)} (nB : jS gi) : jS (gh k gi):=by
 intro a0 a1 aq g_0 S w r h aE hO hlt
 unfold gh at h
 refine ar Tryz.func220 z z ?_
 have hS:=Sep.sm hO hlt
 refine .g (.c (.alloc T.t204 hS ?_))
 intro g1 W hS
 refine .nil (.seq (.g (.q z (.q z (.q z ?_)))))
 have ⟨b1,hb1,h⟩:=bnd h
 refine .chunkL 4 13 (b1.1) (M:=S) (w0:=w) (L:=[.box g1 204 [vi 0,vi 0,(sv aP)],.box g_0 117 [(sv aq),vi b1.2]]) ?_ ?_
 ·refine .both (decide (a1 < 2)) (fun hb=>?_) (fun hb=>?_)
  ·refine .xx hb z (.xx hb z (.xx hb z ?_))
   cases aF hb hb1
   exact .s (pkt hb z z z) z (.nil (ck 4 (hS.to [0,0])))
  have hg1:=hb
  have h:=aG hb hb1
  refine .g hg1 (.q z ?_)
  have ⟨y1,hy1,h⟩:=bnd h
  have hS:=hS.p1
  refine .g hg1 (.c (.cS (L0:=[.box g_0 117 [(sv aq),vi a0.p]]) hS Tryz.func39 (fun S h1 h2 h3=>(ak hy1 (hS.ks aE h1) h2 (zz h1))) z z ?_))
  rintro ⟨⟩ W hS
  refine .g hg1 (.q z (.s (pkf hg1 z z z) z ?_))
  cases h
  exact .nil (ck 4 (hS.to [1,0]))
 intro W hS
 refine .nil (.cond z (fun hb=>?_) (fun hb=>?_))
 ·have h:=aF hb h
  refine .g (.q z ?_)
  have ⟨y2,hy2,h⟩:=bnd h
  have hS:=hS.p1
  refine .c (.cS (L0:=[.box g_0 117 [(sv aq),vi b1.2]]) hS Tryz.func239 (fun S h1 h2 h3=>(rU hy2 (hS.ks aE h1) h2 (zz h1))) z z ?_)
  rintro v1 W hS
  refine .c (.st T.t204 hS.p2 z z z ?_)
  intro W hS
  cases h
  exact .nil (.ret (ab (vs:=[_]) v1 (rc hS T.t204 z rn z z) z (hS.to [1,1])))
 have h:=aG hb h
 refine .skip (.g (.q z ?_))
 have ⟨y3,hy3,h⟩:=bnd h
 have hS:=hS.p1
 refine .c (.cS (L0:=[.box g_0 117 [(sv aq),vi b1.2]]) hS Tryz.func196 (fun S h1 h2 h3=>(pd hy3 (hS.ks aE h1) h2 (zz h1))) z z ?_)
 rintro ⟨⟩ W hS
 refine .qn z (.g (.q z (.q z (.q z ?_))))
 have ⟨y4,hy4,h⟩:=bnd h
 refine .c (.cS (L0:=[.box g_0 117 [(sv aq),vi y3.2]]) hS Tryz.func220 (fun S h1 h2 h3=>(nB hy4 (hS.ks aE h1) h2 (zz h1))) z z ?_)
 rintro v2 W hS
 refine .c (.alloc T.t204 hS ?_)
 intro g2 W hS
 refine .c (.st T.t204 hS z z z ?_)
 intro W hS
 refine .nil (.seq (.rk 7 hS [0,2] T.mix ?_))
 intro W hS
 have hT:=hS.to [0,2]
 refine .tp' 0 z z hT (.ts' 1 z (fun W hT=>ld T.t204 hT z z z z z) hT z (.tp' 2 z z hT (.tp' 3 z z hT (.tp' 4 z z hT ?_))))
 have ⟨y5,hy5,h⟩:=bnd h
 have hS:=hS.p1
 refine .by1 5 z (.cS (L0:=[.box g_0 117 [(sv aq),vi y4.2]]) hS Tryz.func220 (fun S h1 h2 h3=>(nB hy5 (hS.ks aE h1) h2 (zz h1))) z z ?_)
 rintro v3 W hS
 have hT:=hS.to [2,3]
 refine ⟨fun _=>hT,?_⟩
 have ⟨y6,hy6,h⟩:=bnd h
 have hS:=hS.p1
 have hS:=hS.p3
 refine .by1 6 z (.cS (L0:=[ae (sv v2) 204 3 aX y4.1.Args,ae (sv v3) 204 3 aX y5.1.Args]) hS Tryz.func237 (fun S h1 h2 h3=>(cM hy6 h2 (zz h1))) z z ?_)
 rintro v4 W hS
 have hT:=hS.to [2,2]
 refine ⟨fun _=>hT,.by1 7 z (.st T.t204 hS.p3 z z z ?_)⟩
 intro W hS
 refine ⟨fun h=>absurd z h,?_⟩
 cases h
 exact .done (.ret (ab (vs:=[_]) v4 (rc hS T.t204 z rn z z) z (hS.to [2,1])))
theorem oT (k : Nat) : jS (dR k):=by
  induction k with
  | zero=>exact by intro a0 a1 aq g_0 S w r h aE hO hlt; exact no h
  | succ k ih=>exact tT (k:=k) ih
theorem iY {k : Nat} : jS (dR k):=(oT k)
theorem oh {k : Nat} {a0 : aH} {aq : Hd} {g_0 : Nat} {S : Nat → Prop} {w : World} {r : au × Int} (h : je k a0 = some r) (aE : RV w (Old S w) (sv aq) 5 1 (D.int .u8) a0.b) (hO : bO w [.box g_0 117 [(sv aq),vi a0.p]] S) (hlt : ∀ b,S b → b < w.heap.size) : Cl 216 #[pt g_0] w (Ret S w (fun s : Hd × Hd × Hd=>.agg #[vi r.1.Kind,vi r.1.Var,vi r.1.Box,vi r.1.Expr.Op,vi r.1.Expr.N,(sv s.1),(sv s.2.1),(sv s.2.2)]) (fun s=>[.box g_0 117 [(sv aq),vi r.2],ae (sv s.1) 204 3 aX r.1.Expr.Args,ae (sv s.2.1) 206 8 aA r.1.Body,ae (sv s.2.2) 206 8 aA r.1.Else])):=by
 unfold je at h
 refine ar Tryz.func216 z z ?_
 have hS:=Sep.sm hO hlt
 refine .g (.c (.alloc T.t206 hS ?_))
 intro g1 W hS
 refine .nil (.g (.q z ?_))
 have ⟨y1,hy1,h⟩:=bnd h
 have hS:=hS.p1
 refine .c (.cS (L0:=[.box g_0 117 [(sv aq),vi a0.p]]) hS Tryz.func39 (fun S h1 h2 h3=>(ak hy1 (hS.ks aE h1) h2 (zz h1))) z z ?_)
 rintro ⟨⟩ W hS
 refine .qn z (.g (.q z (.q z (.q z ?_))))
 have ⟨y2,hy2,h⟩:=bnd h
 refine .c (.cS (L0:=[.box g_0 117 [(sv aq),vi y1.2]]) hS Tryz.func39 (fun S h1 h2 h3=>(ak hy2 (hS.ks aE h1) h2 (zz h1))) z z ?_)
 rintro ⟨⟩ W hS
 refine .q z ?_
 have ⟨y3,hy3,h⟩:=bnd h
 refine .c (.cS (L0:=[.box g_0 117 [(sv aq),vi y2.2]]) hS Tryz.func220 (fun S h1 h2 h3=>(iY hy3 (hS.ks aE h1) h2 (zz h1))) z z ?_)
 rintro v1 W hS
 refine .s (bs T.s206 z z) z (.c (.st T.t206 hS.p2 z z z ?_))
 intro W hS
 refine .nil (.ret ?_)
 have hS:=hS.nilv 206 8 aA
 have hS:=hS.nilv 206 8 aA
 cases h
 exact ab (vs:=[_]) (v1,aP,aP) (rc hS.p2 T.t206 z rn z z) z (hS.to [3,3,1,0])
theorem rV {k : Nat} {a0 : aH} {a1 : Int} {aq : Hd} {g_0 : Nat} {S : Nat → Prop} {w : World} {r : au × Int} (h : jp k a0 a1 = some r) (aE : RV w (Old S w) (sv aq) 5 1 (D.int .u8) a0.b) (hO : bO w [.box g_0 117 [(sv aq),vi a0.p]] S) (hlt : ∀ b,S b → b < w.heap.size) : Cl 219 #[pt g_0,vi a1] w (Ret S w (fun s : Hd × Hd × Hd=>.agg #[vi r.1.Kind,vi r.1.Var,vi r.1.Box,vi r.1.Expr.Op,vi r.1.Expr.N,(sv s.1),(sv s.2.1),(sv s.2.2)]) (fun s=>[.box g_0 117 [(sv aq),vi r.2],ae (sv s.1) 204 3 aX r.1.Expr.Args,ae (sv s.2.1) 206 8 aA r.1.Body,ae (sv s.2.2) 206 8 aA r.1.Else])):=by
 unfold jp at h
 refine ar Tryz.func219 z z ?_
 have hS:=Sep.sm hO hlt
 refine .g (.c (.alloc T.t206 hS ?_))
 intro g1 W hS
 refine .nil (.seq (.g (.q z (.qn z (.cond z (fun hb=>?_) (fun hb=>?_))))))
 ·have h:=aF hb h
  refine .g (.q z ?_)
  have ⟨y1,hy1,h⟩:=bnd h
  have hS:=hS.p1
  refine .c (.cS (L0:=[.box g_0 117 [(sv aq),vi a0.p]]) hS Tryz.func216 (fun S h1 h2 h3=>(oh hy1 (hS.ks aE h1) h2 (zz h1))) z z ?_)
  rintro ⟨v1,v2,v3⟩ W hS
  refine .c (.st T.t206 hS.p4 z z z ?_)
  intro W hS
  cases h
  exact .nil (.ret (ab (vs:=[_]) (v1,v2,v3) (rc hS T.t206 z rn z z) z (hS.to [1,1,1,1])))
 have h:=aG hb h
 refine .skip (.g (.q z (.q z ?_)))
 have ⟨y2,hy2,h⟩:=bnd h
 have hS:=hS.p1
 refine .c (.cS (L0:=[.box g_0 117 [(sv aq),vi a0.p]]) hS Tryz.func39 (fun S h1 h2 h3=>(ak hy2 (hS.ks aE h1) h2 (zz h1))) z z ?_)
 rintro ⟨⟩ W hS
 refine .qn z (.seq (.g (.q z ?_)))
 have ⟨y3,hy3,h⟩:=bnd h
 refine .c (.cS (L0:=[.box g_0 117 [(sv aq),vi y2.2]]) hS Tryz.func39 (fun S h1 h2 h3=>(ak hy3 (hS.ks aE h1) h2 (zz h1))) z z ?_)
 rintro ⟨⟩ W hS
 refine .qn z (.cond z (fun hb=>?_) (fun hb=>?_))
 ·have h:=aF hb h
  refine .g (.q z (.q z (.q z ?_)))
  have ⟨y4,hy4,h⟩:=bnd h
  refine .c (.cS (L0:=[.box g_0 117 [(sv aq),vi y3.2]]) hS Tryz.func39 (fun S h1 h2 h3=>(ak hy4 (hS.ks aE h1) h2 (zz h1))) z z ?_)
  rintro ⟨⟩ W hS
  refine .q z ?_
  have ⟨y5,hy5,h⟩:=bnd h
  refine .c (.cS (L0:=[.box g_0 117 [(sv aq),vi y4.2]]) hS Tryz.func220 (fun S h1 h2 h3=>(iY hy5 (hS.ks aE h1) h2 (zz h1))) z z ?_)
  rintro v4 W hS
  refine .s (bs T.s206 z z) z (.c (.st T.t206 hS.p2 z z z ?_))
  intro W hS
  refine .nil (.ret ?_)
  have hS:=hS.nilv 206 8 aA
  have hS:=hS.nilv 206 8 aA
  cases h
  exact ab (vs:=[_]) (v4,aP,aP) (rc hS.p2 T.t206 z rn z z) z (hS.to [3,3,1,0])
 have h:=aG hb h
 refine .skip (.g (.q z (.q z ?_)))
 have ⟨y6,hy6,h⟩:=bnd h
 refine .c (.cS (L0:=[.box g_0 117 [(sv aq),vi y3.2]]) hS Tryz.func39 (fun S h1 h2 h3=>(ak hy6 (hS.ks aE h1) h2 (zz h1))) z z ?_)
 rintro ⟨⟩ W hS
 refine .s (bs T.s206 z z) z (.c (.st T.t206 hS.p1 z z z ?_))
 intro W hS
 refine .nil (.ret ?_)
 have hS:=hS.nilv 204 3 aX
 have hS:=hS.nilv 206 8 aA
 have hS:=hS.nilv 206 8 aA
 cases h
 exact ab (vs:=[_]) (aP,aP,aP) (rc hS.p3 T.t206 z rn z z) z (hS.to [4,2,1,0])
def dM (F : aH → Int → Int → Int → Bool → Option ((List au) × Int)) : Prop:=∀ {a0 : aH} {a1 : Int} {a2 : Int} {a3 : Int} {a4 : Bool} {aq : Hd} {g_0 : Nat} {S : Nat → Prop} {w : World} {r : (List au) × Int} (h : F a0 a1 a2 a3 a4 = some r) (aE : RV w (Old S w) (sv aq) 5 1 (D.int .u8) a0.b) (hO : bO w [.box g_0 117 [(sv aq),vi a0.p]] S) (hlt : ∀ b,S b → b < w.heap.size) , Cl 175 #[pt g_0,vi a1,vi a2,vi a3,.bool a4] w (Ret S w (fun s : Hd=>(sv s)) (fun s=>[.box g_0 117 [(sv aq),vi r.2],ae (sv s) 206 8 aA r.1]))
def fu (F : aH → Int → Int → Bool → Option ((List au) × Int)) : Prop:=∀ {a0 : aH} {a1 : Int} {a2 : Int} {a3 : Bool} {aq : Hd} {g_0 : Nat} {S : Nat → Prop} {w : World} {r : (List au) × Int} (h : F a0 a1 a2 a3 = some r) (aE : RV w (Old S w) (sv aq) 5 1 (D.int .u8) a0.b) (hO : bO w [.box g_0 117 [(sv aq),vi a0.p]] S) (hlt : ∀ b,S b → b < w.heap.size) , Cl 199 #[pt g_0,vi a1,vi a2,.bool a3] w (Ret S w (fun s : Hd=>(sv s)) (fun s=>[.box g_0 117 [(sv aq),vi r.2],ae (sv s) 206 8 aA r.1]))
def hU (F : aH → Int → Int → Bool → Option (au × Int)) : Prop:=∀ {a0 : aH} {a1 : Int} {a2 : Int} {a3 : Bool} {aq : Hd} {g_0 : Nat} {S : Nat → Prop} {w : World} {r : au × Int} (h : F a0 a1 a2 a3 = some r) (aE : RV w (Old S w) (sv aq) 5 1 (D.int .u8) a0.b) (hO : bO w [.box g_0 117 [(sv aq),vi a0.p]] S) (hlt : ∀ b,S b → b < w.heap.size) , Cl 217 #[pt g_0,vi a1,vi a2,.bool a3] w (Ret S w (fun s : Hd × Hd × Hd=>.agg #[vi r.1.Kind,vi r.1.Var,vi r.1.Box,vi r.1.Expr.Op,vi r.1.Expr.N,(sv s.1),(sv s.2.1),(sv s.2.2)]) (fun s=>[.box g_0 117 [(sv aq),vi r.2],ae (sv s.1) 204 3 aX r.1.Expr.Args,ae (sv s.2.1) 206 8 aA r.1.Body,ae (sv s.2.2) 206 8 aA r.1.Else]))
def fv (F : aH → Int → Int → Option ((List au) × Int)) : Prop:=∀ {a0 : aH} {a1 : Int} {a2 : Int} {aq : Hd} {g_0 : Nat} {S : Nat → Prop} {w : World} {r : (List au) × Int} (h : F a0 a1 a2 = some r) (aE : RV w (Old S w) (sv aq) 5 1 (D.int .u8) a0.b) (hO : bO w [.box g_0 117 [(sv aq),vi a0.p]] S) (hlt : ∀ b,S b → b < w.heap.size) , Cl 218 #[pt g_0,vi a1,vi a2] w (Ret S w (fun s : Hd=>(sv s)) (fun s=>[.box g_0 117 [(sv aq),vi r.2],ae (sv s) 206 8 aA r.1]))
theorem rX {k : Nat} {a8 : aH → Int → Int → Int → Bool → Option ((List au) × Int)} {bi : aH → Int → Int → Bool → Option ((List au) × Int)} {bU : aH → Int → Int → Bool → Option (au × Int)} {bA : aH → Int → Int → Option ((List au) × Int)} (ec : dM a8) (iZ : fu bi) (kH : hU bU) (i3 : fv bA) : dM (fI k a8 bi bU bA):=by
 intro a0 a1 a2 a3 a4 aq g_0 S w r h aE hO hlt
 unfold fI at h
 refine ar Tryz.func175 z z ?_
 have hS:=Sep.sm hO hlt
 refine .g (.qn z (.g (.c (.lg (L1:=[]) [] aA T.u162 T.t206 (hS.to [0]) z z z (.nil) ?_ z j3))))
 intro v1 W hS
 refine .qn z (.seq (.g (.qn z (.block ?_))))
 have ⟨y1,hy1,h⟩:=bnd h
 refine .via (.iter (fun s1 E' W'=>∃ (v4 : Hd),aD E' [(0,pt g_0),(1,vi a1),(2,vi a2),(3,vi a3),(4,.bool a4),(11,(sv v4)),(12,vi s1.2.1)] ∧ Sep S w W' [.box g_0 117 [(sv aq),vi s1.2.2],ae (sv v4) 206 8 aA s1.1]) (fun y2 x E' W'=>x = .exit 0 ∧ ∃ (v5 : Hd),aD E' [(11,(sv v5))] ∧ Sep S w W' [.box g_0 117 [(sv aq),vi y2.2],ae (sv v5) 206 8 aA y2.1]) hy1 ⟨v1,sb z,hS.to [1,0]⟩ ?_) ?_
 ·intro s1 y3 E W h hI
  obtain ⟨v3,hE,hS⟩:=hI
  refine CW.sub hE ?_
  unfold j7 at h
  refine .seq (.g (.q z (.q z (.qn z (.cond z (fun hb=>?_) (fun hb=>?_))))))
  ·have h:=aF hb h
   refine .skip (.seq (.block (.region (.q z (.q z (.q z (.q z (.q z ?_))))))))
   have ⟨y4,hy4,h⟩:=bnd h
   refine .c (.cS (L0:=[.box g_0 117 [(sv aq),vi s1.2.2]]) hS Tryz.func199 (fun S h1 h2 h3=>(iZ hy4 (hS.ks aE h1) h2 (zz h1))) z z ?_)
   rintro v6 W hS
   have ⟨r1,hr1,h⟩:=bnd h
   refine .c (.appv hr1 (hS.to [2,1,0]) T.u162 T.t206 z z z ?_)
   intro v7 W hS
   refine .qn z (.region (.q z (.q z (.q z (.nil ?_)))))
   cases h
   exact ⟨z,v7,sb z,hS.to [1,0]⟩
  have h:=aG hb h
  refine .exit ?_
  cases h
  exact ⟨by simp,z,v3,sb z,hS.to [0,0]⟩
 intro x E W hJ
 obtain ⟨rfl,v8,hE,hS⟩:=hJ
 refine ⟨_,hE.sub,?_⟩
 cases h
 exact .g (.q z (.qn z (.ret (ab (vs:=[_]) v8 (rt z rn) z (hS.to [0,0])))))
def tU (w : World) (S : Nat → Prop) (aq : Hd) (g_0 : Nat) (a0 : aH) (a1 : Int) (a2 : Int) (a3 : Bool) (r : (List au) × Int) : Env → World → Prop:=Fin Tryz.prog Tryz.f199 S w (fun s : Hd=>(sv s)) (fun s=>[.box g_0 117 [(sv aq),vi r.2],ae (sv s) 206 8 aA r.1]) .ret
theorem tV {k : Nat} {a8 : aH → Int → Int → Int → Bool → Option ((List au) × Int)} {bi : aH → Int → Int → Bool → Option ((List au) × Int)} {bU : aH → Int → Int → Bool → Option (au × Int)} {bA : aH → Int → Int → Option ((List au) × Int)} (ec : dM a8) (iZ : fu bi) (kH : hU bU) (i3 : fv bA) : fu (gj k a8 bi bU bA):=by
 intro a0 a1 a2 a3 aq g_0 S w r h aE hO hlt
 unfold gj at h
 refine ar Tryz.func199 z z ?_
 have hS:=Sep.sm hO hlt
 refine .g (.q z (.nil ?_))
 have ⟨y1,hy1,h⟩:=bnd h
 refine .seq (CW.via (R':=fun x E' W'=>(match y1 with | .inl o1=>x = .normal ∧ aD E' [(0,pt g_0)] ∧ Sep S w W' [.box g_0 117 [(sv aq),vi o1]] | .inr o2=>x = .ret ∧ tU w S aq g_0 a0 a1 a2 a3 o2 E' W')) ?_ ?_)
 ·have h:=hy1
  refine .g (.q z ?_)
  have ⟨y2,hy2,h⟩:=bnd h
  refine .c (.cS (L0:=[.box g_0 117 [(sv aq),vi a0.p]]) hS Tryz.func39 (fun S h1 h2 h3=>(ak hy2 (hS.ks aE h1) h2 (zz h1))) z z ?_)
  rintro ⟨⟩ W hS
  refine .nil (.block ?_)
  have ⟨y3,hy3,h⟩:=bnd h
  refine .seq (CW.via (R':=fun x E' W'=>x = .normal ∧ aD E' [(0,pt g_0),(1,vi a1),(2,vi a2),(3,.bool a3),(10,vi y2.1),(11,.bool y3)] ∧ Sep S w W' [.box g_0 117 [(sv aq),vi y2.2]]) ?_ ?_)
  ·have h:=hy3
   refine .g (.q z (.q z (.nil ?_)))
   refine .cs z h ?_ ?_ <;> intro h
   ·refine .skip ?_
    cases h
    exact ⟨z,sb z,hS.to [0]⟩
   refine .region (.q z (.q z (.nil ?_)))
   cases h
   exact ⟨z,sb z,hS.to [0]⟩
  intro x E W hJ
  obtain ⟨rfl,hE,hS⟩:=hJ
  refine ⟨_,hE.sub,?_⟩
  refine .cond z (fun hb=>?_) (fun hb=>?_)
  ·have h:=aF hb h
   refine .g (.q z ?_)
   have ⟨y4,hy4,h⟩:=bnd h
   refine .c (.cS (L0:=[.box g_0 117 [(sv aq),vi y2.2]]) hS Tryz.func216 (fun S h1 h2 h3=>(oh hy4 (hS.ks aE h1) h2 (zz h1))) z z ?_)
   rintro ⟨v1,v2,v3⟩ W hS
   refine .c (.lg (L1:=[ae (sv v1) 204 3 aX y4.1.Expr.Args,ae (sv v2) 206 8 aA y4.1.Body,ae (sv v3) 206 8 aA y4.1.Else]) [(au.mk y4.1.Kind y4.1.Var y4.1.Box (Expr.mk y4.1.Expr.Op y4.1.Expr.N y4.1.Expr.Args) y4.1.Body y4.1.Else)] aA T.u162 T.t206 (hS.to [1,1,1,0]) z z z (.aggE (ga _) (.flat (c1:=[vi y4.1.Kind]) z (.flat (c1:=[vi y4.1.Var]) z (.flat (c1:=[vi y4.1.Box]) z (.aggE (eA _) (.flat (c1:=[vi y4.1.Expr.Op]) z (.flat (c1:=[vi y4.1.Expr.N]) z (.row (.row (.row .nil)))))))))) ?_ z j3)
   intro v4 W hS
   refine .qn z (.ret ?_)
   cases h
   exact ⟨z,ab (vs:=[_]) v4 (rt z rn) z (hS.to [1,0])⟩
  have h:=aG hb h
  refine .g (.q z (.q z (.nil ?_)))
  refine .cs z h ?_ ?_ <;> intro h
  ·refine .g (.q z (.qn z (.cond z (fun hb=>?_) (fun hb=>?_))))
   ·have h:=aF hb h
    refine .g (.q z (.q z (.q z (.q z ?_))))
    have ⟨y5,hy5,h⟩:=bnd h
    refine .c (.cS (L0:=[.box g_0 117 [(sv aq),vi y2.2]]) hS Tryz.func217 (fun S h1 h2 h3=>(kH hy5 (hS.ks aE h1) h2 (zz h1))) z z ?_)
    rintro ⟨v5,v6,v7⟩ W hS
    refine .c (.lg (L1:=[ae (sv v5) 204 3 aX y5.1.Expr.Args,ae (sv v6) 206 8 aA y5.1.Body,ae (sv v7) 206 8 aA y5.1.Else]) [(au.mk y5.1.Kind y5.1.Var y5.1.Box (Expr.mk y5.1.Expr.Op y5.1.Expr.N y5.1.Expr.Args) y5.1.Body y5.1.Else)] aA T.u162 T.t206 (hS.to [1,1,1,0]) z z z (.aggE (ga _) (.flat (c1:=[vi y5.1.Kind]) z (.flat (c1:=[vi y5.1.Var]) z (.flat (c1:=[vi y5.1.Box]) z (.aggE (eA _) (.flat (c1:=[vi y5.1.Expr.Op]) z (.flat (c1:=[vi y5.1.Expr.N]) z (.row (.row (.row .nil)))))))))) ?_ z j3)
    intro v8 W hS
    refine .qn z (.ret ?_)
    cases h
    exact ⟨z,ab (vs:=[_]) v8 (rt z rn) z (hS.to [1,0])⟩
   have h:=aG hb h
   refine .skip ?_
   cases h
   exact ⟨z,sb z,hS.to [0]⟩
  refine .g (.q z (.q z (.nil ?_)))
  refine .cs z h ?_ ?_ <;> intro h
  ·refine .g (.q z (.q z (.q z (.cu 2 33 ((decide (a2 > 0)) && a3) hS ?_ ?_))))
   ·refine .both (decide (a2 > 0)) (fun hb=>?_) (fun hb=>?_)
    ·have hg1:=hb
     exact .g hg1 (.q z (.s (pkt hg1 z z z) z (.nil (ck 2 hS z (bR hg1)))))
    exact .xx hb z (.s (pkf hb z z z) z (.nil (ck 2 hS z (bS hb))))
   intro W hS
   refine .nil (.cond z (fun hb=>?_) (fun hb=>?_))
   ·have h:=aF hb h
    refine .g (.q z (.q z (.q z ?_)))
    have ⟨y6,hy6,h⟩:=bnd h
    refine .c (.cS (L0:=[.box g_0 117 [(sv aq),vi y2.2]]) hS Tryz.func218 (fun S h1 h2 h3=>(i3 hy6 (hS.ks aE h1) h2 (zz h1))) z z ?_)
    rintro v9 W hS
    refine .qn z (.ret ?_)
    cases h
    exact ⟨z,ab (vs:=[_]) v9 (rt z rn) z (hS.to [0,0])⟩
   have h:=aG hb h
   refine .skip ?_
   cases h
   exact ⟨z,sb z,hS.to [0]⟩
  have ⟨y7,hy7,h⟩:=bnd h
  refine .seq (CW.via (R':=fun x E' W'=>x = .normal ∧ aD E' [(0,pt g_0),(1,vi a1),(10,vi y2.1),(38,.bool y7)] ∧ Sep S w W' [.box g_0 117 [(sv aq),vi y2.2]]) ?_ ?_)
  ·have h:=hy7
   refine .g (.q z (.q z (.nil ?_)))
   refine .cs z h ?_ ?_ <;> intro h
   ·refine .skip ?_
    cases h
    exact ⟨z,sb z,hS.to [0]⟩
   refine .g (.q z (.q z (.nil ?_)))
   refine .cs z h ?_ ?_ <;> intro h
   ·refine .skip ?_
    cases h
    exact ⟨z,sb z,hS.to [0]⟩
   refine .region (.q z (.q z (.nil ?_)))
   cases h
   exact ⟨z,sb z,hS.to [0]⟩
  intro x E W hJ
  obtain ⟨rfl,hE,hS⟩:=hJ
  refine ⟨_,hE.sub,?_⟩
  refine .cond z (fun hb=>?_) (fun hb=>?_)
  ·have h:=aF hb h
   refine .g (.q z (.q z ?_))
   have ⟨y8,hy8,h⟩:=bnd h
   refine .c (.cS (L0:=[.box g_0 117 [(sv aq),vi y2.2]]) hS Tryz.func219 (fun S h1 h2 h3=>(rV hy8 (hS.ks aE h1) h2 (zz h1))) z z ?_)
   rintro ⟨v10,v11,v12⟩ W hS
   refine .c (.lg (L1:=[ae (sv v10) 204 3 aX y8.1.Expr.Args,ae (sv v11) 206 8 aA y8.1.Body,ae (sv v12) 206 8 aA y8.1.Else]) [(au.mk y8.1.Kind y8.1.Var y8.1.Box (Expr.mk y8.1.Expr.Op y8.1.Expr.N y8.1.Expr.Args) y8.1.Body y8.1.Else)] aA T.u162 T.t206 (hS.to [1,1,1,0]) z z z (.aggE (ga _) (.flat (c1:=[vi y8.1.Kind]) z (.flat (c1:=[vi y8.1.Var]) z (.flat (c1:=[vi y8.1.Box]) z (.aggE (eA _) (.flat (c1:=[vi y8.1.Expr.Op]) z (.flat (c1:=[vi y8.1.Expr.N]) z (.row (.row (.row .nil)))))))))) ?_ z j3)
   intro v13 W hS
   refine .qn z (.ret ?_)
   cases h
   exact ⟨z,ab (vs:=[_]) v13 (rt z rn) z (hS.to [1,0])⟩
  have h:=aG hb h
  refine .g (.q z (.q z (.nil ?_)))
  refine .cs z h ?_ ?_ <;> intro h
  ·refine .g (.s (bs T.s206 z z) z ?_)
   have hS:=hS.nilv 204 3 aX
   have hS:=hS.nilv 206 8 aA
   have hS:=hS.nilv 206 8 aA
   refine .c (.lg (L1:=[ae (sv aP) 204 3 aX [],ae (sv aP) 206 8 aA [],ae (sv aP) 206 8 aA []]) [(au.mk 6 0 0 (Expr.mk 0 0 []) [] [])] aA T.u162 T.t206 (hS.to [2,1,0,0]) z z z (.aggE (ga _) (.flat (c1:=[vi 6]) z (.flat (c1:=[vi 0]) z (.flat (c1:=[vi 0]) z (.aggE (eA _) (.flat (c1:=[vi 0]) z (.flat (c1:=[vi 0]) z (.row (.row (.row .nil)))))))))) ?_ z j3)
   intro v14 W hS
   refine .qn z (.ret ?_)
   cases h
   exact ⟨z,ab (vs:=[_]) v14 (rt z rn) z (hS.to [1,0])⟩
  refine .skip ?_
  cases h
  exact ⟨z,sb z,hS.to [0]⟩
 intro x E W hJ
 rcases y1 with o3 | o4
 ·obtain ⟨rfl,hE,hS⟩:=hJ
  refine ⟨_,hE.sub,?_⟩
  refine .g (.q z (.q z ?_))
  have ⟨y9,hy9,h⟩:=bnd h
  refine .c (.cS (L0:=[.box g_0 117 [(sv aq),vi o3]]) hS Tryz.func39 (fun S h1 h2 h3=>(ak hy9 (hS.ks aE h1) h2 (zz h1))) z z ?_)
  rintro ⟨⟩ W hS
  refine .q z ?_
  have ⟨y10,hy10,h⟩:=bnd h
  refine .c (.cS (L0:=[.box g_0 117 [(sv aq),vi y9.2]]) hS Tryz.func220 (fun S h1 h2 h3=>(iY hy10 (hS.ks aE h1) h2 (zz h1))) z z ?_)
  rintro v15 W hS
  refine .s (bs T.s206 z z) z ?_
  have hS:=hS.nilv 206 8 aA
  have hS:=hS.nilv 206 8 aA
  refine .c (.lg (L1:=[ae (sv v15) 204 3 aX y10.1.Args,ae (sv aP) 206 8 aA [],ae (sv aP) 206 8 aA []]) [(au.mk 7 0 0 (Expr.mk y10.1.Op y10.1.N y10.1.Args) [] [])] aA T.u162 T.t206 (hS.to [3,1,0,0]) z z z (.aggE (ga _) (.flat (c1:=[vi 7]) z (.flat (c1:=[vi 0]) z (.flat (c1:=[vi 0]) z (.aggE (eA _) (.flat (c1:=[vi y10.1.Op]) z (.flat (c1:=[vi y10.1.N]) z (.row (.row (.row .nil)))))))))) ?_ z j3)
  intro v16 W hS
  cases h
  exact .qn z (.ret (ab (vs:=[_]) v16 (rt z rn) z (hS.to [1,0])))
 obtain ⟨rfl,hF⟩:=hJ
 refine ⟨_,fun _ _ h=>h,?_⟩
 cases h
 exact hF
theorem vn {k : Nat} {a8 : aH → Int → Int → Int → Bool → Option ((List au) × Int)} {bi : aH → Int → Int → Bool → Option ((List au) × Int)} {bU : aH → Int → Int → Bool → Option (au × Int)} {bA : aH → Int → Int → Option ((List au) × Int)} (ec : dM a8) (iZ : fu bi) (kH : hU bU) (i3 : fv bA) : hU (jq k a8 bi bU bA):=by
 intro a0 a1 a2 a3 aq g_0 S w r h aE hO hlt
 unfold jq at h
 refine ar Tryz.func217 z z ?_
 have hS:=Sep.sm hO hlt
 refine .g (.c (.alloc T.t206 hS ?_))
 intro g1 W hS
 refine .nil (.g (.q z (.q z ?_)))
 have ⟨y1,hy1,h⟩:=bnd h
 have hS:=hS.p1
 refine .c (.cS (L0:=[.box g_0 117 [(sv aq),vi a0.p]]) hS Tryz.func39 (fun S h1 h2 h3=>(ak hy1 (hS.ks aE h1) h2 (zz h1))) z z ?_)
 rintro ⟨⟩ W hS
 refine .q z ?_
 have ⟨y2,hy2,h⟩:=bnd h
 refine .c (.cS (L0:=[.box g_0 117 [(sv aq),vi y1.2]]) hS Tryz.func220 (fun S h1 h2 h3=>(iY hy2 (hS.ks aE h1) h2 (zz h1))) z z ?_)
 rintro v1 W hS
 refine .c (.alloc T.t204 hS ?_)
 intro g2 W hS
 refine .c (.st T.t204 hS z z z ?_)
 intro W hS
 refine .nil (.g (.q z (.q z (.q z (.q z (.q z ?_))))))
 have ⟨y3,hy3,h⟩:=bnd h
 have hS:=hS.p1
 refine .c (.cS (L0:=[.box g_0 117 [(sv aq),vi y2.2]]) hS Tryz.func39 (fun S h1 h2 h3=>(ak hy3 (hS.ks aE h1) h2 (zz h1))) z z ?_)
 rintro ⟨⟩ W hS
 refine .q z ?_
 have ⟨y4,hy4,h⟩:=bnd h
 refine .c (.cS (L0:=[.box g_0 117 [(sv aq),vi y3.2]]) hS Tryz.func175 (fun S h1 h2 h3=>(ec hy4 (hS.ks aE h1) h2 (zz h1))) z z ?_)
 rintro v2 W hS
 refine .qn z (.seq (.rk 11 hS [1,1,1,1] T.mix ?_))
 intro W hS
 have hT:=hS.to [1,1,1,1]
 refine .ts' 0 z (fun W hT=>ld T.t204 hT.p1 z z z z z) hT z (.tp' 1 z z hT (.tp' 2 z z hT (.tp' 3 z z hT (.tp' 4 z z hT (.tp' 5 z z hT (.tp' 6 z z hT (.tp' 8 z z hT ?_)))))))
 have ⟨y5,hy5,h⟩:=bnd h
 refine .by1 7 z (.cS (L0:=[.box g_0 117 [(sv aq),vi y4.2]]) hS Tryz.func39 (fun S h1 h2 h3=>(ak hy5 (hS.ks aE h1) h2 (zz h1))) z z ?_)
 rintro ⟨⟩ W hS
 have hT:=hS.to [1,1,1,1]
 refine ⟨fun _=>hT,?_⟩
 have ⟨y6,hy6,h⟩:=bnd h
 refine .by1 9 z (.cS (L0:=[.box g_0 117 [(sv aq),vi y5.2]]) hS Tryz.func175 (fun S h1 h2 h3=>(ec hy6 (hS.ks aE h1) h2 (zz h1))) z z ?_)
 rintro v3 W hS
 have hT:=hS.to [2,2,2,2]
 refine ⟨fun _=>hT,.ts' 10 z (fun W hT=>bs T.s206 z z) hT z (.by1 11 z (.st T.t206 hS.p5 z z z ?_))⟩
 intro W hS
 refine ⟨fun h=>absurd z h,?_⟩
 cases h
 exact .done (.ret (ab (vs:=[_]) (v1,v2,v3) (rc hS T.t206 z rn z z) z (hS.to [1,4,2,1])))
theorem tW {k : Nat} {a8 : aH → Int → Int → Int → Bool → Option ((List au) × Int)} {bi : aH → Int → Int → Bool → Option ((List au) × Int)} {bU : aH → Int → Int → Bool → Option (au × Int)} {bA : aH → Int → Int → Option ((List au) × Int)} (ec : dM a8) (iZ : fu bi) (kH : hU bU) (i3 : fv bA) : fv (gk k a8 bi bU bA):=by
 intro a0 a1 a2 aq g_0 S w r h aE hO hlt
 unfold gk at h
 refine ar Tryz.func218 z z ?_
 have hS:=Sep.sm hO hlt
 refine .g (.qn z (.g (.qn z (.g (.q z (.q z (.q z (.q z (.q z ?_)))))))))
 have ⟨y1,hy1,h⟩:=bnd h
 refine .c (.cS (L0:=[.box g_0 117 [(sv aq),vi a0.p]]) hS Tryz.func39 (fun S h1 h2 h3=>(ak hy1 (hS.ks aE h1) h2 (zz h1))) z z ?_)
 rintro ⟨⟩ W hS
 have ⟨y2,hy2,h⟩:=bnd h
 refine .c (.cS (L0:=[.box g_0 117 [(sv aq),vi y1.2]]) hS Tryz.func175 (fun S h1 h2 h3=>(ec hy2 (hS.ks aE h1) h2 (zz h1))) z z ?_)
 rintro v1 W hS
 refine .qn z (.g (.q z (.q z ?_)))
 have ⟨y3,hy3,h⟩:=bnd h
 refine .c (.cV hS Tryz.func238 (aZ hy3) z z ?_)
 intro v2 W hS
 have ⟨y4,hy4,h⟩:=bnd h
 refine .c (.cV hS Tryz.func238 (aZ hy4) z z ?_)
 intro v3 W hS
 have ⟨y5,hy5,h⟩:=bnd h
 have hS:=hS.p1
 refine .c (.cS (L0:=[ae (sv v2) 204 3 aX y3.Args,ae (sv v3) 204 3 aX y4.Args]) hS Tryz.func237 (fun S h1 h2 h3=>(cM hy5 h2 (zz h1))) z z ?_)
 rintro v4 W hS
 refine .s (bs T.s206 z z) z (.c (.alloc T.t206 hS ?_))
 intro g1 W hS
 refine .c (.st T.t206 hS z z z ?_)
 intro W hS
 refine .nil (.seq ?_)
 have ⟨y6,hy6,h⟩:=bnd h
 have ⟨y7,hy7,h⟩:=bnd h
 have ⟨y8,hy8,h⟩:=bnd h
 have ⟨y9,hy9,h⟩:=bnd h
 have ⟨r1,hr1,h⟩:=bnd h
 refine .via (R':=fun x E' W'=>x = .normal ∧ ∃ (g2 : Nat) (v5 : Hd) (v6 : Hd) (v7 : Hd),aD E' [(7,vi 3),(10,pt g2)] ∧ Sep S w W' [.box g_0 117 [(sv aq),vi y7.2],.box g2 206 [vi 3,vi 0,vi 0,vi y9.Op,vi y9.N,(sv v5),(sv v6),(sv v7)],ae (sv v5) 204 3 aX y9.Args,ae (sv v6) 206 8 aA r1,ae (sv v7) 206 8 aA []]) ?_ ?_
 ·refine .rk 13 hS [0] T.mix ?_
  intro W hS
  have hT:=hS.to [0]
  refine .memo (fun E' W'=>∃ (v10 : Hd) (v11 : Hd),aD E' [(7,vi 3),(30,.agg #[vi y9.Op,vi y9.N,(sv v10)]),(31,(sv v1)),(33,(sv v11))] ∧ Sep S w W' [.box g1 206 [vi 1,vi 3,vi 0,vi y5.Op,vi y5.N,(sv v4),(sv aP),(sv aP)],.box g_0 117 [(sv aq),vi y7.2],ae (sv v1) 206 8 aA y2.1,ae (sv v10) 204 3 aX y9.Args,ae (sv v11) 206 8 aA [(au.mk 1 3 0 (Expr.mk y5.Op y5.N y5.Args) [] [])]]) 4 (pM 14 [0,1,2,3,4,5,6,7,8,9]) ?_ ?_
  ·intro E W hJ
   obtain ⟨v12,v13,hE,hS⟩:=hJ
   refine .sub hE ?_
   have hT:=hS.to [0]
   refine .by [10,12] ⟨⟨_,z,?_⟩,⟨_,z,?_⟩,trivial⟩
   ·refine (.appv hr1 (hS.to [2,3,0,0,0]) T.u162 T.t206 z z z ?_)
    intro v14 W hS
    have hT:=hS.to [1]
    refine ⟨fun _=>hT,.ts' 11 z (fun W hT=>bs T.s206 z z) hT z (.by1 12 z (.alloc T.t206 hS ?_))⟩
    intro g3 W hS
    have hT:=hS.to [2]
    refine ⟨fun _=>hT,.by1 13 z (.st T.t206 hS z z z ?_)⟩
    intro W hS
    refine ⟨fun h=>absurd z h,?_⟩
    refine .done ?_
    have hS:=hS.nilv 206 8 aA
    exact ⟨z,g3,v12,v14,aP,sb z,hS.to [4,1,3,1,0]⟩
   refine (.alloc T.t206 hS ?_)
   intro g4 W hS
   have hT:=hS.to [1]
   refine ⟨fun _=>hT,.by1 10 z (.appv hr1 (hS.to [3,4,0,0,0,0]) T.u162 T.t206 z z z ?_)⟩
   intro v15 W hS
   have hT:=hS.to [2]
   refine ⟨fun _=>hT,.ts' 11 z (fun W hT=>bs T.s206 z z) hT z (.by1 13 z (.st T.t206 hS.p1 z z z ?_))⟩
   intro W hS
   refine ⟨fun h=>absurd z h,?_⟩
   refine .done ?_
   have hS:=hS.nilv 206 8 aA
   exact ⟨z,g4,v12,v15,aP,sb z,hS.to [4,1,3,1,0]⟩
  intro J1
  refine .memo (fun E' W'=>∃ (g6 : Nat) (v17 : Hd),aD E' [(7,vi 3),(10,pt g6),(30,.agg #[vi y9.Op,vi y9.N,(sv v17)]),(31,(sv v1)),(32,.agg #[vi 1,vi 3,vi 0,vi y5.Op,vi y5.N,(sv v4),(sv aP),(sv aP)])] ∧ Sep S w W' [.box g1 206 [vi 1,vi 3,vi 0,vi y5.Op,vi y5.N,(sv v4),(sv aP),(sv aP)],ae (sv v4) 204 3 aX y5.Args,.box g_0 117 [(sv aq),vi y7.2],ae (sv v1) 206 8 aA y2.1,.box g6 206 [vi 0,vi 0,vi 0,vi 0,vi 0,(sv aP),(sv aP),(sv aP)],ae (sv v17) 204 3 aX y9.Args]) 4 (pM 14 [0,1,2,3,4,5,6,7,8,12]) ?_ ?_
  ·intro E W hJ
   obtain ⟨g7,v18,hE,hS⟩:=hJ
   refine .sub hE ?_
   have hT:=hS.to [0]
   have hS:=hS.nilv 206 8 aA
   have hS:=hS.nilv 206 8 aA
   refine .by1 9 z (.lg (L1:=[ae (sv v4) 204 3 aX y5.Args,ae (sv aP) 206 8 aA [],ae (sv aP) 206 8 aA []]) [(au.mk 1 3 0 (Expr.mk y5.Op y5.N y5.Args) [] [])] aA T.u162 T.t206 (hS.to [3,1,0,0,0,0,0,0]) z z z (.aggE (ga _) (.flat (c1:=[vi 1]) z (.flat (c1:=[vi 3]) z (.flat (c1:=[vi 0]) z (.aggE (eA _) (.flat (c1:=[vi y5.Op]) z (.flat (c1:=[vi y5.N]) z (.row (.row (.row .nil)))))))))) ?_ z j3)
   intro v19 W hS
   have hT:=hS.to [1]
   refine ⟨fun _=>hT,.by1 10 z (.appv hr1 (hS.to [3,0,0,0,0,0]) T.u162 T.t206 z z z ?_)⟩
   intro v20 W hS
   have hT:=hS.to [1]
   refine ⟨fun _=>hT,.ts' 11 z (fun W hT=>bs T.s206 z z) hT z (.by1 13 z (.st T.t206 hS.p3 z z z ?_))⟩
   intro W hS
   refine ⟨fun h=>absurd z h,?_⟩
   refine .done ?_
   have hS:=hS.nilv 206 8 aA
   exact ⟨z,g7,v18,v20,aP,sb z,hS.to [4,1,3,1,0]⟩
  intro J2
  refine .memo (fun E' W'=>∃ (g9 : Nat) (v24 : Hd) (v25 : Hd) (v26 : Hd),aD E' [(7,vi 3),(10,pt g9),(25,.agg #[vi y6.Op,vi y6.N,(sv v24)]),(29,.agg #[vi y8.Op,vi y8.N,(sv v25)]),(31,(sv v1)),(33,(sv v26))] ∧ Sep S w W' [.box g1 206 [vi 1,vi 3,vi 0,vi y5.Op,vi y5.N,(sv v4),(sv aP),(sv aP)],.box g_0 117 [(sv aq),vi y7.2],ae (sv v1) 206 8 aA y2.1,.box g9 206 [vi 0,vi 0,vi 0,vi 0,vi 0,(sv aP),(sv aP),(sv aP)],ae (sv v24) 204 3 aX y6.Args,ae (sv v25) 204 3 aX y8.Args,ae (sv v26) 206 8 aA [(au.mk 1 3 0 (Expr.mk y5.Op y5.N y5.Args) [] [])]]) 4 (pM 14 [0,1,2,3,4,5,7,8,9,12]) ?_ ?_
  ·intro E W hJ
   obtain ⟨g10,v27,v28,v29,hE,hS⟩:=hJ
   refine .sub hE ?_
   have hT:=hS.to [0]
   have hS:=hS.p5
   have hS:=hS.p5
   refine .by1 6 z (.cS (L0:=[ae (sv v27) 204 3 aX y6.Args,ae (sv v28) 204 3 aX y8.Args]) hS Tryz.func237 (fun S h1 h2 h3=>(cM hy9 h2 (zz h1))) z z ?_)
   rintro v30 W hS
   have hT:=hS.to [1]
   refine ⟨fun _=>hT,.by1 10 z (.appv hr1 (hS.to [3,4,0,0,0,0]) T.u162 T.t206 z z z ?_)⟩
   intro v31 W hS
   have hT:=hS.to [2]
   refine ⟨fun _=>hT,.ts' 11 z (fun W hT=>bs T.s206 z z) hT z (.by1 13 z (.st T.t206 hS.p4 z z z ?_))⟩
   intro W hS
   refine ⟨fun h=>absurd z h,?_⟩
   refine .done ?_
   have hS:=hS.nilv 206 8 aA
   exact ⟨z,g10,v30,v31,aP,sb z,hS.to [5,1,2,1,0]⟩
  intro J3
  refine .memo (fun E' W'=>∃ (v35 : Hd) (v36 : Hd) (v37 : Hd),aD E' [(7,vi 3),(25,.agg #[vi y6.Op,vi y6.N,(sv v35)]),(29,.agg #[vi y8.Op,vi y8.N,(sv v36)]),(31,(sv v1)),(33,(sv v37))] ∧ Sep S w W' [.box g1 206 [vi 1,vi 3,vi 0,vi y5.Op,vi y5.N,(sv v4),(sv aP),(sv aP)],.box g_0 117 [(sv aq),vi y7.2],ae (sv v1) 206 8 aA y2.1,ae (sv v35) 204 3 aX y6.Args,ae (sv v36) 204 3 aX y8.Args,ae (sv v37) 206 8 aA [(au.mk 1 3 0 (Expr.mk y5.Op y5.N y5.Args) [] [])]]) 5 (pM 14 [0,1,2,3,4,5,7,8,9]) ?_ ?_
  ·intro E W hJ
   obtain ⟨v38,v39,v40,hE,hS⟩:=hJ
   refine .sub hE ?_
   have hT:=hS.to [0]
   refine .by [6,12] ⟨⟨_,z,?_⟩,⟨_,z,?_⟩,trivial⟩
   ·have hS:=hS.p4
    have hS:=hS.p4
    refine (.cS (L0:=[ae (sv v38) 204 3 aX y6.Args,ae (sv v39) 204 3 aX y8.Args]) hS Tryz.func237 (fun S h1 h2 h3=>(cM hy9 h2 (zz h1))) z z ?_)
    rintro v41 W hS
    have hT:=hS.to [1]
    refine ⟨fun _=>hT,?_⟩
    exact .atl (J1 _ _ ⟨v41,v40,sb z,hS.to [1,1,1,0,0]⟩) (by kernel_rfl)
   refine (.alloc T.t206 hS ?_)
   intro g11 W hS
   have hT:=hS.to [1]
   refine ⟨fun _=>hT,?_⟩
   exact .atl (J3 _ _ ⟨g11,v38,v39,v40,sb z,hS.to [1,1,1,0,0,0,0]⟩) (by kernel_rfl)
  intro J4
  refine .memo (fun E' W'=>∃ (g13 : Nat) (v44 : Hd) (v45 : Hd),aD E' [(7,vi 3),(10,pt g13),(25,.agg #[vi y6.Op,vi y6.N,(sv v44)]),(29,.agg #[vi y8.Op,vi y8.N,(sv v45)]),(31,(sv v1)),(32,.agg #[vi 1,vi 3,vi 0,vi y5.Op,vi y5.N,(sv v4),(sv aP),(sv aP)])] ∧ Sep S w W' [.box g1 206 [vi 1,vi 3,vi 0,vi y5.Op,vi y5.N,(sv v4),(sv aP),(sv aP)],ae (sv v4) 204 3 aX y5.Args,.box g_0 117 [(sv aq),vi y7.2],ae (sv v1) 206 8 aA y2.1,.box g13 206 [vi 0,vi 0,vi 0,vi 0,vi 0,(sv aP),(sv aP),(sv aP)],ae (sv v44) 204 3 aX y6.Args,ae (sv v45) 204 3 aX y8.Args]) 5 (pM 14 [0,1,2,3,4,5,7,8,12]) ?_ ?_
  ·intro E W hJ
   obtain ⟨g14,v46,v47,hE,hS⟩:=hJ
   refine .sub hE ?_
   have hT:=hS.to [0]
   refine .by [6,9] ⟨⟨_,z,?_⟩,⟨_,z,?_⟩,trivial⟩
   ·have hS:=hS.p6
    have hS:=hS.p6
    refine (.cS (L0:=[ae (sv v46) 204 3 aX y6.Args,ae (sv v47) 204 3 aX y8.Args]) hS Tryz.func237 (fun S h1 h2 h3=>(cM hy9 h2 (zz h1))) z z ?_)
    rintro v48 W hS
    have hT:=hS.to [1]
    refine ⟨fun _=>hT,?_⟩
    exact .atl (J2 _ _ ⟨g14,v48,sb z,hS.to [1,1,1,1,1,0]⟩) (by kernel_rfl)
   have hS:=hS.nilv 206 8 aA
   have hS:=hS.nilv 206 8 aA
   refine (.lg (L1:=[ae (sv v4) 204 3 aX y5.Args,ae (sv aP) 206 8 aA [],ae (sv aP) 206 8 aA []]) [(au.mk 1 3 0 (Expr.mk y5.Op y5.N y5.Args) [] [])] aA T.u162 T.t206 (hS.to [3,1,0,0,0,0,0,0,0]) z z z (.aggE (ga _) (.flat (c1:=[vi 1]) z (.flat (c1:=[vi 3]) z (.flat (c1:=[vi 0]) z (.aggE (eA _) (.flat (c1:=[vi y5.Op]) z (.flat (c1:=[vi y5.N]) z (.row (.row (.row .nil)))))))))) ?_ z j3)
   intro v49 W hS
   have hT:=hS.to [1]
   refine ⟨fun _=>hT,?_⟩
   exact .atl (J3 _ _ ⟨g14,v46,v47,v49,sb z,hS.to [1,1,1,1,1,1,0]⟩) (by kernel_rfl)
  intro J5
  refine .memo (fun E' W'=>∃ (g16 : Nat) (v52 : Hd) (v53 : Hd),aD E' [(7,vi 3),(10,pt g16),(25,.agg #[vi y6.Op,vi y6.N,(sv v52)]),(28,vi (w64 (1 + y7.1))),(31,(sv v1)),(33,(sv v53))] ∧ Sep S w W' [.box g1 206 [vi 1,vi 3,vi 0,vi y5.Op,vi y5.N,(sv v4),(sv aP),(sv aP)],.box g_0 117 [(sv aq),vi y7.2],ae (sv v1) 206 8 aA y2.1,.box g16 206 [vi 0,vi 0,vi 0,vi 0,vi 0,(sv aP),(sv aP),(sv aP)],ae (sv v52) 204 3 aX y6.Args,ae (sv v53) 206 8 aA [(au.mk 1 3 0 (Expr.mk y5.Op y5.N y5.Args) [] [])]]) 5 (pM 14 [0,1,2,3,4,7,8,9,12]) ?_ ?_
  ·intro E W hJ
   obtain ⟨g17,v54,v55,hE,hS⟩:=hJ
   refine .sub hE ?_
   have hT:=hS.to [0]
   refine .by1 5 z (.cV hS Tryz.func238 (aZ hy8) z z ?_)
   intro v56 W hS
   have hT:=hS.to [1]
   refine ⟨fun _=>hT,?_⟩
   have hS:=hS.p5
   refine .by1 6 z (.cS (L0:=[ae (sv v54) 204 3 aX y6.Args,ae (sv v56) 204 3 aX y8.Args]) hS Tryz.func237 (fun S h1 h2 h3=>(cM hy9 h2 (zz h1))) z z ?_)
   rintro v57 W hS
   have hT:=hS.to [1]
   refine ⟨fun _=>hT,.by1 10 z (.appv hr1 (hS.to [3,4,0,0,0,0]) T.u162 T.t206 z z z ?_)⟩
   intro v58 W hS
   have hT:=hS.to [2]
   refine ⟨fun _=>hT,.ts' 11 z (fun W hT=>bs T.s206 z z) hT z (.by1 13 z (.st T.t206 hS.p4 z z z ?_))⟩
   intro W hS
   refine ⟨fun h=>absurd z h,?_⟩
   refine .done ?_
   have hS:=hS.nilv 206 8 aA
   exact ⟨z,g17,v57,v58,aP,sb z,hS.to [5,1,2,1,0]⟩
  intro J6
  refine .memo (fun E' W'=>∃ (g19 : Nat) (v61 : Hd) (v62 : Hd),aD E' [(7,vi 3),(10,pt g19),(25,.agg #[vi y6.Op,vi y6.N,(sv v61)]),(26,pt g_0),(31,(sv v1)),(33,(sv v62))] ∧ Sep S w W' [.box g1 206 [vi 1,vi 3,vi 0,vi y5.Op,vi y5.N,(sv v4),(sv aP),(sv aP)],.box g_0 117 [(sv aq),vi y2.2],ae (sv v1) 206 8 aA y2.1,.box g19 206 [vi 0,vi 0,vi 0,vi 0,vi 0,(sv aP),(sv aP),(sv aP)],ae (sv v61) 204 3 aX y6.Args,ae (sv v62) 206 8 aA [(au.mk 1 3 0 (Expr.mk y5.Op y5.N y5.Args) [] [])]]) 7 (pM 14 [0,1,2,7,8,9,12]) ?_ ?_
  ·intro E W hJ
   obtain ⟨g20,v63,v64,hE,hS⟩:=hJ
   refine .sub hE ?_
   have hT:=hS.to [0]
   have hS:=hS.p1
   refine .by1 3 z (.cS (L0:=[.box g_0 117 [(sv aq),vi y2.2]]) hS Tryz.func39 (fun S h1 h2 h3=>(ak hy7 (hS.ks aE h1) h2 (zz h1))) z z ?_)
   rintro ⟨⟩ W hS
   have hT:=hS.to [1]
   refine ⟨fun _=>hT,.tp' 4 z z hT (.by1 5 z (.cV hS Tryz.func238 (aZ hy8) z z ?_))⟩
   intro v65 W hS
   have hT:=hS.to [2]
   refine ⟨fun _=>hT,?_⟩
   have hS:=hS.p5
   refine .by1 6 z (.cS (L0:=[ae (sv v63) 204 3 aX y6.Args,ae (sv v65) 204 3 aX y8.Args]) hS Tryz.func237 (fun S h1 h2 h3=>(cM hy9 h2 (zz h1))) z z ?_)
   rintro v66 W hS
   have hT:=hS.to [2]
   refine ⟨fun _=>hT,.by1 10 z (.appv hr1 (hS.to [3,4,0,0,0,0]) T.u162 T.t206 z z z ?_)⟩
   intro v67 W hS
   have hT:=hS.to [3]
   refine ⟨fun _=>hT,.ts' 11 z (fun W hT=>bs T.s206 z z) hT z (.by1 13 z (.st T.t206 hS.p4 z z z ?_))⟩
   intro W hS
   refine ⟨fun h=>absurd z h,?_⟩
   refine .done ?_
   have hS:=hS.nilv 206 8 aA
   exact ⟨z,g20,v66,v67,aP,sb z,hS.to [4,1,2,1,0]⟩
  intro J7
  refine .memo (fun E' W'=>∃ (v70 : Hd) (v71 : Hd),aD E' [(7,vi 3),(25,.agg #[vi y6.Op,vi y6.N,(sv v70)]),(26,pt g_0),(31,(sv v1)),(33,(sv v71))] ∧ Sep S w W' [.box g1 206 [vi 1,vi 3,vi 0,vi y5.Op,vi y5.N,(sv v4),(sv aP),(sv aP)],.box g_0 117 [(sv aq),vi y2.2],ae (sv v1) 206 8 aA y2.1,ae (sv v70) 204 3 aX y6.Args,ae (sv v71) 206 8 aA [(au.mk 1 3 0 (Expr.mk y5.Op y5.N y5.Args) [] [])]]) 8 (pM 14 [0,1,2,7,8,9]) ?_ ?_
  ·intro E W hJ
   obtain ⟨v72,v73,hE,hS⟩:=hJ
   refine .sub hE ?_
   have hT:=hS.to [0]
   refine .by [3,12] ⟨⟨_,z,?_⟩,⟨_,z,?_⟩,trivial⟩
   ·have hS:=hS.p1
    refine (.cS (L0:=[.box g_0 117 [(sv aq),vi y2.2]]) hS Tryz.func39 (fun S h1 h2 h3=>(ak hy7 (hS.ks aE h1) h2 (zz h1))) z z ?_)
    rintro ⟨⟩ W hS
    have hT:=hS.to [1]
    refine ⟨fun _=>hT,.tp' 4 z z hT (.by [5,12] ⟨⟨_,z,?_⟩,⟨_,z,?_⟩,trivial⟩)⟩
    ·refine (.cV hS Tryz.func238 (aZ hy8) z z ?_)
     intro v74 W hS
     have hT:=hS.to [2]
     refine ⟨fun _=>hT,?_⟩
     exact .atl (J4 _ _ ⟨v72,v74,v73,sb z,hS.to [2,1,1,1,0,0]⟩) (by kernel_rfl)
    refine (.alloc T.t206 hS ?_)
    intro g21 W hS
    have hT:=hS.to [2]
    refine ⟨fun _=>hT,?_⟩
    exact .atl (J6 _ _ ⟨g21,v72,v73,sb z,hS.to [2,1,1,0,0,0]⟩) (by kernel_rfl)
   refine (.alloc T.t206 hS ?_)
   intro g22 W hS
   have hT:=hS.to [1]
   refine ⟨fun _=>hT,?_⟩
   exact .atl (J7 _ _ ⟨g22,v72,v73,sb z,hS.to [1,1,1,0,0,0]⟩) (by kernel_rfl)
  intro J8
  refine .memo (fun E' W'=>∃ (g24 : Nat) (v76 : Hd),aD E' [(7,vi 3),(10,pt g24),(25,.agg #[vi y6.Op,vi y6.N,(sv v76)]),(26,pt g_0),(31,(sv v1)),(32,.agg #[vi 1,vi 3,vi 0,vi y5.Op,vi y5.N,(sv v4),(sv aP),(sv aP)])] ∧ Sep S w W' [.box g1 206 [vi 1,vi 3,vi 0,vi y5.Op,vi y5.N,(sv v4),(sv aP),(sv aP)],ae (sv v4) 204 3 aX y5.Args,.box g_0 117 [(sv aq),vi y2.2],ae (sv v1) 206 8 aA y2.1,.box g24 206 [vi 0,vi 0,vi 0,vi 0,vi 0,(sv aP),(sv aP),(sv aP)],ae (sv v76) 204 3 aX y6.Args]) 8 (pM 14 [0,1,2,7,8,12]) ?_ ?_
  ·intro E W hJ
   obtain ⟨g25,v77,hE,hS⟩:=hJ
   refine .sub hE ?_
   have hT:=hS.to [0]
   refine .by [3,9] ⟨⟨_,z,?_⟩,⟨_,z,?_⟩,trivial⟩
   ·have hS:=hS.p2
    refine (.cS (L0:=[.box g_0 117 [(sv aq),vi y2.2]]) hS Tryz.func39 (fun S h1 h2 h3=>(ak hy7 (hS.ks aE h1) h2 (zz h1))) z z ?_)
    rintro ⟨⟩ W hS
    have hT:=hS.to [1]
    refine ⟨fun _=>hT,.tp' 4 z z hT (.by [5,9] ⟨⟨_,z,?_⟩,⟨_,z,?_⟩,trivial⟩)⟩
    ·refine (.cV hS Tryz.func238 (aZ hy8) z z ?_)
     intro v78 W hS
     have hT:=hS.to [2]
     refine ⟨fun _=>hT,?_⟩
     exact .atl (J5 _ _ ⟨g25,v77,v78,sb z,hS.to [2,2,1,1,1,1,0]⟩) (by kernel_rfl)
    have hS:=hS.nilv 206 8 aA
    have hS:=hS.nilv 206 8 aA
    refine (.lg (L1:=[ae (sv v4) 204 3 aX y5.Args,ae (sv aP) 206 8 aA [],ae (sv aP) 206 8 aA []]) [(au.mk 1 3 0 (Expr.mk y5.Op y5.N y5.Args) [] [])] aA T.u162 T.t206 (hS.to [4,1,0,0,0,0,0,0]) z z z (.aggE (ga _) (.flat (c1:=[vi 1]) z (.flat (c1:=[vi 3]) z (.flat (c1:=[vi 0]) z (.aggE (eA _) (.flat (c1:=[vi y5.Op]) z (.flat (c1:=[vi y5.N]) z (.row (.row (.row .nil)))))))))) ?_ z j3)
    intro v79 W hS
    have hT:=hS.to [2]
    refine ⟨fun _=>hT,?_⟩
    exact .atl (J6 _ _ ⟨g25,v77,v79,sb z,hS.to [2,1,1,1,1,0]⟩) (by kernel_rfl)
   have hS:=hS.nilv 206 8 aA
   have hS:=hS.nilv 206 8 aA
   refine (.lg (L1:=[ae (sv v4) 204 3 aX y5.Args,ae (sv aP) 206 8 aA [],ae (sv aP) 206 8 aA []]) [(au.mk 1 3 0 (Expr.mk y5.Op y5.N y5.Args) [] [])] aA T.u162 T.t206 (hS.to [3,1,0,0,0,0,0,0]) z z z (.aggE (ga _) (.flat (c1:=[vi 1]) z (.flat (c1:=[vi 3]) z (.flat (c1:=[vi 0]) z (.aggE (eA _) (.flat (c1:=[vi y5.Op]) z (.flat (c1:=[vi y5.N]) z (.row (.row (.row .nil)))))))))) ?_ z j3)
   intro v80 W hS
   have hT:=hS.to [1]
   refine ⟨fun _=>hT,?_⟩
   exact .atl (J7 _ _ ⟨g25,v77,v80,sb z,hS.to [1,1,1,1,1,0]⟩) (by kernel_rfl)
  intro J9
  refine .tp' 0 z z hT (.tp' 2 z z hT (.tp' 7 z z hT (.ts' 8 z (fun W hT=>ld T.t206 hT z z z z z) hT z (.by [1,9,12] ⟨⟨_,z,?_⟩,⟨_,z,?_⟩,⟨_,z,?_⟩,trivial⟩))))
  ·refine (.cV hS Tryz.func238 (aZ hy6) z z ?_)
   intro v81 W hS
   have hT:=hS.to [1]
   refine ⟨fun _=>hT,.by [3,9,12] ⟨⟨_,z,?_⟩,⟨_,z,?_⟩,⟨_,z,?_⟩,trivial⟩⟩
   ·have hS:=hS.p3
    refine (.cS (L0:=[.box g_0 117 [(sv aq),vi y2.2]]) hS Tryz.func39 (fun S h1 h2 h3=>(ak hy7 (hS.ks aE h1) h2 (zz h1))) z z ?_)
    rintro ⟨⟩ W hS
    have hT:=hS.to [2]
    refine ⟨fun _=>hT,.tp' 4 z z hT (.by [5,9,12] ⟨⟨_,z,?_⟩,⟨_,z,?_⟩,⟨_,z,?_⟩,trivial⟩)⟩
    ·refine (.cV hS Tryz.func238 (aZ hy8) z z ?_)
     intro v82 W hS
     have hT:=hS.to [3]
     refine ⟨fun _=>hT,.by [6,9,12] ⟨⟨_,z,?_⟩,⟨_,z,?_⟩,⟨_,z,?_⟩,trivial⟩⟩
     ·have hS:=hS.p2
      refine (.cS (L0:=[ae (sv v81) 204 3 aX y6.Args,ae (sv v82) 204 3 aX y8.Args]) hS Tryz.func237 (fun S h1 h2 h3=>(cM hy9 h2 (zz h1))) z z ?_)
      rintro v83 W hS
      have hT:=hS.to [2]
      refine ⟨fun _=>hT,.by [9,12] ⟨⟨_,z,?_⟩,⟨_,z,?_⟩,trivial⟩⟩
      ·have hS:=hS.nilv 206 8 aA
       have hS:=hS.nilv 206 8 aA
       refine (.lg (L1:=[ae (sv v4) 204 3 aX y5.Args,ae (sv aP) 206 8 aA [],ae (sv aP) 206 8 aA []]) [(au.mk 1 3 0 (Expr.mk y5.Op y5.N y5.Args) [] [])] aA T.u162 T.t206 (hS.to [5,1,0,0,0,0,0]) z z z (.aggE (ga _) (.flat (c1:=[vi 1]) z (.flat (c1:=[vi 3]) z (.flat (c1:=[vi 0]) z (.aggE (eA _) (.flat (c1:=[vi y5.Op]) z (.flat (c1:=[vi y5.N]) z (.row (.row (.row .nil)))))))))) ?_ z j3)
       intro v84 W hS
       have hT:=hS.to [3]
       refine ⟨fun _=>hT,?_⟩
       exact .atl (J1 _ _ ⟨v83,v84,sb z,hS.to [3,2,2,1,0]⟩) (by kernel_rfl)
      refine (.alloc T.t206 hS ?_)
      intro g26 W hS
      have hT:=hS.to [3]
      refine ⟨fun _=>hT,?_⟩
      exact .atl (J2 _ _ ⟨g26,v83,sb z,hS.to [3,3,2,2,0,0]⟩) (by kernel_rfl)
     ·have hS:=hS.nilv 206 8 aA
      have hS:=hS.nilv 206 8 aA
      refine (.lg (L1:=[ae (sv v4) 204 3 aX y5.Args,ae (sv aP) 206 8 aA [],ae (sv aP) 206 8 aA []]) [(au.mk 1 3 0 (Expr.mk y5.Op y5.N y5.Args) [] [])] aA T.u162 T.t206 (hS.to [6,1,0,0,0,0,0,0]) z z z (.aggE (ga _) (.flat (c1:=[vi 1]) z (.flat (c1:=[vi 3]) z (.flat (c1:=[vi 0]) z (.aggE (eA _) (.flat (c1:=[vi y5.Op]) z (.flat (c1:=[vi y5.N]) z (.row (.row (.row .nil)))))))))) ?_ z j3)
      intro v85 W hS
      have hT:=hS.to [4]
      refine ⟨fun _=>hT,?_⟩
      exact .atl (J4 _ _ ⟨v81,v82,v85,sb z,hS.to [4,2,3,2,1,0]⟩) (by kernel_rfl)
     refine (.alloc T.t206 hS ?_)
     intro g27 W hS
     have hT:=hS.to [4]
     refine ⟨fun _=>hT,?_⟩
     exact .atl (J5 _ _ ⟨g27,v81,v82,sb z,hS.to [4,4,2,3,0,1,0]⟩) (by kernel_rfl)
    ·have hS:=hS.nilv 206 8 aA
     have hS:=hS.nilv 206 8 aA
     refine (.lg (L1:=[ae (sv v4) 204 3 aX y5.Args,ae (sv aP) 206 8 aA [],ae (sv aP) 206 8 aA []]) [(au.mk 1 3 0 (Expr.mk y5.Op y5.N y5.Args) [] [])] aA T.u162 T.t206 (hS.to [5,1,0,0,0,0,0]) z z z (.aggE (ga _) (.flat (c1:=[vi 1]) z (.flat (c1:=[vi 3]) z (.flat (c1:=[vi 0]) z (.aggE (eA _) (.flat (c1:=[vi y5.Op]) z (.flat (c1:=[vi y5.N]) z (.row (.row (.row .nil)))))))))) ?_ z j3)
     intro v86 W hS
     have hT:=hS.to [3]
     refine ⟨fun _=>hT,.by [5,12] ⟨⟨_,z,?_⟩,⟨_,z,?_⟩,trivial⟩⟩
     ·refine (.cV hS Tryz.func238 (aZ hy8) z z ?_)
      intro v87 W hS
      have hT:=hS.to [4]
      refine ⟨fun _=>hT,?_⟩
      exact .atl (J4 _ _ ⟨v81,v87,v86,sb z,hS.to [4,2,3,2,0,0]⟩) (by kernel_rfl)
     refine (.alloc T.t206 hS ?_)
     intro g28 W hS
     have hT:=hS.to [4]
     refine ⟨fun _=>hT,?_⟩
     exact .atl (J6 _ _ ⟨g28,v81,v86,sb z,hS.to [4,2,3,0,1,0]⟩) (by kernel_rfl)
    refine (.alloc T.t206 hS ?_)
    intro g29 W hS
    have hT:=hS.to [3]
    refine ⟨fun _=>hT,.by [5,9] ⟨⟨_,z,?_⟩,⟨_,z,?_⟩,trivial⟩⟩
    ·refine (.cV hS Tryz.func238 (aZ hy8) z z ?_)
     intro v88 W hS
     have hT:=hS.to [4]
     refine ⟨fun _=>hT,?_⟩
     exact .atl (J5 _ _ ⟨g29,v81,v88,sb z,hS.to [4,4,2,3,1,1,0]⟩) (by kernel_rfl)
    have hS:=hS.nilv 206 8 aA
    have hS:=hS.nilv 206 8 aA
    refine (.lg (L1:=[ae (sv v4) 204 3 aX y5.Args,ae (sv aP) 206 8 aA [],ae (sv aP) 206 8 aA []]) [(au.mk 1 3 0 (Expr.mk y5.Op y5.N y5.Args) [] [])] aA T.u162 T.t206 (hS.to [6,1,0,0,0,0,0,0]) z z z (.aggE (ga _) (.flat (c1:=[vi 1]) z (.flat (c1:=[vi 3]) z (.flat (c1:=[vi 0]) z (.aggE (eA _) (.flat (c1:=[vi y5.Op]) z (.flat (c1:=[vi y5.N]) z (.row (.row (.row .nil)))))))))) ?_ z j3)
    intro v89 W hS
    have hT:=hS.to [4]
    refine ⟨fun _=>hT,?_⟩
    exact .atl (J6 _ _ ⟨g29,v81,v89,sb z,hS.to [4,2,3,1,1,0]⟩) (by kernel_rfl)
   ·have hS:=hS.nilv 206 8 aA
    have hS:=hS.nilv 206 8 aA
    refine (.lg (L1:=[ae (sv v4) 204 3 aX y5.Args,ae (sv aP) 206 8 aA [],ae (sv aP) 206 8 aA []]) [(au.mk 1 3 0 (Expr.mk y5.Op y5.N y5.Args) [] [])] aA T.u162 T.t206 (hS.to [4,1,0,0,0,0,0]) z z z (.aggE (ga _) (.flat (c1:=[vi 1]) z (.flat (c1:=[vi 3]) z (.flat (c1:=[vi 0]) z (.aggE (eA _) (.flat (c1:=[vi y5.Op]) z (.flat (c1:=[vi y5.N]) z (.row (.row (.row .nil)))))))))) ?_ z j3)
    intro v90 W hS
    have hT:=hS.to [2]
    refine ⟨fun _=>hT,?_⟩
    exact .atl (J8 _ _ ⟨v81,v90,sb z,hS.to [2,2,2,1,0]⟩) (by kernel_rfl)
   refine (.alloc T.t206 hS ?_)
   intro g30 W hS
   have hT:=hS.to [2]
   refine ⟨fun _=>hT,?_⟩
   exact .atl (J9 _ _ ⟨g30,v81,sb z,hS.to [2,2,2,2,0,0]⟩) (by kernel_rfl)
  ·have hS:=hS.nilv 206 8 aA
   have hS:=hS.nilv 206 8 aA
   refine (.lg (L1:=[ae (sv v4) 204 3 aX y5.Args,ae (sv aP) 206 8 aA [],ae (sv aP) 206 8 aA []]) [(au.mk 1 3 0 (Expr.mk y5.Op y5.N y5.Args) [] [])] aA T.u162 T.t206 (hS.to [3,1,0,0,0,0]) z z z (.aggE (ga _) (.flat (c1:=[vi 1]) z (.flat (c1:=[vi 3]) z (.flat (c1:=[vi 0]) z (.aggE (eA _) (.flat (c1:=[vi y5.Op]) z (.flat (c1:=[vi y5.N]) z (.row (.row (.row .nil)))))))))) ?_ z j3)
   intro v91 W hS
   have hT:=hS.to [1]
   refine ⟨fun _=>hT,.by [1,12] ⟨⟨_,z,?_⟩,⟨_,z,?_⟩,trivial⟩⟩
   ·refine (.cV hS Tryz.func238 (aZ hy6) z z ?_)
    intro v92 W hS
    have hT:=hS.to [2]
    refine ⟨fun _=>hT,?_⟩
    exact .atl (J8 _ _ ⟨v92,v91,sb z,hS.to [2,2,2,0,0]⟩) (by kernel_rfl)
   refine (.alloc T.t206 hS ?_)
   intro g31 W hS
   have hT:=hS.to [2]
   refine ⟨fun _=>hT,.by1 1 z (.cV hS Tryz.func238 (aZ hy6) z z ?_)⟩
   intro v93 W hS
   have hT:=hS.to [3]
   refine ⟨fun _=>hT,?_⟩
   have hS:=hS.p4
   refine .by1 3 z (.cS (L0:=[.box g_0 117 [(sv aq),vi y2.2]]) hS Tryz.func39 (fun S h1 h2 h3=>(ak hy7 (hS.ks aE h1) h2 (zz h1))) z z ?_)
   rintro ⟨⟩ W hS
   have hT:=hS.to [4]
   refine ⟨fun _=>hT,.tp' 4 z z hT (.by1 5 z (.cV hS Tryz.func238 (aZ hy8) z z ?_))⟩
   intro v94 W hS
   have hT:=hS.to [5]
   refine ⟨fun _=>hT,?_⟩
   have hS:=hS.p2
   refine .by1 6 z (.cS (L0:=[ae (sv v93) 204 3 aX y6.Args,ae (sv v94) 204 3 aX y8.Args]) hS Tryz.func237 (fun S h1 h2 h3=>(cM hy9 h2 (zz h1))) z z ?_)
   rintro v95 W hS
   have hT:=hS.to [4]
   refine ⟨fun _=>hT,.by1 10 z (.appv hr1 (hS.to [5,3,0,0,0,0]) T.u162 T.t206 z z z ?_)⟩
   intro v96 W hS
   have hT:=hS.to [4]
   refine ⟨fun _=>hT,.ts' 11 z (fun W hT=>bs T.s206 z z) hT z (.by1 13 z (.st T.t206 hS.p3 z z z ?_))⟩
   intro W hS
   refine ⟨fun h=>absurd z h,?_⟩
   refine .done ?_
   have hS:=hS.nilv 206 8 aA
   exact ⟨z,g31,v95,v96,aP,sb z,hS.to [4,1,2,1,0]⟩
  refine (.alloc T.t206 hS ?_)
  intro g32 W hS
  have hT:=hS.to [1]
  refine ⟨fun _=>hT,.by [1,9] ⟨⟨_,z,?_⟩,⟨_,z,?_⟩,trivial⟩⟩
  ·refine (.cV hS Tryz.func238 (aZ hy6) z z ?_)
   intro v97 W hS
   have hT:=hS.to [2]
   refine ⟨fun _=>hT,?_⟩
   exact .atl (J9 _ _ ⟨g32,v97,sb z,hS.to [2,2,2,2,1,0]⟩) (by kernel_rfl)
  have hS:=hS.nilv 206 8 aA
  have hS:=hS.nilv 206 8 aA
  refine (.lg (L1:=[ae (sv v4) 204 3 aX y5.Args,ae (sv aP) 206 8 aA [],ae (sv aP) 206 8 aA []]) [(au.mk 1 3 0 (Expr.mk y5.Op y5.N y5.Args) [] [])] aA T.u162 T.t206 (hS.to [4,1,0,0,0,0,0]) z z z (.aggE (ga _) (.flat (c1:=[vi 1]) z (.flat (c1:=[vi 3]) z (.flat (c1:=[vi 0]) z (.aggE (eA _) (.flat (c1:=[vi y5.Op]) z (.flat (c1:=[vi y5.N]) z (.row (.row (.row .nil)))))))))) ?_ z j3)
  intro v98 W hS
  have hT:=hS.to [2]
  refine ⟨fun _=>hT,.by1 1 z (.cV hS Tryz.func238 (aZ hy6) z z ?_)⟩
  intro v99 W hS
  have hT:=hS.to [3]
  refine ⟨fun _=>hT,?_⟩
  have hS:=hS.p4
  refine .by1 3 z (.cS (L0:=[.box g_0 117 [(sv aq),vi y2.2]]) hS Tryz.func39 (fun S h1 h2 h3=>(ak hy7 (hS.ks aE h1) h2 (zz h1))) z z ?_)
  rintro ⟨⟩ W hS
  have hT:=hS.to [4]
  refine ⟨fun _=>hT,.tp' 4 z z hT (.by1 5 z (.cV hS Tryz.func238 (aZ hy8) z z ?_))⟩
  intro v100 W hS
  have hT:=hS.to [5]
  refine ⟨fun _=>hT,?_⟩
  have hS:=hS.p2
  refine .by1 6 z (.cS (L0:=[ae (sv v99) 204 3 aX y6.Args,ae (sv v100) 204 3 aX y8.Args]) hS Tryz.func237 (fun S h1 h2 h3=>(cM hy9 h2 (zz h1))) z z ?_)
  rintro v101 W hS
  have hT:=hS.to [4]
  refine ⟨fun _=>hT,.by1 10 z (.appv hr1 (hS.to [5,2,0,0,0,0]) T.u162 T.t206 z z z ?_)⟩
  intro v102 W hS
  have hT:=hS.to [4]
  refine ⟨fun _=>hT,.ts' 11 z (fun W hT=>bs T.s206 z z) hT z (.by1 13 z (.st T.t206 hS.p3 z z z ?_))⟩
  intro W hS
  refine ⟨fun h=>absurd z h,?_⟩
  refine .done ?_
  have hS:=hS.nilv 206 8 aA
  exact ⟨z,g32,v101,v102,aP,sb z,hS.to [4,1,2,1,0]⟩
 intro x E W hJ
 obtain ⟨rfl,g33,v103,v104,v105,hE,hS⟩:=hJ
 refine ⟨_,hE.sub,?_⟩
 refine .seq (.rk 6 hS [0,0] T.mix ?_)
 intro W hS
 have hT:=hS.to [0,0]
 refine .tp' 0 z z hT (.ts' 3 z (fun W hT=>ld T.t206 hT.p1 z z z z z) hT z ?_)
 have ⟨y10,hy10,h⟩:=bnd h
 refine .by1 1 z (.cV hS Tryz.func238 (aZ hy10) z z ?_)
 intro v106 W hS
 have hT:=hS.to [1,1]
 refine ⟨fun _=>hT,.ts' 2 z (fun W hT=>bs T.s206 z z) hT z ?_⟩
 have hS:=hS.nilv 206 8 aA
 have hS:=hS.nilv 206 8 aA
 refine .by1 4 z (.lg (L1:=[ae (sv v106) 204 3 aX y10.Args,ae (sv aP) 206 8 aA [],ae (sv aP) 206 8 aA [],ae (sv v103) 204 3 aX y9.Args,ae (sv v104) 206 8 aA r1,ae (sv v105) 206 8 aA []]) [(au.mk 1 3 0 (Expr.mk y10.Op y10.N y10.Args) [] []),(au.mk 3 0 0 (Expr.mk y9.Op y9.N y9.Args) r1 [])] aA T.u162 T.t206 (hS.to [2,1,0,2,2,2,0,0]) z z z (.aggE (ga _) (.flat (c1:=[vi 1]) z (.flat (c1:=[vi 3]) z (.flat (c1:=[vi 0]) z (.aggE (eA _) (.flat (c1:=[vi y10.Op]) z (.flat (c1:=[vi y10.N]) z (.row (.row (.row (.aggE (ga _) (.flat (c1:=[vi 3]) z (.flat (c1:=[vi 0]) z (.flat (c1:=[vi 0]) z (.aggE (eA _) (.flat (c1:=[vi y9.Op]) z (.flat (c1:=[vi y9.N]) z (.row (.row (.row .nil)))))))))))))))))))) ?_ z j3)
 intro v107 W hS
 have hT:=hS.to [1,1]
 refine ⟨fun _=>hT,?_⟩
 cases h
 exact .tp' 5 z z hT (.done (.ret (ab (vs:=[_]) v107 (rt z rn) z (hS.to [1,0]))))
theorem ol (k : Nat) : dM (dx k) ∧ fu (gI k) ∧ hU (lM k) ∧ fv (jr k):=by
  induction k with
  | zero=>exact ⟨by intro a0 a1 a2 a3 a4 aq g_0 S w r h aE hO hlt; exact no h,by intro a0 a1 a2 a3 aq g_0 S w r h aE hO hlt; exact no h,by intro a0 a1 a2 a3 aq g_0 S w r h aE hO hlt; exact no h,by intro a0 a1 a2 aq g_0 S w r h aE hO hlt; exact no h⟩
  | succ k ih=>exact ⟨rX (k:=k) ih.1 ih.2.1 ih.2.2.1 ih.2.2.2,tV (k:=k) ih.1 ih.2.1 ih.2.2.1 ih.2.2.2,vn (k:=k) ih.1 ih.2.1 ih.2.2.1 ih.2.2.2,tW (k:=k) ih.1 ih.2.1 ih.2.2.1 ih.2.2.2⟩
theorem qL {k : Nat} : dM (dx k):=(ol k).1
theorem qM {k : Nat} {a0 : aH} {a1 : Int} {aq : Hd} {g_0 : Nat} {S : Nat → Prop} {w : World} {r : (List au) × Int} (h : io k a0 a1 = some r) (aE : RV w (Old S w) (sv aq) 5 1 (D.int .u8) a0.b) (hO : bO w [.box g_0 117 [(sv aq),vi a0.p]] S) (hlt : ∀ b,S b → b < w.heap.size) : Cl 131 #[pt g_0,vi a1] w (Ret S w (fun s : Hd=>(sv s)) (fun s=>[.box g_0 117 [(sv aq),vi r.2],ae (sv s) 206 8 aA r.1])):=by
 unfold io at h
 refine ar Tryz.func131 z z ?_
 have hS:=Sep.sm hO hlt
 refine .g (.qn z (.g (.q z (.q z (.q z ?_)))))
 have ⟨y1,hy1,h⟩:=bnd h
 refine .c (.cS (L0:=[.box g_0 117 [(sv aq),vi a0.p]]) hS Tryz.func39 (fun S h1 h2 h3=>(ak hy1 (hS.ks aE h1) h2 (zz h1))) z z ?_)
 rintro ⟨⟩ W hS
 refine .q z ?_
 have ⟨y2,hy2,h⟩:=bnd h
 refine .c (.cS (L0:=[.box g_0 117 [(sv aq),vi y1.2]]) hS Tryz.func175 (fun S h1 h2 h3=>(qL hy2 (hS.ks aE h1) h2 (zz h1))) z z ?_)
 rintro v1 W hS
 refine .qn z (.seq (.block ?_))
 have ⟨y3,hy3,h⟩:=bnd h
 refine .via (.iter (fun s1 E' W'=>∃ (v4 : Hd),aD E' [(5,(sv v4))] ∧ Sep S w W' [.box g_0 117 [(sv aq),vi y2.2],ae (sv v4) 206 8 aA s1]) (fun y4 x E' W'=>x = .exit 0 ∧ ∃ (v5 : Hd),aD E' [(5,(sv v5))] ∧ Sep S w W' [.box g_0 117 [(sv aq),vi y2.2],ae (sv v5) 206 8 aA y4]) hy3 ⟨v1,sb z,hS.to [0,0]⟩ ?_) ?_
 ·intro s1 y5 E W h hI
  obtain ⟨v3,hE,hS⟩:=hI
  refine CW.sub hE ?_
  unfold j8 at h
  refine .seq (.g (.q z ?_))
  have ⟨y6,hy6,h⟩:=bnd h
  refine .c (.cO hS Tryz.func176 (mS hy6 hS.p1.lv) z z ?_)
  intro W hS
  refine .q z (.nil ?_)
  refine .cs z h ?_ ?_ <;> intro h
  ·refine .skip (.block (.region (.q z (.q z (.s (bF hS.p1.lv T.u162 z z) z (.q z ?_))))))
   have ⟨r1,hr1,h⟩:=bnd h
   refine .c (.cuto hr1 hS.p1 T.u162 T.t206 z z z z ?_)
   intro v6 hS
   refine .q z (.nil ?_)
   cases h
   exact ⟨z,v6,sb z,hS.to [1,0]⟩
  refine .exit ?_
  cases h
  exact ⟨by simp,z,v3,sb z,hS.to [0,0]⟩
 intro x E W hJ
 obtain ⟨rfl,v7,hE,hS⟩:=hJ
 refine ⟨_,hE.sub,?_⟩
 cases h
 exact .g (.q z (.qn z (.ret (ab (vs:=[_]) v7 (rt z rn) z (hS.to [0,0])))))
theorem f8 {a0 : Int} {w : World} {r : Bool} (h : bW a0 = some r) : Cl 140 #[vi a0] w (RU w (.bool r)):=by
 unfold bW at h
 refine ar Tryz.func140 z z ?_
 have hS:=Sep.start w
 refine .g (.qn z (.g (.q z ?_)))
 have ⟨y1,hy1,h⟩:=bnd h
 refine .c (.cO hS Tryz.func32 (aQ hy1) z z ?_)
 intro W hS
 obtain rfl:=o9 h
 exact .qn z (.ret (ab (vs:=[_]) () (rt z rn) z (hS.to [])))
theorem md {a0 : Int} {a1 : Bool} {w : World} {r : Bool} (h : gl a0 a1 = some r) : Cl 232 #[vi a0,.bool a1] w (RU w (.bool r)):=by
 unfold gl at h
 refine ar Tryz.func232 z z ?_
 have hS:=Sep.start w
 refine .g (.qn z (.seq (.g (.q z (.nil ?_)))))
 refine .cs z h ?_ ?_ <;> intro h
 ·refine .g (.q z ?_)
  have ⟨y1,hy1,h⟩:=bnd h
  refine .c (.cO hS Tryz.func32 (aQ hy1) z z ?_)
  intro W hS
  obtain rfl:=o9 h
  exact .qn z (.ret (ab (vs:=[_]) () (rt z rn) z (hS.to [])))
 cases h
 exact .skip (.g (.q z (.q z (.qn z (.ret (ab (vs:=[_]) () (rt z rn) z (hS.to [])))))))
theorem cQ {a0 : ah} {a1 : Bool} {a2 : Bool} {a3 : Bool} {w : World} {r : Bool} (h : cA a0 a1 a2 a3 = some r) : Cl 207 #[.agg #[vi a0.Op,vi a0.Dst,vi a0.A,vi a0.B,vi a0.N],.bool a1,.bool a2,.bool a3] w (RU w (.bool r)):=by
 unfold cA at h
 refine ar Tryz.func207 z z ?_
 have hS:=Sep.start w
 refine .g (.c (.box hS z z ?_))
 intro g1 W hS
 refine .qn z (.g (.s (fa T.f102_1 z z z) z (.s (ld T.t3 hS z z z z z) z (.q z ?_))))
 have ⟨y1,hy1,h⟩:=bnd h
 refine .c (.cO hS Tryz.func232 (md hy1) z z ?_)
 intro W hS
 refine .q z ?_
 have ⟨b1,hb1,h⟩:=bnd h
 refine .cu 5 18 (b1) hS ?_ ?_
 ·refine .both (y1) (fun hb=>?_) (fun hb=>?_)
  ·have hg1:=hb
   have h:=aF hb hb1
   refine .g hg1 (.s (fa T.f102_2 z z z) z (.g hg1 (.s (ld T.t3 hS z z z z z) z (.g hg1 (.q z ?_)))))
   have ⟨y2,hy2,h⟩:=bnd h
   refine .g hg1 (.c (.cO hS Tryz.func232 (md hy2) z z ?_))
   intro W hS
   refine .s (pkt hg1 z z z) z ?_
   cases h
   exact .nil (ck 5 hS)
  refine .xx hb z (.xx hb z (.xx hb z (.xx hb z ?_)))
  cases aG hb hb1
  exact .s (pkf hb z z z) z (.nil (ck 5 hS))
 intro W hS
 refine .q z ?_
 have ⟨b2,hb2,h⟩:=bnd h
 refine .cu 5 24 (b2) hS ?_ ?_
 ·refine .both (b1) (fun hb=>?_) (fun hb=>?_)
  ·have hg2:=hb
   have h:=aF hb hb2
   refine .g hg2 (.s (fa T.f102_3 z z z) z (.g hg2 (.s (ld T.t3 hS z z z z z) z (.g hg2 (.q z ?_)))))
   have ⟨y3,hy3,h⟩:=bnd h
   refine .g hg2 (.c (.cO hS Tryz.func232 (md hy3) z z ?_))
   intro W hS
   refine .s (pkt hg2 z z z) z ?_
   cases h
   exact .nil (ck 5 hS)
  refine .xx hb z (.xx hb z (.xx hb z (.xx hb z ?_)))
  cases aG hb hb2
  exact .s (pkf hb z z z) z (.nil (ck 5 hS))
 intro W hS
 obtain rfl:=o9 h
 exact .qn z (.ret (ab (vs:=[_]) () (rt z rn) z (hS.to [])))
theorem jU {a0 : ah} {a1 : Int} {w : World} {r : Bool} (h : ee a0 a1 = some r) : Cl 179 #[.agg #[vi a0.Op,vi a0.Dst,vi a0.A,vi a0.B,vi a0.N],vi a1] w (RU w (.bool r)):=by
 unfold ee at h
 refine ar Tryz.func179 z z ?_
 have hS:=Sep.start w
 refine .g (.c (.box hS z z ?_))
 intro g1 W hS
 refine .qn z (.seq (.g (.s (fa T.f102_0 z z z) z (.s (ld T.t3 hS z z z z z) z (.nil (.block (.g (.q z (.q z (.nil ?_))))))))))
 refine .cs z h ?_ ?_ <;> intro h
 ·refine .g (.s (ld T.t102 hS z z z z z) z ?_)
  have ⟨y1,hy1,h⟩:=bnd h
  refine .c (.cO hS Tryz.func207 (cQ hy1) z z ?_)
  intro W hS
  refine .q z ?_
  have ⟨b1,hb1,h⟩:=bnd h
  refine .cu 4 15 (b1) hS ?_ ?_
  ·refine .both (y1) (fun hb=>?_) (fun hb=>?_)
   ·have hg1:=hb
    have h:=aF hb hb1
    refine .g hg1 (.s (fa T.f102_4 z z z) z (.g hg1 (.s (ld T.t3 hS z z z z z) z ?_)))
    have ⟨y2,hy2,h⟩:=bnd h
    refine .g hg1 (.c (.cO hS Tryz.func140 (f8 hy2) z z ?_))
    intro W hS
    refine .s (pkt hg1 z z z) z ?_
    cases h
    exact .nil (ck 4 hS)
   refine .xx hb z (.xx hb z (.xx hb z ?_))
   cases aG hb hb1
   exact .s (pkf hb z z z) z (.nil (ck 4 hS))
  intro W hS
  obtain rfl:=o9 h
  exact .qn z (.ret (ab (vs:=[_]) () (rt z rn) z (hS.to [])))
 refine .g (.q z (.q z (.nil ?_)))
 refine .cs z h ?_ ?_ <;> intro h
 ·refine .g (.s (ld T.t102 hS z z z z z) z ?_)
  have ⟨y3,hy3,h⟩:=bnd h
  refine .c (.cO hS Tryz.func207 (cQ hy3) z z ?_)
  intro W hS
  refine .q z (.cu 4 24 (y3 && (a0.N == 0)) hS ?_ ?_)
  ·refine .both (y3) (fun hb=>?_) (fun hb=>?_)
   ·have hg2:=hb
    exact .g hg2 (.s (fa T.f102_4 z z z) z (.g hg2 (.s (ld T.t3 hS z z z z z) z (.g hg2 (.q z (.s (pkt hg2 z z z) z (.nil (ck 4 hS z (bR hg2)))))))))
   exact .xx hb z (.xx hb z (.xx hb z (.s (pkf hb z z z) z (.nil (ck 4 hS z (bS hb))))))
  intro W hS
  cases h
  exact .qn z (.ret (ab (vs:=[_]) () (rt z rn) z (hS.to [])))
 refine .g (.q z (.q z (.nil ?_)))
 refine .cs z h ?_ ?_ <;> intro h
 ·refine .g (.s (ld T.t102 hS z z z z z) z ?_)
  have ⟨y4,hy4,h⟩:=bnd h
  refine .c (.cO hS Tryz.func207 (cQ hy4) z z ?_)
  intro W hS
  refine .q z ?_
  have ⟨b2,hb2,h⟩:=bnd h
  refine .cu 4 33 (b2) hS ?_ ?_
  ·refine .both (y4) (fun hb=>?_) (fun hb=>?_)
   ·have hg3:=hb
    have h:=aF hb hb2
    refine .g hg3 (.s (fa T.f102_4 z z z) z (.g hg3 (.s (ld T.t3 hS z z z z z) z ?_)))
    have ⟨y5,hy5,h⟩:=bnd h
    refine .g hg3 (.c (.cO hS Tryz.func208 (lj hy5) z z ?_))
    intro W hS
    refine .s (pkt hg3 z z z) z ?_
    cases h
    exact .nil (ck 4 hS)
   refine .xx hb z (.xx hb z (.xx hb z ?_))
   cases aG hb hb2
   exact .s (pkf hb z z z) z (.nil (ck 4 hS))
  intro W hS
  obtain rfl:=o9 h
  exact .qn z (.ret (ab (vs:=[_]) () (rt z rn) z (hS.to [])))
 refine .g (.q z (.q z (.nil ?_)))
 refine .cs z h ?_ ?_ <;> intro h
 ·refine .g (.s (ld T.t102 hS z z z z z) z ?_)
  have ⟨y6,hy6,h⟩:=bnd h
  refine .c (.cO hS Tryz.func207 (cQ hy6) z z ?_)
  intro W hS
  refine .q z (.cu 4 42 (y6 && (decide (a0.N ≥ 0))) hS ?_ ?_)
  ·refine .both (y6) (fun hb=>?_) (fun hb=>?_)
   ·have hg4:=hb
    exact .g hg4 (.s (fa T.f102_4 z z z) z (.g hg4 (.s (ld T.t3 hS z z z z z) z (.g hg4 (.q z (.s (pkt hg4 z z z) z (.nil (ck 4 hS z (bR hg4)))))))))
   exact .xx hb z (.xx hb z (.xx hb z (.s (pkf hb z z z) z (.nil (ck 4 hS z (bS hb))))))
  intro W hS
  refine .q z (.cu 5 48 ((y6 && (decide (a0.N ≥ 0))) && (decide (a0.N < a1))) hS ?_ ?_)
  ·refine .both (y6 && (decide (a0.N ≥ 0))) (fun hb=>?_) (fun hb=>?_)
   ·have hg5:=hb
    exact .g hg5 (.s (fa T.f102_4 z z z) z (.g hg5 (.s (ld T.t3 hS z z z z z) z (.g hg5 (.q z (.g hg5 (.q z (.s (pkt hg5 z z z) z (.nil (ck 5 hS z (bR hg5)))))))))))
   exact .xx hb z (.xx hb z (.xx hb z (.xx hb z (.s (pkf hb z z z) z (.nil (ck 5 hS z (bS hb)))))))
  intro W hS
  cases h
  exact .qn z (.ret (ab (vs:=[_]) () (rt z rn) z (hS.to [])))
 refine .g (.q z (.q z (.nil ?_)))
 refine .cs z h ?_ ?_ <;> intro h
 ·refine .g (.s (ld T.t102 hS z z z z z) z ?_)
  have ⟨y7,hy7,h⟩:=bnd h
  refine .c (.cO hS Tryz.func207 (cQ hy7) z z ?_)
  intro W hS
  refine .q z (.cu 4 57 (y7 && (decide (a0.N ≥ 0))) hS ?_ ?_)
  ·refine .both (y7) (fun hb=>?_) (fun hb=>?_)
   ·have hg6:=hb
    exact .g hg6 (.s (fa T.f102_4 z z z) z (.g hg6 (.s (ld T.t3 hS z z z z z) z (.g hg6 (.q z (.s (pkt hg6 z z z) z (.nil (ck 4 hS z (bR hg6)))))))))
   exact .xx hb z (.xx hb z (.xx hb z (.s (pkf hb z z z) z (.nil (ck 4 hS z (bS hb))))))
  intro W hS
  refine .q z (.cu 5 63 ((y7 && (decide (a0.N ≥ 0))) && (decide (a0.N < a1))) hS ?_ ?_)
  ·refine .both (y7 && (decide (a0.N ≥ 0))) (fun hb=>?_) (fun hb=>?_)
   ·have hg7:=hb
    exact .g hg7 (.s (fa T.f102_4 z z z) z (.g hg7 (.s (ld T.t3 hS z z z z z) z (.g hg7 (.q z (.g hg7 (.q z (.s (pkt hg7 z z z) z (.nil (ck 5 hS z (bR hg7)))))))))))
   exact .xx hb z (.xx hb z (.xx hb z (.xx hb z (.s (pkf hb z z z) z (.nil (ck 5 hS z (bS hb)))))))
  intro W hS
  cases h
  exact .qn z (.ret (ab (vs:=[_]) () (rt z rn) z (hS.to [])))
 refine .g (.q z (.q z (.nil ?_)))
 refine .cs z h ?_ ?_ <;> intro h
 ·refine .g (.s (ld T.t102 hS z z z z z) z ?_)
  have ⟨y8,hy8,h⟩:=bnd h
  refine .c (.cO hS Tryz.func207 (cQ hy8) z z ?_)
  intro W hS
  refine .q z ?_
  have ⟨b3,hb3,h⟩:=bnd h
  refine .cu 4 72 (b3) hS ?_ ?_
  ·refine .both (y8) (fun hb=>?_) (fun hb=>?_)
   ·have hg8:=hb
    have h:=aF hb hb3
    refine .g hg8 (.s (fa T.f102_4 z z z) z (.g hg8 (.s (ld T.t3 hS z z z z z) z ?_)))
    have ⟨y9,hy9,h⟩:=bnd h
    refine .g hg8 (.c (.cO hS Tryz.func32 (aQ hy9) z z ?_))
    intro W hS
    refine .s (pkt hg8 z z z) z ?_
    cases h
    exact .nil (ck 4 hS)
   refine .xx hb z (.xx hb z (.xx hb z ?_))
   cases aG hb hb3
   exact .s (pkf hb z z z) z (.nil (ck 4 hS))
  intro W hS
  obtain rfl:=o9 h
  exact .qn z (.ret (ab (vs:=[_]) () (rt z rn) z (hS.to [])))
 refine .g (.q z (.q z (.nil ?_)))
 refine .cs z h ?_ ?_ <;> intro h
 ·refine .g (.s (ld T.t102 hS z z z z z) z ?_)
  have ⟨y10,hy10,h⟩:=bnd h
  refine .c (.cO hS Tryz.func207 (cQ hy10) z z ?_)
  intro W hS
  refine .q z ?_
  have ⟨b4,hb4,h⟩:=bnd h
  refine .cu 4 81 (b4) hS ?_ ?_
  ·refine .both (y10) (fun hb=>?_) (fun hb=>?_)
   ·have hg9:=hb
    have h:=aF hb hb4
    refine .g hg9 (.s (fa T.f102_4 z z z) z (.g hg9 (.s (ld T.t3 hS z z z z z) z ?_)))
    have ⟨y11,hy11,h⟩:=bnd h
    refine .g hg9 (.c (.cO hS Tryz.func32 (aQ hy11) z z ?_))
    intro W hS
    refine .s (pkt hg9 z z z) z ?_
    cases h
    exact .nil (ck 4 hS)
   refine .xx hb z (.xx hb z (.xx hb z ?_))
   cases aG hb hb4
   exact .s (pkf hb z z z) z (.nil (ck 4 hS))
  intro W hS
  obtain rfl:=o9 h
  exact .qn z (.ret (ab (vs:=[_]) () (rt z rn) z (hS.to [])))
 refine .g (.q z (.q z (.nil ?_)))
 refine .cs z h ?_ ?_ <;> intro h
 ·refine .g (.s (ld T.t102 hS z z z z z) z ?_)
  have ⟨y12,hy12,h⟩:=bnd h
  refine .c (.cO hS Tryz.func207 (cQ hy12) z z ?_)
  intro W hS
  refine .q z (.cu 4 90 (y12 && (a0.N == 0)) hS ?_ ?_)
  ·refine .both (y12) (fun hb=>?_) (fun hb=>?_)
   ·have hg10:=hb
    exact .g hg10 (.s (fa T.f102_4 z z z) z (.g hg10 (.s (ld T.t3 hS z z z z z) z (.g hg10 (.q z (.s (pkt hg10 z z z) z (.nil (ck 4 hS z (bR hg10)))))))))
   exact .xx hb z (.xx hb z (.xx hb z (.s (pkf hb z z z) z (.nil (ck 4 hS z (bS hb))))))
  intro W hS
  cases h
  exact .qn z (.ret (ab (vs:=[_]) () (rt z rn) z (hS.to [])))
 have ⟨y13,hy13,h⟩:=bnd h
 refine .seq (CW.via (R':=fun x E' W'=>x = .normal ∧ aD E' [(2,pt g1),(91,.bool y13)] ∧ Sep No w W' [.box g1 102 [vi a0.Op,vi a0.Dst,vi a0.A,vi a0.B,vi a0.N]]) ?_ ?_)
 ·have h:=hy13
  refine .g (.q z (.q z (.nil ?_)))
  refine .cs z h ?_ ?_ <;> intro h
  ·refine .skip ?_
   cases h
   exact ⟨z,sb z,hS.to [0]⟩
  refine .region (.q z (.q z (.nil ?_)))
  cases h
  exact ⟨z,sb z,hS.to [0]⟩
 intro x E W hJ
 obtain ⟨rfl,hE,hS⟩:=hJ
 refine ⟨_,hE.sub,?_⟩
 refine .cs z h ?_ ?_ <;> intro h
 ·refine .g (.s (ld T.t102 hS z z z z z) z ?_)
  have ⟨y14,hy14,h⟩:=bnd h
  refine .c (.cO hS Tryz.func207 (cQ hy14) z z ?_)
  intro W hS
  refine .q z (.cu 4 100 (y14 && (a0.N == 0)) hS ?_ ?_)
  ·refine .both (y14) (fun hb=>?_) (fun hb=>?_)
   ·have hg11:=hb
    exact .g hg11 (.s (fa T.f102_4 z z z) z (.g hg11 (.s (ld T.t3 hS z z z z z) z (.g hg11 (.q z (.s (pkt hg11 z z z) z (.nil (ck 4 hS z (bR hg11)))))))))
   exact .xx hb z (.xx hb z (.xx hb z (.s (pkf hb z z z) z (.nil (ck 4 hS z (bS hb))))))
  intro W hS
  cases h
  exact .qn z (.ret (ab (vs:=[_]) () (rt z rn) z (hS.to [])))
 obtain rfl:=o9 h
 exact .skip (.g (.qn z (.ret (ab (vs:=[_]) () (rt z rn) z (hS.to [])))))
def qN (w : World) (r : Bool) : Env → World → Prop:=Fin Tryz.prog Tryz.f137 No w (fun s : Unit=>.bool r) (fun s=>[]) .ret
theorem bZ {a0 : List ah} {v_0 : Hd} {w : World} {r : Bool} (h : bL a0 = some r) (q_0 : RO w v_0 102 5 aK a0) : Cl 137 #[(sv v_0)] w (RU w (.bool r)):=by
 unfold bL at h
 refine ar Tryz.func137 z z ?_
 have hS:=Sep.start w
 refine .g (.qn z (.g (.q z (.s (bF (hS.keep q_0) T.u78 z z) z (.qn z (.seq (.g (.q z ?_))))))))
 have ⟨y1,hy1,h⟩:=bnd h
 refine .c (.cO hS Tryz.func32 (aQ hy1) z z ?_)
 intro W hS
 refine .q z (.nil ?_)
 refine .cs z h ?_ ?_ <;> intro h
 ·obtain rfl:=o9 h
  exact .g (.qn z (.ret (ab (vs:=[_]) () (rt z rn) z (hS.to []))))
 refine .skip (.seq (.g (.qn z (.block ?_))))
 have ⟨y2,hy2,h⟩:=bnd h
 refine .via (.iter (fun s1 E' W'=>aD E' [(0,(sv v_0)),(3,vi (a0.length : Int)),(4,vi s1)] ∧ Sep No w W' []) (fun y3 x E' W'=>(match y3 with | .inl o1=>x = .ret ∧ qN w o1 E' W' | .inr o2=>x = .exit 0 ∧ aD E' [(0,(sv v_0)),(3,vi (a0.length : Int))] ∧ Sep No w W' [])) hy2 ⟨sb rfl,hS.to [] rfl⟩ ?_) ?_
 ·intro s1 y4 E W h hI
  obtain ⟨hE,hS⟩:=hI
  refine CW.sub hE ?_
  unfold js at h
  refine .seq (.g (.q z (.q z (.q z (.nil ?_)))))
  refine .cs z h ?_ ?_ <;> intro h
  ·refine .skip (.seq (.block (.g (.q z (.q z ?_)))))
   have ⟨x1,hx1,h⟩:=bnd h
   refine .s (ixv (hS.keep q_0) hx1 T.u78 T.t102 z z z) z (.s (lde (RV.flat (hS.keep q_0) hx1 z) T.t102 z z z z z) z (.q z ?_))
   have ⟨y5,hy5,h⟩:=bnd h
   refine .c (.cO hS Tryz.func179 (jU hy5) z z ?_)
   intro W hS
   refine .q z (.nil ?_)
   refine .cs z h ?_ ?_ <;> intro h
   ·refine .g (.qn z (.ret ?_))
    cases h
    exact ⟨by simp,z,ab (vs:=[_]) () (rt z rn) z (hS.to [])⟩
   refine .skip (.region (.q z (.q z (.q z (.nil ?_)))))
   cases h
   exact ⟨z,sb z,hS.to []⟩
  refine .exit ?_
  cases h
  exact ⟨by simp,z,sb z,hS.to []⟩
 intro x E W hJ
 rcases y2 with o3 | o4
 ·obtain ⟨rfl,hF⟩:=hJ
  refine ⟨_,fun _ _ h=>h,?_⟩
  cases h
  exact hF
 obtain ⟨rfl,hE,hS⟩:=hJ
 refine ⟨_,hE.sub,?_⟩
 refine .g (.q z (.q z (.q z ?_)))
 have ⟨x2,hx2,h⟩:=bnd h
 refine .s (ixv (hS.keep q_0) hx2 T.u78 T.t102 z z z) z (.s (fe T.f102_0 z z z) z (.s (lde (RV.flat (hS.keep q_0) hx2 z) T.t3 z z z z z) z (.q z (.q z ?_))))
 have ⟨b1,hb1,h⟩:=bnd h
 refine .cu 8 37 (b1) hS ?_ ?_
 ·refine .both (x2.Op == 10) (fun hb=>?_) (fun hb=>?_)
  ·refine .xx hb z (.xx hb z (.xx hb z (.xx hb z (.xx hb z (.xx hb z (.xx hb z ?_))))))
   cases aF hb hb1
   exact .s (pkt hb z z z) z (.nil (ck 8 hS))
  have hg1:=hb
  have h:=aG hb hb1
  refine .g hg1 (.q z (.g hg1 (.q z (.g hg1 (.q z ?_)))))
  have ⟨x3,hx3,h⟩:=bnd h
  refine .g hg1 (.s (ixv (hS.keep q_0) hx3 T.u78 T.t102 z z z) z (.g hg1 (.s (fe T.f102_0 z z z) z (.g hg1 (.s (lde (RV.flat (hS.keep q_0) hx3 z) T.t3 z z z z z) z (.g hg1 (.q z (.s (pkf hg1 z z z) z ?_))))))))
  cases h
  exact .nil (ck 8 hS)
 intro W hS
 obtain rfl:=o9 h
 exact .qn z (.ret (ab (vs:=[_]) () (rt z rn) z (hS.to [])))
theorem i4 {a0 : List ah} {a1 : Int} {v_0 : Hd} {w : World} {r : (List Int)} (h : dy a0 a1 = some r) (q_0 : RO w v_0 102 5 aK a0) : Cl 246 #[(sv v_0),vi a1] w (Ret No w (fun s : Hd=>(sv s)) (fun s=>[ae (sv s) 3 1 (D.int .i64) r])):=by
 unfold dy at h
 refine ar Tryz.func246 z z ?_
 have hS:=Sep.start w
 refine .g (.qn z (.g (.q z (.q z ?_))))
 have ⟨x1,hx1,h⟩:=bnd h
 refine .s (ixv (hS.keep q_0) hx1 T.u78 T.t102 z z z) z (.s (lde (RV.flat (hS.keep q_0) hx1 z) T.t102 z z z z z) z (.c (.alloc T.t102 hS ?_)))
 intro g1 W hS
 refine .c (.st T.t102 hS z z z ?_)
 intro W hS
 refine .nil (.seq (.block (.g (.s (fa T.f102_0 z z z) z (.s (ld T.t3 hS z z z z z) z (.q z (.q z (.nil ?_))))))))
 refine .cs z h ?_ ?_ <;> intro h
 ·refine .g (.c (.liv [] (D.int .i64) T.u23 T.t3 hS z z z z ?_ z (fun _=>z)))
  intro v1 W hS
  cases h
  exact .qn z (.ret (ab (vs:=[_]) v1 (rt z rn) z (hS.to [0])))
 refine .g (.s (fa T.f102_0 z z z) z (.s (ld T.t3 hS z z z z z) z (.q z (.q z (.nil ?_)))))
 refine .cs z h ?_ ?_ <;> intro h
 ·refine .g (.s (fa T.f102_4 z z z) z (.s (ld T.t3 hS z z z z z) z (.c (.liv [x1.N] (D.int .i64) T.u23 T.t3 hS z z z z ?_ z (fun _=>z)))))
  intro v2 W hS
  cases h
  exact .qn z (.ret (ab (vs:=[_]) v2 (rt z rn) z (hS.to [0])))
 refine .g (.s (fa T.f102_0 z z z) z (.s (ld T.t3 hS z z z z z) z (.q z (.q z (.cu 6 32 ((x1.Op == 5) && (decide (x1.N < (w64 (a1 + 1))))) hS ?_ ?_)))))
 ·refine .both (x1.Op == 5) (fun hb=>?_) (fun hb=>?_)
  ·have hg1:=hb
   exact .g hg1 (.s (fa T.f102_4 z z z) z (.g hg1 (.s (ld T.t3 hS z z z z z) z (.g hg1 (.q z (.g hg1 (.q z (.g hg1 (.q z (.s (pkt hg1 z z z) z (.nil (ck 6 hS z (bR hg1)))))))))))))
  exact .xx hb z (.xx hb z (.xx hb z (.xx hb z (.xx hb z (.s (pkf hb z z z) z (.nil (ck 6 hS z (bS hb))))))))
 intro W hS
 refine .q z (.nil ?_)
 refine .cs z h ?_ ?_ <;> intro h
 ·refine .g (.s (fa T.f102_4 z z z) z (.s (ld T.t3 hS z z z z z) z (.q z (.q z (.c (.liv [x1.N,w64 (a1 + 1)] (D.int .i64) T.u23 T.t3 hS z z z z ?_ z (fun _=>z)))))))
  intro v3 W hS
  cases h
  exact .qn z (.ret (ab (vs:=[_]) v3 (rt z rn) z (hS.to [0])))
 refine .g (.s (fa T.f102_0 z z z) z (.s (ld T.t3 hS z z z z z) z (.q z (.q z (.cu 6 48 ((x1.Op == 5) && (decide (x1.N > (w64 (a1 + 1))))) hS ?_ ?_)))))
 ·refine .both (x1.Op == 5) (fun hb=>?_) (fun hb=>?_)
  ·have hg2:=hb
   exact .g hg2 (.s (fa T.f102_4 z z z) z (.g hg2 (.s (ld T.t3 hS z z z z z) z (.g hg2 (.q z (.g hg2 (.q z (.g hg2 (.q z (.s (pkt hg2 z z z) z (.nil (ck 6 hS z (bR hg2)))))))))))))
  exact .xx hb z (.xx hb z (.xx hb z (.xx hb z (.xx hb z (.s (pkf hb z z z) z (.nil (ck 6 hS z (bS hb))))))))
 intro W hS
 refine .q z (.nil ?_)
 refine .cs z h ?_ ?_ <;> intro h
 ·refine .g (.q z (.q z (.s (fa T.f102_4 z z z) z (.s (ld T.t3 hS z z z z z) z (.c (.liv [w64 (a1 + 1),x1.N] (D.int .i64) T.u23 T.t3 hS z z z z ?_ z (fun _=>z)))))))
  intro v4 W hS
  cases h
  exact .qn z (.ret (ab (vs:=[_]) v4 (rt z rn) z (hS.to [0])))
 refine .skip (.g (.q z (.q z (.c (.liv [w64 (a1 + 1)] (D.int .i64) T.u23 T.t3 hS z z z z ?_ z (fun _=>z))))))
 intro v5 W hS
 cases h
 exact .qn z (.ret (ab (vs:=[_]) v5 (rt z rn) z (hS.to [0])))
theorem qO {a0 : List ah} {a1 : List aY} {a2 : Int} {v_0 : Hd} {v_1 : Hd} {w : World} {r : (List Int)} (h : ip a0 a1 a2 = some r) (q_0 : RO w v_0 102 5 aK a0) (q_1 : RO w v_1 238 2 bK a1) : Cl 250 #[(sv v_0),(sv v_1),vi a2] w (Ret No w (fun s : Hd=>(sv s)) (fun s=>[ae (sv s) 3 1 (D.int .i64) r])):=by
 unfold ip at h
 refine ar Tryz.func250 z z ?_
 have hS:=Sep.start w
 refine .g (.qn z (.g (.q z (.q z ?_))))
 have ⟨x1,hx1,h⟩:=bnd h
 refine .s (ixv (hS.keep q_0) hx1 T.u78 T.t102 z z z) z (.s (lde (RV.flat (hS.keep q_0) hx1 z) T.t102 z z z z z) z (.c (.alloc T.t102 hS ?_)))
 intro g1 W hS
 refine .c (.st T.t102 hS z z z ?_)
 intro W hS
 refine .nil (.seq (.g (.s (fa T.f102_0 z z z) z (.s (ld T.t3 hS z z z z z) z (.q z (.q z ?_))))))
 have ⟨b1,hb1,h⟩:=bnd h
 refine .cu 8 23 (b1) hS ?_ ?_
 ·refine .both (x1.Op != 5) (fun hb=>?_) (fun hb=>?_)
  ·refine .xx hb z (.xx hb z (.xx hb z (.xx hb z (.xx hb z (.xx hb z (.xx hb z ?_))))))
   cases aF hb hb1
   exact .s (pkt hb z z z) z (.nil (ck 8 hS))
  have hg1:=hb
  have h:=aG hb hb1
  refine .g hg1 (.q z (.g hg1 (.s (fa T.f102_2 z z z) z (.g hg1 (.s (ld T.t3 hS z z z z z) z ?_)))))
  have ⟨x2,hx2,h⟩:=bnd h
  refine .g hg1 (.s (ixv (hS.keep q_1) hx2 T.u220 T.t238 z z z) z (.g hg1 (.s (fe T.f238_0 z z z) z (.g hg1 (.s (lde (RV.flat (hS.keep q_1) hx2 z) T.t3 z z z z z) z (.g hg1 (.q z (.s (pkf hg1 z z z) z ?_))))))))
  cases h
  exact .nil (ck 8 hS)
 intro W hS
 refine .nil ?_
 refine .cs z h ?_ ?_ <;> intro h
 ·refine .g (.q z (.q z ?_))
  have ⟨y1,hy1,h⟩:=bnd h
  refine .c (.cV hS Tryz.func246 (i4 hy1 (hS.keep q_0)) z z ?_)
  intro v1 W hS
  obtain rfl:=o9 h
  exact .qn z (.ret (ab (vs:=[_]) v1 (rt z rn) z (hS.to [0])))
 refine .skip (.seq (.g (.q z (.s (fa T.f102_2 z z z) z (.s (ld T.t3 hS z z z z z) z ?_)))))
 have ⟨x3,hx3,h⟩:=bnd h
 refine .s (ixv (hS.keep q_1) hx3 T.u220 T.t238 z z z) z (.s (fe T.f238_1 z z z) z (.s (lde (RV.flat (hS.keep q_1) hx3 z) T.t3 z z z z z) z (.q z (.nil ?_))))
 refine .cs z h ?_ ?_ <;> intro h
 ·refine .g (.s (fa T.f102_4 z z z) z (.s (ld T.t3 hS z z z z z) z (.c (.liv [x1.N] (D.int .i64) T.u23 T.t3 hS z z z z ?_ z (fun _=>z)))))
  intro v2 W hS
  cases h
  exact .qn z (.ret (ab (vs:=[_]) v2 (rt z rn) z (hS.to [0])))
 refine .skip (.g (.q z (.q z (.c (.liv [w64 (a2 + 1)] (D.int .i64) T.u23 T.t3 hS z z z z ?_ z (fun _=>z))))))
 intro v3 W hS
 cases h
 exact .qn z (.ret (ab (vs:=[_]) v3 (rt z rn) z (hS.to [0])))
theorem oo {a0 : Bool} {w : World} {r : Int} (h : fx a0 = some r) : Cl 264 #[.bool a0] w (RU w (.int .i64 r)):=by
 unfold fx at h
 refine ar Tryz.func264 z z ?_
 have hS:=Sep.start w
 refine .g (.qn z (.seq (.g (.q z (.nil ?_)))))
 refine .cs z h ?_ ?_ <;> intro h
 ·cases h
  exact .g (.qn z (.ret (ab (vs:=[_]) () (rt z rn) z (hS.to []))))
 cases h
 exact .skip (.g (.qn z (.ret (ab (vs:=[_]) () (rt z rn) z (hS.to [])))))
theorem nC {a0 : Int} {a1 : Int} {a2 : Bool} {w : World} {r : Int} (h : eF a0 a1 a2 = some r) : Cl 265 #[vi a0,vi a1,.bool a2] w (RU w (.int .i64 r)):=by
 unfold eF at h
 refine ar Tryz.func265 z z ?_
 have hS:=Sep.start w
 refine .g (.qn z (.seq (.g (.q z (.nil ?_)))))
 refine .cs z h ?_ ?_ <;> intro h
 ·refine .g (.q z (.q z (.q z ?_)))
  have ⟨d1,hd1,h⟩:=bnd h
  obtain rfl:=o9 h
  exact .s (kA hd1 z z z) z (.qn z (.ret (ab (vs:=[_]) () (rt z rn) z (hS.to []))))
 refine .skip (.g (.q z (.q z (.q z ?_))))
 have ⟨d2,hd2,h⟩:=bnd h
 refine .s (kA hd2 z z z) z ?_
 have ⟨y1,hy1,h⟩:=bnd h
 refine .c (.cO hS Tryz.func72 (eI hy1) z z ?_)
 intro W hS
 obtain rfl:=o9 h
 exact .qn z (.ret (ab (vs:=[_]) () (rt z rn) z (hS.to [])))
theorem qP {a0 : Int} {a1 : Int} {w : World} {r : Int} (h : fR a0 a1 = some r) : Cl 266 #[vi a0,vi a1] w (RU w (.int .i64 r)):=by
 unfold fR at h
 refine ar Tryz.func266 z z ?_
 have hS:=Sep.start w
 refine .g (.qn z (.seq (.g (.q z (.q z (.nil ?_))))))
 refine .cs z h ?_ ?_ <;> intro h
 ·cases h
  exact .g (.qn z (.ret (ab (vs:=[_]) () (rt z rn) z (hS.to []))))
 refine .skip (.g (.q z (.q z ?_)))
 have ⟨d1,hd1,h⟩:=bnd h
 refine .s (dq hd1 z z z) z ?_
 have ⟨y1,hy1,h⟩:=bnd h
 refine .c (.cO hS Tryz.func72 (eI hy1) z z ?_)
 intro W hS
 obtain rfl:=o9 h
 exact .qn z (.ret (ab (vs:=[_]) () (rt z rn) z (hS.to [])))
theorem qQ {a0 : Int} {a1 : Int} {w : World} {r : Int} (h : fS a0 a1 = some r) : Cl 267 #[vi a0,vi a1] w (RU w (.int .i64 r)):=by
 unfold fS at h
 refine ar Tryz.func267 z z ?_
 have hS:=Sep.start w
 refine .g (.qn z (.seq (.g (.q z (.q z (.nil ?_))))))
 refine .cs z h ?_ ?_ <;> intro h
 ·obtain rfl:=o9 h
  exact .g (.q z (.qn z (.ret (ab (vs:=[_]) () (rt z rn) z (hS.to [])))))
 refine .skip (.g (.q z (.q z ?_)))
 have ⟨d1,hd1,h⟩:=bnd h
 obtain rfl:=o9 h
 exact .s (dr hd1 z z z) z (.qn z (.ret (ab (vs:=[_]) () (rt z rn) z (hS.to []))))
end

end Go.Proofs.YtgcmopfhafoabaaGreatDoor.N
