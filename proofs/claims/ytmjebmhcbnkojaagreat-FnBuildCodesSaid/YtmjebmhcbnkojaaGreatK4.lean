/- Plain laws: copies: what is known of registers that hold the same; the reference's are the least. Plain laws: the program's copies are the least too; the pass o -/
import Derived.Test.YtmjebmhcbnkojaaGreatK3
set_option linter.unusedVariables false
set_option linter.unusedSimpArgs false
set_option maxRecDepth 100000
set_option maxHeartbeats 4000000
namespace Go.Proofs.YtmjebmhcbnkojaaGreat.N
open Go.Proofs.YtmjebmhcbnkojaaGreat.X
noncomputable section
def CO (r:Nat) (a:ai):Prop:=(a.Kind=0/\a.N=0)\/(a.Kind=1/\Rg a.N/\a.N≠r)\/(a.Kind=2/\a.N=0)
def dec (r:Nat) (a:ai):Int:=if a.Kind=1 then a.N else r
def enc (r:Nat) (c:Int):ai:=if c=r then ⟨2,0⟩ else ⟨1,c⟩
theorem CO.fok {r:Nat} {a:ai} (h:CO r a):FOk a:=by
 rcases h with h | h | h
 ·exact .inl h
 ·refine .inr (.inl ⟨h.1,?_⟩)
  have:=h.2.1
  unfold Rg at this
  unfold Wd
  omega
 ·exact .inr (.inr h)
theorem CO.inj {r:Nat} {a b:ai} (ha:CO r a) (hb:CO r b) (ka:a.Kind≠0) (kb:b.Kind≠0) (h:dec r a=dec r b):a=b:=by
 unfold dec at h
 unfold CO at ha hb
 apply ai.ext'
 ·split at h <;> split at h <;> omega
 ·split at h <;> split at h <;> omega
theorem zY {r:Nat} (hr:r<12) {a:ai} (h:CO r a):Rg (dec r a):=by
 unfold dec
 unfold CO at h
 split
 ·have:a.Kind=1:=by assumption
  have h':Rg a.N:=by rcases h with h | h | h <;> first | omega | exact h.2.1
  exact h'
 ·unfold Rg; omega
theorem CO.join {r:Nat} {a b:ai} (ha:CO r a) (hb:CO r b):CO r (aU a b):=by
 unfold aU
 split
 ·exact hb
 ·split
  ·exact ha
  ·exact .inr (.inr ⟨rfl,rfl⟩)
theorem tl {r:Nat} {a b:ai} (ha:CO r a) (hb:CO r b) (ka:a.Kind≠0) (kb:b.Kind≠0):dec r (aU a b)=if dec r a=dec r b then dec r a else r:=by
 unfold aU
 rw [if_neg ka]
 by_cases h:a=b
 ·rw [if_pos (.inr h),h,if_pos rfl]
 ·rw [if_neg (λh'=>h'.elim kb h),if_neg (λh'=>h (ha.inj hb ka kb h'))]
  rfl
theorem xp {r:Nat} {a b:ai} (ha:CO r a) (hb:CO r b) (ka:a.Kind≠0) (kb:b.Kind≠0) (h:dec r a=dec r b\/dec r a=r):aU a b=a:=by
 refine (ha.join hb).inj ha (gh kb) ka ?_
 rw [tl ha hb ka kb]
 split
 ·rfl
 ·rename_i hn
  exact (h.resolve_left hn).symm
abbrev FoC (f:Nat->ai):Prop:=∀ r,r<12->CO r (f r)
def j3 (q:ab) (f:Nat->ai) (r:Nat):ai:=if 0<=aB q then (if r=(aB q).toNat then (if q.Op=2 then enc r q.A else ⟨2,0⟩) else if dec r (f r)=aB q then ⟨2,0⟩ else f r) else f r
theorem zZ {r:Nat} {c:Int} (h:Rg c):CO r (enc r c):=by
 unfold enc
 split
 ·exact .inr (.inr ⟨rfl,rfl⟩)
 ·exact .inr (.inl ⟨rfl,h,by assumption⟩)
theorem yx {r:Nat} {c:Int}:(enc r c).Kind≠0:=by
 unfold enc
 split
 ·show (2:Int)≠0; decide
 ·show (1:Int)≠0; decide
theorem wX {r:Nat} {c:Int}:dec r (enc r c)=c:=by
 unfold enc
 split
 ·rename_i h; exact h.symm
 ·rfl
theorem j3.ok {q:ab} {m:Int} (h:QOk m q) {f:Nat->ai} (hf:FoC f):FoC (j3 q f):=λr hr=>by
 obtain ⟨_,r2,_⟩:=gg h
 unfold j3
 split
 ·split
  ·split
   ·rename_i e; exact zZ (r2 e).2
   ·exact .inr (.inr ⟨rfl,rfl⟩)
  ·split
   ·exact .inr (.inr ⟨rfl,rfl⟩)
   ·exact hf r hr
 ·exact hf r hr
theorem j3.full {q:ab} {f:Nat->ai} (hf:pz f):pz (j3 q f):=λr hr=>by
 unfold j3
 split
 ·split
  ·split
   ·exact yx
   ·show (2:Int)≠0; decide
  ·split
   ·show (2:Int)≠0; decide
   ·exact hf r hr
 ·exact hf r hr
theorem j3.mono {q:ab} {f g:Nat->ai} (hf:pz f) (h:gQ f g):gQ (j3 q f) (j3 q g):=λr hr=>by
 unfold j3
 split
 ·split
  ·exact .refl _
  ·rename_i hne
   rcases h r hr with h1 | h1 | h1
   ·exact absurd h1 (hf r hr)
   ·rw [h1]; exact .refl _
   ·right; right
    split
    ·rfl
    ·exact h1
 ·exact h r hr
def cC:Nat->ai:=λ_=>⟨2,0⟩
structure ClC (eQ:List ab) (X:Nat->Nat->ai):Prop where
 ok:∀ i,i<eQ.length->FoC (X i)
 init:gQ cC (X 0)
 step:∀ (i:Nat) q,eQ[i]?=some q->(X i 0).Kind≠0->∀ y∈nx q i,gQ (j3 q (X i)) (X y.toNat)
structure GdC (eQ:List ab) (S:Nat->Nat->ai):Prop where
 ok:∀ i,i<eQ.length->FoC (S i)
 full:∀ i,i<eQ.length->(S i 0).Kind≠0->pz (S i)
 zero:∀ i,i<eQ.length->(S i 0).Kind=0->∀ r,r<12->(S i r).Kind=0
 init:gQ cC (S 0)
 min:∀ X,ClC eQ X->∀ i,i<eQ.length->gQ (S i) (X i)
structure GVC (eQ:List ab) (y:Nat) (v:Nat->ai):Prop where
 ok:FoC v
 full:pz v
 le:∀ X,ClC eQ X->gQ v (X y)
theorem yy {eQ:List ab} (hc:COk eQ) {S:Nat->Nat->ai} (h:GdC eQ S) {i:Nat} {q:ab} (hi:eQ[i]?=some q) (hk:(S i 0).Kind≠0) {y:Int} (hy:y∈nx q i):GVC eQ y.toNat (j3 q (S i)):=by
 have hlt:=bM hi
 have hq:=hc.q q (List.mem_of_getElem? hi)
 have hf:=h.full i hlt hk
 refine ⟨j3.ok hq (h.ok i hlt),j3.full hf,λX hX=>?_⟩
 have hle:=h.min X hX i hlt
 have hX0:=wT hf hle 0 (by decide)
 have h1:=hX.step i q hi hX0 y hy
 have h2:=j3.mono (q:=q) hf hle
 exact λr hr=>leF.trans (j3.ok hq (hX.ok i hlt) r hr).fok (h2 r hr) (h1 r hr)
theorem GdC.up {eQ:List ab} {S:Nat->Nat->ai} (h:GdC eQ S) {y:Nat} {v:Nat->ai} (hv:GVC eQ y v):GdC eQ (up1 S y v):=by
 refine ⟨λi hi=>?_,λi hi hk=>?_,λi hi hk=>?_,λr hr=>?_,λX hX i hi=>?_⟩
 ·unfold up1
  split
  ·rename_i e
   subst e
   exact λr hr=>(h.ok _ hi r hr).join (hv.ok r hr)
  ·exact h.ok i hi
 ·unfold up1 at hk ⊢
  split
  ·exact λr hr=>gh (hv.full r hr)
  ·rename_i e
   rw [if_neg e] at hk
   exact h.full i hi hk
 ·unfold up1 at hk ⊢
  split
  ·rename_i e
   rw [if_pos e] at hk
   exact absurd hk (gh (hv.full 0 (by decide)))
  ·rename_i e
   rw [if_neg e] at hk
   exact h.zero i hi hk
 ·unfold up1
  split
  ·rename_i e
   subst e
   rcases h.init r hr with h1 | h1 | h1
   ·exact absurd h1 (by show (2:Int)≠0; decide)
   ·rw [h1]; exact aU.le1
   ·rcases @aU.le1 (S 0 r) (v r) with h2 | h2 | h2
    ·rw [h1] at h2; cases h2
    ·right; right; show (aU (S 0 r) (v r)).Kind=2; rw [<-h2]; exact h1
    ·exact .inr (.inr h2)
  ·exact h.init r hr
 ·unfold up1
  split
  ·rename_i e
   subst e
   exact λr hr=>aU.lub (h.min X hX _ hi r hr) (hv.le X hX r hr)
  ·exact h.min X hX i hi
def Cs (l:List Int) (f:Nat->ai):Prop:=l.length=12/\∀ r,r<12->l[r]?=some (dec r (f r))
theorem Cs.get {l:List Int} {f:Nat->ai} (h:Cs l f) {x:Int} (hx:Rg x):nth l x=some (dec x.toNat (f x.toNat)):=by
 unfold Rg at hx
 unfold nth
 rw [if_neg (by omega),h.2 x.toNat (by omega)]
def AC (n:Nat) (all:List (List Int)) (S:Nat->Nat->ai):Prop:=all.length=n/\∀ i,i<n->∃ l,all[i]?=some l/\((S i 0).Kind=0->l=[])/\((S i 0).Kind≠0->Cs l (S i))
theorem Cs.congr {l:List Int} {f g:Nat->ai} (h:Cs l f) (he:∀ r,r<12->f r=g r):Cs l g:=⟨h.1,λr hr=>by rw [h.2 r hr,he r hr]⟩
theorem AC.congr {n:Nat} {all:List (List Int)} {S S':Nat->Nat->ai} (h:AC n all S) (he:∀ i,i<n->∀ r,r<12->S i r=S' i r):AC n all S':=⟨h.1,λi hi=>by
 obtain ⟨l,e,h1,h2⟩:=h.2 i hi
 have h0:=he i hi 0 (by decide)
 exact ⟨l,e,λhk=>h1 (by rw [h0]; exact hk),λhk=>(h2 (by rw [h0]; exact hk)).congr (he i hi)⟩⟩
theorem AC.get {n:Nat} {all:List (List Int)} {S:Nat->Nat->ai} (h:AC n all S) {x:Int} (h0:0<=x) (h1:x<n):∃ l,nth all x=some l/\all[x.toNat]?=some l/\((S x.toNat 0).Kind=0->l=[])/\((S x.toNat 0).Kind≠0->Cs l (S x.toNat)):=by
 obtain ⟨l,e,hl⟩:=h.2 x.toNat (by omega)
 exact ⟨l,by unfold nth; rw [if_neg (by omega)]; exact e,e,hl⟩
theorem Cs.rsok {l:List Int} {f:Nat->ai} (h:Cs l f) (hf:FoC f):kP l:=⟨h.1,λx hx=>by
 obtain ⟨i,hi,e⟩:=List.mem_iff_getElem.1 hx
 have h1:=h.1
 have h2:=h.2 i (by omega)
 rw [List.getElem?_eq_getElem hi,e] at h2
 rw [o9 h2]
 exact zY (by omega) (hf i (by omega))⟩
theorem AC.csok {eQ:List ab} {all:List (List Int)} {S:Nat->Nat->ai} (h:AC eQ.length all S) (hg:GdC eQ S):l6 eQ.length all:=⟨h.1,λl hl=>by
 obtain ⟨i,hi,e⟩:=List.mem_iff_getElem.1 hl
 have hl1:=h.1
 obtain ⟨l',e',k1,k2⟩:=h.2 i (by omega)
 rw [List.getElem?_eq_getElem hi,e] at e'
 obtain rfl:=o9 e'
 by_cases hk:(S i 0).Kind=0
 ·exact .inl (k1 hk)
 ·exact .inr ((k2 hk).rsok (hg.ok i (by omega)))⟩
theorem AC.set {n:Nat} {all:List (List Int)} {S S':Nat->Nat->ai} (h:AC n all S) {y:Int} (h0:0<=y) (h1:y<n) {l:List Int} (hk:(S' y.toNat 0).Kind≠0) (hl:Cs l (S' y.toNat)) (hS:∀ i,i≠y.toNat->S' i=S i):AC n (all.set y.toNat l) S':=by
 refine ⟨by rw [List.length_set]; exact h.1,λi hi=>?_⟩
 by_cases e:i=y.toNat
 ·subst e
  exact ⟨l,List.getElem?_set_self (by rw [h.1]; exact hi),λh=>absurd h hk,λ_=>hl⟩
 ·obtain ⟨l',el,hl'⟩:=h.2 i hi
  exact ⟨l',by rw [List.getElem?_set_ne (λh=>e h.symm)]; exact el,by rw [hS i e]; exact hl'⟩
theorem zy:Tot fu λl=>Cs l cC:=by
 unfold fu
 refine .bind (P:=λl=>Cs l cC) (.iter (λs=>0<=s.2/\s.2<=12/\s.1.length=s.2.toNat/\∀ r:Nat,(r:Int)<s.2->s.1[r]?=some (r:Int)) (λs=>(12-s.2).toNat) ⟨by simp,by simp,by simp,λr hr=>by simp only at hr; omega⟩ λs hs=>?_) λr hr=>.pure hr
 obtain ⟨l,i⟩:=s
 obtain ⟨g0,g1,g2,g3⟩:=hs
 simp only at g0 g1 g2 g3
 unfold jP
 refine .sel (λh=>?_) λh=>.inr (show Cs l cC from ?_)
 ·simp only [decide_eq_true_eq] at h
  refine .bind (.app (by simp [g2]; omega)) λr hr=>.inl ?_
  subst hr
  rw [ao g0 (by omega)]
  refine ⟨⟨by simp only; omega,by simp only; omega,by simp [g2]; omega,λk hk=>?_⟩,by simp only; omega⟩
  simp only at hk ⊢
  by_cases e:(k:Int)<i
  ·rw [List.getElem?_append_left (by omega)]; exact g3 k e
  ·rw [List.getElem?_append_right (by omega),show k-l.length=0 by omega,List.getElem?_cons_zero]
   congr 1
   omega
 ·simp only [decide_eq_false_iff_not] at h
  exact ⟨by omega,λr hr=>by rw [g3 r (by omega)]; rfl⟩
theorem z8 {q:ab} {m:Int} (hq:QOk m q) (hm:m<=600) {l:List Int} {f:Nat->ai} (hl:Cs l f):Tot (fK q l) λl'=>Cs l' (j3 q f):=by
 obtain ⟨_,r2,_⟩:=gg hq
 unfold fK
 refine .bind (.app (by simp [hl.1])) λr hr=>?_
 rw [List.nil_append] at hr
 subst hr
 rw [uC q hq hm,ob9]
 show Tot (sel (decide (aB q<0)) _ _) _
 rcases lJ hq with hs | hd'
 ·refine .st (by rw [hs]; decide) (.pure (hl.congr λr hr=>?_))
  unfold j3
  rw [hs,if_neg (by omega)]
 have hd0:=hd'
 unfold Rg at hd0
 refine .sf (by simp; omega) (.bind (P:=λl2:List Int=>l2.length=12/\∀ r,r<12->l2[r]?=some (if dec r (f r)=aB q then (r:Int) else dec r (f r))) (.iter (λs=>0<=s.1/\s.1<=12/\s.2.length=12/\∀ r:Nat,r<12->s.2[r]?=some (if (r:Int)<s.1/\dec r (f r)=aB q then (r:Int) else dec r (f r))) (λs=>(12-s.1).toNat) ⟨by simp,by simp,hl.1,λr hr=>?_⟩ λs hs=>?_) λl2 h2=>?_)
 ·rw [hl.2 r hr,if_neg (λh=>by have:=h.1; simp only at this; omega)]
 ·obtain ⟨i,l'⟩:=s
  obtain ⟨g0,g1,g2,g3⟩:=hs
  simp only at g0 g1 g2 g3
  unfold i6
  refine .sel (λh=>?_) λh=>.inr ⟨g2,λr hr=>?_⟩
  ·simp only [decide_eq_true_eq] at h
   have hi:0<=i/\i<l'.length:=by rw [g2]; omega
   refine .bind (P:=λz=>z.length=12/\∀ r:Nat,r<12->z[r]?=some (if (r:Int)<i+1/\dec r (f r)=aB q then (r:Int) else dec r (f r))) (.bind (.nth hi.1 hi.2) λx ⟨hx,_⟩=>?_) λr hr=>.inl ?_
   ·have hx':x=dec i.toNat (f i.toNat):=by
     rw [g3 i.toNat (by omega),if_neg (λh=>by have:=h.1; omega)] at hx
     exact (o9 hx).symm
    refine .sel (λhe=>.bind (.nth hi.1 hi.2) λ_ _=>.bind (.upd hi.1 hi.2) λr hr=>.pure ?_) λhe=>.pure ⟨g2,λr hr=>?_⟩
    ·have he':x=aB q:=by simpa [aB] using he
     subst hr
     refine ⟨by rw [List.length_set]; exact g2,λr hr=>?_⟩
     by_cases e:r=i.toNat
     ·subst e
      have hcc:((i.toNat:Nat):Int)<i+1/\dec i.toNat (f i.toNat)=aB q:=⟨by omega,by rw [<-hx']; exact he'⟩
      rw [List.getElem?_set_self (show i.toNat<l'.length by omega),if_pos hcc]
      congr 1
      omega
     ·rw [List.getElem?_set_ne (λh=>e h.symm),g3 r hr]
      congr 1
      by_cases e2:dec r (f r)=aB q
      ·by_cases e3:(r:Int)<i
       ·rw [if_pos ⟨e3,e2⟩,if_pos ⟨by omega,e2⟩]
       ·rw [if_neg (λh=>e3 h.1),if_neg (λh=>by have:=h.1; omega)]
      ·rw [if_neg (λh=>e2 h.2),if_neg (λh=>e2 h.2)]
    ·have he':x≠aB q:=by simpa [aB] using he
     rw [g3 r hr]
     congr 1
     by_cases e2:dec r (f r)=aB q
     ·have e3:r≠i.toNat:=by
       rintro rfl
       exact he' (by rw [hx']; exact e2)
      by_cases e4:(r:Int)<i
      ·rw [if_pos ⟨e4,e2⟩,if_pos ⟨by omega,e2⟩]
      ·rw [if_neg (λh=>e4 h.1),if_neg (λh=>by have:=h.1; omega)]
     ·rw [if_neg (λh=>e2 h.2),if_neg (λh=>e2 h.2)]
   ·rw [ao g0 (by omega)]; exact ⟨⟨by simp only; omega,by simp only; omega,hr⟩,by simp only; omega⟩
  ·simp only [decide_eq_false_iff_not] at h
   rw [g3 r hr]
   congr 1
   by_cases e2:dec r (f r)=aB q
   ·rw [if_pos ⟨by omega,e2⟩,if_pos e2]
   ·rw [if_neg (λh=>e2 h.2),if_neg e2]
 ·show Tot ((nth l2 (aB q)).bind λx3=>(X.upd l2 (aB q) (aB q)).bind λr3=>sel (q.Op==2) ((nth r3 (aB q)).bind λx4=>(X.upd r3 (aB q) q.A).bind λr4=>some r4) <| some r3) _
  refine .bind (.nth (by omega) (by rw [h2.1]; omega)) λ_ _=>.bind (.upd (by omega) (by rw [h2.1]; omega)) λl3 h3=>?_
  have hb:∀ r,j3 q f r=if r=(aB q).toNat then (if q.Op=2 then enc r q.A else ⟨2,0⟩) else if dec r (f r)=aB q then ⟨2,0⟩ else f r:=λr=>by
   unfold j3
   rw [if_pos hd0.1]
  have h3l:l3.length=12:=by rw [h3,List.length_set]; exact h2.1
  have h3g:∀ r,r<12->r≠(aB q).toNat->l3[r]?=some (dec r (j3 q f r)):=λr hr e=>by
   rw [h3,List.getElem?_set_ne (λh=>e h.symm),h2.2 r hr,hb,if_neg e]
   split <;> rfl
  refine .sel (λh=>?_) λh=>.pure ⟨h3l,λr hr=>?_⟩
  ·have h2':q.Op=2:=by simpa using h
   refine .bind (.nth (by omega) (by rw [h3l]; omega)) λ_ _=>.bind (.upd (by omega) (by rw [h3l]; omega)) λr hr=>.pure ?_
   subst hr
   refine ⟨by rw [List.length_set]; exact h3l,λr hr=>?_⟩
   by_cases e:r=(aB q).toNat
   ·subst e
    rw [List.getElem?_set_self (by omega),hb,if_pos rfl,if_pos h2',wX]
   ·rw [List.getElem?_set_ne (λh=>e h.symm)]
    exact h3g r hr e
  ·have h2':q.Op≠2:=by simpa using h
   by_cases e:r=(aB q).toNat
   ·subst e
    have h2l:=h2.1
    rw [h3,List.getElem?_set_self (by omega),hb,if_pos rfl,if_neg h2']
    show some (aB q)=some (((aB q).toNat:Nat):Int)
    congr 1
    omega
   ·exact h3g r hr e
theorem zd {eQ:List ab} {all:List (List Int)} {S:Nat->Nat->ai} (h:AC eQ.length all S) (hg:GdC eQ S) {i:Int} (h0:0<=i) (h1:i<eQ.length) {cs:List Int} {v:Nat->ai} (hv:Cs cs v) (hgv:GVC eQ i.toNat v):Tot (fL all i cs) λz=>AC eQ.length z.2 (up1 S i.toNat v)/\(z.1=false->∀ r,r<12->aU (S i.toNat r) (v r)=S i.toNat r):=by
 obtain ⟨l0,e0,e1,k0,k1⟩:=h.get h0 h1
 have hn:=h.1
 have hin:i.toNat<eQ.length:=by omega
 have hSo:=hg.ok i.toNat hin
 have hup:up1 S i.toNat v i.toNat=λr=>aU (S i.toNat r) (v r):=by unfold up1; rw [if_pos rfl]
 have hupk:(up1 S i.toNat v i.toNat 0).Kind≠0:=by rw [hup]; exact gh (hgv.full 0 (by decide))
 have hne:∀ j,j≠i.toNat->up1 S i.toNat v j=S j:=λj hj=>by unfold up1; rw [if_neg hj]
 unfold fL
 rw [e0,ob9]
 by_cases hk:(S i.toNat 0).Kind=0
 ·have hl0:=k0 hk
  subst hl0
  refine .st (by simp) (.bind (.app (by simp [hv.1])) λr hr=>.pure ⟨?_,λhf=>by cases hf⟩)
  rw [List.nil_append] at hr
  subst hr
  exact h.set h0 h1 hupk (by rw [hup]; exact hv.congr λr hr=>by show v r=aU _ _; unfold aU; rw [if_pos (hg.zero _ hin hk r hr)]) hne
 have hC:=k1 hk
 have hfull:=hg.full _ hin hk
 refine .sf (by have:=hC.1; simp; rintro rfl; simp at this) ?_
 refine .bind (P:=λz:Bool×List (List Int)=>AC eQ.length z.2 (up1 S i.toNat v)/\(z.1=false->∀ r,r<12->aU (S i.toNat r) (v r)=S i.toNat r)) (.iter (λs=>0<=s.2.1/\s.2.1<=12/\(∃ l:List Int,s.2.2=all.set i.toNat l/\l.length=12/\∀ k:Nat,k<12->l[k]?=some (dec k (if (k:Int)<s.2.1 then aU (S i.toNat k) (v k) else S i.toNat k)))/\(s.1=false->∀ k:Nat,(k:Int)<s.2.1->aU (S i.toNat k) (v k)=S i.toNat k)) (λs=>(12-s.2.1).toNat)
  ⟨by simp,by simp,⟨l0,?_,hC.1,λk hk=>by rw [hC.2 k hk,if_neg (by simp only; omega)]⟩,λ_ k hk=>by simp only at hk; omega⟩ λs hs=>?_) λz hz=>.pure hz
 ·exact (List.ext_getElem? λj=>by
   by_cases e:j=i.toNat
   ·subst e
    rw [List.getElem?_set_self (by omega),e1]
   ·rw [List.getElem?_set_ne (λh=>e h.symm)])
 obtain ⟨gZ,r,a⟩:=s
 obtain ⟨g0,g1,⟨l,rfl,gl,g3⟩,g4⟩:=hs
 simp only at g0 g1 g3 g4
 have hal:nth (all.set i.toNat l) i=some l:=by
  unfold nth
  rw [if_neg (by omega),List.getElem?_set_self (by omega)]
 unfold i7
 dsimp only
 refine .sel (λhlt=>?_) λhge=>.inr ?_
 ·simp only [decide_eq_true_eq] at hlt
  have hrr:Rg r:=by unfold Rg; omega
  have hrn:r.toNat<12:=by omega
  have er:((r.toNat:Nat):Int)=r:=by omega
  have hx:nth l r=some (dec r.toNat (S i.toNat r.toNat)):=by
   unfold nth
   rw [if_neg (by omega),g3 r.toNat (by omega),if_neg (by omega)]
  have hdj:=tl (hSo r.toNat hrn) (hgv.ok r.toNat hrn) (hfull _ hrn) (hgv.full _ hrn)
  have hjs:=xp (hSo r.toNat hrn) (hgv.ok r.toNat hrn) (hfull _ hrn) (hgv.full _ hrn)
  simp only [hal,ob9,hx,hv.get hrr,ao g0 (show r<=9223372036854775806 by omega)]
  refine .bind (P:=λz:Bool×List (List Int)=>(∃ l':List Int,z.2=all.set i.toNat l'/\l'.length=12/\∀ k:Nat,k<12->l'[k]?=some (dec k (if (k:Int)<r+1 then aU (S i.toNat k) (v k) else S i.toNat k)))/\(z.1=false->∀ k:Nat,(k:Int)<r+1->aU (S i.toNat k) (v k)=S i.toNat k)) (.bind (P:=λb=>b=true↔¬ (dec r.toNat (S i.toNat r.toNat)=r\/dec r.toNat (S i.toNat r.toNat)=dec r.toNat (v r.toNat))) (.sel (λhh=>.pure ?_) λhh=>.pure ?_) λb hb=>.sel (λhne'=>?_) λhe=>.pure ⟨⟨l,rfl,gl,λk hk=>?_⟩,λhf k hk=>?_⟩) λz hz=>.inl ⟨⟨by simp only; omega,by simp only; omega,hz⟩,by simp only; omega⟩
  ·have hh':dec r.toNat (S i.toNat r.toNat)≠r:=by simpa using hh
   simp [hh']
  ·have hh':dec r.toNat (S i.toNat r.toNat)=r:=by simpa using hh
   simp [hh']
  ·have hb':=hb.1 hne'
   refine .bind (P:=λz=>z=l.set r.toNat r) ⟨_,by unfold X.upd; rw [if_pos ⟨g0,by omega⟩],rfl⟩ λz hz=>.pure ⟨⟨z,?_,by rw [hz,List.length_set]; exact gl,λk hk=>?_⟩,λhf=>by cases hf⟩
   ·rw [List.set_set]
   ·rw [hz]
    by_cases e:k=r.toNat
    ·subst e
     rw [List.getElem?_set_self (by omega),if_pos (by omega),hdj,if_neg (λh=>hb' (.inr h)),er]
    ·rw [List.getElem?_set_ne (λh=>e h.symm),g3 k hk]
     by_cases e2:(k:Int)<r
     ·rw [if_pos e2,if_pos (by omega)]
     ·rw [if_neg e2,if_neg (by omega)]
  all_goals
   have heq:aU (S i.toNat r.toNat) (v r.toNat)=S i.toNat r.toNat:=by
    have:dec r.toNat (S i.toNat r.toNat)=r\/dec r.toNat (S i.toNat r.toNat)=dec r.toNat (v r.toNat):=Classical.byContradiction λhh=>by rw [hb.2 hh] at he; cases he
    exact hjs (by rw [er]; exact this.symm)
  ·rw [g3 k hk]
   by_cases e:k=r.toNat
   ·subst e
    rw [if_neg (by omega),if_pos (by omega),heq]
   ·by_cases e2:(k:Int)<r
    ·rw [if_pos e2,if_pos (by omega)]
    ·rw [if_neg e2,if_neg (by omega)]
  ·by_cases e:k=r.toNat
   ·subst e; exact heq
   ·exact g4 hf k (by omega)
 ·simp only [decide_eq_false_iff_not] at hge
  exact ⟨h.set h0 h1 hupk (by rw [hup]; exact ⟨gl,λk hk=>by rw [g3 k hk,if_pos (by omega)]⟩) hne,λhf k hk=>g4 hf k (by omega)⟩
def yz (eQ:List ab) (S:Nat->Nat->ai) (i:Nat):Prop:=∀ q,eQ[i]?=some q->(S i 0).Kind≠0->∀ y∈nx q i,gQ (j3 q (S i)) (S y.toNat)
theorem yA {q:ab} {i:Int}:(nx q i).length<=2:=by
 unfold nx
 split
 ·simp
 ·split
  ·simp
  ·split
   ·simp
   ·split <;> simp
theorem ze {eQ:List ab} (hc:COk eQ) {all:List (List Int)} {S:Nat->Nat->ai} (h:AC eQ.length all S) (hg:GdC eQ S):Tot (fM eQ all) λz=>∃ S',AC eQ.length z.2 S'/\GdC eQ S'/\(z.1=false->S'=S/\∀ i,i<eQ.length->yz eQ S i):=by
 have hmx:=hc.max
 unfold fM
 refine .bind (P:=λz:Bool×List (List Int)=>∃ S',AC eQ.length z.2 S'/\GdC eQ S'/\(z.1=false->S'=S/\∀ i,i<eQ.length->yz eQ S i)) (.iter (λs=>0<=s.2.1/\s.2.1<=(eQ.length:Int)/\∃ S',AC eQ.length s.2.2 S'/\GdC eQ S'/\(s.1=false->S'=S/\∀ i:Nat,(i:Int)<s.2.1->yz eQ S i)) (λs=>((eQ.length:Int)-s.2.1).toNat) ⟨by simp,by simp,S,h,hg,λ_=>⟨rfl,λi hi=>by simp only at hi; omega⟩⟩ λs hs=>?_) λz hz=>.pure hz
 obtain ⟨gZ,i,a⟩:=s
 obtain ⟨g0,g1,S1,hA,hG,hF⟩:=hs
 simp only at g0 g1 hA hG hF
 unfold ja
 dsimp only
 refine .sel (λhlt=>?_) λhge=>.inr ⟨S1,hA,hG,λhf=>⟨(hF hf).1,λj hj=>(hF hf).2 j (by simp only [decide_eq_false_iff_not] at hge; omega)⟩⟩
 simp only [decide_eq_true_eq] at hlt
 obtain ⟨q,hq⟩:∃ q,eQ[i.toNat]?=some q:=⟨_,List.getElem?_eq_getElem (by omega)⟩
 have hqm:=List.mem_of_getElem? hq
 have hqok:=hc.q q hqm
 have ei:((i.toNat:Nat):Int)=i:=by omega
 obtain ⟨l,el,_,kl0,kl1⟩:=hA.get g0 hlt
 refine .bind (P:=λz:Bool×List (List Int)=>∃ S',AC eQ.length z.2 S'/\GdC eQ S'/\(z.1=false->S'=S/\∀ j:Nat,(j:Int)<i+1->yz eQ S j)) ?_ λz hz=>.inl ⟨⟨by simp only; rw [ao g0 (by omega)]; omega,by simp only; rw [ao g0 (by omega)]; omega,by simp only; rw [ao g0 (by omega)]; exact hz⟩,by simp only; rw [ao g0 (by omega)]; omega⟩
 rw [el,ob9]
 by_cases hk':(S1 i.toNat 0).Kind=0
 ·have:=kl0 hk'
  subst this
  refine .st (by simp) (.pure ⟨S1,hA,hG,λhf=>⟨(hF hf).1,λj hj=>?_⟩⟩)
  by_cases e:(j:Int)<i
  ·exact (hF hf).2 j e
  ·obtain rfl:j=i.toNat:=by omega
   intro q' _ hk''
   rw [<-(hF hf).1] at hk''
   exact absurd hk' hk''
 ·have hl:=kl1 hk'
  have hlo:=hG.ok i.toNat (by omega)
  refine .sf (by have:=hl.1; simp; rintro rfl; simp at this) ?_
  rw [ot g0 hq (by omega),ob9,show nth eQ i=some q by unfold nth; rw [if_neg (by omega)]; exact hq,ob9]
  refine .bind (z8 hqok (by omega) hl) λfs hfs=>?_
  have hel:=@yA q i
  have hgv:∀ y∈nx q i,GVC eQ y.toNat (j3 q (S1 i.toNat)):=λy hy=>yy hc hG hq hk' (by rw [ei]; exact hy)
  have hin:∀ y∈nx q i,0<=y/\y<eQ.length:=λy hy=>pV hc hq y (by rw [ei]; exact hy)
  refine .bind (P:=λz:Bool×List (List Int)=>∃ S',AC eQ.length z.2 S'/\GdC eQ S'/\(z.1=false->gZ=false/\S'=S/\∀ y∈nx q i,gQ (j3 q (S1 i.toNat)) (S y.toNat))) (.iter (λs=>0<=s.2.1/\s.2.1<=((nx q i).length:Int)/\∃ S',AC eQ.length s.2.2 S'/\GdC eQ S'/\(s.1=false->gZ=false/\S'=S/\∀ y∈(nx q i).take s.2.1.toNat,gQ (j3 q (S1 i.toNat)) (S y.toNat))) (λs=>(((nx q i).length:Int)-s.2.1).toNat) ⟨by simp,by simp,S1,hA,hG,λhf=>⟨hf,(hF hf).1,by simp⟩⟩ λs hs=>?_) λz hz=>.pure ?_
  ·obtain ⟨f2,j,a2⟩:=s
   obtain ⟨k0,k1,S2,hA2,hG2,hF2⟩:=hs
   simp only at k0 k1 hA2 hG2 hF2
   unfold i9
   dsimp only
   refine .sel (λhj=>?_) λhj=>.inr ⟨S2,hA2,hG2,λhf=>?_⟩
   ·simp only [decide_eq_true_eq] at hj
    refine .bind (P:=λz:Bool×List (List Int)=>∃ S',AC eQ.length z.2 S'/\GdC eQ S'/\(z.1=false->gZ=false/\S'=S/\∀ y∈(nx q i).take (j+1).toNat,gQ (j3 q (S1 i.toNat)) (S y.toNat))) (.bind (.nth k0 hj) λy ⟨hy,hym⟩=>?_) λz hz=>.inl ⟨⟨by simp only; rw [ao k0 (by omega)]; omega,by simp only; rw [ao k0 (by omega)]; omega,by simp only; rw [ao k0 (by omega)]; exact hz⟩,by simp only; rw [ao k0 (by omega)]; omega⟩
    obtain ⟨y0,y1⟩:=hin y hym
    have hgy:=hgv y hym
    have ht:(nx q i).take (j+1).toNat=(nx q i).take j.toNat++[y]:=by rw [show (j+1).toNat=j.toNat+1 by omega,List.take_add_one,hy]; rfl
    refine .bind (zd hA2 hG2 y0 y1 hfs hgy) λz ⟨z1,z2⟩=>.sel (λhz=>.pure ⟨_,z1,hG2.up hgy,λhf=>by cases hf⟩) λhz=>.pure ?_
    have habs:=z2 hz
    have hcg:AC eQ.length z.2 S2:=z1.congr λm hm r hr=>by
     unfold up1
     split
     ·rename_i e; subst e; exact habs r hr
     ·rfl
    refine ⟨S2,hcg,hG2,λhf=>?_⟩
    obtain ⟨b1,b2,b3⟩:=hF2 hf
    refine ⟨b1,b2,λy' hy'=>?_⟩
    rw [ht] at hy'
    rcases List.mem_append.1 hy' with h' | h'
    ·exact b3 y' h'
    ·rw [List.mem_singleton.1 h',<-b2]
     exact λr hr=>by rw [<-habs r hr]; exact aU.le2
   ·obtain ⟨b1,b2,b3⟩:=hF2 hf
    refine ⟨b1,b2,λy hy=>b3 y ?_⟩
    simp only [decide_eq_false_iff_not] at hj
    rw [List.take_of_length_le (by omega)]
    exact hy
  ·obtain ⟨S3,c1,c2,c3⟩:=hz
   refine ⟨S3,c1,c2,λhf=>?_⟩
   obtain ⟨b1,b2,b3⟩:=c3 hf
   refine ⟨b2,λj hj=>?_⟩
   by_cases e:(j:Int)<i
   ·exact (hF b1).2 j e
   ·obtain rfl:j=i.toNat:=by omega
    intro q' hq' _ y hy
    obtain rfl:=o9 (hq.symm.trans hq')
    rw [(hF b1).1] at b3
    rw [ei] at hy
    exact b3 y hy
def S0C:Nat->Nat->ai:=λi _=>if i=0 then ⟨2,0⟩ else ⟨0,0⟩
theorem Av {eQ:List ab} (h1:1<=eQ.length):GdC eQ S0C:=by
 refine ⟨λi hi r hr=>?_,λi hi hk r hr=>?_,λi hi hk r hr=>?_,λr hr=>?_,λX hX i hi r hr=>?_⟩
 ·unfold S0C
  split
  ·exact .inr (.inr ⟨rfl,rfl⟩)
  ·exact .inl ⟨rfl,rfl⟩
 ·unfold S0C at hk ⊢
  split
  ·show (2:Int)≠0; decide
  ·rename_i e; rw [if_neg e] at hk; exact absurd rfl hk
 ·exact hk
 ·unfold S0C; rw [if_pos rfl]; exact .refl _
 ·unfold S0C
  split
  ·rename_i e; subst e; exact hX.init r hr
  ·exact .inl rfl
def AE (n:Nat) (all:List (List Int)) (S:Nat->Nat->ai):Prop:=all.length=n/\∀ i,i<n->∃ l,all[i]?=some l/\Cs l (S i)
theorem AE.get {n:Nat} {all:List (List Int)} {S:Nat->Nat->ai} (h:AE n all S) {x:Int} (h0:0<=x) (h1:x<n):∃ l,nth all x=some l/\Cs l (S x.toNat):=by
 obtain ⟨l,e,hl⟩:=h.2 x.toNat (by omega)
 exact ⟨l,by unfold nth; rw [if_neg (by omega)]; exact e,hl⟩
theorem zf {eQ:List ab} (hc:COk eQ):Tot (dY eQ) λall=>∃ S,AE eQ.length all S/\GdC eQ S/\ClC eQ S:=by
 have hmx:=hc.max
 have h1:=hc.one
 unfold dY
 rw [aN hc,ob9]
 refine .sf rfl (.bind (P:=λs=>s=List.replicate eQ.length []) (.iter (λs=>0<=s.2/\s.2<=(eQ.length:Int)/\s.1=List.replicate s.2.toNat []) (λs=>((eQ.length:Int)-s.2).toNat) ⟨by simp,by simp,by simp⟩ λs hs=>?_) λa0 ha0=>.bind zy λsf hsf=>.bind (.nth (by omega) (by rw [ha0]; simp; omega)) λ_ _ =>
  .bind (P:=λall=>∃ S,AC eQ.length all S/\GdC eQ S/\ClC eQ S) (.iter (λs=>∃ S,AC eQ.length s S/\GdC eQ S) cam ⟨S0C,?_,Av h1⟩ λs hs=>?_) λa1 ⟨S,hA,hG,hCl⟩=>.bind (P:=λall=>AE eQ.length all S) (.iter (λs=>0<=s.1/\s.1<=(eQ.length:Int)/\s.2.length=eQ.length/\(∀ j:Nat,(j:Int)<s.1->∃ l,s.2[j]?=some l/\Cs l (S j))/\∀ j:Nat,s.1<=(j:Int)->s.2[j]?=a1[j]?) (λs=>((eQ.length:Int)-s.1).toNat) ⟨by simp,by simp,hA.1,λj h=>by simp only at h; omega,λ_ _=>rfl⟩ λs hs=>?_) λr hr=>.pure ⟨S,hr,hG,hCl⟩)
 ·obtain ⟨a,i⟩:=s
  obtain ⟨g0,g1,g2⟩:=hs
  simp only at g0 g1 g2
  unfold jb
  refine .sel (λhlt=>?_) λhlt=>.inr ?_
  ·simp only [decide_eq_true_eq] at hlt
   refine .bind (.app (by simp [g2]; omega)) λr hr=>.inl ?_
   subst hr g2
   rw [ao g0 (by omega)]
   refine ⟨⟨by simp only; omega,by simp only; omega,?_⟩,by simp only; omega⟩
   simp only
   rw [show (i+1).toNat=i.toNat+1 by omega]
   rw [List.replicate_succ' (n:=i.toNat)]
  ·simp only [decide_eq_false_iff_not] at hlt
   rw [g2,show i.toNat=eQ.length by omega]
 ·rw [ha0]
  refine ⟨by simp,λi hi=>?_⟩
  by_cases e:i=0
  ·subst e
   refine ⟨sf,by rw [show (0:Int).toNat=0 from rfl,List.getElem?_set_self (by simp; omega)],λh=>?_,λ_=>hsf.congr λr hr=>?_⟩
   ·unfold S0C at h
    rw [if_pos rfl] at h
    cases h
   ·unfold S0C
    rw [if_pos rfl]
    rfl
  ·refine ⟨[],?_,λ_=>rfl,λh=>?_⟩
   ·rw [show (0:Int).toNat=0 from rfl,List.getElem?_set_ne (λh=>e h.symm),List.getElem?_replicate,if_pos hi]
   ·unfold S0C at h
    rw [if_neg e] at h
    exact absurd rfl h
 ·obtain ⟨S,hA,hG⟩:=hs
  unfold jc
  refine .bind (.and (s9 hc (hA.csok hG)) (ze hc hA hG)) λz ⟨⟨_,_,z3⟩,S',z4,z5,z6⟩=>.sel (λh=>.inl ⟨⟨S',z4,z5⟩,z3 h⟩) λh=>.inr ?_
  obtain ⟨e,hcl⟩:=z6 h
  subst e
  exact ⟨S',z4,z5,z5.ok,z5.init,λi q hq hk y hy=>hcl i (bM hq) q hq hk y hy⟩
 ·obtain ⟨i,a⟩:=s
  obtain ⟨g0,g1,g2,g3,g4⟩:=hs
  simp only at g0 g1 g2 g3 g4
  unfold jd
  refine .sel (λhlt=>?_) λhlt=>.inr ⟨g2,λj hj=>g3 j (by simp only [decide_eq_false_iff_not] at hlt; omega)⟩
  simp only [decide_eq_true_eq] at hlt
  have hia:i<a.length:=by rw [g2]; exact hlt
  have hil:i.toNat<a.length:=by omega
  obtain ⟨l1,_,el1,k0,k1⟩:=hA.get g0 hlt
  refine .bind (P:=λz:List (List Int)=>z.length=eQ.length/\(∀ j:Nat,(j:Int)<i+1->∃ l,z[j]?=some l/\Cs l (S j))/\∀ j:Nat,i+1<=(j:Int)->z[j]?=a1[j]?) (.bind (.nth g0 hia) λl ⟨hl',_⟩=>?_) λz hz=>.inl ?_
  ·rw [g4 i.toNat (by omega),el1] at hl'
   obtain rfl:=o9 hl'
   refine .sel (λhe=>.bind zy λsf2 hsf2=>.pure ⟨by rw [List.length_set]; exact g2,λj hj=>?_,λj hj=>?_⟩) λhne=>.pure ⟨g2,λj hj=>?_,λj hj=>g4 j (by omega)⟩
   ·by_cases e:j=i.toNat
    ·subst e
     have hk:(S i.toNat 0).Kind=0:=Classical.byContradiction λhk=>by
      have h12:=(k1 hk).1
      simp at he
      subst he
      simp at h12
     refine ⟨sf2,List.getElem?_set_self (by rw [g2]; omega),hsf2.1,λr hr=>?_⟩
     rw [hsf2.2 r hr]
     have:=hG.zero _ (by omega) hk r hr
     show some (dec r (cC r))=_
     unfold dec
     rw [this]
     rfl
    ·rw [List.getElem?_set_ne (λh=>e h.symm)]
     exact g3 j (by omega)
   ·rw [List.getElem?_set_ne (by omega)]
    exact g4 j (by omega)
   ·by_cases e:j=i.toNat
    ·subst e
     have hk:(S i.toNat 0).Kind≠0:=λhk=>by
      have:=k0 hk
      subst this
      simp at hne
     exact ⟨l1,by rw [g4 _ (by omega)]; exact el1,k1 hk⟩
    ·exact g3 j (by omega)
  ·rw [ao g0 (by omega)]
   exact ⟨⟨by simp only; omega,by simp only; omega,hz⟩,by simp only; omega⟩
end
noncomputable section
def Ka (a:Ar Int) (f:Nat->ai):Prop:=∀ r,r<12->a r=dec r (f r)
theorem Ka.get {a:Ar Int} {f:Nat->ai} (h:Ka a f) {x:Int} (hx:Rg x):cB 12 a x=some (dec x.toNat (f x.toNat)):=by
 unfold Rg at hx
 unfold cB
 rw [if_pos (by omega),h x.toNat (by omega)]
theorem zg {r:Nat} {a:ai} (h:CO r a) (hk:a.Kind≠0):enc r (dec r a)=a:=by
 unfold CO at h
 unfold enc dec
 by_cases h1:a.Kind=1
 ·rw [if_pos h1,if_neg (by omega)]
  exact ai.ext' h1.symm rfl
 ·rw [if_neg h1,if_pos rfl]
  exact ai.ext' (by show (2:Int)=_; omega) (by show (0:Int)=_; omega)
structure AIc (n:Nat) (known:List Bool) (all:List (Ar Int)) (S:Nat->Nat->ai):Prop where
 klen:known.length=n
 len:all.length=n
 kn:∀ i,i<n->known[i]?=some (decide ((S i 0).Kind≠0))
 at_:∀ i,i<n->∃ a,all[i]?=some a/\Ka a (S i)
theorem AIc.get {n:Nat} {known:List Bool} {all:List (Ar Int)} {S:Nat->Nat->ai} (h:AIc n known all S) {x:Int} (h0:0<=x) (h1:x<n):∃ a,nth known x=some (decide ((S x.toNat 0).Kind≠0))/\nth all x=some a/\Ka a (S x.toNat):=by
 obtain ⟨a,e,ha⟩:=h.at_ x.toNat (by omega)
 refine ⟨a,?_,?_,ha⟩
 ·unfold nth; rw [if_neg (by omega)]; exact h.kn _ (by omega)
 ·unfold nth; rw [if_neg (by omega)]; exact e
theorem AIc.set {n:Nat} {known:List Bool} {all:List (Ar Int)} {S S':Nat->Nat->ai} (h:AIc n known all S) {y:Int} (h0:0<=y) (h1:y<n) {a:Ar Int} (ha:Ka a (S' y.toNat)) (hk:(S' y.toNat 0).Kind≠0) (hS:∀ i,i≠y.toNat->S' i=S i):∃ k r,X.upd known y true=some k/\X.upd all y a=some r/\AIc n k r S':=by
 have hkl:=h.klen
 have hal:=h.len
 refine ⟨known.set y.toNat true,all.set y.toNat a,by unfold X.upd; rw [if_pos (by omega)],by unfold X.upd; rw [if_pos (by omega)],by rw [List.length_set]; exact hkl,by rw [List.length_set]; exact hal,λi hi=>?_,λi hi=>?_⟩
 ·by_cases e:i=y.toNat
  ·subst e
   rw [List.getElem?_set_self (by omega),decide_eq_true hk]
  ·rw [List.getElem?_set_ne (λh=>e h.symm),hS i e]
   exact h.kn i hi
 ·by_cases e:i=y.toNat
  ·subst e
   exact ⟨a,List.getElem?_set_self (by omega),ha⟩
  ·obtain ⟨l,el,hl⟩:=h.at_ i hi
   exact ⟨l,by rw [List.getElem?_set_ne (λh=>e h.symm)]; exact el,by rw [hS i e]; exact hl⟩
def fmC (n:Nat) (known:List Bool) (all:List (Ar Int)):Nat:=fmS n λi r=>if known[i]?.getD false then enc r ((all[i]?.getD λ_=>0) r) else ⟨0,0⟩
theorem AIc.fm {eQ:List ab} {known:List Bool} {all:List (Ar Int)} {S:Nat->Nat->ai} (h:AIc eQ.length known all S) (hg:GdC eQ S):fmC eQ.length known all=fmS eQ.length S:=mT λi hi=>mT λr hr=>by
 obtain ⟨a,e,ha⟩:=h.at_ i hi
 show rkF (if known[i]?.getD false then enc r ((all[i]?.getD λ_=>0) r) else ⟨0,0⟩)=_
 rw [h.kn i hi,e,Option.getD_some,Option.getD_some,ha r hr]
 by_cases hk:(S i 0).Kind=0
 ·rw [if_neg (by simpa using hk)]
  have:=hg.zero i hi hk r hr
  unfold rkF
  rw [if_pos this]
  rfl
 ·rw [if_pos (by simpa using hk),zg (hg.ok i hi r hr) (hg.full i hi hk r hr)]
theorem xq:Tot jy λa=>Ka a cC:=by
 unfold jy
 refine .bind (P:=λa=>Ka a cC) (.iter (λs=>0<=s.1/\s.1<=12/\∀ r:Nat,(r:Int)<s.1->s.2 r=(r:Int)) (λs=>(12-s.1).toNat) ⟨by simp,by simp,λr hr=>by simp only at hr; omega⟩ λs hs=>?_) λz hz=>.pure hz
 obtain ⟨i,a⟩:=s
 obtain ⟨g0,g1,g2⟩:=hs
 simp only at g0 g1 g2
 unfold lc
 refine .sel (λh=>?_) λh=>.inr (show Ka a cC from λr hr=>?_)
 ·simp only [decide_eq_true_eq] at h
  dsimp only
  rw [show cB 12 a i=some (a i.toNat) by unfold cB; rw [if_pos (by omega)],ob9,ao g0 (by omega)]
  refine .inl ⟨⟨by simp only; omega,by simp only; omega,λr hr=>?_⟩,by simp only; omega⟩
  simp only at hr ⊢
  unfold lD
  by_cases e:r=i.toNat
  ·rw [if_pos e]; omega
  ·rw [if_neg e]; exact g2 r (by omega)
 ·simp only [decide_eq_false_iff_not] at h
  rw [g2 r (by omega)]
  rfl
theorem Aw {q:ab} {m:Int} (hq:QOk m q) {a:Ar Int} {f:Nat->ai} (ha:Ka a f):Tot (eC a q) λa'=>Ka a' (j3 q f):=by
 unfold eC
 rw [nL,ob9]
 rcases lJ hq with hs | hd'
 ·refine .st (by rw [hs]; decide) (.pure λr hr=>?_)
  unfold j3
  rw [hs,if_neg (by omega)]
  exact ha r hr
 have hd0:=hd'
 unfold Rg at hd0
 have hb:∀ r,j3 q f r=if r=(aB q).toNat then (if q.Op=2 then enc r q.A else ⟨2,0⟩) else if dec r (f r)=aB q then ⟨2,0⟩ else f r:=λr=>by
  unfold j3
  rw [if_pos hd0.1]
 refine .sf (by simp; omega) (.bind (P:=λl2:Ar Int=>∀ r,r<12->l2 r=if (r:Int)=aB q\/dec r (f r)=aB q then (r:Int) else dec r (f r)) (.iter (λs=>0<=s.1/\s.1<=12/\∀ r:Nat,r<12->s.2 r=if (r:Int)<s.1/\((r:Int)=aB q\/dec r (f r)=aB q) then (r:Int) else dec r (f r)) (λs=>(12-s.1).toNat) ⟨by simp,by simp,λr hr=>?_⟩ λs hs=>?_) λl2 h2=>?_)
 ·rw [if_neg (λh=>by have:=h.1; simp only at this; omega)]
  exact ha r hr
 ·obtain ⟨i,c⟩:=s
  obtain ⟨g0,g1,g3⟩:=hs
  simp only at g0 g1 g3
  unfold gY
  refine .sel (λh=>?_) λh=>.inr λr hr=>?_
  ·simp only [decide_eq_true_eq] at h
   have hx:cB 12 c i=some (dec i.toNat (f i.toNat)):=by
    unfold cB
    rw [if_pos (by omega),g3 _ (by omega),if_neg (λh=>by have:=h.1; omega)]
   dsimp only
   rw [hx,ob9,ao g0 (by omega)]
   refine .bind (P:=λz:Ar Int=>∀ r:Nat,r<12->z r=if (r:Int)<i+1/\((r:Int)=aB q\/dec r (f r)=aB q) then (r:Int) else dec r (f r)) (.bind (P:=λb=>b=true↔(i=aB q\/dec i.toNat (f i.toNat)=aB q)) (.sel (λhh=>.pure ?_) λhh=>.pure ?_) λb hbb=>.sel (λhe=>?_) λhe=>.pure λr hr=>?_) λz hz=>.inl ⟨⟨by simp only; omega,by simp only; omega,hz⟩,by simp only; omega⟩
   ·have:i=aB q:=by simpa using hh
    simp [this]
   ·have:i≠aB q:=by simpa using hh
    simp [this]
   ·rw [ob9]
    refine .pure λr hr=>?_
    unfold lD
    by_cases e:r=i.toNat
    ·have hcc:(r:Int)<i+1/\((r:Int)=aB q\/dec r (f r)=aB q):=⟨by omega,(hbb.1 he).imp (λh=>by omega) λh=>by rw [e]; exact h⟩
     rw [if_pos e,if_pos hcc]
     omega
    ·rw [if_neg e,g3 r hr]
     by_cases e2:(r:Int)=aB q\/dec r (f r)=aB q
     ·by_cases e3:(r:Int)<i
      ·rw [if_pos ⟨e3,e2⟩,if_pos ⟨by omega,e2⟩]
      ·rw [if_neg (λh=>e3 h.1),if_neg (λh=>by have:=h.1; omega)]
     ·rw [if_neg (λh=>e2 h.2),if_neg (λh=>e2 h.2)]
   ·rw [g3 r hr]
    by_cases e2:(r:Int)=aB q\/dec r (f r)=aB q
    ·have e3:r≠i.toNat:=by
      rintro rfl
      rw [hbb.2 (e2.imp (λh=>by omega) id)] at he
      cases he
     by_cases e4:(r:Int)<i
     ·rw [if_pos ⟨e4,e2⟩,if_pos ⟨by omega,e2⟩]
     ·rw [if_neg (λh=>e4 h.1),if_neg (λh=>by have:=h.1; omega)]
    ·rw [if_neg (λh=>e2 h.2),if_neg (λh=>e2 h.2)]
  ·simp only [decide_eq_false_iff_not] at h
   show c r=_
   rw [g3 r hr]
   by_cases e2:(r:Int)=aB q\/dec r (f r)=aB q
   ·rw [if_pos ⟨by omega,e2⟩,if_pos e2]
   ·rw [if_neg (λh=>e2 h.2),if_neg e2]
 ·have hg:cB 12 l2 (aB q)=some (l2 (aB q).toNat):=by unfold cB; rw [if_pos (by omega)]
  rw [hg,ob9]
  refine .sel (λh=>.pure λr hr=>?_) λh=>.pure λr hr=>?_
  ·have h2':q.Op=2:=by simpa using h
   rw [hb]
   unfold lD
   by_cases e:r=(aB q).toNat
   ·rw [if_pos e,if_pos e,if_pos h2',wX]
   ·rw [if_neg e,if_neg e,h2 r hr]
    by_cases e2:dec r (f r)=aB q
    ·rw [if_pos (.inr e2),if_pos e2]; rfl
    ·rw [if_neg (λh=>h.elim (λh=>e (by omega)) e2),if_neg e2]
  ·have h2':q.Op≠2:=by simpa using h
   rw [hb,h2 r hr]
   by_cases e:r=(aB q).toNat
   ·rw [if_pos e,if_neg h2',if_pos (.inl (by omega))]; rfl
   ·rw [if_neg e]
    by_cases e2:dec r (f r)=aB q
    ·rw [if_pos (.inr e2),if_pos e2]; rfl
    ·rw [if_neg (λh=>h.elim (λh=>e (by omega)) e2),if_neg e2]
theorem z9 {a b:Ar Int} {f v:Nat->ai} (ha:Ka a f) (hb:Ka b v) (hf:FoC f) (hv:FoC v) (kf:pz f) (kv:pz v):Tot (fZ a b) λz=>Ka z λr=>aU (f r) (v r):=by
 unfold fZ
 refine .bind (P:=λz=>Ka z λr=>aU (f r) (v r)) (.iter (λs=>0<=s.1/\s.1<=12/\∀ r:Nat,r<12->s.2 r=if (r:Int)<s.1 then dec r (aU (f r) (v r)) else dec r (f r)) (λs=>(12-s.1).toNat) ⟨by simp,by simp,λr hr=>by simp only; rw [if_neg (by omega)]; exact ha r hr⟩ λs hs=>?_) λz hz=>.pure hz
 obtain ⟨i,c⟩:=s
 obtain ⟨g0,g1,g2⟩:=hs
 simp only at g0 g1 g2
 unfold jo
 refine .sel (λhlt=>?_) λhge=>.inr (show Ka c _ from λr hr=>?_)
 ·simp only [decide_eq_true_eq] at hlt
  have hrr:Rg i:=by unfold Rg; omega
  have hi:i.toNat<12:=by omega
  have hc:cB 12 c i=some (dec i.toNat (f i.toNat)):=by
   unfold cB
   rw [if_pos (by omega),g2 _ (by omega),if_neg (by omega)]
  have hdj:=tl (hf i.toNat hi) (hv i.toNat hi) (kf _ hi) (kv _ hi)
  simp only [hc,ob9,hb.get hrr,ao g0 (show i<=9223372036854775806 by omega)]
  refine .bind (P:=λz:Ar Int=>∀ r:Nat,r<12->z r=if (r:Int)<i+1 then dec r (aU (f r) (v r)) else dec r (f r)) (.sel (λh=>.pure λr hr=>?_) λh=>.pure λr hr=>?_) λz hz=>.inl ⟨⟨by simp only; omega,by simp only; omega,hz⟩,by simp only; omega⟩
  ·unfold lD
   by_cases e:r=i.toNat
   ·rw [if_pos e,if_pos (by omega),e,hdj,if_neg (by simpa using h)]
    omega
   ·rw [if_neg e,g2 r hr]
    by_cases e2:(r:Int)<i
    ·rw [if_pos e2,if_pos (by omega)]
    ·rw [if_neg e2,if_neg (by omega)]
  ·rw [g2 r hr]
   by_cases e:r=i.toNat
   ·rw [if_neg (by omega),if_pos (by omega),e,hdj,if_pos (by simpa using h)]
   ·by_cases e2:(r:Int)<i
    ·rw [if_pos e2,if_pos (by omega)]
    ·rw [if_neg e2,if_neg (by omega)]
 ·simp only [decide_eq_false_iff_not] at hge
  rw [g2 r hr,if_pos (by omega)]
structure CW (eQ:List ab) (work:List Int) (S:Nat->Nat->ai):Prop where
 gd:GdC eQ S
 mem:∀ w∈work,0<=w/\w<eQ.length/\(S w.toNat 0).Kind≠0
theorem Aa {eQ:List ab} (hc:COk eQ) {b:Ar Int} {v:Nat->ai} (hb:Ka b v) {ys:List Int} (hin:∀ y∈ys,0<=y/\y<eQ.length) (hlen:ys.length<=2) (hgv:∀ y∈ys,GVC eQ y.toNat v) {work:List Int} {known:List Bool} {all:List (Ar Int)} {S:Nat->Nat->ai} (hA:AIc eQ.length known all S) (hW:CW eQ work S) (hbd:fmS eQ.length S+work.length<=14401) :
  Tot (aI (fj b ys) (work,0,known,all)) λz=>∃ S',AIc eQ.length z.2.1 z.2.2 S'/\CW eQ z.1 S'/\fmS eQ.length S'+z.1.length<=fmS eQ.length S+work.length/\(∀ w∈work,w∈z.1)/\(∀ i:Nat,i<eQ.length->(i:Int)∉z.1->S' i=S i)/\(∀ i,i<eQ.length->gQ (S i) (S' i))/\∀ y∈ys,gQ v (S' y.toNat):=by
 refine .iter (λs=>0<=s.2.1/\s.2.1<=(ys.length:Int)/\∃ S',AIc eQ.length s.2.2.1 s.2.2.2 S'/\CW eQ s.1 S'/\fmS eQ.length S'+s.1.length<=fmS eQ.length S+work.length/\(∀ w∈work,w∈s.1)/\(∀ i:Nat,i<eQ.length->(i:Int)∉s.1->S' i=S i)/\(∀ i,i<eQ.length->gQ (S i) (S' i))/\∀ y∈ys.take s.2.1.toNat,gQ v (S' y.toNat)) (λs=>((ys.length:Int)-s.2.1).toNat)
  ⟨by simp,by simp,S,hA,hW,Nat.le_refl _,λw h=>h,λ_ _ _=>rfl,λi hi r hr=>.refl _,by simp⟩ λs hs=>?_
 obtain ⟨wk,j,kn,a⟩:=s
 obtain ⟨g0,g1,S1,k1,k2,k3,k4,k5,k6,k7⟩:=hs
 simp only at g0 g1 k1 k2 k3 k4 k5 k6 k7
 unfold fj
 dsimp only
 refine .sel (λhlt=>?_) λhge=>.inr ⟨S1,k1,k2,k3,k4,k5,k6,λy hy=>k7 y ?_⟩
 rotate_left
 ·simp only [decide_eq_false_iff_not] at hge
  rw [List.take_of_length_le (by omega)]
  exact hy
 simp only [decide_eq_true_eq] at hlt
 refine .bind (P:=λz:List Int×List Bool×List (Ar Int)=>∃ S',AIc eQ.length z.2.1 z.2.2 S'/\CW eQ z.1 S'/\fmS eQ.length S'+z.1.length<=fmS eQ.length S+work.length/\(∀ w∈work,w∈z.1)/\(∀ i:Nat,i<eQ.length->(i:Int)∉z.1->S' i=S i)/\(∀ i,i<eQ.length->gQ (S i) (S' i))/\∀ y∈ys.take (j+1).toNat,gQ v (S' y.toNat)) (.bind (.nth g0 hlt) λy ⟨hy,hym⟩=>?_) λz hz=>.inl ⟨⟨by simp only; rw [ao g0 (by omega)]; omega,by simp only; rw [ao g0 (by omega)]; omega,by simp only; rw [ao g0 (by omega)]; exact hz⟩,by simp only; rw [ao g0 (by omega)]; omega⟩
 obtain ⟨y0,y1⟩:=hin y hym
 have hgy:=hgv y hym
 have hyn:y.toNat<eQ.length:=by omega
 have ht:ys.take (j+1).toNat=ys.take j.toNat++[y]:=by rw [show (j+1).toNat=j.toNat+1 by omega,List.take_add_one,hy]; rfl
 obtain ⟨a1,e0,e1,h1⟩:=k1.get y0 y1
 have hSy:=k2.gd.ok _ hyn
 have hup:up1 S1 y.toNat v y.toNat=λr=>aU (S1 y.toNat r) (v r):=by unfold up1; rw [if_pos rfl]
 have hupk:(up1 S1 y.toNat v y.toNat 0).Kind≠0:=by rw [hup]; exact gh (hgy.full 0 (by decide))
 have hmono:∀ i,i<eQ.length->gQ (S i) (up1 S1 y.toNat v i):=λi hi r hr=>by
  unfold up1
  split
  ·rename_i e
   subst e
   exact leF.trans (k2.gd.ok _ hi r hr).fok (k6 _ hi r hr) aU.le1
  ·exact k6 i hi r hr
 rw [e0,ob9,e1]
 refine .bind (P:=λz=>Ka z (up1 S1 y.toNat v y.toNat)) (.sel (λhk=>?_) λhk=>.pure ?_) λz hz=>?_
 ·have hk':(S1 y.toNat 0).Kind≠0:=by simpa using hk
  rw [ob9,hup]
  exact .bind (z9 h1 hb hSy hgy.ok (k2.gd.full _ hyn hk') hgy.full) λz hz=>.pure hz
 ·have hk':(S1 y.toNat 0).Kind=0:=by simpa using hk
  rw [hup]
  intro r hr
  show b r=dec r (aU _ _)
  unfold aU
  rw [if_pos (k2.gd.zero _ hyn hk' r hr)]
  exact hb r hr
 rw [ob9,ob9,ob9]
 refine .bind (P:=λt=>(t=true->∃ r,r<12/\aU (S1 y.toNat r) (v r)≠S1 y.toNat r)/\(t=false->∀ r,r<12->aU (S1 y.toNat r) (v r)=S1 y.toNat r)) (.sel (λhk=>.pure ⟨λ_=>⟨0,by decide,λh=>?_⟩,λh=>by cases h⟩) λhk=>.pure ⟨λhne=>?_,λhe r hr=>?_⟩) λt htt=>?_
 ·have hk':(S1 y.toNat 0).Kind=0:=by simpa using hk
  have:=gh (a:=S1 y.toNat 0) (hgy.full 0 (by decide))
  rw [h] at this
  exact this hk'
 ·refine Classical.byContradiction λhno=>?_
  have:aeq 12 (λ(x y:Int)=>x==y) z a1=true:=qa.2 λr hr=>by
   rw [hz r hr,h1 r hr,hup]
   have:aU (S1 y.toNat r) (v r)=S1 y.toNat r:=Classical.byContradiction λhh=>hno ⟨r,hr,hh⟩
   show (dec r (aU (S1 y.toNat r) (v r))==_)=true
   rw [this]
   simp
  rw [this] at hne
  cases hne
 ·have hk':(S1 y.toNat 0).Kind≠0:=by simpa using hk
  have hfu:=k2.gd.full _ hyn hk'
  have h2:=qa.1 (by simpa using he:aeq 12 (λ(x y:Int)=>x==y) z a1=true) r hr
  rw [hz r hr,h1 r hr,hup] at h2
  exact ((hSy r hr).join (hgy.ok r hr)).inj (hSy r hr) (gh (hgy.full r hr)) (hfu r hr) (by simpa using h2)
 refine .sel (λhne=>?_) λhe=>.pure ?_
 ·have hdec:=yu hyn (λr hr=>(hSy r hr).fok) (λr hr=>(hgy.ok r hr).fok) (htt.1 hne)
  obtain ⟨kk,r,ek,er,hr⟩:=k1.set (S':=up1 S1 y.toNat v) y0 y1 hz hupk λi hi=>by unfold up1; rw [if_neg hi]
  rw [ek,ob9,ob9,er,ob9]
  refine .bind (.app (by simp; omega)) λr5 hr5=>.pure ⟨up1 S1 y.toNat v,hr,⟨k2.gd.up hgy,λw hw=>?_⟩,?_,λw hw=>?_,λi hi hn=>?_,hmono,λy' hy'=>?_⟩
  ·subst hr5
   have hnz:∀ i,i<eQ.length->(S1 i 0).Kind≠0->(up1 S1 y.toNat v i 0).Kind≠0:=λi hi hk=>by
    unfold up1
    split
    ·exact gh (hgy.full 0 (by decide))
    ·exact hk
   rcases List.mem_append.1 hw with h' | h'
   ·obtain ⟨m1,m2,m3⟩:=k2.mem w h'
    exact ⟨m1,m2,hnz _ (by omega) m3⟩
   ·rw [List.mem_singleton.1 h']
    exact ⟨y0,y1,hupk⟩
  ·subst hr5
   simp only [List.length_append,List.length_singleton]
   omega
  ·subst hr5
   exact List.mem_append.2 (.inl (k4 w hw))
  ·subst hr5
   simp only [List.mem_append,List.mem_singleton,not_or] at hn
   have hne2:i≠y.toNat:=λe=>hn.2 (by omega)
   unfold up1
   rw [if_neg hne2]
   exact k5 i hi hn.1
  ·rw [ht] at hy'
   rcases List.mem_append.1 hy' with h' | h'
   ·intro r hr
    obtain ⟨b0,b1⟩:=hin y' (List.mem_of_mem_take h')
    unfold up1
    split
    ·rename_i e
     rw [<-e]
     exact leF.trans (k2.gd.ok _ (by omega) r hr).fok (k7 y' h' r hr) aU.le1
    ·exact k7 y' h' r hr
   ·rw [List.mem_singleton.1 h']
    intro r hr
    rw [hup]
    exact aU.le2
 ·have habs:=htt.2 he
  refine ⟨S1,k1,k2,k3,k4,k5,k6,λy' hy'=>?_⟩
  rw [ht] at hy'
  rcases List.mem_append.1 hy' with h' | h'
  ·exact k7 y' h'
  ·rw [List.mem_singleton.1 h']
   exact λr hr=>by rw [<-habs r hr]; exact aU.le2
theorem zh {eQ:List ab} (hc:COk eQ):Tot (dw eQ) λall=>∃ S,(all.length=eQ.length/\∀ i,i<eQ.length->∃ a,all[i]?=some a/\Ka a (S i))/\GdC eQ S/\ClC eQ S:=by
 have hmx:=hc.max
 have h1:=hc.one
 unfold dw
 refine .bind (.mk (by omega) (by omega)) λl hl=>.bind (.mk (by omega) (by omega)) λl2 hl2=>?_
 have hll:l.length=eQ.length:=by rw [hl]; simp
 have hll2:l2.length=eQ.length:=by rw [hl2]; simp
 refine .bind (P:=λs:List (Ar Int)=>s.length=eQ.length/\∀ i:Nat,i<eQ.length->∃ a,s[i]?=some a/\Ka a cC) (.iter (λs=>0<=s.1/\s.1<=(eQ.length:Int)/\s.2.length=eQ.length/\∀ i:Nat,(i:Int)<s.1->∃ a,s.2[i]?=some a/\Ka a cC) (λs=>((eQ.length:Int)-s.1).toNat) ⟨by simp,by simp,hll,λi hi=>by simp only at hi; omega⟩ λs hs=>?_) λl3 ⟨g1,g2⟩=>.bind (.nth (by omega) (by omega)) λ_ _=>.bind (.upd (by omega) (by omega)) λl4 hl4=>?_
 ·obtain ⟨i,a⟩:=s
  obtain ⟨g0,g1,g2,g3⟩:=hs
  simp only at g0 g1 g2 g3
  unfold iA
  refine .sel (λhlt=>?_) λhge=>.inr ⟨g2,λj hj=>g3 j (by simp only [decide_eq_false_iff_not,hll] at hge; omega)⟩
  simp only [decide_eq_true_eq,hll] at hlt
  refine .bind xq λz hz=>.bind (.nth g0 (by rw [g2]; exact hlt)) λ_ _=>.bind (.upd g0 (by rw [g2]; exact hlt)) λr hr=>.inl ?_
  subst hr
  rw [ao g0 (by omega)]
  refine ⟨⟨by simp only; omega,by simp only; omega,by simp only; rw [List.length_set]; exact g2,λj hj=>?_⟩,by simp only; omega⟩
  simp only at hj ⊢
  by_cases e:j=i.toNat
  ·subst e
   exact ⟨z,List.getElem?_set_self (by omega),hz⟩
  ·rw [List.getElem?_set_ne (λh=>e h.symm)]
   exact g3 j (by omega)
 have hA0:AIc eQ.length l4 l3 S0C:=by
  refine ⟨by rw [hl4,List.length_set]; exact hll2,g1,λi hi=>?_,λi hi=>?_⟩
  ·rw [hl4]
   unfold S0C
   by_cases e:i=0
   ·subst e
    rw [show (0:Int).toNat=0 from rfl,List.getElem?_set_self (by omega),if_pos rfl]
    rfl
   ·rw [show (0:Int).toNat=0 from rfl,List.getElem?_set_ne (λh=>e h.symm),if_neg e,hl2,List.getElem?_replicate,if_pos (by simpa using hi)]
    rfl
  ·obtain ⟨a,ea,ha⟩:=g2 i hi
   refine ⟨a,ea,λr hr=>?_⟩
   rw [ha r hr]
   unfold S0C
   split <;> rfl
 refine .bind (P:=λz:List Bool×List (Ar Int)=>∃ S,AIc eQ.length z.1 z.2 S/\GdC eQ S/\ClC eQ S) (.iter (λs=>∃ S,AIc eQ.length s.2.1 s.2.2 S/\CW eQ s.1 S/\fmS eQ.length S+s.1.length<=14401/\∀ i:Nat,i<eQ.length->(S i 0).Kind≠0->(i:Int)∉s.1->yz eQ S i) (λs=>fmC eQ.length s.2.1 s.2.2+s.1.length) ⟨S0C,hA0,⟨Av h1,λw hw=>?_⟩,?_,λi hi hk hn=>?_⟩ λs hs=>?_) λz ⟨S,z1,z2,z3⟩=>.pure ⟨S,⟨z1.len,z1.at_⟩,z2,z3⟩
 ·rw [List.mem_singleton.1 hw]
  refine ⟨by omega,by omega,?_⟩
  show (2:Int)≠0
  decide
 ·have:=@wV eQ.length S0C
  simp only [List.length_singleton]
  omega
 ·exfalso
  simp only at hn
  unfold S0C at hk
  by_cases e:i=0
  ·subst e; simp at hn
  ·rw [if_neg e] at hk; exact hk rfl
 ·obtain ⟨work,kn,a⟩:=s
  obtain ⟨S,hA,hW,hbd,hcl⟩:=hs
  simp only at hA hW hbd hcl
  unfold iB
  dsimp only
  refine .sel (λhlt=>?_) λhge=>.inr ?_
  rotate_left
  ·simp only [gt_iff_lt,decide_eq_false_iff_not] at hge
   have hnil:work=[]:=List.eq_nil_of_length_eq_zero (by omega)
   subst hnil
   exact ⟨S,hA,hW.gd,hW.gd.ok,hW.gd.init,λi q hq hk y hy=>hcl i (bM hq) hk (by simp) q hq hk y hy⟩
  simp only [gt_iff_lt,decide_eq_true_eq] at hlt
  rw [aR (by omega) (by omega)]
  refine .bind (.nth (by omega) (by omega)) λx ⟨hx,hxm⟩=>.bind (.cut ⟨by omega,by omega,by omega⟩) λr3 hr3=>?_
  have hr3':r3=work.dropLast:=by
   rw [hr3,show ((0:Int)).toNat=0 from rfl,List.drop_zero,List.dropLast_eq_take,show ((work.length:Int)-1).toNat=work.length-1 by omega]
  have hsplit:work=r3++[x]:=by
   have hne:work≠[]:=by rintro rfl; simp at hlt
   have hl:=List.dropLast_concat_getLast hne
   have hx2:work.getLast hne=x:=by
    have:work[work.length-1]?=some (work.getLast hne):=by
     rw [List.getLast_eq_getElem]
     exact List.getElem?_eq_getElem (by omega)
    rw [show ((work.length:Int)-1).toNat=work.length-1 by omega] at hx
    exact o9 (this.symm.trans hx)
   rw [hr3',<-hx2]
   exact hl.symm
  have hwlen:work.length=r3.length+1:=by rw [hsplit]; simp
  obtain ⟨x0,x1,xk⟩:=hW.mem x hxm
  have ex:((x.toNat:Nat):Int)=x:=by omega
  obtain ⟨b,_,eb,hb⟩:=hA.get x0 x1
  obtain ⟨q,hq⟩:∃ q,eQ[x.toNat]?=some q:=⟨_,List.getElem?_eq_getElem (by omega)⟩
  have hqm:=List.mem_of_getElem? hq
  have hqok:=hc.q q hqm
  have hnq:nth eQ x=some q:=by unfold nth; rw [if_neg (by omega)]; exact hq
  rw [eb,ob9,hnq,ob9]
  refine .bind (Aw hqok hb) λv hv=>?_
  rw [ob9,pZ x0 (by omega),ob9]
  have hin:∀ y∈nx q x,0<=y/\y<eQ.length:=λy hy=>pV hc hq y (by rw [ex]; exact hy)
  have hgv:∀ y∈nx q x,GVC eQ y.toNat (j3 q (S x.toNat)):=λy hy=>yy hc hW.gd hq xk (by rw [ex]; exact hy)
  refine .bind (Aa hc hv hin (@yA q x) hgv (work:=r3) hA ⟨hW.gd,λw hw=>hW.mem w (by rw [hsplit]; simp [hw])⟩ (by omega)) λz hz=>.inl ?_
  obtain ⟨S',z1,z2,z3,z4,z5,z6,z7⟩:=hz
  refine ⟨⟨S',z1,z2,by simp only; omega,λi hi hk hn=>?_⟩,?_⟩
  ·simp only at hn
   have he:=z5 i hi hn
   intro q' hq' hk' y hy
   rw [he] at hk' ⊢
   by_cases e:i=x.toNat
   ·subst e
    obtain rfl:=o9 (hq.symm.trans hq')
    rw [ex] at hy
    exact z7 y hy
   ·have hnw:(i:Int)∉work:=by
     rw [hsplit]
     simp only [List.mem_append,List.mem_singleton,not_or]
     exact ⟨λh=>hn (z4 _ h),λh=>e (by omega)⟩
    obtain ⟨b0,b1⟩:=pV hc hq' y hy
    have h2:=hcl i hi hk' hnw q' hq' hk' y hy
    exact λr hr=>leF.trans (hW.gd.ok _ (by omega) r hr).fok (h2 r hr) (z6 _ (by omega) r hr)
  ·simp only
   rw [z1.fm z2.gd,hA.fm hW.gd]
   omega
theorem xr {eQ:List ab} (hc:COk eQ):∃ all all' S,dw eQ=some all/\dY eQ=some all'/\(all.length=eQ.length/\∀ i,i<eQ.length->∃ a,all[i]?=some a/\Ka a (S i))/\AE eQ.length all' S/\∀ i,i<eQ.length->FoC (S i):=by
 obtain ⟨a,ea,S,h1,h2,h3⟩:=zh hc
 obtain ⟨a',ea',S',h1',h2',h3'⟩:=zf hc
 refine ⟨a,a',S,ea,ea',h1,⟨h1'.1,λi hi=>?_⟩,h2.ok⟩
 obtain ⟨l,e,hl⟩:=h1'.2 i hi
 exact ⟨l,e,hl.congr λr hr=>leF.anti (h2'.ok i hi r hr).fok (h2.ok i hi r hr).fok (h2'.min S h3 i hi r hr) (h2.min S' h3' i hi r hr)⟩
def rdQ (q:ab) (f:Nat->ai):ab:=if q.Op=2\/q.Op=5\/q.Op=6\/q.Op=9 then ⟨q.Op,q.Dst,dec q.A.toNat (f q.A.toNat),q.B,q.N⟩ else if q.Op=3 then ⟨q.Op,q.Dst,dec q.A.toNat (f q.A.toNat),dec q.B.toNat (f q.B.toNat),q.N⟩ else q
theorem Ax {q:ab} {m:Int} (hq:QOk m q) {l:List Int} {f:Nat->ai} (hl:Cs l f):gD q l=some (rdQ q f):=by
 refine Tot.eq ?_
 unfold gD rdQ
 refine .bind (P:=λb=>b=true↔(q.Op=2\/q.Op=5\/q.Op=6\/q.Op=9)) (.sel (λh=>.pure ?_) λh=>.sel (λh'=>.pure ?_) λh'=>.sel (λh''=>.pure ?_) λh''=>.pure ?_) λb hb=>.sel (λhbt=>?_) λhbf=>.sel (λh=>?_) λh=>.pure ?_
 ·simp only [beq_iff_eq] at *; simp [h]
 ·simp only [beq_iff_eq] at *; simp [h']
 ·simp only [beq_iff_eq] at *; simp [h'']
 ·simp only [beq_eq_false_iff_ne,ne_eq] at *; simp [h,h',h'']
 ·rw [hl.get (nM hq (hb.1 hbt)),ob9,if_pos (hb.1 hbt)]
  exact .pure rfl
 ·have h3:q.Op=3:=by simpa using h
  obtain ⟨rA,rB⟩:=mP hq h3
  rw [hl.get rA,ob9,hl.get rB,ob9,if_neg (by omega),if_pos h3]
  exact .pure rfl
 ·have h3:q.Op≠3:=by simpa using h
  rw [if_neg (λhh=>by rw [hb.2 hh] at hbf; cases hbf),if_neg h3]
def PC (eQ:List ab) (S:Nat->Nat->ai) (i:Nat) (q':ab):Prop:=∃ q,eQ[i]?=some q/\q'=rdQ q (S i)
theorem PC.inj {eQ:List ab} {S:Nat->Nat->ai} (i:Nat) (q q':ab) (h:PC eQ S i q) (h':PC eQ S i q'):q=q':=by
 obtain ⟨a,h1,h2⟩:=h
 obtain ⟨a',h1',h2'⟩:=h'
 obtain rfl:=o9 (h1.symm.trans h1')
 rw [h2,h2']
theorem zi {q:ab} {m:Int} (h:QOk m q):Tot (iq q) λu=>u≠0↔(q.Op=2\/q.Op=5\/q.Op=6\/q.Op=9\/q.Op=3):=(zu h).mono λu ⟨hu,hb⟩=>by
 have h0:u=0->∀ r:Nat,(gf q).contains (r:Int)=false:=λe r=>by
  rw [<-hb,e]
  unfold bt
  simp
 constructor
 ·intro hne
  refine Classical.byContradiction λhno=>hne (hu.ext ⟨by decide,by decide⟩ λr hr=>?_)
  rw [hb]
  unfold gf
  rw [if_neg (by omega),if_neg (by omega)]
  unfold bt
  simp
 ·intro ho e
  have hr:Rg q.A/\(gf q).contains q.A=true:=by
   by_cases h4:q.Op=2\/q.Op=5\/q.Op=6\/q.Op=9
   ·refine ⟨nM h h4,?_⟩
    unfold gf
    rw [if_pos h4]
    simp
   ·have h3:q.Op=3:=by omega
    refine ⟨(mP h h3).1,?_⟩
    unfold gf
    rw [if_neg h4,if_pos h3]
    split
    ·simp
    ·rcases Int.le_total q.A q.B with hh | hh
     ·rw [Int.min_eq_left hh]; simp
     ·rw [Int.max_eq_left hh]; simp
  have:=h0 e q.A.toNat
  have h5:=hr.1
  unfold Rg at h5
  rw [show ((q.A.toNat:Nat):Int)=q.A by omega,hr.2] at this
  cases this
theorem zj:lq jz fN:=lq.of vt λ{eQ} hc=>by
 have hmx:=hc.max
 obtain ⟨all,all',S,ea,es,hA,hS,hf⟩:=xr hc
 have hal:=hA.1
 have A:Tot (aI (f0 eQ all) (0,eQ)) λout=>out.length=eQ.length/\∀ i q',out[i]?=some q'->PC eQ S i q':=by
  refine nN (PC eQ S) hmx (λi out q h0 h1 h2 hq ho=>?_) λout=>?_
  ·unfold f0
   dsimp only
   have hqm:q∈eQ:=List.mem_of_getElem? hq
   obtain ⟨a,e1,k1⟩:=hA.2 i.toNat (by omega)
   have e1':nth all i=some a:=by unfold nth; rw [if_neg (by omega)]; exact e1
   have hnq:nth eQ i=some q:=by unfold nth; rw [if_neg (by omega)]; exact hq
   have hno:nth out i=some q:=by unfold nth; rw [if_neg (by omega)]; exact ho
   refine .st (by rw [hal]; simpa using h1) (.bind (P:=λz=>∃ q',z=out.set i.toNat q'/\PC eQ S i.toNat q') ?_ λz ⟨q',hz,hp⟩=>.inl ⟨q',by rw [ao h0 (by omega),hz],hp⟩)
   rw [e1',ob9,hnq,ob9]
   refine .bind (zi (hc.q q hqm)) λu hu=>?_
   have hself:out=out.set i.toNat q:=(List.ext_getElem? λj=>by
    by_cases e:j=i.toNat
    ·subst e
     rw [List.getElem?_set_self (by omega),ho]
    ·rw [List.getElem?_set_ne (λh=>e h.symm)])
   refine .bind (P:=λz=>z=out.set i.toNat (if u≠0 then ab.mk q.Op q.Dst (dec q.A.toNat (S i.toNat q.A.toNat)) q.B q.N else q)) (.sel (λhn=>?_) λhn=>.pure ?_) λz hz=>?_
   ·have hn':u≠0:=by simpa using hn
    have hrA:Rg q.A:=by
     by_cases h4:q.Op=2\/q.Op=5\/q.Op=6\/q.Op=9
     ·exact nM (hc.q q hqm) h4
     ·exact (mP (hc.q q hqm) (by have:=hu.1 hn'; omega)).1
    rw [ob9,k1.get hrA,ob9,hno,ob9,if_pos hn']
    exact .bind (.upd h0 (by rw [h2]; exact h1)) λr hr=>.pure hr
   ·have hn':u=0:=by simpa using hn
    rw [if_neg (λh=>h hn')]
    exact hself
   ·rw [ob9]
    have hzn:nth z i=some (if u≠0 then ab.mk q.Op q.Dst (dec q.A.toNat (S i.toNat q.A.toNat)) q.B q.N else q):=by
     unfold nth
     rw [if_neg (by omega),hz,List.getElem?_set_self (by omega)]
    refine .sel (λh3=>?_) λh3=>.pure ⟨_,hz,q,hq,?_⟩
    ·have h3':q.Op=3:=by simpa using h3
     have hu':=hu.2 (by omega)
     rw [ob9,k1.get (mP (hc.q q hqm) h3').2,ob9,hzn,ob9,if_pos hu']
     refine .bind (.upd h0 (by rw [hz,List.length_set,h2]; exact h1)) λr hr=>.pure ⟨ab.mk q.Op q.Dst (dec q.A.toNat (S i.toNat q.A.toNat)) (dec q.B.toNat (S i.toNat q.B.toNat)) q.N,by rw [hr,hz,List.set_set],q,hq,?_⟩
     unfold rdQ
     rw [if_neg (by omega),if_pos h3']
    ·have h3':q.Op≠3:=by simpa using h3
     unfold rdQ
     by_cases h4:q.Op=2\/q.Op=5\/q.Op=6\/q.Op=9
     ·rw [if_pos (hu.2 (by omega)),if_pos h4]
     ·rw [if_neg h4,if_neg h3',if_neg (λh=>by have:=hu.1 h; omega)]
  ·unfold f0; rw [aZ (by rw [hal]; simp)]
 have B:Tot (aI (c7 eQ all') ([],0)) λout=>out.length=eQ.length/\∀ i q',out[i]?=some q'->PC eQ S i q':=by
  refine kE (n:=eQ.length) (PC eQ S) hmx (λi out h0 h1 h2=>?_) λout=>?_
  ·unfold c7
   dsimp only
   obtain ⟨q,hq⟩:∃ q,eQ[i.toNat]?=some q:=⟨_,List.getElem?_eq_getElem (by omega)⟩
   obtain ⟨l,e2,k2⟩:=hS.get h0 h1
   have hnq:nth eQ i=some q:=by unfold nth; rw [if_neg (by omega)]; exact hq
   refine .st (by simpa using h1) ?_
   rw [e2,ob9,hnq,ob9,Ax (hc.q q (List.mem_of_getElem? hq)) k2,ob9]
   exact .bind (.app (by simp; omega)) λr hr=>.inl ⟨_,by rw [ao h0 (by omega),hr],q,hq,rfl⟩
  ·unfold c7; rw [aZ (by simp)]
 obtain ⟨a,ea',ha⟩:=A
 obtain ⟨b,eb',hb⟩:=B
 refine ⟨a,?_,(b,true),?_,mQ ha hb PC.inj⟩
 ·unfold jz
  rw [lL hc,ob9,bB (show (!true)=false from rfl),mR eQ hmx,ob9,ea,ob9,ea']
  rfl
 ·unfold fN
  rw [aN hc,ob9,bB (show (!true)=false from rfl),es,ob9,eb']
  rfl
end
noncomputable section
def Clh (q:ab) (g:Nat->Bool) (r s:Nat):Prop:=aB q=(r:Int)/\g s=true/\¬ (q.Op=2/\q.A=(s:Int))
def MT (eQ:List ab) (l:List (List Bool)) (k r s:Nat):Prop:=r≠s/\∃ (i:Nat) (q:ab),i<k/\eQ[i]?=some q/\(Clh q (eJ l q i) r s\/Clh q (eJ l q i) s r)
theorem MT.symm {eQ:List ab} {l:List (List Bool)} {k r s:Nat} (h:MT eQ l k r s):MT eQ l k s r:=⟨h.1.symm,by
 obtain ⟨i,q,h1,h2,h3⟩:=h.2
 exact ⟨i,q,h1,h2,h3.symm⟩⟩
theorem MT.succ {eQ:List ab} {l:List (List Bool)} {k r s:Nat} {q:ab} (hq:eQ[k]?=some q):MT eQ l (k+1) r s↔MT eQ l k r s\/(r≠s/\(Clh q (eJ l q k) r s\/Clh q (eJ l q k) s r)):=by
 constructor
 ·rintro ⟨h,i,q',h1,h2,h3⟩
  by_cases e:i=k
  ·subst e
   obtain rfl:=o9 (hq.symm.trans h2)
   exact .inr ⟨h,h3⟩
  ·exact .inl ⟨h,i,q',by omega,h2,h3⟩
 ·rintro (⟨h,i,q',h1,h2,h3⟩ | ⟨h,h3⟩)
  ·exact ⟨h,i,q',by omega,h2,h3⟩
  ·exact ⟨h,k,q,by omega,hq,h3⟩
theorem Ay {u:Int} (hu:Bs u):Tot (fU u) λL=>L.length<=12/\∀ x:Int,x∈L↔Rg x/\bt u x.toNat=true:=by
 unfold fU
 refine .bind (P:=λL:List Int=>L.length<=12/\∀ x:Int,x∈L↔Rg x/\bt u x.toNat=true) (.iter (λs=>0<=s.2/\s.2<=12/\(s.1.length:Int)<=s.2/\∀ x:Int,x∈s.1↔0<=x/\x<s.2/\bt u x.toNat=true) (λs=>(12-s.2).toNat) ⟨by simp,by simp,by simp,λx=>⟨λh=>by simp at h,λh=>by have:=h.1; have:=h.2.1; simp only at this; omega⟩⟩ λs hs=>?_) λz hz=>.pure hz
 obtain ⟨L,i⟩:=s
 obtain ⟨g0,g1,g2,g3⟩:=hs
 simp only at g0 g1 g2 g3
 unfold jm
 refine .sel (λh=>?_) λh=>.inr ⟨(by show L.length<=12; omega),λx=>?_⟩
 ·simp only [decide_eq_true_eq] at h
  dsimp only
  have hi:Rg i:=by unfold Rg; omega
  rw [uK hu hi,ob9,ao g0 (by omega)]
  refine .bind (P:=λz:List Int=>(z.length:Int)<=i+1/\∀ x:Int,x∈z↔0<=x/\x<i+1/\bt u x.toNat=true) (.sel (λhb=>.bind (.app (by simp; omega)) λr hr=>.pure ?_) λhb=>.pure ⟨by omega,λx=>?_⟩) λz hz=>.inl ⟨⟨by simp only; omega,by simp only; omega,hz⟩,by simp only; omega⟩
  ·subst hr
   refine ⟨by simp only [List.length_append,List.length_singleton]; omega,λx=>?_⟩
   simp only [List.mem_append,List.mem_singleton]
   constructor
   ·rintro (h' | rfl)
    ·have:=(g3 x).1 h'; exact ⟨this.1,by omega,this.2.2⟩
    ·exact ⟨g0,by omega,hb⟩
   ·rintro ⟨h1,h2,h3⟩
    by_cases e:x=i
    ·exact .inr e
    ·exact .inl ((g3 x).2 ⟨h1,by omega,h3⟩)
  ·rw [g3 x]
   constructor
   ·rintro ⟨h1,h2,h3⟩; exact ⟨h1,by omega,h3⟩
   ·rintro ⟨h1,h2,h3⟩
    refine ⟨h1,?_,h3⟩
    by_cases e:x=i
    ·subst e; rw [hb] at h3; cases h3
    ·omega
 ·simp only [decide_eq_false_iff_not] at h
  show x∈L↔_
  rw [g3 x]
  unfold Rg
  constructor
  ·rintro ⟨h1,h2,h3⟩; exact ⟨by omega,h3⟩
  ·rintro ⟨h1,h3⟩; exact ⟨h1.1,by omega,h3⟩
theorem Ab {d:Int} (hd:Rg d) {L:List Int} (hL:∀ x∈L,Rg x) (hlen:L.length<=12) {m:Ar Int} (hm:∀ r,r<12->Bs (m r)):Tot (aI (iX d L) (0,m)) λz=>∀ r:Nat,r<12->Bs (z r)/\∀ s:Nat,bt (z r) s=(bt (m r) s||(L.contains (r:Int)&&((s:Int)==d))):=by
 obtain ⟨D,eD,D1,D2⟩:=nK hd
 refine .iter (λt=>0<=t.1/\t.1<=(L.length:Int)/\∀ r:Nat,r<12->Bs (t.2 r)/\∀ s:Nat,bt (t.2 r) s=(bt (m r) s||((L.take t.1.toNat).contains (r:Int)&&((s:Int)==d)))) (λt=>((L.length:Int)-t.1).toNat) ⟨by simp,by simp,λr hr=>⟨hm r hr,λs=>by simp⟩⟩ λt ht=>?_
 obtain ⟨j,c⟩:=t
 obtain ⟨g0,g1,g2⟩:=ht
 simp only at g0 g1 g2
 unfold iX
 refine .sel (λh=>?_) λh=>.inr λr hr=>?_
 ·simp only [decide_eq_true_eq] at h
  dsimp only
  refine .bind (.nth g0 h) λx ⟨hx,hxm⟩=>?_
  have hxr:=hL x hxm
  have hxr':=hxr
  unfold Rg at hxr'
  have hg:cB 12 c x=some (c x.toNat):=by unfold cB; rw [if_pos (by omega)]
  have ht:L.take (j+1).toNat=L.take j.toNat++[x]:=by rw [show (j+1).toNat=j.toNat+1 by omega,List.take_add_one,hx]; rfl
  rw [hg,ob9,eD,ob9,ob9,ao g0 (by omega)]
  refine .inl ⟨⟨by simp only; omega,by simp only; omega,λr hr=>?_⟩,by simp only; omega⟩
  simp only
  obtain ⟨k1,k2⟩:=g2 r hr
  unfold lD
  rw [ht]
  by_cases e:r=x.toNat
  ·subst e
   rw [if_pos rfl]
   obtain ⟨o1,o2⟩:=um k1 D1
   refine ⟨o1,λs=>?_⟩
   have ec:((L.take j.toNat)++[x]).contains (((x.toNat:Nat)):Int)=true:=by
    rw [show (((x.toNat:Nat)):Int)=x by omega]
    simp
   rw [o2,k2,D2,ec]
   cases bt (m x.toNat) s <;> cases ((L.take j.toNat).contains (((x.toNat:Nat)):Int)) <;> cases ((s:Int)==d) <;> rfl
  ·rw [if_neg e]
   refine ⟨k1,λs=>?_⟩
   have ec:((L.take j.toNat)++[x]).contains (r:Int)=(L.take j.toNat).contains (r:Int):=by
    rw [Bool.eq_iff_iff]
    simp only [List.contains_iff_mem,List.mem_append,List.mem_singleton]
    exact ⟨λh=>h.resolve_right λh=>e (by omega),.inl⟩
   rw [k2,ec]
 ·simp only [decide_eq_false_iff_not] at h
  obtain ⟨k1,k2⟩:=g2 r hr
  refine ⟨k1,λs=>?_⟩
  show bt (c r) s=_
  rw [k2,List.take_of_length_le (by omega)]
def Ms (m:Ar Int) (M:Nat->Nat->Prop):Prop:=∀ r,r<12->Bs (m r)/\∀ s,s<12->(bt (m r) s=true↔M r s)
theorem xt {eQ:List ab} (hc:COk eQ) {b:List Int} {l:List (List Bool)} (hb:dA eQ=some b) (hL:LR eQ.length b l):Tot (gR eQ) λm=>Ms m (MT eQ l eQ.length):=by
 have hmx:=hc.max
 unfold gR
 rw [hb,ob9]
 refine .bind (P:=λm=>Ms m (MT eQ l eQ.length)) (.iter (λt=>0<=t.1/\t.1<=(eQ.length:Int)/\Ms t.2 (MT eQ l t.1.toNat)) (λt=>((eQ.length:Int)-t.1).toNat) ⟨by simp,by simp,λr hr=>⟨(show Bs 0 from ⟨by decide,by decide⟩),λs hs=>⟨λh=>?_,λh=>?_⟩⟩⟩ λt ht=>?_) λz hz=>.pure hz
 ·simp only at h
  unfold bt at h
  simp at h
 ·obtain ⟨_,i,q,h1,_⟩:=h
  simp at h1
 obtain ⟨i,m⟩:=t
 obtain ⟨g0,g1,g2⟩:=ht
 simp only at g0 g1 g2
 unfold kY
 refine .sel (λh=>?_) λh=>.inr ?_
 ·simp only [decide_eq_true_eq] at h
  dsimp only
  obtain ⟨q,hq⟩:∃ q,eQ[i.toNat]?=some q:=⟨_,List.getElem?_eq_getElem (by omega)⟩
  have hqok:=hc.q q (List.mem_of_getElem? hq)
  have ei:((i.toNat:Nat):Int)=i:=by omega
  rw [show nth eQ i=some q by unfold nth; rw [if_neg (by omega)]; exact hq,ob9,nL,ob9,ao g0 (by omega)]
  refine .bind (P:=λz=>Ms z (MT eQ l (i.toNat+1))) ?_ λz hz=>.inl ⟨⟨by simp only; omega,by simp only; omega,by simp only; rw [show (i+1).toNat=i.toNat+1 by omega]; exact hz⟩,by simp only; omega⟩
  rcases lJ hqok with hs | hd
  ·refine .st (by rw [hs]; decide) (.pure λr hr=>⟨(g2 r hr).1,λs hs'=>?_⟩)
   rw [(g2 r hr).2 s hs',MT.succ hq]
   refine ⟨.inl,λh=>h.resolve_right ?_⟩
   rintro ⟨_,h | h⟩ <;> (have:=h.1; rw [hs] at this; omega)
  ·have hd0:=hd
   unfold Rg at hd0
   obtain ⟨D,eD,D1,D2⟩:=nK hd
   refine .sf (by simp; omega) ?_
   rw [eD,ob9]
   refine .bind (uL hc hL g0 hq) λy ⟨y1,y2⟩=>?_
   obtain ⟨n1,n2⟩:=qK y1 D1
   refine .bind (P:=λu=>Bs u/\∀ s:Nat,s<12->(bt u s=true↔(eJ l q i s=true/\(s:Int)≠aB q/\¬ (q.Op=2/\q.A=(s:Int))))) (.sel (λh2=>?_) λh2=>.pure ⟨n1,λs hs=>?_⟩) λu ⟨u1,u2⟩=>?_
   ·have h2':q.Op=2:=by simpa using h2
    obtain ⟨D',eD',D1',D2'⟩:=nK (nM hqok (.inl h2'))
    rw [eD',ob9]
    obtain ⟨o1,o2⟩:=qK n1 D1'
    refine .pure ⟨o1,λs hs=>?_⟩
    rw [o2,n2,y2 s hs,D2,D2']
    simp only [Bool.and_eq_true,Bool.not_eq_true',beq_eq_false_iff_ne,ne_eq,and_assoc]
    refine and_congr_right λ_=>and_congr_right λ_=>⟨λh hh=>h hh.2.symm,λh hh=>h ⟨h2',hh.symm⟩⟩
   ·have h2':q.Op≠2:=by simpa using h2
    rw [n2,y2 s hs,D2]
    simp only [Bool.and_eq_true,Bool.not_eq_true',beq_eq_false_iff_ne,ne_eq]
    exact ⟨λh=>⟨h.1,h.2,λhh=>h2' hh.1⟩,λh=>⟨h.1,h.2.1⟩⟩
   ·have hg:cB 12 m (aB q)=some (m (aB q).toNat):=by unfold cB; rw [if_pos (by omega)]
    rw [hg,ob9,ob9]
    refine .bind (Ay u1) λL ⟨L1,L2⟩=>?_
    obtain ⟨o1,o2⟩:=um (g2 (aB q).toNat (by omega)).1 u1
    have hM:∀ r,r<12->Bs (lD m (aB q) (bq .or .u16 (m (aB q).toNat) u) r):=λr hr=>by
     unfold lD
     split
     ·exact o1
     ·exact (g2 r hr).1
    refine .bind (Ab hd (λx hx=>((L2 x).1 hx).1) L1 hM) λz hz=>.pure λr hr=>⟨(hz r hr).1,λs hs=>?_⟩
    rw [(hz r hr).2 s,MT.succ hq,ei,<-(g2 r hr).2 s hs]
    have hc1:L.contains (r:Int)=true↔(eJ l q i r=true/\(r:Int)≠aB q/\¬ (q.Op=2/\q.A=(r:Int))):=by
     rw [List.contains_iff_mem,L2,show ((r:Nat):Int).toNat=r by omega,u2 r hr]
     exact ⟨λh=>h.2,λh=>⟨by unfold Rg; omega,h⟩⟩
    have hc2:bt (lD m (aB q) (bq .or .u16 (m (aB q).toNat) u) r) s=true↔bt (m r) s=true\/((r:Int)=aB q/\bt u s=true):=by
     unfold lD
     by_cases e:r=(aB q).toNat
     ·subst e
      rw [if_pos rfl,o2,Bool.or_eq_true]
      exact or_congr_right ⟨λh=>⟨by omega,h⟩,λh=>h.2⟩
     ·rw [if_neg e]
      exact ⟨.inl,λh=>h.resolve_right λh=>e (by omega)⟩
    rw [Bool.or_eq_true,Bool.and_eq_true,hc1,hc2,u2 s hs,beq_iff_eq]
    unfold Clh
    constructor
    ·rintro ((h | ⟨h1,h2,h3,h4⟩) | ⟨⟨h1,h2,h3⟩,h4⟩)
     ·exact .inl h
     ·exact .inr ⟨λe=>h3 (by rw [<-e]; exact h1),.inl ⟨h1.symm,h2,h4⟩⟩
     ·exact .inr ⟨λe=>h2 (by rw [e]; exact h4),.inr ⟨h4.symm,h1,h3⟩⟩
    ·rintro (h | ⟨hne,⟨h1,h2,h3⟩ | ⟨h1,h2,h3⟩⟩)
     ·exact .inl (.inl h)
     ·exact .inl (.inr ⟨h1.symm,h2,by rw [h1]; omega,h3⟩)
     ·exact .inr ⟨⟨h2,by rw [h1]; omega,h3⟩,h1.symm⟩
 ·simp only [decide_eq_false_iff_not] at h
  rw [show i.toNat=eQ.length by omega] at g2
  exact g2
def PLs (M:Nat->Nat->Prop) (p:Nat->Int) (k:Nat):Prop:=∀ m,m<k->0<=p m/\p m<=m/\(∀ s,s<m->M s m->p s≠p m)/\∀ x:Int,0<=x->x<p m->∃ s,s<m/\M s m/\p s=x
theorem PLs.uniq {M:Nat->Nat->Prop} {p p':Nat->Int}:∀ {k:Nat},PLs M p k->PLs M p' k->∀ m,m<k->p m=p' m
 | 0,_,_,m,hm=>by omega
 | k+1,h,h',m,hm=>by
  have ih:∀ m,m<k->p m=p' m:=PLs.uniq (λm hm=>h m (by omega)) (λm hm=>h' m (by omega))
  by_cases e:m=k
  ·subst e
   obtain ⟨a1,a2,a3,a4⟩:=h m hm
   obtain ⟨b1,b2,b3,b4⟩:=h' m hm
   rcases Int.lt_trichotomy (p m) (p' m) with hl | hl | hl
   ·obtain ⟨s,s1,s2,s3⟩:=b4 (p m) a1 hl
    exact absurd (by rw [ih s s1]; exact s3) (a3 s s1 s2)
   ·exact hl
   ·obtain ⟨s,s1,s2,s3⟩:=a4 (p' m) b1 hl
    exact absurd (by rw [<-ih s s1]; exact s3) (b3 s s1 s2)
  ·exact ih m (by omega)
theorem PLs.congr {M:Nat->Nat->Prop} {p p':Nat->Int} {k:Nat} (h:PLs M p k) (he:∀ m,m<k->p m=p' m):PLs M p' k:=λm hm=>by
 obtain ⟨a1,a2,a3,a4⟩:=h m hm
 refine ⟨by rw [<-he m hm]; exact a1,by rw [<-he m hm]; exact a2,λs hs hM=>by rw [<-he s (by omega),<-he m hm]; exact a3 s hs hM,λx h0 h1=>?_⟩
 obtain ⟨s,s1,s2,s3⟩:=a4 x h0 (by rw [he m hm]; exact h1)
 exact ⟨s,s1,s2,by rw [<-he s (by omega)]; exact s3⟩
def gl (l:List Int) (r:Nat):Int:=(l[r]?).getD 0
theorem tm {l:List Int} {x:Int} (h0:0<=x) (h1:x<l.length):nth l x=some (gl l x.toNat):=by
 unfold nth gl
 rw [if_neg (by omega),List.getElem?_eq_getElem (by omega)]
 rfl
theorem nQ {l:List Int} {k r:Nat} {v:Int} (hk:k<l.length):gl (l.set k v) r=if r=k then v else gl l r:=by
 unfold gl
 by_cases e:r=k
 ·subst e; rw [List.getElem?_set_self hk,if_pos rfl]; rfl
 ·rw [List.getElem?_set_ne (λh=>e h.symm),if_neg e]
theorem uQ {l:List Int} {r:Nat} {v:Int}:gl (l++[v]) r=if r=l.length then v else gl l r:=by
 unfold gl
 by_cases e:r=l.length
 ·subst e; rw [List.getElem?_append_right (Nat.le_refl _),if_pos rfl]; simp
 ·rw [if_neg e]
  rcases Nat.lt_or_ge r l.length with h | h
  ·rw [List.getElem?_append_left h]
  ·rw [List.getElem?_eq_none (by simp; omega),List.getElem?_eq_none h]
theorem zk {eQ:List ab} (hc:COk eQ) {M:Nat->Nat->Prop} (hsy:∀ r s,M r s->M s r) (hm:Tot (gR eQ) λm=>Ms m M):Tot (gS eQ) λl=>l.length=12/\PLs M (gl l) 12:=by
 unfold gS
 refine .bind hm λm hM=>.bind (.mk (by omega) (by decide)) λr1 hr1=>?_
 have hl1:r1.length=12:=by rw [hr1]; rfl
 refine .bind (P:=λl:List Int=>l.length=12/\PLs M (gl l) 12) (.iter (λs=>0<=s.1/\s.1<=12/\s.2.length=12/\PLs M (gl s.2) s.1.toNat/\∀ k:Nat,s.1<=(k:Int)->gl s.2 k=0) (λs=>(12-s.1).toNat) ⟨by simp,by simp,hl1,λm hm=>by simp at hm,λk _=>?_⟩ λs hs=>?_) λz hz=>.pure hz
 ·simp only
  rw [hr1]
  unfold gl
  rw [List.getElem?_replicate]
  split <;> rfl
 obtain ⟨i,l⟩:=s
 obtain ⟨g0,g1,g2,g3,g4⟩:=hs
 simp only at g0 g1 g2 g3 g4
 unfold k9
 refine .sel (λh=>?_) λh=>.inr ?_
 rotate_left
 ·simp only [decide_eq_false_iff_not,hl1] at h
  rw [show i.toNat=12 by omega] at g3
  exact ⟨g2,g3⟩
 simp only [decide_eq_true_eq,hl1] at h
 have hin:i.toNat<12:=by omega
 have ei:((i.toNat:Nat):Int)=i:=by omega
 have hMi:=hM i.toNat hin
 have hg:cB 12 m i=some (m i.toNat):=by unfold cB; rw [if_pos (by omega)]
 refine .bind (P:=λu=>Bs u/\∀ r:Nat,r<12->(bt u r=true↔∃ s,s<i.toNat/\M i.toNat s/\gl l s=(r:Int))) (.iter (λt=>0<=t.2/\t.2<=i/\Bs t.1/\∀ r:Nat,r<12->(bt t.1 r=true↔∃ s:Nat,(s:Int)<t.2/\M i.toNat s/\gl l s=(r:Int))) (λt=>(i-t.2).toNat) ⟨by simp,by simp only; omega,⟨by decide,by decide⟩,λr hr=>⟨λh=>by unfold bt at h; simp at h,λ⟨s,h1,_⟩=>by simp only at h1; omega⟩⟩ λt ht=>?_) λu ⟨u1,u2⟩=>?_
 ·obtain ⟨u,j⟩:=t
  obtain ⟨k0,k1,k2,k3⟩:=ht
  simp only at k0 k1 k2 k3
  unfold kZ
  refine .sel (λhj=>?_) λhj=>.inr ⟨k2,λr hr=>?_⟩
  ·simp only [decide_eq_true_eq] at hj
   dsimp only
   have hjr:Rg j:=by unfold Rg; omega
   have ej:((j.toNat:Nat):Int)=j:=by omega
   obtain ⟨p1,p2,_⟩:=g3 j.toNat (by omega)
   have hpr:Rg (gl l j.toNat):=by unfold Rg; omega
   rw [hg,ob9,uK hMi.1 hjr,ob9,ao k0 (by omega)]
   refine .bind (P:=λv=>Bs v/\∀ r:Nat,r<12->(bt v r=true↔∃ s:Nat,(s:Int)<j+1/\M i.toNat s/\gl l s=(r:Int))) (.sel (λhh=>?_) λhh=>.pure ⟨k2,λr hr=>?_⟩) λv hv=>.inl ⟨⟨by simp only; omega,by simp only; omega,hv⟩,by simp only; omega⟩
   ·have hMj:=(hMi.2 j.toNat (by omega)).1 hh
    obtain ⟨D,eD,D1,D2⟩:=nK hpr
    rw [tm k0 (by rw [g2]; omega),ob9,eD,ob9]
    obtain ⟨o1,o2⟩:=um k2 D1
    refine .pure ⟨o1,λr hr=>?_⟩
    rw [o2,Bool.or_eq_true,k3 r hr,D2,beq_iff_eq]
    constructor
    ·rintro (⟨s,h1,h2,h3⟩ | h1)
     ·exact ⟨s,by omega,h2,h3⟩
     ·exact ⟨j.toNat,by omega,hMj,h1.symm⟩
    ·rintro ⟨s,h1,h2,h3⟩
     by_cases e:s=j.toNat
     ·subst e; exact .inr h3.symm
     ·exact .inl ⟨s,by omega,h2,h3⟩
   ·have hMj:¬ M i.toNat j.toNat:=λhm=>by rw [(hMi.2 j.toNat (by omega)).2 hm] at hh; cases hh
    rw [k3 r hr]
    constructor
    ·rintro ⟨s,h1,h2,h3⟩; exact ⟨s,by omega,h2,h3⟩
    ·rintro ⟨s,h1,h2,h3⟩
     by_cases e:s=j.toNat
     ·subst e; exact absurd h2 hMj
     ·exact ⟨s,by omega,h2,h3⟩
  ·simp only [decide_eq_false_iff_not] at hj
   show bt u r=true↔_
   rw [k3 r hr]
   constructor
   ·rintro ⟨s,h1,h2,h3⟩; exact ⟨s,by omega,h2,h3⟩
   ·rintro ⟨s,h1,h2,h3⟩; exact ⟨s,by omega,h2,h3⟩
 ·have hfree:bt u i.toNat=false:=by
   cases hb:bt u i.toNat
   ·rfl
   ·obtain ⟨s,s1,s2,s3⟩:=(u2 i.toNat hin).1 hb
    have:=(g3 s s1).2.1
    omega
  refine .bind (P:=λz:List Int=>∃ p:Int,0<=p/\p<=i/\z=l.set i.toNat p/\bt u p.toNat=false/\∀ x:Nat,(x:Int)<p->bt u x=true) (.iter (λt=>∃ p:Int,0<=p/\p<=i/\t=l.set i.toNat p/\∀ x:Nat,(x:Int)<p->bt u x=true) (λt=>(12-gl t i.toNat).toNat) ⟨0,by omega,g0,?_,λx hx=>by omega⟩ λt ht=>?_) λz hz=>?_
  ·exact List.ext_getElem? λj=>by
    by_cases e:j=i.toNat
    ·subst e
     have h4:=g4 i.toNat (by omega)
     unfold gl at h4
     rw [List.getElem?_set_self (by omega)]
     rw [List.getElem?_eq_getElem (show i.toNat<l.length by omega),Option.getD_some] at h4
     rw [List.getElem?_eq_getElem (show i.toNat<l.length by omega),h4]
    ·rw [List.getElem?_set_ne (λh=>e h.symm)]
  ·obtain ⟨p,p0,p1,rfl,p2⟩:=ht
   have hil:i.toNat<l.length:=by omega
   have hgi:nth (l.set i.toNat p) i=some p:=by
    rw [tm g0 (by rw [List.length_set]; omega),nQ hil,if_pos rfl]
   unfold k8
   dsimp only
   have hpr:Rg p:=by unfold Rg; omega
   rw [hgi,ob9,uK u1 hpr,ob9]
   refine .sel (λhh=>?_) λhh=>.inr ⟨p,p0,p1,rfl,hh,p2⟩
   have hpi:p≠i:=λe=>by rw [e,hfree] at hh; cases hh
   rw [ob9,ob9,ao p0 (by omega)]
   refine .bind (.upd g0 (by rw [List.length_set]; omega)) λr2 hr2=>.inl ⟨⟨p+1,by omega,by omega,by rw [hr2,List.set_set],λx hx=>?_⟩,?_⟩
   ·by_cases e:(x:Int)=p
    ·rw [show p.toNat=x by omega] at hh; exact hh
    ·exact p2 x (by omega)
   ·rw [hr2,List.set_set,nQ hil,if_pos rfl,nQ hil,if_pos rfl]
    omega
  ·obtain ⟨p,p0,p1,rfl,p2,p3⟩:=hz
   have hil:i.toNat<l.length:=by omega
   rw [ao g0 (by omega)]
   refine .inl ⟨⟨by simp only; omega,by simp only; omega,by simp only; rw [List.length_set]; exact g2,?_,λk hk=>?_⟩,by simp only; omega⟩
   ·simp only
    rw [show (i+1).toNat=i.toNat+1 by omega]
    intro m' hm'
    by_cases e:m'=i.toNat
    ·subst e
     rw [nQ hil,if_pos rfl]
     refine ⟨p0,by omega,λs hs hMs=>?_,λx hx0 hx1=>?_⟩
     ·rw [nQ hil,if_neg (by omega)]
      intro he
      rw [(u2 p.toNat (by omega)).2 ⟨s,hs,hsy _ _ hMs,by omega⟩] at p2
      cases p2
     ·obtain ⟨s,s1,s2,s3⟩:=(u2 x.toNat (by omega)).1 (p3 x.toNat (by omega))
      exact ⟨s,s1,hsy _ _ s2,by rw [nQ hil,if_neg (by omega)]; omega⟩
    ·have hlt:m'<i.toNat:=by omega
     have:=(g3.congr (p':=gl (l.set i.toNat p)) λk hk=>by rw [nQ hil,if_neg (by omega)]) m' hlt
     exact this
   ·simp only at hk ⊢
    rw [nQ hil,if_neg (by omega)]
    exact g4 k (by omega)
theorem yB {q:ab} {m:Int} (hq:QOk m q) (hm:m<=600) {l:List Bool} {g:Nat->Bool} (hl:Fn l g) {r s:Nat} (hs:s<12):Tot (gV q l r s) λb=>b=true↔Clh q g r s:=by
 unfold gV Clh
 rw [ta hq hm,ob9,show nth l (s:Int)=some (g s) by unfold nth; rw [if_neg (by omega),show ((s:Nat):Int).toNat=s by omega]; exact hl.2 s hs,ob9]
 refine .bind (P:=λb=>b=false↔(aB q=(r:Int)/\g s=true)) (.sel (λh=>.pure ?_) λh=>.pure ?_) λb hb=>.sel (λh=>.pure ?_) λh=>.pure ?_
 ·have:aB q≠(r:Int):=by simpa using h
  simp [this]
 ·have:aB q=(r:Int):=by simpa using h
  simp [this]
 ·refine ⟨λh=>(by cases h),λhh=>?_⟩
  rw [hb.2 ⟨hh.1,hh.2.1⟩] at h
  cases h
 ·have hb':=hb.1 h
  simp only [Bool.or_eq_true,bne_iff_ne,ne_eq]
  refine ⟨λh=>⟨hb'.1,hb'.2,λhh=>h.elim (λh=>h hh.1) λh=>h hh.2⟩,λh=>?_⟩
  by_cases e:q.Op=2
  ·exact .inr λe2=>h.2.2 ⟨e,e2⟩
  ·exact .inl e
def AF (eQ:List ab) (l:List (List Bool)) (af:List (List Bool)):Prop:=af.length=eQ.length/\∀ (i:Nat) q,eQ[i]?=some q->∃ f,af[i]?=some f/\Fn f (eJ l q i)
theorem zl {eQ:List ab} (hc:COk eQ) {l:List (List Bool)} (hl:dZ eQ=some l) (hB:pW eQ.length l):Tot (jH eQ) λaf=>AF eQ l af:=by
 have hmx:=hc.max
 unfold jH
 rw [hl,ob9]
 refine .bind (P:=λaf=>AF eQ l af) (.iter (λs=>0<=s.2/\s.2<=(eQ.length:Int)/\s.1.length=s.2.toNat/\∀ (i:Nat) q,(i:Int)<s.2->eQ[i]?=some q->∃ f,s.1[i]?=some f/\Fn f (eJ l q i)) (λs=>((eQ.length:Int)-s.2).toNat) ⟨by simp,by simp,by simp,λi q hi=>by simp only at hi; omega⟩ λs hs=>?_) λz hz=>.pure hz
 obtain ⟨af,i⟩:=s
 obtain ⟨g0,g1,g2,g3⟩:=hs
 simp only at g0 g1 g2 g3
 unfold lm
 refine .sel (λh=>?_) λh=>.inr ⟨?_,λj q hj=>g3 j q ?_ hj⟩
 ·simp only [decide_eq_true_eq] at h
  obtain ⟨q,hq⟩:∃ q,eQ[i.toNat]?=some q:=⟨_,List.getElem?_eq_getElem (by omega)⟩
  refine .bind (mn hc hB g0 hq) λf hf=>.bind (.app (by simp; omega)) λr hr=>.inl ?_
  rw [ao g0 (by omega)]
  subst hr
  refine ⟨⟨by simp only; omega,by simp only; omega,by simp only [List.length_append,List.length_singleton]; omega,λj q' hj hq'=>?_⟩,by simp only; omega⟩
  simp only at hj ⊢
  by_cases e:(j:Int)<i
  ·rw [List.getElem?_append_left (by omega)]
   exact g3 j q' e hq'
  ·obtain rfl:j=i.toNat:=by omega
   obtain rfl:=o9 (hq.symm.trans hq')
   exact ⟨f,by rw [List.getElem?_append_right (by omega),show i.toNat-af.length=0 by omega]; rfl,by rw [show ((i.toNat:Nat):Int)=i by omega]; exact hf⟩
 ·simp only [decide_eq_false_iff_not] at h
  show af.length=eQ.length
  omega
 ·simp only [decide_eq_false_iff_not] at h
  have:=bM hj
  omega
theorem Az {eQ:List ab} (hc:COk eQ) {l af:List (List Bool)} (ha:AF eQ l af) {r s:Nat} (hr:r<12) (hs:s<12):Tot (kD eQ af r s) λb=>b=true↔MT eQ l eQ.length r s:=by
 have hmx:=hc.max
 unfold kD
 refine .sel (λh=>.pure ⟨λh=>(by cases h),λhh=>?_⟩) λh=>?_
 ·have:(r:Int)=s:=by simpa using h
  exact absurd (by omega) hh.1
 have hne:r≠s:=by
  have:(r:Int)≠s:=by simpa using h
  omega
 refine .bind (P:=λz:Bool⊕Unit=>match z with | .inl b=>b=true/\MT eQ l eQ.length r s | .inr _=>¬ MT eQ l eQ.length r s) (.iter (λi:Int=>0<=i/\i<=(eQ.length:Int)/\¬ MT eQ l i.toNat r s) (λi=>((eQ.length:Int)-i).toNat) ⟨by omega,by omega,λ⟨_,i,q,h1,_⟩=>by simp at h1⟩ λi ⟨g0,g1,g2⟩=>?_) λz hz=>.both (λb e=>by subst e; exact .pure ⟨λ_=>hz.2,λ_=>hz.1⟩) λu e=>by subst e; exact .pure ⟨λh=>(by cases h),λh=>absurd h hz⟩
 unfold lQ
 refine .sel (λh=>?_) λh=>.inr ?_
 ·simp only [decide_eq_true_eq] at h
  obtain ⟨q,hq⟩:∃ q,eQ[i.toNat]?=some q:=⟨_,List.getElem?_eq_getElem (by omega)⟩
  have ei:((i.toNat:Nat):Int)=i:=by omega
  have hqok:=hc.q q (List.mem_of_getElem? hq)
  obtain ⟨f,ef,hf⟩:=ha.2 i.toNat q hq
  have ef':nth af i=some f:=by unfold nth; rw [if_neg (by omega)]; exact ef
  rw [show nth eQ i=some q by unfold nth; rw [if_neg (by omega)]; exact hq,ob9,ef',ob9,ao g0 (by omega)]
  refine .bind (yB hqok (by omega) hf (r:=r) hs) λb hb=>.bind (P:=λb=>b=true↔(Clh q (eJ l q i.toNat) r s\/Clh q (eJ l q i.toNat) s r)) (.sel (λh=>.pure ?_) λh=>?_) λb hb=>.sel (λh=>.inr ⟨rfl,hne,i.toNat,q,by omega,hq,hb.1 h⟩) λh=>.inl ⟨⟨by omega,by omega,?_⟩,by omega⟩
  ·exact ⟨λ_=>.inl (hb.1 h),λ_=>rfl⟩
  ·rw [ob9,ob9]
   refine .bind (yB hqok (by omega) hf (r:=s) hr) λb2 hb2=>.pure ⟨λh2=>.inr (hb2.1 h2),λh2=>hb2.2 (h2.resolve_left λh3=>by rw [hb.2 h3] at h; cases h)⟩
  ·rw [show (i+1).toNat=i.toNat+1 by omega,MT.succ hq]
   exact λhh=>hh.elim g2 λhh=>by rw [hb.2 hh.2] at h; cases h
 ·simp only [decide_eq_false_iff_not] at h
  show ¬ MT eQ l eQ.length r s
  rw [show i.toNat=eQ.length by omega] at g2
  exact g2
theorem Ac {eQ:List ab} (hc:COk eQ) {l af:List (List Bool)} (ha:AF eQ l af) {pl:List Int} (hp:PLs (MT eQ l eQ.length) (gl pl) pl.length) (hl:pl.length<12):Tot (jI eQ af pl) λp=>0<=p/\p<=pl.length/\(∀ s,s<pl.length->MT eQ l eQ.length s pl.length->gl pl s≠p)/\∀ x:Int,0<=x->x<p->∃ s,s<pl.length/\MT eQ l eQ.length s pl.length/\gl pl s=x:=by
 have key:∀ p:Int,0<=p->Tot (aI (je eQ af pl p) (true,0)) λb=>b=true↔∀ s,s<pl.length->MT eQ l eQ.length s pl.length->gl pl s≠p:=λp p0=>by
  refine .iter (λt=>0<=t.2/\t.2<=(pl.length:Int)/\(t.1=true↔∀ s:Nat,(s:Int)<t.2->MT eQ l eQ.length s pl.length->gl pl s≠p)) (λt=>((pl.length:Int)-t.2).toNat) ⟨by simp,by simp,λ_ s hs=>by simp only at hs; omega,λ_=>rfl⟩ λt ht=>?_
  obtain ⟨b,j⟩:=t
  obtain ⟨g0,g1,g2⟩:=ht
  simp only at g0 g1 g2
  unfold je
  refine .sel (λh=>?_) λh=>.inr ?_
  ·simp only [decide_eq_true_eq] at h
   have ej:((j.toNat:Nat):Int)=j:=by omega
   rw [tm g0 h,ob9,ao g0 (by omega)]
   refine .bind (P:=λz=>z=true↔∀ s:Nat,(s:Int)<j+1->MT eQ l eQ.length s pl.length->gl pl s≠p) (.bind (P:=λz=>z=true↔(gl pl j.toNat=p/\MT eQ l eQ.length j.toNat pl.length)) (.sel (λhh=>?_) λhh=>.pure ?_) λz hz=>.sel (λhh=>.pure ?_) λhh=>.pure ?_) λz hz=>.inl ⟨⟨by simp only; omega,by simp only; omega,hz⟩,by simp only; omega⟩
   ·have hh':gl pl j.toNat=p:=by simpa using hh
    have:=Az hc ha (r:=j.toNat) (s:=pl.length) (by omega) hl
    rw [ej] at this
    exact .bind this λz hz=>.pure ⟨λh=>⟨hh',hz.1 h⟩,λh=>hz.2 h.2⟩
   ·have hh':gl pl j.toNat≠p:=by simpa using hh
    exact ⟨λh=>(by cases h),λh=>absurd h.1 hh'⟩
   ·obtain ⟨h1,h2⟩:=hz.1 hh
    exact ⟨λh=>(by cases h),λh=>absurd h1 (h j.toNat (by omega) h2)⟩
   ·simp only
    rw [g2]
    constructor
    ·intro h s hs hM
     by_cases e:s=j.toNat
     ·subst e
      intro he
      rw [hz.2 ⟨he,hM⟩] at hh
      cases hh
     ·exact h s (by omega) hM
    ·exact λh s hs=>h s (by omega)
  ·simp only [decide_eq_false_iff_not] at h
   show b=true↔_
   rw [g2]
   exact ⟨λh s hs=>h s (by omega),λh s hs=>h s (by omega)⟩
 unfold jI
 refine .bind (P:=λz:Int⊕Unit=>match z with | .inl p=>0<=p/\p<=(pl.length:Int)/\(∀ s,s<pl.length->MT eQ l eQ.length s pl.length->gl pl s≠p)/\∀ x:Int,0<=x->x<p->∃ s,s<pl.length/\MT eQ l eQ.length s pl.length/\gl pl s=x | .inr _=>∀ x:Int,0<=x->x<pl.length->∃ s,s<pl.length/\MT eQ l eQ.length s pl.length/\gl pl s=x) (.iter (λp:Int=>0<=p/\p<=(pl.length:Int)/\∀ x:Int,0<=x->x<p->∃ s,s<pl.length/\MT eQ l eQ.length s pl.length/\gl pl s=x) (λp=>((pl.length:Int)-p).toNat) ⟨by omega,by omega,λx h0 h1=>by omega⟩ λp ⟨g0,g1,g2⟩=>?_) λz hz=>.both (λp e=>by subst e; exact .pure hz) λu e=>by subst e; exact .pure ⟨by omega,by omega,λs hs hM=>by have:=(hp s hs).2.1; omega,hz⟩
 unfold ln
 refine .sel (λh=>?_) λh=>.inr λx h0 h1=>g2 x h0 (by simp only [decide_eq_false_iff_not] at h; omega)
 simp only [decide_eq_true_eq] at h
 rw [ao g0 (by omega)]
 refine .bind (key p g0) λb hb=>.sel (λhh=>.inr ⟨g0,by omega,hb.1 hh,g2⟩) λhh=>.inl ⟨⟨by omega,by omega,λx h0 h1=>?_⟩,by omega⟩
 by_cases e:x=p
 ·subst e
  refine Classical.byContradiction λhno=>?_
  rw [hb.2 λs hs hM he=>hno ⟨s,hs,hM,he⟩] at hh
  cases hh
 ·exact g2 x h0 (by omega)
theorem zm {eQ:List ab} (hc:COk eQ) {l:List (List Bool)} (hl:dZ eQ=some l) (hB:pW eQ.length l):Tot (gW eQ) λpl=>pl.length=12/\PLs (MT eQ l eQ.length) (gl pl) 12:=by
 unfold gW
 rw [aN hc,ob9]
 refine .sf rfl (.bind (zl hc hl hB) λaf ha=>.bind (P:=λpl:List Int=>pl.length=12/\PLs (MT eQ l eQ.length) (gl pl) 12) (.iter (λs=>0<=s.2/\s.2<=12/\(s.1.length:Int)=s.2/\PLs (MT eQ l eQ.length) (gl s.1) s.1.length) (λs=>(12-s.2).toNat) ⟨by simp,by simp,by simp,λm hm=>by simp at hm⟩ λs hs=>?_) λz hz=>.pure hz)
 obtain ⟨pl,i⟩:=s
 obtain ⟨g0,g1,g2,g3⟩:=hs
 simp only at g0 g1 g2 g3
 unfold lp
 refine .sel (λh=>?_) λh=>.inr ?_
 ·simp only [decide_eq_true_eq] at h
  have hlt12:pl.length<12:=by omega
  refine .bind (Ac hc ha g3 hlt12) λp ⟨p0,p1,p2,p3⟩=>.bind (.app (by simp; omega)) λr hr=>.inl ?_
  rw [ao g0 (by omega)]
  subst hr
  refine ⟨⟨by simp only; omega,by simp only; omega,by simp only [List.length_append,List.length_singleton]; omega,?_⟩,by simp only; omega⟩
  simp only [List.length_append,List.length_singleton]
  have hcg:PLs (MT eQ l eQ.length) (gl (pl++[p])) pl.length:=g3.congr λm hm=>by rw [uQ,if_neg (by omega)]
  intro m hm
  by_cases e:m=pl.length
  ·subst e
   rw [uQ,if_pos rfl]
   refine ⟨p0,p1,λs hs hM=>by rw [uQ,if_neg (by omega)]; exact p2 s hs hM,λx h0 h1=>?_⟩
   obtain ⟨s,s1,s2,s3⟩:=p3 x h0 h1
   exact ⟨s,s1,s2,by rw [uQ,if_neg (Nat.ne_of_lt s1)]; exact s3⟩
  ·exact hcg m (by omega)
 ·simp only [decide_eq_false_iff_not] at h
  have:pl.length=12:=by omega
  rw [this] at g3
  exact ⟨this,g3⟩
theorem xv {eQ:List ab} (hc:COk eQ):∃ pl,gS eQ=some pl/\gW eQ=some pl/\pl.length=12/\gl pl 0=0/\∀ r,r<12->Rg (gl pl r):=by
 obtain ⟨b,l,eb,el,hL⟩:=zw hc
 obtain ⟨pl,ep,h1,h2⟩:=zk hc (λr s h=>MT.symm h) (xt hc eb hL)
 obtain ⟨pl',ep',h1',h2'⟩:=zm hc el hL.ok
 have hu:=h2.uniq h2'
 have e:pl=pl':=List.ext_getElem? λi=>by
  rcases Nat.lt_or_ge i 12 with hi | hi
  ·have:=hu i hi
   unfold gl at this
   rw [List.getElem?_eq_getElem (by omega),List.getElem?_eq_getElem (by omega)] at this ⊢
   simp only [Option.getD_some] at this
   rw [this]
  ·rw [List.getElem?_eq_none (by omega),List.getElem?_eq_none (by omega)]
 subst e
 refine ⟨pl,ep,ep',h1,?_,λr hr=>?_⟩
 ·have:=h2 0 (by decide)
  omega
 ·have:=h2 r hr
  unfold Rg
  omega
end
noncomputable section
def rnQ (q:ab) (pl:List Int):ab:=⟨q.Op,gl pl q.Dst.toNat,gl pl q.A.toNat,gl pl q.B.toNat,q.N⟩
theorem zC {q:ab} {m:Int} (h:QOk m q):Rg q.Dst/\Rg q.A/\Rg q.B/\(aB q<0->q.Dst=0)/\(¬ (q.Op=2\/q.Op=5\/q.Op=6\/q.Op=9)->q.Op≠3->q.A=0)/\(q.Op≠3->q.B=0):=by
 unfold QOk at h
 unfold aB
 rcases h with h | h | h | h | h | h | h | h | h
 all_goals
  simp only [Rg] at h ⊢
  refine ⟨by omega,by omega,by omega,?_,by omega,by omega⟩
  split <;> omega
theorem AA {q:ab} {m:Int} (h:QOk m q) {pl:List Int} (h0:gl pl 0=0) (hp:∀ r,r<12->Rg (gl pl r)):QOk m (rnQ q pl):=by
 have hr:∀ x,Rg x->Rg (gl pl x.toNat):=λx hx=>hp _ (by unfold Rg at hx; omega)
 have hz:∀ x:Int,x=0->gl pl x.toNat=0:=λx hx=>by rw [hx]; exact h0
 unfold QOk at h ⊢
 unfold rnQ
 simp only
 rcases h with h | h | h | h | h | h | h | h | h
 ·exact .inl ⟨h.1,hr _ h.2.1,hz _ h.2.2.1,hz _ h.2.2.2.1,h.2.2.2.2⟩
 ·exact .inr (.inl ⟨h.1,hr _ h.2.1,hr _ h.2.2.1,hz _ h.2.2.2.1,h.2.2.2.2⟩)
 ·exact .inr (.inr (.inl ⟨h.1,hr _ h.2.1,hr _ h.2.2.1,hr _ h.2.2.2.1,h.2.2.2.2⟩))
 ·exact .inr (.inr (.inr (.inl ⟨h.1,hz _ h.2.1,hz _ h.2.2.1,hz _ h.2.2.2.1,h.2.2.2.2⟩)))
 ·exact .inr (.inr (.inr (.inr (.inl ⟨h.1,hz _ h.2.1,hr _ h.2.2.1,hz _ h.2.2.2.1,h.2.2.2.2⟩))))
 ·exact .inr (.inr (.inr (.inr (.inr (.inl ⟨h.1,hz _ h.2.1,hr _ h.2.2.1,hz _ h.2.2.2.1,h.2.2.2.2⟩)))))
 ·exact .inr (.inr (.inr (.inr (.inr (.inr (.inl ⟨h.1,hr _ h.2.1,hz _ h.2.2.1,hz _ h.2.2.2.1,h.2.2.2.2⟩))))))
 ·exact .inr (.inr (.inr (.inr (.inr (.inr (.inr (.inl ⟨h.1,hz _ h.2.1,hr _ h.2.2.1,hz _ h.2.2.2.1,h.2.2.2.2⟩)))))))
 ·exact .inr (.inr (.inr (.inr (.inr (.inr (.inr (.inr ⟨h.1,hz _ h.2.1,hz _ h.2.2.1,hz _ h.2.2.2.1,h.2.2.2.2⟩)))))))
theorem zn {q:ab} {m:Int} (hq:QOk m q) (hm:m<=600) {pl:List Int} (hl:pl.length=12) (h0:gl pl 0=0):iL q pl=some (rnQ q pl):=by
 obtain ⟨rD,rA,rB,zD,zA,zB⟩:=zC hq
 have hn:∀ x,Rg x->nth pl x=some (gl pl x.toNat):=λx hx=>by unfold Rg at hx; exact tm (by omega) (by omega)
 have hz:∀ x:Int,x=0->x=gl pl x.toNat:=λx hx=>by rw [hx]; exact h0.symm
 refine Tot.eq ?_
 unfold iL rnQ
 rw [ta hq hm,ob9]
 refine .bind (P:=λz=>z=ab.mk q.Op (gl pl q.Dst.toNat) q.A q.B q.N) (.sel (λh=>?_) λh=>.pure ?_) λz hz'=>?_
 ·rw [hn _ rD,ob9]; exact .pure rfl
 ·rw [<-hz q.Dst (zD (by simpa using h))]
 ·subst hz'
  simp only
  refine .bind (P:=λb=>b=true↔(q.Op=2\/q.Op=5\/q.Op=6\/q.Op=9)) (.sel (λh=>.pure ?_) λh=>.sel (λh'=>.pure ?_) λh'=>.sel (λh''=>.pure ?_) λh''=>.pure ?_) λb hb=>.sel (λhbt=>?_) λhbf=>.sel (λh=>?_) λh=>.pure ?_
  ·simp only [beq_iff_eq] at *; simp [h]
  ·simp only [beq_iff_eq] at *; simp [h']
  ·simp only [beq_iff_eq] at *; simp [h'']
  ·simp only [beq_eq_false_iff_ne,ne_eq] at *; simp [h,h',h'']
  ·have hb':=hb.1 hbt
   rw [hn _ rA,ob9,<-hz q.B (zB (by omega))]
   exact .pure rfl
  ·rw [hn _ rA,ob9,hn _ rB,ob9]
   exact .pure rfl
  ·have h3:q.Op≠3:=by simpa using h
   rw [<-hz q.B (zB h3),<-hz q.A (zA (λhh=>by rw [hb.2 hh] at hbf; cases hbf) h3)]
theorem COk.rn {eQ:List ab} (hc:COk eQ) {pl:List Int} (h0:gl pl 0=0) (hp:∀ r,r<12->Rg (gl pl r)):COk (eQ.map λq=>rnQ q pl):=hc.alike ⟨by simp,λi q' hq'=>by
 rw [List.getElem?_map] at hq'
 cases hq:eQ[i]? with
 | none=>rw [hq] at hq'; cases hq'
 | some q =>
  rw [hq] at hq'
  obtain rfl:=o9 hq'
  exact ⟨q,rfl,AA (hc.q q (List.mem_of_getElem? hq)) h0 hp,id⟩⟩
theorem yC:lq dn ga:=λ{eQ} hc=>by
 have hmx:=hc.max
 obtain ⟨pl,e1,e2,hl,h0,hp⟩:=xv hc
 have hn:∀ x,Rg x->nth pl x=some (gl pl x.toNat):=λx hx=>by unfold Rg at hx; exact tm (by omega) (by omega)
 have A:Tot (aI (fb eQ pl) (0,eQ)) λout=>out.length=eQ.length/\∀ (i:Nat) (q':ab),out[i]?=some q'->∃ q,eQ[i]?=some q/\q'=rnQ q pl:=by
  refine nN (λ(i:Nat) (q':ab)=>∃ q,eQ[i]?=some q/\q'=rnQ q pl) hmx (λi out q g0 g1 g2 hq ho=>?_) λout=>?_
  ·unfold fb
   dsimp only
   obtain ⟨rD,rA,rB,_⟩:=zC (hc.q q (List.mem_of_getElem? hq))
   have hil:i.toNat<out.length:=by omega
   have up:∀ (v:ab) (o:List ab),o.length=out.length->X.upd o i v=some (o.set i.toNat v):=λv o h=>by unfold X.upd; rw [if_pos (by omega)]
   have nt:∀ (v:ab),nth (out.set i.toNat v) i=some v:=λv=>by unfold nth; rw [if_neg (by omega),List.getElem?_set_self hil]
   refine .st (by simpa using g1) ?_
   rw [show nth eQ i=some q by unfold nth; rw [if_neg (by omega)]; exact hq,ob9,hn _ rD,ob9,hn _ rA,ob9,hn _ rB,ob9,show nth out i=some q by unfold nth; rw [if_neg (by omega)]; exact ho,ob9,up _ _ rfl,ob9,nt,ob9,up _ _ (by rw [List.length_set]),ob9,List.set_set,nt,ob9,up _ _ (by rw [List.length_set]),ob9,List.set_set,ao g0 (by omega)]
   exact .pure ⟨_,rfl,q,hq,rfl⟩
  ·unfold fb; rw [aZ (by simp)]
 have B:Tot (aI (fv eQ pl) ([],0)) λout=>out.length=eQ.length/\∀ (i:Nat) (q':ab),out[i]?=some q'->∃ q,eQ[i]?=some q/\q'=rnQ q pl:=by
  refine kE (n:=eQ.length) (λ(i:Nat) (q':ab)=>∃ q,eQ[i]?=some q/\q'=rnQ q pl) hmx (λi out g0 g1 g2=>?_) λout=>?_
  ·unfold fv
   dsimp only
   obtain ⟨q,hq⟩:∃ q,eQ[i.toNat]?=some q:=⟨_,List.getElem?_eq_getElem (by omega)⟩
   refine .st (by simpa using g1) ?_
   rw [show nth eQ i=some q by unfold nth; rw [if_neg (by omega)]; exact hq,ob9,zn (hc.q q (List.mem_of_getElem? hq)) (by omega) hl h0,ob9]
   exact .bind (.app (by simp; omega)) λr hr=>.inl ⟨_,by rw [ao g0 (by omega),hr],q,hq,rfl⟩
  ·unfold fv; rw [aZ (by simp)]
 obtain ⟨a,ea,ha⟩:=A
 obtain ⟨b,eb,hb⟩:=B
 have hab:=mQ ha hb λi q q' ⟨x,hx,h⟩ ⟨x',hx',h'⟩=>by
  obtain rfl:=o9 (hx.symm.trans hx')
  rw [h,h']
 have hm:a=eQ.map λq=>rnQ q pl:=List.ext_getElem? λi=>by
  rw [List.getElem?_map]
  rcases Nat.lt_or_ge i eQ.length with h | h
  ·have h1:a[i]?=some (a[i]'(by rw [ha.1]; exact h)):=List.getElem?_eq_getElem (by rw [ha.1]; exact h)
   obtain ⟨q,hq,e⟩:=ha.2 i _ h1
   rw [h1,hq,e]
   rfl
  ·rw [List.getElem?_eq_none (by rw [ha.1]; exact h),List.getElem?_eq_none h]
   rfl
 refine ⟨a,?_,?_,by rw [hm]; exact hc.rn h0 hp,by rw [ha.1]; exact Nat.le_refl _⟩
 ·unfold dn
  rw [lL hc,ob9,bB (show (!true)=false from rfl),e1,ob9,mR eQ hmx,ob9,ea]
  rfl
 ·unfold ga
  rw [aN hc,ob9,bB (show (!true)=false from rfl),e2,ob9,eb,hab]
  rfl
theorem zo {eQ:List ab} (hc:COk eQ) (t i:Int) (hi:i<t):∃ r,bE t (eQ,i)=some (.inl (r,w64 (i+1)))/\bG t (eQ,i)=some (.inl (r,w64 (i+1)))/\COk r/\r.length<=eQ.length:=by
 obtain ⟨r1,a1,b1,c1,d1⟩:=zb hc
 obtain ⟨r2,a2,b2,c2,d2⟩:=zj c1
 obtain ⟨r3,a3,b3,c3,d3⟩:=yY c2
 obtain ⟨r4,a4,b4,c4,d4⟩:=yZ c3
 obtain ⟨r5,a5,b5,c5,d5⟩:=wj c4
 refine ⟨r5,?_,?_,c5,by omega⟩
 ·unfold bE
  simp only [a1,a2,a3,a4,a5,ob9]
  rw [eP (by simpa using hi)]
  rfl
 ·unfold bG l5
  simp only [b1,b2,b3,b4,b5,ob9]
  rw [eP (by simpa using hi)]
theorem vD {eQ:List ab} (hc:COk eQ) {t:Int} (h0:0<=t) (h4:t<=4):∃ r,bD eQ t=some (r,true)/\bX eQ t=some (r,true)/\COk r/\r.length<=eQ.length:=by
 have hmx:=hc.max
 have A:Tot (aI (bE t) (eQ,0)) λz=>∃ r,z=.inr r/\aI (bG t) (eQ,0)=some r/\COk r/\r.length<=eQ.length:=by
  have key:∀ (k:Nat) (c:List ab) (i:Int),0<=i->i<=t->(t-i).toNat=k->COk c->∃ r,aI (bE t) (c,i)=some (.inr r)/\aI (bG t) (c,i)=some r/\COk r/\r.length<=c.length:=λk=>by
   induction k with
   | zero =>
    intro c i g0 g1 hk hcc
    refine ⟨c,?_,?_,hcc,Nat.le_refl _⟩
    ·rw [df,show bE t (c,i)=some (.inr (.inr c)) by unfold bE; exact bB (by simp; omega)]
    ·rw [df,show bG t (c,i)=some (.inr c) by unfold bG; exact bB (by simp; omega)]
   | succ k ih =>
    intro c i g0 g1 hk hcc
    obtain ⟨r,e1,e2,h1,h2⟩:=zo hcc t i (by omega)
    rw [ao g0 (by omega)] at e1 e2
    obtain ⟨r',f1,f2,f3,f4⟩:=ih r (i+1) (by omega) (by omega) (by omega) h1
    exact ⟨r',by rw [df,e1]; exact f1,by rw [df,e2]; exact f2,f3,by omega⟩
  obtain ⟨r,e1,e2,h1,h2⟩:=key t.toNat eQ 0 (by omega) h0 (by simp) hc
  exact ⟨_,e1,r,rfl,e2,h1,h2⟩
 obtain ⟨z,ez,r,rfl,es,h1,h2⟩:=A
 refine ⟨r,?_,?_,h1,h2⟩
 ·unfold bD
  rw [lL hc,ob9,bB (by simp; omega),mR eQ hmx,ob9,ez]
  rfl
 ·unfold bX
  rw [aN hc,ob9,bB (show (!true)=false from rfl)]
  have h6:bp t 0 4=some true:=by unfold bp; simp; omega
  rw [h6,ob9,ob9,bB (show (!true)=false from rfl)]
  obtain ⟨r0,e0,hr0⟩:=Tot.app (bytes:=40) (l:=([]:List ab)) (m:=eQ) (by simp; omega)
  rw [List.nil_append] at hr0
  rw [e0,ob9,hr0,es]
  rfl
theorem uR {eQ:List ab} (hl:eQ.length<=4611686018427387904) {t:Int} (h:¬ COk eQ\/t<0\/4<t):bD eQ t=some ([],false)/\bX eQ t=some ([],false):=by
 have hv:∃ b,bk eQ=some b/\aO eQ=some b/\(b=true->COk eQ):=by
  rcases pd eQ hl with ⟨h1,h2,h3⟩ | ⟨h1,h2,h3⟩
  ·exact ⟨true,h2,h3,λ_=>h1⟩
  ·exact ⟨false,h2,h3,λh=>by cases h⟩
 obtain ⟨b,e1,e2,hb⟩:=hv
 have h6:bp t 0 4=some (decide (0<=t)&&decide (t<=4)):=rfl
 constructor
 ·unfold bD
  rw [e1,ob9]
  refine eP ?_
  cases b
  ·rfl
  ·simp only [Bool.not_true,Bool.false_or,Bool.or_eq_true,decide_eq_true_eq]
   rcases h with h | h | h
   ·exact absurd (hb rfl) h
   ·exact .inl h
   ·exact .inr h
 ·unfold bX
  rw [e2,ob9]
  cases b
  ·rw [eP (show (!false)=true from rfl),ob9,eP rfl]
  ·rw [bB (show (!true)=false from rfl),h6,ob9,ob9]
   refine eP ?_
   simp only [Bool.not_eq_true',Bool.and_eq_false_iff,decide_eq_false_iff_not]
   rcases h with h | h | h
   ·exact absurd (hb rfl) h
   ·exact .inl (by omega)
   ·exact .inr (by omega)
end
noncomputable section
theorem AB {α:Type} {l:List α} (h:l.length=2):∃ a b,l=[a,b]:=by
 match l,h with
 | [a,b],_=>exact ⟨a,b,rfl⟩
theorem zE {d:Nat} {e:Expr} {a b:Expr} (hl:e.Args=[a,b]) (h0:e.Op≠0) (h13:e.Op≠13):EOk (d+1) e↔(1<=e.Op/\e.Op<=12)/\e.N=0/\EOk d a/\EOk d b:=by
 constructor
 ·rintro (h | h | ⟨h1,h2,a',b',h3,h4,h5⟩)
  ·exact absurd h.1 h0
  ·exact absurd h.1 h13
  ·rw [hl] at h3
   injection h3 with h6 h7
   injection h7 with h7 _
   subst h6 h7
   exact ⟨h1,h2,h4,h5⟩
 ·rintro ⟨h1,h2,h4,h5⟩
  exact .inr (.inr ⟨h1,h2,a,b,hl,h4,h5⟩)
theorem tq:∀ (d k:Nat) (e:Expr) (dd:Int),d<k->dd=(d:Int)->d<=1000->Tot (j7 k e dd) λb=>b=true↔EOk d e
 | 0,k+1,e,dd,_,hd,_=>by
  show Tot (fk k (j7 k) e dd) _
  unfold fk
  exact .st (by simp; omega) (.pure ⟨λh=>(by cases h),λh=>h.elim⟩)
 | d+1,k+1,e,dd,hk,hd,hm=>by
  show Tot (fk k (j7 k) e dd) _
  unfold fk
  refine .sf (by simp; omega) (.sel (λh=>?_) λh=>.sel (λh'=>?_) λh'=>?_)
  ·have h0:e.Op=0:=by simpa using h
   rw [nH,ob9]
   refine .pure ⟨λhh=>.inl ?_,λhh=>?_⟩
   ·simp at hh
    exact ⟨h0,by omega,by omega,hh.2⟩
   ·rcases hh with hh | hh | hh
    ·simp [hh.2.2.2]; omega
    ·omega
    ·omega
  ·have h13:e.Op=13:=by simpa using h'
   rw [nH,ob9]
   refine .pure ⟨λhh=>.inr (.inl ?_),λhh=>?_⟩
   ·simp at hh
    exact ⟨h13,by omega,by omega,hh.2⟩
   ·rcases hh with hh | hh | hh
    ·omega
    ·simp [hh.2.2.2]; omega
    ·omega
  ·have h0:e.Op≠0:=by simpa using h
   have h13:e.Op≠13:=by simpa using h'
   rw [na,ob9,aR (by omega) (by omega)]
   by_cases hg:(1<=e.Op/\e.Op<=12)/\e.N=0/\e.Args.length=2
   ·obtain ⟨a,b,hl⟩:=AB hg.2.2
    have e1:nth e.Args 0=some a:=by rw [hl]; rfl
    have e2:nth e.Args 1=some b:=by rw [hl]; rfl
    rw [zE hl h0 h13,eP (by simp [hg.1,hg.2.1,hg.2.2]),e1,e2]
    simp only [ob9,Expr.eta']
    refine .bind (P:=λz=>z=true↔EOk d a) (.bind (tq d k a (dd-1) (by omega) (by omega) (by omega)) λz hz=>.pure hz) λz hz=>.bind (P:=λw=>w=true↔(EOk d a/\EOk d b)) (.sel (λhzt=>.bind (tq d k b (dd-1) (by omega) (by omega) (by omega)) λw hw=>.pure ⟨λh=>⟨hz.1 hzt,hw.1 h⟩,λh=>hw.2 h.2⟩) λhzf=>.pure ⟨λh=>(by cases h),λh=>?_⟩) λw hw=>.pure ⟨λh=>⟨hg.1,hg.2.1,hw.1 h⟩,λh=>hw.2 h.2.2⟩
    rw [hz.2 h.1] at hzf
    cases hzf
   ·rw [bB (by
     simp only [Bool.and_eq_false_iff,beq_eq_false_iff_ne,ne_eq,decide_eq_false_iff_not]
     by_cases a1:(1<=e.Op/\e.Op<=12)
     ·by_cases a2:e.N=0
      ·exact .inr (λa3=>hg ⟨a1,a2,by omega⟩)
      ·exact .inl (.inr a2)
     ·exact .inl (.inl a1)),ob9,bB rfl,ob9]
    refine .pure ⟨λh=>(by cases h),λhh=>?_⟩
    rcases hh with hh | hh | ⟨q1,q2,a,b,q3,_⟩
    ·exact absurd hh.1 h0
    ·exact absurd hh.1 h13
    ·exact absurd ⟨q1,q2,by rw [q3]; rfl⟩ hg
theorem qM:∀ (d k:Nat) (e:Expr) (dd:Int),d<k->dd=(d:Int)->d<=1000->Tot (iu k e dd) λb=>b=true↔EOk d e
 | d,k+1,e,dd,hk,hd,hm=>by
  show Tot (fV k (iu k) e dd) _
  unfold fV
  refine .sel (λh=>.pure ?_) λh=>.sel (λh'=>.pure ?_) λh'=>?_
  ·have h0:e.Op=0:=by simpa using h
   cases d with
   | zero=>simp [EOk]; omega
   | succ d =>
    simp only [Bool.and_eq_true,decide_eq_true_eq,beq_iff_eq]
    refine ⟨λhh=>.inl ⟨h0,by omega,by omega,List.eq_nil_of_length_eq_zero (by omega)⟩,λhh=>?_⟩
    rcases hh with hh | hh | hh
    ·refine ⟨⟨⟨hh.2.1,hh.2.2.1⟩,by simp [hh.2.2.2]⟩,by omega⟩
    ·omega
    ·omega
  ·have h13:e.Op=13:=by simpa using h'
   cases d with
   | zero=>simp [EOk]; omega
   | succ d =>
    simp only [Bool.and_eq_true,decide_eq_true_eq,beq_iff_eq]
    refine ⟨λhh=>.inr (.inl ⟨h13,by omega,by omega,List.eq_nil_of_length_eq_zero (by omega)⟩),λhh=>?_⟩
    rcases hh with hh | hh | hh
    ·omega
    ·refine ⟨⟨⟨hh.2.1,by omega⟩,by simp [hh.2.2.2]⟩,by omega⟩
    ·omega
  ·have h0:e.Op≠0:=by simpa using h
   have h13:e.Op≠13:=by simpa using h'
   rw [yj,ob9,aR (by omega) (by omega)]
   by_cases hg:((1<=e.Op/\e.Op<=12)/\e.N=0/\e.Args.length=2)/\1<dd
   ·obtain ⟨hg,hdd⟩:=hg
    obtain ⟨d,rfl⟩:∃ j,d=j+1:=⟨d-1,by omega⟩
    obtain ⟨a,b,hl⟩:=AB hg.2.2
    have e1:nth e.Args 0=some a:=by rw [hl]; rfl
    have e2:nth e.Args 1=some b:=by rw [hl]; rfl
    rw [zE hl h0 h13,eP (by simp [hg.1,hg.2.1,hg.2.2]; exact hdd),e1,e2]
    simp only [ob9,Expr.eta']
    refine .bind (P:=λz=>z=true↔EOk d a) (.bind (qM d k a (dd-1) (by omega) (by omega) (by omega)) λz hz=>.pure hz) λz hz=>.bind (P:=λw=>w=true↔(EOk d a/\EOk d b)) (.sel (λhzt=>.bind (qM d k b (dd-1) (by omega) (by omega) (by omega)) λw hw=>.pure ⟨λh=>⟨hz.1 hzt,hw.1 h⟩,λh=>hw.2 h.2⟩) λhzf=>.pure ⟨λh=>(by cases h),λh=>?_⟩) λw hw=>.pure ⟨λh=>⟨hg.1,hg.2.1,hw.1 h⟩,λh=>hw.2 h.2.2⟩
    rw [hz.2 h.1] at hzf
    cases hzf
   ·rw [bB (by
     simp only [Bool.and_eq_false_iff,beq_eq_false_iff_ne,ne_eq,decide_eq_false_iff_not]
     by_cases a1:(1<=e.Op/\e.Op<=12)
     ·by_cases a2:e.N=0
      ·by_cases a3:e.Args.length=2
       ·exact .inr (λa4=>hg ⟨⟨a1,a2,a3⟩,by omega⟩)
       ·exact .inl (.inr (by omega))
      ·exact .inl (.inl (.inr a2))
     ·exact .inl (.inl (.inl a1))),ob9,bB rfl,ob9]
    refine .pure ⟨λh=>(by cases h),λhh=>?_⟩
    cases d with
    | zero=>exact hh.elim
    | succ d =>
     rcases hh with hh | hh | ⟨q1,q2,a,b,q3,q4,_⟩
     ·exact absurd hh.1 h0
     ·exact absurd hh.1 h13
     ·cases d with
      | zero=>exact q4.elim
      | succ d=>exact absurd ⟨⟨q1,q2,by rw [q3]; rfl⟩,by omega⟩ hg
 | _,0,_,_,hk,_,_=>by omega
theorem uS {k:Nat} (hk:6<=k) (e:Expr):Tot (bP k e) λb=>b=true↔EOk 5 e:=by
 unfold bP
 rw [Expr.eta']
 exact .bind (tq 5 k e 5 (by omega) rfl (by omega)) λb hb=>.pure hb
theorem Ad {k:Nat} (hk:6<=k) (e:Expr):Tot (fX k e) λb=>b=true↔EOk 5 e:=by
 unfold fX
 rw [Expr.eta']
 exact .bind (qM 5 k e 5 (by omega) rfl (by omega)) λb hb=>.pure hb
theorem qN {e:Expr}:((e.Op==0&&e.N==0)&&((e.Args.length:Int)==0))=true↔e=⟨0,0,[]⟩:=by
 simp only [Bool.and_eq_true,beq_iff_eq]
 constructor
 ·rintro ⟨⟨h1,h2⟩,h3⟩
  have h4:e.Args=[]:=List.eq_nil_of_length_eq_zero (by omega)
  cases e
  simp_all
 ·rintro rfl
  simp
def l8 (R:Int) (s:ae):Prop:=s.Body=[]/\s.Else=[]/\((s.Kind=1/\(0<=s.Var/\s.Var<=3)/\s.Box=0/\EOk 5 s.Expr)\/(s.Kind=4/\s.Var=0/\(0<=s.Box/\s.Box<R)/\EOk 5 s.Expr) \/
 (s.Kind=5/\(0<=s.Var/\s.Var<=3)/\(0<=s.Box/\s.Box<R)/\s.Expr=⟨0,0,[]⟩)\/(s.Kind=6/\s.Var=0/\s.Box=0/\s.Expr=⟨0,0,[]⟩)\/(s.Kind=7/\s.Var=0/\s.Box=0/\EOk 5 s.Expr))
def HdR (s:ae):Prop:=(s.Kind=2\/(s.Kind=3/\s.Else=[]))/\s.Var=0/\s.Box=0/\EOk 5 s.Expr
def SR (R:Int):Nat->ae->Prop
 | 0,s=>l8 R s
 | n+1,s=>l8 R s\/(HdR s/\(∀ x∈s.Body,SR R n x)/\∀ x∈s.Else,SR R n x)
theorem l8.simp {R:Int} (hR:R<=3) {s:ae} (h:l8 R s):mw s:=by
 obtain ⟨h1,h2,h3⟩:=h
 refine ⟨h1,h2,?_⟩
 rcases h3 with h | h | h | h | h
 ·exact .inl h
 ·exact .inr (.inl ⟨h.1,h.2.1,⟨h.2.2.1.1,by omega⟩,h.2.2.2⟩)
 ·exact .inr (.inr (.inl ⟨h.1,h.2.1,⟨h.2.2.1.1,by omega⟩,h.2.2.2⟩))
 ·exact .inr (.inr (.inr (.inl h)))
 ·exact .inr (.inr (.inr (.inr h)))
theorem SR.ok {R:Int} (hR:R<=3):∀ {n:Nat} {s:ae},SR R n s->SOk n s
 | 0,s,h=>l8.simp hR h
 | n+1,s,h=>h.imp (l8.simp hR) λ⟨h1,h2,h3⟩=>⟨h1.1,h1.2.1,h1.2.2.1,h1.2.2.2,λx hx=>(h2 x hx).ok hR,λx hx=>(h3 x hx).ok hR⟩
theorem l8.up {R:Int} (hR:R<=3) {s:ae} (h:l8 R s):l8 3 s:=by
 obtain ⟨h1,h2,h3⟩:=h
 refine ⟨h1,h2,?_⟩
 rcases h3 with h | h | h | h | h
 ·exact .inl h
 ·exact .inr (.inl ⟨h.1,h.2.1,⟨h.2.2.1.1,by omega⟩,h.2.2.2⟩)
 ·exact .inr (.inr (.inl ⟨h.1,h.2.1,⟨h.2.2.1.1,by omega⟩,h.2.2.2⟩))
 ·exact .inr (.inr (.inr (.inl h)))
 ·exact .inr (.inr (.inr (.inr h)))
theorem SR.up {R:Int} (hR:R<=3):∀ {n:Nat} {s:ae},SR R n s->SR 3 n s
 | 0,s,h=>l8.up hR h
 | n+1,s,h=>h.imp (l8.up hR) λ⟨h1,h2,h3⟩=>⟨h1,λx hx=>(h2 x hx).up hR,λx hx=>(h3 x hx).up hR⟩
theorem l8.kind {R:Int} {s:ae} (h:l8 R s):s.Kind≠2/\s.Kind≠3:=by
 obtain ⟨_,_,h⟩:=h
 rcases h with h | h | h | h | h <;> (have:=h.1; omega)
theorem AD {a b c d e:Prop}:a/\b/\c/\d/\e↔d/\e/\a/\b/\c:=⟨λ⟨h1,h2,h3,h4,h5⟩=>⟨h4,h5,h1,h2,h3⟩,λ⟨h4,h5,h1,h2,h3⟩=>⟨h1,h2,h3,h4,h5⟩⟩
theorem AG {a b c e:Prop}:a/\b/\c/\e↔e/\a/\b/\c:=⟨λ⟨h1,h2,h3,h5⟩=>⟨h5,h1,h2,h3⟩,λ⟨h5,h1,h2,h3⟩=>⟨h1,h2,h3,h5⟩⟩
def fl (kd:Int):oy⊕Bool:=if kd=1 then .inl (oy.mk true false true false false) else if kd=2 then .inl (oy.mk false false true true true) else if kd=3 then .inl (oy.mk false false true true false) else if kd=4 then .inl (oy.mk false true true false false) else if kd=5 then .inl (oy.mk true true false false false) else if kd=7 then .inl (oy.mk false false true false false) else if kd=6 then .inl (oy.mk false false false false false) else .inr false
theorem xw {k:Nat} (hk:6<=k) (x:ae) {R:Int}:Tot (iv k x R) λb=>b=true↔(l8 R x\/HdR x):=by
 have main:∀ (va bo ex bd el:Bool),Tot ((cW x.Var 4 va).bind λy2 =>
   (sel (!y2) (some true) ((cW x.Box R bo).bind λb_1=>some (!b_1))).bind λb1 =>
   sel (b1||(bo&&(decide (x.Box>=R)))) (some false) <|
   (sel ex ((fX k (Expr.mk x.Expr.Op x.Expr.N x.Expr.Args)).bind λy4=>some (!y4)) (some false):Option (Bool)).bind λb2 =>
   sel (b2||((!ex)&&(((x.Expr.Op !=0)||(x.Expr.N !=0))||(decide ((x.Expr.Args.length:Int)>0))))) (some false) <|
   some ((bd||((x.Body.length:Int)==0))&&(el||((x.Else.length:Int)==0))))
   λb=>b=true↔((if va then 0<=x.Var/\x.Var<=3 else x.Var=0)/\(if bo then 0<=x.Box/\x.Box<R else x.Box=0)/\(if ex then EOk 5 x.Expr else x.Expr=⟨0,0,[]⟩)/\(bd=true\/x.Body=[])/\(el=true\/x.Else=[])):=λva bo ex bd el=>by
  unfold cW
  rw [Expr.eta',ob9]
  refine .bind (P:=λb=>b=false↔((if va then 0<=x.Var/\x.Var<=3 else x.Var=0)/\(x.Box=0\/(bo=true/\0<x.Box/\x.Box<R)))) ?_ λb1 hb1=>.sel (λh=>.pure ⟨λh=>(by cases h),λh2=>?_⟩) λh=>.bind (P:=λb2=>(b2||((!ex)&&(((x.Expr.Op !=0)||(x.Expr.N !=0))||(decide ((x.Expr.Args.length:Int)>0)))))=false↔(if ex then EOk 5 x.Expr else x.Expr=⟨0,0,[]⟩)) ?_ λb2 hb2=>.sel (λh2=>.pure ⟨λh=>(by cases h),λh3=>?_⟩) λh2=>.pure ?_
  ·rw [ob9]
   cases va <;> cases bo <;> refine .sel (λh=>.pure ?_) λh=>.pure ?_
   all_goals
    simp at h ⊢
    try omega
  ·rw [Bool.or_eq_true] at h
   rcases h with h | h
   ·have:b1=false:=hb1.2 ⟨h2.1,by
     have:=h2.2.1
     cases bo
     ·left; simpa using this
     ·simp at this ⊢; omega⟩
    rw [this] at h
    cases h
   ·cases bo
    ·cases h
    ·have:=h2.2.1
     simp at h this
     omega
  ·cases ex
   ·refine .sf rfl (.pure ?_)
    rw [Bool.false_or,Bool.not_false,Bool.true_and]
    rw [if_neg (by decide),<-qN]
    simp
   ·refine .st rfl (.bind (Ad hk x.Expr) λy hy=>.pure ?_)
    rw [if_pos rfl,<-hy]
    cases y <;> simp
  ·have:(b2||((!ex)&&(((x.Expr.Op !=0)||(x.Expr.N !=0))||(decide ((x.Expr.Args.length:Int)>0)))))=false:=hb2.2 h3.2.2.1
   rw [this] at h2
   cases h2
  ·have h5:=hb2.1 h2
   rw [Bool.or_eq_false_iff] at h
   have h6:=hb1.1 h.1
   have h7:(if bo then 0<=x.Box/\x.Box<R else x.Box=0):=by
    cases bo
    ·have:=h6.2; simp at this ⊢; exact this
    ·have:=h6.2; have h8:=h.2; simp at this h8 ⊢; omega
   have e1:((x.Body.length:Int)==0)=true↔x.Body=[]:=by simp
   have e2:((x.Else.length:Int)==0)=true↔x.Else=[]:=by simp
   rw [Bool.and_eq_true,Bool.or_eq_true,Bool.or_eq_true,e1,e2]
   exact ⟨λhh=>⟨h6.1,h7,h5,hh⟩,λhh=>hh.2.2.2⟩
 unfold iv
 refine .bind (P:=λy=>y=fl x.Kind) ?_ λy hy=>?_
 ·unfold fl
  refine .sel (λh=>.pure ?_) λh1=>.sel (λh=>.pure ?_) λh2=>.sel (λh=>.pure ?_) λh3=>.sel (λh=>.pure ?_) λh4=>.sel (λh=>.pure ?_) λh5=>.sel (λh=>.pure ?_) λh7=>.sel (λh=>.pure ?_) λh6=>.pure ?_
  all_goals
   simp only [beq_iff_eq,beq_eq_false_iff_ne,ne_eq] at *
   simp [*]
 ·subst hy
  by_cases hkd:x.Kind=1\/x.Kind=2\/x.Kind=3\/x.Kind=4\/x.Kind=5\/x.Kind=6\/x.Kind=7
  ·rcases hkd with h | h | h | h | h | h | h
   all_goals
    rw [h]
    refine (main _ _ _ _ _).mono λb hb=>hb.trans ?_
    unfold l8 HdR
    simp [h]
    try first
     | exact AD
     | exact AG
  ·have:fl x.Kind=.inr false:=by
    unfold fl
    rw [if_neg (by omega),if_neg (by omega),if_neg (by omega),if_neg (by omega),if_neg (by omega),if_neg (by omega),if_neg (by omega)]
   rw [this]
   refine .pure ⟨λh=>(by cases h),λh=>?_⟩
   rcases h with ⟨_,_,h⟩ | ⟨h,_⟩
   ·omega
   ·omega
theorem SR.head {R:Int} {n:Nat} {s:ae} (h:SR R n s):l8 R s\/HdR s:=by
 cases n with
 | zero=>exact .inl h
 | succ n=>exact h.imp id λh=>h.1
theorem SR.iff_simp {R:Int} {n:Nat} {s:ae} (hk:s.Kind≠2/\s.Kind≠3):SR R n s↔l8 R s:=by
 cases n with
 | zero=>exact Iff.rfl
 | succ n=>exact ⟨λh=>h.resolve_right λh=>by have:=h.1.1; omega,.inl⟩
def sub:List ae->Nat
 | []=>0
 | x::l=>cts x.Body+cts x.Else+sub l
theorem yD:∀ l:List ae,l.length+sub l=cts l
 | []=>rfl
 | x::l=>by
  have:=yD l
  have:=mB x
  simp only [List.length_cons,sub,cts]
  omega
theorem vE:∀ (l:List ae) (i:Nat) (s:ae),l[i]?=some s->sub (l.take (i+1))=sub (l.take i)+cts s.Body+cts s.Else
 | [],_,_,h=>by simp at h
 | x::l,0,s,h=>by
  have:x=s:=by simpa using h
  subst this; simp [sub]
 | x::l,i+1,s,h=>by
  have:=vE l i s (by simpa using h)
  simp only [List.take_succ_cons,sub,this]; omega
theorem rU:∀ (l:List ae) (i:Nat),sub (l.take i)<=sub l
 | [],_=>by simp [sub]
 | x::l,0=>by simp [sub]
 | x::l,i+1=>by have:=rU l i; simp only [List.take_succ_cons,sub]; omega
theorem pA {R:Int}:∀ (n k:Nat) {l:List ae} {dp c:Int},n+8<=k->dp=3-(n:Int)->n<=3->0<=c->c<=16->cts l<=2000000->Tot (eR k l R dp c) λz=>(z.1=true↔((∀ x∈l,SR R n x)/\c+cts l<=16))/\(z.1=true->z.2=c+cts l)
 | n,0,_,_,_,hk,_,_,_,_,_=>by omega
 | n,k+1,l,dp,c,hk,hd,hn,hc,hc16,hcm=>by
  have hsl:=yD l
  show Tot (fc k (eR k) l R dp c) _
  unfold fc
  rw [aR (by omega) (by omega)]
  refine .sel (λh=>.pure ⟨⟨λh=>(by cases h),λhh=>?_⟩,λh=>(by cases h)⟩) λh=>?_
  ·simp only [decide_eq_true_eq] at h
   omega
  simp only [decide_eq_false_iff_not] at h
  have good:Tot (aI (gx l R dp (eR k) k) (0,c+l.length)) λz=>match z with
    | .inl o=>o.1=false/\¬ ((∀ x∈l,SR R n x)/\c+cts l<=16)
    | .inr o=>o=c+cts l/\(∀ x∈l,SR R n x)/\c+cts l<=16:=by
   refine .iter (λs=>0<=s.1/\s.1<=(l.length:Int)/\s.2=c+l.length+sub (l.take s.1.toNat)/\s.2<=16/\∀ (j:Nat) x,(j:Int)<s.1->l[j]?=some x->SR R n x) (λs=>((l.length:Int)-s.1).toNat) ⟨by simp,by simp,by simp [sub],by simp only; omega,λj x hj=>by simp only at hj; omega⟩ λs hs=>?_
   obtain ⟨i,c'⟩:=s
   obtain ⟨g0,g1,g2,g3,g4⟩:=hs
   simp only at g0 g1 g2 g3 g4
   unfold gx
   dsimp only
   refine .sel (λhlt=>?_) λhge=>.inr ?_
   ·simp only [decide_eq_true_eq] at hlt
    refine .bind (P:=λz:Int⊕(Bool×Int)=>match z with
     | .inl o=>o=c+l.length+sub (l.take (i.toNat+1))/\o<=16/\∀ (j:Nat) x,(j:Int)<i+1->l[j]?=some x->SR R n x
     | .inr o=>o.1=false/\¬ ((∀ x∈l,SR R n x)/\c+cts l<=16)) ?_ λz hz=>.both (λo e=>?_) λo e=>by subst e; exact .inr hz
    ·refine .bind (.nth g0 hlt) λx ⟨hx,hxm⟩=>?_
     rw [ae.eta']
     have hst:=vE l i.toNat x hx
     have hsle:=rU l (i.toNat+1)
     have step:SR R n x->∀ (j:Nat) y,(j:Int)<i+1->l[j]?=some y->SR R n y:=λhS j y hj hy=>by
      by_cases e:(j:Int)<i
      ·exact g4 j y e hy
      ·obtain rfl:j=i.toNat:=by omega
       obtain rfl:=o9 (hx.symm.trans hy)
       exact hS
     refine .bind (xw (by omega) x) λb hb=>.sel (λh1=>.pure ⟨rfl,λhh=>?_⟩) λh1=>?_
     ·have:=hb.2 (hh.1 x hxm).head
      rw [this] at h1
      simp at h1
      omega
     ·simp only [Bool.or_eq_false_iff,Bool.not_eq_false'] at h1
      have hV:=hb.1 h1.1
      refine .sel (λh2=>.pure ?_) λh2=>?_
      ·have hkd:x.Kind≠2/\x.Kind≠3:=by simpa using h2
       have hS:l8 R x:=hV.resolve_right λh=>by have:=h.1; omega
       have e1:cts x.Body=0:=by rw [hS.1]; rfl
       have e2:cts x.Else=0:=by rw [hS.2.1]; rfl
       exact ⟨by omega,g3,step ((SR.iff_simp hkd).2 hS)⟩
      ·have hkd:x.Kind=2\/x.Kind=3:=by
        simp at h2
        by_cases e:x.Kind=2
        ·exact .inl e
        ·exact .inr (h2 e)
       have hH:HdR x:=hV.resolve_left λh=>by have:=h.kind; omega
       cases n with
       | zero =>
        rw [eP (b:=decide (dp>=3)) (by simp; omega),ob9,eP rfl,ob9]
        exact .st rfl (.pure ⟨rfl,λhh=>by have:=l8.kind (hh.1 x hxm); omega⟩)
       | succ n =>
        rw [bB (b:=decide (dp>=3)) (by simp; omega),aR (by omega) (by omega)]
        have hlb:=gH x.Body
        have hle:=gH x.Else
        refine .bind (P:=λz:Bool×Int=>(z.1=false↔((∀ y∈x.Body,SR R n y)/\c'+cts x.Body<=16))/\(z.1=false->z.2=c'+cts x.Body)) ?_ λz hz=>.bind (P:=λz:Bool×Int=>(z.1=false↔(((∀ y∈x.Body,SR R n y)/\∀ y∈x.Else,SR R n y)/\c'+cts x.Body+cts x.Else<=16))/\(z.1=false->z.2=c'+cts x.Body+cts x.Else)) ?_ λw hw=>.sel (λh3=>.pure ⟨rfl,λhh=>?_⟩) λh3=>.pure ?_
        ·exact .bind (pA (R:=R) n k (l:=x.Body) (dp:=dp+1) (c:=c') (by omega) (by omega) (by omega) (by omega) (by omega) (by omega)) λz hz=>.pure ⟨by rw [<-hz.1]; cases z.1 <;> simp,λh=>hz.2 (by simpa using h)⟩
        ·refine .sel (λhz1=>.pure ⟨⟨λh=>(by cases h),λhh=>?_⟩,λh=>(by cases h)⟩) λhz1=>?_
         ·rw [hz.1.2 ⟨hh.1.1,by omega⟩] at hz1
          cases hz1
         ·have hz2:=hz.2 hz1
          have hz3:=hz.1.1 hz1
          refine .bind (pA (R:=R) n k (l:=x.Else) (dp:=dp+1) (c:=z.2) (by omega) (by omega) (by omega) (by omega) (by omega) (by omega)) λw hw=>.pure ⟨?_,λh=>by have:=hw.2 (by simpa using h); omega⟩
          have e:((!w.1)=false)↔w.1=true:=by cases w.1 <;> simp
          rw [e,hw.1,hz2]
          exact ⟨λh=>⟨⟨hz3.1,h.1⟩,h.2⟩,λh=>⟨h.1.2,h.2⟩⟩
        ·rcases hh.1 x hxm with h | h
         ·have:=h.kind; omega
         ·have:=hw.1.2 ⟨h.2,by omega⟩
          rw [this] at h3
          cases h3
        ·have hw1:=hw.1.1 h3
         have hw2:=hw.2 h3
         exact ⟨by omega,by omega,step (.inr ⟨hH,hw1.1⟩)⟩
    ·subst e
     rw [ao g0 (by omega)]
     refine .inl ⟨⟨by simp only; omega,by simp only; omega,by simp only; rw [show (i+1).toNat=i.toNat+1 by omega]; exact hz.1,hz.2.1,hz.2.2⟩,by simp only; omega⟩
   ·simp only [decide_eq_false_iff_not] at hge
    show c'=c+cts l/\_
    rw [List.take_of_length_le (by omega)] at g2
    refine ⟨by omega,λx hx=>?_,by omega⟩
    obtain ⟨j,hj,e⟩:=List.mem_iff_getElem.1 hx
    exact g4 j x (by omega) (by rw [List.getElem?_eq_getElem hj,e])
  refine .bind good λz hz=>.both (λo e=>?_) λo e=>?_
  ·subst e
   refine .pure ⟨⟨λh=>?_,λh=>absurd h hz.2⟩,λh=>?_⟩ <;> (rw [hz.1] at h; cases h)
  ·subst e
   exact .pure ⟨⟨λ_=>hz.2,λ_=>rfl⟩,λ_=>hz.1⟩
theorem vF {k:Nat} (hk:6<=k) (x:ae) (hkd:x.Kind≠2/\x.Kind≠3):Tot (du k x) λb=>b=true↔l8 3 x:=by
 have hp:fC x.Expr=some ((x.Expr.Op==0&&x.Expr.N==0)&&((x.Expr.Args.length:Int)==0)):=rfl
 have fin:∀ (u v:Bool) (E:Option Bool) (P:Prop),Tot E (λb=>b=true↔P)->Tot ((dV x u).bind λy1 =>
   (sel y1 ((dW x v).bind λy2=>some y2) (some false):Option (Bool)).bind λb1 =>
   (sel b1 (E.bind λy3=>some y3) (some false):Option (Bool)).bind λb2 =>
   some b2) λb=>b=true↔((if u then 0<=x.Var/\x.Var<=3 else x.Var=0)/\(if v then 0<=x.Box/\x.Box<3 else x.Box=0)/\P):=λu v E P hE=>by
  obtain ⟨e,he,hP⟩:=hE
  rw [uH,uI,he]
  have h1:(if u then decide (0<=x.Var)&&decide (x.Var<=3) else x.Var==0)=true↔(if u then 0<=x.Var/\x.Var<=3 else x.Var=0):=by cases u <;> simp
  have h2:(if v then decide (0<=x.Box)&&decide (x.Box<=2) else x.Box==0)=true↔(if v then 0<=x.Box/\x.Box<3 else x.Box=0):=by cases v <;> simp <;> omega
  rw [<-h1,<-h2,<-hP]
  generalize (if u then decide (0<=x.Var)&&decide (x.Var<=3) else x.Var==0)=a
  generalize (if v then decide (0<=x.Box)&&decide (x.Box<=2) else x.Box==0)=b
  cases a <;> cases b <;> cases e <;> exact ⟨_,rfl,by simp⟩
 unfold du
 simp only [ae.eta',Expr.eta']
 refine .sel (λh=>.pure ⟨λh=>(by cases h),λhh=>?_⟩) λh=>?_
 ·rw [hh.1,hh.2.1] at h
  simp at h
 ·simp at h
  have hb:=h.1
  have he:=h.2
  refine .sel (λh1=>(fin true false _ _ (uS hk x.Expr)).mono λb hb=>hb.trans ?_) λh1=>.sel (λh4=>(fin false true _ _ (uS hk x.Expr)).mono λb hb=>hb.trans ?_) λh4=>.sel (λh5=>(fin true true _ _ (by rw [hp]; exact .pure qN)).mono λb hb=>hb.trans ?_) λh5=>.sel (λh6=>(fin false false _ _ (by rw [hp]; exact .pure qN)).mono λb hb=>hb.trans ?_) λh6=>.sel (λh7=>(fin false false _ _ (uS hk x.Expr)).mono λb hb=>hb.trans ?_) λh7=>.pure ⟨λh=>(by cases h),λhh=>?_⟩
  rotate_right
  ·simp only [beq_eq_false_iff_ne,ne_eq] at h1 h4 h5 h6 h7
   rcases hh.2.2 with h | h | h | h | h <;> (have:=h.1; omega)
  all_goals
   unfold l8
   simp only [beq_iff_eq] at *
   simp [*]
theorem tr:∀ {n k:Nat} {l:List ae},n+2<=k->(∀ x∈l,SOk n x)->cts l<=2000000->Tot (bR k l) λr=>r=(cts l:Int)
 | n,0,_,h,_,_=>by omega
 | n,k+1,l,hk,hl,hc=>by
  show Tot (ch k (bR k) l) _
  unfold ch
  have hlen:=gH l
  refine .bind (P:=λr=>r=(cts l:Int)) (.iter (λs=>0<=s.2/\s.2<=(l.length:Int)/\s.1=(cts (l.take s.2.toNat):Int)) (λs=>((l.length:Int)-s.2).toNat) ⟨by simp,by simp,by simp [cts]⟩ λs hs=>?_) λr hr=>.pure hr
  obtain ⟨c,i⟩:=s
  obtain ⟨g0,g1,g2⟩:=hs
  simp only at g0 g1 g2
  unfold fT
  refine .sel (λhlt=>?_) λhge=>.inr (show c=_ from ?_)
  ·simp only [decide_eq_true_eq] at hlt
   refine .bind (.nth g0 hlt) λx ⟨hx,hxm⟩=>.bind (.nth g0 hlt) λx' ⟨hx',_⟩=>?_
   obtain rfl:x=x':=o9 (hx.symm.trans hx')
   have h1:=mO l i.toNat x hx
   have h2:=gu l (i.toNat+1)
   have h3:=mB x
   have hb:=(hl x hxm).body
   have sub:∀ bl,(∀ y∈bl,SOk (n-1) y)->(n=0->bl=[])->cts bl<=2000000->Tot (bR k bl) λr=>r=(cts bl:Int):=λbl hbl hn hcb=>by
    cases n with
    | zero=>rw [hn rfl,ul (by omega)]; exact .pure rfl
    | succ n=>exact tr (by omega) hbl hcb
   refine .bind (sub x.Body hb.1 (λh=>(hb.2.2 h).1) (by omega)) λy hy=>.bind (sub x.Else hb.2.1 (λh=>(hb.2.2 h).2) (by omega)) λz hz=>.inl ?_
   subst hy hz
   rw [aR (i:=c+1) (by omega) (by omega),aR (i:=c+1+_) (by omega) (by omega),aR (by omega) (by omega),ao g0 (by omega)]
   refine ⟨⟨by simp only; omega,by simp only; omega,?_⟩,by simp only; omega⟩
   simp only
   rw [show (i+1).toNat=i.toNat+1 by omega,h1,h3,g2]; omega
  ·simp only [decide_eq_false_iff_not] at hge
   rw [g2,List.take_of_length_le (by omega)]
theorem nR:∀ (n k:Nat) {l:List ae},2*n+9<=k->n<=3->cts l<=2000000->Tot (bC k l n) λb=>b=true↔∀ x∈l,SR 3 n x
 | n,0,_,hk,_,_=>by omega
 | n,1,_,hk,_,_=>by omega
 | n,k+2,l,hk,hn,hc=>by
  have hlen:=gH l
  show Tot (cY (k+1) (bC (k+1)) (ml (k+1)) l n) _
  unfold cY
  refine .bind (P:=λz:Bool⊕Unit=>match z with | .inl b=>b=false/\¬ ∀ x∈l,SR 3 n x | .inr _=>∀ x∈l,SR 3 n x) (.iter (λi:Int=>0<=i/\i<=l.length/\∀ (j:Nat) x,(j:Int)<i->l[j]?=some x->SR 3 n x) (λi=>(l.length-i).toNat) ⟨by omega,by omega,λj x hj=>by omega⟩ λi ⟨g0,g1,g2⟩=>?_) λz hz=>.both (λb e=>by subst e; refine .pure ⟨λh=>?_,λh=>absurd h hz.2⟩; rw [hz.1] at h; cases h) λu e=>by subst e; exact .pure ⟨λ_=>hz,λ_=>rfl⟩
  unfold hU
  refine .sel (λh=>?_) λh=>.inr λx hx=>?_
  rotate_left
  ·simp only [decide_eq_false_iff_not] at h
   obtain ⟨j,hj,e⟩:=List.mem_iff_getElem.1 hx
   exact g2 j x (by omega) (by rw [List.getElem?_eq_getElem hj,e])
  simp only [decide_eq_true_eq] at h
  refine .bind (.nth g0 h) λx ⟨hx,hm⟩=>?_
  rw [ae.eta']
  have hcx:=ti hm
  have hce:=mB x
  refine .bind (P:=λb=>b=true↔SR 3 n x) ?_ λb hb=>.sel (λhf=>.inr ⟨rfl,λhh=>by rw [hb.2 (hh x hm)] at hf; cases hf⟩) λhf=>.inl ?_
  ·show Tot (gz k (bC k) (ml k) x n) _
   unfold gz
   simp only [ae.eta',Expr.eta',uH,uI]
   refine .sel (λh2=>?_) λh2=>?_
   ·have hkd:x.Kind≠2/\x.Kind≠3:=by simpa using h2
    rw [SR.iff_simp hkd]
    exact .bind (vF (by omega) x hkd) λb hb=>.pure hb
   ·have hkd:x.Kind=2\/x.Kind=3:=by
     simp at h2
     by_cases e:x.Kind=2
     ·exact .inl e
     ·exact .inr (h2 e)
    have hns:¬ l8 3 x:=λh=>by have:=h.kind; omega
    refine .sel (λh3=>.pure ⟨λh=>(by cases h),λhh=>?_⟩) λh3=>?_
    ·cases n with
     | zero=>exact absurd hh hns
     | succ n =>
      have hH:=(hh.resolve_left hns).1
      simp at h3
      rcases h3 with h3 | h3
      ·omega
      ·rcases hH.1 with h | h
       ·omega
       ·have h4:=h3.2
        rw [h.2] at h4
        simp at h4
    ·simp only [Bool.or_eq_false_iff,decide_eq_false_iff_not] at h3
     cases n with
     | zero=>exact absurd (show ((0:Nat):Int)<1 by omega) h3.1
     | succ n =>
      have hEl:x.Kind=2\/(x.Kind=3/\x.Else=[]):=by
       rcases hkd with h | h
       ·exact .inl h
       ·right
        refine ⟨h,?_⟩
        have:=h3.2
        simp [h] at this
        exact this
      rw [aR (by omega) (by omega),show ((n+1:Nat):Int)-1=(n:Int) by omega]
      have hsr:SR 3 (n+1) x↔(x.Var=0/\x.Box=0/\EOk 5 x.Expr)/\(∀ y∈x.Body,SR 3 n y)/\∀ y∈x.Else,SR 3 n y:=⟨λh=>by
       obtain ⟨h1,h2,h3⟩:=h.resolve_left hns
       exact ⟨h1.2,h2,h3⟩,λ⟨h1,h2,h3⟩=>.inr ⟨⟨hEl,h1⟩,h2,h3⟩⟩
      rw [hsr]
      obtain ⟨e,he,hE⟩:=uS (k:=k) (by omega) x.Expr
      obtain ⟨e1,he1,hE1⟩:=nR n k (l:=x.Body) (by omega) (by omega) (by omega)
      obtain ⟨e2,he2,hE2⟩:=nR n k (l:=x.Else) (by omega) (by omega) (by omega)
      rw [he,he1,he2,<-hE,<-hE1,<-hE2]
      have hv:x.Var=0↔(x.Var==0)=true:=by simp
      have hb:x.Box=0↔(x.Box==0)=true:=by simp
      rw [hv,hb]
      rw [if_neg (by decide),if_neg (by decide)]
      generalize (x.Var==0)=a
      generalize (x.Box==0)=b
      cases a <;> cases b <;> cases e <;> cases e1 <;> cases e2 <;> exact ⟨_,rfl,by simp⟩
  ·rw [ao g0 (by omega)]
   refine ⟨⟨by omega,by omega,λj y hj hy=>?_⟩,by omega⟩
   by_cases e:(j:Int)<i
   ·exact g2 j y e hy
   ·obtain rfl:j=i.toNat:=by omega
    obtain rfl:=o9 (hx.symm.trans hy)
    exact hb.1 (by simpa using hf)
theorem pB {R:Int} (hR:R<=3):∀ (n k:Nat) {l:List ae},n+2<=k->cts l<=2000000->(∀ x∈l,SR 3 n x)->Tot (dX k l R) λb=>b=true↔∀ x∈l,SR R n x
 | n,0,_,hk,_,_=>by omega
 | n,k+1,l,hk,hc,hl=>by
  have hlen:=gH l
  show Tot (dC k (dX k) l R) _
  unfold dC
  refine .bind (P:=λz:Bool⊕Unit=>match z with | .inl b=>b=false/\¬ ∀ x∈l,SR R n x | .inr _=>∀ x∈l,SR R n x) (.iter (λi:Int=>0<=i/\i<=l.length/\∀ (j:Nat) x,(j:Int)<i->l[j]?=some x->SR R n x) (λi=>(l.length-i).toNat) ⟨by omega,by omega,λj x hj=>by omega⟩ λi ⟨g0,g1,g2⟩=>?_) λz hz=>.both (λb e=>by subst e; refine .pure ⟨λh=>?_,λh=>absurd h hz.2⟩; rw [hz.1] at h; cases h) λu e=>by subst e; exact .pure ⟨λ_=>hz,λ_=>rfl⟩
  unfold lf
  refine .sel (λh=>?_) λh=>.inr λx hx=>?_
  rotate_left
  ·simp only [decide_eq_false_iff_not] at h
   obtain ⟨j,hj,e⟩:=List.mem_iff_getElem.1 hx
   exact g2 j x (by omega) (by rw [List.getElem?_eq_getElem hj,e])
  simp only [decide_eq_true_eq] at h
  refine .bind (.nth g0 h) λx ⟨hx,hm⟩=>?_
  have hS:=hl x hm
  have hcx:=ti hm
  have hce:=mB x
  have step:SR R n x->∀ (j:Nat) y,(j:Int)<i+1->l[j]?=some y->SR R n y:=λhS j y hj hy=>by
   by_cases e:(j:Int)<i
   ·exact g2 j y e hy
   ·obtain rfl:j=i.toNat:=by omega
    obtain rfl:=o9 (hx.symm.trans hy)
    exact hS
  refine .sel (λh1=>.inr ⟨rfl,λhh=>?_⟩) λh1=>?_
  ·have hx2:=hh x hm
   simp only [Bool.and_eq_true,Bool.or_eq_true,beq_iff_eq,decide_eq_true_eq] at h1
   rcases hx2.head with h | h
   ·rcases h.2.2 with h | h | h | h | h <;> (have h3:=h.1; first | omega | (have:=h.2.2.1.2; omega))
   ·have:=h.1; omega
  ·rcases hS.head with hsim | hhd
   ·have hR2:l8 R x:=by
     refine ⟨hsim.1,hsim.2.1,?_⟩
     have hbx:x.Kind=4\/x.Kind=5->x.Box<R:=λhk=>by
      refine Classical.byContradiction λhge=>?_
      have:(((x.Kind==4)||(x.Kind==5))&&(decide (x.Box>=R)))=true:=by
       simp only [Bool.and_eq_true,Bool.or_eq_true,beq_iff_eq,decide_eq_true_eq]
       exact ⟨hk,by omega⟩
      rw [this] at h1
      cases h1
     rcases hsim.2.2 with h | h | h | h | h
     ·exact .inl h
     ·exact .inr (.inl ⟨h.1,h.2.1,⟨h.2.2.1.1,hbx (.inl h.1)⟩,h.2.2.2⟩)
     ·exact .inr (.inr (.inl ⟨h.1,h.2.1,⟨h.2.2.1.1,hbx (.inr h.1)⟩,h.2.2.2⟩))
     ·exact .inr (.inr (.inr (.inl h)))
     ·exact .inr (.inr (.inr (.inr h)))
    have hnil:dX k [] R=some true:=by
     obtain ⟨k,rfl⟩:∃ j,k=j+1:=⟨k-1,by omega⟩
     show dC k (dX k) [] R=_
     unfold dC
     rw [df]
     rfl
    rw [hsim.1,hsim.2.1,hnil]
    refine .inl ⟨⟨by rw [ao g0 (by omega)]; omega,by rw [ao g0 (by omega)]; omega,by rw [ao g0 (by omega)]; exact step ((SR.iff_simp hsim.kind).2 hR2)⟩,by rw [ao g0 (by omega)]; omega⟩
   ·have hns:∀ R,¬ l8 R x:=λR h=>by have:=h.kind; have:=hhd.1; omega
    cases n with
    | zero=>exact absurd hS (hns 3)
    | succ n =>
     obtain ⟨_,hB,hE⟩:=hS.resolve_left (hns 3)
     obtain ⟨b1,e1,hb1⟩:=pB hR n k (l:=x.Body) (by omega) (by omega) hB
     obtain ⟨b2,e2,hb2⟩:=pB hR n k (l:=x.Else) (by omega) (by omega) hE
     rw [e1,e2]
     simp only [ob9]
     refine .bind (P:=λz=>z=false↔((∀ y∈x.Body,SR R n y)/\∀ y∈x.Else,SR R n y)) (.of (r:=!b1||!b2) (by cases b1 <;> cases b2 <;> rfl) (by rw [<-hb1,<-hb2]; cases b1 <;> cases b2 <;> simp)) λz hz=>.sel (λhf=>.inr ⟨rfl,λhh=>?_⟩) λhf=>.inl ?_
     ·have:=(hh x hm).resolve_left (hns R)
      rw [hz.2 this.2] at hf
      cases hf
     ·rw [ao g0 (by omega)]
      exact ⟨⟨by omega,by omega,step (.inr ⟨hhd,hz.1 hf⟩)⟩,by omega⟩
def VL (R:Int) (l:List ae):Prop:=(∀ x∈l,SR R 3 x)/\cts l<=16
theorem tt {k:Nat} (hk:11<=k) {l:List ae} (hc:cts l<=2000000) (R:Int):Tot (eS k l R) λb=>b=true↔VL R l:=by
 unfold eS
 exact .bind (pA 3 k (l:=l) (dp:=0) (c:=0) (by omega) (by omega) (by omega) (by omega) (by omega) hc) λz hz=>.pure ⟨λh=>by have:=hz.1.1 h; exact ⟨this.1,by omega⟩,λh=>hz.1.2 ⟨h.1,by have:=h.2; omega⟩⟩
theorem tu {k:Nat} (hk:20<=k) {l:List ae} (hc:cts l<=2000000):Tot (cj k l) λb=>b=true↔VL 3 l:=by
 unfold cj
 have h1:=nR 3 k (l:=l) (by omega) (by omega) hc
 rw [show ((3:Nat):Int)=3 from rfl] at h1
 refine .bind h1 λb hb=>.bind (P:=λb=>b=true↔VL 3 l) (.sel (λh=>?_) λh=>.pure ⟨λh=>(by cases h),λhh=>by rw [hb.2 hh.1] at h; cases h⟩) λz hz=>.pure hz
 exact .bind (tr (n:=3) (by omega) (λx hx=>((hb.1 h) x hx).ok (by omega)) hc) λr hr=>.pure (by
  subst hr
  simp only [decide_eq_true_eq]
  exact ⟨λh'=>⟨hb.1 h,by omega⟩,λh'=>by have:=h'.2; omega⟩)
theorem wo {k:Nat} (hk:20<=k) {l:List ae} (hc:cts l<=2000000) {R:Int} (hR:R<=3):Tot ((cj k l).bind λy6=>(sel (!y6) (some true) ((dX k l R).bind λb_2=>some (!b_2)))) λb=>b=false↔VL R l:=by
 refine .bind (tu hk hc) λb hb=>.sel (λh=>.pure ⟨λh=>(by cases h),λhh=>?_⟩) λh=>?_
 ·rw [hb.2 ⟨λx hx=>(hh.1 x hx).up hR,hh.2⟩] at h
  cases h
 ·have h3:=hb.1 (by simpa using h)
  exact .bind (pB hR 3 k (by omega) hc h3.1) λz hz=>.pure ⟨λh=>⟨hz.1 (by simpa using h),h3.2⟩,λh=>by rw [hz.2 h.1]; rfl⟩
def VP (p:aA):Prop:=((∀ r∈p.Rooms,1<=r/\r<=4)/\p.Rooms.length<=3)/\(1<=p.Tasks.length/\p.Tasks.length<=3)/\∀ l∈p.Tasks,VL p.Rooms.length l
theorem mo {α:Type} {f:Int->Option (Int⊕(Bool⊕Unit))} {l:List α} (P:α->Prop) (hl:l.length<=4611686018427387904)
  (h:∀ (i:Int) (x:α),0<=i->i<l.length->l[i.toNat]?=some x->x∈l->Tot (f i) λz=>(P x/\z=.inl (w64 (i+1)))\/(¬ P x/\z=.inr (.inl false)))
  (he:∀ i:Int,i=l.length->f i=some (.inr (.inr ()))):Tot (aI f 0) λz=>(z=.inr ()/\∀ x∈l,P x)\/(z=.inl false/\¬ ∀ x∈l,P x):=by
 refine .iter (λi:Int=>0<=i/\i<=l.length/\∀ (j:Nat) x,(j:Int)<i->l[j]?=some x->P x) (λi=>(l.length-i).toNat) ⟨by omega,by omega,λj x hj=>by omega⟩ λi ⟨g0,g1,g2⟩=>?_
 by_cases hlt:i<l.length
 ·obtain ⟨x,hx⟩:∃ x,l[i.toNat]?=some x:=⟨_,List.getElem?_eq_getElem (by omega)⟩
  refine (h i x g0 hlt hx (List.mem_of_getElem? hx)).mono λz hz=>?_
  rcases hz with ⟨hp,rfl⟩ | ⟨hp,rfl⟩
  ·rw [ao g0 (by omega)]
   refine ⟨⟨by omega,by omega,λj y hj hy=>?_⟩,by omega⟩
   by_cases e:(j:Int)<i
   ·exact g2 j y e hy
   ·obtain rfl:j=i.toNat:=by omega
    obtain rfl:=o9 (hx.symm.trans hy)
    exact hp
  ·exact .inr ⟨rfl,λhh=>hp (hh x (List.mem_of_getElem? hx))⟩
 ·rw [he i (by omega)]
  refine .pure (.inl ⟨rfl,λx hx=>?_⟩)
  obtain ⟨j,hj,e⟩:=List.mem_iff_getElem.1 hx
  exact g2 j x (by omega) (by rw [List.getElem?_eq_getElem hj,e])
theorem nf {Q:Prop} {z:Bool⊕Unit} {c:Bool} (hz:(z=.inr ()/\Q)\/(z=.inl false/\¬ Q)):Tot (jX z (λo3=>some o3) (λ_=>some c)) λb=>b=true↔(Q/\c=true):=by
 rcases hz with ⟨rfl,h⟩ | ⟨rfl,h⟩
 ·exact .pure ⟨λhc=>⟨h,hc⟩,λhc=>hc.2⟩
 ·exact .pure ⟨λh=>(by cases h),λhc=>absurd hc.1 h⟩
theorem wq {l:List Int} (hl:l.length<=4611686018427387904):Tot (gP l) λb=>b=true↔((∀ r∈l,1<=r/\r<=4)/\l.length<=3):=by
 unfold gP
 refine .bind (mo (l:=l) (λr=>1<=r/\r<=4) hl (λi x h0 h1 hx hm=>?_) λi e=>?_) λz hz=>(nf hz).mono λb hb=>hb.trans ?_
 ·unfold gy
  refine .st (by simpa using h1) ?_
  rw [show nth l i=some x by unfold nth; rw [if_neg (by omega)]; exact hx,ob9]
  refine .sel (λh=>.pure (.inr ⟨λhh=>?_,rfl⟩)) λh=>.pure (.inl ⟨?_,rfl⟩)
  ·simp at h; omega
  ·simp at h; omega
 ·unfold gy; rw [bB (by simp [e])]
 ·rw [decide_eq_true_eq]
  exact and_congr_right λ_=>⟨λh=>by omega,λh=>by omega⟩
theorem wr {l:List Int} (hl:l.length<=4611686018427387904):Tot (jC l) λb=>b=true↔((∀ r∈l,1<=r/\r<=4)/\l.length<=3):=by
 unfold jC
 refine .bind (mo (l:=l) (λr=>1<=r/\r<=4) hl (λi x h0 h1 hx hm=>?_) λi e=>?_) λz hz=>(nf hz).mono λb hb=>hb.trans ?_
 ·unfold iZ
  refine .st (by simpa using h1) ?_
  rw [show nth l i=some x by unfold nth; rw [if_neg (by omega)]; exact hx,ob9,nH,ob9]
  refine .sel (λh=>.pure (.inr ⟨λhh=>?_,rfl⟩)) λh=>.pure (.inl ⟨?_,rfl⟩)
  ·simp at h; omega
  ·simp at h; omega
 ·unfold iZ; rw [bB (by simp [e])]
 ·rw [decide_eq_true_eq]
  exact and_congr_right λ_=>⟨λh=>by omega,λh=>by omega⟩
theorem xy {k:Nat} (hk:20<=k) {p:aA} (hr:p.Rooms.length<=2000000) (ht:∀ l∈p.Tasks,cts l<=2000000) (hn:p.Tasks.length<=2000000):Tot (ff k p) λb=>b=true↔VP p:=by
 unfold ff
 refine .bind (wq (by omega)) λb hb=>.sel (λh=>.pure ⟨λh=>(by cases h),λhh=>?_⟩) λh=>?_
 ·have:=hb.2 hh.1
  have h2:=hh.2.1
  rw [this] at h
  simp at h
  omega
 ·simp only [Bool.or_eq_false_iff,Bool.not_eq_false',decide_eq_false_iff_not] at h
  have hb':=hb.1 h.1.1
  refine .bind (mo (l:=p.Tasks) (λl=>VL p.Rooms.length l) (by omega) (λi x h0 h1 hx hm=>?_) λi e=>?_) λz hz=>(nf hz).mono λb hb=>hb.trans ?_
  ·unfold fd
   refine .st (by simpa using h1) ?_
   rw [show nth p.Tasks i=some x by unfold nth; rw [if_neg (by omega)]; exact hx,ob9]
   refine .bind (tt (by omega) (ht x hm) _) λv hv=>.sel (λh=>.pure (.inr ⟨λhh=>?_,rfl⟩)) λh=>.pure (.inl ⟨hv.1 (by simpa using h),rfl⟩)
   rw [hv.2 hh] at h
   cases h
  ·unfold fd; rw [bB (by simp [e])]
  ·unfold VP
   exact ⟨λhh=>⟨hb',by omega,hh.1⟩,λhh=>⟨hh.2.2,rfl⟩⟩
theorem xz {k:Nat} (hk:20<=k) {p:aA} (hr:p.Rooms.length<=2000000) (ht:∀ l∈p.Tasks,cts l<=2000000) (hn:p.Tasks.length<=2000000):Tot (fq k p) λb=>b=true↔VP p:=by
 unfold fq
 refine .bind (wr (by omega)) λb hb=>.bind (P:=λz=>z=false↔(b=true/\1<=p.Tasks.length/\p.Tasks.length<=3)) (.sel (λh=>.pure ?_) λh=>?_) λz hz=>.sel (λh=>.pure ⟨λh=>(by cases h),λhh=>?_⟩) λh=>?_
 ·have:b=false:=by simpa using h
  simp [this]
 ·have:b=true:=by simpa using h
  rw [nH,ob9]
  refine .pure ?_
  simp [this]
  omega
 ·rw [hz.2 ⟨hb.2 hh.1,hh.2.1⟩] at h
  cases h
 ·have hz':=hz.1 h
  have hb':=hb.1 hz'.1
  refine .bind (mo (l:=p.Tasks) (λl=>VL p.Rooms.length l) (by omega) (λi x h0 h1 hx hm=>?_) λi e=>?_) λz hz=>(nf hz).mono λb hb=>hb.trans ?_
  ·unfold fp
   refine .st (by simpa using h1) ?_
   have e1:nth p.Tasks i=some x:=by unfold nth; rw [if_neg (by omega)]; exact hx
   obtain ⟨v,ev,hv⟩:=wo hk (ht x hm) (R:=(p.Rooms.length:Int)) (by omega)
   obtain ⟨y,ey,_⟩:=tu hk (ht x hm)
   rw [ey,ob9] at ev
   rw [e1,ob9,ey,ob9,ob9,ev,ob9]
   refine .sel (λh=>.pure (.inr ⟨λhh=>?_,rfl⟩)) λh=>.pure (.inl ⟨hv.1 h,rfl⟩)
   rw [hv.2 hh] at h
   cases h
  ·unfold fp; rw [bB (by simp [e])]
  ·unfold VP
   exact ⟨λhh=>⟨hb',hz'.2,hh.1⟩,λhh=>⟨hh.2.2,rfl⟩⟩
end
noncomputable section
def cE:Nat->Expr->Int->List ab
 | 0,_,_=>[]
 | d+1,e,at_=>if e.Op=0 then [⟨1,at_,0,0,e.N⟩] else if e.Op=13 then [⟨2,at_,e.N,0,0⟩] else match e.Args with
  | [a,b]=>cE d a at_++cE d b (at_+1)++[⟨3,at_,at_,at_+1,e.Op⟩]
  | _=>[]
def dR (f:ae->Int->List ab):List ae->Int->List ab
 | [],_=>[]
 | x::l,b=>f x b++dR f l (b+(f x b).length)
def vG (x:ae):List ab:=if x.Kind=1 then cE 5 x.Expr 4++[⟨2,x.Var,4,0,0⟩] else if x.Kind=4 then cE 5 x.Expr 4++[⟨6,0,4,0,x.Box⟩] else if x.Kind=7 then cE 5 x.Expr 4++[⟨9,0,4,0,0⟩] else if x.Kind=5 then [⟨7,x.Var,0,0,x.Box⟩] else [⟨8,0,0,0,0⟩]
def cS:Nat->ae->Int->List ab
 | 0,x,_=>vG x
 | n+1,x,b =>
  if x.Kind=2 then (if x.Else.length=0 then
    cE 5 x.Expr 4++[⟨5,0,4,0,b+(cE 5 x.Expr 4).length+1+(dR (cS n) x.Body (b+(cE 5 x.Expr 4).length+1)).length⟩]++dR (cS n) x.Body (b+(cE 5 x.Expr 4).length+1)
   else
    cE 5 x.Expr 4++[⟨5,0,4,0,b+(cE 5 x.Expr 4).length+1+(dR (cS n) x.Body (b+(cE 5 x.Expr 4).length+1)).length+1⟩]++dR (cS n) x.Body (b+(cE 5 x.Expr 4).length+1)++[⟨4,0,0,0,b+(cE 5 x.Expr 4).length+1+(dR (cS n) x.Body (b+(cE 5 x.Expr 4).length+1)).length+1+(dR (cS n) x.Else (b+(cE 5 x.Expr 4).length+1+(dR (cS n) x.Body (b+(cE 5 x.Expr 4).length+1)).length+1)).length⟩]++dR (cS n) x.Else (b+(cE 5 x.Expr 4).length+1+(dR (cS n) x.Body (b+(cE 5 x.Expr 4).length+1)).length+1))
  else if x.Kind=3 then
   cE 5 x.Expr 4++[⟨5,0,4,0,b+(cE 5 x.Expr 4).length+1+(dR (cS n) x.Body (b+(cE 5 x.Expr 4).length+1)).length+1⟩]++dR (cS n) x.Body (b+(cE 5 x.Expr 4).length+1)++[⟨4,0,0,0,b⟩]
  else vG x
theorem tv {f:ae->Int->List ab}:∀ (l:List ae) (x:ae) (b:Int),dR f (l++[x]) b=dR f l b++f x (b+(dR f l b).length)
 | [],x,b=>by simp [dR]
 | y::l,x,b=>by
  simp only [List.cons_append,dR,tv l x,List.append_assoc,List.length_append]
  congr 3
  omega
theorem pC:∀ {d:Nat} {e:Expr} {at_:Int},EOk d e->(cE d e at_).length+1<=2^d/\1<=(cE d e at_).length
 | 0,_,_,h=>h.elim
 | d+1,e,at_,h=>by
  have hp:2<=2^(d+1):=by rw [Nat.pow_succ]; have:=Nat.two_pow_pos d; omega
  unfold cE
  rcases h with ⟨h1,h2,h3,h4⟩ | ⟨h1,h2,h3,h4⟩ | ⟨h1,h2,a,b,h3,h4,h5⟩
  ·rw [if_pos h1]; simp; omega
  ·rw [if_neg (by omega),if_pos h1]; simp; omega
  ·rw [if_neg (by omega),if_neg (by omega),h3]
   have i1:=pC (at_:=at_) h4
   have i2:=pC (at_:=at_+1) h5
   simp only [List.length_append,List.length_singleton,Nat.pow_succ]
   omega
theorem cE5 {e:Expr} (h:EOk 5 e):(cE 5 e 4).length<=31/\1<=(cE 5 e 4).length:=by
 have:=pC (at_:=4) h
 omega
theorem mU:∀ {d k:Nat} {e:Expr} {at_:Int},EOk d e->0<=at_->at_+d<=12->d<=k->cl k e at_=some (cE d e at_)
 | 0,_,_,_,h,_,_,_=>h.elim
 | d+1,0,_,_,_,_,_,h=>by omega
 | d+1,k+1,e,at_,h,h0,h12,hk=>by
  show eE k (cl k) e at_=_
  unfold eE cE
  rcases h with ⟨h1,h2,h3,h4⟩ | ⟨h1,h2,h3,h4⟩ | ⟨h1,h2,a,b,h3,h4,h5⟩
  ·rw [if_pos h1,eP (by simpa using h1)]
  ·rw [if_neg (by omega),if_pos h1,bB (by simp [h1]),eP (by simpa using h1)]
  ·rw [if_neg (by omega),if_neg (by omega),bB (by simp; omega),bB (by simp; omega)]
   have hd:1<=d:=by cases d with
    | zero=>exact h4.elim
    | succ d=>omega
   have h256:2^d<=4096:=Nat.le_trans (Nat.pow_le_pow_right (by omega) (show d<=12 by omega)) (by decide)
   have i1:=pC (at_:=at_) h4
   have i2:=pC (at_:=at_+1) h5
   have e1:nth e.Args 0=some a:=by rw [h3]; rfl
   have e2:nth e.Args 1=some b:=by rw [h3]; rfl
   rw [e1,e2,h3]
   simp only [ob9,Expr.eta']
   rw [aR (by omega) (by omega),mU h4 h0 (by omega) (by omega),mU (k:=k) h5 (show 0<=at_+1 by omega) (by omega) (by omega)]
   simp only [ob9]
   refine Tot.eq (.bind (.app (by omega)) λr hr=>.bind (.app (by subst hr; simp; omega)) λr2 hr2=>.pure ?_)
   rw [hr2,hr]
theorem tw:∀ {d k:Nat} {e:Expr} {at_:Int} {out:List ab},EOk d e->0<=at_->at_+d<=12->d<=k->out.length+2^d<=1000000->d6 k e at_ out=some (out++cE d e at_)
 | 0,_,_,_,_,h,_,_,_,_=>h.elim
 | d+1,0,_,_,_,_,_,_,h,_=>by omega
 | d+1,k+1,e,at_,out,h,h0,h12,hk,hl=>by
  have hp:2<=2^(d+1):=by rw [Nat.pow_succ]; have:=Nat.two_pow_pos d; omega
  show eu k (d6 k) e at_ out=_
  unfold eu cE
  rcases h with ⟨h1,h2,h3,h4⟩ | ⟨h1,h2,h3,h4⟩ | ⟨h1,h2,a,b,h3,h4,h5⟩
  ·rw [if_pos h1,eP (by simpa using h1)]
   exact Tot.eq (.bind (.app (by simp; omega)) λr hr=>.pure hr)
  ·rw [if_neg (by omega),if_pos h1,bB (by simp [h1]),eP (by simpa using h1)]
   exact Tot.eq (.bind (.app (by simp; omega)) λr hr=>.pure hr)
  ·rw [if_neg (by omega),if_neg (by omega),bB (by simp; omega),bB (by simp; omega)]
   have hd:1<=d:=by cases d with
    | zero=>exact h4.elim
    | succ d=>omega
   have hps:2^(d+1)=2^d*2:=Nat.pow_succ ..
   have i1:=pC (at_:=at_) h4
   have i2:=pC (at_:=at_+1) h5
   have e1:nth e.Args 0=some a:=by rw [h3]; rfl
   have e2:nth e.Args 1=some b:=by rw [h3]; rfl
   rw [e1,e2,h3]
   simp only [ob9,Expr.eta']
   rw [aR (by omega) (by omega),tw h4 h0 (by omega) (by omega) (by omega)]
   simp only [ob9]
   rw [tw (k:=k) h5 (show 0<=at_+1 by omega) (by omega) (by omega) (by simp; omega)]
   simp only [ob9]
   refine Tot.eq (.bind (.app (by simp; omega)) λr hr=>.pure ?_)
   rw [hr]
   simp
theorem tx:EOk 5 ⟨0,0,[]⟩:=.inl ⟨rfl,Int.le_refl _,by decide,rfl⟩
theorem SOk.expr {n:Nat} {x:ae} (hx:SOk n x):EOk 5 x.Expr:=by
 have hs:mw x->EOk 5 x.Expr:=λh=>by
  rcases h.2.2 with h | h | h | h | h
  ·exact h.2.2.2
  ·exact h.2.2.2
  ·rw [h.2.2.2]; exact tx
  ·rw [h.2.2.2]; exact tx
  ·exact h.2.2.2
 cases n with
 | zero=>exact hs hx
 | succ n =>
  rcases hx with h | h
  ·exact hs h
  ·exact h.2.2.2.1
theorem vH {x:ae} (h:EOk 5 x.Expr):(vG x).length<=33:=by
 have:=cE5 h
 unfold vG
 split
 ·simp; omega
 ·split
  ·simp; omega
  ·split
   ·simp; omega
   ·split <;> simp
theorem iM {f:ae->Int->List ab}:∀ {l:List ae} {b:Int},(∀ x∈l,∀ b,(f x b).length<=33*ct x)->(dR f l b).length<=33*cts l
 | [],_,_=>by simp [dR]
 | x::l,b,h=>by
  have h1:=h x (by simp) b
  have h2:=iM (l:=l) (b:=b+(f x b).length) λy hy=>h y (by simp [hy])
  simp only [dR,cts,List.length_append]
  omega
theorem mp:∀ {n:Nat} {x:ae},SOk n x->∀ b,(cS n x b).length<=33*ct x
 | 0,x,h,b=>by
  have:=vH (SOk.expr (n:=0) h)
  have:=wc x
  unfold cS
  omega
 | n+1,x,h,b=>by
  have he:=cE5 (SOk.expr h)
  have h1:=vH (SOk.expr h)
  have h2:=mB x
  have hb:∀ b,(dR (cS n) x.Body b).length<=33*cts x.Body:=λb=>iM λy hy=>mp (h.body.1 y hy)
  have hl:∀ b,(dR (cS n) x.Else b).length<=33*cts x.Else:=λb=>iM λy hy=>mp (h.body.2.1 y hy)
  unfold cS
  have k1:=hb (b+(cE 5 x.Expr 4).length+1)
  split
  ·split
   ·simp; omega
   ·have k2:=hl (b+(cE 5 x.Expr 4).length+1+(dR (cS n) x.Body (b+(cE 5 x.Expr 4).length+1)).length+1)
    simp; omega
  ·split
   ·simp; omega
   ·omega
theorem vI {n k:Nat} (ih:∀ {x:ae} {base:Int},SOk n x->0<=base->base+33*ct x<=100000->bU k x base=some (cS n x base)) {l:List ae} {base:Int} (hl:∀ x∈l,SOk n x) (h0:0<=base) (h1:base+33*cts l<=100000):bI (k+1) l base=some (dR (cS n) l base):=by
 refine Tot.eq ?_
 show Tot (eF k (bI k) (bU k) (fD k) (cF k) l base) _
 unfold eF
 have hlen:=gH l
 refine .bind (P:=λz=>z=dR (cS n) l base) (.iter (λs=>0<=s.2/\s.2<=(l.length:Int)/\s.1=dR (cS n) (l.take s.2.toNat) base) (λs=>((l.length:Int)-s.2).toNat) ⟨by simp,by simp,by simp [dR]⟩ λs hs=>?_) λr hr=>.pure hr
 obtain ⟨out,i⟩:=s
 obtain ⟨g0,g1,g2⟩:=hs
 simp only at g0 g1 g2
 unfold jL
 refine .sel (λh=>?_) λh=>.inr (show out=_ from ?_)
 ·simp only [decide_eq_true_eq] at h
  refine .bind (.nth g0 h) λx ⟨hx,hm⟩=>?_
  have t1:=mO l i.toNat x hx
  have t2:=gu l (i.toNat+1)
  have hol:out.length<=33*cts (l.take i.toNat):=by rw [g2]; exact iM λy hy=>mp (hl y (List.mem_of_mem_take hy))
  have hxl:=mp (hl x hm) (base+out.length)
  dsimp only
  rw [ae.eta',aR (by omega) (by omega),ih (hl x hm) (by omega) (by omega),ob9]
  refine .bind (.app (by omega)) λr hr=>.inl ?_
  rw [ao g0 (by omega)]
  refine ⟨⟨by simp only; omega,by simp only; omega,?_⟩,by simp only; omega⟩
  simp only
  rw [hr,show (i+1).toNat=i.toNat+1 by omega,List.take_add_one,hx]
  show _=dR (cS n) (l.take i.toNat++[x]) base
  rw [tv,<-g2]
 ·simp only [decide_eq_false_iff_not] at h
  rw [g2,List.take_of_length_le (by omega)]
theorem vJ:∀ (n k:Nat) {x:ae} {base:Int},3*n+7<=k->SOk n x->0<=base->base+33*ct x<=100000->bU k x base=some (cS n x base)
 | n,0,_,_,hk,_,_,_=>by omega
 | n,k+1,x,base,hk,hx,h0,h1=>by
  have hee:=hx.expr
  have he:=cE5 hee
  have hce:=mB x
  refine Tot.eq ?_
  show Tot (cI k (bI k) (bU k) (fD k) (cF k) x base) _
  have simp_case:(x.Kind≠2)->(x.Kind≠3)->Tot (cI k (bI k) (bU k) (fD k) (cF k) x base) λz=>z=vG x:=λhk2 hk3=>by
   unfold cI vG
   simp only [ae.eta',Expr.eta']
   rw [mU hee (by decide) (by decide) (by omega),ob9]
   have ap:∀ q:ab,Tot ((X.app 40 (cE 5 x.Expr 4) [q]).bind λr=>some r) (λz=>z=cE 5 x.Expr 4++[q]):=λq=>.bind (.app (by simp; omega)) λr hr=>.pure hr
   refine .sf (by simpa using hk2) (.sf (by simpa using hk3) (.sel (λh=>?_) λh1=>.sel (λh=>?_) λh4=>.sel (λh=>?_) λh7=>.sel (λh=>.pure ?_) λh5=>.pure ?_))
   ·rw [if_pos (by simpa using h)]; exact ap _
   ·rw [if_neg (by simpa using h1),if_pos (by simpa using h)]; exact ap _
   ·rw [if_neg (by simpa using h1),if_neg (by simpa using h4),if_pos (by simpa using h)]; exact ap _
   ·rw [if_neg (by simpa using h1),if_neg (by simpa using h4),if_neg (by simpa using h7),if_pos (by simpa using h)]
   ·rw [if_neg (by simpa using h1),if_neg (by simpa using h4),if_neg (by simpa using h7),if_neg (by simpa using h5)]
  cases n with
  | zero =>
   have hkd:=mw.kind hx
   exact simp_case hkd.1 hkd.2
  | succ n =>
   by_cases hkd:x.Kind≠2/\x.Kind≠3
   ·unfold cS
    rw [if_neg hkd.1,if_neg hkd.2]
    exact simp_case hkd.1 hkd.2
   ·have hns:¬ mw x:=λh=>hkd h.kind
    obtain ⟨hk23,_,_,_,hbd,hel⟩:=hx.resolve_left hns
    obtain ⟨k,rfl⟩:∃ j,k=j+2:=⟨k-2,by omega⟩
    have hL:∀ {l:List ae} {b:Int},(∀ y∈l,SOk n y)->0<=b->b+33*cts l<=100000->bI (k+1) l b=some (dR (cS n) l b):=λhl hb0 hb1=>vI (λhx h0 h1=>vJ n k (by omega) hx h0 h1) hl hb0 hb1
    have lb:∀ b,(dR (cS n) x.Body b).length<=33*cts x.Body:=λb=>iM λy hy=>mp (hbd y hy)
    have ll:∀ b,(dR (cS n) x.Else b).length<=33*cts x.Else:=λb=>iM λy hy=>mp (hel y hy)
    unfold cI cS
    simp only [ae.eta',Expr.eta']
    rw [mU hee (by decide) (by decide) (by omega),ob9]
    have k1:=lb (base+(cE 5 x.Expr 4).length+1)
    by_cases h2:x.Kind=2
    ·rw [if_pos h2]
     refine .st (by simpa using h2) ?_
     show Tot ((gA (k+1) (bI (k+1)) (bU (k+1)) (fD (k+1)) (cF (k+1)) x base).bind λy2=>some y2) _
     unfold gA
     simp only [Expr.eta']
     rw [mU hee (by decide) (by decide) (by omega),ob9,aR (i:=base+(cE 5 x.Expr 4).length) (by omega) (by omega),aR (i:=base+(cE 5 x.Expr 4).length+1) (by omega) (by omega),hL hbd (by omega) (by omega),ob9,aR (i:=base+(cE 5 x.Expr 4).length+1+_) (by omega) (by omega)]
     by_cases hnil:x.Else.length=0
     ·rw [if_pos hnil,eP (by simpa using hnil)]
      refine .bind (P:=λz=>z=_) (.bind (.app (by simp; omega)) λr hr=>.bind (.app (by subst hr; simp; omega)) λr2 hr2=>.pure (show r2=_ from ?_)) λz hz=>.pure hz
      rw [hr2,hr]
     ·rw [if_neg hnil,bB (by simpa using hnil),aR (i:=base+(cE 5 x.Expr 4).length+1+_+1) (by omega) (by omega)]
      have k2:=ll (base+(cE 5 x.Expr 4).length+1+(dR (cS n) x.Body (base+(cE 5 x.Expr 4).length+1)).length+1)
      rw [hL hel (by omega) (by omega),ob9,aR (i:=base+(cE 5 x.Expr 4).length+1+_+1+_) (by omega) (by omega)]
      refine .bind (.bind (.app (by simp; omega)) λr hr=>.bind (.app (by subst hr; simp; omega)) λr2 hr2=>.bind (.app (by subst hr hr2; simp; omega)) λr3 hr3=>.bind (.app (by subst hr hr2 hr3; simp; omega)) λr4 hr4=>.pure (show r4=_ from ?_)) λz hz=>.pure hz
      rw [hr4,hr3,hr2,hr]
    ·have h3:x.Kind=3:=by omega
     rw [if_neg h2,if_pos h3]
     refine .sf (by simpa using h2) (.st (by simpa using h3) ?_)
     show Tot ((dD (k+1) (bI (k+1)) (bU (k+1)) (fD (k+1)) (cF (k+1)) x base).bind λy2=>some y2) _
     unfold dD
     simp only [Expr.eta']
     rw [mU hee (by decide) (by decide) (by omega),ob9,aR (i:=base+(cE 5 x.Expr 4).length) (by omega) (by omega),aR (i:=base+(cE 5 x.Expr 4).length+1) (by omega) (by omega),hL hbd (by omega) (by omega),ob9,aR (i:=base+(cE 5 x.Expr 4).length+1+_) (by omega) (by omega),aR (i:=base+(cE 5 x.Expr 4).length+1+_+1) (by omega) (by omega)]
     refine .bind (.bind (.app (by simp; omega)) λr hr=>.bind (.app (by subst hr; simp; omega)) λr2 hr2=>.bind (.app (by subst hr hr2; simp; omega)) λr3 hr3=>.pure (show r3=_ from ?_)) λz hz=>.pure hz
     rw [hr3,hr2,hr]
theorem vK {n k:Nat} (ih:∀ {x:ae} {out:List ab},SOk n x->out.length+33*ct x<=100000->d7 k x out=some (out++cS n x out.length)) {l:List ae} {out:List ab} (hl:∀ x∈l,SOk n x) (h1:out.length+33*cts l<=100000):bW (k+1) l out=some (out++dR (cS n) l out.length):=by
 refine Tot.eq ?_
 show Tot (dG k (bW k) (d7 k) l out) _
 unfold dG
 have hlen:=gH l
 refine .bind (P:=λz=>z=out++dR (cS n) l out.length) (.iter (λs=>0<=s.2/\s.2<=(l.length:Int)/\s.1=out++dR (cS n) (l.take s.2.toNat) out.length) (λs=>((l.length:Int)-s.2).toNat) ⟨by simp,by simp,by simp [dR]⟩ λs hs=>?_) λr hr=>.pure hr
 obtain ⟨o,i⟩:=s
 obtain ⟨g0,g1,g2⟩:=hs
 simp only at g0 g1 g2
 unfold ir
 refine .sel (λh=>?_) λh=>.inr (show o=_ from ?_)
 ·simp only [decide_eq_true_eq] at h
  refine .bind (.nth g0 h) λx ⟨hx,hm⟩=>?_
  have t1:=mO l i.toNat x hx
  have t2:=gu l (i.toNat+1)
  have hol:(dR (cS n) (l.take i.toNat) out.length).length<=33*cts (l.take i.toNat):=iM λy hy=>mp (hl y (List.mem_of_mem_take hy))
  have hol2:o.length=out.length+(dR (cS n) (l.take i.toNat) out.length).length:=by rw [g2]; simp
  dsimp only
  rw [ae.eta',ih (hl x hm) (by omega),ob9,ao g0 (by omega)]
  refine .inl ⟨⟨by simp only; omega,by simp only; omega,?_⟩,by simp only; omega⟩
  simp only
  rw [show (i+1).toNat=i.toNat+1 by omega,List.take_add_one,hx]
  show _=out++dR (cS n) (l.take i.toNat++[x]) out.length
  rw [tv,<-List.append_assoc,<-g2,hol2]
  congr 2
 ·simp only [decide_eq_false_iff_not] at h
  rw [g2,List.take_of_length_le (by omega)]
theorem wY {A B:List ab} {q:ab} {o d a b n m:Int} (hq:q=⟨o,d,a,b,n⟩):nth (A++[q]++B) (A.length:Int)=some q/\X.upd (A++[q]++B) (A.length:Int) ⟨o,d,a,b,m⟩=some (A++[⟨o,d,a,b,m⟩]++B):=by
 constructor
 ·unfold nth
  rw [if_neg (by omega),Int.toNat_natCast,List.append_assoc,List.getElem?_append_right (Nat.le_refl _),Nat.sub_self]
  rfl
 ·unfold X.upd
  rw [if_pos (by simp; omega),Int.toNat_natCast,List.append_assoc,List.set_append_right _ _ (Nat.le_refl _),Nat.sub_self,List.append_assoc]
  rfl
theorem vL:∀ (n k:Nat) {x:ae} {out:List ab},3*n+7<=k->SOk n x->out.length+33*ct x<=100000->d7 k x out=some (out++cS n x out.length)
 | n,0,_,_,hk,_,_=>by omega
 | n,k+1,x,out,hk,hx,h1=>by
  have hee:=hx.expr
  have he:=cE5 hee
  have hce:=mB x
  refine Tot.eq ?_
  show Tot (cr k (bW k) (d7 k) x out) _
  have hx1:d6 k x.Expr 4 out=some (out++cE 5 x.Expr 4):=tw hee (by decide) (by decide) (by omega) (by have:(2:Nat)^5=32:=rfl; omega)
  have simp_case:mw x->Tot (cr k (bW k) (d7 k) x out) λz=>z=out++vG x:=λhs=>by
   unfold cr vG
   simp only [Expr.eta',hx1,ob9]
   have ap:∀ (o:List ab) (q:ab),o.length<=100000->Tot ((X.app 40 o [q]).bind λr=>some r) (λz=>z=o++[q]):=λo q ho=>.bind (.app (by simp; omega)) λr hr=>.pure hr
   rcases hs.2.2 with h | h | h | h | h
   ·simp only [h.1]
    refine (ap (out++cE 5 x.Expr 4) _ (by simp; omega)).mono λz hz=>?_
    rw [hz]; simp
   ·simp only [h.1]
    refine (ap (out++cE 5 x.Expr 4) _ (by simp; omega)).mono λz hz=>?_
    rw [hz]; simp
   ·simp only [h.1]
    exact ap out _ (by omega)
   ·simp only [h.1]
    exact ap out _ (by omega)
   ·simp only [h.1]
    refine (ap (out++cE 5 x.Expr 4) _ (by simp; omega)).mono λz hz=>?_
    rw [hz]; simp
  cases n with
  | zero=>exact simp_case hx
  | succ n =>
   by_cases hs:mw x
   ·have hkd:=hs.kind
    unfold cS
    rw [if_neg hkd.1,if_neg hkd.2]
    exact simp_case hs
   ·obtain ⟨hk23,_,_,_,hbd,hel⟩:=hx.resolve_left hs
    obtain ⟨k,rfl⟩:∃ j,k=j+1:=⟨k-1,by omega⟩
    have hL:∀ {l:List ae} {o:List ab},(∀ y∈l,SOk n y)->o.length+33*cts l<=100000->bW (k+1) l o=some (o++dR (cS n) l o.length):=λhl hb=>vK (λhx h=>vL n k (by omega) hx h) hl hb
    have lb:∀ b,(dR (cS n) x.Body b).length<=33*cts x.Body:=λb=>iM λy hy=>mp (hbd y hy)
    have ll:∀ b,(dR (cS n) x.Else b).length<=33*cts x.Else:=λb=>iM λy hy=>mp (hel y hy)
    unfold cr cS
    simp only [Expr.eta',hx1,ob9]
    have k1:=lb (out.length+(cE 5 x.Expr 4).length+1)
    rw [eP (b:=(x.Kind !=5)&&(x.Kind !=6)) (by rcases hk23 with h | h <;> simp [h]),ob9]
    refine .sf (by rcases hk23 with h | h <;> simp [h]) (.sf (by rcases hk23 with h | h <;> simp [h]) (.sf (by rcases hk23 with h | h <;> simp [h]) (.sf (by rcases hk23 with h | h <;> simp [h]) (.sf (by rcases hk23 with h | h <;> simp [h]) (.bind (.app (by simp; omega)) λr6 hr6=>?_)))))
    have hr6l:r6.length=out.length+(cE 5 x.Expr 4).length+1:=by rw [hr6]; simp; omega
    rw [hL hbd (by omega),ob9,hr6l]
    have hb0:((out.length+(cE 5 x.Expr 4).length+1:Nat):Int)=(out.length:Int)+(cE 5 x.Expr 4).length+1:=by omega
    rw [hb0]
    have k2:=ll ((out.length:Int)+(cE 5 x.Expr 4).length+1+(dR (cS n) x.Body ((out.length:Int)+(cE 5 x.Expr 4).length+1)).length+1)
    generalize hEL:dR (cS n) x.Else ((out.length:Int)+(cE 5 x.Expr 4).length+1+(dR (cS n) x.Body ((out.length:Int)+(cE 5 x.Expr 4).length+1)).length+1)=el at k2 ⊢
    generalize hB:dR (cS n) x.Body ((out.length:Int)+(cE 5 x.Expr 4).length+1)=bd at k1 hEL ⊢
    generalize hE:cE 5 x.Expr 4=e at he hr6 hr6l hEL ⊢
    subst hr6
    by_cases h3:x.Kind=3
    ·have hel0:x.Else=[]:=by
      rcases hk23 with h | h
      ·omega
      ·exact h.2
     rw [if_neg (by omega),if_pos h3,hel0]
     refine .bind (P:=λz=>z=(out++e)++[ab.mk 5 0 4 0 0]++(bd++[ab.mk 4 0 0 0 out.length])) (.st (by simpa using h3) (.bind (.app (by simp; omega)) λr hr=>.pure ?_)) λy4 h4=>?_
     ·rw [hr]; simp
     ·rw [bB (b:=decide ((([]:List ae).length:Int)>0)) (by simp),ob9]
      obtain ⟨p1,p2⟩:=wY (A:=out++e) (B:=bd++[ab.mk 4 0 0 0 out.length]) (q:=ab.mk 5 0 4 0 0) (m:=(y4.length:Int)) rfl
      rw [<-h4] at p1 p2
      rw [p1,ob9,p2,ob9,bB (by simp)]
      refine .pure ?_
      have hy4:(y4.length:Int)=(out.length:Int)+e.length+1+bd.length+1:=by rw [h4]; simp; omega
      rw [hy4]
      simp
    ·have h2:x.Kind=2:=by omega
     rw [if_pos h2]
     refine .bind (P:=λz=>z=(out++e)++[ab.mk 5 0 4 0 0]++bd) (.sf (by simpa using h3) (.pure rfl)) λy4 h4=>?_
     have hy4:y4.length=out.length+e.length+1+bd.length:=by rw [h4]; simp; omega
     by_cases hnil:x.Else.length=0
     ·rw [if_pos hnil,bB (b:=decide ((x.Else.length:Int)>0)) (by simp [hnil]),ob9]
      obtain ⟨p1,p2⟩:=wY (A:=out++e) (B:=bd) (q:=ab.mk 5 0 4 0 0) (m:=(y4.length:Int)) rfl
      rw [<-h4] at p1 p2
      rw [p1,ob9,p2,ob9,bB (by simp [hnil])]
      refine .pure ?_
      rw [show (y4.length:Int)=(out.length:Int)+e.length+1+bd.length by omega]
      simp
     ·rw [if_neg hnil,eP (b:=decide ((x.Else.length:Int)>0)) (by simp; omega)]
      refine .bind (P:=λz=>z=(out++e)++[ab.mk 5 0 4 0 0]++(bd++[ab.mk 4 0 0 0 0])) (.bind (.app (by simp; omega)) λr hr=>.pure ?_) λy5 h5=>?_
      ·rw [hr,h4]; simp
      ·have hy5:y5.length=out.length+e.length+1+bd.length+1:=by rw [h5]; simp; omega
       obtain ⟨p1,p2⟩:=wY (A:=out++e) (B:=bd++[ab.mk 4 0 0 0 0]) (q:=ab.mk 5 0 4 0 0) (m:=(y5.length:Int)) rfl
       rw [<-h5] at p1 p2
       rw [p1,ob9,p2,ob9,eP (by simp; omega)]
       have hr9:((out++e)++[ab.mk 5 0 4 0 y5.length]++(bd++[ab.mk 4 0 0 0 0])).length=out.length+e.length+1+bd.length+1:=by simp; omega
       rw [hL hel (by omega),ob9,hr9,show ((out.length+e.length+1+bd.length+1:Nat):Int)=(out.length:Int)+e.length+1+bd.length+1 by omega,hEL]
       have hsplit:(out++e)++[ab.mk 5 0 4 0 y5.length]++(bd++[ab.mk 4 0 0 0 0])++el=((out++e)++[ab.mk 5 0 4 0 y5.length]++bd)++[ab.mk 4 0 0 0 0]++el:=by simp
       have hal:((out++e)++[ab.mk 5 0 4 0 y5.length]++bd).length=y4.length:=by rw [hy4]; simp; omega
       rw [hsplit,<-hal]
       obtain ⟨s1,s2⟩:=wY (A:=(out++e)++[ab.mk 5 0 4 0 y5.length]++bd) (B:=el) (q:=ab.mk 4 0 0 0 0) (m:=(((out++e)++[ab.mk 5 0 4 0 y5.length]++bd++[ab.mk 4 0 0 0 0]++el).length:Int)) rfl
       rw [s1,ob9,s2,ob9]
       refine .pure ?_
       have hlen:(((out++e)++[ab.mk 5 0 4 0 y5.length]++bd++[ab.mk 4 0 0 0 0]++el).length:Int)=(out.length:Int)+e.length+1+bd.length+1+el.length:=by simp; omega
       rw [hlen,show (y5.length:Int)=(out.length:Int)+e.length+1+bd.length+1 by omega]
       simp
def eL (l:List ae):List ab:=dR (cS 3) l 0++[⟨10,0,0,0,0⟩]
theorem VL.block {R:Int} (hR:R<=3) {l:List ae} (h:VL R l):fy 3 16 l:=⟨λx hx=>(h.1 x hx).ok hR,h.2⟩
theorem tz {k:Nat} (hk:20<=k) {R:Int} (hR:R<=3) {l:List ae} (h:VL R l):cU k l=some (eL l):=by
 obtain ⟨k,rfl⟩:∃ j,k=j+1:=⟨k-1,by omega⟩
 have h2:=h.2
 unfold cU
 rw [vK (n:=3) (λhx hl=>vL 3 k (by omega) hx hl) (out:=[]) (λx hx=>(h.1 x hx).ok hR) (by simp; omega),ob9]
 have hl:(dR (cS 3) l 0).length<=33*cts l:=iM λy hy=>mp ((h.1 y hy).ok hR)
 refine Tot.eq (.bind (.app (by simp; omega)) λr hr=>.pure ?_)
 rw [hr]
 rfl
theorem qb {k:Nat} (hk:20<=k) {R:Int} (hR:R<=3) {l:List ae} (h:VL R l):cz k l=some (eL l,true)/\COk (eL l):=by
 have hb:=h.block hR
 have h2:=h.2
 have he:cz k l=some (eL l,true):=by
  unfold cz
  rw [pb hk hb,ob9,bB (show (!true)=false from rfl)]
  obtain ⟨k,rfl⟩:∃ j,k=j+1:=⟨k-1,by omega⟩
  rw [vI (n:=3) (λhx h0 hl=>vJ 3 k (by omega) hx h0 hl) (λx hx=>hb.1 x hx) (by omega) (by omega),ob9]
  have hl:(dR (cS 3) l 0).length<=33*cts l:=iM λy hy=>mp ((h.1 y hy).ok hR)
  refine Tot.eq (.bind (.app (by simp; omega)) λr hr=>.pure ?_)
  rw [hr]
  rfl
 obtain ⟨r,er,_,hr⟩:=vA hk hb
 rw [he] at er
 obtain rfl:=o9 er
 exact ⟨he,hr⟩
end
noncomputable section
theorem tA {α β ρ:Type} {f:List β×Int->Option ((List β×Int)⊕ρ)} {e:List β->ρ} {l:List α} {g:α->β} (hl:l.length<=4611686018427387904)
  (h:∀ (out:List β) (i:Int) (x:α),0<=i->i<l.length->l[i.toNat]?=some x->x∈l->out.length<=l.length->f (out,i)=some (.inl (out++[g x],w64 (i+1))))
  (he:∀ out,f (out,(l.length:Int))=some (.inr (e out))):aI f ([],0)=some (e (l.map g)):=by
 refine Tot.eq (.iter (λs=>0<=s.2/\s.2<=(l.length:Int)/\s.1=(l.take s.2.toNat).map g) (λs=>((l.length:Int)-s.2).toNat) ⟨by simp,by simp,by simp⟩ λs hs=>?_)
 obtain ⟨out,i⟩:=s
 obtain ⟨g0,g1,g2⟩:=hs
 simp only at g0 g1 g2
 by_cases hlt:i<l.length
 ·obtain ⟨x,hx⟩:∃ x,l[i.toNat]?=some x:=⟨_,List.getElem?_eq_getElem (by omega)⟩
  rw [h out i x g0 hlt hx (List.mem_of_getElem? hx) (by rw [g2]; simp; omega),ao g0 (by omega)]
  refine .inl ⟨⟨by simp only; omega,by simp only; omega,?_⟩,by simp only; omega⟩
  simp only
  rw [g2,show (i+1).toNat=i.toNat+1 by omega,List.take_add_one,hx]
  simp
 ·obtain rfl:i=l.length:=by omega
  rw [he out,g2]
  refine .inr ?_
  rw [List.take_of_length_le (by omega)]
def oF (t:Int) (c:List ab):List ab:=((bD c t).getD ([],false)).1
def pF (c:List ab):List ab:=((dn c).getD ([],false)).1
theorem uo {t:Int} (h0:0<=t) (h4:t<=4) {c:List ab} (hc:COk c):bD c t=some (oF t c,true)/\bX c t=some (oF t c,true)/\COk (oF t c)/\(oF t c).length<=c.length:=by
 obtain ⟨r,h1,h2,h3,h5⟩:=vD hc h0 h4
 have:oF t c=r:=by unfold oF; rw [h1]; rfl
 rw [this]
 exact ⟨h1,h2,h3,h5⟩
theorem wZ {c:List ab} (hc:COk c):dn c=some (pF c,true)/\ga c=some (pF c,true)/\COk (pF c)/\(pF c).length<=c.length:=by
 obtain ⟨r,h1,h2,h3,h5⟩:=yC hc
 have:pF c=r:=by unfold pF; rw [h1]; rfl
 rw [this]
 exact ⟨h1,h2,h3,h5⟩
def PB (p:aA):Prop:=p.Rooms.length<=2000000/\(∀ l∈p.Tasks,cts l<=2000000)/\p.Tasks.length<=2000000
theorem VP.tasks {p:aA} (h:VP p):∀ l∈p.Tasks,VL p.Rooms.length l:=h.2.2
theorem VP.rooms {p:aA} (h:VP p):(p.Rooms.length:Int)<=3:=by have:=h.1.2; omega
theorem yE {k:Nat} (hk:20<=k) {p:aA} (hb:PB p):(VP p/\cK k p=some (p.Tasks.map eL,true)/\cM k p=some (p.Tasks.map eL,true))\/(¬ VP p/\cK k p=some ([],false)/\cM k p=some ([],false)):=by
 obtain ⟨b1,e1,h1⟩:=xy hk hb.1 hb.2.1 hb.2.2
 obtain ⟨b2,e2,h2⟩:=xz hk hb.1 hb.2.1 hb.2.2
 have ee:(⟨p.Rooms,p.Tasks⟩:aA)=p:=rfl
 unfold cK cM
 rw [ee,e1,e2,ob9,ob9]
 by_cases hv:VP p
 ·refine .inl ⟨hv,?_,?_⟩
  ·rw [h1.2 hv,bB (show (!true)=false from rfl),tA (l:=p.Tasks) (g:=eL) (e:=id) (by have:=hb.2.2; omega) (λout i x g0 g1 hx hm ho=>?_) λout=>?_]
   ·rfl
   ·unfold dM
    rw [eP (by simpa using g1),show nth p.Tasks i=some x by unfold nth; rw [if_neg (by omega)]; exact hx,ob9,tz hk hv.rooms (hv.tasks x hm),ob9]
    have h3:=hv.2.1.2
    exact Tot.eq (.bind (.app (by simp; omega)) λr hr=>.pure (by rw [hr]))
   ·unfold dM
    exact bB (by simp)
  ·rw [h2.2 hv,bB (show (!true)=false from rfl),tA (l:=p.Tasks) (g:=eL) (e:=id) (by have:=hb.2.2; omega) (λout i x g0 g1 hx hm ho=>?_) λout=>?_]
   ·rfl
   ·unfold dP
    rw [eP (by simpa using g1),show nth p.Tasks i=some x by unfold nth; rw [if_neg (by omega)]; exact hx,ob9,(qb hk hv.rooms (hv.tasks x hm)).1,ob9]
    have h3:=hv.2.1.2
    exact Tot.eq (.bind (.app (by simp; omega)) λr hr=>.pure (by rw [hr]))
   ·unfold dP
    exact bB (by simp)
 ·refine .inr ⟨hv,?_,?_⟩
  ·rw [show b1=false by cases b1; rfl; exact absurd (h1.1 rfl) hv]
   exact eP rfl
  ·rw [show b2=false by cases b2; rfl; exact absurd (h2.1 rfl) hv]
   exact eP rfl
theorem zp {l:List (List ab)} (hl:1<=l.length/\l.length<=3) (hc:∀ c∈l,COk c) (t:Int):((0<=t/\t<=4)/\cX l t=some (l.map (oF t),true)/\db l t=some (l.map (oF t),true))\/(¬ (0<=t/\t<=4)/\cX l t=some ([],false)/\db l t=some ([],false)):=by
 have hg1:((decide ((l.length:Int)<1))||(decide ((l.length:Int)>3)))=false:=by simp; omega
 have hg2:bp (l.length:Int) 1 3=some true:=by unfold bp; simp; omega
 by_cases ht:0<=t/\t<=4
 ·refine .inl ⟨ht,?_,?_⟩
  ·unfold cX
   rw [bB hg1,tA (l:=l) (g:=oF t) (e:=λx=>.inr x) (by omega) (λout i x g0 g1 hx hm ho=>?_) λout=>?_]
   ·rfl
   ·unfold cL
    rw [eP (by simpa using g1),show nth l i=some x by unfold nth; rw [if_neg (by omega)]; exact hx,ob9,(uo ht.1 ht.2 (hc x hm)).1,ob9,bB (by rfl)]
    exact Tot.eq (.bind (.app (by simp; omega)) λr hr=>.pure (by rw [hr]))
   ·unfold cL
    exact bB (by simp)
  ·unfold db
   rw [hg2,ob9,bB (show (!true)=false from rfl),tA (l:=l) (g:=oF t) (e:=λx=>.inr x) (by omega) (λout i x g0 g1 hx hm ho=>?_) λout=>?_]
   ·rfl
   ·unfold cN
    rw [eP (by simpa using g1),show nth l i=some x by unfold nth; rw [if_neg (by omega)]; exact hx,ob9,(uo ht.1 ht.2 (hc x hm)).2.1,ob9,bB (by rfl)]
    exact Tot.eq (.bind (.app (by simp; omega)) λr hr=>.pure (by rw [hr]))
   ·unfold cN
    exact bB (by simp)
 ·obtain ⟨c,hcx⟩:∃ c,l[0]?=some c:=⟨_,List.getElem?_eq_getElem (by omega)⟩
  have hck:=hc c (List.mem_of_getElem? hcx)
  have hmx:=hck.max
  have ht':t<0\/4<t:=by omega
  obtain ⟨b1,b2⟩:=uR (eQ:=c) (t:=t) (by omega) (.inr ht')
  have h0:nth l 0=some c:=hcx
  refine .inr ⟨ht,?_,?_⟩
  ·unfold cX
   rw [bB hg1,df,show cL l t ([],0)=some (.inr (.inl ([],false))) by
    unfold cL
    rw [eP (by simp; omega)]
    dsimp only
    rw [h0,ob9,b1,ob9]
    exact eP rfl]
   rfl
  ·unfold db
   rw [hg2,ob9,bB (show (!true)=false from rfl),df,show cN l t ([],0)=some (.inr (.inl ([],false))) by
    unfold cN
    rw [eP (by simp; omega)]
    dsimp only
    rw [h0,ob9,b2,ob9]
    exact eP rfl]
   rfl
def bF (t:Int) (l:List ae):List ab:=pF (oF t (eL l))
theorem AH {t:Int} (h0:0<=t) (h4:t<=4) {R:Int} (hR:R<=3) {l:List ae} (h:VL R l):COk (bF t l)/\(bF t l).length<=(eL l).length:=by
 have h1:=(qb (Nat.le_refl 20) hR h).2
 obtain ⟨_,_,h2,h3⟩:=uo h0 h4 h1
 obtain ⟨_,_,h5,h6⟩:=wZ h2
 exact ⟨h5,by unfold bF; omega⟩
theorem xA {k:Nat} (hk:20<=k) {p:aA} (hb:PB p) (t:Int):((VP p/\0<=t/\t<=4)/\eT k p t=some (p.Tasks.map (bF t),true)/\eV k p t=some (p.Tasks.map (bF t),true))\/(¬ (VP p/\0<=t/\t<=4)/\eT k p t=some ([],false)/\eV k p t=some ([],false)):=by
 have ee:(⟨p.Rooms,p.Tasks⟩:aA)=p:=rfl
 unfold eT eV
 rw [ee]
 rcases yE hk hb with ⟨hv,c1,c2⟩ | ⟨hv,c1,c2⟩
 ·have hn:=hv.2.1
  have hcs:∀ c∈p.Tasks.map eL,COk c:=λc hc=>by
   obtain ⟨l,hl,rfl⟩:=List.mem_map.1 hc
   exact (qb hk hv.rooms (hv.tasks l hl)).2
  rw [c1,c2,ob9,ob9,bB (by rfl),bB (by rfl)]
  rcases zp (l:=p.Tasks.map eL) (by simpa using hn) hcs t with ⟨ht,o1,o2⟩ | ⟨ht,o1,o2⟩
  ·refine .inl ⟨⟨hv,ht⟩,?_,?_⟩
   ·rw [o1,ob9,bB (by rfl)]
    have hlen:((p.Tasks.map eL).map (oF t)).length=p.Tasks.length:=by simp
    have hok:∀ (i:Nat) (c:List ab),((p.Tasks.map eL).map (oF t))[i]?=some c->COk c:=λi c hc=>by
     obtain ⟨x,hx,rfl⟩:=List.mem_map.1 (List.mem_of_getElem? hc)
     exact (uo ht.1 ht.2 (hcs x hx)).2.2.1
    have hmm:((p.Tasks.map eL).map (oF t)).map pF=p.Tasks.map (bF t):=by simp [bF]
    rw [<-hmm]
    generalize (p.Tasks.map eL).map (oF t)=L at hlen hok
    refine Tot.eq (.bind (P:=λz=>z=.inr (L.map pF)) (.iter (λs=>0<=s.1/\s.1<=(L.length:Int)/\s.2=(L.take s.1.toNat).map pF++L.drop s.1.toNat) (λs=>((L.length:Int)-s.1).toNat) ⟨by simp,by simp,by simp⟩ λs hs=>?_) λz hz=>by rw [hz]; exact .pure rfl)
    obtain ⟨i,a⟩:=s
    obtain ⟨g0,g1,g2⟩:=hs
    simp only at g0 g1 g2
    unfold j2
    refine .sel (λh=>?_) λh=>.inr ?_
    ·simp only [decide_eq_true_eq] at h
     obtain ⟨c,hc⟩:∃ c,L[i.toNat]?=some c:=⟨_,List.getElem?_eq_getElem (by omega)⟩
     have htl:((L.take i.toNat).map pF).length=i.toNat:=by simp; omega
     have hdr:L.drop i.toNat=c::L.drop (i.toNat+1):=by
      rw [List.drop_eq_getElem_cons (by omega)]
      rw [List.getElem?_eq_getElem (by omega)] at hc
      rw [o9 hc]
     have hna:nth a i=some c:=by
      unfold nth
      rw [if_neg (by omega),g2,List.getElem?_append_right (by omega),htl,Nat.sub_self,hdr]
      rfl
     dsimp only
     rw [hna,ob9,(wZ (hok _ c hc)).1,ob9]
     refine .sf rfl (.inl ?_)
     rw [ao g0 (by omega)]
     refine ⟨⟨by simp only; omega,by simp only; omega,?_⟩,by simp only; omega⟩
     simp only
     rw [g2,List.set_append_right _ _ (by omega),htl,Nat.sub_self,hdr,show (i+1).toNat=i.toNat+1 by omega,List.take_add_one,hc]
     simp
    ·simp only [decide_eq_false_iff_not] at h
     rw [g2,List.take_of_length_le (by omega),List.drop_eq_nil_of_le (by omega)]
     simp
   ·rw [o2,ob9,bB (by rfl)]
    have hok:∀ c∈(p.Tasks.map eL).map (oF t),COk c:=λc hc=>by
     obtain ⟨x,hx,rfl⟩:=List.mem_map.1 hc
     exact (uo ht.1 ht.2 (hcs x hx)).2.2.1
    have hlen:((p.Tasks.map eL).map (oF t)).length=p.Tasks.length:=by simp
    have hmm:((p.Tasks.map eL).map (oF t)).map pF=p.Tasks.map (bF t):=by simp [bF]
    rw [<-hmm]
    generalize (p.Tasks.map eL).map (oF t)=L at hlen hok
    rw [tA (l:=L) (g:=pF) (e:=id) (by omega) (λout i x g0 g1 hx hm ho=>?_) λout=>?_]
    ·rfl
    ·unfold gG
     rw [eP (by simpa using g1),show nth L i=some x by unfold nth; rw [if_neg (by omega)]; exact hx,ob9,(wZ (hok x hm)).2.1,ob9]
     exact Tot.eq (.bind (.app (by simp; omega)) λr hr=>.pure (by rw [hr]))
    ·unfold gG
     exact bB (by simp)
  ·refine .inr ⟨λh=>ht h.2,?_,?_⟩
   ·rw [o1,ob9]; exact eP rfl
   ·rw [o2,ob9]; exact eP rfl
 ·refine .inr ⟨λh=>hv h.1,?_,?_⟩
  ·rw [c1,ob9]; exact eP rfl
  ·rw [c2,ob9]; exact eP rfl
end
noncomputable section
variable {b:List Int} {p m:Int}
def AW (q:aA):Prop:=q.Rooms.length<=3/\(1<=q.Tasks.length/\q.Tasks.length<=3)/\∀ l∈q.Tasks,cts l<=1000
theorem yF (hb:By b) (h0:0<=p) (hm:p<=m) (hp:m<=900000):Dr (jt ⟨b,p⟩) (m+4) λl=>l.length<=3:=by
 unfold jt
 refine .bind (bN hb h0 hm (by omega) (by omega) (by omega)) λx p1 hx h1 h2=>.tot (.nth hx.1 (by simpa using hx.2)) λn ⟨_,hn⟩=>?_
 have hn3:0<=n/\n<=3:=by
  simp at hn
  omega
 refine .tot (P:=λz=>0<=z.2/\z.2<=m+4/\z.1.length<=3) (.iter (λs=>0<=s.2.1/\s.2.1<=n/\(s.1.length:Int)=s.2.1/\0<=s.2.2/\s.2.2<=m+1+s.2.1) (λs=>(n-s.2.1).toNat) ⟨by simp,by simp only; omega,by simp,h1,by simp only; omega⟩ λs hs=>?_) λz hz=>.pure hz.2.2 hz.1 hz.2.1
 obtain ⟨out,i,q⟩:=s
 obtain ⟨g0,g1,g2,g3,g4⟩:=hs
 simp only at g0 g1 g2 g3 g4
 unfold kV
 refine .sel (λh=>?_) λh=>.inr ⟨g3,(show q<=m+4 by omega),(show out.length<=3 by omega)⟩
 simp only [decide_eq_true_eq] at h
 refine .bind (bN hb g3 g4 (by omega) (by omega) (by omega)) λy hy=>.bind (.nth hy.2.2.1 (by simpa using hy.2.2.2)) λw _=>.bind (.app (by simp; omega)) λr hr=>.inl ?_
 subst hr
 rw [ao g0 (by omega)]
 have hy1:=hy.2.1
 exact ⟨⟨by simp only; omega,by simp only; omega,by simp; omega,hy.1,by simp only; omega⟩,by simp only; omega⟩
theorem ws (hb:By b) {k:Nat} (hk:20<=k) (h0:0<=p) (hm:p<=m) (hp:m<=900000):Dr (gN k ⟨b,p⟩) (m+1000) λs=>ct s<=100:=by
 unfold gN
 rw [show cy 0 1=some (Expr.mk 0 1 []) from rfl,ob9]
 refine .bind (bN hb h0 hm (by omega) (by omega) (by omega)) λx p1 hx h1 h2=>?_
 have e1:x*tc 1<=2*tc 1:=Int.mul_le_mul_of_nonneg_right (by omega) (by decide)
 have e2:(2:Int)*tc 1=600:=by decide
 dsimp only
 refine .bind (vz hb (nb:=0) (by omega) 1 (by omega) k (by omega) h1 h2 (by omega) (by omega) (by omega)) λl p2 hl h3 h4=>.pure ?_ h3 (by omega)
 have e3:x.toNat*sc 1<=2*sc 1:=Nat.mul_le_mul_right _ (by omega)
 have e4:2*sc 1=22:=by decide
 have:=hl.2
 rw [mB]
 simp only [cts]
 omega
theorem wt (hb:By b) {k:Nat} (hk:20<=k) (h0:0<=p) (hm:p<=m) (hp:m<=100000):Dr (gO k ⟨b,p⟩) (m+200000) AW:=by
 unfold gO
 refine .bind (yF hb h0 hm (by omega)) λR p1 hR h1 h2=>.bind (bN hb h1 h2 (by omega) (by omega) (by omega)) λx p2 hx h3 h4=>?_
 refine .tot (P:=λz=>(0<=z.1/\z.1<=m+5+120000)/\(1<=z.2.length/\z.2.length<=3)/\∀ l∈z.2,cts l<=1000) (.iter (λs=>0<=s.1/\s.1<=1+x/\(s.2.2.length:Int)=s.1/\(0<=s.2.1/\s.2.1<=m+5+40000*s.1)/\∀ l∈s.2.2,cts l<=1000) (λs=>(1+x-s.1).toNat) ⟨by simp,by simp only; omega,by simp,⟨h3,by simp only; omega⟩,by simp⟩ λs hs=>?_) λz hz=>.bind (bN (m:=m+5+120000) hb hz.1.1 hz.1.2 (by omega) (by omega) (by omega)) λy p3 hy h5 h6=>.sel (λ_=>?_) λ_=>.pure ⟨hR,hz.2.1,hz.2.2⟩ h5 (by omega)
 ·obtain ⟨i,q,out⟩:=s
  obtain ⟨g0,g1,g2,⟨g3,g4⟩,g5⟩:=hs
  simp only at g0 g1 g2 g3 g4 g5
  unfold jY
  dsimp only
  rw [aR (i:=1+x) (by omega) (by omega)]
  refine .sel (λh=>?_) λh=>.inr ⟨⟨g3,(show q<=m+5+120000 by simp only [decide_eq_false_iff_not] at h; omega)⟩,(show 1<=out.length/\out.length<=3 by simp only [decide_eq_false_iff_not] at h; omega),g5⟩
  simp only [decide_eq_true_eq] at h
  refine .bind (yh hb (by omega) hk g3 g4 (by omega)) λy hy=>.bind (.app (by simp; omega)) λr hr=>.inl ?_
  subst hr
  rw [ao g0 (by omega)]
  have hy1:=hy.2.1
  refine ⟨⟨by simp only; omega,by simp only; omega,by simp; omega,⟨hy.1,by simp only; omega⟩,λl hl=>?_⟩,by simp only; omega⟩
  simp only [List.mem_append,List.mem_singleton] at hl
  rcases hl with hl | rfl
  ·exact g5 l hl
  ·have:=hy.2.2.2; omega
 ·refine .bind (ws hb hk h5 h6 (by omega)) λs p4 hs h7 h8=>.tot (.nth (by omega) (by have:=hz.2.1.1; omega)) λ_ _=>.pure ⟨hR,?_,λl hl=>?_⟩ h7 (by omega)
  ·simp only [List.length_set]; exact hz.2.1
  ·rcases mA hl with h | rfl
   ·exact hz.2.2 l h
   ·simp only [cts]
    have he:ct (ae.mk s.Kind s.Var s.Box (Expr.mk s.Expr.Op s.Expr.N s.Expr.Args) s.Body s.Else)=ct s:=by rw [ae.eta']
    omega
theorem yG (hb:By b) {k:Nat} (hk:20<=k) (h0:0<=p) (hm:p<=m) (hp:m<=100000):Dr (jv k ⟨b,p⟩) (m+300000) λq=>PB q:=by
 unfold jv
 refine .bind (wt hb hk h0 hm hp) λpr p1 hpr h1 h2=>.bind (bN hb h1 h2 (by omega) (by omega) (by omega)) λx p2 hx h3 h4=>?_
 obtain ⟨o1,o2,o3⟩:=hpr
 have PBo:PB ⟨pr.Rooms,pr.Tasks⟩:=⟨by simp only; omega,λl hl=>by have:=o3 l hl; omega,by simp only; omega⟩
 have get0:Tot (nth pr.Tasks 0) λl=>cts l<=1000/\l∈pr.Tasks:=(Tot.nth (by omega) (by omega)).mono λl hl=>⟨o3 l hl.2,hl.2⟩
 refine .sel (λ_=>?_) λ_=>.sel (λ_=>?_) λ_=>.sel (λ_=>?_) λ_=>.sel (λ_=>?_) λ_=>.sel (λ_=>?_) λ_=>.pure PBo h3 (by omega)
 ·refine .bind (bN hb h3 h4 (by omega) (by omega) (by omega)) λy p3 hy h5 h6=>.tot (.nth hy.1 (by simpa using hy.2)) λw _=>.tot (.app (by simp only [List.length_singleton]; omega)) λr hr=>.pure ⟨?_,PBo.2⟩ h5 (by omega)
  subst hr
  simp; omega
 ·refine .bind (wP hb h3 h4 (by omega)) λe p3 he h5 h6=>.tot (.app (by simp; omega)) λr hr=>.pure ⟨PBo.1,λl hl=>?_,?_⟩ h5 (by omega)
  ·subst hr
   simp only [List.mem_append,List.mem_singleton] at hl
   rcases hl with hl | rfl
   ·exact PBo.2.1 l hl
   ·simp [cts,ct]
  ·subst hr
   simp; omega
 ·exact .pure ⟨PBo.1,by simp,by simp⟩ h3 (by omega)
 ·refine .tot get0 λl hl=>.tot (.app (by simp; omega)) λr hr=>.pure ⟨PBo.1,λl' hl'=>?_,?_⟩ h3 (by omega)
  ·subst hr
   simp only [List.mem_append] at hl'
   rcases hl' with hl' | hl'
   ·exact PBo.2.1 l' hl'
   ·rw [(List.mem_replicate.1 hl').2]; have:=hl.1; omega
  ·subst hr
   simp; omega
 ·unfold eZ
  refine .tot get0 λl hl=>?_
  have hll:=gH l
  have hl1:=hl.1
  refine .tot (.app (by simp only [List.length_singleton]; omega)) λr hr=>.pure ⟨PBo.1,λl' hl'=>?_,?_⟩ h3 (by omega)
  ·rcases mA hl' with h | rfl
   ·exact PBo.2.1 l' h
   ·rw [hr,sH]
    simp [cts,ct]
    omega
  ·simp only [List.length_set]; omega
theorem tW {k:Nat} (hk:20<=k) {eQ:List Int} (h:∀ x∈eQ,0<=x/\x<=255):Tot (dF k eQ) λr=>PB r.1:=by
 unfold dF
 refine .bind (xT h) λr ⟨hb,hp⟩=>.bind (yG (m:=0) hb hk (by rw [hp]; omega) (by rw [hp]; omega) (by omega)) λz hz=>.bind (bN (m:=300000) hb hz.1 hz.2.1 (by omega) (by omega) (by omega)) λx hx=>.sel (λ_=>.pure hz.2.2) λ_=>.bind (bN (m:=300001) hb hx.1 (by have:=hx.2.1; omega) (by omega) (by omega) (by omega)) λy hy=>.pure hz.2.2
theorem zq {x y:ab}:((x.Op==y.Op)&&((x.Dst==y.Dst)&&((x.A==y.A)&&((x.B==y.B)&&((x.N==y.N)&&true)))))=true↔x=y:=by
 simp only [Bool.and_true,Bool.and_eq_true,beq_iff_eq]
 exact ⟨λ⟨h1,h2,h3,h4,h5⟩=>by cases x; cases y; simp_all,λh=>by subst h; simp⟩
theorem pf {c:List ab} (hl:c.length<=4611686018427387904):gX c c=some true:=by
 unfold gX
 rw [bB (by simp)]
 refine Tot.eq (.bind (mo (l:=c) (λ_=>True) hl (λi x h0 h1 hx hm=>?_) λi e=>?_) λz hz=>(nf hz).mono λb hb=>hb.2 ⟨λ_ _=>trivial,rfl⟩)
 ·unfold jf
  have e1:nth c i=some x:=by unfold nth; rw [if_neg (by omega)]; exact hx
  rw [eP (by simpa using h1),e1,ob9,ob9,zq.2 rfl]
  exact .pure (.inl ⟨trivial,rfl⟩)
 ·unfold jf
  exact bB (by simp [e])
theorem nS {c:List (List ab)} (hl:c.length<=4611686018427387904) (hc:∀ x∈c,x.length<=4611686018427387904):dv c c=some true:=by
 unfold dv
 rw [bB (by simp)]
 refine Tot.eq (.bind (mo (l:=c) (λ_=>True) hl (λi x h0 h1 hx hm=>?_) λi e=>?_) λz hz=>(nf hz).mono λb hb=>hb.2 ⟨λ_ _=>trivial,rfl⟩)
 ·unfold ib
  have e1:nth c i=some x:=by unfold nth; rw [if_neg (by omega)]; exact hx
  rw [eP (by simpa using h1),e1,ob9,ob9,pf (hc x hm),ob9]
  exact .pure (.inl ⟨trivial,rfl⟩)
 ·unfold ib
  exact bB (by simp [e])
theorem uT {k:Nat} (hk:20<=k) {R:Int} (hR:R<=3) {l:List ae} (h:VL R l):gb k l=some (eL l,true)/\gc k l=some ((eL l).length:Int):=by
 have h3:VL 3 l:=⟨λx hx=>(h.1 x hx).up hR,h.2⟩
 have hv:eW k l=some true:=by
  unfold eW
  have h2:=h.2
  refine Tot.eq (.bind (tt (k:=k) (by omega) (by omega) 3) λb hb=>.pure (hb.2 h3))
 constructor
 ·unfold gb
  rw [hv,ob9,bB (by rfl),tz hk hR h]
  rfl
 ·unfold gc
  rw [hv,ob9,bB (by rfl),tz hk hR h]
  rfl
theorem yH {l:List Int} (h:∀ x∈l,(λn=>(Lit.int .u8 n).wf=true) x):∀ x∈l,0<=x/\x<=255:=λx hx=>by
 have h1:(Lit.int .u8 x).wf=true:=h x hx
 simp [Lit.wf,IntKind.min,IntKind.max,IntKind.signed,IntKind.bits] at h1
 omega
theorem xB {k:Nat} (hk:20<=k) {eQ:List Int} (h:∀ x∈eQ,0<=x/\x<=255):ic k eQ=some true:=by
 refine Tot.eq ?_
 unfold ic
 refine .sel (λ_=>.pure rfl) λ_=>.bind (tW hk h) λd hb=>?_
 have ee:(⟨d.1.Rooms,d.1.Tasks⟩:aA)=d.1:=rfl
 rw [ee]
 rcases xA hk hb d.2 with ⟨⟨hv,ht⟩,e1,e2⟩ | ⟨_,e1,e2⟩
 ·have hn:=hv.2.1
  have hmem:∀ c∈d.1.Tasks.map (bF d.2),c.length<=600:=λc hc=>by
   obtain ⟨l,hl,rfl⟩:=List.mem_map.1 hc
   exact (AH ht.1 ht.2 hv.rooms (hv.tasks l hl)).1.max
  have hsame:dv (d.1.Tasks.map (bF d.2)) (d.1.Tasks.map (bF d.2))=some true:=nS (by simp; omega) λc hc=>by have:=hmem c hc; omega
  rw [e1,e2,ob9,ob9,hsame]
  refine .bind (P:=λb=>b=false) (.sf (by simp) (.pure rfl)) λb1 hb1=>?_
  subst hb1
  refine .sf rfl (.bind (mo (l:=d.1.Tasks) (λ_=>True) (by omega) (λi x h0 h1 hx hm=>?_) λi e=>?_) λz hz=>(nf hz).mono λb hb=>?_)
  ·unfold fw
   have hVL:=hv.tasks x hm
   obtain ⟨c1,c2⟩:=uT hk hv.rooms hVL
   have hck:=(qb hk hv.rooms hVL).2
   obtain ⟨o1,_,o3,o4⟩:=uo ht.1 ht.2 hck
   obtain ⟨p1,_,p3,p4⟩:=wZ o3
   have hx':nth (d.1.Tasks.map (bF d.2)) i=some (bF d.2 x):=by
    unfold nth
    rw [if_neg (by omega),List.getElem?_map,hx]
    rfl
   rw [eP (by simpa using h1),show nth d.1.Tasks i=some x by unfold nth; rw [if_neg (by omega)]; exact hx,ob9,c1,ob9,o1,ob9,p1,ob9]
   refine .bind (P:=λb=>b=false) (.sf (by rfl) ?_) λb3 hb3=>?_
   ·dsimp only
    rw [hx',ob9,show bF d.2 x=pF (oF d.2 (eL x)) from rfl,pf (by have:=p3.max; omega),ob9]
    exact .pure rfl
   ·subst hb3
    refine .bind (P:=λb=>b=false) (.sf rfl ?_) λb4 hb4=>.sf hb4 (.pure (.inl ⟨trivial,rfl⟩))
    rw [ob9,c2,ob9]
    refine .pure ?_
    simp only [decide_eq_false_iff_not]
    omega
  ·unfold fw
   exact bB (by simp [e])
  ·exact hb.2 ⟨λ_ _=>trivial,by simp⟩
 ·have hsame:dv [] []=some true:=nS (by simp) (by simp)
  rw [e1,e2,ob9,ob9,hsame]
  refine .bind (P:=λb=>b=false) (.sf (by simp) (.pure rfl)) λb1 hb1=>.st (by simp) (.bind (P:=λb=>b=true) (.st (by simp) (.pure rfl)) λb2 hb2=>.pure hb2)
end

end Go.Proofs.YtmjebmhcbnkojaaGreat.N
