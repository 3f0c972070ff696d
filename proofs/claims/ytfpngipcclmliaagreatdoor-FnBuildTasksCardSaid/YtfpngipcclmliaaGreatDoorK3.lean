/- Plain laws: FoldCode, CopyCode, JumpCode keep a eQ valid. Plain laws: DeadCode and SqueezeCode keep a eQ valid; a eQ is optimized. Plain laws: SqueezeCode -/
import Derived.Test.YtfpngipcclmliaaGreatDoorK2
set_option linter.unusedVariables false
set_option linter.unusedSimpArgs false
set_option maxRecDepth 100000
set_option maxHeartbeats 4000000
namespace Go.Proofs.YtfpngipcclmliaaGreatDoor.N
open Go.Proofs.YtfpngipcclmliaaGreatDoor.X
noncomputable section
theorem lX {f:List ab×Int->Option ((List ab×Int)⊕List ab)} {n:Nat} (P:Nat->ab->Prop) (hn:n<=600)
  (h:∀ (i:Int) (out:List ab),0<=i->i<n->out.length=i.toNat->Tot (f (out,i)) λz=>∃ q',z=.inl (out++[q'],i+1)/\P i.toNat q')
  (he:∀ out,f (out,(n:Int))=some (.inr out)):Tot (aO f ([],0)) λout=>out.length=n/\∀ i q',out[i]?=some q'->P i q':=by
 refine .iter (λs=>0<=s.2/\s.2<=(n:Int)/\s.1.length=s.2.toNat/\∀ i q',s.1[i]?=some q'->P i q') (λs=>((n:Int)-s.2).toNat) ⟨by simp,by simp,by simp,by simp⟩ λs hs=>?_
 obtain ⟨out,i⟩:=s
 obtain ⟨h0,h1,h2,h3⟩:=hs
 simp only at h0 h1 h2 h3
 by_cases hlt:i<n
 ·refine (h i out h0 hlt h2).mono λz hz=>?_
  obtain ⟨q',rfl,hp⟩:=hz
  refine ⟨⟨by simp only; omega,by simp only; omega,by simp [h2]; omega,λj q hj=>?_⟩,by simp only; omega⟩
  simp only at hj
  rcases Nat.lt_or_ge j out.length with hj' | hj'
  ·rw [List.getElem?_append_left hj'] at hj; exact h3 j q hj
  ·rw [List.getElem?_append_right hj'] at hj
   have:j=i.toNat:=by
    rcases Nat.eq_zero_or_pos (j-out.length) with h | h
    ·omega
    ·rw [List.getElem?_eq_none (by simp; omega)] at hj; cases hj
   subst this
   rw [h2,Nat.sub_self] at hj
   simp only [List.getElem?_cons_zero,Option.some.injEq] at hj
   exact hj▸hp
 ·have:i=n:=by omega
  subst this
  rw [he]
  exact .pure ⟨by omega,h3⟩
def C6 (eQ out:List ab):Prop:=out.length=eQ.length/\∀ (i:Nat) (q':ab),out[i]?=some q'->∃ q:ab,eQ[i]?=some q/\QOk eQ.length q'/\(q.Op=10\/q.Op=4->q'.Op=10\/q'.Op=4)
theorem COk.alike {eQ out:List ab} (hc:COk eQ) (h:C6 eQ out):COk out:=by
 obtain ⟨h1,h2⟩:=h
 refine ⟨by rw [h1]; exact hc.one,by rw [h1]; exact hc.max,λq hq=>?_,?_⟩
 ·obtain ⟨j,hj,rfl⟩:=List.getElem_of_mem hq
  obtain ⟨_,_,h3,_⟩:=h2 j _ (List.getElem?_eq_getElem hj)
  rw [h1]; exact h3
 ·obtain ⟨x,hx,hx'⟩:=hc.last
  have hlt:eQ.length-1<out.length:=by have:=hc.one; omega
  obtain ⟨q,hq,_,h4⟩:=h2 (eQ.length-1) _ (List.getElem?_eq_getElem hlt)
  rw [List.getLast?_eq_getElem?] at hx
  rw [hx] at hq
  injection hq with hq
  subst hq
  exact ⟨_,by rw [List.getLast?_eq_getElem?,h1]; exact List.getElem?_eq_getElem hlt,h4 hx'⟩
theorem Rg.lt {x:Int} (h:Rg x) {α:Type} {l:List α} (hl:l.length=12):0<=x/\x<l.length:=by unfold Rg at h; omega
theorem BH (l:List Int) (n:Int) (hl:l.length<=1000):Tot (mI l n) λb=>b=l.contains n:=by
 unfold mI
 refine .bind (P:=λz=>match z with | .inl b=>b=true/\n∈l | .inr _=>n∉l) (.iter (λi:Int=>0<=i/\i<=l.length/\∀ (j:Nat) (x:Int),(j:Int)<i->l[j]?=some x->x≠n) (λi=>(l.length-i).toNat) ⟨by omega,by omega,λj q h=>by omega⟩ λi ⟨h0,h1,h2⟩=>?_) λz hz=>?_
 ·unfold nv
  refine .sel (λh=>?_) λh=>.inr ?_
  ·simp only [decide_eq_true_eq] at h
   refine .bind (.nth h0 h) λx ⟨hx,hm⟩=>.sel (λhe=>.inr ?_) λhe=>.inl ?_
   ·simp only [beq_iff_eq] at he; subst he; exact ⟨rfl,hm⟩
   ·simp only [beq_eq_false_iff_ne,ne_eq] at he
    rw [aq h0 (by omega)]
    refine ⟨⟨by omega,by omega,λj y hj hy=>?_⟩,by omega⟩
    by_cases e:(j:Int)=i
    ·obtain rfl:j=i.toNat:=by omega
     rw [hx] at hy; injection hy with hy; exact hy▸he
    ·exact h2 j y (by omega) hy
  ·simp only [decide_eq_false_iff_not] at h
   intro hm
   obtain ⟨j,hj,rfl⟩:=List.getElem_of_mem hm
   exact h2 j _ (by omega) (List.getElem?_eq_getElem hj) rfl
 ·refine .both (λb e=>?_) λ_ e=>?_
  ·subst e; exact .pure (by rw [hz.1]; simpa using hz.2)
  ·subst e; exact .pure (by simpa using (show n∉l from hz))
theorem zg (f:aj) (n:Int):gf f n=some (f.Kind==1&&f.N==n):=rfl
theorem zh (n:Int) (l:List Int) (hl:l.length<=1000):Tot (fV n l) λb=>b=l.contains n:=.bind (BH l n hl) λb hb=>.pure hb
theorem BI {q:ab} {m:Int} {x y:aj} (hq:QOk m q) (h3:q.Op=3) (hx:FOk x) (hy:FOk y):Tot (jw q x y) (QOk m):=by
 have hv:=hq
 unfold QOk at hv
 simp [h3] at hv
 obtain ⟨hd,ha,hb,hn⟩:=hv
 have cp:∀ r,Rg r->QOk m (ab.mk 2 q.Dst r 0 0):=λr hr=>.inr (.inl ⟨rfl,hd,hr,rfl,rfl⟩)
 have ct:∀ r,Wd r->QOk m (ab.mk 1 q.Dst 0 0 r):=λr hr=>.inl ⟨rfl,hd,rfl,rfl,hr⟩
 have an:∀ (c:Bool) (l:List Int),l.length<=1000->Tot ((sel c ((fV q.N l).bind λy3=>some y3) (some false):Option Bool)) λ_=>True:=λc l hl=>.sel (λ_=>.bind (zh _ _ hl) λ_ _=>.pure trivial) λ_=>.pure trivial
 unfold jw
 simp only [zg,ob9]
 refine .bind (P:=λf=>f.Kind=1->Wd f.N) ?_ λf hf=>.sel (λh=>.pure (ct _ (hf (by simpa using h)))) λ_=>.bind (an _ _ (by simp)) λ_ _=>.sel (λ_=>.pure (cp _ ha)) λ_=>.bind (an _ _ (by simp)) λ_ _=>.sel (λ_=>.pure (cp _ ha)) λ_=>.bind (an _ _ (by simp)) λ_ _=>.sel (λ_=>.pure (cp _ hb)) λ_ =>
  .sel (λ_=>.pure (cp _ hb)) λ_=>.bind (P:=λ_=>True) (.sel (λ_=>.pure trivial) λ_=>.pure trivial) λ_ _=>.bind (an _ _ (by simp)) λ_ _=>.sel (λ_=>.pure (ct _ (by unfold Wd; omega))) λ_=>.pure hq
 unfold cw
 refine .sel (λ_=>.pure (by simp)) λhk=>?_
 simp only [Bool.or_eq_false_iff,bne_eq_false_iff_eq] at hk
 unfold FOk at hx hy
 have hxw:Wd x.N:=by rcases hx with h | h | h <;> first | exact h.2 | omega
 have hyw:Wd y.N:=by rcases hy with h | h | h <;> first | exact h.2 | omega
 exact .bind (sV hn hxw hyw) λr hr=>.pure λ_=>hr
theorem vl {eQ:List ab} (hc:COk eQ) {q:ab} {i:Int} (h0:0<=i) (hi:eQ[i.toNat]?=some q) {fs:List aj} (hf:vk fs):Tot (ew q fs i) λq'=>QOk eQ.length q'/\(q.Op=10\/q.Op=4->q'.Op=10\/q'.Op=4):=by
 have hv:=hc.q q (List.mem_of_getElem? hi)
 have hl:=hc.max
 have wd:∀ {f:aj},FOk f->f.Kind=1->Wd f.N:=λ{f} hx hk=>by unfold FOk at hx; rcases hx with h | h | h <;> first | exact h.2 | omega
 unfold ew
 refine .bind (.nth (by omega) (by rw [hf.1]; omega)) λ_ _=>.sel (λ_=>.pure ⟨hv,id⟩) λ_=>.sel (λh=>?_) λ_=>.sel (λh=>?_) λ_=>.sel (λh=>?_) λ_=>.pure ⟨hv,id⟩
 all_goals (simp only [beq_iff_eq] at h; have hw:=hv; unfold QOk at hw; simp [h] at hw)
 ·refine .bind (.nth (hw.2.1.lt hf.1).1 (hw.2.1.lt hf.1).2) λx ⟨hx,hm⟩=>.sel (λhk=>?_) λ_=>.pure ⟨hv,id⟩
  simp only [beq_iff_eq] at hk
  refine .bind (.nth (hw.2.1.lt hf.1).1 (hw.2.1.lt hf.1).2) λy ⟨hy,_⟩=>?_
  obtain rfl:x=y:=o9 (hx.symm.trans hy)
  exact .pure ⟨.inl ⟨rfl,hw.1,rfl,rfl,wd (hf.2 x hm) hk⟩,λh'=>by omega⟩
 ·refine .bind (.nth (hw.2.1.lt hf.1).1 (hw.2.1.lt hf.1).2) λx ⟨_,hx⟩=>.bind (.nth (hw.2.2.1.lt hf.1).1 (hw.2.2.1.lt hf.1).2) λy ⟨_,hy⟩=>.bind (BI hv h (hf.2 x hx) (hf.2 y hy)) λr hr=>.pure ⟨hr,λh'=>by omega⟩
 ·have hn:=hc.nxt hi (by omega) (by omega)
  refine .bind (.nth (hw.2.1.lt hf.1).1 (hw.2.1.lt hf.1).2) λx ⟨_,hx⟩=>?_
  rw [zg,ob9]
  refine .sel (λ_=>.pure ⟨.inr (.inr (.inr (.inl ⟨rfl,rfl,rfl,rfl,hw.2.2.2⟩))),λh'=>by omega⟩) λ_=>.bind (.nth (hw.2.1.lt hf.1).1 (hw.2.1.lt hf.1).2) λy _=>.sel (λ_=>.pure ⟨?_,λh'=>by omega⟩) λ_=>.pure ⟨hv,id⟩
  rw [aq h0 (by omega)]
  exact .inr (.inr (.inr (.inl ⟨rfl,rfl,rfl,rfl,by simp only; omega,by simp only; omega⟩)))
def sW (f:List ab->Option (List ab×Bool)):Prop:=∀ {eQ:List ab},COk eQ->Tot (f eQ) λr=>COk r.1/\r.2=true/\r.1.length<=eQ.length
theorem xy:sW gg:=λ{eQ} hc=>by
 unfold gg
 rw [aU hc,ob9]
 have hl:=hc.max
 refine .sf rfl (.bind (zL hc) λfs hfs=>.bind (lX (n:=eQ.length) (λi q'=>∃ q:ab,eQ[i]?=some q/\QOk eQ.length q'/\(q.Op=10\/q.Op=4->q'.Op=10\/q'.Op=4)) hc.max (λi out h0 h1 h2=>?_) λout=>?_) λout ho=>.pure ⟨hc.alike ho,rfl,by rw [ho.1]; exact Nat.le_refl _⟩)
 ·unfold dv
  refine .st (by simpa using h1) (.bind (.nth h0 (by rw [hfs.1]; exact h1)) λl ⟨_,hm⟩=>.bind (.nth h0 h1) λq ⟨hq,_⟩=>.bind (vl hc h0 hq (hfs.2 l hm)) λq' hq'=>.bind (.app (by simp [h2]; omega)) λr hr=>.pure ⟨q',?_,q,hq,hq'⟩)
  rw [aq h0 (by omega),hr]
 ·unfold dv; rw [aM (by simp)]
def vm:Nat->List Int->Nat
 | _,[]=>0
 | k,x::r=>(if x=(k:Int) then 0 else 1)+vm (k+1) r
theorem zi:∀ (l:List Int) (k:Nat),vm k l<=l.length
 | [],_=>Nat.le_refl _
 | x::r,k=>by have:=zi r (k+1); simp only [vm,List.length_cons]; split <;> omega
theorem xz:∀ {l:List Int} {k i:Nat} {a:Int},l[i]?=some a->a≠((k+i:Nat):Int)->vm k (l.set i ((k+i:Nat):Int))<vm k l
 | [],_,_,_,h,_=>by simp at h
 | x::r,k,0,a,h,hne=>by
  have:x=a:=by simpa using h
  subst this
  simp only [List.set_cons_zero,vm,Nat.add_zero] at *
  rw [if_pos trivial,if_neg hne]
  omega
 | x::r,k,i+1,a,h,hne=>by
  have e:k+(i+1)=(k+1)+i:=by omega
  rw [e] at hne ⊢
  have:=xz (l:=r) (k:=k+1) (i:=i) (by simpa using h) hne
  simp only [List.set_cons_succ,vm]
  omega
def ma (l:List Int):Prop:=l.length=12/\∀ x∈l,Rg x
def C7 (l:List Int):Prop:=l=[]\/ma l
def nc (n:Nat) (all:List (List Int)):Prop:=all.length=n/\∀ l∈all,C7 l
def cm (l:List Int):Nat:=if l=[] then 13 else vm 0 l
def cam (all:List (List Int)):Nat:=(all.map cm).sum
theorem ma.set {l:List Int} {i:Nat} {x:Int} (h:ma l) (hx:Rg x):ma (l.set i x):=⟨by rw [List.length_set]; exact h.1,λg hg=>(nR hg).elim (h.2 g) λe=>e▸hx⟩
theorem nc.set {n:Nat} {all:List (List Int)} {i:Nat} {l:List Int} (h:nc n all) (hl:C7 l):nc n (all.set i l):=⟨by rw [List.length_set]; exact h.1,λg hg=>(nR hg).elim (h.2 g) λe=>e▸hl⟩
theorem ma.ne {l:List Int} (h:ma l):l≠[]:=by rintro rfl; have:=h.1; simp at this
theorem ma.cm {l:List Int} (h:ma l):cm l=vm 0 l/\cm l<=12:=by
 unfold N.cm
 rw [if_neg h.ne]
 exact ⟨rfl,by have:=zi l 0; rw [h.1] at this; exact this⟩
theorem xA:Tot fW ma:=by
 unfold fW
 refine .bind (P:=ma) (.iter (λs=>0<=s.2/\s.2<=12/\s.1.length=s.2.toNat/\∀ x∈s.1,Rg x) (λs=>(12-s.2).toNat) ⟨by simp,by simp,by simp,by simp⟩ λs hs=>?_) λr hr=>.pure hr
 obtain ⟨l,i⟩:=s
 obtain ⟨g0,g1,g2,g3⟩:=hs
 simp only at g0 g1 g2 g3
 unfold kN
 refine .sel (λh=>?_) λh=>.inr (show ma l from ?_)
 ·simp only [decide_eq_true_eq] at h
  refine .bind (.app (by simp [g2]; omega)) λr hr=>.inl ?_
  subst hr
  rw [aq g0 (by omega)]
  refine ⟨⟨by simp only; omega,by simp only; omega,by simp [g2]; omega,λx hx=>?_⟩,by simp only; omega⟩
  simp only [List.mem_append,List.mem_singleton] at hx
  rcases hx with h | rfl
  ·exact g3 x h
  ·unfold Rg; omega
 ·simp only [decide_eq_false_iff_not] at h
  exact ⟨by omega,g3⟩
theorem QOk.mono {q:ab} {m m':Int} (h:QOk m q) (hm:m<=m'):QOk m' q:=by
 unfold QOk at *
 rcases h with h | h | h | h | h | h | h | h | h
 ·exact .inl h
 ·exact .inr (.inl h)
 ·exact .inr (.inr (.inl h))
 ·exact .inr (.inr (.inr (.inl ⟨h.1,h.2.1,h.2.2.1,h.2.2.2.1,h.2.2.2.2.1,by omega⟩)))
 ·exact .inr (.inr (.inr (.inr (.inl ⟨h.1,h.2.1,h.2.2.1,h.2.2.2.1,h.2.2.2.2.1,by omega⟩))))
 ·exact .inr (.inr (.inr (.inr (.inr (.inl h)))))
 ·exact .inr (.inr (.inr (.inr (.inr (.inr (.inl h))))))
 ·exact .inr (.inr (.inr (.inr (.inr (.inr (.inr (.inl h)))))))
 ·exact .inr (.inr (.inr (.inr (.inr (.inr (.inr (.inr h)))))))
theorem wO (q:ab) {m:Int} (h:QOk m q) (hm:m<=600):cy q=some (if q.Op=1\/q.Op=2\/q.Op=3\/q.Op=7 then q.Dst else -1):=by
 have h6:QOk 600 q:=h.mono hm
 unfold cy
 rw [wN,decide_eq_true h6,ob9,Bool.not_true,aM rfl]
 by_cases h1:q.Op=1
 ·simp [h1,sel]
 by_cases h2:q.Op=2
 ·simp [h2,sel]
 by_cases h3:q.Op=3
 ·simp [h3,sel]
 by_cases h7:q.Op=7
 ·simp [h7,sel]
 rw [if_neg (by omega),aM (by simpa using h1),aM (by simpa using h2),aM (by simpa using h3),ob9,aM (by simpa using h7)]
theorem AM {q:ab} {m:Int} (h:QOk m q) (hm:m<=600):Tot (cy q) λr=>r = -1\/Rg r:=by
 refine .of (wO q h hm) ?_
 unfold QOk at h
 split
 ·rename_i h'; right; unfold Rg at *; omega
 ·exact .inl rfl
theorem yp {q:ab} {m:Int} {l:List Int} (hq:QOk m q) (hm:m<=600) (hl:ma l):Tot (gh q l) ma:=by
 unfold gh
 refine .bind (.app (by simp [hl.1])) λr hr=>?_
 rw [List.nil_append] at hr
 subst hr
 refine .bind (AM hq hm) λd hd=>.sel (λ_=>.pure hl) λhneg=>?_
 simp only [decide_eq_false_iff_not] at hneg
 have hd':Rg d:=hd.resolve_left (by omega)
 refine .bind (P:=ma) (.iter (λs=>0<=s.1/\s.1<=12/\ma s.2) (λs=>(12-s.1).toNat) ⟨by simp,by simp,hl⟩ λs hs=>?_) λl2 h2=>.bind (.nth (hd'.lt h2.1).1 (hd'.lt h2.1).2) λ_ _=>.bind (.upd (hd'.lt h2.1).1 (hd'.lt h2.1).2) λl3 h3=>?_
 ·obtain ⟨i,l'⟩:=s
  obtain ⟨g0,g1,g2⟩:=hs
  simp only at g0 g1 g2
  unfold jP
  refine .sel (λh=>?_) λ_=>.inr g2
  simp only [decide_eq_true_eq] at h
  have hi:0<=i/\i<l'.length:=by rw [g2.1]; omega
  refine .bind (P:=ma) (.bind (.nth hi.1 hi.2) λx _=>.sel (λ_=>.bind (.nth hi.1 hi.2) λ_ _=>.bind (.upd hi.1 hi.2) λr hr=>.pure ?_) λ_=>.pure g2) λr hr=>.inl ?_
  ·subst hr; exact g2.set (by unfold Rg; omega)
  ·rw [aq g0 (by omega)]; exact ⟨⟨by simp only; omega,by simp only; omega,hr⟩,by simp only; omega⟩
 ·subst h3
  have h3':=h2.set (i:=d.toNat) hd'
  refine .sel (λh=>?_) λ_=>.pure h3'
  simp only [beq_iff_eq] at h
  unfold QOk at hq; simp [h] at hq
  exact .bind (.nth (hd'.lt h3'.1).1 (hd'.lt h3'.1).2) λ_ _=>.bind (.upd (hd'.lt h3'.1).1 (hd'.lt h3'.1).2) λr hr=>.pure (hr▸h3'.set hq.2.1)
theorem yq {n:Nat} {all:List (List Int)} {i:Int} {cs:List Int} (h:nc n all) (h0:0<=i) (h1:i<n) (hf:ma cs):Tot (gi all i cs) λr=>nc n r.2/\cam r.2<=cam all/\(r.1=true->cam r.2<cam all):=by
 have hin:i<all.length:=by rw [h.1]; exact h1
 unfold gi
 refine .bind (.nth h0 hin) λl0 ⟨hl0,hm0⟩=>.sel (λhe=>?_) λhne=>?_
 ·refine .bind (.app (by simp [hf.1])) λr hr=>.pure ?_
  rw [List.nil_append] at hr
  subst hr
  have e0:l0=[]:=by simpa using he
  subst e0
  have e2:cam (all.set i.toNat r)+N.cm []=cam all+N.cm r:=oJ N.cm _ hl0
  have e3:N.cm []=13:=by decide
  have e4:=hf.cm.2
  exact ⟨h.set (.inr hf),by simp only; omega,λ_=>by simp only; omega⟩
 have hl0':ma l0:=(h.2 l0 hm0).resolve_left (by rintro rfl; simp at hne)
 refine .bind (.iter (λs=>0<=s.2.1/\s.2.1<=12/\nc n s.2.2/\(∃ l,s.2.2[i.toNat]?=some l/\ma l)/\cam s.2.2<=cam all/\(s.1=true->cam s.2.2<cam all)) (λs=>(12-s.2.1).toNat) ⟨by simp,by simp,h,⟨l0,hl0,hl0'⟩,by simp,by simp⟩ λs hs=>?_) λr (hr:nc n r.2/\cam r.2<=cam all/\(r.1=true->cam r.2<cam all))=>.pure hr
 obtain ⟨iU,r,a⟩:=s
 obtain ⟨g0,g1,g2,⟨l,hl,hlo⟩,g3,g4⟩:=hs
 simp only at g0 g1 g2 g3 g4 hl
 unfold jQ
 refine .sel (λhlt=>?_) λhlt=>.inr ⟨g2,g3,g4⟩
 simp only [decide_eq_true_eq] at hlt
 have hia:i<a.length:=by rw [g2.1]; exact h1
 have hrl:r<l.length:=by rw [hlo.1]; exact hlt
 refine .bind (P:=λz=>nc n z.2/\(∃ l,z.2[i.toNat]?=some l/\ma l)/\cam z.2<=cam all/\(z.1=true->cam z.2<cam all)) ?_ λz hz=>.inl ⟨⟨?_,?_,hz⟩,?_⟩
 ·refine .bind (.nth h0 hia) λl' ⟨hl',_⟩=>?_
  obtain rfl:l=l':=o9 (hl.symm.trans hl')
  refine .bind (.nth g0 hrl) λx ⟨hx,hxm⟩=>.bind (P:=λb=>b=true->x≠r) (.sel (λhne=>.bind (.nth g0 hrl) λ_ _=>.bind (.nth g0 (by rw [hf.1]; exact hlt)) λ_ _=>.pure λ_=>by simpa using hne) λ_=>.pure (by simp)) λb hb=>.sel (λhbt=>?_) λ_=>.pure ⟨g2,⟨l,hl,hlo⟩,g3,g4⟩
  have hxr:=hb hbt
  refine .bind (.nth h0 hia) λl' ⟨hl',_⟩=>?_
  obtain rfl:l=l':=o9 (hl.symm.trans hl')
  refine .bind (.nth g0 hrl) λ_ _=>.bind (.upd g0 hrl) λl2 hl2=>.pure ?_
  subst hl2
  have hr':Rg r:=by unfold Rg; omega
  have hset:=hlo.set (i:=r.toNat) hr'
  have e1:vm 0 (l.set r.toNat r)<vm 0 l:=by
   have:=xz (l:=l) (k:=0) (i:=r.toNat) hx (by omega)
   rwa [show ((0+r.toNat:Nat):Int)=r by omega] at this
  have e2:cam (a.set i.toNat (l.set r.toNat r))+N.cm l=cam a+N.cm (l.set r.toNat r):=oJ N.cm _ hl
  rw [hlo.cm.1,hset.cm.1] at e2
  exact ⟨g2.set (.inr hset),⟨_,by simp only; rw [List.getElem?_set_self (by omega)],hset⟩,by simp only; omega,λ_=>by simp only; omega⟩
 all_goals (rw [aq g0 (by omega)]; simp only; omega)
theorem vn {eQ:List ab} {all:List (List Int)} (hc:COk eQ) (h:nc eQ.length all):Tot (gj eQ all) λr=>nc eQ.length r.2/\cam r.2<=cam all/\(r.1=true->cam r.2<cam all):=by
 unfold gj
 have hl:=hc.max
 refine .bind (.iter (λs=>0<=s.2.1/\s.2.1<=(eQ.length:Int)/\nc eQ.length s.2.2/\cam s.2.2<=cam all/\(s.1=true->cam s.2.2<cam all)) (λs=>((eQ.length:Int)-s.2.1).toNat) ⟨by simp,by simp,h,by simp,by simp⟩ λs hs=>?_) λr (hr:nc eQ.length r.2/\cam r.2<=cam all/\(r.1=true->cam r.2<cam all))=>.pure hr
 obtain ⟨iU,i,a⟩:=s
 obtain ⟨g0,g1,g2,g3,g4⟩:=hs
 simp only at g0 g1 g2 g3 g4
 unfold jS
 refine .sel (λhlt=>?_) λhlt=>.inr ⟨g2,g3,g4⟩
 simp only [decide_eq_true_eq] at hlt
 refine .bind (P:=λz=>nc eQ.length z.2/\cam z.2<=cam all/\(z.1=true->cam z.2<cam all)) ?_ λz hz=>.inl ⟨⟨?_,?_,hz⟩,?_⟩
 ·refine .bind (.nth g0 (by rw [g2.1]; exact hlt)) λl ⟨hl',hm⟩=>.sel (λ_=>.pure ⟨g2,g3,g4⟩) λhne=>?_
  have hlo:ma l:=(g2.2 l hm).resolve_left (by rintro rfl; simp at hne)
  refine .bind (vg hc g0 hlt) λes he=>.bind (.nth g0 hlt) λq ⟨hq,hqm⟩=>.bind (yp (hc.q q hqm) (by omega) hlo) λaf haf=>?_
  refine .bind (.iter (λs=>0<=s.2.1/\s.2.1<=(es.length:Int)/\nc eQ.length s.2.2/\cam s.2.2<=cam all/\(s.1=true->cam s.2.2<cam all)) (λs=>((es.length:Int)-s.2.1).toNat) ⟨by simp,by simp,g2,g3,g4⟩ λs hs=>?_) λr (hr:nc eQ.length r.2/\cam r.2<=cam all/\(r.1=true->cam r.2<cam all))=>.pure hr
  obtain ⟨fresh',j,a'⟩:=s
  obtain ⟨k0,k1,k2,k3,k4⟩:=hs
  simp only at k0 k1 k2 k3 k4
  unfold jR
  refine .sel (λhlt'=>?_) λ_=>.inr ⟨k2,k3,k4⟩
  simp only [decide_eq_true_eq] at hlt'
  refine .bind (P:=λz=>nc eQ.length z.2/\cam z.2<=cam all/\(z.1=true->cam z.2<cam all)) ?_ λz hz=>.inl ⟨⟨?_,?_,hz⟩,?_⟩
  ·refine .bind (.nth k0 hlt') λe ⟨_,hem⟩=>.bind (yq (all:=a') k2 (he.2 e hem).1 (he.2 e hem).2 haf) λr hr=>.sel (λhr1=>.pure ⟨hr.1,by simp only; omega,λ_=>by have:=hr.2.2 hr1; simp only; omega⟩) λ_=>.pure ⟨hr.1,by simp only; omega,λh=>by have:=k4 h; simp only; omega⟩
  all_goals (rw [aq k0 (by omega)]; simp only; omega)
 all_goals (rw [aq g0 (by omega)]; simp only; omega)
theorem yr {eQ:List ab} (hc:COk eQ):Tot (eN eQ) λall=>all.length=eQ.length/\∀ l∈all,ma l:=by
 unfold eN
 rw [aU hc,ob9]
 have hl:=hc.max
 have h1:=hc.one
 refine .sf rfl (.bind (P:=nc eQ.length) (.iter (λs=>0<=s.2/\s.2<=(eQ.length:Int)/\nc s.2.toNat s.1) (λs=>((eQ.length:Int)-s.2).toNat) ⟨by simp,by simp,by simp [nc]⟩ λs hs=>?_) λa0 ha0=>.bind xA λsf hsf=>.bind (.nth (by omega) (by rw [ha0.1]; omega)) λ_ _ =>
  .bind (P:=nc eQ.length) (.iter (λs=>nc eQ.length s) cam (ha0.set (.inr hsf)) λs hs=>?_) λa1 ha1=>.bind (P:=λall=>all.length=eQ.length/\∀ l∈all,ma l) (.iter (λs=>0<=s.1/\s.1<=(eQ.length:Int)/\nc eQ.length s.2/\∀ (j:Nat) l,(j:Int)<s.1->s.2[j]?=some l->ma l) (λs=>((eQ.length:Int)-s.1).toNat) ⟨by simp,by simp,ha1,λj l h=>by simp only at h; omega⟩ λs hs=>?_) λr hr=>.pure hr)
 ·obtain ⟨a,i⟩:=s
  obtain ⟨g0,g1,g2⟩:=hs
  simp only at g0 g1 g2
  unfold jT
  refine .sel (λhlt=>?_) λhlt=>.inr ?_
  ·simp only [decide_eq_true_eq] at hlt
   refine .bind (.app (by simp [g2.1]; omega)) λr hr=>.inl ?_
   subst hr
   rw [aq g0 (by omega)]
   refine ⟨⟨by simp only; omega,by simp only; omega,by simp [g2.1]; omega,λl hl'=>?_⟩,by simp only; omega⟩
   simp only [List.mem_append,List.mem_singleton] at hl'
   rcases hl' with h | rfl
   ·exact g2.2 l h
   ·exact .inl rfl
  ·simp only [decide_eq_false_iff_not] at hlt
   rw [show i.toNat=eQ.length by omega] at g2
   exact g2
 ·unfold jU
  exact .bind (vn hc hs) λr hr=>.sel (λh=>.inl ⟨hr.1,hr.2.2 h⟩) λ_=>.inr hr.1
 ·obtain ⟨i,a⟩:=s
  obtain ⟨g0,g1,g2,g3⟩:=hs
  simp only at g0 g1 g2 g3
  unfold jV
  refine .sel (λhlt=>?_) λhlt=>.inr (show a.length=eQ.length/\∀ l∈a,ma l from ?_)
  ·simp only [decide_eq_true_eq] at hlt
   have hia:i<a.length:=by rw [g2.1]; exact hlt
   refine .bind (P:=λz=>nc eQ.length z/\∀ (j:Nat) l,(j:Int)<i+1->z[j]?=some l->ma l) (.bind (.nth g0 hia) λl ⟨hl',hm⟩=>.sel (λhe=>.bind xA λsf hsf=>.pure ⟨g2.set (.inr hsf),λj l2 hj hl2=>?_⟩) λhne=>.pure ⟨g2,λj l2 hj hl2=>?_⟩) λz hz=>.inl ?_
   ·by_cases e:j=i.toNat
    ·subst e
     have hlt3:i.toNat<a.length:=by omega
     rw [List.getElem?_set_self hlt3] at hl2
     injection hl2 with hl2
     exact hl2▸hsf
    ·rw [List.getElem?_set_ne (λh=>e h.symm)] at hl2
     exact g3 j l2 (by omega) hl2
   ·by_cases e:j=i.toNat
    ·subst e
     rw [hl'] at hl2
     injection hl2 with hl2
     subst hl2
     exact (g2.2 l hm).resolve_left (by rintro rfl; simp at hne)
    ·exact g3 j l2 (by omega) hl2
   ·rw [aq g0 (by omega)]
    exact ⟨⟨by simp only; omega,by simp only; omega,hz⟩,by simp only; omega⟩
  ·simp only [decide_eq_false_iff_not] at hlt
   refine ⟨g2.1,λl hm=>?_⟩
   obtain ⟨j,hj,rfl⟩:=List.getElem_of_mem hm
   exact g3 j _ (by have:=g2.1; omega) (List.getElem?_eq_getElem hj)
theorem AN {q:ab} {m:Int} {cs:List Int} (hq:QOk m q) (hf:ma cs):Tot (ik q cs) λq'=>QOk m q'/\q'.Op=q.Op:=by
 have hv:=hq
 unfold QOk at hv
 unfold ik
 refine .bind (P:=λb=>b=true↔(q.Op=2\/q.Op=5\/q.Op=6\/q.Op=9)) (.sel (λh=>.pure ?_) λh=>.sel (λh'=>.pure ?_) λh'=>.sel (λh''=>.pure ?_) λh''=>.pure ?_) λb hb=>.sel (λhbt=>?_) λhbf=>.sel (λh=>?_) λ_=>.pure ⟨hq,rfl⟩
 ·simp only [beq_iff_eq] at *; simp [h]
 ·simp only [beq_iff_eq] at *; simp [h']
 ·simp only [beq_iff_eq] at *; simp [h'']
 ·simp only [beq_eq_false_iff_ne,ne_eq] at *; simp [h,h',h'']
 ·have ha:Rg q.A:=by have:=hb.1 hbt; unfold Rg at *; omega
  refine .bind (.nth (ha.lt hf.1).1 (ha.lt hf.1).2) λx ⟨_,hm⟩=>.pure ⟨?_,rfl⟩
  have hx:=hf.2 x hm
  rcases hb.1 hbt with h | h | h | h <;> simp [h] at hv <;> simp [QOk,h,hv,hx]
 ·simp only [beq_iff_eq] at h
  simp [h] at hv
  exact .bind (.nth (hv.2.1.lt hf.1).1 (hv.2.1.lt hf.1).2) λx ⟨_,hm⟩=>.bind (.nth (hv.2.2.1.lt hf.1).1 (hv.2.2.1.lt hf.1).2) λy ⟨_,hm'⟩=>.pure ⟨.inr (.inr (.inl ⟨h,hv.1,hf.2 x hm,hf.2 y hm',hv.2.2.2⟩)),rfl⟩
theorem xB:sW gk:=λ{eQ} hc=>by
 unfold gk
 rw [aU hc,ob9]
 have hl:=hc.max
 refine .sf rfl (.bind (yr hc) λcs hcs=>.bind (lX (n:=eQ.length) (λi q'=>∃ q:ab,eQ[i]?=some q/\QOk eQ.length q'/\(q.Op=10\/q.Op=4->q'.Op=10\/q'.Op=4)) hc.max (λi out h0 h1 h2=>?_) λout=>?_) λout ho=>.pure ⟨hc.alike ho,rfl,by rw [ho.1]; exact Nat.le_refl _⟩)
 ·unfold dw
  refine .st (by simpa using h1) (.bind (.nth h0 (by rw [hcs.1]; exact h1)) λl ⟨_,hm⟩=>.bind (.nth h0 h1) λq ⟨hq,hqm⟩=>.bind (AN (hc.q q hqm) (hcs.2 l hm)) λq' hq'=>.bind (.app (by simp [h2]; omega)) λr hr=>.pure ⟨q',?_,q,hq,hq'.1,λh=>by rw [hq'.2]; exact h⟩)
  rw [aq h0 (by omega),hr]
 ·unfold dw; rw [aM (by simp)]
theorem rh {eQ:List ab} (hc:COk eQ) {x:Int} (h0:0<=x) (h1:x<eQ.length):Tot (fh eQ x) λy=>0<=y/\y<eQ.length:=by
 have hl:=hc.max
 unfold fh
 refine .bind (P:=λz=>match z with | .inl y=>0<=y/\y<(eQ.length:Int) | .inr _=>True) (.iter (λs=>0<=s.2/\s.2<=(eQ.length:Int)/\0<=s.1/\s.1<(eQ.length:Int)) (λs=>((eQ.length:Int)-s.2).toNat) ⟨by simp,by simp,h0,h1⟩ λs hs=>?_) λz hz=>.both (λy e=>by subst e; exact .pure hz) λ_ _=>.pure ⟨h0,h1⟩
 obtain ⟨y,i⟩:=s
 obtain ⟨g0,g1,g2,g3⟩:=hs
 simp only at g0 g1 g2 g3
 unfold lP
 refine .sel (λhlt=>?_) λhlt=>.inr trivial
 simp only [decide_eq_true_eq] at hlt
 refine .bind (.nth g2 g3) λq ⟨hq,hm⟩=>.sel (λ_=>.inr ⟨g2,g3⟩) λh4=>.bind (.nth g2 g3) λq' ⟨hq',_⟩=>.inl ?_
 obtain rfl:q=q':=o9 (hq.symm.trans hq')
 simp only [bne_eq_false_iff_eq] at h4
 have hv:=hc.q q hm
 unfold QOk at hv
 simp [h4] at hv
 rw [aq g0 (by omega)]
 exact ⟨⟨by simp only; omega,by simp only; omega,hv.2.2.2.1,hv.2.2.2.2⟩,by simp only; omega⟩
theorem xC:sW gm:=λ{eQ} hc=>by
 unfold gm
 rw [aU hc,ob9]
 have hl:=hc.max
 refine .sf rfl (.bind (lX (n:=eQ.length) (λi q'=>∃ q:ab,eQ[i]?=some q/\QOk eQ.length q'/\(q.Op=10\/q.Op=4->q'.Op=10\/q'.Op=4)) hc.max (λi out h0 h1 h2=>?_) λout=>?_) λout ho=>.pure ⟨hc.alike ho,rfl,by rw [ho.1]; exact Nat.le_refl _⟩)
 ·unfold dx
  refine .st (by simpa using h1) (.bind (.nth h0 h1) λq ⟨hq,hqm⟩=>.bind (P:=λq'=>QOk eQ.length q'/\q'.Op=q.Op) ?_ λq' hq'=>.bind (.app (by simp [h2]; omega)) λr hr=>.pure ⟨q',?_,q,hq,hq'.1,λh=>by rw [hq'.2]; exact h⟩)
  ·have hv:=hc.q q hqm
   have hw:=hv
   unfold QOk at hw
   refine .sel (λh=>?_) λ_=>.pure ⟨hv,rfl⟩
   simp only [Bool.or_eq_true,beq_iff_eq] at h
   have hr:0<=q.N/\q.N<eQ.length:=by rcases h with h | h <;> simp [h] at hw <;> omega
   refine .bind (rh hc hr.1 hr.2) λy hy=>.pure ⟨?_,rfl⟩
   rcases h with h | h <;> simp [h] at hw <;> simp [QOk,h,hw,hy]
  ·rw [aq h0 (by omega),hr]
 ·unfold dx; rw [aM (by simp)]
end
noncomputable section
def nx (q:ab) (i:Int):List Int:=if q.Op=10 then [] else if q.Op=4 then [q.N] else if q.Op=5/\q.N<i+1 then [q.N,i+1] else if q.Op=5/\q.N>i+1 then [i+1,q.N] else [i+1]
theorem qk {eQ:List ab} {i:Int} {q:ab} (h0:0<=i) (hi:eQ[i.toNat]?=some q) (hl:i<=1000):dC eQ i=some (nx q i):=by
 refine Tot.eq ?_
 have hlt:i.toNat<eQ.length:=by
  rcases Nat.lt_or_ge i.toNat eQ.length with h | h
  ·exact h
  ·rw [List.getElem?_eq_none h] at hi; cases hi
 unfold dC
 refine .bind (.nth h0 (by omega)) λq' ⟨hq,_⟩=>?_
 obtain rfl:q=q':=o9 (hi.symm.trans hq)
 rw [aq h0 (by omega)]
 unfold nx
 refine .sel (λh=>.pure ?_) λe1=>.sel (λh=>.pure ?_) λe2=>.sel (λh=>.pure ?_) λe3=>.sel (λh=>.pure ?_) λe4=>.pure ?_
 all_goals simp only [beq_iff_eq,beq_eq_false_iff_ne,ne_eq,Bool.and_eq_true,Bool.and_eq_false_iff,decide_eq_true_eq,decide_eq_false_iff_not] at *
 ·rw [if_pos h]
 ·rw [if_neg e1,if_pos h]
 ·rw [if_neg e1,if_neg e2,if_pos h]
 ·rw [if_neg e1,if_neg e2,if_neg (by omega),if_pos h]
 ·rw [if_neg e1,if_neg e2,if_neg (by omega),if_neg (by omega)]
theorem rS {eQ:List ab} (hc:COk eQ) {i:Nat} {q:ab} (hi:eQ[i]?=some q):∀ x∈nx q i,0<=x/\x<eQ.length:=by
 have hlt:i<eQ.length:=by
  rcases Nat.lt_or_ge i eQ.length with h | h
  ·exact h
  ·rw [List.getElem?_eq_none h] at hi; cases hi
 have hm:=hc.max
 obtain ⟨l,e,h1,h2⟩:=vg hc (i:=i) (by omega) (by omega)
 rw [qk (by omega) (by simpa using hi) (by omega)] at e
 injection e with e
 exact e▸h2
def gM (q:ab):List Int:=if q.Op=2\/q.Op=5\/q.Op=6\/q.Op=9 then [q.A] else if q.Op=3 then (if q.A=q.B then [q.A] else [min q.A q.B,max q.A q.B]) else []
def aH (q:ab):Int:=if q.Op=1\/q.Op=2\/q.Op=3\/q.Op=7 then q.Dst else -1
theorem BJ {q:ab} {m:Int} (h:QOk m q) (hm:m<=600):kB q=some (gM q):=by
 refine Tot.eq ?_
 unfold kB gM
 rw [wN,decide_eq_true (h.mono hm),ob9]
 refine .sf rfl (.bind (P:=λb=>b=true↔(q.Op=2\/q.Op=5\/q.Op=6\/q.Op=9)) (.sel (λh=>.pure ?_) λh=>.sel (λh'=>.pure ?_) λh'=>.sel (λh''=>.pure ?_) λh''=>.pure ?_) λb hb=>.sel (λh=>.pure ?_) λh=>.sel (λh'=>.sel (λh''=>.pure ?_) λh''=>.pure ?_) λh'=>.pure ?_)
 all_goals try simp only [beq_iff_eq,beq_eq_false_iff_ne,ne_eq] at *
 ·simp [h]
 ·simp [h']
 ·simp [h'']
 ·simp [h,h',h'']
 ·rw [if_pos (hb.1 h)]
 ·rw [if_neg (λhh=>by rw [hb.2 hh] at h; cases h),if_pos h',if_pos h'']
 ·rw [if_neg (λhh=>by rw [hb.2 hh] at h; cases h),if_pos h',if_neg h'']
 ·rw [if_neg (λhh=>by rw [hb.2 hh] at h; cases h),if_neg h']
theorem wP {q:ab} {m:Int} (h:QOk m q):∀ x∈gM q,Rg x:=by
 intro x hx
 unfold gM at hx
 unfold QOk at h
 split at hx
 ·rename_i h'
  rw [List.mem_singleton.1 hx]
  unfold Rg at *; omega
 ·split at hx
  ·rename_i h3
   simp [h3] at h
   split at hx
   ·rw [List.mem_singleton.1 hx]; exact h.2.1
   ·simp only [List.mem_cons,List.not_mem_nil,or_false] at hx
    unfold Rg at *; omega
  ·simp at hx
theorem vo {q:ab} {m:Int} (h:QOk m q) (hm:m<=600):cy q=some (aH q):=wO q h hm
theorem mJ {q:ab} {m:Int} (h:QOk m q):aH q = -1\/Rg (aH q):=by
 unfold aH
 unfold QOk at h
 split
 ·right; unfold Rg at *; omega
 ·exact .inl rfl
def Fn (l:List Bool) (g:Nat->Bool):Prop:=l.length=12/\∀ k,k<12->l[k]?=some (g k)
theorem Fn.ext {l:List Bool} {g g':Nat->Bool} (h:Fn l g) (he:∀ k,k<12->g k=g' k):Fn l g':=⟨h.1,λk hk=>by rw [h.2 k hk,he k hk]⟩
theorem Fn.set {l:List Bool} {g:Nat->Bool} (h:Fn l g) (i:Nat) (b:Bool):Fn (l.set i b) (λk=>if k=i then b else g k):=⟨by rw [List.length_set]; exact h.1,λk hk=>by
 by_cases e:k=i
 ·subst e; have:k<l.length:=by rw [h.1]; exact hk
  rw [List.getElem?_set_self this]; simp
 ·rw [List.getElem?_set_ne (λh=>e h.symm),h.2 k hk]; simp [e]⟩
theorem Fn.rep (b:Bool):Fn (List.replicate 12 b) (λ_=>b):=⟨by simp,λk hk=>by rw [List.getElem?_replicate,if_pos hk]⟩
theorem Fn.of {l:List Bool} (h:l.length=12):Fn l (λk=>(l[k]?).getD false):=⟨h,λk hk=>by have h1:l[k]?=some (l[k]'(by omega)):=List.getElem?_eq_getElem (by omega); simp only [h1,Option.getD_some]⟩
theorem Fn.inj {l l':List Bool} {g:Nat->Bool} (h:Fn l g) (h':Fn l' g):l=l':=by
 apply List.ext_getElem?
 intro k
 rcases Nat.lt_or_ge k 12 with hk | hk
 ·rw [h.2 k hk,h'.2 k hk]
 ·rw [List.getElem?_eq_none (by rw [h.1]; exact hk),List.getElem?_eq_none (by rw [h'.1]; exact hk)]
def rT (n:Nat) (live:List (List Bool)):Prop:=live.length=n/\∀ l∈live,l.length=12
def lv (live:List (List Bool)) (x:Int) (r:Nat):Bool:=(((live[x.toNat]?).getD [])[r]?).getD false
theorem AO {live:List (List Bool)} {x:Int} {l:List Bool} (h:live[x.toNat]?=some l):(λr=>lv live x r)=λk=>(l[k]?).getD false:=by funext r; unfold lv; rw [h]; rfl
def fj (live:List (List Bool)) (q:ab) (i:Int) (r:Nat):Bool:=(nx q i).any λx=>lv live x r
theorem ny {eQ : List ab} (hc : COk eQ) {live : List (List Bool)} (hl : rT eQ.length live) {i : Int} {q : ab} (h0 : 0 ≤ i) (hi : eQ[i.toNat]? = some q) : Tot (gn eQ live i) fun l => Fn l (fj live q i) := by
  have hlt : i.toNat < eQ.length := by
    rcases Nat.lt_or_ge i.toNat eQ.length with h | h
    · exact h
    · rw [List.getElem?_eq_none h] at hi; cases hi
  have hmx := hc.max
  have hnx := rS hc hi
  rw [show ((i.toNat : Nat) : Int) = i by omega] at hnx
  have hlen : (nx q i).length ≤ 2 := by unfold nx; repeat' split
                                        all_goals simp
  unfold gn
  rw [qk h0 hi (by omega)]
  refine .bind (.mk (by omega) (by decide)) fun l0 hl0 => ?_
  subst hl0
  rw [ob9]
  refine .bind (P := fun l => Fn l (fj live q i)) (.iter (fun s => 0 ≤ s.1 ∧ s.1 ≤ ((nx q i).length : Int) ∧ Fn s.2 (fun r => ((nx q i).take s.1.toNat).any fun x => lv live x r)) (fun s => (((nx q i).length : Int) - s.1).toNat) ⟨by simp, by simp, ?_⟩ fun s hs => ?_) fun l h => .pure h
  · exact (Fn.rep false).ext fun k _ => by simp
  obtain ⟨j, l⟩ := s
  obtain ⟨g0, g1, g2⟩ := hs
  simp only at g0 g1 g2
  unfold mt
  refine .sel (fun hlt' => ?_) fun hge => .inr (show Fn l (fj live q i) from ?_)
  · simp only [decide_eq_true_eq] at hlt'
    have hj : j.toNat < (nx q i).length := by omega
    obtain ⟨x, hx⟩ : ∃ x, (nx q i)[j.toNat]? = some x := ⟨_, List.getElem?_eq_getElem hj⟩
    have hxm := hnx x (List.mem_of_getElem? hx)
    refine .bind (P := fun l' => Fn l' (fun r => ((nx q i).take (j + 1).toNat).any fun x => lv live x r)) (.iter (fun s => 0 ≤ s.1 ∧ s.1 ≤ 12 ∧ Fn s.2 (fun r => (((nx q i).take j.toNat).any fun x => lv live x r) || (decide ((r : Int) < s.1) && lv live x r))) (fun s => (12 - s.1).toNat) ⟨by simp, by simp, ?_⟩ fun s hs => ?_) fun l' h' => .inl ?_
    · refine g2.ext fun k _ => ?_
      have : decide ((k : Int) < 0) = false := by simp
      simp only [this, Bool.false_and, Bool.or_false]
    · obtain ⟨r, l'⟩ := s
      obtain ⟨k0, k1, k2⟩ := hs
      simp only at k0 k1 k2
      unfold ms
      refine .sel (fun hr => ?_) fun hr => .inr (show Fn l' _ from k2.ext fun k hk => ?_)
      · simp only [decide_eq_true_eq] at hr
        have hrl : r < l'.length := by rw [k2.1]; exact hr
        have hr12 : r.toNat < 12 := by omega
        refine .bind (.nth k0 hrl) fun y ⟨hy, _⟩ => ?_
        have hy' := k2.2 r.toNat hr12
        rw [hy] at hy'
        injection hy' with hy'
        simp only at hy'
        refine .bind (P := fun b => b = (y || lv live x r.toNat)) (.sel (fun h => .pure (by rw [h]; rfl)) fun h => ?_) fun b hb => .bind (.nth k0 hrl) fun _ _ => .bind (.upd k0 hrl) fun r2 hr2 => .inl ?_
        · refine .bind (.nth g0 hlt') fun x2 ⟨hx2, _⟩ => ?_
          obtain rfl : x = x2 := o9 (hx.symm.trans hx2)
          refine .bind (.nth hxm.1 (by rw [hl.1]; exact hxm.2)) fun lx ⟨hlx, hlm⟩ => .bind (.nth k0 (by rw [hl.2 lx hlm]; exact hr)) fun z ⟨hz, _⟩ => .pure ?_
          rw [h]
          unfold lv
          rw [hlx]
          simp [hz]
        · subst hr2 hb
          rw [aq k0 (by omega)]
          refine ⟨⟨by simp only; omega, by simp only; omega, (k2.set r.toNat _).ext fun k hk => ?_⟩, by simp only; omega⟩
          simp only
          split
          · rename_i e
            subst e
            rw [hy']
            have h1 : decide (((r.toNat : Nat) : Int) < r) = false := by simp; omega
            have h2 : decide (((r.toNat : Nat) : Int) < r + 1) = true := by simp; omega
            rw [h1, h2]; simp
          · rename_i e
            have : decide ((k : Int) < r) = decide ((k : Int) < r + 1) := by rw [decide_eq_decide]; omega
            rw [this]
      · simp only [decide_eq_false_iff_not] at hr
        have h1 : decide ((k : Int) < r) = true := by simp; omega
        rw [h1, show (j + 1).toNat = j.toNat + 1 by omega, List.take_add_one, hx]
        simp [List.any_append]
    · rw [aq g0 (by omega)]
      exact ⟨⟨by simp only; omega, by simp only; omega, h'⟩, by simp only; omega⟩
  · simp only [decide_eq_false_iff_not] at hge
    refine g2.ext fun k _ => ?_
    rw [List.take_of_length_le (by omega)]
    rfl
def wQ (q:ab) (g:Nat->Bool) (r:Nat):Bool:=(gM q).contains (r:Int)||(!decide ((r:Int)=aH q)&&g r)
theorem uf {q : ab} {m : Int} (hq : QOk m q) (hm : m ≤ 600) {l : List Bool} {g : Nat → Bool} (hl : Fn l g) : Tot (jx q l) fun l' => Fn l' (wQ q g) := by
  unfold jx
  rw [vo hq hm, BJ hq hm]
  refine .bind (.app (by simp [hl.1])) fun r hr => ?_
  rw [List.nil_append] at hr
  subst hr
  simp only [ob9]
  have hs := mJ hq
  refine .bind (P := fun l' => Fn l' (fun r => !decide ((r : Int) = aH q) && g r)) (.sel (fun h => ?_) fun h => .pure (hl.ext fun k _ => ?_)) fun l1 h1 => ?_
  · simp only [ge_iff_le, decide_eq_true_eq] at h
    have hr : Rg (aH q) := hs.resolve_left (by omega)
    refine .bind (.nth (hr.lt hl.1).1 (hr.lt hl.1).2) fun _ _ => .bind (.upd (hr.lt hl.1).1 (hr.lt hl.1).2) fun r2 hr2 => .pure (hr2 ▸ (hl.set _ _).ext fun k _ => ?_)
    by_cases e : (k : Int) = aH q
    · have h1 : k = (aH q).toNat := by omega
      have h2 : decide ((k : Int) = aH q) = true := by simpa using e
      simp only [h2, if_pos h1, Bool.not_true, Bool.false_and]
    · have h1 : ¬ k = (aH q).toNat := by unfold Rg at hr; omega
      have h2 : decide ((k : Int) = aH q) = false := by simpa using e
      simp only [h2, if_neg h1, Bool.not_false, Bool.true_and]
  · simp only [ge_iff_le, decide_eq_false_iff_not] at h
    have : ¬ (k : Int) = aH q := by omega
    simp [this]
  have hlen : (gM q).length ≤ 2 := by unfold gM; repeat' split
                                      all_goals simp
  refine .bind (P := fun l' => Fn l' (wQ q g)) (.iter (fun s => 0 ≤ s.1 ∧ s.1 ≤ ((gM q).length : Int) ∧ Fn s.2 (fun r => ((gM q).take s.1.toNat).contains (r : Int) || (!decide ((r : Int) = aH q) && g r))) (fun s => (((gM q).length : Int) - s.1).toNat) ⟨by simp, by simp, h1.ext fun k _ => by simp⟩ fun s hs => ?_) fun l h => .pure h
  obtain ⟨j, l2⟩ := s
  obtain ⟨g0, g1, g2⟩ := hs
  simp only at g0 g1 g2
  unfold lQ
  refine .sel (fun hlt => ?_) fun hge => .inr (show Fn l2 (wQ q g) from g2.ext fun k _ => ?_)
  · simp only [decide_eq_true_eq] at hlt
    refine .bind (.nth g0 hlt) fun x ⟨hx, hxm⟩ => ?_
    have hr := wP hq x hxm
    refine .bind (.nth (hr.lt g2.1).1 (hr.lt g2.1).2) fun _ _ => .bind (.upd (hr.lt g2.1).1 (hr.lt g2.1).2) fun r2 hr2 => .inl ?_
    subst hr2
    rw [aq g0 (by omega)]
    refine ⟨⟨by simp only; omega, by simp only; omega, (g2.set _ _).ext fun k _ => ?_⟩, by simp only; omega⟩
    have hx0 := (hr.lt g2.1).1
    have ht : (gM q).take (j + 1).toNat = (gM q).take j.toNat ++ [x] := by rw [show (j + 1).toNat = j.toNat + 1 by omega, List.take_add_one, hx]; rfl
    simp only [ht]
    by_cases e : (k : Int) = x
    · have h1 : k = x.toNat := by omega
      have h2 : ((gM q).take j.toNat ++ [x]).contains (k : Int) = true := by rw [e]; simp
      rw [if_pos h1, h2, Bool.true_or]
    · have h1 : ¬ k = x.toNat := by omega
      have h2 : ((gM q).take j.toNat ++ [x]).contains (k : Int) = ((gM q).take j.toNat).contains (k : Int) := by
        rw [Bool.eq_iff_iff]; simp [e]
      rw [if_neg h1, h2]
  · simp only [decide_eq_false_iff_not] at hge
    rw [List.take_of_length_le (by omega)]
    rfl
theorem xD {a b:List Bool} (ha:a.length=12) (hb:b.length=12):Tot (lR a b) λz=>z=true↔a=b:=by
 unfold lR
 refine .bind (P:=λz=>match z with | .inl y=>y=false/\a≠b | .inr _=>a=b) (.iter (λi:Int=>0<=i/\i<=12/\∀ (j:Nat),(j:Int)<i->a[j]?=b[j]?) (λi=>(12-i).toNat) ⟨by omega,by omega,λj h=>by omega⟩ λi ⟨h0,h1,h2⟩=>?_) λz hz=>?_
 ·unfold mQ
  refine .sel (λh=>?_) λh=>.inr ?_
  ·simp only [decide_eq_true_eq] at h
   refine .bind (.nth h0 h) λx ⟨hx,_⟩=>.bind (.nth h0 (by omega)) λy ⟨hy,_⟩=>.sel (λhe=>.inr ⟨rfl,?_⟩) λhe=>.inl ?_
   ·rintro rfl
    rw [hx] at hy
    injection hy with hy
    subst hy
    simp at he
   ·rw [aq h0 (by omega)]
    refine ⟨⟨by omega,by omega,λj hj=>?_⟩,by omega⟩
    by_cases e:(j:Int)=i
    ·obtain rfl:j=i.toNat:=by omega
     rw [hx,hy]
     simpa using he
    ·exact h2 j (by omega)
  ·simp only [decide_eq_false_iff_not] at h
   apply List.ext_getElem?
   intro j
   rcases Nat.lt_or_ge j 12 with hj | hj
   ·exact h2 j (by omega)
   ·rw [List.getElem?_eq_none (by omega),List.getElem?_eq_none (by omega)]
 ·refine .both (λy e=>?_) λ_ e=>?_
  ·subst e; exact .pure (by rw [hz.1]; simpa using hz.2)
  ·subst e; exact .pure (by simp [ha,hb]; exact hz)
def bm (l:List Bool):Nat:=(l.map λb=>if b then 0 else 1).sum
theorem Cc:∀ {l x:List Bool},l.length=x.length->(∀ k:Nat,l[k]?=some true->x[k]?=some true)->bm x<=bm l/\(x≠l->bm x<bm l)
 | [],[],_,_=>⟨Nat.le_refl _,λh=>absurd rfl h⟩
 | [],_::_,h,_=>by simp at h
 | _::_,[],h,_=>by simp at h
 | a::l,b::x,h,hk=>by
  obtain ⟨h1,h2⟩:=Cc (l:=l) (x:=x) (by simpa using h) λk hl=>by simpa using hk (k+1) (by simpa using hl)
  have h0:=hk 0
  simp only [List.getElem?_cons_zero,Option.some.injEq] at h0
  have e1:bm (a::l)=(if a then 0 else 1)+bm l:=by simp [bm]
  have e2:bm (b::x)=(if b then 0 else 1)+bm x:=by simp [bm]
  rw [e1,e2]
  cases a <;> cases b <;> simp at h0 ⊢
  ·exact ⟨h1,h2⟩
  ·omega
  ·exact ⟨h1,h2⟩
def bms (live:List (List Bool)):Nat:=(live.map bm).sum
def Pre (eQ:List ab) (live:List (List Bool)):Prop:=∀ (i:Nat) q,eQ[i]?=some q->∀ r,r<12->lv live i r=true->wQ q (fj live q i) r=true
theorem yt {live live':List (List Bool)} (h:∀ (x:Int) r,lv live x r=true->lv live' x r=true) {q:ab} {i:Int} {r:Nat} (ha:fj live q i r=true):fj live' q i r=true:=by
 unfold fj at *
 rw [List.any_eq_true] at *
 obtain ⟨x,hx,hr⟩:=ha
 exact ⟨x,hx,h x r hr⟩
theorem AP {q:ab} {g g':Nat->Bool} {r:Nat} (h:g r=true->g' r=true) (hb:wQ q g r=true):wQ q g' r=true:=by
 unfold wQ at *
 simp only [Bool.or_eq_true,Bool.and_eq_true] at *
 exact hb.imp id λhh=>⟨hh.1,h hh.2⟩
theorem yu {eQ:List ab} (hc:COk eQ) {live:List (List Bool)} (hl:rT eQ.length live) (hp:Pre eQ live):Tot (dD eQ live) λr=>rT eQ.length r.2/\Pre eQ r.2/\(r.1=true->bms r.2<bms live):=by
 have hmx:=hc.max
 unfold dD
 rw [aE (by omega) (by omega)]
 refine .bind (.iter (λs=>-1<=s.2.1/\s.2.1<(eQ.length:Int)/\rT eQ.length s.2.2/\Pre eQ s.2.2/\bms s.2.2<=bms live/\(s.1=true->bms s.2.2<bms live)) (λs=>(s.2.1+1).toNat) ⟨by simp only; omega,by simp only; omega,hl,hp,by simp,by simp⟩ λs hs=>?_) λr (hr:rT eQ.length r.2/\Pre eQ r.2/\bms r.2<=bms live/\(r.1=true->bms r.2<bms live))=>.pure ⟨hr.1,hr.2.1,hr.2.2.2⟩
 obtain ⟨iU,i,a⟩:=s
 obtain ⟨g0,g1,g2,g3,g4,g5⟩:=hs
 simp only at g0 g1 g2 g3 g4 g5
 unfold eV
 refine .sel (λh=>?_) λh=>.inr ⟨g2,g3,g4,g5⟩
 simp only [ge_iff_le,decide_eq_true_eq] at h
 refine .bind (P:=λz=>rT eQ.length z.2/\Pre eQ z.2/\bms z.2<=bms live/\(z.1=true->bms z.2<bms live)) ?_ λz hz=>.inl ?_
 ·refine .bind (.nth h g1) λq ⟨hq,hqm⟩=>.bind (ny hc g2 h hq) λaf haf=>.bind (uf (hc.q q hqm) (by omega) haf) λx hx=>.bind (.nth h (by rw [g2.1]; exact g1)) λl ⟨hl',hlm⟩=>?_
  have hl12:=g2.2 l hlm
  refine .bind (xD hx.1 hl12) λsm hsm=>.sel (λhne=>.pure ?_) λ_=>.pure ⟨g2,g3,g4,g5⟩
  have hxl:x≠l:=λe=>by rw [hsm.2 e] at hne; cases hne
  have hlv:=AO hl'
  have hsub:∀ k,l[k]?=some true->x[k]?=some true:=λk hk=>by
   have hk12:k<12:=by
    rcases Nat.lt_or_ge k l.length with h | h
    ·omega
    ·rw [List.getElem?_eq_none h] at hk; cases hk
   have h1:lv a i k=true:=by have:=congrFun hlv k; simp only at this; rw [this,hk]; rfl
   have h2:=g3 i.toNat q hq k hk12 (by rw [show ((i.toNat:Nat):Int)=i by omega]; exact h1)
   rw [show ((i.toNat:Nat):Int)=i by omega] at h2
   rw [hx.2 k hk12,h2]
  have hb:=(Cc (by rw [hx.1,hl12]) hsub).2 hxl
  have e2:bms (a.set i.toNat x)+bm l=bms a+bm x:=oJ bm x hl'
  have hlen:i.toNat<a.length:=by rw [g2.1]; omega
  have hle:∀ (y:Int) r,lv a y r=true->lv (a.set i.toNat x) y r=true:=λy r hy=>by
   unfold lv at *
   by_cases e:y.toNat=i.toNat
   ·rw [e] at hy ⊢
    rw [hl'] at hy
    rw [List.getElem?_set_self hlen]
    simp only [Option.getD_some] at *
    have hlr:l[r]?=some true:=by
     cases hq':l[r]? with
     | none=>rw [hq'] at hy; simp at hy
     | some b=>rw [hq'] at hy; simp at hy; rw [hy]
    rw [hsub r hlr]; rfl
   ·rw [List.getElem?_set_ne (λh=>e h.symm)]; exact hy
  refine ⟨⟨by rw [List.length_set]; exact g2.1,λy hy=>(nR hy).elim (g2.2 y) λe=>e▸hx.1⟩,λj p hj r hr hlr=>?_,by simp only; omega,λ_=>by simp only; omega⟩
  have hmono:∀ r,fj a p j r=true->fj (a.set i.toNat x) p j r=true:=λr=>yt hle
  refine AP (hmono r) ?_
  by_cases e:j=i.toNat
  ·subst e
   obtain rfl:q=p:=o9 (hq.symm.trans hj)
   unfold lv at hlr
   rw [show (((i.toNat:Nat):Int)).toNat=i.toNat by omega,List.getElem?_set_self hlen] at hlr
   simp only [Option.getD_some] at hlr
   rw [hx.2 r hr] at hlr
   rw [show ((i.toNat:Nat):Int)=i by omega]
   exact hlr
  ·refine g3 j p hj r hr ?_
   unfold lv at hlr ⊢
   rw [show (((j:Nat):Int)).toNat=j by omega] at *
   rw [List.getElem?_set_ne (λh=>e h.symm)] at hlr
   exact hlr
 ·rw [aE (i:=i-1) (by omega) (by omega)]
  exact ⟨⟨by simp only; omega,by simp only; omega,hz⟩,by simp only; omega⟩
theorem xE {eQ:List ab} (hc:COk eQ):Tot (eO eQ) (rT eQ.length):=by
 have hmx:=hc.max
 unfold eO
 rw [aU hc,ob9]
 refine .sf rfl (.bind (P:=λs=>rT eQ.length s/\∀ x r,lv s x r=false) (.iter (λs=>0<=s.2/\s.2<=(eQ.length:Int)/\s.1=List.replicate s.2.toNat (List.replicate 12 false)) (λs=>((eQ.length:Int)-s.2).toNat) ⟨by simp,by simp,by simp⟩ λs hs=>?_) λa0 ha0=>.bind (P:=rT eQ.length) (.iter (λs=>rT eQ.length s/\Pre eQ s) bms ⟨ha0.1,λi q _ r _ h=>by rw [ha0.2] at h; cases h⟩ λs hs=>?_) λr hr=>.pure hr)
 ·obtain ⟨a,i⟩:=s
  obtain ⟨g0,g1,g2⟩:=hs
  simp only at g0 g1 g2
  unfold jy
  refine .sel (λhlt=>?_) λhlt=>.inr (show rT eQ.length a/\∀ x r,lv a x r=false from ?_)
  ·simp only [decide_eq_true_eq] at hlt
   refine .bind (.mk (by omega) (by decide)) λl hl'=>.bind (.app (by rw [g2]; simp; omega)) λr hr=>.inl ?_
   subst hr hl' g2
   rw [aq g0 (by omega)]
   refine ⟨⟨by simp only; omega,by simp only; omega,?_⟩,by simp only; omega⟩
   simp only
   rw [show (i+1).toNat=i.toNat+1 by omega]
   rw [List.replicate_succ' (n:=i.toNat)]
   rfl
  ·simp only [decide_eq_false_iff_not] at hlt
   subst g2
   refine ⟨⟨by simp; omega,λl hl=>by rw [(List.mem_replicate.1 hl).2]; simp⟩,λx r=>?_⟩
   unfold lv
   rw [List.getElem?_replicate]
   split
   ·rw [Option.getD_some,List.getElem?_replicate]
    split <;> rfl
   ·rfl
 ·unfold bS
  exact .bind (yu hc hs.1 hs.2) λr hr=>.sel (λh=>.inl ⟨⟨hr.1,hr.2.1⟩,hr.2.2 h⟩) λ_=>.inr hr.1
theorem AQ {q:ab} {m:Int} (hq:QOk m q) {l:List Bool} (hl:l.length=12):Tot (il q l) λb=>b=true->q.Op=1\/q.Op=2\/q.Op=3:=by
 unfold il
 refine .bind (P:=λb=>b=true↔(q.Op=1\/q.Op=2\/q.Op=3)) (.sel (λh=>.pure ?_) λh=>.sel (λh'=>.pure ?_) λh'=>.pure ?_) λb hb=>.sel (λh=>?_) λ_=>.pure (by simp)
 ·simp only [beq_iff_eq] at *; simp [h]
 ·simp only [beq_iff_eq] at *; simp [h']
 ·simp only [beq_eq_false_iff_ne,ne_eq] at *; simp [h,h']
 ·have ho:=hb.1 h
  have hd:Rg q.Dst:=by unfold QOk at hq; unfold Rg at *; omega
  exact .bind (.nth (hd.lt hl).1 (hd.lt hl).2) λ_ _=>.pure λ_=>ho
theorem xF:sW gp:=λ{eQ} hc=>by
 unfold gp
 rw [aU hc,ob9]
 have hl:=hc.max
 refine .sf rfl (.bind (xE hc) λbs hbs=>.bind (lX (n:=eQ.length) (λi q'=>∃ q:ab,eQ[i]?=some q/\QOk eQ.length q'/\(q.Op=10\/q.Op=4->q'.Op=10\/q'.Op=4)) hc.max (λi out h0 h1 h2=>?_) λout=>?_) λout ho=>.pure ⟨hc.alike ho,rfl,by rw [ho.1]; exact Nat.le_refl _⟩)
 ·unfold dy
  refine .st (by simpa using h1) (.bind (.nth h0 h1) λq ⟨hq,hqm⟩=>.bind (P:=λq'=>QOk eQ.length q'/\(q.Op=10\/q.Op=4->q'.Op=10\/q'.Op=4)) (.bind (ny hc hbs h0 hq) λaf haf=>.bind (AQ (hc.q q hqm) haf.1) λb hb=>.sel (λh=>.pure ?_) λ_=>.pure ⟨hc.q q hqm,id⟩) λq' hq'=>.bind (.app (by simp [h2]; omega)) λr hr=>.pure ⟨q',?_,q,hq,hq'⟩)
  ·have ho:=hb h
   have hn:=hc.nxt hq (by omega) (by omega)
   rw [aq h0 (by omega)]
   exact ⟨.inr (.inr (.inr (.inl ⟨rfl,rfl,rfl,rfl,by simp only; omega,by simp only; omega⟩))),λh'=>by omega⟩
  ·rw [aq h0 (by omega),hr]
 ·unfold dy; rw [aM (by simp)]
end
noncomputable section
theorem zM {l:List Bool} {i:Nat}:(l[i]?).getD false=true↔l[i]?=some true:=by
 cases h:l[i]? with
 | none=>simp
 | some b=>simp
theorem bV {α:Type} {l:List α} {i:Nat} {a:α} (h:l[i]?=some a):i<l.length:=by
 rcases Nat.lt_or_ge i l.length with h' | h'
 ·exact h'
 ·rw [List.getElem?_eq_none h'] at h; cases h
def mU (eQ:List ab) (seen:List Bool) (m:Int):Prop:=∀ (i:Nat) q,(i:Int)<m->eQ[i]?=some q->seen[i]?=some true->∀ x∈nx q i,seen[x.toNat]?=some true
theorem AR {l:List Bool} {i:Nat} (h:l[i]?=some false):bm (l.set i true)<bm l:=by
 have:bm (l.set i true)+1=bm l+0:=oJ (λb=>if b then 0 else 1) true h
 omega
theorem vp {eQ : List ab} (hc : COk eQ) {seen : List Bool} (hs : seen.length = eQ.length) : Tot (fi eQ seen) fun r => r.2.length = eQ.length ∧ (∀ (k : Nat), seen[k]? = some true → r.2[k]? = some true) ∧ (r.1 = true → bm r.2 < bm seen) ∧ (r.1 = false → r.2 = seen ∧ mU eQ seen eQ.length) := by
  have hmx := hc.max
  unfold fi
  refine .bind (.iter (fun s => 0 ≤ s.2.1 ∧ s.2.1 ≤ (eQ.length : Int) ∧ s.2.2.length = eQ.length ∧ (∀ (k : Nat), seen[k]? = some true → s.2.2[k]? = some true) ∧ bm s.2.2 ≤ bm seen ∧ (s.1 = true → bm s.2.2 < bm seen) ∧ (s.1 = false → s.2.2 = seen ∧ mU eQ seen s.2.1)) (fun s => ((eQ.length : Int) - s.2.1).toNat) ⟨by simp, by simp, hs, by simp, by simp, by simp, fun _ => ⟨rfl, fun i q h => by simp only at h; omega⟩⟩ fun s hs => ?_)
    fun r (hr : r.2.length = eQ.length ∧ (∀ (k : Nat), seen[k]? = some true → r.2[k]? = some true) ∧ (r.1 = true → bm r.2 < bm seen) ∧ (r.1 = false → r.2 = seen ∧ mU eQ seen eQ.length)) => .pure hr
  obtain ⟨iU, i, a⟩ := s
  obtain ⟨g0, g1, g2, g3, g4, g5, g6⟩ := hs
  simp only at g0 g1 g2 g3 g4 g5 g6
  unfold i5
  refine .sel (fun hlt => ?_) fun hge => .inr (show a.length = eQ.length ∧ (∀ (k : Nat), seen[k]? = some true → a[k]? = some true) ∧ (iU = true → bm a < bm seen) ∧ (iU = false → a = seen ∧ mU eQ seen eQ.length) from ?_)
  rotate_left
  · simp only [decide_eq_false_iff_not] at hge
    exact ⟨g2, g3, g5, fun h => by have := g6 h; rw [show i = (eQ.length : Int) by omega] at this; exact this⟩
  simp only [decide_eq_true_eq] at hlt
  refine .bind (P := fun z => z.2.length = eQ.length ∧ (∀ (k : Nat), seen[k]? = some true → z.2[k]? = some true) ∧ bm z.2 ≤ bm seen ∧ (z.1 = true → bm z.2 < bm seen) ∧ (z.1 = false → z.2 = seen ∧ mU eQ seen (i + 1))) ?_ fun z hz => .inl ?_
  · refine .bind (.nth g0 (by rw [g2]; exact hlt)) fun b ⟨hb, _⟩ => .sel (fun hbf => .pure ⟨g2, g3, g4, g5, fun h => ⟨(g6 h).1, fun j q hj hq hsj => ?_⟩⟩) fun hbt => ?_
    · by_cases e : (j : Int) = i
      · obtain rfl : j = i.toNat := by omega
        rw [← (g6 h).1, hb] at hsj
        injection hsj with hsj
        subst hsj
        simp at hbf
      · exact (g6 h).2 j q (by omega) hq hsj
    have hbt' : b = true := by simpa using hbt
    subst hbt'
    obtain ⟨q, hq⟩ : ∃ q, eQ[i.toNat]? = some q := ⟨_, List.getElem?_eq_getElem (by omega)⟩
    have hnx := rS hc hq
    rw [show ((i.toNat : Nat) : Int) = i by omega] at hnx
    rw [qk g0 hq (by omega), ob9]
    have hlen : (nx q i).length ≤ 2 := by unfold nx; repeat' split
                                          all_goals simp
    refine .bind (.iter (fun s => 0 ≤ s.2.1 ∧ s.2.1 ≤ ((nx q i).length : Int) ∧ s.2.2.length = eQ.length ∧ (∀ (k : Nat), seen[k]? = some true → s.2.2[k]? = some true) ∧ bm s.2.2 ≤ bm seen ∧ (s.1 = true → bm s.2.2 < bm seen) ∧ (s.1 = false → s.2.2 = seen ∧ mU eQ seen i ∧ ∀ x ∈ (nx q i).take s.2.1.toNat, seen[x.toNat]? = some true)) (fun s => (((nx q i).length : Int) - s.2.1).toNat) ⟨by simp, by simp, g2, g3, g4, g5, fun h => ⟨(g6 h).1, (g6 h).2, by simp⟩⟩ fun s hs => ?_)
      fun r (hr : r.2.length = eQ.length ∧ (∀ (k : Nat), seen[k]? = some true → r.2[k]? = some true) ∧ bm r.2 ≤ bm seen ∧ (r.1 = true → bm r.2 < bm seen) ∧ (r.1 = false → r.2 = seen ∧ mU eQ seen (i + 1))) => .pure hr
    obtain ⟨fresh', j, a'⟩ := s
    obtain ⟨k0, k1, k2, k3, k4, k5, k6⟩ := hs
    simp only at k0 k1 k2 k3 k4 k5 k6
    unfold i4
    refine .sel (fun hlt' => ?_) fun hge' => .inr (show a'.length = eQ.length ∧ (∀ (k : Nat), seen[k]? = some true → a'[k]? = some true) ∧ bm a' ≤ bm seen ∧ (fresh' = true → bm a' < bm seen) ∧ (fresh' = false → a' = seen ∧ mU eQ seen (i + 1)) from ⟨k2, k3, k4, k5, fun h => ⟨(k6 h).1, fun m p hm hp hsm => ?_⟩⟩)
    · simp only [decide_eq_true_eq] at hlt'
      refine .bind (P := fun z => z.2.length = eQ.length ∧ (∀ (k : Nat), seen[k]? = some true → z.2[k]? = some true) ∧ bm z.2 ≤ bm seen ∧ (z.1 = true → bm z.2 < bm seen) ∧ (z.1 = false → z.2 = seen ∧ mU eQ seen i ∧ ∀ x ∈ (nx q i).take (j + 1).toNat, seen[x.toNat]? = some true)) ?_ fun z hz => .inl ?_
      · refine .bind (.nth k0 hlt') fun x ⟨hx, hxm⟩ => ?_
        have hxr := hnx x hxm
        have hxl : x < a'.length := by rw [k2]; exact hxr.2
        refine .bind (.nth hxr.1 hxl) fun b ⟨hb2, _⟩ => .sel (fun hbf => ?_) fun hbt => .pure ⟨k2, k3, k4, k5, fun h => ⟨(k6 h).1, (k6 h).2.1, fun y hy => ?_⟩⟩
        · refine .bind (.nth k0 hlt') fun x2 ⟨hx2, _⟩ => ?_
          obtain rfl : x = x2 := o9 (hx.symm.trans hx2)
          refine .bind (.nth hxr.1 hxl) fun _ _ => .bind (.upd hxr.1 hxl) fun r hr => .pure ?_
          subst hr
          have hbf' : b = false := by simpa using hbf
          subst hbf'
          have hb3 : a'[x.toNat]? = some false := hb2
          have h4 := AR hb3
          refine ⟨by rw [List.length_set]; exact k2, fun k hk => ?_, by simp only; omega, fun _ => by simp only; omega, fun h => by cases h⟩
          simp only
          by_cases e : x.toNat = k
          · subst e; rw [List.getElem?_set_self (bV hb2)]
          · rw [List.getElem?_set_ne e]; exact k3 k hk
        · rw [show (j + 1).toNat = j.toNat + 1 by omega, List.take_add_one, hx] at hy
          simp only [Option.toList_some, List.mem_append, List.mem_singleton] at hy
          rcases hy with hy | rfl
          · exact (k6 h).2.2 y hy
          · rw [← (k6 h).1, hb2]; simpa using hbt
      · rw [aq k0 (by omega)]
        exact ⟨⟨by simp only; omega, by simp only; omega, hz⟩, by simp only; omega⟩
    · simp only [decide_eq_false_iff_not] at hge'
      have k7 := (k6 h).2.2
      rw [List.take_of_length_le (by omega)] at k7
      by_cases e : (m : Int) = i
      · obtain rfl : m = i.toNat := by omega
        obtain rfl : q = p := o9 (hq.symm.trans hp)
        rw [show ((i.toNat : Nat) : Int) = i by omega]
        exact k7
      · exact (k6 h).2.1 m p (by omega) hp hsm
  · rw [aq g0 (by omega)]
    exact ⟨⟨by simp only; omega, by simp only; omega, hz⟩, by simp only; omega⟩
theorem wu {eQ:List ab} (hc:COk eQ):Tot (cZ eQ) λseen=>seen.length=eQ.length/\seen[0]?=some true/\mU eQ seen eQ.length:=by
 have hmx:=hc.max
 have h1:=hc.one
 unfold cZ
 rw [aU hc,ob9]
 refine .sf rfl (.bind (.mk (by omega) (by omega)) λl hl=>?_)
 subst hl
 refine .bind (.nth (by omega) (by simp; omega)) λ_ _=>.bind (.upd (by omega) (by simp; omega)) λl2 hl2=>?_
 have h0:l2.length=eQ.length/\l2[0]?=some true:=by
  subst hl2
  refine ⟨by simp,?_⟩
  rw [show (0:Int).toNat=0 from rfl,List.getElem?_set_self (by simp; omega)]
 refine .bind (P:=λseen=>seen.length=eQ.length/\seen[0]?=some true/\mU eQ seen eQ.length) (.iter (λs=>s.length=eQ.length/\s[0]?=some true) bm h0 λs hs=>?_) λr hr=>.pure hr
 unfold i6
 exact .bind (vp hc hs.1) λr hr=>.sel (λh=>.inl ⟨⟨hr.1,hr.2.1 0 hs.2⟩,hr.2.2.1 h⟩) λh=>.inr (by
  obtain ⟨e,hcl⟩:=hr.2.2.2 h
  rw [e]; exact ⟨hs.1,hs.2,hcl⟩)
def mK (q:ab) (i:Int):Bool:=if q.Op=4\/q.Op=5 then q.N==i+1 else if q.Op=2 then q.Dst==q.A else false
theorem zj (q:ab) {i:Int} (h0:0<=i) (h:i<=1000):lS q i=some (mK q i):=by
 refine Tot.eq ?_
 unfold lS mK
 rw [aq h0 (by omega)]
 refine .bind (P:=λb=>b=true↔(q.Op=4\/q.Op=5)) (.sel (λh=>.pure ?_) λh=>.pure ?_) λb hb=>.sel (λh=>.pure (by rw [if_pos (hb.1 h)])) λh=>.sel (λh'=>.pure ?_) λh'=>.pure ?_
 ·simp only [beq_iff_eq] at *; simp [h]
 ·simp only [beq_eq_false_iff_ne,ne_eq] at *; simp [h]
 ·rw [if_neg (λhh=>by rw [hb.2 hh] at h; cases h),if_pos (by simpa using h')]
 ·rw [if_neg (λhh=>by rw [hb.2 hh] at h; cases h),if_neg (by simpa using h')]
def cnt (K:Nat->Bool):Nat->Nat
 | 0=>0
 | m+1=>cnt K m+if K m then 1 else 0
theorem px (K:Nat->Bool):∀ m,cnt K m<=m
 | 0=>Nat.le_refl _
 | m+1=>by have:=px K m; simp only [cnt]; split <;> omega
theorem vq (K : Nat → Bool) {a : Nat} : ∀ {b : Nat}, a ≤ b → cnt K a ≤ cnt K b
  | 0, h => by have : a = 0 := by omega
               subst this; exact Nat.le_refl _
  | b + 1, h => by
    by_cases e : a = b + 1
    · subst e; exact Nat.le_refl _
    · have := vq K (a := a) (b := b) (by omega); simp only [cnt]; omega
theorem AU (K:Nat->Bool) {a j n:Nat} (h:a<=j) (hj:j<n) (hk:K j=true):cnt K a<cnt K n:=by
 have h1:=vq K h
 have h2:=vq K (show j+1<=n from hj)
 simp only [cnt,hk,if_true] at h2
 omega
def kp (keep:List Bool) (j:Nat):Bool:=(keep[j]?).getD false
theorem wv {keep:List Bool} {m:Int} (h0:0<=m) (h1:m<=keep.length) (hl:keep.length<=1000):Tot (kC keep m) λr=>r=(cnt (kp keep) m.toNat:Int):=by
 unfold kC
 refine .bind (P:=λr=>r=(cnt (kp keep) m.toNat:Int)) (.iter (λs=>0<=s.2/\s.2<=m/\s.1=(cnt (kp keep) s.2.toNat:Int)) (λs=>(m-s.2).toNat) ⟨by simp,by simpa using h0,rfl⟩ λs hs=>?_) λr hr=>.pure hr
 obtain ⟨c,i⟩:=s
 obtain ⟨g0,g1,g2⟩:=hs
 simp only at g0 g1 g2
 unfold mu
 refine .sel (λhlt=>?_) λhge=>.inr (show c=_ from ?_)
 ·simp only [decide_eq_true_eq] at hlt
  have hcl:=px (kp keep) i.toNat
  refine .bind (P:=λz=>z=(cnt (kp keep) (i+1).toNat:Int)) (.bind (.nth g0 (by omega)) λb ⟨hb,_⟩=>?_) λz hz=>.inl ?_
  ·have hk:kp keep i.toNat=b:=by unfold kp; rw [hb]; rfl
   have e:(i+1).toNat=i.toNat+1:=by omega
   refine .sel (λh=>.pure ?_) λh=>.pure ?_
   ·rw [aE (by omega) (by omega),e,cnt,hk,h,g2]; rfl
   ·rw [e,cnt,hk,h,g2]; rfl
  ·rw [aq g0 (by omega)]
   exact ⟨⟨by simp only; omega,by simp only; omega,hz⟩,by simp only; omega⟩
 ·simp only [decide_eq_false_iff_not] at hge
  rw [g2,show i=m by omega]
theorem vr:sW dz:=λ{eQ} hc=>by
 have hmx:=hc.max
 unfold dz
 rw [aU hc,ob9]
 refine .sf rfl (.bind (wu hc) λseen ⟨s1,s2,s3⟩=>.bind (P:=λkeep=>keep.length=eQ.length/\∀ (j:Nat) (q:ab),eQ[j]?=some q->keep[j]?=some ((seen[j]?).getD false&&!mK q j)) (.iter (λs=>0<=s.1/\s.1<=(eQ.length:Int)/\s.2.length=eQ.length/\(∀ (j:Nat) (q:ab),(j:Int)<s.1->eQ[j]?=some q->s.2[j]?=some ((seen[j]?).getD false&&!mK q j))/\∀ (j:Nat),s.1<=(j:Int)->s.2[j]?=seen[j]?) (λs=>((eQ.length:Int)-s.1).toNat) ⟨by simp,by simp,s1,λj q h=>by simp only at h; omega,λj _=>rfl⟩ λs hs=>?_) λkeep ⟨k1,k2⟩=>?_)
 ·obtain ⟨i,a⟩:=s
  obtain ⟨g0,g1,g2,g3,g4⟩:=hs
  simp only at g0 g1 g2 g3 g4
  unfold d8
  refine .sel (λhlt=>?_) λhge=>.inr (show a.length=eQ.length/\_ from ⟨g2,λj q hq=>g3 j q (by have:=bV hq; simp only [decide_eq_false_iff_not] at hge; omega) hq⟩)
  simp only [decide_eq_true_eq] at hlt
  have hia:i<a.length:=by rw [g2]; exact hlt
  obtain ⟨q,hq⟩:∃ q,eQ[i.toNat]?=some q:=⟨_,List.getElem?_eq_getElem (by omega)⟩
  refine .bind (.nth g0 hia) λb ⟨hb,_⟩=>.bind (P:=λz=>z=((seen[i.toNat]?).getD false&&!mK q i)) ?_ λz hz=>.bind (.nth g0 hia) λ_ _=>.bind (.upd g0 hia) λr hr=>.inl ?_
  ·have hsb:(seen[i.toNat]?).getD false=b:=by rw [<-g4 i.toNat (by omega),hb]; rfl
   refine .sel (λh=>.bind (.nth g0 hlt) λq' ⟨hq',_⟩=>?_) λh=>.pure (by rw [hsb,h]; rfl)
   obtain rfl:q=q':=o9 (hq.symm.trans hq')
   rw [zj q g0 (by omega),ob9,hsb,h]
   exact .pure rfl
  ·subst hr hz
   rw [aq g0 (by omega)]
   refine ⟨⟨by simp only; omega,by simp only; omega,by simp [g2],λj p hj hp=>?_,λj hj=>?_⟩,by simp only; omega⟩
   ·simp only at hj ⊢
    by_cases e:(j:Int)=i
    ·obtain rfl:j=i.toNat:=by omega
     obtain rfl:q=p:=o9 (hq.symm.trans hp)
     have hlt3:i.toNat<a.length:=by omega
     rw [List.getElem?_set_self hlt3,show ((i.toNat:Nat):Int)=i by omega]
    ·rw [List.getElem?_set_ne (by omega)]
     exact g3 j p (by omega) hp
   ·simp only at hj ⊢
    rw [List.getElem?_set_ne (by omega)]
    exact g4 j (by omega)
 have hK:∀ (j:Nat) (q:ab),eQ[j]?=some q->(kp keep j=true↔seen[j]?=some true/\mK q j=false):=λj q hq=>by
  unfold kp
  rw [k2 j q hq]
  simp [zM]
 have hsucc:∀ (j:Nat) (q:ab),eQ[j]?=some q->q.Op≠10->(q.Op=4->q.N=(j:Int)+1)->seen[j]?=some true->seen[j+1]?=some true:=λj q hq h10 h4 hs=>by
  have hin:(j:Int)+1∈nx q j:=by
   unfold nx
   rw [if_neg h10]
   split
   ·rename_i h; rw [h4 h]; simp
   ·split
    ·simp
    ·split <;> simp
  have:=s3 j q (by have:=bV hq; omega) hq hs _ hin
  rwa [show ((j:Int)+1).toNat=j+1 by omega] at this
 have hkept:∀ n j,eQ.length-j<=n->seen[j]?=some true->j<eQ.length->∃ m,j<=m/\m<eQ.length/\kp keep m=true:=by
  intro n
  induction n with
  | zero=>intro j h1 _ h2; omega
  | succ n ih =>
   intro j h1 hs hj
   obtain ⟨q,hq⟩:∃ q,eQ[j]?=some q:=⟨_,List.getElem?_eq_getElem hj⟩
   cases hi:mK q j
   ·exact ⟨j,Nat.le_refl _,hj,(hK j q hq).2 ⟨hs,hi⟩⟩
   ·unfold mK at hi
    have h10:q.Op≠10:=by rintro h; simp [h] at hi
    have h4:q.Op=4->q.N=(j:Int)+1:=λh=>by simp [h] at hi; exact hi
    have hs':=hsucc j q hq h10 h4 hs
    have hj':j+1<eQ.length:=by have:=bV hs'; omega
    obtain ⟨m,h2,h3,h4⟩:=ih (j+1) (by omega) hs' hj'
    exact ⟨m,by omega,h3,h4⟩
 have h01:=hc.one
 obtain ⟨m0,_,hm0,hkm0⟩:=hkept _ 0 (Nat.le_refl _) s2 (by omega)
 refine .bind (P:=λout=>out.length=cnt (kp keep) eQ.length/\(∀ q'∈out,QOk (cnt (kp keep) eQ.length:Nat) q')/\∀ q',out.getLast?=some q'->∃ (j:Nat) (q:ab),j<eQ.length/\eQ[j]?=some q/\q'.Op=q.Op/\kp keep j=true/\∀ l,j<l->l<eQ.length->kp keep l=false)
  (.iter (λs=>0<=s.2/\s.2<=(eQ.length:Int)/\s.1.length=cnt (kp keep) s.2.toNat/\(∀ q'∈s.1,QOk (cnt (kp keep) eQ.length:Nat) q')/\∀ q',s.1.getLast?=some q'->∃ (j:Nat) (q:ab),j<s.2.toNat/\eQ[j]?=some q/\q'.Op=q.Op/\kp keep j=true/\∀ l,j<l->l<s.2.toNat->kp keep l=false) (λs=>((eQ.length:Int)-s.2).toNat) ⟨by simp,by simp,rfl,by simp,by simp⟩ λs hs=>?_) λout ⟨o1,o2,o3⟩=>.pure ⟨?_,rfl,by simp only; rw [o1]; exact px _ _⟩
 ·obtain ⟨out,i⟩:=s
  obtain ⟨g0,g1,g2,g3,g4⟩:=hs
  simp only at g0 g1 g2 g3 g4
  unfold d9
  refine .sel (λhlt=>?_) λhge=>.inr (show out.length=cnt (kp keep) eQ.length/\_ from ?_)
  rotate_left
  ·simp only [decide_eq_false_iff_not] at hge
   rw [show i.toNat=eQ.length by omega] at g2 g4
   exact ⟨g2,g3,g4⟩
  simp only [decide_eq_true_eq] at hlt
  obtain ⟨q,hq⟩:∃ q,eQ[i.toNat]?=some q:=⟨_,List.getElem?_eq_getElem (by omega)⟩
  have e1:(i+1).toNat=i.toNat+1:=by omega
  refine .bind (P:=λo=>o.length=cnt (kp keep) (i+1).toNat/\(∀ q'∈o,QOk (cnt (kp keep) eQ.length:Nat) q')/\∀ q',o.getLast?=some q'->∃ (j:Nat) (q:ab),j<(i+1).toNat/\eQ[j]?=some q/\q'.Op=q.Op/\kp keep j=true/\∀ l,j<l->l<(i+1).toNat->kp keep l=false) ?_ λo ho=>.inl ?_
  ·refine .bind (.nth g0 hlt) λq' ⟨hq',hqm⟩=>?_
   obtain rfl:q=q':=o9 (hq.symm.trans hq')
   have hv:=hc.q q hqm
   refine .bind (.nth g0 (by rw [k1]; exact hlt)) λb ⟨hb,_⟩=>?_
   have hkb:kp keep i.toNat=b:=by unfold kp; rw [hb]; rfl
   refine .sel (λhbf=>.pure ?_) λhbt=>?_
   ·have hbf':b=false:=by simpa using hbf
    subst hbf'
    rw [e1]
    refine ⟨by simp only [cnt,hkb]; simpa using g2,g3,λq' hq'=>?_⟩
    obtain ⟨j,p,h1,h2,h3,h4,h5⟩:=g4 q' hq'
    refine ⟨j,p,by omega,h2,h3,h4,λl hl1 hl2=>?_⟩
    by_cases e:l=i.toNat
    ·subst e; exact hkb
    ·exact h5 l hl1 (by omega)
   ·have hbt':b=true:=by simpa using hbt
    subst hbt'
    obtain ⟨hsi,hid⟩:=(hK i.toNat q hq).1 hkb
    refine .bind (P:=λq'=>QOk (cnt (kp keep) eQ.length:Nat) q'/\q'.Op=q.Op) (.sel (λh=>?_) λh=>.pure ⟨?_,rfl⟩) λq' hq'=>.bind (.app (by rw [g2]; have:=px (kp keep) i.toNat; simp; omega)) λr hr=>.pure ?_
    ·simp only [Bool.or_eq_true,beq_iff_eq] at h
     have hw:=hv
     unfold QOk at hw
     have hr:0<=q.N/\q.N<eQ.length:=by rcases h with h | h <;> simp [h] at hw <;> omega
     have hni:q.N≠i+1:=λe=>by
      unfold mK at hid
      rw [if_pos h,show ((i.toNat:Nat):Int)=i by omega] at hid
      simp [e] at hid
     have hin:q.N∈nx q i:=by
      unfold nx
      rcases h with h | h
      ·simp [h]
      ·rw [if_neg (by omega),if_neg (by omega)]
       split
       ·simp
       ·rw [if_pos ⟨h,by omega⟩]; simp
     have hsn:seen[q.N.toNat]?=some true:=s3 i.toNat q (by omega) hq hsi _ (by rw [show ((i.toNat:Nat):Int)=i by omega]; exact hin)
     obtain ⟨m,h1,h2,h3⟩:=hkept _ q.N.toNat (Nat.le_refl _) hsn (by omega)
     have hcl:=AU (kp keep) h1 h2 h3
     refine .bind (wv hr.1 (by rw [k1]; omega) (by omega)) λp hp=>.pure ⟨?_,rfl⟩
     subst hp
     rcases h with h | h <;> simp [h] at hw <;> simp [QOk,h,hw] <;> omega
    ·simp only [Bool.or_eq_false_iff,beq_eq_false_iff_ne,ne_eq] at h
     unfold QOk at hv ⊢
     rcases hv with h' | h' | h' | h' | h' | h' | h' | h' | h'
     ·exact .inl h'
     ·exact .inr (.inl h')
     ·exact .inr (.inr (.inl h'))
     ·exact absurd h'.1 h.1
     ·exact absurd h'.1 h.2
     ·exact .inr (.inr (.inr (.inr (.inr (.inl h')))))
     ·exact .inr (.inr (.inr (.inr (.inr (.inr (.inl h'))))))
     ·exact .inr (.inr (.inr (.inr (.inr (.inr (.inr (.inl h')))))))
     ·exact .inr (.inr (.inr (.inr (.inr (.inr (.inr (.inr h')))))))
    ·subst hr
     rw [e1]
     refine ⟨by simp only [cnt,hkb]; simp [g2],λz hz=>?_,λz hz=>?_⟩
     ·simp only [List.mem_append,List.mem_singleton] at hz
      rcases hz with hz | rfl
      ·exact g3 z hz
      ·exact hq'.1
     ·rw [List.getLast?_concat] at hz
      injection hz with hz
      subst hz
      exact ⟨i.toNat,q,by omega,hq,hq'.2,hkb,λl h1 h2=>by omega⟩
  ·rw [aq g0 (by omega)]
   exact ⟨⟨by simp only; omega,by simp only; omega,ho⟩,by simp only; omega⟩
 ·have hpos:=AU (kp keep) (Nat.zero_le _) hm0 hkm0
  have hle:=px (kp keep) eQ.length
  refine ⟨by simp only; omega,by simp only; omega,λz hz=>by simp only at hz ⊢; rw [o1]; exact o2 z hz,?_⟩
  have hne:out≠[]:=by rintro rfl; simp at o1; omega
  obtain ⟨z,hz⟩:∃ z,out.getLast?=some z:=⟨_,List.getLast?_eq_some_getLast hne⟩
  refine ⟨z,hz,?_⟩
  obtain ⟨j,q,h1,h2,h3,h4,h5⟩:=o3 z hz
  obtain ⟨hs,hi⟩:=(hK j q h2).1 h4
  rw [h3]
  by_cases e10:q.Op=10
  ·exact .inl e10
  by_cases e4:q.Op=4
  ·exact .inr e4
  exfalso
  have hs':=hsucc j q h2 e10 (λh=>absurd h e4) hs
  have hj':j+1<eQ.length:=by have:=bV hs'; omega
  obtain ⟨m,m1,m2,m3⟩:=hkept _ (j+1) (Nat.le_refl _) hs' hj'
  rw [h5 m (by omega) m2] at m3
  cases m3
end
noncomputable section
theorem Expr.eta' (x:Expr):Expr.mk x.Op x.N x.Args=x:=by cases x; rfl
theorem ah.eta' (x:ah):ah.mk x.Kind x.Var x.Box (Expr.mk x.Expr.Op x.Expr.N x.Expr.Args) x.Body x.Else=x:=by rw [Expr.eta']; cases x; rfl
def EOk:Nat->Expr->Prop
 | 0,_=>False
 | d+1,e=>(e.Op=0/\0<=e.N/\e.N<=99999/\e.Args=[])\/(e.Op=13/\0<=e.N/\e.N<=3/\e.Args=[])\/((1<=e.Op/\e.Op<=12)/\e.N=0/\∃ a b,e.Args=[a,b]/\EOk d a/\EOk d b)
theorem EOk.mono:∀ {d d':Nat} {e:Expr},EOk d e->d<=d'->EOk d' e
 | 0,_,_,h,_=>h.elim
 | d+1,0,_,_,h=>by omega
 | d+1,d'+1,e,h,hd=>by
  rcases h with h | h | ⟨h1,h2,a,b,h3,h4,h5⟩
  ·exact .inl h
  ·exact .inr (.inl h)
  ·exact .inr (.inr ⟨h1,h2,a,b,h3,h4.mono (by omega),h5.mono (by omega)⟩)
theorem wR:∀ {d k:Nat} {e:Expr} {dd:Int},EOk d e->(d:Int)<=dd->dd<=1000->d<=k->lq k e dd=some true
 | 0,_,_,_,h,_,_,_=>h.elim
 | d+1,0,_,_,_,_,_,h=>by omega
 | d+1,k+1,e,dd,h,hd,hd',hk=>by
  show fR k (lq k) e dd=_
  unfold fR
  rw [aM (by simp; omega)]
  rcases h with ⟨h1,h2,h3,h4⟩ | ⟨h1,h2,h3,h4⟩ | ⟨h1,h2,a,b,h3,h4,h5⟩
  ·rw [jB (by simpa using h1),m5,h4]; simp; omega
  ·rw [aM (by simp [h1]),jB (by simpa using h1),m5,h4]; simp; omega
  ·rw [aM (by simp; omega),aM (by simp; omega),oI,ob9,h3,aE (by omega) (by omega)]
   have e1:nth [a,b] 0=some a:=rfl
   have e2:nth [a,b] 1=some b:=rfl
   rw [jB (by simp [h1,h2]),e1]
   simp only [ob9,Expr.eta',wR (k:=k) h4 (show (d:Int)<=dd-1 by omega) (by omega) (by omega)]
   rw [jB rfl,e2]
   simp only [ob9,Expr.eta',wR (k:=k) h5 (show (d:Int)<=dd-1 by omega) (by omega) (by omega)]
theorem nd {k:Nat} {e:Expr} (h:EOk 5 e) (hk:5<=k):cd k e=some true:=by
 unfold cd
 rw [Expr.eta',wR h (by omega) (by omega) hk]; rfl
theorem ql:∀ {d k:Nat} {e:Expr} {at_:Int},EOk d e->0<=at_->at_+d<=12->d<=k->Tot (cD k e at_) λout=>out.length+1<=2^d/\1<=out.length/\∀ q∈out,∀ m,QOk m q
 | 0,_,_,_,h,_,_,_=>h.elim
 | d+1,0,_,_,_,_,_,h=>by omega
 | d+1,k+1,e,at_,h,h0,h12,hk=>by
  show Tot (fd k (cD k) e at_) _
  unfold fd
  have hp:2<=2^(d+1):=by rw [Nat.pow_succ]; have:=Nat.two_pow_pos d; omega
  have hr:Rg at_:=by unfold Rg; omega
  rcases h with ⟨h1,h2,h3,h4⟩ | ⟨h1,h2,h3,h4⟩ | ⟨h1,h2,a,b,h3,h4,h5⟩
  ·refine .st (by simpa using h1) (.pure ⟨by simpa using hp,by simp,λq hq m=>?_⟩)
   rw [List.mem_singleton.1 hq]
   exact .inl ⟨rfl,hr,rfl,rfl,by unfold Wd; simp only; omega⟩
  ·refine .sf (by simp [h1]) (.st (by simpa using h1) (.pure ⟨by simpa using hp,by simp,λq hq m=>?_⟩))
   rw [List.mem_singleton.1 hq]
   exact .inr (.inl ⟨rfl,hr,by unfold Rg; simp only; omega,rfl,rfl⟩)
  ·refine .sf (by simp; omega) (.sf (by simp; omega) ?_)
   have e1:nth e.Args 0=some a:=by rw [h3]; rfl
   have e2:nth e.Args 1=some b:=by rw [h3]; rfl
   have hd:1<=d:=by cases d with
    | zero=>exact h4.elim
    | succ d=>omega
   rw [e1,e2]
   simp only [ob9,Expr.eta']
   rw [aE (by omega) (by omega)]
   have h256:2^d<=4096:=Nat.le_trans (Nat.pow_le_pow_right (by omega) (show d<=12 by omega)) (by decide)
   refine .bind (ql (k:=k) h4 h0 (by omega) (by omega)) λx hx=>.bind (ql (k:=k) h5 (show 0<=at_+1 by omega) (by omega) (by omega)) λy hy=>.bind (.app (by omega)) λr hr'=>.bind (.app (by subst hr'; simp; omega)) λr2 hr2=>.pure ?_
   subst hr' hr2
   refine ⟨by simp only [List.length_append,List.length_cons,List.length_nil,Nat.pow_succ]; omega,by simp only [List.length_append,List.length_cons]; omega,λq hq m=>?_⟩
   simp only [List.mem_append,List.mem_singleton] at hq
   rcases hq with (hq | hq) | rfl
   ·exact hx.2.2 q hq m
   ·exact hy.2.2 q hq m
   ·exact .inr (.inr (.inl ⟨rfl,hr,hr,by unfold Rg; simp only; omega,by simp only; omega,by simp only; omega⟩))
def pc:Nat->Int
 | 0=>2
 | d+1=>3+2*pc d
theorem yv:∀ d,2<=pc d
 | 0=>by simp [pc]
 | d+1=>by have:=yv d; simp only [pc]; omega
variable {b:List Int} {p m:Int}
theorem C8 (hb:By b) (h0:0<=p) (hm:p<=m) (hp:m<=100000000):Dr (nm ⟨b,p⟩) (m+1) λx=>1<=x/\x<=12:=by
 unfold nm
 refine .bind (bU hb h0 hm (by omega) (by omega) (by omega)) λx p' hx h1 h2=>.pure ?_ h1 h2
 rw [aE (by omega) (by omega)]; omega
theorem zk (hb:By b) (h0:0<=p) (hm:p<=m) (hp:m<=100000000):Dr (hZ ⟨b,p⟩) (m+2) (EOk 1):=by
 unfold hZ
 refine .bind (bU hb h0 hm (by omega) (by omega) (by omega)) λx p' hx h1 h2=>.sel (λ_=>?_) λ_=>.sel (λ_=>?_) λ_=>?_
 ·refine .bind (bU hb h1 h2 (by omega) (by omega) (by omega)) λy p2 hy h3 h4=>.pure ?_ h3 (by omega)
  exact .inl ⟨rfl,by simp only; omega,by simp only; omega,rfl⟩
 ·refine .bind (bU hb h1 h2 (by omega) (by omega) (by omega)) λy p2 hy h3 h4=>.tot (.nth hy.1 (by simpa using hy.2)) λz ⟨_,hz⟩=>.pure ?_ h3 (by omega)
  refine .inl ⟨rfl,?_,?_,rfl⟩ <;> (simp at hz; simp only; omega)
 ·refine .bind (bU hb h1 h2 (by omega) (by omega) (by omega)) λy p2 hy h3 h4=>.pure ?_ h3 (by omega)
  exact .inr (.inl ⟨rfl,by simp only; omega,by simp only; omega,rfl⟩)
theorem wS (hb:By b):∀ {d k:Nat} {p m depth:Int},1<=depth->depth<=(d:Int)+1->(d+1<=k/\d<=100)->0<=p->p<=m->m+pc d<=100000000->Dr (eh k ⟨b,p⟩ depth) (m+pc d) (EOk (d+1))
 | d,0,_,_,_,_,_,h,_,_,_=>by omega
 | d,k+1,p,m,depth,h1,h2,hk,h0,hm,hp=>by
  show Dr (je k (eh k) ⟨b,p⟩ depth) _ _
  unfold je
  have hpc:=yv d
  have leaf:∀ {p':Int},0<=p'->p'<=m+pc d-2->Dr ((hZ ⟨b,p'⟩).bind λy2=>some (Expr.mk y2.1.Op y2.1.N y2.1.Args,y2.2)) (m+pc d) (EOk (d+1)):=λh0 hm=>by
   refine .bind (zk hb h0 hm (by omega)) λx p2 hx h3 h4=>.pure ?_ h3 (by omega)
   rw [Expr.eta']
   exact hx.mono (by omega)
  by_cases hd:depth<2
  ·refine .bind (x:=sel _ _ _) (m:=m) (P:=λc=>c=true) (.sel (λ_=>.pure rfl h0 hm) λh=>?_) λc p' hc h3 h4=>.sel (λ_=>leaf h3 (by omega)) λh=>by rw [hc] at h; cases h
   simp at h; omega
  ·obtain ⟨d,rfl⟩:∃ e,d=e+1:=⟨d-1,by omega⟩
   have hpd:=yv d
   simp only [pc] at *
   refine .bind (x:=sel _ _ _) (m:=m+1) (P:=λ_=>True) (.sel (λh=>?_) λh=>.bind (bU hb h0 hm (by omega) (by omega) (by omega)) λx p' _ h3 h4=>.pure trivial h3 h4) λc p' _ h3 h4=>.sel (λ_=>leaf h3 (by omega)) λ_=>?_
   ·simp at h; omega
   ·rw [aE (by omega) (by omega)]
    refine .bind (C8 hb h3 h4 (by omega)) λop p2 hop h5 h6=>.bind (wS hb (k:=k) (d:=d) (by omega) (by omega) ⟨by omega,by omega⟩ h5 h6 (by omega)) λx p3 hx h7 h8=>.bind (wS hb (k:=k) (d:=d) (by omega) (by omega) ⟨by omega,by omega⟩ h7 h8 (by omega)) λy p4 hy h9 h10=>?_
    refine .pure ?_ h9 (by omega)
    simp only [Expr.eta']
    exact .inr (.inr ⟨hop,rfl,x,y,rfl,hx,hy⟩)
def nK (s:ah):Prop:=s.Body=[]/\s.Else=[]/\((s.Kind=1/\(0<=s.Var/\s.Var<=3)/\s.Box=0/\EOk 5 s.Expr)\/(s.Kind=4/\s.Var=0/\(0<=s.Box/\s.Box<=2)/\EOk 5 s.Expr) \/
 (s.Kind=5/\(0<=s.Var/\s.Var<=3)/\(0<=s.Box/\s.Box<=2)/\s.Expr=⟨0,0,[]⟩)\/(s.Kind=6/\s.Var=0/\s.Box=0/\s.Expr=⟨0,0,[]⟩)\/(s.Kind=7/\s.Var=0/\s.Box=0/\EOk 5 s.Expr))
def SOk:Nat->ah->Prop
 | 0,s=>nK s
 | n+1,s=>nK s\/((s.Kind=2\/(s.Kind=3/\s.Else=[]))/\s.Var=0/\s.Box=0/\EOk 5 s.Expr/\(∀ x∈s.Body,SOk n x)/\∀ x∈s.Else,SOk n x)
theorem SOk.of_simp {s:ah} (h:nK s):∀ n,SOk n s
 | 0=>h
 | _+1=>.inl h
mutual
def ct:ah->Nat
 | ⟨_,_,_,_,b,e⟩=>1+cts b+cts e
def cts:List ah->Nat
 | []=>0
 | x::r=>ct x+cts r
end
theorem nS (s:ah):ct s=1+cts s.Body+cts s.Else:=by cases s; rfl
theorem uL:∀ l m:List ah,cts (l++m)=cts l+cts m
 | [],m=>by simp [cts]
 | x::l,m=>by simp only [List.cons_append,cts,uL l m]; omega
theorem ob:∀ (l:List ah) (i:Nat) (s:ah),l[i]?=some s->cts (l.take (i+1))=cts (l.take i)+ct s
 | [],_,_,h=>by simp at h
 | x::l,0,s,h=>by
  have:x=s:=by simpa using h
  subst this; simp [cts]
 | x::l,i+1,s,h=>by
  have:=ob l i s (by simpa using h)
  simp only [List.take_succ_cons,cts,this]; omega
theorem g8:∀ (l:List ah) (i:Nat),cts (l.take i)<=cts l
 | [],_=>by simp [cts]
 | x::l,0=>by simp [cts]
 | x::l,i+1=>by have:=g8 l i; simp only [List.take_succ_cons,cts]; omega
theorem yw (s:ah):1<=ct s:=by rw [nS]; omega
theorem ip:∀ l:List ah,l.length<=cts l
 | []=>Nat.le_refl _
 | x::l=>by have:=ip l; have:=yw x; simp only [List.length_cons,cts]; omega
theorem SOk.body {n:Nat} {s:ah} (h:SOk n s):(∀ x∈s.Body,SOk (n-1) x)/\(∀ x∈s.Else,SOk (n-1) x)/\(n=0->s.Body=[]/\s.Else=[]):=by
 cases n with
 | zero=>exact ⟨by rw [h.1]; simp,by rw [h.2.1]; simp,λ_=>⟨h.1,h.2.1⟩⟩
 | succ n =>
  rcases h with h | h
  ·exact ⟨by rw [h.1]; simp,by rw [h.2.1]; simp,λh=>by omega⟩
  ·exact ⟨h.2.2.2.2.1,h.2.2.2.2.2,λh=>by omega⟩
theorem ww {k:Nat} (hk:1<=k):ce k []=some 0:=by
 obtain ⟨k,rfl⟩:∃ j,k=j+1:=⟨k-1,by omega⟩
 show cA k (ce k) []=_
 unfold cA
 rw [dg]
 unfold gw
 rfl
theorem sX:∀ {n k:Nat} {l:List ah},n+2<=k->(∀ x∈l,SOk n x)->cts l<=1000000->Tot (ce k l) λr=>r=(cts l:Int)
 | n,0,_,h,_,_=>by omega
 | n,k+1,l,hk,hl,hc=>by
  show Tot (cA k (ce k) l) _
  unfold cA
  have hlen:=ip l
  refine .bind (P:=λr=>r=(cts l:Int)) (.iter (λs=>0<=s.2/\s.2<=(l.length:Int)/\s.1=(cts (l.take s.2.toNat):Int)) (λs=>((l.length:Int)-s.2).toNat) ⟨by simp,by simp,by simp [cts]⟩ λs hs=>?_) λr hr=>.pure hr
  obtain ⟨c,i⟩:=s
  obtain ⟨g0,g1,g2⟩:=hs
  simp only at g0 g1 g2
  unfold gw
  refine .sel (λhlt=>?_) λhge=>.inr (show c=_ from ?_)
  ·simp only [decide_eq_true_eq] at hlt
   refine .bind (.nth g0 hlt) λx ⟨hx,hxm⟩=>.bind (.nth g0 hlt) λx' ⟨hx',_⟩=>?_
   obtain rfl:x=x':=o9 (hx.symm.trans hx')
   have h1:=ob l i.toNat x hx
   have h2:=g8 l (i.toNat+1)
   have h3:=nS x
   have hb:=(hl x hxm).body
   have sub:∀ bl,(∀ y∈bl,SOk (n-1) y)->(n=0->bl=[])->cts bl<=1000000->Tot (ce k bl) λr=>r=(cts bl:Int):=λbl hbl hn hcb=>by
    cases n with
    | zero=>rw [hn rfl,ww (by omega)]; exact .pure rfl
    | succ n=>exact sX (by omega) hbl hcb
   refine .bind (sub x.Body hb.1 (λh=>(hb.2.2 h).1) (by omega)) λy hy=>.bind (sub x.Else hb.2.1 (λh=>(hb.2.2 h).2) (by omega)) λz hz=>.inl ?_
   subst hy hz
   rw [aE (i:=c+1) (by omega) (by omega),aE (i:=c+1+_) (by omega) (by omega),aE (by omega) (by omega),aq g0 (by omega)]
   refine ⟨⟨by simp only; omega,by simp only; omega,?_⟩,by simp only; omega⟩
   simp only
   rw [show (i+1).toNat=i.toNat+1 by omega,h1,h3,g2]; omega
  ·simp only [decide_eq_false_iff_not] at hge
   rw [g2,List.take_of_length_le (by omega)]
def tc:Nat->Int
 | 0=>60
 | n+1=>60+4*tc n
def sc:Nat->Nat
 | 0=>2
 | n+1=>3+4*sc n
theorem sY:∀ n,60<=tc n
 | 0=>by simp [tc]
 | n+1=>by have:=sY n; simp only [tc]; omega
theorem AV:∀ n,2<=sc n
 | 0=>by simp [sc]
 | n+1=>by have:=AV n; simp only [sc]; omega
theorem rU (hb:By b) {k:Nat} {depth:Int} (h1:1<=depth) (h2:depth<=3) (hk:3<=k) (h0:0<=p) (hm:p<=m) (hp:m<=90000000):Dr (eh k ⟨b,p⟩ depth) (m+17) (EOk 5):=
 (wS hb (d:=2) h1 (by omega) ⟨hk,by omega⟩ h0 hm (by simp only [pc]; omega)).mono (by simp only [pc]; omega) λe h=>h.mono (by omega)
theorem AW (hb:By b) {k:Nat} (hk:3<=k) (h0:0<=p) (hm:p<=m) (hp:m<=80000000):Dr (lm k ⟨b,p⟩) (m+19) nK:=by
 unfold lm
 refine .bind (bU hb h0 hm (by omega) (by omega) (by omega)) λv p1 hv h1 h2=>.bind (bU hb h1 h2 (by omega) (by omega) (by omega)) λx p2 hx h3 h4=>?_
 rw [aE (by omega) (by omega)]
 refine .bind (rU hb (by omega) (by omega) hk h3 h4 (by omega)) λe p3 he h5 h6=>.pure ?_ h5 (by omega)
 rw [Expr.eta']
 exact ⟨rfl,rfl,.inl ⟨rfl,⟨hv.1,by simp only; omega⟩,rfl,he⟩⟩
theorem BK (hb:By b) {k:Nat} {nb:Int} (hn:nb<=3) (hk:3<=k) (h0:0<=p) (hm:p<=m) (hp:m<=80000000):Dr (lD k ⟨b,p⟩ nb) (m+20) nK:=by
 unfold lD
 refine .sel (λ_=>.bind (AW hb hk h0 hm hp) λs p' hs h1 h2=>.pure (by rw [ah.eta']; exact hs) h1 (by omega)) λh=>?_
 simp only [decide_eq_false_iff_not] at h
 refine .bind (bU hb h0 hm (by omega) (by omega) (by omega)) λv p1 hv h1 h2=>.bind (bU hb h1 h2 (by omega) (by omega) (by omega)) λx p2 hx h3 h4=>.sel (λ_=>?_) λ_=>?_
 ·refine .bind (bU hb h3 h4 (by omega) (by omega) (by omega)) λy p3 hy h5 h6=>?_
  rw [aE (by omega) (by omega)]
  refine .bind (rU hb (by omega) (by omega) hk h5 h6 (by omega)) λe p4 he h7 h8=>.pure ?_ h7 (by omega)
  rw [Expr.eta']
  exact ⟨rfl,rfl,.inr (.inl ⟨rfl,rfl,⟨hv.1,by simp only; omega⟩,he⟩)⟩
 ·refine .bind (bU hb h3 h4 (by omega) (by omega) (by omega)) λy p3 hy h5 h6=>.pure ?_ h5 (by omega)
  exact ⟨rfl,rfl,.inr (.inr (.inl ⟨rfl,⟨hy.1,by simp only; omega⟩,⟨hv.1,by simp only; omega⟩,rfl⟩))⟩
def f0 (n:Nat) (c:Nat) (l:List ah):Prop:=(∀ x∈l,SOk n x)/\cts l<=c
def zN (b:List Int) (nb:Int) (n:Nat):Prop:=∀ (k:Nat) {p m w:Int} {loops:Bool},3*n+8<=k->0<=p->p<=m->0<=w->w<=10->m+w*tc n<=50000000->Dr (cR k ⟨b,p⟩ nb n w loops) (m+w*tc n) (f0 n (w.toNat*sc n))
theorem zN.two {nb:Int} {n:Nat} (h:zN b nb n) (k:Nat) {w:Int} {loops:Bool} (hk:3*n+8<=k) (h0:0<=p) (hm:p<=m) (w0:0<=w) (w2:w<=2) (hb:m+2*tc n<=50000000):Dr (cR k ⟨b,p⟩ nb n w loops) (m+2*tc n) (f0 n (2*sc n)):=by
 have h1:w*tc n<=2*tc n:=Int.mul_le_mul_of_nonneg_right w2 (by have:=sY n; omega)
 have h2:w.toNat*sc n<=2*sc n:=Nat.mul_le_mul_right _ (by omega)
 exact (h k hk h0 hm w0 (by omega) (by omega)).mono (by omega) λl hl=>⟨hl.1,Nat.le_trans hl.2 h2⟩
theorem oK {n:Nat} {s:ah} (h:nK s):f0 n (sc n) [s]/\[s].length<=2:=by
 have h1:ct s=1:=by rw [nS,h.1,h.2.1]; rfl
 have h2:=AV n
 refine ⟨⟨λx hx=>?_,by simp only [cts,h1]; omega⟩,by simp⟩
 rw [List.mem_singleton.1 hx]
 exact .of_simp h n
theorem BL (hb:By b) {nb:Int} (hnb:nb<=3) {n k:Nat} (hk:3*n+7<=k) (ih:∀ e,n=e+1->zN b nb e) {loops:Bool} (h0:0<=p) (hm:p<=m) (hn:n<=3) (hp:m+tc n<=50000000):Dr (jH k ⟨b,p⟩ nb n loops) (m+tc n) (λl=>f0 n (sc n) l/\l.length<=2):=by
 obtain ⟨k,rfl⟩:∃ j,k=j+1:=⟨k-1,by omega⟩
 show Dr (jg k (cR k) (jH k) (np k) (lG k) ⟨b,p⟩ nb n loops) _ _
 have htc:=sY n
 unfold jg
 refine .tot (P:=λz=>match z with | .inl q=>0<=q/\q<=m+1 | .inr r=>0<=r.2/\r.2<=m+tc n/\f0 n (sc n) r.1/\r.1.length<=2) ?_ λz hz=>?_
 ·refine .bind (bU hb h0 hm (by omega) (by omega) (by omega)) λy hy=>.bind (P:=λ_=>True) (.sel (λ_=>.pure trivial) λ_=>.pure trivial) λ_ _=>.sel (λ_=>.bind (AW hb (by omega) hy.1 hy.2.1 (by omega)) λr hr=>.inr ⟨hr.1,by have:=hr.2.1; simp only; omega,?_⟩) λ_=>.sel (λ_=>.sel (λhpos=>?_) λ_=>.inl ⟨hy.1,hy.2.1⟩) λ_=>.sel (λ_=>.sel (λhpos=>?_) λ_=>.inl ⟨hy.1,hy.2.1⟩) λ_ =>
   .bind (P:=λ_=>True) (.sel (λ_=>.pure trivial) λ_=>.sel (λ_=>.pure trivial) λ_=>.pure trivial) λ_ _=>.sel (λ_=>.bind (BK hb hnb (by omega) hy.1 hy.2.1 (by omega)) λr hr=>.inr ⟨hr.1,by have:=hr.2.1; simp only; omega,?_⟩) λ_=>.sel (λ_=>.inr ⟨hy.1,by have:=hy.2.1; simp only; omega,?_⟩) λ_=>.inl ⟨hy.1,hy.2.1⟩
  ·rw [ah.eta']; exact oK hr.2.2
  ·-- an if
   simp only [decide_eq_true_eq] at hpos
   obtain ⟨n,rfl⟩:∃ e,n=e+1:=⟨n-1,by omega⟩
   have hB:=ih n rfl
   have ht:=sY n
   obtain ⟨k,rfl⟩:∃ j,k=j+1:=⟨k-1,by omega⟩
   simp only [tc] at htc hp ⊢
   refine .bind (P:=λr=>0<=r.2/\r.2<=m+(60+4*tc n)/\SOk (n+1) r.1/\ct r.1<=1+4*sc n) ?_ λr hr=>.inr ⟨hr.1,hr.2.1,⟨λx hx=>?_,?_⟩,by simp⟩
   ·show Tot (lF k (cR k) (jH k) (np k) (lG k) ⟨b,y.2⟩ nb ((n+1:Nat):Int) loops) _
    unfold lF
    rw [aE (i:=((n+1:Nat):Int)-1) (by omega) (by omega),show ((n+1:Nat):Int)-1=n by omega]
    refine .bind (bU hb hy.1 hy.2.1 (by omega) (by omega) (by omega)) λy1 h1=>?_
    rw [aE (i:=1+y1.1) (by have:=h1.2.2; omega) (by have:=h1.2.2; omega)]
    refine .bind (rU hb (by have:=h1.2.2; omega) (by have:=h1.2.2; omega) (by omega) h1.1 h1.2.1 (by omega)) λy2 h2=>.bind (bU hb h2.1 h2.2.1 (by omega) (by omega) (by omega)) λy3 h3=>.bind (hB.two k (by omega) h3.1 h3.2.1 h3.2.2.1 (by have:=h3.2.2.2; omega) (by omega)) λy4 h4=>.bind (bU hb h4.1 h4.2.1 (by omega) (by omega) (by omega)) λy5 h5=>.bind (hB.two k (by omega) h5.1 h5.2.1 h5.2.2.1 (by have:=h5.2.2.2; omega) (by omega)) λy6 h6=>.pure ⟨h6.1,by have:=h6.2.1; simp only; omega,?_,?_⟩
    ·rw [Expr.eta']
     exact .inr ⟨.inl rfl,rfl,rfl,h2.2.2,h4.2.2.1,h6.2.2.1⟩
    ·rw [nS]; have:=h4.2.2.2; have:=h6.2.2.2; simp only; omega
   ·rw [List.mem_singleton.1 hx,ah.eta']; exact hr.2.2.1
   ·simp only [cts,ah.eta',sc]; have:=hr.2.2.2; omega
  ·-- a loop
   simp only [Bool.and_eq_true,decide_eq_true_eq] at hpos
   obtain ⟨n,rfl⟩:∃ e,n=e+1:=⟨n-1,by omega⟩
   have hB:=ih n rfl
   have ht:=sY n
   obtain ⟨k,rfl⟩:∃ j,k=j+1:=⟨k-1,by omega⟩
   simp only [tc] at htc hp ⊢
   refine .bind (P:=λr=>0<=r.2/\r.2<=m+(60+4*tc n)/\f0 (n+1) (sc (n+1)) r.1/\r.1.length<=2) ?_ λr hr=>.inr hr
   show Tot (jh k (cR k) (jH k) (np k) (lG k) ⟨b,y.2⟩ nb ((n+1:Nat):Int)) _
   unfold jh
   rw [aE (i:=((n+1:Nat):Int)-1) (by omega) (by omega),show ((n+1:Nat):Int)-1=n by omega]
   refine .bind (bU hb hy.1 hy.2.1 (by omega) (by omega) (by omega)) λy1 h1=>.bind (hB.two k (by omega) h1.1 h1.2.1 h1.2.2.1 (by have:=h1.2.2.2; omega) (by omega)) λy2 h2=>?_
   simp only [cJ,lk,ob9]
   refine .bind (bU hb h2.1 h2.2.1 (by omega) (by omega) (by omega)) λy7 h7=>?_
   rw [aE (i:=1+y7.1) (by have:=h7.2.2; omega) (by have:=h7.2.2; omega)]
   have hlen:=ip y2.1
   have hct:=h2.2.2.2
   have hsc:sc n<=10000:=by
    rcases (show n=0\/n=1\/n=2 by omega) with rfl | rfl | rfl <;> decide
   refine .bind (.app (by simp only [List.length_cons,List.length_nil]; omega)) λr hr=>.pure ⟨h7.1,by have:=h7.2.1; simp only; omega,?_⟩
   subst hr
   have e13:EOk 4 ⟨13,3,[]⟩:=.inr (.inl ⟨rfl,by simp,by simp,rfl⟩)
   have e0:∀ v,0<=v->v<=99999->EOk 4 ⟨0,v,[]⟩:=λv h1 h2=>.inl ⟨rfl,h1,h2,rfl⟩
   have s1:nK (ah.mk 1 3 0 (Expr.mk 8 0 [⟨13,3,[]⟩,⟨0,1,[]⟩]) [] []):=⟨rfl,rfl,.inl ⟨rfl,⟨by simp,by simp⟩,rfl,.inr (.inr ⟨⟨by simp,by simp⟩,rfl,_,_,rfl,e13,e0 1 (by omega) (by omega)⟩)⟩⟩
   have s2:nK (ah.mk 1 3 0 (Expr.mk 0 0 []) [] []):=⟨rfl,rfl,.inl ⟨rfl,⟨by simp,by simp⟩,rfl,(e0 0 (by omega) (by omega)).mono (by omega)⟩⟩
   have h77:0<=y7.1/\y7.1<3:=h7.2.2
   refine ⟨⟨λx hx=>?_,?_⟩,by simp⟩
   ·simp only [List.mem_cons,List.not_mem_nil,or_false] at hx
    rcases hx with rfl | rfl
    ·exact .of_simp s2 _
    ·refine .inr ⟨.inr ⟨rfl,rfl⟩,rfl,rfl,.inr (.inr ⟨⟨by simp,by simp⟩,rfl,_,_,rfl,e13,e0 (1+y7.1) (by omega) (by omega)⟩),λx hx=>?_,by simp⟩
     simp only [List.mem_append,List.mem_singleton] at hx
     rcases hx with hx | rfl
     ·exact h2.2.2.1 x hx
     ·exact .of_simp s1 _
   ·simp only [cts,ct,uL,sc]; omega
  ·rw [ah.eta']; exact oK hr.2.2
  ·exact oK ⟨rfl,rfl,.inr (.inr (.inr (.inl ⟨rfl,rfl,rfl,rfl⟩)))⟩
 ·refine .both (λq e=>?_) λr e=>?_
  ·subst e
   obtain ⟨g0,g1⟩:0<=q/\q<=m+1:=hz
   refine .bind (bU hb g0 g1 (by omega) (by omega) (by omega)) λx p2 hx h3 h4=>?_
   dsimp only
   rw [aE (i:=1+x) (by omega) (by omega)]
   refine .bind (rU hb (depth:=1+x) (by omega) (by omega) (by omega) h3 h4 (by omega)) λe p3 he h5 h6=>.pure ?_ h5 (by omega)
   rw [Expr.eta']
   exact oK ⟨rfl,rfl,.inr (.inr (.inr (.inr ⟨rfl,rfl,rfl,he⟩)))⟩
  ·subst e; obtain ⟨r1,r2⟩:=r; exact .pure hz.2.2 hz.1 hz.2.1
theorem xG (hb:By b) {nb:Int} (hnb:nb<=3):∀ n,n<=3->zN b nb n:=by
 intro n
 induction n with
 | zero=>intro _; exact blk 0 (by omega) λe h=>by omega
 | succ n ih=>intro hn; exact blk (n+1) hn λe h=>(by omega:e=n)▸ih (by omega)
where
 blk (n:Nat) (hn:n<=3) (ih:∀ e,n=e+1->zN b nb e):zN b nb n:=by
  intro k p m w loops hk h0 hm w0 w10 hp
  obtain ⟨k,rfl⟩:∃ j,k=j+1:=⟨k-1,by omega⟩
  show Dr (iw k (cR k) (jH k) (np k) (lG k) ⟨b,p⟩ nb n w loops) _ _
  unfold iw
  have htc:=sY n
  have hsc:sc n<=10000:=by
   rcases (show n=0\/n=1\/n=2\/n=3 by omega) with rfl | rfl | rfl | rfl <;> decide
  refine .tot (P:=λr=>0<=r.2/\r.2<=m+w*tc n/\f0 n (w.toNat*sc n) r.1) (.iter (λs=>0<=s.2.1/\s.2.1<=w/\0<=s.2.2/\s.2.2<=m+s.2.1*tc n/\f0 n (s.2.1.toNat*sc n) s.1) (λs=>(w-s.2.1).toNat) ⟨by simp,by simpa using w0,h0,by simp only; omega,by simp [f0,cts]⟩ λs hs=>?_) λr hr=>.pure hr.2.2 hr.1 hr.2.1
  obtain ⟨l,i,q⟩:=s
  obtain ⟨g0,g1,g2,g3,g4⟩:=hs
  simp only at g0 g1 g2 g3 g4
  unfold mi
  refine .sel (λhlt=>?_) λhge=>.inr (show 0<=q/\q<=m+w*tc n/\f0 n (w.toNat*sc n) l from ?_)
  ·simp only [decide_eq_true_eq] at hlt
   have e1:(i+1)*tc n=i*tc n+tc n:=by rw [Int.add_mul,Int.one_mul]
   have e2:(i+1)*tc n<=w*tc n:=Int.mul_le_mul_of_nonneg_right (by omega) (by omega)
   refine .bind (BL hb hnb (by omega) ih g2 g3 hn (by omega)) λy hy=>?_
   have hll:=ip l
   have hil:i.toNat*sc n<=10*sc n:=Nat.mul_le_mul_right _ (by omega)
   have hb4:=g4.2
   have hy22:f0 n (sc n) y.1/\y.1.length<=2:=hy.2.2
   refine .bind (.app (l:=l) (by have:=hy22.2; omega)) λr hr=>.inl ?_
   subst hr
   rw [aq g0 (by omega)]
   refine ⟨⟨by simp only; omega,by simp only; omega,hy.1,by have:=hy.2.1; simp only; omega,λx hx=>?_,?_⟩,by simp only; omega⟩
   ·simp only [List.mem_append] at hx
    exact hx.elim (g4.1 x) (hy.2.2.1.1 x)
   ·simp only
    rw [uL,show (i+1).toNat=i.toNat+1 by omega,Nat.add_mul,Nat.one_mul]
    have:=hy.2.2.1.2
    omega
  ·simp only [decide_eq_false_iff_not] at hge
   obtain rfl:i=w:=by omega
   exact ⟨g2,g3,g4⟩
theorem AX (hb:By b) {nb:Int} (hnb:nb<=3) {k:Nat} (hk:20<=k) (h0:0<=p) (hm:p<=m) (hp:m<=1000000):Dr (km k ⟨b,p⟩ nb) (m+40000) (f0 3 16):=by
 unfold km
 refine .bind (bU hb h0 hm (by omega) (by omega) (by omega)) λv p1 hv h1 h2=>?_
 dsimp only
 rw [aE (by omega) (by omega)]
 have e1:(1+v)*tc 3<=6*tc 3:=Int.mul_le_mul_of_nonneg_right (by omega) (by decide)
 have e2:(6:Int)*tc 3=30600:=by decide
 have e5:m+1+(1+v)*tc 3<=50000000:=by omega
 refine .bind (xG hb hnb 3 (by omega) k (by omega) h1 h2 (by omega) (by omega) e5) λl p2 hl h3 h4=>?_
 have e3:(1+v).toNat*sc 3<=6*sc 3:=Nat.mul_le_mul_right _ (by omega)
 have e4:6*sc 3=1146:=by decide
 dsimp only
 have hl2:=hl.2
 refine .tot (P:=f0 3 16) (.iter (λs=>f0 3 1146 s) List.length ⟨hl.1,by omega⟩ λs hs=>?_) λr hr=>.pure hr h3 (by omega)
 unfold mj
 refine .bind (sX (n:=3) (by omega) hs.1 (by have:=hs.2; omega)) λc hc=>.sel (λh=>?_) λh=>.inr ?_
 ·simp only [decide_eq_true_eq] at h
  have hne:1<=s.length:=by
   rcases Nat.eq_zero_or_pos s.length with h0 | h0
   ·have:s=[]:=List.eq_nil_of_length_eq_zero h0
    subst this; simp [cts] at hc; omega
   ·exact h0
  have hlen:=ip s
  have h1146:=hs.2
  rw [aE (by omega) (by omega)]
  refine .bind (.cut (by omega)) λr hr=>.inl ?_
  subst hr
  simp only [Int.toNat_zero,List.drop_zero]
  exact ⟨⟨λx hx=>hs.1 x (List.mem_of_mem_take hx),Nat.le_trans (g8 _ _) hs.2⟩,by rw [List.length_take]; omega⟩
 ·simp only [decide_eq_false_iff_not] at h
  exact ⟨hs.1,by omega⟩
end
noncomputable section
variable {b:List Int} {p m:Int}
theorem vt:∀ {l:List ah} {x:ah},x∈l->ct x<=cts l
 | [],_,h=>by simp at h
 | y::l,x,h=>by
  simp only [cts]
  rcases List.mem_cons.1 h with rfl | h
  ·omega
  ·have:=vt h; omega
theorem wT (s:ah) (u:Bool):eK s u=some (if u then decide (0<=s.Var)&&decide (s.Var<=3) else s.Var==0):=by cases u <;> rfl
theorem wU (s:ah) (u:Bool):eL s u=some (if u then decide (0<=s.Box)&&decide (s.Box<=2) else s.Box==0):=by cases u <;> rfl
theorem zO {k:Nat} (hk:5<=k) {s:ah} (h:nK s):dI k s=some true:=by
 obtain ⟨h1,h2,h3⟩:=h
 unfold dI
 simp only [ah.eta',Expr.eta',wT,wU,h1,h2]
 rw [aM (by simp)]
 rcases h3 with ⟨a1,a2,a3,a4⟩ | ⟨a1,a2,a3,a4⟩ | ⟨a1,a2,a3,a4⟩ | ⟨a1,a2,a3,a4⟩ | ⟨a1,a2,a3,a4⟩
 ·rw [jB (by simp [a1])]; simp [a2.1,a2.2,a3,nd a4 hk,sel]
 ·rw [aM (by simp [a1]),jB (by simp [a1])]; simp [a2,a3.1,a3.2,nd a4 hk,sel]
 ·rw [aM (by simp [a1]),aM (by simp [a1]),jB (by simp [a1])]; simp [a2.1,a2.2,a3.1,a3.2,a4,f6,sel]
 ·rw [aM (by simp [a1]),aM (by simp [a1]),aM (by simp [a1]),jB (by simp [a1])]; simp [a2,a3,a4,f6,sel]
 ·rw [aM (by simp [a1]),aM (by simp [a1]),aM (by simp [a1]),aM (by simp [a1]),jB (by simp [a1])]; simp [a2,a3,nd a4 hk,sel]
theorem nK.kind {s:ah} (h:nK s):s.Kind≠2/\s.Kind≠3:=by
 obtain ⟨_,_,h⟩:=h
 rcases h with h | h | h | h | h <;> (have:=h.1; omega)
theorem zP:∀ (n:Nat) {k:Nat} {l:List ah},2*n+8<=k->n<=3->(∀ x∈l,SOk n x)->cts l<=1000000->bJ k l n=some true:=by
 intro n
 induction n with
 | zero=>exact λhk hn hl hc=>key 0 (λh=>by omega) hk hn hl hc
 | succ n ih=>exact λhk hn hl hc=>key (n+1) (λ_ {k l} h1 h2 h3=>by have:=ih (k:=k) (l:=l) h1 (by omega) h2 h3; simpa using this) hk hn hl hc
where
 key (n:Nat) (ih:1<=n->∀ {k:Nat} {l:List ah},2*(n-1)+8<=k->(∀ x∈l,SOk (n-1) x)->cts l<=1000000->bJ k l ((n-1:Nat):Int)=some true) {k:Nat} {l:List ah} (hk:2*n+8<=k) (hn:n<=3) (hl:∀ x∈l,SOk n x) (hc:cts l<=1000000):bJ k l n=some true:=by
  obtain ⟨k,rfl⟩:∃ j,k=j+2:=⟨k-2,by omega⟩
  refine Tot.eq ?_
  show Tot (dn (k+1) (bJ (k+1)) (nu (k+1)) l n) _
  unfold dn
  have hlen:=ip l
  refine .bind (P:=λz=>z=.inr ()) (.iter (λi:Int=>0<=i/\i<=l.length) (λi=>(l.length-i).toNat) ⟨by omega,by omega⟩ λi ⟨g0,g1⟩=>?_) λz hz=>by subst hz; exact .pure rfl
  unfold i3
  refine .sel (λh=>?_) λ_=>.inr rfl
  simp only [decide_eq_true_eq] at h
  refine .bind (.nth g0 h) λx ⟨_,hm⟩=>?_
  rw [ah.eta']
  refine .bind (P:=λy=>y=true) ?_ λy hy=>.sf (by rw [hy]; rfl) (.inl ?_)
  ·have hx:=hl x hm
   have hcx:=vt hm
   have hce:=nS x
   show Tot (ic k (bJ k) (nu k) x n) _
   unfold ic
   simp only [ah.eta',Expr.eta',wT,wU]
   have simp_case:nK x->Tot (sel (x.Kind !=2&&x.Kind !=3) ((dI k x).bind λy1=>some y1) (sel (decide ((n:Int)<1)||(x.Kind==3&&decide ((x.Else.length:Int)>0))) (some false) ((some (if false=true then decide (0<=x.Var)&&decide (x.Var<=3) else x.Var==0)).bind λy2=>(sel y2 ((some (if false=true then decide (0<=x.Box)&&decide (x.Box<=2) else x.Box==0)).bind λy3=>some y3) (some false)).bind λb1=>(sel b1 ((cd k x.Expr).bind λy4=>some y4) (some false)).bind λb2=>(sel b2 ((bJ k x.Body (w64 ((n:Int)-1))).bind λy5=>some y5) (some false)).bind λb3=>(sel b3 ((bJ k x.Else (w64 ((n:Int)-1))).bind λy6=>some y6) (some false)).bind λb4=>some b4))) (λy=>y=true):=λhs=>by
    refine .st (by have:=hs.kind; simp [this.1,this.2]) ?_
    rw [zO (by omega) hs]; exact .pure rfl
   cases n with
   | zero=>exact simp_case hx
   | succ n =>
    rcases hx with hx | ⟨hkd,hv,hb,he,hbd,hel⟩
    ·exact simp_case hx
    ·refine .sf (by rcases hkd with h | h <;> simp [h]) (.sf (by rcases hkd with h | h <;> simp [h] <;> omega) ?_)
     rw [aE (by omega) (by omega),show ((n+1:Nat):Int)-1=((n+1-1:Nat):Int) by omega]
     have i1:=ih (by omega) (k:=k) (l:=x.Body) (by omega) hbd (by omega)
     have i2:=ih (by omega) (k:=k) (l:=x.Else) (by omega) hel (by omega)
     simp only [i1,i2,nd he (show 5<=k by omega),hv,hb]
     exact .pure rfl
  ·rw [aq g0 (by omega)]
   exact ⟨⟨by omega,by omega⟩,by omega⟩
theorem qP {k:Nat} (hk:20<=k) {l:List ah} (h:f0 3 16 l):cB k l=some true:=by
 unfold cB
 have h2:=h.2
 have h1:=zP 3 (k:=k) (by omega) (by omega) h.1 (by omega)
 rw [show ((3:Nat):Int)=3 from rfl] at h1
 rw [h1,ob9,jB rfl,(sX (n:=3) (k:=k) (by omega) h.1 (by omega)).eq]
 simp; omega
def Cq (hi:Int) (out:List ab):Prop:=∀ q∈out,QOk (hi+1) q
theorem Cq.mono {hi hi':Int} {out:List ab} (h:Cq hi out) (hh:hi<=hi'):Cq hi' out:=λq hq=>(h q hq).mono (by omega)
theorem Cq.app {hi:Int} {out out':List ab} (h:Cq hi out) (h':Cq hi out'):Cq hi (out++out'):=λq hq=>(List.mem_append.1 hq).elim (h q) (h' q)
theorem Cq.one {hi:Int} {q:ab} (h:QOk (hi+1) q):Cq hi [q]:=λq' hq=>by rw [List.mem_singleton.1 hq]; exact h
theorem yx {k:Nat} {e:Expr} (h:EOk 5 e) (hk:5<=k):Tot (cD k e 4) λout=>out.length<=31/\1<=out.length/\∀ hi,Cq hi out:=
 (ql h (by omega) (by omega) hk).mono λout ho=>⟨by have:=ho.1; omega,ho.2.1,λhi q hq=>ho.2.2 q hq _⟩
theorem Cy {k:Nat} (hk:1<=k):Tot (cD k ⟨0,0,[]⟩ 4) λout=>out.length<=31/\1<=out.length/\∀ hi,Cq hi out:=
 (ql (d:=1) (.inl ⟨rfl,by simp,by simp,rfl⟩) (by omega) (by omega) hk).mono λout ho=>⟨by have:=ho.1; omega,ho.2.1,λhi q hq=>ho.2.2 q hq _⟩
def wV (base:Int) (c:Nat) (out:List ab):Prop:=out.length<=33*c/\Cq (base+out.length) out
def zl (n:Nat):Prop:=∀ {k:Nat} {l:List ah} {base:Int},3*n+8<=k->(∀ x∈l,SOk n x)->0<=base->base+33*cts l<=100000->Tot (bO k l base) (wV base (cts l))
theorem zQ {n k : Nat} (ih : ∀ e, n = e + 1 → zl e) {x : ah} (hx : SOk n x) {base : Int} (hk : 3 * n + 7 ≤ k) (h0 : 0 ≤ base) (h1 : base + 33 * ct x ≤ 100000) : Tot (cj k x base) (wV base (ct x)) := by
  obtain ⟨k, rfl⟩ : ∃ j, k = j + 1 := ⟨k - 1, by omega⟩
  show Tot (cY k (bO k) (cj k) (f7 k) (cT k) x base) _
  have hce := nS x
  have r4 : Rg 4 := by unfold Rg; omega
  have hexp : EOk 5 x.Expr ∨ x.Expr = ⟨0, 0, []⟩ := by
    have hs : nK x → EOk 5 x.Expr ∨ x.Expr = ⟨0, 0, []⟩ := fun h => by
      rcases h.2.2 with h | h | h | h | h
      · exact .inl h.2.2.2
      · exact .inl h.2.2.2
      · exact .inr h.2.2.2
      · exact .inr h.2.2.2
      · exact .inl h.2.2.2
    cases n with
    | zero => exact hs hx
    | succ n => rcases hx with h | h
                · exact hs h
                · exact .inl h.2.2.2.1
  have he : ∀ {k}, 5 ≤ k → Tot (cD k x.Expr 4) fun out => out.length ≤ 31 ∧ 1 ≤ out.length ∧ ∀ hi, Cq hi out := fun hk => hexp.elim (fun h => yx h hk) fun h => by rw [h]; exact Cy (by omega)
  unfold cY
  simp only [ah.eta', Expr.eta']
  refine .bind (he (by omega)) fun ex hex => .sel (fun hkd => ?_) fun h2 => .sel (fun hkd => ?_) fun h3 => ?_
  · -- an if
    simp only [beq_iff_eq] at hkd
    have hns : ¬ nK x := fun h => h.kind.1 hkd
    obtain ⟨n, rfl⟩ : ∃ e, n = e + 1 := ⟨n - 1, by cases n with | zero => exact absurd hx hns | succ n => omega⟩
    obtain ⟨_, _, _, hee, hbd, hel⟩ := hx.resolve_left hns
    obtain ⟨k, rfl⟩ : ∃ j, k = j + 1 := ⟨k - 1, by omega⟩
    refine .bind (P := wV base (ct x)) ?_ fun r hr => .pure hr
    show Tot (ie k (bO k) (cj k) (f7 k) (cT k) x base) _
    unfold ie
    simp only [Expr.eta']
    refine .bind (yx hee (by omega)) fun e he => ?_
    rw [aE (i := base + e.length) (by omega) (by omega), aE (i := base + e.length + 1) (by omega) (by omega)]
    refine .bind (ih n rfl (k := k) (by omega) hbd (by omega) (by omega)) fun bd ⟨hb1, hb2⟩ => ?_
    rw [aE (i := base + e.length + 1 + bd.length) (by omega) (by omega)]
    refine .sel (fun h => ?_) fun h => ?_
    · refine .bind (.app (by simp; omega)) fun r hr => .bind (.app (by subst hr; simp; omega)) fun r2 hr2 => .pure ?_
      subst hr hr2
      refine ⟨by simp; omega, ((he.2.2 _).app (.one ?_)).app (hb2.mono (by simp; omega))⟩
      exact .inr (.inr (.inr (.inr (.inl ⟨rfl, rfl, r4, rfl, by simp only; omega, by simp; omega⟩))))
    · rw [aE (i := base + e.length + 1 + bd.length + 1) (by omega) (by omega)]
      refine .bind (ih n rfl (k := k) (by omega) hel (by omega) (by omega)) fun el ⟨he1, he2⟩ => .bind (.app (by simp; omega)) fun r hr => .bind (.app (by subst hr; simp; omega)) fun r2 hr2 => .bind (.app (by subst hr hr2; simp; omega)) fun r3 hr3 => .bind (.app (by subst hr hr2 hr3; simp; omega)) fun r4' hr4 => .pure ?_
      subst hr hr2 hr3 hr4
      rw [aE (i := base + e.length + 1 + bd.length + 1 + el.length) (by omega) (by omega)]
      refine ⟨by simp; omega, ((((he.2.2 _).app (.one ?_)).app (hb2.mono (by simp; omega))).app (.one ?_)).app (he2.mono (by simp; omega))⟩
      · exact .inr (.inr (.inr (.inr (.inl ⟨rfl, rfl, r4, rfl, by simp only; omega, by simp; omega⟩))))
      · exact .inr (.inr (.inr (.inl ⟨rfl, rfl, rfl, rfl, by simp only; omega, by simp; omega⟩)))
  · -- a while
    simp only [beq_iff_eq] at hkd
    have hns : ¬ nK x := fun h => h.kind.2 hkd
    obtain ⟨n, rfl⟩ : ∃ e, n = e + 1 := ⟨n - 1, by cases n with | zero => exact absurd hx hns | succ n => omega⟩
    obtain ⟨_, _, _, hee, hbd, hel⟩ := hx.resolve_left hns
    obtain ⟨k, rfl⟩ : ∃ j, k = j + 1 := ⟨k - 1, by omega⟩
    refine .bind (P := wV base (ct x)) ?_ fun r hr => .pure hr
    show Tot (dW k (bO k) (cj k) (f7 k) (cT k) x base) _
    unfold dW
    simp only [Expr.eta']
    refine .bind (yx hee (by omega)) fun e he => ?_
    rw [aE (i := base + e.length) (by omega) (by omega), aE (i := base + e.length + 1) (by omega) (by omega)]
    refine .bind (ih n rfl (k := k) (by omega) hbd (by omega) (by omega)) fun bd ⟨hb1, hb2⟩ => ?_
    rw [aE (i := base + e.length + 1 + bd.length) (by omega) (by omega), aE (i := base + e.length + 1 + bd.length + 1) (by omega) (by omega)]
    refine .bind (.app (by simp; omega)) fun r hr => .bind (.app (by subst hr; simp; omega)) fun r2 hr2 => .bind (.app (by subst hr hr2; simp; omega)) fun r3 hr3 => .pure ?_
    subst hr hr2 hr3
    refine ⟨by simp; omega, (((he.2.2 _).app (.one ?_)).app (hb2.mono (by simp; omega))).app (.one ?_)⟩
    · exact .inr (.inr (.inr (.inr (.inl ⟨rfl, rfl, r4, rfl, by simp only; omega, by simp; omega⟩))))
    · exact .inr (.inr (.inr (.inl ⟨rfl, rfl, rfl, rfl, h0, by simp; omega⟩)))
  · have hs : nK x := by
      simp only [beq_eq_false_iff_ne, ne_eq] at h2 h3
      cases n with
      | zero => exact hx
      | succ n => rcases hx with h | h
                  · exact h
                  · exact absurd h.1 (by omega)
    obtain ⟨s1, s2, s3⟩ := hs
    have h33 : 33 ≤ 33 * ct x := by have := yw x; omega
    have rg : ∀ {v : Int}, 0 ≤ v ∧ v ≤ 3 → Rg v := fun h => by unfold Rg; omega
    have ap : ∀ q : ab, (∀ hi, 0 ≤ hi → QOk (hi + 1) q) → Tot ((X.app 40 ex [q]).bind fun r => some r) (wV base (ct x)) := fun q hq => .bind (.app (by simp; omega)) fun r hr => .pure (by
      subst hr
      exact ⟨by simp; omega, (hex.2.2 _).app (.one (hq _ (by omega)))⟩)
    refine .sel (fun h => ap _ fun hi hh => ?_) fun n1 => .sel (fun h => ap _ fun hi hh => ?_) fun n4 => .sel (fun h => ap _ fun hi hh => ?_) fun n7 => .sel (fun h => .pure ⟨by simp; omega, .one ?_⟩) fun n5 => .pure ⟨by simp; omega, .one ?_⟩
    all_goals try simp only [beq_iff_eq] at h
    · simp [h] at s3
      exact .inr (.inl ⟨rfl, rg s3.1, r4, rfl, rfl⟩)
    · simp [h] at s3
      exact .inr (.inr (.inr (.inr (.inr (.inl ⟨rfl, rfl, r4, rfl, s3.2.1.1, s3.2.1.2⟩)))))
    · exact .inr (.inr (.inr (.inr (.inr (.inr (.inr (.inl ⟨rfl, rfl, r4, rfl, rfl⟩)))))))
    · simp [h] at s3
      exact .inr (.inr (.inr (.inr (.inr (.inr (.inl ⟨rfl, rg s3.1, rfl, rfl, s3.2.1.1, s3.2.1.2⟩))))))
    · exact .inr (.inr (.inr (.inr (.inr (.inr (.inr (.inr ⟨.inl rfl, rfl, rfl, rfl, rfl⟩)))))))
theorem zR:∀ n,zl n:=by
 intro n
 induction n with
 | zero=>exact key 0 λe h=>by omega
 | succ n ih=>exact key (n+1) λe h=>(by omega:n=e)▸ih
where
 key (n:Nat) (ih:∀ e,n=e+1->zl e):zl n:=by
  intro k l base hk hl h0 h1
  obtain ⟨k,rfl⟩:∃ j,k=j+1:=⟨k-1,by omega⟩
  show Tot (ff k (bO k) (cj k) (f7 k) (cT k) l base) _
  unfold ff
  have hlen:=ip l
  refine .bind (P:=wV base (cts l)) (.iter (λs=>0<=s.2/\s.2<=(l.length:Int)/\wV base (cts (l.take s.2.toNat)) s.1) (λs=>((l.length:Int)-s.2).toNat) ⟨by simp,by simp,by simp [wV,Cq]⟩ λs hs=>?_) λr hr=>.pure hr
  obtain ⟨out,i⟩:=s
  obtain ⟨g0,g1,g2,g3⟩:=hs
  simp only at g0 g1 g2 g3
  have hle:=g8 l i.toNat
  unfold kJ
  refine .sel (λh=>?_) λh=>.inr (show wV base (cts l) out from ?_)
  ·simp only [decide_eq_true_eq] at h
   refine .bind (.nth g0 h) λx ⟨hx,hm⟩=>?_
   have h1:=ob l i.toNat x hx
   have h2:=g8 l (i.toNat+1)
   have h3:=vt hm
   dsimp only
   rw [ah.eta',aE (by omega) (by omega)]
   refine .bind (zQ ih (hl x hm) (by omega) (by omega) (by omega)) λy ⟨hy1,hy2⟩=>.bind (.app (l:=out) (by omega)) λr hr=>.inl ?_
   subst hr
   rw [aq g0 (by omega)]
   refine ⟨⟨by simp only; omega,by simp only; omega,?_⟩,by simp only; omega⟩
   simp only
   rw [show (i+1).toNat=i.toNat+1 by omega,h1]
   exact ⟨by simp; omega,(g3.mono (by simp; omega)).app (hy2.mono (by simp; omega))⟩
  ·simp only [decide_eq_false_iff_not] at h
   rw [List.take_of_length_le (by omega)] at g2
   exact ⟨g2,g3⟩
theorem xH {k:Nat} (hk:20<=k) {l:List ah} (h:f0 3 16 l):Tot (cK k l) λr=>r.2=true/\COk r.1:=by
 unfold cK
 rw [qP hk h,ob9]
 have h2:=h.2
 refine .sf rfl (.bind (zR 3 (k:=k) (by omega) h.1 (by omega) (by omega)) λout ⟨h1,h2'⟩=>.bind (.app (by simp; omega)) λr hr=>.pure ⟨rfl,?_⟩)
 subst hr
 refine ⟨by simp,by simp; omega,λq hq=>?_,⟨_,List.getLast?_concat,.inl rfl⟩⟩
 simp only [List.mem_append,List.mem_singleton] at hq
 rcases hq with hq | rfl
 ·exact (h2' q hq).mono (by simp)
 ·exact .inr (.inr (.inr (.inr (.inr (.inr (.inr (.inr ⟨.inr rfl,rfl,rfl,rfl,rfl⟩)))))))
end
end Go.Proofs.YtfpngipcclmliaaGreatDoor.N
namespace Go.Proofs.YtfpngipcclmliaaGreatDoor.X
noncomputable section
theorem yy {n:Nat} (h:n<9223372036854775808):IntKind.wrap .i64 (n:Int)=n:=by
 have:=vf (x:=(n:Int)) (by omega) (by omega)
 exact this
theorem wx {n:Nat} (h:n<18446744073709551616):(BitVec.ofInt 64 (n:Int)).toNat=n:=by
 simp only [BitVec.ofInt_natCast,BitVec.toNat_ofNat]
 exact Nat.mod_eq_of_lt h
theorem BM {a b:Nat} (ha:a<9223372036854775808) (hb:b<9223372036854775808):bA .and .i64 (a:Int) (b:Int)=((a &&& b:Nat):Int):=by
 show IntKind.wrap .i64 ((BitVec.ofInt 64 (a:Int) &&& BitVec.ofInt 64 (b:Int)).toNat:Int)=_
 rw [BitVec.toNat_and,wx (by omega),wx (by omega)]
 exact yy (Nat.lt_of_le_of_lt Nat.and_le_left ha)
theorem AY {a k:Nat} (ha:a<9223372036854775808) (hk:k<=62):bA .and .i64 (a:Int) (((2^k:Nat):Int)-1)=((a%2^k:Nat):Int):=by
 have h1:2^k<=2^62:=Nat.pow_le_pow_right (by omega) hk
 have h2:0<2^k:=Nat.two_pow_pos k
 have h3:(2:Nat)^62=4611686018427387904:=by decide
 rw [show (((2^k:Nat):Int)-1)=((2^k-1:Nat):Int) by omega,BM ha (by omega),Nat.and_two_pow_sub_one_eq_mod]
theorem BN {x k:Nat} (hk:k<=62) (hx:x*2^k<9223372036854775808):shO .shl .i64 (x:Int) (k:Int)=some ((x*2^k:Nat):Int):=by
 unfold shO
 rw [if_neg (by omega)]
 have hm:min ((k:Int).toNat) (IntKind.bits .i64)=k:=by
  have:IntKind.bits .i64=64:=rfl
  rw [this]; omega
 simp only [hm]
 congr 1
 show w64 _=_
 have:(x:Int)*2^k=((x*2^k:Nat):Int):=by simp
 rw [this]
 exact vf (by omega) (by omega)
theorem BO {x k:Nat} (hk:k<=62):shO .shr .i64 (x:Int) (k:Int)=some ((x/2^k:Nat):Int):=by
 unfold shO
 rw [if_neg (by omega)]
 have hm:min ((k:Int).toNat) (IntKind.bits .i64)=k:=by
  have:IntKind.bits .i64=64:=rfl
  rw [this]; omega
 simp only [hm]
 congr 1
 rw [show ((2:Int)^k)=((2^k:Nat):Int) by simp,Int.fdiv_eq_ediv_of_nonneg _ (Int.natCast_nonneg _)]
 rfl
end
end Go.Proofs.YtfpngipcclmliaaGreatDoor.X
namespace Go.Proofs.YtfpngipcclmliaaGreatDoor.N
open Go.Proofs.YtfpngipcclmliaaGreatDoor.X
noncomputable section
theorem xI (n:Int):gB n=some (decide (Wd n)):=by
 unfold gB
 congr 1
 unfold Wd
 by_cases h1 : -2147483648<=n <;> by_cases h2:n<=2147483647 <;> simp [h1,h2]
theorem BP (n:Int):kY n=some (decide (Rg n)):=by
 unfold kY
 congr 1
 unfold Rg
 by_cases h1:0<=n <;> by_cases h2:n<=11 <;> simp [h1,h2] <;> omega
theorem AZ (n:Int):jI n=some (decide (1<=n/\n<=12)):=by
 unfold jI
 congr 1
 by_cases h1:1<=n <;> by_cases h2:n<=12 <;> simp [h1,h2]
theorem A1 (q:ab) (m:Int):jl q m=some (decide (QOk m q)):=by
 refine Tot.eq ?_
 unfold jl
 simp only [BP,xI,AZ,ob9,zf,AH]
 have key:∀ b:Bool,(b=true↔QOk m q)->Tot (some b) (λz=>z=decide (QOk m q)):=λb h=>.pure (by
  cases b
  ·exact (decide_eq_false λhq=>by simpa using h.2 hq).symm
  ·exact (decide_eq_true (h.1 rfl)).symm)
 have e3:(q.N<3)=(q.N<=2):=propext ⟨λh=>by omega,λh=>by omega⟩
 refine .sel (λh=>key _ ?_) λh1=>.sel (λh=>key _ ?_) λh2=>.sel (λh=>key _ ?_) λh3=>.sel (λh=>key _ ?_) λh4=>.sel (λh=>key _ ?_) λh5=>.sel (λh=>key _ ?_) λh6=>.sel (λh=>key _ ?_) λh7=>.sel (λh=>key _ ?_) λh8=>key _ ?_
 all_goals try simp only [beq_iff_eq,beq_eq_false_iff_ne,Bool.or_eq_true,Bool.or_eq_false_iff,ne_eq] at *
 all_goals try (simp [QOk, *,and_assoc,and_comm,and_left_comm]; done)
theorem vu (eQ:List ab) (hl:eQ.length<=4611686018427387904):Tot (bn eQ) λb=>b=true↔COk eQ:=by
 unfold bn
 refine .sel (λh=>.pure ?_) λh=>?_
 ·simp only [Bool.or_eq_true,decide_eq_true_eq] at h
  exact ⟨λh=>by simp at h,λhc=>by have:=hc.one; have:=hc.max; omega⟩
 simp only [Bool.or_eq_false_iff,decide_eq_false_iff_not] at h
 refine .bind (P:=λz=>match z with | .inl b=>b=false/\¬ COk eQ | .inr _=>∀ q∈eQ,QOk eQ.length q) (.iter (λi:Int=>0<=i/\i<=eQ.length/\∀ (j:Nat) (q:ab),(j:Int)<i->eQ[j]?=some q->QOk eQ.length q) (λi=>(eQ.length-i).toNat) ⟨by omega,by omega,λj q h=>by omega⟩ λi ⟨h0,h1,h2⟩=>?_) λz hz=>?_
 ·unfold lI
  refine .sel (λh=>?_) λh=>.inr ?_
  ·simp only [decide_eq_true_eq] at h
   refine .bind (.nth h0 h) λq ⟨hq,hm⟩=>?_
   rw [A1,ob9]
   refine .sel (λhv=>.inr ⟨rfl,λhc=>?_⟩) λhv=>.inl ?_
   ·simp only [Bool.not_eq_true',decide_eq_false_iff_not] at hv
    exact hv (hc.q q hm)
   ·simp only [Bool.not_eq_false',decide_eq_true_eq] at hv
    rw [aq h0 (by omega)]
    refine ⟨⟨by omega,by omega,λj q' hj hq'=>?_⟩,by omega⟩
    by_cases e:(j:Int)=i
    ·have:j=i.toNat:=by omega
     subst this
     rw [hq] at hq'
     injection hq' with hq'
     exact hq'▸hv
    ·exact h2 j q' (by omega) hq'
  ·simp only [decide_eq_false_iff_not] at h
   intro q hq
   obtain ⟨j,hj,rfl⟩:=List.getElem_of_mem hq
   exact h2 j _ (by omega) (List.getElem?_eq_getElem hj)
 ·refine .both (λb e=>?_) λ_ e=>?_
  ·subst e
   exact .pure ⟨λh=>by rw [hz.1] at h; simp at h,λh=>absurd h hz.2⟩
  ·subst e
   have hq:∀ q∈eQ,QOk eQ.length q:=hz
   rw [aE (by omega) (by omega)]
   refine .bind (.nth (by omega) (by omega)) λx ⟨hx,_⟩=>.pure ?_
   have hgl:eQ.getLast?=some x:=by rw [List.getLast?_eq_getElem?]; rw [<-hx]; congr 1; omega
   have hlast:yo eQ↔(x.Op=10\/x.Op=4):=⟨λ⟨y,h1,h2⟩=>by rw [hgl] at h1; injection h1 with h1; exact h1▸h2,λh=>⟨x,hgl,h⟩⟩
   simp only [Bool.or_eq_true,beq_iff_eq]
   exact ⟨λh=>⟨by omega,by omega,hq,hlast.2 h⟩,λhc=>hlast.1 hc.last⟩
theorem nY (eQ:List ab) (hl:eQ.length<=4611686018427387904):(COk eQ/\bn eQ=some true/\aV eQ=some true)\/(¬ COk eQ/\bn eQ=some false/\aV eQ=some false):=by
 obtain ⟨x,ex,hx⟩:=vu eQ hl
 by_cases h:COk eQ
 ·exact .inl ⟨h,by rw [ex,hx.2 h],aU h⟩
 ·refine .inr ⟨h,?_,ui hl h⟩
  cases x
  ·exact ex
  ·exact absurd (hx.1 rfl) h
end
noncomputable section
abbrev C9 {σ σ' ρ ρ':Type} (R:σ->σ'->Prop) (Q:ρ->ρ'->Prop) (x:σ⊕ρ) (y:σ'⊕ρ'):Prop:=match x,y with
 | .inl s',.inl t'=>R s' t'
 | .inr r,.inr r'=>Q r r'
 | _,_=>False
theorem xw {σ σ' ρ ρ':Type} {f:σ->Option (σ⊕ρ)} {g:σ'->Option (σ'⊕ρ')} (R:σ->σ'->Prop) (Q:ρ->ρ'->Prop)
  (h:∀ s t y,R s t->g t=some y->∃ x,f s=some x/\C9 R Q x y) {s:σ} {t:σ'} {r':ρ'} (hR:R s t) (hg:aO g t=some r'):∃ r,aO f s=some r/\Q r r':=by
 obtain ⟨k,hk⟩:=nh.1 hg
 induction k generalizing s t with
 | zero=>simp [dF] at hk
 | succ k ih =>
  cases hy:g t with
  | none=>simp [dF,hy] at hk
  | some y =>
   obtain ⟨x,hx,hxy⟩:=h s t y hR hy
   cases y with
   | inl t' =>
    cases x with
    | inl s' =>
     have hk':dF g k t'=some r':=by simpa [dF,hy] using hk
     obtain ⟨r,hr,hq⟩:=ih hxy (nh.2 ⟨k,hk'⟩) hk'
     exact ⟨r,by rw [dg,hx]; exact hr,hq⟩
    | inr r=>exact hxy.elim
   | inr r =>
    cases x with
    | inl s'=>exact hxy.elim
    | inr r0 =>
     have hk':r=r':=by simpa [dF,hy] using hk
     subst hk'
     exact ⟨r0,by rw [dg,hx],hxy⟩
theorem dX {α:Type} {b:Bool} {x y:α} (h:b=true):sel b x y=x:=by subst h; rfl
theorem bD {α:Type} {b:Bool} {x y:α} (h:b=false):sel b x y=y:=by subst h; rfl
def Bs (s:Int):Prop:=0<=s/\s<4096
def bt (s:Int) (r:Nat):Bool:=s.toNat.testBit r
theorem Bs.cast {s:Int} (h:Bs s):s=(s.toNat:Int)/\s.toNat<4096:=by unfold Bs at h; omega
theorem Bs.nat {s:Int} (h:Bs s):∃ a:Nat,s=(a:Int)/\a<4096:=⟨s.toNat,h.cast.1,h.cast.2⟩
theorem Bs.ext {s t:Int} (hs:Bs s) (ht:Bs t) (h:∀ r,r<12->bt s r=bt t r):s=t:=by
 obtain ⟨e1,l1⟩:=hs.cast
 obtain ⟨e2,l2⟩:=ht.cast
 have:s.toNat=t.toNat:=by
  apply Nat.eq_of_testBit_eq
  intro i
  rcases Nat.lt_or_ge i 12 with h1 | h1
  ·exact h i h1
  ·have hp:4096<=2^i:=Nat.le_trans (by decide:4096<=2^12) (Nat.pow_le_pow_right (by decide) h1)
   rw [Nat.testBit_lt_two_pow (Nat.lt_of_lt_of_le l1 hp),Nat.testBit_lt_two_pow (Nat.lt_of_lt_of_le l2 hp)]
 omega
theorem sZ {n:Nat} (h:n<65536):(BitVec.ofInt 16 (n:Int)).toNat=n:=by
 rw [BitVec.toNat_ofInt]
 show ((n:Int)%65536).toNat=n
 omega
theorem rV {n:Nat} (h:n<65536):IntKind.u16.wrap (n:Int)=(n:Int):=by
 show ((n:Int)%65536)=(n:Int)
 omega
theorem wy {s t:Int} (hs:Bs s) (ht:Bs t):Bs (bA .or .u16 s t)/\∀ r,bt (bA .or .u16 s t) r=(bt s r||bt t r):=by
 obtain ⟨a,rfl,l1⟩:=hs.nat
 obtain ⟨c,rfl,l2⟩:=ht.nat
 have hl:a ||| c<2^12:=Nat.or_lt_two_pow (by simpa using l1) (by simpa using l2)
 have e:bA .or .u16 (a:Int) (c:Int)=((a ||| c:Nat):Int):=by
  show IntKind.u16.wrap ((BitVec.ofInt 16 (a:Int) ||| BitVec.ofInt 16 (c:Int)).toNat:Int)=_
  rw [BitVec.toNat_or,sZ (by omega),sZ (by omega),rV (by omega)]
 rw [e]
 refine ⟨by unfold Bs; omega,λr=>?_⟩
 unfold bt
 rw [Int.toNat_natCast,Int.toNat_natCast,Int.toNat_natCast,Nat.testBit_or]
theorem Cz {n:Nat} (h:n<65536):(~~~ BitVec.ofInt 16 (n:Int)).toNat=65535-n:=by
 rw [BitVec.toNat_not,sZ h]
theorem s5 {s t:Int} (hs:Bs s) (ht:Bs t):Bs (bA .andNot .u16 s t)/\∀ r,bt (bA .andNot .u16 s t) r=(bt s r&&!(bt t r)):=by
 obtain ⟨a,rfl,l1⟩:=hs.nat
 obtain ⟨c,rfl,l2⟩:=ht.nat
 have hle:a &&& (65535-c)<=a:=Nat.and_le_left
 have e:bA .andNot .u16 (a:Int) (c:Int)=((a &&& (65535-c):Nat):Int):=by
  show IntKind.u16.wrap ((BitVec.ofInt 16 (a:Int) &&& ~~~ BitVec.ofInt 16 (c:Int)).toNat:Int)=_
  rw [BitVec.toNat_and,sZ (by omega),Cz (by omega),rV (by omega)]
 rw [e]
 refine ⟨by unfold Bs; omega,λr=>?_⟩
 unfold bt
 rw [Int.toNat_natCast,Int.toNat_natCast,Int.toNat_natCast,Nat.testBit_and]
 rcases Nat.lt_or_ge r 16 with h | h
 ·congr 1
  have:=Nat.testBit_two_pow_sub_succ (x:=c) (n:=16) (by omega) r
  rw [show (65535-c:Nat)=2^16-(c+1) by omega,this]
  simp [h]
 ·have hp:4096<=2^r:=Nat.le_trans (by decide:4096<=2^16) (Nat.pow_le_pow_right (by decide) h)
  rw [Nat.testBit_lt_two_pow (Nat.lt_of_lt_of_le l1 hp),Bool.false_and,Bool.false_and]
theorem py {x:Int} (hx:Rg x):∃ d,shO .shl .u16 1 x=some d/\Bs d/\∀ r:Nat,bt d r=((r:Int)==x):=by
 unfold Rg at hx
 obtain ⟨n,rfl⟩:∃ n:Nat,x=(n:Int):=⟨x.toNat,by omega⟩
 have hn:n<12:=by omega
 have hp:2^n<2^12:=Nat.pow_lt_pow_right (by decide) hn
 refine ⟨((2^n:Nat):Int),?_,⟨Int.natCast_nonneg _,by have:(2:Nat)^12=4096:=rfl; omega⟩,λr=>?_⟩
 ·unfold shO
  rw [if_neg (by omega)]
  show some (IntKind.u16.wrap (1*2^(min n 16)))=_
  rw [Nat.min_eq_left (by omega),Int.one_mul,show ((2:Int)^n)=((2^n:Nat):Int) by simp,rV (by have:(2:Nat)^12=4096:=rfl; omega)]
 ·unfold bt
  rw [Int.toNat_natCast,Nat.testBit_two_pow]
  by_cases h:n=r
  ·subst h; simp
  ·simp [h]; omega
theorem wW {s x:Int} (hs:Bs s) (hx:Rg x):db s x=some (bt s x.toNat):=by
 unfold Rg at hx
 obtain ⟨n,rfl⟩:∃ n:Nat,x=(n:Int):=⟨x.toNat,by omega⟩
 obtain ⟨e1,l1⟩:=hs.cast
 unfold db shO
 rw [if_neg (by omega)]
 simp only [ob9,Int.toNat_natCast]
 rw [Nat.min_eq_left (show n<=IntKind.bits .u16 by show n<=16; omega),e1]
 have h1:((s.toNat:Int).fdiv (2^n))=((s.toNat/2^n:Nat):Int):=by
  rw [Int.fdiv_eq_ediv_of_nonneg _ (by exact Int.pow_nonneg (by decide)),show ((2:Int)^n)=((2^n:Nat):Int) by simp]
  simp
 have h2:s.toNat/2^n<=s.toNat:=Nat.div_le_self _ _
 rw [h1]
 have h3:bA .and .u16 ((s.toNat/2^n:Nat):Int) 1=((s.toNat/2^n%2:Nat):Int):=by
  show IntKind.u16.wrap ((BitVec.ofInt 16 ((s.toNat/2^n:Nat):Int) &&& BitVec.ofInt 16 ((1:Nat):Int)).toNat:Int)=_
  rw [BitVec.toNat_and,sZ (by omega),sZ (by omega),Nat.and_one_is_mod,rV (by omega)]
 rw [h3]
 congr 1
 unfold bt
 rw [Int.toNat_natCast,Nat.testBit_eq_decide_div_mod_eq]
 by_cases h:s.toNat/2^n%2=1
 ·simp [h]
 ·have:s.toNat/2^n%2=0:=by omega
  simp [this]
end
noncomputable section
theorem pz (q:ab):eJ q=some (aH q):=by
 refine Tot.eq ?_
 unfold eJ aH
 refine .bind (P:=λb=>b=true↔(q.Op=1\/q.Op=2\/q.Op=3\/q.Op=7)) (.sel (λh=>.pure ?_) λh=>.sel (λh'=>.pure ?_) λh'=>.sel (λh''=>.pure ?_) λh''=>.pure ?_) λb hb=>.sel (λh=>.pure ?_) λh=>.pure ?_
 all_goals try simp only [beq_iff_eq,beq_eq_false_iff_ne,ne_eq] at *
 ·simp [h]
 ·simp [h']
 ·simp [h'']
 ·simp [h,h',h'']
 ·rw [if_pos (hb.1 h)]
 ·rw [if_neg (λhh=>by rw [hb.2 hh] at h; cases h)]
theorem rX {q:ab} {i:Int} (h0:0<=i) (hl:i<=1000):gZ q i=some (nx q i):=by
 refine Tot.eq ?_
 unfold gZ nx
 rw [aq h0 (by omega)]
 refine .sel (λh=>.pure ?_) λh=>.sel (λh'=>.pure ?_) λh'=>.sel (λh''=>.pure ?_) λh''=>.sel (λh3=>.pure ?_) λh3=>.pure ?_
 all_goals try simp only [beq_iff_eq,beq_eq_false_iff_ne,ne_eq,Bool.and_eq_true,Bool.and_eq_false_iff,decide_eq_true_eq,decide_eq_false_iff_not] at *
 ·rw [if_pos h]
 ·rw [if_neg h,if_pos h']
 ·rw [if_neg h,if_neg h',if_pos h'']
 ·rw [if_neg h,if_neg h',if_neg (by omega),if_pos h3]
 ·rw [if_neg h,if_neg h',if_neg (by omega),if_neg (by omega)]
theorem pA {q:ab} {m:Int} (h:QOk m q) (hu:q.Op=2\/q.Op=5\/q.Op=6\/q.Op=9):Rg q.A:=by
 have:=wP h q.A
 unfold gM at this
 rw [if_pos hu] at this
 exact this (by simp)
theorem oc {q:ab} {m:Int} (h:QOk m q) (hu:q.Op=3):Rg q.A/\Rg q.B:=by
 have hn:¬ (q.Op=2\/q.Op=5\/q.Op=6\/q.Op=9):=by omega
 have h1:=wP h
 unfold gM at h1
 rw [if_neg hn,if_pos hu] at h1
 split at h1
 ·rename_i e
  have:=h1 q.A (by simp)
  exact ⟨this,e▸this⟩
 ·have h2:=h1 (min q.A q.B) (by simp)
  have h3:=h1 (max q.A q.B) (by simp)
  unfold Rg at *
  omega
theorem Cd {q:ab} {m:Int} (h:QOk m q):Tot (jr q) λu=>Bs u/\∀ r:Nat,bt u r=(gM q).contains (r:Int):=by
 unfold jr
 refine .bind (P:=λb=>b=true↔(q.Op=2\/q.Op=5\/q.Op=6\/q.Op=9)) (.sel (λh=>.pure ?_) λh=>.sel (λh'=>.pure ?_) λh'=>.sel (λh''=>.pure ?_) λh''=>.pure ?_) λb hb=>.sel (λhb'=>?_) λhb'=>.sel (λh3=>?_) λh3=>.pure ?_
 ·simp only [beq_iff_eq] at *; simp [h]
 ·simp only [beq_iff_eq] at *; simp [h']
 ·simp only [beq_iff_eq] at *; simp [h'']
 ·simp only [beq_iff_eq,beq_eq_false_iff_ne,ne_eq] at *; simp [h,h',h'']
 ·obtain ⟨d,e,h1,h2⟩:=py (pA h (hb.1 hb'))
  refine .bind (P:=λz=>z=d) ⟨d,e,rfl⟩ λz hz=>.pure ?_
  subst hz
  refine ⟨h1,λr=>?_⟩
  unfold gM
  rw [if_pos (hb.1 hb'),h2]
  simp only [List.contains_cons,List.contains_nil,Bool.or_false]
 ·have hn:¬ (q.Op=2\/q.Op=5\/q.Op=6\/q.Op=9):=λhh=>by rw [hb.2 hh] at hb'; cases hb'
  have h3':q.Op=3:=by simpa using h3
  obtain ⟨rA,rB⟩:=oc h h3'
  obtain ⟨d,e,h1,h2⟩:=py rA
  obtain ⟨d',e',h1',h2'⟩:=py rB
  refine .bind (P:=λz=>z=d) ⟨d,e,rfl⟩ λz hz=>.bind (P:=λz=>z=d') ⟨d',e',rfl⟩ λz' hz'=>.pure ?_
  subst hz hz'
  obtain ⟨k1,k2⟩:=wy h1 h1'
  refine ⟨k1,λr=>?_⟩
  rw [k2,h2,h2']
  unfold gM
  rw [if_neg hn,if_pos h3']
  split
  ·rename_i hAB
   rw [<-hAB,Bool.or_self]
   simp only [List.contains_cons,List.contains_nil,Bool.or_false]
  ·simp only [List.contains_cons,List.contains_nil,Bool.or_false]
   rcases Int.le_total q.A q.B with hh | hh
   ·rw [Int.min_eq_left hh,Int.max_eq_right hh]
   ·rw [Int.min_eq_right hh,Int.max_eq_left hh,Bool.or_comm]
 ·have hn:¬ (q.Op=2\/q.Op=5\/q.Op=6\/q.Op=9):=λhh=>by rw [hb.2 hh] at hb'; cases hb'
  refine ⟨⟨by decide,by decide⟩,λr=>?_⟩
  unfold gM
  rw [if_neg hn,if_neg (by simpa using h3)]
  unfold bt
  simp
structure LR (n:Nat) (b:List Int) (l:List (List Bool)):Prop where
 len:b.length=n
 ok:rT n l
 at_:∀ i:Nat,i<n->∃ s,b[i]?=some s/\Bs s/\∀ r,r<12->bt s r=lv l i r
theorem LR.get {n:Nat} {b:List Int} {l:List (List Bool)} (h:LR n b l) {x:Int} (h0:0<=x) (h1:x<n):Tot (nth b x) λs=>Bs s/\(∀ r,r<12->bt s r=lv l x r)/\b[x.toNat]?=some s:=by
 obtain ⟨s,e,hs,hb⟩:=h.at_ x.toNat (by omega)
 refine (Tot.nth h0 (by rw [h.len]; exact h1)).mono λz ⟨hz,_⟩=>?_
 obtain rfl:=o9 (e.symm.trans hz)
 rw [show ((x.toNat:Nat):Int)=x by omega] at hb
 exact ⟨hs,hb,hz⟩
theorem wX {eQ:List ab} (hc:COk eQ) {b:List Int} {l:List (List Bool)} (h:LR eQ.length b l) {i:Int} {q:ab} (h0:0<=i) (hi:eQ[i.toNat]?=some q):Tot (dS eQ b i) λs=>Bs s/\∀ r,r<12->bt s r=fj l q i r:=by
 have hlt:i.toNat<eQ.length:=by
  rcases Nat.lt_or_ge i.toNat eQ.length with h | h
  ·exact h
  ·rw [List.getElem?_eq_none h] at hi; cases hi
 have hmx:=hc.max
 have hin:=rS hc hi
 rw [show ((i.toNat:Nat):Int)=i by omega] at hin
 unfold dS
 refine .bind (.nth h0 (by omega)) λq' ⟨hq',_⟩=>?_
 obtain rfl:q'=q:=o9 (hq'.symm.trans hi)
 rw [rX h0 (by omega),ob9]
 have hn2:(nx q' i).length<=2:=by
  unfold nx
  split
  ·simp
  ·split
   ·simp
   ·split
    ·simp
    ·split <;> simp
 refine .bind (P:=λs=>Bs s/\∀ r,r<12->bt s r=fj l q' i r) (.iter (λs:Int×Int=>0<=s.2/\s.2<=((nx q' i).length:Int)/\Bs s.1/\∀ r,r<12->bt s.1 r=((nx q' i).take s.2.toNat).any λx=>lv l x r) (λs=>((nx q' i).length-s.2).toNat) ⟨by simp,by simp,⟨by decide,by decide⟩,λr _=>by unfold bt; simp⟩ λs hs=>?_) λs hs=>.pure hs
 obtain ⟨acc,j⟩:=s
 obtain ⟨g0,g1,g2,g3⟩:=hs
 simp only at g0 g1 g2 g3
 unfold kZ
 refine .sel (λhj=>?_) λhj=>.inr ⟨g2,λr hr=>?_⟩
 ·simp only [decide_eq_true_eq] at hj
  refine .bind (.nth g0 hj) λx ⟨hx,hxm⟩=>.bind (h.get (hin x hxm).1 (hin x hxm).2) λs ⟨hs,hsb,_⟩=>.inl ?_
  obtain ⟨k1,k2⟩:=wy g2 hs
  rw [aq g0 (by omega)]
  refine ⟨⟨by simp only; omega,by simp only; omega,k1,λr hr=>?_⟩,by simp only; omega⟩
  simp only
  rw [k2,g3 r hr,hsb r hr,show (j+1).toNat=j.toNat+1 by omega,List.take_add_one,hx]
  simp [List.any_append]
 ·simp only [decide_eq_false_iff_not] at hj
  rw [g3 r hr,List.take_of_length_le (by omega)]
  rfl
theorem BQ {eQ:List ab} (hc:COk eQ) {q:ab} (hq:QOk eQ.length q) {s u d:Int} {g:Nat->Bool} (hs:Bs s) (hg:∀ r,r<12->bt s r=g r) (hu:Bs u) (hub:∀ r:Nat,bt u r=(gM q).contains (r:Int)) {t:Int}
  (ht:Bs t/\∀ r:Nat,r<12->bt t r=(bt s r&&!decide ((r:Int)=aH q))):Bs (bA .or .u16 t u)/\∀ r,r<12->bt (bA .or .u16 t u) r=wQ q g r:=by
 obtain ⟨k1,k2⟩:=wy ht.1 hu
 refine ⟨k1,λr hr=>?_⟩
 rw [k2,ht.2 r hr,hub,hg r hr]
 unfold wQ
 rw [Bool.or_comm,Bool.and_comm]
theorem A3 {eQ:List ab} {q:ab} (hq:QOk eQ.length q) {s:Int} (hs:Bs s):Tot ((eJ q).bind λy10=>sel (decide (y10>=0)) ((shO .shl .u16 1 y10).bind λd1=>some (bA .andNot .u16 s d1)) <| some s) λt=>Bs t/\∀ r:Nat,r<12->bt t r=(bt s r&&!decide ((r:Int)=aH q)):=by
 rw [pz,ob9]
 rcases mJ hq with h | h
 ·refine .sf (by rw [h]; decide) (.pure ⟨hs,λr _=>?_⟩)
  rw [h,decide_eq_false (by omega)]
  simp
 ·obtain ⟨d,e,h1,h2⟩:=py h
  refine .st (by unfold Rg at h; simp; omega) (.bind (P:=λz=>z=d) ⟨d,e,rfl⟩ λz hz=>.pure ?_)
  subst hz
  obtain ⟨k1,k2⟩:=s5 hs h1
  refine ⟨k1,λr _=>?_⟩
  rw [k2,h2]
  congr 2
theorem yz {eQ:List ab} (hc:COk eQ) {b:List Int} {l:List (List Bool)} (h:LR eQ.length b l) {z:Bool×List (List Bool)} (hz:dD eQ l=some z) :
  ∃ y,aO (dj eQ) (false,w64 ((eQ.length:Int)-1),b)=some y/\y.1=z.1/\LR eQ.length y.2 z.2:=by
 have hmx:=hc.max
 unfold dD at hz
 obtain ⟨y1,hy1,hz⟩:=bnd hz
 rw [aE (by omega) (by omega)] at hy1
 rw [aE (by omega) (by omega)]
 have step:∀ (s:Bool×Int×List Int) (t:Bool×Int×List (List Bool)) y,(s.1=t.1/\s.2.1=t.2.1 /\ -1<=t.2.1/\t.2.1<(eQ.length:Int)/\LR eQ.length s.2.2 t.2.2)->eV eQ t=some y->∃ x,dj eQ s=some x /\
   C9 (λs t=>s.1=t.1/\s.2.1=t.2.1 /\ -1<=t.2.1/\t.2.1<(eQ.length:Int)/\LR eQ.length s.2.2 t.2.2) (λr r'=>r.1=r'.1/\LR eQ.length r.2 r'.2) x y:=by
  intro s t y hR hg
  obtain ⟨c,i,bb⟩:=s
  obtain ⟨c',i',ll⟩:=t
  obtain ⟨e1,e2,g0,g1,hL⟩:=hR
  simp only at e1 e2 g0 g1 hL
  subst e1 e2
  unfold eV at hg
  unfold dj
  by_cases hi:i>=0
  ·rw [dX (by simpa using hi)] at hg
   rw [dX (by simpa using hi)]
   obtain ⟨w,hw,hg⟩:=bnd hg
   obtain ⟨q,hq,hw⟩:=bnd hw
   obtain ⟨q0,hq0,hqi,hqm⟩:=Tot.nth (l:=eQ) hi g1
   obtain rfl:q0=q:=o9 (hq0.symm.trans hq)
   have hqok:=hc.q q0 hqm
   obtain ⟨af,haf,hw⟩:=bnd hw
   obtain ⟨af',eaf,faf⟩:=ny hc hL.ok hi hqi
   obtain rfl:af'=af:=o9 (eaf.symm.trans haf)
   obtain ⟨x,hx,hw⟩:=bnd hw
   obtain ⟨x',ex,fx⟩:=uf hqok (by omega) faf
   obtain rfl:x'=x:=o9 (ex.symm.trans hx)
   obtain ⟨old,hold,hw⟩:=bnd hw
   obtain ⟨old',eold,hold',holdm⟩:=Tot.nth (l:=ll) hi (by rw [hL.ok.1]; exact g1)
   obtain rfl:old'=old:=o9 (eold.symm.trans hold)
   obtain ⟨sm,hsm,hw⟩:=bnd hw
   have hl12:=hL.ok.2 old' holdm
   obtain ⟨sm',esm,fsm⟩:=xD fx.1 hl12
   obtain rfl:sm'=sm:=o9 (esm.symm.trans hsm)
   obtain ⟨s0,es0,hs0,hs0b⟩:=wX hc hL hi hqi
   obtain ⟨t0,et0,ht0⟩:=A3 hqok hs0
   obtain ⟨u0,eu0,hu0,hu0b⟩:=Cd hqok
   obtain ⟨o0,eo0,ho0,ho0b,ho0i⟩:=hL.get hi g1
   obtain ⟨n1,n2⟩:=BQ (d:=0) hc hqok hs0 hs0b hu0 hu0b ht0
   have hne:(bA .or .u16 t0 u0 !=o0)=!sm':=by
    rw [Bool.eq_iff_iff]
    simp only [bne_iff_ne,ne_eq,Bool.not_eq_true']
    rw [<-Bool.not_eq_true,fsm]
    refine not_congr ⟨λe=>?_,λe=>?_⟩
    ·have hof:=Fn.of hl12
     refine Fn.inj fx (hof.ext λk hk=>?_)
     rw [<-n2 k hk,e,ho0b k hk]
     exact (congrFun (AO hold') k).symm
    ·refine n1.ext ho0 λr hr=>?_
     rw [n2 r hr,ho0b r hr]
     have h1:lv ll i r=(old'[r]?).getD false:=congrFun (AO hold') r
     rw [h1,<-e,fx.2 r hr]
     rfl
   have hup:∀ r2,upd bb i r2=some (bb.set i.toNat r2):=λr2=>by unfold upd; rw [if_pos ⟨hi,by rw [hL.len]; exact g1⟩]
   rw [es0,ob9,hq,ob9,et0,ob9,ob9,eu0,ob9,eo0,ob9,hne]
   cases hb:sm'
   ·rw [hb] at hw
    rw [dX (by rfl)] at hw
    rw [dX (by rfl)]
    obtain rfl:=o9 hw
    obtain rfl:=o9 hg
    rw [ob9,hup,ob9,ob9]
    refine ⟨_,rfl,rfl,rfl,?_,?_,?_⟩
    ·simp only; rw [aE (i:=i-1) (by omega) (by omega)]; omega
    ·simp only; rw [aE (i:=i-1) (by omega) (by omega)]; omega
    ·refine ⟨by simp only; rw [List.length_set]; exact hL.len,⟨by simp only; rw [List.length_set]; exact hL.ok.1,λy hy=>(nR hy).elim (hL.ok.2 y) λe=>e▸fx.1⟩,λj hj=>?_⟩
     simp only
     by_cases e:j=i.toNat
     ·subst e
      have hjl:i.toNat<bb.length:=by rw [hL.len]; exact hj
      have hjl':i.toNat<ll.length:=by rw [hL.ok.1]; exact hj
      refine ⟨_,List.getElem?_set_self hjl,n1,λr hr=>?_⟩
      rw [n2 r hr]
      unfold lv
      rw [show (((i.toNat:Nat):Int)).toNat=i.toNat by omega,show (Int.toNat i)=i.toNat from rfl,List.getElem?_set_self hjl',Option.getD_some,fx.2 r hr]
      rfl
     ·obtain ⟨s,k1,k2,k3⟩:=hL.at_ j hj
      refine ⟨s,by rw [List.getElem?_set_ne (λh=>e h.symm)]; exact k1,k2,λr hr=>?_⟩
      rw [k3 r hr]
      unfold lv
      rw [show (((j:Nat):Int)).toNat=j by omega,List.getElem?_set_ne (λh=>e h.symm)]
   ·rw [hb] at hw
    rw [bD (by rfl)] at hw
    rw [bD (by rfl)]
    obtain rfl:=o9 hw
    obtain rfl:=o9 hg
    refine ⟨_,rfl,rfl,rfl,?_,?_,hL⟩
    ·simp only; rw [aE (i:=i-1) (by omega) (by omega)]; omega
    ·simp only; rw [aE (i:=i-1) (by omega) (by omega)]; omega
  ·rw [bD (by simpa using hi)] at hg
   rw [bD (by simpa using hi)]
   obtain rfl:=o9 hg
   exact ⟨_,rfl,rfl,hL⟩
 obtain ⟨y,e,hy⟩:=xw (f:=dj eQ) (g:=eV eQ) (λs t=>s.1=t.1/\s.2.1=t.2.1 /\ -1<=t.2.1/\t.2.1<(eQ.length:Int)/\LR eQ.length s.2.2 t.2.2) (λr r'=>r.1=r'.1/\LR eQ.length r.2 r'.2) step
  (s:=(false,(eQ.length:Int)-1,b)) ⟨rfl,rfl,by simp only; omega,by simp only; omega,h⟩ hy1
 obtain rfl:=o9 hz
 exact ⟨y,e,hy.1,hy.2⟩
end
noncomputable section
theorem zS {eQ:List ab} (hc:COk eQ):aO (jy eQ) ([],0)=some (List.replicate eQ.length (List.replicate 12 false)):=by
 have hmx:=hc.max
 refine Tot.eq (.iter (λs=>0<=s.2/\s.2<=(eQ.length:Int)/\s.1=List.replicate s.2.toNat (List.replicate 12 false)) (λs=>((eQ.length:Int)-s.2).toNat) ⟨by simp,by simp,by simp⟩ λs hs=>?_)
 obtain ⟨a,i⟩:=s
 obtain ⟨g0,g1,g2⟩:=hs
 simp only at g0 g1 g2
 unfold jy
 refine .sel (λhlt=>?_) λhlt=>.inr ?_
 ·simp only [decide_eq_true_eq] at hlt
  refine .bind (.mk (by omega) (by decide)) λl hl'=>.bind (.app (by rw [g2]; simp; omega)) λr hr=>.inl ?_
  subst hr hl' g2
  rw [aq g0 (by omega)]
  refine ⟨⟨by simp only; omega,by simp only; omega,?_⟩,by simp only; omega⟩
  simp only
  rw [show (i+1).toNat=i.toNat+1 by omega]
  rw [List.replicate_succ' (n:=i.toNat)]
  rfl
 ·simp only [decide_eq_false_iff_not] at hlt
  rw [g2,show i.toNat=eQ.length by omega]
theorem LR.zero (n:Nat):LR n (List.replicate n 0) (List.replicate n (List.replicate 12 false)):=by
 refine ⟨by simp,⟨by simp,λl hl=>by rw [(List.mem_replicate.1 hl).2]; simp⟩,λi hi=>⟨0,by rw [List.getElem?_replicate,if_pos hi],⟨by decide,by decide⟩,λr hr=>?_⟩⟩
 unfold bt lv
 rw [show (((i:Nat):Int)).toNat=i by omega,List.getElem?_replicate,if_pos hi,Option.getD_some,List.getElem?_replicate,if_pos hr]
 simp
theorem wz {eQ:List ab} (hc:COk eQ):∀ (k:Nat) {b:List Int} {l l':List (List Bool)},LR eQ.length b l->dF (bS eQ) k l=some l'->∃ b',aO (bN eQ) (true,b)=some b'/\LR eQ.length b' l'
 | 0,_,_,_,_,h=>by simp [dF] at h
 | k+1,b,l,l',hL,h=>by
  have hs:∃ z,dD eQ l=some z/\sel z.1 (some (.inl z.2)) (some (.inr z.2))=bS eQ l:=by
   cases hz:dD eQ l with
   | none =>
    have:bS eQ l=none:=by unfold bS; rw [hz]; rfl
    simp [dF,this] at h
   | some z=>exact ⟨z,rfl,by unfold bS; rw [hz]; rfl⟩
  obtain ⟨z,hz,hb2⟩:=hs
  obtain ⟨y,hy,hyc,hyL⟩:=yz hc hL hz
  have hstep:aO (bN eQ) (true,b)=aO (bN eQ) (y.1,y.2):=by
   rw [dg]
   have:bN eQ (true,b)=some (.inl (y.1,y.2)):=by
    unfold bN
    rw [dX rfl]
    simp only
    rw [hy]
    rfl
   rw [this]
  rw [hstep,hyc]
  cases hzc:z.1
  ·rw [hzc,bD rfl] at hb2
   have:l'=z.2:=by
    have:dF (bS eQ) (k+1) l=some z.2:=by simp [dF,<-hb2]
    rw [this] at h
    exact (o9 h).symm
   subst this
   refine ⟨y.2,?_,hyL⟩
   rw [dg]
   have:bN eQ (false,y.2)=some (.inr y.2):=by
    unfold bN
    rw [bD rfl]
   rw [this]
  ·rw [hzc,dX rfl] at hb2
   have:dF (bS eQ) k z.2=some l':=by
    have e:dF (bS eQ) (k+1) l=dF (bS eQ) k z.2:=by simp [dF,<-hb2]
    rw [<-e]; exact h
   exact wz hc k hyL this
theorem Ce {eQ:List ab} (hc:COk eQ):∃ b l,dT eQ=some b/\eO eQ=some l/\LR eQ.length b l:=by
 have hmx:=hc.max
 obtain ⟨l,el,hl⟩:=xE hc
 have h:=el
 unfold eO at h
 rw [aU hc,ob9,bD (show (!true)=false from rfl),zS hc,ob9] at h
 obtain ⟨l1,h1,h⟩:=bnd h
 obtain rfl:=o9 h
 obtain ⟨k,hk⟩:=nh.1 h1
 obtain ⟨b,hb,hL⟩:=wz hc k (LR.zero eQ.length) hk
 refine ⟨b,l1,?_,el,hL⟩
 unfold dT
 obtain ⟨r,er,hr⟩:=Tot.mk (bytes:=2) (n:=(eQ.length:Int)) (z:=(0:Int)) (by omega) (by omega)
 rw [er,ob9,hr,Int.toNat_natCast,hb]
 rfl
theorem pB {f:Int×List ab->Option ((Int×List ab)⊕List ab)} {eQ:List ab} (P:Nat->ab->Prop) (hn:eQ.length<=600)
  (h:∀ (i:Int) (out:List ab) (q:ab),0<=i->i<eQ.length->out.length=eQ.length->eQ[i.toNat]?=some q->out[i.toNat]?=some q->Tot (f (i,out)) λz=>∃ q',z=.inl (i+1,out.set i.toNat q')/\P i.toNat q')
  (he:∀ out,f ((eQ.length:Int),out)=some (.inr out)):Tot (aO f (0,eQ)) λout=>out.length=eQ.length/\∀ i q',out[i]?=some q'->P i q':=by
 refine .iter (λs=>0<=s.1/\s.1<=(eQ.length:Int)/\s.2.length=eQ.length/\(∀ (i:Nat) q',(i:Int)<s.1->s.2[i]?=some q'->P i q')/\∀ (i:Nat),s.1<=(i:Int)->s.2[i]?=eQ[i]?) (λs=>((eQ.length:Int)-s.1).toNat) ⟨by simp,by simp,rfl,λi q' hi=>by simp only at hi; omega,λ_ _=>rfl⟩ λs hs=>?_
 obtain ⟨i,out⟩:=s
 obtain ⟨h0,h1,h2,h3,h4⟩:=hs
 simp only at h0 h1 h2 h3 h4
 by_cases hlt:i<eQ.length
 ·have hil:i.toNat<eQ.length:=by omega
  have hq:eQ[i.toNat]?=some (eQ[i.toNat]'hil):=List.getElem?_eq_getElem hil
  refine (h i out _ h0 hlt h2 hq (by rw [h4 i.toNat (by omega)]; exact hq)).mono λz hz=>?_
  obtain ⟨q',rfl,hp⟩:=hz
  refine ⟨⟨by simp only; omega,by simp only; omega,by simp only; rw [List.length_set]; exact h2,λj q hj hjq=>?_,λj hj=>?_⟩,by simp only; omega⟩
  ·simp only at hj hjq
   by_cases e:j=i.toNat
   ·subst e
    rw [List.getElem?_set_self (by omega)] at hjq
    exact (o9 hjq)▸hp
   ·rw [List.getElem?_set_ne (λh=>e h.symm)] at hjq
    exact h3 j q (by omega) hjq
  ·simp only at hj ⊢
   rw [List.getElem?_set_ne (by omega)]
   exact h4 j (by omega)
 ·have:i=eQ.length:=by omega
  subst this
  rw [he]
  refine .pure ⟨h2,λj q' hj=>h3 j q' ?_ hj⟩
  have:j<out.length:=by
   rcases Nat.lt_or_ge j out.length with h | h
   ·exact h
   ·rw [List.getElem?_eq_none h] at hj; cases hj
  omega
theorem oe {n:Nat} {P:Nat->ab->Prop} {a b:List ab} (ha:a.length=n/\∀ i q,a[i]?=some q->P i q) (hb:b.length=n/\∀ i q,b[i]?=some q->P i q) (hP:∀ i q q',P i q->P i q'->q=q'):a=b:=by
 apply List.ext_getElem?
 intro i
 rcases Nat.lt_or_ge i n with h | h
 ·have h1:a[i]?=some (a[i]'(by omega)):=List.getElem?_eq_getElem (by omega)
  have h2:b[i]?=some (b[i]'(by omega)):=List.getElem?_eq_getElem (by omega)
  rw [h1,h2,hP i _ _ (ha.2 i _ h1) (hb.2 i _ h2)]
 ·rw [List.getElem?_eq_none (by omega),List.getElem?_eq_none (by omega)]
def my (f g:List ab->Option (List ab×Bool)):Prop:=∀ {eQ:List ab},COk eQ->∃ r,f eQ=some (r,true)/\g eQ=some (r,true)/\COk r/\r.length<=eQ.length
theorem my.of {f g:List ab->Option (List ab×Bool)} (hg:sW g) (h:∀ {eQ:List ab},COk eQ->∃ r,f eQ=some (r,true)/\∃ r',g eQ=some r'/\r=r'.1):my f g:=λ{eQ} hc=>by
 obtain ⟨r,e,r',e',rfl⟩:=h hc
 obtain ⟨z,ez,h1,h2,h3⟩:=hg hc
 obtain rfl:=o9 (ez.symm.trans e')
 refine ⟨z.1,e,?_,h1,h3⟩
 rw [e',<-h2]
theorem lY {eQ:List ab} (hc:COk eQ):bn eQ=some true:=by
 have hmx:=hc.max
 rcases nY eQ (by omega) with ⟨_,h,_⟩ | ⟨h,_⟩
 ·exact h
 ·exact absurd hc h
theorem oh (eQ:List ab) (h:eQ.length<=600):aB eQ=some eQ:=by
 unfold aB
 obtain ⟨r,e,hr⟩:=Tot.app (bytes:=40) (l:=([]:List ab)) (m:=eQ) (by simp; omega)
 rw [e,ob9,hr]
 rfl
theorem yA (eQ:List ab) (x:Int):kH eQ x=fh eQ x:=rfl
def PJ (eQ:List ab) (i:Nat) (q':ab):Prop:=∃ q,eQ[i]?=some q/\((q.Op=4\/q.Op=5)/\(∃ y,fh eQ q.N=some y/\q'=ab.mk q.Op q.Dst q.A q.B y)\/¬ (q.Op=4\/q.Op=5)/\q'=q)
theorem PJ.inj {eQ:List ab} (i:Nat) (q q':ab) (h:PJ eQ i q) (h':PJ eQ i q'):q=q':=by
 obtain ⟨a,ha,h⟩:=h
 obtain ⟨b,hb,h'⟩:=h'
 obtain rfl:=o9 (ha.symm.trans hb)
 rcases h with ⟨h1,y,hy,rfl⟩ | ⟨h1,rfl⟩ <;> rcases h' with ⟨h2,y',hy',rfl⟩ | ⟨h2,rfl⟩
 ·obtain rfl:=o9 (hy.symm.trans hy')
  rfl
 ·exact absurd h1 h2
 ·exact absurd h2 h1
 ·rfl
theorem wY {eQ:List ab} (hc:COk eQ) {q:ab} (hq:q∈eQ) (h:q.Op=4\/q.Op=5):0<=q.N/\q.N<eQ.length:=by
 have hv:=hc.q q hq
 unfold QOk at hv
 rcases h with h | h <;> simp [h] at hv <;> omega
theorem BS:my kw gm:=my.of xC λ{eQ} hc=>by
 have hmx:=hc.max
 have A:Tot (aO (gG eQ) (0,eQ)) λout=>out.length=eQ.length/\∀ i q',out[i]?=some q'->PJ eQ i q':=by
  refine pB (PJ eQ) hmx (λi out q h0 h1 h2 hq ho=>?_) λout=>?_
  ·unfold gG
   have hqm:q∈eQ:=List.mem_of_getElem? hq
   refine .st (by simpa using h1) (.bind (P:=λz=>∃ q',z=out.set i.toNat q'/\PJ eQ i.toNat q') (.bind (.nth h0 h1) λq0 ⟨hq0,_⟩=>?_) λz ⟨q',hz,hp⟩=>.inl ⟨q',by rw [aq h0 (by omega),hz],hp⟩)
   obtain rfl:=o9 (hq.symm.trans hq0)
   unfold cr
   rw [ob9]
   refine .sel (λh=>?_) λh=>.pure ⟨q,?_,q,hq,.inr ⟨by simpa using h,rfl⟩⟩
   ·have h':q.Op=4\/q.Op=5:=by simpa using h
    obtain ⟨k0,k1⟩:=wY hc hqm h'
    obtain ⟨y,ey,hy⟩:=rh hc k0 k1
    refine .bind (P:=λz=>z=y) ⟨y,by rw [yA]; exact ey,rfl⟩ λz hz=>.bind (.nth h0 (by rw [h2]; exact h1)) λq2 ⟨hq2,_⟩=>.bind (.upd h0 (by rw [h2]; exact h1)) λr hr=>.pure ⟨_,hr,q,hq,.inl ⟨h',y,ey,?_⟩⟩
    obtain rfl:=o9 (ho.symm.trans hq2)
    rw [hz]
   ·exact (List.ext_getElem? λj=>by
     by_cases e:j=i.toNat
     ·subst e
      rw [List.getElem?_set_self (by omega),ho]
     ·rw [List.getElem?_set_ne (λh=>e h.symm)])
  ·unfold gG; rw [aM (by simp)]
 have B:Tot (aO (dx eQ) ([],0)) λout=>out.length=eQ.length/\∀ i q',out[i]?=some q'->PJ eQ i q':=by
  refine lX (n:=eQ.length) (PJ eQ) hmx (λi out h0 h1 h2=>?_) λout=>?_
  ·unfold dx
   refine .st (by simpa using h1) (.bind (.nth h0 h1) λq ⟨hq,hqm⟩=>.bind (P:=PJ eQ i.toNat) (.sel (λh=>?_) λh=>.pure ⟨q,hq,.inr ⟨by simpa using h,rfl⟩⟩) λq' hq'=>.bind (.app (by simp; omega)) λr hr=>.inl ⟨q',by rw [aq h0 (by omega),hr],hq'⟩)
   have h':q.Op=4\/q.Op=5:=by simpa using h
   obtain ⟨k0,k1⟩:=wY hc hqm h'
   obtain ⟨y,ey,hy⟩:=rh hc k0 k1
   exact .bind (P:=λz=>z=y) ⟨y,ey,rfl⟩ λz hz=>.pure ⟨q,hq,.inl ⟨h',y,ey,by rw [hz]⟩⟩
  ·unfold dx; rw [aM (by simp)]
 obtain ⟨a,ea,ha⟩:=A
 obtain ⟨b,eb,hb⟩:=B
 refine ⟨a,?_,(b,true),?_,oe ha hb PJ.inj⟩
 ·unfold kw
  rw [lY hc,ob9,bD (show (!true)=false from rfl),oh eQ hmx,ob9,ea]
  rfl
 ·unfold gm
  rw [aU hc,ob9,bD (show (!true)=false from rfl),eb]
  rfl
end
noncomputable section
def qQ (l:List (List Bool)) (q:ab) (i:Int):Bool:=decide (q.Op=1\/q.Op=2\/q.Op=3)&&!(fj l q i q.Dst.toNat)
theorem zm {q:ab} {m:Int} (h:QOk m q) (ho:q.Op=1\/q.Op=2\/q.Op=3):Rg q.Dst:=by
 rcases mJ h with hs | hs
 ·unfold aH at hs
  rw [if_pos (by omega)] at hs
  unfold QOk at h
  unfold Rg at *
  omega
 ·unfold aH at hs
  rw [if_pos (by omega)] at hs
  exact hs
theorem A4 {q:ab} {m:Int} (hq:QOk m q) {af:List Bool} {l:List (List Bool)} {i:Int} (haf:Fn af (fj l q i)):il q af=some (qQ l q i):=by
 refine Tot.eq ?_
 unfold il qQ
 refine .bind (P:=λb=>b=decide (q.Op=1\/q.Op=2\/q.Op=3)) (.sel (λh=>.pure ?_) λh=>.sel (λh'=>.pure ?_) λh'=>.pure ?_) λb hb=>.sel (λh=>?_) λh=>.pure ?_
 ·simp only [beq_iff_eq] at *; simp [h]
 ·simp only [beq_iff_eq] at *; simp [h']
 ·simp only [beq_eq_false_iff_ne,ne_eq] at *
  rw [Bool.eq_iff_iff]
  simp [h,h']
 ·subst hb
  have ho:q.Op=1\/q.Op=2\/q.Op=3:=by simpa using h
  have hr:=zm hq ho
  unfold Rg at hr
  refine .bind (.nth hr.1 (by rw [haf.1]; omega)) λx ⟨hx,_⟩=>.pure ?_
  rw [haf.2 q.Dst.toNat (by omega)] at hx
  rw [h,Bool.true_and,o9 hx]
 ·subst hb
  rw [h,Bool.false_and]
theorem CA {eQ:List ab} (hc:COk eQ) {b:List Int} {l:List (List Bool)} (hL:LR eQ.length b l):Tot (aO (iV eQ b) ([],0)) λds=>ds.length<=eQ.length/\(∀ x∈ds,0<=x/\x<eQ.length)/\∀ (i:Nat) q,eQ[i]?=some q->((i:Int)∈ds↔qQ l q i=true):=by
 have hmx:=hc.max
 refine .iter (λs=>0<=s.2/\s.2<=(eQ.length:Int)/\s.1.length<=s.2.toNat/\(∀ x∈s.1,0<=x/\x<s.2)/\∀ (i:Nat) q,(i:Int)<s.2->eQ[i]?=some q->((i:Int)∈s.1↔qQ l q i=true)) (λs=>((eQ.length:Int)-s.2).toNat) ⟨by simp,by simp,by simp,by simp,λi q h=>by simp only at h; omega⟩ λs hs=>?_
 obtain ⟨out,i⟩:=s
 obtain ⟨g0,g1,g2,g3,g4⟩:=hs
 simp only at g0 g1 g2 g3 g4
 unfold iV
 refine .sel (λhlt=>?_) λhge=>.inr ?_
 ·simp only [decide_eq_true_eq] at hlt
  refine .bind (P:=λz=>∃ q,eQ[i.toNat]?=some q/\z=if qQ l q i=true then out++[i] else out) (.bind (.nth g0 hlt) λq ⟨hq,hqm⟩=>?_) λz ⟨q,hq,hz⟩=>.inl ?_
  ·have hqok:=hc.q q hqm
   rw [pz,ob9]
   refine .bind (P:=λd=>d=qQ l q i) ?_ λd hd=>.sel (λh=>.bind (.app (by simp; omega)) λr hr=>.pure ⟨q,hq,?_⟩) λh=>.pure ⟨q,hq,?_⟩
   ·refine .sel (λh=>?_) λh=>.pure ?_
    ·simp only [Bool.and_eq_true,decide_eq_true_eq,bne_iff_ne,ne_eq,ge_iff_le] at h
     have hr:Rg (aH q):=(mJ hqok).resolve_left λe=>by rw [e] at h; omega
     have ho:q.Op=1\/q.Op=2\/q.Op=3\/q.Op=7:=by
      rcases Classical.em (q.Op=1\/q.Op=2\/q.Op=3\/q.Op=7) with h' | h'
      ·exact h'
      ·have:=h.1
       unfold aH at this
       rw [if_neg h'] at this
       omega
     have hd:aH q=q.Dst:=by unfold aH; rw [if_pos ho]
     refine .bind (wX hc hL g0 hq) λs ⟨hs,hsb⟩=>.bind (P:=λz=>z=bt s (aH q).toNat) ⟨_,wW hs hr,rfl⟩ λz hz=>.pure ?_
     have ho':q.Op=1\/q.Op=2\/q.Op=3:=by omega
     unfold Rg at hr
     rw [hz,hsb _ (by omega),hd]
     unfold qQ
     rw [decide_eq_true ho',Bool.true_and]
    ·unfold qQ
     have:decide (q.Op=1\/q.Op=2\/q.Op=3)=false:=by
      apply decide_eq_false
      intro ho
      have hr:=zm hqok ho
      unfold Rg at hr
      have hd:aH q=q.Dst:=by unfold aH; rw [if_pos (by omega)]
      rw [hd] at h
      simp only [Bool.and_eq_false_iff,decide_eq_false_iff_not,ge_iff_le,bne_eq_false_iff_eq] at h
      omega
     rw [this,Bool.false_and]
   ·rw [hd] at h
    rw [if_pos h,hr]
   ·rw [hd] at h
    rw [if_neg (by rw [h]; decide)]
  ·rw [aq g0 (by omega)]
   have hmem:∀ x,x∈z↔x∈out\/(x=i/\qQ l q i=true):=λx=>by
    rw [hz]
    split
    ·rename_i hd
     simp [hd]
    ·rename_i hd
     simp [hd]
   refine ⟨⟨by simp only; omega,by simp only; omega,?_,λx hx=>?_,λj p hj hp=>?_⟩,by simp only; omega⟩
   ·simp only
    rw [hz]
    split
    ·simp; omega
    ·omega
   ·simp only at hx ⊢
    rcases (hmem x).1 hx with h | ⟨rfl,_⟩
    ·have:=g3 x h; omega
    ·omega
   ·simp only at hj ⊢
    rw [hmem]
    by_cases e:(j:Int)=i
    ·have ej:j=i.toNat:=by omega
     subst ej
     obtain rfl:=o9 (hq.symm.trans hp)
     constructor
     ·rintro (h | ⟨_,h⟩)
      ·have:=g3 _ h; omega
      ·rw [e]; exact h
     ·intro h
      exact .inr ⟨e,by rw [<-e]; exact h⟩
    ·rw [<-g4 j p (by omega) hp]
     exact ⟨λh=>h.elim id λh=>absurd h.1 e,.inl⟩
 ·simp only [decide_eq_false_iff_not] at hge
  have:i=eQ.length:=by omega
  subst this
  refine ⟨show out.length<=eQ.length from by omega,g3,λj q hq=>g4 j q ?_ hq⟩
  have:=bV hq
  omega
def PD (eQ:List ab) (l:List (List Bool)) (i:Nat) (q':ab):Prop:=∃ q,eQ[i]?=some q/\q'=if qQ l q i=true then ab.mk 4 0 0 0 ((i:Int)+1) else q
theorem BT:my kx gp:=my.of xF λ{eQ} hc=>by
 have hmx:=hc.max
 obtain ⟨b,l,eb,el,hL⟩:=Ce hc
 have hbs:=hL.ok
 have B:Tot (aO (dy eQ l) ([],0)) λout=>out.length=eQ.length/\∀ i q',out[i]?=some q'->PD eQ l i q':=by
  refine lX (n:=eQ.length) (PD eQ l) hmx (λi out h0 h1 h2=>?_) λout=>?_
  ·unfold dy
   refine .st (by simpa using h1) (.bind (.nth h0 h1) λq ⟨hq,hqm⟩=>.bind (P:=PD eQ l i.toNat) (.bind (ny hc hbs h0 hq) λaf haf=>?_) λq' hq'=>.bind (.app (by simp; omega)) λr hr=>.inl ⟨q',by rw [aq h0 (by omega),hr],hq'⟩)
   rw [A4 (hc.q q hqm) haf,ob9,aq h0 (by omega)]
   have ei:((i.toNat:Nat):Int)=i:=by omega
   refine .sel (λh=>.pure ⟨q,hq,?_⟩) λh=>.pure ⟨q,hq,?_⟩
   ·rw [ei,if_pos h]
   ·rw [ei,if_neg (by rw [h]; decide)]
  ·unfold dy; rw [aM (by simp)]
 obtain ⟨ds,eds,d1,d2,d3⟩:=CA hc hL
 have A:Tot (aO (jJ ds) (0,eQ)) λout=>out.length=eQ.length/\∀ i q',out[i]?=some q'->PD eQ l i q':=by
  refine (Tot.iter (Q:=λout=>out.length=eQ.length/\∀ (i:Nat) q,eQ[i]?=some q->out[i]?=some (if (i:Int)∈ds then ab.mk 4 0 0 0 ((i:Int)+1) else q)) (λs=>0<=s.1/\s.1<=(ds.length:Int)/\s.2.length=eQ.length/\∀ (i:Nat) q,eQ[i]?=some q->s.2[i]?=some (if (i:Int)∈ds.take s.1.toNat then ab.mk 4 0 0 0 ((i:Int)+1) else q)) (λs=>((ds.length:Int)-s.1).toNat) ⟨by simp,by simp,rfl,λi q hq=>by simpa using hq⟩ λs hs=>?_).mono λout ho=>⟨ho.1,λi q' hi=>?_⟩
  ·obtain ⟨j,out⟩:=s
   obtain ⟨g0,g1,g2,g3⟩:=hs
   simp only at g0 g1 g2 g3
   unfold jJ
   refine .sel (λhlt=>?_) λhge=>.inr ?_
   ·simp only [decide_eq_true_eq] at hlt
    refine .bind (.nth g0 hlt) λx ⟨hx,hxm⟩=>?_
    obtain ⟨x0,x1⟩:=d2 x hxm
    refine .bind (.nth x0 (by rw [g2]; exact x1)) λ_ _=>.bind (.upd x0 (by rw [g2]; exact x1)) λr hr=>.inl ?_
    rw [aq x0 (by omega)] at hr
    rw [aq g0 (by omega)]
    refine ⟨⟨by simp only; omega,by simp only; omega,by simp only; rw [hr,List.length_set]; exact g2,λi q hq=>?_⟩,by simp only; omega⟩
    simp only
    have ht:ds.take (j+1).toNat=ds.take j.toNat++[x]:=by rw [show (j+1).toNat=j.toNat+1 by omega,List.take_add_one,hx]; rfl
    rw [hr,ht]
    by_cases e:i=x.toNat
    ·subst e
     have hxl:x.toNat<out.length:=by rw [g2]; omega
     rw [List.getElem?_set_self hxl,if_pos (by simp; right; omega)]
     congr 2
     omega
    ·rw [List.getElem?_set_ne (λh=>e h.symm),g3 i q hq]
     have:((i:Int)∈ds.take j.toNat++[x])↔(i:Int)∈ds.take j.toNat:=by
      simp only [List.mem_append,List.mem_singleton]
      exact ⟨λh=>h.elim id λh=>by omega,.inl⟩
     simp only [this]
   ·simp only [decide_eq_false_iff_not] at hge
    refine ⟨g2,λi q hq=>?_⟩
    rw [g3 i q hq,List.take_of_length_le (by omega)]
  ·have hil:i<eQ.length:=by have:=bV hi; rw [ho.1] at this; exact this
   have hq:eQ[i]?=some (eQ[i]'hil):=List.getElem?_eq_getElem hil
   refine ⟨_,hq,?_⟩
   have h1:=ho.2 i _ hq
   rw [h1] at hi
   rw [<-o9 hi]
   simp only [d3 i _ hq]
 obtain ⟨a,ea,ha⟩:=A
 obtain ⟨b',eb',hb'⟩:=B
 refine ⟨a,?_,(b',true),?_,oe ha hb' λi q q' h h'=>?_⟩
 ·unfold kx
  rw [lY hc,ob9,bD (show (!true)=false from rfl),oh eQ hmx,ob9]
  unfold lL
  rw [eb,ob9,eds,ob9,ob9,ea]
  rfl
 ·unfold gp
  rw [aU hc,ob9,bD (show (!true)=false from rfl),el,ob9,eb']
  rfl
 ·obtain ⟨p,hp,rfl⟩:=h
  obtain ⟨p',hp',rfl⟩:=h'
  obtain rfl:=o9 (hp.symm.trans hp')
  rfl
end
noncomputable section
inductive Rch (eQ:List ab):Nat->Prop
 | zero:Rch eQ 0
 | step {i:Nat} {q:ab} {x:Int} (h:Rch eQ i) (hq:eQ[i]?=some q) (hx:x∈nx q i):Rch eQ x.toNat
def Sub (eQ:List ab) (a:List Bool):Prop:=∀ k:Nat,a[k]?=some true->Rch eQ k
theorem Rch.seen {eQ:List ab} {a:List Bool} (h0:a[0]?=some true) (hcl:mU eQ a eQ.length) {k:Nat} (h:Rch eQ k):a[k]?=some true:=by
 induction h with
 | zero=>exact h0
 | step h hq hx ih=>exact hcl _ _ (by have:=bV hq; omega) hq ih _ hx
theorem Sub.set {eQ:List ab} {a:List Bool} {i:Nat} (h:Sub eQ a) (hi:Rch eQ i):Sub eQ (a.set i true):=λk hk=>by
 by_cases e:k=i
 ·subst e; exact hi
 ·rw [List.getElem?_set_ne (λh=>e h.symm)] at hk
  exact h k hk
theorem yB {eQ:List ab} (hc:COk eQ) {seen:List Bool} (hs:seen.length=eQ.length) (hsub:Sub eQ seen):Tot (fi eQ seen) λr=>r.2.length=eQ.length/\Sub eQ r.2:=by
 have hmx:=hc.max
 unfold fi
 refine .bind (P:=λr:Bool×List Bool=>r.2.length=eQ.length/\Sub eQ r.2) (.iter (λs=>0<=s.2.1/\s.2.1<=(eQ.length:Int)/\s.2.2.length=eQ.length/\Sub eQ s.2.2) (λs=>((eQ.length:Int)-s.2.1).toNat) ⟨by simp,by simp,hs,hsub⟩ λs hs=>?_) λr hr=>.pure hr
 obtain ⟨iU,i,a⟩:=s
 obtain ⟨g0,g1,g2,g3⟩:=hs
 simp only at g0 g1 g2 g3
 unfold i5
 refine .sel (λhlt=>?_) λhge=>.inr ⟨g2,g3⟩
 simp only [decide_eq_true_eq] at hlt
 refine .bind (P:=λz:Bool×List Bool=>z.2.length=eQ.length/\Sub eQ z.2) (.bind (.nth g0 (by rw [g2]; exact hlt)) λb ⟨hb,_⟩=>.sel (λh=>.pure ⟨g2,g3⟩) λh=>?_) λz hz=>.inl ?_
 ·have hbt:b=true:=by simpa using h
  subst hbt
  obtain ⟨q,hq⟩:∃ q,eQ[i.toNat]?=some q:=⟨_,List.getElem?_eq_getElem (by omega)⟩
  have hin:=rS hc hq
  have hri:=g3 _ hb
  rw [show ((i.toNat:Nat):Int)=i by omega] at hin
  rw [qk g0 hq (by omega),ob9]
  have hn2:(nx q i).length<=2:=by
   unfold nx
   split
   ·simp
   ·split
    ·simp
    ·split
     ·simp
     ·split <;> simp
  refine .bind (P:=λz:Bool×List Bool=>z.2.length=eQ.length/\Sub eQ z.2) (.iter (λs=>0<=s.2.1/\s.2.1<=((nx q i).length:Int)/\s.2.2.length=eQ.length/\Sub eQ s.2.2) (λs=>(((nx q i).length:Int)-s.2.1).toNat) ⟨by simp,by simp,g2,g3⟩ λs hs=>?_) λz hz=>.pure hz
  obtain ⟨f2,j,a2⟩:=s
  obtain ⟨k0,k1,k2,k3⟩:=hs
  simp only at k0 k1 k2 k3
  unfold i4
  refine .sel (λhlt2=>?_) λ_=>.inr ⟨k2,k3⟩
  simp only [decide_eq_true_eq] at hlt2
  refine .bind (P:=λz:Bool×List Bool=>z.2.length=eQ.length/\Sub eQ z.2) (.bind (.nth k0 hlt2) λx ⟨hx,hxm⟩=>?_) λz hz=>.inl ?_
  ·obtain ⟨x0,x1⟩:=hin x hxm
   refine .bind (.nth x0 (by rw [k2]; exact x1)) λsx _=>.sel (λ_=>.bind (.nth k0 hlt2) λx' ⟨hx',_⟩=>?_) λ_=>.pure ⟨k2,k3⟩
   obtain rfl:=o9 (hx.symm.trans hx')
   refine .bind (.nth x0 (by rw [k2]; exact x1)) λ_ _=>.bind (.upd x0 (by rw [k2]; exact x1)) λr hr=>.pure ?_
   subst hr
   refine ⟨by simp only; rw [List.length_set]; exact k2,k3.set ?_⟩
   have:=Rch.step hri hq (x:=x) (by rw [show ((i.toNat:Nat):Int)=i by omega]; exact hxm)
   exact this
  ·rw [aq k0 (by omega)]
   exact ⟨⟨by simp only; omega,by simp only; omega,hz⟩,by simp only; omega⟩
 ·rw [aq g0 (by omega)]
  exact ⟨⟨by simp only; omega,by simp only; omega,hz⟩,by simp only; omega⟩
theorem zn {eQ:List ab} (h1:1<=eQ.length) {l2:List Bool} (h:l2=(List.replicate eQ.length false).set 0 true):l2.length=eQ.length/\l2[0]?=some true/\Sub eQ l2:=by
 subst h
 refine ⟨by simp,by rw [List.getElem?_set_self (by simp; omega)],λk hk=>?_⟩
 by_cases e:k=0
 ·subst e; exact .zero
 ·rw [List.getElem?_set_ne (λh=>e h.symm),List.getElem?_replicate] at hk
  split at hk <;> simp at hk
theorem CB {eQ:List ab} (hc:COk eQ):Tot (cZ eQ) λseen=>seen.length=eQ.length/\∀ k:Nat,seen[k]?=some true↔Rch eQ k:=by
 have hmx:=hc.max
 have h1:=hc.one
 obtain ⟨r0,e0,w1,w2,w3⟩:=wu hc
 refine ⟨r0,e0,w1,λk=>⟨?_,Rch.seen w2 w3⟩⟩
 have hs:Tot (cZ eQ) λseen=>Sub eQ seen:=by
  unfold cZ
  rw [aU hc,ob9]
  refine .sf rfl (.bind (.mk (by omega) (by omega)) λl hl=>?_)
  subst hl
  refine .bind (.nth (by omega) (by simp; omega)) λ_ _=>.bind (.upd (by omega) (by simp; omega)) λl2 hl2=>?_
  obtain ⟨a1,a2,a3⟩:=zn h1 (l2:=l2) (by rw [hl2]; rfl)
  refine .bind (P:=λseen=>Sub eQ seen) (.iter (λs=>s.length=eQ.length/\Sub eQ s) bm ⟨a1,a3⟩ λs hs=>?_) λr hr=>.pure hr
  unfold i6
  exact .bind (.and (vp hc hs.1) (yB hc hs.1 hs.2)) λr hr=>.sel (λh=>.inl ⟨⟨hr.2.1,hr.2.2⟩,hr.1.2.2.1 h⟩) λh=>.inr hr.2.2
 obtain ⟨r1,e1,k1⟩:=hs
 obtain rfl:=o9 (e0.symm.trans e1)
 exact k1 k
def Cl1 (eQ:List ab) (a:List Bool) (i:Nat):Prop:=∀ q,eQ[i]?=some q->∀ x∈nx q i,a[x.toNat]?=some true
structure Wk (eQ:List ab) (work:List Int) (a:List Bool):Prop where
 len:a.length=eQ.length
 zero:a[0]?=some true
 sub:Sub eQ a
 mem:∀ w∈work,0<=w/\w<eQ.length/\a[w.toNat]?=some true
theorem pC {a:List Bool} {i k:Nat} (h:a[k]?=some true):(a.set i true)[k]?=some true:=by
 by_cases e:k=i
 ·subst e; rw [List.getElem?_set_self (bV h)]
 ·rw [List.getElem?_set_ne (λh=>e h.symm)]; exact h
theorem CC {eQ:List ab} (hc:COk eQ):Tot (gH eQ) λseen=>seen.length=eQ.length/\∀ k:Nat,seen[k]?=some true↔Rch eQ k:=by
 have hmx:=hc.max
 have h1:=hc.one
 unfold gH
 rw [lY hc,ob9]
 refine .sf rfl (.bind (.mk (by omega) (by omega)) λl hl=>?_)
 subst hl
 refine .bind (.nth (by omega) (by simp; omega)) λ_ _=>.bind (.upd (by omega) (by simp; omega)) λl2 hl2=>?_
 obtain ⟨a1,a2,a3⟩:=zn h1 (l2:=l2) (by rw [hl2]; rfl)
 refine .bind (P:=λseen:List Bool=>seen.length=eQ.length/\∀ k:Nat,seen[k]?=some true↔Rch eQ k) (.iter (λs=>Wk eQ s.1 s.2/\(s.1.length<=601/\bm s.2+s.1.length<=601)/\∀ i:Nat,s.2[i]?=some true->(i:Int)∉s.1->Cl1 eQ s.2 i) (λs=>bm s.2+s.1.length) ⟨⟨a1,a2,a3,λw hw=>by rw [List.mem_singleton.1 hw]; exact ⟨by omega,by omega,a2⟩⟩,⟨by simp,?_⟩,λi hi hn=>?_⟩ λs hs=>?_) λr hr=>.pure hr
 ·have:bm l2<=l2.length:=by
   unfold bm
   generalize l2=l
   induction l with
   | nil=>simp
   | cons b l ih=>simp only [List.map_cons,List.sum_cons,List.length_cons]; split <;> omega
  simp only [List.length_singleton]
  omega
 ·simp only at hi hn
  exfalso
  subst hl2
  by_cases e:i=0
  ·subst e; simp at hn
  ·rw [show (0:Int).toNat=0 from rfl,List.getElem?_set_ne (λh=>e h.symm),List.getElem?_replicate] at hi
   split at hi <;> simp at hi
 obtain ⟨work,a⟩:=s
 obtain ⟨hw,⟨hwl,hbm⟩,hcl⟩:=hs
 simp only at hw hcl hwl hbm
 unfold lN
 dsimp only
 refine .sel (λhlt=>?_) λhge=>.inr ?_
 rotate_left
 ·simp only [gt_iff_lt,decide_eq_false_iff_not] at hge
  have hnil:work=[]:=List.eq_nil_of_length_eq_zero (by omega)
  subst hnil
  refine ⟨hw.len,λk=>⟨hw.sub k,λh=>Rch.seen hw.zero (λi q _ hq hi x hx=>hcl i hi (by simp) q hq x hx) h⟩⟩
 simp only [gt_iff_lt,decide_eq_true_eq] at hlt
 rw [aE (by omega) (by omega)]
 refine .bind (.nth (by omega) (by omega)) λx ⟨hx,hxm⟩=>.bind (.cut ⟨by omega,by omega,by omega⟩) λr3 hr3=>?_
 have hr3':r3=work.dropLast:=by
  rw [hr3,show ((0:Int)).toNat=0 from rfl,List.drop_zero,List.dropLast_eq_take,show ((work.length:Int)-1).toNat=work.length-1 by omega]
 have hsplit:work=r3++[x]:=by
  have hne:work≠[]:=by rintro rfl; simp at hlt
  have hl:=List.dropLast_concat_getLast hne
  have hx2:work.getLast hne=x:=by
   have:work[work.length-1]?=some (work.getLast hne):=by
    rw [List.getLast_eq_getElem]
    exact List.getElem?_eq_getElem (by omega)
   rw [show ((work.length:Int)-1).toNat=work.length-1 by omega] at hx
   exact o9 (this.symm.trans hx)
  rw [hr3',<-hx2]
  exact hl.symm
 obtain ⟨x0,x1,xs⟩:=hw.mem x hxm
 refine .bind (.nth x0 x1) λq ⟨hq,hqm⟩=>?_
 have hin:=rS hc hq
 have hri:=hw.sub _ xs
 rw [show ((x.toNat:Nat):Int)=x by omega] at hin
 rw [rX x0 (by omega),ob9]
 have hn2:(nx q x).length<=2:=by
  unfold nx
  split
  ·simp
  ·split
   ·simp
   ·split
    ·simp
    ·split <;> simp
 have hwlen:work.length=r3.length+1:=by rw [hsplit]; simp
 refine .bind (P:=λz:List Int×List Bool=>Wk eQ z.1 z.2/\bm z.2+z.1.length<=bm a+r3.length/\(∀ i:Nat,z.2[i]?=some true->(i:Int)∉z.1->Cl1 eQ z.2 i)) (.iter
  (λs=>0<=s.2.1/\s.2.1<=((nx q x).length:Int)/\Wk eQ s.1 s.2.2/\bm s.2.2+s.1.length<=bm a+r3.length/\(∀ k:Nat,a[k]?=some true->s.2.2[k]?=some true)/\(∀ y∈(nx q x).take s.2.1.toNat,s.2.2[y.toNat]?=some true)/\∀ i:Nat,s.2.2[i]?=some true->(i:Int)∉s.1->i=x.toNat\/Cl1 eQ s.2.2 i)
  (λs=>(((nx q x).length:Int)-s.2.1).toNat) ⟨by simp,by simp,⟨hw.len,hw.zero,hw.sub,λw hw'=>hw.mem w (by rw [hsplit]; simp [hw'])⟩,by simp,λk hk=>hk,by simp,λi hi hn=>?_⟩ λs hs=>?_) λz hz=>.inl ?_
 ·simp only at hi hn
  by_cases e:(i:Int)=x
  ·left; omega
  ·right
   refine hcl i hi ?_
   rw [hsplit]
   simp only [List.mem_append,List.mem_singleton]
   exact λh=>h.elim hn e
 ·obtain ⟨wk,j,b⟩:=s
  obtain ⟨k0,k1,k2,k3,k4,k5,k6⟩:=hs
  simp only at k0 k1 k2 k3 k4 k5 k6
  unfold lM
  dsimp only
  refine .sel (λhlt2=>?_) λhge2=>.inr ?_
  ·simp only [decide_eq_true_eq] at hlt2
   refine .bind (P:=λz:List Int×List Bool=>Wk eQ z.1 z.2/\bm z.2+z.1.length<=bm a+r3.length/\(∀ k:Nat,a[k]?=some true->z.2[k]?=some true)/\(∀ y∈(nx q x).take (j+1).toNat,z.2[y.toNat]?=some true)/\∀ i:Nat,z.2[i]?=some true->(i:Int)∉z.1->i=x.toNat\/Cl1 eQ z.2 i) (.bind (.nth k0 hlt2) λy ⟨hy,hym⟩=>?_) λz hz=>.inl ?_
   ·obtain ⟨y0,y1⟩:=hin y hym
    have ht:(nx q x).take (j+1).toNat=(nx q x).take j.toNat++[y]:=by rw [show (j+1).toNat=j.toNat+1 by omega,List.take_add_one,hy]; rfl
    have hry:Rch eQ y.toNat:=Rch.step hri hq (x:=y) (by rw [show ((x.toNat:Nat):Int)=x by omega]; exact hym)
    refine .bind (.nth y0 (by rw [k2.len]; exact y1)) λsy ⟨hsy,_⟩=>.sel (λh=>.bind (.nth y0 (by rw [k2.len]; exact y1)) λ_ _=>.bind (.upd y0 (by rw [k2.len]; exact y1)) λr hr=>.bind (.app (by simp; omega)) λr5 hr5=>.pure ?_) λh=>.pure ?_
    ·have hsf:sy=false:=by simpa using h
     subst hsf
     have hb:=AR hsy
     subst hr hr5
     refine ⟨⟨by simp only; rw [List.length_set]; exact k2.len,pC k2.zero,k2.sub.set hry,λw hw'=>?_⟩,by simp only [List.length_append,List.length_singleton]; omega,λk hk=>pC (k4 k hk),λy' hy'=>?_,λi hi hn=>?_⟩
     ·simp only [List.mem_append,List.mem_singleton] at hw'
      rcases hw' with h' | rfl
      ·obtain ⟨m1,m2,m3⟩:=k2.mem w h'
       exact ⟨m1,m2,pC m3⟩
      ·exact ⟨y0,y1,by rw [List.getElem?_set_self (bV hsy)]⟩
     ·rw [ht] at hy'
      rcases List.mem_append.1 hy' with h' | h'
      ·exact pC (k5 y' h')
      ·rw [List.mem_singleton.1 h',List.getElem?_set_self (bV hsy)]
     ·simp only [List.mem_append,List.mem_singleton,not_or] at hi hn
      have hne:i≠y.toNat:=λe=>hn.2 (by omega)
      rw [List.getElem?_set_ne (λh=>hne h.symm)] at hi
      exact (k6 i hi hn.1).imp id λh q' hq' x' hx'=>pC (h q' hq' x' hx')
    ·have hst:sy=true:=by simpa using h
     subst hst
     refine ⟨k2,k3,k4,λy' hy'=>?_,k6⟩
     rw [ht] at hy'
     rcases List.mem_append.1 hy' with h' | h'
     ·exact k5 y' h'
     ·rw [List.mem_singleton.1 h']; exact hsy
   ·rw [aq k0 (by omega)]
    exact ⟨⟨by simp only; omega,by simp only; omega,hz⟩,by simp only; omega⟩
  ·simp only [decide_eq_false_iff_not] at hge2
   refine ⟨k2,k3,λi hi hn=>?_⟩
   rcases k6 i hi hn with rfl | h
   ·intro q' hq' x' hx'
    obtain rfl:=o9 (hq.symm.trans hq')
    rw [show ((x.toNat:Nat):Int)=x by omega] at hx'
    exact k5 x' (by rw [List.take_of_length_le (by omega)]; exact hx')
   ·exact h
 ·exact ⟨⟨hz.1,⟨by simp only; omega,by simp only; omega⟩,hz.2.2⟩,by simp only; omega⟩
theorem A5 {eQ:List ab} (hc:COk eQ):∃ seen,gH eQ=some seen/\cZ eQ=some seen/\seen.length=eQ.length:=by
 obtain ⟨a,ea,ha,ha2⟩:=CC hc
 obtain ⟨b,eb,hb,hb2⟩:=CB hc
 have:a=b:=by
  apply List.ext_getElem?
  intro k
  rcases Nat.lt_or_ge k eQ.length with h | h
  ·have h1:a[k]?=some (a[k]'(by omega)):=List.getElem?_eq_getElem (by omega)
   have h2:b[k]?=some (b[k]'(by omega)):=List.getElem?_eq_getElem (by omega)
   have h3:=(ha2 k).trans (hb2 k).symm
   rw [h1,h2] at h3 ⊢
   congr 1
   rw [Bool.eq_iff_iff]
   simpa using h3
  ·rw [List.getElem?_eq_none (by omega),List.getElem?_eq_none (by omega)]
 subst this
 exact ⟨a,ea,eb,ha⟩
end
noncomputable section
def KK (eQ:List ab) (seen:List Bool) (j:Nat):Bool:=(seen[j]?).getD false&&(match eQ[j]? with
 | some q=>!mK q j
 | none=>false)
def kl (eQ:List ab) (K:Nat->Bool):Nat->List ab
 | 0=>[]
 | m+1=>kl eQ K m++(match eQ[m]? with
  | some q=>if K m then [q] else []
  | none=>[])
theorem wZ {eQ:List ab} {K:Nat->Bool} {m:Nat} {q:ab} (h:eQ[m]?=some q):kl eQ K (m+1)=if K m=true then kl eQ K m++[q] else kl eQ K m:=by
 rw [kl,h]
 simp only
 split
 ·rfl
 ·simp
theorem w4 {eQ:List ab} {K:Nat->Bool}:∀ m,m<=eQ.length->(kl eQ K m).length=cnt K m
 | 0,_=>rfl
 | m+1,h=>by
  have hq:eQ[m]?=some (eQ[m]'(by omega)):=List.getElem?_eq_getElem (by omega)
  rw [wZ hq,cnt]
  have:=w4 (eQ:=eQ) (K:=K) m (by omega)
  split <;> simp [this]
theorem A6 {eQ:List ab} {K:Nat->Bool}:∀ m,∀ q∈kl eQ K m,q∈eQ
 | 0,q,h=>by simp [kl] at h
 | m+1,q,h=>by
  rw [kl] at h
  rcases List.mem_append.1 h with h | h
  ·exact A6 m q h
  ·cases hq:eQ[m]? with
   | none=>rw [hq] at h; simp at h
   | some p =>
    rw [hq] at h
    simp only at h
    split at h
    ·rw [List.mem_singleton.1 h]; exact List.mem_of_getElem? hq
    ·simp at h
def FT (K:Nat->Bool) (q:ab):ab:=if q.Op=4\/q.Op=5 then ab.mk q.Op q.Dst q.A q.B (cnt K q.N.toNat:Nat) else q
theorem zT (q:ab) {i:Int} (h0:0<=i) (h:i<=1000):js q i=some (!mK q i):=by
 unfold js cr mK
 rw [ob9,aq h0 (by omega)]
 congr 1
 by_cases h4:q.Op=4\/q.Op=5
 ·rw [if_pos h4]
  have h2:(q.Op==2)=false:=by simp; omega
  rw [h2]
  rcases h4 with h4 | h4 <;> simp [h4]
 ·rw [if_neg h4]
  have e4:(q.Op==4)=false:=by simp; omega
  have e5:(q.Op==5)=false:=by simp; omega
  rw [e4,e5]
  by_cases h2:q.Op=2
  ·rw [if_pos h2]; simp [h2]
  ·rw [if_neg h2]; simp [h2]
theorem Da {eQ:List ab} (hc:COk eQ) {seen:List Bool} (s1:seen.length=eQ.length):Tot (aO (d8 eQ) (0,seen)) λkeep=>keep.length=eQ.length/\∀ j,kp keep j=KK eQ seen j:=by
 have hmx:=hc.max
 refine (Tot.iter (Q:=λkeep:List Bool=>keep.length=eQ.length/\∀ (j:Nat) (q:ab),eQ[j]?=some q->keep[j]?=some ((seen[j]?).getD false&&!mK q j)) (λs=>0<=s.1/\s.1<=(eQ.length:Int)/\s.2.length=eQ.length/\(∀ (j:Nat) (q:ab),(j:Int)<s.1->eQ[j]?=some q->s.2[j]?=some ((seen[j]?).getD false&&!mK q j))/\∀ (j:Nat),s.1<=(j:Int)->s.2[j]?=seen[j]?) (λs=>((eQ.length:Int)-s.1).toNat) ⟨by simp,by simp,s1,λj q h=>by simp only at h; omega,λ_ _=>rfl⟩ λs hs=>?_).mono λkeep ⟨k1,k2⟩=>⟨k1,λj=>?_⟩
 ·obtain ⟨i,a⟩:=s
  obtain ⟨g0,g1,g2,g3,g4⟩:=hs
  simp only at g0 g1 g2 g3 g4
  unfold d8
  refine .sel (λhlt=>?_) λhge=>.inr ⟨g2,λj q hq=>g3 j q (by have:=bV hq; simp only [decide_eq_false_iff_not] at hge; omega) hq⟩
  simp only [decide_eq_true_eq] at hlt
  have hia:i<a.length:=by rw [g2]; exact hlt
  obtain ⟨q,hq⟩:∃ q,eQ[i.toNat]?=some q:=⟨_,List.getElem?_eq_getElem (by omega)⟩
  refine .bind (.nth g0 hia) λb ⟨hb,_⟩=>.bind (P:=λz=>z=((seen[i.toNat]?).getD false&&!mK q i)) ?_ λz hz=>.bind (.nth g0 hia) λ_ _=>.bind (.upd g0 hia) λr hr=>.inl ?_
  ·have hsb:(seen[i.toNat]?).getD false=b:=by rw [<-g4 i.toNat (by omega),hb]; rfl
   refine .sel (λh=>.bind (.nth g0 hlt) λq' ⟨hq',_⟩=>?_) λh=>.pure (by rw [hsb,h]; rfl)
   obtain rfl:q=q':=o9 (hq.symm.trans hq')
   rw [zj q g0 (by omega),ob9,hsb,h]
   exact .pure rfl
  ·subst hr hz
   rw [aq g0 (by omega)]
   refine ⟨⟨by simp only; omega,by simp only; omega,by simp [g2],λj p hj hp=>?_,λj hj=>?_⟩,by simp only; omega⟩
   ·simp only at hj ⊢
    by_cases e:(j:Int)=i
    ·obtain rfl:j=i.toNat:=by omega
     obtain rfl:q=p:=o9 (hq.symm.trans hp)
     have hlt3:i.toNat<a.length:=by omega
     rw [List.getElem?_set_self hlt3,show ((i.toNat:Nat):Int)=i by omega]
    ·rw [List.getElem?_set_ne (by omega)]
     exact g3 j p (by omega) hp
   ·simp only at hj ⊢
    rw [List.getElem?_set_ne (by omega)]
    exact g4 j (by omega)
 ·unfold kp KK
  rcases Nat.lt_or_ge j eQ.length with h | h
  ·have hq:eQ[j]?=some (eQ[j]'h):=List.getElem?_eq_getElem h
   rw [k2 j _ hq,hq]
   rfl
  ·rw [List.getElem?_eq_none (by omega),List.getElem?_eq_none h]
   simp
theorem ssq {eQ:List ab} (hc:COk eQ) {seen keep:List Bool} (k1:keep.length=eQ.length) (k2:∀ j,kp keep j=KK eQ seen j):Tot (aO (d9 eQ keep) ([],0)) λout=>out=(kl eQ (KK eQ seen) eQ.length).map (FT (KK eQ seen)):=by
 have hmx:=hc.max
 have hf:kp keep=KK eQ seen:=funext k2
 refine .iter (λs=>0<=s.2/\s.2<=(eQ.length:Int)/\s.1=(kl eQ (KK eQ seen) s.2.toNat).map (FT (KK eQ seen))) (λs=>((eQ.length:Int)-s.2).toNat) ⟨by simp,by simp,rfl⟩ λs hs=>?_
 obtain ⟨out,i⟩:=s
 obtain ⟨g0,g1,g2⟩:=hs
 simp only at g0 g1 g2
 unfold d9
 refine .sel (λhlt=>?_) λhge=>.inr ?_
 ·simp only [decide_eq_true_eq] at hlt
  refine .bind (P:=λo=>o=(kl eQ (KK eQ seen) (i.toNat+1)).map (FT (KK eQ seen))) (.bind (.nth g0 hlt) λq ⟨hq,hqm⟩=>.bind (.nth g0 (by rw [k1]; exact hlt)) λb ⟨hb,_⟩=>?_) λz hz=>.inl ?_
  ·have hkb:KK eQ seen i.toNat=b:=by rw [<-k2]; unfold kp; rw [hb]; rfl
   have hol:out.length<=eQ.length:=by
    rw [g2,List.length_map,w4 _ (by omega)]
    have:=px (KK eQ seen) i.toNat
    omega
   rw [wZ hq,hkb]
   refine .sel (λh=>.pure ?_) λh=>?_
   ·have:b=false:=by simpa using h
    subst this
    exact g2
   ·have:b=true:=by simpa using h
    subst this
    refine .bind (P:=λz=>z=FT (KK eQ seen) q) (.sel (λho=>?_) λho=>.pure ?_) λz hz=>.bind (.app (by simp; omega)) λr hr=>.pure ?_
    ·have ho':q.Op=4\/q.Op=5:=by simpa using ho
     obtain ⟨n0,n1⟩:=wY hc hqm ho'
     refine .bind (wv n0 (by rw [k1]; omega) (by omega)) λr hr=>.pure ?_
     unfold FT
     rw [if_pos ho',hr,hf]
    ·unfold FT
     rw [if_neg (by simpa using ho)]
    ·rw [hr,hz,g2,if_pos rfl]
     simp
  ·rw [aq g0 (by omega)]
   refine ⟨⟨by simp only; omega,by simp only; omega,?_⟩,by simp only; omega⟩
   simp only
   rw [hz,show (i+1).toNat=i.toNat+1 by omega]
 ·simp only [decide_eq_false_iff_not] at hge
  rw [g2,show i.toNat=eQ.length by omega]
theorem Dv {eQ:List ab} (hc:COk eQ) {seen:List Bool} (s1:seen.length=eQ.length) {ns:List Int} (hns:ns.length=eQ.length):Tot (aO (gv eQ seen) ([],0,ns)) λz=>z.1=kl eQ (KK eQ seen) eQ.length/\z.2.length=eQ.length/\∀ j:Nat,j<eQ.length->z.2[j]?=some ((cnt (KK eQ seen) j:Nat):Int):=by
 have hmx:=hc.max
 refine .iter (λs=>0<=s.2.1/\s.2.1<=(eQ.length:Int)/\s.1=kl eQ (KK eQ seen) s.2.1.toNat/\s.2.2.length=eQ.length/\∀ j:Nat,(j:Int)<s.2.1->s.2.2[j]?=some ((cnt (KK eQ seen) j:Nat):Int)) (λs=>((eQ.length:Int)-s.2.1).toNat) ⟨by simp,by simp,rfl,hns,λj h=>by simp only at h; omega⟩ λs hs=>?_
 obtain ⟨out,i,a⟩:=s
 obtain ⟨g0,g1,g2,g3,g4⟩:=hs
 simp only at g0 g1 g2 g3 g4
 unfold gv
 dsimp only
 refine .sel (λhlt=>?_) λhge=>.inr ?_
 ·simp only [decide_eq_true_eq] at hlt
  rw [s1] at hlt
  have hol:out.length=cnt (KK eQ seen) i.toNat:=by rw [g2,w4 _ (by omega)]
  have hcl:=px (KK eQ seen) i.toNat
  refine .bind (P:=λz=>z.1=kl eQ (KK eQ seen) (i.toNat+1)/\z.2=a.set i.toNat (out.length:Int)) (.bind (.nth g0 (by rw [s1]; exact hlt)) λb ⟨hb,_⟩=>.bind (.nth g0 (by rw [g3]; exact hlt)) λ_ _=>.bind (.upd g0 (by rw [g3]; exact hlt)) λr hr=>?_) λz hz=>.inl ?_
  ·obtain ⟨q,hq⟩:∃ q,eQ[i.toNat]?=some q:=⟨_,List.getElem?_eq_getElem (by omega)⟩
   have hK:KK eQ seen i.toNat=(b&&!mK q i):=by
    unfold KK
    rw [hq,hb]
    simp only [Option.getD_some]
    rw [show ((i.toNat:Nat):Int)=i by omega]
   rw [wZ hq,hK]
   refine .bind (P:=λz=>z=(b&&!mK q i)) (.sel (λh=>.bind (.nth g0 hlt) λq' ⟨hq',_⟩=>?_) λh=>.pure (by rw [h]; rfl)) λd hd=>?_
   ·obtain rfl:=o9 (hq.symm.trans hq')
    rw [zT q g0 (by omega),ob9,h]
    exact .pure rfl
   ·rw [<-hd]
    refine .sel (λh=>.bind (.nth g0 hlt) λq' ⟨hq',_⟩=>.bind (.app (by simp; omega)) λr3 hr3=>.pure ?_) λh=>.pure ?_
    ·obtain rfl:=o9 (hq.symm.trans hq')
     rw [if_pos h]
     exact ⟨by rw [hr3,g2],hr⟩
    ·rw [if_neg (by rw [h]; decide)]
     exact ⟨g2,hr⟩
  ·rw [aq g0 (by omega)]
   obtain ⟨z1,z2⟩:=hz
   refine ⟨⟨by simp only; omega,by simp only; omega,by simp only; rw [z1,show (i+1).toNat=i.toNat+1 by omega],by simp only; rw [z2,List.length_set]; exact g3,λj hj=>?_⟩,by simp only; omega⟩
   simp only at hj ⊢
   rw [z2]
   by_cases e:j=i.toNat
   ·subst e
    rw [List.getElem?_set_self (by omega),hol]
   ·rw [List.getElem?_set_ne (λh=>e h.symm)]
    exact g4 j (by omega)
 ·simp only [decide_eq_false_iff_not,s1] at hge
  refine ⟨?_,g3,λj hj=>g4 j (by omega)⟩
  simp only
  rw [g2,show i.toNat=eQ.length by omega]
theorem Dw {eQ:List ab} (hc:COk eQ) {K:Nat->Bool} {ns:List Int} (hn:ns.length=eQ.length) (h:∀ j:Nat,j<eQ.length->ns[j]?=some ((cnt K j:Nat):Int)):Tot (aO (d7 (kl eQ K eQ.length,ns)) (0,kl eQ K eQ.length)) λout=>out=(kl eQ K eQ.length).map (FT K):=by
 have hmx:=hc.max
 have hl:=w4 (eQ:=eQ) (K:=K) eQ.length (Nat.le_refl _)
 have hcl:=px K eQ.length
 refine (pB (eQ:=kl eQ K eQ.length) (λi q'=>∃ q,(kl eQ K eQ.length)[i]?=some q/\q'=FT K q) (by omega) (λi out q h0 h1 h2 hq ho=>?_) λout=>?_).mono λout ho=>?_
 ·unfold d7
  dsimp only
  have hqm:=A6 _ _ (List.mem_of_getElem? hq)
  refine .st (by simpa using h1) (.bind (P:=λz=>∃ q',z=out.set i.toNat q'/\q'=FT K q) (.bind (.nth h0 (by rw [h2]; exact h1)) λq0 ⟨hq0,_⟩=>?_) λz ⟨q',hz,hp⟩=>.inl ⟨q',by rw [aq h0 (by omega),hz],q,hq,hp⟩)
  obtain rfl:=o9 (ho.symm.trans hq0)
  unfold cr
  rw [ob9]
  refine .sel (λhT=>?_) λhT=>.pure ⟨q,?_,?_⟩
  ·have hT':q.Op=4\/q.Op=5:=by simpa using hT
   obtain ⟨n0,n1⟩:=wY hc hqm hT'
   refine .bind (.nth n0 (by rw [hn]; exact n1)) λx ⟨hx,_⟩=>.bind (.nth h0 (by rw [h2]; exact h1)) λq2 ⟨hq2,_⟩=>.bind (.upd h0 (by rw [h2]; exact h1)) λr hr=>.pure ⟨_,hr,?_⟩
   obtain rfl:=o9 (ho.symm.trans hq2)
   rw [h q.N.toNat (by omega)] at hx
   unfold FT
   rw [if_pos hT',o9 hx]
  ·exact (List.ext_getElem? λj=>by
    by_cases e:j=i.toNat
    ·subst e
     rw [List.getElem?_set_self (by omega),ho]
    ·rw [List.getElem?_set_ne (λh=>e h.symm)])
  ·unfold FT
   rw [if_neg (by simpa using hT)]
 ·unfold d7; rw [aM (by simp)]
 ·refine oe ho (P:=λi q'=>∃ q,(kl eQ K eQ.length)[i]?=some q/\q'=FT K q) ⟨by simp,λi q hi=>?_⟩ λi q q' ⟨p,hp,e⟩ ⟨p',hp',e'⟩=>?_
  ·rw [List.getElem?_map] at hi
   obtain ⟨p,hp,rfl⟩:=Option.map_eq_some_iff.1 hi
   exact ⟨p,hp,rfl⟩
  ·obtain rfl:=o9 (hp.symm.trans hp')
   rw [e,e']
theorem yC:my gI dz:=my.of vr λ{eQ} hc=>by
 have hmx:=hc.max
 obtain ⟨seen,e1,e2,s1⟩:=A5 hc
 obtain ⟨keep,e3,k1,k2⟩:=Da hc s1
 obtain ⟨out,e4,ho⟩:=ssq hc k1 k2
 obtain ⟨ns,e5,hns⟩:=Tot.mk (bytes:=8) (n:=(eQ.length:Int)) (z:=(0:Int)) (by omega) (by omega)
 obtain ⟨z,e6,z1,z2,z3⟩:=Dv hc s1 (ns:=ns) (by rw [hns]; simp)
 obtain ⟨w,e7,hw⟩:=Dw hc z2 z3
 refine ⟨w,?_,(out,true),?_,by rw [hw,ho]⟩
 ·unfold gI
  rw [lY hc,ob9,bD (show (!true)=false from rfl),e5,ob9,e1,ob9,e6,ob9]
  have:z=(kl eQ (KK eQ seen) eQ.length,z.2):=by rw [<-z1]
  rw [this,e7]
  rfl
 ·unfold dz
  rw [aU hc,ob9,bD (show (!true)=false from rfl),e2,ob9,e3,ob9,e4]
  rfl
end
noncomputable section
theorem A7 {n:Int}:eT n=some (if 2147483648<=n%4294967296 then n%4294967296-4294967296 else n%4294967296):=by
 unfold eT
 have:mY .i32 n=if 2147483648<=n%4294967296 then n%4294967296-4294967296 else n%4294967296:=by
  rw [lz]
  simp [IntKind.wrap,IntKind.signed,IntKind.bits]
 rw [this]
 congr 1
 split <;> exact aE (by omega) (by omega)
theorem A8 {n:Int}:du n=some (if 2147483648<=n%4294967296 then n%4294967296-4294967296 else n%4294967296):=by
 refine Tot.eq ?_
 unfold du
 have hm:n.tmod 4294967296=if 0<=n\/n%4294967296=0 then n%4294967296 else n%4294967296-4294967296:=by
  rw [Int.tmod_eq_emod]
  simp only [Int.dvd_iff_emod_eq_zero]
  split <;> simp
 rw [hm]
 refine .sel (λh=>.pure ?_) λh=>.sel (λh'=>.pure ?_) λh'=>.pure ?_
 all_goals simp only [decide_eq_true_eq,decide_eq_false_iff_not] at *
 ·rw [aE (by split <;> omega) (by split <;> omega)]; split <;> split <;> split at h <;> omega
 ·rw [aE (by split <;> omega) (by split <;> omega)]; split <;> split <;> split at h' <;> omega
 ·split <;> split <;> omega
theorem xJ:du=eT:=funext λn=>by rw [A8,A7]
theorem ol {op a b:Int} (hop:1<=op/\op<=12) (ha:Wd a) (hb:Wd b):∃ v,Wd v/\jm op a b=some v/\jv op a b=some (v,true):=by
 have key:jv op a b=(jm op a b).bind λv=>some (v,true):=by
  have h1:et op=some true:=by unfold et aY; simp; omega
  have h2:bR a=some true:=by unfold Wd at ha; unfold bR aY; simp; omega
  have h3:bR b=some true:=by unfold Wd at hb; unfold bR aY; simp; omega
  unfold jv
  rw [h1,ob9,bD (show (!true)=false from rfl),h2,ob9,ob9,bD (show (!true)=false from rfl),h3,ob9,ob9,bD (show (!true)=false from rfl),xJ]
  unfold ig kz kA
  rw [xJ]
  unfold jm
  rcases (by omega:op=1\/op=2\/op=3\/op=4\/op=5\/op=6\/op=7\/op=8\/op=9\/op=10\/op=11\/op=12) with rfl | rfl | rfl | rfl | rfl | rfl | rfl | rfl | rfl | rfl | rfl | rfl
  ·rfl
  ·rfl
  ·rfl
  ·show (lr (a==b)).bind _=((ml (a==b)).bind _).bind _
   cases (a==b) <;> rfl
  ·show (lr (decide (a<b))).bind _=((ml (decide (a<b))).bind _).bind _
   cases (decide (a<b)) <;> rfl
  ·show ((shO .shl .i64 a (bA .and .i64 b 31)).bind _).bind _=((shO .shl .i64 a (bA .and .i64 b 31)).bind _).bind _
   cases (shO .shl .i64 a (bA .and .i64 b 31)) <;> rfl
  ·show ((shO .shr .i64 a (bA .and .i64 b 31)).bind _).bind _=((shO .shr .i64 a (bA .and .i64 b 31)).bind _).bind _
   cases (shO .shr .i64 a (bA .and .i64 b 31)) <;> rfl
  ·rfl
  ·rfl
  ·rfl
  ·show (sel (b==0) (some (-1)) ((sS .i64 a b).bind _)).bind _=(sel (b==0) (some (-1)) ((sS .i64 a b).bind _)).bind _
   cases (b==0)
   ·cases (sS .i64 a b) <;> rfl
   ·rfl
  ·show (sel (b==0) (some a) ((q8 a b).bind _)).bind _=(sel (b==0) (some a) ((q8 a b).bind _)).bind _
   cases (b==0)
   ·cases (q8 a b) <;> rfl
   ·rfl
 obtain ⟨r,er,hr⟩:=sV hop ha hb
 rw [key] at er
 obtain ⟨v,hv,h⟩:=bnd er
 obtain rfl:=o9 h
 refine ⟨v,hr,hv,?_⟩
 rw [key,hv]
 rfl
theorem aj.ext' {a b:aj} (h1:a.Kind=b.Kind) (h2:a.N=b.N):a=b:=by cases a; cases b; simp_all
instance (a b:aj):Decidable (a=b):=decidable_of_iff (a.Kind=b.Kind/\a.N=b.N) ⟨λh=>aj.ext' h.1 h.2,λh=>by subst h; exact ⟨rfl,rfl⟩⟩
def leF (a b:aj):Prop:=a.Kind=0\/a=b\/b.Kind=2
def a6 (a b:aj):aj:=if a.Kind=0 then b else if b.Kind=0\/a=b then a else ⟨2,0⟩
theorem leF.refl (a:aj):leF a a:=.inr (.inl rfl)
theorem leF.trans {a b c:aj} (hb:FOk b) (h1:leF a b) (h2:leF b c):leF a c:=by
 rcases h1 with h | rfl | h
 ·exact .inl h
 ·exact h2
 ·rcases h2 with h' | rfl | h'
  ·rw [h] at h'; cases h'
  ·exact .inr (.inr h)
  ·exact .inr (.inr h')
theorem leF.anti {a b:aj} (ha:FOk a) (hb:FOk b) (h1:leF a b) (h2:leF b a):a=b:=by
 unfold FOk at ha hb
 rcases h1 with h | h | h
 ·rcases h2 with h' | h' | h'
  ·exact aj.ext' (by omega) (by omega)
  ·exact h'.symm
  ·omega
 ·exact h
 ·rcases h2 with h' | h' | h'
  ·omega
  ·exact h'.symm
  ·exact aj.ext' (by omega) (by omega)
theorem a6.ok {a b:aj} (ha:FOk a) (hb:FOk b):FOk (a6 a b):=by
 unfold a6
 split
 ·exact hb
 ·split
  ·exact ha
  ·exact .inr (.inr ⟨rfl,rfl⟩)
theorem a6.le1 {a b:aj}:leF a (a6 a b):=by
 unfold a6
 split
 ·exact .inl (by assumption)
 ·split
  ·exact .refl _
  ·exact .inr (.inr rfl)
theorem a6.le2 {a b:aj}:leF b (a6 a b):=by
 unfold a6
 split
 ·exact .refl _
 ·split
  ·rename_i h
   rcases h with h | h
   ·exact .inl h
   ·exact .inr (.inl h.symm)
  ·exact .inr (.inr rfl)
theorem a6.lub {a b c:aj} (h1:leF a c) (h2:leF b c):leF (a6 a b) c:=by
 unfold a6
 split
 ·exact h2
 ·split
  ·exact h1
  ·rename_i h0 hn
   rcases h1 with h | h | h
   ·exact absurd h h0
   ·rcases h2 with h' | h' | h'
    ·exact absurd (.inl h') hn
    ·exact absurd (.inr (h.trans h'.symm)) hn
    ·exact .inr (.inr h')
   ·exact .inr (.inr h)
theorem A9 (a b:aj):ij a b=some (a6 a b):=by
 refine Tot.eq ?_
 unfold ij a6
 refine .sel (λh=>.pure ?_) λh=>.sel (λh'=>.pure ?_) λh'=>.pure ?_
 ·rw [if_pos (by simpa using h)]
 ·rw [if_neg (by simpa using h),if_pos]
  simp at h'
  exact h'.imp id λh=>aj.ext' h.1 h.2
 ·rw [if_neg (by simpa using h),if_neg]
  simp at h'
  rintro (h1 | rfl)
  ·exact h'.1 h1
  ·exact h'.2 rfl rfl
theorem Ba (a b:aj):jn a b=some (a6 a b):=by
 refine Tot.eq ?_
 unfold jn a6
 refine .sel (λh=>.pure ?_) λh=>.sel (λh'=>.pure ?_) λh'=>.pure ?_
 ·simp at h
  rcases h with h | h
  ·rw [if_pos h]
  ·obtain rfl:=aj.ext' h.1 h.2
   split
   ·rfl
   ·rw [if_pos (.inr rfl)]
 ·simp at h h'
  rw [if_neg h.1,if_pos (.inl h')]
 ·simp at h h'
  rw [if_neg h.1,if_neg]
  rintro (h1 | rfl)
  ·exact h' h1
  ·exact h.2 rfl rfl
end
noncomputable section
def Fs (l:List aj) (f:Nat->aj):Prop:=l.length=12/\∀ r,r<12->l[r]?=some (f r)
def Fa (a:Ar aj) (f:Nat->aj):Prop:=∀ r,r<12->a r=f r
def FoF (f:Nat->aj):Prop:=∀ r,r<12->FOk (f r)
def ri (f:Nat->aj):Prop:=∀ r,r<12->(f r).Kind≠0
def iG (f g:Nat->aj):Prop:=∀ r,r<12->leF (f r) (g r)
def ap (op a b:Int):Int:=(jm op a b).getD 0
def ph (q:ab) (f:Nat->aj):aj:=if q.Op=1 then ⟨1,q.N⟩ else if q.Op=2 then f q.A.toNat else if q.Op=3/\(f q.A.toNat).Kind=1/\(f q.B.toNat).Kind=1 then ⟨1,ap q.N (f q.A.toNat).N (f q.B.toNat).N⟩ else ⟨2,0⟩
def ly (q:ab) (f:Nat->aj) (j:Nat):aj:=if 0<=aH q/\j=(aH q).toNat then ph q f else f j
def fk (q:ab) (i:Int) (f:Nat->aj):List Int:=if q.Op=5/\(f q.A.toNat).Kind=1 then (if (f q.A.toNat).N=0 then [q.N] else [i+1]) else nx q i
theorem Fs.fsok {l:List aj} {f:Nat->aj} (h:Fs l f) (ho:FoF f):vk l:=⟨h.1,λx hx=>by
 obtain ⟨i,hi,e⟩:=List.mem_iff_getElem.1 hx
 have h1:l[i]?=some x:=by rw [List.getElem?_eq_getElem hi,e]
 have hl:=h.1
 rw [h.2 i (by omega)] at h1
 exact o9 h1▸ho i (by omega)⟩
theorem Fs.get {l:List aj} {f:Nat->aj} (h:Fs l f) {x:Int} (hx:Rg x):nth l x=some (f x.toNat):=by
 unfold Rg at hx
 unfold nth
 rw [if_neg (by omega),h.2 x.toNat (by omega)]
theorem Fa.get {a:Ar aj} {f:Nat->aj} (h:Fa a f) {x:Int} (hx:Rg x):cQ 12 a x=some (f x.toNat):=by
 unfold Rg at hx
 unfold cQ
 rw [if_pos (by omega),h x.toNat (by omega)]
theorem Fs.upd {l:List aj} {f:Nat->aj} (h:Fs l f) {x:Int} (hx:Rg x) (v:aj):∃ r,X.upd l x v=some r/\Fs r (λj=>if j=x.toNat then v else f j):=by
 unfold Rg at hx
 refine ⟨l.set x.toNat v,by unfold X.upd; rw [if_pos (by rw [h.1]; omega)],by rw [List.length_set]; exact h.1,λr hr=>?_⟩
 show (l.set x.toNat v)[r]?=some (if r=x.toNat then v else f r)
 by_cases e:r=x.toNat
 ·subst e
  rw [List.getElem?_set_self (by rw [h.1]; omega),if_pos rfl]
 ·rw [List.getElem?_set_ne (λh=>e h.symm),if_neg e,h.2 r hr]
theorem gN {q:ab} {m:Int} (h:QOk m q):(q.Op=1->Rg q.Dst/\Wd q.N)/\(q.Op=2->Rg q.Dst/\Rg q.A)/\(q.Op=3->Rg q.Dst/\Rg q.A/\Rg q.B/\1<=q.N/\q.N<=12)/\(q.Op=7->Rg q.Dst)/\(q.Op=5->Rg q.A):=by
 unfold QOk at h
 refine ⟨λe=>?_,λe=>?_,λe=>?_,λe=>?_,λe=>?_⟩ <;> simp [e] at h
 ·exact ⟨h.1,h.2.2.2⟩
 ·exact ⟨h.1,h.2.1⟩
 ·exact ⟨h.1,h.2.1,h.2.2.1,h.2.2.2⟩
 ·exact h.1
 ·unfold Rg at *; omega
theorem ph.ok {q:ab} {m:Int} (h:QOk m q) {f:Nat->aj} (hf:FoF f):FOk (ph q f):=by
 obtain ⟨r1,r2,r3,_,_⟩:=gN h
 unfold ph
 split
 ·rename_i e; exact .inr (.inl ⟨rfl,(r1 e).2⟩)
 ·split
  ·rename_i e; have:=(r2 e).2; unfold Rg at this; exact hf _ (by omega)
  ·split
   ·rename_i e
    obtain ⟨_,hA,hB,hN⟩:=r3 e.1
    unfold Rg at hA hB
    have k1:=hf q.A.toNat (by omega)
    have k2:=hf q.B.toNat (by omega)
    unfold FOk at k1 k2
    obtain ⟨v,hv,h1,_⟩:=ol (a:=(f q.A.toNat).N) (b:=(f q.B.toNat).N) hN (by rcases k1 with h | h | h <;> first | exact h.2 | omega) (by rcases k2 with h | h | h <;> first | exact h.2 | omega)
    refine .inr (.inl ⟨rfl,?_⟩)
    unfold ap
    rw [h1]
    exact hv
   ·exact .inr (.inr ⟨rfl,rfl⟩)
theorem ly.ok {q:ab} {m:Int} (h:QOk m q) {f:Nat->aj} (hf:FoF f):FoF (ly q f):=λr hr=>by
 unfold ly
 split
 ·exact ph.ok h hf
 ·exact hf r hr
theorem ly.full {q:ab} {m:Int} (h:QOk m q) {f:Nat->aj} (hf:ri f):ri (ly q f):=λr hr=>by
 obtain ⟨r1,r2,r3,_,_⟩:=gN h
 unfold ly
 split
 ·unfold ph
  split
  ·show (1:Int)≠0
   decide
  ·split
   ·rename_i e; have:=(r2 e).2; unfold Rg at this; exact hf _ (by omega)
   ·split
    ·show (1:Int)≠0
     decide
    ·show (2:Int)≠0
     decide
 ·exact hf r hr
theorem zo {f g:Nat->aj} (hf:ri f) (h:iG f g):ri g:=λr hr=>by
 have h0:=hf r hr
 rcases h r hr with h1 | h1 | h1
 ·exact absurd h1 h0
 ·rw [<-h1]; exact h0
 ·rw [h1]; decide
theorem ly.mono {q:ab} {m:Int} (hq:QOk m q) {f g:Nat->aj} (hf:ri f) (h:iG f g):iG (ly q f) (ly q g):=λr hr=>by
 obtain ⟨r1,r2,r3,_,_⟩:=gN hq
 unfold ly
 split
 ·unfold ph
  split
  ·exact .refl _
  ·split
   ·rename_i e; have:=(r2 e).2; unfold Rg at this; exact h _ (by omega)
   ·by_cases e3:q.Op=3
    ·obtain ⟨_,hA,hB,hN⟩:=r3 e3
     unfold Rg at hA hB
     have fA:=hf q.A.toNat (by omega)
     have fB:=hf q.B.toNat (by omega)
     have lA:=h q.A.toNat (by omega)
     have lB:=h q.B.toNat (by omega)
     by_cases cg:(g q.A.toNat).Kind=1/\(g q.B.toNat).Kind=1
     ·have eA:f q.A.toNat=g q.A.toNat:=by
       rcases lA with h' | h' | h'
       ·exact absurd h' fA
       ·exact h'
       ·rw [cg.1] at h'; cases h'
      have eB:f q.B.toNat=g q.B.toNat:=by
       rcases lB with h' | h' | h'
       ·exact absurd h' fB
       ·exact h'
       ·rw [cg.2] at h'; cases h'
      rw [eA,eB]
      exact .refl _
     ·rw [if_neg (c:=q.Op=3/\(g q.A.toNat).Kind=1/\(g q.B.toNat).Kind=1) (λhh=>cg hh.2)]
      exact .inr (.inr rfl)
    ·rw [if_neg (λhh=>e3 hh.1),if_neg (λhh=>e3 hh.1)]
     exact .refl _
 ·exact h r hr
theorem fk.mono {q:ab} {m:Int} (hq:QOk m q) {i:Int} {f g:Nat->aj} (hf:ri f) (h:iG f g) {y:Int} (hy:y∈fk q i f):y∈fk q i g:=by
 obtain ⟨_,_,_,_,r5⟩:=gN hq
 unfold fk at hy ⊢
 by_cases e5:q.Op=5
 ·have hA:=r5 e5
  unfold Rg at hA
  have fA:=hf q.A.toNat (by omega)
  have lA:=h q.A.toNat (by omega)
  by_cases cg:(g q.A.toNat).Kind=1
  ·have eA:f q.A.toNat=g q.A.toNat:=by
    rcases lA with h' | h' | h'
    ·exact absurd h' fA
    ·exact h'
    ·rw [cg] at h'; cases h'
   rw [eA] at hy
   exact hy
  ·rw [if_neg (λhh=>cg hh.2)]
   have hin:q.N∈nx q i/\i+1∈nx q i:=by
    unfold nx
    rw [if_neg (by omega),if_neg (by omega)]
    split
    ·simp
    ·split
     ·simp
     ·have:q.N=i+1:=by omega
      simp [this]
   split at hy
   ·split at hy
    ·rw [List.mem_singleton.1 hy]; exact hin.1
    ·rw [List.mem_singleton.1 hy]; exact hin.2
   ·exact hy
 ·rw [if_neg (λhh=>e5 hh.1)] at hy
  rw [if_neg (λhh=>e5 hh.1)]
  exact hy
theorem fk.in {eQ:List ab} (hc:COk eQ) {i:Nat} {q:ab} (hi:eQ[i]?=some q) {f:Nat->aj}:∀ y∈fk q i f,0<=y/\y<eQ.length:=by
 have hin:=rS hc hi
 intro y hy
 unfold fk at hy
 split at hy
 ·rename_i e
  have hmem:q.N∈nx q i/\(i:Int)+1∈nx q i:=by
   unfold nx
   rw [if_neg (by omega),if_neg (by omega)]
   split
   ·simp
   ·split
    ·simp
    ·have:q.N=(i:Int)+1:=by omega
     simp [this]
  split at hy
  ·rw [List.mem_singleton.1 hy]; exact hin _ hmem.1
  ·rw [List.mem_singleton.1 hy]; exact hin _ hmem.2
 ·exact hin y hy
theorem Dx {q:ab} {m:Int} (hq:QOk m q) {l:List aj} {f:Nat->aj} (hl:Fs l f) (hf:FoF f):Tot (ga q l) λl'=>Fs l' (ly q f):=by
 obtain ⟨r1,r2,r3,r7,_⟩:=gN hq
 unfold ga
 refine .bind (.app (by simp [hl.1])) λz hz=>?_
 rw [List.nil_append] at hz
 subst hz
 have go:∀ (v:aj),Rg q.Dst->(q.Op=1\/q.Op=2\/q.Op=3\/q.Op=7)->v=ph q f->Tot ((nth z q.Dst).bind λ_=>(X.upd z q.Dst v).bind λr=>some r) λl'=>Fs l' (ly q f):=λv hD ho hv=>by
  rw [hl.get hD,ob9]
  obtain ⟨r,e,hr⟩:=hl.upd hD v
  rw [e,ob9]
  refine .pure ⟨hr.1,λk hk=>?_⟩
  rw [hr.2 k hk]
  show some (if k=q.Dst.toNat then v else f k)=some (ly q f k)
  have hs:aH q=q.Dst:=by unfold aH; rw [if_pos ho]
  unfold ly
  rw [hs]
  unfold Rg at hD
  by_cases e:k=q.Dst.toNat
  ·rw [if_pos e,if_pos ⟨hD.1,e⟩,hv]
  ·rw [if_neg e,if_neg (λh=>e h.2)]
 refine .sel (λh=>?_) λh1=>.sel (λh=>?_) λh2=>.sel (λh=>?_) λh7=>.sel (λh=>?_) λh3=>.pure ?_
 ·have e:q.Op=1:=by simpa using h
  exact go _ (r1 e).1 (.inl e) (by unfold ph; rw [if_pos e])
 ·have e:q.Op=2:=by simpa using h
  rw [hl.get (r2 e).2,ob9]
  exact go _ (r2 e).1 (.inr (.inl e)) (by unfold ph; rw [if_neg (by omega),if_pos e])
 ·have e:q.Op=7:=by simpa using h
  exact go _ (r7 e) (.inr (.inr (.inr e))) (by unfold ph; rw [if_neg (by omega),if_neg (by omega),if_neg (by omega)])
 ·have e:q.Op=3:=by simpa using h
  obtain ⟨hD,hA,hB,hN⟩:=r3 e
  rw [hl.get hA,ob9,hl.get hB,ob9]
  have hr:cw q (f q.A.toNat) (f q.B.toNat)=some (ph q f):=by
   refine Tot.eq ?_
   unfold cw ph
   rw [if_neg (by omega),if_neg (by omega)]
   have k1:=hf q.A.toNat (by unfold Rg at hA; omega)
   have k2:=hf q.B.toNat (by unfold Rg at hB; omega)
   unfold FOk at k1 k2
   refine .sel (λh=>.pure ?_) λh=>?_
   ·rw [if_neg]
    rintro ⟨_,h1,h2⟩
    simp [h1,h2] at h
   ·simp only [Bool.or_eq_false_iff,bne_eq_false_iff_eq] at h
    obtain ⟨v,hv,h1,h2⟩:=ol (a:=(f q.A.toNat).N) (b:=(f q.B.toNat).N) hN (by rcases k1 with h | h | h <;> first | exact h.2 | omega) (by rcases k2 with h | h | h <;> first | exact h.2 | omega)
    rw [h2,ob9,if_pos ⟨e,h.1,h.2⟩]
    refine .pure ?_
    unfold ap
    rw [h1]
    rfl
  rw [hr,ob9]
  exact go _ hD (.inr (.inr (.inl e))) rfl
 ·refine ⟨hl.1,λk hk=>?_⟩
  have hs:aH q = -1:=by
   unfold aH
   rw [if_neg]
   simp only [beq_eq_false_iff_ne,ne_eq] at h1 h2 h3 h7
   omega
  unfold ly
  rw [hs,if_neg (by omega),hl.2 k hk]
theorem Dy {q:ab} {m:Int} (hq:QOk m q) {a:Ar aj} {f:Nat->aj} (ha:Fa a f) (hf:FoF f):Tot (fM a q) λa'=>Fa a' (ly q f):=by
 obtain ⟨r1,r2,r3,r7,_⟩:=gN hq
 unfold fM
 rw [pz,ob9]
 rcases mJ hq with hs | hs
 ·refine .st (by rw [hs]; decide) (.pure λr hr=>?_)
  unfold ly
  rw [hs,if_neg (by omega),ha r hr]
 ·have ho:q.Op=1\/q.Op=2\/q.Op=3\/q.Op=7:=by
   rcases Classical.em (q.Op=1\/q.Op=2\/q.Op=3\/q.Op=7) with h | h
   ·exact h
   ·unfold aH at hs
    rw [if_neg h] at hs
    unfold Rg at hs
    omega
  have hse:aH q=q.Dst:=by unfold aH; rw [if_pos ho]
  refine .sf (by unfold Rg at hs; simp; omega) (.bind (P:=λv=>v=ph q f) ?_ λv hv=>?_)
  ·refine .sel (λh=>.pure ?_) λh1=>.sel (λh=>?_) λh2=>.sel (λh=>?_) λh3=>.pure ?_
   ·unfold ph; rw [if_pos (by simpa using h)]
   ·have e:q.Op=2:=by simpa using h
    rw [ha.get (r2 e).2,ob9]
    refine .pure ?_
    unfold ph; rw [if_neg (by omega),if_pos e]
   ·have e:q.Op=3:=by simpa using h
    obtain ⟨hD,hA,hB,hN⟩:=r3 e
    rw [ha.get hA,ob9,ha.get hB,ob9]
    have k1:=hf q.A.toNat (by unfold Rg at hA; omega)
    have k2:=hf q.B.toNat (by unfold Rg at hB; omega)
    unfold FOk at k1 k2
    unfold ph
    rw [if_neg (by omega),if_neg (by omega)]
    refine .bind (P:=λb=>b=true↔((f q.A.toNat).Kind=1/\(f q.B.toNat).Kind=1)) (.sel (λh=>.pure ?_) λh=>.pure ?_) λb hb=>.sel (λh=>?_) λh=>.pure ?_
    ·simp at h; simp [h]
    ·simp at h; simp [h]
    ·have hk:=hb.1 h
     obtain ⟨v,hv,h1,h2⟩:=ol (a:=(f q.A.toNat).N) (b:=(f q.B.toNat).N) hN (by rcases k1 with h | h | h <;> first | exact h.2 | omega) (by rcases k2 with h | h | h <;> first | exact h.2 | omega)
     rw [ob9,ob9,h1,ob9,if_pos ⟨e,hk⟩]
     refine .pure ?_
     unfold ap
     rw [h1]
     rfl
    ·rw [if_neg (λhh=>by rw [hb.2 hh.2] at h; cases h)]
   ·unfold ph
    simp only [beq_eq_false_iff_ne,ne_eq] at h1 h2 h3
    rw [if_neg h1,if_neg h2,if_neg (λhh=>h3 hh.1)]
  ·rw [ha.get hs,ob9]
   refine .pure λr hr=>?_
   unfold mE ly
   unfold Rg at hs
   by_cases e:r=(aH q).toNat
   ·rw [if_pos e,if_pos ⟨hs.1,e⟩,hv]
   ·rw [if_neg e,if_neg (λh=>e h.2),ha r hr]
theorem Db {eQ:List ab} (hc:COk eQ) {l:List aj} {f:Nat->aj} (hl:Fs l f) {i:Int} {q:ab} (h0:0<=i) (hi:eQ[i.toNat]?=some q):f9 eQ l i=some (fk q i f):=by
 have hmx:=hc.max
 have hlt:=bV hi
 have hqm:=List.mem_of_getElem? hi
 have hq:=hc.q q hqm
 obtain ⟨_,_,_,_,r5⟩:=gN hq
 refine Tot.eq ?_
 unfold f9 fk
 refine .bind (.nth h0 (by omega)) λq' ⟨hq',_⟩=>?_
 obtain rfl:=o9 (hi.symm.trans hq')
 rw [qk h0 hi (by omega),ob9,aq h0 (by omega)]
 refine .bind (P:=λb=>b=false↔(q.Op=5/\(f q.A.toNat).Kind=1)) (.sel (λh=>.pure ?_) λh=>?_) λb hb=>.sel (λh=>.pure ?_) λh=>?_
 ·simp at h; simp [h]
 ·have e5:q.Op=5:=by simpa using h
  rw [hl.get (r5 e5),ob9]
  exact .pure (by simp [e5])
 ·rw [if_neg (λhh=>by rw [hb.2 hh] at h; cases h)]
 ·have h5:=hb.1 h
  rw [hl.get (r5 h5.1),ob9,if_pos h5]
  refine .sel (λh=>.pure ?_) λh=>.pure ?_
  ·rw [if_pos (by simpa using h)]
  ·rw [if_neg (by simpa using h)]
theorem Dc {eQ:List ab} (hc:COk eQ) {a:Ar aj} {f:Nat->aj} (ha:Fa a f) {i:Int} {q:ab} (h0:0<=i) (hi:eQ[i.toNat]?=some q):lJ q i a=some (fk q i f):=by
 have hmx:=hc.max
 have hlt:=bV hi
 have hq:=hc.q q (List.mem_of_getElem? hi)
 obtain ⟨_,_,_,_,r5⟩:=gN hq
 refine Tot.eq ?_
 unfold lJ fk
 rw [rX h0 (by omega),ob9,aq h0 (by omega)]
 refine .bind (P:=λb=>b=true↔(q.Op=5/\(f q.A.toNat).Kind=1)) (.sel (λh=>?_) λh=>.pure ?_) λb hb=>.sel (λh=>?_) λh=>.pure ?_
 ·have e5:q.Op=5:=by simpa using h
  rw [ha.get (r5 e5),ob9]
  exact .pure (by simp [e5])
 ·simp at h; simp [h]
 ·have h5:=hb.1 h
  rw [ha.get (r5 h5.1),ob9,if_pos h5]
  refine .sel (λh=>.pure ?_) λh=>.pure ?_
  ·rw [if_pos (by simpa using h)]
  ·rw [if_neg (by simpa using h)]
 ·rw [if_neg (λhh=>by rw [hb.2 hh] at h; cases h)]
end
noncomputable section
def c0F:Nat->aj:=λ_=>⟨1,0⟩
structure ClF (eQ:List ab) (X:Nat->Nat->aj):Prop where
 ok:∀ i,i<eQ.length->FoF (X i)
 init:iG c0F (X 0)
 step:∀ (i:Nat) q,eQ[i]?=some q->(X i 0).Kind≠0->∀ y∈fk q i (X i),iG (ly q (X i)) (X y.toNat)
structure Gd (eQ:List ab) (S:Nat->Nat->aj):Prop where
 ok:∀ i,i<eQ.length->FoF (S i)
 full:∀ i,i<eQ.length->(S i 0).Kind≠0->ri (S i)
 init:iG c0F (S 0)
 min:∀ X,ClF eQ X->∀ i,i<eQ.length->iG (S i) (X i)
def up1 (S:Nat->Nat->aj) (y:Nat) (v:Nat->aj):Nat->Nat->aj:=λi=>if i=y then λr=>a6 (S y r) (v r) else S i
structure GV (eQ:List ab) (y:Nat) (v:Nat->aj):Prop where
 ok:FoF v
 full:ri v
 le:∀ X,ClF eQ X->iG v (X y)
theorem Cf {eQ:List ab} (hc:COk eQ) {S:Nat->Nat->aj} (h:Gd eQ S) {i:Nat} {q:ab} (hi:eQ[i]?=some q) (hk:(S i 0).Kind≠0) {y:Int} (hy:y∈fk q i (S i)):GV eQ y.toNat (ly q (S i)):=by
 have hlt:=bV hi
 have hq:=hc.q q (List.mem_of_getElem? hi)
 have hf:=h.full i hlt hk
 refine ⟨ly.ok hq (h.ok i hlt),ly.full hq hf,λX hX=>?_⟩
 have hle:=h.min X hX i hlt
 have hX0:=zo hf hle 0 (by decide)
 have h1:=hX.step i q hi hX0 y (fk.mono hq hf hle hy)
 have h2:=ly.mono hq hf hle
 exact λr hr=>leF.trans (ly.ok hq (hX.ok i hlt) r hr) (h2 r hr) (h1 r hr)
theorem gO {a b:aj} (h:b.Kind≠0):(a6 a b).Kind≠0:=by
 rcases @a6.le2 a b with h' | h' | h'
 ·exact absurd h' h
 ·rw [<-h']; exact h
 ·rw [h']; decide
theorem Gd.up {eQ:List ab} {S:Nat->Nat->aj} (h:Gd eQ S) {y:Nat} {v:Nat->aj} (hv:GV eQ y v):Gd eQ (up1 S y v):=by
 refine ⟨λi hi=>?_,λi hi hk=>?_,λr hr=>?_,λX hX i hi=>?_⟩
 ·unfold up1
  split
  ·rename_i e
   subst e
   exact λr hr=>a6.ok (h.ok _ hi r hr) (hv.ok r hr)
  ·exact h.ok i hi
 ·unfold up1 at hk ⊢
  split
  ·exact λr hr=>gO (hv.full r hr)
  ·rename_i e
   rw [if_neg e] at hk
   exact h.full i hi hk
 ·unfold up1
  split
  ·rename_i e
   subst e
   have hc0:FOk (c0F r):=.inr (.inl ⟨rfl,by show Wd 0; unfold Wd; decide⟩)
   rcases h.init r hr with h1 | h1 | h1
   ·exact .inl h1
   ·rw [h1]; exact a6.le1
   ·rcases @a6.le1 (S 0 r) (v r) with h2 | h2 | h2
    ·rw [h1] at h2; cases h2
    ·right; right; show (a6 (S 0 r) (v r)).Kind=2; rw [<-h2]; exact h1
    ·exact .inr (.inr h2)
  ·exact h.init r hr
 ·unfold up1
  split
  ·rename_i e
   subst e
   exact λr hr=>a6.lub (h.min X hX _ hi r hr) (hv.le X hX r hr)
  ·exact h.min X hX i hi
def AS (n:Nat) (all:List (List aj)) (S:Nat->Nat->aj):Prop:=all.length=n/\∀ i,i<n->∃ l,all[i]?=some l/\Fs l (S i)
theorem AS.congr {n:Nat} {all:List (List aj)} {S S':Nat->Nat->aj} (h:AS n all S) (he:∀ i,i<n->∀ r,r<12->S i r=S' i r):AS n all S':=⟨h.1,λi hi=>by
 obtain ⟨l,e,hl⟩:=h.2 i hi
 exact ⟨l,e,hl.1,λr hr=>by rw [hl.2 r hr,he i hi r hr]⟩⟩
theorem AS.get {n:Nat} {all:List (List aj)} {S:Nat->Nat->aj} (h:AS n all S) {x:Int} (h0:0<=x) (h1:x<n):∃ l,nth all x=some l/\all[x.toNat]?=some l/\Fs l (S x.toNat):=by
 obtain ⟨l,e,hl⟩:=h.2 x.toNat (by omega)
 exact ⟨l,by unfold nth; rw [if_neg (by omega)]; exact e,e,hl⟩
theorem AS.aok {eQ:List ab} {all:List (List aj)} {S:Nat->Nat->aj} (h:AS eQ.length all S) (hg:Gd eQ S):AOk eQ.length all:=⟨h.1,λl hl=>by
 obtain ⟨i,hi,e⟩:=List.mem_iff_getElem.1 hl
 have hl1:=h.1
 obtain ⟨l',e',hl'⟩:=h.2 i (by omega)
 rw [List.getElem?_eq_getElem hi,e] at e'
 obtain rfl:=o9 e'
 exact hl'.fsok (hg.ok i (by omega))⟩
theorem CD {n:Nat} {all:List (List aj)} {S:Nat->Nat->aj} (h:AS n all S) {i:Int} (h0:0<=i) (h1:i<n) {fs:List aj} {v:Nat->aj} (hv:Fs fs v):Tot (gb all i fs) λz=>AS n z.2 (up1 S i.toNat v)/\(z.1=false->∀ r,r<12->a6 (S i.toNat r) (v r)=S i.toNat r):=by
 obtain ⟨l0,_,e0,hl0⟩:=h.get h0 h1
 have hn:=h.1
 unfold gb
 refine .bind (P:=λz:Bool×List (List aj)=>AS n z.2 (up1 S i.toNat v)/\(z.1=false->∀ r,r<12->a6 (S i.toNat r) (v r)=S i.toNat r)) (.iter (λs=>0<=s.2.1/\s.2.1<=12/\(∃ l,s.2.2=all.set i.toNat l/\l.length=12/\∀ k:Nat,k<12->l[k]?=some (if (k:Int)<s.2.1 then a6 (S i.toNat k) (v k) else S i.toNat k))/\(s.1=false->∀ k:Nat,(k:Int)<s.2.1->a6 (S i.toNat k) (v k)=S i.toNat k)) (λs=>(12-s.2.1).toNat)
  ⟨by simp,by simp,⟨l0,?_,hl0.1,λk hk=>by rw [hl0.2 k hk,if_neg (by simp only; omega)]⟩,λ_ k hk=>by simp only at hk; omega⟩ λs hs=>?_) λz hz=>.pure hz
 ·exact (List.ext_getElem? λj=>by
   by_cases e:j=i.toNat
   ·subst e
    rw [List.getElem?_set_self (by omega),e0]
   ·rw [List.getElem?_set_ne (λh=>e h.symm)])
 obtain ⟨iU,r,a⟩:=s
 obtain ⟨g0,g1,⟨l,rfl,gl,g3⟩,g4⟩:=hs
 simp only at g0 g1 g3 g4
 have hal:nth (all.set i.toNat l) i=some l:=by
  unfold nth
  rw [if_neg (by omega),List.getElem?_set_self (by omega)]
 unfold jM
 dsimp only
 refine .sel (λhlt=>?_) λhge=>.inr ?_
 ·simp only [decide_eq_true_eq] at hlt
  have hrr:Rg r:=by unfold Rg; omega
  have hx:nth l r=some (S i.toNat r.toNat):=by
   unfold nth
   rw [if_neg (by omega),g3 r.toNat (by omega),if_neg (by omega)]
  simp only [hal,ob9,hx,hv.get hrr,A9,aq g0 (show r<=9223372036854775806 by omega)]
  refine .bind (P:=λz:Bool×List (List aj)=>(∃ l',z.2=all.set i.toNat l'/\l'.length=12/\∀ k:Nat,k<12->l'[k]?=some (if (k:Int)<r+1 then a6 (S i.toNat k) (v k) else S i.toNat k))/\(z.1=false->∀ k:Nat,(k:Int)<r+1->a6 (S i.toNat k) (v k)=S i.toNat k)) (.sel (λhne=>?_) λhe=>.pure ⟨⟨l,rfl,gl,λk hk=>?_⟩,λhf k hk=>?_⟩) λz hz=>.inl ⟨⟨by simp only; omega,by simp only; omega,hz⟩,by simp only; omega⟩
  ·refine .bind (P:=λz=>z=l.set r.toNat (a6 (S i.toNat r.toNat) (v r.toNat))) ⟨_,by unfold X.upd; rw [if_pos ⟨g0,by omega⟩],rfl⟩ λz hz=>.pure ⟨⟨z,?_,by rw [hz,List.length_set]; exact gl,λk hk=>?_⟩,λhf=>by cases hf⟩
   ·rw [List.set_set]
   ·rw [hz]
    by_cases e:k=r.toNat
    ·subst e
     rw [List.getElem?_set_self (by omega),if_pos (by omega)]
    ·rw [List.getElem?_set_ne (λh=>e h.symm),g3 k hk]
     by_cases e2:(k:Int)<r
     ·rw [if_pos e2,if_pos (by omega)]
     ·rw [if_neg e2,if_neg (by omega)]
  all_goals
   have heq:a6 (S i.toNat r.toNat) (v r.toNat)=S i.toNat r.toNat:=by
    simp at he
    exact aj.ext' he.1 he.2
  ·rw [g3 k hk]
   by_cases e:k=r.toNat
   ·subst e
    rw [if_neg (by omega),if_pos (by omega),heq]
   ·by_cases e2:(k:Int)<r
    ·rw [if_pos e2,if_pos (by omega)]
    ·rw [if_neg e2,if_neg (by omega)]
  ·by_cases e:k=r.toNat
   ·subst e; exact heq
   ·exact g4 hf k (by omega)
 ·simp only [decide_eq_false_iff_not] at hge
  refine ⟨⟨by simp only; rw [List.length_set]; exact hn,λj hj=>?_⟩,λhf k hk=>g4 hf k (by omega)⟩
  simp only
  by_cases e:j=i.toNat
  ·subst e
   refine ⟨l,List.getElem?_set_self (by omega),gl,λk hk=>?_⟩
   rw [g3 k hk,if_pos (by omega)]
   unfold up1
   rw [if_pos rfl]
  ·obtain ⟨l',e',hl'⟩:=h.2 j hj
   refine ⟨l',by rw [List.getElem?_set_ne (λh=>e h.symm)]; exact e',?_⟩
   unfold up1
   rw [if_neg e]
   exact hl'
def Clo (eQ:List ab) (S:Nat->Nat->aj) (i:Nat):Prop:=∀ q,eQ[i]?=some q->(S i 0).Kind≠0->∀ y∈fk q i (S i),iG (ly q (S i)) (S y.toNat)
theorem xK {eQ:List ab} {q:ab} {i:Int} {f:Nat->aj}:(fk q i f).length<=2:=by
 unfold fk
 split
 ·split <;> simp
 ·unfold nx
  split
  ·simp
  ·split
   ·simp
   ·split
    ·simp
    ·split <;> simp
theorem CE {eQ:List ab} (hc:COk eQ) {all:List (List aj)} {S:Nat->Nat->aj} (h:AS eQ.length all S) (hg:Gd eQ S):Tot (gc eQ all) λz=>∃ S',AS eQ.length z.2 S'/\Gd eQ S'/\(z.1=false->S'=S/\∀ i,i<eQ.length->Clo eQ S i):=by
 have hmx:=hc.max
 unfold gc
 refine .bind (P:=λz:Bool×List (List aj)=>∃ S',AS eQ.length z.2 S'/\Gd eQ S'/\(z.1=false->S'=S/\∀ i,i<eQ.length->Clo eQ S i)) (.iter (λs=>0<=s.2.1/\s.2.1<=(eQ.length:Int)/\∃ S',AS eQ.length s.2.2 S'/\Gd eQ S'/\(s.1=false->S'=S/\∀ i:Nat,(i:Int)<s.2.1->Clo eQ S i)) (λs=>((eQ.length:Int)-s.2.1).toNat) ⟨by simp,by simp,S,h,hg,λ_=>⟨rfl,λi hi=>by simp only at hi; omega⟩⟩ λs hs=>?_) λz hz=>.pure hz
 obtain ⟨iU,i,a⟩:=s
 obtain ⟨g0,g1,S1,hA,hG,hF⟩:=hs
 simp only at g0 g1 hA hG hF
 unfold jO
 dsimp only
 refine .sel (λhlt=>?_) λhge=>.inr ⟨S1,hA,hG,λhf=>⟨(hF hf).1,λj hj=>(hF hf).2 j (by simp only [decide_eq_false_iff_not] at hge; omega)⟩⟩
 simp only [decide_eq_true_eq] at hlt
 obtain ⟨q,hq⟩:∃ q,eQ[i.toNat]?=some q:=⟨_,List.getElem?_eq_getElem (by omega)⟩
 have hqm:=List.mem_of_getElem? hq
 have hqok:=hc.q q hqm
 have ei:((i.toNat:Nat):Int)=i:=by omega
 obtain ⟨l,el,_,hl⟩:=hA.get g0 hlt
 refine .bind (P:=λz:Bool×List (List aj)=>∃ S',AS eQ.length z.2 S'/\Gd eQ S'/\(z.1=false->S'=S/\∀ j:Nat,(j:Int)<i+1->Clo eQ S j)) ?_ λz hz=>.inl ⟨⟨by simp only; rw [aq g0 (by omega)]; omega,by simp only; rw [aq g0 (by omega)]; omega,by simp only; rw [aq g0 (by omega)]; exact hz⟩,by simp only; rw [aq g0 (by omega)]; omega⟩
 rw [el,ob9,hl.get (x:=0) (by unfold Rg; decide),ob9]
 refine .sel (λhk=>.pure ⟨S1,hA,hG,λhf=>⟨(hF hf).1,λj hj=>?_⟩⟩) λhk=>?_
 ·by_cases e:(j:Int)<i
  ·exact (hF hf).2 j e
  ·obtain rfl:j=i.toNat:=by omega
   intro q' _ hk'
   rw [<-(hF hf).1] at hk'
   exact absurd (by simpa using hk) hk'
 ·have hk':(S1 i.toNat 0).Kind≠0:=by simpa using hk
  have hlo:=hG.ok i.toNat (by omega)
  rw [Db hc hl g0 hq,ob9,show nth eQ i=some q by unfold nth; rw [if_neg (by omega)]; exact hq,ob9]
  refine .bind (Dx hqok hl hlo) λfs hfs=>?_
  have hel:=@xK eQ q i (S1 i.toNat)
  have hgv:∀ y∈fk q i (S1 i.toNat),GV eQ y.toNat (ly q (S1 i.toNat)):=λy hy=>Cf hc hG hq hk' (by rw [ei]; exact hy)
  have hin:∀ y∈fk q i (S1 i.toNat),0<=y/\y<eQ.length:=λy hy=>fk.in hc hq y (by rw [ei]; exact hy)
  refine .bind (P:=λz:Bool×List (List aj)=>∃ S',AS eQ.length z.2 S'/\Gd eQ S'/\(z.1=false->iU=false/\S'=S/\∀ y∈fk q i (S1 i.toNat),iG (ly q (S1 i.toNat)) (S y.toNat))) (.iter (λs=>0<=s.2.1/\s.2.1<=((fk q i (S1 i.toNat)).length:Int)/\∃ S',AS eQ.length s.2.2 S'/\Gd eQ S'/\(s.1=false->iU=false/\S'=S/\∀ y∈(fk q i (S1 i.toNat)).take s.2.1.toNat,iG (ly q (S1 i.toNat)) (S y.toNat))) (λs=>(((fk q i (S1 i.toNat)).length:Int)-s.2.1).toNat) ⟨by simp,by simp,S1,hA,hG,λhf=>⟨hf,(hF hf).1,by simp⟩⟩ λs hs=>?_) λz hz=>.pure ?_
  ·obtain ⟨f2,j,a2⟩:=s
   obtain ⟨k0,k1,S2,hA2,hG2,hF2⟩:=hs
   simp only at k0 k1 hA2 hG2 hF2
   unfold jN
   dsimp only
   refine .sel (λhj=>?_) λhj=>.inr ⟨S2,hA2,hG2,λhf=>?_⟩
   ·simp only [decide_eq_true_eq] at hj
    refine .bind (P:=λz:Bool×List (List aj)=>∃ S',AS eQ.length z.2 S'/\Gd eQ S'/\(z.1=false->iU=false/\S'=S/\∀ y∈(fk q i (S1 i.toNat)).take (j+1).toNat,iG (ly q (S1 i.toNat)) (S y.toNat))) (.bind (.nth k0 hj) λy ⟨hy,hym⟩=>?_) λz hz=>.inl ⟨⟨by simp only; rw [aq k0 (by omega)]; omega,by simp only; rw [aq k0 (by omega)]; omega,by simp only; rw [aq k0 (by omega)]; exact hz⟩,by simp only; rw [aq k0 (by omega)]; omega⟩
    obtain ⟨y0,y1⟩:=hin y hym
    have hgy:=hgv y hym
    have ht:(fk q i (S1 i.toNat)).take (j+1).toNat=(fk q i (S1 i.toNat)).take j.toNat++[y]:=by rw [show (j+1).toNat=j.toNat+1 by omega,List.take_add_one,hy]; rfl
    refine .bind (CD hA2 y0 y1 hfs) λz ⟨z1,z2⟩=>.sel (λhz=>.pure ⟨_,z1,hG2.up hgy,λhf=>by cases hf⟩) λhz=>.pure ?_
    have habs:=z2 hz
    have hcg:AS eQ.length z.2 S2:=z1.congr λm hm r hr=>by
     unfold up1
     split
     ·rename_i e; subst e; exact habs r hr
     ·rfl
    refine ⟨S2,hcg,hG2,λhf=>?_⟩
    obtain ⟨b1,b2,b3⟩:=hF2 hf
    refine ⟨b1,b2,λy' hy'=>?_⟩
    rw [ht] at hy'
    rcases List.mem_append.1 hy' with h' | h'
    ·exact b3 y' h'
    ·rw [List.mem_singleton.1 h',<-b2]
     exact λr hr=>by rw [<-habs r hr]; exact a6.le2
   ·obtain ⟨b1,b2,b3⟩:=hF2 hf
    refine ⟨b1,b2,λy hy=>b3 y ?_⟩
    simp only [decide_eq_false_iff_not] at hj
    rw [List.take_of_length_le (by omega)]
    exact hy
  ·obtain ⟨S3,c1,c2,c3⟩:=hz
   refine ⟨S3,c1,c2,λhf=>?_⟩
   obtain ⟨b1,b2,b3⟩:=c3 hf
   refine ⟨b2,λj hj=>?_⟩
   by_cases e:(j:Int)<i
   ·exact (hF b1).2 j e
   ·obtain rfl:j=i.toNat:=by omega
    intro q' hq' _ y hy
    obtain rfl:=o9 (hq.symm.trans hq')
    rw [(hF b1).1] at b3
    rw [ei] at hy
    exact b3 y hy
def S0F:Nat->Nat->aj:=λi _=>if i=0 then ⟨1,0⟩ else ⟨0,0⟩
theorem gd0 {eQ:List ab} (h1:1<=eQ.length):Gd eQ S0F:=by
 refine ⟨λi hi r hr=>?_,λi hi hk r hr=>?_,λr hr=>?_,λX hX i hi r hr=>?_⟩
 ·unfold S0F
  split
  ·exact .inr (.inl ⟨rfl,by show Wd 0; unfold Wd; decide⟩)
  ·exact .inl ⟨rfl,rfl⟩
 ·unfold S0F at hk ⊢
  split
  ·show (1:Int)≠0; decide
  ·rename_i e; rw [if_neg e] at hk; exact absurd rfl hk
 ·unfold S0F; rw [if_pos rfl]; exact .refl _
 ·unfold S0F
  split
  ·rename_i e; subst e; exact hX.init r hr
  ·exact .inl rfl
theorem CF {eQ:List ab} (hc:COk eQ):Tot (fU eQ) λall=>∃ S,AS eQ.length all S/\Gd eQ S/\ClF eQ S:=by
 have hmx:=hc.max
 have h1:=hc.one
 unfold fU
 rw [aU hc,ob9]
 refine .sf rfl (.bind (P:=λs=>s=List.replicate eQ.length (List.replicate 12 (aj.mk 0 0))) (.iter (λs=>0<=s.2/\s.2<=(eQ.length:Int)/\s.1=List.replicate s.2.toNat (List.replicate 12 (aj.mk 0 0))) (λs=>((eQ.length:Int)-s.2).toNat) ⟨by simp,by simp,by simp⟩ λs hs=>?_) λa0 ha0=>.bind (P:=λs=>AS eQ.length s S0F) (.iter (λs=>0<=s.1/\s.1<=12/\AS eQ.length s.2 (λi r=>if i=0/\(r:Int)<s.1 then ⟨1,0⟩ else ⟨0,0⟩)) (λs=>(12-s.1).toNat) ⟨by simp,by simp,?_⟩ λs hs=>?_) λa1 ha1=>.bind (P:=λall=>∃ S,AS eQ.length all S/\Gd eQ S/\ClF eQ S) (.iter (λs=>∃ S,AS eQ.length s S/\Gd eQ S) am ⟨S0F,ha1,gd0 h1⟩ λs hs=>?_) λz hz=>.pure hz)
 ·obtain ⟨a,i⟩:=s
  obtain ⟨g0,g1,g2⟩:=hs
  simp only at g0 g1 g2
  unfold kK
  refine .sel (λhlt=>?_) λhlt=>.inr ?_
  ·simp only [decide_eq_true_eq] at hlt
   refine .bind (.mk (by omega) (by decide)) λl hl'=>.bind (.app (by rw [g2]; simp; omega)) λr hr=>.inl ?_
   subst hr hl' g2
   rw [aq g0 (by omega)]
   refine ⟨⟨by simp only; omega,by simp only; omega,?_⟩,by simp only; omega⟩
   simp only
   rw [show (i+1).toNat=i.toNat+1 by omega]
   rw [List.replicate_succ' (n:=i.toNat)]
   rfl
  ·simp only [decide_eq_false_iff_not] at hlt
   rw [g2,show i.toNat=eQ.length by omega]
 ·rw [ha0]
  refine ⟨by simp,λi hi=>⟨_,by rw [List.getElem?_replicate,if_pos hi],by simp,λr hr=>?_⟩⟩
  show _=some (if i=0/\(r:Int)<0 then (aj.mk 1 0) else aj.mk 0 0)
  rw [List.getElem?_replicate,if_pos hr,if_neg (by omega)]
 ·obtain ⟨i,a⟩:=s
  obtain ⟨g0,g1,g2⟩:=hs
  simp only at g0 g1 g2
  unfold kL
  refine .sel (λhlt=>?_) λhge=>.inr ?_
  ·simp only [decide_eq_true_eq] at hlt
   obtain ⟨l,el,el2,hl⟩:=g2.get (x:=0) (by decide) (by omega)
   have hrr:Rg i:=by unfold Rg; omega
   obtain ⟨r,er,hr⟩:=hl.upd hrr (aj.mk 1 0)
   dsimp only
   rw [el,ob9,hl.get hrr,ob9,er,ob9,aq g0 (by omega)]
   refine .inl ⟨⟨by simp only; omega,by simp only; omega,by simp only; rw [List.length_set]; exact g2.1,λj hj=>?_⟩,by simp only; omega⟩
   simp only
   by_cases e:j=0
   ·subst e
    refine ⟨r,by rw [show Int.toNat 0=0 from rfl,List.getElem?_set_self (by rw [g2.1]; exact hj)],hr.1,λk hk=>?_⟩
    rw [hr.2 k hk]
    show some (if k=i.toNat then (aj.mk 1 0) else _)=_
    by_cases e2:k=i.toNat
    ·show _=some (if 0=0/\(k:Int)<i+1 then (aj.mk 1 0) else aj.mk 0 0)
     rw [if_pos e2,if_pos ⟨rfl,by omega⟩]
    ·rw [if_neg e2]
     congr 1
     show (if (0:Int).toNat=0/\(k:Int)<i then (⟨1,0⟩:aj) else ⟨0,0⟩)=(if 0=0/\(k:Int)<i+1 then (aj.mk 1 0) else aj.mk 0 0)
     by_cases e3:(k:Int)<i
     ·rw [if_pos ⟨rfl,e3⟩,if_pos ⟨rfl,by omega⟩]
     ·rw [if_neg (λh=>e3 h.2),if_neg (λh=>by have:=h.2; omega)]
   ·obtain ⟨l',e',hl'⟩:=g2.2 j hj
    refine ⟨l',by rw [show Int.toNat 0=0 from rfl,List.getElem?_set_ne (λh=>e h.symm)]; exact e',hl'.1,λk hk=>?_⟩
    rw [hl'.2 k hk]
    simp only [e,false_and,if_false]
  ·simp only [decide_eq_false_iff_not] at hge
   refine g2.congr λj hj r hr=>?_
   unfold S0F
   by_cases e:j=0
   ·rw [if_pos ⟨e,by omega⟩,if_pos e]
   ·rw [if_neg (λh=>e h.1),if_neg e]
 ·obtain ⟨S,hA,hG⟩:=hs
  unfold kM
  refine .bind (.and (wt hc (hA.aok hG)) (CE hc hA hG)) λz ⟨⟨_,_,z3⟩,S',z4,z5,z6⟩=>.sel (λh=>.inl ⟨⟨S',z4,z5⟩,z3 h⟩) λh=>.inr ?_
  obtain ⟨e,hcl⟩:=z6 h
  subst e
  exact ⟨S',z4,z5,z5.ok,z5.init,λi q hq hk y hy=>hcl i (bV hq) q hq hk y hy⟩
end

end Go.Proofs.YtfpngipcclmliaaGreatDoor.N
