/- The program logic: rows that are only read from now on (frozen); one row several times in a row of rows. The program logic: a row's first element is taken out:  -/
import Derived.Test.YtgcmopfhafoabaaGreatDoorK1
import Derived.Laws.Cover3
import Derived.Test.YtgcmopfhafoabaaGreatDoorProg
set_option linter.unusedVariables false
set_option linter.unusedSimpArgs false
set_option maxRecDepth 100000
set_option maxHeartbeats 4000000
namespace Go.Proofs.YtgcmopfhafoabaaGreatDoor.X
noncomputable section
variable {P:Program} {n:Nat} {ops:Array Oper} {o:Oper} {rest:List Oper} {E E':Env} {W W' w w0:World} {a:Act} {v u v2:Value} {K:Env->World->Prop} {M T S:Nat->Prop} {L L0 L1:List Ent}
variable {t e:TypeId} {ag:Bool} {z:Option Value} {zv:Value} {size bytes:Nat} {α β:Type} {enc:α->D} {l l2 r:List α} {i:Int} {x y:α} {d:D} {ds xs ys:List D} {cs c1:List Value}
variable {rs:List (Value×Nat×Nat×List D)} {ls:List (Value×Nat×Value)}
def Frz (rs:List (Value×Nat×Nat×List D)) (ls:List (Value×Nat×Value)) (W:World) (S:Nat->Prop):Prop:=
 (∀ r∈rs,D.rd W (.row r.2.1 r.2.2.1 r.2.2.2) S [r.1])/\∀ q∈ls,∃ ad,adr q.1=some ad/\S ad.block/\W.cell? (ad.add q.2.1)=some q.2.2
theorem wJ (ad:Addr) (j:Nat):(ad.add j).block=ad.block:=by unfold Addr.add; split <;> rfl
theorem Frz.agree (h:Frz rs ls W S) (ha:gc S W W'):Frz rs ls W' S:=
 ⟨λr hr=>D.rd_agree (h.1 r hr) ha,λq hq=>by
  obtain ⟨ad,h1,h2,h3⟩:=h.2 q hq
  refine ⟨ad,h1,h2,?_⟩
  rw [World.cell?_of_block (w:=W) (w':=W') (by rw [wJ]; exact ha _ h2)]
  exact h3⟩
theorem Frz.mono (h:Frz rs ls W S) (hs:∀ b,S b->T b):Frz rs ls W T:=
 ⟨λr hr=>D.rd_mono (h.1 r hr) hs,λq hq=>let ⟨ad,h1,h2,h3⟩:=h.2 q hq; ⟨ad,h1,hs _ h2,h3⟩⟩
def Mul (v:Value) (e size:Nat) (xs:List D) (j:Nat) (cs:List Value) (d:D) (W:World) (S:Nat->Prop):Prop:=bQ W [.dat [d] cs,.hole v e size xs j cs] S
theorem Mul.agree {j:Nat} (h:Mul v e size xs j cs d W S) (ha:gc S W W'):Mul v e size xs j cs d W' S:=bQ.agree h ha
theorem Mul.mono {j:Nat} (h:Mul v e size xs j cs d W S) (hs:∀ b,S b->T b):Mul v e size xs j cs d W T:=bQ.mono h hs
def Raw (lit:Value) (cs:List Value) (k:Nat) (W:World) (S:Nat->Prop):Prop:=∃ g,lit=.slice (some ⟨g,0,none⟩) k k/\S g/\∀ j u,(List.replicate k cs).flatten[j]?=some u->W.cell? ((⟨g,0,none⟩:Addr).add j)=some u
theorem Raw.agree {lit:Value} {k:Nat} (h:Raw lit cs k W S) (ha:gc S W W'):Raw lit cs k W' S:=by
 obtain ⟨g,h10,h11,h12⟩:=h
 refine ⟨g,h10,h11,λj u hj=>?_⟩
 rw [World.cell?_of_block (w:=W) (w':=W') (by rw [wJ]; exact ha _ h11)]
 exact h12 j u hj
theorem Raw.mono {lit:Value} {k:Nat} (h:Raw lit cs k W S) (hs:∀ b,S b->T b):Raw lit cs k W T:=let ⟨g,h10,h11,h12⟩:=h; ⟨g,h10,hs g h11,h12⟩
variable {Q:Exit->Act->World->Prop} {SW:World->Prop} {k:Nat}
def wpM (P:Program) (ops:Array Oper) (Q:Exit->Act->World->Prop) (SW:World->Prop) (k:Nat):Nat->Array Bool->Act->World->Prop
 | 0,l,a,w=>Region.ready .any ops l=[]/\Q .normal a w
 | f+1,l,a,w=>(Region.ready .any ops l=[]->Q .normal a w)/\∀ i∈Region.ready .any ops l,wpOp P ops Q i (λa' w'=>((l.setIfInBounds i true).getD k true=false->SW w')/\wpM P ops Q SW k f (l.setIfInBounds i true) a' w') a w
theorem zt:∀ (f:Nat) (l:Array Bool) (a:Act) (w:World),wpM P ops Q SW k f l a w->wpAny P .any ops Q f l a w
 | 0,_,_,_,h=>h
 | f+1,_,_,_,h=>⟨h.1,λi hi=>wpOp_mono (λa' w' h'=>zt f _ a' w' h'.2) (h.2 i hi)⟩
theorem zX {i m:Nat} {oi:Oper} {v:Value} (hi:ops[i]?=some oi) (hs:Region.noSelect ops=true) (hQ:∀ c a w,Q (.panic c) (a.put oi.dst v) w->Q (.panic c) a w) (hkm:m=k\/kA ops k m=true) (hmi:kA ops m i=true) (hik:i≠k) :
  ∀ {f:Nat} {l:Array Bool} {a:Act} {w:World},l.getD m true=false->l.getD k true=false->sM ops i oi l->i∈Region.ready .any ops l->YieldsIf P ops SW oi v a->SW w->wpM P ops Q SW k f (l.setIfInBounds i true) (a.put oi.dst v) w->wpM P ops Q SW k (f+1) l a w:=by
 intro f
 induction f with
 | zero =>
  intro l a w hm hk hL hr hy hS H
  refine ⟨λh=>absurd (h▸hr) (by simp),λj hj=>?_⟩
  rcases Nat.decEq j i with hji | hji
  ·exact absurd (ready_mono hj hji) (by rw [H.1]; simp)
  ·subst hji
   exact hy.wpOp hi hS ⟨λ_=>hS,H⟩
 | succ f ih =>
  intro l a w hm hk hL hr hy hS H
  have hl:=(mem_ready.1 hr).1
  refine ⟨λh=>absurd (h▸hr) (by simp),λj hj=>?_⟩
  rcases Nat.decEq j i with hji | hji
  ·obtain ⟨hjl,oj,hoj,_⟩:=mem_ready.1 hj
   have hjm:j≠m:=λh=>o0 hmi hl (h▸hj)
   have hjk:j≠k:=λh=>by
    rcases hkm with hkm | hkm
    ·exact hjm (h.trans hkm.symm)
    ·exact o0 hkm hm (h▸hj)
   have hm':(l.setIfInBounds j true).getD m true=false:=by rw [getD_set_ne true hjm]; exact hm
   have hk':(l.setIfInBounds j true).getD k true=false:=by rw [getD_set_ne true hjk]; exact hk
   have hsel:=Region.noSelect_spec hs
   refine wpOp_mono (λa' w' ⟨hy',hS',H'⟩=>⟨λ_=>hS' ?_,ih hm' hk' (hL.set hjl) (ready_mono hr λh=>hji h.symm) hy' (hS' ?_) ?_⟩)
    (wpOp_putIf hoj (hL j oj hoj hji hjl (sL hl hj)) (λcs b=>hsel i oi cs b hi) (λcs b=>hsel j oj cs b hoj) hQ hy (H.2 j (ready_mono hj hji)))
   ·rw [Array.setIfInBounds_comm _ _ λh=>hji h.symm,getD_set_ne true hik]; exact hk'
   ·rw [Array.setIfInBounds_comm _ _ λh=>hji h.symm,getD_set_ne true hik]; exact hk'
   ·rwa [Array.setIfInBounds_comm _ _ hji]
  ·subst hji
   exact hy.wpOp hi hS ⟨λ_=>hS,H⟩
theorem yt {i:Nat} {oi:Oper} {v:Value} (hi:ops[i]?=some oi) (hs:Region.noSelect ops=true) (hQ:∀ c a w,Q (.panic c) (a.put oi.dst v) w->Q (.panic c) a w) (hik:i≠k) :
  ∀ {f:Nat} {l:Array Bool} {a:Act} {w:World},sM ops i oi l->i∈Region.ready .any ops l->YieldsIf P ops (λ_=>True) oi v a->(l.getD k true=false->SW w)->wpM P ops Q SW k f (l.setIfInBounds i true) (a.put oi.dst v) w->wpM P ops Q SW k (f+1) l a w:=by
 intro f
 induction f with
 | zero =>
  intro l a w hL hr hy hS H
  refine ⟨λh=>absurd (h▸hr) (by simp),λj hj=>?_⟩
  rcases Nat.decEq j i with hji | hji
  ·exact absurd (ready_mono hj hji) (by rw [H.1]; simp)
  ·subst hji
   exact hy.wpOp hi trivial ⟨λh=>hS (by rwa [getD_set_ne true hik] at h),H⟩
 | succ f ih =>
  intro l a w hL hr hy hS H
  refine ⟨λh=>absurd (h▸hr) (by simp),λj hj=>?_⟩
  rcases Nat.decEq j i with hji | hji
  ·obtain ⟨hjl,oj,hoj,_⟩:=mem_ready.1 hj
   have hsel:=Region.noSelect_spec hs
   have hl:=(mem_ready.1 hr).1
   refine wpOp_mono (λa' w' ⟨hy',hS',H'⟩=>⟨λh=>hS' ?_,ih (hL.set hjl) (ready_mono hr λh=>hji h.symm) hy' (λh=>hS' ?_) ?_⟩)
    (wpOp_putIf hoj (hL j oj hoj hji hjl (sL hl hj)) (λcs b=>hsel i oi cs b hi) (λcs b=>hsel j oj cs b hoj) hQ hy (H.2 j (ready_mono hj hji)))
   ·rw [Array.setIfInBounds_comm _ _ λh=>hji h.symm,getD_set_ne true hik]; exact h
   ·rw [Array.setIfInBounds_comm _ _ λh=>hji h.symm,getD_set_ne true hik]; exact h
   ·rwa [Array.setIfInBounds_comm _ _ hji]
  ·subst hji
   exact hy.wpOp hi trivial ⟨λh=>hS (by rwa [getD_set_ne true hik] at h),H⟩
def RM (P:Program) (n:Nat) (ops:Array Oper) (SW:World->Prop) (k:Nat) (f:Nat) (l:Array Bool) (E:Env) (W:World) (K:Env->World->Prop):Prop:=
 ∀ a Q,iH n E a->(∀ a' E' W',iH n E' a'->K E' W'->Q .normal a' W')->wpM P ops (NoPanic Q) SW k f l a W
theorem CW.rm {R:Exit->Env->World->Prop} {id:Nat} (k:Nat) (SW:World->Prop) (hS:Sep M w0 W L) (hm:P.follows .mixedOrders=true) (h:∀ W,Sep M w0 W L->RM P n ops SW k ops.size (Array.replicate ops.size false) E W (R .normal)):CW P n (.region id ops true) E W R:=by
 intro a ha
 refine wp_region_noPanic (wp_region_any hm (zt _ _ _ _ (h _ (hS.drewN _) a _ ha λa' E' W' ha' hr=>⟨E',ha',hr⟩)))
theorem RM.done {f:Nat} {l:Array Bool} (h:K E W) (hr:AF (Region.ready .any ops l)=true:=by kernel_rfl):RM P n ops SW k f l E W K:=by
 intro a Q ha hk
 have h0:Region.ready .any ops l=[]:=by
  cases hq:Region.ready .any ops l with
  | nil=>rfl
  | cons x y=>rw [hq] at hr; cases hr
 have h1:NoPanic Q .normal a W:=hk _ _ _ ha h
 cases f with
 | zero=>exact ⟨h0,h1⟩
 | succ f=>exact ⟨λ_=>h1,by rw [h0]; simp⟩
theorem RM.t1 {f:Nat} {l:Array Bool} (i m:Nat) (ho:ops[i]?=some o) (hv:∀ W,SW W->fY P n E o W v W) (hS:SW W) (h:RM P n ops SW k f (l.setIfInBounds i true) (put E o.dst v) W K)
  (hs:(Region.noSelect ops&&Region.free .any ops l i&&(Region.ready .any ops l).contains i&&(Nat.beq m k||kA ops k m)&&kA ops m i&&!(Nat.beq i k)&&!(l.getD m true)&&!(l.getD k true))=true) (hg:o.guard=none) (hd:okD n o.dst=true):RM P n ops SW k (f+1) l E W K:=by
 intro a Q ha hk
 simp only [Bool.and_eq_true,Bool.not_eq_true',Bool.or_eq_true] at hs
 obtain ⟨⟨⟨⟨⟨⟨⟨h1,h2⟩,h3⟩,h4⟩,h5⟩,h6⟩,h7⟩,h8⟩:=hs
 exact zX ho h1 (λc a w h=>h) (h4.imp Nat.eq_of_beq_eq_true id) h5 (by rintro rfl; rw [Nat.beq_refl] at h6; cases h6) h7 h8 (sM.of ho h2) (by simpa using h3) (.inl ⟨by simp [Region.wanted,hg],λw hw=>hv w hw a ha⟩) hS (h _ Q (ha.put hd v) hk)
theorem RM.tp {f:Nat} {l:Array Bool} (i:Nat) (ho:ops[i]?=some o) (hv:∀ W,fY P n E o W v W) (hS:SW W) (h:RM P n ops SW k f (l.setIfInBounds i true) (put E o.dst v) W K)
  (hs:(Region.noSelect ops&&Region.free .any ops l i&&(Region.ready .any ops l).contains i&&!(Nat.beq i k))=true) (hg:o.guard=none) (hd:okD n o.dst=true):RM P n ops SW k (f+1) l E W K:=by
 intro a Q ha hk
 simp only [Bool.and_eq_true,Bool.not_eq_true'] at hs
 obtain ⟨⟨⟨h1,h2⟩,h3⟩,h4⟩:=hs
 exact yt ho h1 (λc a w h=>h) (by rintro rfl; rw [Nat.beq_refl] at h4; cases h4) (sM.of ho h2) (by simpa using h3) (.inl ⟨by simp [Region.wanted,hg],λw _=>hv w a ha⟩) (λ_=>hS) (h _ Q (ha.put hd v) hk)
theorem RM.by1 {f:Nat} {l:Array Bool} (i:Nat) (ho:ops[i]?=some o) (h:OpW P n ops o E W λE' W'=>((l.setIfInBounds i true).getD k true=false->SW W')/\RM P n ops SW k f (l.setIfInBounds i true) E' W' K)
  (hr:vd (Region.ready .any ops l) [i]=true:=by kernel_rfl):RM P n ops SW k (f+1) l E W K:=by
 intro a Q ha hk
 have hq:=ve hr
 refine ⟨λh0=>?_,λj hj=>?_⟩
 ·rw [hq] at h0; cases h0
 ·rw [hq] at hj
  obtain rfl:=List.mem_singleton.1 hj
  unfold wpOp
  simp only [ho]
  have:=h a (NoPanic Q) (λa' w'=>((l.setIfInBounds j true).getD k true=false->SW w')/\wpM P ops (NoPanic Q) SW k f (l.setIfInBounds j true) a' w') ha (λa' E' W' ha' ⟨h1,h2⟩=>⟨h1,h2 a' Q ha' hk⟩)
  split
  ·rename_i hw
   rw [if_pos hw] at this
   exact .inl this
  ·rename_i hw
   rw [if_neg hw] at this
   exact this
theorem RM.byd {f:Nat} {l:Array Bool} (i:Nat) (ho:ops[i]?=some o) (h:OpW P n ops o E W λE' W'=>RM P n ops SW k f (l.setIfInBounds i true) E' W' K)
  (hr:vd (Region.ready .any ops l) [i]=true:=by kernel_rfl) (hk:(Nat.beq i k||l.getD k true)=true:=by kernel_rfl):RM P n ops SW k (f+1) l E W K:=by
 refine .by1 i ho (λa Q Kc ha hk'=>h a Q Kc ha λa' E' W' ha' h'=>hk' a' E' W' ha' ⟨λhh=>?_,h'⟩) hr
 rcases Nat.decEq i k with hik | hik
 ·rw [getD_set_ne true hik] at hh
  have:Nat.beq i k=false:=by
   cases hb:Nat.beq i k
   ·rfl
   ·exact absurd (Nat.eq_of_beq_eq_true hb) hik
  rw [this,Bool.false_or] at hk
  rw [hk] at hh
  cases hh
 ·subst hik
  have:(l.setIfInBounds i true).getD i true=true:=by
   simp only [Array.getD_eq_getD_getElem?,Array.getElem?_setIfInBounds,if_true]
   split <;> rfl
  rw [this] at hh
  cases hh
end
noncomputable section
variable {P:Program} {n:Nat} {ops:Array Oper} {o:Oper} {E:Env} {W W' w0:World} {v:Value} {K:Env->World->Prop} {M:Nat->Prop} {L:List Ent}
variable {t e:TypeId} {ag:Bool} {zv:Value} {size bytes:Nat} {α:Type} {enc:α->D} {l r r2:List α}
theorem AM:cut l 0 0=some []:=by
 unfold cut
 rw [if_pos ⟨Int.le_refl _,Int.le_refl _,by omega⟩]
 rfl
theorem OpW.tak {h:Hd} {p q:Operand} (hc:cut l 1 (l.length:Int)=some r) (hr:X.app bytes [] r=some r2) (hS:Sep M w0 W (ae (sv h) e size enc l::L)) (hfl:∀ x,(fZ (enc x)).isSome=true) (hu:P.underlying t=some (.slice e)) (ht:bF P e=some (ag,some zv,size,bytes))
  (ho:o.op=.call { callee:=.builtin .append,args:=#[p,q],argTypes:=#[t,t] }) (hp:ev E p=some (sv (rN h (Int.toNat 0) size 0))) (hq:ev E q=some (sv (rN h (Int.toNat 1) size r.length)))
  (hk:∀ (v:Hd) W',Sep M w0 W' (ae (sv v) e size enc r2::L)->K (put E o.dst (sv v)) W')
  (hz:zv.cells.size=size:=by exact rfl) (h0:Nat.blt 0 size=true:=by exact rfl) (hb0:Nat.blt 0 bytes=true:=by exact rfl) (hg:o.guard=none:=by exact rfl) (hd:okD n o.dst=true:=by exact rfl):OpW P n ops o E W K:=by
 obtain ⟨hrr2,hroom⟩:=pI hr
 have hr2:r2=r:=by simpa using hrr2
 rw [hr2] at hk
 have hrd:=AK hc hS.lv
 obtain ⟨hrr,_,hl1,_⟩:=pJ hc
 obtain ⟨S1,hS1,⟨v1,k1,e1,⟨r1,b1⟩,s1,S1',p1,o1⟩,hrest⟩:=hS.own
 simp only [List.cons.injEq,and_true] at e1
 subst e1
 rw [List.length_map] at r1
 obtain ⟨i0,hi,hz0,hz1,hz2⟩:=ko ht
 rcases r1.2 with ⟨hv,hn⟩ | ⟨g,cap,cur,hv,hb,hgc,hnc,hcm,hcs,htake⟩
 ·omega
 ·obtain ⟨A,m,c⟩:=h
  simp only [sv,Value.slice.injEq] at hv
  obtain ⟨rfl,rfl,rfl⟩:=hv
  have ha0:rN ⟨some ⟨g,0,none⟩,l.length,c⟩ (Int.toNat 0) size 0=⟨some ⟨g,0,none⟩,0,c⟩:=by
   unfold rN u7
   simp [Addr.add]
  rw [ha0] at hp
  have hown0:W.ownsRow 0 e size (.slice (some ⟨g,0,none⟩) 0 c) 0 []:=⟨by simp,.inr ⟨g,c,cur,rfl,hb,hgc,Nat.zero_le _,hcm,hcs,by simp⟩⟩
  obtain ⟨A',cap',cs,q1,q2,q3,q4,q5,q6⟩:=hrd
  have o2:=uX (λx _=>hfl x) q6
  have hlen:cs.length=r.length*size:=by rw [D.owns_length o2,sG q4,List.length_map]
  simp only [rN,sv,List.cons.injEq,and_true,Value.slice.injEq] at q1
  obtain ⟨q1a,_,q1c⟩:=q1
  have hrl:r.length<=l.length:=by rw [hrr]; simp
  have run:∃ v' W',(Builtin.append_ #[t,t] o.type #[.slice (some ⟨g,0,none⟩) 0 c,sv (rN ⟨some ⟨g,0,none⟩,l.length,c⟩ (Int.toNat 1) size r.length)]).run P W=.ok v' W'/\W'.ownsRow 0 e size v' r.length cs/\W.grownBy W' (some g)/\(v'.ownBlock=some g\/v'.ownBlock=some W.heap.size):=by
   by_cases hne:r=[]
   ·subst hne
    have hcs0:cs=[]:=List.eq_nil_of_length_eq_zero (by simpa using hlen)
    subst hcs0
    refine ⟨.slice (some ⟨g,0,none⟩) 0 c,W,?_,hown0,⟨rfl,rfl,rfl,Nat.le_refl _,λ_ _ _=>rfl⟩,.inl rfl⟩
    simp only [rN,sv,List.length_nil]
    generalize u7 (some ⟨g,0,none⟩) c (Int.toNat 1) size=A2
    cases A2 <;> simp [Builtin.append_,run_underlying hu,sizeOf,typeInfo,hi,Builtin.lenOf,Builtin.firstCells,storeCells,loadCells,loadCellsFrom]
   ·obtain ⟨ad,had,_,f3⟩:=q5 (by simpa using hne)
    obtain ⟨v',W',hrun,hown,hgrow,hn0,hat⟩:=run_append_own_at (P:=P) W 0 t o.type e i0 zv size bytes hu hi hz0 hz1 hz2 hz (by simpa [Nat.blt_eq] using h0) _ _ _ hown0 ad r.length cap' cs hlen f3 (D.owns_one o2) (by have:=Rd.lt hS.lend; simp only [maxLen] at *; omega) (by simpa using hroom) (Nat.zero_le _)
    refine ⟨v',W',?_,by simpa using hown,hgrow,hat⟩
    rw [<-hrun,<-had,<-q1a,<-q1c]
    rfl
  obtain ⟨v',W',hrun,hown,hgrow,hat⟩:=run
  obtain ⟨vh,rfl⟩:∃ vh:Hd,v'=sv vh:=by
   rcases hown.2 with ⟨h1,h2⟩ | ⟨g,cap,cur,h1,_⟩
   ·exact ⟨aA,h1⟩
   ·exact ⟨⟨_,_,_⟩,h1⟩
  have hgS:S1 g:=b1 g rfl
  refine .runs (W':=W') (v:=sv vh) (λa ha=>?_) hg hd (hk vh _ (Sep.of_parts (L':=[ae (sv vh) e size enc r]) hS.frame (S:=S1) hS1 hrest (eI.of_grown hgrow λb hb=>by injection hb with hb; exact hb▸hgS)
   ⟨λb=>S1 b\/(W.heap.size<=b/\b<W'.heap.size),λb hb=>hb,⟨_,cs,rfl,⟨by simpa using hown,λg' hg'=>?_⟩,λx hx=>q4 x hx,λ_=>False,λ_ hf=>hf.elim,?_⟩,trivial⟩))
  ·unfold execOp
   simp only [ho,resolve,Deferred.ofValue,invoke,builtin,Sem.run_bind,Sem.run_pure,Result.andThen_ok]
   have hp':a.eval p=.slice (some ⟨g,0,none⟩) 0 c:=ha.ev hp
   have hq':=ha.ev hq
   generalize sv (rN ⟨some ⟨g,0,none⟩,l.length,c⟩ (Int.toNat 1) size r.length)=qv at hq' hrun
   simp [hp',hq',hrun]
  ·rcases hat with hat | hat
   ·rw [hat] at hg'; injection hg' with hg'; exact .inl (hg'▸hgS)
   ·have:g'=W.heap.size:=by rw [hat] at hg'; injection hg' with hg'; exact hg'.symm
    subst this
    rcases hown.lt W.heap.size hat with ⟨_,h2⟩
    exact .inr ⟨Nat.le_refl _,h2⟩
  ·-- fZ data lie in no block
   have key:∀ {xs:List α} {c2:List Value} {T:Nat->Prop},D.rds W (xs.map enc) T c2->D.owns W' (xs.map enc) (λ_=>False) c2:=by
    intro xs
    induction xs with
    | nil=>intro c2 T h; exact h
    | cons x xs ih =>
     intro c2 T ⟨d1,d2,g1,g2,g3,g4⟩
     obtain ⟨cx,hcx⟩:=Option.isSome_iff_exists.1 (hfl x)
     have:=nM hcx g3
     subst this
     exact ⟨λ_=>False,_,d2,g1,g2,λ_ hf=>hf,kz hcx,D.owns_mono (ih g4) λ_ hf=>hf.elim⟩
   exact key q6
end
noncomputable section
variable {P:Program} {n:Nat} {ops:Array Oper} {E E':Env} {W:World} {K:Env->World->Prop} {SW:World->Prop} {k:Nat}
def nQ (n:Nat) (is:List Nat):Array Bool:=is.foldl (λl i=>l.setIfInBounds i true) (Array.replicate n false)
def pO:List Bool->List Bool->Bool
 | [],[]=>true
 | true::r,true::q=>pO r q
 | false::r,false::q=>pO r q
 | _,_=>false
theorem sP:∀ {l q:List Bool},pO l q=true->l=q
 | [],[],_=>rfl
 | true::r,true::q,h=>by rw [sP (l:=r) (q:=q) h]
 | false::r,false::q,h=>by rw [sP (l:=r) (q:=q) h]
 | [],_::_,h=>by simp [pO] at h
 | _::_,[],h=>by simp [pO] at h
 | true::_,false::_,h=>by simp [pO] at h
 | false::_,true::_,h=>by simp [pO] at h
theorem RK.sub {f:Nat} {l:Array Bool} (hs:aD E E') (h:RK P n ops SW k f l E' W K):RK P n ops SW k f l E W K:=λa Q ha hk=>h a Q (ha.sub hs.sub) hk
theorem RK.atl {f:Nat} {l l':Array Bool} (h:RK P n ops SW k f l' E W K) (hl:pO l.toList l'.toList=true):RK P n ops SW k f l E W K:=by
 have:l=l':=Array.ext' (sP hl)
 exact this▸h
theorem RK.memo {f:Nat} {l:Array Bool} (X:Env->World->Prop) (f':Nat) (l':Array Bool) (hJ:∀ E W,X E W->RK P n ops SW k f' l' E W K) (h:(∀ E W,X E W->RK P n ops SW k f' l' E W K)->RK P n ops SW k f l E W K):RK P n ops SW k f l E W K:=h hJ
end
noncomputable section
variable {P:Program} {n:Nat} {E:Env} {W:World}
theorem Ex {α:Type} {M:Nat->Prop} {w0:World} {L:List Ent} {v:Value} {e size t:Nat} {enc:α->D} {l:List α} {i:Nat} {cs:List Value} {o:Oper} {p:Operand} (hS:Sep M w0 W (cf v e size enc l i cs::L)) (hu:P.underlying t=some (.slice e)) (ho:o.op=.call { callee:=.builtin .len,args:=#[p],argTypes:=#[t] }) (hp:ev E p=some v):fY P n E o W (.int .i64 l.length) W:=by
 obtain ⟨A,c,rfl⟩:=hS.hshape
 exact len hu ho hp
theorem Sep.an {M:Nat->Prop} {w0:World} {L L':List Ent} {C B:Prop} (hS:Sep M w0 W L) (is:List Nat) (k:Sep M w0 W L'->B) (hL:X.xF L is=L':=by kernel_rfl):(C->Sep M w0 W L')/\B:=⟨λ_=>hS.to is hL,k (hS.to is hL)⟩
theorem Sep.tk {M:Nat->Prop} {w0 W:World} {L L':List Ent} (hS:Sep M w0 W L) (is:List Nat) (hL:X.xF L is=L':=by kernel_rfl):Sep M w0 W L':=hS.to is hL
theorem bv {α β:Type} {C:Prop} {x:Option α} {f:α->Option β} {r:β} (h:x.bind f=some r) (k:∀ t,x=some t->f t=some r->C):C:=
 let ⟨t,h1,h2⟩:=Option.bind_eq_some_iff.1 h
 k t h1 h2
end
end Go.Proofs.YtgcmopfhafoabaaGreatDoor.X
namespace Go.Proofs.YtgcmopfhafoabaaGreatDoor.N
open Go.Proofs.YtgcmopfhafoabaaGreatDoor.X
noncomputable section
structure mz where
 name:ByteArray
 opcode:Int
 funct3:Int
 funct7:Int
structure aP where
 b:List Int
 p:Int
structure ah where
 Op:Int
 Dst:Int
 A:Int
 B:Int
 N:Int
def aq (x:ah):D:=.agg [.int .i64 x.Op,.int .i64 x.Dst,.int .i64 x.A,.int .i64 x.B,.int .i64 x.N]
structure Expr where
 Op:Int
 N:Int
 Args:List Expr
mutual
def be:Expr->D
 | ⟨x0,x1,x2⟩=>.agg [.int .i64 x0,.int .i64 x1,.row 204 3 (wY x2)]
def wY:List Expr->List D
 | []=>[]
 | x::r=>be x::wY r
end
theorem vj:∀ l,wY l=l.map be
 | []=>rfl
 | x::r=>by rw [wY,vj r,List.map]
theorem fI (x:Expr):be x=.agg [.int .i64 x.Op,.int .i64 x.N,.row 204 3 (x.Args.map be)]:=by
 cases x; simp only [be,vj]
theorem AN (x:Expr):(be x).sz=3:=by simp only [fI,D.sz,D.szs]
structure ax where
 Kind:Int
 Var:Int
 Box:Int
 Expr:Expr
 Body:List ax
 Else:List ax
mutual
def aC:ax->D
 | ⟨x0,x1,x2,x3,x4,x5⟩=>.agg [.int .i64 x0,.int .i64 x1,.int .i64 x2,be x3,.row 206 8 (vk x4),.row 206 8 (vk x5)]
def vk:List ax->List D
 | []=>[]
 | x::r=>aC x::vk r
end
theorem vl:∀ l,vk l=l.map aC
 | []=>rfl
 | x::r=>by rw [vk,vl r,List.map]
theorem iI (x:ax):aC x=.agg [.int .i64 x.Kind,.int .i64 x.Var,.int .i64 x.Box,be x.Expr,.row 206 8 (x.Body.map aC),.row 206 8 (x.Else.map aC)]:=by
 cases x; simp only [aC,vl]
theorem lG (x:ax):(aC x).sz=8:=by simp only [iI,D.sz,D.szs,AN]
structure bn where
 Kind:Int
 N:Int
def cr (x:bn):D:=.agg [.int .i64 x.Kind,.int .i64 x.N]
structure Instr where
 Op:Int
 Rd:Int
 Rs:Int
 Rt:Int
 Imm:Int
def aJ (x:Instr):D:=.agg [.int .i64 x.Op,.int .i64 x.Rd,.int .i64 x.Rs,.int .i64 x.Rt,.int .i64 x.Imm]
structure al where
 Regs:List Int
 Pc:Int
 Mem:List Int
def aV (x:al):D:=.agg [.row 3 1 (x.Regs.map (D.int .i64)),.int .i64 x.Pc,.row 3 1 (x.Mem.map (D.int .i64))]
structure Box where
 Room:Int
 Items:List Int
def aR (x:Box):D:=.agg [.int .i64 x.Room,.row 3 1 (x.Items.map (D.int .i64))]
structure bk where
 Regs:List Int
 Pc:Int
def ay (x:bk):D:=.agg [.row 3 1 (x.Regs.map (D.int .i64)),.int .i64 x.Pc]
structure cI where
 Codes:List (List ah)
 Threads:List bk
 Boxes:List Box
 Turn:Int
 Idle:Int
 Out:List Int
structure cy where
 colors:Int
 list:List Instr
structure cg where
 Harts:List al
 Boxes:List Box
 Turn:Int
 Idle:Int
 Out:List Int
def D3:List Int:=[1,2,8,9,18,19,20,21,22,23,10,11,17]
def lH:List mz:=[⟨⟨#[97,100,100]⟩,51,0,0⟩,⟨⟨#[115,117,98]⟩,51,0,32⟩,⟨⟨#[109,117,108]⟩,51,0,1⟩,⟨⟨#[100,105,118]⟩,51,4,1⟩,⟨⟨#[114,101,109]⟩,51,6,1⟩,⟨⟨#[97,110,100]⟩,51,7,0⟩,⟨⟨#[111,114]⟩,51,6,0⟩,⟨⟨#[120,111,114]⟩,51,4,0⟩,⟨⟨#[115,108,108]⟩,51,1,0⟩,⟨⟨#[115,114,97]⟩,51,5,32⟩,⟨⟨#[115,108,116]⟩,51,2,0⟩,⟨⟨#[97,100,100,105]⟩,19,0,0⟩,⟨⟨#[115,108,116,105,117]⟩,19,3,0⟩,⟨⟨#[108,119]⟩,3,2,0⟩,⟨⟨#[106,97,108,114]⟩,103,0,0⟩,⟨⟨#[115,119]⟩,35,2,0⟩,⟨⟨#[98,101,113]⟩,99,0,0⟩,⟨⟨#[98,110,101]⟩,99,1,0⟩,⟨⟨#[108,117,105]⟩,55,0,0⟩,⟨⟨#[106,97,108]⟩,111,0,0⟩,⟨⟨#[101,99,97,108,108]⟩,115,0,0⟩]
def lI:List Int:=[8,9,10,11,12,3,1,2,6,7,5]
def lJ:List Int:=[7,8,6,8,11,9,10,1,2,3,4,5]
def je:List Int:=[8,9,18,19,20,21,22,23]
def NGl:Nat:=5
def Gl (w:World):Prop:=True/\Tab 1 4 (λx:mz=>[.string x.name,.int .i64 x.opcode,.int .i64 x.funct3,.int .i64 x.funct7]) lH w/\Tab 2 1 (λx:Int=>[.int .i64 x]) lI w/\Tab 3 1 (λx:Int=>[.int .i64 x]) lJ w/\Tab 4 1 (λx:Int=>[.int .i64 x]) je w
theorem Gl.at {w W:World} {M:Nat->Prop} {L:List Ent} (h:Gl w) (hS:Sep M w W L) (hM:∀ g,g<NGl->¬ M g):Gl W:=⟨trivial,Tab.at h.2.1 hS (hM 1 (by decide)),Tab.at h.2.2.1 hS (hM 2 (by decide)),Tab.at h.2.2.2.1 hS (hM 3 (by decide)),Tab.at h.2.2.2.2 hS (hM 4 (by decide))⟩
theorem Gl.noS {w W:World} {M S:Nat->Prop} (h:Gl w) (hM:∀ g,g<NGl->¬ M g) (h1:∀ b,S b->OkS M w W b):∀ g,g<NGl->¬ S g:=λg hg hs=>by
 have h3:4<w.heap.size:=h.2.2.2.2.1
 have hg':g<5:=hg
 rcases (h1 g hs).1 with h4 | h4
 ·omega
 ·exact hM g hg h4
theorem T.u22:Tryz.prog.underlying 22=some (.slice 5):=by kernel_rfl
theorem T.t5:bF Tryz.prog 5=some (false,some (.int .u8 0),1,1):=by kernel_rfl
theorem T.s117:mU Tryz.prog 117=some ([(0,1),(1,1)],[.slice none 0 0,.int .i64 0]):=by kernel_rfl
theorem T.f117_1:eA Tryz.prog 117 1=some (1,1,false):=by kernel_rfl
theorem T.t3:bF Tryz.prog 3=some (false,some (.int .i64 0),1,8):=by kernel_rfl
theorem T.f117_0:eA Tryz.prog 117 0=some (0,1,false):=by kernel_rfl
theorem T.t22:bF Tryz.prog 22=some (false,some (.slice none 0 0),1,24):=by kernel_rfl
theorem T.u5:Tryz.prog.underlying 5=some (.int .u8):=by kernel_rfl
theorem T.u3:Tryz.prog.underlying 3=some (.int .i64):=by kernel_rfl
theorem T.mix:Tryz.prog.follows .mixedOrders=true:=by kernel_rfl
theorem T.u23:Tryz.prog.underlying 23=some (.slice 3):=by kernel_rfl
theorem T.t102:bF Tryz.prog 102=some (true,some (.agg #[.int .i64 0,.int .i64 0,.int .i64 0,.int .i64 0,.int .i64 0]),5,40):=by kernel_rfl
theorem T.s102:mU Tryz.prog 102=some ([(0,1),(1,1),(2,1),(3,1),(4,1)],[.int .i64 0,.int .i64 0,.int .i64 0,.int .i64 0,.int .i64 0]):=by kernel_rfl
theorem T.u78:Tryz.prog.underlying 78=some (.slice 102):=by kernel_rfl
theorem T.u162:Tryz.prog.underlying 162=some (.slice 206):=by kernel_rfl
theorem T.t206:bF Tryz.prog 206=some (true,some (.agg #[.int .i64 0,.int .i64 0,.int .i64 0,.int .i64 0,.int .i64 0,.slice none 0 0,.slice none 0 0,.slice none 0 0]),8,112):=by kernel_rfl
theorem T.f206_4:eA Tryz.prog 206 4=some (6,1,false):=by kernel_rfl
theorem T.t162:bF Tryz.prog 162=some (false,some (.slice none 0 0),1,24):=by kernel_rfl
theorem T.f206_5:eA Tryz.prog 206 5=some (7,1,false):=by kernel_rfl
theorem T.f206_1:eA Tryz.prog 206 1=some (1,1,false):=by kernel_rfl
theorem T.f206_2:eA Tryz.prog 206 2=some (2,1,false):=by kernel_rfl
theorem T.f204_0:eA Tryz.prog 204 0=some (0,1,false):=by kernel_rfl
theorem T.f204_1:eA Tryz.prog 204 1=some (1,1,false):=by kernel_rfl
theorem T.f204_2:eA Tryz.prog 204 2=some (2,1,false):=by kernel_rfl
theorem T.t202:bF Tryz.prog 202=some (false,some (.slice none 0 0),1,24):=by kernel_rfl
theorem T.u202:Tryz.prog.underlying 202=some (.slice 204):=by kernel_rfl
theorem T.t204:bF Tryz.prog 204=some (true,some (.agg #[.int .i64 0,.int .i64 0,.slice none 0 0]),3,40):=by kernel_rfl
theorem T.f206_0:eA Tryz.prog 206 0=some (0,1,false):=by kernel_rfl
theorem T.f206_3:eA Tryz.prog 206 3=some (3,3,true):=by kernel_rfl
theorem T.s204:mU Tryz.prog 204=some ([(0,1),(1,1),(2,1)],[.int .i64 0,.int .i64 0,.slice none 0 0]):=by kernel_rfl
theorem T.s206:mU Tryz.prog 206=some ([(0,1),(1,1),(2,1),(3,3),(6,1),(7,1)],[.int .i64 0,.int .i64 0,.int .i64 0,.int .i64 0,.int .i64 0,.slice none 0 0,.slice none 0 0,.slice none 0 0]):=by kernel_rfl
theorem T.f102_1:eA Tryz.prog 102 1=some (1,1,false):=by kernel_rfl
theorem T.f102_2:eA Tryz.prog 102 2=some (2,1,false):=by kernel_rfl
theorem T.f102_3:eA Tryz.prog 102 3=some (3,1,false):=by kernel_rfl
theorem T.f102_0:eA Tryz.prog 102 0=some (0,1,false):=by kernel_rfl
theorem T.f102_4:eA Tryz.prog 102 4=some (4,1,false):=by kernel_rfl
theorem T.u220:Tryz.prog.underlying 220=some (.slice 238):=by kernel_rfl
theorem T.t238:bF Tryz.prog 238=some (true,some (.agg #[.int .i64 0,.int .i64 0]),2,16):=by kernel_rfl
theorem T.f238_0:eA Tryz.prog 238 0=some (0,1,false):=by kernel_rfl
theorem T.f238_1:eA Tryz.prog 238 1=some (1,1,false):=by kernel_rfl
theorem T.s238:mU Tryz.prog 238=some ([(0,1),(1,1)],[.int .i64 0,.int .i64 0]):=by kernel_rfl
theorem T.e238:rL Tryz.prog 238=some [(0,.int .i64),(1,.int .i64)]:=by kernel_rfl
theorem T.u217:Tryz.prog.underlying 217=some (.slice 220):=by kernel_rfl
theorem T.t220:bF Tryz.prog 220=some (false,some (.slice none 0 0),1,24):=by kernel_rfl
theorem T.u47:Tryz.prog.underlying 47=some (.slice 23):=by kernel_rfl
theorem T.t23:bF Tryz.prog 23=some (false,some (.slice none 0 0),1,24):=by kernel_rfl
theorem T.u48:Tryz.prog.underlying 48=some (.slice 4):=by kernel_rfl
theorem T.t4:bF Tryz.prog 4=some (false,some (.bool false),1,1):=by kernel_rfl
theorem T.u224:Tryz.prog.underlying 224=some (.slice 48):=by kernel_rfl
theorem T.t48:bF Tryz.prog 48=some (false,some (.slice none 0 0),1,24):=by kernel_rfl
theorem T.u4:Tryz.prog.underlying 4=some (.bool):=by kernel_rfl
theorem T.u36:Tryz.prog.underlying 36=some (.slice 78):=by kernel_rfl
theorem T.t78:bF Tryz.prog 78=some (false,some (.slice none 0 0),1,24):=by kernel_rfl
theorem T.s105:mU Tryz.prog 105=some ([(0,1),(1,1),(2,1),(3,1),(4,1)],[.int .i64 0,.int .i64 0,.int .i64 0,.int .i64 0,.int .i64 0]):=by kernel_rfl
theorem T.u66:Tryz.prog.underlying 66=some (.slice 105):=by kernel_rfl
theorem T.t105:bF Tryz.prog 105=some (true,some (.agg #[.int .i64 0,.int .i64 0,.int .i64 0,.int .i64 0,.int .i64 0]),5,40):=by kernel_rfl
theorem T.u24:Tryz.prog.underlying 24=some (.slice 66):=by kernel_rfl
theorem T.t66:bF Tryz.prog 66=some (false,some (.slice none 0 0),1,24):=by kernel_rfl
theorem T.f105_1:eA Tryz.prog 105 1=some (1,1,false):=by kernel_rfl
theorem T.f105_2:eA Tryz.prog 105 2=some (2,1,false):=by kernel_rfl
theorem T.f105_3:eA Tryz.prog 105 3=some (3,1,false):=by kernel_rfl
theorem T.f105_4:eA Tryz.prog 105 4=some (4,1,false):=by kernel_rfl
theorem T.f105_0:eA Tryz.prog 105 0=some (0,1,false):=by kernel_rfl
theorem T.e105:rL Tryz.prog 105=some [(0,.int .i64),(1,.int .i64),(2,.int .i64),(3,.int .i64),(4,.int .i64)]:=by kernel_rfl
theorem T.u183:Tryz.prog.underlying 183=some (.int .u32):=by kernel_rfl
theorem T.u147:Tryz.prog.underlying 147=some (.array 21 146):=by kernel_rfl
theorem T.t146:bF Tryz.prog 146=some (true,some (.agg #[.string ⟨#[]⟩,.int .i64 0,.int .i64 0,.int .i64 0]),4,40):=by kernel_rfl
theorem T.f146_2:eA Tryz.prog 146 2=some (2,1,false):=by kernel_rfl
theorem T.f146_1:eA Tryz.prog 146 1=some (1,1,false):=by kernel_rfl
theorem T.f146_3:eA Tryz.prog 146 3=some (3,1,false):=by kernel_rfl
theorem T.u21:Tryz.prog.underlying 21=some (.int .i32):=by kernel_rfl
theorem T.t28:bF Tryz.prog 28=some (true,some (.agg #[.slice none 0 0,.int .i64 0,.slice none 0 0]),3,56):=by kernel_rfl
theorem T.s28:mU Tryz.prog 28=some ([(0,1),(1,1),(2,1)],[.slice none 0 0,.int .i64 0,.slice none 0 0]):=by kernel_rfl
theorem T.f28_0:eA Tryz.prog 28 0=some (0,1,false):=by kernel_rfl
theorem T.f28_1:eA Tryz.prog 28 1=some (1,1,false):=by kernel_rfl
theorem T.f28_2:eA Tryz.prog 28 2=some (2,1,false):=by kernel_rfl
theorem T.u153:Tryz.prog.underlying 153=some (.pointer 3):=by kernel_rfl
theorem T.u159:Tryz.prog.underlying 159=some (.array 11 3):=by kernel_rfl
theorem T.s95:mU Tryz.prog 95=some ([(0,1),(1,1)],[.int .i64 0,.slice none 0 0]):=by kernel_rfl
theorem T.u40:Tryz.prog.underlying 40=some (.slice 95):=by kernel_rfl
theorem T.t95:bF Tryz.prog 95=some (true,some (.agg #[.int .i64 0,.slice none 0 0]),2,32):=by kernel_rfl
theorem T.f95_0:eA Tryz.prog 95 0=some (0,1,false):=by kernel_rfl
theorem T.f95_1:eA Tryz.prog 95 1=some (1,1,false):=by kernel_rfl
theorem T.e102:rL Tryz.prog 102=some [(0,.int .i64),(1,.int .i64),(2,.int .i64),(3,.int .i64),(4,.int .i64)]:=by kernel_rfl
theorem T.f60_0:eA Tryz.prog 60 0=some (0,1,false):=by kernel_rfl
theorem T.f60_1:eA Tryz.prog 60 1=some (1,1,false):=by kernel_rfl
theorem T.t60:bF Tryz.prog 60=some (true,some (.agg #[.slice none 0 0,.int .i64 0]),2,32):=by kernel_rfl
theorem T.f42_0:eA Tryz.prog 42 0=some (0,1,false):=by kernel_rfl
theorem T.t36:bF Tryz.prog 36=some (false,some (.slice none 0 0),1,24):=by kernel_rfl
theorem T.f42_3:eA Tryz.prog 42 3=some (3,1,false):=by kernel_rfl
theorem T.f42_4:eA Tryz.prog 42 4=some (4,1,false):=by kernel_rfl
theorem T.f42_5:eA Tryz.prog 42 5=some (5,1,false):=by kernel_rfl
theorem T.f42_1:eA Tryz.prog 42 1=some (1,1,false):=by kernel_rfl
theorem T.t39:bF Tryz.prog 39=some (false,some (.slice none 0 0),1,24):=by kernel_rfl
theorem T.u39:Tryz.prog.underlying 39=some (.slice 60):=by kernel_rfl
theorem T.f42_2:eA Tryz.prog 42 2=some (2,1,false):=by kernel_rfl
theorem T.t40:bF Tryz.prog 40=some (false,some (.slice none 0 0),1,24):=by kernel_rfl
theorem T.t42:bF Tryz.prog 42=some (true,some (.agg #[.slice none 0 0,.slice none 0 0,.slice none 0 0,.int .i64 0,.int .i64 0,.slice none 0 0]),6,112):=by kernel_rfl
theorem T.s42:mU Tryz.prog 42=some ([(0,1),(1,1),(2,1),(3,1),(4,1),(5,1)],[.slice none 0 0,.slice none 0 0,.slice none 0 0,.int .i64 0,.int .i64 0,.slice none 0 0]):=by kernel_rfl
theorem T.s60:mU Tryz.prog 60=some ([(0,1),(1,1)],[.slice none 0 0,.int .i64 0]):=by kernel_rfl
theorem T.f171_1:eA Tryz.prog 171 1=some (1,1,false):=by kernel_rfl
theorem T.f171_0:eA Tryz.prog 171 0=some (0,1,false):=by kernel_rfl
theorem T.u193:Tryz.prog.underlying 193=some (.array 8 3):=by kernel_rfl
theorem T.s171:mU Tryz.prog 171=some ([(0,1),(1,1)],[.int .i64 0,.slice none 0 0]):=by kernel_rfl
theorem T.u176:Tryz.prog.underlying 176=some (.array 12 3):=by kernel_rfl
theorem T.f54_0:eA Tryz.prog 54 0=some (0,1,false):=by kernel_rfl
theorem T.t52:bF Tryz.prog 52=some (false,some (.slice none 0 0),1,24):=by kernel_rfl
theorem T.u52:Tryz.prog.underlying 52=some (.slice 28):=by kernel_rfl
theorem T.f54_2:eA Tryz.prog 54 2=some (2,1,false):=by kernel_rfl
theorem T.f54_3:eA Tryz.prog 54 3=some (3,1,false):=by kernel_rfl
theorem T.f54_4:eA Tryz.prog 54 4=some (4,1,false):=by kernel_rfl
theorem T.f54_1:eA Tryz.prog 54 1=some (1,1,false):=by kernel_rfl
theorem T.t54:bF Tryz.prog 54=some (true,some (.agg #[.slice none 0 0,.slice none 0 0,.int .i64 0,.int .i64 0,.slice none 0 0]),5,88):=by kernel_rfl
theorem T.s54:mU Tryz.prog 54=some ([(0,1),(1,1),(2,1),(3,1),(4,1)],[.slice none 0 0,.slice none 0 0,.int .i64 0,.int .i64 0,.slice none 0 0]):=by kernel_rfl
def mA (a0:List Int):Option (aP):=
(sel (decide ((a0.length:Int)>2000)) ((cut a0 0 2000).bind λr1 =>
some r1) <|
some a0:Option ((List Int))).bind λy1 =>
some (aP.mk y1 0)
def ar (a0:aP) (a1:Int):Option (Int×Int):=
sel ((decide (a1<1))||((a0.b.length:Int)==0)) (some (0,w64 (a0.p+1))) <|
sel (decide ((w64 ((w64 (a0.p+1))-1))<(a0.b.length:Int))) ((nth a0.b (w64 ((w64 (a0.p+1))-1))).bind λx1 =>
(ox (w64 (x1)) a1).bind λd1 =>
some (d1,w64 (a0.p+1))) <|
(ox (w64 ((w64 (a0.p+1))-1)) (a0.b.length:Int)).bind λd2 =>
(nth a0.b d2).bind λx2 =>
(ox (w64 ((w64 ((w64 ((w64 (a0.p+1))-1))*7))+3)) (a0.b.length:Int)).bind λd3 =>
(nth a0.b d3).bind λx3 =>
(rM .i64 (w64 ((w64 (a0.p+1))-1)) (a0.b.length:Int)).bind λd4 =>
(ox (aG .xor .i64 (w64 ((w64 ((w64 ((w64 ((w64 (x2))*131))+(w64 ((w64 (x3))*1117))))+(w64 ((w64 ((w64 (a0.p+1))-1))*29))))+(w64 (d4*53)))) (w64 (Int.tdiv (w64 ((w64 ((w64 ((w64 ((w64 (x2))*131))+(w64 ((w64 (x3))*1117))))+(w64 ((w64 ((w64 (a0.p+1))-1))*29))))+(w64 (d4*53)))) 64))) a1).bind λd5 =>
some (d5,w64 (a0.p+1))
def dv (a0:aP):Option (Int×Int):=
(ar (aP.mk a0.b a0.p) 6).bind λy1 =>
some (y1.1,y1.2)
def cn (a0:Int):Option (Int):=
sel (decide ((Int.tmod a0 4294967296)>2147483647)) (some (w64 ((Int.tmod a0 4294967296)-4294967296))) <|
sel (decide ((Int.tmod a0 4294967296)<(-2147483648))) (some (w64 ((Int.tmod a0 4294967296)+4294967296))) <|
some (Int.tmod a0 4294967296)
def kB (a0:aP):Option (Int×Int):=
(ar (aP.mk a0.b a0.p) 6).bind λy1 =>
sel (y1.1==0) ((ar (aP.mk a0.b y1.2) 8).bind λy2 =>
(nth [(-2147483648),2147483647,(-1),0,1,(-2147483647),65536,(-65536)] y2.1).bind λx1 =>
some (x1,y2.2)) <|
sel (y1.1==1) ((ar (aP.mk a0.b y1.2) 256).bind λy3 =>
(ar (aP.mk a0.b y3.2) 256).bind λy4 =>
(ar (aP.mk a0.b y4.2) 256).bind λy5 =>
(ar (aP.mk a0.b y5.2) 200).bind λy6 =>
(cn (w64 ((w64 ((w64 ((w64 (y3.1*65536))+(w64 (y4.1*256))))+y5.1))*(w64 (1+y6.1))))).bind λy7 =>
some (y7,y6.2)) <|
sel (y1.1==2) ((ar (aP.mk a0.b y1.2) 200).bind λy8 =>
some (w64 (0-y8.1),y8.2)) <|
(ar (aP.mk a0.b y1.2) 20).bind λy9 =>
some (y9.1,y9.2)
def lK (a0:aP):Option (Int×Int):=
(ar (aP.mk a0.b a0.p) 12).bind λy1 =>
some (w64 (1+y1.1),y1.2)
def kC (a0:aP) (a1:Int):Option (ah×Int):=
(ar (aP.mk a0.b a0.p) 12).bind λy1 =>
(sel (y1.1==0) (some (y1.1==0)) <|
some (y1.1==1):Option (Bool)).bind λy2 =>
sel y2 ((dv (aP.mk a0.b y1.2)).bind λy3 =>
(kB (aP.mk a0.b y3.2)).bind λy4 =>
(ar (aP.mk a0.b y4.2) 4).bind λy5 =>
(nth [0,1,2,y4.1] y5.1).bind λx1 =>
some ((ah.mk 1 y3.1 0 0 x1),y5.2)) <|
(sel (y1.1==2) (some (y1.1==2)) <|
some (y1.1==3):Option (Bool)).bind λy6 =>
sel y6 ((dv (aP.mk a0.b y1.2)).bind λy7 =>
(dv (aP.mk a0.b y7.2)).bind λy8 =>
some ((ah.mk 2 y7.1 y8.1 0 0),y8.2)) <|
(sel (y1.1==4) (some (y1.1==4)) <|
sel (y1.1==5) (some (y1.1==5)) <|
some (y1.1==6):Option (Bool)).bind λy9 =>
sel y9 ((dv (aP.mk a0.b y1.2)).bind λy10 =>
(dv (aP.mk a0.b y10.2)).bind λy11 =>
(dv (aP.mk a0.b y11.2)).bind λy12 =>
(lK (aP.mk a0.b y12.2)).bind λy13 =>
some ((ah.mk 3 y10.1 y11.1 y12.1 y13.1),y13.2)) <|
sel (y1.1==7) ((ar (aP.mk a0.b y1.2) a1).bind λy14 =>
some ((ah.mk 4 0 0 0 y14.1),y14.2)) <|
sel (y1.1==8) ((dv (aP.mk a0.b y1.2)).bind λy15 =>
(ar (aP.mk a0.b y15.2) a1).bind λy16 =>
some ((ah.mk 5 0 y15.1 0 y16.1),y16.2)) <|
sel (y1.1==9) ((dv (aP.mk a0.b y1.2)).bind λy17 =>
(ar (aP.mk a0.b y17.2) 2).bind λy18 =>
some ((ah.mk 6 0 y17.1 0 y18.1),y18.2)) <|
sel (y1.1==10) ((dv (aP.mk a0.b y1.2)).bind λy19 =>
(ar (aP.mk a0.b y19.2) 2).bind λy20 =>
some ((ah.mk 7 y19.1 0 0 y20.1),y20.2)) <|
(ar (aP.mk a0.b y1.2) 4).bind λy21 =>
sel (y21.1==0) (some ((ah.mk 8 0 0 0 0),y21.2)) <|
(dv (aP.mk a0.b y21.2)).bind λy22 =>
some ((ah.mk 9 0 y22.1 0 0),y22.2)
def kD (a0:aP) (y1:Int×Int) (s1:(List ah)×Int×Int):Option (((List ah)×Int×Int)⊕((List ah)×Int)):=
sel (decide ((w64 (s1.2.1+1))<(w64 (1+y1.1)))) ((kC (aP.mk a0.b s1.2.2) (w64 (1+y1.1))).bind λy5 =>
(app 40 s1.1 [y5.1]).bind λr1 =>
some (.inl (r1,w64 (s1.2.1+1),y5.2))) <|
some (.inr (s1.1,s1.2.2))
def gi (a0:aP):Option ((List ah)×Int):=
(ar (aP.mk a0.b a0.p) 14).bind λy1 =>
(bB (kD a0 y1) ([],0,y1.2)).bind λy2 =>
(ar (aP.mk a0.b y2.2) 3).bind λy6 =>
sel (y6.1==0) ((ar (aP.mk a0.b y6.2) (w64 (1+y1.1))).bind λy7 =>
(app 40 y2.1 [(ah.mk 4 0 0 0 y7.1)]).bind λr2 =>
some (r2,y7.2)) <|
(app 40 y2.1 [(ah.mk 10 0 0 0 0)]).bind λr3 =>
some (r3,y6.2)
def jf (a0:List ax) (eB:List ax->Option (Int)) (s1:Int×Int):Option ((Int×Int)⊕Int):=
sel (decide (s1.2<(a0.length:Int))) ((nth a0 s1.2).bind λx1 =>
(nth a0 s1.2).bind λx2 =>
(eB x1.Body).bind λy4 =>
(eB x2.Else).bind λy5 =>
some (.inl (w64 ((w64 ((w64 (s1.1+1))+y4))+y5),w64 (s1.2+1)))) <|
some (.inr s1.1)
def eC (k:Nat) (eB:List ax->Option (Int)) (a0:List ax):Option (Int):=
(bB (jf a0 eB) (0,0)).bind λy1 =>
some y1
def nR:Nat->(List ax->Option (Int))
 | 0=>((λ_=>none))
 | k+1=>(eC k (nR k))
def d9 (k:Nat):List ax->Option (Int):=(nR k)
def aE (a0:Int) (a1:Int) (a2:Int):Option (Bool):=
some ((decide (a0>=a1))&&(decide (a0<=a2)))
def fJ (a0:ax) (a1:Bool):Option (Bool):=
sel a1 ((aE a0.Var 0 3).bind λy1 =>
some y1) <|
some (a0.Var==0)
def fK (a0:ax) (a1:Bool):Option (Bool):=
sel a1 ((aE a0.Box 0 2).bind λy1 =>
some y1) <|
some (a0.Box==0)
def fL (a0:Int):Option (Bool):=
(aE a0 1 12).bind λy1 =>
some y1
def mB (k:Nat) (mC:Expr->Int->Option (Bool)) (a0:Expr) (a1:Int):Option (Bool):=
sel (decide (a1<1)) (some false) <|
sel (a0.Op==0) ((aE a0.N 0 99999).bind λy1 =>
some (y1&&((a0.Args.length:Int)==0))) <|
sel (a0.Op==13) ((aE a0.N 0 3).bind λy2 =>
some (y2&&((a0.Args.length:Int)==0))) <|
(fL a0.Op).bind λy3 =>
(sel ((y3&&(a0.N==0))&&((a0.Args.length:Int)==2)) ((nth a0.Args 0).bind λx1=>(mC (Expr.mk x1.Op x1.N x1.Args) (w64 (a1-1))).bind λy4=>some y4) (some false):Option (Bool)).bind λb1 =>
(sel b1 ((nth a0.Args 1).bind λx2=>(mC (Expr.mk x2.Op x2.N x2.Args) (w64 (a1-1))).bind λy5=>some y5) (some false):Option (Bool)).bind λb2 =>
some b2
def qU:Nat->(Expr->Int->Option (Bool))
 | 0=>((λ_ _=>none))
 | k+1=>(mB k (qU k))
def oy (k:Nat):Expr->Int->Option (Bool):=(qU k)
def dR (k:Nat) (a0:Expr):Option (Bool):=
(oy k (Expr.mk a0.Op a0.N a0.Args) 5).bind λy1 =>
some y1
def ia (a0:Expr):Option (Bool):=
some (((a0.Op==0)&&(a0.N==0))&&((a0.Args.length:Int)==0))
def gj (k:Nat) (a0:ax):Option (Bool):=
sel ((decide ((a0.Body.length:Int)>0))||(decide ((a0.Else.length:Int)>0))) (some false) <|
sel (a0.Kind==1) ((fJ (ax.mk a0.Kind a0.Var a0.Box (Expr.mk a0.Expr.Op a0.Expr.N a0.Expr.Args) a0.Body a0.Else) true).bind λy1 =>
(sel y1 ((fK (ax.mk a0.Kind a0.Var a0.Box (Expr.mk a0.Expr.Op a0.Expr.N a0.Expr.Args) a0.Body a0.Else) false).bind λy2=>some y2) (some false):Option (Bool)).bind λb1 =>
(sel b1 ((dR k (Expr.mk a0.Expr.Op a0.Expr.N a0.Expr.Args)).bind λy3=>some y3) (some false):Option (Bool)).bind λb2 =>
some b2) <|
sel (a0.Kind==4) ((fJ (ax.mk a0.Kind a0.Var a0.Box (Expr.mk a0.Expr.Op a0.Expr.N a0.Expr.Args) a0.Body a0.Else) false).bind λy4 =>
(sel y4 ((fK (ax.mk a0.Kind a0.Var a0.Box (Expr.mk a0.Expr.Op a0.Expr.N a0.Expr.Args) a0.Body a0.Else) true).bind λy5=>some y5) (some false):Option (Bool)).bind λb3 =>
(sel b3 ((dR k (Expr.mk a0.Expr.Op a0.Expr.N a0.Expr.Args)).bind λy6=>some y6) (some false):Option (Bool)).bind λb4 =>
some b4) <|
sel (a0.Kind==5) ((fJ (ax.mk a0.Kind a0.Var a0.Box (Expr.mk a0.Expr.Op a0.Expr.N a0.Expr.Args) a0.Body a0.Else) true).bind λy7 =>
(sel y7 ((fK (ax.mk a0.Kind a0.Var a0.Box (Expr.mk a0.Expr.Op a0.Expr.N a0.Expr.Args) a0.Body a0.Else) true).bind λy8=>some y8) (some false):Option (Bool)).bind λb5 =>
(sel b5 ((ia (Expr.mk a0.Expr.Op a0.Expr.N a0.Expr.Args)).bind λy9=>some y9) (some false):Option (Bool)).bind λb6 =>
some b6) <|
sel (a0.Kind==6) ((fJ (ax.mk a0.Kind a0.Var a0.Box (Expr.mk a0.Expr.Op a0.Expr.N a0.Expr.Args) a0.Body a0.Else) false).bind λy10 =>
(sel y10 ((fK (ax.mk a0.Kind a0.Var a0.Box (Expr.mk a0.Expr.Op a0.Expr.N a0.Expr.Args) a0.Body a0.Else) false).bind λy11=>some y11) (some false):Option (Bool)).bind λb7 =>
(sel b7 ((ia (Expr.mk a0.Expr.Op a0.Expr.N a0.Expr.Args)).bind λy12=>some y12) (some false):Option (Bool)).bind λb8 =>
some b8) <|
sel (a0.Kind==7) ((fJ (ax.mk a0.Kind a0.Var a0.Box (Expr.mk a0.Expr.Op a0.Expr.N a0.Expr.Args) a0.Body a0.Else) false).bind λy13 =>
(sel y13 ((fK (ax.mk a0.Kind a0.Var a0.Box (Expr.mk a0.Expr.Op a0.Expr.N a0.Expr.Args) a0.Body a0.Else) false).bind λy14=>some y14) (some false):Option (Bool)).bind λb9 =>
(sel b9 ((dR k (Expr.mk a0.Expr.Op a0.Expr.N a0.Expr.Args)).bind λy15=>some y15) (some false):Option (Bool)).bind λb10 =>
some b10) <|
some false
def kE (a0:List ax) (a1:Int) (ed:ax->Int->Option (Bool)) (s1:Int):Option (Int⊕(Bool⊕Unit)):=
sel (decide (s1<(a0.length:Int))) ((nth a0 s1).bind λx1 =>
(ed (ax.mk x1.Kind x1.Var x1.Box (Expr.mk x1.Expr.Op x1.Expr.N x1.Expr.Args) x1.Body x1.Else) a1).bind λy4 =>
sel (!y4) (some (.inr (.inl false))) <|
some (.inl (w64 (s1+1)))) <|
some (.inr (.inr ()))
def gk (k:Nat) (dk:List ax->Int->Option (Bool)) (ed:ax->Int->Option (Bool)) (a0:List ax) (a1:Int):Option (Bool):=
(bB (kE a0 a1 ed) 0).bind λy1 =>
fu y1 (λo3=>some o3) (λo4 =>
some true)
def kF (k:Nat) (dk:List ax->Int->Option (Bool)) (ed:ax->Int->Option (Bool)) (a0:ax) (a1:Int):Option (Bool):=
sel ((a0.Kind !=2)&&(a0.Kind !=3)) ((gj k (ax.mk a0.Kind a0.Var a0.Box (Expr.mk a0.Expr.Op a0.Expr.N a0.Expr.Args) a0.Body a0.Else)).bind λy1 =>
some y1) <|
sel ((decide (a1<1))||((a0.Kind==3)&&(decide ((a0.Else.length:Int)>0)))) (some false) <|
(fJ (ax.mk a0.Kind a0.Var a0.Box (Expr.mk a0.Expr.Op a0.Expr.N a0.Expr.Args) a0.Body a0.Else) false).bind λy2 =>
(sel y2 ((fK (ax.mk a0.Kind a0.Var a0.Box (Expr.mk a0.Expr.Op a0.Expr.N a0.Expr.Args) a0.Body a0.Else) false).bind λy3=>some y3) (some false):Option (Bool)).bind λb1 =>
(sel b1 ((dR k (Expr.mk a0.Expr.Op a0.Expr.N a0.Expr.Args)).bind λy4=>some y4) (some false):Option (Bool)).bind λb2 =>
(sel b2 ((dk a0.Body (w64 (a1-1))).bind λy5=>some y5) (some false):Option (Bool)).bind λb3 =>
(sel b3 ((dk a0.Else (w64 (a1-1))).bind λy6=>some y6) (some false):Option (Bool)).bind λb4 =>
some b4
def dY:Nat->(List ax->Int->Option (Bool))×(ax->Int->Option (Bool))
 | 0=>((λ_ _=>none),(λ_ _=>none))
 | k+1=>(gk k (dY k).1 (dY k).2,kF k (dY k).1 (dY k).2)
def dB (k:Nat):List ax->Int->Option (Bool):=(dY k).1
def rl (k:Nat):ax->Int->Option (Bool):=(dY k).2
def gV (k:Nat) (a0:List ax):Option (Bool):=
(dB k a0 3).bind λy1 =>
(sel y1 ((d9 k a0).bind λy2=>some (decide (y2<=16))) (some false):Option (Bool)).bind λb1 =>
some b1
def iJ (k:Nat) (iK:Expr->Int->Option ((List ah))) (a0:Expr) (a1:Int):Option ((List ah)):=
sel (a0.Op==0) (some [(ah.mk 1 a1 0 0 a0.N)]) <|
sel (a0.Op==13) (some [(ah.mk 2 a1 a0.N 0 0)]) <|
(nth a0.Args 0).bind λx1 =>
(nth a0.Args 1).bind λx2 =>
(iK (Expr.mk x1.Op x1.N x1.Args) a1).bind λy1 =>
(iK (Expr.mk x2.Op x2.N x2.Args) (w64 (a1+1))).bind λy2 =>
(app 40 y1 y2).bind λr1 =>
(app 40 r1 [(ah.mk 3 a1 a1 (w64 (a1+1)) a0.Op)]).bind λr2 =>
some r2
def oz:Nat->(Expr->Int->Option ((List ah)))
 | 0=>((λ_ _=>none))
 | k+1=>(iJ k (oz k))
def ee (k:Nat):Expr->Int->Option ((List ah)):=(oz k)
def mL (a0:List ax) (a1:Int) (bG:ax->Int->Option ((List ah))) (s1:(List ah)×Int):Option (((List ah)×Int)⊕((List ah))):=
sel (decide (s1.2<(a0.length:Int))) ((nth a0 s1.2).bind λx1 =>
(bG (ax.mk x1.Kind x1.Var x1.Box (Expr.mk x1.Expr.Op x1.Expr.N x1.Expr.Args) x1.Body x1.Else) (w64 (a1+(s1.1.length:Int)))).bind λy4 =>
(app 40 s1.1 y4).bind λr1 =>
some (.inl (r1,w64 (s1.2+1)))) <|
some (.inr s1.1)
def iL (k:Nat) (bH:List ax->Int->Option ((List ah))) (bG:ax->Int->Option ((List ah))) (cK:ax->Int->Option ((List ah))) (bO:ax->Int->Option ((List ah))) (a0:List ax) (a1:Int):Option ((List ah)):=
(bB (mL a0 a1 bG) ([],0)).bind λy1 =>
some y1
def iM (k:Nat) (bH:List ax->Int->Option ((List ah))) (bG:ax->Int->Option ((List ah))) (cK:ax->Int->Option ((List ah))) (bO:ax->Int->Option ((List ah))) (a0:ax) (a1:Int):Option ((List ah)):=
(ee k (Expr.mk a0.Expr.Op a0.Expr.N a0.Expr.Args) 4).bind λy1 =>
sel (a0.Kind==2) ((cK (ax.mk a0.Kind a0.Var a0.Box (Expr.mk a0.Expr.Op a0.Expr.N a0.Expr.Args) a0.Body a0.Else) a1).bind λy2 =>
some y2) <|
sel (a0.Kind==3) ((bO (ax.mk a0.Kind a0.Var a0.Box (Expr.mk a0.Expr.Op a0.Expr.N a0.Expr.Args) a0.Body a0.Else) a1).bind λy3 =>
some y3) <|
sel (a0.Kind==1) ((app 40 y1 [(ah.mk 2 a0.Var 4 0 0)]).bind λr1 =>
some r1) <|
sel (a0.Kind==4) ((app 40 y1 [(ah.mk 6 0 4 0 a0.Box)]).bind λr2 =>
some r2) <|
sel (a0.Kind==7) ((app 40 y1 [(ah.mk 9 0 4 0 0)]).bind λr3 =>
some r3) <|
sel (a0.Kind==5) (some [(ah.mk 7 a0.Var 0 0 a0.Box)]) <|
some [(ah.mk 8 0 0 0 0)]
def kG (k:Nat) (bH:List ax->Int->Option ((List ah))) (bG:ax->Int->Option ((List ah))) (cK:ax->Int->Option ((List ah))) (bO:ax->Int->Option ((List ah))) (a0:ax) (a1:Int):Option ((List ah)):=
(ee k (Expr.mk a0.Expr.Op a0.Expr.N a0.Expr.Args) 4).bind λy1 =>
(bH a0.Body (w64 ((w64 (a1+(y1.length:Int)))+1))).bind λy2 =>
sel ((a0.Else.length:Int)==0) ((app 40 y1 [(ah.mk 5 0 4 0 (w64 ((w64 ((w64 (a1+(y1.length:Int)))+1))+(y2.length:Int))))]).bind λr1 =>
(app 40 r1 y2).bind λr2 =>
some r2) <|
(bH a0.Else (w64 ((w64 ((w64 ((w64 (a1+(y1.length:Int)))+1))+(y2.length:Int)))+1))).bind λy3 =>
(app 40 y1 [(ah.mk 5 0 4 0 (w64 ((w64 ((w64 ((w64 (a1+(y1.length:Int)))+1))+(y2.length:Int)))+1)))]).bind λr3 =>
(app 40 r3 y2).bind λr4 =>
(app 40 r4 [(ah.mk 4 0 0 0 (w64 ((w64 ((w64 ((w64 ((w64 (a1+(y1.length:Int)))+1))+(y2.length:Int)))+1))+(y3.length:Int))))]).bind λr5 =>
(app 40 r5 y3).bind λr6 =>
some r6
def gW (k:Nat) (bH:List ax->Int->Option ((List ah))) (bG:ax->Int->Option ((List ah))) (cK:ax->Int->Option ((List ah))) (bO:ax->Int->Option ((List ah))) (a0:ax) (a1:Int):Option ((List ah)):=
(ee k (Expr.mk a0.Expr.Op a0.Expr.N a0.Expr.Args) 4).bind λy1 =>
(bH a0.Body (w64 ((w64 (a1+(y1.length:Int)))+1))).bind λy2 =>
(app 40 y1 [(ah.mk 5 0 4 0 (w64 ((w64 ((w64 ((w64 (a1+(y1.length:Int)))+1))+(y2.length:Int)))+1)))]).bind λr1 =>
(app 40 r1 y2).bind λr2 =>
(app 40 r2 [(ah.mk 4 0 0 0 a1)]).bind λr3 =>
some r3
def aZ:Nat->(List ax->Int->Option ((List ah)))×(ax->Int->Option ((List ah)))×(ax->Int->Option ((List ah)))×(ax->Int->Option ((List ah)))
 | 0=>((λ_ _=>none),(λ_ _=>none),(λ_ _=>none),(λ_ _=>none))
 | k+1=>(iL k (aZ k).1 (aZ k).2.1 (aZ k).2.2.1 (aZ k).2.2.2,iM k (aZ k).1 (aZ k).2.1 (aZ k).2.2.1 (aZ k).2.2.2,kG k (aZ k).1 (aZ k).2.1 (aZ k).2.2.1 (aZ k).2.2.2,gW k (aZ k).1 (aZ k).2.1 (aZ k).2.2.1 (aZ k).2.2.2)
def fM (k:Nat):List ax->Int->Option ((List ah)):=(aZ k).1
def jg (k:Nat):ax->Int->Option ((List ah)):=(aZ k).2.1
def ni (k:Nat):ax->Int->Option ((List ah)):=(aZ k).2.2.1
def jG (k:Nat):ax->Int->Option ((List ah)):=(aZ k).2.2.2
def gl (k:Nat) (a0:List ax):Option ((List ah)×Bool):=
(gV k a0).bind λy1 =>
sel (!y1) (some ([],false)) <|
(fM k a0 0).bind λy2 =>
(app 40 y2 [(ah.mk 10 0 0 0 0)]).bind λr1 =>
some (r1,true)
def kr (a0:Int) (a1:Expr) (a2:Expr):Option (Expr):=
some (Expr.mk a0 0 [(Expr.mk a1.Op a1.N a1.Args),(Expr.mk a2.Op a2.N a2.Args)])
def ek (a0:Int) (a1:Int):Option (Expr):=
some (Expr.mk a0 a1 [])
def jh (a0:aP):Option (Expr×Int):=
(ar (aP.mk a0.b a0.p) 4).bind λy1 =>
sel (y1.1==0) ((ar (aP.mk a0.b y1.2) 4).bind λy2 =>
(ek 0 y2.1).bind λy3 =>
some ((Expr.mk y3.Op y3.N y3.Args),y2.2)) <|
sel (y1.1==1) ((ar (aP.mk a0.b y1.2) 8).bind λy4 =>
(nth [5,31,32,100,2047,2048,65536,99999] y4.1).bind λx1 =>
(ek 0 x1).bind λy5 =>
some ((Expr.mk y5.Op y5.N y5.Args),y4.2)) <|
(ar (aP.mk a0.b y1.2) 4).bind λy6 =>
(ek 13 y6.1).bind λy7 =>
some ((Expr.mk y7.Op y7.N y7.Args),y6.2)
def iO (k:Nat) (iP:aP->Int->Option (Expr×Int)) (a0:aP) (a1:Int):Option (Expr×Int):=
(sel (decide (a1<2)) (some (true,a0.p)) ((ar (aP.mk a0.b a0.p) 3).bind λy1=>some (y1.1==0,y1.2)):Option (Bool×Int)).bind λb1 =>
sel b1.1 ((jh (aP.mk a0.b b1.2)).bind λy2 =>
some ((Expr.mk y2.1.Op y2.1.N y2.1.Args),y2.2)) <|
(lK (aP.mk a0.b b1.2)).bind λy3 =>
(iP (aP.mk a0.b y3.2) (w64 (a1-1))).bind λy4 =>
(iP (aP.mk a0.b y4.2) (w64 (a1-1))).bind λy5 =>
(kr y3.1 (Expr.mk y4.1.Op y4.1.N y4.1.Args) (Expr.mk y5.1.Op y5.1.N y5.1.Args)).bind λy6 =>
some ((Expr.mk y6.Op y6.N y6.Args),y5.2)
def oA:Nat->(aP->Int->Option (Expr×Int))
 | 0=>((λ_ _=>none))
 | k+1=>(iO k (oA k))
def eM (k:Nat):aP->Int->Option (Expr×Int):=(oA k)
def kt (k:Nat) (a0:aP):Option (ax×Int):=
(ar (aP.mk a0.b a0.p) 3).bind λy1 =>
(ar (aP.mk a0.b y1.2) 3).bind λy2 =>
(eM k (aP.mk a0.b y2.2) (w64 (1+y2.1))).bind λy3 =>
some ((ax.mk 1 y1.1 0 (Expr.mk y3.1.Op y3.1.N y3.1.Args) [] []),y3.2)
def kH (k:Nat) (a0:aP) (a1:Int):Option (ax×Int):=
sel (decide (a1<1)) ((kt k (aP.mk a0.b a0.p)).bind λy1 =>
some ((ax.mk y1.1.Kind y1.1.Var y1.1.Box (Expr.mk y1.1.Expr.Op y1.1.Expr.N y1.1.Expr.Args) y1.1.Body y1.1.Else),y1.2)) <|
(ar (aP.mk a0.b a0.p) a1).bind λy2 =>
(ar (aP.mk a0.b y2.2) 2).bind λy3 =>
sel (y3.1==0) ((ar (aP.mk a0.b y3.2) 3).bind λy4 =>
(eM k (aP.mk a0.b y4.2) (w64 (1+y4.1))).bind λy5 =>
some ((ax.mk 4 0 y2.1 (Expr.mk y5.1.Op y5.1.N y5.1.Args) [] []),y5.2)) <|
(ar (aP.mk a0.b y3.2) 3).bind λy6 =>
some ((ax.mk 5 y6.1 y2.1 (Expr.mk 0 0 []) [] []),y6.2)
def lL (a0:aP) (a1:Int) (a2:Int) (a3:Int) (a4:Bool) (bI:aP->Int->Int->Bool->Option ((List ax)×Int)) (s1:(List ax)×Int×Int):Option (((List ax)×Int×Int)⊕((List ax)×Int)):=
sel (decide (s1.2.1<a3)) ((bI (aP.mk a0.b s1.2.2) a1 a2 a4).bind λy4 =>
(app 112 s1.1 y4.1).bind λr1 =>
some (.inl (r1,w64 (s1.2.1+1),y4.2))) <|
some (.inr (s1.1,s1.2.2))
def gX (k:Nat) (bp:aP->Int->Int->Int->Bool->Option ((List ax)×Int)) (bI:aP->Int->Int->Bool->Option ((List ax)×Int)) (cL:aP->Int->Int->Bool->Option (ax×Int)) (ca:aP->Int->Int->Option ((List ax)×Int)) (a0:aP) (a1:Int) (a2:Int) (a3:Int) (a4:Bool):Option ((List ax)×Int):=
(bB (lL a0 a1 a2 a3 a4 bI) ([],0,a0.p)).bind λy1 =>
some (y1.1,y1.2)
def iQ (k:Nat) (bp:aP->Int->Int->Int->Bool->Option ((List ax)×Int)) (bI:aP->Int->Int->Bool->Option ((List ax)×Int)) (cL:aP->Int->Int->Bool->Option (ax×Int)) (ca:aP->Int->Int->Option ((List ax)×Int)) (a0:aP) (a1:Int) (a2:Int) (a3:Bool):Option ((List ax)×Int):=
((ar (aP.mk a0.b a0.p) 10).bind λy2 =>
(sel (y2.1==0) (some (y2.1==0)) <|
some (y2.1==1):Option (Bool)).bind λy3 =>
sel y3 ((kt k (aP.mk a0.b y2.2)).bind λy4 =>
some (.inr ([(ax.mk y4.1.Kind y4.1.Var y4.1.Box (Expr.mk y4.1.Expr.Op y4.1.Expr.N y4.1.Expr.Args) y4.1.Body y4.1.Else)],y4.2))) <|
sel (y2.1==2) (sel (decide (a2>0)) ((cL (aP.mk a0.b y2.2) a1 a2 a3).bind λy5 =>
some (.inr ([(ax.mk y5.1.Kind y5.1.Var y5.1.Box (Expr.mk y5.1.Expr.Op y5.1.Expr.N y5.1.Expr.Args) y5.1.Body y5.1.Else)],y5.2))) <|
some (.inl y2.2)) <|
sel (y2.1==3) (sel ((decide (a2>0))&&a3) ((ca (aP.mk a0.b y2.2) a1 a2).bind λy6 =>
some (.inr (y6.1,y6.2))) <|
some (.inl y2.2)) <|
(sel (y2.1==4) (some (y2.1==4)) <|
sel (y2.1==5) (some (y2.1==5)) <|
some (y2.1==6):Option (Bool)).bind λy7 =>
sel y7 ((kH k (aP.mk a0.b y2.2) a1).bind λy8 =>
some (.inr ([(ax.mk y8.1.Kind y8.1.Var y8.1.Box (Expr.mk y8.1.Expr.Op y8.1.Expr.N y8.1.Expr.Args) y8.1.Body y8.1.Else)],y8.2))) <|
sel (y2.1==7) (some (.inr ([(ax.mk 6 0 0 (Expr.mk 0 0 []) [] [])],y2.2))) <|
some (.inl y2.2):Option (Int⊕((List ax)×Int))).bind λy1 =>
fu y1 (λo3=>(ar (aP.mk a0.b o3) 3).bind λy9 =>
(eM k (aP.mk a0.b y9.2) (w64 (1+y9.1))).bind λy10 =>
some ([(ax.mk 7 0 0 (Expr.mk y10.1.Op y10.1.N y10.1.Args) [] [])],y10.2)) (λo4 =>
some o4)
def kI (k:Nat) (bp:aP->Int->Int->Int->Bool->Option ((List ax)×Int)) (bI:aP->Int->Int->Bool->Option ((List ax)×Int)) (cL:aP->Int->Int->Bool->Option (ax×Int)) (ca:aP->Int->Int->Option ((List ax)×Int)) (a0:aP) (a1:Int) (a2:Int) (a3:Bool):Option (ax×Int):=
(ar (aP.mk a0.b a0.p) 2).bind λy1 =>
(eM k (aP.mk a0.b y1.2) (w64 (1+y1.1))).bind λy2 =>
(ar (aP.mk a0.b y2.2) 3).bind λy3 =>
(bp (aP.mk a0.b y3.2) a1 (w64 (a2-1)) y3.1 a3).bind λy4 =>
(ar (aP.mk a0.b y4.2) 3).bind λy5 =>
(bp (aP.mk a0.b y5.2) a1 (w64 (a2-1)) y5.1 a3).bind λy6 =>
some ((ax.mk 2 0 0 (Expr.mk y2.1.Op y2.1.N y2.1.Args) y4.1 y6.1),y6.2)
def iR (k:Nat) (bp:aP->Int->Int->Int->Bool->Option ((List ax)×Int)) (bI:aP->Int->Int->Bool->Option ((List ax)×Int)) (cL:aP->Int->Int->Bool->Option (ax×Int)) (ca:aP->Int->Int->Option ((List ax)×Int)) (a0:aP) (a1:Int) (a2:Int):Option ((List ax)×Int):=
(ar (aP.mk a0.b a0.p) 3).bind λy1 =>
(bp (aP.mk a0.b y1.2) a1 (w64 (a2-1)) y1.1 false).bind λy2 =>
(ek 13 3).bind λy3 =>
(ek 0 1).bind λy4 =>
(kr 8 (Expr.mk y3.Op y3.N y3.Args) (Expr.mk y4.Op y4.N y4.Args)).bind λy5 =>
(ek 13 3).bind λy6 =>
(ar (aP.mk a0.b y2.2) 3).bind λy7 =>
(ek 0 (w64 (1+y7.1))).bind λy8 =>
(kr 5 (Expr.mk y6.Op y6.N y6.Args) (Expr.mk y8.Op y8.N y8.Args)).bind λy9 =>
(app 112 y2.1 [(ax.mk 1 3 0 (Expr.mk y5.Op y5.N y5.Args) [] [])]).bind λr1 =>
(ek 0 0).bind λy10 =>
some ([(ax.mk 1 3 0 (Expr.mk y10.Op y10.N y10.Args) [] []),(ax.mk 3 0 0 (Expr.mk y9.Op y9.N y9.Args) r1 [])],y7.2)
def aX:Nat->(aP->Int->Int->Int->Bool->Option ((List ax)×Int))×(aP->Int->Int->Bool->Option ((List ax)×Int))×(aP->Int->Int->Bool->Option (ax×Int))×(aP->Int->Int->Option ((List ax)×Int))
 | 0=>((λ_ _ _ _ _=>none),(λ_ _ _ _=>none),(λ_ _ _ _=>none),(λ_ _ _=>none))
 | k+1=>(gX k (aX k).1 (aX k).2.1 (aX k).2.2.1 (aX k).2.2.2,iQ k (aX k).1 (aX k).2.1 (aX k).2.2.1 (aX k).2.2.2,kI k (aX k).1 (aX k).2.1 (aX k).2.2.1 (aX k).2.2.2,iR k (aX k).1 (aX k).2.1 (aX k).2.2.1 (aX k).2.2.2)
def ef (k:Nat):aP->Int->Int->Int->Bool->Option ((List ax)×Int):=(aX k).1
def ji (k:Nat):aP->Int->Int->Bool->Option ((List ax)×Int):=(aX k).2.1
def nj (k:Nat):aP->Int->Int->Bool->Option (ax×Int):=(aX k).2.2.1
def kJ (k:Nat):aP->Int->Int->Option ((List ax)×Int):=(aX k).2.2.2
def lM (k:Nat) (s1:(List ax)):Option (((List ax))⊕((List ax))):=
(d9 k s1).bind λy6 =>
sel (decide (y6>16)) ((cut s1 0 (w64 ((s1.length:Int)-1))).bind λr1 =>
some (.inl r1)) <|
some (.inr s1)
def jH (k:Nat) (a0:aP) (a1:Int):Option ((List ax)×Int):=
(ar (aP.mk a0.b a0.p) 6).bind λy1 =>
(ef k (aP.mk a0.b y1.2) a1 3 (w64 (1+y1.1)) true).bind λy2 =>
(bB (lM k) y2.1).bind λy3 =>
some (y3,y2.2)
def cM (a0:Int):Option (Bool):=
(aE a0 (-2147483648) 2147483647).bind λy1 =>
some y1
def iU (a0:Int) (a1:Bool):Option (Bool):=
sel a1 ((aE a0 0 11).bind λy1 =>
some y1) <|
some (a0==0)
def dl (a0:ah) (a1:Bool) (a2:Bool) (a3:Bool):Option (Bool):=
(iU a0.Dst a1).bind λy1 =>
(sel y1 ((iU a0.A a2).bind λy2=>some y2) (some false):Option (Bool)).bind λb1 =>
(sel b1 ((iU a0.B a3).bind λy3=>some y3) (some false):Option (Bool)).bind λb2 =>
some b2
def fh (a0:ah) (a1:Int):Option (Bool):=
sel (a0.Op==1) ((dl a0 true false false).bind λy1 =>
(sel y1 ((cM a0.N).bind λy2=>some y2) (some false):Option (Bool)).bind λb1 =>
some b1) <|
sel (a0.Op==2) ((dl a0 true true false).bind λy3 =>
some (y3&&(a0.N==0))) <|
sel (a0.Op==3) ((dl a0 true true true).bind λy4 =>
(sel y4 ((fL a0.N).bind λy5=>some y5) (some false):Option (Bool)).bind λb2 =>
some b2) <|
sel (a0.Op==4) ((dl a0 false false false).bind λy6 =>
some ((y6&&(decide (a0.N>=0)))&&(decide (a0.N<a1)))) <|
sel (a0.Op==5) ((dl a0 false true false).bind λy7 =>
some ((y7&&(decide (a0.N>=0)))&&(decide (a0.N<a1)))) <|
sel (a0.Op==6) ((dl a0 false true false).bind λy8 =>
(sel y8 ((aE a0.N 0 2).bind λy9=>some y9) (some false):Option (Bool)).bind λb3 =>
some b3) <|
sel (a0.Op==7) ((dl a0 true false false).bind λy10 =>
(sel y10 ((aE a0.N 0 2).bind λy11=>some y11) (some false):Option (Bool)).bind λb4 =>
some b4) <|
sel (a0.Op==9) ((dl a0 false true false).bind λy12 =>
some (y12&&(a0.N==0))) <|
(sel (a0.Op==8) (some (a0.Op==8)) <|
some (a0.Op==10):Option (Bool)).bind λy13 =>
sel y13 ((dl a0 false false false).bind λy14 =>
some (y14&&(a0.N==0))) <|
some false
def kK (a0:List ah) (s1:Int):Option (Int⊕(Bool⊕Unit)):=
sel (decide (s1<(a0.length:Int))) ((nth a0 s1).bind λx1 =>
(fh x1 (a0.length:Int)).bind λy5 =>
sel (!y5) (some (.inr (.inl false))) <|
some (.inl (w64 (s1+1)))) <|
some (.inr (.inr ()))
def bP (a0:List ah):Option (Bool):=
(aE (a0.length:Int) 1 600).bind λy1 =>
sel (!y1) (some false) <|
(bB (kK a0) 0).bind λy2 =>
fu y2 (λo3=>some o3) (λo4 =>
(nth a0 (w64 ((a0.length:Int)-1))).bind λx2 =>
(sel (x2.Op==10) (some true) ((nth a0 (w64 ((a0.length:Int)-1))).bind λx3=>some (x3.Op==4)):Option (Bool)).bind λb1 =>
some b1)
def eg (a0:List ah) (a1:Int):Option ((List Int)):=
(nth a0 a1).bind λx1 =>
sel (x1.Op==10) (some []) <|
sel (x1.Op==4) (some [x1.N]) <|
sel ((x1.Op==5)&&(decide (x1.N<(w64 (a1+1))))) (some [x1.N,w64 (a1+1)]) <|
sel ((x1.Op==5)&&(decide (x1.N>(w64 (a1+1))))) (some [w64 (a1+1),x1.N]) <|
some [w64 (a1+1)]
def jI (a0:List ah) (a1:List bn) (a2:Int):Option ((List Int)):=
(nth a0 a2).bind λx1 =>
(sel (x1.Op !=5) (some true) ((nth a1 x1.A).bind λx2=>some (x2.Kind !=1)):Option (Bool)).bind λb1 =>
sel b1 ((eg a0 a2).bind λy1 =>
some y1) <|
(nth a1 x1.A).bind λx3 =>
sel (x3.N==0) (some [x1.N]) <|
some [w64 (a2+1)]
def fN (a0:Bool):Option (Int):=
sel a0 (some 1) <|
some 0
def fO (a0:Int) (a1:Int) (a2:Bool):Option (Int):=
sel a2 ((shO .shr .i64 a0 (aG .and .i64 a1 31)).bind λd1 =>
some d1) <|
(shO .shl .i64 a0 (aG .and .i64 a1 31)).bind λd2 =>
(cn d2).bind λy1 =>
some y1
def ib (a0:Int) (a1:Int):Option (Int):=
sel (a1==0) (some (-1)) <|
(rM .i64 a0 a1).bind λd1 =>
(cn d1).bind λy1 =>
some y1
def ic (a0:Int) (a1:Int):Option (Int):=
sel (a1==0) (some a0) <|
(ox a0 a1).bind λd1 =>
some d1
def iV (a0:Int) (a1:Int) (a2:Int):Option (Int×Bool):=
(fL a0).bind λy1 =>
(sel (!y1) (some true) ((cM a1).bind λy2=>some (!y2)):Option (Bool)).bind λb1 =>
(sel b1 (some true) ((cM a2).bind λy3=>some (!y3)):Option (Bool)).bind λb2 =>
sel b2 (some (0,false)) <|
sel (a0==1) (some (aG .or .i64 a1 a2,true)) <|
sel (a0==2) (some (aG .xor .i64 a1 a2,true)) <|
sel (a0==3) (some (aG .and .i64 a1 a2,true)) <|
sel (a0==4) ((fN (a1==a2)).bind λy4 =>
some (y4,true)) <|
sel (a0==5) ((fN (decide (a1<a2))).bind λy5 =>
some (y5,true)) <|
sel (a0==6) ((fO a1 a2 false).bind λy6 =>
some (y6,true)) <|
sel (a0==7) ((fO a1 a2 true).bind λy7 =>
some (y7,true)) <|
sel (a0==8) ((cn (w64 (a1+a2))).bind λy8 =>
some (y8,true)) <|
sel (a0==9) ((cn (w64 (a1-a2))).bind λy9 =>
some (y9,true)) <|
sel (a0==10) ((cn (w64 (a1*a2))).bind λy10 =>
some (y10,true)) <|
sel (a0==11) ((ib a1 a2).bind λy11 =>
some (y11,true)) <|
(ic a1 a2).bind λy12 =>
some (y12,true)
def gm (a0:ah) (a1:bn) (a2:bn):Option (bn):=
sel ((a1.Kind !=1)||(a2.Kind !=1)) (some (bn.mk 2 0)) <|
(iV a0.N a1.N a2.N).bind λy1 =>
some (bn.mk 1 y1.1)
def jJ (a0:ah) (a1:List bn):Option ((List bn)):=
(app 16 [] a1).bind λr1 =>
sel (a0.Op==1) ((nth r1 a0.Dst).bind λx1 =>
(upd r1 a0.Dst (bn.mk 1 a0.N)).bind λr2 =>
some r2) <|
sel (a0.Op==2) ((nth a1 a0.A).bind λx2 =>
(nth r1 a0.Dst).bind λx3 =>
(upd r1 a0.Dst x2).bind λr3 =>
some r3) <|
sel (a0.Op==7) ((nth r1 a0.Dst).bind λx4 =>
(upd r1 a0.Dst (bn.mk 2 0)).bind λr4 =>
some r4) <|
sel (a0.Op==3) ((nth a1 a0.A).bind λx5 =>
(nth a1 a0.B).bind λx6 =>
(gm a0 x5 x6).bind λy1 =>
(nth r1 a0.Dst).bind λx7 =>
(upd r1 a0.Dst y1).bind λr5 =>
some r5) <|
some r1
def kL (a0:bn) (a1:bn):Option (bn):=
sel (a0.Kind==0) (some a1) <|
sel ((a1.Kind==0)||((a0.Kind==a1.Kind)&&((a0.N==a1.N)&&true))) (some a0) <|
some (bn.mk 2 0)
def lN (a1:Int) (a2:List bn) (s1:Bool×Int×(List (List bn))):Option ((Bool×Int×(List (List bn)))⊕(Bool×(List (List bn)))):=
sel (decide (s1.2.1<12)) (((nth s1.2.2 a1).bind λx1 =>
(nth x1 s1.2.1).bind λx4 =>
(nth a2 s1.2.1).bind λx5 =>
(kL x4 x5).bind λy6 =>
(nth s1.2.2 a1).bind λx6 =>
(nth x6 s1.2.1).bind λx8 =>
sel (!((y6.Kind==x8.Kind)&&((y6.N==x8.N)&&true))) ((nth x6 s1.2.1).bind λx9 =>
(upd x6 s1.2.1 y6).bind λr1 =>
some (true,(s1.2.2.set (Int.toNat a1) r1))) <|
some (s1.1,s1.2.2):Option (Bool×(List (List bn)))).bind λy4 =>
some (.inl (y4.1,w64 (s1.2.1+1),y4.2))) <|
some (.inr (s1.1,s1.2.2))
def jK (a0:List (List bn)) (a1:Int) (a2:List bn):Option (Bool×(List (List bn))):=
(bB (lN a1 a2) (false,0,a0)).bind λy1 =>
some (y1.1,y1.2)
def lO (y5:(List Int)) (y6:(List bn)) (s2:Bool×Int×(List (List bn))):Option ((Bool×Int×(List (List bn)))⊕(Bool×(List (List bn)))):=
sel (decide (s2.2.1<(y5.length:Int))) (((nth y5 s2.2.1).bind λx4 =>
(jK s2.2.2 x4 y6).bind λy11 =>
sel y11.1 (some (true,y11.2)) <|
some (s2.1,y11.2):Option (Bool×(List (List bn)))).bind λy10 =>
some (.inl (y10.1,w64 (s2.2.1+1),y10.2))) <|
some (.inr (s2.1,s2.2.2))
def lP (a0:List ah) (s1:Bool×Int×(List (List bn))):Option ((Bool×Int×(List (List bn)))⊕(Bool×(List (List bn)))):=
sel (decide (s1.2.1<(a0.length:Int))) (((nth s1.2.2 s1.2.1).bind λx1 =>
(nth x1 0).bind λx2 =>
sel (x2.Kind==0) (some (s1.1,s1.2.2)) <|
(jI a0 x1 s1.2.1).bind λy5 =>
(nth a0 s1.2.1).bind λx3 =>
(jJ x3 x1).bind λy6 =>
(bB (lO y5 y6) (s1.1,0,s1.2.2)).bind λy7 =>
some (y7.1,y7.2):Option (Bool×(List (List bn)))).bind λy4 =>
some (.inl (y4.1,w64 (s1.2.1+1),y4.2))) <|
some (.inr (s1.1,s1.2.2))
def jL (a0:List ah) (a1:List (List bn)):Option (Bool×(List (List bn))):=
(bB (lP a0) (false,0,a1)).bind λy1 =>
some (y1.1,y1.2)
def mM (a0:List ah) (s1:(List (List bn))×Int):Option (((List (List bn))×Int)⊕((List (List bn)))):=
sel (decide (s1.2<(a0.length:Int))) ((mk 16 12 (bn.mk 0 0)).bind λr1 =>
(app 24 s1.1 [r1]).bind λr2 =>
some (.inl (r2,w64 (s1.2+1)))) <|
some (.inr s1.1)
def mN (s2:Int×(List (List bn))):Option ((Int×(List (List bn)))⊕((List (List bn)))):=
sel (decide (s2.1<12)) ((nth s2.2 0).bind λx1 =>
(nth x1 s2.1).bind λx2 =>
(upd x1 s2.1 (bn.mk 1 0)).bind λr3 =>
some (.inl (w64 (s2.1+1),(s2.2.set (Int.toNat 0) r3)))) <|
some (.inr s2.2)
def mO (a0:List ah) (s3:(List (List bn))):Option (((List (List bn)))⊕((List (List bn)))):=
(jL a0 s3).bind λy11 =>
sel y11.1 (some (.inl y11.2)) <|
some (.inr y11.2)
def kM (a0:List ah):Option ((List (List bn))):=
(bP a0).bind λy1 =>
sel (!y1) (some []) <|
(bB (mM a0) ([],0)).bind λy2 =>
(bB (mN) (0,y2)).bind λy5 =>
(bB (mO a0) y5).bind λy8 =>
some y8
def f0 (a0:bn) (a1:Int):Option (Bool):=
some ((a0.Kind==1)&&(a0.N==a1))
def nk (a0:List Int) (a1:Int) (s1:Int):Option (Int⊕(Bool⊕Unit)):=
sel (decide (s1<(a0.length:Int))) ((nth a0 s1).bind λx1 =>
sel (x1==a1) (some (.inr (.inl true))) <|
some (.inl (w64 (s1+1)))) <|
some (.inr (.inr ()))
def mD (a0:List Int) (a1:Int):Option (Bool):=
(bB (nk a0 a1) 0).bind λy1 =>
fu y1 (λo3=>some o3) (λo4 =>
some false)
def gM (a0:Int) (a1:List Int):Option (Bool):=
(mD a1 a0).bind λy1 =>
some y1
def mE (a0:ah) (a1:bn) (a2:bn):Option (ah):=
(gm a0 a1 a2).bind λy1 =>
sel (y1.Kind==1) (some (ah.mk 1 a0.Dst 0 0 y1.N)) <|
(f0 a2 0).bind λy2 =>
(sel y2 ((gM a0.N [1,2,6,7,8,9]).bind λy3=>some y3) (some false):Option (Bool)).bind λb1 =>
sel b1 (some (ah.mk 2 a0.Dst a0.A 0 0)) <|
(f0 a2 1).bind λy4 =>
(sel y4 ((gM a0.N [10,11]).bind λy5=>some y5) (some false):Option (Bool)).bind λb2 =>
sel b2 (some (ah.mk 2 a0.Dst a0.A 0 0)) <|
(f0 a1 0).bind λy6 =>
(sel y6 ((gM a0.N [1,2,8]).bind λy7=>some y7) (some false):Option (Bool)).bind λb3 =>
sel b3 (some (ah.mk 2 a0.Dst a0.B 0 0)) <|
(f0 a1 1).bind λy8 =>
sel (y8&&(a0.N==10)) (some (ah.mk 2 a0.Dst a0.B 0 0)) <|
(f0 a1 0).bind λy9 =>
(sel y9 (some true) ((f0 a2 0).bind λy10=>some y10):Option (Bool)).bind λb4 =>
(sel b4 ((gM a0.N [3,10]).bind λy11=>some y11) (some false):Option (Bool)).bind λb5 =>
sel b5 (some (ah.mk 1 a0.Dst 0 0 0)) <|
some a0
def kN (a0:ah) (a1:List bn) (a2:Int):Option (ah):=
(nth a1 0).bind λx1 =>
sel (x1.Kind==0) (some a0) <|
sel (a0.Op==2) ((nth a1 a0.A).bind λx2 =>
sel (x2.Kind==1) ((nth a1 a0.A).bind λx3 =>
some (ah.mk 1 a0.Dst 0 0 x3.N)) <|
some a0) <|
sel (a0.Op==3) ((nth a1 a0.A).bind λx4 =>
(nth a1 a0.B).bind λx5 =>
(mE a0 x4 x5).bind λy1 =>
some y1) <|
sel (a0.Op==5) ((nth a1 a0.A).bind λx6 =>
(f0 x6 0).bind λy2 =>
sel y2 (some (ah.mk 4 0 0 0 a0.N)) <|
(nth a1 a0.A).bind λx7 =>
sel (x7.Kind==1) (some (ah.mk 4 0 0 0 (w64 (a2+1)))) <|
some a0) <|
some a0
def jj (a0:List ah) (y2:(List (List bn))) (s1:(List ah)×Int):Option (((List ah)×Int)⊕((List ah))):=
sel (decide (s1.2<(a0.length:Int))) ((nth y2 s1.2).bind λx1 =>
(nth a0 s1.2).bind λx3 =>
(kN x3 x1 s1.2).bind λy7 =>
(app 40 s1.1 [y7]).bind λr2 =>
some (.inl (r2,w64 (s1.2+1)))) <|
some (.inr s1.1)
def jM (a0:List ah):Option ((List ah)×Bool):=
(bP a0).bind λy1 =>
sel (!y1) (some ([],false)) <|
(kM a0).bind λy2 =>
(bB (jj a0 y2) ([],0)).bind λy3 =>
some (y3,true)
def mP (s1:(List Int)×Int):Option (((List Int)×Int)⊕((List Int))):=
sel (decide (s1.2<12)) ((app 8 s1.1 [s1.2]).bind λr1 =>
some (.inl (r1,w64 (s1.2+1)))) <|
some (.inr s1.1)
def jk:Option ((List Int)):=
(bB (mP) ([],0)).bind λy1 =>
some y1
def eh (a0:ah):Option (Int):=
(fh a0 600).bind λy1 =>
sel (!y1) (some (-1)) <|
(sel (a0.Op==1) (some (a0.Op==1)) <|
sel (a0.Op==2) (some (a0.Op==2)) <|
sel (a0.Op==3) (some (a0.Op==3)) <|
some (a0.Op==7):Option (Bool)).bind λy2 =>
sel y2 (some a0.Dst) <|
some (-1)
def lQ (y1:Int) (s1:Int×(List Int)):Option ((Int×(List Int))⊕((List Int))):=
sel (decide (s1.1<12)) (((nth s1.2 s1.1).bind λx1 =>
sel (x1==y1) ((nth s1.2 s1.1).bind λx2 =>
(upd s1.2 s1.1 s1.1).bind λr2 =>
some r2) <|
some s1.2:Option ((List Int))).bind λy5 =>
some (.inl (w64 (s1.1+1),y5))) <|
some (.inr s1.2)
def jN (a0:ah) (a1:List Int):Option ((List Int)):=
(app 8 [] a1).bind λr1 =>
(eh a0).bind λy1 =>
sel (decide (y1<0)) (some r1) <|
(bB (lQ y1) (0,r1)).bind λy2 =>
(nth y2 y1).bind λx3 =>
(upd y2 y1 y1).bind λr3 =>
sel (a0.Op==2) ((nth r3 y1).bind λx4 =>
(upd r3 y1 a0.A).bind λr4 =>
some r4) <|
some r3
def lR (a1:Int) (a2:List Int) (s1:Bool×Int×(List (List Int))):Option ((Bool×Int×(List (List Int)))⊕(Bool×(List (List Int)))):=
sel (decide (s1.2.1<12)) (((nth s1.2.2 a1).bind λx2 =>
(nth x2 s1.2.1).bind λx6 =>
(sel (x6 !=s1.2.1) ((nth x2 s1.2.1).bind λb_1=>(nth a2 s1.2.1).bind λb_2=>some (b_1 !=b_2)) (some false)).bind λb2 =>
sel b2 ((nth s1.2.2 a1).bind λx9 =>
(nth x9 s1.2.1).bind λx10 =>
(upd x9 s1.2.1 s1.2.1).bind λr2 =>
some (true,(s1.2.2.set (Int.toNat a1) r2))) <|
some (s1.1,s1.2.2):Option (Bool×(List (List Int)))).bind λy4 =>
some (.inl (y4.1,w64 (s1.2.1+1),y4.2))) <|
some (.inr (s1.1,s1.2.2))
def jO (a0:List (List Int)) (a1:Int) (a2:List Int):Option (Bool×(List (List Int))):=
(nth a0 a1).bind λx1 =>
sel ((x1.length:Int)==0) ((app 8 [] a2).bind λr1 =>
some (true,(a0.set (Int.toNat a1) r1))) <|
(bB (lR a1 a2) (false,0,a0)).bind λy1 =>
some (y1.1,y1.2)
def lS (y5:(List Int)) (y6:(List Int)) (s2:Bool×Int×(List (List Int))):Option ((Bool×Int×(List (List Int)))⊕(Bool×(List (List Int)))):=
sel (decide (s2.2.1<(y5.length:Int))) (((nth y5 s2.2.1).bind λx3 =>
(jO s2.2.2 x3 y6).bind λy11 =>
sel y11.1 (some (true,y11.2)) <|
some (s2.1,y11.2):Option (Bool×(List (List Int)))).bind λy10 =>
some (.inl (y10.1,w64 (s2.2.1+1),y10.2))) <|
some (.inr (s2.1,s2.2.2))
def lU (a0:List ah) (s1:Bool×Int×(List (List Int))):Option ((Bool×Int×(List (List Int)))⊕(Bool×(List (List Int)))):=
sel (decide (s1.2.1<(a0.length:Int))) (((nth s1.2.2 s1.2.1).bind λx1 =>
sel ((x1.length:Int)==0) (some (s1.1,s1.2.2)) <|
(eg a0 s1.2.1).bind λy5 =>
(nth a0 s1.2.1).bind λx2 =>
(jN x2 x1).bind λy6 =>
(bB (lS y5 y6) (s1.1,0,s1.2.2)).bind λy7 =>
some (y7.1,y7.2):Option (Bool×(List (List Int)))).bind λy4 =>
some (.inl (y4.1,w64 (s1.2.1+1),y4.2))) <|
some (.inr (s1.1,s1.2.2))
def jP (a0:List ah) (a1:List (List Int)):Option (Bool×(List (List Int))):=
(bB (lU a0) (false,0,a1)).bind λy1 =>
some (y1.1,y1.2)
def lV (a0:List ah) (s1:(List (List Int))×Int):Option (((List (List Int))×Int)⊕((List (List Int)))):=
sel (decide (s1.2<(a0.length:Int))) ((app 24 s1.1 [[]]).bind λr1 =>
some (.inl (r1,w64 (s1.2+1)))) <|
some (.inr s1.1)
def lW (a0:List ah) (s2:(List (List Int))):Option (((List (List Int)))⊕((List (List Int)))):=
(jP a0 s2).bind λy9 =>
sel y9.1 (some (.inl y9.2)) <|
some (.inr y9.2)
def lX (a0:List ah) (s3:Int×(List (List Int))):Option ((Int×(List (List Int)))⊕((List (List Int)))):=
sel (decide (s3.1<(a0.length:Int))) (((nth s3.2 s3.1).bind λx2 =>
sel ((x2.length:Int)==0) ((jk).bind λy14 =>
some (s3.2.set (Int.toNat s3.1) y14)) <|
some s3.2:Option ((List (List Int)))).bind λy13 =>
some (.inl (w64 (s3.1+1),y13))) <|
some (.inr s3.2)
def jQ (a0:List ah):Option ((List (List Int))):=
(bP a0).bind λy1 =>
sel (!y1) (some []) <|
(bB (lV a0) ([],0)).bind λy2 =>
(jk).bind λy5 =>
(nth y2 0).bind λx1 =>
(bB (lW a0) (y2.set (Int.toNat 0) y5)).bind λy6 =>
(bB (lX a0) (0,y6)).bind λy10 =>
some y10
def kO (a0:ah) (a1:List Int):Option (ah):=
(sel (a0.Op==2) (some (a0.Op==2)) <|
sel (a0.Op==5) (some (a0.Op==5)) <|
sel (a0.Op==6) (some (a0.Op==6)) <|
some (a0.Op==9):Option (Bool)).bind λy1 =>
sel y1 ((nth a1 a0.A).bind λx1 =>
some (ah.mk a0.Op a0.Dst x1 a0.B a0.N)) <|
sel (a0.Op==3) ((nth a1 a0.A).bind λx2 =>
(nth a1 a0.B).bind λx3 =>
some (ah.mk a0.Op a0.Dst x2 x3 a0.N)) <|
some a0
def jl (a0:List ah) (y2:(List (List Int))) (s1:(List ah)×Int):Option (((List ah)×Int)⊕((List ah))):=
sel (decide (s1.2<(a0.length:Int))) ((nth y2 s1.2).bind λx1 =>
(nth a0 s1.2).bind λx3 =>
(kO x3 x1).bind λy7 =>
(app 40 s1.1 [y7]).bind λr2 =>
some (.inl (r2,w64 (s1.2+1)))) <|
some (.inr s1.1)
def jR (a0:List ah):Option ((List ah)×Bool):=
(bP a0).bind λy1 =>
sel (!y1) (some ([],false)) <|
(jQ a0).bind λy2 =>
(bB (jl a0 y2) ([],0)).bind λy3 =>
some (y3,true)
def kP (a0:List ah) (s1:Int×Int):Option ((Int×Int)⊕(Int⊕Unit)):=
sel (decide (s1.2<(a0.length:Int))) ((nth a0 s1.1).bind λx1 =>
sel (x1.Op !=4) (some (.inr (.inl s1.1))) <|
(nth a0 s1.1).bind λx2 =>
some (.inl (x2.N,w64 (s1.2+1)))) <|
some (.inr (.inr ()))
def iW (a0:List ah) (a1:Int):Option (Int):=
(bB (kP a0) (a1,0)).bind λy1 =>
fu y1 (λo3=>some o3) (λo4 =>
some a1)
def jm (a0:List ah) (s1:(List ah)×Int):Option (((List ah)×Int)⊕((List ah))):=
sel (decide (s1.2<(a0.length:Int))) ((nth a0 s1.2).bind λx1 =>
(sel ((x1.Op==4)||(x1.Op==5)) ((iW a0 x1.N).bind λy6 =>
some (ah.mk x1.Op x1.Dst x1.A x1.B y6)) <|
some x1:Option (ah)).bind λy5 =>
(app 40 s1.1 [y5]).bind λr1 =>
some (.inl (r1,w64 (s1.2+1)))) <|
some (.inr s1.1)
def jS (a0:List ah):Option ((List ah)×Bool):=
(bP a0).bind λy1 =>
sel (!y1) (some ([],false)) <|
(bB (jm a0) ([],0)).bind λy2 =>
some (y2,true)
def lY (a1:List (List Bool)) (y1:(List Int)) (s1:Int×(List Bool)) (s2:Int×(List Bool)):Option ((Int×(List Bool))⊕((List Bool))):=
sel (decide (s2.1<12)) ((nth s2.2 s2.1).bind λx1 =>
(sel x1 (some true) ((nth y1 s1.1).bind λx2=>(nth a1 x2).bind λx3=>(nth x3 s2.1).bind λx4=>some x4):Option (Bool)).bind λb1 =>
(nth s2.2 s2.1).bind λx5 =>
(upd s2.2 s2.1 b1).bind λr2 =>
some (.inl (w64 (s2.1+1),r2))) <|
some (.inr s2.2)
def lZ (a1:List (List Bool)) (y1:(List Int)) (s1:Int×(List Bool)):Option ((Int×(List Bool))⊕((List Bool))):=
sel (decide (s1.1<(y1.length:Int))) ((bB (lY a1 y1 s1) (0,s1.2)).bind λy5 =>
some (.inl (w64 (s1.1+1),y5))) <|
some (.inr s1.2)
def ie (a0:List ah) (a1:List (List Bool)) (a2:Int):Option ((List Bool)):=
(mk 1 12 false).bind λr1 =>
(eg a0 a2).bind λy1 =>
(bB (lZ a1 y1) (0,r1)).bind λy2 =>
some y2
def jT (a0:ah):Option ((List Int)):=
(fh a0 600).bind λy1 =>
sel (!y1) (some []) <|
(sel (a0.Op==2) (some (a0.Op==2)) <|
sel (a0.Op==5) (some (a0.Op==5)) <|
sel (a0.Op==6) (some (a0.Op==6)) <|
some (a0.Op==9):Option (Bool)).bind λy2 =>
sel y2 (some [a0.A]) <|
sel (a0.Op==3) (sel (a0.A==a0.B) (some [a0.A]) <|
some [min a0.A a0.B,max a0.A a0.B]) <|
some []
def kQ (y4:(List Int)) (s1:Int×(List Bool)):Option ((Int×(List Bool))⊕((List Bool))):=
sel (decide (s1.1<(y4.length:Int))) ((nth y4 s1.1).bind λx2 =>
(nth s1.2 x2).bind λx3 =>
(upd s1.2 x2 true).bind λr3 =>
some (.inl (w64 (s1.1+1),r3))) <|
some (.inr s1.2)
def iX (a0:ah) (a1:List Bool):Option ((List Bool)):=
(app 1 [] a1).bind λr1 =>
((eh a0).bind λy2 =>
sel (decide (y2>=0)) ((eh a0).bind λy3 =>
(nth r1 y3).bind λx1 =>
(upd r1 y3 false).bind λr2 =>
some r2) <|
some r1:Option ((List Bool))).bind λy1 =>
(jT a0).bind λy4 =>
(bB (kQ y4) (0,y1)).bind λy5 =>
some y5
def mQ (a0:List Bool) (a1:List Bool) (s1:Int):Option (Int⊕(Bool⊕Unit)):=
sel (decide (s1<(a0.length:Int))) ((nth a0 s1).bind λx1 =>
(nth a1 s1).bind λx2 =>
sel (x1 !=x2) (some (.inr (.inl false))) <|
some (.inl (w64 (s1+1)))) <|
some (.inr (.inr ()))
def kR (a0:List Bool) (a1:List Bool):Option (Bool):=
(bB (mQ a0 a1) 0).bind λy1 =>
fu y1 (λo3=>some o3) (λo4 =>
some ((a0.length:Int)==(a1.length:Int)))
def l9 (a0:List ah) (s1:Bool×Int×(List (List Bool))):Option ((Bool×Int×(List (List Bool)))⊕(Bool×(List (List Bool)))):=
sel (decide (s1.2.1>=0)) (((nth a0 s1.2.1).bind λx1 =>
(ie a0 s1.2.2 s1.2.1).bind λy5 =>
(iX x1 y5).bind λy6 =>
(nth s1.2.2 s1.2.1).bind λx2 =>
(kR y6 x2).bind λy7 =>
sel (!y7) (some (true,(s1.2.2.set (Int.toNat s1.2.1) y6))) <|
some (s1.1,s1.2.2):Option (Bool×(List (List Bool)))).bind λy4 =>
some (.inl (y4.1,w64 (s1.2.1-1),y4.2))) <|
some (.inr (s1.1,s1.2.2))
def jU (a0:List ah) (a1:List (List Bool)):Option (Bool×(List (List Bool))):=
(bB (l9 a0) (false,w64 ((a0.length:Int)-1),a1)).bind λy1 =>
some (y1.1,y1.2)
def nl (a0:List ah) (s1:(List (List Bool))×Int):Option (((List (List Bool))×Int)⊕((List (List Bool)))):=
sel (decide (s1.2<(a0.length:Int))) ((mk 1 12 false).bind λr1 =>
(app 24 s1.1 [r1]).bind λr2 =>
some (.inl (r2,w64 (s1.2+1)))) <|
some (.inr s1.1)
def nm (a0:List ah) (s2:(List (List Bool))):Option (((List (List Bool)))⊕((List (List Bool)))):=
(jU a0 s2).bind λy8 =>
sel y8.1 (some (.inl y8.2)) <|
some (.inr y8.2)
def mF (a0:List ah):Option ((List (List Bool))):=
(bP a0).bind λy1 =>
sel (!y1) (some []) <|
(bB (nl a0) ([],0)).bind λy2 =>
(bB (nm a0) y2).bind λy5 =>
some y5
def kS (a0:ah) (a1:List Bool):Option (Bool):=
(sel (a0.Op==1) (some (a0.Op==1)) <|
sel (a0.Op==2) (some (a0.Op==2)) <|
some (a0.Op==3):Option (Bool)).bind λy1 =>
sel y1 ((nth a1 a0.Dst).bind λx1 =>
some (!x1)) <|
some false
def jn (a0:List ah) (y2:(List (List Bool))) (s1:(List ah)×Int):Option (((List ah)×Int)⊕((List ah))):=
sel (decide (s1.2<(a0.length:Int))) ((nth a0 s1.2).bind λx1 =>
((ie a0 y2 s1.2).bind λy7 =>
(kS x1 y7).bind λy8 =>
sel y8 (some (ah.mk 4 0 0 0 (w64 (s1.2+1)))) <|
some x1:Option (ah)).bind λy6 =>
(app 40 s1.1 [y6]).bind λr1 =>
some (.inl (r1,w64 (s1.2+1)))) <|
some (.inr s1.1)
def jV (a0:List ah):Option ((List ah)×Bool):=
(bP a0).bind λy1 =>
sel (!y1) (some ([],false)) <|
(mF a0).bind λy2 =>
(bB (jn a0 y2) ([],0)).bind λy3 =>
some (y3,true)
def kT (y5:(List Int)) (s2:Bool×Int×(List Bool)):Option ((Bool×Int×(List Bool))⊕(Bool×(List Bool))):=
sel (decide (s2.2.1<(y5.length:Int))) (((nth y5 s2.2.1).bind λx2 =>
(nth s2.2.2 x2).bind λx3 =>
sel (!x3) ((nth y5 s2.2.1).bind λx4 =>
(nth s2.2.2 x4).bind λx5 =>
(upd s2.2.2 x4 true).bind λr1 =>
some (true,r1)) <|
some (s2.1,s2.2.2):Option (Bool×(List Bool))).bind λy9 =>
some (.inl (y9.1,w64 (s2.2.1+1),y9.2))) <|
some (.inr (s2.1,s2.2.2))
def kU (a0:List ah) (s1:Bool×Int×(List Bool)):Option ((Bool×Int×(List Bool))⊕(Bool×(List Bool))):=
sel (decide (s1.2.1<(a0.length:Int))) (((nth s1.2.2 s1.2.1).bind λx1 =>
sel (!x1) (some (s1.1,s1.2.2)) <|
(eg a0 s1.2.1).bind λy5 =>
(bB (kT y5) (s1.1,0,s1.2.2)).bind λy6 =>
some (y6.1,y6.2):Option (Bool×(List Bool))).bind λy4 =>
some (.inl (y4.1,w64 (s1.2.1+1),y4.2))) <|
some (.inr (s1.1,s1.2.2))
def iY (a0:List ah) (a1:List Bool):Option (Bool×(List Bool)):=
(bB (kU a0) (false,0,a1)).bind λy1 =>
some (y1.1,y1.2)
def kV (a0:List ah) (s1:(List Bool)):Option (((List Bool))⊕((List Bool))):=
(iY a0 s1).bind λy5 =>
sel y5.1 (some (.inl y5.2)) <|
some (.inr y5.2)
def iZ (a0:List ah):Option ((List Bool)):=
(bP a0).bind λy1 =>
sel (!y1) (some []) <|
(mk 1 (a0.length:Int) false).bind λr1 =>
(nth r1 0).bind λx1 =>
(upd r1 0 true).bind λr2 =>
(bB (kV a0) r2).bind λy2 =>
some y2
def kW (a0:ah) (a1:Int):Option (Bool):=
(sel (a0.Op==4) (some (a0.Op==4)) <|
some (a0.Op==5):Option (Bool)).bind λy1 =>
sel y1 (some (a0.N==(w64 (a1+1)))) <|
sel (a0.Op==2) (some (a0.Dst==a0.A)) <|
some false
def ma (a0:List Bool) (a1:Int) (s1:Int×Int):Option ((Int×Int)⊕Int):=
sel (decide (s1.2<a1)) (((nth a0 s1.2).bind λx1 =>
sel x1 (some (w64 (s1.1+1))) <|
some s1.1:Option (Int)).bind λy4 =>
some (.inl (y4,w64 (s1.2+1)))) <|
some (.inr s1.1)
def jW (a0:List Bool) (a1:Int):Option (Int):=
(bB (ma a0 a1) (0,0)).bind λy1 =>
some y1
def jD (a0:List ah) (s1:Int×(List Bool)):Option ((Int×(List Bool))⊕((List Bool))):=
sel (decide (s1.1<(a0.length:Int))) ((nth s1.2 s1.1).bind λx1 =>
(sel x1 ((nth a0 s1.1).bind λx2=>(kW x2 s1.1).bind λy6=>some (!y6)) (some false):Option (Bool)).bind λb1 =>
(nth s1.2 s1.1).bind λx3 =>
(upd s1.2 s1.1 b1).bind λr1 =>
some (.inl (w64 (s1.1+1),r1))) <|
some (.inr s1.2)
def jE (a0:List ah) (y3:(List Bool)) (s2:(List ah)×Int):Option (((List ah)×Int)⊕((List ah))):=
sel (decide (s2.2<(a0.length:Int))) (((nth a0 s2.2).bind λx4 =>
(nth y3 s2.2).bind λx5 =>
sel (!x5) (some s2.1) <|
(sel ((x4.Op==4)||(x4.Op==5)) ((jW y3 x4.N).bind λy12 =>
some (ah.mk x4.Op x4.Dst x4.A x4.B y12)) <|
some x4:Option (ah)).bind λy11 =>
(app 40 s2.1 [y11]).bind λr2 =>
some r2:Option ((List ah))).bind λy10 =>
some (.inl (y10,w64 (s2.2+1)))) <|
some (.inr s2.1)
def gn (a0:List ah):Option ((List ah)×Bool):=
(bP a0).bind λy1 =>
sel (!y1) (some ([],false)) <|
(iZ a0).bind λy2 =>
(bB (jD a0) (0,y2)).bind λy3 =>
(bB (jE a0 y3) ([],0)).bind λy7 =>
some (y7,true)
def kX (a0:List ah):Option ((List ah)):=
(jM a0).bind λy1 =>
(jR y1.1).bind λy2 =>
(jS y2.1).bind λy3 =>
(jV y3.1).bind λy4 =>
(gn y4.1).bind λy5 =>
some y5.1
def i3 (a1:Int) (s1:(List ah)×Int):Option (((List ah)×Int)⊕((List ah))):=
sel (decide (s1.2<a1)) ((kX s1.1).bind λy6 =>
some (.inl (y6,w64 (s1.2+1)))) <|
some (.inr s1.1)
def fP (a0:List ah) (a1:Int):Option ((List ah)×Bool):=
(bP a0).bind λy1 =>
(sel (!y1) (some true) ((aE a1 0 4).bind λy2=>some (!y2)):Option (Bool)).bind λb1 =>
sel b1 (some ([],false)) <|
(app 40 [] a0).bind λr1 =>
(bB (i3 a1) (r1,0)).bind λy3 =>
some (y3,true)
def kY (k:Nat) (a0:aP):Option ((List ah)×Int):=
(ar (aP.mk a0.b a0.p) 2).bind λy1 =>
sel (y1.1==0) ((gi (aP.mk a0.b y1.2)).bind λy2 =>
some (y2.1,y2.2)) <|
(jH k (aP.mk a0.b y1.2) 2).bind λy3 =>
(gl k y3.1).bind λy4 =>
sel (decide ((y4.1.length:Int)>40)) ((gi (aP.mk a0.b y3.2)).bind λy5 =>
some (y5.1,y5.2)) <|
(ar (aP.mk a0.b y3.2) 3).bind λy6 =>
(fP y4.1 (w64 (Int.tdiv y6.1 2))).bind λy7 =>
some (y7.1,y6.2)
def mb (a0:aP) (k:Nat) (y1:Int×Int) (s1:(List (List ah))×Int×Int):Option (((List (List ah))×Int×Int)⊕((List (List ah))×Int)):=
sel (decide (s1.2.1<(w64 (1+y1.1)))) ((kY k (aP.mk a0.b s1.2.2)).bind λy5 =>
(app 24 s1.1 [y5.1]).bind λr1 =>
some (.inl (r1,w64 (s1.2.1+1),y5.2))) <|
some (.inr (s1.1,s1.2.2))
def jX (k:Nat) (a0:aP):Option ((List (List ah))×Int):=
(ar (aP.mk a0.b a0.p) 3).bind λy1 =>
(bB (mb a0 k y1) ([],0,y1.2)).bind λy2 =>
some (y2.1,y2.2)
def fQ (a0:Int) (a1:Int) (a2:Int):Option (Int):=
sel (decide (a0>=a1)) (some a2) <|
(nth [8,9,18,19,20,21,22,23] a0).bind λx1 =>
some x1
def ig (a0:List Instr) (a1:Int) (a2:Int):Option ((List Instr)):=
sel (decide (a1<a2)) (some a0) <|
(app 40 a0 [(Instr.mk 16 0 2 7 (w64 (4*(w64 (a1-a2)))))]).bind λr1 =>
some r1
def gY (a0:Int) (s1:Int×Int):Option ((Int×Int)⊕Int):=
sel (decide (s1.2<a0)) (some (.inl (w64 (s1.1*2),w64 (s1.2+1)))) <|
some (.inr s1.1)
def dn (a0:Int):Option (Int):=
(bB (gY a0) (1,0)).bind λy1 =>
some y1
def bg (a0:Int) (a1:Int) (a2:Int):Option (Int):=
(aE a0 0 4294967295).bind λy1 =>
(sel (!y1) (some true) ((aE a1 0 31).bind λy2=>some (!y2)):Option (Bool)).bind λb1 =>
(sel b1 (some true) ((aE a2 1 (w64 (32-a1))).bind λy3=>some (!y3)):Option (Bool)).bind λb2 =>
sel b2 (some 0) <|
(dn a1).bind λy4 =>
(rM .i64 a0 y4).bind λd1 =>
(dn a2).bind λy5 =>
(ox d1 y5).bind λd2 =>
some d2
def dF (a0:Int) (a1:Int):Option (Int):=
(aE a1 1 32).bind λy1 =>
(sel (!y1) (some true) ((dn a1).bind λy2=>(aE a0 0 (w64 (y2-1))).bind λy3=>some (!y3)):Option (Bool)).bind λb1 =>
sel b1 (some 0) <|
(dn (w64 (a1-1))).bind λy4 =>
sel (decide (a0>=y4)) ((dn a1).bind λy5 =>
some (w64 (a0-y5))) <|
some a0
def ei (a0:Int):Option (Int):=
(cM a0).bind λy1 =>
sel (!y1) (some (-1)) <|
sel (decide (a0<0)) (some (w64 (a0+4294967296))) <|
some a0
def ob (a0:Int) (a1:Int):Option ((List Instr)):=
(aE a1 (-2048) 2047).bind λy1 =>
sel y1 (some [(Instr.mk 12 a0 0 0 a1)]) <|
(ei a1).bind λy2 =>
(bg y2 0 12).bind λy3 =>
(dF y3 12).bind λy4 =>
(cn (w64 (a1-y4))).bind λy5 =>
(ei y5).bind λy6 =>
(bg y6 12 20).bind λy7 =>
(app 40 [(Instr.mk 19 a0 0 0 y7)] [(Instr.mk 12 a0 a0 0 y4)]).bind λr1 =>
some r1
def gO (a0:Int) (a1:Int) (a2:Int):Option ((List Instr)):=
sel (decide (a0<a1)) (some []) <|
some [(Instr.mk 14 a2 2 0 (w64 (4*(w64 (a0-a1)))))]
def jo (a0:Int) (a1:Int):Option (Instr):=
some (Instr.mk 12 a0 a1 0 0)
def ro (a0:Int):Option (Int):=
(nth [7,8,6,8,11,9,10,1,2,3,4,5] (w64 (a0-1))).bind λx1 =>
some x1
def ub (a0:ah) (a1:Int):Option ((List Instr)):=
(gO a0.A a1 5).bind λy1 =>
(gO a0.B a1 6).bind λy2 =>
(app 40 y1 y2).bind λr1 =>
(fQ a0.Dst a1 7).bind λy3 =>
(ro a0.N).bind λy4 =>
(fQ a0.A a1 5).bind λy5 =>
(fQ a0.B a1 6).bind λy6 =>
(app 40 r1 [(Instr.mk y4 y3 y5 y6 0)]).bind λr2 =>
(sel (a0.N==4) ((app 40 r2 [(Instr.mk 13 y3 y3 0 1)]).bind λr3 =>
some r3) <|
some r2:Option ((List Instr))).bind λy7 =>
(ig y7 a0.Dst a1).bind λy8 =>
some y8
def rP (a0:ah) (a1:Int) (a2:Int):Option ((List Instr)):=
(gO a0.A a1 5).bind λy1 =>
(fQ a0.A a1 5).bind λy2 =>
(app 40 y1 [(Instr.mk 18 0 y2 0 8)]).bind λr1 =>
(app 40 r1 [(Instr.mk 20 0 0 0 (w64 (a2-(w64 (4*(r1.length:Int))))))]).bind λr2 =>
some r2
def gP (a0:List Instr) (a1:Int):Option ((List Instr)):=
(app 40 a0 [(Instr.mk 12 17 0 0 a1)]).bind λr1 =>
(app 40 r1 [(Instr.mk 15 1 0 0 0)]).bind λr2 =>
some r2
def mX (a0:Int) (a1:Int):Option ((List Instr)):=
(gO a0 a1 5).bind λy1 =>
(fQ a0 a1 5).bind λy2 =>
(jo 10 y2).bind λy3 =>
(app 40 y1 [y3]).bind λr1 =>
some r1
def nS (a0:Int):Option (Instr):=
some (Instr.mk 12 11 0 0 a0)
def pa (a0:ah) (a1:Int) (a2:Int):Option ((List Instr)):=
(fQ a0.Dst a1 7).bind λy1 =>
sel (a0.Op==1) ((ob y1 a0.N).bind λy2 =>
(ig y2 a0.Dst a1).bind λy3 =>
some y3) <|
sel (a0.Op==2) ((gO a0.A a1 5).bind λy4 =>
(fQ a0.A a1 5).bind λy5 =>
(jo y1 y5).bind λy6 =>
(app 40 y4 [y6]).bind λr1 =>
(ig r1 a0.Dst a1).bind λy7 =>
some y7) <|
sel (a0.Op==3) ((ub a0 a1).bind λy8 =>
some y8) <|
sel (a0.Op==4) (some [(Instr.mk 20 0 0 0 a2)]) <|
sel (a0.Op==5) ((rP a0 a1 a2).bind λy9 =>
some y9) <|
sel (a0.Op==6) ((mX a0.A a1).bind λy10 =>
(nS a0.N).bind λy11 =>
(app 40 y10 [y11]).bind λr2 =>
(gP r2 1).bind λy12 =>
some y12) <|
sel (a0.Op==7) ((nS a0.N).bind λy13 =>
(gP [y13] 2).bind λy14 =>
(jo y1 10).bind λy15 =>
(app 40 y14 [y15]).bind λr3 =>
(ig r3 a0.Dst a1).bind λy16 =>
some y16) <|
sel (a0.Op==8) ((gP [] 3).bind λy17 =>
some y17) <|
sel (a0.Op==9) ((mX a0.A a1).bind λy18 =>
(gP y18 4).bind λy19 =>
some y19) <|
(gP [] 5).bind λy20 =>
some y20
def nT (a0:List ah) (a1:Int) (s1:(List Int)×Int×Int):Option (((List Int)×Int×Int)⊕((List Int))):=
sel (decide (s1.2.2<(a0.length:Int))) ((app 8 s1.1 [s1.2.1]).bind λr1 =>
(nth a0 s1.2.2).bind λx1 =>
(pa x1 a1 0).bind λy4 =>
some (.inl (r1,w64 (s1.2.1+(y4.length:Int)),w64 (s1.2.2+1)))) <|
some (.inr s1.1)
def pP (a0:List ah) (a1:Int):Option ((List Int)):=
(bB (nT a0 a1) ([],0,0)).bind λy1 =>
some y1
def dZ (a0:List Int) (s1:Int):Option (Int⊕(Bool⊕Unit)):=
sel (decide (s1<(a0.length:Int))) ((nth a0 s1).bind λx1 =>
sel ((decide (x1<1))||(decide (x1>4))) (some (.inr (.inl false))) <|
some (.inl (w64 (s1+1)))) <|
some (.inr (.inr ()))
def fx (a0:List Int):Option (Bool):=
(bB (dZ a0) 0).bind λy1 =>
fu y1 (λo3=>some o3) (λo4 =>
some (decide ((a0.length:Int)<=3)))
def bW (a0:Int):Option (Int):=
sel ((decide (a0>=1))&&(decide (a0<=11))) (some 82) <|
sel ((decide (a0>=12))&&(decide (a0<=15))) (some 73) <|
sel (a0==16) (some 83) <|
sel ((a0==17)||(a0==18)) (some 66) <|
sel (a0==19) (some 85) <|
sel (a0==20) (some 74) <|
sel (a0==21) (some 69) <|
some 32
def cX (a0:Int):Option (Bool):=
some ((decide (a0>=0))&&(decide (a0<32)))
def bA (a0:Instr):Option (Bool):=
(cX a0.Rd).bind λy1 =>
(cX a0.Rs).bind λy2 =>
(cX a0.Rt).bind λy3 =>
(bW a0.Op).bind λy4 =>
sel (y4==82) (some (((y1&&y2)&&y3)&&(a0.Imm==0))) <|
sel (y4==73) (some (((y1&&y2)&&(a0.Rt==0))&&((decide (a0.Imm>=(-2048)))&&(decide (a0.Imm<=2047))))) <|
sel (y4==83) (some ((((a0.Rd==0)&&y2)&&y3)&&((decide (a0.Imm>=(-2048)))&&(decide (a0.Imm<=2047))))) <|
sel (y4==66) (some ((((((a0.Rd==0)&&y2)&&y3)&&(decide (a0.Imm>=(-4096))))&&(decide (a0.Imm<=4094)))&&((Int.tmod a0.Imm 2)==0))) <|
sel (y4==85) (some ((((y1&&(a0.Rs==0))&&(a0.Rt==0))&&(decide (a0.Imm>=0)))&&(decide (a0.Imm<=1048575)))) <|
sel (y4==74) (some (((((y1&&(a0.Rs==0))&&(a0.Rt==0))&&(decide (a0.Imm>=(-1048576))))&&(decide (a0.Imm<=1048574)))&&((Int.tmod a0.Imm 2)==0))) <|
sel (y4==69) (some ((a0.Op==21)&&((a0.Rd==0)&&((a0.Rs==0)&&((a0.Rt==0)&&((a0.Imm==0)&&true)))))) <|
some false
def da (a0:Int):Option (Bool):=
some ((decide (a0>=(-2147483648)))&&(decide (a0<=2147483647)))
def ch (a0:Int):Option (Int):=
(da a0).bind λy1 =>
sel (!y1) (some (-1)) <|
some (w64 (km .u32 (a0)))
def eD (a0:Int):Option (Bool):=
some ((decide (a0>=0))&&(decide (a0<4294967296)))
def bL (a0:Int) (a1:Int) (a2:Int):Option (Int):=
(eD a0).bind λy1 =>
sel (((((!y1)||(decide (a1<0)))||(decide (a1>31)))||(decide (a2<1)))||(decide (a2>(w64 (32-a1))))) (some 0) <|
(shO .shr .i64 a0 a1).bind λd1 =>
(shO .shl .i64 1 a2).bind λd2 =>
some (aG .and .i64 d1 (w64 (d2-1)))
def az (a0:Int) (a1:Int) (a2:Int) (a3:Int):Option (Int):=
(bL a3 a0 a1).bind λy1 =>
(shO .shl .i64 y1 a2).bind λd1 =>
some d1
def co (a0:Instr):Option (Int×Bool):=
(bA a0).bind λy1 =>
sel (!y1) (some (0,false)) <|
(nth lH (w64 (a0.Op-1))).bind λx1 =>
(ch a0.Imm).bind λy2 =>
(bW a0.Op).bind λy3 =>
sel (y3==82) (some (aG .or .i64 (aG .or .i64 (w64 (x1.funct7*2^(min 25 (IntKind.bits .i64)))) (aG .or .i64 (aG .or .i64 (aG .or .i64 (w64 (a0.Rt*2^(min 20 (IntKind.bits .i64)))) (w64 (a0.Rs*2^(min 15 (IntKind.bits .i64))))) (w64 (x1.funct3*2^(min 12 (IntKind.bits .i64))))) x1.opcode)) (w64 (a0.Rd*2^(min 7 (IntKind.bits .i64)))),true)) <|
sel (y3==73) ((az 0 12 20 y2).bind λy4 =>
some (aG .or .i64 (aG .or .i64 y4 (aG .or .i64 (aG .or .i64 (aG .or .i64 (w64 (a0.Rt*2^(min 20 (IntKind.bits .i64)))) (w64 (a0.Rs*2^(min 15 (IntKind.bits .i64))))) (w64 (x1.funct3*2^(min 12 (IntKind.bits .i64))))) x1.opcode)) (w64 (a0.Rd*2^(min 7 (IntKind.bits .i64)))),true)) <|
sel (y3==83) ((az 5 7 25 y2).bind λy5 =>
(az 0 5 7 y2).bind λy6 =>
some (aG .or .i64 (aG .or .i64 y5 (aG .or .i64 (aG .or .i64 (aG .or .i64 (w64 (a0.Rt*2^(min 20 (IntKind.bits .i64)))) (w64 (a0.Rs*2^(min 15 (IntKind.bits .i64))))) (w64 (x1.funct3*2^(min 12 (IntKind.bits .i64))))) x1.opcode)) y6,true)) <|
sel (y3==66) ((az 12 1 31 y2).bind λy7 =>
(az 5 6 25 y2).bind λy8 =>
(az 1 4 8 y2).bind λy9 =>
(az 11 1 7 y2).bind λy10 =>
some (aG .or .i64 (aG .or .i64 (aG .or .i64 (aG .or .i64 y7 y8) (aG .or .i64 (aG .or .i64 (aG .or .i64 (w64 (a0.Rt*2^(min 20 (IntKind.bits .i64)))) (w64 (a0.Rs*2^(min 15 (IntKind.bits .i64))))) (w64 (x1.funct3*2^(min 12 (IntKind.bits .i64))))) x1.opcode)) y9) y10,true)) <|
sel (y3==85) ((az 0 20 12 y2).bind λy11 =>
some (aG .or .i64 (aG .or .i64 y11 (w64 (a0.Rd*2^(min 7 (IntKind.bits .i64))))) x1.opcode,true)) <|
sel (y3==74) ((az 20 1 31 y2).bind λy12 =>
(az 1 10 21 y2).bind λy13 =>
(az 11 1 20 y2).bind λy14 =>
(az 12 8 12 y2).bind λy15 =>
some (aG .or .i64 (aG .or .i64 (aG .or .i64 (aG .or .i64 (aG .or .i64 y12 y13) y14) y15) (w64 (a0.Rd*2^(min 7 (IntKind.bits .i64))))) x1.opcode,true)) <|
some (x1.opcode,true)
def bR (a0:Int):Option (Int):=
some (w64 (km .i32 (a0)))
def fy (a0:List Instr) (s1:(List Int)×Int):Option (((List Int)×Int)⊕(((List Int)×Bool)⊕((List Int)))):=
sel (decide (s1.2<(a0.length:Int))) ((nth a0 s1.2).bind λx1 =>
(co x1).bind λy4 =>
sel (!y4.2) (some (.inr (.inl ([],false)))) <|
(bR y4.1).bind λy5 =>
(app 8 s1.1 [y5]).bind λr1 =>
some (.inl (r1,w64 (s1.2+1)))) <|
some (.inr (.inr s1.1))
def kZ (a0:List Instr):Option ((List Int)×Bool):=
(bB (fy a0) ([],0)).bind λy1 =>
fu y1 (λo3=>some o3) (λo4 =>
some (o4,true))
def d6 (a0:Int) (a1:Int) (a2:Int):Option (Instr):=
some (Instr.mk 12 a0 a1 0 a2)
def bS (a0:List Int) (s1:Int):Option (Int⊕(Bool⊕Unit)):=
sel (decide (s1<(a0.length:Int))) ((nth a0 s1).bind λx1 =>
(aE x1 1 4).bind λy4 =>
sel (!y4) (some (.inr (.inl false))) <|
some (.inl (w64 (s1+1)))) <|
some (.inr (.inr ()))
def dP (a0:List Int):Option (Bool):=
(bB (bS a0) 0).bind λy1 =>
fu y1 (λo3=>some o3) (λo4 =>
some (decide ((a0.length:Int)<=3)))
def eN (a0:Instr) (a1:Int) (a2:Int) (a3:Int):Option (Bool):=
(aE a0.Rd 0 (w64 (a1*31))).bind λy1 =>
(sel y1 ((aE a0.Rs 0 (w64 (a2*31))).bind λy2=>some y2) (some false):Option (Bool)).bind λb1 =>
(sel b1 ((aE a0.Rt 0 (w64 (a3*31))).bind λy3=>some y3) (some false):Option (Bool)).bind λb2 =>
some b2
def mY (a0:Int) (a1:Int) (a2:Int):Option (Bool):=
(aE a0 a1 a2).bind λy1 =>
some (y1&&((Int.tmod a0 2)==0))
def gZ (a0:Instr):Option (Bool):=
(aE a0.Op 1 11).bind λy1 =>
sel y1 ((eN a0 1 1 1).bind λy2 =>
some (y2&&(a0.Imm==0))) <|
(aE a0.Op 12 15).bind λy3 =>
sel y3 ((eN a0 1 1 0).bind λy4 =>
(sel y4 ((aE a0.Imm (-2048) 2047).bind λy5=>some y5) (some false):Option (Bool)).bind λb1 =>
some b1) <|
sel (a0.Op==16) ((eN a0 0 1 1).bind λy6 =>
(sel y6 ((aE a0.Imm (-2048) 2047).bind λy7=>some y7) (some false):Option (Bool)).bind λb2 =>
some b2) <|
sel ((a0.Op==17)||(a0.Op==18)) ((eN a0 0 1 1).bind λy8 =>
(sel y8 ((mY a0.Imm (-4096) 4094).bind λy9=>some y9) (some false):Option (Bool)).bind λb3 =>
some b3) <|
sel (a0.Op==19) ((eN a0 1 0 0).bind λy10 =>
(sel y10 ((aE a0.Imm 0 1048575).bind λy11=>some y11) (some false):Option (Bool)).bind λb4 =>
some b4) <|
sel (a0.Op==20) ((eN a0 1 0 0).bind λy12 =>
(sel y12 ((mY a0.Imm (-1048576) 1048574).bind λy13=>some y13) (some false):Option (Bool)).bind λb5 =>
some b5) <|
(sel (a0.Op==21) ((eN a0 0 0 0).bind λy14=>some y14) (some false):Option (Bool)).bind λb6 =>
some (b6&&(a0.Imm==0))
def ku (a0:Int) (a1:Int):Option (Int):=
sel (decide (a0<0)) (some (w64 (a0+a1))) <|
some a0
def bJ (a0:Int) (a1:Int):Option (Int):=
(dn a1).bind λy1 =>
some (w64 (a0*y1))
def mn (a0:Int):Option (Int):=
(nth [0,0,0,4,6,7,6,4,1,5,2,0,3,2,0,2,0,1,0,0,0] (w64 (a0-1))).bind λx1 =>
some x1
def kv (a0:Instr) (a1:Int):Option (Int):=
(bJ a0.Rs 15).bind λy1 =>
(mn a0.Op).bind λy2 =>
(bJ y2 12).bind λy3 =>
some (w64 ((w64 (y1+y3))+a1))
def mG (a0:Instr) (a1:Int):Option (Int):=
(ku a0.Imm 4096).bind λy1 =>
(bJ y1 20).bind λy2 =>
(kv a0 a1).bind λy3 =>
(bJ a0.Rd 7).bind λy4 =>
some (w64 ((w64 (y2+y3))+y4))
def np (a0:Instr):Option (Int):=
(ku a0.Imm 8192).bind λy1 =>
(bg y1 12 1).bind λy2 =>
(bJ y2 31).bind λy3 =>
(bg y1 5 6).bind λy4 =>
(bJ y4 25).bind λy5 =>
(bJ a0.Rt 20).bind λy6 =>
(kv a0 99).bind λy7 =>
(bg y1 1 4).bind λy8 =>
(bJ y8 8).bind λy9 =>
(bg y1 11 1).bind λy10 =>
(bJ y10 7).bind λy11 =>
some (w64 ((w64 ((w64 ((w64 ((w64 (y3+y5))+y6))+y7))+y9))+y11))
def pb (a0:Instr):Option (Int):=
(ku a0.Imm 2097152).bind λy1 =>
(bg y1 20 1).bind λy2 =>
(bJ y2 31).bind λy3 =>
(bg y1 1 10).bind λy4 =>
(bJ y4 21).bind λy5 =>
(bg y1 11 1).bind λy6 =>
(bJ y6 20).bind λy7 =>
(bg y1 12 8).bind λy8 =>
(bJ y8 12).bind λy9 =>
(bJ a0.Rd 7).bind λy10 =>
some (w64 ((w64 ((w64 ((w64 ((w64 (y3+y5))+y7))+y9))+y10))+111))
def mo (a0:Int):Option (Int):=
(nth [0,32,1,1,1,0,0,0,0,32,0] (w64 (a0-1))).bind λx1 =>
some x1
def cB (a0:Instr):Option (Int):=
(sel (a0.Op==12) (some (a0.Op==12)) <|
some (a0.Op==13):Option (Bool)).bind λy1 =>
sel y1 ((mG a0 19).bind λy2 =>
some y2) <|
sel (a0.Op==14) ((mG a0 3).bind λy3 =>
some y3) <|
sel (a0.Op==15) ((mG a0 103).bind λy4 =>
some y4) <|
sel (a0.Op==16) ((ku a0.Imm 4096).bind λy5 =>
(bg y5 5 7).bind λy6 =>
(bJ y6 25).bind λy7 =>
(bJ a0.Rt 20).bind λy8 =>
(kv a0 35).bind λy9 =>
(bg y5 0 5).bind λy10 =>
(bJ y10 7).bind λy11 =>
some (w64 ((w64 ((w64 (y7+y8))+y9))+y11))) <|
(sel (a0.Op==17) (some (a0.Op==17)) <|
some (a0.Op==18):Option (Bool)).bind λy12 =>
sel y12 ((np a0).bind λy13 =>
some y13) <|
sel (a0.Op==19) ((bJ a0.Imm 12).bind λy14 =>
(bJ a0.Rd 7).bind λy15 =>
some (w64 ((w64 (y14+y15))+55))) <|
sel (a0.Op==20) ((pb a0).bind λy16 =>
some y16) <|
sel (a0.Op==21) (some 115) <|
(mo a0.Op).bind λy17 =>
(bJ y17 25).bind λy18 =>
(bJ a0.Rt 20).bind λy19 =>
(kv a0 51).bind λy20 =>
(bJ a0.Rd 7).bind λy21 =>
some (w64 ((w64 ((w64 (y18+y19))+y20))+y21))
def eU (a0:Instr):Option (Int×Bool):=
(gZ a0).bind λy1 =>
sel (!y1) (some (0,false)) <|
(cB a0).bind λy2 =>
some (y2,true)
def hD (a1:List Instr) (s1:(List Int)×Int):Option (((List Int)×Int)⊕(((List Int)×Bool)⊕((List Int)))):=
sel (decide (s1.2<(a1.length:Int))) ((nth a1 s1.2).bind λx1 =>
(eU x1).bind λy4 =>
sel (!y4.2) (some (.inr (.inl (s1.1,false)))) <|
(cn y4.1).bind λy5 =>
(app 8 s1.1 [y5]).bind λr1 =>
some (.inl (r1,w64 (s1.2+1)))) <|
some (.inr (.inr s1.1))
def pd (a0:List Int) (a1:List Instr):Option ((List Int)×Bool):=
(bB (hD a1) (a0,0)).bind λy1 =>
fu y1 (λo3=>some o3) (λo4 =>
some (o4,true))
def go (a0:List Int) (a1:List Int) (s1:Int):Option (Int⊕(Bool⊕Unit)):=
sel (decide (s1<(a0.length:Int))) ((nth a0 s1).bind λx1 =>
(nth a1 s1).bind λx2 =>
sel (x1 !=x2) (some (.inr (.inl false))) <|
some (.inl (w64 (s1+1)))) <|
some (.inr (.inr ()))
def f8 (a0:List Int) (a1:List Int):Option (Bool):=
sel ((a0.length:Int) !=(a1.length:Int)) (some false) <|
(bB (go a0 a1) 0).bind λy1 =>
fu y1 (λo3=>some o3) (λo4 =>
some true)
def gp (a0:List Int) (s1:Int):Option (Int⊕(Bool⊕Unit)):=
sel (decide (s1<(a0.length:Int))) ((nth a0 s1).bind λx1 =>
(da x1).bind λy4 =>
sel (!y4) (some (.inr (.inl false))) <|
some (.inl (w64 (s1+1)))) <|
some (.inr (.inr ()))
def di (a0:List Int):Option (Bool):=
(bB (gp a0) 0).bind λy1 =>
fu y1 (λo3=>some o3) (λo4 =>
some true)
def dS (a0:al):Option (Bool):=
(sel ((a0.Regs.length:Int)==32) ((di a0.Regs).bind λy1=>some y1) (some false):Option (Bool)).bind λb1 =>
(sel b1 ((nth a0.Regs 0).bind λx1=>some (x1==0)) (some false):Option (Bool)).bind λb2 =>
(sel b2 ((da a0.Pc).bind λy2=>some y2) (some false):Option (Bool)).bind λb3 =>
(sel (b3&&(decide ((a0.Mem.length:Int)<=10000))) ((di a0.Mem).bind λy3=>some y3) (some false):Option (Bool)).bind λb4 =>
some b4
def aU (a0:List Int):Option ((List Int)):=
(app 8 [] a0).bind λr1 =>
some r1
def gq (a0:al):Option (al):=
(aU a0.Regs).bind λy1 =>
(aU a0.Mem).bind λy2 =>
some (al.mk y1 a0.Pc y2)
def dw (a0:al) (a1:Int):Option (Int):=
sel (((decide (a1<0))||((Int.tmod a1 4) !=0))||(decide ((w64 (Int.tdiv a1 4))>=(a0.Mem.length:Int)))) (some (-1)) <|
(nth a0.Mem (w64 (Int.tdiv a1 4))).bind λx1 =>
some (w64 (Int.tdiv a1 4))
def bX (a0:mz) (a1:Int) (a2:Int):Option (Bool):=
sel (a0.opcode !=(aG .and .i64 a2 127)) (some false) <|
(bW a1).bind λy1 =>
sel (y1==82) ((bL a2 12 3).bind λy2 =>
(sel (a0.funct3==y2) ((bL a2 25 7).bind λb_1=>some (a0.funct7==b_1)) (some false)).bind λb1 =>
some b1) <|
(sel (y1==73) (some (y1==73)) <|
sel (y1==83) (some (y1==83)) <|
some (y1==66):Option (Bool)).bind λy4 =>
sel y4 ((bL a2 12 3).bind λy5 =>
some (a0.funct3==y5)) <|
some true
def cU (a0:Int) (a1:Int):Option (Int):=
(sel (((decide (a1<1))||(decide (a1>32)))||(decide (a0<0))) (some true) ((shO .shl .i64 1 a1).bind λd1=>some (decide (a0>=d1))):Option (Bool)).bind λb1 =>
sel b1 (some 0) <|
(shO .shl .i64 1 (w64 (a1-1))).bind λd2 =>
sel (decide (a0>=d2)) ((shO .shl .i64 1 a1).bind λd3 =>
some (w64 (a0-d3))) <|
some a0
def dj (a0:Int) (a1:Int):Option (Instr):=
(bL a1 7 5).bind λy1 =>
(bL a1 15 5).bind λy2 =>
(bL a1 20 5).bind λy3 =>
(bW a0).bind λy4 =>
sel (y4==82) (some (Instr.mk a0 y1 y2 y3 0)) <|
sel (y4==73) ((bL a1 20 12).bind λy5 =>
(cU y5 12).bind λy6 =>
some (Instr.mk a0 y1 y2 0 y6)) <|
sel (y4==83) ((bL a1 25 7).bind λy7 =>
(cU (aG .or .i64 (w64 (y7*2^(min 5 (IntKind.bits .i64)))) y1) 12).bind λy8 =>
some (Instr.mk a0 0 y2 y3 y8)) <|
sel (y4==66) ((bL a1 31 1).bind λy9 =>
(bL a1 7 1).bind λy10 =>
(bL a1 25 6).bind λy11 =>
(bL a1 8 4).bind λy12 =>
(cU (aG .or .i64 (aG .or .i64 (aG .or .i64 (w64 (y9*2^(min 12 (IntKind.bits .i64)))) (w64 (y10*2^(min 11 (IntKind.bits .i64))))) (w64 (y11*2^(min 5 (IntKind.bits .i64))))) (w64 (y12*2^(min 1 (IntKind.bits .i64))))) 13).bind λy13 =>
some (Instr.mk a0 0 y2 y3 y13)) <|
sel (y4==85) ((bL a1 12 20).bind λy14 =>
some (Instr.mk a0 y1 0 0 y14)) <|
sel (y4==74) ((bL a1 31 1).bind λy15 =>
(bL a1 12 8).bind λy16 =>
(bL a1 20 1).bind λy17 =>
(bL a1 21 10).bind λy18 =>
(cU (aG .or .i64 (aG .or .i64 (aG .or .i64 (w64 (y15*2^(min 20 (IntKind.bits .i64)))) (w64 (y16*2^(min 12 (IntKind.bits .i64))))) (w64 (y17*2^(min 11 (IntKind.bits .i64))))) (w64 (y18*2^(min 1 (IntKind.bits .i64))))) 21).bind λy19 =>
some (Instr.mk a0 y1 0 0 y19)) <|
some (Instr.mk a0 0 0 0 0)
def dV (a0:Int) (s1:Int):Option (Int⊕((Instr×Bool)⊕Unit)):=
sel (decide (s1<=21)) (((nth lH (w64 (s1-1))).bind λx1 =>
(bX x1 s1 a0).bind λy6 =>
sel (!y6) (some (.inl ())) <|
(dj s1 a0).bind λy7 =>
(co y7).bind λy8 =>
sel (y8.2&&(y8.1==a0)) (some (.inr (y7,true))) <|
some (.inl ()):Option (Unit⊕(Instr×Bool))).bind λy5 =>
fu y5 (λo5=>some (.inl (w64 (s1+1)))) (λo6 =>
some (.inr (.inl o6)))) <|
some (.inr (.inr ()))
def dp (a0:Int):Option (Instr×Bool):=
(eD a0).bind λy1 =>
sel (!y1) (some ((Instr.mk 0 0 0 0 0),false)) <|
(bB (dV a0) 1).bind λy2 =>
fu y2 (λo7=>some o7) (λo8 =>
some ((Instr.mk 0 0 0 0 0),false))
def bh (a0:al) (a1:Int) (a2:Int):Option ((List Int)):=
sel (a1 !=0) ((nth a0.Regs a1).bind λx1 =>
(upd a0.Regs a1 a2).bind λr1 =>
some r1) <|
some a0.Regs
def kg (a0:Bool):Option (Int):=
sel a0 (some 1) <|
some 0
def f9 (a0:Int) (a1:Int) (a2:Int):Option (Int):=
sel (a0==1) (some (aG .or .i64 a1 a2)) <|
sel (a0==2) (some (aG .xor .i64 a1 a2)) <|
sel (a0==3) (some (aG .and .i64 a1 a2)) <|
sel (a0==4) ((kg (a1==a2)).bind λy1 =>
some y1) <|
sel (a0==5) ((kg (decide (a1<a2))).bind λy2 =>
some y2) <|
sel (a0==6) ((shO .shl .i64 a1 (aG .and .i64 a2 31)).bind λd1 =>
(bR d1).bind λy3 =>
some y3) <|
sel (a0==7) ((shO .shr .i64 a1 (aG .and .i64 a2 31)).bind λd2 =>
some d2) <|
sel (a0==8) ((bR (w64 (a1+a2))).bind λy4 =>
some y4) <|
sel (a0==9) ((bR (w64 (a1-a2))).bind λy5 =>
some y5) <|
sel (a0==10) ((bR (w64 (a1*a2))).bind λy6 =>
some y6) <|
sel (a0==11) (sel (a2==0) (some (-1)) <|
(rM .i64 a1 a2).bind λd3 =>
(bR d3).bind λy7 =>
some y7) <|
sel (a2==0) (some a1) <|
(ox a1 a2).bind λd4 =>
some d4
def ew (a0:al):Option (Int×(List Int)×Int×(List Int)):=
(dw (al.mk a0.Regs a0.Pc a0.Mem) a0.Pc).bind λy1 =>
sel (decide (y1<0)) (some (3,a0.Regs,a0.Pc,a0.Mem)) <|
(nth a0.Mem y1).bind λx1 =>
(ch x1).bind λy2 =>
(dp y2).bind λy3 =>
sel (!y3.2) (some (3,a0.Regs,a0.Pc,a0.Mem)) <|
(nth a0.Regs y3.1.Rs).bind λx2 =>
(nth a0.Regs y3.1.Rt).bind λx3 =>
(bR (w64 (a0.Pc+4))).bind λy4 =>
(sel (y3.1.Op==21) (some (.inr (2,a0.Regs,a0.Pc,a0.Mem))) <|
sel (y3.1.Op==12) ((bR (w64 (x2+y3.1.Imm))).bind λy6 =>
(bh (al.mk a0.Regs a0.Pc a0.Mem) y3.1.Rd y6).bind λy7 =>
some (.inl (y4,y7,a0.Mem))) <|
sel (y3.1.Op==13) ((ch x2).bind λy8 =>
(ch y3.1.Imm).bind λy9 =>
(kg (decide (y8<y9))).bind λy10 =>
(bh (al.mk a0.Regs a0.Pc a0.Mem) y3.1.Rd y10).bind λy11 =>
some (.inl (y4,y11,a0.Mem))) <|
(sel (y3.1.Op==14) (some (y3.1.Op==14)) <|
some (y3.1.Op==16):Option (Bool)).bind λy12 =>
sel y12 ((bR (w64 (x2+y3.1.Imm))).bind λy13 =>
(dw (al.mk a0.Regs a0.Pc a0.Mem) y13).bind λy14 =>
sel (decide (y14<0)) (some (.inr (3,a0.Regs,a0.Pc,a0.Mem))) <|
sel (y3.1.Op==16) ((nth a0.Mem y14).bind λx4 =>
(upd a0.Mem y14 x3).bind λr1 =>
some (.inl (y4,a0.Regs,r1))) <|
(nth a0.Mem y14).bind λx5 =>
(bh (al.mk a0.Regs a0.Pc a0.Mem) y3.1.Rd x5).bind λy15 =>
some (.inl (y4,y15,a0.Mem))) <|
sel (y3.1.Op==15) ((bh (al.mk a0.Regs a0.Pc a0.Mem) y3.1.Rd y4).bind λy16 =>
(bR (w64 (x2+y3.1.Imm))).bind λy17 =>
some (.inl (aG .andNot .i64 y17 1,y16,a0.Mem))) <|
(sel (y3.1.Op==17) (some (y3.1.Op==17)) <|
some (y3.1.Op==18):Option (Bool)).bind λy18 =>
sel y18 (sel ((x2==x3)==(y3.1.Op==17)) ((bR (w64 (a0.Pc+y3.1.Imm))).bind λy19 =>
some (.inl (y19,a0.Regs,a0.Mem))) <|
some (.inl (y4,a0.Regs,a0.Mem))) <|
sel (y3.1.Op==19) ((bR (w64 (y3.1.Imm*4096))).bind λy20 =>
(bh (al.mk a0.Regs a0.Pc a0.Mem) y3.1.Rd y20).bind λy21 =>
some (.inl (y4,y21,a0.Mem))) <|
sel (y3.1.Op==20) ((bh (al.mk a0.Regs a0.Pc a0.Mem) y3.1.Rd y4).bind λy22 =>
(bR (w64 (a0.Pc+y3.1.Imm))).bind λy23 =>
some (.inl (y23,y22,a0.Mem))) <|
(nth lI (w64 (y3.1.Op-1))).bind λx6 =>
(f9 x6 x2 x3).bind λy24 =>
(bh (al.mk a0.Regs a0.Pc a0.Mem) y3.1.Rd y24).bind λy25 =>
some (.inl (y4,y25,a0.Mem)):Option ((Int×(List Int)×(List Int))⊕(Int×(List Int)×Int×(List Int)))).bind λy5 =>
fu y5 (λo3=>some (1,o3.2.1,o3.1,o3.2.2)) (λo4 =>
some o4)
def gr (k:Nat) (a0:List Int):Option ((List Int)×(List (List ah))):=
(mA a0).bind λy1 =>
(ar (aP.mk y1.b y1.p) 2).bind λy2 =>
(ar (aP.mk y1.b y2.2) 4).bind λy3 =>
(jX k (aP.mk y1.b y3.2)).bind λy4 =>
((ar (aP.mk y1.b y4.2) 24).bind λy6 =>
sel (y6.1==0) (some ([],y4.1,y6.2)) <|
sel (y6.1==1) ((nth [w64 (1+y2.1),w64 (1+y3.1)] 0).bind λx1 =>
(upd [w64 (1+y2.1),w64 (1+y3.1)] 0 5).bind λr1 =>
some (r1,y4.1,y6.2)) <|
sel (y6.1==2) ((app 24 y4.1 [[]]).bind λr2 =>
some ([w64 (1+y2.1),w64 (1+y3.1)],r2,y6.2)) <|
some ([w64 (1+y2.1),w64 (1+y3.1)],y4.1,y6.2):Option ((List Int)×(List (List ah))×Int)).bind λy5 =>
some (y5.1,y5.2.1)
def cj (a0:List ah):Option ((List ah)):=
(app 40 [] a0).bind λr1 =>
some r1
def fR (a0:List (List ah)) (s1:(List (List ah))×Int):Option (((List (List ah))×Int)⊕((List (List ah)))):=
sel (decide (s1.2<(a0.length:Int))) ((nth a0 s1.2).bind λx1 =>
(cj x1).bind λy4 =>
(app 24 s1.1 [y4]).bind λr1 =>
some (.inl (r1,w64 (s1.2+1)))) <|
some (.inr s1.1)
def gu (a0:List (List ah)):Option ((List (List ah))):=
(bB (fR a0) ([],0)).bind λy1 =>
some y1
def jp (a0:List Int) (s1:(List Box)×Int):Option (((List Box)×Int)⊕((List Box))):=
sel (decide (s1.2<(a0.length:Int))) ((nth a0 s1.2).bind λx1 =>
(app 32 s1.1 [(Box.mk x1 [])]).bind λr1 =>
some (.inl (r1,w64 (s1.2+1)))) <|
some (.inr s1.1)
def ij (a0:List Int):Option ((List Box)):=
(bB (jp a0) ([],0)).bind λy1 =>
some y1
def eE (a0:Int) (a1:Int) (a2:Int) (a3:List Int):Option (Bool):=
(sel ((((((decide (a0>=1))&&(decide (a0<=3)))&&(decide (a1>=0)))&&(decide (a1<a0)))&&(decide (a2>=0)))&&(decide (a2<=a0))) ((di a3).bind λy1=>some y1) (some false):Option (Bool)).bind λb1 =>
some b1
def jY (a0:Box):Option (Bool):=
(sel (((decide (a0.Room>=1))&&(decide (a0.Room<=4)))&&(decide ((a0.Items.length:Int)<=a0.Room))) ((di a0.Items).bind λy1=>some y1) (some false):Option (Bool)).bind λb1 =>
some b1
def fi (a0:List Box) (s1:Int):Option (Int⊕(Bool⊕Unit)):=
sel (decide (s1<(a0.length:Int))) ((nth a0 s1).bind λx1 =>
(jY (Box.mk x1.Room x1.Items)).bind λy4 =>
sel (!y4) (some (.inr (.inl false))) <|
some (.inl (w64 (s1+1)))) <|
some (.inr (.inr ()))
def fz (a0:List Box):Option (Bool):=
(bB (fi a0) 0).bind λy1 =>
fu y1 (λo3=>some o3) (λo4 =>
some (decide ((a0.length:Int)<=3)))
def kh (a0:Int):Option (Bool):=
some ((decide (a0>=0))&&(decide (a0<12)))
def la (a0:Int):Option (Bool):=
some ((decide (a0>=1))&&(decide (a0<=12)))
def i4 (a0:ah) (a1:Int):Option (Bool):=
(kh a0.Dst).bind λy1 =>
(kh a0.A).bind λy2 =>
(kh a0.B).bind λy3 =>
sel (a0.Op==1) ((sel (((a0.Op==1)&&((a0.Dst==a0.Dst)&&((a0.A==0)&&((a0.B==0)&&((a0.N==a0.N)&&true)))))&&y1) ((da a0.N).bind λy4=>some y4) (some false):Option (Bool)).bind λb1 =>
some b1) <|
sel (a0.Op==2) (some ((((a0.Op==2)&&((a0.Dst==a0.Dst)&&((a0.A==a0.A)&&((a0.B==0)&&((a0.N==0)&&true)))))&&y1)&&y2)) <|
sel (a0.Op==3) ((sel ((y1&&y2)&&y3) ((la a0.N).bind λy5=>some y5) (some false):Option (Bool)).bind λb2 =>
some b2) <|
sel (a0.Op==4) (some ((((a0.Op==4)&&((a0.Dst==0)&&((a0.A==0)&&((a0.B==0)&&((a0.N==a0.N)&&true)))))&&(decide (a0.N>=0)))&&(decide (a0.N<a1)))) <|
sel (a0.Op==5) (some (((((a0.Op==5)&&((a0.Dst==0)&&((a0.A==a0.A)&&((a0.B==0)&&((a0.N==a0.N)&&true)))))&&y2)&&(decide (a0.N>=0)))&&(decide (a0.N<a1)))) <|
sel (a0.Op==6) (some (((((a0.Op==6)&&((a0.Dst==0)&&((a0.A==a0.A)&&((a0.B==0)&&((a0.N==a0.N)&&true)))))&&y2)&&(decide (a0.N>=0)))&&(decide (a0.N<3)))) <|
sel (a0.Op==7) (some (((((a0.Op==7)&&((a0.Dst==a0.Dst)&&((a0.A==0)&&((a0.B==0)&&((a0.N==a0.N)&&true)))))&&y1)&&(decide (a0.N>=0)))&&(decide (a0.N<3)))) <|
sel (a0.Op==9) (some (((a0.Op==9)&&((a0.Dst==0)&&((a0.A==a0.A)&&((a0.B==0)&&((a0.N==0)&&true)))))&&y2)) <|
(sel (a0.Op==8) (some (a0.Op==8)) <|
some (a0.Op==10):Option (Bool)).bind λy6 =>
sel y6 (some ((a0.Op==a0.Op)&&((a0.Dst==0)&&((a0.A==0)&&((a0.B==0)&&((a0.N==0)&&true)))))) <|
some false
def lb (a0:List ah) (s1:Int):Option (Int⊕(Bool⊕Unit)):=
sel (decide (s1<(a0.length:Int))) ((nth a0 s1).bind λx1 =>
(i4 x1 (a0.length:Int)).bind λy4 =>
sel (!y4) (some (.inr (.inl false))) <|
some (.inl (w64 (s1+1)))) <|
some (.inr (.inr ()))
def eo (a0:List ah):Option (Bool):=
sel ((decide ((a0.length:Int)<1))||(decide ((a0.length:Int)>600))) (some false) <|
(bB (lb a0) 0).bind λy1 =>
fu y1 (λo3=>some o3) (λo4 =>
(nth a0 (w64 ((a0.length:Int)-1))).bind λx2 =>
some ((x2.Op==10)||(x2.Op==4)))
def j4 (a0:bk) (a1:List ah):Option (Bool):=
(sel ((a0.Regs.length:Int)==12) ((di a0.Regs).bind λy1=>some y1) (some false):Option (Bool)).bind λb1 =>
some ((b1&&(decide (a0.Pc>=0)))&&(decide (a0.Pc<(a1.length:Int))))
def eV (a0:bk) (a1:List ah):Option (Bool):=
(eo a1).bind λy1 =>
(sel y1 ((j4 (bk.mk a0.Regs a0.Pc) a1).bind λy2=>some y2) (some false):Option (Bool)).bind λb1 =>
some b1
def jZ (a0:ah) (a1:Int):Option (Bool):=
some (((a0.Op !=6)&&(a0.Op !=7))||(decide (a0.N<a1)))
def dx (a0:cI) (x1:List ah) (s2:Int):Option (Int⊕(Bool⊕Unit)):=
sel (decide (s2<(x1.length:Int))) ((nth x1 s2).bind λx3 =>
(jZ x3 (a0.Boxes.length:Int)).bind λy10 =>
sel (!y10) (some (.inr (.inl false))) <|
some (.inl (w64 (s2+1)))) <|
some (.inr (.inr ()))
def dy (a0:cI) (s1:Int):Option (Int⊕(Bool⊕Unit)):=
sel (decide (s1<(a0.Codes.length:Int))) ((nth a0.Codes s1).bind λx1 =>
(nth a0.Threads s1).bind λx2 =>
(eV (bk.mk x2.Regs x2.Pc) x1).bind λy6 =>
sel (!y6) (some (.inr (.inl false))) <|
(bB (dx a0 x1) 0).bind λy7 =>
fu y7 (λo5=>some (.inr (.inl o5))) (λo6 =>
some (.inl (w64 (s1+1))))) <|
some (.inr (.inr ()))
def dC (a0:cI):Option (Bool):=
(eE (a0.Codes.length:Int) a0.Turn a0.Idle a0.Out).bind λy1 =>
(sel ((!y1)||((a0.Threads.length:Int) !=(a0.Codes.length:Int))) (some true) ((fz a0.Boxes).bind λy2=>some (!y2)):Option (Bool)).bind λb1 =>
sel b1 (some false) <|
(bB (dy a0) 0).bind λy3 =>
fu y3 (λo7=>some o7) (λo8 =>
some true)
def fA (a1:List (List ah)) (s1:Int×(List bk)):Option ((Int×(List bk))⊕((List bk))):=
sel (decide (s1.1<(a1.length:Int))) ((mk 8 12 0).bind λr1 =>
(app 32 s1.2 [(bk.mk r1 0)]).bind λr2 =>
some (.inl (w64 (s1.1+1),r2))) <|
some (.inr s1.2)
def cY (a0:List Int) (a1:List (List ah)):Option (cI×Bool):=
(gu a1).bind λy1 =>
(ij a0).bind λy2 =>
(bB (fA a1) (0,[])).bind λy3 =>
(fx a0).bind λy6 =>
(sel (!y6) (some true) ((dC (cI.mk y1 y3 y2 0 0 [])).bind λy7=>some (!y7)):Option (Bool)).bind λb1 =>
sel b1 (some ((cI.mk [] [] [] 0 0 []),false)) <|
some ((cI.mk y1 y3 y2 0 0 []),true)
def gv (a0:List (List ah)) (s1:(List (List ah))×Int):Option (((List (List ah))×Int)⊕((List (List ah)))):=
sel (decide (s1.2<(a0.length:Int))) ((nth a0 s1.2).bind λx1 =>
(app 40 [] x1).bind λr1 =>
(app 24 s1.1 [r1]).bind λr2 =>
some (.inl (r2,w64 (s1.2+1)))) <|
some (.inr s1.1)
def j0 (a0:List (List ah)):Option ((List (List ah))):=
(bB (gv a0) ([],0)).bind λy1 =>
some y1
def jq (a0:List Int) (s1:(List Box)×Int):Option (((List Box)×Int)⊕((List Box))):=
sel (decide (s1.2<(a0.length:Int))) ((nth a0 s1.2).bind λx1 =>
(app 32 s1.1 [(Box.mk x1 [])]).bind λr1 =>
some (.inl (r1,w64 (s1.2+1)))) <|
some (.inr s1.1)
def ik (a0:List Int):Option ((List Box)):=
(bB (jq a0) ([],0)).bind λy1 =>
some y1
def hH (a0:List Int) (s1:Int):Option (Int⊕(Bool⊕Unit)):=
sel (decide (s1<(a0.length:Int))) ((nth a0 s1).bind λx1 =>
(cM x1).bind λy4 =>
sel (!y4) (some (.inr (.inl false))) <|
some (.inl (w64 (s1+1)))) <|
some (.inr (.inr ()))
def dt (a0:List Int) (a1:Int):Option (Bool):=
sel ((a0.length:Int) !=a1) (some false) <|
(bB (hH a0) 0).bind λy1 =>
fu y1 (λo3=>some o3) (λo4 =>
some true)
def j1 (a0:Box):Option (Bool):=
(aE a0.Room 1 4).bind λy1 =>
(sel (y1&&(decide ((a0.Items.length:Int)<=a0.Room))) ((dt a0.Items (a0.Items.length:Int)).bind λy2=>some y2) (some false):Option (Bool)).bind λb1 =>
some b1
def gw (a0:List Box) (s1:Int):Option (Int⊕(Bool⊕Unit)):=
sel (decide (s1<(a0.length:Int))) ((nth a0 s1).bind λx1 =>
(j1 (Box.mk x1.Room x1.Items)).bind λy4 =>
sel (!y4) (some (.inr (.inl false))) <|
some (.inl (w64 (s1+1)))) <|
some (.inr (.inr ()))
def io (a0:List Box):Option (Bool):=
(bB (gw a0) 0).bind λy1 =>
fu y1 (λo3=>some o3) (λo4 =>
some (decide ((a0.length:Int)<=3)))
def mZ (a0:bk) (a1:Int):Option (Bool):=
(dt a0.Regs 12).bind λy1 =>
(sel y1 ((aE a0.Pc 0 (w64 (a1-1))).bind λy2=>some y2) (some false):Option (Bool)).bind λb1 =>
some b1
def eW (a0:bk) (a1:List ah):Option (Bool):=
(bP a1).bind λy1 =>
(sel y1 ((mZ (bk.mk a0.Regs a0.Pc) (a1.length:Int)).bind λy2=>some y2) (some false):Option (Bool)).bind λb1 =>
some b1
def lc (a0:ah) (a1:Int):Option (Bool):=
some (((a0.Op !=6)&&(a0.Op !=7))||(decide (a0.N<a1)))
def dW (a0:List ah) (a1:Int) (s1:Int):Option (Int⊕(Bool⊕Unit)):=
sel (decide (s1<(a0.length:Int))) ((nth a0 s1).bind λx1 =>
(lc x1 a1).bind λy4 =>
sel (!y4) (some (.inr (.inl false))) <|
some (.inl (w64 (s1+1)))) <|
some (.inr (.inr ()))
def gQ (a0:List ah) (a1:Int):Option (Bool):=
(bB (dW a0 a1) 0).bind λy1 =>
fu y1 (λo3=>some o3) (λo4 =>
some true)
def dz (a0:cI) (s1:Int):Option (Int⊕(Bool⊕Unit)):=
sel (decide (s1<(a0.Threads.length:Int))) ((nth a0.Threads s1).bind λx1 =>
(nth a0.Codes s1).bind λx2 =>
(eW (bk.mk x1.Regs x1.Pc) x2).bind λy8 =>
(sel (!y8) (some true) ((nth a0.Codes s1).bind λb_1=>(gQ b_1 (a0.Boxes.length:Int)).bind λb_2=>some (!b_2))).bind λb4 =>
sel b4 (some (.inr (.inl false))) <|
some (.inl (w64 (s1+1)))) <|
some (.inr (.inr ()))
def ep (a0:cI):Option (Bool):=
(aE (a0.Threads.length:Int) 1 3).bind λy1 =>
(sel ((!y1)||((a0.Codes.length:Int) !=(a0.Threads.length:Int))) (some true) ((io a0.Boxes).bind λy2=>some (!y2)):Option (Bool)).bind λb1 =>
(sel b1 (some true) ((aE a0.Turn 0 (w64 ((a0.Threads.length:Int)-1))).bind λy3=>some (!y3)):Option (Bool)).bind λb2 =>
(sel b2 (some true) ((aE a0.Idle 0 (a0.Threads.length:Int)).bind λy4=>some (!y4)):Option (Bool)).bind λb3 =>
sel b3 (some false) <|
(bB (dz a0) 0).bind λy5 =>
fu y5 (λo3=>some o3) (λo4 =>
(dt a0.Out (a0.Out.length:Int)).bind λy10 =>
some y10)
def fB (a1:List (List ah)) (s1:Int×(List bk)):Option ((Int×(List bk))⊕((List bk))):=
sel (decide (s1.1<(a1.length:Int))) ((mk 8 12 0).bind λr1 =>
(app 32 s1.2 [(bk.mk r1 0)]).bind λr2 =>
some (.inl (w64 (s1.1+1),r2))) <|
some (.inr s1.2)
def dG (a0:List Int) (a1:List (List ah)):Option (cI×Bool):=
(dP a0).bind λy1 =>
sel (!y1) (some ((cI.mk [] [] [] 0 0 []),false)) <|
(j0 a1).bind λy2 =>
(ik a0).bind λy3 =>
(bB (fB a1) (0,[])).bind λy4 =>
(ep (cI.mk y2 y4 y3 0 0 [])).bind λy7 =>
sel (!y7) (some ((cI.mk [] [] [] 0 0 []),false)) <|
some ((cI.mk y2 y4 y3 0 0 []),true)
def gx (a0:List ah) (a1:List ah) (s1:Int):Option (Int⊕(Bool⊕Unit)):=
sel (decide (s1<(a0.length:Int))) ((nth a0 s1).bind λx1 =>
(nth a1 s1).bind λx2 =>
sel (!((x1.Op==x2.Op)&&((x1.Dst==x2.Dst)&&((x1.A==x2.A)&&((x1.B==x2.B)&&((x1.N==x2.N)&&true)))))) (some (.inr (.inl false))) <|
some (.inl (w64 (s1+1)))) <|
some (.inr (.inr ()))
def j2 (a0:List ah) (a1:List ah):Option (Bool):=
sel ((a0.length:Int) !=(a1.length:Int)) (some false) <|
(bB (gx a0 a1) 0).bind λy1 =>
fu y1 (λo3=>some o3) (λo4 =>
some true)
def fS (a0:List (List ah)) (a1:List (List ah)) (s1:Int):Option (Int⊕(Bool⊕Unit)):=
sel (decide (s1<(a0.length:Int))) ((nth a0 s1).bind λx1 =>
(nth a1 s1).bind λx2 =>
(j2 x1 x2).bind λy4 =>
sel (!y4) (some (.inr (.inl false))) <|
some (.inl (w64 (s1+1)))) <|
some (.inr (.inr ()))
def i5 (a0:List (List ah)) (a1:List (List ah)):Option (Bool):=
sel ((a0.length:Int) !=(a1.length:Int)) (some false) <|
(bB (fS a0 a1) 0).bind λy1 =>
fu y1 (λo3=>some o3) (λo4 =>
some true)
def j5 (a0:bk) (a1:bk):Option (Bool):=
(sel (a0.Pc==a1.Pc) ((f8 a0.Regs a1.Regs).bind λy1=>some y1) (some false):Option (Bool)).bind λb1 =>
some b1
def lf (a0:Box) (a1:Box):Option (Bool):=
(sel (a0.Room==a1.Room) ((f8 a0.Items a1.Items).bind λy1=>some y1) (some false):Option (Bool)).bind λb1 =>
some b1
def fT (a0:List Box) (a1:List Box) (s1:Int):Option (Int⊕(Bool⊕Unit)):=
sel (decide (s1<(a0.length:Int))) ((nth a0 s1).bind λx1 =>
(nth a1 s1).bind λx2 =>
(lf (Box.mk x1.Room x1.Items) (Box.mk x2.Room x2.Items)).bind λy4 =>
sel (!y4) (some (.inr (.inl false))) <|
some (.inl (w64 (s1+1)))) <|
some (.inr (.inr ()))
def i6 (a0:List Box) (a1:List Box):Option (Bool):=
sel ((a0.length:Int) !=(a1.length:Int)) (some false) <|
(bB (fT a0 a1) 0).bind λy1 =>
fu y1 (λo3=>some o3) (λo4 =>
some true)
def gy (a0:cI) (a1:cI) (s1:Int):Option (Int⊕(Bool⊕Unit)):=
sel (decide (s1<(a0.Threads.length:Int))) ((nth a0.Threads s1).bind λx1 =>
(nth a1.Threads s1).bind λx2 =>
sel (x1.Pc !=x2.Pc) (some (.inr (.inl false))) <|
some (.inl (w64 (s1+1)))) <|
some (.inr (.inr ()))
def mq (a0:cI) (a1:cI):Option (Bool):=
sel ((((a0.Threads.length:Int) !=(a1.Threads.length:Int))||(a0.Turn !=a1.Turn))||(a0.Idle !=a1.Idle)) (some false) <|
(bB (gy a0 a1) 0).bind λy1 =>
fu y1 (λo3=>some o3) (λo4 =>
(i6 a0.Boxes a1.Boxes).bind λy4 =>
(sel y4 ((f8 a0.Out a1.Out).bind λy5=>some y5) (some false):Option (Bool)).bind λb1 =>
some b1)
def fU (a0:cI) (a1:cI) (s1:Int):Option (Int⊕(Bool⊕Unit)):=
sel (decide (s1<(a0.Threads.length:Int))) ((nth a0.Threads s1).bind λx1 =>
(nth a1.Threads s1).bind λx2 =>
(j5 (bk.mk x1.Regs x1.Pc) (bk.mk x2.Regs x2.Pc)).bind λy4 =>
sel (!y4) (some (.inr (.inl false))) <|
some (.inl (w64 (s1+1)))) <|
some (.inr (.inr ()))
def lh (a0:cI) (a1:cI):Option (Bool):=
sel ((a0.Threads.length:Int) !=(a1.Threads.length:Int)) (some false) <|
(bB (fU a0 a1) 0).bind λy1 =>
fu y1 (λo3=>some o3) (λo4 =>
(mq (cI.mk a0.Codes a0.Threads a0.Boxes a0.Turn a0.Idle a0.Out) (cI.mk a1.Codes a1.Threads a1.Boxes a1.Turn a1.Idle a1.Out)).bind λy5 =>
some y5)
def eS (a0:cI) (a1:cI):Option (Bool):=
(i5 a0.Codes a1.Codes).bind λy1 =>
(sel y1 ((lh (cI.mk a0.Codes a0.Threads a0.Boxes a0.Turn a0.Idle a0.Out) (cI.mk a1.Codes a1.Threads a1.Boxes a1.Turn a1.Idle a1.Out)).bind λy2=>some y2) (some false):Option (Bool)).bind λb1 =>
some b1
def bK (a0:cy) (a1:List Instr):Option ((List Instr)):=
(app 40 a0.list a1).bind λr1 =>
some r1
def db (a0:cy) (a1:Int) (a2:Int->Option (List Instr)):Option ((List Instr)):=
sel (decide (a1<a0.colors)) ((nth je a1).bind λx1 =>
(a2 x1).bind λy1 =>
(bK (cy.mk a0.colors a0.list) y1).bind λy2 =>
some y2) <|
(a2 7).bind λy3 =>
(bK (cy.mk a0.colors a0.list) y3).bind λy4 =>
(bK (cy.mk a0.colors y4) [(Instr.mk 16 0 2 7 (w64 (4*(w64 (a1-a0.colors)))))]).bind λy5 =>
some y5
def cN (a0:cy) (a1:Int) (a2:Int):Option (Int×(List Instr)):=
sel (decide (a1<a0.colors)) ((nth je a1).bind λx1 =>
some (x1,a0.list)) <|
(bK (cy.mk a0.colors a0.list) [(Instr.mk 14 a2 2 0 (w64 (4*(w64 (a1-a0.colors)))))]).bind λy1 =>
some (a2,y1)
def ey (a0:cy) (a1:Int):Option ((List Instr)):=
(bK (cy.mk a0.colors a0.list) [(Instr.mk 20 0 0 0 (w64 (a1-(w64 (4*(a0.list.length:Int))))))]).bind λy1 =>
some y1
def cZ (a0:cy) (a1:Int):Option ((List Instr)):=
(d6 17 0 a1).bind λy1 =>
(bK (cy.mk a0.colors a0.list) [y1,(Instr.mk 15 1 0 0 0)]).bind λy2 =>
some y2
def gz (a0:Int) (a1:Int):Option ((List Instr)):=
sel ((decide (a1>=(-2048)))&&(decide (a1<=2047))) ((d6 a0 0 a1).bind λy1 =>
some [y1]) <|
(ch a1).bind λy2 =>
(bL y2 0 12).bind λy3 =>
(cU y3 12).bind λy4 =>
(bR (w64 (a1-y4))).bind λy5 =>
(ch y5).bind λy6 =>
(bL y6 12 20).bind λy7 =>
(d6 a0 a0 y4).bind λy8 =>
some [(Instr.mk 19 a0 0 0 y7),y8]
def ir (a0:Int) (a1:ah):Option ((List Instr)):=
(gz a0 a1.N).bind λy1 =>
some y1
def iu (a0:Int) (a1:Int):Option ((List Instr)):=
(d6 a0 a1 0).bind λy1 =>
some [y1]
def iv (a0:Int) (a1:ah) (a2:Int) (a3:Int):Option ((List Instr)):=
(nth lJ (w64 (a1.N-1))).bind λx1 =>
sel (a1.N==4) ((app 40 [(Instr.mk x1 a0 a2 a3 0)] [(Instr.mk 13 a0 a0 0 1)]).bind λr1 =>
some r1) <|
some [(Instr.mk x1 a0 a2 a3 0)]
def iw (a0:Int):Option ((List Instr)):=
(d6 a0 10 0).bind λy1 =>
some [y1]
def fC (a0:ah) (a1:Int) (a2:Int):Option ((List Instr)):=
(sel (a0.Op==1) ((db (cy.mk a1 []) a0.Dst (λb0=>ir b0 a0)).bind λy2 =>
some y2) <|
sel (a0.Op==2) ((cN (cy.mk a1 []) a0.A 5).bind λy3 =>
(db (cy.mk a1 y3.2) a0.Dst (λb0=>iu b0 y3.1)).bind λy4 =>
some y4) <|
sel (a0.Op==3) ((cN (cy.mk a1 []) a0.A 5).bind λy5 =>
(cN (cy.mk a1 y5.2) a0.B 6).bind λy6 =>
(db (cy.mk a1 y6.2) a0.Dst (λb0=>iv b0 a0 y5.1 y6.1)).bind λy7 =>
some y7) <|
sel (a0.Op==4) ((ey (cy.mk a1 []) a2).bind λy8 =>
some y8) <|
sel (a0.Op==5) ((cN (cy.mk a1 []) a0.A 5).bind λy9 =>
(bK (cy.mk a1 y9.2) [(Instr.mk 18 0 y9.1 0 8)]).bind λy10 =>
(ey (cy.mk a1 y10) a2).bind λy11 =>
some y11) <|
sel (a0.Op==6) ((cN (cy.mk a1 []) a0.A 5).bind λy12 =>
(d6 10 y12.1 0).bind λy13 =>
(d6 11 0 a0.N).bind λy14 =>
(bK (cy.mk a1 y12.2) [y13,y14]).bind λy15 =>
(cZ (cy.mk a1 y15) 1).bind λy16 =>
some y16) <|
sel (a0.Op==7) ((d6 11 0 a0.N).bind λy17 =>
(bK (cy.mk a1 []) [y17]).bind λy18 =>
(cZ (cy.mk a1 y18) 2).bind λy19 =>
(db (cy.mk a1 y19) a0.Dst iw).bind λy20 =>
some y20) <|
sel (a0.Op==8) ((cZ (cy.mk a1 []) 3).bind λy21 =>
some y21) <|
sel (a0.Op==9) ((cN (cy.mk a1 []) a0.A 5).bind λy22 =>
(d6 10 y22.1 0).bind λy23 =>
(bK (cy.mk a1 y22.2) [y23]).bind λy24 =>
(cZ (cy.mk a1 y24) 4).bind λy25 =>
some y25) <|
sel (a0.Op==10) ((cZ (cy.mk a1 []) 5).bind λy26 =>
some y26) <|
some []:Option ((List Instr))).bind λy1 =>
some y1
def ki (a0:List ah) (a1:Int) (s1:(List Int)×Int×Int):Option (((List Int)×Int×Int)⊕((List Int))):=
sel (decide (s1.2.2<(a0.length:Int))) ((nth a0 s1.2.2).bind λx1 =>
(app 8 s1.1 [s1.2.1]).bind λr1 =>
(fC x1 a1 0).bind λy5 =>
some (.inl (r1,w64 (s1.2.1+(y5.length:Int)),w64 (s1.2.2+1)))) <|
some (.inr s1.1)
def hP (a0:List ah) (a1:Int):Option ((List Int)):=
(eo a0).bind λy1 =>
sel (((!y1)||(decide (a1<1)))||(decide (a1>8))) (some []) <|
(bB (ki a0 a1) ([],0,0)).bind λy2 =>
some y2
def lj (a0:ah):Option (Bool):=
some ((a0.Op==4)||(a0.Op==5))
def kj (a0:List ah) (a1:Int) (y1:(List Int)) (s1:(List Instr)×Int):Option (((List Instr)×Int)⊕((List Instr))):=
sel (decide (s1.2<(a0.length:Int))) ((nth a0 s1.2).bind λx1 =>
((lj x1).bind λy6 =>
sel y6 ((nth y1 x1.N).bind λx2 =>
(nth y1 s1.2).bind λx3 =>
some (w64 (4*(w64 (x2-x3))))) <|
some 0:Option (Int)).bind λy5 =>
(fC x1 a1 y5).bind λy7 =>
(app 40 s1.1 y7).bind λr1 =>
some (.inl (r1,w64 (s1.2+1)))) <|
some (.inr s1.1)
def hU (a0:List ah) (a1:Int):Option ((List Instr)×Bool):=
(hP a0 a1).bind λy1 =>
sel (List.isEmpty y1) (some ([],false)) <|
(bB (kj a0 a1 y1) ([],0)).bind λy2 =>
some (y2,true)
def hY (a0:List (List ah)) (a1:Int) (s1:(List (List Instr))×Int):Option (((List (List Instr))×Int)⊕((List (List Instr)))):=
sel (decide (s1.2<(a0.length:Int))) ((nth a0 s1.2).bind λx1 =>
(hU x1 a1).bind λy4 =>
(app 24 s1.1 [y4.1]).bind λr1 =>
some (.inl (r1,w64 (s1.2+1)))) <|
some (.inr s1.1)
def lk (a0:List (List ah)) (a1:Int):Option ((List (List Instr))):=
(bB (hY a0 a1) ([],0)).bind λy1 =>
some y1
def iy (a0:al):Option (Bool):=
(dS (al.mk a0.Regs a0.Pc a0.Mem)).bind λy1 =>
some (!y1)
def aQ (a0:List al) (s1:Int):Option (Int⊕(Int⊕Unit)):=
sel (decide (s1<(a0.length:Int))) ((nth a0 s1).bind λx1 =>
(iy (al.mk x1.Regs x1.Pc x1.Mem)).bind λy4 =>
sel y4 (some (.inr (.inl s1))) <|
some (.inl (w64 (s1+1)))) <|
some (.inr (.inr ()))
def bD (a0:List al):Option (Int):=
(bB (aQ a0) 0).bind λy1 =>
fu y1 (λo3=>some o3) (λo4 =>
some (-1))
def a7 (a0:List al):Option (Bool):=
(bD a0).bind λy1 =>
some (decide (y1>=0))
def hZ (a0:cg):Option (Bool):=
(eE (a0.Harts.length:Int) a0.Turn a0.Idle a0.Out).bind λy1 =>
(sel y1 ((fz a0.Boxes).bind λy2=>some y2) (some false):Option (Bool)).bind λb1 =>
(sel b1 ((a7 a0.Harts).bind λy3=>some (!y3)) (some false):Option (Bool)).bind λb2 =>
some b2
def fV (a0:List Instr):Option (al×Bool):=
(kZ a0).bind λy1 =>
sel ((!y1.2)||(decide ((w64 ((w64 ((y1.1.length:Int)+1))+12))>10000))) (some ((al.mk [] 0 []),false)) <|
(mk 8 32 0).bind λr1 =>
(app 8 [0] y1.1).bind λr2 =>
(nth r1 2).bind λx1 =>
(upd r1 2 (w64 (4*(r2.length:Int)))).bind λr3 =>
(xJ 8 r2 12 0).bind λr4 =>
some ((al.mk r3 4 r4),true)
def gA (a1:List (List Instr)) (s1:Int×(List al)):Option ((Int×(List al))⊕((cg×Bool)⊕((List al)))):=
sel (decide (s1.1<(a1.length:Int))) ((nth a1 s1.1).bind λx1 =>
(fV x1).bind λy6 =>
sel (!y6.2) (some (.inr (.inl ((cg.mk [] [] 0 0 []),false)))) <|
(app 56 s1.2 [(al.mk y6.1.Regs y6.1.Pc y6.1.Mem)]).bind λr1 =>
some (.inl (w64 (s1.1+1),r1))) <|
some (.inr (.inr s1.2))
def ip (a0:List Int) (a1:List (List Instr)):Option (cg×Bool):=
(fx a0).bind λy1 =>
sel (((!y1)||(decide ((a1.length:Int)<1)))||(decide ((a1.length:Int)>3))) (some ((cg.mk [] [] 0 0 []),false)) <|
(ij a0).bind λy2 =>
(bB (gA a1) (0,[])).bind λy3 =>
fu y3 (λo3=>some o3) (λo4 =>
some ((cg.mk o4 y2 0 0 []),true))
def dA (a0:List Box) (s1:(List Box)×Int):Option (((List Box)×Int)⊕((List Box))):=
sel (decide (s1.2<(a0.length:Int))) ((nth a0 s1.2).bind λx1 =>
(aU x1.Items).bind λy4 =>
(app 32 s1.1 [(Box.mk x1.Room y4)]).bind λr1 =>
some (.inl (r1,w64 (s1.2+1)))) <|
some (.inr s1.1)
def er (a0:List Box):Option ((List Box)):=
(bB (dA a0) ([],0)).bind λy1 =>
some y1
def eT (a0:Int) (a1:Int) (a2:Int) (a3:Int):Option (Int×Int×Bool):=
sel ((((((decide (a0<1))||(decide (a0>3)))||(decide (a1<0)))||(decide (a1>=a0)))||(decide (a2<0)))||(decide (a2>=a0))) (some (0,0,false)) <|
sel (a3==1) (some (a1,0,true)) <|
sel (a3==2) ((ox (w64 (a1+1)) a0).bind λd1 =>
some (d1,0,true)) <|
(sel (a3==3) (some (a3==3)) <|
some (a3==4):Option (Bool)).bind λy1 =>
sel y1 ((ox (w64 (a1+1)) a0).bind λd2 =>
some (d2,w64 (a2+1),true)) <|
some (0,0,false)
def ej (a0:Box) (a1:Int):Option (Bool×(List Int)):=
sel ((a0.Items.length:Int)==a0.Room) (some (false,a0.Items)) <|
(app 8 a0.Items [a1]).bind λr1 =>
some (true,r1)
def dQ (a0:Box):Option (Int×Bool×(List Int)):=
sel ((a0.Items.length:Int)==0) (some (0,false,a0.Items)) <|
(nth a0.Items 0).bind λx1 =>
(cut a0.Items 1 (a0.Items.length:Int)).bind λr1 =>
(app 8 [] r1).bind λr2 =>
some (x1,true,r2)
def cC (a0:al) (a1:List Box) (a2:List Int):Option (Int×(List Int)×Int×(List Int)×(List Box)):=
(nth a0.Regs 17).bind λx1 =>
(nth a0.Regs 11).bind λx2 =>
sel ((a0.Pc !=0)||(((x1==1)||(x1==2))&&((decide (x2<0))||(decide (x2>=(a1.length:Int)))))) (some (0,a0.Regs,a0.Pc,a2,a1)) <|
(sel (x1==1) ((nth a1 x2).bind λx3 =>
(nth a0.Regs 10).bind λx4 =>
(ej (Box.mk x3.Room x3.Items) x4).bind λy2 =>
sel (!y2.1) (some (.inr (3,a0.Regs,a0.Pc,a2,(a1.set (Int.toNat x2) (Box.mk x3.Room y2.2))))) <|
some (.inl (1,a2,a0.Regs,(a1.set (Int.toNat x2) (Box.mk x3.Room y2.2))))) <|
sel (x1==2) ((nth a1 x2).bind λx5 =>
(dQ (Box.mk x5.Room x5.Items)).bind λy3 =>
sel (!y3.2.1) (some (.inr (3,a0.Regs,a0.Pc,a2,(a1.set (Int.toNat x2) (Box.mk x5.Room y3.2.2))))) <|
(nth a0.Regs 10).bind λx6 =>
(upd a0.Regs 10 y3.1).bind λr1 =>
some (.inl (1,a2,r1,(a1.set (Int.toNat x2) (Box.mk x5.Room y3.2.2))))) <|
sel (x1==3) (some (.inl (2,a2,a0.Regs,a1))) <|
sel (x1==4) ((nth a0.Regs 10).bind λx7 =>
(app 8 a2 [x7]).bind λr2 =>
some (.inl (1,r2,a0.Regs,a1))) <|
sel (x1==5) (some (.inr (4,a0.Regs,a0.Pc,a2,a1))) <|
some (.inr (0,a0.Regs,a0.Pc,a2,a1)):Option ((Int×(List Int)×(List Int)×(List Box))⊕(Int×(List Int)×Int×(List Int)×(List Box)))).bind λy1 =>
fu y1 (λo3=>(nth o3.2.2.1 1).bind λx8 =>
some (o3.1,o3.2.2.1,x8,o3.2.1,o3.2.2.2)) (λo4 =>
some o4)
def fD (a0:Int) (a1:cg):Option (Int×(List al)×(List Box)×(List Int)):=
(nth a1.Harts a0).bind λx1 =>
sel (x1.Pc==0) ((cC (al.mk x1.Regs x1.Pc x1.Mem) a1.Boxes a1.Out).bind λy1 =>
some (y1.1,(a1.Harts.set (Int.toNat a0) (al.mk y1.2.1 y1.2.2.1 x1.Mem)),y1.2.2.2.2,y1.2.2.2.1)) <|
(ew (al.mk x1.Regs x1.Pc x1.Mem)).bind λy2 =>
sel (y2.1==1) (some (1,(a1.Harts.set (Int.toNat a0) (al.mk y2.2.1 y2.2.2.1 y2.2.2.2)),a1.Boxes,a1.Out)) <|
some (0,(a1.Harts.set (Int.toNat a0) (al.mk y2.2.1 y2.2.2.1 y2.2.2.2)),a1.Boxes,a1.Out)
def dc (a1:Int) (a4:cg) (s1:Int×Int×Int×(List al)×(List Box)×(List Int)):Option ((Int×Int×Int×(List al)×(List Box)×(List Int))⊕((Int×Int×Bool×(List al)×(List Box)×(List Int))⊕(Int×Int×(List al)×(List Box)×(List Int)))):=
sel ((decide (s1.1>0))&&(decide (s1.2.2.1<a1))) ((fD s1.2.1 (cg.mk s1.2.2.2.1 s1.2.2.2.2.1 a4.Turn a4.Idle s1.2.2.2.2.2)).bind λy4 =>
(eT a1 s1.2.1 s1.2.2.1 y4.1).bind λy5 =>
sel (!y5.2.2) (some (.inr (.inl (0,0,false,y4.2.1,y4.2.2.1,y4.2.2.2)))) <|
some (.inl (w64 (s1.1-1),y5.1,y5.2.1,y4.2.1,y4.2.2.1,y4.2.2.2))) <|
some (.inr (.inr (s1.2.1,s1.2.2.1,s1.2.2.2.1,s1.2.2.2.2.1,s1.2.2.2.2.2)))
def iz (a0:Int) (a1:Int) (a2:Int) (a3:Int) (a4:cg):Option (Int×Int×Bool×(List al)×(List Box)×(List Int)):=
(bB (dc a1 a4) (a0,a2,a3,a4.Harts,a4.Boxes,a4.Out)).bind λy1 =>
fu y1 (λo3=>some o3) (λo4 =>
some (o4.1,o4.2.1,true,o4.2.2.1,o4.2.2.2.1,o4.2.2.2.2))
def eX (a0:cg) (s1:Int×(List al)):Option ((Int×(List al))⊕((List al))):=
sel (decide (s1.1<(a0.Harts.length:Int))) ((nth a0.Harts s1.1).bind λx1 =>
(gq (al.mk x1.Regs x1.Pc x1.Mem)).bind λy7 =>
(app 56 s1.2 [(al.mk y7.Regs y7.Pc y7.Mem)]).bind λr1 =>
some (.inl (w64 (s1.1+1),r1))) <|
some (.inr s1.2)
def j3 (a0:cg) (a1:Int):Option (cg×Bool):=
(hZ (cg.mk a0.Harts a0.Boxes a0.Turn a0.Idle a0.Out)).bind λy1 =>
sel (((!y1)||(decide (a1<0)))||(decide (a1>1000000))) (some ((cg.mk [] [] 0 0 []),false)) <|
(er a0.Boxes).bind λy2 =>
(aU a0.Out).bind λy3 =>
(bB (eX a0) (0,[])).bind λy4 =>
(iz a1 (y4.length:Int) a0.Turn a0.Idle (cg.mk y4 y2 0 0 y3)).bind λy8 =>
sel (!y8.2.2.1) (some ((cg.mk [] [] 0 0 []),false)) <|
some ((cg.mk y8.2.2.2.1 y8.2.2.2.2.1 y8.1 y8.2.1 y8.2.2.2.2.2),true)
def ll (a0:List Int) (a1:List (List Instr)) (a2:Int):Option (cg):=
(ip a0 a1).bind λy1 =>
(j3 (cg.mk y1.1.Harts y1.1.Boxes y1.1.Turn y1.1.Idle y1.1.Out) a2).bind λy2 =>
sel ((!y1.2)||(!y2.2)) (some (cg.mk [] [] 0 0 [])) <|
some (cg.mk y2.1.Harts y2.1.Boxes y2.1.Turn y2.1.Idle y2.1.Out)
def bu (a0:bk) (a1:List ah) (a2:List Box) (a3:List Int):Option (Int×(List Int)×Int×(List Int)×(List Box)):=
(nth a1 a0.Pc).bind λx1 =>
(sel (x1.Op==1) ((nth a0.Regs x1.Dst).bind λx2 =>
(upd a0.Regs x1.Dst x1.N).bind λr1 =>
some (.inl (w64 (a0.Pc+1),a3,r1,a2))) <|
sel (x1.Op==2) ((nth a0.Regs x1.A).bind λx3 =>
(nth a0.Regs x1.Dst).bind λx4 =>
(upd a0.Regs x1.Dst x3).bind λr2 =>
some (.inl (w64 (a0.Pc+1),a3,r2,a2))) <|
sel (x1.Op==3) ((nth a0.Regs x1.A).bind λx5 =>
(nth a0.Regs x1.B).bind λx6 =>
(f9 x1.N x5 x6).bind λy2 =>
(nth a0.Regs x1.Dst).bind λx7 =>
(upd a0.Regs x1.Dst y2).bind λr3 =>
some (.inl (w64 (a0.Pc+1),a3,r3,a2))) <|
sel (x1.Op==4) (some (.inl (x1.N,a3,a0.Regs,a2))) <|
sel (x1.Op==5) ((nth a0.Regs x1.A).bind λx8 =>
sel (x8==0) (some (.inl (x1.N,a3,a0.Regs,a2))) <|
some (.inl (w64 (a0.Pc+1),a3,a0.Regs,a2))) <|
sel (x1.Op==6) ((nth a2 x1.N).bind λx9 =>
(nth a0.Regs x1.A).bind λx10 =>
(ej (Box.mk x9.Room x9.Items) x10).bind λy3 =>
sel (!y3.1) (some (.inr (3,a0.Regs,a0.Pc,a3,(a2.set (Int.toNat x1.N) (Box.mk x9.Room y3.2))))) <|
some (.inl (w64 (a0.Pc+1),a3,a0.Regs,(a2.set (Int.toNat x1.N) (Box.mk x9.Room y3.2))))) <|
sel (x1.Op==7) ((nth a2 x1.N).bind λx11 =>
(dQ (Box.mk x11.Room x11.Items)).bind λy4 =>
sel (!y4.2.1) (some (.inr (3,a0.Regs,a0.Pc,a3,(a2.set (Int.toNat x1.N) (Box.mk x11.Room y4.2.2))))) <|
(nth a0.Regs x1.Dst).bind λx12 =>
(upd a0.Regs x1.Dst y4.1).bind λr4 =>
some (.inl (w64 (a0.Pc+1),a3,r4,(a2.set (Int.toNat x1.N) (Box.mk x11.Room y4.2.2))))) <|
sel (x1.Op==8) (some (.inr (2,a0.Regs,w64 (a0.Pc+1),a3,a2))) <|
sel (x1.Op==9) ((nth a0.Regs x1.A).bind λx13 =>
(app 8 a3 [x13]).bind λr5 =>
some (.inl (w64 (a0.Pc+1),r5,a0.Regs,a2))) <|
sel (x1.Op==10) (some (.inr (4,a0.Regs,a0.Pc,a3,a2))) <|
some (.inl (w64 (a0.Pc+1),a3,a0.Regs,a2)):Option ((Int×(List Int)×(List Int)×(List Box))⊕(Int×(List Int)×Int×(List Int)×(List Box)))).bind λy1 =>
fu y1 (λo3=>some (1,o3.2.2.1,o3.1,o3.2.1,o3.2.2.2)) (λo4 =>
some o4)
def i7 (a0:Int) (a1:cI):Option (Int×(List bk)×(List Box)×(List Int)):=
(nth a1.Threads a0).bind λx1 =>
(nth a1.Codes a0).bind λx2 =>
(bu (bk.mk x1.Regs x1.Pc) x2 a1.Boxes a1.Out).bind λy1 =>
some (y1.1,(a1.Threads.set (Int.toNat a0) (bk.mk y1.2.1 y1.2.2.1)),y1.2.2.2.2,y1.2.2.2.1)
def cD (a1:Int) (a4:cI) (s1:Int×Int×Int×(List bk)×(List Box)×(List Int)):Option ((Int×Int×Int×(List bk)×(List Box)×(List Int))⊕((Int×Int×Bool×(List bk)×(List Box)×(List Int))⊕(Int×Int×(List bk)×(List Box)×(List Int)))):=
sel ((decide (s1.1>0))&&(decide (s1.2.2.1<a1))) ((i7 s1.2.1 (cI.mk a4.Codes s1.2.2.2.1 s1.2.2.2.2.1 a4.Turn a4.Idle s1.2.2.2.2.2)).bind λy4 =>
(eT a1 s1.2.1 s1.2.2.1 y4.1).bind λy5 =>
sel (!y5.2.2) (some (.inr (.inl (0,0,false,y4.2.1,y4.2.2.1,y4.2.2.2)))) <|
some (.inl (w64 (s1.1-1),y5.1,y5.2.1,y4.2.1,y4.2.2.1,y4.2.2.2))) <|
some (.inr (.inr (s1.2.1,s1.2.2.1,s1.2.2.2.1,s1.2.2.2.2.1,s1.2.2.2.2.2)))
def iA (a0:Int) (a1:Int) (a2:Int) (a3:Int) (a4:cI):Option (Int×Int×Bool×(List bk)×(List Box)×(List Int)):=
(bB (cD a1 a4) (a0,a2,a3,a4.Threads,a4.Boxes,a4.Out)).bind λy1 =>
fu y1 (λo3=>some o3) (λo4 =>
some (o4.1,o4.2.1,true,o4.2.2.1,o4.2.2.2.1,o4.2.2.2.2))
def fE (a0:cI) (s1:Int×(List bk)):Option ((Int×(List bk))⊕((List bk))):=
sel (decide (s1.1<(a0.Threads.length:Int))) ((nth a0.Threads s1.1).bind λx1 =>
(aU x1.Regs).bind λy8 =>
(app 32 s1.2 [(bk.mk y8 x1.Pc)]).bind λr1 =>
some (.inl (w64 (s1.1+1),r1))) <|
some (.inr s1.2)
def lm (a0:cI) (a1:Int):Option (cI×Bool):=
(dC (cI.mk a0.Codes a0.Threads a0.Boxes a0.Turn a0.Idle a0.Out)).bind λy1 =>
sel (((!y1)||(decide (a1<0)))||(decide (a1>100000))) (some ((cI.mk [] [] [] 0 0 []),false)) <|
(gu a0.Codes).bind λy2 =>
(er a0.Boxes).bind λy3 =>
(aU a0.Out).bind λy4 =>
(bB (fE a0) (0,[])).bind λy5 =>
(iA a1 (y5.length:Int) a0.Turn a0.Idle (cI.mk y2 y5 y3 0 0 y4)).bind λy9 =>
some ((cI.mk y2 y9.2.2.2.1 y9.2.2.2.2.1 y9.1 y9.2.1 y9.2.2.2.2.2),true)
def mH (a0:List Int) (a1:List (List ah)) (a2:Int):Option (cI):=
(cY a0 a1).bind λy1 =>
(lm (cI.mk y1.1.Codes y1.1.Threads y1.1.Boxes y1.1.Turn y1.1.Idle y1.1.Out) a2).bind λy2 =>
sel ((!y1.2)||(!y2.2)) (some (cI.mk [] [] [] 0 0 [])) <|
some (cI.mk y2.1.Codes y2.1.Threads y2.1.Boxes y2.1.Turn y2.1.Idle y2.1.Out)
def eJ (y1:(List Int)×(List (List ah))) (y6:cI) (y8:cg) (s1:Int) (s2:Int):Option (Int⊕(Bool⊕Unit)):=
sel (decide (s2<8)) ((nth y8.Harts s1).bind λx1 =>
(nth y6.Threads s1).bind λx2 =>
(sel ((y8.Harts.length:Int) !=(y1.2.length:Int)) (some true) ((nth [8,9,18,19,20,21,22,23] s2).bind λb_1=>(nth x1.Regs b_1).bind λb_2=>(nth x2.Regs s2).bind λb_3=>some (b_2 !=b_3))).bind λb4 =>
sel b4 (some (.inr (.inl false))) <|
some (.inl (w64 (s2+1)))) <|
some (.inr (.inr ()))
def eK (y1:(List Int)×(List (List ah))) (y6:cI) (y8:cg) (s1:Int):Option (Int⊕(Bool⊕Unit)):=
sel (decide (s1<(y1.2.length:Int))) ((bB (eJ y1 y6 y8 s1) 0).bind λy12 =>
fu y12 (λo5=>some (.inr (.inl o5))) (λo6 =>
some (.inl (w64 (s1+1))))) <|
some (.inr (.inr ()))
def jr (k:Nat) (a0:List Int):Option (Bool):=
sel (decide ((a0.length:Int)>1048576)) (some true) <|
(gr k a0).bind λy1 =>
(cY y1.1 y1.2).bind λy2 =>
(dG y1.1 y1.2).bind λy3 =>
(sel (y2.2 !=y3.2) (some true) ((eS (cI.mk y2.1.Codes y2.1.Threads y2.1.Boxes y2.1.Turn y2.1.Idle y2.1.Out) (cI.mk y3.1.Codes y3.1.Threads y3.1.Boxes y3.1.Turn y3.1.Idle y3.1.Out)).bind λy4=>some (!y4)):Option (Bool)).bind λb1 =>
sel (b1||(!y2.2)) ((sel (y2.2==y3.2) ((eS (cI.mk y2.1.Codes y2.1.Threads y2.1.Boxes y2.1.Turn y2.1.Idle y2.1.Out) (cI.mk y3.1.Codes y3.1.Threads y3.1.Boxes y3.1.Turn y3.1.Idle y3.1.Out)).bind λy5=>some y5) (some false):Option (Bool)).bind λb2 =>
some b2) <|
(mH y1.1 y1.2 120).bind λy6 =>
sel (((y6.Threads.length:Int) !=(y1.2.length:Int))||(decide (y6.Idle<(y1.2.length:Int)))) (some ((y6.Threads.length:Int)==(y1.2.length:Int))) <|
(lk y1.2 8).bind λy7 =>
(ll y1.1 y7 1200).bind λy8 =>
(bB (eK y1 y6 y8) 0).bind λy9 =>
fu y9 (λo7=>some o7) (λo8 =>
some true)
end
noncomputable section
def js (a0:List Instr):Option (al×Bool):=
sel (decide ((a0.length:Int)>9987)) (some ((al.mk [] 0 []),false)) <|
(pd [0] a0).bind λy1 =>
sel (!y1.2) (some ((al.mk [] 0 []),false)) <|
(mk 8 32 0).bind λr1 =>
(nth r1 2).bind λx1 =>
(upd r1 2 (w64 (4*(y1.1.length:Int)))).bind λr2 =>
(xJ 8 y1.1 12 0).bind λr3 =>
some ((al.mk r2 4 r3),true)
def jt (a1:List (List Instr)) (s1:Int×(List al)):Option ((Int×(List al))⊕((cg×Bool)⊕((List al)))):=
sel (decide (s1.1<(a1.length:Int))) ((nth a1 s1.1).bind λx1 =>
(js x1).bind λy7 =>
sel (!y7.2) (some (.inr (.inl ((cg.mk [] [] 0 0 []),false)))) <|
(app 56 s1.2 [(al.mk y7.1.Regs y7.1.Pc y7.1.Mem)]).bind λr1 =>
some (.inl (w64 (s1.1+1),r1))) <|
some (.inr (.inr s1.2))
def qV (a0:List Int) (a1:List (List Instr)):Option (cg×Bool):=
(dP a0).bind λy1 =>
(sel (!y1) (some true) ((aE (a1.length:Int) 1 3).bind λy2=>some (!y2)):Option (Bool)).bind λb1 =>
sel b1 (some ((cg.mk [] [] 0 0 []),false)) <|
(ik a0).bind λy3 =>
(bB (jt a1) (0,[])).bind λy4 =>
fu y4 (λo3=>some o3) (λo4 =>
some ((cg.mk o4 y3 0 0 []),true))
def ln (a0:al):Option (Bool):=
(dt a0.Regs 32).bind λy1 =>
(sel y1 ((nth a0.Regs 0).bind λx1=>some (x1==0)) (some false):Option (Bool)).bind λb1 =>
(sel b1 ((cM a0.Pc).bind λy2=>some y2) (some false):Option (Bool)).bind λb2 =>
(sel (b2&&(decide ((a0.Mem.length:Int)<=10000))) ((dt a0.Mem (a0.Mem.length:Int)).bind λy3=>some y3) (some false):Option (Bool)).bind λb3 =>
some b3
def ju (a0:cg) (s1:Int):Option (Int⊕(Bool⊕Unit)):=
sel (decide (s1<(a0.Harts.length:Int))) ((nth a0.Harts s1).bind λx1 =>
(ln (al.mk x1.Regs x1.Pc x1.Mem)).bind λy8 =>
sel (!y8) (some (.inr (.inl false))) <|
some (.inl (w64 (s1+1)))) <|
some (.inr (.inr ()))
def qW (a0:cg):Option (Bool):=
(aE (a0.Harts.length:Int) 1 3).bind λy1 =>
(sel (!y1) (some true) ((io a0.Boxes).bind λy2=>some (!y2)):Option (Bool)).bind λb1 =>
(sel b1 (some true) ((aE a0.Turn 0 (w64 ((a0.Harts.length:Int)-1))).bind λy3=>some (!y3)):Option (Bool)).bind λb2 =>
(sel b2 (some true) ((aE a0.Idle 0 (a0.Harts.length:Int)).bind λy4=>some (!y4)):Option (Bool)).bind λb3 =>
sel b3 (some false) <|
(bB (ju a0) 0).bind λy5 =>
fu y5 (λo3=>some o3) (λo4 =>
(dt a0.Out (a0.Out.length:Int)).bind λy9 =>
some y9)
def gR (a0:List Int) (a1:Int):Option (Bool):=
some (((decide (a1>=0))&&((Int.tmod a1 4)==0))&&(decide ((w64 (Int.tdiv a1 4))<(a0.length:Int))))
def mr (a0:Int) (s1:Int):Option (Int⊕(Int⊕Unit)):=
sel (decide (s1<=11)) ((bg a0 12 3).bind λy5 =>
(mn s1).bind λy6 =>
(sel (y5==y6) ((bg a0 25 7).bind λy7=>(mo s1).bind λy8=>some (y7==y8)) (some false):Option (Bool)).bind λb1 =>
sel b1 (some (.inr (.inl s1))) <|
some (.inl (w64 (s1+1)))) <|
some (.inr (.inr ()))
def mc (a0:Int):Option (Int):=
(bg a0 0 7).bind λy1 =>
sel (y1==51) ((bB (mr a0) 1).bind λy2 =>
fu y2 (λo3=>some o3) (λo4 =>
some 0)) <|
sel (y1==19) ((bg a0 12 3).bind λy9 =>
sel (y9==0) (some 12) <|
some 13) <|
sel (y1==3) (some 14) <|
sel (y1==103) (some 15) <|
sel (y1==35) (some 16) <|
sel (y1==99) ((bg a0 12 3).bind λy10 =>
sel (y10==0) (some 17) <|
some 18) <|
sel (y1==55) (some 19) <|
sel (y1==111) (some 20) <|
sel (y1==115) (some 21) <|
some 0
def bb (a0:Int) (a1:Int):Option (Instr):=
(bg a1 7 5).bind λy1 =>
(bg a1 15 5).bind λy2 =>
(bg a1 20 5).bind λy3 =>
sel (decide (a0<=11)) (some (Instr.mk a0 y1 y2 y3 0)) <|
sel (decide (a0<=15)) ((bg a1 20 12).bind λy4 =>
(dF y4 12).bind λy5 =>
some (Instr.mk a0 y1 y2 0 y5)) <|
sel (a0==16) ((bg a1 25 7).bind λy6 =>
(dF (w64 ((w64 (y6*32))+y1)) 12).bind λy7 =>
some (Instr.mk a0 0 y2 y3 y7)) <|
sel ((a0==17)||(a0==18)) ((bg a1 31 1).bind λy8 =>
(bg a1 7 1).bind λy9 =>
(bg a1 25 6).bind λy10 =>
(bg a1 8 4).bind λy11 =>
(dF (w64 ((w64 ((w64 ((w64 (y8*4096))+(w64 (y9*2048))))+(w64 (y10*32))))+(w64 (y11*2)))) 13).bind λy12 =>
some (Instr.mk a0 0 y2 y3 y12)) <|
sel (a0==19) ((bg a1 12 20).bind λy13 =>
some (Instr.mk a0 y1 0 0 y13)) <|
sel (a0==20) ((bg a1 31 1).bind λy14 =>
(bg a1 12 8).bind λy15 =>
(bg a1 20 1).bind λy16 =>
(bg a1 21 10).bind λy17 =>
(dF (w64 ((w64 ((w64 ((w64 (y14*1048576))+(w64 (y15*4096))))+(w64 (y16*2048))))+(w64 (y17*2)))) 21).bind λy18 =>
some (Instr.mk a0 y1 0 0 y18)) <|
some (Instr.mk a0 0 0 0 0)
def d7 (a0:Int):Option (Instr×Bool):=
(aE a0 0 4294967295).bind λy1 =>
(sel (!y1) (some true) ((mc a0).bind λy2=>some (y2==0)):Option (Bool)).bind λb1 =>
sel b1 (some ((Instr.mk 0 0 0 0 0),false)) <|
(mc a0).bind λy3 =>
(bb y3 a0).bind λy4 =>
(cB y4).bind λy5 =>
sel (y5 !=a0) (some ((Instr.mk 0 0 0 0 0),false)) <|
some (y4,true)
def et (a0:al) (a1:Int) (a2:Int):Option ((List Int)):=
sel (a1 !=0) ((nth a0.Regs a1).bind λx1 =>
(upd a0.Regs a1 a2).bind λr1 =>
some r1) <|
some a0.Regs
def wZ (a0:al) (a1:Instr):Option (Bool×(List Int)×Int×(List Int)):=
(nth a0.Regs a1.Rs).bind λx1 =>
(cn (w64 (x1+a1.Imm))).bind λy1 =>
(gR a0.Mem y1).bind λy2 =>
sel (!y2) (some (false,a0.Regs,a0.Pc,a0.Mem)) <|
(sel (a1.Op==14) ((nth a0.Mem (w64 (Int.tdiv y1 4))).bind λx2 =>
(et (al.mk a0.Regs a0.Pc a0.Mem) a1.Rd x2).bind λy4 =>
some (y4,a0.Mem)) <|
(nth a0.Regs a1.Rt).bind λx3 =>
(nth a0.Mem (w64 (Int.tdiv y1 4))).bind λx4 =>
(upd a0.Mem (w64 (Int.tdiv y1 4)) x3).bind λr1 =>
some (a0.Regs,r1):Option ((List Int)×(List Int))).bind λy3 =>
some (true,y3.1,w64 (a0.Pc+4),y3.2)
def rQ (a0:al) (a1:Instr):Option ((List Int)×Int):=
(cn (w64 (a0.Pc+4))).bind λy1 =>
(nth a0.Regs a1.Rs).bind λx1 =>
(nth a0.Regs a1.Rt).bind λx2 =>
sel (a1.Op==15) ((nth a0.Regs a1.Rs).bind λx3 =>
(cn (w64 (x3+a1.Imm))).bind λy2 =>
(et (al.mk a0.Regs a0.Pc a0.Mem) a1.Rd y1).bind λy3 =>
some (y3,w64 (y2-(aG .and .i64 y2 1)))) <|
sel (a1.Op==20) ((et (al.mk a0.Regs a0.Pc a0.Mem) a1.Rd y1).bind λy4 =>
(cn (w64 (a0.Pc+a1.Imm))).bind λy5 =>
some (y4,y5)) <|
sel ((x1==x2)==(a1.Op==17)) ((cn (w64 (a0.Pc+a1.Imm))).bind λy6 =>
some (a0.Regs,y6)) <|
some (a0.Regs,y1)
def pQ (a0:Int) (a1:Int) (a2:Int):Option (Int):=
(nth [8,9,10,11,12,3,1,2,6,7,5] (w64 (a0-1))).bind λx1 =>
(iV x1 a1 a2).bind λy1 =>
some y1.1
def de (a0:al) (a1:Instr):Option (Bool×(List Int)×Int×(List Int)):=
(nth a0.Regs a1.Rs).bind λx1 =>
((sel (a1.Op==14) (some (a1.Op==14)) <|
some (a1.Op==16):Option (Bool)).bind λy2 =>
sel y2 ((wZ (al.mk a0.Regs a0.Pc a0.Mem) a1).bind λy3 =>
some (.inr (y3.1,y3.2.1,y3.2.2.1,y3.2.2.2))) <|
(sel (a1.Op==15) (some (a1.Op==15)) <|
sel (a1.Op==20) (some (a1.Op==20)) <|
sel (a1.Op==17) (some (a1.Op==17)) <|
some (a1.Op==18):Option (Bool)).bind λy4 =>
sel y4 ((rQ (al.mk a0.Regs a0.Pc a0.Mem) a1).bind λy5 =>
some (.inr (true,y5.1,y5.2,a0.Mem))) <|
sel (a1.Op==12) ((cn (w64 (x1+a1.Imm))).bind λy6 =>
(et (al.mk a0.Regs a0.Pc a0.Mem) a1.Rd y6).bind λy7 =>
some (.inl y7)) <|
sel (a1.Op==13) ((ei x1).bind λy8 =>
(ei a1.Imm).bind λy9 =>
(fN (decide (y8<y9))).bind λy10 =>
(et (al.mk a0.Regs a0.Pc a0.Mem) a1.Rd y10).bind λy11 =>
some (.inl y11)) <|
sel (a1.Op==19) ((cn (w64 (a1.Imm*4096))).bind λy12 =>
(et (al.mk a0.Regs a0.Pc a0.Mem) a1.Rd y12).bind λy13 =>
some (.inl y13)) <|
(nth a0.Regs a1.Rt).bind λx2 =>
(pQ a1.Op x1 x2).bind λy14 =>
(et (al.mk a0.Regs a0.Pc a0.Mem) a1.Rd y14).bind λy15 =>
some (.inl y15):Option (((List Int))⊕(Bool×(List Int)×Int×(List Int)))).bind λy1 =>
fu y1 (λo3=>some (true,o3,w64 (a0.Pc+4),a0.Mem)) (λo4 =>
some o4)
def gS (a0:al):Option (Int×(List Int)×Int×(List Int)):=
(gR a0.Mem a0.Pc).bind λy1 =>
sel (!y1) (some (3,a0.Regs,a0.Pc,a0.Mem)) <|
(nth a0.Mem (w64 (Int.tdiv a0.Pc 4))).bind λx1 =>
(ei x1).bind λy2 =>
(d7 y2).bind λy3 =>
sel (!y3.2) (some (3,a0.Regs,a0.Pc,a0.Mem)) <|
sel (y3.1.Op==21) (some (2,a0.Regs,a0.Pc,a0.Mem)) <|
(de (al.mk a0.Regs a0.Pc a0.Mem) y3.1).bind λy4 =>
sel (!y4.1) (some (3,y4.2.1,y4.2.2.1,y4.2.2.2)) <|
some (1,y4.2.1,y4.2.2.1,y4.2.2.2)
end
end Go.Proofs.YtgcmopfhafoabaaGreatDoor.N
namespace Go.Proofs.YtgcmopfhafoabaaGreatDoor.X
noncomputable section
variable {σ τ ρ ρ' α:Type}
theorem yu (x:Int):w64 x=if 9223372036854775808<=x%18446744073709551616 then x%18446744073709551616-18446744073709551616 else x%18446744073709551616:=by
 show IntKind.wrap .i64 x=_
 simp [IntKind.wrap,IntKind.signed,IntKind.bits]
theorem aO {x:Int} (h1 : -9223372036854775808<=x) (h2:x<=9223372036854775807):w64 x=x:=by
 rw [yu]
 split <;> omega
theorem j6 {f:σ->Option (σ⊕ρ)} (st:Nat->σ) (n:Nat) {r:ρ} (h:∀ i,i<n->f (st i)=some (.inl (st (i+1)))) (he:f (st n)=some (.inr r)):bB f (st 0)=some r:=by
 have key:∀ m,m<=n->bB f (st (n-m))=some r:=by
  intro m
  induction m with
  | zero=>intro _; rw [c6]; simp [he]
  | succ m ih =>
   intro hm
   rw [c6,h (n-(m+1)) (by omega)]
   have:=ih (by omega)
   rw [show n-m=n-(m+1)+1 by omega] at this
   exact this
 have:=key n (Nat.le_refl n)
 rwa [Nat.sub_self] at this
theorem xK {f:σ->Option (σ⊕ρ)} (I:σ->Prop) (μ:σ->Nat) (Q:ρ->Prop) (h:∀ s,I s->(∃ s',f s=some (.inl s')/\I s'/\μ s'<μ s)\/(∃ r,f s=some (.inr r)/\Q r)):∀ {s:σ},I s->∃ r,bB f s=some r/\Q r:=by
 have key:∀ n s,μ s<=n->I s->∃ r,bB f s=some r/\Q r:=by
  intro n
  induction n with
  | zero =>
   intro s hs hI
   rcases h s hI with ⟨s',_,_,h3⟩ | ⟨r,h1,h2⟩
   ·omega
   ·exact ⟨r,by rw [c6,h1],h2⟩
  | succ n ih =>
   intro s hs hI
   rcases h s hI with ⟨s',h1,h2,h3⟩ | ⟨r,h1,h2⟩
   ·obtain ⟨r,k1,k2⟩:=ih s' (by omega) h2
    exact ⟨r,by rw [c6,h1]; exact k1,k2⟩
   ·exact ⟨r,by rw [c6,h1],h2⟩
 exact λ{s} hI=>key _ s (Nat.le_refl _) hI
theorem cJ {l:List α} {i:Nat} (h:i<l.length):nth l (i:Int)=some l[i]:=by
 unfold nth
 rw [if_neg (by omega)]
 simp [List.getElem?_eq_getElem h]
theorem sQ {l:List α} {i:Nat} (h:i<l.length) (x:α):upd l (i:Int) x=some (l.set i x):=by
 unfold upd
 rw [if_pos ⟨by omega,by omega⟩]
 simp
theorem dN {bytes:Nat} {l m:List α} (h:(l.length+m.length)*bytes<=140737488355328):app bytes l m=some (l++m):=by
 unfold app CX
 rw [Nat.ble_eq_true_of_le h]
theorem bM {α:Type} {b:Bool} (h:b=true) (x y:α):sel b x y=x:=by subst h; rfl
theorem ak {α:Type} {b:Bool} (h:b=false) (x y:α):sel b x y=y:=by subst h; rfl
theorem ab {α:Type} {b:Bool} {x y r:α} (h:b=false) (k:y=r):sel b x y=r:=by subst h; exact k
theorem dH {i:Nat} (h:i<=9223372036854775806):w64 ((i:Int)+1)=((i+1:Nat):Int):=by rw [aO (by omega) (by omega)]; omega
def zu (mk:α->Int->Option (Int×α)):List α->Int->Option (Int×List α)
 | [],k=>some (k,[])
 | x::xs,k=>match mk x k with
  | some (k1,x')=>match zu mk xs k1 with
   | some (k2,xs')=>some (k2,x'::xs')
   | none=>none
  | none=>none
def AO (hd:α->Int->Int->Prop):List α->Int->Int->Prop
 | [],k,k'=>k'=k
 | x::xs,k,k'=>∃ k1,hd x k k1/\AO hd xs k1 k'
def MH (mk:α->Int->Option (Int×α)) (hd:α->Int->Int->Prop) (sz:α->Nat):Prop:=
 ∀ x (k:Int),1<=k->k+sz x<=1000000000000->∃ x',mk x k=some (k+sz x,x')/\hd x' k (k+sz x)
def szs (sz:α->Nat):List α->Nat
 | []=>0
 | x::xs=>sz x+szs sz xs
theorem MH.list {mk:α->Int->Option (Int×α)} {hd:α->Int->Int->Prop} {sz:α->Nat} (h:MH mk hd sz):∀ (l:List α) (k:Int),1<=k->k+szs sz l<=1000000000000->∃ l',zu mk l k=some (k+szs sz l,l')/\AO hd l' k (k+szs sz l)/\l'.length=l.length
 | [],k,_,_=>⟨[],by simp [zu,szs],by simp [AO,szs],rfl⟩
 | x::xs,k,h1,h2=>by
  simp only [szs] at h2
  obtain ⟨x',k1,k2⟩:=h x k h1 (by omega)
  obtain ⟨l',k3,k4,k5⟩:=MH.list h xs (k+sz x) (by omega) (by omega)
  refine ⟨x'::l',?_,⟨_,k2,?_⟩,by simp [k5]⟩
  ·simp only [zu,k1,k3,szs]
   congr 2
   omega
  ·rw [show k+(szs sz (x::xs):Nat)=k+sz x+szs sz xs by simp only [szs]; omega]
   exact k4
end
noncomputable section
theorem rp {n:Nat} (h:n<9223372036854775808):IntKind.wrap .i64 (n:Int)=n:=by
 have:=aO (x:=(n:Int)) (by omega) (by omega)
 exact this
theorem oB {n:Nat} (h:n<18446744073709551616):(BitVec.ofInt 64 (n:Int)).toNat=n:=by
 simp only [BitVec.ofInt_natCast,BitVec.toNat_ofNat]
 exact Nat.mod_eq_of_lt h
theorem Cc {a b:Nat} (ha:a<9223372036854775808) (hb:b<9223372036854775808):aG .and .i64 (a:Int) (b:Int)=((a &&& b:Nat):Int):=by
 show IntKind.wrap .i64 ((BitVec.ofInt 64 (a:Int) &&& BitVec.ofInt 64 (b:Int)).toNat:Int)=_
 rw [BitVec.toNat_and,oB (by omega),oB (by omega)]
 exact rp (Nat.lt_of_le_of_lt Nat.and_le_left ha)
theorem Ds {a b:Nat} (ha:a<9223372036854775808) (hb:b<9223372036854775808):aG .or .i64 (a:Int) (b:Int)=((a ||| b:Nat):Int):=by
 show IntKind.wrap .i64 ((BitVec.ofInt 64 (a:Int) ||| BitVec.ofInt 64 (b:Int)).toNat:Int)=_
 rw [BitVec.toNat_or,oB (by omega),oB (by omega)]
 exact rp (Nat.or_lt_two_pow (n:=63) ha hb)
theorem vm {a k:Nat} (ha:a<9223372036854775808) (hk:k<=62):aG .and .i64 (a:Int) (((2^k:Nat):Int)-1)=((a%2^k:Nat):Int):=by
 have h1:2^k<=2^62:=Nat.pow_le_pow_right (by omega) hk
 have h2:0<2^k:=Nat.two_pow_pos k
 have h3:(2:Nat)^62=4611686018427387904:=by decide
 rw [show (((2^k:Nat):Int)-1)=((2^k-1:Nat):Int) by omega,Cc ha (by omega),Nat.and_two_pow_sub_one_eq_mod]
theorem eF {i x y:Nat} (h:y<2^i):2^i*x+y=2^i*x ||| y:=(Nat.two_pow_add_eq_or_of_lt h x)
theorem rR {x k:Nat} (hk:k<=62) (hx:x*2^k<9223372036854775808):shO .shl .i64 (x:Int) (k:Int)=some ((x*2^k:Nat):Int):=by
 unfold shO
 rw [if_neg (by omega)]
 have hm:min ((k:Int).toNat) (IntKind.bits .i64)=k:=by
  have:IntKind.bits .i64=64:=rfl
  rw [this]; omega
 simp only [hm]
 congr 1
 show w64 _=_
 have:(x:Int)*2^k=((x*2^k:Nat):Int):=by simp
 rw [this]
 exact aO (by omega) (by omega)
theorem zw {x k:Nat} (hk:k<=62):shO .shr .i64 (x:Int) (k:Int)=some ((x/2^k:Nat):Int):=by
 unfold shO
 rw [if_neg (by omega)]
 have hm:min ((k:Int).toNat) (IntKind.bits .i64)=k:=by
  have:IntKind.bits .i64=64:=rfl
  rw [this]; omega
 simp only [hm]
 congr 1
 rw [show ((2:Int)^k)=((2^k:Nat):Int) by simp,Int.fdiv_eq_ediv_of_nonneg _ (Int.natCast_nonneg _)]
 rfl
end
end Go.Proofs.YtgcmopfhafoabaaGreatDoor.X
namespace Go.Proofs.YtgcmopfhafoabaaGreatDoor.N
open Go.Proofs.YtgcmopfhafoabaaGreatDoor.X
noncomputable section
theorem dT (b c:Bool):sel b (some c) (some false)=some (b&&c):=by cases b <;> rfl
theorem vn (k:Nat) (hk:k<=62):dn (k:Int)=some ((2^k:Nat):Int):=by
 unfold dn
 have h63:∀ i,i<=62->2^i<=4611686018427387904:=λi hi=>Nat.pow_le_pow_right (by omega:0<2) hi
 have:=j6 (f:=gY (k:Int)) (λi=>(((2^i:Nat):Int),(i:Int))) k (r:=((2^k:Nat):Int)) (λi hi=>by
  unfold gY
  have h1:=h63 (i+1) (by omega)
  rw [bM (by simpa using hi),dH (by omega)]
  rw [Nat.pow_succ] at h1 ⊢
  generalize 2^i=x at h1 ⊢
  rw [aO (by omega) (by omega)]
  simp) (by
  unfold gY
  rw [ak (by simp)])
 rw [show ((2^0:Nat):Int)=1 from rfl,show ((0:Nat):Int)=0 from rfl] at this
 rw [this]
 rfl
theorem fw (n k:Nat) (hk:k<=62) (hn:n*2^k<9223372036854775808):bJ (n:Int) (k:Int)=some ((n*2^k:Nat):Int):=by
 unfold bJ
 rw [vn k hk]
 simp only [ob9]
 rw [show (n:Int)*((2^k:Nat):Int)=((n*2^k:Nat):Int) by simp,aO (by omega) (by omega)]
theorem aB (u low many:Nat) (hu:u<4294967296) (hl:low<=31) (hm:1<=many) (hm2:many+low<=32):bg (u:Int) (low:Int) (many:Int)=some ((u/2^low%2^many:Nat):Int):=by
 unfold bg aE
 simp only [ob9]
 have w1:w64 (32-(low:Int))=32-low:=aO (by omega) (by omega)
 have e1:(decide ((u:Int)>=0)&&decide ((u:Int)<=4294967295))=true:=by simp; omega
 have e2:(decide ((low:Int)>=0)&&decide ((low:Int)<=31))=true:=by simp; omega
 have e3:(decide ((many:Int)>=1)&&decide ((many:Int)<=32-(low:Int)))=true:=by simp; omega
 rw [e1,e2,w1,e3]
 simp only [Bool.not_true,sel,ob9]
 rw [vn low (by omega),vn many (by omega)]
 simp only [ob9]
 have p1:=Nat.two_pow_pos low
 have p2:=Nat.two_pow_pos many
 unfold rM ox
 rw [if_neg (by omega)]
 simp only [ob9]
 rw [if_neg (by omega)]
 simp only [ob9]
 congr 1
 have q1:Int.tdiv (u:Int) ((2^low:Nat):Int)=((u/2^low:Nat):Int):=rfl
 have hle:u/2^low<=u:=Nat.div_le_self _ _
 rw [q1]
 generalize u/2^low=q at hle ⊢
 show Int.tmod (w64 _) _=_
 rw [aO (by omega) (by omega)]
 rfl
theorem ib1 (u low many:Nat) (hu:u<4294967296) (hl:low<=31) (hm:1<=many) (hm2:many+low<=32):(shO .shr .i64 (u:Int) (low:Int)).bind (λd1 =>
   (shO .shl .i64 1 (many:Int)).bind λd2=>some (aG .and .i64 d1 (w64 (d2-1)))) =
  some ((u/2^low%2^many:Nat):Int):=by
 have hp:2^many<=2^32:=Nat.pow_le_pow_right (by omega) (by omega)
 have h3:(2:Nat)^32=4294967296:=by decide
 rw [h3] at hp
 have h1:shO .shl .i64 ((1:Nat):Int) (many:Int)=_:=rR (x:=1) (k:=many) (by omega) (by omega)
 rw [Nat.one_mul] at h1
 have hle:u/2^low<=u:=Nat.div_le_self _ _
 have h4:=Nat.two_pow_pos many
 have hX:∀ X:Nat,0<X->X<=4294967296->w64 ((X:Int)-1)=(X:Int)-1:=λX h1 h2=>aO (by omega) (by omega)
 refine aa (zw (x:=u) (k:=low) (by omega)) ?_
 refine aa h1 ?_
 rw [hX _ h4 hp]
 congr 1
 exact vm (by omega) (by omega)
theorem bN (u low many:Nat) (hu:u<4294967296) (hl:low<=31) (hm:1<=many) (hm2:many+low<=32):bL (u:Int) (low:Int) (many:Int)=some ((u/2^low%2^many:Nat):Int):=by
 have w1:w64 (32-(low:Int))=32-low:=aO (by omega) (by omega)
 have e1:(decide ((u:Int)>=0)&&decide ((u:Int)<4294967296))=true:=by rw [decide_eq_true (by omega),decide_eq_true (by omega)]; rfl
 have e2:decide ((low:Int)<0)=false:=decide_eq_false (by omega)
 have e3:decide ((low:Int)>31)=false:=decide_eq_false (by omega)
 have e4:decide ((many:Int)<1)=false:=decide_eq_false (by omega)
 have e5:decide ((many:Int)>32-(low:Int))=false:=decide_eq_false (by omega)
 unfold bL eD
 rw [e1,w1,e2,e3,e4,e5]
 exact ib1 u low many hu hl hm hm2
theorem j7 (u low many place:Nat) (hu:u<4294967296) (hl:low<=31) (hm:1<=many) (hm2:many+low<=32) (hp:place+many<=32):az (low:Int) (many:Int) (place:Int) (u:Int)=some ((u/2^low%2^many*2^place:Nat):Int):=by
 unfold az
 rw [bN u low many hu hl hm hm2]
 simp only [ob9]
 have h1:u/2^low%2^many<2^many:=Nat.mod_lt _ (Nat.two_pow_pos _)
 have h2:u/2^low%2^many*2^place<2^many*2^place:=(Nat.mul_lt_mul_right (Nat.two_pow_pos _)).2 h1
 rw [<-Nat.pow_add] at h2
 have h3:2^(many+place)<=2^32:=Nat.pow_le_pow_right (by omega) (by omega)
 have h4:(2:Nat)^32=4294967296:=by decide
 rw [rR (by omega) (by omega)]
 rfl
theorem xL {op:Int} (h:1<=op/\op<=11):bW op=some 82:=by unfold bW; rw [bM (by simp; omega)]
theorem xM {op:Int} (h:12<=op/\op<=15):bW op=some 73:=by unfold bW; rw [ak (by simp; omega),bM (by simp; omega)]
theorem w6 {op:Int} (h:op=16):bW op=some 83:=by subst h; rfl
theorem xN {op:Int} (h:op=17\/op=18):bW op=some 66:=by rcases h with rfl | rfl <;> rfl
theorem yv {op:Int} (h:op=19):bW op=some 85:=by subst h; rfl
theorem yw {op:Int} (h:op=20):bW op=some 74:=by subst h; rfl
theorem AP {op:Int} (h:op=21):bW op=some 69:=by subst h; rfl
theorem Ea {op:Int} (h:op<1\/21<op):bW op=some 32:=by
 unfold bW
 rw [ak (by simp; omega),ak (by simp; omega),ak (by simp; omega),ak (by simp; omega),ak (by simp; omega),ak (by simp; omega),ak (by simp; omega)]
theorem xO (op:Int):(1<=op/\op<=11)\/(12<=op/\op<=15)\/op=16\/(op=17\/op=18)\/op=19\/op=20\/op=21\/(op<1\/21<op):=by omega
end
noncomputable section
theorem tab (k:Nat) (h:k<21):∃ (x:mz) (f3 f7 opc:Nat),nth lH (k:Int)=some x/\x.funct3=f3/\x.funct7=f7/\x.opcode=opc/\f3<8/\f7<128/\opc<128/\nth [0,0,0,4,6,7,6,4,1,5,2,0,3,2,0,2,0,1,0,0,0] (k:Int)=some (f3:Int) /\
  (k<11->nth [0,32,1,1,1,0,0,0,0,32,0] (k:Int)=some (f7:Int)/\opc=51)/\(k=11\/k=12->opc=19)/\(k=13->opc=3)/\(k=14->opc=103)/\(k=15->opc=35)/\(k=16\/k=17->opc=99)/\(k=18->opc=55)/\(k=19->opc=111)/\(k=20->opc=115):=by
 have h':k=0\/k=1\/k=2\/k=3\/k=4\/k=5\/k=6\/k=7\/k=8\/k=9\/k=10\/k=11\/k=12\/k=13\/k=14\/k=15\/k=16\/k=17\/k=18\/k=19\/k=20:=by omega
 rcases h' with rfl | rfl | rfl | rfl | rfl | rfl | rfl | rfl | rfl | rfl | rfl | rfl | rfl | rfl | rfl | rfl | rfl | rfl | rfl | rfl | rfl
 ·exact ⟨_,0,0,51,rfl,rfl,rfl,rfl,by decide,by decide,by decide,rfl,λh=>⟨rfl,rfl⟩,by decide,by decide,by decide,by decide,by decide,by decide,by decide,by decide⟩
 ·exact ⟨_,0,32,51,rfl,rfl,rfl,rfl,by decide,by decide,by decide,rfl,λh=>⟨rfl,rfl⟩,by decide,by decide,by decide,by decide,by decide,by decide,by decide,by decide⟩
 ·exact ⟨_,0,1,51,rfl,rfl,rfl,rfl,by decide,by decide,by decide,rfl,λh=>⟨rfl,rfl⟩,by decide,by decide,by decide,by decide,by decide,by decide,by decide,by decide⟩
 ·exact ⟨_,4,1,51,rfl,rfl,rfl,rfl,by decide,by decide,by decide,rfl,λh=>⟨rfl,rfl⟩,by decide,by decide,by decide,by decide,by decide,by decide,by decide,by decide⟩
 ·exact ⟨_,6,1,51,rfl,rfl,rfl,rfl,by decide,by decide,by decide,rfl,λh=>⟨rfl,rfl⟩,by decide,by decide,by decide,by decide,by decide,by decide,by decide,by decide⟩
 ·exact ⟨_,7,0,51,rfl,rfl,rfl,rfl,by decide,by decide,by decide,rfl,λh=>⟨rfl,rfl⟩,by decide,by decide,by decide,by decide,by decide,by decide,by decide,by decide⟩
 ·exact ⟨_,6,0,51,rfl,rfl,rfl,rfl,by decide,by decide,by decide,rfl,λh=>⟨rfl,rfl⟩,by decide,by decide,by decide,by decide,by decide,by decide,by decide,by decide⟩
 ·exact ⟨_,4,0,51,rfl,rfl,rfl,rfl,by decide,by decide,by decide,rfl,λh=>⟨rfl,rfl⟩,by decide,by decide,by decide,by decide,by decide,by decide,by decide,by decide⟩
 ·exact ⟨_,1,0,51,rfl,rfl,rfl,rfl,by decide,by decide,by decide,rfl,λh=>⟨rfl,rfl⟩,by decide,by decide,by decide,by decide,by decide,by decide,by decide,by decide⟩
 ·exact ⟨_,5,32,51,rfl,rfl,rfl,rfl,by decide,by decide,by decide,rfl,λh=>⟨rfl,rfl⟩,by decide,by decide,by decide,by decide,by decide,by decide,by decide,by decide⟩
 ·exact ⟨_,2,0,51,rfl,rfl,rfl,rfl,by decide,by decide,by decide,rfl,λh=>⟨rfl,rfl⟩,by decide,by decide,by decide,by decide,by decide,by decide,by decide,by decide⟩
 ·exact ⟨_,0,0,19,rfl,rfl,rfl,rfl,by decide,by decide,by decide,rfl,λh=>absurd h (by decide),by decide,by decide,by decide,by decide,by decide,by decide,by decide,by decide⟩
 ·exact ⟨_,3,0,19,rfl,rfl,rfl,rfl,by decide,by decide,by decide,rfl,λh=>absurd h (by decide),by decide,by decide,by decide,by decide,by decide,by decide,by decide,by decide⟩
 ·exact ⟨_,2,0,3,rfl,rfl,rfl,rfl,by decide,by decide,by decide,rfl,λh=>absurd h (by decide),by decide,by decide,by decide,by decide,by decide,by decide,by decide,by decide⟩
 ·exact ⟨_,0,0,103,rfl,rfl,rfl,rfl,by decide,by decide,by decide,rfl,λh=>absurd h (by decide),by decide,by decide,by decide,by decide,by decide,by decide,by decide,by decide⟩
 ·exact ⟨_,2,0,35,rfl,rfl,rfl,rfl,by decide,by decide,by decide,rfl,λh=>absurd h (by decide),by decide,by decide,by decide,by decide,by decide,by decide,by decide,by decide⟩
 ·exact ⟨_,0,0,99,rfl,rfl,rfl,rfl,by decide,by decide,by decide,rfl,λh=>absurd h (by decide),by decide,by decide,by decide,by decide,by decide,by decide,by decide,by decide⟩
 ·exact ⟨_,1,0,99,rfl,rfl,rfl,rfl,by decide,by decide,by decide,rfl,λh=>absurd h (by decide),by decide,by decide,by decide,by decide,by decide,by decide,by decide,by decide⟩
 ·exact ⟨_,0,0,55,rfl,rfl,rfl,rfl,by decide,by decide,by decide,rfl,λh=>absurd h (by decide),by decide,by decide,by decide,by decide,by decide,by decide,by decide,by decide⟩
 ·exact ⟨_,0,0,111,rfl,rfl,rfl,rfl,by decide,by decide,by decide,rfl,λh=>absurd h (by decide),by decide,by decide,by decide,by decide,by decide,by decide,by decide,by decide⟩
 ·exact ⟨_,0,0,115,rfl,rfl,rfl,rfl,by decide,by decide,by decide,rfl,λh=>absurd h (by decide),by decide,by decide,by decide,by decide,by decide,by decide,by decide,by decide⟩
theorem iB {n k:Nat} (h:n*2^k<9223372036854775808):w64 ((n:Int)*2^k)=((n*2^k:Nat):Int):=by
 have:(n:Int)*2^k=((n*2^k:Nat):Int):=by simp
 rw [this]
 exact aO (by omega) (by omega)
theorem lq {x:Int} (h1 : -2147483648<=x) (h2:x<=2147483647):∃ u:Nat,u<4294967296/\(u:Int)=x%4294967296/\ch x=some (u:Int)/\ei x=some (u:Int):=by
 refine ⟨(x%4294967296).toNat,by omega,by omega,?_,?_⟩
 ·unfold ch da
  have e1:(decide (x >= -2147483648)&&decide (x<=2147483647))=true:=by rw [decide_eq_true (by omega),decide_eq_true (by omega)]; rfl
  rw [e1]
  simp only [ob9,Bool.not_true,sel]
  have e2:km .u32 x=x%4294967296:=by
   show IntKind.wrap .u32 x=_
   simp [IntKind.wrap,IntKind.signed,IntKind.bits]
  rw [e2,aO (by omega) (by omega)]
  congr 1
  omega
 ·unfold ei cM aE
  have e1:(decide (x >= -2147483648)&&decide (x<=2147483647))=true:=by rw [decide_eq_true (by omega),decide_eq_true (by omega)]; rfl
  rw [e1]
  simp only [ob9,Bool.not_true]
  rw [ak rfl]
  by_cases h:x<0
  ·rw [bM (by simpa using h),aO (by omega) (by omega)]
   congr 1
   omega
  ·rw [ak (by simpa using h)]
   congr 1
   omega
theorem w7 {x:Int} {p:Nat} (h1 : -(p:Int)<=x) (h2:x<p) (h3:p<=4294967296):∃ m:Nat,m<p/\(m:Int)=x%p/\ku x p=some (m:Int):=by
 have hp:0<(p:Int):=by omega
 unfold ku
 by_cases h:x<0
 ·refine ⟨(x+p).toNat,by omega,?_,?_⟩
  ·rw [Int.toNat_of_nonneg (by omega),<-Int.add_emod_right,Int.emod_eq_of_lt (by omega) (by omega)]
  ·rw [bM (by simpa using h),aO (by omega) (by omega),Int.toNat_of_nonneg (by omega)]
 ·refine ⟨x.toNat,by omega,?_,?_⟩
  ·rw [Int.toNat_of_nonneg (by omega),Int.emod_eq_of_lt (by omega) (by omega)]
  ·rw [ak (by simpa using h),Int.toNat_of_nonneg (by omega)]
theorem Eb {f7 rt rs f3 opc rd:Nat} (h1:opc<128) (h2:rd<32) (h3:f3<8) (h4:rs<32) (h5:rt<32) :
  ((f7*2^25 ||| (rt*2^20 ||| rs*2^15 ||| f3*2^12 ||| opc)) ||| rd*2^7)=f7*2^25+rt*2^20+(rs*2^15+f3*2^12+opc)+rd*2^7:=by
 have e:f7*2^25+rt*2^20+(rs*2^15+f3*2^12+opc)+rd*2^7=2^25*f7+(2^20*rt+(2^15*rs+(2^12*f3+(2^7*rd+opc)))):=by omega
 rw [e,eF (i:=25) (by omega),eF (i:=20) (by omega),eF (i:=15) (by omega),eF (i:=12) (by omega),eF (i:=7) (by omega)]
 simp only [Nat.mul_comm _ (2^25),Nat.mul_comm _ (2^20),Nat.mul_comm _ (2^15),Nat.mul_comm _ (2^12),Nat.mul_comm _ (2^7)]
 ac_rfl
end
noncomputable section
def IOk (x:Instr):Prop:=(0<=x.Rd/\x.Rd<=31)/\(0<=x.Rs/\x.Rs<=31)/\(0<=x.Rt/\x.Rt<=31) /\
  ((1<=x.Op/\x.Op<=11/\x.Imm=0)\/(12<=x.Op/\x.Op<=15/\x.Rt=0 /\ -2048<=x.Imm/\x.Imm<=2047)\/(x.Op=16/\x.Rd=0 /\ -2048<=x.Imm/\x.Imm<=2047) \/
   ((x.Op=17\/x.Op=18)/\x.Rd=0 /\ -4096<=x.Imm/\x.Imm<=4094/\x.Imm%2=0)\/(x.Op=19/\x.Rs=0/\x.Rt=0/\0<=x.Imm/\x.Imm<=1048575) \/
   (x.Op=20/\x.Rs=0/\x.Rt=0 /\ -1048576<=x.Imm/\x.Imm<=1048574/\x.Imm%2=0)\/(x.Op=21/\x.Rd=0/\x.Rs=0/\x.Rt=0/\x.Imm=0))
instance (x:Instr):Decidable (IOk x):=by unfold IOk; infer_instance
theorem cz {α:Type} {b:Bool} {x y r:α} (h:b=true) (k:x=r):sel b x y=r:=by subst h; exact k
def sx (v n:Nat):Int:=bif Nat.ble (2^(n-1)) v then (v:Int)-((2^n:Nat):Int) else v
theorem zx {v n:Nat} (hn:1<=n) (hv:v<2^n) : -((2^(n-1):Nat):Int)<=sx v n/\sx v n<((2^(n-1):Nat):Int):=by
 unfold sx
 have h2:2^n=2*2^(n-1):=by rw [<-Nat.pow_succ']; congr 1; omega
 rw [h2] at hv ⊢
 generalize 2^(n-1)=p at hv ⊢
 cases hb:Nat.ble p v with
 | true =>
  have:=Nat.le_of_ble_eq_true hb
  simp only [cond_true]
  omega
 | false =>
  have:¬ p<=v:=λh=>by rw [Nat.ble_eq_true_of_le h] at hb; cases hb
  simp only [cond_false]
  omega
theorem CY (m n:Nat) (hn:1<=n):∃ q:Int,sx (2*m) n=2*q:=by
 unfold sx
 rw [show 2^n=2*2^(n-1) by rw [<-Nat.pow_succ']; congr 1; omega]
 generalize 2^(n-1)=p
 cases Nat.ble p (2*m)
 ·exact ⟨m,by simp only [cond_false]; omega⟩
 ·exact ⟨m-p,by simp only [cond_true]; omega⟩
theorem zy (p v:Nat):decide ((v:Int)>=(p:Int))=Nat.ble p v:=by
 rw [Bool.eq_iff_iff]
 simp only [decide_eq_true_eq,Nat.ble_eq]
 omega
theorem pR (v n:Nat) (h1:1<=n) (h2:n<=31) (hv:v<2^n):dF (v:Int) (n:Int)=some (sx v n):=by
 have hp:2^n<=2^31:=Nat.pow_le_pow_right (by omega) h2
 have h3:(2:Nat)^31=2147483648:=by decide
 rw [h3] at hp
 have q1:dn (w64 ((n:Int)-1))=some ((2^(n-1):Nat):Int):=by
  rw [aO (by omega) (by omega),show (n:Int)-1=((n-1:Nat):Int) by omega]
  exact vn (n-1) (by omega)
 have q2:=vn n (by omega)
 have hb:Nat.ble (2^(n-1)) v=Nat.ble (2^(n-1)) v:=rfl
 unfold dF sx aE
 generalize 2^n=N at q2 hv hp ⊢
 generalize 2^(n-1)=M at q1 ⊢
 have e1:(decide ((n:Int)>=1)&&decide ((n:Int)<=32))=true:=by rw [decide_eq_true (by omega),decide_eq_true (by omega)]; rfl
 have e2:(decide ((v:Int)>=0)&&decide ((v:Int)<=(w64 ((N:Int)-1))))=true:=by rw [aO (by omega) (by omega),decide_eq_true (by omega),decide_eq_true (by omega)]; rfl
 refine aa (congrArg some e1) (aa (y:=false) ?_ ?_)
 ·refine ab rfl (aa q2 ?_)
  rw [e2]
  rfl
 ·refine ab rfl (aa q1 ?_)
  rw [zy]
  cases Nat.ble M v
  ·rfl
  ·refine cz rfl (aa q2 ?_)
   rw [aO (by omega) (by omega)]
   rfl
theorem dm {r a b m p q:Nat} (h:r=(a*q+m)*p+b) (hb:b<p) (hm:m<q):r/p%q=m:=by
 subst h
 rw [Nat.add_comm,Nat.add_mul_div_right _ _ (by omega),Nat.div_eq_of_lt hb,Nat.zero_add,Nat.add_comm,Nat.add_mul_mod_self_right,Nat.mod_eq_of_lt hm]
theorem qq {i:Nat} (h:i<21):i=0\/i=1\/i=2\/i=3\/i=4\/i=5\/i=6\/i=7\/i=8\/i=9\/i=10\/i=11\/i=12\/i=13\/i=14\/i=15\/i=16\/i=17\/i=18\/i=19\/i=20:=by omega
def t3 (i:Nat):Nat:=[0,0,0,4,6,7,6,4,1,5,2,0,3,2,0,2,0,1,0,0,0].getD i 0
def t7 (i:Nat):Nat:=[0,32,1,1,1,0,0,0,0,32,0].getD i 0
def tO (i:Nat):Nat:=[51,51,51,51,51,51,51,51,51,51,51,19,19,3,103,35,99,99,55,111,115].getD i 0
theorem zA {k f:Nat} (hk:k<21) (h:nth [0,0,0,4,6,7,6,4,1,5,2,0,3,2,0,2,0,1,0,0,0] (k:Int)=some (f:Int)):f=t3 k:=by
 rcases qq hk with rfl | rfl | rfl | rfl | rfl | rfl | rfl | rfl | rfl | rfl | rfl | rfl | rfl | rfl | rfl | rfl | rfl | rfl | rfl | rfl | rfl
 all_goals (have k':=o9 h; simp only [t3]; exact (Int.ofNat.inj k').symm)
theorem Ec {k f:Nat} (hk:k<11) (h:nth [0,32,1,1,1,0,0,0,0,32,0] (k:Int)=some (f:Int)):f=t7 k:=by
 rcases (by omega:k=0\/k=1\/k=2\/k=3\/k=4\/k=5\/k=6\/k=7\/k=8\/k=9\/k=10) with rfl | rfl | rfl | rfl | rfl | rfl | rfl | rfl | rfl | rfl | rfl
 all_goals (have k':=o9 h; simp only [t7]; exact (Int.ofNat.inj k').symm)
theorem Ey {k:Nat} (hk:k<11):tO k=51:=by
 rcases (by omega:k=0\/k=1\/k=2\/k=3\/k=4\/k=5\/k=6\/k=7\/k=8\/k=9\/k=10) with rfl | rfl | rfl | rfl | rfl | rfl | rfl | rfl | rfl | rfl | rfl <;> rfl
theorem Ed {imm:Int} {m:Nat} (hb : -2048<=imm/\imm<=2047) (hm:(m:Int)=imm%4096):sx m 12=imm:=by
 unfold sx
 rw [show ((2^12:Nat):Int)=4096 from rfl,show (2^(12-1):Nat)=2048 from rfl]
 cases h:Nat.ble 2048 m
 ·have h':¬ 2048<=m:=λhh=>by rw [Nat.ble_eq_true_of_le hh] at h; cases h
  simp only [cond_false]; omega
 ·have h':=Nat.le_of_ble_eq_true h
  simp only [cond_true]; omega
theorem Ez {imm:Int} {m:Nat} (hb : -4096<=imm/\imm<=4095) (hm:(m:Int)=imm%8192):sx m 13=imm:=by
 unfold sx
 rw [show ((2^13:Nat):Int)=8192 from rfl,show (2^(13-1):Nat)=4096 from rfl]
 cases h:Nat.ble 4096 m
 ·have h':¬ 4096<=m:=λhh=>by rw [Nat.ble_eq_true_of_le hh] at h; cases h
  simp only [cond_false]; omega
 ·have h':=Nat.le_of_ble_eq_true h
  simp only [cond_true]; omega
theorem EA {imm:Int} {m:Nat} (hb : -1048576<=imm/\imm<=1048575) (hm:(m:Int)=imm%2097152):sx m 21=imm:=by
 unfold sx
 rw [show ((2^21:Nat):Int)=2097152 from congrArg (λn:Nat=>(n:Int)) (show (2^21:Nat)=2097152 from rfl),show (2^(21-1):Nat)=1048576 from rfl]
 cases h:Nat.ble 1048576 m
 ·have h':¬ 1048576<=m:=λhh=>by rw [Nat.ble_eq_true_of_le hh] at h; cases h
  simp only [cond_false]; omega
 ·have h':=Nat.le_of_ble_eq_true h
  simp only [cond_true]; omega
def Fl (i:Instr) (r:Nat):Prop:=∃ k:Nat,k<21/\i.Op=(k:Int)+1/\r%128=tO k/\(k<18->r/4096%8=t3 k)/\(k<11->r/33554432%128=t7 k)/\bb i.Op (r:Int)=some i
theorem EB {k d s t f3 f7:Nat} (hk:k<11) (hd:d<32) (hs:s<32) (ht:t<32) (h3:f3=t3 k) (h3':f3<8) (h7:f7=t7 k) (h7':f7<128):Fl ⟨(k:Int)+1,d,s,t,0⟩ (f7*2^25+t*2^20+(s*2^15+f3*2^12+51)+d*2^7):=by
 generalize hr:f7*2^25+t*2^20+(s*2^15+f3*2^12+51)+d*2^7=r
 simp only [Nat.reducePow] at hr
 have hu:r<4294967296:=by omega
 have b1:=aB r 7 5 hu (by omega) (by omega) (by omega)
 have b2:=aB r 15 5 hu (by omega) (by omega) (by omega)
 have b3:=aB r 20 5 hu (by omega) (by omega) (by omega)
 rw [show r/2^7%2^5=d by simp only [Nat.reducePow]; omega] at b1
 rw [show r/2^15%2^5=s by simp only [Nat.reducePow]; omega] at b2
 rw [show r/2^20%2^5=t by simp only [Nat.reducePow]; omega] at b3
 refine ⟨k,by omega,rfl,by rw [Ey hk]; omega,λ_=>by omega,λ_=>by omega,?_⟩
 show bb ((k:Int)+1) (r:Int)=_
 unfold bb
 exact aa b1 (aa b2 (aa b3 (cz (decide_eq_true (by omega)) rfl)))
theorem EC {k d s f3 o m:Nat} {imm:Int} (hk:11<=k) (hk2:k<15) (hd:d<32) (hs:s<32) (h3:f3=t3 k) (h3':f3<8) (ho:o=tO k) (ho':o<128) (hb : -2048<=imm/\imm<=2047) (hm:(m:Int)=imm%4096):Fl ⟨(k:Int)+1,d,s,0,imm⟩ (m*2^20+(s*2^15+f3*2^12+o)+d*2^7):=by
 have x1:=pR m 12 (by omega) (by omega) (by omega)
 rw [Ed hb hm] at x1
 generalize hr:m*2^20+(s*2^15+f3*2^12+o)+d*2^7=r
 simp only [Nat.reducePow] at hr
 have hu:r<4294967296:=by omega
 have b1:=aB r 7 5 hu (by omega) (by omega) (by omega)
 have b2:=aB r 15 5 hu (by omega) (by omega) (by omega)
 have b3:=aB r 20 5 hu (by omega) (by omega) (by omega)
 have b4:=aB r 20 12 hu (by omega) (by omega) (by omega)
 rw [show r/2^7%2^5=d by simp only [Nat.reducePow]; omega] at b1
 rw [show r/2^15%2^5=s by simp only [Nat.reducePow]; omega] at b2
 rw [show r/2^20%2^12=m by simp only [Nat.reducePow]; omega] at b4
 refine ⟨k,by omega,rfl,by omega,λ_=>by omega,λ_=>by omega,?_⟩
 show bb ((k:Int)+1) (r:Int)=_
 unfold bb
 exact aa b1 (aa b2 (aa b3 (ab (decide_eq_false (by omega)) (cz (decide_eq_true (by omega)) (aa b4 (aa x1 rfl))))))
theorem ED {s t f3 h7 l5 m:Nat} {imm:Int} (hs:s<32) (ht:t<32) (h3:f3=t3 15) (h3':f3<8) (h1:h7<128) (h2:l5<32) (hrel:h7*32+l5=m) (hb : -2048<=imm/\imm<=2047) (hm:(m:Int)=imm%4096):Fl ⟨16,0,s,t,imm⟩ (h7*2^25+t*2^20+(s*2^15+f3*2^12+35)+l5*2^7):=by
 have x1:=pR m 12 (by omega) (by omega) (by omega)
 rw [Ed hb hm,<-hrel] at x1
 have e1:w64 (w64 ((h7:Int)*32)+(l5:Int))=((h7*32+l5:Nat):Int):=by rw [aO (x:=(h7:Int)*32) (by omega) (by omega),aO (by omega) (by omega)]; omega
 rw [<-e1] at x1
 generalize hr:h7*2^25+t*2^20+(s*2^15+f3*2^12+35)+l5*2^7=r
 simp only [Nat.reducePow] at hr
 have hu:r<4294967296:=by omega
 have b1:=aB r 7 5 hu (by omega) (by omega) (by omega)
 have b2:=aB r 15 5 hu (by omega) (by omega) (by omega)
 have b3:=aB r 20 5 hu (by omega) (by omega) (by omega)
 have b4:=aB r 25 7 hu (by omega) (by omega) (by omega)
 rw [show r/2^7%2^5=l5 from dm (a:=h7*8192+t*256+s*8+f3) (b:=35) (by simp only [Nat.reducePow]; omega) (by simp only [Nat.reducePow]; omega) (by simp only [Nat.reducePow]; omega)] at b1
 rw [show r/2^15%2^5=s from dm (a:=h7*32+t) (b:=f3*4096+l5*128+35) (by simp only [Nat.reducePow]; omega) (by simp only [Nat.reducePow]; omega) (by simp only [Nat.reducePow]; omega)] at b2
 rw [show r/2^20%2^5=t from dm (a:=h7) (b:=s*32768+f3*4096+l5*128+35) (by simp only [Nat.reducePow]; omega) (by simp only [Nat.reducePow]; omega) (by simp only [Nat.reducePow]; omega)] at b3
 rw [show r/2^25%2^7=h7 from dm (a:=0) (b:=t*1048576+s*32768+f3*4096+l5*128+35) (by simp only [Nat.reducePow]; omega) (by simp only [Nat.reducePow]; omega) (by simp only [Nat.reducePow]; omega)] at b4
 refine ⟨15,by omega,rfl,by rw [show tO 15=35 from rfl]; omega,λ_=>(dm (r:=r) (p:=4096) (q:=8) (m:=f3) (a:=h7*1024+t*32+s) (b:=l5*128+35) (by omega) (by omega) h3').trans h3,λ_=>by omega,?_⟩
 unfold bb
 exact aa b1 (aa b2 (aa b3 (ab rfl (ab rfl (cz rfl (aa b4 (aa x1 rfl)))))))
theorem EE {k s t f3 v1 v2 v3 v4 m:Nat} {imm:Int} (hk:k=16\/k=17) (hs:s<32) (ht:t<32) (h3:f3=t3 k) (h3':f3<8) (l1:v1<2) (l2:v2<64) (l3:v3<16) (l4:v4<2) (hrel:v1*4096+v4*2048+v2*32+v3*2=m) (hb : -4096<=imm/\imm<=4095) (hm:(m:Int)=imm%8192) :
  Fl ⟨(k:Int)+1,0,s,t,imm⟩ (v1*2^31+v2*2^25+t*2^20+(s*2^15+f3*2^12+99)+v3*2^8+v4*2^7):=by
 have x1:=pR m 13 (by omega) (by omega) (by omega)
 rw [Ez hb hm,<-hrel] at x1
 have e1:w64 (w64 (w64 (w64 ((v1:Int)*4096)+w64 ((v4:Int)*2048))+w64 ((v2:Int)*32))+w64 ((v3:Int)*2))=((v1*4096+v4*2048+v2*32+v3*2:Nat):Int):=by
  rw [aO (x:=(v1:Int)*4096) (by omega) (by omega),aO (x:=(v4:Int)*2048) (by omega) (by omega),aO (x:=(v2:Int)*32) (by omega) (by omega),aO (x:=(v3:Int)*2) (by omega) (by omega),aO (x:=(v1:Int)*4096+(v4:Int)*2048) (by omega) (by omega),aO (x:=(v1:Int)*4096+(v4:Int)*2048+(v2:Int)*32) (by omega) (by omega),aO (by omega) (by omega)]
  omega
 rw [<-e1] at x1
 generalize hr:v1*2^31+v2*2^25+t*2^20+(s*2^15+f3*2^12+99)+v3*2^8+v4*2^7=r
 simp only [Nat.reducePow] at hr
 have hu:r<4294967296:=by omega
 have b1:=aB r 7 5 hu (by omega) (by omega) (by omega)
 have b2:=aB r 15 5 hu (by omega) (by omega) (by omega)
 have b3:=aB r 20 5 hu (by omega) (by omega) (by omega)
 have b4:=aB r 31 1 hu (by omega) (by omega) (by omega)
 have b5:=aB r 7 1 hu (by omega) (by omega) (by omega)
 have b6:=aB r 25 6 hu (by omega) (by omega) (by omega)
 have b7:=aB r 8 4 hu (by omega) (by omega) (by omega)
 rw [show r/2^15%2^5=s from dm (a:=v1*2048+v2*32+t) (b:=f3*4096+v3*256+v4*128+99) (by simp only [Nat.reducePow]; omega) (by simp only [Nat.reducePow]; omega) (by simp only [Nat.reducePow]; omega)] at b2
 rw [show r/2^20%2^5=t from dm (a:=v1*64+v2) (b:=s*32768+f3*4096+v3*256+v4*128+99) (by simp only [Nat.reducePow]; omega) (by simp only [Nat.reducePow]; omega) (by simp only [Nat.reducePow]; omega)] at b3
 rw [show r/2^31%2^1=v1 from dm (a:=0) (b:=v2*33554432+t*1048576+s*32768+f3*4096+v3*256+v4*128+99) (by simp only [Nat.reducePow]; omega) (by simp only [Nat.reducePow]; omega) (by simp only [Nat.reducePow]; omega)] at b4
 rw [show r/2^7%2^1=v4 from dm (a:=v1*8388608+v2*131072+t*4096+s*128+f3*16+v3) (b:=99) (by simp only [Nat.reducePow]; omega) (by simp only [Nat.reducePow]; omega) (by simp only [Nat.reducePow]; omega)] at b5
 rw [show r/2^25%2^6=v2 from dm (a:=v1) (b:=t*1048576+s*32768+f3*4096+v3*256+v4*128+99) (by simp only [Nat.reducePow]; omega) (by simp only [Nat.reducePow]; omega) (by simp only [Nat.reducePow]; omega)] at b6
 rw [show r/2^8%2^4=v3 from dm (a:=v1*524288+v2*8192+t*256+s*8+f3) (b:=v4*128+99) (by simp only [Nat.reducePow]; omega) (by simp only [Nat.reducePow]; omega) (by simp only [Nat.reducePow]; omega)] at b7
 refine ⟨k,by omega,rfl,by rcases hk with rfl | rfl <;> (show r%128=99; omega),λ_=>(dm (r:=r) (p:=4096) (q:=8) (m:=f3) (a:=v1*65536+v2*1024+t*32+s) (b:=v3*256+v4*128+99) (by omega) (by omega) h3').trans h3,λ_=>by omega,?_⟩
 show bb ((k:Int)+1) (r:Int)=_
 unfold bb
 refine aa b1 (aa b2 (aa b3 (ab (decide_eq_false (by omega)) (ab (decide_eq_false (by omega)) (ab ?_ (cz ?_ (aa b4 (aa b5 (aa b6 (aa b7 (aa x1 rfl)))))))))))
 ·rcases hk with rfl | rfl <;> rfl
 ·rcases hk with rfl | rfl <;> rfl
theorem EF {d m:Nat} {imm:Int} (hd:d<32) (hl:m<1048576) (hm:imm=(m:Int)):Fl ⟨19,d,0,0,imm⟩ (m*2^12+d*2^7+55):=by
 subst hm
 generalize hr:m*2^12+d*2^7+55=r
 simp only [Nat.reducePow] at hr
 have hu:r<4294967296:=by omega
 have b1:=aB r 7 5 hu (by omega) (by omega) (by omega)
 have b2:=aB r 15 5 hu (by omega) (by omega) (by omega)
 have b3:=aB r 20 5 hu (by omega) (by omega) (by omega)
 have b4:=aB r 12 20 hu (by omega) (by omega) (by omega)
 rw [show r/2^7%2^5=d by simp only [Nat.reducePow]; omega] at b1
 rw [show r/2^12%2^20=m by simp only [Nat.reducePow]; omega] at b4
 refine ⟨18,by omega,rfl,by rw [show tO 18=55 from rfl]; omega,λh=>absurd h (by omega),λh=>absurd h (by omega),?_⟩
 unfold bb
 exact aa b1 (aa b2 (aa b3 (ab rfl (ab rfl (ab rfl (ab rfl (cz rfl (aa b4 rfl))))))))
theorem EG {d v1 v2 v3 v4 m : Nat} {imm : Int} (hd : d < 32) (l1 : v1 < 2) (l2 : v2 < 1024) (l3 : v3 < 2) (l4 : v4 < 256) (hrel : v1 * 1048576 + v4 * 4096 + v3 * 2048 + v2 * 2 = m) (hb : -1048576 ≤ imm ∧ imm ≤ 1048575) (hm : (m : Int) = imm % 2097152) :
    Fl ⟨20, d, 0, 0, imm⟩ (v1 * 2 ^ 31 + v2 * 2 ^ 21 + v3 * 2 ^ 20 + v4 * 2 ^ 12 + d * 2 ^ 7 + 111) := by
  have x1 := pR m 21 (by omega) (by omega) (by have : (2 : Nat) ^ 21 = 2097152 := rfl
                                               omega)
  rw [EA hb hm, ← hrel] at x1
  have e1 : w64 (w64 (w64 (w64 ((v1 : Int) * 1048576) + w64 ((v4 : Int) * 4096)) + w64 ((v3 : Int) * 2048)) + w64 ((v2 : Int) * 2)) = ((v1 * 1048576 + v4 * 4096 + v3 * 2048 + v2 * 2 : Nat) : Int) := by
    rw [aO (x := (v1 : Int) * 1048576) (by omega) (by omega), aO (x := (v4 : Int) * 4096) (by omega) (by omega), aO (x := (v3 : Int) * 2048) (by omega) (by omega), aO (x := (v2 : Int) * 2) (by omega) (by omega), aO (x := (v1 : Int) * 1048576 + (v4 : Int) * 4096) (by omega) (by omega), aO (x := (v1 : Int) * 1048576 + (v4 : Int) * 4096 + (v3 : Int) * 2048) (by omega) (by omega), aO (by omega) (by omega)]
    omega
  rw [← e1] at x1
  generalize hr : v1 * 2 ^ 31 + v2 * 2 ^ 21 + v3 * 2 ^ 20 + v4 * 2 ^ 12 + d * 2 ^ 7 + 111 = r
  simp only [Nat.reducePow] at hr
  have hu : r < 4294967296 := by omega
  have b1 := aB r 7 5 hu (by omega) (by omega) (by omega)
  have b2 := aB r 15 5 hu (by omega) (by omega) (by omega)
  have b3 := aB r 20 5 hu (by omega) (by omega) (by omega)
  have b4 := aB r 31 1 hu (by omega) (by omega) (by omega)
  have b5 := aB r 12 8 hu (by omega) (by omega) (by omega)
  have b6 := aB r 20 1 hu (by omega) (by omega) (by omega)
  have b7 := aB r 21 10 hu (by omega) (by omega) (by omega)
  rw [show r / 2 ^ 7 % 2 ^ 5 = d from dm (a := v1 * 524288 + v2 * 512 + v3 * 256 + v4) (b := 111) (by simp only [Nat.reducePow]; omega) (by simp only [Nat.reducePow]; omega) (by simp only [Nat.reducePow]; omega)] at b1
  rw [show r / 2 ^ 31 % 2 ^ 1 = v1 from dm (a := 0) (b := v2 * 2097152 + v3 * 1048576 + v4 * 4096 + d * 128 + 111) (by simp only [Nat.reducePow]; omega) (by simp only [Nat.reducePow]; omega) (by simp only [Nat.reducePow]; omega)] at b4
  rw [show r / 2 ^ 12 % 2 ^ 8 = v4 from dm (a := v1 * 2048 + v2 * 2 + v3) (b := d * 128 + 111) (by simp only [Nat.reducePow]; omega) (by simp only [Nat.reducePow]; omega) (by simp only [Nat.reducePow]; omega)] at b5
  rw [show r / 2 ^ 20 % 2 ^ 1 = v3 from dm (a := v1 * 1024 + v2) (b := v4 * 4096 + d * 128 + 111) (by simp only [Nat.reducePow]; omega) (by simp only [Nat.reducePow]; omega) (by simp only [Nat.reducePow]; omega)] at b6
  rw [show r / 2 ^ 21 % 2 ^ 10 = v2 from dm (a := v1) (b := v3 * 1048576 + v4 * 4096 + d * 128 + 111) (by simp only [Nat.reducePow]; omega) (by simp only [Nat.reducePow]; omega) (by simp only [Nat.reducePow]; omega)] at b7
  refine ⟨19, by omega, rfl, by rw [show tO 19 = 111 from rfl]; omega, fun h => absurd h (by omega), fun h => absurd h (by omega), ?_⟩
  unfold bb
  exact aa b1 (aa b2 (aa b3 (ab rfl (ab rfl (ab rfl (ab rfl (ab rfl (cz rfl (aa b4 (aa b5 (aa b6 (aa b7 (aa x1 rfl)))))))))))))
theorem EH:Fl ⟨21,0,0,0,0⟩ 115:=by
 have b1:=aB 115 7 5 (by omega) (by omega) (by omega) (by omega)
 have b2:=aB 115 15 5 (by omega) (by omega) (by omega) (by omega)
 have b3:=aB 115 20 5 (by omega) (by omega) (by omega) (by omega)
 refine ⟨20,by omega,rfl,rfl,λh=>absurd h (by omega),λh=>absurd h (by omega),?_⟩
 unfold bb
 exact aa b1 (aa b2 (aa b3 (ab rfl (ab rfl (ab rfl (ab rfl (ab rfl (ab rfl rfl))))))))
end
noncomputable section
theorem dX {a b:Nat} (h:a+b<9223372036854775808):w64 ((a:Int)+(b:Int))=((a+b:Nat):Int):=by rw [aO (by omega) (by omega)]; omega
theorem w8 {op rd rs rt imm:Int} {k srs f3 opc:Nat} (hk:op=(k:Int)+1) (hk2:k<21) (hrs:rs=srs) (hs:srs<32) (hf:nth [0,0,0,4,6,7,6,4,1,5,2,0,3,2,0,2,0,1,0,0,0] (k:Int)=some (f3:Int)) (h3:f3<8) (ho:opc<128) :
  kv (Instr.mk op rd rs rt imm) (opc:Int)=some ((srs*2^15+f3*2^12+opc:Nat):Int):=by
 unfold kv mn
 simp only
 rw [hk,hrs,show (k:Int)+1-1=k by omega,aO (x:=(k:Int)) (by omega) (by omega),hf,show (15:Int)=((15:Nat):Int) from rfl,fw srs 15 (by omega) (by omega)]
 simp only [ob9]
 rw [show (12:Int)=((12:Nat):Int) from rfl,fw f3 12 (by omega) (by omega)]
 simp only [ob9]
 rw [dX (by omega),dX (by omega)]
def Enc (i:Instr):Prop:=∃ r:Nat,r<4294967296/\(∀ k:Nat,i.Op=(k:Int)+1->11<=k->k<=17->nth [0,0,0,4,6,7,6,4,1,5,2,0,3,2,0,2,0,1,0,0,0] (k:Int)=some ((r/4096%8:Nat):Int))/\cB i=some (r:Int)/\(bA i=some true->co i=some ((r:Int),true))/\(IOk i->Fl i r)
theorem md {i:Instr} {r:Option (Int×Bool)} (hv:bA i=some true):co i=(nth lH (w64 (i.Op-1))).bind λx1=>(ch i.Imm).bind λy2=>(bW i.Op).bind λy3 =>
  sel (y3==82) (some (aG .or .i64 (aG .or .i64 (w64 (x1.funct7*2^(min 25 (IntKind.bits .i64)))) (aG .or .i64 (aG .or .i64 (aG .or .i64 (w64 (i.Rt*2^(min 20 (IntKind.bits .i64)))) (w64 (i.Rs*2^(min 15 (IntKind.bits .i64))))) (w64 (x1.funct3*2^(min 12 (IntKind.bits .i64))))) x1.opcode)) (w64 (i.Rd*2^(min 7 (IntKind.bits .i64)))),true)) <|
  sel (y3==73) ((az 0 12 20 y2).bind λy4 =>
  some (aG .or .i64 (aG .or .i64 y4 (aG .or .i64 (aG .or .i64 (aG .or .i64 (w64 (i.Rt*2^(min 20 (IntKind.bits .i64)))) (w64 (i.Rs*2^(min 15 (IntKind.bits .i64))))) (w64 (x1.funct3*2^(min 12 (IntKind.bits .i64))))) x1.opcode)) (w64 (i.Rd*2^(min 7 (IntKind.bits .i64)))),true)) <|
  sel (y3==83) ((az 5 7 25 y2).bind λy5=>(az 0 5 7 y2).bind λy6 =>
  some (aG .or .i64 (aG .or .i64 y5 (aG .or .i64 (aG .or .i64 (aG .or .i64 (w64 (i.Rt*2^(min 20 (IntKind.bits .i64)))) (w64 (i.Rs*2^(min 15 (IntKind.bits .i64))))) (w64 (x1.funct3*2^(min 12 (IntKind.bits .i64))))) x1.opcode)) y6,true)) <|
  sel (y3==66) ((az 12 1 31 y2).bind λy7=>(az 5 6 25 y2).bind λy8=>(az 1 4 8 y2).bind λy9=>(az 11 1 7 y2).bind λy10 =>
  some (aG .or .i64 (aG .or .i64 (aG .or .i64 (aG .or .i64 y7 y8) (aG .or .i64 (aG .or .i64 (aG .or .i64 (w64 (i.Rt*2^(min 20 (IntKind.bits .i64)))) (w64 (i.Rs*2^(min 15 (IntKind.bits .i64))))) (w64 (x1.funct3*2^(min 12 (IntKind.bits .i64))))) x1.opcode)) y9) y10,true)) <|
  sel (y3==85) ((az 0 20 12 y2).bind λy11=>some (aG .or .i64 (aG .or .i64 y11 (w64 (i.Rd*2^(min 7 (IntKind.bits .i64))))) x1.opcode,true)) <|
  sel (y3==74) ((az 20 1 31 y2).bind λy12=>(az 1 10 21 y2).bind λy13=>(az 11 1 20 y2).bind λy14=>(az 12 8 12 y2).bind λy15 =>
  some (aG .or .i64 (aG .or .i64 (aG .or .i64 (aG .or .i64 (aG .or .i64 y12 y13) y14) y15) (w64 (i.Rd*2^(min 7 (IntKind.bits .i64))))) x1.opcode,true)) <|
  some (x1.opcode,true):=by
 unfold co
 rw [hv]
 rfl
theorem EI {n:Nat} (h:n<128):w64 ((n:Int)*2^(min 25 (IntKind.bits .i64)))=((n*2^25:Nat):Int):=iB (k:=25) (by omega)
theorem Dt {n:Nat} (h:n<32):w64 ((n:Int)*2^(min 20 (IntKind.bits .i64)))=((n*2^20:Nat):Int):=iB (k:=20) (by omega)
theorem Cd {n:Nat} (h:n<32):w64 ((n:Int)*2^(min 15 (IntKind.bits .i64)))=((n*2^15:Nat):Int):=iB (k:=15) (by omega)
theorem Ce {n:Nat} (h:n<8):w64 ((n:Int)*2^(min 12 (IntKind.bits .i64)))=((n*2^12:Nat):Int):=iB (k:=12) (by omega)
theorem sh7 {n:Nat} (h:n<32):w64 ((n:Int)*2^(min 7 (IntKind.bits .i64)))=((n*2^7:Nat):Int):=iB (k:=7) (by omega)
theorem df {a b:Nat} (ha:a<4294967296) (hb:b<4294967296):a ||| b<4294967296:=Nat.or_lt_two_pow (n:=32) ha hb
theorem m5 {a b:Nat} (ha:a<4294967296) (hb:b<4294967296):aG .or .i64 (a:Int) (b:Int)=((a ||| b:Nat):Int):=Ds (by omega) (by omega)
theorem kl {x:Int} {n:Int} (h0:0<=x) (h1:x<=n):∃ k:Nat,x=k/\(k:Int)<=n:=⟨x.toNat,by omega,by omega⟩
theorem CZ {op rd rs rt:Int} (h:1<=op/\op<=11) (hd:0<=rd/\rd<=31) (hs:0<=rs/\rs<=31) (ht:0<=rt/\rt<=31):Enc (Instr.mk op rd rs rt 0):=by
 obtain ⟨d,rfl,hd2⟩:=kl hd.1 hd.2
 obtain ⟨s,rfl,hs2⟩:=kl hs.1 hs.2
 obtain ⟨t,rfl,ht2⟩:=kl ht.1 ht.2
 obtain ⟨k,rfl⟩:∃ k:Nat,op=(k:Int)+1:=⟨(op-1).toNat,by omega⟩
 obtain ⟨x,f3,f7,opc,g1,g2,g3,g4,g5,g6,g7,g8,g9,_⟩:=tab k (by omega)
 obtain ⟨g10,rfl⟩:=g9 (by omega)
 obtain ⟨u,u1,u2,u3,_⟩:=lq (x:=0) (by omega) (by omega)
 refine ⟨f7*2^25+t*2^20+(s*2^15+f3*2^12+51)+d*2^7,by omega,(λk' hk h1 h2=>by simp only at hk; omega),?_,λhv=>?_,λ_=>EB (by omega) (by omega) (by omega) (by omega) (zA (by omega) g8) g5 (Ec (by omega) g10) g6⟩
 ·unfold cB
  simp only
  have c:∀ n:Int,12<=n->(((k:Int)+1)==n)=false:=λn hn=>by simp; omega
  rw [c 12 (by omega),c 13 (by omega),c 14 (by omega),c 15 (by omega),c 16 (by omega),c 17 (by omega),c 18 (by omega),c 19 (by omega),c 20 (by omega),c 21 (by omega)]
  simp only [sel,ob9]
  have hm:=w8 (op:=(k:Int)+1) (rd:=d) (rs:=s) (rt:=t) (imm:=0) (k:=k) (srs:=s) (f3:=f3) (opc:=51) rfl (by omega) rfl (by omega) g8 g5 (by omega)
  rw [show ((51:Nat):Int)=51 from rfl] at hm
  rw [hm]
  unfold mo
  rw [show (k:Int)+1-1=k by omega,aO (x:=(k:Int)) (by omega) (by omega),g10]
  simp only [ob9]
  rw [show (25:Int)=((25:Nat):Int) from rfl,show (20:Int)=((20:Nat):Int) from rfl,show (7:Int)=((7:Nat):Int) from rfl,fw f7 25 (by omega) (by omega),fw t 20 (by omega) (by omega),fw d 7 (by omega) (by omega)]
  simp only [ob9]
  rw [dX (by omega),dX (by omega),dX (by omega)]
 ·rw [md (r:=none) hv]
  simp only
  rw [show (k:Int)+1-1=k by omega,aO (x:=(k:Int)) (by omega) (by omega),g1,u3,xL (by omega)]
  simp only [ob9,sel,Int.reduceBEq]
  rw [g2,g3,g4,EI g6,Dt (by omega),Cd (by omega),Ce g5,sh7 (by omega)]
  rw [m5 (by omega) (by omega),m5 (df (by omega) (by omega)) (by omega),m5 (df (df (by omega) (by omega)) (by omega)) (by omega),m5 (by omega) (df (df (df (by omega) (by omega)) (by omega)) (by omega)),
   m5 (df (by omega) (df (df (df (by omega) (by omega)) (by omega)) (by omega))) (by omega),Eb (by omega) (by omega) (by omega) (by omega) (by omega)]
theorem Du {α:Type} (x y:α):sel false x y=y:=rfl
theorem Dv {α:Type} (x y:α):sel true x y=x:=rfl
theorem zY {x:Int} {u m p q low many:Nat} (hu:(u:Int)=x%(q:Int)) (hm:(m:Int)=x%p) (hp:2^(low+many) ∣ p) (hp2:p ∣ q):u/2^low%2^many=m/2^low%2^many:=by
 have e1:u%p=m:=by
  have h1:((u%p:Nat):Int)=(m:Int):=by
   rw [Int.natCast_emod,hu,hm]
   exact Int.emod_emod_of_dvd _ (Int.natCast_dvd_natCast.2 hp2)
  exact Int.ofNat.inj h1
 have e2:∀ n:Nat,n/2^low%2^many=n%2^(low+many)/2^low:=λn=>by rw [Nat.pow_add,Nat.mod_mul_right_div_self]
 rw [e2 u,e2 m,<-e1,Nat.mod_mod_of_dvd _ hp]
theorem rS {x:Int} {u m p low many:Nat} (hu:(u:Int)=x%4294967296) (hm:(m:Int)=x%p) (hp:2^(low+many) ∣ p) (hp2:∃ c,4294967296=p*c):u/2^low%2^many=m/2^low%2^many:=zY (q:=4294967296) hu hm hp hp2
theorem EJ {m rs f3 opc rd:Nat} (h1:opc<128) (h2:rd<32) (h3:f3<8) (h4:rs<32) :
  ((m*2^20 ||| (0 ||| rs*2^15 ||| f3*2^12 ||| opc)) ||| rd*2^7)=m*2^20+(rs*2^15+f3*2^12+opc)+rd*2^7:=by
 have e:m*2^20+(rs*2^15+f3*2^12+opc)+rd*2^7=2^20*m+(2^15*rs+(2^12*f3+(2^7*rd+opc))):=by omega
 rw [e,eF (i:=20) (by omega),eF (i:=15) (by omega),eF (i:=12) (by omega),eF (i:=7) (by omega)]
 simp only [Nat.mul_comm _ (2^20),Nat.mul_comm _ (2^15),Nat.mul_comm _ (2^12),Nat.mul_comm _ (2^7),Nat.zero_or]
 ac_rfl
theorem EK {hi7 rt rs f3 lo5:Nat} (h1:rt<32) (h2:lo5<32) (h3:f3<8) (h4:rs<32) :
  ((hi7*2^25 ||| (rt*2^20 ||| rs*2^15 ||| f3*2^12 ||| 35)) ||| lo5*2^7)=hi7*2^25+rt*2^20+(rs*2^15+f3*2^12+35)+lo5*2^7:=Eb (by omega) h2 h3 h4 h1
theorem EL {v1 v2 rt rs f3 v3 v4:Nat} (h1:rt<32) (h2:v2<64) (h3:f3<8) (h4:rs<32) (h5:v3<16) (h6:v4<2) :
  ((((v1*2^31 ||| v2*2^25) ||| (rt*2^20 ||| rs*2^15 ||| f3*2^12 ||| 99)) ||| v3*2^8) ||| v4*2^7)=v1*2^31+v2*2^25+rt*2^20+(rs*2^15+f3*2^12+99)+v3*2^8+v4*2^7:=by
 have e:v1*2^31+v2*2^25+rt*2^20+(rs*2^15+f3*2^12+99)+v3*2^8+v4*2^7=2^31*v1+(2^25*v2+(2^20*rt+(2^15*rs+(2^12*f3+(2^8*v3+(2^7*v4+99)))))):=by omega
 rw [e,eF (i:=31) (by omega),eF (i:=25) (by omega),eF (i:=20) (by omega),eF (i:=15) (by omega),eF (i:=12) (by omega),eF (i:=8) (by omega),eF (i:=7) (by omega)]
 generalize 99=q
 simp only [Nat.mul_comm _ (2^31),Nat.mul_comm _ (2^25),Nat.mul_comm _ (2^20),Nat.mul_comm _ (2^15),Nat.mul_comm _ (2^12),Nat.mul_comm _ (2^8),Nat.mul_comm _ (2^7)]
 ac_rfl
theorem EM {u d:Nat} (h:d<32):(u*2^12 ||| d*2^7 ||| 55)=u*2^12+d*2^7+55:=by
 have e:u*2^12+d*2^7+55=2^12*u+(2^7*d+55):=by omega
 rw [e,eF (i:=12) (by omega),eF (i:=7) (by omega)]
 generalize 55=q
 simp only [Nat.mul_comm _ (2^12),Nat.mul_comm _ (2^7)]
 ac_rfl
theorem EN {v1 v2 v3 v4 d:Nat} (h2:v2<1024) (h3:v3<2) (h4:v4<256) (h5:d<32) :
  (((((v1*2^31 ||| v2*2^21) ||| v3*2^20) ||| v4*2^12) ||| d*2^7) ||| 111)=v1*2^31+v2*2^21+v3*2^20+v4*2^12+d*2^7+111:=by
 have e:v1*2^31+v2*2^21+v3*2^20+v4*2^12+d*2^7+111=2^31*v1+(2^21*v2+(2^20*v3+(2^12*v4+(2^7*d+111)))):=by omega
 rw [e,eF (i:=31) (by omega),eF (i:=21) (by omega),eF (i:=20) (by omega),eF (i:=12) (by omega),eF (i:=7) (by omega)]
 generalize 111=q
 simp only [Nat.mul_comm _ (2^31),Nat.mul_comm _ (2^21),Nat.mul_comm _ (2^20),Nat.mul_comm _ (2^12),Nat.mul_comm _ (2^7)]
 ac_rfl
theorem or4 {a b c d:Nat} (h1:a<4294967296) (h2:b<4294967296) (h3:c<4294967296) (h4:d<4294967296):aG .or .i64 (aG .or .i64 (aG .or .i64 (a:Int) (b:Int)) (c:Int)) (d:Int)=((a ||| b ||| c ||| d:Nat):Int):=by
 rw [m5 h1 h2,m5 (df h1 h2) h3,m5 (df (df h1 h2) h3) h4]
end
noncomputable section
theorem C0 {rs rt imm:Int} (hs:0<=rs/\rs<=31) (ht:0<=rt/\rt<=31) (hi : -2048<=imm/\imm<=2047):Enc (Instr.mk 16 0 rs rt imm):=by
 obtain ⟨s,rfl,hs2⟩:=kl hs.1 hs.2
 obtain ⟨t,rfl,ht2⟩:=kl ht.1 ht.2
 obtain ⟨x,f3,f7,opc,g1,g2,g3,g4,g5,g6,g7,g8,g9,g10,g11,g12,g13,_⟩:=tab 15 (by omega)
 obtain rfl:=g13 rfl
 obtain ⟨u,u1,u2,u3,_⟩:=lq (x:=imm) (by omega) (by omega)
 obtain ⟨m,m1,m2,m3⟩:=w7 (x:=imm) (p:=4096) (by omega) (by omega) (by omega)
 rw [show ((4096:Nat):Int)=4096 from rfl] at m3
 have hm:=w8 (op:=((15:Nat):Int)+1) (rd:=0) (rs:=s) (rt:=t) (imm:=imm) (k:=15) (srs:=s) (f3:=f3) (opc:=35) rfl (by omega) rfl (by omega) g8 g5 g7
 have b1:=aB m 5 7 (by omega) (by omega) (by omega) (by omega)
 have b2:=aB m 0 5 (by omega) (by omega) (by omega) (by omega)
 have l1:m/2^5%2^7<128:=Nat.mod_lt _ (by decide)
 have l2:m/2^0%2^5<32:=Nat.mod_lt _ (by decide)
 have p1:=j7 u 5 7 25 u1 (by omega) (by omega) (by omega) (by omega)
 have p2:=j7 u 0 5 7 u1 (by omega) (by omega) (by omega) (by omega)
 rw [rS (x:=imm) (m:=m) (p:=4096) u2 m2 (by decide) ⟨1048576,rfl⟩] at p1 p2
 have hrel:m/2^5%2^7*32+m/2^0%2^5=m:=by omega
 generalize m/2^5%2^7=hi7 at b1 p1 l1 hrel
 generalize m/2^0%2^5=lo5 at b2 p2 l2 hrel
 refine ⟨hi7*2^25+t*2^20+(s*2^15+f3*2^12+35)+lo5*2^7,by omega,(λk' hk h1 h2=>by
  obtain rfl:k'=15:=by simp only at hk; omega
  rw [g8]
  exact congrArg (λn:Nat=>some (n:Int)) (by simp only [Nat.reducePow]; omega)),?_,λhv=>?_,λ_=>ED (by omega) (by omega) (zA (by omega) g8) g5 l1 l2 hrel hi m2⟩
 ·unfold cB
  refine aa (y:=false) rfl (ab rfl (ab rfl (ab rfl (cz rfl ?_))))
  refine aa m3 (aa b1 (aa (fw hi7 25 (by omega) (by omega)) (aa (fw t 20 (by omega) (by omega)) (aa hm (aa b2 (aa (fw lo5 7 (by omega) (by omega)) ?_))))))
  rw [dX (by omega),dX (by omega),dX (by omega)]
 ·rw [md (r:=none) hv]
  refine aa g1 (aa u3 (aa (y:=83) rfl ?_))
  refine ab rfl (ab rfl (cz rfl ?_))
  refine aa p1 (aa p2 ?_)
  rw [g2,g4,Dt (by omega),Cd (by omega),Ce g5,or4 (a:=t*2^20) (by omega) (by omega) (by omega) (by omega),m5 (by omega) (df (df (df (by omega) (by omega)) (by omega)) (by omega)),m5 (df (by omega) (df (df (df (by omega) (by omega)) (by omega)) (by omega))) (by omega),EK (by omega) l2 g5 (by omega)]
end

end Go.Proofs.YtgcmopfhafoabaaGreatDoor.N
