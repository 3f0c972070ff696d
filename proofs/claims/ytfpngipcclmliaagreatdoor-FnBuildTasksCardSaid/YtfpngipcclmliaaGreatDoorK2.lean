/- The program logic: what is left of a region whose order is drawn is shown once, however one came there. The program logic: rows out of which an element was take -/
import Derived.Test.YtfpngipcclmliaaGreatDoorK1
import Derived.ChangeKeysEq
import Derived.LoopN
import Derived.Test.YtfpngipcclmliaaGreatDoorProg
set_option linter.unusedVariables false
set_option linter.unusedSimpArgs false
set_option maxRecDepth 100000
set_option maxHeartbeats 4000000
namespace Go.Proofs.YtfpngipcclmliaaGreatDoor.X
noncomputable section
variable {P:Program} {n:Nat} {ops:Array Oper} {E E':Env} {W:World} {K:Env->World->Prop} {SW:World->Prop} {k:Nat}
def rR (n:Nat) (is:List Nat):Array Bool:=is.foldl (λl i=>l.setIfInBounds i true) (Array.replicate n false)
def pu:List Bool->List Bool->Bool
 | [],[]=>true
 | true::r,true::q=>pu r q
 | false::r,false::q=>pu r q
 | _,_=>false
theorem sT:∀ {l q:List Bool},pu l q=true->l=q
 | [],[],_=>rfl
 | true::r,true::q,h=>by rw [sT (l:=r) (q:=q) h]
 | false::r,false::q,h=>by rw [sT (l:=r) (q:=q) h]
 | [],_::_,h=>by simp [pu] at h
 | _::_,[],h=>by simp [pu] at h
 | true::_,false::_,h=>by simp [pu] at h
 | false::_,true::_,h=>by simp [pu] at h
theorem RK.sub {f:Nat} {l:Array Bool} (hs:al E E') (h:RK P n ops SW k f l E' W K):RK P n ops SW k f l E W K:=λa Q ha hk=>h a Q (ha.sub hs.sub) hk
theorem RK.atl {f:Nat} {l l':Array Bool} (h:RK P n ops SW k f l' E W K) (hl:pu l.toList l'.toList=true):RK P n ops SW k f l E W K:=by
 have:l=l':=Array.ext' (sT hl)
 exact this▸h
theorem RK.memo {f:Nat} {l:Array Bool} (X:Env->World->Prop) (f':Nat) (l':Array Bool) (hJ:∀ E W,X E W->RK P n ops SW k f' l' E W K) (h:(∀ E W,X E W->RK P n ops SW k f' l' E W K)->RK P n ops SW k f l E W K):RK P n ops SW k f l E W K:=h hJ
end
noncomputable section
variable {P:Program} {n:Nat} {E:Env} {W:World}
theorem Sep.an {M:Nat->Prop} {w0:World} {L L':List Ent} {C B:Prop} (hS:Sep M w0 W L) (is:List Nat) (k:Sep M w0 W L'->B) (hL:X.xm L is=L':=by kernel_rfl):(C->Sep M w0 W L')/\B:=⟨λ_=>hS.to is hL,k (hS.to is hL)⟩
theorem Sep.tk {M:Nat->Prop} {w0 W:World} {L L':List Ent} (hS:Sep M w0 W L) (is:List Nat) (hL:X.xm L is=L':=by kernel_rfl):Sep M w0 W L':=hS.to is hL
theorem bv {α β:Type} {C:Prop} {x:Option α} {f:α->Option β} {r:β} (h:x.bind f=some r) (k:∀ t,x=some t->f t=some r->C):C:=
 let ⟨t,h1,h2⟩:=Option.bind_eq_some_iff.1 h
 k t h1 h2
end
noncomputable section
variable {P:Program} {n:Nat} {ops:Array Oper} {o:Oper} {rest:List Oper} {E E':Env} {W W' w w0:World} {a:Act} {v u v2:Value} {K:Env->World->Prop} {M T S:Nat->Prop} {L L0 L1:List Ent} {R:Exit->Env->World->Prop}
variable {t tn e te:TypeId} {ag:Bool} {z:Option Value} {zv:Value} {size bytes:Nat} {m c c2 k g j N:Nat} {α:Type} {enc:α->D} {f:α->List Value} {i:Int} {x y:α}
abbrev Ar (α:Type):=Nat->α
def arC:Nat->(α->List Value)->Ar α->List Value
 | 0,_,_=>[]
 | n+1,f,b=>arC n f b++f (b n)
def arD (n:Nat) (enc:α->D) (b:Ar α):D:=.agg ((List.range n).map λi=>enc (b i))
def cQ (n:Nat) (b:Ar α) (i:Int):Option α:=if 0<=i/\i<n then some (b i.toNat) else none
def mE (b:Ar α) (i:Int) (x:α):Ar α:=λj=>if j=i.toNat then x else b j
def aeq:Nat->(α->α->Bool)->Ar α->Ar α->Bool
 | 0,_,_,_=>true
 | n+1,q,b,c=>aeq n q b c&&q (b n) (c n)
theorem n6 {b:Ar α} (h:cQ N b i=some x):0<=i/\i.toNat<N/\x=b i.toNat:=by
 unfold cQ at h
 split at h
 ·rename_i hc
  injection h with h
  exact ⟨hc.1,by omega,h.symm⟩
 ·cases h
theorem eX (hf:∀ x,(f x).length=k):∀ {N:Nat} {b:Ar α},(arC N f b).length=N*k
 | 0,_=>by simp [arC]
 | N+1,b=>by rw [arC,List.length_append,eX hf,hf,Nat.succ_mul]
theorem uK (hf:∀ x,(f x).length=k) {q:Nat} (hq:q<k):∀ {N i:Nat} {b:Ar α},i<N->(arC N f b)[i*k+q]?=(f (b i))[q]?
 | 0,i,_,hi=>by omega
 | N+1,i,b,hi=>by
  rw [arC]
  have hl:(arC N f b).length=N*k:=eX hf
  rcases Nat.lt_or_ge i N with h | h
  ·have h1:i*k+q<N*k:=by
    have h2:(i+1)*k<=N*k:=Nat.mul_le_mul_right k h
    rw [Nat.succ_mul] at h2
    omega
   rw [List.getElem?_append_left (by omega),uK hf hq h]
  ·obtain rfl:i=N:=by omega
   rw [List.getElem?_append_right (by omega),hl]
   congr 1
   omega
theorem zb (hf:∀ x,(f x).length=k) {N q m:Nat} {b:Ar α} {i:Nat} (hi:i<N) (hq:q+m<=k):seg (arC N f b) (i*k+q) m=seg (f (b i)) q m:=by
 apply List.ext_getElem?
 intro s
 simp only [seg,List.getElem?_take,List.getElem?_drop]
 split
 ·rw [Nat.add_assoc,uK hf (by omega) hi]
 ·rfl
theorem wH (hf:∀ x,(f x).length=k) {N:Nat} {b:Ar α} {i:Int} {x:α} (hi:i.toNat<N) (s:Nat):(arC N f (mE b i x))[s]?=if i.toNat*k<=s/\s<i.toNat*k+k then (f x)[s-i.toNat*k]? else (arC N f b)[s]?:=by
 rcases Nat.eq_zero_or_pos k with rfl | hk
 ·have e1:∀ b:Ar α,arC N f b=[]:=λb=>List.eq_nil_of_length_eq_zero (by rw [eX hf]; simp)
  rw [e1,e1]
  simp
 have hs:s/k*k+s%k=s:=by rw [Nat.mul_comm]; exact Nat.div_add_mod s k
 have hm:=Nat.mod_lt s hk
 rcases Nat.lt_or_ge (s/k) N with h | h
 ·have key:∀ b:Ar α,(arC N f b)[s]?=(f (b (s/k)))[s%k]?:=λb=>by
   have:=uK (b:=b) hf hm h
   rwa [hs] at this
  rw [key,key]
  unfold mE
  by_cases he:s/k=i.toNat
  ·rw [if_pos he,if_pos (by rw [<-he]; omega)]
   congr 1
   rw [<-he]
   omega
  ·rw [if_neg he,if_neg]
   rintro ⟨h1,h2⟩
   apply he
   have h3:i.toNat<=s/k:=(Nat.le_div_iff_mul_le hk).2 h1
   have h4:s/k<i.toNat+1:=(Nat.div_lt_iff_lt_mul hk).2 (by rw [Nat.succ_mul]; exact h2)
   omega
 ·have h1:N*k<=s:=(Nat.le_div_iff_mul_le hk).1 h
  rw [List.getElem?_eq_none (by rw [eX hf]; exact h1),if_neg,List.getElem?_eq_none (by rw [eX hf]; exact h1)]
  rintro ⟨_,h2⟩
  have h3:(i.toNat+1)*k<=N*k:=Nat.mul_le_mul_right k hi
  rw [Nat.succ_mul] at h3
  omega
theorem u6 {cs vs:List Value} {off:Nat} (h:off+vs.length<=cs.length) (s:Nat):(splice cs off vs)[s]?=if off<=s/\s<off+vs.length then vs[s-off]? else cs[s]?:=by
 have hl:(cs.take off).length=off:=by simp; omega
 unfold splice
 rcases Nat.lt_or_ge s off with h1 | h1
 ·rw [List.getElem?_append_left (by omega),if_neg (by omega),List.getElem?_take,if_pos h1]
 ·rw [List.getElem?_append_right (by omega),hl]
  rcases Nat.lt_or_ge s (off+vs.length) with h2 | h2
  ·rw [List.getElem?_append_left (by omega),if_pos ⟨h1,h2⟩]
  ·rw [List.getElem?_append_right (by omega),if_neg (by omega),List.getElem?_drop]
   congr 1
   omega
theorem u7 (hf:∀ x,(f x).length=k) {N q:Nat} {b:Ar α} {i:Int} {x1:α} {vs:List Value} (hi:i.toNat<N) (hq:q+vs.length<=k) (hx:splice (f (b i.toNat)) q vs=f x1):splice (arC N f b) (i.toNat*k+q) vs=arC N f (mE b i x1):=by
 have hb:i.toNat*k+q+vs.length<=(arC N f b).length:=by
  rw [eX hf]
  have h3:(i.toNat+1)*k<=N*k:=Nat.mul_le_mul_right k hi
  rw [Nat.succ_mul] at h3
  omega
 apply List.ext_getElem?
 intro s
 rw [u6 hb,wH hf hi,<-hx]
 by_cases h1:i.toNat*k<=s/\s<i.toNat*k+k
 ·rw [if_pos h1,u6 (by rw [hf]; exact hq)]
  have h2:=uK (b:=b) hf (q:=s-i.toNat*k) (by omega) hi
  rw [show i.toNat*k+(s-i.toNat*k)=s by omega] at h2
  by_cases h3:i.toNat*k+q<=s/\s<i.toNat*k+q+vs.length
  ·rw [if_pos h3,if_pos (by omega)]
   congr 1
   omega
  ·rw [if_neg h3,if_neg (by omega),h2]
 ·rw [if_neg h1,if_neg (by omega)]
theorem wI (h1:∀ x,(f x).all (·.oneCell')=true):∀ {N:Nat} {b:Ar α},(arC N f b).all (·.oneCell')=true
 | 0,_=>rfl
 | N+1,b=>by rw [arC,List.all_append,wI h1,h1,Bool.and_true]
theorem lda {p:Operand} {b:Ar α} (ht:aX P t=some (true,z,size,bytes)) (hS:Sep M w0 W (.box g te (arC N f b)::L)) (hl:(arC N f b).length=size) (ho:o.op=.load t p) (hp:ev E p=some (Pt g)):eg P n E o W (.agg (arC N f b).toArray) W:=
 ld ht hS ho hp (by show Value.agg _=_; simp [seg,<-hl]) (by simp [seg,hl]) rfl
theorem OpW.sta {p q:Operand} {b b':Ar α} (ht:aX P t=some (true,z,size,bytes)) (hS:Sep M w0 W (.box g te (arC N f b)::L)) (hl:∀ b:Ar α,(arC N f b).length=size) (h1:∀ x,(f x).all (·.oneCell')=true) (ho:o.op=.store t p q) (hp:ev E p=some (Pt g))
  (hq:ev E q=some (.agg (arC N f b').toArray)) (k2:∀ W',Sep M w0 W' (.box g te (arC N f b')::L)->K E W') (hg:o.guard=none:=by exact rfl) (hd:o.dst=none:=by exact rfl):OpW P n ops o E W K:=
 .st ht hS ho hp hq (λW' hS'=>k2 W' (by
  have e:splice (arC N f b) 0 (Value.agg (arC N f b').toArray).cells.toList=arC N f b':=by
   show splice _ 0 (arC N f b')=_
   unfold splice
   rw [List.take_zero,List.nil_append,List.drop_eq_nil_of_le (by rw [hl,Nat.zero_add,hl]; exact Nat.le_refl _),List.append_nil]
  rwa [e] at hS')) (by show (arC N f b').toArray.size=size; rw [List.size_toArray,hl]) (wI h1) (by rw [hl,Nat.zero_add]; exact Nat.ble_eq_true_of_le (Nat.le_refl _)) hg hd
theorem ixa {b:Ar α} {j0:IntKind} {p q:Operand} (hx:cQ N b i=some x) (hu:P.underlying t=some (.array N e)) (ht:aX P e=some (ag,z,size,bytes)) (ho:o.op=.indexAddr t p q)
  (hp:ev E p=some (Pt g)) (hq:ev E q=some (.int j0 i)):eg P n E o W (.pointer (some ⟨g,i.toNat*size+0,none⟩)) W:=by
 intro a ha
 obtain ⟨h0,h1,h2⟩:=n6 hx
 have hadd:(⟨g,0,none⟩:Addr).add (i.toNat*size)=⟨g,i.toNat*size,none⟩:=by unfold Addr.add; split <;> simp_all
 unfold execOp
 simp only [ho,ha.ev hp,ha.ev hq,Sem.run_bind,Instr.indexAt,asIntOf,Sem.run_pure,Result.andThen_ok,run_underlying hu,Instr.sureAddr]
 rw [if_pos ⟨h0,by omega⟩]
 simp [dQ ht,hadd]
theorem ldx {p:Operand} {b:Ar α} (hS:Sep M w0 W (.box g te (arC N f b)::L)) (hx:cQ N b i=some x) (hf:∀ x,(f x).length=k) (ht:aX P t=some (ag,z,size,bytes)) (ho:o.op=.load t p) (hp:ev E p=some (.pointer (some ⟨g,i.toNat*k+j,none⟩)))
  (hv:df ag (seg (f x) j size)=v) (hj:Nat.ble (j+size) k=true) (h2:(ag||Nat.beq size 1)=true):eg P n E o W v W:=by
 obtain ⟨h0,h1,rfl⟩:=n6 hx
 have hj':=Nat.le_of_ble_eq_true hj
 have e:=zb hf (b:=b) h1 hj'
 exact ld ht hS ho hp (by rw [e]; exact hv) (by rw [e]; simp only [seg,List.length_take,List.length_drop,hf]; omega) h2
theorem OpW.stx {p q:Operand} {b:Ar α} {x0 x1:α} (hx:cQ N b i=some x0) (hS:Sep M w0 W (.box g te (arC N f b)::L)) (hf:∀ x,(f x).length=k) (ht:aX P t=some (ag,z,size,bytes)) (ho:o.op=.store t p q) (hp:ev E p=some (.pointer (some ⟨g,i.toNat*k+j,none⟩)))
  (hq:ev E q=some v) (hc:splice (f x0) j v.cells.toList=f x1) (k2:∀ W',Sep M w0 W' (.box g te (arC N f (mE b i x1))::L)->K E W') (hl:v.cells.size=size:=by exact rfl) (h1:v.cells.toList.all (·.oneCell')=true:=by exact rfl) (hj:Nat.ble (j+size) k=true:=by exact rfl) (hg:o.guard=none:=by exact rfl) (hd:o.dst=none:=by exact rfl):OpW P n ops o E W K:=by
 obtain ⟨h0,hi,rfl⟩:=n6 hx
 have hj':=Nat.le_of_ble_eq_true hj
 have hvl:v.cells.toList.length=size:=by simpa using hl
 refine .st ht hS ho hp hq (λW' hS'=>k2 W' ?_) hl h1 ?_ hg hd
 ·rwa [u7 hf hi (by omega) hc] at hS'
 ·have h3:(i.toNat+1)*k<=N*k:=Nat.mul_le_mul_right k hi
  rw [Nat.succ_mul] at h3
  rw [eX hf]
  exact Nat.ble_eq_true_of_le (by omega)
theorem wr:∀ {xs ys:List D} {c1 c2:List Value},dE.flats xs=some c1->dE.flats ys=some c2->dE.flats (xs++ys)=some (c1++c2)
 | [],ys,c1,c2,h,h'=>by
  simp only [dE.flats] at h
  injection h with h
  subst h
  exact h'
 | x::xs,ys,c1,c2,h,h'=>by
  simp only [dE.flats] at h
  cases h1:dE x <;> simp only [h1] at h <;> try contradiction
  rename_i d1
  cases h2:dE.flats xs <;> simp only [h2] at h <;> try contradiction
  rename_i d2
  injection h with h
  subst h
  simp only [List.cons_append,dE.flats,h1,wr h2 h',List.append_assoc]
theorem sU (hf:∀ x,dE (enc x)=some (f x)):∀ {N:Nat} {b:Ar α},dE (arD N enc b)=some (arC N f b):=by
 intro N b
 show dE.flats _=_
 induction N with
 | zero=>rfl
 | succ N ih =>
  rw [List.range_succ,List.map_append,arC]
  refine wr ih ?_
  simp only [List.map_cons,List.map_nil,dE.flats,hf,List.append_nil]
theorem wJ {kk:Nat} {b:Ar α} {A:Option Addr} {p:Operand} (hc:∀ j u,(arC N f b)[j]?=some u->W.cell? (bP A (kk+j))=some u) (ht:aX P t=some (true,z,size,bytes)) (hl:(arC N f b).length=size) (ho:o.op=.load t p) (hp:ev E p=some (.pointer (some (bP A (kk+0))))):eg P n E o W (.agg (arC N f b).toArray) W:=
 lde hc ht ho hp (by show Value.agg _=_; simp [seg,<-hl]) (by simp [seg,hl]) rfl
theorem OpW.seva {p q:Operand} {l r:List (Ar α)} {x0 x1:Ar α} (hr:upd l i x1=some r) (hx:nth l i=some x0) (hS:Sep M w0 W (ac v2 e size (arD N enc) l::L)) (ht:aX P t=some (true,z,size,bytes)) (hf:∀ x,dE (enc x)=some (f x)) (hl:∀ b:Ar α,(arC N f b).length=size) (h1:∀ x,(f x).all (·.oneCell')=true) (ho:o.op=.store t p q)
  (hp:ev E p=some (.pointer (some (bP (adr v2) (i.toNat*size+0))))) (hq:ev E q=some (.agg (arC N f x1).toArray))
  (k2:∀ W',Sep M w0 W' (ac v2 e size (arD N enc) r::L)->K E W') (h0:Nat.blt 0 size=true:=by exact rfl) (hg:o.guard=none:=by exact rfl) (hd:o.dst=none:=by exact rfl):OpW P n ops o E W K:=
 .sev hr hx hS ht ho hp hq (sU hf) (sU hf) (by
  show splice _ 0 (arC N f x1)=_
  unfold splice
  rw [List.take_zero,List.nil_append,List.drop_eq_nil_of_le (by rw [hl,Nat.zero_add,hl]; exact Nat.le_refl _),List.append_nil]) k2 (by show (arC N f x1).toArray.size=size; rw [List.size_toArray,hl]) (wI h1) (by rw [hl,Nat.zero_add]; exact Nat.ble_eq_true_of_le (Nat.le_refl _)) h0 hg hd
theorem Du {b:Ar α} {j0:IntKind} {kk:Nat} {A:Option Addr} {p q:Operand} (hx:cQ N b i=some x) (hu:P.underlying t=some (.array N e)) (ht:aX P e=some (ag,z,size,bytes)) (ho:o.op=.indexAddr t p q)
  (hp:ev E p=some (.pointer (some (bP A (kk+0))))) (hq:ev E q=some (.int j0 i)):eg P n E o W (.pointer (some (bP A (kk+(i.toNat*size+0))))) W:=by
 intro a ha
 obtain ⟨h0,h1,h2⟩:=n6 hx
 have hadd:(bP A kk).add (i.toNat*size)=bP A (kk+i.toNat*size):=by unfold bP; rw [Addr.add_add]
 unfold execOp
 simp only [ho,ha.ev hp,ha.ev hq,Sem.run_bind,Instr.indexAt,asIntOf,Sem.run_pure,Result.andThen_ok,run_underlying hu,Instr.sureAddr]
 rw [if_pos ⟨h0,by omega⟩]
 simp [dQ ht,hadd]
theorem OpW.sevx {p q:Operand} {l r:List (Ar α)} {b:Ar α} {x0 x1:α} {i2:Int} {tsize tb:Nat} (hr:upd l i (mE b i2 x1)=some r) (hx:nth l i=some b) (hx2:cQ N b i2=some x0) (hS:Sep M w0 W (ac v2 e size (arD N enc) l::L)) (ht:aX P t=some (ag,z,tsize,tb)) (hfl:∀ x,dE (enc x)=some (f x)) (hf:∀ x,(f x).length=k) (ho:o.op=.store t p q)
  (hp:ev E p=some (.pointer (some (bP (adr v2) (i.toNat*size+(i2.toNat*k+j)))))) (hq:ev E q=some v) (hc:splice (f x0) j v.cells.toList=f x1)
  (k2:∀ W',Sep M w0 W' (ac v2 e size (arD N enc) r::L)->K E W') (hl:v.cells.size=tsize:=by exact rfl) (h1:v.cells.toList.all (·.oneCell')=true:=by exact rfl) (hj:Nat.ble (j+tsize) k=true:=by exact rfl) (h0:Nat.blt 0 tsize=true:=by exact rfl) (hg:o.guard=none:=by exact rfl) (hd:o.dst=none:=by exact rfl):OpW P n ops o E W K:=by
 obtain ⟨h0',hi,rfl⟩:=n6 hx2
 have hj':=Nat.le_of_ble_eq_true hj
 have hvl:v.cells.toList.length=tsize:=by simpa using hl
 refine .sev hr hx hS ht ho hp hq (sU hfl) (sU hfl) (u7 hf hi (by omega) hc) k2 hl h1 ?_ h0 hg hd
 have h3:(i2.toNat+1)*k<=N*k:=Nat.mul_le_mul_right k hi
 rw [Nat.succ_mul] at h3
 rw [eX hf]
 exact Nat.ble_eq_true_of_le (by omega)
theorem ue {d:Nat} {q:α->α->Bool} (hz:P.cellsOf e=k) (ht:aX P e=some (ag,z,k,bytes)) (hf:∀ x,(f x).length=k) (h2:(ag||Nat.beq k 1)=true) (hq:∀ x y,(Op.equalIn d e (df ag (f x)) (df ag (f y))).run P W=.ok (q x y) W) {N:Nat} {b c:Ar α} :
  ∀ m,m<=N->(Op.eqItems d e k (arC N f b).toArray (arC N f c).toArray ((List.range' (N-m) m))).run P W=.ok ((List.range' (N-m) m).all λi=>q (b i) (c i)) W
 | 0,_=>by simp [Op.eqItems]
 | m+1,hm=>by
  have hp:∀ b:Ar α,(part e (arC N f b).toArray ((N-(m+1))*k)).run P W=.ok (df ag (f (b (N-(m+1))))) W:=λb=>by
   have e1:=zb hf (b:=b) (N:=N) (i:=N-(m+1)) (q:=0) (m:=k) (by omega) (by omega)
   rw [Nat.add_zero] at e1
   have e2:seg (f (b (N-(m+1)))) 0 k=f (b (N-(m+1))):=by
    simp only [seg,List.drop_zero]
    rw [List.take_of_length_le (by rw [hf]; exact Nat.le_refl _)]
   rw [e2] at e1
   have:=uT (P:=P) (W:=W) (cs:=arC N f b) (off:=(N-(m+1))*k) ht (by rw [e1,hf]) h2
   rw [e1] at this
   exact this
  rw [List.range'_succ]
  simp only [Op.eqItems,Sem.run_bind,hp,hq,Result.andThen_ok,List.all_cons]
  cases hb:q (b (N-(m+1))) (c (N-(m+1)))
  ·simp
  ·have ih:=ue (N:=N) (b:=b) (c:=c) hz ht hf h2 hq m (by omega)
   rw [show N-m=N-(m+1)+1 by omega] at ih
   simpa using ih
theorem zd {q:α->α->Bool} {b c:Ar α}:∀ {N:Nat},(List.range N).all (λi=>q (b i) (c i))=aeq N q b c
 | 0=>rfl
 | N+1=>by rw [List.range_succ,List.all_append,zd,aeq]; simp
theorem Au {d:Nat} {offs:List (Nat×TypeDesc)} {xs ys:List Value} {b:Bool} (h:pp P t=some offs) (hv:rQ xs ys offs=some b):(Op.equalIn (d+2) t (.agg xs.toArray) (.agg ys.toArray)).run P W=.ok b W:=by
 obtain ⟨fs,h1,h2,h3,h4⟩:=qZ h
 have hf:P.fieldsOf t=fs:=by simp [Program.fieldsOf,h1]
 rw [run_equalIn_struct (P:=P) W (d+1) t _ _ (by rw [hf]; exact h1) h2,hf]
 exact sR (d:=d) h4 hv
theorem xv (ht:aX P e=some (ag,z,k,bytes)):P.cellsOf e=k/\∃ i,P.info? e=some i:=by
 obtain ⟨i,d,h1,h2,h3,h4,h5,h6⟩:=mc ht
 exact ⟨by simp [Program.cellsOf,h1,h5],i,h1⟩
theorem vX {d:Nat} (hu:P.underlying t=some (.array N e)) (ht:aX P e=some (ag,z,k,bytes)) (hf:∀ x,(f x).length=k) (h2:(ag||Nat.beq k 1)=true) {q:α->α->Bool} (hq:∀ x y,(Op.equalIn d e (df ag (f x)) (df ag (f y))).run P W=.ok (q x y) W) {b c:Ar α} :
  (Op.equalIn (d+1) t (.agg (arC N f b).toArray) (.agg (arC N f c).toArray)).run P W=.ok (aeq N q b c) W:=by
 obtain ⟨hz,i,hi⟩:=xv ht
 rw [run_equalIn_array W d _ _ hu hi,hz]
 have:=ue (N:=N) (b:=b) (c:=c) hz ht hf h2 hq N (Nat.le_refl _)
 rw [Nat.sub_self,<-List.range_eq_range'] at this
 rw [this,zd]
theorem nea {p r:Operand} {t':TypeId} {q:α->α->Bool} {b c:Ar α} (hG:P.eqGuardType P.depth t=false) (hu:P.underlying t=some (.array N e)) (ht:aX P e=some (ag,z,k,bytes)) (hf:∀ x,(f x).length=k) (h2:(ag||Nat.beq k 1)=true)
  (hq:∀ W x y,(Op.equalIn 9999 e (df ag (f x)) (df ag (f y))).run P W=.ok (q x y) W) (ho:o.op=.binOp .neq t p r t') (hp:ev E p=some (.agg (arC N f b).toArray)) (hr:ev E r=some (.agg (arC N f c).toArray)):eg P n E o W (.bool (!(aeq N q b c))) W:=by
 intro a ha
 have hg:(eqGuard .neq t p r (.agg (arC N f b).toArray) (.agg (arC N f c).toArray)).run P W=.ok () W:=by
  unfold eqGuard
  simp [run_program,hG]
 unfold execOp
 simp only [ho,ha.ev hp,ha.ev hr,Sem.run_bind,hg,Result.andThen_ok,run_neq_struct,vX (d:=9999) hu ht hf h2 (hq W)]
 rfl
theorem eqI {j:IntKind} (hu:P.underlying e=some (.int j)):∀ W (x y:Int),(Op.equalIn 9999 e (df false [.int j x]) (df false [.int j y])).run P W=.ok (x==y) W:=λW x y=>run_equalIn_int W 9998 e j j x y hu
theorem eqS {offs:List (Nat×TypeDesc)} {q:α->α->Bool} (h:pp P e=some offs) (hv:∀ x y,rQ (f x) (f y) offs=some (q x y)):∀ W x y,(Op.equalIn 9999 e (df true (f x)) (df true (f y))).run P W=.ok (q x y) W:=λW x y=>Au (d:=9997) h (hv x y)
theorem OpW.lfn {k:Nat} {parts:Array (Nat×Operand)} {vs:List Value} (hu:P.underlying t=some (.slice e)) (ht:aX P e=some (ag,some zv,size,bytes)) (hS:Sep M w0 W L) (ho:o.op=.buildSlice t k parts) (hp:mN 0 parts.toList E=some vs) (hk:vs.length=k) (hvs:xr size vs=true)
  (h:∀ g W',Sep M w0 W' (.box g e (cN vs)::L)->K (put E o.dst (.slice (some ⟨g,0,none⟩) k k)) W') (hle:Nat.ble (k*size) 16777216=true:=by exact rfl) (hg:o.guard=none:=by exact rfl) (hd:okD n o.dst=true:=by exact rfl):OpW P n ops o E W K:=by
 refine .runs (W':=W.alloc (.cells (cN vs).toArray e)) (v:=.slice (some ⟨W.heap.size,0,none⟩) k k) (λa ha=>?_) hg hd (h W.heap.size _ (hS.box e (cN vs)))
 have h1:=mD ha hp
 have h2:parts.map (λp=>(p.1,a.eval p.2))=(dh 0 vs).toArray:=by rw [<-h1]; apply Array.ext'; simp
 unfold execOp
 simp only [ho,Sem.run_bind]
 rw [show (parts.map λ(x:Nat×Operand)=>match x with | (i,x)=>(i,a.eval x))=(dh 0 vs).toArray from h2,lC hu ht hk (ra hvs) (Nat.le_of_ble_eq_true hle)]
 rfl
theorem ixs {nn cc:Nat} {j0:IntKind} {p q:Operand} (hi:0<=i/\i<(nn:Int)) (hu:P.underlying t=some (.slice e)) (ht:aX P e=some (ag,z,size,bytes)) (ho:o.op=.indexAddr t p q)
  (hp:ev E p=some (.slice (some ⟨g,0,none⟩) nn cc)) (hq:ev E q=some (.int j0 i)):eg P n E o W (.pointer (some ⟨g,0+i.toNat*size,none⟩)) W:=by
 intro a ha
 have hadd:(⟨g,0,none⟩:Addr).add (i.toNat*size)=⟨g,0+i.toNat*size,none⟩:=by unfold Addr.add; split <;> simp_all
 unfold execOp
 simp only [ho,ha.ev hp,ha.ev hq,Sem.run_bind,Instr.indexAt,asIntOf,Sem.run_pure,Result.andThen_ok,run_underlying hu,Instr.sureAddr]
 rw [if_pos hi]
 simp [dQ ht,hadd]
def CR (P:Program) (n:Nat) (c:Code) (N:Nat) (E:Env) (W:World) (R:Exit->Env->World->Prop):Prop:=∀ a,hU n E a->Code.rounds P c (λx a' W'=>∃ E',hU n E' a'/\R x E' W') N a W
theorem CW.rounds {c:Code} (N:Nat) (h:CR P n c N E W R):CW P n (.loop c) E W R:=λa ha=>wp_loop_rounds N (h a ha)
theorem CR.step {c:Code} {N:Nat} (h:CW P n c E W (yQ (λE' W'=>CR P n c N E' W' R) R)):CR P n c (N+1) E W R:=by
 intro a ha
 rw [rounds_succ]
 refine Code.wp_mono ?_ (h a ha)
 rintro x a' w' ⟨E',hf',hx⟩
 cases x with
 | normal=>exact hx a' hf'
 | _=>exact ⟨E',hf',hx⟩
theorem yl (ha:hU n E a) (hg:gdu ops.toList E o.guard=true):Region.wanted o (yielded ops a.tmps)=false:=by
 cases hq:o.guard with
 | none=>rw [hq] at hg; simp [gdu] at hg
 | some p =>
  obtain ⟨j,b⟩:=p
  rw [hq] at hg
  simp only [gdu] at hg
  cases h1:nth? ops.toList j <;> simp only [h1] at hg <;> try contradiction
  rename_i o'
  cases h2:o'.dst <;> simp only [h2] at hg <;> try contradiction
  rename_i d
  cases h3:f5 E d <;> simp only [h3] at hg <;> try contradiction
  rename_i z
  rw [nth?_eq] at h1
  have hj:ops[j]?=some o':=by simpa using h1
  have hd':=ha.h _ _ h3
  cases z <;> simp only at hg <;> first | contradiction | simp [Region.wanted,hq,yielded,hj,h2,hd']
theorem RK.offu {SW:World->Prop} {f:Nat} {ls:Array Bool} (i:Nat) (ho:ops[i]?=some o) (hS:SW W) (h:RK P n ops SW k f (ls.setIfInBounds i true) (put E o.dst undef) W K)
  (hs:(Region.noSelect ops&&Region.free .any ops ls i&&(Region.ready .any ops ls).contains i&&ki ops k i&&!(Nat.beq i k))=true) (hg:gdu ops.toList E o.guard=true) (hd:okD n o.dst=true):RK P n ops SW k (f+1) ls E W K:=by
 intro a Q ha hk
 simp only [Bool.and_eq_true,Bool.not_eq_true'] at hs
 obtain ⟨⟨⟨⟨h1,h2⟩,h3⟩,h4⟩,h5⟩:=hs
 exact qh ho h1 (λc a w h=>h) h4 (by rintro rfl; rw [Nat.beq_refl] at h5; cases h5) (qp.of ho h2) (by simpa using h3) (.inr ⟨yl ha hg,rfl⟩) hS (h _ Q (ha.put hd _) hk)
def EC (w:World) (T:Nat->Prop) (A:Option Addr) (k:Nat) (cs:List Value):Prop:=∀ W,fu T w W->∀ j u,cs[j]?=some u->W.cell? (bP A (k+j))=some u
theorem Sep.keepE {A:Option Addr} {cs:List Value} (h:Sep M w W L) (hc:EC w (Old M w) A k cs):EC W (Old No W) A k cs:=λW' hW'=>hc W' λb hb=>(hW' b ⟨Nat.lt_of_lt_of_le hb.1 h.frame.size,id⟩).trans (h.agree b hb)
def u9 (ops:Array Oper):List Nat->Nat->Bool
 | [],_=>true
 | [m],i=>ki ops m i
 | m::m'::r,i=>ki ops m m'&&u9 ops (m'::r) i
theorem ws {i:Nat} {l:Array Bool} (hi:l.getD i true=false):∀ {cs:List Nat},u9 ops cs i=true->(∀ m∈cs,l.getD m true=false)->∀ m∈cs,m∉Region.ready .any ops l
 | [],_,_,m,hm=>by simp at hm
 | [m0],h,_,m,hm=>by
  obtain rfl:=List.mem_singleton.1 hm
  exact me h hi
 | m0::m'::r,h,hc,m,hm=>by
  simp only [u9,Bool.and_eq_true] at h
  rcases List.mem_cons.1 hm with rfl | hm
  ·exact me h.1 (hc m' (by simp))
  ·exact ws hi h.2 (λx hx=>hc x (List.mem_cons_of_mem _ hx)) m hm
section
variable {Q:Exit->Act->World->Prop} {SW:World->Prop} {k:Nat}
theorem ym {i:Nat} {cs:List Nat} {oi:Oper} {v:Value} (hi:ops[i]?=some oi) (hs:Region.noSelect ops=true) (hQ:∀ c a w,Q (.panic c) (a.put oi.dst v) w->Q (.panic c) a w) (hch:u9 ops cs i=true) (hkc:k∈cs) (hik:i≠k) :
  ∀ {f:Nat} {l:Array Bool} {a:Act} {w:World},(∀ m∈cs,l.getD m true=false)->qp ops i oi l->i∈Region.ready .any ops l->YieldsIf P ops SW oi v a->SW w->wpM P ops Q SW k f (l.setIfInBounds i true) (a.put oi.dst v) w->wpM P ops Q SW k (f+1) l a w:=by
 intro f
 induction f with
 | zero =>
  intro l a w hm hL hr hy hS H
  refine ⟨λh=>absurd (h▸hr) (by simp),λj hj=>?_⟩
  rcases Nat.decEq j i with hji | hji
  ·exact absurd (ready_mono hj hji) (by rw [H.1]; simp)
  ·subst hji
   exact hy.wpOp hi hS ⟨λ_=>hS,H⟩
 | succ f ih =>
  intro l a w hm hL hr hy hS H
  have hl:=(mem_ready.1 hr).1
  refine ⟨λh=>absurd (h▸hr) (by simp),λj hj=>?_⟩
  rcases Nat.decEq j i with hji | hji
  ·obtain ⟨hjl,oj,hoj,_⟩:=mem_ready.1 hj
   have hout:=ws hl hch hm
   have hm':∀ m∈cs,(l.setIfInBounds j true).getD m true=false:=λm hmc=>by
    have hne:j≠m:=λh=>hout m hmc (by rw [<-h]; exact hj)
    rw [getD_set_ne true hne]
    exact hm m hmc
   have hk':=hm' k hkc
   have hsel:=Region.noSelect_spec hs
   refine wpOp_mono (λa' w' ⟨hy',hS',H'⟩=>⟨λ_=>hS' ?_,ih hm' (hL.set hjl) (ready_mono hr λh=>hji h.symm) hy' (hS' ?_) ?_⟩)
    (wpOp_putIf hoj (hL j oj hoj hji hjl (qg hl hj)) (λcs b=>hsel i oi cs b hi) (λcs b=>hsel j oj cs b hoj) hQ hy (H.2 j (ready_mono hj hji)))
   ·rw [Array.setIfInBounds_comm _ _ λh=>hji h.symm,getD_set_ne true hik]; exact hk'
   ·rw [Array.setIfInBounds_comm _ _ λh=>hji h.symm,getD_set_ne true hik]; exact hk'
   ·rwa [Array.setIfInBounds_comm _ _ hji]
  ·subst hji
   exact hy.wpOp hi hS ⟨λ_=>hS,H⟩
theorem RM.tL {f:Nat} {l:Array Bool} (i:Nat) (cs:List Nat) (ho:ops[i]?=some o) (hv:∀ W,SW W->eg P n E o W v W) (hS:SW W) (h:RM P n ops SW k f (l.setIfInBounds i true) (put E o.dst v) W K)
  (hs:(Region.noSelect ops&&Region.free .any ops l i&&(Region.ready .any ops l).contains i&&u9 ops cs i&&cs.contains k&&!(Nat.beq i k)&&cs.all (λm=>!(l.getD m true)))=true) (hg:o.guard=none) (hd:okD n o.dst=true):RM P n ops SW k (f+1) l E W K:=by
 intro a Q ha hk
 simp only [Bool.and_eq_true,Bool.not_eq_true',List.all_eq_true] at hs
 obtain ⟨⟨⟨⟨⟨⟨h1,h2⟩,h3⟩,h4⟩,h5⟩,h6⟩,h7⟩:=hs
 exact ym ho h1 (λc a w h=>h) h4 (by simpa using h5) (by rintro rfl; rw [Nat.beq_refl] at h6; cases h6) (λm hm=>h7 m hm) (qp.of ho h2) (by simpa using h3) (.inl ⟨by simp [Region.wanted,hg],λw hw=>hv w hw a ha⟩) hS (h _ Q (ha.put hd v) hk)
end
theorem dG {α β γ:Type} {a:α} {f:α->γ} {g:β->γ} {r:γ} (h:kV (Sum.inl a) f g=r):f a=r:=h
theorem dH {α β γ:Type} {a:β} {f:α->γ} {g:β->γ} {r:γ} (h:kV (Sum.inr a) f g=r):g a=r:=h
end
end Go.Proofs.YtfpngipcclmliaaGreatDoor.X
namespace Go.Proofs.YtfpngipcclmliaaGreatDoor.N
open Go.Proofs.YtfpngipcclmliaaGreatDoor.X
noncomputable section
structure Av where
 name:ByteArray
 opcode:Int
 funct3:Int
 funct7:Int
structure aQ where
 b:List Int
 p:Int
structure Expr where
 Op:Int
 N:Int
 Args:List Expr
mutual
def aK:Expr->D
 | ⟨x0,x1,x2⟩=>.agg [.int .i64 x0,.int .i64 x1,.row 91 3 (wK x2)]
def wK:List Expr->List D
 | []=>[]
 | x::r=>aK x::wK r
end
theorem vb:∀ l,wK l=l.map aK
 | []=>rfl
 | x::r=>by rw [wK,vb r,List.map]
theorem cH (x:Expr):aK x=.agg [.int .i64 x.Op,.int .i64 x.N,.row 91 3 (x.Args.map aK)]:=by
 cases x; simp only [aK,vb]
theorem Aw (x:Expr):(aK x).sz=3:=by simp only [cH,D.sz,D.szs]
structure ah where
 Kind:Int
 Var:Int
 Box:Int
 Expr:Expr
 Body:List ah
 Else:List ah
mutual
def ak:ah->D
 | ⟨x0,x1,x2,x3,x4,x5⟩=>.agg [.int .i64 x0,.int .i64 x1,.int .i64 x2,aK x3,.row 95 8 (vd x4),.row 95 8 (vd x5)]
def vd:List ah->List D
 | []=>[]
 | x::r=>ak x::vd r
end
theorem ve:∀ l,vd l=l.map ak
 | []=>rfl
 | x::r=>by rw [vd,ve r,List.map]
theorem eI (x:ah):ak x=.agg [.int .i64 x.Kind,.int .i64 x.Var,.int .i64 x.Box,aK x.Expr,.row 95 8 (x.Body.map ak),.row 95 8 (x.Else.map ak)]:=by
 cases x; simp only [ak,ve]
theorem j8 (x:ah):(ak x).sz=8:=by simp only [eI,D.sz,D.szs,Aw]
structure aA where
 Rooms:List Int
 Tasks:List (List ah)
structure qq where
 variable_:Bool
 box:Bool
 expr:Bool
 body:Bool
 other:Bool
structure ab where
 Op:Int
 Dst:Int
 A:Int
 B:Int
 N:Int
def ae (x:ab):D:=.agg [.int .i64 x.Op,.int .i64 x.Dst,.int .i64 x.A,.int .i64 x.B,.int .i64 x.N]
structure aj where
 Kind:Int
 N:Int
def a8 (x:aj):D:=.agg [.int .i64 x.Kind,.int .i64 x.N]
abbrev fv (b:Ar aj):List Value:=arC 12 (λ(x:aj)=>[.int .i64 x.Kind,.int .i64 x.N]) b
theorem hY (b:Ar aj):(fv b).length=24:=eX (k:=2) λ_=>rfl
theorem rb:∀ x:aj,([.int .i64 x.Kind,.int .i64 x.N]:List Value).all (·.oneCell')=true:=λ_=>rfl
abbrev bE (b:Ar Int):List Value:=arC 12 (λ(x:Int)=>[.int .i64 x]) b
theorem cP (b:Ar Int):(bE b).length=12:=eX (k:=1) λ_=>rfl
theorem mP:∀ x:Int,([.int .i64 x]:List Value).all (·.oneCell')=true:=λ_=>rfl
abbrev iv (b:Ar Int):List Value:=arC 12 (λ(x:Int)=>[.int .u16 x]) b
theorem wL (b:Ar Int):(iv b).length=12:=eX (k:=1) λ_=>rfl
theorem Ax:∀ x:Int,([.int .u16 x]:List Value).all (·.oneCell')=true:=λ_=>rfl
structure Instr where
 Op:Int
 Rd:Int
 Rs:Int
 Rt:Int
 Imm:Int
def ai (x:Instr):D:=.agg [.int .i64 x.Op,.int .i64 x.Rd,.int .i64 x.Rs,.int .i64 x.Rt,.int .i64 x.Imm]
structure bz where
 colors:Int
 list:List Instr
def mg:List Int:=[7,8,6,8,11,9,10,1,2,3,4,5]
def CZ:List Int:=[1,2,8,9,18,19,20,21,22,23,10,11,17]
def jG:List Int:=[8,9,18,19,20,21,22,23]
def Cw:List Av:=[⟨⟨#[97,100,100]⟩,51,0,0⟩,⟨⟨#[115,117,98]⟩,51,0,32⟩,⟨⟨#[109,117,108]⟩,51,0,1⟩,⟨⟨#[100,105,118]⟩,51,4,1⟩,⟨⟨#[114,101,109]⟩,51,6,1⟩,⟨⟨#[97,110,100]⟩,51,7,0⟩,⟨⟨#[111,114]⟩,51,6,0⟩,⟨⟨#[120,111,114]⟩,51,4,0⟩,⟨⟨#[115,108,108]⟩,51,1,0⟩,⟨⟨#[115,114,97]⟩,51,5,32⟩,⟨⟨#[115,108,116]⟩,51,2,0⟩,⟨⟨#[97,100,100,105]⟩,19,0,0⟩,⟨⟨#[115,108,116,105,117]⟩,19,3,0⟩,⟨⟨#[108,119]⟩,3,2,0⟩,⟨⟨#[106,97,108,114]⟩,103,0,0⟩,⟨⟨#[115,119]⟩,35,2,0⟩,⟨⟨#[98,101,113]⟩,99,0,0⟩,⟨⟨#[98,110,101]⟩,99,1,0⟩,⟨⟨#[108,117,105]⟩,55,0,0⟩,⟨⟨#[106,97,108]⟩,111,0,0⟩,⟨⟨#[101,99,97,108,108]⟩,115,0,0⟩]
def NGl:Nat:=3
def Gl (w:World):Prop:=Tab 0 1 (λx:Int=>[.int .i64 x]) mg w/\True/\Tab 2 1 (λx:Int=>[.int .i64 x]) jG w/\True
theorem Gl.at {w W:World} {M:Nat->Prop} {L:List Ent} (h:Gl w) (hS:Sep M w W L) (hM:∀ g,g<NGl->¬ M g):Gl W:=⟨Tab.at h.1 hS (hM 0 (by decide)),trivial,Tab.at h.2.2.1 hS (hM 2 (by decide)),trivial⟩
theorem Gl.noS {w W:World} {M S:Nat->Prop} (h:Gl w) (hM:∀ g,g<NGl->¬ M g) (h1:∀ b,S b->OkS M w W b):∀ g,g<NGl->¬ S g:=λg hg hs=>by
 have h3:2<w.heap.size:=h.2.2.1.1
 have hg':g<3:=hg
 rcases (h1 g hs).1 with h4 | h4
 ·omega
 ·exact hM g hg h4
theorem T.u22:Tryz.prog.underlying 22=some (.slice 5):=by kernel_rfl
theorem T.t5:aX Tryz.prog 5=some (false,some (.int .u8 0),1,1):=by kernel_rfl
theorem T.s88:oV Tryz.prog 88=some ([(0,1),(1,1)],[.slice none 0 0,.int .i64 0]):=by kernel_rfl
theorem T.f88_1:kg Tryz.prog 88 1=some (1,1,false):=by kernel_rfl
theorem T.t3:aX Tryz.prog 3=some (false,some (.int .i64 0),1,8):=by kernel_rfl
theorem T.f88_0:kg Tryz.prog 88 0=some (0,1,false):=by kernel_rfl
theorem T.t22:aX Tryz.prog 22=some (false,some (.slice none 0 0),1,24):=by kernel_rfl
theorem T.u5:Tryz.prog.underlying 5=some (.int .u8):=by kernel_rfl
theorem T.u3:Tryz.prog.underlying 3=some (.int .i64):=by kernel_rfl
theorem T.mix:Tryz.prog.follows .mixedOrders=true:=by kernel_rfl
theorem T.u23:Tryz.prog.underlying 23=some (.slice 3):=by kernel_rfl
theorem T.t91:aX Tryz.prog 91=some (true,some (.agg #[.int .i64 0,.int .i64 0,.slice none 0 0]),3,40):=by kernel_rfl
theorem T.u89:Tryz.prog.underlying 89=some (.slice 91):=by kernel_rfl
theorem T.s91:oV Tryz.prog 91=some ([(0,1),(1,1),(2,1)],[.int .i64 0,.int .i64 0,.slice none 0 0]):=by kernel_rfl
theorem T.t95:aX Tryz.prog 95=some (true,some (.agg #[.int .i64 0,.int .i64 0,.int .i64 0,.int .i64 0,.int .i64 0,.slice none 0 0,.slice none 0 0,.slice none 0 0]),8,112):=by kernel_rfl
theorem T.s95:oV Tryz.prog 95=some ([(0,1),(1,1),(2,1),(3,3),(6,1),(7,1)],[.int .i64 0,.int .i64 0,.int .i64 0,.int .i64 0,.int .i64 0,.slice none 0 0,.slice none 0 0,.slice none 0 0]):=by kernel_rfl
theorem T.u93:Tryz.prog.underlying 93=some (.slice 95):=by kernel_rfl
theorem T.f95_4:kg Tryz.prog 95 4=some (6,1,false):=by kernel_rfl
theorem T.t93:aX Tryz.prog 93=some (false,some (.slice none 0 0),1,24):=by kernel_rfl
theorem T.f95_5:kg Tryz.prog 95 5=some (7,1,false):=by kernel_rfl
theorem T.t26:aX Tryz.prog 26=some (true,some (.agg #[.slice none 0 0,.slice none 0 0]),2,48):=by kernel_rfl
theorem T.u24:Tryz.prog.underlying 24=some (.slice 93):=by kernel_rfl
theorem T.s26:oV Tryz.prog 26=some ([(0,1),(1,1)],[.slice none 0 0,.slice none 0 0]):=by kernel_rfl
theorem T.f26_1:kg Tryz.prog 26 1=some (1,1,false):=by kernel_rfl
theorem T.t24:aX Tryz.prog 24=some (false,some (.slice none 0 0),1,24):=by kernel_rfl
theorem T.f26_0:kg Tryz.prog 26 0=some (0,1,false):=by kernel_rfl
theorem T.t23:aX Tryz.prog 23=some (false,some (.slice none 0 0),1,24):=by kernel_rfl
theorem T.t4:aX Tryz.prog 4=some (false,some (.bool false),1,1):=by kernel_rfl
theorem T.f91_0:kg Tryz.prog 91 0=some (0,1,false):=by kernel_rfl
theorem T.f91_1:kg Tryz.prog 91 1=some (1,1,false):=by kernel_rfl
theorem T.f91_2:kg Tryz.prog 91 2=some (2,1,false):=by kernel_rfl
theorem T.t89:aX Tryz.prog 89=some (false,some (.slice none 0 0),1,24):=by kernel_rfl
theorem T.t237:aX Tryz.prog 237=some (true,some (.agg #[.bool false,.bool false,.bool false,.bool false,.bool false]),5,5):=by kernel_rfl
theorem T.f95_0:kg Tryz.prog 95 0=some (0,1,false):=by kernel_rfl
theorem T.f237_0:kg Tryz.prog 237 0=some (0,1,false):=by kernel_rfl
theorem T.f237_2:kg Tryz.prog 237 2=some (2,1,false):=by kernel_rfl
theorem T.f237_3:kg Tryz.prog 237 3=some (3,1,false):=by kernel_rfl
theorem T.f237_4:kg Tryz.prog 237 4=some (4,1,false):=by kernel_rfl
theorem T.f237_1:kg Tryz.prog 237 1=some (1,1,false):=by kernel_rfl
theorem T.f95_1:kg Tryz.prog 95 1=some (1,1,false):=by kernel_rfl
theorem T.f95_2:kg Tryz.prog 95 2=some (2,1,false):=by kernel_rfl
theorem T.f95_3:kg Tryz.prog 95 3=some (3,3,true):=by kernel_rfl
theorem T.s70:oV Tryz.prog 70=some ([(0,1),(1,1),(2,1),(3,1),(4,1)],[.int .i64 0,.int .i64 0,.int .i64 0,.int .i64 0,.int .i64 0]):=by kernel_rfl
theorem T.u38:Tryz.prog.underlying 38=some (.slice 70):=by kernel_rfl
theorem T.t70:aX Tryz.prog 70=some (true,some (.agg #[.int .i64 0,.int .i64 0,.int .i64 0,.int .i64 0,.int .i64 0]),5,40):=by kernel_rfl
theorem T.f70_4:kg Tryz.prog 70 4=some (4,1,false):=by kernel_rfl
theorem T.u32:Tryz.prog.underlying 32=some (.slice 38):=by kernel_rfl
theorem T.t38:aX Tryz.prog 38=some (false,some (.slice none 0 0),1,24):=by kernel_rfl
theorem T.f70_1:kg Tryz.prog 70 1=some (1,1,false):=by kernel_rfl
theorem T.f70_2:kg Tryz.prog 70 2=some (2,1,false):=by kernel_rfl
theorem T.f70_3:kg Tryz.prog 70 3=some (3,1,false):=by kernel_rfl
theorem T.f70_0:kg Tryz.prog 70 0=some (0,1,false):=by kernel_rfl
theorem T.e70:pp Tryz.prog 70=some [(0,.int .i64),(1,.int .i64),(2,.int .i64),(3,.int .i64),(4,.int .i64)]:=by kernel_rfl
theorem T.u21:Tryz.prog.underlying 21=some (.int .i32):=by kernel_rfl
theorem T.t181:aX Tryz.prog 181=some (true,some (.agg #[.int .i64 0,.int .i64 0,.int .i64 0,.int .i64 0,.int .i64 0,.int .i64 0,.int .i64 0,.int .i64 0,.int .i64 0,.int .i64 0,.int .i64 0,.int .i64 0,.int .i64 0,.int .i64 0,.int .i64 0,.int .i64 0,.int .i64 0,.int .i64 0,.int .i64 0,.int .i64 0,.int .i64 0,.int .i64 0,.int .i64 0,.int .i64 0]),24,192):=by kernel_rfl
theorem T.s179:oV Tryz.prog 179=some ([(0,1),(1,1)],[.int .i64 0,.int .i64 0]):=by kernel_rfl
theorem T.t179:aX Tryz.prog 179=some (true,some (.agg #[.int .i64 0,.int .i64 0]),2,16):=by kernel_rfl
theorem T.u181:Tryz.prog.underlying 181=some (.array 12 179):=by kernel_rfl
theorem T.f179_0:kg Tryz.prog 179 0=some (0,1,false):=by kernel_rfl
theorem T.f179_1:kg Tryz.prog 179 1=some (1,1,false):=by kernel_rfl
theorem T.e179:pp Tryz.prog 179=some [(0,.int .i64),(1,.int .i64)]:=by kernel_rfl
theorem T.u176:Tryz.prog.underlying 176=some (.slice 181):=by kernel_rfl
theorem T.q181:Tryz.prog.eqGuardType Tryz.prog.depth 181=false:=by kernel_rfl
theorem T.t185:aX Tryz.prog 185=some (true,some (.agg #[.int .i64 0,.int .i64 0,.int .i64 0,.int .i64 0,.int .i64 0,.int .i64 0,.int .i64 0,.int .i64 0,.int .i64 0,.int .i64 0,.int .i64 0,.int .i64 0]),12,96):=by kernel_rfl
theorem T.u185:Tryz.prog.underlying 185=some (.array 12 3):=by kernel_rfl
theorem T.u183:Tryz.prog.underlying 183=some (.slice 185):=by kernel_rfl
theorem T.u188:Tryz.prog.underlying 188=some (.slice 4):=by kernel_rfl
theorem T.q185:Tryz.prog.eqGuardType Tryz.prog.depth 185=false:=by kernel_rfl
theorem T.u190:Tryz.prog.underlying 190=some (.slice 145):=by kernel_rfl
theorem T.t145:aX Tryz.prog 145=some (false,some (.int .u16 0),1,2):=by kernel_rfl
theorem T.u142:Tryz.prog.underlying 142=some (.slice 67):=by kernel_rfl
theorem T.t67:aX Tryz.prog 67=some (false,some (.nilFunc),1,8):=by kernel_rfl
theorem T.t146:aX Tryz.prog 146=some (true,some (.agg #[.int .u16 0,.int .u16 0,.int .u16 0,.int .u16 0,.int .u16 0,.int .u16 0,.int .u16 0,.int .u16 0,.int .u16 0,.int .u16 0,.int .u16 0,.int .u16 0]),12,24):=by kernel_rfl
theorem T.u146:Tryz.prog.underlying 146=some (.array 12 145):=by kernel_rfl
theorem T.f104_1:kg Tryz.prog 104 1=some (1,1,false):=by kernel_rfl
theorem T.t35:aX Tryz.prog 35=some (false,some (.slice none 0 0),1,24):=by kernel_rfl
theorem T.u35:Tryz.prog.underlying 35=some (.slice 74):=by kernel_rfl
theorem T.t74:aX Tryz.prog 74=some (true,some (.agg #[.int .i64 0,.int .i64 0,.int .i64 0,.int .i64 0,.int .i64 0]),5,40):=by kernel_rfl
theorem T.f104_0:kg Tryz.prog 104 0=some (0,1,false):=by kernel_rfl
theorem T.u149:Tryz.prog.underlying 149=some (.array 8 3):=by kernel_rfl
theorem T.s74:oV Tryz.prog 74=some ([(0,1),(1,1),(2,1),(3,1),(4,1)],[.int .i64 0,.int .i64 0,.int .i64 0,.int .i64 0,.int .i64 0]):=by kernel_rfl
theorem T.s104:oV Tryz.prog 104=some ([(0,1),(1,1)],[.int .i64 0,.slice none 0 0]):=by kernel_rfl
theorem T.u194:Tryz.prog.underlying 194=some (.int .u32):=by kernel_rfl
theorem T.u110:Tryz.prog.underlying 110=some (.array 12 3):=by kernel_rfl
theorem T.u29:Tryz.prog.underlying 29=some (.slice 35):=by kernel_rfl
theorem T.u229:Tryz.prog.underlying 229=some (.slice 179):=by kernel_rfl
theorem T.u226:Tryz.prog.underlying 226=some (.slice 229):=by kernel_rfl
theorem T.t229:aX Tryz.prog 229=some (false,some (.slice none 0 0),1,24):=by kernel_rfl
theorem T.u230:Tryz.prog.underlying 230=some (.slice 23):=by kernel_rfl
theorem T.u169:Tryz.prog.underlying 169=some (.slice 188):=by kernel_rfl
theorem T.t188:aX Tryz.prog 188=some (false,some (.slice none 0 0),1,24):=by kernel_rfl
theorem T.u4:Tryz.prog.underlying 4=some (.bool):=by kernel_rfl
theorem T.e74:pp Tryz.prog 74=some [(0,.int .i64),(1,.int .i64),(2,.int .i64),(3,.int .i64),(4,.int .i64)]:=by kernel_rfl
def mF (a0:List Int):Option (aQ):=
(sel (decide ((a0.length:Int)>2000)) ((cut a0 0 2000).bind λr1 =>
some r1) <|
some a0:Option ((List Int))).bind λy1 =>
some (aQ.mk y1 0)
def az (a0:aQ) (a1:Int):Option (Int×Int):=
sel ((decide (a1<1))||((a0.b.length:Int)==0)) (some (0,w64 (a0.p+1))) <|
sel (decide ((w64 ((w64 (a0.p+1))-1))<(a0.b.length:Int))) ((nth a0.b (w64 ((w64 (a0.p+1))-1))).bind λx1 =>
(q8 (w64 (x1)) a1).bind λd1 =>
some (d1,w64 (a0.p+1))) <|
(q8 (w64 ((w64 (a0.p+1))-1)) (a0.b.length:Int)).bind λd2 =>
(nth a0.b d2).bind λx2 =>
(q8 (w64 ((w64 ((w64 ((w64 (a0.p+1))-1))*7))+3)) (a0.b.length:Int)).bind λd3 =>
(nth a0.b d3).bind λx3 =>
(sS .i64 (w64 ((w64 (a0.p+1))-1)) (a0.b.length:Int)).bind λd4 =>
(q8 (bA .xor .i64 (w64 ((w64 ((w64 ((w64 ((w64 (x2))*131))+(w64 ((w64 (x3))*1117))))+(w64 ((w64 ((w64 (a0.p+1))-1))*29))))+(w64 (d4*53)))) (w64 (Int.tdiv (w64 ((w64 ((w64 ((w64 ((w64 (x2))*131))+(w64 ((w64 (x3))*1117))))+(w64 ((w64 ((w64 (a0.p+1))-1))*29))))+(w64 (d4*53)))) 64))) a1).bind λd5 =>
some (d5,w64 (a0.p+1))
def mh (a0:aQ) (x1:Int) (s1:(List Int)×Int×Int):Option (((List Int)×Int×Int)⊕((List Int)×Int)):=
sel (decide (s1.2.1<x1)) ((az (aQ.mk a0.b s1.2.2) 5).bind λy5 =>
(nth [1,1,2,3,4] y5.1).bind λx2 =>
(app 8 s1.1 [x2]).bind λr1 =>
some (.inl (r1,w64 (s1.2.1+1),y5.2))) <|
some (.inr (s1.1,s1.2.2))
def kj (a0:aQ):Option ((List Int)×Int):=
(az (aQ.mk a0.b a0.p) 6).bind λy1 =>
(nth [0,1,1,2,2,3] y1.1).bind λx1 =>
(aO (mh a0 x1) ([],0,y1.2)).bind λy2 =>
some (y2.1,y2.2)
def cJ (a0:Int) (a1:Int):Option (Expr):=
some (Expr.mk a0 a1 [])
def hZ (a0:aQ):Option (Expr×Int):=
(az (aQ.mk a0.b a0.p) 4).bind λy1 =>
sel (y1.1==0) ((az (aQ.mk a0.b y1.2) 4).bind λy2 =>
(cJ 0 y2.1).bind λy3 =>
some ((Expr.mk y3.Op y3.N y3.Args),y2.2)) <|
sel (y1.1==1) ((az (aQ.mk a0.b y1.2) 8).bind λy4 =>
(nth [5,31,32,100,2047,2048,65536,99999] y4.1).bind λx1 =>
(cJ 0 x1).bind λy5 =>
some ((Expr.mk y5.Op y5.N y5.Args),y4.2)) <|
(az (aQ.mk a0.b y1.2) 4).bind λy6 =>
(cJ 13 y6.1).bind λy7 =>
some ((Expr.mk y7.Op y7.N y7.Args),y6.2)
def lk (a0:Int) (a1:Expr) (a2:Expr):Option (Expr):=
some (Expr.mk a0 0 [(Expr.mk a1.Op a1.N a1.Args),(Expr.mk a2.Op a2.N a2.Args)])
def nm (a0:aQ):Option (Int×Int):=
(az (aQ.mk a0.b a0.p) 12).bind λy1 =>
some (w64 (1+y1.1),y1.2)
def je (k:Nat) (jf:aQ->Int->Option (Expr×Int)) (a0:aQ) (a1:Int):Option (Expr×Int):=
(sel (decide (a1<2)) (some (true,a0.p)) ((az (aQ.mk a0.b a0.p) 3).bind λy1=>some (y1.1==0,y1.2)):Option (Bool×Int)).bind λb1 =>
sel b1.1 ((hZ (aQ.mk a0.b b1.2)).bind λy2 =>
some ((Expr.mk y2.1.Op y2.1.N y2.1.Args),y2.2)) <|
(nm (aQ.mk a0.b b1.2)).bind λy3 =>
(jf (aQ.mk a0.b y3.2) (w64 (a1-1))).bind λy4 =>
(jf (aQ.mk a0.b y4.2) (w64 (a1-1))).bind λy5 =>
(lk y3.1 (Expr.mk y4.1.Op y4.1.N y4.1.Args) (Expr.mk y5.1.Op y5.1.N y5.1.Args)).bind λy6 =>
some ((Expr.mk y6.Op y6.N y6.Args),y5.2)
def n8:Nat->(aQ->Int->Option (Expr×Int))
 | 0=>((λ_ _=>none))
 | k+1=>(je k (n8 k))
def eh (k:Nat):aQ->Int->Option (Expr×Int):=(n8 k)
def lm (k:Nat) (a0:aQ):Option (ah×Int):=
(az (aQ.mk a0.b a0.p) 3).bind λy1 =>
(az (aQ.mk a0.b y1.2) 3).bind λy2 =>
(eh k (aQ.mk a0.b y2.2) (w64 (1+y2.1))).bind λy3 =>
some ((ah.mk 1 y1.1 0 (Expr.mk y3.1.Op y3.1.N y3.1.Args) [] []),y3.2)
def lD (k:Nat) (a0:aQ) (a1:Int):Option (ah×Int):=
sel (decide (a1<1)) ((lm k (aQ.mk a0.b a0.p)).bind λy1 =>
some ((ah.mk y1.1.Kind y1.1.Var y1.1.Box (Expr.mk y1.1.Expr.Op y1.1.Expr.N y1.1.Expr.Args) y1.1.Body y1.1.Else),y1.2)) <|
(az (aQ.mk a0.b a0.p) a1).bind λy2 =>
(az (aQ.mk a0.b y2.2) 2).bind λy3 =>
sel (y3.1==0) ((az (aQ.mk a0.b y3.2) 3).bind λy4 =>
(eh k (aQ.mk a0.b y4.2) (w64 (1+y4.1))).bind λy5 =>
some ((ah.mk 4 0 y2.1 (Expr.mk y5.1.Op y5.1.N y5.1.Args) [] []),y5.2)) <|
(az (aQ.mk a0.b y3.2) 3).bind λy6 =>
some ((ah.mk 5 y6.1 y2.1 (Expr.mk 0 0 []) [] []),y6.2)
def mi (a0:aQ) (a1:Int) (a2:Int) (a3:Int) (a4:Bool) (bf:aQ->Int->Int->Bool->Option ((List ah)×Int)) (s1:(List ah)×Int×Int):Option (((List ah)×Int×Int)⊕((List ah)×Int)):=
sel (decide (s1.2.1<a3)) ((bf (aQ.mk a0.b s1.2.2) a1 a2 a4).bind λy4 =>
(app 112 s1.1 y4.1).bind λr1 =>
some (.inl (r1,w64 (s1.2.1+1),y4.2))) <|
some (.inr (s1.1,s1.2.2))
def iw (k:Nat) (a9:aQ->Int->Int->Int->Bool->Option ((List ah)×Int)) (bf:aQ->Int->Int->Bool->Option ((List ah)×Int)) (bG:aQ->Int->Int->Bool->Option (ah×Int)) (br:aQ->Int->Int->Option ((List ah)×Int)) (a0:aQ) (a1:Int) (a2:Int) (a3:Int) (a4:Bool):Option ((List ah)×Int):=
(aO (mi a0 a1 a2 a3 a4 bf) ([],0,a0.p)).bind λy1 =>
some (y1.1,y1.2)
def jg (k:Nat) (a9:aQ->Int->Int->Int->Bool->Option ((List ah)×Int)) (bf:aQ->Int->Int->Bool->Option ((List ah)×Int)) (bG:aQ->Int->Int->Bool->Option (ah×Int)) (br:aQ->Int->Int->Option ((List ah)×Int)) (a0:aQ) (a1:Int) (a2:Int) (a3:Bool):Option ((List ah)×Int):=
((az (aQ.mk a0.b a0.p) 10).bind λy2 =>
(sel (y2.1==0) (some (y2.1==0)) <|
some (y2.1==1):Option (Bool)).bind λy3 =>
sel y3 ((lm k (aQ.mk a0.b y2.2)).bind λy4 =>
some (.inr ([(ah.mk y4.1.Kind y4.1.Var y4.1.Box (Expr.mk y4.1.Expr.Op y4.1.Expr.N y4.1.Expr.Args) y4.1.Body y4.1.Else)],y4.2))) <|
sel (y2.1==2) (sel (decide (a2>0)) ((bG (aQ.mk a0.b y2.2) a1 a2 a3).bind λy5 =>
some (.inr ([(ah.mk y5.1.Kind y5.1.Var y5.1.Box (Expr.mk y5.1.Expr.Op y5.1.Expr.N y5.1.Expr.Args) y5.1.Body y5.1.Else)],y5.2))) <|
some (.inl y2.2)) <|
sel (y2.1==3) (sel ((decide (a2>0))&&a3) ((br (aQ.mk a0.b y2.2) a1 a2).bind λy6 =>
some (.inr (y6.1,y6.2))) <|
some (.inl y2.2)) <|
(sel (y2.1==4) (some (y2.1==4)) <|
sel (y2.1==5) (some (y2.1==5)) <|
some (y2.1==6):Option (Bool)).bind λy7 =>
sel y7 ((lD k (aQ.mk a0.b y2.2) a1).bind λy8 =>
some (.inr ([(ah.mk y8.1.Kind y8.1.Var y8.1.Box (Expr.mk y8.1.Expr.Op y8.1.Expr.N y8.1.Expr.Args) y8.1.Body y8.1.Else)],y8.2))) <|
sel (y2.1==7) (some (.inr ([(ah.mk 6 0 0 (Expr.mk 0 0 []) [] [])],y2.2))) <|
some (.inl y2.2):Option (Int⊕((List ah)×Int))).bind λy1 =>
kV y1 (λo3=>(az (aQ.mk a0.b o3) 3).bind λy9 =>
(eh k (aQ.mk a0.b y9.2) (w64 (1+y9.1))).bind λy10 =>
some ([(ah.mk 7 0 0 (Expr.mk y10.1.Op y10.1.N y10.1.Args) [] [])],y10.2)) (λo4 =>
some o4)
def lF (k:Nat) (a9:aQ->Int->Int->Int->Bool->Option ((List ah)×Int)) (bf:aQ->Int->Int->Bool->Option ((List ah)×Int)) (bG:aQ->Int->Int->Bool->Option (ah×Int)) (br:aQ->Int->Int->Option ((List ah)×Int)) (a0:aQ) (a1:Int) (a2:Int) (a3:Bool):Option (ah×Int):=
(az (aQ.mk a0.b a0.p) 2).bind λy1 =>
(eh k (aQ.mk a0.b y1.2) (w64 (1+y1.1))).bind λy2 =>
(az (aQ.mk a0.b y2.2) 3).bind λy3 =>
(a9 (aQ.mk a0.b y3.2) a1 (w64 (a2-1)) y3.1 a3).bind λy4 =>
(az (aQ.mk a0.b y4.2) 3).bind λy5 =>
(a9 (aQ.mk a0.b y5.2) a1 (w64 (a2-1)) y5.1 a3).bind λy6 =>
some ((ah.mk 2 0 0 (Expr.mk y2.1.Op y2.1.N y2.1.Args) y4.1 y6.1),y6.2)
def jh (k:Nat) (a9:aQ->Int->Int->Int->Bool->Option ((List ah)×Int)) (bf:aQ->Int->Int->Bool->Option ((List ah)×Int)) (bG:aQ->Int->Int->Bool->Option (ah×Int)) (br:aQ->Int->Int->Option ((List ah)×Int)) (a0:aQ) (a1:Int) (a2:Int):Option ((List ah)×Int):=
(az (aQ.mk a0.b a0.p) 3).bind λy1 =>
(a9 (aQ.mk a0.b y1.2) a1 (w64 (a2-1)) y1.1 false).bind λy2 =>
(cJ 13 3).bind λy3 =>
(cJ 0 1).bind λy4 =>
(lk 8 (Expr.mk y3.Op y3.N y3.Args) (Expr.mk y4.Op y4.N y4.Args)).bind λy5 =>
(cJ 13 3).bind λy6 =>
(az (aQ.mk a0.b y2.2) 3).bind λy7 =>
(cJ 0 (w64 (1+y7.1))).bind λy8 =>
(lk 5 (Expr.mk y6.Op y6.N y6.Args) (Expr.mk y8.Op y8.N y8.Args)).bind λy9 =>
(app 112 y2.1 [(ah.mk 1 3 0 (Expr.mk y5.Op y5.N y5.Args) [] [])]).bind λr1 =>
(cJ 0 0).bind λy10 =>
some ([(ah.mk 1 3 0 (Expr.mk y10.Op y10.N y10.Args) [] []),(ah.mk 3 0 0 (Expr.mk y9.Op y9.N y9.Args) r1 [])],y7.2)
def aL:Nat->(aQ->Int->Int->Int->Bool->Option ((List ah)×Int))×(aQ->Int->Int->Bool->Option ((List ah)×Int))×(aQ->Int->Int->Bool->Option (ah×Int))×(aQ->Int->Int->Option ((List ah)×Int))
 | 0=>((λ_ _ _ _ _=>none),(λ_ _ _ _=>none),(λ_ _ _ _=>none),(λ_ _ _=>none))
 | k+1=>(iw k (aL k).1 (aL k).2.1 (aL k).2.2.1 (aL k).2.2.2,jg k (aL k).1 (aL k).2.1 (aL k).2.2.1 (aL k).2.2.2,lF k (aL k).1 (aL k).2.1 (aL k).2.2.1 (aL k).2.2.2,jh k (aL k).1 (aL k).2.1 (aL k).2.2.1 (aL k).2.2.2)
def cR (k:Nat):aQ->Int->Int->Int->Bool->Option ((List ah)×Int):=(aL k).1
def jH (k:Nat):aQ->Int->Int->Bool->Option ((List ah)×Int):=(aL k).2.1
def np (k:Nat):aQ->Int->Int->Bool->Option (ah×Int):=(aL k).2.2.1
def lG (k:Nat):aQ->Int->Int->Option ((List ah)×Int):=(aL k).2.2.2
def gw (a0:List ah) (dR:List ah->Option (Int)) (s1:Int×Int):Option ((Int×Int)⊕Int):=
sel (decide (s1.2<(a0.length:Int))) ((nth a0 s1.2).bind λx1 =>
(nth a0 s1.2).bind λx2 =>
(dR x1.Body).bind λy4 =>
(dR x2.Else).bind λy5 =>
some (.inl (w64 ((w64 ((w64 (s1.1+1))+y4))+y5),w64 (s1.2+1)))) <|
some (.inr s1.1)
def cA (k:Nat) (dR:List ah->Option (Int)) (a0:List ah):Option (Int):=
(aO (gw a0 dR) (0,0)).bind λy1 =>
some y1
def nN:Nat->(List ah->Option (Int))
 | 0=>((λ_=>none))
 | k+1=>(cA k (nN k))
def ce (k:Nat):List ah->Option (Int):=(nN k)
def mj (k:Nat) (s1:(List ah)):Option (((List ah))⊕((List ah))):=
(ce k s1).bind λy6 =>
sel (decide (y6>16)) ((cut s1 0 (w64 ((s1.length:Int)-1))).bind λr1 =>
some (.inl r1)) <|
some (.inr s1)
def km (k:Nat) (a0:aQ) (a1:Int):Option ((List ah)×Int):=
(az (aQ.mk a0.b a0.p) 6).bind λy1 =>
(cR k (aQ.mk a0.b y1.2) a1 3 (w64 (1+y1.1)) true).bind λy2 =>
(aO (mj k) y2.1).bind λy3 =>
some (y3,y2.2)
def iy (k:Nat) (a0:aQ):Option (ah×Int):=
(cJ 0 1).bind λy1 =>
(az (aQ.mk a0.b a0.p) 2).bind λy2 =>
(cR k (aQ.mk a0.b y2.2) 0 1 y2.1 false).bind λy3 =>
some ((ah.mk 3 0 0 (Expr.mk y1.Op y1.N y1.Args) y3.1 []),y3.2)
def kX (a0:aQ) (k:Nat) (y1:(List Int)×Int) (y2:Int×Int) (s1:Int×Int×(List (List ah))):Option ((Int×Int×(List (List ah)))⊕(Int×(List (List ah)))):=
sel (decide (s1.1<(w64 (1+y2.1)))) ((km k (aQ.mk a0.b s1.2.1) (y1.1.length:Int)).bind λy6 =>
(app 24 s1.2.2 [y6.1]).bind λr1 =>
some (.inl (w64 (s1.1+1),y6.2,r1))) <|
some (.inr (s1.2.1,s1.2.2))
def iz (k:Nat) (a0:aQ):Option (aA×Int):=
(kj (aQ.mk a0.b a0.p)).bind λy1 =>
(az (aQ.mk a0.b y1.2) 3).bind λy2 =>
(aO (kX a0 k y1 y2) (0,y2.2,[])).bind λy3 =>
(az (aQ.mk a0.b y3.1) 16).bind λy7 =>
sel (y7.1==0) ((iy k (aQ.mk a0.b y7.2)).bind λy8 =>
(nth y3.2 0).bind λx1 =>
some ((aA.mk y1.1 (y3.2.set (Int.toNat 0) [(ah.mk y8.1.Kind y8.1.Var y8.1.Box (Expr.mk y8.1.Expr.Op y8.1.Expr.N y8.1.Expr.Args) y8.1.Body y8.1.Else)])),y8.2)) <|
some ((aA.mk y1.1 y3.2),y7.2)
def lH (y1:aA×Int) (y2:Int×Int):Option (aA×Int):=
(nth y1.1.Tasks 0).bind λx3 =>
(app 112 x3 [(ah.mk 0 0 0 (Expr.mk 0 0 []) [] [])]).bind λr4 =>
(nth r4 (x3.length:Int)).bind λx4 =>
some ((aA.mk y1.1.Rooms (y1.1.Tasks.set (Int.toNat 0) (r4.set (Int.toNat (x3.length:Int)) (ah.mk 9 0 0 (Expr.mk 0 0 []) [] [])))),y2.2)
def fI (y1:aA×Int) (y2:Int×Int):Option (aA×Int):=
(nth y1.1.Tasks 0).bind λx5 =>
(app 112 x5 [(ah.mk 9 0 0 (Expr.mk 0 0 []) [] [])]).bind λr6 =>
some ((aA.mk y1.1.Rooms (y1.1.Tasks.set (Int.toNat 0) r6)),y2.2)
theorem re {y1:aA×Int} {y2:Int×Int} {r:aA×Int} (h:fI y1 y2=some r):lH y1 y2=some r:=by
 unfold fI at h
 unfold lH
 obtain ⟨x,h1,h⟩:=bnd h
 obtain ⟨q,h2,h⟩:=bnd h
 obtain ⟨rfl,_⟩:=pm h2
 have h3:app 112 x [(ah.mk 0 0 0 (Expr.mk 0 0 []) [] [])]=some (x++[(ah.mk 0 0 0 (Expr.mk 0 0 []) [] [])]):=by
  unfold app at h2 ⊢
  simp only [List.length_singleton] at h2 ⊢
  have hr:yR 112 (x.length+1)=true:=by
   cases hr:yR 112 (x.length+1)
   ·rw [hr] at h2
    cases h2
   ·rfl
  rw [hr]
 have h4:nth (x++[(ah.mk 0 0 0 (Expr.mk 0 0 []) [] [])]) (x.length:Int)=some (ah.mk 0 0 0 (Expr.mk 0 0 []) [] []):=by
  unfold nth
  rw [if_neg (by omega),Int.toNat_natCast,List.getElem?_append_right (Nat.le_refl _),Nat.sub_self]
  rfl
 have h5:∀ s:ah,(x++[(ah.mk 0 0 0 (Expr.mk 0 0 []) [] [])]).set (Int.toNat (x.length:Int)) s=x++[s]:=λs=>by
  rw [Int.toNat_natCast,List.set_append_right _ _ (Nat.le_refl _),Nat.sub_self]
  rfl
 rw [h1,ob9,h3,ob9,h4,ob9,h5]
 exact h
def ko (k:Nat) (a0:aQ):Option (aA×Int):=
(iz k (aQ.mk a0.b a0.p)).bind λy1 =>
(az (aQ.mk a0.b y1.2) 30).bind λy2 =>
sel (y2.1==0) ((az (aQ.mk a0.b y2.2) 2).bind λy3 =>
(nth [0,5] y3.1).bind λx1 =>
(app 8 y1.1.Rooms [x1]).bind λr1 =>
some ((aA.mk r1 y1.1.Tasks),y3.2)) <|
sel (y2.1==1) ((hZ (aQ.mk a0.b y2.2)).bind λy4 =>
(app 24 y1.1.Tasks [[(ah.mk 4 0 (y1.1.Rooms.length:Int) (Expr.mk y4.1.Op y4.1.N y4.1.Args) [] [])]]).bind λr2 =>
some ((aA.mk y1.1.Rooms r2),y4.2)) <|
sel (y2.1==2) (some ((aA.mk y1.1.Rooms []),y2.2)) <|
sel (y2.1==3) ((nth y1.1.Tasks 0).bind λx2 =>
(app 24 y1.1.Tasks (List.replicate 3 x2)).bind λr3 =>
some ((aA.mk y1.1.Rooms r3),y2.2)) <|
sel (y2.1==4) (fI y1 y2) <|
some ((aA.mk y1.1.Rooms y1.1.Tasks),y2.2)
def dZ (k:Nat) (a0:List Int):Option (aA×Int×Int):=
(mF a0).bind λy1 =>
(ko k (aQ.mk y1.b y1.p)).bind λy2 =>
(az (aQ.mk y1.b y2.2) 3).bind λy3 =>
(az (aQ.mk y1.b y3.2) 30).bind λy4 =>
sel (y4.1==0) (some ((aA.mk y2.1.Rooms y2.1.Tasks),y3.1,0)) <|
(az (aQ.mk y1.b y4.2) 8).bind λy5 =>
some ((aA.mk y2.1.Rooms y2.1.Tasks),y3.1,w64 (1+y5.1))
def ia (a0:List Int) (s1:Int):Option (Int⊕(Bool⊕Unit)):=
sel (decide (s1<(a0.length:Int))) ((nth a0 s1).bind λx1 =>
sel ((decide (x1<1))||(decide (x1>4))) (some (.inr (.inl false))) <|
some (.inl (w64 (s1+1)))) <|
some (.inr (.inr ()))
def iA (a0:List Int):Option (Bool):=
(aO (ia a0) 0).bind λy1 =>
kV y1 (λo3=>some o3) (λo4 =>
some (decide ((a0.length:Int)<=3)))
def jI (a0:Int):Option (Bool):=
some ((decide (a0>=1))&&(decide (a0<=12)))
def gx (k:Nat) (gy:Expr->Int->Option (Bool)) (a0:Expr) (a1:Int):Option (Bool):=
sel (a0.Op==0) (some ((((decide (a0.N>=0))&&(decide (a0.N<=99999)))&&((a0.Args.length:Int)==0))&&(decide (a1>0)))) <|
sel (a0.Op==13) (some ((((decide (a0.N>=0))&&(decide (a0.N<4)))&&((a0.Args.length:Int)==0))&&(decide (a1>0)))) <|
(jI a0.Op).bind λy1 =>
(sel (((y1&&(a0.N==0))&&((a0.Args.length:Int)==2))&&(decide (a1>1))) ((nth a0.Args 0).bind λx1=>(gy (Expr.mk x1.Op x1.N x1.Args) (w64 (a1-1))).bind λy2=>some y2) (some false):Option (Bool)).bind λb1 =>
(sel b1 ((nth a0.Args 1).bind λx2=>(gy (Expr.mk x2.Op x2.N x2.Args) (w64 (a1-1))).bind λy3=>some y3) (some false):Option (Bool)).bind λb2 =>
some b2
def nq:Nat->(Expr->Int->Option (Bool))
 | 0=>((λ_ _=>none))
 | k+1=>(gx k (nq k))
def ji (k:Nat):Expr->Int->Option (Bool):=(nq k)
def gz (k:Nat) (a0:Expr):Option (Bool):=
(ji k (Expr.mk a0.Op a0.N a0.Args) 5).bind λy1 =>
some y1
def di (a0:Int) (a1:Int) (a2:Bool):Option (Bool):=
some ((a0==0)||((a2&&(decide (a0>0)))&&(decide (a0<a1))))
def jj (k:Nat) (a0:ah) (a1:Int):Option (Bool):=
(sel (a0.Kind==1) (some (.inl (qq.mk true false true false false))) <|
sel (a0.Kind==2) (some (.inl (qq.mk false false true true true))) <|
sel (a0.Kind==3) (some (.inl (qq.mk false false true true false))) <|
sel (a0.Kind==4) (some (.inl (qq.mk false true true false false))) <|
sel (a0.Kind==5) (some (.inl (qq.mk true true false false false))) <|
sel (a0.Kind==7) (some (.inl (qq.mk false false true false false))) <|
sel (a0.Kind==6) (some (.inl (qq.mk false false false false false))) <|
some (.inr false):Option (qq⊕Bool)).bind λy1 =>
kV y1 (λo3=>(di a0.Var 4 o3.variable_).bind λy2 =>
(sel (!y2) (some true) ((di a0.Box a1 o3.box).bind λb_1=>some (!b_1))).bind λb1 =>
sel (b1||(o3.box&&(decide (a0.Box>=a1)))) (some false) <|
(sel o3.expr ((gz k (Expr.mk a0.Expr.Op a0.Expr.N a0.Expr.Args)).bind λy4=>some (!y4)) (some false):Option (Bool)).bind λb2 =>
sel (b2||((!o3.expr)&&(((a0.Expr.Op !=0)||(a0.Expr.N !=0))||(decide ((a0.Expr.Args.length:Int)>0))))) (some false) <|
some ((o3.body||((a0.Body.length:Int)==0))&&(o3.other||((a0.Else.length:Int)==0)))) (λo4 =>
some o4)
def ib (a0:List ah) (a1:Int) (a2:Int) (cW:List ah->Int->Int->Int->Option (Bool×Int)) (k:Nat) (s1:Int×Int):Option ((Int×Int)⊕((Bool×Int)⊕Int)):=
sel (decide (s1.1<(a0.length:Int))) (((nth a0 s1.1).bind λx1 =>
(jj k (ah.mk x1.Kind x1.Var x1.Box (Expr.mk x1.Expr.Op x1.Expr.N x1.Expr.Args) x1.Body x1.Else) a1).bind λy5 =>
sel ((!y5)||(decide (a2>3))) (some (.inr (false,s1.2))) <|
sel ((x1.Kind !=2)&&(x1.Kind !=3)) (some (.inl s1.2)) <|
(sel (decide (a2>=3)) (some (true,s1.2)) ((cW x1.Body a1 (w64 (a2+1)) s1.2).bind λy6=>some (!y6.1,y6.2)):Option (Bool×Int)).bind λb1 =>
(sel b1.1 (some (true,b1.2)) ((cW x1.Else a1 (w64 (a2+1)) b1.2).bind λy7=>some (!y7.1,y7.2)):Option (Bool×Int)).bind λb2 =>
sel b2.1 (some (.inr (false,b2.2))) <|
some (.inl b2.2):Option (Int⊕(Bool×Int))).bind λy4 =>
kV y4 (λo5=>some (.inl (w64 (s1.1+1),o5))) (λo6 =>
some (.inr (.inl o6)))) <|
some (.inr (.inr s1.2))
def fJ (k:Nat) (cW:List ah->Int->Int->Int->Option (Bool×Int)) (a0:List ah) (a1:Int) (a2:Int) (a3:Int):Option (Bool×Int):=
sel (decide ((w64 (a3+(a0.length:Int)))>16)) (some (false,w64 (a3+(a0.length:Int)))) <|
(aO (ib a0 a1 a2 cW k) (0,w64 (a3+(a0.length:Int)))).bind λy1 =>
kV y1 (λo7=>some o7) (λo8 =>
some (true,o8))
def m4:Nat->(List ah->Int->Int->Int->Option (Bool×Int))
 | 0=>((λ_ _ _ _=>none))
 | k+1=>(fJ k (m4 k))
def fw (k:Nat):List ah->Int->Int->Int->Option (Bool×Int):=(m4 k)
def iB (k:Nat) (a0:List ah) (a1:Int):Option (Bool):=
(fw k a0 a1 0 0).bind λy1 =>
some y1.1
def fK (a0:aA) (k:Nat) (s1:Int):Option (Int⊕(Bool⊕Unit)):=
sel (decide (s1<(a0.Tasks.length:Int))) ((nth a0.Tasks s1).bind λx1 =>
(iB k x1 (a0.Rooms.length:Int)).bind λy5 =>
sel (!y5) (some (.inr (.inl false))) <|
some (.inl (w64 (s1+1)))) <|
some (.inr (.inr ()))
def fL (k:Nat) (a0:aA):Option (Bool):=
(iA a0.Rooms).bind λy1 =>
sel (((!y1)||(decide ((a0.Tasks.length:Int)<1)))||(decide ((a0.Tasks.length:Int)>3))) (some false) <|
(aO (fK a0 k) 0).bind λy2 =>
kV y2 (λo3=>some o3) (λo4 =>
some true)
def eY (k:Nat) (eZ:Expr->Int->List ab->Option ((List ab))) (a0:Expr) (a1:Int) (a2:List ab):Option ((List ab)):=
sel (a0.Op==0) ((app 40 a2 [(ab.mk 1 a1 0 0 a0.N)]).bind λr1 =>
some r1) <|
sel (a0.Op==13) ((app 40 a2 [(ab.mk 2 a1 a0.N 0 0)]).bind λr2 =>
some r2) <|
(nth a0.Args 0).bind λx1 =>
(eZ (Expr.mk x1.Op x1.N x1.Args) a1 a2).bind λy1 =>
(nth a0.Args 1).bind λx2 =>
(eZ (Expr.mk x2.Op x2.N x2.Args) (w64 (a1+1)) y1).bind λy2 =>
(app 40 y2 [(ab.mk 3 a1 a1 (w64 (a1+1)) a0.Op)]).bind λr3 =>
some r3
def mG:Nat->(Expr->Int->List ab->Option ((List ab)))
 | 0=>((λ_ _ _=>none))
 | k+1=>(eY k (mG k))
def eR (k:Nat):Expr->Int->List ab->Option ((List ab)):=(mG k)
def jk (a0:List ah) (bB:ah->List ab->Option ((List ab))) (s1:(List ab)×Int):Option (((List ab)×Int)⊕((List ab))):=
sel (decide (s1.2<(a0.length:Int))) ((nth a0 s1.2).bind λx1 =>
(bB (ah.mk x1.Kind x1.Var x1.Box (Expr.mk x1.Expr.Op x1.Expr.N x1.Expr.Args) x1.Body x1.Else) s1.1).bind λy4 =>
some (.inl (y4,w64 (s1.2+1)))) <|
some (.inr s1.1)
def d6 (k:Nat) (bH:List ah->List ab->Option ((List ab))) (bB:ah->List ab->Option ((List ab))) (a0:List ah) (a1:List ab):Option ((List ab)):=
(aO (jk a0 bB) (a1,0)).bind λy1 =>
some y1
def cI (k:Nat) (bH:List ah->List ab->Option ((List ab))) (bB:ah->List ab->Option ((List ab))) (a0:ah) (a1:List ab):Option ((List ab)):=
(sel ((a0.Kind !=5)&&(a0.Kind !=6)) ((eR k (Expr.mk a0.Expr.Op a0.Expr.N a0.Expr.Args) 4 a1).bind λy2 =>
some y2) <|
some a1:Option ((List ab))).bind λy1 =>
sel (a0.Kind==1) ((app 40 y1 [(ab.mk 2 a0.Var 4 0 0)]).bind λr1 =>
some r1) <|
sel (a0.Kind==4) ((app 40 y1 [(ab.mk 6 0 4 0 a0.Box)]).bind λr2 =>
some r2) <|
sel (a0.Kind==5) ((app 40 y1 [(ab.mk 7 a0.Var 0 0 a0.Box)]).bind λr3 =>
some r3) <|
sel (a0.Kind==6) ((app 40 y1 [(ab.mk 8 0 0 0 0)]).bind λr4 =>
some r4) <|
sel (a0.Kind==7) ((app 40 y1 [(ab.mk 9 0 4 0 0)]).bind λr5 =>
some r5) <|
(app 40 y1 [(ab.mk 5 0 4 0 0)]).bind λr6 =>
(bH a0.Body r6).bind λy3 =>
(sel (a0.Kind==3) ((app 40 y3 [(ab.mk 4 0 0 0 (a1.length:Int))]).bind λr7 =>
some r7) <|
some y3:Option ((List ab))).bind λy4 =>
(sel (decide ((a0.Else.length:Int)>0)) ((app 40 y4 [(ab.mk 4 0 0 0 0)]).bind λr8 =>
some r8) <|
some y4:Option ((List ab))).bind λy5 =>
(nth y5 (y1.length:Int)).bind λx1 =>
(upd y5 (y1.length:Int) (ab.mk x1.Op x1.Dst x1.A x1.B (y5.length:Int))).bind λr9 =>
sel (decide ((a0.Else.length:Int)>0)) ((bH a0.Else r9).bind λy6 =>
(nth y6 (y4.length:Int)).bind λx2 =>
(upd y6 (y4.length:Int) (ab.mk x2.Op x2.Dst x2.A x2.B (y6.length:Int))).bind λr10 =>
some r10) <|
some r9
def cq:Nat->(List ah->List ab->Option ((List ab)))×(ah->List ab->Option ((List ab)))
 | 0=>((λ_ _=>none),(λ_ _=>none))
 | k+1=>(d6 k (cq k).1 (cq k).2,cI k (cq k).1 (cq k).2)
def cn (k:Nat):List ah->List ab->Option ((List ab)):=(cq k).1
def eS (k:Nat):ah->List ab->Option ((List ab)):=(cq k).2
def gA (k:Nat) (a0:List ah):Option ((List ab)):=
(cn k a0 []).bind λy1 =>
(app 40 y1 [(ab.mk 10 0 0 0 0)]).bind λr1 =>
some r1
def eo (a0:aA) (k:Nat) (s1:(List (List ab))×Int):Option (((List (List ab))×Int)⊕((List (List ab)))):=
sel (decide (s1.2<(a0.Tasks.length:Int))) ((nth a0.Tasks s1.2).bind λx1 =>
(gA k x1).bind λy5 =>
(app 24 s1.1 [y5]).bind λr1 =>
some (.inl (r1,w64 (s1.2+1)))) <|
some (.inr s1.1)
def c7 (k:Nat) (a0:aA):Option ((List (List ab))×Bool):=
(fL k (aA.mk a0.Rooms a0.Tasks)).bind λy1 =>
sel (!y1) (some ([],false)) <|
(aO (eo a0 k) ([],0)).bind λy2 =>
some (y2,true)
def kY (a0:Int):Option (Bool):=
some ((decide (a0>=0))&&(decide (a0<12)))
def gB (a0:Int):Option (Bool):=
some ((decide (a0>=(-2147483648)))&&(decide (a0<=2147483647)))
def jl (a0:ab) (a1:Int):Option (Bool):=
(kY a0.Dst).bind λy1 =>
(kY a0.A).bind λy2 =>
(kY a0.B).bind λy3 =>
sel (a0.Op==1) ((sel (((a0.Op==1)&&((a0.Dst==a0.Dst)&&((a0.A==0)&&((a0.B==0)&&((a0.N==a0.N)&&true)))))&&y1) ((gB a0.N).bind λy4=>some y4) (some false):Option (Bool)).bind λb1 =>
some b1) <|
sel (a0.Op==2) (some ((((a0.Op==2)&&((a0.Dst==a0.Dst)&&((a0.A==a0.A)&&((a0.B==0)&&((a0.N==0)&&true)))))&&y1)&&y2)) <|
sel (a0.Op==3) ((sel ((y1&&y2)&&y3) ((jI a0.N).bind λy5=>some y5) (some false):Option (Bool)).bind λb2 =>
some b2) <|
sel (a0.Op==4) (some ((((a0.Op==4)&&((a0.Dst==0)&&((a0.A==0)&&((a0.B==0)&&((a0.N==a0.N)&&true)))))&&(decide (a0.N>=0)))&&(decide (a0.N<a1)))) <|
sel (a0.Op==5) (some (((((a0.Op==5)&&((a0.Dst==0)&&((a0.A==a0.A)&&((a0.B==0)&&((a0.N==a0.N)&&true)))))&&y2)&&(decide (a0.N>=0)))&&(decide (a0.N<a1)))) <|
sel (a0.Op==6) (some (((((a0.Op==6)&&((a0.Dst==0)&&((a0.A==a0.A)&&((a0.B==0)&&((a0.N==a0.N)&&true)))))&&y2)&&(decide (a0.N>=0)))&&(decide (a0.N<3)))) <|
sel (a0.Op==7) (some (((((a0.Op==7)&&((a0.Dst==a0.Dst)&&((a0.A==0)&&((a0.B==0)&&((a0.N==a0.N)&&true)))))&&y1)&&(decide (a0.N>=0)))&&(decide (a0.N<3)))) <|
sel (a0.Op==9) (some (((a0.Op==9)&&((a0.Dst==0)&&((a0.A==a0.A)&&((a0.B==0)&&((a0.N==0)&&true)))))&&y2)) <|
(sel (a0.Op==8) (some (a0.Op==8)) <|
some (a0.Op==10):Option (Bool)).bind λy6 =>
sel y6 (some ((a0.Op==a0.Op)&&((a0.Dst==0)&&((a0.A==0)&&((a0.B==0)&&((a0.N==0)&&true)))))) <|
some false
def lI (a0:List ab) (s1:Int):Option (Int⊕(Bool⊕Unit)):=
sel (decide (s1<(a0.length:Int))) ((nth a0 s1).bind λx1 =>
(jl x1 (a0.length:Int)).bind λy4 =>
sel (!y4) (some (.inr (.inl false))) <|
some (.inl (w64 (s1+1)))) <|
some (.inr (.inr ()))
def bn (a0:List ab):Option (Bool):=
sel ((decide ((a0.length:Int)<1))||(decide ((a0.length:Int)>600))) (some false) <|
(aO (lI a0) 0).bind λy1 =>
kV y1 (λo3=>some o3) (λo4 =>
(nth a0 (w64 ((a0.length:Int)-1))).bind λx2 =>
some ((x2.Op==10)||(x2.Op==4)))
def aB (a0:List ab):Option ((List ab)):=
(app 40 [] a0).bind λr1 =>
some r1
def eJ (a0:ab):Option (Int):=
(sel (a0.Op==1) (some (a0.Op==1)) <|
sel (a0.Op==2) (some (a0.Op==2)) <|
sel (a0.Op==3) (some (a0.Op==3)) <|
some (a0.Op==7):Option (Bool)).bind λy1 =>
sel y1 (some a0.Dst) <|
some (-1)
def eT (a0:Int):Option (Int):=
some (w64 (mY .i32 (a0)))
def ml (a0:Bool):Option (Int):=
sel a0 (some 1) <|
some 0
def jm (a0:Int) (a1:Int) (a2:Int):Option (Int):=
sel (a0==1) (some (bA .or .i64 a1 a2)) <|
sel (a0==2) (some (bA .xor .i64 a1 a2)) <|
sel (a0==3) (some (bA .and .i64 a1 a2)) <|
sel (a0==4) ((ml (a1==a2)).bind λy1 =>
some y1) <|
sel (a0==5) ((ml (decide (a1<a2))).bind λy2 =>
some y2) <|
sel (a0==6) ((shO .shl .i64 a1 (bA .and .i64 a2 31)).bind λd1 =>
(eT d1).bind λy3 =>
some y3) <|
sel (a0==7) ((shO .shr .i64 a1 (bA .and .i64 a2 31)).bind λd2 =>
some d2) <|
sel (a0==8) ((eT (w64 (a1+a2))).bind λy4 =>
some y4) <|
sel (a0==9) ((eT (w64 (a1-a2))).bind λy5 =>
some y5) <|
sel (a0==10) ((eT (w64 (a1*a2))).bind λy6 =>
some y6) <|
sel (a0==11) (sel (a2==0) (some (-1)) <|
(sS .i64 a1 a2).bind λd3 =>
(eT d3).bind λy7 =>
some y7) <|
sel (a2==0) (some a1) <|
(q8 a1 a2).bind λd4 =>
some d4
def fM (a0:Ar aj) (a1:ab):Option ((Ar aj)):=
(eJ a1).bind λy1 =>
sel (decide (y1<0)) (some a0) <|
(sel (a1.Op==1) (some (aj.mk 1 a1.N)) <|
sel (a1.Op==2) ((cQ 12 a0 a1.A).bind λx1 =>
some x1) <|
sel (a1.Op==3) ((cQ 12 a0 a1.A).bind λx2 =>
(sel (x2.Kind==1) ((cQ 12 a0 a1.B).bind λx3=>some (x3.Kind==1)) (some false):Option (Bool)).bind λb1 =>
sel b1 ((cQ 12 a0 a1.A).bind λx4 =>
(cQ 12 a0 a1.B).bind λx5 =>
(jm a1.N x4.N x5.N).bind λy3 =>
some (aj.mk 1 y3)) <|
some (aj.mk 2 0)) <|
some (aj.mk 2 0):Option (aj)).bind λy2 =>
(cQ 12 a0 y1).bind λx6 =>
some (mE a0 y1 y2)
def gZ (a0:ab) (a1:Int):Option ((List Int)):=
sel (a0.Op==10) (some []) <|
sel (a0.Op==4) (some [a0.N]) <|
sel ((a0.Op==5)&&(decide (a0.N<(w64 (a1+1))))) (some [a0.N,w64 (a1+1)]) <|
sel ((a0.Op==5)&&(decide (a0.N>(w64 (a1+1))))) (some [w64 (a1+1),a0.N]) <|
some [w64 (a1+1)]
def lJ (a0:ab) (a1:Int) (a2:Ar aj):Option ((List Int)):=
(sel (a0.Op==5) ((cQ 12 a2 a0.A).bind λx1=>some (x1.Kind==1)) (some false):Option (Bool)).bind λb1 =>
sel b1 ((cQ 12 a2 a0.A).bind λx2 =>
sel (x2.N==0) (some [a0.N]) <|
some [w64 (a1+1)]) <|
(gZ a0 a1).bind λy1 =>
some y1
def jn (a0:aj) (a1:aj):Option (aj):=
sel ((a0.Kind==0)||((a0.Kind==a1.Kind)&&((a0.N==a1.N)&&true))) (some a1) <|
sel (a1.Kind==0) (some a0) <|
some (aj.mk 2 0)
def j9 (s1:Int×(List (Ar aj))):Option ((Int×(List (Ar aj)))⊕((List (Ar aj)))):=
sel (decide (s1.1<12)) ((nth s1.2 0).bind λx1 =>
(cQ 12 x1 s1.1).bind λx2 =>
(upd s1.2 0 (mE x1 s1.1 (aj.mk 1 0))).bind λr2 =>
some (.inl (w64 (s1.1+1),r2))) <|
some (.inr s1.2)
def fN (y7:(Ar aj)) (s4:Int×(Ar aj)):Option ((Int×(Ar aj))⊕((Ar aj))):=
sel (decide (s4.1<12)) ((cQ 12 s4.2 s4.1).bind λx10 =>
(cQ 12 y7 s4.1).bind λx11 =>
(jn x10 x11).bind λy16 =>
(cQ 12 s4.2 s4.1).bind λx12 =>
some (.inl (w64 (s4.1+1),(mE s4.2 s4.1 y16)))) <|
some (.inr s4.2)
def fO (y7:(Ar aj)) (y8:(List Int)) (s3:(List Int)×Int×(List (Ar aj))):Option (((List Int)×Int×(List (Ar aj)))⊕((List Int)×(List (Ar aj)))):=
sel (decide (s3.2.1<(y8.length:Int))) (((nth y8 s3.2.1).bind λx8 =>
(nth s3.2.2 x8).bind λx9 =>
(aO (fN y7) (0,x9)).bind λy13 =>
(nth s3.2.2 x8).bind λx13 =>
sel (!(aeq 12 (λx y:aj=>(x.Kind==y.Kind&&(x.N==y.N&&true))) y13 x13)) ((nth s3.2.2 x8).bind λx14 =>
(upd s3.2.2 x8 y13).bind λr4 =>
(app 8 s3.1 [x8]).bind λr5 =>
some (r5,r4)) <|
some (s3.1,s3.2.2):Option ((List Int)×(List (Ar aj)))).bind λy12 =>
some (.inl (y12.1,w64 (s3.2.1+1),y12.2))) <|
some (.inr (s3.1,s3.2.2))
def jo (a0:List ab) (s2:(List Int)×(List (Ar aj))):Option (((List Int)×(List (Ar aj)))⊕((List (Ar aj)))):=
sel (decide ((s2.1.length:Int)>0)) ((nth s2.1 (w64 ((s2.1.length:Int)-1))).bind λx3 =>
(cut s2.1 0 (w64 ((s2.1.length:Int)-1))).bind λr3 =>
(nth s2.2 x3).bind λx4 =>
(nth a0 x3).bind λx5 =>
(fM x4 x5).bind λy7 =>
(nth a0 x3).bind λx6 =>
(nth s2.2 x3).bind λx7 =>
(lJ x6 x3 x7).bind λy8 =>
(aO (fO y7 y8) (r3,0,s2.2)).bind λy9 =>
some (.inl (y9.1,y9.2))) <|
some (.inr s2.2)
def eU (a0:List ab):Option ((List (Ar aj))):=
(mk 192 (a0.length:Int) (λ_=>(aj.mk 0 0))).bind λr1 =>
(aO (j9) (0,r1)).bind λy1 =>
(aO (jo a0) ([0],y1)).bind λy4 =>
some y4
def cf (a0:aj) (a1:Int):Option (Bool):=
some ((a0.Kind==1)&&(a0.N==a1))
def cX (a0:Int) (a1:ab):Option (ab):=
some (ab.mk 2 a1.Dst a0 0 0)
def lK (a0:ab) (a1:aj) (a2:aj):Option (ab):=
sel ((a1.Kind==1)&&(a2.Kind==1)) ((jm a0.N a1.N a2.N).bind λy1 =>
some (ab.mk 1 a0.Dst 0 0 y1)) <|
((sel (a0.N==1) (some (a0.N==1)) <|
sel (a0.N==2) (some (a0.N==2)) <|
some (a0.N==8):Option (Bool)).bind λy3 =>
sel y3 ((cf a2 0).bind λy4 =>
sel y4 ((cX a0.A a0).bind λy5 =>
some (.inr y5)) <|
(cf a1 0).bind λy6 =>
sel y6 ((cX a0.B a0).bind λy7 =>
some (.inr y7)) <|
some (.inl ())) <|
(sel (a0.N==6) (some (a0.N==6)) <|
sel (a0.N==7) (some (a0.N==7)) <|
some (a0.N==9):Option (Bool)).bind λy8 =>
sel y8 ((cf a2 0).bind λy9 =>
sel y9 ((cX a0.A a0).bind λy10 =>
some (.inr y10)) <|
some (.inl ())) <|
sel (a0.N==10) ((cf a2 1).bind λy11 =>
sel y11 ((cX a0.A a0).bind λy12 =>
some (.inr y12)) <|
(cf a1 1).bind λy13 =>
sel y13 ((cX a0.B a0).bind λy14 =>
some (.inr y14)) <|
some (.inl ())) <|
sel (a0.N==11) ((cf a2 1).bind λy15 =>
sel y15 ((cX a0.A a0).bind λy16 =>
some (.inr y16)) <|
some (.inl ())) <|
some (.inl ()):Option (Unit⊕ab)).bind λy2 =>
kV y2 (λo3=>(sel ((a0.N==3)||(a0.N==10)) ((cf a1 0).bind λy17=>(sel y17 (some true) ((cf a2 0).bind λy18=>some y18):Option (Bool)).bind λb2=>some b2) (some false):Option (Bool)).bind λb1 =>
sel b1 (some (ab.mk 1 a0.Dst 0 0 0)) <|
some a0) (λo4 =>
some o4)
def kq (a0:ab) (a1:Int) (a2:Ar aj):Option (ab):=
(sel (a0.Op==2) ((cQ 12 a2 a0.A).bind λx1=>some (x1.Kind==1)) (some false):Option (Bool)).bind λb1 =>
sel b1 ((cQ 12 a2 a0.A).bind λx2 =>
some (ab.mk 1 a0.Dst 0 0 x2.N)) <|
sel (a0.Op==3) ((cQ 12 a2 a0.A).bind λx3 =>
(cQ 12 a2 a0.B).bind λx4 =>
(lK a0 x3 x4).bind λy1 =>
some y1) <|
(sel (a0.Op==5) ((cQ 12 a2 a0.A).bind λx5=>(cf x5 0).bind λy2=>some y2) (some false):Option (Bool)).bind λb2 =>
sel b2 (some (ab.mk 4 0 0 0 a0.N)) <|
(sel (a0.Op==5) ((cQ 12 a2 a0.A).bind λx6=>some (x6.Kind==1)) (some false):Option (Bool)).bind λb3 =>
sel b3 (some (ab.mk 4 0 0 0 (w64 (a1+1)))) <|
some a0
def gC (a0:List ab) (y3:(List (Ar aj))) (s1:Int×(List ab)):Option ((Int×(List ab))⊕((List ab))):=
sel (decide (s1.1<(y3.length:Int))) (((nth y3 s1.1).bind λx1 =>
(cQ 12 x1 0).bind λx2 =>
sel (x2.Kind !=0) ((nth a0 s1.1).bind λx3 =>
(kq x3 s1.1 x1).bind λy8 =>
(nth s1.2 s1.1).bind λx4 =>
(upd s1.2 s1.1 y8).bind λr1 =>
some r1) <|
some s1.2:Option ((List ab))).bind λy7 =>
some (.inl (w64 (s1.1+1),y7))) <|
some (.inr s1.2)
def kr (a0:List ab):Option ((List ab)×Bool):=
(bn a0).bind λy1 =>
sel (!y1) (some ([],false)) <|
(aB a0).bind λy2 =>
(eU a0).bind λy3 =>
(aO (gC a0 y3) (0,y2)).bind λy4 =>
some (y4,true)
def mm (s1:Int×(Ar Int)):Option ((Int×(Ar Int))⊕((Ar Int))):=
sel (decide (s1.1<12)) ((cQ 12 s1.2 s1.1).bind λx1 =>
some (.inl (w64 (s1.1+1),(mE s1.2 s1.1 s1.1)))) <|
some (.inr s1.2)
def kt:Option ((Ar Int)):=
(aO (mm) (0,(λ_=>0))).bind λy1 =>
some y1
def iR (y1:Int) (s1:Int×(Ar Int)):Option ((Int×(Ar Int))⊕((Ar Int))):=
sel (decide (s1.1<12)) (((sel (s1.1==y1) (some true) ((cQ 12 s1.2 s1.1).bind λx1=>some (x1==y1)):Option (Bool)).bind λb1 =>
sel b1 ((cQ 12 s1.2 s1.1).bind λx2 =>
some (mE s1.2 s1.1 s1.1)) <|
some s1.2:Option ((Ar Int))).bind λy5 =>
some (.inl (w64 (s1.1+1),y5))) <|
some (.inr s1.2)
def fb (a0:Ar Int) (a1:ab):Option ((Ar Int)):=
(eJ a1).bind λy1 =>
sel (decide (y1<0)) (some a0) <|
(aO (iR y1) (0,a0)).bind λy2 =>
sel (a1.Op==2) ((cQ 12 y2 y1).bind λx3 =>
some (mE y2 y1 a1.A)) <|
some y2
def kc (a1:Ar Int) (s1:Int×(Ar Int)):Option ((Int×(Ar Int))⊕((Ar Int))):=
sel (decide (s1.1<12)) (((cQ 12 s1.2 s1.1).bind λx1 =>
(cQ 12 a1 s1.1).bind λx2 =>
sel (x1 !=x2) ((cQ 12 s1.2 s1.1).bind λx3 =>
some (mE s1.2 s1.1 s1.1)) <|
some s1.2:Option ((Ar Int))).bind λy4 =>
some (.inl (w64 (s1.1+1),y4))) <|
some (.inr s1.2)
def gD (a0:Ar Int) (a1:Ar Int):Option ((Ar Int)):=
(aO (kc a1) (0,a0)).bind λy1 =>
some y1
def jp (r1:List (Ar Int)) (s1:Int×(List (Ar Int))):Option ((Int×(List (Ar Int)))⊕((List (Ar Int)))):=
sel (decide (s1.1<(r1.length:Int))) ((kt).bind λy4 =>
(nth s1.2 s1.1).bind λx1 =>
(upd s1.2 s1.1 y4).bind λr3 =>
some (.inl (w64 (s1.1+1),r3))) <|
some (.inr s1.2)
def fP (y8:(Ar Int)) (y9:(List Int)) (s3:(List Int)×Int×(List Bool)×(List (Ar Int))):Option (((List Int)×Int×(List Bool)×(List (Ar Int)))⊕((List Int)×(List Bool)×(List (Ar Int)))):=
sel (decide (s3.2.1<(y9.length:Int))) (((nth y9 s3.2.1).bind λx7 =>
((nth s3.2.2.1 x7).bind λx8 =>
sel x8 ((nth s3.2.2.2 x7).bind λx9 =>
(gD x9 y8).bind λy15 =>
some y15) <|
some y8:Option ((Ar Int))).bind λy14 =>
(nth s3.2.2.1 x7).bind λx10 =>
(sel (!x10) (some true) ((nth s3.2.2.2 x7).bind λb_1=>some (!(aeq 12 (λ(x y:Int)=>x==y) y14 b_1)))).bind λb1 =>
sel b1 ((nth s3.2.2.1 x7).bind λx12 =>
(upd s3.2.2.1 x7 true).bind λr6 =>
(nth s3.2.2.2 x7).bind λx13 =>
(upd s3.2.2.2 x7 y14).bind λr7 =>
(app 8 s3.1 [x7]).bind λr8 =>
some (r8,r6,r7)) <|
some (s3.1,s3.2.2.1,s3.2.2.2):Option ((List Int)×(List Bool)×(List (Ar Int)))).bind λy13 =>
some (.inl (y13.1,w64 (s3.2.1+1),y13.2.1,y13.2.2))) <|
some (.inr (s3.1,s3.2.2.1,s3.2.2.2))
def jq (a0:List ab) (s2:(List Int)×(List Bool)×(List (Ar Int))):Option (((List Int)×(List Bool)×(List (Ar Int)))⊕((List Bool)×(List (Ar Int)))):=
sel (decide ((s2.1.length:Int)>0)) ((nth s2.1 (w64 ((s2.1.length:Int)-1))).bind λx3 =>
(cut s2.1 0 (w64 ((s2.1.length:Int)-1))).bind λr5 =>
(nth s2.2.2 x3).bind λx4 =>
(nth a0 x3).bind λx5 =>
(fb x4 x5).bind λy8 =>
(nth a0 x3).bind λx6 =>
(gZ x6 x3).bind λy9 =>
(aO (fP y8 y9) (r5,0,s2.2.1,s2.2.2)).bind λy10 =>
some (.inl (y10.1,y10.2.1,y10.2.2))) <|
some (.inr (s2.2.1,s2.2.2))
def dM (a0:List ab):Option ((List (Ar Int))):=
(mk 96 (a0.length:Int) (λ_=>0)).bind λr1 =>
(mk 1 (a0.length:Int) false).bind λr2 =>
(aO (jp r1) (0,r1)).bind λy1 =>
(nth r2 0).bind λx2 =>
(upd r2 0 true).bind λr4 =>
(aO (jq a0) ([0],r4,y1)).bind λy5 =>
some y5.2
def jr (a0:ab):Option (Int):=
(sel (a0.Op==2) (some (a0.Op==2)) <|
sel (a0.Op==5) (some (a0.Op==5)) <|
sel (a0.Op==6) (some (a0.Op==6)) <|
some (a0.Op==9):Option (Bool)).bind λy1 =>
sel y1 ((shO .shl .u16 1 a0.A).bind λd1 =>
some d1) <|
sel (a0.Op==3) ((shO .shl .u16 1 a0.A).bind λd2 =>
(shO .shl .u16 1 a0.B).bind λd3 =>
some (bA .or .u16 d2 d3)) <|
some 0
def gF (a0:List ab) (y3:(List (Ar Int))) (s1:Int×(List ab)):Option ((Int×(List ab))⊕((List ab))):=
sel (decide (s1.1<(y3.length:Int))) (((nth y3 s1.1).bind λx1 =>
(nth a0 s1.1).bind λx2 =>
(jr x2).bind λy8 =>
(sel (y8 !=0) ((nth a0 s1.1).bind λx3 =>
(cQ 12 x1 x3.A).bind λx4 =>
(nth s1.2 s1.1).bind λx5 =>
(upd s1.2 s1.1 (ab.mk x5.Op x5.Dst x4 x5.B x5.N)).bind λr1 =>
some r1) <|
some s1.2:Option ((List ab))).bind λy9 =>
(nth a0 s1.1).bind λx6 =>
sel (x6.Op==3) ((nth a0 s1.1).bind λx7 =>
(cQ 12 x1 x7.B).bind λx8 =>
(nth y9 s1.1).bind λx9 =>
(upd y9 s1.1 (ab.mk x9.Op x9.Dst x9.A x8 x9.N)).bind λr2 =>
some r2) <|
some y9:Option ((List ab))).bind λy7 =>
some (.inl (w64 (s1.1+1),y7))) <|
some (.inr s1.2)
def ku (a0:List ab):Option ((List ab)×Bool):=
(bn a0).bind λy1 =>
sel (!y1) (some ([],false)) <|
(aB a0).bind λy2 =>
(dM a0).bind λy3 =>
(aO (gF a0 y3) (0,y2)).bind λy4 =>
some (y4,true)
def cr (a0:ab):Option (Bool):=
some ((a0.Op==4)||(a0.Op==5))
def nr (a0:List ab) (s1:Int×Int):Option ((Int×Int)⊕(Int⊕Unit)):=
sel (decide (s1.2<(a0.length:Int))) ((nth a0 s1.1).bind λx1 =>
sel (x1.Op !=4) (some (.inr (.inl s1.1))) <|
(nth a0 s1.1).bind λx2 =>
some (.inl (x2.N,w64 (s1.2+1)))) <|
some (.inr (.inr ()))
def kH (a0:List ab) (a1:Int):Option (Int):=
(aO (nr a0) (a1,0)).bind λy1 =>
kV y1 (λo3=>some o3) (λo4 =>
some a1)
def gG (a0:List ab) (s1:Int×(List ab)):Option ((Int×(List ab))⊕((List ab))):=
sel (decide (s1.1<(a0.length:Int))) (((nth a0 s1.1).bind λx1 =>
(cr x1).bind λy7 =>
sel y7 ((kH a0 x1.N).bind λy8 =>
(nth s1.2 s1.1).bind λx2 =>
(upd s1.2 s1.1 (ab.mk x2.Op x2.Dst x2.A x2.B y8)).bind λr1 =>
some r1) <|
some s1.2:Option ((List ab))).bind λy6 =>
some (.inl (w64 (s1.1+1),y6))) <|
some (.inr s1.2)
def kw (a0:List ab):Option ((List ab)×Bool):=
(bn a0).bind λy1 =>
sel (!y1) (some ([],false)) <|
(aB a0).bind λy2 =>
(aO (gG a0) (0,y2)).bind λy3 =>
some (y3,true)
def db (a0:Int) (a1:Int):Option (Bool):=
(shO .shr .u16 a0 a1).bind λd1 =>
some ((bA .and .u16 d1 1)==1)
def kZ (a1:List Int) (y1:(List Int)) (s1:Int×Int):Option ((Int×Int)⊕Int):=
sel (decide (s1.2<(y1.length:Int))) ((nth y1 s1.2).bind λx2 =>
(nth a1 x2).bind λx3 =>
some (.inl (bA .or .u16 s1.1 x3,w64 (s1.2+1)))) <|
some (.inr s1.1)
def dS (a0:List ab) (a1:List Int) (a2:Int):Option (Int):=
(nth a0 a2).bind λx1 =>
(gZ x1 a2).bind λy1 =>
(aO (kZ a1 y1) (0,0)).bind λy2 =>
some y2
def dj (a0:List ab) (s2:Bool×Int×(List Int)):Option ((Bool×Int×(List Int))⊕(Bool×(List Int))):=
sel (decide (s2.2.1>=0)) (((dS a0 s2.2.2 s2.2.1).bind λy8 =>
((nth a0 s2.2.1).bind λx1 =>
(eJ x1).bind λy10 =>
sel (decide (y10>=0)) ((shO .shl .u16 1 y10).bind λd1 =>
some (bA .andNot .u16 y8 d1)) <|
some y8:Option (Int)).bind λy9 =>
(nth a0 s2.2.1).bind λx2 =>
(jr x2).bind λy11 =>
(nth s2.2.2 s2.2.1).bind λx3 =>
sel ((bA .or .u16 y9 y11) !=x3) ((nth s2.2.2 s2.2.1).bind λx4 =>
(upd s2.2.2 s2.2.1 (bA .or .u16 y9 y11)).bind λr2 =>
some (true,r2)) <|
some (s2.1,s2.2.2):Option (Bool×(List Int))).bind λy7 =>
some (.inl (y7.1,w64 (s2.2.1-1),y7.2))) <|
some (.inr (s2.1,s2.2.2))
def bN (a0:List ab) (s1:Bool×(List Int)):Option ((Bool×(List Int))⊕((List Int))):=
sel s1.1 ((aO (dj a0) (false,w64 ((a0.length:Int)-1),s1.2)).bind λy4 =>
some (.inl (y4.1,y4.2))) <|
some (.inr s1.2)
def dT (a0:List ab):Option ((List Int)):=
(mk 2 (a0.length:Int) 0).bind λr1 =>
(aO (bN a0) (true,r1)).bind λy1 =>
some y1
def iV (a0:List ab) (y1:(List Int)) (s1:(List Int)×Int):Option (((List Int)×Int)⊕((List Int))):=
sel (decide (s1.2<(a0.length:Int))) (((nth a0 s1.2).bind λx1 =>
(eJ x1).bind λy6 =>
(sel ((decide (y6>=0))&&(x1.Op !=7)) ((dS a0 y1 s1.2).bind λy7=>(db y7 y6).bind λy8=>some (!y8)) (some false):Option (Bool)).bind λb1 =>
sel b1 ((app 8 s1.1 [s1.2]).bind λr1 =>
some r1) <|
some s1.1:Option ((List Int))).bind λy5 =>
some (.inl (y5,w64 (s1.2+1)))) <|
some (.inr s1.1)
def lL (a0:List ab):Option ((List Int)):=
(dT a0).bind λy1 =>
(aO (iV a0 y1) ([],0)).bind λy2 =>
some y2
def jJ (y3:(List Int)) (s1:Int×(List ab)):Option ((Int×(List ab))⊕((List ab))):=
sel (decide (s1.1<(y3.length:Int))) ((nth y3 s1.1).bind λx1 =>
(nth s1.2 x1).bind λx2 =>
(upd s1.2 x1 (ab.mk 4 0 0 0 (w64 (x1+1)))).bind λr1 =>
some (.inl (w64 (s1.1+1),r1))) <|
some (.inr s1.2)
def kx (a0:List ab):Option ((List ab)×Bool):=
(bn a0).bind λy1 =>
sel (!y1) (some ([],false)) <|
(aB a0).bind λy2 =>
(lL a0).bind λy3 =>
(aO (jJ y3) (0,y2)).bind λy4 =>
some (y4,true)
def lM (y5:(List Int)) (s2:(List Int)×Int×(List Bool)):Option (((List Int)×Int×(List Bool))⊕((List Int)×(List Bool))):=
sel (decide (s2.2.1<(y5.length:Int))) (((nth y5 s2.2.1).bind λx4 =>
(nth s2.2.2 x4).bind λx5 =>
sel (!x5) ((nth s2.2.2 x4).bind λx6 =>
(upd s2.2.2 x4 true).bind λr4 =>
(app 8 s2.1 [x4]).bind λr5 =>
some (r5,r4)) <|
some (s2.1,s2.2.2):Option ((List Int)×(List Bool))).bind λy9 =>
some (.inl (y9.1,w64 (s2.2.1+1),y9.2))) <|
some (.inr (s2.1,s2.2.2))
def lN (a0:List ab) (s1:(List Int)×(List Bool)):Option (((List Int)×(List Bool))⊕((List Bool))):=
sel (decide ((s1.1.length:Int)>0)) ((nth s1.1 (w64 ((s1.1.length:Int)-1))).bind λx2 =>
(cut s1.1 0 (w64 ((s1.1.length:Int)-1))).bind λr3 =>
(nth a0 x2).bind λx3 =>
(gZ x3 x2).bind λy5 =>
(aO (lM y5) (r3,0,s1.2)).bind λy6 =>
some (.inl (y6.1,y6.2))) <|
some (.inr s1.2)
def gH (a0:List ab):Option ((List Bool)):=
(bn a0).bind λy1 =>
sel (!y1) (some []) <|
(mk 1 (a0.length:Int) false).bind λr1 =>
(nth r1 0).bind λx1 =>
(upd r1 0 true).bind λr2 =>
(aO (lN a0) ([0],r2)).bind λy2 =>
some y2
def js (a0:ab) (a1:Int):Option (Bool):=
(cr a0).bind λy1 =>
some ((!(y1&&(a0.N==(w64 (a1+1)))))&&(!((a0.Op==2)&&(a0.Dst==a0.A))))
def gv (a0:List ab) (y2:(List Bool)) (s1:(List ab)×Int×(List Int)):Option (((List ab)×Int×(List Int))⊕((List ab)×(List Int))):=
sel (decide (s1.2.1<(y2.length:Int))) (((nth y2 s1.2.1).bind λx1 =>
(nth s1.2.2 s1.2.1).bind λx2 =>
(upd s1.2.2 s1.2.1 (s1.1.length:Int)).bind λr2 =>
(sel x1 ((nth a0 s1.2.1).bind λx3=>(js x3 s1.2.1).bind λy7=>some y7) (some false):Option (Bool)).bind λb1 =>
sel b1 ((nth a0 s1.2.1).bind λx4 =>
(app 40 s1.1 [x4]).bind λr3 =>
some (r3,r2)) <|
some (s1.1,r2):Option ((List ab)×(List Int))).bind λy6 =>
some (.inl (y6.1,w64 (s1.2.1+1),y6.2))) <|
some (.inr (s1.1,s1.2.2))
def d7 (y3:(List ab)×(List Int)) (s2:Int×(List ab)):Option ((Int×(List ab))⊕((List ab))):=
sel (decide (s2.1<(y3.1.length:Int))) (((nth s2.2 s2.1).bind λx5 =>
(cr x5).bind λy12 =>
sel y12 ((nth y3.2 x5.N).bind λx6 =>
(nth s2.2 s2.1).bind λx7 =>
(upd s2.2 s2.1 (ab.mk x7.Op x7.Dst x7.A x7.B x6)).bind λr4 =>
some r4) <|
some s2.2:Option ((List ab))).bind λy11 =>
some (.inl (w64 (s2.1+1),y11))) <|
some (.inr s2.2)
def gI (a0:List ab):Option ((List ab)×Bool):=
(bn a0).bind λy1 =>
sel (!y1) (some ([],false)) <|
(mk 8 (a0.length:Int) 0).bind λr1 =>
(gH a0).bind λy2 =>
(aO (gv a0 y2) ([],0,r1)).bind λy3 =>
(aO (d7 y3) (0,y3.1)).bind λy8 =>
some (y8,true)
def bL (a1:Int) (s1:(List ab)×Int):Option (((List ab)×Int)⊕(((List ab)×Bool)⊕((List ab)))):=
sel (decide (s1.2<a1)) ((kr s1.1).bind λy6 =>
sel (!y6.2) (some (.inr (.inl ([],false)))) <|
(ku y6.1).bind λy7 =>
sel (!y7.2) (some (.inr (.inl ([],false)))) <|
(kw y7.1).bind λy8 =>
sel (!y8.2) (some (.inr (.inl ([],false)))) <|
(kx y8.1).bind λy9 =>
sel (!y9.2) (some (.inr (.inl ([],false)))) <|
(gI y9.1).bind λy10 =>
sel (!y10.2) (some (.inr (.inl ([],false)))) <|
some (.inl (y10.1,w64 (s1.2+1)))) <|
some (.inr (.inr s1.1))
def bW (a0:List ab) (a1:Int):Option ((List ab)×Bool):=
(bn a0).bind λy1 =>
sel (((!y1)||(decide (a1<0)))||(decide (a1>4))) (some ([],false)) <|
(aB a0).bind λy2 =>
(aO (bL a1) (y2,0)).bind λy3 =>
kV y3 (λo3=>some o3) (λo4 =>
some (o4,true))
def c8 (a0:List (List ab)) (a1:Int) (s1:(List (List ab))×Int):Option (((List (List ab))×Int)⊕(((List (List ab))×Bool)⊕((List (List ab))))):=
sel (decide (s1.2<(a0.length:Int))) ((nth a0 s1.2).bind λx1 =>
(bW x1 a1).bind λy4 =>
sel (!y4.2) (some (.inr (.inl ([],false)))) <|
(app 24 s1.1 [y4.1]).bind λr1 =>
some (.inl (r1,w64 (s1.2+1)))) <|
some (.inr (.inr s1.1))
def dk (a0:List (List ab)) (a1:Int):Option ((List (List ab))×Bool):=
sel ((decide ((a0.length:Int)<1))||(decide ((a0.length:Int)>3))) (some ([],false)) <|
(aO (c8 a0 a1) ([],0)).bind λy1 =>
kV y1 (λo3=>some o3) (λo4 =>
some (o4,true))
def ke (a0:Int) (s1:(List Int)×Int):Option (((List Int)×Int)⊕((List Int))):=
sel (decide (s1.2<12)) (((db a0 s1.2).bind λy5 =>
sel y5 ((app 8 s1.1 [s1.2]).bind λr1 =>
some r1) <|
some s1.1:Option ((List Int))).bind λy4 =>
some (.inl (y4,w64 (s1.2+1)))) <|
some (.inr s1.1)
def gJ (a0:Int):Option ((List Int)):=
(aO (ke a0) ([],0)).bind λy1 =>
some y1
def jK (y6:Int) (y9:(List Int)) (s2:Int×(Ar Int)):Option ((Int×(Ar Int))⊕((Ar Int))):=
sel (decide (s2.1<(y9.length:Int))) ((nth y9 s2.1).bind λx4 =>
(cQ 12 s2.2 x4).bind λx5 =>
(shO .shl .u16 1 y6).bind λd3 =>
(cQ 12 s2.2 x4).bind λx6 =>
some (.inl (w64 (s2.1+1),(mE s2.2 x4 (bA .or .u16 x5 d3))))) <|
some (.inr s2.2)
def mn (a0:List ab) (y1:(List Int)) (s1:Int×(Ar Int)):Option ((Int×(Ar Int))⊕((Ar Int))):=
sel (decide (s1.1<(a0.length:Int))) (((nth a0 s1.1).bind λx1 =>
(eJ x1).bind λy6 =>
sel (decide (y6<0)) (some s1.2) <|
(shO .shl .u16 1 y6).bind λd1 =>
(dS a0 y1 s1.1).bind λy7 =>
(sel (x1.Op==2) ((shO .shl .u16 1 x1.A).bind λd2 =>
some (bA .andNot .u16 (bA .andNot .u16 y7 d1) d2)) <|
some (bA .andNot .u16 y7 d1):Option (Int)).bind λy8 =>
(cQ 12 s1.2 y6).bind λx2 =>
(cQ 12 s1.2 y6).bind λx3 =>
(gJ y8).bind λy9 =>
(aO (jK y6 y9) (0,(mE s1.2 y6 (bA .or .u16 x2 y8)))).bind λy10 =>
some y10:Option ((Ar Int))).bind λy5 =>
some (.inl (w64 (s1.1+1),y5))) <|
some (.inr s1.2)
def iK (a0:List ab):Option ((Ar Int)):=
(dT a0).bind λy1 =>
(aO (mn a0 y1) (0,(λ_=>0))).bind λy2 =>
some y2
def mo (y1:(Ar Int)) (s1:Int×(List Int)) (s2:Int×Int):Option ((Int×Int)⊕Int):=
sel (decide (s2.2<s1.1)) (((cQ 12 y1 s1.1).bind λx1 =>
(db x1 s2.2).bind λy9 =>
sel y9 ((nth s1.2 s2.2).bind λx2 =>
(shO .shl .u16 1 x2).bind λd1 =>
some (bA .or .u16 s2.1 d1)) <|
some s2.1:Option (Int)).bind λy8 =>
some (.inl (y8,w64 (s2.2+1)))) <|
some (.inr s2.1)
def mp (s1:Int×(List Int)) (y5:Int) (s3:(List Int)):Option (((List Int))⊕((List Int))):=
(nth s3 s1.1).bind λx3 =>
(db y5 x3).bind λy13 =>
sel y13 ((nth s3 s1.1).bind λx4 =>
(nth s3 s1.1).bind λx5 =>
(upd s3 s1.1 (w64 (x4+1))).bind λr2 =>
some (.inl r2)) <|
some (.inr s3)
def mq (y1:(Ar Int)) (r1:List Int) (s1:Int×(List Int)):Option ((Int×(List Int))⊕((List Int))):=
sel (decide (s1.1<(r1.length:Int))) ((aO (mo y1 s1) (0,0)).bind λy5 =>
(aO (mp s1 y5) s1.2).bind λy10 =>
some (.inl (w64 (s1.1+1),y10))) <|
some (.inr s1.2)
def iL (a0:List ab):Option ((List Int)):=
(iK a0).bind λy1 =>
(mk 8 12 0).bind λr1 =>
(aO (mq y1 r1) (0,r1)).bind λy2 =>
some y2
def fQ (a0:List ab) (y2:(List Int)) (s1:Int×(List ab)):Option ((Int×(List ab))⊕((List ab))):=
sel (decide (s1.1<(a0.length:Int))) ((nth a0 s1.1).bind λx1 =>
(nth y2 x1.Dst).bind λx2 =>
(nth y2 x1.A).bind λx3 =>
(nth y2 x1.B).bind λx4 =>
(nth s1.2 s1.1).bind λx5 =>
(upd s1.2 s1.1 (ab.mk x5.Op x2 x5.A x5.B x5.N)).bind λr1 =>
(nth r1 s1.1).bind λx6 =>
(upd r1 s1.1 (ab.mk x6.Op x6.Dst x3 x6.B x6.N)).bind λr2 =>
(nth r2 s1.1).bind λx7 =>
(upd r2 s1.1 (ab.mk x7.Op x7.Dst x7.A x4 x7.N)).bind λr3 =>
some (.inl (w64 (s1.1+1),r3))) <|
some (.inr s1.2)
def fc (a0:List ab):Option ((List ab)×Bool):=
(bn a0).bind λy1 =>
sel (!y1) (some ([],false)) <|
(iL a0).bind λy2 =>
(aB a0).bind λy3 =>
(aO (fQ a0 y2) (0,y3)).bind λy4 =>
some (y4,true)
def k8 (y2:(List (List ab))×Bool) (s1:Int×(List (List ab))):Option ((Int×(List (List ab)))⊕(((List (List ab))×Bool)⊕((List (List ab))))):=
sel (decide (s1.1<(y2.1.length:Int))) ((nth s1.2 s1.1).bind λx1 =>
(fc x1).bind λy6 =>
sel (!y6.2) (some (.inr (.inl ([],false)))) <|
some (.inl (w64 (s1.1+1),(s1.2.set (Int.toNat s1.1) y6.1)))) <|
some (.inr (.inr s1.2))
def dc (k:Nat) (a0:aA) (a1:Int):Option ((List (List ab))×Bool):=
(c7 k (aA.mk a0.Rooms a0.Tasks)).bind λy1 =>
sel (!y1.2) (some ([],false)) <|
(dk y1.1 a1).bind λy2 =>
sel (!y2.2) (some ([],false)) <|
(aO (k8 y2) (0,y2.1)).bind λy3 =>
kV y3 (λo3=>some o3) (λo4 =>
some (o4,true))
def bi (a0:bz) (a1:List Instr):Option ((List Instr)):=
(app 40 a0.list a1).bind λr1 =>
some r1
def ca (a0:bz) (a1:Int) (a2:Int->Option (List Instr)):Option ((List Instr)):=
sel (decide (a1<a0.colors)) ((nth jG a1).bind λx1 =>
(a2 x1).bind λy1 =>
(bi (bz.mk a0.colors a0.list) y1).bind λy2 =>
some y2) <|
(a2 7).bind λy3 =>
(bi (bz.mk a0.colors a0.list) y3).bind λy4 =>
(bi (bz.mk a0.colors y4) [(Instr.mk 16 0 2 7 (w64 (4*(w64 (a1-a0.colors)))))]).bind λy5 =>
some y5
def bK (a0:bz) (a1:Int) (a2:Int):Option (Int×(List Instr)):=
sel (decide (a1<a0.colors)) ((nth jG a1).bind λx1 =>
some (x1,a0.list)) <|
(bi (bz.mk a0.colors a0.list) [(Instr.mk 14 a2 2 0 (w64 (4*(w64 (a1-a0.colors)))))]).bind λy1 =>
some (a2,y1)
def dl (a0:Int) (a1:Int) (a2:Int):Option (Instr):=
some (Instr.mk 12 a0 a1 0 a2)
def dN (a0:bz) (a1:Int):Option ((List Instr)):=
(bi (bz.mk a0.colors a0.list) [(Instr.mk 20 0 0 0 (w64 (a1-(w64 (4*(a0.list.length:Int))))))]).bind λy1 =>
some y1
def bX (a0:bz) (a1:Int):Option ((List Instr)):=
(dl 17 0 a1).bind λy1 =>
(bi (bz.mk a0.colors a0.list) [y1,(Instr.mk 15 1 0 0 0)]).bind λy2 =>
some y2
def iC (a0:Int) (a1:Int):Option (Int):=
(sel (((decide (a1<1))||(decide (a1>32)))||(decide (a0<0))) (some true) ((shO .shl .i64 1 a1).bind λd1=>some (decide (a0>=d1))):Option (Bool)).bind λb1 =>
sel b1 (some 0) <|
(shO .shl .i64 1 (w64 (a1-1))).bind λd2 =>
sel (decide (a0>=d2)) ((shO .shl .i64 1 a1).bind λd3 =>
some (w64 (a0-d3))) <|
some a0
def kI (a0:Int):Option (Bool):=
some ((decide (a0>=0))&&(decide (a0<4294967296)))
def ln (a0:Int) (a1:Int) (a2:Int):Option (Int):=
(kI a0).bind λy1 =>
sel (((((!y1)||(decide (a1<0)))||(decide (a1>31)))||(decide (a2<1)))||(decide (a2>(w64 (32-a1))))) (some 0) <|
(shO .shr .i64 a0 a1).bind λd1 =>
(shO .shl .i64 1 a2).bind λd2 =>
some (bA .and .i64 d1 (w64 (d2-1)))
def iM (a0:Int):Option (Int):=
(gB a0).bind λy1 =>
sel (!y1) (some (-1)) <|
some (w64 (mY .u32 (a0)))
def gK (a0:Int) (a1:Int):Option ((List Instr)):=
sel ((decide (a1>=(-2048)))&&(decide (a1<=2047))) ((dl a0 0 a1).bind λy1 =>
some [y1]) <|
(iM a1).bind λy2 =>
(ln y2 0 12).bind λy3 =>
(iC y3 12).bind λy4 =>
(eT (w64 (a1-y4))).bind λy5 =>
(iM y5).bind λy6 =>
(ln y6 12 20).bind λy7 =>
(dl a0 a0 y4).bind λy8 =>
some [(Instr.mk 19 a0 0 0 y7),y8]
def iW (a0:Int) (a1:ab):Option ((List Instr)):=
(gK a0 a1.N).bind λy1 =>
some y1
def iX (a0:Int) (a1:Int):Option ((List Instr)):=
(dl a0 a1 0).bind λy1 =>
some [y1]
def iY (a0:Int) (a1:ab) (a2:Int) (a3:Int):Option ((List Instr)):=
(nth mg (w64 (a1.N-1))).bind λx1 =>
sel (a1.N==4) ((app 40 [(Instr.mk x1 a0 a2 a3 0)] [(Instr.mk 13 a0 a0 0 1)]).bind λr1 =>
some r1) <|
some [(Instr.mk x1 a0 a2 a3 0)]
def iZ (a0:Int):Option ((List Instr)):=
(dl a0 10 0).bind λy1 =>
some [y1]
def fy (a0:ab) (a1:Int) (a2:Int):Option ((List Instr)):=
(sel (a0.Op==1) ((ca (bz.mk a1 []) a0.Dst (λb0=>iW b0 a0)).bind λy2 =>
some y2) <|
sel (a0.Op==2) ((bK (bz.mk a1 []) a0.A 5).bind λy3 =>
(ca (bz.mk a1 y3.2) a0.Dst (λb0=>iX b0 y3.1)).bind λy4 =>
some y4) <|
sel (a0.Op==3) ((bK (bz.mk a1 []) a0.A 5).bind λy5 =>
(bK (bz.mk a1 y5.2) a0.B 6).bind λy6 =>
(ca (bz.mk a1 y6.2) a0.Dst (λb0=>iY b0 a0 y5.1 y6.1)).bind λy7 =>
some y7) <|
sel (a0.Op==4) ((dN (bz.mk a1 []) a2).bind λy8 =>
some y8) <|
sel (a0.Op==5) ((bK (bz.mk a1 []) a0.A 5).bind λy9 =>
(bi (bz.mk a1 y9.2) [(Instr.mk 18 0 y9.1 0 8)]).bind λy10 =>
(dN (bz.mk a1 y10) a2).bind λy11 =>
some y11) <|
sel (a0.Op==6) ((bK (bz.mk a1 []) a0.A 5).bind λy12 =>
(dl 10 y12.1 0).bind λy13 =>
(dl 11 0 a0.N).bind λy14 =>
(bi (bz.mk a1 y12.2) [y13,y14]).bind λy15 =>
(bX (bz.mk a1 y15) 1).bind λy16 =>
some y16) <|
sel (a0.Op==7) ((dl 11 0 a0.N).bind λy17 =>
(bi (bz.mk a1 []) [y17]).bind λy18 =>
(bX (bz.mk a1 y18) 2).bind λy19 =>
(ca (bz.mk a1 y19) a0.Dst iZ).bind λy20 =>
some y20) <|
sel (a0.Op==8) ((bX (bz.mk a1 []) 3).bind λy21 =>
some y21) <|
sel (a0.Op==9) ((bK (bz.mk a1 []) a0.A 5).bind λy22 =>
(dl 10 y22.1 0).bind λy23 =>
(bi (bz.mk a1 y22.2) [y23]).bind λy24 =>
(bX (bz.mk a1 y24) 4).bind λy25 =>
some y25) <|
sel (a0.Op==10) ((bX (bz.mk a1 []) 5).bind λy26 =>
some y26) <|
some []:Option ((List Instr))).bind λy1 =>
some y1
def k9 (a0:List ab) (a1:Int) (s1:(List Int)×Int×Int):Option (((List Int)×Int×Int)⊕((List Int))):=
sel (decide (s1.2.2<(a0.length:Int))) ((nth a0 s1.2.2).bind λx1 =>
(app 8 s1.1 [s1.2.1]).bind λr1 =>
(fy x1 a1 0).bind λy5 =>
some (.inl (r1,w64 (s1.2.1+(y5.length:Int)),w64 (s1.2.2+1)))) <|
some (.inr s1.1)
def fz (a0:List ab) (a1:Int):Option ((List Int)):=
(bn a0).bind λy1 =>
sel (((!y1)||(decide (a1<1)))||(decide (a1>8))) (some []) <|
(aO (k9 a0 a1) ([],0,0)).bind λy2 =>
some y2
def la (a0:List ab) (a1:Int) (y1:(List Int)) (s1:(List Instr)×Int):Option (((List Instr)×Int)⊕((List Instr))):=
sel (decide (s1.2<(a0.length:Int))) ((nth a0 s1.2).bind λx1 =>
((cr x1).bind λy6 =>
sel y6 ((nth y1 x1.N).bind λx2 =>
(nth y1 s1.2).bind λx3 =>
some (w64 (4*(w64 (x2-x3))))) <|
some 0:Option (Int)).bind λy5 =>
(fy x1 a1 y5).bind λy7 =>
(app 40 s1.1 y7).bind λr1 =>
some (.inl (r1,w64 (s1.2+1)))) <|
some (.inr s1.1)
def de (a0:List ab) (a1:Int):Option ((List Instr)×Bool):=
(fz a0 a1).bind λy1 =>
sel (List.isEmpty y1) (some ([],false)) <|
(aO (la a0 a1 y1) ([],0)).bind λy2 =>
some (y2,true)
def dm (a2:Int) (y1:(List (List ab))×Bool) (s1:(List (List Instr))×Int):Option (((List (List Instr))×Int)⊕(((List (List Instr))×Bool)⊕((List (List Instr))))):=
sel (decide (s1.2<(y1.1.length:Int))) ((nth y1.1 s1.2).bind λx1 =>
(de x1 a2).bind λy5 =>
sel (!y5.2) (some (.inr (.inl ([],false)))) <|
(app 24 s1.1 [y5.1]).bind λr1 =>
some (.inl (r1,w64 (s1.2+1)))) <|
some (.inr (.inr s1.1))
def fC (k:Nat) (a0:aA) (a1:Int) (a2:Int):Option ((List (List Instr))×Bool):=
(dc k (aA.mk a0.Rooms a0.Tasks) a1).bind λy1 =>
sel (!y1.2) (some ([],false)) <|
(aO (dm a2 y1) ([],0)).bind λy2 =>
kV y2 (λo3=>some o3) (λo4 =>
some (o4,true))
def aY (a0:Int) (a1:Int) (a2:Int):Option (Bool):=
some ((decide (a0>=a1))&&(decide (a0<=a2)))
def jL (a0:List Int) (s1:Int):Option (Int⊕(Bool⊕Unit)):=
sel (decide (s1<(a0.length:Int))) ((nth a0 s1).bind λx1 =>
(aY x1 1 4).bind λy4 =>
sel (!y4) (some (.inr (.inl false))) <|
some (.inl (w64 (s1+1)))) <|
some (.inr (.inr ()))
def ky (a0:List Int):Option (Bool):=
(aO (jL a0) 0).bind λy1 =>
kV y1 (λo3=>some o3) (λo4 =>
some (decide ((a0.length:Int)<=3)))
def eK (a0:ah) (a1:Bool):Option (Bool):=
sel a1 ((aY a0.Var 0 3).bind λy1 =>
some y1) <|
some (a0.Var==0)
def eL (a0:ah) (a1:Bool):Option (Bool):=
sel a1 ((aY a0.Box 0 2).bind λy1 =>
some y1) <|
some (a0.Box==0)
def et (a0:Int):Option (Bool):=
(aY a0 1 12).bind λy1 =>
some y1
def fR (k:Nat) (mH:Expr->Int->Option (Bool)) (a0:Expr) (a1:Int):Option (Bool):=
sel (decide (a1<1)) (some false) <|
sel (a0.Op==0) ((aY a0.N 0 99999).bind λy1 =>
some (y1&&((a0.Args.length:Int)==0))) <|
sel (a0.Op==13) ((aY a0.N 0 3).bind λy2 =>
some (y2&&((a0.Args.length:Int)==0))) <|
(et a0.Op).bind λy3 =>
(sel ((y3&&(a0.N==0))&&((a0.Args.length:Int)==2)) ((nth a0.Args 0).bind λx1=>(mH (Expr.mk x1.Op x1.N x1.Args) (w64 (a1-1))).bind λy4=>some y4) (some false):Option (Bool)).bind λb1 =>
(sel b1 ((nth a0.Args 1).bind λx2=>(mH (Expr.mk x2.Op x2.N x2.Args) (w64 (a1-1))).bind λy5=>some y5) (some false):Option (Bool)).bind λb2 =>
some b2
def qN:Nat->(Expr->Int->Option (Bool))
 | 0=>((λ_ _=>none))
 | k+1=>(fR k (qN k))
def lq (k:Nat):Expr->Int->Option (Bool):=(qN k)
def cd (k:Nat) (a0:Expr):Option (Bool):=
(lq k (Expr.mk a0.Op a0.N a0.Args) 5).bind λy1 =>
some y1
def f6 (a0:Expr):Option (Bool):=
some (((a0.Op==0)&&(a0.N==0))&&((a0.Args.length:Int)==0))
def dI (k:Nat) (a0:ah):Option (Bool):=
sel ((decide ((a0.Body.length:Int)>0))||(decide ((a0.Else.length:Int)>0))) (some false) <|
sel (a0.Kind==1) ((eK (ah.mk a0.Kind a0.Var a0.Box (Expr.mk a0.Expr.Op a0.Expr.N a0.Expr.Args) a0.Body a0.Else) true).bind λy1 =>
(sel y1 ((eL (ah.mk a0.Kind a0.Var a0.Box (Expr.mk a0.Expr.Op a0.Expr.N a0.Expr.Args) a0.Body a0.Else) false).bind λy2=>some y2) (some false):Option (Bool)).bind λb1 =>
(sel b1 ((cd k (Expr.mk a0.Expr.Op a0.Expr.N a0.Expr.Args)).bind λy3=>some y3) (some false):Option (Bool)).bind λb2 =>
some b2) <|
sel (a0.Kind==4) ((eK (ah.mk a0.Kind a0.Var a0.Box (Expr.mk a0.Expr.Op a0.Expr.N a0.Expr.Args) a0.Body a0.Else) false).bind λy4 =>
(sel y4 ((eL (ah.mk a0.Kind a0.Var a0.Box (Expr.mk a0.Expr.Op a0.Expr.N a0.Expr.Args) a0.Body a0.Else) true).bind λy5=>some y5) (some false):Option (Bool)).bind λb3 =>
(sel b3 ((cd k (Expr.mk a0.Expr.Op a0.Expr.N a0.Expr.Args)).bind λy6=>some y6) (some false):Option (Bool)).bind λb4 =>
some b4) <|
sel (a0.Kind==5) ((eK (ah.mk a0.Kind a0.Var a0.Box (Expr.mk a0.Expr.Op a0.Expr.N a0.Expr.Args) a0.Body a0.Else) true).bind λy7 =>
(sel y7 ((eL (ah.mk a0.Kind a0.Var a0.Box (Expr.mk a0.Expr.Op a0.Expr.N a0.Expr.Args) a0.Body a0.Else) true).bind λy8=>some y8) (some false):Option (Bool)).bind λb5 =>
(sel b5 ((f6 (Expr.mk a0.Expr.Op a0.Expr.N a0.Expr.Args)).bind λy9=>some y9) (some false):Option (Bool)).bind λb6 =>
some b6) <|
sel (a0.Kind==6) ((eK (ah.mk a0.Kind a0.Var a0.Box (Expr.mk a0.Expr.Op a0.Expr.N a0.Expr.Args) a0.Body a0.Else) false).bind λy10 =>
(sel y10 ((eL (ah.mk a0.Kind a0.Var a0.Box (Expr.mk a0.Expr.Op a0.Expr.N a0.Expr.Args) a0.Body a0.Else) false).bind λy11=>some y11) (some false):Option (Bool)).bind λb7 =>
(sel b7 ((f6 (Expr.mk a0.Expr.Op a0.Expr.N a0.Expr.Args)).bind λy12=>some y12) (some false):Option (Bool)).bind λb8 =>
some b8) <|
sel (a0.Kind==7) ((eK (ah.mk a0.Kind a0.Var a0.Box (Expr.mk a0.Expr.Op a0.Expr.N a0.Expr.Args) a0.Body a0.Else) false).bind λy13 =>
(sel y13 ((eL (ah.mk a0.Kind a0.Var a0.Box (Expr.mk a0.Expr.Op a0.Expr.N a0.Expr.Args) a0.Body a0.Else) false).bind λy14=>some y14) (some false):Option (Bool)).bind λb9 =>
(sel b9 ((cd k (Expr.mk a0.Expr.Op a0.Expr.N a0.Expr.Args)).bind λy15=>some y15) (some false):Option (Bool)).bind λb10 =>
some b10) <|
some false
def i3 (a0:List ah) (a1:Int) (dB:ah->Int->Option (Bool)) (s1:Int):Option (Int⊕(Bool⊕Unit)):=
sel (decide (s1<(a0.length:Int))) ((nth a0 s1).bind λx1 =>
(dB (ah.mk x1.Kind x1.Var x1.Box (Expr.mk x1.Expr.Op x1.Expr.N x1.Expr.Args) x1.Body x1.Else) a1).bind λy4 =>
sel (!y4) (some (.inr (.inl false))) <|
some (.inl (w64 (s1+1)))) <|
some (.inr (.inr ()))
def dn (k:Nat) (ch:List ah->Int->Option (Bool)) (dB:ah->Int->Option (Bool)) (a0:List ah) (a1:Int):Option (Bool):=
(aO (i3 a0 a1 dB) 0).bind λy1 =>
kV y1 (λo3=>some o3) (λo4 =>
some true)
def ic (k:Nat) (ch:List ah->Int->Option (Bool)) (dB:ah->Int->Option (Bool)) (a0:ah) (a1:Int):Option (Bool):=
sel ((a0.Kind !=2)&&(a0.Kind !=3)) ((dI k (ah.mk a0.Kind a0.Var a0.Box (Expr.mk a0.Expr.Op a0.Expr.N a0.Expr.Args) a0.Body a0.Else)).bind λy1 =>
some y1) <|
sel ((decide (a1<1))||((a0.Kind==3)&&(decide ((a0.Else.length:Int)>0)))) (some false) <|
(eK (ah.mk a0.Kind a0.Var a0.Box (Expr.mk a0.Expr.Op a0.Expr.N a0.Expr.Args) a0.Body a0.Else) false).bind λy2 =>
(sel y2 ((eL (ah.mk a0.Kind a0.Var a0.Box (Expr.mk a0.Expr.Op a0.Expr.N a0.Expr.Args) a0.Body a0.Else) false).bind λy3=>some y3) (some false):Option (Bool)).bind λb1 =>
(sel b1 ((cd k (Expr.mk a0.Expr.Op a0.Expr.N a0.Expr.Args)).bind λy4=>some y4) (some false):Option (Bool)).bind λb2 =>
(sel b2 ((ch a0.Body (w64 (a1-1))).bind λy5=>some y5) (some false):Option (Bool)).bind λb3 =>
(sel b3 ((ch a0.Else (w64 (a1-1))).bind λy6=>some y6) (some false):Option (Bool)).bind λb4 =>
some b4
def dt:Nat->(List ah->Int->Option (Bool))×(ah->Int->Option (Bool))
 | 0=>((λ_ _=>none),(λ_ _=>none))
 | k+1=>(dn k (dt k).1 (dt k).2,ic k (dt k).1 (dt k).2)
def bJ (k:Nat):List ah->Int->Option (Bool):=(dt k).1
def nu (k:Nat):ah->Int->Option (Bool):=(dt k).2
def cB (k:Nat) (a0:List ah):Option (Bool):=
(bJ k a0 3).bind λy1 =>
(sel y1 ((ce k a0).bind λy2=>some (decide (y2<=16))) (some false):Option (Bool)).bind λb1 =>
some b1
def mr (a0:List ah) (a1:Int) (dU:List ah->Int->Option (Bool)) (s1:Int):Option (Int⊕(Bool⊕Unit)):=
sel (decide (s1<(a0.length:Int))) ((nth a0 s1).bind λx1 =>
sel (((x1.Kind==4)||(x1.Kind==5))&&(decide (x1.Box>=a1))) (some (.inr (.inl false))) <|
(dU x1.Body a1).bind λy4 =>
(sel (!y4) (some true) ((dU x1.Else a1).bind λy5=>some (!y5)):Option (Bool)).bind λb1 =>
sel b1 (some (.inr (.inl false))) <|
some (.inl (w64 (s1+1)))) <|
some (.inr (.inr ()))
def dV (k:Nat) (dU:List ah->Int->Option (Bool)) (a0:List ah) (a1:Int):Option (Bool):=
(aO (mr a0 a1 dU) 0).bind λy1 =>
kV y1 (λo3=>some o3) (λo4 =>
some true)
def nP:Nat->(List ah->Int->Option (Bool))
 | 0=>((λ_ _=>none))
 | k+1=>(dV k (nP k))
def eM (k:Nat):List ah->Int->Option (Bool):=(nP k)
def fS (a0:aA) (k:Nat) (s1:Int):Option (Int⊕(Bool⊕Unit)):=
sel (decide (s1<(a0.Tasks.length:Int))) ((nth a0.Tasks s1).bind λx1 =>
(cB k x1).bind λy6 =>
(sel (!y6) (some true) ((nth a0.Tasks s1).bind λb_1=>(eM k b_1 (a0.Rooms.length:Int)).bind λb_2=>some (!b_2))).bind λb2 =>
sel b2 (some (.inr (.inl false))) <|
some (.inl (w64 (s1+1)))) <|
some (.inr (.inr ()))
def fT (k:Nat) (a0:aA):Option (Bool):=
(ky a0.Rooms).bind λy1 =>
(sel (!y1) (some true) ((aY (a0.Tasks.length:Int) 1 3).bind λy2=>some (!y2)):Option (Bool)).bind λb1 =>
sel b1 (some false) <|
(aO (fS a0 k) 0).bind λy3 =>
kV y3 (λo3=>some o3) (λo4 =>
some true)
def fd (k:Nat) (jt:Expr->Int->Option ((List ab))) (a0:Expr) (a1:Int):Option ((List ab)):=
sel (a0.Op==0) (some [(ab.mk 1 a1 0 0 a0.N)]) <|
sel (a0.Op==13) (some [(ab.mk 2 a1 a0.N 0 0)]) <|
(nth a0.Args 0).bind λx1 =>
(nth a0.Args 1).bind λx2 =>
(jt (Expr.mk x1.Op x1.N x1.Args) a1).bind λy1 =>
(jt (Expr.mk x2.Op x2.N x2.Args) (w64 (a1+1))).bind λy2 =>
(app 40 y1 y2).bind λr1 =>
(app 40 r1 [(ab.mk 3 a1 a1 (w64 (a1+1)) a0.Op)]).bind λr2 =>
some r2
def n9:Nat->(Expr->Int->Option ((List ab)))
 | 0=>((λ_ _=>none))
 | k+1=>(fd k (n9 k))
def cD (k:Nat):Expr->Int->Option ((List ab)):=(n9 k)
def kJ (a0:List ah) (a1:Int) (bg:ah->Int->Option ((List ab))) (s1:(List ab)×Int):Option (((List ab)×Int)⊕((List ab))):=
sel (decide (s1.2<(a0.length:Int))) ((nth a0 s1.2).bind λx1 =>
(bg (ah.mk x1.Kind x1.Var x1.Box (Expr.mk x1.Expr.Op x1.Expr.N x1.Expr.Args) x1.Body x1.Else) (w64 (a1+(s1.1.length:Int)))).bind λy4 =>
(app 40 s1.1 y4).bind λr1 =>
some (.inl (r1,w64 (s1.2+1)))) <|
some (.inr s1.1)
def ff (k:Nat) (bh:List ah->Int->Option ((List ab))) (bg:ah->Int->Option ((List ab))) (bI:ah->Int->Option ((List ab))) (bj:ah->Int->Option ((List ab))) (a0:List ah) (a1:Int):Option ((List ab)):=
(aO (kJ a0 a1 bg) ([],0)).bind λy1 =>
some y1
def cY (k:Nat) (bh:List ah->Int->Option ((List ab))) (bg:ah->Int->Option ((List ab))) (bI:ah->Int->Option ((List ab))) (bj:ah->Int->Option ((List ab))) (a0:ah) (a1:Int):Option ((List ab)):=
(cD k (Expr.mk a0.Expr.Op a0.Expr.N a0.Expr.Args) 4).bind λy1 =>
sel (a0.Kind==2) ((bI (ah.mk a0.Kind a0.Var a0.Box (Expr.mk a0.Expr.Op a0.Expr.N a0.Expr.Args) a0.Body a0.Else) a1).bind λy2 =>
some y2) <|
sel (a0.Kind==3) ((bj (ah.mk a0.Kind a0.Var a0.Box (Expr.mk a0.Expr.Op a0.Expr.N a0.Expr.Args) a0.Body a0.Else) a1).bind λy3 =>
some y3) <|
sel (a0.Kind==1) ((app 40 y1 [(ab.mk 2 a0.Var 4 0 0)]).bind λr1 =>
some r1) <|
sel (a0.Kind==4) ((app 40 y1 [(ab.mk 6 0 4 0 a0.Box)]).bind λr2 =>
some r2) <|
sel (a0.Kind==7) ((app 40 y1 [(ab.mk 9 0 4 0 0)]).bind λr3 =>
some r3) <|
sel (a0.Kind==5) (some [(ab.mk 7 a0.Var 0 0 a0.Box)]) <|
some [(ab.mk 8 0 0 0 0)]
def ie (k:Nat) (bh:List ah->Int->Option ((List ab))) (bg:ah->Int->Option ((List ab))) (bI:ah->Int->Option ((List ab))) (bj:ah->Int->Option ((List ab))) (a0:ah) (a1:Int):Option ((List ab)):=
(cD k (Expr.mk a0.Expr.Op a0.Expr.N a0.Expr.Args) 4).bind λy1 =>
(bh a0.Body (w64 ((w64 (a1+(y1.length:Int)))+1))).bind λy2 =>
sel ((a0.Else.length:Int)==0) ((app 40 y1 [(ab.mk 5 0 4 0 (w64 ((w64 ((w64 (a1+(y1.length:Int)))+1))+(y2.length:Int))))]).bind λr1 =>
(app 40 r1 y2).bind λr2 =>
some r2) <|
(bh a0.Else (w64 ((w64 ((w64 ((w64 (a1+(y1.length:Int)))+1))+(y2.length:Int)))+1))).bind λy3 =>
(app 40 y1 [(ab.mk 5 0 4 0 (w64 ((w64 ((w64 ((w64 (a1+(y1.length:Int)))+1))+(y2.length:Int)))+1)))]).bind λr3 =>
(app 40 r3 y2).bind λr4 =>
(app 40 r4 [(ab.mk 4 0 0 0 (w64 ((w64 ((w64 ((w64 ((w64 (a1+(y1.length:Int)))+1))+(y2.length:Int)))+1))+(y3.length:Int))))]).bind λr5 =>
(app 40 r5 y3).bind λr6 =>
some r6
def dW (k:Nat) (bh:List ah->Int->Option ((List ab))) (bg:ah->Int->Option ((List ab))) (bI:ah->Int->Option ((List ab))) (bj:ah->Int->Option ((List ab))) (a0:ah) (a1:Int):Option ((List ab)):=
(cD k (Expr.mk a0.Expr.Op a0.Expr.N a0.Expr.Args) 4).bind λy1 =>
(bh a0.Body (w64 ((w64 (a1+(y1.length:Int)))+1))).bind λy2 =>
(app 40 y1 [(ab.mk 5 0 4 0 (w64 ((w64 ((w64 ((w64 (a1+(y1.length:Int)))+1))+(y2.length:Int)))+1)))]).bind λr1 =>
(app 40 r1 y2).bind λr2 =>
(app 40 r2 [(ab.mk 4 0 0 0 a1)]).bind λr3 =>
some r3
def aP:Nat->(List ah->Int->Option ((List ab)))×(ah->Int->Option ((List ab)))×(ah->Int->Option ((List ab)))×(ah->Int->Option ((List ab)))
 | 0=>((λ_ _=>none),(λ_ _=>none),(λ_ _=>none),(λ_ _=>none))
 | k+1=>(ff k (aP k).1 (aP k).2.1 (aP k).2.2.1 (aP k).2.2.2,cY k (aP k).1 (aP k).2.1 (aP k).2.2.1 (aP k).2.2.2,ie k (aP k).1 (aP k).2.1 (aP k).2.2.1 (aP k).2.2.2,dW k (aP k).1 (aP k).2.1 (aP k).2.2.1 (aP k).2.2.2)
def bO (k:Nat):List ah->Int->Option ((List ab)):=(aP k).1
def cj (k:Nat):ah->Int->Option ((List ab)):=(aP k).2.1
def f7 (k:Nat):ah->Int->Option ((List ab)):=(aP k).2.2.1
def cT (k:Nat):ah->Int->Option ((List ab)):=(aP k).2.2.2
def cK (k:Nat) (a0:List ah):Option ((List ab)×Bool):=
(cB k a0).bind λy1 =>
sel (!y1) (some ([],false)) <|
(bO k a0 0).bind λy2 =>
(app 40 y2 [(ab.mk 10 0 0 0 0)]).bind λr1 =>
some (r1,true)
def eu (a0:aA) (k:Nat) (s1:(List (List ab))×Int):Option (((List (List ab))×Int)⊕((List (List ab)))):=
sel (decide (s1.2<(a0.Tasks.length:Int))) ((nth a0.Tasks s1.2).bind λx1 =>
(cK k x1).bind λy5 =>
(app 24 s1.1 [y5.1]).bind λr1 =>
some (.inl (r1,w64 (s1.2+1)))) <|
some (.inr s1.1)
def c9 (k:Nat) (a0:aA):Option ((List (List ab))×Bool):=
(fT k (aA.mk a0.Rooms a0.Tasks)).bind λy1 =>
sel (!y1) (some ([],false)) <|
(aO (eu a0 k) ([],0)).bind λy2 =>
some (y2,true)
def ju (a0:Int) (a1:Bool):Option (Bool):=
sel a1 ((aY a0 0 11).bind λy1 =>
some y1) <|
some (a0==0)
def cl (a0:ab) (a1:Bool) (a2:Bool) (a3:Bool):Option (Bool):=
(ju a0.Dst a1).bind λy1 =>
(sel y1 ((ju a0.A a2).bind λy2=>some y2) (some false):Option (Bool)).bind λb1 =>
(sel b1 ((ju a0.B a3).bind λy3=>some y3) (some false):Option (Bool)).bind λb2 =>
some b2
def bR (a0:Int):Option (Bool):=
(aY a0 (-2147483648) 2147483647).bind λy1 =>
some y1
def fg (a0:ab) (a1:Int):Option (Bool):=
sel (a0.Op==1) ((cl a0 true false false).bind λy1 =>
(sel y1 ((bR a0.N).bind λy2=>some y2) (some false):Option (Bool)).bind λb1 =>
some b1) <|
sel (a0.Op==2) ((cl a0 true true false).bind λy3 =>
some (y3&&(a0.N==0))) <|
sel (a0.Op==3) ((cl a0 true true true).bind λy4 =>
(sel y4 ((et a0.N).bind λy5=>some y5) (some false):Option (Bool)).bind λb2 =>
some b2) <|
sel (a0.Op==4) ((cl a0 false false false).bind λy6 =>
some ((y6&&(decide (a0.N>=0)))&&(decide (a0.N<a1)))) <|
sel (a0.Op==5) ((cl a0 false true false).bind λy7 =>
some ((y7&&(decide (a0.N>=0)))&&(decide (a0.N<a1)))) <|
sel (a0.Op==6) ((cl a0 false true false).bind λy8 =>
(sel y8 ((aY a0.N 0 2).bind λy9=>some y9) (some false):Option (Bool)).bind λb3 =>
some b3) <|
sel (a0.Op==7) ((cl a0 true false false).bind λy10 =>
(sel y10 ((aY a0.N 0 2).bind λy11=>some y11) (some false):Option (Bool)).bind λb4 =>
some b4) <|
sel (a0.Op==9) ((cl a0 false true false).bind λy12 =>
some (y12&&(a0.N==0))) <|
(sel (a0.Op==8) (some (a0.Op==8)) <|
some (a0.Op==10):Option (Bool)).bind λy13 =>
sel y13 ((cl a0 false false false).bind λy14 =>
some (y14&&(a0.N==0))) <|
some false
def lO (a0:List ab) (s1:Int):Option (Int⊕(Bool⊕Unit)):=
sel (decide (s1<(a0.length:Int))) ((nth a0 s1).bind λx1 =>
(fg x1 (a0.length:Int)).bind λy5 =>
sel (!y5) (some (.inr (.inl false))) <|
some (.inl (w64 (s1+1)))) <|
some (.inr (.inr ()))
def aV (a0:List ab):Option (Bool):=
(aY (a0.length:Int) 1 600).bind λy1 =>
sel (!y1) (some false) <|
(aO (lO a0) 0).bind λy2 =>
kV y2 (λo3=>some o3) (λo4 =>
(nth a0 (w64 ((a0.length:Int)-1))).bind λx2 =>
(sel (x2.Op==10) (some true) ((nth a0 (w64 ((a0.length:Int)-1))).bind λx3=>some (x3.Op==4)):Option (Bool)).bind λb1 =>
some b1)
def dC (a0:List ab) (a1:Int):Option ((List Int)):=
(nth a0 a1).bind λx1 =>
sel (x1.Op==10) (some []) <|
sel (x1.Op==4) (some [x1.N]) <|
sel ((x1.Op==5)&&(decide (x1.N<(w64 (a1+1))))) (some [x1.N,w64 (a1+1)]) <|
sel ((x1.Op==5)&&(decide (x1.N>(w64 (a1+1))))) (some [w64 (a1+1),x1.N]) <|
some [w64 (a1+1)]
def f9 (a0:List ab) (a1:List aj) (a2:Int):Option ((List Int)):=
(nth a0 a2).bind λx1 =>
(sel (x1.Op !=5) (some true) ((nth a1 x1.A).bind λx2=>some (x2.Kind !=1)):Option (Bool)).bind λb1 =>
sel b1 ((dC a0 a2).bind λy1 =>
some y1) <|
(nth a1 x1.A).bind λx3 =>
sel (x3.N==0) (some [x1.N]) <|
some [w64 (a2+1)]
def du (a0:Int):Option (Int):=
sel (decide ((Int.tmod a0 4294967296)>2147483647)) (some (w64 ((Int.tmod a0 4294967296)-4294967296))) <|
sel (decide ((Int.tmod a0 4294967296)<(-2147483648))) (some (w64 ((Int.tmod a0 4294967296)+4294967296))) <|
some (Int.tmod a0 4294967296)
def lr (a0:Bool):Option (Int):=
sel a0 (some 1) <|
some 0
def ig (a0:Int) (a1:Int) (a2:Bool):Option (Int):=
sel a2 ((shO .shr .i64 a0 (bA .and .i64 a1 31)).bind λd1 =>
some d1) <|
(shO .shl .i64 a0 (bA .and .i64 a1 31)).bind λd2 =>
(du d2).bind λy1 =>
some y1
def kz (a0:Int) (a1:Int):Option (Int):=
sel (a1==0) (some (-1)) <|
(sS .i64 a0 a1).bind λd1 =>
(du d1).bind λy1 =>
some y1
def kA (a0:Int) (a1:Int):Option (Int):=
sel (a1==0) (some a0) <|
(q8 a0 a1).bind λd1 =>
some d1
def jv (a0:Int) (a1:Int) (a2:Int):Option (Int×Bool):=
(et a0).bind λy1 =>
(sel (!y1) (some true) ((bR a1).bind λy2=>some (!y2)):Option (Bool)).bind λb1 =>
(sel b1 (some true) ((bR a2).bind λy3=>some (!y3)):Option (Bool)).bind λb2 =>
sel b2 (some (0,false)) <|
sel (a0==1) (some (bA .or .i64 a1 a2,true)) <|
sel (a0==2) (some (bA .xor .i64 a1 a2,true)) <|
sel (a0==3) (some (bA .and .i64 a1 a2,true)) <|
sel (a0==4) ((lr (a1==a2)).bind λy4 =>
some (y4,true)) <|
sel (a0==5) ((lr (decide (a1<a2))).bind λy5 =>
some (y5,true)) <|
sel (a0==6) ((ig a1 a2 false).bind λy6 =>
some (y6,true)) <|
sel (a0==7) ((ig a1 a2 true).bind λy7 =>
some (y7,true)) <|
sel (a0==8) ((du (w64 (a1+a2))).bind λy8 =>
some (y8,true)) <|
sel (a0==9) ((du (w64 (a1-a2))).bind λy9 =>
some (y9,true)) <|
sel (a0==10) ((du (w64 (a1*a2))).bind λy10 =>
some (y10,true)) <|
sel (a0==11) ((kz a1 a2).bind λy11 =>
some (y11,true)) <|
(kA a1 a2).bind λy12 =>
some (y12,true)
def cw (a0:ab) (a1:aj) (a2:aj):Option (aj):=
sel ((a1.Kind !=1)||(a2.Kind !=1)) (some (aj.mk 2 0)) <|
(jv a0.N a1.N a2.N).bind λy1 =>
some (aj.mk 1 y1.1)
def ga (a0:ab) (a1:List aj):Option ((List aj)):=
(app 16 [] a1).bind λr1 =>
sel (a0.Op==1) ((nth r1 a0.Dst).bind λx1 =>
(upd r1 a0.Dst (aj.mk 1 a0.N)).bind λr2 =>
some r2) <|
sel (a0.Op==2) ((nth a1 a0.A).bind λx2 =>
(nth r1 a0.Dst).bind λx3 =>
(upd r1 a0.Dst x2).bind λr3 =>
some r3) <|
sel (a0.Op==7) ((nth r1 a0.Dst).bind λx4 =>
(upd r1 a0.Dst (aj.mk 2 0)).bind λr4 =>
some r4) <|
sel (a0.Op==3) ((nth a1 a0.A).bind λx5 =>
(nth a1 a0.B).bind λx6 =>
(cw a0 x5 x6).bind λy1 =>
(nth r1 a0.Dst).bind λx7 =>
(upd r1 a0.Dst y1).bind λr5 =>
some r5) <|
some r1
def ij (a0:aj) (a1:aj):Option (aj):=
sel (a0.Kind==0) (some a1) <|
sel ((a1.Kind==0)||((a0.Kind==a1.Kind)&&((a0.N==a1.N)&&true))) (some a0) <|
some (aj.mk 2 0)
def jM (a1:Int) (a2:List aj) (s1:Bool×Int×(List (List aj))):Option ((Bool×Int×(List (List aj)))⊕(Bool×(List (List aj)))):=
sel (decide (s1.2.1<12)) (((nth s1.2.2 a1).bind λx1 =>
(nth x1 s1.2.1).bind λx4 =>
(nth a2 s1.2.1).bind λx5 =>
(ij x4 x5).bind λy6 =>
(nth s1.2.2 a1).bind λx6 =>
(nth x6 s1.2.1).bind λx8 =>
sel (!((y6.Kind==x8.Kind)&&((y6.N==x8.N)&&true))) ((nth x6 s1.2.1).bind λx9 =>
(upd x6 s1.2.1 y6).bind λr1 =>
some (true,(s1.2.2.set (Int.toNat a1) r1))) <|
some (s1.1,s1.2.2):Option (Bool×(List (List aj)))).bind λy4 =>
some (.inl (y4.1,w64 (s1.2.1+1),y4.2))) <|
some (.inr (s1.1,s1.2.2))
def gb (a0:List (List aj)) (a1:Int) (a2:List aj):Option (Bool×(List (List aj))):=
(aO (jM a1 a2) (false,0,a0)).bind λy1 =>
some (y1.1,y1.2)
def jN (y5:(List Int)) (y6:(List aj)) (s2:Bool×Int×(List (List aj))):Option ((Bool×Int×(List (List aj)))⊕(Bool×(List (List aj)))):=
sel (decide (s2.2.1<(y5.length:Int))) (((nth y5 s2.2.1).bind λx4 =>
(gb s2.2.2 x4 y6).bind λy11 =>
sel y11.1 (some (true,y11.2)) <|
some (s2.1,y11.2):Option (Bool×(List (List aj)))).bind λy10 =>
some (.inl (y10.1,w64 (s2.2.1+1),y10.2))) <|
some (.inr (s2.1,s2.2.2))
def jO (a0:List ab) (s1:Bool×Int×(List (List aj))):Option ((Bool×Int×(List (List aj)))⊕(Bool×(List (List aj)))):=
sel (decide (s1.2.1<(a0.length:Int))) (((nth s1.2.2 s1.2.1).bind λx1 =>
(nth x1 0).bind λx2 =>
sel (x2.Kind==0) (some (s1.1,s1.2.2)) <|
(f9 a0 x1 s1.2.1).bind λy5 =>
(nth a0 s1.2.1).bind λx3 =>
(ga x3 x1).bind λy6 =>
(aO (jN y5 y6) (s1.1,0,s1.2.2)).bind λy7 =>
some (y7.1,y7.2):Option (Bool×(List (List aj)))).bind λy4 =>
some (.inl (y4.1,w64 (s1.2.1+1),y4.2))) <|
some (.inr (s1.1,s1.2.2))
def gc (a0:List ab) (a1:List (List aj)):Option (Bool×(List (List aj))):=
(aO (jO a0) (false,0,a1)).bind λy1 =>
some (y1.1,y1.2)
def kK (a0:List ab) (s1:(List (List aj))×Int):Option (((List (List aj))×Int)⊕((List (List aj)))):=
sel (decide (s1.2<(a0.length:Int))) ((mk 16 12 (aj.mk 0 0)).bind λr1 =>
(app 24 s1.1 [r1]).bind λr2 =>
some (.inl (r2,w64 (s1.2+1)))) <|
some (.inr s1.1)
def kL (s2:Int×(List (List aj))):Option ((Int×(List (List aj)))⊕((List (List aj)))):=
sel (decide (s2.1<12)) ((nth s2.2 0).bind λx1 =>
(nth x1 s2.1).bind λx2 =>
(upd x1 s2.1 (aj.mk 1 0)).bind λr3 =>
some (.inl (w64 (s2.1+1),(s2.2.set (Int.toNat 0) r3)))) <|
some (.inr s2.2)
def kM (a0:List ab) (s3:(List (List aj))):Option (((List (List aj)))⊕((List (List aj)))):=
(gc a0 s3).bind λy11 =>
sel y11.1 (some (.inl y11.2)) <|
some (.inr y11.2)
def fU (a0:List ab):Option ((List (List aj))):=
(aV a0).bind λy1 =>
sel (!y1) (some []) <|
(aO (kK a0) ([],0)).bind λy2 =>
(aO (kL) (0,y2)).bind λy5 =>
(aO (kM a0) y5).bind λy8 =>
some y8
def gf (a0:aj) (a1:Int):Option (Bool):=
some ((a0.Kind==1)&&(a0.N==a1))
def nv (a0:List Int) (a1:Int) (s1:Int):Option (Int⊕(Bool⊕Unit)):=
sel (decide (s1<(a0.length:Int))) ((nth a0 s1).bind λx1 =>
sel (x1==a1) (some (.inr (.inl true))) <|
some (.inl (w64 (s1+1)))) <|
some (.inr (.inr ()))
def mI (a0:List Int) (a1:Int):Option (Bool):=
(aO (nv a0 a1) 0).bind λy1 =>
kV y1 (λo3=>some o3) (λo4 =>
some false)
def fV (a0:Int) (a1:List Int):Option (Bool):=
(mI a1 a0).bind λy1 =>
some y1
def jw (a0:ab) (a1:aj) (a2:aj):Option (ab):=
(cw a0 a1 a2).bind λy1 =>
sel (y1.Kind==1) (some (ab.mk 1 a0.Dst 0 0 y1.N)) <|
(gf a2 0).bind λy2 =>
(sel y2 ((fV a0.N [1,2,6,7,8,9]).bind λy3=>some y3) (some false):Option (Bool)).bind λb1 =>
sel b1 (some (ab.mk 2 a0.Dst a0.A 0 0)) <|
(gf a2 1).bind λy4 =>
(sel y4 ((fV a0.N [10,11]).bind λy5=>some y5) (some false):Option (Bool)).bind λb2 =>
sel b2 (some (ab.mk 2 a0.Dst a0.A 0 0)) <|
(gf a1 0).bind λy6 =>
(sel y6 ((fV a0.N [1,2,8]).bind λy7=>some y7) (some false):Option (Bool)).bind λb3 =>
sel b3 (some (ab.mk 2 a0.Dst a0.B 0 0)) <|
(gf a1 1).bind λy8 =>
sel (y8&&(a0.N==10)) (some (ab.mk 2 a0.Dst a0.B 0 0)) <|
(gf a1 0).bind λy9 =>
(sel y9 (some true) ((gf a2 0).bind λy10=>some y10):Option (Bool)).bind λb4 =>
(sel b4 ((fV a0.N [3,10]).bind λy11=>some y11) (some false):Option (Bool)).bind λb5 =>
sel b5 (some (ab.mk 1 a0.Dst 0 0 0)) <|
some a0
def ew (a0:ab) (a1:List aj) (a2:Int):Option (ab):=
(nth a1 0).bind λx1 =>
sel (x1.Kind==0) (some a0) <|
sel (a0.Op==2) ((nth a1 a0.A).bind λx2 =>
sel (x2.Kind==1) ((nth a1 a0.A).bind λx3 =>
some (ab.mk 1 a0.Dst 0 0 x3.N)) <|
some a0) <|
sel (a0.Op==3) ((nth a1 a0.A).bind λx4 =>
(nth a1 a0.B).bind λx5 =>
(jw a0 x4 x5).bind λy1 =>
some y1) <|
sel (a0.Op==5) ((nth a1 a0.A).bind λx6 =>
(gf x6 0).bind λy2 =>
sel y2 (some (ab.mk 4 0 0 0 a0.N)) <|
(nth a1 a0.A).bind λx7 =>
sel (x7.Kind==1) (some (ab.mk 4 0 0 0 (w64 (a2+1)))) <|
some a0) <|
some a0
def dv (a0:List ab) (y2:(List (List aj))) (s1:(List ab)×Int):Option (((List ab)×Int)⊕((List ab))):=
sel (decide (s1.2<(a0.length:Int))) ((nth y2 s1.2).bind λx1 =>
(nth a0 s1.2).bind λx3 =>
(ew x3 x1 s1.2).bind λy7 =>
(app 40 s1.1 [y7]).bind λr2 =>
some (.inl (r2,w64 (s1.2+1)))) <|
some (.inr s1.1)
def gg (a0:List ab):Option ((List ab)×Bool):=
(aV a0).bind λy1 =>
sel (!y1) (some ([],false)) <|
(fU a0).bind λy2 =>
(aO (dv a0 y2) ([],0)).bind λy3 =>
some (y3,true)
def kN (s1:(List Int)×Int):Option (((List Int)×Int)⊕((List Int))):=
sel (decide (s1.2<12)) ((app 8 s1.1 [s1.2]).bind λr1 =>
some (.inl (r1,w64 (s1.2+1)))) <|
some (.inr s1.1)
def fW:Option ((List Int)):=
(aO (kN) ([],0)).bind λy1 =>
some y1
def cy (a0:ab):Option (Int):=
(fg a0 600).bind λy1 =>
sel (!y1) (some (-1)) <|
(sel (a0.Op==1) (some (a0.Op==1)) <|
sel (a0.Op==2) (some (a0.Op==2)) <|
sel (a0.Op==3) (some (a0.Op==3)) <|
some (a0.Op==7):Option (Bool)).bind λy2 =>
sel y2 (some a0.Dst) <|
some (-1)
def jP (y1:Int) (s1:Int×(List Int)):Option ((Int×(List Int))⊕((List Int))):=
sel (decide (s1.1<12)) (((nth s1.2 s1.1).bind λx1 =>
sel (x1==y1) ((nth s1.2 s1.1).bind λx2 =>
(upd s1.2 s1.1 s1.1).bind λr2 =>
some r2) <|
some s1.2:Option ((List Int))).bind λy5 =>
some (.inl (w64 (s1.1+1),y5))) <|
some (.inr s1.2)
def gh (a0:ab) (a1:List Int):Option ((List Int)):=
(app 8 [] a1).bind λr1 =>
(cy a0).bind λy1 =>
sel (decide (y1<0)) (some r1) <|
(aO (jP y1) (0,r1)).bind λy2 =>
(nth y2 y1).bind λx3 =>
(upd y2 y1 y1).bind λr3 =>
sel (a0.Op==2) ((nth r3 y1).bind λx4 =>
(upd r3 y1 a0.A).bind λr4 =>
some r4) <|
some r3
def jQ (a1:Int) (a2:List Int) (s1:Bool×Int×(List (List Int))):Option ((Bool×Int×(List (List Int)))⊕(Bool×(List (List Int)))):=
sel (decide (s1.2.1<12)) (((nth s1.2.2 a1).bind λx2 =>
(nth x2 s1.2.1).bind λx6 =>
(sel (x6 !=s1.2.1) ((nth x2 s1.2.1).bind λb_1=>(nth a2 s1.2.1).bind λb_2=>some (b_1 !=b_2)) (some false)).bind λb2 =>
sel b2 ((nth s1.2.2 a1).bind λx9 =>
(nth x9 s1.2.1).bind λx10 =>
(upd x9 s1.2.1 s1.2.1).bind λr2 =>
some (true,(s1.2.2.set (Int.toNat a1) r2))) <|
some (s1.1,s1.2.2):Option (Bool×(List (List Int)))).bind λy4 =>
some (.inl (y4.1,w64 (s1.2.1+1),y4.2))) <|
some (.inr (s1.1,s1.2.2))
def gi (a0:List (List Int)) (a1:Int) (a2:List Int):Option (Bool×(List (List Int))):=
(nth a0 a1).bind λx1 =>
sel ((x1.length:Int)==0) ((app 8 [] a2).bind λr1 =>
some (true,(a0.set (Int.toNat a1) r1))) <|
(aO (jQ a1 a2) (false,0,a0)).bind λy1 =>
some (y1.1,y1.2)
def jR (y5:(List Int)) (y6:(List Int)) (s2:Bool×Int×(List (List Int))):Option ((Bool×Int×(List (List Int)))⊕(Bool×(List (List Int)))):=
sel (decide (s2.2.1<(y5.length:Int))) (((nth y5 s2.2.1).bind λx3 =>
(gi s2.2.2 x3 y6).bind λy11 =>
sel y11.1 (some (true,y11.2)) <|
some (s2.1,y11.2):Option (Bool×(List (List Int)))).bind λy10 =>
some (.inl (y10.1,w64 (s2.2.1+1),y10.2))) <|
some (.inr (s2.1,s2.2.2))
def jS (a0:List ab) (s1:Bool×Int×(List (List Int))):Option ((Bool×Int×(List (List Int)))⊕(Bool×(List (List Int)))):=
sel (decide (s1.2.1<(a0.length:Int))) (((nth s1.2.2 s1.2.1).bind λx1 =>
sel ((x1.length:Int)==0) (some (s1.1,s1.2.2)) <|
(dC a0 s1.2.1).bind λy5 =>
(nth a0 s1.2.1).bind λx2 =>
(gh x2 x1).bind λy6 =>
(aO (jR y5 y6) (s1.1,0,s1.2.2)).bind λy7 =>
some (y7.1,y7.2):Option (Bool×(List (List Int)))).bind λy4 =>
some (.inl (y4.1,w64 (s1.2.1+1),y4.2))) <|
some (.inr (s1.1,s1.2.2))
def gj (a0:List ab) (a1:List (List Int)):Option (Bool×(List (List Int))):=
(aO (jS a0) (false,0,a1)).bind λy1 =>
some (y1.1,y1.2)
def jT (a0:List ab) (s1:(List (List Int))×Int):Option (((List (List Int))×Int)⊕((List (List Int)))):=
sel (decide (s1.2<(a0.length:Int))) ((app 24 s1.1 [[]]).bind λr1 =>
some (.inl (r1,w64 (s1.2+1)))) <|
some (.inr s1.1)
def jU (a0:List ab) (s2:(List (List Int))):Option (((List (List Int)))⊕((List (List Int)))):=
(gj a0 s2).bind λy9 =>
sel y9.1 (some (.inl y9.2)) <|
some (.inr y9.2)
def jV (a0:List ab) (s3:Int×(List (List Int))):Option ((Int×(List (List Int)))⊕((List (List Int)))):=
sel (decide (s3.1<(a0.length:Int))) (((nth s3.2 s3.1).bind λx2 =>
sel ((x2.length:Int)==0) ((fW).bind λy14 =>
some (s3.2.set (Int.toNat s3.1) y14)) <|
some s3.2:Option ((List (List Int)))).bind λy13 =>
some (.inl (w64 (s3.1+1),y13))) <|
some (.inr s3.2)
def eN (a0:List ab):Option ((List (List Int))):=
(aV a0).bind λy1 =>
sel (!y1) (some []) <|
(aO (jT a0) ([],0)).bind λy2 =>
(fW).bind λy5 =>
(nth y2 0).bind λx1 =>
(aO (jU a0) (y2.set (Int.toNat 0) y5)).bind λy6 =>
(aO (jV a0) (0,y6)).bind λy10 =>
some y10
def ik (a0:ab) (a1:List Int):Option (ab):=
(sel (a0.Op==2) (some (a0.Op==2)) <|
sel (a0.Op==5) (some (a0.Op==5)) <|
sel (a0.Op==6) (some (a0.Op==6)) <|
some (a0.Op==9):Option (Bool)).bind λy1 =>
sel y1 ((nth a1 a0.A).bind λx1 =>
some (ab.mk a0.Op a0.Dst x1 a0.B a0.N)) <|
sel (a0.Op==3) ((nth a1 a0.A).bind λx2 =>
(nth a1 a0.B).bind λx3 =>
some (ab.mk a0.Op a0.Dst x2 x3 a0.N)) <|
some a0
def dw (a0:List ab) (y2:(List (List Int))) (s1:(List ab)×Int):Option (((List ab)×Int)⊕((List ab))):=
sel (decide (s1.2<(a0.length:Int))) ((nth y2 s1.2).bind λx1 =>
(nth a0 s1.2).bind λx3 =>
(ik x3 x1).bind λy7 =>
(app 40 s1.1 [y7]).bind λr2 =>
some (.inl (r2,w64 (s1.2+1)))) <|
some (.inr s1.1)
def gk (a0:List ab):Option ((List ab)×Bool):=
(aV a0).bind λy1 =>
sel (!y1) (some ([],false)) <|
(eN a0).bind λy2 =>
(aO (dw a0 y2) ([],0)).bind λy3 =>
some (y3,true)
def lP (a0:List ab) (s1:Int×Int):Option ((Int×Int)⊕(Int⊕Unit)):=
sel (decide (s1.2<(a0.length:Int))) ((nth a0 s1.1).bind λx1 =>
sel (x1.Op !=4) (some (.inr (.inl s1.1))) <|
(nth a0 s1.1).bind λx2 =>
some (.inl (x2.N,w64 (s1.2+1)))) <|
some (.inr (.inr ()))
def fh (a0:List ab) (a1:Int):Option (Int):=
(aO (lP a0) (a1,0)).bind λy1 =>
kV y1 (λo3=>some o3) (λo4 =>
some a1)
def dx (a0:List ab) (s1:(List ab)×Int):Option (((List ab)×Int)⊕((List ab))):=
sel (decide (s1.2<(a0.length:Int))) ((nth a0 s1.2).bind λx1 =>
(sel ((x1.Op==4)||(x1.Op==5)) ((fh a0 x1.N).bind λy6 =>
some (ab.mk x1.Op x1.Dst x1.A x1.B y6)) <|
some x1:Option (ab)).bind λy5 =>
(app 40 s1.1 [y5]).bind λr1 =>
some (.inl (r1,w64 (s1.2+1)))) <|
some (.inr s1.1)
def gm (a0:List ab):Option ((List ab)×Bool):=
(aV a0).bind λy1 =>
sel (!y1) (some ([],false)) <|
(aO (dx a0) ([],0)).bind λy2 =>
some (y2,true)
def ms (a1:List (List Bool)) (y1:(List Int)) (s1:Int×(List Bool)) (s2:Int×(List Bool)):Option ((Int×(List Bool))⊕((List Bool))):=
sel (decide (s2.1<12)) ((nth s2.2 s2.1).bind λx1 =>
(sel x1 (some true) ((nth y1 s1.1).bind λx2=>(nth a1 x2).bind λx3=>(nth x3 s2.1).bind λx4=>some x4):Option (Bool)).bind λb1 =>
(nth s2.2 s2.1).bind λx5 =>
(upd s2.2 s2.1 b1).bind λr2 =>
some (.inl (w64 (s2.1+1),r2))) <|
some (.inr s2.2)
def mt (a1:List (List Bool)) (y1:(List Int)) (s1:Int×(List Bool)):Option ((Int×(List Bool))⊕((List Bool))):=
sel (decide (s1.1<(y1.length:Int))) ((aO (ms a1 y1 s1) (0,s1.2)).bind λy5 =>
some (.inl (w64 (s1.1+1),y5))) <|
some (.inr s1.2)
def gn (a0:List ab) (a1:List (List Bool)) (a2:Int):Option ((List Bool)):=
(mk 1 12 false).bind λr1 =>
(dC a0 a2).bind λy1 =>
(aO (mt a1 y1) (0,r1)).bind λy2 =>
some y2
def kB (a0:ab):Option ((List Int)):=
(fg a0 600).bind λy1 =>
sel (!y1) (some []) <|
(sel (a0.Op==2) (some (a0.Op==2)) <|
sel (a0.Op==5) (some (a0.Op==5)) <|
sel (a0.Op==6) (some (a0.Op==6)) <|
some (a0.Op==9):Option (Bool)).bind λy2 =>
sel y2 (some [a0.A]) <|
sel (a0.Op==3) (sel (a0.A==a0.B) (some [a0.A]) <|
some [min a0.A a0.B,max a0.A a0.B]) <|
some []
def lQ (y4:(List Int)) (s1:Int×(List Bool)):Option ((Int×(List Bool))⊕((List Bool))):=
sel (decide (s1.1<(y4.length:Int))) ((nth y4 s1.1).bind λx2 =>
(nth s1.2 x2).bind λx3 =>
(upd s1.2 x2 true).bind λr3 =>
some (.inl (w64 (s1.1+1),r3))) <|
some (.inr s1.2)
def jx (a0:ab) (a1:List Bool):Option ((List Bool)):=
(app 1 [] a1).bind λr1 =>
((cy a0).bind λy2 =>
sel (decide (y2>=0)) ((cy a0).bind λy3 =>
(nth r1 y3).bind λx1 =>
(upd r1 y3 false).bind λr2 =>
some r2) <|
some r1:Option ((List Bool))).bind λy1 =>
(kB a0).bind λy4 =>
(aO (lQ y4) (0,y1)).bind λy5 =>
some y5
def mQ (a0:List Bool) (a1:List Bool) (s1:Int):Option (Int⊕(Bool⊕Unit)):=
sel (decide (s1<(a0.length:Int))) ((nth a0 s1).bind λx1 =>
(nth a1 s1).bind λx2 =>
sel (x1 !=x2) (some (.inr (.inl false))) <|
some (.inl (w64 (s1+1)))) <|
some (.inr (.inr ()))
def lR (a0:List Bool) (a1:List Bool):Option (Bool):=
(aO (mQ a0 a1) 0).bind λy1 =>
kV y1 (λo3=>some o3) (λo4 =>
some ((a0.length:Int)==(a1.length:Int)))
def eV (a0:List ab) (s1:Bool×Int×(List (List Bool))):Option ((Bool×Int×(List (List Bool)))⊕(Bool×(List (List Bool)))):=
sel (decide (s1.2.1>=0)) (((nth a0 s1.2.1).bind λx1 =>
(gn a0 s1.2.2 s1.2.1).bind λy5 =>
(jx x1 y5).bind λy6 =>
(nth s1.2.2 s1.2.1).bind λx2 =>
(lR y6 x2).bind λy7 =>
sel (!y7) (some (true,(s1.2.2.set (Int.toNat s1.2.1) y6))) <|
some (s1.1,s1.2.2):Option (Bool×(List (List Bool)))).bind λy4 =>
some (.inl (y4.1,w64 (s1.2.1-1),y4.2))) <|
some (.inr (s1.1,s1.2.2))
def dD (a0:List ab) (a1:List (List Bool)):Option (Bool×(List (List Bool))):=
(aO (eV a0) (false,w64 ((a0.length:Int)-1),a1)).bind λy1 =>
some (y1.1,y1.2)
def jy (a0:List ab) (s1:(List (List Bool))×Int):Option (((List (List Bool))×Int)⊕((List (List Bool)))):=
sel (decide (s1.2<(a0.length:Int))) ((mk 1 12 false).bind λr1 =>
(app 24 s1.1 [r1]).bind λr2 =>
some (.inl (r2,w64 (s1.2+1)))) <|
some (.inr s1.1)
def bS (a0:List ab) (s2:(List (List Bool))):Option (((List (List Bool)))⊕((List (List Bool)))):=
(dD a0 s2).bind λy8 =>
sel y8.1 (some (.inl y8.2)) <|
some (.inr y8.2)
def eO (a0:List ab):Option ((List (List Bool))):=
(aV a0).bind λy1 =>
sel (!y1) (some []) <|
(aO (jy a0) ([],0)).bind λy2 =>
(aO (bS a0) y2).bind λy5 =>
some y5
def il (a0:ab) (a1:List Bool):Option (Bool):=
(sel (a0.Op==1) (some (a0.Op==1)) <|
sel (a0.Op==2) (some (a0.Op==2)) <|
some (a0.Op==3):Option (Bool)).bind λy1 =>
sel y1 ((nth a1 a0.Dst).bind λx1 =>
some (!x1)) <|
some false
def dy (a0:List ab) (y2:(List (List Bool))) (s1:(List ab)×Int):Option (((List ab)×Int)⊕((List ab))):=
sel (decide (s1.2<(a0.length:Int))) ((nth a0 s1.2).bind λx1 =>
((gn a0 y2 s1.2).bind λy7 =>
(il x1 y7).bind λy8 =>
sel y8 (some (ab.mk 4 0 0 0 (w64 (s1.2+1)))) <|
some x1:Option (ab)).bind λy6 =>
(app 40 s1.1 [y6]).bind λr1 =>
some (.inl (r1,w64 (s1.2+1)))) <|
some (.inr s1.1)
def gp (a0:List ab):Option ((List ab)×Bool):=
(aV a0).bind λy1 =>
sel (!y1) (some ([],false)) <|
(eO a0).bind λy2 =>
(aO (dy a0 y2) ([],0)).bind λy3 =>
some (y3,true)
def i4 (y5:(List Int)) (s2:Bool×Int×(List Bool)):Option ((Bool×Int×(List Bool))⊕(Bool×(List Bool))):=
sel (decide (s2.2.1<(y5.length:Int))) (((nth y5 s2.2.1).bind λx2 =>
(nth s2.2.2 x2).bind λx3 =>
sel (!x3) ((nth y5 s2.2.1).bind λx4 =>
(nth s2.2.2 x4).bind λx5 =>
(upd s2.2.2 x4 true).bind λr1 =>
some (true,r1)) <|
some (s2.1,s2.2.2):Option (Bool×(List Bool))).bind λy9 =>
some (.inl (y9.1,w64 (s2.2.1+1),y9.2))) <|
some (.inr (s2.1,s2.2.2))
def i5 (a0:List ab) (s1:Bool×Int×(List Bool)):Option ((Bool×Int×(List Bool))⊕(Bool×(List Bool))):=
sel (decide (s1.2.1<(a0.length:Int))) (((nth s1.2.2 s1.2.1).bind λx1 =>
sel (!x1) (some (s1.1,s1.2.2)) <|
(dC a0 s1.2.1).bind λy5 =>
(aO (i4 y5) (s1.1,0,s1.2.2)).bind λy6 =>
some (y6.1,y6.2):Option (Bool×(List Bool))).bind λy4 =>
some (.inl (y4.1,w64 (s1.2.1+1),y4.2))) <|
some (.inr (s1.1,s1.2.2))
def fi (a0:List ab) (a1:List Bool):Option (Bool×(List Bool)):=
(aO (i5 a0) (false,0,a1)).bind λy1 =>
some (y1.1,y1.2)
def i6 (a0:List ab) (s1:(List Bool)):Option (((List Bool))⊕((List Bool))):=
(fi a0 s1).bind λy5 =>
sel y5.1 (some (.inl y5.2)) <|
some (.inr y5.2)
def cZ (a0:List ab):Option ((List Bool)):=
(aV a0).bind λy1 =>
sel (!y1) (some []) <|
(mk 1 (a0.length:Int) false).bind λr1 =>
(nth r1 0).bind λx1 =>
(upd r1 0 true).bind λr2 =>
(aO (i6 a0) r2).bind λy2 =>
some y2
def lS (a0:ab) (a1:Int):Option (Bool):=
(sel (a0.Op==4) (some (a0.Op==4)) <|
some (a0.Op==5):Option (Bool)).bind λy1 =>
sel y1 (some (a0.N==(w64 (a1+1)))) <|
sel (a0.Op==2) (some (a0.Dst==a0.A)) <|
some false
def mu (a0:List Bool) (a1:Int) (s1:Int×Int):Option ((Int×Int)⊕Int):=
sel (decide (s1.2<a1)) (((nth a0 s1.2).bind λx1 =>
sel x1 (some (w64 (s1.1+1))) <|
some s1.1:Option (Int)).bind λy4 =>
some (.inl (y4,w64 (s1.2+1)))) <|
some (.inr s1.1)
def kC (a0:List Bool) (a1:Int):Option (Int):=
(aO (mu a0 a1) (0,0)).bind λy1 =>
some y1
def d8 (a0:List ab) (s1:Int×(List Bool)):Option ((Int×(List Bool))⊕((List Bool))):=
sel (decide (s1.1<(a0.length:Int))) ((nth s1.2 s1.1).bind λx1 =>
(sel x1 ((nth a0 s1.1).bind λx2=>(lS x2 s1.1).bind λy6=>some (!y6)) (some false):Option (Bool)).bind λb1 =>
(nth s1.2 s1.1).bind λx3 =>
(upd s1.2 s1.1 b1).bind λr1 =>
some (.inl (w64 (s1.1+1),r1))) <|
some (.inr s1.2)
def d9 (a0:List ab) (y3:(List Bool)) (s2:(List ab)×Int):Option (((List ab)×Int)⊕((List ab))):=
sel (decide (s2.2<(a0.length:Int))) (((nth a0 s2.2).bind λx4 =>
(nth y3 s2.2).bind λx5 =>
sel (!x5) (some s2.1) <|
(sel ((x4.Op==4)||(x4.Op==5)) ((kC y3 x4.N).bind λy12 =>
some (ab.mk x4.Op x4.Dst x4.A x4.B y12)) <|
some x4:Option (ab)).bind λy11 =>
(app 40 s2.1 [y11]).bind λr2 =>
some r2:Option ((List ab))).bind λy10 =>
some (.inl (y10,w64 (s2.2+1)))) <|
some (.inr s2.1)
def dz (a0:List ab):Option ((List ab)×Bool):=
(aV a0).bind λy1 =>
sel (!y1) (some ([],false)) <|
(cZ a0).bind λy2 =>
(aO (d8 a0) (0,y2)).bind λy3 =>
(aO (d9 a0 y3) ([],0)).bind λy7 =>
some (y7,true)
def m9 (a0:List ab):Option ((List ab)):=
(gg a0).bind λy1 =>
(gk y1.1).bind λy2 =>
(gm y2.1).bind λy3 =>
(gp y3.1).bind λy4 =>
(dz y4.1).bind λy5 =>
some y5.1
def bM (a1:Int) (s1:(List ab)×Int):Option (((List ab)×Int)⊕((List ab))):=
sel (decide (s1.2<a1)) ((m9 s1.1).bind λy6 =>
some (.inl (y6,w64 (s1.2+1)))) <|
some (.inr s1.1)
def co (a0:List ab) (a1:Int):Option ((List ab)×Bool):=
(aV a0).bind λy1 =>
(sel (!y1) (some true) ((aY a1 0 4).bind λy2=>some (!y2)):Option (Bool)).bind λb1 =>
sel b1 (some ([],false)) <|
(app 40 [] a0).bind λr1 =>
(aO (bM a1) (r1,0)).bind λy3 =>
some (y3,true)
def da (a0:List (List ab)) (a1:Int) (s1:(List (List ab))×Int):Option (((List (List ab))×Int)⊕(((List (List ab))×Bool)⊕((List (List ab))))):=
sel (decide (s1.2<(a0.length:Int))) ((nth a0 s1.2).bind λx1 =>
(co x1 a1).bind λy5 =>
sel (!y5.2) (some (.inr (.inl ([],false)))) <|
(app 24 s1.1 [y5.1]).bind λr1 =>
some (.inl (r1,w64 (s1.2+1)))) <|
some (.inr (.inr s1.1))
def dA (a0:List (List ab)) (a1:Int):Option ((List (List ab))×Bool):=
(aY (a0.length:Int) 1 3).bind λy1 =>
sel (!y1) (some ([],false)) <|
(aO (da a0 a1) ([],0)).bind λy2 =>
kV y2 (λo3=>some o3) (λo4 =>
some (o4,true))
def mv (a0:List ab) (y1:(List (List Bool))) (s1:(List (List Bool))×Int):Option (((List (List Bool))×Int)⊕((List (List Bool)))):=
sel (decide (s1.2<(a0.length:Int))) ((gn a0 y1 s1.2).bind λy5 =>
(app 24 s1.1 [y5]).bind λr1 =>
some (.inl (r1,w64 (s1.2+1)))) <|
some (.inr s1.1)
def kD (a0:List ab):Option ((List (List Bool))):=
(eO a0).bind λy1 =>
(aO (mv a0 y1) ([],0)).bind λy2 =>
some y2
def iO (a0:ab) (a1:List Bool) (a2:Int) (a3:Int):Option (Bool):=
(cy a0).bind λy1 =>
(sel (y1 !=a2) (some true) ((nth a1 a3).bind λx1=>some (!x1)):Option (Bool)).bind λb1 =>
sel b1 (some false) <|
some ((a0.Op !=2)||(a0.A !=a3))
def mR (a0:List ab) (a1:List (List Bool)) (a2:Int) (a3:Int) (s1:Int):Option (Int⊕(Bool⊕Unit)):=
sel (decide (s1<(a0.length:Int))) ((nth a0 s1).bind λx1 =>
(nth a1 s1).bind λx2 =>
(iO x1 x2 a2 a3).bind λy4 =>
(sel y4 (some true) ((nth a0 s1).bind λb_1=>(nth a1 s1).bind λb_2=>(iO b_1 b_2 a3 a2).bind λb_3=>some b_3)).bind λb1 =>
sel b1 (some (.inr (.inl true))) <|
some (.inl (w64 (s1+1)))) <|
some (.inr (.inr ()))
def lU (a0:List ab) (a1:List (List Bool)) (a2:Int) (a3:Int):Option (Bool):=
sel (a2==a3) (some false) <|
(aO (mR a0 a1 a2 a3) 0).bind λy1 =>
kV y1 (λo3=>some o3) (λo4 =>
some false)
def jW (a0:List ab) (a1:List (List Bool)) (a2:List Int) (s1:Int) (s2:Bool×Int):Option ((Bool×Int)⊕Bool):=
sel (decide (s2.2<(a2.length:Int))) (((nth a2 s2.2).bind λx1 =>
(sel (x1==s1) ((lU a0 a1 s2.2 (a2.length:Int)).bind λy8=>some y8) (some false):Option (Bool)).bind λb1 =>
sel b1 (some false) <|
some s2.1:Option (Bool)).bind λy7 =>
some (.inl (y7,w64 (s2.2+1)))) <|
some (.inr s2.1)
def mw (a0:List ab) (a1:List (List Bool)) (a2:List Int) (s1:Int):Option (Int⊕(Int⊕Unit)):=
sel (decide (s1<(a2.length:Int))) ((aO (jW a0 a1 a2 s1) (true,0)).bind λy4 =>
sel y4 (some (.inr (.inl s1))) <|
some (.inl (w64 (s1+1)))) <|
some (.inr (.inr ()))
def kE (a0:List ab) (a1:List (List Bool)) (a2:List Int):Option (Int):=
(aO (mw a0 a1 a2) 0).bind λy1 =>
kV y1 (λo3=>some o3) (λo4 =>
some (a2.length:Int))
def mx (a0:List ab) (y2:(List (List Bool))) (s1:(List Int)×Int):Option (((List Int)×Int)⊕((List Int))):=
sel (decide (s1.2<12)) ((kE a0 y2 s1.1).bind λy6 =>
(app 8 s1.1 [y6]).bind λr1 =>
some (.inl (r1,w64 (s1.2+1)))) <|
some (.inr s1.1)
def iP (a0:List ab):Option ((List Int)):=
(aV a0).bind λy1 =>
sel (!y1) (some []) <|
(kD a0).bind λy2 =>
(aO (mx a0 y2) ([],0)).bind λy3 =>
some y3
def jz (a0:ab) (a1:List Int):Option (ab):=
((cy a0).bind λy2 =>
sel (decide (y2>=0)) ((nth a1 a0.Dst).bind λx1 =>
some (ab.mk a0.Op x1 a0.A a0.B a0.N)) <|
some a0:Option (ab)).bind λy1 =>
(sel (y1.Op==2) (some (y1.Op==2)) <|
sel (y1.Op==5) (some (y1.Op==5)) <|
sel (y1.Op==6) (some (y1.Op==6)) <|
some (y1.Op==9):Option (Bool)).bind λy3 =>
sel y3 ((nth a1 y1.A).bind λx2 =>
some (ab.mk y1.Op y1.Dst x2 y1.B y1.N)) <|
sel (y1.Op==3) ((nth a1 y1.A).bind λx3 =>
(nth a1 y1.B).bind λx4 =>
some (ab.mk y1.Op y1.Dst x3 x4 y1.N)) <|
some y1
def fX (a0:List ab) (y2:(List Int)) (s1:(List ab)×Int):Option (((List ab)×Int)⊕((List ab))):=
sel (decide (s1.2<(a0.length:Int))) ((nth a0 s1.2).bind λx1 =>
(jz x1 y2).bind λy6 =>
(app 40 s1.1 [y6]).bind λr1 =>
some (.inl (r1,w64 (s1.2+1)))) <|
some (.inr s1.1)
def gL (a0:List ab):Option ((List ab)×Bool):=
(aV a0).bind λy1 =>
sel (!y1) (some ([],false)) <|
(iP a0).bind λy2 =>
(aO (fX a0 y2) ([],0)).bind λy3 =>
some (y3,true)
def im (y2:(List (List ab))×Bool) (s1:(List (List ab))×Int):Option (((List (List ab))×Int)⊕((List (List ab)))):=
sel (decide (s1.2<(y2.1.length:Int))) ((nth y2.1 s1.2).bind λx1 =>
(gL x1).bind λy6 =>
(app 24 s1.1 [y6.1]).bind λr1 =>
some (.inl (r1,w64 (s1.2+1)))) <|
some (.inr s1.1)
def fD (k:Nat) (a0:aA) (a1:Int):Option ((List (List ab))×Bool):=
(c9 k (aA.mk a0.Rooms a0.Tasks)).bind λy1 =>
sel (!y1.2) (some ([],false)) <|
(dA y1.1 a1).bind λy2 =>
sel (!y2.2) (some ([],false)) <|
(aO (im y2) ([],0)).bind λy3 =>
some (y3,true)
def dJ (a0:Int) (a1:Int) (a2:Int):Option (Int):=
sel (decide (a0>=a1)) (some a2) <|
(nth [8,9,18,19,20,21,22,23] a0).bind λx1 =>
some x1
def eP (a0:List Instr) (a1:Int) (a2:Int):Option ((List Instr)):=
sel (decide (a1<a2)) (some a0) <|
(app 40 a0 [(Instr.mk 16 0 2 7 (w64 (4*(w64 (a1-a2)))))]).bind λr1 =>
some r1
def mS (a0:Int) (s1:Int×Int):Option ((Int×Int)⊕Int):=
sel (decide (s1.2<a0)) (some (.inl (w64 (s1.1*2),w64 (s1.2+1)))) <|
some (.inr s1.1)
def c6 (a0:Int):Option (Int):=
(aO (mS a0) (1,0)).bind λy1 =>
some y1
def iE (a0:Int) (a1:Int):Option (Int):=
(aY a1 1 32).bind λy1 =>
(sel (!y1) (some true) ((c6 a1).bind λy2=>(aY a0 0 (w64 (y2-1))).bind λy3=>some (!y3)):Option (Bool)).bind λb1 =>
sel b1 (some 0) <|
(c6 (w64 (a1-1))).bind λy4 =>
sel (decide (a0>=y4)) ((c6 a1).bind λy5 =>
some (w64 (a0-y5))) <|
some a0
def lu (a0:Int) (a1:Int) (a2:Int):Option (Int):=
(aY a0 0 4294967295).bind λy1 =>
(sel (!y1) (some true) ((aY a1 0 31).bind λy2=>some (!y2)):Option (Bool)).bind λb1 =>
(sel b1 (some true) ((aY a2 1 (w64 (32-a1))).bind λy3=>some (!y3)):Option (Bool)).bind λb2 =>
sel b2 (some 0) <|
(c6 a1).bind λy4 =>
(sS .i64 a0 y4).bind λd1 =>
(c6 a2).bind λy5 =>
(q8 d1 y5).bind λd2 =>
some d2
def iQ (a0:Int):Option (Int):=
(bR a0).bind λy1 =>
sel (!y1) (some (-1)) <|
sel (decide (a0<0)) (some (w64 (a0+4294967296))) <|
some a0
def kF (a0:Int) (a1:Int):Option ((List Instr)):=
(aY a1 (-2048) 2047).bind λy1 =>
sel y1 (some [(Instr.mk 12 a0 0 0 a1)]) <|
(iQ a1).bind λy2 =>
(lu y2 0 12).bind λy3 =>
(iE y3 12).bind λy4 =>
(du (w64 (a1-y4))).bind λy5 =>
(iQ y5).bind λy6 =>
(lu y6 12 20).bind λy7 =>
(app 40 [(Instr.mk 19 a0 0 0 y7)] [(Instr.mk 12 a0 a0 0 y4)]).bind λr1 =>
some r1
def eC (a0:Int) (a1:Int) (a2:Int):Option ((List Instr)):=
sel (decide (a0<a1)) (some []) <|
some [(Instr.mk 14 a2 2 0 (w64 (4*(w64 (a0-a1)))))]
def fY (a0:Int) (a1:Int):Option (Instr):=
some (Instr.mk 12 a0 a1 0 0)
def nw (a0:Int):Option (Int):=
(nth [7,8,6,8,11,9,10,1,2,3,4,5] (w64 (a0-1))).bind λx1 =>
some x1
def nQ (a0:ab) (a1:Int):Option ((List Instr)):=
(eC a0.A a1 5).bind λy1 =>
(eC a0.B a1 6).bind λy2 =>
(app 40 y1 y2).bind λr1 =>
(dJ a0.Dst a1 7).bind λy3 =>
(nw a0.N).bind λy4 =>
(dJ a0.A a1 5).bind λy5 =>
(dJ a0.B a1 6).bind λy6 =>
(app 40 r1 [(Instr.mk y4 y3 y5 y6 0)]).bind λr2 =>
(sel (a0.N==4) ((app 40 r2 [(Instr.mk 13 y3 y3 0 1)]).bind λr3 =>
some r3) <|
some r2:Option ((List Instr))).bind λy7 =>
(eP y7 a0.Dst a1).bind λy8 =>
some y8
def na (a0:ab) (a1:Int) (a2:Int):Option ((List Instr)):=
(eC a0.A a1 5).bind λy1 =>
(dJ a0.A a1 5).bind λy2 =>
(app 40 y1 [(Instr.mk 18 0 y2 0 8)]).bind λr1 =>
(app 40 r1 [(Instr.mk 20 0 0 0 (w64 (a2-(w64 (4*(r1.length:Int))))))]).bind λr2 =>
some r2
def eE (a0:List Instr) (a1:Int):Option ((List Instr)):=
(app 40 a0 [(Instr.mk 12 17 0 0 a1)]).bind λr1 =>
(app 40 r1 [(Instr.mk 15 1 0 0 0)]).bind λr2 =>
some r2
def jX (a0:Int) (a1:Int):Option ((List Instr)):=
(eC a0 a1 5).bind λy1 =>
(dJ a0 a1 5).bind λy2 =>
(fY 10 y2).bind λy3 =>
(app 40 y1 [y3]).bind λr1 =>
some r1
def lw (a0:Int):Option (Instr):=
some (Instr.mk 12 11 0 0 a0)
def jY (a0:ab) (a1:Int) (a2:Int):Option ((List Instr)):=
(dJ a0.Dst a1 7).bind λy1 =>
sel (a0.Op==1) ((kF y1 a0.N).bind λy2 =>
(eP y2 a0.Dst a1).bind λy3 =>
some y3) <|
sel (a0.Op==2) ((eC a0.A a1 5).bind λy4 =>
(dJ a0.A a1 5).bind λy5 =>
(fY y1 y5).bind λy6 =>
(app 40 y4 [y6]).bind λr1 =>
(eP r1 a0.Dst a1).bind λy7 =>
some y7) <|
sel (a0.Op==3) ((nQ a0 a1).bind λy8 =>
some y8) <|
sel (a0.Op==4) (some [(Instr.mk 20 0 0 0 a2)]) <|
sel (a0.Op==5) ((na a0 a1 a2).bind λy9 =>
some y9) <|
sel (a0.Op==6) ((jX a0.A a1).bind λy10 =>
(lw a0.N).bind λy11 =>
(app 40 y10 [y11]).bind λr2 =>
(eE r2 1).bind λy12 =>
some y12) <|
sel (a0.Op==7) ((lw a0.N).bind λy13 =>
(eE [y13] 2).bind λy14 =>
(fY y1 10).bind λy15 =>
(app 40 y14 [y15]).bind λr3 =>
(eP r3 a0.Dst a1).bind λy16 =>
some y16) <|
sel (a0.Op==8) ((eE [] 3).bind λy17 =>
some y17) <|
sel (a0.Op==9) ((jX a0.A a1).bind λy18 =>
(eE y18 4).bind λy19 =>
some y19) <|
(eE [] 5).bind λy20 =>
some y20
def lV (a0:List ab) (a1:Int) (s1:(List Int)×Int×Int):Option (((List Int)×Int×Int)⊕((List Int))):=
sel (decide (s1.2.2<(a0.length:Int))) ((app 8 s1.1 [s1.2.1]).bind λr1 =>
(nth a0 s1.2.2).bind λx1 =>
(jY x1 a1 0).bind λy4 =>
some (.inl (r1,w64 (s1.2.1+(y4.length:Int)),w64 (s1.2.2+1)))) <|
some (.inr s1.1)
def jA (a0:List ab) (a1:Int):Option ((List Int)):=
(aO (lV a0 a1) ([],0,0)).bind λy1 =>
some y1
def mT (a0:List ab) (a1:Int) (y1:(List Int)) (s1:(List Instr)×Int):Option (((List Instr)×Int)⊕((List Instr))):=
sel (decide (s1.2<(a0.length:Int))) (((nth a0 s1.2).bind λx1 =>
(sel (x1.Op==4) (some true) ((nth a0 s1.2).bind λx2=>some (x2.Op==5)):Option (Bool)).bind λb1 =>
sel b1 ((nth a0 s1.2).bind λx3 =>
(nth y1 x3.N).bind λx4 =>
(nth y1 s1.2).bind λx5 =>
some (w64 (4*(w64 (x4-x5))))) <|
some 0:Option (Int)).bind λy5 =>
(nth a0 s1.2).bind λx6 =>
(jY x6 a1 y5).bind λy6 =>
(app 40 s1.1 y6).bind λr1 =>
some (.inl (r1,w64 (s1.2+1)))) <|
some (.inr s1.1)
def lW (a0:List ab) (a1:Int):Option ((List Instr)):=
(jA a0 a1).bind λy1 =>
(aO (mT a0 a1 y1) ([],0)).bind λy2 =>
some y2
def io (a2:Int) (y1:(List (List ab))×Bool) (s1:(List (List Instr))×Int):Option (((List (List Instr))×Int)⊕((List (List Instr)))):=
sel (decide (s1.2<(y1.1.length:Int))) ((nth y1.1 s1.2).bind λx1 =>
(lW x1 a2).bind λy6 =>
(app 24 s1.1 [y6]).bind λr1 =>
some (.inl (r1,w64 (s1.2+1)))) <|
some (.inr s1.1)
def fE (k:Nat) (a0:aA) (a1:Int) (a2:Int):Option ((List (List Instr))×Bool):=
(fD k (aA.mk a0.Rooms a0.Tasks) a1).bind λy1 =>
(sel (!y1.2) (some true) ((aY a2 1 8).bind λy2=>some (!y2)):Option (Bool)).bind λb1 =>
sel b1 (some ([],false)) <|
(aO (io a2 y1) ([],0)).bind λy3 =>
some (y3,true)
def lc (a0:List Instr) (a1:List Instr) (s1:Int):Option (Int⊕(Bool⊕Unit)):=
sel (decide (s1<(a0.length:Int))) ((nth a0 s1).bind λx1 =>
(nth a1 s1).bind λx2 =>
sel (!((x1.Op==x2.Op)&&((x1.Rd==x2.Rd)&&((x1.Rs==x2.Rs)&&((x1.Rt==x2.Rt)&&((x1.Imm==x2.Imm)&&true)))))) (some (.inr (.inl false))) <|
some (.inl (w64 (s1+1)))) <|
some (.inr (.inr ()))
def fF (a0:List Instr) (a1:List Instr):Option (Bool):=
sel ((a0.length:Int) !=(a1.length:Int)) (some false) <|
(aO (lc a0 a1) 0).bind λy1 =>
kV y1 (λo3=>some o3) (λo4 =>
some true)
def fZ (y1:aA×Int×Int) (y2:(List (List Instr))×Bool) (y3:(List (List Instr))×Bool) (y4:(List (List ab))×Bool) (s1:Int):Option (Int⊕(Bool⊕Unit)):=
sel (decide (s1<(y4.1.length:Int))) ((nth y4.1 s1).bind λx1 =>
(de x1 y1.2.2).bind λy8 =>
(nth y2.1 s1).bind λx2 =>
(nth y3.1 s1).bind λx3 =>
(sel (!y8.2) (some true) ((fF y8.1 x2).bind λb_1=>some (!b_1))).bind λb3 =>
(sel b3 (some true) ((fF x2 x3).bind λb_1=>some (!b_1))).bind λb4 =>
sel b4 (some (.inr (.inl false))) <|
some (.inl (w64 (s1+1)))) <|
some (.inr (.inr ()))
def i7 (k:Nat) (a0:List Int):Option (Bool):=
sel (decide ((a0.length:Int)>1048576)) (some true) <|
(dZ k a0).bind λy1 =>
(fC k (aA.mk y1.1.Rooms y1.1.Tasks) y1.2.1 y1.2.2).bind λy2 =>
(fE k (aA.mk y1.1.Rooms y1.1.Tasks) y1.2.1 y1.2.2).bind λy3 =>
sel (((y2.2 !=y3.2)||((y2.1.length:Int) !=(y3.1.length:Int)))||(!y2.2)) (some ((y2.2==y3.2)&&((y2.1.length:Int)==(y3.1.length:Int)))) <|
(dc k (aA.mk y1.1.Rooms y1.1.Tasks) y1.2.1).bind λy4 =>
sel ((!y4.2)||((y4.1.length:Int) !=(y2.1.length:Int))) (some false) <|
(aO (fZ y1 y2 y3 y4) 0).bind λy5 =>
kV y5 (λo3=>some o3) (λo4 =>
some true)
end
end Go.Proofs.YtfpngipcclmliaaGreatDoor.N
namespace Go.Proofs.YtfpngipcclmliaaGreatDoor.X
noncomputable section
variable {σ τ ρ ρ' α:Type}
theorem Ay (x:Int):w64 x=if 9223372036854775808<=x%18446744073709551616 then x%18446744073709551616-18446744073709551616 else x%18446744073709551616:=by
 show IntKind.wrap .i64 x=_
 simp [IntKind.wrap,IntKind.signed,IntKind.bits]
theorem vf {x:Int} (h1 : -9223372036854775808<=x) (h2:x<=9223372036854775807):w64 x=x:=by
 rw [Ay]
 split <;> omega
theorem Az {f:σ->Option (σ⊕ρ)} (I:σ->Prop) (μ:σ->Nat) (Q:ρ->Prop) (h:∀ s,I s->(∃ s',f s=some (.inl s')/\I s'/\μ s'<μ s)\/(∃ r,f s=some (.inr r)/\Q r)):∀ {s:σ},I s->∃ r,aO f s=some r/\Q r:=by
 have key:∀ n s,μ s<=n->I s->∃ r,aO f s=some r/\Q r:=by
  intro n
  induction n with
  | zero =>
   intro s hs hI
   rcases h s hI with ⟨s',_,_,h3⟩ | ⟨r,h1,h2⟩
   ·omega
   ·exact ⟨r,by rw [dg,h1],h2⟩
  | succ n ih =>
   intro s hs hI
   rcases h s hI with ⟨s',h1,h2,h3⟩ | ⟨r,h1,h2⟩
   ·obtain ⟨r,k1,k2⟩:=ih s' (by omega) h2
    exact ⟨r,by rw [dg,h1]; exact k1,k2⟩
   ·exact ⟨r,by rw [dg,h1],h2⟩
 exact λ{s} hI=>key _ s (Nat.le_refl _) hI
theorem xw {f:σ->Option (σ⊕ρ)} {g:τ->Option (τ⊕ρ')} (R:σ->τ->Prop) (μ:σ->Nat) (Q:ρ->ρ'->Prop)
  (h:∀ s t,R s t->(∃ s' t',f s=some (.inl s')/\g t=some (.inl t')/\R s' t'/\μ s'<μ s)\/(∃ r r',f s=some (.inr r)/\g t=some (.inr r')/\Q r r')):∀ {s:σ} {t:τ},R s t->∃ r r',aO f s=some r/\aO g t=some r'/\Q r r':=by
 have key:∀ n s t,μ s<=n->R s t->∃ r r',aO f s=some r/\aO g t=some r'/\Q r r':=by
  intro n
  induction n with
  | zero =>
   intro s t hs hI
   rcases h s t hI with ⟨s',t',_,_,_,h3⟩ | ⟨r,r',h1,h2,h3⟩
   ·omega
   ·exact ⟨r,r',by rw [dg,h1],by rw [dg,h2],h3⟩
  | succ n ih =>
   intro s t hs hI
   rcases h s t hI with ⟨s',t',h1,h2,h3,h4⟩ | ⟨r,r',h1,h2,h3⟩
   ·obtain ⟨r,r',k1,k2,k3⟩:=ih s' t' (by omega) h3
    exact ⟨r,r',by rw [dg,h1]; exact k1,by rw [dg,h2]; exact k2,k3⟩
   ·exact ⟨r,r',by rw [dg,h1],by rw [dg,h2],h3⟩
 exact λ{s t} hI=>key _ s t (Nat.le_refl _) hI
theorem AA {bytes:Nat} {l m:List α} (h:(l.length+m.length)*bytes<=140737488355328):app bytes l m=some (l++m):=by
 unfold app yR
 rw [Nat.ble_eq_true_of_le h]
theorem jB {α:Type} {b:Bool} (h:b=true) (x y:α):sel b x y=x:=by subst h; rfl
theorem aM {α:Type} {b:Bool} (h:b=false) (x y:α):sel b x y=y:=by subst h; rfl
def ze (mk:α->Int->Option (Int×α)):List α->Int->Option (Int×List α)
 | [],k=>some (k,[])
 | x::xs,k=>match mk x k with
  | some (k1,x')=>match ze mk xs k1 with
   | some (k2,xs')=>some (k2,x'::xs')
   | none=>none
  | none=>none
def AB (hd:α->Int->Int->Prop):List α->Int->Int->Prop
 | [],k,k'=>k'=k
 | x::xs,k,k'=>∃ k1,hd x k k1/\AB hd xs k1 k'
def MH (mk:α->Int->Option (Int×α)) (hd:α->Int->Int->Prop) (sz:α->Nat):Prop:=
 ∀ x (k:Int),1<=k->k+sz x<=1000000000000->∃ x',mk x k=some (k+sz x,x')/\hd x' k (k+sz x)
def szs (sz:α->Nat):List α->Nat
 | []=>0
 | x::xs=>sz x+szs sz xs
theorem MH.list {mk:α->Int->Option (Int×α)} {hd:α->Int->Int->Prop} {sz:α->Nat} (h:MH mk hd sz):∀ (l:List α) (k:Int),1<=k->k+szs sz l<=1000000000000->∃ l',ze mk l k=some (k+szs sz l,l')/\AB hd l' k (k+szs sz l)/\l'.length=l.length
 | [],k,_,_=>⟨[],by simp [ze,szs],by simp [AB,szs],rfl⟩
 | x::xs,k,h1,h2=>by
  simp only [szs] at h2
  obtain ⟨x',k1,k2⟩:=h x k h1 (by omega)
  obtain ⟨l',k3,k4,k5⟩:=MH.list h xs (k+sz x) (by omega) (by omega)
  refine ⟨x'::l',?_,⟨_,k2,?_⟩,by simp [k5]⟩
  ·simp only [ze,k1,k3,szs]
   congr 2
   omega
  ·rw [show k+(szs sz (x::xs):Nat)=k+sz x+szs sz xs by simp only [szs]; omega]
   exact k4
end
noncomputable section
variable {α β σ ρ:Type} {Q:α->Prop} {x y:Option α} {b:Bool} {l m:List α} {i:Int}
def Tot (x:Option α) (Q:α->Prop):Prop:=∃ r,x=some r/\Q r
theorem Tot.pure {r:α} (h:Q r):Tot (some r) Q:=⟨r,rfl,h⟩
theorem Tot.bind {x:Option β} {f:β->Option α} {P:β->Prop} (h:Tot x P) (k:∀ r,P r->Tot (f r) Q):Tot (x.bind f) Q:=by
 obtain ⟨r,rfl,hr⟩:=h
 exact k r hr
theorem Tot.mono {P:α->Prop} (h:Tot x P) (k:∀ r,P r->Q r):Tot x Q:=by
 obtain ⟨r,e,hr⟩:=h
 exact ⟨r,e,k r hr⟩
theorem Tot.sel (ht:b=true->Tot x Q) (hf:b=false->Tot y Q):Tot (X.sel b x y) Q:=by
 cases b
 ·exact hf rfl
 ·exact ht rfl
theorem Tot.st (h:b=true) (k:Tot x Q):Tot (X.sel b x y) Q:=by subst h; exact k
theorem Tot.sf (h:b=false) (k:Tot y Q):Tot (X.sel b x y) Q:=by subst h; exact k
theorem Tot.both {A B:Type} {s:A⊕B} {f:A->Option α} {g:B->Option α} (hl:∀ a,s=.inl a->Tot (f a) Q) (hr:∀ a,s=.inr a->Tot (g a) Q):Tot (X.kV s f g) Q:=by
 cases s
 ·exact hl _ rfl
 ·exact hr _ rfl
theorem Tot.eq {r:α} (h:Tot x (λz=>z=r)):x=some r:=by
 obtain ⟨z,e,rfl⟩:=h
 exact e
theorem Tot.of {r:α} (h:x=some r) (k:Q r):Tot x Q:=⟨r,h,k⟩
theorem Tot.nth (h0:0<=i) (h1:i<l.length):Tot (X.nth l i) (λz=>l[i.toNat]?=some z/\z∈l):=by
 have h2:i.toNat<l.length:=by omega
 refine ⟨l[i.toNat],?_,List.getElem?_eq_getElem h2,List.getElem_mem h2⟩
 unfold X.nth
 rw [if_neg (by omega),List.getElem?_eq_getElem h2]
theorem Tot.upd {z:α} (h0:0<=i) (h1:i<l.length):Tot (X.upd l i z) (λr=>r=l.set i.toNat z):=by
 refine ⟨_,?_,rfl⟩
 unfold X.upd
 rw [if_pos ⟨h0,h1⟩]
theorem Tot.app {bytes:Nat} (h:(l.length+m.length)*bytes<=140737488355328):Tot (X.app bytes l m) (λr=>r=l++m):=⟨_,AA h,rfl⟩
theorem Tot.mk {bytes:Nat} {n:Int} {z:α} (h0:0<=n) (h:n.toNat*bytes<=281474976710656):Tot (X.mk bytes n z) (λr=>r=List.replicate n.toNat z):=by
 refine ⟨_,?_,rfl⟩
 unfold X.mk
 rw [if_neg (by omega),Nat.ble_eq_true_of_le h]
theorem Tot.cut {lo hi:Int} (h:0<=lo/\lo<=hi/\hi<=l.length):Tot (X.cut l lo hi) (λr=>r=(l.take hi.toNat).drop lo.toNat):=by
 refine ⟨_,?_,rfl⟩
 unfold X.cut
 rw [if_pos h]
theorem Tot.rem {a c:Int} (h:c≠0):Tot (q8 a c) (λr=>r=a.tmod c):=⟨_,by unfold q8; rw [if_neg h],rfl⟩
theorem Tot.quo {k:IntKind} {a c:Int} (h:c≠0):Tot (sS k a c) (λr=>r=mY k (a.tdiv c)):=⟨_,by unfold sS; rw [if_neg h],rfl⟩
theorem Tot.iter {f:σ->Option (σ⊕α)} (I:σ->Prop) (μ:σ->Nat) {s:σ} (h0:I s)
  (h:∀ s,I s->Tot (f s) (λz=>match z with | .inl s'=>I s'/\μ s'<μ s | .inr r=>Q r)):Tot (X.aO f s) Q:=by
 obtain ⟨r,h1,h2⟩:=Az I μ Q (λs hs=>by
  obtain ⟨z,e,hz⟩:=h s hs
  cases z with
  | inl s'=>exact .inl ⟨s',e,hz.1,hz.2⟩
  | inr r=>exact .inr ⟨r,e,hz⟩) h0
 exact ⟨r,h1,h2⟩
theorem Tot.inl {ρ:Type} {r:σ} {P:σ⊕ρ->Prop} (h:P (.inl r)):Tot (some (.inl r)) P:=⟨_,rfl,h⟩
theorem Tot.inr {ρ:Type} {r:ρ} {P:σ⊕ρ->Prop} (h:P (.inr r)):Tot (some (.inr r)) P:=⟨_,rfl,h⟩
theorem Tot.and {P:α->Prop} (h:Tot x P) (k:Tot x Q):Tot x (λr=>P r/\Q r):=by
 obtain ⟨r,rfl,hr⟩:=h
 obtain ⟨r',e,hr'⟩:=k
 injection e with e
 subst e
 exact ⟨r,rfl,hr,hr'⟩
theorem aq {i:Int} (h0:0<=i) (h:i<=9223372036854775806):w64 (i+1)=i+1:=vf (by omega) (by omega)
theorem aE {i:Int} (h0 : -4611686018427387904<=i) (h:i<=4611686018427387904):w64 i=i:=vf (by omega) (by omega)
theorem nR {a z:α} {k:Nat} (h:a∈l.set k z):a∈l\/a=z:=List.mem_or_eq_of_mem_set h
end
end Go.Proofs.YtfpngipcclmliaaGreatDoor.X
namespace Go.Proofs.YtfpngipcclmliaaGreatDoor.N
open Go.Proofs.YtfpngipcclmliaaGreatDoor.X
noncomputable section
theorem m5 (n a b:Int):aY n a b=some (decide (a<=n)&&decide (n<=b)):=rfl
def Wd (n:Int):Prop:=-2147483648<=n/\n<=2147483647
instance (n:Int):Decidable (Wd n):=instDecidableAnd
theorem wM (n:Int):bR n=some (decide (Wd n)):=by
 unfold bR
 rw [m5]
 simp only [ob9]
 congr 1
 unfold Wd
 by_cases h1 : -2147483648<=n <;> by_cases h2:n<=2147483647 <;> simp [h1,h2]
theorem pw (n:Int):Tot (du n) Wd:=by
 unfold du
 have h1 : -4294967296<n.tmod 4294967296:=by
  rcases Int.le_total 0 n with h | h
  ·have:=Int.tmod_nonneg 4294967296 h; omega
  ·have:=Int.tmod_nonneg 4294967296 (show 0 <= -n by omega); rw [Int.neg_tmod] at this
   have:=Int.tmod_lt_of_pos (-n) (show (0:Int)<4294967296 by omega); rw [Int.neg_tmod] at this; omega
 have h2:=Int.tmod_lt_of_pos n (show (0:Int)<4294967296 by omega)
 refine .sel (λh=>.pure ?_) λh=>.sel (λh'=>.pure ?_) λh'=>.pure ?_
 all_goals simp only [decide_eq_true_eq,decide_eq_false_iff_not] at *
 ·rw [aE (by omega) (by omega)]; unfold Wd; omega
 ·rw [aE (by omega) (by omega)]; unfold Wd; omega
 ·unfold Wd; omega
def By (b:List Int):Prop:=b.length<=2000/\∀ x∈b,0<=x/\x<=255
def Dr {α:Type} (x:Option (α×Int)) (m:Int) (Q:α->Prop):Prop:=Tot x λr=>0<=r.2/\r.2<=m/\Q r.1
theorem yn {a c:Nat} (ha:a<9223372036854775808) (hc:c<9223372036854775808):bA .xor .i64 (a:Int) (c:Int)=((a ^^^ c:Nat):Int):=by
 have h1:∀ n:Nat,n<9223372036854775808->(BitVec.ofInt 64 (n:Int)).toNat=n:=λn hn=>by
  simp only [BitVec.ofInt_natCast,BitVec.toNat_ofNat]
  exact Nat.mod_eq_of_lt (by omega)
 show IntKind.wrap .i64 ((BitVec.ofInt 64 (a:Int) ^^^ BitVec.ofInt 64 (c:Int)).toNat:Int)=_
 rw [BitVec.toNat_xor,h1 a ha,h1 c hc]
 have:=Nat.xor_lt_two_pow (n:=63) ha hc
 exact vf (x:=((a ^^^ c:Nat):Int)) (by omega) (by omega)
theorem AD {b:List Int} {p n:Int} (hb:By b) (h0:0<=p) (hp:p<=1000000000) (hn:1<=n) (hn':n<=1000000):Tot (az ⟨b,p⟩ n) λr=>r.2=p+1/\0<=r.1/\r.1<n:=by
 obtain ⟨hl,hx⟩:=hb
 have e1:w64 (p+1)=p+1:=aE (by omega) (by omega)
 have e2:w64 (p+1-1)=p:=by rw [aE (by omega) (by omega)]; omega
 unfold az
 simp only [e1,e2]
 refine .sel (λ_=>.pure ⟨rfl,by omega,by omega⟩) λhh=>?_
 simp only [Bool.or_eq_false_iff,decide_eq_false_iff_not,beq_eq_false_iff_ne] at hh
 have hl0:0<(b.length:Int):=by omega
 refine .sel (λh=>?_) λh=>?_
 ·simp only [decide_eq_true_eq] at h
  refine .bind (.nth h0 h) λx ⟨_,hm⟩=>?_
  have:=hx x hm
  refine .bind (.rem (by omega)) λd hd=>.pure ⟨rfl,?_,?_⟩
  all_goals (rw [aE (by omega) (by omega)] at hd; subst hd)
  ·exact Int.tmod_nonneg _ (by omega)
  ·exact Int.tmod_lt_of_pos _ (by omega)
 ·refine .bind (.rem (by omega)) λd hd=>?_
  have hd1:0<=d/\d<b.length:=by subst hd; exact ⟨Int.tmod_nonneg _ h0,Int.tmod_lt_of_pos _ hl0⟩
  refine .bind (.nth hd1.1 hd1.2) λx ⟨_,hm⟩=>?_
  have hx1:=hx x hm
  refine .bind (.rem (by omega)) λd' hd'=>?_
  have e3:w64 (w64 (p*7)+3)=p*7+3:=by rw [aE (i:=p*7) (by omega) (by omega),aE (by omega) (by omega)]
  have hd2:0<=d'/\d'<b.length:=by rw [e3] at hd'; subst hd'; exact ⟨Int.tmod_nonneg _ (by omega),Int.tmod_lt_of_pos _ hl0⟩
  refine .bind (.nth hd2.1 hd2.2) λx' ⟨_,hm'⟩=>?_
  have hx2:=hx x' hm'
  refine .bind (.quo (by omega)) λq hq=>?_
  have hq1:0<=q/\q<=p:=by
   have h1:0<=p.tdiv b.length:=Int.tdiv_nonneg h0 (by omega)
   have h2:p.tdiv b.length<=p:=by
    obtain ⟨k,rfl⟩:=Int.eq_ofNat_of_zero_le h0
    exact Int.ofNat_le.2 (Nat.div_le_self k b.length)
   have:q=w64 (p.tdiv b.length):=hq
   rw [aE (by omega) (by omega)] at this
   omega
  have hv:∃ m:Nat,w64 (w64 (w64 (w64 (w64 x*131)+w64 (w64 x'*1117))+w64 (p*29))+w64 (q*53))=(m:Int)/\m<1000000000000:=by
   rw [aE (i:=x) (by omega) (by omega),aE (i:=x') (by omega) (by omega),aE (i:=x*131) (by omega) (by omega),aE (i:=x'*1117) (by omega) (by omega),aE (i:=p*29) (by omega) (by omega),aE (i:=q*53) (by omega) (by omega),
    aE (i:=x*131+x'*1117) (by omega) (by omega),aE (i:=x*131+x'*1117+p*29) (by omega) (by omega),aE (i:=x*131+x'*1117+p*29+q*53) (by omega) (by omega)]
   exact ⟨(x*131+x'*1117+p*29+q*53).toNat,by omega,by omega⟩
  obtain ⟨m,hm1,hm2⟩:=hv
  rw [hm1]
  have hdiv:w64 (Int.tdiv (m:Int) 64)=((m/64:Nat):Int):=by
   rw [show Int.tdiv (m:Int) 64=((m/64:Nat):Int) from rfl]
   exact aE (by omega) (by omega)
  rw [hdiv,yn (by omega) (by omega)]
  refine .bind (.rem (by omega)) λd2 hd2=>.pure ⟨rfl,?_,?_⟩
  all_goals subst hd2
  ·exact Int.tmod_nonneg _ (by omega)
  ·exact Int.tmod_lt_of_pos _ (by omega)
theorem bU {b:List Int} {p m n:Int} (hb:By b) (h0:0<=p) (hm:p<=m) (hp:m<=1000000000) (hn:1<=n) (hn':n<=1000000):Dr (az ⟨b,p⟩ n) (m+1) λx=>0<=x/\x<n:=
 (AD hb h0 (by omega) hn hn').mono λr h=>⟨by omega,by omega,h.2⟩
theorem Dr.bind {α β:Type} {x:Option (α×Int)} {f:α×Int->Option (β×Int)} {m m':Int} {P:α->Prop} {Q:β->Prop} (h:Dr x m P) (k:∀ a p,P a->0<=p->p<=m->Dr (f (a,p)) m' Q):Dr (x.bind f) m' Q:=
 Tot.bind h λr hr=>k r.1 r.2 hr.2.2 hr.1 hr.2.1
theorem Dr.mono {α:Type} {x:Option (α×Int)} {m m':Int} {P Q:α->Prop} (h:Dr x m P) (hm:m<=m') (k:∀ a,P a->Q a):Dr x m' Q:=Tot.mono h λr hr=>⟨hr.1,by omega,k _ hr.2.2⟩
theorem Dr.pure {α:Type} {m:Int} {Q:α->Prop} {a:α} {p:Int} (h:Q a) (h0:0<=p) (hm:p<=m):Dr (some (a,p)) m Q:=Tot.pure ⟨h0,hm,h⟩
theorem Dr.sel {α:Type} {m:Int} {c:Bool} {x y:Option (α×Int)} {Q:α->Prop} (ht:c=true->Dr x m Q) (hf:c=false->Dr y m Q):Dr (X.sel c x y) m Q:=Tot.sel ht hf
theorem Dr.both {α A B:Type} {m:Int} {s:A⊕B} {f:A->Option (α×Int)} {g:B->Option (α×Int)} {Q:α->Prop} (hl:∀ a,s=.inl a->Dr (f a) m Q) (hr:∀ a,s=.inr a->Dr (g a) m Q):Dr (X.kV s f g) m Q:=Tot.both hl hr
theorem Dr.tot {α β:Type} {m:Int} {x:Option β} {f:β->Option (α×Int)} {P:β->Prop} {Q:α->Prop} (h:Tot x P) (k:∀ r,P r->Dr (f r) m Q):Dr (x.bind f) m Q:=Tot.bind h k
theorem AG {eQ:List Int} (h:∀ x∈eQ,0<=x/\x<=255):Tot (mF eQ) λr=>By r.b/\r.p=0:=by
 unfold mF
 refine .bind (P:=λl=>l.length<=2000/\∀ x∈l,0<=x/\x<=255) (.sel (λhh=>?_) λhh=>.pure ⟨?_,h⟩) λl hl=>.pure ⟨hl,rfl⟩
 ·simp only [decide_eq_true_eq] at hh
  refine .bind (.cut (by omega)) λr hr=>.pure ?_
  subst hr
  refine ⟨by simp; omega,λx hx=>h x ?_⟩
  exact List.mem_of_mem_take (List.mem_of_mem_drop hx)
 ·simp only [decide_eq_false_iff_not] at hh; omega
def Rg (r:Int):Prop:=0<=r/\r<=11
instance (r:Int):Decidable (Rg r):=instDecidableAnd
def QOk (m:Int) (q:ab):Prop:=
 (q.Op=1/\Rg q.Dst/\q.A=0/\q.B=0/\Wd q.N)\/(q.Op=2/\Rg q.Dst/\Rg q.A/\q.B=0/\q.N=0)\/(q.Op=3/\Rg q.Dst/\Rg q.A/\Rg q.B/\1<=q.N/\q.N<=12) \/
 (q.Op=4/\q.Dst=0/\q.A=0/\q.B=0/\0<=q.N/\q.N<m)\/(q.Op=5/\q.Dst=0/\Rg q.A/\q.B=0/\0<=q.N/\q.N<m) \/
 (q.Op=6/\q.Dst=0/\Rg q.A/\q.B=0/\0<=q.N/\q.N<=2)\/(q.Op=7/\Rg q.Dst/\q.A=0/\q.B=0/\0<=q.N/\q.N<=2) \/
 (q.Op=9/\q.Dst=0/\Rg q.A/\q.B=0/\q.N=0)\/((q.Op=8\/q.Op=10)/\q.Dst=0/\q.A=0/\q.B=0/\q.N=0)
instance (m:Int) (q:ab):Decidable (QOk m q):=by unfold QOk; infer_instance
theorem Cx (x:Int) (u:Bool):ju x u=some (if u then decide (Rg x) else x==0):=by
 unfold ju
 cases u
 ·rfl
 ·simp only [m5,sel,ob9,if_true]
  congr 1
  unfold Rg
  by_cases h1:0<=x <;> by_cases h2:x<=11 <;> simp [h1,h2]
theorem BF (q:ab) (u v w:Bool):cl q u v w=some ((if u then decide (Rg q.Dst) else q.Dst==0)&&((if v then decide (Rg q.A) else q.A==0)&&(if w then decide (Rg q.B) else q.B==0))):=by
 unfold cl
 simp only [Cx,ob9]
 cases h1:(if u then decide (Rg q.Dst) else q.Dst==0) <;> cases h2:(if v then decide (Rg q.A) else q.A==0) <;> simp [sel]
theorem oI (n:Int):et n=some (decide (1<=n/\n<=12)):=by
 unfold et
 rw [m5]
 simp only [ob9]
 congr 1
 by_cases h1:1<=n <;> by_cases h2:n<=12 <;> simp [h1,h2]
theorem zf (b v:Bool):sel b (some v) (some false)=some (b&&v):=by cases b <;> rfl
theorem AH (b v:Bool):sel b (some b) (some v)=some (b||v):=by cases b <;> rfl
theorem wN (q:ab) (m:Int):fg q m=some (decide (QOk m q)):=by
 refine Tot.eq ?_
 unfold fg
 simp only [BF,wM,oI,m5,ob9,zf,AH]
 have key:∀ b:Bool,(b=true↔QOk m q)->Tot (some b) (λz=>z=decide (QOk m q)):=λb h=>.pure (by
  cases b
  ·exact (decide_eq_false λhq=>by simpa using h.2 hq).symm
  ·exact (decide_eq_true (h.1 rfl)).symm)
 refine .sel (λh=>key _ ?_) λh1=>.sel (λh=>key _ ?_) λh2=>.sel (λh=>key _ ?_) λh3=>.sel (λh=>key _ ?_) λh4=>.sel (λh=>key _ ?_) λh5=>.sel (λh=>key _ ?_) λh6=>.sel (λh=>key _ ?_) λh7=>.sel (λh=>key _ ?_) λh8=>key _ ?_
 all_goals
  simp only [beq_iff_eq,beq_eq_false_iff_ne,Bool.or_eq_true,Bool.or_eq_false_iff,ne_eq] at *
  simp [QOk, *,and_assoc]
def yo (eQ:List ab):Prop:=∃ q,eQ.getLast?=some q/\(q.Op=10\/q.Op=4)
structure COk (eQ:List ab):Prop where
 one:1<=eQ.length
 max:eQ.length<=600
 q:∀ q∈eQ,QOk eQ.length q
 last:yo eQ
theorem qO (eQ:List ab) (hl:eQ.length<=4611686018427387904):Tot (aV eQ) λb=>b=true↔COk eQ:=by
 unfold aV
 simp only [m5,ob9]
 refine .sel (λh=>.pure ?_) λh=>?_
 ·simp only [Bool.not_eq_true',Bool.and_eq_false_iff,decide_eq_false_iff_not] at h
  exact ⟨λh=>by simp at h,λhc=>by have:=hc.one; have:=hc.max; omega⟩
 simp only [Bool.not_eq_false',Bool.and_eq_true,decide_eq_true_eq] at h
 refine .bind (P:=λz=>match z with | .inl b=>b=false/\¬ COk eQ | .inr _=>∀ q∈eQ,QOk eQ.length q) (.iter (λi:Int=>0<=i/\i<=eQ.length/\∀ (j:Nat) (q:ab),(j:Int)<i->eQ[j]?=some q->QOk eQ.length q) (λi=>(eQ.length-i).toNat) ⟨by omega,by omega,λj q h=>by omega⟩ λi ⟨h0,h1,h2⟩=>?_) λz hz=>?_
 ·unfold lO
  refine .sel (λh=>?_) λh=>.inr ?_
  ·simp only [decide_eq_true_eq] at h
   refine .bind (.nth h0 h) λq ⟨hq,hm⟩=>?_
   rw [wN,ob9]
   refine .sel (λhv=>.inr ⟨rfl,λhc=>?_⟩) λhv=>.inl ?_
   ·simp only [Bool.not_eq_true',decide_eq_false_iff_not] at hv
    exact hv (hc.q q hm)
   ·simp only [Bool.not_eq_false',decide_eq_true_eq] at hv
    rw [aq h0 (by omega)]
    refine ⟨⟨by omega,by omega,λj q' hj hq'=>?_⟩,by omega⟩
    by_cases e:(j:Int)=i
    ·have:j=i.toNat:=by omega
     subst this
     rw [hq] at hq'
     injection hq' with hq'
     exact hq'▸hv
    ·exact h2 j q' (by omega) hq'
  ·simp only [decide_eq_false_iff_not] at h
   intro q hq
   obtain ⟨j,hj,rfl⟩:=List.getElem_of_mem hq
   exact h2 j _ (by omega) (List.getElem?_eq_getElem hj)
 ·refine .both (λb e=>?_) λ_ e=>?_
  ·subst e
   exact .pure ⟨λh=>by rw [hz.1] at h; simp at h,λh=>absurd h hz.2⟩
  ·subst e
   have hq:∀ q∈eQ,QOk eQ.length q:=hz
   rw [aE (by omega) (by omega)]
   refine .bind (.nth (by omega) (by omega)) λx ⟨hx,_⟩=>?_
   have hgl:eQ.getLast?=some x:=by rw [List.getLast?_eq_getElem?]; rw [<-hx]; congr 1; omega
   have hlast:yo eQ↔(x.Op=10\/x.Op=4):=⟨λ⟨y,h1,h2⟩=>by rw [hgl] at h1; injection h1 with h1; exact h1▸h2,λh=>⟨x,hgl,h⟩⟩
   refine .bind (P:=λb=>b=true↔(x.Op=10\/x.Op=4)) (.sel (λh=>.pure ?_) λh=>.bind (.nth (by omega) (by omega)) λy ⟨hy,_⟩=>.pure ?_) λb hb=>.pure ⟨λh=>⟨by omega,by omega,hq,hlast.2 (hb.1 h)⟩,λhc=>hb.2 (hlast.1 hc.last)⟩
   ·simp only [beq_iff_eq] at h; simp [h]
   ·rw [hx] at hy
    injection hy with hy
    subst hy
    simp only [beq_eq_false_iff_ne,ne_eq] at h
    simp [h]
theorem aU {eQ:List ab} (h:COk eQ):aV eQ=some true:=by
 obtain ⟨b,e,hb⟩:=qO eQ (by have:=h.max; omega)
 rw [e,hb.2 h]
theorem ui {eQ:List ab} (hl:eQ.length<=4611686018427387904) (h:¬ COk eQ):aV eQ=some false:=by
 obtain ⟨b,e,hb⟩:=qO eQ hl
 cases b
 ·exact e
 ·exact absurd (hb.1 rfl) h
theorem COk.nxt {eQ:List ab} (h:COk eQ) {i:Nat} {q:ab} (hi:eQ[i]?=some q) (h1:q.Op≠10) (h2:q.Op≠4):i+1<eQ.length:=by
 obtain ⟨x,hx,hx'⟩:=h.last
 have hlt:i<eQ.length:=by
  rcases Nat.lt_or_ge i eQ.length with h | h
  ·exact h
  ·rw [List.getElem?_eq_none h] at hi; cases hi
 rcases Nat.lt_or_ge (i+1) eQ.length with h3 | h3
 ·exact h3
 ·rw [List.getLast?_eq_getElem?,show eQ.length-1=i by omega,hi] at hx
  injection hx with hx
  subst hx
  rcases hx' with h | h
  ·exact absurd h h1
  ·exact absurd h h2
theorem vg {eQ:List ab} (h:COk eQ) {i:Int} (h0:0<=i) (h1:i<eQ.length):Tot (dC eQ i) λl=>l.length<=2/\∀ x∈l,0<=x/\x<eQ.length:=by
 unfold dC
 refine .bind (.nth h0 h1) λq ⟨hq,hm⟩=>?_
 have hv:=h.q q hm
 have hlen:=h.max
 have h2:q.Op≠10->q.Op≠4->i+1<eQ.length:=λha hb=>by have:=h.nxt hq ha hb; omega
 rw [aq h0 (by omega)]
 refine .sel (λh=>.pure (by simp)) λe1=>.sel (λh=>.pure ?_) λe2=>?_
 ·simp only [beq_iff_eq] at h
  simp only [List.length_singleton,List.mem_singleton,forall_eq]
  unfold QOk at hv
  omega
 simp only [beq_eq_false_iff_ne,ne_eq] at e1 e2
 have h3:=h2 e1 e2
 refine .sel (λh=>.pure ?_) λ_=>.sel (λh=>.pure ?_) λ_=>.pure (by simp; omega)
 all_goals
  simp only [Bool.and_eq_true,beq_iff_eq,decide_eq_true_eq] at h
  simp only [List.length_cons,List.length_nil,List.mem_cons,List.not_mem_nil,or_false,forall_eq_or_imp,forall_eq]
  unfold QOk at hv
  omega
end
noncomputable section
theorem rf (v:BitVec 64):IntKind.wrap .i64 (v.toNat:Int)=v.toInt:=by
 have h1:IntKind.wrap .i64 (v.toNat:Int)=w64 (v.toNat:Int):=rfl
 rw [h1,Ay,BitVec.toInt_eq_toNat_cond]
 have:=v.isLt
 split <;> split <;> omega
theorem qj {n:Int} (h:Wd n):BitVec.ofInt 64 n=(BitVec.ofInt 32 n).signExtend 64:=by
 apply BitVec.eq_of_toInt_eq
 rw [BitVec.toInt_signExtend_of_le (by omega),BitVec.toInt_ofInt,BitVec.toInt_ofInt]
 unfold Wd at h
 rw [Int.bmod_def,Int.bmod_def]
 omega
theorem vj (v:BitVec 32):Wd (v.signExtend 64).toInt:=by
 rw [BitVec.toInt_signExtend_of_le (by omega)]
 have h1:=BitVec.toInt_lt (x:=v)
 have h2:=BitVec.le_toInt (x:=v)
 unfold Wd
 omega
theorem BG {a b:Int} (ha:Wd a) (hb:Wd b):Wd (bA .or .i64 a b):=by
 show Wd (IntKind.wrap .i64 ((BitVec.ofInt 64 a ||| BitVec.ofInt 64 b).toNat:Int))
 rw [rf,qj ha,qj hb,<-BitVec.signExtend_or]
 exact vj _
theorem AJ {a b:Int} (ha:Wd a) (hb:Wd b):Wd (bA .and .i64 a b):=by
 show Wd (IntKind.wrap .i64 ((BitVec.ofInt 64 a &&& BitVec.ofInt 64 b).toNat:Int))
 rw [rf,qj ha,qj hb,<-BitVec.signExtend_and]
 exact vj _
theorem AK {a b:Int} (ha:Wd a) (hb:Wd b):Wd (bA .xor .i64 a b):=by
 show Wd (IntKind.wrap .i64 ((BitVec.ofInt 64 a ^^^ BitVec.ofInt 64 b).toNat:Int))
 rw [rf,qj ha,qj hb,<-BitVec.signExtend_xor]
 exact vj _
theorem Cb (b:Int):0<=bA .and .i64 b 31/\bA .and .i64 b 31<=31:=by
 have e:bA .and .i64 b 31=IntKind.wrap .i64 ((BitVec.ofInt 64 b &&& BitVec.ofInt 64 31).toNat:Int):=rfl
 have h1:(BitVec.ofInt 64 b &&& BitVec.ofInt 64 31).toNat<=31:=by
  rw [BitVec.toNat_and]
  exact Nat.le_trans Nat.and_le_right (by decide)
 have h2:IntKind.wrap .i64 ((BitVec.ofInt 64 b &&& BitVec.ofInt 64 31).toNat:Int)=w64 ((BitVec.ofInt 64 b &&& BitVec.ofInt 64 31).toNat:Int):=rfl
 rw [e,h2,aE (by omega) (by omega)]
 omega
theorem sV {op a b:Int} (hop:1<=op/\op<=12) (ha:Wd a) (hb:Wd b):Tot (jv op a b) λr=>Wd r.1:=by
 unfold jv
 rw [oI,decide_eq_true hop]
 simp only [ob9,wM,decide_eq_true ha,decide_eq_true hb,Bool.not_true]
 simp only [sel,ob9]
 have w0:Wd 0:=by unfold Wd; omega
 have w1:Wd 1:=by unfold Wd; omega
 refine .sel (λ_=>.pure (BG ha hb)) λ_=>.sel (λ_=>.pure (AK ha hb)) λ_=>.sel (λ_=>.pure (AJ ha hb)) λ_=>.sel (λ_=>.bind (P:=Wd) ?_ λr h=>.pure h) λ_=>.sel (λ_=>.bind (P:=Wd) ?_ λr h=>.pure h) λ_ =>
  .sel (λ_=>.bind (P:=Wd) ?_ λr h=>.pure h) λ_=>.sel (λ_=>.bind (P:=Wd) ?_ λr h=>.pure h) λ_=>.sel (λ_=>.bind (pw _) λr h=>.pure h) λ_=>.sel (λ_=>.bind (pw _) λr h=>.pure h) λ_=>.sel (λ_=>.bind (pw _) λr h=>.pure h) λ_ =>
  .sel (λ_=>.bind (P:=Wd) ?_ λr h=>.pure h) λ_=>.bind (P:=Wd) ?_ λr h=>.pure h
 ·exact .sel (λ_=>.pure w1) λ_=>.pure w0
 ·exact .sel (λ_=>.pure w1) λ_=>.pure w0
 ·unfold ig
  refine .sf rfl (.bind (P:=λ_=>True) ?_ λd _=>.bind (pw _) λr h=>.pure h)
  unfold shO
  rw [if_neg (by have:=Cb b; omega)]
  exact .pure trivial
 ·unfold ig
  refine .st rfl (.bind (P:=Wd) ?_ λd h=>.pure h)
  have h31:=Cb b
  unfold shO
  rw [if_neg (by omega)]
  refine .pure ?_
  have hp:0<(2:Int)^(min (bA .and .i64 b 31).toNat (IntKind.bits .i64)):=Int.pow_pos (by omega)
  generalize (2:Int)^(min (bA .and .i64 b 31).toNat (IntKind.bits .i64))=c at hp
  rw [Int.fdiv_eq_ediv_of_nonneg _ (by omega)]
  unfold Wd at *
  constructor
  ·rw [Int.le_ediv_iff_mul_le hp]
   have : -2147483648*c <= -2147483648*1:=Int.mul_le_mul_of_nonpos_left (by omega) (by omega)
   omega
  ·have:a/c<=2147483647:=by
    rw [<-Int.lt_add_one_iff,Int.ediv_lt_iff_lt_mul hp]
    have:(2147483647+1)*1<=(2147483647+1)*c:=Int.mul_le_mul_of_nonneg_left (by omega) (by omega)
    omega
   exact this
 ·unfold kz
  refine .sel (λ_=>.pure (by unfold Wd; omega)) λh=>?_
  simp only [beq_eq_false_iff_ne,ne_eq] at h
  exact .bind (.quo h) λd _=>.bind (pw _) λr h=>.pure h
 ·unfold kA
  refine .sel (λ_=>.pure ha) λh=>?_
  simp only [beq_eq_false_iff_ne,ne_eq] at h
  refine .bind (.rem h) λd hd=>.pure ?_
  subst hd
  have h1:(a.tmod b).natAbs<=a.natAbs:=by rw [Int.natAbs_tmod]; exact Nat.mod_le _ _
  unfold Wd at *
  rcases Int.le_total 0 a with h2 | h2
  ·have:=Int.tmod_nonneg b h2; omega
  ·have:a.tmod b<=0:=by have:=Int.tmod_nonneg b (show 0 <= -a by omega); rw [Int.neg_tmod] at this; omega
   omega
theorem oJ {α:Type} (g:α->Nat):∀ {l:List α} {i:Nat} {a:α} (x:α),l[i]?=some a->((l.set i x).map g).sum+g a=(l.map g).sum+g x
 | [],_,_,_,h=>by simp at h
 | y::r,0,a,x,h=>by
  have:y=a:=by simpa using h
  subst this
  simp only [List.set_cons_zero,List.map_cons,List.sum_cons]
  omega
 | y::r,i+1,a,x,h=>by
  have:=oJ g x (show r[i]?=some a by simpa using h)
  simp only [List.set_cons_succ,List.map_cons,List.sum_cons]
  omega
def FOk (f:aj):Prop:=(f.Kind=0/\f.N=0)\/(f.Kind=1/\Wd f.N)\/(f.Kind=2/\f.N=0)
def vk (l:List aj):Prop:=l.length=12/\∀ f∈l,FOk f
def AOk (n:Nat) (all:List (List aj)):Prop:=all.length=n/\∀ l∈all,vk l
def fm (f:aj):Nat:=(2-f.Kind).toNat
def fsm (l:List aj):Nat:=(l.map fm).sum
def am (all:List (List aj)):Nat:=(all.map fsm).sum
theorem vk.set {l:List aj} {i:Nat} {f:aj} (h:vk l) (hf:FOk f):vk (l.set i f):=⟨by rw [List.length_set]; exact h.1,λg hg=>(nR hg).elim (h.2 g) λe=>e▸hf⟩
theorem AOk.set {n:Nat} {all:List (List aj)} {i:Nat} {l:List aj} (h:AOk n all) (hl:vk l):AOk n (all.set i l):=⟨by rw [List.length_set]; exact h.1,λg hg=>(nR hg).elim (h.2 g) λe=>e▸hl⟩
theorem AL {a b:aj} (ha:FOk a) (hb:FOk b):Tot (ij a b) λf=>FOk f/\fm f<=fm a/\(f.Kind≠a.Kind\/f.N≠a.N->fm f<fm a):=by
 unfold ij
 refine .sel (λh=>.pure ⟨hb,?_⟩) λh=>.sel (λh'=>.pure ⟨ha,by omega,λh=>by omega⟩) λh'=>.pure ⟨.inr (.inr ⟨rfl,rfl⟩),?_⟩
 ·simp only [beq_iff_eq] at h
  unfold fm; unfold FOk at ha hb
  constructor
  ·omega
  ·intro _; omega
 ·simp only [beq_eq_false_iff_ne,ne_eq,Bool.or_eq_false_iff,Bool.and_eq_false_iff,Bool.and_true] at h h'
  unfold fm; unfold FOk at ha hb
  simp only
  constructor
  ·omega
  ·intro _; omega
theorem zI {n:Nat} {all:List (List aj)} {i:Int} {fs:List aj} (h:AOk n all) (h0:0<=i) (h1:i<n) (hf:vk fs):Tot (gb all i fs) λr=>AOk n r.2/\am r.2<=am all/\(r.1=true->am r.2<am all):=by
 unfold gb
 refine .bind (.iter (λs=>0<=s.2.1/\s.2.1<=12/\AOk n s.2.2/\am s.2.2<=am all/\(s.1=true->am s.2.2<am all)) (λs=>(12-s.2.1).toNat) ⟨by simp,by simp,h,by simp,by simp⟩ λs hs=>?_) λr (hr:AOk n r.2/\am r.2<=am all/\(r.1=true->am r.2<am all))=>.pure hr
 obtain ⟨iU,r,a⟩:=s
 obtain ⟨g0,g1,g2,g3,g4⟩:=hs
 simp only at g0 g1 g2 g3 g4
 unfold jM
 refine .sel (λhlt=>?_) λhlt=>.inr ⟨g2,g3,g4⟩
 simp only [decide_eq_true_eq] at hlt
 refine .bind (P:=λz=>AOk n z.2/\am z.2<=am all/\(z.1=true->am z.2<am all)) ?_ λz hz=>.inl ⟨⟨?_,?_,hz⟩,?_⟩
 ·refine .bind (.nth h0 (by rw [g2.1]; exact h1)) λl ⟨hl,hm⟩=>?_
  have hlo:=g2.2 l hm
  refine .bind (.nth g0 (by rw [hlo.1]; omega)) λx ⟨hx,hxm⟩=>.bind (.nth g0 (by rw [hf.1]; omega)) λy ⟨hy,hym⟩=>?_
  refine .bind (AL (hlo.2 x hxm) (hf.2 y hym)) λf hfj=>.bind (.nth h0 (by rw [g2.1]; exact h1)) λl' ⟨hl',_⟩=>?_
  obtain rfl:l=l':=o9 (hl.symm.trans hl')
  refine .bind (.nth g0 (by rw [hlo.1]; omega)) λx' ⟨hx',_⟩=>?_
  obtain rfl:x=x':=o9 (hx.symm.trans hx')
  refine .sel (λhne=>?_) λ_=>.pure ⟨g2,g3,g4⟩
  refine .bind (.nth g0 (by rw [hlo.1]; omega)) λ_ _=>.bind (.upd g0 (by rw [hlo.1]; omega)) λl2 hl2=>.pure ?_
  subst hl2
  have hlt2:fm f<fm x:=by
   refine hfj.2.2 ?_
   by_cases e1:f.Kind=x.Kind
   ·right; intro e2; simp [e1,e2] at hne
   ·exact .inl e1
  have e1:fsm (l.set r.toNat f)+fm x=fsm l+fm f:=oJ fm f hx
  have e2:am (a.set i.toNat (l.set r.toNat f))+fsm l=am a+fsm (l.set r.toNat f):=oJ fsm _ hl
  exact ⟨g2.set (hlo.set hfj.1),by simp only; omega,λ_=>by simp only; omega⟩
 ·rw [aq g0 (by omega)]; simp only; omega
 ·rw [aq g0 (by omega)]; simp only; omega
 ·rw [aq g0 (by omega)]; simp only; omega
theorem zJ {eQ:List ab} {q:ab} {m:Int} {fs:List aj} (hq:QOk m q) (hf:vk fs):Tot (ga q fs) vk:=by
 unfold ga
 refine .bind (.app (by simp [hf.1])) λl hl=>?_
 rw [List.nil_append] at hl
 subst hl
 have h12:=hf.1
 have rg:∀ {x:Int},Rg x->0<=x/\x<l.length:=λh=>by unfold Rg at h; omega
 refine .sel (λh=>?_) λ_=>.sel (λh=>?_) λ_=>.sel (λh=>?_) λ_=>.sel (λh=>?_) λ_=>.pure hf
 all_goals (simp only [beq_iff_eq] at h; unfold QOk at hq; simp [h] at hq)
 ·exact .bind (.nth (rg hq.1).1 (rg hq.1).2) λ_ _=>.bind (.upd (rg hq.1).1 (rg hq.1).2) λr hr=>.pure (hr▸hf.set (.inr (.inl ⟨rfl,hq.2.2.2⟩)))
 ·exact .bind (.nth (rg hq.2.1).1 (rg hq.2.1).2) λx hx=>.bind (.nth (rg hq.1).1 (rg hq.1).2) λ_ _=>.bind (.upd (rg hq.1).1 (rg hq.1).2) λr hr=>.pure (hr▸hf.set (hf.2 x hx.2))
 ·exact .bind (.nth (rg hq.1).1 (rg hq.1).2) λ_ _=>.bind (.upd (rg hq.1).1 (rg hq.1).2) λr hr=>.pure (hr▸hf.set (.inr (.inr ⟨rfl,rfl⟩)))
 ·refine .bind (.nth (rg hq.2.1).1 (rg hq.2.1).2) λx hx=>.bind (.nth (rg hq.2.2.1).1 (rg hq.2.2.1).2) λy hy=>.bind (P:=FOk) ?_ λf hf'=>.bind (.nth (rg hq.1).1 (rg hq.1).2) λ_ _=>.bind (.upd (rg hq.1).1 (rg hq.1).2) λr hr=>.pure (hr▸hf.set hf')
  have hx':=hf.2 x hx.2
  have hy':=hf.2 y hy.2
  unfold cw
  refine .sel (λ_=>.pure (.inr (.inr ⟨rfl,rfl⟩))) λhk=>?_
  simp only [Bool.or_eq_false_iff,bne_eq_false_iff_eq] at hk
  have hxw:Wd x.N:=by rcases hx' with h | h | h <;> first | exact h.2 | omega
  have hyw:Wd y.N:=by rcases hy' with h | h | h <;> first | exact h.2 | omega
  exact .bind (sV hq.2.2.2 hxw hyw) λr hr=>.pure (.inr (.inl ⟨rfl,hr⟩))
theorem zK {eQ:List ab} {fs:List aj} {i:Int} (hc:COk eQ) (hf:vk fs) (h0:0<=i) (h1:i<eQ.length):Tot (f9 eQ fs i) λl=>l.length<=2/\∀ x∈l,0<=x/\x<eQ.length:=by
 unfold f9
 refine .bind (.nth h0 h1) λq ⟨hq,hm⟩=>?_
 have hv:=hc.q q hm
 have hl:=hc.max
 have h12:=hf.1
 refine .bind (P:=λb=>b=false->q.Op=5) (.sel (λh=>.pure (by simp)) λh=>?_) λb hb=>.sel (λ_=>.bind (vg hc h0 h1) λr hr=>.pure hr) λhbf=>?_
 ·simp only [bne_eq_false_iff_eq] at h
  refine .bind (.nth (l:=fs) ?_ ?_) λx _=>.pure λ_=>h
  all_goals (unfold QOk at hv; simp [h] at hv; unfold Rg at hv; omega)
 ·have h5:=hb hbf
  have hn:=hc.nxt hq (by omega) (by omega)
  unfold QOk at hv
  simp [h5] at hv
  refine .bind (.nth (l:=fs) (by unfold Rg at hv; omega) (by unfold Rg at hv; omega)) λx _=>.sel (λ_=>.pure (by simp; omega)) λ_=>.pure ?_
  rw [aq h0 (by omega)]
  simp
  omega
theorem wt {eQ:List ab} {all:List (List aj)} (hc:COk eQ) (h:AOk eQ.length all):Tot (gc eQ all) λr=>AOk eQ.length r.2/\am r.2<=am all/\(r.1=true->am r.2<am all):=by
 unfold gc
 have hl:=hc.max
 refine .bind (.iter (λs=>0<=s.2.1/\s.2.1<=(eQ.length:Int)/\AOk eQ.length s.2.2/\am s.2.2<=am all/\(s.1=true->am s.2.2<am all)) (λs=>((eQ.length:Int)-s.2.1).toNat) ⟨by simp,by simp,h,by simp,by simp⟩ λs hs=>?_) λr (hr:AOk eQ.length r.2/\am r.2<=am all/\(r.1=true->am r.2<am all))=>.pure hr
 obtain ⟨iU,i,a⟩:=s
 obtain ⟨g0,g1,g2,g3,g4⟩:=hs
 simp only at g0 g1 g2 g3 g4
 unfold jO
 refine .sel (λhlt=>?_) λhlt=>.inr ⟨g2,g3,g4⟩
 simp only [decide_eq_true_eq] at hlt
 refine .bind (P:=λz=>AOk eQ.length z.2/\am z.2<=am all/\(z.1=true->am z.2<am all)) ?_ λz hz=>.inl ⟨⟨?_,?_,hz⟩,?_⟩
 ·refine .bind (.nth g0 (by rw [g2.1]; exact hlt)) λl ⟨hl',hm⟩=>?_
  have hlo:=g2.2 l hm
  refine .bind (.nth (by omega) (by rw [hlo.1]; omega)) λx _=>.sel (λ_=>.pure ⟨g2,g3,g4⟩) λ_=>?_
  refine .bind (zK hc hlo g0 hlt) λes he=>.bind (.nth g0 hlt) λq ⟨hq,hqm⟩=>.bind (zJ (eQ:=eQ) (hc.q q hqm) hlo) λaf haf=>?_
  refine .bind (.iter (λs=>0<=s.2.1/\s.2.1<=(es.length:Int)/\AOk eQ.length s.2.2/\am s.2.2<=am all/\(s.1=true->am s.2.2<am all)) (λs=>((es.length:Int)-s.2.1).toNat) ⟨by simp,by simp,g2,g3,g4⟩ λs hs=>?_) λr (hr:AOk eQ.length r.2/\am r.2<=am all/\(r.1=true->am r.2<am all))=>.pure hr
  obtain ⟨fresh',j,a'⟩:=s
  obtain ⟨k0,k1,k2,k3,k4⟩:=hs
  simp only at k0 k1 k2 k3 k4
  unfold jN
  refine .sel (λhlt'=>?_) λ_=>.inr ⟨k2,k3,k4⟩
  simp only [decide_eq_true_eq] at hlt'
  refine .bind (P:=λz=>AOk eQ.length z.2/\am z.2<=am all/\(z.1=true->am z.2<am all)) ?_ λz hz=>.inl ⟨⟨?_,?_,hz⟩,?_⟩
  ·refine .bind (.nth k0 hlt') λe ⟨_,hem⟩=>.bind (zI (all:=a') k2 (he.2 e hem).1 (he.2 e hem).2 haf) λr hr=>.sel (λhr1=>.pure ⟨hr.1,by simp only; omega,λ_=>by have:=hr.2.2 hr1; simp only; omega⟩) λ_=>.pure ⟨hr.1,by simp only; omega,λh=>by have:=k4 h; simp only; omega⟩
  all_goals (rw [aq k0 (by omega)]; simp only; omega)
 all_goals (rw [aq g0 (by omega)]; simp only; omega)
theorem zL {eQ:List ab} (hc:COk eQ):Tot (fU eQ) (AOk eQ.length):=by
 unfold fU
 rw [aU hc,ob9]
 have hl:=hc.max
 have h1:=hc.one
 refine .sf rfl ?_
 refine .bind (P:=AOk eQ.length) (.iter (λs=>0<=s.2/\s.2<=(eQ.length:Int)/\AOk s.2.toNat s.1) (λs=>((eQ.length:Int)-s.2).toNat) ⟨by simp,by simp,by simp [AOk]⟩ λs hs=>?_) λa0 ha0=>.bind (P:=AOk eQ.length) (.iter (λs=>0<=s.1/\s.1<=12/\AOk eQ.length s.2) (λs=>(12-s.1).toNat) ⟨by simp,by simp,ha0⟩ λs hs=>?_) λa1 ha1 =>
  .bind (P:=AOk eQ.length) (.iter (λs=>AOk eQ.length s) am ha1 λs hs=>?_) λr hr=>.pure hr
 ·obtain ⟨a,i⟩:=s
  obtain ⟨g0,g1,g2⟩:=hs
  simp only at g0 g1 g2
  unfold kK
  refine .sel (λhlt=>?_) λhlt=>.inr ?_
  ·simp only [decide_eq_true_eq] at hlt
   refine .bind (.mk (by omega) (by omega)) λl hl'=>.bind (.app (by simp [g2.1]; omega)) λr hr=>.inl ?_
   subst hr hl'
   rw [aq g0 (by omega)]
   refine ⟨⟨by simp only; omega,by simp only; omega,by simp [g2.1]; omega,λl hl'=>?_⟩,by simp only; omega⟩
   simp only [List.mem_append,List.mem_singleton] at hl'
   rcases hl' with h | rfl
   ·exact g2.2 l h
   ·exact ⟨by simp,λf hf=>by rw [(List.mem_replicate.1 hf).2]; exact .inl ⟨rfl,rfl⟩⟩
  ·simp only [decide_eq_false_iff_not] at hlt
   rw [show i.toNat=eQ.length by omega] at g2
   exact g2
 ·obtain ⟨r,a⟩:=s
  obtain ⟨g0,g1,g2⟩:=hs
  simp only at g0 g1 g2
  unfold kL
  refine .sel (λhlt=>?_) λhlt=>.inr g2
  simp only [decide_eq_true_eq] at hlt
  refine .bind (.nth (by omega) (by rw [g2.1]; omega)) λl ⟨_,hm⟩=>?_
  have hlo:=g2.2 l hm
  refine .bind (.nth g0 (by rw [hlo.1]; omega)) λ_ _=>.bind (.upd g0 (by rw [hlo.1]; omega)) λl' hl'=>.inl ?_
  subst hl'
  rw [aq g0 (by omega)]
  exact ⟨⟨by simp only; omega,by simp only; omega,g2.set (hlo.set (.inr (.inl ⟨rfl,by unfold Wd; simp⟩)))⟩,by simp only; omega⟩
 ·unfold kM
  exact .bind (wt hc hs) λr hr=>.sel (λh=>.inl ⟨hr.1,hr.2.2 h⟩) λ_=>.inr hr.1
end

end Go.Proofs.YtfpngipcclmliaaGreatDoor.N
