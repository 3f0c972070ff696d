/- The program logic: arrays by value. Printed by a program of mine: what the program's functions compute, as plain Lean functions. Plain laws of the natural funct -/
import Derived.Test.YtmjebmhcbnkojaaGreatK1
import Derived.ChangeKeysEq
import Derived.LoopN
import Derived.Test.YtmjebmhcbnkojaaGreatProg
set_option linter.unusedVariables false
set_option linter.unusedSimpArgs false
set_option maxRecDepth 100000
set_option maxHeartbeats 4000000
namespace Go.Proofs.YtmjebmhcbnkojaaGreat.X
noncomputable section
variable {P:Program} {n:Nat} {ops:Array Oper} {o:Oper} {rest:List Oper} {E E':Env} {W W' w w0:World} {a:Act} {v u v2:Value} {K:Env->World->Prop} {M T S:Nat->Prop} {L L0 L1:List Ent} {R:Exit->Env->World->Prop}
variable {t tn e te:TypeId} {ag:Bool} {z:Option Value} {zv:Value} {size bytes:Nat} {m c c2 k g j N:Nat} {α:Type} {enc:α->D} {f:α->List Value} {i:Int} {x y:α}
abbrev Ar (α:Type):=Nat->α
def arC:Nat->(α->List Value)->Ar α->List Value
 | 0,_,_=>[]
 | n+1,f,b=>arC n f b++f (b n)
def arD (n:Nat) (enc:α->D) (b:Ar α):D:=.agg ((List.range n).map λi=>enc (b i))
def cB (n:Nat) (b:Ar α) (i:Int):Option α:=if 0<=i/\i<n then some (b i.toNat) else none
def lD (b:Ar α) (i:Int) (x:α):Ar α:=λj=>if j=i.toNat then x else b j
def aeq:Nat->(α->α->Bool)->Ar α->Ar α->Bool
 | 0,_,_,_=>true
 | n+1,q,b,c=>aeq n q b c&&q (b n) (c n)
theorem mL {b:Ar α} (h:cB N b i=some x):0<=i/\i.toNat<N/\x=b i.toNat:=by
 unfold cB at h
 split at h
 ·rename_i hc
  injection h with h
  exact ⟨hc.1,by omega,h.symm⟩
 ·cases h
theorem et (hf:∀ x,(f x).length=k):∀ {N:Nat} {b:Ar α},(arC N f b).length=N*k
 | 0,_=>by simp [arC]
 | N+1,b=>by rw [arC,List.length_append,et hf,hf,Nat.succ_mul]
theorem sG (hf:∀ x,(f x).length=k) {q:Nat} (hq:q<k):∀ {N i:Nat} {b:Ar α},i<N->(arC N f b)[i*k+q]?=(f (b i))[q]?
 | 0,i,_,hi=>by omega
 | N+1,i,b,hi=>by
  rw [arC]
  have hl:(arC N f b).length=N*k:=et hf
  rcases Nat.lt_or_ge i N with h | h
  ·have h1:i*k+q<N*k:=by
    have h2:(i+1)*k<=N*k:=Nat.mul_le_mul_right k h
    rw [Nat.succ_mul] at h2
    omega
   rw [List.getElem?_append_left (by omega),sG hf hq h]
  ·obtain rfl:i=N:=by omega
   rw [List.getElem?_append_right (by omega),hl]
   congr 1
   omega
theorem wG (hf:∀ x,(f x).length=k) {N q m:Nat} {b:Ar α} {i:Nat} (hi:i<N) (hq:q+m<=k):seg (arC N f b) (i*k+q) m=seg (f (b i)) q m:=by
 apply List.ext_getElem?
 intro s
 simp only [seg,List.getElem?_take,List.getElem?_drop]
 split
 ·rw [Nat.add_assoc,sG hf (by omega) hi]
 ·rfl
theorem uw (hf:∀ x,(f x).length=k) {N:Nat} {b:Ar α} {i:Int} {x:α} (hi:i.toNat<N) (s:Nat):(arC N f (lD b i x))[s]?=if i.toNat*k<=s/\s<i.toNat*k+k then (f x)[s-i.toNat*k]? else (arC N f b)[s]?:=by
 rcases Nat.eq_zero_or_pos k with rfl | hk
 ·have e1:∀ b:Ar α,arC N f b=[]:=λb=>List.eq_nil_of_length_eq_zero (by rw [et hf]; simp)
  rw [e1,e1]
  simp
 have hs:s/k*k+s%k=s:=by rw [Nat.mul_comm]; exact Nat.div_add_mod s k
 have hm:=Nat.mod_lt s hk
 rcases Nat.lt_or_ge (s/k) N with h | h
 ·have key:∀ b:Ar α,(arC N f b)[s]?=(f (b (s/k)))[s%k]?:=λb=>by
   have:=sG (b:=b) hf hm h
   rwa [hs] at this
  rw [key,key]
  unfold lD
  by_cases he:s/k=i.toNat
  ·rw [if_pos he,if_pos (by rw [<-he]; omega)]
   congr 1
   rw [<-he]
   omega
  ·rw [if_neg he,if_neg]
   rintro ⟨h1,h2⟩
   apply he
   have h3:i.toNat<=s/k:=(Nat.le_div_iff_mul_le hk).2 h1
   have h4:s/k<i.toNat+1:=(Nat.div_lt_iff_lt_mul hk).2 (by rw [Nat.succ_mul]; exact h2)
   omega
 ·have h1:N*k<=s:=(Nat.le_div_iff_mul_le hk).1 h
  rw [List.getElem?_eq_none (by rw [et hf]; exact h1),if_neg,List.getElem?_eq_none (by rw [et hf]; exact h1)]
  rintro ⟨_,h2⟩
  have h3:(i.toNat+1)*k<=N*k:=Nat.mul_le_mul_right k hi
  rw [Nat.succ_mul] at h3
  omega
theorem sS {cs vs:List Value} {off:Nat} (h:off+vs.length<=cs.length) (s:Nat):(splice cs off vs)[s]?=if off<=s/\s<off+vs.length then vs[s-off]? else cs[s]?:=by
 have hl:(cs.take off).length=off:=by simp; omega
 unfold splice
 rcases Nat.lt_or_ge s off with h1 | h1
 ·rw [List.getElem?_append_left (by omega),if_neg (by omega),List.getElem?_take,if_pos h1]
 ·rw [List.getElem?_append_right (by omega),hl]
  rcases Nat.lt_or_ge s (off+vs.length) with h2 | h2
  ·rw [List.getElem?_append_left (by omega),if_pos ⟨h1,h2⟩]
  ·rw [List.getElem?_append_right (by omega),if_neg (by omega),List.getElem?_drop]
   congr 1
   omega
theorem sT (hf:∀ x,(f x).length=k) {N q:Nat} {b:Ar α} {i:Int} {x1:α} {vs:List Value} (hi:i.toNat<N) (hq:q+vs.length<=k) (hx:splice (f (b i.toNat)) q vs=f x1):splice (arC N f b) (i.toNat*k+q) vs=arC N f (lD b i x1):=by
 have hb:i.toNat*k+q+vs.length<=(arC N f b).length:=by
  rw [et hf]
  have h3:(i.toNat+1)*k<=N*k:=Nat.mul_le_mul_right k hi
  rw [Nat.succ_mul] at h3
  omega
 apply List.ext_getElem?
 intro s
 rw [sS hb,uw hf hi,<-hx]
 by_cases h1:i.toNat*k<=s/\s<i.toNat*k+k
 ·rw [if_pos h1,sS (by rw [hf]; exact hq)]
  have h2:=sG (b:=b) hf (q:=s-i.toNat*k) (by omega) hi
  rw [show i.toNat*k+(s-i.toNat*k)=s by omega] at h2
  by_cases h3:i.toNat*k+q<=s/\s<i.toNat*k+q+vs.length
  ·rw [if_pos h3,if_pos (by omega)]
   congr 1
   omega
  ·rw [if_neg h3,if_neg (by omega),h2]
 ·rw [if_neg h1,if_neg (by omega)]
theorem ux (h1:∀ x,(f x).all (·.oneCell')=true):∀ {N:Nat} {b:Ar α},(arC N f b).all (·.oneCell')=true
 | 0,_=>rfl
 | N+1,b=>by rw [arC,List.all_append,ux h1,h1,Bool.and_true]
theorem lda {p:Operand} {b:Ar α} (ht:aW P t=some (true,z,size,bytes)) (hS:Sep M w0 W (.box g te (arC N f b)::L)) (hl:(arC N f b).length=size) (ho:o.op=.load t p) (hp:ev E p=some (Pt g)):eh P n E o W (.agg (arC N f b).toArray) W:=
 ld ht hS ho hp (by show Value.agg _=_; simp [seg,<-hl]) (by simp [seg,hl]) rfl
theorem OpW.sta {p q:Operand} {b b':Ar α} (ht:aW P t=some (true,z,size,bytes)) (hS:Sep M w0 W (.box g te (arC N f b)::L)) (hl:∀ b:Ar α,(arC N f b).length=size) (h1:∀ x,(f x).all (·.oneCell')=true) (ho:o.op=.store t p q) (hp:ev E p=some (Pt g))
  (hq:ev E q=some (.agg (arC N f b').toArray)) (k2:∀ W',Sep M w0 W' (.box g te (arC N f b')::L)->K E W') (hg:o.guard=none:=by exact rfl) (hd:o.dst=none:=by exact rfl):OpW P n ops o E W K:=
 .st ht hS ho hp hq (λW' hS'=>k2 W' (by
  have e:splice (arC N f b) 0 (Value.agg (arC N f b').toArray).cells.toList=arC N f b':=by
   show splice _ 0 (arC N f b')=_
   unfold splice
   rw [List.take_zero,List.nil_append,List.drop_eq_nil_of_le (by rw [hl,Nat.zero_add,hl]; exact Nat.le_refl _),List.append_nil]
  rwa [e] at hS')) (by show (arC N f b').toArray.size=size; rw [List.size_toArray,hl]) (ux h1) (by rw [hl,Nat.zero_add]; exact Nat.ble_eq_true_of_le (Nat.le_refl _)) hg hd
theorem ixa {b:Ar α} {j0:IntKind} {p q:Operand} (hx:cB N b i=some x) (hu:P.underlying t=some (.array N e)) (ht:aW P e=some (ag,z,size,bytes)) (ho:o.op=.indexAddr t p q)
  (hp:ev E p=some (Pt g)) (hq:ev E q=some (.int j0 i)):eh P n E o W (.pointer (some ⟨g,i.toNat*size+0,none⟩)) W:=by
 intro a ha
 obtain ⟨h0,h1,h2⟩:=mL hx
 have hadd:(⟨g,0,none⟩:Addr).add (i.toNat*size)=⟨g,i.toNat*size,none⟩:=by unfold Addr.add; split <;> simp_all
 unfold execOp
 simp only [ho,ha.ev hp,ha.ev hq,Sem.run_bind,Instr.indexAt,asIntOf,Sem.run_pure,Result.andThen_ok,run_underlying hu,Instr.sureAddr]
 rw [if_pos ⟨h0,by omega⟩]
 simp [eo ht,hadd]
theorem ldx {p:Operand} {b:Ar α} (hS:Sep M w0 W (.box g te (arC N f b)::L)) (hx:cB N b i=some x) (hf:∀ x,(f x).length=k) (ht:aW P t=some (ag,z,size,bytes)) (ho:o.op=.load t p) (hp:ev E p=some (.pointer (some ⟨g,i.toNat*k+j,none⟩)))
  (hv:de ag (seg (f x) j size)=v) (hj:Nat.ble (j+size) k=true) (h2:(ag||Nat.beq size 1)=true):eh P n E o W v W:=by
 obtain ⟨h0,h1,rfl⟩:=mL hx
 have hj':=Nat.le_of_ble_eq_true hj
 have e:=wG hf (b:=b) h1 hj'
 exact ld ht hS ho hp (by rw [e]; exact hv) (by rw [e]; simp only [seg,List.length_take,List.length_drop,hf]; omega) h2
theorem OpW.stx {p q:Operand} {b:Ar α} {x0 x1:α} (hx:cB N b i=some x0) (hS:Sep M w0 W (.box g te (arC N f b)::L)) (hf:∀ x,(f x).length=k) (ht:aW P t=some (ag,z,size,bytes)) (ho:o.op=.store t p q) (hp:ev E p=some (.pointer (some ⟨g,i.toNat*k+j,none⟩)))
  (hq:ev E q=some v) (hc:splice (f x0) j v.cells.toList=f x1) (k2:∀ W',Sep M w0 W' (.box g te (arC N f (lD b i x1))::L)->K E W') (hl:v.cells.size=size:=by exact rfl) (h1:v.cells.toList.all (·.oneCell')=true:=by exact rfl) (hj:Nat.ble (j+size) k=true:=by exact rfl) (hg:o.guard=none:=by exact rfl) (hd:o.dst=none:=by exact rfl):OpW P n ops o E W K:=by
 obtain ⟨h0,hi,rfl⟩:=mL hx
 have hj':=Nat.le_of_ble_eq_true hj
 have hvl:v.cells.toList.length=size:=by simpa using hl
 refine .st ht hS ho hp hq (λW' hS'=>k2 W' ?_) hl h1 ?_ hg hd
 ·rwa [sT hf hi (by omega) hc] at hS'
 ·have h3:(i.toNat+1)*k<=N*k:=Nat.mul_le_mul_right k hi
  rw [Nat.succ_mul] at h3
  rw [et hf]
  exact Nat.ble_eq_true_of_le (by omega)
theorem ug:∀ {xs ys:List D} {c1 c2:List Value},dj.flats xs=some c1->dj.flats ys=some c2->dj.flats (xs++ys)=some (c1++c2)
 | [],ys,c1,c2,h,h'=>by
  simp only [dj.flats] at h
  injection h with h
  subst h
  exact h'
 | x::xs,ys,c1,c2,h,h'=>by
  simp only [dj.flats] at h
  cases h1:dj x <;> simp only [h1] at h <;> try contradiction
  rename_i d1
  cases h2:dj.flats xs <;> simp only [h2] at h <;> try contradiction
  rename_i d2
  injection h with h
  subst h
  simp only [List.cons_append,dj.flats,h1,ug h2 h',List.append_assoc]
theorem qE (hf:∀ x,dj (enc x)=some (f x)):∀ {N:Nat} {b:Ar α},dj (arD N enc b)=some (arC N f b):=by
 intro N b
 show dj.flats _=_
 induction N with
 | zero=>rfl
 | succ N ih =>
  rw [List.range_succ,List.map_append,arC]
  refine ug ih ?_
  simp only [List.map_cons,List.map_nil,dj.flats,hf,List.append_nil]
theorem uy {kk:Nat} {b:Ar α} {A:Option Addr} {p:Operand} (hc:∀ j u,(arC N f b)[j]?=some u->W.cell? (bJ A (kk+j))=some u) (ht:aW P t=some (true,z,size,bytes)) (hl:(arC N f b).length=size) (ho:o.op=.load t p) (hp:ev E p=some (.pointer (some (bJ A (kk+0))))):eh P n E o W (.agg (arC N f b).toArray) W:=
 lde hc ht ho hp (by show Value.agg _=_; simp [seg,<-hl]) (by simp [seg,hl]) rfl
theorem OpW.seva {p q:Operand} {l r:List (Ar α)} {x0 x1:Ar α} (hr:upd l i x1=some r) (hx:nth l i=some x0) (hS:Sep M w0 W (ac v2 e size (arD N enc) l::L)) (ht:aW P t=some (true,z,size,bytes)) (hf:∀ x,dj (enc x)=some (f x)) (hl:∀ b:Ar α,(arC N f b).length=size) (h1:∀ x,(f x).all (·.oneCell')=true) (ho:o.op=.store t p q)
  (hp:ev E p=some (.pointer (some (bJ (adr v2) (i.toNat*size+0))))) (hq:ev E q=some (.agg (arC N f x1).toArray))
  (k2:∀ W',Sep M w0 W' (ac v2 e size (arD N enc) r::L)->K E W') (h0:Nat.blt 0 size=true:=by exact rfl) (hg:o.guard=none:=by exact rfl) (hd:o.dst=none:=by exact rfl):OpW P n ops o E W K:=
 .sev hr hx hS ht ho hp hq (qE hf) (qE hf) (by
  show splice _ 0 (arC N f x1)=_
  unfold splice
  rw [List.take_zero,List.nil_append,List.drop_eq_nil_of_le (by rw [hl,Nat.zero_add,hl]; exact Nat.le_refl _),List.append_nil]) k2 (by show (arC N f x1).toArray.size=size; rw [List.size_toArray,hl]) (ux h1) (by rw [hl,Nat.zero_add]; exact Nat.ble_eq_true_of_le (Nat.le_refl _)) h0 hg hd
theorem AP {b:Ar α} {j0:IntKind} {kk:Nat} {A:Option Addr} {p q:Operand} (hx:cB N b i=some x) (hu:P.underlying t=some (.array N e)) (ht:aW P e=some (ag,z,size,bytes)) (ho:o.op=.indexAddr t p q)
  (hp:ev E p=some (.pointer (some (bJ A (kk+0))))) (hq:ev E q=some (.int j0 i)):eh P n E o W (.pointer (some (bJ A (kk+(i.toNat*size+0))))) W:=by
 intro a ha
 obtain ⟨h0,h1,h2⟩:=mL hx
 have hadd:(bJ A kk).add (i.toNat*size)=bJ A (kk+i.toNat*size):=by unfold bJ; rw [Addr.add_add]
 unfold execOp
 simp only [ho,ha.ev hp,ha.ev hq,Sem.run_bind,Instr.indexAt,asIntOf,Sem.run_pure,Result.andThen_ok,run_underlying hu,Instr.sureAddr]
 rw [if_pos ⟨h0,by omega⟩]
 simp [eo ht,hadd]
theorem OpW.sevx {p q:Operand} {l r:List (Ar α)} {b:Ar α} {x0 x1:α} {i2:Int} {tsize tb:Nat} (hr:upd l i (lD b i2 x1)=some r) (hx:nth l i=some b) (hx2:cB N b i2=some x0) (hS:Sep M w0 W (ac v2 e size (arD N enc) l::L)) (ht:aW P t=some (ag,z,tsize,tb)) (hfl:∀ x,dj (enc x)=some (f x)) (hf:∀ x,(f x).length=k) (ho:o.op=.store t p q)
  (hp:ev E p=some (.pointer (some (bJ (adr v2) (i.toNat*size+(i2.toNat*k+j)))))) (hq:ev E q=some v) (hc:splice (f x0) j v.cells.toList=f x1)
  (k2:∀ W',Sep M w0 W' (ac v2 e size (arD N enc) r::L)->K E W') (hl:v.cells.size=tsize:=by exact rfl) (h1:v.cells.toList.all (·.oneCell')=true:=by exact rfl) (hj:Nat.ble (j+tsize) k=true:=by exact rfl) (h0:Nat.blt 0 tsize=true:=by exact rfl) (hg:o.guard=none:=by exact rfl) (hd:o.dst=none:=by exact rfl):OpW P n ops o E W K:=by
 obtain ⟨h0',hi,rfl⟩:=mL hx2
 have hj':=Nat.le_of_ble_eq_true hj
 have hvl:v.cells.toList.length=tsize:=by simpa using hl
 refine .sev hr hx hS ht ho hp hq (qE hfl) (qE hfl) (sT hf hi (by omega) hc) k2 hl h1 ?_ h0 hg hd
 have h3:(i2.toNat+1)*k<=N*k:=Nat.mul_le_mul_right k hi
 rw [Nat.succ_mul] at h3
 rw [et hf]
 exact Nat.ble_eq_true_of_le (by omega)
theorem rS {d:Nat} {q:α->α->Bool} (hz:P.cellsOf e=k) (ht:aW P e=some (ag,z,k,bytes)) (hf:∀ x,(f x).length=k) (h2:(ag||Nat.beq k 1)=true) (hq:∀ x y,(Op.equalIn d e (de ag (f x)) (de ag (f y))).run P W=.ok (q x y) W) {N:Nat} {b c:Ar α} :
  ∀ m,m<=N->(Op.eqItems d e k (arC N f b).toArray (arC N f c).toArray ((List.range' (N-m) m))).run P W=.ok ((List.range' (N-m) m).all λi=>q (b i) (c i)) W
 | 0,_=>by simp [Op.eqItems]
 | m+1,hm=>by
  have hp:∀ b:Ar α,(part e (arC N f b).toArray ((N-(m+1))*k)).run P W=.ok (de ag (f (b (N-(m+1))))) W:=λb=>by
   have e1:=wG hf (b:=b) (N:=N) (i:=N-(m+1)) (q:=0) (m:=k) (by omega) (by omega)
   rw [Nat.add_zero] at e1
   have e2:seg (f (b (N-(m+1)))) 0 k=f (b (N-(m+1))):=by
    simp only [seg,List.drop_zero]
    rw [List.take_of_length_le (by rw [hf]; exact Nat.le_refl _)]
   rw [e2] at e1
   have:=sM (P:=P) (W:=W) (cs:=arC N f b) (off:=(N-(m+1))*k) ht (by rw [e1,hf]) h2
   rw [e1] at this
   exact this
  rw [List.range'_succ]
  simp only [Op.eqItems,Sem.run_bind,hp,hq,Result.andThen_ok,List.all_cons]
  cases hb:q (b (N-(m+1))) (c (N-(m+1)))
  ·simp
  ·have ih:=rS (N:=N) (b:=b) (c:=c) hz ht hf h2 hq m (by omega)
   rw [show N-m=N-(m+1)+1 by omega] at ih
   simpa using ih
theorem wH {q:α->α->Bool} {b c:Ar α}:∀ {N:Nat},(List.range N).all (λi=>q (b i) (c i))=aeq N q b c
 | 0=>rfl
 | N+1=>by rw [List.range_succ,List.all_append,wH,aeq]; simp
theorem xM {d:Nat} {offs:List (Nat×TypeDesc)} {xs ys:List Value} {b:Bool} (h:oY P t=some offs) (hv:pS xs ys offs=some b):(Op.equalIn (d+2) t (.agg xs.toArray) (.agg ys.toArray)).run P W=.ok b W:=by
 obtain ⟨fs,h1,h2,h3,h4⟩:=pp h
 have hf:P.fieldsOf t=fs:=by simp [Program.fieldsOf,h1]
 rw [run_equalIn_struct (P:=P) W (d+1) t _ _ (by rw [hf]; exact h1) h2,hf]
 exact qB (d:=d) h4 hv
theorem vn (ht:aW P e=some (ag,z,k,bytes)):P.cellsOf e=k/\∃ i,P.info? e=some i:=by
 obtain ⟨i,d,h1,h2,h3,h4,h5,h6⟩:=kR ht
 exact ⟨by simp [Program.cellsOf,h1,h5],i,h1⟩
theorem tV {d:Nat} (hu:P.underlying t=some (.array N e)) (ht:aW P e=some (ag,z,k,bytes)) (hf:∀ x,(f x).length=k) (h2:(ag||Nat.beq k 1)=true) {q:α->α->Bool} (hq:∀ x y,(Op.equalIn d e (de ag (f x)) (de ag (f y))).run P W=.ok (q x y) W) {b c:Ar α} :
  (Op.equalIn (d+1) t (.agg (arC N f b).toArray) (.agg (arC N f c).toArray)).run P W=.ok (aeq N q b c) W:=by
 obtain ⟨hz,i,hi⟩:=vn ht
 rw [run_equalIn_array W d _ _ hu hi,hz]
 have:=rS (N:=N) (b:=b) (c:=c) hz ht hf h2 hq N (Nat.le_refl _)
 rw [Nat.sub_self,<-List.range_eq_range'] at this
 rw [this,wH]
theorem nea {p r:Operand} {t':TypeId} {q:α->α->Bool} {b c:Ar α} (hG:P.eqGuardType P.depth t=false) (hu:P.underlying t=some (.array N e)) (ht:aW P e=some (ag,z,k,bytes)) (hf:∀ x,(f x).length=k) (h2:(ag||Nat.beq k 1)=true)
  (hq:∀ W x y,(Op.equalIn 9999 e (de ag (f x)) (de ag (f y))).run P W=.ok (q x y) W) (ho:o.op=.binOp .neq t p r t') (hp:ev E p=some (.agg (arC N f b).toArray)) (hr:ev E r=some (.agg (arC N f c).toArray)):eh P n E o W (.bool (!(aeq N q b c))) W:=by
 intro a ha
 have hg:(eqGuard .neq t p r (.agg (arC N f b).toArray) (.agg (arC N f c).toArray)).run P W=.ok () W:=by
  unfold eqGuard
  simp [run_program,hG]
 unfold execOp
 simp only [ho,ha.ev hp,ha.ev hr,Sem.run_bind,hg,Result.andThen_ok,run_neq_struct,tV (d:=9999) hu ht hf h2 (hq W)]
 rfl
theorem eqI {j:IntKind} (hu:P.underlying e=some (.int j)):∀ W (x y:Int),(Op.equalIn 9999 e (de false [.int j x]) (de false [.int j y])).run P W=.ok (x==y) W:=λW x y=>run_equalIn_int W 9998 e j j x y hu
theorem eqS {offs:List (Nat×TypeDesc)} {q:α->α->Bool} (h:oY P e=some offs) (hv:∀ x y,pS (f x) (f y) offs=some (q x y)):∀ W x y,(Op.equalIn 9999 e (de true (f x)) (de true (f y))).run P W=.ok (q x y) W:=λW x y=>xM (d:=9997) h (hv x y)
theorem OpW.lfn {k:Nat} {parts:Array (Nat×Operand)} {vs:List Value} (hu:P.underlying t=some (.slice e)) (ht:aW P e=some (ag,some zv,size,bytes)) (hS:Sep M w0 W L) (ho:o.op=.buildSlice t k parts) (hp:lO 0 parts.toList E=some vs) (hk:vs.length=k) (hvs:vl size vs=true)
  (h:∀ g W',Sep M w0 W' (.box g e (cA vs)::L)->K (put E o.dst (.slice (some ⟨g,0,none⟩) k k)) W') (hle:Nat.ble (k*size) 16777216=true:=by exact rfl) (hg:o.guard=none:=by exact rfl) (hd:okD n o.dst=true:=by exact rfl):OpW P n ops o E W K:=by
 refine .runs (W':=W.alloc (.cells (cA vs).toArray e)) (v:=.slice (some ⟨W.heap.size,0,none⟩) k k) (λa ha=>?_) hg hd (h W.heap.size _ (hS.box e (cA vs)))
 have h1:=lz ha hp
 have h2:parts.map (λp=>(p.1,a.eval p.2))=(cR 0 vs).toArray:=by rw [<-h1]; apply Array.ext'; simp
 unfold execOp
 simp only [ho,Sem.run_bind]
 rw [show (parts.map λ(x:Nat×Operand)=>match x with | (i,x)=>(i,a.eval x))=(cR 0 vs).toArray from h2,kg hu ht hk (pu hvs) (Nat.le_of_ble_eq_true hle)]
 rfl
theorem ixs {nn cc:Nat} {j0:IntKind} {p q:Operand} (hi:0<=i/\i<(nn:Int)) (hu:P.underlying t=some (.slice e)) (ht:aW P e=some (ag,z,size,bytes)) (ho:o.op=.indexAddr t p q)
  (hp:ev E p=some (.slice (some ⟨g,0,none⟩) nn cc)) (hq:ev E q=some (.int j0 i)):eh P n E o W (.pointer (some ⟨g,0+i.toNat*size,none⟩)) W:=by
 intro a ha
 have hadd:(⟨g,0,none⟩:Addr).add (i.toNat*size)=⟨g,0+i.toNat*size,none⟩:=by unfold Addr.add; split <;> simp_all
 unfold execOp
 simp only [ho,ha.ev hp,ha.ev hq,Sem.run_bind,Instr.indexAt,asIntOf,Sem.run_pure,Result.andThen_ok,run_underlying hu,Instr.sureAddr]
 rw [if_pos hi]
 simp [eo ht,hadd]
def CR (P:Program) (n:Nat) (c:Code) (N:Nat) (E:Env) (W:World) (R:Exit->Env->World->Prop):Prop:=∀ a,gv n E a->Code.rounds P c (λx a' W'=>∃ E',gv n E' a'/\R x E' W') N a W
theorem CW.rounds {c:Code} (N:Nat) (h:CR P n c N E W R):CW P n (.loop c) E W R:=λa ha=>wp_loop_rounds N (h a ha)
theorem CR.step {c:Code} {N:Nat} (h:CW P n c E W (wv (λE' W'=>CR P n c N E' W' R) R)):CR P n c (N+1) E W R:=by
 intro a ha
 rw [rounds_succ]
 refine Code.wp_mono ?_ (h a ha)
 rintro x a' w' ⟨E',hf',hx⟩
 cases x with
 | normal=>exact hx a' hf'
 | _=>exact ⟨E',hf',hx⟩
theorem vR (ha:gv n E a) (hg:gdu ops.toList E o.guard=true):Region.wanted o (yielded ops a.tmps)=false:=by
 cases hq:o.guard with
 | none=>rw [hq] at hg; simp [gdu] at hg
 | some p =>
  obtain ⟨j,b⟩:=p
  rw [hq] at hg
  simp only [gdu] at hg
  cases h1:nth? ops.toList j <;> simp only [h1] at hg <;> try contradiction
  rename_i o'
  cases h2:o'.dst <;> simp only [h2] at hg <;> try contradiction
  rename_i d
  cases h3:fz E d <;> simp only [h3] at hg <;> try contradiction
  rename_i z
  rw [nth?_eq] at h1
  have hj:ops[j]?=some o':=by simpa using h1
  have hd':=ha.h _ _ h3
  cases z <;> simp only at hg <;> first | contradiction | simp [Region.wanted,hq,yielded,hj,h2,hd']
theorem RK.offu {SW:World->Prop} {f:Nat} {ls:Array Bool} (i:Nat) (ho:ops[i]?=some o) (hS:SW W) (h:RK P n ops SW k f (ls.setIfInBounds i true) (put E o.dst undef) W K)
  (hs:(Region.noSelect ops&&Region.free .any ops ls i&&(Region.ready .any ops ls).contains i&&js ops k i&&!(Nat.beq i k))=true) (hg:gdu ops.toList E o.guard=true) (hd:okD n o.dst=true):RK P n ops SW k (f+1) ls E W K:=by
 intro a Q ha hk
 simp only [Bool.and_eq_true,Bool.not_eq_true'] at hs
 obtain ⟨⟨⟨⟨h1,h2⟩,h3⟩,h4⟩,h5⟩:=hs
 exact ol ho h1 (λc a w h=>h) h4 (by rintro rfl; rw [Nat.beq_refl] at h5; cases h5) (ox.of ho h2) (by simpa using h3) (.inr ⟨vR ha hg,rfl⟩) hS (h _ Q (ha.put hd _) hk)
def EC (w:World) (T:Nat->Prop) (A:Option Addr) (k:Nat) (cs:List Value):Prop:=∀ W,eN T w W->∀ j u,cs[j]?=some u->W.cell? (bJ A (k+j))=some u
theorem Sep.keepE {A:Option Addr} {cs:List Value} (h:Sep M w W L) (hc:EC w (Old M w) A k cs):EC W (Old No W) A k cs:=λW' hW'=>hc W' λb hb=>(hW' b ⟨Nat.lt_of_lt_of_le hb.1 h.frame.size,id⟩).trans (h.agree b hb)
def sU (ops:Array Oper):List Nat->Nat->Bool
 | [],_=>true
 | [m],i=>js ops m i
 | m::m'::r,i=>js ops m m'&&sU ops (m'::r) i
theorem uh {i:Nat} {l:Array Bool} (hi:l.getD i true=false):∀ {cs:List Nat},sU ops cs i=true->(∀ m∈cs,l.getD m true=false)->∀ m∈cs,m∉Region.ready .any ops l
 | [],_,_,m,hm=>by simp at hm
 | [m0],h,_,m,hm=>by
  obtain rfl:=List.mem_singleton.1 hm
  exact kU h hi
 | m0::m'::r,h,hc,m,hm=>by
  simp only [sU,Bool.and_eq_true] at h
  rcases List.mem_cons.1 hm with rfl | hm
  ·exact kU h.1 (hc m' (by simp))
  ·exact uh hi h.2 (λx hx=>hc x (List.mem_cons_of_mem _ hx)) m hm
section
variable {Q:Exit->Act->World->Prop} {SW:World->Prop} {k:Nat}
theorem vS {i:Nat} {cs:List Nat} {oi:Oper} {v:Value} (hi:ops[i]?=some oi) (hs:Region.noSelect ops=true) (hQ:∀ c a w,Q (.panic c) (a.put oi.dst v) w->Q (.panic c) a w) (hch:sU ops cs i=true) (hkc:k∈cs) (hik:i≠k) :
  ∀ {f:Nat} {l:Array Bool} {a:Act} {w:World},(∀ m∈cs,l.getD m true=false)->ox ops i oi l->i∈Region.ready .any ops l->YieldsIf P ops SW oi v a->SW w->wpM P ops Q SW k f (l.setIfInBounds i true) (a.put oi.dst v) w->wpM P ops Q SW k (f+1) l a w:=by
 intro f
 induction f with
 | zero =>
  intro l a w hm hL hr hy hS H
  refine ⟨λh=>absurd (h▸hr) (by simp),λj hj=>?_⟩
  rcases Nat.decEq j i with hji | hji
  ·exact absurd (ready_mono hj hji) (by rw [H.1]; simp)
  ·subst hji
   exact hy.wpOp hi hS ⟨λ_=>hS,H⟩
 | succ f ih =>
  intro l a w hm hL hr hy hS H
  have hl:=(mem_ready.1 hr).1
  refine ⟨λh=>absurd (h▸hr) (by simp),λj hj=>?_⟩
  rcases Nat.decEq j i with hji | hji
  ·obtain ⟨hjl,oj,hoj,_⟩:=mem_ready.1 hj
   have hout:=uh hl hch hm
   have hm':∀ m∈cs,(l.setIfInBounds j true).getD m true=false:=λm hmc=>by
    have hne:j≠m:=λh=>hout m hmc (by rw [<-h]; exact hj)
    rw [getD_set_ne true hne]
    exact hm m hmc
   have hk':=hm' k hkc
   have hsel:=Region.noSelect_spec hs
   refine wpOp_mono (λa' w' ⟨hy',hS',H'⟩=>⟨λ_=>hS' ?_,ih hm' (hL.set hjl) (ready_mono hr λh=>hji h.symm) hy' (hS' ?_) ?_⟩)
    (wpOp_putIf hoj (hL j oj hoj hji hjl (oh hl hj)) (λcs b=>hsel i oi cs b hi) (λcs b=>hsel j oj cs b hoj) hQ hy (H.2 j (ready_mono hj hji)))
   ·rw [Array.setIfInBounds_comm _ _ λh=>hji h.symm,getD_set_ne true hik]; exact hk'
   ·rw [Array.setIfInBounds_comm _ _ λh=>hji h.symm,getD_set_ne true hik]; exact hk'
   ·rwa [Array.setIfInBounds_comm _ _ hji]
  ·subst hji
   exact hy.wpOp hi hS ⟨λ_=>hS,H⟩
theorem RM.tL {f:Nat} {l:Array Bool} (i:Nat) (cs:List Nat) (ho:ops[i]?=some o) (hv:∀ W,SW W->eh P n E o W v W) (hS:SW W) (h:RM P n ops SW k f (l.setIfInBounds i true) (put E o.dst v) W K)
  (hs:(Region.noSelect ops&&Region.free .any ops l i&&(Region.ready .any ops l).contains i&&sU ops cs i&&cs.contains k&&!(Nat.beq i k)&&cs.all (λm=>!(l.getD m true)))=true) (hg:o.guard=none) (hd:okD n o.dst=true):RM P n ops SW k (f+1) l E W K:=by
 intro a Q ha hk
 simp only [Bool.and_eq_true,Bool.not_eq_true',List.all_eq_true] at hs
 obtain ⟨⟨⟨⟨⟨⟨h1,h2⟩,h3⟩,h4⟩,h5⟩,h6⟩,h7⟩:=hs
 exact vS ho h1 (λc a w h=>h) h4 (by simpa using h5) (by rintro rfl; rw [Nat.beq_refl] at h6; cases h6) (λm hm=>h7 m hm) (ox.of ho h2) (by simpa using h3) (.inl ⟨by simp [Region.wanted,hg],λw hw=>hv w hw a ha⟩) hS (h _ Q (ha.put hd v) hk)
end
theorem dl {α β γ:Type} {a:α} {f:α->γ} {g:β->γ} {r:γ} (h:jX (Sum.inl a) f g=r):f a=r:=h
theorem dm {α β γ:Type} {a:β} {f:α->γ} {g:β->γ} {r:γ} (h:jX (Sum.inr a) f g=r):g a=r:=h
end
end Go.Proofs.YtmjebmhcbnkojaaGreat.X
namespace Go.Proofs.YtmjebmhcbnkojaaGreat.N
open Go.Proofs.YtmjebmhcbnkojaaGreat.X
noncomputable section
structure aL where
 b:List Int
 p:Int
structure Expr where
 Op:Int
 N:Int
 Args:List Expr
mutual
def aC:Expr->D
 | ⟨x0,x1,x2⟩=>.agg [.int .i64 x0,.int .i64 x1,.row 77 3 (uz x2)]
def uz:List Expr->List D
 | []=>[]
 | x::r=>aC x::uz r
end
theorem sV:∀ l,uz l=l.map aC
 | []=>rfl
 | x::r=>by rw [uz,sV r,List.map]
theorem cq (x:Expr):aC x=.agg [.int .i64 x.Op,.int .i64 x.N,.row 77 3 (x.Args.map aC)]:=by
 cases x; simp only [aC,sV]
theorem xN (x:Expr):(aC x).sz=3:=by simp only [cq,D.sz,D.szs]
structure ae where
 Kind:Int
 Var:Int
 Box:Int
 Expr:Expr
 Body:List ae
 Else:List ae
mutual
def aj:ae->D
 | ⟨x0,x1,x2,x3,x4,x5⟩=>.agg [.int .i64 x0,.int .i64 x1,.int .i64 x2,aC x3,.row 80 8 (sW x4),.row 80 8 (sW x5)]
def sW:List ae->List D
 | []=>[]
 | x::r=>aj x::sW r
end
theorem sX:∀ l,sW l=l.map aj
 | []=>rfl
 | x::r=>by rw [sW,sX r,List.map]
theorem dT (x:ae):aj x=.agg [.int .i64 x.Kind,.int .i64 x.Var,.int .i64 x.Box,aC x.Expr,.row 80 8 (x.Body.map aj),.row 80 8 (x.Else.map aj)]:=by
 cases x; simp only [aj,sX]
theorem jl (x:ae):(aj x).sz=8:=by simp only [dT,D.sz,D.szs,xN]
structure aA where
 Rooms:List Int
 Tasks:List (List ae)
structure ab where
 Op:Int
 Dst:Int
 A:Int
 B:Int
 N:Int
def ah (x:ab):D:=.agg [.int .i64 x.Op,.int .i64 x.Dst,.int .i64 x.A,.int .i64 x.B,.int .i64 x.N]
abbrev gL (b:Ar Int):List Value:=arC 12 (λ(x:Int)=>[.int .u16 x]) b
theorem uA (b:Ar Int):(gL b).length=12:=et (k:=1) λ_=>rfl
theorem xO:∀ x:Int,([.int .u16 x]:List Value).all (·.oneCell')=true:=λ_=>rfl
structure oy where
 variable_:Bool
 box:Bool
 expr:Bool
 body:Bool
 other:Bool
structure ai where
 Kind:Int
 N:Int
def aX (x:ai):D:=.agg [.int .i64 x.Kind,.int .i64 x.N]
abbrev kc (b:Ar ai):List Value:=arC 12 (λ(x:ai)=>[.int .i64 x.Kind,.int .i64 x.N]) b
theorem kh (b:Ar ai):(kc b).length=24:=et (k:=2) λ_=>rfl
theorem sY:∀ x:ai,([.int .i64 x.Kind,.int .i64 x.N]:List Value).all (·.oneCell')=true:=λ_=>rfl
abbrev cQ (b:Ar Int):List Value:=arC 12 (λ(x:Int)=>[.int .i64 x]) b
theorem eO (b:Ar Int):(cQ b).length=12:=et (k:=1) λ_=>rfl
theorem nl:∀ x:Int,([.int .i64 x]:List Value).all (·.oneCell')=true:=λ_=>rfl
theorem T.u22:Tryz.prog.underlying 22=some (.slice 5):=by kernel_rfl
theorem T.t5:aW Tryz.prog 5=some (false,some (.int .u8 0),1,1):=by kernel_rfl
theorem T.s74:oX Tryz.prog 74=some ([(0,1),(1,1)],[.slice none 0 0,.int .i64 0]):=by kernel_rfl
theorem T.f74_1:j9 Tryz.prog 74 1=some (1,1,false):=by kernel_rfl
theorem T.t3:aW Tryz.prog 3=some (false,some (.int .i64 0),1,8):=by kernel_rfl
theorem T.f74_0:j9 Tryz.prog 74 0=some (0,1,false):=by kernel_rfl
theorem T.t22:aW Tryz.prog 22=some (false,some (.slice none 0 0),1,24):=by kernel_rfl
theorem T.u5:Tryz.prog.underlying 5=some (.int .u8):=by kernel_rfl
theorem T.u3:Tryz.prog.underlying 3=some (.int .i64):=by kernel_rfl
theorem T.mix:Tryz.prog.follows .mixedOrders=true:=by kernel_rfl
theorem T.u23:Tryz.prog.underlying 23=some (.slice 3):=by kernel_rfl
theorem T.t77:aW Tryz.prog 77=some (true,some (.agg #[.int .i64 0,.int .i64 0,.slice none 0 0]),3,40):=by kernel_rfl
theorem T.u75:Tryz.prog.underlying 75=some (.slice 77):=by kernel_rfl
theorem T.s77:oX Tryz.prog 77=some ([(0,1),(1,1),(2,1)],[.int .i64 0,.int .i64 0,.slice none 0 0]):=by kernel_rfl
theorem T.t80:aW Tryz.prog 80=some (true,some (.agg #[.int .i64 0,.int .i64 0,.int .i64 0,.int .i64 0,.int .i64 0,.slice none 0 0,.slice none 0 0,.slice none 0 0]),8,112):=by kernel_rfl
theorem T.s80:oX Tryz.prog 80=some ([(0,1),(1,1),(2,1),(3,3),(6,1),(7,1)],[.int .i64 0,.int .i64 0,.int .i64 0,.int .i64 0,.int .i64 0,.slice none 0 0,.slice none 0 0,.slice none 0 0]):=by kernel_rfl
theorem T.u36:Tryz.prog.underlying 36=some (.slice 80):=by kernel_rfl
theorem T.f80_4:j9 Tryz.prog 80 4=some (6,1,false):=by kernel_rfl
theorem T.t36:aW Tryz.prog 36=some (false,some (.slice none 0 0),1,24):=by kernel_rfl
theorem T.f80_5:j9 Tryz.prog 80 5=some (7,1,false):=by kernel_rfl
theorem T.t26:aW Tryz.prog 26=some (true,some (.agg #[.slice none 0 0,.slice none 0 0]),2,48):=by kernel_rfl
theorem T.u24:Tryz.prog.underlying 24=some (.slice 36):=by kernel_rfl
theorem T.s26:oX Tryz.prog 26=some ([(0,1),(1,1)],[.slice none 0 0,.slice none 0 0]):=by kernel_rfl
theorem T.f26_1:j9 Tryz.prog 26 1=some (1,1,false):=by kernel_rfl
theorem T.t24:aW Tryz.prog 24=some (false,some (.slice none 0 0),1,24):=by kernel_rfl
theorem T.f26_0:j9 Tryz.prog 26 0=some (0,1,false):=by kernel_rfl
theorem T.t23:aW Tryz.prog 23=some (false,some (.slice none 0 0),1,24):=by kernel_rfl
theorem T.t4:aW Tryz.prog 4=some (false,some (.bool false),1,1):=by kernel_rfl
theorem T.f62_1:j9 Tryz.prog 62 1=some (1,1,false):=by kernel_rfl
theorem T.f62_2:j9 Tryz.prog 62 2=some (2,1,false):=by kernel_rfl
theorem T.f62_3:j9 Tryz.prog 62 3=some (3,1,false):=by kernel_rfl
theorem T.f62_4:j9 Tryz.prog 62 4=some (4,1,false):=by kernel_rfl
theorem T.f62_0:j9 Tryz.prog 62 0=some (0,1,false):=by kernel_rfl
theorem T.t62:aW Tryz.prog 62=some (true,some (.agg #[.int .i64 0,.int .i64 0,.int .i64 0,.int .i64 0,.int .i64 0]),5,40):=by kernel_rfl
theorem T.s62:oX Tryz.prog 62=some ([(0,1),(1,1),(2,1),(3,1),(4,1)],[.int .i64 0,.int .i64 0,.int .i64 0,.int .i64 0,.int .i64 0]):=by kernel_rfl
theorem T.e62:oY Tryz.prog 62=some [(0,.int .i64),(1,.int .i64),(2,.int .i64),(3,.int .i64),(4,.int .i64)]:=by kernel_rfl
theorem T.u33:Tryz.prog.underlying 33=some (.slice 62):=by kernel_rfl
theorem T.u134:Tryz.prog.underlying 134=some (.slice 99):=by kernel_rfl
theorem T.t99:aW Tryz.prog 99=some (false,some (.int .u16 0),1,2):=by kernel_rfl
theorem T.t104:aW Tryz.prog 104=some (true,some (.agg #[.int .u16 0,.int .u16 0,.int .u16 0,.int .u16 0,.int .u16 0,.int .u16 0,.int .u16 0,.int .u16 0,.int .u16 0,.int .u16 0,.int .u16 0,.int .u16 0]),12,24):=by kernel_rfl
theorem T.u104:Tryz.prog.underlying 104=some (.array 12 99):=by kernel_rfl
theorem T.f77_0:j9 Tryz.prog 77 0=some (0,1,false):=by kernel_rfl
theorem T.f77_1:j9 Tryz.prog 77 1=some (1,1,false):=by kernel_rfl
theorem T.f77_2:j9 Tryz.prog 77 2=some (2,1,false):=by kernel_rfl
theorem T.t75:aW Tryz.prog 75=some (false,some (.slice none 0 0),1,24):=by kernel_rfl
theorem T.f80_0:j9 Tryz.prog 80 0=some (0,1,false):=by kernel_rfl
theorem T.f80_3:j9 Tryz.prog 80 3=some (3,3,true):=by kernel_rfl
theorem T.f80_1:j9 Tryz.prog 80 1=some (1,1,false):=by kernel_rfl
theorem T.f80_2:j9 Tryz.prog 80 2=some (2,1,false):=by kernel_rfl
theorem T.t175:aW Tryz.prog 175=some (true,some (.agg #[.bool false,.bool false,.bool false,.bool false,.bool false]),5,5):=by kernel_rfl
theorem T.f175_0:j9 Tryz.prog 175 0=some (0,1,false):=by kernel_rfl
theorem T.f175_2:j9 Tryz.prog 175 2=some (2,1,false):=by kernel_rfl
theorem T.f175_3:j9 Tryz.prog 175 3=some (3,1,false):=by kernel_rfl
theorem T.f175_4:j9 Tryz.prog 175 4=some (4,1,false):=by kernel_rfl
theorem T.f175_1:j9 Tryz.prog 175 1=some (1,1,false):=by kernel_rfl
theorem T.u29:Tryz.prog.underlying 29=some (.slice 33):=by kernel_rfl
theorem T.t33:aW Tryz.prog 33=some (false,some (.slice none 0 0),1,24):=by kernel_rfl
theorem T.u21:Tryz.prog.underlying 21=some (.int .i32):=by kernel_rfl
theorem T.t92:aW Tryz.prog 92=some (true,some (.agg #[.int .i64 0,.int .i64 0,.int .i64 0,.int .i64 0,.int .i64 0,.int .i64 0,.int .i64 0,.int .i64 0,.int .i64 0,.int .i64 0,.int .i64 0,.int .i64 0,.int .i64 0,.int .i64 0,.int .i64 0,.int .i64 0,.int .i64 0,.int .i64 0,.int .i64 0,.int .i64 0,.int .i64 0,.int .i64 0,.int .i64 0,.int .i64 0]),24,192):=by kernel_rfl
theorem T.s90:oX Tryz.prog 90=some ([(0,1),(1,1)],[.int .i64 0,.int .i64 0]):=by kernel_rfl
theorem T.t90:aW Tryz.prog 90=some (true,some (.agg #[.int .i64 0,.int .i64 0]),2,16):=by kernel_rfl
theorem T.u92:Tryz.prog.underlying 92=some (.array 12 90):=by kernel_rfl
theorem T.f90_0:j9 Tryz.prog 90 0=some (0,1,false):=by kernel_rfl
theorem T.f90_1:j9 Tryz.prog 90 1=some (1,1,false):=by kernel_rfl
theorem T.e90:oY Tryz.prog 90=some [(0,.int .i64),(1,.int .i64)]:=by kernel_rfl
theorem T.u87:Tryz.prog.underlying 87=some (.slice 92):=by kernel_rfl
theorem T.q92:Tryz.prog.eqGuardType Tryz.prog.depth 92=false:=by kernel_rfl
theorem T.t97:aW Tryz.prog 97=some (true,some (.agg #[.int .i64 0,.int .i64 0,.int .i64 0,.int .i64 0,.int .i64 0,.int .i64 0,.int .i64 0,.int .i64 0,.int .i64 0,.int .i64 0,.int .i64 0,.int .i64 0]),12,96):=by kernel_rfl
theorem T.u97:Tryz.prog.underlying 97=some (.array 12 3):=by kernel_rfl
theorem T.u94:Tryz.prog.underlying 94=some (.slice 97):=by kernel_rfl
theorem T.u102:Tryz.prog.underlying 102=some (.slice 4):=by kernel_rfl
theorem T.q97:Tryz.prog.eqGuardType Tryz.prog.depth 97=false:=by kernel_rfl
theorem T.u63:Tryz.prog.underlying 63=some (.slice 38):=by kernel_rfl
theorem T.t38:aW Tryz.prog 38=some (false,some (.nilFunc),1,8):=by kernel_rfl
theorem T.u166:Tryz.prog.underlying 166=some (.slice 90):=by kernel_rfl
theorem T.u163:Tryz.prog.underlying 163=some (.slice 166):=by kernel_rfl
theorem T.t166:aW Tryz.prog 166=some (false,some (.slice none 0 0),1,24):=by kernel_rfl
theorem T.u167:Tryz.prog.underlying 167=some (.slice 23):=by kernel_rfl
theorem T.u119:Tryz.prog.underlying 119=some (.slice 102):=by kernel_rfl
theorem T.t102:aW Tryz.prog 102=some (false,some (.slice none 0 0),1,24):=by kernel_rfl
theorem T.u4:Tryz.prog.underlying 4=some (.bool):=by kernel_rfl
def lF (a0:List Int):Option (aL):=
(sel (decide ((a0.length:Int)>2000)) ((cut a0 0 2000).bind λr1 =>
some r1) <|
some a0:Option ((List Int))).bind λy1 =>
some (aL.mk y1 0)
def ay (a0:aL) (a1:Int):Option (Int×Int):=
sel ((decide (a1<1))||((a0.b.length:Int)==0)) (some (0,w64 (a0.p+1))) <|
sel (decide ((w64 ((w64 (a0.p+1))-1))<(a0.b.length:Int))) ((nth a0.b (w64 ((w64 (a0.p+1))-1))).bind λx1 =>
(qC (w64 (x1)) a1).bind λd1 =>
some (d1,w64 (a0.p+1))) <|
(qC (w64 ((w64 (a0.p+1))-1)) (a0.b.length:Int)).bind λd2 =>
(nth a0.b d2).bind λx2 =>
(qC (w64 ((w64 ((w64 ((w64 (a0.p+1))-1))*7))+3)) (a0.b.length:Int)).bind λd3 =>
(nth a0.b d3).bind λx3 =>
(tU .i64 (w64 ((w64 (a0.p+1))-1)) (a0.b.length:Int)).bind λd4 =>
(qC (bq .xor .i64 (w64 ((w64 ((w64 ((w64 ((w64 (x2))*131))+(w64 ((w64 (x3))*1117))))+(w64 ((w64 ((w64 (a0.p+1))-1))*29))))+(w64 (d4*53)))) (w64 (Int.tdiv (w64 ((w64 ((w64 ((w64 ((w64 (x2))*131))+(w64 ((w64 (x3))*1117))))+(w64 ((w64 ((w64 (a0.p+1))-1))*29))))+(w64 (d4*53)))) 64))) a1).bind λd5 =>
some (d5,w64 (a0.p+1))
def kV (a0:aL) (x1:Int) (s1:(List Int)×Int×Int):Option (((List Int)×Int×Int)⊕((List Int)×Int)):=
sel (decide (s1.2.1<x1)) ((ay (aL.mk a0.b s1.2.2) 5).bind λy5 =>
(nth [1,1,2,3,4] y5.1).bind λx2 =>
(app 8 s1.1 [x2]).bind λr1 =>
some (.inl (r1,w64 (s1.2.1+1),y5.2))) <|
some (.inr (s1.1,s1.2.2))
def jt (a0:aL):Option ((List Int)×Int):=
(ay (aL.mk a0.b a0.p) 6).bind λy1 =>
(nth [0,1,1,2,2,3] y1.1).bind λx1 =>
(aI (kV a0 x1) ([],0,y1.2)).bind λy2 =>
some (y2.1,y2.2)
def cy (a0:Int) (a1:Int):Option (Expr):=
some (Expr.mk a0 a1 [])
def gw (a0:aL):Option (Expr×Int):=
(ay (aL.mk a0.b a0.p) 4).bind λy1 =>
sel (y1.1==0) ((ay (aL.mk a0.b y1.2) 4).bind λy2 =>
(cy 0 y2.1).bind λy3 =>
some ((Expr.mk y3.Op y3.N y3.Args),y2.2)) <|
sel (y1.1==1) ((ay (aL.mk a0.b y1.2) 8).bind λy4 =>
(nth [5,31,32,100,2047,2048,65536,99999] y4.1).bind λx1 =>
(cy 0 x1).bind λy5 =>
some ((Expr.mk y5.Op y5.N y5.Args),y4.2)) <|
(ay (aL.mk a0.b y1.2) 4).bind λy6 =>
(cy 13 y6.1).bind λy7 =>
some ((Expr.mk y7.Op y7.N y7.Args),y6.2)
def j5 (a0:Int) (a1:Expr) (a2:Expr):Option (Expr):=
some (Expr.mk a0 0 [(Expr.mk a1.Op a1.N a1.Args),(Expr.mk a2.Op a2.N a2.Args)])
def mg (a0:aL):Option (Int×Int):=
(ay (aL.mk a0.b a0.p) 12).bind λy1 =>
some (w64 (1+y1.1),y1.2)
def ij (k:Nat) (ik:aL->Int->Option (Expr×Int)) (a0:aL) (a1:Int):Option (Expr×Int):=
(sel (decide (a1<2)) (some (true,a0.p)) ((ay (aL.mk a0.b a0.p) 3).bind λy1=>some (y1.1==0,y1.2)):Option (Bool×Int)).bind λb1 =>
sel b1.1 ((gw (aL.mk a0.b b1.2)).bind λy2 =>
some ((Expr.mk y2.1.Op y2.1.N y2.1.Args),y2.2)) <|
(mg (aL.mk a0.b b1.2)).bind λy3 =>
(ik (aL.mk a0.b y3.2) (w64 (a1-1))).bind λy4 =>
(ik (aL.mk a0.b y4.2) (w64 (a1-1))).bind λy5 =>
(j5 y3.1 (Expr.mk y4.1.Op y4.1.N y4.1.Args) (Expr.mk y5.1.Op y5.1.N y5.1.Args)).bind λy6 =>
some ((Expr.mk y6.Op y6.N y6.Args),y5.2)
def mM:Nat->(aL->Int->Option (Expr×Int))
 | 0=>((λ_ _=>none))
 | k+1=>(ij k (mM k))
def dL (k:Nat):aL->Int->Option (Expr×Int):=(mM k)
def j6 (k:Nat) (a0:aL):Option (ae×Int):=
(ay (aL.mk a0.b a0.p) 3).bind λy1 =>
(ay (aL.mk a0.b y1.2) 3).bind λy2 =>
(dL k (aL.mk a0.b y2.2) (w64 (1+y2.1))).bind λy3 =>
some ((ae.mk 1 y1.1 0 (Expr.mk y3.1.Op y3.1.N y3.1.Args) [] []),y3.2)
def ki (k:Nat) (a0:aL) (a1:Int):Option (ae×Int):=
sel (decide (a1<1)) ((j6 k (aL.mk a0.b a0.p)).bind λy1 =>
some ((ae.mk y1.1.Kind y1.1.Var y1.1.Box (Expr.mk y1.1.Expr.Op y1.1.Expr.N y1.1.Expr.Args) y1.1.Body y1.1.Else),y1.2)) <|
(ay (aL.mk a0.b a0.p) a1).bind λy2 =>
(ay (aL.mk a0.b y2.2) 2).bind λy3 =>
sel (y3.1==0) ((ay (aL.mk a0.b y3.2) 3).bind λy4 =>
(dL k (aL.mk a0.b y4.2) (w64 (1+y4.1))).bind λy5 =>
some ((ae.mk 4 0 y2.1 (Expr.mk y5.1.Op y5.1.N y5.1.Args) [] []),y5.2)) <|
(ay (aL.mk a0.b y3.2) 3).bind λy6 =>
some ((ae.mk 5 y6.1 y2.1 (Expr.mk 0 0 []) [] []),y6.2)
def kW (a0:aL) (a1:Int) (a2:Int) (a3:Int) (a4:Bool) (bc:aL->Int->Int->Bool->Option ((List ae)×Int)) (s1:(List ae)×Int×Int):Option (((List ae)×Int×Int)⊕((List ae)×Int)):=
sel (decide (s1.2.1<a3)) ((bc (aL.mk a0.b s1.2.2) a1 a2 a4).bind λy4 =>
(app 112 s1.1 y4.1).bind λr1 =>
some (.inl (r1,w64 (s1.2.1+1),y4.2))) <|
some (.inr (s1.1,s1.2.2))
def gM (k:Nat) (aY:aL->Int->Int->Int->Bool->Option ((List ae)×Int)) (bc:aL->Int->Int->Bool->Option ((List ae)×Int)) (bx:aL->Int->Int->Bool->Option (ae×Int)) (bj:aL->Int->Int->Option ((List ae)×Int)) (a0:aL) (a1:Int) (a2:Int) (a3:Int) (a4:Bool):Option ((List ae)×Int):=
(aI (kW a0 a1 a2 a3 a4 bc) ([],0,a0.p)).bind λy1 =>
some (y1.1,y1.2)
def il (k:Nat) (aY:aL->Int->Int->Int->Bool->Option ((List ae)×Int)) (bc:aL->Int->Int->Bool->Option ((List ae)×Int)) (bx:aL->Int->Int->Bool->Option (ae×Int)) (bj:aL->Int->Int->Option ((List ae)×Int)) (a0:aL) (a1:Int) (a2:Int) (a3:Bool):Option ((List ae)×Int):=
((ay (aL.mk a0.b a0.p) 10).bind λy2 =>
(sel (y2.1==0) (some (y2.1==0)) <|
some (y2.1==1):Option (Bool)).bind λy3 =>
sel y3 ((j6 k (aL.mk a0.b y2.2)).bind λy4 =>
some (.inr ([(ae.mk y4.1.Kind y4.1.Var y4.1.Box (Expr.mk y4.1.Expr.Op y4.1.Expr.N y4.1.Expr.Args) y4.1.Body y4.1.Else)],y4.2))) <|
sel (y2.1==2) (sel (decide (a2>0)) ((bx (aL.mk a0.b y2.2) a1 a2 a3).bind λy5 =>
some (.inr ([(ae.mk y5.1.Kind y5.1.Var y5.1.Box (Expr.mk y5.1.Expr.Op y5.1.Expr.N y5.1.Expr.Args) y5.1.Body y5.1.Else)],y5.2))) <|
some (.inl y2.2)) <|
sel (y2.1==3) (sel ((decide (a2>0))&&a3) ((bj (aL.mk a0.b y2.2) a1 a2).bind λy6 =>
some (.inr (y6.1,y6.2))) <|
some (.inl y2.2)) <|
(sel (y2.1==4) (some (y2.1==4)) <|
sel (y2.1==5) (some (y2.1==5)) <|
some (y2.1==6):Option (Bool)).bind λy7 =>
sel y7 ((ki k (aL.mk a0.b y2.2) a1).bind λy8 =>
some (.inr ([(ae.mk y8.1.Kind y8.1.Var y8.1.Box (Expr.mk y8.1.Expr.Op y8.1.Expr.N y8.1.Expr.Args) y8.1.Body y8.1.Else)],y8.2))) <|
sel (y2.1==7) (some (.inr ([(ae.mk 6 0 0 (Expr.mk 0 0 []) [] [])],y2.2))) <|
some (.inl y2.2):Option (Int⊕((List ae)×Int))).bind λy1 =>
jX y1 (λo3=>(ay (aL.mk a0.b o3) 3).bind λy9 =>
(dL k (aL.mk a0.b y9.2) (w64 (1+y9.1))).bind λy10 =>
some ([(ae.mk 7 0 0 (Expr.mk y10.1.Op y10.1.N y10.1.Args) [] [])],y10.2)) (λo4 =>
some o4)
def kj (k:Nat) (aY:aL->Int->Int->Int->Bool->Option ((List ae)×Int)) (bc:aL->Int->Int->Bool->Option ((List ae)×Int)) (bx:aL->Int->Int->Bool->Option (ae×Int)) (bj:aL->Int->Int->Option ((List ae)×Int)) (a0:aL) (a1:Int) (a2:Int) (a3:Bool):Option (ae×Int):=
(ay (aL.mk a0.b a0.p) 2).bind λy1 =>
(dL k (aL.mk a0.b y1.2) (w64 (1+y1.1))).bind λy2 =>
(ay (aL.mk a0.b y2.2) 3).bind λy3 =>
(aY (aL.mk a0.b y3.2) a1 (w64 (a2-1)) y3.1 a3).bind λy4 =>
(ay (aL.mk a0.b y4.2) 3).bind λy5 =>
(aY (aL.mk a0.b y5.2) a1 (w64 (a2-1)) y5.1 a3).bind λy6 =>
some ((ae.mk 2 0 0 (Expr.mk y2.1.Op y2.1.N y2.1.Args) y4.1 y6.1),y6.2)
def im (k:Nat) (aY:aL->Int->Int->Int->Bool->Option ((List ae)×Int)) (bc:aL->Int->Int->Bool->Option ((List ae)×Int)) (bx:aL->Int->Int->Bool->Option (ae×Int)) (bj:aL->Int->Int->Option ((List ae)×Int)) (a0:aL) (a1:Int) (a2:Int):Option ((List ae)×Int):=
(ay (aL.mk a0.b a0.p) 3).bind λy1 =>
(aY (aL.mk a0.b y1.2) a1 (w64 (a2-1)) y1.1 false).bind λy2 =>
(cy 13 3).bind λy3 =>
(cy 0 1).bind λy4 =>
(j5 8 (Expr.mk y3.Op y3.N y3.Args) (Expr.mk y4.Op y4.N y4.Args)).bind λy5 =>
(cy 13 3).bind λy6 =>
(ay (aL.mk a0.b y2.2) 3).bind λy7 =>
(cy 0 (w64 (1+y7.1))).bind λy8 =>
(j5 5 (Expr.mk y6.Op y6.N y6.Args) (Expr.mk y8.Op y8.N y8.Args)).bind λy9 =>
(app 112 y2.1 [(ae.mk 1 3 0 (Expr.mk y5.Op y5.N y5.Args) [] [])]).bind λr1 =>
(cy 0 0).bind λy10 =>
some ([(ae.mk 1 3 0 (Expr.mk y10.Op y10.N y10.Args) [] []),(ae.mk 3 0 0 (Expr.mk y9.Op y9.N y9.Args) r1 [])],y7.2)
def aD:Nat->(aL->Int->Int->Int->Bool->Option ((List ae)×Int))×(aL->Int->Int->Bool->Option ((List ae)×Int))×(aL->Int->Int->Bool->Option (ae×Int))×(aL->Int->Int->Option ((List ae)×Int))
 | 0=>((λ_ _ _ _ _=>none),(λ_ _ _ _=>none),(λ_ _ _ _=>none),(λ_ _ _=>none))
 | k+1=>(gM k (aD k).1 (aD k).2.1 (aD k).2.2.1 (aD k).2.2.2,il k (aD k).1 (aD k).2.1 (aD k).2.2.1 (aD k).2.2.2,kj k (aD k).1 (aD k).2.1 (aD k).2.2.1 (aD k).2.2.2,im k (aD k).1 (aD k).2.1 (aD k).2.2.1 (aD k).2.2.2)
def cD (k:Nat):aL->Int->Int->Int->Bool->Option ((List ae)×Int):=(aD k).1
def iV (k:Nat):aL->Int->Int->Bool->Option ((List ae)×Int):=(aD k).2.1
def mh (k:Nat):aL->Int->Int->Bool->Option (ae×Int):=(aD k).2.2.1
def km (k:Nat):aL->Int->Int->Option ((List ae)×Int):=(aD k).2.2.2
def fT (a0:List ae) (dy:List ae->Option (Int)) (s1:Int×Int):Option ((Int×Int)⊕Int):=
sel (decide (s1.2<(a0.length:Int))) ((nth a0 s1.2).bind λx1 =>
(nth a0 s1.2).bind λx2 =>
(dy x1.Body).bind λy4 =>
(dy x2.Else).bind λy5 =>
some (.inl (w64 ((w64 ((w64 (s1.1+1))+y4))+y5),w64 (s1.2+1)))) <|
some (.inr s1.1)
def ch (k:Nat) (dy:List ae->Option (Int)) (a0:List ae):Option (Int):=
(aI (fT a0 dy) (0,0)).bind λy1 =>
some y1
def my:Nat->(List ae->Option (Int))
 | 0=>((λ_=>none))
 | k+1=>(ch k (my k))
def bR (k:Nat):List ae->Option (Int):=(my k)
def kX (k:Nat) (s1:(List ae)):Option (((List ae))⊕((List ae))):=
(bR k s1).bind λy6 =>
sel (decide (y6>16)) ((cut s1 0 (w64 ((s1.length:Int)-1))).bind λr1 =>
some (.inl r1)) <|
some (.inr s1)
def ju (k:Nat) (a0:aL) (a1:Int):Option ((List ae)×Int):=
(ay (aL.mk a0.b a0.p) 6).bind λy1 =>
(cD k (aL.mk a0.b y1.2) a1 3 (w64 (1+y1.1)) true).bind λy2 =>
(aI (kX k) y2.1).bind λy3 =>
some (y3,y2.2)
def gN (k:Nat) (a0:aL):Option (ae×Int):=
(cy 0 1).bind λy1 =>
(ay (aL.mk a0.b a0.p) 2).bind λy2 =>
(cD k (aL.mk a0.b y2.2) 0 1 y2.1 false).bind λy3 =>
some ((ae.mk 3 0 0 (Expr.mk y1.Op y1.N y1.Args) y3.1 []),y3.2)
def jY (a0:aL) (k:Nat) (y1:(List Int)×Int) (y2:Int×Int) (s1:Int×Int×(List (List ae))):Option ((Int×Int×(List (List ae)))⊕(Int×(List (List ae)))):=
sel (decide (s1.1<(w64 (1+y2.1)))) ((ju k (aL.mk a0.b s1.2.1) (y1.1.length:Int)).bind λy6 =>
(app 24 s1.2.2 [y6.1]).bind λr1 =>
some (.inl (w64 (s1.1+1),y6.2,r1))) <|
some (.inr (s1.2.1,s1.2.2))
def gO (k:Nat) (a0:aL):Option (aA×Int):=
(jt (aL.mk a0.b a0.p)).bind λy1 =>
(ay (aL.mk a0.b y1.2) 3).bind λy2 =>
(aI (jY a0 k y1 y2) (0,y2.2,[])).bind λy3 =>
(ay (aL.mk a0.b y3.1) 16).bind λy7 =>
sel (y7.1==0) ((gN k (aL.mk a0.b y7.2)).bind λy8 =>
(nth y3.2 0).bind λx1 =>
some ((aA.mk y1.1 (y3.2.set (Int.toNat 0) [(ae.mk y8.1.Kind y8.1.Var y8.1.Box (Expr.mk y8.1.Expr.Op y8.1.Expr.N y8.1.Expr.Args) y8.1.Body y8.1.Else)])),y8.2)) <|
some ((aA.mk y1.1 y3.2),y7.2)
def ko (y1:aA×Int) (y2:Int×Int):Option (aA×Int):=
(nth y1.1.Tasks 0).bind λx3 =>
(app 112 x3 [(ae.mk 0 0 0 (Expr.mk 0 0 []) [] [])]).bind λr4 =>
(nth r4 (x3.length:Int)).bind λx4 =>
some ((aA.mk y1.1.Rooms (y1.1.Tasks.set (Int.toNat 0) (r4.set (Int.toNat (x3.length:Int)) (ae.mk 9 0 0 (Expr.mk 0 0 []) [] [])))),y2.2)
def eZ (y1:aA×Int) (y2:Int×Int):Option (aA×Int):=
(nth y1.1.Tasks 0).bind λx5 =>
(app 112 x5 [(ae.mk 9 0 0 (Expr.mk 0 0 []) [] [])]).bind λr6 =>
some ((aA.mk y1.1.Rooms (y1.1.Tasks.set (Int.toNat 0) r6)),y2.2)
theorem pw {y1:aA×Int} {y2:Int×Int} {r:aA×Int} (h:eZ y1 y2=some r):ko y1 y2=some r:=by
 unfold eZ at h
 unfold ko
 obtain ⟨x,h1,h⟩:=bnd h
 obtain ⟨q,h2,h⟩:=bnd h
 obtain ⟨rfl,_⟩:=pP h2
 have h3:app 112 x [(ae.mk 0 0 0 (Expr.mk 0 0 []) [] [])]=some (x++[(ae.mk 0 0 0 (Expr.mk 0 0 []) [] [])]):=by
  unfold app at h2 ⊢
  simp only [List.length_singleton] at h2 ⊢
  have hr:ww 112 (x.length+1)=true:=by
   cases hr:ww 112 (x.length+1)
   ·rw [hr] at h2
    cases h2
   ·rfl
  rw [hr]
 have h4:nth (x++[(ae.mk 0 0 0 (Expr.mk 0 0 []) [] [])]) (x.length:Int)=some (ae.mk 0 0 0 (Expr.mk 0 0 []) [] []):=by
  unfold nth
  rw [if_neg (by omega),Int.toNat_natCast,List.getElem?_append_right (Nat.le_refl _),Nat.sub_self]
  rfl
 have h5:∀ s:ae,(x++[(ae.mk 0 0 0 (Expr.mk 0 0 []) [] [])]).set (Int.toNat (x.length:Int)) s=x++[s]:=λs=>by
  rw [Int.toNat_natCast,List.set_append_right _ _ (Nat.le_refl _),Nat.sub_self]
  rfl
 rw [h1,ob9,h3,ob9,h4,ob9,h5]
 exact h
def jv (k:Nat) (a0:aL):Option (aA×Int):=
(gO k (aL.mk a0.b a0.p)).bind λy1 =>
(ay (aL.mk a0.b y1.2) 30).bind λy2 =>
sel (y2.1==0) ((ay (aL.mk a0.b y2.2) 2).bind λy3 =>
(nth [0,5] y3.1).bind λx1 =>
(app 8 y1.1.Rooms [x1]).bind λr1 =>
some ((aA.mk r1 y1.1.Tasks),y3.2)) <|
sel (y2.1==1) ((gw (aL.mk a0.b y2.2)).bind λy4 =>
(app 24 y1.1.Tasks [[(ae.mk 4 0 (y1.1.Rooms.length:Int) (Expr.mk y4.1.Op y4.1.N y4.1.Args) [] [])]]).bind λr2 =>
some ((aA.mk y1.1.Rooms r2),y4.2)) <|
sel (y2.1==2) (some ((aA.mk y1.1.Rooms []),y2.2)) <|
sel (y2.1==3) ((nth y1.1.Tasks 0).bind λx2 =>
(app 24 y1.1.Tasks (List.replicate 3 x2)).bind λr3 =>
some ((aA.mk y1.1.Rooms r3),y2.2)) <|
sel (y2.1==4) (eZ y1 y2) <|
some ((aA.mk y1.1.Rooms y1.1.Tasks),y2.2)
def dF (k:Nat) (a0:List Int):Option (aA×Int):=
(lF a0).bind λy1 =>
(jv k (aL.mk y1.b y1.p)).bind λy2 =>
(ay (aL.mk y1.b y2.2) 30).bind λy3 =>
sel (y3.1==0) (some ((aA.mk y2.1.Rooms y2.1.Tasks),5)) <|
(ay (aL.mk y1.b y3.2) 3).bind λy4 =>
some ((aA.mk y2.1.Rooms y2.1.Tasks),y4.1)
def jZ (a0:Int):Option (Bool):=
some ((decide (a0>=0))&&(decide (a0<12)))
def io (a0:Int):Option (Bool):=
some ((decide (a0>=(-2147483648)))&&(decide (a0<=2147483647)))
def iW (a0:Int):Option (Bool):=
some ((decide (a0>=1))&&(decide (a0<=12)))
def ip (a0:ab) (a1:Int):Option (Bool):=
(jZ a0.Dst).bind λy1 =>
(jZ a0.A).bind λy2 =>
(jZ a0.B).bind λy3 =>
sel (a0.Op==1) ((sel (((a0.Op==1)&&((a0.Dst==a0.Dst)&&((a0.A==0)&&((a0.B==0)&&((a0.N==a0.N)&&true)))))&&y1) ((io a0.N).bind λy4=>some y4) (some false):Option (Bool)).bind λb1 =>
some b1) <|
sel (a0.Op==2) (some ((((a0.Op==2)&&((a0.Dst==a0.Dst)&&((a0.A==a0.A)&&((a0.B==0)&&((a0.N==0)&&true)))))&&y1)&&y2)) <|
sel (a0.Op==3) ((sel ((y1&&y2)&&y3) ((iW a0.N).bind λy5=>some y5) (some false):Option (Bool)).bind λb2 =>
some b2) <|
sel (a0.Op==4) (some ((((a0.Op==4)&&((a0.Dst==0)&&((a0.A==0)&&((a0.B==0)&&((a0.N==a0.N)&&true)))))&&(decide (a0.N>=0)))&&(decide (a0.N<a1)))) <|
sel (a0.Op==5) (some (((((a0.Op==5)&&((a0.Dst==0)&&((a0.A==a0.A)&&((a0.B==0)&&((a0.N==a0.N)&&true)))))&&y2)&&(decide (a0.N>=0)))&&(decide (a0.N<a1)))) <|
sel (a0.Op==6) (some (((((a0.Op==6)&&((a0.Dst==0)&&((a0.A==a0.A)&&((a0.B==0)&&((a0.N==a0.N)&&true)))))&&y2)&&(decide (a0.N>=0)))&&(decide (a0.N<3)))) <|
sel (a0.Op==7) (some (((((a0.Op==7)&&((a0.Dst==a0.Dst)&&((a0.A==0)&&((a0.B==0)&&((a0.N==a0.N)&&true)))))&&y1)&&(decide (a0.N>=0)))&&(decide (a0.N<3)))) <|
sel (a0.Op==9) (some (((a0.Op==9)&&((a0.Dst==0)&&((a0.A==a0.A)&&((a0.B==0)&&((a0.N==0)&&true)))))&&y2)) <|
(sel (a0.Op==8) (some (a0.Op==8)) <|
some (a0.Op==10):Option (Bool)).bind λy6 =>
sel y6 (some ((a0.Op==a0.Op)&&((a0.Dst==0)&&((a0.A==0)&&((a0.B==0)&&((a0.N==0)&&true)))))) <|
some false
def kq (a0:List ab) (s1:Int):Option (Int⊕(Bool⊕Unit)):=
sel (decide (s1<(a0.length:Int))) ((nth a0 s1).bind λx1 =>
(ip x1 (a0.length:Int)).bind λy4 =>
sel (!y4) (some (.inr (.inl false))) <|
some (.inl (w64 (s1+1)))) <|
some (.inr (.inr ()))
def bk (a0:List ab):Option (Bool):=
sel ((decide ((a0.length:Int)<1))||(decide ((a0.length:Int)>600))) (some false) <|
(aI (kq a0) 0).bind λy1 =>
jX y1 (λo3=>some o3) (λo4 =>
(nth a0 (w64 ((a0.length:Int)-1))).bind λx2 =>
some ((x2.Op==10)||(x2.Op==4)))
def az (a0:List ab):Option ((List ab)):=
(app 40 [] a0).bind λr1 =>
some r1
def iq (a0:ab):Option (Int):=
(sel (a0.Op==2) (some (a0.Op==2)) <|
sel (a0.Op==5) (some (a0.Op==5)) <|
sel (a0.Op==6) (some (a0.Op==6)) <|
some (a0.Op==9):Option (Bool)).bind λy1 =>
sel y1 ((shO .shl .u16 1 a0.A).bind λd1 =>
some d1) <|
sel (a0.Op==3) ((shO .shl .u16 1 a0.A).bind λd2 =>
(shO .shl .u16 1 a0.B).bind λd3 =>
some (bq .or .u16 d2 d3)) <|
some 0
def dU (a0:ab):Option (Int):=
(sel (a0.Op==1) (some (a0.Op==1)) <|
sel (a0.Op==2) (some (a0.Op==2)) <|
sel (a0.Op==3) (some (a0.Op==3)) <|
some (a0.Op==7):Option (Bool)).bind λy1 =>
sel y1 (some a0.Dst) <|
some (-1)
def gr (a0:ab) (a1:Int):Option ((List Int)):=
sel (a0.Op==10) (some []) <|
sel (a0.Op==4) (some [a0.N]) <|
sel ((a0.Op==5)&&(decide (a0.N<(w64 (a1+1))))) (some [a0.N,w64 (a1+1)]) <|
sel ((a0.Op==5)&&(decide (a0.N>(w64 (a1+1))))) (some [w64 (a1+1),a0.N]) <|
some [w64 (a1+1)]
def j1 (a1:List Int) (y1:(List Int)) (s1:Int×Int):Option ((Int×Int)⊕Int):=
sel (decide (s1.2<(y1.length:Int))) ((nth y1 s1.2).bind λx2 =>
(nth a1 x2).bind λx3 =>
some (.inl (bq .or .u16 s1.1 x3,w64 (s1.2+1)))) <|
some (.inr s1.1)
def dz (a0:List ab) (a1:List Int) (a2:Int):Option (Int):=
(nth a0 a2).bind λx1 =>
(gr x1 a2).bind λy1 =>
(aI (j1 a1 y1) (0,0)).bind λy2 =>
some y2
def cT (a0:List ab) (s2:Bool×Int×(List Int)):Option ((Bool×Int×(List Int))⊕(Bool×(List Int))):=
sel (decide (s2.2.1>=0)) (((dz a0 s2.2.2 s2.2.1).bind λy8 =>
((nth a0 s2.2.1).bind λx1 =>
(dU x1).bind λy10 =>
sel (decide (y10>=0)) ((shO .shl .u16 1 y10).bind λd1 =>
some (bq .andNot .u16 y8 d1)) <|
some y8:Option (Int)).bind λy9 =>
(nth a0 s2.2.1).bind λx2 =>
(iq x2).bind λy11 =>
(nth s2.2.2 s2.2.1).bind λx3 =>
sel ((bq .or .u16 y9 y11) !=x3) ((nth s2.2.2 s2.2.1).bind λx4 =>
(upd s2.2.2 s2.2.1 (bq .or .u16 y9 y11)).bind λr2 =>
some (true,r2)) <|
some (s2.1,s2.2.2):Option (Bool×(List Int))).bind λy7 =>
some (.inl (y7.1,w64 (s2.2.1-1),y7.2))) <|
some (.inr (s2.1,s2.2.2))
def bH (a0:List ab) (s1:Bool×(List Int)):Option ((Bool×(List Int))⊕((List Int))):=
sel s1.1 ((aI (cT a0) (false,w64 ((a0.length:Int)-1),s1.2)).bind λy4 =>
some (.inl (y4.1,y4.2))) <|
some (.inr s1.2)
def dA (a0:List ab):Option ((List Int)):=
(mk 2 (a0.length:Int) 0).bind λr1 =>
(aI (bH a0) (true,r1)).bind λy1 =>
some y1
def cP (a0:Int) (a1:Int):Option (Bool):=
(shO .shr .u16 a0 a1).bind λd1 =>
some ((bq .and .u16 d1 1)==1)
def jm (a0:Int) (s1:(List Int)×Int):Option (((List Int)×Int)⊕((List Int))):=
sel (decide (s1.2<12)) (((cP a0 s1.2).bind λy5 =>
sel y5 ((app 8 s1.1 [s1.2]).bind λr1 =>
some r1) <|
some s1.1:Option ((List Int))).bind λy4 =>
some (.inl (y4,w64 (s1.2+1)))) <|
some (.inr s1.1)
def fU (a0:Int):Option ((List Int)):=
(aI (jm a0) ([],0)).bind λy1 =>
some y1
def iX (y6:Int) (y9:(List Int)) (s2:Int×(Ar Int)):Option ((Int×(Ar Int))⊕((Ar Int))):=
sel (decide (s2.1<(y9.length:Int))) ((nth y9 s2.1).bind λx4 =>
(cB 12 s2.2 x4).bind λx5 =>
(shO .shl .u16 1 y6).bind λd3 =>
(cB 12 s2.2 x4).bind λx6 =>
some (.inl (w64 (s2.1+1),(lD s2.2 x4 (bq .or .u16 x5 d3))))) <|
some (.inr s2.2)
def kY (a0:List ab) (y1:(List Int)) (s1:Int×(Ar Int)):Option ((Int×(Ar Int))⊕((Ar Int))):=
sel (decide (s1.1<(a0.length:Int))) (((nth a0 s1.1).bind λx1 =>
(dU x1).bind λy6 =>
sel (decide (y6<0)) (some s1.2) <|
(shO .shl .u16 1 y6).bind λd1 =>
(dz a0 y1 s1.1).bind λy7 =>
(sel (x1.Op==2) ((shO .shl .u16 1 x1.A).bind λd2 =>
some (bq .andNot .u16 (bq .andNot .u16 y7 d1) d2)) <|
some (bq .andNot .u16 y7 d1):Option (Int)).bind λy8 =>
(cB 12 s1.2 y6).bind λx2 =>
(cB 12 s1.2 y6).bind λx3 =>
(fU y8).bind λy9 =>
(aI (iX y6 y9) (0,(lD s1.2 y6 (bq .or .u16 x2 y8)))).bind λy10 =>
some y10:Option ((Ar Int))).bind λy5 =>
some (.inl (w64 (s1.1+1),y5))) <|
some (.inr s1.2)
def gR (a0:List ab):Option ((Ar Int)):=
(dA a0).bind λy1 =>
(aI (kY a0 y1) (0,(λ_=>0))).bind λy2 =>
some y2
def kZ (y1:(Ar Int)) (s1:Int×(List Int)) (s2:Int×Int):Option ((Int×Int)⊕Int):=
sel (decide (s2.2<s1.1)) (((cB 12 y1 s1.1).bind λx1 =>
(cP x1 s2.2).bind λy9 =>
sel y9 ((nth s1.2 s2.2).bind λx2 =>
(shO .shl .u16 1 x2).bind λd1 =>
some (bq .or .u16 s2.1 d1)) <|
some s2.1:Option (Int)).bind λy8 =>
some (.inl (y8,w64 (s2.2+1)))) <|
some (.inr s2.1)
def k8 (s1:Int×(List Int)) (y5:Int) (s3:(List Int)):Option (((List Int))⊕((List Int))):=
(nth s3 s1.1).bind λx3 =>
(cP y5 x3).bind λy13 =>
sel y13 ((nth s3 s1.1).bind λx4 =>
(nth s3 s1.1).bind λx5 =>
(upd s3 s1.1 (w64 (x4+1))).bind λr2 =>
some (.inl r2)) <|
some (.inr s3)
def k9 (y1:(Ar Int)) (r1:List Int) (s1:Int×(List Int)):Option ((Int×(List Int))⊕((List Int))):=
sel (decide (s1.1<(r1.length:Int))) ((aI (kZ y1 s1) (0,0)).bind λy5 =>
(aI (k8 s1 y5) s1.2).bind λy10 =>
some (.inl (w64 (s1.1+1),y10))) <|
some (.inr s1.2)
def gS (a0:List ab):Option ((List Int)):=
(gR a0).bind λy1 =>
(mk 8 12 0).bind λr1 =>
(aI (k9 y1 r1) (0,r1)).bind λy2 =>
some y2
def fb (a0:List ab) (y2:(List Int)) (s1:Int×(List ab)):Option ((Int×(List ab))⊕((List ab))):=
sel (decide (s1.1<(a0.length:Int))) ((nth a0 s1.1).bind λx1 =>
(nth y2 x1.Dst).bind λx2 =>
(nth y2 x1.A).bind λx3 =>
(nth y2 x1.B).bind λx4 =>
(nth s1.2 s1.1).bind λx5 =>
(upd s1.2 s1.1 (ab.mk x5.Op x2 x5.A x5.B x5.N)).bind λr1 =>
(nth r1 s1.1).bind λx6 =>
(upd r1 s1.1 (ab.mk x6.Op x6.Dst x3 x6.B x6.N)).bind λr2 =>
(nth r2 s1.1).bind λx7 =>
(upd r2 s1.1 (ab.mk x7.Op x7.Dst x7.A x4 x7.N)).bind λr3 =>
some (.inl (w64 (s1.1+1),r3))) <|
some (.inr s1.2)
def dn (a0:List ab):Option ((List ab)×Bool):=
(bk a0).bind λy1 =>
sel (!y1) (some ([],false)) <|
(gS a0).bind λy2 =>
(az a0).bind λy3 =>
(aI (fb a0 y2) (0,y3)).bind λy4 =>
some (y4,true)
def eu (k:Nat) (ew:Expr->Int->List ab->Option ((List ab))) (a0:Expr) (a1:Int) (a2:List ab):Option ((List ab)):=
sel (a0.Op==0) ((app 40 a2 [(ab.mk 1 a1 0 0 a0.N)]).bind λr1 =>
some r1) <|
sel (a0.Op==13) ((app 40 a2 [(ab.mk 2 a1 a0.N 0 0)]).bind λr2 =>
some r2) <|
(nth a0.Args 0).bind λx1 =>
(ew (Expr.mk x1.Op x1.N x1.Args) a1 a2).bind λy1 =>
(nth a0.Args 1).bind λx2 =>
(ew (Expr.mk x2.Op x2.N x2.Args) (w64 (a1+1)) y1).bind λy2 =>
(app 40 y2 [(ab.mk 3 a1 a1 (w64 (a1+1)) a0.Op)]).bind λr3 =>
some r3
def lG:Nat->(Expr->Int->List ab->Option ((List ab)))
 | 0=>((λ_ _ _=>none))
 | k+1=>(eu k (lG k))
def d6 (k:Nat):Expr->Int->List ab->Option ((List ab)):=(lG k)
def ir (a0:List ae) (br:ae->List ab->Option ((List ab))) (s1:(List ab)×Int):Option (((List ab)×Int)⊕((List ab))):=
sel (decide (s1.2<(a0.length:Int))) ((nth a0 s1.2).bind λx1 =>
(br (ae.mk x1.Kind x1.Var x1.Box (Expr.mk x1.Expr.Op x1.Expr.N x1.Expr.Args) x1.Body x1.Else) s1.1).bind λy4 =>
some (.inl (y4,w64 (s1.2+1)))) <|
some (.inr s1.1)
def dG (k:Nat) (bz:List ae->List ab->Option ((List ab))) (br:ae->List ab->Option ((List ab))) (a0:List ae) (a1:List ab):Option ((List ab)):=
(aI (ir a0 br) (a1,0)).bind λy1 =>
some y1
def cr (k:Nat) (bz:List ae->List ab->Option ((List ab))) (br:ae->List ab->Option ((List ab))) (a0:ae) (a1:List ab):Option ((List ab)):=
(sel ((a0.Kind !=5)&&(a0.Kind !=6)) ((d6 k (Expr.mk a0.Expr.Op a0.Expr.N a0.Expr.Args) 4 a1).bind λy2 =>
some y2) <|
some a1:Option ((List ab))).bind λy1 =>
sel (a0.Kind==1) ((app 40 y1 [(ab.mk 2 a0.Var 4 0 0)]).bind λr1 =>
some r1) <|
sel (a0.Kind==4) ((app 40 y1 [(ab.mk 6 0 4 0 a0.Box)]).bind λr2 =>
some r2) <|
sel (a0.Kind==5) ((app 40 y1 [(ab.mk 7 a0.Var 0 0 a0.Box)]).bind λr3 =>
some r3) <|
sel (a0.Kind==6) ((app 40 y1 [(ab.mk 8 0 0 0 0)]).bind λr4 =>
some r4) <|
sel (a0.Kind==7) ((app 40 y1 [(ab.mk 9 0 4 0 0)]).bind λr5 =>
some r5) <|
(app 40 y1 [(ab.mk 5 0 4 0 0)]).bind λr6 =>
(bz a0.Body r6).bind λy3 =>
(sel (a0.Kind==3) ((app 40 y3 [(ab.mk 4 0 0 0 (a1.length:Int))]).bind λr7 =>
some r7) <|
some y3:Option ((List ab))).bind λy4 =>
(sel (decide ((a0.Else.length:Int)>0)) ((app 40 y4 [(ab.mk 4 0 0 0 0)]).bind λr8 =>
some r8) <|
some y4:Option ((List ab))).bind λy5 =>
(nth y5 (y1.length:Int)).bind λx1 =>
(upd y5 (y1.length:Int) (ab.mk x1.Op x1.Dst x1.A x1.B (y5.length:Int))).bind λr9 =>
sel (decide ((a0.Else.length:Int)>0)) ((bz a0.Else r9).bind λy6 =>
(nth y6 (y4.length:Int)).bind λx2 =>
(upd y6 (y4.length:Int) (ab.mk x2.Op x2.Dst x2.A x2.B (y6.length:Int))).bind λr10 =>
some r10) <|
some r9
def ca:Nat->(List ae->List ab->Option ((List ab)))×(ae->List ab->Option ((List ab)))
 | 0=>((λ_ _=>none),(λ_ _=>none))
 | k+1=>(dG k (ca k).1 (ca k).2,cr k (ca k).1 (ca k).2)
def bW (k:Nat):List ae->List ab->Option ((List ab)):=(ca k).1
def d7 (k:Nat):ae->List ab->Option ((List ab)):=(ca k).2
def cU (k:Nat) (a0:List ae):Option ((List ab)):=
(bW k a0 []).bind λy1 =>
(app 40 y1 [(ab.mk 10 0 0 0 0)]).bind λr1 =>
some r1
def fV (k:Nat) (fW:Expr->Int->Option (Bool)) (a0:Expr) (a1:Int):Option (Bool):=
sel (a0.Op==0) (some ((((decide (a0.N>=0))&&(decide (a0.N<=99999)))&&((a0.Args.length:Int)==0))&&(decide (a1>0)))) <|
sel (a0.Op==13) (some ((((decide (a0.N>=0))&&(decide (a0.N<4)))&&((a0.Args.length:Int)==0))&&(decide (a1>0)))) <|
(iW a0.Op).bind λy1 =>
(sel (((y1&&(a0.N==0))&&((a0.Args.length:Int)==2))&&(decide (a1>1))) ((nth a0.Args 0).bind λx1=>(fW (Expr.mk x1.Op x1.N x1.Args) (w64 (a1-1))).bind λy2=>some y2) (some false):Option (Bool)).bind λb1 =>
(sel b1 ((nth a0.Args 1).bind λx2=>(fW (Expr.mk x2.Op x2.N x2.Args) (w64 (a1-1))).bind λy3=>some y3) (some false):Option (Bool)).bind λb2 =>
some b2
def mi:Nat->(Expr->Int->Option (Bool))
 | 0=>((λ_ _=>none))
 | k+1=>(fV k (mi k))
def iu (k:Nat):Expr->Int->Option (Bool):=(mi k)
def fX (k:Nat) (a0:Expr):Option (Bool):=
(iu k (Expr.mk a0.Op a0.N a0.Args) 5).bind λy1 =>
some y1
def cW (a0:Int) (a1:Int) (a2:Bool):Option (Bool):=
some ((a0==0)||((a2&&(decide (a0>0)))&&(decide (a0<a1))))
def iv (k:Nat) (a0:ae) (a1:Int):Option (Bool):=
(sel (a0.Kind==1) (some (.inl (oy.mk true false true false false))) <|
sel (a0.Kind==2) (some (.inl (oy.mk false false true true true))) <|
sel (a0.Kind==3) (some (.inl (oy.mk false false true true false))) <|
sel (a0.Kind==4) (some (.inl (oy.mk false true true false false))) <|
sel (a0.Kind==5) (some (.inl (oy.mk true true false false false))) <|
sel (a0.Kind==7) (some (.inl (oy.mk false false true false false))) <|
sel (a0.Kind==6) (some (.inl (oy.mk false false false false false))) <|
some (.inr false):Option (oy⊕Bool)).bind λy1 =>
jX y1 (λo3=>(cW a0.Var 4 o3.variable_).bind λy2 =>
(sel (!y2) (some true) ((cW a0.Box a1 o3.box).bind λb_1=>some (!b_1))).bind λb1 =>
sel (b1||(o3.box&&(decide (a0.Box>=a1)))) (some false) <|
(sel o3.expr ((fX k (Expr.mk a0.Expr.Op a0.Expr.N a0.Expr.Args)).bind λy4=>some (!y4)) (some false):Option (Bool)).bind λb2 =>
sel (b2||((!o3.expr)&&(((a0.Expr.Op !=0)||(a0.Expr.N !=0))||(decide ((a0.Expr.Args.length:Int)>0))))) (some false) <|
some ((o3.body||((a0.Body.length:Int)==0))&&(o3.other||((a0.Else.length:Int)==0)))) (λo4 =>
some o4)
def gx (a0:List ae) (a1:Int) (a2:Int) (cG:List ae->Int->Int->Int->Option (Bool×Int)) (k:Nat) (s1:Int×Int):Option ((Int×Int)⊕((Bool×Int)⊕Int)):=
sel (decide (s1.1<(a0.length:Int))) (((nth a0 s1.1).bind λx1 =>
(iv k (ae.mk x1.Kind x1.Var x1.Box (Expr.mk x1.Expr.Op x1.Expr.N x1.Expr.Args) x1.Body x1.Else) a1).bind λy5 =>
sel ((!y5)||(decide (a2>3))) (some (.inr (false,s1.2))) <|
sel ((x1.Kind !=2)&&(x1.Kind !=3)) (some (.inl s1.2)) <|
(sel (decide (a2>=3)) (some (true,s1.2)) ((cG x1.Body a1 (w64 (a2+1)) s1.2).bind λy6=>some (!y6.1,y6.2)):Option (Bool×Int)).bind λb1 =>
(sel b1.1 (some (true,b1.2)) ((cG x1.Else a1 (w64 (a2+1)) b1.2).bind λy7=>some (!y7.1,y7.2)):Option (Bool×Int)).bind λb2 =>
sel b2.1 (some (.inr (false,b2.2))) <|
some (.inl b2.2):Option (Int⊕(Bool×Int))).bind λy4 =>
jX y4 (λo5=>some (.inl (w64 (s1.1+1),o5))) (λo6 =>
some (.inr (.inl o6)))) <|
some (.inr (.inr s1.2))
def fc (k:Nat) (cG:List ae->Int->Int->Int->Option (Bool×Int)) (a0:List ae) (a1:Int) (a2:Int) (a3:Int):Option (Bool×Int):=
sel (decide ((w64 (a3+(a0.length:Int)))>16)) (some (false,w64 (a3+(a0.length:Int)))) <|
(aI (gx a0 a1 a2 cG k) (0,w64 (a3+(a0.length:Int)))).bind λy1 =>
jX y1 (λo7=>some o7) (λo8 =>
some (true,o8))
def lW:Nat->(List ae->Int->Int->Int->Option (Bool×Int))
 | 0=>((λ_ _ _ _=>none))
 | k+1=>(fc k (lW k))
def eR (k:Nat):List ae->Int->Int->Int->Option (Bool×Int):=(lW k)
def eS (k:Nat) (a0:List ae) (a1:Int):Option (Bool):=
(eR k a0 a1 0 0).bind λy1 =>
some y1.1
def gy (a0:List Int) (s1:Int):Option (Int⊕(Bool⊕Unit)):=
sel (decide (s1<(a0.length:Int))) ((nth a0 s1).bind λx1 =>
sel ((decide (x1<1))||(decide (x1>4))) (some (.inr (.inl false))) <|
some (.inl (w64 (s1+1)))) <|
some (.inr (.inr ()))
def gP (a0:List Int):Option (Bool):=
(aI (gy a0) 0).bind λy1 =>
jX y1 (λo3=>some o3) (λo4 =>
some (decide ((a0.length:Int)<=3)))
def fd (a0:aA) (k:Nat) (s1:Int):Option (Int⊕(Bool⊕Unit)):=
sel (decide (s1<(a0.Tasks.length:Int))) ((nth a0.Tasks s1).bind λx1 =>
(eS k x1 (a0.Rooms.length:Int)).bind λy5 =>
sel (!y5) (some (.inr (.inl false))) <|
some (.inl (w64 (s1+1)))) <|
some (.inr (.inr ()))
def ff (k:Nat) (a0:aA):Option (Bool):=
(gP a0.Rooms).bind λy1 =>
sel (((!y1)||(decide ((a0.Tasks.length:Int)<1)))||(decide ((a0.Tasks.length:Int)>3))) (some false) <|
(aI (fd a0 k) 0).bind λy2 =>
jX y2 (λo3=>some o3) (λo4 =>
some true)
def dM (a0:aA) (k:Nat) (s1:(List (List ab))×Int):Option (((List (List ab))×Int)⊕((List (List ab)))):=
sel (decide (s1.2<(a0.Tasks.length:Int))) ((nth a0.Tasks s1.2).bind λx1 =>
(cU k x1).bind λy5 =>
(app 24 s1.1 [y5]).bind λr1 =>
some (.inl (r1,w64 (s1.2+1)))) <|
some (.inr s1.1)
def cK (k:Nat) (a0:aA):Option ((List (List ab))×Bool):=
(ff k (aA.mk a0.Rooms a0.Tasks)).bind λy1 =>
sel (!y1) (some ([],false)) <|
(aI (dM a0 k) ([],0)).bind λy2 =>
some (y2,true)
def la (a0:Bool):Option (Int):=
sel a0 (some 1) <|
some 0
def gU (a0:Int):Option (Int):=
some (w64 (mK .i32 (a0)))
def iw (a0:Int) (a1:Int) (a2:Int):Option (Int):=
sel (a0==1) (some (bq .or .i64 a1 a2)) <|
sel (a0==2) (some (bq .xor .i64 a1 a2)) <|
sel (a0==3) (some (bq .and .i64 a1 a2)) <|
sel (a0==4) ((la (a1==a2)).bind λy1 =>
some y1) <|
sel (a0==5) ((la (decide (a1<a2))).bind λy2 =>
some y2) <|
sel (a0==6) ((shO .shl .i64 a1 (bq .and .i64 a2 31)).bind λd1 =>
(gU d1).bind λy3 =>
some y3) <|
sel (a0==7) ((shO .shr .i64 a1 (bq .and .i64 a2 31)).bind λd2 =>
some d2) <|
sel (a0==8) ((gU (w64 (a1+a2))).bind λy4 =>
some y4) <|
sel (a0==9) ((gU (w64 (a1-a2))).bind λy5 =>
some y5) <|
sel (a0==10) ((gU (w64 (a1*a2))).bind λy6 =>
some y6) <|
sel (a0==11) (sel (a2==0) (some (-1)) <|
(tU .i64 a1 a2).bind λd3 =>
(gU d3).bind λy7 =>
some y7) <|
sel (a2==0) (some a1) <|
(qC a1 a2).bind λd4 =>
some d4
def fg (a0:Ar ai) (a1:ab):Option ((Ar ai)):=
(dU a1).bind λy1 =>
sel (decide (y1<0)) (some a0) <|
(sel (a1.Op==1) (some (ai.mk 1 a1.N)) <|
sel (a1.Op==2) ((cB 12 a0 a1.A).bind λx1 =>
some x1) <|
sel (a1.Op==3) ((cB 12 a0 a1.A).bind λx2 =>
(sel (x2.Kind==1) ((cB 12 a0 a1.B).bind λx3=>some (x3.Kind==1)) (some false):Option (Bool)).bind λb1 =>
sel b1 ((cB 12 a0 a1.A).bind λx4 =>
(cB 12 a0 a1.B).bind λx5 =>
(iw a1.N x4.N x5.N).bind λy3 =>
some (ai.mk 1 y3)) <|
some (ai.mk 2 0)) <|
some (ai.mk 2 0):Option (ai)).bind λy2 =>
(cB 12 a0 y1).bind λx6 =>
some (lD a0 y1 y2)
def kr (a0:ab) (a1:Int) (a2:Ar ai):Option ((List Int)):=
(sel (a0.Op==5) ((cB 12 a2 a0.A).bind λx1=>some (x1.Kind==1)) (some false):Option (Bool)).bind λb1 =>
sel b1 ((cB 12 a2 a0.A).bind λx2 =>
sel (x2.N==0) (some [a0.N]) <|
some [w64 (a1+1)]) <|
(gr a0 a1).bind λy1 =>
some y1
def iy (a0:ai) (a1:ai):Option (ai):=
sel ((a0.Kind==0)||((a0.Kind==a1.Kind)&&((a0.N==a1.N)&&true))) (some a1) <|
sel (a1.Kind==0) (some a0) <|
some (ai.mk 2 0)
def jn (s1:Int×(List (Ar ai))):Option ((Int×(List (Ar ai)))⊕((List (Ar ai)))):=
sel (decide (s1.1<12)) ((nth s1.2 0).bind λx1 =>
(cB 12 x1 s1.1).bind λx2 =>
(upd s1.2 0 (lD x1 s1.1 (ai.mk 1 0))).bind λr2 =>
some (.inl (w64 (s1.1+1),r2))) <|
some (.inr s1.2)
def fh (y7:(Ar ai)) (s4:Int×(Ar ai)):Option ((Int×(Ar ai))⊕((Ar ai))):=
sel (decide (s4.1<12)) ((cB 12 s4.2 s4.1).bind λx10 =>
(cB 12 y7 s4.1).bind λx11 =>
(iy x10 x11).bind λy16 =>
(cB 12 s4.2 s4.1).bind λx12 =>
some (.inl (w64 (s4.1+1),(lD s4.2 s4.1 y16)))) <|
some (.inr s4.2)
def fi (y7:(Ar ai)) (y8:(List Int)) (s3:(List Int)×Int×(List (Ar ai))):Option (((List Int)×Int×(List (Ar ai)))⊕((List Int)×(List (Ar ai)))):=
sel (decide (s3.2.1<(y8.length:Int))) (((nth y8 s3.2.1).bind λx8 =>
(nth s3.2.2 x8).bind λx9 =>
(aI (fh y7) (0,x9)).bind λy13 =>
(nth s3.2.2 x8).bind λx13 =>
sel (!(aeq 12 (λx y:ai=>(x.Kind==y.Kind&&(x.N==y.N&&true))) y13 x13)) ((nth s3.2.2 x8).bind λx14 =>
(upd s3.2.2 x8 y13).bind λr4 =>
(app 8 s3.1 [x8]).bind λr5 =>
some (r5,r4)) <|
some (s3.1,s3.2.2):Option ((List Int)×(List (Ar ai)))).bind λy12 =>
some (.inl (y12.1,w64 (s3.2.1+1),y12.2))) <|
some (.inr (s3.1,s3.2.2))
def iz (a0:List ab) (s2:(List Int)×(List (Ar ai))):Option (((List Int)×(List (Ar ai)))⊕((List (Ar ai)))):=
sel (decide ((s2.1.length:Int)>0)) ((nth s2.1 (w64 ((s2.1.length:Int)-1))).bind λx3 =>
(cut s2.1 0 (w64 ((s2.1.length:Int)-1))).bind λr3 =>
(nth s2.2 x3).bind λx4 =>
(nth a0 x3).bind λx5 =>
(fg x4 x5).bind λy7 =>
(nth a0 x3).bind λx6 =>
(nth s2.2 x3).bind λx7 =>
(kr x6 x3 x7).bind λy8 =>
(aI (fi y7 y8) (r3,0,s2.2)).bind λy9 =>
some (.inl (y9.1,y9.2))) <|
some (.inr s2.2)
def d8 (a0:List ab):Option ((List (Ar ai))):=
(mk 192 (a0.length:Int) (λ_=>(ai.mk 0 0))).bind λr1 =>
(aI (jn) (0,r1)).bind λy1 =>
(aI (iz a0) ([0],y1)).bind λy4 =>
some y4
def bS (a0:ai) (a1:Int):Option (Bool):=
some ((a0.Kind==1)&&(a0.N==a1))
def cH (a0:Int) (a1:ab):Option (ab):=
some (ab.mk 2 a1.Dst a0 0 0)
def kt (a0:ab) (a1:ai) (a2:ai):Option (ab):=
sel ((a1.Kind==1)&&(a2.Kind==1)) ((iw a0.N a1.N a2.N).bind λy1 =>
some (ab.mk 1 a0.Dst 0 0 y1)) <|
((sel (a0.N==1) (some (a0.N==1)) <|
sel (a0.N==2) (some (a0.N==2)) <|
some (a0.N==8):Option (Bool)).bind λy3 =>
sel y3 ((bS a2 0).bind λy4 =>
sel y4 ((cH a0.A a0).bind λy5 =>
some (.inr y5)) <|
(bS a1 0).bind λy6 =>
sel y6 ((cH a0.B a0).bind λy7 =>
some (.inr y7)) <|
some (.inl ())) <|
(sel (a0.N==6) (some (a0.N==6)) <|
sel (a0.N==7) (some (a0.N==7)) <|
some (a0.N==9):Option (Bool)).bind λy8 =>
sel y8 ((bS a2 0).bind λy9 =>
sel y9 ((cH a0.A a0).bind λy10 =>
some (.inr y10)) <|
some (.inl ())) <|
sel (a0.N==10) ((bS a2 1).bind λy11 =>
sel y11 ((cH a0.A a0).bind λy12 =>
some (.inr y12)) <|
(bS a1 1).bind λy13 =>
sel y13 ((cH a0.B a0).bind λy14 =>
some (.inr y14)) <|
some (.inl ())) <|
sel (a0.N==11) ((bS a2 1).bind λy15 =>
sel y15 ((cH a0.A a0).bind λy16 =>
some (.inr y16)) <|
some (.inl ())) <|
some (.inl ()):Option (Unit⊕ab)).bind λy2 =>
jX y2 (λo3=>(sel ((a0.N==3)||(a0.N==10)) ((bS a1 0).bind λy17=>(sel y17 (some true) ((bS a2 0).bind λy18=>some y18):Option (Bool)).bind λb2=>some b2) (some false):Option (Bool)).bind λb1 =>
sel b1 (some (ab.mk 1 a0.Dst 0 0 0)) <|
some a0) (λo4 =>
some o4)
def jw (a0:ab) (a1:Int) (a2:Ar ai):Option (ab):=
(sel (a0.Op==2) ((cB 12 a2 a0.A).bind λx1=>some (x1.Kind==1)) (some false):Option (Bool)).bind λb1 =>
sel b1 ((cB 12 a2 a0.A).bind λx2 =>
some (ab.mk 1 a0.Dst 0 0 x2.N)) <|
sel (a0.Op==3) ((cB 12 a2 a0.A).bind λx3 =>
(cB 12 a2 a0.B).bind λx4 =>
(kt a0 x3 x4).bind λy1 =>
some y1) <|
(sel (a0.Op==5) ((cB 12 a2 a0.A).bind λx5=>(bS x5 0).bind λy2=>some y2) (some false):Option (Bool)).bind λb2 =>
sel b2 (some (ab.mk 4 0 0 0 a0.N)) <|
(sel (a0.Op==5) ((cB 12 a2 a0.A).bind λx6=>some (x6.Kind==1)) (some false):Option (Bool)).bind λb3 =>
sel b3 (some (ab.mk 4 0 0 0 (w64 (a1+1)))) <|
some a0
def fY (a0:List ab) (y3:(List (Ar ai))) (s1:Int×(List ab)):Option ((Int×(List ab))⊕((List ab))):=
sel (decide (s1.1<(y3.length:Int))) (((nth y3 s1.1).bind λx1 =>
(cB 12 x1 0).bind λx2 =>
sel (x2.Kind !=0) ((nth a0 s1.1).bind λx3 =>
(jw x3 s1.1 x1).bind λy8 =>
(nth s1.2 s1.1).bind λx4 =>
(upd s1.2 s1.1 y8).bind λr1 =>
some r1) <|
some s1.2:Option ((List ab))).bind λy7 =>
some (.inl (w64 (s1.1+1),y7))) <|
some (.inr s1.2)
def jx (a0:List ab):Option ((List ab)×Bool):=
(bk a0).bind λy1 =>
sel (!y1) (some ([],false)) <|
(az a0).bind λy2 =>
(d8 a0).bind λy3 =>
(aI (fY a0 y3) (0,y2)).bind λy4 =>
some (y4,true)
def lc (s1:Int×(Ar Int)):Option ((Int×(Ar Int))⊕((Ar Int))):=
sel (decide (s1.1<12)) ((cB 12 s1.2 s1.1).bind λx1 =>
some (.inl (w64 (s1.1+1),(lD s1.2 s1.1 s1.1)))) <|
some (.inr s1.2)
def jy:Option ((Ar Int)):=
(aI (lc) (0,(λ_=>0))).bind λy1 =>
some y1
def gY (y1:Int) (s1:Int×(Ar Int)):Option ((Int×(Ar Int))⊕((Ar Int))):=
sel (decide (s1.1<12)) (((sel (s1.1==y1) (some true) ((cB 12 s1.2 s1.1).bind λx1=>some (x1==y1)):Option (Bool)).bind λb1 =>
sel b1 ((cB 12 s1.2 s1.1).bind λx2 =>
some (lD s1.2 s1.1 s1.1)) <|
some s1.2:Option ((Ar Int))).bind λy5 =>
some (.inl (w64 (s1.1+1),y5))) <|
some (.inr s1.2)
def eC (a0:Ar Int) (a1:ab):Option ((Ar Int)):=
(dU a1).bind λy1 =>
sel (decide (y1<0)) (some a0) <|
(aI (gY y1) (0,a0)).bind λy2 =>
sel (a1.Op==2) ((cB 12 y2 y1).bind λx3 =>
some (lD y2 y1 a1.A)) <|
some y2
def jo (a1:Ar Int) (s1:Int×(Ar Int)):Option ((Int×(Ar Int))⊕((Ar Int))):=
sel (decide (s1.1<12)) (((cB 12 s1.2 s1.1).bind λx1 =>
(cB 12 a1 s1.1).bind λx2 =>
sel (x1 !=x2) ((cB 12 s1.2 s1.1).bind λx3 =>
some (lD s1.2 s1.1 s1.1)) <|
some s1.2:Option ((Ar Int))).bind λy4 =>
some (.inl (w64 (s1.1+1),y4))) <|
some (.inr s1.2)
def fZ (a0:Ar Int) (a1:Ar Int):Option ((Ar Int)):=
(aI (jo a1) (0,a0)).bind λy1 =>
some y1
def iA (r1:List (Ar Int)) (s1:Int×(List (Ar Int))):Option ((Int×(List (Ar Int)))⊕((List (Ar Int)))):=
sel (decide (s1.1<(r1.length:Int))) ((jy).bind λy4 =>
(nth s1.2 s1.1).bind λx1 =>
(upd s1.2 s1.1 y4).bind λr3 =>
some (.inl (w64 (s1.1+1),r3))) <|
some (.inr s1.2)
def fj (y8:(Ar Int)) (y9:(List Int)) (s3:(List Int)×Int×(List Bool)×(List (Ar Int))):Option (((List Int)×Int×(List Bool)×(List (Ar Int)))⊕((List Int)×(List Bool)×(List (Ar Int)))):=
sel (decide (s3.2.1<(y9.length:Int))) (((nth y9 s3.2.1).bind λx7 =>
((nth s3.2.2.1 x7).bind λx8 =>
sel x8 ((nth s3.2.2.2 x7).bind λx9 =>
(fZ x9 y8).bind λy15 =>
some y15) <|
some y8:Option ((Ar Int))).bind λy14 =>
(nth s3.2.2.1 x7).bind λx10 =>
(sel (!x10) (some true) ((nth s3.2.2.2 x7).bind λb_1=>some (!(aeq 12 (λ(x y:Int)=>x==y) y14 b_1)))).bind λb1 =>
sel b1 ((nth s3.2.2.1 x7).bind λx12 =>
(upd s3.2.2.1 x7 true).bind λr6 =>
(nth s3.2.2.2 x7).bind λx13 =>
(upd s3.2.2.2 x7 y14).bind λr7 =>
(app 8 s3.1 [x7]).bind λr8 =>
some (r8,r6,r7)) <|
some (s3.1,s3.2.2.1,s3.2.2.2):Option ((List Int)×(List Bool)×(List (Ar Int)))).bind λy13 =>
some (.inl (y13.1,w64 (s3.2.1+1),y13.2.1,y13.2.2))) <|
some (.inr (s3.1,s3.2.2.1,s3.2.2.2))
def iB (a0:List ab) (s2:(List Int)×(List Bool)×(List (Ar Int))):Option (((List Int)×(List Bool)×(List (Ar Int)))⊕((List Bool)×(List (Ar Int)))):=
sel (decide ((s2.1.length:Int)>0)) ((nth s2.1 (w64 ((s2.1.length:Int)-1))).bind λx3 =>
(cut s2.1 0 (w64 ((s2.1.length:Int)-1))).bind λr5 =>
(nth s2.2.2 x3).bind λx4 =>
(nth a0 x3).bind λx5 =>
(eC x4 x5).bind λy8 =>
(nth a0 x3).bind λx6 =>
(gr x6 x3).bind λy9 =>
(aI (fj y8 y9) (r5,0,s2.2.1,s2.2.2)).bind λy10 =>
some (.inl (y10.1,y10.2.1,y10.2.2))) <|
some (.inr (s2.2.1,s2.2.2))
def dw (a0:List ab):Option ((List (Ar Int))):=
(mk 96 (a0.length:Int) (λ_=>0)).bind λr1 =>
(mk 1 (a0.length:Int) false).bind λr2 =>
(aI (iA r1) (0,r1)).bind λy1 =>
(nth r2 0).bind λx2 =>
(upd r2 0 true).bind λr4 =>
(aI (iB a0) ([0],r4,y1)).bind λy5 =>
some y5.2
def f0 (a0:List ab) (y3:(List (Ar Int))) (s1:Int×(List ab)):Option ((Int×(List ab))⊕((List ab))):=
sel (decide (s1.1<(y3.length:Int))) (((nth y3 s1.1).bind λx1 =>
(nth a0 s1.1).bind λx2 =>
(iq x2).bind λy8 =>
(sel (y8 !=0) ((nth a0 s1.1).bind λx3 =>
(cB 12 x1 x3.A).bind λx4 =>
(nth s1.2 s1.1).bind λx5 =>
(upd s1.2 s1.1 (ab.mk x5.Op x5.Dst x4 x5.B x5.N)).bind λr1 =>
some r1) <|
some s1.2:Option ((List ab))).bind λy9 =>
(nth a0 s1.1).bind λx6 =>
sel (x6.Op==3) ((nth a0 s1.1).bind λx7 =>
(cB 12 x1 x7.B).bind λx8 =>
(nth y9 s1.1).bind λx9 =>
(upd y9 s1.1 (ab.mk x9.Op x9.Dst x9.A x8 x9.N)).bind λr2 =>
some r2) <|
some y9:Option ((List ab))).bind λy7 =>
some (.inl (w64 (s1.1+1),y7))) <|
some (.inr s1.2)
def jz (a0:List ab):Option ((List ab)×Bool):=
(bk a0).bind λy1 =>
sel (!y1) (some ([],false)) <|
(az a0).bind λy2 =>
(dw a0).bind λy3 =>
(aI (f0 a0 y3) (0,y2)).bind λy4 =>
some (y4,true)
def dt (a0:ab):Option (Bool):=
some ((a0.Op==4)||(a0.Op==5))
def mj (a0:List ab) (s1:Int×Int):Option ((Int×Int)⊕(Int⊕Unit)):=
sel (decide (s1.2<(a0.length:Int))) ((nth a0 s1.1).bind λx1 =>
sel (x1.Op !=4) (some (.inr (.inl s1.1))) <|
(nth a0 s1.1).bind λx2 =>
some (.inl (x2.N,w64 (s1.2+1)))) <|
some (.inr (.inr ()))
def jK (a0:List ab) (a1:Int):Option (Int):=
(aI (mj a0) (a1,0)).bind λy1 =>
jX y1 (λo3=>some o3) (λo4 =>
some a1)
def f5 (a0:List ab) (s1:Int×(List ab)):Option ((Int×(List ab))⊕((List ab))):=
sel (decide (s1.1<(a0.length:Int))) (((nth a0 s1.1).bind λx1 =>
(dt x1).bind λy7 =>
sel y7 ((jK a0 x1.N).bind λy8 =>
(nth s1.2 s1.1).bind λx2 =>
(upd s1.2 s1.1 (ab.mk x2.Op x2.Dst x2.A x2.B y8)).bind λr1 =>
some r1) <|
some s1.2:Option ((List ab))).bind λy6 =>
some (.inl (w64 (s1.1+1),y6))) <|
some (.inr s1.2)
def jA (a0:List ab):Option ((List ab)×Bool):=
(bk a0).bind λy1 =>
sel (!y1) (some ([],false)) <|
(az a0).bind λy2 =>
(aI (f5 a0) (0,y2)).bind λy3 =>
some (y3,true)
def g8 (a0:List ab) (y1:(List Int)) (s1:(List Int)×Int):Option (((List Int)×Int)⊕((List Int))):=
sel (decide (s1.2<(a0.length:Int))) (((nth a0 s1.2).bind λx1 =>
(dU x1).bind λy6 =>
(sel ((decide (y6>=0))&&(x1.Op !=7)) ((dz a0 y1 s1.2).bind λy7=>(cP y7 y6).bind λy8=>some (!y8)) (some false):Option (Bool)).bind λb1 =>
sel b1 ((app 8 s1.1 [s1.2]).bind λr1 =>
some r1) <|
some s1.1:Option ((List Int))).bind λy5 =>
some (.inl (y5,w64 (s1.2+1)))) <|
some (.inr s1.1)
def ku (a0:List ab):Option ((List Int)):=
(dA a0).bind λy1 =>
(aI (g8 a0 y1) ([],0)).bind λy2 =>
some y2
def iY (y3:(List Int)) (s1:Int×(List ab)):Option ((Int×(List ab))⊕((List ab))):=
sel (decide (s1.1<(y3.length:Int))) ((nth y3 s1.1).bind λx1 =>
(nth s1.2 x1).bind λx2 =>
(upd s1.2 x1 (ab.mk 4 0 0 0 (w64 (x1+1)))).bind λr1 =>
some (.inl (w64 (s1.1+1),r1))) <|
some (.inr s1.2)
def jB (a0:List ab):Option ((List ab)×Bool):=
(bk a0).bind λy1 =>
sel (!y1) (some ([],false)) <|
(az a0).bind λy2 =>
(ku a0).bind λy3 =>
(aI (iY y3) (0,y2)).bind λy4 =>
some (y4,true)
def kw (y5:(List Int)) (s2:(List Int)×Int×(List Bool)):Option (((List Int)×Int×(List Bool))⊕((List Int)×(List Bool))):=
sel (decide (s2.2.1<(y5.length:Int))) (((nth y5 s2.2.1).bind λx4 =>
(nth s2.2.2 x4).bind λx5 =>
sel (!x5) ((nth s2.2.2 x4).bind λx6 =>
(upd s2.2.2 x4 true).bind λr4 =>
(app 8 s2.1 [x4]).bind λr5 =>
some (r5,r4)) <|
some (s2.1,s2.2.2):Option ((List Int)×(List Bool))).bind λy9 =>
some (.inl (y9.1,w64 (s2.2.1+1),y9.2))) <|
some (.inr (s2.1,s2.2.2))
def kx (a0:List ab) (s1:(List Int)×(List Bool)):Option (((List Int)×(List Bool))⊕((List Bool))):=
sel (decide ((s1.1.length:Int)>0)) ((nth s1.1 (w64 ((s1.1.length:Int)-1))).bind λx2 =>
(cut s1.1 0 (w64 ((s1.1.length:Int)-1))).bind λr3 =>
(nth a0 x2).bind λx3 =>
(gr x3 x2).bind λy5 =>
(aI (kw y5) (r3,0,s1.2)).bind λy6 =>
some (.inl (y6.1,y6.2))) <|
some (.inr s1.2)
def f7 (a0:List ab):Option ((List Bool)):=
(bk a0).bind λy1 =>
sel (!y1) (some []) <|
(mk 1 (a0.length:Int) false).bind λr1 =>
(nth r1 0).bind λx1 =>
(upd r1 0 true).bind λr2 =>
(aI (kx a0) ([0],r2)).bind λy2 =>
some y2
def iC (a0:ab) (a1:Int):Option (Bool):=
(dt a0).bind λy1 =>
some ((!(y1&&(a0.N==(w64 (a1+1)))))&&(!((a0.Op==2)&&(a0.Dst==a0.A))))
def fS (a0:List ab) (y2:(List Bool)) (s1:(List ab)×Int×(List Int)):Option (((List ab)×Int×(List Int))⊕((List ab)×(List Int))):=
sel (decide (s1.2.1<(y2.length:Int))) (((nth y2 s1.2.1).bind λx1 =>
(nth s1.2.2 s1.2.1).bind λx2 =>
(upd s1.2.2 s1.2.1 (s1.1.length:Int)).bind λr2 =>
(sel x1 ((nth a0 s1.2.1).bind λx3=>(iC x3 s1.2.1).bind λy7=>some y7) (some false):Option (Bool)).bind λb1 =>
sel b1 ((nth a0 s1.2.1).bind λx4 =>
(app 40 s1.1 [x4]).bind λr3 =>
some (r3,r2)) <|
some (s1.1,r2):Option ((List ab)×(List Int))).bind λy6 =>
some (.inl (y6.1,w64 (s1.2.1+1),y6.2))) <|
some (.inr (s1.1,s1.2.2))
def dH (y3:(List ab)×(List Int)) (s2:Int×(List ab)):Option ((Int×(List ab))⊕((List ab))):=
sel (decide (s2.1<(y3.1.length:Int))) (((nth s2.2 s2.1).bind λx5 =>
(dt x5).bind λy12 =>
sel y12 ((nth y3.2 x5.N).bind λx6 =>
(nth s2.2 s2.1).bind λx7 =>
(upd s2.2 s2.1 (ab.mk x7.Op x7.Dst x7.A x7.B x6)).bind λr4 =>
some r4) <|
some s2.2:Option ((List ab))).bind λy11 =>
some (.inl (w64 (s2.1+1),y11))) <|
some (.inr s2.2)
def f9 (a0:List ab):Option ((List ab)×Bool):=
(bk a0).bind λy1 =>
sel (!y1) (some ([],false)) <|
(mk 8 (a0.length:Int) 0).bind λr1 =>
(f7 a0).bind λy2 =>
(aI (fS a0 y2) ([],0,r1)).bind λy3 =>
(aI (dH y3) (0,y3.1)).bind λy8 =>
some (y8,true)
def bE (a1:Int) (s1:(List ab)×Int):Option (((List ab)×Int)⊕(((List ab)×Bool)⊕((List ab)))):=
sel (decide (s1.2<a1)) ((jx s1.1).bind λy6 =>
sel (!y6.2) (some (.inr (.inl ([],false)))) <|
(jz y6.1).bind λy7 =>
sel (!y7.2) (some (.inr (.inl ([],false)))) <|
(jA y7.1).bind λy8 =>
sel (!y8.2) (some (.inr (.inl ([],false)))) <|
(jB y8.1).bind λy9 =>
sel (!y9.2) (some (.inr (.inl ([],false)))) <|
(f9 y9.1).bind λy10 =>
sel (!y10.2) (some (.inr (.inl ([],false)))) <|
some (.inl (y10.1,w64 (s1.2+1)))) <|
some (.inr (.inr s1.1))
def bD (a0:List ab) (a1:Int):Option ((List ab)×Bool):=
(bk a0).bind λy1 =>
sel (((!y1)||(decide (a1<0)))||(decide (a1>4))) (some ([],false)) <|
(az a0).bind λy2 =>
(aI (bE a1) (y2,0)).bind λy3 =>
jX y3 (λo3=>some o3) (λo4 =>
some (o4,true))
def cL (a0:List (List ab)) (a1:Int) (s1:(List (List ab))×Int):Option (((List (List ab))×Int)⊕(((List (List ab))×Bool)⊕((List (List ab))))):=
sel (decide (s1.2<(a0.length:Int))) ((nth a0 s1.2).bind λx1 =>
(bD x1 a1).bind λy4 =>
sel (!y4.2) (some (.inr (.inl ([],false)))) <|
(app 24 s1.1 [y4.1]).bind λr1 =>
some (.inl (r1,w64 (s1.2+1)))) <|
some (.inr (.inr s1.1))
def cX (a0:List (List ab)) (a1:Int):Option ((List (List ab))×Bool):=
sel ((decide ((a0.length:Int)<1))||(decide ((a0.length:Int)>3))) (some ([],false)) <|
(aI (cL a0 a1) ([],0)).bind λy1 =>
jX y1 (λo3=>some o3) (λo4 =>
some (o4,true))
def j2 (y2:(List (List ab))×Bool) (s1:Int×(List (List ab))):Option ((Int×(List (List ab)))⊕(((List (List ab))×Bool)⊕((List (List ab))))):=
sel (decide (s1.1<(y2.1.length:Int))) ((nth s1.2 s1.1).bind λx1 =>
(dn x1).bind λy6 =>
sel (!y6.2) (some (.inr (.inl ([],false)))) <|
some (.inl (w64 (s1.1+1),(s1.2.set (Int.toNat s1.1) y6.1)))) <|
some (.inr (.inr s1.2))
def eT (k:Nat) (a0:aA) (a1:Int):Option ((List (List ab))×Bool):=
(cK k (aA.mk a0.Rooms a0.Tasks)).bind λy1 =>
sel (!y1.2) (some ([],false)) <|
(cX y1.1 a1).bind λy2 =>
sel (!y2.2) (some ([],false)) <|
(aI (j2 y2) (0,y2.1)).bind λy3 =>
jX y3 (λo3=>some o3) (λo4 =>
some (o4,true))
def bp (a0:Int) (a1:Int) (a2:Int):Option (Bool):=
some ((decide (a0>=a1))&&(decide (a0<=a2)))
def iZ (a0:List Int) (s1:Int):Option (Int⊕(Bool⊕Unit)):=
sel (decide (s1<(a0.length:Int))) ((nth a0 s1).bind λx1 =>
(bp x1 1 4).bind λy4 =>
sel (!y4) (some (.inr (.inl false))) <|
some (.inl (w64 (s1+1)))) <|
some (.inr (.inr ()))
def jC (a0:List Int):Option (Bool):=
(aI (iZ a0) 0).bind λy1 =>
jX y1 (λo3=>some o3) (λo4 =>
some (decide ((a0.length:Int)<=3)))
def dV (a0:ae) (a1:Bool):Option (Bool):=
sel a1 ((bp a0.Var 0 3).bind λy1 =>
some y1) <|
some (a0.Var==0)
def dW (a0:ae) (a1:Bool):Option (Bool):=
sel a1 ((bp a0.Box 0 2).bind λy1 =>
some y1) <|
some (a0.Box==0)
def dN (a0:Int):Option (Bool):=
(bp a0 1 12).bind λy1 =>
some y1
def fk (k:Nat) (lH:Expr->Int->Option (Bool)) (a0:Expr) (a1:Int):Option (Bool):=
sel (decide (a1<1)) (some false) <|
sel (a0.Op==0) ((bp a0.N 0 99999).bind λy1 =>
some (y1&&((a0.Args.length:Int)==0))) <|
sel (a0.Op==13) ((bp a0.N 0 3).bind λy2 =>
some (y2&&((a0.Args.length:Int)==0))) <|
(dN a0.Op).bind λy3 =>
(sel ((y3&&(a0.N==0))&&((a0.Args.length:Int)==2)) ((nth a0.Args 0).bind λx1=>(lH (Expr.mk x1.Op x1.N x1.Args) (w64 (a1-1))).bind λy4=>some y4) (some false):Option (Bool)).bind λb1 =>
(sel b1 ((nth a0.Args 1).bind λx2=>(lH (Expr.mk x2.Op x2.N x2.Args) (w64 (a1-1))).bind λy5=>some y5) (some false):Option (Bool)).bind λb2 =>
some b2
def oZ:Nat->(Expr->Int->Option (Bool))
 | 0=>((λ_ _=>none))
 | k+1=>(fk k (oZ k))
def j7 (k:Nat):Expr->Int->Option (Bool):=(oZ k)
def bP (k:Nat) (a0:Expr):Option (Bool):=
(j7 k (Expr.mk a0.Op a0.N a0.Args) 5).bind λy1 =>
some y1
def fC (a0:Expr):Option (Bool):=
some (((a0.Op==0)&&(a0.N==0))&&((a0.Args.length:Int)==0))
def du (k:Nat) (a0:ae):Option (Bool):=
sel ((decide ((a0.Body.length:Int)>0))||(decide ((a0.Else.length:Int)>0))) (some false) <|
sel (a0.Kind==1) ((dV (ae.mk a0.Kind a0.Var a0.Box (Expr.mk a0.Expr.Op a0.Expr.N a0.Expr.Args) a0.Body a0.Else) true).bind λy1 =>
(sel y1 ((dW (ae.mk a0.Kind a0.Var a0.Box (Expr.mk a0.Expr.Op a0.Expr.N a0.Expr.Args) a0.Body a0.Else) false).bind λy2=>some y2) (some false):Option (Bool)).bind λb1 =>
(sel b1 ((bP k (Expr.mk a0.Expr.Op a0.Expr.N a0.Expr.Args)).bind λy3=>some y3) (some false):Option (Bool)).bind λb2 =>
some b2) <|
sel (a0.Kind==4) ((dV (ae.mk a0.Kind a0.Var a0.Box (Expr.mk a0.Expr.Op a0.Expr.N a0.Expr.Args) a0.Body a0.Else) false).bind λy4 =>
(sel y4 ((dW (ae.mk a0.Kind a0.Var a0.Box (Expr.mk a0.Expr.Op a0.Expr.N a0.Expr.Args) a0.Body a0.Else) true).bind λy5=>some y5) (some false):Option (Bool)).bind λb3 =>
(sel b3 ((bP k (Expr.mk a0.Expr.Op a0.Expr.N a0.Expr.Args)).bind λy6=>some y6) (some false):Option (Bool)).bind λb4 =>
some b4) <|
sel (a0.Kind==5) ((dV (ae.mk a0.Kind a0.Var a0.Box (Expr.mk a0.Expr.Op a0.Expr.N a0.Expr.Args) a0.Body a0.Else) true).bind λy7 =>
(sel y7 ((dW (ae.mk a0.Kind a0.Var a0.Box (Expr.mk a0.Expr.Op a0.Expr.N a0.Expr.Args) a0.Body a0.Else) true).bind λy8=>some y8) (some false):Option (Bool)).bind λb5 =>
(sel b5 ((fC (Expr.mk a0.Expr.Op a0.Expr.N a0.Expr.Args)).bind λy9=>some y9) (some false):Option (Bool)).bind λb6 =>
some b6) <|
sel (a0.Kind==6) ((dV (ae.mk a0.Kind a0.Var a0.Box (Expr.mk a0.Expr.Op a0.Expr.N a0.Expr.Args) a0.Body a0.Else) false).bind λy10 =>
(sel y10 ((dW (ae.mk a0.Kind a0.Var a0.Box (Expr.mk a0.Expr.Op a0.Expr.N a0.Expr.Args) a0.Body a0.Else) false).bind λy11=>some y11) (some false):Option (Bool)).bind λb7 =>
(sel b7 ((fC (Expr.mk a0.Expr.Op a0.Expr.N a0.Expr.Args)).bind λy12=>some y12) (some false):Option (Bool)).bind λb8 =>
some b8) <|
sel (a0.Kind==7) ((dV (ae.mk a0.Kind a0.Var a0.Box (Expr.mk a0.Expr.Op a0.Expr.N a0.Expr.Args) a0.Body a0.Else) false).bind λy13 =>
(sel y13 ((dW (ae.mk a0.Kind a0.Var a0.Box (Expr.mk a0.Expr.Op a0.Expr.N a0.Expr.Args) a0.Body a0.Else) false).bind λy14=>some y14) (some false):Option (Bool)).bind λb9 =>
(sel b9 ((bP k (Expr.mk a0.Expr.Op a0.Expr.N a0.Expr.Args)).bind λy15=>some y15) (some false):Option (Bool)).bind λb10 =>
some b10) <|
some false
def hU (a0:List ae) (a1:Int) (dg:ae->Int->Option (Bool)) (s1:Int):Option (Int⊕(Bool⊕Unit)):=
sel (decide (s1<(a0.length:Int))) ((nth a0 s1).bind λx1 =>
(dg (ae.mk x1.Kind x1.Var x1.Box (Expr.mk x1.Expr.Op x1.Expr.N x1.Expr.Args) x1.Body x1.Else) a1).bind λy4 =>
sel (!y4) (some (.inr (.inl false))) <|
some (.inl (w64 (s1+1)))) <|
some (.inr (.inr ()))
def cY (k:Nat) (bT:List ae->Int->Option (Bool)) (dg:ae->Int->Option (Bool)) (a0:List ae) (a1:Int):Option (Bool):=
(aI (hU a0 a1 dg) 0).bind λy1 =>
jX y1 (λo3=>some o3) (λo4 =>
some true)
def gz (k:Nat) (bT:List ae->Int->Option (Bool)) (dg:ae->Int->Option (Bool)) (a0:ae) (a1:Int):Option (Bool):=
sel ((a0.Kind !=2)&&(a0.Kind !=3)) ((du k (ae.mk a0.Kind a0.Var a0.Box (Expr.mk a0.Expr.Op a0.Expr.N a0.Expr.Args) a0.Body a0.Else)).bind λy1 =>
some y1) <|
sel ((decide (a1<1))||((a0.Kind==3)&&(decide ((a0.Else.length:Int)>0)))) (some false) <|
(dV (ae.mk a0.Kind a0.Var a0.Box (Expr.mk a0.Expr.Op a0.Expr.N a0.Expr.Args) a0.Body a0.Else) false).bind λy2 =>
(sel y2 ((dW (ae.mk a0.Kind a0.Var a0.Box (Expr.mk a0.Expr.Op a0.Expr.N a0.Expr.Args) a0.Body a0.Else) false).bind λy3=>some y3) (some false):Option (Bool)).bind λb1 =>
(sel b1 ((bP k (Expr.mk a0.Expr.Op a0.Expr.N a0.Expr.Args)).bind λy4=>some y4) (some false):Option (Bool)).bind λb2 =>
(sel b2 ((bT a0.Body (w64 (a1-1))).bind λy5=>some y5) (some false):Option (Bool)).bind λb3 =>
(sel b3 ((bT a0.Else (w64 (a1-1))).bind λy6=>some y6) (some false):Option (Bool)).bind λb4 =>
some b4
def cZ:Nat->(List ae->Int->Option (Bool))×(ae->Int->Option (Bool))
 | 0=>((λ_ _=>none),(λ_ _=>none))
 | k+1=>(cY k (cZ k).1 (cZ k).2,gz k (cZ k).1 (cZ k).2)
def bC (k:Nat):List ae->Int->Option (Bool):=(cZ k).1
def ml (k:Nat):ae->Int->Option (Bool):=(cZ k).2
def cj (k:Nat) (a0:List ae):Option (Bool):=
(bC k a0 3).bind λy1 =>
(sel y1 ((bR k a0).bind λy2=>some (decide (y2<=16))) (some false):Option (Bool)).bind λb1 =>
some b1
def lf (a0:List ae) (a1:Int) (dB:List ae->Int->Option (Bool)) (s1:Int):Option (Int⊕(Bool⊕Unit)):=
sel (decide (s1<(a0.length:Int))) ((nth a0 s1).bind λx1 =>
sel (((x1.Kind==4)||(x1.Kind==5))&&(decide (x1.Box>=a1))) (some (.inr (.inl false))) <|
(dB x1.Body a1).bind λy4 =>
(sel (!y4) (some true) ((dB x1.Else a1).bind λy5=>some (!y5)):Option (Bool)).bind λb1 =>
sel b1 (some (.inr (.inl false))) <|
some (.inl (w64 (s1+1)))) <|
some (.inr (.inr ()))
def dC (k:Nat) (dB:List ae->Int->Option (Bool)) (a0:List ae) (a1:Int):Option (Bool):=
(aI (lf a0 a1 dB) 0).bind λy1 =>
jX y1 (λo3=>some o3) (λo4 =>
some true)
def mz:Nat->(List ae->Int->Option (Bool))
 | 0=>((λ_ _=>none))
 | k+1=>(dC k (mz k))
def dX (k:Nat):List ae->Int->Option (Bool):=(mz k)
def fp (a0:aA) (k:Nat) (s1:Int):Option (Int⊕(Bool⊕Unit)):=
sel (decide (s1<(a0.Tasks.length:Int))) ((nth a0.Tasks s1).bind λx1 =>
(cj k x1).bind λy6 =>
(sel (!y6) (some true) ((nth a0.Tasks s1).bind λb_1=>(dX k b_1 (a0.Rooms.length:Int)).bind λb_2=>some (!b_2))).bind λb2 =>
sel b2 (some (.inr (.inl false))) <|
some (.inl (w64 (s1+1)))) <|
some (.inr (.inr ()))
def fq (k:Nat) (a0:aA):Option (Bool):=
(jC a0.Rooms).bind λy1 =>
(sel (!y1) (some true) ((bp (a0.Tasks.length:Int) 1 3).bind λy2=>some (!y2)):Option (Bool)).bind λb1 =>
sel b1 (some false) <|
(aI (fp a0 k) 0).bind λy3 =>
jX y3 (λo3=>some o3) (λo4 =>
some true)
def eE (k:Nat) (iE:Expr->Int->Option ((List ab))) (a0:Expr) (a1:Int):Option ((List ab)):=
sel (a0.Op==0) (some [(ab.mk 1 a1 0 0 a0.N)]) <|
sel (a0.Op==13) (some [(ab.mk 2 a1 a0.N 0 0)]) <|
(nth a0.Args 0).bind λx1 =>
(nth a0.Args 1).bind λx2 =>
(iE (Expr.mk x1.Op x1.N x1.Args) a1).bind λy1 =>
(iE (Expr.mk x2.Op x2.N x2.Args) (w64 (a1+1))).bind λy2 =>
(app 40 y1 y2).bind λr1 =>
(app 40 r1 [(ab.mk 3 a1 a1 (w64 (a1+1)) a0.Op)]).bind λr2 =>
some r2
def mN:Nat->(Expr->Int->Option ((List ab)))
 | 0=>((λ_ _=>none))
 | k+1=>(eE k (mN k))
def cl (k:Nat):Expr->Int->Option ((List ab)):=(mN k)
def jL (a0:List ae) (a1:Int) (be:ae->Int->Option ((List ab))) (s1:(List ab)×Int):Option (((List ab)×Int)⊕((List ab))):=
sel (decide (s1.2<(a0.length:Int))) ((nth a0 s1.2).bind λx1 =>
(be (ae.mk x1.Kind x1.Var x1.Box (Expr.mk x1.Expr.Op x1.Expr.N x1.Expr.Args) x1.Body x1.Else) (w64 (a1+(s1.1.length:Int)))).bind λy4 =>
(app 40 s1.1 y4).bind λr1 =>
some (.inl (r1,w64 (s1.2+1)))) <|
some (.inr s1.1)
def eF (k:Nat) (bf:List ae->Int->Option ((List ab))) (be:ae->Int->Option ((List ab))) (bA:ae->Int->Option ((List ab))) (bg:ae->Int->Option ((List ab))) (a0:List ae) (a1:Int):Option ((List ab)):=
(aI (jL a0 a1 be) ([],0)).bind λy1 =>
some y1
def cI (k:Nat) (bf:List ae->Int->Option ((List ab))) (be:ae->Int->Option ((List ab))) (bA:ae->Int->Option ((List ab))) (bg:ae->Int->Option ((List ab))) (a0:ae) (a1:Int):Option ((List ab)):=
(cl k (Expr.mk a0.Expr.Op a0.Expr.N a0.Expr.Args) 4).bind λy1 =>
sel (a0.Kind==2) ((bA (ae.mk a0.Kind a0.Var a0.Box (Expr.mk a0.Expr.Op a0.Expr.N a0.Expr.Args) a0.Body a0.Else) a1).bind λy2 =>
some y2) <|
sel (a0.Kind==3) ((bg (ae.mk a0.Kind a0.Var a0.Box (Expr.mk a0.Expr.Op a0.Expr.N a0.Expr.Args) a0.Body a0.Else) a1).bind λy3 =>
some y3) <|
sel (a0.Kind==1) ((app 40 y1 [(ab.mk 2 a0.Var 4 0 0)]).bind λr1 =>
some r1) <|
sel (a0.Kind==4) ((app 40 y1 [(ab.mk 6 0 4 0 a0.Box)]).bind λr2 =>
some r2) <|
sel (a0.Kind==7) ((app 40 y1 [(ab.mk 9 0 4 0 0)]).bind λr3 =>
some r3) <|
sel (a0.Kind==5) (some [(ab.mk 7 a0.Var 0 0 a0.Box)]) <|
some [(ab.mk 8 0 0 0 0)]
def gA (k:Nat) (bf:List ae->Int->Option ((List ab))) (be:ae->Int->Option ((List ab))) (bA:ae->Int->Option ((List ab))) (bg:ae->Int->Option ((List ab))) (a0:ae) (a1:Int):Option ((List ab)):=
(cl k (Expr.mk a0.Expr.Op a0.Expr.N a0.Expr.Args) 4).bind λy1 =>
(bf a0.Body (w64 ((w64 (a1+(y1.length:Int)))+1))).bind λy2 =>
sel ((a0.Else.length:Int)==0) ((app 40 y1 [(ab.mk 5 0 4 0 (w64 ((w64 ((w64 (a1+(y1.length:Int)))+1))+(y2.length:Int))))]).bind λr1 =>
(app 40 r1 y2).bind λr2 =>
some r2) <|
(bf a0.Else (w64 ((w64 ((w64 ((w64 (a1+(y1.length:Int)))+1))+(y2.length:Int)))+1))).bind λy3 =>
(app 40 y1 [(ab.mk 5 0 4 0 (w64 ((w64 ((w64 ((w64 (a1+(y1.length:Int)))+1))+(y2.length:Int)))+1)))]).bind λr3 =>
(app 40 r3 y2).bind λr4 =>
(app 40 r4 [(ab.mk 4 0 0 0 (w64 ((w64 ((w64 ((w64 ((w64 (a1+(y1.length:Int)))+1))+(y2.length:Int)))+1))+(y3.length:Int))))]).bind λr5 =>
(app 40 r5 y3).bind λr6 =>
some r6
def dD (k:Nat) (bf:List ae->Int->Option ((List ab))) (be:ae->Int->Option ((List ab))) (bA:ae->Int->Option ((List ab))) (bg:ae->Int->Option ((List ab))) (a0:ae) (a1:Int):Option ((List ab)):=
(cl k (Expr.mk a0.Expr.Op a0.Expr.N a0.Expr.Args) 4).bind λy1 =>
(bf a0.Body (w64 ((w64 (a1+(y1.length:Int)))+1))).bind λy2 =>
(app 40 y1 [(ab.mk 5 0 4 0 (w64 ((w64 ((w64 ((w64 (a1+(y1.length:Int)))+1))+(y2.length:Int)))+1)))]).bind λr1 =>
(app 40 r1 y2).bind λr2 =>
(app 40 r2 [(ab.mk 4 0 0 0 a1)]).bind λr3 =>
some r3
def aG:Nat->(List ae->Int->Option ((List ab)))×(ae->Int->Option ((List ab)))×(ae->Int->Option ((List ab)))×(ae->Int->Option ((List ab)))
 | 0=>((λ_ _=>none),(λ_ _=>none),(λ_ _=>none),(λ_ _=>none))
 | k+1=>(eF k (aG k).1 (aG k).2.1 (aG k).2.2.1 (aG k).2.2.2,cI k (aG k).1 (aG k).2.1 (aG k).2.2.1 (aG k).2.2.2,gA k (aG k).1 (aG k).2.1 (aG k).2.2.1 (aG k).2.2.2,dD k (aG k).1 (aG k).2.1 (aG k).2.2.1 (aG k).2.2.2)
def bI (k:Nat):List ae->Int->Option ((List ab)):=(aG k).1
def bU (k:Nat):ae->Int->Option ((List ab)):=(aG k).2.1
def fD (k:Nat):ae->Int->Option ((List ab)):=(aG k).2.2.1
def cF (k:Nat):ae->Int->Option ((List ab)):=(aG k).2.2.2
def cz (k:Nat) (a0:List ae):Option ((List ab)×Bool):=
(cj k a0).bind λy1 =>
sel (!y1) (some ([],false)) <|
(bI k a0 0).bind λy2 =>
(app 40 y2 [(ab.mk 10 0 0 0 0)]).bind λr1 =>
some (r1,true)
def dP (a0:aA) (k:Nat) (s1:(List (List ab))×Int):Option (((List (List ab))×Int)⊕((List (List ab)))):=
sel (decide (s1.2<(a0.Tasks.length:Int))) ((nth a0.Tasks s1.2).bind λx1 =>
(cz k x1).bind λy5 =>
(app 24 s1.1 [y5.1]).bind λr1 =>
some (.inl (r1,w64 (s1.2+1)))) <|
some (.inr s1.1)
def cM (k:Nat) (a0:aA):Option ((List (List ab))×Bool):=
(fq k (aA.mk a0.Rooms a0.Tasks)).bind λy1 =>
sel (!y1) (some ([],false)) <|
(aI (dP a0 k) ([],0)).bind λy2 =>
some (y2,true)
def iG (a0:Int) (a1:Bool):Option (Bool):=
sel a1 ((bp a0 0 11).bind λy1 =>
some y1) <|
some (a0==0)
def bV (a0:ab) (a1:Bool) (a2:Bool) (a3:Bool):Option (Bool):=
(iG a0.Dst a1).bind λy1 =>
(sel y1 ((iG a0.A a2).bind λy2=>some y2) (some false):Option (Bool)).bind λb1 =>
(sel b1 ((iG a0.B a3).bind λy3=>some y3) (some false):Option (Bool)).bind λb2 =>
some b2
def bQ (a0:Int):Option (Bool):=
(bp a0 (-2147483648) 2147483647).bind λy1 =>
some y1
def eG (a0:ab) (a1:Int):Option (Bool):=
sel (a0.Op==1) ((bV a0 true false false).bind λy1 =>
(sel y1 ((bQ a0.N).bind λy2=>some y2) (some false):Option (Bool)).bind λb1 =>
some b1) <|
sel (a0.Op==2) ((bV a0 true true false).bind λy3 =>
some (y3&&(a0.N==0))) <|
sel (a0.Op==3) ((bV a0 true true true).bind λy4 =>
(sel y4 ((dN a0.N).bind λy5=>some y5) (some false):Option (Bool)).bind λb2 =>
some b2) <|
sel (a0.Op==4) ((bV a0 false false false).bind λy6 =>
some ((y6&&(decide (a0.N>=0)))&&(decide (a0.N<a1)))) <|
sel (a0.Op==5) ((bV a0 false true false).bind λy7 =>
some ((y7&&(decide (a0.N>=0)))&&(decide (a0.N<a1)))) <|
sel (a0.Op==6) ((bV a0 false true false).bind λy8 =>
(sel y8 ((bp a0.N 0 2).bind λy9=>some y9) (some false):Option (Bool)).bind λb3 =>
some b3) <|
sel (a0.Op==7) ((bV a0 true false false).bind λy10 =>
(sel y10 ((bp a0.N 0 2).bind λy11=>some y11) (some false):Option (Bool)).bind λb4 =>
some b4) <|
sel (a0.Op==9) ((bV a0 false true false).bind λy12 =>
some (y12&&(a0.N==0))) <|
(sel (a0.Op==8) (some (a0.Op==8)) <|
some (a0.Op==10):Option (Bool)).bind λy13 =>
sel y13 ((bV a0 false false false).bind λy14 =>
some (y14&&(a0.N==0))) <|
some false
def ky (a0:List ab) (s1:Int):Option (Int⊕(Bool⊕Unit)):=
sel (decide (s1<(a0.length:Int))) ((nth a0 s1).bind λx1 =>
(eG x1 (a0.length:Int)).bind λy5 =>
sel (!y5) (some (.inr (.inl false))) <|
some (.inl (w64 (s1+1)))) <|
some (.inr (.inr ()))
def aO (a0:List ab):Option (Bool):=
(bp (a0.length:Int) 1 600).bind λy1 =>
sel (!y1) (some false) <|
(aI (ky a0) 0).bind λy2 =>
jX y2 (λo3=>some o3) (λo4 =>
(nth a0 (w64 ((a0.length:Int)-1))).bind λx2 =>
(sel (x2.Op==10) (some true) ((nth a0 (w64 ((a0.length:Int)-1))).bind λx3=>some (x3.Op==4)):Option (Bool)).bind λb1 =>
some b1)
def dh (a0:List ab) (a1:Int):Option ((List Int)):=
(nth a0 a1).bind λx1 =>
sel (x1.Op==10) (some []) <|
sel (x1.Op==4) (some [x1.N]) <|
sel ((x1.Op==5)&&(decide (x1.N<(w64 (a1+1))))) (some [x1.N,w64 (a1+1)]) <|
sel ((x1.Op==5)&&(decide (x1.N>(w64 (a1+1))))) (some [w64 (a1+1),x1.N]) <|
some [w64 (a1+1)]
def fE (a0:List ab) (a1:List ai) (a2:Int):Option ((List Int)):=
(nth a0 a2).bind λx1 =>
(sel (x1.Op !=5) (some true) ((nth a1 x1.A).bind λx2=>some (x2.Kind !=1)):Option (Bool)).bind λb1 =>
sel b1 ((dh a0 a2).bind λy1 =>
some y1) <|
(nth a1 x1.A).bind λx3 =>
sel (x3.N==0) (some [x1.N]) <|
some [w64 (a2+1)]
def j8 (a0:Bool):Option (Int):=
sel a0 (some 1) <|
some 0
def eU (a0:Int):Option (Int):=
sel (decide ((Int.tmod a0 4294967296)>2147483647)) (some (w64 ((Int.tmod a0 4294967296)-4294967296))) <|
sel (decide ((Int.tmod a0 4294967296)<(-2147483648))) (some (w64 ((Int.tmod a0 4294967296)+4294967296))) <|
some (Int.tmod a0 4294967296)
def gB (a0:Int) (a1:Int) (a2:Bool):Option (Int):=
sel a2 ((shO .shr .i64 a0 (bq .and .i64 a1 31)).bind λd1 =>
some d1) <|
(shO .shl .i64 a0 (bq .and .i64 a1 31)).bind λd2 =>
(eU d2).bind λy1 =>
some y1
def jD (a0:Int) (a1:Int):Option (Int):=
sel (a1==0) (some (-1)) <|
(tU .i64 a0 a1).bind λd1 =>
(eU d1).bind λy1 =>
some y1
def jE (a0:Int) (a1:Int):Option (Int):=
sel (a1==0) (some a0) <|
(qC a0 a1).bind λd1 =>
some d1
def iH (a0:Int) (a1:Int) (a2:Int):Option (Int×Bool):=
(dN a0).bind λy1 =>
(sel (!y1) (some true) ((bQ a1).bind λy2=>some (!y2)):Option (Bool)).bind λb1 =>
(sel b1 (some true) ((bQ a2).bind λy3=>some (!y3)):Option (Bool)).bind λb2 =>
sel b2 (some (0,false)) <|
sel (a0==1) (some (bq .or .i64 a1 a2,true)) <|
sel (a0==2) (some (bq .xor .i64 a1 a2,true)) <|
sel (a0==3) (some (bq .and .i64 a1 a2,true)) <|
sel (a0==4) ((j8 (a1==a2)).bind λy4 =>
some (y4,true)) <|
sel (a0==5) ((j8 (decide (a1<a2))).bind λy5 =>
some (y5,true)) <|
sel (a0==6) ((gB a1 a2 false).bind λy6 =>
some (y6,true)) <|
sel (a0==7) ((gB a1 a2 true).bind λy7 =>
some (y7,true)) <|
sel (a0==8) ((eU (w64 (a1+a2))).bind λy8 =>
some (y8,true)) <|
sel (a0==9) ((eU (w64 (a1-a2))).bind λy9 =>
some (y9,true)) <|
sel (a0==10) ((eU (w64 (a1*a2))).bind λy10 =>
some (y10,true)) <|
sel (a0==11) ((jD a1 a2).bind λy11 =>
some (y11,true)) <|
(jE a1 a2).bind λy12 =>
some (y12,true)
def cd (a0:ab) (a1:ai) (a2:ai):Option (ai):=
sel ((a1.Kind !=1)||(a2.Kind !=1)) (some (ai.mk 2 0)) <|
(iH a0.N a1.N a2.N).bind λy1 =>
some (ai.mk 1 y1.1)
def fF (a0:ab) (a1:List ai):Option ((List ai)):=
(app 16 [] a1).bind λr1 =>
sel (a0.Op==1) ((nth r1 a0.Dst).bind λx1 =>
(upd r1 a0.Dst (ai.mk 1 a0.N)).bind λr2 =>
some r2) <|
sel (a0.Op==2) ((nth a1 a0.A).bind λx2 =>
(nth r1 a0.Dst).bind λx3 =>
(upd r1 a0.Dst x2).bind λr3 =>
some r3) <|
sel (a0.Op==7) ((nth r1 a0.Dst).bind λx4 =>
(upd r1 a0.Dst (ai.mk 2 0)).bind λr4 =>
some r4) <|
sel (a0.Op==3) ((nth a1 a0.A).bind λx5 =>
(nth a1 a0.B).bind λx6 =>
(cd a0 x5 x6).bind λy1 =>
(nth r1 a0.Dst).bind λx7 =>
(upd r1 a0.Dst y1).bind λr5 =>
some r5) <|
some r1
def gC (a0:ai) (a1:ai):Option (ai):=
sel (a0.Kind==0) (some a1) <|
sel ((a1.Kind==0)||((a0.Kind==a1.Kind)&&((a0.N==a1.N)&&true))) (some a0) <|
some (ai.mk 2 0)
def i3 (a1:Int) (a2:List ai) (s1:Bool×Int×(List (List ai))):Option ((Bool×Int×(List (List ai)))⊕(Bool×(List (List ai)))):=
sel (decide (s1.2.1<12)) (((nth s1.2.2 a1).bind λx1 =>
(nth x1 s1.2.1).bind λx4 =>
(nth a2 s1.2.1).bind λx5 =>
(gC x4 x5).bind λy6 =>
(nth s1.2.2 a1).bind λx6 =>
(nth x6 s1.2.1).bind λx8 =>
sel (!((y6.Kind==x8.Kind)&&((y6.N==x8.N)&&true))) ((nth x6 s1.2.1).bind λx9 =>
(upd x6 s1.2.1 y6).bind λr1 =>
some (true,(s1.2.2.set (Int.toNat a1) r1))) <|
some (s1.1,s1.2.2):Option (Bool×(List (List ai)))).bind λy4 =>
some (.inl (y4.1,w64 (s1.2.1+1),y4.2))) <|
some (.inr (s1.1,s1.2.2))
def fG (a0:List (List ai)) (a1:Int) (a2:List ai):Option (Bool×(List (List ai))):=
(aI (i3 a1 a2) (false,0,a0)).bind λy1 =>
some (y1.1,y1.2)
def i4 (y5:(List Int)) (y6:(List ai)) (s2:Bool×Int×(List (List ai))):Option ((Bool×Int×(List (List ai)))⊕(Bool×(List (List ai)))):=
sel (decide (s2.2.1<(y5.length:Int))) (((nth y5 s2.2.1).bind λx4 =>
(fG s2.2.2 x4 y6).bind λy11 =>
sel y11.1 (some (true,y11.2)) <|
some (s2.1,y11.2):Option (Bool×(List (List ai)))).bind λy10 =>
some (.inl (y10.1,w64 (s2.2.1+1),y10.2))) <|
some (.inr (s2.1,s2.2.2))
def i5 (a0:List ab) (s1:Bool×Int×(List (List ai))):Option ((Bool×Int×(List (List ai)))⊕(Bool×(List (List ai)))):=
sel (decide (s1.2.1<(a0.length:Int))) (((nth s1.2.2 s1.2.1).bind λx1 =>
(nth x1 0).bind λx2 =>
sel (x2.Kind==0) (some (s1.1,s1.2.2)) <|
(fE a0 x1 s1.2.1).bind λy5 =>
(nth a0 s1.2.1).bind λx3 =>
(fF x3 x1).bind λy6 =>
(aI (i4 y5 y6) (s1.1,0,s1.2.2)).bind λy7 =>
some (y7.1,y7.2):Option (Bool×(List (List ai)))).bind λy4 =>
some (.inl (y4.1,w64 (s1.2.1+1),y4.2))) <|
some (.inr (s1.1,s1.2.2))
def fH (a0:List ab) (a1:List (List ai)):Option (Bool×(List (List ai))):=
(aI (i5 a0) (false,0,a1)).bind λy1 =>
some (y1.1,y1.2)
def jM (a0:List ab) (s1:(List (List ai))×Int):Option (((List (List ai))×Int)⊕((List (List ai)))):=
sel (decide (s1.2<(a0.length:Int))) ((mk 16 12 (ai.mk 0 0)).bind λr1 =>
(app 24 s1.1 [r1]).bind λr2 =>
some (.inl (r2,w64 (s1.2+1)))) <|
some (.inr s1.1)
def jN (s2:Int×(List (List ai))):Option ((Int×(List (List ai)))⊕((List (List ai)))):=
sel (decide (s2.1<12)) ((nth s2.2 0).bind λx1 =>
(nth x1 s2.1).bind λx2 =>
(upd x1 s2.1 (ai.mk 1 0)).bind λr3 =>
some (.inl (w64 (s2.1+1),(s2.2.set (Int.toNat 0) r3)))) <|
some (.inr s2.2)
def jO (a0:List ab) (s3:(List (List ai))):Option (((List (List ai)))⊕((List (List ai)))):=
(fH a0 s3).bind λy11 =>
sel y11.1 (some (.inl y11.2)) <|
some (.inr y11.2)
def fr (a0:List ab):Option ((List (List ai))):=
(aO a0).bind λy1 =>
sel (!y1) (some []) <|
(aI (jM a0) ([],0)).bind λy2 =>
(aI (jN) (0,y2)).bind λy5 =>
(aI (jO a0) y5).bind λy8 =>
some y8
def fI (a0:ai) (a1:Int):Option (Bool):=
some ((a0.Kind==1)&&(a0.N==a1))
def mm (a0:List Int) (a1:Int) (s1:Int):Option (Int⊕(Bool⊕Unit)):=
sel (decide (s1<(a0.length:Int))) ((nth a0 s1).bind λx1 =>
sel (x1==a1) (some (.inr (.inl true))) <|
some (.inl (w64 (s1+1)))) <|
some (.inr (.inr ()))
def lI (a0:List Int) (a1:Int):Option (Bool):=
(aI (mm a0 a1) 0).bind λy1 =>
jX y1 (λo3=>some o3) (λo4 =>
some false)
def ft (a0:Int) (a1:List Int):Option (Bool):=
(lI a1 a0).bind λy1 =>
some y1
def iI (a0:ab) (a1:ai) (a2:ai):Option (ab):=
(cd a0 a1 a2).bind λy1 =>
sel (y1.Kind==1) (some (ab.mk 1 a0.Dst 0 0 y1.N)) <|
(fI a2 0).bind λy2 =>
(sel y2 ((ft a0.N [1,2,6,7,8,9]).bind λy3=>some y3) (some false):Option (Bool)).bind λb1 =>
sel b1 (some (ab.mk 2 a0.Dst a0.A 0 0)) <|
(fI a2 1).bind λy4 =>
(sel y4 ((ft a0.N [10,11]).bind λy5=>some y5) (some false):Option (Bool)).bind λb2 =>
sel b2 (some (ab.mk 2 a0.Dst a0.A 0 0)) <|
(fI a1 0).bind λy6 =>
(sel y6 ((ft a0.N [1,2,8]).bind λy7=>some y7) (some false):Option (Bool)).bind λb3 =>
sel b3 (some (ab.mk 2 a0.Dst a0.B 0 0)) <|
(fI a1 1).bind λy8 =>
sel (y8&&(a0.N==10)) (some (ab.mk 2 a0.Dst a0.B 0 0)) <|
(fI a1 0).bind λy9 =>
(sel y9 (some true) ((fI a2 0).bind λy10=>some y10):Option (Bool)).bind λb4 =>
(sel b4 ((ft a0.N [3,10]).bind λy11=>some y11) (some false):Option (Bool)).bind λb5 =>
sel b5 (some (ab.mk 1 a0.Dst 0 0 0)) <|
some a0
def dQ (a0:ab) (a1:List ai) (a2:Int):Option (ab):=
(nth a1 0).bind λx1 =>
sel (x1.Kind==0) (some a0) <|
sel (a0.Op==2) ((nth a1 a0.A).bind λx2 =>
sel (x2.Kind==1) ((nth a1 a0.A).bind λx3 =>
some (ab.mk 1 a0.Dst 0 0 x3.N)) <|
some a0) <|
sel (a0.Op==3) ((nth a1 a0.A).bind λx4 =>
(nth a1 a0.B).bind λx5 =>
(iI a0 x4 x5).bind λy1 =>
some y1) <|
sel (a0.Op==5) ((nth a1 a0.A).bind λx6 =>
(fI x6 0).bind λy2 =>
sel y2 (some (ab.mk 4 0 0 0 a0.N)) <|
(nth a1 a0.A).bind λx7 =>
sel (x7.Kind==1) (some (ab.mk 4 0 0 0 (w64 (a2+1)))) <|
some a0) <|
some a0
def c6 (a0:List ab) (y2:(List (List ai))) (s1:(List ab)×Int):Option (((List ab)×Int)⊕((List ab))):=
sel (decide (s1.2<(a0.length:Int))) ((nth y2 s1.2).bind λx1 =>
(nth a0 s1.2).bind λx3 =>
(dQ x3 x1 s1.2).bind λy7 =>
(app 40 s1.1 [y7]).bind λr2 =>
some (.inl (r2,w64 (s1.2+1)))) <|
some (.inr s1.1)
def fJ (a0:List ab):Option ((List ab)×Bool):=
(aO a0).bind λy1 =>
sel (!y1) (some ([],false)) <|
(fr a0).bind λy2 =>
(aI (c6 a0 y2) ([],0)).bind λy3 =>
some (y3,true)
def jP (s1:(List Int)×Int):Option (((List Int)×Int)⊕((List Int))):=
sel (decide (s1.2<12)) ((app 8 s1.1 [s1.2]).bind λr1 =>
some (.inl (r1,w64 (s1.2+1)))) <|
some (.inr s1.1)
def fu:Option ((List Int)):=
(aI (jP) ([],0)).bind λy1 =>
some y1
def ce (a0:ab):Option (Int):=
(eG a0 600).bind λy1 =>
sel (!y1) (some (-1)) <|
(sel (a0.Op==1) (some (a0.Op==1)) <|
sel (a0.Op==2) (some (a0.Op==2)) <|
sel (a0.Op==3) (some (a0.Op==3)) <|
some (a0.Op==7):Option (Bool)).bind λy2 =>
sel y2 (some a0.Dst) <|
some (-1)
def i6 (y1:Int) (s1:Int×(List Int)):Option ((Int×(List Int))⊕((List Int))):=
sel (decide (s1.1<12)) (((nth s1.2 s1.1).bind λx1 =>
sel (x1==y1) ((nth s1.2 s1.1).bind λx2 =>
(upd s1.2 s1.1 s1.1).bind λr2 =>
some r2) <|
some s1.2:Option ((List Int))).bind λy5 =>
some (.inl (w64 (s1.1+1),y5))) <|
some (.inr s1.2)
def fK (a0:ab) (a1:List Int):Option ((List Int)):=
(app 8 [] a1).bind λr1 =>
(ce a0).bind λy1 =>
sel (decide (y1<0)) (some r1) <|
(aI (i6 y1) (0,r1)).bind λy2 =>
(nth y2 y1).bind λx3 =>
(upd y2 y1 y1).bind λr3 =>
sel (a0.Op==2) ((nth r3 y1).bind λx4 =>
(upd r3 y1 a0.A).bind λr4 =>
some r4) <|
some r3
def i7 (a1:Int) (a2:List Int) (s1:Bool×Int×(List (List Int))):Option ((Bool×Int×(List (List Int)))⊕(Bool×(List (List Int)))):=
sel (decide (s1.2.1<12)) (((nth s1.2.2 a1).bind λx2 =>
(nth x2 s1.2.1).bind λx6 =>
(sel (x6 !=s1.2.1) ((nth x2 s1.2.1).bind λb_1=>(nth a2 s1.2.1).bind λb_2=>some (b_1 !=b_2)) (some false)).bind λb2 =>
sel b2 ((nth s1.2.2 a1).bind λx9 =>
(nth x9 s1.2.1).bind λx10 =>
(upd x9 s1.2.1 s1.2.1).bind λr2 =>
some (true,(s1.2.2.set (Int.toNat a1) r2))) <|
some (s1.1,s1.2.2):Option (Bool×(List (List Int)))).bind λy4 =>
some (.inl (y4.1,w64 (s1.2.1+1),y4.2))) <|
some (.inr (s1.1,s1.2.2))
def fL (a0:List (List Int)) (a1:Int) (a2:List Int):Option (Bool×(List (List Int))):=
(nth a0 a1).bind λx1 =>
sel ((x1.length:Int)==0) ((app 8 [] a2).bind λr1 =>
some (true,(a0.set (Int.toNat a1) r1))) <|
(aI (i7 a1 a2) (false,0,a0)).bind λy1 =>
some (y1.1,y1.2)
def i9 (y5:(List Int)) (y6:(List Int)) (s2:Bool×Int×(List (List Int))):Option ((Bool×Int×(List (List Int)))⊕(Bool×(List (List Int)))):=
sel (decide (s2.2.1<(y5.length:Int))) (((nth y5 s2.2.1).bind λx3 =>
(fL s2.2.2 x3 y6).bind λy11 =>
sel y11.1 (some (true,y11.2)) <|
some (s2.1,y11.2):Option (Bool×(List (List Int)))).bind λy10 =>
some (.inl (y10.1,w64 (s2.2.1+1),y10.2))) <|
some (.inr (s2.1,s2.2.2))
def ja (a0:List ab) (s1:Bool×Int×(List (List Int))):Option ((Bool×Int×(List (List Int)))⊕(Bool×(List (List Int)))):=
sel (decide (s1.2.1<(a0.length:Int))) (((nth s1.2.2 s1.2.1).bind λx1 =>
sel ((x1.length:Int)==0) (some (s1.1,s1.2.2)) <|
(dh a0 s1.2.1).bind λy5 =>
(nth a0 s1.2.1).bind λx2 =>
(fK x2 x1).bind λy6 =>
(aI (i9 y5 y6) (s1.1,0,s1.2.2)).bind λy7 =>
some (y7.1,y7.2):Option (Bool×(List (List Int)))).bind λy4 =>
some (.inl (y4.1,w64 (s1.2.1+1),y4.2))) <|
some (.inr (s1.1,s1.2.2))
def fM (a0:List ab) (a1:List (List Int)):Option (Bool×(List (List Int))):=
(aI (ja a0) (false,0,a1)).bind λy1 =>
some (y1.1,y1.2)
def jb (a0:List ab) (s1:(List (List Int))×Int):Option (((List (List Int))×Int)⊕((List (List Int)))):=
sel (decide (s1.2<(a0.length:Int))) ((app 24 s1.1 [[]]).bind λr1 =>
some (.inl (r1,w64 (s1.2+1)))) <|
some (.inr s1.1)
def jc (a0:List ab) (s2:(List (List Int))):Option (((List (List Int)))⊕((List (List Int)))):=
(fM a0 s2).bind λy9 =>
sel y9.1 (some (.inl y9.2)) <|
some (.inr y9.2)
def jd (a0:List ab) (s3:Int×(List (List Int))):Option ((Int×(List (List Int)))⊕((List (List Int)))):=
sel (decide (s3.1<(a0.length:Int))) (((nth s3.2 s3.1).bind λx2 =>
sel ((x2.length:Int)==0) ((fu).bind λy14 =>
some (s3.2.set (Int.toNat s3.1) y14)) <|
some s3.2:Option ((List (List Int)))).bind λy13 =>
some (.inl (w64 (s3.1+1),y13))) <|
some (.inr s3.2)
def dY (a0:List ab):Option ((List (List Int))):=
(aO a0).bind λy1 =>
sel (!y1) (some []) <|
(aI (jb a0) ([],0)).bind λy2 =>
(fu).bind λy5 =>
(nth y2 0).bind λx1 =>
(aI (jc a0) (y2.set (Int.toNat 0) y5)).bind λy6 =>
(aI (jd a0) (0,y6)).bind λy10 =>
some y10
def gD (a0:ab) (a1:List Int):Option (ab):=
(sel (a0.Op==2) (some (a0.Op==2)) <|
sel (a0.Op==5) (some (a0.Op==5)) <|
sel (a0.Op==6) (some (a0.Op==6)) <|
some (a0.Op==9):Option (Bool)).bind λy1 =>
sel y1 ((nth a1 a0.A).bind λx1 =>
some (ab.mk a0.Op a0.Dst x1 a0.B a0.N)) <|
sel (a0.Op==3) ((nth a1 a0.A).bind λx2 =>
(nth a1 a0.B).bind λx3 =>
some (ab.mk a0.Op a0.Dst x2 x3 a0.N)) <|
some a0
def c7 (a0:List ab) (y2:(List (List Int))) (s1:(List ab)×Int):Option (((List ab)×Int)⊕((List ab))):=
sel (decide (s1.2<(a0.length:Int))) ((nth y2 s1.2).bind λx1 =>
(nth a0 s1.2).bind λx3 =>
(gD x3 x1).bind λy7 =>
(app 40 s1.1 [y7]).bind λr2 =>
some (.inl (r2,w64 (s1.2+1)))) <|
some (.inr s1.1)
def fN (a0:List ab):Option ((List ab)×Bool):=
(aO a0).bind λy1 =>
sel (!y1) (some ([],false)) <|
(dY a0).bind λy2 =>
(aI (c7 a0 y2) ([],0)).bind λy3 =>
some (y3,true)
def kz (a0:List ab) (s1:Int×Int):Option ((Int×Int)⊕(Int⊕Unit)):=
sel (decide (s1.2<(a0.length:Int))) ((nth a0 s1.1).bind λx1 =>
sel (x1.Op !=4) (some (.inr (.inl s1.1))) <|
(nth a0 s1.1).bind λx2 =>
some (.inl (x2.N,w64 (s1.2+1)))) <|
some (.inr (.inr ()))
def eH (a0:List ab) (a1:Int):Option (Int):=
(aI (kz a0) (a1,0)).bind λy1 =>
jX y1 (λo3=>some o3) (λo4 =>
some a1)
def c8 (a0:List ab) (s1:(List ab)×Int):Option (((List ab)×Int)⊕((List ab))):=
sel (decide (s1.2<(a0.length:Int))) ((nth a0 s1.2).bind λx1 =>
(sel ((x1.Op==4)||(x1.Op==5)) ((eH a0 x1.N).bind λy6 =>
some (ab.mk x1.Op x1.Dst x1.A x1.B y6)) <|
some x1:Option (ab)).bind λy5 =>
(app 40 s1.1 [y5]).bind λr1 =>
some (.inl (r1,w64 (s1.2+1)))) <|
some (.inr s1.1)
def fO (a0:List ab):Option ((List ab)×Bool):=
(aO a0).bind λy1 =>
sel (!y1) (some ([],false)) <|
(aI (c8 a0) ([],0)).bind λy2 =>
some (y2,true)
def lh (a1:List (List Bool)) (y1:(List Int)) (s1:Int×(List Bool)) (s2:Int×(List Bool)):Option ((Int×(List Bool))⊕((List Bool))):=
sel (decide (s2.1<12)) ((nth s2.2 s2.1).bind λx1 =>
(sel x1 (some true) ((nth y1 s1.1).bind λx2=>(nth a1 x2).bind λx3=>(nth x3 s2.1).bind λx4=>some x4):Option (Bool)).bind λb1 =>
(nth s2.2 s2.1).bind λx5 =>
(upd s2.2 s2.1 b1).bind λr2 =>
some (.inl (w64 (s2.1+1),r2))) <|
some (.inr s2.2)
def lj (a1:List (List Bool)) (y1:(List Int)) (s1:Int×(List Bool)):Option ((Int×(List Bool))⊕((List Bool))):=
sel (decide (s1.1<(y1.length:Int))) ((aI (lh a1 y1 s1) (0,s1.2)).bind λy5 =>
some (.inl (w64 (s1.1+1),y5))) <|
some (.inr s1.2)
def fP (a0:List ab) (a1:List (List Bool)) (a2:Int):Option ((List Bool)):=
(mk 1 12 false).bind λr1 =>
(dh a0 a2).bind λy1 =>
(aI (lj a1 y1) (0,r1)).bind λy2 =>
some y2
def jF (a0:ab):Option ((List Int)):=
(eG a0 600).bind λy1 =>
sel (!y1) (some []) <|
(sel (a0.Op==2) (some (a0.Op==2)) <|
sel (a0.Op==5) (some (a0.Op==5)) <|
sel (a0.Op==6) (some (a0.Op==6)) <|
some (a0.Op==9):Option (Bool)).bind λy2 =>
sel y2 (some [a0.A]) <|
sel (a0.Op==3) (sel (a0.A==a0.B) (some [a0.A]) <|
some [min a0.A a0.B,max a0.A a0.B]) <|
some []
def kA (y4:(List Int)) (s1:Int×(List Bool)):Option ((Int×(List Bool))⊕((List Bool))):=
sel (decide (s1.1<(y4.length:Int))) ((nth y4 s1.1).bind λx2 =>
(nth s1.2 x2).bind λx3 =>
(upd s1.2 x2 true).bind λr3 =>
some (.inl (w64 (s1.1+1),r3))) <|
some (.inr s1.2)
def iJ (a0:ab) (a1:List Bool):Option ((List Bool)):=
(app 1 [] a1).bind λr1 =>
((ce a0).bind λy2 =>
sel (decide (y2>=0)) ((ce a0).bind λy3 =>
(nth r1 y3).bind λx1 =>
(upd r1 y3 false).bind λr2 =>
some r2) <|
some r1:Option ((List Bool))).bind λy1 =>
(jF a0).bind λy4 =>
(aI (kA y4) (0,y1)).bind λy5 =>
some y5
def lP (a0:List Bool) (a1:List Bool) (s1:Int):Option (Int⊕(Bool⊕Unit)):=
sel (decide (s1<(a0.length:Int))) ((nth a0 s1).bind λx1 =>
(nth a1 s1).bind λx2 =>
sel (x1 !=x2) (some (.inr (.inl false))) <|
some (.inl (w64 (s1+1)))) <|
some (.inr (.inr ()))
def kB (a0:List Bool) (a1:List Bool):Option (Bool):=
(aI (lP a0 a1) 0).bind λy1 =>
jX y1 (λo3=>some o3) (λo4 =>
some ((a0.length:Int)==(a1.length:Int)))
def d9 (a0:List ab) (s1:Bool×Int×(List (List Bool))):Option ((Bool×Int×(List (List Bool)))⊕(Bool×(List (List Bool)))):=
sel (decide (s1.2.1>=0)) (((nth a0 s1.2.1).bind λx1 =>
(fP a0 s1.2.2 s1.2.1).bind λy5 =>
(iJ x1 y5).bind λy6 =>
(nth s1.2.2 s1.2.1).bind λx2 =>
(kB y6 x2).bind λy7 =>
sel (!y7) (some (true,(s1.2.2.set (Int.toNat s1.2.1) y6))) <|
some (s1.1,s1.2.2):Option (Bool×(List (List Bool)))).bind λy4 =>
some (.inl (y4.1,w64 (s1.2.1-1),y4.2))) <|
some (.inr (s1.1,s1.2.2))
def di (a0:List ab) (a1:List (List Bool)):Option (Bool×(List (List Bool))):=
(aI (d9 a0) (false,w64 ((a0.length:Int)-1),a1)).bind λy1 =>
some (y1.1,y1.2)
def iK (a0:List ab) (s1:(List (List Bool))×Int):Option (((List (List Bool))×Int)⊕((List (List Bool)))):=
sel (decide (s1.2<(a0.length:Int))) ((mk 1 12 false).bind λr1 =>
(app 24 s1.1 [r1]).bind λr2 =>
some (.inl (r2,w64 (s1.2+1)))) <|
some (.inr s1.1)
def bL (a0:List ab) (s2:(List (List Bool))):Option (((List (List Bool)))⊕((List (List Bool)))):=
(di a0 s2).bind λy8 =>
sel y8.1 (some (.inl y8.2)) <|
some (.inr y8.2)
def dZ (a0:List ab):Option ((List (List Bool))):=
(aO a0).bind λy1 =>
sel (!y1) (some []) <|
(aI (iK a0) ([],0)).bind λy2 =>
(aI (bL a0) y2).bind λy5 =>
some y5
def gF (a0:ab) (a1:List Bool):Option (Bool):=
(sel (a0.Op==1) (some (a0.Op==1)) <|
sel (a0.Op==2) (some (a0.Op==2)) <|
some (a0.Op==3):Option (Bool)).bind λy1 =>
sel y1 ((nth a1 a0.Dst).bind λx1 =>
some (!x1)) <|
some false
def c9 (a0:List ab) (y2:(List (List Bool))) (s1:(List ab)×Int):Option (((List ab)×Int)⊕((List ab))):=
sel (decide (s1.2<(a0.length:Int))) ((nth a0 s1.2).bind λx1 =>
((fP a0 y2 s1.2).bind λy7 =>
(gF x1 y7).bind λy8 =>
sel y8 (some (ab.mk 4 0 0 0 (w64 (s1.2+1)))) <|
some x1:Option (ab)).bind λy6 =>
(app 40 s1.1 [y6]).bind λr1 =>
some (.inl (r1,w64 (s1.2+1)))) <|
some (.inr s1.1)
def fQ (a0:List ab):Option ((List ab)×Bool):=
(aO a0).bind λy1 =>
sel (!y1) (some ([],false)) <|
(dZ a0).bind λy2 =>
(aI (c9 a0 y2) ([],0)).bind λy3 =>
some (y3,true)
def hY (y5:(List Int)) (s2:Bool×Int×(List Bool)):Option ((Bool×Int×(List Bool))⊕(Bool×(List Bool))):=
sel (decide (s2.2.1<(y5.length:Int))) (((nth y5 s2.2.1).bind λx2 =>
(nth s2.2.2 x2).bind λx3 =>
sel (!x3) ((nth y5 s2.2.1).bind λx4 =>
(nth s2.2.2 x4).bind λx5 =>
(upd s2.2.2 x4 true).bind λr1 =>
some (true,r1)) <|
some (s2.1,s2.2.2):Option (Bool×(List Bool))).bind λy9 =>
some (.inl (y9.1,w64 (s2.2.1+1),y9.2))) <|
some (.inr (s2.1,s2.2.2))
def hZ (a0:List ab) (s1:Bool×Int×(List Bool)):Option ((Bool×Int×(List Bool))⊕(Bool×(List Bool))):=
sel (decide (s1.2.1<(a0.length:Int))) (((nth s1.2.2 s1.2.1).bind λx1 =>
sel (!x1) (some (s1.1,s1.2.2)) <|
(dh a0 s1.2.1).bind λy5 =>
(aI (hY y5) (s1.1,0,s1.2.2)).bind λy6 =>
some (y6.1,y6.2):Option (Bool×(List Bool))).bind λy4 =>
some (.inl (y4.1,w64 (s1.2.1+1),y4.2))) <|
some (.inr (s1.1,s1.2.2))
def eI (a0:List ab) (a1:List Bool):Option (Bool×(List Bool)):=
(aI (hZ a0) (false,0,a1)).bind λy1 =>
some (y1.1,y1.2)
def ia (a0:List ab) (s1:(List Bool)):Option (((List Bool))⊕((List Bool))):=
(eI a0 s1).bind λy5 =>
sel y5.1 (some (.inl y5.2)) <|
some (.inr y5.2)
def cJ (a0:List ab):Option ((List Bool)):=
(aO a0).bind λy1 =>
sel (!y1) (some []) <|
(mk 1 (a0.length:Int) false).bind λr1 =>
(nth r1 0).bind λx1 =>
(upd r1 0 true).bind λr2 =>
(aI (ia a0) r2).bind λy2 =>
some y2
def kC (a0:ab) (a1:Int):Option (Bool):=
(sel (a0.Op==4) (some (a0.Op==4)) <|
some (a0.Op==5):Option (Bool)).bind λy1 =>
sel y1 (some (a0.N==(w64 (a1+1)))) <|
sel (a0.Op==2) (some (a0.Dst==a0.A)) <|
some false
def lk (a0:List Bool) (a1:Int) (s1:Int×Int):Option ((Int×Int)⊕Int):=
sel (decide (s1.2<a1)) (((nth a0 s1.2).bind λx1 =>
sel x1 (some (w64 (s1.1+1))) <|
some s1.1:Option (Int)).bind λy4 =>
some (.inl (y4,w64 (s1.2+1)))) <|
some (.inr s1.1)
def jG (a0:List Bool) (a1:Int):Option (Int):=
(aI (lk a0 a1) (0,0)).bind λy1 =>
some y1
def dI (a0:List ab) (s1:Int×(List Bool)):Option ((Int×(List Bool))⊕((List Bool))):=
sel (decide (s1.1<(a0.length:Int))) ((nth s1.2 s1.1).bind λx1 =>
(sel x1 ((nth a0 s1.1).bind λx2=>(kC x2 s1.1).bind λy6=>some (!y6)) (some false):Option (Bool)).bind λb1 =>
(nth s1.2 s1.1).bind λx3 =>
(upd s1.2 s1.1 b1).bind λr1 =>
some (.inl (w64 (s1.1+1),r1))) <|
some (.inr s1.2)
def dJ (a0:List ab) (y3:(List Bool)) (s2:(List ab)×Int):Option (((List ab)×Int)⊕((List ab))):=
sel (decide (s2.2<(a0.length:Int))) (((nth a0 s2.2).bind λx4 =>
(nth y3 s2.2).bind λx5 =>
sel (!x5) (some s2.1) <|
(sel ((x4.Op==4)||(x4.Op==5)) ((jG y3 x4.N).bind λy12 =>
some (ab.mk x4.Op x4.Dst x4.A x4.B y12)) <|
some x4:Option (ab)).bind λy11 =>
(app 40 s2.1 [y11]).bind λr2 =>
some r2:Option ((List ab))).bind λy10 =>
some (.inl (y10,w64 (s2.2+1)))) <|
some (.inr s2.1)
def da (a0:List ab):Option ((List ab)×Bool):=
(aO a0).bind λy1 =>
sel (!y1) (some ([],false)) <|
(cJ a0).bind λy2 =>
(aI (dI a0) (0,y2)).bind λy3 =>
(aI (dJ a0 y3) ([],0)).bind λy7 =>
some (y7,true)
def l5 (a0:List ab):Option ((List ab)):=
(fJ a0).bind λy1 =>
(fN y1.1).bind λy2 =>
(fO y2.1).bind λy3 =>
(fQ y3.1).bind λy4 =>
(da y4.1).bind λy5 =>
some y5.1
def bG (a1:Int) (s1:(List ab)×Int):Option (((List ab)×Int)⊕((List ab))):=
sel (decide (s1.2<a1)) ((l5 s1.1).bind λy6 =>
some (.inl (y6,w64 (s1.2+1)))) <|
some (.inr s1.1)
def bX (a0:List ab) (a1:Int):Option ((List ab)×Bool):=
(aO a0).bind λy1 =>
(sel (!y1) (some true) ((bp a1 0 4).bind λy2=>some (!y2)):Option (Bool)).bind λb1 =>
sel b1 (some ([],false)) <|
(app 40 [] a0).bind λr1 =>
(aI (bG a1) (r1,0)).bind λy3 =>
some (y3,true)
def cN (a0:List (List ab)) (a1:Int) (s1:(List (List ab))×Int):Option (((List (List ab))×Int)⊕(((List (List ab))×Bool)⊕((List (List ab))))):=
sel (decide (s1.2<(a0.length:Int))) ((nth a0 s1.2).bind λx1 =>
(bX x1 a1).bind λy5 =>
sel (!y5.2) (some (.inr (.inl ([],false)))) <|
(app 24 s1.1 [y5.1]).bind λr1 =>
some (.inl (r1,w64 (s1.2+1)))) <|
some (.inr (.inr s1.1))
def db (a0:List (List ab)) (a1:Int):Option ((List (List ab))×Bool):=
(bp (a0.length:Int) 1 3).bind λy1 =>
sel (!y1) (some ([],false)) <|
(aI (cN a0 a1) ([],0)).bind λy2 =>
jX y2 (λo3=>some o3) (λo4 =>
some (o4,true))
def lm (a0:List ab) (y1:(List (List Bool))) (s1:(List (List Bool))×Int):Option (((List (List Bool))×Int)⊕((List (List Bool)))):=
sel (decide (s1.2<(a0.length:Int))) ((fP a0 y1 s1.2).bind λy5 =>
(app 24 s1.1 [y5]).bind λr1 =>
some (.inl (r1,w64 (s1.2+1)))) <|
some (.inr s1.1)
def jH (a0:List ab):Option ((List (List Bool))):=
(dZ a0).bind λy1 =>
(aI (lm a0 y1) ([],0)).bind λy2 =>
some y2
def gV (a0:ab) (a1:List Bool) (a2:Int) (a3:Int):Option (Bool):=
(ce a0).bind λy1 =>
(sel (y1 !=a2) (some true) ((nth a1 a3).bind λx1=>some (!x1)):Option (Bool)).bind λb1 =>
sel b1 (some false) <|
some ((a0.Op !=2)||(a0.A !=a3))
def lQ (a0:List ab) (a1:List (List Bool)) (a2:Int) (a3:Int) (s1:Int):Option (Int⊕(Bool⊕Unit)):=
sel (decide (s1<(a0.length:Int))) ((nth a0 s1).bind λx1 =>
(nth a1 s1).bind λx2 =>
(gV x1 x2 a2 a3).bind λy4 =>
(sel y4 (some true) ((nth a0 s1).bind λb_1=>(nth a1 s1).bind λb_2=>(gV b_1 b_2 a3 a2).bind λb_3=>some b_3)).bind λb1 =>
sel b1 (some (.inr (.inl true))) <|
some (.inl (w64 (s1+1)))) <|
some (.inr (.inr ()))
def kD (a0:List ab) (a1:List (List Bool)) (a2:Int) (a3:Int):Option (Bool):=
sel (a2==a3) (some false) <|
(aI (lQ a0 a1 a2 a3) 0).bind λy1 =>
jX y1 (λo3=>some o3) (λo4 =>
some false)
def je (a0:List ab) (a1:List (List Bool)) (a2:List Int) (s1:Int) (s2:Bool×Int):Option ((Bool×Int)⊕Bool):=
sel (decide (s2.2<(a2.length:Int))) (((nth a2 s2.2).bind λx1 =>
(sel (x1==s1) ((kD a0 a1 s2.2 (a2.length:Int)).bind λy8=>some y8) (some false):Option (Bool)).bind λb1 =>
sel b1 (some false) <|
some s2.1:Option (Bool)).bind λy7 =>
some (.inl (y7,w64 (s2.2+1)))) <|
some (.inr s2.1)
def ln (a0:List ab) (a1:List (List Bool)) (a2:List Int) (s1:Int):Option (Int⊕(Int⊕Unit)):=
sel (decide (s1<(a2.length:Int))) ((aI (je a0 a1 a2 s1) (true,0)).bind λy4 =>
sel y4 (some (.inr (.inl s1))) <|
some (.inl (w64 (s1+1)))) <|
some (.inr (.inr ()))
def jI (a0:List ab) (a1:List (List Bool)) (a2:List Int):Option (Int):=
(aI (ln a0 a1 a2) 0).bind λy1 =>
jX y1 (λo3=>some o3) (λo4 =>
some (a2.length:Int))
def lp (a0:List ab) (y2:(List (List Bool))) (s1:(List Int)×Int):Option (((List Int)×Int)⊕((List Int))):=
sel (decide (s1.2<12)) ((jI a0 y2 s1.1).bind λy6 =>
(app 8 s1.1 [y6]).bind λr1 =>
some (.inl (r1,w64 (s1.2+1)))) <|
some (.inr s1.1)
def gW (a0:List ab):Option ((List Int)):=
(aO a0).bind λy1 =>
sel (!y1) (some []) <|
(jH a0).bind λy2 =>
(aI (lp a0 y2) ([],0)).bind λy3 =>
some y3
def iL (a0:ab) (a1:List Int):Option (ab):=
((ce a0).bind λy2 =>
sel (decide (y2>=0)) ((nth a1 a0.Dst).bind λx1 =>
some (ab.mk a0.Op x1 a0.A a0.B a0.N)) <|
some a0:Option (ab)).bind λy1 =>
(sel (y1.Op==2) (some (y1.Op==2)) <|
sel (y1.Op==5) (some (y1.Op==5)) <|
sel (y1.Op==6) (some (y1.Op==6)) <|
some (y1.Op==9):Option (Bool)).bind λy3 =>
sel y3 ((nth a1 y1.A).bind λx2 =>
some (ab.mk y1.Op y1.Dst x2 y1.B y1.N)) <|
sel (y1.Op==3) ((nth a1 y1.A).bind λx3 =>
(nth a1 y1.B).bind λx4 =>
some (ab.mk y1.Op y1.Dst x3 x4 y1.N)) <|
some y1
def fv (a0:List ab) (y2:(List Int)) (s1:(List ab)×Int):Option (((List ab)×Int)⊕((List ab))):=
sel (decide (s1.2<(a0.length:Int))) ((nth a0 s1.2).bind λx1 =>
(iL x1 y2).bind λy6 =>
(app 40 s1.1 [y6]).bind λr1 =>
some (.inl (r1,w64 (s1.2+1)))) <|
some (.inr s1.1)
def ga (a0:List ab):Option ((List ab)×Bool):=
(aO a0).bind λy1 =>
sel (!y1) (some ([],false)) <|
(gW a0).bind λy2 =>
(aI (fv a0 y2) ([],0)).bind λy3 =>
some (y3,true)
def gG (y2:(List (List ab))×Bool) (s1:(List (List ab))×Int):Option (((List (List ab))×Int)⊕((List (List ab)))):=
sel (decide (s1.2<(y2.1.length:Int))) ((nth y2.1 s1.2).bind λx1 =>
(ga x1).bind λy6 =>
(app 24 s1.1 [y6.1]).bind λr1 =>
some (.inl (r1,w64 (s1.2+1)))) <|
some (.inr s1.1)
def eV (k:Nat) (a0:aA) (a1:Int):Option ((List (List ab))×Bool):=
(cM k (aA.mk a0.Rooms a0.Tasks)).bind λy1 =>
sel (!y1.2) (some ([],false)) <|
(db y1.1 a1).bind λy2 =>
sel (!y2.2) (some ([],false)) <|
(aI (gG y2) ([],0)).bind λy3 =>
some (y3,true)
def jf (a0:List ab) (a1:List ab) (s1:Int):Option (Int⊕(Bool⊕Unit)):=
sel (decide (s1<(a0.length:Int))) ((nth a0 s1).bind λx1 =>
(nth a1 s1).bind λx2 =>
sel (!((x1.Op==x2.Op)&&((x1.Dst==x2.Dst)&&((x1.A==x2.A)&&((x1.B==x2.B)&&((x1.N==x2.N)&&true)))))) (some (.inr (.inl false))) <|
some (.inl (w64 (s1+1)))) <|
some (.inr (.inr ()))
def gX (a0:List ab) (a1:List ab):Option (Bool):=
sel ((a0.length:Int) !=(a1.length:Int)) (some false) <|
(aI (jf a0 a1) 0).bind λy1 =>
jX y1 (λo3=>some o3) (λo4 =>
some true)
def ib (a0:List (List ab)) (a1:List (List ab)) (s1:Int):Option (Int⊕(Bool⊕Unit)):=
sel (decide (s1<(a0.length:Int))) ((nth a0 s1).bind λx1 =>
(nth a1 s1).bind λx2 =>
(gX x1 x2).bind λy4 =>
sel (!y4) (some (.inr (.inl false))) <|
some (.inl (w64 (s1+1)))) <|
some (.inr (.inr ()))
def dv (a0:List (List ab)) (a1:List (List ab)):Option (Bool):=
sel ((a0.length:Int) !=(a1.length:Int)) (some false) <|
(aI (ib a0 a1) 0).bind λy1 =>
jX y1 (λo3=>some o3) (λo4 =>
some true)
def eW (k:Nat) (a0:List ae):Option (Bool):=
(eS k a0 3).bind λy1 =>
some y1
def gb (k:Nat) (a0:List ae):Option ((List ab)×Bool):=
(eW k a0).bind λy1 =>
sel (!y1) (some ([],false)) <|
(cU k a0).bind λy2 =>
some (y2,true)
def gc (k:Nat) (a0:List ae):Option (Int):=
(eW k a0).bind λy1 =>
sel (!y1) (some (-1)) <|
(cU k a0).bind λy2 =>
some (y2.length:Int)
def fw (k:Nat) (y1:aA×Int) (y2:(List (List ab))×Bool) (s1:Int):Option (Int⊕(Bool⊕Unit)):=
sel (decide (s1<(y1.1.Tasks.length:Int))) ((nth y1.1.Tasks s1).bind λx1 =>
(gb k x1).bind λy9 =>
(bD y9.1 y1.2).bind λy10 =>
(dn y10.1).bind λy11 =>
(sel (((!y9.2)||(!y10.2))||(!y11.2)) (some true) ((nth y2.1 s1).bind λx2=>(gX y11.1 x2).bind λy12=>some (!y12)):Option (Bool)).bind λb3 =>
(sel b3 (some true) ((nth y1.1.Tasks s1).bind λx3=>(gc k x3).bind λy13=>some (decide ((y11.1.length:Int)>y13))):Option (Bool)).bind λb4 =>
sel b4 (some (.inr (.inl false))) <|
some (.inl (w64 (s1+1)))) <|
some (.inr (.inr ()))
def ic (k:Nat) (a0:List Int):Option (Bool):=
sel (decide ((a0.length:Int)>1048576)) (some true) <|
(dF k a0).bind λy1 =>
(eT k (aA.mk y1.1.Rooms y1.1.Tasks) y1.2).bind λy2 =>
(eV k (aA.mk y1.1.Rooms y1.1.Tasks) y1.2).bind λy3 =>
(sel (y2.2 !=y3.2) (some true) ((dv y2.1 y3.1).bind λy4=>some (!y4)):Option (Bool)).bind λb1 =>
sel (b1||(!y2.2)) ((sel (y2.2==y3.2) ((dv y2.1 y3.1).bind λy5=>some y5) (some false):Option (Bool)).bind λb2 =>
some b2) <|
(aI (fw k y1 y2) 0).bind λy6 =>
jX y6 (λo3=>some o3) (λo4 =>
some ((y2.1.length:Int)==(y1.1.Tasks.length:Int)))
end
end Go.Proofs.YtmjebmhcbnkojaaGreat.N
namespace Go.Proofs.YtmjebmhcbnkojaaGreat.X
noncomputable section
variable {σ τ ρ ρ' α:Type}
theorem xP (x:Int):w64 x=if 9223372036854775808<=x%18446744073709551616 then x%18446744073709551616-18446744073709551616 else x%18446744073709551616:=by
 show IntKind.wrap .i64 x=_
 simp [IntKind.wrap,IntKind.signed,IntKind.bits]
theorem vT {x:Int} (h1 : -9223372036854775808<=x) (h2:x<=9223372036854775807):w64 x=x:=by
 rw [xP]
 split <;> omega
theorem xQ {f:σ->Option (σ⊕ρ)} (I:σ->Prop) (μ:σ->Nat) (Q:ρ->Prop) (h:∀ s,I s->(∃ s',f s=some (.inl s')/\I s'/\μ s'<μ s)\/(∃ r,f s=some (.inr r)/\Q r)):∀ {s:σ},I s->∃ r,aI f s=some r/\Q r:=by
 have key:∀ n s,μ s<=n->I s->∃ r,aI f s=some r/\Q r:=by
  intro n
  induction n with
  | zero =>
   intro s hs hI
   rcases h s hI with ⟨s',_,_,h3⟩ | ⟨r,h1,h2⟩
   ·omega
   ·exact ⟨r,by rw [df,h1],h2⟩
  | succ n ih =>
   intro s hs hI
   rcases h s hI with ⟨s',h1,h2,h3⟩ | ⟨r,h1,h2⟩
   ·obtain ⟨r,k1,k2⟩:=ih s' (by omega) h2
    exact ⟨r,by rw [df,h1]; exact k1,k2⟩
   ·exact ⟨r,by rw [df,h1],h2⟩
 exact λ{s} hI=>key _ s (Nat.le_refl _) hI
theorem vo {f:σ->Option (σ⊕ρ)} {g:τ->Option (τ⊕ρ')} (R:σ->τ->Prop) (μ:σ->Nat) (Q:ρ->ρ'->Prop)
  (h:∀ s t,R s t->(∃ s' t',f s=some (.inl s')/\g t=some (.inl t')/\R s' t'/\μ s'<μ s)\/(∃ r r',f s=some (.inr r)/\g t=some (.inr r')/\Q r r')):∀ {s:σ} {t:τ},R s t->∃ r r',aI f s=some r/\aI g t=some r'/\Q r r':=by
 have key:∀ n s t,μ s<=n->R s t->∃ r r',aI f s=some r/\aI g t=some r'/\Q r r':=by
  intro n
  induction n with
  | zero =>
   intro s t hs hI
   rcases h s t hI with ⟨s',t',_,_,_,h3⟩ | ⟨r,r',h1,h2,h3⟩
   ·omega
   ·exact ⟨r,r',by rw [df,h1],by rw [df,h2],h3⟩
  | succ n ih =>
   intro s t hs hI
   rcases h s t hI with ⟨s',t',h1,h2,h3,h4⟩ | ⟨r,r',h1,h2,h3⟩
   ·obtain ⟨r,r',k1,k2,k3⟩:=ih s' t' (by omega) h3
    exact ⟨r,r',by rw [df,h1]; exact k1,by rw [df,h2]; exact k2,k3⟩
   ·exact ⟨r,r',by rw [df,h1],by rw [df,h2],h3⟩
 exact λ{s t} hI=>key _ s t (Nat.le_refl _) hI
theorem zM {bytes:Nat} {l m:List α} (h:(l.length+m.length)*bytes<=140737488355328):app bytes l m=some (l++m):=by
 unfold app ww
 rw [Nat.ble_eq_true_of_le h]
theorem jJ {α:Type} {b:Bool} (h:b=true) (x y:α):sel b x y=x:=by subst h; rfl
theorem aZ {α:Type} {b:Bool} (h:b=false) (x y:α):sel b x y=y:=by subst h; rfl
def wI (mk:α->Int->Option (Int×α)):List α->Int->Option (Int×List α)
 | [],k=>some (k,[])
 | x::xs,k=>match mk x k with
  | some (k1,x')=>match wI mk xs k1 with
   | some (k2,xs')=>some (k2,x'::xs')
   | none=>none
  | none=>none
def xR (hd:α->Int->Int->Prop):List α->Int->Int->Prop
 | [],k,k'=>k'=k
 | x::xs,k,k'=>∃ k1,hd x k k1/\xR hd xs k1 k'
def MH (mk:α->Int->Option (Int×α)) (hd:α->Int->Int->Prop) (sz:α->Nat):Prop:=
 ∀ x (k:Int),1<=k->k+sz x<=1000000000000->∃ x',mk x k=some (k+sz x,x')/\hd x' k (k+sz x)
def szs (sz:α->Nat):List α->Nat
 | []=>0
 | x::xs=>sz x+szs sz xs
theorem MH.list {mk:α->Int->Option (Int×α)} {hd:α->Int->Int->Prop} {sz:α->Nat} (h:MH mk hd sz):∀ (l:List α) (k:Int),1<=k->k+szs sz l<=1000000000000->∃ l',wI mk l k=some (k+szs sz l,l')/\xR hd l' k (k+szs sz l)/\l'.length=l.length
 | [],k,_,_=>⟨[],by simp [wI,szs],by simp [xR,szs],rfl⟩
 | x::xs,k,h1,h2=>by
  simp only [szs] at h2
  obtain ⟨x',k1,k2⟩:=h x k h1 (by omega)
  obtain ⟨l',k3,k4,k5⟩:=MH.list h xs (k+sz x) (by omega) (by omega)
  refine ⟨x'::l',?_,⟨_,k2,?_⟩,by simp [k5]⟩
  ·simp only [wI,k1,k3,szs]
   congr 2
   omega
  ·rw [show k+(szs sz (x::xs):Nat)=k+sz x+szs sz xs by simp only [szs]; omega]
   exact k4
end
noncomputable section
variable {α β σ ρ:Type} {Q:α->Prop} {x y:Option α} {b:Bool} {l m:List α} {i:Int}
def Tot (x:Option α) (Q:α->Prop):Prop:=∃ r,x=some r/\Q r
theorem Tot.pure {r:α} (h:Q r):Tot (some r) Q:=⟨r,rfl,h⟩
theorem Tot.bind {x:Option β} {f:β->Option α} {P:β->Prop} (h:Tot x P) (k:∀ r,P r->Tot (f r) Q):Tot (x.bind f) Q:=by
 obtain ⟨r,rfl,hr⟩:=h
 exact k r hr
theorem Tot.mono {P:α->Prop} (h:Tot x P) (k:∀ r,P r->Q r):Tot x Q:=by
 obtain ⟨r,e,hr⟩:=h
 exact ⟨r,e,k r hr⟩
theorem Tot.sel (ht:b=true->Tot x Q) (hf:b=false->Tot y Q):Tot (X.sel b x y) Q:=by
 cases b
 ·exact hf rfl
 ·exact ht rfl
theorem Tot.st (h:b=true) (k:Tot x Q):Tot (X.sel b x y) Q:=by subst h; exact k
theorem Tot.sf (h:b=false) (k:Tot y Q):Tot (X.sel b x y) Q:=by subst h; exact k
theorem Tot.both {A B:Type} {s:A⊕B} {f:A->Option α} {g:B->Option α} (hl:∀ a,s=.inl a->Tot (f a) Q) (hr:∀ a,s=.inr a->Tot (g a) Q):Tot (X.jX s f g) Q:=by
 cases s
 ·exact hl _ rfl
 ·exact hr _ rfl
theorem Tot.eq {r:α} (h:Tot x (λz=>z=r)):x=some r:=by
 obtain ⟨z,e,rfl⟩:=h
 exact e
theorem Tot.of {r:α} (h:x=some r) (k:Q r):Tot x Q:=⟨r,h,k⟩
theorem Tot.nth (h0:0<=i) (h1:i<l.length):Tot (X.nth l i) (λz=>l[i.toNat]?=some z/\z∈l):=by
 have h2:i.toNat<l.length:=by omega
 refine ⟨l[i.toNat],?_,List.getElem?_eq_getElem h2,List.getElem_mem h2⟩
 unfold X.nth
 rw [if_neg (by omega),List.getElem?_eq_getElem h2]
theorem Tot.upd {z:α} (h0:0<=i) (h1:i<l.length):Tot (X.upd l i z) (λr=>r=l.set i.toNat z):=by
 refine ⟨_,?_,rfl⟩
 unfold X.upd
 rw [if_pos ⟨h0,h1⟩]
theorem Tot.app {bytes:Nat} (h:(l.length+m.length)*bytes<=140737488355328):Tot (X.app bytes l m) (λr=>r=l++m):=⟨_,zM h,rfl⟩
theorem Tot.mk {bytes:Nat} {n:Int} {z:α} (h0:0<=n) (h:n.toNat*bytes<=281474976710656):Tot (X.mk bytes n z) (λr=>r=List.replicate n.toNat z):=by
 refine ⟨_,?_,rfl⟩
 unfold X.mk
 rw [if_neg (by omega),Nat.ble_eq_true_of_le h]
theorem Tot.cut {lo hi:Int} (h:0<=lo/\lo<=hi/\hi<=l.length):Tot (X.cut l lo hi) (λr=>r=(l.take hi.toNat).drop lo.toNat):=by
 refine ⟨_,?_,rfl⟩
 unfold X.cut
 rw [if_pos h]
theorem Tot.rem {a c:Int} (h:c≠0):Tot (qC a c) (λr=>r=a.tmod c):=⟨_,by unfold qC; rw [if_neg h],rfl⟩
theorem Tot.quo {k:IntKind} {a c:Int} (h:c≠0):Tot (tU k a c) (λr=>r=mK k (a.tdiv c)):=⟨_,by unfold tU; rw [if_neg h],rfl⟩
theorem Tot.iter {f:σ->Option (σ⊕α)} (I:σ->Prop) (μ:σ->Nat) {s:σ} (h0:I s)
  (h:∀ s,I s->Tot (f s) (λz=>match z with | .inl s'=>I s'/\μ s'<μ s | .inr r=>Q r)):Tot (X.aI f s) Q:=by
 obtain ⟨r,h1,h2⟩:=xQ I μ Q (λs hs=>by
  obtain ⟨z,e,hz⟩:=h s hs
  cases z with
  | inl s'=>exact .inl ⟨s',e,hz.1,hz.2⟩
  | inr r=>exact .inr ⟨r,e,hz⟩) h0
 exact ⟨r,h1,h2⟩
theorem Tot.inl {ρ:Type} {r:σ} {P:σ⊕ρ->Prop} (h:P (.inl r)):Tot (some (.inl r)) P:=⟨_,rfl,h⟩
theorem Tot.inr {ρ:Type} {r:ρ} {P:σ⊕ρ->Prop} (h:P (.inr r)):Tot (some (.inr r)) P:=⟨_,rfl,h⟩
theorem Tot.and {P:α->Prop} (h:Tot x P) (k:Tot x Q):Tot x (λr=>P r/\Q r):=by
 obtain ⟨r,rfl,hr⟩:=h
 obtain ⟨r',e,hr'⟩:=k
 injection e with e
 subst e
 exact ⟨r,rfl,hr,hr'⟩
theorem ao {i:Int} (h0:0<=i) (h:i<=9223372036854775806):w64 (i+1)=i+1:=vT (by omega) (by omega)
theorem aR {i:Int} (h0 : -4611686018427387904<=i) (h:i<=4611686018427387904):w64 i=i:=vT (by omega) (by omega)
theorem mA {a z:α} {k:Nat} (h:a∈l.set k z):a∈l\/a=z:=List.mem_or_eq_of_mem_set h
end
end Go.Proofs.YtmjebmhcbnkojaaGreat.X
namespace Go.Proofs.YtmjebmhcbnkojaaGreat.N
open Go.Proofs.YtmjebmhcbnkojaaGreat.X
noncomputable section
theorem nH (n a b:Int):bp n a b=some (decide (a<=n)&&decide (n<=b)):=rfl
def Wd (n:Int):Prop:=-2147483648<=n/\n<=2147483647
instance (n:Int):Decidable (Wd n):=instDecidableAnd
theorem wJ (n:Int):bQ n=some (decide (Wd n)):=by
 unfold bQ
 rw [nH]
 simp only [ob9]
 congr 1
 unfold Wd
 by_cases h1 : -2147483648<=n <;> by_cases h2:n<=2147483647 <;> simp [h1,h2]
theorem nI (n:Int):Tot (eU n) Wd:=by
 unfold eU
 have h1 : -4294967296<n.tmod 4294967296:=by
  rcases Int.le_total 0 n with h | h
  ·have:=Int.tmod_nonneg 4294967296 h; omega
  ·have:=Int.tmod_nonneg 4294967296 (show 0 <= -n by omega); rw [Int.neg_tmod] at this
   have:=Int.tmod_lt_of_pos (-n) (show (0:Int)<4294967296 by omega); rw [Int.neg_tmod] at this; omega
 have h2:=Int.tmod_lt_of_pos n (show (0:Int)<4294967296 by omega)
 refine .sel (λh=>.pure ?_) λh=>.sel (λh'=>.pure ?_) λh'=>.pure ?_
 all_goals simp only [decide_eq_true_eq,decide_eq_false_iff_not] at *
 ·rw [aR (by omega) (by omega)]; unfold Wd; omega
 ·rw [aR (by omega) (by omega)]; unfold Wd; omega
 ·unfold Wd; omega
def By (b:List Int):Prop:=b.length<=2000/\∀ x∈b,0<=x/\x<=255
def Dr {α:Type} (x:Option (α×Int)) (m:Int) (Q:α->Prop):Prop:=Tot x λr=>0<=r.2/\r.2<=m/\Q r.1
theorem vU {a c:Nat} (ha:a<9223372036854775808) (hc:c<9223372036854775808):bq .xor .i64 (a:Int) (c:Int)=((a ^^^ c:Nat):Int):=by
 have h1:∀ n:Nat,n<9223372036854775808->(BitVec.ofInt 64 (n:Int)).toNat=n:=λn hn=>by
  simp only [BitVec.ofInt_natCast,BitVec.toNat_ofNat]
  exact Nat.mod_eq_of_lt (by omega)
 show IntKind.wrap .i64 ((BitVec.ofInt 64 (a:Int) ^^^ BitVec.ofInt 64 (c:Int)).toNat:Int)=_
 rw [BitVec.toNat_xor,h1 a ha,h1 c hc]
 have:=Nat.xor_lt_two_pow (n:=63) ha hc
 exact vT (x:=((a ^^^ c:Nat):Int)) (by omega) (by omega)
theorem xS {b:List Int} {p n:Int} (hb:By b) (h0:0<=p) (hp:p<=1000000000) (hn:1<=n) (hn':n<=1000000):Tot (ay ⟨b,p⟩ n) λr=>r.2=p+1/\0<=r.1/\r.1<n:=by
 obtain ⟨hl,hx⟩:=hb
 have e1:w64 (p+1)=p+1:=aR (by omega) (by omega)
 have e2:w64 (p+1-1)=p:=by rw [aR (by omega) (by omega)]; omega
 unfold ay
 simp only [e1,e2]
 refine .sel (λ_=>.pure ⟨rfl,by omega,by omega⟩) λhh=>?_
 simp only [Bool.or_eq_false_iff,decide_eq_false_iff_not,beq_eq_false_iff_ne] at hh
 have hl0:0<(b.length:Int):=by omega
 refine .sel (λh=>?_) λh=>?_
 ·simp only [decide_eq_true_eq] at h
  refine .bind (.nth h0 h) λx ⟨_,hm⟩=>?_
  have:=hx x hm
  refine .bind (.rem (by omega)) λd hd=>.pure ⟨rfl,?_,?_⟩
  all_goals (rw [aR (by omega) (by omega)] at hd; subst hd)
  ·exact Int.tmod_nonneg _ (by omega)
  ·exact Int.tmod_lt_of_pos _ (by omega)
 ·refine .bind (.rem (by omega)) λd hd=>?_
  have hd1:0<=d/\d<b.length:=by subst hd; exact ⟨Int.tmod_nonneg _ h0,Int.tmod_lt_of_pos _ hl0⟩
  refine .bind (.nth hd1.1 hd1.2) λx ⟨_,hm⟩=>?_
  have hx1:=hx x hm
  refine .bind (.rem (by omega)) λd' hd'=>?_
  have e3:w64 (w64 (p*7)+3)=p*7+3:=by rw [aR (i:=p*7) (by omega) (by omega),aR (by omega) (by omega)]
  have hd2:0<=d'/\d'<b.length:=by rw [e3] at hd'; subst hd'; exact ⟨Int.tmod_nonneg _ (by omega),Int.tmod_lt_of_pos _ hl0⟩
  refine .bind (.nth hd2.1 hd2.2) λx' ⟨_,hm'⟩=>?_
  have hx2:=hx x' hm'
  refine .bind (.quo (by omega)) λq hq=>?_
  have hq1:0<=q/\q<=p:=by
   have h1:0<=p.tdiv b.length:=Int.tdiv_nonneg h0 (by omega)
   have h2:p.tdiv b.length<=p:=by
    obtain ⟨k,rfl⟩:=Int.eq_ofNat_of_zero_le h0
    exact Int.ofNat_le.2 (Nat.div_le_self k b.length)
   have:q=w64 (p.tdiv b.length):=hq
   rw [aR (by omega) (by omega)] at this
   omega
  have hv:∃ m:Nat,w64 (w64 (w64 (w64 (w64 x*131)+w64 (w64 x'*1117))+w64 (p*29))+w64 (q*53))=(m:Int)/\m<1000000000000:=by
   rw [aR (i:=x) (by omega) (by omega),aR (i:=x') (by omega) (by omega),aR (i:=x*131) (by omega) (by omega),aR (i:=x'*1117) (by omega) (by omega),aR (i:=p*29) (by omega) (by omega),aR (i:=q*53) (by omega) (by omega),
    aR (i:=x*131+x'*1117) (by omega) (by omega),aR (i:=x*131+x'*1117+p*29) (by omega) (by omega),aR (i:=x*131+x'*1117+p*29+q*53) (by omega) (by omega)]
   exact ⟨(x*131+x'*1117+p*29+q*53).toNat,by omega,by omega⟩
  obtain ⟨m,hm1,hm2⟩:=hv
  rw [hm1]
  have hdiv:w64 (Int.tdiv (m:Int) 64)=((m/64:Nat):Int):=by
   rw [show Int.tdiv (m:Int) 64=((m/64:Nat):Int) from rfl]
   exact aR (by omega) (by omega)
  rw [hdiv,vU (by omega) (by omega)]
  refine .bind (.rem (by omega)) λd2 hd2=>.pure ⟨rfl,?_,?_⟩
  all_goals subst hd2
  ·exact Int.tmod_nonneg _ (by omega)
  ·exact Int.tmod_lt_of_pos _ (by omega)
theorem bN {b:List Int} {p m n:Int} (hb:By b) (h0:0<=p) (hm:p<=m) (hp:m<=1000000000) (hn:1<=n) (hn':n<=1000000):Dr (ay ⟨b,p⟩ n) (m+1) λx=>0<=x/\x<n:=
 (xS hb h0 (by omega) hn hn').mono λr h=>⟨by omega,by omega,h.2⟩
theorem Dr.bind {α β:Type} {x:Option (α×Int)} {f:α×Int->Option (β×Int)} {m m':Int} {P:α->Prop} {Q:β->Prop} (h:Dr x m P) (k:∀ a p,P a->0<=p->p<=m->Dr (f (a,p)) m' Q):Dr (x.bind f) m' Q:=
 Tot.bind h λr hr=>k r.1 r.2 hr.2.2 hr.1 hr.2.1
theorem Dr.mono {α:Type} {x:Option (α×Int)} {m m':Int} {P Q:α->Prop} (h:Dr x m P) (hm:m<=m') (k:∀ a,P a->Q a):Dr x m' Q:=Tot.mono h λr hr=>⟨hr.1,by omega,k _ hr.2.2⟩
theorem Dr.pure {α:Type} {m:Int} {Q:α->Prop} {a:α} {p:Int} (h:Q a) (h0:0<=p) (hm:p<=m):Dr (some (a,p)) m Q:=Tot.pure ⟨h0,hm,h⟩
theorem Dr.sel {α:Type} {m:Int} {c:Bool} {x y:Option (α×Int)} {Q:α->Prop} (ht:c=true->Dr x m Q) (hf:c=false->Dr y m Q):Dr (X.sel c x y) m Q:=Tot.sel ht hf
theorem Dr.both {α A B:Type} {m:Int} {s:A⊕B} {f:A->Option (α×Int)} {g:B->Option (α×Int)} {Q:α->Prop} (hl:∀ a,s=.inl a->Dr (f a) m Q) (hr:∀ a,s=.inr a->Dr (g a) m Q):Dr (X.jX s f g) m Q:=Tot.both hl hr
theorem Dr.tot {α β:Type} {m:Int} {x:Option β} {f:β->Option (α×Int)} {P:β->Prop} {Q:α->Prop} (h:Tot x P) (k:∀ r,P r->Dr (f r) m Q):Dr (x.bind f) m Q:=Tot.bind h k
theorem xT {eQ:List Int} (h:∀ x∈eQ,0<=x/\x<=255):Tot (lF eQ) λr=>By r.b/\r.p=0:=by
 unfold lF
 refine .bind (P:=λl=>l.length<=2000/\∀ x∈l,0<=x/\x<=255) (.sel (λhh=>?_) λhh=>.pure ⟨?_,h⟩) λl hl=>.pure ⟨hl,rfl⟩
 ·simp only [decide_eq_true_eq] at hh
  refine .bind (.cut (by omega)) λr hr=>.pure ?_
  subst hr
  refine ⟨by simp; omega,λx hx=>h x ?_⟩
  exact List.mem_of_mem_take (List.mem_of_mem_drop hx)
 ·simp only [decide_eq_false_iff_not] at hh; omega
def Rg (r:Int):Prop:=0<=r/\r<=11
instance (r:Int):Decidable (Rg r):=instDecidableAnd
def QOk (m:Int) (q:ab):Prop:=
 (q.Op=1/\Rg q.Dst/\q.A=0/\q.B=0/\Wd q.N)\/(q.Op=2/\Rg q.Dst/\Rg q.A/\q.B=0/\q.N=0)\/(q.Op=3/\Rg q.Dst/\Rg q.A/\Rg q.B/\1<=q.N/\q.N<=12) \/
 (q.Op=4/\q.Dst=0/\q.A=0/\q.B=0/\0<=q.N/\q.N<m)\/(q.Op=5/\q.Dst=0/\Rg q.A/\q.B=0/\0<=q.N/\q.N<m) \/
 (q.Op=6/\q.Dst=0/\Rg q.A/\q.B=0/\0<=q.N/\q.N<=2)\/(q.Op=7/\Rg q.Dst/\q.A=0/\q.B=0/\0<=q.N/\q.N<=2) \/
 (q.Op=9/\q.Dst=0/\Rg q.A/\q.B=0/\q.N=0)\/((q.Op=8\/q.Op=10)/\q.Dst=0/\q.A=0/\q.B=0/\q.N=0)
instance (m:Int) (q:ab):Decidable (QOk m q):=by unfold QOk; infer_instance
theorem zN (x:Int) (u:Bool):iG x u=some (if u then decide (Rg x) else x==0):=by
 unfold iG
 cases u
 ·rfl
 ·simp only [nH,sel,ob9,if_true]
  congr 1
  unfold Rg
  by_cases h1:0<=x <;> by_cases h2:x<=11 <;> simp [h1,h2]
theorem yP (q:ab) (u v w:Bool):bV q u v w=some ((if u then decide (Rg q.Dst) else q.Dst==0)&&((if v then decide (Rg q.A) else q.A==0)&&(if w then decide (Rg q.B) else q.B==0))):=by
 unfold bV
 simp only [zN,ob9]
 cases h1:(if u then decide (Rg q.Dst) else q.Dst==0) <;> cases h2:(if v then decide (Rg q.A) else q.A==0) <;> simp [sel]
theorem na (n:Int):dN n=some (decide (1<=n/\n<=12)):=by
 unfold dN
 rw [nH]
 simp only [ob9]
 congr 1
 by_cases h1:1<=n <;> by_cases h2:n<=12 <;> simp [h1,h2]
theorem wK (b v:Bool):sel b (some v) (some false)=some (b&&v):=by cases b <;> rfl
theorem xU (b v:Bool):sel b (some b) (some v)=some (b||v):=by cases b <;> rfl
theorem uB (q:ab) (m:Int):eG q m=some (decide (QOk m q)):=by
 refine Tot.eq ?_
 unfold eG
 simp only [yP,wJ,na,nH,ob9,wK,xU]
 have key:∀ b:Bool,(b=true↔QOk m q)->Tot (some b) (λz=>z=decide (QOk m q)):=λb h=>.pure (by
  cases b
  ·exact (decide_eq_false λhq=>by simpa using h.2 hq).symm
  ·exact (decide_eq_true (h.1 rfl)).symm)
 refine .sel (λh=>key _ ?_) λh1=>.sel (λh=>key _ ?_) λh2=>.sel (λh=>key _ ?_) λh3=>.sel (λh=>key _ ?_) λh4=>.sel (λh=>key _ ?_) λh5=>.sel (λh=>key _ ?_) λh6=>.sel (λh=>key _ ?_) λh7=>.sel (λh=>key _ ?_) λh8=>key _ ?_
 all_goals
  simp only [beq_iff_eq,beq_eq_false_iff_ne,Bool.or_eq_true,Bool.or_eq_false_iff,ne_eq] at *
  simp [QOk, *,and_assoc]
def vV (eQ:List ab):Prop:=∃ q,eQ.getLast?=some q/\(q.Op=10\/q.Op=4)
structure COk (eQ:List ab):Prop where
 one:1<=eQ.length
 max:eQ.length<=600
 q:∀ q∈eQ,QOk eQ.length q
 last:vV eQ
theorem pa (eQ:List ab) (hl:eQ.length<=4611686018427387904):Tot (aO eQ) λb=>b=true↔COk eQ:=by
 unfold aO
 simp only [nH,ob9]
 refine .sel (λh=>.pure ?_) λh=>?_
 ·simp only [Bool.not_eq_true',Bool.and_eq_false_iff,decide_eq_false_iff_not] at h
  exact ⟨λh=>by simp at h,λhc=>by have:=hc.one; have:=hc.max; omega⟩
 simp only [Bool.not_eq_false',Bool.and_eq_true,decide_eq_true_eq] at h
 refine .bind (P:=λz=>match z with | .inl b=>b=false/\¬ COk eQ | .inr _=>∀ q∈eQ,QOk eQ.length q) (.iter (λi:Int=>0<=i/\i<=eQ.length/\∀ (j:Nat) (q:ab),(j:Int)<i->eQ[j]?=some q->QOk eQ.length q) (λi=>(eQ.length-i).toNat) ⟨by omega,by omega,λj q h=>by omega⟩ λi ⟨h0,h1,h2⟩=>?_) λz hz=>?_
 ·unfold ky
  refine .sel (λh=>?_) λh=>.inr ?_
  ·simp only [decide_eq_true_eq] at h
   refine .bind (.nth h0 h) λq ⟨hq,hm⟩=>?_
   rw [uB,ob9]
   refine .sel (λhv=>.inr ⟨rfl,λhc=>?_⟩) λhv=>.inl ?_
   ·simp only [Bool.not_eq_true',decide_eq_false_iff_not] at hv
    exact hv (hc.q q hm)
   ·simp only [Bool.not_eq_false',decide_eq_true_eq] at hv
    rw [ao h0 (by omega)]
    refine ⟨⟨by omega,by omega,λj q' hj hq'=>?_⟩,by omega⟩
    by_cases e:(j:Int)=i
    ·have:j=i.toNat:=by omega
     subst this
     rw [hq] at hq'
     injection hq' with hq'
     exact hq'▸hv
    ·exact h2 j q' (by omega) hq'
  ·simp only [decide_eq_false_iff_not] at h
   intro q hq
   obtain ⟨j,hj,rfl⟩:=List.getElem_of_mem hq
   exact h2 j _ (by omega) (List.getElem?_eq_getElem hj)
 ·refine .both (λb e=>?_) λ_ e=>?_
  ·subst e
   exact .pure ⟨λh=>by rw [hz.1] at h; simp at h,λh=>absurd h hz.2⟩
  ·subst e
   have hq:∀ q∈eQ,QOk eQ.length q:=hz
   rw [aR (by omega) (by omega)]
   refine .bind (.nth (by omega) (by omega)) λx ⟨hx,_⟩=>?_
   have hgl:eQ.getLast?=some x:=by rw [List.getLast?_eq_getElem?]; rw [<-hx]; congr 1; omega
   have hlast:vV eQ↔(x.Op=10\/x.Op=4):=⟨λ⟨y,h1,h2⟩=>by rw [hgl] at h1; injection h1 with h1; exact h1▸h2,λh=>⟨x,hgl,h⟩⟩
   refine .bind (P:=λb=>b=true↔(x.Op=10\/x.Op=4)) (.sel (λh=>.pure ?_) λh=>.bind (.nth (by omega) (by omega)) λy ⟨hy,_⟩=>.pure ?_) λb hb=>.pure ⟨λh=>⟨by omega,by omega,hq,hlast.2 (hb.1 h)⟩,λhc=>hb.2 (hlast.1 hc.last)⟩
   ·simp only [beq_iff_eq] at h; simp [h]
   ·rw [hx] at hy
    injection hy with hy
    subst hy
    simp only [beq_eq_false_iff_ne,ne_eq] at h
    simp [h]
theorem aN {eQ:List ab} (h:COk eQ):aO eQ=some true:=by
 obtain ⟨b,e,hb⟩:=pa eQ (by have:=h.max; omega)
 rw [e,hb.2 h]
theorem rX {eQ:List ab} (hl:eQ.length<=4611686018427387904) (h:¬ COk eQ):aO eQ=some false:=by
 obtain ⟨b,e,hb⟩:=pa eQ hl
 cases b
 ·exact e
 ·exact absurd (hb.1 rfl) h
theorem COk.nxt {eQ:List ab} (h:COk eQ) {i:Nat} {q:ab} (hi:eQ[i]?=some q) (h1:q.Op≠10) (h2:q.Op≠4):i+1<eQ.length:=by
 obtain ⟨x,hx,hx'⟩:=h.last
 have hlt:i<eQ.length:=by
  rcases Nat.lt_or_ge i eQ.length with h | h
  ·exact h
  ·rw [List.getElem?_eq_none h] at hi; cases hi
 rcases Nat.lt_or_ge (i+1) eQ.length with h3 | h3
 ·exact h3
 ·rw [List.getLast?_eq_getElem?,show eQ.length-1=i by omega,hi] at hx
  injection hx with hx
  subst hx
  rcases hx' with h | h
  ·exact absurd h h1
  ·exact absurd h h2
theorem sZ {eQ:List ab} (h:COk eQ) {i:Int} (h0:0<=i) (h1:i<eQ.length):Tot (dh eQ i) λl=>l.length<=2/\∀ x∈l,0<=x/\x<eQ.length:=by
 unfold dh
 refine .bind (.nth h0 h1) λq ⟨hq,hm⟩=>?_
 have hv:=h.q q hm
 have hlen:=h.max
 have h2:q.Op≠10->q.Op≠4->i+1<eQ.length:=λha hb=>by have:=h.nxt hq ha hb; omega
 rw [ao h0 (by omega)]
 refine .sel (λh=>.pure (by simp)) λe1=>.sel (λh=>.pure ?_) λe2=>?_
 ·simp only [beq_iff_eq] at h
  simp only [List.length_singleton,List.mem_singleton,forall_eq]
  unfold QOk at hv
  omega
 simp only [beq_eq_false_iff_ne,ne_eq] at e1 e2
 have h3:=h2 e1 e2
 refine .sel (λh=>.pure ?_) λ_=>.sel (λh=>.pure ?_) λ_=>.pure (by simp; omega)
 all_goals
  simp only [Bool.and_eq_true,beq_iff_eq,decide_eq_true_eq] at h
  simp only [List.length_cons,List.length_nil,List.mem_cons,List.not_mem_nil,or_false,forall_eq_or_imp,forall_eq]
  unfold QOk at hv
  omega
end
noncomputable section
theorem px (v:BitVec 64):IntKind.wrap .i64 (v.toNat:Int)=v.toInt:=by
 have h1:IntKind.wrap .i64 (v.toNat:Int)=w64 (v.toNat:Int):=rfl
 rw [h1,xP,BitVec.toInt_eq_toNat_cond]
 have:=v.isLt
 split <;> split <;> omega
theorem oq {n:Int} (h:Wd n):BitVec.ofInt 64 n=(BitVec.ofInt 32 n).signExtend 64:=by
 apply BitVec.eq_of_toInt_eq
 rw [BitVec.toInt_signExtend_of_le (by omega),BitVec.toInt_ofInt,BitVec.toInt_ofInt]
 unfold Wd at h
 rw [Int.bmod_def,Int.bmod_def]
 omega
theorem s5 (v:BitVec 32):Wd (v.signExtend 64).toInt:=by
 rw [BitVec.toInt_signExtend_of_le (by omega)]
 have h1:=BitVec.toInt_lt (x:=v)
 have h2:=BitVec.le_toInt (x:=v)
 unfold Wd
 omega
theorem yQ {a b:Int} (ha:Wd a) (hb:Wd b):Wd (bq .or .i64 a b):=by
 show Wd (IntKind.wrap .i64 ((BitVec.ofInt 64 a ||| BitVec.ofInt 64 b).toNat:Int))
 rw [px,oq ha,oq hb,<-BitVec.signExtend_or]
 exact s5 _
theorem xV {a b:Int} (ha:Wd a) (hb:Wd b):Wd (bq .and .i64 a b):=by
 show Wd (IntKind.wrap .i64 ((BitVec.ofInt 64 a &&& BitVec.ofInt 64 b).toNat:Int))
 rw [px,oq ha,oq hb,<-BitVec.signExtend_and]
 exact s5 _
theorem xW {a b:Int} (ha:Wd a) (hb:Wd b):Wd (bq .xor .i64 a b):=by
 show Wd (IntKind.wrap .i64 ((BitVec.ofInt 64 a ^^^ BitVec.ofInt 64 b).toNat:Int))
 rw [px,oq ha,oq hb,<-BitVec.signExtend_xor]
 exact s5 _
theorem zr (b:Int):0<=bq .and .i64 b 31/\bq .and .i64 b 31<=31:=by
 have e:bq .and .i64 b 31=IntKind.wrap .i64 ((BitVec.ofInt 64 b &&& BitVec.ofInt 64 31).toNat:Int):=rfl
 have h1:(BitVec.ofInt 64 b &&& BitVec.ofInt 64 31).toNat<=31:=by
  rw [BitVec.toNat_and]
  exact Nat.le_trans Nat.and_le_right (by decide)
 have h2:IntKind.wrap .i64 ((BitVec.ofInt 64 b &&& BitVec.ofInt 64 31).toNat:Int)=w64 ((BitVec.ofInt 64 b &&& BitVec.ofInt 64 31).toNat:Int):=rfl
 rw [e,h2,aR (by omega) (by omega)]
 omega
theorem qF {op a b:Int} (hop:1<=op/\op<=12) (ha:Wd a) (hb:Wd b):Tot (iH op a b) λr=>Wd r.1:=by
 unfold iH
 rw [na,decide_eq_true hop]
 simp only [ob9,wJ,decide_eq_true ha,decide_eq_true hb,Bool.not_true]
 simp only [sel,ob9]
 have w0:Wd 0:=by unfold Wd; omega
 have w1:Wd 1:=by unfold Wd; omega
 refine .sel (λ_=>.pure (yQ ha hb)) λ_=>.sel (λ_=>.pure (xW ha hb)) λ_=>.sel (λ_=>.pure (xV ha hb)) λ_=>.sel (λ_=>.bind (P:=Wd) ?_ λr h=>.pure h) λ_=>.sel (λ_=>.bind (P:=Wd) ?_ λr h=>.pure h) λ_ =>
  .sel (λ_=>.bind (P:=Wd) ?_ λr h=>.pure h) λ_=>.sel (λ_=>.bind (P:=Wd) ?_ λr h=>.pure h) λ_=>.sel (λ_=>.bind (nI _) λr h=>.pure h) λ_=>.sel (λ_=>.bind (nI _) λr h=>.pure h) λ_=>.sel (λ_=>.bind (nI _) λr h=>.pure h) λ_ =>
  .sel (λ_=>.bind (P:=Wd) ?_ λr h=>.pure h) λ_=>.bind (P:=Wd) ?_ λr h=>.pure h
 ·exact .sel (λ_=>.pure w1) λ_=>.pure w0
 ·exact .sel (λ_=>.pure w1) λ_=>.pure w0
 ·unfold gB
  refine .sf rfl (.bind (P:=λ_=>True) ?_ λd _=>.bind (nI _) λr h=>.pure h)
  unfold shO
  rw [if_neg (by have:=zr b; omega)]
  exact .pure trivial
 ·unfold gB
  refine .st rfl (.bind (P:=Wd) ?_ λd h=>.pure h)
  have h31:=zr b
  unfold shO
  rw [if_neg (by omega)]
  refine .pure ?_
  have hp:0<(2:Int)^(min (bq .and .i64 b 31).toNat (IntKind.bits .i64)):=Int.pow_pos (by omega)
  generalize (2:Int)^(min (bq .and .i64 b 31).toNat (IntKind.bits .i64))=c at hp
  rw [Int.fdiv_eq_ediv_of_nonneg _ (by omega)]
  unfold Wd at *
  constructor
  ·rw [Int.le_ediv_iff_mul_le hp]
   have : -2147483648*c <= -2147483648*1:=Int.mul_le_mul_of_nonpos_left (by omega) (by omega)
   omega
  ·have:a/c<=2147483647:=by
    rw [<-Int.lt_add_one_iff,Int.ediv_lt_iff_lt_mul hp]
    have:(2147483647+1)*1<=(2147483647+1)*c:=Int.mul_le_mul_of_nonneg_left (by omega) (by omega)
    omega
   exact this
 ·unfold jD
  refine .sel (λ_=>.pure (by unfold Wd; omega)) λh=>?_
  simp only [beq_eq_false_iff_ne,ne_eq] at h
  exact .bind (.quo h) λd _=>.bind (nI _) λr h=>.pure h
 ·unfold jE
  refine .sel (λ_=>.pure ha) λh=>?_
  simp only [beq_eq_false_iff_ne,ne_eq] at h
  refine .bind (.rem h) λd hd=>.pure ?_
  subst hd
  have h1:(a.tmod b).natAbs<=a.natAbs:=by rw [Int.natAbs_tmod]; exact Nat.mod_le _ _
  unfold Wd at *
  rcases Int.le_total 0 a with h2 | h2
  ·have:=Int.tmod_nonneg b h2; omega
  ·have:a.tmod b<=0:=by have:=Int.tmod_nonneg b (show 0 <= -a by omega); rw [Int.neg_tmod] at this; omega
   omega
theorem nc {α:Type} (g:α->Nat):∀ {l:List α} {i:Nat} {a:α} (x:α),l[i]?=some a->((l.set i x).map g).sum+g a=(l.map g).sum+g x
 | [],_,_,_,h=>by simp at h
 | y::r,0,a,x,h=>by
  have:y=a:=by simpa using h
  subst this
  simp only [List.set_cons_zero,List.map_cons,List.sum_cons]
  omega
 | y::r,i+1,a,x,h=>by
  have:=nc g x (show r[i]?=some a by simpa using h)
  simp only [List.set_cons_succ,List.map_cons,List.sum_cons]
  omega
def FOk (f:ai):Prop:=(f.Kind=0/\f.N=0)\/(f.Kind=1/\Wd f.N)\/(f.Kind=2/\f.N=0)
def s6 (l:List ai):Prop:=l.length=12/\∀ f∈l,FOk f
def AOk (n:Nat) (all:List (List ai)):Prop:=all.length=n/\∀ l∈all,s6 l
def fm (f:ai):Nat:=(2-f.Kind).toNat
def fsm (l:List ai):Nat:=(l.map fm).sum
def am (all:List (List ai)):Nat:=(all.map fsm).sum
theorem s6.set {l:List ai} {i:Nat} {f:ai} (h:s6 l) (hf:FOk f):s6 (l.set i f):=⟨by rw [List.length_set]; exact h.1,λg hg=>(mA hg).elim (h.2 g) λe=>e▸hf⟩
theorem AOk.set {n:Nat} {all:List (List ai)} {i:Nat} {l:List ai} (h:AOk n all) (hl:s6 l):AOk n (all.set i l):=⟨by rw [List.length_set]; exact h.1,λg hg=>(mA hg).elim (h.2 g) λe=>e▸hl⟩
theorem xX {a b:ai} (ha:FOk a) (hb:FOk b):Tot (gC a b) λf=>FOk f/\fm f<=fm a/\(f.Kind≠a.Kind\/f.N≠a.N->fm f<fm a):=by
 unfold gC
 refine .sel (λh=>.pure ⟨hb,?_⟩) λh=>.sel (λh'=>.pure ⟨ha,by omega,λh=>by omega⟩) λh'=>.pure ⟨.inr (.inr ⟨rfl,rfl⟩),?_⟩
 ·simp only [beq_iff_eq] at h
  unfold fm; unfold FOk at ha hb
  constructor
  ·omega
  ·intro _; omega
 ·simp only [beq_eq_false_iff_ne,ne_eq,Bool.or_eq_false_iff,Bool.and_eq_false_iff,Bool.and_true] at h h'
  unfold fm; unfold FOk at ha hb
  simp only
  constructor
  ·omega
  ·intro _; omega
theorem xc {n:Nat} {all:List (List ai)} {i:Int} {fs:List ai} (h:AOk n all) (h0:0<=i) (h1:i<n) (hf:s6 fs):Tot (fG all i fs) λr=>AOk n r.2/\am r.2<=am all/\(r.1=true->am r.2<am all):=by
 unfold fG
 refine .bind (.iter (λs=>0<=s.2.1/\s.2.1<=12/\AOk n s.2.2/\am s.2.2<=am all/\(s.1=true->am s.2.2<am all)) (λs=>(12-s.2.1).toNat) ⟨by simp,by simp,h,by simp,by simp⟩ λs hs=>?_) λr (hr:AOk n r.2/\am r.2<=am all/\(r.1=true->am r.2<am all))=>.pure hr
 obtain ⟨gZ,r,a⟩:=s
 obtain ⟨g0,g1,g2,g3,g4⟩:=hs
 simp only at g0 g1 g2 g3 g4
 unfold i3
 refine .sel (λhlt=>?_) λhlt=>.inr ⟨g2,g3,g4⟩
 simp only [decide_eq_true_eq] at hlt
 refine .bind (P:=λz=>AOk n z.2/\am z.2<=am all/\(z.1=true->am z.2<am all)) ?_ λz hz=>.inl ⟨⟨?_,?_,hz⟩,?_⟩
 ·refine .bind (.nth h0 (by rw [g2.1]; exact h1)) λl ⟨hl,hm⟩=>?_
  have hlo:=g2.2 l hm
  refine .bind (.nth g0 (by rw [hlo.1]; omega)) λx ⟨hx,hxm⟩=>.bind (.nth g0 (by rw [hf.1]; omega)) λy ⟨hy,hym⟩=>?_
  refine .bind (xX (hlo.2 x hxm) (hf.2 y hym)) λf hfj=>.bind (.nth h0 (by rw [g2.1]; exact h1)) λl' ⟨hl',_⟩=>?_
  obtain rfl:l=l':=o9 (hl.symm.trans hl')
  refine .bind (.nth g0 (by rw [hlo.1]; omega)) λx' ⟨hx',_⟩=>?_
  obtain rfl:x=x':=o9 (hx.symm.trans hx')
  refine .sel (λhne=>?_) λ_=>.pure ⟨g2,g3,g4⟩
  refine .bind (.nth g0 (by rw [hlo.1]; omega)) λ_ _=>.bind (.upd g0 (by rw [hlo.1]; omega)) λl2 hl2=>.pure ?_
  subst hl2
  have hlt2:fm f<fm x:=by
   refine hfj.2.2 ?_
   by_cases e1:f.Kind=x.Kind
   ·right; intro e2; simp [e1,e2] at hne
   ·exact .inl e1
  have e1:fsm (l.set r.toNat f)+fm x=fsm l+fm f:=nc fm f hx
  have e2:am (a.set i.toNat (l.set r.toNat f))+fsm l=am a+fsm (l.set r.toNat f):=nc fsm _ hl
  exact ⟨g2.set (hlo.set hfj.1),by simp only; omega,λ_=>by simp only; omega⟩
 ·rw [ao g0 (by omega)]; simp only; omega
 ·rw [ao g0 (by omega)]; simp only; omega
 ·rw [ao g0 (by omega)]; simp only; omega
theorem xd {eQ:List ab} {q:ab} {m:Int} {fs:List ai} (hq:QOk m q) (hf:s6 fs):Tot (fF q fs) s6:=by
 unfold fF
 refine .bind (.app (by simp [hf.1])) λl hl=>?_
 rw [List.nil_append] at hl
 subst hl
 have h12:=hf.1
 have rg:∀ {x:Int},Rg x->0<=x/\x<l.length:=λh=>by unfold Rg at h; omega
 refine .sel (λh=>?_) λ_=>.sel (λh=>?_) λ_=>.sel (λh=>?_) λ_=>.sel (λh=>?_) λ_=>.pure hf
 all_goals (simp only [beq_iff_eq] at h; unfold QOk at hq; simp [h] at hq)
 ·exact .bind (.nth (rg hq.1).1 (rg hq.1).2) λ_ _=>.bind (.upd (rg hq.1).1 (rg hq.1).2) λr hr=>.pure (hr▸hf.set (.inr (.inl ⟨rfl,hq.2.2.2⟩)))
 ·exact .bind (.nth (rg hq.2.1).1 (rg hq.2.1).2) λx hx=>.bind (.nth (rg hq.1).1 (rg hq.1).2) λ_ _=>.bind (.upd (rg hq.1).1 (rg hq.1).2) λr hr=>.pure (hr▸hf.set (hf.2 x hx.2))
 ·exact .bind (.nth (rg hq.1).1 (rg hq.1).2) λ_ _=>.bind (.upd (rg hq.1).1 (rg hq.1).2) λr hr=>.pure (hr▸hf.set (.inr (.inr ⟨rfl,rfl⟩)))
 ·refine .bind (.nth (rg hq.2.1).1 (rg hq.2.1).2) λx hx=>.bind (.nth (rg hq.2.2.1).1 (rg hq.2.2.1).2) λy hy=>.bind (P:=FOk) ?_ λf hf'=>.bind (.nth (rg hq.1).1 (rg hq.1).2) λ_ _=>.bind (.upd (rg hq.1).1 (rg hq.1).2) λr hr=>.pure (hr▸hf.set hf')
  have hx':=hf.2 x hx.2
  have hy':=hf.2 y hy.2
  unfold cd
  refine .sel (λ_=>.pure (.inr (.inr ⟨rfl,rfl⟩))) λhk=>?_
  simp only [Bool.or_eq_false_iff,bne_eq_false_iff_eq] at hk
  have hxw:Wd x.N:=by rcases hx' with h | h | h <;> first | exact h.2 | omega
  have hyw:Wd y.N:=by rcases hy' with h | h | h <;> first | exact h.2 | omega
  exact .bind (qF hq.2.2.2 hxw hyw) λr hr=>.pure (.inr (.inl ⟨rfl,hr⟩))
theorem xe {eQ:List ab} {fs:List ai} {i:Int} (hc:COk eQ) (hf:s6 fs) (h0:0<=i) (h1:i<eQ.length):Tot (fE eQ fs i) λl=>l.length<=2/\∀ x∈l,0<=x/\x<eQ.length:=by
 unfold fE
 refine .bind (.nth h0 h1) λq ⟨hq,hm⟩=>?_
 have hv:=hc.q q hm
 have hl:=hc.max
 have h12:=hf.1
 refine .bind (P:=λb=>b=false->q.Op=5) (.sel (λh=>.pure (by simp)) λh=>?_) λb hb=>.sel (λ_=>.bind (sZ hc h0 h1) λr hr=>.pure hr) λhbf=>?_
 ·simp only [bne_eq_false_iff_eq] at h
  refine .bind (.nth (l:=fs) ?_ ?_) λx _=>.pure λ_=>h
  all_goals (unfold QOk at hv; simp [h] at hv; unfold Rg at hv; omega)
 ·have h5:=hb hbf
  have hn:=hc.nxt hq (by omega) (by omega)
  unfold QOk at hv
  simp [h5] at hv
  refine .bind (.nth (l:=fs) (by unfold Rg at hv; omega) (by unfold Rg at hv; omega)) λx _=>.sel (λ_=>.pure (by simp; omega)) λ_=>.pure ?_
  rw [ao h0 (by omega)]
  simp
  omega
theorem ui {eQ:List ab} {all:List (List ai)} (hc:COk eQ) (h:AOk eQ.length all):Tot (fH eQ all) λr=>AOk eQ.length r.2/\am r.2<=am all/\(r.1=true->am r.2<am all):=by
 unfold fH
 have hl:=hc.max
 refine .bind (.iter (λs=>0<=s.2.1/\s.2.1<=(eQ.length:Int)/\AOk eQ.length s.2.2/\am s.2.2<=am all/\(s.1=true->am s.2.2<am all)) (λs=>((eQ.length:Int)-s.2.1).toNat) ⟨by simp,by simp,h,by simp,by simp⟩ λs hs=>?_) λr (hr:AOk eQ.length r.2/\am r.2<=am all/\(r.1=true->am r.2<am all))=>.pure hr
 obtain ⟨gZ,i,a⟩:=s
 obtain ⟨g0,g1,g2,g3,g4⟩:=hs
 simp only at g0 g1 g2 g3 g4
 unfold i5
 refine .sel (λhlt=>?_) λhlt=>.inr ⟨g2,g3,g4⟩
 simp only [decide_eq_true_eq] at hlt
 refine .bind (P:=λz=>AOk eQ.length z.2/\am z.2<=am all/\(z.1=true->am z.2<am all)) ?_ λz hz=>.inl ⟨⟨?_,?_,hz⟩,?_⟩
 ·refine .bind (.nth g0 (by rw [g2.1]; exact hlt)) λl ⟨hl',hm⟩=>?_
  have hlo:=g2.2 l hm
  refine .bind (.nth (by omega) (by rw [hlo.1]; omega)) λx _=>.sel (λ_=>.pure ⟨g2,g3,g4⟩) λ_=>?_
  refine .bind (xe hc hlo g0 hlt) λes he=>.bind (.nth g0 hlt) λq ⟨hq,hqm⟩=>.bind (xd (eQ:=eQ) (hc.q q hqm) hlo) λaf haf=>?_
  refine .bind (.iter (λs=>0<=s.2.1/\s.2.1<=(es.length:Int)/\AOk eQ.length s.2.2/\am s.2.2<=am all/\(s.1=true->am s.2.2<am all)) (λs=>((es.length:Int)-s.2.1).toNat) ⟨by simp,by simp,g2,g3,g4⟩ λs hs=>?_) λr (hr:AOk eQ.length r.2/\am r.2<=am all/\(r.1=true->am r.2<am all))=>.pure hr
  obtain ⟨fresh',j,a'⟩:=s
  obtain ⟨k0,k1,k2,k3,k4⟩:=hs
  simp only at k0 k1 k2 k3 k4
  unfold i4
  refine .sel (λhlt'=>?_) λ_=>.inr ⟨k2,k3,k4⟩
  simp only [decide_eq_true_eq] at hlt'
  refine .bind (P:=λz=>AOk eQ.length z.2/\am z.2<=am all/\(z.1=true->am z.2<am all)) ?_ λz hz=>.inl ⟨⟨?_,?_,hz⟩,?_⟩
  ·refine .bind (.nth k0 hlt') λe ⟨_,hem⟩=>.bind (xc (all:=a') k2 (he.2 e hem).1 (he.2 e hem).2 haf) λr hr=>.sel (λhr1=>.pure ⟨hr.1,by simp only; omega,λ_=>by have:=hr.2.2 hr1; simp only; omega⟩) λ_=>.pure ⟨hr.1,by simp only; omega,λh=>by have:=k4 h; simp only; omega⟩
  all_goals (rw [ao k0 (by omega)]; simp only; omega)
 all_goals (rw [ao g0 (by omega)]; simp only; omega)
theorem xf {eQ:List ab} (hc:COk eQ):Tot (fr eQ) (AOk eQ.length):=by
 unfold fr
 rw [aN hc,ob9]
 have hl:=hc.max
 have h1:=hc.one
 refine .sf rfl ?_
 refine .bind (P:=AOk eQ.length) (.iter (λs=>0<=s.2/\s.2<=(eQ.length:Int)/\AOk s.2.toNat s.1) (λs=>((eQ.length:Int)-s.2).toNat) ⟨by simp,by simp,by simp [AOk]⟩ λs hs=>?_) λa0 ha0=>.bind (P:=AOk eQ.length) (.iter (λs=>0<=s.1/\s.1<=12/\AOk eQ.length s.2) (λs=>(12-s.1).toNat) ⟨by simp,by simp,ha0⟩ λs hs=>?_) λa1 ha1 =>
  .bind (P:=AOk eQ.length) (.iter (λs=>AOk eQ.length s) am ha1 λs hs=>?_) λr hr=>.pure hr
 ·obtain ⟨a,i⟩:=s
  obtain ⟨g0,g1,g2⟩:=hs
  simp only at g0 g1 g2
  unfold jM
  refine .sel (λhlt=>?_) λhlt=>.inr ?_
  ·simp only [decide_eq_true_eq] at hlt
   refine .bind (.mk (by omega) (by omega)) λl hl'=>.bind (.app (by simp [g2.1]; omega)) λr hr=>.inl ?_
   subst hr hl'
   rw [ao g0 (by omega)]
   refine ⟨⟨by simp only; omega,by simp only; omega,by simp [g2.1]; omega,λl hl'=>?_⟩,by simp only; omega⟩
   simp only [List.mem_append,List.mem_singleton] at hl'
   rcases hl' with h | rfl
   ·exact g2.2 l h
   ·exact ⟨by simp,λf hf=>by rw [(List.mem_replicate.1 hf).2]; exact .inl ⟨rfl,rfl⟩⟩
  ·simp only [decide_eq_false_iff_not] at hlt
   rw [show i.toNat=eQ.length by omega] at g2
   exact g2
 ·obtain ⟨r,a⟩:=s
  obtain ⟨g0,g1,g2⟩:=hs
  simp only at g0 g1 g2
  unfold jN
  refine .sel (λhlt=>?_) λhlt=>.inr g2
  simp only [decide_eq_true_eq] at hlt
  refine .bind (.nth (by omega) (by rw [g2.1]; omega)) λl ⟨_,hm⟩=>?_
  have hlo:=g2.2 l hm
  refine .bind (.nth g0 (by rw [hlo.1]; omega)) λ_ _=>.bind (.upd g0 (by rw [hlo.1]; omega)) λl' hl'=>.inl ?_
  subst hl'
  rw [ao g0 (by omega)]
  exact ⟨⟨by simp only; omega,by simp only; omega,g2.set (hlo.set (.inr (.inl ⟨rfl,by unfold Wd; simp⟩)))⟩,by simp only; omega⟩
 ·unfold jO
  exact .bind (ui hc hs) λr hr=>.sel (λh=>.inl ⟨hr.1,hr.2.2 h⟩) λ_=>.inr hr.1
end
noncomputable section
theorem kE {f:List ab×Int->Option ((List ab×Int)⊕List ab)} {n:Nat} (P:Nat->ab->Prop) (hn:n<=600)
  (h:∀ (i:Int) (out:List ab),0<=i->i<n->out.length=i.toNat->Tot (f (out,i)) λz=>∃ q',z=.inl (out++[q'],i+1)/\P i.toNat q')
  (he:∀ out,f (out,(n:Int))=some (.inr out)):Tot (aI f ([],0)) λout=>out.length=n/\∀ i q',out[i]?=some q'->P i q':=by
 refine .iter (λs=>0<=s.2/\s.2<=(n:Int)/\s.1.length=s.2.toNat/\∀ i q',s.1[i]?=some q'->P i q') (λs=>((n:Int)-s.2).toNat) ⟨by simp,by simp,by simp,by simp⟩ λs hs=>?_
 obtain ⟨out,i⟩:=s
 obtain ⟨h0,h1,h2,h3⟩:=hs
 simp only at h0 h1 h2 h3
 by_cases hlt:i<n
 ·refine (h i out h0 hlt h2).mono λz hz=>?_
  obtain ⟨q',rfl,hp⟩:=hz
  refine ⟨⟨by simp only; omega,by simp only; omega,by simp [h2]; omega,λj q hj=>?_⟩,by simp only; omega⟩
  simp only at hj
  rcases Nat.lt_or_ge j out.length with hj' | hj'
  ·rw [List.getElem?_append_left hj'] at hj; exact h3 j q hj
  ·rw [List.getElem?_append_right hj'] at hj
   have:j=i.toNat:=by
    rcases Nat.eq_zero_or_pos (j-out.length) with h | h
    ·omega
    ·rw [List.getElem?_eq_none (by simp; omega)] at hj; cases hj
   subst this
   rw [h2,Nat.sub_self] at hj
   simp only [List.getElem?_cons_zero,Option.some.injEq] at hj
   exact hj▸hp
 ·have:i=n:=by omega
  subst this
  rw [he]
  exact .pure ⟨by omega,h3⟩
def Aj (eQ out:List ab):Prop:=out.length=eQ.length/\∀ (i:Nat) (q':ab),out[i]?=some q'->∃ q:ab,eQ[i]?=some q/\QOk eQ.length q'/\(q.Op=10\/q.Op=4->q'.Op=10\/q'.Op=4)
theorem COk.alike {eQ out:List ab} (hc:COk eQ) (h:Aj eQ out):COk out:=by
 obtain ⟨h1,h2⟩:=h
 refine ⟨by rw [h1]; exact hc.one,by rw [h1]; exact hc.max,λq hq=>?_,?_⟩
 ·obtain ⟨j,hj,rfl⟩:=List.getElem_of_mem hq
  obtain ⟨_,_,h3,_⟩:=h2 j _ (List.getElem?_eq_getElem hj)
  rw [h1]; exact h3
 ·obtain ⟨x,hx,hx'⟩:=hc.last
  have hlt:eQ.length-1<out.length:=by have:=hc.one; omega
  obtain ⟨q,hq,_,h4⟩:=h2 (eQ.length-1) _ (List.getElem?_eq_getElem hlt)
  rw [List.getLast?_eq_getElem?] at hx
  rw [hx] at hq
  injection hq with hq
  subst hq
  exact ⟨_,by rw [List.getLast?_eq_getElem?,h1]; exact List.getElem?_eq_getElem hlt,h4 hx'⟩
theorem Rg.lt {x:Int} (h:Rg x) {α:Type} {l:List α} (hl:l.length=12):0<=x/\x<l.length:=by unfold Rg at h; omega
theorem yR (l:List Int) (n:Int) (hl:l.length<=1000):Tot (lI l n) λb=>b=l.contains n:=by
 unfold lI
 refine .bind (P:=λz=>match z with | .inl b=>b=true/\n∈l | .inr _=>n∉l) (.iter (λi:Int=>0<=i/\i<=l.length/\∀ (j:Nat) (x:Int),(j:Int)<i->l[j]?=some x->x≠n) (λi=>(l.length-i).toNat) ⟨by omega,by omega,λj q h=>by omega⟩ λi ⟨h0,h1,h2⟩=>?_) λz hz=>?_
 ·unfold mm
  refine .sel (λh=>?_) λh=>.inr ?_
  ·simp only [decide_eq_true_eq] at h
   refine .bind (.nth h0 h) λx ⟨hx,hm⟩=>.sel (λhe=>.inr ?_) λhe=>.inl ?_
   ·simp only [beq_iff_eq] at he; subst he; exact ⟨rfl,hm⟩
   ·simp only [beq_eq_false_iff_ne,ne_eq] at he
    rw [ao h0 (by omega)]
    refine ⟨⟨by omega,by omega,λj y hj hy=>?_⟩,by omega⟩
    by_cases e:(j:Int)=i
    ·obtain rfl:j=i.toNat:=by omega
     rw [hx] at hy; injection hy with hy; exact hy▸he
    ·exact h2 j y (by omega) hy
  ·simp only [decide_eq_false_iff_not] at h
   intro hm
   obtain ⟨j,hj,rfl⟩:=List.getElem_of_mem hm
   exact h2 j _ (by omega) (List.getElem?_eq_getElem hj) rfl
 ·refine .both (λb e=>?_) λ_ e=>?_
  ·subst e; exact .pure (by rw [hz.1]; simpa using hz.2)
  ·subst e; exact .pure (by simpa using (show n∉l from hz))
theorem wL (f:ai) (n:Int):fI f n=some (f.Kind==1&&f.N==n):=rfl
theorem wM (n:Int) (l:List Int) (hl:l.length<=1000):Tot (ft n l) λb=>b=l.contains n:=.bind (yR l n hl) λb hb=>.pure hb
theorem yS {q:ab} {m:Int} {x y:ai} (hq:QOk m q) (h3:q.Op=3) (hx:FOk x) (hy:FOk y):Tot (iI q x y) (QOk m):=by
 have hv:=hq
 unfold QOk at hv
 simp [h3] at hv
 obtain ⟨hd,ha,hb,hn⟩:=hv
 have cp:∀ r,Rg r->QOk m (ab.mk 2 q.Dst r 0 0):=λr hr=>.inr (.inl ⟨rfl,hd,hr,rfl,rfl⟩)
 have ct:∀ r,Wd r->QOk m (ab.mk 1 q.Dst 0 0 r):=λr hr=>.inl ⟨rfl,hd,rfl,rfl,hr⟩
 have an:∀ (c:Bool) (l:List Int),l.length<=1000->Tot ((sel c ((ft q.N l).bind λy3=>some y3) (some false):Option Bool)) λ_=>True:=λc l hl=>.sel (λ_=>.bind (wM _ _ hl) λ_ _=>.pure trivial) λ_=>.pure trivial
 unfold iI
 simp only [wL,ob9]
 refine .bind (P:=λf=>f.Kind=1->Wd f.N) ?_ λf hf=>.sel (λh=>.pure (ct _ (hf (by simpa using h)))) λ_=>.bind (an _ _ (by simp)) λ_ _=>.sel (λ_=>.pure (cp _ ha)) λ_=>.bind (an _ _ (by simp)) λ_ _=>.sel (λ_=>.pure (cp _ ha)) λ_=>.bind (an _ _ (by simp)) λ_ _=>.sel (λ_=>.pure (cp _ hb)) λ_ =>
  .sel (λ_=>.pure (cp _ hb)) λ_=>.bind (P:=λ_=>True) (.sel (λ_=>.pure trivial) λ_=>.pure trivial) λ_ _=>.bind (an _ _ (by simp)) λ_ _=>.sel (λ_=>.pure (ct _ (by unfold Wd; omega))) λ_=>.pure hq
 unfold cd
 refine .sel (λ_=>.pure (by simp)) λhk=>?_
 simp only [Bool.or_eq_false_iff,bne_eq_false_iff_eq] at hk
 unfold FOk at hx hy
 have hxw:Wd x.N:=by rcases hx with h | h | h <;> first | exact h.2 | omega
 have hyw:Wd y.N:=by rcases hy with h | h | h <;> first | exact h.2 | omega
 exact .bind (qF hn hxw hyw) λr hr=>.pure λ_=>hr
theorem s7 {eQ:List ab} (hc:COk eQ) {q:ab} {i:Int} (h0:0<=i) (hi:eQ[i.toNat]?=some q) {fs:List ai} (hf:s6 fs):Tot (dQ q fs i) λq'=>QOk eQ.length q'/\(q.Op=10\/q.Op=4->q'.Op=10\/q'.Op=4):=by
 have hv:=hc.q q (List.mem_of_getElem? hi)
 have hl:=hc.max
 have wd:∀ {f:ai},FOk f->f.Kind=1->Wd f.N:=λ{f} hx hk=>by unfold FOk at hx; rcases hx with h | h | h <;> first | exact h.2 | omega
 unfold dQ
 refine .bind (.nth (by omega) (by rw [hf.1]; omega)) λ_ _=>.sel (λ_=>.pure ⟨hv,id⟩) λ_=>.sel (λh=>?_) λ_=>.sel (λh=>?_) λ_=>.sel (λh=>?_) λ_=>.pure ⟨hv,id⟩
 all_goals (simp only [beq_iff_eq] at h; have hw:=hv; unfold QOk at hw; simp [h] at hw)
 ·refine .bind (.nth (hw.2.1.lt hf.1).1 (hw.2.1.lt hf.1).2) λx ⟨hx,hm⟩=>.sel (λhk=>?_) λ_=>.pure ⟨hv,id⟩
  simp only [beq_iff_eq] at hk
  refine .bind (.nth (hw.2.1.lt hf.1).1 (hw.2.1.lt hf.1).2) λy ⟨hy,_⟩=>?_
  obtain rfl:x=y:=o9 (hx.symm.trans hy)
  exact .pure ⟨.inl ⟨rfl,hw.1,rfl,rfl,wd (hf.2 x hm) hk⟩,λh'=>by omega⟩
 ·refine .bind (.nth (hw.2.1.lt hf.1).1 (hw.2.1.lt hf.1).2) λx ⟨_,hx⟩=>.bind (.nth (hw.2.2.1.lt hf.1).1 (hw.2.2.1.lt hf.1).2) λy ⟨_,hy⟩=>.bind (yS hv h (hf.2 x hx) (hf.2 y hy)) λr hr=>.pure ⟨hr,λh'=>by omega⟩
 ·have hn:=hc.nxt hi (by omega) (by omega)
  refine .bind (.nth (hw.2.1.lt hf.1).1 (hw.2.1.lt hf.1).2) λx ⟨_,hx⟩=>?_
  rw [wL,ob9]
  refine .sel (λ_=>.pure ⟨.inr (.inr (.inr (.inl ⟨rfl,rfl,rfl,rfl,hw.2.2.2⟩))),λh'=>by omega⟩) λ_=>.bind (.nth (hw.2.1.lt hf.1).1 (hw.2.1.lt hf.1).2) λy _=>.sel (λ_=>.pure ⟨?_,λh'=>by omega⟩) λ_=>.pure ⟨hv,id⟩
  rw [ao h0 (by omega)]
  exact .inr (.inr (.inr (.inl ⟨rfl,rfl,rfl,rfl,by simp only; omega,by simp only; omega⟩)))
def qG (f:List ab->Option (List ab×Bool)):Prop:=∀ {eQ:List ab},COk eQ->Tot (f eQ) λr=>COk r.1/\r.2=true/\r.1.length<=eQ.length
theorem vp:qG fJ:=λ{eQ} hc=>by
 unfold fJ
 rw [aN hc,ob9]
 have hl:=hc.max
 refine .sf rfl (.bind (xf hc) λfs hfs=>.bind (kE (n:=eQ.length) (λi q'=>∃ q:ab,eQ[i]?=some q/\QOk eQ.length q'/\(q.Op=10\/q.Op=4->q'.Op=10\/q'.Op=4)) hc.max (λi out h0 h1 h2=>?_) λout=>?_) λout ho=>.pure ⟨hc.alike ho,rfl,by rw [ho.1]; exact Nat.le_refl _⟩)
 ·unfold c6
  refine .st (by simpa using h1) (.bind (.nth h0 (by rw [hfs.1]; exact h1)) λl ⟨_,hm⟩=>.bind (.nth h0 h1) λq ⟨hq,_⟩=>.bind (s7 hc h0 hq (hfs.2 l hm)) λq' hq'=>.bind (.app (by simp [h2]; omega)) λr hr=>.pure ⟨q',?_,q,hq,hq'⟩)
  rw [ao h0 (by omega),hr]
 ·unfold c6; rw [aZ (by simp)]
def s8:Nat->List Int->Nat
 | _,[]=>0
 | k,x::r=>(if x=(k:Int) then 0 else 1)+s8 (k+1) r
theorem wN:∀ (l:List Int) (k:Nat),s8 k l<=l.length
 | [],_=>Nat.le_refl _
 | x::r,k=>by have:=wN r (k+1); simp only [s8,List.length_cons]; split <;> omega
theorem vq:∀ {l:List Int} {k i:Nat} {a:Int},l[i]?=some a->a≠((k+i:Nat):Int)->s8 k (l.set i ((k+i:Nat):Int))<s8 k l
 | [],_,_,_,h,_=>by simp at h
 | x::r,k,0,a,h,hne=>by
  have:x=a:=by simpa using h
  subst this
  simp only [List.set_cons_zero,s8,Nat.add_zero] at *
  rw [if_pos trivial,if_neg hne]
  omega
 | x::r,k,i+1,a,h,hne=>by
  have e:k+(i+1)=(k+1)+i:=by omega
  rw [e] at hne ⊢
  have:=vq (l:=r) (k:=k+1) (i:=i) (by simpa using h) hne
  simp only [List.set_cons_succ,s8]
  omega
def kP (l:List Int):Prop:=l.length=12/\∀ x∈l,Rg x
def Ak (l:List Int):Prop:=l=[]\/kP l
def l6 (n:Nat) (all:List (List Int)):Prop:=all.length=n/\∀ l∈all,Ak l
def cm (l:List Int):Nat:=if l=[] then 13 else s8 0 l
def cam (all:List (List Int)):Nat:=(all.map cm).sum
theorem kP.set {l:List Int} {i:Nat} {x:Int} (h:kP l) (hx:Rg x):kP (l.set i x):=⟨by rw [List.length_set]; exact h.1,λg hg=>(mA hg).elim (h.2 g) λe=>e▸hx⟩
theorem l6.set {n:Nat} {all:List (List Int)} {i:Nat} {l:List Int} (h:l6 n all) (hl:Ak l):l6 n (all.set i l):=⟨by rw [List.length_set]; exact h.1,λg hg=>(mA hg).elim (h.2 g) λe=>e▸hl⟩
theorem kP.ne {l:List Int} (h:kP l):l≠[]:=by rintro rfl; have:=h.1; simp at this
theorem kP.cm {l:List Int} (h:kP l):cm l=s8 0 l/\cm l<=12:=by
 unfold N.cm
 rw [if_neg h.ne]
 exact ⟨rfl,by have:=wN l 0; rw [h.1] at this; exact this⟩
theorem vr:Tot fu kP:=by
 unfold fu
 refine .bind (P:=kP) (.iter (λs=>0<=s.2/\s.2<=12/\s.1.length=s.2.toNat/\∀ x∈s.1,Rg x) (λs=>(12-s.2).toNat) ⟨by simp,by simp,by simp,by simp⟩ λs hs=>?_) λr hr=>.pure hr
 obtain ⟨l,i⟩:=s
 obtain ⟨g0,g1,g2,g3⟩:=hs
 simp only at g0 g1 g2 g3
 unfold jP
 refine .sel (λh=>?_) λh=>.inr (show kP l from ?_)
 ·simp only [decide_eq_true_eq] at h
  refine .bind (.app (by simp [g2]; omega)) λr hr=>.inl ?_
  subst hr
  rw [ao g0 (by omega)]
  refine ⟨⟨by simp only; omega,by simp only; omega,by simp [g2]; omega,λx hx=>?_⟩,by simp only; omega⟩
  simp only [List.mem_append,List.mem_singleton] at hx
  rcases hx with h | rfl
  ·exact g3 x h
  ·unfold Rg; omega
 ·simp only [decide_eq_false_iff_not] at h
  exact ⟨by omega,g3⟩
theorem QOk.mono {q:ab} {m m':Int} (h:QOk m q) (hm:m<=m'):QOk m' q:=by
 unfold QOk at *
 rcases h with h | h | h | h | h | h | h | h | h
 ·exact .inl h
 ·exact .inr (.inl h)
 ·exact .inr (.inr (.inl h))
 ·exact .inr (.inr (.inr (.inl ⟨h.1,h.2.1,h.2.2.1,h.2.2.2.1,h.2.2.2.2.1,by omega⟩)))
 ·exact .inr (.inr (.inr (.inr (.inl ⟨h.1,h.2.1,h.2.2.1,h.2.2.2.1,h.2.2.2.2.1,by omega⟩))))
 ·exact .inr (.inr (.inr (.inr (.inr (.inl h)))))
 ·exact .inr (.inr (.inr (.inr (.inr (.inr (.inl h))))))
 ·exact .inr (.inr (.inr (.inr (.inr (.inr (.inr (.inl h)))))))
 ·exact .inr (.inr (.inr (.inr (.inr (.inr (.inr (.inr h)))))))
theorem uC (q:ab) {m:Int} (h:QOk m q) (hm:m<=600):ce q=some (if q.Op=1\/q.Op=2\/q.Op=3\/q.Op=7 then q.Dst else -1):=by
 have h6:QOk 600 q:=h.mono hm
 unfold ce
 rw [uB,decide_eq_true h6,ob9,Bool.not_true,aZ rfl]
 by_cases h1:q.Op=1
 ·simp [h1,sel]
 by_cases h2:q.Op=2
 ·simp [h2,sel]
 by_cases h3:q.Op=3
 ·simp [h3,sel]
 by_cases h7:q.Op=7
 ·simp [h7,sel]
 rw [if_neg (by omega),aZ (by simpa using h1),aZ (by simpa using h2),aZ (by simpa using h3),ob9,aZ (by simpa using h7)]
theorem xY {q:ab} {m:Int} (h:QOk m q) (hm:m<=600):Tot (ce q) λr=>r = -1\/Rg r:=by
 refine .of (uC q h hm) ?_
 unfold QOk at h
 split
 ·rename_i h'; right; unfold Rg at *; omega
 ·exact .inl rfl
theorem vW {q:ab} {m:Int} {l:List Int} (hq:QOk m q) (hm:m<=600) (hl:kP l):Tot (fK q l) kP:=by
 unfold fK
 refine .bind (.app (by simp [hl.1])) λr hr=>?_
 rw [List.nil_append] at hr
 subst hr
 refine .bind (xY hq hm) λd hd=>.sel (λ_=>.pure hl) λhneg=>?_
 simp only [decide_eq_false_iff_not] at hneg
 have hd':Rg d:=hd.resolve_left (by omega)
 refine .bind (P:=kP) (.iter (λs=>0<=s.1/\s.1<=12/\kP s.2) (λs=>(12-s.1).toNat) ⟨by simp,by simp,hl⟩ λs hs=>?_) λl2 h2=>.bind (.nth (hd'.lt h2.1).1 (hd'.lt h2.1).2) λ_ _=>.bind (.upd (hd'.lt h2.1).1 (hd'.lt h2.1).2) λl3 h3=>?_
 ·obtain ⟨i,l'⟩:=s
  obtain ⟨g0,g1,g2⟩:=hs
  simp only at g0 g1 g2
  unfold i6
  refine .sel (λh=>?_) λ_=>.inr g2
  simp only [decide_eq_true_eq] at h
  have hi:0<=i/\i<l'.length:=by rw [g2.1]; omega
  refine .bind (P:=kP) (.bind (.nth hi.1 hi.2) λx _=>.sel (λ_=>.bind (.nth hi.1 hi.2) λ_ _=>.bind (.upd hi.1 hi.2) λr hr=>.pure ?_) λ_=>.pure g2) λr hr=>.inl ?_
  ·subst hr; exact g2.set (by unfold Rg; omega)
  ·rw [ao g0 (by omega)]; exact ⟨⟨by simp only; omega,by simp only; omega,hr⟩,by simp only; omega⟩
 ·subst h3
  have h3':=h2.set (i:=d.toNat) hd'
  refine .sel (λh=>?_) λ_=>.pure h3'
  simp only [beq_iff_eq] at h
  unfold QOk at hq; simp [h] at hq
  exact .bind (.nth (hd'.lt h3'.1).1 (hd'.lt h3'.1).2) λ_ _=>.bind (.upd (hd'.lt h3'.1).1 (hd'.lt h3'.1).2) λr hr=>.pure (hr▸h3'.set hq.2.1)
theorem vX {n:Nat} {all:List (List Int)} {i:Int} {cs:List Int} (h:l6 n all) (h0:0<=i) (h1:i<n) (hf:kP cs):Tot (fL all i cs) λr=>l6 n r.2/\cam r.2<=cam all/\(r.1=true->cam r.2<cam all):=by
 have hin:i<all.length:=by rw [h.1]; exact h1
 unfold fL
 refine .bind (.nth h0 hin) λl0 ⟨hl0,hm0⟩=>.sel (λhe=>?_) λhne=>?_
 ·refine .bind (.app (by simp [hf.1])) λr hr=>.pure ?_
  rw [List.nil_append] at hr
  subst hr
  have e0:l0=[]:=by simpa using he
  subst e0
  have e2:cam (all.set i.toNat r)+N.cm []=cam all+N.cm r:=nc N.cm _ hl0
  have e3:N.cm []=13:=by decide
  have e4:=hf.cm.2
  exact ⟨h.set (.inr hf),by simp only; omega,λ_=>by simp only; omega⟩
 have hl0':kP l0:=(h.2 l0 hm0).resolve_left (by rintro rfl; simp at hne)
 refine .bind (.iter (λs=>0<=s.2.1/\s.2.1<=12/\l6 n s.2.2/\(∃ l,s.2.2[i.toNat]?=some l/\kP l)/\cam s.2.2<=cam all/\(s.1=true->cam s.2.2<cam all)) (λs=>(12-s.2.1).toNat) ⟨by simp,by simp,h,⟨l0,hl0,hl0'⟩,by simp,by simp⟩ λs hs=>?_) λr (hr:l6 n r.2/\cam r.2<=cam all/\(r.1=true->cam r.2<cam all))=>.pure hr
 obtain ⟨gZ,r,a⟩:=s
 obtain ⟨g0,g1,g2,⟨l,hl,hlo⟩,g3,g4⟩:=hs
 simp only at g0 g1 g2 g3 g4 hl
 unfold i7
 refine .sel (λhlt=>?_) λhlt=>.inr ⟨g2,g3,g4⟩
 simp only [decide_eq_true_eq] at hlt
 have hia:i<a.length:=by rw [g2.1]; exact h1
 have hrl:r<l.length:=by rw [hlo.1]; exact hlt
 refine .bind (P:=λz=>l6 n z.2/\(∃ l,z.2[i.toNat]?=some l/\kP l)/\cam z.2<=cam all/\(z.1=true->cam z.2<cam all)) ?_ λz hz=>.inl ⟨⟨?_,?_,hz⟩,?_⟩
 ·refine .bind (.nth h0 hia) λl' ⟨hl',_⟩=>?_
  obtain rfl:l=l':=o9 (hl.symm.trans hl')
  refine .bind (.nth g0 hrl) λx ⟨hx,hxm⟩=>.bind (P:=λb=>b=true->x≠r) (.sel (λhne=>.bind (.nth g0 hrl) λ_ _=>.bind (.nth g0 (by rw [hf.1]; exact hlt)) λ_ _=>.pure λ_=>by simpa using hne) λ_=>.pure (by simp)) λb hb=>.sel (λhbt=>?_) λ_=>.pure ⟨g2,⟨l,hl,hlo⟩,g3,g4⟩
  have hxr:=hb hbt
  refine .bind (.nth h0 hia) λl' ⟨hl',_⟩=>?_
  obtain rfl:l=l':=o9 (hl.symm.trans hl')
  refine .bind (.nth g0 hrl) λ_ _=>.bind (.upd g0 hrl) λl2 hl2=>.pure ?_
  subst hl2
  have hr':Rg r:=by unfold Rg; omega
  have hset:=hlo.set (i:=r.toNat) hr'
  have e1:s8 0 (l.set r.toNat r)<s8 0 l:=by
   have:=vq (l:=l) (k:=0) (i:=r.toNat) hx (by omega)
   rwa [show ((0+r.toNat:Nat):Int)=r by omega] at this
  have e2:cam (a.set i.toNat (l.set r.toNat r))+N.cm l=cam a+N.cm (l.set r.toNat r):=nc N.cm _ hl
  rw [hlo.cm.1,hset.cm.1] at e2
  exact ⟨g2.set (.inr hset),⟨_,by simp only; rw [List.getElem?_set_self (by omega)],hset⟩,by simp only; omega,λ_=>by simp only; omega⟩
 all_goals (rw [ao g0 (by omega)]; simp only; omega)
theorem s9 {eQ:List ab} {all:List (List Int)} (hc:COk eQ) (h:l6 eQ.length all):Tot (fM eQ all) λr=>l6 eQ.length r.2/\cam r.2<=cam all/\(r.1=true->cam r.2<cam all):=by
 unfold fM
 have hl:=hc.max
 refine .bind (.iter (λs=>0<=s.2.1/\s.2.1<=(eQ.length:Int)/\l6 eQ.length s.2.2/\cam s.2.2<=cam all/\(s.1=true->cam s.2.2<cam all)) (λs=>((eQ.length:Int)-s.2.1).toNat) ⟨by simp,by simp,h,by simp,by simp⟩ λs hs=>?_) λr (hr:l6 eQ.length r.2/\cam r.2<=cam all/\(r.1=true->cam r.2<cam all))=>.pure hr
 obtain ⟨gZ,i,a⟩:=s
 obtain ⟨g0,g1,g2,g3,g4⟩:=hs
 simp only at g0 g1 g2 g3 g4
 unfold ja
 refine .sel (λhlt=>?_) λhlt=>.inr ⟨g2,g3,g4⟩
 simp only [decide_eq_true_eq] at hlt
 refine .bind (P:=λz=>l6 eQ.length z.2/\cam z.2<=cam all/\(z.1=true->cam z.2<cam all)) ?_ λz hz=>.inl ⟨⟨?_,?_,hz⟩,?_⟩
 ·refine .bind (.nth g0 (by rw [g2.1]; exact hlt)) λl ⟨hl',hm⟩=>.sel (λ_=>.pure ⟨g2,g3,g4⟩) λhne=>?_
  have hlo:kP l:=(g2.2 l hm).resolve_left (by rintro rfl; simp at hne)
  refine .bind (sZ hc g0 hlt) λes he=>.bind (.nth g0 hlt) λq ⟨hq,hqm⟩=>.bind (vW (hc.q q hqm) (by omega) hlo) λaf haf=>?_
  refine .bind (.iter (λs=>0<=s.2.1/\s.2.1<=(es.length:Int)/\l6 eQ.length s.2.2/\cam s.2.2<=cam all/\(s.1=true->cam s.2.2<cam all)) (λs=>((es.length:Int)-s.2.1).toNat) ⟨by simp,by simp,g2,g3,g4⟩ λs hs=>?_) λr (hr:l6 eQ.length r.2/\cam r.2<=cam all/\(r.1=true->cam r.2<cam all))=>.pure hr
  obtain ⟨fresh',j,a'⟩:=s
  obtain ⟨k0,k1,k2,k3,k4⟩:=hs
  simp only at k0 k1 k2 k3 k4
  unfold i9
  refine .sel (λhlt'=>?_) λ_=>.inr ⟨k2,k3,k4⟩
  simp only [decide_eq_true_eq] at hlt'
  refine .bind (P:=λz=>l6 eQ.length z.2/\cam z.2<=cam all/\(z.1=true->cam z.2<cam all)) ?_ λz hz=>.inl ⟨⟨?_,?_,hz⟩,?_⟩
  ·refine .bind (.nth k0 hlt') λe ⟨_,hem⟩=>.bind (vX (all:=a') k2 (he.2 e hem).1 (he.2 e hem).2 haf) λr hr=>.sel (λhr1=>.pure ⟨hr.1,by simp only; omega,λ_=>by have:=hr.2.2 hr1; simp only; omega⟩) λ_=>.pure ⟨hr.1,by simp only; omega,λh=>by have:=k4 h; simp only; omega⟩
  all_goals (rw [ao k0 (by omega)]; simp only; omega)
 all_goals (rw [ao g0 (by omega)]; simp only; omega)
theorem vY {eQ:List ab} (hc:COk eQ):Tot (dY eQ) λall=>all.length=eQ.length/\∀ l∈all,kP l:=by
 unfold dY
 rw [aN hc,ob9]
 have hl:=hc.max
 have h1:=hc.one
 refine .sf rfl (.bind (P:=l6 eQ.length) (.iter (λs=>0<=s.2/\s.2<=(eQ.length:Int)/\l6 s.2.toNat s.1) (λs=>((eQ.length:Int)-s.2).toNat) ⟨by simp,by simp,by simp [l6]⟩ λs hs=>?_) λa0 ha0=>.bind vr λsf hsf=>.bind (.nth (by omega) (by rw [ha0.1]; omega)) λ_ _ =>
  .bind (P:=l6 eQ.length) (.iter (λs=>l6 eQ.length s) cam (ha0.set (.inr hsf)) λs hs=>?_) λa1 ha1=>.bind (P:=λall=>all.length=eQ.length/\∀ l∈all,kP l) (.iter (λs=>0<=s.1/\s.1<=(eQ.length:Int)/\l6 eQ.length s.2/\∀ (j:Nat) l,(j:Int)<s.1->s.2[j]?=some l->kP l) (λs=>((eQ.length:Int)-s.1).toNat) ⟨by simp,by simp,ha1,λj l h=>by simp only at h; omega⟩ λs hs=>?_) λr hr=>.pure hr)
 ·obtain ⟨a,i⟩:=s
  obtain ⟨g0,g1,g2⟩:=hs
  simp only at g0 g1 g2
  unfold jb
  refine .sel (λhlt=>?_) λhlt=>.inr ?_
  ·simp only [decide_eq_true_eq] at hlt
   refine .bind (.app (by simp [g2.1]; omega)) λr hr=>.inl ?_
   subst hr
   rw [ao g0 (by omega)]
   refine ⟨⟨by simp only; omega,by simp only; omega,by simp [g2.1]; omega,λl hl'=>?_⟩,by simp only; omega⟩
   simp only [List.mem_append,List.mem_singleton] at hl'
   rcases hl' with h | rfl
   ·exact g2.2 l h
   ·exact .inl rfl
  ·simp only [decide_eq_false_iff_not] at hlt
   rw [show i.toNat=eQ.length by omega] at g2
   exact g2
 ·unfold jc
  exact .bind (s9 hc hs) λr hr=>.sel (λh=>.inl ⟨hr.1,hr.2.2 h⟩) λ_=>.inr hr.1
 ·obtain ⟨i,a⟩:=s
  obtain ⟨g0,g1,g2,g3⟩:=hs
  simp only at g0 g1 g2 g3
  unfold jd
  refine .sel (λhlt=>?_) λhlt=>.inr (show a.length=eQ.length/\∀ l∈a,kP l from ?_)
  ·simp only [decide_eq_true_eq] at hlt
   have hia:i<a.length:=by rw [g2.1]; exact hlt
   refine .bind (P:=λz=>l6 eQ.length z/\∀ (j:Nat) l,(j:Int)<i+1->z[j]?=some l->kP l) (.bind (.nth g0 hia) λl ⟨hl',hm⟩=>.sel (λhe=>.bind vr λsf hsf=>.pure ⟨g2.set (.inr hsf),λj l2 hj hl2=>?_⟩) λhne=>.pure ⟨g2,λj l2 hj hl2=>?_⟩) λz hz=>.inl ?_
   ·by_cases e:j=i.toNat
    ·subst e
     have hlt3:i.toNat<a.length:=by omega
     rw [List.getElem?_set_self hlt3] at hl2
     injection hl2 with hl2
     exact hl2▸hsf
    ·rw [List.getElem?_set_ne (λh=>e h.symm)] at hl2
     exact g3 j l2 (by omega) hl2
   ·by_cases e:j=i.toNat
    ·subst e
     rw [hl'] at hl2
     injection hl2 with hl2
     subst hl2
     exact (g2.2 l hm).resolve_left (by rintro rfl; simp at hne)
    ·exact g3 j l2 (by omega) hl2
   ·rw [ao g0 (by omega)]
    exact ⟨⟨by simp only; omega,by simp only; omega,hz⟩,by simp only; omega⟩
  ·simp only [decide_eq_false_iff_not] at hlt
   refine ⟨g2.1,λl hm=>?_⟩
   obtain ⟨j,hj,rfl⟩:=List.getElem_of_mem hm
   exact g3 j _ (by have:=g2.1; omega) (List.getElem?_eq_getElem hj)
theorem xZ {q:ab} {m:Int} {cs:List Int} (hq:QOk m q) (hf:kP cs):Tot (gD q cs) λq'=>QOk m q'/\q'.Op=q.Op:=by
 have hv:=hq
 unfold QOk at hv
 unfold gD
 refine .bind (P:=λb=>b=true↔(q.Op=2\/q.Op=5\/q.Op=6\/q.Op=9)) (.sel (λh=>.pure ?_) λh=>.sel (λh'=>.pure ?_) λh'=>.sel (λh''=>.pure ?_) λh''=>.pure ?_) λb hb=>.sel (λhbt=>?_) λhbf=>.sel (λh=>?_) λ_=>.pure ⟨hq,rfl⟩
 ·simp only [beq_iff_eq] at *; simp [h]
 ·simp only [beq_iff_eq] at *; simp [h']
 ·simp only [beq_iff_eq] at *; simp [h'']
 ·simp only [beq_eq_false_iff_ne,ne_eq] at *; simp [h,h',h'']
 ·have ha:Rg q.A:=by have:=hb.1 hbt; unfold Rg at *; omega
  refine .bind (.nth (ha.lt hf.1).1 (ha.lt hf.1).2) λx ⟨_,hm⟩=>.pure ⟨?_,rfl⟩
  have hx:=hf.2 x hm
  rcases hb.1 hbt with h | h | h | h <;> simp [h] at hv <;> simp [QOk,h,hv,hx]
 ·simp only [beq_iff_eq] at h
  simp [h] at hv
  exact .bind (.nth (hv.2.1.lt hf.1).1 (hv.2.1.lt hf.1).2) λx ⟨_,hm⟩=>.bind (.nth (hv.2.2.1.lt hf.1).1 (hv.2.2.1.lt hf.1).2) λy ⟨_,hm'⟩=>.pure ⟨.inr (.inr (.inl ⟨h,hv.1,hf.2 x hm,hf.2 y hm',hv.2.2.2⟩)),rfl⟩
theorem vt:qG fN:=λ{eQ} hc=>by
 unfold fN
 rw [aN hc,ob9]
 have hl:=hc.max
 refine .sf rfl (.bind (vY hc) λcs hcs=>.bind (kE (n:=eQ.length) (λi q'=>∃ q:ab,eQ[i]?=some q/\QOk eQ.length q'/\(q.Op=10\/q.Op=4->q'.Op=10\/q'.Op=4)) hc.max (λi out h0 h1 h2=>?_) λout=>?_) λout ho=>.pure ⟨hc.alike ho,rfl,by rw [ho.1]; exact Nat.le_refl _⟩)
 ·unfold c7
  refine .st (by simpa using h1) (.bind (.nth h0 (by rw [hcs.1]; exact h1)) λl ⟨_,hm⟩=>.bind (.nth h0 h1) λq ⟨hq,hqm⟩=>.bind (xZ (hc.q q hqm) (hcs.2 l hm)) λq' hq'=>.bind (.app (by simp [h2]; omega)) λr hr=>.pure ⟨q',?_,q,hq,hq'.1,λh=>by rw [hq'.2]; exact h⟩)
  rw [ao h0 (by omega),hr]
 ·unfold c7; rw [aZ (by simp)]
theorem py {eQ:List ab} (hc:COk eQ) {x:Int} (h0:0<=x) (h1:x<eQ.length):Tot (eH eQ x) λy=>0<=y/\y<eQ.length:=by
 have hl:=hc.max
 unfold eH
 refine .bind (P:=λz=>match z with | .inl y=>0<=y/\y<(eQ.length:Int) | .inr _=>True) (.iter (λs=>0<=s.2/\s.2<=(eQ.length:Int)/\0<=s.1/\s.1<(eQ.length:Int)) (λs=>((eQ.length:Int)-s.2).toNat) ⟨by simp,by simp,h0,h1⟩ λs hs=>?_) λz hz=>.both (λy e=>by subst e; exact .pure hz) λ_ _=>.pure ⟨h0,h1⟩
 obtain ⟨y,i⟩:=s
 obtain ⟨g0,g1,g2,g3⟩:=hs
 simp only at g0 g1 g2 g3
 unfold kz
 refine .sel (λhlt=>?_) λhlt=>.inr trivial
 simp only [decide_eq_true_eq] at hlt
 refine .bind (.nth g2 g3) λq ⟨hq,hm⟩=>.sel (λ_=>.inr ⟨g2,g3⟩) λh4=>.bind (.nth g2 g3) λq' ⟨hq',_⟩=>.inl ?_
 obtain rfl:q=q':=o9 (hq.symm.trans hq')
 simp only [bne_eq_false_iff_eq] at h4
 have hv:=hc.q q hm
 unfold QOk at hv
 simp [h4] at hv
 rw [ao g0 (by omega)]
 exact ⟨⟨by simp only; omega,by simp only; omega,hv.2.2.2.1,hv.2.2.2.2⟩,by simp only; omega⟩
theorem vu:qG fO:=λ{eQ} hc=>by
 unfold fO
 rw [aN hc,ob9]
 have hl:=hc.max
 refine .sf rfl (.bind (kE (n:=eQ.length) (λi q'=>∃ q:ab,eQ[i]?=some q/\QOk eQ.length q'/\(q.Op=10\/q.Op=4->q'.Op=10\/q'.Op=4)) hc.max (λi out h0 h1 h2=>?_) λout=>?_) λout ho=>.pure ⟨hc.alike ho,rfl,by rw [ho.1]; exact Nat.le_refl _⟩)
 ·unfold c8
  refine .st (by simpa using h1) (.bind (.nth h0 h1) λq ⟨hq,hqm⟩=>.bind (P:=λq'=>QOk eQ.length q'/\q'.Op=q.Op) ?_ λq' hq'=>.bind (.app (by simp [h2]; omega)) λr hr=>.pure ⟨q',?_,q,hq,hq'.1,λh=>by rw [hq'.2]; exact h⟩)
  ·have hv:=hc.q q hqm
   have hw:=hv
   unfold QOk at hw
   refine .sel (λh=>?_) λ_=>.pure ⟨hv,rfl⟩
   simp only [Bool.or_eq_true,beq_iff_eq] at h
   have hr:0<=q.N/\q.N<eQ.length:=by rcases h with h | h <;> simp [h] at hw <;> omega
   refine .bind (py hc hr.1 hr.2) λy hy=>.pure ⟨?_,rfl⟩
   rcases h with h | h <;> simp [h] at hw <;> simp [QOk,h,hw,hy]
  ·rw [ao h0 (by omega),hr]
 ·unfold c8; rw [aZ (by simp)]
end

end Go.Proofs.YtmjebmhcbnkojaaGreat.N
