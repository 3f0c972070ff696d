/- A small program logic over the kit's walks: the environment of a call as a list, one rule an operation. The program logic's memory: data as trees, rows that a c -/
import Derived.Tactics
import Derived.Orders
import Derived.Laws.Sem
import Derived.Deep.LoopGhost
import Derived.Laws.AppendOwn
import Derived.Maps.AppendAt
import Derived.Laws.OwnMore
import Derived.Laws.CopyOwn
import Derived.Laws.Rows
import Derived.KernelRfl
import Derived.Laws.MakeOwn
import Derived.Deep.RegionHeld3
import Derived.Laws.StructEq
import Derived.Below
import Derived.Laws.Cover3
import Derived.Lib.AppendZerosOnto
import Derived.Laws.Pointers
set_option linter.unusedVariables false
set_option linter.unusedSimpArgs false
set_option maxRecDepth 100000
set_option maxHeartbeats 4000000
namespace Go.Proofs.YtfpngipcclmliaaGreatDoor.X
open Go
noncomputable section
theorem o9 {α:Type _} {a b:α} (h:some a=some b):a=b := Option.some.inj h
theorem ob9 {α:Type _} {β:Type _} (a:α) (f:α->Option β):(some a).bind f=f a := rfl
abbrev Pt (g:Nat):Value := .pointer (some ⟨g, 0, none⟩)
end
noncomputable section
abbrev Env:=List (Nat×Value)
def f5:Env->Nat->Option Value
 | [],_=>none
 | (j,v)::r,i=>match Nat.beq j i with
  | true=>some v
  | false=>f5 r i
def ev (E:Env):Operand->Option Value
 | .tmp t=>f5 E t
 | .const v=>some v
 | .global g=>some (Pt g)
 | .func f=>some (.func (.func f) #[] #[])
def evs (E:Env):List Operand->Option (List Value)
 | []=>some []
 | x::r=>match ev E x,evs E r with
  | some v,some vs=>some (v::vs)
  | _,_=>none
structure hU (n:Nat) (E:Env) (a:Act):Prop where
 d:a.defers=[]
 s:a.tmps.size=n
 h:∀ i v,f5 E i=some v->a.tmps[i]?=some v
variable {P:Program} {n:Nat} {ops:Array Oper} {o:Oper} {E E':Env} {W W':World} {a:Act} {v u:Value}
theorem hU.ev (h:hU n E a) {x:Operand} (hx:ev E x=some v):a.eval x=v:=by
 cases x with
 | tmp t=>have:=h.h t v hx; simp [Act.eval,this]
 | const c=>simpa [X.ev,Act.eval] using hx
 | global g=>simpa [X.ev,Act.eval] using hx
 | func f=>simpa [X.ev,Act.eval] using hx
theorem hU.evs (h:hU n E a):∀ {xs:List Operand} {vs:List Value},evs E xs=some vs->xs.map a.eval=vs
 | [],vs,hx=>by simp [X.evs] at hx; simp [hx]
 | x::r,vs,hx=>by
  simp only [X.evs] at hx
  cases h1:X.ev E x <;> simp only [h1] at hx <;> try contradiction
  cases h2:X.evs E r <;> simp only [h2] at hx <;> try contradiction
  injection hx with hx
  subst hx
  simp [h.ev h1,hU.evs h h2]
def put (E:Env):Option Nat->Value->Env
 | some d,v=>(d,v)::E
 | none,_=>E
def okD (n:Nat):Option Nat->Bool
 | some d=>Nat.blt d n
 | none=>true
theorem hU.put (h:hU n E a) {d:Option Nat} (hd:okD n d=true) (v:Value):hU n (put E d v) (a.put d v):=by
 cases d with
 | none=>exact h
 | some d =>
  have hd':d<n:=by simpa [okD,Nat.blt_eq] using hd
  refine ⟨h.d,by simp [Act.put,h.s],λi u hi=>?_⟩
  simp only [X.put,f5] at hi
  by_cases e:d=i
  ·subst e
   simp only [Nat.beq_eq_true_eq,Nat.beq_refl] at hi
   injection hi with hi
   subst hi
   simp [Act.put,h.s,hd']
  ·have:Nat.beq d i=false:=by
    cases hb:Nat.beq d i
    ·rfl
    ·exact absurd (Nat.eq_of_beq_eq_true hb) e
   rw [this] at hi
   simp only [Act.put]
   rw [Array.getElem?_setIfInBounds_ne e]
   exact h.h i u hi
def OpW (P:Program) (n:Nat) (ops:Array Oper) (o:Oper) (E:Env) (W:World) (K:Env->World->Prop):Prop:=
 ∀ a Q Kc,hU n E a->(∀ a' E' W',hU n E' a'->K E' W'->Kc a' W') ->
  (if Region.wanted o (yielded ops a.tmps) then o.wp P a W Kc Q else Kc (a.put o.dst undef) W)
def RG (P:Program) (n:Nat) (ops:Array Oper) (todo:List Oper) (E:Env) (W:World) (K:Env->World->Prop):Prop:=
 ∀ a Q,hU n E a->(∀ a' E' W',hU n E' a'->K E' W'->Q .normal a' W')->wpList P ops Q todo a W
variable {K:Env->World->Prop} {rest:List Oper}
theorem RG.nil (h:K E W):RG P n ops [] E W K:=λa Q ha hk=>hk _ _ _ ha h
theorem RG.c (h:OpW P n ops o E W λE' W'=>RG P n ops rest E' W' K):RG P n ops (o::rest) E W K:=by
 intro a Q ha hk
 refine wpList_step λKc hKc=>h a Q Kc ha λa' E' W' ha' hr=>hKc _ _ (hr a' Q ha' hk)
theorem OpW.val (hg:o.guard=none) (hd:okD n o.dst=true) (hrun:∀ a,hU n E a->(execOp a.eval o).run P W=.ok (.value v) W')
  (hk:K (put E o.dst v) W'):OpW P n ops o E W K:=by
 intro a Q Kc ha h
 rw [if_pos (by simp [Region.wanted,hg])]
 unfold Oper.wp
 rw [hrun a ha]
 exact h _ _ _ (ha.put hd v) hk
theorem OpW.skip (hg:o.guard=none) (hd:o.dst=none) (hrun:∀ a,hU n E a->(execOp a.eval o).run P W=.ok .skip W')
  (hk:K E W'):OpW P n ops o E W K:=by
 intro a Q Kc ha h
 rw [if_pos (by simp [Region.wanted,hg])]
 unfold Oper.wp
 rw [hrun a ha]
 show Kc (a.put o.dst undef) W'
 rw [hd]
 exact h _ _ _ ha hk
theorem OpW.enter (hg:o.guard=none) (hd:okD n o.dst=true) {f:FuncId} {args:Array Value} (hrun:∀ a,hU n E a->(execOp a.eval o).run P W=.ok (.enter f args) W)
  (hc:Calls P f args W λe w'=>∃ v,e=.returned v/\K (put E o.dst v) w'):OpW P n ops o E W K:=by
 intro a Q Kc ha h
 rw [if_pos (by simp [Region.wanted,hg])]
 unfold Oper.wp
 rw [hrun a ha,Oper.upon_enter]
 refine hc.mono λe w'' ⟨v,he,hk⟩=>?_
 subst he
 exact h _ _ _ (ha.put hd v) hk
theorem nj {j:Nat} {d:Nat} {b:Bool} (ha:hU n E a) (hj:(ops[j]?).bind (·.dst)=some d) (hv:f5 E d=some (.bool b)):yielded ops a.tmps j=some b:=by
 simp [yielded,hj,ha.h _ _ hv]
def w64 (x:Int):Int:=IntKind.i64.wrap x
def mY:IntKind->Int->Int
 | .i64,x=>w64 x
 | k,x=>k.wrap x
theorem lz (k:IntKind) (x:Int):mY k x=k.wrap x:=by cases k <;> rfl
def yP:IntKind->IntKind->Bool
 | .i8,.i8 | .i16,.i16 | .i32,.i32 | .i64,.i64 | .u8,.u8 | .u16,.u16 | .u32,.u32 | .u64,.u64=>true
 | _,_=>false
theorem xf {j k:IntKind} (h:yP j k=true):j=k:=by cases j <;> cases k <;> first | rfl | cases h
def isZ:Int->Bool
 | .ofNat 0=>true
 | .ofNat (_+1)=>false
 | .negSucc _=>false
theorem Cl {y:Int} (h:isZ y=false):y≠0:=by rintro rfl; exact absurd h (by decide)
def shI (op:BinOp) (k:IntKind) (x y:Int):Option Value:=match y with
 | .ofNat m=>match op with
  | .shl=>some (.int k (mY k (x*2^(min m k.bits))))
  | .shr=>some (.int k (x.fdiv (2^(min m k.bits))))
  | _=>none
 | .negSucc _=>none
def bA (op:BinOp) (k:IntKind) (x y:Int):Int:=
 let a:=BitVec.ofInt k.bits x
 let b:=BitVec.ofInt k.bits y
 match op with
 | .and=>k.wrap (a &&& b).toNat
 | .or=>k.wrap (a ||| b).toNat
 | .xor=>k.wrap (a ^^^ b).toNat
 | .andNot=>k.wrap (a &&& ~~~b).toNat
 | _=>0
def Cm (op:BinOp) (k:IntKind) (x y:Int):Option Value:=
 match op with
 | .add=>some (.int k (mY k (x+y)))
 | .sub=>some (.int k (mY k (x-y)))
 | .mul=>some (.int k (mY k (x*y)))
 | .eql=>some (.bool (x==y))
 | .neq=>some (.bool (x !=y))
 | .lss=>some (.bool (decide (x<y)))
 | .leq=>some (.bool (decide (x<=y)))
 | .gtr=>some (.bool (decide (x>y)))
 | .geq=>some (.bool (decide (x>=y)))
 | .and=>some (.int k (bA .and k x y))
 | .or=>some (.int k (bA .or k x y))
 | .xor=>some (.int k (bA .xor k x y))
 | .andNot=>some (.int k (bA .andNot k x y))
 | .quo=>match isZ y with
  | true=>none
  | false=>some (.int k (mY k (x.tdiv y)))
 | .rem=>match isZ y with
  | true=>none
  | false=>some (.int k (x.tmod y))
 | _=>none
def C0 (op:BinOp) (x y:ByteArray):Option Value:=
 match op with
 | .eql=>some (.bool (x.toList==y.toList))
 | .neq=>some (.bool (!(x.toList==y.toList)))
 | .lss=>some (.bool (Op.bytesLess x.toList y.toList))
 | .leq=>some (.bool (Op.bytesLess x.toList y.toList||x.toList==y.toList))
 | .gtr=>some (.bool (!(Op.bytesLess x.toList y.toList||x.toList==y.toList)))
 | .geq=>some (.bool (!(Op.bytesLess x.toList y.toList)))
 | _=>none
def Dp (op:BinOp) (x y:Bool):Option Value:=
 match op with
 | .eql=>some (.bool (x==y))
 | .neq=>some (.bool (x !=y))
 | _=>none
def Cn:BinOp->Bool
 | .shl | .shr=>true
 | _=>false
def Ai (op:BinOp):Value->Value->Option Value
 | .int j x,.int k y=>match Cn op with
  | true=>shI op j x y
  | false=>match yP j k with
   | true=>Cm op j x y
   | false=>none
 | .string x,.string y=>C0 op x y
 | _,_=>none
def DA (P:Program) (op:BinOp) (t:TypeId):Value->Value->Option Value
 | .bool x,.bool y=>match P.underlying t with
  | some .bool=>Dp op x y
  | _=>none
 | _,_=>none
def pv (ρ:Operand->Option Value):Op->Option Value
 | .move x=>ρ x
 | .assign x=>ρ x
 | .binOp op _ x y _=>match ρ x,ρ y with
  | some u,some v=>Ai op u v
  | _,_=>none
 | .unOp .not _ x=>match ρ x with
  | some (.bool b)=>some (.bool (!b))
  | _=>none
 | .unOp .neg _ x=>match ρ x with
  | some (.int k m)=>some (.int k (mY k (0-m)))
  | _=>none
 | .extract x i=>match ρ x with
  | some (.tuple vs)=>vs[i]?
  | _=>none
 | .nilCheck x=>match ρ x with
  | some (.pointer (some p))=>some (.pointer (some p))
  | _=>none
 | _=>none
theorem Aj {op:BinOp} {k:IntKind} {x y:Int} {t:TypeId} (h:Cm op k x y=some v):(binOp op t (.int k x) (.int k y)).run P W=.ok v W:=by
 cases op <;> simp only [Cm] at h <;> first | cases h | skip
 case quo | rem =>
  cases hz:isZ y <;> simp only [hz] at h <;> try contradiction
  injection h with h
  subst h
  simp [binOp,Op.intDiv,Cl hz,lz]
 all_goals (simp [binOp,Op.intArith,Op.intCmp,Op.intBits,bA,lz])
theorem Bz {op:BinOp} {j k:IntKind} {x y:Int} {t:TypeId} (h:shI op j x y=some v):(binOp op t (.int j x) (.int k y)).run P W=.ok v W:=by
 unfold shI at h
 split at h
 ·rename_i m
  split at h <;> try contradiction
  all_goals
   injection h with h
   subst h
   have:¬ ((m:Int)<0):=by omega
   simp [binOp,Op.shift,this,lz]
 ·cases h
theorem oU (op:BinOp) (t:TypeId) (p q:Operand) (k j:IntKind) (x y:Int):(eqGuard op t p q (.int k x) (.int j y)).run P W=.ok () W:=by
 unfold eqGuard
 cases op <;> rfl
theorem uh (op:BinOp) (t:TypeId) (p q:Operand) (x y:ByteArray):(eqGuard op t p q (.string x) (.string y)).run P W=.ok () W:=by
 unfold eqGuard
 cases op <;> rfl
theorem Ak {op:BinOp} {x y:Value} {t:TypeId} {p q:Operand} (h:Ai op x y=some v) :
  (eqGuard op t p q x y).run P W=.ok () W/\(binOp op t x y).run P W=.ok v W:=by
 unfold Ai at h
 split at h
 ·rename_i j m k m'
  cases hsh:Cn op <;> simp only [hsh] at h
  ·cases hs:yP j k <;> simp only [hs] at h <;> try contradiction
   obtain rfl:=xf hs
   exact ⟨oU ..,Aj h⟩
  ·exact ⟨oU ..,Bz h⟩
 ·refine ⟨uh ..,?_⟩
  cases op <;> simp only [C0] at h <;> first | cases h | skip
  all_goals (simp [binOp,Op.stringOp])
 ·cases h
theorem Al {ρ:Operand->Option Value} (ha:hU n E a) (h:pv (ev E) o.op=some v):(execOp a.eval o).run P W=.ok (.value v) W:=by
 obtain ⟨dst,op,ty,pos,after,guard⟩:=o
 cases op <;> simp only [pv] at h <;> try contradiction
 case move x=>simp [execOp,ha.ev h]
 case assign x=>simp [execOp,ha.ev h]
 case binOp op t x y t' =>
  cases hx:ev E x <;> simp only [hx] at h <;> try contradiction
  cases hy:ev E y <;> simp only [hy] at h <;> try contradiction
  have:=Ak (P:=P) (W:=W) (t:=t) (p:=x) (q:=y) h
  simp [execOp,ha.ev hx,ha.ev hy,this.1,this.2]
 case unOp op t x =>
  cases op <;> simp only [pv] at h <;> try contradiction
  all_goals
   cases hx:ev E x <;> simp only [hx] at h <;> try contradiction
   rename_i z
   cases z <;> (try simp only at h) <;> try contradiction
   injection h with h
   subst h
   simp [execOp,ha.ev hx,Op.unary,Op.intArith,lz]
 case extract x i =>
  cases hx:ev E x <;> simp only [hx] at h <;> try contradiction
  rename_i z
  cases z <;> (try simp only at h) <;> try contradiction
  simp [execOp,ha.ev hx,Instr.extract,h]
 case nilCheck x =>
  cases hx:ev E x <;> simp only [hx] at h <;> try contradiction
  rename_i z
  cases z <;> (try simp only at h) <;> try contradiction
  rename_i q
  cases q <;> (try simp only at h) <;> try contradiction
  injection h with h
  subst h
  simp [execOp,ha.ev hx]
theorem RG.p (hv:pv (ev E) o.op=some v) (hg:o.guard=none) (hd:okD n o.dst=true)
  (h:RG P n ops rest (put E o.dst v) W K):RG P n ops (o::rest) E W K:=
 RG.c (OpW.val hg hd (λa ha=>Al (ρ:=ev E) ha hv) h)
def CW (P:Program) (n:Nat) (c:Code) (E:Env) (W:World) (R:Exit->Env->World->Prop):Prop:=
 ∀ a,hU n E a->c.wp P (λx a' W'=>∃ E',hU n E' a'/\R x E' W') a W
variable {R:Exit->Env->World->Prop} {c d:Code}
def yQ (K:Env->World->Prop) (R:Exit->Env->World->Prop):Exit->Env->World->Prop
 | .normal=>K
 | x=>R x
theorem CW.seq (h:CW P n c E W (yQ (λE' W'=>CW P n d E' W' R) R)):CW P n (.seq c d) E W R:=by
 intro a ha
 refine wp_seq (Code.wp_mono ?_ (h a ha))
 rintro x a' W' ⟨E',ha',hr⟩
 cases x with
 | normal=>exact hr a' ha'
 | _=>exact ⟨E',ha',hr⟩
theorem CW.skip (h:R .normal E W):CW P n .skip E W R:=λa ha=>wp_skip ⟨E,ha,h⟩
theorem CW.ret (h:R .ret E W):CW P n .ret E W R:=λa ha=>wp_ret ⟨E,ha,h⟩
theorem CW.exit {id:Nat} (h:R (.exit id) E W):CW P n (.exit id) E W R:=λa ha=>wp_exit ⟨E,ha,h⟩
theorem CW.region {id:Nat} (h:RG P n ops ops.toList E W (R .normal)):CW P n (.region id ops false) E W R:=by
 intro a ha
 exact wp_region_list (h a _ ha λa' E' W' ha' hr=>⟨E',ha',hr⟩)
theorem CW.cond {x:Operand} {b:Bool} (hx:ev E x=some (.bool b)) (ht:b=true->CW P n c E W R) (hf:b=false->CW P n d E W R):CW P n (.cond x c d) E W R:=by
 intro a ha
 exact wp_cond_split (ha.ev hx) (λh=>ht h a ha) (λh=>hf h a ha)
def wD (id:Nat) (R:Exit->Env->World->Prop):Exit->Env->World->Prop
 | .exit j=>match Nat.beq j id with
  | true=>R .normal
  | false=>R (.exit j)
 | x=>R x
theorem CW.block {id:Nat} (h:CW P n c E W (wD id R)):CW P n (.block id c) E W R:=by
 intro a ha
 refine wp_block (Code.wp_mono ?_ (h a ha))
 rintro x a' W' ⟨E',ha',hr⟩
 cases x with
 | exit j =>
  simp only [Exit.inBlock]
  by_cases e:j=id
  ·subst e
   simp only [wD,Nat.beq_refl] at hr
   rw [if_pos rfl]
   exact ⟨E',ha',hr⟩
  ·have:Nat.beq j id=false:=by
    cases hb:Nat.beq j id
    ·rfl
    ·exact absurd (Nat.eq_of_beq_eq_true hb) e
   simp only [wD,this] at hr
   rw [if_neg e]
   exact ⟨E',ha',hr⟩
 | _=>exact ⟨E',ha',hr⟩
def Sub (E' E:Env):Prop:=∀ p∈E',f5 E p.1=some p.2
theorem hU.sub (h:hU n E a) (hs:∀ i v,f5 E' i=some v->f5 E i=some v):hU n E' a:=⟨h.d,h.s,λi v hi=>h.h i v (hs i v hi)⟩
def al (E:Env):Env->Prop
 | []=>True
 | (i,v)::r=>f5 E i=some v/\al E r
theorem al.sub:∀ {E':Env},al E E'->∀ i v,f5 E' i=some v->f5 E i=some v
 | [],_,i,v,hi=>by cases hi
 | (j,u)::r,⟨h1,h2⟩,i,v,hi=>by
  simp only [f5] at hi
  cases hb:Nat.beq j i
  ·rw [hb] at hi
   exact al.sub h2 i v hi
  ·rw [hb] at hi
   obtain rfl:=Nat.eq_of_beq_eq_true hb
   injection hi with hi
   subst hi
   exact h1
theorem CW.sub (hs:al E E') (h:CW P n c E' W R):CW P n c E W R:=λa ha=>h a (ha.sub hs.sub)
end
noncomputable section
inductive D where
 | int (k:IntKind) (n:Int)
 | bool (b:Bool)
 | str (s:ByteArray)
 | row (e:TypeId) (size:Nat) (xs:List D)
 | agg (xs:List D)
mutual
def D.sz:D->Nat
 | .agg xs=>D.szs xs
 | _=>1
def D.szs:List D->Nat
 | []=>0
 | x::xs=>x.sz+D.szs xs
end
def t9 (W:World) (S:Nat->Prop) (v:Value) (e size n:Nat) (cs:List Value):Prop:=
 W.ownsRow 0 e size v n cs/\∀ g,v.ownBlock=some g->S g
mutual
def D.own (W:World):D->(Nat->Prop)->List Value->Prop
 | .int k n,S,cs=>cs=[.int k n]
 | .bool b,S,cs=>cs=[.bool b]
 | .str s,S,cs=>cs=[.string s]
 | .agg xs,S,cs=>D.owns W xs S cs
 | .row e size xs,S,cs=>∃ v c,cs=[v]/\t9 W S v e size xs.length c/\(∀ x∈xs,x.sz=size)/\∃ S',(∀ b,S' b->S b/\v.ownBlock≠some b)/\D.owns W xs S' c
def D.owns (W:World):List D->(Nat->Prop)->List Value->Prop
 | [],S,cs=>cs=[]
 | x::xs,S,cs=>∃ S1 c1 c2,cs=c1++c2/\c1.length=x.sz/\(∀ b,S1 b->S b)/\D.own W x S1 c1/\D.owns W xs (λb=>S b/\¬ S1 b) c2
end
mutual
def D.rd (W:World):D->(Nat->Prop)->List Value->Prop
 | .int k n,T,cs=>cs=[.int k n]
 | .bool b,T,cs=>cs=[.bool b]
 | .str s,T,cs=>cs=[.string s]
 | .agg xs,T,cs=>D.rds W xs T cs
 | .row e size xs,T,cs=>∃ A cap c,cs=[.slice A xs.length cap]/\xs.length<=cap/\xs.length<=maxLen/\(∀ x∈xs,x.sz=size) /\
   (xs≠[]->∃ ad,A=some ad/\T ad.block/\∀ j u,c[j]?=some u->W.cell? (ad.add j)=some u)/\D.rds W xs T c
def D.rds (W:World):List D->(Nat->Prop)->List Value->Prop
 | [],T,cs=>cs=[]
 | x::xs,T,cs=>∃ c1 c2,cs=c1++c2/\c1.length=x.sz/\D.rd W x T c1/\D.rds W xs T c2
end
variable {W W':World} {S T S' T':Nat->Prop} {v:Value} {e size n:Nat} {cs:List Value}
def fu (S:Nat->Prop) (W W':World):Prop:=∀ b,S b->W'.heap[b]?=W.heap[b]?
theorem fu.refl (S:Nat->Prop) (W:World):fu S W W:=λ_ _=>rfl
theorem fu.mono (h:fu S W W') (hs:∀ b,T b->S b):fu T W W':=λb hb=>h b (hs b hb)
theorem vW {base:Nat} (h:W.ownsRow base e size v n cs) (ha:∀ g,v.ownBlock=some g->W'.heap[g]?=W.heap[g]?):W'.ownsRow base e size v n cs:=by
 refine ⟨h.1,?_⟩
 rcases h.2 with hn | ⟨g,cap,cur,rfl,hb,hg,r⟩
 ·exact .inl hn
 ·exact .inr ⟨g,cap,cur,rfl,hb,(ha g rfl).trans hg,r⟩
theorem t9.agree (h:t9 W S v e size n cs) (ha:fu S W W'):t9 W' S v e size n cs:=
 ⟨vW h.1 λg hg=>ha g (h.2 g hg),h.2⟩
theorem t9.mono (h:t9 W S v e size n cs) (hs:∀ b,S b->T b):t9 W T v e size n cs:=⟨h.1,λg hg=>hs g (h.2 g hg)⟩
mutual
theorem D.own_agree:∀ {d:D} {S:Nat->Prop} {cs:List Value},D.own W d S cs->fu S W W'->D.own W' d S cs
 | .int _ _,_,_,h,_=>h
 | .bool _,_,_,h,_=>h
 | .str _,_,_,h,_=>h
 | .agg xs,_,_,h,ha=>D.owns_agree (xs:=xs) h ha
 | .row _ _ xs,_,_,⟨v,c,h1,h2,h3,S',h4,h5⟩,ha=>⟨v,c,h1,h2.agree ha,h3,S',h4,D.owns_agree h5 (ha.mono λb hb=>(h4 b hb).1)⟩
theorem D.owns_agree:∀ {xs:List D} {S:Nat->Prop} {cs:List Value},D.owns W xs S cs->fu S W W'->D.owns W' xs S cs
 | [],_,_,h,_=>h
 | x::xs,_,_,⟨S1,c1,c2,h1,h2,h3,h4,h5⟩,ha=>⟨S1,c1,c2,h1,h2,h3,D.own_agree h4 (ha.mono h3),D.owns_agree h5 (ha.mono λb hb=>hb.1)⟩
end
mutual
theorem D.own_mono:∀ {d:D} {S T:Nat->Prop} {cs:List Value},D.own W d S cs->(∀ b,S b->T b)->D.own W d T cs
 | .int _ _,_,_,_,h,_=>h
 | .bool _,_,_,_,h,_=>h
 | .str _,_,_,_,h,_=>h
 | .agg xs,_,_,_,h,ha=>D.owns_mono (xs:=xs) h ha
 | .row _ _ xs,_,_,_,⟨v,c,h1,h2,h3,S',h4,h5⟩,ha=>⟨v,c,h1,h2.mono ha,h3,S',λb hb=>⟨ha b (h4 b hb).1,(h4 b hb).2⟩,h5⟩
theorem D.owns_mono:∀ {xs:List D} {S T:Nat->Prop} {cs:List Value},D.owns W xs S cs->(∀ b,S b->T b)->D.owns W xs T cs
 | [],_,_,_,h,_=>h
 | x::xs,_,_,_,⟨S1,c1,c2,h1,h2,h3,h4,h5⟩,ha=>⟨S1,c1,c2,h1,h2,λb hb=>ha b (h3 b hb),h4,D.owns_mono h5 λb hb=>⟨ha b hb.1,hb.2⟩⟩
end
mutual
theorem D.own_length:∀ {d:D} {S:Nat->Prop} {cs:List Value},D.own W d S cs->cs.length=d.sz
 | .int _ _,_,_,h=>by simp only [D.own] at h; subst h; rfl
 | .bool _,_,_,h=>by simp only [D.own] at h; subst h; rfl
 | .str _,_,_,h=>by simp only [D.own] at h; subst h; rfl
 | .agg xs,_,_,h=>by simp only [D.sz]; exact D.owns_length (xs:=xs) h
 | .row _ _ xs,_,_,⟨v,c,h1,_⟩=>by subst h1; rfl
theorem D.owns_length:∀ {xs:List D} {S:Nat->Prop} {cs:List Value},D.owns W xs S cs->cs.length=D.szs xs
 | [],_,_,h=>by simp only [D.owns] at h; subst h; rfl
 | x::xs,_,_,⟨S1,c1,c2,h1,h2,h3,h4,h5⟩=>by subst h1; simp only [List.length_append,D.szs,h2,D.owns_length h5]
end
mutual
theorem D.rd_agree:∀ {d:D} {T:Nat->Prop} {cs:List Value},D.rd W d T cs->fu T W W'->D.rd W' d T cs
 | .int _ _,_,_,h,_=>h
 | .bool _,_,_,h,_=>h
 | .str _,_,_,h,_=>h
 | .agg xs,_,_,h,ha=>D.rds_agree (xs:=xs) h ha
 | .row _ _ xs,T,_,⟨A,cap,c,h1,h2,h3,h4,h5,h6⟩,ha=>⟨A,cap,c,h1,h2,h3,h4,λhne=>by
   obtain ⟨ad,e1,e2,e3⟩:=h5 hne
   exact ⟨ad,e1,e2,λj u hj=>by
    have hb:(ad.add j).block=ad.block:=by unfold Addr.add; split <;> rfl
    rw [World.cell?_of_block (w:=W) (w':=W') (by rw [hb]; exact ha _ e2)]
    exact e3 j u hj⟩,D.rds_agree h6 ha⟩
theorem D.rds_agree:∀ {xs:List D} {T:Nat->Prop} {cs:List Value},D.rds W xs T cs->fu T W W'->D.rds W' xs T cs
 | [],_,_,h,_=>h
 | x::xs,_,_,⟨c1,c2,h1,h2,h4,h5⟩,ha=>⟨c1,c2,h1,h2,D.rd_agree h4 ha,D.rds_agree h5 ha⟩
end
mutual
theorem D.rd_mono:∀ {d:D} {T T':Nat->Prop} {cs:List Value},D.rd W d T cs->(∀ b,T b->T' b)->D.rd W d T' cs
 | .int _ _,_,_,_,h,_=>h
 | .bool _,_,_,_,h,_=>h
 | .str _,_,_,_,h,_=>h
 | .agg xs,_,_,_,h,ha=>D.rds_mono (xs:=xs) h ha
 | .row _ _ xs,T,_,_,⟨A,cap,c,h1,h2,h3,h4,h5,h6⟩,ha=>⟨A,cap,c,h1,h2,h3,h4,λhne=>by
   obtain ⟨ad,e1,e2,e3⟩:=h5 hne
   exact ⟨ad,e1,ha _ e2,e3⟩,D.rds_mono h6 ha⟩
theorem D.rds_mono:∀ {xs:List D} {T T':Nat->Prop} {cs:List Value},D.rds W xs T cs->(∀ b,T b->T' b)->D.rds W xs T' cs
 | [],_,_,_,h,_=>h
 | x::xs,_,_,_,⟨c1,c2,h1,h2,h4,h5⟩,ha=>⟨c1,c2,h1,h2,D.rd_mono h4 ha,D.rds_mono h5 ha⟩
end
theorem we:∀ {xs:List D} {size:Nat},(∀ x∈xs,x.sz=size)->D.szs xs=xs.length*size
 | [],_,_=>by simp [D.szs]
 | x::xs,size,h=>by
  simp only [D.szs,List.length_cons,Nat.add_mul,Nat.one_mul]
  rw [h x (by simp),we λy hy=>h y (by simp [hy])]
  omega
mutual
theorem D.own_rd:∀ {d:D} {S:Nat->Prop} {cs:List Value},D.own W d S cs->D.rd W d S cs
 | .int _ _,_,_,h=>h
 | .bool _,_,_,h=>h
 | .str _,_,_,h=>h
 | .agg xs,_,_,h=>D.owns_rds (xs:=xs) h
 | .row e size xs,S,_,⟨v,c,h1,h2,h3,S',h4,h5⟩=>by
  obtain ⟨⟨hl,hr⟩,hS⟩:=h2
  rcases hr with ⟨rfl,h0⟩ | ⟨g,cap,cur,rfl,_,hg,hnc,hcm,hcs,htake⟩
  ·have hx:xs=[]:=List.eq_nil_of_length_eq_zero h0
   subst hx
   exact ⟨none,0,c,h1,Nat.le_refl _,by simp [maxLen],h3,λhne=>absurd rfl hne,D.rds_mono (D.owns_rds h5) λb hb=>(h4 b hb).1⟩
  ·refine ⟨some ⟨g,0,none⟩,cap,c,h1,hnc,Nat.le_trans hnc hcm,h3,λhne=>⟨_,rfl,hS g rfl,λj u hj=>?_⟩,D.rds_mono (D.owns_rds h5) λb hb=>(h4 b hb).1⟩
   have hadd:(⟨g,0,none⟩:Addr).add j=⟨g,j,none⟩:=by unfold Addr.add; split <;> simp_all
   rw [hadd,cell_of_row W g j cur e (0,0) hg]
   rw [<-htake,List.getElem?_take] at hj
   split at hj
   ·simpa using hj
   ·cases hj
theorem D.owns_rds:∀ {xs:List D} {S:Nat->Prop} {cs:List Value},D.owns W xs S cs->D.rds W xs S cs
 | [],_,_,h=>h
 | x::xs,S,_,⟨S1,c1,c2,h1,h2,h3,h4,h5⟩=>⟨c1,c2,h1,h2,D.rd_mono (D.own_rd h4) h3,D.rds_mono (D.owns_rds h5) λb hb=>hb.1⟩
end
structure dL (M:Nat->Prop) (w W:World):Prop where
 os:W.os=w.os
 tape:W.tape=w.tape
 output:W.output=w.output
 size:w.heap.size<=W.heap.size
 block:∀ b,b<w.heap.size->¬ M b->W.heap[b]?=w.heap[b]?
variable {M M':Nat->Prop} {w w0 W1 W2:World}
theorem dL.refl (M:Nat->Prop) (w:World):dL M w w:=⟨rfl,rfl,rfl,Nat.le_refl _,λ_ _ _=>rfl⟩
theorem dL.trans (h:dL M w W1) (k:dL M' W1 W2) (hM:∀ b,b<w.heap.size->M' b->M b):dL M w W2:=
 ⟨k.os.trans h.os,k.tape.trans h.tape,k.output.trans h.output,Nat.le_trans h.size k.size,λb hb hn=>(k.block b (Nat.lt_of_lt_of_le hb h.size) λhm=>hn (hM b hb hm)).trans (h.block b hb hn)⟩
theorem dL.of_grown {row:Option Nat} (h:w.grownBy W row) (hr:∀ b,row=some b->M b):dL M w W:=
 ⟨h.os,h.tape,h.output,h.size,λb hb hn=>h.block b hb λe=>hn (hr b e.symm)⟩
theorem dL.drewN (M:Nat->Prop) (w:World) (m:Nat):dL M w { w with drawn:=m }:=⟨rfl,rfl,rfl,Nat.le_refl _,λ_ _ _=>rfl⟩
def uP (W:World) (v:Value) (e size:Nat) (xs:List D) (i:Nat) (cs:List Value) (S:Nat->Prop):Prop:=
 ∃ c1 c2,t9 W S v e size xs.length (c1++(cs++c2))/\c1.length=i*size/\cs.length=size/\i<xs.length/\(∀ x∈xs,x.sz=size) /\
  ∃ S',(∀ b,S' b->S b/\v.ownBlock≠some b)/\D.owns W (xs.take i++xs.drop (i+1)) S' (c1++c2)
theorem uP.agree {xs:List D} {i:Nat} (h:uP W v e size xs i cs S) (ha:fu S W W'):uP W' v e size xs i cs S:=by
 obtain ⟨c1,c2,h1,h2,h3,h4,h5,S',h7,h8⟩:=h
 exact ⟨c1,c2,h1.agree ha,h2,h3,h4,h5,S',h7,D.owns_agree h8 (ha.mono λb hb=>(h7 b hb).1)⟩
theorem uP.mono {xs:List D} {i:Nat} (h:uP W v e size xs i cs S) (hs:∀ b,S b->T b):uP W v e size xs i cs T:=by
 obtain ⟨c1,c2,h1,h2,h3,h4,h5,S',h7,h8⟩:=h
 exact ⟨c1,c2,h1.mono hs,h2,h3,h4,h5,S',λb hb=>⟨hs b (h7 b hb).1,(h7 b hb).2⟩,h8⟩
inductive Ent where
 | row (v:Value) (e size:Nat) (xs:List D)
 | box (g:Nat) (t:TypeId) (cs:List Value)
 | hole (v:Value) (e size:Nat) (xs:List D) (i:Nat) (cs:List Value)
 | dat (ds:List D) (cs:List Value)
 | any (P:World->(Nat->Prop)->Prop) (ha:∀ {W W':World} {S:Nat->Prop},P W S->fu S W W'->P W' S) (hm:∀ {W:World} {S T:Nat->Prop},P W S->(∀ b,S b->T b)->P W T)
def Ent.holds (W:World):Ent->(Nat->Prop)->Prop
 | .row v e size xs,S=>D.own W (.row e size xs) S [v]
 | .box g t cs,S=>S g/\W.heap[g]?=some (.cells cs.toArray t (0,0))
 | .hole v e size xs i cs,S=>uP W v e size xs i cs S
 | .dat ds cs,S=>D.owns W ds S cs
 | .any P _ _,S=>P W S
theorem Ent.holds_agree {x:Ent} (h:x.holds W S) (ha:fu S W W'):x.holds W' S:=by
 cases x with
 | row v e size xs=>exact D.own_agree (d:=.row e size xs) h ha
 | box g t cs=>exact ⟨h.1,(ha g h.1).trans h.2⟩
 | hole v e size xs i cs=>exact uP.agree h ha
 | dat ds cs=>exact D.owns_agree (xs:=ds) h ha
 | any P h1 h2=>exact h1 h ha
def bw (W:World):List Ent->(Nat->Prop)->Prop
 | [],_=>True
 | x::L,Ok=>∃ S,(∀ b,S b->Ok b)/\x.holds W S/\bw W L (λb=>Ok b/\¬ S b)
variable {L L':List Ent} {Ok Ok':Nat->Prop} {x y:Ent}
theorem bw.agree:∀ {L:List Ent} {Ok:Nat->Prop},bw W L Ok->fu Ok W W'->bw W' L Ok
 | [],_,_,_=>trivial
 | x::L,Ok,⟨S,h1,h2,h3⟩,ha=>⟨S,h1,x.holds_agree h2 (ha.mono h1),bw.agree h3 (ha.mono λb hb=>hb.1)⟩
theorem bw.mono:∀ {L:List Ent} {Ok Ok':Nat->Prop},bw W L Ok->(∀ b,Ok b->Ok' b)->bw W L Ok'
 | [],_,_,_,_=>trivial
 | x::L,Ok,Ok',⟨S,h1,h2,h3⟩,hs=>⟨S,λb hb=>hs b (h1 b hb),h2,bw.mono h3 λb hb=>⟨hs b hb.1,hb.2⟩⟩
theorem bw.swap (h:bw W (x::y::L) Ok):bw W (y::x::L) Ok:=by
 obtain ⟨S,h1,h2,S',h3,h4,h5⟩:=h
 exact ⟨S',λb hb=>(h3 b hb).1,h4,S,λb hb=>⟨h1 b hb,λhb'=>(h3 b hb').2 hb⟩,h2,h5.mono λb hb=>⟨⟨hb.1.1,hb.2⟩,hb.1.2⟩⟩
theorem bw.pull:∀ {i:Nat} {L:List Ent} {Ok:Nat->Prop},bw W L Ok->L[i]?=some x->bw W (x::L.eraseIdx i) Ok
 | _,[],_,_,hi=>by simp at hi
 | 0,y::L,_,h,hi=>by
  have:y=x:=by simpa using hi
  subst this
  exact h
 | i+1,y::L,_,⟨S,h1,h2,h3⟩,hi=>bw.swap ⟨S,h1,h2,bw.pull (i:=i) h3 (by simpa using hi)⟩
theorem bw.append:∀ {L L':List Ent} {Ok Ok':Nat->Prop},bw W L Ok->bw W L' Ok'->(∀ b,Ok b->¬ Ok' b)->bw W (L++L') (λb=>Ok b\/Ok' b)
 | [],_,_,_,_,h,_=>h.mono λb hb=>.inr hb
 | x::L,L',Ok,Ok',⟨S,h1,h2,h3⟩,h,hd=>⟨S,λb hb=>.inl (h1 b hb),h2,(bw.append h3 h λb hb=>hd b hb.1).mono λb hb=>by
   rcases hb with hb | hb
   ·exact ⟨.inl hb.1,hb.2⟩
   ·exact ⟨.inr hb,λhs=>hd b (h1 b hs) hb⟩⟩
def OkS (M:Nat->Prop) (w0 W:World) (b:Nat):Prop:=(w0.heap.size<=b\/M b)/\b<W.heap.size
structure Sep (M:Nat->Prop) (w0 W:World) (L:List Ent):Prop where
 frame:dL M w0 W
 own:bw W L (OkS M w0 W)
theorem Sep.start (w:World):Sep (λ_=>False) w w []:=⟨.refl _ _,trivial⟩
theorem Sep.pull {i:Nat} (h:Sep M w0 W L) (hi:L[i]?=some x):Sep M w0 W (x::L.eraseIdx i):=⟨h.frame,h.own.pull hi⟩
theorem Sep.drop (h:Sep M w0 W (x::L)):Sep M w0 W L:=⟨h.frame,let ⟨_,_,_,r⟩:=h.own; r.mono λb hb=>hb.1⟩
theorem Sep.swap (h:Sep M w0 W (x::y::L)):Sep M w0 W (y::x::L):=⟨h.frame,h.own.swap⟩
theorem Sep.turn {W':World} {L':List Ent} (h:Sep M w0 W (x::L)) (k:∀ S,(∀ b,S b->OkS M w0 W b)->x.holds W S->dL S W W'/\bw W' L' (λb=>S b\/(W.heap.size<=b/\b<W'.heap.size))):Sep M w0 W' (L'++L):=by
 obtain ⟨S,h1,h2,h3⟩:=h.own
 obtain ⟨k1,k2⟩:=k S h1 h2
 refine ⟨h.frame.trans k1 λb hb hs=>?_,?_⟩
 ·rcases (h1 b hs).1 with h4 | h4
  ·omega
  ·exact h4
 ·have h4:bw W' L (λb=>OkS M w0 W b/\¬ S b):=h3.agree λb hb=>k1.block b hb.1.2 hb.2
  refine (bw.append k2 h4 λb hb hb'=>?_).mono λb hb=>?_
  ·rcases hb with hb | hb
   ·exact hb'.2 hb
   ·have:=hb'.1.2; omega
  ·rcases hb with (hb | hb) | hb
   ·exact ⟨(h1 b hb).1,Nat.lt_of_lt_of_le (h1 b hb).2 k1.size⟩
   ·exact ⟨.inl (Nat.le_trans h.frame.size hb.1),hb.2⟩
   ·exact ⟨hb.1.1,Nat.lt_of_lt_of_le hb.1.2 k1.size⟩
theorem Sep.new {W':World} {L':List Ent} (h:Sep M w0 W L) (k1:dL (λ_=>False) W W') (k2:bw W' L' (λb=>W.heap.size<=b/\b<W'.heap.size)):Sep M w0 W' (L'++L):=by
 refine ⟨h.frame.trans k1 λb hb hs=>hs.elim,?_⟩
 have h4:bw W' L (OkS M w0 W):=h.own.agree λb hb=>k1.block b hb.2 id
 refine (bw.append k2 h4 λb hb hb'=>?_).mono λb hb=>?_
 ·have:=hb'.2; omega
 ·rcases hb with hb | hb
  ·exact ⟨.inl (Nat.le_trans h.frame.size hb.1),hb.2⟩
  ·exact ⟨hb.1,Nat.lt_of_lt_of_le hb.2 k1.size⟩
theorem Sep.drewN (h:Sep M w0 W L) (m:Nat):Sep M w0 { W with drawn:=m } L:=by
 have:=h.new (L':=[]) (dL.drewN _ W m) trivial
 simpa using this
end
noncomputable section
variable {P:Program} {n:Nat} {ops:Array Oper} {o:Oper} {rest:List Oper} {E E':Env} {W W' w0:World} {a:Act} {v u:Value} {K:Env->World->Prop} {M:Nat->Prop} {L:List Ent}
def eg (P:Program) (n:Nat) (E:Env) (o:Oper) (W:World) (v:Value) (W':World):Prop:=∀ a,hU n E a->(execOp a.eval o).run P W=.ok (.value v) W'
theorem OpW.runs (h:eg P n E o W v W') (hg:o.guard=none) (hd:okD n o.dst=true) (k:K (put E o.dst v) W'):OpW P n ops o E W K:=.val hg hd h k
theorem RG.r (h:eg P n E o W v W) (k:RG P n ops rest (put E o.dst v) W K) (hg:o.guard=none:=by exact rfl) (hd:okD n o.dst=true:=by exact rfl):RG P n ops (o::rest) E W K:=.c (.val hg hd h k)
def nth? {α:Type}:List α->Nat->Option α
 | [],_=>none
 | x::_,0=>some x
 | _::r,i+1=>nth? r i
theorem nth?_eq {α:Type}:∀ (l:List α) (i:Nat),nth? l i=l[i]?
 | [],_=>by simp [nth?]
 | x::r,0=>by simp [nth?]
 | x::r,i+1=>by simp [nth?,nth?_eq r i]
def C1:Bool->Bool->Bool
 | true,b=>b
 | false,true=>false
 | false,false=>true
def gd (l:List Oper) (E:Env):Option (Nat×Bool)->Option Bool
 | none=>some true
 | some (j,b)=>match nth? l j with
  | some o=>match o.dst with
   | some d=>match f5 E d with
    | some (.bool c)=>some (C1 c b)
    | _=>none
   | none=>none
  | none=>none
theorem hU.bool {d:Nat} {b c:Bool} (h:hU n E a) (hv:f5 E d=some (.bool b)) (e:b=c):hU n ((d,.bool c)::E) a:=by
 subst e
 refine ⟨h.d,h.s,λi u hi=>?_⟩
 simp only [f5] at hi
 by_cases e:d=i
 ·subst e
  rw [Nat.beq_refl] at hi
  injection hi with hi
  subst hi
  exact h.h d _ hv
 ·have:Nat.beq d i=false:=by
   cases hb:Nat.beq d i
   ·rfl
   ·exact absurd (Nat.eq_of_beq_eq_true hb) e
  rw [this] at hi
  exact h.h i u hi
def wE:TypeDesc->Bool
 | .struct _ | .array _ _=>true
 | _=>false
def aX (P:Program) (t:TypeId):Option (Bool×Option Value×Nat×Nat):=
 match P.info? t,P.underlying t with
 | some i,some d=>some (wE d,i.zero,i.size,i.bytes)
 | _,_=>none
theorem mc {t:TypeId} {ag:Bool} {z:Option Value} {size bytes:Nat} (h:aX P t=some (ag,z,size,bytes)) :
  ∃ i d,P.info? t=some i/\P.underlying t=some d/\wE d=ag/\i.zero=z/\i.size=size/\i.bytes=bytes:=by
 unfold aX at h
 split at h
 ·rename_i i d hi hd
  injection h with h
  simp only [Prod.mk.injEq] at h
  exact ⟨i,d,hi,hd,h.1,h.2.1,h.2.2.1,h.2.2.2⟩
 ·cases h
theorem sO {t:TypeId} {d:TypeDesc} (h:P.underlying t=some d):(isAgg t).run P W=.ok (wE d) W:=by
 unfold isAgg
 rw [Sem.run_bind,run_underlying h W]
 cases d <;> simp [wE]
variable {t e:TypeId} {ag:Bool} {z:Option Value} {size bytes:Nat}
theorem dQ (h:aX P t=some (ag,z,size,bytes)):(sizeOf t).run P W=.ok size W:=by
 obtain ⟨i,d,h1,h2,h3,h4,h5,h6⟩:=mc h
 simp [sizeOf,typeInfo,h1,h5]
theorem qM {zv:Value} (h:aX P t=some (ag,some zv,size,bytes)):(zeroValue t).run P W=.ok zv W:=by
 obtain ⟨i,d,h1,h2,h3,h4,h5,h6⟩:=mc h
 simp [zeroValue,typeInfo,h1,h4]
def df (ag:Bool) (cs:List Value):Value:=match ag,cs with
 | false,[v]=>v
 | _,cs=>.agg cs.toArray
theorem nL {ad:Addr} {cs:List Value} (h:aX P t=some (ag,z,size,bytes)) (hl:cs.length=size) (h1:ag=false->size=1)
  (hc:∀ j u,cs[j]?=some u->W.cell? (ad.add j)=some u):(loadVar t ad).run P W=.ok (df ag cs) W:=by
 obtain ⟨i,d,hi,hd,e1,e2,e3,e4⟩:=mc h
 cases ag with
 | true =>
  have:=run_loadCells_list (P:=P) W ad cs hc
  rw [hl] at this
  have hagg:(isAgg t).run P W=.ok true W:=by rw [sO hd,e1]
  simp only [loadVar,Sem.run_bind,hagg,dQ h,Result.andThen_ok,if_true,this]
  rfl
 | false =>
  have hs:=h1 rfl
  subst hs
  match cs,hl with
  | [x],_ =>
   have hagg:(isAgg t).run P W=.ok false W:=by rw [sO hd,e1]
   have h0:=hc 0 x rfl
   simp only [Addr.add,if_true] at h0
   simp only [loadVar,Sem.run_bind,hagg,Result.andThen_ok,Bool.false_eq_true,if_false,run_load,h0]
   rfl
theorem oE {g j:Nat} {cur:Array Value} {te:TypeId} (h:aX P t=some (ag,z,size,bytes)) (hg:W.heap[g]?=some (.cells cur te (0,0))) (hl:v.cells.size=size)
  (h1:v.cells.toList.all (·.oneCell')=true) (hf:j+size<=cur.size):(storeVar t ⟨g,j,none⟩ v).run P W=.ok () (W.setRow g (splice cur.toList j v.cells.toList).toArray):=by
 have hst:=run_storeCells_at (P:=P) g j te v.cells.toList 0 cur W hg (by simp; omega) (λx hx=>List.all_eq_true.1 h1 x hx)
 simp only [Nat.add_zero] at hst
 simp only [storeVar,Sem.run_bind,dQ h,Result.andThen_ok,hl,ne_eq,not_true,if_false,hst,splice,List.append_assoc]
theorem jF {g:Nat} {cs:Array Value}:dL (λb=>b=g) W (W.setRow g cs):=by
 refine ⟨rfl,rfl,rfl,by simp [World.setRow],λb hb hn=>?_⟩
 simp only [World.setRow,Array.getElem?_modify]
 rw [if_neg (λe=>hn e.symm)]
theorem eH {x:Obj}:dL (λ_=>False) W (W.alloc x):=⟨rfl,rfl,rfl,by simp,λb hb _=>heap_alloc_old W x b hb⟩
theorem Sep.box (h:Sep M w0 W L) (t:TypeId) (cs:List Value):Sep M w0 (W.alloc (.cells cs.toArray t)) (.box W.heap.size t cs::L):=
 h.new (L':=[.box W.heap.size t cs]) eH ⟨λb=>b=W.heap.size,λb hb=>by subst hb; simp,⟨rfl,heap_alloc_new W _⟩,trivial⟩
theorem OpW.alloc {zv:Value} (ht:aX P t=some (ag,some zv,size,bytes)) (hS:Sep M w0 W L)
  (k:∀ g W',Sep M w0 W' (.box g t zv.cells.toList::L)->K (put E o.dst (Pt g)) W') (ho:o.op=.alloc t:=by exact rfl) (hg:o.guard=none:=by exact rfl) (hd:okD n o.dst=true:=by exact rfl):OpW P n ops o E W K:=by
 refine .runs (W':=W.alloc (.cells zv.cells t)) (v:=.pointer (some ⟨W.heap.size,0,none⟩)) (λa ha=>?_) hg hd (k W.heap.size _ (by simpa using hS.box t zv.cells.toList))
 unfold execOp
 simp only [ho,Instr.alloc,Sem.run_bind,qM ht,Result.andThen_ok]
 simp [newVar,newRow]
theorem OpW.box {x:Operand} {y:Value} (hS:Sep M w0 W L) (ho:o.op=.box t x) (hx:ev E x=some y)
  (k:∀ g W',Sep M w0 W' (.box g t y.cells.toList::L)->K (put E o.dst (Pt g)) W') (hg:o.guard=none:=by exact rfl) (hd:okD n o.dst=true:=by exact rfl):OpW P n ops o E W K:=by
 refine .runs (W':=W.alloc (.cells y.cells t)) (v:=.pointer (some ⟨W.heap.size,0,none⟩)) (λa ha=>?_) hg hd (k W.heap.size _ (by simpa using hS.box t y.cells.toList))
 unfold execOp
 simp [ho,Instr.box,newVar,newRow,ha.ev hx]
theorem Sep.box_cells {g:Nat} {cs:List Value} (h:Sep M w0 W (.box g t cs::L)):W.heap[g]?=some (.cells cs.toArray t (0,0)):=by
 obtain ⟨S,_,h2,_⟩:=h.own
 exact h2.2
def seg (cs:List Value) (j m:Nat):List Value:=(cs.drop j).take m
theorem ld {g j:Nat} {cs:List Value} {x:Operand} {te:TypeId} (ht:aX P t=some (ag,z,size,bytes)) (hS:Sep M w0 W (.box g te cs::L)) (ho:o.op=.load t x) (hx:ev E x=some (.pointer (some ⟨g,j,none⟩)))
  (hv:df ag (seg cs j size)=v) (hl:(seg cs j size).length=size) (h2:(ag||Nat.beq size 1)=true):eg P n E o W v W:=by
 intro a ha
 have hb:=hS.box_cells
 have hr:=nL (P:=P) (W:=W) (ad:=⟨g,j,none⟩) (cs:=seg cs j size) ht hl (λe=>by subst e; simpa using h2) (λi u hu=>by
  have hadd:(⟨g,j,none⟩:Addr).add i=⟨g,j+i,none⟩:=by unfold Addr.add; split <;> simp_all
  rw [hadd,cell_of_row W g (j+i) _ te (0,0) hb]
  simp only [seg,List.getElem?_take,List.getElem?_drop] at hu
  split at hu
  ·simpa using hu
  ·cases hu)
 unfold execOp
 simp only [ho,ha.ev hx,Instr.loadAt,Instr.sureAddr,Sem.run_bind,Sem.run_pure,Result.andThen_ok,hr,hv]
theorem OpW.st {g j:Nat} {cs:List Value} {x y:Operand} {te:TypeId} (ht:aX P t=some (ag,z,size,bytes)) (hS:Sep M w0 W (.box g te cs::L)) (ho:o.op=.store t x y) (hx:ev E x=some (.pointer (some ⟨g,j,none⟩)))
  (hy:ev E y=some v) (k:∀ W',Sep M w0 W' (.box g te (splice cs j v.cells.toList)::L)->K E W')
  (hl:v.cells.size=size:=by exact rfl) (h1:v.cells.toList.all (·.oneCell')=true:=by exact rfl) (hf:Nat.ble (j+size) cs.length=true:=by exact rfl) (hg:o.guard=none:=by exact rfl) (hd:o.dst=none:=by exact rfl):OpW P n ops o E W K:=by
 have hb:=hS.box_cells
 refine .skip hg hd (W':=W.setRow g (splice cs j v.cells.toList).toArray) (λa ha=>?_) (k _ ?_)
 ·have hr:=oE (P:=P) (v:=v) (j:=j) ht hb hl h1 (by simpa using Nat.le_of_ble_eq_true hf)
  unfold execOp
  simp only [ho,ha.ev hx,ha.ev hy,Instr.storeAt,Instr.sureAddr,Sem.run_bind,Sem.run_pure,Result.andThen_ok,hr]
 ·exact hS.turn (L':=[.box g te (splice cs j v.cells.toList)]) λS hS1 hh=>⟨⟨rfl,rfl,rfl,jF.size,λb hb hn=>jF.block b hb λe=>hn (e▸hh.1)⟩,
   S,λb hb'=>.inl hb',⟨hh.1,setRow_heap W g _ _ te (0,0) hh.2⟩,trivial⟩
def kg (P:Program) (t f:Nat):Option (Nat×Nat×Bool):=match P.underlying t with
 | some (.struct fs)=>match fs[f]? with
  | some fl=>match aX P fl.type with
   | some (ag,_,size,_)=>some (fl.offset,size,ag)
   | none=>none
  | none=>none
 | _=>none
theorem zx {f off:Nat} (h:kg P t f=some (off,size,ag)):∃ fs fl,P.underlying t=some (.struct fs)/\fs[f]?=some fl/\fl.offset=off/\∃ z bytes,aX P fl.type=some (ag,z,size,bytes):=by
 unfold kg at h
 split at h <;> try contradiction
 rename_i fs hfs
 split at h <;> try contradiction
 rename_i fl hfl
 split at h <;> try contradiction
 rename_i ag' z' s' b' hi
 injection h with h
 simp only [Prod.mk.injEq] at h
 obtain ⟨rfl,rfl,rfl⟩:=h
 exact ⟨fs,fl,hfs,hfl,rfl,z',b',hi⟩
theorem ua {f off:Nat} {ad:Addr} (h:kg P t f=some (off,size,ag)) (hs:Nat.beq size 0=false):(Instr.fieldAt t (.pointer (some ad)) f).run P W=.ok (.pointer (some (ad.add off))) W:=by
 obtain ⟨fs,fl,h1,h2,h3,z,b,h4⟩:=zx h
 have hs':size≠0:=by rintro rfl; simp at hs
 simp [Instr.fieldAt,run_underlying h1,h2,Instr.sureAddr,fieldPlace,dQ h4,hs',h3]
theorem fa {f off g j:Nat} {x:Operand} (h:kg P t f=some (off,size,ag)) (ho:o.op=.fieldAddr t x f) (hx:ev E x=some (.pointer (some ⟨g,j,none⟩))) (hs:Nat.beq size 0=false) :
  eg P n E o W (.pointer (some ⟨g,j+off,none⟩)) W:=by
 intro a ha
 have hadd:(⟨g,j,none⟩:Addr).add off=⟨g,j+off,none⟩:=by unfold Addr.add; split <;> simp_all
 unfold execOp
 simp only [ho,ha.ev hx,Sem.run_bind,ua h hs,Result.andThen_ok,hadd]
 rfl
def bP (A:Option Addr) (k:Nat):Addr:=(A.getD ⟨0,0,none⟩).add k
theorem Addr.add_add (ad:Addr) (i j:Nat):(ad.add i).add j=ad.add (i+j):=by
 unfold Addr.add
 by_cases h1:i=0 <;> by_cases h2:j=0 <;> simp [h1,h2,Nat.add_assoc]
theorem fe {f off k j:Nat} {A:Option Addr} {x:Operand} (h:kg P t f=some (off,size,ag)) (ho:o.op=.fieldAddr t x f) (hx:ev E x=some (.pointer (some (bP A (k+j))))) (hs:Nat.beq size 0=false) :
  eg P n E o W (.pointer (some (bP A (k+(j+off))))) W:=by
 intro a ha
 have hadd:(bP A (k+j)).add off=bP A (k+(j+off)):=by unfold bP; rw [Addr.add_add,Nat.add_assoc]
 unfold execOp
 simp only [ho,ha.ev hx,Sem.run_bind,ua h hs,Result.andThen_ok,hadd]
 rfl
end
noncomputable section
variable {P:Program} {n:Nat} {ops:Array Oper} {o:Oper} {rest:List Oper} {E E':Env} {W W' w0:World} {a:Act} {v u:Value} {K:Env->World->Prop} {M T:Nat->Prop} {L:List Ent}
variable {t e:TypeId} {ag:Bool} {z:Option Value} {size bytes:Nat} {A:Option Addr} {m c:Nat} {α:Type} {enc:α->D} {l:List α} {i:Int} {x:α}
def nth (l:List α) (i:Int):Option α:=if i<0 then none else l[i.toNat]?
theorem jd (h:nth l i=some x):0<=i/\i.toNat<l.length/\l[i.toNat]?=some x:=by
 unfold nth at h
 split at h
 ·cases h
 ·refine ⟨by omega,?_,h⟩
  rcases Nat.lt_or_ge i.toNat l.length with h1 | h1
  ·exact h1
  ·rw [List.getElem?_eq_none h1] at h; cases h
def yR (bytes n:Nat):Bool:=Nat.ble (n*bytes) 140737488355328
def app (bytes:Nat) (l m:List α):Option (List α):=match yR bytes (l.length+m.length) with
 | true=>some (l++m)
 | false=>none
theorem pm {m r:List α} (h:app bytes l m=some r):r=l++m/\(l.length+m.length)*bytes<=140737488355328:=by
 unfold app at h
 split at h
 ·rename_i hr
  injection h with h
  exact ⟨h.symm,Nat.le_of_ble_eq_true hr⟩
 ·cases h
def mk (bytes:Nat) (n:Int) (z:α):Option (List α):=if n<0 then none else match Nat.ble (n.toNat*bytes) 281474976710656 with
 | true=>some (List.replicate n.toNat z)
 | false=>none
theorem BA {n:Int} {z:α} {r:List α} (h:mk bytes n z=some r):r=List.replicate n.toNat z/\0<=n/\n.toNat*bytes<=281474976710656:=by
 unfold mk at h
 split at h
 ·cases h
 ·split at h
  ·rename_i h1 hr
   injection h with h
   exact ⟨h.symm,by omega,Nat.le_of_ble_eq_true hr⟩
  ·cases h
def cut (l:List α) (lo hi:Int):Option (List α):=if 0<=lo/\lo<=hi/\hi<=l.length then some ((l.take hi.toNat).drop lo.toNat) else none
theorem rO {lo hi:Int} {r:List α} (h:cut l lo hi=some r):r=(l.take hi.toNat).drop lo.toNat/\0<=lo/\lo<=hi/\hi<=l.length:=by
 unfold cut at h
 split at h
 ·rename_i h1
  injection h with h
  exact ⟨h.symm,h1⟩
 ·cases h
def upd (l:List α) (i:Int) (x:α):Option (List α):=if 0<=i/\i<l.length then some (l.set i.toNat x) else none
theorem xg {r:List α} (h:upd l i x=some r):r=l.set i.toNat x/\0<=i/\i.toNat<l.length:=by
 unfold upd at h
 split at h
 ·rename_i h1
  injection h with h
  exact ⟨h.symm,h1.1,by omega⟩
 ·cases h
abbrev Rd (W:World) (T:Nat->Prop) (A:Option Addr) (c:Nat) (e size:Nat) (enc:α->D) (l:List α):Prop:=D.rd W (.row e size (l.map enc)) T [.slice A l.length c]
theorem uH:∀ {xs:List D} {cs:List Value} {i:Nat} {x:D},D.rds W xs T cs->(∀ x∈xs,x.sz=size)->xs[i]?=some x->∃ ci,D.rd W x T ci/\ci.length=size/\∀ j u,ci[j]?=some u->cs[i*size+j]?=some u
 | [],_,i,_,_,_,hi=>by simp at hi
 | y::xs,cs,0,x,⟨c1,c2,h1,h2,h3,h4⟩,hs,hi=>by
  have:y=x:=by simpa using hi
  subst this
  have h5:=hs y (by simp)
  refine ⟨c1,h3,by omega,λj u hj=>?_⟩
  have hlt:j<c1.length:=by
   rcases Nat.lt_or_ge j c1.length with h | h
   ·exact h
   ·rw [List.getElem?_eq_none h] at hj; cases hj
  rw [h1,Nat.zero_mul,Nat.zero_add,List.getElem?_append_left hlt]
  exact hj
 | y::xs,cs,i+1,x,⟨c1,c2,h1,h2,h3,h4⟩,hs,hi=>by
  obtain ⟨ci,k1,k2,k3⟩:=uH (i:=i) h4 (λz hz=>hs z (by simp [hz])) (by simpa using hi)
  refine ⟨ci,k1,k2,λj u hj=>?_⟩
  have h5:=hs y (by simp)
  have:(i+1)*size+j=c1.length+(i*size+j):=by rw [h2,h5,Nat.add_mul]; omega
  rw [h1,this,List.getElem?_append_right (by omega)]
  simpa using k3 j u hj
theorem Rd.elt (h:Rd W T A c e size enc l) (hx:nth l i=some x):∃ cs,D.rd W (enc x) T cs/\cs.length=size/\∀ j u,cs[j]?=some u->W.cell? (bP A (i.toNat*size+j))=some u:=by
 obtain ⟨h0,h1,h2⟩:=jd hx
 obtain ⟨A',cap,cs,e1,e2,e3,e4,e5,e6⟩:=h
 simp only [List.cons.injEq,and_true,Value.slice.injEq] at e1
 obtain ⟨rfl,_,rfl⟩:=e1
 obtain ⟨ci,k1,k2,k3⟩:=uH (i:=i.toNat) (x:=enc x) e6 e4 (by simp [h2])
 have hne:l.map enc≠[]:=by intro hn; rw [List.map_eq_nil_iff] at hn; subst hn; simp at h1
 obtain ⟨ad,rfl,_,f2⟩:=e5 hne
 exact ⟨ci,k1,k2,λj u hj=>f2 _ _ (k3 j u hj)⟩
theorem Rd.some (h:Rd W T A c e size enc l) (hx:nth l i=some x):∃ ad,A=some ad:=by
 obtain ⟨h0,h1,h2⟩:=jd hx
 obtain ⟨A',cap,cs,e1,e2,e3,e4,e5,e6⟩:=h
 simp only [List.cons.injEq,and_true,Value.slice.injEq] at e1
 obtain ⟨rfl,_,rfl⟩:=e1
 have hne:l.map enc≠[]:=by intro hn; rw [List.map_eq_nil_iff] at hn; subst hn; simp at h1
 obtain ⟨ad,rfl,_⟩:=e5 hne
 exact ⟨ad,rfl⟩
theorem ix {k:IntKind} {p q:Operand} (hr:Rd W' T A c e size enc l) (hx:nth l i=some x) (hu:P.underlying t=some (.slice e)) (ht:aX P e=some (ag,z,size,bytes)) (ho:o.op=.indexAddr t p q)
  (hp:ev E p=some (.slice A l.length c)) (hq:ev E q=some (.int k i)):eg P n E o W (.pointer (some (bP A (i.toNat*size+0)))) W:=by
 intro a ha
 obtain ⟨h0,h1,h2⟩:=jd hx
 obtain ⟨ad,rfl⟩:=hr.some hx
 unfold execOp
 simp only [ho,ha.ev hp,ha.ev hq,Sem.run_bind,Instr.indexAt,asIntOf,Sem.run_pure,Result.andThen_ok,run_underlying hu,bP,Option.getD_some,Nat.add_zero]
 rw [if_pos ⟨h0,by omega⟩]
 simp [dQ ht]
theorem lde {k j:Nat} {cs:List Value} {p:Operand} (hc:∀ j u,cs[j]?=some u->W.cell? (bP A (k+j))=some u) (ht:aX P t=some (ag,z,size,bytes)) (ho:o.op=.load t p) (hp:ev E p=some (.pointer (some (bP A (k+j)))))
  (hv:df ag (seg cs j size)=v) (hl:(seg cs j size).length=size) (h2:(ag||Nat.beq size 1)=true):eg P n E o W v W:=by
 intro a ha
 have hr:=nL (P:=P) (W:=W) (ad:=bP A (k+j)) (cs:=seg cs j size) ht hl (λe=>by subst e; simpa using h2) (λi u hu=>by
  have hadd:(bP A (k+j)).add i=bP A (k+(j+i)):=by unfold bP; rw [Addr.add_add,Nat.add_assoc]
  rw [hadd]
  refine hc _ _ ?_
  simp only [seg,List.getElem?_take,List.getElem?_drop] at hu
  split at hu
  ·simpa using hu
  ·cases hu)
 unfold execOp
 simp only [ho,ha.ev hp,Instr.loadAt,Instr.sureAddr,Sem.run_bind,Sem.run_pure,Result.andThen_ok,hr,hv]
theorem Sep.agree (h:Sep M w0 W L):fu (λb=>b<w0.heap.size/\¬ M b) w0 W:=λb hb=>h.frame.block b hb.1 hb.2
theorem Sep.rd {d:D} {cs:List Value} (h:Sep M w0 W L) (hr:D.rd w0 d (λb=>b<w0.heap.size/\¬ M b) cs):D.rd W d (λb=>b<w0.heap.size/\¬ M b) cs:=D.rd_agree hr h.agree
theorem Sep.own_rd {xs:List D} (h:Sep M w0 W (.row v e size xs::L)):∃ S,(∀ b,S b->OkS M w0 W b)/\D.rd W (.row e size xs) S [v]:=by
 obtain ⟨S,h1,h2,_⟩:=h.own
 exact ⟨S,h1,D.own_rd (d:=.row e size xs) h2⟩
abbrev md (A:Option Addr) (c:Nat) (e size:Nat) (enc:α->D) (l:List α):Ent:=.row (.slice A l.length c) e size (l.map enc)
theorem Sep.nil (h:Sep M w0 W L) (e size:Nat) (enc:α->D):Sep M w0 W (md none 0 e size enc ([]:List α)::L):=
 ⟨h.frame,λ_=>False,λ_ hf=>hf.elim,⟨_,[],rfl,⟨World.ownsRow_nil W 0 e size,λg hg=>by simp [Value.ownBlock] at hg⟩,by simp,λ_=>False,λ_ hf=>hf.elim,rfl⟩,h.own.mono λb hb=>⟨hb,id⟩⟩
def dE:D->Option (List Value)
 | .int k n=>some [.int k n]
 | .bool b=>some [.bool b]
 | .str s=>some [.string s]
 | .row ..=>none
 | .agg xs=>flats xs
where flats:List D->Option (List Value)
 | []=>some []
 | x::xs=>match dE x,flats xs with
  | some a,some b=>some (a++b)
  | _,_=>none
mutual
theorem nk:∀ {d:D} {cs:List Value} {S:Nat->Prop},dE d=some cs->D.own W d S cs
 | .int _ _,_,_,h=>by simp only [dE] at h; injection h with h; exact h.symm
 | .bool _,_,_,h=>by simp only [dE] at h; injection h with h; exact h.symm
 | .str _,_,_,h=>by simp only [dE] at h; injection h with h; exact h.symm
 | .row ..,_,_,h=>by simp only [dE] at h; cases h
 | .agg xs,_,_,h=>by simp only [dE] at h; exact wg (xs:=xs) h
theorem wg:∀ {xs:List D} {cs:List Value} {S:Nat->Prop},dE.flats xs=some cs->D.owns W xs S cs
 | [],_,_,h=>by simp only [dE.flats] at h; injection h with h; exact h.symm
 | x::xs,_,S,h=>by
  simp only [dE.flats] at h
  cases h1:dE x <;> simp only [h1] at h <;> try contradiction
  cases h2:dE.flats xs <;> simp only [h2] at h <;> try contradiction
  injection h with h
  subst h
  rename_i c1 c2
  have h3:D.own W x (λ_=>False) c1:=nk h1
  exact ⟨λ_=>False,c1,c2,rfl,D.own_length h3,λ_ hf=>hf.elim,h3,wg h2⟩
end
mutual
theorem oG:∀ {d:D} {cs cs':List Value},dE d=some cs->D.rd W d T cs'->cs'=cs
 | .int _ _,_,_,h,hr=>by simp only [dE] at h; injection h with h; subst h; exact hr
 | .bool _,_,_,h,hr=>by simp only [dE] at h; injection h with h; subst h; exact hr
 | .str _,_,_,h,hr=>by simp only [dE] at h; injection h with h; subst h; exact hr
 | .row ..,_,_,h,_=>by simp only [dE] at h; cases h
 | .agg xs,_,_,h,hr=>by simp only [dE] at h; exact xh (xs:=xs) h hr
theorem xh:∀ {xs:List D} {cs cs':List Value},dE.flats xs=some cs->D.rds W xs T cs'->cs'=cs
 | [],_,_,h,hr=>by simp only [dE.flats] at h; injection h with h; subst h; exact hr
 | x::xs,_,_,h,⟨c1,c2,h1,h2,h3,h4⟩=>by
  simp only [dE.flats] at h
  cases k1:dE x <;> simp only [k1] at h <;> try contradiction
  cases k2:dE.flats xs <;> simp only [k2] at h <;> try contradiction
  injection h with h
  subst h
  rw [h1,oG k1 h3,xh k2 h4]
end
theorem pn:∀ {xs ys:List D} {S S':Nat->Prop} {c1 c2:List Value},D.owns W xs S c1->D.owns W ys S' c2->(∀ b,S b->¬ S' b)->D.owns W (xs++ys) (λb=>S b\/S' b) (c1++c2)
 | [],ys,S,S',c1,c2,h,h',_=>by
  have:c1=[]:=h
  subst this
  exact D.owns_mono h' λb hb=>.inr hb
 | x::xs,ys,S,S',_,c2,⟨S1,d1,d2,h1,h2,h3,h4,h5⟩,h',hd=>⟨S1,d1,d2++c2,by rw [h1,List.append_assoc],h2,λb hb=>.inl (h3 b hb),h4,
   D.owns_mono (pn h5 h' λb hb=>hd b hb.1) λb hb=>by
    rcases hb with hb | hb
    ·exact ⟨.inl hb.1,hb.2⟩
    ·exact ⟨.inr hb,λhs=>hd b (h3 b hs) hb⟩⟩
end
noncomputable section
variable {P:Program} {n:Nat} {ops:Array Oper} {o:Oper} {rest:List Oper} {E E':Env} {W W' w0:World} {a:Act} {v u:Value} {K:Env->World->Prop} {M T:Nat->Prop} {L:List Ent}
variable {t e:TypeId} {ag:Bool} {z:Option Value} {zv:Value} {size bytes:Nat} {A A2:Option Addr} {m c c2:Nat} {α:Type} {enc:α->D} {l l2 r:List α} {i:Int} {x y:α}
theorem bw.split:∀ {L1 L2:List Ent} {Ok:Nat->Prop},bw W (L1++L2) Ok->∃ S,(∀ b,S b->Ok b)/\bw W L1 S/\bw W L2 (λb=>Ok b/\¬ S b)
 | [],L2,Ok,h=>⟨λ_=>False,λ_ hf=>hf.elim,trivial,h.mono λb hb=>⟨hb,id⟩⟩
 | x::L1,L2,Ok,⟨S,h1,h2,h3⟩=>by
  obtain ⟨S',k1,k2,k3⟩:=bw.split (L1:=L1) h3
  refine ⟨λb=>S b\/S' b,λb hb=>hb.elim (h1 b) λhb=>(k1 b hb).1,⟨S,λb hb=>.inl hb,h2,k2.mono λb hb=>⟨.inr hb,(k1 b hb).2⟩⟩,k3.mono λb hb=>⟨hb.1.1,λhh=>hh.elim hb.1.2 hb.2⟩⟩
theorem Sep.turnL {L1 L':List Ent} (h:Sep M w0 W (L1++L)) (k:∀ S,(∀ b,S b->OkS M w0 W b)->bw W L1 S->dL S W W'/\bw W' L' (λb=>S b\/(W.heap.size<=b/\b<W'.heap.size))):Sep M w0 W' (L'++L):=by
 obtain ⟨S,h1,h2,h3⟩:=h.own.split
 obtain ⟨k1,k2⟩:=k S h1 h2
 refine ⟨h.frame.trans k1 λb hb hs=>?_,?_⟩
 ·rcases (h1 b hs).1 with h4 | h4
  ·omega
  ·exact h4
 ·have h4:bw W' L (λb=>OkS M w0 W b/\¬ S b):=h3.agree λb hb=>k1.block b hb.1.2 hb.2
  refine (bw.append k2 h4 λb hb hb'=>?_).mono λb hb=>?_
  ·rcases hb with hb | hb
   ·exact hb'.2 hb
   ·have:=hb'.1.2; omega
  ·rcases hb with (hb | hb) | hb
   ·exact ⟨(h1 b hb).1,Nat.lt_of_lt_of_le (h1 b hb).2 k1.size⟩
   ·exact ⟨.inl (Nat.le_trans h.frame.size hb.1),hb.2⟩
   ·exact ⟨hb.1.1,Nat.lt_of_lt_of_le hb.1.2 k1.size⟩
theorem wh (off:Nat):∀ (vs:List Value) (k:Nat) (cs:Array Value),off+k+vs.length<=cs.size ->
  (vs.zipIdx k).foldl (λcs (p:Value×Nat)=>cs.setIfInBounds (off+p.2) p.1) cs=(splice cs.toList (off+k) vs).toArray
 | [],k,cs,h=>by simp [splice]
 | v::vs,k,cs,h=>by
  simp only [List.length_cons] at h
  simp only [List.zipIdx_cons,List.foldl_cons]
  rw [wh off vs (k+1) _ (by simp; omega)]
  congr 1
  simp only [splice,Array.toList_setIfInBounds]
  have h1:off+k<cs.toList.length:=by simp; omega
  rw [show off+(k+1)=off+k+1 from rfl,List.take_succ_eq_append_getElem (by simpa using h1),List.take_set_of_le (Nat.le_refl _),List.getElem_set_self,List.drop_set_of_lt (by omega)]
  simp only [List.append_assoc,List.singleton_append,List.length_cons]
  rw [show off+k+1+vs.length=off+k+(vs.length+1) by omega]
  rfl
def rP (place:Nat->Option (Nat×Nat)):List Value->List (Nat×Value)->Option (List Value)
 | cs,[]=>some cs
 | cs,(i,v)::rest=>match place i with
  | none=>none
  | some (off,size)=>match Nat.beq v.cells.toList.length size&&Nat.ble (off+size) cs.length with
   | true=>rP place (splice cs off v.cells.toList) rest
   | false=>none
theorem qV {place:Nat->Option (Nat×Nat)}:∀ {parts:List (Nat×Value)} {cs:List Value} {r:List Value},rP place cs parts=some r->Instr.fill place cs.toArray parts=some r.toArray
 | [],cs,r,h=>by simp only [rP] at h; injection h with h; subst h; rfl
 | (i,v)::rest,cs,r,h=>by
  simp only [rP] at h
  cases hp:place i <;> simp only [hp] at h <;> try contradiction
  rename_i q
  obtain ⟨off,size⟩:=q
  simp only at h
  split at h <;> try contradiction
  rename_i hq
  simp only [Bool.and_eq_true,Nat.beq_eq_true_eq,Nat.ble_eq] at hq
  obtain ⟨h1,h2⟩:=hq
  have h1':v.cells.size=size:=by simpa using h1
  have ih:=qV h
  simp only [Instr.fill,hp]
  rw [if_neg (by simp [h1']; omega)]
  have:=wh off v.cells.toList 0 cs.toArray (by simp [h1']; omega)
  rw [Nat.add_zero] at this
  rw [show (Array.foldl (λcs (x:Value×Nat)=>cs.setIfInBounds (off+x.2) x.1) cs.toArray v.cells.zipIdx)=(splice cs off v.cells.toList).toArray by
   rw [<-this,<-Array.foldl_toList,Array.toList_zipIdx]]
  exact ih
def yi:List (Nat×Operand)->Env->Option (List (Nat×Value))
 | [],_=>some []
 | (i,x)::r,E=>match ev E x,yi r E with
  | some v,some vs=>some ((i,v)::vs)
  | _,_=>none
theorem wi (ha:hU n E a):∀ {ps:List (Nat×Operand)} {vs:List (Nat×Value)},yi ps E=some vs->ps.map (λp=>(p.1,a.eval p.2))=vs
 | [],vs,h=>by simp only [yi,Option.some.injEq] at h; subst h; rfl
 | (i,x)::r,vs,h=>by
  simp only [yi] at h
  cases h1:ev E x <;> simp only [h1] at h <;> try contradiction
  cases h2:yi r E <;> simp only [h2] at h <;> try contradiction
  injection h with h
  subst h
  simp [ha.ev h1,wi ha h2]
def oV (P:Program) (t:TypeId):Option (List (Nat×Nat)×List Value):=match P.underlying t,P.info? t with
 | some (.struct fs),some i=>match i.zero,fs.toList.mapM (λf=>(P.info? f.type).map λi=>(f.offset,i.size)) with
  | some z,some places=>some (places,z.cells.toList)
  | _,_=>none
 | _,_=>none
theorem zy {places:List (Nat×Nat)} {zc:List Value} {parts:List (Nat×Value)} {cs:List Value} (h:oV P t=some (places,zc)) (hf:rP (nth? places) zc parts=some cs) :
  (Instr.build t parts.toArray).run P W=.ok (.agg cs.toArray) W:=by
 unfold oV at h
 split at h <;> try contradiction
 rename_i fs i hu hi
 split at h <;> try contradiction
 rename_i z places' hz hp
 injection h with h
 simp only [Prod.mk.injEq] at h
 obtain ⟨rfl,rfl⟩:=h
 have hf':=qV hf
 have e2:nth? places'=(places'.toArray[·]?):=by funext x; simp [nth?_eq]
 rw [e2] at hf'
 refine run_build W t parts.toArray cs.toArray ?_
 simp only [Program.built,hi,hu,hz,hp]
 simpa using hf'
theorem bd {parts:Array (Nat×Operand)} {ps:List (Nat×Value)} {places:List (Nat×Nat)} {zc cs:List Value} (h:oV P t=some (places,zc)) (ho:o.op=.build t parts) (hp:yi parts.toList E=some ps)
  (hf:rP (nth? places) zc ps=some cs):eg P n E o W (.agg cs.toArray) W:=by
 intro a ha
 have h1:=wi ha hp
 have h2:parts.map (λp=>(p.1,a.eval p.2))=ps.toArray:=by rw [<-h1]; apply Array.ext'; simp
 unfold execOp
 simp only [ho,Sem.run_bind]
 rw [show (parts.map λ(x:Nat×Operand)=>match x with | (i,x)=>(i,a.eval x))=ps.toArray from h2,zy h hf]
 rfl
def dh (k:Nat):List Value->List (Nat×Value)
 | []=>[]
 | v::r=>(k,v)::dh (k+1) r
def mN:Nat->List (Nat×Operand)->Env->Option (List Value)
 | _,[],_=>some []
 | k,(i,x)::r,E=>match Nat.beq i k,ev E x,mN (k+1) r E with
  | true,some v,some vs=>some (v::vs)
  | _,_,_=>none
theorem mD (ha:hU n E a):∀ {ps:List (Nat×Operand)} {k:Nat} {vs:List Value},mN k ps E=some vs->ps.map (λp=>(p.1,a.eval p.2))=dh k vs
 | [],k,vs,h=>by simp only [mN,Option.some.injEq] at h; subst h; rfl
 | (i,x)::r,k,vs,h=>by
  simp only [mN] at h
  cases h0:Nat.beq i k <;> simp only [h0] at h <;> try contradiction
  obtain rfl:=Nat.eq_of_beq_eq_true h0
  cases h1:ev E x <;> simp only [h1] at h <;> try contradiction
  cases h2:mN (i+1) r E <;> simp only [h2] at h <;> try contradiction
  injection h with h
  subst h
  simp [dh,ha.ev h1,mD ha h2]
def cN:List Value->List Value
 | []=>[]
 | v::r=>v.cells.toList++cN r
theorem nl:∀ {vs:List Value},(∀ v∈vs,v.cells.toList.length=size)->(cN vs).length=vs.length*size
 | [],_=>by simp [cN]
 | v::r,h=>by simp only [cN,List.length_append,List.length_cons,Nat.add_mul,Nat.one_mul]; rw [h v (by simp),nl λx hx=>h x (by simp [hx])]; omega
theorem wj:∀ {vs:List Value} {k:Nat} {pre post:List Value},pre.length=k*size->post.length=vs.length*size->(∀ v∈vs,v.cells.toList.length=size) ->
  rP (λi=>some (i*size,size)) (pre++post) (dh k vs)=some (pre++cN vs)
 | [],k,pre,post,h1,h2,h3=>by
  have:post=[]:=List.eq_nil_of_length_eq_zero (by simpa using h2)
  subst this
  rfl
 | v::vs,k,pre,post,h1,h2,h3=>by
  have hv:=h3 v (by simp)
  simp only [List.length_cons,Nat.add_mul,Nat.one_mul] at h2
  simp only [dh,rP,hv]
  have hb:(Nat.beq size size&&Nat.ble (k*size+size) (pre++post).length)=true:=by
   simp only [Nat.beq_refl,Bool.true_and,Nat.ble_eq,List.length_append]
   omega
  rw [hb]
  have hs:splice (pre++post) (k*size) v.cells.toList=(pre++v.cells.toList)++post.drop size:=by
   simp only [splice,<-h1,List.take_left',List.append_assoc]
   congr 2
   rw [List.drop_append,hv]
   simp
  simp only [hs]
  rw [wj (by simp [h1,hv,Nat.add_mul]) (by simp; omega) λx hx=>h3 x (by simp [hx])]
  simp [cN]
theorem lC {k:Nat} {vs:List Value} (hu:P.underlying t=some (.slice e)) (ht:aX P e=some (ag,some zv,size,bytes)) (hk:vs.length=k) (hc:∀ v∈vs,v.cells.toList.length=size) (hle:k*size<=16777216) :
  (Instr.buildSlice t k (dh 0 vs).toArray).run P W=.ok (.slice (some ⟨W.heap.size,0,none⟩) k k) (W.alloc (.cells (cN vs).toArray e)):=by
 have hf:∀ zs:Array Value,zs.size=k*size->Instr.fill (λi=>some (i*size,size)) zs (dh 0 vs)=some (cN vs).toArray:=by
  intro zs hz
  have:=wj (size:=size) (vs:=vs) (k:=0) (pre:=[]) (post:=zs.toList) (by simp) (by simp [hz,hk]) hc
  have:=qV this
  simpa using this
 have hgt:¬ (k*size>2^24):=by
  have:(2:Nat)^24=16777216:=by decide
  omega
 unfold Instr.buildSlice
 simp only [Sem.run_bind,run_underlying hu,Result.andThen_ok,dQ ht,if_neg hgt,Sem.run_pure]
 by_cases h0:k*size=0
 ·simp only [h0,if_true,Sem.run_bind,Sem.run_pure,Result.andThen_ok]
  rw [hf _ (by simp [h0])]
  simp [newRow]
 ·simp only [h0,if_false,Sem.run_bind,qM ht,Result.andThen_ok,Sem.run_pure]
  rw [hf _ (by simp)]
  simp [newRow]
end
noncomputable section
variable {P:Program} {n:Nat} {ops:Array Oper} {o:Oper} {rest:List Oper} {E E':Env} {W W' w0:World} {a:Act} {v u:Value} {K:Env->World->Prop} {M T:Nat->Prop} {L:List Ent}
variable {t e:TypeId} {ag:Bool} {z:Option Value} {zv:Value} {size bytes:Nat} {A A2:Option Addr} {m c c2:Nat} {α:Type} {enc:α->D} {l l2 r:List α} {i:Int} {x y:α}
def yS (enc:α->D):List α->List Value->Bool->Prop
 | [],[],_=>True
 | x::l,v::vs,b=>dE (enc x)=some v.cells.toList/\yS enc l vs b
 | _,_,_=>False
theorem uQ {W:World}:∀ {l:List α} {vs:List Value},yS enc l vs true->l.length=vs.length/\D.owns W (l.map enc) (λ_=>False) (cN vs)/\∀ v∈vs,∃ x∈l,v.cells.toList.length=(enc x).sz
 | [],[],_=>⟨rfl,rfl,by simp⟩
 | x::l,v::vs,⟨h1,h2⟩=>by
  obtain ⟨k1,k2,k3⟩:=uQ (W:=W) h2
  have h3:D.own W (enc x) (λ_=>False) v.cells.toList:=nk h1
  refine ⟨by simp [k1],⟨λ_=>False,_,_,rfl,D.own_length h3,λ_ hf=>hf,h3,D.owns_mono k2 λ_ hf=>hf.elim⟩,λw hw=>?_⟩
  rcases List.mem_cons.1 hw with rfl | hw
  ·exact ⟨x,by simp,D.own_length h3⟩
  ·obtain ⟨y,hy,e⟩:=k3 w hw
   exact ⟨y,by simp [hy],e⟩
 | [],_::_,h=>h.elim
 | _::_,[],h=>h.elim
theorem OpW.lit {k:Nat} {parts:Array (Nat×Operand)} {vs:List Value} (l:List α) (enc:α->D) (hu:P.underlying t=some (.slice e)) (ht:aX P e=some (ag,some zv,size,bytes)) (hS:Sep M w0 W L) (ho:o.op=.buildSlice t k parts)
  (hp:mN 0 parts.toList E=some vs) (hk:vs.length=k) (hl:k=l.length) (hf:yS enc l vs true) (hsz:∀ x∈l,(enc x).sz=size)
  (h:∀ A c W',Sep M w0 W' (md A c e size enc l::L)->K (put E o.dst (.slice A l.length c)) W') (hle:Nat.ble (k*size) 16777216=true:=by exact rfl) (h0:Nat.blt 0 size=true:=by exact rfl) (hg:o.guard=none:=by exact rfl) (hd:okD n o.dst=true:=by exact rfl):OpW P n ops o E W K:=by
 obtain ⟨f1,f2,f3⟩:=uQ (W:=W.alloc (.cells (cN vs).toArray e)) hf
 have hvs:∀ v∈vs,v.cells.toList.length=size:=λv hv=>by
  obtain ⟨x,hx,e1⟩:=f3 v hv
  rw [e1,hsz x hx]
 subst hl
 refine .runs (W':=W.alloc (.cells (cN vs).toArray e)) (v:=.slice (some ⟨W.heap.size,0,none⟩) l.length l.length) (λa ha=>?_) hg hd (h _ _ _ ?_)
 ·have h1:=mD ha hp
  have h2:parts.map (λp=>(p.1,a.eval p.2))=(dh 0 vs).toArray:=by rw [<-h1]; apply Array.ext'; simp
  unfold execOp
  simp only [ho,Sem.run_bind]
  rw [show (parts.map λ(x:Nat×Operand)=>match x with | (i,x)=>(i,a.eval x))=(dh 0 vs).toArray from h2,lC hu ht hk hvs (Nat.le_of_ble_eq_true hle)]
  rfl
 ·have hlen:=nl hvs
  refine hS.new (L':=[md (some ⟨W.heap.size,0,none⟩) l.length e size enc l]) eH ⟨λb=>b=W.heap.size,λb hb=>by subst hb; simp,?_,trivial⟩
  have hmax:l.length<=maxLen:=by
   have h1:0<size:=by simpa [Nat.blt_eq] using h0
   have:=Nat.le_of_ble_eq_true hle
   have h3:l.length<=l.length*size:=Nat.le_mul_of_pos_right _ h1
   simp only [maxLen]; omega
  have h5:=World.ownsRow_lit (base:=0) (e:=e) (size:=size) W (cN vs).toArray l.length (Nat.zero_le _) hmax (by simp [hlen,hk])
  refine ⟨_,_,rfl,⟨by simpa using h5,λg hg=>by simp only [Value.ownBlock,Option.some.injEq] at hg; exact hg.symm⟩,λd hd=>?_,λ_=>False,λ_ hf=>hf.elim,f2⟩
  obtain ⟨x,hx,rfl⟩:=List.mem_map.1 hd
  exact hsz x hx
theorem nM (ht:aX P e=some (ag,some zv,size,bytes)):∃ i0,P.info? e=some i0/\i0.zero=some zv/\i0.size=size/\i0.bytes=bytes:=by
 obtain ⟨i,d,h1,h2,h3,h4,h5,h6⟩:=mc ht
 exact ⟨i,h1,h4,h5,h6⟩
mutual
theorem D.own_one:∀ {d:D} {S:Nat->Prop} {cs:List Value},D.own W d S cs->∀ u∈cs,u.oneCell'=true
 | .int _ _,_,_,h=>by simp only [D.own] at h; subst h; simp [Value.oneCell']
 | .bool _,_,_,h=>by simp only [D.own] at h; subst h; simp [Value.oneCell']
 | .str _,_,_,h=>by simp only [D.own] at h; subst h; simp [Value.oneCell']
 | .agg xs,_,_,h=>D.owns_one (xs:=xs) h
 | .row _ _ xs,_,_,⟨v,c,h1,h2,_⟩=>by
  subst h1
  intro u hu
  simp only [List.mem_singleton] at hu
  subst hu
  rcases h2.1.2 with ⟨rfl,_⟩ | ⟨g,cap,cur,rfl,_⟩ <;> rfl
theorem D.owns_one:∀ {xs:List D} {S:Nat->Prop} {cs:List Value},D.owns W xs S cs->∀ u∈cs,u.oneCell'=true
 | [],_,_,h=>by simp only [D.owns] at h; subst h; simp
 | x::xs,_,_,⟨S1,c1,c2,h1,h2,h3,h4,h5⟩=>by
  subst h1
  intro u hu
  rcases List.mem_append.1 hu with hu | hu
  ·exact D.own_one h4 u hu
  ·exact D.owns_one h5 u hu
end
theorem Sep.of_parts {S:Nat->Prop} {L':List Ent} (hf:dL M w0 W) (h1:∀ b,S b->OkS M w0 W b) (h3:bw W L (λb=>OkS M w0 W b/\¬ S b)) (k1:dL S W W')
  (k2:bw W' L' (λb=>S b\/(W.heap.size<=b/\b<W'.heap.size))):Sep M w0 W' (L'++L):=by
 refine ⟨hf.trans k1 λb hb hs=>?_,?_⟩
 ·rcases (h1 b hs).1 with h4 | h4
  ·omega
  ·exact h4
 ·have h4:bw W' L (λb=>OkS M w0 W b/\¬ S b):=h3.agree λb hb=>k1.block b hb.1.2 hb.2
  refine (bw.append k2 h4 λb hb hb'=>?_).mono λb hb=>?_
  ·rcases hb with hb | hb
   ·exact hb'.2 hb
   ·have:=hb'.1.2; omega
  ·rcases hb with (hb | hb) | hb
   ·exact ⟨(h1 b hb).1,Nat.lt_of_lt_of_le (h1 b hb).2 k1.size⟩
   ·exact ⟨.inl (Nat.le_trans hf.size hb.1),hb.2⟩
   ·exact ⟨hb.1.1,Nat.lt_of_lt_of_le hb.1.2 k1.size⟩
theorem yT {S1 S2':Nat->Prop} {k2:List Value} {ty:TypeId} (hroom:(l.length+l2.length)*bytes<=140737488355328) (hu:P.underlying t=some (.slice e)) (ht:aX P e=some (ag,some zv,size,bytes)) (hz:zv.cells.size=size) (hpos:0<size) (hbpos:0<bytes)
  (hS1:∀ b,S1 b->b<W.heap.size) (hS2:∀ b,S2' b->b<W.heap.size) (hd12:∀ b,S2' b->¬ S1 b) (hx1:(md A c e size enc l).holds W S1)
  (hnil:A2=none->l2=[]/\c2=0) (hnews:∀ a,A2=some a->∀ j u,k2[j]?=some u->W.cell? (a.add j)=some u) (hk2:k2.length=l2.length*size) (s2:∀ x∈l2.map enc,x.sz=size) (o2:D.owns W (l2.map enc) S2' k2) :
  ∃ A' c' W',(Builtin.append_ #[t,t] ty #[.slice A l.length c,.slice A2 l2.length c2]).run P W=.ok (.slice A' (l++l2).length c') W'/\dL S1 W W' /\
   bw W' [md A' c' e size enc (l++l2)] (λb=>(S1 b\/S2' b)\/(W.heap.size<=b/\b<W'.heap.size)):=by
 obtain ⟨i0,hi,hz0,hz1,hz2⟩:=nM ht
 obtain ⟨v1,k1,e1,⟨r1,b1⟩,s1,S1',p1,o1⟩:=hx1
 simp only [List.cons.injEq,and_true] at e1
 subst e1
 simp only [List.length_map] at r1
 have hone:=D.owns_one o2
 cases A2 with
 | none =>
  obtain ⟨rfl,rfl⟩:=hnil rfl
  have hrun:=run_append_owned_none (P:=P) (w:=W) 0 t ty e i0 size hu hi _ _ _ r1
  refine ⟨A,c,W,by simpa using hrun,dL.refl _ _,S1,λb hb=>.inl (.inl hb),?_,trivial⟩
  exact ⟨_,k1,rfl,⟨by simpa using r1,by simpa using b1⟩,by simpa using s1,S1',by simpa using p1,by simpa using o1⟩
 | some ad =>
  have hmaxl:l.length+l2.length<=140737488355328:=Nat.le_trans (Nat.le_mul_of_pos_right _ hbpos) hroom
  obtain ⟨v',W',hrun,hown,hgrow,hn0,hat⟩:=run_append_own_at (P:=P) W 0 t ty e i0 zv size bytes hu hi hz0 hz1 hz2 hz hpos _ _ _ r1 ad l2.length c2 k2 hk2 (hnews ad rfl) hone (by simp only [maxLen]; omega) hroom (Nat.zero_le _)
  obtain ⟨A',c',rfl⟩:∃ A' c',v'=.slice A' (l.length+l2.length) c':=by
   rcases hown.2 with ⟨h1,h2⟩ | ⟨g,cap,cur,h1,_⟩
   ·exact ⟨none,0,by rw [h1,h2]⟩
   ·exact ⟨_,_,h1⟩
  refine ⟨A',c',W',by simpa using hrun,dL.of_grown hgrow λb hb=>b1 b hb,λb=>(S1 b\/S2' b)\/b=W.heap.size/\b<W'.heap.size,λb hb=>?_,?_,trivial⟩
  ·rcases hb with hb | ⟨rfl,hb⟩
   ·exact .inl hb
   ·exact .inr ⟨Nat.le_refl _,hb⟩
  ·refine ⟨_,k1++k2,rfl,⟨by simpa using hown,λg hg0=>?_⟩,λx hx=>?_,λb=>S1' b\/S2' b,λb hb=>⟨?_,?_⟩,?_⟩
   ·have hg:Value.ownBlock (.slice A' (l.length+l2.length) c')=some g:=by rw [List.length_append] at hg0; exact hg0
    rcases hat with hat | hat
    ·exact .inl (.inl (b1 g (hat▸hg)))
    ·have:g=W.heap.size:=by
      have h1:=hg
      rw [hat] at h1
      injection h1 with h1
      exact h1.symm
     subst this
     rcases hown.lt W.heap.size hat with ⟨_,h2⟩
     exact .inr ⟨rfl,h2⟩
   ·rcases List.mem_append.1 (by simpa using hx:x∈l.map enc++l2.map enc) with h1 | h1
    ·exact s1 x h1
    ·exact s2 x h1
   ·rcases hb with hb | hb
    ·exact .inl (.inl (p1 b hb).1)
    ·exact .inl (.inr hb)
   ·have hv:Value.ownBlock (.slice A' (l++l2).length c')=Value.ownBlock (.slice A' (l.length+l2.length) c'):=by rw [List.length_append]
    rw [hv]
    rcases hat with hat | hat
    ·rw [hat]
     intro he
     rcases hb with hb | hb
     ·exact (p1 b hb).2 he
     ·exact hd12 b hb (b1 b he)
    ·rw [hat]
     intro he
     injection he with he
     subst he
     rcases hb with hb | hb
     ·have:=hS1 _ (p1 _ hb).1; omega
     ·have:=hS2 _ hb; omega
   ·rw [List.map_append]
    have hag:∀ (S:Nat->Prop),(∀ b,S b->b<W.heap.size)->(∀ b,S b->Value.ownBlock (.slice A l.length c)≠some b)->fu S W W':=λS h1 h2 b hb=>hgrow.block b (h1 b hb) λhe=>h2 b hb he.symm
    refine pn (D.owns_agree o1 (hag S1' (λb hb=>hS1 b (p1 b hb).1) λb hb=>(p1 b hb).2)) (D.owns_agree o2 (hag S2' hS2 λb hb he=>hd12 b hb (b1 b he))) λb hb hb'=>hd12 b hb' (p1 b hb).1
theorem OpW.app {p q:Operand} (hr:app bytes l l2=some r) (hS:Sep M w0 W (md A c e size enc l::md A2 c2 e size enc l2::L)) (hu:P.underlying t=some (.slice e)) (ht:aX P e=some (ag,some zv,size,bytes))
  (ho:o.op=.call { callee:=.builtin .append,args:=#[p,q],argTypes:=#[t,t] }) (hp:ev E p=some (.slice A l.length c)) (hq:ev E q=some (.slice A2 l2.length c2))
  (h:∀ A c W',Sep M w0 W' (md A c e size enc r::L)->K (put E o.dst (.slice A r.length c)) W')
  (hz:zv.cells.size=size:=by exact rfl) (h0:Nat.blt 0 size=true:=by exact rfl) (hb0:Nat.blt 0 bytes=true:=by exact rfl) (hg:o.guard=none:=by exact rfl) (hd:okD n o.dst=true:=by exact rfl):OpW P n ops o E W K:=by
 obtain ⟨rfl,hroom⟩:=pm hr
 obtain ⟨S1,hS1,hx1,S2,hS2,hx2,hrest⟩:=hS.own
 obtain ⟨v2,k2,e2,⟨r2,b2⟩,s2,S2',p2,o2⟩:=hx2
 simp only [List.cons.injEq,and_true] at e2
 subst e2
 simp only [List.length_map] at r2
 obtain ⟨A',c',W',hrun,hfr,hown⟩:=yT (P:=P) (W:=W) (A2:=A2) (c2:=c2) (S1:=S1) (S2':=S2') (k2:=k2) (ty:=o.type) hroom hu ht hz (by simpa [Nat.blt_eq] using h0) (by simpa [Nat.blt_eq] using hb0) (λb hb=>(hS1 b hb).2) (λb hb=>(hS2 b (p2 b hb).1).1.2) (λb hb=>(hS2 b (p2 b hb).1).2) hx1
  (λhn=>by
   subst hn
   rcases r2.2 with ⟨h1,h2⟩ | ⟨g,cap,cur,h1,_⟩
   ·simp only [Value.slice.injEq,true_and] at h1
    exact ⟨List.eq_nil_of_length_eq_zero h2,h1.2⟩
   ·cases h1)
  (λa ha j u hj=>by
   subst ha
   rcases r2.2 with ⟨h1,h2⟩ | ⟨g,cap,cur,h1,_⟩
   ·cases h1
   ·simp only [Value.slice.injEq,Option.some.injEq] at h1
    obtain ⟨rfl,_,rfl⟩:=h1
    exact r2.cells (g:=g) rfl j u hj) r2.1 s2 o2
 refine .runs (W':=W') (v:=.slice A' (l++l2).length c') (λa ha=>?_) hg hd (h _ _ _ (Sep.of_parts hS.frame (S:=λb=>S1 b\/S2 b) (λb hb=>hb.elim (hS1 b) λhb=>(hS2 b hb).1) (hrest.mono λb hb=>⟨hb.1.1,λhh=>hh.elim hb.1.2 hb.2⟩)
  ⟨hfr.os,hfr.tape,hfr.output,hfr.size,λb hb hn=>hfr.block b hb λh1=>hn (.inl h1)⟩ (hown.mono λb hb=>hb.imp (λhb=>hb.imp id λhb=>(p2 b hb).1) id)))
 unfold execOp
 simp only [ho,resolve,Deferred.ofValue,invoke,builtin,Sem.run_bind,Sem.run_pure,Result.andThen_ok]
 simp [ha.ev hp,ha.ev hq,hrun]
theorem xi:∀ {l:List α} {cs:List Value},(∀ x∈l,(dE (enc x)).isSome=true)->D.rds W (l.map enc) T cs->D.owns W (l.map enc) (λ_=>False) cs
 | [],cs,_,h=>h
 | x::l,cs,hf,⟨c1,c2,h1,h2,h3,h4⟩=>by
  obtain ⟨cx,hcx⟩:=Option.isSome_iff_exists.1 (hf x (by simp))
  have:=oG hcx h3
  subst this
  exact ⟨λ_=>False,_,c2,h1,h2,λ_ hf=>hf,nk hcx,D.owns_mono (xi (λy hy=>hf y (by simp [hy])) h4) λ_ hf=>hf.elim⟩
theorem OpW.appr {p q:Operand} (hr:X.app bytes l l2=some r) (hS:Sep M w0 W (md A c e size enc l::L)) (hrd:Rd W T A2 c2 e size enc l2) (hfl:∀ x,(dE (enc x)).isSome=true) (hu:P.underlying t=some (.slice e)) (ht:aX P e=some (ag,some zv,size,bytes))
  (ho:o.op=.call { callee:=.builtin .append,args:=#[p,q],argTypes:=#[t,t] }) (hp:ev E p=some (.slice A l.length c)) (hq:ev E q=some (.slice A2 l2.length c2))
  (h:∀ A c W',Sep M w0 W' (md A c e size enc r::L)->K (put E o.dst (.slice A r.length c)) W')
  (hz:zv.cells.size=size:=by exact rfl) (h0:Nat.blt 0 size=true:=by exact rfl) (hb0:Nat.blt 0 bytes=true:=by exact rfl) (hg:o.guard=none:=by exact rfl) (hd:okD n o.dst=true:=by exact rfl):OpW P n ops o E W K:=by
 obtain ⟨rfl,hroom⟩:=pm hr
 obtain ⟨S1,hS1,hx1,hrest⟩:=hS.own
 obtain ⟨A',cap,cs,e1,e2,e3,e4,e5,e6⟩:=hrd
 simp only [List.cons.injEq,and_true,Value.slice.injEq] at e1
 obtain ⟨rfl,_,rfl⟩:=e1
 have o2:=xi (λx _=>hfl x) e6
 have hlen:cs.length=l2.length*size:=by rw [D.owns_length o2,we e4,List.length_map]
 by_cases hne:l2=[]
 ·subst hne
  have hcs:cs=[]:=List.eq_nil_of_length_eq_zero (by simpa using hlen)
  subst hcs
  obtain ⟨i0,hi,hz0,hz1,hz2⟩:=nM ht
  obtain ⟨v1,k1,f1,⟨r1,b1⟩,s1,S1',p1,o1⟩:=hx1
  simp only [List.cons.injEq,and_true] at f1
  subst f1
  simp only [List.length_map] at r1
  have hrun:(Builtin.append_ #[t,t] o.type #[.slice A l.length c,.slice A2 0 c2]).run P W=.ok (.slice A l.length c) W:=by
   rcases r1.2 with ⟨hv,h00⟩ | ⟨g,cap,cur,hv,_,_,hnc,_⟩
   ·simp only [Value.slice.injEq] at hv
    obtain ⟨rfl,hh,rfl⟩:=hv
    rw [hh]
    cases A2 <;> simp [Builtin.append_,run_underlying hu,sizeOf,typeInfo,hi,Builtin.lenOf,Builtin.firstCells,loadCells,loadCellsFrom]
   ·simp only [Value.slice.injEq] at hv
    obtain ⟨rfl,_,rfl⟩:=hv
    cases A2 <;> simp [Builtin.append_,run_underlying hu,sizeOf,typeInfo,hi,Builtin.lenOf,Builtin.firstCells,hnc,storeCells,loadCells,loadCellsFrom]
  have hh:=h A c W (by simpa using hS)
  refine .runs (W':=W) (v:=.slice A l.length c) (λa ha=>?_) hg hd (by simpa using hh)
  unfold execOp
  simp only [ho,resolve,Deferred.ofValue,invoke,builtin,Sem.run_bind,Sem.run_pure,Result.andThen_ok]
  simp at hq
  simp [ha.ev hp,ha.ev hq,hrun]
 ·obtain ⟨ad,rfl,_,f3⟩:=e5 (by simpa using hne)
  obtain ⟨A',c',W',hrun,hfr,hown⟩:=yT (P:=P) (W:=W) (A2:=some ad) (c2:=c2) (S1:=S1) (S2':=λ_=>False) (k2:=cs) (ty:=o.type) hroom hu ht hz (by simpa [Nat.blt_eq] using h0) (by simpa [Nat.blt_eq] using hb0) (λb hb=>(hS1 b hb).2) (λb hb=>hb.elim) (λb hb=>hb.elim) hx1
   (λhn=>by cases hn) (λa ha j u hj=>by injection ha with ha; subst ha; exact f3 j u hj) hlen e4 o2
  refine .runs (W':=W') (v:=.slice A' (l++l2).length c') (λa ha=>?_) hg hd (h _ _ _ (Sep.of_parts hS.frame (S:=S1) hS1 hrest hfr (hown.mono λb hb=>hb.imp (λhb=>hb.elim id False.elim) id)))
  unfold execOp
  simp only [ho,resolve,Deferred.ofValue,invoke,builtin,Sem.run_bind,Sem.run_pure,Result.andThen_ok]
  simp [ha.ev hp,ha.ev hq,hrun]
end
noncomputable section
variable {P:Program} {n:Nat} {ops:Array Oper} {o:Oper} {rest:List Oper} {E E':Env} {W W' w0:World} {a:Act} {v u:Value} {K:Env->World->Prop} {M T S:Nat->Prop} {L L0:List Ent}
variable {t e:TypeId} {ag:Bool} {z:Option Value} {zv:Value} {size bytes:Nat} {A A2:Option Addr} {m c c2:Nat} {α:Type} {enc:α->D} {l l2 r:List α} {i:Int} {x y:α}
def Old (M:Nat->Prop) (W:World) (b:Nat):Prop:=b<W.heap.size/\¬ M b
abbrev No:Nat->Prop:=λ_=>False
theorem Sep.keep {d:D} {cs:List Value} (h:Sep M w0 W L) (hr:D.rd w0 d (Old M w0) cs):D.rd W d (Old No W) cs:=
 D.rd_mono (D.rd_agree hr h.agree) λb hb=>⟨Nat.lt_of_lt_of_le hb.1 h.frame.size,id⟩
theorem Sep.lend (h:Sep M w0 W (md A c e size enc l::L)):Rd W (Old No W) A c e size enc l:=by
 obtain ⟨S,h1,h2⟩:=h.own_rd
 have:=D.rd_mono h2 (T':=Old No W) λb hb=>⟨(h1 b hb).2,id⟩
 exact this
theorem Sep.ks {d:D} {cs:List Value} (h:Sep M w0 W L) (hr:D.rd w0 d (Old M w0) cs) (hS:∀ b,S b->OkS M w0 W b):D.rd W d (Old S W) cs:=
 D.rd_mono (D.rd_agree hr h.agree) λb hb=>⟨Nat.lt_of_lt_of_le hb.1 h.frame.size,λhs=>(hS b hs).1.elim (λh1=>by have:=hb.1; omega) hb.2⟩
def Ret {σ:Type} (M:Nat->Prop) (W:World) (v:σ->Value) (L:σ->List Ent):Ending->World->Prop:=λx W'=>∃ s,x=.returned (v s)/\Sep M W W' (L s)
def sP (P:Program) (W:World) (E:Env):List ResultVar->List Value->Prop
 | [],[]=>True
 | .tmp d::r,v::vs=>f5 E d=some v/\sP P W E r vs
 | .cell d t::r,v::vs=>(∃ ad,f5 E d=some (.pointer (some ad))/\(loadVar t ad).run P W=.ok v W)/\sP P W E r vs
 | _,_=>False
def one:List Value->Value
 | [v]=>v
 | vs=>.tuple vs.toArray
theorem ub {fn:Func} (ha:hU n E a) {vs:List Value} (h:sP P W E fn.results.toList vs):(results fn a.tmps).run P W=.ok (one vs) W:=by
 have key:∀ (l:List ResultVar) (vs:List Value),sP P W E l vs->(l.mapM λ(x:ResultVar)=>match x with
   | .tmp t=>(pure (a.tmps.getD t undef):Sem Value)
   | .cell p t=>do loadVar t (<-asAddr (a.tmps.getD p undef))).run P W=.ok vs W:=by
  intro l
  induction l with
  | nil=>intro vs h; cases vs <;> simp [sP] at h ⊢
  | cons x l ih =>
   intro vs h
   cases vs with
   | nil=>cases x <;> simp [sP] at h
   | cons v vs =>
    cases x with
    | cell p t =>
     obtain ⟨⟨ad,h1,h2⟩,h3⟩:=h
     have:=ih _ h3
     have hp:a.tmps.getD p undef=.pointer (some ad):=by simp [ha.h p _ h1]
     have hq:(asAddr (.pointer (some ad))).run P W=.ok ad W:=rfl
     simp only [List.mapM_cons,Sem.run_bind,hp,hq,Sem.run_pure,Result.andThen_ok,h2]
     rw [this]
     rfl
    | tmp d =>
     obtain ⟨h1,h2⟩:=h
     have:=ih _ h2
     simp only [List.mapM_cons,Sem.run_bind,Sem.run_pure,Result.andThen_ok,this]
     simp [ha.h d _ h1]
 have h1:=key _ _ h
 unfold results
 rw [Sem.run_bind,Array.mapM_eq_mapM_toList]
 simp only [Sem.run_map]
 erw [h1]
 match vs with
 | []=>simp [one]
 | [v]=>simp [one]
 | v::w::r=>simp [one]
theorem Sep.res {g:Nat} {te:TypeId} {cs:List Value} (hS:Sep M w0 W (.box g te cs::L)) (ht:aX P t=some (ag,z,size,bytes)) (hl:cs.length=size) (h2:(ag||Nat.beq size 1)=true):(loadVar t ⟨g,0,none⟩).run P W=.ok (df ag cs) W:=by
 refine nL ht hl (λe=>by subst e; simpa using h2) λj u hj=>?_
 have hadd:(⟨g,0,none⟩:Addr).add j=⟨g,j,none⟩:=by unfold Addr.add; split <;> simp_all
 rw [hadd,cell_of_row W g j _ te (0,0) hS.box_cells]
 simpa using hj
def xj:Nat->List Value->Env
 | _,[]=>[]
 | k,v::vs=>(k,v)::xj (k+1) vs
theorem uR:∀ {vs:List Value} {k i:Nat} {v:Value},f5 (xj k vs) i=some v->k<=i/\vs[i-k]?=some v
 | [],_,_,_,h=>by simp [xj,f5] at h
 | u::vs,k,i,v,h=>by
  simp only [xj,f5] at h
  cases hb:Nat.beq k i
  ·rw [hb] at h
   have hne:k≠i:=λe=>by subst e; simp at hb
   obtain ⟨h1,h2⟩:=uR h
   refine ⟨by omega,?_⟩
   rw [show i-k=(i-(k+1))+1 by omega]
   simpa using h2
  ·rw [hb] at h
   obtain rfl:=Nat.eq_of_beq_eq_true hb
   injection h with h
   subst h
   simp
def Fin {σ:Type} (P:Program) (fn:Func) (M:Nat->Prop) (w:World) (v:σ->Value) (L:σ->List Ent):Exit->Env->World->Prop
 | .normal,E,W | .ret,E,W=>∃ s vs,sP P W E fn.results.toList vs/\one vs=v s/\Sep M w W (L s)
 | _,_,_=>False
theorem ao {σ:Type} {f:FuncId} {fn:Func} {c:Code} {args:Array Value} {w:World} {v:σ->Value} {L:σ->List Ent} (hf:P.funcs[f]?=some fn) (hb:fn.body=some c) (hn:Nat.ble args.size fn.ntmps=true)
  (h:CW P fn.ntmps c (xj 0 args.toList) w (Fin P fn M w v L)):Calls P f args w (Ret M w v L):=by
 refine calls_of_wp hf hb (Code.wp_mono ?_ (h _ ⟨rfl,?_,λi v hi=>?_⟩))
 ·rintro x a' W' ⟨E',ha',hr⟩
  cases x with
  | normal =>
   obtain ⟨s,vs,h1,h2,h3⟩:=hr
   exact ⟨ha'.d,_,ub ha' h1,s,by rw [h2],h3⟩
  | ret =>
   obtain ⟨s,vs,h1,h2,h3⟩:=hr
   exact ⟨ha'.d,_,ub ha' h1,s,by rw [h2],h3⟩
  | _=>exact hr.elim
 ·have:=Nat.le_of_ble_eq_true hn
  simp
  omega
 ·obtain ⟨_,h2⟩:=uR hi
  simp only [Nat.sub_zero] at h2
  have hlt:i<args.toList.length:=by
   rcases Nat.lt_or_ge i args.toList.length with h3 | h3
   ·exact h3
   ·rw [List.getElem?_eq_none h3] at h2; cases h2
  rw [Array.getElem?_append_left (by simpa using hlt)]
  simpa using h2
theorem aa {σ:Type} {fn:Func} {w:World} {v:σ->Value} {L:σ->List Ent} {vs:List Value} (s:σ) (h1:sP P W E fn.results.toList vs) (h2:one vs=v s) (h3:Sep M w W (L s)):Fin P fn M w v L .ret E W:=⟨s,vs,h1,h2,h3⟩
theorem xl {f:FuncId} {fn:Func} {as:Array Operand} {ts:Array TypeId} {vs:List Value} (hf:P.funcs[f]?=some fn) (hb:fn.body.isSome=true) (hn:(fn.name=="runtime.NumGoroutine")=false)
  (ho:o.op=.call { callee:=.value (.func f),args:=as,argTypes:=ts }) (hv:evs E as.toList=some vs):∀ a,hU n E a->(execOp a.eval o).run P W=.ok (.enter f vs.toArray) W:=by
 intro a ha
 have h1:=ha.evs hv
 have h2:as.map a.eval=vs.toArray:=by rw [<-h1]; apply Array.ext'; simp
 have h3:fn.name≠"runtime.NumGoroutine":=by simpa using hn
 obtain ⟨cb,hcb⟩:=Option.isSome_iff_exists.1 hb
 unfold execOp
 simp [ho,resolve,Deferred.ofValue,invoke,Act.eval,h2,callFunc,hf,h3,hcb]
theorem OpW.call {σ:Type} {f:FuncId} {fn:Func} {as:Array Operand} {ts:Array TypeId} {vs:List Value} {v:σ->Value} {L':σ->List Ent} (hS:Sep M w0 W L) (hf:P.funcs[f]?=some fn) (hc:Calls P f vs.toArray W (Ret No W v L'))
  (ho:o.op=.call { callee:=.value (.func f),args:=as,argTypes:=ts }) (hv:evs E as.toList=some vs)
  (k:∀ s W',Sep M w0 W' (L' s++L)->K (put E o.dst (v s)) W') (hb:fn.body.isSome=true:=by exact rfl) (hn:(fn.name=="runtime.NumGoroutine")=false:=by exact rfl) (hg:o.guard=none:=by exact rfl) (hd:okD n o.dst=true:=by exact rfl):OpW P n ops o E W K:=by
 refine .enter hg hd (xl hf hb hn ho hv) (hc.mono ?_)
 rintro x W' ⟨s,rfl,hs⟩
 refine ⟨_,rfl,k s W' (hS.new hs.frame (hs.own.mono λb hb=>⟨?_,hb.2⟩))⟩
 exact hb.1.elim id False.elim
theorem bnd {α β:Type} {x:Option α} {f:α->Option β} {r:β} (h:x.bind f=some r):∃ t,x=some t/\f t=some r:=Option.bind_eq_some_iff.1 h
theorem len {p:Operand} (hu:P.underlying t=some (.slice e)) (ho:o.op=.call { callee:=.builtin .len,args:=#[p],argTypes:=#[t] }) (hp:ev E p=some (.slice A m c)):eg P n E o W (.int .i64 m) W:=by
 intro a ha
 unfold execOp
 simp only [ho,resolve,Deferred.ofValue,invoke,builtin,Sem.run_bind,Sem.run_pure,Result.andThen_ok]
 simp [ha.ev hp,Builtin.len_,run_underlying hu,goInt]
theorem cv {p:Operand} {k j:IntKind} {q:Int} {s:TypeId} {d:TypeDesc} (hs:P.underlying s=some d) (hu:P.underlying t=some (.int k)) (ho:o.op=.convert s t p) (hp:ev E p=some (.int j q)):eg P n E o W (.int k (mY k q)) W:=by
 intro a ha
 unfold execOp
 cases d <;> simp [ho,ha.ev hp,convert,run_underlying hs,run_underlying hu,Conv.intToInt,lz]
end
noncomputable section
variable {P:Program} {n:Nat} {ops:Array Oper} {o:Oper} {rest:List Oper} {E E':Env} {W W' w0:World} {a:Act} {v u:Value} {K:Env->World->Prop} {M T S:Nat->Prop} {L L0:List Ent} {c d:Code}
variable {R R':Exit->Env->World->Prop}
def dF {σ ρ:Type} (f:σ->Option (σ⊕ρ)):Nat->σ->Option ρ
 | 0,_=>none
 | k+1,s=>match f s with
  | none=>none
  | some (.inl s')=>dF f k s'
  | some (.inr r)=>some r
theorem qW {σ ρ:Type} {f:σ->Option (σ⊕ρ)} {r:ρ}:∀ {k m:Nat} {s:σ},dF f k s=some r->k<=m->dF f m s=some r
 | 0,_,_,h,_=>by simp [dF] at h
 | k+1,0,_,_,hm=>by omega
 | k+1,m+1,s,h,hm=>by
  simp only [dF] at h ⊢
  cases hf:f s with
  | none=>rw [hf] at h; cases h
  | some y =>
   cases y with
   | inl s'=>rw [hf] at h; exact qW h (by omega)
   | inr r'=>rw [hf] at h; exact h
open Classical in
def aO {σ ρ:Type} (f:σ->Option (σ⊕ρ)) (s:σ):Option ρ:=
 if h:∃ k r,dF f k s=some r then dF f h.choose s else none
theorem nh {σ ρ:Type} {f:σ->Option (σ⊕ρ)} {s:σ} {r:ρ}:aO f s=some r↔∃ k,dF f k s=some r:=by
 unfold aO
 constructor
 ·intro h
  split at h
  ·exact ⟨_,h⟩
  ·cases h
 ·rintro ⟨k,hk⟩
  have hex:∃ k r,dF f k s=some r:=⟨k,r,hk⟩
  rw [dif_pos hex]
  obtain ⟨r',hr'⟩:=hex.choose_spec
  rcases Nat.le_total k hex.choose with h | h
  ·exact qW hk h
  ·have:=qW hr' h
   rw [hk] at this
   injection this with this
   subst this
   exact hr'
theorem dg {σ ρ:Type} (f:σ->Option (σ⊕ρ)) (s:σ):aO f s=match f s with
  | none=>none
  | some (.inl s')=>aO f s'
  | some (.inr r)=>some r:=by
 apply Option.ext
 intro r
 rw [nh]
 cases hf:f s with
 | none =>
  constructor
  ·rintro ⟨k,hk⟩
   cases k <;> simp [dF,hf] at hk
  ·intro h; cases h
 | some y =>
  cases y with
  | inl s' =>
   simp only
   rw [nh]
   constructor
   ·rintro ⟨k,hk⟩
    cases k with
    | zero=>simp [dF] at hk
    | succ k=>exact ⟨k,by simpa [dF,hf] using hk⟩
   ·rintro ⟨k,hk⟩
    exact ⟨k+1,by simpa [dF,hf] using hk⟩
  | inr r' =>
   constructor
   ·rintro ⟨k,hk⟩
    cases k with
    | zero=>simp [dF] at hk
    | succ k=>simpa [dF,hf] using hk
   ·intro h
    exact ⟨1,by simpa [dF,hf] using h⟩
theorem CW.mono (h:CW P n c E W R') (hr:∀ x E' W',R' x E' W'->R x E' W'):CW P n c E W R:=
 λa ha=>Code.wp_mono (λx a' W' ⟨E',ha',h'⟩=>⟨E',ha',hr _ _ _ h'⟩) (h a ha)
theorem CW.iter {σ ρ:Type} {f:σ->Option (σ⊕ρ)} {s:σ} {r:ρ} (Inv:σ->Env->World->Prop) (Rx:ρ->Exit->Env->World->Prop) (h:X.aO f s=some r) (h0:Inv s E W)
  (step:∀ s y E W,f s=some y->Inv s E W->CW P n c E W λx E' W'=>match y with
   | .inl s'=>x=.normal/\Inv s' E' W'
   | .inr r=>x≠.normal/\Rx r x E' W'):CW P n (.loop c) E W (Rx r):=by
 obtain ⟨k,hk⟩:=nh.1 h
 intro a ha
 refine wp_loop_ghost (λm a w=>∃ E s,dF f m s=some r/\Inv s E w/\hU n E a) k ⟨E,s,hk,h0,ha⟩ ?_
 rintro m a w ⟨E,s,hk,hI,hf⟩
 cases m with
 | zero=>simp [dF] at hk
 | succ k =>
  cases hfs:f s with
  | none=>simp [dF,hfs] at hk
  | some y =>
   refine Code.wp_mono ?_ (step s y E w hfs hI a hf)
   rintro x a' w' ⟨E',hf',hx⟩
   cases y with
   | inl s' =>
    obtain ⟨rfl,hI'⟩:=hx
    exact ⟨k,by omega,E',s',by simpa [dF,hfs] using hk,hI',hf'⟩
   | inr r' =>
    obtain ⟨hne,hR⟩:=hx
    have:r'=r:=by simpa [dF,hfs] using hk
    subst this
    cases x <;> first | exact ⟨E',hf',hR⟩ | exact absurd rfl hne
theorem BB {Q Q':Exit->Act->World->Prop} {k k':Act->World->Prop} (hk:∀ a w,k a w->k' a w) (hq:∀ x a w,x≠.normal->Q x a w->Q' x a w) (hh:o.wp P a W k Q):o.wp P a W k' Q':=by
 unfold Oper.wp at *
 generalize (execOp a.eval o).run P W=r at *
 have hl:LetsOut Q->LetsOut Q':=λ⟨a,w,h⟩=>⟨a,w,hq _ _ _ (by simp) h⟩
 cases r with
 | ok n w' =>
  cases n <;> simp only [Oper.upon] at hh ⊢ <;>
   first
    | exact hk _ _ hh
    | exact Calls.mono hh (λe w'' he=>by cases e <;> first | exact hk _ _ he | exact hl he | exact hq _ _ _ (by simp) he)
    | exact Rows.mono hh (λ_ _ he=>hk _ _ he)
 | halt x w'=>cases x <;> simp only [Oper.upon] at hh ⊢ <;> exact hq _ _ _ (by simp) hh
theorem yj {Q Q':Exit->Act->World->Prop} {l2:List Oper} (hn:∀ a w,Q' .normal a w->wpList P ops Q l2 a w) (hq:∀ x a w,x≠.normal->Q' x a w->Q x a w):∀ {l:List Oper} {a:Act} {w:World},wpList P ops Q' l a w->wpList P ops Q (l++l2) a w:=by
 intro l
 induction l with
 | nil=>intro a w h; exact hn _ _ h
 | cons o l ih =>
  intro a w h
  simp only [List.cons_append]
  unfold wpList at h ⊢
  split
  ·rename_i hw
   rw [if_pos hw] at h
   rcases h with h | ⟨h1,b,v,h2⟩
   ·exact .inl (BB (λa w=>ih) hq h)
   ·exact .inr ⟨h1,b,v,hq _ _ _ (by simp) h2⟩
  ·rename_i hw
   rw [if_neg hw] at h
   exact ih h
theorem RG.cut {todo:List Oper} (m:Nat) (J:Env->World->Prop) (h1:RG P n ops (todo.take m) E W J) (h2:∀ E' W',J E' W'->RG P n ops (todo.drop m) E' W' K):RG P n ops todo E W K:=by
 intro a Q ha hk
 have:=yj (P:=P) (ops:=ops) (Q:=Q) (Q':=λx a w=>x=.normal/\wpList P ops Q (todo.drop m) a w) (l2:=todo.drop m) (λa w h=>h.2) (λx a w hx h=>absurd h.1 hx)
  (h1 a _ ha λa' E' W' ha' hJ=>⟨rfl,h2 E' W' hJ a' Q ha' hk⟩)
 rwa [List.take_append_drop] at this
def iU:Nat->Env->Bool
 | 0,_=>true
 | _+1,[]=>true
 | k+1,(i,_)::r=>(f5 (r.drop k) i).isNone&&iU k r
theorem qX:∀ {k:Nat} {E:Env} {i:Nat} {v:Value},iU k E=true->f5 (E.drop k) i=some v->f5 E i=some v
 | 0,_,_,_,_,h=>h
 | _+1,[],_,_,_,h=>by simp [f5] at h
 | k+1,(j,u)::r,i,v,hf,h=>by
  simp only [iU,Bool.and_eq_true] at hf
  simp only [List.drop_succ_cons] at h
  simp only [f5]
  cases hb:Nat.beq j i
  ·exact qX hf.2 h
  ·obtain rfl:=Nat.eq_of_beq_eq_true hb
   rw [h] at hf
   simp at hf
def Ck (d:Nat) (c:Bool) (E:Env) (M:Nat->Prop) (w0:World) (L:List Ent) (E':Env) (W':World):Prop:=
 ∃ k,E'.drop k=E/\iU k E'=true/\f5 E' d=some (.bool c)/\Sep M w0 W' L
theorem RG.cu {todo:List Oper} (m d:Nat) (c:Bool) (hS:Sep M w0 W L) (h1:RG P n ops (todo.take m) E W (Ck d c E M w0 L)) (h2:∀ W',Sep M w0 W' L->RG P n ops (todo.drop m) ((d,.bool c)::E) W' K):RG P n ops todo E W K:=by
 refine .cut m _ h1 λE' W' ⟨k,e1,e2,e3,hS⟩=>?_
 intro a Q ha hk
 refine h2 W' hS a Q (ha.sub λi v hi=>?_) hk
 simp only [f5] at hi
 cases hb:Nat.beq d i
 ·rw [hb] at hi
  subst e1
  exact qX e2 hi
 ·rw [hb] at hi
  obtain rfl:=Nat.eq_of_beq_eq_true hb
  injection hi with hi
  subst hi
  exact e3
theorem ck (k:Nat) {d:Nat} {b c:Bool} (hS:Sep M w0 W L) (h3:f5 E' d=some (.bool b):=by exact rfl) (h4:b=c:=by exact rfl) (h1:E'.drop k=E:=by exact rfl) (h2:iU k E'=true:=by exact rfl):Ck d c E M w0 L E' W:=⟨k,h1,h2,by rw [h3,h4],hS⟩
def gdv (l:List Oper) (E:Env):Option (Nat×Bool)->Option (Bool×Bool)
 | none=>none
 | some (j,b)=>match nth? l j with
  | some o=>match o.dst with
   | some d=>match f5 E d with
    | some (.bool c)=>some (c,b)
    | _=>none
   | none=>none
  | none=>none
theorem po {g:Option (Nat×Bool)} {c b:Bool} (h:gdv ops.toList E g=some (c,b)):∃ j d,g=some (j,b)/\(ops[j]?).bind (·.dst)=some d/\f5 E d=some (.bool c):=by
 cases g with
 | none=>simp [gdv] at h
 | some p =>
  obtain ⟨j,b'⟩:=p
  simp only [gdv] at h
  cases h1:nth? ops.toList j <;> simp only [h1] at h <;> try contradiction
  rename_i o
  cases h2:o.dst <;> simp only [h2] at h <;> try contradiction
  rename_i d
  cases h3:f5 E d <;> simp only [h3] at h <;> try contradiction
  rename_i z
  cases z <;> (try simp only at h) <;> try contradiction
  injection h with h
  simp only [Prod.mk.injEq] at h
  obtain ⟨rfl,rfl⟩:=h
  rw [nth?_eq] at h1
  exact ⟨j,d,rfl,by rw [show ops[j]?=some o by simpa using h1]; simpa using h2,h3⟩
theorem RG.g {c b:Bool} (hc:c=b) (h:RG P n ops ({ o with guard:=none }::rest) E W K) (hg:gdv ops.toList E o.guard=some (c,b):=by exact rfl):RG P n ops (o::rest) E W K:=by
 subst hc
 obtain ⟨j,d,h1,h2,h3⟩:=po hg
 intro a Q ha hk
 have hw:Region.wanted o (yielded ops a.tmps)=true:=by simp [Region.wanted,h1,nj ha h2 h3]
 have:=h a Q ha hk
 unfold wpList at this ⊢
 rw [if_pos (by simp [Region.wanted])] at this
 rw [if_pos hw]
 exact this
theorem RG.x {c b:Bool} (hc:c=!b) (h:RG P n ops rest (put E o.dst undef) W K) (hg:gdv ops.toList E o.guard=some (c,b):=by exact rfl) (hd:okD n o.dst=true:=by exact rfl):RG P n ops (o::rest) E W K:=by
 subst hc
 obtain ⟨j,d,h1,h2,h3⟩:=po hg
 intro a Q ha hk
 have hw:Region.wanted o (yielded ops a.tmps)=false:=by simp [Region.wanted,h1,nj ha h2 h3]
 unfold wpList
 rw [if_neg (by simp [hw])]
 exact h _ Q (ha.put hd _) hk
def gdu (l:List Oper) (E:Env):Option (Nat×Bool)->Bool
 | none=>false
 | some (j,_)=>match nth? l j with
  | some o=>match o.dst with
   | some d=>match f5 E d with
    | some (.bool _)=>false
    | some _=>true
    | none=>false
   | none=>false
  | none=>false
theorem RG.xu (h:RG P n ops rest (put E o.dst undef) W K) (hg:gdu ops.toList E o.guard=true:=by exact rfl) (hd:okD n o.dst=true:=by exact rfl):RG P n ops (o::rest) E W K:=by
 intro a Q ha hk
 have hw:Region.wanted o (yielded ops a.tmps)=false:=by
  cases hq:o.guard with
  | none=>rw [hq] at hg; simp [gdu] at hg
  | some p =>
   obtain ⟨j,b⟩:=p
   rw [hq] at hg
   simp only [gdu] at hg
   cases h1:nth? ops.toList j <;> simp only [h1] at hg <;> try contradiction
   rename_i o'
   cases h2:o'.dst <;> simp only [h2] at hg <;> try contradiction
   rename_i d
   cases h3:f5 E d <;> simp only [h3] at hg <;> try contradiction
   rename_i z
   rw [nth?_eq] at h1
   have hj:ops[j]?=some o':=by simpa using h1
   have hd':=ha.h _ _ h3
   cases z <;> simp only at hg <;> first | contradiction | simp [Region.wanted,hq,yielded,hj,h2,hd']
 unfold wpList
 rw [if_neg (by simp [hw])]
 exact h _ Q (ha.put hd _) hk
theorem pk {x y z:Operand} {b:Bool} (ho:o.op=.pick x y z) (hx:ev E x=some (.bool b)) (hy:b=true->ev E y=some v) (hz:b=false->ev E z=some v):eg P n E o W v W:=by
 intro a ha
 unfold execOp
 simp only [ho,ha.ev hx]
 cases b
 ·simp [ha.ev (hz rfl),asBool]
 ·simp [ha.ev (hy rfl),asBool]
theorem pkt {x y z:Operand} {b:Bool} (hb:b=true) (ho:o.op=.pick x y z) (hx:ev E x=some (.bool b)) (hy:ev E y=some v):eg P n E o W v W:=pk ho hx (λ_=>hy) λh=>by rw [hb] at h; cases h
theorem pkf {x y z:Operand} {b:Bool} (hb:b=false) (ho:o.op=.pick x y z) (hx:ev E x=some (.bool b)) (hy:ev E z=some v):eg P n E o W v W:=pk ho hx (λh=>by rw [hb] at h; cases h) λ_=>hy
theorem RG.both {todo:List Oper} (b:Bool) (ht:b=true->RG P n ops todo E W K) (hf:b=false->RG P n ops todo E W K):RG P n ops todo E W K:=by
 cases b
 ·exact hf rfl
 ·exact ht rfl
theorem bp {b c:Bool} (h:b=true):c=(b&&c):=by subst h; rfl
theorem bq {b c:Bool} (h:b=false):false=(b&&c):=by subst h; rfl
theorem gY {b c:Bool} (h:b=true):true=(b||c):=by subst h; rfl
theorem gr {b c:Bool} (h:b=false):c=(b||c):=by subst h; rfl
def xm:List Ent->List Nat->List Ent
 | _,[]=>[]
 | L,i::is=>match nth? L i with
  | some x=>x::xm (L.eraseIdx i) is
  | none=>[]
theorem bw.pick:∀ {is:List Nat} {L:List Ent} {Ok:Nat->Prop},bw W L Ok->bw W (X.xm L is) Ok
 | [],_,_,_=>trivial
 | i::is,L,Ok,h=>by
  simp only [X.xm]
  cases hi:nth? L i with
  | none=>exact trivial
  | some x =>
   rw [nth?_eq] at hi
   obtain ⟨S,h1,h2,h3⟩:=h.pull hi
   exact ⟨S,h1,h2,bw.pick h3⟩
theorem Sep.pick (h:Sep M w0 W L) (is:List Nat):Sep M w0 W (X.xm L is):=⟨h.frame,h.own.pick⟩
def Am (l:List Nat):Bool:=match l with
 | []=>true
 | _=>false
end
noncomputable section
variable {P:Program} {n:Nat} {ops:Array Oper} {o:Oper} {rest:List Oper} {E E':Env} {W W' w w0:World} {a:Act} {v u:Value} {K:Env->World->Prop} {M T S:Nat->Prop} {L L0:List Ent} {c d:Code}
variable {R R':Exit->Env->World->Prop} {t e:TypeId} {ag:Bool} {z:Option Value} {zv:Value} {size bytes:Nat} {A A2:Option Addr} {m k c1 c2:Nat} {α:Type} {enc:α->D} {l l2 r:List α} {i:Int} {x y:α}
variable {e1 e2 e3 e4 e5 e6 e7 e8 e9 e10 e11 e12:Ent}
def sel {α:Type} (b:Bool) (x y:α):α:=match b with
 | true=>x
 | false=>y
theorem aC {b:Bool} {α:Type} {x y:Option α} {r:α} (hb:b=true) (h:sel b x y=some r):x=some r:=by subst hb; exact h
theorem aD {b:Bool} {α:Type} {x y:Option α} {r:α} (hb:b=false) (h:sel b x y=some r):y=some r:=by subst hb; exact h
def kV {α β γ:Type} (s:α⊕β) (f:α->γ) (g:β->γ):γ:=match s with
 | .inl x=>f x
 | .inr y=>g y
def yU (E:Env):Env->Option (List Value)
 | []=>some []
 | (i,_)::r=>match f5 E i,yU E r with
  | some v,some vs=>some (v::vs)
  | _,_=>none
def Co:Env->List Value
 | []=>[]
 | (_,v)::r=>v::Co r
theorem sb:∀ {X:Env},yU E X=some (Co X)->al E X
 | [],_=>trivial
 | (i,v)::r,h=>by
  simp only [yU,Co] at h
  cases h1:f5 E i <;> simp only [h1] at h <;> try contradiction
  cases h2:yU E r <;> simp only [h2] at h <;> try contradiction
  injection h with h
  simp only [List.cons.injEq] at h
  obtain ⟨rfl,rfl⟩:=h
  exact ⟨h1,sb h2⟩
theorem Sep.p1 (h:Sep M w0 W (e1::e2::L)):Sep M w0 W (e2::e1::L):=h.swap
theorem Sep.p2 (h:Sep M w0 W (e1::e2::e3::L)):Sep M w0 W (e3::e1::e2::L):=h.pull (i:=2) rfl
theorem Sep.p3 (h:Sep M w0 W (e1::e2::e3::e4::L)):Sep M w0 W (e4::e1::e2::e3::L):=h.pull (i:=3) rfl
theorem Sep.p4 (h:Sep M w0 W (e1::e2::e3::e4::e5::L)):Sep M w0 W (e5::e1::e2::e3::e4::L):=h.pull (i:=4) rfl
theorem Sep.p5 (h:Sep M w0 W (e1::e2::e3::e4::e5::e6::L)):Sep M w0 W (e6::e1::e2::e3::e4::e5::L):=h.pull (i:=5) rfl
theorem Sep.p6 (h:Sep M w0 W (e1::e2::e3::e4::e5::e6::e7::L)):Sep M w0 W (e7::e1::e2::e3::e4::e5::e6::L):=h.pull (i:=6) rfl
theorem Sep.p8 (h:Sep M w0 W (e1::e2::e3::e4::e5::e6::e7::e8::e9::L)):Sep M w0 W (e9::e1::e2::e3::e4::e5::e6::e7::e8::L):=h.pull (i:=8) rfl
theorem Sep.to {L':List Ent} (h:Sep M w0 W L) (is:List Nat) (hL:X.xm L is=L':=by exact rfl):Sep M w0 W L':=hL▸h.pick is
theorem CW.via (h:CW P n c E W R') (hr:∀ x E' W',R' x E' W'->∃ E'',(∀ i v,f5 E'' i=some v->f5 E' i=some v)/\R x E'' W'):CW P n c E W R:=
 λa ha=>Code.wp_mono (λx a' W' ⟨E',ha',h'⟩=>let ⟨E'',h1,h2⟩:=hr _ _ _ h'; ⟨E'',ha'.sub h1,h2⟩) (h a ha)
theorem rn:sP P W E [] []:=trivial
theorem rt {d:Nat} {rs:List ResultVar} {vs:List Value} (h:f5 E d=some v) (r:sP P W E rs vs):sP P W E (.tmp d::rs) (v::vs):=⟨h,r⟩
theorem rc {d g:Nat} {te:TypeId} {cs:List Value} {rs:List ResultVar} {vs:List Value} (hS:Sep M w0 W (.box g te cs::L)) (ht:aX P t=some (ag,z,size,bytes)) (h:f5 E d=some (Pt g)) (r:sP P W E rs vs)
  (hl:cs.length=size) (h2:(ag||Nat.beq size 1)=true):sP P W E (.cell d t::rs) (df ag cs::vs):=⟨⟨_,h,hS.res ht hl h2⟩,r⟩
def An (places:List (Nat×Nat)) (zc:List Value) (E:Env) (ps:List (Nat×Operand)):Option (List Value):=match yi ps E with
 | some vs=>rP (nth? places) zc vs
 | none=>none
theorem bs {parts:Array (Nat×Operand)} {places:List (Nat×Nat)} {zc cs:List Value} (h:oV P t=some (places,zc)) (ho:o.op=.build t parts) (hp:An places zc E parts.toList=some cs):eg P n E o W (.agg cs.toArray) W:=by
 unfold An at hp
 split at hp
 ·rename_i vs hz
  exact bd h ho hz hp
 ·cases hp
def uS (enc:α->D):List α->Option (List (List Value))
 | []=>some []
 | x::l=>match dE (enc x),uS enc l with
  | some c,some cs=>some (c::cs)
  | _,_=>none
def qY:List Value->List (List Value)
 | []=>[]
 | v::r=>v.cells.toList::qY r
theorem yV:∀ {l:List α} {vs:List Value},uS enc l=some (qY vs)->yS enc l vs true
 | [],[],_=>trivial
 | [],_::_,h=>by simp [uS,qY] at h
 | x::l,vs,h=>by
  simp only [uS] at h
  cases h1:dE (enc x) <;> simp only [h1] at h <;> try contradiction
  cases h2:uS enc l <;> simp only [h2] at h <;> try contradiction
  cases vs with
  | nil=>simp [qY] at h
  | cons v vs =>
   simp only [qY,Option.some.injEq,List.cons.injEq] at h
   obtain ⟨rfl,rfl⟩:=h
   exact ⟨h1,yV h2⟩
theorem OpW.li {k:Nat} {parts:Array (Nat×Operand)} {vs:List Value} (l:List α) (enc:α->D) (hu:P.underlying t=some (.slice e)) (ht:aX P e=some (ag,some zv,size,bytes)) (hS:Sep M w0 W L) (ho:o.op=.buildSlice t k parts)
  (hp:mN 0 parts.toList E=some vs) (hk:vs.length=k) (hf:uS enc l=some (qY vs)) 
  (h:∀ A c W',Sep M w0 W' (md A c e size enc l::L)->K (put E o.dst (.slice A l.length c)) W') (hl:k=l.length) (hsz:∀ x:α,(enc x).sz=size) (hle:Nat.ble (k*size) 16777216=true:=by exact rfl) (h0:Nat.blt 0 size=true:=by exact rfl) (hg:o.guard=none:=by exact rfl) (hd:okD n o.dst=true:=by exact rfl):OpW P n ops o E W K:=
 .lit l enc hu ht hS ho hp hk hl (yV hf) (λx _=>hsz x) h hle h0 hg hd
theorem OpW.cO {f:FuncId} {fn:Func} {as:Array Operand} {ts:Array TypeId} {vs:List Value} {v:Value} (hS:Sep M w0 W L) (hf:P.funcs[f]?=some fn) (hc:Calls P f vs.toArray W (Ret No W (λ_:Unit=>v) λ_=>[]))
  (ho:o.op=.call { callee:=.value (.func f),args:=as,argTypes:=ts }) (hv:evs E as.toList=some vs)
  (k:∀ W',Sep M w0 W' L->K (put E o.dst v) W') (hb:fn.body.isSome=true:=by exact rfl) (hn:(fn.name=="runtime.NumGoroutine")=false:=by exact rfl) (hg:o.guard=none:=by exact rfl) (hd:okD n o.dst=true:=by exact rfl):OpW P n ops o E W K:=
 .call hS hf hc ho hv (λs W' h=>k W' (by simpa using h)) hb hn hg hd
theorem pr (hv:pv (ev E) o.op=some v):eg P n E o W v W:=λa ha=>Al (ρ:=ev E) ha hv
theorem Rd.flat {cs:List Value} (h:Rd W T A k e size enc l) (hx:nth l i=Option.some x) (hf:X.dE (enc x)=Option.some cs):∀ j u,cs[j]?=Option.some u->W.cell? (bP A (i.toNat*size+j))=Option.some u:=by
 obtain ⟨cs',h1,h2,h3⟩:=h.elt hx
 rw [oG hf h1] at h3
 exact h3
theorem uT {cs:List Value} {off:Nat} (ht:aX P e=some (ag,z,size,bytes)) (hl:(seg cs off size).length=size) (h2:(ag||Nat.beq size 1)=true):(part e cs.toArray off).run P W=.ok (df ag (seg cs off size)) W:=by
 obtain ⟨ii,d,hi,hd,f1,f2,f3,f4⟩:=mc ht
 have hagg:(isAgg e).run P W=.ok ag W:=by rw [sO hd,f1]
 unfold part
 simp only [Sem.run_bind,hagg,Result.andThen_ok]
 cases ag with
 | true =>
  simp only [if_true,Sem.run_bind,dQ ht,Result.andThen_ok,Sem.run_pure]
  simp only [df,seg]
  congr 2
  apply Array.ext'
  simp [List.take_drop]
 | false =>
  have hs:size=1:=by simpa using h2
  subst hs
  match hq:seg cs off 1,hl with
  | [y],_ =>
   have h6:cs[off]?=some y:=by
    have:(seg cs off 1)[0]?=some y:=by rw [hq]; rfl
    simp only [seg,List.getElem?_take,List.getElem?_drop] at this
    simpa using this
   simp [h6,df]
def feq:Value->Value->Option Bool
 | .int j x,.int k y=>match yP j k with
  | true=>some (x==y)
  | false=>none
 | .bool x,.bool y=>some (x==y)
 | .string x,.string y=>some (x.toList==y.toList)
 | _,_=>none
def sQ:TypeDesc->Value->Bool
 | .int _,.int _ _=>true
 | .bool,.bool _=>true
 | .string,.string _=>true
 | _,_=>false
def pp (P:Program) (t:TypeId):Option (List (Nat×TypeDesc)):=match P.underlying t with
 | some (.struct fs)=>match !P.stoodInHeld t&&!P.eqGuardType P.depth t with
  | true=>fs.toList.mapM λf=>match f.name=="_",aX P f.type,P.underlying f.type with
   | false,some (false,_,1,_),some d=>some (f.offset,d)
   | _,_,_=>none
  | false=>none
 | _=>none
def rQ (xs ys:List Value):List (Nat×TypeDesc)->Option Bool
 | []=>some true
 | (i,d)::r=>match nth? xs i,nth? ys i with
  | some u,some v=>match sQ d u,sQ d v,feq u v,rQ xs ys r with
   | true,true,some b,some c=>some (b&&c)
   | _,_,_,_=>none
  | _,_=>none
theorem BC {d:Nat} {t:TypeId} {td:TypeDesc} {b:Bool} (hu:P.underlying t=some td) (h1:sQ td u=true) (h2:sQ td v=true) (h:feq u v=some b):(Op.equalIn (d+1) t u v).run P W=.ok b W:=by
 cases td <;> cases u <;> simp only [sQ] at h1 <;> try contradiction
 all_goals (cases v <;> simp only [sQ] at h2 <;> try contradiction)
 ·simp only [feq,Option.some.injEq] at h
  subst h
  exact run_equalIn_bool W d t _ _ hu
 ·simp only [feq] at h
  split at h
  ·rename_i hs
   obtain rfl:=xf hs
   injection h with h
   subst h
   exact run_equalIn_int W d t _ _ _ _ hu
  ·cases h
 ·simp only [feq,Option.some.injEq] at h
  subst h
  exact run_equalIn_string W d t _ _ hu
theorem sR {d:Nat} {xs ys:List Value}:∀ {fs:List Field} {offs:List (Nat×TypeDesc)} {b:Bool},
  (fs.mapM λf=>match f.name=="_",aX P f.type,P.underlying f.type with
   | false,some (false,_,1,_),some d=>some (f.offset,d)
   | _,_,_=>none)=some offs->rQ xs ys offs=some b->(Op.eqFields (d+1) xs.toArray ys.toArray fs).run P W=.ok b W
 | [],offs,b,h,hb=>by
  simp only [List.mapM_nil,Option.pure_def,Option.some.injEq] at h
  subst h
  simp only [rQ,Option.some.injEq] at hb
  subst hb
  rfl
 | f::fs,offs,b,h,hb=>by
  simp only [List.mapM_cons,Option.pure_def,Option.bind_eq_bind] at h
  obtain ⟨od,h1,h⟩:=Option.bind_eq_some_iff.1 h
  obtain ⟨r,h2,h⟩:=Option.bind_eq_some_iff.1 h
  injection h with h
  subst h
  split at h1 <;> try contradiction
  rename_i zz by' td hn ht hu
  injection h1 with h1
  subst h1
  simp only [rQ] at hb
  cases hx:nth? xs f.offset <;> simp only [hx] at hb <;> try contradiction
  rename_i uu
  cases hy:nth? ys f.offset <;> simp only [hy] at hb <;> try contradiction
  rename_i vv
  split at hb <;> try contradiction
  rename_i b1 b2 k1 k2 k3 k4
  injection hb with hb
  subst hb
  have hs:∀ {zs:List Value} {q:Value},nth? zs f.offset=some q->(part f.type zs.toArray f.offset).run P W=.ok q W:=λ{zs q} hq=>by
   rw [nth?_eq] at hq
   have hlt:f.offset<zs.length:=by
    rcases Nat.lt_or_ge f.offset zs.length with h1 | h1
    ·exact h1
    ·rw [List.getElem?_eq_none h1] at hq; cases hq
   have hseg:seg zs f.offset 1=[q]:=by
    simp only [seg]
    rw [List.drop_eq_getElem_cons hlt]
    rw [List.getElem?_eq_getElem hlt] at hq
    injection hq with hq
    simp [hq]
   have:=uT (P:=P) (W:=W) (cs:=zs) (off:=f.offset) ht (by rw [hseg]; rfl) rfl
   rw [hseg] at this
   exact this
  have hn':f.name≠"_":=by simpa using hn
  have he:=BC (P:=P) (W:=W) (d:=d) hu k1 k2 k3
  have ih:=sR (d:=d) h2 k4
  rw [Op.eqFields]
  simp only [if_pos hn',Sem.run_bind,hs hx,hs hy,he,Result.andThen_ok]
  cases b1
  ·simp
  ·simpa using ih
theorem qZ {offs:List (Nat×TypeDesc)} (h:pp P t=some offs):∃ fs,P.underlying t=some (.struct fs)/\P.stoodInHeld t=false/\P.eqGuardType P.depth t=false/\(fs.toList.mapM λf=>match f.name=="_",aX P f.type,P.underlying f.type with
   | false,some (false,_,1,_),some d=>some (f.offset,d)
   | _,_,_=>none)=some offs:=by
 unfold pp at h
 split at h <;> try contradiction
 rename_i fs hu
 split at h <;> try contradiction
 rename_i hc
 simp only [Bool.and_eq_true,Bool.not_eq_true'] at hc
 exact ⟨fs,hu,hc.1,hc.2,h⟩
theorem yW {offs:List (Nat×TypeDesc)} {xs ys:List Value} {b:Bool} (h:pp P t=some offs) (hv:rQ xs ys offs=some b):(Op.equalIn 10000 t (.agg xs.toArray) (.agg ys.toArray)).run P W=.ok b W:=by
 obtain ⟨fs,h1,h2,h3,h4⟩:=qZ h
 have hf:P.fieldsOf t=fs:=by simp [Program.fieldsOf,h1]
 rw [run_equalIn_struct (P:=P) W 9999 t _ _ (by rw [hf]; exact h1) h2,hf]
 exact sR (d:=9998) h4 hv
theorem uc {op:BinOp} {p q:Operand} {xs ys:Array Value} {offs:List (Nat×TypeDesc)} (h:pp P t=some offs):(eqGuard op t p q (.agg xs) (.agg ys)).run P W=.ok () W:=by
 obtain ⟨fs,h1,h2,h3,h4⟩:=qZ h
 unfold eqGuard
 cases op <;> first | rfl | simp [run_program,h3]
theorem eqs {p q:Operand} {t':TypeId} {offs:List (Nat×TypeDesc)} {xs ys:List Value} {b:Bool} (h:pp P t=some offs) (ho:o.op=.binOp .eql t p q t') (hp:ev E p=some (.agg xs.toArray)) (hq:ev E q=some (.agg ys.toArray)) (hv:rQ xs ys offs=some b):eg P n E o W (.bool b) W:=by
 intro a ha
 unfold execOp
 simp only [ho,ha.ev hp,ha.ev hq,Sem.run_bind,uc h,Result.andThen_ok,run_eql_struct,yW h hv]
 rfl
theorem nes {p q:Operand} {t':TypeId} {offs:List (Nat×TypeDesc)} {xs ys:List Value} {b:Bool} (h:pp P t=some offs) (ho:o.op=.binOp .neq t p q t') (hp:ev E p=some (.agg xs.toArray)) (hq:ev E q=some (.agg ys.toArray)) (hv:rQ xs ys offs=some b):eg P n E o W (.bool (!b)) W:=by
 intro a ha
 unfold execOp
 simp only [ho,ha.ev hp,ha.ev hq,Sem.run_bind,uc h,Result.andThen_ok,run_neq_struct,yW h hv]
 rfl
theorem eqb {p q:Operand} {t':TypeId} {x y:Bool} (hu:P.underlying t=some .bool) (ho:o.op=.binOp .eql t p q t') (hp:ev E p=some (.bool x)) (hq:ev E q=some (.bool y)):eg P n E o W (.bool (x==y)) W:=by
 intro a ha
 unfold execOp
 simp [ho,ha.ev hp,ha.ev hq,eqGuard,binOp,Op.equal,Op.maxDepth,run_equalIn_bool W 9999 t x y hu]
theorem neb {p q:Operand} {t':TypeId} {x y:Bool} (hu:P.underlying t=some .bool) (ho:o.op=.binOp .neq t p q t') (hp:ev E p=some (.bool x)) (hq:ev E q=some (.bool y)):eg P n E o W (.bool (x !=y)) W:=by
 intro a ha
 unfold execOp
 simp [ho,ha.ev hp,ha.ev hq,eqGuard,binOp,Op.equal,Op.maxDepth,run_equalIn_bool W 9999 t x y hu,bne]
def Cp (g:Nat) (cs:List Value) (w:World):Prop:=∀ j u,cs[j]?=some u->w.cell? ⟨g,j,none⟩=some u
theorem Cp.at {g:Nat} {c:Value} {cs:List Value} (h:Cp g (c::cs) w) (hS:Sep M w W L) (hM:¬ M g):Cp g (c::cs) W:=by
 intro j u hj
 have h0:=h 0 c rfl
 have hlt:g<w.heap.size:=by
  rcases Nat.lt_or_ge g w.heap.size with h1 | h1
  ·exact h1
  ·simp [World.cell?,Array.getElem?_eq_none h1] at h0
 rw [World.cell?_of_block (w:=w) (hS.frame.block g hlt hM)]
 exact h j u hj
theorem Sep.below (h:Sep No w W L):Go.RowKit.Below w.heap.size w W:=⟨h.frame.os,h.frame.tape,h.frame.output,h.frame.size,λk hk=>h.frame.block k hk id⟩
theorem Sep.sm {S:Nat->Prop} (hO:bw w L S) (hS:∀ b,S b->b<w.heap.size):Sep S w w L:=⟨.refl _ _,hO.mono λb hb=>⟨.inr hb,hS b hb⟩⟩
theorem Cr {lo hi:Int} {A':Option Addr} {c':Nat} (h:cut l lo hi=some r) (hr:Rd W T A c1 e size enc l) (hc':r.length<=c') (hA:r≠[]->A'=A.map (·.add (lo.toNat*size))):Rd W T A' c' e size enc r:=by
 obtain ⟨hrr,h0,h1,h2⟩:=rO h
 obtain ⟨A0,cap,cs,e1,e2,e3,e4,e5,e6⟩:=hr
 simp only [List.cons.injEq,and_true,Value.slice.injEq] at e1
 obtain ⟨rfl,_,rfl⟩:=e1
 have hrl:r.length=hi.toNat-lo.toNat:=by rw [hrr]; simp; omega
 have key:∀ {xs:List D} {cs:List Value},D.rds W xs T cs->(∀ x∈xs,x.sz=size)->∀ k,D.rds W (xs.drop k) T (cs.drop (k*size))/\D.rds W (xs.take k) T (cs.take (k*size)):=by
  intro xs
  induction xs with
  | nil=>intro cs hcs _ k; have:cs=[]:=hcs; subst this; simp [D.rds]
  | cons x xs ih =>
   intro cs hcs hs k
   obtain ⟨d1,d2,f1,f2,f3,f4⟩:=hcs
   have hx:=hs x (by simp)
   cases k with
   | zero=>simp only [Nat.zero_mul,List.drop_zero,List.take_zero]; exact ⟨⟨d1,d2,f1,f2,f3,f4⟩,rfl⟩
   | succ k =>
    have ih':=ih f4 (λy hy=>hs y (by simp [hy])) k
    have hd1:d1.length=size:=by omega
    have e:(k+1)*size=d1.length+k*size:=by rw [hd1,Nat.add_mul]; omega
    have g1:List.drop (d1.length+k*size) d1=[]:=List.drop_eq_nil_of_le (by omega)
    have g2:List.take (d1.length+k*size) d1=d1:=List.take_of_length_le (by omega)
    have g3:d1.length+k*size-d1.length=k*size:=by omega
    rw [f1,e,List.drop_append,List.take_append,g1,g2,g3]
    exact ⟨ih'.1,d1,_,rfl,f2,f3,ih'.2⟩
 have k1:=(key e6 e4 hi.toNat).2
 have e4':∀ x∈(l.map enc).take hi.toNat,x.sz=size:=λx hx=>e4 x (List.mem_of_mem_take hx)
 have k2:=(key k1 e4' lo.toNat).1
 refine ⟨A',c',(cs.take (hi.toNat*size)).drop (lo.toNat*size),by simp [List.length_map],by simpa using hc',?_,λx hx=>?_,λhne=>?_,?_⟩
 ·simp only [List.length_map] at e3 ⊢; omega
 ·rw [hrr,List.map_drop,List.map_take] at hx
  exact e4' x (List.mem_of_mem_drop hx)
 ·have hner:r≠[]:=λhn=>hne (by rw [hn]; rfl)
  have hne':l.map enc≠[]:=by
   intro hn
   rw [List.map_eq_nil_iff] at hn
   subst hn
   apply hner
   rw [hrr]
   simp
  obtain ⟨ad,rfl,f2,f3⟩:=e5 hne'
  refine ⟨ad.add (lo.toNat*size),hA hner,?_,λj u hj=>?_⟩
  ·have:(ad.add (lo.toNat*size)).block=ad.block:=by unfold Addr.add; split <;> rfl
   rw [this]; exact f2
  ·have hj':cs[lo.toNat*size+j]?=some u:=by
    rw [List.getElem?_drop,List.getElem?_take] at hj
    split at hj
    ·exact hj
    ·cases hj
   rw [Addr.add_add]; exact f3 _ _ hj'
 ·rw [hrr,List.map_drop,List.map_take]; exact k2
def evI (E:Env) (d:Int):Option Operand->Option Int
 | none=>some d
 | some x=>match ev E x with
  | some (.int _ i)=>some i
  | _=>none
def wF (A:Option Addr) (c1 lo size:Nat):Option Addr:=if c1=lo then A else A.map (·.add (lo*size))
theorem pt {k:IntKind} {i:Int} {y:Nat} {eQ:BoundsCode} (h0:0<=i) (h1:i<=y):(Instr.sliceBound (.int k i) y eQ).run P W=.ok i.toNat W:=by
 simp [Instr.sliceBound,asIntOf,h0,h1]
theorem sl {lo hi:Int} {p:Operand} {x y:Option Operand} (h:cut l lo hi=some r) (hcap:l.length<=c1) (hu:P.underlying t=some (.slice e)) (ht:aX P e=some (ag,z,size,bytes)) (ho:o.op=.slice t p x y none)
  (hp:ev E p=some (.slice A l.length c1)) (hx:evI E 0 x=some lo) (hy:evI E l.length y=some hi):eg P n E o W (.slice (wF A c1 lo.toNat size) r.length (c1-lo.toNat)) W:=by
 intro a ha
 obtain ⟨hrr,h0,h1,h2⟩:=rO h
 have hrl:r.length=hi.toNat-lo.toNat:=by rw [hrr]; simp; omega
 have hlo:∀ (hn:Nat),hi.toNat=hn->(match x.map a.eval with
  | some v=>Instr.sliceBound v hn (if (none:Option Value).isSome=true then BoundsCode.slice3C else BoundsCode.sliceB)
  | none=>pure 0:Sem Nat).run P W=.ok lo.toNat W:=by
  intro hn hhn
  cases x with
  | none=>simp only [evI,Option.some.injEq] at hx; subst hx; rfl
  | some q =>
   simp only [evI] at hx
   split at hx
   ·rename_i k i hq
    injection hx with hx
    subst hx
    simp only [Option.map_some,ha.ev hq]
    exact pt h0 (by omega)
   ·cases hx
 have hhi:(match y.map a.eval with
  | some v=>Instr.sliceBound v c1 BoundsCode.sliceAcap
  | none=>pure l.length:Sem Nat).run P W=.ok hi.toNat W:=by
  cases y with
  | none=>simp only [evI,Option.some.injEq] at hy; subst hy; simp
  | some q =>
   simp only [evI] at hy
   split at hy
   ·rename_i k i hq
    injection hy with hy
    subst hy
    simp only [Option.map_some,ha.ev hq]
    exact pt (by omega) (by omega)
   ·cases hy
 unfold execOp
 have hb:(Instr.sliceBounds true l.length c1 (x.map a.eval) (y.map a.eval) none).run P W=.ok (lo.toNat,hi.toNat,c1) W:=by
  unfold Instr.sliceBounds
  simp only [Sem.run_bind,Sem.run_pure,Result.andThen_ok]
  cases hyy:y.map a.eval with
  | none =>
   rw [hyy] at hhi
   simp only [Sem.run_pure,Result.ok.injEq,and_true] at hhi
   cases hxx:x.map a.eval with
   | none=>rw [hxx] at hlo; have:=hlo _ rfl; simp only [Sem.run_pure,Result.ok.injEq,and_true] at this; simp [hhi,this]
   | some v=>rw [hxx] at hlo; have:=hlo _ rfl; simp [hhi]; simp at this; simp [this]
  | some u =>
   rw [hyy] at hhi
   simp only at hhi
   cases hxx:x.map a.eval with
   | none=>rw [hxx] at hlo; have:=hlo _ rfl; simp only [Sem.run_pure,Result.ok.injEq,and_true] at this; simp [hhi,this]
   | some v=>rw [hxx] at hlo; have:=hlo _ rfl; simp [hhi]; simp at this; simp [this]
 have hs:(Instr.slice t (.slice A l.length c1) (x.map a.eval) (y.map a.eval) none).run P W=.ok (.slice (wF A c1 lo.toNat size) r.length (c1-lo.toNat)) W:=by
  unfold Instr.slice
  simp only [Sem.run_bind,run_underlying hu,Result.andThen_ok,hb,dQ ht,Sem.run_pure,hrl,wF]
 have hsa:(Instr.sliceAt t (.slice A l.length c1) (x.map a.eval) (y.map a.eval) none).run P W=.ok (.slice (wF A c1 lo.toNat size) r.length (c1-lo.toNat)) W:=by
  unfold Instr.sliceAt
  simp only [Sem.run_bind,run_underlying hu,Result.andThen_ok]
  exact hs
 simp only [ho,ha.ev hp,Sem.run_bind,Option.map_none,hsa,Result.andThen_ok]
 rfl
theorem C2 {lo hi:Int} (h:cut l lo hi=some r) (hr:Rd W T A c1 e size enc l):Rd W T (wF A c1 lo.toNat size) (c1-lo.toNat) e size enc r:=by
 obtain ⟨hrr,h0,h1,h2⟩:=rO h
 have hrl:r.length=hi.toNat-lo.toNat:=by rw [hrr]; simp; omega
 have hcap:l.length<=c1:=by
  obtain ⟨A0,cap,cs,e1,e2,_⟩:=hr
  simp only [List.cons.injEq,and_true,Value.slice.injEq] at e1
  obtain ⟨_,_,rfl⟩:=e1
  simpa using e2
 refine Cr h hr (by omega) λhne=>?_
 unfold wF
 rw [if_neg]
 intro he
 apply hne
 apply List.eq_nil_of_length_eq_zero
 omega
theorem Rd.cap (hr:Rd W T A c1 e size enc l):l.length<=c1:=by
 obtain ⟨A0,cap,cs,e1,e2,_⟩:=hr
 simp only [List.cons.injEq,and_true,Value.slice.injEq] at e1
 obtain ⟨_,_,rfl⟩:=e1
 simpa using e2
def sS (k:IntKind) (x y:Int):Option Int:=if y=0 then none else some (mY k (x.tdiv y))
def q8 (x y:Int):Option Int:=if y=0 then none else some (x.tmod y)
theorem dq {k:IntKind} {x y r:Int} {p q:Operand} {t':TypeId} (h:sS k x y=some r) (ho:o.op=.binOp .quo t p q t') (hp:ev E p=some (.int k x)) (hq:ev E q=some (.int k y)):eg P n E o W (.int k r) W:=by
 unfold sS at h
 split at h
 ·cases h
 ·rename_i hne
  injection h with h
  subst h
  intro a ha
  unfold execOp
  simp [ho,ha.ev hp,ha.ev hq,eqGuard,binOp,Op.intDiv,hne,lz]
theorem dr {k:IntKind} {x y r:Int} {p q:Operand} {t':TypeId} (h:q8 x y=some r) (ho:o.op=.binOp .rem t p q t') (hp:ev E p=some (.int k x)) (hq:ev E q=some (.int k y)):eg P n E o W (.int k r) W:=by
 unfold q8 at h
 split at h
 ·cases h
 ·rename_i hne
  injection h with h
  subst h
  intro a ha
  unfold execOp
  simp [ho,ha.ev hp,ha.ev hq,eqGuard,binOp,Op.intDiv,hne]
end
noncomputable section
variable {P:Program} {n:Nat} {ops:Array Oper} {o:Oper} {rest:List Oper} {E E':Env} {W W' w w0:World} {a:Act} {v u:Value} {K:Env->World->Prop} {M T S:Nat->Prop} {L L0:List Ent}
variable {t e:TypeId} {ag:Bool} {z:Option Value} {zv:Value} {size bytes:Nat} {A A2:Option Addr} {m c c2:Nat} {α:Type} {enc:α->D} {l l2 r:List α} {i:Int} {x y:α}
theorem wl {z:Array Value}:∀ {n:Nat},(madeCells z (n*z.size)).toList=(List.replicate n z.toList).flatten
 | 0=>by simp [madeCells]
 | n+1=>by
  have ih:=wl (z:=z) (n:=n)
  have h1:(n+1)*z.size=n*z.size+z.size:=by rw [Nat.add_mul,Nat.one_mul]
  rw [List.replicate_succ',List.flatten_append,<-ih,h1]
  simp only [madeCells,Array.toList_map,Array.toList_range,List.range_add,List.map_append,List.map_map,List.flatten_cons,List.flatten_nil,List.append_nil]
  congr 1
  apply List.ext_getElem
  ·simp
  ·intro j h2 h3
   have hj:j<z.size:=by simpa using h2
   simp only [List.getElem_map,List.getElem_range,Function.comp]
   rw [Nat.mul_add_mod_self_right,Nat.mod_eq_of_lt hj]
   simp [hj]
theorem q9 {d1 d2 c1:List Value} {k:Nat}:splice (d1++d2) (d1.length+k) c1=d1++splice d2 k c1:=by
 simp only [splice,List.take_append,List.drop_append,List.append_assoc]
 rw [List.take_of_length_le (by omega),show d1.length+k-d1.length=k by omega,List.drop_eq_nil_of_le (show d1.length<=d1.length+k+c1.length by omega),show d1.length+k+c1.length-d1.length=k+c1.length by omega]
 simp
theorem xn {x1:D} {c1:List Value} (hf:dE x1=some c1) (hl:c1.length=size):∀ {xs:List D} {S:Nat->Prop} {cs:List Value} {k:Nat} {x0:D},D.owns W xs S cs->(∀ x∈xs,x.sz=size)->xs[k]?=some x0->D.owns W (xs.set k x1) S (splice cs (k*size) c1)
 | [],_,_,_,_,_,_,hk=>by simp at hk
 | x::xs,S,_,0,x0,⟨S1,d1,d2,h1,h2,h3,h4,h5⟩,hs,hk=>by
  have hx:=hs x (by simp)
  have h6:D.own W x1 (λ_=>False) c1:=nk hf
  subst h1
  have:splice (d1++d2) (0*size) c1=c1++d2:=by
   simp only [splice,Nat.zero_mul,List.take_zero,List.nil_append,Nat.zero_add]
   rw [List.drop_append,List.drop_eq_nil_of_le (by omega),show c1.length-d1.length=0 by omega]
   simp
  rw [this]
  exact ⟨λ_=>False,c1,d2,rfl,D.own_length h6,λ_ hf=>hf.elim,h6,D.owns_mono h5 λb hb=>⟨hb.1,id⟩⟩
 | x::xs,S,_,k+1,x0,⟨S1,d1,d2,h1,h2,h3,h4,h5⟩,hs,hk=>by
  have hx:=hs x (by simp)
  have ih:=xn hf hl (k:=k) h5 (λy hy=>hs y (by simp [hy])) (by simpa using hk)
  subst h1
  have e:(k+1)*size=d1.length+k*size:=by rw [h2,hx,Nat.add_mul]; omega
  rw [e,q9]
  exact ⟨S1,d1,_,rfl,h2,h3,h4,ih⟩
theorem zC {cs c0 vc:List Value} {k j:Nat} (h0:∀ i u,c0[i]?=some u->cs[k+i]?=some u) (hj:j+vc.length<=c0.length) (hk:k+c0.length<=cs.length):splice cs (k+j) vc=splice cs k (splice c0 j vc):=by
 have hseg:(cs.drop k).take c0.length=c0:=by
  apply List.ext_getElem?
  intro i
  rw [List.getElem?_take,List.getElem?_drop]
  rcases Nat.lt_or_ge i c0.length with h | h
  ·rw [if_pos h,List.getElem?_eq_getElem h]
   exact h0 i _ (List.getElem?_eq_getElem h)
  ·rw [if_neg (by omega),List.getElem?_eq_none h]
 have hcs:cs=cs.take k++(c0++cs.drop (k+c0.length)):=by
  rw [<-List.drop_drop]
  conv=>lhs; rw [<-List.take_append_drop k cs,<-List.take_append_drop c0.length (cs.drop k),hseg]
 have hlt:(cs.take k).length=k:=by rw [List.length_take]; omega
 have hsl:(splice c0 j vc).length=c0.length:=by simp only [splice,List.length_append,List.length_take,List.length_drop]; omega
 have e1:splice cs (k+j) vc=cs.take k++(splice c0 j vc++cs.drop (k+c0.length)):=by
  conv=>lhs; rw [hcs]
  have:=q9 (d1:=cs.take k) (d2:=c0++cs.drop (k+c0.length)) (k:=j) (c1:=vc)
  rw [hlt] at this
  rw [this]
  congr 1
  simp only [splice,List.append_assoc]
  rw [List.take_append_of_le_length (by omega),List.drop_append_of_le_length (by omega)]
 rw [e1]
 have e2:splice cs k (splice c0 j vc)=cs.take k++(splice c0 j vc++cs.drop (k+(splice c0 j vc).length)):=rfl
 rw [e2,hsl]
theorem wm {cs vc:List Value} {n0 k:Nat} (hr:W.ownsRow 0 e size (.slice A n0 c) n0 cs) (hpos:0<vc.length) (hk:k+vc.length<=n0*size) :
  ∃ g cur,A=some ⟨g,0,none⟩/\W.heap[g]?=some (.cells cur e (0,0))/\k+vc.length<=cur.size/\(W.setRow g (splice cur.toList k vc).toArray).ownsRow 0 e size (.slice A n0 c) n0 (splice cs k vc):=by
 rcases hr.2 with ⟨h1,h2⟩ | ⟨g,cap,cur,h1,hb,hg,hnc,hcm,hcs,htake⟩
 ·subst h2; omega
 ·simp only [Value.slice.injEq,true_and] at h1
  obtain ⟨rfl,rfl⟩:=h1
  have hle:n0*size<=c*size:=Nat.mul_le_mul_right _ hnc
  have hlen:(splice cur.toList k vc).length=cur.size:=by simp only [splice,List.length_append,List.length_take,List.length_drop,Array.length_toList]; omega
  refine ⟨g,cur,rfl,hg,by omega,?_,.inr ⟨g,c,(splice cur.toList k vc).toArray,rfl,hb,setRow_heap W g _ _ e (0,0) hg,hnc,hcm,by simpa [hlen] using hcs,?_⟩⟩
  ·have:=hr.1
   simp only [splice,List.length_append,List.length_take,List.length_drop]
   omega
  ·rw [<-htake]
   simp only [splice]
   have hkl:(cur.toList.take k).length=k:=by rw [List.length_take,Array.length_toList]; omega
   have e1:List.take (n0*size) (cur.toList.take k++(vc++cur.toList.drop (k+vc.length)))=cur.toList.take k++(vc++(cur.toList.drop (k+vc.length)).take (n0*size-(k+vc.length))):=by
    rw [<-List.append_assoc,List.take_append,List.take_of_length_le (by rw [List.length_append,hkl]; omega),List.length_append,hkl,List.append_assoc]
   rw [e1,List.take_take,Nat.min_eq_left (show k<=n0*size by omega),List.drop_take]
theorem OpW.se {p q:Operand} {j tsize tb:Nat} {x0 x1:α} {c0 c1:List Value} (hr:upd l i x1=some r) (hx:nth l i=some x0) (hS:Sep M w0 W (md A c e size enc l::L)) (ht:aX P t=some (ag,z,tsize,tb)) (ho:o.op=.store t p q)
  (hp:ev E p=some (.pointer (some (bP A (i.toNat*size+j))))) (hq:ev E q=some v) (hf0:dE (enc x0)=some c0) (hf1:dE (enc x1)=some c1) (hc:splice c0 j v.cells.toList=c1)
  (k:∀ W',Sep M w0 W' (md A c e size enc r::L)->K E W') (hl:v.cells.size=tsize:=by exact rfl) (h1:v.cells.toList.all (·.oneCell')=true:=by exact rfl) (hj:Nat.ble (j+tsize) c0.length=true:=by exact rfl) (h0:Nat.blt 0 tsize=true:=by exact rfl) (hg:o.guard=none:=by exact rfl) (hd:o.dst=none:=by exact rfl):OpW P n ops o E W K:=by
 obtain ⟨hrr,hi0,hi1⟩:=xg hr
 obtain ⟨_,_,hxi⟩:=jd hx
 have hj':j+tsize<=c0.length:=by simpa using hj
 have hpos:0<tsize:=by simpa [Nat.blt_eq] using h0
 have hvl:v.cells.toList.length=tsize:=by simpa using hl
 obtain ⟨S1,hS1,⟨v1,cs,f1,⟨r1,b1⟩,s1,S2,p2,o2⟩,hrest⟩:=hS.own
 simp only [List.cons.injEq,and_true] at f1
 subst f1
 simp only [List.length_map] at r1
 have hsz0:c0.length=size:=by
  have:=D.own_length (nk (W:=W) (S:=λ_=>False) hf0)
  rw [this]
  exact s1 _ (List.mem_map.2 ⟨x0,List.mem_of_getElem? hxi,rfl⟩)
 have hget:(l.map enc)[i.toNat]?=some (enc x0):=by simp [hxi]
 have hcell:∀ q u,c0[q]?=some u->cs[i.toNat*size+q]?=some u:=by
  obtain ⟨ci,g1,g2,g3⟩:=uH (D.owns_rds o2) s1 hget
  have:=oG hf0 g1
  subst this
  exact g3
 have hcl:cs.length=l.length*size:=by rw [r1.1]
 have hbound:i.toNat*size+c0.length<=cs.length:=by
  rw [hcl,hsz0]
  have:(i.toNat+1)*size<=l.length*size:=Nat.mul_le_mul_right _ (by omega)
  rw [Nat.add_mul] at this
  omega
 have hspl:=zC hcell (by omega:j+v.cells.toList.length<=c0.length) hbound
 rw [hc] at hspl
 obtain ⟨g,cur,rfl,hgc,hfit,hrow⟩:=wm (k:=i.toNat*size+j) (vc:=v.cells.toList) r1 (by omega) (by omega)
 have hadd:bP (some ⟨g,0,none⟩) (i.toNat*size+j)=⟨g,i.toNat*size+j,none⟩:=by unfold bP Addr.add; split <;> simp_all
 rw [hadd] at hp
 have hgS:S1 g:=b1 g rfl
 refine .skip hg hd (W':=W.setRow g (splice cur.toList (i.toNat*size+j) v.cells.toList).toArray) (λa ha=>?_) (k _ ?_)
 ·have hrun:=oE (P:=P) (v:=v) (j:=i.toNat*size+j) ht hgc hl h1 (by omega)
  unfold execOp
  simp only [ho,ha.ev hp,ha.ev hq,Instr.storeAt,Instr.sureAddr,Sem.run_bind,Sem.run_pure,Result.andThen_ok,hrun]
 ·have hfr:dL S1 W (W.setRow g (splice cur.toList (i.toNat*size+j) v.cells.toList).toArray):=⟨rfl,rfl,rfl,jF.size,λb hb hn=>jF.block b hb λe=>hn (e▸hgS)⟩
  refine Sep.of_parts (L':=[md (some ⟨g,0,none⟩) c e size enc r]) hS.frame (S:=S1) hS1 hrest hfr ⟨S1,λb hb=>.inl hb,?_,trivial⟩
  have hl1:c1.length=size:=by rw [<-hc]; simp only [splice,List.length_append,List.length_take,List.length_drop]; omega
  have hset:r.map enc=(l.map enc).set i.toNat (enc x1):=by rw [hrr,List.map_set]
  have hrl:r.length=l.length:=by rw [hrr,List.length_set]
  have hag:fu S2 W (W.setRow g (splice cur.toList (i.toNat*size+j) v.cells.toList).toArray):=λb hb=>by
   have hne:b≠g:=λhe=>(p2 b hb).2 (by rw [he]; rfl)
   simp only [World.setRow,Array.getElem?_modify]
   rw [if_neg (λh=>hne h.symm)]
  refine ⟨_,splice cs (i.toNat*size+j) v.cells.toList,by rw [hrl],⟨by simpa [hrl] using hrow,by simpa using b1⟩,λd hd=>?_,S2,by simpa using p2,?_⟩
  ·rw [hset] at hd
   rcases List.mem_or_eq_of_mem_set hd with h | h
   ·exact s1 d h
   ·rw [h,<-D.own_length (nk (W:=W) (S:=λ_=>False) hf1)]; exact hl1
  ·rw [hset,hspl]
   exact xn hf1 hl1 (D.owns_agree o2 hag) s1 hget
end
noncomputable section
variable {P:Program} {n:Nat} {ops:Array Oper} {o:Oper} {rest:List Oper} {E E':Env} {W W' w w0:World} {a:Act} {v u:Value} {K:Env->World->Prop} {M T S:Nat->Prop} {L L0:List Ent}
variable {t e:TypeId} {ag:Bool} {z:Option Value} {zv:Value} {size bytes:Nat} {A A2:Option Addr} {m c c2:Nat} {α:Type} {enc:α->D} {l l2 r:List α} {i:Int} {x y:α}
theorem Rd.el (h:Rd w T A c e size enc l) (hx:nth l i=Option.some x):∃ cs,D.rd w (enc x) T cs/\cs.length=size/\∀ W,fu T w W->∀ j u,cs[j]?=Option.some u->W.cell? (bP A (i.toNat*size+j))=Option.some u:=by
 obtain ⟨h0,h1,h2⟩:=jd hx
 obtain ⟨A',cap,cs,e1,e2,e3,e4,e5,e6⟩:=h
 simp only [List.cons.injEq,and_true,Value.slice.injEq] at e1
 obtain ⟨rfl,_,rfl⟩:=e1
 obtain ⟨ci,k1,k2,k3⟩:=uH (i:=i.toNat) (x:=enc x) e6 e4 (by simp [h2])
 have hne:l.map enc≠[]:=by intro hn; rw [List.map_eq_nil_iff] at hn; subst hn; simp at h1
 obtain ⟨ad,rfl,f1,f2⟩:=e5 hne
 refine ⟨ci,k1,k2,λW hW j u hj=>?_⟩
 have hb:(bP (Option.some ad) (i.toNat*size+j)).block=ad.block:=by unfold bP Addr.add; simp only [Option.getD_some]; split <;> rfl
 rw [World.cell?_of_block (w:=w) (by rw [hb]; exact hW _ f1)]
 exact f2 _ _ (k3 j u hj)
theorem bw.rd {k:Nat} (h:bw W L (λb=>OkS M w0 W b/\¬ S b)) (hk:L[k]?=some (md A c e size enc l)):Rd W (Old S W) A c e size enc l:=by
 obtain ⟨S1,h1,h2,_⟩:=h.pull hk
 have:=D.rd_mono (D.own_rd (d:=.row e size (l.map enc)) h2) (T':=Old S W) λb hb=>⟨(h1 b hb).1.2,(h1 b hb).2⟩
 exact this
theorem OpW.cS {σ:Type} {f:FuncId} {fn:Func} {as:Array Operand} {ts:Array TypeId} {vs:List Value} {v:σ->Value} {L':σ->List Ent} (hS:Sep M w0 W (L0++L)) (hf:P.funcs[f]?=some fn)
  (hc:∀ S:Nat->Prop,(∀ b,S b->OkS M w0 W b)->bw W L0 S->bw W L (λb=>OkS M w0 W b/\¬ S b)->Calls P f vs.toArray W (Ret S W v L'))
  (ho:o.op=.call { callee:=.value (.func f),args:=as,argTypes:=ts }) (hv:evs E as.toList=some vs)
  (k:∀ s W',Sep M w0 W' (L' s++L)->K (put E o.dst (v s)) W') (hb:fn.body.isSome=true:=by exact rfl) (hn:(fn.name=="runtime.NumGoroutine")=false:=by exact rfl) (hg:o.guard=none:=by exact rfl) (hd:okD n o.dst=true:=by exact rfl):OpW P n ops o E W K:=by
 obtain ⟨S,h1,h2,h3⟩:=hS.own.split
 refine .enter hg hd (xl hf hb hn ho hv) ((hc S h1 h2 h3).mono ?_)
 rintro x W' ⟨s,rfl,hs⟩
 refine ⟨_,rfl,k s W' (Sep.of_parts hS.frame h1 h3 hs.frame (hs.own.mono λb hb=>?_))⟩
 exact hb.1.elim (λh=>.inr ⟨h,hb.2⟩) .inl
end
noncomputable section
variable {P:Program} {n:Nat} {ops:Array Oper} {o:Oper} {rest:List Oper} {E E':Env} {W W' w w0:World} {a:Act} {v u:Value} {K:Env->World->Prop} {M T S:Nat->Prop} {L L0 L1:List Ent}
variable {t e:TypeId} {ag:Bool} {z:Option Value} {zv:Value} {size bytes:Nat} {A A2:Option Addr} {m c c2 k:Nat} {α:Type} {enc:α->D} {l l2 r:List α} {i:Int} {x y:α} {d:D} {ds xs ys:List D} {cs c1:List Value}
theorem xo:∀ {xs:List D} {S:Nat->Prop} {cs:List Value} {k:Nat} {x:D},D.owns W xs S cs->(∀ x∈xs,x.sz=size)->xs[k]?=some x ->
  ∃ c1 cx c2 S1 S2,cs=c1++(cx++c2)/\c1.length=k*size/\cx.length=size/\(∀ b,S1 b->S b)/\(∀ b,S2 b->S b/\¬ S1 b)/\D.own W x S1 cx/\D.owns W (xs.take k++xs.drop (k+1)) S2 (c1++c2)
 | [],_,_,_,_,_,_,hk=>by simp at hk
 | x0::xs,S,_,0,x,⟨S1,d1,d2,h1,h2,h3,h4,h5⟩,hs,hk=>by
  have:x0=x:=by simpa using hk
  subst this
  exact ⟨[],d1,d2,S1,λb=>S b/\¬ S1 b,by simpa using h1,by simp,by rw [h2]; exact hs _ (by simp),h3,λ_ h=>h,h4,by simpa using h5⟩
 | x0::xs,S,_,k+1,x,⟨S0,d1,d2,h1,h2,h3,h4,h5⟩,hs,hk=>by
  obtain ⟨c1,cx,c2,S1,S2,k1,k2,k3,k4,k5,k6,k7⟩:=xo h5 (λy hy=>hs y (by simp [hy])) (by simpa using hk)
  have hx:=hs x0 (by simp)
  refine ⟨d1++c1,cx,c2,S1,λb=>S0 b\/S2 b,by rw [h1,k1,List.append_assoc],by rw [List.length_append,h2,k2,hx,Nat.add_mul]; omega,k3,λb hb=>(k4 b hb).1,λb hb=>?_,k6,?_⟩
  ·rcases hb with hb | hb
   ·exact ⟨h3 b hb,λh=>(k4 b h).2 hb⟩
   ·exact ⟨(k5 b hb).1.1,(k5 b hb).2⟩
  ·rw [List.append_assoc]
   exact ⟨S0,d1,c1++c2,rfl,h2,λb hb=>.inl hb,h4,D.owns_mono k7 λb hb=>⟨.inr hb,(k5 b hb).1.2⟩⟩
theorem wG:∀ {xs:List D} {S1 S2:Nat->Prop} {c1 cx c2:List Value} {k:Nat} {x:D},D.owns W (xs.take k++xs.drop (k+1)) S2 (c1++c2)->(∀ x∈xs,x.sz=size)->c1.length=k*size->k<xs.length->D.own W x S1 cx->(∀ b,S1 b->¬ S2 b) ->
  D.owns W (xs.set k x) (λb=>S1 b\/S2 b) (c1++(cx++c2))
 | [],_,_,_,_,_,_,_,_,_,_,hk,_,_=>by simp at hk
 | x0::xs,S1,S2,c1,cx,c2,0,x,h,hs,h1,hk,hx,hd=>by
  have:c1=[]:=List.eq_nil_of_length_eq_zero (by simpa using h1)
  subst this
  exact ⟨S1,cx,c2,rfl,D.own_length hx,λb hb=>.inl hb,hx,D.owns_mono (by simpa using h) λb hb=>⟨.inr hb,λh=>hd b h hb⟩⟩
 | x0::xs,S1,S2,c1,cx,c2,k+1,x,h,hs,h1,hk,hx,hd=>by
  have h':D.owns W (x0::(xs.take k++xs.drop (k+1))) S2 (c1++c2):=by simpa using h
  obtain ⟨S0,d1,d2,e1,e2,e3,e4,e5⟩:=h'
  have hx0:=hs x0 (by simp)
  have hle:d1.length<=c1.length:=by rw [e2,hx0,h1,Nat.add_mul]; omega
  have e6:c1=d1++c1.drop d1.length:=by
   have:=congrArg (List.take d1.length) e1
   rw [List.take_append_of_le_length hle,List.take_left'] at this
   ·conv=>lhs; rw [<-List.take_append_drop d1.length c1,this]
   ·rfl
  have e7:d2=c1.drop d1.length++c2:=by
   rw [e6,List.append_assoc] at e1
   have:=List.append_cancel_left e1
   exact this.symm
  rw [e7] at e5
  have ih:=wG (k:=k) e5 (λy hy=>hs y (by simp [hy])) (by rw [List.length_drop,h1,e2,hx0,Nat.add_mul]; omega) (by simpa using hk) hx λb hb h=>hd b hb h.1
  rw [e6,List.append_assoc]
  exact ⟨S0,d1,_,rfl,e2,λb hb=>.inr (e3 b hb),e4,D.owns_mono ih λb hb=>by
   rcases hb with hb | hb
   ·exact ⟨.inl hb,λh=>hd b hb (e3 b h)⟩
   ·exact ⟨.inr hb.1,hb.2⟩⟩
abbrev uU (A:Option Addr) (c:Nat) (e size:Nat) (enc:α->D) (l:List α) (k:Nat) (cs:List Value):Ent:=.hole (.slice A l.length c) e size (l.map enc) k cs
theorem Sep.out (h:Sep M w0 W (md A c e size enc l::L)) (hx:nth l i=some x):∃ cs,Sep M w0 W (.dat [enc x] cs::uU A c e size enc l i.toNat cs::L):=by
 obtain ⟨h0,h1,h2⟩:=jd hx
 obtain ⟨S,hS,⟨v1,cs,f1,r1,s1,S',p1,o1⟩,hrest⟩:=h.own
 simp only [List.cons.injEq,and_true] at f1
 subst f1
 obtain ⟨c1,cx,c2,S1,S2,k1,k2,k3,k4,k5,k6,k7⟩:=xo (k:=i.toNat) (x:=enc x) o1 s1 (by simp [h2])
 have hlen:cx.length=(enc x).sz:=D.own_length k6
 refine ⟨cx,Sep.of_parts (L':=[.dat [enc x] cx,uU A c e size enc l i.toNat cx]) h.frame hS hrest (dL.refl _ _) ⟨S1,λb hb=>.inl (p1 b (k4 b hb)).1,⟨S1,cx,[],by simp,hlen,λ_ h=>h,k6,rfl⟩,
  λb=>S b/\¬ S1 b,λb hb=>⟨.inl hb.1,hb.2⟩,⟨c1,c2,?_,k2,k3,by simpa using h1,s1,S2,λb hb=>⟨⟨(p1 b (k5 b hb).1).1,(k5 b hb).2⟩,(p1 b (k5 b hb).1).2⟩,k7⟩,trivial⟩⟩
 subst k1
 exact ⟨r1.1,λg hg=>⟨r1.2 g hg,λhs=>(p1 g (k4 g hs)).2 hg⟩⟩
theorem Sep.back {k:Nat} (h:Sep M w0 W (.dat [enc y] cs::uU A c e size enc l k cs::L)):Sep M w0 W (md A c e size enc (l.set k y)::L):=by
 obtain ⟨S1,h1,⟨S3,d1,d2,g1,g2,g3,g4,g5⟩,S2,h2,⟨c1,c2,r1,k2,k3,k4,s1,S',p1,o1⟩,hrest⟩:=h.own
 have g5':d2=[]:=g5
 subst g5'
 rw [List.append_nil] at g1
 subst g1
 have hin:=wG (S1:=S1) o1 s1 k2 k4 (D.own_mono g4 g3) (λb hb hb'=>(h2 b (p1 b hb').1).2 hb)
 refine Sep.of_parts (L':=[md A c e size enc (l.set k y)]) (S:=λb=>S1 b\/S2 b) h.frame (λb hb=>hb.elim (h1 b) λhb=>(h2 b hb).1) (hrest.mono λb hb=>⟨hb.1.1,λhh=>hh.elim hb.1.2 hb.2⟩) (dL.refl _ _)
  ⟨λb=>S1 b\/S2 b,λb hb=>.inl hb,⟨_,c1++(cs++c2),rfl,⟨?_,λg hg=>.inr (r1.2 g ?_)⟩,λd hd=>?_,λb=>S1 b\/S' b,λb hb=>⟨hb.imp id λhb=>(p1 b hb).1,λhv=>?_⟩,?_⟩,trivial⟩
 ·simpa using r1.1
 ·simpa using hg
 ·rw [List.map_set] at hd
  rcases List.mem_or_eq_of_mem_set hd with hd | rfl
  ·exact s1 d hd
  ·rw [<-D.own_length g4,k3]
 ·have hv':Value.ownBlock (.slice A l.length c)=some b:=by simpa using hv
  rcases hb with hb | hb
  ·exact (h2 b (r1.2 b hv')).2 hb
  ·exact (p1 b hb).2 hv'
 ·rw [List.map_set]
  exact hin
theorem xp (h:nth l i=some x):l.set i.toNat x=l:=by
 obtain ⟨h0,h1,h2⟩:=jd h
 apply List.ext_getElem?
 intro j
 rw [List.getElem?_set]
 split
 ·rename_i hj; subst hj; exact h2.symm
 ·rfl
theorem Sep.part {L':List Ent} (h:Sep M w0 W (.dat ds cs::L)) (k:∀ S,D.owns W ds S cs->bw W L' S):Sep M w0 W (L'++L):=by
 obtain ⟨S,hS,h1,hrest⟩:=h.own
 exact Sep.of_parts h.frame hS hrest (dL.refl _ _) ((k S h1).mono λb hb=>.inl hb)
theorem Sep.orow (h:Sep M w0 W (.dat (.row e size (l.map enc)::ds) cs::L)):∃ A c cs',cs=.slice A l.length c::cs'/\Sep M w0 W (.dat ds cs'::md A c e size enc l::L):=by
 obtain ⟨S,hS,⟨S1,d1,d2,g1,g2,g3,⟨v,c',e1,e2,e3⟩,g5⟩,hrest⟩:=h.own
 subst e1
 obtain ⟨A,c,rfl⟩:∃ A c,v=.slice A l.length c:=by
  rcases e2.1.2 with ⟨h1,h2⟩ | ⟨g,cap,cur,h1,_⟩
  ·rw [List.length_map] at h2; exact ⟨none,0,by rw [h1,h2]⟩
  ·rw [List.length_map] at h1; exact ⟨_,_,h1⟩
 refine ⟨A,c,d2,by simpa using g1,Sep.of_parts (L':=[.dat ds d2,md A c e size enc l]) h.frame hS hrest (dL.refl _ _) ⟨λb=>S b/\¬ S1 b,λb hb=>.inl hb.1,g5,S1,λb hb=>⟨.inl (g3 b hb),λh=>h.2 hb⟩,⟨_,c',rfl,e2,e3⟩,trivial⟩⟩
theorem Sep.oF (hf:dE d=some c1) (h:Sep M w0 W (.dat (d::ds) cs::L)):∃ cs',cs=c1++cs'/\Sep M w0 W (.dat ds cs'::L):=by
 obtain ⟨S,hS,⟨S1,d1,d2,g1,g2,g3,g4,g5⟩,hrest⟩:=h.own
 have:=oG hf (D.own_rd g4)
 subst this
 exact ⟨d2,g1,Sep.of_parts (L':=[.dat ds d2]) h.frame hS hrest (dL.refl _ _) ⟨λb=>S b/\¬ S1 b,λb hb=>.inl hb.1,g5,trivial⟩⟩
theorem Ao:∀ {xs ys:List D} {S:Nat->Prop} {c1 c2:List Value} {S1:Nat->Prop},D.owns W xs S1 c1->(∀ b,S1 b->S b)->D.owns W ys (λb=>S b/\¬ S1 b) c2->D.owns W (xs++ys) S (c1++c2):=by
 intro xs ys S c1 c2 S1 h1 h2 h3
 exact D.owns_mono (pn h1 h3 λb hb h=>h.2 hb) λb hb=>hb.elim (h2 b) λh=>h.1
theorem xq:∀ {xs ys:List D} {S:Nat->Prop} {cs:List Value},D.owns W (xs++ys) S cs->∃ S1 c1 c2,cs=c1++c2/\c1.length=D.szs xs/\(∀ b,S1 b->S b)/\D.owns W xs S1 c1/\D.owns W ys (λb=>S b/\¬ S1 b) c2
 | [],ys,S,cs,h=>⟨λ_=>False,[],cs,rfl,rfl,λ_ h=>h.elim,rfl,D.owns_mono h λb hb=>⟨hb,id⟩⟩
 | x::xs,ys,S,_,⟨S0,d1,d2,h1,h2,h3,h4,h5⟩=>by
  obtain ⟨S1,c1,c2,k1,k2,k3,k4,k5⟩:=xq (xs:=xs) h5
  refine ⟨λb=>S0 b\/S1 b,d1++c1,c2,by rw [h1,k1,List.append_assoc],by rw [List.length_append,h2,k2]; rfl,λb hb=>hb.elim (h3 b) λhb=>(k3 b hb).1,⟨S0,d1,c1,rfl,h2,λb hb=>.inl hb,h4,D.owns_mono k4 λb hb=>⟨.inr hb,(k3 b hb).2⟩⟩,D.owns_mono k5 λb hb=>⟨hb.1.1,λh=>h.elim hb.1.2 hb.2⟩⟩
theorem Sep.oa (h:Sep M w0 W (.dat (.agg xs::ds) cs::L)):Sep M w0 W (.dat (xs++ds) cs::L):=
 h.part (L':=[.dat (xs++ds) cs]) λS ⟨S1,d1,d2,g1,g2,g3,g4,g5⟩=>⟨S,λ_ h=>h,by subst g1; exact Ao (S1:=S1) g4 g3 g5,trivial⟩
theorem Sep.oN (h:Sep M w0 W (.dat [] cs::L)):cs=[]/\Sep M w0 W L:=by
 obtain ⟨S,hS,h1,hrest⟩:=h.own
 exact ⟨h1,h.drop⟩
def Gat (ds:List D) (cs:List Value) (L:List Ent):Prop:=∀ W S,bw W L S->D.owns W ds S cs
theorem Gat.nil:Gat [] [] []:=λ_ _ _=>rfl
theorem Gat.flat (hf:X.dE d=some c1) (h:Gat ds cs L):Gat (d::ds) (c1++cs) L:=λW S hO =>
 have h3:D.own W d (λ_=>False) c1:=nk hf
 ⟨λ_=>False,c1,cs,rfl,D.own_length h3,λ_ hf=>hf.elim,h3,D.owns_mono (h W S hO) λb hb=>⟨hb,id⟩⟩
theorem Gat.row (h:Gat ds cs L):Gat (.row e size xs::ds) (v::cs) (.row v e size xs::L):=λW S ⟨S1,h1,h2,h3⟩=>⟨S1,[v],cs,rfl,rfl,h1,h2,h W _ h3⟩
theorem Gat.agg (h:Gat (xs++ds) cs L):Gat (.agg xs::ds) cs L:=λW S hO=>by
 obtain ⟨S1,c1,c2,k1,k2,k3,k4,k5⟩:=xq (h W S hO)
 exact ⟨S1,c1,c2,k1,k2,k3,k4,k5⟩
theorem Sep.gat (g:Gat ds cs L1) (h:Sep M w0 W (L1++L)):Sep M w0 W (.dat ds cs::L):=by
 have:=h.turnL (W':=W) (L':=[.dat ds cs]) λS hS hO=>⟨dL.refl _ _,S,λb hb=>.inl hb,g W S hO,trivial⟩
 exact this
theorem uP.row {k:Nat} {S:Nat->Prop} (h:uP W (.slice A m c) e size xs k cs S):∃ g cur,A=some ⟨g,0,none⟩/\W.heap[g]?=some (.cells cur e (0,0))/\S g/\∀ j u,cs[j]?=some u->cur[k*size+j]?=some u:=by
 obtain ⟨c1,c2,⟨⟨r0,r1⟩,r2⟩,h2,h3,h4,h5,S',h7,h8⟩:=h
 rcases r1 with ⟨q1,q2⟩ | ⟨g,cap,cur,q1,hb,hg,hnc,hcm,hcs,htake⟩
 ·omega
 ·simp only [Value.slice.injEq] at q1
  obtain ⟨rfl,rfl,rfl⟩:=q1
  refine ⟨g,cur,rfl,hg,r2 g rfl,λj u hj=>?_⟩
  have h9:(c1++(cs++c2))[k*size+j]?=some u:=by
   rw [<-h2,List.getElem?_append_right (by omega),Nat.add_sub_cancel_left,List.getElem?_append_left]
   ·exact hj
   ·rcases Nat.lt_or_ge j cs.length with h | h
    ·exact h
    ·rw [List.getElem?_eq_none h] at hj; cases hj
  rw [<-htake,List.getElem?_take] at h9
  split at h9
  ·simpa using h9
  ·cases h9
theorem Sep.hcells {k:Nat} (h:Sep M w0 W (uU A c e size enc l k cs::L)):∀ j u,cs[j]?=some u->W.cell? (bP A (k*size+j))=some u:=by
 obtain ⟨S,hS,h1,hrest⟩:=h.own
 obtain ⟨g,cur,rfl,hg,_,hc⟩:=uP.row h1
 intro j u hj
 have hadd:bP (some ⟨g,0,none⟩) (k*size+j)=⟨g,k*size+j,none⟩:=by unfold bP Addr.add; split <;> simp_all
 rw [hadd,cell_of_row W g _ cur e (0,0) hg]
 exact hc j u hj
theorem OpW.sth {p q:Operand} {k j tsize tb:Nat} (hS:Sep M w0 W (uU A c e size enc l k cs::L)) (ht:aX P t=some (ag,z,tsize,tb)) (ho:o.op=.store t p q)
  (hp:ev E p=some (.pointer (some (bP A (k*size+j))))) (hq:ev E q=some v)
  (kk:∀ W',Sep M w0 W' (uU A c e size enc l k (splice cs j v.cells.toList)::L)->K E W') (hl:v.cells.size=tsize:=by exact rfl) (h1:v.cells.toList.all (·.oneCell')=true:=by exact rfl) (hj:Nat.ble (j+tsize) cs.length=true:=by exact rfl) (h0:Nat.blt 0 tsize=true:=by exact rfl) (hg:o.guard=none:=by exact rfl) (hd:o.dst=none:=by exact rfl):OpW P n ops o E W K:=by
 have hj':j+tsize<=cs.length:=by simpa using hj
 have hpos:0<tsize:=by simpa [Nat.blt_eq] using h0
 have hvl:v.cells.toList.length=tsize:=by simpa using hl
 obtain ⟨S1,hS1,⟨c1,c2,⟨r1,b1⟩,h2,h3,h4,h5,S',h7,h8⟩,hrest⟩:=hS.own
 simp only [List.length_map] at r1 h4
 have hcl:(c1++(cs++c2)).length=l.length*size:=by rw [r1.1]
 have hbound:k*size+j+v.cells.toList.length<=l.length*size:=by
  rw [<-hcl,List.length_append,List.length_append,h2]
  omega
 obtain ⟨g,cur,rfl,hgc,hfit,hrow⟩:=wm (k:=k*size+j) (vc:=v.cells.toList) r1 (by omega) hbound
 have hadd:bP (some ⟨g,0,none⟩) (k*size+j)=⟨g,k*size+j,none⟩:=by unfold bP Addr.add; split <;> simp_all
 rw [hadd] at hp
 have hgS:S1 g:=b1 g rfl
 refine .skip hg hd (W':=W.setRow g (splice cur.toList (k*size+j) v.cells.toList).toArray) (λa ha=>?_) (kk _ ?_)
 ·have hrun:=oE (P:=P) (v:=v) (j:=k*size+j) ht hgc hl h1 (by omega)
  unfold execOp
  simp only [ho,ha.ev hp,ha.ev hq,Instr.storeAt,Instr.sureAddr,Sem.run_bind,Sem.run_pure,Result.andThen_ok,hrun]
 ·have hfr:dL S1 W (W.setRow g (splice cur.toList (k*size+j) v.cells.toList).toArray):=⟨rfl,rfl,rfl,jF.size,λb hb hn=>jF.block b hb λe=>hn (e▸hgS)⟩
  refine Sep.of_parts (L':=[uU (some ⟨g,0,none⟩) c e size enc l k (splice cs j v.cells.toList)]) hS.frame (S:=S1) hS1 hrest hfr ⟨S1,λb hb=>.inl hb,?_,trivial⟩
  have hag:fu S' W (W.setRow g (splice cur.toList (k*size+j) v.cells.toList).toArray):=λb hb=>by
   have hne:b≠g:=λhe=>(h7 b hb).2 (by rw [he]; rfl)
   simp only [World.setRow,Array.getElem?_modify]
   rw [if_neg (λh=>hne h.symm)]
  have hs:splice (c1++(cs++c2)) (k*size+j) v.cells.toList=c1++(splice cs j v.cells.toList++c2):=by
   rw [<-h2,q9]
   congr 1
   simp only [splice,List.append_assoc]
   rw [List.take_append_of_le_length (by omega),List.drop_append_of_le_length (by omega)]
  rw [hs] at hrow
  refine ⟨c1,c2,⟨by simpa using hrow,by simpa using b1⟩,h2,?_,by simpa using h4,h5,S',h7,D.owns_agree h8 hag⟩
  simp only [splice,List.length_append,List.length_take,List.length_drop]
  omega
def mZ:D->Option (List Value)
 | .int k n=>some [.int k n]
 | .bool b=>some [.bool b]
 | .str s=>some [.string s]
 | .row _ _ []=>some [.slice none 0 0]
 | .row ..=>none
 | .agg xs=>zflats xs
where zflats:List D->Option (List Value)
 | []=>some []
 | x::xs=>match mZ x,zflats xs with
  | some a,some b=>some (a++b)
  | _,_=>none
mutual
theorem wn:∀ {d:D} {cs:List Value} {S:Nat->Prop},mZ d=some cs->D.own W d S cs
 | .int _ _,_,_,h=>by simp only [mZ] at h; injection h with h; exact h.symm
 | .bool _,_,_,h=>by simp only [mZ] at h; injection h with h; exact h.symm
 | .str _,_,_,h=>by simp only [mZ] at h; injection h with h; exact h.symm
 | .row e size [],_,S,h=>by
  simp only [mZ] at h
  injection h with h
  subst h
  exact ⟨_,[],rfl,⟨World.ownsRow_nil W 0 e size,λg hg=>by simp [Value.ownBlock] at hg⟩,by simp,λ_=>False,λ_ hf=>hf.elim,rfl⟩
 | .row _ _ (_::_),_,_,h=>by simp only [mZ] at h; cases h
 | .agg xs,_,_,h=>by simp only [mZ] at h; exact uV (xs:=xs) h
theorem uV:∀ {xs:List D} {cs:List Value} {S:Nat->Prop},mZ.zflats xs=some cs->D.owns W xs S cs
 | [],_,_,h=>by simp only [mZ.zflats] at h; injection h with h; exact h.symm
 | x::xs,_,S,h=>by
  simp only [mZ.zflats] at h
  cases h1:mZ x <;> simp only [h1] at h <;> try contradiction
  cases h2:mZ.zflats xs <;> simp only [h2] at h <;> try contradiction
  injection h with h
  subst h
  rename_i c1 c2
  have h3:D.own W x (λ_=>False) c1:=wn h1
  exact ⟨λ_=>False,c1,c2,rfl,D.own_length h3,λ_ hf=>hf.elim,h3,uV h2⟩
end
theorem uW {z0:α} {zc:List Value} (hf:mZ (enc z0)=some zc):∀ {n:Nat},D.owns W ((List.replicate n z0).map enc) (λ_=>False) (List.replicate n zc).flatten
 | 0=>by simp [D.owns]
 | n+1=>by
  have h3:D.own W (enc z0) (λ_=>False) zc:=wn hf
  rw [List.replicate_succ,List.replicate_succ]
  exact ⟨λ_=>False,zc,_,rfl,D.own_length h3,λ_ hf=>hf,h3,D.owns_mono (uW hf) λ_ hf=>hf.elim⟩
theorem OpW.mkz {p q:Operand} {j k:IntKind} {nn:Int} (z0:α) (enc:α->D) (h:X.mk bytes nn z0=some r) (hu:P.underlying t=some (.slice e)) (ht:aX P e=some (ag,some zv,size,bytes)) (hS:Sep M w0 W L) (ho:o.op=.makeSlice t p q)
  (hp:ev E p=some (.int j nn)) (hq:ev E q=some (.int k nn)) (hf:mZ (enc z0)=some zv.cells.toList) (hz:zv.cells.size=size) (hsz:∀ x:α,(enc x).sz=size)
  (k2:∀ A c W',Sep M w0 W' (md A c e size enc r::L)->K (put E o.dst (.slice A r.length c)) W') (hb0:Nat.blt 0 bytes=true:=by exact rfl) (hg:o.guard=none:=by exact rfl) (hd:okD n o.dst=true:=by exact rfl):OpW P n ops o E W K:=by
 obtain ⟨rfl,h0,hroom⟩:=BA h
 obtain ⟨i0,hi,hz0,hz1,hz2⟩:=nM ht
 have hb:0<bytes:=by simpa [Nat.blt_eq] using hb0
 have hle:nn.toNat<=nn.toNat*bytes:=Nat.le_mul_of_pos_right _ hb
 have hbytes:(i0.bytes:Int)*nn<=281474976710656:=by
  have e1:nn=((nn.toNat:Nat):Int):=by omega
  rw [hz2,e1,<-Int.natCast_mul,Nat.mul_comm]
  omega
 have hrun:=run_make (P:=P) W t e i0 zv hu hi hz0 j k nn nn h0 (Int.le_refl _) hbytes (by omega)
 refine .runs (W':=W.alloc (.cells (madeCells zv.cells (nn.toNat*i0.size)) e)) (v:=.slice (some ⟨W.heap.size,0,none⟩) nn.toNat nn.toNat) (λa ha=>?_) hg hd ?_
 ·unfold execOp
  simp only [ho,ha.ev hp,ha.ev hq,Sem.run_bind,hrun,Result.andThen_ok]
  rfl
 ·have hk:=k2 (some ⟨W.heap.size,0,none⟩) nn.toNat (W.alloc (.cells (madeCells zv.cells (nn.toNat*i0.size)) e)) ?_
  ·simpa using hk
  ·refine hS.new (L':=[md (some ⟨W.heap.size,0,none⟩) nn.toNat e size enc (List.replicate nn.toNat z0)]) eH ⟨λb=>b=W.heap.size,λb hb=>by subst hb; simp,?_,trivial⟩
   have hsize:(madeCells zv.cells (nn.toNat*i0.size)).size=nn.toNat*size:=by rw [size_madeCells,hz1]
   have h5:=World.ownsRow_lit (base:=0) (e:=e) (size:=size) W (madeCells zv.cells (nn.toNat*i0.size)) nn.toNat (Nat.zero_le _) (by simp only [maxLen]; omega) hsize
   have hl:(madeCells zv.cells (nn.toNat*i0.size)).toList=(List.replicate nn.toNat zv.cells.toList).flatten:=by
    rw [hz1,<-hz]; exact wl
   refine ⟨_,(madeCells zv.cells (nn.toNat*i0.size)).toList,rfl,⟨by simpa using h5,λg hg=>by simp only [Value.ownBlock,Option.some.injEq] at hg; exact hg.symm⟩,λd hd=>?_,λ_=>False,λ_ hf=>hf.elim,?_⟩
   ·obtain ⟨x,hx,rfl⟩:=List.mem_map.1 hd
    exact hsz x
   ·rw [hl]; exact uW hf
theorem OpW.lig {k:Nat} {parts:Array (Nat×Operand)} {vs:List Value} (l:List α) (enc:α->D) (hu:P.underlying t=some (.slice e)) (ht:aX P e=some (ag,some zv,size,bytes)) (hS:Sep M w0 W (L1++L)) (ho:o.op=.buildSlice t k parts)
  (hp:mN 0 parts.toList E=some vs) (hk:vs.length=k) (hg0:Gat (l.map enc) (cN vs) L1)
  (h:∀ A c W',Sep M w0 W' (md A c e size enc l::L)->K (put E o.dst (.slice A l.length c)) W') (hl:k=l.length) (hsz:∀ x:α,(enc x).sz=size) (hvs:∀ v∈vs,v.cells.toList.length=size) (hle:Nat.ble (k*size) 16777216=true:=by exact rfl) (h0:Nat.blt 0 size=true:=by exact rfl) (hg:o.guard=none:=by exact rfl) (hd:okD n o.dst=true:=by exact rfl):OpW P n ops o E W K:=by
 subst hl
 refine .runs (W':=W.alloc (.cells (cN vs).toArray e)) (v:=.slice (some ⟨W.heap.size,0,none⟩) l.length l.length) (λa ha=>?_) hg hd (h _ _ _ ?_)
 ·have h1:=mD ha hp
  have h2:parts.map (λp=>(p.1,a.eval p.2))=(dh 0 vs).toArray:=by rw [<-h1]; apply Array.ext'; simp
  unfold execOp
  simp only [ho,Sem.run_bind]
  rw [show (parts.map λ(x:Nat×Operand)=>match x with | (i,x)=>(i,a.eval x))=(dh 0 vs).toArray from h2,lC hu ht hk hvs (Nat.le_of_ble_eq_true hle)]
  rfl
 ·have hlen:=nl hvs
  have hmax:l.length<=maxLen:=by
   have h1:0<size:=by simpa [Nat.blt_eq] using h0
   have:=Nat.le_of_ble_eq_true hle
   have h3:l.length<=l.length*size:=Nat.le_mul_of_pos_right _ h1
   simp only [maxLen]; omega
  have h5:=World.ownsRow_lit (base:=0) (e:=e) (size:=size) W (cN vs).toArray l.length (Nat.zero_le _) hmax (by simp [hlen,hk])
  obtain ⟨S,hS1,hO,hrest⟩:=hS.own.split
  have hfr:dL S W (W.alloc (.cells (cN vs).toArray e)):=⟨eH.os,eH.tape,eH.output,eH.size,λb hb _=>eH.block b hb id⟩
  refine Sep.of_parts (L':=[md (some ⟨W.heap.size,0,none⟩) l.length e size enc l]) hS.frame hS1 hrest hfr ⟨λb=>S b\/b=W.heap.size,λb hb=>hb.imp id λhb=>by subst hb; simp,?_,trivial⟩
  refine ⟨_,_,rfl,⟨by simpa using h5,λg hg=>.inr (by simp only [Value.ownBlock,Option.some.injEq] at hg; exact hg.symm)⟩,λd hd=>?_,S,λb hb=>⟨.inl hb,λhv=>?_⟩,?_⟩
  ·obtain ⟨x,hx,rfl⟩:=List.mem_map.1 hd
   exact hsz x
  ·simp only [Value.ownBlock,Option.some.injEq] at hv
   have:=(hS1 b hb).2
   omega
  ·exact D.owns_agree (hg0 W S hO) λb hb=>eH.block b (hS1 b hb).2 id
theorem Ap {T1 T2:Nat->Prop} (h1:Rd w T1 A c e size enc l) (h2:Rd w T2 A c e size enc l) (hx:nth l i=Option.some x) :
  ∀ cs1 cs2,D.rd w (enc x) T1 cs1->D.rd w (enc x) T2 cs2->(∀ j u,cs1[j]?=Option.some u->w.cell? (bP A (i.toNat*size+j))=Option.some u)->(∀ j u,cs2[j]?=Option.some u->w.cell? (bP A (i.toNat*size+j))=Option.some u)->cs1.length=cs2.length->cs1=cs2:=by
 intro cs1 cs2 _ _ h3 h4 hl
 apply List.ext_getElem?
 intro j
 rcases Nat.lt_or_ge j cs1.length with hj | hj
 ·have e1:=h3 j _ (List.getElem?_eq_getElem hj)
  have e2:=h4 j _ (List.getElem?_eq_getElem (hl▸hj))
  rw [e1] at e2
  rw [List.getElem?_eq_getElem hj,List.getElem?_eq_getElem (hl▸hj)]
  exact e2
 ·rw [List.getElem?_eq_none hj,List.getElem?_eq_none (hl▸hj)]
theorem Rd.el2 (h:Rd w T A c e size enc l) (hx:nth l i=Option.some x):∃ cs,(∀ T',Rd w T' A c e size enc l->D.rds w [enc x] T' cs)/\∀ W,fu T w W->∀ j u,cs[j]?=Option.some u->W.cell? (bP A (i.toNat*size+j))=Option.some u:=by
 obtain ⟨cs,h1,h2,h3⟩:=h.el hx
 refine ⟨cs,λT' hT'=>?_,h3⟩
 obtain ⟨cs',k1,k2,k3⟩:=hT'.el hx
 have:=Ap h hT' hx cs cs' h1 k1 (h3 w (fu.refl _ _)) (k3 w (fu.refl _ _)) (by rw [h2,k2])
 subst this
 obtain ⟨A',cap,cc,e1,e2,e3,e4,e5,e6⟩:=h
 obtain ⟨_,_,hxi⟩:=jd hx
 exact ⟨cs,[],by simp,by rw [h2,e4 (enc x) (List.mem_map.2 ⟨x,List.mem_of_getElem? hxi,rfl⟩)],k1,rfl⟩
variable {Q:(Nat->Prop)->Prop}
theorem Dq {T0:Nat->Prop} (q:Q T0) (h:∀ T',Q T'->D.rds w (.row e size (l.map enc)::ds) T' cs):∃ A c cs',cs=.slice A l.length c::cs'/\(∀ T',Q T'->Rd w T' A c e size enc l)/\∀ T',Q T'->D.rds w ds T' cs':=by
 obtain ⟨c1,c2,h1,h2,⟨A,cap,cc,e1,e2⟩,h5⟩:=h T0 q
 rw [List.length_map] at e1
 subst e1
 refine ⟨A,cap,c2,by simpa using h1,λT' hT'=>?_,λT' hT'=>?_⟩
 all_goals
  obtain ⟨d1,d2,g1,g2,g3,g4⟩:=h T' hT'
  have hd:d1=[.slice A l.length cap]/\d2=c2:=by
   have hl:d1.length=1:=by rw [g2]; rfl
   match d1,hl with
   | [y],_ =>
    rw [h1] at g1
    simp only [List.cons_append,List.nil_append,List.cons.injEq] at g1
    rw [g1.1,g1.2]
    exact ⟨rfl,rfl⟩
  obtain ⟨rfl,rfl⟩:=hd
 ·exact g3
 ·exact g4
theorem bQ {T0:Nat->Prop} (q:Q T0) (hf:dE d=some c1) (h:∀ T',Q T'->D.rds w (d::ds) T' cs):∃ cs',cs=c1++cs'/\∀ T',Q T'->D.rds w ds T' cs':=by
 obtain ⟨d1,c2,h1,h2,h3,h5⟩:=h T0 q
 have:=oG hf h3
 subst this
 refine ⟨c2,h1,λT' hT'=>?_⟩
 obtain ⟨d1,d2,g1,g2,g3,g4⟩:=h T' hT'
 have:=oG hf g3
 subst this
 rw [h1] at g1
 have:=List.append_cancel_left g1
 subst this
 exact g4
theorem uI:∀ {xs ys:List D} {T:Nat->Prop} {c1 c2:List Value},D.rds w xs T c1->D.rds w ys T c2->D.rds w (xs++ys) T (c1++c2)
 | [],ys,T,c1,c2,h,h'=>by
  have:c1=[]:=h
  subst this
  exact h'
 | x::xs,ys,T,_,c2,⟨d1,d2,h1,h2,h3,h4⟩,h'=>⟨d1,d2++c2,by rw [h1,List.append_assoc],h2,h3,uI h4 h'⟩
theorem Ds (h:∀ T',Q T'->D.rds w (.agg xs::ds) T' cs):∀ T',Q T'->D.rds w (xs++ds) T' cs:=λT' hT'=>by
 obtain ⟨d1,d2,g1,g2,g3,g4⟩:=h T' hT'
 subst g1
 exact uI g3 g4
theorem mO {T0:Nat->Prop} (q:Q T0) (h:∀ T',Q T'->D.rds w [] T' cs):cs=[]:=h T0 q
end
noncomputable section
variable {P:Program} {n:Nat} {ops:Array Oper} {o:Oper} {rest:List Oper} {E E':Env} {W W' w w0:World} {a:Act} {v u v2:Value} {K:Env->World->Prop} {M T S:Nat->Prop} {L L0 L1:List Ent}
variable {t e:TypeId} {ag:Bool} {z:Option Value} {zv:Value} {size bytes:Nat} {A A2:Option Addr} {m c c2 k:Nat} {α:Type} {enc:α->D} {l l2 r:List α} {i:Int} {x y:α} {d:D} {ds xs ys:List D} {cs c1:List Value}
abbrev RV (W:World) (T:Nat->Prop) (v:Value) (e size:Nat) (enc:α->D) (l:List α):Prop:=D.rd W (.row e size (l.map enc)) T [v]
abbrev ac (v:Value) (e size:Nat) (enc:α->D) (l:List α):Ent:=.row v e size (l.map enc)
abbrev kh (v:Value) (e size:Nat) (enc:α->D) (l:List α) (k:Nat) (cs:List Value):Ent:=.hole v e size (l.map enc) k cs
structure Hd where
 A:Option Addr
 n:Nat
 c:Nat
def sv (h:Hd):Value:=.slice h.A h.n h.c
def aF:Hd:=⟨none,0,0⟩
def adr:Value->Option Addr
 | .slice A _ _=>A
 | _=>none
theorem RV.shape (h:RV W T v e size enc l):∃ A c,v=.slice A l.length c:=by
 obtain ⟨A,c,cs,e1,_⟩:=h
 rw [List.length_map] at e1
 exact ⟨A,c,by simpa using e1⟩
theorem zE (h:Ent.holds W (ac v e size enc l) S):∃ A c,v=.slice A l.length c:=by
 obtain ⟨v',c',e1,e2,_⟩:=h
 simp only [List.cons.injEq,and_true] at e1
 subst e1
 rcases e2.1.2 with ⟨h1,h2⟩ | ⟨g,cap,cur,h1,_⟩
 ·rw [List.length_map] at h2; exact ⟨none,0,by rw [h1,h2]⟩
 ·rw [List.length_map] at h1; exact ⟨_,_,h1⟩
theorem Sep.shape (h:Sep M w0 W (ac v e size enc l::L)):∃ A c,v=.slice A l.length c:=by
 obtain ⟨S,_,h1,_⟩:=h.own
 exact zE h1
theorem Sep.hshape {k:Nat} (h:Sep M w0 W (kh v e size enc l k cs::L)):∃ A c,v=.slice A l.length c:=by
 obtain ⟨S,_,⟨c1,c2,h1,_⟩,_⟩:=h.own
 rcases h1.1.2 with ⟨h1,h2⟩ | ⟨g,cap,cur,h1,_⟩
 ·rw [List.length_map] at h2; exact ⟨none,0,by rw [h1,h2]⟩
 ·rw [List.length_map] at h1; exact ⟨_,_,h1⟩
theorem ixv {j:IntKind} {p q:Operand} (hr:RV W' T v e size enc l) (hx:nth l i=some x) (hu:P.underlying t=some (.slice e)) (ht:aX P e=some (ag,z,size,bytes)) (ho:o.op=.indexAddr t p q)
  (hp:ev E p=some v) (hq:ev E q=some (.int j i)):eg P n E o W (.pointer (some (bP (adr v) (i.toNat*size+0)))) W:=by
 obtain ⟨A,c,rfl⟩:=hr.shape
 exact ix hr hx hu ht ho hp hq
theorem RV.flat (h:RV W T v e size enc l) (hx:nth l i=Option.some x) (hf:X.dE (enc x)=Option.some cs):∀ j u,cs[j]?=Option.some u->W.cell? (bP (adr v) (i.toNat*size+j))=Option.some u:=by
 obtain ⟨A,c,rfl⟩:=h.shape
 exact Rd.flat h hx hf
theorem RV.el2 (h:RV w T v e size enc l) (hx:nth l i=Option.some x):∃ cs,(∀ T',RV w T' v e size enc l->D.rds w [enc x] T' cs)/\∀ W,fu T w W->∀ j u,cs[j]?=Option.some u->W.cell? (bP (adr v) (i.toNat*size+j))=Option.some u:=by
 obtain ⟨A,c,rfl⟩:=h.shape
 exact Rd.el2 h hx
theorem cU {Q:(Nat->Prop)->Prop} {T0:Nat->Prop} (q:Q T0) (h:∀ T',Q T'->D.rds w (.row e size (l.map enc)::ds) T' cs):∃ (v:Hd) (cs':List Value),cs=sv v::cs'/\(∀ T',Q T'->RV w T' (sv v) e size enc l)/\∀ T',Q T'->D.rds w ds T' cs':=by
 obtain ⟨A,c,cs',h1,h2,h3⟩:=Dq q h
 exact ⟨⟨A,_,c⟩,cs',h1,h2,h3⟩
theorem aJ {p:Operand} (hr:RV W' T v e size enc l) (hu:P.underlying t=some (.slice e)) (ho:o.op=.call { callee:=.builtin .len,args:=#[p],argTypes:=#[t] }) (hp:ev E p=some v):eg P n E o W (.int .i64 l.length) W:=by
 obtain ⟨A,c,rfl⟩:=hr.shape
 exact len hu ho hp
theorem Sep.lv (h:Sep M w0 W (ac v e size enc l::L)):RV W (Old No W) v e size enc l:=by
 obtain ⟨A,c,rfl⟩:=h.shape
 exact h.lend
theorem Sep.nilv (h:Sep M w0 W L) (e size:Nat) (enc:α->D):Sep M w0 W (ac (sv aF) e size enc ([]:List α)::L):=h.nil e size enc
def zF (h:Hd) (lo size m:Nat):Hd:=⟨wF h.A h.c lo size,m,h.c-lo⟩
theorem RV.hd {h:Hd} (hr:RV W T (sv h) e size enc l):h.n=l.length:=by
 obtain ⟨A,c,e1⟩:=hr.shape
 simp only [sv,Value.slice.injEq] at e1
 exact e1.2.1
theorem slv {h:Hd} {lo hi:Int} {p:Operand} {x y:Option Operand} (hc:cut l lo hi=some r) (hr:RV W' T (sv h) e size enc l) (hu:P.underlying t=some (.slice e)) (ht:aX P e=some (ag,z,size,bytes)) (ho:o.op=.slice t p x y none)
  (hp:ev E p=some (sv h)) (hx:evI E 0 x=some lo) (hy:evI E l.length y=some hi):eg P n E o W (sv (zF h lo.toNat size r.length)) W:=by
 obtain ⟨A,k,c⟩:=h
 have hk:k=l.length:=hr.hd
 subst hk
 exact sl hc (Rd.cap hr) hu ht ho hp hx hy
theorem Ct {h:Hd} {lo hi:Int} (hc:cut l lo hi=some r) (hr:RV W T (sv h) e size enc l):RV W T (sv (zF h lo.toNat size r.length)) e size enc r:=by
 obtain ⟨A,k,c⟩:=h
 have hk:k=l.length:=hr.hd
 subst hk
 exact C2 hc hr
theorem OpW.appv {p q:Operand} (hr:X.app bytes l l2=some r) (hS:Sep M w0 W (ac v e size enc l::ac v2 e size enc l2::L)) (hu:P.underlying t=some (.slice e)) (ht:aX P e=some (ag,some zv,size,bytes))
  (ho:o.op=.call { callee:=.builtin .append,args:=#[p,q],argTypes:=#[t,t] }) (hp:ev E p=some v) (hq:ev E q=some v2)
  (h:∀ (v:Hd) W',Sep M w0 W' (ac (sv v) e size enc r::L)->K (put E o.dst (sv v)) W')
  (hz:zv.cells.size=size:=by exact rfl) (h0:Nat.blt 0 size=true:=by exact rfl) (hb0:Nat.blt 0 bytes=true:=by exact rfl) (hg:o.guard=none:=by exact rfl) (hd:okD n o.dst=true:=by exact rfl):OpW P n ops o E W K:=by
 obtain ⟨A,c,rfl⟩:=hS.shape
 obtain ⟨A2,c2,rfl⟩:=hS.swap.shape
 exact .app hr hS hu ht ho hp hq (λA c W' hS=>h ⟨A,_,c⟩ W' hS) hz h0 hb0 hg hd
theorem OpW.av {p q:Operand} (hr:X.app bytes l l2=some r) (hS:Sep M w0 W (ac v e size enc l::L)) (hrd:RV W T v2 e size enc l2) (hfl:∀ x,(dE (enc x)).isSome=true) (hu:P.underlying t=some (.slice e)) (ht:aX P e=some (ag,some zv,size,bytes))
  (ho:o.op=.call { callee:=.builtin .append,args:=#[p,q],argTypes:=#[t,t] }) (hp:ev E p=some v) (hq:ev E q=some v2)
  (h:∀ (v:Hd) W',Sep M w0 W' (ac (sv v) e size enc r::L)->K (put E o.dst (sv v)) W')
  (hz:zv.cells.size=size:=by exact rfl) (h0:Nat.blt 0 size=true:=by exact rfl) (hb0:Nat.blt 0 bytes=true:=by exact rfl) (hg:o.guard=none:=by exact rfl) (hd:okD n o.dst=true:=by exact rfl):OpW P n ops o E W K:=by
 obtain ⟨A,c,rfl⟩:=hS.shape
 obtain ⟨A2,c2,rfl⟩:=hrd.shape
 exact .appr hr hS hrd hfl hu ht ho hp hq (λA c W' hS=>h ⟨A,_,c⟩ W' hS) hz h0 hb0 hg hd
theorem OpW.liv {k:Nat} {parts:Array (Nat×Operand)} {vs:List Value} (l:List α) (enc:α->D) (hu:P.underlying t=some (.slice e)) (ht:aX P e=some (ag,some zv,size,bytes)) (hS:Sep M w0 W L) (ho:o.op=.buildSlice t k parts)
  (hp:mN 0 parts.toList E=some vs) (hk:vs.length=k) (hf:uS enc l=some (qY vs))
  (h:∀ (v:Hd) W',Sep M w0 W' (ac (sv v) e size enc l::L)->K (put E o.dst (sv v)) W') (hl:k=l.length) (hsz:∀ x:α,(enc x).sz=size) (hle:Nat.ble (k*size) 16777216=true:=by exact rfl) (h0:Nat.blt 0 size=true:=by exact rfl) (hg:o.guard=none:=by exact rfl) (hd:okD n o.dst=true:=by exact rfl):OpW P n ops o E W K:=
 .li l enc hu ht hS ho hp hk hf (λA c W' hS=>h ⟨A,_,c⟩ W' hS) hl hsz hle h0 hg hd
def xr (size:Nat):List Value->Bool
 | []=>true
 | v::r=>match Nat.beq v.cells.toList.length size with
  | true=>xr size r
  | false=>false
theorem ra:∀ {vs:List Value},xr size vs=true->∀ v∈vs,v.cells.toList.length=size
 | [],_,v,hv=>by simp at hv
 | u::r,h,v,hv=>by
  simp only [xr] at h
  split at h
  ·rename_i h1
   rcases List.mem_cons.1 hv with rfl | hv
   ·exact Nat.eq_of_beq_eq_true h1
   ·exact ra h v hv
  ·cases h
theorem OpW.lg {k:Nat} {parts:Array (Nat×Operand)} {vs:List Value} (l:List α) (enc:α->D) (hu:P.underlying t=some (.slice e)) (ht:aX P e=some (ag,some zv,size,bytes)) (hS:Sep M w0 W (L1++L)) (ho:o.op=.buildSlice t k parts)
  (hp:mN 0 parts.toList E=some vs) (hk:vs.length=k) (hg0:Gat (l.map enc) (cN vs) L1)
  (h:∀ (v:Hd) W',Sep M w0 W' (ac (sv v) e size enc l::L)->K (put E o.dst (sv v)) W') (hl:k=l.length) (hsz:∀ x:α,(enc x).sz=size) (hvs:xr size vs=true:=by exact rfl) (hle:Nat.ble (k*size) 16777216=true:=by exact rfl) (h0:Nat.blt 0 size=true:=by exact rfl) (hg:o.guard=none:=by exact rfl) (hd:okD n o.dst=true:=by exact rfl):OpW P n ops o E W K:=
 .lig l enc hu ht hS ho hp hk hg0 (λA c W' hS=>h ⟨A,_,c⟩ W' hS) hl hsz (ra hvs) hle h0 hg hd
theorem OpW.mkv {p q:Operand} {j k:IntKind} {nn:Int} (z0:α) (enc:α->D) (h:X.mk bytes nn z0=some r) (hu:P.underlying t=some (.slice e)) (ht:aX P e=some (ag,some zv,size,bytes)) (hS:Sep M w0 W L) (ho:o.op=.makeSlice t p q)
  (hp:ev E p=some (.int j nn)) (hq:ev E q=some (.int k nn)) (hf:mZ (enc z0)=some zv.cells.toList) (hz:zv.cells.size=size) (hsz:∀ x:α,(enc x).sz=size)
  (k2:∀ (v:Hd) W',Sep M w0 W' (ac (sv v) e size enc r::L)->K (put E o.dst (sv v)) W') (hb0:Nat.blt 0 bytes=true:=by exact rfl) (hg:o.guard=none:=by exact rfl) (hd:okD n o.dst=true:=by exact rfl):OpW P n ops o E W K:=
 .mkz z0 enc h hu ht hS ho hp hq hf hz hsz (λA c W' hS=>k2 ⟨A,_,c⟩ W' hS) hb0 hg hd
theorem OpW.sev {p q:Operand} {j tsize tb:Nat} {x0 x1:α} {c0 c1:List Value} (hr:upd l i x1=some r) (hx:nth l i=some x0) (hS:Sep M w0 W (ac v2 e size enc l::L)) (ht:aX P t=some (ag,z,tsize,tb)) (ho:o.op=.store t p q)
  (hp:ev E p=some (.pointer (some (bP (adr v2) (i.toNat*size+j))))) (hq:ev E q=some v) (hf0:dE (enc x0)=some c0) (hf1:dE (enc x1)=some c1) (hc:splice c0 j v.cells.toList=c1)
  (k:∀ W',Sep M w0 W' (ac v2 e size enc r::L)->K E W') (hl:v.cells.size=tsize:=by exact rfl) (h1:v.cells.toList.all (·.oneCell')=true:=by exact rfl) (hj:Nat.ble (j+tsize) c0.length=true:=by exact rfl) (h0:Nat.blt 0 tsize=true:=by exact rfl) (hg:o.guard=none:=by exact rfl) (hd:o.dst=none:=by exact rfl):OpW P n ops o E W K:=by
 obtain ⟨A,c,rfl⟩:=hS.shape
 have hlen:r.length=l.length:=by rw [(xg hr).1,List.length_set]
 refine .se hr hx hS ht ho hp hq hf0 hf1 hc (λW' hS'=>k W' ?_) hl h1 hj h0 hg hd
 unfold md at hS'
 rw [hlen] at hS'
 exact hS'
theorem OpW.cV {f:FuncId} {fn:Func} {as:Array Operand} {ts:Array TypeId} {vs:List Value} {v:Hd->Value} {x:Hd->Ent} (hS:Sep M w0 W L) (hf:P.funcs[f]?=some fn) (hc:Calls P f vs.toArray W (Ret No W v λs=>[x s]))
  (ho:o.op=.call { callee:=.value (.func f),args:=as,argTypes:=ts }) (hv:evs E as.toList=some vs)
  (k:∀ s W',Sep M w0 W' (x s::L)->K (put E o.dst (v s)) W') (hb:fn.body.isSome=true:=by exact rfl) (hn:(fn.name=="runtime.NumGoroutine")=false:=by exact rfl) (hg:o.guard=none:=by exact rfl) (hd:okD n o.dst=true:=by exact rfl):OpW P n ops o E W K:=
 .call hS hf hc ho hv (λs W' h=>k s W' (by simpa using h)) hb hn hg hd
theorem Sep.ov (h:Sep M w0 W (ac v e size enc l::L)) (hx:nth l i=some x):∃ cs,Sep M w0 W (.dat [enc x] cs::kh v e size enc l i.toNat cs::L):=by
 obtain ⟨A,c,rfl⟩:=h.shape
 exact h.out hx
theorem Sep.bv {k:Nat} (h:Sep M w0 W (.dat [enc y] cs::kh v e size enc l k cs::L)):Sep M w0 W (ac v e size enc (l.set k y)::L):=by
 obtain ⟨A,c,rfl⟩:=h.swap.hshape
 have:=h.back
 unfold md at this
 rw [List.length_set] at this
 exact this
theorem Sep.back0v (hx:nth l i=some x) (h:Sep M w0 W (.dat [enc x] cs::kh v e size enc l i.toNat cs::L)):Sep M w0 W (ac v e size enc l::L):=by
 have:=h.bv
 rw [xp hx] at this
 exact this
theorem Sep.ow (h:Sep M w0 W (.dat (.row e size (l.map enc)::ds) cs::L)):∃ (v:Hd) (cs':List Value),cs=sv v::cs'/\Sep M w0 W (.dat ds cs'::ac (sv v) e size enc l::L):=by
 obtain ⟨A,c,cs',h1,h2⟩:=h.orow
 exact ⟨⟨A,_,c⟩,cs',h1,h2⟩
theorem Sep.hcellsv {k:Nat} (h:Sep M w0 W (kh v e size enc l k cs::L)):∀ j u,cs[j]?=some u->W.cell? (bP (adr v) (k*size+j))=some u:=by
 obtain ⟨A,c,rfl⟩:=h.hshape
 exact h.hcells
theorem OpW.sthv {p q:Operand} {k j tsize tb:Nat} (hS:Sep M w0 W (kh v2 e size enc l k cs::L)) (ht:aX P t=some (ag,z,tsize,tb)) (ho:o.op=.store t p q)
  (hp:ev E p=some (.pointer (some (bP (adr v2) (k*size+j))))) (hq:ev E q=some v)
  (kk:∀ W',Sep M w0 W' (kh v2 e size enc l k (splice cs j v.cells.toList)::L)->K E W') (hl:v.cells.size=tsize:=by exact rfl) (h1:v.cells.toList.all (·.oneCell')=true:=by exact rfl) (hj:Nat.ble (j+tsize) cs.length=true:=by exact rfl) (h0:Nat.blt 0 tsize=true:=by exact rfl) (hg:o.guard=none:=by exact rfl) (hd:o.dst=none:=by exact rfl):OpW P n ops o E W K:=by
 obtain ⟨A,c,rfl⟩:=hS.hshape
 exact .sth hS ht ho hp hq kk hl h1 hj h0 hg hd
theorem oH:∀ {xs:List D} {T:Nat->Prop} {cs:List Value},D.rds W xs T cs->cs.length=D.szs xs
 | [],_,_,h=>by have:_=_:=h; subst this; rfl
 | x::xs,_,_,⟨d1,d2,h1,h2,h3,h4⟩=>by subst h1; rw [List.length_append,h2,oH h4]; rfl
variable {T1 T2:Nat->Prop}
mutual
theorem D.rd_and:∀ {d:D} {cs:List Value},D.rd W d T1 cs->D.rd W d T2 cs->D.rd W d (λb=>T1 b/\T2 b) cs
 | .int _ _,_,h,_=>h
 | .bool _,_,h,_=>h
 | .str _,_,h,_=>h
 | .agg xs,_,h,h'=>D.rds_and (xs:=xs) h h'
 | .row _ _ xs,_,⟨A,cap,c,h1,h2,h3,h4,h5,h6⟩,⟨A',cap',c',k1,k2,k3,k4,k5,k6⟩=>by
  subst h1
  simp only [List.cons.injEq,and_true,Value.slice.injEq,true_and] at k1
  obtain ⟨rfl,rfl⟩:=k1
  by_cases hne:xs=[]
  ·subst hne
   exact ⟨A,cap,[],rfl,h2,h3,h4,λh=>absurd rfl h,rfl⟩
  ·obtain ⟨ad,rfl,f1,f2⟩:=h5 hne
   obtain ⟨ad',e1,g1,g2⟩:=k5 hne
   injection e1 with e1
   subst e1
   have hl:c.length=c'.length:=by rw [oH h6,oH k6]
   have hc:c=c':=by
    apply List.ext_getElem?
    intro j
    rcases Nat.lt_or_ge j c.length with hj | hj
    ·have e1:=f2 j _ (List.getElem?_eq_getElem hj)
     have e2:=g2 j _ (List.getElem?_eq_getElem (hl▸hj))
     rw [e1] at e2
     rw [List.getElem?_eq_getElem hj,List.getElem?_eq_getElem (hl▸hj)]
     exact e2
    ·rw [List.getElem?_eq_none hj,List.getElem?_eq_none (hl▸hj)]
   subst hc
   exact ⟨some ad,cap,c,rfl,h2,h3,h4,λ_=>⟨ad,rfl,⟨f1,g1⟩,f2⟩,D.rds_and h6 k6⟩
theorem D.rds_and:∀ {xs:List D} {cs:List Value},D.rds W xs T1 cs->D.rds W xs T2 cs->D.rds W xs (λb=>T1 b/\T2 b) cs
 | [],_,h,_=>h
 | x::xs,_,⟨c1,c2,h1,h2,h4,h5⟩,⟨d1,d2,k1,k2,k4,k5⟩=>by
  subst h1
  have:d1=c1:=by
   have:=congrArg (List.take c1.length) k1
   rw [List.take_left',List.take_append_of_le_length (by rw [h2,k2]; exact Nat.le_refl _),List.take_of_length_le (by rw [h2,k2]; exact Nat.le_refl _)] at this
   ·exact this.symm
   ·rfl
  subst this
  have:=List.append_cancel_left k1
  subst this
  exact ⟨_,_,rfl,h2,D.rd_and h4 k4,D.rds_and h5 k5⟩
end
theorem Sep.keepA (h:Sep M w W L) (hr:D.rd w d T cs) (hr':D.rd w d (Old M w) cs):D.rd W d (λb=>T b/\Old M w b) cs:=D.rd_agree (D.rd_and hr hr') λb hb=>h.agree b hb.2
theorem Sep.wasA (h:Sep M w W L) (hr:D.rd W d (λb=>T b/\Old M w b) cs):D.rd w d T cs:=D.rd_mono (D.rd_agree hr λb hb=>(h.agree b hb.2).symm) λb hb=>hb.1
end
noncomputable section
variable {P:Program} {n:Nat} {ops:Array Oper} {o:Oper} {rest:List Oper} {E E':Env} {W W' w w0:World} {a:Act} {v u v2:Value} {K:Env->World->Prop} {R R':Exit->Env->World->Prop} {M T S:Nat->Prop} {L L0 L1:List Ent}
variable {Q:Exit->Act->World->Prop} {SW:World->Prop} {k:Nat}
def wpK (P:Program) (ops:Array Oper) (Q:Exit->Act->World->Prop) (SW:World->Prop) (k:Nat):Nat->Array Bool->Act->World->Prop
 | 0,l,a,w=>Region.ready .any ops l=[]/\Q .normal a w
 | f+1,l,a,w=>(Region.ready .any ops l=[]->Q .normal a w)/\∀ i∈Region.ready .any ops l,wpOp P ops Q i (λa' w'=>(i≠k->SW w')/\wpK P ops Q SW k f (l.setIfInBounds i true) a' w') a w
theorem yX:∀ (f:Nat) (l:Array Bool) (a:Act) (w:World),wpK P ops Q SW k f l a w->wpAny P .any ops Q f l a w
 | 0,_,_,_,h=>h
 | f+1,_,_,_,h=>⟨h.1,λi hi=>wpOp_mono (λa' w' h'=>yX f _ a' w' h'.2) (h.2 i hi)⟩
def ki (ops:Array Oper) (k i:Nat):Bool:=match ops[k]? with
 | none=>true
 | some o=>o.after.toList.any λe=>Region.binds .any e&&Nat.beq e.on i
theorem me {i:Nat} {l:Array Bool} (h:ki ops k i=true) (h0:l.getD i true=false):k∉Region.ready .any ops l:=by
 intro hk
 obtain ⟨_,o,ho,hall⟩:=mem_ready.1 hk
 simp only [ki,ho,List.any_eq_true,Bool.and_eq_true] at h
 obtain ⟨e,he,hb,hon⟩:=h
 have h1:=hall e (by simpa using he) hb
 rw [Nat.eq_of_beq_eq_true hon] at h1
 rcases Nat.lt_or_ge i l.size with h' | h'
 ·simp [h'] at h0 h1; rw [h0] at h1; cases h1
 ·simp [Array.getElem?_eq_none h'] at h1
theorem qg {i j:Nat} {l:Array Bool} (h0:l.getD i true=false) (hj:j∈Region.ready .any ops l):ki ops j i=false:=by
 cases h:ki ops j i
 ·rfl
 ·exact absurd hj (me h h0)
def qp (ops:Array Oper) (i:Nat) (oi:Oper) (l:Array Bool):Prop:=
 ∀ j oj,ops[j]?=some oj->j≠i->l.getD j true=false->ki ops j i=false->oi.apart ops oj=true
theorem qp.of {i:Nat} {oi:Oper} {l:Array Bool} (hi:ops[i]?=some oi) (h:Region.free .any ops l i=true):qp ops i oi l:=λj oj hj hne hl hw=>by
 refine Region.free_spec hi h j oj hj hne hl λe he hb heq=>?_
 simp only [ki,hj] at hw
 have:=List.any_eq_false.1 hw e (by simpa using he)
 simp [hb,heq] at this
theorem qp.set {i j:Nat} {oi:Oper} {l:Array Bool} (h:qp ops i oi l) (hj:l.getD j true=false):qp ops i oi (l.setIfInBounds j true):=λm om hm hne hl hw=>by
 refine h m om hm hne ?_ hw
 by_cases e:j=m
 ·exact e▸hj
 ·rwa [getD_set_ne true e] at hl
theorem qh {i:Nat} {oi:Oper} {v:Value} (hi:ops[i]?=some oi) (hs:Region.noSelect ops=true) (hQ:∀ c a w,Q (.panic c) (a.put oi.dst v) w->Q (.panic c) a w) (hw:ki ops k i=true) (hik:i≠k) :
  ∀ {f:Nat} {l:Array Bool} {a:Act} {w:World},qp ops i oi l->i∈Region.ready .any ops l->YieldsIf P ops SW oi v a->SW w->wpK P ops Q SW k f (l.setIfInBounds i true) (a.put oi.dst v) w->wpK P ops Q SW k (f+1) l a w:=by
 intro f
 induction f with
 | zero =>
  intro l a w hL hr hy hS H
  refine ⟨λh=>absurd (h▸hr) (by simp),λj hj=>?_⟩
  rcases Nat.decEq j i with hji | hji
  ·exact absurd (ready_mono hj hji) (by rw [H.1]; simp)
  ·subst hji
   exact hy.wpOp hi hS ⟨λ_=>hS,H⟩
 | succ f ih =>
  intro l a w hL hr hy hS H
  have hl:=(mem_ready.1 hr).1
  refine ⟨λh=>absurd (h▸hr) (by simp),λj hj=>?_⟩
  rcases Nat.decEq j i with hji | hji
  ·obtain ⟨hjl,oj,hoj,_⟩:=mem_ready.1 hj
   have hne:j≠k:=λh=>me hw hl (h▸hj)
   have hsel:=Region.noSelect_spec hs
   refine wpOp_mono (λa' w' ⟨hy',hS',H'⟩=>⟨hS',ih (hL.set hjl) (ready_mono hr λh=>hji h.symm) hy' (hS' hne) ?_⟩)
    (wpOp_putIf hoj (hL j oj hoj hji hjl (qg hl hj)) (λcs b=>hsel i oi cs b hi) (λcs b=>hsel j oj cs b hoj) hQ hy (H.2 j (ready_mono hj hji)))
   rwa [Array.setIfInBounds_comm _ _ hji]
  ·subst hji
   exact hy.wpOp hi hS ⟨λ_=>hS,H⟩
def RK (P:Program) (n:Nat) (ops:Array Oper) (SW:World->Prop) (k:Nat) (f:Nat) (l:Array Bool) (E:Env) (W:World) (K:Env->World->Prop):Prop:=
 ∀ a Q,hU n E a->(∀ a' E' W',hU n E' a'->K E' W'->Q .normal a' W')->wpK P ops (NoPanic Q) SW k f l a W
theorem CW.rk {id:Nat} (k:Nat) (hS:Sep M w0 W L) (is:List Nat) (hm:P.follows .mixedOrders=true) (h:∀ W,Sep M w0 W L->RK P n ops (λW=>Sep M w0 W (X.xm L is)) k ops.size (Array.replicate ops.size false) E W (R .normal)):CW P n (.region id ops true) E W R:=by
 intro a ha
 refine wp_region_noPanic (wp_region_any hm (yX _ _ _ _ (h _ (hS.drewN _) a _ ha λa' E' W' ha' hr=>⟨E',ha',hr⟩)))
theorem RK.done {f:Nat} {l:Array Bool} (h:K E W) (hr:Am (Region.ready .any ops l)=true:=by kernel_rfl):RK P n ops SW k f l E W K:=by
 intro a Q ha hk
 have h0:Region.ready .any ops l=[]:=by
  cases hq:Region.ready .any ops l with
  | nil=>rfl
  | cons x y=>rw [hq] at hr; cases hr
 have h1:NoPanic Q .normal a W:=hk _ _ _ ha h
 cases f with
 | zero=>exact ⟨h0,h1⟩
 | succ f=>exact ⟨λ_=>h1,by rw [h0]; simp⟩
theorem RK.t1 {f:Nat} {l:Array Bool} (i:Nat) (ho:ops[i]?=some o) (hv:∀ W,SW W->eg P n E o W v W) (hS:SW W) (h:RK P n ops SW k f (l.setIfInBounds i true) (put E o.dst v) W K)
  (hs:(Region.noSelect ops&&Region.free .any ops l i&&(Region.ready .any ops l).contains i&&ki ops k i&&!(Nat.beq i k))=true) (hg:o.guard=none) (hd:okD n o.dst=true):RK P n ops SW k (f+1) l E W K:=by
 intro a Q ha hk
 simp only [Bool.and_eq_true,Bool.not_eq_true'] at hs
 obtain ⟨⟨⟨⟨h1,h2⟩,h3⟩,h4⟩,h5⟩:=hs
 exact qh ho h1 (λc a w h=>h) h4 (by rintro rfl; rw [Nat.beq_refl] at h5; cases h5) (qp.of ho h2) (by simpa using h3) (.inl ⟨by simp [Region.wanted,hg],λw hw=>hv w hw a ha⟩) hS (h _ Q (ha.put hd v) hk)
def BD (p:Nat->Prop):List Nat->Prop
 | []=>True
 | i::r=>p i/\BD p r
theorem BD.mem {p:Nat->Prop}:∀ {l:List Nat},BD p l->∀ i∈l,p i
 | [],_,_,h=>by simp at h
 | j::r,⟨h1,h2⟩,i,h=>by
  rcases List.mem_cons.1 h with rfl | h
  ·exact h1
  ·exact h2.mem i h
def uX:List Nat->List Nat->Bool
 | [],[]=>true
 | i::r,j::q=>Nat.beq i j&&uX r q
 | _,_=>false
theorem uY:∀ {l q:List Nat},uX l q=true->l=q
 | [],[],_=>rfl
 | i::r,j::q,h=>by
  simp only [uX,Bool.and_eq_true] at h
  rw [Nat.eq_of_beq_eq_true h.1,uY h.2]
 | [],_::_,h=>by cases h
 | _::_,[],h=>by cases h
def Dt (P:Program) (n:Nat) (ops:Array Oper) (SW:World->Prop) (k f:Nat) (l:Array Bool) (E:Env) (W:World) (K:Env->World->Prop) (i:Nat):Prop:=
 ∃ o,ops[i]?=some o/\OpW P n ops o E W λE' W'=>(i≠k->SW W')/\RK P n ops SW k f (l.setIfInBounds i true) E' W' K
theorem RK.by {f:Nat} {l:Array Bool} (is:List Nat) (h:BD (Dt P n ops SW k f l E W K) is) (hr:uX (Region.ready .any ops l) is=true:=by kernel_rfl) (hne:Am is=false:=by rfl):RK P n ops SW k (f+1) l E W K:=by
 intro a Q ha hk
 have hq:=uY hr
 refine ⟨λh0=>?_,λi hi=>?_⟩
 ·rw [hq] at h0; subst h0; cases hne
 ·rw [hq] at hi
  obtain ⟨o,ho,hop⟩:=h.mem i hi
  unfold wpOp
  simp only [ho]
  have:=hop a (NoPanic Q) (λa' w'=>(i≠k->SW w')/\wpK P ops (NoPanic Q) SW k f (l.setIfInBounds i true) a' w') ha (λa' E' W' ha' ⟨h1,h2⟩=>⟨h1,h2 a' Q ha' hk⟩)
  split
  ·rename_i hw
   rw [if_pos hw] at this
   exact .inl this
  ·rename_i hw
   rw [if_neg hw] at this
   exact this
theorem RK.by1 {f:Nat} {l:Array Bool} (i:Nat) (ho:ops[i]?=some o) (h:OpW P n ops o E W λE' W'=>(i≠k->SW W')/\RK P n ops SW k f (l.setIfInBounds i true) E' W' K)
  (hr:uX (Region.ready .any ops l) [i]=true:=by kernel_rfl):RK P n ops SW k (f+1) l E W K:=.by [i] ⟨⟨o,ho,h⟩,trivial⟩ hr rfl
variable {t e:TypeId} {size:Nat} {α:Type} {enc:α->D} {l:List α}
def C3:Option Addr->Bool
 | none=>true
 | some _=>false
def uZ (h:Hd):Bool:=C3 h.A
theorem C4 {h:Hd} {p:Operand} {t':TypeId} (hu:P.underlying t=some (.slice e)) (ho:o.op=.binOp .eql t p (.const (.slice none 0 0)) t') (hp:ev E p=some (sv h)):eg P n E o W (.bool (uZ h)) W:=by
 intro a ha
 have h1:=run_equal_slice_nil (P:=P) W t e h.A h.n h.c hu
 have h2:h.A.isNone=uZ h:=by unfold uZ C3; cases h.A <;> rfl
 unfold execOp
 simp only [ho,ha.ev hp,Sem.run_bind]
 rw [h2] at h1
 have h3:(eqGuard .eql t p (.const (.slice none 0 0)) (sv h) (Act.eval a (.const (.slice none 0 0)))).run P W=.ok () W:=rfl
 simp only [h3,Result.andThen_ok]
 have h4:(binOp .eql t (sv h) (Act.eval a (.const (.slice none 0 0)))).run P W=.ok (.bool (uZ h)) W:=by
  show (binOp .eql t (.slice h.A h.n h.c) (.slice none 0 0)).run P W=_
  simp [binOp,h1]
 rw [h4]
 rfl
theorem RV.isnil {h:Hd} (hr:RV W T (sv h) e size enc l) (hb:uZ h=true):l=[]:=by
 obtain ⟨A,c,cs,e1,e2,e3,e4,e5,e6⟩:=hr
 rcases Decidable.em (l=[]) with hl | hl
 ·exact hl
 ·obtain ⟨ad,rfl,_⟩:=e5 (by simpa using hl)
  simp only [sv,List.cons.injEq,Value.slice.injEq,and_true] at e1
  rw [uZ,e1.1] at hb
  cases hb
end
noncomputable section
variable {P:Program} {n:Nat} {ops:Array Oper} {o:Oper} {rest:List Oper} {E E':Env} {W W' w w0:World} {a:Act} {v u v2:Value} {K:Env->World->Prop} {M T S:Nat->Prop} {L L0 L1:List Ent} {R:Exit->Env->World->Prop}
variable {t tn e:TypeId} {ag:Bool} {z:Option Value} {zv:Value} {size bytes:Nat} {A A2:Option Addr} {m c c2 k:Nat} {α:Type} {enc:α->D} {l l2 r:List α} {i:Int} {x y z0:α} {d:D} {ds xs ys:List D} {cs c1 zc:List Value}
theorem bw.rdv {k:Nat} (h:bw W L (λb=>OkS M w0 W b/\¬ S b)) (hk:L[k]?=some (ac v e size enc l)):RV W (Old S W) v e size enc l:=by
 obtain ⟨S1,h1,h2,_⟩:=h.pull hk
 have:=D.rd_mono (D.own_rd (d:=.row e size (l.map enc)) h2) (T':=Old S W) λb hb=>⟨(h1 b hb).1.2,(h1 b hb).2⟩
 exact this
theorem zG {f:FuncId} {fn:Func} {fo:Operand} {as:Array Operand} {ts:Array TypeId} {vs cap:List Value} (hf:P.funcs[f]?=some fn) (hb:fn.body.isSome=true) (hn:(fn.name=="runtime.NumGoroutine")=false)
  (ho:o.op=.call { callee:=.value fo,args:=as,argTypes:=ts }) (hfo:ev E fo=some (.func (.func f) #[] cap.toArray)) (hv:evs E as.toList=some vs):∀ a,hU n E a->(execOp a.eval o).run P W=.ok (.enter f (vs++cap).toArray) W:=by
 intro a ha
 have h1:=ha.evs hv
 have h2:as.map a.eval=vs.toArray:=by rw [<-h1]; apply Array.ext'; simp
 have h3:fn.name≠"runtime.NumGoroutine":=by simpa using hn
 obtain ⟨cb,hcb⟩:=Option.isSome_iff_exists.1 hb
 unfold execOp
 simp [ho,resolve,Deferred.ofValue,invoke,ha.ev hfo,h2,callFunc,hf,h3,hcb]
theorem mf {f:FuncId} {cap:Array Operand} {vs:List Value} (ho:o.op=.makeFunc (.func f) #[] cap) (hv:evs E cap.toList=some vs):eg P n E o W (.func (.func f) #[] vs.toArray) W:=by
 intro a ha
 have h1:=ha.evs hv
 have h2:cap.map a.eval=vs.toArray:=by rw [<-h1]; apply Array.ext'; simp
 unfold execOp
 simp [ho,Instr.makeFunc,h2]
theorem OpW.gd {c b:Bool} (hc:c=b) (h:OpW P n ops { o with guard:=none } E W K) (hg:gdv ops.toList E o.guard=some (c,b):=by exact rfl):OpW P n ops o E W K:=by
 subst hc
 obtain ⟨j,d,h1,h2,h3⟩:=po hg
 intro a Q Kc ha hk
 have hw:Region.wanted o (yielded ops a.tmps)=true:=by simp [Region.wanted,h1,nj ha h2 h3]
 have:=h a Q Kc ha hk
 rw [if_pos (by simp [Region.wanted])] at this
 rw [if_pos hw]
 exact this
variable {SW:World->Prop}
theorem RK.t1g {f:Nat} {ls:Array Bool} {c b:Bool} (i:Nat) (ho:ops[i]?=some o) (hc:c=b) (hv:∀ W,SW W->eg P n E o W v W) (hS:SW W) (h:RK P n ops SW k f (ls.setIfInBounds i true) (put E o.dst v) W K)
  (hs:(Region.noSelect ops&&Region.free .any ops ls i&&(Region.ready .any ops ls).contains i&&ki ops k i&&!(Nat.beq i k))=true) (hg:gdv ops.toList E o.guard=some (c,b)) (hd:okD n o.dst=true):RK P n ops SW k (f+1) ls E W K:=by
 subst hc
 intro a Q ha hk
 simp only [Bool.and_eq_true,Bool.not_eq_true'] at hs
 obtain ⟨⟨⟨⟨h1,h2⟩,h3⟩,h4⟩,h5⟩:=hs
 obtain ⟨j,d,g1,g2,g3⟩:=po hg
 exact qh ho h1 (λc a w h=>h) h4 (by rintro rfl; rw [Nat.beq_refl] at h5; cases h5) (qp.of ho h2) (by simpa using h3) (.inl ⟨by simp [Region.wanted,g1,nj ha g2 g3],λw hw=>hv w hw a ha⟩) hS (h _ Q (ha.put hd v) hk)
theorem RK.off {f:Nat} {ls:Array Bool} {c b:Bool} (i:Nat) (ho:ops[i]?=some o) (hc:c=!b) (hS:SW W) (h:RK P n ops SW k f (ls.setIfInBounds i true) (put E o.dst undef) W K)
  (hs:(Region.noSelect ops&&Region.free .any ops ls i&&(Region.ready .any ops ls).contains i&&ki ops k i&&!(Nat.beq i k))=true) (hg:gdv ops.toList E o.guard=some (c,b)) (hd:okD n o.dst=true):RK P n ops SW k (f+1) ls E W K:=by
 subst hc
 intro a Q ha hk
 simp only [Bool.and_eq_true,Bool.not_eq_true'] at hs
 obtain ⟨⟨⟨⟨h1,h2⟩,h3⟩,h4⟩,h5⟩:=hs
 obtain ⟨j,d,g1,g2,g3⟩:=po hg
 exact qh ho h1 (λc a w h=>h) h4 (by rintro rfl; rw [Nat.beq_refl] at h5; cases h5) (qp.of ho h2) (by simpa using h3) (.inr ⟨by simp [Region.wanted,g1,nj ha g2 g3],rfl⟩) hS (h _ Q (ha.put hd _) hk)
theorem RK.eqv {f:Nat} {ls:Array Bool} (d:Nat) (h:f5 E d=some u) (he:u=v) (kk:RK P n ops SW k f ls ((d,v)::E) W K):RK P n ops SW k f ls E W K:=by
 subst he
 refine λa Q ha hk=>kk a Q (ha.sub λi x hi=>?_) hk
 simp only [f5] at hi
 cases hb:Nat.beq d i
 ·rw [hb] at hi; exact hi
 ·rw [hb] at hi
  obtain rfl:=Nat.eq_of_beq_eq_true hb
  injection hi with hi
  subst hi
  exact h
theorem RK.both {f:Nat} {ls:Array Bool} (b:Bool) (ht:b=true->RK P n ops SW k f ls E W K) (hf:b=false->RK P n ops SW k f ls E W K):RK P n ops SW k f ls E W K:=by
 cases b
 ·exact hf rfl
 ·exact ht rfl
theorem gu {x y:Bool} (h:some x=some y):Value.bool x=Value.bool y:=by injection h with h; rw [h]
def shO (op:BinOp) (k:IntKind) (x y:Int):Option Int:=if y<0 then none else match op with
 | .shl=>some (mY k (x*2^(min y.toNat k.bits)))
 | .shr=>some (x.fdiv (2^(min y.toNat k.bits)))
 | _=>none
theorem fr {op:BinOp} {k j:IntKind} {x y r:Int} {p q:Operand} {t':TypeId} (h:shO op k x y=some r) (ho:o.op=.binOp op t p q t') (hp:ev E p=some (.int k x)) (hq:ev E q=some (.int j y)):eg P n E o W (.int k r) W:=by
 have hv:Ai op (.int k x) (.int j y)=some (.int k r):=by
  unfold shO at h
  split at h
  ·cases h
  ·rename_i hy
   obtain ⟨m,rfl⟩:∃ m:Nat,y=Int.ofNat m:=⟨y.toNat,by simp; omega⟩
   cases op <;> simp only at h <;> try contradiction
   all_goals
    injection h with h
    subst h
    simp [Ai,Cn,shI]
 refine pr ?_
 simp only [ho,pv,hp,hq,hv]
def Tab (g size:Nat) (f:α->List Value) (l:List α) (w:World):Prop:=g<w.heap.size/\∀ (i:Nat) x,l[i]?=some x->∀ j u,(f x)[j]?=some u->w.cell? ⟨g,i*size+j,none⟩=some u
theorem Tab.at {g:Nat} {f:α->List Value} (h:Tab g size f l w) (hS:Sep M w W L) (hM:¬ M g):Tab g size f l W:=by
 refine ⟨Nat.lt_of_lt_of_le h.1 hS.frame.size,λi x hx j u hj=>?_⟩
 rw [World.cell?_of_block (w:=w) (hS.frame.block g h.1 hM)]
 exact h.2 i x hx j u hj
theorem ixt {g N:Nat} {j:IntKind} {p q:Operand} (hx:nth l i=some x) (hN:l.length=N) (hu:P.underlying t=some (.array N e)) (ht:aX P e=some (ag,z,size,bytes)) (ho:o.op=.indexAddr t p q)
  (hp:ev E p=some (Pt g)) (hq:ev E q=some (.int j i)):eg P n E o W (.pointer (some ⟨g,i.toNat*size+0,none⟩)) W:=by
 intro a ha
 obtain ⟨h0,h1,h2⟩:=jd hx
 have hadd:(⟨g,0,none⟩:Addr).add (i.toNat*size)=⟨g,i.toNat*size,none⟩:=by unfold Addr.add; split <;> simp_all
 unfold execOp
 simp only [ho,ha.ev hp,ha.ev hq,Sem.run_bind,Instr.indexAt,asIntOf,Sem.run_pure,Result.andThen_ok,run_underlying hu,Instr.sureAddr]
 rw [if_pos ⟨h0,by omega⟩]
 simp [dQ ht,hadd]
theorem ldt {g j:Nat} {f:α->List Value} {p:Operand} (hT:Tab g size f l W) (hx:nth l i=some x) (ht:aX P t=some (ag,z,m,bytes)) (ho:o.op=.load t p) (hp:ev E p=some (.pointer (some ⟨g,i.toNat*size+j,none⟩)))
  (hv:df ag (seg (f x) j m)=v) (hl:(seg (f x) j m).length=m) (h2:(ag||Nat.beq m 1)=true):eg P n E o W v W:=by
 intro a ha
 obtain ⟨h0,h1,hxi⟩:=jd hx
 have hr:=nL (P:=P) (W:=W) (ad:=⟨g,i.toNat*size+j,none⟩) (cs:=seg (f x) j m) ht hl (λe=>by subst e; simpa using h2) (λq u hu=>by
  have hadd:(⟨g,i.toNat*size+j,none⟩:Addr).add q=⟨g,i.toNat*size+(j+q),none⟩:=by unfold Addr.add; split <;> simp_all [Nat.add_assoc]
  rw [hadd]
  refine hT.2 _ x hxi _ _ ?_
  simp only [seg,List.getElem?_take,List.getElem?_drop] at hu
  split at hu
  ·simpa using hu
  ·cases hu)
 unfold execOp
 simp only [ho,ha.ev hp,Instr.loadAt,Instr.sureAddr,Sem.run_bind,Sem.run_pure,Result.andThen_ok,hr,hv]
end
noncomputable section
variable {P:Program} {n:Nat} {ops:Array Oper} {o:Oper} {E:Env} {M S T:Nat->Prop} {w0 w W W':World} {L L0:List Ent} {K:Env->World->Prop} {v:Value} {t e te size i:Nat} {α:Type} {enc:α->D} {l:List α} {x:α} {cs:List Value} {ag:Bool} {z:Option Value} {bytes:Nat}
theorem mnv {k:IntKind} {p q:Operand} {a b:Int} {t1 t2:TypeId} (ho:o.op=.call { callee:=.builtin .min,args:=#[p,q],argTypes:=#[t1,t2] }) (hp:ev E p=some (.int k a)) (hq:ev E q=some (.int k b)):eg P n E o W (.int k (min a b)) W:=by
 intro s hs
 have e1:(if b<a then b else a)=min a b:=by split <;> omega
 unfold execOp
 simp only [ho,resolve,Deferred.ofValue,invoke,builtin,Sem.run_bind,Sem.run_pure,Result.andThen_ok]
 simp [hs.ev hp,hs.ev hq,Builtin.min_,Builtin.min2,e1]
theorem mxv {k:IntKind} {p q:Operand} {a b:Int} {t1 t2:TypeId} (ho:o.op=.call { callee:=.builtin .max,args:=#[p,q],argTypes:=#[t1,t2] }) (hp:ev E p=some (.int k a)) (hq:ev E q=some (.int k b)):eg P n E o W (.int k (max a b)) W:=by
 intro s hs
 have e1:(if b>a then b else a)=max a b:=by split <;> omega
 unfold execOp
 simp only [ho,resolve,Deferred.ofValue,invoke,builtin,Sem.run_bind,Sem.run_pure,Result.andThen_ok]
 simp [hs.ev hp,hs.ev hq,Builtin.max_,Builtin.max2,e1]
theorem ixh {j:IntKind} {p q:Operand} (hS:Sep M w0 W (kh v e size enc l i cs::L)) {i':Int} (hx:nth l i'=some x) (hu:P.underlying t=some (.slice e)) (ht:aX P e=some (ag,z,size,bytes)) (ho:o.op=.indexAddr t p q)
  (hp:ev E p=some v) (hq:ev E q=some (.int j i')):eg P n E o W (.pointer (some (bP (adr v) (i'.toNat*size+0)))) W:=by
 obtain ⟨h0,h1,h2⟩:=jd hx
 obtain ⟨S,_,⟨c1,c2,h3,_⟩,_⟩:=hS.own
 rcases h3.1.2 with ⟨h3,h4⟩ | ⟨g,cap,cur,h3,_⟩
 ·rw [List.length_map] at h4; omega
 ·rw [List.length_map] at h3
  subst h3
  intro a ha
  unfold execOp
  simp only [ho,ha.ev hp,ha.ev hq,Sem.run_bind,Instr.indexAt,asIntOf,Sem.run_pure,Result.andThen_ok,run_underlying hu,bP,adr,Option.getD_some,Nat.add_zero]
  rw [if_pos ⟨h0,by omega⟩]
  simp [dQ ht]
def BR (w:World) (T:Nat->Prop) (g t:Nat) (cs:List Value):Prop:=T g/\w.heap[g]?=some (.cells cs.toArray t (0,0))
variable {g:Nat}
theorem BR.lt (h:BR w T g t cs):g<w.heap.size:=by
 rcases Nat.lt_or_ge g w.heap.size with h1 | h1
 ·exact h1
 ·have:=h.2; rw [Array.getElem?_eq_none h1] at this; cases this
theorem BR.old (h:BR w T g t cs):BR w (Old No w) g t cs:=⟨⟨h.lt,id⟩,h.2⟩
theorem BR.agree (h:BR w T g t cs) (ha:fu T w W):BR W (Old No W) g t cs:=BR.old (T:=T) ⟨h.1,(ha g h.1).trans h.2⟩
theorem Sep.keepB (h:Sep M w W L) (hb:BR w (Old M w) g t cs):BR W (Old No W) g t cs:=hb.agree h.agree
theorem Sep.boxB (h:Sep M w0 W (.box g t cs::L)):BR W (Old No W) g t cs:=by
 obtain ⟨S,h1,⟨h2,h3⟩,_⟩:=h.own
 exact BR.old (T:=S) ⟨h2,h3⟩
theorem bw.boxB {k:Nat} {Ok:Nat->Prop}:∀ {L:List Ent} {k:Nat},bw W L Ok->L[k]?=some (.box g t cs)->Ok g/\W.heap[g]?=some (.cells cs.toArray t (0,0))
 | [],k,_,h=>by simp at h
 | x::L,0,⟨S,h1,h2,_⟩,h=>by
  have:x=.box g t cs:=by simpa using h
  subst this
  exact ⟨h1 g h2.1,h2.2⟩
 | x::L,k+1,⟨S,h1,_,h3⟩,h=>(h3.mono (λb hb=>hb.1)).boxB (k:=k) (by simpa using h)
theorem bw.boxS {k:Nat} (h3:bw W L (λb=>OkS M w0 W b/\¬ S b)) (hk:L[k]?=some (.box g t cs)):BR W (Old S W) g t cs:=by
 obtain ⟨h1,h2⟩:=h3.boxB (k:=k) hk
 exact ⟨⟨h1.1.2,h1.2⟩,h2⟩
theorem ldb {j:Nat} {x:Operand} (ht:aX P t=some (ag,z,size,bytes)) (hb:BR W T g te cs) (ho:o.op=.load t x) (hx:ev E x=some (.pointer (some ⟨g,j,none⟩)))
  (hv:df ag (seg cs j size)=v) (hl:(seg cs j size).length=size) (h2:(ag||Nat.beq size 1)=true):eg P n E o W v W:=by
 have hS:Sep No W W []:=Sep.start W
 have hS2:Sep (λb=>b=g) W W [.box g te cs]:=⟨.refl _ _,λb=>b=g,λb hb'=>⟨.inr hb',by subst hb'; exact hb.lt⟩,⟨rfl,hb.2⟩,trivial⟩
 exact ld ht hS2 ho hx hv hl h2
def C5 (P:Program) (f:FuncId):Prop:=∃ fn,P.funcs[f]?=some fn/\fn.body.isSome=true/\(fn.name=="runtime.NumGoroutine")=false
theorem OpW.callv {σ:Type} {f:FuncId} {fo:Operand} {as:Array Operand} {ts:Array TypeId} {vs:List Value} {cap:Array Value} {v:σ->Value} {L':σ->List Ent} (hS:Sep M w0 W L) (hf:C5 P f) (hc:Calls P f (vs++cap.toList).toArray W (Ret No W v L'))
  (ho:o.op=.call { callee:=.value fo,args:=as,argTypes:=ts }) (hfo:ev E fo=some (.func (.func f) #[] cap)) (hv:evs E as.toList=some vs)
  (k:∀ s W',Sep M w0 W' (L' s++L)->K (put E o.dst (v s)) W') (hg:o.guard=none:=by exact rfl) (hd:okD n o.dst=true:=by exact rfl):OpW P n ops o E W K:=by
 obtain ⟨fn,hf,hb,hn⟩:=hf
 refine .enter hg hd (zG (cap:=cap.toList) hf hb hn ho (by simpa using hfo) hv) (hc.mono ?_)
 rintro x W' ⟨s,rfl,hs⟩
 refine ⟨_,rfl,k s W' (hS.new hs.frame (hs.own.mono λb hb=>⟨?_,hb.2⟩))⟩
 exact hb.1.elim id False.elim
end
noncomputable section
variable {M:Nat->Prop} {w0 w W:World} {L:List Ent} {d:D} {ds xs:List D} {cs:List Value} {Q:(Nat->Prop)->Prop}
theorem j7 (e:d=.agg xs) (h:∀ T',Q T'->D.rds w (d::ds) T' cs):∀ T',Q T'->D.rds w (xs++ds) T' cs:=by subst e; exact Ds h
theorem Sep.oaggE (h:Sep M w0 W (.dat (d::ds) cs::L)) (e:d=.agg xs):Sep M w0 W (.dat (xs++ds) cs::L):=by subst e; exact h.oa
theorem Gat.aggE (e:d=.agg xs) (h:Gat (xs++ds) cs L):Gat (d::ds) cs L:=by subst e; exact h.agg
variable {P:Program} {n:Nat} {ops:Array Oper} {E:Env} {K:Env->World->Prop}
theorem RG.chunkL {todo:List Oper} (m d:Nat) (c:Bool) (h1:RG P n ops (todo.take m) E W (Ck d c E M w0 L)) (h2:∀ W',Sep M w0 W' L->RG P n ops (todo.drop m) ((d,.bool c)::E) W' K):RG P n ops todo E W K:=by
 refine .cut m _ h1 λE' W' ⟨k,e1,e2,e3,hS⟩=>?_
 intro a Q ha hk
 refine h2 W' hS a Q (ha.sub λi v hi=>?_) hk
 simp only [f5] at hi
 cases hb:Nat.beq d i
 ·rw [hb] at hi
  subst e1
  exact qX e2 hi
 ·rw [hb] at hi
  obtain rfl:=Nat.eq_of_beq_eq_true hb
  injection hi with hi
  subst hi
  exact e3
theorem no {α:Type} {r:α} {C:Prop} (h:(none:Option α)=some r):C:=by cases h
variable {e size bytes t:Nat} {α:Type} {enc:α->D} {l r:List α} {ag:Bool} {z:Option Value} {o:Oper} {v:Value}
theorem wo:∀ {xs:List D} {S:Nat->Prop} {cs:List Value},D.owns W xs S cs->(∀ x∈xs,x.sz=size)->∀ k,D.owns W (xs.take k) S (cs.take (k*size))
 | [],_,_,h,_,k=>by have:_=[]:=h; subst this; simp [D.owns]
 | x::xs,_,_,h,_,0=>by simp [D.owns]
 | x::xs,S,_,⟨S1,d1,d2,h1,h2,h3,h4,h5⟩,hs,k+1=>by
  have hx:=hs x (by simp)
  refine ⟨S1,d1,d2.take (k*size),?_,h2,h3,h4,wo h5 (λy hy=>hs y (by simp [hy])) k⟩
  subst h1
  rw [List.take_append,List.take_of_length_le (by rw [h2,hx,Nat.add_mul]; omega),show (k+1)*size-d1.length=k*size by rw [h2,hx,Nat.add_mul]; omega]
theorem Sep.cuto {h:Hd} {hi:Int} (hS:Sep M w0 W (ac (sv h) e size enc l::L)) (hc:cut l 0 hi=some r):Sep M w0 W (ac (sv (zF h (0:Int).toNat size r.length)) e size enc r::L):=by
 obtain ⟨hrr,h0,h1,h2⟩:=rO hc
 obtain ⟨A,k,c⟩:=h
 obtain ⟨S,hS1,⟨v1,cs,f1,⟨⟨r1,r2⟩,b1⟩,s1,S2,p2,o2⟩,hrest⟩:=hS.own
 have hr:r=l.take hi.toNat:=by rw [hrr]; simp
 have hrl:r.length=hi.toNat:=by rw [hr,List.length_take]; omega
 simp only [List.cons.injEq,and_true] at f1
 subst f1
 simp only [List.length_map] at r1 r2
 have hmap:r.map enc=(l.map enc).take hi.toNat:=by rw [hr,List.map_take]
 have hA:wF A c 0 size=A:=by
  unfold wF
  split
  ·rfl
  ·rw [Nat.zero_mul]; cases A <;> simp [Addr.add]
 have hv:sv (zF ⟨A,k,c⟩ (0:Int).toNat size r.length)=.slice A r.length c:=by simp [sv,zF,hA]
 have hle:hi.toNat*size<=l.length*size:=Nat.mul_le_mul_right _ (by omega)
 refine ⟨hS.frame,S,hS1,⟨_,cs.take (hi.toNat*size),rfl,⟨⟨?_,?_⟩,λg hg=>?_⟩,λx hx=>s1 x ?_,S2,λb hb=>⟨(p2 b hb).1,?_⟩,?_⟩,hrest⟩
 ·rw [List.length_take,List.length_map,r1,hrl]; omega
 ·rw [hv,List.length_map]
  rcases r2 with ⟨h3,h4⟩ | ⟨g,cap,cur,h3,h4,h5,h6,h7,h8,h9⟩
  ·simp only [sv,Value.slice.injEq] at h3
   obtain ⟨rfl,_,rfl⟩:=h3
   have:r.length=0:=by omega
   exact .inl ⟨by rw [this],this⟩
  ·simp only [sv,Value.slice.injEq] at h3
   obtain ⟨rfl,_,rfl⟩:=h3
   refine .inr ⟨g,c,cur,rfl,h4,h5,by omega,h7,h8,?_⟩
   rw [<-h9,List.take_take,hrl,Nat.min_eq_left hle]
 ·rw [hv] at hg
  cases A with
  | none=>simp [Value.ownBlock] at hg
  | some ad=>exact b1 g hg
 ·rw [hmap] at hx
  exact List.mem_of_mem_take hx
 ·rw [hv]
  have:=(p2 b hb).2
  cases A with
  | none=>simp [Value.ownBlock]
  | some ad=>exact this
 ·rw [hmap]
  exact wo o2 s1 _
theorem OpW.cuto {h:Hd} {hi:Int} {p:Operand} {x y:Option Operand} (hc:cut l 0 hi=some r) (hS:Sep M w0 W (ac (sv h) e size enc l::L)) (hu:P.underlying t=some (.slice e)) (ht:aX P e=some (ag,z,size,bytes)) (ho:o.op=.slice t p x y none)
  (hp:ev E p=some (sv h)) (hx:evI E 0 x=some 0) (hy:evI E l.length y=some hi) (k:∀ v:Hd,Sep M w0 W (ac (sv v) e size enc r::L)->K (put E o.dst (sv v)) W) (hg:o.guard=none:=by exact rfl) (hd:okD n o.dst=true:=by exact rfl):OpW P n ops o E W K:=
 .runs (slv hc hS.lv hu ht ho hp hx hy) hg hd (k _ (hS.cuto hc))
theorem Sep.nz {h:Hd} (hS:Sep M w0 W (ac (sv h) e size enc l::L)) (hne:l≠[]):uZ h=List.isEmpty l:=by
 cases hb:uZ h
 ·cases l <;> simp at hne ⊢
 ·exact absurd (RV.isnil hS.lv hb) hne
theorem Cu {l2:List α} (h:app bytes l l2=some r) (h2:l2≠[]):r≠[]:=by
 obtain ⟨rfl,_⟩:=pm h
 simp [h2]
end
noncomputable section
variable {P:Program} {n:Nat} {ops:Array Oper} {o:Oper} {rest:List Oper} {E E':Env} {W W' w w0:World} {v:Value} {K:Env->World->Prop} {R:Exit->Env->World->Prop} {M:Nat->Prop} {L:List Ent}
def og (n:Nat) (o:Oper):Bool:=match o.guard,okD n o.dst with
 | none,true=>true
 | _,_=>false
theorem uJ (h:og n o=true):o.guard=none/\okD n o.dst=true:=by
 unfold og at h
 split at h
 ·rename_i h1 h2; exact ⟨h1,h2⟩
 ·cases h
def pq (n:Nat) (E:Env) (o:Oper):Option Value:=match o.guard,okD n o.dst with
 | none,true=>pv (ev E) o.op
 | _,_=>none
theorem qi (h:pq n E o=some v):pv (ev E) o.op=some v/\o.guard=none/\okD n o.dst=true:=by
 unfold pq at h
 split at h
 ·rename_i h1 h2; exact ⟨h,h1,h2⟩
 ·cases h
theorem RG.q (h:pq n E o=some v) (k:RG P n ops rest (put E o.dst v) W K):RG P n ops (o::rest) E W K:=
 .p (qi h).1 (qi h).2.1 (qi h).2.2 k
theorem RG.s (h:eg P n E o W v W) (hg:og n o=true) (k:RG P n ops rest (put E o.dst v) W K):RG P n ops (o::rest) E W K:=
 .r h k (uJ hg).1 (uJ hg).2
theorem CW.cs {c d:Code} {x:Operand} {b:Bool} {α:Type} {X Y:Option α} {r:α} (hx:ev E x=some (.bool b)) (h:sel b X Y=some r) (ht:X=some r->CW P n c E W R) (hf:Y=some r->CW P n d E W R):CW P n (.cond x c d) E W R:=
 .cond hx (λhb=>ht (aC hb h)) (λhb=>hf (aD hb h))
theorem RG.xx {c b:Bool} (hc:c=!b) (hg:(gdv ops.toList E o.guard,okD n o.dst)=(some (c,b),true)) (h:RG P n ops rest (put E o.dst undef) W K):RG P n ops (o::rest) E W K:=by
 simp only [Prod.mk.injEq] at hg
 exact .x hc h hg.1 hg.2
variable {SW:World->Prop} {k f:Nat} {ls:Array Bool}
theorem RK.tp (i:Nat) (ho:ops[i]?=some o) (hv:pq n E o=some v) (hS:SW W)
  (hs:(Region.noSelect ops&&Region.free .any ops ls i&&(Region.ready .any ops ls).contains i&&ki ops k i&&!(Nat.beq i k))=true) (h:RK P n ops SW k f (ls.setIfInBounds i true) (put E o.dst v) W K):RK P n ops SW k (f+1) ls E W K:=
 .t1 i ho (λW _=>pr (qi hv).1) hS h hs (qi hv).2.1 (qi hv).2.2
theorem RK.ts (i:Nat) (ho:ops[i]?=some o) (hv:∀ W,SW W->eg P n E o W v W) (hS:SW W) (hg:og n o=true)
  (hs:(Region.noSelect ops&&Region.free .any ops ls i&&(Region.ready .any ops ls).contains i&&ki ops k i&&!(Nat.beq i k))=true) (h:RK P n ops SW k f (ls.setIfInBounds i true) (put E o.dst v) W K):RK P n ops SW k (f+1) ls E W K:=
 .t1 i ho hv hS h hs (uJ hg).1 (uJ hg).2
end
noncomputable section
variable {P:Program} {n:Nat} {ops:Array Oper} {o:Oper} {rest:List Oper} {E E':Env} {W W' w w0:World} {a:Act} {v u v2:Value} {K:Env->World->Prop} {M T S:Nat->Prop} {L L0 L1:List Ent}
variable {t e:TypeId} {ag:Bool} {z:Option Value} {zv:Value} {size bytes:Nat} {α β:Type} {enc:α->D} {l l2 r:List α} {i:Int} {x y:α} {d:D} {ds xs ys:List D} {cs c1:List Value}
variable {rs:List (Value×Nat×Nat×List D)} {ls:List (Value×Nat×Value)}
def Frz (rs:List (Value×Nat×Nat×List D)) (ls:List (Value×Nat×Value)) (W:World) (S:Nat->Prop):Prop:=
 (∀ r∈rs,D.rd W (.row r.2.1 r.2.2.1 r.2.2.2) S [r.1])/\∀ q∈ls,∃ ad,adr q.1=some ad/\S ad.block/\W.cell? (ad.add q.2.1)=some q.2.2
theorem wq (ad:Addr) (j:Nat):(ad.add j).block=ad.block:=by unfold Addr.add; split <;> rfl
theorem Frz.agree (h:Frz rs ls W S) (ha:fu S W W'):Frz rs ls W' S:=
 ⟨λr hr=>D.rd_agree (h.1 r hr) ha,λq hq=>by
  obtain ⟨ad,h1,h2,h3⟩:=h.2 q hq
  refine ⟨ad,h1,h2,?_⟩
  rw [World.cell?_of_block (w:=W) (w':=W') (by rw [wq]; exact ha _ h2)]
  exact h3⟩
theorem Frz.mono (h:Frz rs ls W S) (hs:∀ b,S b->T b):Frz rs ls W T:=
 ⟨λr hr=>D.rd_mono (h.1 r hr) hs,λq hq=>let ⟨ad,h1,h2,h3⟩:=h.2 q hq; ⟨ad,h1,hs _ h2,h3⟩⟩
abbrev kW (rs:List (Value×Nat×Nat×List D)) (ls:List (Value×Nat×Value)):Ent:=.any (Frz rs ls) Frz.agree Frz.mono
theorem Sep.frz (h:Sep M w0 W (ac v e size enc l::L)):Sep M w0 W (kW [(v,e,size,l.map enc)] []::L):=by
 obtain ⟨S,hS,h1,hrest⟩:=h.own
 refine Sep.of_parts (L':=[kW [(v,e,size,l.map enc)] []]) h.frame hS hrest (dL.refl _ _) ⟨S,λb hb=>.inl hb,⟨λr hr=>?_,λq hq=>by simp at hq⟩,trivial⟩
 simp only [List.mem_singleton] at hr
 subst hr
 exact D.own_rd (d:=.row e size (l.map enc)) h1
theorem Sep.lendz (h:Sep M w0 W (kW rs ls::L)) (j:Nat) (hj:rs[j]?=some (v,e,size,l.map enc)):RV W (Old No W) v e size enc l:=by
 obtain ⟨S,hS,h1,_⟩:=h.own
 exact D.rd_mono (h1.1 _ (List.mem_of_getElem? hj)) λb hb=>⟨(hS b hb).2,id⟩
theorem Sep.cellz {k:Nat} (h:Sep M w0 W (kW rs ls::L)) (j:Nat) (hj:ls[j]?=some (v,k,u)):∀ i u',[u][i]?=some u'->W.cell? (bP (adr v) (k+i))=some u':=by
 obtain ⟨S,hS,h1,_⟩:=h.own
 obtain ⟨ad,k1,k2,k3⟩:=h1.2 _ (List.mem_of_getElem? hj)
 intro i u' hi
 match i,hi with
 | 0,hi =>
  have:u=u':=by simpa using hi
  subst this
  have k1':adr v=some ad:=k1
  rw [k1']
  exact k3
 | i+1,hi=>simp at hi
def Mul (v:Value) (e size:Nat) (xs:List D) (j:Nat) (cs:List Value) (d:D) (W:World) (S:Nat->Prop):Prop:=bw W [.dat [d] cs,.hole v e size xs j cs] S
theorem Mul.agree {j:Nat} (h:Mul v e size xs j cs d W S) (ha:fu S W W'):Mul v e size xs j cs d W' S:=bw.agree h ha
theorem Mul.mono {j:Nat} (h:Mul v e size xs j cs d W S) (hs:∀ b,S b->T b):Mul v e size xs j cs d W T:=bw.mono h hs
abbrev BE (v:Value) (e size:Nat) (xs:List D) (j:Nat) (cs:List Value) (d:D):Ent:=.any (Mul v e size xs j cs d) Mul.agree Mul.mono
theorem Sep.mul {j:Nat} (h:Sep M w0 W (.dat [d] cs::.hole v e size xs j cs::L)):Sep M w0 W (BE v e size xs j cs d::L):=by
 obtain ⟨S,h1,h2,h3⟩:=bw.split (L1:=[.dat [d] cs,.hole v e size xs j cs]) h.own
 exact ⟨h.frame,S,h1,h2,h3⟩
theorem Mul.parts {j:Nat} (h:Mul v e size xs j cs d W S):∃ (c1 c2:List Value) (S1:Nat->Prop),W.ownsRow 0 e size v xs.length (c1++(cs++c2))/\(∀ g,v.ownBlock=some g->S g)/\(∀ b,S1 b->S b/\v.ownBlock≠some b)/\c1.length=j*size/\cs.length=size/\j<xs.length /\
  (∀ x∈xs,x.sz=size)/\d.sz=size/\D.rds W (xs.set j d) S1 (c1++(cs++c2))/\D.rd W d S1 cs/\∀ u∈cs,u.oneCell'=true:=by
 obtain ⟨Sa,hSa,⟨S3,d1,d2,g1,g2,g3,g4,g5⟩,Sb,hSb,⟨c1,c2,r1,k2,k3,k4,s1,S',p1,o1⟩,_⟩:=h
 have g5':d2=[]:=g5
 subst g5'
 rw [List.append_nil] at g1
 subst g1
 have hdown:=D.own_mono g4 g3
 have hin:=wG (S1:=Sa) o1 s1 k2 k4 hdown (λb hb hb'=>(hSb b (p1 b hb').1).2 hb)
 refine ⟨c1,c2,λb=>Sa b\/S' b,r1.1,λg hg=>(hSb g (r1.2 g hg)).1,λb hb=>⟨hb.elim (hSa b) λhb=>(hSb b (p1 b hb).1).1,λhv=>?_⟩,k2,k3,k4,s1,by rw [<-D.own_length g4,k3],D.owns_rds hin,D.rd_mono (D.own_rd hdown) λb hb=>.inl hb,D.own_one g4⟩
 rcases hb with hb | hb
 ·exact (hSb b (r1.2 b hv)).2 hb
 ·exact (p1 b hb).2 hv
theorem xt {n j:Nat} (h:W.ownsRow 0 e size v n cs) (hj:cs[j]?=some u):∃ g,adr v=some ⟨g,0,none⟩/\v.ownBlock=some g/\W.cell? ((⟨g,0,none⟩:Addr).add j)=some u:=by
 rcases h.2 with ⟨hv,hn⟩ | ⟨g,cap,cur,hv,_,hg,hnc,hcm,hcs,htake⟩
 ·have:=h.1
  rw [hn,Nat.zero_mul] at this
  have:=List.eq_nil_of_length_eq_zero this
  subst this
  simp at hj
 ·subst hv
  refine ⟨g,rfl,rfl,?_⟩
  have hadd:(⟨g,0,none⟩:Addr).add j=⟨g,j,none⟩:=by unfold Addr.add; split <;> simp_all
  rw [hadd,cell_of_row W g j cur e (0,0) hg]
  rw [<-htake,List.getElem?_take] at hj
  split at hj
  ·simpa using hj
  ·cases hj
theorem Aq {ys:List D} {S1:Nat->Prop} (h:W.ownsRow 0 e size v ys.length cs) (h2:∀ g,v.ownBlock=some g->S g) (hs:∀ y∈ys,y.sz=size) (hr:D.rds W ys S1 cs) (h1:∀ b,S1 b->S b):D.rd W (.row e size ys) S [v]:=by
 have hc:=λj u (hj:cs[j]?=some u)=>xt (j:=j) h hj
 rcases h.2 with ⟨hv,hn⟩ | ⟨g,cap,cur,hv,_,hg,hnc,hcm,hcs,htake⟩
 ·have:ys=[]:=List.eq_nil_of_length_eq_zero hn
  subst this hv
  exact ⟨none,0,cs,rfl,Nat.le_refl _,by simp [maxLen],hs,λhne=>absurd rfl hne,D.rds_mono hr h1⟩
 ·subst hv
  refine ⟨some ⟨g,0,none⟩,cap,cs,rfl,hnc,Nat.le_trans hnc hcm,hs,λ_=>⟨_,rfl,h2 g rfl,λj u hj=>?_⟩,D.rds_mono hr h1⟩
  obtain ⟨g',e1,_,e3⟩:=hc j u hj
  have e1':some (⟨g,0,none⟩:Addr)=some ⟨g',0,none⟩:=e1
  injection e1' with e1'
  rw [e1']
  exact e3
theorem yY {enc:α->D} (hx:nth l i=some x):(l.map enc).set i.toNat (enc x)=l.map enc:=by rw [<-List.map_set,xp hx]
theorem Sep.mulz {e2 s2:Nat} {enc2:β->D} {y:List β} (hx:nth l i=some x) (hf:enc x=.row e2 s2 (y.map enc2)) (h:Sep M w0 W (BE v e 1 (l.map enc) i.toNat [u] (enc x)::L)):Sep M w0 W (kW [(v,e,1,l.map enc),(u,e2,s2,y.map enc2)] [(v,i.toNat*1,u)]::L):=by
 obtain ⟨S,hS,hm,hrest⟩:=h.own
 obtain ⟨c1,c2,S1,p1,p2,p3,p4,p5,p6,p7,p8,p9,p10,p11⟩:=Mul.parts hm
 rw [yY hx] at p9
 refine Sep.of_parts (L':=[_]) h.frame hS hrest (dL.refl _ _) ⟨S,λb hb=>.inl hb,⟨λr hr=>?_,λq hq=>?_⟩,trivial⟩
 ·simp only [List.mem_cons,List.not_mem_nil,or_false] at hr
  rcases hr with rfl | rfl
  ·exact Aq p1 p2 p7 p9 λb hb=>(p3 b hb).1
  ·have:D.rd W (.row e2 s2 (y.map enc2)) S1 [u]:=by rw [<-hf]; exact p10
   exact D.rd_mono this λb hb=>(p3 b hb).1
 ·simp only [List.mem_cons,List.not_mem_nil,or_false] at hq
  subst hq
  obtain ⟨g,e1,e2,e3⟩:=xt (j:=i.toNat*1) (u:=u) p1 (by rw [List.getElem?_append_right (by omega),p4,Nat.sub_self]; rfl)
  exact ⟨⟨g,0,none⟩,e1,p2 g e2,e3⟩
def Raw (lit:Value) (cs:List Value) (k:Nat) (W:World) (S:Nat->Prop):Prop:=∃ g,lit=.slice (some ⟨g,0,none⟩) k k/\S g/\∀ j u,(List.replicate k cs).flatten[j]?=some u->W.cell? ((⟨g,0,none⟩:Addr).add j)=some u
theorem Raw.agree {lit:Value} {k:Nat} (h:Raw lit cs k W S) (ha:fu S W W'):Raw lit cs k W' S:=by
 obtain ⟨g,h10,h11,h12⟩:=h
 refine ⟨g,h10,h11,λj u hj=>?_⟩
 rw [World.cell?_of_block (w:=W) (w':=W') (by rw [wq]; exact ha _ h11)]
 exact h12 j u hj
theorem Raw.mono {lit:Value} {k:Nat} (h:Raw lit cs k W S) (hs:∀ b,S b->T b):Raw lit cs k W T:=let ⟨g,h10,h11,h12⟩:=h; ⟨g,h10,hs g h11,h12⟩
abbrev Cv (lit:Value) (cs:List Value) (k:Nat):Ent:=.any (Raw lit cs k) Raw.agree Raw.mono
theorem ud {uv:Value}:∀ {k:Nat},cN (List.replicate k uv)=(List.replicate k uv.cells.toList).flatten
 | 0=>rfl
 | k+1=>by rw [List.replicate_succ,List.replicate_succ,cN,ud]; rfl
theorem OpW.lir {k:Nat} {parts:Array (Nat×Operand)} {uv:Value} (hS:Sep M w0 W L) (hu:P.underlying t=some (.slice e)) (ht:aX P e=some (ag,some zv,size,bytes)) (ho:o.op=.buildSlice t k parts)
  (hp:mN 0 parts.toList E=some (List.replicate k uv)) (hc:uv.cells.toList=cs) (hl:cs.length=size) (h:∀ (lit:Hd) W',Sep M w0 W' (Cv (sv lit) cs k::L)->K (put E o.dst (sv lit)) W')
  (hle:Nat.ble (k*size) 16777216=true:=by exact rfl) (hg:o.guard=none:=by exact rfl) (hd:okD n o.dst=true:=by exact rfl):OpW P n ops o E W K:=by
 have hvs:∀ v∈List.replicate k uv,v.cells.toList.length=size:=λv hv=>by rw [(List.mem_replicate.1 hv).2,hc,hl]
 refine .runs (W':=W.alloc (.cells (cN (List.replicate k uv)).toArray e)) (v:=.slice (some ⟨W.heap.size,0,none⟩) k k) (λa ha=>?_) hg hd (h ⟨some ⟨W.heap.size,0,none⟩,k,k⟩ _ ?_)
 ·have h1:=mD ha hp
  have h2:parts.map (λp=>(p.1,a.eval p.2))=(dh 0 (List.replicate k uv)).toArray:=by rw [<-h1]; apply Array.ext'; simp
  unfold execOp
  simp only [ho,Sem.run_bind]
  rw [show (parts.map λ(x:Nat×Operand)=>match x with | (i,x)=>(i,a.eval x))=(dh 0 (List.replicate k uv)).toArray from h2,lC hu ht (List.length_replicate ..) hvs (Nat.le_of_ble_eq_true hle)]
  rfl
 ·refine hS.new (L':=[Cv (sv ⟨some ⟨W.heap.size,0,none⟩,k,k⟩) cs k]) eH ⟨λb=>b=W.heap.size,λb hb=>by subst hb; simp,⟨W.heap.size,rfl,rfl,λj' u hj=>?_⟩,trivial⟩
  have hadd:(⟨W.heap.size,0,none⟩:Addr).add j'=⟨W.heap.size,j',none⟩:=by unfold Addr.add; split <;> simp_all
  rw [hadd,cell_of_row _ _ j' (cN (List.replicate k uv)).toArray e (0,0) (heap_alloc_new W _),ud,hc]
  simpa using hj
theorem yZ {cu:List Value} (hd:D.rd W d T cu) (hl:cu.length=d.sz):∀ {k:Nat},D.rds W (List.replicate k d) T (List.replicate k cu).flatten
 | 0=>rfl
 | k+1=>by rw [List.replicate_succ,List.replicate_succ]; exact ⟨cu,_,rfl,hl,hd,yZ hd hl⟩
theorem OpW.apm {p q:Operand} {k:Nat} {lit:Value} (hr:X.app bytes l (List.replicate k x)=some r) (hx:nth l i=some x) (hS:Sep M w0 W (Cv lit cs k::BE v e size (l.map enc) i.toNat cs (enc x)::L)) (hu:P.underlying t=some (.slice e)) (ht:aX P e=some (ag,some zv,size,bytes))
  (ho:o.op=.call { callee:=.builtin .append,args:=#[p,q],argTypes:=#[t,t] }) (hp:ev E p=some v) (hq:ev E q=some lit)
  (h:∀ (v:Hd) W',Sep M w0 W' (kW [(sv v,e,size,r.map enc)] []::L)->K (put E o.dst (sv v)) W')
  (hz:zv.cells.size=size:=by exact rfl) (h0:Nat.blt 0 size=true:=by exact rfl) (hb0:Nat.blt 0 bytes=true:=by exact rfl) (hg:o.guard=none:=by exact rfl) (hd:okD n o.dst=true:=by exact rfl):OpW P n ops o E W K:=by
 obtain ⟨rfl,hroom⟩:=pm hr
 obtain ⟨Sl,hSl,⟨g,rfl,h11,h12⟩,S,hSo,hm,hrest⟩:=hS.own
 obtain ⟨c1,c2,S1,p1,p2,p3,p4,h8,p6,h4,h5,p9,p10,h9⟩:=Mul.parts hm
 rw [yY hx] at p9
 generalize hcc:c1++(cs++c2)=cc at *
 obtain ⟨i0,hi,hz0,hz1,hz2⟩:=nM ht
 have hbpos:0<bytes:=by simpa [Nat.blt_eq] using hb0
 rw [List.length_map] at p1
 rw [List.length_replicate] at hroom
 have hmaxl:l.length+k<=140737488355328:=Nat.le_trans (Nat.le_mul_of_pos_right _ hbpos) hroom
 have hone:∀ u∈(List.replicate k cs).flatten,u.oneCell'=true:=λu hu=>by
  obtain ⟨c,hc,hu⟩:=List.mem_flatten.1 hu
  rw [(List.mem_replicate.1 hc).2] at hu
  exact h9 u hu
 obtain ⟨v',W',hrun,hown,hgrow,hn0,hat⟩:=run_append_own_at (P:=P) W 0 t o.type e i0 zv size bytes hu hi hz0 hz1 hz2 hz (by simpa [Nat.blt_eq] using h0) _ _ _ p1 ⟨g,0,none⟩ k k (List.replicate k cs).flatten (by simp [h8]) h12 hone (by simp only [maxLen]; omega) hroom (Nat.zero_le _)
 have hlen:((l++List.replicate k x).map enc).length=l.length+k:=by simp
 obtain ⟨vh,rfl⟩:∃ vh:Hd,v'=sv vh:=by
  rcases hown.2 with ⟨h1,h2⟩ | ⟨g,cap,cur,h1,_⟩
  ·exact ⟨aF,h1⟩
  ·exact ⟨⟨_,_,_⟩,h1⟩
 have hrd:D.rds W' ((l++List.replicate k x).map enc) S1 (cc++(List.replicate k cs).flatten):=by
  have hag:fu S1 W W':=λb hb=>hgrow.block b (hSo b (p3 b hb).1).1.2 λhe=>(p3 b hb).2 he.symm
  rw [List.map_append,List.map_replicate]
  exact uI (D.rds_agree p9 hag) (yZ (D.rd_agree p10 hag) (by rw [h8,h5]))
 have hsz:∀ y∈(l++List.replicate k x).map enc,y.sz=size:=λy hy=>by
  rw [List.map_append] at hy
  rcases List.mem_append.1 hy with hy | hy
  ·exact h4 y hy
  ·obtain ⟨y',hy',rfl⟩:=List.mem_map.1 hy
   rw [(List.mem_replicate.1 hy').2]
   exact h5
 rw [<-hlen] at hown
 refine .runs (W':=W') (v:=sv vh) (λa ha=>?_) hg hd (h vh _ (Sep.of_parts (L':=[_]) hS.frame (S:=λb=>Sl b\/S b) (λb hb=>hb.elim (hSl b) λhb=>(hSo b hb).1) (hrest.mono λb hb=>⟨hb.1.1,λhh=>hh.elim hb.1.2 hb.2⟩) (dL.of_grown hgrow λb hb=>.inr (p2 b hb))
  ⟨λb=>(Sl b\/S b)\/(W.heap.size<=b/\b<W'.heap.size),λb hb=>hb,⟨λr hr'=>?_,λq hq=>by simp at hq⟩,trivial⟩))
 ·unfold execOp
  simp only [ho,resolve,Deferred.ofValue,invoke,builtin,Sem.run_bind,Sem.run_pure,Result.andThen_ok]
  simp [ha.ev hp,ha.ev hq,hrun]
 ·simp only [List.mem_singleton] at hr'
  subst hr'
  refine Aq hown (λg' hg'=>?_) hsz hrd λb hb=>.inl (.inr (p3 b hb).1)
  rcases hat with hat | hat
  ·exact .inl (.inr (p2 g' (hat▸hg')))
  ·have:g'=W.heap.size:=by rw [hat] at hg'; injection hg' with hg'; exact hg'.symm
   subst this
   rcases hown.lt W.heap.size hat with ⟨_,h2⟩
   exact .inr ⟨Nat.le_refl _,h2⟩
variable {Q:Exit->Act->World->Prop} {SW:World->Prop} {k:Nat}
def wpM (P:Program) (ops:Array Oper) (Q:Exit->Act->World->Prop) (SW:World->Prop) (k:Nat):Nat->Array Bool->Act->World->Prop
 | 0,l,a,w=>Region.ready .any ops l=[]/\Q .normal a w
 | f+1,l,a,w=>(Region.ready .any ops l=[]->Q .normal a w)/\∀ i∈Region.ready .any ops l,wpOp P ops Q i (λa' w'=>((l.setIfInBounds i true).getD k true=false->SW w')/\wpM P ops Q SW k f (l.setIfInBounds i true) a' w') a w
theorem za:∀ (f:Nat) (l:Array Bool) (a:Act) (w:World),wpM P ops Q SW k f l a w->wpAny P .any ops Q f l a w
 | 0,_,_,_,h=>h
 | f+1,_,_,_,h=>⟨h.1,λi hi=>wpOp_mono (λa' w' h'=>za f _ a' w' h'.2) (h.2 i hi)⟩
theorem zH {i m:Nat} {oi:Oper} {v:Value} (hi:ops[i]?=some oi) (hs:Region.noSelect ops=true) (hQ:∀ c a w,Q (.panic c) (a.put oi.dst v) w->Q (.panic c) a w) (hkm:m=k\/ki ops k m=true) (hmi:ki ops m i=true) (hik:i≠k) :
  ∀ {f:Nat} {l:Array Bool} {a:Act} {w:World},l.getD m true=false->l.getD k true=false->qp ops i oi l->i∈Region.ready .any ops l->YieldsIf P ops SW oi v a->SW w->wpM P ops Q SW k f (l.setIfInBounds i true) (a.put oi.dst v) w->wpM P ops Q SW k (f+1) l a w:=by
 intro f
 induction f with
 | zero =>
  intro l a w hm hk hL hr hy hS H
  refine ⟨λh=>absurd (h▸hr) (by simp),λj hj=>?_⟩
  rcases Nat.decEq j i with hji | hji
  ·exact absurd (ready_mono hj hji) (by rw [H.1]; simp)
  ·subst hji
   exact hy.wpOp hi hS ⟨λ_=>hS,H⟩
 | succ f ih =>
  intro l a w hm hk hL hr hy hS H
  have hl:=(mem_ready.1 hr).1
  refine ⟨λh=>absurd (h▸hr) (by simp),λj hj=>?_⟩
  rcases Nat.decEq j i with hji | hji
  ·obtain ⟨hjl,oj,hoj,_⟩:=mem_ready.1 hj
   have hjm:j≠m:=λh=>me hmi hl (h▸hj)
   have hjk:j≠k:=λh=>by
    rcases hkm with hkm | hkm
    ·exact hjm (h.trans hkm.symm)
    ·exact me hkm hm (h▸hj)
   have hm':(l.setIfInBounds j true).getD m true=false:=by rw [getD_set_ne true hjm]; exact hm
   have hk':(l.setIfInBounds j true).getD k true=false:=by rw [getD_set_ne true hjk]; exact hk
   have hsel:=Region.noSelect_spec hs
   refine wpOp_mono (λa' w' ⟨hy',hS',H'⟩=>⟨λ_=>hS' ?_,ih hm' hk' (hL.set hjl) (ready_mono hr λh=>hji h.symm) hy' (hS' ?_) ?_⟩)
    (wpOp_putIf hoj (hL j oj hoj hji hjl (qg hl hj)) (λcs b=>hsel i oi cs b hi) (λcs b=>hsel j oj cs b hoj) hQ hy (H.2 j (ready_mono hj hji)))
   ·rw [Array.setIfInBounds_comm _ _ λh=>hji h.symm,getD_set_ne true hik]; exact hk'
   ·rw [Array.setIfInBounds_comm _ _ λh=>hji h.symm,getD_set_ne true hik]; exact hk'
   ·rwa [Array.setIfInBounds_comm _ _ hji]
  ·subst hji
   exact hy.wpOp hi hS ⟨λ_=>hS,H⟩
theorem yk {i:Nat} {oi:Oper} {v:Value} (hi:ops[i]?=some oi) (hs:Region.noSelect ops=true) (hQ:∀ c a w,Q (.panic c) (a.put oi.dst v) w->Q (.panic c) a w) (hik:i≠k) :
  ∀ {f:Nat} {l:Array Bool} {a:Act} {w:World},qp ops i oi l->i∈Region.ready .any ops l->YieldsIf P ops (λ_=>True) oi v a->(l.getD k true=false->SW w)->wpM P ops Q SW k f (l.setIfInBounds i true) (a.put oi.dst v) w->wpM P ops Q SW k (f+1) l a w:=by
 intro f
 induction f with
 | zero =>
  intro l a w hL hr hy hS H
  refine ⟨λh=>absurd (h▸hr) (by simp),λj hj=>?_⟩
  rcases Nat.decEq j i with hji | hji
  ·exact absurd (ready_mono hj hji) (by rw [H.1]; simp)
  ·subst hji
   exact hy.wpOp hi trivial ⟨λh=>hS (by rwa [getD_set_ne true hik] at h),H⟩
 | succ f ih =>
  intro l a w hL hr hy hS H
  refine ⟨λh=>absurd (h▸hr) (by simp),λj hj=>?_⟩
  rcases Nat.decEq j i with hji | hji
  ·obtain ⟨hjl,oj,hoj,_⟩:=mem_ready.1 hj
   have hsel:=Region.noSelect_spec hs
   have hl:=(mem_ready.1 hr).1
   refine wpOp_mono (λa' w' ⟨hy',hS',H'⟩=>⟨λh=>hS' ?_,ih (hL.set hjl) (ready_mono hr λh=>hji h.symm) hy' (λh=>hS' ?_) ?_⟩)
    (wpOp_putIf hoj (hL j oj hoj hji hjl (qg hl hj)) (λcs b=>hsel i oi cs b hi) (λcs b=>hsel j oj cs b hoj) hQ hy (H.2 j (ready_mono hj hji)))
   ·rw [Array.setIfInBounds_comm _ _ λh=>hji h.symm,getD_set_ne true hik]; exact h
   ·rw [Array.setIfInBounds_comm _ _ λh=>hji h.symm,getD_set_ne true hik]; exact h
   ·rwa [Array.setIfInBounds_comm _ _ hji]
  ·subst hji
   exact hy.wpOp hi trivial ⟨λh=>hS (by rwa [getD_set_ne true hik] at h),H⟩
def RM (P:Program) (n:Nat) (ops:Array Oper) (SW:World->Prop) (k:Nat) (f:Nat) (l:Array Bool) (E:Env) (W:World) (K:Env->World->Prop):Prop:=
 ∀ a Q,hU n E a->(∀ a' E' W',hU n E' a'->K E' W'->Q .normal a' W')->wpM P ops (NoPanic Q) SW k f l a W
theorem CW.rm {R:Exit->Env->World->Prop} {id:Nat} (k:Nat) (SW:World->Prop) (hS:Sep M w0 W L) (hm:P.follows .mixedOrders=true) (h:∀ W,Sep M w0 W L->RM P n ops SW k ops.size (Array.replicate ops.size false) E W (R .normal)):CW P n (.region id ops true) E W R:=by
 intro a ha
 refine wp_region_noPanic (wp_region_any hm (za _ _ _ _ (h _ (hS.drewN _) a _ ha λa' E' W' ha' hr=>⟨E',ha',hr⟩)))
theorem RM.done {f:Nat} {l:Array Bool} (h:K E W) (hr:Am (Region.ready .any ops l)=true:=by kernel_rfl):RM P n ops SW k f l E W K:=by
 intro a Q ha hk
 have h0:Region.ready .any ops l=[]:=by
  cases hq:Region.ready .any ops l with
  | nil=>rfl
  | cons x y=>rw [hq] at hr; cases hr
 have h1:NoPanic Q .normal a W:=hk _ _ _ ha h
 cases f with
 | zero=>exact ⟨h0,h1⟩
 | succ f=>exact ⟨λ_=>h1,by rw [h0]; simp⟩
theorem RM.t1 {f:Nat} {l:Array Bool} (i m:Nat) (ho:ops[i]?=some o) (hv:∀ W,SW W->eg P n E o W v W) (hS:SW W) (h:RM P n ops SW k f (l.setIfInBounds i true) (put E o.dst v) W K)
  (hs:(Region.noSelect ops&&Region.free .any ops l i&&(Region.ready .any ops l).contains i&&(Nat.beq m k||ki ops k m)&&ki ops m i&&!(Nat.beq i k)&&!(l.getD m true)&&!(l.getD k true))=true) (hg:o.guard=none) (hd:okD n o.dst=true):RM P n ops SW k (f+1) l E W K:=by
 intro a Q ha hk
 simp only [Bool.and_eq_true,Bool.not_eq_true',Bool.or_eq_true] at hs
 obtain ⟨⟨⟨⟨⟨⟨⟨h1,h2⟩,h3⟩,h4⟩,h5⟩,h6⟩,h7⟩,h8⟩:=hs
 exact zH ho h1 (λc a w h=>h) (h4.imp Nat.eq_of_beq_eq_true id) h5 (by rintro rfl; rw [Nat.beq_refl] at h6; cases h6) h7 h8 (qp.of ho h2) (by simpa using h3) (.inl ⟨by simp [Region.wanted,hg],λw hw=>hv w hw a ha⟩) hS (h _ Q (ha.put hd v) hk)
theorem RM.tp {f:Nat} {l:Array Bool} (i:Nat) (ho:ops[i]?=some o) (hv:∀ W,eg P n E o W v W) (hS:SW W) (h:RM P n ops SW k f (l.setIfInBounds i true) (put E o.dst v) W K)
  (hs:(Region.noSelect ops&&Region.free .any ops l i&&(Region.ready .any ops l).contains i&&!(Nat.beq i k))=true) (hg:o.guard=none) (hd:okD n o.dst=true):RM P n ops SW k (f+1) l E W K:=by
 intro a Q ha hk
 simp only [Bool.and_eq_true,Bool.not_eq_true'] at hs
 obtain ⟨⟨⟨h1,h2⟩,h3⟩,h4⟩:=hs
 exact yk ho h1 (λc a w h=>h) (by rintro rfl; rw [Nat.beq_refl] at h4; cases h4) (qp.of ho h2) (by simpa using h3) (.inl ⟨by simp [Region.wanted,hg],λw _=>hv w a ha⟩) (λ_=>hS) (h _ Q (ha.put hd v) hk)
theorem RM.by1 {f:Nat} {l:Array Bool} (i:Nat) (ho:ops[i]?=some o) (h:OpW P n ops o E W λE' W'=>((l.setIfInBounds i true).getD k true=false->SW W')/\RM P n ops SW k f (l.setIfInBounds i true) E' W' K)
  (hr:uX (Region.ready .any ops l) [i]=true:=by kernel_rfl):RM P n ops SW k (f+1) l E W K:=by
 intro a Q ha hk
 have hq:=uY hr
 refine ⟨λh0=>?_,λj hj=>?_⟩
 ·rw [hq] at h0; cases h0
 ·rw [hq] at hj
  obtain rfl:=List.mem_singleton.1 hj
  unfold wpOp
  simp only [ho]
  have:=h a (NoPanic Q) (λa' w'=>((l.setIfInBounds j true).getD k true=false->SW w')/\wpM P ops (NoPanic Q) SW k f (l.setIfInBounds j true) a' w') ha (λa' E' W' ha' ⟨h1,h2⟩=>⟨h1,h2 a' Q ha' hk⟩)
  split
  ·rename_i hw
   rw [if_pos hw] at this
   exact .inl this
  ·rename_i hw
   rw [if_neg hw] at this
   exact this
theorem RM.byd {f:Nat} {l:Array Bool} (i:Nat) (ho:ops[i]?=some o) (h:OpW P n ops o E W λE' W'=>RM P n ops SW k f (l.setIfInBounds i true) E' W' K)
  (hr:uX (Region.ready .any ops l) [i]=true:=by kernel_rfl) (hk:(Nat.beq i k||l.getD k true)=true:=by kernel_rfl):RM P n ops SW k (f+1) l E W K:=by
 refine .by1 i ho (λa Q Kc ha hk'=>h a Q Kc ha λa' E' W' ha' h'=>hk' a' E' W' ha' ⟨λhh=>?_,h'⟩) hr
 rcases Nat.decEq i k with hik | hik
 ·rw [getD_set_ne true hik] at hh
  have:Nat.beq i k=false:=by
   cases hb:Nat.beq i k
   ·rfl
   ·exact absurd (Nat.eq_of_beq_eq_true hb) hik
  rw [this,Bool.false_or] at hk
  rw [hk] at hh
  cases hh
 ·subst hik
  have:(l.setIfInBounds i true).getD i true=true:=by
   simp only [Array.getD_eq_getD_getElem?,Array.getElem?_setIfInBounds,if_true]
   split <;> rfl
  rw [this] at hh
  cases hh
end

end Go.Proofs.YtfpngipcclmliaaGreatDoor.X
