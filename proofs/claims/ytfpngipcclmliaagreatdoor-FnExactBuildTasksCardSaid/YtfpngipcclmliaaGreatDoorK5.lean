/- What a row says of its arguments, in the program logic's words: data types in general. What a package-level variable's laid datum says of its cells. The law FnE -/
import Derived.Test.YtfpngipcclmliaaGreatDoorK4
import Derived.RowKit
import Derived.ChangeSlices
import Derived.ChangeArms
import Derived.WideShapes
import Derived.OpenShut
import Derived.LaidMore
import Derived.LaidLaws
import GoSem.ClaimJoined
set_option linter.unusedVariables false
set_option linter.unusedSimpArgs false
set_option maxRecDepth 100000
set_option maxHeartbeats 4000000
namespace Go.Proofs.YtfpngipcclmliaaGreatDoor.X
noncomputable section
variable {P:Program} {w:World} {T:Nat->Prop} {t e:TypeId} {size:Nat} {k:IntKind} {α:Type} {enc:α->D} {H:Type} {en:TypeId×Value->H} {base:Nat} {spare:Nat->Bool} {held:Bool}
def sX (P:Program) (t:TypeId):Option (List TypeId):=match P.underlying t with
 | some (.struct fs)=>some (fs.toList.map (·.type))
 | _=>none
mutual
def Typ (P:Program):D->TypeId->Prop
 | .int k n,t=>P.underlying t=some (.int k)/\(Lit.int k n).wf=true
 | .bool _,t=>P.underlying t=some .bool
 | .str s,t=>P.underlying t=some .string/\s.size<=maxLen
 | .row e size xs,t=>P.underlying t=some (.slice e)/\size=P.cellsOf e/\yh P xs e
 | .agg xs,t=>∃ ts,sX P t=some ts/\zM P xs ts
def yh (P:Program):List D->TypeId->Prop
 | [],_=>True
 | x::xs,e=>Typ P x e/\yh P xs e
def zM (P:Program):List D->List TypeId->Prop
 | [],[]=>True
 | x::xs,t::ts=>Typ P x t/\zM P xs ts
 | _,_=>False
end
def pU (P:Program):List Field->Nat->Option Nat
 | [],k=>some k
 | f::r,k=>match Nat.beq f.offset k with
  | true=>pU P r (k+P.cellsOf f.type)
  | false=>none
def okT (P:Program) (ts:List TypeId) (t:TypeId):Bool:=match P.underlying t with
 | some (.int _) | some .bool | some .string=>Nat.beq (P.cellsOf t) 1
 | some (.slice e)=>Nat.beq (P.cellsOf t) 1&&ts.contains e&&!(Nat.beq (P.cellsOf e) 0)
 | some (.struct fs)=>(match pU P fs.toList 0 with
  | some n=>Nat.beq n (P.cellsOf t)
  | none=>false)&&fs.toList.all (λf=>ts.contains f.type)
 | _=>false
theorem D.rd_length:∀ {d:D} {cs:List Value},D.rd w d T cs->cs.length=d.sz
 | .int _ _,_,h=>by simp only [D.rd] at h; subst h; rfl
 | .bool _,_,h=>by simp only [D.rd] at h; subst h; rfl
 | .str _,_,h=>by simp only [D.rd] at h; subst h; rfl
 | .row _ _ _,_,⟨A,cap,c,h1,_⟩=>by subst h1; rfl
 | .agg xs,_,h=>by simp only [D.sz]; exact wQ (xs:=xs) h
theorem yh.append:∀ {xs ys:List D},yh P xs e->yh P ys e->yh P (xs++ys) e
 | [],_,_,h=>h
 | x::xs,_,⟨h1,h2⟩,h=>⟨h1,yh.append h2 h⟩
theorem AU {a:Addr} {v:Value} (h:w.cell? a=some v):Old No w a.block:=⟨World.block_lt_of_cell? w a h,id⟩
theorem DY {ts:List TypeId} (hts:ts.all (okT P ts)=true):∀ {fuel:Nat} {t:TypeId} {cs:List Value} {x:DataW H×List MemPlace},t∈ts->DataW.trod en P w base spare held fuel t cs=some x->∃ d,Typ P d t/\D.rd w d (Old No w) cs/\d.sz=P.cellsOf t:=by
 intro fuel
 induction fuel with
 | zero=>intro t cs x _ h; simp [DataW.trod] at h
 | succ fuel ih =>
  intro t cs x ht h
  have hok:=List.all_eq_true.1 hts t ht
  unfold okT at hok
  split at hok
  ·rename_i k hu
   obtain ⟨n,rfl,_,hw⟩:=DataW.trod_int hu h
   exact ⟨.int k n,⟨hu,hw⟩,rfl,(Nat.eq_of_beq_eq_true hok).symm⟩
  ·rename_i hu
   obtain ⟨b,rfl,_⟩:=DataW.trod_bool hu h
   exact ⟨.bool b,hu,rfl,(Nat.eq_of_beq_eq_true hok).symm⟩
  ·rename_i hu
   obtain ⟨s,rfl,_,hs⟩:=DataW.trod_string hu h
   exact ⟨.str s,⟨hu,hs⟩,rfl,(Nat.eq_of_beq_eq_true hok).symm⟩
  ·rename_i e hu
   simp only [Bool.and_eq_true,Bool.not_eq_true'] at hok
   obtain ⟨⟨h1,h2⟩,h3⟩:=hok
   have he:e∈ts:=by simpa using h2
   have h0:P.cellsOf e≠0:=by intro h0; rw [h0] at h3; cases h3
   have hc1:=(Nat.eq_of_beq_eq_true h1).symm
   rcases DataW.trod_slice hu h with ⟨rfl,_⟩ | ⟨a,len,cap,elems,rest,n,hn,rfl,_,hb,hl,hm,hlen,hel,_,_⟩
   ·exact ⟨.row e (P.cellsOf e) [],⟨hu,rfl,trivial⟩,⟨none,0,[],rfl,Nat.le_refl _,Nat.zero_le _,by simp,λh=>absurd rfl h,rfl⟩,hc1⟩
   ·obtain rfl:fuel=n:=by omega
    have key:∀ m,m<=len->∃ ds c,ds.length=m/\yh P ds e/\(∀ x∈ds,x.sz=P.cellsOf e)/\D.rds w ds (Old No w) c/\c.length=m*P.cellsOf e/\∀ j u,c[j]?=some u->w.cell? (a.add j)=some u:=by
     intro m
     induction m with
     | zero=>intro _; exact ⟨[],[],rfl,trivial,by simp,rfl,by simp,by simp⟩
     | succ m ihm =>
      intro hle
      obtain ⟨ds,c,k1,k2,k3,k4,k5,k6⟩:=ihm (by omega)
      have hi:=hel m (by omega)
      have hs:∃ y,elems[m]?=some y:=⟨_,List.getElem?_eq_getElem (by omega)⟩
      obtain ⟨y,hy⟩:=hs
      rw [hy,Option.bind_eq_some_iff] at hi
      obtain ⟨ci,hci,hyi⟩:=hi
      obtain ⟨d,g1,g2,g3⟩:=ih he hyi
      obtain ⟨_,q2,q3⟩:=World.cells?_some hci
      refine ⟨ds++[d],c++ci,by simp [k1],k2.append ⟨g1,trivial⟩,λx hx=>?_,yT k4 ⟨ci,[],by simp,D.rd_length g2,g2,rfl⟩,by rw [List.length_append,k5,q2,Nat.add_mul]; omega,λj u hj=>?_⟩
      ·rcases List.mem_append.1 hx with hx | hx
       ·exact k3 x hx
       ·rw [List.mem_singleton.1 hx]; exact g3
      ·rcases Nat.lt_or_ge j c.length with hj' | hj'
       ·rw [List.getElem?_append_left hj'] at hj; exact k6 j u hj
       ·rw [List.getElem?_append_right hj'] at hj
        have hlt:j-c.length<P.cellsOf e:=by
         rcases Nat.lt_or_ge (j-c.length) ci.length with h | h
         ·omega
         ·rw [List.getElem?_eq_none h] at hj; cases hj
        have:=q3 _ hlt
        rw [hj,Addr.add_add,<-k5] at this
        rw [show c.length+(j-c.length)=j by omega] at this
        exact this
    obtain ⟨ds,c,k1,k2,k3,k4,k5,k6⟩:=key len (Nat.le_refl _)
    refine ⟨.row e (P.cellsOf e) ds,⟨hu,rfl,k2⟩,⟨some a,cap,c,by rw [k1],by omega,by omega,k3,λhne=>⟨a,rfl,?_,k6⟩,k4⟩,hc1⟩
    have hpos:0<c.length:=by
     rw [k5,<-k1]
     exact Nat.mul_pos (List.length_pos_iff.2 hne) (by omega)
    have h6:=k6 0 _ (List.getElem?_eq_getElem hpos)
    simp only [Addr.add,if_true] at h6
    exact AU h6
  ·rename_i fs hu
   simp only [Bool.and_eq_true] at hok
   obtain ⟨h1,h2⟩:=hok
   split at h1
   ·rename_i tot hcg
    obtain rfl:=Nat.eq_of_beq_eq_true h1
    obtain ⟨xs,n,hn,_,hlen,hxl,hf⟩:=DataW.trod_struct hu h
    obtain rfl:fuel=n:=by omega
    have key:∀ (gs:List Field) (o:Nat),(∀ f∈gs,f.type∈ts/\∃ y,DataW.trod en P w base spare held fuel f.type ((cs.drop f.offset).take (P.cellsOf f.type))=some y)->pU P gs o=some (P.cellsOf t) ->
      ∃ ds,zM P ds (gs.map (·.type))/\D.rds w ds (Old No w) (cs.drop o)/\o+D.szs ds=P.cellsOf t:=by
     intro gs
     induction gs with
     | nil =>
      intro o _ hc
      simp only [pU,Option.some.injEq] at hc
      subst hc
      exact ⟨[],trivial,by rw [<-hlen,List.drop_length]; rfl,rfl⟩
     | cons f gs ihg =>
      intro o hall hc
      simp only [pU] at hc
      split at hc
      ·rename_i ho
       have ho':=Nat.eq_of_beq_eq_true ho
       obtain ⟨hft,y,hy⟩:=hall f (by simp)
       obtain ⟨d,g1,g2,g3⟩:=ih hft hy
       obtain ⟨ds,q1,q2,q3⟩:=ihg _ (λg hg=>hall g (by simp [hg])) hc
       rw [ho'] at g2
       refine ⟨d::ds,⟨g1,q1⟩,⟨_,_,?_,D.rd_length g2,g2,q2⟩,?_⟩
       ·rw [<-List.drop_drop,List.take_append_drop]
       ·simp only [D.szs,g3]; omega
      ·cases hc
    obtain ⟨ds,q1,q2,q3⟩:=key fs.toList 0 (λf hf'=>⟨by have:=List.all_eq_true.1 h2 f hf'; simpa using this,by
      obtain ⟨i,hi⟩:=List.getElem?_of_mem hf'
      have hi':fs[i]?=some f:=by simpa using hi
      have hlt:i<xs.length:=by
       have:=(List.getElem?_eq_some_iff.1 hi).1
       rw [hxl]
       simpa using this
      exact ⟨_,(hf i f hi').trans (List.getElem?_eq_getElem hlt)⟩⟩) hcg
    exact ⟨.agg ds,⟨_,by simp only [sX,hu],q1⟩,q2,by simp only [D.sz]; omega⟩
   ·cases h1
  ·cases hok
def Dec (P:Program) (t:TypeId) (enc:α->D) (Wf:α->Prop):Prop:=∀ d,Typ P d t->∃ x,d=enc x/\Wf x
theorem Dec.int (hu:P.underlying t=some (.int k)):Dec P t (D.int k) (λn=>(Lit.int k n).wf=true):=by
 intro d h
 cases d with
 | int k' n =>
  obtain ⟨h1,h2⟩:=h
  rw [hu] at h1
  injection h1 with h1
  injection h1 with h1
  subst h1
  exact ⟨n,rfl,h2⟩
 | bool b=>rw [show P.underlying t=some .bool from h] at hu; cases hu
 | str s=>rw [show P.underlying t=some .string from h.1] at hu; cases hu
 | row e s xs=>rw [h.1] at hu; cases hu
 | agg xs=>obtain ⟨ts,h1,_⟩:=h; simp [sX,hu] at h1
theorem Dec.bool (hu:P.underlying t=some .bool):Dec P t D.bool (λ_=>True):=by
 intro d h
 cases d with
 | bool b=>exact ⟨b,rfl,trivial⟩
 | int k' n=>rw [h.1] at hu; cases hu
 | str s=>rw [show P.underlying t=some .string from h.1] at hu; cases hu
 | row e s xs=>rw [h.1] at hu; cases hu
 | agg xs=>obtain ⟨ts,h1,_⟩:=h; simp [sX,hu] at h1
theorem Dec.str (hu:P.underlying t=some .string):Dec P t D.str (λs=>s.size<=maxLen):=by
 intro d h
 cases d with
 | str s=>exact ⟨s,rfl,h.2⟩
 | bool b=>rw [show P.underlying t=some .bool from h] at hu; cases hu
 | int k' n=>rw [h.1] at hu; cases hu
 | row e s xs=>rw [h.1] at hu; cases hu
 | agg xs=>obtain ⟨ts,h1,_⟩:=h; simp [sX,hu] at h1
theorem Dec.list {Wf:α->Prop} (h:Dec P e enc Wf):∀ {xs:List D},yh P xs e->∃ l:List α,xs=l.map enc/\∀ x∈l,Wf x
 | [],_=>⟨[],rfl,by simp⟩
 | d::xs,⟨h1,h2⟩=>by
  obtain ⟨x,rfl,hx⟩:=h d h1
  obtain ⟨l,rfl,hl⟩:=Dec.list h h2
  exact ⟨x::l,rfl,λy hy=>(List.mem_cons.1 hy).elim (λe=>e▸hx) (hl y)⟩
theorem Dec.slice {Wf:α->Prop} (hu:P.underlying t=some (.slice e)) (hc:P.cellsOf e=size) (h:Dec P e enc Wf):Dec P t (λ(l:List α)=>D.row e size (l.map enc)) (λl=>∀ x∈l,Wf x):=by
 intro d hd
 cases d with
 | row e' s xs =>
  obtain ⟨h1,h2,h3⟩:=hd
  rw [hu] at h1
  injection h1 with h1
  injection h1 with h1
  subst h1
  obtain ⟨l,rfl,hl⟩:=h.list h3
  exact ⟨l,by rw [h2,hc],hl⟩
 | bool b=>rw [show P.underlying t=some .bool from hd] at hu; cases hu
 | int k' n=>rw [hd.1] at hu; cases hu
 | str s=>rw [show P.underlying t=some .string from hd.1] at hu; cases hu
 | agg xs=>obtain ⟨ts,h1,_⟩:=hd; simp [sX,hu] at h1
theorem zN {d:D} {ts:List TypeId} (hu:sX P t=some ts) (h:Typ P d t):∃ ds,d=.agg ds/\zM P ds ts:=by
 cases d with
 | agg xs =>
  obtain ⟨ts',h1,h2⟩:=h
  rw [hu] at h1
  injection h1 with h1
  subst h1
  exact ⟨xs,rfl,h2⟩
 | bool b=>simp [sX,show P.underlying t=some .bool from h] at hu
 | int k' n=>simp [sX,h.1] at hu
 | str s=>simp [sX,show P.underlying t=some .string from h.1] at hu
 | row e s xs=>simp [sX,h.1] at hu
theorem nI {ds:List D} {ts:List TypeId} {Wf:α->Prop} (hd:Dec P t enc Wf) (h:zM P ds (t::ts)):∃ x ds',ds=enc x::ds'/\Wf x/\zM P ds' ts:=by
 cases ds with
 | nil=>exact h.elim
 | cons d ds =>
  obtain ⟨x,rfl,hx⟩:=hd d h.1
  exact ⟨x,ds,rfl,hx,h.2⟩
theorem zO {ds:List D} (h:zM P ds []):ds=[]:=by
 cases ds with
 | nil=>rfl
 | cons d ds=>exact h.elim
theorem RV.le {v:Value} {l:List α} (h:RV w T v e size enc l):l.length<=maxLen:=by
 obtain ⟨A,c,rfl⟩:=h.shape
 exact Rd.lt h
end
noncomputable section
variable {P:Program} {w:World} {T:Nat->Prop} {t e:TypeId} {size:Nat} {k:IntKind} {α:Type} {H:Type} {en:TypeId×Value->H} {base:Nat} {spare:Nat->Bool} {held:Bool}
def oQ:DataW H->List Value
 | .lit (.int k n)=>[.int k n]
 | .lit (.bool b)=>[.bool b]
 | .lit (.string s)=>[.string ⟨s.toArray⟩]
 | .agg ds=>dcellsL ds
 | _=>[]
where dcellsL:List (DataW H)->List Value
 | []=>[]
 | d::r=>oQ d++dcellsL r
theorem qM {γ:Type} (f:γ->DataW H):∀ {xs:List γ},oQ.dcellsL (xs.map f)=(xs.map λx=>oQ (f x)).flatten
 | []=>rfl
 | x::xs=>by simp only [List.map_cons,oQ.dcellsL,List.flatten_cons,qM f]
def okF (P:Program) (ts:List TypeId) (t:TypeId):Bool:=match P.underlying t with
 | some (.int _) | some .bool | some .string=>Nat.beq (P.cellsOf t) 1
 | some (.array n e)=>Nat.beq (P.cellsOf t) (n*P.cellsOf e)&&ts.contains e
 | some (.struct fs)=>(match pU P fs.toList 0 with
  | some n=>Nat.beq n (P.cellsOf t)
  | none=>false)&&fs.toList.all (λf=>ts.contains f.type)
 | _=>false
theorem BE {ts:List TypeId} (hts:ts.all (okF P ts)=true):∀ {fuel:Nat} {t:TypeId} {cs:List Value} {x:DataW H×List MemPlace},t∈ts->DataW.trod en P w base spare held fuel t cs=some x->cs=oQ x.1/\cs.length=P.cellsOf t:=by
 intro fuel
 induction fuel with
 | zero=>intro t cs x _ h; simp [DataW.trod] at h
 | succ fuel ih =>
  intro t cs x ht h
  have hok:=List.all_eq_true.1 hts t ht
  unfold okF at hok
  split at hok
  ·rename_i k hu
   obtain ⟨n,rfl,rfl,hw⟩:=DataW.trod_int hu h
   exact ⟨rfl,(Nat.eq_of_beq_eq_true hok).symm⟩
  ·rename_i hu
   obtain ⟨b,rfl,rfl⟩:=DataW.trod_bool hu h
   exact ⟨rfl,(Nat.eq_of_beq_eq_true hok).symm⟩
  ·rename_i hu
   obtain ⟨s,rfl,rfl,hs⟩:=DataW.trod_string hu h
   exact ⟨by simp [oQ],(Nat.eq_of_beq_eq_true hok).symm⟩
  ·rename_i n e hu
   simp only [Bool.and_eq_true] at hok
   obtain ⟨h1,h2⟩:=hok
   have he:e∈ts:=by simpa using h2
   have h1':=Nat.eq_of_beq_eq_true h1
   obtain ⟨xs,m,hn,rfl,hlen,hxl,hel⟩:=DataW.trod_array hu h
   obtain rfl:fuel=m:=by omega
   refine ⟨?_,hlen⟩
   have key:∀ j,j<=n->cs.take (j*P.cellsOf e)=((xs.take j).map λy=>oQ y.1).flatten:=by
    intro j
    induction j with
    | zero=>intro _; simp
    | succ j ihj =>
     intro hj
     have hi:=hel j (by omega)
     have hlt:j<xs.length:=by omega
     rw [List.getElem?_eq_getElem hlt] at hi
     obtain ⟨g1,g2⟩:=ih he hi
     rw [<-List.take_append_getElem hlt,List.map_append,List.flatten_append,<-ihj (by omega)]
     simp only [List.map_cons,List.map_nil,List.flatten_cons,List.flatten_nil,List.append_nil]
     rw [<-g1,Nat.add_mul,Nat.one_mul,List.take_add]
   have:=key n (Nat.le_refl _)
   rw [List.take_of_length_le (by omega),List.take_of_length_le (by omega)] at this
   rw [this]
   show _=oQ.dcellsL (xs.map (·.1))
   rw [qM]
  ·rename_i fs hu
   simp only [Bool.and_eq_true] at hok
   obtain ⟨h1,h2⟩:=hok
   split at h1
   ·rename_i tot hcg
    obtain rfl:=Nat.eq_of_beq_eq_true h1
    obtain ⟨xs,n,hn,rfl,hlen,hxl,hf⟩:=DataW.trod_struct hu h
    obtain rfl:fuel=n:=by omega
    refine ⟨?_,hlen⟩
    have key:∀ (gs:List Field) (o i:Nat),(∀ j f,gs[j]?=some f->fs[i+j]?=some f/\f.type∈ts)->i+gs.length=xs.length->pU P gs o=some (P.cellsOf t)->cs.drop o=((xs.drop i).map λy=>oQ y.1).flatten:=by
     intro gs
     induction gs with
     | nil =>
      intro o i _ hlen2 hc
      simp only [pU,Option.some.injEq] at hc
      simp only [List.length_nil,Nat.add_zero] at hlen2
      rw [hc,<-hlen,List.drop_length,hlen2,List.drop_length]
      rfl
     | cons f gs ihg =>
      intro o i hall hlen2 hc
      simp only [pU] at hc
      split at hc
      ·rename_i ho
       have ho':=Nat.eq_of_beq_eq_true ho
       obtain ⟨hf0,hft⟩:=hall 0 f rfl
       have hi:=hf i f (by simpa using hf0)
       have hlt:i<xs.length:=by simp only [List.length_cons] at hlen2; omega
       rw [List.getElem?_eq_getElem hlt,ho'] at hi
       obtain ⟨g1,g2⟩:=ih hft hi
       have hr:=ihg (o+P.cellsOf f.type) (i+1) (λj f' hj=>by
        have:=hall (j+1) f' (by simpa using hj)
        rwa [show i+(j+1)=i+1+j by omega] at this) (by simp only [List.length_cons] at hlen2; omega) hc
       rw [List.drop_eq_getElem_cons hlt,List.map_cons,List.flatten_cons,<-g1,<-hr,<-List.drop_drop,List.take_append_drop]
      ·cases hc
    have:=key fs.toList 0 0 (λj f hj=>⟨by simpa using hj,by
     have:=List.all_eq_true.1 h2 f (List.mem_of_getElem? hj)
     simpa using this⟩) (by simp [hxl]) hcg
    simp only [List.drop_zero] at this
    rw [this]
    show _=oQ.dcellsL (xs.map (·.1))
    rw [qM]
   ·cases h1
  ·cases hok
theorem AV {f:α->List Value} (hs:∀ x,(f x).length=size):∀ {l:List α} {i j:Nat} {x:α} {u:Value},l[i]?=some x->(f x)[j]?=some u->((l.map f).flatten)[i*size+j]?=some u
 | [],i,j,x,u,h,_=>by simp at h
 | y::ys,0,j,x,u,h,hu=>by
  have:y=x:=by simpa using h
  subst this
  have hlt:j<(f y).length:=by
   rcases Nat.lt_or_ge j (f y).length with h | h
   ·exact h
   ·rw [List.getElem?_eq_none h] at hu; cases hu
  simp only [List.map_cons,List.flatten_cons,Nat.zero_mul,Nat.zero_add]
  rw [List.getElem?_append_left hlt]
  exact hu
 | y::ys,i+1,j,x,u,h,hu=>by
  have ih:=AV hs (l:=ys) (i:=i) (j:=j) (by simpa using h) hu
  simp only [List.map_cons,List.flatten_cons]
  rw [List.getElem?_append_right (by rw [hs,Nat.add_mul]; omega),hs]
  rw [show (i+1)*size+j-size=i*size+j by rw [Nat.add_mul]; omega]
  exact ih
theorem DZ {g:Nat} {f:α->List Value} {l:List α} {cs:Array Value} (hs:∀ x,(f x).length=size) (hc:cs.toList=(l.map f).flatten) (hv:∀ j,w.cell? ⟨g,j,none⟩=cs[j]?) (h0:Nat.ble 1 ((l.map f).flatten).length=true):Tab g size f l w:=
 have h1:0<cs.size:=by
  have h1:=Nat.le_of_ble_eq_true h0
  rw [<-hc,Array.length_toList] at h1
  omega
 ⟨World.block_lt_of_cell? w ⟨g,0,none⟩ ((hv 0).trans (Array.getElem?_eq_getElem h1)),λi x hx j v hj=>by
  rw [hv]
  have:=AV hs hx hj
  rw [<-hc] at this
  simpa using this⟩
theorem D0 {sp:Nat->Bool} {n1 n2:String} {gs:List (DataW H)} {ps:List MemPlace} (h:DataW.TrodVars en P w sp [n1,n2] gs ps):∃ g1 g2,gs=[g1,g2]:=by
 match gs,h with
 | [],h=>exact h.elim
 | [g1],h=>obtain ⟨_,_,_,_,_,_,_,_,_,_,h,_⟩:=h; exact h.elim
 | [g1,g2],_=>exact ⟨g1,g2,rfl⟩
 | g1::g2::g3::r,h=>obtain ⟨_,_,_,_,_,_,_,_,_,_,⟨_,_,_,_,_,_,_,_,_,_,h,_⟩,_⟩:=h; exact h.elim
theorem Cj {d:D}:∀ {xs:List D} {cs:List Value},D.rds w xs T cs->d∈xs->∃ c1,D.rd w d T c1
 | [],_,_,h=>by cases h
 | x::xs,cs,⟨c1,c2,_,_,h1,h2⟩,h=>by
  rcases List.mem_cons.1 h with h | h
  ·subst h; exact ⟨c1,h1⟩
  ·exact Cj h2 h
theorem xA {ts:List TypeId} (hts:ts.all (okF P ts)=true) {n:String} {d:DataW Unit} {r:List (String×DataW Unit)} {ps:List MemPlace} {g t:Nat} (hg:P.globalNamed n=some g) (ht:(P.globals[g]?).map (·.type)=some t) (hm:t∈ts)
  (h:DataW.LaidVars P w ((n,d)::r) ps):∃ cs:Array Value,cs.toList=oQ d/\(∀ j,w.cell? ⟨g,j,none⟩=cs[j]?)/\∃ qs,DataW.LaidVars P w r qs:=by
 obtain ⟨g',t',cs,fuel,p,q,h1,h2,h3,h4,h5,_⟩:=h
 obtain rfl:=o9 (hg.symm.trans h1)
 obtain rfl:=o9 (ht.symm.trans h2)
 exact ⟨cs,(BE hts hm h4).1,λj=>World.var?_cell hg h3 j,q,h5⟩
end
end Go.Proofs.YtfpngipcclmliaaGreatDoor.X
namespace Go.Proofs.YtfpngipcclmliaaGreatDoor.N
open Go.Proofs.YtfpngipcclmliaaGreatDoor.X
noncomputable section
variable {w:World} {T:Nat->Prop}
mutual
theorem E2:∀ {e:ay} {cs:List Value},D.rd w (iK e) T cs->ay.ok e
 | ⟨o,n,a⟩,cs,h=>by
  simp only [iK] at h
  obtain ⟨_,_,_,_,_,_,_,_,_,_,_,_,_,_,h,_⟩:=h
  obtain ⟨_,_,_,_,_,h3,_,_,h6⟩:=h
  exact ⟨by rw [qx,List.length_map] at h3; exact h3,D3 h6⟩
theorem D3:∀ {l:List ay} {cs:List Value},D.rds w (tC l) T cs->ay.oks l
 | [],_,_=>trivial
 | x::r,_,⟨_,_,_,_,h1,h2⟩=>⟨E2 h1,D3 h2⟩
end
mutual
theorem Fz:∀ {e:au} {cs:List Value},D.rd w (cQ e) T cs->au.ok e
 | ⟨k,v,b,e,s,t⟩,cs,h=>by
  simp only [cQ] at h
  obtain ⟨_,_,_,_,_,_,_,_,_,_,_,_,_,_,_,_,_,_,_,he,_,_,_,_,hs,_,_,_,_,ht,_⟩:=h
  obtain ⟨_,_,_,_,_,h3,_,_,h6⟩:=hs
  obtain ⟨_,_,_,_,_,k3,_,_,k6⟩:=ht
  rw [pc,List.length_map] at h3 k3
  exact ⟨E2 he,⟨h3,wD h6⟩,k3,wD k6⟩
theorem wD:∀ {l:List au} {cs:List Value},D.rds w (rv l) T cs->au.oks l
 | [],_,_=>trivial
 | x::r,_,⟨_,_,_,_,h1,h2⟩=>⟨Fz h1,wD h2⟩
end
theorem D4 {v:Value} {e size e2 s2:Nat} {q:List (List au)} (h:RV w T v e size (λ(l:List au)=>D.row e2 s2 (l.map cQ)) q):q.length<=maxLen/\∀ x∈q,x.length<=maxLen/\au.oks x:=by
 refine ⟨h.le,λx hx=>?_⟩
 obtain ⟨A',cap,cs,e1,e2,e3,e4,e5,e6⟩:=h
 obtain ⟨c1,A1,cap1,cs1,_,_,h3,_,_,h6⟩:=Cj e6 (List.mem_map_of_mem hx)
 exact ⟨by simpa using h3,wD (by rw [pc]; exact h6)⟩
theorem EL {v u:Value} {e size e1 s1 e2 s2:Nat} {p:aR} (hr:RV w T v e1 s1 (D.int .i64) p.Rooms) (h:RV w T u e size (λ(l:List au)=>D.row e2 s2 (l.map cQ)) p.Tasks):p.ok:=⟨hr.le,D4 h⟩
theorem D5 {α:Type} {sz:α->Nat} {m:Nat}:∀ {l:List α},(∀ x∈l,sz x<=m)->szs sz l<=l.length*m
 | [],_=>by simp [szs]
 | x::r,h=>by
  have h1:=h x (by simp)
  have h2:=D5 (l:=r) λy hy=>h y (by simp [hy])
  simp only [szs,List.length_cons,Nat.add_mul]; omega
end
noncomputable section
theorem wE {n:Nat} (h:n<=32):cX (n:Int)=some ((2^n:Nat):Int):=by
 refine Tot.eq ?_
 unfold cX
 refine .bind (P:=λr=>r=((2^n:Nat):Int)) (.iter (λs=>0<=s.2/\s.2<=(n:Int)/\s.1=((2^s.2.toNat:Nat):Int)) (λs=>((n:Int)-s.2).toNat) ⟨by simp,by simp,rfl⟩ λs hs=>?_) λr hr=>.pure hr
 obtain ⟨c,i⟩:=s
 obtain ⟨g0,g1,g2⟩:=hs
 simp only at g0 g1 g2
 unfold nP
 refine .sel (λh=>.inl ?_) λh=>.inr (show c=_ from ?_)
 ·simp only [decide_eq_true_eq] at h
  have hp:2^i.toNat<=2^32:=Nat.pow_le_pow_right (by omega) (by omega)
  have h32:(2:Nat)^32=4294967296:=by decide
  have e:2^(i+1).toNat=2^i.toNat*2:=by rw [show (i+1).toNat=i.toNat+1 by omega,Nat.pow_succ]
  dsimp only
  rw [ax g0 (by omega),aM (by omega) (by omega)]
  exact ⟨⟨by omega,by omega,by rw [e,g2]; omega⟩,by omega⟩
 ·simp only [decide_eq_false_iff_not] at h
  rw [g2,show i=(n:Int) by omega]; rfl
theorem AW {u:Int} (h0:0<=u) (h1:u<=4294967295) {lo n:Nat} (hn:1<=n) (h:lo+n<=32):ml u lo n=some (u/((2^lo:Nat):Int)%((2^n:Nat):Int)):=by
 unfold ml
 have e1:(decide ((0:Int)<=(lo:Int))&&decide ((lo:Int)<=31))=true:=by simp; omega
 have e2:(decide ((0:Int)<=u)&&decide (u<=4294967295))=true:=by simp; omega
 rw [n6,e2,ob9,Bool.not_true,aj rfl,n6,e1]
 simp only [ob9,Bool.not_true]
 rw [aj rfl,aM (by omega) (by omega),n6]
 have e3:(decide ((1:Int)<=(n:Int))&&decide ((n:Int)<=32-(lo:Int)))=true:=by simp; omega
 rw [e3]
 simp only [ob9,Bool.not_true]
 rw [aj rfl,wE (by omega),ob9]
 have p1:0<2^lo:=Nat.two_pow_pos lo
 have p2:0<2^n:=Nat.two_pow_pos n
 obtain ⟨k,rfl⟩:=Int.eq_ofNat_of_zero_le h0
 have hk:k/2^lo<=k:=Nat.div_le_self _ _
 have hq:uy .i64 (k:Int) ((2^lo:Nat):Int)=some ((k/2^lo:Nat):Int):=by
  unfold uy
  rw [if_neg (by omega)]
  congr 1
  have hx:∀ x:Nat,x<=k->w64 (x:Int)=x:=λx hx=>aM (by omega) (by omega)
  exact hx _ hk
 rw [hq,ob9,wE (by omega),ob9]
 unfold sI
 rw [if_neg (by omega)]
 simp only [ob9]
 rfl
theorem AX {u:Int} (h0:0<=u) (h1:u<=4294967295) {lo n:Nat} (hn:1<=n) (h:lo+n<=32):mh u lo n=some (u/((2^lo:Nat):Int)%((2^n:Nat):Int)):=by
 unfold mh lP
 rw [ob9,aM (by omega) (by omega),aj (by simp; omega)]
 obtain ⟨k,rfl⟩:=Int.eq_ofNat_of_zero_le h0
 have p1:(2:Nat)^n<=2^32:=Nat.pow_le_pow_right (by omega) (by omega)
 have h32:(2:Nat)^32=4294967296:=by decide
 have p2:0<2^n:=Nat.two_pow_pos n
 have hk:k/2^lo<=k:=Nat.div_le_self _ _
 rw [Em (by omega),ob9]
 have hs:=El (x:=1) (k:=n) (by omega) (by omega)
 rw [Nat.one_mul] at hs
 rw [show ((1:Nat):Int)=1 from rfl] at hs
 rw [hs,ob9,aM (by omega) (by omega),Dw (by omega) (by omega)]
 rfl
theorem qN {n:Int} (h:Wd n):jm n=some (n%4294967296)/\jj n=some (n%4294967296):=by
 unfold jm jj
 rw [za,Av,decide_eq_true h]
 simp only [ob9,Bool.not_true]
 rw [aj rfl,aj rfl]
 have hu:nY .u32 n=n%4294967296:=by
  rw [mo]
  simp [IntKind.wrap,IntKind.signed,IntKind.bits]
 unfold Wd at h
 rw [hu,aM (i:=n%4294967296) (by omega) (by omega)]
 refine ⟨?_,rfl⟩
 refine Tot.eq (.sel (λh'=>.pure ?_) λh'=>.pure ?_)
 ·simp only [decide_eq_true_eq] at h'
  rw [aM (by omega) (by omega)]; omega
 ·simp only [decide_eq_false_iff_not] at h'
  omega
theorem CY {n:Int}:eX n=some (if 2147483648<=n%4294967296 then n%4294967296-4294967296 else n%4294967296):=by
 unfold eX
 have:nY .i32 n=if 2147483648<=n%4294967296 then n%4294967296-4294967296 else n%4294967296:=by
  rw [mo]
  simp [IntKind.wrap,IntKind.signed,IntKind.bits]
 rw [this]
 congr 1
 split <;> exact aM (by omega) (by omega)
theorem CZ {n:Int}:dn n=some (if 2147483648<=n%4294967296 then n%4294967296-4294967296 else n%4294967296):=by
 refine Tot.eq ?_
 unfold dn
 have hm:n.tmod 4294967296=if 0<=n\/n%4294967296=0 then n%4294967296 else n%4294967296-4294967296:=by
  rw [Int.tmod_eq_emod]
  simp only [Int.dvd_iff_emod_eq_zero]
  split <;> simp
 rw [hm]
 refine .sel (λh=>.pure ?_) λh=>.sel (λh'=>.pure ?_) λh'=>.pure ?_
 all_goals simp only [decide_eq_true_eq,decide_eq_false_iff_not] at *
 ·rw [aM (by split <;> omega) (by split <;> omega)]; split <;> split <;> split at h <;> omega
 ·rw [aM (by split <;> omega) (by split <;> omega)]; split <;> split <;> split at h' <;> omega
 ·split <;> split <;> omega
theorem Cl {x:Int} (h0:0<=x) (h1:x<4096):i9 x 12=some (if 2048<=x then x-4096 else x)/\i7 x 12=some (if 2048<=x then x-4096 else x):=by
 have e12:cX 12=some 4096:=wE (n:=12) (by omega)
 have e11:cX 11=some 2048:=wE (n:=11) (by omega)
 have s12:shO .shl .i64 1 12=some 4096:=by decide
 have s11:shO .shl .i64 1 11=some 2048:=by decide
 have w12:w64 (12-1)=11:=by decide
 have w13:w64 (4096-1)=4095:=by decide
 constructor
 ·unfold i9
  simp only [n6,e12,w12,e11,ob9,w13]
  rw [aj (b:=!_) (by decide)]
  simp only [ob9]
  rw [aj (by simp; omega)]
  refine Tot.eq (.sel (λh=>.pure ?_) λh=>.pure ?_)
  ·simp at h; rw [if_pos h,aM (by omega) (by omega)]
  ·simp at h; rw [if_neg (by omega)]
 ·unfold i7
  simp only [s12,w12,s11,ob9]
  rw [aj (b:=_||_) (by simp; omega)]
  simp only [ob9]
  rw [aj (by simp; omega)]
  refine Tot.eq (.sel (λh=>.pure ?_) λh=>.pure ?_)
  ·simp at h; rw [if_pos h,aM (by omega) (by omega)]
  ·simp at h; rw [if_neg (by omega)]
def AY (n:Int):Int:=if 2048<=n%4096 then n%4096-4096 else n%4096
def FA (n:Int):Int:=(n-AY n)%4294967296/4096
def pV (rd n:Int):List Instr:=if -2048<=n/\n<=2047 then [⟨12,rd,0,0,n⟩] else [⟨19,rd,0,0,FA n⟩,⟨12,rd,rd,0,AY n⟩]
theorem AZ {rd n:Int} (h:Wd n):ly rd n=some (pV rd n)/\ic rd n=some (pV rd n):=by
 have hu:=qN h
 have hb1:∀ {u:Int},0<=u->u<=4294967295->ml u 0 12=some (u%4096)/\mh u 0 12=some (u%4096):=λh0 h1=>by
  have a:=AW h0 h1 (lo:=0) (n:=12) (by omega) (by omega)
  have b:=AX h0 h1 (lo:=0) (n:=12) (by omega) (by omega)
  simp at a b
  exact ⟨a,b⟩
 have hb2:∀ {u:Int},0<=u->u<=4294967295->ml u 12 20=some (u/4096%1048576)/\mh u 12 20=some (u/4096%1048576):=λh0 h1=>by
  have a:=AW h0 h1 (lo:=12) (n:=20) (by omega) (by omega)
  have b:=AX h0 h1 (lo:=12) (n:=20) (by omega) (by omega)
  simp at a b
  exact ⟨a,b⟩
 have hw:=h
 unfold Wd at hw
 have e0:n%4294967296%4096=n%4096:=by omega
 have hl : -2048<=AY n/\AY n<=2047:=by unfold AY; split <;> omega
 have hwd:∀ m:Int,Wd (if 2147483648<=m%4294967296 then m%4294967296-4294967296 else m%4294967296):=λm=>by unfold Wd; split <;> omega
 have e1:∀ m:Int,(if 2147483648<=m%4294967296 then m%4294967296-4294967296 else m%4294967296)%4294967296=m%4294967296:=λm=>by split <;> omega
 have e2:(n-AY n)%4294967296/4096%1048576=FA n:=by unfold FA; omega
 constructor
 ·unfold ly pV
  rw [n6,ob9]
  refine Tot.eq (.sel (λh=>.pure ?_) λh=>?_)
  ·simp at h; rw [if_pos h]
  ·rw [if_neg (by simp at h; omega),hu.1,ob9,(hb1 (by omega) (by omega)).1,ob9,(Cl (by omega) (by omega)).1,ob9,e0]
   rw [show (if 2048<=n%4096 then n%4096-4096 else n%4096)=AY n from rfl,aM (by omega) (by omega),CZ,ob9,(qN (hwd _)).1,ob9,e1,(hb2 (by omega) (by omega)).1,ob9,e2]
   refine .bind (.app (by simp)) λr hr=>.pure ?_
   subst hr; rfl
 ·unfold ic pV
  refine Tot.eq (.sel (λh=>.pure ?_) λh=>?_)
  ·simp at h; rw [if_pos h]
  ·rw [if_neg (by simp at h; omega),hu.2,ob9,(hb1 (by omega) (by omega)).2,ob9,(Cl (by omega) (by omega)).2,ob9,e0]
   rw [show (if 2048<=n%4096 then n%4096-4096 else n%4096)=AY n from rfl,aM (by omega) (by omega),CY,ob9,(qN (hwd _)).2,ob9,e1,(hb2 (by omega) (by omega)).2,ob9,e2]
   exact .pure rfl
end
noncomputable section
def lK (c p s:Int):Int:=if p<c then (kr[p.toNat]?).getD 0 else s
def rdL (c p s:Int):List Instr:=if p<c then [] else [⟨14,s,2,0,4*(p-c)⟩]
def wrL (c p:Int):List Instr:=if p<c then [] else [⟨16,0,2,7,4*(p-c)⟩]
def qb (n:Int):List Instr:=[⟨12,17,0,0,n⟩,⟨15,1,0,0,0⟩]
def C0 (n:Int):Int:=(mZ[(n-1).toNat]?).getD 0
def qO (q:ab) (c off:Int):List Instr:=
 if q.Op=1 then pV (lK c q.Dst 7) q.N++wrL c q.Dst
 else if q.Op=2 then rdL c q.A 5++[⟨12,lK c q.Dst 7,lK c q.A 5,0,0⟩]++wrL c q.Dst
 else if q.Op=3 then rdL c q.A 5++rdL c q.B 6++[⟨C0 q.N,lK c q.Dst 7,lK c q.A 5,lK c q.B 6,0⟩]++(if q.N=4 then [⟨13,lK c q.Dst 7,lK c q.Dst 7,0,1⟩] else [])++wrL c q.Dst
 else if q.Op=4 then [⟨20,0,0,0,off⟩]
 else if q.Op=5 then rdL c q.A 5++[⟨18,0,lK c q.A 5,0,8⟩]++[⟨20,0,0,0,off-4*((rdL c q.A 5).length+1)⟩]
 else if q.Op=6 then rdL c q.A 5++[⟨12,10,lK c q.A 5,0,0⟩,⟨12,11,0,0,q.N⟩]++qb 1
 else if q.Op=7 then [⟨12,11,0,0,q.N⟩]++qb 2++[⟨12,lK c q.Dst 7,10,0,0⟩]++wrL c q.Dst
 else if q.Op=8 then qb 3
 else if q.Op=9 then rdL c q.A 5++[⟨12,10,lK c q.A 5,0,0⟩]++qb 4
 else qb 5
theorem sY (c p s:Int):(rdL c p s).length<=1:=by unfold rdL; split <;> simp
theorem FB (c p:Int):(wrL c p).length<=1:=by unfold wrL; split <;> simp
theorem uI (r n:Int):1<=(pV r n).length/\(pV r n).length<=2:=by unfold pV; split <;> simp
theorem pW {c p s:Int} (hc:1<=c/\c<=8) (hp:Rg p):dH p c s=some (lK c p s):=by
 refine Tot.eq ?_
 unfold dH lK Rg at *
 refine .sel (λh=>.pure (by simp at h; rw [if_neg (by omega)])) λh=>?_
 simp at h
 refine .bind (.nth (by omega) (by simp; omega)) λx ⟨hx,_⟩=>.pure ?_
 rw [if_pos h]
 show x=((kr[p.toNat]?).getD 0)
 unfold kr
 rw [hx]; rfl
theorem A3 {c p:Int} (hc:1<=c/\c<=8) (hp:Rg p) (h:p<c) (s:Int):nth kr p=some (lK c p s):=by
 unfold Rg at hp
 refine (Tot.nth (l:=kr) hp.1 (by simp [kr]; omega)).mono (Q:=λx=>x=lK c p s) (λx ⟨hx,_⟩=>?_) |>.eq
 unfold lK
 rw [if_pos h,hx]; rfl
theorem qP {c p s:Int} (hc:1<=c/\c<=8) (hp:Rg p):eH p c s=some (rdL c p s):=by
 refine Tot.eq ?_
 unfold eH rdL Rg at *
 refine .sel (λh=>.pure (by simp at h; rw [if_pos h])) λh=>.pure ?_
 simp at h
 rw [if_neg (by omega),aM (i:=p-c) (by omega) (by omega),aM (by omega) (by omega)]
theorem rG {c p:Int} (hc:1<=c/\c<=8) (hp:Rg p) {l:List Instr} (hl:l.length<=1000):eT l p c=some (l++wrL c p):=by
 refine Tot.eq ?_
 unfold eT wrL Rg at *
 refine .sel (λh=>.pure (by simp at h; rw [if_pos h,List.append_nil])) λh=>?_
 simp at h
 rw [if_neg (by omega),aM (i:=p-c) (by omega) (by omega),aM (by omega) (by omega)]
 exact .bind (.app (by simp; omega)) λr hr=>.pure hr
theorem qQ {n:Int} {l:List Instr} (hl:l.length<=1000):eI l n=some (l++qb n):=by
 refine Tot.eq ?_
 unfold eI
 refine .bind (.app (by simp; omega)) λr hr=>.bind (.app (by subst hr; simp; omega)) λr2 hr2=>.pure ?_
 subst hr hr2; simp [qb]
theorem E3 {n:Int} (h:1<=n/\n<=12):nth mZ (w64 (n-1))=some (C0 n):=by
 rw [aM (by omega) (by omega)]
 refine (Tot.nth (l:=mZ) (i:=n-1) (by omega) (by simp [mZ]; omega)).mono (Q:=λx=>x=C0 n) (λx ⟨hx,_⟩=>?_) |>.eq
 unfold C0; rw [hx]; rfl
theorem FC {n:Int} (h:1<=n/\n<=12):oK n=some (C0 n):=by
 unfold oK
 have:=E3 h
 unfold mZ at this
 rw [this]; rfl
theorem A4 {c p:Int} (hc:1<=c/\c<=8) (hp:Rg p):kJ p c=some (rdL c p 5++[⟨12,10,lK c p 5,0,0⟩]):=by
 refine Tot.eq ?_
 unfold kJ gq
 rw [qP hc hp,pW hc hp]
 simp only [ob9]
 have:=sY c p 5
 exact .bind (.app (by simp; omega)) λr hr=>.pure hr
theorem A5 {q:ab} {m c off:Int} (hq:QOk m q) (hc:1<=c/\c<=8) (ho : -1000000<=off/\off<=1000000):kK q c off=some (qO q c off):=by
 have hd:Rg q.Dst:=by unfold QOk at hq; unfold Rg at *; omega
 have l1:=sY c q.A 5
 have l2:=sY c q.B 6
 refine Tot.eq ?_
 unfold kK qO
 rw [pW hc hd,ob9]
 refine .sel (λh=>?_) λh1=>.sel (λh=>?_) λh2=>.sel (λh=>?_) λh3=>.sel (λh=>?_) λh4=>.sel (λh=>?_) λh5=>.sel (λh=>?_) λh6=>.sel (λh=>?_) λh7=>.sel (λh=>?_) λh8=>.sel (λh=>?_) λh9=>?_
 all_goals
  simp only [beq_iff_eq,beq_eq_false_iff_ne,ne_eq] at *
  unfold QOk at hq
 ·simp [h] at hq
  have:=uI (lK c q.Dst 7) q.N
  rw [if_pos h,(AZ hq.2.2.2).1,ob9,rG hc hd (by omega)]; exact .pure rfl
 ·simp [h] at hq
  rw [if_neg h1,if_pos h,qP hc hq.2.1,pW hc hq.2.1]
  simp only [ob9,gq]
  refine .bind (.app (by simp; omega)) λr hr=>?_
  rw [rG hc hd (by subst hr; simp; omega),hr]; exact .pure rfl
 ·simp [h] at hq
  rw [if_neg h1,if_neg h2,if_pos h]
  refine .bind (P:=λr=>r=_) ?_ λr hr=>.pure hr
  unfold pf
  rw [qP hc hq.2.1,qP hc hq.2.2.1,pW hc hq.2.1,pW hc hq.2.2.1,pW hc hd,FC hq.2.2.2]
  simp only [ob9]
  refine .bind (.app (by omega)) λr hr=>.bind (.app (by subst hr; simp; omega)) λr2 hr2=>?_
  have e2:r2.length<=3:=by subst hr hr2; simp; omega
  refine .bind (P:=λy=>y=r2++(if q.N=4 then [⟨13,lK c q.Dst 7,lK c q.Dst 7,0,1⟩] else [])/\y.length<=4) (.sel (λh=>.bind (.app (by simp; omega)) λr3 hr3=>.pure ?_) λh=>.pure ?_) λy ⟨hy,hyl⟩=>?_
  ·simp at h; rw [if_pos h,hr3]; exact ⟨rfl,by simp; omega⟩
  ·simp at h; rw [if_neg h,List.append_nil]; exact ⟨rfl,by omega⟩
  ·rw [rG hc hd (by omega),hy,hr2,hr]
   exact .pure (by simp)
 ·rw [if_neg h1,if_neg h2,if_neg h3,if_pos h]; exact .pure rfl
 ·simp [h] at hq
  rw [if_neg h1,if_neg h2,if_neg h3,if_neg h4,if_pos h]
  refine .bind (P:=λr=>r=_) ?_ λr hr=>.pure hr
  unfold ol
  rw [qP hc hq.2.1,pW hc hq.2.1]
  simp only [ob9]
  refine .bind (.app (by simp; omega)) λr hr=>?_
  have e1:r.length=(rdL c q.A 5).length+1:=by subst hr; simp
  rw [aM (i:=4*(r.length:Int)) (by omega) (by omega),aM (by omega) (by omega)]
  refine .bind (.app (by simp; omega)) λr2 hr2=>.pure ?_
  rw [hr2,e1,hr]; simp
 ·simp [h] at hq
  rw [if_neg h1,if_neg h2,if_neg h3,if_neg h4,if_neg h5,if_pos h,A4 hc hq.2.1]
  simp only [ob9,mm]
  refine .bind (.app (by simp; omega)) λr hr=>?_
  rw [qQ (by subst hr; simp; omega),hr]; exact .pure (by simp)
 ·simp [h] at hq
  rw [if_neg h1,if_neg h2,if_neg h3,if_neg h4,if_neg h5,if_neg h6,if_pos h]
  simp only [ob9,mm,gq]
  rw [qQ (by simp),ob9]
  refine .bind (.app (by simp [qb])) λr hr=>?_
  rw [rG hc hd (by subst hr; simp [qb]),hr]; exact .pure (by simp)
 ·rw [if_neg h1,if_neg h2,if_neg h3,if_neg h4,if_neg h5,if_neg h6,if_neg h7,if_pos h,qQ (by simp)]; exact .pure (by simp)
 ·simp [h] at hq
  rw [if_neg h1,if_neg h2,if_neg h3,if_neg h4,if_neg h5,if_neg h6,if_neg h7,if_neg h8,if_pos h,A4 hc hq.2.1,ob9,qQ (by simp; omega)]; exact .pure (by simp)
 ·rw [if_neg h1,if_neg h2,if_neg h3,if_neg h4,if_neg h5,if_neg h6,if_neg h7,if_neg h8,if_neg h9,qQ (by simp)]; exact .pure (by simp)
theorem nm {c:Int} {l l2:List Instr} (h:l.length+l2.length<=1000):ba ⟨c,l⟩ l2=some (l++l2):=by
 unfold ba
 rw [Di (by simp only; omega)]; rfl
theorem rH {c p s:Int} (hc:1<=c/\c<=8) (hp:Rg p) {l:List Instr} (hl:l.length<=900):bG ⟨c,l⟩ p s=some (lK c p s,l++rdL c p s):=by
 refine Tot.eq ?_
 unfold bG rdL
 refine .sel (λh=>?_) λh=>?_
 ·simp at h
  rw [A3 hc hp h s,if_pos h,List.append_nil]; exact .pure rfl
 ·simp at h
  unfold Rg at hp
  rw [if_neg (by omega),aM (i:=p-c) (by omega) (by omega),aM (by omega) (by omega),nm (by simp; omega)]
  unfold lK
  rw [if_neg (by omega)]; exact .pure rfl
theorem tM {c p:Int} (hc:1<=c/\c<=8) (hp:Rg p) {l:List Instr} (hl:l.length<=900) {f:Int->Option (List Instr)} {g:Int->List Instr} (hf:∀ r,f r=some (g r)) (hg:∀ r,(g r).length<=2):bU ⟨c,l⟩ p f=some (l++g (lK c p 7)++wrL c p):=by
 refine Tot.eq ?_
 unfold bU wrL
 simp only [hf,ob9]
 have h1:=hg (lK c p 7)
 refine .sel (λh=>?_) λh=>?_
 ·simp at h
  rw [A3 hc hp h 7,ob9,nm (by omega),if_pos h,List.append_nil]; exact .pure rfl
 ·simp at h
  have e:lK c p 7=7:=by unfold lK; rw [if_neg (by omega)]
  rw [e] at h1 ⊢
  unfold Rg at hp
  rw [if_neg (by omega),aM (i:=p-c) (by omega) (by omega),aM (by omega) (by omega),nm (by omega),ob9,nm (by simp; omega)]; exact .pure rfl
theorem tN {c n:Int} {l:List Instr} (hl:l.length<=900):bS ⟨c,l⟩ n=some (l++qb n):=by
 unfold bS dj
 rw [ob9,nm (by simp; omega)]; rfl
theorem A6 {c off:Int} {l:List Instr} (hl:l.length<=900) (ho : -1000000<=off/\off<=1000000):dR ⟨c,l⟩ off=some (l++[⟨20,0,0,0,off-4*l.length⟩]):=by
 unfold dR
 simp only
 rw [aM (i:=4*(l.length:Int)) (by omega) (by omega),aM (by omega) (by omega),nm (by simp; omega)]; rfl
theorem yN {q:ab} {m c off:Int} (hq:QOk m q) (hc:1<=c/\c<=8) (ho : -1000000<=off/\off<=1000000):fQ q c off=some (qO q c off):=by
 have hd:Rg q.Dst:=by unfold QOk at hq; unfold Rg at *; omega
 have l1:=sY c q.A 5
 have l2:=sY c q.B 6
 refine Tot.eq ?_
 unfold fQ qO
 refine .bind (P:=λr=>r=_) ?_ λr hr=>.pure hr
 refine .sel (λh=>?_) λh1=>.sel (λh=>?_) λh2=>.sel (λh=>?_) λh3=>.sel (λh=>?_) λh4=>.sel (λh=>?_) λh5=>.sel (λh=>?_) λh6=>.sel (λh=>?_) λh7=>.sel (λh=>?_) λh8=>.sel (λh=>?_) λh9=>.sel (λh=>?_) λh10=>?_
 all_goals
  simp only [beq_iff_eq,beq_eq_false_iff_ne,ne_eq] at *
  unfold QOk at hq
 ·simp [h] at hq
  rw [if_pos h,tM hc hd (by simp) (g:=λr=>pV r q.N) (λr=>by unfold js; rw [(AZ hq.2.2.2).2]; rfl) λr=>(uI r q.N).2]; exact .pure (by simp)
 ·simp [h] at hq
  rw [if_neg h1,if_pos h,rH hc hq.2.1 (by simp)]
  simp only [ob9,List.nil_append]
  rw [tM hc hd (l:=rdL c q.A 5) (by omega) (f:=λb0=>jt b0 (lK c q.A 5)) (g:=λr=>[⟨12,r,lK c q.A 5,0,0⟩]) (λr=>rfl) λr=>by simp]; exact .pure (by simp)
 ·simp [h] at hq
  rw [if_neg h1,if_neg h2,if_pos h,rH hc hq.2.1 (by simp)]
  simp only [ob9,List.nil_append]
  rw [rH hc hq.2.2.1 (by omega)]
  simp only [ob9]
  rw [tM hc hd (by simp; omega) (g:=λr=>[⟨C0 q.N,r,lK c q.A 5,lK c q.B 6,0⟩]++(if q.N=4 then [⟨13,r,r,0,1⟩] else [])) (λr=>?_) λr=>by split <;> simp]
  ·exact .pure (by simp)
  ·unfold ju
   rw [E3 hq.2.2.2,ob9]
   refine Tot.eq (.sel (λh=>.bind (.app (by simp)) λr hr=>.pure ?_) λh=>.pure ?_)
   ·simp at h; rw [if_pos h,hr]
   ·simp at h; rw [if_neg h]; rfl
 ·rw [if_neg h1,if_neg h2,if_neg h3,if_pos h,A6 (by simp) ho]; exact .pure (by simp)
 ·simp [h] at hq
  rw [if_neg h1,if_neg h2,if_neg h3,if_neg h4,if_pos h,rH hc hq.2.1 (by simp)]
  simp only [ob9,List.nil_append]
  rw [nm (by simp; omega),ob9,A6 (by simp; omega) ho]
  exact .pure (by simp)
 ·simp [h] at hq
  rw [if_neg h1,if_neg h2,if_neg h3,if_neg h4,if_neg h5,if_pos h,rH hc hq.2.1 (by simp)]
  simp only [ob9,List.nil_append,dj]
  rw [nm (by simp; omega),ob9,tN (by simp; omega)]; exact .pure (by simp)
 ·simp [h] at hq
  rw [if_neg h1,if_neg h2,if_neg h3,if_neg h4,if_neg h5,if_neg h6,if_pos h]
  simp only [ob9,dj]
  rw [nm (by simp),ob9,tN (by simp),ob9,tM hc hd (by simp [qb]) (f:=jv) (g:=λr=>[⟨12,r,10,0,0⟩]) (λr=>rfl) λr=>by simp]; exact .pure (by simp)
 ·rw [if_neg h1,if_neg h2,if_neg h3,if_neg h4,if_neg h5,if_neg h6,if_neg h7,if_pos h,tN (by simp)]; exact .pure (by simp)
 ·simp [h] at hq
  rw [if_neg h1,if_neg h2,if_neg h3,if_neg h4,if_neg h5,if_neg h6,if_neg h7,if_neg h8,if_pos h,rH hc hq.2.1 (by simp)]
  simp only [ob9,List.nil_append,dj]
  rw [nm (by simp; omega),ob9,tN (by simp; omega)]; exact .pure (by simp)
 ·rw [if_neg h1,if_neg h2,if_neg h3,if_neg h4,if_neg h5,if_neg h6,if_neg h7,if_neg h8,if_neg h9,tN (by simp)]; exact .pure (by simp)
 ·simp [h1,h2,h3,h4,h5,h6,h7,h8,h9,h10] at hq
theorem oy (q:ab) (c off:Int):1<=(qO q c off).length/\(qO q c off).length<=6/\(qO q c off).length=(qO q c 0).length:=by
 have l1:=sY c q.A 5
 have l2:=sY c q.B 6
 have l3:=FB c q.Dst
 have l4:=uI (lK c q.Dst 7) q.N
 unfold qO qb
 split
 ·simp; omega
 split
 ·simp; omega
 split
 ·split <;> simp <;> omega
 split
 ·simp
 split
 ·simp; omega
 split
 ·simp; omega
 split
 ·simp; omega
 split
 ·simp
 split
 ·simp; omega
 ·simp
end
noncomputable section
def qAt (eQ:List ab) (i:Nat):ab:=(eQ[i]?).getD ⟨0,0,0,0,0⟩
theorem D6 {eQ:List ab} {i:Nat} {q:ab} (h:eQ[i]?=some q):qAt eQ i=q:=by unfold qAt; rw [h]; rfl
def pl (eQ:List ab) (c:Int):Nat->Nat
 | 0=>0
 | i+1=>pl eQ c i+(qO (qAt eQ i) c 0).length
def uJ (eQ:List ab) (c:Int) (i:Nat):Int:=if (qAt eQ i).Op=4\/(qAt eQ i).Op=5 then 4*((pl eQ c (qAt eQ i).N.toNat:Int)-pl eQ c i) else 0
def blk (eQ:List ab) (c:Int) (i:Nat):List Instr:=qO (qAt eQ i) c (uJ eQ c i)
def tk (eQ:List ab) (c:Int):Nat->List Instr
 | 0=>[]
 | i+1=>tk eQ c i++blk eQ c i
def plL (eQ:List ab) (c:Int) (n:Nat):List Int:=(List.range n).map λi=>(pl eQ c i:Int)
theorem sw (eQ:List ab) (c:Int):∀ i,pl eQ c i<=6*i
 | 0=>Nat.le_refl _
 | i+1=>by have:=sw eQ c i; have:=(oy (qAt eQ i) c 0).2.1; simp only [pl]; omega
theorem zP (eQ:List ab) (c:Int):∀ i,(tk eQ c i).length=pl eQ c i
 | 0=>rfl
 | i+1=>by simp only [tk,pl,List.length_append,zP eQ c i,blk,(oy (qAt eQ i) c (uJ eQ c i)).2.2]
theorem EM {eQ:List ab} {c:Int} {n i:Nat} (h:i<n):(plL eQ c n)[i]?=some (pl eQ c i:Int):=by simp [plL,h]
theorem wF (eQ:List ab) (c:Int) (n:Nat):(plL eQ c n).length=n:=by simp [plL]
theorem wG {eQ:List ab} {c:Int} {n:Nat} {i:Int} (h0:0<=i) (h:i<n):nth (plL eQ c n) i=some (pl eQ c i.toNat:Int):=by
 refine (Tot.nth (l:=plL eQ c n) h0 (by rw [wF]; exact h)).mono (Q:=λx=>x=(pl eQ c i.toNat:Int)) (λx ⟨hx,_⟩=>?_) |>.eq
 rw [EM (by omega)] at hx
 injection hx with hx
 exact hx.symm
theorem A7 (eQ:List ab) (c:Int) (n:Nat):plL eQ c (n+1)=plL eQ c n++[(pl eQ c n:Int)]:=by simp [plL,List.range_succ]
theorem COk.at {eQ:List ab} (hc:COk eQ) {i:Int} (h0:0<=i) (h1:i<eQ.length):∃ q,nth eQ i=some q/\qAt eQ i.toNat=q/\QOk eQ.length q:=by
 obtain ⟨q,e,h2,h3⟩:=Tot.nth (l:=eQ) h0 h1
 exact ⟨q,e,D6 h2,hc.q q h3⟩
theorem BF {eQ:List ab} (hc:COk eQ) {c:Int} (h:1<=c/\c<=8):jY eQ c=some (plL eQ c eQ.length):=by
 have hmx:=hc.max
 refine Tot.eq ?_
 unfold jY
 refine .bind (P:=λr=>r=plL eQ c eQ.length) (.iter (λs=>0<=s.2.2/\s.2.2<=(eQ.length:Int)/\s.1=plL eQ c s.2.2.toNat/\s.2.1=(pl eQ c s.2.2.toNat:Int)) (λs=>((eQ.length:Int)-s.2.2).toNat) ⟨by simp,by simp,rfl,rfl⟩ λs hs=>?_) λr hr=>.pure hr
 obtain ⟨out,a,i⟩:=s
 obtain ⟨g0,g1,g2,g3⟩:=hs
 simp only at g0 g1 g2 g3
 unfold mB
 refine .sel (λhlt=>?_) λhge=>.inr (show out=_ from ?_)
 ·simp only [decide_eq_true_eq] at hlt
  obtain ⟨q,e1,e2,hq⟩:=hc.at g0 hlt
  have hl:=wF eQ c i.toNat
  have h6:=sw eQ c i.toNat
  have hql:=(oy q c 0).2.1
  refine .bind (.app (by subst g2; simp; omega)) λr hr=>?_
  dsimp only
  rw [e1,ob9,A5 hq h (by omega),ob9,ax g0 (by omega),aM (by omega) (by omega)]
  have e3:(i+1).toNat=i.toNat+1:=by omega
  refine .inl ⟨⟨by simp only; omega,by simp only; omega,?_,?_⟩,by simp only; omega⟩
  ·simp only; rw [e3,A7,hr,g2,g3]
  ·simp only; rw [e3,pl,e2,g3]; simp
 ·simp only [decide_eq_false_iff_not] at hge
  rw [g2,show i.toNat=eQ.length by omega]
theorem BG {eQ:List ab} (hc:COk eQ) {c:Int} (h:1<=c/\c<=8):fR eQ c=some (plL eQ c eQ.length):=by
 have hmx:=hc.max
 refine Tot.eq ?_
 unfold fR
 obtain ⟨_,e,_⟩:=(pp eQ (by omega)).resolve_right λh=>h.1 hc
 rw [e,ob9]
 refine .sf (by simp; omega) (.bind (P:=λr=>r=plL eQ c eQ.length) (.iter (λs=>0<=s.2.2/\s.2.2<=(eQ.length:Int)/\s.1=plL eQ c s.2.2.toNat/\s.2.1=(pl eQ c s.2.2.toNat:Int)) (λs=>((eQ.length:Int)-s.2.2).toNat) ⟨by simp,by simp,rfl,rfl⟩ λs hs=>?_) λr hr=>.pure hr)
 obtain ⟨out,a,i⟩:=s
 obtain ⟨g0,g1,g2,g3⟩:=hs
 simp only at g0 g1 g2 g3
 unfold mc
 refine .sel (λhlt=>?_) λhge=>.inr (show out=_ from ?_)
 ·simp only [decide_eq_true_eq] at hlt
  obtain ⟨q,e1,e2,hq⟩:=hc.at g0 hlt
  have hl:=wF eQ c i.toNat
  have h6:=sw eQ c i.toNat
  have hql:=(oy q c 0).2.1
  dsimp only
  rw [e1,ob9]
  refine .bind (.app (by subst g2; simp; omega)) λr hr=>?_
  rw [yN hq h (by omega),ob9,ax g0 (by omega),aM (by omega) (by omega)]
  have e3:(i+1).toNat=i.toNat+1:=by omega
  refine .inl ⟨⟨by simp only; omega,by simp only; omega,?_,?_⟩,by simp only; omega⟩
  ·simp only; rw [e3,A7,hr,g2,g3]
  ·simp only; rw [e3,pl,e2,g3]; simp
 ·simp only [decide_eq_false_iff_not] at hge
  rw [g2,show i.toNat=eQ.length by omega]
theorem yO {eQ:List ab} (hc:COk eQ) {c:Int} {i:Nat} (hi:i<eQ.length) : -1000000<=uJ eQ c i/\uJ eQ c i<=1000000:=by
 have hmx:=hc.max
 have hq:=hc.q _ (List.mem_of_getElem? (List.getElem?_eq_getElem hi))
 have e:qAt eQ i=eQ[i]:=D6 (List.getElem?_eq_getElem hi)
 unfold uJ
 rw [e]
 split
 ·rename_i h
  have hN:0<=(eQ[i]).N/\(eQ[i]).N<eQ.length:=by unfold QOk at hq; rcases h with h | h <;> simp [h] at hq <;> omega
  have h1:=sw eQ c (eQ[i]).N.toNat
  have h2:=sw eQ c i
  omega
 ·omega
theorem D7 {eQ:List ab} (hc:COk eQ) {c:Int} (h:1<=c/\c<=8):mC eQ c=some (tk eQ c eQ.length):=by
 have hmx:=hc.max
 refine Tot.eq ?_
 unfold mC
 rw [BF hc h,ob9]
 refine .bind (P:=λr=>r=tk eQ c eQ.length) (.iter (λs=>0<=s.2/\s.2<=(eQ.length:Int)/\s.1=tk eQ c s.2.toNat) (λs=>((eQ.length:Int)-s.2).toNat) ⟨by simp,by simp,rfl⟩ λs hs=>?_) λr hr=>.pure hr
 obtain ⟨out,i⟩:=s
 obtain ⟨g0,g1,g2⟩:=hs
 simp only at g0 g1 g2
 unfold nQ
 refine .sel (λhlt=>?_) λhge=>.inr (show out=_ from ?_)
 ·simp only [decide_eq_true_eq] at hlt
  obtain ⟨q,e1,e2,hq⟩:=hc.at g0 hlt
  have h6:=sw eQ c i.toNat
  have hql:=(oy q c (uJ eQ c i.toNat)).2.1
  have hof:=yO hc (c:=c) (i:=i.toNat) (by omega)
  dsimp only
  rw [e1]
  simp only [ob9]
  refine .bind (P:=λy=>y=uJ eQ c i.toNat) (.bind (P:=λb=>b=true↔(q.Op=4\/q.Op=5)) (.sel (λh=>.pure ?_) λh=>.pure ?_) λb hb=>.sel (λh=>?_) λh=>.pure ?_) λy hy=>?_
  ·simp at h; simp [h]
  ·simp at h; simp [h]
  ·have ho:=hb.1 h
   have hN:0<=q.N/\q.N<eQ.length:=by unfold QOk at hq; rcases ho with h | h <;> simp [h] at hq <;> omega
   have h7:=sw eQ c q.N.toNat
   rw [wG hN.1 hN.2,wG g0 hlt,ob9,ob9,aM (i:=_-_) (by omega) (by omega),aM (by omega) (by omega)]
   unfold uJ
   rw [e2,if_pos ho]; exact .pure rfl
  ·unfold uJ; rw [e2,if_neg (λhh=>by rw [hb.2 hh] at h; cases h)]
  ·subst hy
   rw [A5 hq h hof,ob9]
   refine .bind (.app (by subst g2; rw [zP]; omega)) λr hr=>.inl ?_
   rw [ax g0 (by omega)]
   refine ⟨⟨by simp only; omega,by simp only; omega,?_⟩,by simp only; omega⟩
   simp only
   rw [show (i+1).toNat=i.toNat+1 by omega,tk,hr,g2,blk,e2]
 ·simp only [decide_eq_false_iff_not] at hge
  rw [g2,show i.toNat=eQ.length by omega]
theorem D8 {eQ:List ab} (hc:COk eQ) {c:Int} (h:1<=c/\c<=8):dY eQ c=some (tk eQ c eQ.length,true):=by
 have hmx:=hc.max
 have hone:=hc.one
 refine Tot.eq ?_
 unfold dY
 rw [BG hc h,ob9]
 have hne:List.isEmpty (plL eQ c eQ.length)=false:=by
  rw [List.isEmpty_eq_false_iff]; intro e; have:=wF eQ c eQ.length; rw [e] at this; simp at this; omega
 refine .sf hne (.bind (P:=λr=>r=tk eQ c eQ.length) (.iter (λs=>0<=s.2/\s.2<=(eQ.length:Int)/\s.1=tk eQ c s.2.toNat) (λs=>((eQ.length:Int)-s.2).toNat) ⟨by simp,by simp,rfl⟩ λs hs=>?_) λr hr=>.pure (by rw [hr]))
 obtain ⟨out,i⟩:=s
 obtain ⟨g0,g1,g2⟩:=hs
 simp only at g0 g1 g2
 unfold md
 refine .sel (λhlt=>?_) λhge=>.inr (show out=_ from ?_)
 ·simp only [decide_eq_true_eq] at hlt
  obtain ⟨q,e1,e2,hq⟩:=hc.at g0 hlt
  have h6:=sw eQ c i.toNat
  have hql:=(oy q c (uJ eQ c i.toNat)).2.1
  have hof:=yO hc (c:=c) (i:=i.toNat) (by omega)
  dsimp only
  rw [e1]
  simp only [ob9,cn]
  refine .bind (P:=λy=>y=uJ eQ c i.toNat) (.sel (λh=>?_) λh=>.pure ?_) λy hy=>?_
  ·have ho:q.Op=4\/q.Op=5:=by simpa using h
   have hN:0<=q.N/\q.N<eQ.length:=by unfold QOk at hq; rcases ho with h | h <;> simp [h] at hq <;> omega
   have h7:=sw eQ c q.N.toNat
   rw [wG hN.1 hN.2,wG g0 hlt,ob9,ob9,aM (i:=_-_) (by omega) (by omega),aM (by omega) (by omega)]
   unfold uJ
   rw [e2,if_pos ho]; exact .pure rfl
  ·unfold uJ; rw [e2,if_neg (by simpa using h)]
  ·subst hy
   rw [yN hq h hof,ob9]
   refine .bind (.app (by subst g2; rw [zP]; omega)) λr hr=>.inl ?_
   rw [ax g0 (by omega)]
   refine ⟨⟨by simp only; omega,by simp only; omega,?_⟩,by simp only; omega⟩
   simp only
   rw [show (i+1).toNat=i.toNat+1 by omega,tk,hr,g2,blk,e2]
 ·simp only [decide_eq_false_iff_not] at hge
  rw [g2,show i.toNat=eQ.length by omega]
end
noncomputable section
theorem C1 {eQ:List ab} (hc:COk eQ) {c:Int} (h:¬ (1<=c/\c<=8)):dY eQ c=some ([],false):=by
 unfold dY fR
 rw [mL hc,ob9,bc (by simp; omega),ob9]; rfl
def tF (t c:Int) (l:List ae):List Instr:=tk (bF t l) c (bF t l).length
theorem C2 {k:Nat} (hk:20<=k) {p:aF} (hb:PB p) (t c:Int):((VP p/\(0<=t/\t<=4)/\1<=c/\c<=8)/\dc k p t c=some (p.Tasks.map (tF t c),true)/\d8 k p t c=some (p.Tasks.map (tF t c),true))\/(¬ (VP p/\(0<=t/\t<=4)/\1<=c/\c<=8)/\dc k p t c=some ([],false)/\d8 k p t c=some ([],false)):=by
 have ee:(⟨p.Rooms,p.Tasks⟩:aF)=p:=rfl
 unfold dc d8
 rw [ee]
 rcases CP hk hb t with ⟨⟨hv,ht⟩,c1,c2⟩ | ⟨hv,c1,c2⟩
 ·have hn:=hv.2.1
  have hcs:∀ q∈p.Tasks.map (bF t),COk q:=λq hq=>by
   obtain ⟨l,hl,rfl⟩:=List.mem_map.1 hq
   exact (EZ ht.1 ht.2 hv.rooms (hv.tasks l hl)).1
  have hlen:(p.Tasks.map (bF t)).length=p.Tasks.length:=by simp
  have hmm:(p.Tasks.map (bF t)).map (λq=>tk q c q.length)=p.Tasks.map (tF t c):=by simp [tF]
  rw [c1,c2,ob9,ob9,bD (by rfl)]
  by_cases hc:1<=c/\c<=8
  ·refine .inl ⟨⟨hv,ht,hc⟩,?_⟩
   rw [<-hmm]
   generalize p.Tasks.map (bF t)=L at hcs hlen
   constructor
   ·rw [sT (l:=L) (g:=λq=>tk q c q.length) (e:=λx=>.inr x) (by omega) (λout i x g0 g1 hx hm ho=>?_) λout=>?_]
    ·rfl
    ·unfold dk
     rw [eu (by simpa using g1),show nth L i=some x by unfold nth; rw [if_neg (by omega)]; exact hx,ob9,D8 (hcs x hm) hc,ob9,bD (by rfl)]
     exact Tot.eq (.bind (.app (by simp; omega)) λr hr=>.pure (by rw [hr]))
    ·unfold dk
     exact bD (by simp)
   ·have h6:aX c 1 8=some true:=by unfold aX; simp; omega
    rw [h6,bD (show (!true)=false from rfl),ob9,ob9,bD (show (!true)=false from rfl),sT (l:=L) (g:=λq=>tk q c q.length) (e:=id) (by omega) (λout i x g0 g1 hx hm ho=>?_) λout=>?_]
    ·rfl
    ·unfold iX
     rw [eu (by simpa using g1),show nth L i=some x by unfold nth; rw [if_neg (by omega)]; exact hx,ob9,D7 (hcs x hm) hc,ob9]
     exact Tot.eq (.bind (.app (by simp; omega)) λr hr=>.pure (by rw [hr]))
    ·unfold iX
     exact bD (by simp)
  ·refine .inr ⟨λh=>hc h.2.2,?_,?_⟩
   ·obtain ⟨x,hx⟩:∃ x,(p.Tasks.map (bF t))[0]?=some x:=⟨_,List.getElem?_eq_getElem (by omega)⟩
    have hx0:nth (p.Tasks.map (bF t)) 0=some x:=hx
    rw [bz,show dk c (p.Tasks.map (bF t),true) ([],0)=some (.inr (.inl ([],false))) by
     unfold dk
     rw [eu (by simp; omega)]
     dsimp only
     rw [hx0,ob9,C1 (hcs x (List.mem_of_getElem? hx)) hc,ob9]
     exact eu rfl]
    rfl
   ·have h6:aX c 1 8=some false:=by unfold aX; simp; omega
    rw [h6,bD (show (!true)=false from rfl),ob9,ob9]
    exact eu rfl
 ·refine .inr ⟨λh=>hv ⟨h.1,h.2.1⟩,?_,?_⟩
  ·rw [c1,ob9]; exact eu rfl
  ·rw [c2,ob9,eu (by rfl),ob9]; exact eu rfl
theorem FD {t:Int} (h0:0<=t) (h4:t<=4) {R:Int} (hR:R<=3) {l:List ae} (h:VL R l) (c:Int):(tF t c l).length<=3600:=by
 have h1:=(EZ h0 h4 hR h).1.max
 have h2:=sw (bF t l) c (bF t l).length
 unfold tF
 rw [zP]
 omega
theorem BH (x:Instr):mH x x=some true:=by unfold mH; simp [sel]
theorem A8 (l:List Instr) (h:l.length<=1048576):lG l l=some true:=by
 unfold lG
 rw [aj (by simp)]
 have e:aC (ig l l) 0=some (.inr ()):=rx (l:=l) (by omega) (λi hi=>by
  unfold ig
  rw [bc (by simpa using hi)]
  simp only [iq hi,ob9,BH]
  rfl) (by
  unfold ig
  rw [aj (by simp)])
 rw [e]
 rfl
theorem zQ (l:List (List Instr)) (h:l.length<=1048576) (h2:∀ x∈l,x.length<=1048576):fy l l=some true:=by
 unfold fy
 rw [aj (by simp)]
 have e:aC (gr l l) 0=some (.inr ()):=rx (l:=l) (by omega) (λi hi=>by
  unfold gr
  rw [bc (by simpa using hi)]
  simp only [iq hi,ob9,A8 _ (h2 _ (List.getElem_mem hi))]
  rfl) (by
  unfold gr
  rw [aj (by simp)])
 rw [e]
 rfl
def MkN:Instr->Int->Option (Int×Instr):=λ_ k=>some (w64 (w64 (w64 (w64 (w64 (k+1)+1)+1)+1)+1),⟨k,w64 (k+1),w64 (w64 (k+1)+1),w64 (w64 (w64 (k+1)+1)+1),w64 (w64 (w64 (w64 (k+1)+1)+1)+1)⟩)
def HdN:Instr->Int->Int->Prop:=λx k k'=>MkN x k=some (k',x)
theorem mhN:MH MkN HdN (λ_=>5):=λx k h1 h2=>by
 have h2':k+5<=1000000000000:=h2
 have e:=E1 h1 (show k<=1000000000000 by omega)
 exact ⟨⟨k,w64 (k+1),w64 (w64 (k+1)+1),w64 (w64 (w64 (k+1)+1)+1),w64 (w64 (w64 (w64 (k+1)+1)+1)+1)⟩,by unfold MkN; rw [e]; rfl,by unfold HdN MkN; rw [e]; rfl⟩
theorem uK:∀ (l:List Instr),szs (λ_=>5) l=5*l.length
 | []=>rfl
 | x::xs=>by simp only [szs,uK xs,List.length_cons]; omega
def F8:List Instr->Int->Int->Prop:=λl k k'=>fX l k=some k'/\0<=k'
theorem Gp:MH fW F8 (λl=>5*l.length):=λl k h1 h2=>by
 have h2':k+(5*l.length:Nat)<=1000000000000:=h2
 obtain ⟨l',k1,k2,k3⟩:=mhN.list l k h1 (by rw [uK]; exact h2')
 rw [uK] at k1 k2
 refine ⟨l',?_,?_,by show (0:Int)<=k+(5*l.length:Nat); omega⟩
 ·unfold fW
  rw [ry (f:=fD) MkN (λk l i hi k' x' hm hlen=>?_) (λk l=>?_) (by omega) k1]
  ·rfl
  ·simp only [MkN,Option.some.injEq,Prod.mk.injEq] at hm
   obtain ⟨rfl,rfl⟩:=hm
   unfold fD
   rw [bc (by simpa using hi)]
   simp only [iq hi,yZ hi,EJ hi,EK hi,ob9,nl (show i<=9223372036854775806 by omega)]
  ·unfold fD
   rw [aj (by simp)]
 ·show fX l' k=some (k+(5*l.length:Nat))
  unfold fX
  rw [yE (f:=fE l') HdN (by omega) (λk i hi k' hm=>?_) (λk=>?_) k2]
  ·rfl
  ·simp only [HdN,MkN,Option.some.injEq,Prod.mk.injEq] at hm
   obtain ⟨rfl,hm⟩:=hm
   unfold fE
   rw [bc (by simpa using hi)]
   simp only [iq hi,ob9]
   have q1:=congrArg Instr.Op hm; have q2:=congrArg Instr.Rd hm; have q3:=congrArg Instr.Rs hm; have q4:=congrArg Instr.Rt hm; have q5:=congrArg Instr.Imm hm
   simp only at q1 q2 q3 q4 q5
   rw [aj (by simp [<-q1]),aj (by simp [<-q2]),aj (by simp [<-q3]),aj (by simp [<-q4]),aj (by simp [<-q5]),nl (show i<=9223372036854775806 by omega)]
  ·unfold fE
   rw [aj (by simp)]
theorem F9 (l:List (List Instr)) (hl:l.length<=1000000) (h2:szs (λl=>5*l.length) l<=1000000000):∃ k l',ip l 1=some (k,l')/\fg l' 1=some k/\0<=k:=by
 obtain ⟨l',k1,k2,k3⟩:=Gp.list l 1 (by omega) (by omega)
 refine ⟨_,l',?_,?_,show (0:Int)<=1+szs (λl=>5*l.length) l by omega⟩
 ·unfold ip
  rw [ry (f:=eo) fW (λk l i hi k' x' hm hlen=>?_) (λk l=>?_) (by omega) k1]
  ·rfl
  ·unfold eo
   rw [bc (by simpa using hi)]
   simp only [iq hi,hm,ob9,nl (show i<=9223372036854775806 by omega)]
   simp
  ·unfold eo
   rw [aj (by simp)]
 ·unfold fg
  rw [yE (f:=et l') F8 (by omega) (λk i hi k' hm=>?_) (λk=>?_) k2]
  ·rfl
  ·obtain ⟨h1,h3⟩:=hm
   unfold et
   rw [bc (by simpa using hi)]
   simp only [iq hi,h1,ob9,nl (show i<=9223372036854775806 by omega)]
   rw [aj (by simpa using h3)]
  ·unfold et
   rw [aj (by simp)]
theorem BI {k:Nat} (hk:20<=k) {p:aF} (hb:PB p) (t c:Int):∃ q b,dc k p t c=some (q,b)/\d8 k p t c=some (q,b)/\q.length<=3/\∀ x∈q,x.length<=3600:=by
 rcases C2 hk hb t c with ⟨⟨hv,ht,hc⟩,e1,e2⟩ | ⟨_,e1,e2⟩
 ·have hn:=hv.2.1
  refine ⟨_,_,e1,e2,by simpa using hn.2,λx hx=>?_⟩
  obtain ⟨l,hl,rfl⟩:=List.mem_map.1 hx
  exact FD ht.1 ht.2 hv.rooms (hv.tasks l hl) c
 ·exact ⟨_,_,e1,e2,by simp,by simp⟩
theorem BJ (p:aR) (t c:Int) (ho:p.ok):eJ p.fuel p t c=some true:=by
 obtain ⟨k,ek⟩:∃ k,k=p.fuel:=⟨_,rfl⟩
 have hk:p.fuel<=k:=by omega
 have hk20:20<=k:=by unfold aR.fuel at ek; omega
 rw [<-ek]
 have ee:(aR.mk p.Rooms p.Tasks)=p:=rfl
 have e3:(aF.mk p.to.Rooms p.to.Tasks)=p.to:=rfl
 unfold eJ
 rw [ee,zJ hk ho,ob9]
 by_cases hn:(1048576:Int)-p.n<0
 ·exact EI (by rw [n8 hn]; rfl) rfl
 rw [qa hn,aj (by simpa using hn)]
 have hn':p.n<=1048576:=by omega
 obtain ⟨q,b,e1,e2,hc,hx⟩:=BI hk20 (F7 hn') t c
 have he:=zQ q (by omega) λx h=>by have:=hx x h; omega
 obtain ⟨m,r,em,hm⟩:=xz hk hn'
 obtain ⟨m2,q',f1,f2,f3⟩:=F9 q (by omega) (by
  have:=D5 (sz:=λ(l:List Instr)=>5*l.length) (m:=18000) (l:=q) λx h=>by have:=hx x h; omega
  omega)
 have hm':decide (m<0)=false:=by simpa using hm
 have f3':decide (m2<0)=false:=by simpa using f3
 have sf:∀ {x y:Option Bool},sel false x y=y:=rfl
 simp only [zK hk hn',ob9,e3,e1,e2,he,zL hk hn',em,f1,f2,hm',f3',Bool.not_true,Bool.false_or,bne_self_eq_false,sf]
end
noncomputable section
abbrev CL := Calls Tryz.prog
abbrev vi (x:Int):Value := Value.int IntKind.i64 x
abbrev RO (w:World) (h:Hd) {α:Type} := @RV α w (Old No w) (sv h)
abbrev RU (w:World) (v:Value) := Ret No w (λ_:Unit => v) λ_ => []
theorem z.{u} {α:Sort u} {a:α}:a=a := rfl
theorem zz {A S T:Nat->Prop} (h:∀ b, S b->A b/\T b):∀ b, S b->T b := λb hb => (h b hb).2
end
end Go.Proofs.YtfpngipcclmliaaGreatDoor.N
namespace Go.Proofs.YtfpngipcclmliaaGreatDoor.X
noncomputable section
theorem CW.g {P:Program} {n id:Nat} {ops:Array Oper} {d:Code} {E:Env} {W:World} {R:Exit->Env->World->Prop} (h:RG P n ops ops.toList E W (λE' W' => CW P n d E' W' R)):CW P n (.seq (.region id ops false) d) E W R := .seq (.region h)
variable {P:Program} {n:Nat} {ops:Array Oper} {o:Oper} {E:Env} {W:World} {v:Value} {K:Env->World->Prop} {SW:World->Prop} {k f:Nat} {ls:Array Bool}
theorem RK.tp' (i:Nat) (ho:ops[i]?=some o) (hv:pq n E o=some v) (hS:SW W) (h:RK P n ops SW k f (ls.setIfInBounds i true) (put E o.dst v) W K) (hs:(Region.noSelect ops&&Region.free .any ops ls i&&(Region.ready .any ops ls).contains i&&oE ops k i&&!(Nat.beq i k))=true := by kernel_rfl):RK P n ops SW k (f+1) ls E W K := .tp i ho hv hS hs h
theorem RK.ts' (i:Nat) (ho:ops[i]?=some o) (hv:∀ W, SW W->fN P n E o W v W) (hS:SW W) (hg:og n o=true) (h:RK P n ops SW k f (ls.setIfInBounds i true) (put E o.dst v) W K) (hs:(Region.noSelect ops&&Region.free .any ops ls i&&(Region.ready .any ops ls).contains i&&oE ops k i&&!(Nat.beq i k))=true := by kernel_rfl):RK P n ops SW k (f+1) ls E W K := .ts i ho hv hS hg hs h
theorem RG.qn {P:Program} {n:Nat} {ops:Array Oper} {o:Oper} {E:Env} {W:World} {v:Value} {K:Env->World->Prop} (h:pq n E o=some v) (k:K (put E o.dst v) W):RG P n ops [o] E W K := .q h (.nil k)
end
end Go.Proofs.YtfpngipcclmliaaGreatDoor.X
namespace Go.Proofs.YtfpngipcclmliaaGreatDoor.N
open Go.Proofs.YtfpngipcclmliaaGreatDoor.X
open T Tryz
noncomputable section
def l5 (F:List ae->Option (Int)):Prop:=∀ {a0:List ae} {v_0:Hd} {w:World} {r:Int} (h:F a0=some r) (q_0:RO w v_0 95 8 aP a0) , CL 149 #[sv v_0] w (RU w (.int .i64 r))
theorem vS {k:Nat} {dV:List ae->Option (Int)} (pH:l5 dV):l5 (cr k dV):=by
 intro a0 v_0 w r h q_0
 unfold cr at h
 refine ao func149 z z ?_
 have s:=Sep.start w
 refine .g (.qn z (.g (.qn z (.seq (.g (.qn z (.block (bv h λy1 hy1 h=>?_))))))))
 refine .via (.iter (λs1 E' W'=>aq E' [(0,(sv v_0)),(3,vi s1.1),(4,vi s1.2)]/\Sep No w W' []) (λy2 x E' W'=>x=.exit 0/\aq E' [(3,vi y2)]/\Sep No w W' []) hy1 ⟨sb z,s.to []⟩ ?_) ?_
 ·intro s1 y3 E W h hI
  obtain ⟨hE,s⟩:=hI
  refine CW.sub hE ?_
  unfold gV at h
  refine .seq (.g (.q z (.q z (.s (aE (s.keep q_0) u93 z z) z (.q z (.nil ?_))))))
  refine .cs z h ?_ ?_ <;> intro h
  ·refine .skip (.seq (.block (.rk 17 s [] T.mix ?_)))
   intro W s
   have t:=s.to []
   refine .tp' 0 z z t (.tp' 1 z z t (.tp' 2 z z t (.tp' 3 z z t (bv h λx1 hx1 h=>?_))))
   obtain ⟨k1,hd,hck1⟩:=RV.el2 q_0 hx1
   have hd1:=dP (pb _) hd
   obtain ⟨k1,rfl,hd2⟩:=a7 q_0 z hd1
   obtain ⟨k1,rfl,hd3⟩:=a7 q_0 z hd2
   obtain ⟨k1,rfl,hd4⟩:=a7 q_0 z hd3
   have hd5:=dP (gQ _) hd4
   obtain ⟨k1,rfl,hd6⟩:=a7 q_0 z hd5
   obtain ⟨k1,rfl,hd7⟩:=a7 q_0 z hd6
   obtain ⟨v1,k1,rfl,q1,hd8⟩:=bn q_0 hd7
   obtain ⟨v2,k1,rfl,q2,hd9⟩:=bn q_0 hd8
   obtain ⟨v3,k1,rfl,q3,hd10⟩:=bn q_0 hd9
   obtain rfl:=gU q_0 hd10
   refine .ts' 4 z (λW t=>ixv (s.keep q_0) hx1 u93 t95 z z z) t z (.ts' 5 z (λW t=>fe f95_4 z z z) t z (.ts' 6 z (λW t=>lde (hck1 _ t.agree) t93 z z z z z) t z (.tp' 9 z z t (.tp' 10 z z t (bv h λx2 hx2 h=>?_)))))
   obtain ⟨k2,hd,hck2⟩:=RV.el2 q_0 hx2
   have hd1:=dP (pb _) hd
   obtain ⟨k2,rfl,hd2⟩:=a7 q_0 z hd1
   obtain ⟨k2,rfl,hd3⟩:=a7 q_0 z hd2
   obtain ⟨k2,rfl,hd4⟩:=a7 q_0 z hd3
   have hd5:=dP (gQ _) hd4
   obtain ⟨k2,rfl,hd6⟩:=a7 q_0 z hd5
   obtain ⟨k2,rfl,hd7⟩:=a7 q_0 z hd6
   obtain ⟨v4,k2,rfl,q4,hd8⟩:=bn q_0 hd7
   obtain ⟨v5,k2,rfl,q5,hd9⟩:=bn q_0 hd8
   obtain ⟨v6,k2,rfl,q6,hd10⟩:=bn q_0 hd9
   obtain rfl:=gU q_0 hd10
   refine .ts' 11 z (λW t=>ixv (s.keep q_0) hx2 u93 t95 z z z) t z (.ts' 12 z (λW t=>fe f95_5 z z z) t z (.ts' 13 z (λW t=>lde (hck2 _ t.agree) t93 z z z z z) t z (bv h λy4 hy4 h=>.by1 7 z (.cO s func149 (pH hy4 (s.keep (q2 _ q_0))) z z ?_))))
   intro W s
   refine s.an [] λt=>.tp' 8 z z t (bv h λy5 hy5 h=>.by1 14 z (.cO s func149 (pH hy5 (s.keep (q6 _ q_0))) z z ?_))
   intro W s
   refine s.an [] λt=>.tp' 15 z z t (.tp' 16 z z t (.done (.region (.q z (.q z (.q z (.nil ?_)))))))
   cases h
   exact ⟨z,sb z,s.to []⟩
  refine .exit ?_
  cases h
  exact ⟨by simp,z,sb z,s.to []⟩
 intro x E W hJ
 obtain ⟨rfl,hE,s⟩:=hJ
 refine ⟨_,hE.sub,?_⟩
 obtain rfl:=o9 h
 exact .g (.q z (.qn z (.ret (aa () (rt z rn) z (s.to [])))))
theorem qR (k:Nat):l5 (cl k):=by
  induction k with
  | zero=>exact by intro a0 v_0 w r h q_0; exact no h
  | succ k ih=>exact vS (k:=k) ih
theorem uL {k:Nat}:l5 (cl k):=(qR k)
end
noncomputable section
def tP (w:World) (r:Bool):Env->World->Prop:=Fin Tryz.prog Tryz.f53 No w (λs:Unit=>.bool r) (λs=>[]) .ret
theorem sZ {a0:List Int} {v_0:Hd} {w:World} {r:Bool} (h:i5 a0=some r) (q_0:RO w v_0 3 1 (D.int .i64) a0):CL 53 #[sv v_0] w (RU w (.bool r)):=by
 unfold i5 at h
 refine ao func53 z z ?_
 have s:=Sep.start w
 refine .g (.qn z (.seq (.g (.q z (.s (aE (s.keep q_0) u23 z z) z (.qn z (.block (bv h λy1 hy1 h=>?_))))))))
 refine .via (.iter (λs1 E' W'=>aq E' [(0,(sv v_0)),(5,(sv v_0)),(6,vi (a0.length:Int)),(7,vi s1)]/\Sep No w W' []) (λy2 x E' W'=>(match y2 with | .inl o1=>x=.ret/\tP w o1 E' W' | .inr o2=>x=.exit 0/\aq E' [(0,(sv v_0))]/\Sep No w W' [])) hy1 ⟨sb rfl,s.to [] rfl⟩ ?_) ?_
 ·intro s1 y3 E W h hI
  obtain ⟨hE,s⟩:=hI
  refine CW.sub hE ?_
  unfold iL at h
  refine .g (.qn z (.seq ?_))
  refine .cs z h ?_ ?_ <;> intro h
  ·refine .skip (.seq (.block (.g (bv h λx1 hx1 h=>.s (ixv (s.keep q_0) hx1 u23 t3 z z z) z (.s (lde (RV.flat (s.keep q_0) hx1 z) t3 z z z z z) z (.qn z (.g (.q z (.q z (.q z (.cu 3 16 ((decide (x1<1))||(decide (x1>4))) s ?_ ?_)))))))))))
   ·refine .both (decide (x1<1)) (λb=>?_) (λb=>?_)
    ·exact .xx b z (.xx b z (.s (pkt b z z z) z (.nil (ck 3 s z (iH b)))))
    have hg1:=b
    exact .g hg1 (.q z (.g hg1 (.q z (.s (pkf hg1 z z z) z (.nil (ck 3 s z (gS hg1)))))))
   intro W s
   refine .nil ?_
   refine .cs z h ?_ ?_ <;> intro h
   ·refine .g (.qn z (.ret ?_))
    cases h
    exact ⟨by simp,z,aa (vs:=[_]) () (rt z rn) z (s.to [])⟩
   refine .skip (.region (.q z (.q z (.nil ?_))))
   cases h
   exact ⟨z,sb z,s.to []⟩
  refine .exit ?_
  cases h
  exact ⟨by simp,z,sb z,s.to []⟩
 intro x E W hJ
 rcases y1 with o3 | o4
 ·have h:=bW h
  obtain ⟨rfl,hF⟩:=hJ
  refine ⟨_,λ_ _ h=>h,?_⟩
  cases h
  exact hF
 have h:=bX h
 obtain ⟨rfl,hE,s⟩:=hJ
 refine ⟨_,hE.sub,?_⟩
 cases h
 exact .g (.q z (.s (aE (s.keep q_0) u23 z z) z (.q z (.qn z (.ret (aa () (rt z rn) z (s.to [])))))))
theorem qc {a0:Int} {w:World} {r:Bool} (h:kt a0=some r):CL 174 #[vi a0] w (RU w (.bool r)):=by
 unfold kt at h
 refine ao func174 z z ?_
 have s:=Sep.start w
 refine .g (.qn z (.g (.q z (.q z (.q z (.cu 3 8 ((decide (a0>=1))&&(decide (a0<=12))) s ?_ ?_))))))
 ·refine .both (decide (a0>=1)) (λb=>?_) (λb=>?_)
  ·have hg1:=b
   exact .g hg1 (.q z (.g hg1 (.q z (.s (pkt hg1 z z z) z (.nil (ck 3 s z (bi hg1)))))))
  exact .xx b z (.xx b z (.s (pkf b z z z) z (.nil (ck 3 s z (bj b)))))
 intro W s
 cases h
 exact .qn z (.ret (aa () (rt z rn) z (s.to [])))
def kQ (F:Expr->Int->Option (Bool)):Prop:=∀ {a0:Expr} {a1:Int} {aW:Hd} {w:World} {r:Bool} (h:F a0 a1=some r) (aw:RO w aW 91 3 bL a0.Args) , CL 272 #[.agg #[vi a0.Op,vi a0.N,sv aW],vi a1] w (RU w (.bool r))
theorem uM {k:Nat} {gX:Expr->Int->Option (Bool)} (ph:kQ gX):kQ (gW k gX):=by
 intro a0 a1 aW w r h aw
 unfold gW at h
 refine ao func272 z z ?_
 have s:=Sep.start w
 refine .g (.c (.box s z z ?_))
 intro g1 W s
 refine .qn z (.seq (.block (.g (.s (fa f91_0 z z z) z (.s (ld t3 s z z z z z) z (.q z (.q z (.nil ?_))))))))
 refine .cs z h ?_ ?_ <;> intro h
 ·refine .g (.s (fa f91_1 z z z) z (.s (ld t3 s z z z z z) z (.q z (.q z (.cu 4 16 ((decide (a0.N>=0))&&(decide (a0.N<=99999))) s ?_ ?_)))))
  ·refine .both (decide (a0.N>=0)) (λb=>?_) (λb=>?_)
   ·have hg1:=b
    exact .g hg1 (.s (fa f91_1 z z z) z (.g hg1 (.s (ld t3 s z z z z z) z (.g hg1 (.q z (.s (pkt hg1 z z z) z (.nil (ck 4 s z (bi hg1)))))))))
   exact .xx b z (.xx b z (.xx b z (.s (pkf b z z z) z (.nil (ck 4 s z (bj b))))))
  intro W s
  refine .q z (.cu 5 22 (((decide (a0.N>=0))&&(decide (a0.N<=99999)))&&((a0.Args.length:Int)==0)) s ?_ ?_)
  ·refine .both ((decide (a0.N>=0))&&(decide (a0.N<=99999))) (λb=>?_) (λb=>?_)
   ·have hg2:=b
    exact .g hg2 (.s (fa f91_2 z z z) z (.g hg2 (.s (ld t89 s z z z z z) z (.g hg2 (.s (aE (s.keep aw) u89 z z) z (.g hg2 (.q z (.s (pkt hg2 z z z) z (.nil (ck 5 s z (bi hg2)))))))))))
   exact .xx b z (.xx b z (.xx b z (.xx b z (.s (pkf b z z z) z (.nil (ck 5 s z (bj b)))))))
  intro W s
  refine .q z (.cu 3 26 ((((decide (a0.N>=0))&&(decide (a0.N<=99999)))&&((a0.Args.length:Int)==0))&&(decide (a1>0))) s ?_ ?_)
  ·refine .both (((decide (a0.N>=0))&&(decide (a0.N<=99999)))&&((a0.Args.length:Int)==0)) (λb=>?_) (λb=>?_)
   ·have hg3:=b
    exact .g hg3 (.q z (.g hg3 (.q z (.s (pkt hg3 z z z) z (.nil (ck 3 s z (bi hg3)))))))
   exact .xx b z (.xx b z (.s (pkf b z z z) z (.nil (ck 3 s z (bj b)))))
  intro W s
  cases h
  exact .qn z (.ret (aa () (rt z rn) z (s.to [])))
 refine .g (.s (fa f91_0 z z z) z (.s (ld t3 s z z z z z) z (.q z (.q z (.nil ?_)))))
 refine .cs z h ?_ ?_ <;> intro h
 ·refine .g (.s (fa f91_1 z z z) z (.s (ld t3 s z z z z z) z (.q z (.q z (.cu 4 38 ((decide (a0.N>=0))&&(decide (a0.N<4))) s ?_ ?_)))))
  ·refine .both (decide (a0.N>=0)) (λb=>?_) (λb=>?_)
   ·have hg4:=b
    exact .g hg4 (.s (fa f91_1 z z z) z (.g hg4 (.s (ld t3 s z z z z z) z (.g hg4 (.q z (.s (pkt hg4 z z z) z (.nil (ck 4 s z (bi hg4)))))))))
   exact .xx b z (.xx b z (.xx b z (.s (pkf b z z z) z (.nil (ck 4 s z (bj b))))))
  intro W s
  refine .q z (.cu 5 44 (((decide (a0.N>=0))&&(decide (a0.N<4)))&&((a0.Args.length:Int)==0)) s ?_ ?_)
  ·refine .both ((decide (a0.N>=0))&&(decide (a0.N<4))) (λb=>?_) (λb=>?_)
   ·have hg5:=b
    exact .g hg5 (.s (fa f91_2 z z z) z (.g hg5 (.s (ld t89 s z z z z z) z (.g hg5 (.s (aE (s.keep aw) u89 z z) z (.g hg5 (.q z (.s (pkt hg5 z z z) z (.nil (ck 5 s z (bi hg5)))))))))))
   exact .xx b z (.xx b z (.xx b z (.xx b z (.s (pkf b z z z) z (.nil (ck 5 s z (bj b)))))))
  intro W s
  refine .q z (.cu 3 48 ((((decide (a0.N>=0))&&(decide (a0.N<4)))&&((a0.Args.length:Int)==0))&&(decide (a1>0))) s ?_ ?_)
  ·refine .both (((decide (a0.N>=0))&&(decide (a0.N<4)))&&((a0.Args.length:Int)==0)) (λb=>?_) (λb=>?_)
   ·have hg6:=b
    exact .g hg6 (.q z (.g hg6 (.q z (.s (pkt hg6 z z z) z (.nil (ck 3 s z (bi hg6)))))))
   exact .xx b z (.xx b z (.s (pkf b z z z) z (.nil (ck 3 s z (bj b)))))
  intro W s
  cases h
  exact .qn z (.ret (aa () (rt z rn) z (s.to [])))
 refine .skip (.g (.s (fa f91_0 z z z) z (.s (ld t3 s z z z z z) z (bv h λy1 hy1 h=>.c (.cO s func174 (qc hy1) z z ?_)))))
 intro W s
 refine .q z (.cu 4 56 (y1&&(a0.N==0)) s ?_ ?_)
 ·refine .both (y1) (λb=>?_) (λb=>?_)
  ·have hg7:=b
   exact .g hg7 (.s (fa f91_1 z z z) z (.g hg7 (.s (ld t3 s z z z z z) z (.g hg7 (.q z (.s (pkt hg7 z z z) z (.nil (ck 4 s z (bi hg7)))))))))
  exact .xx b z (.xx b z (.xx b z (.s (pkf b z z z) z (.nil (ck 4 s z (bj b))))))
 intro W s
 refine .q z (.cu 5 62 ((y1&&(a0.N==0))&&((a0.Args.length:Int)==2)) s ?_ ?_)
 ·refine .both (y1&&(a0.N==0)) (λb=>?_) (λb=>?_)
  ·have hg8:=b
   exact .g hg8 (.s (fa f91_2 z z z) z (.g hg8 (.s (ld t89 s z z z z z) z (.g hg8 (.s (aE (s.keep aw) u89 z z) z (.g hg8 (.q z (.s (pkt hg8 z z z) z (.nil (ck 5 s z (bi hg8)))))))))))
  exact .xx b z (.xx b z (.xx b z (.xx b z (.s (pkf b z z z) z (.nil (ck 5 s z (bj b)))))))
 intro W s
 refine .q z (.cu 3 66 (((y1&&(a0.N==0))&&((a0.Args.length:Int)==2))&&(decide (a1>1))) s ?_ ?_)
 ·refine .both ((y1&&(a0.N==0))&&((a0.Args.length:Int)==2)) (λb=>?_) (λb=>?_)
  ·have hg9:=b
   exact .g hg9 (.q z (.g hg9 (.q z (.s (pkt hg9 z z z) z (.nil (ck 3 s z (bi hg9)))))))
  exact .xx b z (.xx b z (.s (pkf b z z z) z (.nil (ck 3 s z (bj b)))))
 intro W s
 refine .q z (bv h λb1 hb1 h=>.cu 8 75 (b1) s ?_ ?_)
 ·refine .both (((y1&&(a0.N==0))&&((a0.Args.length:Int)==2))&&(decide (a1>1))) (λb=>?_) (λb=>?_)
  ·have hg10:=b
   have h:=aK b hb1
   refine .g hg10 (.s (fa f91_2 z z z) z (.g hg10 (.s (ld t89 s z z z z z) z (bv h λx1 hx1 h=>?_))))
   obtain ⟨k1,hd,hck1⟩:=RV.el2 aw hx1
   have hd1:=dP (gQ _) hd
   obtain ⟨k1,rfl,hd2⟩:=a7 aw z hd1
   obtain ⟨k1,rfl,hd3⟩:=a7 aw z hd2
   obtain ⟨v1,k1,rfl,q1,hd4⟩:=bn aw hd3
   obtain rfl:=gU aw hd4
   refine .g hg10 (.s (ixv (s.keep aw) hx1 u89 t91 z z z) z (.g hg10 (.s (lde (hck1 _ s.agree) t91 z z z z z) z (.g hg10 (.q z (.g hg10 (.q z (bv h λy2 hy2 h=>.g hg10 (.c (.cO s func272 (ph hy2 (s.keep (q1 _ aw))) z z ?_))))))))))
   intro W s
   refine .s (pkt hg10 z z z) z ?_
   cases h
   exact .nil (ck 8 s)
  refine .xx b z (.xx b z (.xx b z (.xx b z (.xx b z (.xx b z (.xx b z ?_))))))
  cases aL b hb1
  exact .s (pkf b z z z) z (.nil (ck 8 s))
 intro W s
 refine .q z (bv h λb2 hb2 h=>.cu 8 84 (b2) s ?_ ?_)
 ·refine .both (b1) (λb=>?_) (λb=>?_)
  ·have hg11:=b
   have h:=aK b hb2
   refine .g hg11 (.s (fa f91_2 z z z) z (.g hg11 (.s (ld t89 s z z z z z) z (bv h λx2 hx2 h=>?_))))
   obtain ⟨k2,hd,hck2⟩:=RV.el2 aw hx2
   have hd1:=dP (gQ _) hd
   obtain ⟨k2,rfl,hd2⟩:=a7 aw z hd1
   obtain ⟨k2,rfl,hd3⟩:=a7 aw z hd2
   obtain ⟨v2,k2,rfl,q2,hd4⟩:=bn aw hd3
   obtain rfl:=gU aw hd4
   refine .g hg11 (.s (ixv (s.keep aw) hx2 u89 t91 z z z) z (.g hg11 (.s (lde (hck2 _ s.agree) t91 z z z z z) z (.g hg11 (.q z (.g hg11 (.q z (bv h λy3 hy3 h=>.g hg11 (.c (.cO s func272 (ph hy3 (s.keep (q2 _ aw))) z z ?_))))))))))
   intro W s
   refine .s (pkt hg11 z z z) z ?_
   cases h
   exact .nil (ck 8 s)
  refine .xx b z (.xx b z (.xx b z (.xx b z (.xx b z (.xx b z (.xx b z ?_))))))
  cases aL b hb2
  exact .s (pkf b z z z) z (.nil (ck 8 s))
 intro W s
 obtain rfl:=o9 h
 exact .qn z (.ret (aa () (rt z rn) z (s.to [])))
theorem qo (k:Nat):kQ (jG k):=by
  induction k with
  | zero=>exact by intro a0 a1 aW w r h aw; exact no h
  | succ k ih=>exact uM (k:=k) ih
theorem tQ {k:Nat}:kQ (jG k):=(qo k)
theorem tR {k:Nat} {a0:Expr} {aW:Hd} {w:World} {r:Bool} (h:gY k a0=some r) (aw:RO w aW 91 3 bL a0.Args):CL 254 #[.agg #[vi a0.Op,vi a0.N,sv aW]] w (RU w (.bool r)):=by
 unfold gY at h
 refine ao func254 z z ?_
 have s:=Sep.start w
 refine .g (.c (.box s z z ?_))
 intro g1 W s
 refine .qn z (.g (.s (ld t91 s z z z z z) z (bv h λy1 hy1 h=>.c (.cO s func272 (tQ hy1 (s.keep aw)) z z ?_))))
 intro W s
 obtain rfl:=o9 h
 exact .qn z (.ret (aa () (rt z rn) z (s.to [])))
theorem n9 {a0:Int} {a1:Int} {a2:Bool} {w:World} {r:Bool} (h:dg a0 a1 a2=some r):CL 253 #[vi a0,vi a1,.bool a2] w (RU w (.bool r)):=by
 unfold dg at h
 refine ao func253 z z ?_
 have s:=Sep.start w
 refine .g (.qn z (.g (.q z (.q z (.q z (.cu 11 20 ((a0==0)||((a2&&(decide (a0>0)))&&(decide (a0<a1)))) s ?_ ?_))))))
 ·refine .both (a0==0) (λb=>?_) (λb=>?_)
  ·exact .xx b z (.xx b z (.xu (.xu (.xx b z (.xx b z (.xu (.xu (.xu (.xx b z (.s (pkt b z z z) z (.nil (ck 11 s z (iH b)))))))))))))
  have hg1:=b
  refine .g hg1 (.q z (.g hg1 (.q z (.cu 3 14 (a2&&(decide (a0>0))) s ?_ ?_))))
  ·refine .both (a2) (λb=>?_) (λb=>?_)
   ·have hg2:=b
    exact .g hg2 (.q z (.g hg2 (.q z (.g hg1 (.s (pkt hg2 z z z) z (.nil (ck 3 s z (bi hg2))))))))
   exact .xx b z (.xx b z (.g hg1 (.s (pkf b z z z) z (.nil (ck 3 s z (bj b))))))
  intro W s
  refine .g hg1 (.q z (.cu 4 19 ((a2&&(decide (a0>0)))&&(decide (a0<a1))) s ?_ ?_))
  ·refine .both (a2&&(decide (a0>0))) (λb=>?_) (λb=>?_)
   ·have hg3:=b
    exact .g hg3 (.q z (.g hg3 (.q z (.g hg3 (.q z (.g hg1 (.s (pkt hg3 z z z) z (.nil (ck 4 s z (bi hg3))))))))))
   exact .xx b z (.xx b z (.xx b z (.g hg1 (.s (pkf b z z z) z (.nil (ck 4 s z (bj b)))))))
  intro W s
  exact .s (pkf hg1 z z z) z (.nil (ck 6 s z (gS hg1)))
 intro W s
 cases h
 exact .qn z (.ret (aa () (rt z rn) z (s.to [])))
def rK (w:World) (r:Bool):Env->World->Prop:=Fin Tryz.prog Tryz.f208 No w (λs:Unit=>.bool r) (λs=>[]) .ret
theorem qS {k:Nat} {a0:ae} {a1:Int} {ar:Hd} {aG:Hd} {aH:Hd} {h_0:Hd} {k_0:Nat} {w:World} {r:Bool} (h:jH k a0 a1=some r) (al:RO w ar 91 3 bL a0.Expr.Args) (aN:RO w aG 95 8 aP a0.Body) (aI:RO w aH 95 8 aP a0.Else) (c_0:EC w (Old No w) (adr (sv h_0)) k_0 [vi a0.Kind,vi a0.Var,vi a0.Box,vi a0.Expr.Op,vi a0.Expr.N,sv ar,sv aG,sv aH]):CL 208 #[.pointer (some (bM (adr (sv h_0)) (k_0+0))),vi a1] w (RU w (.bool r)):=by
 unfold jH at h
 refine ao func208 z z ?_
 have s:=Sep.start w
 refine .g (.qn z (.g (.c (.alloc t237 s ?_))))
 intro g1 W s
 refine .nil (bv h λy1 hy1 h=>?_)
 refine .seq (CW.via (R':=λx E' W'=>(match y1 with | .inl o1=>x=.normal/\aq E' [(0,.pointer (some (bM (adr (sv h_0)) (k_0+0)))),(1,vi a1),(5,Pt g1)]/\Sep No w W' [.box g1 237 [.bool o1.variable_,.bool o1.box,.bool o1.expr,.bool o1.body,.bool o1.other]] | .inr o2=>x=.ret/\rK w o2 E' W')) ?_ ?_)
 ·have h:=hy1
  refine .g (.q z (.q z (.s (fe f95_0 z z z) z (.s (lde (c_0 _ s.agree) t3 z z z z z) z (.nil (.block (.g (.q z (.q z (.nil ?_))))))))))
  refine .cs z h ?_ ?_ <;> intro h
  ·refine .region (.s (fa f237_0 z z z) z (.c (.st t4 s z z z ?_)))
   intro W s
   refine .s (fa f237_2 z z z) z (.c (.st t4 s z z z ?_))
   intro W s
   refine .nil ?_
   cases h
   exact ⟨z,sb z,s.tk [0]⟩
  refine .g (.q z (.q z (.nil ?_)))
  refine .cs z h ?_ ?_ <;> intro h
  ·refine .region (.s (fa f237_2 z z z) z (.c (.st t4 s z z z ?_)))
   intro W s
   refine .s (fa f237_3 z z z) z (.c (.st t4 s z z z ?_))
   intro W s
   refine .s (fa f237_4 z z z) z (.c (.st t4 s z z z ?_))
   intro W s
   refine .nil ?_
   cases h
   exact ⟨z,sb z,s.tk [0]⟩
  refine .g (.q z (.q z (.nil ?_)))
  refine .cs z h ?_ ?_ <;> intro h
  ·refine .region (.s (fa f237_2 z z z) z (.c (.st t4 s z z z ?_)))
   intro W s
   refine .s (fa f237_3 z z z) z (.c (.st t4 s z z z ?_))
   intro W s
   refine .nil ?_
   cases h
   exact ⟨z,sb z,s.tk [0]⟩
  refine .g (.q z (.q z (.nil ?_)))
  refine .cs z h ?_ ?_ <;> intro h
  ·refine .region (.s (fa f237_1 z z z) z (.c (.st t4 s z z z ?_)))
   intro W s
   refine .s (fa f237_2 z z z) z (.c (.st t4 s z z z ?_))
   intro W s
   refine .nil ?_
   cases h
   exact ⟨z,sb z,s.tk [0]⟩
  refine .g (.q z (.q z (.nil ?_)))
  refine .cs z h ?_ ?_ <;> intro h
  ·refine .region (.s (fa f237_1 z z z) z (.c (.st t4 s z z z ?_)))
   intro W s
   refine .s (fa f237_0 z z z) z (.c (.st t4 s z z z ?_))
   intro W s
   refine .nil ?_
   cases h
   exact ⟨z,sb z,s.tk [0]⟩
  refine .g (.q z (.q z (.nil ?_)))
  refine .cs z h ?_ ?_ <;> intro h
  ·refine .region (.s (fa f237_2 z z z) z (.c (.st t4 s z z z ?_)))
   intro W s
   refine .nil ?_
   cases h
   exact ⟨z,sb z,s.tk [0]⟩
  refine .g (.q z (.q z (.nil ?_)))
  refine .cs z h ?_ ?_ <;> intro h
  ·refine .skip ?_
   cases h
   exact ⟨z,sb z,s.tk [0]⟩
  refine .g (.qn z (.ret ?_))
  cases h
  exact ⟨z,aa (vs:=[_]) () (rt z rn) z (s.to [])⟩
 intro x E W hJ
 rcases y1 with o3 | o4
 ·have h:=bW h
  obtain ⟨rfl,hE,s⟩:=hJ
  refine ⟨_,hE.sub,?_⟩
  refine .g (.qn z (.seq (.seq (bv h λy2 hy2 h=>bv h λb1 hb1 h=>?_))))
  refine .via (R':=λx E' W'=>x=.normal/\aq E' [(0,.pointer (some (bM (adr (sv h_0)) (k_0+0)))),(5,Pt g1),(69,.bool (b1||(o3.box&&(decide (a0.Box>=a1)))))]/\Sep No w W' [.box g1 237 [.bool o3.variable_,.bool o3.box,.bool o3.expr,.bool o3.body,.bool o3.other]]) ?_ ?_
  ·refine .rk 33 s [0] T.mix ?_
   intro W s
   have t:=s.to [0]
   refine .tp' 0 z z t (.tp' 1 z z t (.tp' 2 z z t (.ts' 3 z (λW t=>fe f95_1 z z z) t z (.ts' 4 z (λW t=>lde (c_0 _ t.agree) t3 z z z z z) t z (.ts' 5 z (λW t=>fa f237_0 z z z) t z (.ts' 6 z (λW t=>ld t4 t z z z z z) t z (.by1 7 z (.callv (vs:=[vi a0.Var,vi 4,.bool o3.variable_]) (cap:=#[]) s ⟨_,func253,z,by kernel_rfl⟩ (n9 hy2) z z z ?_))))))))
   rintro ⟨⟩ W s
   refine s.an [0] λt=>.tp' 8 z z t (.tp' 9 z z t (.both (!y2) (λb=>?_) (λb=>?_)))
   ·refine .off 10 z b t (.off 11 z b t (.off 12 z b t (.off 13 z b t (.off 14 z b t (.off 15 z b t (.off 16 z b t (.off 17 z b t (.off 18 z b t (.off 19 z b t (.ts' 20 z (λW t=>pkt b z z z) t z (.eqv 57 z (nk (aK b hb1)) (.tp' 21 z z t (.both (b1) (λb=>?_) (λb=>?_))))) (by kernel_rfl) z z) (by kernel_rfl) z z) (by kernel_rfl) z z) (by kernel_rfl) z z) (by kernel_rfl) z z) (by kernel_rfl) z z) (by kernel_rfl) z z) (by kernel_rfl) z z) (by kernel_rfl) z z) (by kernel_rfl) z z
    ·exact .off 22 z b t (.off 23 z b t (.off 24 z b t (.offu 25 z t (.offu 26 z t (.offu 27 z t (.offu 28 z t (.offu 29 z t (.offu 30 z t (.off 31 z b t (.ts' 32 z (λW t=>pkt b z z z) t z (.eqv 69 z (congrArg Value.bool (show true=(b1||(o3.box&&(decide (a0.Box>=a1)))) from iH b)) (.done (⟨z,sb z,s.tk [0]⟩)))) (by kernel_rfl) z z) (by kernel_rfl) z z) (by kernel_rfl) z z) (by kernel_rfl) z z) (by kernel_rfl) z z) (by kernel_rfl) z z) (by kernel_rfl) z z) (by kernel_rfl) z z) (by kernel_rfl) z z) (by kernel_rfl) z z
    have hg2:=b
    refine .t1g 22 z hg2 (λW t=>fa f237_1 z z z) t (.t1g 23 z hg2 (λW t=>ld t4 t z z z z z) t (.t1g 24 z hg2 (λW t=>pr z) t (.both (o3.box) (λb=>?_) (λb=>?_)) (by kernel_rfl) z z) (by kernel_rfl) z z) (by kernel_rfl) z z
    ·have hg3:=b
     exact .t1g 25 z hg3 (λW t=>pr z) t (.t1g 26 z hg3 (λW t=>pr z) t (.t1g 27 z hg3 (λW t=>fe f95_2 z z z) t (.t1g 28 z hg3 (λW t=>lde (c_0 _ t.agree) t3 z z z z z) t (.t1g 29 z hg3 (λW t=>pr z) t (.t1g 30 z hg3 (λW t=>pr z) t (.t1g 31 z hg2 (λW t=>pkt hg3 z z z) t (.eqv 68 z (congrArg Value.bool (bi hg3)) (.ts' 32 z (λW t=>pkf hg2 z z z) t z (.eqv 69 z (congrArg Value.bool (gS hg2)) (.done (⟨z,sb z,s.tk [0]⟩))))) (by kernel_rfl) z z) (by kernel_rfl) z z) (by kernel_rfl) z z) (by kernel_rfl) z z) (by kernel_rfl) z z) (by kernel_rfl) z z) (by kernel_rfl) z z
    exact .off 25 z b t (.off 26 z b t (.off 27 z b t (.off 28 z b t (.off 29 z b t (.off 30 z b t (.t1g 31 z hg2 (λW t=>pkf b z z z) t (.eqv 68 z (congrArg Value.bool (show false=(o3.box&&(decide (a0.Box>=a1))) from bj b)) (.ts' 32 z (λW t=>pkf hg2 z z z) t z (.eqv 69 z (congrArg Value.bool (gS hg2)) (.done (⟨z,sb z,s.tk [0]⟩))))) (by kernel_rfl) z z) (by kernel_rfl) z z) (by kernel_rfl) z z) (by kernel_rfl) z z) (by kernel_rfl) z z) (by kernel_rfl) z z) (by kernel_rfl) z z
   have hg1:=b
   have h_b1:=aL b hb1
   refine .t1g 10 z hg1 (λW t=>pr z) t (.t1g 11 z hg1 (λW t=>pr z) t (.t1g 12 z hg1 (λW t=>pr z) t (.t1g 13 z hg1 (λW t=>fe f95_2 z z z) t (.t1g 14 z hg1 (λW t=>lde (c_0 _ t.agree) t3 z z z z z) t (.t1g 15 z hg1 (λW t=>pr z) t (.t1g 16 z hg1 (λW t=>fa f237_1 z z z) t (.t1g 17 z hg1 (λW t=>ld t4 t z z z z z) t (bv h_b1 λy3 hy3 h_b1=>.by1 18 z (.gd hg1 (.callv (vs:=[vi a0.Box,vi a1,.bool o3.box]) (cap:=#[]) s ⟨_,func253,z,by kernel_rfl⟩ (n9 hy3) z z z ?_))) (by kernel_rfl) z z) (by kernel_rfl) z z) (by kernel_rfl) z z) (by kernel_rfl) z z) (by kernel_rfl) z z) (by kernel_rfl) z z) (by kernel_rfl) z z) (by kernel_rfl) z z
   rintro ⟨⟩ W s
   refine s.an [0] λt=>.t1g 19 z hg1 (λW t=>pr z) t (.ts' 20 z (λW t=>pkf hg1 z z z) t z (.eqv 57 z (nk h_b1) (.tp' 21 z z t (.both (b1) (λb=>?_) (λb=>?_))))) (by kernel_rfl) z z
   ·exact .off 22 z b t (.off 23 z b t (.off 24 z b t (.offu 25 z t (.offu 26 z t (.offu 27 z t (.offu 28 z t (.offu 29 z t (.offu 30 z t (.off 31 z b t (.ts' 32 z (λW t=>pkt b z z z) t z (.eqv 69 z (congrArg Value.bool (show true=(b1||(o3.box&&(decide (a0.Box>=a1)))) from iH b)) (.done (⟨z,sb z,s.tk [0]⟩)))) (by kernel_rfl) z z) (by kernel_rfl) z z) (by kernel_rfl) z z) (by kernel_rfl) z z) (by kernel_rfl) z z) (by kernel_rfl) z z) (by kernel_rfl) z z) (by kernel_rfl) z z) (by kernel_rfl) z z) (by kernel_rfl) z z
   have hg4:=b
   refine .t1g 22 z hg4 (λW t=>fa f237_1 z z z) t (.t1g 23 z hg4 (λW t=>ld t4 t z z z z z) t (.t1g 24 z hg4 (λW t=>pr z) t (.both (o3.box) (λb=>?_) (λb=>?_)) (by kernel_rfl) z z) (by kernel_rfl) z z) (by kernel_rfl) z z
   ·have hg5:=b
    exact .t1g 25 z hg5 (λW t=>pr z) t (.t1g 26 z hg5 (λW t=>pr z) t (.t1g 27 z hg5 (λW t=>fe f95_2 z z z) t (.t1g 28 z hg5 (λW t=>lde (c_0 _ t.agree) t3 z z z z z) t (.t1g 29 z hg5 (λW t=>pr z) t (.t1g 30 z hg5 (λW t=>pr z) t (.t1g 31 z hg4 (λW t=>pkt hg5 z z z) t (.eqv 68 z (congrArg Value.bool (bi hg5)) (.ts' 32 z (λW t=>pkf hg4 z z z) t z (.eqv 69 z (congrArg Value.bool (gS hg4)) (.done (⟨z,sb z,s.tk [0]⟩))))) (by kernel_rfl) z z) (by kernel_rfl) z z) (by kernel_rfl) z z) (by kernel_rfl) z z) (by kernel_rfl) z z) (by kernel_rfl) z z) (by kernel_rfl) z z
   exact .off 25 z b t (.off 26 z b t (.off 27 z b t (.off 28 z b t (.off 29 z b t (.off 30 z b t (.t1g 31 z hg4 (λW t=>pkf b z z z) t (.eqv 68 z (congrArg Value.bool (show false=(o3.box&&(decide (a0.Box>=a1))) from bj b)) (.ts' 32 z (λW t=>pkf hg4 z z z) t z (.eqv 69 z (congrArg Value.bool (gS hg4)) (.done (⟨z,sb z,s.tk [0]⟩))))) (by kernel_rfl) z z) (by kernel_rfl) z z) (by kernel_rfl) z z) (by kernel_rfl) z z) (by kernel_rfl) z z) (by kernel_rfl) z z) (by kernel_rfl) z z
  intro x E W hJ
  obtain ⟨rfl,hE,s⟩:=hJ
  refine ⟨_,hE.sub,?_⟩
  refine .cs z h ?_ ?_ <;> intro h
  ·obtain rfl:=o9 h
   exact .g (.qn z (.ret (aa () (rt z rn) z (s.to []))))
  refine .skip (.seq (.g (.s (fa f237_2 z z z) z (.s (ld t4 s z z z z z) z (.q z (bv h λb2 hb2 h=>.cu 7 79 (b2) s ?_ ?_))))))
  ·refine .both (o3.expr) (λb=>?_) (λb=>?_)
   ·have hg6:=b
    have h:=aK b hb2
    refine .g hg6 (.q z (.g hg6 (.q z (.g hg6 (.s (fe f95_3 z z z) z (.g hg6 (.s (lde (c_0 _ s.agree) t91 z z z z z) z (bv h λy4 hy4 h=>.g hg6 (.c (.cO s func254 (tR hy4 (s.keep al)) z z ?_))))))))))
    intro W s
    refine .g hg6 (.q z (.s (pkt hg6 z z z) z ?_))
    cases h
    exact .nil (ck 7 s)
   refine .xx b z (.xx b z (.xx b z (.xx b z (.xx b z (.xx b z ?_)))))
   cases aL b hb2
   exact .s (pkf b z z z) z (.nil (ck 7 s))
  intro W s
  refine .q z (.cu 29 109 (b2||((!o3.expr)&&(((a0.Expr.Op !=0)||(a0.Expr.N !=0))||(decide ((a0.Expr.Args.length:Int)>0))))) s ?_ ?_)
  ·refine .both (b2) (λb=>?_) (λb=>?_)
   ·exact .xx b z (.xx b z (.xx b z (.xx b z (.xu (.xu (.xu (.xu (.xu (.xu (.xu (.xu (.xu (.xu (.xu (.xu (.xu (.xu (.xu (.xu (.xu (.xu (.xu (.xu (.xu (.xu (.xu (.xx b z (.s (pkt b z z z) z (.nil (ck 29 s z (iH b)))))))))))))))))))))))))))))))
   have hg7:=b
   refine .g hg7 (.s (fa f237_2 z z z) z (.g hg7 (.s (ld t4 s z z z z z) z (.g hg7 (.q z (.g hg7 (.q z (.cu 24 108 ((!o3.expr)&&(((a0.Expr.Op !=0)||(a0.Expr.N !=0))||(decide ((a0.Expr.Args.length:Int)>0)))) s ?_ ?_))))))))
   ·refine .both (!o3.expr) (λb=>?_) (λb=>?_)
    ·have hg8:=b
     refine .g hg8 (.q z (.g hg8 (.q z (.g hg8 (.s (fe f95_3 z z z) z (.g hg8 (.s (fe f91_0 z z z) z (.g hg8 (.s (lde (c_0 _ s.agree) t3 z z z z z) z (.g hg8 (.q z (.g hg8 (.q z (.cu 7 98 ((a0.Expr.Op !=0)||(a0.Expr.N !=0)) s ?_ ?_))))))))))))))
     ·refine .both (a0.Expr.Op !=0) (λb=>?_) (λb=>?_)
      ·exact .xx b z (.xx b z (.xx b z (.xx b z (.xx b z (.xx b z (.g hg8 (.s (pkt b z z z) z (.nil (ck 7 s z (iH b))))))))))
      have hg9:=b
      exact .g hg9 (.q z (.g hg9 (.q z (.g hg9 (.s (fe f95_3 z z z) z (.g hg9 (.s (fe f91_1 z z z) z (.g hg9 (.s (lde (c_0 _ s.agree) t3 z z z z z) z (.g hg9 (.q z (.g hg8 (.s (pkf hg9 z z z) z (.nil (ck 7 s z (gS hg9))))))))))))))))
     intro W s
     refine .g hg8 (.q z (.cu 8 107 (((a0.Expr.Op !=0)||(a0.Expr.N !=0))||(decide ((a0.Expr.Args.length:Int)>0))) s ?_ ?_))
     ·refine .both ((a0.Expr.Op !=0)||(a0.Expr.N !=0)) (λb=>?_) (λb=>?_)
      ·exact .xx b z (.xx b z (.xx b z (.xx b z (.xx b z (.xx b z (.xx b z (.g hg8 (.s (pkt b z z z) z (.nil (ck 8 s z (iH b)))))))))))
      have hg10:=b
      exact .g hg10 (.q z (.g hg10 (.q z (.g hg10 (.s (fe f95_3 z z z) z (.g hg10 (.s (fe f91_2 z z z) z (.g hg10 (.s (lde (c_0 _ s.agree) t89 z z z z z) z (.g hg10 (.s (aE (s.keep al) u89 z z) z (.g hg10 (.q z (.g hg8 (.s (pkf hg10 z z z) z (.nil (ck 8 s z (gS hg10))))))))))))))))))
     intro W s
     exact .g hg7 (.s (pkt hg8 z z z) z (.nil (ck 11 s z (bi hg8))))
    exact .xx b z (.xx b z (.xx b z (.xx b z (.xx b z (.xx b z (.xx b z (.xu (.xu (.xu (.xu (.xu (.xu (.xx b z (.xx b z (.xu (.xu (.xu (.xu (.xu (.xu (.xu (.xx b z (.g hg7 (.s (pkf b z z z) z (.nil (ck 24 s z (bj b)))))))))))))))))))))))))))
   intro W s
   exact .s (pkf hg7 z z z) z (.nil (ck 6 s z (gS hg7)))
  intro W s
  refine .nil ?_
  refine .cs z h ?_ ?_ <;> intro h
  ·obtain rfl:=o9 h
   exact .g (.qn z (.ret (aa () (rt z rn) z (s.to []))))
  refine .skip (.g (.s (fa f237_3 z z z) z (.s (ld t4 s z z z z z) z (.q z (.cu 7 119 (o3.body||((a0.Body.length:Int)==0)) s ?_ ?_)))))
  ·refine .both (o3.body) (λb=>?_) (λb=>?_)
   ·exact .xx b z (.xx b z (.xx b z (.xx b z (.xx b z (.xx b z (.s (pkt b z z z) z (.nil (ck 7 s z (iH b)))))))))
   have hg11:=b
   exact .g hg11 (.q z (.g hg11 (.q z (.g hg11 (.s (fe f95_4 z z z) z (.g hg11 (.s (lde (c_0 _ s.agree) t93 z z z z z) z (.g hg11 (.s (aE (s.keep aN) u93 z z) z (.g hg11 (.q z (.s (pkf hg11 z z z) z (.nil (ck 7 s z (gS hg11)))))))))))))))
  intro W s
  refine .q z (.cu 11 131 ((o3.body||((a0.Body.length:Int)==0))&&(o3.other||((a0.Else.length:Int)==0))) s ?_ ?_)
  ·refine .both (o3.body||((a0.Body.length:Int)==0)) (λb=>?_) (λb=>?_)
   ·have hg12:=b
    refine .g hg12 (.s (fa f237_4 z z z) z (.g hg12 (.s (ld t4 s z z z z z) z (.g hg12 (.q z (.cu 7 130 (o3.other||((a0.Else.length:Int)==0)) s ?_ ?_))))))
    ·refine .both (o3.other) (λb=>?_) (λb=>?_)
     ·exact .xx b z (.xx b z (.xx b z (.xx b z (.xx b z (.xx b z (.g hg12 (.s (pkt b z z z) z (.nil (ck 7 s z (iH b))))))))))
     have hg13:=b
     exact .g hg13 (.q z (.g hg13 (.q z (.g hg13 (.s (fe f95_5 z z z) z (.g hg13 (.s (lde (c_0 _ s.agree) t93 z z z z z) z (.g hg13 (.s (aE (s.keep aI) u93 z z) z (.g hg13 (.q z (.g hg12 (.s (pkf hg13 z z z) z (.nil (ck 7 s z (gS hg13))))))))))))))))
    intro W s
    exact .s (pkt hg12 z z z) z (.nil (ck 5 s z (bi hg12)))
   exact .xx b z (.xx b z (.xx b z (.xu (.xu (.xu (.xu (.xu (.xu (.xx b z (.s (pkf b z z z) z (.nil (ck 11 s z (bj b)))))))))))))
  intro W s
  cases h
  exact .qn z (.ret (aa () (rt z rn) z (s.to [])))
 have h:=bX h
 obtain ⟨rfl,hF⟩:=hJ
 refine ⟨_,λ_ _ h=>h,?_⟩
 cases h
 exact hF
def jA (F:List ae->Int->Int->Int->Option (Bool×Int)):Prop:=∀ {a0:List ae} {a1:Int} {a2:Int} {a3:Int} {v_0:Hd} {g_3:Nat} {S:Nat->Prop} {w:World} {r:Bool×Int} (h:F a0 a1 a2 a3=some r) (q_0:RV w (Old S w) (sv v_0) 95 8 aP a0) (hO:bu w [.box g_3 3 [vi a3]] S) (hlt:∀ b,S b->b<w.heap.size) , CL 162 #[sv v_0,vi a1,vi a2,Pt g_3] w (Ret S w (λs:Unit=>.bool r.1) (λs=>[.box g_3 3 [vi r.2]]))
def pi (w:World) (S:Nat->Prop) (v_0:Hd) (g_3:Nat) (a0:List ae) (a1:Int) (a2:Int) (a3:Int) (r:Bool×Int):Env->World->Prop:=Fin Tryz.prog Tryz.f162 S w (λs:Unit=>.bool r.1) (λs=>[.box g_3 3 [vi r.2]]) .ret
theorem tS {k:Nat} {cR:List ae->Int->Int->Int->Option (Bool×Int)} (oS:jA cR):jA (f6 k cR):=by
 intro a0 a1 a2 a3 v_0 g_3 S w r h q_0 hO hlt
 unfold f6 at h
 refine ao func162 z z ?_
 have s:=Sep.sm hO hlt
 refine .g (.qn z (.g (.q z (.q z (.s (ld t3 s z z z z z) z (.q z (.s (aE (s.keep q_0) u93 z z) z (.q z (.q z (.c (.st t3 s z z z ?_)))))))))))
 intro W s
 refine .nil (.seq (.g (.q z (.q z (.s (ld t3 s z z z z z) z (.q z (.nil ?_)))))))
 refine .cs z h ?_ ?_ <;> intro h
 ·cases h
  exact .g (.qn z (.ret (aa () (rt z rn) z (s.tk [0]))))
 refine .skip (.seq (.g (.q z (.s (aE (s.keep q_0) u93 z z) z (.qn z (.block (bv h λy1 hy1 h=>?_)))))))
 refine .via (.iter (λs1 E' W'=>aq E' [(0,(sv v_0)),(1,vi a1),(2,vi a2),(3,Pt g_3),(23,vi (a0.length:Int)),(24,vi s1.1)]/\Sep S w W' [.box g_3 3 [vi s1.2]]) (λy2 x E' W'=>(match y2 with | .inl o1=>x=.ret/\pi w S v_0 g_3 a0 a1 a2 a3 o1 E' W' | .inr o2=>x=.exit 0/\aq E' []/\Sep S w W' [.box g_3 3 [vi o2]])) hy1 ⟨sb rfl,s.tk [0]⟩ ?_) ?_
 ·intro s1 y3 E W h hI
  obtain ⟨hE,s⟩:=hI
  refine CW.sub hE ?_
  unfold iM at h
  refine .g (.qn z (.seq ?_))
  refine .cs z h ?_ ?_ <;> intro h
  ·refine .skip (bv h λy4 hy4 h=>?_)
   refine .seq (CW.via (R':=λx E' W'=>(match y4 with | .inl o3=>x=.normal/\aq E' [(0,(sv v_0)),(1,vi a1),(2,vi a2),(3,Pt g_3),(23,vi (a0.length:Int)),(24,vi s1.1)]/\Sep S w W' [.box g_3 3 [vi o3]] | .inr o4=>x=.ret/\pi w S v_0 g_3 a0 a1 a2 a3 o4 E' W')) ?_ ?_)
   ·have h:=hy4
    refine .block (.g (.q z (.qn z (.g (.q z (.q z (bv h λx1 hx1 h=>?_)))))))
    obtain ⟨k1,hd,hck1⟩:=RV.el2 q_0 hx1
    have hd1:=dP (pb _) hd
    obtain ⟨k1,rfl,hd2⟩:=a7 q_0 z hd1
    obtain ⟨k1,rfl,hd3⟩:=a7 q_0 z hd2
    obtain ⟨k1,rfl,hd4⟩:=a7 q_0 z hd3
    have hd5:=dP (gQ _) hd4
    obtain ⟨k1,rfl,hd6⟩:=a7 q_0 z hd5
    obtain ⟨k1,rfl,hd7⟩:=a7 q_0 z hd6
    obtain ⟨v1,k1,rfl,q1,hd8⟩:=bn q_0 hd7
    obtain ⟨v2,k1,rfl,q2,hd9⟩:=bn q_0 hd8
    obtain ⟨v3,k1,rfl,q3,hd10⟩:=bn q_0 hd9
    obtain rfl:=gU q_0 hd10
    refine .s (ixv (s.keep q_0) hx1 u93 t95 z z z) z (.qn z (.seq (.g (.q z (.q z (bv h λy5 hy5 h=>.c (.cO s func208 (qS hy5 (s.keep (q1 _ q_0)) (s.keep (q2 _ q_0)) (s.keep (q3 _ q_0)) (s.keepE hck1)) z z ?_)))))))
    intro W s
    refine .q z (.q z (.cu 3 37 ((!y5)||(decide (a2>3))) s ?_ ?_))
    ·refine .both (!y5) (λb=>?_) (λb=>?_)
     ·exact .xx b z (.xx b z (.s (pkt b z z z) z (.nil (ck 3 s z (iH b)))))
     have hg1:=b
     exact .g hg1 (.q z (.g hg1 (.q z (.s (pkf hg1 z z z) z (.nil (ck 3 s z (gS hg1)))))))
    intro W s
    refine .nil ?_
    refine .cs z h ?_ ?_ <;> intro h
    ·refine .g (.qn z (.ret ?_))
     cases h
     exact ⟨z,aa (vs:=[_]) () (rt z rn) z (s.tk [0])⟩
    refine .skip (.seq (.g (.q z (.q z (.s (fe f95_0 z z z) z (.s (lde (hck1 _ s.agree) t3 z z z z z) z (.q z (.q z (.cu 6 49 ((x1.Kind !=2)&&(x1.Kind !=3)) s ?_ ?_)))))))))
    ·refine .both (x1.Kind !=2) (λb=>?_) (λb=>?_)
     ·have hg2:=b
      exact .g hg2 (.q z (.g hg2 (.q z (.g hg2 (.s (fe f95_0 z z z) z (.g hg2 (.s (lde (hck1 _ s.agree) t3 z z z z z) z (.g hg2 (.q z (.s (pkt hg2 z z z) z (.nil (ck 6 s z (bi hg2)))))))))))))
     exact .xx b z (.xx b z (.xx b z (.xx b z (.xx b z (.s (pkf b z z z) z (.nil (ck 6 s z (bj b))))))))
    intro W s
    refine .nil ?_
    refine .cs z h ?_ ?_ <;> intro h
    ·refine .exit ?_
     cases h
     exact ⟨z,sb z,s.tk [0]⟩
    refine .skip (.g (.q z (.q z (.q z (bv h λb1 hb1 h=>.chunkL 11 63 (b1.1) (M:=S) (w0:=w) (L:=[.box g_3 3 [vi b1.2]]) ?_ ?_)))))
    ·refine .both (decide (a2>=3)) (λb=>?_) (λb=>?_)
     ·refine .xx b z (.xx b z (.xx b z (.xx b z (.xx b z (.xx b z (.xx b z (.xx b z (.xx b z (.xx b z ?_)))))))))
      cases aK b hb1
      exact .s (pkt b z z z) z (.nil (ck 11 (s.to [0])))
     have hg3:=b
     have h:=aL b hb1
     refine .g hg3 (.q z (.g hg3 (.q z (.g hg3 (.s (fe f95_4 z z z) z (.g hg3 (.s (lde (hck1 _ s.agree) t93 z z z z z) z (.g hg3 (.q z (.g hg3 (.q z (.g hg3 (.q z (.g hg3 (.q z (bv h λy6 hy6 h=>.g hg3 (.c (.cS (L0:=[.box g_3 3 [vi s1.2]]) s func162 (λS h1 h2 h3=>(oS hy6 (s.ks (q2 _ q_0) h1) h2 (zz h1))) z z ?_))))))))))))))))))
     rintro ⟨⟩ W s
     refine .g hg3 (.q z (.s (pkf hg3 z z z) z ?_))
     cases h
     exact .nil (ck 11 (s.to [0]))
    intro W s
    refine .q z (bv h λb2 hb2 h=>.chunkL 11 75 (b2.1) (M:=S) (w0:=w) (L:=[.box g_3 3 [vi b2.2]]) ?_ ?_)
    ·refine .both (b1.1) (λb=>?_) (λb=>?_)
     ·refine .xx b z (.xx b z (.xx b z (.xx b z (.xx b z (.xx b z (.xx b z (.xx b z (.xx b z (.xx b z ?_)))))))))
      cases aK b hb2
      exact .s (pkt b z z z) z (.nil (ck 11 (s.to [0])))
     have hg4:=b
     have h:=aL b hb2
     refine .g hg4 (.q z (.g hg4 (.q z (.g hg4 (.s (fe f95_5 z z z) z (.g hg4 (.s (lde (hck1 _ s.agree) t93 z z z z z) z (.g hg4 (.q z (.g hg4 (.q z (.g hg4 (.q z (.g hg4 (.q z (bv h λy7 hy7 h=>.g hg4 (.c (.cS (L0:=[.box g_3 3 [vi b1.2]]) s func162 (λS h1 h2 h3=>(oS hy7 (s.ks (q3 _ q_0) h1) h2 (zz h1))) z z ?_))))))))))))))))))
     rintro ⟨⟩ W s
     refine .g hg4 (.q z (.s (pkf hg4 z z z) z ?_))
     cases h
     exact .nil (ck 11 (s.to [0]))
    intro W s
    refine .nil ?_
    refine .cs z h ?_ ?_ <;> intro h
    ·refine .g (.qn z (.ret ?_))
     cases h
     exact ⟨z,aa (vs:=[_]) () (rt z rn) z (s.tk [0])⟩
    refine .skip ?_
    cases h
    exact ⟨z,sb z,s.tk [0]⟩
   intro x E W hJ
   rcases y4 with o5 | o6
   ·have h:=bW h
    obtain ⟨rfl,hE,s⟩:=hJ
    refine ⟨_,hE.sub,?_⟩
    refine .region (.q z (.q z (.nil ?_)))
    cases h
    exact ⟨z,sb z,s.tk [0]⟩
   have h:=bX h
   obtain ⟨rfl,hF⟩:=hJ
   refine ⟨_,λ_ _ h=>h,?_⟩
   cases h
   exact ⟨by simp,z,hF⟩
  refine .exit ?_
  cases h
  exact ⟨by simp,z,sb z,s.tk [0]⟩
 intro x E W hJ
 rcases y1 with o7 | o8
 ·have h:=bW h
  obtain ⟨rfl,hF⟩:=hJ
  refine ⟨_,λ_ _ h=>h,?_⟩
  cases h
  exact hF
 have h:=bX h
 obtain ⟨rfl,hE,s⟩:=hJ
 refine ⟨_,hE.sub,?_⟩
 cases h
 exact .g (.qn z (.ret (aa () (rt z rn) z (s.tk [0]))))
theorem pX (k:Nat):jA (fO k):=by
  induction k with
  | zero=>exact by intro a0 a1 a2 a3 v_0 g_3 S w r h q_0 hO hlt; exact no h
  | succ k ih=>exact tS (k:=k) ih
theorem s5 {k:Nat}:jA (fO k):=(pX k)
theorem s6 {k:Nat} {a0:List ae} {a1:Int} {v_0:Hd} {w:World} {r:Bool} (h:i6 k a0 a1=some r) (q_0:RO w v_0 95 8 aP a0):CL 119 #[sv v_0,vi a1] w (RU w (.bool r)):=by
 unfold i6 at h
 refine ao func119 z z ?_
 have s:=Sep.start w
 refine .g (.qn z (.g (.c (.alloc t3 s ?_))))
 intro g1 W s
 refine .c (.st t3 s z z z ?_)
 intro W s
 refine .nil (.g (.q z (.q z (bv h λy1 hy1 h=>.c (.cS (L0:=[.box g1 3 [vi 0]]) s func162 (λS h1 h2 h3=>(s5 hy1 (s.ks q_0 h1) h2 (zz h1))) z z ?_)))))
 rintro ⟨⟩ W s
 cases h
 exact .qn z (.ret (aa () (rt z rn) z (s.to [])))
def rL (w:World) (r:Bool):Env->World->Prop:=Fin Tryz.prog Tryz.f64 No w (λs:Unit=>.bool r) (λs=>[]) .ret
end
noncomputable section
theorem qT {k:Nat} {a0:aF} {aA:Hd} {az:Hd} {w:World} {r:Bool} (h:f9 k a0=some r) (bh:RO w aA 3 1 (D.int .i64) a0.Rooms) (aB:RO w az 93 1 (λ(l:List ae)=>D.row 95 8 (l.map aP)) a0.Tasks):CL 64 #[.agg #[sv aA,sv az]] w (RU w (.bool r)):=by
 unfold f9 at h
 refine ao func64 z z ?_
 have s:=Sep.start w
 refine .g (.c (.box s z z ?_))
 intro g1 W s
 refine .qn z (.seq (.g (.s (fa f26_0 z z z) z (.s (ld t23 s z z z z z) z (bv h λy1 hy1 h=>.c (.cO s func53 (sZ hy1 (s.keep bh)) z z ?_))))))
 intro W s
 refine .q z (.q z (.cu 5 14 ((!y1)||(decide ((a0.Tasks.length:Int)<1))) s ?_ ?_))
 ·refine .both (!y1) (λb=>?_) (λb=>?_)
  ·exact .xx b z (.xx b z (.xx b z (.xx b z (.s (pkt b z z z) z (.nil (ck 5 s z (iH b)))))))
  have hg1:=b
  exact .g hg1 (.s (fa f26_1 z z z) z (.g hg1 (.s (ld t24 s z z z z z) z (.g hg1 (.s (aE (s.keep aB) u24 z z) z (.g hg1 (.q z (.s (pkf hg1 z z z) z (.nil (ck 5 s z (gS hg1)))))))))))
 intro W s
 refine .q z (.cu 5 20 (((!y1)||(decide ((a0.Tasks.length:Int)<1)))||(decide ((a0.Tasks.length:Int)>3))) s ?_ ?_)
 ·refine .both ((!y1)||(decide ((a0.Tasks.length:Int)<1))) (λb=>?_) (λb=>?_)
  ·exact .xx b z (.xx b z (.xx b z (.xx b z (.s (pkt b z z z) z (.nil (ck 5 s z (iH b)))))))
  have hg2:=b
  exact .g hg2 (.s (fa f26_1 z z z) z (.g hg2 (.s (ld t24 s z z z z z) z (.g hg2 (.s (aE (s.keep aB) u24 z z) z (.g hg2 (.q z (.s (pkf hg2 z z z) z (.nil (ck 5 s z (gS hg2)))))))))))
 intro W s
 refine .nil ?_
 refine .cs z h ?_ ?_ <;> intro h
 ·obtain rfl:=o9 h
  exact .g (.qn z (.ret (aa () (rt z rn) z (s.to []))))
 refine .skip (.seq (.g (.s (fa f26_1 z z z) z (.s (ld t24 s z z z z z) z (.s (aE (s.keep aB) u24 z z) z (.qn z (.block (bv h λy2 hy2 h=>?_))))))))
 refine .via (.iter (λs1 E' W'=>aq E' [(1,Pt g1),(22,(sv az)),(23,vi (a0.Tasks.length:Int)),(24,vi s1)]/\Sep No w W' [.box g1 26 [sv aA,sv az]]) (λy3 x E' W'=>(match y3 with | .inl o1=>x=.ret/\rL w o1 E' W' | .inr o2=>x=.exit 0/\aq E' []/\Sep No w W' [.box g1 26 [sv aA,sv az]])) hy2 ⟨sb rfl,s.tk [0]⟩ ?_) ?_
 ·intro s1 y4 E W h hI
  obtain ⟨hE,s⟩:=hI
  refine CW.sub hE ?_
  unfold f7 at h
  refine .g (.qn z (.seq ?_))
  refine .cs z h ?_ ?_ <;> intro h
  ·refine .skip (.seq (.block (.g (bv h λx1 hx1 h=>?_))))
   obtain ⟨k1,hd,hck1⟩:=RV.el2 aB hx1
   obtain ⟨v1,k1,rfl,q1,hd1⟩:=bn aB hd
   obtain rfl:=gU aB hd1
   refine .s (ixv (s.keep aB) hx1 u24 t93 z z z) z (.s (lde (hck1 _ s.agree) t93 z z z z z) z (.qn z (.g (.q z (.s (fa f26_0 z z z) z (.s (ld t23 s z z z z z) z (.s (aE (s.keep bh) u23 z z) z (bv h λy5 hy5 h=>.c (.cO s func119 (s6 hy5 (s.keep (q1 _ aB))) z z ?_)))))))))
   intro W s
   refine .q z (.nil ?_)
   refine .cs z h ?_ ?_ <;> intro h
   ·refine .g (.qn z (.ret ?_))
    cases h
    exact ⟨by simp,z,aa (vs:=[_]) () (rt z rn) z (s.to [])⟩
   refine .skip (.region (.q z (.q z (.nil ?_))))
   cases h
   exact ⟨z,sb z,s.tk [0]⟩
  refine .exit ?_
  cases h
  exact ⟨by simp,z,sb z,s.tk [0]⟩
 intro x E W hJ
 rcases y2 with o3 | o4
 ·have h:=bW h
  obtain ⟨rfl,hF⟩:=hJ
  refine ⟨_,λ_ _ h=>h,?_⟩
  cases h
  exact hF
 have h:=bX h
 obtain ⟨rfl,hE,s⟩:=hJ
 refine ⟨_,hE.sub,?_⟩
 obtain rfl:=o9 h
 exact .g (.qn z (.ret (aa () (rt z rn) z (s.to []))))
def iY (F:Expr->Int->List ab->Option ((List ab))):Prop:=∀ {a0:Expr} {a1:Int} {a2:List ab} {aW:Hd} {v_2:Hd} {S:Nat->Prop} {w:World} {r:(List ab)} (h:F a0 a1 a2=some r) (aw:RV w (Old S w) (sv aW) 91 3 bL a0.Args) (hO:bu w [ac (sv v_2) 70 5 ah a2] S) (hlt:∀ b,S b->b<w.heap.size) , CL 209 #[.agg #[vi a0.Op,vi a0.N,sv aW],vi a1,sv v_2] w (Ret S w (λs:Hd=>(sv s)) (λs=>[ac (sv s) 70 5 ah r]))
theorem s7 {k:Nat} {fk:Expr->Int->List ab->Option ((List ab))} (ob:iY fk):iY (fj k fk):=by
 intro a0 a1 a2 aW v_2 S w r h aw hO hlt
 unfold fj at h
 refine ao func209 z z ?_
 have s:=Sep.sm hO hlt
 refine .g (.c (.box s z z ?_))
 intro g1 W s
 refine .qn z (.seq (.g (.s (fa f91_0 z z z) z (.s (ld t3 s z z z z z) z (.nil (.block (.g (.q z (.q z (.nil ?_))))))))))
 refine .cs z h ?_ ?_ <;> intro h
 ·refine .g (.q z (.q z (.s (fa f91_1 z z z) z (.s (ld t3 s z z z z z) z (.s (bs T.s70 z z) z (.c (.liv [(ab.mk 1 a1 0 0 a0.N)] ah u38 t70 s z z z z ?_ z (λ_=>z))))))))
  intro v1 W s
  refine bv h λr1 hr1 h=>?_
  have hT0:=s.p2
  refine .c (.av hr1 hT0 hT0.p1.lv (λ_=>z) u38 t70 z z z ?_)
  intro v2 W s
  obtain rfl:=o9 h
  exact .qn z (.ret (aa v2 (rt z rn) z (s.tk [0])))
 refine .g (.q z (.qn z (.cond z (λb=>?_) (λb=>?_))))
 ·have h:=aK b h
  refine .g (.q z (.q z (.s (fa f91_1 z z z) z (.s (ld t3 s z z z z z) z (.s (bs T.s70 z z) z (.c (.liv [(ab.mk 2 a1 a0.N 0 0)] ah u38 t70 s z z z z ?_ z (λ_=>z))))))))
  intro v3 W s
  refine bv h λr2 hr2 h=>?_
  have hT0:=s.p2
  refine .c (.av hr2 hT0 hT0.p1.lv (λ_=>z) u38 t70 z z z ?_)
  intro v4 W s
  obtain rfl:=o9 h
  exact .qn z (.ret (aa v4 (rt z rn) z (s.tk [0])))
 have h:=aL b h
 refine .skip (.g (.s (fa f91_2 z z z) z (.s (ld t89 s z z z z z) z (bv h λx1 hx1 h=>?_))))
 obtain ⟨k1,hd,hck1⟩:=RV.el2 aw hx1
 have hd1:=dP (gQ _) hd
 obtain ⟨k1,rfl,hd2⟩:=a7 aw z hd1
 obtain ⟨k1,rfl,hd3⟩:=a7 aw z hd2
 obtain ⟨v5,k1,rfl,q1,hd4⟩:=bn aw hd3
 obtain rfl:=gU aw hd4
 refine .s (ixv (s.keep aw) hx1 u89 t91 z z z) z (.s (lde (hck1 _ s.agree) t91 z z z z z) z (.q z (.q z (bv h λy1 hy1 h=>?_))))
 have s:=s.p1
 refine .c (.cS (L0:=[ac (sv v_2) 70 5 ah a2]) s func209 (λS h1 h2 h3=>(ob hy1 (s.ks (q1 _ aw) h1) h2 (zz h1))) z z ?_)
 rintro v6 W s
 refine .qn z (.g (.s (fa f91_2 z z z) z (.s (ld t89 s.p1 z z z z z) z (bv h λx2 hx2 h=>?_))))
 obtain ⟨k2,hd,hck2⟩:=RV.el2 aw hx2
 have hd1:=dP (gQ _) hd
 obtain ⟨k2,rfl,hd2⟩:=a7 aw z hd1
 obtain ⟨k2,rfl,hd3⟩:=a7 aw z hd2
 obtain ⟨v7,k2,rfl,q2,hd4⟩:=bn aw hd3
 obtain rfl:=gU aw hd4
 refine .s (ixv (s.keep aw) hx2 u89 t91 z z z) z (.s (lde (hck2 _ s.agree) t91 z z z z z) z (.q z (.q z (.q z (bv h λy2 hy2 h=>.c (.cS (L0:=[ac (sv v6) 70 5 ah y1]) s func209 (λS h1 h2 h3=>(ob hy2 (s.ks (q2 _ aw) h1) h2 (zz h1))) z z ?_))))))
 rintro v8 W s
 refine .qn z (.g (.q z (.q z (.q z (.q z (.q z (.s (fa f91_0 z z z) z (.s (ld t3 s.p1 z z z z z) z (.s (bs T.s70 z z) z (.c (.liv [(ab.mk 3 a1 a1 (w64 (a1+1)) a0.Op)] ah u38 t70 s z z z z ?_ z (λ_=>z))))))))))))
 intro v9 W s
 refine bv h λr3 hr3 h=>?_
 have hT0:=s.p1
 refine .c (.av hr3 hT0 hT0.p1.lv (λ_=>z) u38 t70 z z z ?_)
 intro v10 W s
 obtain rfl:=o9 h
 exact .qn z (.ret (aa v10 (rt z rn) z (s.tk [0])))
theorem pI (k:Nat):iY (eV k):=by
  induction k with
  | zero=>exact by intro a0 a1 a2 aW v_2 S w r h aw hO hlt; exact no h
  | succ k ih=>exact s7 (k:=k) ih
theorem rM {k:Nat}:iY (eV k):=(pI k)
def ew (F:List ae->List ab->Option ((List ab))):Prop:=∀ {a0:List ae} {a1:List ab} {v_0:Hd} {v_1:Hd} {S:Nat->Prop} {w:World} {r:(List ab)} (h:F a0 a1=some r) (q_0:RV w (Old S w) (sv v_0) 95 8 aP a0) (hO:bu w [ac (sv v_1) 70 5 ah a1] S) (hlt:∀ b,S b->b<w.heap.size) , CL 120 #[sv v_0,sv v_1] w (Ret S w (λs:Hd=>(sv s)) (λs=>[ac (sv s) 70 5 ah r]))
def iZ (F:ae->List ab->Option ((List ab))):Prop:=∀ {a0:ae} {a1:List ab} {ar:Hd} {aG:Hd} {aH:Hd} {v_1:Hd} {S:Nat->Prop} {w:World} {r:(List ab)} (h:F a0 a1=some r) (al:RV w (Old S w) (sv ar) 91 3 bL a0.Expr.Args) (aN:RV w (Old S w) (sv aG) 95 8 aP a0.Body) (aI:RV w (Old S w) (sv aH) 95 8 aP a0.Else) (hO:bu w [ac (sv v_1) 70 5 ah a1] S) (hlt:∀ b,S b->b<w.heap.size) , CL 163 #[.agg #[vi a0.Kind,vi a0.Var,vi a0.Box,vi a0.Expr.Op,vi a0.Expr.N,sv ar,sv aG,sv aH],sv v_1] w (Ret S w (λs:Hd=>(sv s)) (λs=>[ac (sv s) 70 5 ah r]))
theorem rN {k:Nat} {bB:List ae->List ab->Option ((List ab))} {bw:ae->List ab->Option ((List ab))} (kh:ew bB) (oc:iZ bw):ew (d9 k bB bw):=by
 intro a0 a1 v_0 v_1 S w r h q_0 hO hlt
 unfold d9 at h
 refine ao func120 z z ?_
 have s:=Sep.sm hO hlt
 refine .g (.qn z (.seq (.g (.q z (.s (aE (s.keep q_0) u93 z z) z (.qn z (.block (bv h λy1 hy1 h=>?_))))))))
 refine .via (.iter (λs1 E' W'=>∃ (v3:Hd),aq E' [(1,(sv v3)),(7,(sv v_0)),(8,vi (a0.length:Int)),(9,vi s1.2)]/\Sep S w W' [ac (sv v3) 70 5 ah s1.1]) (λy2 x E' W'=>x=.exit 0/\∃ (v4:Hd),aq E' [(1,(sv v4))]/\Sep S w W' [ac (sv v4) 70 5 ah y2]) hy1 ⟨v_1,sb z,s.tk [0]⟩ ?_) ?_
 ·intro s1 y3 E W h hI
  obtain ⟨v2,hE,s⟩:=hI
  refine CW.sub hE ?_
  unfold jI at h
  refine .g (.qn z (.seq (.cond z (λb=>?_) (λb=>?_))))
  ·have h:=aK b h
   refine .skip (.seq (.block (.g (bv h λx1 hx1 h=>?_))))
   obtain ⟨k1,hd,hck1⟩:=RV.el2 q_0 hx1
   have hd1:=dP (pb _) hd
   obtain ⟨k1,rfl,hd2⟩:=a7 q_0 z hd1
   obtain ⟨k1,rfl,hd3⟩:=a7 q_0 z hd2
   obtain ⟨k1,rfl,hd4⟩:=a7 q_0 z hd3
   have hd5:=dP (gQ _) hd4
   obtain ⟨k1,rfl,hd6⟩:=a7 q_0 z hd5
   obtain ⟨k1,rfl,hd7⟩:=a7 q_0 z hd6
   obtain ⟨v5,k1,rfl,q5,hd8⟩:=bn q_0 hd7
   obtain ⟨v6,k1,rfl,q6,hd9⟩:=bn q_0 hd8
   obtain ⟨v7,k1,rfl,q7,hd10⟩:=bn q_0 hd9
   obtain rfl:=gU q_0 hd10
   refine .s (ixv (s.keep q_0) hx1 u93 t95 z z z) z (.s (lde (hck1 _ s.agree) t95 z z z z z) z (.c (.alloc t95 s ?_)))
   intro g1 W s
   refine .c (.st t95 s z z z ?_)
   intro W s
   refine .nil (.region (.s (ld t95 s z z z z z) z (.q z (bv h λy4 hy4 h=>?_))))
   have s:=s.p1
   refine .c (.cS (L0:=[ac (sv v2) 70 5 ah s1.1]) s func163 (λS h1 h2 h3=>(oc hy4 (s.ks (q5 _ q_0) h1) (s.ks (q6 _ q_0) h1) (s.ks (q7 _ q_0) h1) h2 (zz h1))) z z ?_)
   rintro v8 W s
   refine .qn z (.region (.q z (.q z (.nil ?_))))
   cases h
   exact ⟨z,v8,sb z,s.tk [0]⟩
  have h:=aL b h
  refine .exit ?_
  cases h
  exact ⟨by simp,z,v2,sb z,s.tk [0]⟩
 intro x E W hJ
 obtain ⟨rfl,v9,hE,s⟩:=hJ
 refine ⟨_,hE.sub,?_⟩
 obtain rfl:=o9 h
 exact .g (.q z (.qn z (.ret (aa v9 (rt z rn) z (s.tk [0])))))
theorem s8 {k:Nat} {bB:List ae->List ab->Option ((List ab))} {bw:ae->List ab->Option ((List ab))} (kh:ew bB) (oc:iZ bw):iZ (cB k bB bw):=by
 intro a0 a1 ar aG aH v_1 S w r h al aN aI hO hlt
 unfold cB at h
 refine ao func163 z z ?_
 have s:=Sep.sm hO hlt
 refine .g (.c (.box s z z ?_))
 intro g1 W s
 refine .qn z (.g (.q z (.s (aE s.p1.lv u38 z z) z (.qn z (bv h λy1 hy1 h=>?_)))))
 refine .seq (CW.via (R':=λx E' W'=>x=.normal/\∃ (v1:Hd),aq E' [(1,(sv v1)),(2,Pt g1),(5,vi (a1.length:Int))]/\Sep S w W' [.box g1 95 [vi a0.Kind,vi a0.Var,vi a0.Box,vi a0.Expr.Op,vi a0.Expr.N,sv ar,sv aG,sv aH],ac (sv v1) 70 5 ah y1]) ?_ ?_)
 ·have h:=hy1
  refine .g (.s (fa f95_0 z z z) z (.s (ld t3 s z z z z z) z (.q z (.q z (.cu 4 17 ((a0.Kind !=5)&&(a0.Kind !=6)) s ?_ ?_)))))
  ·refine .both (a0.Kind !=5) (λb=>?_) (λb=>?_)
   ·have hg1:=b
    exact .g hg1 (.s (fa f95_0 z z z) z (.g hg1 (.s (ld t3 s z z z z z) z (.g hg1 (.q z (.s (pkt hg1 z z z) z (.nil (ck 4 s z (bi hg1)))))))))
   exact .xx b z (.xx b z (.xx b z (.s (pkf b z z z) z (.nil (ck 4 s z (bj b))))))
  intro W s
  refine .nil (.cond z (λb=>?_) (λb=>?_))
  ·have h:=aK b h
   refine .region (.s (fa f95_3 z z z) z (.s (ld t91 s z z z z z) z (.q z (bv h λy2 hy2 h=>?_))))
   have s:=s.p1
   refine .c (.cS (L0:=[ac (sv v_1) 70 5 ah a1]) s func209 (λS h1 h2 h3=>(rM hy2 (s.ks al h1) h2 (zz h1))) z z ?_)
   rintro v2 W s
   refine .q z (.nil ?_)
   obtain rfl:=o9 h
   exact ⟨z,v2,sb z,s.tk [1,0]⟩
  have h:=aL b h
  refine .skip ?_
  obtain rfl:=o9 h
  exact ⟨z,v_1,sb z,s.tk [0,0]⟩
 intro x E W hJ
 obtain ⟨rfl,v3,hE,s⟩:=hJ
 refine ⟨_,hE.sub,?_⟩
 refine .seq (.g (.s (fa f95_0 z z z) z (.s (ld t3 s z z z z z) z (.nil (.block (.g (.q z (.q z (.nil ?_)))))))))
 refine .cs z h ?_ ?_ <;> intro h
 ·refine .g (.q z (.s (fa f95_1 z z z) z (.s (ld t3 s z z z z z) z (.s (bs T.s70 z z) z (.c (.liv [(ab.mk 2 a0.Var 4 0 0)] ah u38 t70 s z z z z ?_ z (λ_=>z)))))))
  intro v4 W s
  refine bv h λr1 hr1 h=>?_
  have hT0:=s.p2
  refine .c (.av hr1 hT0 hT0.p1.lv (λ_=>z) u38 t70 z z z ?_)
  intro v5 W s
  obtain rfl:=o9 h
  exact .qn z (.ret (aa v5 (rt z rn) z (s.tk [0])))
 refine .g (.q z (.q z (.nil ?_)))
 refine .cs z h ?_ ?_ <;> intro h
 ·refine .g (.q z (.s (fa f95_2 z z z) z (.s (ld t3 s z z z z z) z (.s (bs T.s70 z z) z (.c (.liv [(ab.mk 6 0 4 0 a0.Box)] ah u38 t70 s z z z z ?_ z (λ_=>z)))))))
  intro v6 W s
  refine bv h λr2 hr2 h=>?_
  have hT0:=s.p2
  refine .c (.av hr2 hT0 hT0.p1.lv (λ_=>z) u38 t70 z z z ?_)
  intro v7 W s
  obtain rfl:=o9 h
  exact .qn z (.ret (aa v7 (rt z rn) z (s.tk [0])))
 refine .g (.q z (.q z (.nil ?_)))
 refine .cs z h ?_ ?_ <;> intro h
 ·refine .g (.q z (.s (fa f95_1 z z z) z (.s (ld t3 s z z z z z) z (.s (fa f95_2 z z z) z (.s (ld t3 s z z z z z) z (.s (bs T.s70 z z) z (.c (.liv [(ab.mk 7 a0.Var 0 0 a0.Box)] ah u38 t70 s z z z z ?_ z (λ_=>z)))))))))
  intro v8 W s
  refine bv h λr3 hr3 h=>?_
  have hT0:=s.p2
  refine .c (.av hr3 hT0 hT0.p1.lv (λ_=>z) u38 t70 z z z ?_)
  intro v9 W s
  obtain rfl:=o9 h
  exact .qn z (.ret (aa v9 (rt z rn) z (s.tk [0])))
 refine .g (.q z (.q z (.nil ?_)))
 refine .cs z h ?_ ?_ <;> intro h
 ·refine .g (.q z (.s (bs T.s70 z z) z (.c (.liv [(ab.mk 8 0 0 0 0)] ah u38 t70 s z z z z ?_ z (λ_=>z)))))
  intro v10 W s
  refine bv h λr4 hr4 h=>?_
  have hT0:=s.p2
  refine .c (.av hr4 hT0 hT0.p1.lv (λ_=>z) u38 t70 z z z ?_)
  intro v11 W s
  obtain rfl:=o9 h
  exact .qn z (.ret (aa v11 (rt z rn) z (s.tk [0])))
 refine .g (.q z (.qn z (.cond z (λb=>?_) (λb=>?_))))
 ·have h:=aK b h
  refine .g (.q z (.s (bs T.s70 z z) z (.c (.liv [(ab.mk 9 0 4 0 0)] ah u38 t70 s z z z z ?_ z (λ_=>z)))))
  intro v12 W s
  refine bv h λr5 hr5 h=>?_
  have hT0:=s.p2
  refine .c (.av hr5 hT0 hT0.p1.lv (λ_=>z) u38 t70 z z z ?_)
  intro v13 W s
  obtain rfl:=o9 h
  exact .qn z (.ret (aa v13 (rt z rn) z (s.tk [0])))
 have h:=aL b h
 refine .skip (.g (.q z (.s (aE s.p1.lv u38 z z) z (.qn z (.seq (.rk 8 s [0] T.mix ?_))))))
 intro W s
 have t:=s.to [0]
 refine .ts' 0 z (λW t=>fa f95_4 z z z) t z (.ts' 1 z (λW t=>ld t93 t z z z z z) t z (.tp' 2 z z t (.ts' 3 z (λW t=>bs T.s70 z z) t z (.by1 4 z (.liv [(ab.mk 5 0 4 0 0)] ah u38 t70 s z z z z ?_ z (λ_=>z))))))
 intro v14 W s
 refine s.an [1] λt=>bv h λr6 hr6 h=>?_
 have hT0:=s.p2
 refine .by1 5 z (.av hr6 hT0 hT0.p1.lv (λ_=>z) u38 t70 z z z ?_)
 intro v15 W s
 refine s.an [2] λt=>bv h λy3 hy3 h=>.by1 6 z (.cS (L0:=[ac (sv v15) 70 5 ah r6]) s func120 (λS h1 h2 h3=>(kh hy3 (s.ks aN h1) h2 (zz h1))) z z ?_)
 rintro v16 W s
 refine s.an [2] λt=>.tp' 7 z z t (.done (bv h λy4 hy4 h=>?_))
 refine .seq (CW.via (R':=λx E' W'=>x=.normal/\∃ (v17:Hd),aq E' [(1,(sv v17)),(2,Pt g1),(6,vi (y1.length:Int))]/\Sep S w W' [ac (sv v14) 70 5 ah [(ab.mk 5 0 4 0 0)],.box g1 95 [vi a0.Kind,vi a0.Var,vi a0.Box,vi a0.Expr.Op,vi a0.Expr.N,sv ar,sv aG,sv aH],ac (sv v17) 70 5 ah y4]) ?_ ?_)
 ·have h:=hy4
  refine .g (.s (fa f95_0 z z z) z (.s (ld t3 s.p2 z z z z z) z (.q z (.nil ?_))))
  refine .cs z h ?_ ?_ <;> intro h
  ·refine .region (.q z (.q z (.s (bs T.s70 z z) z (.c (.liv [(ab.mk 4 0 0 0 (a1.length:Int))] ah u38 t70 s z z z z ?_ z (λ_=>z))))))
   intro v18 W s
   refine bv h λr7 hr7 h=>?_
   have hT0:=s.p1
   refine .c (.av hr7 hT0 hT0.p1.lv (λ_=>z) u38 t70 z z z ?_)
   intro v19 W s
   refine .q z (.nil ?_)
   obtain rfl:=o9 h
   exact ⟨z,v19,sb z,s.tk [2,2,0]⟩
  refine .skip ?_
  obtain rfl:=o9 h
  exact ⟨z,v16,sb z,s.tk [1,1,0]⟩
 intro x E W hJ
 obtain ⟨rfl,v20,hE,s⟩:=hJ
 refine ⟨_,hE.sub,?_⟩
 refine .g (.q z (.s (aE s.p2.lv u38 z z) z (.qn z (bv h λy5 hy5 h=>?_))))
 refine .seq (CW.via (R':=λx E' W'=>x=.normal/\∃ (v21:Hd),aq E' [(1,(sv v21)),(2,Pt g1),(6,vi (y1.length:Int)),(7,vi (y4.length:Int))]/\Sep S w W' [ac (sv v14) 70 5 ah [(ab.mk 5 0 4 0 0)],.box g1 95 [vi a0.Kind,vi a0.Var,vi a0.Box,vi a0.Expr.Op,vi a0.Expr.N,sv ar,sv aG,sv aH],ac (sv v21) 70 5 ah y5]) ?_ ?_)
 ·have h:=hy5
  refine .g (.s (fa f95_5 z z z) z (.s (ld t93 s.p1 z z z z z) z (.s (aE (s.keep aI) u93 z z) z (.q z (.nil ?_)))))
  refine .cs z h ?_ ?_ <;> intro h
  ·refine .region (.q z (.s (bs T.s70 z z) z (.c (.liv [(ab.mk 4 0 0 0 0)] ah u38 t70 s z z z z ?_ z (λ_=>z)))))
   intro v22 W s
   refine bv h λr8 hr8 h=>?_
   have hT0:=s.p3
   refine .c (.av hr8 hT0 hT0.p1.lv (λ_=>z) u38 t70 z z z ?_)
   intro v23 W s
   refine .q z (.nil ?_)
   obtain rfl:=o9 h
   exact ⟨z,v23,sb z,s.tk [2,2,0]⟩
  refine .skip ?_
  obtain rfl:=o9 h
  exact ⟨z,v20,sb z,s.tk [0,0,0]⟩
 intro x E W hJ
 obtain ⟨rfl,v24,hE,s⟩:=hJ
 refine ⟨_,hE.sub,?_⟩
 refine .g (.q z (.q z (.q z (.s (aE s.p2.lv u38 z z) z (bv h λx1 hx1 h=>.s (ixv s.p2.lv hx1 u38 t70 z z z) z (.s (fe f70_4 z z z) z (bv h λr9 hr9 h=>.c (.sev hr9 hx1 s.p2 t3 z z z z z z ?_))))))))
 intro W s
 refine .nil (.seq (.g (.s (fa f95_5 z z z) z (.s (ld t93 s.p2 z z z z z) z (.s (aE (s.keep aI) u93 z z) z (.qn z (.cond z (λb=>?_) (λb=>?_))))))))
 ·have h:=aK b h
  refine .g (.s (fa f95_5 z z z) z (.s (ld t93 s.p2 z z z z z) z (.q z (bv h λy6 hy6 h=>.c (.cS (L0:=[ac (sv v24) 70 5 ah r9]) s func120 (λS h1 h2 h3=>(kh hy6 (s.ks aI h1) h2 (zz h1))) z z ?_)))))
  rintro v25 W s
  refine .qn z (.region (.q z (.q z (.q z (.s (aE s.lv u38 z z) z (bv h λx2 hx2 h=>.s (ixv s.lv hx2 u38 t70 z z z) z (.s (fe f70_4 z z z) z (bv h λr10 hr10 h=>.c (.sev hr10 hx2 s t3 z z z z z z ?_)))))))))
  intro W s
  obtain rfl:=o9 h
  exact .nil (.g (.q z (.qn z (.ret (aa v25 (rt z rn) z (s.tk [0]))))))
 have h:=aL b h
 obtain rfl:=o9 h
 exact .skip (.g (.q z (.qn z (.ret (aa v24 (rt z rn) z (s.tk [0]))))))
theorem pt (k:Nat):ew (cf k)/\iZ (eW k):=by
  induction k with
  | zero=>exact ⟨by intro a0 a1 v_0 v_1 S w r h q_0 hO hlt; exact no h,by intro a0 a1 ar aG aH v_1 S w r h al aN aI hO hlt; exact no h⟩
  | succ k ih=>exact ⟨rN (k:=k) ih.1 ih.2,s8 (k:=k) ih.1 ih.2⟩
theorem qU {k:Nat}:ew (cf k):=(pt k).1
theorem rO {k:Nat} {a0:List ae} {v_0:Hd} {w:World} {r:(List ab)} (h:gZ k a0=some r) (q_0:RO w v_0 95 8 aP a0):CL 65 #[sv v_0] w (Ret No w (λs:Hd=>(sv s)) (λs=>[ac (sv s) 70 5 ah r])):=by
 unfold gZ at h
 refine ao func65 z z ?_
 have s:=Sep.start w
 refine .g (.qn z (.g (.q z ?_)))
 have s:=s.nilv 70 5 ah
 refine bv h λy1 hy1 h=>.c (.cS (L0:=[ac (sv df) 70 5 ah []]) s func120 (λS h1 h2 h3=>(qU hy1 (s.ks q_0 h1) h2 (zz h1))) z z ?_)
 rintro v1 W s
 refine .s (bs T.s70 z z) z (.c (.liv [(ab.mk 10 0 0 0 0)] ah u38 t70 s z z z z ?_ z (λ_=>z)))
 intro v2 W s
 refine bv h λr1 hr1 h=>?_
 have hT0:=s.p1
 refine .c (.av hr1 hT0 hT0.p1.lv (λ_=>z) u38 t70 z z z ?_)
 intro v3 W s
 obtain rfl:=o9 h
 exact .qn z (.ret (aa v3 (rt z rn) z (s.tk [0])))
theorem pY {k:Nat} {a0:aF} {aA:Hd} {az:Hd} {w:World} {r:(List (List ab))×Bool} (h:c7 k a0=some r) (bh:RO w aA 3 1 (D.int .i64) a0.Rooms) (aB:RO w az 93 1 (λ(l:List ae)=>D.row 95 8 (l.map aP)) a0.Tasks):CL 34 #[.agg #[sv aA,sv az]] w (Ret No w (λs:Hd=>.tuple #[sv s,.bool r.2]) (λs=>[ac (sv s) 38 1 (λ(l:List ab)=>D.row 70 5 (l.map ah)) r.1])):=by
 unfold c7 at h
 refine ao func34 z z ?_
 have s:=Sep.start w
 refine .g (.c (.box s z z ?_))
 intro g1 W s
 refine .q z (.qn z (.seq (.g (.s (ld t26 s z z z z z) z (bv h λy1 hy1 h=>.c (.cO s func64 (qT hy1 (s.keep bh) (s.keep aB)) z z ?_))))))
 intro W s
 refine .q z (.nil ?_)
 refine .cs z h ?_ ?_ <;> intro h
 ·refine .g (.q z (.qn z (.ret ?_)))
  have s:=s.nilv 38 1 (λ(l:List ab)=>D.row 70 5 (l.map ah))
  cases h
  exact aa (vs:=[_,_]) df (rt z (rt z rn)) z (s.tk [0])
 refine .skip (.g (.qn z (.seq (.g (.s (fa f26_1 z z z) z (.s (ld t24 s z z z z z) z (.s (aE (s.keep aB) u24 z z) z (.qn z (.block ?_)))))))))
 have s:=s.nilv 38 1 (λ(l:List ab)=>D.row 70 5 (l.map ah))
 refine bv h λy2 hy2 h=>?_
 refine .via (.iter (λs1 E' W'=>∃ (v3:Hd),aq E' [(4,(sv v3)),(11,(sv az)),(12,vi (a0.Tasks.length:Int)),(13,vi s1.2)]/\Sep No w W' [.box g1 26 [sv aA,sv az],ac (sv v3) 38 1 (λ(l:List ab)=>D.row 70 5 (l.map ah)) s1.1]) (λy3 x E' W'=>x=.exit 0/\∃ (v4:Hd),aq E' [(4,(sv v4))]/\Sep No w W' [.box g1 26 [sv aA,sv az],ac (sv v4) 38 1 (λ(l:List ab)=>D.row 70 5 (l.map ah)) y3]) hy2 ⟨df,sb z,s.tk [1,0]⟩ ?_) ?_
 ·intro s1 y4 E W h hI
  obtain ⟨v2,hE,s⟩:=hI
  refine CW.sub hE ?_
  unfold eC at h
  refine .g (.qn z (.seq ?_))
  refine .cs z h ?_ ?_ <;> intro h
  ·refine .skip (.seq (.block (.g (bv h λx1 hx1 h=>?_))))
   obtain ⟨k1,hd,hck1⟩:=RV.el2 aB hx1
   obtain ⟨v5,k1,rfl,q5,hd1⟩:=bn aB hd
   obtain rfl:=gU aB hd1
   refine .s (ixv (s.keep aB) hx1 u24 t93 z z z) z (.s (lde (hck1 _ s.agree) t93 z z z z z) z (.qn z (.region (.q z (.q z (bv h λy5 hy5 h=>.c (.cV s func65 (rO hy5 (s.keep (q5 _ aB))) z z ?_)))))))
   intro v6 W s
   refine .c (.lg (L1:=[ac (sv v6) 70 5 ah y5]) [y5] (λ(l:List ab)=>D.row 70 5 (l.map ah)) u32 t38 (s.to [0,0,0]) z z z (.row (.nil)) ?_ z (λ_=>z))
   intro v7 W s
   refine bv h λr1 hr1 h=>.c (.appv hr1 (s.to [2,0,0]) u32 t38 z z z ?_)
   intro v8 W s
   refine .qn z (.region (.q z (.q z (.nil ?_))))
   cases h
   exact ⟨z,v8,sb z,s.tk [1,0]⟩
  refine .exit ?_
  cases h
  exact ⟨by simp,z,v2,sb z,s.tk [0,0]⟩
 intro x E W hJ
 obtain ⟨rfl,v9,hE,s⟩:=hJ
 refine ⟨_,hE.sub,?_⟩
 cases h
 exact .g (.q z (.q z (.qn z (.ret (aa (vs:=[_,_]) v9 (rt z (rt z rn)) z (s.tk [1]))))))
theorem pu {a0:Int} {w:World} {r:Bool} (h:l9 a0=some r):CL 172 #[vi a0] w (RU w (.bool r)):=by
 unfold l9 at h
 refine ao func172 z z ?_
 have s:=Sep.start w
 refine .g (.qn z (.g (.q z (.q z (.q z (.cu 3 8 ((decide (a0>=0))&&(decide (a0<12))) s ?_ ?_))))))
 ·refine .both (decide (a0>=0)) (λb=>?_) (λb=>?_)
  ·have hg1:=b
   exact .g hg1 (.q z (.g hg1 (.q z (.s (pkt hg1 z z z) z (.nil (ck 3 s z (bi hg1)))))))
  exact .xx b z (.xx b z (.s (pkf b z z z) z (.nil (ck 3 s z (bj b)))))
 intro W s
 cases h
 exact .qn z (.ret (aa () (rt z rn) z (s.to [])))
theorem pj {a0:Int} {w:World} {r:Bool} (h:g7 a0=some r):CL 173 #[vi a0] w (RU w (.bool r)):=by
 unfold g7 at h
 refine ao func173 z z ?_
 have s:=Sep.start w
 refine .g (.qn z (.g (.q z (.q z (.q z (.cu 3 8 ((decide (a0>=(-2147483648)))&&(decide (a0<=2147483647))) s ?_ ?_))))))
 ·refine .both (decide (a0>=(-2147483648))) (λb=>?_) (λb=>?_)
  ·have hg1:=b
   exact .g hg1 (.q z (.g hg1 (.q z (.s (pkt hg1 z z z) z (.nil (ck 3 s z (bi hg1)))))))
  exact .xx b z (.xx b z (.s (pkf b z z z) z (.nil (ck 3 s z (bj b)))))
 intro W s
 cases h
 exact .qn z (.ret (aa () (rt z rn) z (s.to [])))
theorem tT {a0:ab} {a1:Int} {w:World} {r:Bool} (h:jJ a0 a1=some r):CL 126 #[.agg #[vi a0.Op,vi a0.Dst,vi a0.A,vi a0.B,vi a0.N],vi a1] w (RU w (.bool r)):=by
 unfold jJ at h
 refine ao func126 z z ?_
 have s:=Sep.start w
 refine .g (.c (.box s z z ?_))
 intro g1 W s
 refine .qn z (.seq (.rk 15 s [0] T.mix ?_))
 intro W s
 have t:=s.to [0]
 refine .ts' 0 z (λW t=>fa f70_1 z z z) t z (.ts' 1 z (λW t=>ld t3 t z z z z z) t z (.ts' 3 z (λW t=>fa f70_2 z z z) t z (.ts' 4 z (λW t=>ld t3 t z z z z z) t z (.ts' 6 z (λW t=>fa f70_3 z z z) t z (.ts' 7 z (λW t=>ld t3 t z z z z z) t z (.ts' 9 z (λW t=>fa f70_4 z z z) t z (.ts' 10 z (λW t=>ld t3 t z z z z z) t z (bv h λy1 hy1 h=>.by1 2 z (.cO s func172 (pu hy1) z z ?_)))))))))
 intro W s
 refine s.an [0] λt=>bv h λy2 hy2 h=>.by1 5 z (.cO s func172 (pu hy2) z z ?_)
 intro W s
 refine s.an [0] λt=>bv h λy3 hy3 h=>.by1 8 z (.cO s func172 (pu hy3) z z ?_)
 intro W s
 refine s.an [0] λt=>.tp' 11 z z t (.tp' 12 z z t (.tp' 13 z z t (.tp' 14 z z t (.done (.seq (.g (.s (fa f70_0 z z z) z (.s (ld t3 s z z z z z) z (.nil (.block (.g (.q z (.q z (.nil ?_))))))))))))))
 refine .cs z h ?_ ?_ <;> intro h
 ·refine .g (.s (ld t70 s z z z z z) z (.s (fa f70_1 z z z) z (.s (ld t3 s z z z z z) z (.q z (.s (bs T.s70 z z) z (.s (eqs T.e70 z z z z) z (.q z (.cu 2 32 (((a0.Op==1)&&((a0.Dst==a0.Dst)&&((a0.A==0)&&((a0.B==0)&&((a0.N==a0.N)&&true)))))&&y1) s ?_ ?_))))))))
  ·refine .both (((a0.Op==1)&&((a0.Dst==a0.Dst)&&((a0.A==0)&&((a0.B==0)&&((a0.N==a0.N)&&true)))))) (λb=>?_) (λb=>?_)
   ·have hg1:=b
    exact .g hg1 (.q z (.s (pkt hg1 z z z) z (.nil (ck 2 s z (bi hg1)))))
   exact .xx b z (.s (pkf b z z z) z (.nil (ck 2 s z (bj b))))
  intro W s
  refine .q z (bv h λb1 hb1 h=>.cu 3 36 (b1) s ?_ ?_)
  ·refine .both (((a0.Op==1)&&((a0.Dst==a0.Dst)&&((a0.A==0)&&((a0.B==0)&&((a0.N==a0.N)&&true)))))&&y1) (λb=>?_) (λb=>?_)
   ·have hg2:=b
    have h:=aK b hb1
    refine .g hg2 (.q z (bv h λy4 hy4 h=>.g hg2 (.c (.cO s func173 (pj hy4) z z ?_))))
    intro W s
    refine .s (pkt hg2 z z z) z ?_
    cases h
    exact .nil (ck 3 s)
   refine .xx b z (.xx b z ?_)
   cases aL b hb1
   exact .s (pkf b z z z) z (.nil (ck 3 s))
  intro W s
  obtain rfl:=o9 h
  exact .qn z (.ret (aa () (rt z rn) z (s.to [])))
 refine .g (.q z (.q z (.nil ?_)))
 refine .cs z h ?_ ?_ <;> intro h
 ·refine .g (.s (ld t70 s z z z z z) z (.s (fa f70_1 z z z) z (.s (ld t3 s z z z z z) z (.s (fa f70_2 z z z) z (.s (ld t3 s z z z z z) z (.s (bs T.s70 z z) z (.s (eqs T.e70 z z z z) z (.q z (.cu 2 48 (((a0.Op==2)&&((a0.Dst==a0.Dst)&&((a0.A==a0.A)&&((a0.B==0)&&((a0.N==0)&&true)))))&&y1) s ?_ ?_)))))))))
  ·refine .both (((a0.Op==2)&&((a0.Dst==a0.Dst)&&((a0.A==a0.A)&&((a0.B==0)&&((a0.N==0)&&true)))))) (λb=>?_) (λb=>?_)
   ·have hg3:=b
    exact .g hg3 (.q z (.s (pkt hg3 z z z) z (.nil (ck 2 s z (bi hg3)))))
   exact .xx b z (.s (pkf b z z z) z (.nil (ck 2 s z (bj b))))
  intro W s
  refine .q z (.cu 2 51 ((((a0.Op==2)&&((a0.Dst==a0.Dst)&&((a0.A==a0.A)&&((a0.B==0)&&((a0.N==0)&&true)))))&&y1)&&y2) s ?_ ?_)
  ·refine .both (((a0.Op==2)&&((a0.Dst==a0.Dst)&&((a0.A==a0.A)&&((a0.B==0)&&((a0.N==0)&&true)))))&&y1) (λb=>?_) (λb=>?_)
   ·have hg4:=b
    exact .g hg4 (.q z (.s (pkt hg4 z z z) z (.nil (ck 2 s z (bi hg4)))))
   exact .xx b z (.s (pkf b z z z) z (.nil (ck 2 s z (bj b))))
  intro W s
  cases h
  exact .qn z (.ret (aa () (rt z rn) z (s.to [])))
 refine .g (.q z (.q z (.nil ?_)))
 refine .cs z h ?_ ?_ <;> intro h
 ·refine .g (.q z (.q z (.cu 2 57 (y1&&y2) s ?_ ?_)))
  ·refine .both (y1) (λb=>?_) (λb=>?_)
   ·have hg5:=b
    exact .g hg5 (.q z (.s (pkt hg5 z z z) z (.nil (ck 2 s z (bi hg5)))))
   exact .xx b z (.s (pkf b z z z) z (.nil (ck 2 s z (bj b))))
  intro W s
  refine .q z (.cu 2 60 ((y1&&y2)&&y3) s ?_ ?_)
  ·refine .both (y1&&y2) (λb=>?_) (λb=>?_)
   ·have hg6:=b
    exact .g hg6 (.q z (.s (pkt hg6 z z z) z (.nil (ck 2 s z (bi hg6)))))
   exact .xx b z (.s (pkf b z z z) z (.nil (ck 2 s z (bj b))))
  intro W s
  refine .q z (bv h λb2 hb2 h=>.cu 3 64 (b2) s ?_ ?_)
  ·refine .both ((y1&&y2)&&y3) (λb=>?_) (λb=>?_)
   ·have hg7:=b
    have h:=aK b hb2
    refine .g hg7 (.q z (bv h λy5 hy5 h=>.g hg7 (.c (.cO s func174 (qc hy5) z z ?_))))
    intro W s
    refine .s (pkt hg7 z z z) z ?_
    cases h
    exact .nil (ck 3 s)
   refine .xx b z (.xx b z ?_)
   cases aL b hb2
   exact .s (pkf b z z z) z (.nil (ck 3 s))
  intro W s
  obtain rfl:=o9 h
  exact .qn z (.ret (aa () (rt z rn) z (s.to [])))
 refine .g (.q z (.q z (.nil ?_)))
 refine .cs z h ?_ ?_ <;> intro h
 ·refine .g (.s (ld t70 s z z z z z) z (.q z (.s (bs T.s70 z z) z (.s (eqs T.e70 z z z z) z (.q z (.cu 3 74 (((a0.Op==4)&&((a0.Dst==0)&&((a0.A==0)&&((a0.B==0)&&((a0.N==a0.N)&&true)))))&&(decide (a0.N>=0))) s ?_ ?_))))))
  ·refine .both (((a0.Op==4)&&((a0.Dst==0)&&((a0.A==0)&&((a0.B==0)&&((a0.N==a0.N)&&true)))))) (λb=>?_) (λb=>?_)
   ·have hg8:=b
    exact .g hg8 (.q z (.g hg8 (.q z (.s (pkt hg8 z z z) z (.nil (ck 3 s z (bi hg8)))))))
   exact .xx b z (.xx b z (.s (pkf b z z z) z (.nil (ck 3 s z (bj b)))))
  intro W s
  refine .q z (.cu 4 79 ((((a0.Op==4)&&((a0.Dst==0)&&((a0.A==0)&&((a0.B==0)&&((a0.N==a0.N)&&true)))))&&(decide (a0.N>=0)))&&(decide (a0.N<a1))) s ?_ ?_)
  ·refine .both (((a0.Op==4)&&((a0.Dst==0)&&((a0.A==0)&&((a0.B==0)&&((a0.N==a0.N)&&true)))))&&(decide (a0.N>=0))) (λb=>?_) (λb=>?_)
   ·have hg9:=b
    exact .g hg9 (.q z (.g hg9 (.q z (.g hg9 (.q z (.s (pkt hg9 z z z) z (.nil (ck 4 s z (bi hg9)))))))))
   exact .xx b z (.xx b z (.xx b z (.s (pkf b z z z) z (.nil (ck 4 s z (bj b))))))
  intro W s
  cases h
  exact .qn z (.ret (aa () (rt z rn) z (s.to [])))
 refine .g (.q z (.q z (.nil ?_)))
 refine .cs z h ?_ ?_ <;> intro h
 ·refine .g (.s (ld t70 s z z z z z) z (.s (fa f70_2 z z z) z (.s (ld t3 s z z z z z) z (.q z (.s (bs T.s70 z z) z (.s (eqs T.e70 z z z z) z (.q z (.cu 2 90 (((a0.Op==5)&&((a0.Dst==0)&&((a0.A==a0.A)&&((a0.B==0)&&((a0.N==a0.N)&&true)))))&&y2) s ?_ ?_))))))))
  ·refine .both (((a0.Op==5)&&((a0.Dst==0)&&((a0.A==a0.A)&&((a0.B==0)&&((a0.N==a0.N)&&true)))))) (λb=>?_) (λb=>?_)
   ·have hg10:=b
    exact .g hg10 (.q z (.s (pkt hg10 z z z) z (.nil (ck 2 s z (bi hg10)))))
   exact .xx b z (.s (pkf b z z z) z (.nil (ck 2 s z (bj b))))
  intro W s
  refine .q z (.cu 3 94 ((((a0.Op==5)&&((a0.Dst==0)&&((a0.A==a0.A)&&((a0.B==0)&&((a0.N==a0.N)&&true)))))&&y2)&&(decide (a0.N>=0))) s ?_ ?_)
  ·refine .both (((a0.Op==5)&&((a0.Dst==0)&&((a0.A==a0.A)&&((a0.B==0)&&((a0.N==a0.N)&&true)))))&&y2) (λb=>?_) (λb=>?_)
   ·have hg11:=b
    exact .g hg11 (.q z (.g hg11 (.q z (.s (pkt hg11 z z z) z (.nil (ck 3 s z (bi hg11)))))))
   exact .xx b z (.xx b z (.s (pkf b z z z) z (.nil (ck 3 s z (bj b)))))
  intro W s
  refine .q z (.cu 4 99 (((((a0.Op==5)&&((a0.Dst==0)&&((a0.A==a0.A)&&((a0.B==0)&&((a0.N==a0.N)&&true)))))&&y2)&&(decide (a0.N>=0)))&&(decide (a0.N<a1))) s ?_ ?_)
  ·refine .both ((((a0.Op==5)&&((a0.Dst==0)&&((a0.A==a0.A)&&((a0.B==0)&&((a0.N==a0.N)&&true)))))&&y2)&&(decide (a0.N>=0))) (λb=>?_) (λb=>?_)
   ·have hg12:=b
    exact .g hg12 (.q z (.g hg12 (.q z (.g hg12 (.q z (.s (pkt hg12 z z z) z (.nil (ck 4 s z (bi hg12)))))))))
   exact .xx b z (.xx b z (.xx b z (.s (pkf b z z z) z (.nil (ck 4 s z (bj b))))))
  intro W s
  cases h
  exact .qn z (.ret (aa () (rt z rn) z (s.to [])))
 refine .g (.q z (.q z (.nil ?_)))
 refine .cs z h ?_ ?_ <;> intro h
 ·refine .g (.s (ld t70 s z z z z z) z (.s (fa f70_2 z z z) z (.s (ld t3 s z z z z z) z (.q z (.s (bs T.s70 z z) z (.s (eqs T.e70 z z z z) z (.q z (.cu 2 110 (((a0.Op==6)&&((a0.Dst==0)&&((a0.A==a0.A)&&((a0.B==0)&&((a0.N==a0.N)&&true)))))&&y2) s ?_ ?_))))))))
  ·refine .both (((a0.Op==6)&&((a0.Dst==0)&&((a0.A==a0.A)&&((a0.B==0)&&((a0.N==a0.N)&&true)))))) (λb=>?_) (λb=>?_)
   ·have hg13:=b
    exact .g hg13 (.q z (.s (pkt hg13 z z z) z (.nil (ck 2 s z (bi hg13)))))
   exact .xx b z (.s (pkf b z z z) z (.nil (ck 2 s z (bj b))))
  intro W s
  refine .q z (.cu 3 114 ((((a0.Op==6)&&((a0.Dst==0)&&((a0.A==a0.A)&&((a0.B==0)&&((a0.N==a0.N)&&true)))))&&y2)&&(decide (a0.N>=0))) s ?_ ?_)
  ·refine .both (((a0.Op==6)&&((a0.Dst==0)&&((a0.A==a0.A)&&((a0.B==0)&&((a0.N==a0.N)&&true)))))&&y2) (λb=>?_) (λb=>?_)
   ·have hg14:=b
    exact .g hg14 (.q z (.g hg14 (.q z (.s (pkt hg14 z z z) z (.nil (ck 3 s z (bi hg14)))))))
   exact .xx b z (.xx b z (.s (pkf b z z z) z (.nil (ck 3 s z (bj b)))))
  intro W s
  refine .q z (.cu 3 118 (((((a0.Op==6)&&((a0.Dst==0)&&((a0.A==a0.A)&&((a0.B==0)&&((a0.N==a0.N)&&true)))))&&y2)&&(decide (a0.N>=0)))&&(decide (a0.N<3))) s ?_ ?_)
  ·refine .both ((((a0.Op==6)&&((a0.Dst==0)&&((a0.A==a0.A)&&((a0.B==0)&&((a0.N==a0.N)&&true)))))&&y2)&&(decide (a0.N>=0))) (λb=>?_) (λb=>?_)
   ·have hg15:=b
    exact .g hg15 (.q z (.g hg15 (.q z (.s (pkt hg15 z z z) z (.nil (ck 3 s z (bi hg15)))))))
   exact .xx b z (.xx b z (.s (pkf b z z z) z (.nil (ck 3 s z (bj b)))))
  intro W s
  cases h
  exact .qn z (.ret (aa () (rt z rn) z (s.to [])))
 refine .g (.q z (.q z (.nil ?_)))
 refine .cs z h ?_ ?_ <;> intro h
 ·refine .g (.s (ld t70 s z z z z z) z (.s (fa f70_1 z z z) z (.s (ld t3 s z z z z z) z (.q z (.s (bs T.s70 z z) z (.s (eqs T.e70 z z z z) z (.q z (.cu 2 129 (((a0.Op==7)&&((a0.Dst==a0.Dst)&&((a0.A==0)&&((a0.B==0)&&((a0.N==a0.N)&&true)))))&&y1) s ?_ ?_))))))))
  ·refine .both (((a0.Op==7)&&((a0.Dst==a0.Dst)&&((a0.A==0)&&((a0.B==0)&&((a0.N==a0.N)&&true)))))) (λb=>?_) (λb=>?_)
   ·have hg16:=b
    exact .g hg16 (.q z (.s (pkt hg16 z z z) z (.nil (ck 2 s z (bi hg16)))))
   exact .xx b z (.s (pkf b z z z) z (.nil (ck 2 s z (bj b))))
  intro W s
  refine .q z (.cu 3 133 ((((a0.Op==7)&&((a0.Dst==a0.Dst)&&((a0.A==0)&&((a0.B==0)&&((a0.N==a0.N)&&true)))))&&y1)&&(decide (a0.N>=0))) s ?_ ?_)
  ·refine .both (((a0.Op==7)&&((a0.Dst==a0.Dst)&&((a0.A==0)&&((a0.B==0)&&((a0.N==a0.N)&&true)))))&&y1) (λb=>?_) (λb=>?_)
   ·have hg17:=b
    exact .g hg17 (.q z (.g hg17 (.q z (.s (pkt hg17 z z z) z (.nil (ck 3 s z (bi hg17)))))))
   exact .xx b z (.xx b z (.s (pkf b z z z) z (.nil (ck 3 s z (bj b)))))
  intro W s
  refine .q z (.cu 3 137 (((((a0.Op==7)&&((a0.Dst==a0.Dst)&&((a0.A==0)&&((a0.B==0)&&((a0.N==a0.N)&&true)))))&&y1)&&(decide (a0.N>=0)))&&(decide (a0.N<3))) s ?_ ?_)
  ·refine .both ((((a0.Op==7)&&((a0.Dst==a0.Dst)&&((a0.A==0)&&((a0.B==0)&&((a0.N==a0.N)&&true)))))&&y1)&&(decide (a0.N>=0))) (λb=>?_) (λb=>?_)
   ·have hg18:=b
    exact .g hg18 (.q z (.g hg18 (.q z (.s (pkt hg18 z z z) z (.nil (ck 3 s z (bi hg18)))))))
   exact .xx b z (.xx b z (.s (pkf b z z z) z (.nil (ck 3 s z (bj b)))))
  intro W s
  cases h
  exact .qn z (.ret (aa () (rt z rn) z (s.to [])))
 refine .g (.q z (.q z (.nil ?_)))
 refine .cs z h ?_ ?_ <;> intro h
 ·refine .g (.s (ld t70 s z z z z z) z (.s (fa f70_2 z z z) z (.s (ld t3 s z z z z z) z (.s (bs T.s70 z z) z (.s (eqs T.e70 z z z z) z (.q z (.cu 2 147 (((a0.Op==9)&&((a0.Dst==0)&&((a0.A==a0.A)&&((a0.B==0)&&((a0.N==0)&&true)))))&&y2) s ?_ ?_)))))))
  ·refine .both (((a0.Op==9)&&((a0.Dst==0)&&((a0.A==a0.A)&&((a0.B==0)&&((a0.N==0)&&true)))))) (λb=>?_) (λb=>?_)
   ·have hg19:=b
    exact .g hg19 (.q z (.s (pkt hg19 z z z) z (.nil (ck 2 s z (bi hg19)))))
   exact .xx b z (.s (pkf b z z z) z (.nil (ck 2 s z (bj b))))
  intro W s
  cases h
  exact .qn z (.ret (aa () (rt z rn) z (s.to [])))
 refine bv h λy6 hy6 h=>?_
 refine .seq (CW.via (R':=λx E' W'=>x=.normal/\aq E' [(2,Pt g1),(148,.bool y6)]/\Sep No w W' [.box g1 70 [vi a0.Op,vi a0.Dst,vi a0.A,vi a0.B,vi a0.N]]) ?_ ?_)
 ·have h:=hy6
  refine .g (.q z (.q z (.nil ?_)))
  refine .cs z h ?_ ?_ <;> intro h
  ·refine .skip ?_
   cases h
   exact ⟨z,sb z,s.tk [0]⟩
  refine .region (.q z (.q z (.nil ?_)))
  cases h
  exact ⟨z,sb z,s.tk [0]⟩
 intro x E W hJ
 obtain ⟨rfl,hE,s⟩:=hJ
 refine ⟨_,hE.sub,?_⟩
 refine .cs z h ?_ ?_ <;> intro h
 ·cases h
  exact .g (.s (ld t70 s z z z z z) z (.s (fa f70_0 z z z) z (.s (ld t3 s z z z z z) z (.s (bs T.s70 z z) z (.s (eqs T.e70 z z z z) z (.qn z (.ret (aa () (rt z rn) z (s.to [])))))))))
 obtain rfl:=o9 h
 exact .skip (.g (.qn z (.ret (aa () (rt z rn) z (s.to [])))))
def uN (w:World) (r:Bool):Env->World->Prop:=Fin Tryz.prog Tryz.f67 No w (λs:Unit=>.bool r) (λs=>[]) .ret
theorem bT {a0:List ab} {v_0:Hd} {w:World} {r:Bool} (h:bg a0=some r) (q_0:RO w v_0 70 5 ah a0):CL 67 #[sv v_0] w (RU w (.bool r)):=by
 unfold bg at h
 refine ao func67 z z ?_
 have s:=Sep.start w
 refine .g (.qn z (.seq (.g (.q z (.s (aE (s.keep q_0) u38 z z) z (.q z (.q z (.cu 4 13 ((decide ((a0.length:Int)<1))||(decide ((a0.length:Int)>600))) s ?_ ?_))))))))
 ·refine .both (decide ((a0.length:Int)<1)) (λb=>?_) (λb=>?_)
  ·exact .xx b z (.xx b z (.xx b z (.s (pkt b z z z) z (.nil (ck 4 s z (iH b))))))
  have hg1:=b
  exact .g hg1 (.q z (.g hg1 (.s (aE (s.keep q_0) u38 z z) z (.g hg1 (.q z (.s (pkf hg1 z z z) z (.nil (ck 4 s z (gS hg1)))))))))
 intro W s
 refine .nil ?_
 refine .cs z h ?_ ?_ <;> intro h
 ·obtain rfl:=o9 h
  exact .g (.qn z (.ret (aa () (rt z rn) z (s.to []))))
 refine .skip (.seq (.g (.q z (.s (aE (s.keep q_0) u38 z z) z (.qn z (.block (bv h λy1 hy1 h=>?_)))))))
 refine .via (.iter (λs1 E' W'=>aq E' [(0,(sv v_0)),(14,(sv v_0)),(15,vi (a0.length:Int)),(16,vi s1)]/\Sep No w W' []) (λy2 x E' W'=>(match y2 with | .inl o1=>x=.ret/\uN w o1 E' W' | .inr o2=>x=.exit 0/\aq E' [(0,(sv v_0))]/\Sep No w W' [])) hy1 ⟨sb rfl,s.to [] rfl⟩ ?_) ?_
 ·intro s1 y3 E W h hI
  obtain ⟨hE,s⟩:=hI
  refine CW.sub hE ?_
  unfold mp at h
  refine .g (.qn z (.seq ?_))
  refine .cs z h ?_ ?_ <;> intro h
  ·refine .skip (.seq (.block (.g (bv h λx1 hx1 h=>.s (ixv (s.keep q_0) hx1 u38 t70 z z z) z (.s (lde (RV.flat (s.keep q_0) hx1 z) t70 z z z z z) z (.c (.alloc t70 s ?_)))))))
   intro g1 W s
   refine .c (.st t70 s z z z ?_)
   intro W s
   refine .nil (.g (.s (ld t70 s z z z z z) z (.q z (.s (aE (s.keep q_0) u38 z z) z (bv h λy4 hy4 h=>.c (.cO s func126 (tT hy4) z z ?_))))))
   intro W s
   refine .q z (.nil ?_)
   refine .cs z h ?_ ?_ <;> intro h
   ·refine .g (.qn z (.ret ?_))
    cases h
    exact ⟨by simp,z,aa (vs:=[_]) () (rt z rn) z (s.to [])⟩
   refine .skip (.region (.q z (.q z (.nil ?_))))
   cases h
   exact ⟨z,sb z,s.to []⟩
  refine .exit ?_
  cases h
  exact ⟨by simp,z,sb z,s.to []⟩
 intro x E W hJ
 rcases y1 with o3 | o4
 ·have h:=bW h
  obtain ⟨rfl,hF⟩:=hJ
  refine ⟨_,λ_ _ h=>h,?_⟩
  cases h
  exact hF
 have h:=bX h
 obtain ⟨rfl,hE,s⟩:=hJ
 refine ⟨_,hE.sub,?_⟩
 refine .g (.q z (.q z (.s (aE (s.keep q_0) u38 z z) z (.q z (bv h λx2 hx2 h=>.s (ixv (s.keep q_0) hx2 u38 t70 z z z) z (.s (fe f70_0 z z z) z (.s (lde (RV.flat (s.keep q_0) hx2 z) t3 z z z z z) z (.qn z (.g (.q z (.q z (.q z (.cu 3 38 ((x2.Op==10)||(x2.Op==4)) s ?_ ?_)))))))))))))
 ·refine .both (x2.Op==10) (λb=>?_) (λb=>?_)
  ·exact .xx b z (.xx b z (.s (pkt b z z z) z (.nil (ck 3 s z (iH b)))))
  have hg2:=b
  exact .g hg2 (.q z (.g hg2 (.q z (.s (pkf hg2 z z z) z (.nil (ck 3 s z (gS hg2)))))))
 intro W s
 cases h
 exact .qn z (.ret (aa () (rt z rn) z (s.to [])))
theorem aZ {a0:List ab} {v_0:Hd} {w:World} {r:(List ab)} (h:aD a0=some r) (q_0:RO w v_0 70 5 ah a0):CL 69 #[sv v_0] w (Ret No w (λs:Hd=>(sv s)) (λs=>[ac (sv s) 70 5 ah r])):=by
 unfold aD at h
 refine ao func69 z z ?_
 have s:=Sep.start w
 refine .g (.qn z (.seq (.g (.q z (.s (FI u38 z z) z (.nil (.cond z (λb=>?_) (λb=>?_))))))))
 ·have hl:=RV.isnil q_0 b
  subst hl
  refine .g (.qn z (.ret ?_))
  have s:=s.nilv 70 5 ah
  have h:some []=some r:=h
  cases h
  exact aa df (rt z rn) z (s.tk [0])
 refine .skip (.g (.c (.liv [] ah u38 t70 s z z z z ?_ z (λ_=>z))))
 intro v1 W s
 refine .q z (bv h λr1 hr1 h=>.c (.av hr1 s (s.keep q_0) (λ_=>z) u38 t70 z z z ?_))
 intro v2 W s
 obtain rfl:=o9 h
 exact .qn z (.ret (aa v2 (rt z rn) z (s.tk [0])))
theorem ki {a0:ab} {w:World} {r:Int} (h:eM a0=some r):CL 176 #[.agg #[vi a0.Op,vi a0.Dst,vi a0.A,vi a0.B,vi a0.N]] w (RU w (.int .i64 r)):=by
 unfold eM at h
 refine ao func176 z z ?_
 have s:=Sep.start w
 refine .g (.c (.box s z z ?_))
 intro g1 W s
 refine .qn z (.seq (.g (.s (fa f70_0 z z z) z (.s (ld t3 s z z z z z) z (.nil (.block (bv h λy1 hy1 h=>?_)))))))
 refine .seq (CW.via (R':=λx E' W'=>x=.normal/\aq E' [(1,Pt g1),(5,.bool y1)]/\Sep No w W' [.box g1 70 [vi a0.Op,vi a0.Dst,vi a0.A,vi a0.B,vi a0.N]]) ?_ ?_)
 ·have h:=hy1
  refine .g (.q z (.q z (.nil ?_)))
  refine .cs z h ?_ ?_ <;> intro h
  ·refine .skip ?_
   cases h
   exact ⟨z,sb z,s.tk [0]⟩
  refine .g (.q z (.q z (.nil ?_)))
  refine .cs z h ?_ ?_ <;> intro h
  ·refine .skip ?_
   cases h
   exact ⟨z,sb z,s.tk [0]⟩
  refine .g (.q z (.q z (.nil ?_)))
  refine .cs z h ?_ ?_ <;> intro h
  ·refine .skip ?_
   cases h
   exact ⟨z,sb z,s.tk [0]⟩
  refine .region (.q z (.q z (.nil ?_)))
  cases h
  exact ⟨z,sb z,s.tk [0]⟩
 intro x E W hJ
 obtain ⟨rfl,hE,s⟩:=hJ
 refine ⟨_,hE.sub,?_⟩
 refine .cs z h ?_ ?_ <;> intro h
 ·cases h
  exact .g (.s (fa f70_1 z z z) z (.s (ld t3 s z z z z z) z (.qn z (.ret (aa () (rt z rn) z (s.to []))))))
 cases h
 exact .skip (.g (.qn z (.ret (aa () (rt z rn) z (s.to [])))))
theorem kR {a0:Int} {w:World} {r:Int} (h:eX a0=some r):CL 92 #[vi a0] w (RU w (.int .i64 r)):=by
 unfold eX at h
 refine ao func92 z z ?_
 have s:=Sep.start w
 cases h
 exact .g (.qn z (.g (.q z (.s (cv u3 u21 z z) z (.s (cv u21 u3 z z) z (.qn z (.ret (aa () (rt z rn) z (s.to [])))))))))
theorem sA {a0:Bool} {w:World} {r:Int} (h:m4 a0=some r):CL 273 #[.bool a0] w (RU w (.int .i64 r)):=by
 unfold m4 at h
 refine ao func273 z z ?_
 have s:=Sep.start w
 refine .g (.qn z (.seq (.g (.q z (.nil ?_)))))
 refine .cs z h ?_ ?_ <;> intro h
 ·cases h
  exact .g (.qn z (.ret (aa () (rt z rn) z (s.to []))))
 cases h
 exact .skip (.g (.qn z (.ret (aa () (rt z rn) z (s.to [])))))
theorem sB {a0:Int} {a1:Int} {a2:Int} {w:World} {r:Int} (h:jK a0 a1 a2=some r):CL 255 #[vi a0,vi a1,vi a2] w (RU w (.int .i64 r)):=by
 unfold jK at h
 refine ao func255 z z ?_
 have s:=Sep.start w
 refine .g (.qn z (.seq (.g (.qn z (.block (.g (.q z (.q z (.nil ?_)))))))))
 refine .cs z h ?_ ?_ <;> intro h
 ·cases h
  exact .g (.q z (.q z (.q z (.qn z (.ret (aa () (rt z rn) z (s.to [])))))))
 refine .g (.q z (.q z (.nil ?_)))
 refine .cs z h ?_ ?_ <;> intro h
 ·cases h
  exact .g (.q z (.q z (.q z (.qn z (.ret (aa () (rt z rn) z (s.to [])))))))
 refine .g (.q z (.q z (.nil ?_)))
 refine .cs z h ?_ ?_ <;> intro h
 ·cases h
  exact .g (.q z (.q z (.q z (.qn z (.ret (aa () (rt z rn) z (s.to [])))))))
 refine .g (.q z (.q z (.nil ?_)))
 refine .cs z h ?_ ?_ <;> intro h
 ·refine .g (.q z (.q z (.q z (bv h λy1 hy1 h=>.c (.cO s func273 (sA hy1) z z ?_)))))
  intro W s
  obtain rfl:=o9 h
  exact .qn z (.ret (aa () (rt z rn) z (s.to [])))
 refine .g (.q z (.q z (.nil ?_)))
 refine .cs z h ?_ ?_ <;> intro h
 ·refine .g (.q z (.q z (.q z (bv h λy2 hy2 h=>.c (.cO s func273 (sA hy2) z z ?_)))))
  intro W s
  obtain rfl:=o9 h
  exact .qn z (.ret (aa () (rt z rn) z (s.to [])))
 refine .g (.q z (.q z (.nil ?_)))
 refine .cs z h ?_ ?_ <;> intro h
 ·refine .g (.q z (.q z (.q z (bv h λd1 hd1 h=>.s (fJ hd1 z z z) z (bv h λy3 hy3 h=>.c (.cO s func92 (kR hy3) z z ?_))))))
  intro W s
  obtain rfl:=o9 h
  exact .qn z (.ret (aa () (rt z rn) z (s.to [])))
 refine .g (.q z (.q z (.nil ?_)))
 refine .cs z h ?_ ?_ <;> intro h
 ·refine .g (.q z (.q z (.q z (bv h λd2 hd2 h=>.s (fJ hd2 z z z) z (.qn z (.ret ?_))))))
  obtain rfl:=o9 h
  exact aa () (rt z rn) z (s.to [])
 refine .g (.q z (.q z (.nil ?_)))
 refine .cs z h ?_ ?_ <;> intro h
 ·refine .g (.q z (.q z (.q z (bv h λy4 hy4 h=>.c (.cO s func92 (kR hy4) z z ?_)))))
  intro W s
  obtain rfl:=o9 h
  exact .qn z (.ret (aa () (rt z rn) z (s.to [])))
 refine .g (.q z (.q z (.nil ?_)))
 refine .cs z h ?_ ?_ <;> intro h
 ·refine .g (.q z (.q z (.q z (bv h λy5 hy5 h=>.c (.cO s func92 (kR hy5) z z ?_)))))
  intro W s
  obtain rfl:=o9 h
  exact .qn z (.ret (aa () (rt z rn) z (s.to [])))
 refine .g (.q z (.q z (.nil ?_)))
 refine .cs z h ?_ ?_ <;> intro h
 ·refine .g (.q z (.q z (.q z (bv h λy6 hy6 h=>.c (.cO s func92 (kR hy6) z z ?_)))))
  intro W s
  obtain rfl:=o9 h
  exact .qn z (.ret (aa () (rt z rn) z (s.to [])))
 refine .g (.q z (.q z (.nil ?_)))
 refine .cs z h ?_ ?_ <;> intro h
 ·refine .seq (.g (.q z (.q z (.nil ?_))))
  refine .cs z h ?_ ?_ <;> intro h
  ·cases h
   exact .g (.qn z (.ret (aa () (rt z rn) z (s.to []))))
  refine .skip (.g (.q z (.q z (bv h λd3 hd3 h=>.s (dq hd3 z z z) z (bv h λy7 hy7 h=>.c (.cO s func92 (kR hy7) z z ?_))))))
  intro W s
  obtain rfl:=o9 h
  exact .qn z (.ret (aa () (rt z rn) z (s.to [])))
 refine .skip (.seq (.g (.q z (.q z (.nil ?_)))))
 refine .cs z h ?_ ?_ <;> intro h
 ·obtain rfl:=o9 h
  exact .g (.q z (.qn z (.ret (aa () (rt z rn) z (s.to [])))))
 refine .skip (.g (.q z (.q z (bv h λd4 hd4 h=>.s (dr hd4 z z z) z (.qn z (.ret ?_))))))
 obtain rfl:=o9 h
 exact aa () (rt z rn) z (s.to [])
theorem nJ {a0:Ar ai} {a1:ab} {w:World} {r:(Ar ai)} (h:ga a0 a1=some r):CL 210 #[.agg (fM a0).toArray,.agg #[vi a1.Op,vi a1.Dst,vi a1.A,vi a1.B,vi a1.N]] w (RU w (.agg (fM r).toArray)):=by
 unfold ga at h
 refine ao func210 z z ?_
 have s:=Sep.start w
 refine .g (.c (.box s z z ?_))
 intro g1 W s
 have s:Sep _ _ _ [.box g1 181 (fM a0)]:=id s
 refine .c (.box s z z ?_)
 intro g2 W s
 refine .c (.alloc t181 s ?_)
 intro g3 W s
 have s:Sep _ _ _ [.box g3 181 (fM (λ_=>(ai.mk 0 0))),.box g2 70 [vi a1.Op,vi a1.Dst,vi a1.A,vi a1.B,vi a1.N],.box g1 181 (fM a0)]:=id s
 refine .nil (.g (.s (ld t70 s.p1 z z z z z) z (bv h λy1 hy1 h=>.c (.cO s func176 (ki hy1) z z ?_))))
 intro W s
 refine .qn z (.seq (.g (.q z (.q z (.nil ?_)))))
 refine .cs z h ?_ ?_ <;> intro h
 ·refine .g (.s (lda t181 s.p2 (iJ _) z z) z (.c (.sta t181 s iJ sL z z z ?_)))
  intro W s
  obtain rfl:=o9 h
  exact .nil (.ret (aa () (rc s t181 z rn (iJ _) z) z (s.to [])))
 refine .skip (.g (.s (bs T.s179 z z) z (.c (.alloc t179 s ?_))))
 intro g4 W s
 refine .c (.st t179 s z z z ?_)
 intro W s
 refine .nil (bv h λy2 hy2 h=>?_)
 refine .seq (CW.via (R':=λx E' W'=>x=.normal/\aq E' [(2,Pt g1),(4,Pt g3),(5,vi y1),(6,Pt g4)]/\Sep No w W' [.box g4 179 [vi y2.Kind,vi y2.N],.box g3 181 (fM (λ_=>(ai.mk 0 0))),.box g2 70 [vi a1.Op,vi a1.Dst,vi a1.A,vi a1.B,vi a1.N],.box g1 181 (fM a0)]) ?_ ?_)
 ·have h:=hy2
  refine .g (.s (fa f70_0 z z z) z (.s (ld t3 s.p2 z z z z z) z (.nil (.block (.g (.q z (.q z (.nil ?_))))))))
  refine .cs z h ?_ ?_ <;> intro h
  ·refine .region (.s (fa f70_4 z z z) z (.s (ld t3 s.p2 z z z z z) z (.s (bs T.s179 z z) z (.c (.st t179 s z z z ?_)))))
   intro W s
   refine .nil ?_
   cases h
   exact ⟨z,sb z,s.tk [0,0,0,0]⟩
  refine .g (.q z (.q z (.nil ?_)))
  refine .cs z h ?_ ?_ <;> intro h
  ·refine .region (.s (fa f70_2 z z z) z (.s (ld t3 s.p2 z z z z z) z (bv h λx1 hx1 h=>.s (ixa hx1 u181 t179 z z z) z (.s (ldx s.p3 hx1 (λ_=>z) t179 z z z z z) z (.c (.st t179 s z z z ?_))))))
   intro W s
   refine .nil ?_
   obtain rfl:=o9 h
   exact ⟨z,sb z,s.tk [0,0,0,0]⟩
  refine .g (.q z (.q z (.nil ?_)))
  refine .cs z h ?_ ?_ <;> intro h
  ·refine .g (.s (fa f70_2 z z z) z (.s (ld t3 s.p2 z z z z z) z (bv h λx2 hx2 h=>.s (ixa hx2 u181 t179 z z z) z (.s (fa f179_0 z z z) z (.s (ldx s.p3 hx2 (λ_=>z) t3 z z z z z) z (.q z (.q z (bv h λb1 hb1 h=>.cu 7 41 (b1) s ?_ ?_))))))))
   ·refine .both (x2.Kind==1) (λb=>?_) (λb=>?_)
    ·have hg1:=b
     have h:=aK b hb1
     refine .g hg1 (.s (fa f70_3 z z z) z (.g hg1 (.s (ld t3 s.p2 z z z z z) z (bv h λx3 hx3 h=>.g hg1 (.s (ixa hx3 u181 t179 z z z) z (.g hg1 (.s (fa f179_0 z z z) z (.g hg1 (.s (ldx s.p3 hx3 (λ_=>z) t3 z z z z z) z (.g hg1 (.q z (.s (pkt hg1 z z z) z ?_))))))))))))
     cases h
     exact .nil (ck 7 s)
    refine .xx b z (.xx b z (.xx b z (.xx b z (.xx b z (.xx b z ?_)))))
    cases aL b hb1
    exact .s (pkf b z z z) z (.nil (ck 7 s))
   intro W s
   refine .nil ?_
   refine .cs z h ?_ ?_ <;> intro h
   ·refine .rk 14 s [0,0,0,0] T.mix ?_
    intro W s
    have t:=s.to [0,0,0,0]
    refine .ts' 0 z (λW t=>fa f70_4 z z z) t z (.ts' 1 z (λW t=>ld t3 t.p2 z z z z z) t z (.ts' 2 z (λW t=>fa f70_2 z z z) t z (.ts' 3 z (λW t=>ld t3 t.p2 z z z z z) t z (bv h λx4 hx4 h=>.ts' 4 z (λW t=>ixa hx4 u181 t179 z z z) t z (.ts' 5 z (λW t=>fa f179_1 z z z) t z (.ts' 6 z (λW t=>ldx t.p3 hx4 (λ_=>z) t3 z z z z z) t z (.ts' 7 z (λW t=>fa f70_3 z z z) t z (.ts' 8 z (λW t=>ld t3 t.p2 z z z z z) t z (bv h λx5 hx5 h=>.ts' 9 z (λW t=>ixa hx5 u181 t179 z z z) t z (.ts' 10 z (λW t=>fa f179_1 z z z) t z (.ts' 11 z (λW t=>ldx t.p3 hx5 (λ_=>z) t3 z z z z z) t z (bv h λy3 hy3 h=>.by1 12 z (.cO s func255 (sB hy3) z z ?_)))))))))))))
    intro W s
    refine s.an [0,0,0,0] λt=>.ts' 13 z (λW t=>bs T.s179 z z) t z (.by1 14 z (.st t179 s z z z ?_))
    intro W s
    refine ⟨λh=>absurd z h,?_⟩
    refine .done ?_
    cases h
    exact ⟨z,sb z,s.tk [0,0,0,0]⟩
   refine .skip ?_
   cases h
   exact ⟨z,sb z,s.tk [0,0,0,0]⟩
  refine .skip ?_
  cases h
  exact ⟨z,sb z,s.tk [0,0,0,0]⟩
 intro x E W hJ
 obtain ⟨rfl,hE,s⟩:=hJ
 refine ⟨_,hE.sub,?_⟩
 refine .g (.q z (.s (ld t179 s z z z z z) z (bv h λx6 hx6 h=>.s (ixa hx6 u181 t179 z z z) z (.c (.stx (x1:=y2) hx6 s.p3 (λ_=>z) t179 z z z z ?_)))))
 intro W s
 refine .nil (.g (.s (lda t181 s (iJ _) z z) z (.c (.sta t181 s.p2 iJ sL z z z ?_))))
 intro W s
 cases h
 exact .nil (.ret (aa () (rc s t181 z rn (iJ _) z) z (s.to [])))
theorem mM {a0:ab} {a1:Int} {w:World} {r:(List Int)} (h:iE a0 a1=some r):CL 217 #[.agg #[vi a0.Op,vi a0.Dst,vi a0.A,vi a0.B,vi a0.N],vi a1] w (Ret No w (λs:Hd=>(sv s)) (λs=>[ac (sv s) 3 1 (D.int .i64) r])):=by
 unfold iE at h
 refine ao func217 z z ?_
 have s:=Sep.start w
 refine .g (.c (.box s z z ?_))
 intro g1 W s
 refine .qn z (.seq (.block (.g (.s (fa f70_0 z z z) z (.s (ld t3 s z z z z z) z (.q z (.q z (.nil ?_))))))))
 refine .cs z h ?_ ?_ <;> intro h
 ·refine .g (.qn z (.ret ?_))
  have s:=s.nilv 3 1 (D.int .i64)
  cases h
  exact aa df (rt z rn) z (s.tk [0])
 refine .g (.s (fa f70_0 z z z) z (.s (ld t3 s z z z z z) z (.q z (.q z (.nil ?_)))))
 refine .cs z h ?_ ?_ <;> intro h
 ·refine .g (.s (fa f70_4 z z z) z (.s (ld t3 s z z z z z) z (.c (.liv [a0.N] (D.int .i64) u23 t3 s z z z z ?_ z (λ_=>z)))))
  intro v1 W s
  cases h
  exact .qn z (.ret (aa v1 (rt z rn) z (s.tk [0])))
 refine .g (.s (fa f70_0 z z z) z (.s (ld t3 s z z z z z) z (.q z (.q z (.cu 6 26 ((a0.Op==5)&&(decide (a0.N<(w64 (a1+1))))) s ?_ ?_)))))
 ·refine .both (a0.Op==5) (λb=>?_) (λb=>?_)
  ·have hg1:=b
   exact .g hg1 (.s (fa f70_4 z z z) z (.g hg1 (.s (ld t3 s z z z z z) z (.g hg1 (.q z (.g hg1 (.q z (.g hg1 (.q z (.s (pkt hg1 z z z) z (.nil (ck 6 s z (bi hg1)))))))))))))
  exact .xx b z (.xx b z (.xx b z (.xx b z (.xx b z (.s (pkf b z z z) z (.nil (ck 6 s z (bj b))))))))
 intro W s
 refine .q z (.nil ?_)
 refine .cs z h ?_ ?_ <;> intro h
 ·refine .g (.s (fa f70_4 z z z) z (.s (ld t3 s z z z z z) z (.q z (.q z (.c (.liv [a0.N,w64 (a1+1)] (D.int .i64) u23 t3 s z z z z ?_ z (λ_=>z)))))))
  intro v2 W s
  cases h
  exact .qn z (.ret (aa v2 (rt z rn) z (s.tk [0])))
 refine .g (.s (fa f70_0 z z z) z (.s (ld t3 s z z z z z) z (.q z (.q z (.cu 6 42 ((a0.Op==5)&&(decide (a0.N>(w64 (a1+1))))) s ?_ ?_)))))
 ·refine .both (a0.Op==5) (λb=>?_) (λb=>?_)
  ·have hg2:=b
   exact .g hg2 (.s (fa f70_4 z z z) z (.g hg2 (.s (ld t3 s z z z z z) z (.g hg2 (.q z (.g hg2 (.q z (.g hg2 (.q z (.s (pkt hg2 z z z) z (.nil (ck 6 s z (bi hg2)))))))))))))
  exact .xx b z (.xx b z (.xx b z (.xx b z (.xx b z (.s (pkf b z z z) z (.nil (ck 6 s z (bj b))))))))
 intro W s
 refine .q z (.nil ?_)
 refine .cs z h ?_ ?_ <;> intro h
 ·refine .g (.q z (.q z (.s (fa f70_4 z z z) z (.s (ld t3 s z z z z z) z (.c (.liv [w64 (a1+1),a0.N] (D.int .i64) u23 t3 s z z z z ?_ z (λ_=>z)))))))
  intro v3 W s
  cases h
  exact .qn z (.ret (aa v3 (rt z rn) z (s.tk [0])))
 refine .skip (.g (.q z (.q z (.c (.liv [w64 (a1+1)] (D.int .i64) u23 t3 s z z z z ?_ z (λ_=>z))))))
 intro v4 W s
 cases h
 exact .qn z (.ret (aa v4 (rt z rn) z (s.tk [0])))
theorem vT {a0:ab} {a1:Int} {a2:Ar ai} {w:World} {r:(List Int)} (h:mq a0 a1 a2=some r):CL 211 #[.agg #[vi a0.Op,vi a0.Dst,vi a0.A,vi a0.B,vi a0.N],vi a1,.agg (fM a2).toArray] w (Ret No w (λs:Hd=>(sv s)) (λs=>[ac (sv s) 3 1 (D.int .i64) r])):=by
 unfold mq at h
 refine ao func211 z z ?_
 have s:=Sep.start w
 refine .g (.c (.box s z z ?_))
 intro g1 W s
 refine .c (.box s z z ?_)
 intro g2 W s
 have s:Sep _ _ _ [.box g2 181 (fM a2),.box g1 70 [vi a0.Op,vi a0.Dst,vi a0.A,vi a0.B,vi a0.N]]:=id s
 refine .qn z (.seq (.g (.s (fa f70_0 z z z) z (.s (ld t3 s.p1 z z z z z) z (.q z (.q z (bv h λb1 hb1 h=>.cu 7 17 (b1) s ?_ ?_)))))))
 ·refine .both (a0.Op==5) (λb=>?_) (λb=>?_)
  ·have hg1:=b
   have h:=aK b hb1
   refine .g hg1 (.s (fa f70_2 z z z) z (.g hg1 (.s (ld t3 s.p1 z z z z z) z (bv h λx1 hx1 h=>.g hg1 (.s (ixa hx1 u181 t179 z z z) z (.g hg1 (.s (fa f179_0 z z z) z (.g hg1 (.s (ldx s hx1 (λ_=>z) t3 z z z z z) z (.g hg1 (.q z (.s (pkt hg1 z z z) z ?_))))))))))))
   cases h
   exact .nil (ck 7 s)
  refine .xx b z (.xx b z (.xx b z (.xx b z (.xx b z (.xx b z ?_)))))
  cases aL b hb1
  exact .s (pkf b z z z) z (.nil (ck 7 s))
 intro W s
 refine .nil ?_
 refine .cs z h ?_ ?_ <;> intro h
 ·refine .seq (.g (.s (fa f70_2 z z z) z (.s (ld t3 s.p1 z z z z z) z (bv h λx2 hx2 h=>.s (ixa hx2 u181 t179 z z z) z (.s (fa f179_1 z z z) z (.s (ldx s hx2 (λ_=>z) t3 z z z z z) z (.q z (.nil ?_))))))))
  refine .cs z h ?_ ?_ <;> intro h
  ·refine .g (.s (fa f70_4 z z z) z (.s (ld t3 s.p1 z z z z z) z (.c (.liv [a0.N] (D.int .i64) u23 t3 s z z z z ?_ z (λ_=>z)))))
   intro v1 W s
   cases h
   exact .qn z (.ret (aa v1 (rt z rn) z (s.tk [0])))
  refine .skip (.g (.q z (.q z (.c (.liv [w64 (a1+1)] (D.int .i64) u23 t3 s z z z z ?_ z (λ_=>z))))))
  intro v2 W s
  cases h
  exact .qn z (.ret (aa v2 (rt z rn) z (s.tk [0])))
 refine .skip (.g (.s (ld t70 s.p1 z z z z z) z (.q z (bv h λy1 hy1 h=>.c (.cV s func217 (mM hy1) z z ?_)))))
 intro v3 W s
 obtain rfl:=o9 h
 exact .qn z (.ret (aa v3 (rt z rn) z (s.tk [0])))
theorem tU {a0:ai} {a1:ai} {w:World} {r:ai} (h:jL a0 a1=some r):CL 212 #[.agg #[vi a0.Kind,vi a0.N],.agg #[vi a1.Kind,vi a1.N]] w (RU w (.agg #[vi r.Kind,vi r.N])):=by
 unfold jL at h
 refine ao func212 z z ?_
 have s:=Sep.start w
 refine .g (.c (.box s z z ?_))
 intro g1 W s
 refine .c (.box s z z ?_)
 intro g2 W s
 refine .c (.alloc t179 s ?_)
 intro g3 W s
 refine .nil (.seq (.block (.g (.s (fa f179_0 z z z) z (.s (ld t3 s.p2 z z z z z) z (.q z (.q z (.cu 4 13 ((a0.Kind==0)||((a0.Kind==a1.Kind)&&((a0.N==a1.N)&&true))) s ?_ ?_))))))))
 ·refine .both (a0.Kind==0) (λb=>?_) (λb=>?_)
  ·exact .xx b z (.xx b z (.xx b z (.s (pkt b z z z) z (.nil (ck 4 s z (iH b))))))
  have hg1:=b
  exact .g hg1 (.s (ld t179 s.p2 z z z z z) z (.g hg1 (.s (ld t179 s.p1 z z z z z) z (.g hg1 (.s (eqs T.e179 z z z z) z (.s (pkf hg1 z z z) z (.nil (ck 4 s z (gS hg1)))))))))
 intro W s
 refine .q z (.nil ?_)
 refine .cs z h ?_ ?_ <;> intro h
 ·refine .g (.s (ld t179 s.p1 z z z z z) z (.c (.st t179 s z z z ?_)))
  intro W s
  obtain rfl:=o9 h
  exact .nil (.ret (aa () (rc s t179 z rn z z) z (s.to [])))
 refine .g (.s (fa f179_0 z z z) z (.s (ld t3 s.p1 z z z z z) z (.q z (.q z (.nil ?_)))))
 refine .cs z h ?_ ?_ <;> intro h
 ·refine .g (.s (ld t179 s.p2 z z z z z) z (.c (.st t179 s z z z ?_)))
  intro W s
  obtain rfl:=o9 h
  exact .nil (.ret (aa () (rc s t179 z rn z z) z (s.to [])))
 refine .skip (.g (.s (bs T.s179 z z) z (.c (.st t179 s z z z ?_))))
 intro W s
 cases h
 exact .nil (.ret (aa () (rc s t179 z rn z z) z (s.to [])))
theorem rP {a0:List ab} {v_0:Hd} {w:World} {r:(List (Ar ai))} (h:eY a0=some r) (q_0:RO w v_0 70 5 ah a0):CL 164 #[sv v_0] w (Ret No w (λs:Hd=>(sv s)) (λs=>[ac (sv s) 181 24 (arD 12 a6) r])):=by
 unfold eY at h
 refine ao func164 z z ?_
 have s:=Sep.start w
 refine .g (.qn z (.g (.q z (.s (aE (s.keep q_0) u38 z z) z (bv h λr1 hr1 h=>.c (.mkv (λ_=>(ai.mk 0 0)) (arD 12 a6) hr1 u176 t181 s z z z z z (λ_=>z) ?_))))))
 intro v1 W s
 refine .qn z (.seq (.g (.qn z (.block (bv h λy1 hy1 h=>?_)))))
 refine .via (.iter (λs1 E' W'=>aq E' [(0,(sv v_0)),(3,(sv v1)),(15,vi s1.1)]/\Sep No w W' [ac (sv v1) 181 24 (arD 12 a6) s1.2]) (λy2 x E' W'=>x=.exit 0/\aq E' [(0,(sv v_0)),(3,(sv v1))]/\Sep No w W' [ac (sv v1) 181 24 (arD 12 a6) y2]) hy1 ⟨sb z,s.tk [0]⟩ ?_) ?_
 ·intro s1 y3 E W h hI
  obtain ⟨hE,s⟩:=hI
  refine CW.sub hE ?_
  unfold kY at h
  refine .g (.qn z (.seq ?_))
  refine .cs z h ?_ ?_ <;> intro h
  ·refine .skip (.seq (.block (.g (.q z (.qn z (.region (.q z (.q z (.s (bs T.s179 z z) z (bv h λx1 hx1 h=>.s (ixv s.lv hx1 u176 t181 z z z) z (bv h λx2 hx2 h=>.s (Gg hx2 u181 t179 z z z) z (bv h λr2 hr2 h=>.c (.sevx hr2 hx1 hx2 s t179 (λ_=>z) (λ_=>z) z z z z ?_)))))))))))))
   intro W s
   refine .nil (.region (.q z (.q z (.nil ?_))))
   cases h
   exact ⟨z,sb z,s.tk [0]⟩
  refine .exit ?_
  cases h
  exact ⟨by simp,z,sb z,s.tk [0]⟩
 intro x E W hJ
 obtain ⟨rfl,hE,s⟩:=hJ
 refine ⟨_,hE.sub,?_⟩
 refine .seq (.g (.c (.liv [0] (D.int .i64) u23 t3 s z z z z ?_ z (λ_=>z))))
 intro v2 W s
 refine .qn z (.block (bv h λy4 hy4 h=>?_))
 refine .via (.iter (λs2 E' W'=>∃ (v5:Hd),aq E' [(0,(sv v_0)),(3,(sv v1)),(5,(sv v5))]/\Sep No w W' [ac (sv v1) 181 24 (arD 12 a6) s2.2,ac (sv v5) 3 1 (D.int .i64) s2.1]) (λy5 x E' W'=>x=.exit 2/\aq E' [(3,(sv v1))]/\Sep No w W' [ac (sv v1) 181 24 (arD 12 a6) y5]) hy4 ⟨v2,sb z,s.tk [1,0]⟩ ?_) ?_
 ·intro s2 y6 E W h hI
  obtain ⟨v4,hE,s⟩:=hI
  refine CW.sub hE ?_
  unfold jM at h
  refine .seq (.g (.q z (.s (aE s.p1.lv u23 z z) z (.q z (.nil ?_)))))
  refine .cs z h ?_ ?_ <;> intro h
  ·refine .skip (.block (.g (.q z (.q z (.s (aE s.p1.lv u23 z z) z (.q z (bv h λx3 hx3 h=>.s (ixv s.p1.lv hx3 u23 t3 z z z) z (.s (lde (RV.flat s.p1.lv hx3 z) t3 z z z z z) z (.qn z (.g (.q z (.q z (.s (aE s.p1.lv u23 z z) z (.q z (bv h λr3 hr3 h=>.c (.cuto hr3 s.p1 u23 t3 z z z z ?_))))))))))))))))
   intro v6 s
   refine .qn z (.seq (bv h λx4 hx4 h=>bv h λx5 hx5 h=>bv h λy7 hy7 h=>?_))
   refine .via (R':=λx E' W'=>x=.normal/\∃ (g1:Nat),aq E' [(0,(sv v_0)),(3,(sv v1)),(5,(sv v6)),(6,vi x3),(7,Pt g1)]/\Sep No w W' [ac (sv v6) 3 1 (D.int .i64) r3,ac (sv v1) 181 24 (arD 12 a6) s2.2,.box g1 181 (fM y7)]) ?_ ?_
   ·refine .rk 10 s [0,0] T.mix ?_
    intro W s
    have t:=s.to [0,0]
    refine .tp' 0 z z t (.tp' 1 z z t (.ts' 2 z (λW t=>ixv s.p1.lv hx4 u176 t181 z z z) t z (.ts' 3 z (λW t=>yW (RV.flat (cs:=fM x4) t.p1.lv hx4 (uz λ_=>z)) t181 (iJ _) z z) t z (.tp' 4 z z t (.tp' 5 z z t (.ts' 6 z (λW t=>ixv (s.keep q_0) hx5 u38 t70 z z z) t z (.ts' 7 z (λW t=>lde (RV.flat (t.keep q_0) hx5 z) t70 z z z z z) t z (.by [8,9] ⟨⟨_,z,?_⟩,⟨_,z,?_⟩,trivial⟩))))))))
    ·refine (.cO s func210 (nJ hy7) z z ?_)
     intro W s
     refine s.an [0,0] λt=>.by1 9 z (.alloc t181 s ?_)
     intro g2 W s
     have s:Sep _ _ _ [.box g2 181 (fM (λ_=>(ai.mk 0 0))),ac (sv v6) 3 1 (D.int .i64) r3,ac (sv v1) 181 24 (arD 12 a6) s2.2]:=id s
     refine s.an [1,1] λt=>.by1 10 z (.sta t181 s iJ sL z z z ?_)
     intro W s
     refine ⟨λh=>absurd z h,?_⟩
     exact .done (⟨z,g2,sb z,s.tk [1,1,0]⟩)
    refine (.alloc t181 s ?_)
    intro g3 W s
    have s:Sep _ _ _ [.box g3 181 (fM (λ_=>(ai.mk 0 0))),ac (sv v6) 3 1 (D.int .i64) r3,ac (sv v1) 181 24 (arD 12 a6) s2.2]:=id s
    refine s.an [1,1] λt=>.by1 8 z (.cO s func210 (nJ hy7) z z ?_)
    intro W s
    refine s.an [1,1] λt=>.by1 10 z (.sta t181 s iJ sL z z z ?_)
    intro W s
    refine ⟨λh=>absurd z h,?_⟩
    exact .done (⟨z,g3,sb z,s.tk [1,1,0]⟩)
   intro x E W hJ
   obtain ⟨rfl,g4,hE,s⟩:=hJ
   refine ⟨_,hE.sub,?_⟩
   refine .seq (.rk 12 s [0,0,0] T.mix ?_)
   intro W s
   have t:=s.to [0,0,0]
   refine .tp' 0 z z t (.tp' 1 z z t (bv h λx6 hx6 h=>.ts' 2 z (λW t=>ixv (s.keep q_0) hx6 u38 t70 z z z) t z (.ts' 3 z (λW t=>lde (RV.flat (t.keep q_0) hx6 z) t70 z z z z z) t z (.tp' 4 z z t (.tp' 5 z z t (.tp' 6 z z t (bv h λx7 hx7 h=>.ts' 7 z (λW t=>ixv s.p1.lv hx7 u176 t181 z z z) t z (.ts' 8 z (λW t=>yW (RV.flat (cs:=fM x7) t.p1.lv hx7 (uz λ_=>z)) t181 (iJ _) z z) t z (.tp' 11 z z t (bv h λy8 hy8 h=>.by1 9 z (.cV s func211 (vT hy8) z z ?_)))))))))))
   intro v7 W s
   refine s.an [1,1,1] λt=>.ts' 10 z (λW t=>aE s.lv u23 z z) t z (.done (.block (bv h λy9 hy9 h=>?_)))
   refine .via (.iter (λs3 E' W'=>∃ (v10:Hd),aq E' [(0,(sv v_0)),(3,(sv v1)),(5,(sv v10)),(7,Pt g4),(57,(sv v7)),(58,vi (y8.length:Int)),(59,vi s3.2.1)]/\Sep No w W' [ac (sv v7) 3 1 (D.int .i64) y8,ac (sv v1) 181 24 (arD 12 a6) s3.2.2,.box g4 181 (fM y7),ac (sv v10) 3 1 (D.int .i64) s3.1]) (λy10 x E' W'=>x=.exit 4/\∃ (v11:Hd),aq E' [(0,(sv v_0)),(3,(sv v1)),(5,(sv v11))]/\Sep No w W' [ac (sv v7) 3 1 (D.int .i64) y8,ac (sv v1) 181 24 (arD 12 a6) y10.2,.box g4 181 (fM y7),ac (sv v11) 3 1 (D.int .i64) y10.1]) hy9 ⟨v6,sb z,s.tk [0,1,1,0]⟩ ?_) ?_
   ·intro s3 y11 E W h hI
    obtain ⟨v9,hE,s⟩:=hI
    refine CW.sub hE ?_
    unfold gc at h
    refine .g (.qn z (.seq ?_))
    refine .cs z h ?_ ?_ <;> intro h
    ·refine .skip (bv h λy12 hy12 h=>?_)
     refine .seq (CW.via (R':=λx E' W'=>x=.normal/\∃ (v12:Hd),aq E' [(0,(sv v_0)),(3,(sv v1)),(5,(sv v12)),(7,Pt g4),(57,(sv v7)),(58,vi (y8.length:Int)),(59,vi s3.2.1)]/\Sep No w W' [ac (sv v7) 3 1 (D.int .i64) y8,ac (sv v1) 181 24 (arD 12 a6) y12.2,.box g4 181 (fM y7),ac (sv v12) 3 1 (D.int .i64) y12.1]) ?_ ?_)
     ·have h:=hy12
      refine .block (.g (bv h λx8 hx8 h=>.s (ixv s.lv hx8 u23 t3 z z z) z (.s (lde (RV.flat s.lv hx8 z) t3 z z z z z) z (.qn z (.g (.q z (.q z (bv h λx9 hx9 h=>.s (ixv s.p1.lv hx9 u176 t181 z z z) z (.s (yW (RV.flat (cs:=fM x9) s.p1.lv hx9 (uz λ_=>z)) t181 (iJ _) z z) z (.c (.alloc t181 s ?_)))))))))))
      intro g5 W s
      have s:Sep _ _ _ [.box g5 181 (fM (λ_=>(ai.mk 0 0))),ac (sv v7) 3 1 (D.int .i64) y8,ac (sv v1) 181 24 (arD 12 a6) s3.2.2,.box g4 181 (fM y7),ac (sv v9) 3 1 (D.int .i64) s3.1]:=id s
      refine .c (.sta t181 s iJ sL z z z ?_)
      intro W s
      refine .nil (.seq (.g (.qn z (.block (bv h λy13 hy13 h=>?_)))))
      refine .via (.iter (λs4 E' W'=>aq E' [(0,(sv v_0)),(3,(sv v1)),(5,(sv v9)),(7,Pt g4),(9,vi x8),(10,Pt g5),(57,(sv v7)),(58,vi (y8.length:Int)),(59,vi s3.2.1),(67,vi s4.1)]/\Sep No w W' [.box g5 181 (fM s4.2),ac (sv v7) 3 1 (D.int .i64) y8,ac (sv v1) 181 24 (arD 12 a6) s3.2.2,.box g4 181 (fM y7),ac (sv v9) 3 1 (D.int .i64) s3.1]) (λy14 x E' W'=>x=.exit 6/\aq E' [(0,(sv v_0)),(3,(sv v1)),(5,(sv v9)),(7,Pt g4),(9,vi x8),(10,Pt g5),(57,(sv v7)),(58,vi (y8.length:Int)),(59,vi s3.2.1)]/\Sep No w W' [.box g5 181 (fM y14),ac (sv v7) 3 1 (D.int .i64) y8,ac (sv v1) 181 24 (arD 12 a6) s3.2.2,.box g4 181 (fM y7),ac (sv v9) 3 1 (D.int .i64) s3.1]) hy13 ⟨sb z,s.tk [0,0,0,0,0]⟩ ?_) ?_
      ·intro s4 y15 E W h hI
       obtain ⟨hE,s⟩:=hI
       refine CW.sub hE ?_
       unfold gb at h
       refine .g (.qn z (.seq ?_))
       refine .cs z h ?_ ?_ <;> intro h
       ·refine .skip (.seq (.block (.g (.q z (.qn z (.rk 9 s [0,0,0,0,0] T.mix ?_))))))
        intro W s
        have t:=s.to [0,0,0,0,0]
        refine .tp' 0 z z t (.tp' 1 z z t (bv h λx10 hx10 h=>.ts' 2 z (λW t=>ixa hx10 u181 t179 z z z) t z (.ts' 3 z (λW t=>ldx t hx10 (λ_=>z) t179 z z z z z) t z (.tp' 4 z z t (bv h λx11 hx11 h=>.ts' 5 z (λW t=>ixa hx11 u181 t179 z z z) t z (.ts' 6 z (λW t=>ldx t.p3 hx11 (λ_=>z) t179 z z z z z) t z (bv h λy16 hy16 h=>.by1 7 z (.cO s func212 (tU hy16) z z ?_))))))))
        intro W s
        refine s.an [0,0,0,0,0] λt=>bv h λx12 hx12 h=>.ts' 8 z (λW t=>ixa hx12 u181 t179 z z z) t z (.by1 9 z (.stx (x1:=y16) hx12 s (λ_=>z) t179 z z z z ?_))
        intro W s
        refine ⟨λh=>absurd z h,?_⟩
        refine .done (.region (.q z (.q z (.nil ?_))))
        cases h
        exact ⟨z,sb z,s.tk [0,0,0,0,0]⟩
       refine .exit ?_
       cases h
       exact ⟨by simp,z,sb z,s.tk [0,0,0,0,0]⟩
      intro x E W hJ
      obtain ⟨rfl,hE,s⟩:=hJ
      refine ⟨_,hE.sub,?_⟩
      refine .seq (.rk 6 s [0,0,0,0,0] T.mix ?_)
      intro W s
      have t:=s.to [0,0,0,0,0]
      refine .ts' 0 z (λW t=>lda t181 t (iJ _) z z) t z (.tp' 1 z z t (.tp' 2 z z t (bv h λx13 hx13 h=>.ts' 3 z (λW t=>ixv s.p2.lv hx13 u176 t181 z z z) t z (.ts' 4 z (λW t=>yW (RV.flat (cs:=fM x13) t.p2.lv hx13 (uz λ_=>z)) t181 (iJ _) z z) t z (.ts' 5 z (λW t=>nea (q:=(λx y:ai=>(x.Kind==y.Kind&&(x.N==y.N&&true)))) T.q181 u181 t179 (λ_=>z) z (eqS T.e179 λ_ _=>z) z z z) t z (.done ?_))))))
      refine .cs z h ?_ ?_ <;> intro h
      ·refine .g (.q z (.q z (.s (lda t181 s (iJ _) z z) z (bv h λx14 hx14 h=>.s (ixv s.p2.lv hx14 u176 t181 z z z) z (bv h λr4 hr4 h=>.c (.seva hr4 hx14 s.p2 t181 (λ_=>z) iJ sL z z z ?_))))))
       intro W s
       refine .nil (.region (.q z (.q z (.c (.liv [x8] (D.int .i64) u23 t3 s z z z z ?_ z (λ_=>z))))))
       intro v13 W s
       refine bv h λr5 hr5 h=>?_
       have hT0:=s.p5
       refine .c (.av hr5 hT0 hT0.p1.lv (λ_=>z) u23 t3 z z z ?_)
       intro v14 W s
       refine .q z (.nil ?_)
       cases h
       exact ⟨z,v14,sb z,s.tk [4,2,3,0]⟩
      refine .skip ?_
      cases h
      exact ⟨z,v9,sb z,s.tk [1,1,1,1]⟩
     intro x E W hJ
     obtain ⟨rfl,v15,hE,s⟩:=hJ
     refine ⟨_,hE.sub,?_⟩
     refine .region (.q z (.q z (.nil ?_)))
     cases h
     exact ⟨z,v15,sb z,s.tk [0,0,0,0]⟩
    refine .exit ?_
    cases h
    exact ⟨by simp,z,v9,sb z,s.tk [0,0,0,0]⟩
   intro x E W hJ
   obtain ⟨rfl,v16,hE,s⟩:=hJ
   refine ⟨_,hE.sub,?_⟩
   cases h
   exact ⟨z,v16,sb z,s.tk [1,2]⟩
  refine .exit ?_
  cases h
  exact ⟨by simp,z,sb z,s.tk [0]⟩
 intro x E W hJ
 obtain ⟨rfl,hE,s⟩:=hJ
 refine ⟨_,hE.sub,?_⟩
 obtain rfl:=o9 h
 exact .g (.q z (.qn z (.ret (aa v1 (rt z rn) z (s.tk [0])))))
theorem cz {a0:ai} {a1:Int} {w:World} {r:Bool} (h:bZ a0 a1=some r):CL 214 #[.agg #[vi a0.Kind,vi a0.N],vi a1] w (RU w (.bool r)):=by
 unfold bZ at h
 refine ao func214 z z ?_
 have s:=Sep.start w
 refine .g (.c (.box s z z ?_))
 intro g1 W s
 refine .qn z (.g (.s (fa f179_0 z z z) z (.s (ld t3 s z z z z z) z (.q z (.q z (.cu 5 13 ((a0.Kind==1)&&(a0.N==a1)) s ?_ ?_))))))
 ·refine .both (a0.Kind==1) (λb=>?_) (λb=>?_)
  ·have hg1:=b
   exact .g hg1 (.s (fa f179_1 z z z) z (.g hg1 (.s (ld t3 s z z z z z) z (.g hg1 (.q z (.g hg1 (.q z (.s (pkt hg1 z z z) z (.nil (ck 5 s z (bi hg1)))))))))))
  exact .xx b z (.xx b z (.xx b z (.xx b z (.s (pkf b z z z) z (.nil (ck 5 s z (bj b)))))))
 intro W s
 cases h
 exact .qn z (.ret (aa () (rt z rn) z (s.to [])))
theorem dT {a0:Int} {a1:ab} {g_1:Nat} {w:World} {r:ab} (h:cT a0 a1=some r) (b_1:BR w (Old No w) g_1 70 [vi a1.Op,vi a1.Dst,vi a1.A,vi a1.B,vi a1.N]):CL 256 #[vi a0,Pt g_1] w (RU w (.agg #[vi r.Op,vi r.Dst,vi r.A,vi r.B,vi r.N])):=by
 unfold cT at h
 refine ao func256 z z ?_
 have s:=Sep.start w
 refine .g (.c (.alloc t70 s ?_))
 intro g1 W s
 refine .nil (.g (.s (fa f70_1 z z z) z (.s (ldb t3 (s.keepB b_1) z z z z z) z (.q z (.s (bs T.s70 z z) z (.c (.st t70 s z z z ?_)))))))
 intro W s
 cases h
 exact .nil (.ret (aa () (rc s t70 z rn z z) z (s.to [])))
def xB (w:World) (r:ab):Env->World->Prop:=Fin Tryz.prog Tryz.f213 No w (λs:Unit=>.agg #[vi r.Op,vi r.Dst,vi r.A,vi r.B,vi r.N]) (λs=>[]) .ret
end

end Go.Proofs.YtfpngipcclmliaaGreatDoor.N
