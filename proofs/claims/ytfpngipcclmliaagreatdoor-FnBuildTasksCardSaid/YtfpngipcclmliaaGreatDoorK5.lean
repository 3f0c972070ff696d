/- What a row says of its arguments, in the program logic's words: data types in general. What a package-level variable's laid datum says of its cells. Plain laws: -/
import Derived.Test.YtfpngipcclmliaaGreatDoorK4
import Derived.RowKit
import Derived.ChangeSlices
import Derived.ChangeArms
import Derived.WideShapes
import Derived.OpenShut
import Derived.LaidMore
import Derived.LaidLaws
import GoSem.ClaimJoined
set_option linter.unusedVariables false
set_option linter.unusedSimpArgs false
set_option maxRecDepth 100000
set_option maxHeartbeats 4000000
namespace Go.Proofs.YtfpngipcclmliaaGreatDoor.X
noncomputable section
variable {P:Program} {w:World} {T:Nat->Prop} {t e:TypeId} {size:Nat} {k:IntKind} {α:Type} {enc:α->D} {H:Type} {en:TypeId×Value->H} {base:Nat} {spare:Nat->Bool} {held:Bool}
def Aa (P:Program) (t:TypeId):Option (List TypeId):=match P.underlying t with
 | some (.struct fs)=>some (fs.toList.map (·.type))
 | _=>none
mutual
def Typ (P:Program):D->TypeId->Prop
 | .int k n,t=>P.underlying t=some (.int k)/\(Lit.int k n).wf=true
 | .bool _,t=>P.underlying t=some .bool
 | .str s,t=>P.underlying t=some .string/\s.size<=maxLen
 | .row e size xs,t=>P.underlying t=some (.slice e)/\size=P.cellsOf e/\w9 P xs e
 | .agg xs,t=>∃ ts,Aa P t=some ts/\CT P xs ts
def w9 (P:Program):List D->TypeId->Prop
 | [],_=>True
 | x::xs,e=>Typ P x e/\w9 P xs e
def CT (P:Program):List D->List TypeId->Prop
 | [],[]=>True
 | x::xs,t::ts=>Typ P x t/\CT P xs ts
 | _,_=>False
end
def oL (P:Program):List Field->Nat->Option Nat
 | [],k=>some k
 | f::r,k=>match Nat.beq f.offset k with
  | true=>oL P r (k+P.cellsOf f.type)
  | false=>none
def okT (P:Program) (ts:List TypeId) (t:TypeId):Bool:=match P.underlying t with
 | some (.int _) | some .bool | some .string=>Nat.beq (P.cellsOf t) 1
 | some (.slice e)=>Nat.beq (P.cellsOf t) 1&&ts.contains e&&!(Nat.beq (P.cellsOf e) 0)
 | some (.struct fs)=>(match oL P fs.toList 0 with
  | some n=>Nat.beq n (P.cellsOf t)
  | none=>false)&&fs.toList.all (λf=>ts.contains f.type)
 | _=>false
theorem D.rd_length:∀ {d:D} {cs:List Value},D.rd w d T cs->cs.length=d.sz
 | .int _ _,_,h=>by simp only [D.rd] at h; subst h; rfl
 | .bool _,_,h=>by simp only [D.rd] at h; subst h; rfl
 | .str _,_,h=>by simp only [D.rd] at h; subst h; rfl
 | .row _ _ _,_,⟨A,cap,c,h1,_⟩=>by subst h1; rfl
 | .agg xs,_,h=>by simp only [D.sz]; exact oH (xs:=xs) h
theorem w9.append:∀ {xs ys:List D},w9 P xs e->w9 P ys e->w9 P (xs++ys) e
 | [],_,_,h=>h
 | x::xs,_,⟨h1,h2⟩,h=>⟨h1,w9.append h2 h⟩
theorem xV {a:Addr} {v:Value} (h:w.cell? a=some v):Old No w a.block:=⟨World.block_lt_of_cell? w a h,id⟩
theorem Bt {ts:List TypeId} (hts:ts.all (okT P ts)=true):∀ {fuel:Nat} {t:TypeId} {cs:List Value} {x:DataW H×List MemPlace},t∈ts->DataW.trod en P w base spare held fuel t cs=some x->∃ d,Typ P d t/\D.rd w d (Old No w) cs/\d.sz=P.cellsOf t:=by
 intro fuel
 induction fuel with
 | zero=>intro t cs x _ h; simp [DataW.trod] at h
 | succ fuel ih =>
  intro t cs x ht h
  have hok:=List.all_eq_true.1 hts t ht
  unfold okT at hok
  split at hok
  ·rename_i k hu
   obtain ⟨n,rfl,_,hw⟩:=DataW.trod_int hu h
   exact ⟨.int k n,⟨hu,hw⟩,rfl,(Nat.eq_of_beq_eq_true hok).symm⟩
  ·rename_i hu
   obtain ⟨b,rfl,_⟩:=DataW.trod_bool hu h
   exact ⟨.bool b,hu,rfl,(Nat.eq_of_beq_eq_true hok).symm⟩
  ·rename_i hu
   obtain ⟨s,rfl,_,hs⟩:=DataW.trod_string hu h
   exact ⟨.str s,⟨hu,hs⟩,rfl,(Nat.eq_of_beq_eq_true hok).symm⟩
  ·rename_i e hu
   simp only [Bool.and_eq_true,Bool.not_eq_true'] at hok
   obtain ⟨⟨h1,h2⟩,h3⟩:=hok
   have he:e∈ts:=by simpa using h2
   have h0:P.cellsOf e≠0:=by intro h0; rw [h0] at h3; cases h3
   have hc1:=(Nat.eq_of_beq_eq_true h1).symm
   rcases DataW.trod_slice hu h with ⟨rfl,_⟩ | ⟨a,len,cap,elems,rest,n,hn,rfl,_,hb,hl,hm,hlen,hel,_,_⟩
   ·exact ⟨.row e (P.cellsOf e) [],⟨hu,rfl,trivial⟩,⟨none,0,[],rfl,Nat.le_refl _,Nat.zero_le _,by simp,λh=>absurd rfl h,rfl⟩,hc1⟩
   ·obtain rfl:fuel=n:=by omega
    have key:∀ m,m<=len->∃ ds c,ds.length=m/\w9 P ds e/\(∀ x∈ds,x.sz=P.cellsOf e)/\D.rds w ds (Old No w) c/\c.length=m*P.cellsOf e/\∀ j u,c[j]?=some u->w.cell? (a.add j)=some u:=by
     intro m
     induction m with
     | zero=>intro _; exact ⟨[],[],rfl,trivial,by simp,rfl,by simp,by simp⟩
     | succ m ihm =>
      intro hle
      obtain ⟨ds,c,k1,k2,k3,k4,k5,k6⟩:=ihm (by omega)
      have hi:=hel m (by omega)
      have hs:∃ y,elems[m]?=some y:=⟨_,List.getElem?_eq_getElem (by omega)⟩
      obtain ⟨y,hy⟩:=hs
      rw [hy,Option.bind_eq_some_iff] at hi
      obtain ⟨ci,hci,hyi⟩:=hi
      obtain ⟨d,g1,g2,g3⟩:=ih he hyi
      obtain ⟨_,q2,q3⟩:=World.cells?_some hci
      refine ⟨ds++[d],c++ci,by simp [k1],k2.append ⟨g1,trivial⟩,λx hx=>?_,uI k4 ⟨ci,[],by simp,D.rd_length g2,g2,rfl⟩,by rw [List.length_append,k5,q2,Nat.add_mul]; omega,λj u hj=>?_⟩
      ·rcases List.mem_append.1 hx with hx | hx
       ·exact k3 x hx
       ·rw [List.mem_singleton.1 hx]; exact g3
      ·rcases Nat.lt_or_ge j c.length with hj' | hj'
       ·rw [List.getElem?_append_left hj'] at hj; exact k6 j u hj
       ·rw [List.getElem?_append_right hj'] at hj
        have hlt:j-c.length<P.cellsOf e:=by
         rcases Nat.lt_or_ge (j-c.length) ci.length with h | h
         ·omega
         ·rw [List.getElem?_eq_none h] at hj; cases hj
        have:=q3 _ hlt
        rw [hj,Addr.add_add,<-k5] at this
        rw [show c.length+(j-c.length)=j by omega] at this
        exact this
    obtain ⟨ds,c,k1,k2,k3,k4,k5,k6⟩:=key len (Nat.le_refl _)
    refine ⟨.row e (P.cellsOf e) ds,⟨hu,rfl,k2⟩,⟨some a,cap,c,by rw [k1],by omega,by omega,k3,λhne=>⟨a,rfl,?_,k6⟩,k4⟩,hc1⟩
    have hpos:0<c.length:=by
     rw [k5,<-k1]
     exact Nat.mul_pos (List.length_pos_iff.2 hne) (by omega)
    have h6:=k6 0 _ (List.getElem?_eq_getElem hpos)
    simp only [Addr.add,if_true] at h6
    exact xV h6
  ·rename_i fs hu
   simp only [Bool.and_eq_true] at hok
   obtain ⟨h1,h2⟩:=hok
   split at h1
   ·rename_i tot hcg
    obtain rfl:=Nat.eq_of_beq_eq_true h1
    obtain ⟨xs,n,hn,_,hlen,hxl,hf⟩:=DataW.trod_struct hu h
    obtain rfl:fuel=n:=by omega
    have key:∀ (gs:List Field) (o:Nat),(∀ f∈gs,f.type∈ts/\∃ y,DataW.trod en P w base spare held fuel f.type ((cs.drop f.offset).take (P.cellsOf f.type))=some y)->oL P gs o=some (P.cellsOf t) ->
      ∃ ds,CT P ds (gs.map (·.type))/\D.rds w ds (Old No w) (cs.drop o)/\o+D.szs ds=P.cellsOf t:=by
     intro gs
     induction gs with
     | nil =>
      intro o _ hc
      simp only [oL,Option.some.injEq] at hc
      subst hc
      exact ⟨[],trivial,by rw [<-hlen,List.drop_length]; rfl,rfl⟩
     | cons f gs ihg =>
      intro o hall hc
      simp only [oL] at hc
      split at hc
      ·rename_i ho
       have ho':=Nat.eq_of_beq_eq_true ho
       obtain ⟨hft,y,hy⟩:=hall f (by simp)
       obtain ⟨d,g1,g2,g3⟩:=ih hft hy
       obtain ⟨ds,q1,q2,q3⟩:=ihg _ (λg hg=>hall g (by simp [hg])) hc
       rw [ho'] at g2
       refine ⟨d::ds,⟨g1,q1⟩,⟨_,_,?_,D.rd_length g2,g2,q2⟩,?_⟩
       ·rw [<-List.drop_drop,List.take_append_drop]
       ·simp only [D.szs,g3]; omega
      ·cases hc
    obtain ⟨ds,q1,q2,q3⟩:=key fs.toList 0 (λf hf'=>⟨by have:=List.all_eq_true.1 h2 f hf'; simpa using this,by
      obtain ⟨i,hi⟩:=List.getElem?_of_mem hf'
      have hi':fs[i]?=some f:=by simpa using hi
      have hlt:i<xs.length:=by
       have:=(List.getElem?_eq_some_iff.1 hi).1
       rw [hxl]
       simpa using this
      exact ⟨_,(hf i f hi').trans (List.getElem?_eq_getElem hlt)⟩⟩) hcg
    exact ⟨.agg ds,⟨_,by simp only [Aa,hu],q1⟩,q2,by simp only [D.sz]; omega⟩
   ·cases h1
  ·cases hok
def Dec (P:Program) (t:TypeId) (enc:α->D) (Wf:α->Prop):Prop:=∀ d,Typ P d t->∃ x,d=enc x/\Wf x
theorem Dec.int (hu:P.underlying t=some (.int k)):Dec P t (D.int k) (λn=>(Lit.int k n).wf=true):=by
 intro d h
 cases d with
 | int k' n =>
  obtain ⟨h1,h2⟩:=h
  rw [hu] at h1
  injection h1 with h1
  injection h1 with h1
  subst h1
  exact ⟨n,rfl,h2⟩
 | bool b=>rw [show P.underlying t=some .bool from h] at hu; cases hu
 | str s=>rw [show P.underlying t=some .string from h.1] at hu; cases hu
 | row e s xs=>rw [h.1] at hu; cases hu
 | agg xs=>obtain ⟨ts,h1,_⟩:=h; simp [Aa,hu] at h1
theorem Dec.bool (hu:P.underlying t=some .bool):Dec P t D.bool (λ_=>True):=by
 intro d h
 cases d with
 | bool b=>exact ⟨b,rfl,trivial⟩
 | int k' n=>rw [h.1] at hu; cases hu
 | str s=>rw [show P.underlying t=some .string from h.1] at hu; cases hu
 | row e s xs=>rw [h.1] at hu; cases hu
 | agg xs=>obtain ⟨ts,h1,_⟩:=h; simp [Aa,hu] at h1
theorem Dec.str (hu:P.underlying t=some .string):Dec P t D.str (λs=>s.size<=maxLen):=by
 intro d h
 cases d with
 | str s=>exact ⟨s,rfl,h.2⟩
 | bool b=>rw [show P.underlying t=some .bool from h] at hu; cases hu
 | int k' n=>rw [h.1] at hu; cases hu
 | row e s xs=>rw [h.1] at hu; cases hu
 | agg xs=>obtain ⟨ts,h1,_⟩:=h; simp [Aa,hu] at h1
theorem Dec.list {Wf:α->Prop} (h:Dec P e enc Wf):∀ {xs:List D},w9 P xs e->∃ l:List α,xs=l.map enc/\∀ x∈l,Wf x
 | [],_=>⟨[],rfl,by simp⟩
 | d::xs,⟨h1,h2⟩=>by
  obtain ⟨x,rfl,hx⟩:=h d h1
  obtain ⟨l,rfl,hl⟩:=Dec.list h h2
  exact ⟨x::l,rfl,λy hy=>(List.mem_cons.1 hy).elim (λe=>e▸hx) (hl y)⟩
theorem Dec.slice {Wf:α->Prop} (hu:P.underlying t=some (.slice e)) (hc:P.cellsOf e=size) (h:Dec P e enc Wf):Dec P t (λ(l:List α)=>D.row e size (l.map enc)) (λl=>∀ x∈l,Wf x):=by
 intro d hd
 cases d with
 | row e' s xs =>
  obtain ⟨h1,h2,h3⟩:=hd
  rw [hu] at h1
  injection h1 with h1
  injection h1 with h1
  subst h1
  obtain ⟨l,rfl,hl⟩:=h.list h3
  exact ⟨l,by rw [h2,hc],hl⟩
 | bool b=>rw [show P.underlying t=some .bool from hd] at hu; cases hu
 | int k' n=>rw [hd.1] at hu; cases hu
 | str s=>rw [show P.underlying t=some .string from hd.1] at hu; cases hu
 | agg xs=>obtain ⟨ts,h1,_⟩:=hd; simp [Aa,hu] at h1
end
noncomputable section
variable {P:Program} {w:World} {T:Nat->Prop} {t e:TypeId} {size:Nat} {k:IntKind} {α:Type} {H:Type} {en:TypeId×Value->H} {base:Nat} {spare:Nat->Bool} {held:Bool}
def nB:DataW H->List Value
 | .lit (.int k n)=>[.int k n]
 | .lit (.bool b)=>[.bool b]
 | .lit (.string s)=>[.string ⟨s.toArray⟩]
 | .agg ds=>dcellsL ds
 | _=>[]
where dcellsL:List (DataW H)->List Value
 | []=>[]
 | d::r=>nB d++dcellsL r
theorem pH {γ:Type} (f:γ->DataW H):∀ {xs:List γ},nB.dcellsL (xs.map f)=(xs.map λx=>nB (f x)).flatten
 | []=>rfl
 | x::xs=>by simp only [List.map_cons,nB.dcellsL,List.flatten_cons,pH f]
def okF (P:Program) (ts:List TypeId) (t:TypeId):Bool:=match P.underlying t with
 | some (.int _) | some .bool | some .string=>Nat.beq (P.cellsOf t) 1
 | some (.array n e)=>Nat.beq (P.cellsOf t) (n*P.cellsOf e)&&ts.contains e
 | some (.struct fs)=>(match oL P fs.toList 0 with
  | some n=>Nat.beq n (P.cellsOf t)
  | none=>false)&&fs.toList.all (λf=>ts.contains f.type)
 | _=>false
theorem yM {ts:List TypeId} (hts:ts.all (okF P ts)=true):∀ {fuel:Nat} {t:TypeId} {cs:List Value} {x:DataW H×List MemPlace},t∈ts->DataW.trod en P w base spare held fuel t cs=some x->cs=nB x.1/\cs.length=P.cellsOf t:=by
 intro fuel
 induction fuel with
 | zero=>intro t cs x _ h; simp [DataW.trod] at h
 | succ fuel ih =>
  intro t cs x ht h
  have hok:=List.all_eq_true.1 hts t ht
  unfold okF at hok
  split at hok
  ·rename_i k hu
   obtain ⟨n,rfl,rfl,hw⟩:=DataW.trod_int hu h
   exact ⟨rfl,(Nat.eq_of_beq_eq_true hok).symm⟩
  ·rename_i hu
   obtain ⟨b,rfl,rfl⟩:=DataW.trod_bool hu h
   exact ⟨rfl,(Nat.eq_of_beq_eq_true hok).symm⟩
  ·rename_i hu
   obtain ⟨s,rfl,rfl,hs⟩:=DataW.trod_string hu h
   exact ⟨by simp [nB],(Nat.eq_of_beq_eq_true hok).symm⟩
  ·rename_i n e hu
   simp only [Bool.and_eq_true] at hok
   obtain ⟨h1,h2⟩:=hok
   have he:e∈ts:=by simpa using h2
   have h1':=Nat.eq_of_beq_eq_true h1
   obtain ⟨xs,m,hn,rfl,hlen,hxl,hel⟩:=DataW.trod_array hu h
   obtain rfl:fuel=m:=by omega
   refine ⟨?_,hlen⟩
   have key:∀ j,j<=n->cs.take (j*P.cellsOf e)=((xs.take j).map λy=>nB y.1).flatten:=by
    intro j
    induction j with
    | zero=>intro _; simp
    | succ j ihj =>
     intro hj
     have hi:=hel j (by omega)
     have hlt:j<xs.length:=by omega
     rw [List.getElem?_eq_getElem hlt] at hi
     obtain ⟨g1,g2⟩:=ih he hi
     rw [<-List.take_append_getElem hlt,List.map_append,List.flatten_append,<-ihj (by omega)]
     simp only [List.map_cons,List.map_nil,List.flatten_cons,List.flatten_nil,List.append_nil]
     rw [<-g1,Nat.add_mul,Nat.one_mul,List.take_add]
   have:=key n (Nat.le_refl _)
   rw [List.take_of_length_le (by omega),List.take_of_length_le (by omega)] at this
   rw [this]
   show _=nB.dcellsL (xs.map (·.1))
   rw [pH]
  ·rename_i fs hu
   simp only [Bool.and_eq_true] at hok
   obtain ⟨h1,h2⟩:=hok
   split at h1
   ·rename_i tot hcg
    obtain rfl:=Nat.eq_of_beq_eq_true h1
    obtain ⟨xs,n,hn,rfl,hlen,hxl,hf⟩:=DataW.trod_struct hu h
    obtain rfl:fuel=n:=by omega
    refine ⟨?_,hlen⟩
    have key:∀ (gs:List Field) (o i:Nat),(∀ j f,gs[j]?=some f->fs[i+j]?=some f/\f.type∈ts)->i+gs.length=xs.length->oL P gs o=some (P.cellsOf t)->cs.drop o=((xs.drop i).map λy=>nB y.1).flatten:=by
     intro gs
     induction gs with
     | nil =>
      intro o i _ hlen2 hc
      simp only [oL,Option.some.injEq] at hc
      simp only [List.length_nil,Nat.add_zero] at hlen2
      rw [hc,<-hlen,List.drop_length,hlen2,List.drop_length]
      rfl
     | cons f gs ihg =>
      intro o i hall hlen2 hc
      simp only [oL] at hc
      split at hc
      ·rename_i ho
       have ho':=Nat.eq_of_beq_eq_true ho
       obtain ⟨hf0,hft⟩:=hall 0 f rfl
       have hi:=hf i f (by simpa using hf0)
       have hlt:i<xs.length:=by simp only [List.length_cons] at hlen2; omega
       rw [List.getElem?_eq_getElem hlt,ho'] at hi
       obtain ⟨g1,g2⟩:=ih hft hi
       have hr:=ihg (o+P.cellsOf f.type) (i+1) (λj f' hj=>by
        have:=hall (j+1) f' (by simpa using hj)
        rwa [show i+(j+1)=i+1+j by omega] at this) (by simp only [List.length_cons] at hlen2; omega) hc
       rw [List.drop_eq_getElem_cons hlt,List.map_cons,List.flatten_cons,<-g1,<-hr,<-List.drop_drop,List.take_append_drop]
      ·cases hc
    have:=key fs.toList 0 0 (λj f hj=>⟨by simpa using hj,by
     have:=List.all_eq_true.1 h2 f (List.mem_of_getElem? hj)
     simpa using this⟩) (by simp [hxl]) hcg
    simp only [List.drop_zero] at this
    rw [this]
    show _=nB.dcellsL (xs.map (·.1))
    rw [pH]
   ·cases h1
  ·cases hok
theorem xW {f:α->List Value} (hs:∀ x,(f x).length=size):∀ {l:List α} {i j:Nat} {x:α} {u:Value},l[i]?=some x->(f x)[j]?=some u->((l.map f).flatten)[i*size+j]?=some u
 | [],i,j,x,u,h,_=>by simp at h
 | y::ys,0,j,x,u,h,hu=>by
  have:y=x:=by simpa using h
  subst this
  have hlt:j<(f y).length:=by
   rcases Nat.lt_or_ge j (f y).length with h | h
   ·exact h
   ·rw [List.getElem?_eq_none h] at hu; cases hu
  simp only [List.map_cons,List.flatten_cons,Nat.zero_mul,Nat.zero_add]
  rw [List.getElem?_append_left hlt]
  exact hu
 | y::ys,i+1,j,x,u,h,hu=>by
  have ih:=xW hs (l:=ys) (i:=i) (j:=j) (by simpa using h) hu
  simp only [List.map_cons,List.flatten_cons]
  rw [List.getElem?_append_right (by rw [hs,Nat.add_mul]; omega),hs]
  rw [show (i+1)*size+j-size=i*size+j by rw [Nat.add_mul]; omega]
  exact ih
theorem Bu {g:Nat} {f:α->List Value} {l:List α} {cs:Array Value} (hs:∀ x,(f x).length=size) (hc:cs.toList=(l.map f).flatten) (hv:∀ j,w.cell? ⟨g,j,none⟩=cs[j]?) (h0:Nat.ble 1 ((l.map f).flatten).length=true):Tab g size f l w:=
 have h1:0<cs.size:=by
  have h1:=Nat.le_of_ble_eq_true h0
  rw [<-hc,Array.length_toList] at h1
  omega
 ⟨World.block_lt_of_cell? w ⟨g,0,none⟩ ((hv 0).trans (Array.getElem?_eq_getElem h1)),λi x hx j v hj=>by
  rw [hv]
  have:=xW hs hx hj
  rw [<-hc] at this
  simpa using this⟩
theorem Bv {sp:Nat->Bool} {n1 n2:String} {gs:List (DataW H)} {ps:List MemPlace} (h:DataW.TrodVars en P w sp [n1,n2] gs ps):∃ g1 g2,gs=[g1,g2]:=by
 match gs,h with
 | [],h=>exact h.elim
 | [g1],h=>obtain ⟨_,_,_,_,_,_,_,_,_,_,h,_⟩:=h; exact h.elim
 | [g1,g2],_=>exact ⟨g1,g2,rfl⟩
 | g1::g2::g3::r,h=>obtain ⟨_,_,_,_,_,_,_,_,_,_,⟨_,_,_,_,_,_,_,_,_,_,h,_⟩,_⟩:=h; exact h.elim
theorem vF {ts:List TypeId} (hts:ts.all (okF P ts)=true) {n:String} {d:DataW Unit} {r:List (String×DataW Unit)} {ps:List MemPlace} {g t:Nat} (hg:P.globalNamed n=some g) (ht:(P.globals[g]?).map (·.type)=some t) (hm:t∈ts)
  (h:DataW.LaidVars P w ((n,d)::r) ps):∃ cs:Array Value,cs.toList=nB d/\(∀ j,w.cell? ⟨g,j,none⟩=cs[j]?)/\∃ qs,DataW.LaidVars P w r qs:=by
 obtain ⟨g',t',cs,fuel,p,q,h1,h2,h3,h4,h5,_⟩:=h
 obtain rfl:=o9 (hg.symm.trans h1)
 obtain rfl:=o9 (ht.symm.trans h2)
 exact ⟨cs,(yM hts hm h4).1,λj=>World.var?_cell hg h3 j,q,h5⟩
end
end Go.Proofs.YtfpngipcclmliaaGreatDoor.X
namespace Go.Proofs.YtfpngipcclmliaaGreatDoor.N
open Go.Proofs.YtfpngipcclmliaaGreatDoor.X
noncomputable section
theorem uM {n:Nat} (h:n<=32):c6 (n:Int)=some ((2^n:Nat):Int):=by
 refine Tot.eq ?_
 unfold c6
 refine .bind (P:=λr=>r=((2^n:Nat):Int)) (.iter (λs=>0<=s.2/\s.2<=(n:Int)/\s.1=((2^s.2.toNat:Nat):Int)) (λs=>((n:Int)-s.2).toNat) ⟨by simp,by simp,rfl⟩ λs hs=>?_) λr hr=>.pure hr
 obtain ⟨c,i⟩:=s
 obtain ⟨g0,g1,g2⟩:=hs
 simp only at g0 g1 g2
 unfold mS
 refine .sel (λh=>.inl ?_) λh=>.inr (show c=_ from ?_)
 ·simp only [decide_eq_true_eq] at h
  have hp:2^i.toNat<=2^32:=Nat.pow_le_pow_right (by omega) (by omega)
  have h32:(2:Nat)^32=4294967296:=by decide
  have e:2^(i+1).toNat=2^i.toNat*2:=by rw [show (i+1).toNat=i.toNat+1 by omega,Nat.pow_succ]
  dsimp only
  rw [aq g0 (by omega),aE (by omega) (by omega)]
  exact ⟨⟨by omega,by omega,by rw [e,g2]; omega⟩,by omega⟩
 ·simp only [decide_eq_false_iff_not] at h
  rw [g2,show i=(n:Int) by omega]; rfl
theorem xX {u:Int} (h0:0<=u) (h1:u<=4294967295) {lo n:Nat} (hn:1<=n) (h:lo+n<=32):lu u lo n=some (u/((2^lo:Nat):Int)%((2^n:Nat):Int)):=by
 unfold lu
 have e1:(decide ((0:Int)<=(lo:Int))&&decide ((lo:Int)<=31))=true:=by simp; omega
 have e2:(decide ((0:Int)<=u)&&decide (u<=4294967295))=true:=by simp; omega
 rw [m5,e2,ob9,Bool.not_true,aM rfl,m5,e1]
 simp only [ob9,Bool.not_true]
 rw [aM rfl,aE (by omega) (by omega),m5]
 have e3:(decide ((1:Int)<=(n:Int))&&decide ((n:Int)<=32-(lo:Int)))=true:=by simp; omega
 rw [e3]
 simp only [ob9,Bool.not_true]
 rw [aM rfl,uM (by omega),ob9]
 have p1:0<2^lo:=Nat.two_pow_pos lo
 have p2:0<2^n:=Nat.two_pow_pos n
 obtain ⟨k,rfl⟩:=Int.eq_ofNat_of_zero_le h0
 have hk:k/2^lo<=k:=Nat.div_le_self _ _
 have hq:sS .i64 (k:Int) ((2^lo:Nat):Int)=some ((k/2^lo:Nat):Int):=by
  unfold sS
  rw [if_neg (by omega)]
  congr 1
  have hx:∀ x:Nat,x<=k->w64 (x:Int)=x:=λx hx=>aE (by omega) (by omega)
  exact hx _ hk
 rw [hq,ob9,uM (by omega),ob9]
 unfold q8
 rw [if_neg (by omega)]
 simp only [ob9]
 rfl
theorem xY {u:Int} (h0:0<=u) (h1:u<=4294967295) {lo n:Nat} (hn:1<=n) (h:lo+n<=32):ln u lo n=some (u/((2^lo:Nat):Int)%((2^n:Nat):Int)):=by
 unfold ln kI
 rw [ob9,aE (by omega) (by omega),aM (by simp; omega)]
 obtain ⟨k,rfl⟩:=Int.eq_ofNat_of_zero_le h0
 have p1:(2:Nat)^n<=2^32:=Nat.pow_le_pow_right (by omega) (by omega)
 have h32:(2:Nat)^32=4294967296:=by decide
 have p2:0<2^n:=Nat.two_pow_pos n
 have hk:k/2^lo<=k:=Nat.div_le_self _ _
 rw [BO (by omega),ob9]
 have hs:=BN (x:=1) (k:=n) (by omega) (by omega)
 rw [Nat.one_mul] at hs
 rw [show ((1:Nat):Int)=1 from rfl] at hs
 rw [hs,ob9,aE (by omega) (by omega),AY (by omega) (by omega)]
 rfl
theorem pI {n:Int} (h:Wd n):iQ n=some (n%4294967296)/\iM n=some (n%4294967296):=by
 unfold iQ iM
 rw [wM,xI,decide_eq_true h]
 simp only [ob9,Bool.not_true]
 rw [aM rfl,aM rfl]
 have hu:mY .u32 n=n%4294967296:=by
  rw [lz]
  simp [IntKind.wrap,IntKind.signed,IntKind.bits]
 unfold Wd at h
 rw [hu,aE (i:=n%4294967296) (by omega) (by omega)]
 refine ⟨?_,rfl⟩
 refine Tot.eq (.sel (λh'=>.pure ?_) λh'=>.pure ?_)
 ·simp only [decide_eq_true_eq] at h'
  rw [aE (by omega) (by omega)]; omega
 ·simp only [decide_eq_false_iff_not] at h'
  omega
theorem Ab {n:Int}:eT n=some (if 2147483648<=n%4294967296 then n%4294967296-4294967296 else n%4294967296):=by
 unfold eT
 have:mY .i32 n=if 2147483648<=n%4294967296 then n%4294967296-4294967296 else n%4294967296:=by
  rw [lz]
  simp [IntKind.wrap,IntKind.signed,IntKind.bits]
 rw [this]
 congr 1
 split <;> exact aE (by omega) (by omega)
theorem Ac {n:Int}:du n=some (if 2147483648<=n%4294967296 then n%4294967296-4294967296 else n%4294967296):=by
 refine Tot.eq ?_
 unfold du
 have hm:n.tmod 4294967296=if 0<=n\/n%4294967296=0 then n%4294967296 else n%4294967296-4294967296:=by
  rw [Int.tmod_eq_emod]
  simp only [Int.dvd_iff_emod_eq_zero]
  split <;> simp
 rw [hm]
 refine .sel (λh=>.pure ?_) λh=>.sel (λh'=>.pure ?_) λh'=>.pure ?_
 all_goals simp only [decide_eq_true_eq,decide_eq_false_iff_not] at *
 ·rw [aE (by split <;> omega) (by split <;> omega)]; split <;> split <;> split at h <;> omega
 ·rw [aE (by split <;> omega) (by split <;> omega)]; split <;> split <;> split at h' <;> omega
 ·split <;> split <;> omega
theorem zw {x:Int} (h0:0<=x) (h1:x<4096):iE x 12=some (if 2048<=x then x-4096 else x)/\iC x 12=some (if 2048<=x then x-4096 else x):=by
 have e12:c6 12=some 4096:=uM (n:=12) (by omega)
 have e11:c6 11=some 2048:=uM (n:=11) (by omega)
 have s12:shO .shl .i64 1 12=some 4096:=by decide
 have s11:shO .shl .i64 1 11=some 2048:=by decide
 have w12:w64 (12-1)=11:=by decide
 have w13:w64 (4096-1)=4095:=by decide
 constructor
 ·unfold iE
  simp only [m5,e12,w12,e11,ob9,w13]
  rw [aM (b:=!_) (by decide)]
  simp only [ob9]
  rw [aM (by simp; omega)]
  refine Tot.eq (.sel (λh=>.pure ?_) λh=>.pure ?_)
  ·simp at h; rw [if_pos h,aE (by omega) (by omega)]
  ·simp at h; rw [if_neg (by omega)]
 ·unfold iC
  simp only [s12,w12,s11,ob9]
  rw [aM (b:=_||_) (by simp; omega)]
  simp only [ob9]
  rw [aM (by simp; omega)]
  refine Tot.eq (.sel (λh=>.pure ?_) λh=>.pure ?_)
  ·simp at h; rw [if_pos h,aE (by omega) (by omega)]
  ·simp at h; rw [if_neg (by omega)]
def xZ (n:Int):Int:=if 2048<=n%4096 then n%4096-4096 else n%4096
def CU (n:Int):Int:=(n-xZ n)%4294967296/4096
def oM (rd n:Int):List Instr:=if -2048<=n/\n<=2047 then [⟨12,rd,0,0,n⟩] else [⟨19,rd,0,0,CU n⟩,⟨12,rd,rd,0,xZ n⟩]
theorem ya {rd n:Int} (h:Wd n):kF rd n=some (oM rd n)/\gK rd n=some (oM rd n):=by
 have hu:=pI h
 have hb1:∀ {u:Int},0<=u->u<=4294967295->lu u 0 12=some (u%4096)/\ln u 0 12=some (u%4096):=λh0 h1=>by
  have a:=xX h0 h1 (lo:=0) (n:=12) (by omega) (by omega)
  have b:=xY h0 h1 (lo:=0) (n:=12) (by omega) (by omega)
  simp at a b
  exact ⟨a,b⟩
 have hb2:∀ {u:Int},0<=u->u<=4294967295->lu u 12 20=some (u/4096%1048576)/\ln u 12 20=some (u/4096%1048576):=λh0 h1=>by
  have a:=xX h0 h1 (lo:=12) (n:=20) (by omega) (by omega)
  have b:=xY h0 h1 (lo:=12) (n:=20) (by omega) (by omega)
  simp at a b
  exact ⟨a,b⟩
 have hw:=h
 unfold Wd at hw
 have e0:n%4294967296%4096=n%4096:=by omega
 have hl : -2048<=xZ n/\xZ n<=2047:=by unfold xZ; split <;> omega
 have hwd:∀ m:Int,Wd (if 2147483648<=m%4294967296 then m%4294967296-4294967296 else m%4294967296):=λm=>by unfold Wd; split <;> omega
 have e1:∀ m:Int,(if 2147483648<=m%4294967296 then m%4294967296-4294967296 else m%4294967296)%4294967296=m%4294967296:=λm=>by split <;> omega
 have e2:(n-xZ n)%4294967296/4096%1048576=CU n:=by unfold CU; omega
 constructor
 ·unfold kF oM
  rw [m5,ob9]
  refine Tot.eq (.sel (λh=>.pure ?_) λh=>?_)
  ·simp at h; rw [if_pos h]
  ·rw [if_neg (by simp at h; omega),hu.1,ob9,(hb1 (by omega) (by omega)).1,ob9,(zw (by omega) (by omega)).1,ob9,e0]
   rw [show (if 2048<=n%4096 then n%4096-4096 else n%4096)=xZ n from rfl,aE (by omega) (by omega),Ac,ob9,(pI (hwd _)).1,ob9,e1,(hb2 (by omega) (by omega)).1,ob9,e2]
   refine .bind (.app (by simp)) λr hr=>.pure ?_
   subst hr; rfl
 ·unfold gK oM
  refine Tot.eq (.sel (λh=>.pure ?_) λh=>?_)
  ·simp at h; rw [if_pos h]
  ·rw [if_neg (by simp at h; omega),hu.2,ob9,(hb1 (by omega) (by omega)).2,ob9,(zw (by omega) (by omega)).2,ob9,e0]
   rw [show (if 2048<=n%4096 then n%4096-4096 else n%4096)=xZ n from rfl,aE (by omega) (by omega),Ab,ob9,(pI (hwd _)).2,ob9,e1,(hb2 (by omega) (by omega)).2,ob9,e2]
   exact .pure rfl
end
noncomputable section
def kG (c p s:Int):Int:=if p<c then (jG[p.toNat]?).getD 0 else s
def rdL (c p s:Int):List Instr:=if p<c then [] else [⟨14,s,2,0,4*(p-c)⟩]
def wrL (c p:Int):List Instr:=if p<c then [] else [⟨16,0,2,7,4*(p-c)⟩]
def oW (n:Int):List Instr:=[⟨12,17,0,0,n⟩,⟨15,1,0,0,0⟩]
def Ad (n:Int):Int:=(mg[(n-1).toNat]?).getD 0
def pJ (q:ab) (c off:Int):List Instr:=
 if q.Op=1 then oM (kG c q.Dst 7) q.N++wrL c q.Dst
 else if q.Op=2 then rdL c q.A 5++[⟨12,kG c q.Dst 7,kG c q.A 5,0,0⟩]++wrL c q.Dst
 else if q.Op=3 then rdL c q.A 5++rdL c q.B 6++[⟨Ad q.N,kG c q.Dst 7,kG c q.A 5,kG c q.B 6,0⟩]++(if q.N=4 then [⟨13,kG c q.Dst 7,kG c q.Dst 7,0,1⟩] else [])++wrL c q.Dst
 else if q.Op=4 then [⟨20,0,0,0,off⟩]
 else if q.Op=5 then rdL c q.A 5++[⟨18,0,kG c q.A 5,0,8⟩]++[⟨20,0,0,0,off-4*((rdL c q.A 5).length+1)⟩]
 else if q.Op=6 then rdL c q.A 5++[⟨12,10,kG c q.A 5,0,0⟩,⟨12,11,0,0,q.N⟩]++oW 1
 else if q.Op=7 then [⟨12,11,0,0,q.N⟩]++oW 2++[⟨12,kG c q.Dst 7,10,0,0⟩]++wrL c q.Dst
 else if q.Op=8 then oW 3
 else if q.Op=9 then rdL c q.A 5++[⟨12,10,kG c q.A 5,0,0⟩]++oW 4
 else oW 5
theorem rq (c p s:Int):(rdL c p s).length<=1:=by unfold rdL; split <;> simp
theorem CV (c p:Int):(wrL c p).length<=1:=by unfold wrL; split <;> simp
theorem s9 (r n:Int):1<=(oM r n).length/\(oM r n).length<=2:=by unfold oM; split <;> simp
theorem oO {c p s:Int} (hc:1<=c/\c<=8) (hp:Rg p):dJ p c s=some (kG c p s):=by
 refine Tot.eq ?_
 unfold dJ kG Rg at *
 refine .sel (λh=>.pure (by simp at h; rw [if_neg (by omega)])) λh=>?_
 simp at h
 refine .bind (.nth (by omega) (by simp; omega)) λx ⟨hx,_⟩=>.pure ?_
 rw [if_pos h]
 show x=((jG[p.toNat]?).getD 0)
 unfold jG
 rw [hx]; rfl
theorem yb {c p:Int} (hc:1<=c/\c<=8) (hp:Rg p) (h:p<c) (s:Int):nth jG p=some (kG c p s):=by
 unfold Rg at hp
 refine (Tot.nth (l:=jG) hp.1 (by simp [jG]; omega)).mono (Q:=λx=>x=kG c p s) (λx ⟨hx,_⟩=>?_) |>.eq
 unfold kG
 rw [if_pos h,hx]; rfl
theorem pK {c p s:Int} (hc:1<=c/\c<=8) (hp:Rg p):eC p c s=some (rdL c p s):=by
 refine Tot.eq ?_
 unfold eC rdL Rg at *
 refine .sel (λh=>.pure (by simp at h; rw [if_pos h])) λh=>.pure ?_
 simp at h
 rw [if_neg (by omega),aE (i:=p-c) (by omega) (by omega),aE (by omega) (by omega)]
theorem qm {c p:Int} (hc:1<=c/\c<=8) (hp:Rg p) {l:List Instr} (hl:l.length<=1000):eP l p c=some (l++wrL c p):=by
 refine Tot.eq ?_
 unfold eP wrL Rg at *
 refine .sel (λh=>.pure (by simp at h; rw [if_pos h,List.append_nil])) λh=>?_
 simp at h
 rw [if_neg (by omega),aE (i:=p-c) (by omega) (by omega),aE (by omega) (by omega)]
 exact .bind (.app (by simp; omega)) λr hr=>.pure hr
theorem pL {n:Int} {l:List Instr} (hl:l.length<=1000):eE l n=some (l++oW n):=by
 refine Tot.eq ?_
 unfold eE
 refine .bind (.app (by simp; omega)) λr hr=>.bind (.app (by subst hr; simp; omega)) λr2 hr2=>.pure ?_
 subst hr hr2; simp [oW]
theorem Cj {n:Int} (h:1<=n/\n<=12):nth mg (w64 (n-1))=some (Ad n):=by
 rw [aE (by omega) (by omega)]
 refine (Tot.nth (l:=mg) (i:=n-1) (by omega) (by simp [mg]; omega)).mono (Q:=λx=>x=Ad n) (λx ⟨hx,_⟩=>?_) |>.eq
 unfold Ad; rw [hx]; rfl
theorem CX {n:Int} (h:1<=n/\n<=12):nw n=some (Ad n):=by
 unfold nw
 have:=Cj h
 unfold mg at this
 rw [this]; rfl
theorem yc {c p:Int} (hc:1<=c/\c<=8) (hp:Rg p):jX p c=some (rdL c p 5++[⟨12,10,kG c p 5,0,0⟩]):=by
 refine Tot.eq ?_
 unfold jX fY
 rw [pK hc hp,oO hc hp]
 simp only [ob9]
 have:=rq c p 5
 exact .bind (.app (by simp; omega)) λr hr=>.pure hr
theorem yd {q:ab} {m c off:Int} (hq:QOk m q) (hc:1<=c/\c<=8) (ho : -1000000<=off/\off<=1000000):jY q c off=some (pJ q c off):=by
 have hd:Rg q.Dst:=by unfold QOk at hq; unfold Rg at *; omega
 have l1:=rq c q.A 5
 have l2:=rq c q.B 6
 refine Tot.eq ?_
 unfold jY pJ
 rw [oO hc hd,ob9]
 refine .sel (λh=>?_) λh1=>.sel (λh=>?_) λh2=>.sel (λh=>?_) λh3=>.sel (λh=>?_) λh4=>.sel (λh=>?_) λh5=>.sel (λh=>?_) λh6=>.sel (λh=>?_) λh7=>.sel (λh=>?_) λh8=>.sel (λh=>?_) λh9=>?_
 all_goals
  simp only [beq_iff_eq,beq_eq_false_iff_ne,ne_eq] at *
  unfold QOk at hq
 ·simp [h] at hq
  have:=s9 (kG c q.Dst 7) q.N
  rw [if_pos h,(ya hq.2.2.2).1,ob9,qm hc hd (by omega)]; exact .pure rfl
 ·simp [h] at hq
  rw [if_neg h1,if_pos h,pK hc hq.2.1,oO hc hq.2.1]
  simp only [ob9,fY]
  refine .bind (.app (by simp; omega)) λr hr=>?_
  rw [qm hc hd (by subst hr; simp; omega),hr]; exact .pure rfl
 ·simp [h] at hq
  rw [if_neg h1,if_neg h2,if_pos h]
  refine .bind (P:=λr=>r=_) ?_ λr hr=>.pure hr
  unfold nQ
  rw [pK hc hq.2.1,pK hc hq.2.2.1,oO hc hq.2.1,oO hc hq.2.2.1,oO hc hd,CX hq.2.2.2]
  simp only [ob9]
  refine .bind (.app (by omega)) λr hr=>.bind (.app (by subst hr; simp; omega)) λr2 hr2=>?_
  have e2:r2.length<=3:=by subst hr hr2; simp; omega
  refine .bind (P:=λy=>y=r2++(if q.N=4 then [⟨13,kG c q.Dst 7,kG c q.Dst 7,0,1⟩] else [])/\y.length<=4) (.sel (λh=>.bind (.app (by simp; omega)) λr3 hr3=>.pure ?_) λh=>.pure ?_) λy ⟨hy,hyl⟩=>?_
  ·simp at h; rw [if_pos h,hr3]; exact ⟨rfl,by simp; omega⟩
  ·simp at h; rw [if_neg h,List.append_nil]; exact ⟨rfl,by omega⟩
  ·rw [qm hc hd (by omega),hy,hr2,hr]
   exact .pure (by simp)
 ·rw [if_neg h1,if_neg h2,if_neg h3,if_pos h]; exact .pure rfl
 ·simp [h] at hq
  rw [if_neg h1,if_neg h2,if_neg h3,if_neg h4,if_pos h]
  refine .bind (P:=λr=>r=_) ?_ λr hr=>.pure hr
  unfold na
  rw [pK hc hq.2.1,oO hc hq.2.1]
  simp only [ob9]
  refine .bind (.app (by simp; omega)) λr hr=>?_
  have e1:r.length=(rdL c q.A 5).length+1:=by subst hr; simp
  rw [aE (i:=4*(r.length:Int)) (by omega) (by omega),aE (by omega) (by omega)]
  refine .bind (.app (by simp; omega)) λr2 hr2=>.pure ?_
  rw [hr2,e1,hr]; simp
 ·simp [h] at hq
  rw [if_neg h1,if_neg h2,if_neg h3,if_neg h4,if_neg h5,if_pos h,yc hc hq.2.1]
  simp only [ob9,lw]
  refine .bind (.app (by simp; omega)) λr hr=>?_
  rw [pL (by subst hr; simp; omega),hr]; exact .pure (by simp)
 ·simp [h] at hq
  rw [if_neg h1,if_neg h2,if_neg h3,if_neg h4,if_neg h5,if_neg h6,if_pos h]
  simp only [ob9,lw,fY]
  rw [pL (by simp),ob9]
  refine .bind (.app (by simp [oW])) λr hr=>?_
  rw [qm hc hd (by subst hr; simp [oW]),hr]; exact .pure (by simp)
 ·rw [if_neg h1,if_neg h2,if_neg h3,if_neg h4,if_neg h5,if_neg h6,if_neg h7,if_pos h,pL (by simp)]; exact .pure (by simp)
 ·simp [h] at hq
  rw [if_neg h1,if_neg h2,if_neg h3,if_neg h4,if_neg h5,if_neg h6,if_neg h7,if_neg h8,if_pos h,yc hc hq.2.1,ob9,pL (by simp; omega)]; exact .pure (by simp)
 ·rw [if_neg h1,if_neg h2,if_neg h3,if_neg h4,if_neg h5,if_neg h6,if_neg h7,if_neg h8,if_neg h9,pL (by simp)]; exact .pure (by simp)
theorem mA {c:Int} {l l2:List Instr} (h:l.length+l2.length<=1000):bi ⟨c,l⟩ l2=some (l++l2):=by
 unfold bi
 rw [AA (by simp only; omega)]; rfl
theorem qo {c p s:Int} (hc:1<=c/\c<=8) (hp:Rg p) {l:List Instr} (hl:l.length<=900):bK ⟨c,l⟩ p s=some (kG c p s,l++rdL c p s):=by
 refine Tot.eq ?_
 unfold bK rdL
 refine .sel (λh=>?_) λh=>?_
 ·simp at h
  rw [yb hc hp h s,if_pos h,List.append_nil]; exact .pure rfl
 ·simp at h
  unfold Rg at hp
  rw [if_neg (by omega),aE (i:=p-c) (by omega) (by omega),aE (by omega) (by omega),mA (by simp; omega)]
  unfold kG
  rw [if_neg (by omega)]; exact .pure rfl
theorem sa {c p:Int} (hc:1<=c/\c<=8) (hp:Rg p) {l:List Instr} (hl:l.length<=900) {f:Int->Option (List Instr)} {g:Int->List Instr} (hf:∀ r,f r=some (g r)) (hg:∀ r,(g r).length<=2):ca ⟨c,l⟩ p f=some (l++g (kG c p 7)++wrL c p):=by
 refine Tot.eq ?_
 unfold ca wrL
 simp only [hf,ob9]
 have h1:=hg (kG c p 7)
 refine .sel (λh=>?_) λh=>?_
 ·simp at h
  rw [yb hc hp h 7,ob9,mA (by omega),if_pos h,List.append_nil]; exact .pure rfl
 ·simp at h
  have e:kG c p 7=7:=by unfold kG; rw [if_neg (by omega)]
  rw [e] at h1 ⊢
  unfold Rg at hp
  rw [if_neg (by omega),aE (i:=p-c) (by omega) (by omega),aE (by omega) (by omega),mA (by omega),ob9,mA (by simp; omega)]; exact .pure rfl
theorem sd {c n:Int} {l:List Instr} (hl:l.length<=900):bX ⟨c,l⟩ n=some (l++oW n):=by
 unfold bX dl
 rw [ob9,mA (by simp; omega)]; rfl
theorem ye {c off:Int} {l:List Instr} (hl:l.length<=900) (ho : -1000000<=off/\off<=1000000):dN ⟨c,l⟩ off=some (l++[⟨20,0,0,0,off-4*l.length⟩]):=by
 unfold dN
 simp only
 rw [aE (i:=4*(l.length:Int)) (by omega) (by omega),aE (by omega) (by omega),mA (by simp; omega)]; rfl
theorem wB {q:ab} {m c off:Int} (hq:QOk m q) (hc:1<=c/\c<=8) (ho : -1000000<=off/\off<=1000000):fy q c off=some (pJ q c off):=by
 have hd:Rg q.Dst:=by unfold QOk at hq; unfold Rg at *; omega
 have l1:=rq c q.A 5
 have l2:=rq c q.B 6
 refine Tot.eq ?_
 unfold fy pJ
 refine .bind (P:=λr=>r=_) ?_ λr hr=>.pure hr
 refine .sel (λh=>?_) λh1=>.sel (λh=>?_) λh2=>.sel (λh=>?_) λh3=>.sel (λh=>?_) λh4=>.sel (λh=>?_) λh5=>.sel (λh=>?_) λh6=>.sel (λh=>?_) λh7=>.sel (λh=>?_) λh8=>.sel (λh=>?_) λh9=>.sel (λh=>?_) λh10=>?_
 all_goals
  simp only [beq_iff_eq,beq_eq_false_iff_ne,ne_eq] at *
  unfold QOk at hq
 ·simp [h] at hq
  rw [if_pos h,sa hc hd (by simp) (g:=λr=>oM r q.N) (λr=>by unfold iW; rw [(ya hq.2.2.2).2]; rfl) λr=>(s9 r q.N).2]; exact .pure (by simp)
 ·simp [h] at hq
  rw [if_neg h1,if_pos h,qo hc hq.2.1 (by simp)]
  simp only [ob9,List.nil_append]
  rw [sa hc hd (l:=rdL c q.A 5) (by omega) (f:=λb0=>iX b0 (kG c q.A 5)) (g:=λr=>[⟨12,r,kG c q.A 5,0,0⟩]) (λr=>rfl) λr=>by simp]; exact .pure (by simp)
 ·simp [h] at hq
  rw [if_neg h1,if_neg h2,if_pos h,qo hc hq.2.1 (by simp)]
  simp only [ob9,List.nil_append]
  rw [qo hc hq.2.2.1 (by omega)]
  simp only [ob9]
  rw [sa hc hd (by simp; omega) (g:=λr=>[⟨Ad q.N,r,kG c q.A 5,kG c q.B 6,0⟩]++(if q.N=4 then [⟨13,r,r,0,1⟩] else [])) (λr=>?_) λr=>by split <;> simp]
  ·exact .pure (by simp)
  ·unfold iY
   rw [Cj hq.2.2.2,ob9]
   refine Tot.eq (.sel (λh=>.bind (.app (by simp)) λr hr=>.pure ?_) λh=>.pure ?_)
   ·simp at h; rw [if_pos h,hr]
   ·simp at h; rw [if_neg h]; rfl
 ·rw [if_neg h1,if_neg h2,if_neg h3,if_pos h,ye (by simp) ho]; exact .pure (by simp)
 ·simp [h] at hq
  rw [if_neg h1,if_neg h2,if_neg h3,if_neg h4,if_pos h,qo hc hq.2.1 (by simp)]
  simp only [ob9,List.nil_append]
  rw [mA (by simp; omega),ob9,ye (by simp; omega) ho]
  exact .pure (by simp)
 ·simp [h] at hq
  rw [if_neg h1,if_neg h2,if_neg h3,if_neg h4,if_neg h5,if_pos h,qo hc hq.2.1 (by simp)]
  simp only [ob9,List.nil_append,dl]
  rw [mA (by simp; omega),ob9,sd (by simp; omega)]; exact .pure (by simp)
 ·simp [h] at hq
  rw [if_neg h1,if_neg h2,if_neg h3,if_neg h4,if_neg h5,if_neg h6,if_pos h]
  simp only [ob9,dl]
  rw [mA (by simp),ob9,sd (by simp),ob9,sa hc hd (by simp [oW]) (f:=iZ) (g:=λr=>[⟨12,r,10,0,0⟩]) (λr=>rfl) λr=>by simp]; exact .pure (by simp)
 ·rw [if_neg h1,if_neg h2,if_neg h3,if_neg h4,if_neg h5,if_neg h6,if_neg h7,if_pos h,sd (by simp)]; exact .pure (by simp)
 ·simp [h] at hq
  rw [if_neg h1,if_neg h2,if_neg h3,if_neg h4,if_neg h5,if_neg h6,if_neg h7,if_neg h8,if_pos h,qo hc hq.2.1 (by simp)]
  simp only [ob9,List.nil_append,dl]
  rw [mA (by simp; omega),ob9,sd (by simp; omega)]; exact .pure (by simp)
 ·rw [if_neg h1,if_neg h2,if_neg h3,if_neg h4,if_neg h5,if_neg h6,if_neg h7,if_neg h8,if_neg h9,sd (by simp)]; exact .pure (by simp)
 ·simp [h1,h2,h3,h4,h5,h6,h7,h8,h9,h10] at hq
theorem ni (q:ab) (c off:Int):1<=(pJ q c off).length/\(pJ q c off).length<=6/\(pJ q c off).length=(pJ q c 0).length:=by
 have l1:=rq c q.A 5
 have l2:=rq c q.B 6
 have l3:=CV c q.Dst
 have l4:=s9 (kG c q.Dst 7) q.N
 unfold pJ oW
 split
 ·simp; omega
 split
 ·simp; omega
 split
 ·split <;> simp <;> omega
 split
 ·simp
 split
 ·simp; omega
 split
 ·simp; omega
 split
 ·simp; omega
 split
 ·simp
 split
 ·simp; omega
 ·simp
end
noncomputable section
def qAt (eQ:List ab) (i:Nat):ab:=(eQ[i]?).getD ⟨0,0,0,0,0⟩
theorem Bw {eQ:List ab} {i:Nat} {q:ab} (h:eQ[i]?=some q):qAt eQ i=q:=by unfold qAt; rw [h]; rfl
def pl (eQ:List ab) (c:Int):Nat->Nat
 | 0=>0
 | i+1=>pl eQ c i+(pJ (qAt eQ i) c 0).length
def ta (eQ:List ab) (c:Int) (i:Nat):Int:=if (qAt eQ i).Op=4\/(qAt eQ i).Op=5 then 4*((pl eQ c (qAt eQ i).N.toNat:Int)-pl eQ c i) else 0
def blk (eQ:List ab) (c:Int) (i:Nat):List Instr:=pJ (qAt eQ i) c (ta eQ c i)
def tk (eQ:List ab) (c:Int):Nat->List Instr
 | 0=>[]
 | i+1=>tk eQ c i++blk eQ c i
def plL (eQ:List ab) (c:Int) (n:Nat):List Int:=(List.range n).map λi=>(pl eQ c i:Int)
theorem qR (eQ:List ab) (c:Int):∀ i,pl eQ c i<=6*i
 | 0=>Nat.le_refl _
 | i+1=>by have:=qR eQ c i; have:=(ni (qAt eQ i) c 0).2.1; simp only [pl]; omega
theorem xa (eQ:List ab) (c:Int):∀ i,(tk eQ c i).length=pl eQ c i
 | 0=>rfl
 | i+1=>by simp only [tk,pl,List.length_append,xa eQ c i,blk,(ni (qAt eQ i) c (ta eQ c i)).2.2]
theorem Ca {eQ:List ab} {c:Int} {n i:Nat} (h:i<n):(plL eQ c n)[i]?=some (pl eQ c i:Int):=by simp [plL,h]
theorem uN (eQ:List ab) (c:Int) (n:Nat):(plL eQ c n).length=n:=by simp [plL]
theorem uO {eQ:List ab} {c:Int} {n:Nat} {i:Int} (h0:0<=i) (h:i<n):nth (plL eQ c n) i=some (pl eQ c i.toNat:Int):=by
 refine (Tot.nth (l:=plL eQ c n) h0 (by rw [uN]; exact h)).mono (Q:=λx=>x=(pl eQ c i.toNat:Int)) (λx ⟨hx,_⟩=>?_) |>.eq
 rw [Ca (by omega)] at hx
 injection hx with hx
 exact hx.symm
theorem yf (eQ:List ab) (c:Int) (n:Nat):plL eQ c (n+1)=plL eQ c n++[(pl eQ c n:Int)]:=by simp [plL,List.range_succ]
theorem COk.at {eQ:List ab} (hc:COk eQ) {i:Int} (h0:0<=i) (h1:i<eQ.length):∃ q,nth eQ i=some q/\qAt eQ i.toNat=q/\QOk eQ.length q:=by
 obtain ⟨q,e,h2,h3⟩:=Tot.nth (l:=eQ) h0 h1
 exact ⟨q,e,Bw h2,hc.q q h3⟩
theorem yN {eQ:List ab} (hc:COk eQ) {c:Int} (h:1<=c/\c<=8):jA eQ c=some (plL eQ c eQ.length):=by
 have hmx:=hc.max
 refine Tot.eq ?_
 unfold jA
 refine .bind (P:=λr=>r=plL eQ c eQ.length) (.iter (λs=>0<=s.2.2/\s.2.2<=(eQ.length:Int)/\s.1=plL eQ c s.2.2.toNat/\s.2.1=(pl eQ c s.2.2.toNat:Int)) (λs=>((eQ.length:Int)-s.2.2).toNat) ⟨by simp,by simp,rfl,rfl⟩ λs hs=>?_) λr hr=>.pure hr
 obtain ⟨out,a,i⟩:=s
 obtain ⟨g0,g1,g2,g3⟩:=hs
 simp only at g0 g1 g2 g3
 unfold lV
 refine .sel (λhlt=>?_) λhge=>.inr (show out=_ from ?_)
 ·simp only [decide_eq_true_eq] at hlt
  obtain ⟨q,e1,e2,hq⟩:=hc.at g0 hlt
  have hl:=uN eQ c i.toNat
  have h6:=qR eQ c i.toNat
  have hql:=(ni q c 0).2.1
  refine .bind (.app (by subst g2; simp; omega)) λr hr=>?_
  dsimp only
  rw [e1,ob9,yd hq h (by omega),ob9,aq g0 (by omega),aE (by omega) (by omega)]
  have e3:(i+1).toNat=i.toNat+1:=by omega
  refine .inl ⟨⟨by simp only; omega,by simp only; omega,?_,?_⟩,by simp only; omega⟩
  ·simp only; rw [e3,yf,hr,g2,g3]
  ·simp only; rw [e3,pl,e2,g3]; simp
 ·simp only [decide_eq_false_iff_not] at hge
  rw [g2,show i.toNat=eQ.length by omega]
theorem yO {eQ:List ab} (hc:COk eQ) {c:Int} (h:1<=c/\c<=8):fz eQ c=some (plL eQ c eQ.length):=by
 have hmx:=hc.max
 refine Tot.eq ?_
 unfold fz
 obtain ⟨_,e,_⟩:=(nY eQ (by omega)).resolve_right λh=>h.1 hc
 rw [e,ob9]
 refine .sf (by simp; omega) (.bind (P:=λr=>r=plL eQ c eQ.length) (.iter (λs=>0<=s.2.2/\s.2.2<=(eQ.length:Int)/\s.1=plL eQ c s.2.2.toNat/\s.2.1=(pl eQ c s.2.2.toNat:Int)) (λs=>((eQ.length:Int)-s.2.2).toNat) ⟨by simp,by simp,rfl,rfl⟩ λs hs=>?_) λr hr=>.pure hr)
 obtain ⟨out,a,i⟩:=s
 obtain ⟨g0,g1,g2,g3⟩:=hs
 simp only at g0 g1 g2 g3
 unfold k9
 refine .sel (λhlt=>?_) λhge=>.inr (show out=_ from ?_)
 ·simp only [decide_eq_true_eq] at hlt
  obtain ⟨q,e1,e2,hq⟩:=hc.at g0 hlt
  have hl:=uN eQ c i.toNat
  have h6:=qR eQ c i.toNat
  have hql:=(ni q c 0).2.1
  dsimp only
  rw [e1,ob9]
  refine .bind (.app (by subst g2; simp; omega)) λr hr=>?_
  rw [wB hq h (by omega),ob9,aq g0 (by omega),aE (by omega) (by omega)]
  have e3:(i+1).toNat=i.toNat+1:=by omega
  refine .inl ⟨⟨by simp only; omega,by simp only; omega,?_,?_⟩,by simp only; omega⟩
  ·simp only; rw [e3,yf,hr,g2,g3]
  ·simp only; rw [e3,pl,e2,g3]; simp
 ·simp only [decide_eq_false_iff_not] at hge
  rw [g2,show i.toNat=eQ.length by omega]
theorem wC {eQ:List ab} (hc:COk eQ) {c:Int} {i:Nat} (hi:i<eQ.length) : -1000000<=ta eQ c i/\ta eQ c i<=1000000:=by
 have hmx:=hc.max
 have hq:=hc.q _ (List.mem_of_getElem? (List.getElem?_eq_getElem hi))
 have e:qAt eQ i=eQ[i]:=Bw (List.getElem?_eq_getElem hi)
 unfold ta
 rw [e]
 split
 ·rename_i h
  have hN:0<=(eQ[i]).N/\(eQ[i]).N<eQ.length:=by unfold QOk at hq; rcases h with h | h <;> simp [h] at hq <;> omega
  have h1:=qR eQ c (eQ[i]).N.toNat
  have h2:=qR eQ c i
  omega
 ·omega
theorem Bx {eQ:List ab} (hc:COk eQ) {c:Int} (h:1<=c/\c<=8):lW eQ c=some (tk eQ c eQ.length):=by
 have hmx:=hc.max
 refine Tot.eq ?_
 unfold lW
 rw [yN hc h,ob9]
 refine .bind (P:=λr=>r=tk eQ c eQ.length) (.iter (λs=>0<=s.2/\s.2<=(eQ.length:Int)/\s.1=tk eQ c s.2.toNat) (λs=>((eQ.length:Int)-s.2).toNat) ⟨by simp,by simp,rfl⟩ λs hs=>?_) λr hr=>.pure hr
 obtain ⟨out,i⟩:=s
 obtain ⟨g0,g1,g2⟩:=hs
 simp only at g0 g1 g2
 unfold mT
 refine .sel (λhlt=>?_) λhge=>.inr (show out=_ from ?_)
 ·simp only [decide_eq_true_eq] at hlt
  obtain ⟨q,e1,e2,hq⟩:=hc.at g0 hlt
  have h6:=qR eQ c i.toNat
  have hql:=(ni q c (ta eQ c i.toNat)).2.1
  have hof:=wC hc (c:=c) (i:=i.toNat) (by omega)
  dsimp only
  rw [e1]
  simp only [ob9]
  refine .bind (P:=λy=>y=ta eQ c i.toNat) (.bind (P:=λb=>b=true↔(q.Op=4\/q.Op=5)) (.sel (λh=>.pure ?_) λh=>.pure ?_) λb hb=>.sel (λh=>?_) λh=>.pure ?_) λy hy=>?_
  ·simp at h; simp [h]
  ·simp at h; simp [h]
  ·have ho:=hb.1 h
   have hN:0<=q.N/\q.N<eQ.length:=by unfold QOk at hq; rcases ho with h | h <;> simp [h] at hq <;> omega
   have h7:=qR eQ c q.N.toNat
   rw [uO hN.1 hN.2,uO g0 hlt,ob9,ob9,aE (i:=_-_) (by omega) (by omega),aE (by omega) (by omega)]
   unfold ta
   rw [e2,if_pos ho]; exact .pure rfl
  ·unfold ta; rw [e2,if_neg (λhh=>by rw [hb.2 hh] at h; cases h)]
  ·subst hy
   rw [yd hq h hof,ob9]
   refine .bind (.app (by subst g2; rw [xa]; omega)) λr hr=>.inl ?_
   rw [aq g0 (by omega)]
   refine ⟨⟨by simp only; omega,by simp only; omega,?_⟩,by simp only; omega⟩
   simp only
   rw [show (i+1).toNat=i.toNat+1 by omega,tk,hr,g2,blk,e2]
 ·simp only [decide_eq_false_iff_not] at hge
  rw [g2,show i.toNat=eQ.length by omega]
theorem yg {eQ:List ab} (hc:COk eQ) {c:Int} (h:1<=c/\c<=8):de eQ c=some (tk eQ c eQ.length,true):=by
 have hmx:=hc.max
 have hone:=hc.one
 refine Tot.eq ?_
 unfold de
 rw [yO hc h,ob9]
 have hne:List.isEmpty (plL eQ c eQ.length)=false:=by
  rw [List.isEmpty_eq_false_iff]; intro e; have:=uN eQ c eQ.length; rw [e] at this; simp at this; omega
 refine .sf hne (.bind (P:=λr=>r=tk eQ c eQ.length) (.iter (λs=>0<=s.2/\s.2<=(eQ.length:Int)/\s.1=tk eQ c s.2.toNat) (λs=>((eQ.length:Int)-s.2).toNat) ⟨by simp,by simp,rfl⟩ λs hs=>?_) λr hr=>.pure (by rw [hr]))
 obtain ⟨out,i⟩:=s
 obtain ⟨g0,g1,g2⟩:=hs
 simp only at g0 g1 g2
 unfold la
 refine .sel (λhlt=>?_) λhge=>.inr (show out=_ from ?_)
 ·simp only [decide_eq_true_eq] at hlt
  obtain ⟨q,e1,e2,hq⟩:=hc.at g0 hlt
  have h6:=qR eQ c i.toNat
  have hql:=(ni q c (ta eQ c i.toNat)).2.1
  have hof:=wC hc (c:=c) (i:=i.toNat) (by omega)
  dsimp only
  rw [e1]
  simp only [ob9,cr]
  refine .bind (P:=λy=>y=ta eQ c i.toNat) (.sel (λh=>?_) λh=>.pure ?_) λy hy=>?_
  ·have ho:q.Op=4\/q.Op=5:=by simpa using h
   have hN:0<=q.N/\q.N<eQ.length:=by unfold QOk at hq; rcases ho with h | h <;> simp [h] at hq <;> omega
   have h7:=qR eQ c q.N.toNat
   rw [uO hN.1 hN.2,uO g0 hlt,ob9,ob9,aE (i:=_-_) (by omega) (by omega),aE (by omega) (by omega)]
   unfold ta
   rw [e2,if_pos ho]; exact .pure rfl
  ·unfold ta; rw [e2,if_neg (by simpa using h)]
  ·subst hy
   rw [wB hq h hof,ob9]
   refine .bind (.app (by subst g2; rw [xa]; omega)) λr hr=>.inl ?_
   rw [aq g0 (by omega)]
   refine ⟨⟨by simp only; omega,by simp only; omega,?_⟩,by simp only; omega⟩
   simp only
   rw [show (i+1).toNat=i.toNat+1 by omega,tk,hr,g2,blk,e2]
 ·simp only [decide_eq_false_iff_not] at hge
  rw [g2,show i.toNat=eQ.length by omega]
theorem Ae {l:List Instr} (hl:l.length<=1000000):fF l l=some true:=by
 refine Tot.eq ?_
 unfold fF
 refine .sf (by simp) (.bind (P:=λz=>z=.inr ()) (.iter (λi:Int=>0<=i/\i<=l.length) (λi=>(l.length-i).toNat) ⟨by omega,by omega⟩ λi ⟨g0,g1⟩=>?_) λz hz=>by subst hz; exact .pure rfl)
 unfold lc
 refine .sel (λh=>?_) λ_=>.inr rfl
 simp only [decide_eq_true_eq] at h
 refine .bind (.nth g0 h) λx ⟨hx,_⟩=>.bind (.nth g0 h) λy ⟨hy,_⟩=>?_
 obtain rfl:x=y:=o9 (hx.symm.trans hy)
 refine .sf (by simp) (.inl ?_)
 rw [aq g0 (by omega)]
 exact ⟨⟨by omega,by omega⟩,by omega⟩
end
noncomputable section
theorem Af {eQ:List ab} (hc:COk eQ) {c:Int} (h:¬ (1<=c/\c<=8)):de eQ c=some ([],false):=by
 unfold de fz
 rw [lY hc,ob9,jB (by simp; omega),ob9]; rfl
def tF (t c:Int) (l:List ah):List Instr:=tk (bF t l) c (bF t l).length
theorem Ag {k:Nat} (hk:20<=k) {p:aA} (hb:PB p) (t c:Int):((VP p/\(0<=t/\t<=4)/\1<=c/\c<=8)/\fC k p t c=some (p.Tasks.map (tF t c),true)/\fE k p t c=some (p.Tasks.map (tF t c),true))\/(¬ (VP p/\(0<=t/\t<=4)/\1<=c/\c<=8)/\fC k p t c=some ([],false)/\fE k p t c=some ([],false)):=by
 have ee:(⟨p.Rooms,p.Tasks⟩:aA)=p:=rfl
 unfold fC fE
 rw [ee]
 rcases wA hk hb t with ⟨⟨hv,ht⟩,c1,c2⟩ | ⟨hv,c1,c2⟩
 ·have hn:=hv.2.1
  have hcs:∀ q∈p.Tasks.map (bF t),COk q:=λq hq=>by
   obtain ⟨l,hl,rfl⟩:=List.mem_map.1 hq
   exact (Bo ht.1 ht.2 hv.rooms (hv.tasks l hl)).1
  have hlen:(p.Tasks.map (bF t)).length=p.Tasks.length:=by simp
  have hmm:(p.Tasks.map (bF t)).map (λq=>tk q c q.length)=p.Tasks.map (tF t c):=by simp [tF]
  rw [c1,c2,ob9,ob9,bD (by rfl)]
  by_cases hc:1<=c/\c<=8
  ·refine .inl ⟨⟨hv,ht,hc⟩,?_⟩
   rw [<-hmm]
   generalize p.Tasks.map (bF t)=L at hcs hlen
   constructor
   ·rw [rp (l:=L) (g:=λq=>tk q c q.length) (e:=λx=>.inr x) (by omega) (λout i x g0 g1 hx hm ho=>?_) λout=>?_]
    ·rfl
    ·unfold dm
     rw [dX (by simpa using g1),show nth L i=some x by unfold nth; rw [if_neg (by omega)]; exact hx,ob9,yg (hcs x hm) hc,ob9,bD (by rfl)]
     exact Tot.eq (.bind (.app (by simp; omega)) λr hr=>.pure (by rw [hr]))
    ·unfold dm
     exact bD (by simp)
   ·have h6:aY c 1 8=some true:=by unfold aY; simp; omega
    rw [h6,bD (show (!true)=false from rfl),ob9,ob9,bD (show (!true)=false from rfl),rp (l:=L) (g:=λq=>tk q c q.length) (e:=id) (by omega) (λout i x g0 g1 hx hm ho=>?_) λout=>?_]
    ·rfl
    ·unfold io
     rw [dX (by simpa using g1),show nth L i=some x by unfold nth; rw [if_neg (by omega)]; exact hx,ob9,Bx (hcs x hm) hc,ob9]
     exact Tot.eq (.bind (.app (by simp; omega)) λr hr=>.pure (by rw [hr]))
    ·unfold io
     exact bD (by simp)
  ·refine .inr ⟨λh=>hc h.2.2,?_,?_⟩
   ·obtain ⟨x,hx⟩:∃ x,(p.Tasks.map (bF t))[0]?=some x:=⟨_,List.getElem?_eq_getElem (by omega)⟩
    have hx0:nth (p.Tasks.map (bF t)) 0=some x:=hx
    rw [dg,show dm c (p.Tasks.map (bF t),true) ([],0)=some (.inr (.inl ([],false))) by
     unfold dm
     rw [dX (by simp; omega)]
     dsimp only
     rw [hx0,ob9,Af (hcs x (List.mem_of_getElem? hx)) hc,ob9]
     exact dX rfl]
    rfl
   ·have h6:aY c 1 8=some false:=by unfold aY; simp; omega
    rw [h6,bD (show (!true)=false from rfl),ob9,ob9]
    exact dX rfl
 ·refine .inr ⟨λh=>hv ⟨h.1,h.2.1⟩,?_,?_⟩
  ·rw [c1,ob9]; exact dX rfl
  ·rw [c2,ob9,dX (by rfl),ob9]; exact dX rfl
theorem CY {t:Int} (h0:0<=t) (h4:t<=4) {R:Int} (hR:R<=3) {l:List ah} (h:VL R l) (c:Int):(tF t c l).length<=3600:=by
 have h1:=(Bo h0 h4 hR h).1.max
 have h2:=qR (bF t l) c (bF t l).length
 unfold tF
 rw [xa]
 omega
theorem vY {k:Nat} (hk:20<=k) {eQ:List Int} (h:∀ x∈eQ,0<=x/\x<=255):Tot (dZ k eQ) λr=>PB r.1:=by
 unfold dZ
 refine .bind (AG h) λr ⟨hb,hp⟩=>.bind (Bq (m:=0) hb hk (by rw [hp]; omega) (by rw [hp]; omega) (by omega)) λz hz=>.bind (bU (m:=300000) hb hz.1 hz.2.1 (by omega) (by omega) (by omega)) λx hx=>.bind (bU (m:=300001) hb hx.1 (by have:=hx.2.1; omega) (by omega) (by omega) (by omega)) λy hy=>.sel (λ_=>.pure hz.2.2) λ_=>.bind (bU (m:=300002) hb hy.1 (by have:=hy.2.1; omega) (by omega) (by omega) (by omega)) λu hu=>.pure hz.2.2
theorem Ah {k:Nat} (hk:20<=k) {eQ:List Int} (h:∀ x∈eQ,0<=x/\x<=255):i7 k eQ=some true:=by
 refine Tot.eq ?_
 unfold i7
 refine .sel (λ_=>.pure rfl) λ_=>.bind (vY hk h) λd hb=>?_
 have ee:(⟨d.1.Rooms,d.1.Tasks⟩:aA)=d.1:=rfl
 rw [ee]
 rcases Ag hk hb d.2.1 d.2.2 with ⟨⟨hv,ht,hc⟩,e1,e2⟩ | ⟨_,e1,e2⟩
 ·have hn:=hv.2.1
  have hbc:dc k d.1 d.2.1=some (d.1.Tasks.map (bF d.2.1),true):=by
   rcases wA hk hb d.2.1 with ⟨_,e,_⟩ | ⟨hx,_⟩
   ·exact e
   ·exact absurd ⟨hv,ht⟩ hx
  rw [e1,e2,ob9,ob9,hbc]
  refine .sf (by simp) (.sf (by simp) (.bind (pG (l:=d.1.Tasks.map (bF d.2.1)) (λ_=>True) (by simp; omega) (λi x h0 h1 hx hm=>?_) λi e=>?_) λz hz=>(rZ hz).mono λb hb=>hb.2 ⟨λ_ _=>trivial,rfl⟩))
  ·unfold fZ
   rw [List.getElem?_map] at hx
   obtain ⟨l,hl,rfl⟩:=Option.map_eq_some_iff.1 hx
   have hlm:=List.mem_of_getElem? hl
   have hVL:=hv.tasks l hlm
   have hck:=(Bo ht.1 ht.2 hv.rooms hVL).1
   have hx':nth (d.1.Tasks.map (tF d.2.1 d.2.2)) i=some (tF d.2.1 d.2.2 l):=by
    unfold nth
    rw [if_neg (by omega),List.getElem?_map,hl]
    rfl
   have hsm:=Ae (l:=tF d.2.1 d.2.2 l) (by have:=CY ht.1 ht.2 hv.rooms hVL d.2.2; omega)
   rw [dX (by simpa using h1),show nth (d.1.Tasks.map (bF d.2.1)) i=some (bF d.2.1 l) by unfold nth; rw [if_neg (by omega),List.getElem?_map,hl]; rfl,ob9,yg hck hc,ob9]
   dsimp only
   rw [hx',ob9,ob9,show tk (bF d.2.1 l) d.2.2 (bF d.2.1 l).length=tF d.2.1 d.2.2 l from rfl,hsm]
   exact .pure (.inl ⟨trivial,rfl⟩)
  ·unfold fZ
   exact bD (by simp [e])
 ·rw [e1,e2,ob9,ob9]
  exact .st (by simp) (.pure rfl)
end
noncomputable section
abbrev CL := Calls Tryz.prog
abbrev vi (x:Int):Value := Value.int IntKind.i64 x
abbrev RO (w:World) (h:Hd) {α:Type} := @RV α w (Old No w) (sv h)
abbrev RU (w:World) (v:Value) := Ret No w (λ_:Unit => v) λ_ => []
theorem z.{u} {α:Sort u} {a:α}:a=a := rfl
theorem zz {A S T:Nat->Prop} (h:∀ b, S b->A b/\T b):∀ b, S b->T b := λb hb => (h b hb).2
end
end Go.Proofs.YtfpngipcclmliaaGreatDoor.N
namespace Go.Proofs.YtfpngipcclmliaaGreatDoor.X
noncomputable section
theorem CW.g {P:Program} {n id:Nat} {ops:Array Oper} {d:Code} {E:Env} {W:World} {R:Exit->Env->World->Prop} (h:RG P n ops ops.toList E W (λE' W' => CW P n d E' W' R)):CW P n (.seq (.region id ops false) d) E W R := .seq (.region h)
variable {P:Program} {n:Nat} {ops:Array Oper} {o:Oper} {E:Env} {W:World} {v:Value} {K:Env->World->Prop} {SW:World->Prop} {k f:Nat} {ls:Array Bool}
theorem RK.tp' (i:Nat) (ho:ops[i]?=some o) (hv:pq n E o=some v) (hS:SW W) (h:RK P n ops SW k f (ls.setIfInBounds i true) (put E o.dst v) W K) (hs:(Region.noSelect ops&&Region.free .any ops ls i&&(Region.ready .any ops ls).contains i&&ki ops k i&&!(Nat.beq i k))=true := by kernel_rfl):RK P n ops SW k (f+1) ls E W K := .tp i ho hv hS hs h
theorem RK.ts' (i:Nat) (ho:ops[i]?=some o) (hv:∀ W, SW W->eg P n E o W v W) (hS:SW W) (hg:og n o=true) (h:RK P n ops SW k f (ls.setIfInBounds i true) (put E o.dst v) W K) (hs:(Region.noSelect ops&&Region.free .any ops ls i&&(Region.ready .any ops ls).contains i&&ki ops k i&&!(Nat.beq i k))=true := by kernel_rfl):RK P n ops SW k (f+1) ls E W K := .ts i ho hv hS hg hs h
theorem RG.qn {P:Program} {n:Nat} {ops:Array Oper} {o:Oper} {E:Env} {W:World} {v:Value} {K:Env->World->Prop} (h:pq n E o=some v) (k:K (put E o.dst v) W):RG P n ops [o] E W K := .q h (.nil k)
end
end Go.Proofs.YtfpngipcclmliaaGreatDoor.X
namespace Go.Proofs.YtfpngipcclmliaaGreatDoor.N
open Go.Proofs.YtfpngipcclmliaaGreatDoor.X
open T Tryz
noncomputable section
theorem vG {a0:List Int} {v_0:Hd} {w:World} {r:aQ} (h:mF a0=some r) (q_0:RO w v_0 5 1 (D.int .u8) a0):CL 28 #[sv v_0] w (Ret No w (λs:Nat×{x:Hd // ∀ (T:Nat->Prop),RV w T (sv v_0) 5 1 (D.int .u8) a0->RV w T (sv x) 5 1 (D.int .u8) r.b}=>.pointer (some ⟨s.1,0,none⟩)) (λs=>[.box s.1 88 [(sv s.2.1),vi r.p]])):=by
 unfold mF at h
 refine ao func28 z z ?_
 have s:=Sep.start w
 refine .g (.qn z (bv h λy1 hy1 h=>?_))
 refine .seq (CW.via (R':=λx E' W'=>x=.normal/\∃ (v1:Hd),(∀ (T:Nat->Prop),RV w T (sv v_0) 5 1 (D.int .u8) a0->RV w T (sv v1) 5 1 (D.int .u8) y1)/\al E' [(0,(sv v1))]/\Sep No w W' []) ?_ ?_)
 ·have h:=hy1
  refine .g (.q z (.s (aJ (s.keep q_0) u22 z z) z (.q z (.nil ?_))))
  refine .cs z h ?_ ?_ <;> intro h
  ·refine .region (.q z (bv h λr1 hr1 h=>.s (slv hr1 q_0 u22 t5 z z z z) z (.q z (.nil ?_))))
   obtain rfl:=o9 h
   exact ⟨z,(zF v_0 (Int.toNat 0) 1 r1.length),λ_ q_0=>(Ct hr1 q_0),sb z,s.to []⟩
  refine .skip ?_
  obtain rfl:=o9 h
  exact ⟨z,v_0,λ_ q_0=>q_0,sb z,s.to []⟩
 intro x E W hJ
 obtain ⟨rfl,v2,q2,hE,s⟩:=hJ
 refine ⟨_,hE.sub,?_⟩
 refine .g (.q z (.s (bs T.s88 z z) z (.c (.box s z z ?_))))
 intro g1 W s
 cases h
 exact .qn z (.ret (aa (g1,⟨v2,λ_ q_0=>(q2 _ q_0)⟩) (rt z rn) z (s.tk [0])))
theorem ar {a0:aQ} {a1:Int} {aw:Hd} {g_0:Nat} {S:Nat->Prop} {w:World} {r:Int×Int} (h:az a0 a1=some r) (aR:RV w (Old S w) (sv aw) 5 1 (D.int .u8) a0.b) (hO:bw w [.box g_0 88 [sv aw,vi a0.p]] S) (hlt:∀ b,S b->b<w.heap.size):CL 30 #[Pt g_0,vi a1] w (Ret S w (λs:Unit=>.int .i64 r.1) (λs=>[.box g_0 88 [sv aw,vi r.2]])):=by
 unfold az at h
 refine ao func30 z z ?_
 have s:=Sep.sm hO hlt
 refine .g (.qn z (.g (.q z (.q z (.q z (.s (fa f88_1 z z z) z (.s (ld t3 s z z z z z) z (.q z (.q z (.s (fa f88_1 z z z) z (.c (.st t3 s z z z ?_))))))))))))
 intro W s
 refine .nil (.seq (.g (.q z (.q z (.q z (.cu 7 24 ((decide (a1<1))||((a0.b.length:Int)==0)) s ?_ ?_))))))
 ·refine .both (decide (a1<1)) (λb=>?_) (λb=>?_)
  ·exact .xx b z (.xx b z (.xx b z (.xx b z (.xx b z (.xx b z (.s (pkt b z z z) z (.nil (ck 7 s z (gY b)))))))))
  have hg1:=b
  exact .g hg1 (.q z (.g hg1 (.q z (.g hg1 (.s (fa f88_0 z z z) z (.g hg1 (.s (ld t22 s z z z z z) z (.g hg1 (.s (aJ (s.keep aR) u22 z z) z (.g hg1 (.q z (.s (pkf hg1 z z z) z (.nil (ck 7 s z (gr hg1)))))))))))))))
 intro W s
 refine .nil ?_
 refine .cs z h ?_ ?_ <;> intro h
 ·cases h
  exact .g (.qn z (.ret (aa () (rt z rn) z (s.tk [0]))))
 refine .skip (.g (.q z (.q z (.s (fa f88_1 z z z) z (.s (ld t3 s z z z z z) z (.q z (.qn z (.seq (.g (.q z (.q z (.q z (.s (fa f88_0 z z z) z (.s (ld t22 s z z z z z) z (.s (aJ (s.keep aR) u22 z z) z (.q z (.nil ?_)))))))))))))))))
 refine .cs z h ?_ ?_ <;> intro h
 ·refine .g (.q z (.q z (.s (fa f88_0 z z z) z (.s (ld t22 s z z z z z) z (.q z (bv h λx1 hx1 h=>.s (ixv (s.keep aR) hx1 u22 t5 z z z) z (.s (lde (RV.flat (s.keep aR) hx1 z) t5 z z z z z) z (.s (cv u5 u3 z z) z (.q z (bv h λd1 hd1 h=>.s (dr hd1 z z z) z (.qn z (.ret ?_))))))))))))
  cases h
  exact aa () (rt z rn) z (s.tk [0])
 refine .skip (.seq (.rk 46 s [0] T.mix ?_))
 intro W s
 have t:=s.to [0]
 refine .tp' 0 z z t (.tp' 1 z z t (.ts' 2 z (λW t=>fa f88_0 z z z) t z (.ts' 3 z (λW t=>ld t22 t z z z z z) t z (.tp' 4 z z t (.tp' 5 z z t (.tp' 6 z z t (.ts' 7 z (λW t=>fa f88_0 z z z) t z (.ts' 8 z (λW t=>ld t22 t z z z z z) t z (.ts' 9 z (λW t=>aJ (s.keep aR) u22 z z) t z (bv h λd2 hd2 h=>.ts' 10 z (λW t=>dr hd2 z z z) t z (bv h λx2 hx2 h=>.ts' 11 z (λW t=>ixv (s.keep aR) hx2 u22 t5 z z z) t z (.ts' 12 z (λW t=>lde (RV.flat (t.keep aR) hx2 z) t5 z z z z z) t z (.ts' 13 z (λW t=>cv u5 u3 z z) t z (.tp' 14 z z t (.tp' 15 z z t (.tp' 16 z z t (.ts' 17 z (λW t=>fa f88_0 z z z) t z (.ts' 18 z (λW t=>ld t22 t z z z z z) t z (.tp' 19 z z t (.tp' 20 z z t (.tp' 21 z z t (.tp' 22 z z t (.tp' 23 z z t (.ts' 24 z (λW t=>fa f88_0 z z z) t z (.ts' 25 z (λW t=>ld t22 t z z z z z) t z (.ts' 26 z (λW t=>aJ (s.keep aR) u22 z z) t z (bv h λd3 hd3 h=>.ts' 27 z (λW t=>dr hd3 z z z) t z (bv h λx3 hx3 h=>.ts' 28 z (λW t=>ixv (s.keep aR) hx3 u22 t5 z z z) t z (.ts' 29 z (λW t=>lde (RV.flat (t.keep aR) hx3 z) t5 z z z z z) t z (.ts' 30 z (λW t=>cv u5 u3 z z) t z (.tp' 31 z z t (.tp' 32 z z t (.tp' 33 z z t (.tp' 34 z z t (.tp' 35 z z t (.tp' 36 z z t (.tp' 37 z z t (.tp' 38 z z t (.ts' 39 z (λW t=>fa f88_0 z z z) t z (.ts' 40 z (λW t=>ld t22 t z z z z z) t z (.ts' 41 z (λW t=>aJ (s.keep aR) u22 z z) t z (bv h λd4 hd4 h=>.ts' 42 z (λW t=>dq hd4 z z z) t z (.tp' 43 z z t (.tp' 44 z z t (.tp' 45 z z t (.done (.g (.q z (.q z (.q z (.q z (.qn z (.g (.q z (.q z (bv h λd5 hd5 h=>.s (dr hd5 z z z) z (.qn z (.ret ?_))))))))))))))))))))))))))))))))))))))))))))))))))))))))))
 cases h
 exact aa () (rt z rn) z (s.tk [0])
theorem tf {a0:aQ} {aw:Hd} {g_0:Nat} {S:Nat->Prop} {w:World} {r:(List Int)×Int} (h:kj a0=some r) (aR:RV w (Old S w) (sv aw) 5 1 (D.int .u8) a0.b) (hO:bw w [.box g_0 88 [sv aw,vi a0.p]] S) (hlt:∀ b,S b->b<w.heap.size):CL 99 #[Pt g_0] w (Ret S w (λs:Hd=>(sv s)) (λs=>[.box g_0 88 [sv aw,vi r.2],ac (sv s) 3 1 (D.int .i64) r.1])):=by
 unfold kj at h
 refine ao func99 z z ?_
 have s:=Sep.sm hO hlt
 refine .g (.qn z (.g (.c (.liv [] (D.int .i64) u23 t3 s z z z z ?_ z (λ_=>z)))))
 intro v1 W s
 refine .qn z (.g (.c (.liv [0,1,1,2,2,3] (D.int .i64) u23 t3 s z z z z ?_ z (λ_=>z))))
 intro v2 W s
 refine .q z (bv h λy1 hy1 h=>?_)
 have s:=s.p2
 refine .c (.cS (L0:=[.box g_0 88 [sv aw,vi a0.p]]) s func30 (λS h1 h2 h3=>(ar hy1 (s.ks aR h1) h2 (zz h1))) z z ?_)
 rintro ⟨⟩ W s
 refine bv h λx1 hx1 h=>.s (ixv s.p1.lv hx1 u23 t3 z z z) z (.s (lde (RV.flat s.p1.lv hx1 z) t3 z z z z z) z (.qn z (.seq (.g (.qn z (.block (bv h λy2 hy2 h=>?_)))))))
 refine .via (.iter (λs1 E' W'=>∃ (v5:Hd),al E' [(0,Pt g_0),(3,(sv v5)),(4,vi x1),(5,vi s1.2.1)]/\Sep S w W' [.box g_0 88 [sv aw,vi s1.2.2],ac (sv v2) 3 1 (D.int .i64) [0,1,1,2,2,3],ac (sv v5) 3 1 (D.int .i64) s1.1]) (λy3 x E' W'=>x=.exit 0/\∃ (v6:Hd),al E' [(3,(sv v6))]/\Sep S w W' [.box g_0 88 [sv aw,vi y3.2],ac (sv v2) 3 1 (D.int .i64) [0,1,1,2,2,3],ac (sv v6) 3 1 (D.int .i64) y3.1]) hy2 ⟨v1,sb z,s.tk [0,0,0]⟩ ?_) ?_
 ·intro s1 y4 E W h hI
  obtain ⟨v4,hE,s⟩:=hI
  refine CW.sub hE ?_
  unfold mh at h
  refine .seq (.g (.q z (.q z (.qn z (.cond z (λb=>?_) (λb=>?_))))))
  ·have h:=aC b h
   refine .skip (.seq (.block (.region (.q z (.c (.liv [1,1,2,3,4] (D.int .i64) u23 t3 s z z z z ?_ z (λ_=>z)))))))
   intro v7 W s
   refine .q z (bv h λy5 hy5 h=>?_)
   have s:=s.p1
   refine .c (.cS (L0:=[.box g_0 88 [sv aw,vi s1.2.2]]) s func30 (λS h1 h2 h3=>(ar hy5 (s.ks aR h1) h2 (zz h1))) z z ?_)
   rintro ⟨⟩ W s
   refine bv h λx2 hx2 h=>.s (ixv s.p1.lv hx2 u23 t3 z z z) z (.s (lde (RV.flat s.p1.lv hx2 z) t3 z z z z z) z (.c (.liv [x2] (D.int .i64) u23 t3 s z z z z ?_ z (λ_=>z))))
   intro v8 W s
   refine bv h λr1 hr1 h=>?_
   have hT0:=s.p4
   refine .c (.av hr1 hT0 hT0.p1.lv (λ_=>z) u23 t3 z z z ?_)
   intro v9 W s
   refine .qn z (.region (.q z (.q z (.q z (.nil ?_)))))
   cases h
   exact ⟨z,v9,sb z,s.tk [2,3,0]⟩
  have h:=aD b h
  refine .exit ?_
  cases h
  exact ⟨by simp,z,v4,sb z,s.tk [0,0,0]⟩
 intro x E W hJ
 obtain ⟨rfl,v10,hE,s⟩:=hJ
 refine ⟨_,hE.sub,?_⟩
 cases h
 exact .g (.q z (.qn z (.ret (aa v10 (rt z rn) z (s.tk [0,1])))))
theorem aW {a0:Int} {a1:Int} {w:World} {r:Expr} (h:cJ a0 a1=some r):CL 102 #[vi a0,vi a1] w (Ret No w (λs:Hd=>.agg #[vi r.Op,vi r.N,sv s]) (λs=>[ac (sv s) 91 3 aK r.Args])):=by
 unfold cJ at h
 refine ao func102 z z ?_
 have s:=Sep.start w
 refine .g (.c (.alloc t91 s ?_))
 intro g1 W s
 refine .nil (.g (.q z (.q z (.c (.lg (L1:=[]) [] aK u89 t91 (s.to [0]) z z z (.nil) ?_ z Aw)))))
 intro v1 W s
 refine .s (bs T.s91 z z) z (.c (.st t91 s.p1 z z z ?_))
 intro W s
 cases h
 exact .nil (.ret (aa v1 (rc s t91 z rn z z) z (s.tk [1])))
theorem oX {a0:aQ} {aw:Hd} {g_0:Nat} {S:Nat->Prop} {w:World} {r:Expr×Int} (h:hZ a0=some r) (aR:RV w (Old S w) (sv aw) 5 1 (D.int .u8) a0.b) (hO:bw w [.box g_0 88 [sv aw,vi a0.p]] S) (hlt:∀ b,S b->b<w.heap.size):CL 58 #[Pt g_0] w (Ret S w (λs:Hd=>.agg #[vi r.1.Op,vi r.1.N,sv s]) (λs=>[.box g_0 88 [sv aw,vi r.2],ac (sv s) 91 3 aK r.1.Args])):=by
 unfold hZ at h
 refine ao func58 z z ?_
 have s:=Sep.sm hO hlt
 refine .g (.c (.alloc t91 s ?_))
 intro g1 W s
 refine .nil (.seq (.g (.q z (bv h λy1 hy1 h=>?_))))
 have s:=s.p1
 refine .c (.cS (L0:=[.box g_0 88 [sv aw,vi a0.p]]) s func30 (λS h1 h2 h3=>(ar hy1 (s.ks aR h1) h2 (zz h1))) z z ?_)
 rintro ⟨⟩ W s
 refine .nil (.block (.g (.q z (.qn z (.cond z (λb=>?_) (λb=>?_))))))
 ·have h:=aC b h
  refine .g (.q z (bv h λy2 hy2 h=>.c (.cS (L0:=[.box g_0 88 [sv aw,vi y1.2]]) s func30 (λS h1 h2 h3=>(ar hy2 (s.ks aR h1) h2 (zz h1))) z z ?_)))
  rintro ⟨⟩ W s
  refine bv h λy3 hy3 h=>.c (.cV s func102 (aW hy3) z z ?_)
  intro v1 W s
  refine .c (.st t91 s.p2 z z z ?_)
  intro W s
  cases h
  exact .nil (.ret (aa v1 (rc s t91 z rn z z) z (s.tk [2,1])))
 have h:=aD b h
 refine .g (.q z (.qn z (.cond z (λb=>?_) (λb=>?_))))
 ·have h:=aC b h
  refine .g (.c (.liv [5,31,32,100,2047,2048,65536,99999] (D.int .i64) u23 t3 s z z z z ?_ z (λ_=>z)))
  intro v2 W s
  refine .q z (bv h λy4 hy4 h=>?_)
  have s:=s.p1
  refine .c (.cS (L0:=[.box g_0 88 [sv aw,vi y1.2]]) s func30 (λS h1 h2 h3=>(ar hy4 (s.ks aR h1) h2 (zz h1))) z z ?_)
  rintro ⟨⟩ W s
  refine bv h λx1 hx1 h=>.s (ixv s.p1.lv hx1 u23 t3 z z z) z (.s (lde (RV.flat s.p1.lv hx1 z) t3 z z z z z) z (bv h λy5 hy5 h=>.c (.cV s func102 (aW hy5) z z ?_)))
  intro v3 W s
  refine .c (.st t91 s.p3 z z z ?_)
  intro W s
  cases h
  exact .nil (.ret (aa v3 (rc s t91 z rn z z) z (s.tk [2,1])))
 have h:=aD b h
 refine .skip (.g (.q z (bv h λy6 hy6 h=>.c (.cS (L0:=[.box g_0 88 [sv aw,vi y1.2]]) s func30 (λS h1 h2 h3=>(ar hy6 (s.ks aR h1) h2 (zz h1))) z z ?_))))
 rintro ⟨⟩ W s
 refine bv h λy7 hy7 h=>.c (.cV s func102 (aW hy7) z z ?_)
 intro v4 W s
 refine .c (.st t91 s.p2 z z z ?_)
 intro W s
 cases h
 exact .nil (.ret (aa v4 (rc s t91 z rn z z) z (s.tk [2,1])))
theorem cz {a0:Int} {a1:Expr} {a2:Expr} {vH:Hd} {vI:Hd} {S:Nat->Prop} {w:World} {r:Expr} (h:lk a0 a1 a2=some r) (hO:bw w [ac (sv vH) 91 3 aK a1.Args,ac (sv vI) 91 3 aK a2.Args] S) (hlt:∀ b,S b->b<w.heap.size):CL 258 #[vi a0,.agg #[vi a1.Op,vi a1.N,sv vH],.agg #[vi a2.Op,vi a2.N,sv vI]] w (Ret S w (λs:Hd=>.agg #[vi r.Op,vi r.N,sv s]) (λs=>[ac (sv s) 91 3 aK r.Args])):=by
 unfold lk at h
 refine ao func258 z z ?_
 have s:=Sep.sm hO hlt
 refine .g (.c (.box s z z ?_))
 intro g1 W s
 refine .c (.box s z z ?_)
 intro g2 W s
 refine .c (.alloc t91 s ?_)
 intro g3 W s
 refine .nil (.g (.q z (.s (ld t91 s.p2 z z z z z) z (.s (ld t91 s.p1 z z z z z) z (.c (.lg (L1:=[ac (sv vH) 91 3 aK a1.Args,ac (sv vI) 91 3 aK a2.Args]) [(Expr.mk a1.Op a1.N a1.Args),(Expr.mk a2.Op a2.N a2.Args)] aK u89 t91 (s.to [3,3,0,0,0]) z z z (.aggE (cH _) (.flat (c1:=[vi a1.Op]) z (.flat (c1:=[vi a1.N]) z (.row (.aggE (cH _) (.flat (c1:=[vi a2.Op]) z (.flat (c1:=[vi a2.N]) z (.row .nil)))))))) ?_ z Aw))))))
 intro v1 W s
 refine .s (bs T.s91 z z) z (.c (.st t91 s.p1 z z z ?_))
 intro W s
 cases h
 exact .nil (.ret (aa v1 (rc s t91 z rn z z) z (s.tk [1])))
theorem vZ {a0:aQ} {aw:Hd} {g_0:Nat} {S:Nat->Prop} {w:World} {r:Int×Int} (h:nm a0=some r) (aR:RV w (Old S w) (sv aw) 5 1 (D.int .u8) a0.b) (hO:bw w [.box g_0 88 [sv aw,vi a0.p]] S) (hlt:∀ b,S b->b<w.heap.size):CL 259 #[Pt g_0] w (Ret S w (λs:Unit=>.int .i64 r.1) (λs=>[.box g_0 88 [sv aw,vi r.2]])):=by
 unfold nm at h
 refine ao func259 z z ?_
 have s:=Sep.sm hO hlt
 refine .g (.qn z (.g (.q z (bv h λy1 hy1 h=>.c (.cS (L0:=[.box g_0 88 [sv aw,vi a0.p]]) s func30 (λS h1 h2 h3=>(ar hy1 (s.ks aR h1) h2 (zz h1))) z z ?_)))))
 rintro ⟨⟩ W s
 cases h
 exact .q z (.qn z (.ret (aa () (rt z rn) z (s.tk [0]))))
def lZ (F:aQ->Int->Option (Expr×Int)):Prop:=∀ {a0:aQ} {a1:Int} {aw:Hd} {g_0:Nat} {S:Nat->Prop} {w:World} {r:Expr×Int} (h:F a0 a1=some r) (aR:RV w (Old S w) (sv aw) 5 1 (D.int .u8) a0.b) (hO:bw w [.box g_0 88 [sv aw,vi a0.p]] S) (hlt:∀ b,S b->b<w.heap.size) , CL 235 #[Pt g_0,vi a1] w (Ret S w (λs:Hd=>.agg #[vi r.1.Op,vi r.1.N,sv s]) (λs=>[.box g_0 88 [sv aw,vi r.2],ac (sv s) 91 3 aK r.1.Args]))
theorem vJ {k:Nat} {jf:aQ->Int->Option (Expr×Int)} (oY:lZ jf):lZ (je k jf):=by
 intro a0 a1 aw g_0 S w r h aR hO hlt
 unfold je at h
 refine ao func235 z z ?_
 have s:=Sep.sm hO hlt
 refine .g (.c (.alloc t91 s ?_))
 intro g1 W s
 refine .nil (.seq (.g (.q z (.q z (.q z (bv h λb1 hb1 h=>.chunkL 4 13 (b1.1) (M:=S) (w0:=w) (L:=[.box g1 91 [vi 0,vi 0,sv aF],.box g_0 88 [sv aw,vi b1.2]]) ?_ ?_))))))
 ·refine .both (decide (a1<2)) (λb=>?_) (λb=>?_)
  ·refine .xx b z (.xx b z (.xx b z ?_))
   cases aC b hb1
   exact .s (pkt b z z z) z (.nil (ck 4 (s.to [0,0])))
  have hg1:=b
  have h:=aD b hb1
  refine .g hg1 (.q z (bv h λy1 hy1 h=>?_))
  have s:=s.p1
  refine .g hg1 (.c (.cS (L0:=[.box g_0 88 [sv aw,vi a0.p]]) s func30 (λS h1 h2 h3=>(ar hy1 (s.ks aR h1) h2 (zz h1))) z z ?_))
  rintro ⟨⟩ W s
  refine .g hg1 (.q z (.s (pkf hg1 z z z) z ?_))
  cases h
  exact .nil (ck 4 (s.to [1,0]))
 intro W s
 refine .nil (.cond z (λb=>?_) (λb=>?_))
 ·have h:=aC b h
  refine .g (.q z (bv h λy2 hy2 h=>?_))
  have s:=s.p1
  refine .c (.cS (L0:=[.box g_0 88 [sv aw,vi b1.2]]) s func58 (λS h1 h2 h3=>(oX hy2 (s.ks aR h1) h2 (zz h1))) z z ?_)
  rintro v1 W s
  refine .c (.st t91 s.p2 z z z ?_)
  intro W s
  cases h
  exact .nil (.ret (aa v1 (rc s t91 z rn z z) z (s.tk [1,1])))
 have h:=aD b h
 refine .skip (.g (.q z (bv h λy3 hy3 h=>?_)))
 have s:=s.p1
 refine .c (.cS (L0:=[.box g_0 88 [sv aw,vi b1.2]]) s func259 (λS h1 h2 h3=>(vZ hy3 (s.ks aR h1) h2 (zz h1))) z z ?_)
 rintro ⟨⟩ W s
 refine .qn z (.g (.q z (.q z (.q z (bv h λy4 hy4 h=>.c (.cS (L0:=[.box g_0 88 [sv aw,vi y3.2]]) s func235 (λS h1 h2 h3=>(oY hy4 (s.ks aR h1) h2 (zz h1))) z z ?_))))))
 rintro v2 W s
 refine .c (.alloc t91 s ?_)
 intro g2 W s
 refine .c (.st t91 s z z z ?_)
 intro W s
 refine .nil (.seq (.rk 7 s [0,2] T.mix ?_))
 intro W s
 have t:=s.to [0,2]
 refine .tp' 0 z z t (.ts' 1 z (λW t=>ld t91 t z z z z z) t z (.tp' 2 z z t (.tp' 3 z z t (.tp' 4 z z t (bv h λy5 hy5 h=>?_)))))
 have s:=s.p1
 refine .by1 5 z (.cS (L0:=[.box g_0 88 [sv aw,vi y4.2]]) s func235 (λS h1 h2 h3=>(oY hy5 (s.ks aR h1) h2 (zz h1))) z z ?_)
 rintro v3 W s
 refine s.an [2,3] λt=>bv h λy6 hy6 h=>?_
 have s:=s.p1.p3
 refine .by1 6 z (.cS (L0:=[ac (sv v2) 91 3 aK y4.1.Args,ac (sv v3) 91 3 aK y5.1.Args]) s func258 (λS h1 h2 h3=>(cz hy6 h2 (zz h1))) z z ?_)
 rintro v4 W s
 refine s.an [2,2] λt=>.by1 7 z (.st t91 s.p3 z z z ?_)
 intro W s
 refine ⟨λh=>absurd z h,?_⟩
 cases h
 exact .done (.ret (aa v4 (rc s t91 z rn z z) z (s.tk [2,1])))
theorem qr (k:Nat):lZ (eh k):=by
  induction k with
  | zero=>exact by intro a0 a1 aw g_0 S w r h aR hO hlt; exact no h
  | succ k ih=>exact vJ (k:=k) ih
theorem kO {k:Nat}:lZ (eh k):=(qr k)
theorem pM {k:Nat} {a0:aQ} {aw:Hd} {g_0:Nat} {S:Nat->Prop} {w:World} {r:ah×Int} (h:lm k a0=some r) (aR:RV w (Old S w) (sv aw) 5 1 (D.int .u8) a0.b) (hO:bw w [.box g_0 88 [sv aw,vi a0.p]] S) (hlt:∀ b,S b->b<w.heap.size):CL 231 #[Pt g_0] w (Ret S w (λs:Hd×Hd×Hd=>.agg #[vi r.1.Kind,vi r.1.Var,vi r.1.Box,vi r.1.Expr.Op,vi r.1.Expr.N,(sv s.1),(sv s.2.1),(sv s.2.2)]) (λs=>[.box g_0 88 [sv aw,vi r.2],ac (sv s.1) 91 3 aK r.1.Expr.Args,ac (sv s.2.1) 95 8 ak r.1.Body,ac (sv s.2.2) 95 8 ak r.1.Else])):=by
 unfold lm at h
 refine ao func231 z z ?_
 have s:=Sep.sm hO hlt
 refine .g (.c (.alloc t95 s ?_))
 intro g1 W s
 refine .nil (.g (.q z (bv h λy1 hy1 h=>?_)))
 have s:=s.p1
 refine .c (.cS (L0:=[.box g_0 88 [sv aw,vi a0.p]]) s func30 (λS h1 h2 h3=>(ar hy1 (s.ks aR h1) h2 (zz h1))) z z ?_)
 rintro ⟨⟩ W s
 refine .qn z (.g (.q z (.q z (.q z (bv h λy2 hy2 h=>.c (.cS (L0:=[.box g_0 88 [sv aw,vi y1.2]]) s func30 (λS h1 h2 h3=>(ar hy2 (s.ks aR h1) h2 (zz h1))) z z ?_))))))
 rintro ⟨⟩ W s
 refine .q z (bv h λy3 hy3 h=>.c (.cS (L0:=[.box g_0 88 [sv aw,vi y2.2]]) s func235 (λS h1 h2 h3=>(kO hy3 (s.ks aR h1) h2 (zz h1))) z z ?_))
 rintro v1 W s
 refine .s (bs T.s95 z z) z (.c (.st t95 s.p2 z z z ?_))
 intro W s
 refine .nil (.ret ?_)
 have s:=s.nilv 95 8 ak
 have s:=s.nilv 95 8 ak
 cases h
 exact aa (v1,aF,aF) (rc s.p2 t95 z rn z z) z (s.tk [3,3,1,0])
theorem uj {k:Nat} {a0:aQ} {a1:Int} {aw:Hd} {g_0:Nat} {S:Nat->Prop} {w:World} {r:ah×Int} (h:lD k a0 a1=some r) (aR:RV w (Old S w) (sv aw) 5 1 (D.int .u8) a0.b) (hO:bw w [.box g_0 88 [sv aw,vi a0.p]] S) (hlt:∀ b,S b->b<w.heap.size):CL 234 #[Pt g_0,vi a1] w (Ret S w (λs:Hd×Hd×Hd=>.agg #[vi r.1.Kind,vi r.1.Var,vi r.1.Box,vi r.1.Expr.Op,vi r.1.Expr.N,(sv s.1),(sv s.2.1),(sv s.2.2)]) (λs=>[.box g_0 88 [sv aw,vi r.2],ac (sv s.1) 91 3 aK r.1.Expr.Args,ac (sv s.2.1) 95 8 ak r.1.Body,ac (sv s.2.2) 95 8 ak r.1.Else])):=by
 unfold lD at h
 refine ao func234 z z ?_
 have s:=Sep.sm hO hlt
 refine .g (.c (.alloc t95 s ?_))
 intro g1 W s
 refine .nil (.seq (.g (.q z (.qn z (.cond z (λb=>?_) (λb=>?_))))))
 ·have h:=aC b h
  refine .g (.q z (bv h λy1 hy1 h=>?_))
  have s:=s.p1
  refine .c (.cS (L0:=[.box g_0 88 [sv aw,vi a0.p]]) s func231 (λS h1 h2 h3=>(pM hy1 (s.ks aR h1) h2 (zz h1))) z z ?_)
  rintro ⟨v1,v2,v3⟩ W s
  refine .c (.st t95 s.p4 z z z ?_)
  intro W s
  cases h
  exact .nil (.ret (aa (v1,v2,v3) (rc s t95 z rn z z) z (s.tk [1,1,1,1])))
 have h:=aD b h
 refine .skip (.g (.q z (.q z (bv h λy2 hy2 h=>?_))))
 have s:=s.p1
 refine .c (.cS (L0:=[.box g_0 88 [sv aw,vi a0.p]]) s func30 (λS h1 h2 h3=>(ar hy2 (s.ks aR h1) h2 (zz h1))) z z ?_)
 rintro ⟨⟩ W s
 refine .qn z (.seq (.g (.q z (bv h λy3 hy3 h=>.c (.cS (L0:=[.box g_0 88 [sv aw,vi y2.2]]) s func30 (λS h1 h2 h3=>(ar hy3 (s.ks aR h1) h2 (zz h1))) z z ?_)))))
 rintro ⟨⟩ W s
 refine .qn z (.cond z (λb=>?_) (λb=>?_))
 ·have h:=aC b h
  refine .g (.q z (.q z (.q z (bv h λy4 hy4 h=>.c (.cS (L0:=[.box g_0 88 [sv aw,vi y3.2]]) s func30 (λS h1 h2 h3=>(ar hy4 (s.ks aR h1) h2 (zz h1))) z z ?_)))))
  rintro ⟨⟩ W s
  refine .q z (bv h λy5 hy5 h=>.c (.cS (L0:=[.box g_0 88 [sv aw,vi y4.2]]) s func235 (λS h1 h2 h3=>(kO hy5 (s.ks aR h1) h2 (zz h1))) z z ?_))
  rintro v4 W s
  refine .s (bs T.s95 z z) z (.c (.st t95 s.p2 z z z ?_))
  intro W s
  refine .nil (.ret ?_)
  have s:=s.nilv 95 8 ak
  have s:=s.nilv 95 8 ak
  cases h
  exact aa (v4,aF,aF) (rc s.p2 t95 z rn z z) z (s.tk [3,3,1,0])
 have h:=aD b h
 refine .skip (.g (.q z (.q z (bv h λy6 hy6 h=>.c (.cS (L0:=[.box g_0 88 [sv aw,vi y3.2]]) s func30 (λS h1 h2 h3=>(ar hy6 (s.ks aR h1) h2 (zz h1))) z z ?_)))))
 rintro ⟨⟩ W s
 refine .s (bs T.s95 z z) z (.c (.st t95 s.p1 z z z ?_))
 intro W s
 refine .nil (.ret ?_)
 have s:=s.nilv 91 3 aK
 have s:=s.nilv 95 8 ak
 have s:=s.nilv 95 8 ak
 cases h
 exact aa (aF,aF,aF) (rc s.p3 t95 z rn z z) z (s.tk [4,2,1,0])
def dY (F:aQ->Int->Int->Int->Bool->Option ((List ah)×Int)):Prop:=∀ {a0:aQ} {a1:Int} {a2:Int} {a3:Int} {a4:Bool} {aw:Hd} {g_0:Nat} {S:Nat->Prop} {w:World} {r:(List ah)×Int} (h:F a0 a1 a2 a3 a4=some r) (aR:RV w (Old S w) (sv aw) 5 1 (D.int .u8) a0.b) (hO:bw w [.box g_0 88 [sv aw,vi a0.p]] S) (hlt:∀ b,S b->b<w.heap.size) , CL 148 #[Pt g_0,vi a1,vi a2,vi a3,.bool a4] w (Ret S w (λs:Hd=>(sv s)) (λs=>[.box g_0 88 [sv aw,vi r.2],ac (sv s) 95 8 ak r.1]))
def gQ (F:aQ->Int->Int->Bool->Option ((List ah)×Int)):Prop:=∀ {a0:aQ} {a1:Int} {a2:Int} {a3:Bool} {aw:Hd} {g_0:Nat} {S:Nat->Prop} {w:World} {r:(List ah)×Int} (h:F a0 a1 a2 a3=some r) (aR:RV w (Old S w) (sv aw) 5 1 (D.int .u8) a0.b) (hO:bw w [.box g_0 88 [sv aw,vi a0.p]] S) (hlt:∀ b,S b->b<w.heap.size) , CL 193 #[Pt g_0,vi a1,vi a2,.bool a3] w (Ret S w (λs:Hd=>(sv s)) (λs=>[.box g_0 88 [sv aw,vi r.2],ac (sv s) 95 8 ak r.1]))
def jZ (F:aQ->Int->Int->Bool->Option (ah×Int)):Prop:=∀ {a0:aQ} {a1:Int} {a2:Int} {a3:Bool} {aw:Hd} {g_0:Nat} {S:Nat->Prop} {w:World} {r:ah×Int} (h:F a0 a1 a2 a3=some r) (aR:RV w (Old S w) (sv aw) 5 1 (D.int .u8) a0.b) (hO:bw w [.box g_0 88 [sv aw,vi a0.p]] S) (hlt:∀ b,S b->b<w.heap.size) , CL 232 #[Pt g_0,vi a1,vi a2,.bool a3] w (Ret S w (λs:Hd×Hd×Hd=>.agg #[vi r.1.Kind,vi r.1.Var,vi r.1.Box,vi r.1.Expr.Op,vi r.1.Expr.N,(sv s.1),(sv s.2.1),(sv s.2.2)]) (λs=>[.box g_0 88 [sv aw,vi r.2],ac (sv s.1) 91 3 aK r.1.Expr.Args,ac (sv s.2.1) 95 8 ak r.1.Body,ac (sv s.2.2) 95 8 ak r.1.Else]))
def gR (F:aQ->Int->Int->Option ((List ah)×Int)):Prop:=∀ {a0:aQ} {a1:Int} {a2:Int} {aw:Hd} {g_0:Nat} {S:Nat->Prop} {w:World} {r:(List ah)×Int} (h:F a0 a1 a2=some r) (aR:RV w (Old S w) (sv aw) 5 1 (D.int .u8) a0.b) (hO:bw w [.box g_0 88 [sv aw,vi a0.p]] S) (hlt:∀ b,S b->b<w.heap.size) , CL 233 #[Pt g_0,vi a1,vi a2] w (Ret S w (λs:Hd=>(sv s)) (λs=>[.box g_0 88 [sv aw,vi r.2],ac (sv s) 95 8 ak r.1]))
theorem uk {k:Nat} {a9:aQ->Int->Int->Int->Bool->Option ((List ah)×Int)} {bf:aQ->Int->Int->Bool->Option ((List ah)×Int)} {bG:aQ->Int->Int->Bool->Option (ah×Int)} {br:aQ->Int->Int->Option ((List ah)×Int)} (eW:dY a9) (kP:gQ bf) (mB:jZ bG) (kQ:gR br):dY (iw k a9 bf bG br):=by
 intro a0 a1 a2 a3 a4 aw g_0 S w r h aR hO hlt
 unfold iw at h
 refine ao func148 z z ?_
 have s:=Sep.sm hO hlt
 refine .g (.qn z (.g (.c (.lg (L1:=[]) [] ak u93 t95 (s.to [0]) z z z (.nil) ?_ z j8))))
 intro v1 W s
 refine .qn z (.seq (.g (.qn z (.block (bv h λy1 hy1 h=>?_)))))
 refine .via (.iter (λs1 E' W'=>∃ (v4:Hd),al E' [(0,Pt g_0),(1,vi a1),(2,vi a2),(3,vi a3),(4,.bool a4),(11,(sv v4)),(12,vi s1.2.1)]/\Sep S w W' [.box g_0 88 [sv aw,vi s1.2.2],ac (sv v4) 95 8 ak s1.1]) (λy2 x E' W'=>x=.exit 0/\∃ (v5:Hd),al E' [(11,(sv v5))]/\Sep S w W' [.box g_0 88 [sv aw,vi y2.2],ac (sv v5) 95 8 ak y2.1]) hy1 ⟨v1,sb z,s.tk [1,0]⟩ ?_) ?_
 ·intro s1 y3 E W h hI
  obtain ⟨v3,hE,s⟩:=hI
  refine CW.sub hE ?_
  unfold mi at h
  refine .seq (.g (.q z (.q z (.qn z (.cond z (λb=>?_) (λb=>?_))))))
  ·have h:=aC b h
   refine .skip (.seq (.block (.region (.q z (.q z (.q z (.q z (.q z (bv h λy4 hy4 h=>.c (.cS (L0:=[.box g_0 88 [sv aw,vi s1.2.2]]) s func193 (λS h1 h2 h3=>(kP hy4 (s.ks aR h1) h2 (zz h1))) z z ?_))))))))))
   rintro v6 W s
   refine bv h λr1 hr1 h=>.c (.appv hr1 (s.to [2,1,0]) u93 t95 z z z ?_)
   intro v7 W s
   refine .qn z (.region (.q z (.q z (.q z (.nil ?_)))))
   cases h
   exact ⟨z,v7,sb z,s.tk [1,0]⟩
  have h:=aD b h
  refine .exit ?_
  cases h
  exact ⟨by simp,z,v3,sb z,s.tk [0,0]⟩
 intro x E W hJ
 obtain ⟨rfl,v8,hE,s⟩:=hJ
 refine ⟨_,hE.sub,?_⟩
 cases h
 exact .g (.q z (.qn z (.ret (aa v8 (rt z rn) z (s.tk [0,0])))))
def vK (w:World) (S:Nat->Prop) (aw:Hd) (g_0:Nat) (a0:aQ) (a1:Int) (a2:Int) (a3:Bool) (r:(List ah)×Int):Env->World->Prop:=Fin Tryz.prog Tryz.f193 S w (λs:Hd=>(sv s)) (λs=>[.box g_0 88 [sv aw,vi r.2],ac (sv s) 95 8 ak r.1]) .ret
theorem vL {k:Nat} {a9:aQ->Int->Int->Int->Bool->Option ((List ah)×Int)} {bf:aQ->Int->Int->Bool->Option ((List ah)×Int)} {bG:aQ->Int->Int->Bool->Option (ah×Int)} {br:aQ->Int->Int->Option ((List ah)×Int)} (eW:dY a9) (kP:gQ bf) (mB:jZ bG) (kQ:gR br):gQ (jg k a9 bf bG br):=by
 intro a0 a1 a2 a3 aw g_0 S w r h aR hO hlt
 unfold jg at h
 refine ao func193 z z ?_
 have s:=Sep.sm hO hlt
 refine .g (.qn z (bv h λy1 hy1 h=>?_))
 refine .seq (CW.via (R':=λx E' W'=>(match y1 with | .inl o1=>x=.normal/\al E' [(0,Pt g_0)]/\Sep S w W' [.box g_0 88 [sv aw,vi o1]] | .inr o2=>x=.ret/\vK w S aw g_0 a0 a1 a2 a3 o2 E' W')) ?_ ?_)
 ·have h:=hy1
  refine .g (.q z (bv h λy2 hy2 h=>.c (.cS (L0:=[.box g_0 88 [sv aw,vi a0.p]]) s func30 (λS h1 h2 h3=>(ar hy2 (s.ks aR h1) h2 (zz h1))) z z ?_)))
  rintro ⟨⟩ W s
  refine .nil (.block (bv h λy3 hy3 h=>?_))
  refine .seq (CW.via (R':=λx E' W'=>x=.normal/\al E' [(0,Pt g_0),(1,vi a1),(2,vi a2),(3,.bool a3),(10,vi y2.1),(11,.bool y3)]/\Sep S w W' [.box g_0 88 [sv aw,vi y2.2]]) ?_ ?_)
  ·have h:=hy3
   refine .g (.q z (.q z (.nil ?_)))
   refine .cs z h ?_ ?_ <;> intro h
   ·refine .skip ?_
    cases h
    exact ⟨z,sb z,s.tk [0]⟩
   refine .region (.q z (.q z (.nil ?_)))
   cases h
   exact ⟨z,sb z,s.tk [0]⟩
  intro x E W hJ
  obtain ⟨rfl,hE,s⟩:=hJ
  refine ⟨_,hE.sub,?_⟩
  refine .cond z (λb=>?_) (λb=>?_)
  ·have h:=aC b h
   refine .g (.q z (bv h λy4 hy4 h=>.c (.cS (L0:=[.box g_0 88 [sv aw,vi y2.2]]) s func231 (λS h1 h2 h3=>(pM hy4 (s.ks aR h1) h2 (zz h1))) z z ?_)))
   rintro ⟨v1,v2,v3⟩ W s
   refine .c (.lg (L1:=[ac (sv v1) 91 3 aK y4.1.Expr.Args,ac (sv v2) 95 8 ak y4.1.Body,ac (sv v3) 95 8 ak y4.1.Else]) [(ah.mk y4.1.Kind y4.1.Var y4.1.Box (Expr.mk y4.1.Expr.Op y4.1.Expr.N y4.1.Expr.Args) y4.1.Body y4.1.Else)] ak u93 t95 (s.to [1,1,1,0]) z z z (.aggE (eI _) (.flat (c1:=[vi y4.1.Kind]) z (.flat (c1:=[vi y4.1.Var]) z (.flat (c1:=[vi y4.1.Box]) z (.aggE (cH _) (.flat (c1:=[vi y4.1.Expr.Op]) z (.flat (c1:=[vi y4.1.Expr.N]) z (.row (.row (.row .nil)))))))))) ?_ z j8)
   intro v4 W s
   refine .qn z (.ret ?_)
   cases h
   exact ⟨z,aa (vs:=[_]) v4 (rt z rn) z (s.tk [1,0])⟩
  have h:=aD b h
  refine .g (.q z (.q z (.nil ?_)))
  refine .cs z h ?_ ?_ <;> intro h
  ·refine .g (.q z (.qn z (.cond z (λb=>?_) (λb=>?_))))
   ·have h:=aC b h
    refine .g (.q z (.q z (.q z (.q z (bv h λy5 hy5 h=>.c (.cS (L0:=[.box g_0 88 [sv aw,vi y2.2]]) s func232 (λS h1 h2 h3=>(mB hy5 (s.ks aR h1) h2 (zz h1))) z z ?_))))))
    rintro ⟨v5,v6,v7⟩ W s
    refine .c (.lg (L1:=[ac (sv v5) 91 3 aK y5.1.Expr.Args,ac (sv v6) 95 8 ak y5.1.Body,ac (sv v7) 95 8 ak y5.1.Else]) [(ah.mk y5.1.Kind y5.1.Var y5.1.Box (Expr.mk y5.1.Expr.Op y5.1.Expr.N y5.1.Expr.Args) y5.1.Body y5.1.Else)] ak u93 t95 (s.to [1,1,1,0]) z z z (.aggE (eI _) (.flat (c1:=[vi y5.1.Kind]) z (.flat (c1:=[vi y5.1.Var]) z (.flat (c1:=[vi y5.1.Box]) z (.aggE (cH _) (.flat (c1:=[vi y5.1.Expr.Op]) z (.flat (c1:=[vi y5.1.Expr.N]) z (.row (.row (.row .nil)))))))))) ?_ z j8)
    intro v8 W s
    refine .qn z (.ret ?_)
    cases h
    exact ⟨z,aa (vs:=[_]) v8 (rt z rn) z (s.tk [1,0])⟩
   have h:=aD b h
   refine .skip ?_
   cases h
   exact ⟨z,sb z,s.tk [0]⟩
  refine .g (.q z (.q z (.nil ?_)))
  refine .cs z h ?_ ?_ <;> intro h
  ·refine .g (.q z (.q z (.q z (.cu 2 33 ((decide (a2>0))&&a3) s ?_ ?_))))
   ·refine .both (decide (a2>0)) (λb=>?_) (λb=>?_)
    ·have hg1:=b
     exact .g hg1 (.q z (.s (pkt hg1 z z z) z (.nil (ck 2 s z (bp hg1)))))
    exact .xx b z (.s (pkf b z z z) z (.nil (ck 2 s z (bq b))))
   intro W s
   refine .nil (.cond z (λb=>?_) (λb=>?_))
   ·have h:=aC b h
    refine .g (.q z (.q z (.q z (bv h λy6 hy6 h=>.c (.cS (L0:=[.box g_0 88 [sv aw,vi y2.2]]) s func233 (λS h1 h2 h3=>(kQ hy6 (s.ks aR h1) h2 (zz h1))) z z ?_)))))
    rintro v9 W s
    refine .qn z (.ret ?_)
    cases h
    exact ⟨z,aa (vs:=[_]) v9 (rt z rn) z (s.tk [0,0])⟩
   have h:=aD b h
   refine .skip ?_
   cases h
   exact ⟨z,sb z,s.tk [0]⟩
  refine bv h λy7 hy7 h=>?_
  refine .seq (CW.via (R':=λx E' W'=>x=.normal/\al E' [(0,Pt g_0),(1,vi a1),(10,vi y2.1),(38,.bool y7)]/\Sep S w W' [.box g_0 88 [sv aw,vi y2.2]]) ?_ ?_)
  ·have h:=hy7
   refine .g (.q z (.q z (.nil ?_)))
   refine .cs z h ?_ ?_ <;> intro h
   ·refine .skip ?_
    cases h
    exact ⟨z,sb z,s.tk [0]⟩
   refine .g (.q z (.q z (.nil ?_)))
   refine .cs z h ?_ ?_ <;> intro h
   ·refine .skip ?_
    cases h
    exact ⟨z,sb z,s.tk [0]⟩
   refine .region (.q z (.q z (.nil ?_)))
   cases h
   exact ⟨z,sb z,s.tk [0]⟩
  intro x E W hJ
  obtain ⟨rfl,hE,s⟩:=hJ
  refine ⟨_,hE.sub,?_⟩
  refine .cond z (λb=>?_) (λb=>?_)
  ·have h:=aC b h
   refine .g (.q z (.q z (bv h λy8 hy8 h=>.c (.cS (L0:=[.box g_0 88 [sv aw,vi y2.2]]) s func234 (λS h1 h2 h3=>(uj hy8 (s.ks aR h1) h2 (zz h1))) z z ?_))))
   rintro ⟨v10,v11,v12⟩ W s
   refine .c (.lg (L1:=[ac (sv v10) 91 3 aK y8.1.Expr.Args,ac (sv v11) 95 8 ak y8.1.Body,ac (sv v12) 95 8 ak y8.1.Else]) [(ah.mk y8.1.Kind y8.1.Var y8.1.Box (Expr.mk y8.1.Expr.Op y8.1.Expr.N y8.1.Expr.Args) y8.1.Body y8.1.Else)] ak u93 t95 (s.to [1,1,1,0]) z z z (.aggE (eI _) (.flat (c1:=[vi y8.1.Kind]) z (.flat (c1:=[vi y8.1.Var]) z (.flat (c1:=[vi y8.1.Box]) z (.aggE (cH _) (.flat (c1:=[vi y8.1.Expr.Op]) z (.flat (c1:=[vi y8.1.Expr.N]) z (.row (.row (.row .nil)))))))))) ?_ z j8)
   intro v13 W s
   refine .qn z (.ret ?_)
   cases h
   exact ⟨z,aa (vs:=[_]) v13 (rt z rn) z (s.tk [1,0])⟩
  have h:=aD b h
  refine .g (.q z (.q z (.nil ?_)))
  refine .cs z h ?_ ?_ <;> intro h
  ·refine .g (.s (bs T.s95 z z) z ?_)
   have s:=s.nilv 91 3 aK
   have s:=s.nilv 95 8 ak
   have s:=s.nilv 95 8 ak
   refine .c (.lg (L1:=[ac (sv aF) 91 3 aK [],ac (sv aF) 95 8 ak [],ac (sv aF) 95 8 ak []]) [(ah.mk 6 0 0 (Expr.mk 0 0 []) [] [])] ak u93 t95 (s.to [2,1,0,0]) z z z (.aggE (eI _) (.flat (c1:=[vi 6]) z (.flat (c1:=[vi 0]) z (.flat (c1:=[vi 0]) z (.aggE (cH _) (.flat (c1:=[vi 0]) z (.flat (c1:=[vi 0]) z (.row (.row (.row .nil)))))))))) ?_ z j8)
   intro v14 W s
   refine .qn z (.ret ?_)
   cases h
   exact ⟨z,aa (vs:=[_]) v14 (rt z rn) z (s.tk [1,0])⟩
  refine .skip ?_
  cases h
  exact ⟨z,sb z,s.tk [0]⟩
 intro x E W hJ
 rcases y1 with o3 | o4
 ·have h:=dG h
  obtain ⟨rfl,hE,s⟩:=hJ
  refine ⟨_,hE.sub,?_⟩
  refine .g (.q z (.q z (bv h λy9 hy9 h=>.c (.cS (L0:=[.box g_0 88 [sv aw,vi o3]]) s func30 (λS h1 h2 h3=>(ar hy9 (s.ks aR h1) h2 (zz h1))) z z ?_))))
  rintro ⟨⟩ W s
  refine .q z (bv h λy10 hy10 h=>.c (.cS (L0:=[.box g_0 88 [sv aw,vi y9.2]]) s func235 (λS h1 h2 h3=>(kO hy10 (s.ks aR h1) h2 (zz h1))) z z ?_))
  rintro v15 W s
  refine .s (bs T.s95 z z) z ?_
  have s:=s.nilv 95 8 ak
  have s:=s.nilv 95 8 ak
  refine .c (.lg (L1:=[ac (sv v15) 91 3 aK y10.1.Args,ac (sv aF) 95 8 ak [],ac (sv aF) 95 8 ak []]) [(ah.mk 7 0 0 (Expr.mk y10.1.Op y10.1.N y10.1.Args) [] [])] ak u93 t95 (s.to [3,1,0,0]) z z z (.aggE (eI _) (.flat (c1:=[vi 7]) z (.flat (c1:=[vi 0]) z (.flat (c1:=[vi 0]) z (.aggE (cH _) (.flat (c1:=[vi y10.1.Op]) z (.flat (c1:=[vi y10.1.N]) z (.row (.row (.row .nil)))))))))) ?_ z j8)
  intro v16 W s
  cases h
  exact .qn z (.ret (aa v16 (rt z rn) z (s.tk [1,0])))
 have h:=dH h
 obtain ⟨rfl,hF⟩:=hJ
 refine ⟨_,λ_ _ h=>h,?_⟩
 cases h
 exact hF
theorem xb {k:Nat} {a9:aQ->Int->Int->Int->Bool->Option ((List ah)×Int)} {bf:aQ->Int->Int->Bool->Option ((List ah)×Int)} {bG:aQ->Int->Int->Bool->Option (ah×Int)} {br:aQ->Int->Int->Option ((List ah)×Int)} (eW:dY a9) (kP:gQ bf) (mB:jZ bG) (kQ:gR br):jZ (lF k a9 bf bG br):=by
 intro a0 a1 a2 a3 aw g_0 S w r h aR hO hlt
 unfold lF at h
 refine ao func232 z z ?_
 have s:=Sep.sm hO hlt
 refine .g (.c (.alloc t95 s ?_))
 intro g1 W s
 refine .nil (.g (.q z (.q z (bv h λy1 hy1 h=>?_))))
 have s:=s.p1
 refine .c (.cS (L0:=[.box g_0 88 [sv aw,vi a0.p]]) s func30 (λS h1 h2 h3=>(ar hy1 (s.ks aR h1) h2 (zz h1))) z z ?_)
 rintro ⟨⟩ W s
 refine .q z (bv h λy2 hy2 h=>.c (.cS (L0:=[.box g_0 88 [sv aw,vi y1.2]]) s func235 (λS h1 h2 h3=>(kO hy2 (s.ks aR h1) h2 (zz h1))) z z ?_))
 rintro v1 W s
 refine .c (.alloc t91 s ?_)
 intro g2 W s
 refine .c (.st t91 s z z z ?_)
 intro W s
 refine .nil (.g (.q z (.q z (.q z (.q z (.q z (bv h λy3 hy3 h=>?_)))))))
 have s:=s.p1
 refine .c (.cS (L0:=[.box g_0 88 [sv aw,vi y2.2]]) s func30 (λS h1 h2 h3=>(ar hy3 (s.ks aR h1) h2 (zz h1))) z z ?_)
 rintro ⟨⟩ W s
 refine .q z (bv h λy4 hy4 h=>.c (.cS (L0:=[.box g_0 88 [sv aw,vi y3.2]]) s func148 (λS h1 h2 h3=>(eW hy4 (s.ks aR h1) h2 (zz h1))) z z ?_))
 rintro v2 W s
 refine .qn z (.seq (.rk 11 s [1,1,1,1] T.mix ?_))
 intro W s
 have t:=s.to [1,1,1,1]
 refine .ts' 0 z (λW t=>ld t91 t.p1 z z z z z) t z (.tp' 1 z z t (.tp' 2 z z t (.tp' 3 z z t (.tp' 4 z z t (.tp' 5 z z t (.tp' 6 z z t (.tp' 8 z z t (bv h λy5 hy5 h=>.by1 7 z (.cS (L0:=[.box g_0 88 [sv aw,vi y4.2]]) s func30 (λS h1 h2 h3=>(ar hy5 (s.ks aR h1) h2 (zz h1))) z z ?_)))))))))
 rintro ⟨⟩ W s
 refine s.an [1,1,1,1] λt=>bv h λy6 hy6 h=>.by1 9 z (.cS (L0:=[.box g_0 88 [sv aw,vi y5.2]]) s func148 (λS h1 h2 h3=>(eW hy6 (s.ks aR h1) h2 (zz h1))) z z ?_)
 rintro v3 W s
 refine s.an [2,2,2,2] λt=>.ts' 10 z (λW t=>bs T.s95 z z) t z (.by1 11 z (.st t95 s.p5 z z z ?_))
 intro W s
 refine ⟨λh=>absurd z h,?_⟩
 cases h
 exact .done (.ret (aa (v1,v2,v3) (rc s t95 z rn z z) z (s.tk [1,4,2,1])))
theorem vM {k:Nat} {a9:aQ->Int->Int->Int->Bool->Option ((List ah)×Int)} {bf:aQ->Int->Int->Bool->Option ((List ah)×Int)} {bG:aQ->Int->Int->Bool->Option (ah×Int)} {br:aQ->Int->Int->Option ((List ah)×Int)} (eW:dY a9) (kP:gQ bf) (mB:jZ bG) (kQ:gR br):gR (jh k a9 bf bG br):=by
 intro a0 a1 a2 aw g_0 S w r h aR hO hlt
 unfold jh at h
 refine ao func233 z z ?_
 have s:=Sep.sm hO hlt
 refine .g (.qn z (.g (.qn z (.g (.q z (.q z (.q z (.q z (.q z (bv h λy1 hy1 h=>.c (.cS (L0:=[.box g_0 88 [sv aw,vi a0.p]]) s func30 (λS h1 h2 h3=>(ar hy1 (s.ks aR h1) h2 (zz h1))) z z ?_)))))))))))
 rintro ⟨⟩ W s
 refine bv h λy2 hy2 h=>.c (.cS (L0:=[.box g_0 88 [sv aw,vi y1.2]]) s func148 (λS h1 h2 h3=>(eW hy2 (s.ks aR h1) h2 (zz h1))) z z ?_)
 rintro v1 W s
 refine .qn z (.g (.q z (.q z (bv h λy3 hy3 h=>.c (.cV s func102 (aW hy3) z z ?_)))))
 intro v2 W s
 refine bv h λy4 hy4 h=>.c (.cV s func102 (aW hy4) z z ?_)
 intro v3 W s
 refine bv h λy5 hy5 h=>?_
 have s:=s.p1
 refine .c (.cS (L0:=[ac (sv v2) 91 3 aK y3.Args,ac (sv v3) 91 3 aK y4.Args]) s func258 (λS h1 h2 h3=>(cz hy5 h2 (zz h1))) z z ?_)
 rintro v4 W s
 refine .s (bs T.s95 z z) z (.c (.alloc t95 s ?_))
 intro g1 W s
 refine .c (.st t95 s z z z ?_)
 intro W s
 refine .nil (.seq (bv h λy6 hy6 h=>bv h λy7 hy7 h=>bv h λy8 hy8 h=>bv h λy9 hy9 h=>bv h λr1 hr1 h=>?_))
 refine .via (R':=λx E' W'=>x=.normal/\∃ (g2:Nat) (v5:Hd) (v6:Hd) (v7:Hd),al E' [(7,vi 3),(10,Pt g2)]/\Sep S w W' [.box g_0 88 [sv aw,vi y7.2],.box g2 95 [vi 3,vi 0,vi 0,vi y9.Op,vi y9.N,sv v5,sv v6,sv v7],ac (sv v5) 91 3 aK y9.Args,ac (sv v6) 95 8 ak r1,ac (sv v7) 95 8 ak []]) ?_ ?_
 ·refine .rk 13 s [0] T.mix ?_
  intro W s
  have t:=s.to [0]
  refine .memo (λE' W'=>∃ (v10:Hd) (v11:Hd),al E' [(7,vi 3),(30,.agg #[vi y9.Op,vi y9.N,sv v10]),(31,(sv v1)),(33,(sv v11))]/\Sep S w W' [.box g1 95 [vi 1,vi 3,vi 0,vi y5.Op,vi y5.N,sv v4,sv aF,sv aF],.box g_0 88 [sv aw,vi y7.2],ac (sv v1) 95 8 ak y2.1,ac (sv v10) 91 3 aK y9.Args,ac (sv v11) 95 8 ak [(ah.mk 1 3 0 (Expr.mk y5.Op y5.N y5.Args) [] [])]]) 4 (rR 14 [0,1,2,3,4,5,6,7,8,9]) ?_ ?_
  ·intro E W hJ
   obtain ⟨v12,v13,hE,s⟩:=hJ
   refine .sub hE ?_
   have t:=s.to [0]
   refine .by [10,12] ⟨⟨_,z,?_⟩,⟨_,z,?_⟩,trivial⟩
   ·refine (.appv hr1 (s.to [2,3,0,0,0]) u93 t95 z z z ?_)
    intro v14 W s
    refine s.an [1] λt=>.ts' 11 z (λW t=>bs T.s95 z z) t z (.by1 12 z (.alloc t95 s ?_))
    intro g3 W s
    refine s.an [2] λt=>.by1 13 z (.st t95 s z z z ?_)
    intro W s
    refine ⟨λh=>absurd z h,?_⟩
    refine .done ?_
    have s:=s.nilv 95 8 ak
    exact ⟨z,g3,v12,v14,aF,sb z,s.tk [4,1,3,1,0]⟩
   refine (.alloc t95 s ?_)
   intro g4 W s
   refine s.an [1] λt=>.by1 10 z (.appv hr1 (s.to [3,4,0,0,0,0]) u93 t95 z z z ?_)
   intro v15 W s
   refine s.an [2] λt=>.ts' 11 z (λW t=>bs T.s95 z z) t z (.by1 13 z (.st t95 s.p1 z z z ?_))
   intro W s
   refine ⟨λh=>absurd z h,?_⟩
   refine .done ?_
   have s:=s.nilv 95 8 ak
   exact ⟨z,g4,v12,v15,aF,sb z,s.tk [4,1,3,1,0]⟩
  intro J1
  refine .memo (λE' W'=>∃ (g6:Nat) (v17:Hd),al E' [(7,vi 3),(10,Pt g6),(30,.agg #[vi y9.Op,vi y9.N,sv v17]),(31,(sv v1)),(32,.agg #[vi 1,vi 3,vi 0,vi y5.Op,vi y5.N,sv v4,sv aF,sv aF])]/\Sep S w W' [.box g1 95 [vi 1,vi 3,vi 0,vi y5.Op,vi y5.N,sv v4,sv aF,sv aF],ac (sv v4) 91 3 aK y5.Args,.box g_0 88 [sv aw,vi y7.2],ac (sv v1) 95 8 ak y2.1,.box g6 95 [vi 0,vi 0,vi 0,vi 0,vi 0,sv aF,sv aF,sv aF],ac (sv v17) 91 3 aK y9.Args]) 4 (rR 14 [0,1,2,3,4,5,6,7,8,12]) ?_ ?_
  ·intro E W hJ
   obtain ⟨g7,v18,hE,s⟩:=hJ
   refine .sub hE ?_
   have t:=s.to [0]
   have s:=s.nilv 95 8 ak
   have s:=s.nilv 95 8 ak
   refine .by1 9 z (.lg (L1:=[ac (sv v4) 91 3 aK y5.Args,ac (sv aF) 95 8 ak [],ac (sv aF) 95 8 ak []]) [(ah.mk 1 3 0 (Expr.mk y5.Op y5.N y5.Args) [] [])] ak u93 t95 (s.to [3,1,0,0,0,0,0,0]) z z z (.aggE (eI _) (.flat (c1:=[vi 1]) z (.flat (c1:=[vi 3]) z (.flat (c1:=[vi 0]) z (.aggE (cH _) (.flat (c1:=[vi y5.Op]) z (.flat (c1:=[vi y5.N]) z (.row (.row (.row .nil)))))))))) ?_ z j8)
   intro v19 W s
   refine s.an [1] λt=>.by1 10 z (.appv hr1 (s.to [3,0,0,0,0,0]) u93 t95 z z z ?_)
   intro v20 W s
   refine s.an [1] λt=>.ts' 11 z (λW t=>bs T.s95 z z) t z (.by1 13 z (.st t95 s.p3 z z z ?_))
   intro W s
   refine ⟨λh=>absurd z h,?_⟩
   refine .done ?_
   have s:=s.nilv 95 8 ak
   exact ⟨z,g7,v18,v20,aF,sb z,s.tk [4,1,3,1,0]⟩
  intro J2
  refine .memo (λE' W'=>∃ (g9:Nat) (v24:Hd) (v25:Hd) (v26:Hd),al E' [(7,vi 3),(10,Pt g9),(25,.agg #[vi y6.Op,vi y6.N,sv v24]),(29,.agg #[vi y8.Op,vi y8.N,sv v25]),(31,(sv v1)),(33,(sv v26))]/\Sep S w W' [.box g1 95 [vi 1,vi 3,vi 0,vi y5.Op,vi y5.N,sv v4,sv aF,sv aF],.box g_0 88 [sv aw,vi y7.2],ac (sv v1) 95 8 ak y2.1,.box g9 95 [vi 0,vi 0,vi 0,vi 0,vi 0,sv aF,sv aF,sv aF],ac (sv v24) 91 3 aK y6.Args,ac (sv v25) 91 3 aK y8.Args,ac (sv v26) 95 8 ak [(ah.mk 1 3 0 (Expr.mk y5.Op y5.N y5.Args) [] [])]]) 4 (rR 14 [0,1,2,3,4,5,7,8,9,12]) ?_ ?_
  ·intro E W hJ
   obtain ⟨g10,v27,v28,v29,hE,s⟩:=hJ
   refine .sub hE ?_
   have t:=s.to [0]
   have s:=s.p5.p5
   refine .by1 6 z (.cS (L0:=[ac (sv v27) 91 3 aK y6.Args,ac (sv v28) 91 3 aK y8.Args]) s func258 (λS h1 h2 h3=>(cz hy9 h2 (zz h1))) z z ?_)
   rintro v30 W s
   refine s.an [1] λt=>.by1 10 z (.appv hr1 (s.to [3,4,0,0,0,0]) u93 t95 z z z ?_)
   intro v31 W s
   refine s.an [2] λt=>.ts' 11 z (λW t=>bs T.s95 z z) t z (.by1 13 z (.st t95 s.p4 z z z ?_))
   intro W s
   refine ⟨λh=>absurd z h,?_⟩
   refine .done ?_
   have s:=s.nilv 95 8 ak
   exact ⟨z,g10,v30,v31,aF,sb z,s.tk [5,1,2,1,0]⟩
  intro J3
  refine .memo (λE' W'=>∃ (v35:Hd) (v36:Hd) (v37:Hd),al E' [(7,vi 3),(25,.agg #[vi y6.Op,vi y6.N,sv v35]),(29,.agg #[vi y8.Op,vi y8.N,sv v36]),(31,(sv v1)),(33,(sv v37))]/\Sep S w W' [.box g1 95 [vi 1,vi 3,vi 0,vi y5.Op,vi y5.N,sv v4,sv aF,sv aF],.box g_0 88 [sv aw,vi y7.2],ac (sv v1) 95 8 ak y2.1,ac (sv v35) 91 3 aK y6.Args,ac (sv v36) 91 3 aK y8.Args,ac (sv v37) 95 8 ak [(ah.mk 1 3 0 (Expr.mk y5.Op y5.N y5.Args) [] [])]]) 5 (rR 14 [0,1,2,3,4,5,7,8,9]) ?_ ?_
  ·intro E W hJ
   obtain ⟨v38,v39,v40,hE,s⟩:=hJ
   refine .sub hE ?_
   have t:=s.to [0]
   refine .by [6,12] ⟨⟨_,z,?_⟩,⟨_,z,?_⟩,trivial⟩
   ·have s:=s.p4.p4
    refine (.cS (L0:=[ac (sv v38) 91 3 aK y6.Args,ac (sv v39) 91 3 aK y8.Args]) s func258 (λS h1 h2 h3=>(cz hy9 h2 (zz h1))) z z ?_)
    rintro v41 W s
    refine s.an [1] λt=>?_
    exact .atl (J1 _ _ ⟨v41,v40,sb z,s.tk [1,1,1,0,0]⟩) (by kernel_rfl)
   refine (.alloc t95 s ?_)
   intro g11 W s
   refine s.an [1] λt=>?_
   exact .atl (J3 _ _ ⟨g11,v38,v39,v40,sb z,s.tk [1,1,1,0,0,0,0]⟩) (by kernel_rfl)
  intro J4
  refine .memo (λE' W'=>∃ (g13:Nat) (v44:Hd) (v45:Hd),al E' [(7,vi 3),(10,Pt g13),(25,.agg #[vi y6.Op,vi y6.N,sv v44]),(29,.agg #[vi y8.Op,vi y8.N,sv v45]),(31,(sv v1)),(32,.agg #[vi 1,vi 3,vi 0,vi y5.Op,vi y5.N,sv v4,sv aF,sv aF])]/\Sep S w W' [.box g1 95 [vi 1,vi 3,vi 0,vi y5.Op,vi y5.N,sv v4,sv aF,sv aF],ac (sv v4) 91 3 aK y5.Args,.box g_0 88 [sv aw,vi y7.2],ac (sv v1) 95 8 ak y2.1,.box g13 95 [vi 0,vi 0,vi 0,vi 0,vi 0,sv aF,sv aF,sv aF],ac (sv v44) 91 3 aK y6.Args,ac (sv v45) 91 3 aK y8.Args]) 5 (rR 14 [0,1,2,3,4,5,7,8,12]) ?_ ?_
  ·intro E W hJ
   obtain ⟨g14,v46,v47,hE,s⟩:=hJ
   refine .sub hE ?_
   have t:=s.to [0]
   refine .by [6,9] ⟨⟨_,z,?_⟩,⟨_,z,?_⟩,trivial⟩
   ·have s:=s.p6.p6
    refine (.cS (L0:=[ac (sv v46) 91 3 aK y6.Args,ac (sv v47) 91 3 aK y8.Args]) s func258 (λS h1 h2 h3=>(cz hy9 h2 (zz h1))) z z ?_)
    rintro v48 W s
    refine s.an [1] λt=>?_
    exact .atl (J2 _ _ ⟨g14,v48,sb z,s.tk [1,1,1,1,1,0]⟩) (by kernel_rfl)
   have s:=s.nilv 95 8 ak
   have s:=s.nilv 95 8 ak
   refine (.lg (L1:=[ac (sv v4) 91 3 aK y5.Args,ac (sv aF) 95 8 ak [],ac (sv aF) 95 8 ak []]) [(ah.mk 1 3 0 (Expr.mk y5.Op y5.N y5.Args) [] [])] ak u93 t95 (s.to [3,1,0,0,0,0,0,0,0]) z z z (.aggE (eI _) (.flat (c1:=[vi 1]) z (.flat (c1:=[vi 3]) z (.flat (c1:=[vi 0]) z (.aggE (cH _) (.flat (c1:=[vi y5.Op]) z (.flat (c1:=[vi y5.N]) z (.row (.row (.row .nil)))))))))) ?_ z j8)
   intro v49 W s
   refine s.an [1] λt=>?_
   exact .atl (J3 _ _ ⟨g14,v46,v47,v49,sb z,s.tk [1,1,1,1,1,1,0]⟩) (by kernel_rfl)
  intro J5
  refine .memo (λE' W'=>∃ (g16:Nat) (v52:Hd) (v53:Hd),al E' [(7,vi 3),(10,Pt g16),(25,.agg #[vi y6.Op,vi y6.N,sv v52]),(28,vi (w64 (1+y7.1))),(31,(sv v1)),(33,(sv v53))]/\Sep S w W' [.box g1 95 [vi 1,vi 3,vi 0,vi y5.Op,vi y5.N,sv v4,sv aF,sv aF],.box g_0 88 [sv aw,vi y7.2],ac (sv v1) 95 8 ak y2.1,.box g16 95 [vi 0,vi 0,vi 0,vi 0,vi 0,sv aF,sv aF,sv aF],ac (sv v52) 91 3 aK y6.Args,ac (sv v53) 95 8 ak [(ah.mk 1 3 0 (Expr.mk y5.Op y5.N y5.Args) [] [])]]) 5 (rR 14 [0,1,2,3,4,7,8,9,12]) ?_ ?_
  ·intro E W hJ
   obtain ⟨g17,v54,v55,hE,s⟩:=hJ
   refine .sub hE ?_
   have t:=s.to [0]
   refine .by1 5 z (.cV s func102 (aW hy8) z z ?_)
   intro v56 W s
   refine s.an [1] λt=>?_
   have s:=s.p5
   refine .by1 6 z (.cS (L0:=[ac (sv v54) 91 3 aK y6.Args,ac (sv v56) 91 3 aK y8.Args]) s func258 (λS h1 h2 h3=>(cz hy9 h2 (zz h1))) z z ?_)
   rintro v57 W s
   refine s.an [1] λt=>.by1 10 z (.appv hr1 (s.to [3,4,0,0,0,0]) u93 t95 z z z ?_)
   intro v58 W s
   refine s.an [2] λt=>.ts' 11 z (λW t=>bs T.s95 z z) t z (.by1 13 z (.st t95 s.p4 z z z ?_))
   intro W s
   refine ⟨λh=>absurd z h,?_⟩
   refine .done ?_
   have s:=s.nilv 95 8 ak
   exact ⟨z,g17,v57,v58,aF,sb z,s.tk [5,1,2,1,0]⟩
  intro J6
  refine .memo (λE' W'=>∃ (g19:Nat) (v61:Hd) (v62:Hd),al E' [(7,vi 3),(10,Pt g19),(25,.agg #[vi y6.Op,vi y6.N,sv v61]),(26,Pt g_0),(31,(sv v1)),(33,(sv v62))]/\Sep S w W' [.box g1 95 [vi 1,vi 3,vi 0,vi y5.Op,vi y5.N,sv v4,sv aF,sv aF],.box g_0 88 [sv aw,vi y2.2],ac (sv v1) 95 8 ak y2.1,.box g19 95 [vi 0,vi 0,vi 0,vi 0,vi 0,sv aF,sv aF,sv aF],ac (sv v61) 91 3 aK y6.Args,ac (sv v62) 95 8 ak [(ah.mk 1 3 0 (Expr.mk y5.Op y5.N y5.Args) [] [])]]) 7 (rR 14 [0,1,2,7,8,9,12]) ?_ ?_
  ·intro E W hJ
   obtain ⟨g20,v63,v64,hE,s⟩:=hJ
   refine .sub hE ?_
   have t:=s.to [0]
   have s:=s.p1
   refine .by1 3 z (.cS (L0:=[.box g_0 88 [sv aw,vi y2.2]]) s func30 (λS h1 h2 h3=>(ar hy7 (s.ks aR h1) h2 (zz h1))) z z ?_)
   rintro ⟨⟩ W s
   refine s.an [1] λt=>.tp' 4 z z t (.by1 5 z (.cV s func102 (aW hy8) z z ?_))
   intro v65 W s
   refine s.an [2] λt=>?_
   have s:=s.p5
   refine .by1 6 z (.cS (L0:=[ac (sv v63) 91 3 aK y6.Args,ac (sv v65) 91 3 aK y8.Args]) s func258 (λS h1 h2 h3=>(cz hy9 h2 (zz h1))) z z ?_)
   rintro v66 W s
   refine s.an [2] λt=>.by1 10 z (.appv hr1 (s.to [3,4,0,0,0,0]) u93 t95 z z z ?_)
   intro v67 W s
   refine s.an [3] λt=>.ts' 11 z (λW t=>bs T.s95 z z) t z (.by1 13 z (.st t95 s.p4 z z z ?_))
   intro W s
   refine ⟨λh=>absurd z h,?_⟩
   refine .done ?_
   have s:=s.nilv 95 8 ak
   exact ⟨z,g20,v66,v67,aF,sb z,s.tk [4,1,2,1,0]⟩
  intro J7
  refine .memo (λE' W'=>∃ (v70:Hd) (v71:Hd),al E' [(7,vi 3),(25,.agg #[vi y6.Op,vi y6.N,sv v70]),(26,Pt g_0),(31,(sv v1)),(33,(sv v71))]/\Sep S w W' [.box g1 95 [vi 1,vi 3,vi 0,vi y5.Op,vi y5.N,sv v4,sv aF,sv aF],.box g_0 88 [sv aw,vi y2.2],ac (sv v1) 95 8 ak y2.1,ac (sv v70) 91 3 aK y6.Args,ac (sv v71) 95 8 ak [(ah.mk 1 3 0 (Expr.mk y5.Op y5.N y5.Args) [] [])]]) 8 (rR 14 [0,1,2,7,8,9]) ?_ ?_
  ·intro E W hJ
   obtain ⟨v72,v73,hE,s⟩:=hJ
   refine .sub hE ?_
   have t:=s.to [0]
   refine .by [3,12] ⟨⟨_,z,?_⟩,⟨_,z,?_⟩,trivial⟩
   ·have s:=s.p1
    refine (.cS (L0:=[.box g_0 88 [sv aw,vi y2.2]]) s func30 (λS h1 h2 h3=>(ar hy7 (s.ks aR h1) h2 (zz h1))) z z ?_)
    rintro ⟨⟩ W s
    refine s.an [1] λt=>.tp' 4 z z t (.by [5,12] ⟨⟨_,z,?_⟩,⟨_,z,?_⟩,trivial⟩)
    ·refine (.cV s func102 (aW hy8) z z ?_)
     intro v74 W s
     refine s.an [2] λt=>?_
     exact .atl (J4 _ _ ⟨v72,v74,v73,sb z,s.tk [2,1,1,1,0,0]⟩) (by kernel_rfl)
    refine (.alloc t95 s ?_)
    intro g21 W s
    refine s.an [2] λt=>?_
    exact .atl (J6 _ _ ⟨g21,v72,v73,sb z,s.tk [2,1,1,0,0,0]⟩) (by kernel_rfl)
   refine (.alloc t95 s ?_)
   intro g22 W s
   refine s.an [1] λt=>?_
   exact .atl (J7 _ _ ⟨g22,v72,v73,sb z,s.tk [1,1,1,0,0,0]⟩) (by kernel_rfl)
  intro J8
  refine .memo (λE' W'=>∃ (g24:Nat) (v76:Hd),al E' [(7,vi 3),(10,Pt g24),(25,.agg #[vi y6.Op,vi y6.N,sv v76]),(26,Pt g_0),(31,(sv v1)),(32,.agg #[vi 1,vi 3,vi 0,vi y5.Op,vi y5.N,sv v4,sv aF,sv aF])]/\Sep S w W' [.box g1 95 [vi 1,vi 3,vi 0,vi y5.Op,vi y5.N,sv v4,sv aF,sv aF],ac (sv v4) 91 3 aK y5.Args,.box g_0 88 [sv aw,vi y2.2],ac (sv v1) 95 8 ak y2.1,.box g24 95 [vi 0,vi 0,vi 0,vi 0,vi 0,sv aF,sv aF,sv aF],ac (sv v76) 91 3 aK y6.Args]) 8 (rR 14 [0,1,2,7,8,12]) ?_ ?_
  ·intro E W hJ
   obtain ⟨g25,v77,hE,s⟩:=hJ
   refine .sub hE ?_
   have t:=s.to [0]
   refine .by [3,9] ⟨⟨_,z,?_⟩,⟨_,z,?_⟩,trivial⟩
   ·have s:=s.p2
    refine (.cS (L0:=[.box g_0 88 [sv aw,vi y2.2]]) s func30 (λS h1 h2 h3=>(ar hy7 (s.ks aR h1) h2 (zz h1))) z z ?_)
    rintro ⟨⟩ W s
    refine s.an [1] λt=>.tp' 4 z z t (.by [5,9] ⟨⟨_,z,?_⟩,⟨_,z,?_⟩,trivial⟩)
    ·refine (.cV s func102 (aW hy8) z z ?_)
     intro v78 W s
     refine s.an [2] λt=>?_
     exact .atl (J5 _ _ ⟨g25,v77,v78,sb z,s.tk [2,2,1,1,1,1,0]⟩) (by kernel_rfl)
    have s:=s.nilv 95 8 ak
    have s:=s.nilv 95 8 ak
    refine (.lg (L1:=[ac (sv v4) 91 3 aK y5.Args,ac (sv aF) 95 8 ak [],ac (sv aF) 95 8 ak []]) [(ah.mk 1 3 0 (Expr.mk y5.Op y5.N y5.Args) [] [])] ak u93 t95 (s.to [4,1,0,0,0,0,0,0]) z z z (.aggE (eI _) (.flat (c1:=[vi 1]) z (.flat (c1:=[vi 3]) z (.flat (c1:=[vi 0]) z (.aggE (cH _) (.flat (c1:=[vi y5.Op]) z (.flat (c1:=[vi y5.N]) z (.row (.row (.row .nil)))))))))) ?_ z j8)
    intro v79 W s
    refine s.an [2] λt=>?_
    exact .atl (J6 _ _ ⟨g25,v77,v79,sb z,s.tk [2,1,1,1,1,0]⟩) (by kernel_rfl)
   have s:=s.nilv 95 8 ak
   have s:=s.nilv 95 8 ak
   refine (.lg (L1:=[ac (sv v4) 91 3 aK y5.Args,ac (sv aF) 95 8 ak [],ac (sv aF) 95 8 ak []]) [(ah.mk 1 3 0 (Expr.mk y5.Op y5.N y5.Args) [] [])] ak u93 t95 (s.to [3,1,0,0,0,0,0,0]) z z z (.aggE (eI _) (.flat (c1:=[vi 1]) z (.flat (c1:=[vi 3]) z (.flat (c1:=[vi 0]) z (.aggE (cH _) (.flat (c1:=[vi y5.Op]) z (.flat (c1:=[vi y5.N]) z (.row (.row (.row .nil)))))))))) ?_ z j8)
   intro v80 W s
   refine s.an [1] λt=>?_
   exact .atl (J7 _ _ ⟨g25,v77,v80,sb z,s.tk [1,1,1,1,1,0]⟩) (by kernel_rfl)
  intro J9
  refine .tp' 0 z z t (.tp' 2 z z t (.tp' 7 z z t (.ts' 8 z (λW t=>ld t95 t z z z z z) t z (.by [1,9,12] ⟨⟨_,z,?_⟩,⟨_,z,?_⟩,⟨_,z,?_⟩,trivial⟩))))
  ·refine (.cV s func102 (aW hy6) z z ?_)
   intro v81 W s
   refine s.an [1] λt=>.by [3,9,12] ⟨⟨_,z,?_⟩,⟨_,z,?_⟩,⟨_,z,?_⟩,trivial⟩
   ·have s:=s.p3
    refine (.cS (L0:=[.box g_0 88 [sv aw,vi y2.2]]) s func30 (λS h1 h2 h3=>(ar hy7 (s.ks aR h1) h2 (zz h1))) z z ?_)
    rintro ⟨⟩ W s
    refine s.an [2] λt=>.tp' 4 z z t (.by [5,9,12] ⟨⟨_,z,?_⟩,⟨_,z,?_⟩,⟨_,z,?_⟩,trivial⟩)
    ·refine (.cV s func102 (aW hy8) z z ?_)
     intro v82 W s
     refine s.an [3] λt=>.by [6,9,12] ⟨⟨_,z,?_⟩,⟨_,z,?_⟩,⟨_,z,?_⟩,trivial⟩
     ·have s:=s.p2
      refine (.cS (L0:=[ac (sv v81) 91 3 aK y6.Args,ac (sv v82) 91 3 aK y8.Args]) s func258 (λS h1 h2 h3=>(cz hy9 h2 (zz h1))) z z ?_)
      rintro v83 W s
      refine s.an [2] λt=>.by [9,12] ⟨⟨_,z,?_⟩,⟨_,z,?_⟩,trivial⟩
      ·have s:=s.nilv 95 8 ak
       have s:=s.nilv 95 8 ak
       refine (.lg (L1:=[ac (sv v4) 91 3 aK y5.Args,ac (sv aF) 95 8 ak [],ac (sv aF) 95 8 ak []]) [(ah.mk 1 3 0 (Expr.mk y5.Op y5.N y5.Args) [] [])] ak u93 t95 (s.to [5,1,0,0,0,0,0]) z z z (.aggE (eI _) (.flat (c1:=[vi 1]) z (.flat (c1:=[vi 3]) z (.flat (c1:=[vi 0]) z (.aggE (cH _) (.flat (c1:=[vi y5.Op]) z (.flat (c1:=[vi y5.N]) z (.row (.row (.row .nil)))))))))) ?_ z j8)
       intro v84 W s
       refine s.an [3] λt=>?_
       exact .atl (J1 _ _ ⟨v83,v84,sb z,s.tk [3,2,2,1,0]⟩) (by kernel_rfl)
      refine (.alloc t95 s ?_)
      intro g26 W s
      refine s.an [3] λt=>?_
      exact .atl (J2 _ _ ⟨g26,v83,sb z,s.tk [3,3,2,2,0,0]⟩) (by kernel_rfl)
     ·have s:=s.nilv 95 8 ak
      have s:=s.nilv 95 8 ak
      refine (.lg (L1:=[ac (sv v4) 91 3 aK y5.Args,ac (sv aF) 95 8 ak [],ac (sv aF) 95 8 ak []]) [(ah.mk 1 3 0 (Expr.mk y5.Op y5.N y5.Args) [] [])] ak u93 t95 (s.to [6,1,0,0,0,0,0,0]) z z z (.aggE (eI _) (.flat (c1:=[vi 1]) z (.flat (c1:=[vi 3]) z (.flat (c1:=[vi 0]) z (.aggE (cH _) (.flat (c1:=[vi y5.Op]) z (.flat (c1:=[vi y5.N]) z (.row (.row (.row .nil)))))))))) ?_ z j8)
      intro v85 W s
      refine s.an [4] λt=>?_
      exact .atl (J4 _ _ ⟨v81,v82,v85,sb z,s.tk [4,2,3,2,1,0]⟩) (by kernel_rfl)
     refine (.alloc t95 s ?_)
     intro g27 W s
     refine s.an [4] λt=>?_
     exact .atl (J5 _ _ ⟨g27,v81,v82,sb z,s.tk [4,4,2,3,0,1,0]⟩) (by kernel_rfl)
    ·have s:=s.nilv 95 8 ak
     have s:=s.nilv 95 8 ak
     refine (.lg (L1:=[ac (sv v4) 91 3 aK y5.Args,ac (sv aF) 95 8 ak [],ac (sv aF) 95 8 ak []]) [(ah.mk 1 3 0 (Expr.mk y5.Op y5.N y5.Args) [] [])] ak u93 t95 (s.to [5,1,0,0,0,0,0]) z z z (.aggE (eI _) (.flat (c1:=[vi 1]) z (.flat (c1:=[vi 3]) z (.flat (c1:=[vi 0]) z (.aggE (cH _) (.flat (c1:=[vi y5.Op]) z (.flat (c1:=[vi y5.N]) z (.row (.row (.row .nil)))))))))) ?_ z j8)
     intro v86 W s
     refine s.an [3] λt=>.by [5,12] ⟨⟨_,z,?_⟩,⟨_,z,?_⟩,trivial⟩
     ·refine (.cV s func102 (aW hy8) z z ?_)
      intro v87 W s
      refine s.an [4] λt=>?_
      exact .atl (J4 _ _ ⟨v81,v87,v86,sb z,s.tk [4,2,3,2,0,0]⟩) (by kernel_rfl)
     refine (.alloc t95 s ?_)
     intro g28 W s
     refine s.an [4] λt=>?_
     exact .atl (J6 _ _ ⟨g28,v81,v86,sb z,s.tk [4,2,3,0,1,0]⟩) (by kernel_rfl)
    refine (.alloc t95 s ?_)
    intro g29 W s
    refine s.an [3] λt=>.by [5,9] ⟨⟨_,z,?_⟩,⟨_,z,?_⟩,trivial⟩
    ·refine (.cV s func102 (aW hy8) z z ?_)
     intro v88 W s
     refine s.an [4] λt=>?_
     exact .atl (J5 _ _ ⟨g29,v81,v88,sb z,s.tk [4,4,2,3,1,1,0]⟩) (by kernel_rfl)
    have s:=s.nilv 95 8 ak
    have s:=s.nilv 95 8 ak
    refine (.lg (L1:=[ac (sv v4) 91 3 aK y5.Args,ac (sv aF) 95 8 ak [],ac (sv aF) 95 8 ak []]) [(ah.mk 1 3 0 (Expr.mk y5.Op y5.N y5.Args) [] [])] ak u93 t95 (s.to [6,1,0,0,0,0,0,0]) z z z (.aggE (eI _) (.flat (c1:=[vi 1]) z (.flat (c1:=[vi 3]) z (.flat (c1:=[vi 0]) z (.aggE (cH _) (.flat (c1:=[vi y5.Op]) z (.flat (c1:=[vi y5.N]) z (.row (.row (.row .nil)))))))))) ?_ z j8)
    intro v89 W s
    refine s.an [4] λt=>?_
    exact .atl (J6 _ _ ⟨g29,v81,v89,sb z,s.tk [4,2,3,1,1,0]⟩) (by kernel_rfl)
   ·have s:=s.nilv 95 8 ak
    have s:=s.nilv 95 8 ak
    refine (.lg (L1:=[ac (sv v4) 91 3 aK y5.Args,ac (sv aF) 95 8 ak [],ac (sv aF) 95 8 ak []]) [(ah.mk 1 3 0 (Expr.mk y5.Op y5.N y5.Args) [] [])] ak u93 t95 (s.to [4,1,0,0,0,0,0]) z z z (.aggE (eI _) (.flat (c1:=[vi 1]) z (.flat (c1:=[vi 3]) z (.flat (c1:=[vi 0]) z (.aggE (cH _) (.flat (c1:=[vi y5.Op]) z (.flat (c1:=[vi y5.N]) z (.row (.row (.row .nil)))))))))) ?_ z j8)
    intro v90 W s
    refine s.an [2] λt=>?_
    exact .atl (J8 _ _ ⟨v81,v90,sb z,s.tk [2,2,2,1,0]⟩) (by kernel_rfl)
   refine (.alloc t95 s ?_)
   intro g30 W s
   refine s.an [2] λt=>?_
   exact .atl (J9 _ _ ⟨g30,v81,sb z,s.tk [2,2,2,2,0,0]⟩) (by kernel_rfl)
  ·have s:=s.nilv 95 8 ak
   have s:=s.nilv 95 8 ak
   refine (.lg (L1:=[ac (sv v4) 91 3 aK y5.Args,ac (sv aF) 95 8 ak [],ac (sv aF) 95 8 ak []]) [(ah.mk 1 3 0 (Expr.mk y5.Op y5.N y5.Args) [] [])] ak u93 t95 (s.to [3,1,0,0,0,0]) z z z (.aggE (eI _) (.flat (c1:=[vi 1]) z (.flat (c1:=[vi 3]) z (.flat (c1:=[vi 0]) z (.aggE (cH _) (.flat (c1:=[vi y5.Op]) z (.flat (c1:=[vi y5.N]) z (.row (.row (.row .nil)))))))))) ?_ z j8)
   intro v91 W s
   refine s.an [1] λt=>.by [1,12] ⟨⟨_,z,?_⟩,⟨_,z,?_⟩,trivial⟩
   ·refine (.cV s func102 (aW hy6) z z ?_)
    intro v92 W s
    refine s.an [2] λt=>?_
    exact .atl (J8 _ _ ⟨v92,v91,sb z,s.tk [2,2,2,0,0]⟩) (by kernel_rfl)
   refine (.alloc t95 s ?_)
   intro g31 W s
   refine s.an [2] λt=>.by1 1 z (.cV s func102 (aW hy6) z z ?_)
   intro v93 W s
   refine s.an [3] λt=>?_
   have s:=s.p4
   refine .by1 3 z (.cS (L0:=[.box g_0 88 [sv aw,vi y2.2]]) s func30 (λS h1 h2 h3=>(ar hy7 (s.ks aR h1) h2 (zz h1))) z z ?_)
   rintro ⟨⟩ W s
   refine s.an [4] λt=>.tp' 4 z z t (.by1 5 z (.cV s func102 (aW hy8) z z ?_))
   intro v94 W s
   refine s.an [5] λt=>?_
   have s:=s.p2
   refine .by1 6 z (.cS (L0:=[ac (sv v93) 91 3 aK y6.Args,ac (sv v94) 91 3 aK y8.Args]) s func258 (λS h1 h2 h3=>(cz hy9 h2 (zz h1))) z z ?_)
   rintro v95 W s
   refine s.an [4] λt=>.by1 10 z (.appv hr1 (s.to [5,3,0,0,0,0]) u93 t95 z z z ?_)
   intro v96 W s
   refine s.an [4] λt=>.ts' 11 z (λW t=>bs T.s95 z z) t z (.by1 13 z (.st t95 s.p3 z z z ?_))
   intro W s
   refine ⟨λh=>absurd z h,?_⟩
   refine .done ?_
   have s:=s.nilv 95 8 ak
   exact ⟨z,g31,v95,v96,aF,sb z,s.tk [4,1,2,1,0]⟩
  refine (.alloc t95 s ?_)
  intro g32 W s
  refine s.an [1] λt=>.by [1,9] ⟨⟨_,z,?_⟩,⟨_,z,?_⟩,trivial⟩
  ·refine (.cV s func102 (aW hy6) z z ?_)
   intro v97 W s
   refine s.an [2] λt=>?_
   exact .atl (J9 _ _ ⟨g32,v97,sb z,s.tk [2,2,2,2,1,0]⟩) (by kernel_rfl)
  have s:=s.nilv 95 8 ak
  have s:=s.nilv 95 8 ak
  refine (.lg (L1:=[ac (sv v4) 91 3 aK y5.Args,ac (sv aF) 95 8 ak [],ac (sv aF) 95 8 ak []]) [(ah.mk 1 3 0 (Expr.mk y5.Op y5.N y5.Args) [] [])] ak u93 t95 (s.to [4,1,0,0,0,0,0]) z z z (.aggE (eI _) (.flat (c1:=[vi 1]) z (.flat (c1:=[vi 3]) z (.flat (c1:=[vi 0]) z (.aggE (cH _) (.flat (c1:=[vi y5.Op]) z (.flat (c1:=[vi y5.N]) z (.row (.row (.row .nil)))))))))) ?_ z j8)
  intro v98 W s
  refine s.an [2] λt=>.by1 1 z (.cV s func102 (aW hy6) z z ?_)
  intro v99 W s
  refine s.an [3] λt=>?_
  have s:=s.p4
  refine .by1 3 z (.cS (L0:=[.box g_0 88 [sv aw,vi y2.2]]) s func30 (λS h1 h2 h3=>(ar hy7 (s.ks aR h1) h2 (zz h1))) z z ?_)
  rintro ⟨⟩ W s
  refine s.an [4] λt=>.tp' 4 z z t (.by1 5 z (.cV s func102 (aW hy8) z z ?_))
  intro v100 W s
  refine s.an [5] λt=>?_
  have s:=s.p2
  refine .by1 6 z (.cS (L0:=[ac (sv v99) 91 3 aK y6.Args,ac (sv v100) 91 3 aK y8.Args]) s func258 (λS h1 h2 h3=>(cz hy9 h2 (zz h1))) z z ?_)
  rintro v101 W s
  refine s.an [4] λt=>.by1 10 z (.appv hr1 (s.to [5,2,0,0,0,0]) u93 t95 z z z ?_)
  intro v102 W s
  refine s.an [4] λt=>.ts' 11 z (λW t=>bs T.s95 z z) t z (.by1 13 z (.st t95 s.p3 z z z ?_))
  intro W s
  refine ⟨λh=>absurd z h,?_⟩
  refine .done ?_
  have s:=s.nilv 95 8 ak
  exact ⟨z,g32,v101,v102,aF,sb z,s.tk [4,1,2,1,0]⟩
 intro x E W hJ
 obtain ⟨rfl,g33,v103,v104,v105,hE,s⟩:=hJ
 refine ⟨_,hE.sub,?_⟩
 refine .seq (.rk 6 s [0,0] T.mix ?_)
 intro W s
 have t:=s.to [0,0]
 refine .tp' 0 z z t (.ts' 3 z (λW t=>ld t95 t.p1 z z z z z) t z (bv h λy10 hy10 h=>.by1 1 z (.cV s func102 (aW hy10) z z ?_)))
 intro v106 W s
 refine s.an [1,1] λt=>.ts' 2 z (λW t=>bs T.s95 z z) t z ?_
 have s:=s.nilv 95 8 ak
 have s:=s.nilv 95 8 ak
 refine .by1 4 z (.lg (L1:=[ac (sv v106) 91 3 aK y10.Args,ac (sv aF) 95 8 ak [],ac (sv aF) 95 8 ak [],ac (sv v103) 91 3 aK y9.Args,ac (sv v104) 95 8 ak r1,ac (sv v105) 95 8 ak []]) [(ah.mk 1 3 0 (Expr.mk y10.Op y10.N y10.Args) [] []),(ah.mk 3 0 0 (Expr.mk y9.Op y9.N y9.Args) r1 [])] ak u93 t95 (s.to [2,1,0,2,2,2,0,0]) z z z (.aggE (eI _) (.flat (c1:=[vi 1]) z (.flat (c1:=[vi 3]) z (.flat (c1:=[vi 0]) z (.aggE (cH _) (.flat (c1:=[vi y10.Op]) z (.flat (c1:=[vi y10.N]) z (.row (.row (.row (.aggE (eI _) (.flat (c1:=[vi 3]) z (.flat (c1:=[vi 0]) z (.flat (c1:=[vi 0]) z (.aggE (cH _) (.flat (c1:=[vi y9.Op]) z (.flat (c1:=[vi y9.N]) z (.row (.row (.row .nil)))))))))))))))))))) ?_ z j8)
 intro v107 W s
 refine s.an [1,1] λt=>?_
 cases h
 exact .tp' 5 z z t (.done (.ret (aa v107 (rt z rn) z (s.tk [1,0]))))
theorem pN (k:Nat):dY (cR k)/\gQ (jH k)/\jZ (np k)/\gR (lG k):=by
  induction k with
  | zero=>exact ⟨by intro a0 a1 a2 a3 a4 aw g_0 S w r h aR hO hlt; exact no h,by intro a0 a1 a2 a3 aw g_0 S w r h aR hO hlt; exact no h,by intro a0 a1 a2 a3 aw g_0 S w r h aR hO hlt; exact no h,by intro a0 a1 a2 aw g_0 S w r h aR hO hlt; exact no h⟩
  | succ k ih=>exact ⟨uk (k:=k) ih.1 ih.2.1 ih.2.2.1 ih.2.2.2,vL (k:=k) ih.1 ih.2.1 ih.2.2.1 ih.2.2.2,xb (k:=k) ih.1 ih.2.1 ih.2.2.1 ih.2.2.2,vM (k:=k) ih.1 ih.2.1 ih.2.2.1 ih.2.2.2⟩
theorem ot {k:Nat}:dY (cR k):=(pN k).1
def kR (F:List ah->Option (Int)):Prop:=∀ {a0:List ah} {v_0:Hd} {w:World} {r:Int} (h:F a0=some r) (q_0:RO w v_0 95 8 ak a0) , CL 149 #[sv v_0] w (RU w (.int .i64 r))
theorem ul {k:Nat} {dR:List ah->Option (Int)} (ou:kR dR):kR (cA k dR):=by
 intro a0 v_0 w r h q_0
 unfold cA at h
 refine ao func149 z z ?_
 have s:=Sep.start w
 refine .g (.qn z (.g (.qn z (.seq (.g (.qn z (.block (bv h λy1 hy1 h=>?_))))))))
 refine .via (.iter (λs1 E' W'=>al E' [(0,(sv v_0)),(3,vi s1.1),(4,vi s1.2)]/\Sep No w W' []) (λy2 x E' W'=>x=.exit 0/\al E' [(3,vi y2)]/\Sep No w W' []) hy1 ⟨sb z,s.to []⟩ ?_) ?_
 ·intro s1 y3 E W h hI
  obtain ⟨hE,s⟩:=hI
  refine CW.sub hE ?_
  unfold gw at h
  refine .seq (.g (.q z (.q z (.s (aJ (s.keep q_0) u93 z z) z (.q z (.nil ?_))))))
  refine .cs z h ?_ ?_ <;> intro h
  ·refine .skip (.seq (.block (.rk 17 s [] T.mix ?_)))
   intro W s
   have t:=s.to []
   refine .tp' 0 z z t (.tp' 1 z z t (.tp' 2 z z t (.tp' 3 z z t (bv h λx1 hx1 h=>?_))))
   obtain ⟨k1,hd,hck1⟩:=RV.el2 q_0 hx1
   have hd1:=j7 (eI _) hd
   obtain ⟨k1,rfl,hd2⟩:=bQ q_0 z hd1
   obtain ⟨k1,rfl,hd3⟩:=bQ q_0 z hd2
   obtain ⟨k1,rfl,hd4⟩:=bQ q_0 z hd3
   have hd5:=j7 (cH _) hd4
   obtain ⟨k1,rfl,hd6⟩:=bQ q_0 z hd5
   obtain ⟨k1,rfl,hd7⟩:=bQ q_0 z hd6
   obtain ⟨v1,k1,rfl,q1,hd8⟩:=cU q_0 hd7
   obtain ⟨v2,k1,rfl,q2,hd9⟩:=cU q_0 hd8
   obtain ⟨v3,k1,rfl,q3,hd10⟩:=cU q_0 hd9
   obtain rfl:=mO q_0 hd10
   refine .ts' 4 z (λW t=>ixv (s.keep q_0) hx1 u93 t95 z z z) t z (.ts' 5 z (λW t=>fe f95_4 z z z) t z (.ts' 6 z (λW t=>lde (hck1 _ t.agree) t93 z z z z z) t z (.tp' 9 z z t (.tp' 10 z z t (bv h λx2 hx2 h=>?_)))))
   obtain ⟨k2,hd,hck2⟩:=RV.el2 q_0 hx2
   have hd1:=j7 (eI _) hd
   obtain ⟨k2,rfl,hd2⟩:=bQ q_0 z hd1
   obtain ⟨k2,rfl,hd3⟩:=bQ q_0 z hd2
   obtain ⟨k2,rfl,hd4⟩:=bQ q_0 z hd3
   have hd5:=j7 (cH _) hd4
   obtain ⟨k2,rfl,hd6⟩:=bQ q_0 z hd5
   obtain ⟨k2,rfl,hd7⟩:=bQ q_0 z hd6
   obtain ⟨v4,k2,rfl,q4,hd8⟩:=cU q_0 hd7
   obtain ⟨v5,k2,rfl,q5,hd9⟩:=cU q_0 hd8
   obtain ⟨v6,k2,rfl,q6,hd10⟩:=cU q_0 hd9
   obtain rfl:=mO q_0 hd10
   refine .ts' 11 z (λW t=>ixv (s.keep q_0) hx2 u93 t95 z z z) t z (.ts' 12 z (λW t=>fe f95_5 z z z) t z (.ts' 13 z (λW t=>lde (hck2 _ t.agree) t93 z z z z z) t z (bv h λy4 hy4 h=>.by1 7 z (.cO s func149 (ou hy4 (s.keep (q2 _ q_0))) z z ?_))))
   intro W s
   refine s.an [] λt=>.tp' 8 z z t (bv h λy5 hy5 h=>.by1 14 z (.cO s func149 (ou hy5 (s.keep (q6 _ q_0))) z z ?_))
   intro W s
   refine s.an [] λt=>.tp' 15 z z t (.tp' 16 z z t (.done (.region (.q z (.q z (.q z (.nil ?_)))))))
   cases h
   exact ⟨z,sb z,s.to []⟩
  refine .exit ?_
  cases h
  exact ⟨by simp,z,sb z,s.to []⟩
 intro x E W hJ
 obtain ⟨rfl,hE,s⟩:=hJ
 refine ⟨_,hE.sub,?_⟩
 obtain rfl:=o9 h
 exact .g (.q z (.qn z (.ret (aa () (rt z rn) z (s.to [])))))
theorem pO (k:Nat):kR (ce k):=by
  induction k with
  | zero=>exact by intro a0 v_0 w r h q_0; exact no h
  | succ k ih=>exact ul (k:=k) ih
theorem ox {k:Nat}:kR (ce k):=(pO k)
theorem tg {k:Nat} {a0:aQ} {a1:Int} {aw:Hd} {g_0:Nat} {S:Nat->Prop} {w:World} {r:(List ah)×Int} (h:km k a0 a1=some r) (aR:RV w (Old S w) (sv aw) 5 1 (D.int .u8) a0.b) (hO:bw w [.box g_0 88 [sv aw,vi a0.p]] S) (hlt:∀ b,S b->b<w.heap.size):CL 100 #[Pt g_0,vi a1] w (Ret S w (λs:Hd=>(sv s)) (λs=>[.box g_0 88 [sv aw,vi r.2],ac (sv s) 95 8 ak r.1])):=by
 unfold km at h
 refine ao func100 z z ?_
 have s:=Sep.sm hO hlt
 refine .g (.qn z (.g (.q z (.q z (.q z (bv h λy1 hy1 h=>.c (.cS (L0:=[.box g_0 88 [sv aw,vi a0.p]]) s func30 (λS h1 h2 h3=>(ar hy1 (s.ks aR h1) h2 (zz h1))) z z ?_)))))))
 rintro ⟨⟩ W s
 refine .q z (bv h λy2 hy2 h=>.c (.cS (L0:=[.box g_0 88 [sv aw,vi y1.2]]) s func148 (λS h1 h2 h3=>(ot hy2 (s.ks aR h1) h2 (zz h1))) z z ?_))
 rintro v1 W s
 refine .qn z (.seq (.block (bv h λy3 hy3 h=>?_)))
 refine .via (.iter (λs1 E' W'=>∃ (v4:Hd),al E' [(5,(sv v4))]/\Sep S w W' [.box g_0 88 [sv aw,vi y2.2],ac (sv v4) 95 8 ak s1]) (λy4 x E' W'=>x=.exit 0/\∃ (v5:Hd),al E' [(5,(sv v5))]/\Sep S w W' [.box g_0 88 [sv aw,vi y2.2],ac (sv v5) 95 8 ak y4]) hy3 ⟨v1,sb z,s.tk [0,0]⟩ ?_) ?_
 ·intro s1 y5 E W h hI
  obtain ⟨v3,hE,s⟩:=hI
  refine CW.sub hE ?_
  unfold mj at h
  refine .seq (.g (.q z (bv h λy6 hy6 h=>.c (.cO s func149 (ox hy6 s.p1.lv) z z ?_))))
  intro W s
  refine .q z (.nil ?_)
  refine .cs z h ?_ ?_ <;> intro h
  ·refine .skip (.block (.region (.q z (.q z (.s (aJ s.p1.lv u93 z z) z (.q z (bv h λr1 hr1 h=>.c (.cuto hr1 s.p1 u93 t95 z z z z ?_))))))))
   intro v6 s
   refine .q z (.nil ?_)
   cases h
   exact ⟨z,v6,sb z,s.tk [1,0]⟩
  refine .exit ?_
  cases h
  exact ⟨by simp,z,v3,sb z,s.tk [0,0]⟩
 intro x E W hJ
 obtain ⟨rfl,v7,hE,s⟩:=hJ
 refine ⟨_,hE.sub,?_⟩
 cases h
 exact .g (.q z (.qn z (.ret (aa v7 (rt z rn) z (s.tk [0,0])))))
theorem rr {k:Nat} {a0:aQ} {aw:Hd} {g_0:Nat} {S:Nat->Prop} {w:World} {r:ah×Int} (h:iy k a0=some r) (aR:RV w (Old S w) (sv aw) 5 1 (D.int .u8) a0.b) (hO:bw w [.box g_0 88 [sv aw,vi a0.p]] S) (hlt:∀ b,S b->b<w.heap.size):CL 101 #[Pt g_0] w (Ret S w (λs:Hd×Hd×Hd=>.agg #[vi r.1.Kind,vi r.1.Var,vi r.1.Box,vi r.1.Expr.Op,vi r.1.Expr.N,(sv s.1),(sv s.2.1),(sv s.2.2)]) (λs=>[.box g_0 88 [sv aw,vi r.2],ac (sv s.1) 91 3 aK r.1.Expr.Args,ac (sv s.2.1) 95 8 ak r.1.Body,ac (sv s.2.2) 95 8 ak r.1.Else])):=by
 unfold iy at h
 refine ao func101 z z ?_
 have s:=Sep.sm hO hlt
 refine .g (.c (.alloc t95 s ?_))
 intro g1 W s
 refine .nil (.g (bv h λy1 hy1 h=>.c (.cV s func102 (aW hy1) z z ?_)))
 intro v1 W s
 refine .q z (.q z (bv h λy2 hy2 h=>?_))
 have s:=s.p2
 refine .c (.cS (L0:=[.box g_0 88 [sv aw,vi a0.p]]) s func30 (λS h1 h2 h3=>(ar hy2 (s.ks aR h1) h2 (zz h1))) z z ?_)
 rintro ⟨⟩ W s
 refine bv h λy3 hy3 h=>.c (.cS (L0:=[.box g_0 88 [sv aw,vi y2.2]]) s func148 (λS h1 h2 h3=>(ot hy3 (s.ks aR h1) h2 (zz h1))) z z ?_)
 rintro v2 W s
 refine .s (bs T.s95 z z) z (.c (.st t95 s.p3 z z z ?_))
 intro W s
 refine .nil (.ret ?_)
 have s:=s.nilv 95 8 ak
 cases h
 exact aa (v1,v2,aF) (rc s.p1 t95 z rn z z) z (s.tk [2,3,2,0])
theorem ru {k:Nat} {a0:aQ} {aw:Hd} {g_0:Nat} {S:Nat->Prop} {w:World} {r:aA×Int} (h:iz k a0=some r) (aR:RV w (Old S w) (sv aw) 5 1 (D.int .u8) a0.b) (hO:bw w [.box g_0 88 [sv aw,vi a0.p]] S) (hlt:∀ b,S b->b<w.heap.size):CL 57 #[Pt g_0] w (Ret S w (λs:Hd×Hd=>.agg #[(sv s.1),(sv s.2)]) (λs=>[.box g_0 88 [sv aw,vi r.2],ac (sv s.1) 3 1 (D.int .i64) r.1.Rooms,ac (sv s.2) 93 1 (λ(l:List ah)=>D.row 95 8 (l.map ak)) r.1.Tasks])):=by
 unfold iz at h
 refine ao func57 z z ?_
 have s:=Sep.sm hO hlt
 refine .g (.c (.alloc t26 s ?_))
 intro g1 W s
 refine .nil (.g (.q z (bv h λy1 hy1 h=>?_)))
 have s:=s.p1
 refine .c (.cS (L0:=[.box g_0 88 [sv aw,vi a0.p]]) s func99 (λS h1 h2 h3=>(tf hy1 (s.ks aR h1) h2 (zz h1))) z z ?_)
 rintro v1 W s
 refine .c (.lg (L1:=[]) [] (λ(l:List ah)=>D.row 95 8 (l.map ak)) u24 t93 (s.to [0,0,0]) z z z (.nil) ?_ z (λ_=>z))
 intro v2 W s
 refine .s (bs T.s26 z z) z (.c (.alloc t26 s ?_))
 intro g2 W s
 refine .c (.st t26 s z z z ?_)
 intro W s
 refine .nil (.g (.q z (bv h λy2 hy2 h=>?_)))
 have s:=s.p2
 refine .c (.cS (L0:=[.box g_0 88 [sv aw,vi y1.2]]) s func30 (λS h1 h2 h3=>(ar hy2 (s.ks aR h1) h2 (zz h1))) z z ?_)
 rintro ⟨⟩ W s
 refine .q z (.qn z (.seq (.g (.qn z (.block (bv h λy3 hy3 h=>?_))))))
 refine .via (.iter (λs1 E' W'=>∃ (v5:Hd),al E' [(0,Pt g_0),(2,Pt g1),(3,Pt g2),(4,vi (w64 (1+y2.1))),(5,vi s1.1)]/\Sep S w W' [.box g_0 88 [sv aw,vi s1.2.1],.box g2 26 [sv v1,sv v5],ac (sv v1) 3 1 (D.int .i64) y1.1,.box g1 26 [sv aF,sv aF],ac (sv v5) 93 1 (λ(l:List ah)=>D.row 95 8 (l.map ak)) s1.2.2]) (λy4 x E' W'=>x=.exit 0/\∃ (v6:Hd),al E' [(0,Pt g_0),(2,Pt g1),(3,Pt g2)]/\Sep S w W' [.box g_0 88 [sv aw,vi y4.1],.box g2 26 [sv v1,sv v6],ac (sv v1) 3 1 (D.int .i64) y1.1,.box g1 26 [sv aF,sv aF],ac (sv v6) 93 1 (λ(l:List ah)=>D.row 95 8 (l.map ak)) y4.2]) hy3 ⟨v2,sb z,s.tk [0,0,1,1,0]⟩ ?_) ?_
 ·intro s1 y5 E W h hI
  obtain ⟨v4,hE,s⟩:=hI
  refine CW.sub hE ?_
  unfold kX at h
  refine .seq (.g (.q z (.q z (.qn z (.cond z (λb=>?_) (λb=>?_))))))
  ·have h:=aC b h
   refine .skip (.seq (.block (.rk 10 s [1,1,1] T.mix ?_)))
   intro W s
   have t:=s.to [1,1,1]
   refine .ts' 0 z (λW t=>fa f26_1 z z z) t z (.ts' 1 z (λW t=>ld t24 t z z z z z) t z (.tp' 2 z z t (.ts' 3 z (λW t=>fa f26_0 z z z) t z (.ts' 4 z (λW t=>ld t23 t z z z z z) t z (.ts' 5 z (λW t=>aJ s.p2.lv u23 z z) t z (bv h λy6 hy6 h=>.by1 6 z (.cS (L0:=[.box g_0 88 [sv aw,vi s1.2.1]]) s func100 (λS h1 h2 h3=>(tg hy6 (s.ks aR h1) h2 (zz h1))) z z ?_)))))))
   rintro v7 W s
   refine s.an [2,2,2] λt=>.by1 7 z (.lg (L1:=[ac (sv v7) 95 8 ak y6.1]) [y6.1] (λ(l:List ah)=>D.row 95 8 (l.map ak)) u24 t93 (s.to [1,0,0,0,0,0]) z z z (.row (.nil)) ?_ z (λ_=>z))
   intro v8 W s
   refine s.an [2,2,2] λt=>bv h λr1 hr1 h=>.by1 8 z (.appv hr1 (s.to [5,0,0,0,0,0]) u24 t93 z z z ?_)
   intro v9 W s
   refine s.an [2,2,2] λt=>.ts' 9 z (λW t=>fa f26_1 z z z) t z (.by1 10 z (.st t24 s.p2 z z z ?_))
   intro W s
   refine ⟨λh=>absurd z h,?_⟩
   refine .done (.region (.q z (.q z (.q z (.nil ?_)))))
   cases h
   exact ⟨z,v9,sb z,s.tk [2,0,1,1,0]⟩
  have h:=aD b h
  refine .exit ?_
  cases h
  exact ⟨by simp,z,v4,sb z,s.tk [0,0,0,0,0]⟩
 intro x E W hJ
 obtain ⟨rfl,v10,hE,s⟩:=hJ
 refine ⟨_,hE.sub,?_⟩
 refine .seq (.g (.q z (bv h λy7 hy7 h=>.c (.cS (L0:=[.box g_0 88 [sv aw,vi y3.1]]) s func30 (λS h1 h2 h3=>(ar hy7 (s.ks aR h1) h2 (zz h1))) z z ?_))))
 rintro ⟨⟩ W s
 refine .qn z (.cond z (λb=>?_) (λb=>?_))
 ·have h:=aC b h
  refine .rk 6 s [1,1,1,1] T.mix ?_
  intro W s
  have t:=s.to [1,1,1,1]
  refine .ts' 0 z (λW t=>fa f26_1 z z z) t z (.ts' 1 z (λW t=>ld t24 t z z z z z) t z (.tp' 2 z z t (bv h λy8 hy8 h=>.by1 3 z (.cS (L0:=[.box g_0 88 [sv aw,vi y7.2]]) s func101 (λS h1 h2 h3=>(rr hy8 (s.ks aR h1) h2 (zz h1))) z z ?_))))
  rintro ⟨v11,v12,v13⟩ W s
  refine s.an [4,4,4,4] λt=>.by1 4 z (.lg (L1:=[ac (sv v11) 91 3 aK y8.1.Expr.Args,ac (sv v12) 95 8 ak y8.1.Body,ac (sv v13) 95 8 ak y8.1.Else]) [(ah.mk y8.1.Kind y8.1.Var y8.1.Box (Expr.mk y8.1.Expr.Op y8.1.Expr.N y8.1.Expr.Args) y8.1.Body y8.1.Else)] ak u93 t95 (s.to [1,1,1,0,0,0,0,0]) z z z (.aggE (eI _) (.flat (c1:=[vi y8.1.Kind]) z (.flat (c1:=[vi y8.1.Var]) z (.flat (c1:=[vi y8.1.Box]) z (.aggE (cH _) (.flat (c1:=[vi y8.1.Expr.Op]) z (.flat (c1:=[vi y8.1.Expr.N]) z (.row (.row (.row .nil)))))))))) ?_ z j8)
  intro v14 W s
  refine s.an [2,2,2,2] λt=>bv h λx1 hx1 h=>.ts' 5 z (λW t=>ixv s.p5.lv hx1 u24 t93 z z z) t z ?_
  obtain ⟨k1,s⟩:=Sep.ov s.p5 hx1
  obtain ⟨v15,k1,rfl,s⟩:=s.ow
  obtain ⟨rfl,s⟩:=s.oN
  refine .by1 6 z (.sthv s.p1 t93 z z z ?_)
  intro W s
  refine ⟨λh=>absurd z h,?_⟩
  refine .done (.g (.s (ld t26 s.p4 z z z z z) z (.c (.st t26 s.p6 z z z ?_))))
  intro W s
  refine .nil (.ret ?_)
  have s:=Sep.gat (ds:=[.row 95 8 ([(ah.mk y8.1.Kind y8.1.Var y8.1.Box (Expr.mk y8.1.Expr.Op y8.1.Expr.N y8.1.Expr.Args) y8.1.Body y8.1.Else)].map ak)]) (cs:=[sv v14]) (L1:=[ac (sv v14) 95 8 ak [(ah.mk y8.1.Kind y8.1.Var y8.1.Box (Expr.mk y8.1.Expr.Op y8.1.Expr.N y8.1.Expr.Args) y8.1.Body y8.1.Else)]]) (.row (.nil)) (s.to [3,1,0,0,0,0,0])
  have s:Sep _ _ _ [ac (sv v10) 93 1 (λ(l:List ah)=>D.row 95 8 (l.map ak)) (y3.2.set (Int.toNat 0) [(ah.mk y8.1.Kind y8.1.Var y8.1.Box (Expr.mk y8.1.Expr.Op y8.1.Expr.N y8.1.Expr.Args) y8.1.Body y8.1.Else)]),.box g1 26 [sv v1,sv v10],ac (sv v15) 95 8 ak x1,.box g_0 88 [sv aw,vi y8.2],.box g2 26 [sv v1,sv v10],ac (sv v1) 3 1 (D.int .i64) y1.1]:=s.bv
  cases h
  exact aa (v1,v10) (rc s.p1 t26 z rn z z) z (s.tk [3,4,0])
 have h:=aD b h
 refine .skip (.g (.s (ld t26 s.p1 z z z z z) z (.c (.st t26 s.p3 z z z ?_))))
 intro W s
 cases h
 exact .nil (.ret (aa (v1,v10) (rc s t26 z rn z z) z (s.tk [1,2,2])))
end
noncomputable section
theorem th {k:Nat} {a0:aQ} {aw:Hd} {g_0:Nat} {S:Nat->Prop} {w:World} {r:aA×Int} (h:ko k a0=some r) (aR:RV w (Old S w) (sv aw) 5 1 (D.int .u8) a0.b) (hO:bw w [.box g_0 88 [sv aw,vi a0.p]] S) (hlt:∀ b,S b->b<w.heap.size):CL 29 #[Pt g_0] w (Ret S w (λs:Hd×Hd=>.agg #[(sv s.1),(sv s.2)]) (λs=>[.box g_0 88 [sv aw,vi r.2],ac (sv s.1) 3 1 (D.int .i64) r.1.Rooms,kW [((sv s.2),93,1,List.map (λ(l:List ah)=>D.row 95 8 (l.map ak)) r.1.Tasks)] []])):=by
 unfold ko at h
 refine ao func29 z z ?_
 have s:=Sep.sm hO hlt
 refine .g (.c (.alloc t26 s ?_))
 intro g1 W s
 refine .nil (.g (.q z (bv h λy1 hy1 h=>?_)))
 have s:=s.p1
 refine .c (.cS (L0:=[.box g_0 88 [sv aw,vi a0.p]]) s func57 (λS h1 h2 h3=>(ru hy1 (s.ks aR h1) h2 (zz h1))) z z ?_)
 rintro ⟨v1,v2⟩ W s
 refine .c (.alloc t26 s ?_)
 intro g2 W s
 refine .c (.st t26 s z z z ?_)
 intro W s
 refine .nil (.seq (.g (.q z (bv h λy2 hy2 h=>?_))))
 have s:=s.p1
 refine .c (.cS (L0:=[.box g_0 88 [sv aw,vi y1.2]]) s func30 (λS h1 h2 h3=>(ar hy2 (s.ks aR h1) h2 (zz h1))) z z ?_)
 rintro ⟨⟩ W s
 refine .nil (.block (.g (.q z (.qn z (.cond z (λb=>?_) (λb=>?_))))))
 ·have h:=aC b h
  refine bv h λy3 hy3 h=>bv h λx1 hx1 h=>bv h λr1 hr1 h=>?_
  refine .via (R':=λx E' W'=>x=.normal/\∃ (v3:Hd),al E' [(2,Pt g1),(3,Pt g2)]/\Sep S w W' [.box g_0 88 [sv aw,vi y3.2],.box g2 26 [sv v3,sv v2],ac (sv v2) 93 1 (λ(l:List ah)=>D.row 95 8 (l.map ak)) y1.1.Tasks,.box g1 26 [sv aF,sv aF],ac (sv v3) 3 1 (D.int .i64) r1]) ?_ ?_
  ·refine .rk 10 s [1,2,2] T.mix ?_
   intro W s
   have t:=s.to [1,2,2]
   refine .ts' 0 z (λW t=>fa f26_0 z z z) t z (.ts' 1 z (λW t=>ld t23 t z z z z z) t z (.tp' 3 z z t (.by [2,4] ⟨⟨_,z,?_⟩,⟨_,z,?_⟩,trivial⟩)))
   ·refine (.liv [0,5] (D.int .i64) u23 t3 s z z z z ?_ z (λ_=>z))
    intro v4 W s
    refine s.an [2,3,3] λt=>?_
    have s:=s.p1
    refine .by1 4 z (.cS (L0:=[.box g_0 88 [sv aw,vi y2.2]]) s func30 (λS h1 h2 h3=>(ar hy3 (s.ks aR h1) h2 (zz h1))) z z ?_)
    rintro ⟨⟩ W s
    refine s.an [2,3,3] λt=>.ts' 5 z (λW t=>ixv s.p1.lv hx1 u23 t3 z z z) t z (.by1 6 z (.runs (lde (RV.flat s.p1.lv hx1 z) t3 z z z z z) z z ?_))
    refine s.an [2,3,3] λt=>.by1 7 z (.liv [x1] (D.int .i64) u23 t3 s z z z z ?_ z (λ_=>z))
    intro v5 W s
    refine s.an [3,4,4] λt=>?_
    have hT0:=s.p4
    refine .by1 8 z (.av hr1 hT0 hT0.p1.lv (λ_=>z) u23 t3 z z z ?_)
    intro v6 W s
    refine s.an [4,4,4] λt=>.ts' 9 z (λW t=>fa f26_0 z z z) t z (.by1 10 z (.st t23 s.p4 z z z ?_))
    intro W s
    refine ⟨λh=>absurd z h,?_⟩
    exact .done (⟨z,v6,sb z,s.tk [3,0,3,3,0]⟩)
   refine (.cS (L0:=[.box g_0 88 [sv aw,vi y2.2]]) s func30 (λS h1 h2 h3=>(ar hy3 (s.ks aR h1) h2 (zz h1))) z z ?_)
   rintro ⟨⟩ W s
   refine s.an [1,2,2] λt=>.by1 2 z (.liv [0,5] (D.int .i64) u23 t3 s z z z z ?_ z (λ_=>z))
   intro v7 W s
   refine s.an [2,3,3] λt=>.ts' 5 z (λW t=>ixv s.lv hx1 u23 t3 z z z) t z (.by1 6 z (.runs (lde (RV.flat s.lv hx1 z) t3 z z z z z) z z ?_))
   refine s.an [2,3,3] λt=>.by1 7 z (.liv [x1] (D.int .i64) u23 t3 s z z z z ?_ z (λ_=>z))
   intro v8 W s
   refine s.an [3,4,4] λt=>?_
   have hT0:=s.p4
   refine .by1 8 z (.av hr1 hT0 hT0.p1.lv (λ_=>z) u23 t3 z z z ?_)
   intro v9 W s
   refine s.an [4,4,4] λt=>.ts' 9 z (λW t=>fa f26_0 z z z) t z (.by1 10 z (.st t23 s.p4 z z z ?_))
   intro W s
   refine ⟨λh=>absurd z h,?_⟩
   exact .done (⟨z,v9,sb z,s.tk [4,0,3,3,0]⟩)
  intro x E W hJ
  obtain ⟨rfl,v10,hE,s⟩:=hJ
  refine ⟨_,hE.sub,?_⟩
  refine .g (.s (ld t26 s.p1 z z z z z) z (.c (.st t26 s.p3 z z z ?_)))
  intro W s
  refine .nil (.ret ?_)
  have s:Sep _ _ _ [kW [((sv v2),93,1,List.map (λ(l:List ah)=>D.row 95 8 (l.map ak)) y1.1.Tasks)] [],.box g1 26 [sv v10,sv v2],.box g_0 88 [sv aw,vi y3.2],.box g2 26 [sv v10,sv v2],ac (sv v10) 3 1 (D.int .i64) r1]:=Sep.frz s.p3
  cases h
  exact aa (v10,v2) (rc s.p1 t26 z rn z z) z (s.tk [2,3,0])
 have h:=aD b h
 refine .g (.q z (.qn z (.cond z (λb=>?_) (λb=>?_))))
 ·have h:=aC b h
  refine .rk 12 s [1,1,2] T.mix ?_
  intro W s
  have t:=s.to [1,1,2]
  refine .ts' 0 z (λW t=>fa f26_1 z z z) t z (.ts' 1 z (λW t=>ld t24 t z z z z z) t z (.ts' 2 z (λW t=>fa f26_0 z z z) t z (.ts' 3 z (λW t=>ld t23 t z z z z z) t z (.ts' 4 z (λW t=>aJ s.p2.lv u23 z z) t z (.tp' 5 z z t (bv h λy4 hy4 h=>.by1 6 z (.cS (L0:=[.box g_0 88 [sv aw,vi y2.2]]) s func58 (λS h1 h2 h3=>(oX hy4 (s.ks aR h1) h2 (zz h1))) z z ?_)))))))
  rintro v11 W s
  refine s.an [2,2,3] λt=>.ts' 7 z (λW t=>bs T.s95 z z) t z ?_
  have s:=s.nilv 95 8 ak
  have s:=s.nilv 95 8 ak
  refine .by1 8 z (.lg (L1:=[ac (sv v11) 91 3 aK y4.1.Args,ac (sv aF) 95 8 ak [],ac (sv aF) 95 8 ak []]) [(ah.mk 4 0 (y1.1.Rooms.length:Int) (Expr.mk y4.1.Op y4.1.N y4.1.Args) [] [])] ak u93 t95 (s.to [3,1,0,0,0,0,0,0]) z z z (.aggE (eI _) (.flat (c1:=[vi 4]) z (.flat (c1:=[vi 0]) z (.flat (c1:=[vi (y1.1.Rooms.length:Int)]) z (.aggE (cH _) (.flat (c1:=[vi y4.1.Op]) z (.flat (c1:=[vi y4.1.N]) z (.row (.row (.row .nil)))))))))) ?_ z j8)
  intro v12 W s
  refine s.an [2,2,3] λt=>.by1 9 z (.lg (L1:=[ac (sv v12) 95 8 ak [(ah.mk 4 0 (y1.1.Rooms.length:Int) (Expr.mk y4.1.Op y4.1.N y4.1.Args) [] [])]]) [[(ah.mk 4 0 (y1.1.Rooms.length:Int) (Expr.mk y4.1.Op y4.1.N y4.1.Args) [] [])]] (λ(l:List ah)=>D.row 95 8 (l.map ak)) u24 t93 (s.to [0,0,0,0,0,0]) z z z (.row (.nil)) ?_ z (λ_=>z))
  intro v13 W s
  refine s.an [2,2,3] λt=>bv h λr2 hr2 h=>.by1 10 z (.appv hr2 (s.to [4,0,0,0,0,0]) u24 t93 z z z ?_)
  intro v14 W s
  refine s.an [2,2,2] λt=>.ts' 11 z (λW t=>fa f26_1 z z z) t z (.by1 12 z (.st t24 s.p2 z z z ?_))
  intro W s
  refine ⟨λh=>absurd z h,?_⟩
  refine .done (.g (.s (ld t26 s z z z z z) z (.c (.st t26 s.p4 z z z ?_))))
  intro W s
  refine .nil (.ret ?_)
  have s:Sep _ _ _ [kW [((sv v14),93,1,List.map (λ(l:List ah)=>D.row 95 8 (l.map ak)) r2)] [],.box g1 26 [sv v1,sv v14],.box g2 26 [sv v1,sv v14],.box g_0 88 [sv aw,vi y4.2],ac (sv v1) 3 1 (D.int .i64) y1.1.Rooms]:=Sep.frz s.p2
  cases h
  exact aa (v1,v14) (rc s.p1 t26 z rn z z) z (s.tk [3,3,0])
 have h:=aD b h
 refine .g (.q z (.q z (.nil ?_)))
 refine .cs z h ?_ ?_ <;> intro h
 ·refine .region (.c (.lg (L1:=[]) [] (λ(l:List ah)=>D.row 95 8 (l.map ak)) u24 t93 (s.to [0,0,0,0,0]) z z z (.nil) ?_ z (λ_=>z)))
  intro v15 W s
  refine .s (fa f26_1 z z z) z (.c (.st t24 s.p2 z z z ?_))
  intro W s
  refine .nil (.g (.s (ld t26 s z z z z z) z (.c (.st t26 s.p5 z z z ?_))))
  intro W s
  refine .nil (.ret ?_)
  have s:Sep _ _ _ [kW [((sv v15),93,1,List.map (λ(l:List ah)=>D.row 95 8 (l.map ak)) [])] [],.box g1 26 [sv v1,sv v15],.box g2 26 [sv v1,sv v15],.box g_0 88 [sv aw,vi y2.2],ac (sv v1) 3 1 (D.int .i64) y1.1.Rooms,ac (sv v2) 93 1 (λ(l:List ah)=>D.row 95 8 (l.map ak)) y1.1.Tasks]:=Sep.frz s.p2
  cases h
  exact aa (v1,v15) (rc s.p1 t26 z rn z z) z (s.tk [3,3,0])
 refine .g (.q z (.q z (.nil ?_)))
 refine .cs z h ?_ ?_ <;> intro h
 ·refine bv h λx2 hx2 h=>?_
  obtain ⟨k1,s⟩:=Sep.ov s.p3 hx2
  obtain ⟨v16,k1,rfl,s⟩:=s.ow
  obtain ⟨rfl,s⟩:=s.oN
  refine bv h λr3 hr3 h=>?_
  have s:Sep _ _ _ [BE (sv v2) 93 1 (List.map (λ(l:List ah)=>D.row 95 8 (l.map ak)) y1.1.Tasks) (Int.toNat 0) [sv v16] (.row 95 8 (x2.map ak)),.box g_0 88 [sv aw,vi y2.2],.box g2 26 [sv v1,sv v2],ac (sv v1) 3 1 (D.int .i64) y1.1.Rooms,.box g1 26 [sv aF,sv aF]]:=(Sep.gat (ds:=[.row 95 8 (x2.map ak)]) (cs:=[sv v16]) (L1:=[ac (sv v16) 95 8 ak x2]) (.row (.nil)) (s.to [0,0,0,0,0,0])).mul
  refine .rm 15 (λW=>Sep S w W [kW [((sv v2),93,1,List.map (λ(l:List ah)=>D.row 95 8 (l.map ak)) y1.1.Tasks),((sv v16),95,8,List.map ak x2)] [((sv v2),Int.toNat 0*1,(sv v16))],.box g_0 88 [sv aw,vi y2.2],.box g2 26 [sv v1,sv v2],ac (sv v1) 3 1 (D.int .i64) y1.1.Rooms,.box g1 26 [sv aF,sv aF]]) s T.mix ?_
  intro W s
  have t:Sep _ _ W [kW [((sv v2),93,1,List.map (λ(l:List ah)=>D.row 95 8 (l.map ak)) y1.1.Tasks),((sv v16),95,8,List.map ak x2)] [((sv v2),Int.toNat 0*1,(sv v16))],.box g_0 88 [sv aw,vi y2.2],.box g2 26 [sv v1,sv v2],ac (sv v1) 3 1 (D.int .i64) y1.1.Rooms,.box g1 26 [sv aF,sv aF]]:=Sep.mulz hx2 z s
  refine .tp 0 z (λW=>fa f26_1 z z z) t (.tL 1 [15] z (λW t=>ld t24 t.p2 z z z z z) t (.tp 2 z (λW=>fa f26_1 z z z) t (.tL 3 [15,14,5,4] z (λW t=>ld t24 t.p2 z z z z z) t (.tp 4 z (λW=>ixv (t.lendz 0 z) hx2 u24 t93 z z z) t (.t1 5 14 z (λW t=>lde (t.cellz 0 z) t93 z z z z z) t (.tp 6 z (λW=>fa f26_1 z z z) t (.tL 7 [15,14,9,8] z (λW t=>ld t24 t.p2 z z z z z) t (.tp 8 z (λW=>ixv (t.lendz 0 z) hx2 u24 t93 z z z) t (.t1 9 14 z (λW t=>lde (t.cellz 0 z) t93 z z z z z) t (.tp 10 z (λW=>fa f26_1 z z z) t (.tL 11 [15,14,13,12] z (λW t=>ld t24 t.p2 z z z z z) t (.tp 12 z (λW=>ixv (t.lendz 0 z) hx2 u24 t93 z z z) t (.t1 13 14 z (λW t=>lde (t.cellz 0 z) t93 z z z z z) t (.by1 14 z (.lir (k:=3) s u24 t93 z z z z ?_)) (by kernel_rfl) z z) (by kernel_rfl) z z) (by kernel_rfl) z z) (by kernel_rfl) z z) (by kernel_rfl) z z) (by kernel_rfl) z z) (by kernel_rfl) z z) (by kernel_rfl) z z) (by kernel_rfl) z z) (by kernel_rfl) z z) (by kernel_rfl) z z) (by kernel_rfl) z z) (by kernel_rfl) z z) (by kernel_rfl) z z
  intro v17 W s
  refine ⟨λ_=>Sep.mulz hx2 z (s.to [1,1,1,1,1]),?_⟩
  refine .byd 15 z (.apm hr3 hx2 s u24 t93 z z z ?_)
  intro v18 W s
  refine .byd 16 z (.runs (fa f26_1 z z z) z z (.byd 17 z (.st t24 s.p2 z z z ?_)))
  intro W s
  refine .done (.g (.s (ld t26 s z z z z z) z (.c (.st t26 s.p4 z z z ?_))))
  intro W s
  cases h
  exact .nil (.ret (aa (v1,v18) (rc s t26 z rn z z) z (s.tk [3,3,2])))
 refine .g (.q z (.q z (.nil ?_)))
 refine .cs z h ?_ ?_ <;> intro h
 ·refine .seq ?_
  refine .via (R':=λx E' W'=>x=.normal/\∃ (nd1:Bool),al E' [(2,Pt g1),(3,Pt g2),(60,.bool nd1)]/\Sep S w W' [.box g_0 88 [sv aw,vi y2.2],.box g2 26 [sv v1,sv v2],ac (sv v1) 3 1 (D.int .i64) y1.1.Rooms,ac (sv v2) 93 1 (λ(l:List ah)=>D.row 95 8 (l.map ak)) y1.1.Tasks,.box g1 26 [sv aF,sv aF]]) ?_ ?_
  ·refine .rk 4 s [0,0,0,0,0] T.mix ?_
   intro W s
   have t:=s.to [0,0,0,0,0]
   refine .by1 0 z (.alloc t4 s ?_)
   intro g3 W s
   refine s.an [1,1,1,1,1] λt=>.by [1,2] ⟨⟨_,z,?_⟩,⟨_,z,?_⟩,trivial⟩
   ·refine (.st t4 s z z z ?_)
    intro W s
    refine s.an [1,1,1,1,1] λt=>.by1 2 z (.st t4 s z z z ?_)
    intro W s
    refine s.an [1,1,1,1,1] λt=>.by1 3 z (.runs (ld t4 s z z z z z) z z ?_)
    refine s.an [1,1,1,1,1] λt=>?_
    exact .done (⟨z,false,sb z,s.tk [1,1,1,1,1]⟩)
   refine (.st t4 s z z z ?_)
   intro W s
   refine s.an [1,1,1,1,1] λt=>.by1 1 z (.st t4 s z z z ?_)
   intro W s
   refine s.an [1,1,1,1,1] λt=>.by1 3 z (.runs (ld t4 s z z z z z) z z ?_)
   refine s.an [1,1,1,1,1] λt=>?_
   exact .done (⟨z,true,sb z,s.tk [1,1,1,1,1]⟩)
  intro x E W hJ
  obtain ⟨rfl,nd1,hE,s⟩:=hJ
  refine ⟨_,hE.sub,?_⟩
  refine .cond z (λb=>?_) (λb=>?_)
  ·have h:=re h
   unfold lH at h
   refine .g (.s (fa f26_1 z z z) z (.s (ld t24 s.p1 z z z z z) z (bv h λx3 hx3 h=>.s (ixv s.p3.lv hx3 u24 t93 z z z) z ?_)))
   obtain ⟨k2,s⟩:=Sep.ov s.p3 hx3
   obtain ⟨v19,k2,rfl,s⟩:=s.ow
   obtain ⟨rfl,s⟩:=s.oN
   refine .s (lde (s.p1.hcellsv) t93 z z z z z) z (.s (bs T.s95 z z) z (.s (aJ s.lv u93 z z) z ?_))
   have s:=s.nilv 91 3 aK
   have s:=s.nilv 95 8 ak
   have s:=s.nilv 95 8 ak
   refine .c (.lg (L1:=[ac (sv aF) 91 3 aK [],ac (sv aF) 95 8 ak [],ac (sv aF) 95 8 ak []]) [(ah.mk 0 0 0 (Expr.mk 0 0 []) [] [])] ak u93 t95 (s.to [2,1,0,0,0,0,0,0,0]) z z z (.aggE (eI _) (.flat (c1:=[vi 0]) z (.flat (c1:=[vi 0]) z (.flat (c1:=[vi 0]) z (.aggE (cH _) (.flat (c1:=[vi 0]) z (.flat (c1:=[vi 0]) z (.row (.row (.row .nil)))))))))) ?_ z j8)
   intro v20 W s
   refine bv h λr4 hr4 h=>.c (.appv hr4 (s.to [1,0,0,0,0,0,0]) u93 t95 z z z ?_)
   intro v21 W s
   refine .s (ixh s.p1 hx3 u24 t93 z z z) z (.c (.sthv s.p1 t93 z z z ?_))
   intro W s
   refine .nil (.region (bv h λx4 hx4 h=>.s (ixv s.p1.lv hx4 u93 t95 z z z) z ?_))
   obtain ⟨k3,s⟩:=Sep.ov s.p1 hx4
   have s:=s.oaggE (eI _)
   obtain ⟨k3,rfl,s⟩:=Sep.oF z s
   obtain ⟨k3,rfl,s⟩:=Sep.oF z s
   obtain ⟨k3,rfl,s⟩:=Sep.oF z s
   have s:=s.oaggE (cH _)
   obtain ⟨k3,rfl,s⟩:=Sep.oF z s
   obtain ⟨k3,rfl,s⟩:=Sep.oF z s
   obtain ⟨v22,k3,rfl,s⟩:=s.ow
   obtain ⟨v23,k3,rfl,s⟩:=s.ow
   obtain ⟨v24,k3,rfl,s⟩:=s.ow
   obtain ⟨rfl,s⟩:=s.oN
   refine .c (.sthv s.p3 t95 z z z ?_)
   intro W s
   refine .nil (.g (.s (ld t26 s.p6 z z z z z) z (.c (.st t26 s.p8 z z z ?_))))
   intro W s
   refine .nil (.ret ?_)
   have s:=s.nilv 91 3 aK
   have s:=s.nilv 95 8 ak
   have s:=s.nilv 95 8 ak
   have s:=Sep.gat (ds:=[ak (ah.mk 9 0 0 (Expr.mk 0 0 []) [] [])]) (cs:=[vi 9,vi 0,vi 0,vi 0,vi 0,sv aF,sv aF,sv aF]) (L1:=[ac (sv aF) 91 3 aK [],ac (sv aF) 95 8 ak [],ac (sv aF) 95 8 ak []]) (.aggE (eI _) (.flat (c1:=[vi 9]) z (.flat (c1:=[vi 0]) z (.flat (c1:=[vi 0]) z (.aggE (cH _) (.flat (c1:=[vi 0]) z (.flat (c1:=[vi 0]) z (.row (.row (.row .nil)))))))))) (s.to [2,1,0,1,0,0,0,0,0,0,0,0])
   have s:Sep _ _ _ [ac (sv v21) 95 8 ak (r4.set (Int.toNat (x3.length:Int)) (ah.mk 9 0 0 (Expr.mk 0 0 []) [] [])),.box g1 26 [sv v1,sv v2],ac (sv v24) 95 8 ak x4.Else,ac (sv v23) 95 8 ak x4.Body,ac (sv v22) 91 3 aK x4.Expr.Args,kh (sv v2) 93 1 (λ(l:List ah)=>D.row 95 8 (l.map ak)) y1.1.Tasks (Int.toNat 0) [sv v21],.box g_0 88 [sv aw,vi y2.2],.box g2 26 [sv v1,sv v2],ac (sv v1) 3 1 (D.int .i64) y1.1.Rooms]:=s.bv
   have s:=Sep.gat (ds:=[.row 95 8 ((r4.set (Int.toNat (x3.length:Int)) (ah.mk 9 0 0 (Expr.mk 0 0 []) [] [])).map ak)]) (cs:=[sv v21]) (L1:=[ac (sv v21) 95 8 ak (r4.set (Int.toNat (x3.length:Int)) (ah.mk 9 0 0 (Expr.mk 0 0 []) [] []))]) (.row (.nil)) (s.to [0,4,0,0,0,0,0,0,0])
   have s:Sep _ _ _ [ac (sv v2) 93 1 (λ(l:List ah)=>D.row 95 8 (l.map ak)) (y1.1.Tasks.set (Int.toNat 0) (r4.set (Int.toNat (x3.length:Int)) (ah.mk 9 0 0 (Expr.mk 0 0 []) [] []))),.box g1 26 [sv v1,sv v2],ac (sv v24) 95 8 ak x4.Else,ac (sv v23) 95 8 ak x4.Body,ac (sv v22) 91 3 aK x4.Expr.Args,.box g_0 88 [sv aw,vi y2.2],.box g2 26 [sv v1,sv v2],ac (sv v1) 3 1 (D.int .i64) y1.1.Rooms]:=s.bv
   have s:Sep _ _ _ [kW [((sv v2),93,1,List.map (λ(l:List ah)=>D.row 95 8 (l.map ak)) (y1.1.Tasks.set (Int.toNat 0) (r4.set (Int.toNat (x3.length:Int)) (ah.mk 9 0 0 (Expr.mk 0 0 []) [] []))))] [],.box g1 26 [sv v1,sv v2],ac (sv v24) 95 8 ak x4.Else,ac (sv v23) 95 8 ak x4.Body,ac (sv v22) 91 3 aK x4.Expr.Args,.box g_0 88 [sv aw,vi y2.2],.box g2 26 [sv v1,sv v2],ac (sv v1) 3 1 (D.int .i64) y1.1.Rooms]:=Sep.frz s
   cases h
   exact aa (v1,v2) (rc s.p1 t26 z rn z z) z (s.tk [5,6,0])
  unfold fI at h
  refine bv h λx5 hx5 h=>?_
  obtain ⟨k4,s⟩:=Sep.ov s.p3 hx5
  obtain ⟨v25,k4,rfl,s⟩:=s.ow
  obtain ⟨rfl,s⟩:=s.oN
  refine .rk 10 s [1,1,1,1,1] T.mix ?_
  intro W s
  have t:=s.to [1,1,1,1,1]
  refine .ts' 0 z (λW t=>fa f26_1 z z z) t z (.ts' 1 z (λW t=>ld t24 t.p2 z z z z z) t z (.ts' 2 z (λW t=>fa f26_1 z z z) t z (.ts' 3 z (λW t=>ld t24 t.p2 z z z z z) t z (.ts' 4 z (λW t=>ixh t hx5 u24 t93 z z z) t z (.ts' 5 z (λW t=>lde (t.hcellsv) t93 z z z z z) t z (.ts' 6 z (λW t=>bs T.s95 z z) t z ?_))))))
  have s:=s.nilv 91 3 aK
  have s:=s.nilv 95 8 ak
  have s:=s.nilv 95 8 ak
  refine .by1 7 z (.lg (L1:=[ac (sv aF) 91 3 aK [],ac (sv aF) 95 8 ak [],ac (sv aF) 95 8 ak []]) [(ah.mk 9 0 0 (Expr.mk 0 0 []) [] [])] ak u93 t95 (s.to [2,1,0,0,0,0,0,0,0]) z z z (.aggE (eI _) (.flat (c1:=[vi 9]) z (.flat (c1:=[vi 0]) z (.flat (c1:=[vi 0]) z (.aggE (cH _) (.flat (c1:=[vi 0]) z (.flat (c1:=[vi 0]) z (.row (.row (.row .nil)))))))))) ?_ z j8)
  intro v28 W s
  refine s.an [2,2,2,2,2] λt=>bv h λr6 hr6 h=>.by1 8 z (.appv hr6 (s.to [1,0,0,0,0,0,0]) u93 t95 z z z ?_)
  intro v29 W s
  refine s.an [1,1,1,1,1] λt=>.ts' 9 z (λW t=>ixh t hx5 u24 t93 z z z) t z (.by1 10 z (.sthv s.p1 t93 z z z ?_))
  intro W s
  refine ⟨λh=>absurd z h,?_⟩
  refine .done (.g (.s (ld t26 s.p3 z z z z z) z (.c (.st t26 s.p5 z z z ?_))))
  intro W s
  refine .nil (.ret ?_)
  have s:=Sep.gat (ds:=[.row 95 8 (r6.map ak)]) (cs:=[sv v29]) (L1:=[ac (sv v29) 95 8 ak r6]) (.row (.nil)) (s.to [2,1,0,0,0,0])
  have s:Sep _ _ _ [ac (sv v2) 93 1 (λ(l:List ah)=>D.row 95 8 (l.map ak)) (y1.1.Tasks.set (Int.toNat 0) r6),.box g1 26 [sv v1,sv v2],.box g_0 88 [sv aw,vi y2.2],.box g2 26 [sv v1,sv v2],ac (sv v1) 3 1 (D.int .i64) y1.1.Rooms]:=s.bv
  have s:Sep _ _ _ [kW [((sv v2),93,1,List.map (λ(l:List ah)=>D.row 95 8 (l.map ak)) (y1.1.Tasks.set (Int.toNat 0) r6))] [],.box g1 26 [sv v1,sv v2],.box g_0 88 [sv aw,vi y2.2],.box g2 26 [sv v1,sv v2],ac (sv v1) 3 1 (D.int .i64) y1.1.Rooms]:=Sep.frz s
  cases h
  exact aa (v1,v2) (rc s.p1 t26 z rn z z) z (s.tk [2,3,0])
 refine .skip (.g (.s (ld t26 s.p1 z z z z z) z (.c (.st t26 s.p4 z z z ?_))))
 intro W s
 refine .nil (.ret ?_)
 have s:Sep _ _ _ [kW [((sv v2),93,1,List.map (λ(l:List ah)=>D.row 95 8 (l.map ak)) y1.1.Tasks)] [],.box g1 26 [sv v1,sv v2],.box g_0 88 [sv aw,vi y2.2],.box g2 26 [sv v1,sv v2],ac (sv v1) 3 1 (D.int .i64) y1.1.Rooms]:=Sep.frz s.p4
 cases h
 exact aa (v1,v2) (rc s.p1 t26 z rn z z) z (s.tk [2,3,0])
theorem oP {k:Nat} {a0:List Int} {v_0:Hd} {w:World} {r:aA×Int×Int} (h:dZ k a0=some r) (q_0:RO w v_0 5 1 (D.int .u8) a0):CL 7 #[sv v_0] w (Ret No w (λs:Hd×Hd=>.tuple #[.agg #[(sv s.1),(sv s.2)],vi r.2.1,vi r.2.2]) (λs=>[ac (sv s.1) 3 1 (D.int .i64) r.1.Rooms,kW [((sv s.2),93,1,List.map (λ(l:List ah)=>D.row 95 8 (l.map ak)) r.1.Tasks)] []])):=by
 unfold dZ at h
 refine ao func7 z z ?_
 have s:=Sep.start w
 have Q_0:=q_0
 refine .g (.c (.alloc t26 s ?_))
 intro g1 W s
 refine .q z (.qn z (.g (.q z (bv h λy1 hy1 h=>?_))))
 have hQ1:=s
 refine .c (.call s func28 (vG hy1 (s.keep q_0)) z z ?_)
 rintro ⟨g2,⟨v1,q1⟩⟩ W s
 refine .qn z (.g (.q z (bv h λy2 hy2 h=>.c (.cS (L0:=[.box g2 88 [sv v1,vi y1.p]]) s func29 (λS h1 h2 h3=>(th hy2 (s.ks (hQ1.wasA (q1 _ (hQ1.keepA q_0 Q_0))) h1) h2 (zz h1))) z z ?_))))
 rintro ⟨v2,v3⟩ W s
 refine .c (.alloc t26 s ?_)
 intro g3 W s
 refine .c (.st t26 s z z z ?_)
 intro W s
 refine .nil (.g (.q z (bv h λy3 hy3 h=>?_)))
 have s:=s.p1
 refine .c (.cS (L0:=[.box g2 88 [sv v1,vi y2.2]]) s func30 (λS h1 h2 h3=>(ar hy3 (s.ks (hQ1.wasA (q1 _ (hQ1.keepA q_0 Q_0))) h1) h2 (zz h1))) z z ?_)
 rintro ⟨⟩ W s
 refine .qn z (.seq (.g (.q z (bv h λy4 hy4 h=>.c (.cS (L0:=[.box g2 88 [sv v1,vi y3.2]]) s func30 (λS h1 h2 h3=>(ar hy4 (s.ks (hQ1.wasA (q1 _ (hQ1.keepA q_0 Q_0))) h1) h2 (zz h1))) z z ?_)))))
 rintro ⟨⟩ W s
 refine .qn z (.cond z (λb=>?_) (λb=>?_))
 ·have h:=aC b h
  refine .g (.s (ld t26 s.p1 z z z z z) z (.q z (.c (.st t26 s.p4 z z z ?_))))
  intro W s
  cases h
  exact .q z (.qn z (.ret (aa (vs:=[_,_,_]) (v2,v3) (rc s t26 z (rt z (rt z rn)) z z) z (s.tk [3,3]))))
 have h:=aD b h
 refine .skip (.seq (.rk 8 s [1,1,1] T.mix ?_))
 intro W s
 have t:=s.to [1,1,1]
 refine .ts' 0 z (λW t=>ld t26 t z z z z z) t z (.tp' 1 z z t (.tp' 2 z z t (bv h λy5 hy5 h=>.by1 3 z (.cS (L0:=[.box g2 88 [sv v1,vi y4.2]]) s func30 (λS h1 h2 h3=>(ar hy5 (s.ks (hQ1.wasA (q1 _ (hQ1.keepA q_0 Q_0))) h1) h2 (zz h1))) z z ?_))))
 rintro ⟨⟩ W s
 refine s.an [1,1,1] λt=>.tp' 4 z z t (.by1 5 z (.st t26 s.p4 z z z ?_))
 intro W s
 refine s.an [2,2,2] λt=>?_
 cases h
 exact .tp' 6 z z t (.tp' 7 z z t (.done (.ret (aa (vs:=[_,_,_]) (v2,v3) (rc s t26 z (rt z (rt z rn)) z z) z (s.tk [3,3])))))
def sg (w:World) (r:Bool):Env->World->Prop:=Fin Tryz.prog Tryz.f53 No w (λs:Unit=>.bool r) (λs=>[]) .ret
theorem rv {a0:List Int} {v_0:Hd} {w:World} {r:Bool} (h:iA a0=some r) (q_0:RO w v_0 3 1 (D.int .i64) a0):CL 53 #[sv v_0] w (RU w (.bool r)):=by
 unfold iA at h
 refine ao func53 z z ?_
 have s:=Sep.start w
 refine .g (.qn z (.seq (.g (.q z (.s (aJ (s.keep q_0) u23 z z) z (.qn z (.block (bv h λy1 hy1 h=>?_))))))))
 refine .via (.iter (λs1 E' W'=>al E' [(0,(sv v_0)),(5,(sv v_0)),(6,vi (a0.length:Int)),(7,vi s1)]/\Sep No w W' []) (λy2 x E' W'=>(match y2 with | .inl o1=>x=.ret/\sg w o1 E' W' | .inr o2=>x=.exit 0/\al E' [(0,(sv v_0))]/\Sep No w W' [])) hy1 ⟨sb rfl,s.to [] rfl⟩ ?_) ?_
 ·intro s1 y3 E W h hI
  obtain ⟨hE,s⟩:=hI
  refine CW.sub hE ?_
  unfold ia at h
  refine .g (.qn z (.seq ?_))
  refine .cs z h ?_ ?_ <;> intro h
  ·refine .skip (.seq (.block (.g (bv h λx1 hx1 h=>.s (ixv (s.keep q_0) hx1 u23 t3 z z z) z (.s (lde (RV.flat (s.keep q_0) hx1 z) t3 z z z z z) z (.qn z (.g (.q z (.q z (.q z (.cu 3 16 ((decide (x1<1))||(decide (x1>4))) s ?_ ?_)))))))))))
   ·refine .both (decide (x1<1)) (λb=>?_) (λb=>?_)
    ·exact .xx b z (.xx b z (.s (pkt b z z z) z (.nil (ck 3 s z (gY b)))))
    have hg1:=b
    exact .g hg1 (.q z (.g hg1 (.q z (.s (pkf hg1 z z z) z (.nil (ck 3 s z (gr hg1)))))))
   intro W s
   refine .nil ?_
   refine .cs z h ?_ ?_ <;> intro h
   ·refine .g (.qn z (.ret ?_))
    cases h
    exact ⟨by simp,z,aa (vs:=[_]) () (rt z rn) z (s.to [])⟩
   refine .skip (.region (.q z (.q z (.nil ?_))))
   cases h
   exact ⟨z,sb z,s.to []⟩
  refine .exit ?_
  cases h
  exact ⟨by simp,z,sb z,s.to []⟩
 intro x E W hJ
 rcases y1 with o3 | o4
 ·have h:=dG h
  obtain ⟨rfl,hF⟩:=hJ
  refine ⟨_,λ_ _ h=>h,?_⟩
  cases h
  exact hF
 have h:=dH h
 obtain ⟨rfl,hE,s⟩:=hJ
 refine ⟨_,hE.sub,?_⟩
 cases h
 exact .g (.q z (.s (aJ (s.keep q_0) u23 z z) z (.q z (.qn z (.ret (aa () (rt z rn) z (s.to [])))))))
theorem oZ {a0:Int} {w:World} {r:Bool} (h:jI a0=some r):CL 174 #[vi a0] w (RU w (.bool r)):=by
 unfold jI at h
 refine ao func174 z z ?_
 have s:=Sep.start w
 refine .g (.qn z (.g (.q z (.q z (.q z (.cu 3 8 ((decide (a0>=1))&&(decide (a0<=12))) s ?_ ?_))))))
 ·refine .both (decide (a0>=1)) (λb=>?_) (λb=>?_)
  ·have hg1:=b
   exact .g hg1 (.q z (.g hg1 (.q z (.s (pkt hg1 z z z) z (.nil (ck 3 s z (bp hg1)))))))
  exact .xx b z (.xx b z (.s (pkf b z z z) z (.nil (ck 3 s z (bq b)))))
 intro W s
 cases h
 exact .qn z (.ret (aa () (rt z rn) z (s.to [])))
def j1 (F:Expr->Int->Option (Bool)):Prop:=∀ {a0:Expr} {a1:Int} {bC:Hd} {w:World} {r:Bool} (h:F a0 a1=some r) (ax:RO w bC 91 3 aK a0.Args) , CL 272 #[.agg #[vi a0.Op,vi a0.N,sv bC],vi a1] w (RU w (.bool r))
theorem ti {k:Nat} {gy:Expr->Int->Option (Bool)} (nT:j1 gy):j1 (gx k gy):=by
 intro a0 a1 bC w r h ax
 unfold gx at h
 refine ao func272 z z ?_
 have s:=Sep.start w
 refine .g (.c (.box s z z ?_))
 intro g1 W s
 refine .qn z (.seq (.block (.g (.s (fa f91_0 z z z) z (.s (ld t3 s z z z z z) z (.q z (.q z (.nil ?_))))))))
 refine .cs z h ?_ ?_ <;> intro h
 ·refine .g (.s (fa f91_1 z z z) z (.s (ld t3 s z z z z z) z (.q z (.q z (.cu 4 16 ((decide (a0.N>=0))&&(decide (a0.N<=99999))) s ?_ ?_)))))
  ·refine .both (decide (a0.N>=0)) (λb=>?_) (λb=>?_)
   ·have hg1:=b
    exact .g hg1 (.s (fa f91_1 z z z) z (.g hg1 (.s (ld t3 s z z z z z) z (.g hg1 (.q z (.s (pkt hg1 z z z) z (.nil (ck 4 s z (bp hg1)))))))))
   exact .xx b z (.xx b z (.xx b z (.s (pkf b z z z) z (.nil (ck 4 s z (bq b))))))
  intro W s
  refine .q z (.cu 5 22 (((decide (a0.N>=0))&&(decide (a0.N<=99999)))&&((a0.Args.length:Int)==0)) s ?_ ?_)
  ·refine .both ((decide (a0.N>=0))&&(decide (a0.N<=99999))) (λb=>?_) (λb=>?_)
   ·have hg2:=b
    exact .g hg2 (.s (fa f91_2 z z z) z (.g hg2 (.s (ld t89 s z z z z z) z (.g hg2 (.s (aJ (s.keep ax) u89 z z) z (.g hg2 (.q z (.s (pkt hg2 z z z) z (.nil (ck 5 s z (bp hg2)))))))))))
   exact .xx b z (.xx b z (.xx b z (.xx b z (.s (pkf b z z z) z (.nil (ck 5 s z (bq b)))))))
  intro W s
  refine .q z (.cu 3 26 ((((decide (a0.N>=0))&&(decide (a0.N<=99999)))&&((a0.Args.length:Int)==0))&&(decide (a1>0))) s ?_ ?_)
  ·refine .both (((decide (a0.N>=0))&&(decide (a0.N<=99999)))&&((a0.Args.length:Int)==0)) (λb=>?_) (λb=>?_)
   ·have hg3:=b
    exact .g hg3 (.q z (.g hg3 (.q z (.s (pkt hg3 z z z) z (.nil (ck 3 s z (bp hg3)))))))
   exact .xx b z (.xx b z (.s (pkf b z z z) z (.nil (ck 3 s z (bq b)))))
  intro W s
  cases h
  exact .qn z (.ret (aa () (rt z rn) z (s.to [])))
 refine .g (.s (fa f91_0 z z z) z (.s (ld t3 s z z z z z) z (.q z (.q z (.nil ?_)))))
 refine .cs z h ?_ ?_ <;> intro h
 ·refine .g (.s (fa f91_1 z z z) z (.s (ld t3 s z z z z z) z (.q z (.q z (.cu 4 38 ((decide (a0.N>=0))&&(decide (a0.N<4))) s ?_ ?_)))))
  ·refine .both (decide (a0.N>=0)) (λb=>?_) (λb=>?_)
   ·have hg4:=b
    exact .g hg4 (.s (fa f91_1 z z z) z (.g hg4 (.s (ld t3 s z z z z z) z (.g hg4 (.q z (.s (pkt hg4 z z z) z (.nil (ck 4 s z (bp hg4)))))))))
   exact .xx b z (.xx b z (.xx b z (.s (pkf b z z z) z (.nil (ck 4 s z (bq b))))))
  intro W s
  refine .q z (.cu 5 44 (((decide (a0.N>=0))&&(decide (a0.N<4)))&&((a0.Args.length:Int)==0)) s ?_ ?_)
  ·refine .both ((decide (a0.N>=0))&&(decide (a0.N<4))) (λb=>?_) (λb=>?_)
   ·have hg5:=b
    exact .g hg5 (.s (fa f91_2 z z z) z (.g hg5 (.s (ld t89 s z z z z z) z (.g hg5 (.s (aJ (s.keep ax) u89 z z) z (.g hg5 (.q z (.s (pkt hg5 z z z) z (.nil (ck 5 s z (bp hg5)))))))))))
   exact .xx b z (.xx b z (.xx b z (.xx b z (.s (pkf b z z z) z (.nil (ck 5 s z (bq b)))))))
  intro W s
  refine .q z (.cu 3 48 ((((decide (a0.N>=0))&&(decide (a0.N<4)))&&((a0.Args.length:Int)==0))&&(decide (a1>0))) s ?_ ?_)
  ·refine .both (((decide (a0.N>=0))&&(decide (a0.N<4)))&&((a0.Args.length:Int)==0)) (λb=>?_) (λb=>?_)
   ·have hg6:=b
    exact .g hg6 (.q z (.g hg6 (.q z (.s (pkt hg6 z z z) z (.nil (ck 3 s z (bp hg6)))))))
   exact .xx b z (.xx b z (.s (pkf b z z z) z (.nil (ck 3 s z (bq b)))))
  intro W s
  cases h
  exact .qn z (.ret (aa () (rt z rn) z (s.to [])))
 refine .skip (.g (.s (fa f91_0 z z z) z (.s (ld t3 s z z z z z) z (bv h λy1 hy1 h=>.c (.cO s func174 (oZ hy1) z z ?_)))))
 intro W s
 refine .q z (.cu 4 56 (y1&&(a0.N==0)) s ?_ ?_)
 ·refine .both (y1) (λb=>?_) (λb=>?_)
  ·have hg7:=b
   exact .g hg7 (.s (fa f91_1 z z z) z (.g hg7 (.s (ld t3 s z z z z z) z (.g hg7 (.q z (.s (pkt hg7 z z z) z (.nil (ck 4 s z (bp hg7)))))))))
  exact .xx b z (.xx b z (.xx b z (.s (pkf b z z z) z (.nil (ck 4 s z (bq b))))))
 intro W s
 refine .q z (.cu 5 62 ((y1&&(a0.N==0))&&((a0.Args.length:Int)==2)) s ?_ ?_)
 ·refine .both (y1&&(a0.N==0)) (λb=>?_) (λb=>?_)
  ·have hg8:=b
   exact .g hg8 (.s (fa f91_2 z z z) z (.g hg8 (.s (ld t89 s z z z z z) z (.g hg8 (.s (aJ (s.keep ax) u89 z z) z (.g hg8 (.q z (.s (pkt hg8 z z z) z (.nil (ck 5 s z (bp hg8)))))))))))
  exact .xx b z (.xx b z (.xx b z (.xx b z (.s (pkf b z z z) z (.nil (ck 5 s z (bq b)))))))
 intro W s
 refine .q z (.cu 3 66 (((y1&&(a0.N==0))&&((a0.Args.length:Int)==2))&&(decide (a1>1))) s ?_ ?_)
 ·refine .both ((y1&&(a0.N==0))&&((a0.Args.length:Int)==2)) (λb=>?_) (λb=>?_)
  ·have hg9:=b
   exact .g hg9 (.q z (.g hg9 (.q z (.s (pkt hg9 z z z) z (.nil (ck 3 s z (bp hg9)))))))
  exact .xx b z (.xx b z (.s (pkf b z z z) z (.nil (ck 3 s z (bq b)))))
 intro W s
 refine .q z (bv h λb1 hb1 h=>.cu 8 75 (b1) s ?_ ?_)
 ·refine .both (((y1&&(a0.N==0))&&((a0.Args.length:Int)==2))&&(decide (a1>1))) (λb=>?_) (λb=>?_)
  ·have hg10:=b
   have h:=aC b hb1
   refine .g hg10 (.s (fa f91_2 z z z) z (.g hg10 (.s (ld t89 s z z z z z) z (bv h λx1 hx1 h=>?_))))
   obtain ⟨k1,hd,hck1⟩:=RV.el2 ax hx1
   have hd1:=j7 (cH _) hd
   obtain ⟨k1,rfl,hd2⟩:=bQ ax z hd1
   obtain ⟨k1,rfl,hd3⟩:=bQ ax z hd2
   obtain ⟨v1,k1,rfl,q1,hd4⟩:=cU ax hd3
   obtain rfl:=mO ax hd4
   refine .g hg10 (.s (ixv (s.keep ax) hx1 u89 t91 z z z) z (.g hg10 (.s (lde (hck1 _ s.agree) t91 z z z z z) z (.g hg10 (.q z (.g hg10 (.q z (bv h λy2 hy2 h=>.g hg10 (.c (.cO s func272 (nT hy2 (s.keep (q1 _ ax))) z z ?_))))))))))
   intro W s
   refine .s (pkt hg10 z z z) z ?_
   cases h
   exact .nil (ck 8 s)
  refine .xx b z (.xx b z (.xx b z (.xx b z (.xx b z (.xx b z (.xx b z ?_))))))
  cases aD b hb1
  exact .s (pkf b z z z) z (.nil (ck 8 s))
 intro W s
 refine .q z (bv h λb2 hb2 h=>.cu 8 84 (b2) s ?_ ?_)
 ·refine .both (b1) (λb=>?_) (λb=>?_)
  ·have hg11:=b
   have h:=aC b hb2
   refine .g hg11 (.s (fa f91_2 z z z) z (.g hg11 (.s (ld t89 s z z z z z) z (bv h λx2 hx2 h=>?_))))
   obtain ⟨k2,hd,hck2⟩:=RV.el2 ax hx2
   have hd1:=j7 (cH _) hd
   obtain ⟨k2,rfl,hd2⟩:=bQ ax z hd1
   obtain ⟨k2,rfl,hd3⟩:=bQ ax z hd2
   obtain ⟨v2,k2,rfl,q2,hd4⟩:=cU ax hd3
   obtain rfl:=mO ax hd4
   refine .g hg11 (.s (ixv (s.keep ax) hx2 u89 t91 z z z) z (.g hg11 (.s (lde (hck2 _ s.agree) t91 z z z z z) z (.g hg11 (.q z (.g hg11 (.q z (bv h λy3 hy3 h=>.g hg11 (.c (.cO s func272 (nT hy3 (s.keep (q2 _ ax))) z z ?_))))))))))
   intro W s
   refine .s (pkt hg11 z z z) z ?_
   cases h
   exact .nil (ck 8 s)
  refine .xx b z (.xx b z (.xx b z (.xx b z (.xx b z (.xx b z (.xx b z ?_))))))
  cases aD b hb2
  exact .s (pkf b z z z) z (.nil (ck 8 s))
 intro W s
 obtain rfl:=o9 h
 exact .qn z (.ret (aa () (rt z rn) z (s.to [])))
theorem pi (k:Nat):j1 (ji k):=by
  induction k with
  | zero=>exact by intro a0 a1 bC w r h ax; exact no h
  | succ k ih=>exact ti (k:=k) ih
theorem sh {k:Nat}:j1 (ji k):=(pi k)
theorem si {k:Nat} {a0:Expr} {bC:Hd} {w:World} {r:Bool} (h:gz k a0=some r) (ax:RO w bC 91 3 aK a0.Args):CL 254 #[.agg #[vi a0.Op,vi a0.N,sv bC]] w (RU w (.bool r)):=by
 unfold gz at h
 refine ao func254 z z ?_
 have s:=Sep.start w
 refine .g (.c (.box s z z ?_))
 intro g1 W s
 refine .qn z (.g (.s (ld t91 s z z z z z) z (bv h λy1 hy1 h=>.c (.cO s func272 (sh hy1 (s.keep ax)) z z ?_))))
 intro W s
 obtain rfl:=o9 h
 exact .qn z (.ret (aa () (rt z rn) z (s.to [])))
theorem m6 {a0:Int} {a1:Int} {a2:Bool} {w:World} {r:Bool} (h:di a0 a1 a2=some r):CL 253 #[vi a0,vi a1,.bool a2] w (RU w (.bool r)):=by
 unfold di at h
 refine ao func253 z z ?_
 have s:=Sep.start w
 refine .g (.qn z (.g (.q z (.q z (.q z (.cu 11 20 ((a0==0)||((a2&&(decide (a0>0)))&&(decide (a0<a1)))) s ?_ ?_))))))
 ·refine .both (a0==0) (λb=>?_) (λb=>?_)
  ·exact .xx b z (.xx b z (.xu (.xu (.xx b z (.xx b z (.xu (.xu (.xu (.xx b z (.s (pkt b z z z) z (.nil (ck 11 s z (gY b)))))))))))))
  have hg1:=b
  refine .g hg1 (.q z (.g hg1 (.q z (.cu 3 14 (a2&&(decide (a0>0))) s ?_ ?_))))
  ·refine .both (a2) (λb=>?_) (λb=>?_)
   ·have hg2:=b
    exact .g hg2 (.q z (.g hg2 (.q z (.g hg1 (.s (pkt hg2 z z z) z (.nil (ck 3 s z (bp hg2))))))))
   exact .xx b z (.xx b z (.g hg1 (.s (pkf b z z z) z (.nil (ck 3 s z (bq b))))))
  intro W s
  refine .g hg1 (.q z (.cu 4 19 ((a2&&(decide (a0>0)))&&(decide (a0<a1))) s ?_ ?_))
  ·refine .both (a2&&(decide (a0>0))) (λb=>?_) (λb=>?_)
   ·have hg3:=b
    exact .g hg3 (.q z (.g hg3 (.q z (.g hg3 (.q z (.g hg1 (.s (pkt hg3 z z z) z (.nil (ck 4 s z (bp hg3))))))))))
   exact .xx b z (.xx b z (.xx b z (.g hg1 (.s (pkf b z z z) z (.nil (ck 4 s z (bq b)))))))
  intro W s
  exact .s (pkf hg1 z z z) z (.nil (ck 6 s z (gr hg1)))
 intro W s
 cases h
 exact .qn z (.ret (aa () (rt z rn) z (s.to [])))
def qt (w:World) (r:Bool):Env->World->Prop:=Fin Tryz.prog Tryz.f208 No w (λs:Unit=>.bool r) (λs=>[]) .ret
theorem pP {k:Nat} {a0:ah} {a1:Int} {ay:Hd} {ba:Hd} {bc:Hd} {h_0:Hd} {k_0:Nat} {w:World} {r:Bool} (h:jj k a0 a1=some r) (au:RO w ay 91 3 aK a0.Expr.Args) (be:RO w ba 95 8 ak a0.Body) (aZ:RO w bc 95 8 ak a0.Else) (c_0:EC w (Old No w) (adr (sv h_0)) k_0 [vi a0.Kind,vi a0.Var,vi a0.Box,vi a0.Expr.Op,vi a0.Expr.N,sv ay,sv ba,sv bc]):CL 208 #[.pointer (some (bP (adr (sv h_0)) (k_0+0))),vi a1] w (RU w (.bool r)):=by
 unfold jj at h
 refine ao func208 z z ?_
 have s:=Sep.start w
 refine .g (.qn z (.g (.c (.alloc t237 s ?_))))
 intro g1 W s
 refine .nil (bv h λy1 hy1 h=>?_)
 refine .seq (CW.via (R':=λx E' W'=>(match y1 with | .inl o1=>x=.normal/\al E' [(0,.pointer (some (bP (adr (sv h_0)) (k_0+0)))),(1,vi a1),(5,Pt g1)]/\Sep No w W' [.box g1 237 [.bool o1.variable_,.bool o1.box,.bool o1.expr,.bool o1.body,.bool o1.other]] | .inr o2=>x=.ret/\qt w o2 E' W')) ?_ ?_)
 ·have h:=hy1
  refine .g (.q z (.q z (.s (fe f95_0 z z z) z (.s (lde (c_0 _ s.agree) t3 z z z z z) z (.nil (.block (.g (.q z (.q z (.nil ?_))))))))))
  refine .cs z h ?_ ?_ <;> intro h
  ·refine .region (.s (fa f237_0 z z z) z (.c (.st t4 s z z z ?_)))
   intro W s
   refine .s (fa f237_2 z z z) z (.c (.st t4 s z z z ?_))
   intro W s
   refine .nil ?_
   cases h
   exact ⟨z,sb z,s.tk [0]⟩
  refine .g (.q z (.q z (.nil ?_)))
  refine .cs z h ?_ ?_ <;> intro h
  ·refine .region (.s (fa f237_2 z z z) z (.c (.st t4 s z z z ?_)))
   intro W s
   refine .s (fa f237_3 z z z) z (.c (.st t4 s z z z ?_))
   intro W s
   refine .s (fa f237_4 z z z) z (.c (.st t4 s z z z ?_))
   intro W s
   refine .nil ?_
   cases h
   exact ⟨z,sb z,s.tk [0]⟩
  refine .g (.q z (.q z (.nil ?_)))
  refine .cs z h ?_ ?_ <;> intro h
  ·refine .region (.s (fa f237_2 z z z) z (.c (.st t4 s z z z ?_)))
   intro W s
   refine .s (fa f237_3 z z z) z (.c (.st t4 s z z z ?_))
   intro W s
   refine .nil ?_
   cases h
   exact ⟨z,sb z,s.tk [0]⟩
  refine .g (.q z (.q z (.nil ?_)))
  refine .cs z h ?_ ?_ <;> intro h
  ·refine .region (.s (fa f237_1 z z z) z (.c (.st t4 s z z z ?_)))
   intro W s
   refine .s (fa f237_2 z z z) z (.c (.st t4 s z z z ?_))
   intro W s
   refine .nil ?_
   cases h
   exact ⟨z,sb z,s.tk [0]⟩
  refine .g (.q z (.q z (.nil ?_)))
  refine .cs z h ?_ ?_ <;> intro h
  ·refine .region (.s (fa f237_1 z z z) z (.c (.st t4 s z z z ?_)))
   intro W s
   refine .s (fa f237_0 z z z) z (.c (.st t4 s z z z ?_))
   intro W s
   refine .nil ?_
   cases h
   exact ⟨z,sb z,s.tk [0]⟩
  refine .g (.q z (.q z (.nil ?_)))
  refine .cs z h ?_ ?_ <;> intro h
  ·refine .region (.s (fa f237_2 z z z) z (.c (.st t4 s z z z ?_)))
   intro W s
   refine .nil ?_
   cases h
   exact ⟨z,sb z,s.tk [0]⟩
  refine .g (.q z (.q z (.nil ?_)))
  refine .cs z h ?_ ?_ <;> intro h
  ·refine .skip ?_
   cases h
   exact ⟨z,sb z,s.tk [0]⟩
  refine .g (.qn z (.ret ?_))
  cases h
  exact ⟨z,aa (vs:=[_]) () (rt z rn) z (s.to [])⟩
 intro x E W hJ
 rcases y1 with o3 | o4
 ·have h:=dG h
  obtain ⟨rfl,hE,s⟩:=hJ
  refine ⟨_,hE.sub,?_⟩
  refine .g (.qn z (.seq (.seq (bv h λy2 hy2 h=>bv h λb1 hb1 h=>?_))))
  refine .via (R':=λx E' W'=>x=.normal/\al E' [(0,.pointer (some (bP (adr (sv h_0)) (k_0+0)))),(5,Pt g1),(69,.bool (b1||(o3.box&&(decide (a0.Box>=a1)))))]/\Sep No w W' [.box g1 237 [.bool o3.variable_,.bool o3.box,.bool o3.expr,.bool o3.body,.bool o3.other]]) ?_ ?_
  ·refine .rk 33 s [0] T.mix ?_
   intro W s
   have t:=s.to [0]
   refine .tp' 0 z z t (.tp' 1 z z t (.tp' 2 z z t (.ts' 3 z (λW t=>fe f95_1 z z z) t z (.ts' 4 z (λW t=>lde (c_0 _ t.agree) t3 z z z z z) t z (.ts' 5 z (λW t=>fa f237_0 z z z) t z (.ts' 6 z (λW t=>ld t4 t z z z z z) t z (.by1 7 z (.callv (vs:=[vi a0.Var,vi 4,.bool o3.variable_]) (cap:=#[]) s ⟨_,func253,z,by kernel_rfl⟩ (m6 hy2) z z z ?_))))))))
   rintro ⟨⟩ W s
   refine s.an [0] λt=>.tp' 8 z z t (.tp' 9 z z t (.both (!y2) (λb=>?_) (λb=>?_)))
   ·refine .off 10 z b t (.off 11 z b t (.off 12 z b t (.off 13 z b t (.off 14 z b t (.off 15 z b t (.off 16 z b t (.off 17 z b t (.off 18 z b t (.off 19 z b t (.ts' 20 z (λW t=>pkt b z z z) t z (.eqv 57 z (gu (aC b hb1)) (.tp' 21 z z t (.both (b1) (λb=>?_) (λb=>?_))))) (by kernel_rfl) z z) (by kernel_rfl) z z) (by kernel_rfl) z z) (by kernel_rfl) z z) (by kernel_rfl) z z) (by kernel_rfl) z z) (by kernel_rfl) z z) (by kernel_rfl) z z) (by kernel_rfl) z z) (by kernel_rfl) z z
    ·exact .off 22 z b t (.off 23 z b t (.off 24 z b t (.offu 25 z t (.offu 26 z t (.offu 27 z t (.offu 28 z t (.offu 29 z t (.offu 30 z t (.off 31 z b t (.ts' 32 z (λW t=>pkt b z z z) t z (.eqv 69 z (congrArg Value.bool (show true=(b1||(o3.box&&(decide (a0.Box>=a1)))) from gY b)) (.done (⟨z,sb z,s.tk [0]⟩)))) (by kernel_rfl) z z) (by kernel_rfl) z z) (by kernel_rfl) z z) (by kernel_rfl) z z) (by kernel_rfl) z z) (by kernel_rfl) z z) (by kernel_rfl) z z) (by kernel_rfl) z z) (by kernel_rfl) z z) (by kernel_rfl) z z
    have hg2:=b
    refine .t1g 22 z hg2 (λW t=>fa f237_1 z z z) t (.t1g 23 z hg2 (λW t=>ld t4 t z z z z z) t (.t1g 24 z hg2 (λW t=>pr z) t (.both (o3.box) (λb=>?_) (λb=>?_)) (by kernel_rfl) z z) (by kernel_rfl) z z) (by kernel_rfl) z z
    ·have hg3:=b
     exact .t1g 25 z hg3 (λW t=>pr z) t (.t1g 26 z hg3 (λW t=>pr z) t (.t1g 27 z hg3 (λW t=>fe f95_2 z z z) t (.t1g 28 z hg3 (λW t=>lde (c_0 _ t.agree) t3 z z z z z) t (.t1g 29 z hg3 (λW t=>pr z) t (.t1g 30 z hg3 (λW t=>pr z) t (.t1g 31 z hg2 (λW t=>pkt hg3 z z z) t (.eqv 68 z (congrArg Value.bool (bp hg3)) (.ts' 32 z (λW t=>pkf hg2 z z z) t z (.eqv 69 z (congrArg Value.bool (gr hg2)) (.done (⟨z,sb z,s.tk [0]⟩))))) (by kernel_rfl) z z) (by kernel_rfl) z z) (by kernel_rfl) z z) (by kernel_rfl) z z) (by kernel_rfl) z z) (by kernel_rfl) z z) (by kernel_rfl) z z
    exact .off 25 z b t (.off 26 z b t (.off 27 z b t (.off 28 z b t (.off 29 z b t (.off 30 z b t (.t1g 31 z hg2 (λW t=>pkf b z z z) t (.eqv 68 z (congrArg Value.bool (show false=(o3.box&&(decide (a0.Box>=a1))) from bq b)) (.ts' 32 z (λW t=>pkf hg2 z z z) t z (.eqv 69 z (congrArg Value.bool (gr hg2)) (.done (⟨z,sb z,s.tk [0]⟩))))) (by kernel_rfl) z z) (by kernel_rfl) z z) (by kernel_rfl) z z) (by kernel_rfl) z z) (by kernel_rfl) z z) (by kernel_rfl) z z) (by kernel_rfl) z z
   have hg1:=b
   have h_b1:=aD b hb1
   refine .t1g 10 z hg1 (λW t=>pr z) t (.t1g 11 z hg1 (λW t=>pr z) t (.t1g 12 z hg1 (λW t=>pr z) t (.t1g 13 z hg1 (λW t=>fe f95_2 z z z) t (.t1g 14 z hg1 (λW t=>lde (c_0 _ t.agree) t3 z z z z z) t (.t1g 15 z hg1 (λW t=>pr z) t (.t1g 16 z hg1 (λW t=>fa f237_1 z z z) t (.t1g 17 z hg1 (λW t=>ld t4 t z z z z z) t (bv h_b1 λy3 hy3 h_b1=>.by1 18 z (.gd hg1 (.callv (vs:=[vi a0.Box,vi a1,.bool o3.box]) (cap:=#[]) s ⟨_,func253,z,by kernel_rfl⟩ (m6 hy3) z z z ?_))) (by kernel_rfl) z z) (by kernel_rfl) z z) (by kernel_rfl) z z) (by kernel_rfl) z z) (by kernel_rfl) z z) (by kernel_rfl) z z) (by kernel_rfl) z z) (by kernel_rfl) z z
   rintro ⟨⟩ W s
   refine s.an [0] λt=>.t1g 19 z hg1 (λW t=>pr z) t (.ts' 20 z (λW t=>pkf hg1 z z z) t z (.eqv 57 z (gu h_b1) (.tp' 21 z z t (.both (b1) (λb=>?_) (λb=>?_))))) (by kernel_rfl) z z
   ·exact .off 22 z b t (.off 23 z b t (.off 24 z b t (.offu 25 z t (.offu 26 z t (.offu 27 z t (.offu 28 z t (.offu 29 z t (.offu 30 z t (.off 31 z b t (.ts' 32 z (λW t=>pkt b z z z) t z (.eqv 69 z (congrArg Value.bool (show true=(b1||(o3.box&&(decide (a0.Box>=a1)))) from gY b)) (.done (⟨z,sb z,s.tk [0]⟩)))) (by kernel_rfl) z z) (by kernel_rfl) z z) (by kernel_rfl) z z) (by kernel_rfl) z z) (by kernel_rfl) z z) (by kernel_rfl) z z) (by kernel_rfl) z z) (by kernel_rfl) z z) (by kernel_rfl) z z) (by kernel_rfl) z z
   have hg4:=b
   refine .t1g 22 z hg4 (λW t=>fa f237_1 z z z) t (.t1g 23 z hg4 (λW t=>ld t4 t z z z z z) t (.t1g 24 z hg4 (λW t=>pr z) t (.both (o3.box) (λb=>?_) (λb=>?_)) (by kernel_rfl) z z) (by kernel_rfl) z z) (by kernel_rfl) z z
   ·have hg5:=b
    exact .t1g 25 z hg5 (λW t=>pr z) t (.t1g 26 z hg5 (λW t=>pr z) t (.t1g 27 z hg5 (λW t=>fe f95_2 z z z) t (.t1g 28 z hg5 (λW t=>lde (c_0 _ t.agree) t3 z z z z z) t (.t1g 29 z hg5 (λW t=>pr z) t (.t1g 30 z hg5 (λW t=>pr z) t (.t1g 31 z hg4 (λW t=>pkt hg5 z z z) t (.eqv 68 z (congrArg Value.bool (bp hg5)) (.ts' 32 z (λW t=>pkf hg4 z z z) t z (.eqv 69 z (congrArg Value.bool (gr hg4)) (.done (⟨z,sb z,s.tk [0]⟩))))) (by kernel_rfl) z z) (by kernel_rfl) z z) (by kernel_rfl) z z) (by kernel_rfl) z z) (by kernel_rfl) z z) (by kernel_rfl) z z) (by kernel_rfl) z z
   exact .off 25 z b t (.off 26 z b t (.off 27 z b t (.off 28 z b t (.off 29 z b t (.off 30 z b t (.t1g 31 z hg4 (λW t=>pkf b z z z) t (.eqv 68 z (congrArg Value.bool (show false=(o3.box&&(decide (a0.Box>=a1))) from bq b)) (.ts' 32 z (λW t=>pkf hg4 z z z) t z (.eqv 69 z (congrArg Value.bool (gr hg4)) (.done (⟨z,sb z,s.tk [0]⟩))))) (by kernel_rfl) z z) (by kernel_rfl) z z) (by kernel_rfl) z z) (by kernel_rfl) z z) (by kernel_rfl) z z) (by kernel_rfl) z z) (by kernel_rfl) z z
  intro x E W hJ
  obtain ⟨rfl,hE,s⟩:=hJ
  refine ⟨_,hE.sub,?_⟩
  refine .cs z h ?_ ?_ <;> intro h
  ·obtain rfl:=o9 h
   exact .g (.qn z (.ret (aa () (rt z rn) z (s.to []))))
  refine .skip (.seq (.g (.s (fa f237_2 z z z) z (.s (ld t4 s z z z z z) z (.q z (bv h λb2 hb2 h=>.cu 7 79 (b2) s ?_ ?_))))))
  ·refine .both (o3.expr) (λb=>?_) (λb=>?_)
   ·have hg6:=b
    have h:=aC b hb2
    refine .g hg6 (.q z (.g hg6 (.q z (.g hg6 (.s (fe f95_3 z z z) z (.g hg6 (.s (lde (c_0 _ s.agree) t91 z z z z z) z (bv h λy4 hy4 h=>.g hg6 (.c (.cO s func254 (si hy4 (s.keep au)) z z ?_))))))))))
    intro W s
    refine .g hg6 (.q z (.s (pkt hg6 z z z) z ?_))
    cases h
    exact .nil (ck 7 s)
   refine .xx b z (.xx b z (.xx b z (.xx b z (.xx b z (.xx b z ?_)))))
   cases aD b hb2
   exact .s (pkf b z z z) z (.nil (ck 7 s))
  intro W s
  refine .q z (.cu 29 109 (b2||((!o3.expr)&&(((a0.Expr.Op !=0)||(a0.Expr.N !=0))||(decide ((a0.Expr.Args.length:Int)>0))))) s ?_ ?_)
  ·refine .both (b2) (λb=>?_) (λb=>?_)
   ·exact .xx b z (.xx b z (.xx b z (.xx b z (.xu (.xu (.xu (.xu (.xu (.xu (.xu (.xu (.xu (.xu (.xu (.xu (.xu (.xu (.xu (.xu (.xu (.xu (.xu (.xu (.xu (.xu (.xu (.xx b z (.s (pkt b z z z) z (.nil (ck 29 s z (gY b)))))))))))))))))))))))))))))))
   have hg7:=b
   refine .g hg7 (.s (fa f237_2 z z z) z (.g hg7 (.s (ld t4 s z z z z z) z (.g hg7 (.q z (.g hg7 (.q z (.cu 24 108 ((!o3.expr)&&(((a0.Expr.Op !=0)||(a0.Expr.N !=0))||(decide ((a0.Expr.Args.length:Int)>0)))) s ?_ ?_))))))))
   ·refine .both (!o3.expr) (λb=>?_) (λb=>?_)
    ·have hg8:=b
     refine .g hg8 (.q z (.g hg8 (.q z (.g hg8 (.s (fe f95_3 z z z) z (.g hg8 (.s (fe f91_0 z z z) z (.g hg8 (.s (lde (c_0 _ s.agree) t3 z z z z z) z (.g hg8 (.q z (.g hg8 (.q z (.cu 7 98 ((a0.Expr.Op !=0)||(a0.Expr.N !=0)) s ?_ ?_))))))))))))))
     ·refine .both (a0.Expr.Op !=0) (λb=>?_) (λb=>?_)
      ·exact .xx b z (.xx b z (.xx b z (.xx b z (.xx b z (.xx b z (.g hg8 (.s (pkt b z z z) z (.nil (ck 7 s z (gY b))))))))))
      have hg9:=b
      exact .g hg9 (.q z (.g hg9 (.q z (.g hg9 (.s (fe f95_3 z z z) z (.g hg9 (.s (fe f91_1 z z z) z (.g hg9 (.s (lde (c_0 _ s.agree) t3 z z z z z) z (.g hg9 (.q z (.g hg8 (.s (pkf hg9 z z z) z (.nil (ck 7 s z (gr hg9))))))))))))))))
     intro W s
     refine .g hg8 (.q z (.cu 8 107 (((a0.Expr.Op !=0)||(a0.Expr.N !=0))||(decide ((a0.Expr.Args.length:Int)>0))) s ?_ ?_))
     ·refine .both ((a0.Expr.Op !=0)||(a0.Expr.N !=0)) (λb=>?_) (λb=>?_)
      ·exact .xx b z (.xx b z (.xx b z (.xx b z (.xx b z (.xx b z (.xx b z (.g hg8 (.s (pkt b z z z) z (.nil (ck 8 s z (gY b)))))))))))
      have hg10:=b
      exact .g hg10 (.q z (.g hg10 (.q z (.g hg10 (.s (fe f95_3 z z z) z (.g hg10 (.s (fe f91_2 z z z) z (.g hg10 (.s (lde (c_0 _ s.agree) t89 z z z z z) z (.g hg10 (.s (aJ (s.keep au) u89 z z) z (.g hg10 (.q z (.g hg8 (.s (pkf hg10 z z z) z (.nil (ck 8 s z (gr hg10))))))))))))))))))
     intro W s
     exact .g hg7 (.s (pkt hg8 z z z) z (.nil (ck 11 s z (bp hg8))))
    exact .xx b z (.xx b z (.xx b z (.xx b z (.xx b z (.xx b z (.xx b z (.xu (.xu (.xu (.xu (.xu (.xu (.xx b z (.xx b z (.xu (.xu (.xu (.xu (.xu (.xu (.xu (.xx b z (.g hg7 (.s (pkf b z z z) z (.nil (ck 24 s z (bq b)))))))))))))))))))))))))))
   intro W s
   exact .s (pkf hg7 z z z) z (.nil (ck 6 s z (gr hg7)))
  intro W s
  refine .nil ?_
  refine .cs z h ?_ ?_ <;> intro h
  ·obtain rfl:=o9 h
   exact .g (.qn z (.ret (aa () (rt z rn) z (s.to []))))
  refine .skip (.g (.s (fa f237_3 z z z) z (.s (ld t4 s z z z z z) z (.q z (.cu 7 119 (o3.body||((a0.Body.length:Int)==0)) s ?_ ?_)))))
  ·refine .both (o3.body) (λb=>?_) (λb=>?_)
   ·exact .xx b z (.xx b z (.xx b z (.xx b z (.xx b z (.xx b z (.s (pkt b z z z) z (.nil (ck 7 s z (gY b)))))))))
   have hg11:=b
   exact .g hg11 (.q z (.g hg11 (.q z (.g hg11 (.s (fe f95_4 z z z) z (.g hg11 (.s (lde (c_0 _ s.agree) t93 z z z z z) z (.g hg11 (.s (aJ (s.keep be) u93 z z) z (.g hg11 (.q z (.s (pkf hg11 z z z) z (.nil (ck 7 s z (gr hg11)))))))))))))))
  intro W s
  refine .q z (.cu 11 131 ((o3.body||((a0.Body.length:Int)==0))&&(o3.other||((a0.Else.length:Int)==0))) s ?_ ?_)
  ·refine .both (o3.body||((a0.Body.length:Int)==0)) (λb=>?_) (λb=>?_)
   ·have hg12:=b
    refine .g hg12 (.s (fa f237_4 z z z) z (.g hg12 (.s (ld t4 s z z z z z) z (.g hg12 (.q z (.cu 7 130 (o3.other||((a0.Else.length:Int)==0)) s ?_ ?_))))))
    ·refine .both (o3.other) (λb=>?_) (λb=>?_)
     ·exact .xx b z (.xx b z (.xx b z (.xx b z (.xx b z (.xx b z (.g hg12 (.s (pkt b z z z) z (.nil (ck 7 s z (gY b))))))))))
     have hg13:=b
     exact .g hg13 (.q z (.g hg13 (.q z (.g hg13 (.s (fe f95_5 z z z) z (.g hg13 (.s (lde (c_0 _ s.agree) t93 z z z z z) z (.g hg13 (.s (aJ (s.keep aZ) u93 z z) z (.g hg13 (.q z (.g hg12 (.s (pkf hg13 z z z) z (.nil (ck 7 s z (gr hg13))))))))))))))))
    intro W s
    exact .s (pkt hg12 z z z) z (.nil (ck 5 s z (bp hg12)))
   exact .xx b z (.xx b z (.xx b z (.xu (.xu (.xu (.xu (.xu (.xu (.xx b z (.s (pkf b z z z) z (.nil (ck 11 s z (bq b)))))))))))))
  intro W s
  cases h
  exact .qn z (.ret (aa () (rt z rn) z (s.to [])))
 have h:=dH h
 obtain ⟨rfl,hF⟩:=hJ
 refine ⟨_,λ_ _ h=>h,?_⟩
 cases h
 exact hF
def i9 (F:List ah->Int->Int->Int->Option (Bool×Int)):Prop:=∀ {a0:List ah} {a1:Int} {a2:Int} {a3:Int} {v_0:Hd} {g_3:Nat} {S:Nat->Prop} {w:World} {r:Bool×Int} (h:F a0 a1 a2 a3=some r) (q_0:RV w (Old S w) (sv v_0) 95 8 ak a0) (hO:bw w [.box g_3 3 [vi a3]] S) (hlt:∀ b,S b->b<w.heap.size) , CL 162 #[sv v_0,vi a1,vi a2,Pt g_3] w (Ret S w (λs:Unit=>.bool r.1) (λs=>[.box g_3 3 [vi r.2]]))
def nU (w:World) (S:Nat->Prop) (v_0:Hd) (g_3:Nat) (a0:List ah) (a1:Int) (a2:Int) (a3:Int) (r:Bool×Int):Env->World->Prop:=Fin Tryz.prog Tryz.f162 S w (λs:Unit=>.bool r.1) (λs=>[.box g_3 3 [vi r.2]]) .ret
theorem sj {k:Nat} {cW:List ah->Int->Int->Int->Option (Bool×Int)} (nC:i9 cW):i9 (fJ k cW):=by
 intro a0 a1 a2 a3 v_0 g_3 S w r h q_0 hO hlt
 unfold fJ at h
 refine ao func162 z z ?_
 have s:=Sep.sm hO hlt
 refine .g (.qn z (.g (.q z (.q z (.s (ld t3 s z z z z z) z (.q z (.s (aJ (s.keep q_0) u93 z z) z (.q z (.q z (.c (.st t3 s z z z ?_)))))))))))
 intro W s
 refine .nil (.seq (.g (.q z (.q z (.s (ld t3 s z z z z z) z (.q z (.nil ?_)))))))
 refine .cs z h ?_ ?_ <;> intro h
 ·cases h
  exact .g (.qn z (.ret (aa () (rt z rn) z (s.tk [0]))))
 refine .skip (.seq (.g (.q z (.s (aJ (s.keep q_0) u93 z z) z (.qn z (.block (bv h λy1 hy1 h=>?_)))))))
 refine .via (.iter (λs1 E' W'=>al E' [(0,(sv v_0)),(1,vi a1),(2,vi a2),(3,Pt g_3),(23,vi (a0.length:Int)),(24,vi s1.1)]/\Sep S w W' [.box g_3 3 [vi s1.2]]) (λy2 x E' W'=>(match y2 with | .inl o1=>x=.ret/\nU w S v_0 g_3 a0 a1 a2 a3 o1 E' W' | .inr o2=>x=.exit 0/\al E' []/\Sep S w W' [.box g_3 3 [vi o2]])) hy1 ⟨sb rfl,s.tk [0]⟩ ?_) ?_
 ·intro s1 y3 E W h hI
  obtain ⟨hE,s⟩:=hI
  refine CW.sub hE ?_
  unfold ib at h
  refine .g (.qn z (.seq ?_))
  refine .cs z h ?_ ?_ <;> intro h
  ·refine .skip (bv h λy4 hy4 h=>?_)
   refine .seq (CW.via (R':=λx E' W'=>(match y4 with | .inl o3=>x=.normal/\al E' [(0,(sv v_0)),(1,vi a1),(2,vi a2),(3,Pt g_3),(23,vi (a0.length:Int)),(24,vi s1.1)]/\Sep S w W' [.box g_3 3 [vi o3]] | .inr o4=>x=.ret/\nU w S v_0 g_3 a0 a1 a2 a3 o4 E' W')) ?_ ?_)
   ·have h:=hy4
    refine .block (.g (.q z (.qn z (.g (.q z (.q z (bv h λx1 hx1 h=>?_)))))))
    obtain ⟨k1,hd,hck1⟩:=RV.el2 q_0 hx1
    have hd1:=j7 (eI _) hd
    obtain ⟨k1,rfl,hd2⟩:=bQ q_0 z hd1
    obtain ⟨k1,rfl,hd3⟩:=bQ q_0 z hd2
    obtain ⟨k1,rfl,hd4⟩:=bQ q_0 z hd3
    have hd5:=j7 (cH _) hd4
    obtain ⟨k1,rfl,hd6⟩:=bQ q_0 z hd5
    obtain ⟨k1,rfl,hd7⟩:=bQ q_0 z hd6
    obtain ⟨v1,k1,rfl,q1,hd8⟩:=cU q_0 hd7
    obtain ⟨v2,k1,rfl,q2,hd9⟩:=cU q_0 hd8
    obtain ⟨v3,k1,rfl,q3,hd10⟩:=cU q_0 hd9
    obtain rfl:=mO q_0 hd10
    refine .s (ixv (s.keep q_0) hx1 u93 t95 z z z) z (.qn z (.seq (.g (.q z (.q z (bv h λy5 hy5 h=>.c (.cO s func208 (pP hy5 (s.keep (q1 _ q_0)) (s.keep (q2 _ q_0)) (s.keep (q3 _ q_0)) (s.keepE hck1)) z z ?_)))))))
    intro W s
    refine .q z (.q z (.cu 3 37 ((!y5)||(decide (a2>3))) s ?_ ?_))
    ·refine .both (!y5) (λb=>?_) (λb=>?_)
     ·exact .xx b z (.xx b z (.s (pkt b z z z) z (.nil (ck 3 s z (gY b)))))
     have hg1:=b
     exact .g hg1 (.q z (.g hg1 (.q z (.s (pkf hg1 z z z) z (.nil (ck 3 s z (gr hg1)))))))
    intro W s
    refine .nil ?_
    refine .cs z h ?_ ?_ <;> intro h
    ·refine .g (.qn z (.ret ?_))
     cases h
     exact ⟨z,aa (vs:=[_]) () (rt z rn) z (s.tk [0])⟩
    refine .skip (.seq (.g (.q z (.q z (.s (fe f95_0 z z z) z (.s (lde (hck1 _ s.agree) t3 z z z z z) z (.q z (.q z (.cu 6 49 ((x1.Kind !=2)&&(x1.Kind !=3)) s ?_ ?_)))))))))
    ·refine .both (x1.Kind !=2) (λb=>?_) (λb=>?_)
     ·have hg2:=b
      exact .g hg2 (.q z (.g hg2 (.q z (.g hg2 (.s (fe f95_0 z z z) z (.g hg2 (.s (lde (hck1 _ s.agree) t3 z z z z z) z (.g hg2 (.q z (.s (pkt hg2 z z z) z (.nil (ck 6 s z (bp hg2)))))))))))))
     exact .xx b z (.xx b z (.xx b z (.xx b z (.xx b z (.s (pkf b z z z) z (.nil (ck 6 s z (bq b))))))))
    intro W s
    refine .nil ?_
    refine .cs z h ?_ ?_ <;> intro h
    ·refine .exit ?_
     cases h
     exact ⟨z,sb z,s.tk [0]⟩
    refine .skip (.g (.q z (.q z (.q z (bv h λb1 hb1 h=>.chunkL 11 63 (b1.1) (M:=S) (w0:=w) (L:=[.box g_3 3 [vi b1.2]]) ?_ ?_)))))
    ·refine .both (decide (a2>=3)) (λb=>?_) (λb=>?_)
     ·refine .xx b z (.xx b z (.xx b z (.xx b z (.xx b z (.xx b z (.xx b z (.xx b z (.xx b z (.xx b z ?_)))))))))
      cases aC b hb1
      exact .s (pkt b z z z) z (.nil (ck 11 (s.to [0])))
     have hg3:=b
     have h:=aD b hb1
     refine .g hg3 (.q z (.g hg3 (.q z (.g hg3 (.s (fe f95_4 z z z) z (.g hg3 (.s (lde (hck1 _ s.agree) t93 z z z z z) z (.g hg3 (.q z (.g hg3 (.q z (.g hg3 (.q z (.g hg3 (.q z (bv h λy6 hy6 h=>.g hg3 (.c (.cS (L0:=[.box g_3 3 [vi s1.2]]) s func162 (λS h1 h2 h3=>(nC hy6 (s.ks (q2 _ q_0) h1) h2 (zz h1))) z z ?_))))))))))))))))))
     rintro ⟨⟩ W s
     refine .g hg3 (.q z (.s (pkf hg3 z z z) z ?_))
     cases h
     exact .nil (ck 11 (s.to [0]))
    intro W s
    refine .q z (bv h λb2 hb2 h=>.chunkL 11 75 (b2.1) (M:=S) (w0:=w) (L:=[.box g_3 3 [vi b2.2]]) ?_ ?_)
    ·refine .both (b1.1) (λb=>?_) (λb=>?_)
     ·refine .xx b z (.xx b z (.xx b z (.xx b z (.xx b z (.xx b z (.xx b z (.xx b z (.xx b z (.xx b z ?_)))))))))
      cases aC b hb2
      exact .s (pkt b z z z) z (.nil (ck 11 (s.to [0])))
     have hg4:=b
     have h:=aD b hb2
     refine .g hg4 (.q z (.g hg4 (.q z (.g hg4 (.s (fe f95_5 z z z) z (.g hg4 (.s (lde (hck1 _ s.agree) t93 z z z z z) z (.g hg4 (.q z (.g hg4 (.q z (.g hg4 (.q z (.g hg4 (.q z (bv h λy7 hy7 h=>.g hg4 (.c (.cS (L0:=[.box g_3 3 [vi b1.2]]) s func162 (λS h1 h2 h3=>(nC hy7 (s.ks (q3 _ q_0) h1) h2 (zz h1))) z z ?_))))))))))))))))))
     rintro ⟨⟩ W s
     refine .g hg4 (.q z (.s (pkf hg4 z z z) z ?_))
     cases h
     exact .nil (ck 11 (s.to [0]))
    intro W s
    refine .nil ?_
    refine .cs z h ?_ ?_ <;> intro h
    ·refine .g (.qn z (.ret ?_))
     cases h
     exact ⟨z,aa (vs:=[_]) () (rt z rn) z (s.tk [0])⟩
    refine .skip ?_
    cases h
    exact ⟨z,sb z,s.tk [0]⟩
   intro x E W hJ
   rcases y4 with o5 | o6
   ·have h:=dG h
    obtain ⟨rfl,hE,s⟩:=hJ
    refine ⟨_,hE.sub,?_⟩
    refine .region (.q z (.q z (.nil ?_)))
    cases h
    exact ⟨z,sb z,s.tk [0]⟩
   have h:=dH h
   obtain ⟨rfl,hF⟩:=hJ
   refine ⟨_,λ_ _ h=>h,?_⟩
   cases h
   exact ⟨by simp,z,hF⟩
  refine .exit ?_
  cases h
  exact ⟨by simp,z,sb z,s.tk [0]⟩
 intro x E W hJ
 rcases y1 with o7 | o8
 ·have h:=dG h
  obtain ⟨rfl,hF⟩:=hJ
  refine ⟨_,λ_ _ h=>h,?_⟩
  cases h
  exact hF
 have h:=dH h
 obtain ⟨rfl,hE,s⟩:=hJ
 refine ⟨_,hE.sub,?_⟩
 cases h
 exact .g (.qn z (.ret (aa () (rt z rn) z (s.tk [0]))))
theorem oQ (k:Nat):i9 (fw k):=by
  induction k with
  | zero=>exact by intro a0 a1 a2 a3 v_0 g_3 S w r h q_0 hO hlt; exact no h
  | succ k ih=>exact sj (k:=k) ih
theorem rx {k:Nat}:i9 (fw k):=(oQ k)
theorem ry {k:Nat} {a0:List ah} {a1:Int} {v_0:Hd} {w:World} {r:Bool} (h:iB k a0 a1=some r) (q_0:RO w v_0 95 8 ak a0):CL 119 #[sv v_0,vi a1] w (RU w (.bool r)):=by
 unfold iB at h
 refine ao func119 z z ?_
 have s:=Sep.start w
 refine .g (.qn z (.g (.c (.alloc t3 s ?_))))
 intro g1 W s
 refine .c (.st t3 s z z z ?_)
 intro W s
 refine .nil (.g (.q z (.q z (bv h λy1 hy1 h=>.c (.cS (L0:=[.box g1 3 [vi 0]]) s func162 (λS h1 h2 h3=>(rx hy1 (s.ks q_0 h1) h2 (zz h1))) z z ?_)))))
 rintro ⟨⟩ W s
 cases h
 exact .qn z (.ret (aa () (rt z rn) z (s.to [])))
def qu (w:World) (r:Bool):Env->World->Prop:=Fin Tryz.prog Tryz.f64 No w (λs:Unit=>.bool r) (λs=>[]) .ret
end

end Go.Proofs.YtfpngipcclmliaaGreatDoor.N
