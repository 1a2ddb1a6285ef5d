/- Lemmas of the proof of CollectNeed, part 1. No condition. -/
import Derived.BigQuiet
import Derived.Deep.Draws
import Derived.Deep.Fields
import Derived.Deep.LoopGhost
import Derived.Deep.Quiet
import Derived.Deep.QuietTactic
import Derived.Deep.RegionHeld3
import Derived.Deep.RegionLaw
import Derived.Deep.RegionWith
import Derived.Deep.Slices
import Derived.Laws.AppendOwnNone
import Derived.Laws.Cells
import Derived.Laws.Cover3
import Derived.Laws.Entries
import Derived.Laws.MakeOwn
import Derived.Laws.Rows
import Derived.Laws.Slices
import Derived.Laws.StructEq
import Derived.Lib.Hide
import Derived.Maps.OwnSet
import Derived.Maps.Views
import Derived.OpenShut
import Derived.OrdersHeld
import Derived.OwnWalk
import Derived.ProofKit
import Derived.StillTail
import Derived.Test.YtkfmlehhbanopaaGreatRows
import Derived.WalkKit
namespace Go.Proofs.YtkfmlehhbanopaaGreat
set_option linter.unusedVariables false
set_option linter.unusedSimpArgs false
theorem sj {α : Type} {a b : α} (h : some a = some b) : a = b := Option.some.inj h
section
open Go.RowKit
def ni (n lo hi:Int):Bool:=decide (lo≤n) && decide (n≤hi)
theorem aXq {b c:Bool} (h:b=c):Ending.returned (.bool b)=.returned (.bool c):=by rw [h]
theorem aKh {k:IntKind} {a b:Int} (h:a=b):Ending.returned (.int k a)=.returned (.int k b):=by rw [h]
end
section
open Go.RowKit
theorem mD (n lo hi:Int) (w:World):Calls Tryz.prog 80 #[.int .i64 n,.int .i64 lo,.int .i64 hi] w fun e w'=>e=.returned (.bool (ni n lo hi))∧w=w':=by
 go_enter Tryz.func80,Tryz.ntmps80
 go_wp2
 all_goals go_ret
 all_goals refine ⟨aXq ?_,rfl⟩
 all_goals (rw [Bool.eq_iff_iff]; simp_all [ni]; try omega)
end
section
open Go.RowKit
abbrev Rd (α:Type):=World→Nat→List Value→α→Prop
/-- What every reading meets: it is of 'sz' cells; it stays while the cells below B stay; it may look further up. -/
structure Sz {α:Type} (R:Rd α) (sz:Nat):Prop where
 len :∀{w B cs x},R w B cs x→cs.length=sz
 keep :∀{w w':World} {B cs x},(∀p:Addr,p.block < B→w'.cell? p=w.cell? p)→R w B cs x→R w' B cs x
 more :∀{w B B' cs x},B≤B'→R w B cs x→R w B' cs x
/-- The elements of a slice at address A, n of them, each of 'sz' cells. -/
def aY {α:Type} (R:Rd α) (sz:Nat) (w:World) (B:Nat) (A:Option Addr) (n:Nat) (xs:List α):Prop:=
 n=xs.length∧(0 < n→∃b off,A=some ⟨b,off,none⟩∧b < B∧
  ∀i x,xs[i]? = some x→∃cs,R w B cs x∧∀j v,cs[j]? = some v→w.cell? ⟨b,off+i * sz+j,none⟩=some v)
/-- A slice as one cell. -/
def aPB {α:Type} (R:Rd α) (sz:Nat):Rd (List α):=fun w B cs xs=>∃A n c,cs=[.slice A n c]∧aY R sz w B A n xs∧n≤c∧c≤maxLen
def nR:Rd Int:=fun _ _ cs n=>cs=[.int .i64 n]
def asH:Rd Bool:=fun _ _ cs b=>cs=[.bool b]
theorem aG:Sz nR 1:=⟨fun h=>by cases h; rfl,fun _ h=>h,fun _ h=>h⟩
section
variable {α : Type} {R : Rd α} {sz : Nat} {w w' : World} {B B' n : Nat} {A : Option Addr} {xs : List α}
theorem aY.len (h:aY R sz w B A n xs):n=xs.length:=h.1
theorem aY.none_:aY R sz w B A 0 []:=⟨rfl,fun h=>absurd h (by omega)⟩
theorem aY.keep (ok:Sz R sz) (hk :∀p:Addr,p.block < B→w'.cell? p=w.cell? p) (h:aY R sz w B A n xs):aY R sz w' B A n xs:=
 ⟨h.1,fun hn=>by
  obtain ⟨b,off,e,hb,hc⟩:=h.2 hn
  exact ⟨b,off,e,hb,fun i x hx=>by
   obtain ⟨cs,hR,hv⟩:=hc i x hx
   exact ⟨cs,ok.keep hk hR,fun j v hj=>(hk _ hb).trans (hv j v hj)⟩⟩⟩
theorem aY.more (ok:Sz R sz) (hB:B≤B') (h:aY R sz w B A n xs):aY R sz w B' A n xs:=
 ⟨h.1,fun hn=>by
  obtain ⟨b,off,e,hb,hc⟩:=h.2 hn
  exact ⟨b,off,e,by omega,fun i x hx=>by
   obtain ⟨cs,hR,hv⟩:=hc i x hx
   exact ⟨cs,ok.more hB hR,hv⟩⟩⟩
theorem aY.below (ok:Sz R sz) (h:aY R sz w B A n xs) (hb:Below B w w'):aY R sz w' B A n xs:=h.keep ok fun _ hp=>hb.cell hp
theorem aY.at_ (h:aY R sz w B A n xs) {k:Nat} (hk:k < n) :∃b off x cs,A=some ⟨b,off,none⟩∧b < B∧xs[k]? = some x∧R w B cs x∧∀j v,cs[j]? = some v→w.cell? ⟨b,off+k * sz+j,none⟩=some v:=by
 obtain ⟨b,off,e,hb,hc⟩:=h.2 (by omega)
 have hl:k < xs.length:=by have:=h.1; omega
 obtain ⟨cs,hR,hv⟩:=hc k xs[k] (List.getElem?_eq_getElem hl)
 exact ⟨b,off,xs[k],cs,e,hb,List.getElem?_eq_getElem hl,hR,hv⟩
end
theorem aY.int {w:World} {B n:Nat} {A:Option Addr} {xs:List Int} (h:aY nR 1 w B A n xs) {k:Nat} (hk:k < n) :
  ∃b off x,A=some ⟨b,off,none⟩∧b < B∧xs[k]? = some x∧w.cell? ⟨b,off+k,none⟩=some (.int .i64 x):=by
 obtain ⟨b,off,x,cs,e,hb,hx,rfl,hc⟩:=h.at_ hk
 exact ⟨b,off,x,e,hb,hx,by simpa using hc 0 _ rfl⟩
/-- What is left of a bound behind a list of n; -1: too long. -/
def TV (left:Int) (n:Nat):Int:=if left - n < 0 then -1 else left - n
theorem YG {left:Int} {n:Nat} (h:left - n < 0):TV left n = -1:=if_pos h
theorem TW {left:Int} {n:Nat} (h:¬ left - n < 0):TV left n=left - n:=if_neg h
theorem WH {α:Type} {l:List α} {k:Nat} {x:α} (h:l[k]? = some x):l.take (k+1)=l.take k ++ [x]:=by
 rw [List.take_add_one,h]; rfl
theorem lt_of_some {α:Type} {l:List α} {k:Nat} {x:α} (h:l[k]? = some x):k < l.length:=(List.getElem?_eq_some_iff.1 h).1
end
section
open Go.RowKit
abbrev Ow (α:Type):=World→List Value→α→List Nat→Prop
structure BM {α:Type} (O:Ow α) (sz:Nat):Prop where
 len :∀{w cs x bs},O w cs x bs→cs.length=sz
 keep :∀{w w':World} {cs x bs},(∀b∈bs,w'.heap[b]? = w.heap[b]?)→O w cs x bs→O w' cs x bs
/-- The cells cs lie at b, o and may be written. -/
def PG (w:World) (b o:Nat) (cs:List Value):Prop:=∀j v,cs[j]? = some v→w.cell? ⟨b,o+j,none⟩=some v∧w.frozen? ⟨b,o+j,none⟩=false
def vO {α:Type} (O:Ow α) (sz:Nat) (w:World) (b:Nat):Nat→List α→List Nat→Prop
 |_,[],bs=>bs=[]
 |o,x :: xs,bs=>∃cs b1 b2,O w cs x b1∧PG w b o cs∧bs=b1 ++ b2∧vO O sz w b (o+sz) xs b2
def iV {α:Type} (O:Ow α) (sz:Nat) (w:World) (A:Option Addr) (n:Nat) (xs:List α) (bs:List Nat):Prop:=
 n=xs.length∧((xs=[]∧bs=[]) ∨∃b o b2,A=some ⟨b,o,none⟩∧bs=b :: b2∧vO O sz w b o xs b2)
def mF:Ow Int:=fun _ cs n bs=>cs=[.int .i64 n]∧bs=[]
def aKi:Ow Bool:=fun _ cs n bs=>cs=[.bool n]∧bs=[]
theorem gW:BM mF 1:=⟨fun h=>by rw [h.1]; rfl,fun _ h=>h⟩
def Gives {α:Type} (O:Ow α) (R:Rd α) (B:Nat):Prop:=∀w cs x bs,O w cs x bs→(∀k∈bs,k < B)→R w B cs x
/-- Only the blocks of bs may have turned. -/
structure Only (bs:List Nat) (w w':World):Prop where
 os:w'.os=w.os
 tape:w'.tape=w.tape
 output:w'.output=w.output
 size:w'.heap.size=w.heap.size
 block :∀k,k ∉ bs→w'.heap[k]? = w.heap[k]?
section
variable {w w' w'' : World} {bs bs' : List Nat}
theorem Only.refl (bs:List Nat) (w:World):Only bs w w:=⟨rfl,rfl,rfl,rfl,fun _ _=>rfl⟩
theorem Only.trans (h:Only bs w w') (h':Only bs w' w''):Only bs w w'':=
 ⟨h'.os.trans h.os,h'.tape.trans h.tape,h'.output.trans h.output,h'.size.trans h.size,fun k hk=>(h'.block k hk).trans (h.block k hk)⟩
theorem Only.mono (h:Only bs w w') (hb :∀b∈bs,b∈bs'):Only bs' w w':=⟨h.os,h.tape,h.output,h.size,fun k hk=>h.block k (fun hin=>hk (hb k hin))⟩
theorem Only.setCell (h:Only bs w w') {p:Addr} (hp:p.block∈bs) (u:Value):Only bs w (w'.setCell p u):=
 h.trans ⟨rfl,rfl,rfl,by simp [World.setCell],fun k hk=>Below.heap_setCell _ _ _ _ (fun e=>hk (by rw [e]; exact hp))⟩
theorem Only.below {B:Nat} (h:Only bs w w') (hb :∀b∈bs,B≤b):Below B w w':=
 ⟨h.os,h.tape,h.output,by rw [h.size]; exact Nat.le_refl _,fun k hk=>h.block k (fun hin=>by have:=hb k hin; omega)⟩
theorem PG.keep {b o:Nat} {cs:List Value} (h:PG w b o cs) (hb:w'.heap[b]? = w.heap[b]?):PG w' b o cs:=fun j v hj=>
 ⟨(World.cell?_of_block (w:=w) (a:=⟨b,o+j,none⟩) hb).trans (h j v hj).1,(World.frozen?_of_block (w:=w) (a:=⟨b,o+j,none⟩) hb).trans (h j v hj).2⟩
end
section
variable {α : Type} {O : Ow α} {sz : Nat} {w w' : World} {b o n : Nat} {A : Option Addr} {xs ys : List α} {bs : List Nat}
theorem vO.keep (ok:BM O sz) :∀{xs:List α} {o:Nat} {bs:List Nat},(w'.heap[b]? = w.heap[b]?)→(∀k∈bs,w'.heap[k]? = w.heap[k]?)→vO O sz w b o xs bs→vO O sz w' b o xs bs
 |[],_,_,_,_,h=>h
 |x :: xs,o,_,hb,hbs,⟨cs,b1,b2,hO,hc,e,hr⟩=>by
  subst e
  exact ⟨cs,b1,b2,ok.keep (fun k hk=>hbs k (by simp [hk])) hO,hc.keep hb,rfl,vO.keep ok hb (fun k hk=>hbs k (by simp [hk])) hr⟩
theorem vO.append :∀{xs ys:List α} {o:Nat} {b1 b2:List Nat},vO O sz w b o xs b1→vO O sz w b (o+xs.length * sz) ys b2→vO O sz w b o (xs ++ ys) (b1 ++ b2)
 |[],ys,o,b1,b2,h1,h2=>by
  have h1:b1=[]:=h1
  subst h1
  simpa using h2
 |x :: xs,ys,o,b1,b2,⟨cs,c1,c2,hO,hc,e,hr⟩,h2=>by
  subst e
  refine ⟨cs,c1,c2 ++ b2,hO,hc,by simp,vO.append hr ?_⟩
  have e:o+sz+xs.length * sz=o+(x :: xs).length * sz:=by simp [Nat.add_mul]; omega
  rw [e]
  exact h2
theorem vO.one {x:α} {cs:List Value} {b1:List Nat} (hO:O w cs x b1) (hc:PG w b o cs):vO O sz w b o [x] b1:=⟨cs,b1,[],hO,hc,by simp,rfl⟩
/-- It reads: elements by their index. -/
theorem vO.reads {R:Rd α} {B:Nat} (hR:Gives O R B) :∀{xs:List α} {o:Nat} {bs:List Nat},vO O sz w b o xs bs→(∀k∈bs,k < B)→
  ∀i x,xs[i]? = some x→∃cs,R w B cs x∧∀j v,cs[j]? = some v→w.cell? ⟨b,o+i * sz+j,none⟩=some v
 |[],_,_,_,_,i,x,hx=>by simp at hx
 |y :: ys,o,_,⟨cs,b1,b2,hO,hc,e,hr⟩,hlt,i,x,hx=>by
  subst e
  cases i with
  |zero=>
   have hx:y=x:=by simpa using hx
   subst hx
   exact ⟨cs,hR _ _ _ _ hO (fun k hk=>hlt k (by simp [hk])),fun j v hj=>by simpa using (hc j v hj).1⟩
  |succ i=>
   obtain ⟨cs',h1,h2⟩:=vO.reads hR hr (fun k hk=>hlt k (by simp [hk])) i x (by simpa using hx)
   refine ⟨cs',h1,fun j v hj=>?_⟩
   have:=h2 j v hj
   have e:o+sz+i * sz+j=o+(i+1) * sz+j:=by simp [Nat.add_mul]; omega
   rw [e] at this
   exact this
theorem iV.len (h:iV O sz w A n xs bs):n=xs.length:=h.1
theorem iV.keep (ok:BM O sz) (hb :∀k∈bs,w'.heap[k]? = w.heap[k]?) (h:iV O sz w A n xs bs):iV O sz w' A n xs bs:=by
 refine ⟨h.1,?_⟩
 rcases h.2 with h2|⟨b,o,b2,e,e2,h2⟩
 ·exact .inl h2
 ·subst e2
  exact .inr ⟨b,o,b2,e,rfl,h2.keep ok (hb b (by simp)) (fun k hk=>hb k (by simp [hk]))⟩
theorem iV.reads {R:Rd α} {B:Nat} (hR:Gives O R B) (h:iV O sz w A n xs bs) (hlt :∀k∈bs,k < B):aY R sz w B A n xs:=by
 refine ⟨h.1,fun hn=>?_⟩
 rcases h.2 with ⟨e,_⟩|⟨b,o,b2,e,e2,h2⟩
 ·have:=h.1; rw [e] at this; simp at this; omega
 ·subst e2
  exact ⟨b,o,e,hlt b (by simp),h2.reads hR (fun k hk=>hlt k (by simp [hk]))⟩
theorem yM (B:Nat):Gives mF nR B:=fun _ _ _ _ h _=>h.1
end
def dD (w:World) (g:Nat) (t:TypeId) (cs:Array Value):Prop:=w.heap[g]? = some (.cells cs t (0,0))
section
variable {w w' : World} {g : Nat} {t : TypeId} {cs : Array Value}
theorem dD.lt (h:dD w g t cs):g < w.heap.size:=by
 rcases Nat.lt_or_ge g w.heap.size with hlt|hge
 ·exact hlt
 ·unfold dD at h; rw [Array.getElem?_eq_none hge] at h; cases h
theorem dD.cell (h:dD w g t cs) (i:Nat):w.cell? ⟨g,i,none⟩=cs[i]?:=cell_of_row w g i cs t (0,0) h
theorem dD.frozen (h:dD w g t cs) (i:Nat):w.frozen? ⟨g,i,none⟩=false:=by
 unfold dD at h
 simp [World.frozen?,h]
theorem dD.new (w:World) (t:TypeId) (cs:Array Value):dD (w.alloc (.cells cs t)) w.heap.size t cs:=heap_alloc_new w _
theorem dD.alloc (h:dD w g t cs) (o:Obj):dD (w.alloc o) g t cs:=(Below.heap_alloc w o g h.lt).trans h
theorem dD.drew (h:dD w g t cs):dD w.drew g t cs:=h
theorem dD.aXr (h:dD w g t cs) (i:Nat) (u:Value):dD (w.setCell ⟨g,i,none⟩ u) g t (cs.setIfInBounds i u):=by
 unfold dD at h ⊢
 simp [World.setCell,Array.getElem?_modify,h]
theorem dD.far (h:dD w g t cs) {p:Addr} (hp:g ≠ p.block) (u:Value):dD (w.setCell p u) g t cs:=(Below.heap_setCell w p u g hp).trans h
theorem dD.below {B:Nat} (h:dD w g t cs) (hb:Below B w w') (hg:g < B):dD w' g t cs:=(hb.block g hg).trans h
theorem dD.aKj (h:dD w g t cs) {o:Nat} {l:List Value} (hl :∀j v,l[j]? = some v→cs[o+j]? = some v):PG w g o l:=fun j v hj=>
 ⟨by rw [h.cell]; exact hl j v hj,h.frozen _⟩
end
theorem PG.nil {w:World} {b o:Nat} : PG w b o []:=fun j v hj=>by simp at hj
theorem PG.cons {w:World} {b o:Nat} {v:Value} {vs:List Value} (h1:w.cell? ⟨b,o,none⟩=some v) (h2:w.frozen? ⟨b,o,none⟩=false) (h:PG w b (o+1) vs):PG w b o (v :: vs):=fun j u hj=>by
  cases j with
  | zero => have hj : v = u := by simpa using hj
            subst hj; exact ⟨h1,h2⟩
  | succ j => have := h j u (by simpa using hj)
              rwa [show o+1+j=o+(j+1) by omega] at this
theorem PG.ZA {w w':World} {b o:Nat} {cs:List Value} (h:PG w b o cs) (hk :∀j,j < cs.length→w'.cell? ⟨b,o+j,none⟩=w.cell? ⟨b,o+j,none⟩∧w'.frozen? ⟨b,o+j,none⟩=w.frozen? ⟨b,o+j,none⟩):PG w' b o cs:=fun j v hj=>by
 obtain ⟨e1,e2⟩:=hk j (lt_of_some hj)
 rw [e1,e2]
 exact h j v hj
/-- The cells of an element are stored one behind the other. -/
def Jg (w:World) (b:Nat):Nat→List Value→World
 |_,[]=>w
 |o,v :: vs=>Jg (w.setCell ⟨b,o,none⟩ v) b (o+1) vs
theorem aa_ {b:Nat} :∀{vs:List Value} {w:World} {o k:Nat},k ≠ b→(Jg w b o vs).heap[k]? = w.heap[k]?
 |[],_,_,_,_=>rfl
 |v :: vs,w,o,k,h=>(aa_ (vs:=vs) h).trans (Below.heap_setCell w ⟨b,o,none⟩ v k h)
theorem Qx {b:Nat} {a:Addr} :∀{vs:List Value} {w:World} {o:Nat},(Jg w b o vs).frozen? a=w.frozen? a
 |[],_,_=>rfl
 |v :: vs,w,o=>(Qx (vs:=vs)).trans (World.frozen?_setCell _ _ _ _)
theorem TY {b:Nat} {p:Nat} :∀{vs:List Value} {w:World} {o:Nat},p < o ∨ o+vs.length≤p→(Jg w b o vs).cell? ⟨b,p,none⟩=w.cell? ⟨b,p,none⟩
 |[],_,_,_=>rfl
 |v :: vs,w,o,h=>by
  have h1:(Jg (w.setCell ⟨b,o,none⟩ v) b (o+1) vs).cell? ⟨b,p,none⟩=(w.setCell ⟨b,o,none⟩ v).cell? ⟨b,p,none⟩:=TY (by simp at h; omega)
  refine h1.trans (World.cell?_setCell_other _ _ _ _ (fun e=>?_))
  injection e with _ e2
  simp at h
  omega
theorem Gm {b:Nat} :∀{vs:List Value} {w:World} {o:Nat},(∀j,j < vs.length→∃u,w.cell? ⟨b,o+j,none⟩=some u)→(∀j,j < vs.length→w.frozen? ⟨b,o+j,none⟩=false)→PG (Jg w b o vs) b o vs
 |[],_,_,_,_=>PG.nil
 |v :: vs,w,o,h,hf=>by
  obtain ⟨u,hu⟩:=h 0 (by simp)
  refine PG.cons ?_ ?_ (Gm (fun j hj=>?_) (fun j hj=>?_))
  ·have h1:(Jg (w.setCell ⟨b,o,none⟩ v) b (o+1) vs).cell? ⟨b,o,none⟩=(w.setCell ⟨b,o,none⟩ v).cell? ⟨b,o,none⟩:=TY (by omega)
   exact h1.trans (World.cell?_setCell_same _ _ _ hu)
  ·have h0:w.frozen? ⟨b,o,none⟩=false:=by simpa using hf 0 (by simp)
   exact Qx.trans h0
  ·obtain ⟨u',hu'⟩:=h (j+1) (by simp; omega)
   rw [show o+(j+1)=o+1+j by omega] at hu'
   refine ⟨u',(World.cell?_setCell_other _ _ _ _ (fun e=>?_)).trans hu'⟩
   injection e with _ e2
   omega
  ·have:=hf (j+1) (by simp; omega)
   rw [show o+(j+1)=o+1+j by omega] at this
   exact (World.frozen?_setCell _ _ _ _).trans this
section
variable {α : Type} {O : Ow α} {sz : Nat} {w w' : World} {b o n : Nat}
theorem vO.ZA (ok:BM O sz) :∀{xs:List α} {o:Nat} {bs:List Nat},(∀p,o≤p→p < o+xs.length * sz→w'.cell? ⟨b,p,none⟩=w.cell? ⟨b,p,none⟩∧w'.frozen? ⟨b,p,none⟩=w.frozen? ⟨b,p,none⟩)→
  (∀k∈bs,w'.heap[k]? = w.heap[k]?)→vO O sz w b o xs bs→vO O sz w' b o xs bs
 |[],_,_,_,_,h=>h
 |x :: xs,o,_,hb,hbs,⟨cs,b1,b2,hO,hc,e,hr⟩=>by
  subst e
  have hl:=ok.len hO
  have e:(x :: xs).length * sz=xs.length * sz+sz:=by simp [Nat.add_mul]
  exact ⟨cs,b1,b2,ok.keep (fun k hk=>hbs k (by simp [hk])) hO,hc.ZA (fun j hj=>hb _ (by omega) (by omega)),rfl,
   vO.ZA ok (fun p h1 h2=>hb p (by omega) (by omega)) (fun k hk=>hbs k (by simp [hk])) hr⟩
theorem vO.Jg (ok:BM O sz) {xs:List α} {o:Nat} {bs:List Nat} {p:Nat} {vs:List Value} (h:vO O sz w b o xs bs) (hb:b ∉ bs) (hp:p+vs.length≤o ∨ o+xs.length * sz≤p) :
  vO O sz (Jg w b p vs) b o xs bs:=
 h.ZA ok (fun q h1 h2=>⟨TY (by omega),Qx⟩) (fun k hk=>aa_ (fun e=>hb (by rw [← e]; exact hk)))
end
theorem ajY {P:Program} (t e:TypeId) (i:TypeInfo) (z:Value) (ht:P.underlying t=some (.slice e)) (hi:P.info? e=some i) (hz:i.zero=some z)
  (kl kc:IntKind) (n c:Nat) (hnc:n≤c) (hbytes:i.bytes * c≤281474976710656) (h63:c≤9223372036854775807) (w:World) :
  (Instr.makeSlice t (.int kl (n:Int)) (.int kc (c:Int))).run P w=.ok (.slice (some ⟨w.heap.size,0,none⟩) n c) (w.alloc (.cells (madeCells z.cells (c * i.size)) e)):=by
 have hb:(i.bytes:Int) * (c:Int)≤281474976710656:=by
  have h:((i.bytes * c:Nat):Int)≤281474976710656:=by omega
  rwa [Int.natCast_mul] at h
 have hr:=run_make (P:=P) w t e i z ht hi hz kl kc n c (by omega) (by omega) hb (by omega)
 simp only [Int.toNat_natCast] at hr
 exact hr
theorem afe {P:Program} (t e:TypeId) {z:Value} {sz bb:Nat} (ht:P.underlying t=some (.slice e)) (hinfo:(P.info? e).map (fun i=>(i.zero,i.size,i.bytes))=some (some z,sz,bb))
  (n:Nat) (hb:bb * n≤281474976710656) (hn:n≤4294967296) (w:World) :
  (Instr.makeSlice t (.int .i64 (n:Int)) (.int .i64 (n:Int))).run P w=.ok (.slice (some ⟨w.heap.size,0,none⟩) n n) (w.alloc (.cells (madeCells z.cells (n * sz)) e)):=by
 obtain ⟨i0,hi,hz0,hz1,hz2⟩:=info_parts hinfo
 have h:=ajY t e i0 z ht hi hz0 .i64 .i64 n n (Nat.le_refl _) (by rw [hz2]; exact hb) (by omega) w
 rw [hz1] at h
 exact h
theorem WI (z:Array Value) (n:Nat):(madeCells z n).size=n:=by simp [madeCells]
def KP {α:Type} (O:Ow α) (sz:Nat) (w:World) (A:Option Addr) (done rest:List α) (bs:List Nat):Prop:=
 (done=[]∧rest=[]∧bs=[]) ∨∃b o b1 b2,A=some ⟨b,o,none⟩∧bs=b :: (b1 ++ b2)∧vO O sz w b o done b1∧vO O sz w b (o+done.length * sz) rest b2
section
variable {α : Type} {O : Ow α} {sz : Nat} {w w' : World} {A : Option Addr} {n : Nat} {done rest xs : List α} {x x' : α} {bs : List Nat}
theorem iV.mid (h:iV O sz w A n xs bs):KP O sz w A [] xs bs:=by
 rcases h.2 with ⟨e1,e2⟩|⟨b,o,b2,e1,e2,h⟩
 ·exact .inl ⟨rfl,e1,e2⟩
 ·exact .inr ⟨b,o,[],b2,e1,by simpa using e2,rfl,by simpa using h⟩
theorem KP.whole (h:KP O sz w A done [] bs) (hn:n=done.length):iV O sz w A n done bs:=by
 refine ⟨hn,?_⟩
 rcases h with ⟨e1,_,e2⟩|⟨b,o,b1,b2,e1,e2,h,h2⟩
 ·exact .inl ⟨e1,e2⟩
 ·have h2:b2=[]:=h2
  subst h2
  exact .inr ⟨b,o,b1,e1,by simpa using e2,h⟩
/-- The element that stands next: its cells, its own blocks, and how the step is closed when it has been written. -/
theorem KP.next (h:KP O sz w A done (x :: rest) bs) :∃b o cs b1 bx b2,A=some ⟨b,o,none⟩∧bs=b :: (b1 ++ (bx ++ b2))∧O w cs x bx∧PG w b (o+done.length * sz) cs∧
  vO O sz w b o done b1∧vO O sz w b (o+done.length * sz+sz) rest b2:=by
 rcases h with ⟨_,e,_⟩|⟨b,o,b1,b2,e1,e2,h1,cs,bx,b3,hO,hc,e3,h2⟩
 ·cases e
 ·subst e3
  exact ⟨b,o,cs,b1,bx,b3,e1,e2,hO,hc,h1,h2⟩
theorem KP.step {b o:Nat} {cs:List Value} {b1 bx b2:List Nat} (hA:A=some ⟨b,o,none⟩) (h1:vO O sz w b o done b1) (hO:O w cs x' bx) (hc:PG w b (o+done.length * sz) cs)
  (h2:vO O sz w b (o+done.length * sz+sz) rest b2):KP O sz w A (done ++ [x']) rest (b :: (b1 ++ (bx ++ b2))):=by
 refine .inr ⟨b,o,b1 ++ bx,b2,hA,by simp,vO.append h1 (vO.one hO hc),?_⟩
 have e:o+(done ++ [x']).length * sz=o+done.length * sz+sz:=by simp [Nat.add_mul]; omega
 rw [e]
 exact h2
end
def marks (k n:Nat):List Int:=(List.range n).map fun i=>((k+i:Nat):Int)
theorem YH (k n:Nat):(marks k n).length=n:=by simp [marks]
theorem asI (k n:Nat):marks k (n+1)=marks k n ++ [((k+n:Nat):Int)]:=by simp [marks,List.range_succ]
theorem SC {α:Type} {l:List α} {k:Nat} {x:α} (h:l[k]? = some x):l.drop k=x :: l.drop (k+1):=by
 have hl:=lt_of_some h
 rw [List.drop_eq_getElem_cons hl]
 congr 1
 rw [List.getElem?_eq_getElem hl] at h
 injection h
theorem axu {k n i:Nat} (hi:i < n):(marks k n)[i]? = some ((k+i:Nat):Int):=by simp [marks,hi]
end
section
open Go.RowKit
theorem yN (A:Option Addr) (n c k0:Nat) (xs:List Int) (bs:List Nat) (w:World) (hx:iV mF 1 w A n xs bs) (hnd:bs.Nodup) (hn:n≤4294967296) (hk0:k0≤4611686018427387904) :
  Calls Tryz.prog 70 #[.slice A n c,.int .i64 k0] w fun e w'=>e=.returned (.int .i64 ((k0+n:Nat):Int))∧iV mF 1 w' A n (marks k0 n) bs∧Only bs w w':=by
 have lx:=Lib.hid hx.len
 have hmid:=Lib.hid hx.mid
 clear hx
 go_enter Tryz.func70,Tryz.ntmps70
 go_wp2
 go_loopw [1,5] (fun kk i wr=>∃k:Nat,k≤n∧i=.int .i64 k∧kk=.int .i64 ((k0:Int)+k)∧Only bs w wr∧Hid (KP mF 1 wr A (marks k0 k) (xs.drop k) bs)) (fun _ i _=>n - (intOf i).toNat)
 case atStart=>exact ⟨0,by omega,rfl,by simp,Only.refl _ _,hmid.out⟩
 case round=>
  obtain ⟨k,hk,rfl,rfl,ho,hm⟩:=hrel
  by_cases hlt:k < n
  ·obtain ⟨x,hxk⟩ :∃x,xs[k]? = some x:=⟨_,List.getElem?_eq_getElem (by have:=lx.out; omega)⟩
   have hm:=hm.out
   rw [SC hxk] at hm
   obtain ⟨b,o,cs,b1,bx,b2,rfl,hbs,hO,hc,h1,h2⟩:=hm.next
   obtain ⟨rfl,rfl⟩:=hO
   rw [YH,Nat.mul_one] at hc h2
   obtain ⟨hc1,hc2⟩:=hc 0 _ rfl
   rw [Nat.add_zero] at hc1 hc2
   have HN:=Lib.hid hbs
   have Hx:=Lib.hid hxk
   have H1:=Lib.hid h1
   have H2:=Lib.hid h2
   clear hbs hxk h1 h2 hm hc
   go_wp2
   go_roundw
   case rel=>
    have hnd':=hnd
    rw [HN.out] at hnd'
    have hb:b ∉ b1∧b ∉ b2:=by simpa using (List.nodup_cons.1 hnd').1
    have hlen:(marks k0 k).length=k:=YH _ _
    refine ⟨k+1,by omega,by go_num,by go_num,ho.setCell (p:=⟨b,o+k,none⟩) (by rw [HN.out]; simp) _,?_⟩
    rw [asI,HN.out]
    refine KP.step (o:=o) rfl (vO.Jg gW (vs:=[.int .i64 ((k0:Int)+k)]) (p:=o+k) H1.out hb.1 (Or.inr (by omega))) ⟨rfl,rfl⟩ ?_ ?_
    ·rw [hlen,Nat.mul_one]
     exact Gm (vs:=[.int .i64 ((k0:Int)+k)]) (fun j hj=>⟨_,by simp at hj; subst hj; exact hc1⟩) (fun j hj=>by simp at hj; subst hj; exact hc2)
    ·rw [hlen,Nat.mul_one]
     exact vO.Jg gW (vs:=[.int .i64 ((k0:Int)+k)]) (p:=o+k) H2.out hb.2 (Or.inl (by simp))
   case measure=>simp [intOf]; omega
  ·obtain rfl:n=k:=by omega
   have hm:=hm.out
   rw [List.drop_of_length_le (by have:=lx.out; omega)] at hm
   have Hm:=Lib.hid (hm.whole (n:=n) (YH _ _).symm)
   clear hm
   go_wp2
   go_ret
   exact ⟨rfl,Hm.out,ho⟩
end
section
open Go.RowKit
/-- A slice value that reads as a list. -/
def RdS {α:Type} (R:Rd α) (sz:Nat) (w:World) (B:Nat) (v:Value) (xs:List α):Prop:=∃A n c,v=.slice A n c∧aY R sz w B A n xs∧n≤c∧c≤maxLen
/-- A slice value of the call's own whose blocks lie from lo to hi. -/
def OwS {α:Type} (O:Ow α) (sz:Nat) (w:World) (v:Value) (xs:List α) (lo hi:Nat):Prop:=∃A n c bs,v=.slice A n c∧iV O sz w A n xs bs∧bs.Nodup∧(∀b∈bs,lo≤b∧b < hi)∧n≤c∧c≤maxLen
/-- A struct value. -/
def RdT {α:Type} (R:Rd α) (w:World) (B:Nat) (v:Value) (x:α):Prop:=∃cs,v=.agg cs.toArray∧R w B cs x
def OwT {α:Type} (O:Ow α) (w:World) (v:Value) (x:α) (lo hi:Nat):Prop:=∃cs bs,v=.agg cs.toArray∧O w cs x bs∧bs.Nodup∧∀b∈bs,lo≤b∧b < hi
structure Qy (lo hi:Nat) (w w':World):Prop where
 os:w'.os=w.os
 tape:w'.tape=w.tape
 output:w'.output=w.output
 size:w'.heap.size=w.heap.size
 block :∀k,k < lo ∨ hi≤k→w'.heap[k]? = w.heap[k]?
section
variable {w w' w'' : World} {lo hi lo' hi' B : Nat}
theorem Only.in_ {bs:List Nat} (h:Only bs w w') (hb :∀b∈bs,lo≤b∧b < hi):Qy lo hi w w':=
 ⟨h.os,h.tape,h.output,h.size,fun k hk=>h.block k (fun hin=>by have:=hb k hin; omega)⟩
theorem Qy.below (h:Qy lo hi w w'):Below lo w w':=⟨h.os,h.tape,h.output,by rw [h.size]; exact Nat.le_refl _,fun k hk=>h.block k (.inl hk)⟩
section
variable {α : Type} {O : Ow α} {R : Rd α} {sz : Nat} {v : Value} {xs : List α} {x : α}
theorem RdT.below (ok:Sz R sz) (h:RdT R w B v x) (hb:Below B w w'):RdT R w' B v x:=let ⟨cs,e,h⟩:=h; ⟨cs,e,ok.keep (fun p hp=>hb.cell hp) h⟩
theorem RdT.more (ok:Sz R sz) (h:RdT R w B v x) {B':Nat} (hB:B≤B'):RdT R w B' v x:=let ⟨cs,e,h⟩:=h; ⟨cs,e,ok.more hB h⟩
theorem OwS.keep (ok:BM O sz) (h:OwS O sz w v xs lo hi) (hk :∀k,lo≤k→k < hi→w'.heap[k]? = w.heap[k]?):OwS O sz w' v xs lo hi:=
 let ⟨A,n,c,bs,e,h,h1,h2,r⟩:=h; ⟨A,n,c,bs,e,h.keep ok (fun k hin=>hk k (h2 k hin).1 (h2 k hin).2),h1,h2,r⟩
theorem OwS.below (ok:BM O sz) (h:OwS O sz w v xs lo hi) (hb:Below B w w') (hB:hi≤B):OwS O sz w' v xs lo hi:=h.keep ok fun k _ hk=>hb.block k (by omega)
theorem OwS.only (ok:BM O sz) (h:OwS O sz w v xs lo hi) (ho:Qy lo' hi' w w') (hd:hi≤lo' ∨ hi'≤lo):OwS O sz w' v xs lo hi:=h.keep ok fun k h1 h2=>ho.block k (by omega)
theorem OwS.reads (hR:Gives O R B) (h:OwS O sz w v xs lo hi) (hB:hi≤B):RdS R sz w B v xs:=let ⟨A,n,c,bs,e,h,h1,h2,r⟩:=h; ⟨A,n,c,e,h.reads hR (fun k hk=>by have:=h2 k hk; omega),r⟩
theorem OwT.keep (ok:BM O sz) (h:OwT O w v x lo hi) (hk :∀k,lo≤k→k < hi→w'.heap[k]? = w.heap[k]?):OwT O w' v x lo hi:=
 let ⟨cs,bs,e,h,h1,h2⟩:=h; ⟨cs,bs,e,ok.keep (fun k hin=>hk k (h2 k hin).1 (h2 k hin).2) h,h1,h2⟩
theorem OwT.below (ok:BM O sz) (h:OwT O w v x lo hi) (hb:Below B w w') (hB:hi≤B):OwT O w' v x lo hi:=h.keep ok fun k _ hk=>hb.block k (by omega)
theorem OwT.only (ok:BM O sz) (h:OwT O w v x lo hi) (ho:Qy lo' hi' w w') (hd:hi≤lo' ∨ hi'≤lo):OwT O w' v x lo hi:=h.keep ok fun k h1 h2=>ho.block k (by omega)
theorem OwT.reads (hR:Gives O R B) (h:OwT O w v x lo hi) (hB:hi≤B):RdT R w B v x:=let ⟨cs,bs,e,h,h1,h2⟩:=h; ⟨cs,e,hR _ _ _ _ h (fun k hk=>by have:=h2 k hk; omega)⟩
end
end
/-- Marks of a list whose elements take several numbers each. -/
def mkL {α:Type} (mk:Nat→α→α) (cnt:α→Nat):Nat→List α→List α
 |_,[]=>[]
 |k,x :: xs=>mk k x :: mkL mk cnt (k+cnt x) xs
def bJ {α:Type} (cnt:α→Nat) (xs:List α):Nat:=(xs.map cnt).sum
section
variable {α : Type} {mk : Nat → α → α} {cnt : α → Nat}
theorem Gn (x:α) (xs:List α):bJ cnt (x :: xs)=cnt x+bJ cnt xs:=by simp [bJ]
theorem aff (xs ys:List α):bJ cnt (xs ++ ys)=bJ cnt xs+bJ cnt ys:=by simp [bJ]
theorem JQ :∀(xs:List α) (k:Nat),(mkL mk cnt k xs).length=xs.length
 |[],_=>rfl
 |x :: xs,k=>by simp [mkL,JQ xs]
theorem agS :∀(xs ys:List α) (k:Nat),mkL mk cnt k (xs ++ ys)=mkL mk cnt k xs ++ mkL mk cnt (k+bJ cnt xs) ys
 |[],ys,k=>by simp [mkL,bJ]
 |x :: xs,ys,k=>by simp [mkL,agS xs ys,Gn,Nat.add_assoc]
theorem DZ {xs:List α} {i:Nat} {x:α} (h:xs[i]? = some x):bJ cnt (xs.take (i+1))=bJ cnt (xs.take i)+cnt x:=by
 rw [WH h,aff,Gn]; simp [bJ]
theorem EY (xs:List α) (i:Nat):bJ cnt (xs.take i)≤bJ cnt xs:=by
 have h:bJ cnt (xs.take i ++ xs.drop i)=bJ cnt xs:=by rw [List.take_append_drop]
 rw [aff] at h
 omega
theorem agT {xs:List α} {i k:Nat} {x:α} (h:xs[i]? = some x):mkL mk cnt k (xs.take (i+1))=mkL mk cnt k (xs.take i) ++ [mk (k+bJ cnt (xs.take i)) x]:=by
 rw [WH h,agS]; rfl
theorem agx :∀{xs:List α} {i k:Nat} {x:α},xs[i]? = some x→(mkL mk cnt k xs)[i]? = some (mk (k+bJ cnt (xs.take i)) x)
 |[],i,k,x,h=>by simp at h
 |y :: ys,0,k,x,h=>by
  have:y=x:=by simpa using h
  subst this
  simp [mkL,bJ]
 |y :: ys,i+1,k,x,h=>by
  have:=agx (k:=k+cnt y) (x:=x) (xs:=ys) (i:=i) (by simpa using h)
  simp only [mkL,List.getElem?_cons_succ,List.take_succ_cons,Gn]
  rw [this,Nat.add_assoc]
end
/-- An element at b, p is being written: its own cells, and the blocks of bs. -/
structure Touch (b p sz:Nat) (bs:List Nat) (w w':World):Prop where
 os:w'.os=w.os
 tape:w'.tape=w.tape
 output:w'.output=w.output
 size:w'.heap.size=w.heap.size
 cell :∀q,q < p ∨ p+sz≤q→w'.cell? ⟨b,q,none⟩=w.cell? ⟨b,q,none⟩
 frozen :∀q,w'.frozen? ⟨b,q,none⟩=w.frozen? ⟨b,q,none⟩
 block :∀k,k ≠ b→k ∉ bs→w'.heap[k]? = w.heap[k]?
section
variable {w w' w'' : World} {b p sz : Nat} {bs bs' : List Nat}
theorem Touch.refl:Touch b p sz bs w w:=⟨rfl,rfl,rfl,rfl,fun _ _=>rfl,fun _=>rfl,fun _ _ _=>rfl⟩
theorem Touch.trans (h:Touch b p sz bs w w') (h':Touch b p sz bs w' w''):Touch b p sz bs w w'':=
 ⟨h'.os.trans h.os,h'.tape.trans h.tape,h'.output.trans h.output,h'.size.trans h.size,fun q hq=>(h'.cell q hq).trans (h.cell q hq),fun q=>(h'.frozen q).trans (h.frozen q),fun k h1 h2=>(h'.block k h1 h2).trans (h.block k h1 h2)⟩
theorem Touch.set (h:Touch b p sz bs w w') {j:Nat} (h1:p≤j) (h2:j < p+sz) (v:Value):Touch b p sz bs w (w'.setCell ⟨b,j,none⟩ v):=
 h.trans ⟨rfl,rfl,rfl,by simp [World.setCell],fun q hq=>World.cell?_setCell_other _ _ _ _ (fun e=>by injection e with _ e2; omega),fun q=>World.frozen?_setCell _ _ _ _,fun k hk _=>Below.heap_setCell _ _ _ _ hk⟩
theorem Touch.only (h:Touch b p sz bs w w') (ho:Only bs' w' w'') (hb:b ∉ bs') (hs :∀k∈bs',k∈bs):Touch b p sz bs w w'':=
 h.trans ⟨ho.os,ho.tape,ho.output,ho.size,fun q _=>World.cell?_of_block (w:=w') (a:=⟨b,q,none⟩) (ho.block b hb),fun q=>World.frozen?_of_block (w:=w') (a:=⟨b,q,none⟩) (ho.block b hb),fun k _ hk=>ho.block k (fun hin=>hk (hs k hin))⟩
theorem Touch.bK (h:Touch b p sz bs w w'):Only (b :: bs) w w':=⟨h.os,h.tape,h.output,h.size,fun k hk=>h.block k (by simp at hk; exact hk.1) (by simp at hk; exact hk.2)⟩
end
/-- One result, or a result and codes. -/
def aPC (P:Value→Prop) (e:Ending):Prop:=∃v,e=.returned v∧P v
end
section
open Go.RowKit
theorem dD.only {w w':World} {g lo hi:Nat} {t:TypeId} {cs:Array Value} (h:dD w g t cs) (ho:Qy lo hi w w') (hg:g < lo ∨ hi≤g):dD w' g t cs:=(ho.block g hg).trans h
end
section
open Go.RowKit
/-- A frame of n slots. -/
def Fr (n:Nat) (f:Nat→Value):Act:=⟨((List.range n).map f).toArray,[]⟩
def up (f:Nat→Value) (d:Nat) (v:Value):Nat→Value:=fun k=>bif Nat.beq k d then v else f k
def ED (f:Nat→Value):Option Tmp→Value→Nat→Value
 |some d,v=>up f d v
 |none,_=>f
def ev (f:Nat→Value):Operand→Value
 |.tmp t=>f t
 |.const v=>v
 |.global g=>.pointer (some ⟨g,0,none⟩)
 |.func g=>.func (.func g) #[] #[]
def asJ (n:Nat):Operand→Bool
 |.tmp t=>Nat.blt t n
 |_=>true
def afU (n:Nat) (ops:Array Oper) (o:Oper):Bool:=
 o.op.operands.toList.all (asJ n) && (match o.op with|.select ..=>false|_=>true) &&
 (match o.guard with|none=>true|some (j,_)=>match (ops[j]?).bind (·.dst) with|some d=>Nat.blt d n|none=>true)
def aGj (f:Nat→Value) (ops:Array Oper) (j:Nat):Option Bool:=
 match (ops[j]?).bind (·.dst) with
 |some d=>match f d with|.bool b=>some b|_=>none
 |none=>none
def gV (f:Nat→Value) (ops:Array Oper) (o:Oper):Bool:=
 match o.guard with
 |none=>true
 |some (j,want)=>aGj f ops j==some want
theorem aKk {n:Nat} {f:Nat→Value} {t:Nat} (h:t < n):(Fr n f).tmps[t]? = some (f t):=by simp [Fr,h]
theorem ang {n:Nat} {f:Nat→Value} {x:Operand} (h:asJ n x=true):(Fr n f).eval x=ev f x:=by
 cases x with
 |tmp t=>
  have ht:t < n:=by simpa [asJ] using h
  simp [Act.eval,Fr,ev,ht]
 |_=>rfl
theorem Nw {n:Nat} {f:Nat→Value} {d:Option Tmp} {v:Value} : (Fr n f).put d v=Fr n (ED f d v):=by
 cases d with
 |none=>rfl
 |some d=>
  simp only [Act.put,Fr,ED,Act.mk.injEq,and_true]
  apply Array.ext_getElem?
  intro i
  simp only [Array.getElem?_setIfInBounds,List.size_toArray,List.length_map,List.length_range,List.getElem?_toArray,List.getElem?_map]
  by_cases hi:i < n
  ·by_cases hd:d=i
   ·subst hd; simp [hi,up]
   ·have h1:i.beq d=false:=by cases h:i.beq d with|false=>rfl|true=>exact absurd (Nat.eq_of_beq_eq_true h).symm hd
    simp [hi,hd,up,h1]
  ·by_cases hd:d=i
   ·subst hd; simp [hi]
   ·simp [hd,hi]
theorem MJ {n:Nat} {f:Nat→Value} {ops:Array Oper} {o:Oper} (h:afU n ops o=true):execOp (Fr n f).eval o=execOp (ev f) o:=by
 simp only [afU,Bool.and_eq_true,List.all_eq_true] at h
 refine execOp_congr o (fun cs b e=>?_) (fun x hx=>ang (h.1.1 x (by simpa using hx)))
 have:=h.1.2
 rw [e] at this
 cases this
theorem vW {n:Nat} {f:Nat→Value} {ops:Array Oper} {o:Oper} (h:afU n ops o=true):Region.wanted o (yielded ops (Fr n f).tmps)=gV f ops o:=by
 simp only [afU,Bool.and_eq_true] at h
 have h3:=h.2
 unfold Region.wanted gV
 cases hg:o.guard with
 |none=>rfl
 |some p=>
  obtain ⟨j,want⟩:=p
  rw [hg] at h3
  simp only at h3 ⊢
  congr 1
  unfold yielded aGj
  cases hd:(ops[j]?).bind (·.dst) with
  |none=>rfl
  |some d=>
   rw [hd] at h3
   have hlt:d < n:=by simpa using h3
   simp only [Option.bind_some,aKk hlt]
   cases f d <;> rfl
section
variable {P : Program} {ops : Array Oper}
/-- The operations one by one, in every world of the class C. -/
def RQ (P:Program) (ops:Array Oper) (C:World→Prop) (Q:(Nat→Value)→Prop):List Oper→(Nat→Value)→Prop
 |[],f=>Q f
 |o :: rest,f=>∃v,((gV f ops o=true∧∀w,C w→Oper.quietUpon P C w v ((execOp (ev f) o).run P w)) ∨ (gV f ops o=false∧v=undef))∧RQ P ops C Q rest (ED f o.dst v)
theorem agU {n:Nat} {C:World→Prop} {Q:(Nat→Value)→Prop} :∀{l:List Oper} {f:Nat→Value},(∀o∈l,afU n ops o=true)→RQ P ops C Q l f→wpQuiet P ops C (fun a=>∃f',a=Fr n f'∧Q f') l (Fr n f)
 |[],f,_,h=>⟨f,rfl,h⟩
 |o :: rest,f,hin,⟨v,h1,h2⟩=>by
  have ho:=hin o (by simp)
  have ih:=agU (fun o' h'=>hin o' (by simp [h'])) h2
  unfold wpQuiet
  rw [vW ho]
  rcases h1 with ⟨hw,h1⟩|⟨hw,rfl⟩
  ·rw [hw,if_pos rfl]
   exact ⟨v,fun w hw'=>by unfold Oper.quietAt; rw [MJ ho]; exact h1 w hw',by rw [Nw]; exact ih⟩
  ·rw [hw,if_neg (by decide),Nw]
   exact ih
theorem aak {C:World→Prop} {Q:Act→Prop} {Q':Exit→Act→World→Prop} (hQ :∀a w,C w→Q a→Q' .normal a w) :∀{l:List Oper} {a:Act} {w:World},C w→wpQuiet P ops C Q l a→wpList P ops Q' l a w
 |[],a,w,hw,h=>hQ a w hw h
 |o :: rest,a,w,hw,h=>by
  unfold wpQuiet at h
  unfold wpList
  split
  ·rename_i hg
   rw [if_pos hg] at h
   exact .inl (Oper.wp_of_quiet hw (fun a' w' hw' h'=>aak hQ hw' h') h)
  ·rename_i hg
   rw [if_neg hg] at h
   exact aak hQ hw h
def abb (n:Nat) (l:List Oper):Bool:=l.all (afU n l.toArray)
theorem aIY {id n:Nat} {l:List Oper} {f:Nat→Value} {w:World} {Q:Exit→Act→World→Prop} (C:World→Prop) (hC:C w) (hin:abb n l=true)
  (h:RQ P l.toArray C (fun f'=>∀w',C w'→Q .normal (Fr n f') w') l f):(Code.region id l.toArray false).wp P Q (Fr n f) w:=by
 refine wp_region_lit (aak (Q:=fun a=>∃f',a=Fr n f'∧∀w',C w'→Q .normal (Fr n f') w') ?_ hC (agU (fun o ho=>List.all_eq_true.1 hin o ho) h))
 rintro a w' hw' ⟨f',rfl,hq⟩
 exact hq w' hw'
theorem asK {id n:Nat} {l:List Oper} {f:Nat→Value} {w:World} {Q:Exit→Act→World→Prop} (C:World→Prop) (hC:C w.drew) (hm:P.follows .mixedOrders=true) (hin:(abb n l && Region.lexB .any l.toArray)=true)
  (h:RQ P l.toArray C (fun f'=>∀w',C w'→Q .normal (Fr n f') w') l f):(Code.region id l.toArray true).wp P Q (Fr n f) w:=by
 simp only [Bool.and_eq_true] at hin
 refine wp_region_quiet (C:=C) hm hin.2 hC ?_
 have h1:=agU (n:=n) (fun o ho=>List.all_eq_true.1 hin.1 o ho) h
 have mono :∀(l':List Oper) (a:Act),wpQuiet P l.toArray C (fun a=>∃f',a=Fr n f'∧∀w',C w'→Q .normal (Fr n f') w') l' a→wpQuiet P l.toArray C (fun a'=>∀w',C w'→Q .normal a' w') l' a:=by
  intro l'
  induction l' with
  |nil=>rintro a ⟨f',rfl,hq⟩; exact hq
  |cons o rest ih=>
   intro a h
   unfold wpQuiet at h ⊢
   split
   ·rename_i hg; rw [if_pos hg] at h; exact Oper.quiet_mono (fun a=>ih a) h
   ·rename_i hg; rw [if_neg hg] at h; exact ih _ h
 exact mono l (Fr n f) h1
/-- What one operation comes to in one world. -/
def OpX (P:Program) (K:Value→World→Prop):Result Next→Prop
 |.ok (.value v) w'=>K v w'
 |.ok .skip w'=>K undef w'
 |.ok (.enter g args) w'=>Calls P g args w' fun e w''=>∃v,e=.returned v∧K v w''
 |_=>False
def RL (P:Program) (ops:Array Oper) (Q:(Nat→Value)→World→Prop):List Oper→(Nat→Value)→World→Prop
 |[],f,w=>Q f w
 |o :: rest,f,w=>(gV f ops o=true∧OpX P (fun v w'=>RL P ops Q rest (ED f o.dst v) w') ((execOp (ev f) o).run P w)) ∨ (gV f ops o=false∧RL P ops Q rest (ED f o.dst undef) w)
theorem anh {o:Oper} {a:Act} {K:Act→World→Prop} {Q:Exit→Act→World→Prop} {r:Result Next} (h:OpX P (fun v w'=>K (a.put o.dst v) w') r):o.upon P a K Q r:=by
 cases r with
 |ok n w'=>
  cases n <;> simp only [OpX] at h <;> simp only [Oper.upon] <;> try exact h
  case enter g args=>exact h.mono fun e w'' ⟨v,he,hk⟩=>by subst he; exact hk
 |halt x w'=>simp only [OpX] at h
theorem ani {n:Nat} {Q:(Nat→Value)→World→Prop} {Q':Exit→Act→World→Prop} (hQ :∀f w,Q f w→Q' .normal (Fr n f) w) :∀{l:List Oper} {f:Nat→Value} {w:World},(∀o∈l,afU n ops o=true)→RL P ops Q l f w→wpList P ops Q' l (Fr n f) w
 |[],f,w,_,h=>hQ f w h
 |o :: rest,f,w,hin,h=>by
  have ho:=hin o (by simp)
  unfold wpList
  rw [vW ho]
  rcases h with ⟨hw,h⟩|⟨hw,h⟩
  ·rw [hw,if_pos rfl]
   left
   unfold Oper.wp
   rw [MJ ho]
   refine anh ?_
   have e:(fun v w'=>RL P ops Q rest (ED f o.dst v) w')=fun v w'=>RL P ops Q rest (ED f o.dst v) w':=rfl
   revert h
   generalize (execOp (ev f) o).run P w=r
   intro h
   have key :∀v w',RL P ops Q rest (ED f o.dst v) w'→wpList P ops Q' rest ((Fr n f).put o.dst v) w':=fun v w' h'=>by
    rw [Nw]; exact ani hQ (fun o' h''=>hin o' (by simp [h''])) h'
   cases r with
   |ok nx w'=>
    cases nx <;> simp only [OpX] at h ⊢ <;> try exact key _ _ h
    case enter g args=>exact h.mono fun e w'' ⟨v,he,hk⟩=>⟨v,he,key _ _ hk⟩
   |halt x w'=>simp only [OpX] at h
  ·rw [hw,if_neg (by decide),Nw]
   exact ani hQ (fun o' h'=>hin o' (by simp [h'])) h
theorem bF {id n:Nat} {l:List Oper} {f:Nat→Value} {w:World} {Q:Exit→Act→World→Prop} (hin:abb n l=true)
  (h:RL P l.toArray (fun f' w'=>Q .normal (Fr n f') w') l f w):(Code.region id l.toArray false).wp P Q (Fr n f) w:=
 wp_region_lit (ani (fun f' w' h'=>h') (fun o ho=>List.all_eq_true.1 hin o ho) h)
end
end
section
open Go.RowKit
section
variable {P : Program} {ops : Array Oper} {C : World → Prop} {f : Nat → Value} {rest : List Oper}
/-- The operation o yields v in every world of the class, and leaves it. -/
def Y (P:Program) (C:World→Prop) (f:Nat→Value) (o:Oper) (v:Value):Prop:=∀w,C w→(execOp (ev f) o).run P w=.ok (.value v) w
def l7 (C:World→Prop) (A:Addr) (v:Value):Prop:=∀w,C w→w.cell? A=some v
theorem cu {w:World} {A:Addr} {v:Value} (h:w.cell? A=some v):l7 (· = w) A v:=fun _ e=>by rw [e]; exact h
theorem bV {w:World} {A:Addr} {v:Value} (h:w.cell? A=some v):l7 (Below w.heap.size w) A v:=fun _ e=>(e.cell (World.block_lt_of_cell? w A h)).trans h
theorem RQ.y {Q:(Nat→Value)→Prop} {o:Oper} {v:Value} (hg:gV f ops o=true) (hy:Y P C f o v) (h:RQ P ops C Q rest (ED f o.dst v)):RQ P ops C Q (o :: rest) f:=
 ⟨v,.inl ⟨hg,fun w hw=>by rw [hy w hw]; exact ⟨rfl,rfl⟩⟩,h⟩
theorem RQ.skip {Q:(Nat→Value)→Prop} {o:Oper} (hg:gV f ops o=false) (h:RQ P ops C Q rest (ED f o.dst undef)):RQ P ops C Q (o :: rest) f:=⟨undef,.inr ⟨hg,rfl⟩,h⟩
theorem RQ.nil {Q:(Nat→Value)→Prop} (h:Q f):RQ P ops C Q [] f:=h
theorem RL.y {Q:(Nat→Value)→World→Prop} {w:World} {o:Oper} {v:Value} (hg:gV f ops o=true) (hy:Y P (· = w) f o v) (h:RL P ops Q rest (ED f o.dst v) w):RL P ops Q (o :: rest) f w:=
 .inl ⟨hg,by rw [hy w rfl]; exact h⟩
theorem RL.nil {Q:(Nat→Value)→World→Prop} {w:World} (h:Q f w):RL P ops Q [] f w:=h
variable {d : Option Tmp} {ty : TypeId} {pos : String} {af : Array Edge} {g : Option (Nat × Bool)} {x y : Operand} {u v : Value} {t t' : TypeId}
theorem Y.move (hx:ev f x=v):Y P C f ⟨d,.move x,ty,pos,af,g⟩ v:=fun w _=>by subst hx; rfl
theorem Y.assign (hx:ev f x=v):Y P C f ⟨d,.assign x,ty,pos,af,g⟩ v:=fun w _=>by subst hx; rfl
theorem Y.nilCheck {A:Addr} (hx:ev f x=.pointer (some A)):Y P C f ⟨d,.nilCheck x,ty,pos,af,g⟩ (.pointer (some A)):=fun w _=>by simp [execOp,hx]
theorem Y.pick {c:Operand} {b:Bool} (hc:ev f c=.bool b) (hv:(bif b then ev f x else ev f y)=v):Y P C f ⟨d,.pick c x y,ty,pos,af,g⟩ v:=fun w _=>by
 subst hv
 cases b <;> simp [execOp,hc,asBool]
theorem Y.not {b b':Bool} (hx:ev f x=.bool b) (hb:(!b)=b'):Y P C f ⟨d,.unOp .not t x,ty,pos,af,g⟩ (.bool b'):=fun w _=>by
 subst hb
 simp [execOp,hx,Op.unary]
/-- The binary operations of integers. -/
def dS (o:BinOp) (k:IntKind) (m n:Int):Option Value:=
 match o with
 |.add=>some (.int k (k.wrap (m+n)))
 |.sub=>some (.int k (k.wrap (m - n)))
 |.mul=>some (.int k (k.wrap (m * n)))
 |.eql=>some (.bool (m==n))
 |.neq=>some (.bool (m != n))
 |.lss=>some (.bool (m < n))
 |.leq=>some (.bool (m≤n))
 |.gtr=>some (.bool (m > n))
 |.geq=>some (.bool (m ≥ n))
 |_=>none
theorem afg {P:Program} {w:World} {o:BinOp} {k k':IntKind} {m n:Int} : (eqGuard o t x y (.int k m) (.int k' n)).run P w=.ok () w:=by
 unfold eqGuard; cases o <;> rfl
theorem Y.dS {o:BinOp} {k:IntKind} {m n:Int} (hx:ev f x=.int k m) (hy:ev f y=.int k n) (hr:dS o k m n=some v):Y P C f ⟨d,.binOp o t x y t',ty,pos,af,g⟩ v:=fun w _=>by
 simp only [execOp,hx,hy,Sem.run_bind,afg,Result.andThen_ok]
 cases o <;> simp [Proofs.YtkfmlehhbanopaaGreat.dS] at hr <;> subst hr <;> simp [binOp,Op.intArith,Op.intCmp]
theorem Y.beq {o:BinOp} {a b c:Bool} (ht:P.underlying t=some .bool) (hx:ev f x=.bool a) (hy:ev f y=.bool b) (ho:(o=.eql∧(a==b)=c) ∨ (o=.neq∧(a != b)=c)):Y P C f ⟨d,.binOp o t x y t',ty,pos,af,g⟩ (.bool c):=fun w _=>by
 rcases ho with ⟨rfl,rfl⟩|⟨rfl,rfl⟩
 ·simp only [execOp,hx,hy,Sem.run_bind,eqGuard,Result.andThen_ok]
  simp [binOp,Op.equal,Op.maxDepth,run_equalIn_bool' w _ t a b ht]
 ·simp only [execOp,hx,hy,Sem.run_bind,eqGuard,Result.andThen_ok]
  simp [binOp,Op.equal,Op.maxDepth,run_equalIn_bool' w _ t a b ht]
  cases a <;> cases b <;> rfl
def anj (P:Program) (t:TypeId) (i:Nat):Option Nat:=
 match P.underlying t with
 |some (.struct fs)=>match fs[i]? with
  |some fl=>match P.info? fl.type with
   |some inf=>if inf.size=0 then none else some fl.offset
   |none=>none
  |none=>none
 |_=>none
theorem Addr.add_eq (b o n:Nat):Addr.add ⟨b,o,none⟩ n=⟨b,o+n,none⟩:=by
 unfold Addr.add; split <;> simp_all
theorem Y.fieldAddr {i b o off:Nat} (hx:ev f x=.pointer (some ⟨b,o,none⟩)) (ht:anj P t i=some off):Y P C f ⟨d,.fieldAddr t x i,ty,pos,af,g⟩ (.pointer (some ⟨b,o+off,none⟩)):=fun w _=>by
 unfold anj at ht
 split at ht
 ·rename_i fs hu
  split at ht
  ·rename_i fl hf
   split at ht
   ·rename_i inf hi
    split at ht
    ·cases ht
    ·rename_i hs
     injection ht with ht
     subst ht
     simp [execOp,hx,Instr.fieldAt,run_underlying hu,hf,Instr.sureAddr,fieldPlace,sizeOf,typeInfo,hi,hs,Addr.add_eq]
   ·cases ht
  ·cases ht
 ·cases ht
def amj (P:Program) (t:TypeId):Option Nat:=
 match P.underlying t with
 |some (.slice e)=>(P.info? e).map (·.size)
 |_=>none
theorem Y.indexAddr {b o n c m sz:Nat} {k:IntKind} {j:Int} (hx:ev f x=.slice (some ⟨b,o,none⟩) n c) (hi:ev f y=.int k j) (hj:j=(m:Int)) (hm:m < n) (ht:amj P t=some sz) :
  Y P C f ⟨d,.indexAddr t x y,ty,pos,af,g⟩ (.pointer (some ⟨b,o+m * sz,none⟩)):=fun w _=>by
 subst hj
 unfold amj at ht
 split at ht
 ·rename_i e hu
  cases agV:P.info? e with
  |none=>rw [agV] at ht; cases ht
  |some inf=>
   rw [agV] at ht
   simp at ht
   subst ht
   have h1:((m:Int) < (n:Int)):=by omega
   simp [execOp,hx,hi,Instr.indexAt,asIntOf,run_underlying hu,h1,sizeOf,typeInfo,agV,Addr.add_eq]
   intro; omega
 ·cases ht
def az1 (P:Program) (t:TypeId):Bool:=
 match P.underlying t with
 |some (.struct _)|some (.array ..)|none=>false
 |_=>true
theorem axv {P:Program} {w:World} {A:Addr} (ht:az1 P t=true) (hc:w.cell? A=some v):(Instr.loadAt t (.pointer (some A))).run P w=.ok v w:=by
 unfold az1 at ht
 cases hu:P.underlying t with
 |none=>rw [hu] at ht; cases ht
 |some u=>cases u <;> first|(rw [hu] at ht; cases ht; done)|simp [Instr.loadAt,Instr.sureAddr,loadVar,isAgg,run_underlying hu,hc]
theorem Y.load {A:Addr} (hx:ev f x=.pointer (some A)) (ht:az1 P t=true) (hc:l7 C A v):Y P C f ⟨d,.load t x,ty,pos,af,g⟩ v:=fun w hw=>by
 simp only [execOp,hx,Sem.run_bind,axv ht (hc w hw),Result.andThen_ok]
 rfl
def asL (P:Program) (t:TypeId):Option Nat:=
 match P.underlying t with
 |some (.struct _)=>(P.info? t).map (·.size)
 |some (.array ..)=>(P.info? t).map (·.size)
 |_=>none
def MK (C:World→Prop) (b o:Nat) (cs:List Value):Prop:=∀w,C w→∀j v,cs[j]? = some v→w.cell? ⟨b,o+j,none⟩=some v
theorem adK {P:Program} {w:World} {b o:Nat} {cs:List Value} (ht:asL P t=some cs.length) (hc :∀j v,cs[j]? = some v→w.cell? ⟨b,o+j,none⟩=some v) :
  (Instr.loadAt t (.pointer (some ⟨b,o,none⟩))).run P w=.ok (.agg cs.toArray) w:=by
 unfold asL at ht
 have key :∀u,P.underlying t=some u→(∀w,(isAgg t).run P w=.ok true w)→(P.info? t).map (·.size)=some cs.length→(Instr.loadAt t (.pointer (some ⟨b,o,none⟩))).run P w=.ok (.agg cs.toArray) w:=fun u hu ha hs=>by
  cases hi:P.info? t with
  |none=>rw [hi] at hs; cases hs
  |some inf=>
   rw [hi] at hs
   simp at hs
   have hl:=run_loadCells_list (P:=P) w ⟨b,o,none⟩ cs (fun j v hj=>by rw [Addr.add_eq]; exact hc j v hj)
   simp [Instr.loadAt,Instr.sureAddr,loadVar,ha,sizeOf,typeInfo,hi,hs,hl]
 split at ht
 ·rename_i fs hu; exact key _ hu (fun w=>by simp [isAgg,run_underlying hu]) ht
 ·rename_i e n hu; exact key _ hu (fun w=>by simp [isAgg,run_underlying hu]) ht
 ·cases ht
theorem Y.wH {b o:Nat} {cs:List Value} (hx:ev f x=.pointer (some ⟨b,o,none⟩)) (ht:asL P t=some cs.length) (hc:MK C b o cs):Y P C f ⟨d,.load t x,ty,pos,af,g⟩ (.agg cs.toArray):=fun w hw=>by
 simp only [execOp,hx,Sem.run_bind,adK ht (hc w hw),Result.andThen_ok]
 rfl
theorem Y.extract {i:Nat} {vs:Array Value} (hx:ev f x=.tuple vs) (hi:vs[i]? = some v):Y P C f ⟨d,.extract x i,ty,pos,af,g⟩ v:=fun w _=>by
 simp [execOp,hx,Instr.extract,hi]
def sliceT (P:Program) (t:TypeId):Bool:=match P.underlying t with|some (.slice _)=>true|_=>false
theorem Y.len {A:Option Addr} {n c:Nat} (ht:sliceT P t=true) (hx:ev f x=.slice A n c):Y P C f ⟨d,.call ⟨.builtin .len,#[x],#[t]⟩,ty,pos,af,g⟩ (.int .i64 n):=fun w _=>by
 unfold sliceT at ht
 split at ht
 ·rename_i e hu
  simp [execOp,resolve,invoke,builtin,hx,Builtin.len_,run_underlying hu,goInt]
 ·cases ht
/-- The cells of a struct that is built. -/
def aal (P:Program) (t:TypeId) (parts:List (Nat × Value)):Option (Array Value):=
 match P.underlying t with
 |some (.struct fs)=>match (P.info? t).bind (·.zero) with
  |some z=>Instr.fill (fun i=>(fs[i]?).map fun fl=>(fl.offset,P.cellsOf fl.type)) z.cells parts
  |none=>none
 |_=>none
def aam (P:Program) (t:TypeId):Bool:=
 match P.underlying t with
 |some (.struct fs)=>fs.toList.all fun fl=>(P.info? fl.type).isSome
 |_=>false
theorem ajZ {w:World} {e:TypeId} (h:(P.info? e).isSome=true):(sizeOf e).run P w=.ok (P.cellsOf e) w:=by
 obtain ⟨inf,hi⟩:=Option.isSome_iff_exists.1 h
 simp [sizeOf,typeInfo,hi,Program.cellsOf]
theorem Vt {w:World} :∀(fs:List Field),(fs.all fun fl=>(P.info? fl.type).isSome)=true→
  (fs.mapM fun fl=>Prod.mk fl.offset <$> sizeOf fl.type).run P w=.ok (fs.map fun fl=>(fl.offset,P.cellsOf fl.type)) w
 |[],_=>by simp
 |fl :: fs,h=>by
  simp only [List.all_cons,Bool.and_eq_true] at h
  simp only [List.mapM_cons,Sem.run_bind,Sem.run_map,ajZ h.1,Result.andThen_ok,Vt fs h.2,Sem.run_pure,List.map_cons]
theorem run_build {w:World} {parts:Array (Nat × Value)} {cells:Array Value} (hs:aam P t=true) (hb:aal P t parts.toList=some cells):(Instr.build t parts).run P w=.ok (.agg cells) w:=by
 unfold aam at hs
 unfold aal at hb
 cases hu:P.underlying t with
 |none=>rw [hu] at hb; cases hb
 |some u=>
  rw [hu] at hb hs
  cases u <;> simp only at hb hs <;> try (cases hb; done)
  rename_i fs
  cases hi:P.info? t with
  |none=>rw [hi] at hb; cases hb
  |some inf=>
   rw [hi] at hb
   simp only [Option.bind_some] at hb
   cases hz:inf.zero with
   |none=>rw [hz] at hb; cases hb
   |some z=>
    rw [hz] at hb
    simp only at hb
    have hm:=Vt (P:=P) (w:=w) fs.toList hs
    simp [Instr.build,zeroValue,typeInfo,hi,hz,run_underlying hu]
    rw [Array.mapM_eq_mapM_toList]
    simp only [Sem.run_map,hm,Result.andThen_ok]
    simp [hb]
theorem Y.asM {cells:Array Value} (hs:aam P t=true) (hb:aal P t [] = some cells):Y P C f ⟨d,.build t #[],ty,pos,af,g⟩ (.agg cells):=fun w _=>by
 simp [execOp,run_build (parts:=#[]) hs hb]
theorem Y.asN {i:Nat} {cells:Array Value} (h0:ev f x=v) (hs:aam P t=true) (hb:aal P t [(i,v)] = some cells):Y P C f ⟨d,.build t #[(i,x)],ty,pos,af,g⟩ (.agg cells):=fun w _=>by
 subst h0
 simp [execOp,run_build (parts:=#[(i,ev f x)]) hs hb]
theorem Y.adL {x2:Operand} {i j:Nat} {v1 v2:Value} {cells:Array Value} (h0:ev f x=v1) (h1:ev f x2=v2) (hs:aam P t=true) (hb:aal P t [(i,v1),(j,v2)] = some cells) :
  Y P C f ⟨d,.build t #[(i,x),(j,x2)],ty,pos,af,g⟩ (.agg cells):=fun w _=>by
 subst h0 h1
 simp [execOp,run_build (parts:=#[(i,ev f x),(j,ev f x2)]) hs hb]
theorem Y.ank {x2 x3:Operand} {i j k:Nat} {v1 v2 v3:Value} {cells:Array Value} (h0:ev f x=v1) (h1:ev f x2=v2) (h2:ev f x3=v3) (hs:aam P t=true) (hb:aal P t [(i,v1),(j,v2),(k,v3)] = some cells) :
  Y P C f ⟨d,.build t #[(i,x),(j,x2),(k,x3)],ty,pos,af,g⟩ (.agg cells):=fun w _=>by
 subst h0 h1 h2
 simp [execOp,run_build (parts:=#[(i,ev f x),(j,ev f x2),(k,ev f x3)]) hs hb]
end
end
section
open Go.RowKit
section
variable {P : Program} {ops : Array Oper} {C : World → Prop} {f : Nat → Value} {rest : List Oper} {Q : (Nat → Value) → World → Prop} {Qf : (Nat → Value) → Prop} {w : World}
variable {d : Option Tmp} {ty : TypeId} {pos : String} {af : Array Edge} {g : Option (Nat × Bool)} {x y : Operand} {u v : Value} {t t' : TypeId} {args : Array Operand} {vals : Array Value} {ats : Array TypeId} {gf : FuncId}
section
variable {x1 x2 x3 x4 x5 x6 : Operand} {v1 v2 v3 v4 v5 v6 : Value}
theorem qZ (h1:ev f x1=v1) : #[x1].map (ev f) = #[v1]:=by simp [h1]
theorem qV (h1:ev f x1=v1) (h2:ev f x2=v2) : #[x1,x2].map (ev f) = #[v1,v2]:=by simp [h1,h2]
theorem Vu (h1:ev f x1=v1) (h2:ev f x2=v2) (h3:ev f x3=v3) : #[x1,x2,x3].map (ev f) = #[v1,v2,v3]:=by simp [h1,h2,h3]
theorem pm0:(#[] : Array (Nat × Operand)).map (fun p=>(p.1,ev f p.2)) = #[]:=by simp
theorem pm1 {i1:Nat} (h1:ev f x1=v1) : #[(i1,x1)].map (fun p=>(p.1,ev f p.2)) = #[(i1,v1)]:=by simp [h1]
end
def isGo (P:Program) (gf:FuncId):Bool:=match P.funcs[gf]? with|some fn=>!(fn.name == "runtime.NumGoroutine") && fn.body.isSome|none=>false
theorem Calls.arr {a b:Array Value} {R:Ending→World→Prop} (e:a=b) (h:Calls P gf a w R):Calls P gf b w R:=e ▸ h
theorem anl (h:isGo P gf=true):(callFunc gf vals).run P w=.ok (.enter gf vals) w:=by
 unfold isGo at h
 cases hf:P.funcs[gf]? with
 |none=>rw [hf] at h; cases h
 |some fn=>
  rw [hf] at h
  simp only [Bool.and_eq_true,Bool.not_eq_true'] at h
  obtain ⟨h1,h2⟩:=h
  have h3:fn.body.isNone=false:=by cases hb:fn.body with|none=>rw [hb] at h2; cases h2|some _=>rfl
  simp [callFunc,hf,h3]
  have h1':¬ fn.name = "runtime.NumGoroutine":=by simpa using h1
  simp [h1']
  intro hb
  rw [hb] at h2
  cases h2
theorem adM {caps:Array Value} {ov:Operand} (hv:ev f ov=.func (.func gf) #[] caps) (ha:args.map (ev f)=vals) (hgo:isGo P gf=true) :
  (execOp (ev f) ⟨d,.call ⟨.value ov,args,ats⟩,ty,pos,af,g⟩).run P w=.ok (.enter gf (vals ++ caps)) w:=by
 simp [execOp,resolve,hv,ha,Deferred.ofValue,invoke,anl hgo]
theorem apO (ha:args.map (ev f)=vals) (hgo:isGo P gf=true) :
  (execOp (ev f) ⟨d,.call ⟨.value (.func gf),args,ats⟩,ty,pos,af,g⟩).run P w=.ok (.enter gf vals) w:=by
 have h:=adM (P:=P) (w:=w) (d:=d) (ty:=ty) (pos:=pos) (af:=af) (g:=g) (ats:=ats) (ov:=.func gf) (caps:=#[]) rfl ha hgo
 simpa using h
theorem RQ.call (hg:gV f ops ⟨d,.call ⟨.value (.func gf),args,ats⟩,ty,pos,af,g⟩=true) (ha:args.map (ev f)=vals) (hgo:isGo P gf=true)
  (hc :∀w,C w→Calls P gf vals w fun e w'=>e=.returned v∧C w') (h:RQ P ops C Qf rest (ED f d v)):RQ P ops C Qf (⟨d,.call ⟨.value (.func gf),args,ats⟩,ty,pos,af,g⟩ :: rest) f:=
 ⟨v,.inl ⟨hg,fun w hw=>by rw [apO ha hgo]; exact ⟨rfl,hc w hw⟩⟩,h⟩
theorem RQ.Jb {ov:Operand} {caps:Array Value} (hg:gV f ops ⟨d,.call ⟨.value ov,args,ats⟩,ty,pos,af,g⟩=true) (hv:ev f ov=.func (.func gf) #[] caps) (ha:args.map (ev f)=vals) (hgo:isGo P gf=true)
  (hc :∀w,C w→Calls P gf (vals ++ caps) w fun e w'=>e=.returned v∧C w') (h:RQ P ops C Qf rest (ED f d v)):RQ P ops C Qf (⟨d,.call ⟨.value ov,args,ats⟩,ty,pos,af,g⟩ :: rest) f:=
 ⟨v,.inl ⟨hg,fun w hw=>by rw [adM hv ha hgo]; exact ⟨rfl,hc w hw⟩⟩,h⟩
theorem RL.call (hg:gV f ops ⟨d,.call ⟨.value (.func gf),args,ats⟩,ty,pos,af,g⟩=true) (ha:args.map (ev f)=vals) (hgo:isGo P gf=true)
  (hc:Calls P gf vals w fun e w'=>∃v,e=.returned v∧RL P ops Q rest (ED f d v) w'):RL P ops Q (⟨d,.call ⟨.value (.func gf),args,ats⟩,ty,pos,af,g⟩ :: rest) f w:=
 .inl ⟨hg,by rw [apO ha hgo]; exact hc⟩
theorem RL.Jb {ov:Operand} {caps:Array Value} (hg:gV f ops ⟨d,.call ⟨.value ov,args,ats⟩,ty,pos,af,g⟩=true) (hv:ev f ov=.func (.func gf) #[] caps) (ha:args.map (ev f)=vals) (hgo:isGo P gf=true)
  (hc:Calls P gf (vals ++ caps) w fun e w'=>∃v,e=.returned v∧RL P ops Q rest (ED f d v) w'):RL P ops Q (⟨d,.call ⟨.value ov,args,ats⟩,ty,pos,af,g⟩ :: rest) f w:=
 .inl ⟨hg,by rw [adM hv ha hgo]; exact hc⟩
theorem Y.makeFunc {fn:Fn} {caps:Array Operand} (ha:caps.map (ev f)=vals):Y P C f ⟨d,.makeFunc fn #[] caps,ty,pos,af,g⟩ (.func fn #[] vals):=fun w _=>by
 subst ha; simp [execOp,Instr.makeFunc]
/-- A contract of a function that leaves old memory alone, in a region's class. -/
theorem bel {w:World} {K:Ending→Prop} (h :∀w',Below w.heap.size w w'→Calls P gf vals w' fun e w''=>e=.returned v∧Below w'.heap.size w' w'') :
  ∀w',Below w.heap.size w w'→Calls P gf vals w' fun e w''=>e=.returned v∧Below w.heap.size w w'':=
 fun w' hb=>(h w' hb).mono fun e w'' ⟨he,hb'⟩=>⟨he,hb.trans (hb'.mono hb.size)⟩
theorem KQ (w:World) (o:Obj):Below w.heap.size w (w.alloc o):=(Below.refl _ _).alloc (Nat.le_refl _) _
theorem RL.alloc {z:Value} (hg:gV f ops ⟨d,.alloc t,ty,pos,af,g⟩=true) (hz:(P.info? t).bind (·.zero)=some z)
  (h :∀w1,dD w1 w.heap.size t z.cells→Below w.heap.size w w1→w1.heap.size=w.heap.size+1→RL P ops Q rest (ED f d (.pointer (some ⟨w.heap.size,0,none⟩))) w1):RL P ops Q (⟨d,.alloc t,ty,pos,af,g⟩ :: rest) f w:=by
 refine .inl ⟨hg,?_⟩
 cases hi:P.info? t with
 |none=>rw [hi] at hz; cases hz
 |some inf=>
  rw [hi] at hz
  simp only [Option.bind_some] at hz
  have hr:(execOp (ev f) ⟨d,.alloc t,ty,pos,af,g⟩).run P w=.ok (.value (.pointer (some ⟨w.heap.size,0,none⟩))) (w.alloc (.cells z.cells t)):=by
   simp [execOp,Instr.alloc,zeroValue,typeInfo,hi,hz,newVar,newRow]
  rw [hr]
  exact h _ (dD.new _ _ _) (KQ _ _) (World.size_alloc _ _)
theorem RL.box (hg:gV f ops ⟨d,.box t x,ty,pos,af,g⟩=true) (hx:ev f x=v)
  (h :∀w1,dD w1 w.heap.size t v.cells→Below w.heap.size w w1→w1.heap.size=w.heap.size+1→RL P ops Q rest (ED f d (.pointer (some ⟨w.heap.size,0,none⟩))) w1):RL P ops Q (⟨d,.box t x,ty,pos,af,g⟩ :: rest) f w:=by
 refine .inl ⟨hg,?_⟩
 have hr:(execOp (ev f) ⟨d,.box t x,ty,pos,af,g⟩).run P w=.ok (.value (.pointer (some ⟨w.heap.size,0,none⟩))) (w.alloc (.cells v.cells t)):=by
  simp [execOp,hx,Instr.box,newVar,newRow]
 rw [hr]
 exact h _ (dD.new _ _ _) (KQ _ _) (World.size_alloc _ _)
theorem dD.bK {w w':World} {b:Nat} {e:TypeId} {cs:Array Value} {bs:List Nat} (h:dD w b e cs) (ho:Only bs w w') (hb:b ∉ bs):dD w' b e cs:=(ho.block b hb).trans h
theorem Gp (w:World) (b:Nat) (cs:Array Value):Only [b] w (w.setRow b cs):=
 ⟨rfl,rfl,rfl,by simp [World.setRow],fun k hk=>by
  have:¬ b=k:=fun e=>hk (by simp [e])
  simp [World.setRow,Array.getElem?_modify,this]⟩
theorem agW {w:World} {b:Nat} {e:TypeId} {cs cs':Array Value} (h:dD w b e cs):dD (w.setRow b cs') b e cs':=setRow_heap w b cs cs' e (0,0) h
/-- A store into a block of the call's own. -/
theorem RL.store {b o:Nat} {e:TypeId} {cs cs':Array Value} (hg:gV f ops ⟨d,.store t x y,ty,pos,af,g⟩=true) (hx:ev f x=.pointer (some ⟨b,o,none⟩)) (hy:ev f y=v) (hb:dD w b e cs)
  (hs:(P.info? t).map (·.size)=some v.cells.size) (h1:(v.cells.toList.all Value.oneCell')=true) (hl0:Nat.ble (o+v.cells.size) cs.size=true) (hcs:(cs.toList.take o ++ v.cells.toList ++ cs.toList.drop (o+v.cells.size)).toArray=cs')
  (h :∀w1,dD w1 b e cs'→Only [b] w w1→RL P ops Q rest (ED f d undef) w1):RL P ops Q (⟨d,.store t x y,ty,pos,af,g⟩ :: rest) f w:=by
 have hl:=Nat.le_of_ble_eq_true hl0
 refine .inl ⟨hg,?_⟩
 cases hi:P.info? t with
 |none=>rw [hi] at hs; cases hs
 |some inf=>
  rw [hi] at hs
  simp only [Option.map_some,Option.some.injEq] at hs
  have hst:=run_storeCells_at (P:=P) b o e v.cells.toList 0 cs w hb (by simpa using hl) (fun u hu=>List.all_eq_true.1 h1 u hu)
  have hr:(execOp (ev f) ⟨d,.store t x y,ty,pos,af,g⟩).run P w=.ok .skip (w.setRow b cs'):=by
   subst hcs
   simp only [Nat.add_zero] at hst
   simp [execOp,hx,hy,Instr.storeAt,Instr.sureAddr,storeVar,sizeOf,typeInfo,hi,hs,hst]
  rw [hr]
  exact h _ (agW hb) (Gp _ _ _)
def aKl (P:Program) (t:TypeId) (len:Nat) (parts:List (Nat × Value)):Option (TypeId × Array Value):=
 match P.underlying t with
 |some (.slice e)=>match P.info? e with
  |some inf=>if len * inf.size > 16777216 then none else
   match (if len * inf.size=0 then some #[] else inf.zero.map (·.cells)) with
   |some zero=>(Instr.fill (fun i=>some (i * inf.size,inf.size)) ((Array.range (len * inf.size)).map (zero[· % zero.size]!)) parts).map fun cs=>(e,cs)
   |none=>none
  |none=>none
 |_=>none
theorem aGk {len:Nat} {parts:Array (Nat × Value)} {e:TypeId} {cells:Array Value} (hb:aKl P t len parts.toList=some (e,cells)):(Instr.buildSlice t len parts).run P w=.ok (.slice (some ⟨w.heap.size,0,none⟩) len len) (w.alloc (.cells cells e)):=by
 unfold aKl at hb
 cases hu:P.underlying t with
 |none=>rw [hu] at hb; cases hb
 |some u0=>
  rw [hu] at hb
  cases u0 <;> simp only at hb <;> try (cases hb; done)
  rename_i e'
  cases hi:P.info? e' with
  |none=>rw [hi] at hb; cases hb
  |some inf=>
   rw [hi] at hb
   simp only at hb
   split at hb
   ·cases hb
   ·rename_i hbig
    by_cases h0:len * inf.size=0
    ·simp only [h0,if_true] at hb
     cases hf:Instr.fill (fun i=>some (i * inf.size,inf.size)) ((Array.range 0).map ((#[] : Array Value)[· % (#[] : Array Value).size]!)) parts.toList with
     |none=>rw [hf] at hb; cases hb
     |some cs=>
      rw [hf] at hb
      simp only [Option.map_some,Option.some.injEq,Prod.mk.injEq] at hb
      obtain ⟨rfl,rfl⟩:=hb
      simp at hf
      simp [Instr.buildSlice,run_underlying hu,sizeOf,typeInfo,hi,h0,newRow,hf]
    ·simp only [h0,if_false] at hb
     cases hz:inf.zero with
     |none=>rw [hz] at hb; cases hb
     |some z=>
      rw [hz] at hb
      simp only [Option.map_some] at hb
      cases hf:Instr.fill (fun i=>some (i * inf.size,inf.size)) ((Array.range (len * inf.size)).map (z.cells[· % z.cells.size]!)) parts.toList with
      |none=>rw [hf] at hb; cases hb
      |some cs=>
       rw [hf] at hb
       simp only [Option.map_some,Option.some.injEq,Prod.mk.injEq] at hb
       obtain ⟨rfl,rfl⟩:=hb
       simp [Instr.buildSlice,run_underlying hu,sizeOf,typeInfo,hi,h0,hbig,zeroValue,hz,newRow,hf]
theorem RL.yD {len:Nat} {parts:Array (Nat × Operand)} {pv:Array (Nat × Value)} {e:TypeId} {cells:Array Value} (hg:gV f ops ⟨d,.buildSlice t len parts,ty,pos,af,g⟩=true)
  (hp:parts.map (fun p=>(p.1,ev f p.2))=pv) (hb:aKl P t len pv.toList=some (e,cells))
  (h :∀w1,dD w1 w.heap.size e cells→Below w.heap.size w w1→w1.heap.size=w.heap.size+1→RL P ops Q rest (ED f d (.slice (some ⟨w.heap.size,0,none⟩) len len)) w1):RL P ops Q (⟨d,.buildSlice t len parts,ty,pos,af,g⟩ :: rest) f w:=by
 refine .inl ⟨hg,?_⟩
 have hr:(execOp (ev f) ⟨d,.buildSlice t len parts,ty,pos,af,g⟩).run P w=.ok (.value (.slice (some ⟨w.heap.size,0,none⟩) len len)) (w.alloc (.cells cells e)):=by
  have:=aGk (P:=P) (w:=w) (parts:=pv) hb
  subst hp
  simp [execOp,this]
 rw [hr]
 exact h _ (dD.new _ _ _) (KQ _ _) (World.size_alloc _ _)
end
end
section
open Go.RowKit
section
variable {P : Program} {w : World} {f : Nat → Value} {n : Nat} {Q : Exit → Act → World → Prop} {K : Act → World → Prop} {a : Act} {x y : Code} {id id' : Nat} {c : Operand}
theorem ah (h:K a w):Exit.then K Q .normal a w:=h
theorem aF (h:Q .ret a w):Exit.then K Q .ret a w:=h
theorem bQ (h:Q (.exit id) a w):Exit.then K Q (.exit id) a w:=h
theorem eF (h:Q .normal a w):Exit.inBlock id Q .normal a w:=h
theorem bC (h:Q .ret a w):Exit.inBlock id Q .ret a w:=h
theorem dW (h:Q .normal a w):Exit.inBlock id Q (.exit id) a w:=by simp only [Exit.inBlock,if_true]; exact h
theorem dX (hin:asJ n c=true) (hc:ev f c=.bool true) (h:x.wp P Q (Fr n f) w):(Code.cond c x y).wp P Q (Fr n f) w:=wp_cond_true ((ang hin).trans hc) h
theorem gU (hin:asJ n c=true) (hc:ev f c=.bool false) (h:y.wp P Q (Fr n f) w):(Code.cond c x y).wp P Q (Fr n f) w:=wp_cond_false ((ang hin).trans hc) h
theorem az2 {cd:Code} (I:Nat→(Nat→Value)→World→Prop) (g0:Nat) (h0:I g0 f w)
  (round :∀g f w,I g f w→cd.wp P (Exit.then (fun a' w'=>∃g' f',g' < g∧a'=Fr n f'∧I g' f' w') Q) (Fr n f) w):(Code.loop cd).wp P Q (Fr n f) w:=by
 refine wp_loop_ghost (fun g a w=>∃f,a=Fr n f∧I g f w) g0 ⟨f,rfl,h0⟩ ?_
 rintro g a w ⟨f,rfl,h⟩
 refine Code.wp_mono ?_ (round g f w h)
 intro e a' w' hq
 cases e <;> first|exact hq|skip
 obtain ⟨g',f',h1,h2,h3⟩:=hq
 exact ⟨g',h1,f',h2,h3⟩
theorem enter {gf:FuncId} {fn:Func} {cd:Code} {args:Array Value} {R:Ending→World→Prop} (n:Nat) (hf:P.funcs[gf]? = some fn) (hb:fn.body=some cd) (hn:fn.ntmps=n) (hs:Nat.ble args.size n=true)
  (h :∀f,(∀i v,args[i]? = some v→f i=v)→cd.wp P (bodyPost P fn R) (Fr n f) w):Calls P gf args w R:=by
 refine calls_of_wp hf hb ?_
 have hs':args.size≤n:=Nat.le_of_ble_eq_true hs
 have e:({ tmps:=args ++ Array.replicate (fn.ntmps - args.size) undef,defers:=[] } : Act)=Fr n (fun i=>(args ++ Array.replicate (n - args.size) undef).getD i undef):=by
  rw [hn]
  simp only [Fr,Act.mk.injEq,and_true]
  apply Array.ext_getElem?
  intro i
  have hsz:(args ++ Array.replicate (n - args.size) undef).size=n:=by simp; omega
  by_cases hi:i < n
  ·simp only [List.getElem?_toArray,List.getElem?_map,List.getElem?_range hi,Option.map_some]
   have h2:i < (args ++ Array.replicate (n - args.size) undef).size:=by rw [hsz]; exact hi
   rw [Array.getElem?_eq_getElem h2,Array.getD,dif_pos h2]
   rfl
  ·have h2:(args ++ Array.replicate (n - args.size) undef).size≤i:=by rw [hsz]; omega
   rw [Array.getElem?_eq_none h2]
   simp [hi]
 rw [e]
 refine h _ fun i v hi=>?_
 have hlt:i < args.size:=(Array.getElem?_eq_some_iff.1 hi).1
 have h2:i < (args ++ Array.replicate (n - args.size) undef).size:=by simp; omega
 simp only [Array.getD,dif_pos h2]
 rw [Array.getElem?_eq_getElem hlt] at hi
 injection hi with hi
 show (args ++ Array.replicate (n - args.size) undef)[i] = v
 rw [Array.getElem_append_left hlt]
 exact hi
theorem aV {fn:Func} {R:Ending→World→Prop} {t:Tmp} {v:Value} (hr:fn.results = #[.tmp t]) (ht:Nat.blt t n=true) (hv:f t=v) (h:R (.returned v) w):bodyPost P fn R .ret (Fr n f) w:=
  ⟨rfl, v, by rw [results_tmp hr]; congr 1; have ht' : t < n := by simpa using ht
              simp [Fr,ht',hv],h⟩
theorem aXs {fn:Func} {R:Ending→World→Prop} {t1 t2:Tmp} {v1 v2:Value} (hr:fn.results = #[.tmp t1,.tmp t2]) (ht:(Nat.blt t1 n && Nat.blt t2 n)=true) (hv1:f t1=v1) (hv2:f t2=v2) (h:R (.returned (.tuple #[v1,v2])) w):bodyPost P fn R .ret (Fr n f) w:=
 ⟨rfl,_,by
  rw [results_tmp2 hr]
  simp only [Bool.and_eq_true] at ht
  have h1:t1 < n:=by simpa using ht.1
  have h2:t2 < n:=by simpa using ht.2
  simp only [Fr,Array.getD_eq_getD_getElem?,List.getElem?_toArray,List.getElem?_map,List.getElem?_range h1,List.getElem?_range h2,Option.map_some,Option.getD_some,hv1,hv2],h⟩
theorem aKm {fn:Func} {R:Ending→World→Prop} {t1 t2 t3:Tmp} {v1 v2 v3:Value} (hr:fn.results = #[.tmp t1,.tmp t2,.tmp t3]) (ht:(Nat.blt t1 n && Nat.blt t2 n && Nat.blt t3 n)=true) (hv1:f t1=v1) (hv2:f t2=v2) (hv3:f t3=v3) (h:R (.returned (.tuple #[v1,v2,v3])) w):bodyPost P fn R .ret (Fr n f) w:=
 ⟨rfl,_,by
  rw [results_tmp3 hr]
  simp only [Bool.and_eq_true] at ht
  have h1:t1 < n:=by simpa using ht.1.1
  have h2:t2 < n:=by simpa using ht.1.2
  have h3:t3 < n:=by simpa using ht.2
  simp only [Fr,Array.getD_eq_getD_getElem?,List.getElem?_toArray,List.getElem?_map,List.getElem?_range h1,List.getElem?_range h2,List.getElem?_range h3,Option.map_some,Option.getD_some,hv1,hv2,hv3],h⟩
theorem aPD {fn:Func} {R:Ending→World→Prop} (hr:fn.results = #[]) (h:R (.returned (.tuple #[])) w):bodyPost P fn R .normal (Fr n f) w:=
 ⟨rfl,_,results_none hr _ _ _,h⟩
/-- A result that lies in a variable in memory. -/
theorem WJ {fn:Func} {R:Ending→World→Prop} {t:Tmp} {b o:Nat} {ty:TypeId} {cs:List Value} (hr:fn.results = #[.cell t ty]) (ht:Nat.blt t n=true) (hv:f t=.pointer (some ⟨b,o,none⟩)) (hag:asL P ty=some cs.length)
  (hc :∀j v,cs[j]? = some v→w.cell? ⟨b,o+j,none⟩=some v) (h:R (.returned (.agg cs.toArray)) w):bodyPost P fn R .ret (Fr n f) w:=
 ⟨rfl,_,by
  have h1:t < n:=by simpa using ht
  have hl:=adK (P:=P) (w:=w) hag hc
  simp only [Instr.loadAt,Instr.sureAddr,Sem.run_bind,Sem.run_pure,Result.andThen_ok,bind_pure_comp,pure_bind] at hl
  simp only [results,hr]
  simp [Fr,h1,hv,asAddr,hl],h⟩
end
section
variable {P : Program} {f : Nat → Value} {w : World} {n id : Nat} {l : List Oper} {Q : Exit → Act → World → Prop}
theorem avZ {ops:Array Oper} {C:World→Prop} {Q Q':(Nat→Value)→Prop} (hq :∀f,Q f→Q' f) :∀{l:List Oper} {f:Nat→Value},RQ P ops C Q l f→RQ P ops C Q' l f
 |[],f,h=>hq f h
 |o :: rest,f,⟨v,h1,h2⟩=>⟨v,h1,avZ hq h2⟩
/-- A region that only looks, at one world. -/
theorem au (hin:abb n l=true) (h:RQ P l.toArray (· = w) (fun f'=>Q .normal (Fr n f') w) l f):(Code.region id l.toArray false).wp P Q (Fr n f) w:=
 aIY (· = w) rfl hin (avZ (fun f' h w' e=>by rw [e]; exact h) h)
/-- A region whose calls leave old memory alone. -/
theorem cZ (hin:abb n l=true) (h:RQ P l.toArray (Below w.heap.size w) (fun f'=>∀w',Below w.heap.size w w'→Q .normal (Fr n f') w') l f):(Code.region id l.toArray false).wp P Q (Fr n f) w:=
 aIY (Below w.heap.size w) (Below.refl _ _) hin h
theorem FC (hm:P.follows .mixedOrders=true) (hin:(abb n l && Region.lexB .any l.toArray)=true) (h:RQ P l.toArray (Below w.heap.size w) (fun f'=>∀w',Below w.heap.size w w'→Q .normal (Fr n f') w') l f):(Code.region id l.toArray true).wp P Q (Fr n f) w:=
 asK (Below w.heap.size w) (Below.drew (Below.refl _ _)) hm hin h
end
end
section
open Go.RowKit
def fC {α:Type} (xs:List α) (i:Int):Option α:=if 0≤i then xs[i.toNat]? else none
theorem aU {α:Type} {xs:List α} {i:Int} {x:α} (h:fC xs i=some x) :∃k:Nat,i=(k:Int)∧k < xs.length∧xs[k]? = some x:=by
 unfold fC at h
 split at h
 ·rename_i h0
  obtain ⟨k,rfl⟩:=Int.eq_ofNat_of_zero_le h0
  exact ⟨k,rfl,lt_of_some h,h⟩
 ·cases h
theorem gG {α:Type} {xs:List α} {k:Nat} {x:α} (h:xs[k]? = some x):fC xs (k:Int)=some x:=by simp [fC,h]
/-- A number that fits an int64. -/
def ck (n:Int):Option Int:=if -9223372036854775808≤n∧n≤9223372036854775807 then some n else none
theorem jg {n m:Int} (h:ck n=some m):m=n∧-9223372036854775808≤n∧n≤9223372036854775807:=by
 unfold ck at h
 split at h
 ·rename_i h0; injection h with h; exact ⟨h.symm,h0⟩
 ·cases h
theorem yA {n:Int} (h:-9223372036854775808≤n∧n≤9223372036854775807):ck n=some n:=if_pos h
/-- What must hold. -/
def yB (p:Prop) [Decidable p] : Option Unit:=if p then some () else none
theorem h_ {p:Prop} [Decidable p] {u:Unit} (h:yB p=some u):p:=by
 unfold yB at h
 split at h
 ·assumption
 ·cases h
theorem kZ {p:Prop} [Decidable p] (h:p):yB p=some ():=if_pos h
theorem bnd {α β:Type} {x:Option α} {k:α→Option β} {r:β} (h:x.bind k=some r) :∃a,x=some a∧k a=some r:=Option.bind_eq_some_iff.1 h
theorem cT {β:Type} {b:Bool} {x y:β} {r:β} (c:b=true) (h:(bif b then x else y)=r):x=r:=by rw [c] at h; exact h
theorem cF {β:Type} {b:Bool} {x y:β} {r:β} (c:b=false) (h:(bif b then x else y)=r):y=r:=by rw [c] at h; exact h
theorem av1 {n:Int} (h:-9223372036854775808≤n∧n≤9223372036854775807):IntKind.i64.wrap n=n:=IntWalk.i64_in n h
theorem bn {m n:Int} (h:-9223372036854775808≤m+n∧m+n≤9223372036854775807):dS .add .i64 m n=some (.int .i64 (m+n)):=by unfold dS; simp only; rw [av1 h]
theorem BN {m n:Int} (h:-9223372036854775808≤m - n∧m - n≤9223372036854775807):dS .sub .i64 m n=some (.int .i64 (m - n)):=by unfold dS; simp only; rw [av1 h]
section
variable {f : Nat → Value} {ops : Array Oper} {d : Option Tmp} {op : Op} {ty : TypeId} {pos : String} {af : Array Edge} {j dj : Nat} {want have_ : Bool}
theorem eG (hj:(ops[j]?).bind (·.dst)=some dj) (hv:f dj=.bool want):gV f ops ⟨d,op,ty,pos,af,some (j,want)⟩=true:=by
 simp only [gV,aGj,hj,hv]; simp
theorem Gq (hj:(ops[j]?).bind (·.dst)=some dj) (hv:f dj=.bool have_) (hne:(have_==want)=false):gV f ops ⟨d,op,ty,pos,af,some (j,want)⟩=false:=by
 simp only [gV,aGj,hj,hv]
 cases have_ <;> cases want <;> first|rfl|cases hne
end
theorem aB (b:Bool):b=false ∨ b=true:=by cases b <;> simp
theorem vb {v:Value} {b b':Bool} (h:v=.bool b) (c:b=b'):v=.bool b':=by rw [h,c]
theorem gQ {v:Value} {b b' b'':Bool} (h:v=.bool (!b)) (c:b=b') (e:(!b')=b''):v=.bool b'':=by rw [h,c,e]
section
variable {α : Type} {R : Rd α} {O : Ow α} {sz : Nat} {w w' : World} {v : Value} {xs : List α} {x : α}
theorem cellT {A:Addr} {u:Value} (T:Below w.heap.size w w') (h:w.cell? A=some u):w'.cell? A=some u:=(T.cell (World.block_lt_of_cell? w A h)).trans h
/-- At the present world: a slice, a struct, a pointer to a struct. -/
def Sl (R:Rd α) (sz:Nat) (w:World) (v:Value) (xs:List α):Prop:=RdS R sz w w.heap.size v xs
def St (R:Rd α) (w:World) (v:Value) (x:α):Prop:=RdT R w w.heap.size v x
def Pt (R:Rd α) (w:World) (v:Value) (x:α):Prop:=∃b o cs,v=.pointer (some ⟨b,o,none⟩)∧b < w.heap.size∧R w w.heap.size cs x∧∀j v,cs[j]? = some v→w.cell? ⟨b,o+j,none⟩=some v
theorem Pt.at_ (ok:Sz R sz) (h:Pt R w v x) (T:Below w.heap.size w w'):Pt R w' v x:=by
 obtain ⟨b,o,cs,e,hb,hR,hc⟩:=h
 exact ⟨b,o,cs,e,Nat.lt_of_lt_of_le hb T.size,ok.more T.size (ok.keep (fun p hp=>T.cell hp) hR),fun j v hj=>cellT T (hc j v hj)⟩
theorem aY.addr {B n:Nat} {A:Option Addr} (h:aY R sz w B A n xs) (hn:0 < n) :∃b o,A=some ⟨b,o,none⟩∧b < B:=by
 obtain ⟨b,o,e,hb,_⟩:=h.2 hn
 exact ⟨b,o,e,hb⟩
theorem aY.el {B n b o:Nat} (h:aY R sz w B (some ⟨b,o,none⟩) n xs) {k:Nat} (hx:xs[k]? = some x) :∃cs,R w B cs x∧∀j v,cs[j]? = some v→w.cell? ⟨b,o+k * sz+j,none⟩=some v:=by
 have hl:=lt_of_some hx
 obtain ⟨b',o',e,hb,hc⟩:=h.2 (by have:=h.1; omega)
 injection e with e
 injection e with e1 e2
 subst e1 e2
 exact hc k x hx
theorem aY.now (ok:Sz R sz) {B n:Nat} {A:Option Addr} (h:aY R sz w B A n xs) (hB:B≤w.heap.size) (T:Below w.heap.size w w'):aY R sz w' w'.heap.size A n xs:=
 (h.below ok (T.mono hB)).more ok (Nat.le_trans hB T.size)
/-- A slice that was read, as an argument. -/
theorem eY (ok:Sz R sz) {n c:Nat} {A:Option Addr} (h:aY R sz w w.heap.size A n xs) (r:n≤c∧c≤maxLen) (T:Below w.heap.size w w'):Sl R sz w' (.slice A n c) xs:=
 ⟨A,n,c,rfl,h.now ok (Nat.le_refl _) T,r⟩
theorem l9 (ok:Sz R sz) {b o:Nat} {cs:List Value} (hb:b < w.heap.size) (hR:R w w.heap.size cs x) (hc :∀j v,cs[j]? = some v→w.cell? ⟨b,o+j,none⟩=some v) (T:Below w.heap.size w w'):Pt R w' (.pointer (some ⟨b,o,none⟩)) x:=
 Pt.at_ ok ⟨b,o,cs,rfl,hb,hR,hc⟩ T
theorem Vw {g:Nat} {t:TypeId} {cs:List Value} (hb:dD w g t cs.toArray) (hR:R w w.heap.size cs x):Pt R w (.pointer (some ⟨g,0,none⟩)) x:=
 ⟨g,0,cs,rfl,hb.lt,hR,fun j v hj=>by rw [hb.cell]; simpa using hj⟩
theorem fE {cs:List Value} (hR:R w w.heap.size cs x):St R w (.agg cs.toArray) x:=⟨cs,rfl,hR⟩
theorem anm {n c:Nat} (r:n≤c∧c≤maxLen):n≤9223372036854775807:=by have:=r.1; have:=r.2; unfold maxLen at this; omega
theorem aj {g:Nat} {t:TypeId} {cs:Array Value} {i:Nat} {u:Value} (hb:dD w g t cs) (hu:cs[i]? = some u):w.cell? ⟨g,0+i,none⟩=some u:=by rw [Nat.zero_add,hb.cell]; exact hu
theorem aX {g:Nat} {t:TypeId} {cs:Array Value} (hb:dD w g t cs) (T:Below w.heap.size w w'):dD w' g t cs:=hb.below T hb.lt
theorem n_ {g:Nat} {t:TypeId} {cs:List Value} (hb:dD w g t cs.toArray) :∀j v,cs[j]? = some v→w.cell? ⟨g,0+j,none⟩=some v:=fun j v hj=>aj hb (by simpa using hj)
theorem Tt {w w1 w2:World} (T:Below w.heap.size w w1) (h:Below w1.heap.size w1 w2):Below w.heap.size w w2:=T.trans (h.mono T.size)
theorem KR {P:Program} {gf:FuncId} {vals:Array Value} {v:Value} (h:Calls P gf vals w fun e w'=>e=.returned v∧w=w'):Calls P gf vals w fun e w'=>e=.returned v∧Below w.heap.size w w':=h.mono fun e w' ⟨he,hw⟩=>⟨he,by subst hw; exact Below.refl _ _⟩
section
variable {C : World → Prop} {b o : Nat} {v0 v1 v2 v3 v4 : Value}
theorem FD (h0:l7 C ⟨b,o+0,none⟩ v0):MK C b o [v0]:=fun w hw j v hj=>by
 rcases j with _|j <;> simp at hj; subst hj; exact h0 w hw
theorem cells4 (h0:l7 C ⟨b,o+0,none⟩ v0) (h1:l7 C ⟨b,o+1,none⟩ v1) (h2:l7 C ⟨b,o+2,none⟩ v2) (h3:l7 C ⟨b,o+3,none⟩ v3):MK C b o [v0,v1,v2,v3]:=fun w hw j v hj=>by
 rcases j with _|_|_|_|j <;> simp at hj <;> subst hj
 ·exact h0 w hw
 ·exact h1 w hw
 ·exact h2 w hw
 ·exact h3 w hw
theorem cells5 (h0:l7 C ⟨b,o+0,none⟩ v0) (h1:l7 C ⟨b,o+1,none⟩ v1) (h2:l7 C ⟨b,o+2,none⟩ v2) (h3:l7 C ⟨b,o+3,none⟩ v3) (h4:l7 C ⟨b,o+4,none⟩ v4):MK C b o [v0,v1,v2,v3,v4]:=fun w hw j v hj=>by
 rcases j with _|_|_|_|_|j <;> simp at hj <;> subst hj
 ·exact h0 w hw
 ·exact h1 w hw
 ·exact h2 w hw
 ·exact h3 w hw
 ·exact h4 w hw
end
end
section
variable {P : Program} {w : World} {f : Nat → Value} {n xid id' : Nat} {Q : Exit → Act → World → Prop} {J : (Nat → Value) → World → Prop}
/-- What stands behind a loop's body: at the loop's own exit J is asked. -/
def asO (n xid:Nat) (J:(Nat→Value)→World→Prop) (Q:Exit→Act→World→Prop):Exit→Act→World→Prop
 |.exit id,a,w=>if id=xid then∃f,a=Fr n f∧J f w else Q (.exit id) a w
 |e,a,w=>Q e a w
theorem jG {a:Act} (h:Q .ret a w):asO n xid J Q .ret a w:=h
theorem iW {a:Act} (h :∃f,a=Fr n f∧J f w):asO n xid J Q (.exit xid) a w:=by simp only [asO,if_true]; exact h
theorem dG {cd:Code} (I:Nat→(Nat→Value)→World→Prop) (xid:Nat) (J:(Nat→Value)→World→Prop) (g0:Nat) (h0:I g0 f w) (hJ :∀f w,J f w→Q (.exit xid) (Fr n f) w)
  (round :∀g f w,I g f w→cd.wp P (Exit.then (fun a' w'=>∃g' f',g' < g∧a'=Fr n f'∧I g' f' w') (asO n xid J Q)) (Fr n f) w):(Code.loop cd).wp P Q (Fr n f) w:=by
 refine az2 I g0 h0 fun g f w h=>Code.wp_mono ?_ (round g f w h)
 intro e a w hq
 cases e with
 |exit id=>
  have hq:asO n xid J Q (.exit id) a w:=hq
  show Q (.exit id) a w
  by_cases hid:id=xid
  ·subst hid
   simp only [asO,if_true] at hq
   obtain ⟨f,rfl,hj⟩:=hq
   exact hJ f w hj
  ·simp only [asO,hid,if_false] at hq
   exact hq
 |_=>exact hq
theorem av2 {fn:Func} {R:Ending→World→Prop} {t t2:Tmp} {b o:Nat} {ty:TypeId} {cs:List Value} {v2:Value} (hr:fn.results = #[.cell t ty,.tmp t2]) (ht:(Nat.blt t n && Nat.blt t2 n)=true) (hv:f t=.pointer (some ⟨b,o,none⟩)) (hv2:f t2=v2) (hag:asL P ty=some cs.length)
  (hc :∀j v,cs[j]? = some v→w.cell? ⟨b,o+j,none⟩=some v) (h:R (.returned (.tuple #[.agg cs.toArray,v2])) w):bodyPost P fn R .ret (Fr n f) w:=
 ⟨rfl,_,by
  simp only [Bool.and_eq_true] at ht
  have h1:t < n:=by simpa using ht.1
  have h2:t2 < n:=by simpa using ht.2
  have hl:=adK (P:=P) (w:=w) hag hc
  simp only [Instr.loadAt,Instr.sureAddr,Sem.run_bind,Sem.run_pure,Result.andThen_ok,bind_pure_comp,pure_bind] at hl
  simp only [results,hr]
  simp [Fr,h1,h2,hv,hv2,asAddr,hl],h⟩
end
end
section
open Go.RowKit
def encI (x:Int):List Value:=[.int .i64 x]
def T_ (x:Bool):List Value:=[.bool x]
/-- How the elements of a type of plain cells are laid. -/
structure GR {α:Type} (R:Rd α) (O:Ow α) (enc:α→List Value) (sz:Nat):Prop where
 pos:0 < sz
 len :∀x,(enc x).length=sz
 rd :∀{w B cs x},R w B cs x↔cs=enc x
 ow :∀{w x},O w (enc x) x []
 one :∀x,∀v∈enc x,v.oneCell'=true
theorem fI:GR nR mF encI 1:=⟨by decide,fun _=>rfl,Iff.rfl,⟨rfl,rfl⟩,fun x v hv=>by simp [encI] at hv; subst hv; rfl⟩
theorem fB:GR asH aKi T_ 1:=⟨by decide,fun _=>rfl,Iff.rfl,⟨rfl,rfl⟩,fun x v hv=>by simp [T_] at hv; subst hv; rfl⟩
section
variable {α : Type} {R : Rd α} {O : Ow α} {enc : α → List Value} {sz : Nat} {w w' : World} {lo lo' : Nat} {v : Value} {xs ys : List α} {e : TypeId}
theorem GR.az3 (F:GR R O enc sz) :∀xs:List α,(xs.flatMap enc).length=xs.length * sz
 |[]=>by simp
 |x :: xs=>by simp [F.len,F.az3 xs,Nat.add_mul]; omega
theorem GR.aXt (F:GR R O enc sz) {xs:List α} :∀u∈xs.flatMap enc,u.oneCell'=true:=fun u hu=>by
 obtain ⟨x,_,hx⟩:=List.mem_flatMap.1 hu
 exact F.one x u hx
theorem GR.aKn (F:GR R O enc sz) :∀{xs:List α} {i j:Nat} {x:α} {u:Value},xs[i]? = some x→(enc x)[j]? = some u→(xs.flatMap enc)[i * sz+j]? = some u
 |[],i,j,x,u,h,_=>by simp at h
 |y :: ys,0,j,x,u,h,hu=>by
  have:y=x:=by simpa using h
  subst this
  have hj:=lt_of_some hu
  simp only [Nat.zero_mul,Nat.zero_add,List.flatMap_cons]
  rw [List.getElem?_append_left hj]; exact hu
 |y :: ys,i+1,j,x,u,h,hu=>by
  have h':ys[i]? = some x:=by simpa using h
  have hl:(enc y).length=sz:=F.len y
  simp only [List.flatMap_cons]
  rw [List.getElem?_append_right (by rw [hl,Nat.add_mul]; omega),hl,show (i+1) * sz+j - sz=i * sz+j by rw [Nat.add_mul]; omega]
  exact F.aKn h' hu
/-- A slice of the call's own from block lo on, whole (it may be appended to). -/
def aA (e:TypeId) (enc:α→List Value) (sz:Nat) (w:World) (lo:Nat) (v:Value) (xs:List α):Prop:=w.ownsRow lo e sz v xs.length (xs.flatMap enc)
theorem aA.below (h:aA e enc sz w lo v xs) (hb:Below w.heap.size w w'):aA e enc sz w' lo v xs:=by
 refine ⟨h.1,?_⟩
 rcases h.2 with h2|⟨g,cap,cur,hv,hg,hh,r⟩
 ·exact .inl h2
 ·exact .inr ⟨g,cap,cur,hv,hg,(hb.block g (Array.getElem?_eq_some_iff.1 hh).1).trans hh,r⟩
theorem aA.mono (h:aA e enc sz w lo v xs) (hl:lo'≤lo):aA e enc sz w lo' v xs:=by
 refine ⟨h.1,?_⟩
 rcases h.2 with h2|⟨g,cap,cur,hv,hg,r⟩
 ·exact .inl h2
 ·exact .inr ⟨g,cap,cur,hv,by omega,r⟩
theorem aA.nil:aA e enc sz w lo (.slice none 0 0) ([] : List α):=⟨by simp,.inl ⟨rfl,rfl⟩⟩
theorem aA.lit {g n:Nat} {cells:Array Value} (B:dD w g e cells) (hg:lo≤g) (hc:cells.toList=xs.flatMap enc) (hn:n=xs.length) (hm:Nat.ble n 9223372036854775807=true) (hs:cells.size=n * sz):aA e enc sz w lo (.slice (some ⟨g,0,none⟩) n n) xs:=by
 subst hn
 exact ⟨by rw [← hc]; simpa using hs,.inr ⟨g,xs.length,cells,rfl,hg,B,Nat.le_refl _,by have:=Nat.le_of_ble_eq_true hm; unfold maxLen; omega,hs,by rw [hc,List.take_of_length_le]; rw [← hc]; simp [hs]⟩⟩
theorem aA.form (h:aA e enc sz w lo v xs) :∃A c,v=.slice A xs.length c:=by
 rcases h.2 with ⟨rfl,h0⟩|⟨g,cap,cur,hv,_⟩
 ·exact ⟨none,0,by rw [h0]⟩
 ·exact ⟨_,_,hv⟩
theorem aA.bound (h:aA e enc sz w lo v xs):xs.length≤9223372036854775807:=by
 rcases h.2 with ⟨_,h0⟩|⟨g,cap,cur,hv,hg,hh,h1,h2,_⟩
 ·omega
 ·unfold maxLen at h2; omega
theorem aA.own (F:GR R O enc sz) (h:aA e enc sz w lo v xs):OwS O sz w v xs lo w.heap.size:=by
 rcases h.2 with ⟨rfl,h0⟩|⟨g,cap,cur,rfl,hg,hh,h1,h2,h3,h4⟩
 ·have:xs=[]:=List.eq_nil_of_length_eq_zero h0
  subst this
  exact ⟨none,0,0,[],rfl,⟨rfl,.inl ⟨rfl,rfl⟩⟩,List.nodup_nil,fun b hb=>by simp at hb,Nat.le_refl _,Nat.zero_le _⟩
 ·have hblk:dD w g e cur:=hh
  refine ⟨some ⟨g,0,none⟩,_,cap,[g],rfl,⟨rfl,.inr ⟨g,0,[],rfl,rfl,?_⟩⟩,by simp,fun b hb=>by simp at hb; subst hb; exact ⟨hg,hblk.lt⟩,h1,h2⟩
  have key :∀(l:List α) (o:Nat),(∀j u,(l.flatMap enc)[j]? = some u→cur[o+j]? = some u)→vO O sz w g o l []:=by
   intro l
   induction l with
   |nil=>intro o _; rfl
   |cons x l ih=>
    intro o hl
    refine ⟨enc x,[],[],F.ow,hblk.aKj (fun j u hj=>hl j u ?_),rfl,ih (o+sz) (fun j u hj=>?_)⟩
    ·simp only [List.flatMap_cons]
     rw [List.getElem?_append_left (lt_of_some hj)]; exact hj
    ·have:=hl (sz+j) u (by
      simp only [List.flatMap_cons]
      rw [List.getElem?_append_right (by rw [F.len]; omega),F.len,show sz+j - sz=j by omega]; exact hj)
     rwa [show o+(sz+j)=o+sz+j by omega] at this
  refine key xs 0 (fun j u hj=>?_)
  rw [← h4,List.getElem?_take] at hj
  split at hj
  ·simpa using hj
  ·cases hj
theorem aA.rdS (F:GR R O enc sz) (h:aA e enc sz w lo v xs):RdS R sz w w.heap.size v xs:=by
 rcases h.2 with ⟨rfl,h0⟩|⟨g,cap,cur,rfl,hg,hh,h1,h2,h3,h4⟩
 ·have:xs=[]:=List.eq_nil_of_length_eq_zero h0
  subst this
  exact ⟨none,0,0,rfl,aY.none_,Nat.le_refl _,Nat.zero_le _⟩
 ·have hblk:dD w g e cur:=hh
  refine ⟨some ⟨g,0,none⟩,_,cap,rfl,⟨rfl,fun _=>⟨g,0,rfl,hblk.lt,fun i x hx=>⟨enc x,F.rd.2 rfl,fun j u hj=>?_⟩⟩⟩,h1,h2⟩
  have hk:=F.aKn hx hj
  rw [← h4,List.getElem?_take] at hk
  split at hk
  ·rw [hblk.cell,Nat.zero_add]; simpa using hk
  ·cases hk
theorem aA.arg (F:GR R O enc sz) (h:aA e enc sz w lo v xs):Sl R sz w v xs:=h.rdS F
theorem aA.lt (h:aA e enc sz w lo v xs) :∀b,v.ownBlock=some b→lo≤b∧b < w.heap.size:=World.ownsRow.lt h
/-- Another slice of the call's own while row 'row' grows. -/
theorem aA.kept {row:Option Nat} (h:aA e enc sz w lo v xs) (hg:w.grownBy w' row) (hne:v.ownBlock=none ∨ v.ownBlock ≠ row):aA e enc sz w' lo v xs:=World.ownsRow.kept h hg hne
theorem aA.only {b:Nat} (h:aA e enc sz w lo v xs) (ho:Only [b] w w') (hne:v.ownBlock ≠ some b):aA e enc sz w' lo v xs:=by
 refine ⟨h.1,?_⟩
 rcases h.2 with h2|⟨g,cap,cur,hv,hg,hh,r⟩
 ·exact .inl h2
 ·exact .inr ⟨g,cap,cur,hv,hg,(ho.block g (by intro hin; simp at hin; subst hin; exact hne (by rw [hv]; rfl))).trans hh,r⟩
theorem aA.far {b:Nat} (h:aA e enc sz w lo v xs) (hb:w.heap.size≤b):v.ownBlock ≠ some b:=fun hv=>by have:=(h.lt b hv).2; omega
theorem aY.flat (F:GR R O enc sz) {B n b o:Nat} (h:aY R sz w B (some ⟨b,o,none⟩) n xs) :∀j u,(xs.flatMap enc)[j]? = some u→w.cell? ⟨b,o+j,none⟩=some u:=fun j u hj=>by
 have hp:=F.pos
 have hlt:=lt_of_some hj
 rw [F.az3] at hlt
 have hi:j / sz < xs.length:=(Nat.div_lt_iff_lt_mul hp).2 hlt
 have hx:xs[j / sz]? = some xs[j / sz]:=List.getElem?_eq_getElem hi
 obtain ⟨cs,hR,hc⟩:=h.el hx
 obtain rfl:=F.rd.1 hR
 have hm:j % sz < (enc xs[j / sz]).length:=by rw [F.len]; exact Nat.mod_lt _ hp
 have h2:=F.aKn hx (List.getElem?_eq_getElem hm)
 have e:j / sz * sz+j % sz=j:=Nat.div_add_mod' j sz
 rw [e] at h2
 rw [h2] at hj
 injection hj with hj
 have h3:=hc (j % sz) _ (List.getElem?_eq_getElem hm)
 rw [Nat.add_assoc,e,hj] at h3
 exact h3
end
/-- What is asked of a slice type that is appended to. -/
structure afV (P:Program) (t e:TypeId) (z:Value) (sz bb:Nat):Prop where
 und:P.underlying t=some (.slice e)
 info:(P.info? e).map (fun i=>(i.zero,i.size,i.bytes))=some (some z,sz,bb)
 zs:z.cells.size=sz
 bb:bb≤256
section
variable {P : Program} {t e : TypeId} {z : Value} {sz bb : Nat} {w : World} {base : Nat}
theorem WL (A:afV P t e z sz bb) (hsz:0 < sz) {v:Value} {k:Nat} {xs:List Value} (hown:w.ownsRow base e sz v k xs) (hb:base≤w.heap.size) (ad:Addr) (m c:Nat) (news:List Value) (hl:news.length=m * sz)
  (hnews :∀j u,news[j]? = some u→w.cell? (ad.add j)=some u) (h1 :∀u∈news,u.oneCell'=true) (hk:k+m≤4294967296) (ty:TypeId) :
  ∃v' w',(Builtin.append_ #[t,t] ty #[v,.slice (some ad) m c]).run P w=.ok v' w'∧w'.ownsRow base e sz v' (k+m) (xs ++ news)∧w.grownBy w' v.ownBlock∧(∀b,v'.ownBlock=some b→v.ownBlock=some b ∨ w.heap.size≤b):=by
 obtain ⟨i0,hi,hz0,hz1,hz2⟩:=info_parts A.info
 have hby:(k+m) * bb≤140737488355328:=Nat.le_trans (Nat.mul_le_mul hk A.bb) (by decide)
 have hsm:k+m≤9223372036854775807:=by omega
 obtain ⟨v',w',hr,h2,h3,_⟩:=run_append_own (P:=P) w base t ty e i0 z sz bb A.und hi hz0 hz1 hz2 A.zs hsz v k xs hown ad m c news hl hnews h1 (by unfold maxLen; omega) hby hb
 refine ⟨v',w',hr,h2,h3,?_⟩
 subst hz1
 subst hz2
 have hxl:=hown.1
 have hl':=hl
 rcases hown.2 with ⟨rfl,rfl⟩|⟨g,cap,cur,rfl,hbg,hg,hnc,hcm,hcs,htake⟩
 ·by_cases hm:m=0
  ·subst hm
   have hn:news=[]:=List.eq_nil_of_length_eq_zero (by simpa using hl)
   subst hn
   have hr2:(Builtin.append_ #[t,t] ty #[.slice none 0 0,.slice (some ad) 0 c]).run P w=.ok (.slice none 0 0) w:=by
    simp [Builtin.append_,run_underlying A.und,sizeOf,typeInfo,hi,Builtin.lenOf,Builtin.firstCells,loadCells,loadCellsFrom]
   rw [hr2] at hr
   injection hr with e1 e2
   subst e1
   intro b hbk; simp [Value.ownBlock] at hbk
  ·have hr2:=run_append_nil (P:=P) w t ty e i0 z A.und hi hz0 ad m c news hl hnews (by omega) (by omega) (by have hb:=hby; simp only [Nat.zero_add] at hb; omega)
   rw [hr2] at hr
   injection hr with e1 e2
   subst e1
   intro b hbk
   simp [Value.ownBlock] at hbk
   exact .inr (by omega)
 ·by_cases hroom:k+m≤cap
  ·have hfit:k * i0.size+news.length≤cur.size:=by rw [hl,hcs,← Nat.add_mul]; exact Nat.mul_le_mul_right _ hroom
   have hr2:=run_append_room (P:=P) w t ty e i0 A.und hi g k cap cur hg ad m c news hl hnews h1 hroom hfit
   rw [hr2] at hr
   injection hr with e1 e2
   subst e1
   intro b hbk
   exact .inl hbk
  ·have holds :∀j u,xs[j]? = some u→w.cell? ((⟨g,0,none⟩:Addr).add j)=some u:=hown.cells (g:=g) rfl
   have hr2:=run_append_grow (P:=P) w t ty e i0 z A.und hi hz0 ⟨g,0,none⟩ k cap xs hown.1 holds ad m c news hl hnews (by omega) (by omega) (growslice_fits (by omega) hby)
   rw [hr2] at hr
   injection hr with e1 e2
   subst e1
   intro b hbk
   simp [Value.ownBlock] at hbk
   exact .inr (by omega)
theorem afh (A:afV P t e z sz bb) {v:Value} {k c:Nat} {xs:List Value} (hown:w.ownsRow base e sz v k xs) (ty:TypeId):(Builtin.append_ #[t,t] ty #[v,.slice none 0 c]).run P w=.ok v w:=by
 obtain ⟨i0,hi,hz0,hz1,hz2⟩:=info_parts A.info
 rcases hown.2 with ⟨rfl,rfl⟩|⟨g,cap,cur,rfl,_,_,hnc,_⟩
 ·simp [Builtin.append_,run_underlying A.und,sizeOf,typeInfo,hi,Builtin.lenOf,Builtin.firstCells]
 ·simp [Builtin.append_,run_underlying A.und,sizeOf,typeInfo,hi,Builtin.lenOf,Builtin.firstCells,hnc,storeCells]
end
section
variable {P : Program} {ops : Array Oper} {f : Nat → Value} {rest : List Oper} {Q : (Nat → Value) → World → Prop} {w : World} {d : Option Tmp} {ty : TypeId} {pos : String} {af : Array Edge} {g : Option (Nat × Bool)} {x y : Operand} {t e : TypeId} {z : Value} {sz bb : Nat}
theorem RL.append {α:Type} {R:Rd α} {O:Ow α} {enc:α→List Value} {v vy:Value} {xs ys:List α} {lo:Nat} (F:GR R O enc sz) (A:afV P t e z sz bb) (hg:gV f ops ⟨d,.call ⟨.builtin .append,#[x,y],#[t,t]⟩,ty,pos,af,g⟩=true)
  (hx:ev f x=v) (hy:ev f y=vy) (hv:aA e enc sz w lo v xs) (hr:Sl R sz w vy ys) (hlo:lo≤w.heap.size) (hk:xs.length+ys.length≤4294967296)
  (h :∀v' w1,aA e enc sz w1 lo v' (xs ++ ys)→w.grownBy w1 v.ownBlock→Below lo w w1→(∀b,v'.ownBlock=some b→v.ownBlock=some b ∨ w.heap.size≤b)→RL P ops Q rest (ED f d v') w1):RL P ops Q (⟨d,.call ⟨.builtin .append,#[x,y],#[t,t]⟩,ty,pos,af,g⟩ :: rest) f w:=by
 have hrun :∀v' w1,(Builtin.append_ #[t,t] ty #[v,vy]).run P w=.ok v' w1→(execOp (ev f) ⟨d,.call ⟨.builtin .append,#[x,y],#[t,t]⟩,ty,pos,af,g⟩).run P w=.ok (.value v') w1:=fun v' w1 h0=>by
  simp [execOp,resolve,invoke,builtin,hx,hy,h0]
 obtain ⟨Ay,n,c,rfl,hs,hnc,hcm⟩:=hr
 obtain rfl:=hs.len
 cases Ay with
 |none=>
  have h0:ys=[]:=by
   cases ys with
   |nil=>rfl
   |cons y0 ys=>obtain ⟨b,o,e0,_⟩:=hs.addr (by simp); cases e0
  subst h0
  refine .inl ⟨hg,?_⟩
  rw [hrun v w (afh A hv ty)]
  exact h v w (by simpa using hv) ⟨rfl,rfl,rfl,Nat.le_refl _,fun _ _ _=>rfl⟩ (Below.refl _ _) (fun b hb=>.inl hb)
 |some ad=>
  have hcells :∀j u,(ys.flatMap enc)[j]? = some u→w.cell? (ad.add j)=some u:=fun j u hj=>by
   have hlt:=lt_of_some hj
   rw [F.az3] at hlt
   have hpos:0 < ys.length:=by
    rcases Nat.eq_zero_or_pos ys.length with h0|h0
    ·rw [h0] at hlt; simp at hlt
    ·exact h0
   obtain ⟨b,o,e0,_⟩:=hs.addr hpos
   injection e0 with e0
   subst e0
   rw [Addr.add_eq]
   exact hs.flat F j u hj
  obtain ⟨v',w1,h0,h1,h2,h3⟩:=WL A F.pos hv hlo ad ys.length c (ys.flatMap enc) (F.az3 ys) hcells F.aXt hk ty
  refine .inl ⟨hg,?_⟩
  rw [hrun v' w1 h0]
  refine h v' w1 ?_ h2 ?_ h3
  ·unfold aA
   rw [List.length_append,List.flatMap_append]
   exact h1
  ·exact (Below.refl lo w).grown h2 hlo (fun b hb=>(hv.lt b hb).1)
end
section
variable {α : Type} {R : Rd α} {O : Ow α} {enc : α → List Value} {sz n c lo : Nat} {w w' : World} {v v' vx vy : Value} {xs ys : List α} {e : TypeId} {A : Option Addr}
theorem aA.sl (F:GR R O enc sz) (h:aA e enc sz w lo (.slice A n c) xs):aY R sz w w.heap.size A n xs∧n≤c∧c≤maxLen:=by
 obtain ⟨A',n',c',he,h1,h2⟩:=h.rdS F
 injection he with e1 e2 e3
 subst e1 e2 e3
 exact ⟨h1,h2⟩
theorem aA.cell {b k j:Nat} {x:α} {u:Value} (F:GR R O enc sz) (h:aA e enc sz w lo (.slice (some ⟨b,0,none⟩) n c) xs) (hx:xs[k]? = some x) (hu:(enc x)[j]? = some u):w.cell? ⟨b,0+k * sz+j,none⟩=some u:=by
 obtain ⟨cs,hR,hc⟩:=(h.sl F).1.el hx
 obtain rfl:=F.rd.1 hR
 exact hc j u hu
theorem aA.GU (h:aA e enc sz w lo (.slice A n c) xs) (hn:0 < n) :∃b,A=some ⟨b,0,none⟩:=by
 rcases h.2 with ⟨h0,_⟩|⟨g,cap,cur,hv,_⟩
 ·injection h0 with h1 h2; omega
 ·injection hv with h1; exact ⟨g,h1⟩
theorem az4 {b m:Nat} (hn :∀b,v'.ownBlock=some b→v.ownBlock=some b ∨ m≤b) (h:v.ownBlock ≠ some b) (hb:b < m):v'.ownBlock ≠ some b:=fun hv=>by
 rcases hn b hv with h1|h1
 ·exact h h1
 ·omega
/-- Two slices of the call's own lie apart. -/
def Dj (v u:Value):Prop:=∀b,v.ownBlock=some b→u.ownBlock=some b→False
theorem Dj.symm (h:Dj vx vy):Dj vy vx:=fun b h1 h2=>h b h2 h1
theorem Dj.app {m:Nat} (h:Dj v vx) (hn :∀b,v'.ownBlock=some b→v.ownBlock=some b ∨ m≤b) (hx :∀b,vx.ownBlock=some b→b < m):Dj v' vx:=fun b h1 h2=>by
 rcases hn b h1 with h3|h3
 ·exact h b h3 h2
 ·have:=hx b h2; omega
theorem Dj.new {m:Nat} (hv :∀b,v.ownBlock=some b→m≤b) (hx :∀b,vx.ownBlock=some b→b < m):Dj v vx:=fun b h1 h2=>by have:=hv b h1; have:=hx b h2; omega
theorem Dj.nil:Dj (.slice none 0 0) vx:=fun b h1 _=>by simp [Value.ownBlock] at h1
theorem aA.Aa (h:aA e enc sz w lo v xs) (hg:w.grownBy w' vx.ownBlock) (hd:Dj v vx):aA e enc sz w' lo v xs:=h.kept hg (by
 cases hv:v.ownBlock with
 |none=>exact .inl rfl
 |some b=>exact .inr (fun e=>hd b hv e.symm))
theorem dD.kept {b:Nat} {t:TypeId} {cs:Array Value} (h:dD w b t cs) (hg:w.grownBy w' v.ownBlock) (hn:v.ownBlock ≠ some b):dD w' b t cs:=(hg.block b h.lt (fun e=>hn e.symm)).trans h
theorem apP {b g n c:Nat} (h:b < g):(Value.slice (some ⟨g,0,none⟩) n c).ownBlock ≠ some b:=by intro e; simp [Value.ownBlock] at e; omega
theorem afi {g n c:Nat} :∀b,(Value.slice (some ⟨g,0,none⟩) n c).ownBlock=some b→g≤b:=by intro b e; simp [Value.ownBlock] at e; omega
theorem aA.hi (h:aA e enc sz w lo v xs) :∀b,v.ownBlock=some b→b < w.heap.size:=fun b hb=>(h.lt b hb).2
theorem aA.jB (h:aA e enc sz w lo v xs) :∀b,v.ownBlock=some b→lo≤b:=fun b hb=>(h.lt b hb).1
def kX {α:Type} (xs:List α) (i:Int) (x:α):List α:=xs.set i.toNat x
theorem apQ {α:Type} (xs:List α) (k:Nat) (x:α):kX xs (k:Int) x=xs.set k x:=rfl
theorem GR.aPE (F:GR R O enc sz) :∀{xs:List α} {i:Nat} {x:α},i < xs.length→(xs.set i x).flatMap enc=(xs.flatMap enc).take (i * sz) ++ enc x ++ (xs.flatMap enc).drop (i * sz+sz)
 |[],i,x,h=>by simp at h
 |y :: ys,0,x,_=>by
  have hl:(enc y).length=sz:=F.len y
  simp only [List.set_cons_zero,List.flatMap_cons,Nat.zero_mul,List.take_zero,List.nil_append,Nat.zero_add]
  rw [← hl,List.drop_left]
 |y :: ys,i+1,x,h=>by
  have hl:(enc y).length=sz:=F.len y
  have ih:=F.aPE (xs:=ys) (i:=i) (x:=x) (by simpa using h)
  simp only [List.set_cons_succ,List.flatMap_cons,ih]
  rw [show (i+1) * sz=sz+i * sz by rw [Nat.add_mul]; omega,show sz+i * sz+sz=sz+(i * sz+sz) by omega]
  have e1 :∀k,List.take (sz+k) (enc y ++ ys.flatMap enc)=enc y ++ List.take k (ys.flatMap enc):=fun k=>by rw [← hl,List.take_length_add_append]
  have e2 :∀k,List.drop (sz+k) (enc y ++ ys.flatMap enc)=List.drop k (ys.flatMap enc):=fun k=>by rw [← hl,List.drop_length_add_append]
  rw [e1,e2]
  simp
end
section
variable {P : Program} {ops : Array Oper} {f : Nat → Value} {rest : List Oper} {Q : (Nat → Value) → World → Prop} {w : World} {d : Option Tmp} {ty : TypeId} {pos : String} {af : Array Edge} {g : Option (Nat × Bool)} {x y : Operand} {t e : TypeId} {z : Value} {sz bb : Nat}
theorem KT {β:Type} {A E:List β} {p L:Nat} (hp:p+E.length≤L) (hL:L≤A.length):(A.take p ++ E ++ A.drop (p+E.length)).take L=(A.take L).take p ++ E ++ (A.take L).drop (p+E.length):=by
 rw [List.take_take,Nat.min_eq_left (by omega),List.take_append,List.take_of_length_le (by simp; omega),List.drop_take]
 congr 2
 simp
 omega
theorem RL.ano {α:Type} {R:Rd α} {O:Ow α} {enc:α→List Value} {v:Value} {xs:List α} {lo k n c b:Nat} {a:α} (F:GR R O enc sz) (hg:gV f ops ⟨d,.store t x y,ty,pos,af,g⟩=true) (hx:ev f x=.pointer (some ⟨b,0+k * sz,none⟩)) (hy:ev f y=v)
  (hv:aA e enc sz w lo (.slice (some ⟨b,0,none⟩) n c) xs) (hk:k < xs.length) (he:v.cells.toList=enc a) (hs:(P.info? t).map (·.size)=some sz)
  (h :∀w1,aA e enc sz w1 lo (.slice (some ⟨b,0,none⟩) n c) (xs.set k a)→Only [b] w w1→RL P ops Q rest (ED f d undef) w1):RL P ops Q (⟨d,.store t x y,ty,pos,af,g⟩ :: rest) f w:=by
 refine .inl ⟨hg,?_⟩
 cases hi:P.info? t with
 |none=>rw [hi] at hs; cases hs
 |some inf=>
  rw [hi] at hs
  simp only [Option.map_some,Option.some.injEq] at hs
  obtain ⟨hl,hv2⟩:=hv
  rcases hv2 with ⟨h0,_⟩|⟨b',cap,cur,hv,hlo,hh,h1,h2,h3,h4⟩
  ·cases h0
  ·injection hv with e1 e2 e3
   injection e1 with e1
   injection e1 with e1
   subst e1 e2 e3
   have hlen:v.cells.toList.length=sz:=by rw [he,F.len]
   have hkc:k * sz+sz≤xs.length * sz:=by
    have:=Nat.mul_le_mul_right sz (show k+1≤xs.length from hk)
    rw [Nat.add_mul] at this; omega
   have hcc:xs.length * sz≤cur.size:=by rw [h3]; exact Nat.mul_le_mul_right _ h1
   have hst:=run_storeCells_at (P:=P) b (k * sz) e v.cells.toList 0 cur w hh (by rw [hlen]; omega) (fun u hu=>F.one a u (by rw [← he]; exact hu))
   have hr:(execOp (ev f) ⟨d,.store t x y,ty,pos,af,g⟩).run P w=.ok .skip (w.setRow b (cur.toList.take (k * sz) ++ v.cells.toList ++ cur.toList.drop (k * sz+v.cells.toList.length)).toArray):=by
    simp only [Nat.add_zero] at hst
    have hsz:v.cells.size=inf.size:=by rw [hs,← hlen]; simp
    simp [execOp,hx,hy,Instr.storeAt,Instr.sureAddr,storeVar,sizeOf,typeInfo,hi,hsz,hst]
   rw [hr]
   refine h _ ⟨?_,.inr ⟨b,c,_,by rw [List.length_set],hlo,setRow_heap w b cur _ e _ hh,by rw [List.length_set]; exact h1,h2,?_,?_⟩⟩ (Gp _ _ _)
   ·rw [F.az3]
   ·simp only [List.size_toArray,List.length_append,List.length_take,List.length_drop,Array.length_toList,hlen]
    rw [← h3]; omega
   ·rw [F.aPE hk,he,F.len,List.length_set,← h4]
    have:=KT (A:=cur.toList) (E:=enc a) (p:=k * sz) (L:=xs.length * sz) (by rw [F.len]; omega) (by simpa using hcc)
    rw [F.len] at this
    simpa using this
theorem Ny {α:Type} {enc:α→List Value} {z0:α} (hz:z.cells.toList=enc z0) (hzs:z.cells.size=sz) (hp:0 < sz) :∀n:Nat,(madeCells z.cells (n * sz)).toList=(List.replicate n z0).flatMap enc:=by
 intro n
 apply List.ext_getElem?
 intro i
 have hlen :∀m:Nat,((List.replicate m z0).flatMap enc).length=m * sz:=fun m=>by
  induction m with
  |zero=>simp
  |succ m ih=>rw [List.replicate_succ,List.flatMap_cons,List.length_append,ih,← hz,Array.length_toList,hzs,Nat.add_mul]; omega
 have hget :∀(m i:Nat),i < m * sz→((List.replicate m z0).flatMap enc)[i]? = (enc z0)[i % sz]?:=fun m=>by
  induction m with
  |zero=>intro i hi; simp at hi
  |succ m ih=>
   intro i hi
   rw [List.replicate_succ,List.flatMap_cons]
   have hle:(enc z0).length=sz:=by rw [← hz,Array.length_toList,hzs]
   by_cases h:i < sz
   ·rw [List.getElem?_append_left (by omega),Nat.mod_eq_of_lt h]
   ·rw [List.getElem?_append_right (by omega),hle,ih (i - sz) (by rw [Nat.add_mul] at hi; omega)]
    congr 1
    conv=>rhs; rw [show i=i - sz+sz by omega,Nat.add_mod_right]
 by_cases hi:i < n * sz
 ·rw [hget n i hi,← hz]
  simp [madeCells,hi,hzs]
  have hm:i % sz < z.cells.size:=by rw [hzs]; exact Nat.mod_lt _ hp
  simp [hm]
 ·rw [List.getElem?_eq_none (by simp [madeCells]; omega),List.getElem?_eq_none (by rw [hlen]; omega)]
theorem RL.make {α:Type} {enc:α→List Value} {z0:α} {n:Nat} (A:afV P t e z sz bb) (hp:0 < sz) (hz:z.cells.toList=enc z0) (hg:gV f ops ⟨d,.makeSlice t x y,ty,pos,af,g⟩=true)
  (hx:ev f x=.int .i64 n) (hy:ev f y=.int .i64 n) (hn:n≤4294967296)
  (h :∀w1,aA e enc sz w1 w.heap.size (.slice (some ⟨w.heap.size,0,none⟩) n n) (List.replicate n z0)→Below w.heap.size w w1→w1.heap.size=w.heap.size+1→RL P ops Q rest (ED f d (.slice (some ⟨w.heap.size,0,none⟩) n n)) w1):RL P ops Q (⟨d,.makeSlice t x y,ty,pos,af,g⟩ :: rest) f w:=by
 refine .inl ⟨hg,?_⟩
 have hb:bb * n≤281474976710656:=Nat.le_trans (Nat.mul_le_mul A.bb hn) (by decide)
 have hr:(execOp (ev f) ⟨d,.makeSlice t x y,ty,pos,af,g⟩).run P w=.ok (.value (.slice (some ⟨w.heap.size,0,none⟩) n n)) (w.alloc (.cells (madeCells z.cells (n * sz)) e)):=by
  simp [execOp,hx,hy,afe t e A.und A.info n hb hn w]
 rw [hr]
 have hB:=dD.new w e (madeCells z.cells (n * sz))
 refine h _ ?_ (KQ _ _) (World.size_alloc _ _)
 refine ⟨?_,.inr ⟨w.heap.size,n,_,by simp,Nat.le_refl _,hB,by simp,by unfold maxLen; omega,WI _ _,?_⟩⟩
 ·rw [← Ny hz A.zs hp]; simp [madeCells]
 ·rw [← Ny hz A.zs hp,List.take_of_length_le (by simp [madeCells])]
end
end
section
open Go.RowKit
section
variable {P : Program} {ops : Array Oper} {S : World → Prop}
/-- Along an order: (number, does it only look?). -/
def RG (P:Program) (ops:Array Oper) (S:World→Prop) (Q:(Nat→Value)→World→Prop):List (Nat × Bool)→(Nat→Value)→World→Prop
 |[],f,w=>Q f w
 |(i,q) :: rest,f,w=>match ops[i]? with
  |none=>False
  |some o=>match q with
   |true=>∃v,((gV f ops o=true∧∀w,S w→(execOp (ev f) o).run P w=.ok (.value v) w) ∨ (gV f ops o=false∧v=undef))∧RG P ops S Q rest (ED f o.dst v) w
   |false=>(gV f ops o=true∧OpX P (fun v w'=>S w'∧RG P ops S Q rest (ED f o.dst v) w') ((execOp (ev f) o).run P w)) ∨ (gV f ops o=false∧S w∧RG P ops S Q rest (ED f o.dst undef) w)
def axw (ops:Array Oper):List (Nat × Bool)→Array Bool→Bool
 |[],listed=>(Region.ready .any ops listed).isEmpty
 |(i,q) :: rest,listed=>(match q with
   |true=>(Region.ready .any ops listed).contains i && Region.free .any ops listed i
   |false=>decide (Region.ready .any ops listed=[i])) && axw ops rest (listed.setIfInBounds i true)
theorem aKo {n:Nat} {Q:(Nat→Value)→World→Prop} {Q':Exit→Act→World→Prop} (hQ :∀f w,Q f w→Q' .normal (Fr n f) w) (hP :∀c a w,¬ Q' (.panic c) a w) (hsel:Region.noSelect ops=true) (hok :∀(i:Nat) (o:Oper),ops[i]? = some o→afU n ops o=true) :
  ∀(l:List (Nat × Bool)) (listed:Array Bool) (f:Nat→Value) (w:World),axw ops l listed=true→S w→RG P ops S Q l f w→wpAnyH P .any ops Q' S l.length listed (Fr n f) w
 |[],listed,f,w,hB,hS,h=>⟨by simpa [axw] using hB,hQ f w h⟩
 |(i,true) :: rest,listed,f,w,hB,hS,h=>by
  simp only [axw,Bool.and_eq_true] at hB
  obtain ⟨⟨hr,hf⟩,hB⟩:=hB
  unfold RG at h
  cases ho:ops[i]? with
  |none=>rw [ho] at h; exact h.elim
  |some o=>
   rw [ho] at h
   obtain ⟨v,h1,h2⟩:=h
   have hk:=hok i o ho
   refine wpAnyH_take ho hsel hf hr (fun c a w h=>absurd h (hP c _ w)) ?_ hS (v:=v) ?_
   ·rcases h1 with ⟨hw,h1⟩|⟨hw,e⟩
    ·exact .inl ⟨by rw [vW hk]; exact hw,fun w hw'=>by rw [MJ hk]; exact h1 w hw'⟩
    ·exact .inr ⟨by rw [vW hk]; exact hw,e⟩
   ·rw [Nw]
    exact aKo hQ hP hsel hok rest _ _ w hB hS h2
 |(i,false) :: rest,listed,f,w,hB,hS,h=>by
  simp only [axw,Bool.and_eq_true,decide_eq_true_eq] at hB
  obtain ⟨hr,hB⟩:=hB
  unfold RG at h
  cases ho:ops[i]? with
  |none=>rw [ho] at h; exact h.elim
  |some o=>
   rw [ho] at h
   have hk:=hok i o ho
   refine wpAnyH_all hr (by simp) fun j hj=>?_
   obtain rfl:j=i:=by simpa using hj
   unfold wpOp
   rw [ho]
   simp only
   rw [vW hk]
   have key :∀v w',S w'∧RG P ops S Q rest (ED f o.dst v) w'→S w'∧wpAnyH P .any ops Q' S rest.length (listed.setIfInBounds j true) ((Fr n f).put o.dst v) w':=fun v w' ⟨h1,h2⟩=>
    ⟨h1,by rw [Nw]; exact aKo hQ hP hsel hok rest _ _ w' hB h1 h2⟩
   rcases h with ⟨hw,h⟩|⟨hw,h1,h2⟩
   ·rw [hw,if_pos rfl]
    left
    unfold Oper.wp
    rw [MJ hk]
    refine anh ?_
    revert h
    generalize (execOp (ev f) o).run P w=r
    intro h
    cases r with
    |ok nx w'=>
     cases nx <;> simp only [OpX] at h ⊢ <;> try exact key _ _ h
     case enter g args=>exact h.mono fun e w'' ⟨v,he,hk⟩=>⟨v,he,key _ _ hk⟩
    |halt x w'=>simp only [OpX] at h
   ·rw [hw,if_neg (by decide)]
    exact key _ _ ⟨h1,h2⟩
/-- Q, but 'False' at a panic. -/
def noP (Q:Exit→Act→World→Prop):Exit→Act→World→Prop
 |.panic _,_,_=>False
 |e,a,w=>Q e a w
theorem az5 {id n:Nat} {l:List Oper} {f:Nat→Value} {w:World} {Q:Exit→Act→World→Prop} (S:World→Prop) (ord:List (Nat × Bool)) (hm:P.follows .mixedOrders=true)
  (hin:(abb n l && Region.noSelect l.toArray && decide (ord.length=l.length) && axw l.toArray ord (Array.replicate l.length false))=true)
  (h :∀w1,Below w.heap.size w w1→w1.heap.size=w.heap.size→S w1∧RG P l.toArray S (fun f' w'=>Q .normal (Fr n f') w') ord f w1):(Code.region id l.toArray true).wp P Q (Fr n f) w:=by
 simp only [Bool.and_eq_true,decide_eq_true_eq] at hin
 obtain ⟨⟨⟨h1,h2⟩,h3⟩,h4⟩:=hin
 refine Code.wp_mono (Q:=noP Q) (fun e a w hq=>by cases e <;> first|exact hq|exact hq.elim) ?_
 refine wp_region_held (S:=S) hm ?_
 obtain ⟨hS,hR⟩:=h { w with drawn:=w.drawn+1 } ⟨rfl,rfl,rfl,Nat.le_refl _,fun _ _=>rfl⟩ rfl
 have:=aKo (Q':=noP Q) (n:=n) (fun f w h=>h) (fun c a w h=>h) h2 (fun i o ho=>List.all_eq_true.1 h1 o (by
  have:l[i]? = some o:=by simpa using ho
  exact List.mem_of_getElem? this)) ord _ f _ h4 hS hR
 rw [h3] at this
 simpa using this
variable {Q : (Nat → Value) → World → Prop} {rest : List (Nat × Bool)} {f : Nat → Value} {w : World} {i : Nat} {o : Oper}
theorem RG.nil (h:Q f w):RG P ops S Q [] f w:=h
theorem RG.y {v:Value} (ho:ops[i]? = some o) (hg:gV f ops o=true) (hy:Y P S f o v) (h:RG P ops S Q rest (ED f o.dst v) w):RG P ops S Q ((i,true) :: rest) f w:=by
 unfold RG; rw [ho]; exact ⟨v,.inl ⟨hg,hy⟩,h⟩
/-- An operation that acts: by its law for lists, what follows with S shown anew. -/
theorem RG.act (ho:ops[i]? = some o) (h:RL P ops (fun f' w'=>S w'∧RG P ops S Q rest f' w') [o] f w):RG P ops S Q ((i,false) :: rest) f w:=by
 unfold RG
 rw [ho]
 unfold RL at h
 rcases h with ⟨hw,h⟩|⟨hw,h⟩
 ·exact .inl ⟨hw,h⟩
 ·exact .inr ⟨hw,h.1,h.2⟩
end
end
section
open Go.RowKit
theorem dB {n : Nat} : n ≤ n := Nat.le_refl n
theorem bI {α : Type} {R : Rd α} {sz B n c : Nat} {w : World} {A : Option Addr} {xs : List α} (h : aY R sz w B A n xs) (r : n ≤ c ∧ c ≤ maxLen) : n = xs.length ∧ n ≤ 9223372036854775807 := ⟨h.len, anm r⟩
section
variable {P : Program} {ops : Array Oper} {C : World → Prop} {f : Nat → Value} {rest : List Oper} {Qf : (Nat → Value) → Prop} {Q : (Nat → Value) → World → Prop} {w : World}
variable {d : Option Tmp} {ty : TypeId} {pos : String} {af : Array Edge} {g : Option (Nat × Bool)} {x y c : Operand} {v : Value} {t t' : TypeId}
theorem dF (v : Value) (h : RQ P ops C Qf rest (ED f d v)) (hx : ev f x = v := by exact rfl) (hg : gV f ops ⟨d, .move x, ty, pos, af, g⟩ = true := by exact rfl) : RQ P ops C Qf (⟨d, .move x, ty, pos, af, g⟩ :: rest) f := RQ.y hg (Y.move hx) h
theorem aT (hx : ev f x = v) (h : RQ P ops C Qf rest (ED f d v)) (hg : gV f ops ⟨d, .move x, ty, pos, af, g⟩ = true := by exact rfl) : RQ P ops C Qf (⟨d, .move x, ty, pos, af, g⟩ :: rest) f := RQ.y hg (Y.move hx) h
theorem aW (v : Value) (h : RQ P ops C Qf rest (ED f d v)) (hx : ev f x = v := by exact rfl) (hg : gV f ops ⟨d, .assign x, ty, pos, af, g⟩ = true := by exact rfl) : RQ P ops C Qf (⟨d, .assign x, ty, pos, af, g⟩ :: rest) f := RQ.y hg (Y.assign hx) h
theorem baf (hx : ev f x = v) (h : RQ P ops C Qf rest (ED f d v)) (hg : gV f ops ⟨d, .assign x, ty, pos, af, g⟩ = true := by exact rfl) : RQ P ops C Qf (⟨d, .assign x, ty, pos, af, g⟩ :: rest) f := RQ.y hg (Y.assign hx) h
theorem gy {i b o : Nat} (off : Nat) (hx : ev f x = .pointer (some ⟨b, o, none⟩)) (h : RQ P ops C Qf rest (ED f d (.pointer (some ⟨b, o + off, none⟩)))) (ht : anj P t i = some off := by kernel_rfl) (hg : gV f ops ⟨d, .fieldAddr t x i, ty, pos, af, g⟩ = true := by exact rfl) : RQ P ops C Qf (⟨d, .fieldAddr t x i, ty, pos, af, g⟩ :: rest) f := RQ.y hg (Y.fieldAddr hx ht) h
theorem gZ {A : Addr} (v : Value) (hx : ev f x = .pointer (some A)) (hc : l7 C A v) (h : RQ P ops C Qf rest (ED f d v)) (ht : az1 P t = true := by kernel_rfl) (hg : gV f ops ⟨d, .load t x, ty, pos, af, g⟩ = true := by exact rfl) : RQ P ops C Qf (⟨d, .load t x, ty, pos, af, g⟩ :: rest) f := RQ.y hg (Y.load hx ht hc) h
theorem LC {b o : Nat} (cs : List Value) (hx : ev f x = .pointer (some ⟨b, o, none⟩)) (hc : MK C b o cs) (h : RQ P ops C Qf rest (ED f d (.agg cs.toArray))) (ht : asL P t = some cs.length := by kernel_rfl) (hg : gV f ops ⟨d, .load t x, ty, pos, af, g⟩ = true := by exact rfl) : RQ P ops C Qf (⟨d, .load t x, ty, pos, af, g⟩ :: rest) f := RQ.y hg (Y.wH hx ht hc) h
theorem uZ {o : BinOp} {k : IntKind} {m n : Int} (v : Value) (hx : ev f x = .int k m) (hy : ev f y = .int k n) (hr : dS o k m n = some v) (h : RQ P ops C Qf rest (ED f d v)) (hg : gV f ops ⟨d, .binOp o t x y t', ty, pos, af, g⟩ = true := by exact rfl) : RQ P ops C Qf (⟨d, .binOp o t x y t', ty, pos, af, g⟩ :: rest) f := RQ.y hg (Y.dS hx hy hr) h
theorem iq {o : BinOp} {k : IntKind} {m n : Int} (v : Value) (h : RQ P ops C Qf rest (ED f d v)) (hx : ev f x = .int k m := by exact rfl) (hy : ev f y = .int k n := by exact rfl) (hr : dS o k m n = some v := by exact rfl) (hg : gV f ops ⟨d, .binOp o t x y t', ty, pos, af, g⟩ = true := by exact rfl) : RQ P ops C Qf (⟨d, .binOp o t x y t', ty, pos, af, g⟩ :: rest) f := RQ.y hg (Y.dS hx hy hr) h
theorem dN (b : Bool) (v : Value) (hc : ev f c = .bool b) (h : RQ P ops C Qf rest (ED f d v)) (hv : (bif b then ev f x else ev f y) = v := by exact rfl) (hg : gV f ops ⟨d, .pick c x y, ty, pos, af, g⟩ = true := by exact rfl) : RQ P ops C Qf (⟨d, .pick c x y, ty, pos, af, g⟩ :: rest) f := RQ.y hg (Y.pick hc hv) h
theorem Du {A : Addr} (hx : ev f x = .pointer (some A)) (h : RQ P ops C Qf rest (ED f d (.pointer (some A)))) (hg : gV f ops ⟨d, .nilCheck x, ty, pos, af, g⟩ = true := by exact rfl) : RQ P ops C Qf (⟨d, .nilCheck x, ty, pos, af, g⟩ :: rest) f := RQ.y hg (Y.nilCheck hx) h
theorem yH {A : Option Addr} {n c : Nat} (hx : ev f x = .slice A n c) (h : RQ P ops C Qf rest (ED f d (.int .i64 n))) (ht : sliceT P t = true := by kernel_rfl) (hg : gV f ops ⟨d, .call ⟨.builtin .len, #[x], #[t]⟩, ty, pos, af, g⟩ = true := by exact rfl) : RQ P ops C Qf (⟨d, .call ⟨.builtin .len, #[x], #[t]⟩, ty, pos, af, g⟩ :: rest) f := RQ.y hg (Y.len ht hx) h
theorem aLm (v : Value) (h : RL P ops Q rest (ED f d v) w) (hx : ev f x = v := by exact rfl) (hg : gV f ops ⟨d, .move x, ty, pos, af, g⟩ = true := by exact rfl) : RL P ops Q (⟨d, .move x, ty, pos, af, g⟩ :: rest) f w := RL.y hg (Y.move hx) h
theorem kE (hx : ev f x = v) (h : RL P ops Q rest (ED f d v) w) (hg : gV f ops ⟨d, .move x, ty, pos, af, g⟩ = true := by exact rfl) : RL P ops Q (⟨d, .move x, ty, pos, af, g⟩ :: rest) f w := RL.y hg (Y.move hx) h
theorem Ez (v : Value) (h : RL P ops Q rest (ED f d v) w) (hx : ev f x = v := by exact rfl) (hg : gV f ops ⟨d, .assign x, ty, pos, af, g⟩ = true := by exact rfl) : RL P ops Q (⟨d, .assign x, ty, pos, af, g⟩ :: rest) f w := RL.y hg (Y.assign hx) h
theorem bag (hx : ev f x = v) (h : RL P ops Q rest (ED f d v) w) (hg : gV f ops ⟨d, .assign x, ty, pos, af, g⟩ = true := by exact rfl) : RL P ops Q (⟨d, .assign x, ty, pos, af, g⟩ :: rest) f w := RL.y hg (Y.assign hx) h
theorem rC {i b o : Nat} (off : Nat) (hx : ev f x = .pointer (some ⟨b, o, none⟩)) (h : RL P ops Q rest (ED f d (.pointer (some ⟨b, o + off, none⟩))) w) (ht : anj P t i = some off := by kernel_rfl) (hg : gV f ops ⟨d, .fieldAddr t x i, ty, pos, af, g⟩ = true := by exact rfl) : RL P ops Q (⟨d, .fieldAddr t x i, ty, pos, af, g⟩ :: rest) f w := RL.y hg (Y.fieldAddr hx ht) h
theorem I7 {A : Addr} (v : Value) (hx : ev f x = .pointer (some A)) (hc : l7 (· = w) A v) (h : RL P ops Q rest (ED f d v) w) (ht : az1 P t = true := by kernel_rfl) (hg : gV f ops ⟨d, .load t x, ty, pos, af, g⟩ = true := by exact rfl) : RL P ops Q (⟨d, .load t x, ty, pos, af, g⟩ :: rest) f w := RL.y hg (Y.load hx ht hc) h
theorem Sm {b o : Nat} (cs : List Value) (hx : ev f x = .pointer (some ⟨b, o, none⟩)) (hc : MK (· = w) b o cs) (h : RL P ops Q rest (ED f d (.agg cs.toArray)) w) (ht : asL P t = some cs.length := by kernel_rfl) (hg : gV f ops ⟨d, .load t x, ty, pos, af, g⟩ = true := by exact rfl) : RL P ops Q (⟨d, .load t x, ty, pos, af, g⟩ :: rest) f w := RL.y hg (Y.wH hx ht hc) h
theorem aPF {o : BinOp} {k : IntKind} {m n : Int} (v : Value) (hx : ev f x = .int k m) (hy : ev f y = .int k n) (hr : dS o k m n = some v) (h : RL P ops Q rest (ED f d v) w) (hg : gV f ops ⟨d, .binOp o t x y t', ty, pos, af, g⟩ = true := by exact rfl) : RL P ops Q (⟨d, .binOp o t x y t', ty, pos, af, g⟩ :: rest) f w := RL.y hg (Y.dS hx hy hr) h
theorem aLb {o : BinOp} {k : IntKind} {m n : Int} (v : Value) (h : RL P ops Q rest (ED f d v) w) (hx : ev f x = .int k m := by exact rfl) (hy : ev f y = .int k n := by exact rfl) (hr : dS o k m n = some v := by exact rfl) (hg : gV f ops ⟨d, .binOp o t x y t', ty, pos, af, g⟩ = true := by exact rfl) : RL P ops Q (⟨d, .binOp o t x y t', ty, pos, af, g⟩ :: rest) f w := RL.y hg (Y.dS hx hy hr) h
theorem aLp (b : Bool) (v : Value) (hc : ev f c = .bool b) (h : RL P ops Q rest (ED f d v) w) (hv : (bif b then ev f x else ev f y) = v := by exact rfl) (hg : gV f ops ⟨d, .pick c x y, ty, pos, af, g⟩ = true := by exact rfl) : RL P ops Q (⟨d, .pick c x y, ty, pos, af, g⟩ :: rest) f w := RL.y hg (Y.pick hc hv) h
theorem aLn {A : Addr} (hx : ev f x = .pointer (some A)) (h : RL P ops Q rest (ED f d (.pointer (some A))) w) (hg : gV f ops ⟨d, .nilCheck x, ty, pos, af, g⟩ = true := by exact rfl) : RL P ops Q (⟨d, .nilCheck x, ty, pos, af, g⟩ :: rest) f w := RL.y hg (Y.nilCheck hx) h
theorem aLz {A : Option Addr} {n c : Nat} (hx : ev f x = .slice A n c) (h : RL P ops Q rest (ED f d (.int .i64 n)) w) (ht : sliceT P t = true := by kernel_rfl) (hg : gV f ops ⟨d, .call ⟨.builtin .len, #[x], #[t]⟩, ty, pos, af, g⟩ = true := by exact rfl) : RL P ops Q (⟨d, .call ⟨.builtin .len, #[x], #[t]⟩, ty, pos, af, g⟩ :: rest) f w := RL.y hg (Y.len ht hx) h
end
section
variable {f : Nat → Value} {ops : Array Oper} {d : Option Tmp} {op : Op} {ty : TypeId} {pos : String} {af : Array Edge} {j : Nat} {want b : Bool}
theorem bT (dj : Nat) (c : b = want) (hj : (ops[j]?).bind (·.dst) = some dj := by exact rfl) (hv : f dj = .bool b := by exact rfl) : gV f ops ⟨d, op, ty, pos, af, some (j, want)⟩ = true := eG hj (vb hv c)
theorem oL {b2 : Bool} (dj : Nat) (c : b = b2) (hj : (ops[j]?).bind (·.dst) = some dj := by exact rfl) (hv : f dj = .bool b := by exact rfl) (hne : (b2 == want) = false := by exact rfl) : gV f ops ⟨d, op, ty, pos, af, some (j, want)⟩ = false := Gq hj (vb hv c) hne
theorem zZ (dj : Nat) (hj : (ops[j]?).bind (·.dst) = some dj := by exact rfl) (hv : f dj = .bool b := by exact rfl) (hne : (b == want) = false := by exact rfl) : gV f ops ⟨d, op, ty, pos, af, some (j, want)⟩ = false := Gq hj hv hne
variable {P : Program} {w : World} {n : Nat} {Q : Exit → Act → World → Prop} {x y : Code} {c : Operand}
theorem ig (e : b = true) (h : x.wp P Q (Fr n f) w) (hin : asJ n c = true := by exact rfl) (hc : ev f c = .bool b := by exact rfl) : (Code.cond c x y).wp P Q (Fr n f) w := dX hin (vb hc e) h
theorem iH (e : b = false) (h : y.wp P Q (Fr n f) w) (hin : asJ n c = true := by exact rfl) (hc : ev f c = .bool b := by exact rfl) : (Code.cond c x y).wp P Q (Fr n f) w := gU hin (vb hc e) h
end
end
section
open Go.RowKit
set_option maxRecDepth 100000
def uq (d0:Int):Option Bool:=
  (bif (decide (d0 ≥ 0)) then some (decide (d0 < 24)) else some false)
set_option maxHeartbeats 2000000 in
theorem Md (d0:Int) (r:Bool) (hm:uq d0=some r)  (w:World)  :
    Calls Tryz.prog 127 #[.int .i64 d0] w fun e w'=>e=.returned (.bool r)∧Below w.heap.size w w':=by
  have T:=Below.refl w.heap.size w;unfold uq at hm;refine enter 9 Tryz.func127 rfl rfl rfl ?_;intro f hf;have s0:f 0=.int .i64 d0:=hf 0 _ rfl;refine wp_seq<|au rfl<|aW (.bool false)<|RQ.nil<|ah<|wp_seq<|au rfl<|aT s0<|iq (.bool (decide (d0 ≥ 0)))<|dF (.bool (decide (d0 ≥ 0))) ?_;rcases aB (decide (d0 ≥ 0)) with c1|c1
  ·replace hm:=cF c1 hm;have pc1:=of_decide_eq_false c1;refine RQ.skip (oL 5 c1)<|RQ.skip (oL 5 c1)<|dN false (.bool false) (vb rfl c1)<|aW (.bool false)<|RQ.nil<|ah<|wp_ret ?_
   cases hm
   exact (aV rfl rfl rfl ⟨rfl,T⟩)
  replace hm:=cT c1 hm;have pc1:=of_decide_eq_true c1;refine RQ.y (bT 5 c1) (Y.move (v:=.int .i64 d0) s0)<|RQ.y (bT 5 c1) (Y.dS (v:=.bool (decide (d0 < 24))) rfl rfl rfl)<|dN true (.bool (decide (d0 < 24))) (vb rfl c1)<|aW (.bool (decide (d0 < 24)))<|RQ.nil<|ah<|wp_ret ?_
  cases hm
  exact (aV rfl rfl rfl ⟨rfl,T⟩)
def Bl (d0:Int):Option Bool:=
  (bif (decide (d0 ≥ (-2147483648))) then some (decide (d0≤2147483647)) else some false)
set_option maxHeartbeats 2000000 in
theorem Nz (d0:Int) (r:Bool) (hm:Bl d0=some r)  (w:World)  :
    Calls Tryz.prog 99 #[.int .i64 d0] w fun e w'=>e=.returned (.bool r)∧Below w.heap.size w w':=by
  have T:=Below.refl w.heap.size w;unfold Bl at hm;refine enter 9 Tryz.func99 rfl rfl rfl ?_;intro f hf;have s0:f 0=.int .i64 d0:=hf 0 _ rfl;refine wp_seq<|au rfl<|aW (.bool false)<|RQ.nil<|ah<|wp_seq<|au rfl<|aT s0<|iq (.bool (decide (d0 ≥ (-2147483648))))<|dF (.bool (decide (d0 ≥ (-2147483648)))) ?_;rcases aB (decide (d0 ≥ (-2147483648))) with c1|c1
  ·replace hm:=cF c1 hm;have pc1:=of_decide_eq_false c1;refine RQ.skip (oL 5 c1)<|RQ.skip (oL 5 c1)<|dN false (.bool false) (vb rfl c1)<|aW (.bool false)<|RQ.nil<|ah<|wp_ret ?_
   cases hm
   exact (aV rfl rfl rfl ⟨rfl,T⟩)
  replace hm:=cT c1 hm;have pc1:=of_decide_eq_true c1;refine RQ.y (bT 5 c1) (Y.move (v:=.int .i64 d0) s0)<|RQ.y (bT 5 c1) (Y.dS (v:=.bool (decide (d0≤2147483647))) rfl rfl rfl)<|dN true (.bool (decide (d0≤2147483647))) (vb rfl c1)<|aW (.bool (decide (d0≤2147483647)))<|RQ.nil<|ah<|wp_ret ?_
  cases hm
  exact (aV rfl rfl rfl ⟨rfl,T⟩)
def lK (d0:Int):Option Bool:=
  (bif (decide (d0 ≥ 1)) then some (decide (d0≤6)) else some false)
set_option maxHeartbeats 2000000 in
theorem u_ (d0:Int) (r:Bool) (hm:lK d0=some r)  (w:World)  :
    Calls Tryz.prog 98 #[.int .i64 d0] w fun e w'=>e=.returned (.bool r)∧Below w.heap.size w w':=by
  have T:=Below.refl w.heap.size w;unfold lK at hm;refine enter 9 Tryz.func98 rfl rfl rfl ?_;intro f hf;have s0:f 0=.int .i64 d0:=hf 0 _ rfl;refine wp_seq<|au rfl<|aW (.bool false)<|RQ.nil<|ah<|wp_seq<|au rfl<|aT s0<|iq (.bool (decide (d0 ≥ 1)))<|dF (.bool (decide (d0 ≥ 1))) ?_;rcases aB (decide (d0 ≥ 1)) with c1|c1
  ·replace hm:=cF c1 hm;have pc1:=of_decide_eq_false c1;refine RQ.skip (oL 5 c1)<|RQ.skip (oL 5 c1)<|dN false (.bool false) (vb rfl c1)<|aW (.bool false)<|RQ.nil<|ah<|wp_ret ?_
   cases hm
   exact (aV rfl rfl rfl ⟨rfl,T⟩)
  replace hm:=cT c1 hm;have pc1:=of_decide_eq_true c1;refine RQ.y (bT 5 c1) (Y.move (v:=.int .i64 d0) s0)<|RQ.y (bT 5 c1) (Y.dS (v:=.bool (decide (d0≤6))) rfl rfl rfl)<|dN true (.bool (decide (d0≤6))) (vb rfl c1)<|aW (.bool (decide (d0≤6)))<|RQ.nil<|ah<|wp_ret ?_
  cases hm
  exact (aV rfl rfl rfl ⟨rfl,T⟩)
def D5 (d0:Bool):Option Int:=
  (bif d0 then some 1 else some 0)
set_option maxHeartbeats 2000000 in
theorem NC (d0:Bool) (r:Int) (hm:D5 d0=some r)  (w:World)  :
    Calls Tryz.prog 122 #[.bool d0] w fun e w'=>e=.returned (.int .i64 r)∧Below w.heap.size w w':=by
  have T:=Below.refl w.heap.size w;unfold D5 at hm;refine enter 4 Tryz.func122 rfl rfl rfl ?_;intro f hf;have s0:f 0=.bool d0:=hf 0 _ rfl;refine wp_seq<|au rfl<|aW (.int .i64 0)<|RQ.nil<|ah<|wp_seq<|wp_seq<|au rfl<|aT s0<|RQ.nil<|ah ?_;rcases aB d0 with c1|c1
  ·replace hm:=cF c1 hm;refine iH c1<|wp_skip<|ah<|wp_seq<|au rfl<|aW (.int .i64 0)<|RQ.nil<|ah<|wp_ret ?_
   cases hm
   exact (aV rfl rfl rfl ⟨rfl,T⟩)
  replace hm:=cT c1 hm;refine ig c1<|wp_seq<|au rfl<|aW (.int .i64 1)<|RQ.nil<|ah<|wp_ret ?_
  cases hm
  exact (aF (aV rfl rfl rfl ⟨rfl,T⟩))
end
section
open Go.RowKit
theorem Gs:afV Tryz.prog 25 2 (.int .i64 0) 1 8:=⟨by kernel_rfl,by kernel_rfl,rfl,by decide⟩
theorem apR:afV Tryz.prog 70 4 (.bool false) 1 1:=⟨by kernel_rfl,by kernel_rfl,rfl,by decide⟩
end
section
open Go.RowKit
set_option maxRecDepth 100000
def iY:Option Int:=
  some (-1)
def fK (d0:List Int) (d1:Int→Option Bool) (eU:Int→Option Int) (K1:Option Int) (i2:Int):Option Int:=
  (bif (decide (i2 < (d0.length:Int))) then ((fC d0 i2).bind fun x5=>((d1 x5).bind fun uN=>(bif uN then some i2 else (eU (i2+1))))) else (K1))
def dO (d0:List Int) (d1:Int→Option Bool) (K1:Option Int):Nat→Int→Option Int
  |0,_=>none
  |g+1,i2=>fK d0 d1 (dO d0 d1 K1 g) K1 i2
def jO (d0:List Int) (d1:Int→Option Bool):Option Int:=
  (dO d0 d1 iY (d0.length+1) 0)
set_option maxHeartbeats 2000000 in
theorem GV (d0:List Int) (d1:Int→Option Bool) (r:Int) (hm:jO d0 d1=some r) (v0:Value) (PE:FuncId) (qx:Array Value) (w:World) (hv0:Sl nR 1 w v0 d0) (aan:isGo Tryz.prog PE=true) (hf1 :∀(x0:Int) (b:Bool),d1 x0=some b→∀w1,Below w.heap.size w w1→Calls Tryz.prog PE (#[.int .i64 x0] ++ qx) w1 fun e w2=>e=.returned (.bool b)∧Below w1.heap.size w1 w2) :
    Calls Tryz.prog 114 #[v0,.func (.func PE) #[] qx] w fun e w'=>e=.returned (.int .i64 r)∧Below w.heap.size w w':=by
  obtain ⟨Bc,na0,ca0,rfl,ha0,GN⟩:=hv0;obtain ⟨rfl,qa0⟩:=bI ha0 GN;have T:=Below.refl w.heap.size w;unfold jO at hm;refine enter 19 Tryz.func114 rfl rfl rfl ?_;intro f hf;have s0:f 0=.slice Bc d0.length ca0:=hf 0 _ rfl;have s1:f 1=.func (.func PE) #[] qx:=hf 1 _ rfl;refine wp_seq<|au rfl<|aW (.int .i64 0)<|RQ.nil<|ah<|wp_seq<|wp_seq<|au rfl<|aT s0<|yH rfl<|dF (.int .i64 0)<|RQ.nil<|ah<|wp_block ?_;obtain ⟨K1,hK1,hm⟩ :∃K,K=iY∧dO d0 d1 K (d0.length+1) 0=some r:=⟨_,rfl,hm⟩;refine dG (fun g f w'=>∃(i2:Int),f 0=.slice Bc d0.length ca0∧f 1=.func (.func PE) #[] qx∧f 7=.int .i64 (d0.length:Int)∧f 8=.int .i64 i2∧0≤i2∧Below w.heap.size w w'∧dO d0 d1 K1 g i2=some r) 0 (fun f w'=>Below w.heap.size w w'∧iY  = some r) (d0.length+1) ⟨0,s0,s1,rfl,rfl,(by omega),T,hm⟩ ?_ ?_
  ·rintro f w1 ⟨T,hm⟩;unfold iY at hm;refine dW (ah ?_);refine wp_seq<|au rfl<|aW (.int .i64 (-1))<|RQ.nil<|ah<|wp_ret ?_
   cases hm
   exact (aV rfl rfl rfl ⟨rfl,T⟩)
  rintro g f w3 ⟨i2,dQ,iF,D6,Qz,av3,T,hm⟩;rcases g with _|g
  ·simp only [dO] at hm; cases hm
  obtain ⟨eU,d_,hm⟩ :∃z,z=dO d0 d1 K1 g∧fK d0 d1 z K1 i2=some r:=⟨_,rfl,hm⟩;unfold fK at hm;refine wp_seq<|au rfl<|uZ (.bool (decide (i2 < (d0.length:Int)))) Qz D6 rfl<|RQ.nil<|ah<|wp_seq ?_;rcases aB (decide (i2 < (d0.length:Int))) with c4|c4
  ·replace hm:=cF c4 hm;have pc4:=of_decide_eq_false c4;refine iH c4<|wp_exit ?_;exact (bQ (bQ (iW ⟨_,rfl,⟨T,(by rw [hK1] at hm; exact hm)⟩⟩)))
  replace hm:=cT c4 hm;have pc4:=of_decide_eq_true c4;refine ig c4<|wp_skip<|ah<|wp_seq<|wp_block<|wp_seq<|au rfl<|aT Qz<|aW (.int .i64 i2)<|RQ.nil<|ah<|wp_seq<|cZ rfl<|aT iF<|aT dQ<|dF (.int .i64 i2) ?_;obtain ⟨x5,hx8,hm⟩:=bnd hm;obtain ⟨k6,hk9,az6,hx8⟩:=aU hx8;obtain ⟨b12,o13,rfl,av4⟩:=ha0.addr (by omega);obtain ⟨cs7,afj,aao⟩:=ha0.el hx8;have aIZ:=afj;obtain rfl:=afj;refine RQ.y rfl (Y.indexAddr (m:=k6) (sz:=1) rfl rfl hk9 az6 (by kernel_rfl))<|gZ (.int .i64 x5) rfl (bV (cellT T (aao 0 _ rfl))) ?_;obtain ⟨uN,e15,hm⟩:=bnd hm;refine RQ.Jb rfl rfl (qZ rfl) aan (v:=.bool uN) (bel (K:=fun _=>True) fun w' hb'=>hf1 x5 uN e15 w' (Tt T hb'))<|RQ.nil ?_;intro w16 Dq;have av5:=Dq.size;have T:=Tt T Dq;refine ah ?_;rcases aB uN with c18|c18
  ·replace hm:=cF c18 hm;refine iH c18<|wp_skip ?_;refine eF (ah ?_);refine au rfl<|RQ.y rfl (Y.dS Qz rfl (bn (m:=i2) (by omega)))<|dF (.int .i64 (i2+1))<|RQ.nil ?_;exact (ah ⟨g,_,Nat.lt_succ_self _,rfl,⟨(i2+1),dQ,iF,D6,rfl,(by omega),T,(by rw [← d_]; exact hm)⟩⟩)
  replace hm:=cT c18 hm;refine ig c18<|wp_seq<|au rfl<|dF (.int .i64 i2)<|aW (.int .i64 i2)<|RQ.nil<|ah<|wp_ret ?_
  cases hm
  exact (bC (aF (aF (jG (bC (aF (aV rfl rfl rfl ⟨rfl,T⟩)))))))
def bg (d0:List Int) (d1:Int→Option Bool):Option Bool:=
  ((jO d0 d1).bind fun y1=>some (decide (y1 ≥ 0)))
set_option maxHeartbeats 2000000 in
theorem bP (d0:List Int) (d1:Int→Option Bool) (r:Bool) (hm:bg d0 d1=some r) (v0:Value) (PE:FuncId) (qx:Array Value) (w:World) (hv0:Sl nR 1 w v0 d0) (aan:isGo Tryz.prog PE=true) (hf1 :∀(x0:Int) (b:Bool),d1 x0=some b→∀w1,Below w.heap.size w w1→Calls Tryz.prog PE (#[.int .i64 x0] ++ qx) w1 fun e w2=>e=.returned (.bool b)∧Below w1.heap.size w1 w2) :
    Calls Tryz.prog 93 #[v0,.func (.func PE) #[] qx] w fun e w'=>e=.returned (.bool r)∧Below w.heap.size w w':=by
  obtain ⟨Bc,na0,ca0,rfl,ha0,GN⟩:=hv0;obtain ⟨rfl,qa0⟩:=bI ha0 GN;have T:=Below.refl w.heap.size w;unfold bg at hm;refine enter 9 Tryz.func93 rfl rfl rfl ?_;intro f hf;have s0:f 0=.slice Bc d0.length ca0:=hf 0 _ rfl;have s1:f 1=.func (.func PE) #[] qx:=hf 1 _ rfl;refine wp_seq<|au rfl<|aW (.bool false)<|RQ.nil<|ah<|wp_seq<|cZ rfl<|aT s0<|aT s1 ?_;obtain ⟨y1,e2,hm⟩:=bnd hm;refine RQ.call rfl (qV rfl rfl) (by kernel_rfl) (v:=.int .i64 y1) (bel (K:=fun _=>True) fun w' hb'=>(GV d0 d1 _ e2 _ _ _ w' (eY aG ha0 GN (Tt T hb')) aan (fun x0 b hx w1 hb1=>hf1 x0 b hx w1 (Tt (Tt T hb') hb1))))<|iq (.bool (decide (y1 ≥ 0)))<|aW (.bool (decide (y1 ≥ 0)))<|RQ.nil ?_;intro w3 hb4;have T:=Tt T hb4;refine ah<|wp_ret ?_
  cases hm
  exact (aV rfl rfl rfl ⟨rfl,T⟩)
end
section
open Go.RowKit
inductive OT where
 |nil|q (i:Nat) (r:OT)|a (i:Nat) (r:OT)|two (i:Nat) (r1:OT) (j:Nat) (r2:OT)
def OT.len:OT→Nat
 |.nil=>0
 |.q _ r=>r.len+1
 |.a _ r=>r.len+1
 |.two _ r1 _ _=>r1.len+1
section
variable {P : Program} {ops : Array Oper} {S : World → Prop}
def Gt (P:Program) (ops:Array Oper) (K:(Nat→Value)→World→Prop) (i:Nat) (f:Nat→Value) (w:World):Prop:=
 match ops[i]? with
 |none=>False
 |some o=>(gV f ops o=true∧OpX P (fun v w'=>K (ED f o.dst v) w') ((execOp (ev f) o).run P w)) ∨ (gV f ops o=false∧K (ED f o.dst undef) w)
def RT (P:Program) (ops:Array Oper) (S:World→Prop) (Q:(Nat→Value)→World→Prop):OT→(Nat→Value)→World→Prop
 |.nil,f,w=>Q f w
 |.q i r,f,w=>match ops[i]? with
  |none=>False
  |some o=>∃v,((gV f ops o=true∧∀w,S w→(execOp (ev f) o).run P w=.ok (.value v) w) ∨ (gV f ops o=false∧v=undef))∧RT P ops S Q r (ED f o.dst v) w
 |.a i r,f,w=>Gt P ops (fun f' w'=>S w'∧RT P ops S Q r f' w') i f w
 |.two i r1 j r2,f,w=>Gt P ops (fun f' w'=>S w'∧RT P ops S Q r1 f' w') i f w∧Gt P ops (fun f' w'=>S w'∧RT P ops S Q r2 f' w') j f w
def aj0 (ops:Array Oper):OT→Array Bool→Bool
 |.nil,listed=>(Region.ready .any ops listed).isEmpty
 |.q i r,listed=>(Region.ready .any ops listed).contains i && Region.free .any ops listed i && aj0 ops r (listed.setIfInBounds i true)
 |.a i r,listed=>decide (Region.ready .any ops listed=[i]) && aj0 ops r (listed.setIfInBounds i true)
 |.two i r1 j r2,listed=>decide (Region.ready .any ops listed=[i,j]) && aj0 ops r1 (listed.setIfInBounds i true) && aj0 ops r2 (listed.setIfInBounds j true) && decide (r1.len=r2.len)
theorem agX {n:Nat} {Q':Exit→Act→World→Prop} (hok :∀(i:Nat) (o:Oper),ops[i]? = some o→afU n ops o=true) {K:(Nat→Value)→World→Prop} {m:Nat} {listed:Array Bool} {f:Nat→Value} {w:World} {j:Nat}
  (hK :∀f w,K f w→S w∧wpAnyH P .any ops Q' S m (listed.setIfInBounds j true) (Fr n f) w) (h:Gt P ops K j f w) :
  wpOp P ops Q' j (fun a w'=>S w'∧wpAnyH P .any ops Q' S m (listed.setIfInBounds j true) a w') (Fr n f) w:=by
 unfold Gt at h
 cases ho:ops[j]? with
 |none=>rw [ho] at h; exact h.elim
 |some o=>
  rw [ho] at h
  have hk:=hok j o ho
  unfold wpOp
  rw [ho]
  simp only
  rw [vW hk]
  have key :∀v w',K (ED f o.dst v) w'→S w'∧wpAnyH P .any ops Q' S m (listed.setIfInBounds j true) ((Fr n f).put o.dst v) w':=fun v w' h1=>by
   rw [Nw]; exact hK _ _ h1
  rcases h with ⟨hw,h⟩|⟨hw,h1⟩
  ·rw [hw,if_pos rfl]
   left
   unfold Oper.wp
   rw [MJ hk]
   refine anh ?_
   revert h
   generalize (execOp (ev f) o).run P w=r
   intro h
   cases r with
   |ok nx w'=>
    cases nx <;> simp only [OpX] at h ⊢ <;> try exact key _ _ h
    case enter g args=>exact h.mono fun e w'' ⟨v,he,hk⟩=>⟨v,he,key _ _ hk⟩
   |halt x w'=>simp only [OpX] at h
  ·rw [hw,if_neg (by decide)]
   exact key _ _ h1
theorem az7 {n:Nat} {Q:(Nat→Value)→World→Prop} {Q':Exit→Act→World→Prop} (hQ :∀f w,Q f w→Q' .normal (Fr n f) w) (hP :∀c a w,¬ Q' (.panic c) a w) (hsel:Region.noSelect ops=true) (hok :∀(i:Nat) (o:Oper),ops[i]? = some o→afU n ops o=true) :
  ∀(l:OT) (listed:Array Bool) (f:Nat→Value) (w:World),aj0 ops l listed=true→S w→RT P ops S Q l f w→wpAnyH P .any ops Q' S l.len listed (Fr n f) w
 |.nil,listed,f,w,hB,hS,h=>⟨by simpa [aj0] using hB,hQ f w h⟩
 |.q i rest,listed,f,w,hB,hS,h=>by
  simp only [aj0,Bool.and_eq_true] at hB
  obtain ⟨⟨hr,hf⟩,hB⟩:=hB
  unfold RT at h
  cases ho:ops[i]? with
  |none=>rw [ho] at h; exact h.elim
  |some o=>
   rw [ho] at h
   obtain ⟨v,h1,h2⟩:=h
   have hk:=hok i o ho
   refine wpAnyH_take ho hsel hf hr (fun c a w h=>absurd h (hP c _ w)) ?_ hS (v:=v) ?_
   ·rcases h1 with ⟨hw,h1⟩|⟨hw,e⟩
    ·exact .inl ⟨by rw [vW hk]; exact hw,fun w hw'=>by rw [MJ hk]; exact h1 w hw'⟩
    ·exact .inr ⟨by rw [vW hk]; exact hw,e⟩
   ·rw [Nw]
    exact az7 hQ hP hsel hok rest _ _ w hB hS h2
 |.a i rest,listed,f,w,hB,hS,h=>by
  simp only [aj0,Bool.and_eq_true,decide_eq_true_eq] at hB
  obtain ⟨hr,hB⟩:=hB
  refine wpAnyH_all hr (by simp) fun j hj=>?_
  obtain rfl:j=i:=by simpa using hj
  exact agX hok (fun f w ⟨h1,h2⟩=>⟨h1,az7 hQ hP hsel hok rest _ _ w hB h1 h2⟩) h
 |.two i r1 j r2,listed,f,w,hB,hS,h=>by
  simp only [aj0,Bool.and_eq_true,decide_eq_true_eq] at hB
  obtain ⟨⟨⟨hr,hB1⟩,hB2⟩,hl⟩:=hB
  refine wpAnyH_all hr (by simp) fun k hk=>?_
  have hk:k=i ∨ k=j:=by simpa using hk
  rcases hk with rfl|rfl
  ·exact agX hok (fun f w ⟨h1,h2⟩=>⟨h1,az7 hQ hP hsel hok r1 _ _ w hB1 h1 h2⟩) h.1
  ·refine agX hok (fun f w ⟨h1,h2⟩=>⟨h1,?_⟩) h.2
   rw [hl]
   exact az7 hQ hP hsel hok r2 _ _ w hB2 h1 h2
theorem agY {id n:Nat} {l:List Oper} {f:Nat→Value} {w:World} {Q:Exit→Act→World→Prop} (S:World→Prop) (ord:OT) (hm:P.follows .mixedOrders=true)
  (hin:(abb n l && Region.noSelect l.toArray && decide (ord.len=l.length) && aj0 l.toArray ord (Array.replicate l.length false))=true)
  (h :∀w1,Below w.heap.size w w1→w1.heap.size=w.heap.size→S w1∧RT P l.toArray S (fun f' w'=>Q .normal (Fr n f') w') ord f w1):(Code.region id l.toArray true).wp P Q (Fr n f) w:=by
 simp only [Bool.and_eq_true,decide_eq_true_eq] at hin
 obtain ⟨⟨⟨h1,h2⟩,h3⟩,h4⟩:=hin
 refine Code.wp_mono (Q:=noP Q) (fun e a w hq=>by cases e <;> first|exact hq|exact hq.elim) ?_
 refine wp_region_held (S:=S) hm ?_
 obtain ⟨hS,hR⟩:=h { w with drawn:=w.drawn+1 } ⟨rfl,rfl,rfl,Nat.le_refl _,fun _ _=>rfl⟩ rfl
 have:=az7 (Q':=noP Q) (n:=n) (fun f w h=>h) (fun c a w h=>h) h2 (fun i o ho=>List.all_eq_true.1 h1 o (by
  have:l[i]? = some o:=by simpa using ho
  exact List.mem_of_getElem? this)) ord _ f _ h4 hS hR
 rw [h3] at this
 simpa using this
variable {Q : (Nat → Value) → World → Prop} {rest r2 : OT} {f : Nat → Value} {w : World} {i j : Nat} {o o2 : Oper}
theorem RT.nil_ (h:Q f w):RT P ops S Q .nil f w:=h
theorem RT.y {v:Value} (ho:ops[i]? = some o) (hg:gV f ops o=true) (hy:Y P S f o v) (h:RT P ops S Q rest (ED f o.dst v) w):RT P ops S Q (.q i rest) f w:=by
 unfold RT; rw [ho]; exact ⟨v,.inl ⟨hg,hy⟩,h⟩
theorem Gt.of {K:(Nat→Value)→World→Prop} (ho:ops[i]? = some o) (h:RL P ops K [o] f w):Gt P ops K i f w:=by
 unfold Gt
 rw [ho]
 unfold RL at h
 exact h
theorem RT.act (ho:ops[i]? = some o) (h:RL P ops (fun f' w'=>S w'∧RT P ops S Q rest f' w') [o] f w):RT P ops S Q (.a i rest) f w:=Gt.of ho h
theorem RT.both (ho:ops[i]? = some o) (ho2:ops[j]? = some o2) (h:RL P ops (fun f' w'=>S w'∧RT P ops S Q rest f' w') [o] f w) (h2:RL P ops (fun f' w'=>S w'∧RT P ops S Q r2 f' w') [o2] f w):RT P ops S Q (.two i rest j r2) f w:=
 ⟨Gt.of ho h,Gt.of ho2 h2⟩
end
end
section
open Go.RowKit Go.Maps
set_option linter.unusedSectionVars false
section
variable {P : Program} {C : World → Prop} {f : Nat → Value} {d : Option Tmp} {ty : TypeId} {pos : String} {af : Array Edge} {g : Option (Nat × Bool)} {x y : Operand} {ats : Array TypeId} {k : IntKind} {a b : Int}
theorem Y.max (hx:ev f x=.int k a) (hy:ev f y=.int k b):Y P C f ⟨d,.call ⟨.builtin .max,#[x,y],ats⟩,ty,pos,af,g⟩ (.int k (if b > a then b else a)):=fun w _=>by
 simp [execOp,resolve,invoke,builtin,hx,hy,Builtin.max_,Builtin.max2]
end
end
section
open Go.RowKit
/-- The block of a slice's row. -/
def fb (v:Value):List Nat:=v.ownBlock.toList
/-- Two lists of blocks lie apart. -/
def Ap (l m:List Nat):Prop:=∀b∈l,b ∉ m
section
variable {l m x l' l2 : List Nat} {k g : Nat} {v u v' : Value}
theorem yE {b:Nat} : b∈fb v↔v.ownBlock=some b:=by simp [fb]
theorem Ap.symm (h:Ap l m):Ap m l:=fun b h1 h2=>h b h2 h1
theorem Ap.nil:Ap [] m:=fun b h=>by simp at h
theorem Ap.new (h1 :∀b∈l,k≤b) (h2 :∀b∈x,b < k):Ap l x:=fun b h h'=>by have:=h1 b h; have:=h2 b h'; omega
theorem Ap.one (h:Ap l [g]):g ∉ l:=fun hg=>h g hg (by simp)
theorem Ap.far (h :∀b∈l,b < g):Ap l [g]:=fun b hb h'=>by simp at h'; subst h'; exact absurd (h b hb) (Nat.lt_irrefl _)
theorem Ap.ku (h :∀b∈l,b < g):Ap [g] l:=(Ap.far h).symm
theorem Ap.aPG (h:Ap l (fb v)) (hn :∀b,v'.ownBlock=some b→v.ownBlock=some b ∨ k≤b) (hi :∀b∈l,b < k):Ap l (fb v'):=fun b hb h'=>by
 rcases hn b (yE.1 h') with h2|h2
 ·exact h b hb (yE.2 h2)
 ·have:=hi b hb; omega
theorem Ap.app (hn :∀b∈l',b∈l ∨ b∈l2 ∨ k≤b) (h1:Ap l x) (h2:Ap l2 x) (hi :∀b∈x,b < k):Ap l' x:=fun b hb h'=>by
 rcases hn b hb with h3|h3|h3
 ·exact h1 b h3 h'
 ·exact h2 b h3 h'
 ·have:=hi b h'; omega
theorem Ap.cons (h1:Ap [g] x) (h2:Ap l x):Ap (g :: l) x:=fun b hb h'=>by
 rcases List.mem_cons.1 hb with rfl|hb
 ·exact h1 b (by simp) h'
 ·exact h2 b hb h'
theorem Ap.append (h1:Ap l x) (h2:Ap m x):Ap (l ++ m) x:=fun b hb h'=>by
 rcases List.mem_append.1 hb with hb|hb
 ·exact h1 b hb h'
 ·exact h2 b hb h'
theorem Dj.ap (h:Dj v u):Ap (fb v) (fb u):=fun b h1 h2=>h b (yE.1 h1) (yE.1 h2)
theorem Ap.dj (h:Ap (fb v) (fb u)):Dj v u:=fun b h1 h2=>h b (yE.2 h1) (yE.2 h2)
theorem aP (h:v.ownBlock ≠ some g):Ap (fb v) [g]:=fun b h1 h2=>by simp at h2; subst h2; exact h (yE.1 h1)
theorem aJ (h:Ap (fb v) [g]):v.ownBlock ≠ some g:=fun h1=>h g (yE.2 h1) (by simp)
end
/-- Elements one behind the other, with what they own. -/
def Parts {α:Type} (O:Ow α) (w:World):List Value→List α→List Nat→Prop
 |cells,[],ib=>cells=[]∧ib=[]
 |cells,x :: xs,ib=>∃cs rest b1 b2,cells=cs ++ rest∧O w cs x b1∧ib=b1 ++ b2∧Parts O w rest xs b2
/-- A slice of the call's own: its row from block lo on, its elements' blocks (no two alike, none the row's), all among bs. -/
def aH {α:Type} (e:TypeId) (O:Ow α) (sz:Nat) (w:World) (lo:Nat) (v:Value) (xs:List α) (bs:List Nat):Prop:=
 ∃cells ib,w.ownsRow lo e sz v xs.length cells∧Parts O w cells xs ib∧ib.Nodup∧(∀b∈ib,b∈bs)∧(∀b,v.ownBlock=some b→b∈bs∧b ∉ ib)∧(∀b∈bs,lo≤b∧b < w.heap.size)
/-- What an element's cells are: one value each. -/
def axx {α:Type} (O:Ow α):Prop:=∀{w cs x bs},O w cs x bs→∀u∈cs,u.oneCell'=true
section
variable {α : Type} {O : Ow α} {R : Rd α} {sz : Nat} {w w' : World} {lo lo' : Nat} {v : Value} {xs ys : List α} {x : α} {bs : List Nat} {e : TypeId}
theorem Parts.keep (ok:BM O sz) :∀{xs:List α} {cells:List Value} {ib:List Nat},(∀b∈ib,w'.heap[b]? = w.heap[b]?)→Parts O w cells xs ib→Parts O w' cells xs ib
 |[],_,_,_,h=>h
 |x :: xs,_,_,hb,⟨cs,rest,b1,b2,e1,hO,e2,hr⟩=>by
  subst e1 e2
  exact ⟨cs,rest,b1,b2,rfl,ok.keep (fun b h=>hb b (by simp [h])) hO,rfl,Parts.keep ok (fun b h=>hb b (by simp [h])) hr⟩
theorem Parts.append :∀{xs ys:List α} {c1 c2:List Value} {i1 i2:List Nat},Parts O w c1 xs i1→Parts O w c2 ys i2→Parts O w (c1 ++ c2) (xs ++ ys) (i1 ++ i2)
 |[],_,_,_,_,_,⟨e1,e2⟩,h2=>by subst e1 e2; exact h2
 |x :: xs,_,_,_,_,_,⟨cs,rest,b1,b2,e1,hO,e2,hr⟩,h2=>by
  subst e1 e2
  exact ⟨cs,_,b1,_,by rw [List.append_assoc],hO,by rw [List.append_assoc],Parts.append hr h2⟩
theorem Parts.one {cs:List Value} {b:List Nat} (h:O w cs x b):Parts O w cs [x] b:=⟨cs,[],b,[],by simp,h,by simp,rfl,rfl⟩
theorem Parts.aPH (one:axx O) :∀{xs:List α} {cells:List Value} {ib:List Nat},Parts O w cells xs ib→∀u∈cells,u.oneCell'=true
 |[],_,_,⟨e,_⟩,u,hu=>by rw [e] at hu; simp at hu
 |x :: xs,_,_,⟨cs,rest,b1,b2,e1,hO,e2,hr⟩,u,hu=>by
  subst e1
  rcases List.mem_append.1 hu with h|h
  ·exact one hO u h
  ·exact Parts.aPH one hr u h
theorem Parts.len (ok:BM O sz) :∀{xs:List α} {cells:List Value} {ib:List Nat},Parts O w cells xs ib→cells.length=xs.length * sz
 |[],_,_,⟨e,_⟩=>by rw [e]; simp
 |x :: xs,_,_,⟨cs,rest,b1,b2,e1,hO,e2,hr⟩=>by
  subst e1
  rw [List.length_append,ok.len hO,Parts.len ok hr,List.length_cons,Nat.add_mul]; omega
theorem Parts.aPI (ok:BM O sz) {g:Nat} {cur:Array Value} (hb:dD w g e cur) :∀{xs:List α} {cells:List Value} {ib:List Nat} (o:Nat),(∀(j:Nat) (u:Value),cells[j]? = some u→cur[o+j]? = some u)→Parts O w cells xs ib→vO O sz w g o xs ib
 |[],_,_,o,_,⟨_,e⟩=>e
 |x :: xs,_,_,o,hc,⟨cs,rest,b1,b2,e1,hO,e2,hr⟩=>by
  subst e1 e2
  have hl:=ok.len hO
  refine ⟨cs,b1,b2,hO,hb.aKj (fun j u hj=>hc j u ?_),rfl,Parts.aPI ok hb (o+sz) (fun j u hj=>?_) hr⟩
  ·rw [List.getElem?_append_left (lt_of_some hj)]; exact hj
  ·have:=hc (sz+j) u (by rw [List.getElem?_append_right (by omega),hl,show sz+j - sz=j by omega]; exact hj)
   rwa [show o+(sz+j)=o+sz+j by omega] at this
/-- One element of many. -/
theorem Parts.split (ok:BM O sz) :∀{xs:List α} {cells:List Value} {ib:List Nat} {k:Nat} {x:α},Parts O w cells xs ib→xs[k]? = some x→
  ∃c1 cs c2 i1 b1 i2,cells=c1 ++ cs ++ c2∧c1.length=k * sz∧O w cs x b1∧ib=i1 ++ (b1 ++ i2)∧∀w' cs' x' b1',(∀b∈i1 ++ i2,w'.heap[b]? = w.heap[b]?)→O w' cs' x' b1'→Parts O w' (c1 ++ cs' ++ c2) (xs.set k x') (i1 ++ (b1' ++ i2))
 |[],_,_,_,_,_,h=>by simp at h
 |y :: ys,_,_,0,x,⟨cs,rest,b1,b2,e1,hO,e2,hr⟩,h=>by
  have:y=x:=by simpa using h
  subst this
  subst e1 e2
  exact ⟨[],cs,rest,[],b1,b2,by simp,by simp,hO,by simp,fun w' cs' x' b1' hb hO'=>⟨cs',rest,b1',b2,by simp,hO',by simp,Parts.keep ok (fun b h=>hb b (by simp [h])) hr⟩⟩
 |y :: ys,_,_,k+1,x,⟨cs,rest,b1,b2,e1,hO,e2,hr⟩,h=>by
  subst e1 e2
  obtain ⟨c1,cs2,c2,i1,b3,i2,f1,f2,f3,f4,f5⟩:=Parts.split ok hr (by simpa using h)
  subst f1 f4
  refine ⟨cs ++ c1,cs2,c2,b1 ++ i1,b3,i2,by simp,by rw [List.length_append,ok.len hO,f2,Nat.add_mul]; omega,f3,by simp,fun w' cs' x' b1' hb hO'=>?_⟩
  refine ⟨cs,_,b1,_,by simp [List.append_assoc],ok.keep (fun b h=>hb b (by simp [h])) hO,by simp [List.append_assoc],f5 w' cs' x' b1' (fun b h=>hb b (by simp at h ⊢; rcases h with h|h <;> simp [h])) hO'⟩
theorem aH.keep (ok:BM O sz) (h:aH e O sz w lo v xs bs) (hk :∀b∈bs,w'.heap[b]? = w.heap[b]?) (hs:w.heap.size≤w'.heap.size):aH e O sz w' lo v xs bs:=by
 obtain ⟨cells,ib,h1,h2,h3,h4,h5,h6⟩:=h
 refine ⟨cells,ib,?_,h2.keep ok (fun b hb=>hk b (h4 b hb)),h3,h4,h5,fun b hb=>by have:=h6 b hb; omega⟩
 refine ⟨h1.1,?_⟩
 rcases h1.2 with h|⟨g,cap,cur,hv,hg,hh,r⟩
 ·exact .inl h
 ·exact .inr ⟨g,cap,cur,hv,hg,(hk g (h5 g (by rw [hv]; rfl)).1).trans hh,r⟩
theorem aH.hi (h:aH e O sz w lo v xs bs) :∀b∈bs,b < w.heap.size:=by obtain ⟨cells,ib,h1,h2,h3,h4,h5,h6⟩:=h; exact fun b hb=>(h6 b hb).2
theorem aH.jB (h:aH e O sz w lo v xs bs) :∀b∈bs,lo≤b:=by obtain ⟨cells,ib,h1,h2,h3,h4,h5,h6⟩:=h; exact fun b hb=>(h6 b hb).1
theorem aH.row (h:aH e O sz w lo v xs bs) {b:Nat} (hb:v.ownBlock=some b):b∈bs:=by obtain ⟨cells,ib,h1,h2,h3,h4,h5,h6⟩:=h; exact (h5 b hb).1
theorem aH.below (ok:BM O sz) (h:aH e O sz w lo v xs bs) (hb:Below w.heap.size w w'):aH e O sz w' lo v xs bs:=h.keep ok (fun b hin=>hb.block b (h.hi b hin)) hb.size
theorem aH.only {b:Nat} (ok:BM O sz) (h:aH e O sz w lo v xs bs) (ho:Only [b] w w') (hn:b ∉ bs):aH e O sz w' lo v xs bs:=h.keep ok (fun k hk=>ho.block k (by intro hin; simp at hin; subst hin; exact hn hk)) (Nat.le_of_eq ho.size.symm)
theorem aH.grown {row:Option Nat} (ok:BM O sz) (h:aH e O sz w lo v xs bs) (hg:w.grownBy w' row) (hn:Ap bs row.toList):aH e O sz w' lo v xs bs:=h.keep ok (fun k hk=>hg.block k (h.hi k hk) (fun e=>hn k hk (by simp [← e]))) hg.size
theorem aH.mono (h:aH e O sz w lo v xs bs) (hl:lo'≤lo):aH e O sz w lo' v xs bs:=by
 obtain ⟨cells,ib,h1,h2,h3,h4,h5,h6⟩:=h
 refine ⟨cells,ib,?_,h2,h3,h4,h5,fun b hb=>by have:=h6 b hb; omega⟩
 refine ⟨h1.1,?_⟩
 rcases h1.2 with h|⟨g,cap,cur,hv,hg,r⟩
 ·exact .inl h
 ·exact .inr ⟨g,cap,cur,hv,by omega,r⟩
theorem aH.nil:aH e O sz w lo (.slice none 0 0) ([] : List α) []:=⟨[],[],⟨by simp,.inl ⟨rfl,rfl⟩⟩,⟨rfl,rfl⟩,List.nodup_nil,fun b hb=>by simp at hb,fun b hb=>by simp [Value.ownBlock] at hb,fun b hb=>by simp at hb⟩
theorem aH.form (h:aH e O sz w lo v xs bs) :∃A c,v=.slice A xs.length c:=by
 obtain ⟨cells,ib,h1,_⟩:=h
 rcases h1.2 with ⟨rfl,h0⟩|⟨g,cap,cur,hv,_⟩
 ·exact ⟨none,0,by rw [h0]⟩
 ·exact ⟨_,_,hv⟩
theorem aH.bound (h:aH e O sz w lo v xs bs):xs.length≤9223372036854775807:=by
 obtain ⟨cells,ib,h1,_⟩:=h
 rcases h1.2 with ⟨_,h0⟩|⟨g,cap,cur,hv,hg,hh,h1,h2,_⟩
 ·omega
 ·unfold maxLen at h2; omega
theorem aH.GU {A:Option Addr} {n c:Nat} (h:aH e O sz w lo (.slice A n c) xs bs) (hn:0 < n) :∃b,A=some ⟨b,0,none⟩:=by
 obtain ⟨cells,ib,h1,_⟩:=h
 rcases h1.2 with ⟨h0,_⟩|⟨g,cap,cur,hv,_⟩
 ·injection h0 with h1 h2; omega
 ·injection hv with h1; exact ⟨g,h1⟩
theorem aH.Ua (ok:BM O sz) (h:aH e O sz w lo v xs bs) :∃A n c l,v=.slice A n c∧iV O sz w A n xs l∧l.Nodup∧(∀b∈l,b∈bs)∧n≤c∧c≤maxLen:=by
 obtain ⟨cells,ib,h1,h2,h3,h4,h5,h6⟩:=h
 rcases h1.2 with ⟨rfl,h0⟩|⟨g,cap,cur,rfl,hg,hh,k1,k2,k3,k4⟩
 ·have:xs=[]:=List.eq_nil_of_length_eq_zero h0
  subst this
  exact ⟨none,0,0,[],rfl,⟨rfl,.inl ⟨rfl,rfl⟩⟩,List.nodup_nil,fun b hb=>by simp at hb,Nat.le_refl _,Nat.zero_le _⟩
 ·obtain ⟨hg1,hg2⟩:=h5 g rfl
  refine ⟨some ⟨g,0,none⟩,_,cap,g :: ib,rfl,⟨rfl,.inr ⟨g,0,ib,rfl,rfl,?_⟩⟩,List.nodup_cons.2 ⟨hg2,h3⟩,fun b hb=>by
   rcases List.mem_cons.1 hb with rfl|hb
   ·exact hg1
   ·exact h4 b hb,k1,k2⟩
  refine h2.aPI (e:=e) ok (cur:=cur) hh 0 (fun j u hj=>?_)
  rw [← k4,List.getElem?_take] at hj
  split at hj
  ·simpa using hj
  ·cases hj
theorem aH.own (ok:BM O sz) (h:aH e O sz w lo v xs bs):OwS O sz w v xs lo w.heap.size:=by
 obtain ⟨A,n,c,l,e1,h1,h2,h3,r⟩:=h.Ua ok
 exact ⟨A,n,c,l,e1,h1,h2,fun b hb=>⟨h.jB b (h3 b hb),h.hi b (h3 b hb)⟩,r⟩
theorem aH.rdS (ok:BM O sz) (hR:Gives O R w.heap.size) (h:aH e O sz w lo v xs bs):RdS R sz w w.heap.size v xs:=(h.own ok).reads hR (Nat.le_refl _)
theorem aH.sl {A:Option Addr} {n c:Nat} (ok:BM O sz) (hR:Gives O R w.heap.size) (h:aH e O sz w lo (.slice A n c) xs bs):aY R sz w w.heap.size A n xs∧n≤c∧c≤maxLen:=by
 obtain ⟨A',n',c',he,h1,h2⟩:=h.rdS ok hR
 injection he with e1 e2 e3
 subst e1 e2 e3
 exact ⟨h1,h2⟩
/-- An element's cells. -/
theorem aH.rd {b n c k:Nat} (ok:BM O sz) (hR:Gives O R w.heap.size) (h:aH e O sz w lo (.slice (some ⟨b,0,none⟩) n c) xs bs) (hx:xs[k]? = some x) :∃cs,R w w.heap.size cs x∧∀j v,cs[j]? = some v→w.cell? ⟨b,0+k * sz+j,none⟩=some v:=(h.sl ok hR).1.el hx
theorem aH.agZ {g:Nat} {cells:Array Value} {b1 l:List Nat} (B:dD w g e cells) (hg:lo≤g) (hO:O w cells.toList x b1) (ok:BM O sz) (nd:b1.Nodup) (hs :∀b∈b1,b∈l) (hl :∀b∈l,lo≤b∧b < g):aH e O sz w lo (.slice (some ⟨g,0,none⟩) 1 1) [x] (g :: l):=by
 have hc:cells.size=1 * sz:=by rw [← Array.length_toList,ok.len hO]; omega
 have hgl:=B.lt
 refine ⟨cells.toList,b1,⟨by simpa using hc,.inr ⟨g,1,cells,rfl,hg,B,Nat.le_refl _,by unfold maxLen; omega,hc,?_⟩⟩,Parts.one hO,nd,fun b hb=>by simp [hs b hb],fun b hb=>?_,fun b hb=>?_⟩
 ·rw [List.take_of_length_le]; simp [hc]
 ·simp [Value.ownBlock] at hb; subst hb
  exact ⟨by simp,fun h=>by have:=hl _ (hs _ h); omega⟩
 ·rcases List.mem_cons.1 hb with rfl|hb
  ·exact ⟨hg,hgl⟩
  ·have:=hl b hb; omega
theorem ql {l1 l2 m1 m2:List Nat} (h1:l1.Nodup) (h2:l2.Nodup) (s1 :∀b∈l1,b∈m1) (s2 :∀b∈l2,b∈m2) (D:Ap m1 m2):(l1 ++ l2).Nodup:=List.nodup_append.2 ⟨h1,h2,fun a ha b hb e=>by subst e; exact D a (s1 a ha) (s2 a hb)⟩
theorem yO {l1 l2 m1 m2:List Nat} (s1 :∀b∈l1,b∈m1) (s2 :∀b∈l2,b∈m2) :∀b∈l1 ++ l2,b∈m1 ++ m2:=fun b hb=>by
 rcases List.mem_append.1 hb with h|h
 ·simp [s1 b h]
 ·simp [s2 b h]
theorem all2 {p:Nat→Prop} {l1 l2:List Nat} (s1 :∀b∈l1,p b) (s2 :∀b∈l2,p b) :∀b∈l1 ++ l2,p b:=fun b hb=>by
 rcases List.mem_append.1 hb with h|h
 ·exact s1 b h
 ·exact s2 b h
end
theorem NG {α:Type} {R:Rd α} {sz:Nat} {w w':World} {x:α} (ok:Sz R sz) {b o:Nat} {pre cs post:List Value} (hb:b < w.heap.size) (hR:R w w.heap.size cs x) (hc :∀j v,(pre ++ cs ++ post)[j]? = some v→w.cell? ⟨b,o+j,none⟩=some v) (T:Below w.heap.size w w'):Pt R w' (.pointer (some ⟨b,o+pre.length,none⟩)) x:=
 l9 ok hb hR (fun j v hj=>by
  have h:=hc (pre.length+j) v (by rw [List.append_assoc,List.getElem?_append_right (by omega),show pre.length+j - pre.length=j by omega,List.getElem?_append_left (lt_of_some hj)]; exact hj)
  rwa [← Nat.add_assoc] at h) T
theorem afW {P:Program} {f:Nat→Value} {w:World} {n:Nat} {fn:Func} {R:Ending→World→Prop} {t1 t2 t3 t4:Tmp} {v1 v2 v3 v4:Value} (hr:fn.results = #[.tmp t1,.tmp t2,.tmp t3,.tmp t4]) (ht:(Nat.blt t1 n && Nat.blt t2 n && Nat.blt t3 n && Nat.blt t4 n)=true) (hv1:f t1=v1) (hv2:f t2=v2) (hv3:f t3=v3) (hv4:f t4=v4) (h:R (.returned (.tuple #[v1,v2,v3,v4])) w):bodyPost P fn R .ret (Fr n f) w:=
 ⟨rfl,_,by
  simp only [Bool.and_eq_true] at ht
  have h1:t1 < n:=by simpa using ht.1.1.1
  have h2:t2 < n:=by simpa using ht.1.1.2
  have h3:t3 < n:=by simpa using ht.1.2
  have h4:t4 < n:=by simpa using ht.2
  simp only [results,hr]
  simp [Fr,h1,h2,h3,h4,hv1,hv2,hv3,hv4],h⟩
theorem Ub {α:Type} {xs:List α} {i:Int} {k:Nat} {x:α} (hi:i=(k:Int)) (hk:k < xs.length):(kX xs i x)[k]? = some x:=by
 subst hi
 rw [apQ,List.getElem?_set_self hk]
theorem aY.aPJ {α:Type} {R:Rd α} {sz B n:Nat} {w:World} {A:Option Addr} {xs:List α} (h:aY R sz w B A n xs) (c:A.isNone=true):xs=[]:=by
 cases A with
 |some a=>cases c
 |none=>
  rcases Nat.eq_zero_or_pos n with h0|h0
  ·exact List.eq_nil_of_length_eq_zero (by rw [← h.len]; exact h0)
  ·obtain ⟨b,o,e,_⟩:=h.2 h0
   cases e
section
variable {P : Program} {C : World → Prop} {f : Nat → Value} {d : Option Tmp} {ty : TypeId} {pos : String} {af : Array Edge} {g : Option (Nat × Bool)} {x y : Operand} {t t' : TypeId} {A : Option Addr} {n c : Nat}
theorem Y.eqNil {e:TypeId} (hx:ev f x=.slice A n c) (hy:ev f y=.slice none 0 0) (ht:P.underlying t=some (.slice e)):Y P C f ⟨d,.binOp .eql t x y t',ty,pos,af,g⟩ (.bool A.isNone):=fun w _=>by
 simp only [execOp,hx,hy,Sem.run_bind,eqGuard,Result.andThen_ok]
 simp [binOp,run_equal_slice_nil w t e A n c ht]
end
section
variable {α : Type} {R : Rd α} {O : Ow α} {enc : α → List Value} {sz : Nat} {w w' : World} {lo lo' : Nat} {v : Value} {xs ys : List α} {e : TypeId}
theorem aA.EN {A:Option Addr} {n c:Nat} (F:GR R O enc sz) (h:aA e enc sz w lo (.slice A n c) xs) :∃l,iV O sz w A n xs l∧l.Nodup∧(∀b∈l,b∈fb (.slice A n c))∧n≤c∧c≤maxLen:=by
 rcases h.2 with ⟨hv,h0⟩|⟨g,cap,cur,hv,hg,hh,h1,h2,h3,h4⟩
 ·injection hv with e1 e2 e3
  subst e1 e2 e3
  have:xs=[]:=List.eq_nil_of_length_eq_zero h0
  subst this
  exact ⟨[],⟨rfl,.inl ⟨rfl,rfl⟩⟩,List.nodup_nil,fun b hb=>by simp at hb,Nat.le_refl _,Nat.zero_le _⟩
 ·injection hv with e1 e2 e3
  subst e1 e2 e3
  obtain ⟨A',n',c',l,he,hA,hn,hl,hc1,hc2⟩:=h.own F
  injection he with e1 e2 e3
  subst e1 e2 e3
  by_cases hx:xs=[]
  ·subst hx; exact ⟨[],⟨rfl,.inl ⟨rfl,rfl⟩⟩,List.nodup_nil,fun b hb=>by simp at hb,hc1,hc2⟩
  ·rcases hA.2 with ⟨h5,_⟩|⟨b,o,b2,h5,h6,h7⟩
   ·exact absurd h5 hx
   ·injection h5 with h5
    injection h5 with h5
    subst h5
    have a8W :∀(l:List α) (o:Nat) (k:List Nat),vO O sz w g o l k→k=[]→True:=fun _ _ _ _ _=>trivial
    refine ⟨[g],⟨hA.1,.inr ⟨g,0,[],rfl,rfl,?_⟩⟩,by simp,fun b hb=>by simpa [fb,Value.ownBlock] using hb,hc1,hc2⟩
    have hblk:dD w g e cur:=hh
    have key :∀(l:List α) (o:Nat),(∀j u,(l.flatMap enc)[j]? = some u→cur[o+j]? = some u)→vO O sz w g o l []:=by
     intro l
     induction l with
     |nil=>intro o _; rfl
     |cons x l ih=>
      intro o hl
      refine ⟨enc x,[],[],F.ow,hblk.aKj (fun j u hj=>hl j u ?_),rfl,ih (o+sz) (fun j u hj=>?_)⟩
      ·simp only [List.flatMap_cons]
       rw [List.getElem?_append_left (lt_of_some hj)]; exact hj
      ·have:=hl (sz+j) u (by
        simp only [List.flatMap_cons]
        rw [List.getElem?_append_right (by rw [F.len]; omega),F.len,show sz+j - sz=j by omega]; exact hj)
       rwa [show o+(sz+j)=o+sz+j by omega] at this
    refine key xs 0 (fun j u hj=>?_)
    rw [← h4,List.getElem?_take] at hj
    split at hj
    ·simpa using hj
    ·cases hj
theorem aA.je (h:aA e enc sz w lo v xs) :∀b∈fb v,b < w.heap.size:=fun b hb=>h.hi b (yE.1 hb)
theorem aA.dU (h:aA e enc sz w lo v xs) :∀b∈fb v,lo≤b:=fun b hb=>h.jB b (yE.1 hb)
theorem aA.yP (h:aA e enc sz w lo v xs) {g:Nat} (hg:w.heap.size≤g) :∀b∈fb v,lo≤b∧b < g:=fun b hb=>⟨h.dU b hb,Nat.lt_of_lt_of_le (h.je b hb) hg⟩
theorem aI {g:Nat} (h:g < w.heap.size) :∀b∈[g],b < w.heap.size:=fun b hb=>by simp at hb; subst hb; exact h
variable {O' : Ow α} {bs : List Nat} {u : Value}
/-- Another slice of the call's own, while the row of v grows or is written. -/
theorem aH.dj (h:aH e O' sz w lo v xs bs) (A:Ap bs (fb u)):Dj u v:=fun b h1 h2=>A b (h.row h2) (yE.2 h1)
theorem aH.ML {g:Nat} (h:aH e O' sz w lo v xs bs) (A:Ap bs [g]):v.ownBlock ≠ some g:=fun h1=>A g (h.row h1) (by simp)
theorem aH.P5 {bs2:List Nat} (h:aH e O' sz w lo v xs bs) (A:Ap bs bs2):Ap bs2 (v.ownBlock.toList):=fun b h1 h2=>A b (h.row (by simpa using h2)) h1
theorem aH.both (h:aH e O' sz w lo v xs bs) {g:Nat} (hg:w.heap.size≤g) :∀b∈bs,lo≤b∧b < g:=fun b hb=>⟨h.jB b hb,Nat.lt_of_lt_of_le (h.hi b hb) hg⟩
end
section
variable {P : Program} {ops : Array Oper} {f : Nat → Value} {rest : List Oper} {Q : (Nat → Value) → World → Prop} {w : World} {d : Option Tmp} {ty : TypeId} {pos : String} {af : Array Edge} {g : Option (Nat × Bool)} {x y : Operand} {t e : TypeId} {z : Value} {sz bb : Nat}
theorem RL.GX {α:Type} {O:Ow α} {v vy:Value} {xs ys:List α} {lo:Nat} {bs bs2:List Nat} (ok:BM O sz) (one:axx O) (hp:0 < sz) (A:afV P t e z sz bb) (hg:gV f ops ⟨d,.call ⟨.builtin .append,#[x,y],#[t,t]⟩,ty,pos,af,g⟩=true)
  (hx:ev f x=v) (hy:ev f y=vy) (hv:aH e O sz w lo v xs bs) (hr:aH e O sz w lo vy ys bs2) (D:Ap bs bs2) (hlo:lo≤w.heap.size) (hk:xs.length+ys.length≤4294967296)
  (h :∀v' w1 bs',aH e O sz w1 lo v' (xs ++ ys) bs'→w.grownBy w1 v.ownBlock→Below lo w w1→(∀b∈bs',b∈bs ∨ b∈bs2 ∨ w.heap.size≤b)→RL P ops Q rest (ED f d v') w1):RL P ops Q (⟨d,.call ⟨.builtin .append,#[x,y],#[t,t]⟩,ty,pos,af,g⟩ :: rest) f w:=by
 have hrun :∀v' w1,(Builtin.append_ #[t,t] ty #[v,vy]).run P w=.ok v' w1→(execOp (ev f) ⟨d,.call ⟨.builtin .append,#[x,y],#[t,t]⟩,ty,pos,af,g⟩).run P w=.ok (.value v') w1:=fun v' w1 h0=>by
  simp [execOp,resolve,invoke,builtin,hx,hy,h0]
 have hv0:=hv
 obtain ⟨cells,ib,h1,h2,h3,h4,h5,h6⟩:=hv
 obtain ⟨cells2,ib2,k1,k2,k3,k4,k5,k6⟩:=hr
 have hdis:(ib ++ ib2).Nodup:=List.nodup_append.2 ⟨h3,k3,fun a ha b hb e=>by subst e; exact D a (h4 a ha) (k4 a hb)⟩
 rcases k1.2 with ⟨rfl,h0⟩|⟨g2,cap2,aXu,rfl,hg2,hh2,m1,m2,m3,m4⟩
 ·have:ys=[]:=List.eq_nil_of_length_eq_zero h0
  subst this
  refine .inl ⟨hg,?_⟩
  rw [hrun v w (afh A h1 ty)]
  exact h v w bs (by simpa using hv0) ⟨rfl,rfl,rfl,Nat.le_refl _,fun _ _ _=>rfl⟩ (Below.refl _ _) (fun b hb=>.inl hb)
 ·have hblk:dD w g2 e aXu:=hh2
  have hcells :∀j u,cells2[j]? = some u→w.cell? ((⟨g2,0,none⟩:Addr).add j)=some u:=fun j u hj=>by
   rw [Addr.add_eq,Nat.zero_add,hblk.cell]
   rw [← m4,List.getElem?_take] at hj
   split at hj
   ·simpa using hj
   ·cases hj
  obtain ⟨v',w1,r1,r2,r3,r4⟩:=WL A hp h1 hlo ⟨g2,0,none⟩ ys.length cap2 cells2 (k2.len ok) hcells (k2.aPH one) hk ty
  refine .inl ⟨hg,?_⟩
  rw [hrun v' w1 r1]
  have hkeep :∀b∈ib ++ ib2,b < w.heap.size∧some b ≠ v.ownBlock:=fun b hb=>by
   rcases List.mem_append.1 hb with hb|hb
   ·exact ⟨(h6 b (h4 b hb)).2,fun e=>(h5 b e.symm).2 hb⟩
   ·exact ⟨(k6 b (k4 b hb)).2,fun e=>D b (h5 b e.symm).1 (k4 b hb)⟩
  refine h v' w1 (fb v' ++ (ib ++ ib2)) ⟨cells ++ cells2,ib ++ ib2,?_,?_,hdis,fun b hb=>by simp at hb ⊢; exact .inr hb,fun b hb=>⟨by simp [yE.2 hb],fun hin=>?_⟩,fun b hb=>?_⟩ r3 ?_ ?_
  ·rw [List.length_append]; exact r2
  ·exact (h2.keep ok (fun b hb=>r3.block b (hkeep b (by simp [hb])).1 (hkeep b (by simp [hb])).2)).append (k2.keep ok (fun b hb=>r3.block b (hkeep b (by simp [hb])).1 (hkeep b (by simp [hb])).2))
  ·rcases r4 b hb with h7|h7
   ·exact (hkeep b hin).2 h7.symm
   ·have:=(hkeep b hin).1; omega
  ·rcases List.mem_append.1 hb with h7|h7
   ·exact ⟨(r2.lt b (yE.1 h7)).1,(r2.lt b (yE.1 h7)).2⟩
   ·have h8:=(hkeep b h7).1
    have:=r3.size
    rcases List.mem_append.1 h7 with h7|h7
    ·exact ⟨(h6 b (h4 b h7)).1,by omega⟩
    ·exact ⟨(k6 b (k4 b h7)).1,by omega⟩
  ·exact (Below.refl lo w).grown r3 hlo (fun b hb=>(h6 b (h5 b hb).1).1)
  ·intro b hb
   rcases List.mem_append.1 hb with h7|h7
   ·rcases r4 b (yE.1 h7) with h8|h8
    ·exact .inl (h5 b h8).1
    ·exact .inr (.inr h8)
   ·rcases List.mem_append.1 h7 with h7|h7
    ·exact .inl (h4 b h7)
    ·exact .inr (.inl (k4 b h7))
/-- A store of one plain cell of an element. -/
theorem RL.az8 {α:Type} {O:Ow α} {v:Value} {xs:List α} {lo k n c b j:Nat} {a a':α} {bs:List Nat} (ok:BM O sz) (hg:gV f ops ⟨d,.store t x y,ty,pos,af,g⟩=true) (hx:ev f x=.pointer (some ⟨b,0+k * sz+j,none⟩)) (hy:ev f y=v)
  (hv:aH e O sz w lo (.slice (some ⟨b,0,none⟩) n c) xs bs) (hk:xs[k]? = some a) (hj:j < sz) (hO :∀{w cs l},O w cs a l→O w (cs.set j v) a' l) (h1:v.oneCell'=true) (hc:v.cells = #[v]) (hs:(P.info? t).map (·.size)=some 1)
  (h :∀w1,aH e O sz w1 lo (.slice (some ⟨b,0,none⟩) n c) (xs.set k a') bs→Only [b] w w1→RL P ops Q rest (ED f d undef) w1):RL P ops Q (⟨d,.store t x y,ty,pos,af,g⟩ :: rest) f w:=by
 refine .inl ⟨hg,?_⟩
 cases hi:P.info? t with
 |none=>rw [hi] at hs; cases hs
 |some inf=>
  rw [hi] at hs
  simp only [Option.map_some,Option.some.injEq] at hs
  obtain ⟨cells,ib,q1,q2,q3,q4,q5,q6⟩:=hv
  rcases q1.2 with ⟨h0,hl0⟩|⟨b',cap,cur,hv,hlo,hh,m1,m2,m3,m4⟩
  ·cases h0
  ·injection hv with e1 e2 e3
   injection e1 with e1
   injection e1 with e1
   subst e1 e2 e3
   obtain ⟨c1,cs,c2,i1,b1,i2,f1,f2,f3,f4,f5⟩:=q2.split ok hk
   have hkl:=lt_of_some hk
   have hcl:=ok.len f3
   have hcs:cells.length=xs.length * sz:=q1.1
   have hkc:k * sz+sz≤xs.length * sz:=by
    have:=Nat.mul_le_mul_right sz (show k+1≤xs.length from hkl)
    rw [Nat.add_mul] at this; omega
   have hcc:xs.length * sz≤cur.size:=by rw [m3]; exact Nat.mul_le_mul_right _ m1
   have hst:=run_storeCells_at (P:=P) b (k * sz+j) e [v] 0 cur w hh (by simp; omega) (fun u hu=>by simp at hu; subst hu; exact h1)
   have hr:(execOp (ev f) ⟨d,.store t x y,ty,pos,af,g⟩).run P w=.ok .skip (w.setRow b (cur.toList.take (k * sz+j) ++ [v] ++ cur.toList.drop (k * sz+j+1)).toArray):=by
    simp only [Nat.add_zero] at hst
    simp [execOp,hx,hy,Instr.storeAt,Instr.sureAddr,storeVar,sizeOf,typeInfo,hi,hc,hs,hst]
   rw [hr]
   have hb0:=q5 b rfl
   have hon:=Gp w b (cur.toList.take (k * sz+j) ++ [v] ++ cur.toList.drop (k * sz+j+1)).toArray
   refine h _ ⟨c1 ++ cs.set j v ++ c2,ib,⟨?_,.inr ⟨b,c,_,by rw [List.length_set],hlo,setRow_heap w b cur _ e _ hh,by rw [List.length_set]; exact m1,m2,?_,?_⟩⟩,?_,q3,q4,q5,fun b' hb'=>by have:=q6 b' hb'; rw [hon.size]; exact this⟩ hon
   ·rw [f1] at hcs
    simp only [List.length_append,List.length_set] at hcs ⊢
    exact hcs
   ·simp only [List.size_toArray,List.length_append,List.length_take,List.length_drop,Array.length_toList,List.length_cons,List.length_nil]
    rw [← m3]; omega
   ·rw [List.length_set]
    have hsp:=KT (A:=cur.toList) (E:=[v]) (p:=k * sz+j) (L:=xs.length * sz) (by simp; omega) (by simpa using hcc)
    simp only [List.length_cons,List.length_nil,Nat.zero_add] at hsp
    show List.take (xs.length * sz) (cur.toList.take (k * sz+j) ++ [v] ++ cur.toList.drop (k * sz+j+1))=_
    rw [hsp,m4,f1]
    have e5:(c1 ++ cs ++ c2).take (k * sz+j)=c1 ++ cs.take j:=by
     rw [List.append_assoc,← f2,List.take_length_add_append,List.take_append_of_le_length (by omega)]
    have e6:(c1 ++ cs ++ c2).drop (k * sz+j+1)=cs.drop (j+1) ++ c2:=by
     rw [List.append_assoc,← f2,Nat.add_assoc,List.drop_length_add_append,List.drop_append_of_le_length (by omega)]
    rw [e5,e6,List.set_eq_take_append_cons_drop,if_pos (by omega)]
    simp [List.append_assoc]
   ·have hkeep :∀b'∈ib,(w.setRow b (cur.toList.take (k * sz+j) ++ [v] ++ cur.toList.drop (k * sz+j+1)).toArray).heap[b']? = w.heap[b']?:=fun b' hb'=>hon.block b' (by intro hin; simp at hin; subst hin; exact hb0.2 hb')
    rw [f4] at hkeep ⊢
    exact f5 _ _ _ _ (fun b' hb'=>hkeep b' (by simp at hb' ⊢; rcases hb' with h|h <;> simp [h])) (hO (ok.keep (fun b' hb'=>hkeep b' (by simp [hb'])) f3))
end
end
section
open Go.RowKit
set_option maxRecDepth 100000
def oV (i1:Int):Option Int:=
  some i1
def tH (d0:List Int) (eU:Int→Int→Option Int) (K1:Int→Option Int) (i3:Int) (i4:Int):Option Int:=
  (bif (decide (i4 < (d0.length:Int))) then ((fC d0 i4).bind fun x7=>(bif (x7 != i3) then some (-1) else ((ck (i3+1)).bind fun s17=>(eU s17 (i4+1))))) else (K1 i3))
def jh (d0:List Int) (K1:Int→Option Int):Nat→Int→Int→Option Int
  |0,_,_=>none
  |g+1,i3,i4=>tH d0 (jh d0 K1 g) K1 i3 i4
def iJ (d0:List Int) (d1:Int):Option Int:=
  (jh d0 oV (d0.length+1) d1 0)
set_option maxHeartbeats 2000000 in
theorem lH (d0:List Int) (d1:Int) (r:Int) (hm:iJ d0 d1=some r) (v0:Value) (w:World) (hv0:Sl nR 1 w v0 d0) :
    Calls Tryz.prog 73 #[v0,.int .i64 d1] w fun e w'=>e=.returned (.int .i64 r)∧Below w.heap.size w w':=by
  obtain ⟨Bc,na0,ca0,rfl,ha0,GN⟩:=hv0;obtain ⟨rfl,qa0⟩:=bI ha0 GN;have T:=Below.refl w.heap.size w;unfold iJ at hm;refine enter 21 Tryz.func73 rfl rfl rfl ?_;intro f hf;have s0:f 0=.slice Bc d0.length ca0:=hf 0 _ rfl;have s1:f 1=.int .i64 d1:=hf 1 _ rfl;refine wp_seq<|au rfl<|aW (.int .i64 0)<|RQ.nil<|ah<|wp_seq<|wp_seq<|au rfl<|aW (.int .i64 0)<|RQ.nil<|ah<|wp_block ?_;obtain ⟨K1,hK1,hm⟩ :∃K,K=oV∧jh d0 K (d0.length+1) d1 0=some r:=⟨_,rfl,hm⟩;refine dG (fun g f w'=>∃(i3:Int) (i4:Int),f 0=.slice Bc d0.length ca0∧f 1=.int .i64 i3∧f 5=.int .i64 i4∧0≤i4∧Below w.heap.size w w'∧jh d0 K1 g i3 i4=some r) 0 (fun f w'=>∃(i1:Int),f 1=.int .i64 i1∧Below w.heap.size w w'∧oV i1=some r) (d0.length+1) ⟨d1,0,s0,s1,rfl,(by omega),T,hm⟩ ?_ ?_
  ·rintro f w2 ⟨i1,BO,T,hm⟩;unfold oV at hm;refine dW (ah ?_);refine wp_seq<|au rfl<|aT BO<|aW (.int .i64 i1)<|RQ.nil<|ah<|wp_ret ?_
   cases hm
   exact (aV rfl rfl rfl ⟨rfl,T⟩)
  rintro g f w5 ⟨i3,i4,dQ,iF,jD,P6,T,hm⟩;rcases g with _|g
  ·simp only [jh] at hm; cases hm
  obtain ⟨eU,d_,hm⟩ :∃z,z=jh d0 K1 g∧tH d0 z K1 i3 i4=some r:=⟨_,rfl,hm⟩;unfold tH at hm;refine wp_seq<|wp_seq<|au rfl<|aT jD<|aT dQ<|yH rfl<|iq (.bool (decide (i4 < (d0.length:Int))))<|RQ.nil<|ah ?_;rcases aB (decide (i4 < (d0.length:Int))) with c6|c6
  ·replace hm:=cF c6 hm;have pc6:=of_decide_eq_false c6;refine iH c6<|wp_exit ?_;exact (bQ (bQ (iW ⟨_,rfl,⟨i3,iF,T,(by rw [hK1] at hm; exact hm)⟩⟩)))
  replace hm:=cT c6 hm;have pc6:=of_decide_eq_true c6;refine ig c6<|wp_skip<|ah<|wp_seq<|wp_block<|wp_seq<|wp_seq<|au rfl<|aT dQ<|aT jD ?_;obtain ⟨x7,aap,hm⟩:=bnd hm;obtain ⟨k8,asP,hl12,aap⟩:=aU aap;obtain ⟨b14,o15,rfl,az9⟩:=ha0.addr (by omega);obtain ⟨cs9,WM,hc13⟩:=ha0.el aap;have az_:=WM;obtain rfl:=WM;refine RQ.y rfl (Y.indexAddr (m:=k8) (sz:=1) rfl rfl asP hl12 (by kernel_rfl))<|gZ (.int .i64 x7) rfl (cu (cellT T (hc13 0 _ rfl)))<|aT iF<|iq (.bool (x7 != i3))<|RQ.nil<|ah ?_;rcases aB (x7 != i3) with c16|c16
  ·replace hm:=cF c16 hm;refine iH c16<|wp_skip<|ah<|au rfl<|aT iF ?_;obtain ⟨s17,aGl,hm⟩:=bnd hm;replace aGl:=jg aGl;refine uZ (.int .i64 s17) rfl rfl (by rw [bn aGl.2,aGl.1])<|aW (.int .i64 s17)<|RQ.nil ?_;refine eF (ah ?_);refine au rfl<|aT jD<|RQ.y rfl (Y.dS rfl rfl (bn (m:=i4) (by omega)))<|aW (.int .i64 (i4+1))<|RQ.nil ?_;exact (ah ⟨g,_,Nat.lt_succ_self _,rfl,⟨s17,(i4+1),dQ,rfl,rfl,(by omega),T,(by rw [← d_]; exact hm)⟩⟩)
  replace hm:=cT c16 hm;refine ig c16<|wp_seq<|au rfl<|aW (.int .i64 (-1))<|RQ.nil<|ah<|wp_ret ?_
  cases hm
  exact (aF (bC (aF (aF (jG (bC (aF (aV rfl rfl rfl ⟨rfl,T⟩))))))))
end
section
open Go.RowKit
/-- A loop that goes through the states st 0, st 1, .. and ends at st n. -/
theorem axy {σ ρ:Type} {L:Nat→σ→Option ρ} {st:Nat→σ} {n:Nat} {r:Option ρ} (h :∀g k,k < n→L (g+1) (st k)=L g (st (k+1))) (he :∀g,L (g+1) (st n)=r) :∀g,n < g→L g (st 0)=r:=by
 have key :∀d k g,k+d=n→d < g→L g (st k)=r:=by
  intro d
  induction d with
  |zero=>
   intro k g hk hg
   obtain ⟨g,rfl⟩ :∃g',g=g'+1:=⟨g - 1,by omega⟩
   obtain rfl:k=n:=by omega
   exact he g
  |succ d ih=>
   intro k g hk hg
   obtain ⟨g,rfl⟩ :∃g',g=g'+1:=⟨g - 1,by omega⟩
   rw [h g k (by omega)]
   exact ih (k+1) g (by omega) (by omega)
 intro g hg
 exact key n 0 g (by omega) hg
/-- A loop over an index. -/
theorem av6 {ρ:Type} {L:Nat→Int→Option ρ} {n:Nat} {r:Option ρ} (h :∀g (k:Nat),k < n→L (g+1) (k:Int)=L g ((k:Int)+1)) (he :∀g,L (g+1) (n:Int)=r) (g:Nat) (hg:n < g):L g 0=r:=
 axy (L:=fun g (k:Nat)=>L g (k:Int)) (st:=fun k=>k) (fun g k hk=>by simpa using h g k hk) he g hg
open Classical in
/-- A loop that asks p of each index. -/
theorem allI {ρ:Type} {L:Nat→Int→Option ρ} {n:Nat} {p:Nat→Prop} {no K:Option ρ} (h1 :∀g (k:Nat),k < n→p k→L (g+1) (k:Int)=L g ((k:Int)+1)) (h2 :∀g (k:Nat),k < n→¬ p k→L (g+1) (k:Int)=no) (h3 :∀g,L (g+1) (n:Int)=K) (g:Nat) (hg:n < g) :
  L g 0=if∀k,k < n→p k then K else no:=by
 by_cases ha :∀k,k < n→p k
 ·rw [if_pos ha]
  exact av6 (fun g k hk=>h1 g k hk (ha k hk)) h3 g hg
 ·rw [if_neg ha]
  have hex :∃k,k < n∧¬ p k:=by
   apply Classical.byContradiction
   intro hn
   exact ha fun k hk=>Classical.byContradiction fun hp=>hn ⟨k,hk,hp⟩
  obtain ⟨m,⟨hm,hpm⟩,aKp⟩ :∃m,(m < n∧¬ p m)∧∀k,k < m→k < n→p k:=by
   obtain ⟨k0,hk0⟩:=hex
   induction k0 using Nat.strongRecOn with
   |_ k0 ih=>
    by_cases h :∃k,k < k0∧k < n∧¬ p k
    ·obtain ⟨k,hk,hk1⟩:=h
     exact ih k hk hk1
    ·exact ⟨k0,hk0,fun k hk hkn=>Classical.byContradiction fun hp=>h ⟨k,hk,hkn,hp⟩⟩
  exact av6 (n:=m) (fun g k hk=>h1 g k (by omega) (aKp k hk (by omega))) (fun g=>h2 g m hm hpm) g (by omega)
theorem aXv {ρ:Type} {L:Nat→Int→Option ρ} {n:Nat} {p:Nat→Prop} {no K:Option ρ} (h1 :∀g (k:Nat),k < n→p k→L (g+1) (k:Int)=L g ((k:Int)+1)) (h2 :∀g (k:Nat),k < n→¬ p k→L (g+1) (k:Int)=no) (h3 :∀g,L (g+1) (n:Int)=K) (g:Nat) (hg:n < g) :
  ((∀k,k < n→p k)∧L g 0=K) ∨ ((¬∀k,k < n→p k)∧L g 0=no):=by
 have h:=allI h1 h2 h3 g hg
 by_cases ha :∀k,k < n→p k
 ·rw [if_pos ha] at h; exact .inl ⟨ha,h⟩
 ·rw [if_neg ha] at h; exact .inr ⟨ha,h⟩
theorem jY {α:Type} {xs:List α} {k:Nat} (h:k < xs.length):fC xs (k:Int)=some xs[k]:=by simp [fC,h]
theorem LD {k n:Nat} (h:k < n):decide ((k:Int) < (n:Int))=true:=by simp; omega
theorem LG {n:Nat} : decide ((n:Int) < (n:Int))=false:=by simp
end
section
open Go.RowKit
theorem P7 (k n:Nat) (h:k+n≤4611686018427387904):iJ (marks k n) (k:Int)=some ((k+n:Nat):Int):=by
 unfold iJ
 have hl:=YH k n
 have key:=axy (L:=fun g (s:Int × Int)=>jh (marks k n) oV g s.1 s.2) (st:=fun i=>(((k+i:Nat):Int),(i:Int))) (n:=n) (r:=some ((k+n:Nat):Int))
  (fun g i hi=>by
   have hx:=axu (k:=k) hi
   simp -implicitDefEqProofs only [jh,tH,hl,LD hi,cond_true,gG hx,Option.bind_some]
   rw [show (((k+i:Nat):Int) != ((k+i:Nat):Int))=false by simp,cond_false,yA (by omega),Option.bind_some]
   simp only [Int.natCast_add,Int.cast_ofNat_Int,Int.add_assoc])
  (fun g=>by simp -implicitDefEqProofs only [jh,tH,hl,LG,cond_false,oV]) (n+1) (Nat.lt_succ_self _)
 rw [hl]
 simpa using key
end
section
open Go.RowKit
section
variable {P : Program} {C : World → Prop} {f : Nat → Value} {d : Option Tmp} {ty : TypeId} {pos : String} {af : Array Edge} {g : Option (Nat × Bool)} {x y : Operand} {t : TypeId} {A Av : Option Addr} {n c : Nat}
theorem Y.aKq {l sz N:Nat} {k:IntKind} {j:Int} (hx:ev f x=.slice A N c) (hy:ev f y=.int k j) (hj:j=(l:Int)) (hl:l≤N) (ht:amj P t=some sz) (eA:(if c=l then A else A.map (·.add (l * sz)))=Av) :
  Y P C f ⟨d,.slice t x (some y) none none,ty,pos,af,g⟩ (.slice Av (N - l) (c - l)):=fun w _=>by
 subst hj
 unfold amj at ht
 split at ht
 ·rename_i e hu
  cases agV:P.info? e with
  |none=>rw [agV] at ht; cases ht
  |some inf=>
   rw [agV] at ht
   simp at ht
   subst ht
   have he:P.elem t=e:=by simp [Program.elem,hu]
   have hu':P.underlying t=some (.slice (P.elem t)):=by rw [he]; exact hu
   have:=run_slice_l (P:=P) (w:=w) t A N c hu' k (l:Int) (by omega) (by omega)
   simp [execOp,hx,hy,run_sliceAt_slice,hu',this,he,sizeOf,typeInfo,agV,sliced,eA]
 ·cases ht
end
end
section
open Go.RowKit
section
variable {α : Type} {R R' : Rd α} {O O' : Ow α} {sz : Nat} {w : World} {B n b : Nat} {A : Option Addr}
theorem aY.congr {xs:List α} (hc :∀y∈xs,∀cs,R w B cs y→R' w B cs y) (h:aY R sz w B A n xs):aY R' sz w B A n xs:=
 ⟨h.1,fun hn=>by
  obtain ⟨b,off,e,hb,hs⟩:=h.2 hn
  exact ⟨b,off,e,hb,fun i x hx=>by
   obtain ⟨cs,hR,hv⟩:=hs i x hx
   exact ⟨cs,hc x (List.mem_of_getElem? hx) cs hR,hv⟩⟩⟩
theorem vO.congr :∀{xs:List α} {o:Nat} {bs:List Nat},(∀y∈xs,∀cs bs,O w cs y bs→O' w cs y bs)→vO O sz w b o xs bs→vO O' sz w b o xs bs
 |[],_,_,_,h=>h
 |x :: xs,o,_,hc,⟨cs,b1,b2,hO,hcs,e,hr⟩=>⟨cs,b1,b2,hc x (by simp) cs b1 hO,hcs,e,vO.congr (fun y hy=>hc y (by simp [hy])) hr⟩
theorem iV.congr {xs:List α} {bs:List Nat} (hc :∀y∈xs,∀cs bs,O w cs y bs→O' w cs y bs) (h:iV O sz w A n xs bs):iV O' sz w A n xs bs:=by
 refine ⟨h.1,?_⟩
 rcases h.2 with h2|⟨b,o,b2,e,e2,h2⟩
 ·exact .inl h2
 ·exact .inr ⟨b,o,b2,e,e2,h2.congr hc⟩
end
structure ak where
 kind:Int
 value:Int
 data:List Int
 kids:List ak
instance:Inhabited ak:=⟨⟨0,0,[],[]⟩⟩
def Uc:Nat→Rd ak
 |0=>fun _ _ _ _=>False
 |n+1=>fun w B cs x=>∃(A1:Option Addr) (n1 c1:Nat) (A2:Option Addr) (n2 c2:Nat),cs=[.int .i64 x.kind,.int .i64 x.value,.slice A1 n1 c1,.slice A2 n2 c2]∧(aY nR 1 w B A1 n1 x.data∧n1≤c1∧c1≤maxLen)∧(aY (Uc n) 4 w B A2 n2 x.kids∧n2≤c2∧c2≤maxLen)
def bf:Rd ak:=fun w B cs x=>Uc (SizeOf.sizeOf x) w B cs x
def Ud:Nat→Ow ak
 |0=>fun _ _ _ _=>False
 |n+1=>fun w cs x bs=>∃(A1:Option Addr) (n1 c1:Nat) (A2:Option Addr) (n2 c2:Nat) (b1 b2:List Nat),cs=[.int .i64 x.kind,.int .i64 x.value,.slice A1 n1 c1,.slice A2 n2 c2]∧(iV mF 1 w A1 n1 x.data b1∧n1≤c1∧c1≤maxLen)∧(iV (Ud n) 4 w A2 n2 x.kids b2∧n2≤c2∧c2≤maxLen)∧bs=b1 ++ b2
def dI:Ow ak:=fun w cs x bs=>Ud (SizeOf.sizeOf x) w cs x bs
theorem ak.Df {x y:ak} (h:y∈x.kids):SizeOf.sizeOf y < SizeOf.sizeOf x:=by
 have h1:=List.sizeOf_lt_of_mem h
 obtain ⟨a0,a1,a2,a3⟩:=x
 simp only [ak.mk.sizeOf_spec] at *
 omega
theorem ak.pos (x:ak):0 < SizeOf.sizeOf x:=by
 obtain ⟨a0,a1,a2,a3⟩:=x
 simp only [ak.mk.sizeOf_spec]
 omega
theorem GY {w:World} {B:Nat} :∀(n m:Nat) (cs:List Value) (x:ak),SizeOf.sizeOf x≤n→SizeOf.sizeOf x≤m→Uc n w B cs x→Uc m w B cs x
 |0,_,_,x,h,_,_=>by have:=x.pos; omega
 |_+1,0,_,x,_,h,_=>by have:=x.pos; omega
 |n+1,m+1,cs,x,h,h',⟨A1,n1,c1,A2,n2,c2,e,⟨h1,r1⟩,⟨h2,r2⟩⟩=>⟨A1,n1,c1,A2,n2,c2,e,⟨h1,r1⟩,⟨aY.congr (fun y hy cs hR=>GY n m cs y (by have:=ak.Df hy; omega) (by have:=ak.Df hy; omega) hR) h2,r2⟩⟩
theorem GZ {w:World} :∀(n m:Nat) (cs:List Value) (x:ak) (bs:List Nat),SizeOf.sizeOf x≤n→SizeOf.sizeOf x≤m→Ud n w cs x bs→Ud m w cs x bs
 |0,_,_,x,_,h,_,_=>by have:=x.pos; omega
 |_+1,0,_,x,_,_,h,_=>by have:=x.pos; omega
 |n+1,m+1,cs,x,bs,h,h',⟨A1,n1,c1,A2,n2,c2,b1,b2,e,⟨h1,r1⟩,⟨h2,r2⟩,eb⟩=>⟨A1,n1,c1,A2,n2,c2,b1,b2,e,⟨h1,r1⟩,⟨iV.congr (fun y hy cs bs hR=>GZ n m cs y bs (by have:=ak.Df hy; omega) (by have:=ak.Df hy; omega) hR) h2,r2⟩,eb⟩
section
variable {w : World} {B : Nat} {cs : List Value} {x : ak} {bs : List Nat}
theorem bG (h:bf w B cs x) :∃(A1:Option Addr) (n1 c1:Nat) (A2:Option Addr) (n2 c2:Nat),cs=[.int .i64 x.kind,.int .i64 x.value,.slice A1 n1 c1,.slice A2 n2 c2]∧(aY nR 1 w B A1 n1 x.data∧n1≤c1∧c1≤maxLen)∧(aY bf 4 w B A2 n2 x.kids∧n2≤c2∧c2≤maxLen):=by
 obtain ⟨A1,n1,c1,A2,n2,c2,e,⟨h1,r1⟩,⟨h2,r2⟩⟩:=GY (SizeOf.sizeOf x) (SizeOf.sizeOf x+1) cs x (Nat.le_refl _) (Nat.le_succ _) h
 exact ⟨A1,n1,c1,A2,n2,c2,e,⟨h1,r1⟩,⟨aY.congr (fun y hy cs hR=>GY _ _ cs y (Nat.le_of_lt (ak.Df hy)) (Nat.le_refl _) hR) h2,r2⟩⟩
theorem dR (h :∃(A1:Option Addr) (n1 c1:Nat) (A2:Option Addr) (n2 c2:Nat),cs=[.int .i64 x.kind,.int .i64 x.value,.slice A1 n1 c1,.slice A2 n2 c2]∧(aY nR 1 w B A1 n1 x.data∧n1≤c1∧c1≤maxLen)∧(aY bf 4 w B A2 n2 x.kids∧n2≤c2∧c2≤maxLen)):bf w B cs x:=by
 obtain ⟨A1,n1,c1,A2,n2,c2,e,⟨h1,r1⟩,⟨h2,r2⟩⟩:=h
 have h:Uc (SizeOf.sizeOf x+1) w B cs x:=⟨A1,n1,c1,A2,n2,c2,e,⟨h1,r1⟩,⟨aY.congr (fun y hy cs hR=>GY _ _ cs y (Nat.le_refl _) (Nat.le_of_lt (ak.Df hy)) hR) h2,r2⟩⟩
 exact GY _ _ cs x (Nat.le_succ _) (Nat.le_refl _) h
theorem ag0 (h:dI w cs x bs) :∃(A1:Option Addr) (n1 c1:Nat) (A2:Option Addr) (n2 c2:Nat) (b1 b2:List Nat),cs=[.int .i64 x.kind,.int .i64 x.value,.slice A1 n1 c1,.slice A2 n2 c2]∧(iV mF 1 w A1 n1 x.data b1∧n1≤c1∧c1≤maxLen)∧(iV dI 4 w A2 n2 x.kids b2∧n2≤c2∧c2≤maxLen)∧bs=b1 ++ b2:=by
 obtain ⟨A1,n1,c1,A2,n2,c2,b1,b2,e,⟨h1,r1⟩,⟨h2,r2⟩,eb⟩:=GZ (SizeOf.sizeOf x) (SizeOf.sizeOf x+1) cs x bs (Nat.le_refl _) (Nat.le_succ _) h
 exact ⟨A1,n1,c1,A2,n2,c2,b1,b2,e,⟨h1,r1⟩,⟨iV.congr (fun y hy cs bs hR=>GZ _ _ cs y bs (Nat.le_of_lt (ak.Df hy)) (Nat.le_refl _) hR) h2,r2⟩,eb⟩
theorem Jh (h :∃(A1:Option Addr) (n1 c1:Nat) (A2:Option Addr) (n2 c2:Nat) (b1 b2:List Nat),cs=[.int .i64 x.kind,.int .i64 x.value,.slice A1 n1 c1,.slice A2 n2 c2]∧(iV mF 1 w A1 n1 x.data b1∧n1≤c1∧c1≤maxLen)∧(iV dI 4 w A2 n2 x.kids b2∧n2≤c2∧c2≤maxLen)∧bs=b1 ++ b2):dI w cs x bs:=by
 obtain ⟨A1,n1,c1,A2,n2,c2,b1,b2,e,⟨h1,r1⟩,⟨h2,r2⟩,eb⟩:=h
 have h:Ud (SizeOf.sizeOf x+1) w cs x bs:=⟨A1,n1,c1,A2,n2,c2,b1,b2,e,⟨h1,r1⟩,⟨iV.congr (fun y hy cs bs hR=>GZ _ _ cs y bs (Nat.le_refl _) (Nat.le_of_lt (ak.Df hy)) hR) h2,r2⟩,eb⟩
 exact GZ _ _ cs x bs (Nat.le_succ _) (Nat.le_refl _) h
end
theorem NH :∀n,Sz (Uc n) 4
  |0=>⟨fun h=>h.elim,fun _ h=>h.elim,fun _ h=>h.elim⟩
  | n + 1 => ⟨fun ⟨A1, n1, c1, A2, n2, c2, e, _⟩ => by rw [e]; rfl,
   fun hk ⟨A1,n1,c1,A2,n2,c2,e,⟨h1,r1⟩,⟨h2,r2⟩⟩=>⟨A1,n1,c1,A2,n2,c2,e,⟨h1.keep aG hk,r1⟩,⟨h2.keep (NH n) hk,r2⟩⟩,
   fun hB ⟨A1,n1,c1,A2,n2,c2,e,⟨h1,r1⟩,⟨h2,r2⟩⟩=>⟨A1,n1,c1,A2,n2,c2,e,⟨h1.more aG hB,r1⟩,⟨h2.more (NH n) hB,r2⟩⟩⟩
theorem aK:Sz bf 4:=⟨fun h=>(NH _).len h,fun hk h=>(NH _).keep hk h,fun hB h=>(NH _).more hB h⟩
theorem aaq :∀n,BM (Ud n) 4
  |0=>⟨fun h=>h.elim,fun _ h=>h.elim⟩
  | n + 1 => ⟨fun ⟨A1, n1, c1, A2, n2, c2, b1, b2, e, _⟩ => by rw [e]; rfl,
   fun hb ⟨A1,n1,c1,A2,n2,c2,b1,b2,e,⟨h1,r1⟩,⟨h2,r2⟩,eb⟩=>⟨A1,n1,c1,A2,n2,c2,b1,b2,e,⟨h1.keep gW (fun k hk=>hb k (by rw [eb]; simp [hk])),r1⟩,⟨h2.keep (aaq n) (fun k hk=>hb k (by rw [eb]; simp [hk])),r2⟩,eb⟩⟩
theorem aC:BM dI 4:=⟨fun h=>(aaq _).len h,fun hb h=>(aaq _).keep hb h⟩
theorem ZB (B:Nat) :∀n,Gives (Ud n) (Uc n) B
 |0=>fun _ _ _ _ h _=>h.elim
 |n+1=>fun _ _ _ _ ⟨A1,n1,c1,A2,n2,c2,b1,b2,e,⟨h1,r1⟩,⟨h2,r2⟩,eb⟩ hb=>⟨A1,n1,c1,A2,n2,c2,e,⟨h1.reads (yM B) (fun k hk=>hb k (by rw [eb]; simp [hk])),r1⟩,⟨h2.reads (ZB B n) (fun k hk=>hb k (by rw [eb]; simp [hk])),r2⟩⟩
theorem MN (B:Nat):Gives dI bf B:=fun w cs x bs h hb=>ZB B _ w cs x bs h hb
theorem NI:axx dI:=fun h u hu=>by
 obtain ⟨A1,n1,c1,A2,n2,c2,b1,b2,e,_⟩:=(ag0 h)
 rw [e] at hu
 simp at hu
 rcases hu with rfl|rfl|rfl|rfl <;> rfl
end
section
open Go.RowKit
mutual
def fJ:ak→Nat
 |⟨_,_,d,ks⟩=>2+d.length+afk ks
def afk:List ak→Nat
 |[]=>0
 |x :: xs=>fJ x+afk xs
end
mutual
def mkC (k:Nat):ak→ak
 |⟨_,_,d,ks⟩=>⟨(k:Int),((k+1:Nat):Int),marks (k+2) d.length,aAa (k+2+d.length) ks⟩
def aAa (k:Nat):List ak→List ak
 |[]=>[]
 |x :: xs=>mkC k x :: aAa (k+fJ x) xs
end
theorem ag1 :∀xs:List ak,afk xs=bJ fJ xs
 |[]=>by rw [afk]; rfl
 |x :: xs=>by rw [afk,ag1 xs,Gn]
theorem anp (x:ak):fJ x=2+x.data.length+bJ fJ x.kids:=by
 obtain ⟨a,b,c,d⟩:=x
 rw [fJ,ag1]
theorem av7 :∀(xs:List ak) (k:Nat),aAa k xs=mkL mkC fJ k xs
 |[],k=>by rw [aAa,mkL]
 |x :: xs,k=>by rw [aAa,av7 xs,mkL]
theorem anq (k:Nat) (x:ak):mkC k x=⟨(k:Int),((k+1:Nat):Int),marks (k+2) x.data.length,mkL mkC fJ (k+2+x.data.length) x.kids⟩:=by
 obtain ⟨a,b,c,d⟩:=x
 rw [mkC,av7]
theorem aAb (x:ak):2≤fJ x:=by rw [anp]; omega
theorem YI :∀xs:List ak,2 * xs.length≤bJ fJ xs
 |[]=>by simp [bJ]
 |x :: xs=>by
  have:=YI xs
  have:=aAb x
  rw [Gn,List.length_cons]; omega
theorem aAc {xs:List ak} {k:Nat} {x:ak} (h:xs[k]? = some x):fJ x≤bJ fJ xs:=by
 have h1:=DZ (cnt:=fJ) h
 have h2:=EY (cnt:=fJ) xs (k+1)
 omega
theorem aAd {xs:List ak} {k:Nat} {x:ak} (h:xs[k]? = some x):SizeOf.sizeOf x.kids < SizeOf.sizeOf xs:=by
 have h1:=List.sizeOf_lt_of_mem (List.mem_of_getElem? h)
 have h2:SizeOf.sizeOf x.kids < SizeOf.sizeOf x:=by
  obtain ⟨a,b,c,d⟩:=x
  simp only [ak.mk.sizeOf_spec]
  omega
 omega
def oM (k:Nat) (xs:List ak):List ak:=mkL mkC fJ k xs
theorem Ue {w:World} {b p j:Nat} {u0 u1:Value} (h:j ≠ b):((w.setCell ⟨b,p,none⟩ u0).setCell ⟨b,p+1,none⟩ u1).heap[j]? = w.heap[j]?:=by
 rw [Below.heap_setCell _ ⟨b,p+1,none⟩ _ _ h,Below.heap_setCell _ ⟨b,p,none⟩ _ _ h]
theorem adN {w:World} {b p q:Nat} {u0 u1:Value} (h:p+2≤q):((w.setCell ⟨b,p,none⟩ u0).setCell ⟨b,p+1,none⟩ u1).cell? ⟨b,q,none⟩=w.cell? ⟨b,q,none⟩:=by
 rw [World.cell?_setCell_other _ _ _ _ (fun e=>by injection e with _ e2; omega),World.cell?_setCell_other _ _ _ _ (fun e=>by injection e with _ e2; omega)]
set_option maxHeartbeats 4000000 in
theorem P8 :∀(N:Nat) (A:Option Addr) (n c k0:Nat) (xs:List ak) (bs:List Nat) (w:World) (hN:SizeOf.sizeOf xs≤N) (hx:iV dI 4 w A n xs bs) (hnd:bs.Nodup) (hs:bJ fJ xs≤4194304) (hk0:k0+bJ fJ xs≤4294967296),
  Calls Tryz.prog 34 #[.slice A n c,.int .i64 k0] w fun e w'=>e=.returned (.int .i64 ((k0+bJ fJ xs:Nat):Int))∧iV dI 4 w' A n (oM k0 xs) bs∧Only bs w w':=by
 intro N
 induction N with
 |zero=>
  intro A n c k0 xs bs w hN
  exact absurd hN (by cases xs <;> simp <;> omega)
 |succ N ihN=>
 intro A n c k0 xs bs w hN hx hnd hs hk0
 have IH:=Lib.hid ihN
 clear ihN
 have lx:=Lib.hid hx.len
 have hcl:=YI xs
 have hn:n≤4194304:=by have:=lx.out; omega
 have hmid:=Lib.hid hx.mid
 clear hx
 go_enter Tryz.func34,Tryz.ntmps34
 go_wp2_with fail
 go_loopw [1,5] (fun kk i wr=>∃k:Nat,k≤n∧i=.int .i64 k∧kk=.int .i64 ((k0:Int)+(bJ fJ (xs.take k):Nat))∧Only bs w wr∧Hid (KP dI 4 wr A (oM k0 (xs.take k)) (xs.drop k) bs)) (fun _ i _=>n - (intOf i).toNat)
 case atStart=>exact ⟨0,by omega,rfl,by simp [bJ],Only.refl _ _,hmid.out⟩
 case round=>
  obtain ⟨k,hk,rfl,rfl,ho,hm⟩:=hrel
  by_cases hlt:k < n
  ·obtain ⟨x,hxk⟩ :∃x,xs[k]? = some x:=⟨_,List.getElem?_eq_getElem (by have:=lx.out; omega)⟩
   have hm:=hm.out
   rw [SC hxk] at hm
   obtain ⟨b,o,cs,b1,bx,b3,rfl,hbs,hO,hc,h1,h2⟩:=hm.next
   have hlen:(oM k0 (xs.take k)).length=k:=by unfold oM; rw [JQ,List.length_take]; have:=lx.out; omega
   rw [hlen] at hc h2
   obtain ⟨A1,n1,c1,A2,n2,c2,bd,bp,rfl,⟨hd,rd⟩,⟨hp,rp⟩,rfl⟩:=ag0 hO
   obtain ⟨hc0,hd0⟩:=hc 0 _ rfl
   obtain ⟨hc1,hd1⟩:=hc 1 _ rfl
   obtain ⟨hc2,hd2⟩:=hc 2 _ rfl
   obtain ⟨hc3,hd3⟩:=hc 3 _ rfl
   rw [Nat.add_zero] at hc0 hd0
   have hsm:=aAc hxk
   have hsz:=aAd hxk
   have hct:=DZ (cnt:=fJ) hxk
   have hcx:fJ x=2+x.data.length+bJ fJ x.kids:=anp x
   have hcm:=EY (cnt:=fJ) xs (k+1)
   have hck:=EY (cnt:=fJ) xs k
   have hnd':=hnd
   rw [hbs] at hnd'
   have nb:b ∉ b1∧(b ∉ bd∧b ∉ bp)∧b ∉ b3:=by have:=(List.nodup_cons.1 hnd').1; simp only [List.mem_append,not_or] at this; exact this
   have hn1:=List.nodup_append.1 (List.nodup_cons.1 hnd').2
   have aKr:=List.nodup_append.1 hn1.2.1
   have hn3:=List.nodup_append.1 aKr.1
   have ld:=Lib.hid hd.len
   have lp:=Lib.hid hp.len
   have T0 :∀(u0 u1:Value),Touch b (o+k * 4) 4 (bd ++ bp) wr ((wr.setCell ⟨b,o+k * 4,none⟩ u0).setCell ⟨b,o+k * 4+1,none⟩ u1):=fun u0 u1=>
    (Touch.refl.set (by omega) (by omega) _).set (by omega) (by omega) _
   have S0 :∀(u0 u1:Value),PG ((wr.setCell ⟨b,o+k * 4,none⟩ u0).setCell ⟨b,o+k * 4+1,none⟩ u1) b (o+k * 4) [u0,u1]:=fun u0 u1=>
    Gm (w:=wr) (vs:=[u0,u1]) (fun j hj=>by
     rcases j with _|_|j
     ·exact ⟨_,hc0⟩
     ·exact ⟨_,hc1⟩
     ·simp only [List.length_cons,List.length_nil] at hj; omega) (fun j hj=>by
     rcases j with _|_|j
     ·exact hd0
     ·exact hd1
     ·simp only [List.length_cons,List.length_nil] at hj; omega)
   have HE:=Lib.hid h2
   have HF:=Lib.hid h1
   have HD:=Lib.hid hd
   have HP:=Lib.hid hp
   have HX:=Lib.hid hxk
   have HT:=Lib.hid T0
   have HS:=Lib.hid S0
   have HI:=Lib.hid hbs
   have N0:=Lib.hid hn1
   have N1:=Lib.hid aKr
   have N2:=Lib.hid hn3
   have NB:=Lib.hid nb
   have HL:=Lib.hid hct
   have HLN:=Lib.hid hlen
   have HSZ:=Lib.hid hsz
   clear h2 h1 hd hp hxk T0 S0 hbs hn1 aKr hn3 nb hc hct hlen hnd' hm hO hsz
   go_wp2_with fail
   have T3:=HT.out (.int .i64 ((k0:Int)+(bJ fJ (xs.take k):Nat))) (.int .i64 ((k0:Int)+(bJ fJ (xs.take k):Nat)+1))
   have S3:=HS.out (.int .i64 ((k0:Int)+(bJ fJ (xs.take k):Nat))) (.int .i64 ((k0:Int)+(bJ fJ (xs.take k):Nat)+1))
   rw [show (k0:Int)+(bJ fJ (xs.take k):Nat)+1+1=((k0+bJ fJ (xs.take k)+2:Nat):Int) from by omega]
   have OD:iV mF 1 ((wr.setCell ⟨b,o+k * 4,none⟩ (.int .i64 ((k0:Int)+(bJ fJ (xs.take k):Nat)))).setCell ⟨b,o+k * 4+1,none⟩ (.int .i64 ((k0:Int)+(bJ fJ (xs.take k):Nat)+1))) A1 n1 x.data bd:=
    HD.out.keep gW (fun j hj=>Ue (fun e=>NB.out.2.1.1 (by rw [← e]; exact hj)))
   refine (yN A1 n1 c1 (k0+bJ fJ (xs.take k)+2) x.data bd _ OD N2.out.1 (by have:=ld.out; omega) (by omega)).mono ?_
   rintro e w4 ⟨rfl,md,o4⟩
   have aPK:w4.cell? ⟨b,o+k * 4+3,none⟩=some (.slice A2 n2 c2):=((World.cell?_of_block (a:=⟨b,o+k * 4+3,none⟩) (o4.block b NB.out.2.1.1)).trans (adN (by omega))).trans hc3
   have MD:=Lib.hid md
   clear md
   go_wp2_with fail
   rw [show (k0:Int)+(bJ fJ (xs.take k):Nat)+2+(n1:Nat)=((k0+bJ fJ (xs.take k)+2+n1:Nat):Int) from by omega]
   have OP:iV dI 4 w4 A2 n2 x.kids bp:=HP.out.keep aC (fun j hj=>(o4.block j (fun hjd=>N2.out.2.2 j hjd j hj rfl)).trans (Ue (fun e=>NB.out.2.1.2 (by rw [← e]; exact hj))))
   refine (IH.out A2 n2 c2 _ x.kids bp w4 (by have:=HSZ.out; omega) OP N2.out.2.1 (by omega) (by have:=ld.out; have:=HL.out; omega)).mono ?_
   rintro e w5 ⟨rfl,mp,o5⟩
   have MP:=Lib.hid mp
   clear mp
   go_wp2_with fail
   go_roundw
   case rel=>
    have e1:=ld.out
    have e2:=lp.out
    have e3:=HL.out
    have OO:Only (b :: (bd ++ bp)) wr w5:=(T3.bK.trans (o4.mono (fun j hj=>by simp [hj]))).trans (o5.mono (fun j hj=>by simp [hj]))
    have hcell :∀q,w5.cell? ⟨b,q,none⟩=((wr.setCell ⟨b,o+k * 4,none⟩ (.int .i64 ((k0:Int)+(bJ fJ (xs.take k):Nat)))).setCell ⟨b,o+k * 4+1,none⟩ (.int .i64 ((k0:Int)+(bJ fJ (xs.take k):Nat)+1))).cell? ⟨b,q,none⟩:=fun q=>
     (World.cell?_of_block (a:=⟨b,q,none⟩) (o5.block b NB.out.2.1.2)).trans (World.cell?_of_block (a:=⟨b,q,none⟩) (o4.block b NB.out.2.1.1))
    have aAe :∀q,w5.frozen? ⟨b,q,none⟩=((wr.setCell ⟨b,o+k * 4,none⟩ (.int .i64 ((k0:Int)+(bJ fJ (xs.take k):Nat)))).setCell ⟨b,o+k * 4+1,none⟩ (.int .i64 ((k0:Int)+(bJ fJ (xs.take k):Nat)+1))).frozen? ⟨b,q,none⟩:=fun q=>
     (World.frozen?_of_block (a:=⟨b,q,none⟩) (o5.block b NB.out.2.1.2)).trans (World.frozen?_of_block (a:=⟨b,q,none⟩) (o4.block b NB.out.2.1.1))
    refine ⟨k+1,by omega,by go_num,congrArg (Value.int .i64) (by omega),ho.trans (OO.mono (fun j hj=>?_)),?_⟩
    ·rw [HI.out]; simp only [List.mem_cons,List.mem_append] at hj ⊢
     rcases hj with hj|hj
     ·exact .inl hj
     ·exact .inr (.inr (.inl hj))
    ·show Hid _
     refine ?_
     unfold oM
     rw [agT HX.out,HI.out]
     have hl:=HLN.out
     unfold oM at hl
     refine KP.step (o:=o) (cs:=[.int .i64 ((k0:Int)+(bJ fJ (xs.take k):Nat)),.int .i64 ((k0:Int)+(bJ fJ (xs.take k):Nat)+1),.slice A1 n1 c1,.slice A2 n2 c2]) rfl ?_ ?_ ?_ ?_
     ·refine vO.ZA aC (w:=wr) (fun q h1 h2=>?_) (fun j hj=>?_) HF.out
      ·unfold oM at h2
       rw [hl] at h2
       exact ⟨(hcell q).trans (T3.cell q (.inl (by omega))),(aAe q).trans (T3.frozen q)⟩
      ·exact OO.block j (fun hin=>by
        rcases List.mem_cons.1 hin with rfl|hin
        ·exact NB.out.1 hj
        ·exact N0.out.2.2 j hj j (by simp only [List.mem_append] at hin ⊢; exact .inl hin) rfl)
     ·refine Jh ⟨A1,n1,c1,A2,n2,c2,bd,bp,?_,⟨?_,rd⟩,⟨?_,rp⟩,rfl⟩
      ·rw [anq]
       simp only
       rw [show ((k0+bJ fJ (xs.take k):Nat):Int)=(k0:Int)+(bJ fJ (xs.take k):Nat) from by omega,show ((k0+bJ fJ (xs.take k)+1:Nat):Int)=(k0:Int)+(bJ fJ (xs.take k):Nat)+1 from by omega]
      ·have:=MD.out.keep gW (w':=w5) (fun j hj=>o5.block j (fun hin=>N2.out.2.2 j hj j hin rfl))
       rw [anq]
       simp only; rw [← e1]; exact this
      ·have:=MP.out
       rw [anq]
       simp only; rw [← e1]; exact this
     ·rw [hl]
      intro j v hj
      rw [hcell,aAe]
      rcases j with _|_|_|_|j
      ·exact S3 0 v hj
      ·exact S3 1 v hj
      ·simp at hj; subst hj
       exact ⟨(adN (by omega)).trans hc2,(T3.frozen _).trans hd2⟩
      ·simp at hj; subst hj
       exact ⟨(adN (by omega)).trans hc3,(T3.frozen _).trans hd3⟩
      ·simp at hj
     ·rw [hl]
      refine vO.ZA aC (w:=wr) (fun q h1 h2=>?_) (fun j hj=>?_) HE.out
      ·exact ⟨(hcell q).trans (T3.cell q (.inr (by omega))),(aAe q).trans (T3.frozen q)⟩
      ·exact OO.block j (fun hin=>by
        rcases List.mem_cons.1 hin with rfl|hin
        ·exact NB.out.2.2 hj
        ·exact N1.out.2.2 j hin j hj rfl)
   case measure=>simp [intOf]; omega
  ·obtain rfl:n=k:=by omega
   have hlast:xs.take n=xs:=List.take_of_length_le (by have:=lx.out; omega)
   have hdl:xs.drop n=[]:=List.drop_eq_nil_of_le (by have:=lx.out; omega)
   have hm:=hm.out
   rw [hlast,hdl] at hm
   rw [hlast]
   have HM:=Lib.hid (hm.whole (by unfold oM; rw [JQ]; first|done|exact lx.out))
   clear hlast hdl hm
   go_wp2_with fail
   go_ret
   exact ⟨aKh (by omega),by rw [lx.out]; first|exact HM.out|(have h:=HM.out; rw [lx.out] at h; exact h),ho⟩
end
section
open Go.RowKit
structure dY where
 defs:List ak
instance:Inhabited dY:=⟨⟨[]⟩⟩
def iI:Rd dY:=fun w B cs x=>∃(A1:Option Addr) (n1 c1:Nat),cs=[.slice A1 n1 c1]∧(aY bf 4 w B A1 n1 x.defs∧n1≤c1∧c1≤maxLen)
def ag2:Ow dY:=fun w cs x bs=>∃(A1:Option Addr) (n1 c1:Nat) (b1:List Nat),cs=[.slice A1 n1 c1]∧(iV dI 4 w A1 n1 x.defs b1∧n1≤c1∧c1≤maxLen)∧bs=b1
theorem jP:Sz iI 1:=
  ⟨fun h => by obtain ⟨A1, n1, c1, e, _⟩ := h; rw [e]; rfl,
   fun hk h=>by obtain ⟨A1,n1,c1,e,⟨h1,r1⟩⟩:=h; exact  ⟨A1,n1,c1,e,⟨h1.keep aK hk,r1⟩⟩,
   fun hB h=>by obtain ⟨A1,n1,c1,e,⟨h1,r1⟩⟩:=h; exact  ⟨A1,n1,c1,e,⟨h1.more aK hB,r1⟩⟩⟩
theorem dP:BM ag2 1:=
  ⟨fun h => by obtain ⟨A1, n1, c1, b1, e, _⟩ := h; rw [e]; rfl,
   fun hb h=>by obtain ⟨A1,n1,c1,b1,e,⟨h1,r1⟩,eb⟩:=h; exact  ⟨A1,n1,c1,b1,e,⟨h1.keep aC (fun k hk=>hb k (by rw [eb]; simp [hk])),r1⟩,eb⟩⟩
theorem qy (B:Nat):Gives ag2 iI B:=fun _ _ _ _ h hb=>by
 obtain ⟨A1,n1,c1,b1,e,⟨h1,r1⟩,eb⟩:=h
 exact  ⟨A1,n1,c1,e,⟨h1.reads (MN B) (fun k hk=>hb k (by rw [eb]; simp [hk])),r1⟩⟩
structure ay where
 term:ak
 env:List Int
instance:Inhabited ay:=⟨⟨default,[]⟩⟩
def dM:Rd ay:=fun w B cs x=>∃(A1:Option Addr) (n1 c1:Nat) (A2:Option Addr) (n2 c2:Nat) (A3:Option Addr) (n3 c3:Nat),cs=[.int .i64 x.term.kind,.int .i64 x.term.value,.slice A1 n1 c1,.slice A2 n2 c2,.slice A3 n3 c3]∧(aY nR 1 w B A1 n1 x.term.data∧n1≤c1∧c1≤maxLen)∧(aY bf 4 w B A2 n2 x.term.kids∧n2≤c2∧c2≤maxLen)∧(aY nR 1 w B A3 n3 x.env∧n3≤c3∧c3≤maxLen)
theorem qA:Sz dM 5:=
  ⟨fun h => by obtain ⟨A1, n1, c1, A2, n2, c2, A3, n3, c3, e, _⟩ := h; rw [e]; rfl,
   fun hk h=>by obtain ⟨A1,n1,c1,A2,n2,c2,A3,n3,c3,e,⟨h1,r1⟩,⟨h2,r2⟩,⟨h3,r3⟩⟩:=h; exact  ⟨A1,n1,c1,A2,n2,c2,A3,n3,c3,e,⟨h1.keep aG hk,r1⟩,⟨h2.keep aK hk,r2⟩,⟨h3.keep aG hk,r3⟩⟩,
   fun hB h=>by obtain ⟨A1,n1,c1,A2,n2,c2,A3,n3,c3,e,⟨h1,r1⟩,⟨h2,r2⟩,⟨h3,r3⟩⟩:=h; exact  ⟨A1,n1,c1,A2,n2,c2,A3,n3,c3,e,⟨h1.more aG hB,r1⟩,⟨h2.more aK hB,r2⟩,⟨h3.more aG hB,r3⟩⟩⟩
structure bD where
 done:Bool
 closure:ay
instance:Inhabited bD:=⟨⟨false,default⟩⟩
def yQ:Rd bD:=fun w B cs x=>∃(A1:Option Addr) (n1 c1:Nat) (A2:Option Addr) (n2 c2:Nat) (A3:Option Addr) (n3 c3:Nat),cs=[.bool x.done,.int .i64 x.closure.term.kind,.int .i64 x.closure.term.value,.slice A1 n1 c1,.slice A2 n2 c2,.slice A3 n3 c3]∧(aY nR 1 w B A1 n1 x.closure.term.data∧n1≤c1∧c1≤maxLen)∧(aY bf 4 w B A2 n2 x.closure.term.kids∧n2≤c2∧c2≤maxLen)∧(aY nR 1 w B A3 n3 x.closure.env∧n3≤c3∧c3≤maxLen)
def fD:Ow bD:=fun w cs x bs=>∃(A1:Option Addr) (n1 c1:Nat) (A2:Option Addr) (n2 c2:Nat) (A3:Option Addr) (n3 c3:Nat) (b1 b2 b3:List Nat),cs=[.bool x.done,.int .i64 x.closure.term.kind,.int .i64 x.closure.term.value,.slice A1 n1 c1,.slice A2 n2 c2,.slice A3 n3 c3]∧(iV mF 1 w A1 n1 x.closure.term.data b1∧n1≤c1∧c1≤maxLen)∧(iV dI 4 w A2 n2 x.closure.term.kids b2∧n2≤c2∧c2≤maxLen)∧(iV mF 1 w A3 n3 x.closure.env b3∧n3≤c3∧c3≤maxLen)∧bs=b1 ++ b2 ++ b3
theorem nN:Sz yQ 6:=
  ⟨fun h => by obtain ⟨A1, n1, c1, A2, n2, c2, A3, n3, c3, e, _⟩ := h; rw [e]; rfl,
   fun hk h=>by obtain ⟨A1,n1,c1,A2,n2,c2,A3,n3,c3,e,⟨h1,r1⟩,⟨h2,r2⟩,⟨h3,r3⟩⟩:=h; exact  ⟨A1,n1,c1,A2,n2,c2,A3,n3,c3,e,⟨h1.keep aG hk,r1⟩,⟨h2.keep aK hk,r2⟩,⟨h3.keep aG hk,r3⟩⟩,
   fun hB h=>by obtain ⟨A1,n1,c1,A2,n2,c2,A3,n3,c3,e,⟨h1,r1⟩,⟨h2,r2⟩,⟨h3,r3⟩⟩:=h; exact  ⟨A1,n1,c1,A2,n2,c2,A3,n3,c3,e,⟨h1.more aG hB,r1⟩,⟨h2.more aK hB,r2⟩,⟨h3.more aG hB,r3⟩⟩⟩
theorem aS:BM fD 6:=
  ⟨fun h => by obtain ⟨A1, n1, c1, A2, n2, c2, A3, n3, c3, b1, b2, b3, e, _⟩ := h; rw [e]; rfl,
   fun hb h=>by obtain ⟨A1,n1,c1,A2,n2,c2,A3,n3,c3,b1,b2,b3,e,⟨h1,r1⟩,⟨h2,r2⟩,⟨h3,r3⟩,eb⟩:=h; exact  ⟨A1,n1,c1,A2,n2,c2,A3,n3,c3,b1,b2,b3,e,⟨h1.keep gW (fun k hk=>hb k (by rw [eb]; simp [hk])),r1⟩,⟨h2.keep aC (fun k hk=>hb k (by rw [eb]; simp [hk])),r2⟩,⟨h3.keep gW (fun k hk=>hb k (by rw [eb]; simp [hk])),r3⟩,eb⟩⟩
theorem ZC (B:Nat):Gives fD yQ B:=fun _ _ _ _ h hb=>by
 obtain ⟨A1,n1,c1,A2,n2,c2,A3,n3,c3,b1,b2,b3,e,⟨h1,r1⟩,⟨h2,r2⟩,⟨h3,r3⟩,eb⟩:=h
 exact  ⟨A1,n1,c1,A2,n2,c2,A3,n3,c3,e,⟨h1.reads (yM B) (fun k hk=>hb k (by rw [eb]; simp [hk])),r1⟩,⟨h2.reads (MN B) (fun k hk=>hb k (by rw [eb]; simp [hk])),r2⟩,⟨h3.reads (yM B) (fun k hk=>hb k (by rw [eb]; simp [hk])),r3⟩⟩
theorem Gu:axx fD:=fun h u hu=>by
 obtain ⟨A1,n1,c1,A2,n2,c2,A3,n3,c3,b1,b2,b3,e,_⟩:=h
 rw [e] at hu
 simp at hu
 rcases hu with rfl|rfl|rfl|rfl|rfl|rfl <;> rfl
structure aO where
 kind:Int
 value:Int
 data:List Int
 closure:ay
instance:Inhabited aO:=⟨⟨0,0,[],default⟩⟩
def nS:Rd aO:=fun w B cs x=>∃(A1:Option Addr) (n1 c1:Nat) (A2:Option Addr) (n2 c2:Nat) (A3:Option Addr) (n3 c3:Nat) (A4:Option Addr) (n4 c4:Nat),cs=[.int .i64 x.kind,.int .i64 x.value,.slice A1 n1 c1,.int .i64 x.closure.term.kind,.int .i64 x.closure.term.value,.slice A2 n2 c2,.slice A3 n3 c3,.slice A4 n4 c4]∧(aY nR 1 w B A1 n1 x.data∧n1≤c1∧c1≤maxLen)∧(aY nR 1 w B A2 n2 x.closure.term.data∧n2≤c2∧c2≤maxLen)∧(aY bf 4 w B A3 n3 x.closure.term.kids∧n3≤c3∧c3≤maxLen)∧(aY nR 1 w B A4 n4 x.closure.env∧n4≤c4∧c4≤maxLen)
def dZ:Ow aO:=fun w cs x bs=>∃(A1:Option Addr) (n1 c1:Nat) (A2:Option Addr) (n2 c2:Nat) (A3:Option Addr) (n3 c3:Nat) (A4:Option Addr) (n4 c4:Nat) (b1 b2 b3 b4:List Nat),cs=[.int .i64 x.kind,.int .i64 x.value,.slice A1 n1 c1,.int .i64 x.closure.term.kind,.int .i64 x.closure.term.value,.slice A2 n2 c2,.slice A3 n3 c3,.slice A4 n4 c4]∧(iV mF 1 w A1 n1 x.data b1∧n1≤c1∧c1≤maxLen)∧(iV mF 1 w A2 n2 x.closure.term.data b2∧n2≤c2∧c2≤maxLen)∧(iV dI 4 w A3 n3 x.closure.term.kids b3∧n3≤c3∧c3≤maxLen)∧(iV mF 1 w A4 n4 x.closure.env b4∧n4≤c4∧c4≤maxLen)∧bs=b1 ++ b2 ++ b3 ++ b4
theorem kF:Sz nS 8:=
  ⟨fun h => by obtain ⟨A1, n1, c1, A2, n2, c2, A3, n3, c3, A4, n4, c4, e, _⟩ := h; rw [e]; rfl,
   fun hk h=>by obtain ⟨A1,n1,c1,A2,n2,c2,A3,n3,c3,A4,n4,c4,e,⟨h1,r1⟩,⟨h2,r2⟩,⟨h3,r3⟩,⟨h4,r4⟩⟩:=h; exact  ⟨A1,n1,c1,A2,n2,c2,A3,n3,c3,A4,n4,c4,e,⟨h1.keep aG hk,r1⟩,⟨h2.keep aG hk,r2⟩,⟨h3.keep aK hk,r3⟩,⟨h4.keep aG hk,r4⟩⟩,
   fun hB h=>by obtain ⟨A1,n1,c1,A2,n2,c2,A3,n3,c3,A4,n4,c4,e,⟨h1,r1⟩,⟨h2,r2⟩,⟨h3,r3⟩,⟨h4,r4⟩⟩:=h; exact  ⟨A1,n1,c1,A2,n2,c2,A3,n3,c3,A4,n4,c4,e,⟨h1.more aG hB,r1⟩,⟨h2.more aG hB,r2⟩,⟨h3.more aK hB,r3⟩,⟨h4.more aG hB,r4⟩⟩⟩
theorem aQ:BM dZ 8:=
  ⟨fun h => by obtain ⟨A1, n1, c1, A2, n2, c2, A3, n3, c3, A4, n4, c4, b1, b2, b3, b4, e, _⟩ := h; rw [e]; rfl,
   fun hb h=>by obtain ⟨A1,n1,c1,A2,n2,c2,A3,n3,c3,A4,n4,c4,b1,b2,b3,b4,e,⟨h1,r1⟩,⟨h2,r2⟩,⟨h3,r3⟩,⟨h4,r4⟩,eb⟩:=h; exact  ⟨A1,n1,c1,A2,n2,c2,A3,n3,c3,A4,n4,c4,b1,b2,b3,b4,e,⟨h1.keep gW (fun k hk=>hb k (by rw [eb]; simp [hk])),r1⟩,⟨h2.keep gW (fun k hk=>hb k (by rw [eb]; simp [hk])),r2⟩,⟨h3.keep aC (fun k hk=>hb k (by rw [eb]; simp [hk])),r3⟩,⟨h4.keep gW (fun k hk=>hb k (by rw [eb]; simp [hk])),r4⟩,eb⟩⟩
theorem sW (B:Nat):Gives dZ nS B:=fun _ _ _ _ h hb=>by
 obtain ⟨A1,n1,c1,A2,n2,c2,A3,n3,c3,A4,n4,c4,b1,b2,b3,b4,e,⟨h1,r1⟩,⟨h2,r2⟩,⟨h3,r3⟩,⟨h4,r4⟩,eb⟩:=h
 exact  ⟨A1,n1,c1,A2,n2,c2,A3,n3,c3,A4,n4,c4,e,⟨h1.reads (yM B) (fun k hk=>hb k (by rw [eb]; simp [hk])),r1⟩,⟨h2.reads (yM B) (fun k hk=>hb k (by rw [eb]; simp [hk])),r2⟩,⟨h3.reads (MN B) (fun k hk=>hb k (by rw [eb]; simp [hk])),r3⟩,⟨h4.reads (yM B) (fun k hk=>hb k (by rw [eb]; simp [hk])),r4⟩⟩
theorem WO:axx dZ:=fun h u hu=>by
 obtain ⟨A1,n1,c1,A2,n2,c2,A3,n3,c3,A4,n4,c4,b1,b2,b3,b4,e,_⟩:=h
 rw [e] at hu
 simp at hu
 rcases hu with rfl|rfl|rfl|rfl|rfl|rfl|rfl|rfl <;> rfl
structure aN where
 control:ay
 stack:List aO
 heap:List bD
instance:Inhabited aN:=⟨⟨default,[],[]⟩⟩
def jQ:Rd aN:=fun w B cs x=>∃(A1:Option Addr) (n1 c1:Nat) (A2:Option Addr) (n2 c2:Nat) (A3:Option Addr) (n3 c3:Nat) (A4:Option Addr) (n4 c4:Nat) (A5:Option Addr) (n5 c5:Nat),cs=[.int .i64 x.control.term.kind,.int .i64 x.control.term.value,.slice A1 n1 c1,.slice A2 n2 c2,.slice A3 n3 c3,.slice A4 n4 c4,.slice A5 n5 c5]∧(aY nR 1 w B A1 n1 x.control.term.data∧n1≤c1∧c1≤maxLen)∧(aY bf 4 w B A2 n2 x.control.term.kids∧n2≤c2∧c2≤maxLen)∧(aY nR 1 w B A3 n3 x.control.env∧n3≤c3∧c3≤maxLen)∧(aY nS 8 w B A4 n4 x.stack∧n4≤c4∧c4≤maxLen)∧(aY yQ 6 w B A5 n5 x.heap∧n5≤c5∧c5≤maxLen)
def Ji:Ow aN:=fun w cs x bs=>∃(A1:Option Addr) (n1 c1:Nat) (A2:Option Addr) (n2 c2:Nat) (A3:Option Addr) (n3 c3:Nat) (A4:Option Addr) (n4 c4:Nat) (A5:Option Addr) (n5 c5:Nat) (b1 b2 b3 b4 b5:List Nat),cs=[.int .i64 x.control.term.kind,.int .i64 x.control.term.value,.slice A1 n1 c1,.slice A2 n2 c2,.slice A3 n3 c3,.slice A4 n4 c4,.slice A5 n5 c5]∧(iV mF 1 w A1 n1 x.control.term.data b1∧n1≤c1∧c1≤maxLen)∧(iV dI 4 w A2 n2 x.control.term.kids b2∧n2≤c2∧c2≤maxLen)∧(iV mF 1 w A3 n3 x.control.env b3∧n3≤c3∧c3≤maxLen)∧(iV dZ 8 w A4 n4 x.stack b4∧n4≤c4∧c4≤maxLen)∧(iV fD 6 w A5 n5 x.heap b5∧n5≤c5∧c5≤maxLen)∧bs=b1 ++ b2 ++ b3 ++ b4 ++ b5
theorem fP:Sz jQ 7:=
  ⟨fun h => by obtain ⟨A1, n1, c1, A2, n2, c2, A3, n3, c3, A4, n4, c4, A5, n5, c5, e, _⟩ := h; rw [e]; rfl,
   fun hk h=>by obtain ⟨A1,n1,c1,A2,n2,c2,A3,n3,c3,A4,n4,c4,A5,n5,c5,e,⟨h1,r1⟩,⟨h2,r2⟩,⟨h3,r3⟩,⟨h4,r4⟩,⟨h5,r5⟩⟩:=h; exact  ⟨A1,n1,c1,A2,n2,c2,A3,n3,c3,A4,n4,c4,A5,n5,c5,e,⟨h1.keep aG hk,r1⟩,⟨h2.keep aK hk,r2⟩,⟨h3.keep aG hk,r3⟩,⟨h4.keep kF hk,r4⟩,⟨h5.keep nN hk,r5⟩⟩,
   fun hB h=>by obtain ⟨A1,n1,c1,A2,n2,c2,A3,n3,c3,A4,n4,c4,A5,n5,c5,e,⟨h1,r1⟩,⟨h2,r2⟩,⟨h3,r3⟩,⟨h4,r4⟩,⟨h5,r5⟩⟩:=h; exact  ⟨A1,n1,c1,A2,n2,c2,A3,n3,c3,A4,n4,c4,A5,n5,c5,e,⟨h1.more aG hB,r1⟩,⟨h2.more aK hB,r2⟩,⟨h3.more aG hB,r3⟩,⟨h4.more kF hB,r4⟩,⟨h5.more nN hB,r5⟩⟩⟩
theorem aZ:BM Ji 7:=
  ⟨fun h => by obtain ⟨A1, n1, c1, A2, n2, c2, A3, n3, c3, A4, n4, c4, A5, n5, c5, b1, b2, b3, b4, b5, e, _⟩ := h; rw [e]; rfl,
   fun hb h=>by obtain ⟨A1,n1,c1,A2,n2,c2,A3,n3,c3,A4,n4,c4,A5,n5,c5,b1,b2,b3,b4,b5,e,⟨h1,r1⟩,⟨h2,r2⟩,⟨h3,r3⟩,⟨h4,r4⟩,⟨h5,r5⟩,eb⟩:=h; exact  ⟨A1,n1,c1,A2,n2,c2,A3,n3,c3,A4,n4,c4,A5,n5,c5,b1,b2,b3,b4,b5,e,⟨h1.keep gW (fun k hk=>hb k (by rw [eb]; simp [hk])),r1⟩,⟨h2.keep aC (fun k hk=>hb k (by rw [eb]; simp [hk])),r2⟩,⟨h3.keep gW (fun k hk=>hb k (by rw [eb]; simp [hk])),r3⟩,⟨h4.keep aQ (fun k hk=>hb k (by rw [eb]; simp [hk])),r4⟩,⟨h5.keep aS (fun k hk=>hb k (by rw [eb]; simp [hk])),r5⟩,eb⟩⟩
theorem iy (B:Nat):Gives Ji jQ B:=fun _ _ _ _ h hb=>by
 obtain ⟨A1,n1,c1,A2,n2,c2,A3,n3,c3,A4,n4,c4,A5,n5,c5,b1,b2,b3,b4,b5,e,⟨h1,r1⟩,⟨h2,r2⟩,⟨h3,r3⟩,⟨h4,r4⟩,⟨h5,r5⟩,eb⟩:=h
 exact  ⟨A1,n1,c1,A2,n2,c2,A3,n3,c3,A4,n4,c4,A5,n5,c5,e,⟨h1.reads (yM B) (fun k hk=>hb k (by rw [eb]; simp [hk])),r1⟩,⟨h2.reads (MN B) (fun k hk=>hb k (by rw [eb]; simp [hk])),r2⟩,⟨h3.reads (yM B) (fun k hk=>hb k (by rw [eb]; simp [hk])),r3⟩,⟨h4.reads (sW B) (fun k hk=>hb k (by rw [eb]; simp [hk])),r4⟩,⟨h5.reads (ZC B) (fun k hk=>hb k (by rw [eb]; simp [hk])),r5⟩⟩
/-- How many addresses the closures of the heap hold. -/
def asQ (m:aN):Nat:=(m.heap.map fun t=>t.closure.env.length).sum
end
section
open Go.RowKit
def mkF (k:Nat) (x:aO):aO:=⟨(k:Int),((k+1:Nat):Int),marks (k+2) x.data.length,⟨⟨((k+2+x.data.length:Nat):Int),((k+2+x.data.length+1:Nat):Int),marks (k+4+x.data.length) x.closure.term.data.length,oM (k+4+x.data.length+x.closure.term.data.length) x.closure.term.kids⟩,marks (k+4+x.data.length+x.closure.term.data.length+bJ fJ x.closure.term.kids) x.closure.env.length⟩⟩
def cntF (x:aO):Nat:=4+x.data.length+x.closure.term.data.length+bJ fJ x.closure.term.kids+x.closure.env.length
def G7 (k:Nat) (xs:List aO):List aO:=mkL mkF cntF k xs
theorem apS :∀xs:List aO,4 * xs.length≤bJ cntF xs
 |[]=>by simp [bJ]
 |x :: xs=>by
  have:=apS xs
  have h:4≤cntF x:=by unfold cntF; omega
  rw [Gn,List.length_cons]; omega
theorem aAf {xs:List aO} {k:Nat} {x:aO} (h:xs[k]? = some x):cntF x≤bJ cntF xs:=by
 have h1:=DZ (cnt:=cntF) h
 have h2:=EY (cnt:=cntF) xs (k+1)
 omega
theorem nd4 {b:Nat} {b1 x1 x2 x3 x4 b3:List Nat} (h:(b :: (b1 ++ ((x1 ++ x2 ++ x3 ++ x4) ++ b3))).Nodup) :
  (x1.Nodup∧x2.Nodup∧x3.Nodup∧x4.Nodup)∧(∀j,j∈x1→j ∉ x2∧j ∉ x3∧j ∉ x4)∧(∀j,j∈x2→j ∉ x3∧j ∉ x4)∧(∀j,j∈x3→j ∉ x4)∧(b ∉ x1∧b ∉ x2∧b ∉ x3∧b ∉ x4)∧(∀j,j∈b1→j ≠ b∧j ∉ x1 ++ x2 ++ x3 ++ x4)∧∀j,j∈b3→j ≠ b∧j ∉ x1 ++ x2 ++ x3 ++ x4:=by
 have hb:=(List.nodup_cons.1 h).1
 obtain ⟨_,h3,h4⟩:=List.nodup_append.1 (List.nodup_cons.1 h).2
 obtain ⟨h5,_,h6⟩:=List.nodup_append.1 h3
 obtain ⟨h7,h8,h9⟩:=List.nodup_append.1 h5
 obtain ⟨h10,h11,h12⟩:=List.nodup_append.1 h7
 obtain ⟨h13,h14,h15⟩:=List.nodup_append.1 h10
 refine ⟨⟨h13,h14,h11,h8⟩,fun j hj=>⟨fun h=>h15 j hj j h rfl,fun h=>h12 j (by simp [hj]) j h rfl,fun h=>h9 j (by simp [hj]) j h rfl⟩,fun j hj=>⟨fun h=>h12 j (by simp [hj]) j h rfl,fun h=>h9 j (by simp [hj]) j h rfl⟩,fun j hj h=>h9 j (by simp [hj]) j h rfl,⟨fun h=>hb (by simp [h]),fun h=>hb (by simp [h]),fun h=>hb (by simp [h]),fun h=>hb (by simp [h])⟩,fun j hj=>⟨fun e=>hb (by rw [← e]; simp [hj]),fun h=>h4 j hj j (List.mem_append_left _ h) rfl⟩,fun j hj=>⟨fun e=>hb (by rw [← e]; simp [hj]),fun h=>h6 j h j hj rfl⟩⟩
theorem aAg {w:World} {b p q:Nat} {u0 u1:Value} (h:q ≠ p) (h':q ≠ p+1):((w.setCell ⟨b,p,none⟩ u0).setCell ⟨b,p+1,none⟩ u1).cell? ⟨b,q,none⟩=w.cell? ⟨b,q,none⟩:=by
 rw [World.cell?_setCell_other _ _ _ _ (fun e=>by injection e with _ e2; omega),World.cell?_setCell_other _ _ _ _ (fun e=>by injection e with _ e2; omega)]
theorem av8 {w:World} {b p:Nat} {u0 u1 v0 v1:Value} (h0:w.cell? ⟨b,p,none⟩=some v0) (h1:w.cell? ⟨b,p+1,none⟩=some v1) (d0:w.frozen? ⟨b,p,none⟩=false) (d1:w.frozen? ⟨b,p+1,none⟩=false):PG ((w.setCell ⟨b,p,none⟩ u0).setCell ⟨b,p+1,none⟩ u1) b p [u0,u1]:=
 Gm (w:=w) (vs:=[u0,u1]) (fun j hj=>by
  rcases j with _|_|j
  ·exact ⟨_,h0⟩
  ·exact ⟨_,h1⟩
  ·simp only [List.length_cons,List.length_nil] at hj; omega) (fun j hj=>by
  rcases j with _|_|j
  ·exact d0
  ·exact d1
  ·simp only [List.length_cons,List.length_nil] at hj; omega)
set_option maxHeartbeats 8000000 in
theorem anr (A:Option Addr) (n c k0:Nat) (xs:List aO) (bs:List Nat) (w:World) (hx:iV dZ 8 w A n xs bs) (hnd:bs.Nodup) (hs:bJ cntF xs≤4194304) (hk0:k0+bJ cntF xs≤4294967296) :
  Calls Tryz.prog 36 #[.slice A n c,.int .i64 k0] w fun e w'=>e=.returned (.int .i64 ((k0+bJ cntF xs:Nat):Int))∧iV dZ 8 w' A n (G7 k0 xs) bs∧Only bs w w':=by
 have lx:=Lib.hid hx.len
 have hcl:=apS xs
 have hn:n≤4194304:=by have:=lx.out; omega
 have hmid:=Lib.hid hx.mid
 clear hx
 go_enter Tryz.func36,Tryz.ntmps36
 go_wp2_with fail
 go_loopw [1,5] (fun kk i wr=>∃k:Nat,k≤n∧i=.int .i64 k∧kk=.int .i64 ((k0:Int)+(bJ cntF (xs.take k):Nat))∧Only bs w wr∧Hid (KP dZ 8 wr A (G7 k0 (xs.take k)) (xs.drop k) bs)) (fun _ i _=>n - (intOf i).toNat)
 case atStart=>exact ⟨0,by omega,rfl,by simp [bJ],Only.refl _ _,hmid.out⟩
 case round=>
  obtain ⟨k,hk,rfl,rfl,ho,hm⟩:=hrel
  by_cases hlt:k < n
  ·obtain ⟨x,hxk⟩ :∃x,xs[k]? = some x:=⟨_,List.getElem?_eq_getElem (by have:=lx.out; omega)⟩
   have hm:=hm.out
   rw [SC hxk] at hm
   obtain ⟨b,o,cs,b1,bx,b3,rfl,hbs,hO,hc,h1,h2⟩:=hm.next
   have hlen:(G7 k0 (xs.take k)).length=k:=by unfold G7; rw [JQ,List.length_take]; have:=lx.out; omega
   rw [hlen] at hc h2
   obtain ⟨A1,n1,c1,A2,n2,c2,A3,n3,c3,A4,n4,c4,x1,x2,x3,x4,rfl,⟨g1,r1⟩,⟨g2,r2⟩,⟨g3,r3⟩,⟨g4,r4⟩,rfl⟩:=hO
   obtain ⟨hc0,hd0⟩:=hc 0 _ rfl
   obtain ⟨hc1,hd1⟩:=hc 1 _ rfl
   obtain ⟨hc2,hd2⟩:=hc 2 _ rfl
   obtain ⟨hc3,hd3⟩:=hc 3 _ rfl
   obtain ⟨hc4,hd4⟩:=hc 4 _ rfl
   obtain ⟨hc5,hd5⟩:=hc 5 _ rfl
   obtain ⟨hc6,hd6⟩:=hc 6 _ rfl
   obtain ⟨hc7,hd7⟩:=hc 7 _ rfl
   rw [Nat.add_zero] at hc0 hd0
   have hsm:=aAf hxk
   have hct:=DZ (cnt:=cntF) hxk
   have hcx:cntF x=4+x.data.length+x.closure.term.data.length+bJ fJ x.closure.term.kids+x.closure.env.length:=rfl
   have hcm:=EY (cnt:=cntF) xs (k+1)
   have hck:=EY (cnt:=cntF) xs k
   have hnd':=hnd
   rw [hbs] at hnd'
   have ND:=Lib.hid (nd4 hnd')
   have l1:=Lib.hid g1.len
   have l2:=Lib.hid g2.len
   have l3:=Lib.hid g3.len
   have l4:=Lib.hid g4.len
   have hkc:=YI x.closure.term.kids
   have HE:=Lib.hid h2
   have HF:=Lib.hid h1
   have G1:=Lib.hid g1
   have G2:=Lib.hid g2
   have G3:=Lib.hid g3
   have G4:=Lib.hid g4
   have HX:=Lib.hid hxk
   have HI:=Lib.hid hbs
   have HL:=Lib.hid hct
   have HLN:=Lib.hid hlen
   have HD0:=Lib.hid hd0
   have HD1:=Lib.hid hd1
   have HC:=Lib.hid (show∀j v,[Value.int .i64 x.kind,.int .i64 x.value,.slice A1 n1 c1,.int .i64 x.closure.term.kind,.int .i64 x.closure.term.value,.slice A2 n2 c2,.slice A3 n3 c3,.slice A4 n4 c4][j]? = some v→wr.cell? ⟨b,o+k * 8+j,none⟩=some v∧wr.frozen? ⟨b,o+k * 8+j,none⟩=false from hc)
   clear h2 h1 g1 g2 g3 g4 hxk hbs hct hlen hnd' hm hc
   go_wp2_with fail
   have nd:=ND.out
   have TA:Touch b (o+k * 8) 8 (x1 ++ x2 ++ x3 ++ x4) wr ((wr.setCell ⟨b,o+k * 8,none⟩ (.int .i64 ((k0:Int)+(bJ cntF (xs.take k):Nat)))).setCell ⟨b,o+k * 8+1,none⟩ (.int .i64 ((k0:Int)+(bJ cntF (xs.take k):Nat)+1))):=(Touch.refl.set (by omega) (by omega) _).set (by omega) (by omega) _
   have SA:=av8 (u0:=.int .i64 ((k0:Int)+(bJ cntF (xs.take k):Nat))) (u1:=.int .i64 ((k0:Int)+(bJ cntF (xs.take k):Nat)+1)) hc0 hc1 HD0.out HD1.out
   have CA :∀q,q ≠ o+k * 8→q ≠ o+k * 8+1→((wr.setCell ⟨b,o+k * 8,none⟩ (.int .i64 ((k0:Int)+(bJ cntF (xs.take k):Nat)))).setCell ⟨b,o+k * 8+1,none⟩ (.int .i64 ((k0:Int)+(bJ cntF (xs.take k):Nat)+1))).cell? ⟨b,q,none⟩=wr.cell? ⟨b,q,none⟩:=fun q h h'=>aAg h h'
   have BA :∀j,j ≠ b→((wr.setCell ⟨b,o+k * 8,none⟩ (.int .i64 ((k0:Int)+(bJ cntF (xs.take k):Nat)))).setCell ⟨b,o+k * 8+1,none⟩ (.int .i64 ((k0:Int)+(bJ cntF (xs.take k):Nat)+1))).heap[j]? = wr.heap[j]?:=fun j h=>Ue h
   generalize ((wr.setCell ⟨b,o+k * 8,none⟩ (.int .i64 ((k0:Int)+(bJ cntF (xs.take k):Nat)))).setCell ⟨b,o+k * 8+1,none⟩ (.int .i64 ((k0:Int)+(bJ cntF (xs.take k):Nat)+1)))=wA at TA SA CA BA ⊢
   rw [show (k0:Int)+(bJ cntF (xs.take k):Nat)+1+1=((k0+bJ cntF (xs.take k)+2:Nat):Int) from by omega]
   have e1:=l1.out
   have e2:=l2.out
   have e3:=l3.out
   have e4:=l4.out
   refine (yN A1 n1 c1 (k0+bJ cntF (xs.take k)+2) x.data x1 wA (G1.out.keep gW (fun j hj=>BA j (fun e=>nd.2.2.2.2.1.1 (e ▸ hj)))) nd.1.1 (by omega) (by omega)).mono ?_
   rintro e w4 ⟨rfl,m1,o4⟩
   have C4 :∀q,w4.cell? ⟨b,q,none⟩=wA.cell? ⟨b,q,none⟩:=fun q=>World.cell?_of_block (a:=⟨b,q,none⟩) (o4.block b nd.2.2.2.2.1.1)
   have T4:Touch b (o+k * 8) 8 (x1 ++ x2 ++ x3 ++ x4) wr w4:=TA.only o4 nd.2.2.2.2.1.1 (fun j hj=>by simp [hj])
   have aPK:w4.cell? ⟨b,o+k * 8+3,none⟩=some (.int .i64 x.closure.term.kind):=(C4 _).trans ((CA _ (by omega) (by omega)).trans hc3)
   have aPL:w4.cell? ⟨b,o+k * 8+4,none⟩=some (.int .i64 x.closure.term.value):=(C4 _).trans ((CA _ (by omega) (by omega)).trans hc4)
   have aXw:w4.cell? ⟨b,o+k * 8+5,none⟩=some (.slice A2 n2 c2):=(C4 _).trans ((CA _ (by omega) (by omega)).trans hc5)
   have aXx:w4.frozen? ⟨b,o+k * 8+3,none⟩=false:=(T4.frozen _).trans hd3
   have aXy:w4.frozen? ⟨b,o+k * 8+4,none⟩=false:=(T4.frozen _).trans hd4
   have HM1:=Lib.hid m1
   have HO4:=Lib.hid o4
   have HT4:=Lib.hid T4
   have HSA:=Lib.hid SA
   have HCA:=Lib.hid CA
   have HC4:=Lib.hid C4
   have HBA:=Lib.hid BA
   clear m1 o4 T4 TA SA CA C4 BA nd
   go_wp2_with fail
   have nd:=ND.out
   have o4:=HO4.out
   have T4:=HT4.out
   have BA:=HBA.out
   have TB:Touch b (o+k * 8) 8 (x1 ++ x2 ++ x3 ++ x4) wr ((w4.setCell ⟨b,o+k * 8+3,none⟩ (.int .i64 ((k0:Int)+(bJ cntF (xs.take k):Nat)+2+(x.data.length:Nat)))).setCell ⟨b,o+k * 8+3+1,none⟩ (.int .i64 ((k0:Int)+(bJ cntF (xs.take k):Nat)+2+(x.data.length:Nat)+1))):=(T4.set (by omega) (by omega) _).set (by omega) (by omega) _
   have SB:=av8 (p:=o+k * 8+3) (u0:=(.int .i64 ((k0:Int)+(bJ cntF (xs.take k):Nat)+2+(x.data.length:Nat)))) (u1:=(.int .i64 ((k0:Int)+(bJ cntF (xs.take k):Nat)+2+(x.data.length:Nat)+1))) aPK aPL aXx aXy
   have CB :∀q,q ≠ o+k * 8+3→q ≠ o+k * 8+3+1→((w4.setCell ⟨b,o+k * 8+3,none⟩ (.int .i64 ((k0:Int)+(bJ cntF (xs.take k):Nat)+2+(x.data.length:Nat)))).setCell ⟨b,o+k * 8+3+1,none⟩ (.int .i64 ((k0:Int)+(bJ cntF (xs.take k):Nat)+2+(x.data.length:Nat)+1))).cell? ⟨b,q,none⟩=w4.cell? ⟨b,q,none⟩:=fun q h h'=>aAg h h'
   have BB :∀j,j ≠ b→((w4.setCell ⟨b,o+k * 8+3,none⟩ (.int .i64 ((k0:Int)+(bJ cntF (xs.take k):Nat)+2+(x.data.length:Nat)))).setCell ⟨b,o+k * 8+3+1,none⟩ (.int .i64 ((k0:Int)+(bJ cntF (xs.take k):Nat)+2+(x.data.length:Nat)+1))).heap[j]? = w4.heap[j]?:=fun j h=>Ue h
   generalize ((w4.setCell ⟨b,o+k * 8+3,none⟩ (.int .i64 ((k0:Int)+(bJ cntF (xs.take k):Nat)+2+(x.data.length:Nat)))).setCell ⟨b,o+k * 8+3+1,none⟩ (.int .i64 ((k0:Int)+(bJ cntF (xs.take k):Nat)+2+(x.data.length:Nat)+1)))=wB at TB SB CB BB ⊢
   rw [show (k0:Int)+(bJ cntF (xs.take k):Nat)+2+(x.data.length:Nat)+1+1=((k0+bJ cntF (xs.take k)+4+x.data.length:Nat):Int) from by omega]
   have e2:=l2.out
   have e3:=l3.out
   have e4:=l4.out
   have X2 :∀j,j∈x2→wB.heap[j]? = wr.heap[j]?:=fun j hj=>(BB j (fun e=>nd.2.2.2.2.1.2.1 (e ▸ hj))).trans ((o4.block j (fun h=>(nd.2.1 j h).1 hj)).trans (BA j (fun e=>nd.2.2.2.2.1.2.1 (e ▸ hj))))
   have X3 :∀j,j∈x3→wB.heap[j]? = wr.heap[j]?:=fun j hj=>(BB j (fun e=>nd.2.2.2.2.1.2.2.1 (e ▸ hj))).trans ((o4.block j (fun h=>(nd.2.1 j h).2.1 hj)).trans (BA j (fun e=>nd.2.2.2.2.1.2.2.1 (e ▸ hj))))
   have X4 :∀j,j∈x4→wB.heap[j]? = wr.heap[j]?:=fun j hj=>(BB j (fun e=>nd.2.2.2.2.1.2.2.2 (e ▸ hj))).trans ((o4.block j (fun h=>(nd.2.1 j h).2.2 hj)).trans (BA j (fun e=>nd.2.2.2.2.1.2.2.2 (e ▸ hj))))
   refine (yN A2 _ c2 (k0+bJ cntF (xs.take k)+4+x.data.length) x.closure.term.data x2 wB (by have:=G2.out.keep gW X2; rw [e2] at this; exact this) nd.1.2.1 (by omega) (by omega)).mono ?_
   rintro e w5 ⟨rfl,m2,o5⟩
   have C5 :∀q,w5.cell? ⟨b,q,none⟩=wB.cell? ⟨b,q,none⟩:=fun q=>World.cell?_of_block (a:=⟨b,q,none⟩) (o5.block b nd.2.2.2.2.1.2.1)
   have T5:Touch b (o+k * 8) 8 (x1 ++ x2 ++ x3 ++ x4) wr w5:=TB.only o5 nd.2.2.2.2.1.2.1 (fun j hj=>by simp [hj])
   have CA:=HCA.out
   have C4:=HC4.out
   have bah:w5.cell? ⟨b,o+k * 8+6,none⟩=some (.slice A3 n3 c3):=(C5 _).trans ((CB _ (by omega) (by omega)).trans ((C4 _).trans ((CA _ (by omega) (by omega)).trans hc6)))
   have HM2:=Lib.hid m2
   have HO5:=Lib.hid o5
   have HT5:=Lib.hid T5
   have HSB:=Lib.hid SB
   have HCB:=Lib.hid CB
   have HC5:=Lib.hid C5
   have HBB:=Lib.hid BB
   have HX3:=Lib.hid X3
   have HX4:=Lib.hid X4
   clear m2 o5 T5 TB SB CB C5 BB X2 X3 X4 nd o4 T4 BA CA C4
   go_wp2_with fail
   have nd:=ND.out
   have o5:=HO5.out
   have e3:=l3.out
   have e5:=HL.out
   have e4:=l4.out
   rw [show (k0:Int)+(bJ cntF (xs.take k):Nat)+4+(x.data.length:Nat)+(x.closure.term.data.length:Nat)=((k0+bJ cntF (xs.take k)+4+x.data.length+x.closure.term.data.length:Nat):Int) from by omega]
   refine (P8 _ A3 _ c3 (k0+bJ cntF (xs.take k)+4+x.data.length+x.closure.term.data.length) x.closure.term.kids x3 w5 (Nat.le_refl _) (by have:=G3.out.keep aC (w':=w5) (fun j hj=>(o5.block j (fun h=>(nd.2.2.1 j h).1 hj)).trans (HX3.out j hj)); rw [e3] at this; exact this) nd.1.2.2.1 (by omega) (by omega)).mono ?_
   rintro e w6 ⟨rfl,m3,o6⟩
   have C6 :∀q,w6.cell? ⟨b,q,none⟩=w5.cell? ⟨b,q,none⟩:=fun q=>World.cell?_of_block (a:=⟨b,q,none⟩) (o6.block b nd.2.2.2.2.1.2.2.1)
   have T6:Touch b (o+k * 8) 8 (x1 ++ x2 ++ x3 ++ x4) wr w6:=HT5.out.only o6 nd.2.2.2.2.1.2.2.1 (fun j hj=>by simp [hj])
   have bai:w6.cell? ⟨b,o+k * 8+7,none⟩=some (.slice A4 n4 c4):=(C6 _).trans ((HC5.out _).trans ((HCB.out _ (by omega) (by omega)).trans ((HC4.out _).trans ((HCA.out _ (by omega) (by omega)).trans hc7))))
   have HM3:=Lib.hid m3
   have HO6:=Lib.hid o6
   have HT6:=Lib.hid T6
   have HC6:=Lib.hid C6
   clear m3 o6 T6 C6 nd o5
   go_wp2_with fail
   have nd:=ND.out
   have o5:=HO5.out
   have o6:=HO6.out
   have e4:=l4.out
   have e5:=HL.out
   rw [show (k0:Int)+(bJ cntF (xs.take k):Nat)+4+(x.data.length:Nat)+(x.closure.term.data.length:Nat)+(bJ fJ x.closure.term.kids:Nat)=((k0+bJ cntF (xs.take k)+4+x.data.length+x.closure.term.data.length+bJ fJ x.closure.term.kids:Nat):Int) from by omega]
   refine (yN A4 _ c4 (k0+bJ cntF (xs.take k)+4+x.data.length+x.closure.term.data.length+bJ fJ x.closure.term.kids) x.closure.env x4 w6 (by have:=G4.out.keep gW (w':=w6) (fun j hj=>(o6.block j (fun h=>nd.2.2.2.1 j h hj)).trans ((o5.block j (fun h=>(nd.2.2.1 j h).2 hj)).trans (HX4.out j hj))); rw [e4] at this; exact this) nd.1.2.2.2 (by omega) (by omega)).mono ?_
   rintro e w7 ⟨rfl,m4,o7⟩
   have HM4:=Lib.hid m4
   have HO7:=Lib.hid o7
   clear m4 o7 nd o5 o6
   go_wp2_with fail
   go_roundw
   case rel=>
    have nd:=ND.out
    have o4:=HO4.out
    have o5:=HO5.out
    have o6:=HO6.out
    have o7:=HO7.out
    have T7:Touch b (o+k * 8) 8 (x1 ++ x2 ++ x3 ++ x4) wr w7:=HT6.out.only o7 nd.2.2.2.2.1.2.2.2 (fun j hj=>by simp [hj])
    have CW :∀q,w7.cell? ⟨b,q,none⟩=wB.cell? ⟨b,q,none⟩:=fun q=>(World.cell?_of_block (a:=⟨b,q,none⟩) (o7.block b nd.2.2.2.2.1.2.2.2)).trans ((HC6.out q).trans (HC5.out q))
    have CV :∀q,q ≠ o+k * 8+3→q ≠ o+k * 8+3+1→w7.cell? ⟨b,q,none⟩=wA.cell? ⟨b,q,none⟩:=fun q h h'=>(CW q).trans ((HCB.out q h h').trans (HC4.out q))
    have CR :∀q,q ≠ o+k * 8+3→q ≠ o+k * 8+3+1→q ≠ o+k * 8→q ≠ o+k * 8+1→w7.cell? ⟨b,q,none⟩=wr.cell? ⟨b,q,none⟩:=fun q h h' h2 h3=>(CV q h h').trans (HCA.out q h2 h3)
    refine ⟨k+1,by omega,by go_num,congrArg (Value.int .i64) (by omega),ho.trans (T7.bK.mono (fun j hj=>?_)),?_⟩
    ·rw [HI.out]; simp only [List.mem_cons,List.mem_append] at hj ⊢
     rcases hj with hj|hj
     ·exact .inl hj
     ·exact .inr (.inr (.inl hj))
    ·show Hid _
     refine ?_
     unfold G7
     rw [agT HX.out,HI.out]
     have hl:=HLN.out
     unfold G7 at hl
     refine KP.step (o:=o) (cs:=[.int .i64 ((k0:Int)+(bJ cntF (xs.take k):Nat)),.int .i64 ((k0:Int)+(bJ cntF (xs.take k):Nat)+1),.slice A1 n1 c1,.int .i64 ((k0:Int)+(bJ cntF (xs.take k):Nat)+2+(x.data.length:Nat)),.int .i64 ((k0:Int)+(bJ cntF (xs.take k):Nat)+2+(x.data.length:Nat)+1),.slice A2 n2 c2,.slice A3 n3 c3,.slice A4 n4 c4]) rfl ?_ ?_ ?_ ?_
     ·refine vO.ZA aQ (w:=wr) (fun q h1 h2=>?_) (fun j hj=>T7.block j (nd.2.2.2.2.2.1 j hj).1 (nd.2.2.2.2.2.1 j hj).2) HF.out
      unfold G7 at h2
      rw [hl] at h2
      exact ⟨T7.cell q (.inl (by omega)),T7.frozen q⟩
     ·refine ⟨A1,n1,c1,A2,n2,c2,A3,n3,c3,A4,n4,c4,x1,x2,x3,x4,?_,⟨?_,r1⟩,⟨?_,r2⟩,⟨?_,r3⟩,⟨?_,r4⟩,rfl⟩
      ·show _=[Value.int .i64 ((k0+bJ cntF (xs.take k):Nat):Int),.int .i64 ((k0+bJ cntF (xs.take k)+1:Nat):Int),.slice A1 n1 c1,.int .i64 ((k0+bJ cntF (xs.take k)+2+x.data.length:Nat):Int),.int .i64 ((k0+bJ cntF (xs.take k)+2+x.data.length+1:Nat):Int),.slice A2 n2 c2,.slice A3 n3 c3,.slice A4 n4 c4]
       rw [show ((k0+bJ cntF (xs.take k):Nat):Int)=(k0:Int)+(bJ cntF (xs.take k):Nat) from by omega,show ((k0+bJ cntF (xs.take k)+1:Nat):Int)=(k0:Int)+(bJ cntF (xs.take k):Nat)+1 from by omega,show ((k0+bJ cntF (xs.take k)+2+x.data.length:Nat):Int)=(k0:Int)+(bJ cntF (xs.take k):Nat)+2+(x.data.length:Nat) from by omega,show ((k0+bJ cntF (xs.take k)+2+x.data.length+1:Nat):Int)=(k0:Int)+(bJ cntF (xs.take k):Nat)+2+(x.data.length:Nat)+1 from by omega]
      ·have h:=HM1.out.keep gW (w':=w7) (fun j hj=>(o7.block j (nd.2.1 j hj).2.2).trans ((o6.block j (nd.2.1 j hj).2.1).trans ((o5.block j (nd.2.1 j hj).1).trans (HBB.out j (fun e=>nd.2.2.2.2.1.1 (e ▸ hj))))))
       show iV mF 1 w7 A1 n1 (marks (k0+bJ cntF (xs.take k)+2) x.data.length) x1
       rw [← e1]; exact h
      ·have h:=HM2.out.keep gW (w':=w7) (fun j hj=>(o7.block j (nd.2.2.1 j hj).2).trans (o6.block j (nd.2.2.1 j hj).1))
       show iV mF 1 w7 A2 n2 (marks (k0+bJ cntF (xs.take k)+4+x.data.length) x.closure.term.data.length) x2
       rw [e2]; exact h
      ·have h:=HM3.out.keep aC (w':=w7) (fun j hj=>o7.block j (nd.2.2.2.1 j hj))
       show iV dI 4 w7 A3 n3 (oM (k0+bJ cntF (xs.take k)+4+x.data.length+x.closure.term.data.length) x.closure.term.kids) x3
       rw [e3]; exact h
      ·show iV mF 1 w7 A4 n4 (marks (k0+bJ cntF (xs.take k)+4+x.data.length+x.closure.term.data.length+bJ fJ x.closure.term.kids) x.closure.env.length) x4
       rw [e4]; exact HM4.out
     ·rw [hl]
      intro j v hj
      rcases j with _|_|_|_|_|_|_|_|j
      ·simp at hj; subst hj; exact ⟨(CV _ (by omega) (by omega)).trans (HSA.out 0 _ rfl).1,(T7.frozen _).trans hd0⟩
      ·simp at hj; subst hj; exact ⟨(CV _ (by omega) (by omega)).trans (HSA.out 1 _ rfl).1,(T7.frozen _).trans hd1⟩
      ·simp at hj; subst hj; exact ⟨(CR _ (by omega) (by omega) (by omega) (by omega)).trans hc2,(T7.frozen _).trans hd2⟩
      ·simp at hj; subst hj; exact ⟨(CW _).trans (HSB.out 0 _ rfl).1,(T7.frozen _).trans hd3⟩
      ·simp at hj; subst hj; exact ⟨(CW _).trans (HSB.out 1 _ rfl).1,(T7.frozen _).trans hd4⟩
      ·simp at hj; subst hj; exact ⟨(CR _ (by omega) (by omega) (by omega) (by omega)).trans hc5,(T7.frozen _).trans hd5⟩
      ·simp at hj; subst hj; exact ⟨(CR _ (by omega) (by omega) (by omega) (by omega)).trans hc6,(T7.frozen _).trans hd6⟩
      ·simp at hj; subst hj; exact ⟨(CR _ (by omega) (by omega) (by omega) (by omega)).trans hc7,(T7.frozen _).trans hd7⟩
      ·simp at hj
     ·rw [hl]
      exact vO.ZA aQ (w:=wr) (fun q h1 h2=>⟨T7.cell q (.inr (by omega)),T7.frozen q⟩) (fun j hj=>T7.block j (nd.2.2.2.2.2.2 j hj).1 (nd.2.2.2.2.2.2 j hj).2) HE.out
   case measure=>simp [intOf]; omega
  ·obtain rfl:n=k:=by omega
   have hlast:xs.take n=xs:=List.take_of_length_le (by have:=lx.out; omega)
   have hdl:xs.drop n=[]:=List.drop_eq_nil_of_le (by have:=lx.out; omega)
   have hm:=hm.out
   rw [hlast,hdl] at hm
   rw [hlast]
   have HM:=Lib.hid (hm.whole (by unfold G7; rw [JQ]; first|done|exact lx.out))
   clear hlast hdl hm
   go_wp2_with fail
   go_ret
   exact ⟨aKh (by omega),by rw [lx.out]; first|exact HM.out|(have h:=HM.out; rw [lx.out] at h; exact h),ho⟩
end
end Go.Proofs.YtkfmlehhbanopaaGreat
