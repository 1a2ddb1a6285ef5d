/- Lemmas of the proof of CheckTypedBook, part 1. No condition. -/
import Derived.BigQuiet
import Derived.Deep.Draws
import Derived.Deep.Fields
import Derived.Deep.LoopGhost
import Derived.Deep.Quiet
import Derived.Deep.QuietTactic
import Derived.Deep.RegionHeld3
import Derived.Deep.RegionLaw
import Derived.Deep.RegionWith
import Derived.Deep.Slices
import Derived.Laws.AppendOwnNone
import Derived.Laws.Cells
import Derived.Laws.Cover3
import Derived.Laws.Entries
import Derived.Laws.MakeOwn
import Derived.Laws.Rows
import Derived.Laws.Slices
import Derived.Laws.StructEq
import Derived.Lib.Hide
import Derived.LoopIn
import Derived.LoopNIn
import Derived.Maps.OwnSet
import Derived.Maps.Views
import Derived.OpenShut
import Derived.OrdersHeld
import Derived.OwnWalk
import Derived.OwnWalkIn
import Derived.ProofKit
import Derived.RangeFuncBound
import Derived.RangeFuncBox
import Derived.RangeFuncCalls
import Derived.RangeFuncLeaves
import Derived.RangeFuncNested
import Derived.Shelf.Abstract
import Derived.Shelf.RegionOpen
import Derived.StillTail
import Derived.TacticsInMore
import Derived.Test.YtpbobilkejblgaaGreatRows
import Derived.WalkKit
namespace Go.Proofs.YtpbobilkejblgaaGreat
set_option linter.unusedVariables false
set_option linter.unusedSimpArgs false
theorem sj {α : Type} {a b : α} (h : some a = some b) : a = b := Option.some.inj h
section
open Go.RowKit
def inR (n lo hi:Int):Bool:=decide (lo≤n) && decide (n≤hi)
def isKind (k:Int):Bool:=decide (1≤k) && decide (k≤12)
def isLevel (k:Int):Bool:=decide (0≤k) && decide (k≤8)
def hasLevel (k:Int):Bool:=decide (2≤k) && decide (k≤12) && decide (k ≠ 5) && decide (k ≠ 6)
def allowed (k l:Int):Bool:=isKind k && (decide (l=0)||(hasLevel k && isLevel l))
theorem retB {b c:Bool} (h:b=c):Ending.returned (.bool b)=.returned (.bool c):=by rw [h]
theorem retI {k:IntKind} {a b:Int} (h:a=b):Ending.returned (.int k a)=.returned (.int k b):=by rw [h]
def portsOf (k f:Int):Int:=
  if k=9 then (if 0≤f∧f≤3 then f+1 else 0)
  else if f ≠ 0 then 0
  else if k=1 ∨ k=5 ∨ k=6 ∨ k=12 then 1
  else if k=8 ∨ k=10 ∨ k=11 then 2
  else if k=2 ∨ k=3 ∨ k=4 ∨ k=7 then 3 else 0
end
section
open Go.RowKit
abbrev Rd (α:Type):=World→Nat→List Value→α→Prop
/-- What every reading meets: it is of 'sz' cells; it stays while the cells below B stay; it may look further up. -/
structure RdOk {α:Type} (R:Rd α) (sz:Nat):Prop where
  len :∀{w B cs x},R w B cs x→cs.length=sz
  keep :∀{w w':World} {B cs x},(∀p:Addr,p.block < B→w'.cell? p=w.cell? p)→R w B cs x→R w' B cs x
  more :∀{w B B' cs x},B≤B'→R w B cs x→R w B' cs x
/-- The elements of a slice at address A, n of them, each of 'sz' cells. -/
def SlAt {α:Type} (R:Rd α) (sz:Nat) (w:World) (B:Nat) (A:Option Addr) (n:Nat) (xs:List α):Prop:=
  n=xs.length∧(0 < n→∃b off,A=some ⟨b,off,none⟩∧b < B∧
    ∀i x,xs[i]? = some x→∃cs,R w B cs x∧∀j v,cs[j]? = some v→w.cell? ⟨b,off+i * sz+j,none⟩=some v)
/-- A slice as one cell. -/
def slRd {α:Type} (R:Rd α) (sz:Nat):Rd (List α):=fun w B cs xs=>∃A n c,cs=[.slice A n c]∧SlAt R sz w B A n xs∧n≤c∧c≤maxLen
def intRd:Rd Int:=fun _ _ cs n=>cs=[.int .i64 n]
def boolRd:Rd Bool:=fun _ _ cs b=>cs=[.bool b]
def strRd:Rd ByteArray:=fun _ _ cs s=>cs=[.string s]
theorem intRd_ok:RdOk intRd 1:=⟨fun h=>by cases h; rfl,fun _ h=>h,fun _ h=>h⟩
theorem strRd_ok:RdOk strRd 1:=⟨fun h=>by cases h; rfl,fun _ h=>h,fun _ h=>h⟩
section
variable {α : Type} {R : Rd α} {sz : Nat} {w w' : World} {B B' n : Nat} {A : Option Addr} {xs : List α}
theorem SlAt.len (h:SlAt R sz w B A n xs):n=xs.length:=h.1
theorem SlAt.none_:SlAt R sz w B A 0 []:=⟨rfl,fun h=>absurd h (by omega)⟩
theorem SlAt.keep (ok:RdOk R sz) (hk :∀p:Addr,p.block < B→w'.cell? p=w.cell? p) (h:SlAt R sz w B A n xs):SlAt R sz w' B A n xs:=
  ⟨h.1,fun hn=>by
    obtain ⟨b,off,e,hb,hc⟩:=h.2 hn
    exact ⟨b,off,e,hb,fun i x hx=>by
      obtain ⟨cs,hR,hv⟩:=hc i x hx
      exact ⟨cs,ok.keep hk hR,fun j v hj=>(hk _ hb).trans (hv j v hj)⟩⟩⟩
theorem SlAt.more (ok:RdOk R sz) (hB:B≤B') (h:SlAt R sz w B A n xs):SlAt R sz w B' A n xs:=
  ⟨h.1,fun hn=>by
    obtain ⟨b,off,e,hb,hc⟩:=h.2 hn
    exact ⟨b,off,e,by omega,fun i x hx=>by
      obtain ⟨cs,hR,hv⟩:=hc i x hx
      exact ⟨cs,ok.more hB hR,hv⟩⟩⟩
theorem SlAt.below (ok:RdOk R sz) (h:SlAt R sz w B A n xs) (hb:Below B w w'):SlAt R sz w' B A n xs:=h.keep ok fun _ hp=>hb.cell hp
theorem SlAt.at_ (h:SlAt R sz w B A n xs) {k:Nat} (hk:k < n) :∃b off x cs,A=some ⟨b,off,none⟩∧b < B∧xs[k]? = some x∧R w B cs x∧∀j v,cs[j]? = some v→w.cell? ⟨b,off+k * sz+j,none⟩=some v:=by
  obtain ⟨b,off,e,hb,hc⟩:=h.2 (by omega)
  have hl:k < xs.length:=by have:=h.1; omega
  obtain ⟨cs,hR,hv⟩:=hc k xs[k] (List.getElem?_eq_getElem hl)
  exact ⟨b,off,xs[k],cs,e,hb,List.getElem?_eq_getElem hl,hR,hv⟩
theorem slRd_ok (ok:RdOk R sz):RdOk (slRd R sz) 1:=
  ⟨fun ⟨_, _, _, e, _⟩ => by rw [e]; rfl,
   fun hk ⟨A,n,c,e,h,r⟩=>⟨A,n,c,e,h.keep ok hk,r⟩,
   fun hB ⟨A,n,c,e,h,r⟩=>⟨A,n,c,e,h.more ok hB,r⟩⟩
end
theorem SlAt.int {w:World} {B n:Nat} {A:Option Addr} {xs:List Int} (h:SlAt intRd 1 w B A n xs) {k:Nat} (hk:k < n) :
    ∃b off x,A=some ⟨b,off,none⟩∧b < B∧xs[k]? = some x∧w.cell? ⟨b,off+k,none⟩=some (.int .i64 x):=by
  obtain ⟨b,off,x,cs,e,hb,hx,rfl,hc⟩:=h.at_ hk
  exact ⟨b,off,x,e,hb,hx,by simpa using hc 0 _ rfl⟩
theorem SlAt.bool {w:World} {B n:Nat} {A:Option Addr} {xs:List Bool} (h:SlAt boolRd 1 w B A n xs) {k:Nat} (hk:k < n) :
    ∃b off x,A=some ⟨b,off,none⟩∧b < B∧xs[k]? = some x∧w.cell? ⟨b,off+k,none⟩=some (.bool x):=by
  obtain ⟨b,off,x,cs,e,hb,hx,rfl,hc⟩:=h.at_ hk
  exact ⟨b,off,x,e,hb,hx,by simpa using hc 0 _ rfl⟩
/-- What is left of a bound behind a list of n; -1: too long. -/
def szL (left:Int) (n:Nat):Int:=if left - n < 0 then -1 else left - n
theorem szL_neg {left:Int} {n:Nat} (h:left - n < 0):szL left n = -1:=if_pos h
theorem szL_pos {left:Int} {n:Nat} (h:¬ left - n < 0):szL left n=left - n:=if_neg h
theorem take_succ_some {α:Type} {l:List α} {k:Nat} {x:α} (h:l[k]? = some x):l.take (k+1)=l.take k ++ [x]:=by
  rw [List.take_add_one,h]; rfl
theorem lt_of_some {α:Type} {l:List α} {k:Nat} {x:α} (h:l[k]? = some x):k < l.length:=(List.getElem?_eq_some_iff.1 h).1
def eqL {α:Type} [DecidableEq α] (a b:List α):Bool:=decide (a=b)
theorem eqL_step {α:Type} {xs ys:List α} {k:Nat} {x y:α} (hx:xs[k]? = some x) (hy:ys[k]? = some y) (h:xs.take k=ys.take k) (e:x=y):xs.take (k+1)=ys.take (k+1):=by
  rw [take_succ_some hx,take_succ_some hy,h,e]
theorem eqL_no {α:Type} [DecidableEq α] {xs ys:List α} {k:Nat} {x y:α} (hx:xs[k]? = some x) (hy:ys[k]? = some y) (e:x ≠ y):eqL xs ys=false:=by
  unfold eqL
  refine decide_eq_false fun he=>e ?_
  subst he
  rw [hx] at hy
  injection hy
theorem eqL_len {α:Type} [DecidableEq α] {xs ys:List α} (h:xs.length ≠ ys.length):eqL xs ys=false:=decide_eq_false fun he=>h (by rw [he])
theorem eqL_yes {α:Type} [DecidableEq α] {xs ys:List α} {k:Nat} (h:xs.take k=ys.take k) (h1:xs.length≤k) (h2:ys.length≤k):eqL xs ys=true:=by
  rw [List.take_of_length_le h1,List.take_of_length_le h2] at h
  exact decide_eq_true h
end
section
open Go.RowKit
abbrev Ow (α:Type):=World→List Value→α→List Nat→Prop
structure OwOk {α:Type} (O:Ow α) (sz:Nat):Prop where
  len :∀{w cs x bs},O w cs x bs→cs.length=sz
  keep :∀{w w':World} {cs x bs},(∀b∈bs,w'.heap[b]? = w.heap[b]?)→O w cs x bs→O w' cs x bs
/-- The cells cs lie at b, o and may be written. -/
def CsAt (w:World) (b o:Nat) (cs:List Value):Prop:=∀j v,cs[j]? = some v→w.cell? ⟨b,o+j,none⟩=some v∧w.frozen? ⟨b,o+j,none⟩=false
def ElAt {α:Type} (O:Ow α) (sz:Nat) (w:World) (b:Nat):Nat→List α→List Nat→Prop
  |_,[],bs=>bs=[]
  |o,x :: xs,bs=>∃cs b1 b2,O w cs x b1∧CsAt w b o cs∧bs=b1 ++ b2∧ElAt O sz w b (o+sz) xs b2
def OwAt {α:Type} (O:Ow α) (sz:Nat) (w:World) (A:Option Addr) (n:Nat) (xs:List α) (bs:List Nat):Prop:=
  n=xs.length∧((xs=[]∧bs=[]) ∨∃b o b2,A=some ⟨b,o,none⟩∧bs=b :: b2∧ElAt O sz w b o xs b2)
def slOw {α:Type} (O:Ow α) (sz:Nat):Ow (List α):=fun w cs xs bs=>∃A n c,cs=[.slice A n c]∧OwAt O sz w A n xs bs∧n≤c∧c≤maxLen
def intOw:Ow Int:=fun _ cs n bs=>cs=[.int .i64 n]∧bs=[]
def strOw:Ow ByteArray:=fun _ cs n bs=>cs=[.string n]∧bs=[]
theorem intOw_ok:OwOk intOw 1:=⟨fun h=>by rw [h.1]; rfl,fun _ h=>h⟩
def Gives {α:Type} (O:Ow α) (R:Rd α) (B:Nat):Prop:=∀w cs x bs,O w cs x bs→(∀k∈bs,k < B)→R w B cs x
/-- Only the blocks of bs may have turned. -/
structure Only (bs:List Nat) (w w':World):Prop where
  os:w'.os=w.os
  tape:w'.tape=w.tape
  output:w'.output=w.output
  size:w'.heap.size=w.heap.size
  block :∀k,k ∉ bs→w'.heap[k]? = w.heap[k]?
section
variable {w w' w'' : World} {bs bs' : List Nat}
theorem Only.refl (bs:List Nat) (w:World):Only bs w w:=⟨rfl,rfl,rfl,rfl,fun _ _=>rfl⟩
theorem Only.trans (h:Only bs w w') (h':Only bs w' w''):Only bs w w'':=
  ⟨h'.os.trans h.os,h'.tape.trans h.tape,h'.output.trans h.output,h'.size.trans h.size,fun k hk=>(h'.block k hk).trans (h.block k hk)⟩
theorem Only.mono (h:Only bs w w') (hb :∀b∈bs,b∈bs'):Only bs' w w':=⟨h.os,h.tape,h.output,h.size,fun k hk=>h.block k (fun hin=>hk (hb k hin))⟩
theorem Only.setCell (h:Only bs w w') {p:Addr} (hp:p.block∈bs) (u:Value):Only bs w (w'.setCell p u):=
  h.trans ⟨rfl,rfl,rfl,by simp [World.setCell],fun k hk=>Below.heap_setCell _ _ _ _ (fun e=>hk (by rw [e]; exact hp))⟩
theorem Only.drew (h:Only bs w w'):Only bs w w'.drew:=⟨h.os,h.tape,h.output,h.size,h.block⟩
theorem Only.drewN (h:Only bs w w') (n:Nat):Only bs w (w'.drewN n):=⟨h.os,h.tape,h.output,h.size,h.block⟩
theorem Only.below {B:Nat} (h:Only bs w w') (hb :∀b∈bs,B≤b):Below B w w':=
  ⟨h.os,h.tape,h.output,by rw [h.size]; exact Nat.le_refl _,fun k hk=>h.block k (fun hin=>by have:=hb k hin; omega)⟩
theorem CsAt.keep {b o:Nat} {cs:List Value} (h:CsAt w b o cs) (hb:w'.heap[b]? = w.heap[b]?):CsAt w' b o cs:=fun j v hj=>
  ⟨(World.cell?_of_block (w:=w) (a:=⟨b,o+j,none⟩) hb).trans (h j v hj).1,(World.frozen?_of_block (w:=w) (a:=⟨b,o+j,none⟩) hb).trans (h j v hj).2⟩
end
section
variable {α : Type} {O : Ow α} {sz : Nat} {w w' : World} {b o n : Nat} {A : Option Addr} {xs ys : List α} {bs : List Nat}
theorem ElAt.keep (ok:OwOk O sz) :∀{xs:List α} {o:Nat} {bs:List Nat},(w'.heap[b]? = w.heap[b]?)→(∀k∈bs,w'.heap[k]? = w.heap[k]?)→ElAt O sz w b o xs bs→ElAt O sz w' b o xs bs
  |[],_,_,_,_,h=>h
  |x :: xs,o,_,hb,hbs,⟨cs,b1,b2,hO,hc,e,hr⟩=>by
    subst e
    exact ⟨cs,b1,b2,ok.keep (fun k hk=>hbs k (by simp [hk])) hO,hc.keep hb,rfl,ElAt.keep ok hb (fun k hk=>hbs k (by simp [hk])) hr⟩
theorem ElAt.append :∀{xs ys:List α} {o:Nat} {b1 b2:List Nat},ElAt O sz w b o xs b1→ElAt O sz w b (o+xs.length * sz) ys b2→ElAt O sz w b o (xs ++ ys) (b1 ++ b2)
  |[],ys,o,b1,b2,h1,h2=>by
    have h1:b1=[]:=h1
    subst h1
    simpa using h2
  |x :: xs,ys,o,b1,b2,⟨cs,c1,c2,hO,hc,e,hr⟩,h2=>by
    subst e
    refine ⟨cs,c1,c2 ++ b2,hO,hc,by simp,ElAt.append hr ?_⟩
    have e:o+sz+xs.length * sz=o+(x :: xs).length * sz:=by simp [Nat.add_mul]; omega
    rw [e]
    exact h2
theorem ElAt.split :∀{xs ys:List α} {o:Nat} {bs:List Nat},ElAt O sz w b o (xs ++ ys) bs→∃b1 b2,bs=b1 ++ b2∧ElAt O sz w b o xs b1∧ElAt O sz w b (o+xs.length * sz) ys b2
  |[],ys,o,bs,h=>⟨[],bs,rfl,rfl,by simpa using h⟩
  |x :: xs,ys,o,bs,⟨cs,c1,c2,hO,hc,e,hr⟩=>by
    obtain ⟨b1,b2,e2,h1,h2⟩:=ElAt.split hr
    subst e2
    subst e
    refine ⟨c1 ++ b1,b2,by simp,⟨cs,c1,b1,hO,hc,rfl,h1⟩,?_⟩
    have e:o+sz+xs.length * sz=o+(x :: xs).length * sz:=by simp [Nat.add_mul]; omega
    rw [e] at h2
    exact h2
theorem ElAt.one {x:α} {cs:List Value} {b1:List Nat} (hO:O w cs x b1) (hc:CsAt w b o cs):ElAt O sz w b o [x] b1:=⟨cs,b1,[],hO,hc,by simp,rfl⟩
/-- It reads: elements by their index. -/
theorem ElAt.reads {R:Rd α} {B:Nat} (hR:Gives O R B) :∀{xs:List α} {o:Nat} {bs:List Nat},ElAt O sz w b o xs bs→(∀k∈bs,k < B)→
    ∀i x,xs[i]? = some x→∃cs,R w B cs x∧∀j v,cs[j]? = some v→w.cell? ⟨b,o+i * sz+j,none⟩=some v
  |[],_,_,_,_,i,x,hx=>by simp at hx
  |y :: ys,o,_,⟨cs,b1,b2,hO,hc,e,hr⟩,hlt,i,x,hx=>by
    subst e
    cases i with
    |zero=>
      have hx:y=x:=by simpa using hx
      subst hx
      exact ⟨cs,hR _ _ _ _ hO (fun k hk=>hlt k (by simp [hk])),fun j v hj=>by simpa using (hc j v hj).1⟩
    |succ i=>
      obtain ⟨cs',h1,h2⟩:=ElAt.reads hR hr (fun k hk=>hlt k (by simp [hk])) i x (by simpa using hx)
      refine ⟨cs',h1,fun j v hj=>?_⟩
      have:=h2 j v hj
      have e:o+sz+i * sz+j=o+(i+1) * sz+j:=by simp [Nat.add_mul]; omega
      rw [e] at this
      exact this
theorem OwAt.len (h:OwAt O sz w A n xs bs):n=xs.length:=h.1
theorem OwAt.keep (ok:OwOk O sz) (hb :∀k∈bs,w'.heap[k]? = w.heap[k]?) (h:OwAt O sz w A n xs bs):OwAt O sz w' A n xs bs:=by
  refine ⟨h.1,?_⟩
  rcases h.2 with h2|⟨b,o,b2,e,e2,h2⟩
  · exact .inl h2
  · subst e2
    exact .inr ⟨b,o,b2,e,rfl,h2.keep ok (hb b (by simp)) (fun k hk=>hb k (by simp [hk]))⟩
theorem OwAt.reads {R:Rd α} {B:Nat} (hR:Gives O R B) (h:OwAt O sz w A n xs bs) (hlt :∀k∈bs,k < B):SlAt R sz w B A n xs:=by
  refine ⟨h.1,fun hn=>?_⟩
  rcases h.2 with ⟨e,_⟩|⟨b,o,b2,e,e2,h2⟩
  · have:=h.1; rw [e] at this; simp at this; omega
  · subst e2
    exact ⟨b,o,e,hlt b (by simp),h2.reads hR (fun k hk=>hlt k (by simp [hk]))⟩
theorem slOw_ok (ok:OwOk O sz):OwOk (slOw O sz) 1:=
  ⟨fun ⟨_,_,_,e,_⟩=>by rw [e]; rfl,fun hb ⟨A,n,c,e,h,r⟩=>⟨A,n,c,e,h.keep ok hb,r⟩⟩
theorem slOw_reads {R:Rd α} {B:Nat} (hR:Gives O R B):Gives (slOw O sz) (slRd R sz) B:=fun _ _ _ _ ⟨A,n,c,e,h,r⟩ hlt=>⟨A,n,c,e,h.reads hR hlt,r⟩
theorem intOw_reads (B:Nat):Gives intOw intRd B:=fun _ _ _ _ h _=>h.1
end
def Blk (w:World) (g:Nat) (t:TypeId) (cs:Array Value):Prop:=w.heap[g]? = some (.cells cs t (0,0))
section
variable {w w' : World} {g : Nat} {t : TypeId} {cs : Array Value}
theorem Blk.lt (h:Blk w g t cs):g < w.heap.size:=by
  rcases Nat.lt_or_ge g w.heap.size with hlt|hge
  · exact hlt
  · unfold Blk at h; rw [Array.getElem?_eq_none hge] at h; cases h
theorem Blk.cell (h:Blk w g t cs) (i:Nat):w.cell? ⟨g,i,none⟩=cs[i]?:=cell_of_row w g i cs t (0,0) h
theorem Blk.frozen (h:Blk w g t cs) (i:Nat):w.frozen? ⟨g,i,none⟩=false:=by
  unfold Blk at h
  simp [World.frozen?,h]
theorem Blk.new (w:World) (t:TypeId) (cs:Array Value):Blk (w.alloc (.cells cs t)) w.heap.size t cs:=heap_alloc_new w _
theorem Blk.alloc (h:Blk w g t cs) (o:Obj):Blk (w.alloc o) g t cs:=(Below.heap_alloc w o g h.lt).trans h
theorem Blk.drew (h:Blk w g t cs):Blk w.drew g t cs:=h
theorem Blk.drewN (h:Blk w g t cs) (n:Nat):Blk (w.drewN n) g t cs:=h
theorem Blk.far (h:Blk w g t cs) {p:Addr} (hp:g ≠ p.block) (u:Value):Blk (w.setCell p u) g t cs:=(Below.heap_setCell w p u g hp).trans h
theorem Blk.below {B:Nat} (h:Blk w g t cs) (hb:Below B w w') (hg:g < B):Blk w' g t cs:=(hb.block g hg).trans h
theorem Blk.csAt (h:Blk w g t cs) {o:Nat} {l:List Value} (hl :∀j v,l[j]? = some v→cs[o+j]? = some v):CsAt w g o l:=fun j v hj=>
  ⟨by rw [h.cell]; exact hl j v hj,h.frozen _⟩
end
theorem CsAt.nil {w:World} {b o:Nat} : CsAt w b o []:=fun j v hj=>by simp at hj
theorem CsAt.cons {w:World} {b o:Nat} {v:Value} {vs:List Value} (h1:w.cell? ⟨b,o,none⟩=some v) (h2:w.frozen? ⟨b,o,none⟩=false) (h:CsAt w b (o+1) vs):CsAt w b o (v :: vs):=fun j u hj=>by
  cases j with
  | zero => have hj : v = u := by simpa using hj
            subst hj; exact ⟨h1,h2⟩
  | succ j => have := h j u (by simpa using hj)
              rwa [show o+1+j=o+(j+1) by omega] at this
theorem CsAt.keepC {w w':World} {b o:Nat} {cs:List Value} (h:CsAt w b o cs) (hk :∀j,j < cs.length→w'.cell? ⟨b,o+j,none⟩=w.cell? ⟨b,o+j,none⟩∧w'.frozen? ⟨b,o+j,none⟩=w.frozen? ⟨b,o+j,none⟩):CsAt w' b o cs:=fun j v hj=>by
  obtain ⟨e1,e2⟩:=hk j (lt_of_some hj)
  rw [e1,e2]
  exact h j v hj
section
variable {α : Type} {O : Ow α} {sz : Nat} {w w' : World} {b o n : Nat}
theorem ElAt.keepC (ok:OwOk O sz) :∀{xs:List α} {o:Nat} {bs:List Nat},(∀p,o≤p→p < o+xs.length * sz→w'.cell? ⟨b,p,none⟩=w.cell? ⟨b,p,none⟩∧w'.frozen? ⟨b,p,none⟩=w.frozen? ⟨b,p,none⟩)→
    (∀k∈bs,w'.heap[k]? = w.heap[k]?)→ElAt O sz w b o xs bs→ElAt O sz w' b o xs bs
  |[],_,_,_,_,h=>h
  |x :: xs,o,_,hb,hbs,⟨cs,b1,b2,hO,hc,e,hr⟩=>by
    subst e
    have hl:=ok.len hO
    have e:(x :: xs).length * sz=xs.length * sz+sz:=by simp [Nat.add_mul]
    exact ⟨cs,b1,b2,ok.keep (fun k hk=>hbs k (by simp [hk])) hO,hc.keepC (fun j hj=>hb _ (by omega) (by omega)),rfl,
      ElAt.keepC ok (fun p h1 h2=>hb p (by omega) (by omega)) (fun k hk=>hbs k (by simp [hk])) hr⟩
end
theorem run_make_rowN {P:Program} (t e:TypeId) (i:TypeInfo) (z:Value) (ht:P.underlying t=some (.slice e)) (hi:P.info? e=some i) (hz:i.zero=some z)
    (kl kc:IntKind) (n c:Nat) (hnc:n≤c) (hbytes:i.bytes * c≤281474976710656) (h63:c≤9223372036854775807) (w:World) :
    (Instr.makeSlice t (.int kl (n:Int)) (.int kc (c:Int))).run P w=.ok (.slice (some ⟨w.heap.size,0,none⟩) n c) (w.alloc (.cells (madeCells z.cells (c * i.size)) e)):=by
  have hb:(i.bytes:Int) * (c:Int)≤281474976710656:=by
    have h:((i.bytes * c:Nat):Int)≤281474976710656:=by omega
    rwa [Int.natCast_mul] at h
  have hr:=run_make (P:=P) w t e i z ht hi hz kl kc n c (by omega) (by omega) hb (by omega)
  simp only [Int.toNat_natCast] at hr
  exact hr
theorem run_make_sz {P:Program} (t e:TypeId) {z:Value} {sz bb:Nat} (ht:P.underlying t=some (.slice e)) (hinfo:(P.info? e).map (fun i=>(i.zero,i.size,i.bytes))=some (some z,sz,bb))
    (n:Nat) (hb:bb * n≤281474976710656) (hn:n≤4294967296) (w:World) :
    (Instr.makeSlice t (.int .i64 (n:Int)) (.int .i64 (n:Int))).run P w=.ok (.slice (some ⟨w.heap.size,0,none⟩) n n) (w.alloc (.cells (madeCells z.cells (n * sz)) e)):=by
  obtain ⟨i0,hi,hz0,hz1,hz2⟩:=info_parts hinfo
  have h:=run_make_rowN t e i0 z ht hi hz0 .i64 .i64 n n (Nat.le_refl _) (by rw [hz2]; exact hb) (by omega) w
  rw [hz1] at h
  exact h
theorem madeCells_size (z:Array Value) (n:Nat):(madeCells z n).size=n:=by simp [madeCells]
def MidAt {α:Type} (O:Ow α) (sz:Nat) (w:World) (A:Option Addr) (done rest:List α) (bs:List Nat):Prop:=
  (done=[]∧rest=[]∧bs=[]) ∨∃b o b1 b2,A=some ⟨b,o,none⟩∧bs=b :: (b1 ++ b2)∧ElAt O sz w b o done b1∧ElAt O sz w b (o+done.length * sz) rest b2
section
variable {α : Type} {O : Ow α} {sz : Nat} {w w' : World} {A : Option Addr} {n : Nat} {done rest xs : List α} {x x' : α} {bs : List Nat}
theorem MidAt.whole (h:MidAt O sz w A done [] bs) (hn:n=done.length):OwAt O sz w A n done bs:=by
  refine ⟨hn,?_⟩
  rcases h with ⟨e1,_,e2⟩|⟨b,o,b1,b2,e1,e2,h,h2⟩
  · exact .inl ⟨e1,e2⟩
  · have h2:b2=[]:=h2
    subst h2
    exact .inr ⟨b,o,b1,e1,by simpa using e2,h⟩
theorem MidAt.step {b o:Nat} {cs:List Value} {b1 bx b2:List Nat} (hA:A=some ⟨b,o,none⟩) (h1:ElAt O sz w b o done b1) (hO:O w cs x' bx) (hc:CsAt w b (o+done.length * sz) cs)
    (h2:ElAt O sz w b (o+done.length * sz+sz) rest b2):MidAt O sz w A (done ++ [x']) rest (b :: (b1 ++ (bx ++ b2))):=by
  refine .inr ⟨b,o,b1 ++ bx,b2,hA,by simp,ElAt.append h1 (ElAt.one hO hc),?_⟩
  have e:o+(done ++ [x']).length * sz=o+done.length * sz+sz:=by simp [Nat.add_mul]; omega
  rw [e]
  exact h2
end
end
section
open Go.RowKit
def ivals (l:List Int):List Value:=l.map (Value.int .i64)
/-- A row of numbers is a slice of the call's own. -/
theorem ownsRow_ints {w:World} {base:Nat} {e:TypeId} {v:Value} {n:Nat} {xs:List Int} (h:w.ownsRow base e 1 v n (ivals xs)) :∃A c bs,v=.slice A n c∧OwAt intOw 1 w A n xs bs∧bs.Nodup∧(∀b∈bs,base≤b∧b < w.heap.size)∧n≤c∧c≤maxLen:=by
  have hlen:n=xs.length:=by have:=h.1; simp [ivals] at this; omega
  rcases h.2 with ⟨rfl,rfl⟩|⟨g,cap,cur,rfl,hg,hh,h1,h2,h3,h4⟩
  · have:xs=[]:=List.eq_nil_of_length_eq_zero hlen.symm
    subst this
    exact ⟨none,0,[],rfl,⟨rfl,.inl ⟨rfl,rfl⟩⟩,List.nodup_nil,fun b hb=>by simp at hb,Nat.le_refl _,Nat.zero_le _⟩
  · have hblk:Blk w g e cur:=hh
    refine ⟨some ⟨g,0,none⟩,cap,[g],rfl,⟨hlen,.inr ⟨g,0,[],rfl,rfl,?_⟩⟩,by simp,fun b hb=>by simp at hb; subst hb; exact ⟨hg,hblk.lt⟩,h1,h2⟩
    have key :∀(l:List Int) (o:Nat),(∀j x,l[j]? = some x→cur[o+j]? = some (.int .i64 x))→ElAt intOw 1 w g o l []:=by
      intro l
      induction l with
      |nil=>intro o _; rfl
      |cons x l ih=>
        intro o hl
        refine ⟨[.int .i64 x],[],[],⟨rfl,rfl⟩,hblk.csAt (fun j v hj=>?_),rfl,ih (o+1) (fun j y hy=>?_)⟩
        · cases j with
          | zero => have : Value.int .i64 x = v := by simpa using hj
                    subst this; exact hl 0 x rfl
          |succ j=>simp at hj
        · have:=hl (j+1) y (by simpa using hy)
          rwa [show o+(j+1)=o+1+j by omega] at this
    refine key xs 0 (fun j x hx=>?_)
    have hj:(ivals xs)[j]? = some (.int .i64 x):=by simp [ivals,hx]
    rw [← h4,List.getElem?_take] at hj
    split at hj
    · simpa using hj
    · cases hj
/-- A result that is a list of numbers and a code. -/
def RetInts (B:Nat) (w':World) (xs:List Int) (k:Int) (e:Ending):Prop:=
  ∃A n c bs,e=.returned (.tuple #[.slice A n c,.int .i64 k])∧OwAt intOw 1 w' A n xs bs∧bs.Nodup∧(∀b∈bs,B≤b∧b < w'.heap.size)∧n≤c∧c≤maxLen
theorem RetInts.row {B:Nat} {w':World} {v:Value} {n:Nat} {xs:List Int} {e:TypeId} {k:Int} (h:w'.ownsRow B e 1 v n (ivals xs)):RetInts B w' xs k (.returned (.tuple #[v,.int .i64 k])):=by
  obtain ⟨A,c,bs,rfl,h1,h2,h3,h4⟩:=ownsRow_ints h
  exact ⟨A,n,c,bs,rfl,h1,h2,h3,h4⟩
end
section
open Go.RowKit
/-- A slice value that reads as a list. -/
def RdS {α:Type} (R:Rd α) (sz:Nat) (w:World) (B:Nat) (v:Value) (xs:List α):Prop:=∃A n c,v=.slice A n c∧SlAt R sz w B A n xs∧n≤c∧c≤maxLen
/-- A slice value of the call's own whose blocks lie from lo to hi. -/
def OwS {α:Type} (O:Ow α) (sz:Nat) (w:World) (v:Value) (xs:List α) (lo hi:Nat):Prop:=∃A n c bs,v=.slice A n c∧OwAt O sz w A n xs bs∧bs.Nodup∧(∀b∈bs,lo≤b∧b < hi)∧n≤c∧c≤maxLen
/-- A struct value. -/
def RdT {α:Type} (R:Rd α) (w:World) (B:Nat) (v:Value) (x:α):Prop:=∃cs,v=.agg cs.toArray∧R w B cs x
def OwT {α:Type} (O:Ow α) (w:World) (v:Value) (x:α) (lo hi:Nat):Prop:=∃cs bs,v=.agg cs.toArray∧O w cs x bs∧bs.Nodup∧∀b∈bs,lo≤b∧b < hi
structure OnlyIn (lo hi:Nat) (w w':World):Prop where
  os:w'.os=w.os
  tape:w'.tape=w.tape
  output:w'.output=w.output
  size:w'.heap.size=w.heap.size
  block :∀k,k < lo ∨ hi≤k→w'.heap[k]? = w.heap[k]?
section
variable {w w' w'' : World} {lo hi lo' hi' B : Nat}
theorem OnlyIn.refl (lo hi:Nat) (w:World):OnlyIn lo hi w w:=⟨rfl,rfl,rfl,rfl,fun _ _=>rfl⟩
theorem OnlyIn.trans (h:OnlyIn lo hi w w') (h':OnlyIn lo hi w' w''):OnlyIn lo hi w w'':=
  ⟨h'.os.trans h.os,h'.tape.trans h.tape,h'.output.trans h.output,h'.size.trans h.size,fun k hk=>(h'.block k hk).trans (h.block k hk)⟩
theorem OnlyIn.wide (h:OnlyIn lo hi w w') (h1:lo'≤lo) (h2:hi≤hi'):OnlyIn lo' hi' w w':=⟨h.os,h.tape,h.output,h.size,fun k hk=>h.block k (by omega)⟩
theorem OnlyIn.setCell (h:OnlyIn lo hi w w') {p:Addr} (hp:lo≤p.block∧p.block < hi) (u:Value):OnlyIn lo hi w (w'.setCell p u):=
  h.trans ⟨rfl,rfl,rfl,by simp [World.setCell],fun k hk=>Below.heap_setCell _ _ _ _ (fun e=>by omega)⟩
theorem OnlyIn.drew (h:OnlyIn lo hi w w'):OnlyIn lo hi w w'.drew:=⟨h.os,h.tape,h.output,h.size,h.block⟩
theorem OnlyIn.below (h:OnlyIn lo hi w w'):Below lo w w':=⟨h.os,h.tape,h.output,by rw [h.size]; exact Nat.le_refl _,fun k hk=>h.block k (.inl hk)⟩
section
variable {α : Type} {O : Ow α} {R : Rd α} {sz : Nat} {v : Value} {xs : List α} {x : α}
theorem RdS.below (ok:RdOk R sz) (h:RdS R sz w B v xs) (hb:Below B w w'):RdS R sz w' B v xs:=let ⟨A,n,c,e,h,r⟩:=h; ⟨A,n,c,e,h.below ok hb,r⟩
theorem RdS.more (ok:RdOk R sz) (h:RdS R sz w B v xs) {B':Nat} (hB:B≤B'):RdS R sz w B' v xs:=let ⟨A,n,c,e,h,r⟩:=h; ⟨A,n,c,e,h.more ok hB,r⟩
theorem RdT.below (ok:RdOk R sz) (h:RdT R w B v x) (hb:Below B w w'):RdT R w' B v x:=let ⟨cs,e,h⟩:=h; ⟨cs,e,ok.keep (fun p hp=>hb.cell hp) h⟩
theorem RdT.more (ok:RdOk R sz) (h:RdT R w B v x) {B':Nat} (hB:B≤B'):RdT R w B' v x:=let ⟨cs,e,h⟩:=h; ⟨cs,e,ok.more hB h⟩
theorem OwS.keep (ok:OwOk O sz) (h:OwS O sz w v xs lo hi) (hk :∀k,lo≤k→k < hi→w'.heap[k]? = w.heap[k]?):OwS O sz w' v xs lo hi:=
  let ⟨A,n,c,bs,e,h,h1,h2,r⟩:=h; ⟨A,n,c,bs,e,h.keep ok (fun k hin=>hk k (h2 k hin).1 (h2 k hin).2),h1,h2,r⟩
theorem OwS.below (ok:OwOk O sz) (h:OwS O sz w v xs lo hi) (hb:Below B w w') (hB:hi≤B):OwS O sz w' v xs lo hi:=h.keep ok fun k _ hk=>hb.block k (by omega)
theorem OwS.only (ok:OwOk O sz) (h:OwS O sz w v xs lo hi) (ho:OnlyIn lo' hi' w w') (hd:hi≤lo' ∨ hi'≤lo):OwS O sz w' v xs lo hi:=h.keep ok fun k h1 h2=>ho.block k (by omega)
theorem OwS.wide (h:OwS O sz w v xs lo hi) (h1:lo'≤lo) (h2:hi≤hi'):OwS O sz w v xs lo' hi':=let ⟨A,n,c,bs,e,h,hn,hb,r⟩:=h; ⟨A,n,c,bs,e,h,hn,fun b hin=>by have:=hb b hin; omega,r⟩
theorem OwS.reads (hR:Gives O R B) (h:OwS O sz w v xs lo hi) (hB:hi≤B):RdS R sz w B v xs:=let ⟨A,n,c,bs,e,h,h1,h2,r⟩:=h; ⟨A,n,c,e,h.reads hR (fun k hk=>by have:=h2 k hk; omega),r⟩
theorem OwT.keep (ok:OwOk O sz) (h:OwT O w v x lo hi) (hk :∀k,lo≤k→k < hi→w'.heap[k]? = w.heap[k]?):OwT O w' v x lo hi:=
  let ⟨cs,bs,e,h,h1,h2⟩:=h; ⟨cs,bs,e,ok.keep (fun k hin=>hk k (h2 k hin).1 (h2 k hin).2) h,h1,h2⟩
theorem OwT.below (ok:OwOk O sz) (h:OwT O w v x lo hi) (hb:Below B w w') (hB:hi≤B):OwT O w' v x lo hi:=h.keep ok fun k _ hk=>hb.block k (by omega)
theorem OwT.only (ok:OwOk O sz) (h:OwT O w v x lo hi) (ho:OnlyIn lo' hi' w w') (hd:hi≤lo' ∨ hi'≤lo):OwT O w' v x lo hi:=h.keep ok fun k h1 h2=>ho.block k (by omega)
theorem OwT.wide (h:OwT O w v x lo hi) (h1:lo'≤lo) (h2:hi≤hi'):OwT O w v x lo' hi':=let ⟨cs,bs,e,h,hn,hb⟩:=h; ⟨cs,bs,e,h,hn,fun b hin=>by have:=hb b hin; omega⟩
theorem OwT.reads (hR:Gives O R B) (h:OwT O w v x lo hi) (hB:hi≤B):RdT R w B v x:=let ⟨cs,bs,e,h,h1,h2⟩:=h; ⟨cs,e,hR _ _ _ _ h (fun k hk=>by have:=h2 k hk; omega)⟩
end
end
theorem blk2_0 {w:World} {t:TypeId} {cs:Array Value} {o2:Obj} : Blk ((w.alloc (.cells cs t)).alloc o2) w.heap.size t cs:=(Blk.new w t cs).alloc _
theorem blk2_1 {w:World} {t:TypeId} {cs:Array Value} {o1:Obj} : Blk ((w.alloc o1).alloc (.cells cs t)) (w.heap.size+1) t cs:=by
  have h:=Blk.new (w.alloc o1) t cs
  rwa [World.size_alloc] at h
/-- An element at b, p is being written: its own cells, and the blocks of bs. -/
structure Touch (b p sz:Nat) (bs:List Nat) (w w':World):Prop where
  os:w'.os=w.os
  tape:w'.tape=w.tape
  output:w'.output=w.output
  size:w'.heap.size=w.heap.size
  cell :∀q,q < p ∨ p+sz≤q→w'.cell? ⟨b,q,none⟩=w.cell? ⟨b,q,none⟩
  frozen :∀q,w'.frozen? ⟨b,q,none⟩=w.frozen? ⟨b,q,none⟩
  block :∀k,k ≠ b→k ∉ bs→w'.heap[k]? = w.heap[k]?
section
variable {w w' w'' : World} {b p sz : Nat} {bs bs' : List Nat}
theorem Touch.refl:Touch b p sz bs w w:=⟨rfl,rfl,rfl,rfl,fun _ _=>rfl,fun _=>rfl,fun _ _ _=>rfl⟩
theorem Touch.trans (h:Touch b p sz bs w w') (h':Touch b p sz bs w' w''):Touch b p sz bs w w'':=
  ⟨h'.os.trans h.os,h'.tape.trans h.tape,h'.output.trans h.output,h'.size.trans h.size,fun q hq=>(h'.cell q hq).trans (h.cell q hq),fun q=>(h'.frozen q).trans (h.frozen q),fun k h1 h2=>(h'.block k h1 h2).trans (h.block k h1 h2)⟩
theorem Touch.set (h:Touch b p sz bs w w') {j:Nat} (h1:p≤j) (h2:j < p+sz) (v:Value):Touch b p sz bs w (w'.setCell ⟨b,j,none⟩ v):=
  h.trans ⟨rfl,rfl,rfl,by simp [World.setCell],fun q hq=>World.cell?_setCell_other _ _ _ _ (fun e=>by injection e with _ e2; omega),fun q=>World.frozen?_setCell _ _ _ _,fun k hk _=>Below.heap_setCell _ _ _ _ hk⟩
theorem Touch.only (h:Touch b p sz bs w w') (ho:Only bs' w' w'') (hb:b ∉ bs') (hs :∀k∈bs',k∈bs):Touch b p sz bs w w'':=
  h.trans ⟨ho.os,ho.tape,ho.output,ho.size,fun q _=>World.cell?_of_block (w:=w') (a:=⟨b,q,none⟩) (ho.block b hb),fun q=>World.frozen?_of_block (w:=w') (a:=⟨b,q,none⟩) (ho.block b hb),fun k _ hk=>ho.block k (fun hin=>hk (hs k hin))⟩
theorem Touch.only_ (h:Touch b p sz bs w w'):Only (b :: bs) w w':=⟨h.os,h.tape,h.output,h.size,fun k hk=>h.block k (by simp at hk; exact hk.1) (by simp at hk; exact hk.2)⟩
theorem Touch.el {α:Type} {O:Ow α} {s:Nat} (ok:OwOk O s) {xs:List α} {o:Nat} {bl:List Nat} (h:Touch b p sz bs w w') (hd:o+xs.length * s≤p ∨ p+sz≤o) (hbl :∀k∈bl,k ≠ b∧k ∉ bs) (hE:ElAt O s w b o xs bl):ElAt O s w' b o xs bl:=
  hE.keepC ok (fun q h1 h2=>⟨h.cell q (by omega),h.frozen q⟩) (fun k hk=>h.block k (hbl k hk).1 (hbl k hk).2)
end
theorem SlAt.drew {α:Type} {R:Rd α} {sz:Nat} {w:World} {B n:Nat} {A:Option Addr} {xs:List α} (ok:RdOk R sz) (h:SlAt R sz w B A n xs):SlAt R sz w.drew B A n xs:=SlAt.keep (w:=w) (w':=w.drew) ok (fun _ _=>rfl) h
/-- One result, or a result and codes. -/
def Ret1 (P:Value→Prop) (e:Ending):Prop:=∃v,e=.returned v∧P v
end
section
open Go.RowKit
/-- A frame of n slots. -/
def Fr (n:Nat) (f:Nat→Value):Act:=⟨((List.range n).map f).toArray,[]⟩
def up (f:Nat→Value) (d:Nat) (v:Value):Nat→Value:=fun k=>bif Nat.beq k d then v else f k
def upo (f:Nat→Value):Option Tmp→Value→Nat→Value
  |some d,v=>up f d v
  |none,_=>f
def ev (f:Nat→Value):Operand→Value
  |.tmp t=>f t
  |.const v=>v
  |.global g=>.pointer (some ⟨g,0,none⟩)
  |.func g=>.func (.func g) #[] #[]
def opIn (n:Nat):Operand→Bool
  |.tmp t=>Nat.blt t n
  |_=>true
def okOp (n:Nat) (ops:Array Oper) (o:Oper):Bool:=
  o.op.operands.toList.all (opIn n) && (match o.op with|.select ..=>false|_=>true) &&
  (match o.guard with|none=>true|some (j,_)=>match (ops[j]?).bind (·.dst) with|some d=>Nat.blt d n|none=>true)
def gval (f:Nat→Value) (ops:Array Oper) (j:Nat):Option Bool:=
  match (ops[j]?).bind (·.dst) with
  |some d=>match f d with|.bool b=>some b|_=>none
  |none=>none
def wantF (f:Nat→Value) (ops:Array Oper) (o:Oper):Bool:=
  match o.guard with
  |none=>true
  |some (j,want)=>gval f ops j==some want
theorem Fr_get {n:Nat} {f:Nat→Value} {t:Nat} (h:t < n):(Fr n f).tmps[t]? = some (f t):=by simp [Fr,h]
theorem Fr_eval {n:Nat} {f:Nat→Value} {x:Operand} (h:opIn n x=true):(Fr n f).eval x=ev f x:=by
  cases x with
  |tmp t=>
    have ht:t < n:=by simpa [opIn] using h
    simp [Act.eval,Fr,ev,ht]
  |_=>rfl
theorem Fr_put {n:Nat} {f:Nat→Value} {d:Option Tmp} {v:Value} : (Fr n f).put d v=Fr n (upo f d v):=by
  cases d with
  |none=>rfl
  |some d=>
    simp only [Act.put,Fr,upo,Act.mk.injEq,and_true]
    apply Array.ext_getElem?
    intro i
    simp only [Array.getElem?_setIfInBounds,List.size_toArray,List.length_map,List.length_range,List.getElem?_toArray,List.getElem?_map]
    by_cases hi:i < n
    · by_cases hd:d=i
      · subst hd; simp [hi,up]
      · have h1:i.beq d=false:=by cases h:i.beq d with|false=>rfl|true=>exact absurd (Nat.eq_of_beq_eq_true h).symm hd
        simp [hi,hd,up,h1]
    · by_cases hd:d=i
      · subst hd; simp [hi]
      · simp [hd,hi]
theorem Fr_exec {n:Nat} {f:Nat→Value} {ops:Array Oper} {o:Oper} (h:okOp n ops o=true):execOp (Fr n f).eval o=execOp (ev f) o:=by
  simp only [okOp,Bool.and_eq_true,List.all_eq_true] at h
  refine execOp_congr o (fun cs b e=>?_) (fun x hx=>Fr_eval (h.1.1 x (by simpa using hx)))
  have:=h.1.2
  rw [e] at this
  cases this
theorem Fr_wanted {n:Nat} {f:Nat→Value} {ops:Array Oper} {o:Oper} (h:okOp n ops o=true):Region.wanted o (yielded ops (Fr n f).tmps)=wantF f ops o:=by
  simp only [okOp,Bool.and_eq_true] at h
  have h3:=h.2
  unfold Region.wanted wantF
  cases hg:o.guard with
  |none=>rfl
  |some p=>
    obtain ⟨j,want⟩:=p
    rw [hg] at h3
    simp only at h3 ⊢
    congr 1
    unfold yielded gval
    cases hd:(ops[j]?).bind (·.dst) with
    |none=>rfl
    |some d=>
      rw [hd] at h3
      have hlt:d < n:=by simpa using h3
      simp only [Option.bind_some,Fr_get hlt]
      cases f d <;> rfl
section
variable {P : Program} {ops : Array Oper}
/-- The operations one by one, in every world of the class C. -/
def RQ (P:Program) (ops:Array Oper) (C:World→Prop) (Q:(Nat→Value)→Prop):List Oper→(Nat→Value)→Prop
  |[],f=>Q f
  |o :: rest,f=>∃v,((wantF f ops o=true∧∀w,C w→Oper.quietUpon P C w v ((execOp (ev f) o).run P w)) ∨ (wantF f ops o=false∧v=undef))∧RQ P ops C Q rest (upo f o.dst v)
theorem RQ_quiet {n:Nat} {C:World→Prop} {Q:(Nat→Value)→Prop} :∀{l:List Oper} {f:Nat→Value},(∀o∈l,okOp n ops o=true)→RQ P ops C Q l f→wpQuiet P ops C (fun a=>∃f',a=Fr n f'∧Q f') l (Fr n f)
  |[],f,_,h=>⟨f,rfl,h⟩
  |o :: rest,f,hin,⟨v,h1,h2⟩=>by
    have ho:=hin o (by simp)
    have ih:=RQ_quiet (fun o' h'=>hin o' (by simp [h'])) h2
    unfold wpQuiet
    rw [Fr_wanted ho]
    rcases h1 with ⟨hw,h1⟩|⟨hw,rfl⟩
    · rw [hw,if_pos rfl]
      exact ⟨v,fun w hw'=>by unfold Oper.quietAt; rw [Fr_exec ho]; exact h1 w hw',by rw [Fr_put]; exact ih⟩
    · rw [hw,if_neg (by decide),Fr_put]
      exact ih
theorem quiet_list {C:World→Prop} {Q:Act→Prop} {Q':Exit→Act→World→Prop} (hQ :∀a w,C w→Q a→Q' .normal a w) :∀{l:List Oper} {a:Act} {w:World},C w→wpQuiet P ops C Q l a→wpList P ops Q' l a w
  |[],a,w,hw,h=>hQ a w hw h
  |o :: rest,a,w,hw,h=>by
    unfold wpQuiet at h
    unfold wpList
    split
    · rename_i hg
      rw [if_pos hg] at h
      exact .inl (Oper.wp_of_quiet hw (fun a' w' hw' h'=>quiet_list hQ hw' h') h)
    · rename_i hg
      rw [if_neg hg] at h
      exact quiet_list hQ hw h
def okAll (n:Nat) (l:List Oper):Bool:=l.all (okOp n l.toArray)
theorem wp_rq {id n:Nat} {l:List Oper} {f:Nat→Value} {w:World} {Q:Exit→Act→World→Prop} (C:World→Prop) (hC:C w) (hin:okAll n l=true)
    (h:RQ P l.toArray C (fun f'=>∀w',C w'→Q .normal (Fr n f') w') l f):(Code.region id l.toArray false).wp P Q (Fr n f) w:=by
  refine wp_region_lit (quiet_list (Q:=fun a=>∃f',a=Fr n f'∧∀w',C w'→Q .normal (Fr n f') w') ?_ hC (RQ_quiet (fun o ho=>List.all_eq_true.1 hin o ho) h))
  rintro a w' hw' ⟨f',rfl,hq⟩
  exact hq w' hw'
theorem wp_rq_draw {id n:Nat} {l:List Oper} {f:Nat→Value} {w:World} {Q:Exit→Act→World→Prop} (C:World→Prop) (hC:C w.drew) (hm:P.follows .mixedOrders=true) (hin:(okAll n l && Region.lexB .any l.toArray)=true)
    (h:RQ P l.toArray C (fun f'=>∀w',C w'→Q .normal (Fr n f') w') l f):(Code.region id l.toArray true).wp P Q (Fr n f) w:=by
  simp only [Bool.and_eq_true] at hin
  refine wp_region_quiet (C:=C) hm hin.2 hC ?_
  have h1:=RQ_quiet (n:=n) (fun o ho=>List.all_eq_true.1 hin.1 o ho) h
  have mono :∀(l':List Oper) (a:Act),wpQuiet P l.toArray C (fun a=>∃f',a=Fr n f'∧∀w',C w'→Q .normal (Fr n f') w') l' a→wpQuiet P l.toArray C (fun a'=>∀w',C w'→Q .normal a' w') l' a:=by
    intro l'
    induction l' with
    |nil=>rintro a ⟨f',rfl,hq⟩; exact hq
    |cons o rest ih=>
      intro a h
      unfold wpQuiet at h ⊢
      split
      · rename_i hg; rw [if_pos hg] at h; exact Oper.quiet_mono (fun a=>ih a) h
      · rename_i hg; rw [if_neg hg] at h; exact ih _ h
  exact mono l (Fr n f) h1
/-- What one operation comes to in one world. -/
def OpX (P:Program) (K:Value→World→Prop):Result Next→Prop
  |.ok (.value v) w'=>K v w'
  |.ok .skip w'=>K undef w'
  |.ok (.enter g args) w'=>Calls P g args w' fun e w''=>∃v,e=.returned v∧K v w''
  |_=>False
def RL (P:Program) (ops:Array Oper) (Q:(Nat→Value)→World→Prop):List Oper→(Nat→Value)→World→Prop
  |[],f,w=>Q f w
  |o :: rest,f,w=>(wantF f ops o=true∧OpX P (fun v w'=>RL P ops Q rest (upo f o.dst v) w') ((execOp (ev f) o).run P w)) ∨ (wantF f ops o=false∧RL P ops Q rest (upo f o.dst undef) w)
theorem OpX_wp {o:Oper} {a:Act} {K:Act→World→Prop} {Q:Exit→Act→World→Prop} {r:Result Next} (h:OpX P (fun v w'=>K (a.put o.dst v) w') r):o.upon P a K Q r:=by
  cases r with
  |ok n w'=>
    cases n <;> simp only [OpX] at h <;> simp only [Oper.upon] <;> try exact h
    case enter g args=>exact h.mono fun e w'' ⟨v,he,hk⟩=>by subst he; exact hk
  |halt x w'=>simp only [OpX] at h
theorem RL_list {n:Nat} {Q:(Nat→Value)→World→Prop} {Q':Exit→Act→World→Prop} (hQ :∀f w,Q f w→Q' .normal (Fr n f) w) :∀{l:List Oper} {f:Nat→Value} {w:World},(∀o∈l,okOp n ops o=true)→RL P ops Q l f w→wpList P ops Q' l (Fr n f) w
  |[],f,w,_,h=>hQ f w h
  |o :: rest,f,w,hin,h=>by
    have ho:=hin o (by simp)
    unfold wpList
    rw [Fr_wanted ho]
    rcases h with ⟨hw,h⟩|⟨hw,h⟩
    · rw [hw,if_pos rfl]
      left
      unfold Oper.wp
      rw [Fr_exec ho]
      refine OpX_wp ?_
      have e:(fun v w'=>RL P ops Q rest (upo f o.dst v) w')=fun v w'=>RL P ops Q rest (upo f o.dst v) w':=rfl
      revert h
      generalize (execOp (ev f) o).run P w=r
      intro h
      have key :∀v w',RL P ops Q rest (upo f o.dst v) w'→wpList P ops Q' rest ((Fr n f).put o.dst v) w':=fun v w' h'=>by
        rw [Fr_put]; exact RL_list hQ (fun o' h''=>hin o' (by simp [h''])) h'
      cases r with
      |ok nx w'=>
        cases nx <;> simp only [OpX] at h ⊢ <;> try exact key _ _ h
        case enter g args=>exact h.mono fun e w'' ⟨v,he,hk⟩=>⟨v,he,key _ _ hk⟩
      |halt x w'=>simp only [OpX] at h
    · rw [hw,if_neg (by decide),Fr_put]
      exact RL_list hQ (fun o' h'=>hin o' (by simp [h'])) h
theorem wp_rl {id n:Nat} {l:List Oper} {f:Nat→Value} {w:World} {Q:Exit→Act→World→Prop} (hin:okAll n l=true)
    (h:RL P l.toArray (fun f' w'=>Q .normal (Fr n f') w') l f w):(Code.region id l.toArray false).wp P Q (Fr n f) w:=
  wp_region_lit (RL_list (fun f' w' h'=>h') (fun o ho=>List.all_eq_true.1 hin o ho) h)
end
end
section
open Go.RowKit
section
variable {P : Program} {ops : Array Oper} {C : World → Prop} {f : Nat → Value} {rest : List Oper}
/-- The operation o yields v in every world of the class, and leaves it. -/
def Y (P:Program) (C:World→Prop) (f:Nat→Value) (o:Oper) (v:Value):Prop:=∀w,C w→(execOp (ev f) o).run P w=.ok (.value v) w
def CellIn (C:World→Prop) (A:Addr) (v:Value):Prop:=∀w,C w→w.cell? A=some v
theorem eqC {w:World} {A:Addr} {v:Value} (h:w.cell? A=some v):CellIn (· = w) A v:=fun _ e=>by rw [e]; exact h
theorem beC {w:World} {A:Addr} {v:Value} (h:w.cell? A=some v):CellIn (Below w.heap.size w) A v:=fun _ e=>(e.cell (World.block_lt_of_cell? w A h)).trans h
theorem RQ.y {Q:(Nat→Value)→Prop} {o:Oper} {v:Value} (hg:wantF f ops o=true) (hy:Y P C f o v) (h:RQ P ops C Q rest (upo f o.dst v)):RQ P ops C Q (o :: rest) f:=
  ⟨v,.inl ⟨hg,fun w hw=>by rw [hy w hw]; exact ⟨rfl,rfl⟩⟩,h⟩
theorem RQ.skip {Q:(Nat→Value)→Prop} {o:Oper} (hg:wantF f ops o=false) (h:RQ P ops C Q rest (upo f o.dst undef)):RQ P ops C Q (o :: rest) f:=⟨undef,.inr ⟨hg,rfl⟩,h⟩
theorem RQ.nil {Q:(Nat→Value)→Prop} (h:Q f):RQ P ops C Q [] f:=h
theorem RL.y {Q:(Nat→Value)→World→Prop} {w:World} {o:Oper} {v:Value} (hg:wantF f ops o=true) (hy:Y P (· = w) f o v) (h:RL P ops Q rest (upo f o.dst v) w):RL P ops Q (o :: rest) f w:=
  .inl ⟨hg,by rw [hy w rfl]; exact h⟩
theorem RL.skip {Q:(Nat→Value)→World→Prop} {w:World} {o:Oper} (hg:wantF f ops o=false) (h:RL P ops Q rest (upo f o.dst undef) w):RL P ops Q (o :: rest) f w:=.inr ⟨hg,h⟩
theorem RL.nil {Q:(Nat→Value)→World→Prop} {w:World} (h:Q f w):RL P ops Q [] f w:=h
variable {d : Option Tmp} {ty : TypeId} {pos : String} {af : Array Edge} {g : Option (Nat × Bool)} {x y : Operand} {u v : Value} {t t' : TypeId}
theorem Y.move (hx:ev f x=v):Y P C f ⟨d,.move x,ty,pos,af,g⟩ v:=fun w _=>by subst hx; rfl
theorem Y.assign (hx:ev f x=v):Y P C f ⟨d,.assign x,ty,pos,af,g⟩ v:=fun w _=>by subst hx; rfl
theorem Y.nilCheck {A:Addr} (hx:ev f x=.pointer (some A)):Y P C f ⟨d,.nilCheck x,ty,pos,af,g⟩ (.pointer (some A)):=fun w _=>by simp [execOp,hx]
theorem Y.pick {c:Operand} {b:Bool} (hc:ev f c=.bool b) (hv:(bif b then ev f x else ev f y)=v):Y P C f ⟨d,.pick c x y,ty,pos,af,g⟩ v:=fun w _=>by
  subst hv
  cases b <;> simp [execOp,hc,asBool]
theorem Y.not {b b':Bool} (hx:ev f x=.bool b) (hb:(!b)=b'):Y P C f ⟨d,.unOp .not t x,ty,pos,af,g⟩ (.bool b'):=fun w _=>by
  subst hb
  simp [execOp,hx,Op.unary]
/-- The binary operations of integers. -/
def binI (o:BinOp) (k:IntKind) (m n:Int):Option Value:=
  match o with
  |.add=>some (.int k (k.wrap (m+n)))
  |.sub=>some (.int k (k.wrap (m - n)))
  |.mul=>some (.int k (k.wrap (m * n)))
  |.eql=>some (.bool (m==n))
  |.neq=>some (.bool (m != n))
  |.lss=>some (.bool (m < n))
  |.leq=>some (.bool (m≤n))
  |.gtr=>some (.bool (m > n))
  |.geq=>some (.bool (m ≥ n))
  |_=>none
theorem eqGuard_int {P:Program} {w:World} {o:BinOp} {k k':IntKind} {m n:Int} : (eqGuard o t x y (.int k m) (.int k' n)).run P w=.ok () w:=by
  unfold eqGuard; cases o <;> rfl
theorem Y.binI {o:BinOp} {k:IntKind} {m n:Int} (hx:ev f x=.int k m) (hy:ev f y=.int k n) (hr:binI o k m n=some v):Y P C f ⟨d,.binOp o t x y t',ty,pos,af,g⟩ v:=fun w _=>by
  simp only [execOp,hx,hy,Sem.run_bind,eqGuard_int,Result.andThen_ok]
  cases o <;> simp [Proofs.YtpbobilkejblgaaGreat.binI] at hr <;> subst hr <;> simp [binOp,Op.intArith,Op.intCmp]
theorem Y.beq {o:BinOp} {a b c:Bool} (ht:P.underlying t=some .bool) (hx:ev f x=.bool a) (hy:ev f y=.bool b) (ho:(o=.eql∧(a==b)=c) ∨ (o=.neq∧(a != b)=c)):Y P C f ⟨d,.binOp o t x y t',ty,pos,af,g⟩ (.bool c):=fun w _=>by
  rcases ho with ⟨rfl,rfl⟩|⟨rfl,rfl⟩
  · simp only [execOp,hx,hy,Sem.run_bind,eqGuard,Result.andThen_ok]
    simp [binOp,Op.equal,Op.maxDepth,run_equalIn_bool' w _ t a b ht]
  · simp only [execOp,hx,hy,Sem.run_bind,eqGuard,Result.andThen_ok]
    simp [binOp,Op.equal,Op.maxDepth,run_equalIn_bool' w _ t a b ht]
    cases a <;> cases b <;> rfl
def fieldO (P:Program) (t:TypeId) (i:Nat):Option Nat:=
  match P.underlying t with
  |some (.struct fs)=>match fs[i]? with
    |some fl=>match P.info? fl.type with
      |some inf=>if inf.size=0 then none else some fl.offset
      |none=>none
    |none=>none
  |_=>none
theorem Addr.add_eq (b o n:Nat):Addr.add ⟨b,o,none⟩ n=⟨b,o+n,none⟩:=by
  unfold Addr.add; split <;> simp_all
theorem Y.fieldAddr {i b o off:Nat} (hx:ev f x=.pointer (some ⟨b,o,none⟩)) (ht:fieldO P t i=some off):Y P C f ⟨d,.fieldAddr t x i,ty,pos,af,g⟩ (.pointer (some ⟨b,o+off,none⟩)):=fun w _=>by
  unfold fieldO at ht
  split at ht
  · rename_i fs hu
    split at ht
    · rename_i fl hf
      split at ht
      · rename_i inf hi
        split at ht
        · cases ht
        · rename_i hs
          injection ht with ht
          subst ht
          simp [execOp,hx,Instr.fieldAt,run_underlying hu,hf,Instr.sureAddr,fieldPlace,sizeOf,typeInfo,hi,hs,Addr.add_eq]
      · cases ht
    · cases ht
  · cases ht
def elemO (P:Program) (t:TypeId):Option Nat:=
  match P.underlying t with
  |some (.slice e)=>(P.info? e).map (·.size)
  |_=>none
theorem Y.indexAddr {b o n c m sz:Nat} {k:IntKind} {j:Int} (hx:ev f x=.slice (some ⟨b,o,none⟩) n c) (hi:ev f y=.int k j) (hj:j=(m:Int)) (hm:m < n) (ht:elemO P t=some sz) :
    Y P C f ⟨d,.indexAddr t x y,ty,pos,af,g⟩ (.pointer (some ⟨b,o+m * sz,none⟩)):=fun w _=>by
  subst hj
  unfold elemO at ht
  split at ht
  · rename_i e hu
    cases hinf:P.info? e with
    |none=>rw [hinf] at ht; cases ht
    |some inf=>
      rw [hinf] at ht
      simp at ht
      subst ht
      have h1:((m:Int) < (n:Int)):=by omega
      simp [execOp,hx,hi,Instr.indexAt,asIntOf,run_underlying hu,h1,sizeOf,typeInfo,hinf,Addr.add_eq]
      intro; omega
  · cases ht
def oneT (P:Program) (t:TypeId):Bool:=
  match P.underlying t with
  |some (.struct _)|some (.array ..)|none=>false
  |_=>true
theorem run_load1 {P:Program} {w:World} {A:Addr} (ht:oneT P t=true) (hc:w.cell? A=some v):(Instr.loadAt t (.pointer (some A))).run P w=.ok v w:=by
  unfold oneT at ht
  cases hu:P.underlying t with
  |none=>rw [hu] at ht; cases ht
  |some u=>cases u <;> first|(rw [hu] at ht; cases ht; done)|simp [Instr.loadAt,Instr.sureAddr,loadVar,isAgg,run_underlying hu,hc]
theorem Y.load {A:Addr} (hx:ev f x=.pointer (some A)) (ht:oneT P t=true) (hc:CellIn C A v):Y P C f ⟨d,.load t x,ty,pos,af,g⟩ v:=fun w hw=>by
  simp only [execOp,hx,Sem.run_bind,run_load1 ht (hc w hw),Result.andThen_ok]
  rfl
def aggO (P:Program) (t:TypeId):Option Nat:=
  match P.underlying t with
  |some (.struct _)=>(P.info? t).map (·.size)
  |some (.array ..)=>(P.info? t).map (·.size)
  |_=>none
def CellsIn (C:World→Prop) (b o:Nat) (cs:List Value):Prop:=∀w,C w→∀j v,cs[j]? = some v→w.cell? ⟨b,o+j,none⟩=some v
theorem run_loadN {P:Program} {w:World} {b o:Nat} {cs:List Value} (ht:aggO P t=some cs.length) (hc :∀j v,cs[j]? = some v→w.cell? ⟨b,o+j,none⟩=some v) :
    (Instr.loadAt t (.pointer (some ⟨b,o,none⟩))).run P w=.ok (.agg cs.toArray) w:=by
  unfold aggO at ht
  have key :∀u,P.underlying t=some u→(∀w,(isAgg t).run P w=.ok true w)→(P.info? t).map (·.size)=some cs.length→(Instr.loadAt t (.pointer (some ⟨b,o,none⟩))).run P w=.ok (.agg cs.toArray) w:=fun u hu ha hs=>by
    cases hi:P.info? t with
    |none=>rw [hi] at hs; cases hs
    |some inf=>
      rw [hi] at hs
      simp at hs
      have hl:=run_loadCells_list (P:=P) w ⟨b,o,none⟩ cs (fun j v hj=>by rw [Addr.add_eq]; exact hc j v hj)
      simp [Instr.loadAt,Instr.sureAddr,loadVar,ha,sizeOf,typeInfo,hi,hs,hl]
  split at ht
  · rename_i fs hu; exact key _ hu (fun w=>by simp [isAgg,run_underlying hu]) ht
  · rename_i e n hu; exact key _ hu (fun w=>by simp [isAgg,run_underlying hu]) ht
  · cases ht
theorem Y.loadN {b o:Nat} {cs:List Value} (hx:ev f x=.pointer (some ⟨b,o,none⟩)) (ht:aggO P t=some cs.length) (hc:CellsIn C b o cs):Y P C f ⟨d,.load t x,ty,pos,af,g⟩ (.agg cs.toArray):=fun w hw=>by
  simp only [execOp,hx,Sem.run_bind,run_loadN ht (hc w hw),Result.andThen_ok]
  rfl
theorem Y.extract {i:Nat} {vs:Array Value} (hx:ev f x=.tuple vs) (hi:vs[i]? = some v):Y P C f ⟨d,.extract x i,ty,pos,af,g⟩ v:=fun w _=>by
  simp [execOp,hx,Instr.extract,hi]
def sliceT (P:Program) (t:TypeId):Bool:=match P.underlying t with|some (.slice _)=>true|_=>false
def stringT (P:Program) (t:TypeId):Bool:=match P.underlying t with|some .string=>true|_=>false
theorem Y.len {A:Option Addr} {n c:Nat} (ht:sliceT P t=true) (hx:ev f x=.slice A n c):Y P C f ⟨d,.call ⟨.builtin .len,#[x],#[t]⟩,ty,pos,af,g⟩ (.int .i64 n):=fun w _=>by
  unfold sliceT at ht
  split at ht
  · rename_i e hu
    simp [execOp,resolve,invoke,builtin,hx,Builtin.len_,run_underlying hu,goInt]
  · cases ht
theorem Y.lenS {s:ByteArray} (ht:stringT P t=true) (hx:ev f x=.string s):Y P C f ⟨d,.call ⟨.builtin .len,#[x],#[t]⟩,ty,pos,af,g⟩ (.int .i64 s.size):=fun w _=>by
  unfold stringT at ht
  split at ht
  · rename_i hu
    simp [execOp,resolve,invoke,builtin,hx,Builtin.len_,run_underlying hu,goInt]
  · cases ht
/-- The cells of a struct that is built. -/
def buildO (P:Program) (t:TypeId) (parts:List (Nat × Value)):Option (Array Value):=
  match P.underlying t with
  |some (.struct fs)=>match (P.info? t).bind (·.zero) with
    |some z=>Instr.fill (fun i=>(fs[i]?).map fun fl=>(fl.offset,P.cellsOf fl.type)) z.cells parts
    |none=>none
  |_=>none
def sizedO (P:Program) (t:TypeId):Bool:=
  match P.underlying t with
  |some (.struct fs)=>fs.toList.all fun fl=>(P.info? fl.type).isSome
  |_=>false
theorem run_sizeOf_ok {w:World} {e:TypeId} (h:(P.info? e).isSome=true):(sizeOf e).run P w=.ok (P.cellsOf e) w:=by
  obtain ⟨inf,hi⟩:=Option.isSome_iff_exists.1 h
  simp [sizeOf,typeInfo,hi,Program.cellsOf]
theorem run_mapM_places {w:World} :∀(fs:List Field),(fs.all fun fl=>(P.info? fl.type).isSome)=true→
    (fs.mapM fun fl=>Prod.mk fl.offset <$> sizeOf fl.type).run P w=.ok (fs.map fun fl=>(fl.offset,P.cellsOf fl.type)) w
  |[],_=>by simp
  |fl :: fs,h=>by
    simp only [List.all_cons,Bool.and_eq_true] at h
    simp only [List.mapM_cons,Sem.run_bind,Sem.run_map,run_sizeOf_ok h.1,Result.andThen_ok,run_mapM_places fs h.2,Sem.run_pure,List.map_cons]
theorem run_build {w:World} {parts:Array (Nat × Value)} {cells:Array Value} (hs:sizedO P t=true) (hb:buildO P t parts.toList=some cells):(Instr.build t parts).run P w=.ok (.agg cells) w:=by
  unfold sizedO at hs
  unfold buildO at hb
  cases hu:P.underlying t with
  |none=>rw [hu] at hb; cases hb
  |some u=>
    rw [hu] at hb hs
    cases u <;> simp only at hb hs <;> try (cases hb; done)
    rename_i fs
    cases hi:P.info? t with
    |none=>rw [hi] at hb; cases hb
    |some inf=>
      rw [hi] at hb
      simp only [Option.bind_some] at hb
      cases hz:inf.zero with
      |none=>rw [hz] at hb; cases hb
      |some z=>
        rw [hz] at hb
        simp only at hb
        have hm:=run_mapM_places (P:=P) (w:=w) fs.toList hs
        simp [Instr.build,zeroValue,typeInfo,hi,hz,run_underlying hu]
        rw [Array.mapM_eq_mapM_toList]
        simp only [Sem.run_map,hm,Result.andThen_ok]
        simp [hb]
theorem Y.build0 {cells:Array Value} (hs:sizedO P t=true) (hb:buildO P t [] = some cells):Y P C f ⟨d,.build t #[],ty,pos,af,g⟩ (.agg cells):=fun w _=>by
  simp [execOp,run_build (parts:=#[]) hs hb]
theorem Y.build2 {x2:Operand} {i j:Nat} {v1 v2:Value} {cells:Array Value} (h0:ev f x=v1) (h1:ev f x2=v2) (hs:sizedO P t=true) (hb:buildO P t [(i,v1),(j,v2)] = some cells) :
    Y P C f ⟨d,.build t #[(i,x),(j,x2)],ty,pos,af,g⟩ (.agg cells):=fun w _=>by
  subst h0 h1
  simp [execOp,run_build (parts:=#[(i,ev f x),(j,ev f x2)]) hs hb]
end
end
section
open Go.RowKit
section
variable {P : Program} {ops : Array Oper} {C : World → Prop} {f : Nat → Value} {rest : List Oper} {Q : (Nat → Value) → World → Prop} {Qf : (Nat → Value) → Prop} {w : World}
variable {d : Option Tmp} {ty : TypeId} {pos : String} {af : Array Edge} {g : Option (Nat × Bool)} {x y : Operand} {u v : Value} {t t' : TypeId} {args : Array Operand} {vals : Array Value} {ats : Array TypeId} {gf : FuncId}
section
variable {x1 x2 x3 x4 x5 x6 : Operand} {v1 v2 v3 v4 v5 v6 : Value}
theorem am0:(#[] : Array Operand).map (ev f) = #[]:=by simp
theorem am1 (h1:ev f x1=v1) : #[x1].map (ev f) = #[v1]:=by simp [h1]
theorem am2 (h1:ev f x1=v1) (h2:ev f x2=v2) : #[x1,x2].map (ev f) = #[v1,v2]:=by simp [h1,h2]
theorem am3 (h1:ev f x1=v1) (h2:ev f x2=v2) (h3:ev f x3=v3) : #[x1,x2,x3].map (ev f) = #[v1,v2,v3]:=by simp [h1,h2,h3]
theorem pm0:(#[] : Array (Nat × Operand)).map (fun p=>(p.1,ev f p.2)) = #[]:=by simp
theorem pm1 {i1:Nat} (h1:ev f x1=v1) : #[(i1,x1)].map (fun p=>(p.1,ev f p.2)) = #[(i1,v1)]:=by simp [h1]
theorem pm2 {i1 i2:Nat} (h1:ev f x1=v1) (h2:ev f x2=v2) : #[(i1,x1),(i2,x2)].map (fun p=>(p.1,ev f p.2)) = #[(i1,v1),(i2,v2)]:=by simp [h1,h2]
end
def isGo (P:Program) (gf:FuncId):Bool:=match P.funcs[gf]? with|some fn=>!(fn.name == "runtime.NumGoroutine") && fn.body.isSome|none=>false
theorem Calls.arr {a b:Array Value} {R:Ending→World→Prop} (e:a=b) (h:Calls P gf a w R):Calls P gf b w R:=e ▸ h
theorem run_callFunc (h:isGo P gf=true):(callFunc gf vals).run P w=.ok (.enter gf vals) w:=by
  unfold isGo at h
  cases hf:P.funcs[gf]? with
  |none=>rw [hf] at h; cases h
  |some fn=>
    rw [hf] at h
    simp only [Bool.and_eq_true,Bool.not_eq_true'] at h
    obtain ⟨h1,h2⟩:=h
    have h3:fn.body.isNone=false:=by cases hb:fn.body with|none=>rw [hb] at h2; cases h2|some _=>rfl
    simp [callFunc,hf,h3]
    have h1':¬ fn.name = "runtime.NumGoroutine":=by simpa using h1
    simp [h1']
    intro hb
    rw [hb] at h2
    cases h2
theorem run_callV {caps:Array Value} {ov:Operand} (hv:ev f ov=.func (.func gf) #[] caps) (ha:args.map (ev f)=vals) (hgo:isGo P gf=true) :
    (execOp (ev f) ⟨d,.call ⟨.value ov,args,ats⟩,ty,pos,af,g⟩).run P w=.ok (.enter gf (vals ++ caps)) w:=by
  simp [execOp,resolve,hv,ha,Deferred.ofValue,invoke,run_callFunc hgo]
theorem run_call (ha:args.map (ev f)=vals) (hgo:isGo P gf=true) :
    (execOp (ev f) ⟨d,.call ⟨.value (.func gf),args,ats⟩,ty,pos,af,g⟩).run P w=.ok (.enter gf vals) w:=by
  have h:=run_callV (P:=P) (w:=w) (d:=d) (ty:=ty) (pos:=pos) (af:=af) (g:=g) (ats:=ats) (ov:=.func gf) (caps:=#[]) rfl ha hgo
  simpa using h
theorem RQ.call (hg:wantF f ops ⟨d,.call ⟨.value (.func gf),args,ats⟩,ty,pos,af,g⟩=true) (ha:args.map (ev f)=vals) (hgo:isGo P gf=true)
    (hc :∀w,C w→Calls P gf vals w fun e w'=>e=.returned v∧C w') (h:RQ P ops C Qf rest (upo f d v)):RQ P ops C Qf (⟨d,.call ⟨.value (.func gf),args,ats⟩,ty,pos,af,g⟩ :: rest) f:=
  ⟨v,.inl ⟨hg,fun w hw=>by rw [run_call ha hgo]; exact ⟨rfl,hc w hw⟩⟩,h⟩
theorem RQ.callV {ov:Operand} {caps:Array Value} (hg:wantF f ops ⟨d,.call ⟨.value ov,args,ats⟩,ty,pos,af,g⟩=true) (hv:ev f ov=.func (.func gf) #[] caps) (ha:args.map (ev f)=vals) (hgo:isGo P gf=true)
    (hc :∀w,C w→Calls P gf (vals ++ caps) w fun e w'=>e=.returned v∧C w') (h:RQ P ops C Qf rest (upo f d v)):RQ P ops C Qf (⟨d,.call ⟨.value ov,args,ats⟩,ty,pos,af,g⟩ :: rest) f:=
  ⟨v,.inl ⟨hg,fun w hw=>by rw [run_callV hv ha hgo]; exact ⟨rfl,hc w hw⟩⟩,h⟩
theorem RL.call (hg:wantF f ops ⟨d,.call ⟨.value (.func gf),args,ats⟩,ty,pos,af,g⟩=true) (ha:args.map (ev f)=vals) (hgo:isGo P gf=true)
    (hc:Calls P gf vals w fun e w'=>∃v,e=.returned v∧RL P ops Q rest (upo f d v) w'):RL P ops Q (⟨d,.call ⟨.value (.func gf),args,ats⟩,ty,pos,af,g⟩ :: rest) f w:=
  .inl ⟨hg,by rw [run_call ha hgo]; exact hc⟩
theorem RL.callV {ov:Operand} {caps:Array Value} (hg:wantF f ops ⟨d,.call ⟨.value ov,args,ats⟩,ty,pos,af,g⟩=true) (hv:ev f ov=.func (.func gf) #[] caps) (ha:args.map (ev f)=vals) (hgo:isGo P gf=true)
    (hc:Calls P gf (vals ++ caps) w fun e w'=>∃v,e=.returned v∧RL P ops Q rest (upo f d v) w'):RL P ops Q (⟨d,.call ⟨.value ov,args,ats⟩,ty,pos,af,g⟩ :: rest) f w:=
  .inl ⟨hg,by rw [run_callV hv ha hgo]; exact hc⟩
theorem Y.makeFunc {fn:Fn} {caps:Array Operand} (ha:caps.map (ev f)=vals):Y P C f ⟨d,.makeFunc fn #[] caps,ty,pos,af,g⟩ (.func fn #[] vals):=fun w _=>by
  subst ha; simp [execOp,Instr.makeFunc]
/-- A contract of a function that leaves old memory alone, in a region's class. -/
theorem bel {w:World} {K:Ending→Prop} (h :∀w',Below w.heap.size w w'→Calls P gf vals w' fun e w''=>e=.returned v∧Below w'.heap.size w' w'') :
    ∀w',Below w.heap.size w w'→Calls P gf vals w' fun e w''=>e=.returned v∧Below w.heap.size w w'':=
  fun w' hb=>(h w' hb).mono fun e w'' ⟨he,hb'⟩=>⟨he,hb.trans (hb'.mono hb.size)⟩
theorem Calls.same {R:Ending→World→Prop} (h:Calls P gf vals w fun e w'=>e=.returned v∧w=w'):Calls P gf vals w fun e w'=>e=.returned v∧Below w.heap.size w w':=
  h.mono fun e w' ⟨he,hw⟩=>⟨he,by subst hw; exact Below.refl _ _⟩
theorem below_alloc (w:World) (o:Obj):Below w.heap.size w (w.alloc o):=(Below.refl _ _).alloc (Nat.le_refl _) _
theorem RL.alloc {z:Value} (hg:wantF f ops ⟨d,.alloc t,ty,pos,af,g⟩=true) (hz:(P.info? t).bind (·.zero)=some z)
    (h :∀w1,Blk w1 w.heap.size t z.cells→Below w.heap.size w w1→w1.heap.size=w.heap.size+1→RL P ops Q rest (upo f d (.pointer (some ⟨w.heap.size,0,none⟩))) w1):RL P ops Q (⟨d,.alloc t,ty,pos,af,g⟩ :: rest) f w:=by
  refine .inl ⟨hg,?_⟩
  cases hi:P.info? t with
  |none=>rw [hi] at hz; cases hz
  |some inf=>
    rw [hi] at hz
    simp only [Option.bind_some] at hz
    have hr:(execOp (ev f) ⟨d,.alloc t,ty,pos,af,g⟩).run P w=.ok (.value (.pointer (some ⟨w.heap.size,0,none⟩))) (w.alloc (.cells z.cells t)):=by
      simp [execOp,Instr.alloc,zeroValue,typeInfo,hi,hz,newVar,newRow]
    rw [hr]
    exact h _ (Blk.new _ _ _) (below_alloc _ _) (World.size_alloc _ _)
theorem RL.box (hg:wantF f ops ⟨d,.box t x,ty,pos,af,g⟩=true) (hx:ev f x=v)
    (h :∀w1,Blk w1 w.heap.size t v.cells→Below w.heap.size w w1→w1.heap.size=w.heap.size+1→RL P ops Q rest (upo f d (.pointer (some ⟨w.heap.size,0,none⟩))) w1):RL P ops Q (⟨d,.box t x,ty,pos,af,g⟩ :: rest) f w:=by
  refine .inl ⟨hg,?_⟩
  have hr:(execOp (ev f) ⟨d,.box t x,ty,pos,af,g⟩).run P w=.ok (.value (.pointer (some ⟨w.heap.size,0,none⟩))) (w.alloc (.cells v.cells t)):=by
    simp [execOp,hx,Instr.box,newVar,newRow]
  rw [hr]
  exact h _ (Blk.new _ _ _) (below_alloc _ _) (World.size_alloc _ _)
theorem Blk.only_ {w w':World} {b:Nat} {e:TypeId} {cs:Array Value} {bs:List Nat} (h:Blk w b e cs) (ho:Only bs w w') (hb:b ∉ bs):Blk w' b e cs:=(ho.block b hb).trans h
theorem setRow_only (w:World) (b:Nat) (cs:Array Value):Only [b] w (w.setRow b cs):=
  ⟨rfl,rfl,rfl,by simp [World.setRow],fun k hk=>by
    have:¬ b=k:=fun e=>hk (by simp [e])
    simp [World.setRow,Array.getElem?_modify,this]⟩
theorem setRow_blk {w:World} {b:Nat} {e:TypeId} {cs cs':Array Value} (h:Blk w b e cs):Blk (w.setRow b cs') b e cs':=setRow_heap w b cs cs' e (0,0) h
/-- A store into a block of the call's own. -/
theorem RL.store {b o:Nat} {e:TypeId} {cs cs':Array Value} (hg:wantF f ops ⟨d,.store t x y,ty,pos,af,g⟩=true) (hx:ev f x=.pointer (some ⟨b,o,none⟩)) (hy:ev f y=v) (hb:Blk w b e cs)
    (hs:(P.info? t).map (·.size)=some v.cells.size) (h1:(v.cells.toList.all Value.oneCell')=true) (hl0:Nat.ble (o+v.cells.size) cs.size=true) (hcs:(cs.toList.take o ++ v.cells.toList ++ cs.toList.drop (o+v.cells.size)).toArray=cs')
    (h :∀w1,Blk w1 b e cs'→Only [b] w w1→RL P ops Q rest (upo f d undef) w1):RL P ops Q (⟨d,.store t x y,ty,pos,af,g⟩ :: rest) f w:=by
  have hl:=Nat.le_of_ble_eq_true hl0
  refine .inl ⟨hg,?_⟩
  cases hi:P.info? t with
  |none=>rw [hi] at hs; cases hs
  |some inf=>
    rw [hi] at hs
    simp only [Option.map_some,Option.some.injEq] at hs
    have hst:=run_storeCells_at (P:=P) b o e v.cells.toList 0 cs w hb (by simpa using hl) (fun u hu=>List.all_eq_true.1 h1 u hu)
    have hr:(execOp (ev f) ⟨d,.store t x y,ty,pos,af,g⟩).run P w=.ok .skip (w.setRow b cs'):=by
      subst hcs
      simp only [Nat.add_zero] at hst
      simp [execOp,hx,hy,Instr.storeAt,Instr.sureAddr,storeVar,sizeOf,typeInfo,hi,hs,hst]
    rw [hr]
    exact h _ (setRow_blk hb) (setRow_only _ _ _)
def bslO (P:Program) (t:TypeId) (len:Nat) (parts:List (Nat × Value)):Option (TypeId × Array Value):=
  match P.underlying t with
  |some (.slice e)=>match P.info? e with
    |some inf=>if len * inf.size > 16777216 then none else
      match (if len * inf.size=0 then some #[] else inf.zero.map (·.cells)) with
      |some zero=>(Instr.fill (fun i=>some (i * inf.size,inf.size)) ((Array.range (len * inf.size)).map (zero[· % zero.size]!)) parts).map fun cs=>(e,cs)
      |none=>none
    |none=>none
  |_=>none
theorem run_bsl {len:Nat} {parts:Array (Nat × Value)} {e:TypeId} {cells:Array Value} (hb:bslO P t len parts.toList=some (e,cells)):(Instr.buildSlice t len parts).run P w=.ok (.slice (some ⟨w.heap.size,0,none⟩) len len) (w.alloc (.cells cells e)):=by
  unfold bslO at hb
  cases hu:P.underlying t with
  |none=>rw [hu] at hb; cases hb
  |some u0=>
    rw [hu] at hb
    cases u0 <;> simp only at hb <;> try (cases hb; done)
    rename_i e'
    cases hi:P.info? e' with
    |none=>rw [hi] at hb; cases hb
    |some inf=>
      rw [hi] at hb
      simp only at hb
      split at hb
      · cases hb
      · rename_i hbig
        by_cases h0:len * inf.size=0
        · simp only [h0,if_true] at hb
          cases hf:Instr.fill (fun i=>some (i * inf.size,inf.size)) ((Array.range 0).map ((#[] : Array Value)[· % (#[] : Array Value).size]!)) parts.toList with
          |none=>rw [hf] at hb; cases hb
          |some cs=>
            rw [hf] at hb
            simp only [Option.map_some,Option.some.injEq,Prod.mk.injEq] at hb
            obtain ⟨rfl,rfl⟩:=hb
            simp at hf
            simp [Instr.buildSlice,run_underlying hu,sizeOf,typeInfo,hi,h0,newRow,hf]
        · simp only [h0,if_false] at hb
          cases hz:inf.zero with
          |none=>rw [hz] at hb; cases hb
          |some z=>
            rw [hz] at hb
            simp only [Option.map_some] at hb
            cases hf:Instr.fill (fun i=>some (i * inf.size,inf.size)) ((Array.range (len * inf.size)).map (z.cells[· % z.cells.size]!)) parts.toList with
            |none=>rw [hf] at hb; cases hb
            |some cs=>
              rw [hf] at hb
              simp only [Option.map_some,Option.some.injEq,Prod.mk.injEq] at hb
              obtain ⟨rfl,rfl⟩:=hb
              simp [Instr.buildSlice,run_underlying hu,sizeOf,typeInfo,hi,h0,hbig,zeroValue,hz,newRow,hf]
theorem RL.bslice {len:Nat} {parts:Array (Nat × Operand)} {pv:Array (Nat × Value)} {e:TypeId} {cells:Array Value} (hg:wantF f ops ⟨d,.buildSlice t len parts,ty,pos,af,g⟩=true)
    (hp:parts.map (fun p=>(p.1,ev f p.2))=pv) (hb:bslO P t len pv.toList=some (e,cells))
    (h :∀w1,Blk w1 w.heap.size e cells→Below w.heap.size w w1→w1.heap.size=w.heap.size+1→RL P ops Q rest (upo f d (.slice (some ⟨w.heap.size,0,none⟩) len len)) w1):RL P ops Q (⟨d,.buildSlice t len parts,ty,pos,af,g⟩ :: rest) f w:=by
  refine .inl ⟨hg,?_⟩
  have hr:(execOp (ev f) ⟨d,.buildSlice t len parts,ty,pos,af,g⟩).run P w=.ok (.value (.slice (some ⟨w.heap.size,0,none⟩) len len)) (w.alloc (.cells cells e)):=by
    have:=run_bsl (P:=P) (w:=w) (parts:=pv) hb
    subst hp
    simp [execOp,this]
  rw [hr]
  exact h _ (Blk.new _ _ _) (below_alloc _ _) (World.size_alloc _ _)
end
end
section
open Go.RowKit
section
variable {P : Program} {w : World} {f : Nat → Value} {n : Nat} {Q : Exit → Act → World → Prop} {K : Act → World → Prop} {a : Act} {x y : Code} {id id' : Nat} {c : Operand}
theorem then_n (h:K a w):Exit.then K Q .normal a w:=h
theorem then_r (h:Q .ret a w):Exit.then K Q .ret a w:=h
theorem then_x (h:Q (.exit id) a w):Exit.then K Q (.exit id) a w:=h
theorem blk_n (h:Q .normal a w):Exit.inBlock id Q .normal a w:=h
theorem blk_r (h:Q .ret a w):Exit.inBlock id Q .ret a w:=h
theorem blk_hit (h:Q .normal a w):Exit.inBlock id Q (.exit id) a w:=by simp only [Exit.inBlock,if_true]; exact h
theorem cond_t (hin:opIn n c=true) (hc:ev f c=.bool true) (h:x.wp P Q (Fr n f) w):(Code.cond c x y).wp P Q (Fr n f) w:=wp_cond_true ((Fr_eval hin).trans hc) h
theorem cond_f (hin:opIn n c=true) (hc:ev f c=.bool false) (h:y.wp P Q (Fr n f) w):(Code.cond c x y).wp P Q (Fr n f) w:=wp_cond_false ((Fr_eval hin).trans hc) h
theorem wp_loopF {cd:Code} (I:Nat→(Nat→Value)→World→Prop) (g0:Nat) (h0:I g0 f w)
    (round :∀g f w,I g f w→cd.wp P (Exit.then (fun a' w'=>∃g' f',g' < g∧a'=Fr n f'∧I g' f' w') Q) (Fr n f) w):(Code.loop cd).wp P Q (Fr n f) w:=by
  refine wp_loop_ghost (fun g a w=>∃f,a=Fr n f∧I g f w) g0 ⟨f,rfl,h0⟩ ?_
  rintro g a w ⟨f,rfl,h⟩
  refine Code.wp_mono ?_ (round g f w h)
  intro e a' w' hq
  cases e <;> first|exact hq|skip
  obtain ⟨g',f',h1,h2,h3⟩:=hq
  exact ⟨g',h1,f',h2,h3⟩
theorem enter {gf:FuncId} {fn:Func} {cd:Code} {args:Array Value} {R:Ending→World→Prop} (n:Nat) (hf:P.funcs[gf]? = some fn) (hb:fn.body=some cd) (hn:fn.ntmps=n) (hs:Nat.ble args.size n=true)
    (h :∀f,(∀i v,args[i]? = some v→f i=v)→cd.wp P (bodyPost P fn R) (Fr n f) w):Calls P gf args w R:=by
  refine calls_of_wp hf hb ?_
  have hs':args.size≤n:=Nat.le_of_ble_eq_true hs
  have e:({ tmps:=args ++ Array.replicate (fn.ntmps - args.size) undef,defers:=[] } : Act)=Fr n (fun i=>(args ++ Array.replicate (n - args.size) undef).getD i undef):=by
    rw [hn]
    simp only [Fr,Act.mk.injEq,and_true]
    apply Array.ext_getElem?
    intro i
    have hsz:(args ++ Array.replicate (n - args.size) undef).size=n:=by simp; omega
    by_cases hi:i < n
    · simp only [List.getElem?_toArray,List.getElem?_map,List.getElem?_range hi,Option.map_some]
      have h2:i < (args ++ Array.replicate (n - args.size) undef).size:=by rw [hsz]; exact hi
      rw [Array.getElem?_eq_getElem h2,Array.getD,dif_pos h2]
      rfl
    · have h2:(args ++ Array.replicate (n - args.size) undef).size≤i:=by rw [hsz]; omega
      rw [Array.getElem?_eq_none h2]
      simp [hi]
  rw [e]
  refine h _ fun i v hi=>?_
  have hlt:i < args.size:=(Array.getElem?_eq_some_iff.1 hi).1
  have h2:i < (args ++ Array.replicate (n - args.size) undef).size:=by simp; omega
  simp only [Array.getD,dif_pos h2]
  rw [Array.getElem?_eq_getElem hlt] at hi
  injection hi with hi
  show (args ++ Array.replicate (n - args.size) undef)[i] = v
  rw [Array.getElem_append_left hlt]
  exact hi
theorem ret1 {fn:Func} {R:Ending→World→Prop} {t:Tmp} {v:Value} (hr:fn.results = #[.tmp t]) (ht:Nat.blt t n=true) (hv:f t=v) (h:R (.returned v) w):bodyPost P fn R .ret (Fr n f) w:=
  ⟨rfl, v, by rw [results_tmp hr]; congr 1; have ht' : t < n := by simpa using ht
              simp [Fr,ht',hv],h⟩
theorem ret3 {fn:Func} {R:Ending→World→Prop} {t1 t2 t3:Tmp} {v1 v2 v3:Value} (hr:fn.results = #[.tmp t1,.tmp t2,.tmp t3]) (ht:(Nat.blt t1 n && Nat.blt t2 n && Nat.blt t3 n)=true) (hv1:f t1=v1) (hv2:f t2=v2) (hv3:f t3=v3) (h:R (.returned (.tuple #[v1,v2,v3])) w):bodyPost P fn R .ret (Fr n f) w:=
  ⟨rfl,_,by
    rw [results_tmp3 hr]
    simp only [Bool.and_eq_true] at ht
    have h1:t1 < n:=by simpa using ht.1.1
    have h2:t2 < n:=by simpa using ht.1.2
    have h3:t3 < n:=by simpa using ht.2
    simp only [Fr,Array.getD_eq_getD_getElem?,List.getElem?_toArray,List.getElem?_map,List.getElem?_range h1,List.getElem?_range h2,List.getElem?_range h3,Option.map_some,Option.getD_some,hv1,hv2,hv3],h⟩
/-- A result that lies in a variable in memory. -/
theorem retc {fn:Func} {R:Ending→World→Prop} {t:Tmp} {b o:Nat} {ty:TypeId} {cs:List Value} (hr:fn.results = #[.cell t ty]) (ht:Nat.blt t n=true) (hv:f t=.pointer (some ⟨b,o,none⟩)) (hag:aggO P ty=some cs.length)
    (hc :∀j v,cs[j]? = some v→w.cell? ⟨b,o+j,none⟩=some v) (h:R (.returned (.agg cs.toArray)) w):bodyPost P fn R .ret (Fr n f) w:=
  ⟨rfl,_,by
    have h1:t < n:=by simpa using ht
    have hl:=run_loadN (P:=P) (w:=w) hag hc
    simp only [Instr.loadAt,Instr.sureAddr,Sem.run_bind,Sem.run_pure,Result.andThen_ok,bind_pure_comp,pure_bind] at hl
    simp only [results,hr]
    simp [Fr,h1,hv,asAddr,hl],h⟩
end
section
variable {P : Program} {f : Nat → Value} {w : World} {n id : Nat} {l : List Oper} {Q : Exit → Act → World → Prop}
theorem RQ_mono {ops:Array Oper} {C:World→Prop} {Q Q':(Nat→Value)→Prop} (hq :∀f,Q f→Q' f) :∀{l:List Oper} {f:Nat→Value},RQ P ops C Q l f→RQ P ops C Q' l f
  |[],f,h=>hq f h
  |o :: rest,f,⟨v,h1,h2⟩=>⟨v,h1,RQ_mono hq h2⟩
/-- A region that only looks, at one world. -/
theorem wp_rs (hin:okAll n l=true) (h:RQ P l.toArray (· = w) (fun f'=>Q .normal (Fr n f') w) l f):(Code.region id l.toArray false).wp P Q (Fr n f) w:=
  wp_rq (· = w) rfl hin (RQ_mono (fun f' h w' e=>by rw [e]; exact h) h)
/-- A region whose calls leave old memory alone. -/
theorem wp_rb (hin:okAll n l=true) (h:RQ P l.toArray (Below w.heap.size w) (fun f'=>∀w',Below w.heap.size w w'→Q .normal (Fr n f') w') l f):(Code.region id l.toArray false).wp P Q (Fr n f) w:=
  wp_rq (Below w.heap.size w) (Below.refl _ _) hin h
theorem wp_rbd (hm:P.follows .mixedOrders=true) (hin:(okAll n l && Region.lexB .any l.toArray)=true) (h:RQ P l.toArray (Below w.heap.size w) (fun f'=>∀w',Below w.heap.size w w'→Q .normal (Fr n f') w') l f):(Code.region id l.toArray true).wp P Q (Fr n f) w:=
  wp_rq_draw (Below w.heap.size w) (Below.drew (Below.refl _ _)) hm hin h
end
end
section
open Go.RowKit
structure DPort where
  agent:Int
  slot:Int
deriving DecidableEq,Inhabited
def portRd:Rd DPort:=fun _ _ cs x=>cs=[.int .i64 x.agent,.int .i64 x.slot]
def portOw:Ow DPort:=fun _ cs x bs=>cs=[.int .i64 x.agent,.int .i64 x.slot]∧bs=[]
theorem portRd_ok:RdOk portRd 2:=⟨fun h=>by cases h; rfl,fun _ h=>h,fun _ h=>h⟩
theorem portOw_ok:OwOk portOw 2:=⟨fun h=>by rw [h.1]; rfl,fun _ h=>h⟩
theorem portOw_reads (B:Nat):Gives portOw portRd B:=fun _ _ _ _ h _=>h.1
theorem SlAt.port {w:World} {B n:Nat} {A:Option Addr} {xs:List DPort} (h:SlAt portRd 2 w B A n xs) {k:Nat} (hk:k < n) :
    ∃b off x,A=some ⟨b,off,none⟩∧b < B∧xs[k]? = some x∧w.cell? ⟨b,off+k * 2,none⟩=some (.int .i64 x.agent)∧w.cell? ⟨b,off+k * 2+1,none⟩=some (.int .i64 x.slot):=by
  obtain ⟨b,off,x,cs,e,hb,hx,rfl,hc⟩:=h.at_ hk
  exact ⟨b,off,x,e,hb,hx,(by simpa using hc 0 _ rfl),(by simpa using hc 1 _ rfl)⟩
structure DWord where
  tag:Int
  at_:Int
deriving DecidableEq,Inhabited
def wordRd:Rd DWord:=fun _ _ cs x=>cs=[.int .i64 x.tag,.int .i64 x.at_]
structure DAgent where
  kind:Int
  level:Int
  value:Int
  data:List Int
  ports:List DPort
deriving DecidableEq,Inhabited
def agentRd:Rd DAgent:=fun w B cs x=>∃(A1:Option Addr) (n1 c1:Nat) (A2:Option Addr) (n2 c2:Nat),cs=[.int .i64 x.kind,.int .i64 x.level,.int .i64 x.value,.slice A1 n1 c1,.slice A2 n2 c2]∧(SlAt intRd 1 w B A1 n1 x.data∧n1≤c1∧c1≤maxLen)∧(SlAt portRd 2 w B A2 n2 x.ports∧n2≤c2∧c2≤maxLen)
def agentOw:Ow DAgent:=fun w cs x bs=>∃(A1:Option Addr) (n1 c1:Nat) (A2:Option Addr) (n2 c2:Nat) (b1 b2:List Nat),cs=[.int .i64 x.kind,.int .i64 x.level,.int .i64 x.value,.slice A1 n1 c1,.slice A2 n2 c2]∧(OwAt intOw 1 w A1 n1 x.data b1∧n1≤c1∧c1≤maxLen)∧(OwAt portOw 2 w A2 n2 x.ports b2∧n2≤c2∧c2≤maxLen)∧bs=b1 ++ b2
theorem agentRd_ok:RdOk agentRd 5:=
  ⟨fun ⟨A1, n1, c1, A2, n2, c2, e, _⟩ => by rw [e]; rfl,
   fun hk ⟨A1,n1,c1,A2,n2,c2,e,⟨h1,r1⟩,⟨h2,r2⟩⟩=>⟨A1,n1,c1,A2,n2,c2,e,⟨h1.keep intRd_ok hk,r1⟩,⟨h2.keep portRd_ok hk,r2⟩⟩,
   fun hB ⟨A1,n1,c1,A2,n2,c2,e,⟨h1,r1⟩,⟨h2,r2⟩⟩=>⟨A1,n1,c1,A2,n2,c2,e,⟨h1.more intRd_ok hB,r1⟩,⟨h2.more portRd_ok hB,r2⟩⟩⟩
theorem agentOw_ok:OwOk agentOw 5:=
  ⟨fun ⟨A1, n1, c1, A2, n2, c2, b1, b2, e, _⟩ => by rw [e]; rfl,
   fun hb ⟨A1,n1,c1,A2,n2,c2,b1,b2,e,⟨h1,r1⟩,⟨h2,r2⟩,eb⟩=>⟨A1,n1,c1,A2,n2,c2,b1,b2,e,⟨h1.keep intOw_ok (fun k hk=>hb k (by rw [eb]; simp [hk])),r1⟩,⟨h2.keep portOw_ok (fun k hk=>hb k (by rw [eb]; simp [hk])),r2⟩,eb⟩⟩
theorem agentOw_reads (B:Nat):Gives agentOw agentRd B:=fun _ _ _ _ ⟨A1,n1,c1,A2,n2,c2,b1,b2,e,⟨h1,r1⟩,⟨h2,r2⟩,eb⟩ hb=>⟨A1,n1,c1,A2,n2,c2,e,⟨h1.reads (intOw_reads B) (fun k hk=>hb k (by rw [eb]; simp [hk])),r1⟩,⟨h2.reads (portOw_reads B) (fun k hk=>hb k (by rw [eb]; simp [hk])),r2⟩⟩
theorem SlAt.agent {w:World} {B n:Nat} {A:Option Addr} {xs:List DAgent} (h:SlAt agentRd 5 w B A n xs) {k:Nat} (hk:k < n) :
    ∃b off x A1 n1 c1 A2 n2 c2,A=some ⟨b,off,none⟩∧b < B∧xs[k]? = some x∧w.cell? ⟨b,off+k * 5,none⟩=some (.int .i64 x.kind)∧w.cell? ⟨b,off+k * 5+1,none⟩=some (.int .i64 x.level)∧w.cell? ⟨b,off+k * 5+2,none⟩=some (.int .i64 x.value)∧w.cell? ⟨b,off+k * 5+3,none⟩=some (.slice A1 n1 c1)∧w.cell? ⟨b,off+k * 5+4,none⟩=some (.slice A2 n2 c2)∧(SlAt intRd 1 w B A1 n1 x.data∧n1≤c1∧c1≤maxLen)∧(SlAt portRd 2 w B A2 n2 x.ports∧n2≤c2∧c2≤maxLen):=by
  obtain ⟨b,off,x,cs,e,hb,hx,⟨A1,n1,c1,A2,n2,c2,rfl,h1,h2⟩,hc⟩:=h.at_ hk
  exact ⟨b,off,x,A1,n1,c1,A2,n2,c2,e,hb,hx,(by simpa using hc 0 _ rfl),(by simpa using hc 1 _ rfl),(by simpa using hc 2 _ rfl),(by simpa using hc 3 _ rfl),(by simpa using hc 4 _ rfl),h1,h2⟩
def szAgent (x:DAgent):Nat:=x.data.length+x.ports.length
def szAgentS (xs:List DAgent):Nat:=xs.length+(xs.map szAgent).sum
structure DNet where
  agents:List DAgent
deriving DecidableEq,Inhabited
def netRd:Rd DNet:=fun w B cs x=>∃(A1:Option Addr) (n1 c1:Nat),cs=[.slice A1 n1 c1]∧(SlAt agentRd 5 w B A1 n1 x.agents∧n1≤c1∧c1≤maxLen)
theorem netRd_ok:RdOk netRd 1:=
  ⟨fun ⟨A1, n1, c1, e, _⟩ => by rw [e]; rfl,
   fun hk ⟨A1,n1,c1,e,⟨h1,r1⟩⟩=>⟨A1,n1,c1,e,⟨h1.keep agentRd_ok hk,r1⟩⟩,
   fun hB ⟨A1,n1,c1,e,⟨h1,r1⟩⟩=>⟨A1,n1,c1,e,⟨h1.more agentRd_ok hB,r1⟩⟩⟩
theorem SlAt.net {w:World} {B n:Nat} {A:Option Addr} {xs:List DNet} (h:SlAt netRd 1 w B A n xs) {k:Nat} (hk:k < n) :
    ∃b off x A1 n1 c1,A=some ⟨b,off,none⟩∧b < B∧xs[k]? = some x∧w.cell? ⟨b,off+k,none⟩=some (.slice A1 n1 c1)∧(SlAt agentRd 5 w B A1 n1 x.agents∧n1≤c1∧c1≤maxLen):=by
  obtain ⟨b,off,x,cs,e,hb,hx,⟨A1,n1,c1,rfl,h1⟩,hc⟩:=h.at_ hk
  exact ⟨b,off,x,A1,n1,c1,e,hb,hx,(by simpa using hc 0 _ rfl),h1⟩
def szNet (x:DNet):Nat:=szAgentS x.agents
structure DCell where
  kind:Int
  level:Int
  value:Int
  data:List Int
  words:List DWord
deriving DecidableEq,Inhabited
def cellRd:Rd DCell:=fun w B cs x=>∃(A1:Option Addr) (n1 c1:Nat) (A2:Option Addr) (n2 c2:Nat),cs=[.int .i64 x.kind,.int .i64 x.level,.int .i64 x.value,.slice A1 n1 c1,.slice A2 n2 c2]∧(SlAt intRd 1 w B A1 n1 x.data∧n1≤c1∧c1≤maxLen)∧(SlAt wordRd 2 w B A2 n2 x.words∧n2≤c2∧c2≤maxLen)
theorem SlAt.cell {w:World} {B n:Nat} {A:Option Addr} {xs:List DCell} (h:SlAt cellRd 5 w B A n xs) {k:Nat} (hk:k < n) :
    ∃b off x A1 n1 c1 A2 n2 c2,A=some ⟨b,off,none⟩∧b < B∧xs[k]? = some x∧w.cell? ⟨b,off+k * 5,none⟩=some (.int .i64 x.kind)∧w.cell? ⟨b,off+k * 5+1,none⟩=some (.int .i64 x.level)∧w.cell? ⟨b,off+k * 5+2,none⟩=some (.int .i64 x.value)∧w.cell? ⟨b,off+k * 5+3,none⟩=some (.slice A1 n1 c1)∧w.cell? ⟨b,off+k * 5+4,none⟩=some (.slice A2 n2 c2)∧(SlAt intRd 1 w B A1 n1 x.data∧n1≤c1∧c1≤maxLen)∧(SlAt wordRd 2 w B A2 n2 x.words∧n2≤c2∧c2≤maxLen):=by
  obtain ⟨b,off,x,cs,e,hb,hx,⟨A1,n1,c1,A2,n2,c2,rfl,h1,h2⟩,hc⟩:=h.at_ hk
  exact ⟨b,off,x,A1,n1,c1,A2,n2,c2,e,hb,hx,(by simpa using hc 0 _ rfl),(by simpa using hc 1 _ rfl),(by simpa using hc 2 _ rfl),(by simpa using hc 3 _ rfl),(by simpa using hc 4 _ rfl),h1,h2⟩
end
section
open Go.RowKit
def getI {α:Type} (xs:List α) (i:Int):Option α:=if 0≤i then xs[i.toNat]? else none
theorem getI_some {α:Type} {xs:List α} {i:Int} {x:α} (h:getI xs i=some x) :∃k:Nat,i=(k:Int)∧k < xs.length∧xs[k]? = some x:=by
  unfold getI at h
  split at h
  · rename_i h0
    obtain ⟨k,rfl⟩:=Int.eq_ofNat_of_zero_le h0
    exact ⟨k,rfl,lt_of_some h,h⟩
  · cases h
theorem getI_nat {α:Type} {xs:List α} {k:Nat} {x:α} (h:xs[k]? = some x):getI xs (k:Int)=some x:=by simp [getI,h]
/-- A number that fits an int64. -/
def ck (n:Int):Option Int:=if -9223372036854775808≤n∧n≤9223372036854775807 then some n else none
theorem ck_some {n m:Int} (h:ck n=some m):m=n∧-9223372036854775808≤n∧n≤9223372036854775807:=by
  unfold ck at h
  split at h
  · rename_i h0; injection h with h; exact ⟨h.symm,h0⟩
  · cases h
theorem ck_ok {n:Int} (h:-9223372036854775808≤n∧n≤9223372036854775807):ck n=some n:=if_pos h
/-- What must hold. -/
def mustP (p:Prop) [Decidable p] : Option Unit:=if p then some () else none
theorem mustP_some {p:Prop} [Decidable p] {u:Unit} (h:mustP p=some u):p:=by
  unfold mustP at h
  split at h
  · assumption
  · cases h
theorem mustP_ok {p:Prop} [Decidable p] (h:p):mustP p=some ():=if_pos h
theorem bnd {α β:Type} {x:Option α} {k:α→Option β} {r:β} (h:x.bind k=some r) :∃a,x=some a∧k a=some r:=Option.bind_eq_some_iff.1 h
theorem cT {β:Type} {b:Bool} {x y:β} {r:β} (c:b=true) (h:(bif b then x else y)=r):x=r:=by rw [c] at h; exact h
theorem cF {β:Type} {b:Bool} {x y:β} {r:β} (c:b=false) (h:(bif b then x else y)=r):y=r:=by rw [c] at h; exact h
theorem wrap_ok {n:Int} (h:-9223372036854775808≤n∧n≤9223372036854775807):IntKind.i64.wrap n=n:=IntWalk.i64_in n h
theorem binI_add {m n:Int} (h:-9223372036854775808≤m+n∧m+n≤9223372036854775807):binI .add .i64 m n=some (.int .i64 (m+n)):=by unfold binI; simp only; rw [wrap_ok h]
theorem binI_sub {m n:Int} (h:-9223372036854775808≤m - n∧m - n≤9223372036854775807):binI .sub .i64 m n=some (.int .i64 (m - n)):=by unfold binI; simp only; rw [wrap_ok h]
section
variable {f : Nat → Value} {ops : Array Oper} {d : Option Tmp} {op : Op} {ty : TypeId} {pos : String} {af : Array Edge} {j dj : Nat} {want have_ : Bool}
theorem wantT (hj:(ops[j]?).bind (·.dst)=some dj) (hv:f dj=.bool want):wantF f ops ⟨d,op,ty,pos,af,some (j,want)⟩=true:=by
  simp only [wantF,gval,hj,hv]; simp
theorem wantN (hj:(ops[j]?).bind (·.dst)=some dj) (hv:f dj=.bool have_) (hne:(have_==want)=false):wantF f ops ⟨d,op,ty,pos,af,some (j,want)⟩=false:=by
  simp only [wantF,gval,hj,hv]
  cases have_ <;> cases want <;> first|rfl|cases hne
end
theorem bcases (b:Bool):b=false ∨ b=true:=by cases b <;> simp
theorem vb {v:Value} {b b':Bool} (h:v=.bool b) (c:b=b'):v=.bool b':=by rw [h,c]
theorem vbn {v:Value} {b b' b'':Bool} (h:v=.bool (!b)) (c:b=b') (e:(!b')=b''):v=.bool b'':=by rw [h,c,e]
section
variable {α : Type} {R : Rd α} {O : Ow α} {sz : Nat} {w w' : World} {v : Value} {xs : List α} {x : α}
theorem cellT {A:Addr} {u:Value} (T:Below w.heap.size w w') (h:w.cell? A=some u):w'.cell? A=some u:=(T.cell (World.block_lt_of_cell? w A h)).trans h
/-- At the present world: a slice, a struct, a pointer to a struct. -/
def Sl (R:Rd α) (sz:Nat) (w:World) (v:Value) (xs:List α):Prop:=RdS R sz w w.heap.size v xs
def St (R:Rd α) (w:World) (v:Value) (x:α):Prop:=RdT R w w.heap.size v x
def Pt (R:Rd α) (w:World) (v:Value) (x:α):Prop:=∃b o cs,v=.pointer (some ⟨b,o,none⟩)∧b < w.heap.size∧R w w.heap.size cs x∧∀j v,cs[j]? = some v→w.cell? ⟨b,o+j,none⟩=some v
theorem Sl.at_ (ok:RdOk R sz) (h:Sl R sz w v xs) (T:Below w.heap.size w w'):Sl R sz w' v xs:=(RdS.below ok h T).more ok T.size
theorem St.at_ (ok:RdOk R sz) (h:St R w v x) (T:Below w.heap.size w w'):St R w' v x:=(RdT.below ok h T).more ok T.size
theorem Pt.at_ (ok:RdOk R sz) (h:Pt R w v x) (T:Below w.heap.size w w'):Pt R w' v x:=by
  obtain ⟨b,o,cs,e,hb,hR,hc⟩:=h
  exact ⟨b,o,cs,e,Nat.lt_of_lt_of_le hb T.size,ok.more T.size (ok.keep (fun p hp=>T.cell hp) hR),fun j v hj=>cellT T (hc j v hj)⟩
theorem SlAt.addr {B n:Nat} {A:Option Addr} (h:SlAt R sz w B A n xs) (hn:0 < n) :∃b o,A=some ⟨b,o,none⟩∧b < B:=by
  obtain ⟨b,o,e,hb,_⟩:=h.2 hn
  exact ⟨b,o,e,hb⟩
theorem SlAt.el {B n b o:Nat} (h:SlAt R sz w B (some ⟨b,o,none⟩) n xs) {k:Nat} (hx:xs[k]? = some x) :∃cs,R w B cs x∧∀j v,cs[j]? = some v→w.cell? ⟨b,o+k * sz+j,none⟩=some v:=by
  have hl:=lt_of_some hx
  obtain ⟨b',o',e,hb,hc⟩:=h.2 (by have:=h.1; omega)
  injection e with e
  injection e with e1 e2
  subst e1 e2
  exact hc k x hx
theorem SlAt.now (ok:RdOk R sz) {B n:Nat} {A:Option Addr} (h:SlAt R sz w B A n xs) (hB:B≤w.heap.size) (T:Below w.heap.size w w'):SlAt R sz w' w'.heap.size A n xs:=
  (h.below ok (T.mono hB)).more ok (Nat.le_trans hB T.size)
/-- A slice that was read, as an argument. -/
theorem slArg (ok:RdOk R sz) {n c:Nat} {A:Option Addr} (h:SlAt R sz w w.heap.size A n xs) (r:n≤c∧c≤maxLen) (T:Below w.heap.size w w'):Sl R sz w' (.slice A n c) xs:=
  ⟨A,n,c,rfl,h.now ok (Nat.le_refl _) T,r⟩
theorem ptArg (ok:RdOk R sz) {b o:Nat} {cs:List Value} (hb:b < w.heap.size) (hR:R w w.heap.size cs x) (hc :∀j v,cs[j]? = some v→w.cell? ⟨b,o+j,none⟩=some v) (T:Below w.heap.size w w'):Pt R w' (.pointer (some ⟨b,o,none⟩)) x:=
  Pt.at_ ok ⟨b,o,cs,rfl,hb,hR,hc⟩ T
theorem ptBox {g:Nat} {t:TypeId} {cs:List Value} (hb:Blk w g t cs.toArray) (hR:R w w.heap.size cs x):Pt R w (.pointer (some ⟨g,0,none⟩)) x:=
  ⟨g,0,cs,rfl,hb.lt,hR,fun j v hj=>by rw [hb.cell]; simpa using hj⟩
theorem stArg {cs:List Value} (hR:R w w.heap.size cs x):St R w (.agg cs.toArray) x:=⟨cs,rfl,hR⟩
theorem len_le {n c:Nat} (r:n≤c∧c≤maxLen):n≤9223372036854775807:=by have:=r.1; have:=r.2; unfold maxLen at this; omega
theorem blkCell {g:Nat} {t:TypeId} {cs:Array Value} {i:Nat} {u:Value} (hb:Blk w g t cs) (hu:cs[i]? = some u):w.cell? ⟨g,0+i,none⟩=some u:=by rw [Nat.zero_add,hb.cell]; exact hu
theorem blkT {g:Nat} {t:TypeId} {cs:Array Value} (hb:Blk w g t cs) (T:Below w.heap.size w w'):Blk w' g t cs:=hb.below T hb.lt
theorem blkCells {g:Nat} {t:TypeId} {cs:List Value} (hb:Blk w g t cs.toArray) :∀j v,cs[j]? = some v→w.cell? ⟨g,0+j,none⟩=some v:=fun j v hj=>blkCell hb (by simpa using hj)
theorem Tt {w w1 w2:World} (T:Below w.heap.size w w1) (h:Below w1.heap.size w1 w2):Below w.heap.size w w2:=T.trans (h.mono T.size)
theorem slNil:Sl R sz w (.slice none 0 0) []:=⟨none,0,0,rfl,SlAt.none_,Nat.le_refl _,Nat.zero_le _⟩
theorem callB {P:Program} {gf:FuncId} {vals:Array Value} {v:Value} (h:Calls P gf vals w fun e w'=>e=.returned v∧w=w'):Calls P gf vals w fun e w'=>e=.returned v∧Below w.heap.size w w':=h.mono fun e w' ⟨he,hw⟩=>⟨he,by subst hw; exact Below.refl _ _⟩
section
variable {C : World → Prop} {b o : Nat} {v0 v1 v2 v3 v4 : Value}
theorem cells1 (h0:CellIn C ⟨b,o+0,none⟩ v0):CellsIn C b o [v0]:=fun w hw j v hj=>by
  rcases j with _|j <;> simp at hj; subst hj; exact h0 w hw
theorem cells2 (h0:CellIn C ⟨b,o+0,none⟩ v0) (h1:CellIn C ⟨b,o+1,none⟩ v1):CellsIn C b o [v0,v1]:=fun w hw j v hj=>by
  rcases j with _|_|j <;> simp at hj <;> subst hj
  · exact h0 w hw
  · exact h1 w hw
theorem cells5 (h0:CellIn C ⟨b,o+0,none⟩ v0) (h1:CellIn C ⟨b,o+1,none⟩ v1) (h2:CellIn C ⟨b,o+2,none⟩ v2) (h3:CellIn C ⟨b,o+3,none⟩ v3) (h4:CellIn C ⟨b,o+4,none⟩ v4):CellsIn C b o [v0,v1,v2,v3,v4]:=fun w hw j v hj=>by
  rcases j with _|_|_|_|_|j <;> simp at hj <;> subst hj
  · exact h0 w hw
  · exact h1 w hw
  · exact h2 w hw
  · exact h3 w hw
  · exact h4 w hw
end
end
section
variable {P : Program} {w : World} {f : Nat → Value} {n xid id' : Nat} {Q : Exit → Act → World → Prop} {J : (Nat → Value) → World → Prop}
/-- What stands behind a loop's body: at the loop's own exit J is asked. -/
def hitJ (n xid:Nat) (J:(Nat→Value)→World→Prop) (Q:Exit→Act→World→Prop):Exit→Act→World→Prop
  |.exit id,a,w=>if id=xid then∃f,a=Fr n f∧J f w else Q (.exit id) a w
  |e,a,w=>Q e a w
theorem hit_r {a:Act} (h:Q .ret a w):hitJ n xid J Q .ret a w:=h
theorem hit_x {a:Act} (h :∃f,a=Fr n f∧J f w):hitJ n xid J Q (.exit xid) a w:=by simp only [hitJ,if_true]; exact h
theorem wp_loopX {cd:Code} (I:Nat→(Nat→Value)→World→Prop) (xid:Nat) (J:(Nat→Value)→World→Prop) (g0:Nat) (h0:I g0 f w) (hJ :∀f w,J f w→Q (.exit xid) (Fr n f) w)
    (round :∀g f w,I g f w→cd.wp P (Exit.then (fun a' w'=>∃g' f',g' < g∧a'=Fr n f'∧I g' f' w') (hitJ n xid J Q)) (Fr n f) w):(Code.loop cd).wp P Q (Fr n f) w:=by
  refine wp_loopF I g0 h0 fun g f w h=>Code.wp_mono ?_ (round g f w h)
  intro e a w hq
  cases e with
  |exit id=>
    have hq:hitJ n xid J Q (.exit id) a w:=hq
    show Q (.exit id) a w
    by_cases hid:id=xid
    · subst hid
      simp only [hitJ,if_true] at hq
      obtain ⟨f,rfl,hj⟩:=hq
      exact hJ f w hj
    · simp only [hitJ,hid,if_false] at hq
      exact hq
  |_=>exact hq
theorem retct {fn:Func} {R:Ending→World→Prop} {t t2:Tmp} {b o:Nat} {ty:TypeId} {cs:List Value} {v2:Value} (hr:fn.results = #[.cell t ty,.tmp t2]) (ht:(Nat.blt t n && Nat.blt t2 n)=true) (hv:f t=.pointer (some ⟨b,o,none⟩)) (hv2:f t2=v2) (hag:aggO P ty=some cs.length)
    (hc :∀j v,cs[j]? = some v→w.cell? ⟨b,o+j,none⟩=some v) (h:R (.returned (.tuple #[.agg cs.toArray,v2])) w):bodyPost P fn R .ret (Fr n f) w:=
  ⟨rfl,_,by
    simp only [Bool.and_eq_true] at ht
    have h1:t < n:=by simpa using ht.1
    have h2:t2 < n:=by simpa using ht.2
    have hl:=run_loadN (P:=P) (w:=w) hag hc
    simp only [Instr.loadAt,Instr.sureAddr,Sem.run_bind,Sem.run_pure,Result.andThen_ok,bind_pure_comp,pure_bind] at hl
    simp only [results,hr]
    simp [Fr,h1,h2,hv,hv2,asAddr,hl],h⟩
end
section
variable {P : Program} {C : World → Prop} {f : Nat → Value} {d : Option Tmp} {ty : TypeId} {pos : String} {af : Array Edge} {g : Option (Nat × Bool)} {x y : Operand} {t t' : TypeId} {us vs : Array Value} {b : Bool}
theorem Y.eqS (hx:ev f x=.agg us) (hy:ev f y=.agg vs) (he :∀w,(Op.equalIn 10000 t (.agg us) (.agg vs)).run P w=.ok b w) (hgd :∀w,(eqGuard .eql t x y (.agg us) (.agg vs)).run P w=.ok () w):Y P C f ⟨d,.binOp .eql t x y t',ty,pos,af,g⟩ (.bool b):=fun w _=>by
  simp only [execOp,hx,hy,Sem.run_bind,hgd w,Result.andThen_ok]
  simp [binOp,Op.equal,Op.maxDepth,he w]
theorem Y.neS (hx:ev f x=.agg us) (hy:ev f y=.agg vs) (he :∀w,(Op.equalIn 10000 t (.agg us) (.agg vs)).run P w=.ok b w) (hgd :∀w,(eqGuard .neq t x y (.agg us) (.agg vs)).run P w=.ok () w):Y P C f ⟨d,.binOp .neq t x y t',ty,pos,af,g⟩ (.bool (!b)):=fun w _=>by
  simp only [execOp,hx,hy,Sem.run_bind,hgd w,Result.andThen_ok]
  simp [binOp,Op.equal,Op.maxDepth,he w]
end
end
section
open Go.RowKit
def encI (x:Int):List Value:=[.int .i64 x]
def encS (x:ByteArray):List Value:=[.string x]
def encPort (x:DPort):List Value:=[.int .i64 x.agent,.int .i64 x.slot]
/-- How the elements of a type of plain cells are laid. -/
structure FlatT {α:Type} (R:Rd α) (O:Ow α) (enc:α→List Value) (sz:Nat):Prop where
  pos:0 < sz
  len :∀x,(enc x).length=sz
  rd :∀{w B cs x},R w B cs x↔cs=enc x
  ow :∀{w x},O w (enc x) x []
  one :∀x,∀v∈enc x,v.oneCell'=true
theorem fI:FlatT intRd intOw encI 1:=⟨by decide,fun _=>rfl,Iff.rfl,⟨rfl,rfl⟩,fun x v hv=>by simp [encI] at hv; subst hv; rfl⟩
theorem fS:FlatT strRd strOw encS 1:=⟨by decide,fun _=>rfl,Iff.rfl,⟨rfl,rfl⟩,fun x v hv=>by simp [encS] at hv; subst hv; rfl⟩
theorem fPort:FlatT portRd portOw encPort 2:=⟨by decide,fun _=>rfl,Iff.rfl,⟨rfl,rfl⟩,fun x v hv=>by simp [encPort] at hv; rcases hv with rfl|rfl <;> rfl⟩
section
variable {α : Type} {R : Rd α} {O : Ow α} {enc : α → List Value} {sz : Nat} {w w' : World} {lo lo' : Nat} {v : Value} {xs ys : List α} {e : TypeId}
theorem FlatT.flen (F:FlatT R O enc sz) :∀xs:List α,(xs.flatMap enc).length=xs.length * sz
  |[]=>by simp
  |x :: xs=>by simp [F.len,F.flen xs,Nat.add_mul]; omega
theorem FlatT.fone (F:FlatT R O enc sz) {xs:List α} :∀u∈xs.flatMap enc,u.oneCell'=true:=fun u hu=>by
  obtain ⟨x,_,hx⟩:=List.mem_flatMap.1 hu
  exact F.one x u hx
theorem FlatT.fget (F:FlatT R O enc sz) :∀{xs:List α} {i j:Nat} {x:α} {u:Value},xs[i]? = some x→(enc x)[j]? = some u→(xs.flatMap enc)[i * sz+j]? = some u
  |[],i,j,x,u,h,_=>by simp at h
  |y :: ys,0,j,x,u,h,hu=>by
    have:y=x:=by simpa using h
    subst this
    have hj:=lt_of_some hu
    simp only [Nat.zero_mul,Nat.zero_add,List.flatMap_cons]
    rw [List.getElem?_append_left hj]; exact hu
  |y :: ys,i+1,j,x,u,h,hu=>by
    have h':ys[i]? = some x:=by simpa using h
    have hl:(enc y).length=sz:=F.len y
    simp only [List.flatMap_cons]
    rw [List.getElem?_append_right (by rw [hl,Nat.add_mul]; omega),hl,show (i+1) * sz+j - sz=i * sz+j by rw [Nat.add_mul]; omega]
    exact F.fget h' hu
/-- A slice of the call's own from block lo on, whole (it may be appended to). -/
def OwF (e:TypeId) (enc:α→List Value) (sz:Nat) (w:World) (lo:Nat) (v:Value) (xs:List α):Prop:=w.ownsRow lo e sz v xs.length (xs.flatMap enc)
theorem OwF.below (h:OwF e enc sz w lo v xs) (hb:Below w.heap.size w w'):OwF e enc sz w' lo v xs:=by
  refine ⟨h.1,?_⟩
  rcases h.2 with h2|⟨g,cap,cur,hv,hg,hh,r⟩
  · exact .inl h2
  · exact .inr ⟨g,cap,cur,hv,hg,(hb.block g (Array.getElem?_eq_some_iff.1 hh).1).trans hh,r⟩
theorem OwF.mono (h:OwF e enc sz w lo v xs) (hl:lo'≤lo):OwF e enc sz w lo' v xs:=by
  refine ⟨h.1,?_⟩
  rcases h.2 with h2|⟨g,cap,cur,hv,hg,r⟩
  · exact .inl h2
  · exact .inr ⟨g,cap,cur,hv,by omega,r⟩
theorem OwF.nil:OwF e enc sz w lo (.slice none 0 0) ([] : List α):=⟨by simp,.inl ⟨rfl,rfl⟩⟩
theorem OwF.lit {g n:Nat} {cells:Array Value} (B:Blk w g e cells) (hg:lo≤g) (hc:cells.toList=xs.flatMap enc) (hn:n=xs.length) (hm:Nat.ble n 9223372036854775807=true) (hs:cells.size=n * sz):OwF e enc sz w lo (.slice (some ⟨g,0,none⟩) n n) xs:=by
  subst hn
  exact ⟨by rw [← hc]; simpa using hs,.inr ⟨g,xs.length,cells,rfl,hg,B,Nat.le_refl _,by have:=Nat.le_of_ble_eq_true hm; unfold maxLen; omega,hs,by rw [hc,List.take_of_length_le]; rw [← hc]; simp [hs]⟩⟩
theorem OwF.form (h:OwF e enc sz w lo v xs) :∃A c,v=.slice A xs.length c:=by
  rcases h.2 with ⟨rfl,h0⟩|⟨g,cap,cur,hv,_⟩
  · exact ⟨none,0,by rw [h0]⟩
  · exact ⟨_,_,hv⟩
theorem OwF.bound (h:OwF e enc sz w lo v xs):xs.length≤9223372036854775807:=by
  rcases h.2 with ⟨_,h0⟩|⟨g,cap,cur,hv,hg,hh,h1,h2,_⟩
  · omega
  · unfold maxLen at h2; omega
theorem OwF.own (F:FlatT R O enc sz) (h:OwF e enc sz w lo v xs):OwS O sz w v xs lo w.heap.size:=by
  rcases h.2 with ⟨rfl,h0⟩|⟨g,cap,cur,rfl,hg,hh,h1,h2,h3,h4⟩
  · have:xs=[]:=List.eq_nil_of_length_eq_zero h0
    subst this
    exact ⟨none,0,0,[],rfl,⟨rfl,.inl ⟨rfl,rfl⟩⟩,List.nodup_nil,fun b hb=>by simp at hb,Nat.le_refl _,Nat.zero_le _⟩
  · have hblk:Blk w g e cur:=hh
    refine ⟨some ⟨g,0,none⟩,_,cap,[g],rfl,⟨rfl,.inr ⟨g,0,[],rfl,rfl,?_⟩⟩,by simp,fun b hb=>by simp at hb; subst hb; exact ⟨hg,hblk.lt⟩,h1,h2⟩
    have key :∀(l:List α) (o:Nat),(∀j u,(l.flatMap enc)[j]? = some u→cur[o+j]? = some u)→ElAt O sz w g o l []:=by
      intro l
      induction l with
      |nil=>intro o _; rfl
      |cons x l ih=>
        intro o hl
        refine ⟨enc x,[],[],F.ow,hblk.csAt (fun j u hj=>hl j u ?_),rfl,ih (o+sz) (fun j u hj=>?_)⟩
        · simp only [List.flatMap_cons]
          rw [List.getElem?_append_left (lt_of_some hj)]; exact hj
        · have:=hl (sz+j) u (by
            simp only [List.flatMap_cons]
            rw [List.getElem?_append_right (by rw [F.len]; omega),F.len,show sz+j - sz=j by omega]; exact hj)
          rwa [show o+(sz+j)=o+sz+j by omega] at this
    refine key xs 0 (fun j u hj=>?_)
    rw [← h4,List.getElem?_take] at hj
    split at hj
    · simpa using hj
    · cases hj
theorem OwF.rdS (F:FlatT R O enc sz) (h:OwF e enc sz w lo v xs):RdS R sz w w.heap.size v xs:=by
  rcases h.2 with ⟨rfl,h0⟩|⟨g,cap,cur,rfl,hg,hh,h1,h2,h3,h4⟩
  · have:xs=[]:=List.eq_nil_of_length_eq_zero h0
    subst this
    exact ⟨none,0,0,rfl,SlAt.none_,Nat.le_refl _,Nat.zero_le _⟩
  · have hblk:Blk w g e cur:=hh
    refine ⟨some ⟨g,0,none⟩,_,cap,rfl,⟨rfl,fun _=>⟨g,0,rfl,hblk.lt,fun i x hx=>⟨enc x,F.rd.2 rfl,fun j u hj=>?_⟩⟩⟩,h1,h2⟩
    have hk:=F.fget hx hj
    rw [← h4,List.getElem?_take] at hk
    split at hk
    · rw [hblk.cell,Nat.zero_add]; simpa using hk
    · cases hk
theorem OwF.arg (F:FlatT R O enc sz) (h:OwF e enc sz w lo v xs):Sl R sz w v xs:=h.rdS F
theorem OwF.lt (h:OwF e enc sz w lo v xs) :∀b,v.ownBlock=some b→lo≤b∧b < w.heap.size:=World.ownsRow.lt h
/-- Another slice of the call's own while row 'row' grows. -/
theorem OwF.kept {row:Option Nat} (h:OwF e enc sz w lo v xs) (hg:w.grownBy w' row) (hne:v.ownBlock=none ∨ v.ownBlock ≠ row):OwF e enc sz w' lo v xs:=World.ownsRow.kept h hg hne
theorem OwF.only {b:Nat} (h:OwF e enc sz w lo v xs) (ho:Only [b] w w') (hne:v.ownBlock ≠ some b):OwF e enc sz w' lo v xs:=by
  refine ⟨h.1,?_⟩
  rcases h.2 with h2|⟨g,cap,cur,hv,hg,hh,r⟩
  · exact .inl h2
  · exact .inr ⟨g,cap,cur,hv,hg,(ho.block g (by intro hin; simp at hin; subst hin; exact hne (by rw [hv]; rfl))).trans hh,r⟩
theorem OwF.far {b:Nat} (h:OwF e enc sz w lo v xs) (hb:w.heap.size≤b):v.ownBlock ≠ some b:=fun hv=>by have:=(h.lt b hv).2; omega
theorem SlAt.flat (F:FlatT R O enc sz) {B n b o:Nat} (h:SlAt R sz w B (some ⟨b,o,none⟩) n xs) :∀j u,(xs.flatMap enc)[j]? = some u→w.cell? ⟨b,o+j,none⟩=some u:=fun j u hj=>by
  have hp:=F.pos
  have hlt:=lt_of_some hj
  rw [F.flen] at hlt
  have hi:j / sz < xs.length:=(Nat.div_lt_iff_lt_mul hp).2 hlt
  have hx:xs[j / sz]? = some xs[j / sz]:=List.getElem?_eq_getElem hi
  obtain ⟨cs,hR,hc⟩:=h.el hx
  obtain rfl:=F.rd.1 hR
  have hm:j % sz < (enc xs[j / sz]).length:=by rw [F.len]; exact Nat.mod_lt _ hp
  have h2:=F.fget hx (List.getElem?_eq_getElem hm)
  have e:j / sz * sz+j % sz=j:=Nat.div_add_mod' j sz
  rw [e] at h2
  rw [h2] at hj
  injection hj with hj
  have h3:=hc (j % sz) _ (List.getElem?_eq_getElem hm)
  rw [Nat.add_assoc,e,hj] at h3
  exact h3
end
/-- What is asked of a slice type that is appended to. -/
structure AppT (P:Program) (t e:TypeId) (z:Value) (sz bb:Nat):Prop where
  und:P.underlying t=some (.slice e)
  info:(P.info? e).map (fun i=>(i.zero,i.size,i.bytes))=some (some z,sz,bb)
  zs:z.cells.size=sz
  bb:bb≤256
section
variable {P : Program} {t e : TypeId} {z : Value} {sz bb : Nat} {w : World} {base : Nat}
theorem append_own2 (A:AppT P t e z sz bb) (hsz:0 < sz) {v:Value} {k:Nat} {xs:List Value} (hown:w.ownsRow base e sz v k xs) (hb:base≤w.heap.size) (ad:Addr) (m c:Nat) (news:List Value) (hl:news.length=m * sz)
    (hnews :∀j u,news[j]? = some u→w.cell? (ad.add j)=some u) (h1 :∀u∈news,u.oneCell'=true) (hk:k+m≤4294967296) (ty:TypeId) :
    ∃v' w',(Builtin.append_ #[t,t] ty #[v,.slice (some ad) m c]).run P w=.ok v' w'∧w'.ownsRow base e sz v' (k+m) (xs ++ news)∧w.grownBy w' v.ownBlock∧(∀b,v'.ownBlock=some b→v.ownBlock=some b ∨ w.heap.size≤b):=by
  obtain ⟨i0,hi,hz0,hz1,hz2⟩:=info_parts A.info
  have hby:(k+m) * bb≤140737488355328:=Nat.le_trans (Nat.mul_le_mul hk A.bb) (by decide)
  have hsm:k+m≤9223372036854775807:=by omega
  obtain ⟨v',w',hr,h2,h3,_⟩:=run_append_own (P:=P) w base t ty e i0 z sz bb A.und hi hz0 hz1 hz2 A.zs hsz v k xs hown ad m c news hl hnews h1 (by unfold maxLen; omega) hby hb
  refine ⟨v',w',hr,h2,h3,?_⟩
  subst hz1
  subst hz2
  have hxl:=hown.1
  have hl':=hl
  rcases hown.2 with ⟨rfl,rfl⟩|⟨g,cap,cur,rfl,hbg,hg,hnc,hcm,hcs,htake⟩
  · by_cases hm:m=0
    · subst hm
      have hn:news=[]:=List.eq_nil_of_length_eq_zero (by simpa using hl)
      subst hn
      have hr2:(Builtin.append_ #[t,t] ty #[.slice none 0 0,.slice (some ad) 0 c]).run P w=.ok (.slice none 0 0) w:=by
        simp [Builtin.append_,run_underlying A.und,sizeOf,typeInfo,hi,Builtin.lenOf,Builtin.firstCells,loadCells,loadCellsFrom]
      rw [hr2] at hr
      injection hr with e1 e2
      subst e1
      intro b hbk; simp [Value.ownBlock] at hbk
    · have hr2:=run_append_nil (P:=P) w t ty e i0 z A.und hi hz0 ad m c news hl hnews (by omega) (by omega) (by have hb:=hby; simp only [Nat.zero_add] at hb; omega)
      rw [hr2] at hr
      injection hr with e1 e2
      subst e1
      intro b hbk
      simp [Value.ownBlock] at hbk
      exact .inr (by omega)
  · by_cases hroom:k+m≤cap
    · have hfit:k * i0.size+news.length≤cur.size:=by rw [hl,hcs,← Nat.add_mul]; exact Nat.mul_le_mul_right _ hroom
      have hr2:=run_append_room (P:=P) w t ty e i0 A.und hi g k cap cur hg ad m c news hl hnews h1 hroom hfit
      rw [hr2] at hr
      injection hr with e1 e2
      subst e1
      intro b hbk
      exact .inl hbk
    · have holds :∀j u,xs[j]? = some u→w.cell? ((⟨g,0,none⟩:Addr).add j)=some u:=hown.cells (g:=g) rfl
      have hr2:=run_append_grow (P:=P) w t ty e i0 z A.und hi hz0 ⟨g,0,none⟩ k cap xs hown.1 holds ad m c news hl hnews (by omega) (by omega) (growslice_fits (by omega) hby)
      rw [hr2] at hr
      injection hr with e1 e2
      subst e1
      intro b hbk
      simp [Value.ownBlock] at hbk
      exact .inr (by omega)
theorem append_none (A:AppT P t e z sz bb) {v:Value} {k c:Nat} {xs:List Value} (hown:w.ownsRow base e sz v k xs) (ty:TypeId):(Builtin.append_ #[t,t] ty #[v,.slice none 0 c]).run P w=.ok v w:=by
  obtain ⟨i0,hi,hz0,hz1,hz2⟩:=info_parts A.info
  rcases hown.2 with ⟨rfl,rfl⟩|⟨g,cap,cur,rfl,_,_,hnc,_⟩
  · simp [Builtin.append_,run_underlying A.und,sizeOf,typeInfo,hi,Builtin.lenOf,Builtin.firstCells]
  · simp [Builtin.append_,run_underlying A.und,sizeOf,typeInfo,hi,Builtin.lenOf,Builtin.firstCells,hnc,storeCells]
end
section
variable {P : Program} {ops : Array Oper} {f : Nat → Value} {rest : List Oper} {Q : (Nat → Value) → World → Prop} {w : World} {d : Option Tmp} {ty : TypeId} {pos : String} {af : Array Edge} {g : Option (Nat × Bool)} {x y : Operand} {t e : TypeId} {z : Value} {sz bb : Nat}
theorem RL.append {α:Type} {R:Rd α} {O:Ow α} {enc:α→List Value} {v vy:Value} {xs ys:List α} {lo:Nat} (F:FlatT R O enc sz) (A:AppT P t e z sz bb) (hg:wantF f ops ⟨d,.call ⟨.builtin .append,#[x,y],#[t,t]⟩,ty,pos,af,g⟩=true)
    (hx:ev f x=v) (hy:ev f y=vy) (hv:OwF e enc sz w lo v xs) (hr:Sl R sz w vy ys) (hlo:lo≤w.heap.size) (hk:xs.length+ys.length≤4294967296)
    (h :∀v' w1,OwF e enc sz w1 lo v' (xs ++ ys)→w.grownBy w1 v.ownBlock→Below lo w w1→(∀b,v'.ownBlock=some b→v.ownBlock=some b ∨ w.heap.size≤b)→RL P ops Q rest (upo f d v') w1):RL P ops Q (⟨d,.call ⟨.builtin .append,#[x,y],#[t,t]⟩,ty,pos,af,g⟩ :: rest) f w:=by
  have hrun :∀v' w1,(Builtin.append_ #[t,t] ty #[v,vy]).run P w=.ok v' w1→(execOp (ev f) ⟨d,.call ⟨.builtin .append,#[x,y],#[t,t]⟩,ty,pos,af,g⟩).run P w=.ok (.value v') w1:=fun v' w1 h0=>by
    simp [execOp,resolve,invoke,builtin,hx,hy,h0]
  obtain ⟨Ay,n,c,rfl,hs,hnc,hcm⟩:=hr
  obtain rfl:=hs.len
  cases Ay with
  |none=>
    have h0:ys=[]:=by
      cases ys with
      |nil=>rfl
      |cons y0 ys=>obtain ⟨b,o,e0,_⟩:=hs.addr (by simp); cases e0
    subst h0
    refine .inl ⟨hg,?_⟩
    rw [hrun v w (append_none A hv ty)]
    exact h v w (by simpa using hv) ⟨rfl,rfl,rfl,Nat.le_refl _,fun _ _ _=>rfl⟩ (Below.refl _ _) (fun b hb=>.inl hb)
  |some ad=>
    have hcells :∀j u,(ys.flatMap enc)[j]? = some u→w.cell? (ad.add j)=some u:=fun j u hj=>by
      have hlt:=lt_of_some hj
      rw [F.flen] at hlt
      have hpos:0 < ys.length:=by
        rcases Nat.eq_zero_or_pos ys.length with h0|h0
        · rw [h0] at hlt; simp at hlt
        · exact h0
      obtain ⟨b,o,e0,_⟩:=hs.addr hpos
      injection e0 with e0
      subst e0
      rw [Addr.add_eq]
      exact hs.flat F j u hj
    obtain ⟨v',w1,h0,h1,h2,h3⟩:=append_own2 A F.pos hv hlo ad ys.length c (ys.flatMap enc) (F.flen ys) hcells F.fone hk ty
    refine .inl ⟨hg,?_⟩
    rw [hrun v' w1 h0]
    refine h v' w1 ?_ h2 ?_ h3
    · unfold OwF
      rw [List.length_append,List.flatMap_append]
      exact h1
    · exact (Below.refl lo w).grown h2 hlo (fun b hb=>(hv.lt b hb).1)
end
section
variable {α : Type} {R : Rd α} {O : Ow α} {enc : α → List Value} {sz n c lo : Nat} {w w' : World} {v v' vx vy : Value} {xs ys : List α} {e : TypeId} {A : Option Addr}
theorem OwF.sl (F:FlatT R O enc sz) (h:OwF e enc sz w lo (.slice A n c) xs):SlAt R sz w w.heap.size A n xs∧n≤c∧c≤maxLen:=by
  obtain ⟨A',n',c',he,h1,h2⟩:=h.rdS F
  injection he with e1 e2 e3
  subst e1 e2 e3
  exact ⟨h1,h2⟩
theorem OwF.cell {b k j:Nat} {x:α} {u:Value} (F:FlatT R O enc sz) (h:OwF e enc sz w lo (.slice (some ⟨b,0,none⟩) n c) xs) (hx:xs[k]? = some x) (hu:(enc x)[j]? = some u):w.cell? ⟨b,0+k * sz+j,none⟩=some u:=by
  obtain ⟨cs,hR,hc⟩:=(h.sl F).1.el hx
  obtain rfl:=F.rd.1 hR
  exact hc j u hu
theorem OwF.addr0 (h:OwF e enc sz w lo (.slice A n c) xs) (hn:0 < n) :∃b,A=some ⟨b,0,none⟩:=by
  rcases h.2 with ⟨h0,_⟩|⟨g,cap,cur,hv,_⟩
  · injection h0 with h1 h2; omega
  · injection hv with h1; exact ⟨g,h1⟩
theorem OwF.ne {b:Nat} (h:OwF e enc sz w lo v xs) (hb:b < lo):v.ownBlock ≠ some b:=fun hv=>by have:=(h.lt b hv).1; omega
theorem ne_app {b m:Nat} (hn :∀b,v'.ownBlock=some b→v.ownBlock=some b ∨ m≤b) (h:v.ownBlock ≠ some b) (hb:b < m):v'.ownBlock ≠ some b:=fun hv=>by
  rcases hn b hv with h1|h1
  · exact h h1
  · omega
/-- Two slices of the call's own lie apart. -/
def Dj (v u:Value):Prop:=∀b,v.ownBlock=some b→u.ownBlock=some b→False
theorem Dj.symm (h:Dj vx vy):Dj vy vx:=fun b h1 h2=>h b h2 h1
theorem Dj.new {m:Nat} (hv :∀b,v.ownBlock=some b→m≤b) (hx :∀b,vx.ownBlock=some b→b < m):Dj v vx:=fun b h1 h2=>by have:=hv b h1; have:=hx b h2; omega
theorem Dj.nil:Dj (.slice none 0 0) vx:=fun b h1 _=>by simp [Value.ownBlock] at h1
theorem Blk.kept {b:Nat} {t:TypeId} {cs:Array Value} (h:Blk w b t cs) (hg:w.grownBy w' v.ownBlock) (hn:v.ownBlock ≠ some b):Blk w' b t cs:=(hg.block b h.lt (fun e=>hn e.symm)).trans h
theorem litNe {b g n c:Nat} (h:b < g):(Value.slice (some ⟨g,0,none⟩) n c).ownBlock ≠ some b:=by intro e; simp [Value.ownBlock] at e; omega
theorem litGe {g n c:Nat} :∀b,(Value.slice (some ⟨g,0,none⟩) n c).ownBlock=some b→g≤b:=by intro b e; simp [Value.ownBlock] at e; omega
theorem OwF.hi (h:OwF e enc sz w lo v xs) :∀b,v.ownBlock=some b→b < w.heap.size:=fun b hb=>(h.lt b hb).2
theorem OwF.lo_ (h:OwF e enc sz w lo v xs) :∀b,v.ownBlock=some b→lo≤b:=fun b hb=>(h.lt b hb).1
def setI {α:Type} (xs:List α) (i:Int) (x:α):List α:=xs.set i.toNat x
theorem setI_nat {α:Type} (xs:List α) (k:Nat) (x:α):setI xs (k:Int) x=xs.set k x:=rfl
theorem FlatT.fset (F:FlatT R O enc sz) :∀{xs:List α} {i:Nat} {x:α},i < xs.length→(xs.set i x).flatMap enc=(xs.flatMap enc).take (i * sz) ++ enc x ++ (xs.flatMap enc).drop (i * sz+sz)
  |[],i,x,h=>by simp at h
  |y :: ys,0,x,_=>by
    have hl:(enc y).length=sz:=F.len y
    simp only [List.set_cons_zero,List.flatMap_cons,Nat.zero_mul,List.take_zero,List.nil_append,Nat.zero_add]
    rw [← hl,List.drop_left]
  |y :: ys,i+1,x,h=>by
    have hl:(enc y).length=sz:=F.len y
    have ih:=F.fset (xs:=ys) (i:=i) (x:=x) (by simpa using h)
    simp only [List.set_cons_succ,List.flatMap_cons,ih]
    rw [show (i+1) * sz=sz+i * sz by rw [Nat.add_mul]; omega,show sz+i * sz+sz=sz+(i * sz+sz) by omega]
    have e1 :∀k,List.take (sz+k) (enc y ++ ys.flatMap enc)=enc y ++ List.take k (ys.flatMap enc):=fun k=>by rw [← hl,List.take_length_add_append]
    have e2 :∀k,List.drop (sz+k) (enc y ++ ys.flatMap enc)=List.drop k (ys.flatMap enc):=fun k=>by rw [← hl,List.drop_length_add_append]
    rw [e1,e2]
    simp
end
section
variable {P : Program} {ops : Array Oper} {f : Nat → Value} {rest : List Oper} {Q : (Nat → Value) → World → Prop} {w : World} {d : Option Tmp} {ty : TypeId} {pos : String} {af : Array Edge} {g : Option (Nat × Bool)} {x y : Operand} {t e : TypeId} {z : Value} {sz bb : Nat}
theorem splice_take {β:Type} {A E:List β} {p L:Nat} (hp:p+E.length≤L) (hL:L≤A.length):(A.take p ++ E ++ A.drop (p+E.length)).take L=(A.take L).take p ++ E ++ (A.take L).drop (p+E.length):=by
  rw [List.take_take,Nat.min_eq_left (by omega),List.take_append,List.take_of_length_le (by simp; omega),List.drop_take]
  congr 2
  simp
  omega
theorem RL.storeF {α:Type} {R:Rd α} {O:Ow α} {enc:α→List Value} {v:Value} {xs:List α} {lo k n c b:Nat} {a:α} (F:FlatT R O enc sz) (hg:wantF f ops ⟨d,.store t x y,ty,pos,af,g⟩=true) (hx:ev f x=.pointer (some ⟨b,0+k * sz,none⟩)) (hy:ev f y=v)
    (hv:OwF e enc sz w lo (.slice (some ⟨b,0,none⟩) n c) xs) (hk:k < xs.length) (he:v.cells.toList=enc a) (hs:(P.info? t).map (·.size)=some sz)
    (h :∀w1,OwF e enc sz w1 lo (.slice (some ⟨b,0,none⟩) n c) (xs.set k a)→Only [b] w w1→RL P ops Q rest (upo f d undef) w1):RL P ops Q (⟨d,.store t x y,ty,pos,af,g⟩ :: rest) f w:=by
  refine .inl ⟨hg,?_⟩
  cases hi:P.info? t with
  |none=>rw [hi] at hs; cases hs
  |some inf=>
    rw [hi] at hs
    simp only [Option.map_some,Option.some.injEq] at hs
    obtain ⟨hl,hv2⟩:=hv
    rcases hv2 with ⟨h0,_⟩|⟨b',cap,cur,hv,hlo,hh,h1,h2,h3,h4⟩
    · cases h0
    · injection hv with e1 e2 e3
      injection e1 with e1
      injection e1 with e1
      subst e1 e2 e3
      have hlen:v.cells.toList.length=sz:=by rw [he,F.len]
      have hkc:k * sz+sz≤xs.length * sz:=by
        have:=Nat.mul_le_mul_right sz (show k+1≤xs.length from hk)
        rw [Nat.add_mul] at this; omega
      have hcc:xs.length * sz≤cur.size:=by rw [h3]; exact Nat.mul_le_mul_right _ h1
      have hst:=run_storeCells_at (P:=P) b (k * sz) e v.cells.toList 0 cur w hh (by rw [hlen]; omega) (fun u hu=>F.one a u (by rw [← he]; exact hu))
      have hr:(execOp (ev f) ⟨d,.store t x y,ty,pos,af,g⟩).run P w=.ok .skip (w.setRow b (cur.toList.take (k * sz) ++ v.cells.toList ++ cur.toList.drop (k * sz+v.cells.toList.length)).toArray):=by
        simp only [Nat.add_zero] at hst
        have hsz:v.cells.size=inf.size:=by rw [hs,← hlen]; simp
        simp [execOp,hx,hy,Instr.storeAt,Instr.sureAddr,storeVar,sizeOf,typeInfo,hi,hsz,hst]
      rw [hr]
      refine h _ ⟨?_,.inr ⟨b,c,_,by rw [List.length_set],hlo,setRow_heap w b cur _ e _ hh,by rw [List.length_set]; exact h1,h2,?_,?_⟩⟩ (setRow_only _ _ _)
      · rw [F.flen]
      · simp only [List.size_toArray,List.length_append,List.length_take,List.length_drop,Array.length_toList,hlen]
        rw [← h3]; omega
      · rw [F.fset hk,he,F.len,List.length_set,← h4]
        have:=splice_take (A:=cur.toList) (E:=enc a) (p:=k * sz) (L:=xs.length * sz) (by rw [F.len]; omega) (by simpa using hcc)
        rw [F.len] at this
        simpa using this
theorem flat_replicate {α:Type} {enc:α→List Value} {z0:α} (hz:z.cells.toList=enc z0) (hzs:z.cells.size=sz) (hp:0 < sz) :∀n:Nat,(madeCells z.cells (n * sz)).toList=(List.replicate n z0).flatMap enc:=by
  intro n
  apply List.ext_getElem?
  intro i
  have hlen :∀m:Nat,((List.replicate m z0).flatMap enc).length=m * sz:=fun m=>by
    induction m with
    |zero=>simp
    |succ m ih=>rw [List.replicate_succ,List.flatMap_cons,List.length_append,ih,← hz,Array.length_toList,hzs,Nat.add_mul]; omega
  have hget :∀(m i:Nat),i < m * sz→((List.replicate m z0).flatMap enc)[i]? = (enc z0)[i % sz]?:=fun m=>by
    induction m with
    |zero=>intro i hi; simp at hi
    |succ m ih=>
      intro i hi
      rw [List.replicate_succ,List.flatMap_cons]
      have hle:(enc z0).length=sz:=by rw [← hz,Array.length_toList,hzs]
      by_cases h:i < sz
      · rw [List.getElem?_append_left (by omega),Nat.mod_eq_of_lt h]
      · rw [List.getElem?_append_right (by omega),hle,ih (i - sz) (by rw [Nat.add_mul] at hi; omega)]
        congr 1
        conv=>rhs; rw [show i=i - sz+sz by omega,Nat.add_mod_right]
  by_cases hi:i < n * sz
  · rw [hget n i hi,← hz]
    simp [madeCells,hi,hzs]
    have hm:i % sz < z.cells.size:=by rw [hzs]; exact Nat.mod_lt _ hp
    simp [hm]
  · rw [List.getElem?_eq_none (by simp [madeCells]; omega),List.getElem?_eq_none (by rw [hlen]; omega)]
theorem RL.make {α:Type} {enc:α→List Value} {z0:α} {n:Nat} (A:AppT P t e z sz bb) (hp:0 < sz) (hz:z.cells.toList=enc z0) (hg:wantF f ops ⟨d,.makeSlice t x y,ty,pos,af,g⟩=true)
    (hx:ev f x=.int .i64 n) (hy:ev f y=.int .i64 n) (hn:n≤4294967296)
    (h :∀w1,OwF e enc sz w1 w.heap.size (.slice (some ⟨w.heap.size,0,none⟩) n n) (List.replicate n z0)→Below w.heap.size w w1→w1.heap.size=w.heap.size+1→RL P ops Q rest (upo f d (.slice (some ⟨w.heap.size,0,none⟩) n n)) w1):RL P ops Q (⟨d,.makeSlice t x y,ty,pos,af,g⟩ :: rest) f w:=by
  refine .inl ⟨hg,?_⟩
  have hb:bb * n≤281474976710656:=Nat.le_trans (Nat.mul_le_mul A.bb hn) (by decide)
  have hr:(execOp (ev f) ⟨d,.makeSlice t x y,ty,pos,af,g⟩).run P w=.ok (.value (.slice (some ⟨w.heap.size,0,none⟩) n n)) (w.alloc (.cells (madeCells z.cells (n * sz)) e)):=by
    simp [execOp,hx,hy,run_make_sz t e A.und A.info n hb hn w]
  rw [hr]
  have hB:=Blk.new w e (madeCells z.cells (n * sz))
  refine h _ ?_ (below_alloc _ _) (World.size_alloc _ _)
  refine ⟨?_,.inr ⟨w.heap.size,n,_,by simp,Nat.le_refl _,hB,by simp,by unfold maxLen; omega,madeCells_size _ _,?_⟩⟩
  · rw [← flat_replicate hz A.zs hp]; simp [madeCells]
  · rw [← flat_replicate hz A.zs hp,List.take_of_length_le (by simp [madeCells])]
end
end
section
open Go.RowKit
section
variable {P : Program} {ops : Array Oper} {S : World → Prop}
/-- Along an order: (number, does it only look?). -/
def RG (P:Program) (ops:Array Oper) (S:World→Prop) (Q:(Nat→Value)→World→Prop):List (Nat × Bool)→(Nat→Value)→World→Prop
  |[],f,w=>Q f w
  |(i,q) :: rest,f,w=>match ops[i]? with
    |none=>False
    |some o=>match q with
      |true=>∃v,((wantF f ops o=true∧∀w,S w→(execOp (ev f) o).run P w=.ok (.value v) w) ∨ (wantF f ops o=false∧v=undef))∧RG P ops S Q rest (upo f o.dst v) w
      |false=>(wantF f ops o=true∧OpX P (fun v w'=>S w'∧RG P ops S Q rest (upo f o.dst v) w') ((execOp (ev f) o).run P w)) ∨ (wantF f ops o=false∧S w∧RG P ops S Q rest (upo f o.dst undef) w)
def ordB (ops:Array Oper):List (Nat × Bool)→Array Bool→Bool
  |[],listed=>(Region.ready .any ops listed).isEmpty
  |(i,q) :: rest,listed=>(match q with
      |true=>(Region.ready .any ops listed).contains i && Region.free .any ops listed i
      |false=>decide (Region.ready .any ops listed=[i])) && ordB ops rest (listed.setIfInBounds i true)
theorem RG_H {n:Nat} {Q:(Nat→Value)→World→Prop} {Q':Exit→Act→World→Prop} (hQ :∀f w,Q f w→Q' .normal (Fr n f) w) (hP :∀c a w,¬ Q' (.panic c) a w) (hsel:Region.noSelect ops=true) (hok :∀(i:Nat) (o:Oper),ops[i]? = some o→okOp n ops o=true) :
    ∀(l:List (Nat × Bool)) (listed:Array Bool) (f:Nat→Value) (w:World),ordB ops l listed=true→S w→RG P ops S Q l f w→wpAnyH P .any ops Q' S l.length listed (Fr n f) w
  |[],listed,f,w,hB,hS,h=>⟨by simpa [ordB] using hB,hQ f w h⟩
  |(i,true) :: rest,listed,f,w,hB,hS,h=>by
    simp only [ordB,Bool.and_eq_true] at hB
    obtain ⟨⟨hr,hf⟩,hB⟩:=hB
    unfold RG at h
    cases ho:ops[i]? with
    |none=>rw [ho] at h; exact h.elim
    |some o=>
      rw [ho] at h
      obtain ⟨v,h1,h2⟩:=h
      have hk:=hok i o ho
      refine wpAnyH_take ho hsel hf hr (fun c a w h=>absurd h (hP c _ w)) ?_ hS (v:=v) ?_
      · rcases h1 with ⟨hw,h1⟩|⟨hw,e⟩
        · exact .inl ⟨by rw [Fr_wanted hk]; exact hw,fun w hw'=>by rw [Fr_exec hk]; exact h1 w hw'⟩
        · exact .inr ⟨by rw [Fr_wanted hk]; exact hw,e⟩
      · rw [Fr_put]
        exact RG_H hQ hP hsel hok rest _ _ w hB hS h2
  |(i,false) :: rest,listed,f,w,hB,hS,h=>by
    simp only [ordB,Bool.and_eq_true,decide_eq_true_eq] at hB
    obtain ⟨hr,hB⟩:=hB
    unfold RG at h
    cases ho:ops[i]? with
    |none=>rw [ho] at h; exact h.elim
    |some o=>
      rw [ho] at h
      have hk:=hok i o ho
      refine wpAnyH_all hr (by simp) fun j hj=>?_
      obtain rfl:j=i:=by simpa using hj
      unfold wpOp
      rw [ho]
      simp only
      rw [Fr_wanted hk]
      have key :∀v w',S w'∧RG P ops S Q rest (upo f o.dst v) w'→S w'∧wpAnyH P .any ops Q' S rest.length (listed.setIfInBounds j true) ((Fr n f).put o.dst v) w':=fun v w' ⟨h1,h2⟩=>
        ⟨h1,by rw [Fr_put]; exact RG_H hQ hP hsel hok rest _ _ w' hB h1 h2⟩
      rcases h with ⟨hw,h⟩|⟨hw,h1,h2⟩
      · rw [hw,if_pos rfl]
        left
        unfold Oper.wp
        rw [Fr_exec hk]
        refine OpX_wp ?_
        revert h
        generalize (execOp (ev f) o).run P w=r
        intro h
        cases r with
        |ok nx w'=>
          cases nx <;> simp only [OpX] at h ⊢ <;> try exact key _ _ h
          case enter g args=>exact h.mono fun e w'' ⟨v,he,hk⟩=>⟨v,he,key _ _ hk⟩
        |halt x w'=>simp only [OpX] at h
      · rw [hw,if_neg (by decide)]
        exact key _ _ ⟨h1,h2⟩
/-- Q, but 'False' at a panic. -/
def noP (Q:Exit→Act→World→Prop):Exit→Act→World→Prop
  |.panic _,_,_=>False
  |e,a,w=>Q e a w
theorem wp_rg {id n:Nat} {l:List Oper} {f:Nat→Value} {w:World} {Q:Exit→Act→World→Prop} (S:World→Prop) (ord:List (Nat × Bool)) (hm:P.follows .mixedOrders=true)
    (hin:(okAll n l && Region.noSelect l.toArray && decide (ord.length=l.length) && ordB l.toArray ord (Array.replicate l.length false))=true)
    (h :∀w1,Below w.heap.size w w1→w1.heap.size=w.heap.size→S w1∧RG P l.toArray S (fun f' w'=>Q .normal (Fr n f') w') ord f w1):(Code.region id l.toArray true).wp P Q (Fr n f) w:=by
  simp only [Bool.and_eq_true,decide_eq_true_eq] at hin
  obtain ⟨⟨⟨h1,h2⟩,h3⟩,h4⟩:=hin
  refine Code.wp_mono (Q:=noP Q) (fun e a w hq=>by cases e <;> first|exact hq|exact hq.elim) ?_
  refine wp_region_held (S:=S) hm ?_
  obtain ⟨hS,hR⟩:=h { w with drawn:=w.drawn+1 } ⟨rfl,rfl,rfl,Nat.le_refl _,fun _ _=>rfl⟩ rfl
  have:=RG_H (Q':=noP Q) (n:=n) (fun f w h=>h) (fun c a w h=>h) h2 (fun i o ho=>List.all_eq_true.1 h1 o (by
    have:l[i]? = some o:=by simpa using ho
    exact List.mem_of_getElem? this)) ord _ f _ h4 hS hR
  rw [h3] at this
  simpa using this
variable {Q : (Nat → Value) → World → Prop} {rest : List (Nat × Bool)} {f : Nat → Value} {w : World} {i : Nat} {o : Oper}
theorem RG.nil (h:Q f w):RG P ops S Q [] f w:=h
theorem RG.y {v:Value} (ho:ops[i]? = some o) (hg:wantF f ops o=true) (hy:Y P S f o v) (h:RG P ops S Q rest (upo f o.dst v) w):RG P ops S Q ((i,true) :: rest) f w:=by
  unfold RG; rw [ho]; exact ⟨v,.inl ⟨hg,hy⟩,h⟩
theorem RG.skip (ho:ops[i]? = some o) (hg:wantF f ops o=false) (h:RG P ops S Q rest (upo f o.dst undef) w):RG P ops S Q ((i,true) :: rest) f w:=by
  unfold RG; rw [ho]; exact ⟨undef,.inr ⟨hg,rfl⟩,h⟩
/-- An operation that acts: by its law for lists, what follows with S shown anew. -/
theorem RG.act (ho:ops[i]? = some o) (h:RL P ops (fun f' w'=>S w'∧RG P ops S Q rest f' w') [o] f w):RG P ops S Q ((i,false) :: rest) f w:=by
  unfold RG
  rw [ho]
  unfold RL at h
  rcases h with ⟨hw,h⟩|⟨hw,h⟩
  · exact .inl ⟨hw,h⟩
  · exact .inr ⟨hw,h.1,h.2⟩
end
end
section
open Go.RowKit
theorem spec_HasLevel (k:Int) (w:World):Calls Tryz.prog 272 #[.int .i64 k] w fun e w'=>e=.returned (.bool (hasLevel k))∧w=w':=by
  go_enter Tryz.func272,Tryz.ntmps272
  go_wp2
  all_goals go_ret
  all_goals refine ⟨retB ?_,rfl⟩
  all_goals (simp only [beq_iff_eq,beq_eq_false_iff_ne] at *)
  all_goals (rw [Bool.eq_iff_iff]; simp [hasLevel]; try omega)
theorem impl_isKind (k:Int) (w:World):Calls Tryz.prog 266 #[.int .i64 k] w fun e w'=>e=.returned (.bool (isKind k))∧w=w':=by
  go_enter Tryz.func266,Tryz.ntmps266
  go_wp2
  all_goals go_ret
  all_goals refine ⟨retB ?_,rfl⟩
  all_goals (rw [Bool.eq_iff_iff]; simp [isKind]; try omega)
theorem impl_HasLevel (k:Int) (w:World):Calls Tryz.prog 267 #[.int .i64 k] w fun e w'=>e=.returned (.bool (hasLevel k))∧w=w':=by
  go_enter Tryz.func267,Tryz.ntmps267
  go_wp2_with (go_at_call 266; refine (impl_isKind _ _).mono ?_; rintro e w' ⟨rfl,rfl⟩)
  all_goals go_ret
  all_goals refine ⟨retB ?_,rfl⟩
  all_goals (rw [Bool.eq_iff_iff]; simp_all [hasLevel,isKind]; try omega)
theorem spec_l00In (n lo hi:Int) (w:World):Calls Tryz.prog 175 #[.int .i64 n,.int .i64 lo,.int .i64 hi] w fun e w'=>e=.returned (.bool (inR n lo hi))∧w=w':=by
  go_enter Tryz.func175,Tryz.ntmps175
  go_wp2
  all_goals go_ret
  all_goals refine ⟨retB ?_,rfl⟩
  all_goals (rw [Bool.eq_iff_iff]; simp_all [inR]; try omega)
theorem spec_l10Kind (k:Int) (w:World):Calls Tryz.prog 273 #[.int .i64 k] w fun e w'=>e=.returned (.bool (isKind k))∧w=w':=by
  go_enter Tryz.func273,Tryz.ntmps273
  go_wp2_with (go_at_call 175; refine (spec_l00In _ _ _ _).mono ?_; rintro e w' ⟨rfl,rfl⟩)
  all_goals go_ret
  all_goals exact ⟨retB rfl,rfl⟩
theorem impl_isLevel (k:Int) (w:World):Calls Tryz.prog 268 #[.int .i64 k] w fun e w'=>e=.returned (.bool (isLevel k))∧w=w':=by
  go_enter Tryz.func268,Tryz.ntmps268
  go_wp2
  all_goals go_ret
  all_goals refine ⟨retB ?_,rfl⟩
  all_goals (rw [Bool.eq_iff_iff]; simp_all [isLevel]; try omega)
theorem spec_l10Level (k l:Int) (w:World):Calls Tryz.prog 262 #[.int .i64 k,.int .i64 l] w fun e w'=>e=.returned (.bool (allowed k l))∧w=w':=by
  go_enter Tryz.func262,Tryz.ntmps262
  go_wp2_with (first|(go_at_call 272; refine (spec_HasLevel _ _).mono ?_; rintro e w' ⟨rfl,rfl⟩)|(go_at_call 175; refine (spec_l00In _ _ _ _).mono ?_; rintro e w' ⟨rfl,rfl⟩)|(go_at_call 273; refine (spec_l10Kind _ _).mono ?_; rintro e w' ⟨rfl,rfl⟩))
  all_goals go_ret
  all_goals refine ⟨retB ?_,rfl⟩
  all_goals (rw [Bool.eq_iff_iff]; simp_all [allowed,isKind,hasLevel,isLevel,inR]; try omega)
theorem impl_isAllowed (k l:Int) (w:World):Calls Tryz.prog 243 #[.int .i64 k,.int .i64 l] w fun e w'=>e=.returned (.bool (allowed k l))∧w=w':=by
  go_enter Tryz.func243,Tryz.ntmps243
  go_wp2_with (first|(go_at_call 267; refine (impl_HasLevel _ _).mono ?_; rintro e w' ⟨rfl,rfl⟩)|(go_at_call 266; refine (impl_isKind _ _).mono ?_; rintro e w' ⟨rfl,rfl⟩)|(go_at_call 268; refine (impl_isLevel _ _).mono ?_; rintro e w' ⟨rfl,rfl⟩))
  all_goals go_ret
  all_goals refine ⟨retB ?_,rfl⟩
  all_goals (rw [Bool.eq_iff_iff]; simp_all [allowed,isKind,hasLevel,isLevel]; try omega)
theorem spec_PortsOf (k f:Int) (w:World):Calls Tryz.prog 260 #[.int .i64 k,.int .i64 f] w fun e w'=>e=.returned (.int .i64 (portsOf k f))∧w=w':=by
  go_enter Tryz.func260,Tryz.ntmps260
  go_wp2_with (go_at_call 175; refine (spec_l00In _ _ _ _).mono ?_; rintro e w' ⟨rfl,rfl⟩)
  all_goals go_ret
  all_goals refine ⟨retI ?_,rfl⟩
  all_goals (first|grind [portsOf,inR]|(unfold wrap64; grind [portsOf,inR]))
theorem ports_idx (k:Int) (h1:1≤k) (h2:k≤12) (h9:k ≠ 9) (w:World) :
    (Instr.index 305 (.agg #[.int .i64 0,.int .i64 1,.int .i64 3,.int .i64 3,.int .i64 3,.int .i64 1,.int .i64 1,.int .i64 3,.int .i64 2,.int .i64 0,.int .i64 2,.int .i64 2,.int .i64 1]) (.int .i64 k)).run Tryz.prog w=.ok (.int .i64 (portsOf k 0)) w:=by
  have hk:k=1 ∨ k=2 ∨ k=3 ∨ k=4 ∨ k=5 ∨ k=6 ∨ k=7 ∨ k=8 ∨ k=10 ∨ k=11 ∨ k=12:=by omega
  rcases hk with rfl|rfl|rfl|rfl|rfl|rfl|rfl|rfl|rfl|rfl|rfl <;> (show _=_; kernel_rfl)
theorem impl_PortsOf (k f:Int) (w:World):Calls Tryz.prog 241 #[.int .i64 k,.int .i64 f] w fun e w'=>e=.returned (.int .i64 (portsOf k f))∧w=w':=by
  by_cases h9:k=9
  · subst h9
    go_enter Tryz.func241,Tryz.ntmps241
    go_wp2_with (go_at_call 266; refine (impl_isKind _ _).mono ?_; rintro e w' ⟨rfl,rfl⟩)
    all_goals go_ret
    all_goals refine ⟨retI ?_,rfl⟩
    all_goals grind [portsOf]
  · have h9':(k==9)=false:=by simp [h9]
    by_cases hk:1≤k∧k≤12
    · obtain ⟨h1,h2⟩:=hk
      have hx:=ports_idx k h1 h2 h9
      have hik:isKind k=true:=by simp [isKind]; omega
      by_cases hf:f=0
      · subst hf
        go_enter Tryz.func241,Tryz.ntmps241
        go_wp2_with (go_at_call 266; refine (impl_isKind _ _).mono ?_; rintro e w' ⟨rfl,rfl⟩)
        all_goals go_ret
        all_goals exact ⟨rfl,rfl⟩
      · have hf':(f != 0)=true:=by simp [hf]
        go_enter Tryz.func241,Tryz.ntmps241
        go_wp2_with (go_at_call 266; refine (impl_isKind _ _).mono ?_; rintro e w' ⟨rfl,rfl⟩)
        all_goals go_ret
        all_goals refine ⟨retI ?_,rfl⟩
        all_goals grind [portsOf]
    · have hik:isKind k=false:=by simp [isKind]; omega
      go_enter Tryz.func241,Tryz.ntmps241
      go_wp2_with (go_at_call 266; refine (impl_isKind _ _).mono ?_; rintro e w' ⟨rfl,rfl⟩)
      all_goals go_ret
      all_goals refine ⟨retI ?_,rfl⟩
      all_goals grind [portsOf]
end
section
open Go.RowKit
theorem eqInt64S_c (A C:Option Addr) (n c m d:Nat) (xs ys:List Int) (w:World) {B:Nat} (hx:SlAt intRd 1 w B A n xs) (hy:SlAt intRd 1 w B C m ys) (hn:n≤9223372036854775807) (hm:m≤9223372036854775807) :
    Calls Tryz.prog 26 #[.slice A n c,.slice C m d] w fun e w'=>e=.returned (.bool (eqL xs ys))∧∃q,w'=w.drewN q:=by
  have lx:=Lib.hid hx.len
  have ly:=Lib.hid hy.len
  by_cases hnm:n=m
  · subst hnm
    go_enter Tryz.func26,Tryz.ntmps26
    go_wp2
    go_loopw [5] (fun i wr=>∃k:Nat,k≤n∧i=.int .i64 k∧Hid (xs.take k=ys.take k)∧Hid (∃q,wr=w.drewN q)) (fun i _=>n - (intOf i).toNat)
    case atStart=>exact ⟨0,by omega,rfl,rfl,⟨0,rfl⟩⟩
    case round=>
      obtain ⟨k,hk,rfl,ht,hq⟩:=hrel
      by_cases hlt:k < n
      · obtain ⟨b,off,x,rfl,hb,hxk,hc⟩:=hx.int hlt
        obtain ⟨b',off',y,rfl,hb',hyk,hc'⟩:=hy.int hlt
        have Hxk:=Lib.hid hxk
        have Hyk:=Lib.hid hyk
        clear hxk hyk
        obtain ⟨q,rfl⟩:=hq
        by_cases hxy:x=y
        · have hf:(x != y)=false:=by simp [hxy]
          have Hxy:=Lib.hid hxy
          clear hxy
          go_wp2
          go_quiet (fail)
          go_wp2
          go_roundw
          case rel=>exact ⟨k+1,by omega,by go_num,eqL_step Hxk.out Hyk.out ht.out Hxy.out,⟨_,rfl⟩⟩
          case measure=>simp [intOf]; omega
        · have hf:(x != y)=true:=by simp [hxy]
          have Hno:=Lib.hid (eqL_no Hxk.out Hyk.out hxy)
          clear hxy
          go_wp2
          go_quiet (fail)
          go_wp2
          go_ret
          exact ⟨by rw [Hno.out]; rfl,(by first|exact ⟨_,rfl⟩|exact ⟨_,World.drewN_drewN _ _ _⟩)⟩
      · have Hyes:=Lib.hid (eqL_yes (k:=k) ht.out (by have:=lx.out; omega) (by have:=ly.out; omega))
        obtain ⟨q,rfl⟩:=hq
        go_wp2
        go_ret
        exact ⟨by rw [Hyes.out]; rfl,⟨_,rfl⟩⟩
  · have Hno:=Lib.hid (eqL_len (xs:=xs) (ys:=ys) (by have:=lx.out; have:=ly.out; omega))
    have hf:((n:Int) != (m:Int))=true:=by simp; omega
    go_enter Tryz.func26,Tryz.ntmps26
    go_wp2
    go_ret
    exact ⟨by rw [Hno.out]; rfl,⟨0,rfl⟩⟩
end
section
open Go.RowKit
theorem eqInt64S_v (v u:Value) (xs ys:List Int) (w:World) {B B':Nat} (h:RdS intRd 1 w B v xs) (h':RdS intRd 1 w B' u ys) (hB:B≤w.heap.size) (hB':B'≤w.heap.size) :
    Calls Tryz.prog 26 #[v,u] w fun e w'=>e=.returned (.bool (eqL xs ys))∧Below w.heap.size w w':=by
  obtain ⟨A,n,c,rfl,h,hnc,hcm⟩:=h
  obtain ⟨C,m,d,rfl,h',hmd,hdm⟩:=h'
  refine (eqInt64S_c A C n c m d xs ys w (h.more intRd_ok (Nat.le_max_left B B')) (h'.more intRd_ok (Nat.le_max_right B B')) (by unfold maxLen at hcm; omega) (by unfold maxLen at hdm; omega)).mono ?_
  rintro e w' ⟨rfl,q,rfl⟩
  exact ⟨rfl,⟨rfl,rfl,rfl,Nat.le_refl _,fun _ _=>rfl⟩⟩
end
section
open Go.RowKit
@[go_sem] theorem eqPort_run (a b c d:Int) (w:World):(Op.equalIn 10000 161 (.agg #[.int .i64 a,.int .i64 b]) (.agg #[.int .i64 c,.int .i64 d])).run Tryz.prog w=.ok (a==c && b==d) w:=by
  have u3:=Tryz.underlying2
  have hS:Tryz.prog.underlying 161=some (.struct (Tryz.prog.fieldsOf 161)):=by kernel_rfl
  have hp:Tryz.prog.stoodInHeld 161=false:=by kernel_rfl
  rw [show (10000:Nat)=9999+1 from rfl,run_equalIn_agg w 9999 161 _ _ hS hp]
  simp only [Program.fieldsOf,Tryz.underlying161]
  go_simp
  by_cases h1:a=c <;> by_cases h2:b=d <;> simp [h1,h2]
@[go_sem] theorem eqGuardPort_run (op:BinOp) (x y:Operand) (xs ys:Array Value) (w:World):(eqGuard op 161 x y (.agg xs) (.agg ys)).run Tryz.prog w=.ok () w:=run_eqGuard_agg w op 161 x y xs ys (by kernel_rfl)
end
section
open Go.RowKit
set_option maxRecDepth 100000
def m_spec_l11Fields (d0:DAgent):Option Int:=
  (bif (d0.kind==9) then ((ck ((d0.ports.length:Int) - 1)).bind fun s4=>some s4) else some 0)
set_option maxHeartbeats 2000000 in
theorem c_m_spec_l11Fields (d0:DAgent) (r:Int) (hm:m_spec_l11Fields d0=some r) (v0:Value) (w:World) (hv0:Pt agentRd w v0 d0) :
    Calls Tryz.prog 261 #[v0] w fun e w'=>e=.returned (.int .i64 r)∧Below w.heap.size w w':=by
  obtain ⟨ba0,oa0,csa0,rfl,hba0,hRa0,hca0⟩:=hv0
  have hSa0:=hRa0
  obtain ⟨A1,n1,c1,A2,n2,c2,rfl,⟨h1,r1⟩,⟨h2,r2⟩⟩:=hRa0
  have e1:=h1.len; subst e1
  have q1:=len_le r1
  have e2:=h2.len; subst e2
  have q2:=len_le r2
  have T:=Below.refl w.heap.size w
  unfold m_spec_l11Fields at hm
  refine enter 14 Tryz.func261 rfl rfl rfl ?_
  intro f hf
  have s0:f 0=.pointer (some ⟨ba0,oa0,none⟩):=hf 0 _ rfl
  refine wp_seq<|wp_rs rfl<|RQ.y rfl (Y.assign (v:=.int .i64 0) rfl)<|RQ.nil<|then_n<|wp_seq<|wp_seq<|wp_rs rfl<|RQ.y rfl (Y.move (v:=.pointer (some ⟨ba0,oa0,none⟩)) s0)<|RQ.y rfl (Y.nilCheck rfl)<|RQ.y rfl (Y.fieldAddr (off:=0) rfl (by kernel_rfl))<|RQ.y rfl (Y.load (v:=.int .i64 d0.kind) rfl (by kernel_rfl) (eqC (cellT T (hca0 0 _ rfl))))<|RQ.y rfl (Y.binI (v:=.bool (d0.kind==9)) rfl rfl rfl)<|RQ.nil<|then_n ?_
  rcases bcases (d0.kind==9) with c3|c3
  ·replace hm:=cF c3 hm
   refine cond_f rfl (vb rfl c3)<|wp_skip<|then_n<|wp_seq<|wp_rs rfl<|RQ.y rfl (Y.assign (v:=.int .i64 0) rfl)<|RQ.nil<|then_n<|wp_ret ?_
   obtain rfl:=sj hm
   exact (ret1 rfl rfl rfl ⟨rfl,T⟩)
  replace hm:=cT c3 hm
  refine cond_t rfl (vb rfl c3)<|wp_seq<|wp_rs rfl<|RQ.y rfl (Y.move (v:=.pointer (some ⟨ba0,oa0,none⟩)) s0)<|RQ.y rfl (Y.nilCheck rfl)<|RQ.y rfl (Y.fieldAddr (off:=4) rfl (by kernel_rfl))<|RQ.y rfl (Y.load (v:=.slice A2 d0.ports.length c2) rfl (by kernel_rfl) (eqC (cellT T (hca0 4 _ rfl))))<|RQ.y rfl (Y.len (by kernel_rfl) rfl) ?_
  obtain ⟨s4,ks4,hm⟩:=bnd hm
  replace ks4:=ck_some ks4
  refine RQ.y rfl (Y.binI (v:=.int .i64 s4) rfl rfl (by rw [binI_sub ks4.2,ks4.1]))<|RQ.y rfl (Y.assign (v:=.int .i64 s4) rfl)<|RQ.nil<|then_n<|wp_ret ?_
  obtain rfl:=sj hm
  exact (then_r (ret1 rfl rfl rfl ⟨rfl,T⟩))
def m_spec_l11Def (d0:Int):Option Bool:=
  some (inR d0 0 23)
set_option maxHeartbeats 2000000 in
theorem c_m_spec_l11Def (d0:Int) (r:Bool) (hm:m_spec_l11Def d0=some r)  (w:World)  :
    Calls Tryz.prog 274 #[.int .i64 d0] w fun e w'=>e=.returned (.bool r)∧Below w.heap.size w w':=by
  have T:=Below.refl w.heap.size w
  unfold m_spec_l11Def at hm
  refine enter 5 Tryz.func274 rfl rfl rfl ?_
  intro f hf
  have s0:f 0=.int .i64 d0:=hf 0 _ rfl
  refine wp_seq<|wp_rs rfl<|RQ.y rfl (Y.assign (v:=.bool false) rfl)<|RQ.nil<|then_n<|wp_seq<|wp_rb rfl<|RQ.y rfl (Y.move (v:=.int .i64 d0) s0)<|RQ.call rfl (am3 rfl rfl rfl) (by kernel_rfl) (v:=.bool (inR d0 0 23)) (bel (K:=fun _=>True) fun w' hb'=>(callB (spec_l00In d0 0 23 w')))<|RQ.y rfl (Y.assign (v:=.bool (inR d0 0 23)) rfl)<|RQ.nil ?_
  intro w1 hb2
  have szw1:=hb2.size
  have T:=Tt T hb2
  refine then_n<|wp_ret ?_
  obtain rfl:=sj hm
  exact (ret1 rfl rfl rfl ⟨rfl,T⟩)
def m_spec_l11Content_A1:Option Bool:=
  some true
def m_spec_l11Content_B1 (d0:DAgent) (rec1:Int→Option Bool) (K1:Option Bool) (i16:Int):Option Bool:=
  (bif (decide (i16 < (d0.data.length:Int))) then ((getI d0.data i16).bind fun x19=>((m_spec_l11Def x19).bind fun y28=>(bif y28 then (rec1 (i16+1)) else some false))) else (K1))
def m_spec_l11Content_L1 (d0:DAgent) (K1:Option Bool):Nat→Int→Option Bool
  |0,_=>none
  |g+1,i16=>m_spec_l11Content_B1 d0 (m_spec_l11Content_L1 d0 K1 g) K1 i16
def m_spec_l11Content_A2:Option Bool:=
  some true
def m_spec_l11Content_B2 (d0:DAgent) (rec2:Int→Option Bool) (K2:Option Bool) (i44:Int):Option Bool:=
  (bif (decide (i44 < (d0.data.length:Int))) then ((getI d0.data i44).bind fun x47=>((m_spec_l11Def x47).bind fun y56=>(bif y56 then (rec2 (i44+1)) else some false))) else (K2))
def m_spec_l11Content_L2 (d0:DAgent) (K2:Option Bool):Nat→Int→Option Bool
  |0,_=>none
  |g+1,i44=>m_spec_l11Content_B2 d0 (m_spec_l11Content_L2 d0 K2 g) K2 i44
def m_spec_l11Content_A3:Option Bool:=
  some true
def m_spec_l11Content_B3 (d0:DAgent) (rec3:Int→Option Bool) (K3:Option Bool) (i67:Int):Option Bool:=
  (bif (decide (i67 < (d0.data.length:Int))) then ((getI d0.data i67).bind fun x70=>((m_spec_l11Def x70).bind fun y79=>(bif y79 then (rec3 (i67+1)) else some false))) else (K3))
def m_spec_l11Content_L3 (d0:DAgent) (K3:Option Bool):Nat→Int→Option Bool
  |0,_=>none
  |g+1,i67=>m_spec_l11Content_B3 d0 (m_spec_l11Content_L3 d0 K3 g) K3 i67
def m_spec_l11Content (d0:DAgent):Option Bool:=
  (bif (d0.kind==6) then (bif ((d0.data.length:Int)==0) then some (inR d0.value (-2147483648) 2147483647) else some false) else (bif (d0.kind==7) then (bif ((d0.data.length:Int)==0) then some (inR d0.value 1 6) else some false) else (bif (d0.kind==8) then (bif ((d0.data.length:Int)==1) then (bif (inR d0.value 1 6) then ((getI d0.data 0).bind fun x107=>some (inR x107 (-2147483648) 2147483647)) else some false) else some false) else (bif (d0.kind==9) then (bif ((d0.data.length:Int)==0) then some (inR d0.value 0 3) else some false) else (bif (d0.kind==12) then (bif ((d0.data.length:Int)==0) then ((m_spec_l11Def d0.value).bind fun y92=>some y92) else some false) else (bif (d0.kind==10) then (bif (d0.value != 0) then some false else (bif (d0.kind==11) then (bif ((d0.data.length:Int) != 2) then some false else (bif (inR (d0.data.length:Int) 1 4) then (m_spec_l11Content_L3 d0 m_spec_l11Content_A3 (d0.data.length+1) 0) else some false)) else (bif (inR (d0.data.length:Int) 1 4) then (m_spec_l11Content_L2 d0 m_spec_l11Content_A2 (d0.data.length+1) 0) else some false))) else (bif (d0.kind==11) then (bif (d0.value != 0) then some false else (bif ((d0.data.length:Int) != 2) then some false else (m_spec_l11Content_L1 d0 m_spec_l11Content_A1 (d0.data.length+1) 0))) else (bif (d0.value==0) then some ((d0.data.length:Int)==0) else some false))))))))
set_option maxHeartbeats 2000000 in
theorem c_m_spec_l11Content (d0:DAgent) (r:Bool) (hm:m_spec_l11Content d0=some r) (v0:Value) (w:World) (hv0:Pt agentRd w v0 d0) :
    Calls Tryz.prog 263 #[v0] w fun e w'=>e=.returned (.bool r)∧Below w.heap.size w w':=by
  obtain ⟨ba0,oa0,csa0,rfl,hba0,hRa0,hca0⟩:=hv0
  have hSa0:=hRa0
  obtain ⟨A1,n1,c1,A2,n2,c2,rfl,⟨h1,r1⟩,⟨h2,r2⟩⟩:=hRa0
  have e1:=h1.len; subst e1
  have q1:=len_le r1
  have e2:=h2.len; subst e2
  have q2:=len_le r2
  have T:=Below.refl w.heap.size w
  unfold m_spec_l11Content at hm
  refine enter 162 Tryz.func263 rfl rfl rfl ?_
  intro f hf
  have s0:f 0=.pointer (some ⟨ba0,oa0,none⟩):=hf 0 _ rfl
  refine wp_seq<|wp_rs rfl<|RQ.y rfl (Y.assign (v:=.bool false) rfl)<|RQ.nil<|then_n<|wp_seq<|wp_seq<|wp_rs rfl<|RQ.y rfl (Y.move (v:=.pointer (some ⟨ba0,oa0,none⟩)) s0)<|RQ.y rfl (Y.nilCheck rfl)<|RQ.y rfl (Y.fieldAddr (off:=0) rfl (by kernel_rfl))<|RQ.y rfl (Y.load (v:=.int .i64 d0.kind) rfl (by kernel_rfl) (eqC (cellT T (hca0 0 _ rfl))))<|RQ.nil<|then_n<|wp_block<|wp_seq<|wp_rs rfl<|RQ.y rfl (Y.binI (v:=.bool (d0.kind==6)) rfl rfl rfl)<|RQ.y rfl (Y.assign (v:=.bool (d0.kind==6)) rfl)<|RQ.nil<|then_n ?_
  rcases bcases (d0.kind==6) with c3|c3
  ·replace hm:=cF c3 hm
   refine cond_f rfl (vb rfl c3)<|wp_seq<|wp_rs rfl<|RQ.y rfl (Y.binI (v:=.bool (d0.kind==7)) rfl rfl rfl)<|RQ.y rfl (Y.assign (v:=.bool (d0.kind==7)) rfl)<|RQ.nil<|then_n ?_
   rcases bcases (d0.kind==7) with c4|c4
   ·replace hm:=cF c4 hm
    refine cond_f rfl (vb rfl c4)<|wp_seq<|wp_rs rfl<|RQ.y rfl (Y.binI (v:=.bool (d0.kind==8)) rfl rfl rfl)<|RQ.y rfl (Y.assign (v:=.bool (d0.kind==8)) rfl)<|RQ.nil<|then_n ?_
    rcases bcases (d0.kind==8) with c5|c5
    ·replace hm:=cF c5 hm
     refine cond_f rfl (vb rfl c5)<|wp_seq<|wp_rs rfl<|RQ.y rfl (Y.binI (v:=.bool (d0.kind==9)) rfl rfl rfl)<|RQ.y rfl (Y.assign (v:=.bool (d0.kind==9)) rfl)<|RQ.nil<|then_n ?_
     rcases bcases (d0.kind==9) with c6|c6
     ·replace hm:=cF c6 hm
      refine cond_f rfl (vb rfl c6)<|wp_seq<|wp_rs rfl<|RQ.y rfl (Y.binI (v:=.bool (d0.kind==12)) rfl rfl rfl)<|RQ.y rfl (Y.assign (v:=.bool (d0.kind==12)) rfl)<|RQ.nil<|then_n ?_
      rcases bcases (d0.kind==12) with c7|c7
      ·replace hm:=cF c7 hm
       refine cond_f rfl (vb rfl c7)<|wp_seq<|wp_seq<|wp_rs rfl<|RQ.y rfl (Y.binI (v:=.bool (d0.kind==10)) rfl rfl rfl)<|RQ.y rfl (Y.assign (v:=.bool (d0.kind==10)) rfl)<|RQ.nil<|then_n ?_
       rcases bcases (d0.kind==10) with c8|c8
       ·replace hm:=cF c8 hm
        refine cond_f rfl (vb rfl c8)<|wp_rs rfl<|RQ.y rfl (Y.binI (v:=.bool (d0.kind==11)) rfl rfl rfl)<|RQ.y rfl (Y.assign (v:=.bool (d0.kind==11)) rfl)<|RQ.nil<|then_n ?_
        rcases bcases (d0.kind==11) with c9|c9
        ·replace hm:=cF c9 hm
         refine cond_f rfl (vb rfl c9)<|wp_skip ?_
         refine blk_n (then_n ?_)
         refine wp_seq<|wp_rs rfl<|RQ.y rfl (Y.move (v:=.pointer (some ⟨ba0,oa0,none⟩)) s0)<|RQ.y rfl (Y.nilCheck rfl)<|RQ.y rfl (Y.fieldAddr (off:=2) rfl (by kernel_rfl))<|RQ.y rfl (Y.load (v:=.int .i64 d0.value) rfl (by kernel_rfl) (eqC (cellT T (hca0 2 _ rfl))))<|RQ.y rfl (Y.binI (v:=.bool (d0.value==0)) rfl rfl rfl)<|RQ.y rfl (Y.move (v:=.bool (d0.value==0)) rfl) ?_
         rcases bcases (d0.value==0) with c10|c10
         ·replace hm:=cF c10 hm
          iterate 6 refine RQ.skip (wantN (dj:=154) rfl (vb rfl c10) rfl) ?_
          refine RQ.y rfl (Y.pick (b:=false) (v:=.bool false) (vb rfl c10) rfl)<|RQ.y rfl (Y.assign (v:=.bool false) rfl)<|RQ.nil<|then_n<|wp_ret ?_
          obtain rfl:=sj hm
          exact (ret1 rfl rfl rfl ⟨rfl,T⟩)
         replace hm:=cT c10 hm
         refine RQ.y (wantT (dj:=154) rfl (vb rfl c10)) (Y.move (v:=.pointer (some ⟨ba0,oa0,none⟩)) s0)<|RQ.y (wantT (dj:=154) rfl (vb rfl c10)) (Y.nilCheck rfl)<|RQ.y (wantT (dj:=154) rfl (vb rfl c10)) (Y.fieldAddr (off:=3) rfl (by kernel_rfl))<|RQ.y (wantT (dj:=154) rfl (vb rfl c10)) (Y.load (v:=.slice A1 d0.data.length c1) rfl (by kernel_rfl) (eqC (cellT T (hca0 3 _ rfl))))<|RQ.y (wantT (dj:=154) rfl (vb rfl c10)) (Y.len (by kernel_rfl) rfl)<|RQ.y (wantT (dj:=154) rfl (vb rfl c10)) (Y.binI (v:=.bool ((d0.data.length:Int)==0)) rfl rfl rfl)<|RQ.y rfl (Y.pick (b:=true) (v:=.bool ((d0.data.length:Int)==0)) (vb rfl c10) rfl)<|RQ.y rfl (Y.assign (v:=.bool ((d0.data.length:Int)==0)) rfl)<|RQ.nil<|then_n<|wp_ret ?_
         obtain rfl:=sj hm
         exact (ret1 rfl rfl rfl ⟨rfl,T⟩)
        replace hm:=cT c9 hm
        refine cond_t rfl (vb rfl c9)<|wp_seq<|wp_seq<|wp_rb rfl<|RQ.y rfl (Y.move (v:=.pointer (some ⟨ba0,oa0,none⟩)) s0)<|RQ.y rfl (Y.nilCheck rfl)<|RQ.y rfl (Y.fieldAddr (off:=2) rfl (by kernel_rfl))<|RQ.y rfl (Y.load (v:=.int .i64 d0.value) rfl (by kernel_rfl) (beC (cellT T (hca0 2 _ rfl))))<|RQ.y rfl (Y.binI (v:=.bool (d0.value != 0)) rfl rfl rfl)<|RQ.y rfl (Y.move (v:=.bool (d0.value != 0)) rfl) ?_
        rcases bcases (d0.value != 0) with c11|c11
        ·replace hm:=cF c11 hm
         refine RQ.y (wantT (dj:=100) rfl (vb rfl c11)) (Y.move (v:=.pointer (some ⟨ba0,oa0,none⟩)) s0)<|RQ.y (wantT (dj:=100) rfl (vb rfl c11)) (Y.nilCheck rfl)<|RQ.y (wantT (dj:=100) rfl (vb rfl c11)) (Y.fieldAddr (off:=0) rfl (by kernel_rfl))<|RQ.y (wantT (dj:=100) rfl (vb rfl c11)) (Y.load (v:=.int .i64 d0.kind) rfl (by kernel_rfl) (beC (cellT T (hca0 0 _ rfl))))<|RQ.y (wantT (dj:=100) rfl (vb rfl c11)) (Y.binI (v:=.bool (d0.kind==11)) rfl rfl rfl)<|RQ.y (wantT (dj:=100) rfl (vb rfl c11)) (Y.move (v:=.bool (d0.kind==11)) rfl)<|RQ.y (wantT (dj:=106) rfl (vb rfl c9)) (Y.move (v:=.pointer (some ⟨ba0,oa0,none⟩)) s0)<|RQ.y (wantT (dj:=106) rfl (vb rfl c9)) (Y.nilCheck rfl)<|RQ.y (wantT (dj:=106) rfl (vb rfl c9)) (Y.fieldAddr (off:=3) rfl (by kernel_rfl))<|RQ.y (wantT (dj:=106) rfl (vb rfl c9)) (Y.load (v:=.slice A1 d0.data.length c1) rfl (by kernel_rfl) (beC (cellT T (hca0 3 _ rfl))))<|RQ.y (wantT (dj:=106) rfl (vb rfl c9)) (Y.len (by kernel_rfl) rfl)<|RQ.y (wantT (dj:=106) rfl (vb rfl c9)) (Y.binI (v:=.bool ((d0.data.length:Int) != 2)) rfl rfl rfl)<|RQ.y (wantT (dj:=100) rfl (vb rfl c11)) (Y.pick (b:=true) (v:=.bool ((d0.data.length:Int) != 2)) (vb rfl c9) rfl)<|RQ.y rfl (Y.pick (b:=false) (v:=.bool ((d0.data.length:Int) != 2)) (vb rfl c11) rfl)<|RQ.y rfl (Y.move (v:=.bool ((d0.data.length:Int) != 2)) rfl) ?_
         rcases bcases ((d0.data.length:Int) != 2) with c12|c12
         ·replace hm:=cF c12 hm
          refine RQ.y (wantT (dj:=115) rfl (vb rfl c12)) (Y.move (v:=.pointer (some ⟨ba0,oa0,none⟩)) s0)<|RQ.y (wantT (dj:=115) rfl (vb rfl c12)) (Y.nilCheck rfl)<|RQ.y (wantT (dj:=115) rfl (vb rfl c12)) (Y.fieldAddr (off:=0) rfl (by kernel_rfl))<|RQ.y (wantT (dj:=115) rfl (vb rfl c12)) (Y.load (v:=.int .i64 d0.kind) rfl (by kernel_rfl) (beC (cellT T (hca0 0 _ rfl))))<|RQ.y (wantT (dj:=115) rfl (vb rfl c12)) (Y.binI (v:=.bool (d0.kind==10)) rfl rfl rfl)<|RQ.y (wantT (dj:=115) rfl (vb rfl c12)) (Y.move (v:=.bool (d0.kind==10)) rfl) ?_
          iterate 7 refine RQ.skip (wantN (dj:=121) rfl (vb rfl c8) rfl) ?_
          refine RQ.y (wantT (dj:=115) rfl (vb rfl c12)) (Y.pick (b:=false) (v:=.bool false) (vb rfl c8) rfl)<|RQ.y rfl (Y.pick (b:=false) (v:=.bool false) (vb rfl c12) rfl)<|RQ.nil ?_
          intro w13 hb14
          have szw13:=hb14.size
          have T:=Tt T hb14
          refine then_n<|cond_f rfl rfl<|wp_skip<|then_n<|wp_seq<|wp_seq<|wp_rs rfl<|RQ.y rfl (Y.assign (v:=.int .i64 0) rfl)<|RQ.nil<|then_n<|wp_block ?_
          obtain ⟨K1,hK1,hm⟩ :∃K,K=m_spec_l11Content_A1∧m_spec_l11Content_L1 d0 K (d0.data.length+1) 0=some r:=⟨_,rfl,hm⟩
          refine wp_loopX (fun g f w'=>∃(i16:Int),f 0=.pointer (some ⟨ba0,oa0,none⟩)∧f 3=.int .i64 i16∧0≤i16∧Below w.heap.size w w'∧m_spec_l11Content_L1 d0 K1 g i16=some r) 1 (fun f w'=>Below w.heap.size w w'∧m_spec_l11Content_A1  = some r) (d0.data.length+1) ⟨0,s0,rfl,(by omega),T,hm⟩ ?_ ?_
          ·rintro f w15 ⟨T,hm⟩
           unfold m_spec_l11Content_A1 at hm
           refine blk_hit (then_n ?_)
           refine wp_seq<|wp_rs rfl<|RQ.y rfl (Y.assign (v:=.bool true) rfl)<|RQ.nil<|then_n<|wp_ret ?_
           obtain rfl:=sj hm
           exact (blk_r (then_r (ret1 rfl rfl rfl ⟨rfl,T⟩)))
          rintro g f w17 ⟨i16,s0_1,s3_1,nn3_1,T,hm⟩
          rcases g with _|g
          ·simp only [m_spec_l11Content_L1] at hm; cases hm
          obtain ⟨rec1,hrec1,hm⟩ :∃z,z=m_spec_l11Content_L1 d0 K1 g∧m_spec_l11Content_B1 d0 z K1 i16=some r:=⟨_,rfl,hm⟩
          unfold m_spec_l11Content_B1 at hm
          refine wp_seq<|wp_seq<|wp_rs rfl<|RQ.y rfl (Y.move (v:=.int .i64 i16) s3_1)<|RQ.y rfl (Y.move (v:=.pointer (some ⟨ba0,oa0,none⟩)) s0_1)<|RQ.y rfl (Y.nilCheck rfl)<|RQ.y rfl (Y.fieldAddr (off:=3) rfl (by kernel_rfl))<|RQ.y rfl (Y.load (v:=.slice A1 d0.data.length c1) rfl (by kernel_rfl) (eqC (cellT T (hca0 3 _ rfl))))<|RQ.y rfl (Y.len (by kernel_rfl) rfl)<|RQ.y rfl (Y.binI (v:=.bool (decide (i16 < (d0.data.length:Int)))) rfl rfl rfl)<|RQ.nil<|then_n ?_
          rcases bcases (decide (i16 < (d0.data.length:Int))) with c18|c18
          ·replace hm:=cF c18 hm
           have pc18:=of_decide_eq_false c18
           refine cond_f rfl (vb rfl c18)<|wp_exit ?_
           exact (then_x (then_x (hit_x ⟨_,rfl,⟨T,(by rw [hK1] at hm; exact hm)⟩⟩)))
          replace hm:=cT c18 hm
          have pc18:=of_decide_eq_true c18
          refine cond_t rfl (vb rfl c18)<|wp_skip<|then_n<|wp_seq<|wp_block<|wp_seq<|wp_rb rfl<|RQ.y rfl (Y.move (v:=.pointer (some ⟨ba0,oa0,none⟩)) s0_1)<|RQ.y rfl (Y.nilCheck rfl)<|RQ.y rfl (Y.fieldAddr (off:=3) rfl (by kernel_rfl))<|RQ.y rfl (Y.load (v:=.slice A1 d0.data.length c1) rfl (by kernel_rfl) (beC (cellT T (hca0 3 _ rfl))))<|RQ.y rfl (Y.move (v:=.int .i64 i16) s3_1) ?_
          obtain ⟨x19,hx22,hm⟩:=bnd hm
          obtain ⟨k20,hk23,hl24,hx22⟩:=getI_some hx22
          obtain ⟨b26,o27,rfl,hbb26⟩:=h1.addr (by omega)
          obtain ⟨cs21,hRcs21,hc25⟩:=h1.el hx22
          have hScs21:=hRcs21
          obtain rfl:=hRcs21
          refine RQ.y rfl (Y.indexAddr (m:=k20) (sz:=1) rfl rfl hk23 hl24 (by kernel_rfl))<|RQ.y rfl (Y.load (v:=.int .i64 x19) rfl (by kernel_rfl) (beC (cellT T (hc25 0 _ rfl)))) ?_
          obtain ⟨y28,e29,hm⟩:=bnd hm
          refine RQ.call rfl (am1 rfl) (by kernel_rfl) (v:=.bool y28) (bel (K:=fun _=>True) fun w' hb'=>(c_m_spec_l11Def x19 _ e29  w' ))<|RQ.y rfl (Y.not (b':=(!y28)) rfl rfl)<|RQ.nil ?_
          intro w30 hb31
          have szw30:=hb31.size
          have T:=Tt T hb31
          refine then_n ?_
          rcases bcases y28 with c32|c32
          ·replace hm:=cF c32 hm
           refine cond_t rfl (vbn rfl c32 rfl)<|wp_seq<|wp_rs rfl<|RQ.y rfl (Y.assign (v:=.bool false) rfl)<|RQ.nil<|then_n<|wp_ret ?_
           obtain rfl:=sj hm
           exact (blk_r (then_r (then_r (hit_r (blk_r (then_r (blk_r (then_r (ret1 rfl rfl rfl ⟨rfl,T⟩)))))))))
          replace hm:=cT c32 hm
          refine cond_f rfl (vbn rfl c32 rfl)<|wp_skip ?_
          refine blk_n (then_n ?_)
          refine wp_rs rfl<|RQ.y rfl (Y.move (v:=.int .i64 i16) s3_1)<|RQ.y rfl (Y.binI rfl rfl (binI_add (m:=i16) (by omega)))<|RQ.y rfl (Y.assign (v:=.int .i64 (i16+1)) rfl)<|RQ.nil ?_
          exact (then_n ⟨g,_,Nat.lt_succ_self _,rfl,⟨(i16+1),s0_1,rfl,(by omega),T,(by rw [← hrec1]; exact hm)⟩⟩)
         replace hm:=cT c12 hm
         iterate 6 refine RQ.skip (wantN (dj:=115) rfl (vb rfl c12) rfl) ?_
         iterate 7 refine RQ.skip rfl ?_
         refine RQ.skip (wantN (dj:=115) rfl (vb rfl c12) rfl)<|RQ.y rfl (Y.pick (b:=true) (v:=.bool true) (vb rfl c12) rfl)<|RQ.nil ?_
         intro w34 hb35
         have szw34:=hb35.size
         have T:=Tt T hb35
         refine then_n<|cond_t rfl rfl<|wp_seq<|wp_rs rfl<|RQ.y rfl (Y.assign (v:=.bool false) rfl)<|RQ.nil<|then_n<|wp_ret ?_
         obtain rfl:=sj hm
         exact (then_r (blk_r (then_r (ret1 rfl rfl rfl ⟨rfl,T⟩))))
        replace hm:=cT c11 hm
        iterate 6 refine RQ.skip (wantN (dj:=100) rfl (vb rfl c11) rfl) ?_
        iterate 6 refine RQ.skip rfl ?_
        refine RQ.skip (wantN (dj:=100) rfl (vb rfl c11) rfl)<|RQ.y rfl (Y.pick (b:=true) (v:=.bool true) (vb rfl c11) rfl)<|RQ.y rfl (Y.move (v:=.bool true) rfl) ?_
        iterate 6 refine RQ.skip (wantN (dj:=115) rfl rfl rfl) ?_
        iterate 7 refine RQ.skip rfl ?_
        refine RQ.skip (wantN (dj:=115) rfl rfl rfl)<|RQ.y rfl (Y.pick (b:=true) (v:=.bool true) rfl rfl)<|RQ.nil ?_
        intro w36 hb37
        have szw36:=hb37.size
        have T:=Tt T hb37
        refine then_n<|cond_t rfl rfl<|wp_seq<|wp_rs rfl<|RQ.y rfl (Y.assign (v:=.bool false) rfl)<|RQ.nil<|then_n<|wp_ret ?_
        obtain rfl:=sj hm
        exact (then_r (blk_r (then_r (ret1 rfl rfl rfl ⟨rfl,T⟩))))
       replace hm:=cT c8 hm
       refine cond_t rfl (vb rfl c8)<|wp_skip<|then_n<|cond_t rfl (vb rfl c8)<|wp_seq<|wp_seq<|wp_rb rfl<|RQ.y rfl (Y.move (v:=.pointer (some ⟨ba0,oa0,none⟩)) s0)<|RQ.y rfl (Y.nilCheck rfl)<|RQ.y rfl (Y.fieldAddr (off:=2) rfl (by kernel_rfl))<|RQ.y rfl (Y.load (v:=.int .i64 d0.value) rfl (by kernel_rfl) (beC (cellT T (hca0 2 _ rfl))))<|RQ.y rfl (Y.binI (v:=.bool (d0.value != 0)) rfl rfl rfl)<|RQ.y rfl (Y.move (v:=.bool (d0.value != 0)) rfl) ?_
       rcases bcases (d0.value != 0) with c38|c38
       ·replace hm:=cF c38 hm
        refine RQ.y (wantT (dj:=100) rfl (vb rfl c38)) (Y.move (v:=.pointer (some ⟨ba0,oa0,none⟩)) s0)<|RQ.y (wantT (dj:=100) rfl (vb rfl c38)) (Y.nilCheck rfl)<|RQ.y (wantT (dj:=100) rfl (vb rfl c38)) (Y.fieldAddr (off:=0) rfl (by kernel_rfl))<|RQ.y (wantT (dj:=100) rfl (vb rfl c38)) (Y.load (v:=.int .i64 d0.kind) rfl (by kernel_rfl) (beC (cellT T (hca0 0 _ rfl))))<|RQ.y (wantT (dj:=100) rfl (vb rfl c38)) (Y.binI (v:=.bool (d0.kind==11)) rfl rfl rfl)<|RQ.y (wantT (dj:=100) rfl (vb rfl c38)) (Y.move (v:=.bool (d0.kind==11)) rfl) ?_
        rcases bcases (d0.kind==11) with c39|c39
        ·replace hm:=cF c39 hm
         iterate 6 refine RQ.skip (wantN (dj:=106) rfl (vb rfl c39) rfl) ?_
         refine RQ.y (wantT (dj:=100) rfl (vb rfl c38)) (Y.pick (b:=false) (v:=.bool false) (vb rfl c39) rfl)<|RQ.y rfl (Y.pick (b:=false) (v:=.bool false) (vb rfl c38) rfl)<|RQ.y rfl (Y.move (v:=.bool false) rfl)<|RQ.y rfl (Y.move (v:=.pointer (some ⟨ba0,oa0,none⟩)) s0)<|RQ.y rfl (Y.nilCheck rfl)<|RQ.y rfl (Y.fieldAddr (off:=0) rfl (by kernel_rfl))<|RQ.y rfl (Y.load (v:=.int .i64 d0.kind) rfl (by kernel_rfl) (beC (cellT T (hca0 0 _ rfl))))<|RQ.y rfl (Y.binI (v:=.bool (d0.kind==10)) rfl rfl rfl)<|RQ.y rfl (Y.move (v:=.bool (d0.kind==10)) rfl)<|RQ.y (wantT (dj:=121) rfl (vb rfl c8)) (Y.move (v:=.pointer (some ⟨ba0,oa0,none⟩)) s0)<|RQ.y (wantT (dj:=121) rfl (vb rfl c8)) (Y.nilCheck rfl)<|RQ.y (wantT (dj:=121) rfl (vb rfl c8)) (Y.fieldAddr (off:=3) rfl (by kernel_rfl))<|RQ.y (wantT (dj:=121) rfl (vb rfl c8)) (Y.load (v:=.slice A1 d0.data.length c1) rfl (by kernel_rfl) (beC (cellT T (hca0 3 _ rfl))))<|RQ.y (wantT (dj:=121) rfl (vb rfl c8)) (Y.len (by kernel_rfl) rfl)<|RQ.call (wantT (dj:=121) rfl (vb rfl c8)) (am3 rfl rfl rfl) (by kernel_rfl) (v:=.bool (inR (d0.data.length:Int) 1 4)) (bel (K:=fun _=>True) fun w' hb'=>(callB (spec_l00In (d0.data.length:Int) 1 4 w')))<|RQ.y (wantT (dj:=121) rfl (vb rfl c8)) (Y.not (b':=(!(inR (d0.data.length:Int) 1 4))) rfl rfl)<|RQ.y rfl (Y.pick (b:=true) (v:=.bool (!(inR (d0.data.length:Int) 1 4))) (vb rfl c8) rfl)<|RQ.y rfl (Y.pick (b:=false) (v:=.bool (!(inR (d0.data.length:Int) 1 4))) rfl rfl)<|RQ.nil ?_
         intro w40 hb41
         have szw40:=hb41.size
         have T:=Tt T hb41
         refine then_n ?_
         rcases bcases (inR (d0.data.length:Int) 1 4) with c42|c42
         ·replace hm:=cF c42 hm
          refine cond_t rfl (vbn rfl c42 rfl)<|wp_seq<|wp_rs rfl<|RQ.y rfl (Y.assign (v:=.bool false) rfl)<|RQ.nil<|then_n<|wp_ret ?_
          obtain rfl:=sj hm
          exact (then_r (blk_r (then_r (ret1 rfl rfl rfl ⟨rfl,T⟩))))
         replace hm:=cT c42 hm
         refine cond_f rfl (vbn rfl c42 rfl)<|wp_skip<|then_n<|wp_seq<|wp_seq<|wp_rs rfl<|RQ.y rfl (Y.assign (v:=.int .i64 0) rfl)<|RQ.nil<|then_n<|wp_block ?_
         obtain ⟨K2,hK2,hm⟩ :∃K,K=m_spec_l11Content_A2∧m_spec_l11Content_L2 d0 K (d0.data.length+1) 0=some r:=⟨_,rfl,hm⟩
         refine wp_loopX (fun g f w'=>∃(i44:Int),f 0=.pointer (some ⟨ba0,oa0,none⟩)∧f 3=.int .i64 i44∧0≤i44∧Below w.heap.size w w'∧m_spec_l11Content_L2 d0 K2 g i44=some r) 1 (fun f w'=>Below w.heap.size w w'∧m_spec_l11Content_A2  = some r) (d0.data.length+1) ⟨0,s0,rfl,(by omega),T,hm⟩ ?_ ?_
         ·rintro f w43 ⟨T,hm⟩
          unfold m_spec_l11Content_A2 at hm
          refine blk_hit (then_n ?_)
          refine wp_seq<|wp_rs rfl<|RQ.y rfl (Y.assign (v:=.bool true) rfl)<|RQ.nil<|then_n<|wp_ret ?_
          obtain rfl:=sj hm
          exact (blk_r (then_r (ret1 rfl rfl rfl ⟨rfl,T⟩)))
         rintro g f w45 ⟨i44,s0_2,s3_2,nn3_2,T,hm⟩
         rcases g with _|g
         ·simp only [m_spec_l11Content_L2] at hm; cases hm
         obtain ⟨rec2,hrec2,hm⟩ :∃z,z=m_spec_l11Content_L2 d0 K2 g∧m_spec_l11Content_B2 d0 z K2 i44=some r:=⟨_,rfl,hm⟩
         unfold m_spec_l11Content_B2 at hm
         refine wp_seq<|wp_seq<|wp_rs rfl<|RQ.y rfl (Y.move (v:=.int .i64 i44) s3_2)<|RQ.y rfl (Y.move (v:=.pointer (some ⟨ba0,oa0,none⟩)) s0_2)<|RQ.y rfl (Y.nilCheck rfl)<|RQ.y rfl (Y.fieldAddr (off:=3) rfl (by kernel_rfl))<|RQ.y rfl (Y.load (v:=.slice A1 d0.data.length c1) rfl (by kernel_rfl) (eqC (cellT T (hca0 3 _ rfl))))<|RQ.y rfl (Y.len (by kernel_rfl) rfl)<|RQ.y rfl (Y.binI (v:=.bool (decide (i44 < (d0.data.length:Int)))) rfl rfl rfl)<|RQ.nil<|then_n ?_
         rcases bcases (decide (i44 < (d0.data.length:Int))) with c46|c46
         ·replace hm:=cF c46 hm
          have pc46:=of_decide_eq_false c46
          refine cond_f rfl (vb rfl c46)<|wp_exit ?_
          exact (then_x (then_x (hit_x ⟨_,rfl,⟨T,(by rw [hK2] at hm; exact hm)⟩⟩)))
         replace hm:=cT c46 hm
         have pc46:=of_decide_eq_true c46
         refine cond_t rfl (vb rfl c46)<|wp_skip<|then_n<|wp_seq<|wp_block<|wp_seq<|wp_rb rfl<|RQ.y rfl (Y.move (v:=.pointer (some ⟨ba0,oa0,none⟩)) s0_2)<|RQ.y rfl (Y.nilCheck rfl)<|RQ.y rfl (Y.fieldAddr (off:=3) rfl (by kernel_rfl))<|RQ.y rfl (Y.load (v:=.slice A1 d0.data.length c1) rfl (by kernel_rfl) (beC (cellT T (hca0 3 _ rfl))))<|RQ.y rfl (Y.move (v:=.int .i64 i44) s3_2) ?_
         obtain ⟨x47,hx50,hm⟩:=bnd hm
         obtain ⟨k48,hk51,hl52,hx50⟩:=getI_some hx50
         obtain ⟨b54,o55,rfl,hbb54⟩:=h1.addr (by omega)
         obtain ⟨cs49,hRcs49,hc53⟩:=h1.el hx50
         have hScs49:=hRcs49
         obtain rfl:=hRcs49
         refine RQ.y rfl (Y.indexAddr (m:=k48) (sz:=1) rfl rfl hk51 hl52 (by kernel_rfl))<|RQ.y rfl (Y.load (v:=.int .i64 x47) rfl (by kernel_rfl) (beC (cellT T (hc53 0 _ rfl)))) ?_
         obtain ⟨y56,e57,hm⟩:=bnd hm
         refine RQ.call rfl (am1 rfl) (by kernel_rfl) (v:=.bool y56) (bel (K:=fun _=>True) fun w' hb'=>(c_m_spec_l11Def x47 _ e57  w' ))<|RQ.y rfl (Y.not (b':=(!y56)) rfl rfl)<|RQ.nil ?_
         intro w58 hb59
         have szw58:=hb59.size
         have T:=Tt T hb59
         refine then_n ?_
         rcases bcases y56 with c60|c60
         ·replace hm:=cF c60 hm
          refine cond_t rfl (vbn rfl c60 rfl)<|wp_seq<|wp_rs rfl<|RQ.y rfl (Y.assign (v:=.bool false) rfl)<|RQ.nil<|then_n<|wp_ret ?_
          obtain rfl:=sj hm
          exact (blk_r (then_r (then_r (hit_r (blk_r (then_r (blk_r (then_r (ret1 rfl rfl rfl ⟨rfl,T⟩)))))))))
         replace hm:=cT c60 hm
         refine cond_f rfl (vbn rfl c60 rfl)<|wp_skip ?_
         refine blk_n (then_n ?_)
         refine wp_rs rfl<|RQ.y rfl (Y.move (v:=.int .i64 i44) s3_2)<|RQ.y rfl (Y.binI rfl rfl (binI_add (m:=i44) (by omega)))<|RQ.y rfl (Y.assign (v:=.int .i64 (i44+1)) rfl)<|RQ.nil ?_
         exact (then_n ⟨g,_,Nat.lt_succ_self _,rfl,⟨(i44+1),s0_2,rfl,(by omega),T,(by rw [← hrec2]; exact hm)⟩⟩)
        replace hm:=cT c39 hm
        refine RQ.y (wantT (dj:=106) rfl (vb rfl c39)) (Y.move (v:=.pointer (some ⟨ba0,oa0,none⟩)) s0)<|RQ.y (wantT (dj:=106) rfl (vb rfl c39)) (Y.nilCheck rfl)<|RQ.y (wantT (dj:=106) rfl (vb rfl c39)) (Y.fieldAddr (off:=3) rfl (by kernel_rfl))<|RQ.y (wantT (dj:=106) rfl (vb rfl c39)) (Y.load (v:=.slice A1 d0.data.length c1) rfl (by kernel_rfl) (beC (cellT T (hca0 3 _ rfl))))<|RQ.y (wantT (dj:=106) rfl (vb rfl c39)) (Y.len (by kernel_rfl) rfl)<|RQ.y (wantT (dj:=106) rfl (vb rfl c39)) (Y.binI (v:=.bool ((d0.data.length:Int) != 2)) rfl rfl rfl)<|RQ.y (wantT (dj:=100) rfl (vb rfl c38)) (Y.pick (b:=true) (v:=.bool ((d0.data.length:Int) != 2)) (vb rfl c39) rfl)<|RQ.y rfl (Y.pick (b:=false) (v:=.bool ((d0.data.length:Int) != 2)) (vb rfl c38) rfl)<|RQ.y rfl (Y.move (v:=.bool ((d0.data.length:Int) != 2)) rfl) ?_
        rcases bcases ((d0.data.length:Int) != 2) with c62|c62
        ·replace hm:=cF c62 hm
         refine RQ.y (wantT (dj:=115) rfl (vb rfl c62)) (Y.move (v:=.pointer (some ⟨ba0,oa0,none⟩)) s0)<|RQ.y (wantT (dj:=115) rfl (vb rfl c62)) (Y.nilCheck rfl)<|RQ.y (wantT (dj:=115) rfl (vb rfl c62)) (Y.fieldAddr (off:=0) rfl (by kernel_rfl))<|RQ.y (wantT (dj:=115) rfl (vb rfl c62)) (Y.load (v:=.int .i64 d0.kind) rfl (by kernel_rfl) (beC (cellT T (hca0 0 _ rfl))))<|RQ.y (wantT (dj:=115) rfl (vb rfl c62)) (Y.binI (v:=.bool (d0.kind==10)) rfl rfl rfl)<|RQ.y (wantT (dj:=115) rfl (vb rfl c62)) (Y.move (v:=.bool (d0.kind==10)) rfl)<|RQ.y (wantT (dj:=121) rfl (vb rfl c8)) (Y.move (v:=.pointer (some ⟨ba0,oa0,none⟩)) s0)<|RQ.y (wantT (dj:=121) rfl (vb rfl c8)) (Y.nilCheck rfl)<|RQ.y (wantT (dj:=121) rfl (vb rfl c8)) (Y.fieldAddr (off:=3) rfl (by kernel_rfl))<|RQ.y (wantT (dj:=121) rfl (vb rfl c8)) (Y.load (v:=.slice A1 d0.data.length c1) rfl (by kernel_rfl) (beC (cellT T (hca0 3 _ rfl))))<|RQ.y (wantT (dj:=121) rfl (vb rfl c8)) (Y.len (by kernel_rfl) rfl)<|RQ.call (wantT (dj:=121) rfl (vb rfl c8)) (am3 rfl rfl rfl) (by kernel_rfl) (v:=.bool (inR (d0.data.length:Int) 1 4)) (bel (K:=fun _=>True) fun w' hb'=>(callB (spec_l00In (d0.data.length:Int) 1 4 w')))<|RQ.y (wantT (dj:=121) rfl (vb rfl c8)) (Y.not (b':=(!(inR (d0.data.length:Int) 1 4))) rfl rfl)<|RQ.y (wantT (dj:=115) rfl (vb rfl c62)) (Y.pick (b:=true) (v:=.bool (!(inR (d0.data.length:Int) 1 4))) (vb rfl c8) rfl)<|RQ.y rfl (Y.pick (b:=false) (v:=.bool (!(inR (d0.data.length:Int) 1 4))) (vb rfl c62) rfl)<|RQ.nil ?_
         intro w63 hb64
         have szw63:=hb64.size
         have T:=Tt T hb64
         refine then_n ?_
         rcases bcases (inR (d0.data.length:Int) 1 4) with c65|c65
         ·replace hm:=cF c65 hm
          refine cond_t rfl (vbn rfl c65 rfl)<|wp_seq<|wp_rs rfl<|RQ.y rfl (Y.assign (v:=.bool false) rfl)<|RQ.nil<|then_n<|wp_ret ?_
          obtain rfl:=sj hm
          exact (then_r (blk_r (then_r (ret1 rfl rfl rfl ⟨rfl,T⟩))))
         replace hm:=cT c65 hm
         refine cond_f rfl (vbn rfl c65 rfl)<|wp_skip<|then_n<|wp_seq<|wp_seq<|wp_rs rfl<|RQ.y rfl (Y.assign (v:=.int .i64 0) rfl)<|RQ.nil<|then_n<|wp_block ?_
         obtain ⟨K3,hK3,hm⟩ :∃K,K=m_spec_l11Content_A3∧m_spec_l11Content_L3 d0 K (d0.data.length+1) 0=some r:=⟨_,rfl,hm⟩
         refine wp_loopX (fun g f w'=>∃(i67:Int),f 0=.pointer (some ⟨ba0,oa0,none⟩)∧f 3=.int .i64 i67∧0≤i67∧Below w.heap.size w w'∧m_spec_l11Content_L3 d0 K3 g i67=some r) 1 (fun f w'=>Below w.heap.size w w'∧m_spec_l11Content_A3  = some r) (d0.data.length+1) ⟨0,s0,rfl,(by omega),T,hm⟩ ?_ ?_
         ·rintro f w66 ⟨T,hm⟩
          unfold m_spec_l11Content_A3 at hm
          refine blk_hit (then_n ?_)
          refine wp_seq<|wp_rs rfl<|RQ.y rfl (Y.assign (v:=.bool true) rfl)<|RQ.nil<|then_n<|wp_ret ?_
          obtain rfl:=sj hm
          exact (blk_r (then_r (ret1 rfl rfl rfl ⟨rfl,T⟩)))
         rintro g f w68 ⟨i67,s0_3,s3_3,nn3_3,T,hm⟩
         rcases g with _|g
         ·simp only [m_spec_l11Content_L3] at hm; cases hm
         obtain ⟨rec3,hrec3,hm⟩ :∃z,z=m_spec_l11Content_L3 d0 K3 g∧m_spec_l11Content_B3 d0 z K3 i67=some r:=⟨_,rfl,hm⟩
         unfold m_spec_l11Content_B3 at hm
         refine wp_seq<|wp_seq<|wp_rs rfl<|RQ.y rfl (Y.move (v:=.int .i64 i67) s3_3)<|RQ.y rfl (Y.move (v:=.pointer (some ⟨ba0,oa0,none⟩)) s0_3)<|RQ.y rfl (Y.nilCheck rfl)<|RQ.y rfl (Y.fieldAddr (off:=3) rfl (by kernel_rfl))<|RQ.y rfl (Y.load (v:=.slice A1 d0.data.length c1) rfl (by kernel_rfl) (eqC (cellT T (hca0 3 _ rfl))))<|RQ.y rfl (Y.len (by kernel_rfl) rfl)<|RQ.y rfl (Y.binI (v:=.bool (decide (i67 < (d0.data.length:Int)))) rfl rfl rfl)<|RQ.nil<|then_n ?_
         rcases bcases (decide (i67 < (d0.data.length:Int))) with c69|c69
         ·replace hm:=cF c69 hm
          have pc69:=of_decide_eq_false c69
          refine cond_f rfl (vb rfl c69)<|wp_exit ?_
          exact (then_x (then_x (hit_x ⟨_,rfl,⟨T,(by rw [hK3] at hm; exact hm)⟩⟩)))
         replace hm:=cT c69 hm
         have pc69:=of_decide_eq_true c69
         refine cond_t rfl (vb rfl c69)<|wp_skip<|then_n<|wp_seq<|wp_block<|wp_seq<|wp_rb rfl<|RQ.y rfl (Y.move (v:=.pointer (some ⟨ba0,oa0,none⟩)) s0_3)<|RQ.y rfl (Y.nilCheck rfl)<|RQ.y rfl (Y.fieldAddr (off:=3) rfl (by kernel_rfl))<|RQ.y rfl (Y.load (v:=.slice A1 d0.data.length c1) rfl (by kernel_rfl) (beC (cellT T (hca0 3 _ rfl))))<|RQ.y rfl (Y.move (v:=.int .i64 i67) s3_3) ?_
         obtain ⟨x70,hx73,hm⟩:=bnd hm
         obtain ⟨k71,hk74,hl75,hx73⟩:=getI_some hx73
         obtain ⟨b77,o78,rfl,hbb77⟩:=h1.addr (by omega)
         obtain ⟨cs72,hRcs72,hc76⟩:=h1.el hx73
         have hScs72:=hRcs72
         obtain rfl:=hRcs72
         refine RQ.y rfl (Y.indexAddr (m:=k71) (sz:=1) rfl rfl hk74 hl75 (by kernel_rfl))<|RQ.y rfl (Y.load (v:=.int .i64 x70) rfl (by kernel_rfl) (beC (cellT T (hc76 0 _ rfl)))) ?_
         obtain ⟨y79,e80,hm⟩:=bnd hm
         refine RQ.call rfl (am1 rfl) (by kernel_rfl) (v:=.bool y79) (bel (K:=fun _=>True) fun w' hb'=>(c_m_spec_l11Def x70 _ e80  w' ))<|RQ.y rfl (Y.not (b':=(!y79)) rfl rfl)<|RQ.nil ?_
         intro w81 hb82
         have szw81:=hb82.size
         have T:=Tt T hb82
         refine then_n ?_
         rcases bcases y79 with c83|c83
         ·replace hm:=cF c83 hm
          refine cond_t rfl (vbn rfl c83 rfl)<|wp_seq<|wp_rs rfl<|RQ.y rfl (Y.assign (v:=.bool false) rfl)<|RQ.nil<|then_n<|wp_ret ?_
          obtain rfl:=sj hm
          exact (blk_r (then_r (then_r (hit_r (blk_r (then_r (blk_r (then_r (ret1 rfl rfl rfl ⟨rfl,T⟩)))))))))
         replace hm:=cT c83 hm
         refine cond_f rfl (vbn rfl c83 rfl)<|wp_skip ?_
         refine blk_n (then_n ?_)
         refine wp_rs rfl<|RQ.y rfl (Y.move (v:=.int .i64 i67) s3_3)<|RQ.y rfl (Y.binI rfl rfl (binI_add (m:=i67) (by omega)))<|RQ.y rfl (Y.assign (v:=.int .i64 (i67+1)) rfl)<|RQ.nil ?_
         exact (then_n ⟨g,_,Nat.lt_succ_self _,rfl,⟨(i67+1),s0_3,rfl,(by omega),T,(by rw [← hrec3]; exact hm)⟩⟩)
        replace hm:=cT c62 hm
        iterate 6 refine RQ.skip (wantN (dj:=115) rfl (vb rfl c62) rfl) ?_
        iterate 7 refine RQ.skip rfl ?_
        refine RQ.skip (wantN (dj:=115) rfl (vb rfl c62) rfl)<|RQ.y rfl (Y.pick (b:=true) (v:=.bool true) (vb rfl c62) rfl)<|RQ.nil ?_
        intro w85 hb86
        have szw85:=hb86.size
        have T:=Tt T hb86
        refine then_n<|cond_t rfl rfl<|wp_seq<|wp_rs rfl<|RQ.y rfl (Y.assign (v:=.bool false) rfl)<|RQ.nil<|then_n<|wp_ret ?_
        obtain rfl:=sj hm
        exact (then_r (blk_r (then_r (ret1 rfl rfl rfl ⟨rfl,T⟩))))
       replace hm:=cT c38 hm
       iterate 6 refine RQ.skip (wantN (dj:=100) rfl (vb rfl c38) rfl) ?_
       iterate 6 refine RQ.skip rfl ?_
       refine RQ.skip (wantN (dj:=100) rfl (vb rfl c38) rfl)<|RQ.y rfl (Y.pick (b:=true) (v:=.bool true) (vb rfl c38) rfl)<|RQ.y rfl (Y.move (v:=.bool true) rfl) ?_
       iterate 6 refine RQ.skip (wantN (dj:=115) rfl rfl rfl) ?_
       iterate 7 refine RQ.skip rfl ?_
       refine RQ.skip (wantN (dj:=115) rfl rfl rfl)<|RQ.y rfl (Y.pick (b:=true) (v:=.bool true) rfl rfl)<|RQ.nil ?_
       intro w87 hb88
       have szw87:=hb88.size
       have T:=Tt T hb88
       refine then_n<|cond_t rfl rfl<|wp_seq<|wp_rs rfl<|RQ.y rfl (Y.assign (v:=.bool false) rfl)<|RQ.nil<|then_n<|wp_ret ?_
       obtain rfl:=sj hm
       exact (then_r (blk_r (then_r (ret1 rfl rfl rfl ⟨rfl,T⟩))))
      replace hm:=cT c7 hm
      refine cond_t rfl (vb rfl c7)<|wp_seq<|wp_rb rfl<|RQ.y rfl (Y.move (v:=.pointer (some ⟨ba0,oa0,none⟩)) s0)<|RQ.y rfl (Y.nilCheck rfl)<|RQ.y rfl (Y.fieldAddr (off:=3) rfl (by kernel_rfl))<|RQ.y rfl (Y.load (v:=.slice A1 d0.data.length c1) rfl (by kernel_rfl) (beC (cellT T (hca0 3 _ rfl))))<|RQ.y rfl (Y.len (by kernel_rfl) rfl)<|RQ.y rfl (Y.binI (v:=.bool ((d0.data.length:Int)==0)) rfl rfl rfl)<|RQ.y rfl (Y.move (v:=.bool ((d0.data.length:Int)==0)) rfl) ?_
      rcases bcases ((d0.data.length:Int)==0) with c89|c89
      ·replace hm:=cF c89 hm
       iterate 5 refine RQ.skip (wantN (dj:=85) rfl (vb rfl c89) rfl) ?_
       refine RQ.y rfl (Y.pick (b:=false) (v:=.bool false) (vb rfl c89) rfl)<|RQ.y rfl (Y.assign (v:=.bool false) rfl)<|RQ.nil ?_
       intro w90 hb91
       have szw90:=hb91.size
       have T:=Tt T hb91
       refine then_n<|wp_ret ?_
       obtain rfl:=sj hm
       exact (blk_r (then_r (ret1 rfl rfl rfl ⟨rfl,T⟩)))
      replace hm:=cT c89 hm
      refine RQ.y (wantT (dj:=85) rfl (vb rfl c89)) (Y.move (v:=.pointer (some ⟨ba0,oa0,none⟩)) s0)<|RQ.y (wantT (dj:=85) rfl (vb rfl c89)) (Y.nilCheck rfl)<|RQ.y (wantT (dj:=85) rfl (vb rfl c89)) (Y.fieldAddr (off:=2) rfl (by kernel_rfl))<|RQ.y (wantT (dj:=85) rfl (vb rfl c89)) (Y.load (v:=.int .i64 d0.value) rfl (by kernel_rfl) (beC (cellT T (hca0 2 _ rfl)))) ?_
      obtain ⟨y92,e93,hm⟩:=bnd hm
      refine RQ.call (wantT (dj:=85) rfl (vb rfl c89)) (am1 rfl) (by kernel_rfl) (v:=.bool y92) (bel (K:=fun _=>True) fun w' hb'=>(c_m_spec_l11Def d0.value _ e93  w' ))<|RQ.y rfl (Y.pick (b:=true) (v:=.bool y92) (vb rfl c89) rfl)<|RQ.y rfl (Y.assign (v:=.bool y92) rfl)<|RQ.nil ?_
      intro w94 hb95
      have szw94:=hb95.size
      have T:=Tt T hb95
      refine then_n<|wp_ret ?_
      obtain rfl:=sj hm
      exact (blk_r (then_r (ret1 rfl rfl rfl ⟨rfl,T⟩)))
     replace hm:=cT c6 hm
     refine cond_t rfl (vb rfl c6)<|wp_seq<|wp_rb rfl<|RQ.y rfl (Y.move (v:=.pointer (some ⟨ba0,oa0,none⟩)) s0)<|RQ.y rfl (Y.nilCheck rfl)<|RQ.y rfl (Y.fieldAddr (off:=3) rfl (by kernel_rfl))<|RQ.y rfl (Y.load (v:=.slice A1 d0.data.length c1) rfl (by kernel_rfl) (beC (cellT T (hca0 3 _ rfl))))<|RQ.y rfl (Y.len (by kernel_rfl) rfl)<|RQ.y rfl (Y.binI (v:=.bool ((d0.data.length:Int)==0)) rfl rfl rfl)<|RQ.y rfl (Y.move (v:=.bool ((d0.data.length:Int)==0)) rfl) ?_
     rcases bcases ((d0.data.length:Int)==0) with c96|c96
     ·replace hm:=cF c96 hm
      iterate 5 refine RQ.skip (wantN (dj:=70) rfl (vb rfl c96) rfl) ?_
      refine RQ.y rfl (Y.pick (b:=false) (v:=.bool false) (vb rfl c96) rfl)<|RQ.y rfl (Y.assign (v:=.bool false) rfl)<|RQ.nil ?_
      intro w97 hb98
      have szw97:=hb98.size
      have T:=Tt T hb98
      refine then_n<|wp_ret ?_
      obtain rfl:=sj hm
      exact (blk_r (then_r (ret1 rfl rfl rfl ⟨rfl,T⟩)))
     replace hm:=cT c96 hm
     refine RQ.y (wantT (dj:=70) rfl (vb rfl c96)) (Y.move (v:=.pointer (some ⟨ba0,oa0,none⟩)) s0)<|RQ.y (wantT (dj:=70) rfl (vb rfl c96)) (Y.nilCheck rfl)<|RQ.y (wantT (dj:=70) rfl (vb rfl c96)) (Y.fieldAddr (off:=2) rfl (by kernel_rfl))<|RQ.y (wantT (dj:=70) rfl (vb rfl c96)) (Y.load (v:=.int .i64 d0.value) rfl (by kernel_rfl) (beC (cellT T (hca0 2 _ rfl))))<|RQ.call (wantT (dj:=70) rfl (vb rfl c96)) (am3 rfl rfl rfl) (by kernel_rfl) (v:=.bool (inR d0.value 0 3)) (bel (K:=fun _=>True) fun w' hb'=>(callB (spec_l00In d0.value 0 3 w')))<|RQ.y rfl (Y.pick (b:=true) (v:=.bool (inR d0.value 0 3)) (vb rfl c96) rfl)<|RQ.y rfl (Y.assign (v:=.bool (inR d0.value 0 3)) rfl)<|RQ.nil ?_
     intro w99 hb100
     have szw99:=hb100.size
     have T:=Tt T hb100
     refine then_n<|wp_ret ?_
     obtain rfl:=sj hm
     exact (blk_r (then_r (ret1 rfl rfl rfl ⟨rfl,T⟩)))
    replace hm:=cT c5 hm
    refine cond_t rfl (vb rfl c5)<|wp_seq<|wp_rb rfl<|RQ.y rfl (Y.move (v:=.pointer (some ⟨ba0,oa0,none⟩)) s0)<|RQ.y rfl (Y.nilCheck rfl)<|RQ.y rfl (Y.fieldAddr (off:=3) rfl (by kernel_rfl))<|RQ.y rfl (Y.load (v:=.slice A1 d0.data.length c1) rfl (by kernel_rfl) (beC (cellT T (hca0 3 _ rfl))))<|RQ.y rfl (Y.len (by kernel_rfl) rfl)<|RQ.y rfl (Y.binI (v:=.bool ((d0.data.length:Int)==1)) rfl rfl rfl)<|RQ.y rfl (Y.move (v:=.bool ((d0.data.length:Int)==1)) rfl) ?_
    rcases bcases ((d0.data.length:Int)==1) with c101|c101
    ·replace hm:=cF c101 hm
     iterate 5 refine RQ.skip (wantN (dj:=46) rfl (vb rfl c101) rfl) ?_
     refine RQ.y rfl (Y.pick (b:=false) (v:=.bool false) (vb rfl c101) rfl)<|RQ.y rfl (Y.move (v:=.bool false) rfl) ?_
     iterate 7 refine RQ.skip (wantN (dj:=53) rfl rfl rfl) ?_
     refine RQ.y rfl (Y.pick (b:=false) (v:=.bool false) rfl rfl)<|RQ.y rfl (Y.assign (v:=.bool false) rfl)<|RQ.nil ?_
     intro w102 hb103
     have szw102:=hb103.size
     have T:=Tt T hb103
     refine then_n<|wp_ret ?_
     obtain rfl:=sj hm
     exact (blk_r (then_r (ret1 rfl rfl rfl ⟨rfl,T⟩)))
    replace hm:=cT c101 hm
    refine RQ.y (wantT (dj:=46) rfl (vb rfl c101)) (Y.move (v:=.pointer (some ⟨ba0,oa0,none⟩)) s0)<|RQ.y (wantT (dj:=46) rfl (vb rfl c101)) (Y.nilCheck rfl)<|RQ.y (wantT (dj:=46) rfl (vb rfl c101)) (Y.fieldAddr (off:=2) rfl (by kernel_rfl))<|RQ.y (wantT (dj:=46) rfl (vb rfl c101)) (Y.load (v:=.int .i64 d0.value) rfl (by kernel_rfl) (beC (cellT T (hca0 2 _ rfl))))<|RQ.call (wantT (dj:=46) rfl (vb rfl c101)) (am3 rfl rfl rfl) (by kernel_rfl) (v:=.bool (inR d0.value 1 6)) (bel (K:=fun _=>True) fun w' hb'=>(callB (spec_l00In d0.value 1 6 w')))<|RQ.y rfl (Y.pick (b:=true) (v:=.bool (inR d0.value 1 6)) (vb rfl c101) rfl)<|RQ.y rfl (Y.move (v:=.bool (inR d0.value 1 6)) rfl) ?_
    rcases bcases (inR d0.value 1 6) with c104|c104
    ·replace hm:=cF c104 hm
     iterate 7 refine RQ.skip (wantN (dj:=53) rfl (vb rfl c104) rfl) ?_
     refine RQ.y rfl (Y.pick (b:=false) (v:=.bool false) (vb rfl c104) rfl)<|RQ.y rfl (Y.assign (v:=.bool false) rfl)<|RQ.nil ?_
     intro w105 hb106
     have szw105:=hb106.size
     have T:=Tt T hb106
     refine then_n<|wp_ret ?_
     obtain rfl:=sj hm
     exact (blk_r (then_r (ret1 rfl rfl rfl ⟨rfl,T⟩)))
    replace hm:=cT c104 hm
    refine RQ.y (wantT (dj:=53) rfl (vb rfl c104)) (Y.move (v:=.pointer (some ⟨ba0,oa0,none⟩)) s0)<|RQ.y (wantT (dj:=53) rfl (vb rfl c104)) (Y.nilCheck rfl)<|RQ.y (wantT (dj:=53) rfl (vb rfl c104)) (Y.fieldAddr (off:=3) rfl (by kernel_rfl))<|RQ.y (wantT (dj:=53) rfl (vb rfl c104)) (Y.load (v:=.slice A1 d0.data.length c1) rfl (by kernel_rfl) (beC (cellT T (hca0 3 _ rfl)))) ?_
    obtain ⟨x107,hx110,hm⟩:=bnd hm
    obtain ⟨k108,hk111,hl112,hx110⟩:=getI_some hx110
    obtain ⟨b114,o115,rfl,hbb114⟩:=h1.addr (by omega)
    obtain ⟨cs109,hRcs109,hc113⟩:=h1.el hx110
    have hScs109:=hRcs109
    obtain rfl:=hRcs109
    refine RQ.y (wantT (dj:=53) rfl (vb rfl c104)) (Y.indexAddr (m:=k108) (sz:=1) rfl rfl hk111 hl112 (by kernel_rfl))<|RQ.y (wantT (dj:=53) rfl (vb rfl c104)) (Y.load (v:=.int .i64 x107) rfl (by kernel_rfl) (beC (cellT T (hc113 0 _ rfl))))<|RQ.call (wantT (dj:=53) rfl (vb rfl c104)) (am3 rfl rfl rfl) (by kernel_rfl) (v:=.bool (inR x107 (-2147483648) 2147483647)) (bel (K:=fun _=>True) fun w' hb'=>(callB (spec_l00In x107 (-2147483648) 2147483647 w')))<|RQ.y rfl (Y.pick (b:=true) (v:=.bool (inR x107 (-2147483648) 2147483647)) (vb rfl c104) rfl)<|RQ.y rfl (Y.assign (v:=.bool (inR x107 (-2147483648) 2147483647)) rfl)<|RQ.nil ?_
    intro w116 hb117
    have szw116:=hb117.size
    have T:=Tt T hb117
    refine then_n<|wp_ret ?_
    obtain rfl:=sj hm
    exact (blk_r (then_r (ret1 rfl rfl rfl ⟨rfl,T⟩)))
   replace hm:=cT c4 hm
   refine cond_t rfl (vb rfl c4)<|wp_seq<|wp_rb rfl<|RQ.y rfl (Y.move (v:=.pointer (some ⟨ba0,oa0,none⟩)) s0)<|RQ.y rfl (Y.nilCheck rfl)<|RQ.y rfl (Y.fieldAddr (off:=3) rfl (by kernel_rfl))<|RQ.y rfl (Y.load (v:=.slice A1 d0.data.length c1) rfl (by kernel_rfl) (beC (cellT T (hca0 3 _ rfl))))<|RQ.y rfl (Y.len (by kernel_rfl) rfl)<|RQ.y rfl (Y.binI (v:=.bool ((d0.data.length:Int)==0)) rfl rfl rfl)<|RQ.y rfl (Y.move (v:=.bool ((d0.data.length:Int)==0)) rfl) ?_
   rcases bcases ((d0.data.length:Int)==0) with c118|c118
   ·replace hm:=cF c118 hm
    iterate 5 refine RQ.skip (wantN (dj:=31) rfl (vb rfl c118) rfl) ?_
    refine RQ.y rfl (Y.pick (b:=false) (v:=.bool false) (vb rfl c118) rfl)<|RQ.y rfl (Y.assign (v:=.bool false) rfl)<|RQ.nil ?_
    intro w119 hb120
    have szw119:=hb120.size
    have T:=Tt T hb120
    refine then_n<|wp_ret ?_
    obtain rfl:=sj hm
    exact (blk_r (then_r (ret1 rfl rfl rfl ⟨rfl,T⟩)))
   replace hm:=cT c118 hm
   refine RQ.y (wantT (dj:=31) rfl (vb rfl c118)) (Y.move (v:=.pointer (some ⟨ba0,oa0,none⟩)) s0)<|RQ.y (wantT (dj:=31) rfl (vb rfl c118)) (Y.nilCheck rfl)<|RQ.y (wantT (dj:=31) rfl (vb rfl c118)) (Y.fieldAddr (off:=2) rfl (by kernel_rfl))<|RQ.y (wantT (dj:=31) rfl (vb rfl c118)) (Y.load (v:=.int .i64 d0.value) rfl (by kernel_rfl) (beC (cellT T (hca0 2 _ rfl))))<|RQ.call (wantT (dj:=31) rfl (vb rfl c118)) (am3 rfl rfl rfl) (by kernel_rfl) (v:=.bool (inR d0.value 1 6)) (bel (K:=fun _=>True) fun w' hb'=>(callB (spec_l00In d0.value 1 6 w')))<|RQ.y rfl (Y.pick (b:=true) (v:=.bool (inR d0.value 1 6)) (vb rfl c118) rfl)<|RQ.y rfl (Y.assign (v:=.bool (inR d0.value 1 6)) rfl)<|RQ.nil ?_
   intro w121 hb122
   have szw121:=hb122.size
   have T:=Tt T hb122
   refine then_n<|wp_ret ?_
   obtain rfl:=sj hm
   exact (blk_r (then_r (ret1 rfl rfl rfl ⟨rfl,T⟩)))
  replace hm:=cT c3 hm
  refine cond_t rfl (vb rfl c3)<|wp_seq<|wp_rb rfl<|RQ.y rfl (Y.move (v:=.pointer (some ⟨ba0,oa0,none⟩)) s0)<|RQ.y rfl (Y.nilCheck rfl)<|RQ.y rfl (Y.fieldAddr (off:=3) rfl (by kernel_rfl))<|RQ.y rfl (Y.load (v:=.slice A1 d0.data.length c1) rfl (by kernel_rfl) (beC (cellT T (hca0 3 _ rfl))))<|RQ.y rfl (Y.len (by kernel_rfl) rfl)<|RQ.y rfl (Y.binI (v:=.bool ((d0.data.length:Int)==0)) rfl rfl rfl)<|RQ.y rfl (Y.move (v:=.bool ((d0.data.length:Int)==0)) rfl) ?_
  rcases bcases ((d0.data.length:Int)==0) with c123|c123
  ·replace hm:=cF c123 hm
   iterate 5 refine RQ.skip (wantN (dj:=16) rfl (vb rfl c123) rfl) ?_
   refine RQ.y rfl (Y.pick (b:=false) (v:=.bool false) (vb rfl c123) rfl)<|RQ.y rfl (Y.assign (v:=.bool false) rfl)<|RQ.nil ?_
   intro w124 hb125
   have szw124:=hb125.size
   have T:=Tt T hb125
   refine then_n<|wp_ret ?_
   obtain rfl:=sj hm
   exact (blk_r (then_r (ret1 rfl rfl rfl ⟨rfl,T⟩)))
  replace hm:=cT c123 hm
  refine RQ.y (wantT (dj:=16) rfl (vb rfl c123)) (Y.move (v:=.pointer (some ⟨ba0,oa0,none⟩)) s0)<|RQ.y (wantT (dj:=16) rfl (vb rfl c123)) (Y.nilCheck rfl)<|RQ.y (wantT (dj:=16) rfl (vb rfl c123)) (Y.fieldAddr (off:=2) rfl (by kernel_rfl))<|RQ.y (wantT (dj:=16) rfl (vb rfl c123)) (Y.load (v:=.int .i64 d0.value) rfl (by kernel_rfl) (beC (cellT T (hca0 2 _ rfl))))<|RQ.call (wantT (dj:=16) rfl (vb rfl c123)) (am3 rfl rfl rfl) (by kernel_rfl) (v:=.bool (inR d0.value (-2147483648) 2147483647)) (bel (K:=fun _=>True) fun w' hb'=>(callB (spec_l00In d0.value (-2147483648) 2147483647 w')))<|RQ.y rfl (Y.pick (b:=true) (v:=.bool (inR d0.value (-2147483648) 2147483647)) (vb rfl c123) rfl)<|RQ.y rfl (Y.assign (v:=.bool (inR d0.value (-2147483648) 2147483647)) rfl)<|RQ.nil ?_
  intro w126 hb127
  have szw126:=hb127.size
  have T:=Tt T hb127
  refine then_n<|wp_ret ?_
  obtain rfl:=sj hm
  exact (blk_r (then_r (ret1 rfl rfl rfl ⟨rfl,T⟩)))
def m_spec_l11Agent (d0:DAgent):Option Bool:=
  ((m_spec_l11Fields d0).bind fun y3=>(bif (decide ((portsOf d0.kind y3) > 0)) then (bif ((d0.ports.length:Int)==(portsOf d0.kind y3)) then (bif (allowed d0.kind d0.level) then ((m_spec_l11Content d0).bind fun y16=>some y16) else some false) else some false) else some false))
set_option maxHeartbeats 2000000 in
theorem c_m_spec_l11Agent (d0:DAgent) (r:Bool) (hm:m_spec_l11Agent d0=some r) (v0:Value) (w:World) (hv0:Pt agentRd w v0 d0) :
    Calls Tryz.prog 234 #[v0] w fun e w'=>e=.returned (.bool r)∧Below w.heap.size w w':=by
  obtain ⟨ba0,oa0,csa0,rfl,hba0,hRa0,hca0⟩:=hv0
  have hSa0:=hRa0
  obtain ⟨A1,n1,c1,A2,n2,c2,rfl,⟨h1,r1⟩,⟨h2,r2⟩⟩:=hRa0
  have e1:=h1.len; subst e1
  have q1:=len_le r1
  have e2:=h2.len; subst e2
  have q2:=len_le r2
  have T:=Below.refl w.heap.size w
  unfold m_spec_l11Agent at hm
  refine enter 37 Tryz.func234 rfl rfl rfl ?_
  intro f hf
  have s0:f 0=.pointer (some ⟨ba0,oa0,none⟩):=hf 0 _ rfl
  refine wp_seq<|wp_rs rfl<|RQ.y rfl (Y.assign (v:=.bool false) rfl)<|RQ.nil<|then_n<|wp_seq<|wp_rbd (by kernel_rfl) (by kernel_rfl)<|RQ.y rfl (Y.move (v:=.pointer (some ⟨ba0,oa0,none⟩)) s0)<|RQ.y rfl (Y.nilCheck rfl)<|RQ.y rfl (Y.fieldAddr (off:=0) rfl (by kernel_rfl))<|RQ.y rfl (Y.load (v:=.int .i64 d0.kind) rfl (by kernel_rfl) (beC (cellT T (hca0 0 _ rfl))))<|RQ.y rfl (Y.move (v:=.pointer (some ⟨ba0,oa0,none⟩)) s0) ?_
  obtain ⟨y3,e4,hm⟩:=bnd hm
  refine RQ.call rfl (am1 rfl) (by kernel_rfl) (v:=.int .i64 y3) (bel (K:=fun _=>True) fun w' hb'=>(c_m_spec_l11Fields d0 _ e4 _ w' (ptArg agentRd_ok hba0 hSa0 hca0 (Tt T hb'))))<|RQ.call rfl (am2 rfl rfl) (by kernel_rfl) (v:=.int .i64 (portsOf d0.kind y3)) (bel (K:=fun _=>True) fun w' hb'=>(callB (spec_PortsOf d0.kind y3 w')))<|RQ.y rfl (Y.assign (v:=.int .i64 (portsOf d0.kind y3)) rfl)<|RQ.nil ?_
  intro w5 hb6
  have szw5:=hb6.size
  have T:=Tt T hb6
  refine then_n<|wp_seq<|wp_rbd (by kernel_rfl) (by kernel_rfl)<|RQ.y rfl (Y.move (v:=.int .i64 (portsOf d0.kind y3)) rfl)<|RQ.y rfl (Y.binI (v:=.bool (decide ((portsOf d0.kind y3) > 0))) rfl rfl rfl)<|RQ.y rfl (Y.move (v:=.bool (decide ((portsOf d0.kind y3) > 0))) rfl) ?_
  rcases bcases (decide ((portsOf d0.kind y3) > 0)) with c7|c7
  ·replace hm:=cF c7 hm
   have pc7:=of_decide_eq_false c7
   iterate 7 refine RQ.skip (wantN (dj:=13) rfl (vb rfl c7) rfl) ?_
   refine RQ.y rfl (Y.pick (b:=false) (v:=.bool false) (vb rfl c7) rfl)<|RQ.y rfl (Y.move (v:=.bool false) rfl) ?_
   iterate 9 refine RQ.skip (wantN (dj:=22) rfl rfl rfl) ?_
   refine RQ.y rfl (Y.pick (b:=false) (v:=.bool false) rfl rfl)<|RQ.y rfl (Y.move (v:=.bool false) rfl)<|RQ.skip (wantN (dj:=33) rfl rfl rfl)<|RQ.skip (wantN (dj:=33) rfl rfl rfl)<|RQ.y rfl (Y.pick (b:=false) (v:=.bool false) rfl rfl)<|RQ.y rfl (Y.assign (v:=.bool false) rfl)<|RQ.nil ?_
   intro w8 hb9
   have szw8:=hb9.size
   have T:=Tt T hb9
   refine then_n<|wp_ret ?_
   obtain rfl:=sj hm
   exact (ret1 rfl rfl rfl ⟨rfl,T⟩)
  replace hm:=cT c7 hm
  have pc7:=of_decide_eq_true c7
  refine RQ.y (wantT (dj:=13) rfl (vb rfl c7)) (Y.move (v:=.pointer (some ⟨ba0,oa0,none⟩)) s0)<|RQ.y (wantT (dj:=13) rfl (vb rfl c7)) (Y.nilCheck rfl)<|RQ.y (wantT (dj:=13) rfl (vb rfl c7)) (Y.fieldAddr (off:=4) rfl (by kernel_rfl))<|RQ.y (wantT (dj:=13) rfl (vb rfl c7)) (Y.load (v:=.slice A2 d0.ports.length c2) rfl (by kernel_rfl) (beC (cellT T (hca0 4 _ rfl))))<|RQ.y (wantT (dj:=13) rfl (vb rfl c7)) (Y.len (by kernel_rfl) rfl)<|RQ.y (wantT (dj:=13) rfl (vb rfl c7)) (Y.move (v:=.int .i64 (portsOf d0.kind y3)) rfl)<|RQ.y (wantT (dj:=13) rfl (vb rfl c7)) (Y.binI (v:=.bool ((d0.ports.length:Int)==(portsOf d0.kind y3))) rfl rfl rfl)<|RQ.y rfl (Y.pick (b:=true) (v:=.bool ((d0.ports.length:Int)==(portsOf d0.kind y3))) (vb rfl c7) rfl)<|RQ.y rfl (Y.move (v:=.bool ((d0.ports.length:Int)==(portsOf d0.kind y3))) rfl) ?_
  rcases bcases ((d0.ports.length:Int)==(portsOf d0.kind y3)) with c10|c10
  ·replace hm:=cF c10 hm
   iterate 9 refine RQ.skip (wantN (dj:=22) rfl (vb rfl c10) rfl) ?_
   refine RQ.y rfl (Y.pick (b:=false) (v:=.bool false) (vb rfl c10) rfl)<|RQ.y rfl (Y.move (v:=.bool false) rfl)<|RQ.skip (wantN (dj:=33) rfl rfl rfl)<|RQ.skip (wantN (dj:=33) rfl rfl rfl)<|RQ.y rfl (Y.pick (b:=false) (v:=.bool false) rfl rfl)<|RQ.y rfl (Y.assign (v:=.bool false) rfl)<|RQ.nil ?_
   intro w11 hb12
   have szw11:=hb12.size
   have T:=Tt T hb12
   refine then_n<|wp_ret ?_
   obtain rfl:=sj hm
   exact (ret1 rfl rfl rfl ⟨rfl,T⟩)
  replace hm:=cT c10 hm
  refine RQ.y (wantT (dj:=22) rfl (vb rfl c10)) (Y.move (v:=.pointer (some ⟨ba0,oa0,none⟩)) s0)<|RQ.y (wantT (dj:=22) rfl (vb rfl c10)) (Y.nilCheck rfl)<|RQ.y (wantT (dj:=22) rfl (vb rfl c10)) (Y.fieldAddr (off:=0) rfl (by kernel_rfl))<|RQ.y (wantT (dj:=22) rfl (vb rfl c10)) (Y.load (v:=.int .i64 d0.kind) rfl (by kernel_rfl) (beC (cellT T (hca0 0 _ rfl))))<|RQ.y (wantT (dj:=22) rfl (vb rfl c10)) (Y.move (v:=.pointer (some ⟨ba0,oa0,none⟩)) s0)<|RQ.y (wantT (dj:=22) rfl (vb rfl c10)) (Y.nilCheck rfl)<|RQ.y (wantT (dj:=22) rfl (vb rfl c10)) (Y.fieldAddr (off:=1) rfl (by kernel_rfl))<|RQ.y (wantT (dj:=22) rfl (vb rfl c10)) (Y.load (v:=.int .i64 d0.level) rfl (by kernel_rfl) (beC (cellT T (hca0 1 _ rfl))))<|RQ.call (wantT (dj:=22) rfl (vb rfl c10)) (am2 rfl rfl) (by kernel_rfl) (v:=.bool (allowed d0.kind d0.level)) (bel (K:=fun _=>True) fun w' hb'=>(callB (spec_l10Level d0.kind d0.level w')))<|RQ.y rfl (Y.pick (b:=true) (v:=.bool (allowed d0.kind d0.level)) (vb rfl c10) rfl)<|RQ.y rfl (Y.move (v:=.bool (allowed d0.kind d0.level)) rfl) ?_
  rcases bcases (allowed d0.kind d0.level) with c13|c13
  ·replace hm:=cF c13 hm
   refine RQ.skip (wantN (dj:=33) rfl (vb rfl c13) rfl)<|RQ.skip (wantN (dj:=33) rfl (vb rfl c13) rfl)<|RQ.y rfl (Y.pick (b:=false) (v:=.bool false) (vb rfl c13) rfl)<|RQ.y rfl (Y.assign (v:=.bool false) rfl)<|RQ.nil ?_
   intro w14 hb15
   have szw14:=hb15.size
   have T:=Tt T hb15
   refine then_n<|wp_ret ?_
   obtain rfl:=sj hm
   exact (ret1 rfl rfl rfl ⟨rfl,T⟩)
  replace hm:=cT c13 hm
  refine RQ.y (wantT (dj:=33) rfl (vb rfl c13)) (Y.move (v:=.pointer (some ⟨ba0,oa0,none⟩)) s0) ?_
  obtain ⟨y16,e17,hm⟩:=bnd hm
  refine RQ.call (wantT (dj:=33) rfl (vb rfl c13)) (am1 rfl) (by kernel_rfl) (v:=.bool y16) (bel (K:=fun _=>True) fun w' hb'=>(c_m_spec_l11Content d0 _ e17 _ w' (ptArg agentRd_ok hba0 hSa0 hca0 (Tt T hb'))))<|RQ.y rfl (Y.pick (b:=true) (v:=.bool y16) (vb rfl c13) rfl)<|RQ.y rfl (Y.assign (v:=.bool y16) rfl)<|RQ.nil ?_
  intro w18 hb19
  have szw18:=hb19.size
  have T:=Tt T hb19
  refine then_n<|wp_ret ?_
  obtain rfl:=sj hm
  exact (ret1 rfl rfl rfl ⟨rfl,T⟩)
def m_spec_l11Agents_A1:Option Bool:=
  some true
def m_spec_l11Agents_B1 (d0:List DAgent) (rec1:Int→Option Bool) (K1:Option Bool) (i5:Int):Option Bool:=
  (bif (decide (i5 < (d0.length:Int))) then ((getI d0 i5).bind fun x8=>((m_spec_l11Agent x8).bind fun y19=>(bif y19 then ((getI d0 i5).bind fun x24=>(bif ((x24.kind==1) != (i5==0)) then some false else (rec1 (i5+1)))) else some false))) else (K1))
def m_spec_l11Agents_L1 (d0:List DAgent) (K1:Option Bool):Nat→Int→Option Bool
  |0,_=>none
  |g+1,i5=>m_spec_l11Agents_B1 d0 (m_spec_l11Agents_L1 d0 K1 g) K1 i5
def m_spec_l11Agents (d0:List DAgent):Option Bool:=
  (bif (inR (d0.length:Int) 1 600) then (m_spec_l11Agents_L1 d0 m_spec_l11Agents_A1 (d0.length+1) 0) else some false)
set_option maxHeartbeats 2000000 in
theorem c_m_spec_l11Agents (d0:List DAgent) (r:Bool) (hm:m_spec_l11Agents d0=some r) (v0:Value) (w:World) (hv0:Sl agentRd 5 w v0 d0) :
    Calls Tryz.prog 198 #[v0] w fun e w'=>e=.returned (.bool r)∧Below w.heap.size w w':=by
  obtain ⟨Aa0,na0,ca0,rfl,ha0,ra0⟩:=hv0
  have ea0:=ha0.len; subst ea0
  have qa0:=len_le ra0
  have T:=Below.refl w.heap.size w
  unfold m_spec_l11Agents at hm
  refine enter 30 Tryz.func198 rfl rfl rfl ?_
  intro f hf
  have s0:f 0=.slice Aa0 d0.length ca0:=hf 0 _ rfl
  refine wp_seq<|wp_rs rfl<|RQ.y rfl (Y.assign (v:=.bool false) rfl)<|RQ.nil<|then_n<|wp_seq<|wp_seq<|wp_rb rfl<|RQ.y rfl (Y.move (v:=.slice Aa0 d0.length ca0) s0)<|RQ.y rfl (Y.len (by kernel_rfl) rfl)<|RQ.call rfl (am3 rfl rfl rfl) (by kernel_rfl) (v:=.bool (inR (d0.length:Int) 1 600)) (bel (K:=fun _=>True) fun w' hb'=>(callB (spec_l00In (d0.length:Int) 1 600 w')))<|RQ.y rfl (Y.not (b':=(!(inR (d0.length:Int) 1 600))) rfl rfl)<|RQ.nil ?_
  intro w1 hb2
  have szw1:=hb2.size
  have T:=Tt T hb2
  refine then_n ?_
  rcases bcases (inR (d0.length:Int) 1 600) with c3|c3
  ·replace hm:=cF c3 hm
   refine cond_t rfl (vbn rfl c3 rfl)<|wp_seq<|wp_rs rfl<|RQ.y rfl (Y.assign (v:=.bool false) rfl)<|RQ.nil<|then_n<|wp_ret ?_
   obtain rfl:=sj hm
   exact (then_r (ret1 rfl rfl rfl ⟨rfl,T⟩))
  replace hm:=cT c3 hm
  refine cond_f rfl (vbn rfl c3 rfl)<|wp_skip<|then_n<|wp_seq<|wp_seq<|wp_rs rfl<|RQ.y rfl (Y.assign (v:=.int .i64 0) rfl)<|RQ.nil<|then_n<|wp_block ?_
  obtain ⟨K1,hK1,hm⟩ :∃K,K=m_spec_l11Agents_A1∧m_spec_l11Agents_L1 d0 K (d0.length+1) 0=some r:=⟨_,rfl,hm⟩
  refine wp_loopX (fun g f w'=>∃(i5:Int),f 0=.slice Aa0 d0.length ca0∧f 3=.int .i64 i5∧0≤i5∧Below w.heap.size w w'∧m_spec_l11Agents_L1 d0 K1 g i5=some r) 0 (fun f w'=>Below w.heap.size w w'∧m_spec_l11Agents_A1  = some r) (d0.length+1) ⟨0,s0,rfl,(by omega),T,hm⟩ ?_ ?_
  ·rintro f w4 ⟨T,hm⟩
   unfold m_spec_l11Agents_A1 at hm
   refine blk_hit (then_n ?_)
   refine wp_seq<|wp_rs rfl<|RQ.y rfl (Y.assign (v:=.bool true) rfl)<|RQ.nil<|then_n<|wp_ret ?_
   obtain rfl:=sj hm
   exact (ret1 rfl rfl rfl ⟨rfl,T⟩)
  rintro g f w6 ⟨i5,s0_1,s3_1,nn3_1,T,hm⟩
  rcases g with _|g
  ·simp only [m_spec_l11Agents_L1] at hm; cases hm
  obtain ⟨rec1,hrec1,hm⟩ :∃z,z=m_spec_l11Agents_L1 d0 K1 g∧m_spec_l11Agents_B1 d0 z K1 i5=some r:=⟨_,rfl,hm⟩
  unfold m_spec_l11Agents_B1 at hm
  refine wp_seq<|wp_seq<|wp_rs rfl<|RQ.y rfl (Y.move (v:=.int .i64 i5) s3_1)<|RQ.y rfl (Y.move (v:=.slice Aa0 d0.length ca0) s0_1)<|RQ.y rfl (Y.len (by kernel_rfl) rfl)<|RQ.y rfl (Y.binI (v:=.bool (decide (i5 < (d0.length:Int)))) rfl rfl rfl)<|RQ.nil<|then_n ?_
  rcases bcases (decide (i5 < (d0.length:Int))) with c7|c7
  ·replace hm:=cF c7 hm
   have pc7:=of_decide_eq_false c7
   refine cond_f rfl (vb rfl c7)<|wp_exit ?_
   exact (then_x (then_x (hit_x ⟨_,rfl,⟨T,(by rw [hK1] at hm; exact hm)⟩⟩)))
  replace hm:=cT c7 hm
  have pc7:=of_decide_eq_true c7
  refine cond_t rfl (vb rfl c7)<|wp_skip<|then_n<|wp_seq<|wp_block<|wp_seq<|wp_rb rfl<|RQ.y rfl (Y.move (v:=.slice Aa0 d0.length ca0) s0_1)<|RQ.y rfl (Y.move (v:=.int .i64 i5) s3_1) ?_
  obtain ⟨x8,hx11,hm⟩:=bnd hm
  obtain ⟨k9,hk12,hl13,hx11⟩:=getI_some hx11
  obtain ⟨b15,o16,rfl,hbb15⟩:=ha0.addr (by omega)
  obtain ⟨cs10,hRcs10,hc14⟩:=ha0.el hx11
  have hScs10:=hRcs10
  obtain ⟨A17,n17,c17,A18,n18,c18,rfl,⟨h17,r17⟩,⟨h18,r18⟩⟩:=hRcs10
  have e17:=h17.len; subst e17
  have q17:=len_le r17
  have e18:=h18.len; subst e18
  have q18:=len_le r18
  refine RQ.y rfl (Y.indexAddr (m:=k9) (sz:=5) rfl rfl hk12 hl13 (by kernel_rfl)) ?_
  obtain ⟨y19,e20,hm⟩:=bnd hm
  refine RQ.call rfl (am1 rfl) (by kernel_rfl) (v:=.bool y19) (bel (K:=fun _=>True) fun w' hb'=>(c_m_spec_l11Agent x8 _ e20 _ w' (ptArg agentRd_ok hbb15 hScs10 hc14 (Tt T hb'))))<|RQ.y rfl (Y.not (b':=(!y19)) rfl rfl)<|RQ.y rfl (Y.move (v:=.bool (!y19)) rfl) ?_
  rcases bcases y19 with c21|c21
  ·replace hm:=cF c21 hm
   iterate 9 refine RQ.skip (wantN (dj:=19) rfl (vbn rfl c21 rfl) rfl) ?_
   refine RQ.y rfl (Y.pick (b:=true) (v:=.bool true) (vbn rfl c21 rfl) rfl)<|RQ.nil ?_
   intro w22 hb23
   have szw22:=hb23.size
   have T:=Tt T hb23
   refine then_n<|cond_t rfl rfl<|wp_seq<|wp_rs rfl<|RQ.y rfl (Y.assign (v:=.bool false) rfl)<|RQ.nil<|then_n<|wp_ret ?_
   obtain rfl:=sj hm
   exact (blk_r (then_r (then_r (hit_r (blk_r (then_r (ret1 rfl rfl rfl ⟨rfl,T⟩)))))))
  replace hm:=cT c21 hm
  refine RQ.y (wantT (dj:=19) rfl (vbn rfl c21 rfl)) (Y.move (v:=.slice (some ⟨b15,o16,none⟩) d0.length ca0) s0_1)<|RQ.y (wantT (dj:=19) rfl (vbn rfl c21 rfl)) (Y.move (v:=.int .i64 i5) s3_1) ?_
  obtain ⟨x24,hx27,hm⟩:=bnd hm
  obtain ⟨k25,hk28,hl29,hx27⟩:=getI_some hx27
  obtain ⟨cs26,hRcs26,hc30⟩:=ha0.el hx27
  have hScs26:=hRcs26
  obtain ⟨A31,n31,c31,A32,n32,c32,rfl,⟨h31,r31⟩,⟨h32,r32⟩⟩:=hRcs26
  have e31:=h31.len; subst e31
  have q31:=len_le r31
  have e32:=h32.len; subst e32
  have q32:=len_le r32
  refine RQ.y (wantT (dj:=19) rfl (vbn rfl c21 rfl)) (Y.indexAddr (m:=k25) (sz:=5) rfl rfl hk28 hl29 (by kernel_rfl))<|RQ.y (wantT (dj:=19) rfl (vbn rfl c21 rfl)) (Y.fieldAddr (off:=0) rfl (by kernel_rfl))<|RQ.y (wantT (dj:=19) rfl (vbn rfl c21 rfl)) (Y.load (v:=.int .i64 x24.kind) rfl (by kernel_rfl) (beC (cellT T (hc30 0 _ rfl))))<|RQ.y (wantT (dj:=19) rfl (vbn rfl c21 rfl)) (Y.binI (v:=.bool (x24.kind==1)) rfl rfl rfl)<|RQ.y (wantT (dj:=19) rfl (vbn rfl c21 rfl)) (Y.move (v:=.int .i64 i5) s3_1)<|RQ.y (wantT (dj:=19) rfl (vbn rfl c21 rfl)) (Y.binI (v:=.bool (i5==0)) rfl rfl rfl)<|RQ.y (wantT (dj:=19) rfl (vbn rfl c21 rfl)) (Y.beq (c:=((x24.kind==1) != (i5==0))) (by kernel_rfl) rfl rfl (.inr ⟨rfl,rfl⟩))<|RQ.y rfl (Y.pick (b:=false) (v:=.bool ((x24.kind==1) != (i5==0))) (vbn rfl c21 rfl) rfl)<|RQ.nil ?_
  intro w33 hb34
  have szw33:=hb34.size
  have T:=Tt T hb34
  refine then_n ?_
  rcases bcases ((x24.kind==1) != (i5==0)) with c35|c35
  ·replace hm:=cF c35 hm
   refine cond_f rfl (vb rfl c35)<|wp_skip ?_
   refine blk_n (then_n ?_)
   refine wp_rs rfl<|RQ.y rfl (Y.move (v:=.int .i64 i5) s3_1)<|RQ.y rfl (Y.binI rfl rfl (binI_add (m:=i5) (by omega)))<|RQ.y rfl (Y.assign (v:=.int .i64 (i5+1)) rfl)<|RQ.nil ?_
   exact (then_n ⟨g,_,Nat.lt_succ_self _,rfl,⟨(i5+1),s0_1,rfl,(by omega),T,(by rw [← hrec1]; exact hm)⟩⟩)
  replace hm:=cT c35 hm
  refine cond_t rfl (vb rfl c35)<|wp_seq<|wp_rs rfl<|RQ.y rfl (Y.assign (v:=.bool false) rfl)<|RQ.nil<|then_n<|wp_ret ?_
  obtain rfl:=sj hm
  exact (blk_r (then_r (then_r (hit_r (blk_r (then_r (ret1 rfl rfl rfl ⟨rfl,T⟩)))))))
def m_spec_l11Port (d0:List DAgent) (d1:DPort):Option Bool:=
  ((ck ((d0.length:Int) - 1)).bind fun s5=>(bif (inR d1.agent 0 s5) then ((getI d0 d1.agent).bind fun x9=>((ck ((x9.ports.length:Int) - 1)).bind fun s20=>some (inR d1.slot 0 s20))) else some false))
set_option maxHeartbeats 2000000 in
theorem c_m_spec_l11Port (d0:List DAgent) (d1:DPort) (r:Bool) (hm:m_spec_l11Port d0 d1=some r) (v0:Value) (w:World) (hv0:Sl agentRd 5 w v0 d0) :
    Calls Tryz.prog 199 #[v0,.agg #[.int .i64 d1.agent,.int .i64 d1.slot]] w fun e w'=>e=.returned (.bool r)∧Below w.heap.size w w':=by
  obtain ⟨Aa0,na0,ca0,rfl,ha0,ra0⟩:=hv0
  have ea0:=ha0.len; subst ea0
  have qa0:=len_le ra0
  have T:=Below.refl w.heap.size w
  unfold m_spec_l11Port at hm
  refine enter 24 Tryz.func199 rfl rfl rfl ?_
  intro f hf
  have s0:f 0=.slice Aa0 d0.length ca0:=hf 0 _ rfl
  have s1:f 1=.agg #[.int .i64 d1.agent,.int .i64 d1.slot]:=hf 1 _ rfl
  refine wp_seq<|wp_rl rfl ?_
  refine RL.box rfl s1 (fun w1 B2 hb3 szw1=>?_)
  replace B2:Blk w1 w.heap.size 161 #[.int .i64 d1.agent,.int .i64 d1.slot]:=B2
  have GB2:w.heap.size≤w.heap.size:=T.size
  have T:=Tt T hb3
  refine RL.y rfl (Y.assign (v:=.bool false) rfl)<|RL.nil<|then_n<|wp_seq<|wp_rbd (by kernel_rfl) (by kernel_rfl)<|RQ.y rfl (Y.fieldAddr (off:=0) rfl (by kernel_rfl))<|RQ.y rfl (Y.load (v:=.int .i64 d1.agent) rfl (by kernel_rfl) (beC (blkCell B2 (i:=0) rfl)))<|RQ.y rfl (Y.move (v:=.slice Aa0 d0.length ca0) s0)<|RQ.y rfl (Y.len (by kernel_rfl) rfl) ?_
  obtain ⟨s5,ks5,hm⟩:=bnd hm
  replace ks5:=ck_some ks5
  refine RQ.y rfl (Y.binI (v:=.int .i64 s5) rfl rfl (by rw [binI_sub ks5.2,ks5.1]))<|RQ.call rfl (am3 rfl rfl rfl) (by kernel_rfl) (v:=.bool (inR d1.agent 0 s5)) (bel (K:=fun _=>True) fun w' hb'=>(callB (spec_l00In d1.agent 0 s5 w')))<|RQ.y rfl (Y.move (v:=.bool (inR d1.agent 0 s5)) rfl) ?_
  rcases bcases (inR d1.agent 0 s5) with c6|c6
  ·replace hm:=cF c6 hm
   iterate 11 refine RQ.skip (wantN (dj:=11) rfl (vb rfl c6) rfl) ?_
   refine RQ.y rfl (Y.pick (b:=false) (v:=.bool false) (vb rfl c6) rfl)<|RQ.y rfl (Y.assign (v:=.bool false) rfl)<|RQ.nil ?_
   intro w7 hb8
   have szw7:=hb8.size
   have T:=Tt T hb8
   refine then_n<|wp_ret ?_
   obtain rfl:=sj hm
   exact (ret1 rfl rfl rfl ⟨rfl,T⟩)
  replace hm:=cT c6 hm
  refine RQ.y (wantT (dj:=11) rfl (vb rfl c6)) (Y.fieldAddr (off:=1) rfl (by kernel_rfl))<|RQ.y (wantT (dj:=11) rfl (vb rfl c6)) (Y.load (v:=.int .i64 d1.slot) rfl (by kernel_rfl) (beC (blkCell B2 (i:=1) rfl)))<|RQ.y (wantT (dj:=11) rfl (vb rfl c6)) (Y.move (v:=.slice Aa0 d0.length ca0) s0)<|RQ.y (wantT (dj:=11) rfl (vb rfl c6)) (Y.fieldAddr (off:=0) rfl (by kernel_rfl))<|RQ.y (wantT (dj:=11) rfl (vb rfl c6)) (Y.load (v:=.int .i64 d1.agent) rfl (by kernel_rfl) (beC (blkCell B2 (i:=0) rfl))) ?_
  obtain ⟨x9,hx12,hm⟩:=bnd hm
  obtain ⟨k10,hk13,hl14,hx12⟩:=getI_some hx12
  obtain ⟨b16,o17,rfl,hbb16⟩:=ha0.addr (by omega)
  obtain ⟨cs11,hRcs11,hc15⟩:=ha0.el hx12
  have hScs11:=hRcs11
  obtain ⟨A18,n18,c18,A19,n19,c19,rfl,⟨h18,r18⟩,⟨h19,r19⟩⟩:=hRcs11
  have e18:=h18.len; subst e18
  have q18:=len_le r18
  have e19:=h19.len; subst e19
  have q19:=len_le r19
  refine RQ.y (wantT (dj:=11) rfl (vb rfl c6)) (Y.indexAddr (m:=k10) (sz:=5) rfl rfl hk13 hl14 (by kernel_rfl))<|RQ.y (wantT (dj:=11) rfl (vb rfl c6)) (Y.fieldAddr (off:=4) rfl (by kernel_rfl))<|RQ.y (wantT (dj:=11) rfl (vb rfl c6)) (Y.load (v:=.slice A19 x9.ports.length c19) rfl (by kernel_rfl) (beC (cellT T (hc15 4 _ rfl))))<|RQ.y (wantT (dj:=11) rfl (vb rfl c6)) (Y.len (by kernel_rfl) rfl) ?_
  obtain ⟨s20,ks20,hm⟩:=bnd hm
  replace ks20:=ck_some ks20
  refine RQ.y (wantT (dj:=11) rfl (vb rfl c6)) (Y.binI (v:=.int .i64 s20) rfl rfl (by rw [binI_sub ks20.2,ks20.1]))<|RQ.call (wantT (dj:=11) rfl (vb rfl c6)) (am3 rfl rfl rfl) (by kernel_rfl) (v:=.bool (inR d1.slot 0 s20)) (bel (K:=fun _=>True) fun w' hb'=>(callB (spec_l00In d1.slot 0 s20 w')))<|RQ.y rfl (Y.pick (b:=true) (v:=.bool (inR d1.slot 0 s20)) (vb rfl c6) rfl)<|RQ.y rfl (Y.assign (v:=.bool (inR d1.slot 0 s20)) rfl)<|RQ.nil ?_
  intro w21 hb22
  have szw21:=hb22.size
  have T:=Tt T hb22
  refine then_n<|wp_ret ?_
  obtain rfl:=sj hm
  exact (ret1 rfl rfl rfl ⟨rfl,T⟩)
def m_spec_l11Ok_A1:Option Bool:=
  some true
def m_spec_l11Ok_A2 (rec1:Int→Option Bool) (i8:Int):Option Bool:=
  ((ck (i8+1)).bind fun s23=>(rec1 s23))
def m_spec_l11Ok_B2 (d0:DNet) (i8:Int) (x11:DAgent) (rec2:Int→Option Bool) (K2:Option Bool) (i24:Int):Option Bool:=
  (bif (decide (i24 < (x11.ports.length:Int))) then ((getI x11.ports i24).bind fun x34=>(bif (x34.agent==i8 && x34.slot==i24) then some false else ((m_spec_l11Port d0.agents x34).bind fun y51=>(bif y51 then ((getI d0.agents x34.agent).bind fun x56=>((getI x56.ports x34.slot).bind fun x65=>(bif (x65.agent==i8 && x65.slot==i24) then (rec2 (i24+1)) else some false))) else some false)))) else (K2))
def m_spec_l11Ok_L2 (d0:DNet) (i8:Int) (x11:DAgent) (K2:Option Bool):Nat→Int→Option Bool
  |0,_=>none
  |g+1,i24=>m_spec_l11Ok_B2 d0 i8 x11 (m_spec_l11Ok_L2 d0 i8 x11 K2 g) K2 i24
def m_spec_l11Ok_B1 (d0:DNet) (rec1:Int→Option Bool) (K1:Option Bool) (i8:Int):Option Bool:=
  (bif (decide (i8 < (d0.agents.length:Int))) then ((getI d0.agents i8).bind fun x11=>(m_spec_l11Ok_L2 d0 i8 x11 (m_spec_l11Ok_A2 rec1 i8) (x11.ports.length+1) 0)) else (K1))
def m_spec_l11Ok_L1 (d0:DNet) (K1:Option Bool):Nat→Int→Option Bool
  |0,_=>none
  |g+1,i8=>m_spec_l11Ok_B1 d0 (m_spec_l11Ok_L1 d0 K1 g) K1 i8
def m_spec_l11Ok (d0:DNet):Option Bool:=
  ((m_spec_l11Agents d0.agents).bind fun y2=>(bif y2 then (m_spec_l11Ok_L1 d0 m_spec_l11Ok_A1 (d0.agents.length+1) 0) else some false))
set_option maxHeartbeats 2000000 in
theorem c_m_spec_l11Ok (d0:DNet) (r:Bool) (hm:m_spec_l11Ok d0=some r) (v0:Value) (w:World) (hv0:Pt netRd w v0 d0) :
    Calls Tryz.prog 139 #[v0] w fun e w'=>e=.returned (.bool r)∧Below w.heap.size w w':=by
  obtain ⟨ba0,oa0,csa0,rfl,hba0,hRa0,hca0⟩:=hv0
  have hSa0:=hRa0
  obtain ⟨A1,n1,c1,rfl,⟨h1,r1⟩⟩:=hRa0
  have e1:=h1.len; subst e1
  have q1:=len_le r1
  have T:=Below.refl w.heap.size w
  unfold m_spec_l11Ok at hm
  refine enter 77 Tryz.func139 rfl rfl rfl ?_
  intro f hf
  have s0:f 0=.pointer (some ⟨ba0,oa0,none⟩):=hf 0 _ rfl
  refine wp_seq<|wp_rs rfl<|RQ.y rfl (Y.assign (v:=.bool false) rfl)<|RQ.nil<|then_n<|wp_seq<|wp_seq<|wp_rb rfl<|RQ.y rfl (Y.move (v:=.pointer (some ⟨ba0,oa0,none⟩)) s0)<|RQ.y rfl (Y.nilCheck rfl)<|RQ.y rfl (Y.fieldAddr (off:=0) rfl (by kernel_rfl))<|RQ.y rfl (Y.load (v:=.slice A1 d0.agents.length c1) rfl (by kernel_rfl) (beC (cellT T (hca0 0 _ rfl)))) ?_
  obtain ⟨y2,e3,hm⟩:=bnd hm
  refine RQ.call rfl (am1 rfl) (by kernel_rfl) (v:=.bool y2) (bel (K:=fun _=>True) fun w' hb'=>(c_m_spec_l11Agents d0.agents _ e3 _ w' (slArg agentRd_ok h1 r1 (Tt T hb'))))<|RQ.y rfl (Y.not (b':=(!y2)) rfl rfl)<|RQ.nil ?_
  intro w4 hb5
  have szw4:=hb5.size
  have T:=Tt T hb5
  refine then_n ?_
  rcases bcases y2 with c6|c6
  ·replace hm:=cF c6 hm
   refine cond_t rfl (vbn rfl c6 rfl)<|wp_seq<|wp_rs rfl<|RQ.y rfl (Y.assign (v:=.bool false) rfl)<|RQ.nil<|then_n<|wp_ret ?_
   obtain rfl:=sj hm
   exact (then_r (ret1 rfl rfl rfl ⟨rfl,T⟩))
  replace hm:=cT c6 hm
  refine cond_f rfl (vbn rfl c6 rfl)<|wp_skip<|then_n<|wp_seq<|wp_seq<|wp_rs rfl<|RQ.y rfl (Y.assign (v:=.int .i64 0) rfl)<|RQ.nil<|then_n<|wp_block ?_
  obtain ⟨K1,hK1,hm⟩ :∃K,K=m_spec_l11Ok_A1∧m_spec_l11Ok_L1 d0 K (d0.agents.length+1) 0=some r:=⟨_,rfl,hm⟩
  refine wp_loopX (fun g f w'=>∃(i8:Int),f 0=.pointer (some ⟨ba0,oa0,none⟩)∧f 3=.int .i64 i8∧0≤i8∧Below w.heap.size w w'∧m_spec_l11Ok_L1 d0 K1 g i8=some r) 0 (fun f w'=>Below w.heap.size w w'∧m_spec_l11Ok_A1  = some r) (d0.agents.length+1) ⟨0,s0,rfl,(by omega),T,hm⟩ ?_ ?_
  ·rintro f w7 ⟨T,hm⟩
   unfold m_spec_l11Ok_A1 at hm
   refine blk_hit (then_n ?_)
   refine wp_seq<|wp_rs rfl<|RQ.y rfl (Y.assign (v:=.bool true) rfl)<|RQ.nil<|then_n<|wp_ret ?_
   obtain rfl:=sj hm
   exact (ret1 rfl rfl rfl ⟨rfl,T⟩)
  rintro g f w9 ⟨i8,s0_1,s3_1,nn3_1,T,hm⟩
  rcases g with _|g
  ·simp only [m_spec_l11Ok_L1] at hm; cases hm
  obtain ⟨rec1,hrec1,hm⟩ :∃z,z=m_spec_l11Ok_L1 d0 K1 g∧m_spec_l11Ok_B1 d0 z K1 i8=some r:=⟨_,rfl,hm⟩
  unfold m_spec_l11Ok_B1 at hm
  refine wp_seq<|wp_seq<|wp_rs rfl<|RQ.y rfl (Y.move (v:=.int .i64 i8) s3_1)<|RQ.y rfl (Y.move (v:=.pointer (some ⟨ba0,oa0,none⟩)) s0_1)<|RQ.y rfl (Y.nilCheck rfl)<|RQ.y rfl (Y.fieldAddr (off:=0) rfl (by kernel_rfl))<|RQ.y rfl (Y.load (v:=.slice A1 d0.agents.length c1) rfl (by kernel_rfl) (eqC (cellT T (hca0 0 _ rfl))))<|RQ.y rfl (Y.len (by kernel_rfl) rfl)<|RQ.y rfl (Y.binI (v:=.bool (decide (i8 < (d0.agents.length:Int)))) rfl rfl rfl)<|RQ.nil<|then_n ?_
  rcases bcases (decide (i8 < (d0.agents.length:Int))) with c10|c10
  ·replace hm:=cF c10 hm
   have pc10:=of_decide_eq_false c10
   refine cond_f rfl (vb rfl c10)<|wp_exit ?_
   exact (then_x (then_x (hit_x ⟨_,rfl,⟨T,(by rw [hK1] at hm; exact hm)⟩⟩)))
  replace hm:=cT c10 hm
  have pc10:=of_decide_eq_true c10
  refine cond_t rfl (vb rfl c10)<|wp_skip<|then_n<|wp_seq<|wp_block<|wp_seq<|wp_rs rfl<|RQ.y rfl (Y.move (v:=.pointer (some ⟨ba0,oa0,none⟩)) s0_1)<|RQ.y rfl (Y.nilCheck rfl)<|RQ.y rfl (Y.fieldAddr (off:=0) rfl (by kernel_rfl))<|RQ.y rfl (Y.load (v:=.slice A1 d0.agents.length c1) rfl (by kernel_rfl) (eqC (cellT T (hca0 0 _ rfl))))<|RQ.y rfl (Y.move (v:=.int .i64 i8) s3_1) ?_
  obtain ⟨x11,hx14,hm⟩:=bnd hm
  obtain ⟨k12,hk15,hl16,hx14⟩:=getI_some hx14
  obtain ⟨b18,o19,rfl,hbb18⟩:=h1.addr (by omega)
  obtain ⟨cs13,hRcs13,hc17⟩:=h1.el hx14
  have hScs13:=hRcs13
  obtain ⟨A20,n20,c20,A21,n21,c21,rfl,⟨h20,r20⟩,⟨h21,r21⟩⟩:=hRcs13
  have e20:=h20.len; subst e20
  have q20:=len_le r20
  have e21:=h21.len; subst e21
  have q21:=len_le r21
  refine RQ.y rfl (Y.indexAddr (m:=k12) (sz:=5) rfl rfl hk15 hl16 (by kernel_rfl))<|RQ.y rfl (Y.assign (v:=.pointer (some ⟨b18,o19+k12 * 5,none⟩)) rfl)<|RQ.nil<|then_n<|wp_seq<|wp_rs rfl<|RQ.y rfl (Y.assign (v:=.int .i64 0) rfl)<|RQ.nil<|then_n<|wp_block ?_
  obtain ⟨K2,hK2,hm⟩ :∃K,K=(m_spec_l11Ok_A2 rec1 i8)∧m_spec_l11Ok_L2 d0 i8 x11 K (x11.ports.length+1) 0=some r:=⟨_,rfl,hm⟩
  refine wp_loopX (fun g f w'=>∃(i24:Int),f 0=.pointer (some ⟨ba0,oa0,none⟩)∧f 3=.int .i64 i8∧f 4=.pointer (some ⟨b18,o19+k12 * 5,none⟩)∧f 5=.int .i64 i24∧0≤i24∧Below w.heap.size w w'∧m_spec_l11Ok_L2 d0 i8 x11 K2 g i24=some r) 2 (fun f w'=>f 0=.pointer (some ⟨ba0,oa0,none⟩)∧f 3=.int .i64 i8∧Below w.heap.size w w'∧m_spec_l11Ok_A2 rec1 i8  = some r) (x11.ports.length+1) ⟨0,s0_1,s3_1,rfl,rfl,(by omega),T,hm⟩ ?_ ?_
  ·rintro f w22 ⟨s0_2x,s3_2x,T,hm⟩
   unfold m_spec_l11Ok_A2 at hm
   refine blk_hit (blk_n (then_n ?_))
   refine wp_rs rfl<|RQ.y rfl (Y.move (v:=.int .i64 i8) s3_2x) ?_
   obtain ⟨s23,ks23,hm⟩:=bnd hm
   replace ks23:=ck_some ks23
   refine RQ.y rfl (Y.binI (v:=.int .i64 s23) rfl rfl (by rw [binI_add ks23.2,ks23.1]))<|RQ.y rfl (Y.assign (v:=.int .i64 s23) rfl)<|RQ.nil ?_
   exact (then_n ⟨g,_,Nat.lt_succ_self _,rfl,⟨s23,s0_2x,rfl,(by omega),T,(by rw [← hrec1]; exact hm)⟩⟩)
  rintro g f w25 ⟨i24,s0_2,s3_2,s4_2,s5_2,nn5_2,T,hm⟩
  rcases g with _|g
  ·simp only [m_spec_l11Ok_L2] at hm; cases hm
  obtain ⟨rec2,hrec2,hm⟩ :∃z,z=m_spec_l11Ok_L2 d0 i8 x11 K2 g∧m_spec_l11Ok_B2 d0 i8 x11 z K2 i24=some r:=⟨_,rfl,hm⟩
  unfold m_spec_l11Ok_B2 at hm
  refine wp_seq<|wp_seq<|wp_rs rfl<|RQ.y rfl (Y.move (v:=.int .i64 i24) s5_2)<|RQ.y rfl (Y.move (v:=.pointer (some ⟨b18,o19+k12 * 5,none⟩)) s4_2)<|RQ.y rfl (Y.nilCheck rfl)<|RQ.y rfl (Y.fieldAddr (off:=4) rfl (by kernel_rfl))<|RQ.y rfl (Y.load (v:=.slice A21 x11.ports.length c21) rfl (by kernel_rfl) (eqC (cellT T (hc17 4 _ rfl))))<|RQ.y rfl (Y.len (by kernel_rfl) rfl)<|RQ.y rfl (Y.binI (v:=.bool (decide (i24 < (x11.ports.length:Int)))) rfl rfl rfl)<|RQ.nil<|then_n ?_
  rcases bcases (decide (i24 < (x11.ports.length:Int))) with c26|c26
  ·replace hm:=cF c26 hm
   have pc26:=of_decide_eq_false c26
   refine cond_f rfl (vb rfl c26)<|wp_exit ?_
   exact (then_x (then_x (hit_x ⟨_,rfl,⟨s0_2,s3_2,T,(by rw [hK2] at hm; exact hm)⟩⟩)))
  replace hm:=cT c26 hm
  have pc26:=of_decide_eq_true c26
  refine cond_t rfl (vb rfl c26)<|wp_skip<|then_n<|wp_seq<|wp_block<|wp_seq<|wp_rl rfl<|RL.y rfl (Y.move (v:=.int .i64 i8) s3_2)<|RL.y rfl (Y.move (v:=.int .i64 i24) s5_2)<|RL.y rfl (Y.build2 (cells:=#[.int .i64 i8,.int .i64 i24]) rfl rfl (by kernel_rfl) (by kernel_rfl)) ?_
  refine RL.alloc (z:=.agg #[.int .i64 0,.int .i64 0]) rfl (by kernel_rfl) (fun w27 B28 hb29 szw27=>?_)
  replace B28:Blk w27 w25.heap.size 161 #[.int .i64 0,.int .i64 0]:=B28
  have GB28:w.heap.size≤w25.heap.size:=T.size
  have T:=Tt T hb29
  refine RL.store (v:=.agg #[.int .i64 i8,.int .i64 i24]) (cs':=#[.int .i64 i8,.int .i64 i24]) rfl rfl rfl B28 (by kernel_rfl) (by rfl) (by rfl) (by rfl) (fun w31 B32 ho33=>?_)
  have szw31:=ho33.size
  have T:=T.trans (ho33.below (by simp; omega))
  refine RL.nil<|then_n<|wp_seq<|wp_rl rfl<|RL.y rfl (Y.move (v:=.pointer (some ⟨b18,o19+k12 * 5,none⟩)) s4_2)<|RL.y rfl (Y.nilCheck rfl)<|RL.y rfl (Y.fieldAddr (off:=4) rfl (by kernel_rfl))<|RL.y rfl (Y.load (v:=.slice A21 x11.ports.length c21) rfl (by kernel_rfl) (eqC (cellT T (hc17 4 _ rfl))))<|RL.y rfl (Y.move (v:=.int .i64 i24) s5_2) ?_
  obtain ⟨x34,hx37,hm⟩:=bnd hm
  obtain ⟨k35,hk38,hl39,hx37⟩:=getI_some hx37
  obtain ⟨b41,o42,rfl,hbb41⟩:=h21.addr (by omega)
  obtain ⟨cs36,hRcs36,hc40⟩:=h21.el hx37
  have hScs36:=hRcs36
  obtain rfl:=hRcs36
  refine RL.y rfl (Y.indexAddr (m:=k35) (sz:=2) rfl rfl hk38 hl39 (by kernel_rfl))<|RL.y rfl (Y.loadN (cs:=[.int .i64 x34.agent,.int .i64 x34.slot]) rfl (by kernel_rfl) (cells2 (eqC (cellT T (hc40 0 _ rfl))) (eqC (cellT T (hc40 1 _ rfl))))) ?_
  refine RL.alloc (z:=.agg #[.int .i64 0,.int .i64 0]) rfl (by kernel_rfl) (fun w43 B44 hb45 szw43=>?_)
  replace B44:Blk w43 w31.heap.size 161 #[.int .i64 0,.int .i64 0]:=B44
  have GB44:w.heap.size≤w31.heap.size:=T.size
  have Eob46_ob30:=Nat.ne_of_lt B32.lt
  have B32:=blkT B32 hb45
  have T:=Tt T hb45
  refine RL.store (v:=.agg #[.int .i64 x34.agent,.int .i64 x34.slot]) (cs':=#[.int .i64 x34.agent,.int .i64 x34.slot]) rfl rfl rfl B44 (by kernel_rfl) (by rfl) (by rfl) (by rfl) (fun w47 B48 ho49=>?_)
  have szw47:=ho49.size
  have B32:=B32.only_ ho49 (by intro hin; simp at hin; exact Eob46_ob30 hin)
  have T:=T.trans (ho49.below (by simp; omega))
  refine RL.nil<|then_n<|wp_seq<|wp_rbd (by kernel_rfl) (by kernel_rfl)<|RQ.y rfl (Y.loadN (cs:=[.int .i64 x34.agent,.int .i64 x34.slot]) rfl (by kernel_rfl) (cells2 (beC (blkCell B48 (i:=0) rfl)) (beC (blkCell B48 (i:=1) rfl))))<|RQ.y rfl (Y.loadN (cs:=[.int .i64 i8,.int .i64 i24]) rfl (by kernel_rfl) (cells2 (beC (blkCell B32 (i:=0) rfl)) (beC (blkCell B32 (i:=1) rfl))))<|RQ.y rfl (Y.eqS (b:=(x34.agent==i8 && x34.slot==i24)) rfl rfl (eqPort_run _ _ _ _) (eqGuardPort_run _ _ _ _ _))<|RQ.y rfl (Y.move (v:=.bool (x34.agent==i8 && x34.slot==i24)) rfl) ?_
  rcases bcases (x34.agent==i8 && x34.slot==i24) with c50|c50
  ·replace hm:=cF c50 hm
   refine RQ.y (wantT (dj:=51) rfl (vb rfl c50)) (Y.move (v:=.pointer (some ⟨ba0,oa0,none⟩)) s0_2)<|RQ.y (wantT (dj:=51) rfl (vb rfl c50)) (Y.nilCheck rfl)<|RQ.y (wantT (dj:=51) rfl (vb rfl c50)) (Y.fieldAddr (off:=0) rfl (by kernel_rfl))<|RQ.y (wantT (dj:=51) rfl (vb rfl c50)) (Y.load (v:=.slice (some ⟨b18,o19,none⟩) d0.agents.length c1) rfl (by kernel_rfl) (beC (cellT T (hca0 0 _ rfl))))<|RQ.y (wantT (dj:=51) rfl (vb rfl c50)) (Y.loadN (cs:=[.int .i64 x34.agent,.int .i64 x34.slot]) rfl (by kernel_rfl) (cells2 (beC (blkCell B48 (i:=0) rfl)) (beC (blkCell B48 (i:=1) rfl)))) ?_
   obtain ⟨y51,e52,hm⟩:=bnd hm
   refine RQ.call (wantT (dj:=51) rfl (vb rfl c50)) (am2 rfl rfl) (by kernel_rfl) (v:=.bool y51) (bel (K:=fun _=>True) fun w' hb'=>(c_m_spec_l11Port d0.agents x34 _ e52 _ w' (slArg agentRd_ok h1 r1 (Tt T hb'))))<|RQ.y (wantT (dj:=51) rfl (vb rfl c50)) (Y.not (b':=(!y51)) rfl rfl)<|RQ.y rfl (Y.pick (b:=false) (v:=.bool (!y51)) (vb rfl c50) rfl)<|RQ.y rfl (Y.move (v:=.bool (!y51)) rfl) ?_
   rcases bcases y51 with c53|c53
   ·replace hm:=cF c53 hm
    iterate 15 refine RQ.skip (wantN (dj:=60) rfl (vbn rfl c53 rfl) rfl) ?_
    refine RQ.y rfl (Y.pick (b:=true) (v:=.bool true) (vbn rfl c53 rfl) rfl)<|RQ.nil ?_
    intro w54 hb55
    have szw54:=hb55.size
    have T:=Tt T hb55
    refine then_n<|cond_t rfl rfl<|wp_seq<|wp_rs rfl<|RQ.y rfl (Y.assign (v:=.bool false) rfl)<|RQ.nil<|then_n<|wp_ret ?_
    obtain rfl:=sj hm
    exact (blk_r (then_r (then_r (hit_r (blk_r (blk_r (then_r (then_r (hit_r (blk_r (then_r (ret1 rfl rfl rfl ⟨rfl,T⟩))))))))))))
   replace hm:=cT c53 hm
   refine RQ.y (wantT (dj:=60) rfl (vbn rfl c53 rfl)) (Y.move (v:=.pointer (some ⟨ba0,oa0,none⟩)) s0_2)<|RQ.y (wantT (dj:=60) rfl (vbn rfl c53 rfl)) (Y.nilCheck rfl)<|RQ.y (wantT (dj:=60) rfl (vbn rfl c53 rfl)) (Y.fieldAddr (off:=0) rfl (by kernel_rfl))<|RQ.y (wantT (dj:=60) rfl (vbn rfl c53 rfl)) (Y.load (v:=.slice (some ⟨b18,o19,none⟩) d0.agents.length c1) rfl (by kernel_rfl) (beC (cellT T (hca0 0 _ rfl))))<|RQ.y (wantT (dj:=60) rfl (vbn rfl c53 rfl)) (Y.fieldAddr (off:=0) rfl (by kernel_rfl))<|RQ.y (wantT (dj:=60) rfl (vbn rfl c53 rfl)) (Y.load (v:=.int .i64 x34.agent) rfl (by kernel_rfl) (beC (blkCell B48 (i:=0) rfl))) ?_
   obtain ⟨x56,hx59,hm⟩:=bnd hm
   obtain ⟨k57,hk60,hl61,hx59⟩:=getI_some hx59
   obtain ⟨cs58,hRcs58,hc62⟩:=h1.el hx59
   have hScs58:=hRcs58
   obtain ⟨A63,n63,c63,A64,n64,c64,rfl,⟨h63,r63⟩,⟨h64,r64⟩⟩:=hRcs58
   have e63:=h63.len; subst e63
   have q63:=len_le r63
   have e64:=h64.len; subst e64
   have q64:=len_le r64
   refine RQ.y (wantT (dj:=60) rfl (vbn rfl c53 rfl)) (Y.indexAddr (m:=k57) (sz:=5) rfl rfl hk60 hl61 (by kernel_rfl))<|RQ.y (wantT (dj:=60) rfl (vbn rfl c53 rfl)) (Y.fieldAddr (off:=4) rfl (by kernel_rfl))<|RQ.y (wantT (dj:=60) rfl (vbn rfl c53 rfl)) (Y.load (v:=.slice A64 x56.ports.length c64) rfl (by kernel_rfl) (beC (cellT T (hc62 4 _ rfl))))<|RQ.y (wantT (dj:=60) rfl (vbn rfl c53 rfl)) (Y.fieldAddr (off:=1) rfl (by kernel_rfl))<|RQ.y (wantT (dj:=60) rfl (vbn rfl c53 rfl)) (Y.load (v:=.int .i64 x34.slot) rfl (by kernel_rfl) (beC (blkCell B48 (i:=1) rfl))) ?_
   obtain ⟨x65,hx68,hm⟩:=bnd hm
   obtain ⟨k66,hk69,hl70,hx68⟩:=getI_some hx68
   obtain ⟨b72,o73,rfl,hbb72⟩:=h64.addr (by omega)
   obtain ⟨cs67,hRcs67,hc71⟩:=h64.el hx68
   have hScs67:=hRcs67
   obtain rfl:=hRcs67
   refine RQ.y (wantT (dj:=60) rfl (vbn rfl c53 rfl)) (Y.indexAddr (m:=k66) (sz:=2) rfl rfl hk69 hl70 (by kernel_rfl))<|RQ.y (wantT (dj:=60) rfl (vbn rfl c53 rfl)) (Y.loadN (cs:=[.int .i64 x65.agent,.int .i64 x65.slot]) rfl (by kernel_rfl) (cells2 (beC (cellT T (hc71 0 _ rfl))) (beC (cellT T (hc71 1 _ rfl)))))<|RQ.y (wantT (dj:=60) rfl (vbn rfl c53 rfl)) (Y.loadN (cs:=[.int .i64 i8,.int .i64 i24]) rfl (by kernel_rfl) (cells2 (beC (blkCell B32 (i:=0) rfl)) (beC (blkCell B32 (i:=1) rfl))))<|RQ.y (wantT (dj:=60) rfl (vbn rfl c53 rfl)) (Y.neS (b:=(x65.agent==i8 && x65.slot==i24)) rfl rfl (eqPort_run _ _ _ _) (eqGuardPort_run _ _ _ _ _))<|RQ.y rfl (Y.pick (b:=false) (v:=.bool (!(x65.agent==i8 && x65.slot==i24))) (vbn rfl c53 rfl) rfl)<|RQ.nil ?_
   intro w74 hb75
   have szw74:=hb75.size
   have T:=Tt T hb75
   refine then_n ?_
   rcases bcases (x65.agent==i8 && x65.slot==i24) with c76|c76
   ·replace hm:=cF c76 hm
    refine cond_t rfl (vbn rfl c76 rfl)<|wp_seq<|wp_rs rfl<|RQ.y rfl (Y.assign (v:=.bool false) rfl)<|RQ.nil<|then_n<|wp_ret ?_
    obtain rfl:=sj hm
    exact (blk_r (then_r (then_r (hit_r (blk_r (blk_r (then_r (then_r (hit_r (blk_r (then_r (ret1 rfl rfl rfl ⟨rfl,T⟩))))))))))))
   replace hm:=cT c76 hm
   refine cond_f rfl (vbn rfl c76 rfl)<|wp_skip ?_
   refine blk_n (then_n ?_)
   refine wp_rs rfl<|RQ.y rfl (Y.move (v:=.int .i64 i24) s5_2)<|RQ.y rfl (Y.binI rfl rfl (binI_add (m:=i24) (by omega)))<|RQ.y rfl (Y.assign (v:=.int .i64 (i24+1)) rfl)<|RQ.nil ?_
   exact (then_n ⟨g,_,Nat.lt_succ_self _,rfl,⟨(i24+1),s0_2,s3_2,s4_2,rfl,(by omega),T,(by rw [← hrec2]; exact hm)⟩⟩)
  replace hm:=cT c50 hm
  iterate 7 refine RQ.skip (wantN (dj:=51) rfl (vb rfl c50) rfl) ?_
  refine RQ.y rfl (Y.pick (b:=true) (v:=.bool true) (vb rfl c50) rfl)<|RQ.y rfl (Y.move (v:=.bool true) rfl) ?_
  iterate 15 refine RQ.skip (wantN (dj:=60) rfl rfl rfl) ?_
  refine RQ.y rfl (Y.pick (b:=true) (v:=.bool true) rfl rfl)<|RQ.nil ?_
  intro w77 hb78
  have szw77:=hb78.size
  have T:=Tt T hb78
  refine then_n<|cond_t rfl rfl<|wp_seq<|wp_rs rfl<|RQ.y rfl (Y.assign (v:=.bool false) rfl)<|RQ.nil<|then_n<|wp_ret ?_
  obtain rfl:=sj hm
  exact (blk_r (then_r (then_r (hit_r (blk_r (blk_r (then_r (then_r (hit_r (blk_r (then_r (ret1 rfl rfl rfl ⟨rfl,T⟩))))))))))))
def m_impl_isDefIndex (d0:Int):Option Bool:=
  (bif (decide (d0 ≥ 0)) then some (decide (d0 < 24)) else some false)
set_option maxHeartbeats 2000000 in
theorem c_m_impl_isDefIndex (d0:Int) (r:Bool) (hm:m_impl_isDefIndex d0=some r)  (w:World)  :
    Calls Tryz.prog 245 #[.int .i64 d0] w fun e w'=>e=.returned (.bool r)∧Below w.heap.size w w':=by
  have T:=Below.refl w.heap.size w
  unfold m_impl_isDefIndex at hm
  refine enter 9 Tryz.func245 rfl rfl rfl ?_
  intro f hf
  have s0:f 0=.int .i64 d0:=hf 0 _ rfl
  refine wp_seq<|wp_rs rfl<|RQ.y rfl (Y.assign (v:=.bool false) rfl)<|RQ.nil<|then_n<|wp_seq<|wp_rs rfl<|RQ.y rfl (Y.move (v:=.int .i64 d0) s0)<|RQ.y rfl (Y.binI (v:=.bool (decide (d0 ≥ 0))) rfl rfl rfl)<|RQ.y rfl (Y.move (v:=.bool (decide (d0 ≥ 0))) rfl) ?_
  rcases bcases (decide (d0 ≥ 0)) with c1|c1
  ·replace hm:=cF c1 hm
   have pc1:=of_decide_eq_false c1
   refine RQ.skip (wantN (dj:=5) rfl (vb rfl c1) rfl)<|RQ.skip (wantN (dj:=5) rfl (vb rfl c1) rfl)<|RQ.y rfl (Y.pick (b:=false) (v:=.bool false) (vb rfl c1) rfl)<|RQ.y rfl (Y.assign (v:=.bool false) rfl)<|RQ.nil<|then_n<|wp_ret ?_
   obtain rfl:=sj hm
   exact (ret1 rfl rfl rfl ⟨rfl,T⟩)
  replace hm:=cT c1 hm
  have pc1:=of_decide_eq_true c1
  refine RQ.y (wantT (dj:=5) rfl (vb rfl c1)) (Y.move (v:=.int .i64 d0) s0)<|RQ.y (wantT (dj:=5) rfl (vb rfl c1)) (Y.binI (v:=.bool (decide (d0 < 24))) rfl rfl rfl)<|RQ.y rfl (Y.pick (b:=true) (v:=.bool (decide (d0 < 24))) (vb rfl c1) rfl)<|RQ.y rfl (Y.assign (v:=.bool (decide (d0 < 24))) rfl)<|RQ.nil<|then_n<|wp_ret ?_
  obtain rfl:=sj hm
  exact (ret1 rfl rfl rfl ⟨rfl,T⟩)
def m_impl_isInt (d0:Int):Option Bool:=
  (bif (decide (d0 ≥ (-2147483648))) then some (decide (d0≤2147483647)) else some false)
set_option maxHeartbeats 2000000 in
theorem c_m_impl_isInt (d0:Int) (r:Bool) (hm:m_impl_isInt d0=some r)  (w:World)  :
    Calls Tryz.prog 191 #[.int .i64 d0] w fun e w'=>e=.returned (.bool r)∧Below w.heap.size w w':=by
  have T:=Below.refl w.heap.size w
  unfold m_impl_isInt at hm
  refine enter 9 Tryz.func191 rfl rfl rfl ?_
  intro f hf
  have s0:f 0=.int .i64 d0:=hf 0 _ rfl
  refine wp_seq<|wp_rs rfl<|RQ.y rfl (Y.assign (v:=.bool false) rfl)<|RQ.nil<|then_n<|wp_seq<|wp_rs rfl<|RQ.y rfl (Y.move (v:=.int .i64 d0) s0)<|RQ.y rfl (Y.binI (v:=.bool (decide (d0 ≥ (-2147483648)))) rfl rfl rfl)<|RQ.y rfl (Y.move (v:=.bool (decide (d0 ≥ (-2147483648)))) rfl) ?_
  rcases bcases (decide (d0 ≥ (-2147483648))) with c1|c1
  ·replace hm:=cF c1 hm
   have pc1:=of_decide_eq_false c1
   refine RQ.skip (wantN (dj:=5) rfl (vb rfl c1) rfl)<|RQ.skip (wantN (dj:=5) rfl (vb rfl c1) rfl)<|RQ.y rfl (Y.pick (b:=false) (v:=.bool false) (vb rfl c1) rfl)<|RQ.y rfl (Y.assign (v:=.bool false) rfl)<|RQ.nil<|then_n<|wp_ret ?_
   obtain rfl:=sj hm
   exact (ret1 rfl rfl rfl ⟨rfl,T⟩)
  replace hm:=cT c1 hm
  have pc1:=of_decide_eq_true c1
  refine RQ.y (wantT (dj:=5) rfl (vb rfl c1)) (Y.move (v:=.int .i64 d0) s0)<|RQ.y (wantT (dj:=5) rfl (vb rfl c1)) (Y.binI (v:=.bool (decide (d0≤2147483647))) rfl rfl rfl)<|RQ.y rfl (Y.pick (b:=true) (v:=.bool (decide (d0≤2147483647))) (vb rfl c1) rfl)<|RQ.y rfl (Y.assign (v:=.bool (decide (d0≤2147483647))) rfl)<|RQ.nil<|then_n<|wp_ret ?_
  obtain rfl:=sj hm
  exact (ret1 rfl rfl rfl ⟨rfl,T⟩)
def m_impl_isOperator (d0:Int):Option Bool:=
  (bif (decide (d0 ≥ 1)) then some (decide (d0≤6)) else some false)
set_option maxHeartbeats 2000000 in
theorem c_m_impl_isOperator (d0:Int) (r:Bool) (hm:m_impl_isOperator d0=some r)  (w:World)  :
    Calls Tryz.prog 190 #[.int .i64 d0] w fun e w'=>e=.returned (.bool r)∧Below w.heap.size w w':=by
  have T:=Below.refl w.heap.size w
  unfold m_impl_isOperator at hm
  refine enter 9 Tryz.func190 rfl rfl rfl ?_
  intro f hf
  have s0:f 0=.int .i64 d0:=hf 0 _ rfl
  refine wp_seq<|wp_rs rfl<|RQ.y rfl (Y.assign (v:=.bool false) rfl)<|RQ.nil<|then_n<|wp_seq<|wp_rs rfl<|RQ.y rfl (Y.move (v:=.int .i64 d0) s0)<|RQ.y rfl (Y.binI (v:=.bool (decide (d0 ≥ 1))) rfl rfl rfl)<|RQ.y rfl (Y.move (v:=.bool (decide (d0 ≥ 1))) rfl) ?_
  rcases bcases (decide (d0 ≥ 1)) with c1|c1
  ·replace hm:=cF c1 hm
   have pc1:=of_decide_eq_false c1
   refine RQ.skip (wantN (dj:=5) rfl (vb rfl c1) rfl)<|RQ.skip (wantN (dj:=5) rfl (vb rfl c1) rfl)<|RQ.y rfl (Y.pick (b:=false) (v:=.bool false) (vb rfl c1) rfl)<|RQ.y rfl (Y.assign (v:=.bool false) rfl)<|RQ.nil<|then_n<|wp_ret ?_
   obtain rfl:=sj hm
   exact (ret1 rfl rfl rfl ⟨rfl,T⟩)
  replace hm:=cT c1 hm
  have pc1:=of_decide_eq_true c1
  refine RQ.y (wantT (dj:=5) rfl (vb rfl c1)) (Y.move (v:=.int .i64 d0) s0)<|RQ.y (wantT (dj:=5) rfl (vb rfl c1)) (Y.binI (v:=.bool (decide (d0≤6))) rfl rfl rfl)<|RQ.y rfl (Y.pick (b:=true) (v:=.bool (decide (d0≤6))) (vb rfl c1) rfl)<|RQ.y rfl (Y.assign (v:=.bool (decide (d0≤6))) rfl)<|RQ.nil<|then_n<|wp_ret ?_
  obtain rfl:=sj hm
  exact (ret1 rfl rfl rfl ⟨rfl,T⟩)
def m_impl_fieldsOf (d0:Int) (d1:Int):Option Int:=
  (bif (d0==9) then ((ck (d1 - 1)).bind fun s2=>some s2) else some 0)
set_option maxHeartbeats 2000000 in
theorem c_m_impl_fieldsOf (d0:Int) (d1:Int) (r:Int) (hm:m_impl_fieldsOf d0 d1=some r)  (w:World)  :
    Calls Tryz.prog 242 #[.int .i64 d0,.int .i64 d1] w fun e w'=>e=.returned (.int .i64 r)∧Below w.heap.size w w':=by
  have T:=Below.refl w.heap.size w
  unfold m_impl_fieldsOf at hm
  refine enter 9 Tryz.func242 rfl rfl rfl ?_
  intro f hf
  have s0:f 0=.int .i64 d0:=hf 0 _ rfl
  have s1:f 1=.int .i64 d1:=hf 1 _ rfl
  refine wp_seq<|wp_rs rfl<|RQ.y rfl (Y.assign (v:=.int .i64 0) rfl)<|RQ.nil<|then_n<|wp_seq<|wp_seq<|wp_rs rfl<|RQ.y rfl (Y.move (v:=.int .i64 d0) s0)<|RQ.y rfl (Y.binI (v:=.bool (d0==9)) rfl rfl rfl)<|RQ.nil<|then_n ?_
  rcases bcases (d0==9) with c1|c1
  ·replace hm:=cF c1 hm
   refine cond_f rfl (vb rfl c1)<|wp_skip<|then_n<|wp_seq<|wp_rs rfl<|RQ.y rfl (Y.assign (v:=.int .i64 0) rfl)<|RQ.nil<|then_n<|wp_ret ?_
   obtain rfl:=sj hm
   exact (ret1 rfl rfl rfl ⟨rfl,T⟩)
  replace hm:=cT c1 hm
  refine cond_t rfl (vb rfl c1)<|wp_seq<|wp_rs rfl<|RQ.y rfl (Y.move (v:=.int .i64 d1) s1) ?_
  obtain ⟨s2,ks2,hm⟩:=bnd hm
  replace ks2:=ck_some ks2
  refine RQ.y rfl (Y.binI (v:=.int .i64 s2) rfl rfl (by rw [binI_sub ks2.2,ks2.1]))<|RQ.y rfl (Y.assign (v:=.int .i64 s2) rfl)<|RQ.nil<|then_n<|wp_ret ?_
  obtain rfl:=sj hm
  exact (then_r (ret1 rfl rfl rfl ⟨rfl,T⟩))
def m_impl_wellFormed_1 (d0:Int):Option Bool:=
  ((m_impl_isDefIndex d0).bind fun y1=>some (!y1))
set_option maxHeartbeats 2000000 in
theorem c_m_impl_wellFormed_1 (d0:Int) (r:Bool) (hm:m_impl_wellFormed_1 d0=some r)  (w:World)  :
    Calls Tryz.prog 244 #[.int .i64 d0] w fun e w'=>e=.returned (.bool r)∧Below w.heap.size w w':=by
  have T:=Below.refl w.heap.size w
  unfold m_impl_wellFormed_1 at hm
  refine enter 6 Tryz.func244 rfl rfl rfl ?_
  intro f hf
  have s0:f 0=.int .i64 d0:=hf 0 _ rfl
  refine wp_seq<|wp_rs rfl<|RQ.y rfl (Y.assign (v:=.bool false) rfl)<|RQ.nil<|then_n<|wp_seq<|wp_rb rfl<|RQ.y rfl (Y.move (v:=.int .i64 d0) s0) ?_
  obtain ⟨y1,e2,hm⟩:=bnd hm
  refine RQ.call rfl (am1 rfl) (by kernel_rfl) (v:=.bool y1) (bel (K:=fun _=>True) fun w' hb'=>(c_m_impl_isDefIndex d0 _ e2  w' ))<|RQ.y rfl (Y.not (b':=(!y1)) rfl rfl)<|RQ.y rfl (Y.assign (v:=.bool (!y1)) rfl)<|RQ.nil ?_
  intro w3 hb4
  have szw3:=hb4.size
  have T:=Tt T hb4
  refine then_n<|wp_ret ?_
  obtain rfl:=sj hm
  exact (ret1 rfl rfl rfl ⟨rfl,T⟩)
def m_impl_hasPort (d0:List DAgent) (d1:DPort):Option Bool:=
  (bif (decide (d1.agent ≥ 0)) then (bif (decide (d1.agent < (d0.length:Int))) then (bif (decide (d1.slot ≥ 0)) then ((getI d0 d1.agent).bind fun x14=>some (decide (d1.slot < (x14.ports.length:Int)))) else some false) else some false) else some false)
set_option maxHeartbeats 2000000 in
theorem c_m_impl_hasPort (d0:List DAgent) (d1:DPort) (r:Bool) (hm:m_impl_hasPort d0 d1=some r) (v0:Value) (w:World) (hv0:Sl agentRd 5 w v0 d0) :
    Calls Tryz.prog 154 #[v0,.agg #[.int .i64 d1.agent,.int .i64 d1.slot]] w fun e w'=>e=.returned (.bool r)∧Below w.heap.size w w':=by
  obtain ⟨Aa0,na0,ca0,rfl,ha0,ra0⟩:=hv0
  have ea0:=ha0.len; subst ea0
  have qa0:=len_le ra0
  have T:=Below.refl w.heap.size w
  unfold m_impl_hasPort at hm
  refine enter 32 Tryz.func154 rfl rfl rfl ?_
  intro f hf
  have s0:f 0=.slice Aa0 d0.length ca0:=hf 0 _ rfl
  have s1:f 1=.agg #[.int .i64 d1.agent,.int .i64 d1.slot]:=hf 1 _ rfl
  refine wp_seq<|wp_rl rfl ?_
  refine RL.box rfl s1 (fun w1 B2 hb3 szw1=>?_)
  replace B2:Blk w1 w.heap.size 161 #[.int .i64 d1.agent,.int .i64 d1.slot]:=B2
  have GB2:w.heap.size≤w.heap.size:=T.size
  have T:=Tt T hb3
  refine RL.y rfl (Y.assign (v:=.bool false) rfl)<|RL.nil<|then_n<|wp_seq<|wp_rbd (by kernel_rfl) (by kernel_rfl)<|RQ.y rfl (Y.fieldAddr (off:=0) rfl (by kernel_rfl))<|RQ.y rfl (Y.load (v:=.int .i64 d1.agent) rfl (by kernel_rfl) (beC (blkCell B2 (i:=0) rfl)))<|RQ.y rfl (Y.binI (v:=.bool (decide (d1.agent ≥ 0))) rfl rfl rfl)<|RQ.y rfl (Y.move (v:=.bool (decide (d1.agent ≥ 0))) rfl) ?_
  rcases bcases (decide (d1.agent ≥ 0)) with c5|c5
  ·replace hm:=cF c5 hm
   have pc5:=of_decide_eq_false c5
   iterate 5 refine RQ.skip (wantN (dj:=8) rfl (vb rfl c5) rfl) ?_
   refine RQ.y rfl (Y.pick (b:=false) (v:=.bool false) (vb rfl c5) rfl)<|RQ.y rfl (Y.move (v:=.bool false) rfl) ?_
   iterate 3 refine RQ.skip (wantN (dj:=15) rfl rfl rfl) ?_
   refine RQ.y rfl (Y.pick (b:=false) (v:=.bool false) rfl rfl)<|RQ.y rfl (Y.move (v:=.bool false) rfl) ?_
   iterate 10 refine RQ.skip (wantN (dj:=20) rfl rfl rfl) ?_
   refine RQ.y rfl (Y.pick (b:=false) (v:=.bool false) rfl rfl)<|RQ.y rfl (Y.assign (v:=.bool false) rfl)<|RQ.nil ?_
   intro w6 hb7
   have szw6:=hb7.size
   have T:=Tt T hb7
   refine then_n<|wp_ret ?_
   obtain rfl:=sj hm
   exact (ret1 rfl rfl rfl ⟨rfl,T⟩)
  replace hm:=cT c5 hm
  have pc5:=of_decide_eq_true c5
  refine RQ.y (wantT (dj:=8) rfl (vb rfl c5)) (Y.fieldAddr (off:=0) rfl (by kernel_rfl))<|RQ.y (wantT (dj:=8) rfl (vb rfl c5)) (Y.load (v:=.int .i64 d1.agent) rfl (by kernel_rfl) (beC (blkCell B2 (i:=0) rfl)))<|RQ.y (wantT (dj:=8) rfl (vb rfl c5)) (Y.move (v:=.slice Aa0 d0.length ca0) s0)<|RQ.y (wantT (dj:=8) rfl (vb rfl c5)) (Y.len (by kernel_rfl) rfl)<|RQ.y (wantT (dj:=8) rfl (vb rfl c5)) (Y.binI (v:=.bool (decide (d1.agent < (d0.length:Int)))) rfl rfl rfl)<|RQ.y rfl (Y.pick (b:=true) (v:=.bool (decide (d1.agent < (d0.length:Int)))) (vb rfl c5) rfl)<|RQ.y rfl (Y.move (v:=.bool (decide (d1.agent < (d0.length:Int)))) rfl) ?_
  rcases bcases (decide (d1.agent < (d0.length:Int))) with c8|c8
  ·replace hm:=cF c8 hm
   have pc8:=of_decide_eq_false c8
   iterate 3 refine RQ.skip (wantN (dj:=15) rfl (vb rfl c8) rfl) ?_
   refine RQ.y rfl (Y.pick (b:=false) (v:=.bool false) (vb rfl c8) rfl)<|RQ.y rfl (Y.move (v:=.bool false) rfl) ?_
   iterate 10 refine RQ.skip (wantN (dj:=20) rfl rfl rfl) ?_
   refine RQ.y rfl (Y.pick (b:=false) (v:=.bool false) rfl rfl)<|RQ.y rfl (Y.assign (v:=.bool false) rfl)<|RQ.nil ?_
   intro w9 hb10
   have szw9:=hb10.size
   have T:=Tt T hb10
   refine then_n<|wp_ret ?_
   obtain rfl:=sj hm
   exact (ret1 rfl rfl rfl ⟨rfl,T⟩)
  replace hm:=cT c8 hm
  have pc8:=of_decide_eq_true c8
  refine RQ.y (wantT (dj:=15) rfl (vb rfl c8)) (Y.fieldAddr (off:=1) rfl (by kernel_rfl))<|RQ.y (wantT (dj:=15) rfl (vb rfl c8)) (Y.load (v:=.int .i64 d1.slot) rfl (by kernel_rfl) (beC (blkCell B2 (i:=1) rfl)))<|RQ.y (wantT (dj:=15) rfl (vb rfl c8)) (Y.binI (v:=.bool (decide (d1.slot ≥ 0))) rfl rfl rfl)<|RQ.y rfl (Y.pick (b:=true) (v:=.bool (decide (d1.slot ≥ 0))) (vb rfl c8) rfl)<|RQ.y rfl (Y.move (v:=.bool (decide (d1.slot ≥ 0))) rfl) ?_
  rcases bcases (decide (d1.slot ≥ 0)) with c11|c11
  ·replace hm:=cF c11 hm
   have pc11:=of_decide_eq_false c11
   iterate 10 refine RQ.skip (wantN (dj:=20) rfl (vb rfl c11) rfl) ?_
   refine RQ.y rfl (Y.pick (b:=false) (v:=.bool false) (vb rfl c11) rfl)<|RQ.y rfl (Y.assign (v:=.bool false) rfl)<|RQ.nil ?_
   intro w12 hb13
   have szw12:=hb13.size
   have T:=Tt T hb13
   refine then_n<|wp_ret ?_
   obtain rfl:=sj hm
   exact (ret1 rfl rfl rfl ⟨rfl,T⟩)
  replace hm:=cT c11 hm
  have pc11:=of_decide_eq_true c11
  refine RQ.y (wantT (dj:=20) rfl (vb rfl c11)) (Y.fieldAddr (off:=1) rfl (by kernel_rfl))<|RQ.y (wantT (dj:=20) rfl (vb rfl c11)) (Y.load (v:=.int .i64 d1.slot) rfl (by kernel_rfl) (beC (blkCell B2 (i:=1) rfl)))<|RQ.y (wantT (dj:=20) rfl (vb rfl c11)) (Y.move (v:=.slice Aa0 d0.length ca0) s0)<|RQ.y (wantT (dj:=20) rfl (vb rfl c11)) (Y.fieldAddr (off:=0) rfl (by kernel_rfl))<|RQ.y (wantT (dj:=20) rfl (vb rfl c11)) (Y.load (v:=.int .i64 d1.agent) rfl (by kernel_rfl) (beC (blkCell B2 (i:=0) rfl))) ?_
  obtain ⟨x14,hx17,hm⟩:=bnd hm
  obtain ⟨k15,hk18,hl19,hx17⟩:=getI_some hx17
  obtain ⟨b21,o22,rfl,hbb21⟩:=ha0.addr (by omega)
  obtain ⟨cs16,hRcs16,hc20⟩:=ha0.el hx17
  have hScs16:=hRcs16
  obtain ⟨A23,n23,c23,A24,n24,c24,rfl,⟨h23,r23⟩,⟨h24,r24⟩⟩:=hRcs16
  have e23:=h23.len; subst e23
  have q23:=len_le r23
  have e24:=h24.len; subst e24
  have q24:=len_le r24
  refine RQ.y (wantT (dj:=20) rfl (vb rfl c11)) (Y.indexAddr (m:=k15) (sz:=5) rfl rfl hk18 hl19 (by kernel_rfl))<|RQ.y (wantT (dj:=20) rfl (vb rfl c11)) (Y.fieldAddr (off:=4) rfl (by kernel_rfl))<|RQ.y (wantT (dj:=20) rfl (vb rfl c11)) (Y.load (v:=.slice A24 x14.ports.length c24) rfl (by kernel_rfl) (beC (cellT T (hc20 4 _ rfl))))<|RQ.y (wantT (dj:=20) rfl (vb rfl c11)) (Y.len (by kernel_rfl) rfl)<|RQ.y (wantT (dj:=20) rfl (vb rfl c11)) (Y.binI (v:=.bool (decide (d1.slot < (x14.ports.length:Int)))) rfl rfl rfl)<|RQ.y rfl (Y.pick (b:=true) (v:=.bool (decide (d1.slot < (x14.ports.length:Int)))) (vb rfl c11) rfl)<|RQ.y rfl (Y.assign (v:=.bool (decide (d1.slot < (x14.ports.length:Int)))) rfl)<|RQ.nil ?_
  intro w25 hb26
  have szw25:=hb26.size
  have T:=Tt T hb26
  refine then_n<|wp_ret ?_
  obtain rfl:=sj hm
  exact (ret1 rfl rfl rfl ⟨rfl,T⟩)
def m_impl_Net_peer (d0:DNet) (d1:DPort):Option DPort:=
  ((getI d0.agents d1.agent).bind fun x12=>((getI x12.ports d1.slot).bind fun x23=>some x23))
set_option maxHeartbeats 2000000 in
theorem c_m_impl_Net_peer (d0:DNet) (d1:DPort) (r:DPort) (hm:m_impl_Net_peer d0 d1=some r) (v0:Value) (w:World) (hv0:Pt netRd w v0 d0) :
    Calls Tryz.prog 99 #[v0,.agg #[.int .i64 d1.agent,.int .i64 d1.slot]] w fun e w'=>e=.returned (.agg #[.int .i64 r.agent,.int .i64 r.slot])∧Below w.heap.size w w':=by
  obtain ⟨ba0,oa0,csa0,rfl,hba0,hRa0,hca0⟩:=hv0
  have hSa0:=hRa0
  obtain ⟨A1,n1,c1,rfl,⟨h1,r1⟩⟩:=hRa0
  have e1:=h1.len; subst e1
  have q1:=len_le r1
  have T:=Below.refl w.heap.size w
  unfold m_impl_Net_peer at hm
  refine enter 18 Tryz.func99 rfl rfl rfl ?_
  intro f hf
  have s0:f 0=.pointer (some ⟨ba0,oa0,none⟩):=hf 0 _ rfl
  have s1:f 1=.agg #[.int .i64 d1.agent,.int .i64 d1.slot]:=hf 1 _ rfl
  refine wp_seq<|wp_rl rfl ?_
  refine RL.box rfl s1 (fun w2 B3 hb4 szw2=>?_)
  replace B3:Blk w2 w.heap.size 161 #[.int .i64 d1.agent,.int .i64 d1.slot]:=B3
  have GB3:w.heap.size≤w.heap.size:=T.size
  have T:=Tt T hb4
  refine RL.alloc (z:=.agg #[.int .i64 0,.int .i64 0]) rfl (by kernel_rfl) (fun w6 B7 hb8 szw6=>?_)
  replace B7:Blk w6 w2.heap.size 161 #[.int .i64 0,.int .i64 0]:=B7
  have GB7:w.heap.size≤w2.heap.size:=T.size
  have Eob9_ob5:=Nat.ne_of_lt B3.lt
  have B3:=blkT B3 hb8
  have T:=Tt T hb8
  refine RL.nil<|then_n<|wp_seq ?_
  refine wp_rg (fun w'=>Below w.heap.size w w'∧Blk w' w.heap.size 161 #[.int .i64 d1.agent,.int .i64 d1.slot]) [(0,true),(1,true),(2,true),(3,true),(4,true),(5,true),(6,true),(7,true),(8,true),(9,true),(10,true),(11,true),(12,true),(13,false)] (by kernel_rfl) (by kernel_rfl) (fun w10 hb11 szw10=>?_)
  have B3:=blkT B3 hb11
  have B7:=blkT B7 hb11
  have T:=Tt T hb11
  refine ⟨⟨T,B3⟩,?_⟩
  refine RG.y rfl rfl (Y.move (v:=.pointer (some ⟨ba0,oa0,none⟩)) s0)<|RG.y rfl rfl (Y.nilCheck rfl)<|RG.y rfl rfl (Y.fieldAddr (off:=0) rfl (by kernel_rfl))<|RG.y rfl rfl (Y.load (v:=.slice A1 d0.agents.length c1) rfl (by kernel_rfl) (fun w' hS=>(cellT hS.1 (hca0 0 _ rfl))))<|RG.y rfl rfl (Y.fieldAddr (off:=0) rfl (by kernel_rfl))<|RG.y rfl rfl (Y.load (v:=.int .i64 d1.agent) rfl (by kernel_rfl) (fun w' hS=>(blkCell hS.2 (i:=0) rfl))) ?_
  obtain ⟨x12,hx15,hm⟩:=bnd hm
  obtain ⟨k13,hk16,hl17,hx15⟩:=getI_some hx15
  obtain ⟨b19,o20,rfl,hbb19⟩:=h1.addr (by omega)
  obtain ⟨cs14,hRcs14,hc18⟩:=h1.el hx15
  have hScs14:=hRcs14
  obtain ⟨A21,n21,c21,A22,n22,c22,rfl,⟨h21,r21⟩,⟨h22,r22⟩⟩:=hRcs14
  have e21:=h21.len; subst e21
  have q21:=len_le r21
  have e22:=h22.len; subst e22
  have q22:=len_le r22
  refine RG.y rfl rfl (Y.indexAddr (m:=k13) (sz:=5) rfl rfl hk16 hl17 (by kernel_rfl))<|RG.y rfl rfl (Y.fieldAddr (off:=4) rfl (by kernel_rfl))<|RG.y rfl rfl (Y.load (v:=.slice A22 x12.ports.length c22) rfl (by kernel_rfl) (fun w' hS=>(cellT hS.1 (hc18 4 _ rfl))))<|RG.y rfl rfl (Y.fieldAddr (off:=1) rfl (by kernel_rfl))<|RG.y rfl rfl (Y.load (v:=.int .i64 d1.slot) rfl (by kernel_rfl) (fun w' hS=>(blkCell hS.2 (i:=1) rfl))) ?_
  obtain ⟨x23,hx26,hm⟩:=bnd hm
  obtain ⟨k24,hk27,hl28,hx26⟩:=getI_some hx26
  obtain ⟨b30,o31,rfl,hbb30⟩:=h22.addr (by omega)
  obtain ⟨cs25,hRcs25,hc29⟩:=h22.el hx26
  have hScs25:=hRcs25
  obtain rfl:=hRcs25
  refine RG.y rfl rfl (Y.indexAddr (m:=k24) (sz:=2) rfl rfl hk27 hl28 (by kernel_rfl))<|RG.y rfl rfl (Y.loadN (cs:=[.int .i64 x23.agent,.int .i64 x23.slot]) rfl (by kernel_rfl) (cells2 (fun w' hS=>(cellT hS.1 (hc29 0 _ rfl))) (fun w' hS=>(cellT hS.1 (hc29 1 _ rfl)))))<|RG.act rfl ?_
  refine RL.store (v:=.agg #[.int .i64 x23.agent,.int .i64 x23.slot]) (cs':=#[.int .i64 x23.agent,.int .i64 x23.slot]) rfl rfl rfl B7 (by kernel_rfl) (by rfl) (by rfl) (by rfl) (fun w32 B33 ho34=>?_)
  have szw32:=ho34.size
  have B3:=B3.only_ ho34 (by intro hin; simp at hin; exact Eob9_ob5 hin)
  have T:=T.trans (ho34.below (by simp; omega))
  refine RL.nil ⟨⟨T,B3⟩,?_⟩
  refine RG.nil<|then_n<|wp_ret ?_
  obtain rfl:=sj hm
  exact (retc (cs:=[.int .i64 x23.agent,.int .i64 x23.slot]) rfl rfl rfl (by kernel_rfl) (blkCells B33) ⟨rfl,T⟩)
end
section
open Go.RowKit
theorem app_int64:AppT Tryz.prog 60 2 (.int .i64 0) 1 8:=⟨by kernel_rfl,by kernel_rfl,rfl,by decide⟩
theorem app_impl_Port:AppT Tryz.prog 157 161 (.agg #[.int .i64 0,.int .i64 0]) 2 16:=⟨by kernel_rfl,by kernel_rfl,rfl,by decide⟩
theorem app_impl_Agent:AppT Tryz.prog 40 159 (.agg #[.int .i64 0,.int .i64 0,.int .i64 0,.slice none 0 0,.slice none 0 0]) 5 72:=⟨by kernel_rfl,by kernel_rfl,rfl,by decide⟩
end
end Go.Proofs.YtpbobilkejblgaaGreat
