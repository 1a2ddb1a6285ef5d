/- Lemmas of the proof of LiveThunks, part 1. No condition. -/
import Derived.BigQuiet
import Derived.Deep.Draws
import Derived.Deep.Fields
import Derived.Deep.LoopGhost
import Derived.Deep.Quiet
import Derived.Deep.QuietTactic
import Derived.Deep.RegionHeld3
import Derived.Deep.RegionLaw
import Derived.Deep.RegionWith
import Derived.Deep.Slices
import Derived.Laws.AppendOwnNone
import Derived.Laws.Cells
import Derived.Laws.Cover3
import Derived.Laws.Entries
import Derived.Laws.MakeOwn
import Derived.Laws.Rows
import Derived.Laws.Slices
import Derived.Laws.StructEq
import Derived.Lib.Hide
import Derived.Maps.OwnSet
import Derived.Maps.Views
import Derived.OpenShut
import Derived.OrdersHeld
import Derived.OwnWalk
import Derived.ProofKit
import Derived.StillTail
import Derived.Test.YtpbobilkejblgaaGreatRows
import Derived.WalkKit
namespace Go.Proofs.YtpbobilkejblgaaGreat
set_option linter.unusedVariables false
set_option linter.unusedSimpArgs false
theorem sj {α : Type} {a b : α} (h : some a = some b) : a = b := Option.some.inj h
section
open Go.RowKit
def inR (n lo hi:Int):Bool:=decide (lo≤n) && decide (n≤hi)
theorem retB {b c:Bool} (h:b=c):Ending.returned (.bool b)=.returned (.bool c):=by rw [h]
theorem retI {k:IntKind} {a b:Int} (h:a=b):Ending.returned (.int k a)=.returned (.int k b):=by rw [h]
end
section
open Go.RowKit
theorem spec_l00In (n lo hi:Int) (w:World):Calls Tryz.prog 175 #[.int .i64 n,.int .i64 lo,.int .i64 hi] w fun e w'=>e=.returned (.bool (inR n lo hi))∧w=w':=by
  go_enter Tryz.func175,Tryz.ntmps175
  go_wp2
  all_goals go_ret
  all_goals refine ⟨retB ?_,rfl⟩
  all_goals (rw [Bool.eq_iff_iff]; simp_all [inR]; try omega)
end
section
open Go.RowKit
abbrev Rd (α:Type):=World→Nat→List Value→α→Prop
/-- What every reading meets: it is of 'sz' cells; it stays while the cells below B stay; it may look further up. -/
structure RdOk {α:Type} (R:Rd α) (sz:Nat):Prop where
  len :∀{w B cs x},R w B cs x→cs.length=sz
  keep :∀{w w':World} {B cs x},(∀p:Addr,p.block < B→w'.cell? p=w.cell? p)→R w B cs x→R w' B cs x
  more :∀{w B B' cs x},B≤B'→R w B cs x→R w B' cs x
/-- The elements of a slice at address A, n of them, each of 'sz' cells. -/
def SlAt {α:Type} (R:Rd α) (sz:Nat) (w:World) (B:Nat) (A:Option Addr) (n:Nat) (xs:List α):Prop:=
  n=xs.length∧(0 < n→∃b off,A=some ⟨b,off,none⟩∧b < B∧
    ∀i x,xs[i]? = some x→∃cs,R w B cs x∧∀j v,cs[j]? = some v→w.cell? ⟨b,off+i * sz+j,none⟩=some v)
/-- A slice as one cell. -/
def slRd {α:Type} (R:Rd α) (sz:Nat):Rd (List α):=fun w B cs xs=>∃A n c,cs=[.slice A n c]∧SlAt R sz w B A n xs∧n≤c∧c≤maxLen
def intRd:Rd Int:=fun _ _ cs n=>cs=[.int .i64 n]
def boolRd:Rd Bool:=fun _ _ cs b=>cs=[.bool b]
theorem intRd_ok:RdOk intRd 1:=⟨fun h=>by cases h; rfl,fun _ h=>h,fun _ h=>h⟩
section
variable {α : Type} {R : Rd α} {sz : Nat} {w w' : World} {B B' n : Nat} {A : Option Addr} {xs : List α}
theorem SlAt.len (h:SlAt R sz w B A n xs):n=xs.length:=h.1
theorem SlAt.none_:SlAt R sz w B A 0 []:=⟨rfl,fun h=>absurd h (by omega)⟩
theorem SlAt.keep (ok:RdOk R sz) (hk :∀p:Addr,p.block < B→w'.cell? p=w.cell? p) (h:SlAt R sz w B A n xs):SlAt R sz w' B A n xs:=
  ⟨h.1,fun hn=>by
    obtain ⟨b,off,e,hb,hc⟩:=h.2 hn
    exact ⟨b,off,e,hb,fun i x hx=>by
      obtain ⟨cs,hR,hv⟩:=hc i x hx
      exact ⟨cs,ok.keep hk hR,fun j v hj=>(hk _ hb).trans (hv j v hj)⟩⟩⟩
theorem SlAt.more (ok:RdOk R sz) (hB:B≤B') (h:SlAt R sz w B A n xs):SlAt R sz w B' A n xs:=
  ⟨h.1,fun hn=>by
    obtain ⟨b,off,e,hb,hc⟩:=h.2 hn
    exact ⟨b,off,e,by omega,fun i x hx=>by
      obtain ⟨cs,hR,hv⟩:=hc i x hx
      exact ⟨cs,ok.more hB hR,hv⟩⟩⟩
theorem SlAt.below (ok:RdOk R sz) (h:SlAt R sz w B A n xs) (hb:Below B w w'):SlAt R sz w' B A n xs:=h.keep ok fun _ hp=>hb.cell hp
theorem SlAt.at_ (h:SlAt R sz w B A n xs) {k:Nat} (hk:k < n) :∃b off x cs,A=some ⟨b,off,none⟩∧b < B∧xs[k]? = some x∧R w B cs x∧∀j v,cs[j]? = some v→w.cell? ⟨b,off+k * sz+j,none⟩=some v:=by
  obtain ⟨b,off,e,hb,hc⟩:=h.2 (by omega)
  have hl:k < xs.length:=by have:=h.1; omega
  obtain ⟨cs,hR,hv⟩:=hc k xs[k] (List.getElem?_eq_getElem hl)
  exact ⟨b,off,xs[k],cs,e,hb,List.getElem?_eq_getElem hl,hR,hv⟩
end
theorem SlAt.int {w:World} {B n:Nat} {A:Option Addr} {xs:List Int} (h:SlAt intRd 1 w B A n xs) {k:Nat} (hk:k < n) :
    ∃b off x,A=some ⟨b,off,none⟩∧b < B∧xs[k]? = some x∧w.cell? ⟨b,off+k,none⟩=some (.int .i64 x):=by
  obtain ⟨b,off,x,cs,e,hb,hx,rfl,hc⟩:=h.at_ hk
  exact ⟨b,off,x,e,hb,hx,by simpa using hc 0 _ rfl⟩
theorem SlAt.bool {w:World} {B n:Nat} {A:Option Addr} {xs:List Bool} (h:SlAt boolRd 1 w B A n xs) {k:Nat} (hk:k < n) :
    ∃b off x,A=some ⟨b,off,none⟩∧b < B∧xs[k]? = some x∧w.cell? ⟨b,off+k,none⟩=some (.bool x):=by
  obtain ⟨b,off,x,cs,e,hb,hx,rfl,hc⟩:=h.at_ hk
  exact ⟨b,off,x,e,hb,hx,by simpa using hc 0 _ rfl⟩
/-- What is left of a bound behind a list of n; -1: too long. -/
def szL (left:Int) (n:Nat):Int:=if left - n < 0 then -1 else left - n
theorem szL_neg {left:Int} {n:Nat} (h:left - n < 0):szL left n = -1:=if_pos h
theorem szL_pos {left:Int} {n:Nat} (h:¬ left - n < 0):szL left n=left - n:=if_neg h
theorem take_succ_some {α:Type} {l:List α} {k:Nat} {x:α} (h:l[k]? = some x):l.take (k+1)=l.take k ++ [x]:=by
  rw [List.take_add_one,h]; rfl
theorem lt_of_some {α:Type} {l:List α} {k:Nat} {x:α} (h:l[k]? = some x):k < l.length:=(List.getElem?_eq_some_iff.1 h).1
def eqL {α:Type} [DecidableEq α] (a b:List α):Bool:=decide (a=b)
theorem eqL_step {α:Type} {xs ys:List α} {k:Nat} {x y:α} (hx:xs[k]? = some x) (hy:ys[k]? = some y) (h:xs.take k=ys.take k) (e:x=y):xs.take (k+1)=ys.take (k+1):=by
  rw [take_succ_some hx,take_succ_some hy,h,e]
theorem eqL_no {α:Type} [DecidableEq α] {xs ys:List α} {k:Nat} {x y:α} (hx:xs[k]? = some x) (hy:ys[k]? = some y) (e:x ≠ y):eqL xs ys=false:=by
  unfold eqL
  refine decide_eq_false fun he=>e ?_
  subst he
  rw [hx] at hy
  injection hy
theorem eqL_len {α:Type} [DecidableEq α] {xs ys:List α} (h:xs.length ≠ ys.length):eqL xs ys=false:=decide_eq_false fun he=>h (by rw [he])
theorem eqL_yes {α:Type} [DecidableEq α] {xs ys:List α} {k:Nat} (h:xs.take k=ys.take k) (h1:xs.length≤k) (h2:ys.length≤k):eqL xs ys=true:=by
  rw [List.take_of_length_le h1,List.take_of_length_le h2] at h
  exact decide_eq_true h
end
section
open Go.RowKit
abbrev Ow (α:Type):=World→List Value→α→List Nat→Prop
structure OwOk {α:Type} (O:Ow α) (sz:Nat):Prop where
  len :∀{w cs x bs},O w cs x bs→cs.length=sz
  keep :∀{w w':World} {cs x bs},(∀b∈bs,w'.heap[b]? = w.heap[b]?)→O w cs x bs→O w' cs x bs
/-- The cells cs lie at b, o and may be written. -/
def CsAt (w:World) (b o:Nat) (cs:List Value):Prop:=∀j v,cs[j]? = some v→w.cell? ⟨b,o+j,none⟩=some v∧w.frozen? ⟨b,o+j,none⟩=false
def ElAt {α:Type} (O:Ow α) (sz:Nat) (w:World) (b:Nat):Nat→List α→List Nat→Prop
  |_,[],bs=>bs=[]
  |o,x :: xs,bs=>∃cs b1 b2,O w cs x b1∧CsAt w b o cs∧bs=b1 ++ b2∧ElAt O sz w b (o+sz) xs b2
def OwAt {α:Type} (O:Ow α) (sz:Nat) (w:World) (A:Option Addr) (n:Nat) (xs:List α) (bs:List Nat):Prop:=
  n=xs.length∧((xs=[]∧bs=[]) ∨∃b o b2,A=some ⟨b,o,none⟩∧bs=b :: b2∧ElAt O sz w b o xs b2)
def intOw:Ow Int:=fun _ cs n bs=>cs=[.int .i64 n]∧bs=[]
def boolOw:Ow Bool:=fun _ cs n bs=>cs=[.bool n]∧bs=[]
theorem intOw_ok:OwOk intOw 1:=⟨fun h=>by rw [h.1]; rfl,fun _ h=>h⟩
def Gives {α:Type} (O:Ow α) (R:Rd α) (B:Nat):Prop:=∀w cs x bs,O w cs x bs→(∀k∈bs,k < B)→R w B cs x
/-- Only the blocks of bs may have turned. -/
structure Only (bs:List Nat) (w w':World):Prop where
  os:w'.os=w.os
  tape:w'.tape=w.tape
  output:w'.output=w.output
  size:w'.heap.size=w.heap.size
  block :∀k,k ∉ bs→w'.heap[k]? = w.heap[k]?
section
variable {w w' w'' : World} {bs bs' : List Nat}
theorem Only.refl (bs:List Nat) (w:World):Only bs w w:=⟨rfl,rfl,rfl,rfl,fun _ _=>rfl⟩
theorem Only.trans (h:Only bs w w') (h':Only bs w' w''):Only bs w w'':=
  ⟨h'.os.trans h.os,h'.tape.trans h.tape,h'.output.trans h.output,h'.size.trans h.size,fun k hk=>(h'.block k hk).trans (h.block k hk)⟩
theorem Only.mono (h:Only bs w w') (hb :∀b∈bs,b∈bs'):Only bs' w w':=⟨h.os,h.tape,h.output,h.size,fun k hk=>h.block k (fun hin=>hk (hb k hin))⟩
theorem Only.setCell (h:Only bs w w') {p:Addr} (hp:p.block∈bs) (u:Value):Only bs w (w'.setCell p u):=
  h.trans ⟨rfl,rfl,rfl,by simp [World.setCell],fun k hk=>Below.heap_setCell _ _ _ _ (fun e=>hk (by rw [e]; exact hp))⟩
theorem Only.drew (h:Only bs w w'):Only bs w w'.drew:=⟨h.os,h.tape,h.output,h.size,h.block⟩
theorem Only.drewN (h:Only bs w w') (n:Nat):Only bs w (w'.drewN n):=⟨h.os,h.tape,h.output,h.size,h.block⟩
theorem Only.below {B:Nat} (h:Only bs w w') (hb :∀b∈bs,B≤b):Below B w w':=
  ⟨h.os,h.tape,h.output,by rw [h.size]; exact Nat.le_refl _,fun k hk=>h.block k (fun hin=>by have:=hb k hin; omega)⟩
theorem CsAt.keep {b o:Nat} {cs:List Value} (h:CsAt w b o cs) (hb:w'.heap[b]? = w.heap[b]?):CsAt w' b o cs:=fun j v hj=>
  ⟨(World.cell?_of_block (w:=w) (a:=⟨b,o+j,none⟩) hb).trans (h j v hj).1,(World.frozen?_of_block (w:=w) (a:=⟨b,o+j,none⟩) hb).trans (h j v hj).2⟩
end
section
variable {α : Type} {O : Ow α} {sz : Nat} {w w' : World} {b o n : Nat} {A : Option Addr} {xs ys : List α} {bs : List Nat}
theorem ElAt.keep (ok:OwOk O sz) :∀{xs:List α} {o:Nat} {bs:List Nat},(w'.heap[b]? = w.heap[b]?)→(∀k∈bs,w'.heap[k]? = w.heap[k]?)→ElAt O sz w b o xs bs→ElAt O sz w' b o xs bs
  |[],_,_,_,_,h=>h
  |x :: xs,o,_,hb,hbs,⟨cs,b1,b2,hO,hc,e,hr⟩=>by
    subst e
    exact ⟨cs,b1,b2,ok.keep (fun k hk=>hbs k (by simp [hk])) hO,hc.keep hb,rfl,ElAt.keep ok hb (fun k hk=>hbs k (by simp [hk])) hr⟩
theorem ElAt.append :∀{xs ys:List α} {o:Nat} {b1 b2:List Nat},ElAt O sz w b o xs b1→ElAt O sz w b (o+xs.length * sz) ys b2→ElAt O sz w b o (xs ++ ys) (b1 ++ b2)
  |[],ys,o,b1,b2,h1,h2=>by
    have h1:b1=[]:=h1
    subst h1
    simpa using h2
  |x :: xs,ys,o,b1,b2,⟨cs,c1,c2,hO,hc,e,hr⟩,h2=>by
    subst e
    refine ⟨cs,c1,c2 ++ b2,hO,hc,by simp,ElAt.append hr ?_⟩
    have e:o+sz+xs.length * sz=o+(x :: xs).length * sz:=by simp [Nat.add_mul]; omega
    rw [e]
    exact h2
theorem ElAt.split :∀{xs ys:List α} {o:Nat} {bs:List Nat},ElAt O sz w b o (xs ++ ys) bs→∃b1 b2,bs=b1 ++ b2∧ElAt O sz w b o xs b1∧ElAt O sz w b (o+xs.length * sz) ys b2
  |[],ys,o,bs,h=>⟨[],bs,rfl,rfl,by simpa using h⟩
  |x :: xs,ys,o,bs,⟨cs,c1,c2,hO,hc,e,hr⟩=>by
    obtain ⟨b1,b2,e2,h1,h2⟩:=ElAt.split hr
    subst e2
    subst e
    refine ⟨c1 ++ b1,b2,by simp,⟨cs,c1,b1,hO,hc,rfl,h1⟩,?_⟩
    have e:o+sz+xs.length * sz=o+(x :: xs).length * sz:=by simp [Nat.add_mul]; omega
    rw [e] at h2
    exact h2
theorem ElAt.one {x:α} {cs:List Value} {b1:List Nat} (hO:O w cs x b1) (hc:CsAt w b o cs):ElAt O sz w b o [x] b1:=⟨cs,b1,[],hO,hc,by simp,rfl⟩
/-- It reads: elements by their index. -/
theorem ElAt.reads {R:Rd α} {B:Nat} (hR:Gives O R B) :∀{xs:List α} {o:Nat} {bs:List Nat},ElAt O sz w b o xs bs→(∀k∈bs,k < B)→
    ∀i x,xs[i]? = some x→∃cs,R w B cs x∧∀j v,cs[j]? = some v→w.cell? ⟨b,o+i * sz+j,none⟩=some v
  |[],_,_,_,_,i,x,hx=>by simp at hx
  |y :: ys,o,_,⟨cs,b1,b2,hO,hc,e,hr⟩,hlt,i,x,hx=>by
    subst e
    cases i with
    |zero=>
      have hx:y=x:=by simpa using hx
      subst hx
      exact ⟨cs,hR _ _ _ _ hO (fun k hk=>hlt k (by simp [hk])),fun j v hj=>by simpa using (hc j v hj).1⟩
    |succ i=>
      obtain ⟨cs',h1,h2⟩:=ElAt.reads hR hr (fun k hk=>hlt k (by simp [hk])) i x (by simpa using hx)
      refine ⟨cs',h1,fun j v hj=>?_⟩
      have:=h2 j v hj
      have e:o+sz+i * sz+j=o+(i+1) * sz+j:=by simp [Nat.add_mul]; omega
      rw [e] at this
      exact this
theorem OwAt.len (h:OwAt O sz w A n xs bs):n=xs.length:=h.1
theorem OwAt.keep (ok:OwOk O sz) (hb :∀k∈bs,w'.heap[k]? = w.heap[k]?) (h:OwAt O sz w A n xs bs):OwAt O sz w' A n xs bs:=by
  refine ⟨h.1,?_⟩
  rcases h.2 with h2|⟨b,o,b2,e,e2,h2⟩
  · exact .inl h2
  · subst e2
    exact .inr ⟨b,o,b2,e,rfl,h2.keep ok (hb b (by simp)) (fun k hk=>hb k (by simp [hk]))⟩
theorem OwAt.reads {R:Rd α} {B:Nat} (hR:Gives O R B) (h:OwAt O sz w A n xs bs) (hlt :∀k∈bs,k < B):SlAt R sz w B A n xs:=by
  refine ⟨h.1,fun hn=>?_⟩
  rcases h.2 with ⟨e,_⟩|⟨b,o,b2,e,e2,h2⟩
  · have:=h.1; rw [e] at this; simp at this; omega
  · subst e2
    exact ⟨b,o,e,hlt b (by simp),h2.reads hR (fun k hk=>hlt k (by simp [hk]))⟩
theorem intOw_reads (B:Nat):Gives intOw intRd B:=fun _ _ _ _ h _=>h.1
end
def Blk (w:World) (g:Nat) (t:TypeId) (cs:Array Value):Prop:=w.heap[g]? = some (.cells cs t (0,0))
section
variable {w w' : World} {g : Nat} {t : TypeId} {cs : Array Value}
theorem Blk.lt (h:Blk w g t cs):g < w.heap.size:=by
  rcases Nat.lt_or_ge g w.heap.size with hlt|hge
  · exact hlt
  · unfold Blk at h; rw [Array.getElem?_eq_none hge] at h; cases h
theorem Blk.cell (h:Blk w g t cs) (i:Nat):w.cell? ⟨g,i,none⟩=cs[i]?:=cell_of_row w g i cs t (0,0) h
theorem Blk.frozen (h:Blk w g t cs) (i:Nat):w.frozen? ⟨g,i,none⟩=false:=by
  unfold Blk at h
  simp [World.frozen?,h]
theorem Blk.new (w:World) (t:TypeId) (cs:Array Value):Blk (w.alloc (.cells cs t)) w.heap.size t cs:=heap_alloc_new w _
theorem Blk.alloc (h:Blk w g t cs) (o:Obj):Blk (w.alloc o) g t cs:=(Below.heap_alloc w o g h.lt).trans h
theorem Blk.drew (h:Blk w g t cs):Blk w.drew g t cs:=h
theorem Blk.drewN (h:Blk w g t cs) (n:Nat):Blk (w.drewN n) g t cs:=h
theorem Blk.below {B:Nat} (h:Blk w g t cs) (hb:Below B w w') (hg:g < B):Blk w' g t cs:=(hb.block g hg).trans h
theorem Blk.csAt (h:Blk w g t cs) {o:Nat} {l:List Value} (hl :∀j v,l[j]? = some v→cs[o+j]? = some v):CsAt w g o l:=fun j v hj=>
  ⟨by rw [h.cell]; exact hl j v hj,h.frozen _⟩
end
theorem CsAt.nil {w:World} {b o:Nat} : CsAt w b o []:=fun j v hj=>by simp at hj
theorem CsAt.cons {w:World} {b o:Nat} {v:Value} {vs:List Value} (h1:w.cell? ⟨b,o,none⟩=some v) (h2:w.frozen? ⟨b,o,none⟩=false) (h:CsAt w b (o+1) vs):CsAt w b o (v :: vs):=fun j u hj=>by
  cases j with
  | zero => have hj : v = u := by simpa using hj
            subst hj; exact ⟨h1,h2⟩
  | succ j => have := h j u (by simpa using hj)
              rwa [show o+1+j=o+(j+1) by omega] at this
theorem CsAt.keepC {w w':World} {b o:Nat} {cs:List Value} (h:CsAt w b o cs) (hk :∀j,j < cs.length→w'.cell? ⟨b,o+j,none⟩=w.cell? ⟨b,o+j,none⟩∧w'.frozen? ⟨b,o+j,none⟩=w.frozen? ⟨b,o+j,none⟩):CsAt w' b o cs:=fun j v hj=>by
  obtain ⟨e1,e2⟩:=hk j (lt_of_some hj)
  rw [e1,e2]
  exact h j v hj
/-- The cells of an element are stored one behind the other. -/
def setRun (w:World) (b:Nat):Nat→List Value→World
  |_,[]=>w
  |o,v :: vs=>setRun (w.setCell ⟨b,o,none⟩ v) b (o+1) vs
theorem setRun_block {b:Nat} :∀{vs:List Value} {w:World} {o k:Nat},k ≠ b→(setRun w b o vs).heap[k]? = w.heap[k]?
  |[],_,_,_,_=>rfl
  |v :: vs,w,o,k,h=>(setRun_block (vs:=vs) h).trans (Below.heap_setCell w ⟨b,o,none⟩ v k h)
theorem setRun_frozen {b:Nat} {a:Addr} :∀{vs:List Value} {w:World} {o:Nat},(setRun w b o vs).frozen? a=w.frozen? a
  |[],_,_=>rfl
  |v :: vs,w,o=>(setRun_frozen (vs:=vs)).trans (World.frozen?_setCell _ _ _ _)
theorem setRun_other {b:Nat} {p:Nat} :∀{vs:List Value} {w:World} {o:Nat},p < o ∨ o+vs.length≤p→(setRun w b o vs).cell? ⟨b,p,none⟩=w.cell? ⟨b,p,none⟩
  |[],_,_,_=>rfl
  |v :: vs,w,o,h=>by
    have h1:(setRun (w.setCell ⟨b,o,none⟩ v) b (o+1) vs).cell? ⟨b,p,none⟩=(w.setCell ⟨b,o,none⟩ v).cell? ⟨b,p,none⟩:=setRun_other (by simp at h; omega)
    refine h1.trans (World.cell?_setCell_other _ _ _ _ (fun e=>?_))
    injection e with _ e2
    simp at h
    omega
theorem setRun_csAt {b:Nat} :∀{vs:List Value} {w:World} {o:Nat},(∀j,j < vs.length→∃u,w.cell? ⟨b,o+j,none⟩=some u)→(∀j,j < vs.length→w.frozen? ⟨b,o+j,none⟩=false)→CsAt (setRun w b o vs) b o vs
  |[],_,_,_,_=>CsAt.nil
  |v :: vs,w,o,h,hf=>by
    obtain ⟨u,hu⟩:=h 0 (by simp)
    refine CsAt.cons ?_ ?_ (setRun_csAt (fun j hj=>?_) (fun j hj=>?_))
    · have h1:(setRun (w.setCell ⟨b,o,none⟩ v) b (o+1) vs).cell? ⟨b,o,none⟩=(w.setCell ⟨b,o,none⟩ v).cell? ⟨b,o,none⟩:=setRun_other (by omega)
      exact h1.trans (World.cell?_setCell_same _ _ _ hu)
    · have h0:w.frozen? ⟨b,o,none⟩=false:=by simpa using hf 0 (by simp)
      exact setRun_frozen.trans h0
    · obtain ⟨u',hu'⟩:=h (j+1) (by simp; omega)
      rw [show o+(j+1)=o+1+j by omega] at hu'
      refine ⟨u',(World.cell?_setCell_other _ _ _ _ (fun e=>?_)).trans hu'⟩
      injection e with _ e2
      omega
    · have:=hf (j+1) (by simp; omega)
      rw [show o+(j+1)=o+1+j by omega] at this
      exact (World.frozen?_setCell _ _ _ _).trans this
section
variable {α : Type} {O : Ow α} {sz : Nat} {w w' : World} {b o n : Nat}
theorem ElAt.keepC (ok:OwOk O sz) :∀{xs:List α} {o:Nat} {bs:List Nat},(∀p,o≤p→p < o+xs.length * sz→w'.cell? ⟨b,p,none⟩=w.cell? ⟨b,p,none⟩∧w'.frozen? ⟨b,p,none⟩=w.frozen? ⟨b,p,none⟩)→
    (∀k∈bs,w'.heap[k]? = w.heap[k]?)→ElAt O sz w b o xs bs→ElAt O sz w' b o xs bs
  |[],_,_,_,_,h=>h
  |x :: xs,o,_,hb,hbs,⟨cs,b1,b2,hO,hc,e,hr⟩=>by
    subst e
    have hl:=ok.len hO
    have e:(x :: xs).length * sz=xs.length * sz+sz:=by simp [Nat.add_mul]
    exact ⟨cs,b1,b2,ok.keep (fun k hk=>hbs k (by simp [hk])) hO,hc.keepC (fun j hj=>hb _ (by omega) (by omega)),rfl,
      ElAt.keepC ok (fun p h1 h2=>hb p (by omega) (by omega)) (fun k hk=>hbs k (by simp [hk])) hr⟩
theorem ElAt.setRun (ok:OwOk O sz) {xs:List α} {o:Nat} {bs:List Nat} {p:Nat} {vs:List Value} (h:ElAt O sz w b o xs bs) (hb:b ∉ bs) (hp:p+vs.length≤o ∨ o+xs.length * sz≤p) :
    ElAt O sz (setRun w b p vs) b o xs bs:=
  h.keepC ok (fun q h1 h2=>⟨setRun_other (by omega),setRun_frozen⟩) (fun k hk=>setRun_block (fun e=>hb (by rw [← e]; exact hk)))
end
theorem run_make_rowN {P:Program} (t e:TypeId) (i:TypeInfo) (z:Value) (ht:P.underlying t=some (.slice e)) (hi:P.info? e=some i) (hz:i.zero=some z)
    (kl kc:IntKind) (n c:Nat) (hnc:n≤c) (hbytes:i.bytes * c≤281474976710656) (h63:c≤9223372036854775807) (w:World) :
    (Instr.makeSlice t (.int kl (n:Int)) (.int kc (c:Int))).run P w=.ok (.slice (some ⟨w.heap.size,0,none⟩) n c) (w.alloc (.cells (madeCells z.cells (c * i.size)) e)):=by
  have hb:(i.bytes:Int) * (c:Int)≤281474976710656:=by
    have h:((i.bytes * c:Nat):Int)≤281474976710656:=by omega
    rwa [Int.natCast_mul] at h
  have hr:=run_make (P:=P) w t e i z ht hi hz kl kc n c (by omega) (by omega) hb (by omega)
  simp only [Int.toNat_natCast] at hr
  exact hr
theorem run_make_sz {P:Program} (t e:TypeId) {z:Value} {sz bb:Nat} (ht:P.underlying t=some (.slice e)) (hinfo:(P.info? e).map (fun i=>(i.zero,i.size,i.bytes))=some (some z,sz,bb))
    (n:Nat) (hb:bb * n≤281474976710656) (hn:n≤4294967296) (w:World) :
    (Instr.makeSlice t (.int .i64 (n:Int)) (.int .i64 (n:Int))).run P w=.ok (.slice (some ⟨w.heap.size,0,none⟩) n n) (w.alloc (.cells (madeCells z.cells (n * sz)) e)):=by
  obtain ⟨i0,hi,hz0,hz1,hz2⟩:=info_parts hinfo
  have h:=run_make_rowN t e i0 z ht hi hz0 .i64 .i64 n n (Nat.le_refl _) (by rw [hz2]; exact hb) (by omega) w
  rw [hz1] at h
  exact h
theorem madeCells_size (z:Array Value) (n:Nat):(madeCells z n).size=n:=by simp [madeCells]
def MidAt {α:Type} (O:Ow α) (sz:Nat) (w:World) (A:Option Addr) (done rest:List α) (bs:List Nat):Prop:=
  (done=[]∧rest=[]∧bs=[]) ∨∃b o b1 b2,A=some ⟨b,o,none⟩∧bs=b :: (b1 ++ b2)∧ElAt O sz w b o done b1∧ElAt O sz w b (o+done.length * sz) rest b2
section
variable {α : Type} {O : Ow α} {sz : Nat} {w w' : World} {A : Option Addr} {n : Nat} {done rest xs : List α} {x x' : α} {bs : List Nat}
theorem OwAt.mid (h:OwAt O sz w A n xs bs):MidAt O sz w A [] xs bs:=by
  rcases h.2 with ⟨e1,e2⟩|⟨b,o,b2,e1,e2,h⟩
  · exact .inl ⟨rfl,e1,e2⟩
  · exact .inr ⟨b,o,[],b2,e1,by simpa using e2,rfl,by simpa using h⟩
theorem MidAt.whole (h:MidAt O sz w A done [] bs) (hn:n=done.length):OwAt O sz w A n done bs:=by
  refine ⟨hn,?_⟩
  rcases h with ⟨e1,_,e2⟩|⟨b,o,b1,b2,e1,e2,h,h2⟩
  · exact .inl ⟨e1,e2⟩
  · have h2:b2=[]:=h2
    subst h2
    exact .inr ⟨b,o,b1,e1,by simpa using e2,h⟩
/-- The element that stands next: its cells, its own blocks, and how the step is closed when it has been written. -/
theorem MidAt.next (h:MidAt O sz w A done (x :: rest) bs) :∃b o cs b1 bx b2,A=some ⟨b,o,none⟩∧bs=b :: (b1 ++ (bx ++ b2))∧O w cs x bx∧CsAt w b (o+done.length * sz) cs∧
    ElAt O sz w b o done b1∧ElAt O sz w b (o+done.length * sz+sz) rest b2:=by
  rcases h with ⟨_,e,_⟩|⟨b,o,b1,b2,e1,e2,h1,cs,bx,b3,hO,hc,e3,h2⟩
  · cases e
  · subst e3
    exact ⟨b,o,cs,b1,bx,b3,e1,e2,hO,hc,h1,h2⟩
theorem MidAt.step {b o:Nat} {cs:List Value} {b1 bx b2:List Nat} (hA:A=some ⟨b,o,none⟩) (h1:ElAt O sz w b o done b1) (hO:O w cs x' bx) (hc:CsAt w b (o+done.length * sz) cs)
    (h2:ElAt O sz w b (o+done.length * sz+sz) rest b2):MidAt O sz w A (done ++ [x']) rest (b :: (b1 ++ (bx ++ b2))):=by
  refine .inr ⟨b,o,b1 ++ bx,b2,hA,by simp,ElAt.append h1 (ElAt.one hO hc),?_⟩
  have e:o+(done ++ [x']).length * sz=o+done.length * sz+sz:=by simp [Nat.add_mul]; omega
  rw [e]
  exact h2
end
def marks (k n:Nat):List Int:=(List.range n).map fun i=>((k+i:Nat):Int)
theorem marks_len (k n:Nat):(marks k n).length=n:=by simp [marks]
theorem marks_succ (k n:Nat):marks k (n+1)=marks k n ++ [((k+n:Nat):Int)]:=by simp [marks,List.range_succ]
theorem drop_some {α:Type} {l:List α} {k:Nat} {x:α} (h:l[k]? = some x):l.drop k=x :: l.drop (k+1):=by
  have hl:=lt_of_some h
  rw [List.drop_eq_getElem_cons hl]
  congr 1
  rw [List.getElem?_eq_getElem hl] at h
  injection h
theorem marks_get {k n i:Nat} (hi:i < n):(marks k n)[i]? = some ((k+i:Nat):Int):=by simp [marks,hi]
end
section
open Go.RowKit
theorem eqInt64S_c (A C:Option Addr) (n c m d:Nat) (xs ys:List Int) (w:World) {B:Nat} (hx:SlAt intRd 1 w B A n xs) (hy:SlAt intRd 1 w B C m ys) (hn:n≤9223372036854775807) (hm:m≤9223372036854775807) :
    Calls Tryz.prog 26 #[.slice A n c,.slice C m d] w fun e w'=>e=.returned (.bool (eqL xs ys))∧∃q,w'=w.drewN q:=by
  have lx:=Lib.hid hx.len
  have ly:=Lib.hid hy.len
  by_cases hnm:n=m
  · subst hnm
    go_enter Tryz.func26,Tryz.ntmps26
    go_wp2
    go_loopw [5] (fun i wr=>∃k:Nat,k≤n∧i=.int .i64 k∧Hid (xs.take k=ys.take k)∧Hid (∃q,wr=w.drewN q)) (fun i _=>n - (intOf i).toNat)
    case atStart=>exact ⟨0,by omega,rfl,rfl,⟨0,rfl⟩⟩
    case round=>
      obtain ⟨k,hk,rfl,ht,hq⟩:=hrel
      by_cases hlt:k < n
      · obtain ⟨b,off,x,rfl,hb,hxk,hc⟩:=hx.int hlt
        obtain ⟨b',off',y,rfl,hb',hyk,hc'⟩:=hy.int hlt
        have Hxk:=Lib.hid hxk
        have Hyk:=Lib.hid hyk
        clear hxk hyk
        obtain ⟨q,rfl⟩:=hq
        by_cases hxy:x=y
        · have hf:(x != y)=false:=by simp [hxy]
          have Hxy:=Lib.hid hxy
          clear hxy
          go_wp2
          go_quiet (fail)
          go_wp2
          go_roundw
          case rel=>exact ⟨k+1,by omega,by go_num,eqL_step Hxk.out Hyk.out ht.out Hxy.out,⟨_,rfl⟩⟩
          case measure=>simp [intOf]; omega
        · have hf:(x != y)=true:=by simp [hxy]
          have Hno:=Lib.hid (eqL_no Hxk.out Hyk.out hxy)
          clear hxy
          go_wp2
          go_quiet (fail)
          go_wp2
          go_ret
          exact ⟨by rw [Hno.out]; rfl,(by first|exact ⟨_,rfl⟩|exact ⟨_,World.drewN_drewN _ _ _⟩)⟩
      · have Hyes:=Lib.hid (eqL_yes (k:=k) ht.out (by have:=lx.out; omega) (by have:=ly.out; omega))
        obtain ⟨q,rfl⟩:=hq
        go_wp2
        go_ret
        exact ⟨by rw [Hyes.out]; rfl,⟨_,rfl⟩⟩
  · have Hno:=Lib.hid (eqL_len (xs:=xs) (ys:=ys) (by have:=lx.out; have:=ly.out; omega))
    have hf:((n:Int) != (m:Int))=true:=by simp; omega
    go_enter Tryz.func26,Tryz.ntmps26
    go_wp2
    go_ret
    exact ⟨by rw [Hno.out]; rfl,⟨0,rfl⟩⟩
theorem markInt64S_c (A:Option Addr) (n c k0:Nat) (xs:List Int) (bs:List Nat) (w:World) (hx:OwAt intOw 1 w A n xs bs) (hnd:bs.Nodup) (hn:n≤4294967296) (hk0:k0≤4611686018427387904) :
    Calls Tryz.prog 31 #[.slice A n c,.int .i64 k0] w fun e w'=>e=.returned (.int .i64 ((k0+n:Nat):Int))∧OwAt intOw 1 w' A n (marks k0 n) bs∧Only bs w w':=by
  have lx:=Lib.hid hx.len
  have hmid:=Lib.hid hx.mid
  clear hx
  go_enter Tryz.func31,Tryz.ntmps31
  go_wp2
  go_loopw [1,5] (fun kk i wr=>∃k:Nat,k≤n∧i=.int .i64 k∧kk=.int .i64 ((k0:Int)+k)∧Only bs w wr∧Hid (MidAt intOw 1 wr A (marks k0 k) (xs.drop k) bs)) (fun _ i _=>n - (intOf i).toNat)
  case atStart=>exact ⟨0,by omega,rfl,by simp,Only.refl _ _,hmid.out⟩
  case round=>
    obtain ⟨k,hk,rfl,rfl,ho,hm⟩:=hrel
    by_cases hlt:k < n
    · obtain ⟨x,hxk⟩ :∃x,xs[k]? = some x:=⟨_,List.getElem?_eq_getElem (by have:=lx.out; omega)⟩
      have hm:=hm.out
      rw [drop_some hxk] at hm
      obtain ⟨b,o,cs,b1,bx,b2,rfl,hbs,hO,hc,h1,h2⟩:=hm.next
      obtain ⟨rfl,rfl⟩:=hO
      rw [marks_len,Nat.mul_one] at hc h2
      obtain ⟨hc1,hc2⟩:=hc 0 _ rfl
      rw [Nat.add_zero] at hc1 hc2
      have HN:=Lib.hid hbs
      have Hx:=Lib.hid hxk
      have H1:=Lib.hid h1
      have H2:=Lib.hid h2
      clear hbs hxk h1 h2 hm hc
      go_wp2
      go_roundw
      case rel=>
        have hnd':=hnd
        rw [HN.out] at hnd'
        have hb:b ∉ b1∧b ∉ b2:=by simpa using (List.nodup_cons.1 hnd').1
        have hlen:(marks k0 k).length=k:=marks_len _ _
        refine ⟨k+1,by omega,by go_num,by go_num,ho.setCell (p:=⟨b,o+k,none⟩) (by rw [HN.out]; simp) _,?_⟩
        rw [marks_succ,HN.out]
        refine MidAt.step (o:=o) rfl (ElAt.setRun intOw_ok (vs:=[.int .i64 ((k0:Int)+k)]) (p:=o+k) H1.out hb.1 (Or.inr (by omega))) ⟨rfl,rfl⟩ ?_ ?_
        · rw [hlen,Nat.mul_one]
          exact setRun_csAt (vs:=[.int .i64 ((k0:Int)+k)]) (fun j hj=>⟨_,by simp at hj; subst hj; exact hc1⟩) (fun j hj=>by simp at hj; subst hj; exact hc2)
        · rw [hlen,Nat.mul_one]
          exact ElAt.setRun intOw_ok (vs:=[.int .i64 ((k0:Int)+k)]) (p:=o+k) H2.out hb.2 (Or.inl (by simp))
      case measure=>simp [intOf]; omega
    · obtain rfl:n=k:=by omega
      have hm:=hm.out
      rw [List.drop_of_length_le (by have:=lx.out; omega)] at hm
      have Hm:=Lib.hid (hm.whole (n:=n) (marks_len _ _).symm)
      clear hm
      go_wp2
      go_ret
      exact ⟨rfl,Hm.out,ho⟩
theorem heldInt64S_c (A:Option Addr) (n c k0:Nat) (w:World) {B:Nat} (hx:SlAt intRd 1 w B A n (marks k0 n)) (hn:n≤4294967296) (hk0:k0≤4611686018427387904) :
    Calls Tryz.prog 32 #[.slice A n c,.int .i64 k0] w fun e w'=>e=.returned (.int .i64 ((k0+n:Nat):Int))∧w=w':=by
  go_enter Tryz.func32,Tryz.ntmps32
  go_wp2
  go_loop [1,5] (fun kk i=>∃k:Nat,k≤n∧i=.int .i64 k∧kk=.int .i64 ((k0:Int)+k)) (fun _ i=>n - (intOf i).toNat)
  case atStart=>exact ⟨0,by omega,rfl,by simp⟩
  case round=>
    obtain ⟨k,hk,rfl,rfl⟩:=hrel
    by_cases hlt:k < n
    · obtain ⟨b,off,x,rfl,hb,hxk,hc⟩:=hx.int hlt
      rw [marks_get hlt] at hxk
      obtain rfl:((k0+k:Nat):Int)=x:=by injection hxk
      clear hxk
      rw [show (((k0+k:Nat):Int))=(k0:Int)+k from by omega] at hc
      go_wp2
      go_round
      case rel=>exact ⟨k+1,by omega,by go_num,by go_num⟩
      case measure=>simp [intOf]; omega
    · obtain rfl:n=k:=by omega
      go_wp2
      go_ret
      exact ⟨rfl,rfl⟩
end
section
open Go.RowKit
def ivals (l:List Int):List Value:=l.map (Value.int .i64)
/-- A row of numbers is a slice of the call's own. -/
theorem ownsRow_ints {w:World} {base:Nat} {e:TypeId} {v:Value} {n:Nat} {xs:List Int} (h:w.ownsRow base e 1 v n (ivals xs)) :∃A c bs,v=.slice A n c∧OwAt intOw 1 w A n xs bs∧bs.Nodup∧(∀b∈bs,base≤b∧b < w.heap.size)∧n≤c∧c≤maxLen:=by
  have hlen:n=xs.length:=by have:=h.1; simp [ivals] at this; omega
  rcases h.2 with ⟨rfl,rfl⟩|⟨g,cap,cur,rfl,hg,hh,h1,h2,h3,h4⟩
  · have:xs=[]:=List.eq_nil_of_length_eq_zero hlen.symm
    subst this
    exact ⟨none,0,[],rfl,⟨rfl,.inl ⟨rfl,rfl⟩⟩,List.nodup_nil,fun b hb=>by simp at hb,Nat.le_refl _,Nat.zero_le _⟩
  · have hblk:Blk w g e cur:=hh
    refine ⟨some ⟨g,0,none⟩,cap,[g],rfl,⟨hlen,.inr ⟨g,0,[],rfl,rfl,?_⟩⟩,by simp,fun b hb=>by simp at hb; subst hb; exact ⟨hg,hblk.lt⟩,h1,h2⟩
    have key :∀(l:List Int) (o:Nat),(∀j x,l[j]? = some x→cur[o+j]? = some (.int .i64 x))→ElAt intOw 1 w g o l []:=by
      intro l
      induction l with
      |nil=>intro o _; rfl
      |cons x l ih=>
        intro o hl
        refine ⟨[.int .i64 x],[],[],⟨rfl,rfl⟩,hblk.csAt (fun j v hj=>?_),rfl,ih (o+1) (fun j y hy=>?_)⟩
        · cases j with
          | zero => have : Value.int .i64 x = v := by simpa using hj
                    subst this; exact hl 0 x rfl
          |succ j=>simp at hj
        · have:=hl (j+1) y (by simpa using hy)
          rwa [show o+(j+1)=o+1+j by omega] at this
    refine key xs 0 (fun j x hx=>?_)
    have hj:(ivals xs)[j]? = some (.int .i64 x):=by simp [ivals,hx]
    rw [← h4,List.getElem?_take] at hj
    split at hj
    · simpa using hj
    · cases hj
/-- A result that is a list of numbers and a code. -/
def RetInts (B:Nat) (w':World) (xs:List Int) (k:Int) (e:Ending):Prop:=
  ∃A n c bs,e=.returned (.tuple #[.slice A n c,.int .i64 k])∧OwAt intOw 1 w' A n xs bs∧bs.Nodup∧(∀b∈bs,B≤b∧b < w'.heap.size)∧n≤c∧c≤maxLen
theorem RetInts.row {B:Nat} {w':World} {v:Value} {n:Nat} {xs:List Int} {e:TypeId} {k:Int} (h:w'.ownsRow B e 1 v n (ivals xs)):RetInts B w' xs k (.returned (.tuple #[v,.int .i64 k])):=by
  obtain ⟨A,c,bs,rfl,h1,h2,h3,h4⟩:=ownsRow_ints h
  exact ⟨A,n,c,bs,rfl,h1,h2,h3,h4⟩
end
section
open Go.RowKit
/-- A slice value that reads as a list. -/
def RdS {α:Type} (R:Rd α) (sz:Nat) (w:World) (B:Nat) (v:Value) (xs:List α):Prop:=∃A n c,v=.slice A n c∧SlAt R sz w B A n xs∧n≤c∧c≤maxLen
/-- A slice value of the call's own whose blocks lie from lo to hi. -/
def OwS {α:Type} (O:Ow α) (sz:Nat) (w:World) (v:Value) (xs:List α) (lo hi:Nat):Prop:=∃A n c bs,v=.slice A n c∧OwAt O sz w A n xs bs∧bs.Nodup∧(∀b∈bs,lo≤b∧b < hi)∧n≤c∧c≤maxLen
/-- A struct value. -/
def RdT {α:Type} (R:Rd α) (w:World) (B:Nat) (v:Value) (x:α):Prop:=∃cs,v=.agg cs.toArray∧R w B cs x
def OwT {α:Type} (O:Ow α) (w:World) (v:Value) (x:α) (lo hi:Nat):Prop:=∃cs bs,v=.agg cs.toArray∧O w cs x bs∧bs.Nodup∧∀b∈bs,lo≤b∧b < hi
structure OnlyIn (lo hi:Nat) (w w':World):Prop where
  os:w'.os=w.os
  tape:w'.tape=w.tape
  output:w'.output=w.output
  size:w'.heap.size=w.heap.size
  block :∀k,k < lo ∨ hi≤k→w'.heap[k]? = w.heap[k]?
section
variable {w w' w'' : World} {lo hi lo' hi' B : Nat}
theorem OnlyIn.refl (lo hi:Nat) (w:World):OnlyIn lo hi w w:=⟨rfl,rfl,rfl,rfl,fun _ _=>rfl⟩
theorem Only.in_ {bs:List Nat} (h:Only bs w w') (hb :∀b∈bs,lo≤b∧b < hi):OnlyIn lo hi w w':=
  ⟨h.os,h.tape,h.output,h.size,fun k hk=>h.block k (fun hin=>by have:=hb k hin; omega)⟩
theorem OnlyIn.trans (h:OnlyIn lo hi w w') (h':OnlyIn lo hi w' w''):OnlyIn lo hi w w'':=
  ⟨h'.os.trans h.os,h'.tape.trans h.tape,h'.output.trans h.output,h'.size.trans h.size,fun k hk=>(h'.block k hk).trans (h.block k hk)⟩
theorem OnlyIn.setCell (h:OnlyIn lo hi w w') {p:Addr} (hp:lo≤p.block∧p.block < hi) (u:Value):OnlyIn lo hi w (w'.setCell p u):=
  h.trans ⟨rfl,rfl,rfl,by simp [World.setCell],fun k hk=>Below.heap_setCell _ _ _ _ (fun e=>by omega)⟩
theorem OnlyIn.drew (h:OnlyIn lo hi w w'):OnlyIn lo hi w w'.drew:=⟨h.os,h.tape,h.output,h.size,h.block⟩
theorem OnlyIn.below (h:OnlyIn lo hi w w'):Below lo w w':=⟨h.os,h.tape,h.output,by rw [h.size]; exact Nat.le_refl _,fun k hk=>h.block k (.inl hk)⟩
section
variable {α : Type} {O : Ow α} {R : Rd α} {sz : Nat} {v : Value} {xs : List α} {x : α}
theorem RdS.below (ok:RdOk R sz) (h:RdS R sz w B v xs) (hb:Below B w w'):RdS R sz w' B v xs:=let ⟨A,n,c,e,h,r⟩:=h; ⟨A,n,c,e,h.below ok hb,r⟩
theorem RdS.more (ok:RdOk R sz) (h:RdS R sz w B v xs) {B':Nat} (hB:B≤B'):RdS R sz w B' v xs:=let ⟨A,n,c,e,h,r⟩:=h; ⟨A,n,c,e,h.more ok hB,r⟩
theorem RdT.below (ok:RdOk R sz) (h:RdT R w B v x) (hb:Below B w w'):RdT R w' B v x:=let ⟨cs,e,h⟩:=h; ⟨cs,e,ok.keep (fun p hp=>hb.cell hp) h⟩
theorem RdT.more (ok:RdOk R sz) (h:RdT R w B v x) {B':Nat} (hB:B≤B'):RdT R w B' v x:=let ⟨cs,e,h⟩:=h; ⟨cs,e,ok.more hB h⟩
theorem OwS.keep (ok:OwOk O sz) (h:OwS O sz w v xs lo hi) (hk :∀k,lo≤k→k < hi→w'.heap[k]? = w.heap[k]?):OwS O sz w' v xs lo hi:=
  let ⟨A,n,c,bs,e,h,h1,h2,r⟩:=h; ⟨A,n,c,bs,e,h.keep ok (fun k hin=>hk k (h2 k hin).1 (h2 k hin).2),h1,h2,r⟩
theorem OwS.below (ok:OwOk O sz) (h:OwS O sz w v xs lo hi) (hb:Below B w w') (hB:hi≤B):OwS O sz w' v xs lo hi:=h.keep ok fun k _ hk=>hb.block k (by omega)
theorem OwS.only (ok:OwOk O sz) (h:OwS O sz w v xs lo hi) (ho:OnlyIn lo' hi' w w') (hd:hi≤lo' ∨ hi'≤lo):OwS O sz w' v xs lo hi:=h.keep ok fun k h1 h2=>ho.block k (by omega)
theorem OwS.reads (hR:Gives O R B) (h:OwS O sz w v xs lo hi) (hB:hi≤B):RdS R sz w B v xs:=let ⟨A,n,c,bs,e,h,h1,h2,r⟩:=h; ⟨A,n,c,e,h.reads hR (fun k hk=>by have:=h2 k hk; omega),r⟩
theorem OwT.keep (ok:OwOk O sz) (h:OwT O w v x lo hi) (hk :∀k,lo≤k→k < hi→w'.heap[k]? = w.heap[k]?):OwT O w' v x lo hi:=
  let ⟨cs,bs,e,h,h1,h2⟩:=h; ⟨cs,bs,e,ok.keep (fun k hin=>hk k (h2 k hin).1 (h2 k hin).2) h,h1,h2⟩
theorem OwT.below (ok:OwOk O sz) (h:OwT O w v x lo hi) (hb:Below B w w') (hB:hi≤B):OwT O w' v x lo hi:=h.keep ok fun k _ hk=>hb.block k (by omega)
theorem OwT.only (ok:OwOk O sz) (h:OwT O w v x lo hi) (ho:OnlyIn lo' hi' w w') (hd:hi≤lo' ∨ hi'≤lo):OwT O w' v x lo hi:=h.keep ok fun k h1 h2=>ho.block k (by omega)
theorem OwT.reads (hR:Gives O R B) (h:OwT O w v x lo hi) (hB:hi≤B):RdT R w B v x:=let ⟨cs,bs,e,h,h1,h2⟩:=h; ⟨cs,e,hR _ _ _ _ h (fun k hk=>by have:=h2 k hk; omega)⟩
end
end
/-- Marks of a list whose elements take several numbers each. -/
def mkL {α:Type} (mk:Nat→α→α) (cnt:α→Nat):Nat→List α→List α
  |_,[]=>[]
  |k,x :: xs=>mk k x :: mkL mk cnt (k+cnt x) xs
def cntL {α:Type} (cnt:α→Nat) (xs:List α):Nat:=(xs.map cnt).sum
section
variable {α : Type} {mk : Nat → α → α} {cnt : α → Nat}
theorem cntL_cons (x:α) (xs:List α):cntL cnt (x :: xs)=cnt x+cntL cnt xs:=by simp [cntL]
theorem cntL_append (xs ys:List α):cntL cnt (xs ++ ys)=cntL cnt xs+cntL cnt ys:=by simp [cntL]
theorem mkL_len :∀(xs:List α) (k:Nat),(mkL mk cnt k xs).length=xs.length
  |[],_=>rfl
  |x :: xs,k=>by simp [mkL,mkL_len xs]
theorem mkL_append :∀(xs ys:List α) (k:Nat),mkL mk cnt k (xs ++ ys)=mkL mk cnt k xs ++ mkL mk cnt (k+cntL cnt xs) ys
  |[],ys,k=>by simp [mkL,cntL]
  |x :: xs,ys,k=>by simp [mkL,mkL_append xs ys,cntL_cons,Nat.add_assoc]
theorem cntL_take {xs:List α} {i:Nat} {x:α} (h:xs[i]? = some x):cntL cnt (xs.take (i+1))=cntL cnt (xs.take i)+cnt x:=by
  rw [take_succ_some h,cntL_append,cntL_cons]; simp [cntL]
theorem cntL_le (xs:List α) (i:Nat):cntL cnt (xs.take i)≤cntL cnt xs:=by
  have h:cntL cnt (xs.take i ++ xs.drop i)=cntL cnt xs:=by rw [List.take_append_drop]
  rw [cntL_append] at h
  omega
theorem mkL_take {xs:List α} {i k:Nat} {x:α} (h:xs[i]? = some x):mkL mk cnt k (xs.take (i+1))=mkL mk cnt k (xs.take i) ++ [mk (k+cntL cnt (xs.take i)) x]:=by
  rw [take_succ_some h,mkL_append]; rfl
end
/-- An element at b, p is being written: its own cells, and the blocks of bs. -/
structure Touch (b p sz:Nat) (bs:List Nat) (w w':World):Prop where
  os:w'.os=w.os
  tape:w'.tape=w.tape
  output:w'.output=w.output
  size:w'.heap.size=w.heap.size
  cell :∀q,q < p ∨ p+sz≤q→w'.cell? ⟨b,q,none⟩=w.cell? ⟨b,q,none⟩
  frozen :∀q,w'.frozen? ⟨b,q,none⟩=w.frozen? ⟨b,q,none⟩
  block :∀k,k ≠ b→k ∉ bs→w'.heap[k]? = w.heap[k]?
section
variable {w w' w'' : World} {b p sz : Nat} {bs bs' : List Nat}
theorem Touch.refl:Touch b p sz bs w w:=⟨rfl,rfl,rfl,rfl,fun _ _=>rfl,fun _=>rfl,fun _ _ _=>rfl⟩
theorem Touch.trans (h:Touch b p sz bs w w') (h':Touch b p sz bs w' w''):Touch b p sz bs w w'':=
  ⟨h'.os.trans h.os,h'.tape.trans h.tape,h'.output.trans h.output,h'.size.trans h.size,fun q hq=>(h'.cell q hq).trans (h.cell q hq),fun q=>(h'.frozen q).trans (h.frozen q),fun k h1 h2=>(h'.block k h1 h2).trans (h.block k h1 h2)⟩
theorem Touch.set (h:Touch b p sz bs w w') {j:Nat} (h1:p≤j) (h2:j < p+sz) (v:Value):Touch b p sz bs w (w'.setCell ⟨b,j,none⟩ v):=
  h.trans ⟨rfl,rfl,rfl,by simp [World.setCell],fun q hq=>World.cell?_setCell_other _ _ _ _ (fun e=>by injection e with _ e2; omega),fun q=>World.frozen?_setCell _ _ _ _,fun k hk _=>Below.heap_setCell _ _ _ _ hk⟩
theorem Touch.only (h:Touch b p sz bs w w') (ho:Only bs' w' w'') (hb:b ∉ bs') (hs :∀k∈bs',k∈bs):Touch b p sz bs w w'':=
  h.trans ⟨ho.os,ho.tape,ho.output,ho.size,fun q _=>World.cell?_of_block (w:=w') (a:=⟨b,q,none⟩) (ho.block b hb),fun q=>World.frozen?_of_block (w:=w') (a:=⟨b,q,none⟩) (ho.block b hb),fun k _ hk=>ho.block k (fun hin=>hk (hs k hin))⟩
theorem Touch.only_ (h:Touch b p sz bs w w'):Only (b :: bs) w w':=⟨h.os,h.tape,h.output,h.size,fun k hk=>h.block k (by simp at hk; exact hk.1) (by simp at hk; exact hk.2)⟩
theorem Touch.el {α:Type} {O:Ow α} {s:Nat} (ok:OwOk O s) {xs:List α} {o:Nat} {bl:List Nat} (h:Touch b p sz bs w w') (hd:o+xs.length * s≤p ∨ p+sz≤o) (hbl :∀k∈bl,k ≠ b∧k ∉ bs) (hE:ElAt O s w b o xs bl):ElAt O s w' b o xs bl:=
  hE.keepC ok (fun q h1 h2=>⟨h.cell q (by omega),h.frozen q⟩) (fun k hk=>h.block k (hbl k hk).1 (hbl k hk).2)
end
theorem SlAt.drew {α:Type} {R:Rd α} {sz:Nat} {w:World} {B n:Nat} {A:Option Addr} {xs:List α} (ok:RdOk R sz) (h:SlAt R sz w B A n xs):SlAt R sz w.drew B A n xs:=SlAt.keep (w:=w) (w':=w.drew) ok (fun _ _=>rfl) h
/-- One result, or a result and codes. -/
def Ret1 (P:Value→Prop) (e:Ending):Prop:=∃v,e=.returned v∧P v
def Ret2 (P:Value→Prop) (k:Int) (e:Ending):Prop:=∃v,e=.returned (.tuple #[v,.int .i64 k])∧P v
theorem RetInts.ret2 {B:Nat} {w':World} {xs:List Int} {k:Int} {e:Ending} (h:RetInts B w' xs k e):Ret2 (fun v=>OwS intOw 1 w' v xs B w'.heap.size) k e:=by
  obtain ⟨A,n,c,bs,e1,h1,h2,h3,h4⟩:=h
  exact ⟨_,e1,A,n,c,bs,rfl,h1,h2,h3,h4⟩
end
section
open Go.RowKit
def lenOk {α:Type} (xs:List α):Prop:=xs.length≤1048576
theorem eqInt64S_v (v u:Value) (xs ys:List Int) (w:World) {B B':Nat} (h:RdS intRd 1 w B v xs) (h':RdS intRd 1 w B' u ys) (hB:B≤w.heap.size) (hB':B'≤w.heap.size) :
    Calls Tryz.prog 26 #[v,u] w fun e w'=>e=.returned (.bool (eqL xs ys))∧Below w.heap.size w w':=by
  obtain ⟨A,n,c,rfl,h,hnc,hcm⟩:=h
  obtain ⟨C,m,d,rfl,h',hmd,hdm⟩:=h'
  refine (eqInt64S_c A C n c m d xs ys w (h.more intRd_ok (Nat.le_max_left B B')) (h'.more intRd_ok (Nat.le_max_right B B')) (by unfold maxLen at hcm; omega) (by unfold maxLen at hdm; omega)).mono ?_
  rintro e w' ⟨rfl,q,rfl⟩
  exact ⟨rfl,⟨rfl,rfl,rfl,Nat.le_refl _,fun _ _=>rfl⟩⟩
theorem markInt64S_v (v:Value) (xs:List Int) (w:World) (k:Int) (lo hi:Nat) (h:OwS intOw 1 w v xs lo hi) (hs:lenOk xs) (h0:0≤k) (hk:k≤4611686018427387904) :
    Calls Tryz.prog 31 #[v,.int .i64 k] w fun e w'=>e=.returned (.int .i64 (k+xs.length))∧OwS intOw 1 w' v (marks k.toNat xs.length) lo hi∧OnlyIn lo hi w w':=by
  obtain ⟨A,n,c,bs,rfl,h,h1,h2,r⟩:=h
  have hl:=h.len
  obtain ⟨k0,rfl⟩:=Int.eq_ofNat_of_zero_le h0
  refine (markInt64S_c A n c k0 xs bs w h h1 (by unfold lenOk at hs; omega) (by omega)).mono ?_
  rintro e w' ⟨rfl,h3,h4⟩
  rw [← hl]
  exact ⟨retI (by omega),⟨A,n,c,bs,rfl,h3,h1,h2,r⟩,h4.in_ h2⟩
theorem heldInt64S_v (v:Value) (xs:List Int) (w:World) (k:Int) {B:Nat} (h:RdS intRd 1 w B v (marks k.toNat xs.length)) (hs:lenOk xs) (h0:0≤k) (hk:k≤4611686018427387904) :
    Calls Tryz.prog 32 #[v,.int .i64 k] w fun e w'=>e=.returned (.int .i64 (k+xs.length))∧Below w.heap.size w w':=by
  obtain ⟨A,n,c,rfl,h,hnc,hcm⟩:=h
  have hl:n=xs.length:=by have:=h.len; rw [marks_len] at this; exact this
  rw [← hl] at h
  obtain ⟨k0,rfl⟩:=Int.eq_ofNat_of_zero_le h0
  refine (heldInt64S_c A n c k0 w h (by unfold lenOk at hs; omega) (by omega)).mono ?_
  rintro e w' ⟨rfl,rfl⟩
  exact ⟨retI (by omega),Below.refl _ _⟩
end
section
open Go.RowKit
structure DPort where
  agent:Int
  slot:Int
deriving DecidableEq,Inhabited
def portRd:Rd DPort:=fun _ _ cs x=>cs=[.int .i64 x.agent,.int .i64 x.slot]
structure DPair where
  a:Int
  b:Int
deriving DecidableEq,Inhabited
def pairRd:Rd DPair:=fun _ _ cs x=>cs=[.int .i64 x.a,.int .i64 x.b]
structure DWord where
  tag:Int
  at_:Int
deriving DecidableEq,Inhabited
def wordRd:Rd DWord:=fun _ _ cs x=>cs=[.int .i64 x.tag,.int .i64 x.at_]
structure DAgent where
  kind:Int
  level:Int
  value:Int
  data:List Int
  ports:List DPort
deriving DecidableEq,Inhabited
def agentRd:Rd DAgent:=fun w B cs x=>∃(A1:Option Addr) (n1 c1:Nat) (A2:Option Addr) (n2 c2:Nat),cs=[.int .i64 x.kind,.int .i64 x.level,.int .i64 x.value,.slice A1 n1 c1,.slice A2 n2 c2]∧(SlAt intRd 1 w B A1 n1 x.data∧n1≤c1∧c1≤maxLen)∧(SlAt portRd 2 w B A2 n2 x.ports∧n2≤c2∧c2≤maxLen)
def szAgent (x:DAgent):Nat:=x.data.length+x.ports.length
def szAgentS (xs:List DAgent):Nat:=xs.length+(xs.map szAgent).sum
structure DNet where
  agents:List DAgent
deriving DecidableEq,Inhabited
def netRd:Rd DNet:=fun w B cs x=>∃(A1:Option Addr) (n1 c1:Nat),cs=[.slice A1 n1 c1]∧(SlAt agentRd 5 w B A1 n1 x.agents∧n1≤c1∧c1≤maxLen)
theorem SlAt.net {w:World} {B n:Nat} {A:Option Addr} {xs:List DNet} (h:SlAt netRd 1 w B A n xs) {k:Nat} (hk:k < n) :
    ∃b off x A1 n1 c1,A=some ⟨b,off,none⟩∧b < B∧xs[k]? = some x∧w.cell? ⟨b,off+k,none⟩=some (.slice A1 n1 c1)∧(SlAt agentRd 5 w B A1 n1 x.agents∧n1≤c1∧c1≤maxLen):=by
  obtain ⟨b,off,x,cs,e,hb,hx,⟨A1,n1,c1,rfl,h1⟩,hc⟩:=h.at_ hk
  exact ⟨b,off,x,A1,n1,c1,e,hb,hx,(by simpa using hc 0 _ rfl),h1⟩
structure DCell where
  kind:Int
  level:Int
  value:Int
  data:List Int
  words:List DWord
deriving DecidableEq,Inhabited
def cellRd:Rd DCell:=fun w B cs x=>∃(A1:Option Addr) (n1 c1:Nat) (A2:Option Addr) (n2 c2:Nat),cs=[.int .i64 x.kind,.int .i64 x.level,.int .i64 x.value,.slice A1 n1 c1,.slice A2 n2 c2]∧(SlAt intRd 1 w B A1 n1 x.data∧n1≤c1∧c1≤maxLen)∧(SlAt wordRd 2 w B A2 n2 x.words∧n2≤c2∧c2≤maxLen)
theorem SlAt.cell {w:World} {B n:Nat} {A:Option Addr} {xs:List DCell} (h:SlAt cellRd 5 w B A n xs) {k:Nat} (hk:k < n) :
    ∃b off x A1 n1 c1 A2 n2 c2,A=some ⟨b,off,none⟩∧b < B∧xs[k]? = some x∧w.cell? ⟨b,off+k * 5,none⟩=some (.int .i64 x.kind)∧w.cell? ⟨b,off+k * 5+1,none⟩=some (.int .i64 x.level)∧w.cell? ⟨b,off+k * 5+2,none⟩=some (.int .i64 x.value)∧w.cell? ⟨b,off+k * 5+3,none⟩=some (.slice A1 n1 c1)∧w.cell? ⟨b,off+k * 5+4,none⟩=some (.slice A2 n2 c2)∧(SlAt intRd 1 w B A1 n1 x.data∧n1≤c1∧c1≤maxLen)∧(SlAt wordRd 2 w B A2 n2 x.words∧n2≤c2∧c2≤maxLen):=by
  obtain ⟨b,off,x,cs,e,hb,hx,⟨A1,n1,c1,A2,n2,c2,rfl,h1,h2⟩,hc⟩:=h.at_ hk
  exact ⟨b,off,x,A1,n1,c1,A2,n2,c2,e,hb,hx,(by simpa using hc 0 _ rfl),(by simpa using hc 1 _ rfl),(by simpa using hc 2 _ rfl),(by simpa using hc 3 _ rfl),(by simpa using hc 4 _ rfl),h1,h2⟩
structure DMemory where
  cells:List DCell
  free:Int
  root:DWord
  redexes:List DPair
deriving DecidableEq,Inhabited
def memoryRd:Rd DMemory:=fun w B cs x=>∃(A1:Option Addr) (n1 c1:Nat) (A2:Option Addr) (n2 c2:Nat),cs=[.slice A1 n1 c1,.int .i64 x.free,.int .i64 x.root.tag,.int .i64 x.root.at_,.slice A2 n2 c2]∧(SlAt cellRd 5 w B A1 n1 x.cells∧n1≤c1∧c1≤maxLen)∧(SlAt pairRd 2 w B A2 n2 x.redexes∧n2≤c2∧c2≤maxLen)
theorem SlAt.memory {w:World} {B n:Nat} {A:Option Addr} {xs:List DMemory} (h:SlAt memoryRd 5 w B A n xs) {k:Nat} (hk:k < n) :
    ∃b off x A1 n1 c1 A2 n2 c2,A=some ⟨b,off,none⟩∧b < B∧xs[k]? = some x∧w.cell? ⟨b,off+k * 5,none⟩=some (.slice A1 n1 c1)∧w.cell? ⟨b,off+k * 5+1,none⟩=some (.int .i64 x.free)∧w.cell? ⟨b,off+k * 5+2,none⟩=some (.int .i64 x.root.tag)∧w.cell? ⟨b,off+k * 5+3,none⟩=some (.int .i64 x.root.at_)∧w.cell? ⟨b,off+k * 5+4,none⟩=some (.slice A2 n2 c2)∧(SlAt cellRd 5 w B A1 n1 x.cells∧n1≤c1∧c1≤maxLen)∧(SlAt pairRd 2 w B A2 n2 x.redexes∧n2≤c2∧c2≤maxLen):=by
  obtain ⟨b,off,x,cs,e,hb,hx,⟨A1,n1,c1,A2,n2,c2,rfl,h1,h2⟩,hc⟩:=h.at_ hk
  exact ⟨b,off,x,A1,n1,c1,A2,n2,c2,e,hb,hx,(by simpa using hc 0 _ rfl),(by simpa using hc 1 _ rfl),(by simpa using hc 2 _ rfl),(by simpa using hc 3 _ rfl),(by simpa using hc 4 _ rfl),h1,h2⟩
end
section
open Go.RowKit
theorem Blk.only {w w':World} {g lo hi:Nat} {t:TypeId} {cs:Array Value} (h:Blk w g t cs) (ho:OnlyIn lo hi w w') (hg:g < lo ∨ hi≤g):Blk w' g t cs:=(ho.block g hg).trans h
end
section
open Go.RowKit
/-- A frame of n slots. -/
def Fr (n:Nat) (f:Nat→Value):Act:=⟨((List.range n).map f).toArray,[]⟩
def up (f:Nat→Value) (d:Nat) (v:Value):Nat→Value:=fun k=>bif Nat.beq k d then v else f k
def upo (f:Nat→Value):Option Tmp→Value→Nat→Value
  |some d,v=>up f d v
  |none,_=>f
def ev (f:Nat→Value):Operand→Value
  |.tmp t=>f t
  |.const v=>v
  |.global g=>.pointer (some ⟨g,0,none⟩)
  |.func g=>.func (.func g) #[] #[]
def opIn (n:Nat):Operand→Bool
  |.tmp t=>Nat.blt t n
  |_=>true
def okOp (n:Nat) (ops:Array Oper) (o:Oper):Bool:=
  o.op.operands.toList.all (opIn n) && (match o.op with|.select ..=>false|_=>true) &&
  (match o.guard with|none=>true|some (j,_)=>match (ops[j]?).bind (·.dst) with|some d=>Nat.blt d n|none=>true)
def gval (f:Nat→Value) (ops:Array Oper) (j:Nat):Option Bool:=
  match (ops[j]?).bind (·.dst) with
  |some d=>match f d with|.bool b=>some b|_=>none
  |none=>none
def wantF (f:Nat→Value) (ops:Array Oper) (o:Oper):Bool:=
  match o.guard with
  |none=>true
  |some (j,want)=>gval f ops j==some want
theorem Fr_get {n:Nat} {f:Nat→Value} {t:Nat} (h:t < n):(Fr n f).tmps[t]? = some (f t):=by simp [Fr,h]
theorem Fr_eval {n:Nat} {f:Nat→Value} {x:Operand} (h:opIn n x=true):(Fr n f).eval x=ev f x:=by
  cases x with
  |tmp t=>
    have ht:t < n:=by simpa [opIn] using h
    simp [Act.eval,Fr,ev,ht]
  |_=>rfl
theorem Fr_put {n:Nat} {f:Nat→Value} {d:Option Tmp} {v:Value} : (Fr n f).put d v=Fr n (upo f d v):=by
  cases d with
  |none=>rfl
  |some d=>
    simp only [Act.put,Fr,upo,Act.mk.injEq,and_true]
    apply Array.ext_getElem?
    intro i
    simp only [Array.getElem?_setIfInBounds,List.size_toArray,List.length_map,List.length_range,List.getElem?_toArray,List.getElem?_map]
    by_cases hi:i < n
    · by_cases hd:d=i
      · subst hd; simp [hi,up]
      · have h1:i.beq d=false:=by cases h:i.beq d with|false=>rfl|true=>exact absurd (Nat.eq_of_beq_eq_true h).symm hd
        simp [hi,hd,up,h1]
    · by_cases hd:d=i
      · subst hd; simp [hi]
      · simp [hd,hi]
theorem Fr_exec {n:Nat} {f:Nat→Value} {ops:Array Oper} {o:Oper} (h:okOp n ops o=true):execOp (Fr n f).eval o=execOp (ev f) o:=by
  simp only [okOp,Bool.and_eq_true,List.all_eq_true] at h
  refine execOp_congr o (fun cs b e=>?_) (fun x hx=>Fr_eval (h.1.1 x (by simpa using hx)))
  have:=h.1.2
  rw [e] at this
  cases this
theorem Fr_wanted {n:Nat} {f:Nat→Value} {ops:Array Oper} {o:Oper} (h:okOp n ops o=true):Region.wanted o (yielded ops (Fr n f).tmps)=wantF f ops o:=by
  simp only [okOp,Bool.and_eq_true] at h
  have h3:=h.2
  unfold Region.wanted wantF
  cases hg:o.guard with
  |none=>rfl
  |some p=>
    obtain ⟨j,want⟩:=p
    rw [hg] at h3
    simp only at h3 ⊢
    congr 1
    unfold yielded gval
    cases hd:(ops[j]?).bind (·.dst) with
    |none=>rfl
    |some d=>
      rw [hd] at h3
      have hlt:d < n:=by simpa using h3
      simp only [Option.bind_some,Fr_get hlt]
      cases f d <;> rfl
section
variable {P : Program} {ops : Array Oper}
/-- The operations one by one, in every world of the class C. -/
def RQ (P:Program) (ops:Array Oper) (C:World→Prop) (Q:(Nat→Value)→Prop):List Oper→(Nat→Value)→Prop
  |[],f=>Q f
  |o :: rest,f=>∃v,((wantF f ops o=true∧∀w,C w→Oper.quietUpon P C w v ((execOp (ev f) o).run P w)) ∨ (wantF f ops o=false∧v=undef))∧RQ P ops C Q rest (upo f o.dst v)
theorem RQ_quiet {n:Nat} {C:World→Prop} {Q:(Nat→Value)→Prop} :∀{l:List Oper} {f:Nat→Value},(∀o∈l,okOp n ops o=true)→RQ P ops C Q l f→wpQuiet P ops C (fun a=>∃f',a=Fr n f'∧Q f') l (Fr n f)
  |[],f,_,h=>⟨f,rfl,h⟩
  |o :: rest,f,hin,⟨v,h1,h2⟩=>by
    have ho:=hin o (by simp)
    have ih:=RQ_quiet (fun o' h'=>hin o' (by simp [h'])) h2
    unfold wpQuiet
    rw [Fr_wanted ho]
    rcases h1 with ⟨hw,h1⟩|⟨hw,rfl⟩
    · rw [hw,if_pos rfl]
      exact ⟨v,fun w hw'=>by unfold Oper.quietAt; rw [Fr_exec ho]; exact h1 w hw',by rw [Fr_put]; exact ih⟩
    · rw [hw,if_neg (by decide),Fr_put]
      exact ih
theorem quiet_list {C:World→Prop} {Q:Act→Prop} {Q':Exit→Act→World→Prop} (hQ :∀a w,C w→Q a→Q' .normal a w) :∀{l:List Oper} {a:Act} {w:World},C w→wpQuiet P ops C Q l a→wpList P ops Q' l a w
  |[],a,w,hw,h=>hQ a w hw h
  |o :: rest,a,w,hw,h=>by
    unfold wpQuiet at h
    unfold wpList
    split
    · rename_i hg
      rw [if_pos hg] at h
      exact .inl (Oper.wp_of_quiet hw (fun a' w' hw' h'=>quiet_list hQ hw' h') h)
    · rename_i hg
      rw [if_neg hg] at h
      exact quiet_list hQ hw h
def okAll (n:Nat) (l:List Oper):Bool:=l.all (okOp n l.toArray)
theorem wp_rq {id n:Nat} {l:List Oper} {f:Nat→Value} {w:World} {Q:Exit→Act→World→Prop} (C:World→Prop) (hC:C w) (hin:okAll n l=true)
    (h:RQ P l.toArray C (fun f'=>∀w',C w'→Q .normal (Fr n f') w') l f):(Code.region id l.toArray false).wp P Q (Fr n f) w:=by
  refine wp_region_lit (quiet_list (Q:=fun a=>∃f',a=Fr n f'∧∀w',C w'→Q .normal (Fr n f') w') ?_ hC (RQ_quiet (fun o ho=>List.all_eq_true.1 hin o ho) h))
  rintro a w' hw' ⟨f',rfl,hq⟩
  exact hq w' hw'
theorem wp_rq_draw {id n:Nat} {l:List Oper} {f:Nat→Value} {w:World} {Q:Exit→Act→World→Prop} (C:World→Prop) (hC:C w.drew) (hm:P.follows .mixedOrders=true) (hin:(okAll n l && Region.lexB .any l.toArray)=true)
    (h:RQ P l.toArray C (fun f'=>∀w',C w'→Q .normal (Fr n f') w') l f):(Code.region id l.toArray true).wp P Q (Fr n f) w:=by
  simp only [Bool.and_eq_true] at hin
  refine wp_region_quiet (C:=C) hm hin.2 hC ?_
  have h1:=RQ_quiet (n:=n) (fun o ho=>List.all_eq_true.1 hin.1 o ho) h
  have mono :∀(l':List Oper) (a:Act),wpQuiet P l.toArray C (fun a=>∃f',a=Fr n f'∧∀w',C w'→Q .normal (Fr n f') w') l' a→wpQuiet P l.toArray C (fun a'=>∀w',C w'→Q .normal a' w') l' a:=by
    intro l'
    induction l' with
    |nil=>rintro a ⟨f',rfl,hq⟩; exact hq
    |cons o rest ih=>
      intro a h
      unfold wpQuiet at h ⊢
      split
      · rename_i hg; rw [if_pos hg] at h; exact Oper.quiet_mono (fun a=>ih a) h
      · rename_i hg; rw [if_neg hg] at h; exact ih _ h
  exact mono l (Fr n f) h1
/-- What one operation comes to in one world. -/
def OpX (P:Program) (K:Value→World→Prop):Result Next→Prop
  |.ok (.value v) w'=>K v w'
  |.ok .skip w'=>K undef w'
  |.ok (.enter g args) w'=>Calls P g args w' fun e w''=>∃v,e=.returned v∧K v w''
  |_=>False
def RL (P:Program) (ops:Array Oper) (Q:(Nat→Value)→World→Prop):List Oper→(Nat→Value)→World→Prop
  |[],f,w=>Q f w
  |o :: rest,f,w=>(wantF f ops o=true∧OpX P (fun v w'=>RL P ops Q rest (upo f o.dst v) w') ((execOp (ev f) o).run P w)) ∨ (wantF f ops o=false∧RL P ops Q rest (upo f o.dst undef) w)
theorem OpX_wp {o:Oper} {a:Act} {K:Act→World→Prop} {Q:Exit→Act→World→Prop} {r:Result Next} (h:OpX P (fun v w'=>K (a.put o.dst v) w') r):o.upon P a K Q r:=by
  cases r with
  |ok n w'=>
    cases n <;> simp only [OpX] at h <;> simp only [Oper.upon] <;> try exact h
    case enter g args=>exact h.mono fun e w'' ⟨v,he,hk⟩=>by subst he; exact hk
  |halt x w'=>simp only [OpX] at h
theorem RL_list {n:Nat} {Q:(Nat→Value)→World→Prop} {Q':Exit→Act→World→Prop} (hQ :∀f w,Q f w→Q' .normal (Fr n f) w) :∀{l:List Oper} {f:Nat→Value} {w:World},(∀o∈l,okOp n ops o=true)→RL P ops Q l f w→wpList P ops Q' l (Fr n f) w
  |[],f,w,_,h=>hQ f w h
  |o :: rest,f,w,hin,h=>by
    have ho:=hin o (by simp)
    unfold wpList
    rw [Fr_wanted ho]
    rcases h with ⟨hw,h⟩|⟨hw,h⟩
    · rw [hw,if_pos rfl]
      left
      unfold Oper.wp
      rw [Fr_exec ho]
      refine OpX_wp ?_
      have e:(fun v w'=>RL P ops Q rest (upo f o.dst v) w')=fun v w'=>RL P ops Q rest (upo f o.dst v) w':=rfl
      revert h
      generalize (execOp (ev f) o).run P w=r
      intro h
      have key :∀v w',RL P ops Q rest (upo f o.dst v) w'→wpList P ops Q' rest ((Fr n f).put o.dst v) w':=fun v w' h'=>by
        rw [Fr_put]; exact RL_list hQ (fun o' h''=>hin o' (by simp [h''])) h'
      cases r with
      |ok nx w'=>
        cases nx <;> simp only [OpX] at h ⊢ <;> try exact key _ _ h
        case enter g args=>exact h.mono fun e w'' ⟨v,he,hk⟩=>⟨v,he,key _ _ hk⟩
      |halt x w'=>simp only [OpX] at h
    · rw [hw,if_neg (by decide),Fr_put]
      exact RL_list hQ (fun o' h'=>hin o' (by simp [h'])) h
theorem wp_rl {id n:Nat} {l:List Oper} {f:Nat→Value} {w:World} {Q:Exit→Act→World→Prop} (hin:okAll n l=true)
    (h:RL P l.toArray (fun f' w'=>Q .normal (Fr n f') w') l f w):(Code.region id l.toArray false).wp P Q (Fr n f) w:=
  wp_region_lit (RL_list (fun f' w' h'=>h') (fun o ho=>List.all_eq_true.1 hin o ho) h)
end
end
section
open Go.RowKit
section
variable {P : Program} {ops : Array Oper} {C : World → Prop} {f : Nat → Value} {rest : List Oper}
/-- The operation o yields v in every world of the class, and leaves it. -/
def Y (P:Program) (C:World→Prop) (f:Nat→Value) (o:Oper) (v:Value):Prop:=∀w,C w→(execOp (ev f) o).run P w=.ok (.value v) w
def CellIn (C:World→Prop) (A:Addr) (v:Value):Prop:=∀w,C w→w.cell? A=some v
theorem eqC {w:World} {A:Addr} {v:Value} (h:w.cell? A=some v):CellIn (· = w) A v:=fun _ e=>by rw [e]; exact h
theorem beC {w:World} {A:Addr} {v:Value} (h:w.cell? A=some v):CellIn (Below w.heap.size w) A v:=fun _ e=>(e.cell (World.block_lt_of_cell? w A h)).trans h
theorem RQ.y {Q:(Nat→Value)→Prop} {o:Oper} {v:Value} (hg:wantF f ops o=true) (hy:Y P C f o v) (h:RQ P ops C Q rest (upo f o.dst v)):RQ P ops C Q (o :: rest) f:=
  ⟨v,.inl ⟨hg,fun w hw=>by rw [hy w hw]; exact ⟨rfl,rfl⟩⟩,h⟩
theorem RQ.skip {Q:(Nat→Value)→Prop} {o:Oper} (hg:wantF f ops o=false) (h:RQ P ops C Q rest (upo f o.dst undef)):RQ P ops C Q (o :: rest) f:=⟨undef,.inr ⟨hg,rfl⟩,h⟩
theorem RQ.nil {Q:(Nat→Value)→Prop} (h:Q f):RQ P ops C Q [] f:=h
theorem RL.y {Q:(Nat→Value)→World→Prop} {w:World} {o:Oper} {v:Value} (hg:wantF f ops o=true) (hy:Y P (· = w) f o v) (h:RL P ops Q rest (upo f o.dst v) w):RL P ops Q (o :: rest) f w:=
  .inl ⟨hg,by rw [hy w rfl]; exact h⟩
theorem RL.skip {Q:(Nat→Value)→World→Prop} {w:World} {o:Oper} (hg:wantF f ops o=false) (h:RL P ops Q rest (upo f o.dst undef) w):RL P ops Q (o :: rest) f w:=.inr ⟨hg,h⟩
theorem RL.nil {Q:(Nat→Value)→World→Prop} {w:World} (h:Q f w):RL P ops Q [] f w:=h
variable {d : Option Tmp} {ty : TypeId} {pos : String} {af : Array Edge} {g : Option (Nat × Bool)} {x y : Operand} {u v : Value} {t t' : TypeId}
theorem Y.move (hx:ev f x=v):Y P C f ⟨d,.move x,ty,pos,af,g⟩ v:=fun w _=>by subst hx; rfl
theorem Y.assign (hx:ev f x=v):Y P C f ⟨d,.assign x,ty,pos,af,g⟩ v:=fun w _=>by subst hx; rfl
theorem Y.nilCheck {A:Addr} (hx:ev f x=.pointer (some A)):Y P C f ⟨d,.nilCheck x,ty,pos,af,g⟩ (.pointer (some A)):=fun w _=>by simp [execOp,hx]
theorem Y.pick {c:Operand} {b:Bool} (hc:ev f c=.bool b) (hv:(bif b then ev f x else ev f y)=v):Y P C f ⟨d,.pick c x y,ty,pos,af,g⟩ v:=fun w _=>by
  subst hv
  cases b <;> simp [execOp,hc,asBool]
theorem Y.not {b b':Bool} (hx:ev f x=.bool b) (hb:(!b)=b'):Y P C f ⟨d,.unOp .not t x,ty,pos,af,g⟩ (.bool b'):=fun w _=>by
  subst hb
  simp [execOp,hx,Op.unary]
/-- The binary operations of integers. -/
def binI (o:BinOp) (k:IntKind) (m n:Int):Option Value:=
  match o with
  |.add=>some (.int k (k.wrap (m+n)))
  |.sub=>some (.int k (k.wrap (m - n)))
  |.mul=>some (.int k (k.wrap (m * n)))
  |.eql=>some (.bool (m==n))
  |.neq=>some (.bool (m != n))
  |.lss=>some (.bool (m < n))
  |.leq=>some (.bool (m≤n))
  |.gtr=>some (.bool (m > n))
  |.geq=>some (.bool (m ≥ n))
  |_=>none
theorem eqGuard_int {P:Program} {w:World} {o:BinOp} {k k':IntKind} {m n:Int} : (eqGuard o t x y (.int k m) (.int k' n)).run P w=.ok () w:=by
  unfold eqGuard; cases o <;> rfl
theorem Y.binI {o:BinOp} {k:IntKind} {m n:Int} (hx:ev f x=.int k m) (hy:ev f y=.int k n) (hr:binI o k m n=some v):Y P C f ⟨d,.binOp o t x y t',ty,pos,af,g⟩ v:=fun w _=>by
  simp only [execOp,hx,hy,Sem.run_bind,eqGuard_int,Result.andThen_ok]
  cases o <;> simp [Proofs.YtpbobilkejblgaaGreat.binI] at hr <;> subst hr <;> simp [binOp,Op.intArith,Op.intCmp]
theorem Y.beq {o:BinOp} {a b c:Bool} (ht:P.underlying t=some .bool) (hx:ev f x=.bool a) (hy:ev f y=.bool b) (ho:(o=.eql∧(a==b)=c) ∨ (o=.neq∧(a != b)=c)):Y P C f ⟨d,.binOp o t x y t',ty,pos,af,g⟩ (.bool c):=fun w _=>by
  rcases ho with ⟨rfl,rfl⟩|⟨rfl,rfl⟩
  · simp only [execOp,hx,hy,Sem.run_bind,eqGuard,Result.andThen_ok]
    simp [binOp,Op.equal,Op.maxDepth,run_equalIn_bool' w _ t a b ht]
  · simp only [execOp,hx,hy,Sem.run_bind,eqGuard,Result.andThen_ok]
    simp [binOp,Op.equal,Op.maxDepth,run_equalIn_bool' w _ t a b ht]
    cases a <;> cases b <;> rfl
def fieldO (P:Program) (t:TypeId) (i:Nat):Option Nat:=
  match P.underlying t with
  |some (.struct fs)=>match fs[i]? with
    |some fl=>match P.info? fl.type with
      |some inf=>if inf.size=0 then none else some fl.offset
      |none=>none
    |none=>none
  |_=>none
theorem Addr.add_eq (b o n:Nat):Addr.add ⟨b,o,none⟩ n=⟨b,o+n,none⟩:=by
  unfold Addr.add; split <;> simp_all
theorem Y.fieldAddr {i b o off:Nat} (hx:ev f x=.pointer (some ⟨b,o,none⟩)) (ht:fieldO P t i=some off):Y P C f ⟨d,.fieldAddr t x i,ty,pos,af,g⟩ (.pointer (some ⟨b,o+off,none⟩)):=fun w _=>by
  unfold fieldO at ht
  split at ht
  · rename_i fs hu
    split at ht
    · rename_i fl hf
      split at ht
      · rename_i inf hi
        split at ht
        · cases ht
        · rename_i hs
          injection ht with ht
          subst ht
          simp [execOp,hx,Instr.fieldAt,run_underlying hu,hf,Instr.sureAddr,fieldPlace,sizeOf,typeInfo,hi,hs,Addr.add_eq]
      · cases ht
    · cases ht
  · cases ht
def elemO (P:Program) (t:TypeId):Option Nat:=
  match P.underlying t with
  |some (.slice e)=>(P.info? e).map (·.size)
  |_=>none
theorem Y.indexAddr {b o n c m sz:Nat} {k:IntKind} {j:Int} (hx:ev f x=.slice (some ⟨b,o,none⟩) n c) (hi:ev f y=.int k j) (hj:j=(m:Int)) (hm:m < n) (ht:elemO P t=some sz) :
    Y P C f ⟨d,.indexAddr t x y,ty,pos,af,g⟩ (.pointer (some ⟨b,o+m * sz,none⟩)):=fun w _=>by
  subst hj
  unfold elemO at ht
  split at ht
  · rename_i e hu
    cases hinf:P.info? e with
    |none=>rw [hinf] at ht; cases ht
    |some inf=>
      rw [hinf] at ht
      simp at ht
      subst ht
      have h1:((m:Int) < (n:Int)):=by omega
      simp [execOp,hx,hi,Instr.indexAt,asIntOf,run_underlying hu,h1,sizeOf,typeInfo,hinf,Addr.add_eq]
      intro; omega
  · cases ht
def oneT (P:Program) (t:TypeId):Bool:=
  match P.underlying t with
  |some (.struct _)|some (.array ..)|none=>false
  |_=>true
theorem run_load1 {P:Program} {w:World} {A:Addr} (ht:oneT P t=true) (hc:w.cell? A=some v):(Instr.loadAt t (.pointer (some A))).run P w=.ok v w:=by
  unfold oneT at ht
  cases hu:P.underlying t with
  |none=>rw [hu] at ht; cases ht
  |some u=>cases u <;> first|(rw [hu] at ht; cases ht; done)|simp [Instr.loadAt,Instr.sureAddr,loadVar,isAgg,run_underlying hu,hc]
theorem Y.load {A:Addr} (hx:ev f x=.pointer (some A)) (ht:oneT P t=true) (hc:CellIn C A v):Y P C f ⟨d,.load t x,ty,pos,af,g⟩ v:=fun w hw=>by
  simp only [execOp,hx,Sem.run_bind,run_load1 ht (hc w hw),Result.andThen_ok]
  rfl
def aggO (P:Program) (t:TypeId):Option Nat:=
  match P.underlying t with
  |some (.struct _)=>(P.info? t).map (·.size)
  |some (.array ..)=>(P.info? t).map (·.size)
  |_=>none
def CellsIn (C:World→Prop) (b o:Nat) (cs:List Value):Prop:=∀w,C w→∀j v,cs[j]? = some v→w.cell? ⟨b,o+j,none⟩=some v
theorem run_loadN {P:Program} {w:World} {b o:Nat} {cs:List Value} (ht:aggO P t=some cs.length) (hc :∀j v,cs[j]? = some v→w.cell? ⟨b,o+j,none⟩=some v) :
    (Instr.loadAt t (.pointer (some ⟨b,o,none⟩))).run P w=.ok (.agg cs.toArray) w:=by
  unfold aggO at ht
  have key :∀u,P.underlying t=some u→(∀w,(isAgg t).run P w=.ok true w)→(P.info? t).map (·.size)=some cs.length→(Instr.loadAt t (.pointer (some ⟨b,o,none⟩))).run P w=.ok (.agg cs.toArray) w:=fun u hu ha hs=>by
    cases hi:P.info? t with
    |none=>rw [hi] at hs; cases hs
    |some inf=>
      rw [hi] at hs
      simp at hs
      have hl:=run_loadCells_list (P:=P) w ⟨b,o,none⟩ cs (fun j v hj=>by rw [Addr.add_eq]; exact hc j v hj)
      simp [Instr.loadAt,Instr.sureAddr,loadVar,ha,sizeOf,typeInfo,hi,hs,hl]
  split at ht
  · rename_i fs hu; exact key _ hu (fun w=>by simp [isAgg,run_underlying hu]) ht
  · rename_i e n hu; exact key _ hu (fun w=>by simp [isAgg,run_underlying hu]) ht
  · cases ht
theorem Y.loadN {b o:Nat} {cs:List Value} (hx:ev f x=.pointer (some ⟨b,o,none⟩)) (ht:aggO P t=some cs.length) (hc:CellsIn C b o cs):Y P C f ⟨d,.load t x,ty,pos,af,g⟩ (.agg cs.toArray):=fun w hw=>by
  simp only [execOp,hx,Sem.run_bind,run_loadN ht (hc w hw),Result.andThen_ok]
  rfl
theorem Y.extract {i:Nat} {vs:Array Value} (hx:ev f x=.tuple vs) (hi:vs[i]? = some v):Y P C f ⟨d,.extract x i,ty,pos,af,g⟩ v:=fun w _=>by
  simp [execOp,hx,Instr.extract,hi]
def sliceT (P:Program) (t:TypeId):Bool:=match P.underlying t with|some (.slice _)=>true|_=>false
theorem Y.len {A:Option Addr} {n c:Nat} (ht:sliceT P t=true) (hx:ev f x=.slice A n c):Y P C f ⟨d,.call ⟨.builtin .len,#[x],#[t]⟩,ty,pos,af,g⟩ (.int .i64 n):=fun w _=>by
  unfold sliceT at ht
  split at ht
  · rename_i e hu
    simp [execOp,resolve,invoke,builtin,hx,Builtin.len_,run_underlying hu,goInt]
  · cases ht
/-- The cells of a struct that is built. -/
def buildO (P:Program) (t:TypeId) (parts:List (Nat × Value)):Option (Array Value):=
  match P.underlying t with
  |some (.struct fs)=>match (P.info? t).bind (·.zero) with
    |some z=>Instr.fill (fun i=>(fs[i]?).map fun fl=>(fl.offset,P.cellsOf fl.type)) z.cells parts
    |none=>none
  |_=>none
def sizedO (P:Program) (t:TypeId):Bool:=
  match P.underlying t with
  |some (.struct fs)=>fs.toList.all fun fl=>(P.info? fl.type).isSome
  |_=>false
theorem run_sizeOf_ok {w:World} {e:TypeId} (h:(P.info? e).isSome=true):(sizeOf e).run P w=.ok (P.cellsOf e) w:=by
  obtain ⟨inf,hi⟩:=Option.isSome_iff_exists.1 h
  simp [sizeOf,typeInfo,hi,Program.cellsOf]
theorem run_mapM_places {w:World} :∀(fs:List Field),(fs.all fun fl=>(P.info? fl.type).isSome)=true→
    (fs.mapM fun fl=>Prod.mk fl.offset <$> sizeOf fl.type).run P w=.ok (fs.map fun fl=>(fl.offset,P.cellsOf fl.type)) w
  |[],_=>by simp
  |fl :: fs,h=>by
    simp only [List.all_cons,Bool.and_eq_true] at h
    simp only [List.mapM_cons,Sem.run_bind,Sem.run_map,run_sizeOf_ok h.1,Result.andThen_ok,run_mapM_places fs h.2,Sem.run_pure,List.map_cons]
theorem run_build {w:World} {parts:Array (Nat × Value)} {cells:Array Value} (hs:sizedO P t=true) (hb:buildO P t parts.toList=some cells):(Instr.build t parts).run P w=.ok (.agg cells) w:=by
  unfold sizedO at hs
  unfold buildO at hb
  cases hu:P.underlying t with
  |none=>rw [hu] at hb; cases hb
  |some u=>
    rw [hu] at hb hs
    cases u <;> simp only at hb hs <;> try (cases hb; done)
    rename_i fs
    cases hi:P.info? t with
    |none=>rw [hi] at hb; cases hb
    |some inf=>
      rw [hi] at hb
      simp only [Option.bind_some] at hb
      cases hz:inf.zero with
      |none=>rw [hz] at hb; cases hb
      |some z=>
        rw [hz] at hb
        simp only at hb
        have hm:=run_mapM_places (P:=P) (w:=w) fs.toList hs
        simp [Instr.build,zeroValue,typeInfo,hi,hz,run_underlying hu]
        rw [Array.mapM_eq_mapM_toList]
        simp only [Sem.run_map,hm,Result.andThen_ok]
        simp [hb]
theorem Y.build0 {cells:Array Value} (hs:sizedO P t=true) (hb:buildO P t [] = some cells):Y P C f ⟨d,.build t #[],ty,pos,af,g⟩ (.agg cells):=fun w _=>by
  simp [execOp,run_build (parts:=#[]) hs hb]
end
end
section
open Go.RowKit
section
variable {P : Program} {ops : Array Oper} {C : World → Prop} {f : Nat → Value} {rest : List Oper} {Q : (Nat → Value) → World → Prop} {Qf : (Nat → Value) → Prop} {w : World}
variable {d : Option Tmp} {ty : TypeId} {pos : String} {af : Array Edge} {g : Option (Nat × Bool)} {x y : Operand} {u v : Value} {t t' : TypeId} {args : Array Operand} {vals : Array Value} {ats : Array TypeId} {gf : FuncId}
section
variable {x1 x2 x3 x4 x5 x6 : Operand} {v1 v2 v3 v4 v5 v6 : Value}
theorem am1 (h1:ev f x1=v1) : #[x1].map (ev f) = #[v1]:=by simp [h1]
theorem am2 (h1:ev f x1=v1) (h2:ev f x2=v2) : #[x1,x2].map (ev f) = #[v1,v2]:=by simp [h1,h2]
theorem am3 (h1:ev f x1=v1) (h2:ev f x2=v2) (h3:ev f x3=v3) : #[x1,x2,x3].map (ev f) = #[v1,v2,v3]:=by simp [h1,h2,h3]
theorem pm0:(#[] : Array (Nat × Operand)).map (fun p=>(p.1,ev f p.2)) = #[]:=by simp
theorem pm1 {i1:Nat} (h1:ev f x1=v1) : #[(i1,x1)].map (fun p=>(p.1,ev f p.2)) = #[(i1,v1)]:=by simp [h1]
end
def isGo (P:Program) (gf:FuncId):Bool:=match P.funcs[gf]? with|some fn=>!(fn.name == "runtime.NumGoroutine") && fn.body.isSome|none=>false
theorem Calls.arr {a b:Array Value} {R:Ending→World→Prop} (e:a=b) (h:Calls P gf a w R):Calls P gf b w R:=e ▸ h
theorem run_callFunc (h:isGo P gf=true):(callFunc gf vals).run P w=.ok (.enter gf vals) w:=by
  unfold isGo at h
  cases hf:P.funcs[gf]? with
  |none=>rw [hf] at h; cases h
  |some fn=>
    rw [hf] at h
    simp only [Bool.and_eq_true,Bool.not_eq_true'] at h
    obtain ⟨h1,h2⟩:=h
    have h3:fn.body.isNone=false:=by cases hb:fn.body with|none=>rw [hb] at h2; cases h2|some _=>rfl
    simp [callFunc,hf,h3]
    have h1':¬ fn.name = "runtime.NumGoroutine":=by simpa using h1
    simp [h1']
    intro hb
    rw [hb] at h2
    cases h2
theorem run_callV {caps:Array Value} {ov:Operand} (hv:ev f ov=.func (.func gf) #[] caps) (ha:args.map (ev f)=vals) (hgo:isGo P gf=true) :
    (execOp (ev f) ⟨d,.call ⟨.value ov,args,ats⟩,ty,pos,af,g⟩).run P w=.ok (.enter gf (vals ++ caps)) w:=by
  simp [execOp,resolve,hv,ha,Deferred.ofValue,invoke,run_callFunc hgo]
theorem run_call (ha:args.map (ev f)=vals) (hgo:isGo P gf=true) :
    (execOp (ev f) ⟨d,.call ⟨.value (.func gf),args,ats⟩,ty,pos,af,g⟩).run P w=.ok (.enter gf vals) w:=by
  have h:=run_callV (P:=P) (w:=w) (d:=d) (ty:=ty) (pos:=pos) (af:=af) (g:=g) (ats:=ats) (ov:=.func gf) (caps:=#[]) rfl ha hgo
  simpa using h
theorem RQ.call (hg:wantF f ops ⟨d,.call ⟨.value (.func gf),args,ats⟩,ty,pos,af,g⟩=true) (ha:args.map (ev f)=vals) (hgo:isGo P gf=true)
    (hc :∀w,C w→Calls P gf vals w fun e w'=>e=.returned v∧C w') (h:RQ P ops C Qf rest (upo f d v)):RQ P ops C Qf (⟨d,.call ⟨.value (.func gf),args,ats⟩,ty,pos,af,g⟩ :: rest) f:=
  ⟨v,.inl ⟨hg,fun w hw=>by rw [run_call ha hgo]; exact ⟨rfl,hc w hw⟩⟩,h⟩
theorem RQ.callV {ov:Operand} {caps:Array Value} (hg:wantF f ops ⟨d,.call ⟨.value ov,args,ats⟩,ty,pos,af,g⟩=true) (hv:ev f ov=.func (.func gf) #[] caps) (ha:args.map (ev f)=vals) (hgo:isGo P gf=true)
    (hc :∀w,C w→Calls P gf (vals ++ caps) w fun e w'=>e=.returned v∧C w') (h:RQ P ops C Qf rest (upo f d v)):RQ P ops C Qf (⟨d,.call ⟨.value ov,args,ats⟩,ty,pos,af,g⟩ :: rest) f:=
  ⟨v,.inl ⟨hg,fun w hw=>by rw [run_callV hv ha hgo]; exact ⟨rfl,hc w hw⟩⟩,h⟩
theorem RL.call (hg:wantF f ops ⟨d,.call ⟨.value (.func gf),args,ats⟩,ty,pos,af,g⟩=true) (ha:args.map (ev f)=vals) (hgo:isGo P gf=true)
    (hc:Calls P gf vals w fun e w'=>∃v,e=.returned v∧RL P ops Q rest (upo f d v) w'):RL P ops Q (⟨d,.call ⟨.value (.func gf),args,ats⟩,ty,pos,af,g⟩ :: rest) f w:=
  .inl ⟨hg,by rw [run_call ha hgo]; exact hc⟩
theorem RL.callV {ov:Operand} {caps:Array Value} (hg:wantF f ops ⟨d,.call ⟨.value ov,args,ats⟩,ty,pos,af,g⟩=true) (hv:ev f ov=.func (.func gf) #[] caps) (ha:args.map (ev f)=vals) (hgo:isGo P gf=true)
    (hc:Calls P gf (vals ++ caps) w fun e w'=>∃v,e=.returned v∧RL P ops Q rest (upo f d v) w'):RL P ops Q (⟨d,.call ⟨.value ov,args,ats⟩,ty,pos,af,g⟩ :: rest) f w:=
  .inl ⟨hg,by rw [run_callV hv ha hgo]; exact hc⟩
theorem Y.makeFunc {fn:Fn} {caps:Array Operand} (ha:caps.map (ev f)=vals):Y P C f ⟨d,.makeFunc fn #[] caps,ty,pos,af,g⟩ (.func fn #[] vals):=fun w _=>by
  subst ha; simp [execOp,Instr.makeFunc]
/-- A contract of a function that leaves old memory alone, in a region's class. -/
theorem bel {w:World} {K:Ending→Prop} (h :∀w',Below w.heap.size w w'→Calls P gf vals w' fun e w''=>e=.returned v∧Below w'.heap.size w' w'') :
    ∀w',Below w.heap.size w w'→Calls P gf vals w' fun e w''=>e=.returned v∧Below w.heap.size w w'':=
  fun w' hb=>(h w' hb).mono fun e w'' ⟨he,hb'⟩=>⟨he,hb.trans (hb'.mono hb.size)⟩
theorem Calls.same {R:Ending→World→Prop} (h:Calls P gf vals w fun e w'=>e=.returned v∧w=w'):Calls P gf vals w fun e w'=>e=.returned v∧Below w.heap.size w w':=
  h.mono fun e w' ⟨he,hw⟩=>⟨he,by subst hw; exact Below.refl _ _⟩
theorem below_alloc (w:World) (o:Obj):Below w.heap.size w (w.alloc o):=(Below.refl _ _).alloc (Nat.le_refl _) _
theorem RL.alloc {z:Value} (hg:wantF f ops ⟨d,.alloc t,ty,pos,af,g⟩=true) (hz:(P.info? t).bind (·.zero)=some z)
    (h :∀w1,Blk w1 w.heap.size t z.cells→Below w.heap.size w w1→w1.heap.size=w.heap.size+1→RL P ops Q rest (upo f d (.pointer (some ⟨w.heap.size,0,none⟩))) w1):RL P ops Q (⟨d,.alloc t,ty,pos,af,g⟩ :: rest) f w:=by
  refine .inl ⟨hg,?_⟩
  cases hi:P.info? t with
  |none=>rw [hi] at hz; cases hz
  |some inf=>
    rw [hi] at hz
    simp only [Option.bind_some] at hz
    have hr:(execOp (ev f) ⟨d,.alloc t,ty,pos,af,g⟩).run P w=.ok (.value (.pointer (some ⟨w.heap.size,0,none⟩))) (w.alloc (.cells z.cells t)):=by
      simp [execOp,Instr.alloc,zeroValue,typeInfo,hi,hz,newVar,newRow]
    rw [hr]
    exact h _ (Blk.new _ _ _) (below_alloc _ _) (World.size_alloc _ _)
theorem RL.box (hg:wantF f ops ⟨d,.box t x,ty,pos,af,g⟩=true) (hx:ev f x=v)
    (h :∀w1,Blk w1 w.heap.size t v.cells→Below w.heap.size w w1→w1.heap.size=w.heap.size+1→RL P ops Q rest (upo f d (.pointer (some ⟨w.heap.size,0,none⟩))) w1):RL P ops Q (⟨d,.box t x,ty,pos,af,g⟩ :: rest) f w:=by
  refine .inl ⟨hg,?_⟩
  have hr:(execOp (ev f) ⟨d,.box t x,ty,pos,af,g⟩).run P w=.ok (.value (.pointer (some ⟨w.heap.size,0,none⟩))) (w.alloc (.cells v.cells t)):=by
    simp [execOp,hx,Instr.box,newVar,newRow]
  rw [hr]
  exact h _ (Blk.new _ _ _) (below_alloc _ _) (World.size_alloc _ _)
theorem Blk.only_ {w w':World} {b:Nat} {e:TypeId} {cs:Array Value} {bs:List Nat} (h:Blk w b e cs) (ho:Only bs w w') (hb:b ∉ bs):Blk w' b e cs:=(ho.block b hb).trans h
theorem setRow_only (w:World) (b:Nat) (cs:Array Value):Only [b] w (w.setRow b cs):=
  ⟨rfl,rfl,rfl,by simp [World.setRow],fun k hk=>by
    have:¬ b=k:=fun e=>hk (by simp [e])
    simp [World.setRow,Array.getElem?_modify,this]⟩
theorem setRow_blk {w:World} {b:Nat} {e:TypeId} {cs cs':Array Value} (h:Blk w b e cs):Blk (w.setRow b cs') b e cs':=setRow_heap w b cs cs' e (0,0) h
/-- A store into a block of the call's own. -/
theorem RL.store {b o:Nat} {e:TypeId} {cs cs':Array Value} (hg:wantF f ops ⟨d,.store t x y,ty,pos,af,g⟩=true) (hx:ev f x=.pointer (some ⟨b,o,none⟩)) (hy:ev f y=v) (hb:Blk w b e cs)
    (hs:(P.info? t).map (·.size)=some v.cells.size) (h1:(v.cells.toList.all Value.oneCell')=true) (hl0:Nat.ble (o+v.cells.size) cs.size=true) (hcs:(cs.toList.take o ++ v.cells.toList ++ cs.toList.drop (o+v.cells.size)).toArray=cs')
    (h :∀w1,Blk w1 b e cs'→Only [b] w w1→RL P ops Q rest (upo f d undef) w1):RL P ops Q (⟨d,.store t x y,ty,pos,af,g⟩ :: rest) f w:=by
  have hl:=Nat.le_of_ble_eq_true hl0
  refine .inl ⟨hg,?_⟩
  cases hi:P.info? t with
  |none=>rw [hi] at hs; cases hs
  |some inf=>
    rw [hi] at hs
    simp only [Option.map_some,Option.some.injEq] at hs
    have hst:=run_storeCells_at (P:=P) b o e v.cells.toList 0 cs w hb (by simpa using hl) (fun u hu=>List.all_eq_true.1 h1 u hu)
    have hr:(execOp (ev f) ⟨d,.store t x y,ty,pos,af,g⟩).run P w=.ok .skip (w.setRow b cs'):=by
      subst hcs
      simp only [Nat.add_zero] at hst
      simp [execOp,hx,hy,Instr.storeAt,Instr.sureAddr,storeVar,sizeOf,typeInfo,hi,hs,hst]
    rw [hr]
    exact h _ (setRow_blk hb) (setRow_only _ _ _)
def bslO (P:Program) (t:TypeId) (len:Nat) (parts:List (Nat × Value)):Option (TypeId × Array Value):=
  match P.underlying t with
  |some (.slice e)=>match P.info? e with
    |some inf=>if len * inf.size > 16777216 then none else
      match (if len * inf.size=0 then some #[] else inf.zero.map (·.cells)) with
      |some zero=>(Instr.fill (fun i=>some (i * inf.size,inf.size)) ((Array.range (len * inf.size)).map (zero[· % zero.size]!)) parts).map fun cs=>(e,cs)
      |none=>none
    |none=>none
  |_=>none
theorem run_bsl {len:Nat} {parts:Array (Nat × Value)} {e:TypeId} {cells:Array Value} (hb:bslO P t len parts.toList=some (e,cells)):(Instr.buildSlice t len parts).run P w=.ok (.slice (some ⟨w.heap.size,0,none⟩) len len) (w.alloc (.cells cells e)):=by
  unfold bslO at hb
  cases hu:P.underlying t with
  |none=>rw [hu] at hb; cases hb
  |some u0=>
    rw [hu] at hb
    cases u0 <;> simp only at hb <;> try (cases hb; done)
    rename_i e'
    cases hi:P.info? e' with
    |none=>rw [hi] at hb; cases hb
    |some inf=>
      rw [hi] at hb
      simp only at hb
      split at hb
      · cases hb
      · rename_i hbig
        by_cases h0:len * inf.size=0
        · simp only [h0,if_true] at hb
          cases hf:Instr.fill (fun i=>some (i * inf.size,inf.size)) ((Array.range 0).map ((#[] : Array Value)[· % (#[] : Array Value).size]!)) parts.toList with
          |none=>rw [hf] at hb; cases hb
          |some cs=>
            rw [hf] at hb
            simp only [Option.map_some,Option.some.injEq,Prod.mk.injEq] at hb
            obtain ⟨rfl,rfl⟩:=hb
            simp at hf
            simp [Instr.buildSlice,run_underlying hu,sizeOf,typeInfo,hi,h0,newRow,hf]
        · simp only [h0,if_false] at hb
          cases hz:inf.zero with
          |none=>rw [hz] at hb; cases hb
          |some z=>
            rw [hz] at hb
            simp only [Option.map_some] at hb
            cases hf:Instr.fill (fun i=>some (i * inf.size,inf.size)) ((Array.range (len * inf.size)).map (z.cells[· % z.cells.size]!)) parts.toList with
            |none=>rw [hf] at hb; cases hb
            |some cs=>
              rw [hf] at hb
              simp only [Option.map_some,Option.some.injEq,Prod.mk.injEq] at hb
              obtain ⟨rfl,rfl⟩:=hb
              simp [Instr.buildSlice,run_underlying hu,sizeOf,typeInfo,hi,h0,hbig,zeroValue,hz,newRow,hf]
theorem RL.bslice {len:Nat} {parts:Array (Nat × Operand)} {pv:Array (Nat × Value)} {e:TypeId} {cells:Array Value} (hg:wantF f ops ⟨d,.buildSlice t len parts,ty,pos,af,g⟩=true)
    (hp:parts.map (fun p=>(p.1,ev f p.2))=pv) (hb:bslO P t len pv.toList=some (e,cells))
    (h :∀w1,Blk w1 w.heap.size e cells→Below w.heap.size w w1→w1.heap.size=w.heap.size+1→RL P ops Q rest (upo f d (.slice (some ⟨w.heap.size,0,none⟩) len len)) w1):RL P ops Q (⟨d,.buildSlice t len parts,ty,pos,af,g⟩ :: rest) f w:=by
  refine .inl ⟨hg,?_⟩
  have hr:(execOp (ev f) ⟨d,.buildSlice t len parts,ty,pos,af,g⟩).run P w=.ok (.value (.slice (some ⟨w.heap.size,0,none⟩) len len)) (w.alloc (.cells cells e)):=by
    have:=run_bsl (P:=P) (w:=w) (parts:=pv) hb
    subst hp
    simp [execOp,this]
  rw [hr]
  exact h _ (Blk.new _ _ _) (below_alloc _ _) (World.size_alloc _ _)
end
end
section
open Go.RowKit
section
variable {P : Program} {w : World} {f : Nat → Value} {n : Nat} {Q : Exit → Act → World → Prop} {K : Act → World → Prop} {a : Act} {x y : Code} {id id' : Nat} {c : Operand}
theorem then_n (h:K a w):Exit.then K Q .normal a w:=h
theorem then_r (h:Q .ret a w):Exit.then K Q .ret a w:=h
theorem then_x (h:Q (.exit id) a w):Exit.then K Q (.exit id) a w:=h
theorem blk_n (h:Q .normal a w):Exit.inBlock id Q .normal a w:=h
theorem blk_r (h:Q .ret a w):Exit.inBlock id Q .ret a w:=h
theorem blk_hit (h:Q .normal a w):Exit.inBlock id Q (.exit id) a w:=by simp only [Exit.inBlock,if_true]; exact h
theorem cond_t (hin:opIn n c=true) (hc:ev f c=.bool true) (h:x.wp P Q (Fr n f) w):(Code.cond c x y).wp P Q (Fr n f) w:=wp_cond_true ((Fr_eval hin).trans hc) h
theorem cond_f (hin:opIn n c=true) (hc:ev f c=.bool false) (h:y.wp P Q (Fr n f) w):(Code.cond c x y).wp P Q (Fr n f) w:=wp_cond_false ((Fr_eval hin).trans hc) h
theorem wp_loopF {cd:Code} (I:Nat→(Nat→Value)→World→Prop) (g0:Nat) (h0:I g0 f w)
    (round :∀g f w,I g f w→cd.wp P (Exit.then (fun a' w'=>∃g' f',g' < g∧a'=Fr n f'∧I g' f' w') Q) (Fr n f) w):(Code.loop cd).wp P Q (Fr n f) w:=by
  refine wp_loop_ghost (fun g a w=>∃f,a=Fr n f∧I g f w) g0 ⟨f,rfl,h0⟩ ?_
  rintro g a w ⟨f,rfl,h⟩
  refine Code.wp_mono ?_ (round g f w h)
  intro e a' w' hq
  cases e <;> first|exact hq|skip
  obtain ⟨g',f',h1,h2,h3⟩:=hq
  exact ⟨g',h1,f',h2,h3⟩
theorem enter {gf:FuncId} {fn:Func} {cd:Code} {args:Array Value} {R:Ending→World→Prop} (n:Nat) (hf:P.funcs[gf]? = some fn) (hb:fn.body=some cd) (hn:fn.ntmps=n) (hs:Nat.ble args.size n=true)
    (h :∀f,(∀i v,args[i]? = some v→f i=v)→cd.wp P (bodyPost P fn R) (Fr n f) w):Calls P gf args w R:=by
  refine calls_of_wp hf hb ?_
  have hs':args.size≤n:=Nat.le_of_ble_eq_true hs
  have e:({ tmps:=args ++ Array.replicate (fn.ntmps - args.size) undef,defers:=[] } : Act)=Fr n (fun i=>(args ++ Array.replicate (n - args.size) undef).getD i undef):=by
    rw [hn]
    simp only [Fr,Act.mk.injEq,and_true]
    apply Array.ext_getElem?
    intro i
    have hsz:(args ++ Array.replicate (n - args.size) undef).size=n:=by simp; omega
    by_cases hi:i < n
    · simp only [List.getElem?_toArray,List.getElem?_map,List.getElem?_range hi,Option.map_some]
      have h2:i < (args ++ Array.replicate (n - args.size) undef).size:=by rw [hsz]; exact hi
      rw [Array.getElem?_eq_getElem h2,Array.getD,dif_pos h2]
      rfl
    · have h2:(args ++ Array.replicate (n - args.size) undef).size≤i:=by rw [hsz]; omega
      rw [Array.getElem?_eq_none h2]
      simp [hi]
  rw [e]
  refine h _ fun i v hi=>?_
  have hlt:i < args.size:=(Array.getElem?_eq_some_iff.1 hi).1
  have h2:i < (args ++ Array.replicate (n - args.size) undef).size:=by simp; omega
  simp only [Array.getD,dif_pos h2]
  rw [Array.getElem?_eq_getElem hlt] at hi
  injection hi with hi
  show (args ++ Array.replicate (n - args.size) undef)[i] = v
  rw [Array.getElem_append_left hlt]
  exact hi
theorem ret1 {fn:Func} {R:Ending→World→Prop} {t:Tmp} {v:Value} (hr:fn.results = #[.tmp t]) (ht:Nat.blt t n=true) (hv:f t=v) (h:R (.returned v) w):bodyPost P fn R .ret (Fr n f) w:=
  ⟨rfl, v, by rw [results_tmp hr]; congr 1; have ht' : t < n := by simpa using ht
              simp [Fr,ht',hv],h⟩
theorem ret2 {fn:Func} {R:Ending→World→Prop} {t1 t2:Tmp} {v1 v2:Value} (hr:fn.results = #[.tmp t1,.tmp t2]) (ht:(Nat.blt t1 n && Nat.blt t2 n)=true) (hv1:f t1=v1) (hv2:f t2=v2) (h:R (.returned (.tuple #[v1,v2])) w):bodyPost P fn R .ret (Fr n f) w:=
  ⟨rfl,_,by
    rw [results_tmp2 hr]
    simp only [Bool.and_eq_true] at ht
    have h1:t1 < n:=by simpa using ht.1
    have h2:t2 < n:=by simpa using ht.2
    simp only [Fr,Array.getD_eq_getD_getElem?,List.getElem?_toArray,List.getElem?_map,List.getElem?_range h1,List.getElem?_range h2,Option.map_some,Option.getD_some,hv1,hv2],h⟩
theorem ret3 {fn:Func} {R:Ending→World→Prop} {t1 t2 t3:Tmp} {v1 v2 v3:Value} (hr:fn.results = #[.tmp t1,.tmp t2,.tmp t3]) (ht:(Nat.blt t1 n && Nat.blt t2 n && Nat.blt t3 n)=true) (hv1:f t1=v1) (hv2:f t2=v2) (hv3:f t3=v3) (h:R (.returned (.tuple #[v1,v2,v3])) w):bodyPost P fn R .ret (Fr n f) w:=
  ⟨rfl,_,by
    rw [results_tmp3 hr]
    simp only [Bool.and_eq_true] at ht
    have h1:t1 < n:=by simpa using ht.1.1
    have h2:t2 < n:=by simpa using ht.1.2
    have h3:t3 < n:=by simpa using ht.2
    simp only [Fr,Array.getD_eq_getD_getElem?,List.getElem?_toArray,List.getElem?_map,List.getElem?_range h1,List.getElem?_range h2,List.getElem?_range h3,Option.map_some,Option.getD_some,hv1,hv2,hv3],h⟩
theorem end0 {fn:Func} {R:Ending→World→Prop} (hr:fn.results = #[]) (h:R (.returned (.tuple #[])) w):bodyPost P fn R .normal (Fr n f) w:=
  ⟨rfl,_,results_none hr _ _ _,h⟩
/-- A result that lies in a variable in memory. -/
theorem retc {fn:Func} {R:Ending→World→Prop} {t:Tmp} {b o:Nat} {ty:TypeId} {cs:List Value} (hr:fn.results = #[.cell t ty]) (ht:Nat.blt t n=true) (hv:f t=.pointer (some ⟨b,o,none⟩)) (hag:aggO P ty=some cs.length)
    (hc :∀j v,cs[j]? = some v→w.cell? ⟨b,o+j,none⟩=some v) (h:R (.returned (.agg cs.toArray)) w):bodyPost P fn R .ret (Fr n f) w:=
  ⟨rfl,_,by
    have h1:t < n:=by simpa using ht
    have hl:=run_loadN (P:=P) (w:=w) hag hc
    simp only [Instr.loadAt,Instr.sureAddr,Sem.run_bind,Sem.run_pure,Result.andThen_ok,bind_pure_comp,pure_bind] at hl
    simp only [results,hr]
    simp [Fr,h1,hv,asAddr,hl],h⟩
end
section
variable {P : Program} {f : Nat → Value} {w : World} {n id : Nat} {l : List Oper} {Q : Exit → Act → World → Prop}
theorem RQ_mono {ops:Array Oper} {C:World→Prop} {Q Q':(Nat→Value)→Prop} (hq :∀f,Q f→Q' f) :∀{l:List Oper} {f:Nat→Value},RQ P ops C Q l f→RQ P ops C Q' l f
  |[],f,h=>hq f h
  |o :: rest,f,⟨v,h1,h2⟩=>⟨v,h1,RQ_mono hq h2⟩
/-- A region that only looks, at one world. -/
theorem wp_rs (hin:okAll n l=true) (h:RQ P l.toArray (· = w) (fun f'=>Q .normal (Fr n f') w) l f):(Code.region id l.toArray false).wp P Q (Fr n f) w:=
  wp_rq (· = w) rfl hin (RQ_mono (fun f' h w' e=>by rw [e]; exact h) h)
/-- A region whose calls leave old memory alone. -/
theorem wp_rb (hin:okAll n l=true) (h:RQ P l.toArray (Below w.heap.size w) (fun f'=>∀w',Below w.heap.size w w'→Q .normal (Fr n f') w') l f):(Code.region id l.toArray false).wp P Q (Fr n f) w:=
  wp_rq (Below w.heap.size w) (Below.refl _ _) hin h
theorem wp_rbd (hm:P.follows .mixedOrders=true) (hin:(okAll n l && Region.lexB .any l.toArray)=true) (h:RQ P l.toArray (Below w.heap.size w) (fun f'=>∀w',Below w.heap.size w w'→Q .normal (Fr n f') w') l f):(Code.region id l.toArray true).wp P Q (Fr n f) w:=
  wp_rq_draw (Below w.heap.size w) (Below.drew (Below.refl _ _)) hm hin h
end
end
section
open Go.RowKit
def getI {α:Type} (xs:List α) (i:Int):Option α:=if 0≤i then xs[i.toNat]? else none
theorem getI_some {α:Type} {xs:List α} {i:Int} {x:α} (h:getI xs i=some x) :∃k:Nat,i=(k:Int)∧k < xs.length∧xs[k]? = some x:=by
  unfold getI at h
  split at h
  · rename_i h0
    obtain ⟨k,rfl⟩:=Int.eq_ofNat_of_zero_le h0
    exact ⟨k,rfl,lt_of_some h,h⟩
  · cases h
theorem getI_nat {α:Type} {xs:List α} {k:Nat} {x:α} (h:xs[k]? = some x):getI xs (k:Int)=some x:=by simp [getI,h]
/-- A number that fits an int64. -/
def ck (n:Int):Option Int:=if -9223372036854775808≤n∧n≤9223372036854775807 then some n else none
theorem ck_some {n m:Int} (h:ck n=some m):m=n∧-9223372036854775808≤n∧n≤9223372036854775807:=by
  unfold ck at h
  split at h
  · rename_i h0; injection h with h; exact ⟨h.symm,h0⟩
  · cases h
theorem ck_ok {n:Int} (h:-9223372036854775808≤n∧n≤9223372036854775807):ck n=some n:=if_pos h
/-- What must hold. -/
def mustP (p:Prop) [Decidable p] : Option Unit:=if p then some () else none
theorem mustP_some {p:Prop} [Decidable p] {u:Unit} (h:mustP p=some u):p:=by
  unfold mustP at h
  split at h
  · assumption
  · cases h
theorem mustP_ok {p:Prop} [Decidable p] (h:p):mustP p=some ():=if_pos h
theorem bnd {α β:Type} {x:Option α} {k:α→Option β} {r:β} (h:x.bind k=some r) :∃a,x=some a∧k a=some r:=Option.bind_eq_some_iff.1 h
theorem cT {β:Type} {b:Bool} {x y:β} {r:β} (c:b=true) (h:(bif b then x else y)=r):x=r:=by rw [c] at h; exact h
theorem cF {β:Type} {b:Bool} {x y:β} {r:β} (c:b=false) (h:(bif b then x else y)=r):y=r:=by rw [c] at h; exact h
theorem wrap_ok {n:Int} (h:-9223372036854775808≤n∧n≤9223372036854775807):IntKind.i64.wrap n=n:=IntWalk.i64_in n h
theorem binI_add {m n:Int} (h:-9223372036854775808≤m+n∧m+n≤9223372036854775807):binI .add .i64 m n=some (.int .i64 (m+n)):=by unfold binI; simp only; rw [wrap_ok h]
theorem binI_sub {m n:Int} (h:-9223372036854775808≤m - n∧m - n≤9223372036854775807):binI .sub .i64 m n=some (.int .i64 (m - n)):=by unfold binI; simp only; rw [wrap_ok h]
section
variable {f : Nat → Value} {ops : Array Oper} {d : Option Tmp} {op : Op} {ty : TypeId} {pos : String} {af : Array Edge} {j dj : Nat} {want have_ : Bool}
theorem wantT (hj:(ops[j]?).bind (·.dst)=some dj) (hv:f dj=.bool want):wantF f ops ⟨d,op,ty,pos,af,some (j,want)⟩=true:=by
  simp only [wantF,gval,hj,hv]; simp
theorem wantN (hj:(ops[j]?).bind (·.dst)=some dj) (hv:f dj=.bool have_) (hne:(have_==want)=false):wantF f ops ⟨d,op,ty,pos,af,some (j,want)⟩=false:=by
  simp only [wantF,gval,hj,hv]
  cases have_ <;> cases want <;> first|rfl|cases hne
end
theorem bcases (b:Bool):b=false ∨ b=true:=by cases b <;> simp
theorem vb {v:Value} {b b':Bool} (h:v=.bool b) (c:b=b'):v=.bool b':=by rw [h,c]
theorem vbn {v:Value} {b b' b'':Bool} (h:v=.bool (!b)) (c:b=b') (e:(!b')=b''):v=.bool b'':=by rw [h,c,e]
section
variable {α : Type} {R : Rd α} {O : Ow α} {sz : Nat} {w w' : World} {v : Value} {xs : List α} {x : α}
theorem cellT {A:Addr} {u:Value} (T:Below w.heap.size w w') (h:w.cell? A=some u):w'.cell? A=some u:=(T.cell (World.block_lt_of_cell? w A h)).trans h
/-- At the present world: a slice, a struct, a pointer to a struct. -/
def Sl (R:Rd α) (sz:Nat) (w:World) (v:Value) (xs:List α):Prop:=RdS R sz w w.heap.size v xs
def St (R:Rd α) (w:World) (v:Value) (x:α):Prop:=RdT R w w.heap.size v x
def Pt (R:Rd α) (w:World) (v:Value) (x:α):Prop:=∃b o cs,v=.pointer (some ⟨b,o,none⟩)∧b < w.heap.size∧R w w.heap.size cs x∧∀j v,cs[j]? = some v→w.cell? ⟨b,o+j,none⟩=some v
theorem Sl.at_ (ok:RdOk R sz) (h:Sl R sz w v xs) (T:Below w.heap.size w w'):Sl R sz w' v xs:=(RdS.below ok h T).more ok T.size
theorem St.at_ (ok:RdOk R sz) (h:St R w v x) (T:Below w.heap.size w w'):St R w' v x:=(RdT.below ok h T).more ok T.size
theorem Pt.at_ (ok:RdOk R sz) (h:Pt R w v x) (T:Below w.heap.size w w'):Pt R w' v x:=by
  obtain ⟨b,o,cs,e,hb,hR,hc⟩:=h
  exact ⟨b,o,cs,e,Nat.lt_of_lt_of_le hb T.size,ok.more T.size (ok.keep (fun p hp=>T.cell hp) hR),fun j v hj=>cellT T (hc j v hj)⟩
theorem SlAt.addr {B n:Nat} {A:Option Addr} (h:SlAt R sz w B A n xs) (hn:0 < n) :∃b o,A=some ⟨b,o,none⟩∧b < B:=by
  obtain ⟨b,o,e,hb,_⟩:=h.2 hn
  exact ⟨b,o,e,hb⟩
theorem SlAt.el {B n b o:Nat} (h:SlAt R sz w B (some ⟨b,o,none⟩) n xs) {k:Nat} (hx:xs[k]? = some x) :∃cs,R w B cs x∧∀j v,cs[j]? = some v→w.cell? ⟨b,o+k * sz+j,none⟩=some v:=by
  have hl:=lt_of_some hx
  obtain ⟨b',o',e,hb,hc⟩:=h.2 (by have:=h.1; omega)
  injection e with e
  injection e with e1 e2
  subst e1 e2
  exact hc k x hx
theorem SlAt.now (ok:RdOk R sz) {B n:Nat} {A:Option Addr} (h:SlAt R sz w B A n xs) (hB:B≤w.heap.size) (T:Below w.heap.size w w'):SlAt R sz w' w'.heap.size A n xs:=
  (h.below ok (T.mono hB)).more ok (Nat.le_trans hB T.size)
/-- A slice that was read, as an argument. -/
theorem slArg (ok:RdOk R sz) {n c:Nat} {A:Option Addr} (h:SlAt R sz w w.heap.size A n xs) (r:n≤c∧c≤maxLen) (T:Below w.heap.size w w'):Sl R sz w' (.slice A n c) xs:=
  ⟨A,n,c,rfl,h.now ok (Nat.le_refl _) T,r⟩
theorem ptArg (ok:RdOk R sz) {b o:Nat} {cs:List Value} (hb:b < w.heap.size) (hR:R w w.heap.size cs x) (hc :∀j v,cs[j]? = some v→w.cell? ⟨b,o+j,none⟩=some v) (T:Below w.heap.size w w'):Pt R w' (.pointer (some ⟨b,o,none⟩)) x:=
  Pt.at_ ok ⟨b,o,cs,rfl,hb,hR,hc⟩ T
theorem ptBox {g:Nat} {t:TypeId} {cs:List Value} (hb:Blk w g t cs.toArray) (hR:R w w.heap.size cs x):Pt R w (.pointer (some ⟨g,0,none⟩)) x:=
  ⟨g,0,cs,rfl,hb.lt,hR,fun j v hj=>by rw [hb.cell]; simpa using hj⟩
theorem stArg {cs:List Value} (hR:R w w.heap.size cs x):St R w (.agg cs.toArray) x:=⟨cs,rfl,hR⟩
theorem len_le {n c:Nat} (r:n≤c∧c≤maxLen):n≤9223372036854775807:=by have:=r.1; have:=r.2; unfold maxLen at this; omega
theorem blkCell {g:Nat} {t:TypeId} {cs:Array Value} {i:Nat} {u:Value} (hb:Blk w g t cs) (hu:cs[i]? = some u):w.cell? ⟨g,0+i,none⟩=some u:=by rw [Nat.zero_add,hb.cell]; exact hu
theorem blkT {g:Nat} {t:TypeId} {cs:Array Value} (hb:Blk w g t cs) (T:Below w.heap.size w w'):Blk w' g t cs:=hb.below T hb.lt
theorem blkCells {g:Nat} {t:TypeId} {cs:List Value} (hb:Blk w g t cs.toArray) :∀j v,cs[j]? = some v→w.cell? ⟨g,0+j,none⟩=some v:=fun j v hj=>blkCell hb (by simpa using hj)
theorem Tt {w w1 w2:World} (T:Below w.heap.size w w1) (h:Below w1.heap.size w1 w2):Below w.heap.size w w2:=T.trans (h.mono T.size)
theorem callB {P:Program} {gf:FuncId} {vals:Array Value} {v:Value} (h:Calls P gf vals w fun e w'=>e=.returned v∧w=w'):Calls P gf vals w fun e w'=>e=.returned v∧Below w.heap.size w w':=h.mono fun e w' ⟨he,hw⟩=>⟨he,by subst hw; exact Below.refl _ _⟩
section
variable {C : World → Prop} {b o : Nat} {v0 v1 v2 v3 v4 : Value}
theorem cells1 (h0:CellIn C ⟨b,o+0,none⟩ v0):CellsIn C b o [v0]:=fun w hw j v hj=>by
  rcases j with _|j <;> simp at hj; subst hj; exact h0 w hw
theorem cells4 (h0:CellIn C ⟨b,o+0,none⟩ v0) (h1:CellIn C ⟨b,o+1,none⟩ v1) (h2:CellIn C ⟨b,o+2,none⟩ v2) (h3:CellIn C ⟨b,o+3,none⟩ v3):CellsIn C b o [v0,v1,v2,v3]:=fun w hw j v hj=>by
  rcases j with _|_|_|_|j <;> simp at hj <;> subst hj
  · exact h0 w hw
  · exact h1 w hw
  · exact h2 w hw
  · exact h3 w hw
theorem cells5 (h0:CellIn C ⟨b,o+0,none⟩ v0) (h1:CellIn C ⟨b,o+1,none⟩ v1) (h2:CellIn C ⟨b,o+2,none⟩ v2) (h3:CellIn C ⟨b,o+3,none⟩ v3) (h4:CellIn C ⟨b,o+4,none⟩ v4):CellsIn C b o [v0,v1,v2,v3,v4]:=fun w hw j v hj=>by
  rcases j with _|_|_|_|_|j <;> simp at hj <;> subst hj
  · exact h0 w hw
  · exact h1 w hw
  · exact h2 w hw
  · exact h3 w hw
  · exact h4 w hw
end
end
section
variable {P : Program} {w : World} {f : Nat → Value} {n xid id' : Nat} {Q : Exit → Act → World → Prop} {J : (Nat → Value) → World → Prop}
/-- What stands behind a loop's body: at the loop's own exit J is asked. -/
def hitJ (n xid:Nat) (J:(Nat→Value)→World→Prop) (Q:Exit→Act→World→Prop):Exit→Act→World→Prop
  |.exit id,a,w=>if id=xid then∃f,a=Fr n f∧J f w else Q (.exit id) a w
  |e,a,w=>Q e a w
theorem hit_r {a:Act} (h:Q .ret a w):hitJ n xid J Q .ret a w:=h
theorem hit_x {a:Act} (h :∃f,a=Fr n f∧J f w):hitJ n xid J Q (.exit xid) a w:=by simp only [hitJ,if_true]; exact h
theorem wp_loopX {cd:Code} (I:Nat→(Nat→Value)→World→Prop) (xid:Nat) (J:(Nat→Value)→World→Prop) (g0:Nat) (h0:I g0 f w) (hJ :∀f w,J f w→Q (.exit xid) (Fr n f) w)
    (round :∀g f w,I g f w→cd.wp P (Exit.then (fun a' w'=>∃g' f',g' < g∧a'=Fr n f'∧I g' f' w') (hitJ n xid J Q)) (Fr n f) w):(Code.loop cd).wp P Q (Fr n f) w:=by
  refine wp_loopF I g0 h0 fun g f w h=>Code.wp_mono ?_ (round g f w h)
  intro e a w hq
  cases e with
  |exit id=>
    have hq:hitJ n xid J Q (.exit id) a w:=hq
    show Q (.exit id) a w
    by_cases hid:id=xid
    · subst hid
      simp only [hitJ,if_true] at hq
      obtain ⟨f,rfl,hj⟩:=hq
      exact hJ f w hj
    · simp only [hitJ,hid,if_false] at hq
      exact hq
  |_=>exact hq
end
end
section
open Go.RowKit
def encI (x:Int):List Value:=[.int .i64 x]
def encB (x:Bool):List Value:=[.bool x]
/-- How the elements of a type of plain cells are laid. -/
structure FlatT {α:Type} (R:Rd α) (O:Ow α) (enc:α→List Value) (sz:Nat):Prop where
  pos:0 < sz
  len :∀x,(enc x).length=sz
  rd :∀{w B cs x},R w B cs x↔cs=enc x
  ow :∀{w x},O w (enc x) x []
  one :∀x,∀v∈enc x,v.oneCell'=true
theorem fI:FlatT intRd intOw encI 1:=⟨by decide,fun _=>rfl,Iff.rfl,⟨rfl,rfl⟩,fun x v hv=>by simp [encI] at hv; subst hv; rfl⟩
theorem fB:FlatT boolRd boolOw encB 1:=⟨by decide,fun _=>rfl,Iff.rfl,⟨rfl,rfl⟩,fun x v hv=>by simp [encB] at hv; subst hv; rfl⟩
section
variable {α : Type} {R : Rd α} {O : Ow α} {enc : α → List Value} {sz : Nat} {w w' : World} {lo lo' : Nat} {v : Value} {xs ys : List α} {e : TypeId}
theorem FlatT.flen (F:FlatT R O enc sz) :∀xs:List α,(xs.flatMap enc).length=xs.length * sz
  |[]=>by simp
  |x :: xs=>by simp [F.len,F.flen xs,Nat.add_mul]; omega
theorem FlatT.fone (F:FlatT R O enc sz) {xs:List α} :∀u∈xs.flatMap enc,u.oneCell'=true:=fun u hu=>by
  obtain ⟨x,_,hx⟩:=List.mem_flatMap.1 hu
  exact F.one x u hx
theorem FlatT.fget (F:FlatT R O enc sz) :∀{xs:List α} {i j:Nat} {x:α} {u:Value},xs[i]? = some x→(enc x)[j]? = some u→(xs.flatMap enc)[i * sz+j]? = some u
  |[],i,j,x,u,h,_=>by simp at h
  |y :: ys,0,j,x,u,h,hu=>by
    have:y=x:=by simpa using h
    subst this
    have hj:=lt_of_some hu
    simp only [Nat.zero_mul,Nat.zero_add,List.flatMap_cons]
    rw [List.getElem?_append_left hj]; exact hu
  |y :: ys,i+1,j,x,u,h,hu=>by
    have h':ys[i]? = some x:=by simpa using h
    have hl:(enc y).length=sz:=F.len y
    simp only [List.flatMap_cons]
    rw [List.getElem?_append_right (by rw [hl,Nat.add_mul]; omega),hl,show (i+1) * sz+j - sz=i * sz+j by rw [Nat.add_mul]; omega]
    exact F.fget h' hu
/-- A slice of the call's own from block lo on, whole (it may be appended to). -/
def OwF (e:TypeId) (enc:α→List Value) (sz:Nat) (w:World) (lo:Nat) (v:Value) (xs:List α):Prop:=w.ownsRow lo e sz v xs.length (xs.flatMap enc)
theorem OwF.below (h:OwF e enc sz w lo v xs) (hb:Below w.heap.size w w'):OwF e enc sz w' lo v xs:=by
  refine ⟨h.1,?_⟩
  rcases h.2 with h2|⟨g,cap,cur,hv,hg,hh,r⟩
  · exact .inl h2
  · exact .inr ⟨g,cap,cur,hv,hg,(hb.block g (Array.getElem?_eq_some_iff.1 hh).1).trans hh,r⟩
theorem OwF.mono (h:OwF e enc sz w lo v xs) (hl:lo'≤lo):OwF e enc sz w lo' v xs:=by
  refine ⟨h.1,?_⟩
  rcases h.2 with h2|⟨g,cap,cur,hv,hg,r⟩
  · exact .inl h2
  · exact .inr ⟨g,cap,cur,hv,by omega,r⟩
theorem OwF.nil:OwF e enc sz w lo (.slice none 0 0) ([] : List α):=⟨by simp,.inl ⟨rfl,rfl⟩⟩
theorem OwF.lit {g n:Nat} {cells:Array Value} (B:Blk w g e cells) (hg:lo≤g) (hc:cells.toList=xs.flatMap enc) (hn:n=xs.length) (hm:Nat.ble n 9223372036854775807=true) (hs:cells.size=n * sz):OwF e enc sz w lo (.slice (some ⟨g,0,none⟩) n n) xs:=by
  subst hn
  exact ⟨by rw [← hc]; simpa using hs,.inr ⟨g,xs.length,cells,rfl,hg,B,Nat.le_refl _,by have:=Nat.le_of_ble_eq_true hm; unfold maxLen; omega,hs,by rw [hc,List.take_of_length_le]; rw [← hc]; simp [hs]⟩⟩
theorem OwF.form (h:OwF e enc sz w lo v xs) :∃A c,v=.slice A xs.length c:=by
  rcases h.2 with ⟨rfl,h0⟩|⟨g,cap,cur,hv,_⟩
  · exact ⟨none,0,by rw [h0]⟩
  · exact ⟨_,_,hv⟩
theorem OwF.bound (h:OwF e enc sz w lo v xs):xs.length≤9223372036854775807:=by
  rcases h.2 with ⟨_,h0⟩|⟨g,cap,cur,hv,hg,hh,h1,h2,_⟩
  · omega
  · unfold maxLen at h2; omega
theorem OwF.own (F:FlatT R O enc sz) (h:OwF e enc sz w lo v xs):OwS O sz w v xs lo w.heap.size:=by
  rcases h.2 with ⟨rfl,h0⟩|⟨g,cap,cur,rfl,hg,hh,h1,h2,h3,h4⟩
  · have:xs=[]:=List.eq_nil_of_length_eq_zero h0
    subst this
    exact ⟨none,0,0,[],rfl,⟨rfl,.inl ⟨rfl,rfl⟩⟩,List.nodup_nil,fun b hb=>by simp at hb,Nat.le_refl _,Nat.zero_le _⟩
  · have hblk:Blk w g e cur:=hh
    refine ⟨some ⟨g,0,none⟩,_,cap,[g],rfl,⟨rfl,.inr ⟨g,0,[],rfl,rfl,?_⟩⟩,by simp,fun b hb=>by simp at hb; subst hb; exact ⟨hg,hblk.lt⟩,h1,h2⟩
    have key :∀(l:List α) (o:Nat),(∀j u,(l.flatMap enc)[j]? = some u→cur[o+j]? = some u)→ElAt O sz w g o l []:=by
      intro l
      induction l with
      |nil=>intro o _; rfl
      |cons x l ih=>
        intro o hl
        refine ⟨enc x,[],[],F.ow,hblk.csAt (fun j u hj=>hl j u ?_),rfl,ih (o+sz) (fun j u hj=>?_)⟩
        · simp only [List.flatMap_cons]
          rw [List.getElem?_append_left (lt_of_some hj)]; exact hj
        · have:=hl (sz+j) u (by
            simp only [List.flatMap_cons]
            rw [List.getElem?_append_right (by rw [F.len]; omega),F.len,show sz+j - sz=j by omega]; exact hj)
          rwa [show o+(sz+j)=o+sz+j by omega] at this
    refine key xs 0 (fun j u hj=>?_)
    rw [← h4,List.getElem?_take] at hj
    split at hj
    · simpa using hj
    · cases hj
theorem OwF.rdS (F:FlatT R O enc sz) (h:OwF e enc sz w lo v xs):RdS R sz w w.heap.size v xs:=by
  rcases h.2 with ⟨rfl,h0⟩|⟨g,cap,cur,rfl,hg,hh,h1,h2,h3,h4⟩
  · have:xs=[]:=List.eq_nil_of_length_eq_zero h0
    subst this
    exact ⟨none,0,0,rfl,SlAt.none_,Nat.le_refl _,Nat.zero_le _⟩
  · have hblk:Blk w g e cur:=hh
    refine ⟨some ⟨g,0,none⟩,_,cap,rfl,⟨rfl,fun _=>⟨g,0,rfl,hblk.lt,fun i x hx=>⟨enc x,F.rd.2 rfl,fun j u hj=>?_⟩⟩⟩,h1,h2⟩
    have hk:=F.fget hx hj
    rw [← h4,List.getElem?_take] at hk
    split at hk
    · rw [hblk.cell,Nat.zero_add]; simpa using hk
    · cases hk
theorem OwF.arg (F:FlatT R O enc sz) (h:OwF e enc sz w lo v xs):Sl R sz w v xs:=h.rdS F
theorem OwF.lt (h:OwF e enc sz w lo v xs) :∀b,v.ownBlock=some b→lo≤b∧b < w.heap.size:=World.ownsRow.lt h
/-- Another slice of the call's own while row 'row' grows. -/
theorem OwF.kept {row:Option Nat} (h:OwF e enc sz w lo v xs) (hg:w.grownBy w' row) (hne:v.ownBlock=none ∨ v.ownBlock ≠ row):OwF e enc sz w' lo v xs:=World.ownsRow.kept h hg hne
theorem OwF.only {b:Nat} (h:OwF e enc sz w lo v xs) (ho:Only [b] w w') (hne:v.ownBlock ≠ some b):OwF e enc sz w' lo v xs:=by
  refine ⟨h.1,?_⟩
  rcases h.2 with h2|⟨g,cap,cur,hv,hg,hh,r⟩
  · exact .inl h2
  · exact .inr ⟨g,cap,cur,hv,hg,(ho.block g (by intro hin; simp at hin; subst hin; exact hne (by rw [hv]; rfl))).trans hh,r⟩
theorem SlAt.flat (F:FlatT R O enc sz) {B n b o:Nat} (h:SlAt R sz w B (some ⟨b,o,none⟩) n xs) :∀j u,(xs.flatMap enc)[j]? = some u→w.cell? ⟨b,o+j,none⟩=some u:=fun j u hj=>by
  have hp:=F.pos
  have hlt:=lt_of_some hj
  rw [F.flen] at hlt
  have hi:j / sz < xs.length:=(Nat.div_lt_iff_lt_mul hp).2 hlt
  have hx:xs[j / sz]? = some xs[j / sz]:=List.getElem?_eq_getElem hi
  obtain ⟨cs,hR,hc⟩:=h.el hx
  obtain rfl:=F.rd.1 hR
  have hm:j % sz < (enc xs[j / sz]).length:=by rw [F.len]; exact Nat.mod_lt _ hp
  have h2:=F.fget hx (List.getElem?_eq_getElem hm)
  have e:j / sz * sz+j % sz=j:=Nat.div_add_mod' j sz
  rw [e] at h2
  rw [h2] at hj
  injection hj with hj
  have h3:=hc (j % sz) _ (List.getElem?_eq_getElem hm)
  rw [Nat.add_assoc,e,hj] at h3
  exact h3
end
/-- What is asked of a slice type that is appended to. -/
structure AppT (P:Program) (t e:TypeId) (z:Value) (sz bb:Nat):Prop where
  und:P.underlying t=some (.slice e)
  info:(P.info? e).map (fun i=>(i.zero,i.size,i.bytes))=some (some z,sz,bb)
  zs:z.cells.size=sz
  bb:bb≤256
section
variable {P : Program} {t e : TypeId} {z : Value} {sz bb : Nat} {w : World} {base : Nat}
theorem append_own2 (A:AppT P t e z sz bb) (hsz:0 < sz) {v:Value} {k:Nat} {xs:List Value} (hown:w.ownsRow base e sz v k xs) (hb:base≤w.heap.size) (ad:Addr) (m c:Nat) (news:List Value) (hl:news.length=m * sz)
    (hnews :∀j u,news[j]? = some u→w.cell? (ad.add j)=some u) (h1 :∀u∈news,u.oneCell'=true) (hk:k+m≤4294967296) (ty:TypeId) :
    ∃v' w',(Builtin.append_ #[t,t] ty #[v,.slice (some ad) m c]).run P w=.ok v' w'∧w'.ownsRow base e sz v' (k+m) (xs ++ news)∧w.grownBy w' v.ownBlock∧(∀b,v'.ownBlock=some b→v.ownBlock=some b ∨ w.heap.size≤b):=by
  obtain ⟨i0,hi,hz0,hz1,hz2⟩:=info_parts A.info
  have hby:(k+m) * bb≤140737488355328:=Nat.le_trans (Nat.mul_le_mul hk A.bb) (by decide)
  have hsm:k+m≤9223372036854775807:=by omega
  obtain ⟨v',w',hr,h2,h3,_⟩:=run_append_own (P:=P) w base t ty e i0 z sz bb A.und hi hz0 hz1 hz2 A.zs hsz v k xs hown ad m c news hl hnews h1 (by unfold maxLen; omega) hby hb
  refine ⟨v',w',hr,h2,h3,?_⟩
  subst hz1
  subst hz2
  have hxl:=hown.1
  have hl':=hl
  rcases hown.2 with ⟨rfl,rfl⟩|⟨g,cap,cur,rfl,hbg,hg,hnc,hcm,hcs,htake⟩
  · by_cases hm:m=0
    · subst hm
      have hn:news=[]:=List.eq_nil_of_length_eq_zero (by simpa using hl)
      subst hn
      have hr2:(Builtin.append_ #[t,t] ty #[.slice none 0 0,.slice (some ad) 0 c]).run P w=.ok (.slice none 0 0) w:=by
        simp [Builtin.append_,run_underlying A.und,sizeOf,typeInfo,hi,Builtin.lenOf,Builtin.firstCells,loadCells,loadCellsFrom]
      rw [hr2] at hr
      injection hr with e1 e2
      subst e1
      intro b hbk; simp [Value.ownBlock] at hbk
    · have hr2:=run_append_nil (P:=P) w t ty e i0 z A.und hi hz0 ad m c news hl hnews (by omega) (by omega) (by have hb:=hby; simp only [Nat.zero_add] at hb; omega)
      rw [hr2] at hr
      injection hr with e1 e2
      subst e1
      intro b hbk
      simp [Value.ownBlock] at hbk
      exact .inr (by omega)
  · by_cases hroom:k+m≤cap
    · have hfit:k * i0.size+news.length≤cur.size:=by rw [hl,hcs,← Nat.add_mul]; exact Nat.mul_le_mul_right _ hroom
      have hr2:=run_append_room (P:=P) w t ty e i0 A.und hi g k cap cur hg ad m c news hl hnews h1 hroom hfit
      rw [hr2] at hr
      injection hr with e1 e2
      subst e1
      intro b hbk
      exact .inl hbk
    · have holds :∀j u,xs[j]? = some u→w.cell? ((⟨g,0,none⟩:Addr).add j)=some u:=hown.cells (g:=g) rfl
      have hr2:=run_append_grow (P:=P) w t ty e i0 z A.und hi hz0 ⟨g,0,none⟩ k cap xs hown.1 holds ad m c news hl hnews (by omega) (by omega) (growslice_fits (by omega) hby)
      rw [hr2] at hr
      injection hr with e1 e2
      subst e1
      intro b hbk
      simp [Value.ownBlock] at hbk
      exact .inr (by omega)
theorem append_none (A:AppT P t e z sz bb) {v:Value} {k c:Nat} {xs:List Value} (hown:w.ownsRow base e sz v k xs) (ty:TypeId):(Builtin.append_ #[t,t] ty #[v,.slice none 0 c]).run P w=.ok v w:=by
  obtain ⟨i0,hi,hz0,hz1,hz2⟩:=info_parts A.info
  rcases hown.2 with ⟨rfl,rfl⟩|⟨g,cap,cur,rfl,_,_,hnc,_⟩
  · simp [Builtin.append_,run_underlying A.und,sizeOf,typeInfo,hi,Builtin.lenOf,Builtin.firstCells]
  · simp [Builtin.append_,run_underlying A.und,sizeOf,typeInfo,hi,Builtin.lenOf,Builtin.firstCells,hnc,storeCells]
end
section
variable {P : Program} {ops : Array Oper} {f : Nat → Value} {rest : List Oper} {Q : (Nat → Value) → World → Prop} {w : World} {d : Option Tmp} {ty : TypeId} {pos : String} {af : Array Edge} {g : Option (Nat × Bool)} {x y : Operand} {t e : TypeId} {z : Value} {sz bb : Nat}
theorem RL.append {α:Type} {R:Rd α} {O:Ow α} {enc:α→List Value} {v vy:Value} {xs ys:List α} {lo:Nat} (F:FlatT R O enc sz) (A:AppT P t e z sz bb) (hg:wantF f ops ⟨d,.call ⟨.builtin .append,#[x,y],#[t,t]⟩,ty,pos,af,g⟩=true)
    (hx:ev f x=v) (hy:ev f y=vy) (hv:OwF e enc sz w lo v xs) (hr:Sl R sz w vy ys) (hlo:lo≤w.heap.size) (hk:xs.length+ys.length≤4294967296)
    (h :∀v' w1,OwF e enc sz w1 lo v' (xs ++ ys)→w.grownBy w1 v.ownBlock→Below lo w w1→(∀b,v'.ownBlock=some b→v.ownBlock=some b ∨ w.heap.size≤b)→RL P ops Q rest (upo f d v') w1):RL P ops Q (⟨d,.call ⟨.builtin .append,#[x,y],#[t,t]⟩,ty,pos,af,g⟩ :: rest) f w:=by
  have hrun :∀v' w1,(Builtin.append_ #[t,t] ty #[v,vy]).run P w=.ok v' w1→(execOp (ev f) ⟨d,.call ⟨.builtin .append,#[x,y],#[t,t]⟩,ty,pos,af,g⟩).run P w=.ok (.value v') w1:=fun v' w1 h0=>by
    simp [execOp,resolve,invoke,builtin,hx,hy,h0]
  obtain ⟨Ay,n,c,rfl,hs,hnc,hcm⟩:=hr
  obtain rfl:=hs.len
  cases Ay with
  |none=>
    have h0:ys=[]:=by
      cases ys with
      |nil=>rfl
      |cons y0 ys=>obtain ⟨b,o,e0,_⟩:=hs.addr (by simp); cases e0
    subst h0
    refine .inl ⟨hg,?_⟩
    rw [hrun v w (append_none A hv ty)]
    exact h v w (by simpa using hv) ⟨rfl,rfl,rfl,Nat.le_refl _,fun _ _ _=>rfl⟩ (Below.refl _ _) (fun b hb=>.inl hb)
  |some ad=>
    have hcells :∀j u,(ys.flatMap enc)[j]? = some u→w.cell? (ad.add j)=some u:=fun j u hj=>by
      have hlt:=lt_of_some hj
      rw [F.flen] at hlt
      have hpos:0 < ys.length:=by
        rcases Nat.eq_zero_or_pos ys.length with h0|h0
        · rw [h0] at hlt; simp at hlt
        · exact h0
      obtain ⟨b,o,e0,_⟩:=hs.addr hpos
      injection e0 with e0
      subst e0
      rw [Addr.add_eq]
      exact hs.flat F j u hj
    obtain ⟨v',w1,h0,h1,h2,h3⟩:=append_own2 A F.pos hv hlo ad ys.length c (ys.flatMap enc) (F.flen ys) hcells F.fone hk ty
    refine .inl ⟨hg,?_⟩
    rw [hrun v' w1 h0]
    refine h v' w1 ?_ h2 ?_ h3
    · unfold OwF
      rw [List.length_append,List.flatMap_append]
      exact h1
    · exact (Below.refl lo w).grown h2 hlo (fun b hb=>(hv.lt b hb).1)
end
section
variable {α : Type} {R : Rd α} {O : Ow α} {enc : α → List Value} {sz n c lo : Nat} {w w' : World} {v v' vx vy : Value} {xs ys : List α} {e : TypeId} {A : Option Addr}
theorem OwF.sl (F:FlatT R O enc sz) (h:OwF e enc sz w lo (.slice A n c) xs):SlAt R sz w w.heap.size A n xs∧n≤c∧c≤maxLen:=by
  obtain ⟨A',n',c',he,h1,h2⟩:=h.rdS F
  injection he with e1 e2 e3
  subst e1 e2 e3
  exact ⟨h1,h2⟩
theorem OwF.cell {b k j:Nat} {x:α} {u:Value} (F:FlatT R O enc sz) (h:OwF e enc sz w lo (.slice (some ⟨b,0,none⟩) n c) xs) (hx:xs[k]? = some x) (hu:(enc x)[j]? = some u):w.cell? ⟨b,0+k * sz+j,none⟩=some u:=by
  obtain ⟨cs,hR,hc⟩:=(h.sl F).1.el hx
  obtain rfl:=F.rd.1 hR
  exact hc j u hu
theorem OwF.addr0 (h:OwF e enc sz w lo (.slice A n c) xs) (hn:0 < n) :∃b,A=some ⟨b,0,none⟩:=by
  rcases h.2 with ⟨h0,_⟩|⟨g,cap,cur,hv,_⟩
  · injection h0 with h1 h2; omega
  · injection hv with h1; exact ⟨g,h1⟩
theorem OwF.ne {b:Nat} (h:OwF e enc sz w lo v xs) (hb:b < lo):v.ownBlock ≠ some b:=fun hv=>by have:=(h.lt b hv).1; omega
/-- Two slices of the call's own lie apart. -/
def Dj (v u:Value):Prop:=∀b,v.ownBlock=some b→u.ownBlock=some b→False
theorem Dj.symm (h:Dj vx vy):Dj vy vx:=fun b h1 h2=>h b h2 h1
theorem Dj.app {m:Nat} (h:Dj v vx) (hn :∀b,v'.ownBlock=some b→v.ownBlock=some b ∨ m≤b) (hx :∀b,vx.ownBlock=some b→b < m):Dj v' vx:=fun b h1 h2=>by
  rcases hn b h1 with h3|h3
  · exact h b h3 h2
  · have:=hx b h2; omega
theorem Dj.new {m:Nat} (hv :∀b,v.ownBlock=some b→m≤b) (hx :∀b,vx.ownBlock=some b→b < m):Dj v vx:=fun b h1 h2=>by have:=hv b h1; have:=hx b h2; omega
theorem Dj.nil:Dj (.slice none 0 0) vx:=fun b h1 _=>by simp [Value.ownBlock] at h1
theorem OwF.keptD (h:OwF e enc sz w lo v xs) (hg:w.grownBy w' vx.ownBlock) (hd:Dj v vx):OwF e enc sz w' lo v xs:=h.kept hg (by
  cases hv:v.ownBlock with
  |none=>exact .inl rfl
  |some b=>exact .inr (fun e=>hd b hv e.symm))
theorem Blk.kept {b:Nat} {t:TypeId} {cs:Array Value} (h:Blk w b t cs) (hg:w.grownBy w' v.ownBlock) (hn:v.ownBlock ≠ some b):Blk w' b t cs:=(hg.block b h.lt (fun e=>hn e.symm)).trans h
theorem litNe {b g n c:Nat} (h:b < g):(Value.slice (some ⟨g,0,none⟩) n c).ownBlock ≠ some b:=by intro e; simp [Value.ownBlock] at e; omega
theorem litGe {g n c:Nat} :∀b,(Value.slice (some ⟨g,0,none⟩) n c).ownBlock=some b→g≤b:=by intro b e; simp [Value.ownBlock] at e; omega
theorem OwF.hi (h:OwF e enc sz w lo v xs) :∀b,v.ownBlock=some b→b < w.heap.size:=fun b hb=>(h.lt b hb).2
theorem OwF.lo_ (h:OwF e enc sz w lo v xs) :∀b,v.ownBlock=some b→lo≤b:=fun b hb=>(h.lt b hb).1
def setI {α:Type} (xs:List α) (i:Int) (x:α):List α:=xs.set i.toNat x
theorem setI_nat {α:Type} (xs:List α) (k:Nat) (x:α):setI xs (k:Int) x=xs.set k x:=rfl
theorem FlatT.fset (F:FlatT R O enc sz) :∀{xs:List α} {i:Nat} {x:α},i < xs.length→(xs.set i x).flatMap enc=(xs.flatMap enc).take (i * sz) ++ enc x ++ (xs.flatMap enc).drop (i * sz+sz)
  |[],i,x,h=>by simp at h
  |y :: ys,0,x,_=>by
    have hl:(enc y).length=sz:=F.len y
    simp only [List.set_cons_zero,List.flatMap_cons,Nat.zero_mul,List.take_zero,List.nil_append,Nat.zero_add]
    rw [← hl,List.drop_left]
  |y :: ys,i+1,x,h=>by
    have hl:(enc y).length=sz:=F.len y
    have ih:=F.fset (xs:=ys) (i:=i) (x:=x) (by simpa using h)
    simp only [List.set_cons_succ,List.flatMap_cons,ih]
    rw [show (i+1) * sz=sz+i * sz by rw [Nat.add_mul]; omega,show sz+i * sz+sz=sz+(i * sz+sz) by omega]
    have e1 :∀k,List.take (sz+k) (enc y ++ ys.flatMap enc)=enc y ++ List.take k (ys.flatMap enc):=fun k=>by rw [← hl,List.take_length_add_append]
    have e2 :∀k,List.drop (sz+k) (enc y ++ ys.flatMap enc)=List.drop k (ys.flatMap enc):=fun k=>by rw [← hl,List.drop_length_add_append]
    rw [e1,e2]
    simp
end
section
variable {P : Program} {ops : Array Oper} {f : Nat → Value} {rest : List Oper} {Q : (Nat → Value) → World → Prop} {w : World} {d : Option Tmp} {ty : TypeId} {pos : String} {af : Array Edge} {g : Option (Nat × Bool)} {x y : Operand} {t e : TypeId} {z : Value} {sz bb : Nat}
theorem splice_take {β:Type} {A E:List β} {p L:Nat} (hp:p+E.length≤L) (hL:L≤A.length):(A.take p ++ E ++ A.drop (p+E.length)).take L=(A.take L).take p ++ E ++ (A.take L).drop (p+E.length):=by
  rw [List.take_take,Nat.min_eq_left (by omega),List.take_append,List.take_of_length_le (by simp; omega),List.drop_take]
  congr 2
  simp
  omega
theorem RL.storeF {α:Type} {R:Rd α} {O:Ow α} {enc:α→List Value} {v:Value} {xs:List α} {lo k n c b:Nat} {a:α} (F:FlatT R O enc sz) (hg:wantF f ops ⟨d,.store t x y,ty,pos,af,g⟩=true) (hx:ev f x=.pointer (some ⟨b,0+k * sz,none⟩)) (hy:ev f y=v)
    (hv:OwF e enc sz w lo (.slice (some ⟨b,0,none⟩) n c) xs) (hk:k < xs.length) (he:v.cells.toList=enc a) (hs:(P.info? t).map (·.size)=some sz)
    (h :∀w1,OwF e enc sz w1 lo (.slice (some ⟨b,0,none⟩) n c) (xs.set k a)→Only [b] w w1→RL P ops Q rest (upo f d undef) w1):RL P ops Q (⟨d,.store t x y,ty,pos,af,g⟩ :: rest) f w:=by
  refine .inl ⟨hg,?_⟩
  cases hi:P.info? t with
  |none=>rw [hi] at hs; cases hs
  |some inf=>
    rw [hi] at hs
    simp only [Option.map_some,Option.some.injEq] at hs
    obtain ⟨hl,hv2⟩:=hv
    rcases hv2 with ⟨h0,_⟩|⟨b',cap,cur,hv,hlo,hh,h1,h2,h3,h4⟩
    · cases h0
    · injection hv with e1 e2 e3
      injection e1 with e1
      injection e1 with e1
      subst e1 e2 e3
      have hlen:v.cells.toList.length=sz:=by rw [he,F.len]
      have hkc:k * sz+sz≤xs.length * sz:=by
        have:=Nat.mul_le_mul_right sz (show k+1≤xs.length from hk)
        rw [Nat.add_mul] at this; omega
      have hcc:xs.length * sz≤cur.size:=by rw [h3]; exact Nat.mul_le_mul_right _ h1
      have hst:=run_storeCells_at (P:=P) b (k * sz) e v.cells.toList 0 cur w hh (by rw [hlen]; omega) (fun u hu=>F.one a u (by rw [← he]; exact hu))
      have hr:(execOp (ev f) ⟨d,.store t x y,ty,pos,af,g⟩).run P w=.ok .skip (w.setRow b (cur.toList.take (k * sz) ++ v.cells.toList ++ cur.toList.drop (k * sz+v.cells.toList.length)).toArray):=by
        simp only [Nat.add_zero] at hst
        have hsz:v.cells.size=inf.size:=by rw [hs,← hlen]; simp
        simp [execOp,hx,hy,Instr.storeAt,Instr.sureAddr,storeVar,sizeOf,typeInfo,hi,hsz,hst]
      rw [hr]
      refine h _ ⟨?_,.inr ⟨b,c,_,by rw [List.length_set],hlo,setRow_heap w b cur _ e _ hh,by rw [List.length_set]; exact h1,h2,?_,?_⟩⟩ (setRow_only _ _ _)
      · rw [F.flen]
      · simp only [List.size_toArray,List.length_append,List.length_take,List.length_drop,Array.length_toList,hlen]
        rw [← h3]; omega
      · rw [F.fset hk,he,F.len,List.length_set,← h4]
        have:=splice_take (A:=cur.toList) (E:=enc a) (p:=k * sz) (L:=xs.length * sz) (by rw [F.len]; omega) (by simpa using hcc)
        rw [F.len] at this
        simpa using this
theorem flat_replicate {α:Type} {enc:α→List Value} {z0:α} (hz:z.cells.toList=enc z0) (hzs:z.cells.size=sz) (hp:0 < sz) :∀n:Nat,(madeCells z.cells (n * sz)).toList=(List.replicate n z0).flatMap enc:=by
  intro n
  apply List.ext_getElem?
  intro i
  have hlen :∀m:Nat,((List.replicate m z0).flatMap enc).length=m * sz:=fun m=>by
    induction m with
    |zero=>simp
    |succ m ih=>rw [List.replicate_succ,List.flatMap_cons,List.length_append,ih,← hz,Array.length_toList,hzs,Nat.add_mul]; omega
  have hget :∀(m i:Nat),i < m * sz→((List.replicate m z0).flatMap enc)[i]? = (enc z0)[i % sz]?:=fun m=>by
    induction m with
    |zero=>intro i hi; simp at hi
    |succ m ih=>
      intro i hi
      rw [List.replicate_succ,List.flatMap_cons]
      have hle:(enc z0).length=sz:=by rw [← hz,Array.length_toList,hzs]
      by_cases h:i < sz
      · rw [List.getElem?_append_left (by omega),Nat.mod_eq_of_lt h]
      · rw [List.getElem?_append_right (by omega),hle,ih (i - sz) (by rw [Nat.add_mul] at hi; omega)]
        congr 1
        conv=>rhs; rw [show i=i - sz+sz by omega,Nat.add_mod_right]
  by_cases hi:i < n * sz
  · rw [hget n i hi,← hz]
    simp [madeCells,hi,hzs]
    have hm:i % sz < z.cells.size:=by rw [hzs]; exact Nat.mod_lt _ hp
    simp [hm]
  · rw [List.getElem?_eq_none (by simp [madeCells]; omega),List.getElem?_eq_none (by rw [hlen]; omega)]
theorem RL.make {α:Type} {enc:α→List Value} {z0:α} {n:Nat} (A:AppT P t e z sz bb) (hp:0 < sz) (hz:z.cells.toList=enc z0) (hg:wantF f ops ⟨d,.makeSlice t x y,ty,pos,af,g⟩=true)
    (hx:ev f x=.int .i64 n) (hy:ev f y=.int .i64 n) (hn:n≤4294967296)
    (h :∀w1,OwF e enc sz w1 w.heap.size (.slice (some ⟨w.heap.size,0,none⟩) n n) (List.replicate n z0)→Below w.heap.size w w1→w1.heap.size=w.heap.size+1→RL P ops Q rest (upo f d (.slice (some ⟨w.heap.size,0,none⟩) n n)) w1):RL P ops Q (⟨d,.makeSlice t x y,ty,pos,af,g⟩ :: rest) f w:=by
  refine .inl ⟨hg,?_⟩
  have hb:bb * n≤281474976710656:=Nat.le_trans (Nat.mul_le_mul A.bb hn) (by decide)
  have hr:(execOp (ev f) ⟨d,.makeSlice t x y,ty,pos,af,g⟩).run P w=.ok (.value (.slice (some ⟨w.heap.size,0,none⟩) n n)) (w.alloc (.cells (madeCells z.cells (n * sz)) e)):=by
    simp [execOp,hx,hy,run_make_sz t e A.und A.info n hb hn w]
  rw [hr]
  have hB:=Blk.new w e (madeCells z.cells (n * sz))
  refine h _ ?_ (below_alloc _ _) (World.size_alloc _ _)
  refine ⟨?_,.inr ⟨w.heap.size,n,_,by simp,Nat.le_refl _,hB,by simp,by unfold maxLen; omega,madeCells_size _ _,?_⟩⟩
  · rw [← flat_replicate hz A.zs hp]; simp [madeCells]
  · rw [← flat_replicate hz A.zs hp,List.take_of_length_le (by simp [madeCells])]
end
end
section
open Go.RowKit
section
variable {P : Program} {ops : Array Oper} {S : World → Prop}
/-- Along an order: (number, does it only look?). -/
def RG (P:Program) (ops:Array Oper) (S:World→Prop) (Q:(Nat→Value)→World→Prop):List (Nat × Bool)→(Nat→Value)→World→Prop
  |[],f,w=>Q f w
  |(i,q) :: rest,f,w=>match ops[i]? with
    |none=>False
    |some o=>match q with
      |true=>∃v,((wantF f ops o=true∧∀w,S w→(execOp (ev f) o).run P w=.ok (.value v) w) ∨ (wantF f ops o=false∧v=undef))∧RG P ops S Q rest (upo f o.dst v) w
      |false=>(wantF f ops o=true∧OpX P (fun v w'=>S w'∧RG P ops S Q rest (upo f o.dst v) w') ((execOp (ev f) o).run P w)) ∨ (wantF f ops o=false∧S w∧RG P ops S Q rest (upo f o.dst undef) w)
variable {Q : (Nat → Value) → World → Prop} {rest : List (Nat × Bool)} {f : Nat → Value} {w : World} {i : Nat} {o : Oper}
theorem RG.nil (h:Q f w):RG P ops S Q [] f w:=h
theorem RG.y {v:Value} (ho:ops[i]? = some o) (hg:wantF f ops o=true) (hy:Y P S f o v) (h:RG P ops S Q rest (upo f o.dst v) w):RG P ops S Q ((i,true) :: rest) f w:=by
  unfold RG; rw [ho]; exact ⟨v,.inl ⟨hg,hy⟩,h⟩
theorem RG.skip (ho:ops[i]? = some o) (hg:wantF f ops o=false) (h:RG P ops S Q rest (upo f o.dst undef) w):RG P ops S Q ((i,true) :: rest) f w:=by
  unfold RG; rw [ho]; exact ⟨undef,.inr ⟨hg,rfl⟩,h⟩
end
end
section
open Go.RowKit
inductive OT where
  |nil|q (i:Nat) (r:OT)|a (i:Nat) (r:OT)|two (i:Nat) (r1:OT) (j:Nat) (r2:OT)
def OT.len:OT→Nat
  |.nil=>0
  |.q _ r=>r.len+1
  |.a _ r=>r.len+1
  |.two _ r1 _ _=>r1.len+1
section
variable {P : Program} {ops : Array Oper} {S : World → Prop}
def ActAt (P:Program) (ops:Array Oper) (K:(Nat→Value)→World→Prop) (i:Nat) (f:Nat→Value) (w:World):Prop:=
  match ops[i]? with
  |none=>False
  |some o=>(wantF f ops o=true∧OpX P (fun v w'=>K (upo f o.dst v) w') ((execOp (ev f) o).run P w)) ∨ (wantF f ops o=false∧K (upo f o.dst undef) w)
def RT (P:Program) (ops:Array Oper) (S:World→Prop) (Q:(Nat→Value)→World→Prop):OT→(Nat→Value)→World→Prop
  |.nil,f,w=>Q f w
  |.q i r,f,w=>match ops[i]? with
    |none=>False
    |some o=>∃v,((wantF f ops o=true∧∀w,S w→(execOp (ev f) o).run P w=.ok (.value v) w) ∨ (wantF f ops o=false∧v=undef))∧RT P ops S Q r (upo f o.dst v) w
  |.a i r,f,w=>ActAt P ops (fun f' w'=>S w'∧RT P ops S Q r f' w') i f w
  |.two i r1 j r2,f,w=>ActAt P ops (fun f' w'=>S w'∧RT P ops S Q r1 f' w') i f w∧ActAt P ops (fun f' w'=>S w'∧RT P ops S Q r2 f' w') j f w
variable {Q : (Nat → Value) → World → Prop} {rest r2 : OT} {f : Nat → Value} {w : World} {i j : Nat} {o o2 : Oper}
theorem RT.y {v:Value} (ho:ops[i]? = some o) (hg:wantF f ops o=true) (hy:Y P S f o v) (h:RT P ops S Q rest (upo f o.dst v) w):RT P ops S Q (.q i rest) f w:=by
  unfold RT; rw [ho]; exact ⟨v,.inl ⟨hg,hy⟩,h⟩
theorem RT.skip (ho:ops[i]? = some o) (hg:wantF f ops o=false) (h:RT P ops S Q rest (upo f o.dst undef) w):RT P ops S Q (.q i rest) f w:=by
  unfold RT; rw [ho]; exact ⟨undef,.inr ⟨hg,rfl⟩,h⟩
theorem ActAt.of {K:(Nat→Value)→World→Prop} (ho:ops[i]? = some o) (h:RL P ops K [o] f w):ActAt P ops K i f w:=by
  unfold ActAt
  rw [ho]
  unfold RL at h
  exact h
theorem RT.both (ho:ops[i]? = some o) (ho2:ops[j]? = some o2) (h:RL P ops (fun f' w'=>S w'∧RT P ops S Q rest f' w') [o] f w) (h2:RL P ops (fun f' w'=>S w'∧RT P ops S Q r2 f' w') [o2] f w):RT P ops S Q (.two i rest j r2) f w:=
  ⟨ActAt.of ho h,ActAt.of ho2 h2⟩
end
end
section
open Go.RowKit Go.Maps
set_option linter.unusedSectionVars false
/-- A map as data: how often it was written, and what it holds. -/
structure MapM (κ β:Type) where
  n:Nat
  get:κ→Option β
section
variable {κ β : Type}
def MapM.empty:MapM κ β:=⟨0,fun _=>none⟩
def MapM.put [DecidableEq κ] (m:MapM κ β) (x:κ) (v:β):MapM κ β:=⟨m.n+1,fun y=>if y=x then some v else m.get y⟩
def rdVal (v:Value):Option (DataW Value × List MemPlace):=some (.held v,[])
/-- A map type: its keys, its elements' zero value. -/
structure MapT (P:Program) (t k:TypeId) (key:κ→Value) (lit:κ→Lit) (good:κ→Prop) (z:Value):Prop where
  keyed:Keyed P k
  ty :∃e,P.underlying t=some (.map k e)∧∀w,(zeroValue e).run P w=.ok z w
  of :∀x,good x→keyOf P k (key x)=some (lit x)
  inj :∀x y,lit x=lit y→x=y
def OwM (P:Program) (k:TypeId) (lit:κ→Lit) (enc:β→Value) (w:World) (lo b:Nat) (m:MapM κ β):Prop:=
  lo≤b∧∃D,w.ownsMap P k rdVal b m.n D∧∀x zd,D.atKey (lit x) zd=match m.get x with|some v=>.held (enc v)|none=>zd
variable {P : Program} {t k : TypeId} {key : κ → Value} {lit : κ → Lit} {good : κ → Prop} {z : Value} {enc : β → Value} {w w' : World} {lo b : Nat} {m : MapM κ β}
theorem OwM.lt (h:OwM P k lit enc w lo b m):b < w.heap.size:=by obtain ⟨_,D,h,_⟩:=h; exact h.lt
theorem OwM.keep (h:OwM P k lit enc w lo b m) (hb:w'.heap[b]? = w.heap[b]?):OwM P k lit enc w' lo b m:=by
  obtain ⟨h0,D,⟨es,clock,h1,F,hs,hD⟩,h2⟩:=h
  exact ⟨h0,D,⟨es,clock,hb.trans h1,F,hs,hD⟩,h2⟩
theorem OwM.below (h:OwM P k lit enc w lo b m) (hb:Below w.heap.size w w'):OwM P k lit enc w' lo b m:=h.keep (hb.block b h.lt)
theorem OwM.only {bs:List Nat} (h:OwM P k lit enc w lo b m) (ho:Only bs w w') (hn:b ∉ bs):OwM P k lit enc w' lo b m:=h.keep (ho.block b hn)
theorem OwM.grown {row:Option Nat} (h:OwM P k lit enc w lo b m) (hg:w.grownBy w' row) (hn:row ≠ some b):OwM P k lit enc w' lo b m:=h.keep (hg.block b h.lt (fun e=>hn e.symm))
theorem OwM.new:OwM P k lit enc (w.alloc (.map #[] 0)) w.heap.size w.heap.size (MapM.empty:MapM κ β):=
  ⟨Nat.le_refl _,.map [],World.ownsMap_made w P k rdVal,fun x zd=>rfl⟩
theorem OwM.set [DecidableEq κ] {v:β} (h:OwM P k lit enc w lo b m) (T:MapT P t k key lit good z) {x:κ} (hx:good x) (hn:m.n≤4294967296) :
    ∃w',(Instr.mapUpdate t (.map (some b)) (key x) (enc v)).run P w=.ok () w'∧OwM P k lit enc w' lo b (m.put x v)∧Only [b] w w':=by
  obtain ⟨h0,D,h1,h2⟩:=h
  obtain ⟨e,ht,hz⟩:=T.ty
  obtain ⟨w',hr,h3,h4⟩:=h1.store T.keyed ht (by unfold maxLen; omega) (T.of x hx) (d:=.held (enc v)) (ps:=[]) rfl
  refine ⟨w',hr,⟨h0,_,h3,fun y zd=>?_⟩,?_⟩
  · unfold MapM.put
    by_cases hy:y=x
    · subst hy
      simp only [if_true]
      exact atKey_put_same h1.isMap (T.keyed.key (T.of y hx)) _ _
    · simp only [if_neg hy]
      rw [atKey_put_other (fun e=>hy (T.inj _ _ e))]
      exact h2 y zd
  · obtain ⟨es,clock,es',clock',hb,rfl⟩:=h4
    refine ⟨rfl,rfl,rfl,by simp [ChangeMaps.setBlock],fun j hj=>?_⟩
    exact ChangeMaps.heap_setBlock_other hb _ (by simpa using hj)
end
section
variable {κ β : Type} [DecidableEq κ] {P : Program} {t k : TypeId} {key : κ → Value} {lit : κ → Lit} {good : κ → Prop} {enc : β → Value} {w : World} {lo b : Nat} {m : MapM κ β}
variable {C : World → Prop} {f : Nat → Value} {d : Option Tmp} {ty : TypeId} {pos : String} {af : Array Edge} {g : Option (Nat × Bool)} {x y u : Operand} {ops : Array Oper} {rest : List Oper} {Q : (Nat → Value) → World → Prop}
end
section
variable {P : Program} {C : World → Prop} {f : Nat → Value} {d : Option Tmp} {ty : TypeId} {pos : String} {af : Array Edge} {g : Option (Nat × Bool)} {x y : Operand} {ats : Array TypeId} {k : IntKind} {a b : Int}
theorem Y.max (hx:ev f x=.int k a) (hy:ev f y=.int k b):Y P C f ⟨d,.call ⟨.builtin .max,#[x,y],ats⟩,ty,pos,af,g⟩ (.int k (if b > a then b else a)):=fun w _=>by
  simp [execOp,resolve,invoke,builtin,hx,hy,Builtin.max_,Builtin.max2]
end
end
section
open Go.RowKit
/-- The block of a slice's row. -/
def fb (v:Value):List Nat:=v.ownBlock.toList
/-- Two lists of blocks lie apart. -/
def Ap (l m:List Nat):Prop:=∀b∈l,b ∉ m
section
variable {l m x l' l2 : List Nat} {k g : Nat} {v u v' : Value}
theorem mem_fb {b:Nat} : b∈fb v↔v.ownBlock=some b:=by simp [fb]
theorem Ap.symm (h:Ap l m):Ap m l:=fun b h1 h2=>h b h2 h1
theorem Ap.nil:Ap [] m:=fun b h=>by simp at h
theorem Ap.new (h1 :∀b∈l,k≤b) (h2 :∀b∈x,b < k):Ap l x:=fun b h h'=>by have:=h1 b h; have:=h2 b h'; omega
theorem Ap.one (h:Ap l [g]):g ∉ l:=fun hg=>h g hg (by simp)
theorem Ap.app (hn :∀b∈l',b∈l ∨ b∈l2 ∨ k≤b) (h1:Ap l x) (h2:Ap l2 x) (hi :∀b∈x,b < k):Ap l' x:=fun b hb h'=>by
  rcases hn b hb with h3|h3|h3
  · exact h1 b h3 h'
  · exact h2 b h3 h'
  · have:=hi b h'; omega
theorem Ap.cons (h1:Ap [g] x) (h2:Ap l x):Ap (g :: l) x:=fun b hb h'=>by
  rcases List.mem_cons.1 hb with rfl|hb
  · exact h1 b (by simp) h'
  · exact h2 b hb h'
theorem Ap.append (h1:Ap l x) (h2:Ap m x):Ap (l ++ m) x:=fun b hb h'=>by
  rcases List.mem_append.1 hb with hb|hb
  · exact h1 b hb h'
  · exact h2 b hb h'
theorem Dj.ap (h:Dj v u):Ap (fb v) (fb u):=fun b h1 h2=>h b (mem_fb.1 h1) (mem_fb.1 h2)
theorem Ap.dj (h:Ap (fb v) (fb u)):Dj v u:=fun b h1 h2=>h b (mem_fb.2 h1) (mem_fb.2 h2)
theorem ap_ne (h:Ap (fb v) [g]):v.ownBlock ≠ some g:=fun h1=>h g (mem_fb.2 h1) (by simp)
end
/-- Elements one behind the other, with what they own. -/
def Parts {α:Type} (O:Ow α) (w:World):List Value→List α→List Nat→Prop
  |cells,[],ib=>cells=[]∧ib=[]
  |cells,x :: xs,ib=>∃cs rest b1 b2,cells=cs ++ rest∧O w cs x b1∧ib=b1 ++ b2∧Parts O w rest xs b2
/-- A slice of the call's own: its row from block lo on, its elements' blocks (no two alike, none the row's), all among bs. -/
def OwN {α:Type} (e:TypeId) (O:Ow α) (sz:Nat) (w:World) (lo:Nat) (v:Value) (xs:List α) (bs:List Nat):Prop:=
  ∃cells ib,w.ownsRow lo e sz v xs.length cells∧Parts O w cells xs ib∧ib.Nodup∧(∀b∈ib,b∈bs)∧(∀b,v.ownBlock=some b→b∈bs∧b ∉ ib)∧(∀b∈bs,lo≤b∧b < w.heap.size)
/-- What an element's cells are: one value each. -/
def OneC {α:Type} (O:Ow α):Prop:=∀{w cs x bs},O w cs x bs→∀u∈cs,u.oneCell'=true
section
variable {α : Type} {O : Ow α} {R : Rd α} {sz : Nat} {w w' : World} {lo lo' : Nat} {v : Value} {xs ys : List α} {x : α} {bs : List Nat} {e : TypeId}
theorem Parts.keep (ok:OwOk O sz) :∀{xs:List α} {cells:List Value} {ib:List Nat},(∀b∈ib,w'.heap[b]? = w.heap[b]?)→Parts O w cells xs ib→Parts O w' cells xs ib
  |[],_,_,_,h=>h
  |x :: xs,_,_,hb,⟨cs,rest,b1,b2,e1,hO,e2,hr⟩=>by
    subst e1 e2
    exact ⟨cs,rest,b1,b2,rfl,ok.keep (fun b h=>hb b (by simp [h])) hO,rfl,Parts.keep ok (fun b h=>hb b (by simp [h])) hr⟩
theorem Parts.append :∀{xs ys:List α} {c1 c2:List Value} {i1 i2:List Nat},Parts O w c1 xs i1→Parts O w c2 ys i2→Parts O w (c1 ++ c2) (xs ++ ys) (i1 ++ i2)
  |[],_,_,_,_,_,⟨e1,e2⟩,h2=>by subst e1 e2; exact h2
  |x :: xs,_,_,_,_,_,⟨cs,rest,b1,b2,e1,hO,e2,hr⟩,h2=>by
    subst e1 e2
    exact ⟨cs,_,b1,_,by rw [List.append_assoc],hO,by rw [List.append_assoc],Parts.append hr h2⟩
theorem Parts.one {cs:List Value} {b:List Nat} (h:O w cs x b):Parts O w cs [x] b:=⟨cs,[],b,[],by simp,h,by simp,rfl,rfl⟩
theorem Parts.len (ok:OwOk O sz) :∀{xs:List α} {cells:List Value} {ib:List Nat},Parts O w cells xs ib→cells.length=xs.length * sz
  |[],_,_,⟨e,_⟩=>by rw [e]; simp
  |x :: xs,_,_,⟨cs,rest,b1,b2,e1,hO,e2,hr⟩=>by
    subst e1
    rw [List.length_append,ok.len hO,Parts.len ok hr,List.length_cons,Nat.add_mul]; omega
theorem Parts.elAt (ok:OwOk O sz) {g:Nat} {cur:Array Value} (hb:Blk w g e cur) :∀{xs:List α} {cells:List Value} {ib:List Nat} (o:Nat),(∀(j:Nat) (u:Value),cells[j]? = some u→cur[o+j]? = some u)→Parts O w cells xs ib→ElAt O sz w g o xs ib
  |[],_,_,o,_,⟨_,e⟩=>e
  |x :: xs,_,_,o,hc,⟨cs,rest,b1,b2,e1,hO,e2,hr⟩=>by
    subst e1 e2
    have hl:=ok.len hO
    refine ⟨cs,b1,b2,hO,hb.csAt (fun j u hj=>hc j u ?_),rfl,Parts.elAt ok hb (o+sz) (fun j u hj=>?_) hr⟩
    · rw [List.getElem?_append_left (lt_of_some hj)]; exact hj
    · have:=hc (sz+j) u (by rw [List.getElem?_append_right (by omega),hl,show sz+j - sz=j by omega]; exact hj)
      rwa [show o+(sz+j)=o+sz+j by omega] at this
/-- One element of many. -/
theorem Parts.split (ok:OwOk O sz) :∀{xs:List α} {cells:List Value} {ib:List Nat} {k:Nat} {x:α},Parts O w cells xs ib→xs[k]? = some x→
    ∃c1 cs c2 i1 b1 i2,cells=c1 ++ cs ++ c2∧c1.length=k * sz∧O w cs x b1∧ib=i1 ++ (b1 ++ i2)∧∀w' cs' x' b1',(∀b∈i1 ++ i2,w'.heap[b]? = w.heap[b]?)→O w' cs' x' b1'→Parts O w' (c1 ++ cs' ++ c2) (xs.set k x') (i1 ++ (b1' ++ i2))
  |[],_,_,_,_,_,h=>by simp at h
  |y :: ys,_,_,0,x,⟨cs,rest,b1,b2,e1,hO,e2,hr⟩,h=>by
    have:y=x:=by simpa using h
    subst this
    subst e1 e2
    exact ⟨[],cs,rest,[],b1,b2,by simp,by simp,hO,by simp,fun w' cs' x' b1' hb hO'=>⟨cs',rest,b1',b2,by simp,hO',by simp,Parts.keep ok (fun b h=>hb b (by simp [h])) hr⟩⟩
  |y :: ys,_,_,k+1,x,⟨cs,rest,b1,b2,e1,hO,e2,hr⟩,h=>by
    subst e1 e2
    obtain ⟨c1,cs2,c2,i1,b3,i2,f1,f2,f3,f4,f5⟩:=Parts.split ok hr (by simpa using h)
    subst f1 f4
    refine ⟨cs ++ c1,cs2,c2,b1 ++ i1,b3,i2,by simp,by rw [List.length_append,ok.len hO,f2,Nat.add_mul]; omega,f3,by simp,fun w' cs' x' b1' hb hO'=>?_⟩
    refine ⟨cs,_,b1,_,by simp [List.append_assoc],ok.keep (fun b h=>hb b (by simp [h])) hO,by simp [List.append_assoc],f5 w' cs' x' b1' (fun b h=>hb b (by simp at h ⊢; rcases h with h|h <;> simp [h])) hO'⟩
theorem OwN.keep (ok:OwOk O sz) (h:OwN e O sz w lo v xs bs) (hk :∀b∈bs,w'.heap[b]? = w.heap[b]?) (hs:w.heap.size≤w'.heap.size):OwN e O sz w' lo v xs bs:=by
  obtain ⟨cells,ib,h1,h2,h3,h4,h5,h6⟩:=h
  refine ⟨cells,ib,?_,h2.keep ok (fun b hb=>hk b (h4 b hb)),h3,h4,h5,fun b hb=>by have:=h6 b hb; omega⟩
  refine ⟨h1.1,?_⟩
  rcases h1.2 with h|⟨g,cap,cur,hv,hg,hh,r⟩
  · exact .inl h
  · exact .inr ⟨g,cap,cur,hv,hg,(hk g (h5 g (by rw [hv]; rfl)).1).trans hh,r⟩
theorem OwN.hi (h:OwN e O sz w lo v xs bs) :∀b∈bs,b < w.heap.size:=by obtain ⟨cells,ib,h1,h2,h3,h4,h5,h6⟩:=h; exact fun b hb=>(h6 b hb).2
theorem OwN.lo_ (h:OwN e O sz w lo v xs bs) :∀b∈bs,lo≤b:=by obtain ⟨cells,ib,h1,h2,h3,h4,h5,h6⟩:=h; exact fun b hb=>(h6 b hb).1
theorem OwN.row (h:OwN e O sz w lo v xs bs) {b:Nat} (hb:v.ownBlock=some b):b∈bs:=by obtain ⟨cells,ib,h1,h2,h3,h4,h5,h6⟩:=h; exact (h5 b hb).1
theorem OwN.below (ok:OwOk O sz) (h:OwN e O sz w lo v xs bs) (hb:Below w.heap.size w w'):OwN e O sz w' lo v xs bs:=h.keep ok (fun b hin=>hb.block b (h.hi b hin)) hb.size
theorem OwN.only {b:Nat} (ok:OwOk O sz) (h:OwN e O sz w lo v xs bs) (ho:Only [b] w w') (hn:b ∉ bs):OwN e O sz w' lo v xs bs:=h.keep ok (fun k hk=>ho.block k (by intro hin; simp at hin; subst hin; exact hn hk)) (Nat.le_of_eq ho.size.symm)
theorem OwN.grown {row:Option Nat} (ok:OwOk O sz) (h:OwN e O sz w lo v xs bs) (hg:w.grownBy w' row) (hn:Ap bs row.toList):OwN e O sz w' lo v xs bs:=h.keep ok (fun k hk=>hg.block k (h.hi k hk) (fun e=>hn k hk (by simp [← e]))) hg.size
theorem OwN.mono (h:OwN e O sz w lo v xs bs) (hl:lo'≤lo):OwN e O sz w lo' v xs bs:=by
  obtain ⟨cells,ib,h1,h2,h3,h4,h5,h6⟩:=h
  refine ⟨cells,ib,?_,h2,h3,h4,h5,fun b hb=>by have:=h6 b hb; omega⟩
  refine ⟨h1.1,?_⟩
  rcases h1.2 with h|⟨g,cap,cur,hv,hg,r⟩
  · exact .inl h
  · exact .inr ⟨g,cap,cur,hv,by omega,r⟩
theorem OwN.nil:OwN e O sz w lo (.slice none 0 0) ([] : List α) []:=⟨[],[],⟨by simp,.inl ⟨rfl,rfl⟩⟩,⟨rfl,rfl⟩,List.nodup_nil,fun b hb=>by simp at hb,fun b hb=>by simp [Value.ownBlock] at hb,fun b hb=>by simp at hb⟩
theorem OwN.form (h:OwN e O sz w lo v xs bs) :∃A c,v=.slice A xs.length c:=by
  obtain ⟨cells,ib,h1,_⟩:=h
  rcases h1.2 with ⟨rfl,h0⟩|⟨g,cap,cur,hv,_⟩
  · exact ⟨none,0,by rw [h0]⟩
  · exact ⟨_,_,hv⟩
theorem OwN.bound (h:OwN e O sz w lo v xs bs):xs.length≤9223372036854775807:=by
  obtain ⟨cells,ib,h1,_⟩:=h
  rcases h1.2 with ⟨_,h0⟩|⟨g,cap,cur,hv,hg,hh,h1,h2,_⟩
  · omega
  · unfold maxLen at h2; omega
theorem OwN.addr0 {A:Option Addr} {n c:Nat} (h:OwN e O sz w lo (.slice A n c) xs bs) (hn:0 < n) :∃b,A=some ⟨b,0,none⟩:=by
  obtain ⟨cells,ib,h1,_⟩:=h
  rcases h1.2 with ⟨h0,_⟩|⟨g,cap,cur,hv,_⟩
  · injection h0 with h1 h2; omega
  · injection hv with h1; exact ⟨g,h1⟩
theorem OwN.own1 (ok:OwOk O sz) (h:OwN e O sz w lo v xs bs) :∃A n c l,v=.slice A n c∧OwAt O sz w A n xs l∧l.Nodup∧(∀b∈l,b∈bs)∧n≤c∧c≤maxLen:=by
  obtain ⟨cells,ib,h1,h2,h3,h4,h5,h6⟩:=h
  rcases h1.2 with ⟨rfl,h0⟩|⟨g,cap,cur,rfl,hg,hh,k1,k2,k3,k4⟩
  · have:xs=[]:=List.eq_nil_of_length_eq_zero h0
    subst this
    exact ⟨none,0,0,[],rfl,⟨rfl,.inl ⟨rfl,rfl⟩⟩,List.nodup_nil,fun b hb=>by simp at hb,Nat.le_refl _,Nat.zero_le _⟩
  · obtain ⟨hg1,hg2⟩:=h5 g rfl
    refine ⟨some ⟨g,0,none⟩,_,cap,g :: ib,rfl,⟨rfl,.inr ⟨g,0,ib,rfl,rfl,?_⟩⟩,List.nodup_cons.2 ⟨hg2,h3⟩,fun b hb=>by
      rcases List.mem_cons.1 hb with rfl|hb
      · exact hg1
      · exact h4 b hb,k1,k2⟩
    refine h2.elAt (e:=e) ok (cur:=cur) hh 0 (fun j u hj=>?_)
    rw [← k4,List.getElem?_take] at hj
    split at hj
    · simpa using hj
    · cases hj
theorem OwN.own (ok:OwOk O sz) (h:OwN e O sz w lo v xs bs):OwS O sz w v xs lo w.heap.size:=by
  obtain ⟨A,n,c,l,e1,h1,h2,h3,r⟩:=h.own1 ok
  exact ⟨A,n,c,l,e1,h1,h2,fun b hb=>⟨h.lo_ b (h3 b hb),h.hi b (h3 b hb)⟩,r⟩
theorem OwN.rdS (ok:OwOk O sz) (hR:Gives O R w.heap.size) (h:OwN e O sz w lo v xs bs):RdS R sz w w.heap.size v xs:=(h.own ok).reads hR (Nat.le_refl _)
theorem OwN.arg (ok:OwOk O sz) (hR:Gives O R w.heap.size) (h:OwN e O sz w lo v xs bs):Sl R sz w v xs:=h.rdS ok hR
theorem OwN.sl {A:Option Addr} {n c:Nat} (ok:OwOk O sz) (hR:Gives O R w.heap.size) (h:OwN e O sz w lo (.slice A n c) xs bs):SlAt R sz w w.heap.size A n xs∧n≤c∧c≤maxLen:=by
  obtain ⟨A',n',c',he,h1,h2⟩:=h.rdS ok hR
  injection he with e1 e2 e3
  subst e1 e2 e3
  exact ⟨h1,h2⟩
/-- An element's cells. -/
theorem OwN.rd {b n c k:Nat} (ok:OwOk O sz) (hR:Gives O R w.heap.size) (h:OwN e O sz w lo (.slice (some ⟨b,0,none⟩) n c) xs bs) (hx:xs[k]? = some x) :∃cs,R w w.heap.size cs x∧∀j v,cs[j]? = some v→w.cell? ⟨b,0+k * sz+j,none⟩=some v:=(h.sl ok hR).1.el hx
theorem nodup2 {l1 l2 m1 m2:List Nat} (h1:l1.Nodup) (h2:l2.Nodup) (s1 :∀b∈l1,b∈m1) (s2 :∀b∈l2,b∈m2) (D:Ap m1 m2):(l1 ++ l2).Nodup:=List.nodup_append.2 ⟨h1,h2,fun a ha b hb e=>by subst e; exact D a (s1 a ha) (s2 a hb)⟩
theorem sub2 {l1 l2 m1 m2:List Nat} (s1 :∀b∈l1,b∈m1) (s2 :∀b∈l2,b∈m2) :∀b∈l1 ++ l2,b∈m1 ++ m2:=fun b hb=>by
  rcases List.mem_append.1 hb with h|h
  · simp [s1 b h]
  · simp [s2 b h]
theorem all2 {p:Nat→Prop} {l1 l2:List Nat} (s1 :∀b∈l1,p b) (s2 :∀b∈l2,p b) :∀b∈l1 ++ l2,p b:=fun b hb=>by
  rcases List.mem_append.1 hb with h|h
  · exact s1 b h
  · exact s2 b h
end
theorem ptSub {α:Type} {R:Rd α} {sz:Nat} {w w':World} {x:α} (ok:RdOk R sz) {b o:Nat} {pre cs post:List Value} (hb:b < w.heap.size) (hR:R w w.heap.size cs x) (hc :∀j v,(pre ++ cs ++ post)[j]? = some v→w.cell? ⟨b,o+j,none⟩=some v) (T:Below w.heap.size w w'):Pt R w' (.pointer (some ⟨b,o+pre.length,none⟩)) x:=
  ptArg ok hb hR (fun j v hj=>by
    have h:=hc (pre.length+j) v (by rw [List.append_assoc,List.getElem?_append_right (by omega),show pre.length+j - pre.length=j by omega,List.getElem?_append_left (lt_of_some hj)]; exact hj)
    rwa [← Nat.add_assoc] at h) T
theorem ret4 {P:Program} {f:Nat→Value} {w:World} {n:Nat} {fn:Func} {R:Ending→World→Prop} {t1 t2 t3 t4:Tmp} {v1 v2 v3 v4:Value} (hr:fn.results = #[.tmp t1,.tmp t2,.tmp t3,.tmp t4]) (ht:(Nat.blt t1 n && Nat.blt t2 n && Nat.blt t3 n && Nat.blt t4 n)=true) (hv1:f t1=v1) (hv2:f t2=v2) (hv3:f t3=v3) (hv4:f t4=v4) (h:R (.returned (.tuple #[v1,v2,v3,v4])) w):bodyPost P fn R .ret (Fr n f) w:=
  ⟨rfl,_,by
    simp only [Bool.and_eq_true] at ht
    have h1:t1 < n:=by simpa using ht.1.1.1
    have h2:t2 < n:=by simpa using ht.1.1.2
    have h3:t3 < n:=by simpa using ht.1.2
    have h4:t4 < n:=by simpa using ht.2
    simp only [results,hr]
    simp [Fr,h1,h2,h3,h4,hv1,hv2,hv3,hv4],h⟩
theorem setI_at {α:Type} {xs:List α} {i:Int} {k:Nat} {x:α} (hi:i=(k:Int)) (hk:k < xs.length):(setI xs i x)[k]? = some x:=by
  subst hi
  rw [setI_nat,List.getElem?_set_self hk]
section
variable {α : Type} {R : Rd α} {O : Ow α} {enc : α → List Value} {sz : Nat} {w w' : World} {lo lo' : Nat} {v : Value} {xs ys : List α} {e : TypeId}
theorem OwF.own2 {A:Option Addr} {n c:Nat} (F:FlatT R O enc sz) (h:OwF e enc sz w lo (.slice A n c) xs) :∃l,OwAt O sz w A n xs l∧l.Nodup∧(∀b∈l,b∈fb (.slice A n c))∧n≤c∧c≤maxLen:=by
  rcases h.2 with ⟨hv,h0⟩|⟨g,cap,cur,hv,hg,hh,h1,h2,h3,h4⟩
  · injection hv with e1 e2 e3
    subst e1 e2 e3
    have:xs=[]:=List.eq_nil_of_length_eq_zero h0
    subst this
    exact ⟨[],⟨rfl,.inl ⟨rfl,rfl⟩⟩,List.nodup_nil,fun b hb=>by simp at hb,Nat.le_refl _,Nat.zero_le _⟩
  · injection hv with e1 e2 e3
    subst e1 e2 e3
    obtain ⟨A',n',c',l,he,hA,hn,hl,hc1,hc2⟩:=h.own F
    injection he with e1 e2 e3
    subst e1 e2 e3
    by_cases hx:xs=[]
    · subst hx; exact ⟨[],⟨rfl,.inl ⟨rfl,rfl⟩⟩,List.nodup_nil,fun b hb=>by simp at hb,hc1,hc2⟩
    · rcases hA.2 with ⟨h5,_⟩|⟨b,o,b2,h5,h6,h7⟩
      · exact absurd h5 hx
      · injection h5 with h5
        injection h5 with h5
        subst h5
        have hflat :∀(l:List α) (o:Nat) (k:List Nat),ElAt O sz w g o l k→k=[]→True:=fun _ _ _ _ _=>trivial
        refine ⟨[g],⟨hA.1,.inr ⟨g,0,[],rfl,rfl,?_⟩⟩,by simp,fun b hb=>by simpa [fb,Value.ownBlock] using hb,hc1,hc2⟩
        have hblk:Blk w g e cur:=hh
        have key :∀(l:List α) (o:Nat),(∀j u,(l.flatMap enc)[j]? = some u→cur[o+j]? = some u)→ElAt O sz w g o l []:=by
          intro l
          induction l with
          |nil=>intro o _; rfl
          |cons x l ih=>
            intro o hl
            refine ⟨enc x,[],[],F.ow,hblk.csAt (fun j u hj=>hl j u ?_),rfl,ih (o+sz) (fun j u hj=>?_)⟩
            · simp only [List.flatMap_cons]
              rw [List.getElem?_append_left (lt_of_some hj)]; exact hj
            · have:=hl (sz+j) u (by
                simp only [List.flatMap_cons]
                rw [List.getElem?_append_right (by rw [F.len]; omega),F.len,show sz+j - sz=j by omega]; exact hj)
              rwa [show o+(sz+j)=o+sz+j by omega] at this
        refine key xs 0 (fun j u hj=>?_)
        rw [← h4,List.getElem?_take] at hj
        split at hj
        · simpa using hj
        · cases hj
theorem OwF.fhi (h:OwF e enc sz w lo v xs) :∀b∈fb v,b < w.heap.size:=fun b hb=>h.hi b (mem_fb.1 hb)
theorem OwF.flo (h:OwF e enc sz w lo v xs) :∀b∈fb v,lo≤b:=fun b hb=>h.lo_ b (mem_fb.1 hb)
theorem OwF.fboth (h:OwF e enc sz w lo v xs) {g:Nat} (hg:w.heap.size≤g) :∀b∈fb v,lo≤b∧b < g:=fun b hb=>⟨h.flo b hb,Nat.lt_of_lt_of_le (h.fhi b hb) hg⟩
theorem one_hi {g:Nat} (h:g < w.heap.size) :∀b∈[g],b < w.heap.size:=fun b hb=>by simp at hb; subst hb; exact h
variable {O' : Ow α} {bs : List Nat} {u : Value}
/-- Another slice of the call's own, while the row of v grows or is written. -/
theorem OwN.dj (h:OwN e O' sz w lo v xs bs) (A:Ap bs (fb u)):Dj u v:=fun b h1 h2=>A b (h.row h2) (mem_fb.2 h1)
theorem OwN.both (h:OwN e O' sz w lo v xs bs) {g:Nat} (hg:w.heap.size≤g) :∀b∈bs,lo≤b∧b < g:=fun b hb=>⟨h.lo_ b hb,Nat.lt_of_lt_of_le (h.hi b hb) hg⟩
end
end
section
open Go.RowKit
section
variable {P : Program} {C : World → Prop} {f : Nat → Value} {d : Option Tmp} {ty : TypeId} {pos : String} {af : Array Edge} {g : Option (Nat × Bool)} {x y : Operand} {t : TypeId} {A Av : Option Addr} {n c : Nat}
theorem Y.sliceL {l sz N:Nat} {k:IntKind} {j:Int} (hx:ev f x=.slice A N c) (hy:ev f y=.int k j) (hj:j=(l:Int)) (hl:l≤N) (ht:elemO P t=some sz) (eA:(if c=l then A else A.map (·.add (l * sz)))=Av) :
    Y P C f ⟨d,.slice t x (some y) none none,ty,pos,af,g⟩ (.slice Av (N - l) (c - l)):=fun w _=>by
  subst hj
  unfold elemO at ht
  split at ht
  · rename_i e hu
    cases hinf:P.info? e with
    |none=>rw [hinf] at ht; cases ht
    |some inf=>
      rw [hinf] at ht
      simp at ht
      subst ht
      have he:P.elem t=e:=by simp [Program.elem,hu]
      have hu':P.underlying t=some (.slice (P.elem t)):=by rw [he]; exact hu
      have:=run_slice_l (P:=P) (w:=w) t A N c hu' k (l:Int) (by omega) (by omega)
      simp [execOp,hx,hy,run_sliceAt_slice,hu',this,he,sizeOf,typeInfo,hinf,sliced,eA]
  · cases ht
end
end
section
open Go.RowKit
section
variable {α : Type} {R R' : Rd α} {O O' : Ow α} {sz : Nat} {w : World} {B n b : Nat} {A : Option Addr}
theorem SlAt.congr {xs:List α} (hc :∀y∈xs,∀cs,R w B cs y→R' w B cs y) (h:SlAt R sz w B A n xs):SlAt R' sz w B A n xs:=
  ⟨h.1,fun hn=>by
    obtain ⟨b,off,e,hb,hs⟩:=h.2 hn
    exact ⟨b,off,e,hb,fun i x hx=>by
      obtain ⟨cs,hR,hv⟩:=hs i x hx
      exact ⟨cs,hc x (List.mem_of_getElem? hx) cs hR,hv⟩⟩⟩
theorem ElAt.congr :∀{xs:List α} {o:Nat} {bs:List Nat},(∀y∈xs,∀cs bs,O w cs y bs→O' w cs y bs)→ElAt O sz w b o xs bs→ElAt O' sz w b o xs bs
  |[],_,_,_,h=>h
  |x :: xs,o,_,hc,⟨cs,b1,b2,hO,hcs,e,hr⟩=>⟨cs,b1,b2,hc x (by simp) cs b1 hO,hcs,e,ElAt.congr (fun y hy=>hc y (by simp [hy])) hr⟩
theorem OwAt.congr {xs:List α} {bs:List Nat} (hc :∀y∈xs,∀cs bs,O w cs y bs→O' w cs y bs) (h:OwAt O sz w A n xs bs):OwAt O' sz w A n xs bs:=by
  refine ⟨h.1,?_⟩
  rcases h.2 with h2|⟨b,o,b2,e,e2,h2⟩
  · exact .inl h2
  · exact .inr ⟨b,o,b2,e,e2,h2.congr hc⟩
end
structure DType where
  kind:Int
  name:ByteArray
  kids:List DType
instance:Inhabited DType:=⟨⟨0,ByteArray.empty,[]⟩⟩
theorem DType.kid_lt {x y:DType} (h:y∈x.kids):SizeOf.sizeOf y < SizeOf.sizeOf x:=by
  have h1:=List.sizeOf_lt_of_mem h
  obtain ⟨a0,a1,a2⟩:=x
  simp only [DType.mk.sizeOf_spec] at *
  omega
theorem DType.pos (x:DType):0 < SizeOf.sizeOf x:=by
  obtain ⟨a0,a1,a2⟩:=x
  simp only [DType.mk.sizeOf_spec]
  omega
structure DConstructor where
  name:ByteArray
  fields:List DType
instance:Inhabited DConstructor:=⟨⟨ByteArray.empty,[]⟩⟩
structure DData where
  name:ByteArray
  cons:List DConstructor
instance:Inhabited DData:=⟨⟨ByteArray.empty,[]⟩⟩
structure DSignature where
  datas:List DData
  defs:List DType
instance:Inhabited DSignature:=⟨⟨[],[]⟩⟩
structure DTypedNet where
  net:DNet
  types:List (List DType)
instance:Inhabited DTypedNet:=⟨⟨⟨[]⟩,[]⟩⟩
structure DCore where
  kind:Int
  value:Int
  data:List Int
  kids:List DCore
instance:Inhabited DCore:=⟨⟨0,0,[],[]⟩⟩
def coreRdN:Nat→Rd DCore
  |0=>fun _ _ _ _=>False
  |n+1=>fun w B cs x=>∃(A1:Option Addr) (n1 c1:Nat) (A2:Option Addr) (n2 c2:Nat),cs=[.int .i64 x.kind,.int .i64 x.value,.slice A1 n1 c1,.slice A2 n2 c2]∧(SlAt intRd 1 w B A1 n1 x.data∧n1≤c1∧c1≤maxLen)∧(SlAt (coreRdN n) 4 w B A2 n2 x.kids∧n2≤c2∧c2≤maxLen)
def coreRd:Rd DCore:=fun w B cs x=>coreRdN (SizeOf.sizeOf x) w B cs x
def coreOwN:Nat→Ow DCore
  |0=>fun _ _ _ _=>False
  |n+1=>fun w cs x bs=>∃(A1:Option Addr) (n1 c1:Nat) (A2:Option Addr) (n2 c2:Nat) (b1 b2:List Nat),cs=[.int .i64 x.kind,.int .i64 x.value,.slice A1 n1 c1,.slice A2 n2 c2]∧(OwAt intOw 1 w A1 n1 x.data b1∧n1≤c1∧c1≤maxLen)∧(OwAt (coreOwN n) 4 w A2 n2 x.kids b2∧n2≤c2∧c2≤maxLen)∧bs=b1 ++ b2
def coreOw:Ow DCore:=fun w cs x bs=>coreOwN (SizeOf.sizeOf x) w cs x bs
theorem DCore.kid_lt {x y:DCore} (h:y∈x.kids):SizeOf.sizeOf y < SizeOf.sizeOf x:=by
  have h1:=List.sizeOf_lt_of_mem h
  obtain ⟨a0,a1,a2,a3⟩:=x
  simp only [DCore.mk.sizeOf_spec] at *
  omega
theorem DCore.pos (x:DCore):0 < SizeOf.sizeOf x:=by
  obtain ⟨a0,a1,a2,a3⟩:=x
  simp only [DCore.mk.sizeOf_spec]
  omega
theorem coreRdN_same {w:World} {B:Nat} :∀(n m:Nat) (cs:List Value) (x:DCore),SizeOf.sizeOf x≤n→SizeOf.sizeOf x≤m→coreRdN n w B cs x→coreRdN m w B cs x
  |0,_,_,x,h,_,_=>by have:=x.pos; omega
  |_+1,0,_,x,_,h,_=>by have:=x.pos; omega
  |n+1,m+1,cs,x,h,h',⟨A1,n1,c1,A2,n2,c2,e,⟨h1,r1⟩,⟨h2,r2⟩⟩=>⟨A1,n1,c1,A2,n2,c2,e,⟨h1,r1⟩,⟨SlAt.congr (fun y hy cs hR=>coreRdN_same n m cs y (by have:=DCore.kid_lt hy; omega) (by have:=DCore.kid_lt hy; omega) hR) h2,r2⟩⟩
theorem coreOwN_same {w:World} :∀(n m:Nat) (cs:List Value) (x:DCore) (bs:List Nat),SizeOf.sizeOf x≤n→SizeOf.sizeOf x≤m→coreOwN n w cs x bs→coreOwN m w cs x bs
  |0,_,_,x,_,h,_,_=>by have:=x.pos; omega
  |_+1,0,_,x,_,_,h,_=>by have:=x.pos; omega
  |n+1,m+1,cs,x,bs,h,h',⟨A1,n1,c1,A2,n2,c2,b1,b2,e,⟨h1,r1⟩,⟨h2,r2⟩,eb⟩=>⟨A1,n1,c1,A2,n2,c2,b1,b2,e,⟨h1,r1⟩,⟨OwAt.congr (fun y hy cs bs hR=>coreOwN_same n m cs y bs (by have:=DCore.kid_lt hy; omega) (by have:=DCore.kid_lt hy; omega) hR) h2,r2⟩,eb⟩
section
variable {w : World} {B : Nat} {cs : List Value} {x : DCore} {bs : List Nat}
theorem coreRd_out (h:coreRd w B cs x) :∃(A1:Option Addr) (n1 c1:Nat) (A2:Option Addr) (n2 c2:Nat),cs=[.int .i64 x.kind,.int .i64 x.value,.slice A1 n1 c1,.slice A2 n2 c2]∧(SlAt intRd 1 w B A1 n1 x.data∧n1≤c1∧c1≤maxLen)∧(SlAt coreRd 4 w B A2 n2 x.kids∧n2≤c2∧c2≤maxLen):=by
  obtain ⟨A1,n1,c1,A2,n2,c2,e,⟨h1,r1⟩,⟨h2,r2⟩⟩:=coreRdN_same (SizeOf.sizeOf x) (SizeOf.sizeOf x+1) cs x (Nat.le_refl _) (Nat.le_succ _) h
  exact ⟨A1,n1,c1,A2,n2,c2,e,⟨h1,r1⟩,⟨SlAt.congr (fun y hy cs hR=>coreRdN_same _ _ cs y (Nat.le_of_lt (DCore.kid_lt hy)) (Nat.le_refl _) hR) h2,r2⟩⟩
theorem coreRd_in (h :∃(A1:Option Addr) (n1 c1:Nat) (A2:Option Addr) (n2 c2:Nat),cs=[.int .i64 x.kind,.int .i64 x.value,.slice A1 n1 c1,.slice A2 n2 c2]∧(SlAt intRd 1 w B A1 n1 x.data∧n1≤c1∧c1≤maxLen)∧(SlAt coreRd 4 w B A2 n2 x.kids∧n2≤c2∧c2≤maxLen)):coreRd w B cs x:=by
  obtain ⟨A1,n1,c1,A2,n2,c2,e,⟨h1,r1⟩,⟨h2,r2⟩⟩:=h
  have h:coreRdN (SizeOf.sizeOf x+1) w B cs x:=⟨A1,n1,c1,A2,n2,c2,e,⟨h1,r1⟩,⟨SlAt.congr (fun y hy cs hR=>coreRdN_same _ _ cs y (Nat.le_refl _) (Nat.le_of_lt (DCore.kid_lt hy)) hR) h2,r2⟩⟩
  exact coreRdN_same _ _ cs x (Nat.le_succ _) (Nat.le_refl _) h
theorem coreOw_out (h:coreOw w cs x bs) :∃(A1:Option Addr) (n1 c1:Nat) (A2:Option Addr) (n2 c2:Nat) (b1 b2:List Nat),cs=[.int .i64 x.kind,.int .i64 x.value,.slice A1 n1 c1,.slice A2 n2 c2]∧(OwAt intOw 1 w A1 n1 x.data b1∧n1≤c1∧c1≤maxLen)∧(OwAt coreOw 4 w A2 n2 x.kids b2∧n2≤c2∧c2≤maxLen)∧bs=b1 ++ b2:=by
  obtain ⟨A1,n1,c1,A2,n2,c2,b1,b2,e,⟨h1,r1⟩,⟨h2,r2⟩,eb⟩:=coreOwN_same (SizeOf.sizeOf x) (SizeOf.sizeOf x+1) cs x bs (Nat.le_refl _) (Nat.le_succ _) h
  exact ⟨A1,n1,c1,A2,n2,c2,b1,b2,e,⟨h1,r1⟩,⟨OwAt.congr (fun y hy cs bs hR=>coreOwN_same _ _ cs y bs (Nat.le_of_lt (DCore.kid_lt hy)) (Nat.le_refl _) hR) h2,r2⟩,eb⟩
theorem coreOw_in (h :∃(A1:Option Addr) (n1 c1:Nat) (A2:Option Addr) (n2 c2:Nat) (b1 b2:List Nat),cs=[.int .i64 x.kind,.int .i64 x.value,.slice A1 n1 c1,.slice A2 n2 c2]∧(OwAt intOw 1 w A1 n1 x.data b1∧n1≤c1∧c1≤maxLen)∧(OwAt coreOw 4 w A2 n2 x.kids b2∧n2≤c2∧c2≤maxLen)∧bs=b1 ++ b2):coreOw w cs x bs:=by
  obtain ⟨A1,n1,c1,A2,n2,c2,b1,b2,e,⟨h1,r1⟩,⟨h2,r2⟩,eb⟩:=h
  have h:coreOwN (SizeOf.sizeOf x+1) w cs x bs:=⟨A1,n1,c1,A2,n2,c2,b1,b2,e,⟨h1,r1⟩,⟨OwAt.congr (fun y hy cs bs hR=>coreOwN_same _ _ cs y bs (Nat.le_refl _) (Nat.le_of_lt (DCore.kid_lt hy)) hR) h2,r2⟩,eb⟩
  exact coreOwN_same _ _ cs x bs (Nat.le_succ _) (Nat.le_refl _) h
end
theorem coreRdN_ok :∀n,RdOk (coreRdN n) 4
  |0=>⟨fun h=>h.elim,fun _ h=>h.elim,fun _ h=>h.elim⟩
  | n + 1 => ⟨fun ⟨A1, n1, c1, A2, n2, c2, e, _⟩ => by rw [e]; rfl,
   fun hk ⟨A1,n1,c1,A2,n2,c2,e,⟨h1,r1⟩,⟨h2,r2⟩⟩=>⟨A1,n1,c1,A2,n2,c2,e,⟨h1.keep intRd_ok hk,r1⟩,⟨h2.keep (coreRdN_ok n) hk,r2⟩⟩,
   fun hB ⟨A1,n1,c1,A2,n2,c2,e,⟨h1,r1⟩,⟨h2,r2⟩⟩=>⟨A1,n1,c1,A2,n2,c2,e,⟨h1.more intRd_ok hB,r1⟩,⟨h2.more (coreRdN_ok n) hB,r2⟩⟩⟩
theorem coreRd_ok:RdOk coreRd 4:=⟨fun h=>(coreRdN_ok _).len h,fun hk h=>(coreRdN_ok _).keep hk h,fun hB h=>(coreRdN_ok _).more hB h⟩
theorem coreOwN_ok :∀n,OwOk (coreOwN n) 4
  |0=>⟨fun h=>h.elim,fun _ h=>h.elim⟩
  | n + 1 => ⟨fun ⟨A1, n1, c1, A2, n2, c2, b1, b2, e, _⟩ => by rw [e]; rfl,
   fun hb ⟨A1,n1,c1,A2,n2,c2,b1,b2,e,⟨h1,r1⟩,⟨h2,r2⟩,eb⟩=>⟨A1,n1,c1,A2,n2,c2,b1,b2,e,⟨h1.keep intOw_ok (fun k hk=>hb k (by rw [eb]; simp [hk])),r1⟩,⟨h2.keep (coreOwN_ok n) (fun k hk=>hb k (by rw [eb]; simp [hk])),r2⟩,eb⟩⟩
theorem coreOw_ok:OwOk coreOw 4:=⟨fun h=>(coreOwN_ok _).len h,fun hb h=>(coreOwN_ok _).keep hb h⟩
theorem coreOwN_reads (B:Nat) :∀n,Gives (coreOwN n) (coreRdN n) B
  |0=>fun _ _ _ _ h _=>h.elim
  |n+1=>fun _ _ _ _ ⟨A1,n1,c1,A2,n2,c2,b1,b2,e,⟨h1,r1⟩,⟨h2,r2⟩,eb⟩ hb=>⟨A1,n1,c1,A2,n2,c2,e,⟨h1.reads (intOw_reads B) (fun k hk=>hb k (by rw [eb]; simp [hk])),r1⟩,⟨h2.reads (coreOwN_reads B n) (fun k hk=>hb k (by rw [eb]; simp [hk])),r2⟩⟩
theorem coreOw_reads (B:Nat):Gives coreOw coreRd B:=fun w cs x bs h hb=>coreOwN_reads B _ w cs x bs h hb
theorem coreOw_one:OneC coreOw:=fun h u hu=>by
  obtain ⟨A1,n1,c1,A2,n2,c2,b1,b2,e,_⟩:=(coreOw_out h)
  rw [e] at hu
  simp at hu
  rcases hu with rfl|rfl|rfl|rfl <;> rfl
end
section
open Go.RowKit
mutual
def cntC:DCore→Nat
  |⟨_,_,d,ks⟩=>2+d.length+cntCL ks
def cntCL:List DCore→Nat
  |[]=>0
  |x :: xs=>cntC x+cntCL xs
end
mutual
def mkC (k:Nat):DCore→DCore
  |⟨_,_,d,ks⟩=>⟨(k:Int),((k+1:Nat):Int),marks (k+2) d.length,mkCL (k+2+d.length) ks⟩
def mkCL (k:Nat):List DCore→List DCore
  |[]=>[]
  |x :: xs=>mkC k x :: mkCL (k+cntC x) xs
end
theorem cntCL_eq :∀xs:List DCore,cntCL xs=cntL cntC xs
  |[]=>by rw [cntCL]; rfl
  |x :: xs=>by rw [cntCL,cntCL_eq xs,cntL_cons]
theorem cntC_eq (x:DCore):cntC x=2+x.data.length+cntL cntC x.kids:=by
  obtain ⟨a,b,c,d⟩:=x
  rw [cntC,cntCL_eq]
theorem mkCL_eq :∀(xs:List DCore) (k:Nat),mkCL k xs=mkL mkC cntC k xs
  |[],k=>by rw [mkCL,mkL]
  |x :: xs,k=>by rw [mkCL,mkCL_eq xs,mkL]
theorem mkC_eq (k:Nat) (x:DCore):mkC k x=⟨(k:Int),((k+1:Nat):Int),marks (k+2) x.data.length,mkL mkC cntC (k+2+x.data.length) x.kids⟩:=by
  obtain ⟨a,b,c,d⟩:=x
  rw [mkC,mkCL_eq]
theorem cntC_two (x:DCore):2≤cntC x:=by rw [cntC_eq]; omega
theorem cntCL_len :∀xs:List DCore,2 * xs.length≤cntL cntC xs
  |[]=>by simp [cntL]
  |x :: xs=>by
    have:=cntCL_len xs
    have:=cntC_two x
    rw [cntL_cons,List.length_cons]; omega
theorem cntC_mem {xs:List DCore} {k:Nat} {x:DCore} (h:xs[k]? = some x):cntC x≤cntL cntC xs:=by
  have h1:=cntL_take (cnt:=cntC) h
  have h2:=cntL_le (cnt:=cntC) xs (k+1)
  omega
theorem sizeC_lt {xs:List DCore} {k:Nat} {x:DCore} (h:xs[k]? = some x):SizeOf.sizeOf x.kids < SizeOf.sizeOf xs:=by
  have h1:=List.sizeOf_lt_of_mem (List.mem_of_getElem? h)
  have h2:SizeOf.sizeOf x.kids < SizeOf.sizeOf x:=by
    obtain ⟨a,b,c,d⟩:=x
    simp only [DCore.mk.sizeOf_spec]
    omega
  omega
def markCS (k:Nat) (xs:List DCore):List DCore:=mkL mkC cntC k xs
theorem set2_block {w:World} {b p j:Nat} {u0 u1:Value} (h:j ≠ b):((w.setCell ⟨b,p,none⟩ u0).setCell ⟨b,p+1,none⟩ u1).heap[j]? = w.heap[j]?:=by
  rw [Below.heap_setCell _ ⟨b,p+1,none⟩ _ _ h,Below.heap_setCell _ ⟨b,p,none⟩ _ _ h]
theorem set2_cell {w:World} {b p q:Nat} {u0 u1:Value} (h:p+2≤q):((w.setCell ⟨b,p,none⟩ u0).setCell ⟨b,p+1,none⟩ u1).cell? ⟨b,q,none⟩=w.cell? ⟨b,q,none⟩:=by
  rw [World.cell?_setCell_other _ _ _ _ (fun e=>by injection e with _ e2; omega),World.cell?_setCell_other _ _ _ _ (fun e=>by injection e with _ e2; omega)]
set_option maxHeartbeats 4000000 in
theorem markCoreS_q :∀(N:Nat) (A:Option Addr) (n c k0:Nat) (xs:List DCore) (bs:List Nat) (w:World) (hN:SizeOf.sizeOf xs≤N) (hx:OwAt coreOw 4 w A n xs bs) (hnd:bs.Nodup) (hs:cntL cntC xs≤4194304) (hk0:k0+cntL cntC xs≤4294967296),
    Calls Tryz.prog 69 #[.slice A n c,.int .i64 k0] w fun e w'=>e=.returned (.int .i64 ((k0+cntL cntC xs:Nat):Int))∧OwAt coreOw 4 w' A n (markCS k0 xs) bs∧Only bs w w':=by
  intro N
  induction N with
  |zero=>
    intro A n c k0 xs bs w hN
    exact absurd hN (by cases xs <;> simp <;> omega)
  |succ N ihN=>
  intro A n c k0 xs bs w hN hx hnd hs hk0
  have IH:=Lib.hid ihN
  clear ihN
  have lx:=Lib.hid hx.len
  have hcl:=cntCL_len xs
  have hn:n≤4194304:=by have:=lx.out; omega
  have hmid:=Lib.hid hx.mid
  clear hx
  go_enter Tryz.func69,Tryz.ntmps69
  go_wp2_with fail
  go_loopw [1,5] (fun kk i wr=>∃k:Nat,k≤n∧i=.int .i64 k∧kk=.int .i64 ((k0:Int)+(cntL cntC (xs.take k):Nat))∧Only bs w wr∧Hid (MidAt coreOw 4 wr A (markCS k0 (xs.take k)) (xs.drop k) bs)) (fun _ i _=>n - (intOf i).toNat)
  case atStart=>exact ⟨0,by omega,rfl,by simp [cntL],Only.refl _ _,hmid.out⟩
  case round=>
    obtain ⟨k,hk,rfl,rfl,ho,hm⟩:=hrel
    by_cases hlt:k < n
    · obtain ⟨x,hxk⟩ :∃x,xs[k]? = some x:=⟨_,List.getElem?_eq_getElem (by have:=lx.out; omega)⟩
      have hm:=hm.out
      rw [drop_some hxk] at hm
      obtain ⟨b,o,cs,b1,bx,b3,rfl,hbs,hO,hc,h1,h2⟩:=hm.next
      have hlen:(markCS k0 (xs.take k)).length=k:=by unfold markCS; rw [mkL_len,List.length_take]; have:=lx.out; omega
      rw [hlen] at hc h2
      obtain ⟨A1,n1,c1,A2,n2,c2,bd,bp,rfl,⟨hd,rd⟩,⟨hp,rp⟩,rfl⟩:=coreOw_out hO
      obtain ⟨hc0,hd0⟩:=hc 0 _ rfl
      obtain ⟨hc1,hd1⟩:=hc 1 _ rfl
      obtain ⟨hc2,hd2⟩:=hc 2 _ rfl
      obtain ⟨hc3,hd3⟩:=hc 3 _ rfl
      rw [Nat.add_zero] at hc0 hd0
      have hsm:=cntC_mem hxk
      have hsz:=sizeC_lt hxk
      have hct:=cntL_take (cnt:=cntC) hxk
      have hcx:cntC x=2+x.data.length+cntL cntC x.kids:=cntC_eq x
      have hcm:=cntL_le (cnt:=cntC) xs (k+1)
      have hck:=cntL_le (cnt:=cntC) xs k
      have hnd':=hnd
      rw [hbs] at hnd'
      have nb:b ∉ b1∧(b ∉ bd∧b ∉ bp)∧b ∉ b3:=by have:=(List.nodup_cons.1 hnd').1; simp only [List.mem_append,not_or] at this; exact this
      have hn1:=List.nodup_append.1 (List.nodup_cons.1 hnd').2
      have hn2':=List.nodup_append.1 hn1.2.1
      have hn3:=List.nodup_append.1 hn2'.1
      have ld:=Lib.hid hd.len
      have lp:=Lib.hid hp.len
      have T0 :∀(u0 u1:Value),Touch b (o+k * 4) 4 (bd ++ bp) wr ((wr.setCell ⟨b,o+k * 4,none⟩ u0).setCell ⟨b,o+k * 4+1,none⟩ u1):=fun u0 u1=>
        (Touch.refl.set (by omega) (by omega) _).set (by omega) (by omega) _
      have S0 :∀(u0 u1:Value),CsAt ((wr.setCell ⟨b,o+k * 4,none⟩ u0).setCell ⟨b,o+k * 4+1,none⟩ u1) b (o+k * 4) [u0,u1]:=fun u0 u1=>
        setRun_csAt (w:=wr) (vs:=[u0,u1]) (fun j hj=>by
          rcases j with _|_|j
          · exact ⟨_,hc0⟩
          · exact ⟨_,hc1⟩
          · simp only [List.length_cons,List.length_nil] at hj; omega) (fun j hj=>by
          rcases j with _|_|j
          · exact hd0
          · exact hd1
          · simp only [List.length_cons,List.length_nil] at hj; omega)
      have HE:=Lib.hid h2
      have HF:=Lib.hid h1
      have HD:=Lib.hid hd
      have HP:=Lib.hid hp
      have HX:=Lib.hid hxk
      have HT:=Lib.hid T0
      have HS:=Lib.hid S0
      have HI:=Lib.hid hbs
      have N0:=Lib.hid hn1
      have N1:=Lib.hid hn2'
      have N2:=Lib.hid hn3
      have NB:=Lib.hid nb
      have HL:=Lib.hid hct
      have HLN:=Lib.hid hlen
      have HSZ:=Lib.hid hsz
      clear h2 h1 hd hp hxk T0 S0 hbs hn1 hn2' hn3 nb hc hct hlen hnd' hm hO hsz
      go_wp2_with fail
      have T3:=HT.out (.int .i64 ((k0:Int)+(cntL cntC (xs.take k):Nat))) (.int .i64 ((k0:Int)+(cntL cntC (xs.take k):Nat)+1))
      have S3:=HS.out (.int .i64 ((k0:Int)+(cntL cntC (xs.take k):Nat))) (.int .i64 ((k0:Int)+(cntL cntC (xs.take k):Nat)+1))
      rw [show (k0:Int)+(cntL cntC (xs.take k):Nat)+1+1=((k0+cntL cntC (xs.take k)+2:Nat):Int) from by omega]
      have OD:OwAt intOw 1 ((wr.setCell ⟨b,o+k * 4,none⟩ (.int .i64 ((k0:Int)+(cntL cntC (xs.take k):Nat)))).setCell ⟨b,o+k * 4+1,none⟩ (.int .i64 ((k0:Int)+(cntL cntC (xs.take k):Nat)+1))) A1 n1 x.data bd:=
        HD.out.keep intOw_ok (fun j hj=>set2_block (fun e=>NB.out.2.1.1 (by rw [← e]; exact hj)))
      refine (markInt64S_c A1 n1 c1 (k0+cntL cntC (xs.take k)+2) x.data bd _ OD N2.out.1 (by have:=ld.out; omega) (by omega)).mono ?_
      rintro e w4 ⟨rfl,md,o4⟩
      have hc3':w4.cell? ⟨b,o+k * 4+3,none⟩=some (.slice A2 n2 c2):=((World.cell?_of_block (a:=⟨b,o+k * 4+3,none⟩) (o4.block b NB.out.2.1.1)).trans (set2_cell (by omega))).trans hc3
      have MD:=Lib.hid md
      clear md
      go_wp2_with fail
      rw [show (k0:Int)+(cntL cntC (xs.take k):Nat)+2+(n1:Nat)=((k0+cntL cntC (xs.take k)+2+n1:Nat):Int) from by omega]
      have OP:OwAt coreOw 4 w4 A2 n2 x.kids bp:=HP.out.keep coreOw_ok (fun j hj=>(o4.block j (fun hjd=>N2.out.2.2 j hjd j hj rfl)).trans (set2_block (fun e=>NB.out.2.1.2 (by rw [← e]; exact hj))))
      refine (IH.out A2 n2 c2 _ x.kids bp w4 (by have:=HSZ.out; omega) OP N2.out.2.1 (by omega) (by have:=ld.out; have:=HL.out; omega)).mono ?_
      rintro e w5 ⟨rfl,mp,o5⟩
      have MP:=Lib.hid mp
      clear mp
      go_wp2_with fail
      go_roundw
      case rel=>
        have e1:=ld.out
        have e2:=lp.out
        have e3:=HL.out
        have OO:Only (b :: (bd ++ bp)) wr w5:=(T3.only_.trans (o4.mono (fun j hj=>by simp [hj]))).trans (o5.mono (fun j hj=>by simp [hj]))
        have hcell :∀q,w5.cell? ⟨b,q,none⟩=((wr.setCell ⟨b,o+k * 4,none⟩ (.int .i64 ((k0:Int)+(cntL cntC (xs.take k):Nat)))).setCell ⟨b,o+k * 4+1,none⟩ (.int .i64 ((k0:Int)+(cntL cntC (xs.take k):Nat)+1))).cell? ⟨b,q,none⟩:=fun q=>
          (World.cell?_of_block (a:=⟨b,q,none⟩) (o5.block b NB.out.2.1.2)).trans (World.cell?_of_block (a:=⟨b,q,none⟩) (o4.block b NB.out.2.1.1))
        have hfroz :∀q,w5.frozen? ⟨b,q,none⟩=((wr.setCell ⟨b,o+k * 4,none⟩ (.int .i64 ((k0:Int)+(cntL cntC (xs.take k):Nat)))).setCell ⟨b,o+k * 4+1,none⟩ (.int .i64 ((k0:Int)+(cntL cntC (xs.take k):Nat)+1))).frozen? ⟨b,q,none⟩:=fun q=>
          (World.frozen?_of_block (a:=⟨b,q,none⟩) (o5.block b NB.out.2.1.2)).trans (World.frozen?_of_block (a:=⟨b,q,none⟩) (o4.block b NB.out.2.1.1))
        refine ⟨k+1,by omega,by go_num,congrArg (Value.int .i64) (by omega),ho.trans (OO.mono (fun j hj=>?_)),?_⟩
        · rw [HI.out]; simp only [List.mem_cons,List.mem_append] at hj ⊢
          rcases hj with hj|hj
          · exact .inl hj
          · exact .inr (.inr (.inl hj))
        · show Hid _
          refine ?_
          unfold markCS
          rw [mkL_take HX.out,HI.out]
          have hl:=HLN.out
          unfold markCS at hl
          refine MidAt.step (o:=o) (cs:=[.int .i64 ((k0:Int)+(cntL cntC (xs.take k):Nat)),.int .i64 ((k0:Int)+(cntL cntC (xs.take k):Nat)+1),.slice A1 n1 c1,.slice A2 n2 c2]) rfl ?_ ?_ ?_ ?_
          · refine ElAt.keepC coreOw_ok (w:=wr) (fun q h1 h2=>?_) (fun j hj=>?_) HF.out
            · unfold markCS at h2
              rw [hl] at h2
              exact ⟨(hcell q).trans (T3.cell q (.inl (by omega))),(hfroz q).trans (T3.frozen q)⟩
            · exact OO.block j (fun hin=>by
                rcases List.mem_cons.1 hin with rfl|hin
                · exact NB.out.1 hj
                · exact N0.out.2.2 j hj j (by simp only [List.mem_append] at hin ⊢; exact .inl hin) rfl)
          · refine coreOw_in ⟨A1,n1,c1,A2,n2,c2,bd,bp,?_,⟨?_,rd⟩,⟨?_,rp⟩,rfl⟩
            · rw [mkC_eq]
              simp only
              rw [show ((k0+cntL cntC (xs.take k):Nat):Int)=(k0:Int)+(cntL cntC (xs.take k):Nat) from by omega,show ((k0+cntL cntC (xs.take k)+1:Nat):Int)=(k0:Int)+(cntL cntC (xs.take k):Nat)+1 from by omega]
            · have:=MD.out.keep intOw_ok (w':=w5) (fun j hj=>o5.block j (fun hin=>N2.out.2.2 j hj j hin rfl))
              rw [mkC_eq]
              simp only; rw [← e1]; exact this
            · have:=MP.out
              rw [mkC_eq]
              simp only; rw [← e1]; exact this
          · rw [hl]
            intro j v hj
            rw [hcell,hfroz]
            rcases j with _|_|_|_|j
            · exact S3 0 v hj
            · exact S3 1 v hj
            · simp at hj; subst hj
              exact ⟨(set2_cell (by omega)).trans hc2,(T3.frozen _).trans hd2⟩
            · simp at hj; subst hj
              exact ⟨(set2_cell (by omega)).trans hc3,(T3.frozen _).trans hd3⟩
            · simp at hj
          · rw [hl]
            refine ElAt.keepC coreOw_ok (w:=wr) (fun q h1 h2=>?_) (fun j hj=>?_) HE.out
            · exact ⟨(hcell q).trans (T3.cell q (.inr (by omega))),(hfroz q).trans (T3.frozen q)⟩
            · exact OO.block j (fun hin=>by
                rcases List.mem_cons.1 hin with rfl|hin
                · exact NB.out.2.2 hj
                · exact N1.out.2.2 j hin j hj rfl)
      case measure=>simp [intOf]; omega
    · obtain rfl:n=k:=by omega
      have hlast:xs.take n=xs:=List.take_of_length_le (by have:=lx.out; omega)
      have hdl:xs.drop n=[]:=List.drop_eq_nil_of_le (by have:=lx.out; omega)
      have hm:=hm.out
      rw [hlast,hdl] at hm
      rw [hlast]
      have HM:=Lib.hid (hm.whole (by unfold markCS; rw [mkL_len]; first|done|exact lx.out))
      clear hlast hdl hm
      go_wp2_with fail
      go_ret
      exact ⟨retI (by omega),by rw [lx.out]; first|exact HM.out|(have h:=HM.out; rw [lx.out] at h; exact h),ho⟩
end
section
open Go.RowKit
structure DBook where
  defs:List DCore
instance:Inhabited DBook:=⟨⟨[]⟩⟩
def bookRd:Rd DBook:=fun w B cs x=>∃(A1:Option Addr) (n1 c1:Nat),cs=[.slice A1 n1 c1]∧(SlAt coreRd 4 w B A1 n1 x.defs∧n1≤c1∧c1≤maxLen)
def bookOw:Ow DBook:=fun w cs x bs=>∃(A1:Option Addr) (n1 c1:Nat) (b1:List Nat),cs=[.slice A1 n1 c1]∧(OwAt coreOw 4 w A1 n1 x.defs b1∧n1≤c1∧c1≤maxLen)∧bs=b1
theorem bookRd_ok:RdOk bookRd 1:=
  ⟨fun h => by obtain ⟨A1, n1, c1, e, _⟩ := h; rw [e]; rfl,
   fun hk h=>by obtain ⟨A1,n1,c1,e,⟨h1,r1⟩⟩:=h; exact  ⟨A1,n1,c1,e,⟨h1.keep coreRd_ok hk,r1⟩⟩,
   fun hB h=>by obtain ⟨A1,n1,c1,e,⟨h1,r1⟩⟩:=h; exact  ⟨A1,n1,c1,e,⟨h1.more coreRd_ok hB,r1⟩⟩⟩
theorem bookOw_ok:OwOk bookOw 1:=
  ⟨fun h => by obtain ⟨A1, n1, c1, b1, e, _⟩ := h; rw [e]; rfl,
   fun hb h=>by obtain ⟨A1,n1,c1,b1,e,⟨h1,r1⟩,eb⟩:=h; exact  ⟨A1,n1,c1,b1,e,⟨h1.keep coreOw_ok (fun k hk=>hb k (by rw [eb]; simp [hk])),r1⟩,eb⟩⟩
theorem bookOw_reads (B:Nat):Gives bookOw bookRd B:=fun _ _ _ _ h hb=>by
  obtain ⟨A1,n1,c1,b1,e,⟨h1,r1⟩,eb⟩:=h
  exact  ⟨A1,n1,c1,e,⟨h1.reads (coreOw_reads B) (fun k hk=>hb k (by rw [eb]; simp [hk])),r1⟩⟩
structure DClosure where
  term:DCore
  env:List Int
instance:Inhabited DClosure:=⟨⟨default,[]⟩⟩
def closureRd:Rd DClosure:=fun w B cs x=>∃(A1:Option Addr) (n1 c1:Nat) (A2:Option Addr) (n2 c2:Nat) (A3:Option Addr) (n3 c3:Nat),cs=[.int .i64 x.term.kind,.int .i64 x.term.value,.slice A1 n1 c1,.slice A2 n2 c2,.slice A3 n3 c3]∧(SlAt intRd 1 w B A1 n1 x.term.data∧n1≤c1∧c1≤maxLen)∧(SlAt coreRd 4 w B A2 n2 x.term.kids∧n2≤c2∧c2≤maxLen)∧(SlAt intRd 1 w B A3 n3 x.env∧n3≤c3∧c3≤maxLen)
theorem closureRd_ok:RdOk closureRd 5:=
  ⟨fun h => by obtain ⟨A1, n1, c1, A2, n2, c2, A3, n3, c3, e, _⟩ := h; rw [e]; rfl,
   fun hk h=>by obtain ⟨A1,n1,c1,A2,n2,c2,A3,n3,c3,e,⟨h1,r1⟩,⟨h2,r2⟩,⟨h3,r3⟩⟩:=h; exact  ⟨A1,n1,c1,A2,n2,c2,A3,n3,c3,e,⟨h1.keep intRd_ok hk,r1⟩,⟨h2.keep coreRd_ok hk,r2⟩,⟨h3.keep intRd_ok hk,r3⟩⟩,
   fun hB h=>by obtain ⟨A1,n1,c1,A2,n2,c2,A3,n3,c3,e,⟨h1,r1⟩,⟨h2,r2⟩,⟨h3,r3⟩⟩:=h; exact  ⟨A1,n1,c1,A2,n2,c2,A3,n3,c3,e,⟨h1.more intRd_ok hB,r1⟩,⟨h2.more coreRd_ok hB,r2⟩,⟨h3.more intRd_ok hB,r3⟩⟩⟩
structure DThunk where
  done:Bool
  closure:DClosure
instance:Inhabited DThunk:=⟨⟨false,default⟩⟩
def thunkRd:Rd DThunk:=fun w B cs x=>∃(A1:Option Addr) (n1 c1:Nat) (A2:Option Addr) (n2 c2:Nat) (A3:Option Addr) (n3 c3:Nat),cs=[.bool x.done,.int .i64 x.closure.term.kind,.int .i64 x.closure.term.value,.slice A1 n1 c1,.slice A2 n2 c2,.slice A3 n3 c3]∧(SlAt intRd 1 w B A1 n1 x.closure.term.data∧n1≤c1∧c1≤maxLen)∧(SlAt coreRd 4 w B A2 n2 x.closure.term.kids∧n2≤c2∧c2≤maxLen)∧(SlAt intRd 1 w B A3 n3 x.closure.env∧n3≤c3∧c3≤maxLen)
def thunkOw:Ow DThunk:=fun w cs x bs=>∃(A1:Option Addr) (n1 c1:Nat) (A2:Option Addr) (n2 c2:Nat) (A3:Option Addr) (n3 c3:Nat) (b1 b2 b3:List Nat),cs=[.bool x.done,.int .i64 x.closure.term.kind,.int .i64 x.closure.term.value,.slice A1 n1 c1,.slice A2 n2 c2,.slice A3 n3 c3]∧(OwAt intOw 1 w A1 n1 x.closure.term.data b1∧n1≤c1∧c1≤maxLen)∧(OwAt coreOw 4 w A2 n2 x.closure.term.kids b2∧n2≤c2∧c2≤maxLen)∧(OwAt intOw 1 w A3 n3 x.closure.env b3∧n3≤c3∧c3≤maxLen)∧bs=b1 ++ b2 ++ b3
theorem thunkRd_ok:RdOk thunkRd 6:=
  ⟨fun h => by obtain ⟨A1, n1, c1, A2, n2, c2, A3, n3, c3, e, _⟩ := h; rw [e]; rfl,
   fun hk h=>by obtain ⟨A1,n1,c1,A2,n2,c2,A3,n3,c3,e,⟨h1,r1⟩,⟨h2,r2⟩,⟨h3,r3⟩⟩:=h; exact  ⟨A1,n1,c1,A2,n2,c2,A3,n3,c3,e,⟨h1.keep intRd_ok hk,r1⟩,⟨h2.keep coreRd_ok hk,r2⟩,⟨h3.keep intRd_ok hk,r3⟩⟩,
   fun hB h=>by obtain ⟨A1,n1,c1,A2,n2,c2,A3,n3,c3,e,⟨h1,r1⟩,⟨h2,r2⟩,⟨h3,r3⟩⟩:=h; exact  ⟨A1,n1,c1,A2,n2,c2,A3,n3,c3,e,⟨h1.more intRd_ok hB,r1⟩,⟨h2.more coreRd_ok hB,r2⟩,⟨h3.more intRd_ok hB,r3⟩⟩⟩
theorem thunkOw_ok:OwOk thunkOw 6:=
  ⟨fun h => by obtain ⟨A1, n1, c1, A2, n2, c2, A3, n3, c3, b1, b2, b3, e, _⟩ := h; rw [e]; rfl,
   fun hb h=>by obtain ⟨A1,n1,c1,A2,n2,c2,A3,n3,c3,b1,b2,b3,e,⟨h1,r1⟩,⟨h2,r2⟩,⟨h3,r3⟩,eb⟩:=h; exact  ⟨A1,n1,c1,A2,n2,c2,A3,n3,c3,b1,b2,b3,e,⟨h1.keep intOw_ok (fun k hk=>hb k (by rw [eb]; simp [hk])),r1⟩,⟨h2.keep coreOw_ok (fun k hk=>hb k (by rw [eb]; simp [hk])),r2⟩,⟨h3.keep intOw_ok (fun k hk=>hb k (by rw [eb]; simp [hk])),r3⟩,eb⟩⟩
theorem thunkOw_reads (B:Nat):Gives thunkOw thunkRd B:=fun _ _ _ _ h hb=>by
  obtain ⟨A1,n1,c1,A2,n2,c2,A3,n3,c3,b1,b2,b3,e,⟨h1,r1⟩,⟨h2,r2⟩,⟨h3,r3⟩,eb⟩:=h
  exact  ⟨A1,n1,c1,A2,n2,c2,A3,n3,c3,e,⟨h1.reads (intOw_reads B) (fun k hk=>hb k (by rw [eb]; simp [hk])),r1⟩,⟨h2.reads (coreOw_reads B) (fun k hk=>hb k (by rw [eb]; simp [hk])),r2⟩,⟨h3.reads (intOw_reads B) (fun k hk=>hb k (by rw [eb]; simp [hk])),r3⟩⟩
theorem thunkOw_one:OneC thunkOw:=fun h u hu=>by
  obtain ⟨A1,n1,c1,A2,n2,c2,A3,n3,c3,b1,b2,b3,e,_⟩:=h
  rw [e] at hu
  simp at hu
  rcases hu with rfl|rfl|rfl|rfl|rfl|rfl <;> rfl
structure DFrame where
  kind:Int
  value:Int
  data:List Int
  closure:DClosure
instance:Inhabited DFrame:=⟨⟨0,0,[],default⟩⟩
def frameRd:Rd DFrame:=fun w B cs x=>∃(A1:Option Addr) (n1 c1:Nat) (A2:Option Addr) (n2 c2:Nat) (A3:Option Addr) (n3 c3:Nat) (A4:Option Addr) (n4 c4:Nat),cs=[.int .i64 x.kind,.int .i64 x.value,.slice A1 n1 c1,.int .i64 x.closure.term.kind,.int .i64 x.closure.term.value,.slice A2 n2 c2,.slice A3 n3 c3,.slice A4 n4 c4]∧(SlAt intRd 1 w B A1 n1 x.data∧n1≤c1∧c1≤maxLen)∧(SlAt intRd 1 w B A2 n2 x.closure.term.data∧n2≤c2∧c2≤maxLen)∧(SlAt coreRd 4 w B A3 n3 x.closure.term.kids∧n3≤c3∧c3≤maxLen)∧(SlAt intRd 1 w B A4 n4 x.closure.env∧n4≤c4∧c4≤maxLen)
def frameOw:Ow DFrame:=fun w cs x bs=>∃(A1:Option Addr) (n1 c1:Nat) (A2:Option Addr) (n2 c2:Nat) (A3:Option Addr) (n3 c3:Nat) (A4:Option Addr) (n4 c4:Nat) (b1 b2 b3 b4:List Nat),cs=[.int .i64 x.kind,.int .i64 x.value,.slice A1 n1 c1,.int .i64 x.closure.term.kind,.int .i64 x.closure.term.value,.slice A2 n2 c2,.slice A3 n3 c3,.slice A4 n4 c4]∧(OwAt intOw 1 w A1 n1 x.data b1∧n1≤c1∧c1≤maxLen)∧(OwAt intOw 1 w A2 n2 x.closure.term.data b2∧n2≤c2∧c2≤maxLen)∧(OwAt coreOw 4 w A3 n3 x.closure.term.kids b3∧n3≤c3∧c3≤maxLen)∧(OwAt intOw 1 w A4 n4 x.closure.env b4∧n4≤c4∧c4≤maxLen)∧bs=b1 ++ b2 ++ b3 ++ b4
theorem frameRd_ok:RdOk frameRd 8:=
  ⟨fun h => by obtain ⟨A1, n1, c1, A2, n2, c2, A3, n3, c3, A4, n4, c4, e, _⟩ := h; rw [e]; rfl,
   fun hk h=>by obtain ⟨A1,n1,c1,A2,n2,c2,A3,n3,c3,A4,n4,c4,e,⟨h1,r1⟩,⟨h2,r2⟩,⟨h3,r3⟩,⟨h4,r4⟩⟩:=h; exact  ⟨A1,n1,c1,A2,n2,c2,A3,n3,c3,A4,n4,c4,e,⟨h1.keep intRd_ok hk,r1⟩,⟨h2.keep intRd_ok hk,r2⟩,⟨h3.keep coreRd_ok hk,r3⟩,⟨h4.keep intRd_ok hk,r4⟩⟩,
   fun hB h=>by obtain ⟨A1,n1,c1,A2,n2,c2,A3,n3,c3,A4,n4,c4,e,⟨h1,r1⟩,⟨h2,r2⟩,⟨h3,r3⟩,⟨h4,r4⟩⟩:=h; exact  ⟨A1,n1,c1,A2,n2,c2,A3,n3,c3,A4,n4,c4,e,⟨h1.more intRd_ok hB,r1⟩,⟨h2.more intRd_ok hB,r2⟩,⟨h3.more coreRd_ok hB,r3⟩,⟨h4.more intRd_ok hB,r4⟩⟩⟩
theorem frameOw_ok:OwOk frameOw 8:=
  ⟨fun h => by obtain ⟨A1, n1, c1, A2, n2, c2, A3, n3, c3, A4, n4, c4, b1, b2, b3, b4, e, _⟩ := h; rw [e]; rfl,
   fun hb h=>by obtain ⟨A1,n1,c1,A2,n2,c2,A3,n3,c3,A4,n4,c4,b1,b2,b3,b4,e,⟨h1,r1⟩,⟨h2,r2⟩,⟨h3,r3⟩,⟨h4,r4⟩,eb⟩:=h; exact  ⟨A1,n1,c1,A2,n2,c2,A3,n3,c3,A4,n4,c4,b1,b2,b3,b4,e,⟨h1.keep intOw_ok (fun k hk=>hb k (by rw [eb]; simp [hk])),r1⟩,⟨h2.keep intOw_ok (fun k hk=>hb k (by rw [eb]; simp [hk])),r2⟩,⟨h3.keep coreOw_ok (fun k hk=>hb k (by rw [eb]; simp [hk])),r3⟩,⟨h4.keep intOw_ok (fun k hk=>hb k (by rw [eb]; simp [hk])),r4⟩,eb⟩⟩
theorem frameOw_reads (B:Nat):Gives frameOw frameRd B:=fun _ _ _ _ h hb=>by
  obtain ⟨A1,n1,c1,A2,n2,c2,A3,n3,c3,A4,n4,c4,b1,b2,b3,b4,e,⟨h1,r1⟩,⟨h2,r2⟩,⟨h3,r3⟩,⟨h4,r4⟩,eb⟩:=h
  exact  ⟨A1,n1,c1,A2,n2,c2,A3,n3,c3,A4,n4,c4,e,⟨h1.reads (intOw_reads B) (fun k hk=>hb k (by rw [eb]; simp [hk])),r1⟩,⟨h2.reads (intOw_reads B) (fun k hk=>hb k (by rw [eb]; simp [hk])),r2⟩,⟨h3.reads (coreOw_reads B) (fun k hk=>hb k (by rw [eb]; simp [hk])),r3⟩,⟨h4.reads (intOw_reads B) (fun k hk=>hb k (by rw [eb]; simp [hk])),r4⟩⟩
theorem frameOw_one:OneC frameOw:=fun h u hu=>by
  obtain ⟨A1,n1,c1,A2,n2,c2,A3,n3,c3,A4,n4,c4,b1,b2,b3,b4,e,_⟩:=h
  rw [e] at hu
  simp at hu
  rcases hu with rfl|rfl|rfl|rfl|rfl|rfl|rfl|rfl <;> rfl
structure DNeed where
  control:DClosure
  stack:List DFrame
  heap:List DThunk
instance:Inhabited DNeed:=⟨⟨default,[],[]⟩⟩
def needRd:Rd DNeed:=fun w B cs x=>∃(A1:Option Addr) (n1 c1:Nat) (A2:Option Addr) (n2 c2:Nat) (A3:Option Addr) (n3 c3:Nat) (A4:Option Addr) (n4 c4:Nat) (A5:Option Addr) (n5 c5:Nat),cs=[.int .i64 x.control.term.kind,.int .i64 x.control.term.value,.slice A1 n1 c1,.slice A2 n2 c2,.slice A3 n3 c3,.slice A4 n4 c4,.slice A5 n5 c5]∧(SlAt intRd 1 w B A1 n1 x.control.term.data∧n1≤c1∧c1≤maxLen)∧(SlAt coreRd 4 w B A2 n2 x.control.term.kids∧n2≤c2∧c2≤maxLen)∧(SlAt intRd 1 w B A3 n3 x.control.env∧n3≤c3∧c3≤maxLen)∧(SlAt frameRd 8 w B A4 n4 x.stack∧n4≤c4∧c4≤maxLen)∧(SlAt thunkRd 6 w B A5 n5 x.heap∧n5≤c5∧c5≤maxLen)
def needOw:Ow DNeed:=fun w cs x bs=>∃(A1:Option Addr) (n1 c1:Nat) (A2:Option Addr) (n2 c2:Nat) (A3:Option Addr) (n3 c3:Nat) (A4:Option Addr) (n4 c4:Nat) (A5:Option Addr) (n5 c5:Nat) (b1 b2 b3 b4 b5:List Nat),cs=[.int .i64 x.control.term.kind,.int .i64 x.control.term.value,.slice A1 n1 c1,.slice A2 n2 c2,.slice A3 n3 c3,.slice A4 n4 c4,.slice A5 n5 c5]∧(OwAt intOw 1 w A1 n1 x.control.term.data b1∧n1≤c1∧c1≤maxLen)∧(OwAt coreOw 4 w A2 n2 x.control.term.kids b2∧n2≤c2∧c2≤maxLen)∧(OwAt intOw 1 w A3 n3 x.control.env b3∧n3≤c3∧c3≤maxLen)∧(OwAt frameOw 8 w A4 n4 x.stack b4∧n4≤c4∧c4≤maxLen)∧(OwAt thunkOw 6 w A5 n5 x.heap b5∧n5≤c5∧c5≤maxLen)∧bs=b1 ++ b2 ++ b3 ++ b4 ++ b5
theorem needRd_ok:RdOk needRd 7:=
  ⟨fun h => by obtain ⟨A1, n1, c1, A2, n2, c2, A3, n3, c3, A4, n4, c4, A5, n5, c5, e, _⟩ := h; rw [e]; rfl,
   fun hk h=>by obtain ⟨A1,n1,c1,A2,n2,c2,A3,n3,c3,A4,n4,c4,A5,n5,c5,e,⟨h1,r1⟩,⟨h2,r2⟩,⟨h3,r3⟩,⟨h4,r4⟩,⟨h5,r5⟩⟩:=h; exact  ⟨A1,n1,c1,A2,n2,c2,A3,n3,c3,A4,n4,c4,A5,n5,c5,e,⟨h1.keep intRd_ok hk,r1⟩,⟨h2.keep coreRd_ok hk,r2⟩,⟨h3.keep intRd_ok hk,r3⟩,⟨h4.keep frameRd_ok hk,r4⟩,⟨h5.keep thunkRd_ok hk,r5⟩⟩,
   fun hB h=>by obtain ⟨A1,n1,c1,A2,n2,c2,A3,n3,c3,A4,n4,c4,A5,n5,c5,e,⟨h1,r1⟩,⟨h2,r2⟩,⟨h3,r3⟩,⟨h4,r4⟩,⟨h5,r5⟩⟩:=h; exact  ⟨A1,n1,c1,A2,n2,c2,A3,n3,c3,A4,n4,c4,A5,n5,c5,e,⟨h1.more intRd_ok hB,r1⟩,⟨h2.more coreRd_ok hB,r2⟩,⟨h3.more intRd_ok hB,r3⟩,⟨h4.more frameRd_ok hB,r4⟩,⟨h5.more thunkRd_ok hB,r5⟩⟩⟩
theorem needOw_ok:OwOk needOw 7:=
  ⟨fun h => by obtain ⟨A1, n1, c1, A2, n2, c2, A3, n3, c3, A4, n4, c4, A5, n5, c5, b1, b2, b3, b4, b5, e, _⟩ := h; rw [e]; rfl,
   fun hb h=>by obtain ⟨A1,n1,c1,A2,n2,c2,A3,n3,c3,A4,n4,c4,A5,n5,c5,b1,b2,b3,b4,b5,e,⟨h1,r1⟩,⟨h2,r2⟩,⟨h3,r3⟩,⟨h4,r4⟩,⟨h5,r5⟩,eb⟩:=h; exact  ⟨A1,n1,c1,A2,n2,c2,A3,n3,c3,A4,n4,c4,A5,n5,c5,b1,b2,b3,b4,b5,e,⟨h1.keep intOw_ok (fun k hk=>hb k (by rw [eb]; simp [hk])),r1⟩,⟨h2.keep coreOw_ok (fun k hk=>hb k (by rw [eb]; simp [hk])),r2⟩,⟨h3.keep intOw_ok (fun k hk=>hb k (by rw [eb]; simp [hk])),r3⟩,⟨h4.keep frameOw_ok (fun k hk=>hb k (by rw [eb]; simp [hk])),r4⟩,⟨h5.keep thunkOw_ok (fun k hk=>hb k (by rw [eb]; simp [hk])),r5⟩,eb⟩⟩
theorem needOw_reads (B:Nat):Gives needOw needRd B:=fun _ _ _ _ h hb=>by
  obtain ⟨A1,n1,c1,A2,n2,c2,A3,n3,c3,A4,n4,c4,A5,n5,c5,b1,b2,b3,b4,b5,e,⟨h1,r1⟩,⟨h2,r2⟩,⟨h3,r3⟩,⟨h4,r4⟩,⟨h5,r5⟩,eb⟩:=h
  exact  ⟨A1,n1,c1,A2,n2,c2,A3,n3,c3,A4,n4,c4,A5,n5,c5,e,⟨h1.reads (intOw_reads B) (fun k hk=>hb k (by rw [eb]; simp [hk])),r1⟩,⟨h2.reads (coreOw_reads B) (fun k hk=>hb k (by rw [eb]; simp [hk])),r2⟩,⟨h3.reads (intOw_reads B) (fun k hk=>hb k (by rw [eb]; simp [hk])),r3⟩,⟨h4.reads (frameOw_reads B) (fun k hk=>hb k (by rw [eb]; simp [hk])),r4⟩,⟨h5.reads (thunkOw_reads B) (fun k hk=>hb k (by rw [eb]; simp [hk])),r5⟩⟩
/-- How many addresses the closures of the heap hold. -/
def envs (m:DNeed):Nat:=(m.heap.map fun t=>t.closure.env.length).sum
end
section
open Go.RowKit
def mkF (k:Nat) (x:DFrame):DFrame:=⟨(k:Int),((k+1:Nat):Int),marks (k+2) x.data.length,⟨⟨((k+2+x.data.length:Nat):Int),((k+2+x.data.length+1:Nat):Int),marks (k+4+x.data.length) x.closure.term.data.length,markCS (k+4+x.data.length+x.closure.term.data.length) x.closure.term.kids⟩,marks (k+4+x.data.length+x.closure.term.data.length+cntL cntC x.closure.term.kids) x.closure.env.length⟩⟩
def cntF (x:DFrame):Nat:=4+x.data.length+x.closure.term.data.length+cntL cntC x.closure.term.kids+x.closure.env.length
def markFS (k:Nat) (xs:List DFrame):List DFrame:=mkL mkF cntF k xs
theorem cntF_len :∀xs:List DFrame,4 * xs.length≤cntL cntF xs
  |[]=>by simp [cntL]
  |x :: xs=>by
    have:=cntF_len xs
    have h:4≤cntF x:=by unfold cntF; omega
    rw [cntL_cons,List.length_cons]; omega
theorem cntF_mem {xs:List DFrame} {k:Nat} {x:DFrame} (h:xs[k]? = some x):cntF x≤cntL cntF xs:=by
  have h1:=cntL_take (cnt:=cntF) h
  have h2:=cntL_le (cnt:=cntF) xs (k+1)
  omega
theorem nd4 {b:Nat} {b1 x1 x2 x3 x4 b3:List Nat} (h:(b :: (b1 ++ ((x1 ++ x2 ++ x3 ++ x4) ++ b3))).Nodup) :
    (x1.Nodup∧x2.Nodup∧x3.Nodup∧x4.Nodup)∧(∀j,j∈x1→j ∉ x2∧j ∉ x3∧j ∉ x4)∧(∀j,j∈x2→j ∉ x3∧j ∉ x4)∧(∀j,j∈x3→j ∉ x4)∧(b ∉ x1∧b ∉ x2∧b ∉ x3∧b ∉ x4)∧(∀j,j∈b1→j ≠ b∧j ∉ x1 ++ x2 ++ x3 ++ x4)∧∀j,j∈b3→j ≠ b∧j ∉ x1 ++ x2 ++ x3 ++ x4:=by
  have hb:=(List.nodup_cons.1 h).1
  obtain ⟨_,h3,h4⟩:=List.nodup_append.1 (List.nodup_cons.1 h).2
  obtain ⟨h5,_,h6⟩:=List.nodup_append.1 h3
  obtain ⟨h7,h8,h9⟩:=List.nodup_append.1 h5
  obtain ⟨h10,h11,h12⟩:=List.nodup_append.1 h7
  obtain ⟨h13,h14,h15⟩:=List.nodup_append.1 h10
  refine ⟨⟨h13,h14,h11,h8⟩,fun j hj=>⟨fun h=>h15 j hj j h rfl,fun h=>h12 j (by simp [hj]) j h rfl,fun h=>h9 j (by simp [hj]) j h rfl⟩,fun j hj=>⟨fun h=>h12 j (by simp [hj]) j h rfl,fun h=>h9 j (by simp [hj]) j h rfl⟩,fun j hj h=>h9 j (by simp [hj]) j h rfl,⟨fun h=>hb (by simp [h]),fun h=>hb (by simp [h]),fun h=>hb (by simp [h]),fun h=>hb (by simp [h])⟩,fun j hj=>⟨fun e=>hb (by rw [← e]; simp [hj]),fun h=>h4 j hj j (List.mem_append_left _ h) rfl⟩,fun j hj=>⟨fun e=>hb (by rw [← e]; simp [hj]),fun h=>h6 j h j hj rfl⟩⟩
theorem set2_o {w:World} {b p q:Nat} {u0 u1:Value} (h:q ≠ p) (h':q ≠ p+1):((w.setCell ⟨b,p,none⟩ u0).setCell ⟨b,p+1,none⟩ u1).cell? ⟨b,q,none⟩=w.cell? ⟨b,q,none⟩:=by
  rw [World.cell?_setCell_other _ _ _ _ (fun e=>by injection e with _ e2; omega),World.cell?_setCell_other _ _ _ _ (fun e=>by injection e with _ e2; omega)]
theorem set2_cs {w:World} {b p:Nat} {u0 u1 v0 v1:Value} (h0:w.cell? ⟨b,p,none⟩=some v0) (h1:w.cell? ⟨b,p+1,none⟩=some v1) (d0:w.frozen? ⟨b,p,none⟩=false) (d1:w.frozen? ⟨b,p+1,none⟩=false):CsAt ((w.setCell ⟨b,p,none⟩ u0).setCell ⟨b,p+1,none⟩ u1) b p [u0,u1]:=
  setRun_csAt (w:=w) (vs:=[u0,u1]) (fun j hj=>by
    rcases j with _|_|j
    · exact ⟨_,h0⟩
    · exact ⟨_,h1⟩
    · simp only [List.length_cons,List.length_nil] at hj; omega) (fun j hj=>by
    rcases j with _|_|j
    · exact d0
    · exact d1
    · simp only [List.length_cons,List.length_nil] at hj; omega)
set_option maxHeartbeats 8000000 in
theorem markFrameS_q (A:Option Addr) (n c k0:Nat) (xs:List DFrame) (bs:List Nat) (w:World) (hx:OwAt frameOw 8 w A n xs bs) (hnd:bs.Nodup) (hs:cntL cntF xs≤4194304) (hk0:k0+cntL cntF xs≤4294967296) :
    Calls Tryz.prog 71 #[.slice A n c,.int .i64 k0] w fun e w'=>e=.returned (.int .i64 ((k0+cntL cntF xs:Nat):Int))∧OwAt frameOw 8 w' A n (markFS k0 xs) bs∧Only bs w w':=by
  have lx:=Lib.hid hx.len
  have hcl:=cntF_len xs
  have hn:n≤4194304:=by have:=lx.out; omega
  have hmid:=Lib.hid hx.mid
  clear hx
  go_enter Tryz.func71,Tryz.ntmps71
  go_wp2_with fail
  go_loopw [1,5] (fun kk i wr=>∃k:Nat,k≤n∧i=.int .i64 k∧kk=.int .i64 ((k0:Int)+(cntL cntF (xs.take k):Nat))∧Only bs w wr∧Hid (MidAt frameOw 8 wr A (markFS k0 (xs.take k)) (xs.drop k) bs)) (fun _ i _=>n - (intOf i).toNat)
  case atStart=>exact ⟨0,by omega,rfl,by simp [cntL],Only.refl _ _,hmid.out⟩
  case round=>
    obtain ⟨k,hk,rfl,rfl,ho,hm⟩:=hrel
    by_cases hlt:k < n
    · obtain ⟨x,hxk⟩ :∃x,xs[k]? = some x:=⟨_,List.getElem?_eq_getElem (by have:=lx.out; omega)⟩
      have hm:=hm.out
      rw [drop_some hxk] at hm
      obtain ⟨b,o,cs,b1,bx,b3,rfl,hbs,hO,hc,h1,h2⟩:=hm.next
      have hlen:(markFS k0 (xs.take k)).length=k:=by unfold markFS; rw [mkL_len,List.length_take]; have:=lx.out; omega
      rw [hlen] at hc h2
      obtain ⟨A1,n1,c1,A2,n2,c2,A3,n3,c3,A4,n4,c4,x1,x2,x3,x4,rfl,⟨g1,r1⟩,⟨g2,r2⟩,⟨g3,r3⟩,⟨g4,r4⟩,rfl⟩:=hO
      obtain ⟨hc0,hd0⟩:=hc 0 _ rfl
      obtain ⟨hc1,hd1⟩:=hc 1 _ rfl
      obtain ⟨hc2,hd2⟩:=hc 2 _ rfl
      obtain ⟨hc3,hd3⟩:=hc 3 _ rfl
      obtain ⟨hc4,hd4⟩:=hc 4 _ rfl
      obtain ⟨hc5,hd5⟩:=hc 5 _ rfl
      obtain ⟨hc6,hd6⟩:=hc 6 _ rfl
      obtain ⟨hc7,hd7⟩:=hc 7 _ rfl
      rw [Nat.add_zero] at hc0 hd0
      have hsm:=cntF_mem hxk
      have hct:=cntL_take (cnt:=cntF) hxk
      have hcx:cntF x=4+x.data.length+x.closure.term.data.length+cntL cntC x.closure.term.kids+x.closure.env.length:=rfl
      have hcm:=cntL_le (cnt:=cntF) xs (k+1)
      have hck:=cntL_le (cnt:=cntF) xs k
      have hnd':=hnd
      rw [hbs] at hnd'
      have ND:=Lib.hid (nd4 hnd')
      have l1:=Lib.hid g1.len
      have l2:=Lib.hid g2.len
      have l3:=Lib.hid g3.len
      have l4:=Lib.hid g4.len
      have hkc:=cntCL_len x.closure.term.kids
      have HE:=Lib.hid h2
      have HF:=Lib.hid h1
      have G1:=Lib.hid g1
      have G2:=Lib.hid g2
      have G3:=Lib.hid g3
      have G4:=Lib.hid g4
      have HX:=Lib.hid hxk
      have HI:=Lib.hid hbs
      have HL:=Lib.hid hct
      have HLN:=Lib.hid hlen
      have HD0:=Lib.hid hd0
      have HD1:=Lib.hid hd1
      have HC:=Lib.hid (show∀j v,[Value.int .i64 x.kind,.int .i64 x.value,.slice A1 n1 c1,.int .i64 x.closure.term.kind,.int .i64 x.closure.term.value,.slice A2 n2 c2,.slice A3 n3 c3,.slice A4 n4 c4][j]? = some v→wr.cell? ⟨b,o+k * 8+j,none⟩=some v∧wr.frozen? ⟨b,o+k * 8+j,none⟩=false from hc)
      clear h2 h1 g1 g2 g3 g4 hxk hbs hct hlen hnd' hm hc
      go_wp2_with fail
      have nd:=ND.out
      have TA:Touch b (o+k * 8) 8 (x1 ++ x2 ++ x3 ++ x4) wr ((wr.setCell ⟨b,o+k * 8,none⟩ (.int .i64 ((k0:Int)+(cntL cntF (xs.take k):Nat)))).setCell ⟨b,o+k * 8+1,none⟩ (.int .i64 ((k0:Int)+(cntL cntF (xs.take k):Nat)+1))):=(Touch.refl.set (by omega) (by omega) _).set (by omega) (by omega) _
      have SA:=set2_cs (u0:=.int .i64 ((k0:Int)+(cntL cntF (xs.take k):Nat))) (u1:=.int .i64 ((k0:Int)+(cntL cntF (xs.take k):Nat)+1)) hc0 hc1 HD0.out HD1.out
      have CA :∀q,q ≠ o+k * 8→q ≠ o+k * 8+1→((wr.setCell ⟨b,o+k * 8,none⟩ (.int .i64 ((k0:Int)+(cntL cntF (xs.take k):Nat)))).setCell ⟨b,o+k * 8+1,none⟩ (.int .i64 ((k0:Int)+(cntL cntF (xs.take k):Nat)+1))).cell? ⟨b,q,none⟩=wr.cell? ⟨b,q,none⟩:=fun q h h'=>set2_o h h'
      have BA :∀j,j ≠ b→((wr.setCell ⟨b,o+k * 8,none⟩ (.int .i64 ((k0:Int)+(cntL cntF (xs.take k):Nat)))).setCell ⟨b,o+k * 8+1,none⟩ (.int .i64 ((k0:Int)+(cntL cntF (xs.take k):Nat)+1))).heap[j]? = wr.heap[j]?:=fun j h=>set2_block h
      generalize ((wr.setCell ⟨b,o+k * 8,none⟩ (.int .i64 ((k0:Int)+(cntL cntF (xs.take k):Nat)))).setCell ⟨b,o+k * 8+1,none⟩ (.int .i64 ((k0:Int)+(cntL cntF (xs.take k):Nat)+1)))=wA at TA SA CA BA ⊢
      rw [show (k0:Int)+(cntL cntF (xs.take k):Nat)+1+1=((k0+cntL cntF (xs.take k)+2:Nat):Int) from by omega]
      have e1:=l1.out
      have e2:=l2.out
      have e3:=l3.out
      have e4:=l4.out
      refine (markInt64S_c A1 n1 c1 (k0+cntL cntF (xs.take k)+2) x.data x1 wA (G1.out.keep intOw_ok (fun j hj=>BA j (fun e=>nd.2.2.2.2.1.1 (e ▸ hj)))) nd.1.1 (by omega) (by omega)).mono ?_
      rintro e w4 ⟨rfl,m1,o4⟩
      have C4 :∀q,w4.cell? ⟨b,q,none⟩=wA.cell? ⟨b,q,none⟩:=fun q=>World.cell?_of_block (a:=⟨b,q,none⟩) (o4.block b nd.2.2.2.2.1.1)
      have T4:Touch b (o+k * 8) 8 (x1 ++ x2 ++ x3 ++ x4) wr w4:=TA.only o4 nd.2.2.2.2.1.1 (fun j hj=>by simp [hj])
      have hc3':w4.cell? ⟨b,o+k * 8+3,none⟩=some (.int .i64 x.closure.term.kind):=(C4 _).trans ((CA _ (by omega) (by omega)).trans hc3)
      have hc4':w4.cell? ⟨b,o+k * 8+4,none⟩=some (.int .i64 x.closure.term.value):=(C4 _).trans ((CA _ (by omega) (by omega)).trans hc4)
      have hc5':w4.cell? ⟨b,o+k * 8+5,none⟩=some (.slice A2 n2 c2):=(C4 _).trans ((CA _ (by omega) (by omega)).trans hc5)
      have hd3':w4.frozen? ⟨b,o+k * 8+3,none⟩=false:=(T4.frozen _).trans hd3
      have hd4':w4.frozen? ⟨b,o+k * 8+4,none⟩=false:=(T4.frozen _).trans hd4
      have HM1:=Lib.hid m1
      have HO4:=Lib.hid o4
      have HT4:=Lib.hid T4
      have HSA:=Lib.hid SA
      have HCA:=Lib.hid CA
      have HC4:=Lib.hid C4
      have HBA:=Lib.hid BA
      clear m1 o4 T4 TA SA CA C4 BA nd
      go_wp2_with fail
      have nd:=ND.out
      have o4:=HO4.out
      have T4:=HT4.out
      have BA:=HBA.out
      have TB:Touch b (o+k * 8) 8 (x1 ++ x2 ++ x3 ++ x4) wr ((w4.setCell ⟨b,o+k * 8+3,none⟩ (.int .i64 ((k0:Int)+(cntL cntF (xs.take k):Nat)+2+(x.data.length:Nat)))).setCell ⟨b,o+k * 8+3+1,none⟩ (.int .i64 ((k0:Int)+(cntL cntF (xs.take k):Nat)+2+(x.data.length:Nat)+1))):=(T4.set (by omega) (by omega) _).set (by omega) (by omega) _
      have SB:=set2_cs (p:=o+k * 8+3) (u0:=(.int .i64 ((k0:Int)+(cntL cntF (xs.take k):Nat)+2+(x.data.length:Nat)))) (u1:=(.int .i64 ((k0:Int)+(cntL cntF (xs.take k):Nat)+2+(x.data.length:Nat)+1))) hc3' hc4' hd3' hd4'
      have CB :∀q,q ≠ o+k * 8+3→q ≠ o+k * 8+3+1→((w4.setCell ⟨b,o+k * 8+3,none⟩ (.int .i64 ((k0:Int)+(cntL cntF (xs.take k):Nat)+2+(x.data.length:Nat)))).setCell ⟨b,o+k * 8+3+1,none⟩ (.int .i64 ((k0:Int)+(cntL cntF (xs.take k):Nat)+2+(x.data.length:Nat)+1))).cell? ⟨b,q,none⟩=w4.cell? ⟨b,q,none⟩:=fun q h h'=>set2_o h h'
      have BB :∀j,j ≠ b→((w4.setCell ⟨b,o+k * 8+3,none⟩ (.int .i64 ((k0:Int)+(cntL cntF (xs.take k):Nat)+2+(x.data.length:Nat)))).setCell ⟨b,o+k * 8+3+1,none⟩ (.int .i64 ((k0:Int)+(cntL cntF (xs.take k):Nat)+2+(x.data.length:Nat)+1))).heap[j]? = w4.heap[j]?:=fun j h=>set2_block h
      generalize ((w4.setCell ⟨b,o+k * 8+3,none⟩ (.int .i64 ((k0:Int)+(cntL cntF (xs.take k):Nat)+2+(x.data.length:Nat)))).setCell ⟨b,o+k * 8+3+1,none⟩ (.int .i64 ((k0:Int)+(cntL cntF (xs.take k):Nat)+2+(x.data.length:Nat)+1)))=wB at TB SB CB BB ⊢
      rw [show (k0:Int)+(cntL cntF (xs.take k):Nat)+2+(x.data.length:Nat)+1+1=((k0+cntL cntF (xs.take k)+4+x.data.length:Nat):Int) from by omega]
      have e2:=l2.out
      have e3:=l3.out
      have e4:=l4.out
      have X2 :∀j,j∈x2→wB.heap[j]? = wr.heap[j]?:=fun j hj=>(BB j (fun e=>nd.2.2.2.2.1.2.1 (e ▸ hj))).trans ((o4.block j (fun h=>(nd.2.1 j h).1 hj)).trans (BA j (fun e=>nd.2.2.2.2.1.2.1 (e ▸ hj))))
      have X3 :∀j,j∈x3→wB.heap[j]? = wr.heap[j]?:=fun j hj=>(BB j (fun e=>nd.2.2.2.2.1.2.2.1 (e ▸ hj))).trans ((o4.block j (fun h=>(nd.2.1 j h).2.1 hj)).trans (BA j (fun e=>nd.2.2.2.2.1.2.2.1 (e ▸ hj))))
      have X4 :∀j,j∈x4→wB.heap[j]? = wr.heap[j]?:=fun j hj=>(BB j (fun e=>nd.2.2.2.2.1.2.2.2 (e ▸ hj))).trans ((o4.block j (fun h=>(nd.2.1 j h).2.2 hj)).trans (BA j (fun e=>nd.2.2.2.2.1.2.2.2 (e ▸ hj))))
      refine (markInt64S_c A2 _ c2 (k0+cntL cntF (xs.take k)+4+x.data.length) x.closure.term.data x2 wB (by have:=G2.out.keep intOw_ok X2; rw [e2] at this; exact this) nd.1.2.1 (by omega) (by omega)).mono ?_
      rintro e w5 ⟨rfl,m2,o5⟩
      have C5 :∀q,w5.cell? ⟨b,q,none⟩=wB.cell? ⟨b,q,none⟩:=fun q=>World.cell?_of_block (a:=⟨b,q,none⟩) (o5.block b nd.2.2.2.2.1.2.1)
      have T5:Touch b (o+k * 8) 8 (x1 ++ x2 ++ x3 ++ x4) wr w5:=TB.only o5 nd.2.2.2.2.1.2.1 (fun j hj=>by simp [hj])
      have CA:=HCA.out
      have C4:=HC4.out
      have hc6':w5.cell? ⟨b,o+k * 8+6,none⟩=some (.slice A3 n3 c3):=(C5 _).trans ((CB _ (by omega) (by omega)).trans ((C4 _).trans ((CA _ (by omega) (by omega)).trans hc6)))
      have HM2:=Lib.hid m2
      have HO5:=Lib.hid o5
      have HT5:=Lib.hid T5
      have HSB:=Lib.hid SB
      have HCB:=Lib.hid CB
      have HC5:=Lib.hid C5
      have HBB:=Lib.hid BB
      have HX3:=Lib.hid X3
      have HX4:=Lib.hid X4
      clear m2 o5 T5 TB SB CB C5 BB X2 X3 X4 nd o4 T4 BA CA C4
      go_wp2_with fail
      have nd:=ND.out
      have o5:=HO5.out
      have e3:=l3.out
      have e5:=HL.out
      have e4:=l4.out
      rw [show (k0:Int)+(cntL cntF (xs.take k):Nat)+4+(x.data.length:Nat)+(x.closure.term.data.length:Nat)=((k0+cntL cntF (xs.take k)+4+x.data.length+x.closure.term.data.length:Nat):Int) from by omega]
      refine (markCoreS_q _ A3 _ c3 (k0+cntL cntF (xs.take k)+4+x.data.length+x.closure.term.data.length) x.closure.term.kids x3 w5 (Nat.le_refl _) (by have:=G3.out.keep coreOw_ok (w':=w5) (fun j hj=>(o5.block j (fun h=>(nd.2.2.1 j h).1 hj)).trans (HX3.out j hj)); rw [e3] at this; exact this) nd.1.2.2.1 (by omega) (by omega)).mono ?_
      rintro e w6 ⟨rfl,m3,o6⟩
      have C6 :∀q,w6.cell? ⟨b,q,none⟩=w5.cell? ⟨b,q,none⟩:=fun q=>World.cell?_of_block (a:=⟨b,q,none⟩) (o6.block b nd.2.2.2.2.1.2.2.1)
      have T6:Touch b (o+k * 8) 8 (x1 ++ x2 ++ x3 ++ x4) wr w6:=HT5.out.only o6 nd.2.2.2.2.1.2.2.1 (fun j hj=>by simp [hj])
      have hc7':w6.cell? ⟨b,o+k * 8+7,none⟩=some (.slice A4 n4 c4):=(C6 _).trans ((HC5.out _).trans ((HCB.out _ (by omega) (by omega)).trans ((HC4.out _).trans ((HCA.out _ (by omega) (by omega)).trans hc7))))
      have HM3:=Lib.hid m3
      have HO6:=Lib.hid o6
      have HT6:=Lib.hid T6
      have HC6:=Lib.hid C6
      clear m3 o6 T6 C6 nd o5
      go_wp2_with fail
      have nd:=ND.out
      have o5:=HO5.out
      have o6:=HO6.out
      have e4:=l4.out
      have e5:=HL.out
      rw [show (k0:Int)+(cntL cntF (xs.take k):Nat)+4+(x.data.length:Nat)+(x.closure.term.data.length:Nat)+(cntL cntC x.closure.term.kids:Nat)=((k0+cntL cntF (xs.take k)+4+x.data.length+x.closure.term.data.length+cntL cntC x.closure.term.kids:Nat):Int) from by omega]
      refine (markInt64S_c A4 _ c4 (k0+cntL cntF (xs.take k)+4+x.data.length+x.closure.term.data.length+cntL cntC x.closure.term.kids) x.closure.env x4 w6 (by have:=G4.out.keep intOw_ok (w':=w6) (fun j hj=>(o6.block j (fun h=>nd.2.2.2.1 j h hj)).trans ((o5.block j (fun h=>(nd.2.2.1 j h).2 hj)).trans (HX4.out j hj))); rw [e4] at this; exact this) nd.1.2.2.2 (by omega) (by omega)).mono ?_
      rintro e w7 ⟨rfl,m4,o7⟩
      have HM4:=Lib.hid m4
      have HO7:=Lib.hid o7
      clear m4 o7 nd o5 o6
      go_wp2_with fail
      go_roundw
      case rel=>
        have nd:=ND.out
        have o4:=HO4.out
        have o5:=HO5.out
        have o6:=HO6.out
        have o7:=HO7.out
        have T7:Touch b (o+k * 8) 8 (x1 ++ x2 ++ x3 ++ x4) wr w7:=HT6.out.only o7 nd.2.2.2.2.1.2.2.2 (fun j hj=>by simp [hj])
        have CW :∀q,w7.cell? ⟨b,q,none⟩=wB.cell? ⟨b,q,none⟩:=fun q=>(World.cell?_of_block (a:=⟨b,q,none⟩) (o7.block b nd.2.2.2.2.1.2.2.2)).trans ((HC6.out q).trans (HC5.out q))
        have CV :∀q,q ≠ o+k * 8+3→q ≠ o+k * 8+3+1→w7.cell? ⟨b,q,none⟩=wA.cell? ⟨b,q,none⟩:=fun q h h'=>(CW q).trans ((HCB.out q h h').trans (HC4.out q))
        have CR :∀q,q ≠ o+k * 8+3→q ≠ o+k * 8+3+1→q ≠ o+k * 8→q ≠ o+k * 8+1→w7.cell? ⟨b,q,none⟩=wr.cell? ⟨b,q,none⟩:=fun q h h' h2 h3=>(CV q h h').trans (HCA.out q h2 h3)
        refine ⟨k+1,by omega,by go_num,congrArg (Value.int .i64) (by omega),ho.trans (T7.only_.mono (fun j hj=>?_)),?_⟩
        · rw [HI.out]; simp only [List.mem_cons,List.mem_append] at hj ⊢
          rcases hj with hj|hj
          · exact .inl hj
          · exact .inr (.inr (.inl hj))
        · show Hid _
          refine ?_
          unfold markFS
          rw [mkL_take HX.out,HI.out]
          have hl:=HLN.out
          unfold markFS at hl
          refine MidAt.step (o:=o) (cs:=[.int .i64 ((k0:Int)+(cntL cntF (xs.take k):Nat)),.int .i64 ((k0:Int)+(cntL cntF (xs.take k):Nat)+1),.slice A1 n1 c1,.int .i64 ((k0:Int)+(cntL cntF (xs.take k):Nat)+2+(x.data.length:Nat)),.int .i64 ((k0:Int)+(cntL cntF (xs.take k):Nat)+2+(x.data.length:Nat)+1),.slice A2 n2 c2,.slice A3 n3 c3,.slice A4 n4 c4]) rfl ?_ ?_ ?_ ?_
          · refine ElAt.keepC frameOw_ok (w:=wr) (fun q h1 h2=>?_) (fun j hj=>T7.block j (nd.2.2.2.2.2.1 j hj).1 (nd.2.2.2.2.2.1 j hj).2) HF.out
            unfold markFS at h2
            rw [hl] at h2
            exact ⟨T7.cell q (.inl (by omega)),T7.frozen q⟩
          · refine ⟨A1,n1,c1,A2,n2,c2,A3,n3,c3,A4,n4,c4,x1,x2,x3,x4,?_,⟨?_,r1⟩,⟨?_,r2⟩,⟨?_,r3⟩,⟨?_,r4⟩,rfl⟩
            · show _=[Value.int .i64 ((k0+cntL cntF (xs.take k):Nat):Int),.int .i64 ((k0+cntL cntF (xs.take k)+1:Nat):Int),.slice A1 n1 c1,.int .i64 ((k0+cntL cntF (xs.take k)+2+x.data.length:Nat):Int),.int .i64 ((k0+cntL cntF (xs.take k)+2+x.data.length+1:Nat):Int),.slice A2 n2 c2,.slice A3 n3 c3,.slice A4 n4 c4]
              rw [show ((k0+cntL cntF (xs.take k):Nat):Int)=(k0:Int)+(cntL cntF (xs.take k):Nat) from by omega,show ((k0+cntL cntF (xs.take k)+1:Nat):Int)=(k0:Int)+(cntL cntF (xs.take k):Nat)+1 from by omega,show ((k0+cntL cntF (xs.take k)+2+x.data.length:Nat):Int)=(k0:Int)+(cntL cntF (xs.take k):Nat)+2+(x.data.length:Nat) from by omega,show ((k0+cntL cntF (xs.take k)+2+x.data.length+1:Nat):Int)=(k0:Int)+(cntL cntF (xs.take k):Nat)+2+(x.data.length:Nat)+1 from by omega]
            · have h:=HM1.out.keep intOw_ok (w':=w7) (fun j hj=>(o7.block j (nd.2.1 j hj).2.2).trans ((o6.block j (nd.2.1 j hj).2.1).trans ((o5.block j (nd.2.1 j hj).1).trans (HBB.out j (fun e=>nd.2.2.2.2.1.1 (e ▸ hj))))))
              show OwAt intOw 1 w7 A1 n1 (marks (k0+cntL cntF (xs.take k)+2) x.data.length) x1
              rw [← e1]; exact h
            · have h:=HM2.out.keep intOw_ok (w':=w7) (fun j hj=>(o7.block j (nd.2.2.1 j hj).2).trans (o6.block j (nd.2.2.1 j hj).1))
              show OwAt intOw 1 w7 A2 n2 (marks (k0+cntL cntF (xs.take k)+4+x.data.length) x.closure.term.data.length) x2
              rw [e2]; exact h
            · have h:=HM3.out.keep coreOw_ok (w':=w7) (fun j hj=>o7.block j (nd.2.2.2.1 j hj))
              show OwAt coreOw 4 w7 A3 n3 (markCS (k0+cntL cntF (xs.take k)+4+x.data.length+x.closure.term.data.length) x.closure.term.kids) x3
              rw [e3]; exact h
            · show OwAt intOw 1 w7 A4 n4 (marks (k0+cntL cntF (xs.take k)+4+x.data.length+x.closure.term.data.length+cntL cntC x.closure.term.kids) x.closure.env.length) x4
              rw [e4]; exact HM4.out
          · rw [hl]
            intro j v hj
            rcases j with _|_|_|_|_|_|_|_|j
            · simp at hj; subst hj; exact ⟨(CV _ (by omega) (by omega)).trans (HSA.out 0 _ rfl).1,(T7.frozen _).trans hd0⟩
            · simp at hj; subst hj; exact ⟨(CV _ (by omega) (by omega)).trans (HSA.out 1 _ rfl).1,(T7.frozen _).trans hd1⟩
            · simp at hj; subst hj; exact ⟨(CR _ (by omega) (by omega) (by omega) (by omega)).trans hc2,(T7.frozen _).trans hd2⟩
            · simp at hj; subst hj; exact ⟨(CW _).trans (HSB.out 0 _ rfl).1,(T7.frozen _).trans hd3⟩
            · simp at hj; subst hj; exact ⟨(CW _).trans (HSB.out 1 _ rfl).1,(T7.frozen _).trans hd4⟩
            · simp at hj; subst hj; exact ⟨(CR _ (by omega) (by omega) (by omega) (by omega)).trans hc5,(T7.frozen _).trans hd5⟩
            · simp at hj; subst hj; exact ⟨(CR _ (by omega) (by omega) (by omega) (by omega)).trans hc6,(T7.frozen _).trans hd6⟩
            · simp at hj; subst hj; exact ⟨(CR _ (by omega) (by omega) (by omega) (by omega)).trans hc7,(T7.frozen _).trans hd7⟩
            · simp at hj
          · rw [hl]
            exact ElAt.keepC frameOw_ok (w:=wr) (fun q h1 h2=>⟨T7.cell q (.inr (by omega)),T7.frozen q⟩) (fun j hj=>T7.block j (nd.2.2.2.2.2.2 j hj).1 (nd.2.2.2.2.2.2 j hj).2) HE.out
      case measure=>simp [intOf]; omega
    · obtain rfl:n=k:=by omega
      have hlast:xs.take n=xs:=List.take_of_length_le (by have:=lx.out; omega)
      have hdl:xs.drop n=[]:=List.drop_eq_nil_of_le (by have:=lx.out; omega)
      have hm:=hm.out
      rw [hlast,hdl] at hm
      rw [hlast]
      have HM:=Lib.hid (hm.whole (by unfold markFS; rw [mkL_len]; first|done|exact lx.out))
      clear hlast hdl hm
      go_wp2_with fail
      go_ret
      exact ⟨retI (by omega),by rw [lx.out]; first|exact HM.out|(have h:=HM.out; rw [lx.out] at h; exact h),ho⟩
end
section
open Go.RowKit
def mbT (k:Nat):Bool:=(k:Int) % 3==0
def mkT (k:Nat) (x:DThunk):DThunk:=⟨mbT k,⟨⟨((k+1:Nat):Int),((k+2:Nat):Int),marks (k+3) x.closure.term.data.length,markCS (k+3+x.closure.term.data.length) x.closure.term.kids⟩,marks (k+3+x.closure.term.data.length+cntL cntC x.closure.term.kids) x.closure.env.length⟩⟩
def cntT (x:DThunk):Nat:=3+x.closure.term.data.length+cntL cntC x.closure.term.kids+x.closure.env.length
def markTS (k:Nat) (xs:List DThunk):List DThunk:=mkL mkT cntT k xs
theorem cntT_len :∀xs:List DThunk,3 * xs.length≤cntL cntT xs
  |[]=>by simp [cntL]
  |x :: xs=>by
    have:=cntT_len xs
    have h:3≤cntT x:=by unfold cntT; omega
    rw [cntL_cons,List.length_cons]; omega
theorem cntT_mem {xs:List DThunk} {k:Nat} {x:DThunk} (h:xs[k]? = some x):cntT x≤cntL cntT xs:=by
  have h1:=cntL_take (cnt:=cntT) h
  have h2:=cntL_le (cnt:=cntT) xs (k+1)
  omega
theorem nd3 {b:Nat} {b1 x1 x2 x3 b3:List Nat} (h:(b :: (b1 ++ ((x1 ++ x2 ++ x3) ++ b3))).Nodup) :
    (x1.Nodup∧x2.Nodup∧x3.Nodup)∧(∀j,j∈x1→j ∉ x2∧j ∉ x3)∧(∀j,j∈x2→j ∉ x3)∧(b ∉ x1∧b ∉ x2∧b ∉ x3)∧(∀j,j∈b1→j ≠ b∧j ∉ x1 ++ x2 ++ x3)∧∀j,j∈b3→j ≠ b∧j ∉ x1 ++ x2 ++ x3:=by
  have hb:=(List.nodup_cons.1 h).1
  obtain ⟨_,h3,h4⟩:=List.nodup_append.1 (List.nodup_cons.1 h).2
  obtain ⟨h5,_,h6⟩:=List.nodup_append.1 h3
  obtain ⟨h7,h8,h9⟩:=List.nodup_append.1 h5
  obtain ⟨h10,h11,h12⟩:=List.nodup_append.1 h7
  refine ⟨⟨h10,h11,h8⟩,fun j hj=>⟨fun h=>h12 j hj j h rfl,fun h=>h9 j (by simp [hj]) j h rfl⟩,fun j hj h=>h9 j (by simp [hj]) j h rfl,⟨fun h=>hb (by simp [h]),fun h=>hb (by simp [h]),fun h=>hb (by simp [h])⟩,fun j hj=>⟨fun e=>hb (by rw [← e]; simp [hj]),fun h=>h4 j hj j (List.mem_append_left _ h) rfl⟩,fun j hj=>⟨fun e=>hb (by rw [← e]; simp [hj]),fun h=>h6 j h j hj rfl⟩⟩
theorem set3_o {w:World} {b p q:Nat} {u0 u1 u2:Value} (h:q ≠ p) (h':q ≠ p+1) (h2:q ≠ p+1+1):(((w.setCell ⟨b,p,none⟩ u0).setCell ⟨b,p+1,none⟩ u1).setCell ⟨b,p+1+1,none⟩ u2).cell? ⟨b,q,none⟩=w.cell? ⟨b,q,none⟩:=by
  rw [World.cell?_setCell_other _ _ _ _ (fun e=>by injection e with _ e2; omega),World.cell?_setCell_other _ _ _ _ (fun e=>by injection e with _ e2; omega),World.cell?_setCell_other _ _ _ _ (fun e=>by injection e with _ e2; omega)]
theorem set3_b {w:World} {b p j:Nat} {u0 u1 u2:Value} (h:j ≠ b):(((w.setCell ⟨b,p,none⟩ u0).setCell ⟨b,p+1,none⟩ u1).setCell ⟨b,p+1+1,none⟩ u2).heap[j]? = w.heap[j]?:=by
  rw [Below.heap_setCell _ ⟨b,p+1+1,none⟩ _ _ h,Below.heap_setCell _ ⟨b,p+1,none⟩ _ _ h,Below.heap_setCell _ ⟨b,p,none⟩ _ _ h]
theorem set3_cs {w:World} {b p:Nat} {u0 u1 u2 v0 v1 v2:Value} (h0:w.cell? ⟨b,p,none⟩=some v0) (h1:w.cell? ⟨b,p+1,none⟩=some v1) (h2:w.cell? ⟨b,p+2,none⟩=some v2) (d0:w.frozen? ⟨b,p,none⟩=false) (d1:w.frozen? ⟨b,p+1,none⟩=false) (d2:w.frozen? ⟨b,p+2,none⟩=false):CsAt (((w.setCell ⟨b,p,none⟩ u0).setCell ⟨b,p+1,none⟩ u1).setCell ⟨b,p+1+1,none⟩ u2) b p [u0,u1,u2]:=
  setRun_csAt (w:=w) (vs:=[u0,u1,u2]) (fun j hj=>by
    rcases j with _|_|_|j
    · exact ⟨_,h0⟩
    · exact ⟨_,h1⟩
    · exact ⟨_,h2⟩
    · simp only [List.length_cons,List.length_nil] at hj; omega) (fun j hj=>by
    rcases j with _|_|_|j
    · exact d0
    · exact d1
    · exact d2
    · simp only [List.length_cons,List.length_nil] at hj; omega)
set_option maxHeartbeats 8000000 in
theorem markThunkS_q (A:Option Addr) (n c k0:Nat) (xs:List DThunk) (bs:List Nat) (w:World) (hx:OwAt thunkOw 6 w A n xs bs) (hnd:bs.Nodup) (hs:cntL cntT xs≤4194304) (hk0:k0+cntL cntT xs≤4294967296) :
    Calls Tryz.prog 72 #[.slice A n c,.int .i64 k0] w fun e w'=>e=.returned (.int .i64 ((k0+cntL cntT xs:Nat):Int))∧OwAt thunkOw 6 w' A n (markTS k0 xs) bs∧Only bs w w':=by
  have lx:=Lib.hid hx.len
  have hcl:=cntT_len xs
  have hn:n≤4194304:=by have:=lx.out; omega
  have hmid:=Lib.hid hx.mid
  clear hx
  go_enter Tryz.func72,Tryz.ntmps72
  go_wp2_with fail
  go_loopw [1,5] (fun kk i wr=>∃k:Nat,k≤n∧i=.int .i64 k∧kk=.int .i64 ((k0:Int)+(cntL cntT (xs.take k):Nat))∧Only bs w wr∧Hid (MidAt thunkOw 6 wr A (markTS k0 (xs.take k)) (xs.drop k) bs)) (fun _ i _=>n - (intOf i).toNat)
  case atStart=>exact ⟨0,by omega,rfl,by simp [cntL],Only.refl _ _,hmid.out⟩
  case round=>
    obtain ⟨k,hk,rfl,rfl,ho,hm⟩:=hrel
    by_cases hlt:k < n
    · obtain ⟨x,hxk⟩ :∃x,xs[k]? = some x:=⟨_,List.getElem?_eq_getElem (by have:=lx.out; omega)⟩
      have hm:=hm.out
      rw [drop_some hxk] at hm
      obtain ⟨b,o,cs,b1,bx,b3,rfl,hbs,hO,hc,h1,h2⟩:=hm.next
      have hlen:(markTS k0 (xs.take k)).length=k:=by unfold markTS; rw [mkL_len,List.length_take]; have:=lx.out; omega
      rw [hlen] at hc h2
      obtain ⟨A1,n1,c1,A2,n2,c2,A3,n3,c3,x1,x2,x3,rfl,⟨g1,r1⟩,⟨g2,r2⟩,⟨g3,r3⟩,rfl⟩:=hO
      obtain ⟨hc0,hd0⟩:=hc 0 _ rfl
      obtain ⟨hc1,hd1⟩:=hc 1 _ rfl
      obtain ⟨hc2,hd2⟩:=hc 2 _ rfl
      obtain ⟨hc3,hd3⟩:=hc 3 _ rfl
      obtain ⟨hc4,hd4⟩:=hc 4 _ rfl
      obtain ⟨hc5,hd5⟩:=hc 5 _ rfl
      rw [Nat.add_zero] at hc0 hd0
      have hsm:=cntT_mem hxk
      have hct:=cntL_take (cnt:=cntT) hxk
      have hcx:cntT x=3+x.closure.term.data.length+cntL cntC x.closure.term.kids+x.closure.env.length:=rfl
      have hcm:=cntL_le (cnt:=cntT) xs (k+1)
      have hck:=cntL_le (cnt:=cntT) xs k
      have hnd':=hnd
      rw [hbs] at hnd'
      have ND:=Lib.hid (nd3 hnd')
      have l1:=Lib.hid g1.len
      have l2:=Lib.hid g2.len
      have l3:=Lib.hid g3.len
      have hkc:=cntCL_len x.closure.term.kids
      have HE:=Lib.hid h2
      have HF:=Lib.hid h1
      have G1:=Lib.hid g1
      have G2:=Lib.hid g2
      have G3:=Lib.hid g3
      have HX:=Lib.hid hxk
      have HI:=Lib.hid hbs
      have HL:=Lib.hid hct
      have HLN:=Lib.hid hlen
      have HD0:=Lib.hid hd0
      have HD1:=Lib.hid hd1
      have HD2:=Lib.hid hd2
      clear h2 h1 g1 g2 g3 hxk hbs hct hlen hnd' hm hc
      go_wp2_with fail
      have nd:=ND.out
      have TA:Touch b (o+k * 6) 6 (x1 ++ x2 ++ x3) wr (((wr.setCell ⟨b,o+k * 6,none⟩ (.bool (((k0:Int)+(cntL cntT (xs.take k):Nat)) % 3==0))).setCell ⟨b,o+k * 6+1,none⟩ (.int .i64 ((k0:Int)+(cntL cntT (xs.take k):Nat)+1))).setCell ⟨b,o+k * 6+1+1,none⟩ (.int .i64 ((k0:Int)+(cntL cntT (xs.take k):Nat)+1+1))):=((Touch.refl.set (by omega) (by omega) _).set (by omega) (by omega) _).set (by omega) (by omega) _
      have SA:=set3_cs (u0:=(.bool (((k0:Int)+(cntL cntT (xs.take k):Nat)) % 3==0))) (u1:=(.int .i64 ((k0:Int)+(cntL cntT (xs.take k):Nat)+1))) (u2:=(.int .i64 ((k0:Int)+(cntL cntT (xs.take k):Nat)+1+1))) hc0 hc1 hc2 HD0.out HD1.out HD2.out
      have CA :∀q,q ≠ o+k * 6→q ≠ o+k * 6+1→q ≠ o+k * 6+1+1→(((wr.setCell ⟨b,o+k * 6,none⟩ (.bool (((k0:Int)+(cntL cntT (xs.take k):Nat)) % 3==0))).setCell ⟨b,o+k * 6+1,none⟩ (.int .i64 ((k0:Int)+(cntL cntT (xs.take k):Nat)+1))).setCell ⟨b,o+k * 6+1+1,none⟩ (.int .i64 ((k0:Int)+(cntL cntT (xs.take k):Nat)+1+1))).cell? ⟨b,q,none⟩=wr.cell? ⟨b,q,none⟩:=fun q h h' h2=>set3_o h h' h2
      have BA :∀j,j ≠ b→(((wr.setCell ⟨b,o+k * 6,none⟩ (.bool (((k0:Int)+(cntL cntT (xs.take k):Nat)) % 3==0))).setCell ⟨b,o+k * 6+1,none⟩ (.int .i64 ((k0:Int)+(cntL cntT (xs.take k):Nat)+1))).setCell ⟨b,o+k * 6+1+1,none⟩ (.int .i64 ((k0:Int)+(cntL cntT (xs.take k):Nat)+1+1))).heap[j]? = wr.heap[j]?:=fun j h=>set3_b h
      generalize (((wr.setCell ⟨b,o+k * 6,none⟩ (.bool (((k0:Int)+(cntL cntT (xs.take k):Nat)) % 3==0))).setCell ⟨b,o+k * 6+1,none⟩ (.int .i64 ((k0:Int)+(cntL cntT (xs.take k):Nat)+1))).setCell ⟨b,o+k * 6+1+1,none⟩ (.int .i64 ((k0:Int)+(cntL cntT (xs.take k):Nat)+1+1)))=wA at TA SA CA BA ⊢
      rw [show (k0:Int)+(cntL cntT (xs.take k):Nat)+1+1+1=((k0+cntL cntT (xs.take k)+3:Nat):Int) from by omega]
      have e1:=l1.out
      have e2:=l2.out
      have e3:=l3.out
      refine (markInt64S_c A1 n1 c1 (k0+cntL cntT (xs.take k)+3) x.closure.term.data x1 wA (G1.out.keep intOw_ok (fun j hj=>BA j (fun e=>nd.2.2.2.1.1 (e ▸ hj)))) nd.1.1 (by omega) (by omega)).mono ?_
      rintro e w4 ⟨rfl,m1,o4⟩
      have C4 :∀q,w4.cell? ⟨b,q,none⟩=wA.cell? ⟨b,q,none⟩:=fun q=>World.cell?_of_block (a:=⟨b,q,none⟩) (o4.block b nd.2.2.2.1.1)
      have T4:Touch b (o+k * 6) 6 (x1 ++ x2 ++ x3) wr w4:=TA.only o4 nd.2.2.2.1.1 (fun j hj=>by simp [hj])
      have hc4':w4.cell? ⟨b,o+k * 6+4,none⟩=some (.slice A2 n2 c2):=(C4 _).trans ((CA _ (by omega) (by omega) (by omega)).trans hc4)
      have HM1:=Lib.hid m1
      have HO4:=Lib.hid o4
      have HT4:=Lib.hid T4
      have HSA:=Lib.hid SA
      have HCA:=Lib.hid CA
      have HC4:=Lib.hid C4
      have HBA:=Lib.hid BA
      clear m1 o4 T4 TA SA CA C4 BA nd
      go_wp2_with fail
      have nd:=ND.out
      have o4:=HO4.out
      have BA:=HBA.out
      have e2:=l2.out
      have e3:=l3.out
      have e5:=HL.out
      have X2 :∀j,j∈x2→w4.heap[j]? = wr.heap[j]?:=fun j hj=>(o4.block j (fun h=>(nd.2.1 j h).1 hj)).trans (BA j (fun e=>nd.2.2.2.1.2.1 (e ▸ hj)))
      have X3 :∀j,j∈x3→w4.heap[j]? = wr.heap[j]?:=fun j hj=>(o4.block j (fun h=>(nd.2.1 j h).2 hj)).trans (BA j (fun e=>nd.2.2.2.1.2.2 (e ▸ hj)))
      rw [show (k0:Int)+(cntL cntT (xs.take k):Nat)+3+(x.closure.term.data.length:Nat)=((k0+cntL cntT (xs.take k)+3+x.closure.term.data.length:Nat):Int) from by omega]
      refine (markCoreS_q _ A2 _ c2 (k0+cntL cntT (xs.take k)+3+x.closure.term.data.length) x.closure.term.kids x2 w4 (Nat.le_refl _) (by have:=G2.out.keep coreOw_ok X2; rw [e2] at this; exact this) nd.1.2.1 (by omega) (by omega)).mono ?_
      rintro e w5 ⟨rfl,m2,o5⟩
      have C5 :∀q,w5.cell? ⟨b,q,none⟩=w4.cell? ⟨b,q,none⟩:=fun q=>World.cell?_of_block (a:=⟨b,q,none⟩) (o5.block b nd.2.2.2.1.2.1)
      have T5:Touch b (o+k * 6) 6 (x1 ++ x2 ++ x3) wr w5:=HT4.out.only o5 nd.2.2.2.1.2.1 (fun j hj=>by simp [hj])
      have hc5':w5.cell? ⟨b,o+k * 6+5,none⟩=some (.slice A3 n3 c3):=(C5 _).trans ((HC4.out _).trans ((HCA.out _ (by omega) (by omega) (by omega)).trans hc5))
      have HM2:=Lib.hid m2
      have HO5:=Lib.hid o5
      have HT5:=Lib.hid T5
      have HC5:=Lib.hid C5
      have HX3:=Lib.hid X3
      clear m2 o5 T5 C5 X2 X3 nd o4 BA
      go_wp2_with fail
      have nd:=ND.out
      have o5:=HO5.out
      have e3:=l3.out
      have e5:=HL.out
      rw [show (k0:Int)+(cntL cntT (xs.take k):Nat)+3+(x.closure.term.data.length:Nat)+(cntL cntC x.closure.term.kids:Nat)=((k0+cntL cntT (xs.take k)+3+x.closure.term.data.length+cntL cntC x.closure.term.kids:Nat):Int) from by omega]
      refine (markInt64S_c A3 _ c3 (k0+cntL cntT (xs.take k)+3+x.closure.term.data.length+cntL cntC x.closure.term.kids) x.closure.env x3 w5 (by have:=G3.out.keep intOw_ok (w':=w5) (fun j hj=>(o5.block j (fun h=>nd.2.2.1 j h hj)).trans (HX3.out j hj)); rw [e3] at this; exact this) nd.1.2.2 (by omega) (by omega)).mono ?_
      rintro e w7 ⟨rfl,m3,o7⟩
      have HM3:=Lib.hid m3
      have HO7:=Lib.hid o7
      clear m3 o7 nd o5
      go_wp2_with fail
      go_roundw
      case rel=>
        have nd:=ND.out
        have o4:=HO4.out
        have o5:=HO5.out
        have o7:=HO7.out
        have T7:Touch b (o+k * 6) 6 (x1 ++ x2 ++ x3) wr w7:=HT5.out.only o7 nd.2.2.2.1.2.2 (fun j hj=>by simp [hj])
        have CW :∀q,w7.cell? ⟨b,q,none⟩=wA.cell? ⟨b,q,none⟩:=fun q=>(World.cell?_of_block (a:=⟨b,q,none⟩) (o7.block b nd.2.2.2.1.2.2)).trans ((HC5.out q).trans (HC4.out q))
        have CR :∀q,q ≠ o+k * 6→q ≠ o+k * 6+1→q ≠ o+k * 6+1+1→w7.cell? ⟨b,q,none⟩=wr.cell? ⟨b,q,none⟩:=fun q h h' h2=>(CW q).trans (HCA.out q h h' h2)
        refine ⟨k+1,by omega,by go_num,congrArg (Value.int .i64) (by omega),ho.trans (T7.only_.mono (fun j hj=>?_)),?_⟩
        · rw [HI.out]; simp only [List.mem_cons,List.mem_append] at hj ⊢
          rcases hj with hj|hj
          · exact .inl hj
          · exact .inr (.inr (.inl hj))
        · show Hid _
          refine ?_
          unfold markTS
          rw [mkL_take HX.out,HI.out]
          have hl:=HLN.out
          unfold markTS at hl
          refine MidAt.step (o:=o) (cs:=[.bool (((k0:Int)+(cntL cntT (xs.take k):Nat)) % 3==0),.int .i64 ((k0:Int)+(cntL cntT (xs.take k):Nat)+1),.int .i64 ((k0:Int)+(cntL cntT (xs.take k):Nat)+1+1),.slice A1 n1 c1,.slice A2 n2 c2,.slice A3 n3 c3]) rfl ?_ ?_ ?_ ?_
          · refine ElAt.keepC thunkOw_ok (w:=wr) (fun q h1 h2=>?_) (fun j hj=>T7.block j (nd.2.2.2.2.1 j hj).1 (nd.2.2.2.2.1 j hj).2) HF.out
            unfold markTS at h2
            rw [hl] at h2
            exact ⟨T7.cell q (.inl (by omega)),T7.frozen q⟩
          · refine ⟨A1,n1,c1,A2,n2,c2,A3,n3,c3,x1,x2,x3,?_,⟨?_,r1⟩,⟨?_,r2⟩,⟨?_,r3⟩,rfl⟩
            · show _=[Value.bool (((k0+cntL cntT (xs.take k):Nat):Int) % 3==0),.int .i64 ((k0+cntL cntT (xs.take k)+1:Nat):Int),.int .i64 ((k0+cntL cntT (xs.take k)+2:Nat):Int),.slice A1 n1 c1,.slice A2 n2 c2,.slice A3 n3 c3]
              rw [show ((k0+cntL cntT (xs.take k):Nat):Int)=(k0:Int)+(cntL cntT (xs.take k):Nat) from by omega,show ((k0+cntL cntT (xs.take k)+1:Nat):Int)=(k0:Int)+(cntL cntT (xs.take k):Nat)+1 from by omega,show ((k0+cntL cntT (xs.take k)+2:Nat):Int)=(k0:Int)+(cntL cntT (xs.take k):Nat)+1+1 from by omega]
            · have h:=HM1.out.keep intOw_ok (w':=w7) (fun j hj=>(o7.block j (nd.2.1 j hj).2).trans (o5.block j (nd.2.1 j hj).1))
              show OwAt intOw 1 w7 A1 n1 (marks (k0+cntL cntT (xs.take k)+3) x.closure.term.data.length) x1
              rw [← e1]; exact h
            · have h:=HM2.out.keep coreOw_ok (w':=w7) (fun j hj=>o7.block j (nd.2.2.1 j hj))
              show OwAt coreOw 4 w7 A2 n2 (markCS (k0+cntL cntT (xs.take k)+3+x.closure.term.data.length) x.closure.term.kids) x2
              rw [e2]; exact h
            · show OwAt intOw 1 w7 A3 n3 (marks (k0+cntL cntT (xs.take k)+3+x.closure.term.data.length+cntL cntC x.closure.term.kids) x.closure.env.length) x3
              rw [e3]; exact HM3.out
          · rw [hl]
            intro j v hj
            rcases j with _|_|_|_|_|_|j
            · simp at hj; subst hj; exact ⟨(CW _).trans (HSA.out 0 _ rfl).1,(T7.frozen _).trans hd0⟩
            · simp at hj; subst hj; exact ⟨(CW _).trans (HSA.out 1 _ rfl).1,(T7.frozen _).trans hd1⟩
            · simp at hj; subst hj; exact ⟨(CW _).trans (HSA.out 2 _ rfl).1,(T7.frozen _).trans hd2⟩
            · simp at hj; subst hj; exact ⟨(CR _ (by omega) (by omega) (by omega)).trans hc3,(T7.frozen _).trans hd3⟩
            · simp at hj; subst hj; exact ⟨(CR _ (by omega) (by omega) (by omega)).trans hc4,(T7.frozen _).trans hd4⟩
            · simp at hj; subst hj; exact ⟨(CR _ (by omega) (by omega) (by omega)).trans hc5,(T7.frozen _).trans hd5⟩
            · simp at hj
          · rw [hl]
            exact ElAt.keepC thunkOw_ok (w:=wr) (fun q h1 h2=>⟨T7.cell q (.inr (by omega)),T7.frozen q⟩) (fun j hj=>T7.block j (nd.2.2.2.2.2 j hj).1 (nd.2.2.2.2.2 j hj).2) HE.out
      case measure=>simp [intOf]; omega
    · obtain rfl:n=k:=by omega
      have hlast:xs.take n=xs:=List.take_of_length_le (by have:=lx.out; omega)
      have hdl:xs.drop n=[]:=List.drop_eq_nil_of_le (by have:=lx.out; omega)
      have hm:=hm.out
      rw [hlast,hdl] at hm
      rw [hlast]
      have HM:=Lib.hid (hm.whole (by unfold markTS; rw [mkL_len]; first|done|exact lx.out))
      clear hlast hdl hm
      go_wp2_with fail
      go_ret
      exact ⟨retI (by omega),by rw [lx.out]; first|exact HM.out|(have h:=HM.out; rw [lx.out] at h; exact h),ho⟩
end
section
open Go.RowKit
set_option maxHeartbeats 4000000 in
theorem markCore_q (kd vl:Int) (A1 A2:Option Addr) (n1 c1 n2 c2:Nat) (d:List Int) (ks:List DCore) (bd bp:List Nat) (w:World) (k0:Nat) (hd:OwAt intOw 1 w A1 n1 d bd) (hp:OwAt coreOw 4 w A2 n2 ks bp) (hnd:(bd ++ bp).Nodup) (hb :∀j∈bd ++ bp,j < w.heap.size) (hs:d.length+cntL cntC ks≤4194304) (hk:k0+(d.length+cntL cntC ks)≤4294967296) :
    Calls Tryz.prog 128 #[.agg #[.int .i64 kd,.int .i64 vl,.slice A1 n1 c1,.slice A2 n2 c2],.int .i64 k0] w fun e w'=>e=.returned (.int .i64 ((k0+(d.length+cntL cntC ks):Nat):Int))∧∃wb,Below w.heap.size w wb∧wb.heap.size=w'.heap.size∧Only (bd ++ bp) wb w'∧OwAt intOw 1 w' A1 n1 (marks k0 d.length) bd∧OwAt coreOw 4 w' A2 n2 (markCS (k0+d.length) ks) bp:=by
  have hA :∀o1,Below w.heap.size w (w.alloc o1):=fun o1=>(Below.refl _ _).alloc (Nat.le_refl _) _
  have HD:=Lib.hid (show∀o1,OwAt intOw 1 (w.alloc o1) A1 n1 d bd from fun o1=>hd.keep intOw_ok (fun j hj=>(hA o1).block j (hb j (by simp [hj]))))
  have HP:=Lib.hid (show∀o1,OwAt coreOw 4 (w.alloc o1) A2 n2 ks bp from fun o1=>hp.keep coreOw_ok (fun j hj=>(hA o1).block j (hb j (by simp [hj]))))
  have N0:=Lib.hid (List.nodup_append.1 hnd)
  have HB:=Lib.hid hb
  have ld:=Lib.hid hd.len
  have lp:=Lib.hid hp.len
  have B0:=Lib.hid (show∀o1,(w.alloc o1).heap[w.heap.size]? = some o1 from fun o1=>heap_alloc_new w o1)
  clear hb hnd hd hp
  go_enter Tryz.func128,Tryz.ntmps128
  go_wp2_with fail
  refine (markInt64S_c A1 n1 c1 k0 d bd _ (HD.out _) N0.out.1 (by have:=ld.out; omega) (by omega)).mono ?_
  rintro e w1 ⟨rfl,m1,o1⟩
  have hbk:w.heap.size ∉ bd:=fun hin=>by have:=HB.out w.heap.size (by simp [hin]); omega
  have B1:Blk w1 w.heap.size 78 #[.int .i64 kd,.int .i64 vl,.slice A1 n1 c1,.slice A2 n2 c2]:=(o1.block _ hbk).trans (B0.out _)
  have g0:=B1.cell
  have M1:=Lib.hid m1
  have O1:=Lib.hid o1
  clear m1
  go_wp2_with fail
  have e1:=ld.out
  rw [show (k0:Int)+(n1:Nat)=((k0+n1:Nat):Int) from by omega]
  refine (markCoreS_q _ A2 n2 c2 (k0+n1) ks bp w1 (Nat.le_refl _) ((HP.out _).keep coreOw_ok (fun j hj=>o1.block j (fun hin=>N0.out.2.2 j hin j hj rfl))) N0.out.2.1 (by omega) (by omega)).mono ?_
  rintro e w2 ⟨rfl,m2,o2⟩
  have M2:=Lib.hid m2
  have O2:=Lib.hid o2
  clear m2 o1 o2
  go_wp2_with fail
  go_ret
  have OO:Only (bd ++ bp) _ w2:=(O1.out.mono (fun j hj=>by simp [hj])).trans (O2.out.mono (fun j hj=>by simp [hj]))
  refine ⟨congrArg (fun z=>Ending.returned (Value.int .i64 z)) (by omega),_,hA _,OO.size.symm,OO,?_,?_⟩
  · have:=M1.out.keep intOw_ok (w':=w2) (fun j hj=>O2.out.block j (fun hin=>N0.out.2.2 j hj j hin rfl))
    rw [← e1]; exact this
  · have:=M2.out
    rw [← e1]; exact this
set_option maxHeartbeats 4000000 in
theorem markClosure_q (kd vl:Int) (A1 A2 A3:Option Addr) (n1 c1 n2 c2 n3 c3:Nat) (d:List Int) (ks:List DCore) (ev:List Int) (bd bp be:List Nat) (w:World) (k0:Nat) (hd:OwAt intOw 1 w A1 n1 d bd) (hp:OwAt coreOw 4 w A2 n2 ks bp) (he:OwAt intOw 1 w A3 n3 ev be) (hnd:(bd ++ bp ++ be).Nodup) (hb :∀j∈bd ++ bp ++ be,j < w.heap.size) (hs:d.length+cntL cntC ks≤4194304) (hs2:ev.length≤4194304) (hk:k0+(d.length+cntL cntC ks)+ev.length≤4294967296) :
    Calls Tryz.prog 70 #[.agg #[.int .i64 kd,.int .i64 vl,.slice A1 n1 c1,.slice A2 n2 c2,.slice A3 n3 c3],.int .i64 k0] w fun e w'=>e=.returned (.int .i64 ((k0+(d.length+cntL cntC ks)+ev.length:Nat):Int))∧∃wb,Below w.heap.size w wb∧wb.heap.size=w'.heap.size∧Only (bd ++ bp ++ be) wb w'∧OwAt intOw 1 w' A1 n1 (marks k0 d.length) bd∧OwAt coreOw 4 w' A2 n2 (markCS (k0+d.length) ks) bp∧OwAt intOw 1 w' A3 n3 (marks (k0+(d.length+cntL cntC ks)) ev.length) be:=by
  have hA :∀o1,Below w.heap.size w (w.alloc o1):=fun o1=>(Below.refl _ _).alloc (Nat.le_refl _) _
  have hz :∀o1,(w.alloc o1).heap.size=w.heap.size+1:=fun o1=>by simp
  have HD:=Lib.hid (show∀o1,OwAt intOw 1 (w.alloc o1) A1 n1 d bd from fun o1=>hd.keep intOw_ok (fun j hj=>(hA o1).block j (hb j (by simp [hj]))))
  have HP:=Lib.hid (show∀o1,OwAt coreOw 4 (w.alloc o1) A2 n2 ks bp from fun o1=>hp.keep coreOw_ok (fun j hj=>(hA o1).block j (hb j (by simp [hj]))))
  have HE:=Lib.hid (show∀o1,OwAt intOw 1 (w.alloc o1) A3 n3 ev be from fun o1=>he.keep intOw_ok (fun j hj=>(hA o1).block j (hb j (by simp [hj]))))
  have N0:=Lib.hid (List.nodup_append.1 hnd)
  have HB:=Lib.hid hb
  have le:=Lib.hid he.len
  have B0:=Lib.hid (show∀o1,(w.alloc o1).heap[w.heap.size]? = some o1 from fun o1=>heap_alloc_new w o1)
  have HZ:=Lib.hid hz
  have HA:=Lib.hid hA
  clear hb hnd hd hp he hz hA
  go_enter Tryz.func70,Tryz.ntmps70
  go_wp2_with fail
  refine (markCore_q kd vl A1 A2 n1 c1 n2 c2 d ks bd bp _ k0 (HD.out _) (HP.out _) N0.out.1 (fun j hj=>by have:=HB.out j (by simp only [List.mem_append] at hj ⊢; exact .inl hj); rw [HZ.out]; omega) hs (by omega)).mono ?_
  rintro e w1 ⟨rfl,wb,b1,z1,o1,m1,m2⟩
  have hbk:w.heap.size ∉ bd ++ bp:=fun hin=>by have:=HB.out w.heap.size (by simp only [List.mem_append] at hin ⊢; exact .inl hin); omega
  have B1:Blk w1 w.heap.size 80 #[.int .i64 kd,.int .i64 vl,.slice A1 n1 c1,.slice A2 n2 c2,.slice A3 n3 c3]:=(o1.block _ hbk).trans ((b1.block _ (by rw [HZ.out]; omega)).trans (B0.out _))
  have g0:=B1.cell
  have OE:OwAt intOw 1 w1 A3 n3 ev be:=(HE.out _).keep intOw_ok (fun j hj=>(o1.block j (fun hin=>N0.out.2.2 j hin j hj rfl)).trans (b1.block j (by have:=HB.out j (by simp [hj]); rw [HZ.out]; omega)))
  have BB:Below w.heap.size w wb:=(HA.out _).trans (b1.mono (by rw [HZ.out]; omega))
  have M1:=Lib.hid m1
  have M2:=Lib.hid m2
  have O1:=Lib.hid o1
  have Z1:=Lib.hid z1
  have HBB:=Lib.hid BB
  have HOE:=Lib.hid OE
  clear m1 m2 o1 z1 b1 BB OE
  go_wp2_with fail
  have e3:=le.out
  rw [show (k0:Int)+((d.length:Int)+(cntL cntC ks:Nat))=((k0+(d.length+cntL cntC ks):Nat):Int) from by omega]
  refine (markInt64S_c A3 n3 c3 (k0+(d.length+cntL cntC ks)) ev be w1 HOE.out N0.out.2.1 (by omega) (by omega)).mono ?_
  rintro e w2 ⟨rfl,m3,o2⟩
  have M3:=Lib.hid m3
  have O2:=Lib.hid o2
  clear m3 o2
  go_wp2_with fail
  go_ret
  refine ⟨congrArg (fun z=>Ending.returned (Value.int .i64 z)) (by omega),wb,HBB.out,Z1.out.trans O2.out.size.symm,(O1.out.mono (fun j hj=>List.mem_append_left _ hj)).trans (O2.out.mono (fun j hj=>List.mem_append_right _ hj)),?_,?_,?_⟩
  · exact M1.out.keep intOw_ok (fun j hj=>O2.out.block j (fun hin=>N0.out.2.2 j (by simp [hj]) j hin rfl))
  · exact M2.out.keep coreOw_ok (fun j hj=>O2.out.block j (fun hin=>N0.out.2.2 j (by simp [hj]) j hin rfl))
  · have:=M3.out
    rw [← e3]; exact this
end
section
open Go.RowKit
@[go_sem] theorem eqPort_run (a b c d:Int) (w:World):(Op.equalIn 10000 161 (.agg #[.int .i64 a,.int .i64 b]) (.agg #[.int .i64 c,.int .i64 d])).run Tryz.prog w=.ok (a==c && b==d) w:=by
  have u3:=Tryz.underlying2
  have hS:Tryz.prog.underlying 161=some (.struct (Tryz.prog.fieldsOf 161)):=by kernel_rfl
  have hp:Tryz.prog.stoodInHeld 161=false:=by kernel_rfl
  rw [show (10000:Nat)=9999+1 from rfl,run_equalIn_agg w 9999 161 _ _ hS hp]
  simp only [Program.fieldsOf,Tryz.underlying161]
  go_simp
  by_cases h1:a=c <;> by_cases h2:b=d <;> simp [h1,h2]
@[go_sem] theorem eqGuardPort_run (op:BinOp) (x y:Operand) (xs ys:Array Value) (w:World):(eqGuard op 161 x y (.agg xs) (.agg ys)).run Tryz.prog w=.ok () w:=run_eqGuard_agg w op 161 x y xs ys (by kernel_rfl)
end
section
open Go.RowKit
set_option maxRecDepth 100000
def m_impl_isDefIndex (d0:Int):Option Bool:=
  (bif (decide (d0 ≥ 0)) then some (decide (d0 < 24)) else some false)
set_option maxHeartbeats 2000000 in
theorem c_m_impl_isDefIndex (d0:Int) (r:Bool) (hm:m_impl_isDefIndex d0=some r)  (w:World)  :
    Calls Tryz.prog 245 #[.int .i64 d0] w fun e w'=>e=.returned (.bool r)∧Below w.heap.size w w':=by
  have T:=Below.refl w.heap.size w
  unfold m_impl_isDefIndex at hm
  refine enter 9 Tryz.func245 rfl rfl rfl ?_
  intro f hf
  have s0:f 0=.int .i64 d0:=hf 0 _ rfl
  refine wp_seq<|wp_rs rfl<|RQ.y rfl (Y.assign (v:=.bool false) rfl)<|RQ.nil<|then_n<|wp_seq<|wp_rs rfl<|RQ.y rfl (Y.move (v:=.int .i64 d0) s0)<|RQ.y rfl (Y.binI (v:=.bool (decide (d0 ≥ 0))) rfl rfl rfl)<|RQ.y rfl (Y.move (v:=.bool (decide (d0 ≥ 0))) rfl) ?_
  rcases bcases (decide (d0 ≥ 0)) with c1|c1
  ·replace hm:=cF c1 hm
   have pc1:=of_decide_eq_false c1
   refine RQ.skip (wantN (dj:=5) rfl (vb rfl c1) rfl)<|RQ.skip (wantN (dj:=5) rfl (vb rfl c1) rfl)<|RQ.y rfl (Y.pick (b:=false) (v:=.bool false) (vb rfl c1) rfl)<|RQ.y rfl (Y.assign (v:=.bool false) rfl)<|RQ.nil<|then_n<|wp_ret ?_
   obtain rfl:=sj hm
   exact (ret1 rfl rfl rfl ⟨rfl,T⟩)
  replace hm:=cT c1 hm
  have pc1:=of_decide_eq_true c1
  refine RQ.y (wantT (dj:=5) rfl (vb rfl c1)) (Y.move (v:=.int .i64 d0) s0)<|RQ.y (wantT (dj:=5) rfl (vb rfl c1)) (Y.binI (v:=.bool (decide (d0 < 24))) rfl rfl rfl)<|RQ.y rfl (Y.pick (b:=true) (v:=.bool (decide (d0 < 24))) (vb rfl c1) rfl)<|RQ.y rfl (Y.assign (v:=.bool (decide (d0 < 24))) rfl)<|RQ.nil<|then_n<|wp_ret ?_
  obtain rfl:=sj hm
  exact (ret1 rfl rfl rfl ⟨rfl,T⟩)
def m_impl_isInt (d0:Int):Option Bool:=
  (bif (decide (d0 ≥ (-2147483648))) then some (decide (d0≤2147483647)) else some false)
set_option maxHeartbeats 2000000 in
theorem c_m_impl_isInt (d0:Int) (r:Bool) (hm:m_impl_isInt d0=some r)  (w:World)  :
    Calls Tryz.prog 191 #[.int .i64 d0] w fun e w'=>e=.returned (.bool r)∧Below w.heap.size w w':=by
  have T:=Below.refl w.heap.size w
  unfold m_impl_isInt at hm
  refine enter 9 Tryz.func191 rfl rfl rfl ?_
  intro f hf
  have s0:f 0=.int .i64 d0:=hf 0 _ rfl
  refine wp_seq<|wp_rs rfl<|RQ.y rfl (Y.assign (v:=.bool false) rfl)<|RQ.nil<|then_n<|wp_seq<|wp_rs rfl<|RQ.y rfl (Y.move (v:=.int .i64 d0) s0)<|RQ.y rfl (Y.binI (v:=.bool (decide (d0 ≥ (-2147483648)))) rfl rfl rfl)<|RQ.y rfl (Y.move (v:=.bool (decide (d0 ≥ (-2147483648)))) rfl) ?_
  rcases bcases (decide (d0 ≥ (-2147483648))) with c1|c1
  ·replace hm:=cF c1 hm
   have pc1:=of_decide_eq_false c1
   refine RQ.skip (wantN (dj:=5) rfl (vb rfl c1) rfl)<|RQ.skip (wantN (dj:=5) rfl (vb rfl c1) rfl)<|RQ.y rfl (Y.pick (b:=false) (v:=.bool false) (vb rfl c1) rfl)<|RQ.y rfl (Y.assign (v:=.bool false) rfl)<|RQ.nil<|then_n<|wp_ret ?_
   obtain rfl:=sj hm
   exact (ret1 rfl rfl rfl ⟨rfl,T⟩)
  replace hm:=cT c1 hm
  have pc1:=of_decide_eq_true c1
  refine RQ.y (wantT (dj:=5) rfl (vb rfl c1)) (Y.move (v:=.int .i64 d0) s0)<|RQ.y (wantT (dj:=5) rfl (vb rfl c1)) (Y.binI (v:=.bool (decide (d0≤2147483647))) rfl rfl rfl)<|RQ.y rfl (Y.pick (b:=true) (v:=.bool (decide (d0≤2147483647))) (vb rfl c1) rfl)<|RQ.y rfl (Y.assign (v:=.bool (decide (d0≤2147483647))) rfl)<|RQ.nil<|then_n<|wp_ret ?_
  obtain rfl:=sj hm
  exact (ret1 rfl rfl rfl ⟨rfl,T⟩)
def m_impl_isOperator (d0:Int):Option Bool:=
  (bif (decide (d0 ≥ 1)) then some (decide (d0≤6)) else some false)
set_option maxHeartbeats 2000000 in
theorem c_m_impl_isOperator (d0:Int) (r:Bool) (hm:m_impl_isOperator d0=some r)  (w:World)  :
    Calls Tryz.prog 190 #[.int .i64 d0] w fun e w'=>e=.returned (.bool r)∧Below w.heap.size w w':=by
  have T:=Below.refl w.heap.size w
  unfold m_impl_isOperator at hm
  refine enter 9 Tryz.func190 rfl rfl rfl ?_
  intro f hf
  have s0:f 0=.int .i64 d0:=hf 0 _ rfl
  refine wp_seq<|wp_rs rfl<|RQ.y rfl (Y.assign (v:=.bool false) rfl)<|RQ.nil<|then_n<|wp_seq<|wp_rs rfl<|RQ.y rfl (Y.move (v:=.int .i64 d0) s0)<|RQ.y rfl (Y.binI (v:=.bool (decide (d0 ≥ 1))) rfl rfl rfl)<|RQ.y rfl (Y.move (v:=.bool (decide (d0 ≥ 1))) rfl) ?_
  rcases bcases (decide (d0 ≥ 1)) with c1|c1
  ·replace hm:=cF c1 hm
   have pc1:=of_decide_eq_false c1
   refine RQ.skip (wantN (dj:=5) rfl (vb rfl c1) rfl)<|RQ.skip (wantN (dj:=5) rfl (vb rfl c1) rfl)<|RQ.y rfl (Y.pick (b:=false) (v:=.bool false) (vb rfl c1) rfl)<|RQ.y rfl (Y.assign (v:=.bool false) rfl)<|RQ.nil<|then_n<|wp_ret ?_
   obtain rfl:=sj hm
   exact (ret1 rfl rfl rfl ⟨rfl,T⟩)
  replace hm:=cT c1 hm
  have pc1:=of_decide_eq_true c1
  refine RQ.y (wantT (dj:=5) rfl (vb rfl c1)) (Y.move (v:=.int .i64 d0) s0)<|RQ.y (wantT (dj:=5) rfl (vb rfl c1)) (Y.binI (v:=.bool (decide (d0≤6))) rfl rfl rfl)<|RQ.y rfl (Y.pick (b:=true) (v:=.bool (decide (d0≤6))) (vb rfl c1) rfl)<|RQ.y rfl (Y.assign (v:=.bool (decide (d0≤6))) rfl)<|RQ.nil<|then_n<|wp_ret ?_
  obtain rfl:=sj hm
  exact (ret1 rfl rfl rfl ⟨rfl,T⟩)
def m_impl_truth (d0:Bool):Option Int:=
  (bif d0 then some 1 else some 0)
set_option maxHeartbeats 2000000 in
theorem c_m_impl_truth (d0:Bool) (r:Int) (hm:m_impl_truth d0=some r)  (w:World)  :
    Calls Tryz.prog 253 #[.bool d0] w fun e w'=>e=.returned (.int .i64 r)∧Below w.heap.size w w':=by
  have T:=Below.refl w.heap.size w
  unfold m_impl_truth at hm
  refine enter 4 Tryz.func253 rfl rfl rfl ?_
  intro f hf
  have s0:f 0=.bool d0:=hf 0 _ rfl
  refine wp_seq<|wp_rs rfl<|RQ.y rfl (Y.assign (v:=.int .i64 0) rfl)<|RQ.nil<|then_n<|wp_seq<|wp_seq<|wp_rs rfl<|RQ.y rfl (Y.move (v:=.bool d0) s0)<|RQ.nil<|then_n ?_
  rcases bcases d0 with c1|c1
  ·replace hm:=cF c1 hm
   refine cond_f rfl (vb rfl c1)<|wp_skip<|then_n<|wp_seq<|wp_rs rfl<|RQ.y rfl (Y.assign (v:=.int .i64 0) rfl)<|RQ.nil<|then_n<|wp_ret ?_
   obtain rfl:=sj hm
   exact (ret1 rfl rfl rfl ⟨rfl,T⟩)
  replace hm:=cT c1 hm
  refine cond_t rfl (vb rfl c1)<|wp_seq<|wp_rs rfl<|RQ.y rfl (Y.assign (v:=.int .i64 1) rfl)<|RQ.nil<|then_n<|wp_ret ?_
  obtain rfl:=sj hm
  exact (then_r (ret1 rfl rfl rfl ⟨rfl,T⟩))
end
section
open Go.RowKit
theorem app_int64:AppT Tryz.prog 60 2 (.int .i64 0) 1 8:=⟨by kernel_rfl,by kernel_rfl,rfl,by decide⟩
theorem app_bool:AppT Tryz.prog 122 4 (.bool false) 1 1:=⟨by kernel_rfl,by kernel_rfl,rfl,by decide⟩
end
end Go.Proofs.YtpbobilkejblgaaGreat
