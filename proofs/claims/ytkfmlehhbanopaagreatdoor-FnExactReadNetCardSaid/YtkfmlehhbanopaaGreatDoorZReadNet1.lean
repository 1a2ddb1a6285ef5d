/- Lemmas of the proof of ReadNet, part 1. No condition. -/
import Derived.BigQuiet
import Derived.ChangeVars
import Derived.Deep.Draws
import Derived.Deep.LoopGhost
import Derived.Deep.Quiet
import Derived.Deep.QuietTactic
import Derived.Deep.RegionHeld3
import Derived.Deep.RegionLaw
import Derived.Deep.RegionWith
import Derived.Handed
import Derived.LaidMore
import Derived.LaidOnce
import Derived.Laws.AppendOwnNone
import Derived.Laws.BytesArg
import Derived.Laws.Cells
import Derived.Laws.Cover3
import Derived.Laws.Entries
import Derived.Laws.MakeOwn
import Derived.Laws.Rows
import Derived.Laws.Slices
import Derived.Laws.Strings2
import Derived.Laws.Strings3
import Derived.Laws.StructEq
import Derived.Lay
import Derived.Lib.AppendStr
import Derived.Lib.Builder
import Derived.Lib.Hide
import Derived.Lib.IndexLaws
import Derived.Lib.ItoaLen
import Derived.Lib.LaidTab
import Derived.Lib.ParseIntBCases
import Derived.Lib.ParseIntBTie
import Derived.Lib.Replace
import Derived.Lib.SplitLaws
import Derived.MakeChecks
import Derived.Maps.OwnSet
import Derived.Maps.Views
import Derived.OpenShut
import Derived.OrdersHeld
import Derived.OwnWalk
import Derived.ProofKit
import Derived.SevenTiedAt
import Derived.Shelf.LaysM
import Derived.Shelf.Strconv.ErrVarParseInt
import Derived.Shelf.Strconv.Itoa0
import Derived.Shelf.Strconv.Itoa1
import Derived.Shelf.Strconv.Itoa2
import Derived.Shelf.Strconv.Itoa3
import Derived.Shelf.Strconv.Itoa4
import Derived.Shelf.Strconv.ParseIntPublic10
import Derived.Shelf.Strings.Builder1
import Derived.Shelf.Strings.Builder2
import Derived.Shelf.Strings.Count
import Derived.Shelf.Strings.Cut
import Derived.Shelf.Strings.Explode
import Derived.Shelf.Strings.OnBuilder
import Derived.Shelf.Strings.Replace
import Derived.Shelf.Strings.RuneCount
import Derived.Shelf.Strings.Search1
import Derived.Shelf.Strings.Search2
import Derived.Shelf.Strings.Search3
import Derived.Shelf.Strings.Shaped
import Derived.Shelf.Strings.Split
import Derived.Shelf.Strings.SplitShaped
import Derived.Shelf.Unicode.Decode
import Derived.Shelf.Unicode.DecodeAny
import Derived.Shelf.Unicode.DecodeSlow
import Derived.Shelf.Utf8.RuneCount
import Derived.Shelf.Vars
import Derived.StillTail
import Derived.Stop.Joined
import Derived.Stop.LaidErr
import Derived.Test.YtkfmlehhbanopaaGreatDoorCards
import Derived.Test.YtkfmlehhbanopaaGreatDoorRows
import Derived.Test.YtkfmlehhbanopaaGreatDoorTie
import Derived.WalkKit
import Derived.WideKeyArgs
namespace Go.Proofs.YtkfmlehhbanopaaGreatDoor
set_option linter.unusedVariables false
set_option linter.unusedSimpArgs false
theorem sj {α : Type} {a b : α} (h : some a = some b) : a = b := Option.some.inj h
section
open Go.RowKit
def inR (n lo hi:Int):Bool:=decide (lo≤n) && decide (n≤hi)
def isKind (k:Int):Bool:=decide (1≤k) && decide (k≤12)
def isLevel (k:Int):Bool:=decide (0≤k) && decide (k≤8)
def hasLevel (k:Int):Bool:=decide (2≤k) && decide (k≤12) && decide (k ≠ 5) && decide (k ≠ 6)
def allowed (k l:Int):Bool:=isKind k && (decide (l=0)||(hasLevel k && isLevel l))
theorem retB {b c:Bool} (h:b=c):Ending.returned (.bool b)=.returned (.bool c):=by rw [h]
theorem retI {k:IntKind} {a b:Int} (h:a=b):Ending.returned (.int k a)=.returned (.int k b):=by rw [h]
def portsOf (k f:Int):Int:=
  if k=9 then (if 0≤f∧f≤3 then f+1 else 0)
  else if f ≠ 0 then 0
  else if k=1 ∨ k=5 ∨ k=6 ∨ k=12 then 1
  else if k=8 ∨ k=10 ∨ k=11 then 2
  else if k=2 ∨ k=3 ∨ k=4 ∨ k=7 then 3 else 0
end
section
open Go.RowKit
theorem spec_HasLevel (k:Int) (w:World):Calls Tryz.prog 60 #[.int .i64 k] w fun e w'=>e=.returned (.bool (hasLevel k))∧w=w':=by
  go_enter Tryz.func60,Tryz.ntmps60
  go_wp2
  all_goals go_ret
  all_goals refine ⟨retB ?_,rfl⟩
  all_goals (simp only [beq_iff_eq,beq_eq_false_iff_ne] at *)
  all_goals (rw [Bool.eq_iff_iff]; simp [hasLevel]; try omega)
theorem impl_isKind (k:Int) (w:World):Calls Tryz.prog 104 #[.int .i64 k] w fun e w'=>e=.returned (.bool (isKind k))∧w=w':=by
  go_enter Tryz.func104,Tryz.ntmps104
  go_wp2
  all_goals go_ret
  all_goals refine ⟨retB ?_,rfl⟩
  all_goals (rw [Bool.eq_iff_iff]; simp [isKind]; try omega)
theorem impl_HasLevel (k:Int) (w:World):Calls Tryz.prog 70 #[.int .i64 k] w fun e w'=>e=.returned (.bool (hasLevel k))∧w=w':=by
  go_enter Tryz.func70,Tryz.ntmps70
  go_wp2_with (go_at_call 104; refine (impl_isKind _ _).mono ?_; rintro e w' ⟨rfl,rfl⟩)
  all_goals go_ret
  all_goals refine ⟨retB ?_,rfl⟩
  all_goals (rw [Bool.eq_iff_iff]; simp_all [hasLevel,isKind]; try omega)
theorem spec_l00In (n lo hi:Int) (w:World):Calls Tryz.prog 57 #[.int .i64 n,.int .i64 lo,.int .i64 hi] w fun e w'=>e=.returned (.bool (inR n lo hi))∧w=w':=by
  go_enter Tryz.func57,Tryz.ntmps57
  go_wp2
  all_goals go_ret
  all_goals refine ⟨retB ?_,rfl⟩
  all_goals (rw [Bool.eq_iff_iff]; simp_all [inR]; try omega)
theorem spec_l10Kind (k:Int) (w:World):Calls Tryz.prog 93 #[.int .i64 k] w fun e w'=>e=.returned (.bool (isKind k))∧w=w':=by
  go_enter Tryz.func93,Tryz.ntmps93
  go_wp2_with (go_at_call 57; refine (spec_l00In _ _ _ _).mono ?_; rintro e w' ⟨rfl,rfl⟩)
  all_goals go_ret
  all_goals exact ⟨retB rfl,rfl⟩
theorem impl_isLevel (k:Int) (w:World):Calls Tryz.prog 116 #[.int .i64 k] w fun e w'=>e=.returned (.bool (isLevel k))∧w=w':=by
  go_enter Tryz.func116,Tryz.ntmps116
  go_wp2
  all_goals go_ret
  all_goals refine ⟨retB ?_,rfl⟩
  all_goals (rw [Bool.eq_iff_iff]; simp_all [isLevel]; try omega)
theorem spec_l10Level (k l:Int) (w:World):Calls Tryz.prog 91 #[.int .i64 k,.int .i64 l] w fun e w'=>e=.returned (.bool (allowed k l))∧w=w':=by
  go_enter Tryz.func91,Tryz.ntmps91
  go_wp2_with (first|(go_at_call 60; refine (spec_HasLevel _ _).mono ?_; rintro e w' ⟨rfl,rfl⟩)|(go_at_call 57; refine (spec_l00In _ _ _ _).mono ?_; rintro e w' ⟨rfl,rfl⟩)|(go_at_call 93; refine (spec_l10Kind _ _).mono ?_; rintro e w' ⟨rfl,rfl⟩))
  all_goals go_ret
  all_goals refine ⟨retB ?_,rfl⟩
  all_goals (rw [Bool.eq_iff_iff]; simp_all [allowed,isKind,hasLevel,isLevel,inR]; try omega)
theorem impl_isAllowed (k l:Int) (w:World):Calls Tryz.prog 98 #[.int .i64 k,.int .i64 l] w fun e w'=>e=.returned (.bool (allowed k l))∧w=w':=by
  go_enter Tryz.func98,Tryz.ntmps98
  go_wp2_with (first|(go_at_call 70; refine (impl_HasLevel _ _).mono ?_; rintro e w' ⟨rfl,rfl⟩)|(go_at_call 104; refine (impl_isKind _ _).mono ?_; rintro e w' ⟨rfl,rfl⟩)|(go_at_call 116; refine (impl_isLevel _ _).mono ?_; rintro e w' ⟨rfl,rfl⟩))
  all_goals go_ret
  all_goals refine ⟨retB ?_,rfl⟩
  all_goals (rw [Bool.eq_iff_iff]; simp_all [allowed,isKind,hasLevel,isLevel]; try omega)
theorem spec_PortsOf (k f:Int) (w:World):Calls Tryz.prog 89 #[.int .i64 k,.int .i64 f] w fun e w'=>e=.returned (.int .i64 (portsOf k f))∧w=w':=by
  go_enter Tryz.func89,Tryz.ntmps89
  go_wp2_with (go_at_call 57; refine (spec_l00In _ _ _ _).mono ?_; rintro e w' ⟨rfl,rfl⟩)
  all_goals go_ret
  all_goals refine ⟨retI ?_,rfl⟩
  all_goals (first|grind [portsOf,inR]|(unfold wrap64; grind [portsOf,inR]))
theorem ports_idx (k:Int) (h1:1≤k) (h2:k≤12) (h9:k ≠ 9) (w:World) :
    (Instr.index 131 (.agg #[.int .i64 0,.int .i64 1,.int .i64 3,.int .i64 3,.int .i64 3,.int .i64 1,.int .i64 1,.int .i64 3,.int .i64 2,.int .i64 0,.int .i64 2,.int .i64 2,.int .i64 1]) (.int .i64 k)).run Tryz.prog w=.ok (.int .i64 (portsOf k 0)) w:=by
  have hk:k=1 ∨ k=2 ∨ k=3 ∨ k=4 ∨ k=5 ∨ k=6 ∨ k=7 ∨ k=8 ∨ k=10 ∨ k=11 ∨ k=12:=by omega
  rcases hk with rfl|rfl|rfl|rfl|rfl|rfl|rfl|rfl|rfl|rfl|rfl <;> (show _=_; kernel_rfl)
theorem impl_PortsOf (k f:Int) (w:World):Calls Tryz.prog 96 #[.int .i64 k,.int .i64 f] w fun e w'=>e=.returned (.int .i64 (portsOf k f))∧w=w':=by
  by_cases h9:k=9
  · subst h9
    go_enter Tryz.func96,Tryz.ntmps96
    go_wp2_with (go_at_call 104; refine (impl_isKind _ _).mono ?_; rintro e w' ⟨rfl,rfl⟩)
    all_goals go_ret
    all_goals refine ⟨retI ?_,rfl⟩
    all_goals grind [portsOf]
  · have h9':(k==9)=false:=by simp [h9]
    by_cases hk:1≤k∧k≤12
    · obtain ⟨h1,h2⟩:=hk
      have hx:=ports_idx k h1 h2 h9
      have hik:isKind k=true:=by simp [isKind]; omega
      by_cases hf:f=0
      · subst hf
        go_enter Tryz.func96,Tryz.ntmps96
        go_wp2_with (go_at_call 104; refine (impl_isKind _ _).mono ?_; rintro e w' ⟨rfl,rfl⟩)
        all_goals go_ret
        all_goals exact ⟨rfl,rfl⟩
      · have hf':(f != 0)=true:=by simp [hf]
        go_enter Tryz.func96,Tryz.ntmps96
        go_wp2_with (go_at_call 104; refine (impl_isKind _ _).mono ?_; rintro e w' ⟨rfl,rfl⟩)
        all_goals go_ret
        all_goals refine ⟨retI ?_,rfl⟩
        all_goals grind [portsOf]
    · have hik:isKind k=false:=by simp [isKind]; omega
      go_enter Tryz.func96,Tryz.ntmps96
      go_wp2_with (go_at_call 104; refine (impl_isKind _ _).mono ?_; rintro e w' ⟨rfl,rfl⟩)
      all_goals go_ret
      all_goals refine ⟨retI ?_,rfl⟩
      all_goals grind [portsOf]
end
section
open Go.RowKit
def kindName (k:Int):ByteArray:=
  if k=1 then ⟨#[114,111,111,116]⟩ else if k=2 then ⟨#[108,97,109]⟩ else if k=3 then ⟨#[97,112,112]⟩ else if k=4 then ⟨#[102,97,110]⟩ else if k=5 then ⟨#[101,114,97]⟩ else if k=6 then ⟨#[110,117,109]⟩ else if k=7 then ⟨#[111,112]⟩ else if k=8 then ⟨#[111,112,49]⟩ else if k=9 then ⟨#[99,111,110]⟩ else if k=10 then ⟨#[109,97,116]⟩ else if k=11 then ⟨#[115,119,105]⟩ else if k=12 then ⟨#[114,101,102]⟩ else ⟨#[]⟩
theorem kindName_out {k:Int} (h:k < 1 ∨ 12 < k):kindName k=⟨#[]⟩:=by
  unfold kindName
  rw [if_neg (by omega),if_neg (by omega),if_neg (by omega),if_neg (by omega),if_neg (by omega),if_neg (by omega),if_neg (by omega),if_neg (by omega),if_neg (by omega),if_neg (by omega),if_neg (by omega),if_neg (by omega)]
def KindsAt (w:World):Prop:=∀j:Nat,j < 12→w.cell? ⟨0,j,none⟩=some (.string (kindName ((j:Int)+1)))
theorem kinds_all {w:World} (h:KindsAt w):w.cell? ⟨0,0,none⟩=some (.string (kindName 1))∧w.cell? ⟨0,1,none⟩=some (.string (kindName 2))∧w.cell? ⟨0,2,none⟩=some (.string (kindName 3))∧w.cell? ⟨0,3,none⟩=some (.string (kindName 4))∧w.cell? ⟨0,4,none⟩=some (.string (kindName 5))∧w.cell? ⟨0,5,none⟩=some (.string (kindName 6))∧w.cell? ⟨0,6,none⟩=some (.string (kindName 7))∧w.cell? ⟨0,7,none⟩=some (.string (kindName 8))∧w.cell? ⟨0,8,none⟩=some (.string (kindName 9))∧w.cell? ⟨0,9,none⟩=some (.string (kindName 10))∧w.cell? ⟨0,10,none⟩=some (.string (kindName 11))∧w.cell? ⟨0,11,none⟩=some (.string (kindName 12)):=
  ⟨h 0 (by decide),h 1 (by decide),h 2 (by decide),h 3 (by decide),h 4 (by decide),h 5 (by decide),h 6 (by decide),h 7 (by decide),h 8 (by decide),h 9 (by decide),h 10 (by decide),h 11 (by decide)⟩
theorem KindsAt.below {w w':World} (h:KindsAt w) (hb:Below w.heap.size w w'):KindsAt w':=fun j hj=>by
  have h1:=h j hj
  have h0:0 < w.heap.size:=by
    by_cases h2:0 < w.heap.size
    · exact h2
    · simp [World.cell?,show ¬ (0 < w.heap.size) from h2] at h1
  rw [← h1]
  unfold World.cell?
  rw [hb.block 0 h0]
set_option maxHeartbeats 2000000 in
theorem impl_KindName (k:Int) (w:World) (hg:KindsAt w):Calls Tryz.prog 69 #[.int .i64 k] w fun e w'=>e=.returned (.string (kindName k))∧Below w.heap.size w w':=by
  have hr:=Below.refl w.heap.size w
  by_cases hk:k < 1 ∨ 12 < k
  · have he:=Lib.hid (kindName_out hk)
    have hi:isKind k=false:=by simp [isKind,inR]; omega
    clear hg
    go_enter Tryz.func69,Tryz.ntmps69
    go_wp2_with (go_at_call 104; refine (impl_isKind _ _).mono ?_; rintro e w' ⟨rfl,rfl⟩)
    all_goals go_ret
    all_goals exact ⟨by rw [he.out]; rfl,hr⟩
  · have hi:isKind k=true:=by simp [isKind,inR]; omega
    have hk:k=1 ∨ k=2 ∨ k=3 ∨ k=4 ∨ k=5 ∨ k=6 ∨ k=7 ∨ k=8 ∨ k=9 ∨ k=10 ∨ k=11 ∨ k=12:=by omega
    obtain ⟨g1,g2,g3,g4,g5,g6,g7,g8,g9,g10,g11,g12⟩:=kinds_all hg
    clear hg
    rcases hk with rfl|rfl|rfl|rfl|rfl|rfl|rfl|rfl|rfl|rfl|rfl|rfl
    all_goals
      go_enter Tryz.func69,Tryz.ntmps69
      go_wp2_with (go_at_call 104; refine (impl_isKind _ _).mono ?_; rintro e w' ⟨rfl,rfl⟩)
      go_ret
      exact ⟨rfl,hr⟩
def kindCells:Array Value:=#[.string (kindName 1),.string (kindName 2),.string (kindName 3),.string (kindName 4),.string (kindName 5),.string (kindName 6),.string (kindName 7),.string (kindName 8),.string (kindName 9),.string (kindName 10),.string (kindName 11),.string (kindName 12)]
theorem spec_l10Kinds (w:World):Calls Tryz.prog 79 #[] w fun e w'=>e=.returned (.slice (some ⟨w.heap.size,0,none⟩) 12 12)∧w'=w.alloc (.cells kindCells 9):=by
  go_enter Tryz.func79,Tryz.ntmps79
  go_wp2
  go_ret
  exact ⟨rfl,rfl⟩
set_option maxHeartbeats 2000000 in
theorem spec_KindName (k:Int) (w:World):Calls Tryz.prog 59 #[.int .i64 k] w fun e w'=>e=.returned (.string (kindName k))∧Below w.heap.size w w':=by
  have hb :∀o,Below w.heap.size w (w.alloc o):=fun o=>(Below.refl _ _).alloc (Nat.le_refl _) o
  have hr:=Below.refl w.heap.size w
  by_cases hk:k < 1 ∨ 12 < k
  · have he:=Lib.hid (kindName_out hk)
    have hi:isKind k=false:=by simp [isKind,inR]; omega
    go_enter Tryz.func59,Tryz.ntmps59
    go_wp2_with (go_at_call 93; refine (spec_l10Kind _ _).mono ?_; rintro e w' ⟨rfl,rfl⟩)
    all_goals go_ret
    all_goals exact ⟨by rw [he.out]; rfl,hr⟩
  · have hi:isKind k=true:=by simp [isKind,inR]; omega
    have hk:k=1 ∨ k=2 ∨ k=3 ∨ k=4 ∨ k=5 ∨ k=6 ∨ k=7 ∨ k=8 ∨ k=9 ∨ k=10 ∨ k=11 ∨ k=12:=by omega
    rcases hk with rfl|rfl|rfl|rfl|rfl|rfl|rfl|rfl|rfl|rfl|rfl|rfl
    all_goals
      go_enter Tryz.func59,Tryz.ntmps59
      go_wp2_with (first|(go_at_call 93; refine (spec_l10Kind _ _).mono ?_; rintro e w' ⟨rfl,rfl⟩)|(go_at_call 79; refine (spec_l10Kinds _).mono ?_; rintro e w' ⟨rfl,rfl⟩; simp only [kindCells]))
      go_ret
      exact ⟨rfl,hb _⟩
end
section
open Go.RowKit
abbrev Rd (α:Type):=World→Nat→List Value→α→Prop
/-- What every reading meets: it is of 'sz' cells; it stays while the cells below B stay; it may look further up. -/
structure RdOk {α:Type} (R:Rd α) (sz:Nat):Prop where
  len :∀{w B cs x},R w B cs x→cs.length=sz
  keep :∀{w w':World} {B cs x},(∀p:Addr,p.block < B→w'.cell? p=w.cell? p)→R w B cs x→R w' B cs x
  more :∀{w B B' cs x},B≤B'→R w B cs x→R w B' cs x
/-- The elements of a slice at address A, n of them, each of 'sz' cells. -/
def SlAt {α:Type} (R:Rd α) (sz:Nat) (w:World) (B:Nat) (A:Option Addr) (n:Nat) (xs:List α):Prop:=
  n=xs.length∧(0 < n→∃b off,A=some ⟨b,off,none⟩∧b < B∧
    ∀i x,xs[i]? = some x→∃cs,R w B cs x∧∀j v,cs[j]? = some v→w.cell? ⟨b,off+i * sz+j,none⟩=some v)
def intRd:Rd Int:=fun _ _ cs n=>cs=[.int .i64 n]
def boolRd:Rd Bool:=fun _ _ cs b=>cs=[.bool b]
def strRd:Rd ByteArray:=fun _ _ cs s=>cs=[.string s]
theorem intRd_ok:RdOk intRd 1:=⟨fun h=>by cases h; rfl,fun _ h=>h,fun _ h=>h⟩
section
variable {α : Type} {R : Rd α} {sz : Nat} {w w' : World} {B B' n : Nat} {A : Option Addr} {xs : List α}
theorem SlAt.len (h:SlAt R sz w B A n xs):n=xs.length:=h.1
theorem SlAt.none_:SlAt R sz w B A 0 []:=⟨rfl,fun h=>absurd h (by omega)⟩
theorem SlAt.keep (ok:RdOk R sz) (hk :∀p:Addr,p.block < B→w'.cell? p=w.cell? p) (h:SlAt R sz w B A n xs):SlAt R sz w' B A n xs:=
  ⟨h.1,fun hn=>by
    obtain ⟨b,off,e,hb,hc⟩:=h.2 hn
    exact ⟨b,off,e,hb,fun i x hx=>by
      obtain ⟨cs,hR,hv⟩:=hc i x hx
      exact ⟨cs,ok.keep hk hR,fun j v hj=>(hk _ hb).trans (hv j v hj)⟩⟩⟩
theorem SlAt.more (ok:RdOk R sz) (hB:B≤B') (h:SlAt R sz w B A n xs):SlAt R sz w B' A n xs:=
  ⟨h.1,fun hn=>by
    obtain ⟨b,off,e,hb,hc⟩:=h.2 hn
    exact ⟨b,off,e,by omega,fun i x hx=>by
      obtain ⟨cs,hR,hv⟩:=hc i x hx
      exact ⟨cs,ok.more hB hR,hv⟩⟩⟩
theorem SlAt.below (ok:RdOk R sz) (h:SlAt R sz w B A n xs) (hb:Below B w w'):SlAt R sz w' B A n xs:=h.keep ok fun _ hp=>hb.cell hp
theorem SlAt.at_ (h:SlAt R sz w B A n xs) {k:Nat} (hk:k < n) :∃b off x cs,A=some ⟨b,off,none⟩∧b < B∧xs[k]? = some x∧R w B cs x∧∀j v,cs[j]? = some v→w.cell? ⟨b,off+k * sz+j,none⟩=some v:=by
  obtain ⟨b,off,e,hb,hc⟩:=h.2 (by omega)
  have hl:k < xs.length:=by have:=h.1; omega
  obtain ⟨cs,hR,hv⟩:=hc k xs[k] (List.getElem?_eq_getElem hl)
  exact ⟨b,off,xs[k],cs,e,hb,List.getElem?_eq_getElem hl,hR,hv⟩
end
theorem SlAt.int {w:World} {B n:Nat} {A:Option Addr} {xs:List Int} (h:SlAt intRd 1 w B A n xs) {k:Nat} (hk:k < n) :
    ∃b off x,A=some ⟨b,off,none⟩∧b < B∧xs[k]? = some x∧w.cell? ⟨b,off+k,none⟩=some (.int .i64 x):=by
  obtain ⟨b,off,x,cs,e,hb,hx,rfl,hc⟩:=h.at_ hk
  exact ⟨b,off,x,e,hb,hx,by simpa using hc 0 _ rfl⟩
theorem SlAt.bool {w:World} {B n:Nat} {A:Option Addr} {xs:List Bool} (h:SlAt boolRd 1 w B A n xs) {k:Nat} (hk:k < n) :
    ∃b off x,A=some ⟨b,off,none⟩∧b < B∧xs[k]? = some x∧w.cell? ⟨b,off+k,none⟩=some (.bool x):=by
  obtain ⟨b,off,x,cs,e,hb,hx,rfl,hc⟩:=h.at_ hk
  exact ⟨b,off,x,e,hb,hx,by simpa using hc 0 _ rfl⟩
theorem take_succ_some {α:Type} {l:List α} {k:Nat} {x:α} (h:l[k]? = some x):l.take (k+1)=l.take k ++ [x]:=by
  rw [List.take_add_one,h]; rfl
theorem lt_of_some {α:Type} {l:List α} {k:Nat} {x:α} (h:l[k]? = some x):k < l.length:=(List.getElem?_eq_some_iff.1 h).1
def eqL {α:Type} [DecidableEq α] (a b:List α):Bool:=decide (a=b)
theorem eqL_step {α:Type} {xs ys:List α} {k:Nat} {x y:α} (hx:xs[k]? = some x) (hy:ys[k]? = some y) (h:xs.take k=ys.take k) (e:x=y):xs.take (k+1)=ys.take (k+1):=by
  rw [take_succ_some hx,take_succ_some hy,h,e]
theorem eqL_no {α:Type} [DecidableEq α] {xs ys:List α} {k:Nat} {x y:α} (hx:xs[k]? = some x) (hy:ys[k]? = some y) (e:x ≠ y):eqL xs ys=false:=by
  unfold eqL
  refine decide_eq_false fun he=>e ?_
  subst he
  rw [hx] at hy
  injection hy
theorem eqL_len {α:Type} [DecidableEq α] {xs ys:List α} (h:xs.length ≠ ys.length):eqL xs ys=false:=decide_eq_false fun he=>h (by rw [he])
theorem eqL_yes {α:Type} [DecidableEq α] {xs ys:List α} {k:Nat} (h:xs.take k=ys.take k) (h1:xs.length≤k) (h2:ys.length≤k):eqL xs ys=true:=by
  rw [List.take_of_length_le h1,List.take_of_length_le h2] at h
  exact decide_eq_true h
end
section
open Go.RowKit
abbrev Ow (α:Type):=World→List Value→α→List Nat→Prop
structure OwOk {α:Type} (O:Ow α) (sz:Nat):Prop where
  len :∀{w cs x bs},O w cs x bs→cs.length=sz
  keep :∀{w w':World} {cs x bs},(∀b∈bs,w'.heap[b]? = w.heap[b]?)→O w cs x bs→O w' cs x bs
/-- The cells cs lie at b, o and may be written. -/
def CsAt (w:World) (b o:Nat) (cs:List Value):Prop:=∀j v,cs[j]? = some v→w.cell? ⟨b,o+j,none⟩=some v∧w.frozen? ⟨b,o+j,none⟩=false
def ElAt {α:Type} (O:Ow α) (sz:Nat) (w:World) (b:Nat):Nat→List α→List Nat→Prop
  |_,[],bs=>bs=[]
  |o,x :: xs,bs=>∃cs b1 b2,O w cs x b1∧CsAt w b o cs∧bs=b1 ++ b2∧ElAt O sz w b (o+sz) xs b2
def OwAt {α:Type} (O:Ow α) (sz:Nat) (w:World) (A:Option Addr) (n:Nat) (xs:List α) (bs:List Nat):Prop:=
  n=xs.length∧((xs=[]∧bs=[]) ∨∃b o b2,A=some ⟨b,o,none⟩∧bs=b :: b2∧ElAt O sz w b o xs b2)
def intOw:Ow Int:=fun _ cs n bs=>cs=[.int .i64 n]∧bs=[]
def strOw:Ow ByteArray:=fun _ cs n bs=>cs=[.string n]∧bs=[]
theorem intOw_ok:OwOk intOw 1:=⟨fun h=>by rw [h.1]; rfl,fun _ h=>h⟩
def Gives {α:Type} (O:Ow α) (R:Rd α) (B:Nat):Prop:=∀w cs x bs,O w cs x bs→(∀k∈bs,k < B)→R w B cs x
/-- Only the blocks of bs may have turned. -/
structure Only (bs:List Nat) (w w':World):Prop where
  os:w'.os=w.os
  tape:w'.tape=w.tape
  output:w'.output=w.output
  size:w'.heap.size=w.heap.size
  block :∀k,k ∉ bs→w'.heap[k]? = w.heap[k]?
section
variable {w w' w'' : World} {bs bs' : List Nat}
theorem Only.refl (bs:List Nat) (w:World):Only bs w w:=⟨rfl,rfl,rfl,rfl,fun _ _=>rfl⟩
theorem Only.trans (h:Only bs w w') (h':Only bs w' w''):Only bs w w'':=
  ⟨h'.os.trans h.os,h'.tape.trans h.tape,h'.output.trans h.output,h'.size.trans h.size,fun k hk=>(h'.block k hk).trans (h.block k hk)⟩
theorem Only.mono (h:Only bs w w') (hb :∀b∈bs,b∈bs'):Only bs' w w':=⟨h.os,h.tape,h.output,h.size,fun k hk=>h.block k (fun hin=>hk (hb k hin))⟩
theorem Only.setCell (h:Only bs w w') {p:Addr} (hp:p.block∈bs) (u:Value):Only bs w (w'.setCell p u):=
  h.trans ⟨rfl,rfl,rfl,by simp [World.setCell],fun k hk=>Below.heap_setCell _ _ _ _ (fun e=>hk (by rw [e]; exact hp))⟩
theorem Only.drew (h:Only bs w w'):Only bs w w'.drew:=⟨h.os,h.tape,h.output,h.size,h.block⟩
theorem Only.drewN (h:Only bs w w') (n:Nat):Only bs w (w'.drewN n):=⟨h.os,h.tape,h.output,h.size,h.block⟩
theorem Only.below {B:Nat} (h:Only bs w w') (hb :∀b∈bs,B≤b):Below B w w':=
  ⟨h.os,h.tape,h.output,by rw [h.size]; exact Nat.le_refl _,fun k hk=>h.block k (fun hin=>by have:=hb k hin; omega)⟩
theorem CsAt.keep {b o:Nat} {cs:List Value} (h:CsAt w b o cs) (hb:w'.heap[b]? = w.heap[b]?):CsAt w' b o cs:=fun j v hj=>
  ⟨(World.cell?_of_block (w:=w) (a:=⟨b,o+j,none⟩) hb).trans (h j v hj).1,(World.frozen?_of_block (w:=w) (a:=⟨b,o+j,none⟩) hb).trans (h j v hj).2⟩
end
section
variable {α : Type} {O : Ow α} {sz : Nat} {w w' : World} {b o n : Nat} {A : Option Addr} {xs ys : List α} {bs : List Nat}
theorem ElAt.keep (ok:OwOk O sz) :∀{xs:List α} {o:Nat} {bs:List Nat},(w'.heap[b]? = w.heap[b]?)→(∀k∈bs,w'.heap[k]? = w.heap[k]?)→ElAt O sz w b o xs bs→ElAt O sz w' b o xs bs
  |[],_,_,_,_,h=>h
  |x :: xs,o,_,hb,hbs,⟨cs,b1,b2,hO,hc,e,hr⟩=>by
    subst e
    exact ⟨cs,b1,b2,ok.keep (fun k hk=>hbs k (by simp [hk])) hO,hc.keep hb,rfl,ElAt.keep ok hb (fun k hk=>hbs k (by simp [hk])) hr⟩
theorem ElAt.append :∀{xs ys:List α} {o:Nat} {b1 b2:List Nat},ElAt O sz w b o xs b1→ElAt O sz w b (o+xs.length * sz) ys b2→ElAt O sz w b o (xs ++ ys) (b1 ++ b2)
  |[],ys,o,b1,b2,h1,h2=>by
    have h1:b1=[]:=h1
    subst h1
    simpa using h2
  |x :: xs,ys,o,b1,b2,⟨cs,c1,c2,hO,hc,e,hr⟩,h2=>by
    subst e
    refine ⟨cs,c1,c2 ++ b2,hO,hc,by simp,ElAt.append hr ?_⟩
    have e:o+sz+xs.length * sz=o+(x :: xs).length * sz:=by simp [Nat.add_mul]; omega
    rw [e]
    exact h2
theorem ElAt.split :∀{xs ys:List α} {o:Nat} {bs:List Nat},ElAt O sz w b o (xs ++ ys) bs→∃b1 b2,bs=b1 ++ b2∧ElAt O sz w b o xs b1∧ElAt O sz w b (o+xs.length * sz) ys b2
  |[],ys,o,bs,h=>⟨[],bs,rfl,rfl,by simpa using h⟩
  |x :: xs,ys,o,bs,⟨cs,c1,c2,hO,hc,e,hr⟩=>by
    obtain ⟨b1,b2,e2,h1,h2⟩:=ElAt.split hr
    subst e2
    subst e
    refine ⟨c1 ++ b1,b2,by simp,⟨cs,c1,b1,hO,hc,rfl,h1⟩,?_⟩
    have e:o+sz+xs.length * sz=o+(x :: xs).length * sz:=by simp [Nat.add_mul]; omega
    rw [e] at h2
    exact h2
theorem ElAt.one {x:α} {cs:List Value} {b1:List Nat} (hO:O w cs x b1) (hc:CsAt w b o cs):ElAt O sz w b o [x] b1:=⟨cs,b1,[],hO,hc,by simp,rfl⟩
/-- It reads: elements by their index. -/
theorem ElAt.reads {R:Rd α} {B:Nat} (hR:Gives O R B) :∀{xs:List α} {o:Nat} {bs:List Nat},ElAt O sz w b o xs bs→(∀k∈bs,k < B)→
    ∀i x,xs[i]? = some x→∃cs,R w B cs x∧∀j v,cs[j]? = some v→w.cell? ⟨b,o+i * sz+j,none⟩=some v
  |[],_,_,_,_,i,x,hx=>by simp at hx
  |y :: ys,o,_,⟨cs,b1,b2,hO,hc,e,hr⟩,hlt,i,x,hx=>by
    subst e
    cases i with
    |zero=>
      have hx:y=x:=by simpa using hx
      subst hx
      exact ⟨cs,hR _ _ _ _ hO (fun k hk=>hlt k (by simp [hk])),fun j v hj=>by simpa using (hc j v hj).1⟩
    |succ i=>
      obtain ⟨cs',h1,h2⟩:=ElAt.reads hR hr (fun k hk=>hlt k (by simp [hk])) i x (by simpa using hx)
      refine ⟨cs',h1,fun j v hj=>?_⟩
      have:=h2 j v hj
      have e:o+sz+i * sz+j=o+(i+1) * sz+j:=by simp [Nat.add_mul]; omega
      rw [e] at this
      exact this
theorem OwAt.len (h:OwAt O sz w A n xs bs):n=xs.length:=h.1
theorem OwAt.keep (ok:OwOk O sz) (hb :∀k∈bs,w'.heap[k]? = w.heap[k]?) (h:OwAt O sz w A n xs bs):OwAt O sz w' A n xs bs:=by
  refine ⟨h.1,?_⟩
  rcases h.2 with h2|⟨b,o,b2,e,e2,h2⟩
  · exact .inl h2
  · subst e2
    exact .inr ⟨b,o,b2,e,rfl,h2.keep ok (hb b (by simp)) (fun k hk=>hb k (by simp [hk]))⟩
theorem OwAt.reads {R:Rd α} {B:Nat} (hR:Gives O R B) (h:OwAt O sz w A n xs bs) (hlt :∀k∈bs,k < B):SlAt R sz w B A n xs:=by
  refine ⟨h.1,fun hn=>?_⟩
  rcases h.2 with ⟨e,_⟩|⟨b,o,b2,e,e2,h2⟩
  · have:=h.1; rw [e] at this; simp at this; omega
  · subst e2
    exact ⟨b,o,e,hlt b (by simp),h2.reads hR (fun k hk=>hlt k (by simp [hk]))⟩
theorem intOw_reads (B:Nat):Gives intOw intRd B:=fun _ _ _ _ h _=>h.1
end
def Blk (w:World) (g:Nat) (t:TypeId) (cs:Array Value):Prop:=w.heap[g]? = some (.cells cs t (0,0))
section
variable {w w' : World} {g : Nat} {t : TypeId} {cs : Array Value}
theorem Blk.lt (h:Blk w g t cs):g < w.heap.size:=by
  rcases Nat.lt_or_ge g w.heap.size with hlt|hge
  · exact hlt
  · unfold Blk at h; rw [Array.getElem?_eq_none hge] at h; cases h
theorem Blk.cell (h:Blk w g t cs) (i:Nat):w.cell? ⟨g,i,none⟩=cs[i]?:=cell_of_row w g i cs t (0,0) h
theorem Blk.frozen (h:Blk w g t cs) (i:Nat):w.frozen? ⟨g,i,none⟩=false:=by
  unfold Blk at h
  simp [World.frozen?,h]
theorem Blk.new (w:World) (t:TypeId) (cs:Array Value):Blk (w.alloc (.cells cs t)) w.heap.size t cs:=heap_alloc_new w _
theorem Blk.alloc (h:Blk w g t cs) (o:Obj):Blk (w.alloc o) g t cs:=(Below.heap_alloc w o g h.lt).trans h
theorem Blk.drew (h:Blk w g t cs):Blk w.drew g t cs:=h
theorem Blk.drewN (h:Blk w g t cs) (n:Nat):Blk (w.drewN n) g t cs:=h
theorem Blk.far (h:Blk w g t cs) {p:Addr} (hp:g ≠ p.block) (u:Value):Blk (w.setCell p u) g t cs:=(Below.heap_setCell w p u g hp).trans h
theorem Blk.below {B:Nat} (h:Blk w g t cs) (hb:Below B w w') (hg:g < B):Blk w' g t cs:=(hb.block g hg).trans h
theorem Blk.csAt (h:Blk w g t cs) {o:Nat} {l:List Value} (hl :∀j v,l[j]? = some v→cs[o+j]? = some v):CsAt w g o l:=fun j v hj=>
  ⟨by rw [h.cell]; exact hl j v hj,h.frozen _⟩
end
theorem CsAt.nil {w:World} {b o:Nat} : CsAt w b o []:=fun j v hj=>by simp at hj
theorem CsAt.cons {w:World} {b o:Nat} {v:Value} {vs:List Value} (h1:w.cell? ⟨b,o,none⟩=some v) (h2:w.frozen? ⟨b,o,none⟩=false) (h:CsAt w b (o+1) vs):CsAt w b o (v :: vs):=fun j u hj=>by
  cases j with
  | zero => have hj : v = u := by simpa using hj
            subst hj; exact ⟨h1,h2⟩
  | succ j => have := h j u (by simpa using hj)
              rwa [show o+1+j=o+(j+1) by omega] at this
theorem CsAt.keepC {w w':World} {b o:Nat} {cs:List Value} (h:CsAt w b o cs) (hk :∀j,j < cs.length→w'.cell? ⟨b,o+j,none⟩=w.cell? ⟨b,o+j,none⟩∧w'.frozen? ⟨b,o+j,none⟩=w.frozen? ⟨b,o+j,none⟩):CsAt w' b o cs:=fun j v hj=>by
  obtain ⟨e1,e2⟩:=hk j (lt_of_some hj)
  rw [e1,e2]
  exact h j v hj
/-- The cells of an element are stored one behind the other. -/
def setRun (w:World) (b:Nat):Nat→List Value→World
  |_,[]=>w
  |o,v :: vs=>setRun (w.setCell ⟨b,o,none⟩ v) b (o+1) vs
theorem setRun_block {b:Nat} :∀{vs:List Value} {w:World} {o k:Nat},k ≠ b→(setRun w b o vs).heap[k]? = w.heap[k]?
  |[],_,_,_,_=>rfl
  |v :: vs,w,o,k,h=>(setRun_block (vs:=vs) h).trans (Below.heap_setCell w ⟨b,o,none⟩ v k h)
theorem setRun_frozen {b:Nat} {a:Addr} :∀{vs:List Value} {w:World} {o:Nat},(setRun w b o vs).frozen? a=w.frozen? a
  |[],_,_=>rfl
  |v :: vs,w,o=>(setRun_frozen (vs:=vs)).trans (World.frozen?_setCell _ _ _ _)
theorem setRun_other {b:Nat} {p:Nat} :∀{vs:List Value} {w:World} {o:Nat},p < o ∨ o+vs.length≤p→(setRun w b o vs).cell? ⟨b,p,none⟩=w.cell? ⟨b,p,none⟩
  |[],_,_,_=>rfl
  |v :: vs,w,o,h=>by
    have h1:(setRun (w.setCell ⟨b,o,none⟩ v) b (o+1) vs).cell? ⟨b,p,none⟩=(w.setCell ⟨b,o,none⟩ v).cell? ⟨b,p,none⟩:=setRun_other (by simp at h; omega)
    refine h1.trans (World.cell?_setCell_other _ _ _ _ (fun e=>?_))
    injection e with _ e2
    simp at h
    omega
theorem setRun_csAt {b:Nat} :∀{vs:List Value} {w:World} {o:Nat},(∀j,j < vs.length→∃u,w.cell? ⟨b,o+j,none⟩=some u)→(∀j,j < vs.length→w.frozen? ⟨b,o+j,none⟩=false)→CsAt (setRun w b o vs) b o vs
  |[],_,_,_,_=>CsAt.nil
  |v :: vs,w,o,h,hf=>by
    obtain ⟨u,hu⟩:=h 0 (by simp)
    refine CsAt.cons ?_ ?_ (setRun_csAt (fun j hj=>?_) (fun j hj=>?_))
    · have h1:(setRun (w.setCell ⟨b,o,none⟩ v) b (o+1) vs).cell? ⟨b,o,none⟩=(w.setCell ⟨b,o,none⟩ v).cell? ⟨b,o,none⟩:=setRun_other (by omega)
      exact h1.trans (World.cell?_setCell_same _ _ _ hu)
    · have h0:w.frozen? ⟨b,o,none⟩=false:=by simpa using hf 0 (by simp)
      exact setRun_frozen.trans h0
    · obtain ⟨u',hu'⟩:=h (j+1) (by simp; omega)
      rw [show o+(j+1)=o+1+j by omega] at hu'
      refine ⟨u',(World.cell?_setCell_other _ _ _ _ (fun e=>?_)).trans hu'⟩
      injection e with _ e2
      omega
    · have:=hf (j+1) (by simp; omega)
      rw [show o+(j+1)=o+1+j by omega] at this
      exact (World.frozen?_setCell _ _ _ _).trans this
section
variable {α : Type} {O : Ow α} {sz : Nat} {w w' : World} {b o n : Nat}
theorem ElAt.keepC (ok:OwOk O sz) :∀{xs:List α} {o:Nat} {bs:List Nat},(∀p,o≤p→p < o+xs.length * sz→w'.cell? ⟨b,p,none⟩=w.cell? ⟨b,p,none⟩∧w'.frozen? ⟨b,p,none⟩=w.frozen? ⟨b,p,none⟩)→
    (∀k∈bs,w'.heap[k]? = w.heap[k]?)→ElAt O sz w b o xs bs→ElAt O sz w' b o xs bs
  |[],_,_,_,_,h=>h
  |x :: xs,o,_,hb,hbs,⟨cs,b1,b2,hO,hc,e,hr⟩=>by
    subst e
    have hl:=ok.len hO
    have e:(x :: xs).length * sz=xs.length * sz+sz:=by simp [Nat.add_mul]
    exact ⟨cs,b1,b2,ok.keep (fun k hk=>hbs k (by simp [hk])) hO,hc.keepC (fun j hj=>hb _ (by omega) (by omega)),rfl,
      ElAt.keepC ok (fun p h1 h2=>hb p (by omega) (by omega)) (fun k hk=>hbs k (by simp [hk])) hr⟩
theorem ElAt.setRun (ok:OwOk O sz) {xs:List α} {o:Nat} {bs:List Nat} {p:Nat} {vs:List Value} (h:ElAt O sz w b o xs bs) (hb:b ∉ bs) (hp:p+vs.length≤o ∨ o+xs.length * sz≤p) :
    ElAt O sz (setRun w b p vs) b o xs bs:=
  h.keepC ok (fun q h1 h2=>⟨setRun_other (by omega),setRun_frozen⟩) (fun k hk=>setRun_block (fun e=>hb (by rw [← e]; exact hk)))
end
def MidAt {α:Type} (O:Ow α) (sz:Nat) (w:World) (A:Option Addr) (done rest:List α) (bs:List Nat):Prop:=
  (done=[]∧rest=[]∧bs=[]) ∨∃b o b1 b2,A=some ⟨b,o,none⟩∧bs=b :: (b1 ++ b2)∧ElAt O sz w b o done b1∧ElAt O sz w b (o+done.length * sz) rest b2
section
variable {α : Type} {O : Ow α} {sz : Nat} {w w' : World} {A : Option Addr} {n : Nat} {done rest xs : List α} {x x' : α} {bs : List Nat}
theorem OwAt.mid (h:OwAt O sz w A n xs bs):MidAt O sz w A [] xs bs:=by
  rcases h.2 with ⟨e1,e2⟩|⟨b,o,b2,e1,e2,h⟩
  · exact .inl ⟨rfl,e1,e2⟩
  · exact .inr ⟨b,o,[],b2,e1,by simpa using e2,rfl,by simpa using h⟩
theorem MidAt.whole (h:MidAt O sz w A done [] bs) (hn:n=done.length):OwAt O sz w A n done bs:=by
  refine ⟨hn,?_⟩
  rcases h with ⟨e1,_,e2⟩|⟨b,o,b1,b2,e1,e2,h,h2⟩
  · exact .inl ⟨e1,e2⟩
  · have h2:b2=[]:=h2
    subst h2
    exact .inr ⟨b,o,b1,e1,by simpa using e2,h⟩
/-- The element that stands next: its cells, its own blocks, and how the step is closed when it has been written. -/
theorem MidAt.next (h:MidAt O sz w A done (x :: rest) bs) :∃b o cs b1 bx b2,A=some ⟨b,o,none⟩∧bs=b :: (b1 ++ (bx ++ b2))∧O w cs x bx∧CsAt w b (o+done.length * sz) cs∧
    ElAt O sz w b o done b1∧ElAt O sz w b (o+done.length * sz+sz) rest b2:=by
  rcases h with ⟨_,e,_⟩|⟨b,o,b1,b2,e1,e2,h1,cs,bx,b3,hO,hc,e3,h2⟩
  · cases e
  · subst e3
    exact ⟨b,o,cs,b1,bx,b3,e1,e2,hO,hc,h1,h2⟩
theorem MidAt.step {b o:Nat} {cs:List Value} {b1 bx b2:List Nat} (hA:A=some ⟨b,o,none⟩) (h1:ElAt O sz w b o done b1) (hO:O w cs x' bx) (hc:CsAt w b (o+done.length * sz) cs)
    (h2:ElAt O sz w b (o+done.length * sz+sz) rest b2):MidAt O sz w A (done ++ [x']) rest (b :: (b1 ++ (bx ++ b2))):=by
  refine .inr ⟨b,o,b1 ++ bx,b2,hA,by simp,ElAt.append h1 (ElAt.one hO hc),?_⟩
  have e:o+(done ++ [x']).length * sz=o+done.length * sz+sz:=by simp [Nat.add_mul]; omega
  rw [e]
  exact h2
end
def marks (k n:Nat):List Int:=(List.range n).map fun i=>((k+i:Nat):Int)
theorem marks_len (k n:Nat):(marks k n).length=n:=by simp [marks]
theorem marks_succ (k n:Nat):marks k (n+1)=marks k n ++ [((k+n:Nat):Int)]:=by simp [marks,List.range_succ]
theorem drop_some {α:Type} {l:List α} {k:Nat} {x:α} (h:l[k]? = some x):l.drop k=x :: l.drop (k+1):=by
  have hl:=lt_of_some h
  rw [List.drop_eq_getElem_cons hl]
  congr 1
  rw [List.getElem?_eq_getElem hl] at h
  injection h
theorem marks_get {k n i:Nat} (hi:i < n):(marks k n)[i]? = some ((k+i:Nat):Int):=by simp [marks,hi]
end
section
open Go.RowKit
def ivals (l:List Int):List Value:=l.map (Value.int .i64)
/-- A row of numbers is a slice of the call's own. -/
theorem ownsRow_ints {w:World} {base:Nat} {e:TypeId} {v:Value} {n:Nat} {xs:List Int} (h:w.ownsRow base e 1 v n (ivals xs)) :∃A c bs,v=.slice A n c∧OwAt intOw 1 w A n xs bs∧bs.Nodup∧(∀b∈bs,base≤b∧b < w.heap.size)∧n≤c∧c≤maxLen:=by
  have hlen:n=xs.length:=by have:=h.1; simp [ivals] at this; omega
  rcases h.2 with ⟨rfl,rfl⟩|⟨g,cap,cur,rfl,hg,hh,h1,h2,h3,h4⟩
  · have:xs=[]:=List.eq_nil_of_length_eq_zero hlen.symm
    subst this
    exact ⟨none,0,[],rfl,⟨rfl,.inl ⟨rfl,rfl⟩⟩,List.nodup_nil,fun b hb=>by simp at hb,Nat.le_refl _,Nat.zero_le _⟩
  · have hblk:Blk w g e cur:=hh
    refine ⟨some ⟨g,0,none⟩,cap,[g],rfl,⟨hlen,.inr ⟨g,0,[],rfl,rfl,?_⟩⟩,by simp,fun b hb=>by simp at hb; subst hb; exact ⟨hg,hblk.lt⟩,h1,h2⟩
    have key :∀(l:List Int) (o:Nat),(∀j x,l[j]? = some x→cur[o+j]? = some (.int .i64 x))→ElAt intOw 1 w g o l []:=by
      intro l
      induction l with
      |nil=>intro o _; rfl
      |cons x l ih=>
        intro o hl
        refine ⟨[.int .i64 x],[],[],⟨rfl,rfl⟩,hblk.csAt (fun j v hj=>?_),rfl,ih (o+1) (fun j y hy=>?_)⟩
        · cases j with
          | zero => have : Value.int .i64 x = v := by simpa using hj
                    subst this; exact hl 0 x rfl
          |succ j=>simp at hj
        · have:=hl (j+1) y (by simpa using hy)
          rwa [show o+(j+1)=o+1+j by omega] at this
    refine key xs 0 (fun j x hx=>?_)
    have hj:(ivals xs)[j]? = some (.int .i64 x):=by simp [ivals,hx]
    rw [← h4,List.getElem?_take] at hj
    split at hj
    · simpa using hj
    · cases hj
/-- A result that is a list of numbers and a code. -/
def RetInts (B:Nat) (w':World) (xs:List Int) (k:Int) (e:Ending):Prop:=
  ∃A n c bs,e=.returned (.tuple #[.slice A n c,.int .i64 k])∧OwAt intOw 1 w' A n xs bs∧bs.Nodup∧(∀b∈bs,B≤b∧b < w'.heap.size)∧n≤c∧c≤maxLen
theorem RetInts.nil_ {B:Nat} {w':World} {k:Int} : RetInts B w' [] k (.returned (.tuple #[.slice none 0 0,.int .i64 k])):=
  ⟨none,0,0,[],rfl,⟨rfl,.inl ⟨rfl,rfl⟩⟩,List.nodup_nil,fun b hb=>by simp at hb,Nat.le_refl _,Nat.zero_le _⟩
theorem RetInts.row {B:Nat} {w':World} {v:Value} {n:Nat} {xs:List Int} {e:TypeId} {k:Int} (h:w'.ownsRow B e 1 v n (ivals xs)):RetInts B w' xs k (.returned (.tuple #[v,.int .i64 k])):=by
  obtain ⟨A,c,bs,rfl,h1,h2,h3,h4⟩:=ownsRow_ints h
  exact ⟨A,n,c,bs,rfl,h1,h2,h3,h4⟩
end
section
open Go.RowKit
/-- A slice value that reads as a list. -/
def RdS {α:Type} (R:Rd α) (sz:Nat) (w:World) (B:Nat) (v:Value) (xs:List α):Prop:=∃A n c,v=.slice A n c∧SlAt R sz w B A n xs∧n≤c∧c≤maxLen
/-- A slice value of the call's own whose blocks lie from lo to hi. -/
def OwS {α:Type} (O:Ow α) (sz:Nat) (w:World) (v:Value) (xs:List α) (lo hi:Nat):Prop:=∃A n c bs,v=.slice A n c∧OwAt O sz w A n xs bs∧bs.Nodup∧(∀b∈bs,lo≤b∧b < hi)∧n≤c∧c≤maxLen
/-- A struct value. -/
def RdT {α:Type} (R:Rd α) (w:World) (B:Nat) (v:Value) (x:α):Prop:=∃cs,v=.agg cs.toArray∧R w B cs x
def OwT {α:Type} (O:Ow α) (w:World) (v:Value) (x:α) (lo hi:Nat):Prop:=∃cs bs,v=.agg cs.toArray∧O w cs x bs∧bs.Nodup∧∀b∈bs,lo≤b∧b < hi
structure OnlyIn (lo hi:Nat) (w w':World):Prop where
  os:w'.os=w.os
  tape:w'.tape=w.tape
  output:w'.output=w.output
  size:w'.heap.size=w.heap.size
  block :∀k,k < lo ∨ hi≤k→w'.heap[k]? = w.heap[k]?
section
variable {w w' w'' : World} {lo hi lo' hi' B : Nat}
theorem OnlyIn.refl (lo hi:Nat) (w:World):OnlyIn lo hi w w:=⟨rfl,rfl,rfl,rfl,fun _ _=>rfl⟩
theorem Only.in_ {bs:List Nat} (h:Only bs w w') (hb :∀b∈bs,lo≤b∧b < hi):OnlyIn lo hi w w':=
  ⟨h.os,h.tape,h.output,h.size,fun k hk=>h.block k (fun hin=>by have:=hb k hin; omega)⟩
theorem OnlyIn.trans (h:OnlyIn lo hi w w') (h':OnlyIn lo hi w' w''):OnlyIn lo hi w w'':=
  ⟨h'.os.trans h.os,h'.tape.trans h.tape,h'.output.trans h.output,h'.size.trans h.size,fun k hk=>(h'.block k hk).trans (h.block k hk)⟩
theorem OnlyIn.setCell (h:OnlyIn lo hi w w') {p:Addr} (hp:lo≤p.block∧p.block < hi) (u:Value):OnlyIn lo hi w (w'.setCell p u):=
  h.trans ⟨rfl,rfl,rfl,by simp [World.setCell],fun k hk=>Below.heap_setCell _ _ _ _ (fun e=>by omega)⟩
theorem OnlyIn.drew (h:OnlyIn lo hi w w'):OnlyIn lo hi w w'.drew:=⟨h.os,h.tape,h.output,h.size,h.block⟩
theorem OnlyIn.below (h:OnlyIn lo hi w w'):Below lo w w':=⟨h.os,h.tape,h.output,by rw [h.size]; exact Nat.le_refl _,fun k hk=>h.block k (.inl hk)⟩
section
variable {α : Type} {O : Ow α} {R : Rd α} {sz : Nat} {v : Value} {xs : List α} {x : α}
theorem RdS.below (ok:RdOk R sz) (h:RdS R sz w B v xs) (hb:Below B w w'):RdS R sz w' B v xs:=let ⟨A,n,c,e,h,r⟩:=h; ⟨A,n,c,e,h.below ok hb,r⟩
theorem RdS.more (ok:RdOk R sz) (h:RdS R sz w B v xs) {B':Nat} (hB:B≤B'):RdS R sz w B' v xs:=let ⟨A,n,c,e,h,r⟩:=h; ⟨A,n,c,e,h.more ok hB,r⟩
theorem RdT.below (ok:RdOk R sz) (h:RdT R w B v x) (hb:Below B w w'):RdT R w' B v x:=let ⟨cs,e,h⟩:=h; ⟨cs,e,ok.keep (fun p hp=>hb.cell hp) h⟩
theorem RdT.more (ok:RdOk R sz) (h:RdT R w B v x) {B':Nat} (hB:B≤B'):RdT R w B' v x:=let ⟨cs,e,h⟩:=h; ⟨cs,e,ok.more hB h⟩
theorem OwS.keep (ok:OwOk O sz) (h:OwS O sz w v xs lo hi) (hk :∀k,lo≤k→k < hi→w'.heap[k]? = w.heap[k]?):OwS O sz w' v xs lo hi:=
  let ⟨A,n,c,bs,e,h,h1,h2,r⟩:=h; ⟨A,n,c,bs,e,h.keep ok (fun k hin=>hk k (h2 k hin).1 (h2 k hin).2),h1,h2,r⟩
theorem OwS.below (ok:OwOk O sz) (h:OwS O sz w v xs lo hi) (hb:Below B w w') (hB:hi≤B):OwS O sz w' v xs lo hi:=h.keep ok fun k _ hk=>hb.block k (by omega)
theorem OwS.only (ok:OwOk O sz) (h:OwS O sz w v xs lo hi) (ho:OnlyIn lo' hi' w w') (hd:hi≤lo' ∨ hi'≤lo):OwS O sz w' v xs lo hi:=h.keep ok fun k h1 h2=>ho.block k (by omega)
theorem OwS.reads (hR:Gives O R B) (h:OwS O sz w v xs lo hi) (hB:hi≤B):RdS R sz w B v xs:=let ⟨A,n,c,bs,e,h,h1,h2,r⟩:=h; ⟨A,n,c,e,h.reads hR (fun k hk=>by have:=h2 k hk; omega),r⟩
theorem OwT.keep (ok:OwOk O sz) (h:OwT O w v x lo hi) (hk :∀k,lo≤k→k < hi→w'.heap[k]? = w.heap[k]?):OwT O w' v x lo hi:=
  let ⟨cs,bs,e,h,h1,h2⟩:=h; ⟨cs,bs,e,ok.keep (fun k hin=>hk k (h2 k hin).1 (h2 k hin).2) h,h1,h2⟩
theorem OwT.below (ok:OwOk O sz) (h:OwT O w v x lo hi) (hb:Below B w w') (hB:hi≤B):OwT O w' v x lo hi:=h.keep ok fun k _ hk=>hb.block k (by omega)
theorem OwT.only (ok:OwOk O sz) (h:OwT O w v x lo hi) (ho:OnlyIn lo' hi' w w') (hd:hi≤lo' ∨ hi'≤lo):OwT O w' v x lo hi:=h.keep ok fun k h1 h2=>ho.block k (by omega)
theorem OwT.reads (hR:Gives O R B) (h:OwT O w v x lo hi) (hB:hi≤B):RdT R w B v x:=let ⟨cs,bs,e,h,h1,h2⟩:=h; ⟨cs,e,hR _ _ _ _ h (fun k hk=>by have:=h2 k hk; omega)⟩
end
end
theorem blk2_0 {w:World} {t:TypeId} {cs:Array Value} {o2:Obj} : Blk ((w.alloc (.cells cs t)).alloc o2) w.heap.size t cs:=(Blk.new w t cs).alloc _
theorem blk2_1 {w:World} {t:TypeId} {cs:Array Value} {o1:Obj} : Blk ((w.alloc o1).alloc (.cells cs t)) (w.heap.size+1) t cs:=by
  have h:=Blk.new (w.alloc o1) t cs
  rwa [World.size_alloc] at h
/-- Marks of a list whose elements take several numbers each. -/
def mkL {α:Type} (mk:Nat→α→α) (cnt:α→Nat):Nat→List α→List α
  |_,[]=>[]
  |k,x :: xs=>mk k x :: mkL mk cnt (k+cnt x) xs
def cntL {α:Type} (cnt:α→Nat) (xs:List α):Nat:=(xs.map cnt).sum
section
variable {α : Type} {mk : Nat → α → α} {cnt : α → Nat}
theorem cntL_cons (x:α) (xs:List α):cntL cnt (x :: xs)=cnt x+cntL cnt xs:=by simp [cntL]
theorem cntL_append (xs ys:List α):cntL cnt (xs ++ ys)=cntL cnt xs+cntL cnt ys:=by simp [cntL]
theorem mkL_len :∀(xs:List α) (k:Nat),(mkL mk cnt k xs).length=xs.length
  |[],_=>rfl
  |x :: xs,k=>by simp [mkL,mkL_len xs]
theorem mkL_append :∀(xs ys:List α) (k:Nat),mkL mk cnt k (xs ++ ys)=mkL mk cnt k xs ++ mkL mk cnt (k+cntL cnt xs) ys
  |[],ys,k=>by simp [mkL,cntL]
  |x :: xs,ys,k=>by simp [mkL,mkL_append xs ys,cntL_cons,Nat.add_assoc]
theorem cntL_take {xs:List α} {i:Nat} {x:α} (h:xs[i]? = some x):cntL cnt (xs.take (i+1))=cntL cnt (xs.take i)+cnt x:=by
  rw [take_succ_some h,cntL_append,cntL_cons]; simp [cntL]
theorem cntL_le (xs:List α) (i:Nat):cntL cnt (xs.take i)≤cntL cnt xs:=by
  have h:cntL cnt (xs.take i ++ xs.drop i)=cntL cnt xs:=by rw [List.take_append_drop]
  rw [cntL_append] at h
  omega
theorem mkL_take {xs:List α} {i k:Nat} {x:α} (h:xs[i]? = some x):mkL mk cnt k (xs.take (i+1))=mkL mk cnt k (xs.take i) ++ [mk (k+cntL cnt (xs.take i)) x]:=by
  rw [take_succ_some h,mkL_append]; rfl
theorem mkL_get :∀{xs:List α} {i k:Nat} {x:α},xs[i]? = some x→(mkL mk cnt k xs)[i]? = some (mk (k+cntL cnt (xs.take i)) x)
  |[],i,k,x,h=>by simp at h
  |y :: ys,0,k,x,h=>by
    have:y=x:=by simpa using h
    subst this
    simp [mkL,cntL]
  |y :: ys,i+1,k,x,h=>by
    have:=mkL_get (k:=k+cnt y) (x:=x) (xs:=ys) (i:=i) (by simpa using h)
    simp only [mkL,List.getElem?_cons_succ,List.take_succ_cons,cntL_cons]
    rw [this,Nat.add_assoc]
end
/-- An element at b, p is being written: its own cells, and the blocks of bs. -/
structure Touch (b p sz:Nat) (bs:List Nat) (w w':World):Prop where
  os:w'.os=w.os
  tape:w'.tape=w.tape
  output:w'.output=w.output
  size:w'.heap.size=w.heap.size
  cell :∀q,q < p ∨ p+sz≤q→w'.cell? ⟨b,q,none⟩=w.cell? ⟨b,q,none⟩
  frozen :∀q,w'.frozen? ⟨b,q,none⟩=w.frozen? ⟨b,q,none⟩
  block :∀k,k ≠ b→k ∉ bs→w'.heap[k]? = w.heap[k]?
section
variable {w w' w'' : World} {b p sz : Nat} {bs bs' : List Nat}
theorem Touch.refl:Touch b p sz bs w w:=⟨rfl,rfl,rfl,rfl,fun _ _=>rfl,fun _=>rfl,fun _ _ _=>rfl⟩
theorem Touch.trans (h:Touch b p sz bs w w') (h':Touch b p sz bs w' w''):Touch b p sz bs w w'':=
  ⟨h'.os.trans h.os,h'.tape.trans h.tape,h'.output.trans h.output,h'.size.trans h.size,fun q hq=>(h'.cell q hq).trans (h.cell q hq),fun q=>(h'.frozen q).trans (h.frozen q),fun k h1 h2=>(h'.block k h1 h2).trans (h.block k h1 h2)⟩
theorem Touch.set (h:Touch b p sz bs w w') {j:Nat} (h1:p≤j) (h2:j < p+sz) (v:Value):Touch b p sz bs w (w'.setCell ⟨b,j,none⟩ v):=
  h.trans ⟨rfl,rfl,rfl,by simp [World.setCell],fun q hq=>World.cell?_setCell_other _ _ _ _ (fun e=>by injection e with _ e2; omega),fun q=>World.frozen?_setCell _ _ _ _,fun k hk _=>Below.heap_setCell _ _ _ _ hk⟩
theorem Touch.only (h:Touch b p sz bs w w') (ho:Only bs' w' w'') (hb:b ∉ bs') (hs :∀k∈bs',k∈bs):Touch b p sz bs w w'':=
  h.trans ⟨ho.os,ho.tape,ho.output,ho.size,fun q _=>World.cell?_of_block (w:=w') (a:=⟨b,q,none⟩) (ho.block b hb),fun q=>World.frozen?_of_block (w:=w') (a:=⟨b,q,none⟩) (ho.block b hb),fun k _ hk=>ho.block k (fun hin=>hk (hs k hin))⟩
theorem Touch.only_ (h:Touch b p sz bs w w'):Only (b :: bs) w w':=⟨h.os,h.tape,h.output,h.size,fun k hk=>h.block k (by simp at hk; exact hk.1) (by simp at hk; exact hk.2)⟩
theorem Touch.el {α:Type} {O:Ow α} {s:Nat} (ok:OwOk O s) {xs:List α} {o:Nat} {bl:List Nat} (h:Touch b p sz bs w w') (hd:o+xs.length * s≤p ∨ p+sz≤o) (hbl :∀k∈bl,k ≠ b∧k ∉ bs) (hE:ElAt O s w b o xs bl):ElAt O s w' b o xs bl:=
  hE.keepC ok (fun q h1 h2=>⟨h.cell q (by omega),h.frozen q⟩) (fun k hk=>h.block k (hbl k hk).1 (hbl k hk).2)
end
theorem SlAt.drew {α:Type} {R:Rd α} {sz:Nat} {w:World} {B n:Nat} {A:Option Addr} {xs:List α} (ok:RdOk R sz) (h:SlAt R sz w B A n xs):SlAt R sz w.drew B A n xs:=SlAt.keep (w:=w) (w':=w.drew) ok (fun _ _=>rfl) h
def Ret2 (P:Value→Prop) (k:Int) (e:Ending):Prop:=∃v,e=.returned (.tuple #[v,.int .i64 k])∧P v
theorem RetInts.ret2 {B:Nat} {w':World} {xs:List Int} {k:Int} {e:Ending} (h:RetInts B w' xs k e):Ret2 (fun v=>OwS intOw 1 w' v xs B w'.heap.size) k e:=by
  obtain ⟨A,n,c,bs,e1,h1,h2,h3,h4⟩:=h
  exact ⟨_,e1,A,n,c,bs,rfl,h1,h2,h3,h4⟩
end
section
open Go.RowKit
/-- A frame of n slots. -/
def Fr (n:Nat) (f:Nat→Value):Act:=⟨((List.range n).map f).toArray,[]⟩
def up (f:Nat→Value) (d:Nat) (v:Value):Nat→Value:=fun k=>bif Nat.beq k d then v else f k
def upo (f:Nat→Value):Option Tmp→Value→Nat→Value
  |some d,v=>up f d v
  |none,_=>f
def ev (f:Nat→Value):Operand→Value
  |.tmp t=>f t
  |.const v=>v
  |.global g=>.pointer (some ⟨g,0,none⟩)
  |.func g=>.func (.func g) #[] #[]
def opIn (n:Nat):Operand→Bool
  |.tmp t=>Nat.blt t n
  |_=>true
def okOp (n:Nat) (ops:Array Oper) (o:Oper):Bool:=
  o.op.operands.toList.all (opIn n) && (match o.op with|.select ..=>false|_=>true) &&
  (match o.guard with|none=>true|some (j,_)=>match (ops[j]?).bind (·.dst) with|some d=>Nat.blt d n|none=>true)
def gval (f:Nat→Value) (ops:Array Oper) (j:Nat):Option Bool:=
  match (ops[j]?).bind (·.dst) with
  |some d=>match f d with|.bool b=>some b|_=>none
  |none=>none
def wantF (f:Nat→Value) (ops:Array Oper) (o:Oper):Bool:=
  match o.guard with
  |none=>true
  |some (j,want)=>gval f ops j==some want
theorem Fr_get {n:Nat} {f:Nat→Value} {t:Nat} (h:t < n):(Fr n f).tmps[t]? = some (f t):=by simp [Fr,h]
theorem Fr_eval {n:Nat} {f:Nat→Value} {x:Operand} (h:opIn n x=true):(Fr n f).eval x=ev f x:=by
  cases x with
  |tmp t=>
    have ht:t < n:=by simpa [opIn] using h
    simp [Act.eval,Fr,ev,ht]
  |_=>rfl
theorem Fr_put {n:Nat} {f:Nat→Value} {d:Option Tmp} {v:Value} : (Fr n f).put d v=Fr n (upo f d v):=by
  cases d with
  |none=>rfl
  |some d=>
    simp only [Act.put,Fr,upo,Act.mk.injEq,and_true]
    apply Array.ext_getElem?
    intro i
    simp only [Array.getElem?_setIfInBounds,List.size_toArray,List.length_map,List.length_range,List.getElem?_toArray,List.getElem?_map]
    by_cases hi:i < n
    · by_cases hd:d=i
      · subst hd; simp [hi,up]
      · have h1:i.beq d=false:=by cases h:i.beq d with|false=>rfl|true=>exact absurd (Nat.eq_of_beq_eq_true h).symm hd
        simp [hi,hd,up,h1]
    · by_cases hd:d=i
      · subst hd; simp [hi]
      · simp [hd,hi]
theorem Fr_exec {n:Nat} {f:Nat→Value} {ops:Array Oper} {o:Oper} (h:okOp n ops o=true):execOp (Fr n f).eval o=execOp (ev f) o:=by
  simp only [okOp,Bool.and_eq_true,List.all_eq_true] at h
  refine execOp_congr o (fun cs b e=>?_) (fun x hx=>Fr_eval (h.1.1 x (by simpa using hx)))
  have:=h.1.2
  rw [e] at this
  cases this
theorem Fr_wanted {n:Nat} {f:Nat→Value} {ops:Array Oper} {o:Oper} (h:okOp n ops o=true):Region.wanted o (yielded ops (Fr n f).tmps)=wantF f ops o:=by
  simp only [okOp,Bool.and_eq_true] at h
  have h3:=h.2
  unfold Region.wanted wantF
  cases hg:o.guard with
  |none=>rfl
  |some p=>
    obtain ⟨j,want⟩:=p
    rw [hg] at h3
    simp only at h3 ⊢
    congr 1
    unfold yielded gval
    cases hd:(ops[j]?).bind (·.dst) with
    |none=>rfl
    |some d=>
      rw [hd] at h3
      have hlt:d < n:=by simpa using h3
      simp only [Option.bind_some,Fr_get hlt]
      cases f d <;> rfl
section
variable {P : Program} {ops : Array Oper}
/-- The operations one by one, in every world of the class C. -/
def RQ (P:Program) (ops:Array Oper) (C:World→Prop) (Q:(Nat→Value)→Prop):List Oper→(Nat→Value)→Prop
  |[],f=>Q f
  |o :: rest,f=>∃v,((wantF f ops o=true∧∀w,C w→Oper.quietUpon P C w v ((execOp (ev f) o).run P w)) ∨ (wantF f ops o=false∧v=undef))∧RQ P ops C Q rest (upo f o.dst v)
theorem RQ_quiet {n:Nat} {C:World→Prop} {Q:(Nat→Value)→Prop} :∀{l:List Oper} {f:Nat→Value},(∀o∈l,okOp n ops o=true)→RQ P ops C Q l f→wpQuiet P ops C (fun a=>∃f',a=Fr n f'∧Q f') l (Fr n f)
  |[],f,_,h=>⟨f,rfl,h⟩
  |o :: rest,f,hin,⟨v,h1,h2⟩=>by
    have ho:=hin o (by simp)
    have ih:=RQ_quiet (fun o' h'=>hin o' (by simp [h'])) h2
    unfold wpQuiet
    rw [Fr_wanted ho]
    rcases h1 with ⟨hw,h1⟩|⟨hw,rfl⟩
    · rw [hw,if_pos rfl]
      exact ⟨v,fun w hw'=>by unfold Oper.quietAt; rw [Fr_exec ho]; exact h1 w hw',by rw [Fr_put]; exact ih⟩
    · rw [hw,if_neg (by decide),Fr_put]
      exact ih
theorem quiet_list {C:World→Prop} {Q:Act→Prop} {Q':Exit→Act→World→Prop} (hQ :∀a w,C w→Q a→Q' .normal a w) :∀{l:List Oper} {a:Act} {w:World},C w→wpQuiet P ops C Q l a→wpList P ops Q' l a w
  |[],a,w,hw,h=>hQ a w hw h
  |o :: rest,a,w,hw,h=>by
    unfold wpQuiet at h
    unfold wpList
    split
    · rename_i hg
      rw [if_pos hg] at h
      exact .inl (Oper.wp_of_quiet hw (fun a' w' hw' h'=>quiet_list hQ hw' h') h)
    · rename_i hg
      rw [if_neg hg] at h
      exact quiet_list hQ hw h
def okAll (n:Nat) (l:List Oper):Bool:=l.all (okOp n l.toArray)
theorem wp_rq {id n:Nat} {l:List Oper} {f:Nat→Value} {w:World} {Q:Exit→Act→World→Prop} (C:World→Prop) (hC:C w) (hin:okAll n l=true)
    (h:RQ P l.toArray C (fun f'=>∀w',C w'→Q .normal (Fr n f') w') l f):(Code.region id l.toArray false).wp P Q (Fr n f) w:=by
  refine wp_region_lit (quiet_list (Q:=fun a=>∃f',a=Fr n f'∧∀w',C w'→Q .normal (Fr n f') w') ?_ hC (RQ_quiet (fun o ho=>List.all_eq_true.1 hin o ho) h))
  rintro a w' hw' ⟨f',rfl,hq⟩
  exact hq w' hw'
theorem wp_rq_draw {id n:Nat} {l:List Oper} {f:Nat→Value} {w:World} {Q:Exit→Act→World→Prop} (C:World→Prop) (hC:C w.drew) (hm:P.follows .mixedOrders=true) (hin:(okAll n l && Region.lexB .any l.toArray)=true)
    (h:RQ P l.toArray C (fun f'=>∀w',C w'→Q .normal (Fr n f') w') l f):(Code.region id l.toArray true).wp P Q (Fr n f) w:=by
  simp only [Bool.and_eq_true] at hin
  refine wp_region_quiet (C:=C) hm hin.2 hC ?_
  have h1:=RQ_quiet (n:=n) (fun o ho=>List.all_eq_true.1 hin.1 o ho) h
  have mono :∀(l':List Oper) (a:Act),wpQuiet P l.toArray C (fun a=>∃f',a=Fr n f'∧∀w',C w'→Q .normal (Fr n f') w') l' a→wpQuiet P l.toArray C (fun a'=>∀w',C w'→Q .normal a' w') l' a:=by
    intro l'
    induction l' with
    |nil=>rintro a ⟨f',rfl,hq⟩; exact hq
    |cons o rest ih=>
      intro a h
      unfold wpQuiet at h ⊢
      split
      · rename_i hg; rw [if_pos hg] at h; exact Oper.quiet_mono (fun a=>ih a) h
      · rename_i hg; rw [if_neg hg] at h; exact ih _ h
  exact mono l (Fr n f) h1
/-- What one operation comes to in one world. -/
def OpX (P:Program) (K:Value→World→Prop):Result Next→Prop
  |.ok (.value v) w'=>K v w'
  |.ok .skip w'=>K undef w'
  |.ok (.enter g args) w'=>Calls P g args w' fun e w''=>∃v,e=.returned v∧K v w''
  |_=>False
def RL (P:Program) (ops:Array Oper) (Q:(Nat→Value)→World→Prop):List Oper→(Nat→Value)→World→Prop
  |[],f,w=>Q f w
  |o :: rest,f,w=>(wantF f ops o=true∧OpX P (fun v w'=>RL P ops Q rest (upo f o.dst v) w') ((execOp (ev f) o).run P w)) ∨ (wantF f ops o=false∧RL P ops Q rest (upo f o.dst undef) w)
theorem OpX_wp {o:Oper} {a:Act} {K:Act→World→Prop} {Q:Exit→Act→World→Prop} {r:Result Next} (h:OpX P (fun v w'=>K (a.put o.dst v) w') r):o.upon P a K Q r:=by
  cases r with
  |ok n w'=>
    cases n <;> simp only [OpX] at h <;> simp only [Oper.upon] <;> try exact h
    case enter g args=>exact h.mono fun e w'' ⟨v,he,hk⟩=>by subst he; exact hk
  |halt x w'=>simp only [OpX] at h
theorem RL_list {n:Nat} {Q:(Nat→Value)→World→Prop} {Q':Exit→Act→World→Prop} (hQ :∀f w,Q f w→Q' .normal (Fr n f) w) :∀{l:List Oper} {f:Nat→Value} {w:World},(∀o∈l,okOp n ops o=true)→RL P ops Q l f w→wpList P ops Q' l (Fr n f) w
  |[],f,w,_,h=>hQ f w h
  |o :: rest,f,w,hin,h=>by
    have ho:=hin o (by simp)
    unfold wpList
    rw [Fr_wanted ho]
    rcases h with ⟨hw,h⟩|⟨hw,h⟩
    · rw [hw,if_pos rfl]
      left
      unfold Oper.wp
      rw [Fr_exec ho]
      refine OpX_wp ?_
      have e:(fun v w'=>RL P ops Q rest (upo f o.dst v) w')=fun v w'=>RL P ops Q rest (upo f o.dst v) w':=rfl
      revert h
      generalize (execOp (ev f) o).run P w=r
      intro h
      have key :∀v w',RL P ops Q rest (upo f o.dst v) w'→wpList P ops Q' rest ((Fr n f).put o.dst v) w':=fun v w' h'=>by
        rw [Fr_put]; exact RL_list hQ (fun o' h''=>hin o' (by simp [h''])) h'
      cases r with
      |ok nx w'=>
        cases nx <;> simp only [OpX] at h ⊢ <;> try exact key _ _ h
        case enter g args=>exact h.mono fun e w'' ⟨v,he,hk⟩=>⟨v,he,key _ _ hk⟩
      |halt x w'=>simp only [OpX] at h
    · rw [hw,if_neg (by decide),Fr_put]
      exact RL_list hQ (fun o' h'=>hin o' (by simp [h'])) h
theorem wp_rl {id n:Nat} {l:List Oper} {f:Nat→Value} {w:World} {Q:Exit→Act→World→Prop} (hin:okAll n l=true)
    (h:RL P l.toArray (fun f' w'=>Q .normal (Fr n f') w') l f w):(Code.region id l.toArray false).wp P Q (Fr n f) w:=
  wp_region_lit (RL_list (fun f' w' h'=>h') (fun o ho=>List.all_eq_true.1 hin o ho) h)
end
end
section
open Go.RowKit
section
variable {P : Program} {ops : Array Oper} {C : World → Prop} {f : Nat → Value} {rest : List Oper}
/-- The operation o yields v in every world of the class, and leaves it. -/
def Y (P:Program) (C:World→Prop) (f:Nat→Value) (o:Oper) (v:Value):Prop:=∀w,C w→(execOp (ev f) o).run P w=.ok (.value v) w
def CellIn (C:World→Prop) (A:Addr) (v:Value):Prop:=∀w,C w→w.cell? A=some v
theorem eqC {w:World} {A:Addr} {v:Value} (h:w.cell? A=some v):CellIn (· = w) A v:=fun _ e=>by rw [e]; exact h
theorem beC {w:World} {A:Addr} {v:Value} (h:w.cell? A=some v):CellIn (Below w.heap.size w) A v:=fun _ e=>(e.cell (World.block_lt_of_cell? w A h)).trans h
theorem RQ.y {Q:(Nat→Value)→Prop} {o:Oper} {v:Value} (hg:wantF f ops o=true) (hy:Y P C f o v) (h:RQ P ops C Q rest (upo f o.dst v)):RQ P ops C Q (o :: rest) f:=
  ⟨v,.inl ⟨hg,fun w hw=>by rw [hy w hw]; exact ⟨rfl,rfl⟩⟩,h⟩
theorem RQ.skip {Q:(Nat→Value)→Prop} {o:Oper} (hg:wantF f ops o=false) (h:RQ P ops C Q rest (upo f o.dst undef)):RQ P ops C Q (o :: rest) f:=⟨undef,.inr ⟨hg,rfl⟩,h⟩
theorem RQ.nil {Q:(Nat→Value)→Prop} (h:Q f):RQ P ops C Q [] f:=h
theorem RL.y {Q:(Nat→Value)→World→Prop} {w:World} {o:Oper} {v:Value} (hg:wantF f ops o=true) (hy:Y P (· = w) f o v) (h:RL P ops Q rest (upo f o.dst v) w):RL P ops Q (o :: rest) f w:=
  .inl ⟨hg,by rw [hy w rfl]; exact h⟩
theorem RL.skip {Q:(Nat→Value)→World→Prop} {w:World} {o:Oper} (hg:wantF f ops o=false) (h:RL P ops Q rest (upo f o.dst undef) w):RL P ops Q (o :: rest) f w:=.inr ⟨hg,h⟩
theorem RL.nil {Q:(Nat→Value)→World→Prop} {w:World} (h:Q f w):RL P ops Q [] f w:=h
variable {d : Option Tmp} {ty : TypeId} {pos : String} {af : Array Edge} {g : Option (Nat × Bool)} {x y : Operand} {u v : Value} {t t' : TypeId}
theorem Y.move (hx:ev f x=v):Y P C f ⟨d,.move x,ty,pos,af,g⟩ v:=fun w _=>by subst hx; rfl
theorem Y.assign (hx:ev f x=v):Y P C f ⟨d,.assign x,ty,pos,af,g⟩ v:=fun w _=>by subst hx; rfl
theorem Y.nilCheck {A:Addr} (hx:ev f x=.pointer (some A)):Y P C f ⟨d,.nilCheck x,ty,pos,af,g⟩ (.pointer (some A)):=fun w _=>by simp [execOp,hx]
theorem Y.pick {c:Operand} {b:Bool} (hc:ev f c=.bool b) (hv:(bif b then ev f x else ev f y)=v):Y P C f ⟨d,.pick c x y,ty,pos,af,g⟩ v:=fun w _=>by
  subst hv
  cases b <;> simp [execOp,hc,asBool]
theorem Y.not {b b':Bool} (hx:ev f x=.bool b) (hb:(!b)=b'):Y P C f ⟨d,.unOp .not t x,ty,pos,af,g⟩ (.bool b'):=fun w _=>by
  subst hb
  simp [execOp,hx,Op.unary]
/-- The binary operations of integers. -/
def binI (o:BinOp) (k:IntKind) (m n:Int):Option Value:=
  match o with
  |.add=>some (.int k (k.wrap (m+n)))
  |.sub=>some (.int k (k.wrap (m - n)))
  |.mul=>some (.int k (k.wrap (m * n)))
  |.eql=>some (.bool (m==n))
  |.neq=>some (.bool (m != n))
  |.lss=>some (.bool (m < n))
  |.leq=>some (.bool (m≤n))
  |.gtr=>some (.bool (m > n))
  |.geq=>some (.bool (m ≥ n))
  |_=>none
theorem eqGuard_int {P:Program} {w:World} {o:BinOp} {k k':IntKind} {m n:Int} : (eqGuard o t x y (.int k m) (.int k' n)).run P w=.ok () w:=by
  unfold eqGuard; cases o <;> rfl
theorem Y.binI {o:BinOp} {k:IntKind} {m n:Int} (hx:ev f x=.int k m) (hy:ev f y=.int k n) (hr:binI o k m n=some v):Y P C f ⟨d,.binOp o t x y t',ty,pos,af,g⟩ v:=fun w _=>by
  simp only [execOp,hx,hy,Sem.run_bind,eqGuard_int,Result.andThen_ok]
  cases o <;> simp [Proofs.YtkfmlehhbanopaaGreatDoor.binI] at hr <;> subst hr <;> simp [binOp,Op.intArith,Op.intCmp]
theorem Y.beq {o:BinOp} {a b c:Bool} (ht:P.underlying t=some .bool) (hx:ev f x=.bool a) (hy:ev f y=.bool b) (ho:(o=.eql∧(a==b)=c) ∨ (o=.neq∧(a != b)=c)):Y P C f ⟨d,.binOp o t x y t',ty,pos,af,g⟩ (.bool c):=fun w _=>by
  rcases ho with ⟨rfl,rfl⟩|⟨rfl,rfl⟩
  · simp only [execOp,hx,hy,Sem.run_bind,eqGuard,Result.andThen_ok]
    simp [binOp,Op.equal,Op.maxDepth,run_equalIn_bool' w _ t a b ht]
  · simp only [execOp,hx,hy,Sem.run_bind,eqGuard,Result.andThen_ok]
    simp [binOp,Op.equal,Op.maxDepth,run_equalIn_bool' w _ t a b ht]
    cases a <;> cases b <;> rfl
def fieldO (P:Program) (t:TypeId) (i:Nat):Option Nat:=
  match P.underlying t with
  |some (.struct fs)=>match fs[i]? with
    |some fl=>match P.info? fl.type with
      |some inf=>if inf.size=0 then none else some fl.offset
      |none=>none
    |none=>none
  |_=>none
theorem Addr.add_eq (b o n:Nat):Addr.add ⟨b,o,none⟩ n=⟨b,o+n,none⟩:=by
  unfold Addr.add; split <;> simp_all
theorem Y.fieldAddr {i b o off:Nat} (hx:ev f x=.pointer (some ⟨b,o,none⟩)) (ht:fieldO P t i=some off):Y P C f ⟨d,.fieldAddr t x i,ty,pos,af,g⟩ (.pointer (some ⟨b,o+off,none⟩)):=fun w _=>by
  unfold fieldO at ht
  split at ht
  · rename_i fs hu
    split at ht
    · rename_i fl hf
      split at ht
      · rename_i inf hi
        split at ht
        · cases ht
        · rename_i hs
          injection ht with ht
          subst ht
          simp [execOp,hx,Instr.fieldAt,run_underlying hu,hf,Instr.sureAddr,fieldPlace,sizeOf,typeInfo,hi,hs,Addr.add_eq]
      · cases ht
    · cases ht
  · cases ht
def elemO (P:Program) (t:TypeId):Option Nat:=
  match P.underlying t with
  |some (.slice e)=>(P.info? e).map (·.size)
  |_=>none
theorem Y.indexAddr {b o n c m sz:Nat} {k:IntKind} {j:Int} (hx:ev f x=.slice (some ⟨b,o,none⟩) n c) (hi:ev f y=.int k j) (hj:j=(m:Int)) (hm:m < n) (ht:elemO P t=some sz) :
    Y P C f ⟨d,.indexAddr t x y,ty,pos,af,g⟩ (.pointer (some ⟨b,o+m * sz,none⟩)):=fun w _=>by
  subst hj
  unfold elemO at ht
  split at ht
  · rename_i e hu
    cases hinf:P.info? e with
    |none=>rw [hinf] at ht; cases ht
    |some inf=>
      rw [hinf] at ht
      simp at ht
      subst ht
      have h1:((m:Int) < (n:Int)):=by omega
      simp [execOp,hx,hi,Instr.indexAt,asIntOf,run_underlying hu,h1,sizeOf,typeInfo,hinf,Addr.add_eq]
      intro; omega
  · cases ht
def oneT (P:Program) (t:TypeId):Bool:=
  match P.underlying t with
  |some (.struct _)|some (.array ..)|none=>false
  |_=>true
theorem run_load1 {P:Program} {w:World} {A:Addr} (ht:oneT P t=true) (hc:w.cell? A=some v):(Instr.loadAt t (.pointer (some A))).run P w=.ok v w:=by
  unfold oneT at ht
  cases hu:P.underlying t with
  |none=>rw [hu] at ht; cases ht
  |some u=>cases u <;> first|(rw [hu] at ht; cases ht; done)|simp [Instr.loadAt,Instr.sureAddr,loadVar,isAgg,run_underlying hu,hc]
theorem Y.load {A:Addr} (hx:ev f x=.pointer (some A)) (ht:oneT P t=true) (hc:CellIn C A v):Y P C f ⟨d,.load t x,ty,pos,af,g⟩ v:=fun w hw=>by
  simp only [execOp,hx,Sem.run_bind,run_load1 ht (hc w hw),Result.andThen_ok]
  rfl
def aggO (P:Program) (t:TypeId):Option Nat:=
  match P.underlying t with
  |some (.struct _)=>(P.info? t).map (·.size)
  |some (.array ..)=>(P.info? t).map (·.size)
  |_=>none
def CellsIn (C:World→Prop) (b o:Nat) (cs:List Value):Prop:=∀w,C w→∀j v,cs[j]? = some v→w.cell? ⟨b,o+j,none⟩=some v
theorem run_loadN {P:Program} {w:World} {b o:Nat} {cs:List Value} (ht:aggO P t=some cs.length) (hc :∀j v,cs[j]? = some v→w.cell? ⟨b,o+j,none⟩=some v) :
    (Instr.loadAt t (.pointer (some ⟨b,o,none⟩))).run P w=.ok (.agg cs.toArray) w:=by
  unfold aggO at ht
  have key :∀u,P.underlying t=some u→(∀w,(isAgg t).run P w=.ok true w)→(P.info? t).map (·.size)=some cs.length→(Instr.loadAt t (.pointer (some ⟨b,o,none⟩))).run P w=.ok (.agg cs.toArray) w:=fun u hu ha hs=>by
    cases hi:P.info? t with
    |none=>rw [hi] at hs; cases hs
    |some inf=>
      rw [hi] at hs
      simp at hs
      have hl:=run_loadCells_list (P:=P) w ⟨b,o,none⟩ cs (fun j v hj=>by rw [Addr.add_eq]; exact hc j v hj)
      simp [Instr.loadAt,Instr.sureAddr,loadVar,ha,sizeOf,typeInfo,hi,hs,hl]
  split at ht
  · rename_i fs hu; exact key _ hu (fun w=>by simp [isAgg,run_underlying hu]) ht
  · rename_i e n hu; exact key _ hu (fun w=>by simp [isAgg,run_underlying hu]) ht
  · cases ht
theorem Y.loadN {b o:Nat} {cs:List Value} (hx:ev f x=.pointer (some ⟨b,o,none⟩)) (ht:aggO P t=some cs.length) (hc:CellsIn C b o cs):Y P C f ⟨d,.load t x,ty,pos,af,g⟩ (.agg cs.toArray):=fun w hw=>by
  simp only [execOp,hx,Sem.run_bind,run_loadN ht (hc w hw),Result.andThen_ok]
  rfl
theorem Y.extract {i:Nat} {vs:Array Value} (hx:ev f x=.tuple vs) (hi:vs[i]? = some v):Y P C f ⟨d,.extract x i,ty,pos,af,g⟩ v:=fun w _=>by
  simp [execOp,hx,Instr.extract,hi]
def sliceT (P:Program) (t:TypeId):Bool:=match P.underlying t with|some (.slice _)=>true|_=>false
def stringT (P:Program) (t:TypeId):Bool:=match P.underlying t with|some .string=>true|_=>false
theorem Y.len {A:Option Addr} {n c:Nat} (ht:sliceT P t=true) (hx:ev f x=.slice A n c):Y P C f ⟨d,.call ⟨.builtin .len,#[x],#[t]⟩,ty,pos,af,g⟩ (.int .i64 n):=fun w _=>by
  unfold sliceT at ht
  split at ht
  · rename_i e hu
    simp [execOp,resolve,invoke,builtin,hx,Builtin.len_,run_underlying hu,goInt]
  · cases ht
theorem Y.lenS {s:ByteArray} (ht:stringT P t=true) (hx:ev f x=.string s):Y P C f ⟨d,.call ⟨.builtin .len,#[x],#[t]⟩,ty,pos,af,g⟩ (.int .i64 s.size):=fun w _=>by
  unfold stringT at ht
  split at ht
  · rename_i hu
    simp [execOp,resolve,invoke,builtin,hx,Builtin.len_,run_underlying hu,goInt]
  · cases ht
/-- The cells of a struct that is built. -/
def buildO (P:Program) (t:TypeId) (parts:List (Nat × Value)):Option (Array Value):=
  match P.underlying t with
  |some (.struct fs)=>match (P.info? t).bind (·.zero) with
    |some z=>Instr.fill (fun i=>(fs[i]?).map fun fl=>(fl.offset,P.cellsOf fl.type)) z.cells parts
    |none=>none
  |_=>none
def sizedO (P:Program) (t:TypeId):Bool:=
  match P.underlying t with
  |some (.struct fs)=>fs.toList.all fun fl=>(P.info? fl.type).isSome
  |_=>false
theorem run_sizeOf_ok {w:World} {e:TypeId} (h:(P.info? e).isSome=true):(sizeOf e).run P w=.ok (P.cellsOf e) w:=by
  obtain ⟨inf,hi⟩:=Option.isSome_iff_exists.1 h
  simp [sizeOf,typeInfo,hi,Program.cellsOf]
theorem run_mapM_places {w:World} :∀(fs:List Field),(fs.all fun fl=>(P.info? fl.type).isSome)=true→
    (fs.mapM fun fl=>Functor.map (Prod.mk fl.offset) (sizeOf fl.type)).run P w=.ok (fs.map fun fl=>(fl.offset,P.cellsOf fl.type)) w
  |[],_=>by simp
  |fl :: fs,h=>by
    simp only [List.all_cons,Bool.and_eq_true] at h
    simp only [List.mapM_cons,Sem.run_bind,Sem.run_map,run_sizeOf_ok h.1,Result.andThen_ok,run_mapM_places fs h.2,Sem.run_pure,List.map_cons]
theorem run_build {w:World} {parts:Array (Nat × Value)} {cells:Array Value} (hs:sizedO P t=true) (hb:buildO P t parts.toList=some cells):(Instr.build t parts).run P w=.ok (.agg cells) w:=by
  unfold sizedO at hs
  unfold buildO at hb
  cases hu:P.underlying t with
  |none=>rw [hu] at hb; cases hb
  |some u=>
    rw [hu] at hb hs
    cases u <;> simp only at hb hs <;> try (cases hb; done)
    rename_i fs
    cases hi:P.info? t with
    |none=>rw [hi] at hb; cases hb
    |some inf=>
      rw [hi] at hb
      simp only [Option.bind_some] at hb
      cases hz:inf.zero with
      |none=>rw [hz] at hb; cases hb
      |some z=>
        rw [hz] at hb
        simp only at hb
        have hm:=run_mapM_places (P:=P) (w:=w) fs.toList hs
        simp [Instr.build,zeroValue,typeInfo,hi,hz,run_underlying hu]
        rw [Array.mapM_eq_mapM_toList]
        simp only [Sem.run_map,hm,Result.andThen_ok]
        simp [hb]
theorem Y.build0 {cells:Array Value} (hs:sizedO P t=true) (hb:buildO P t [] = some cells):Y P C f ⟨d,.build t #[],ty,pos,af,g⟩ (.agg cells):=fun w _=>by
  simp [execOp,run_build (parts:=#[]) hs hb]
theorem Y.build1 {i:Nat} {cells:Array Value} (h0:ev f x=v) (hs:sizedO P t=true) (hb:buildO P t [(i,v)] = some cells):Y P C f ⟨d,.build t #[(i,x)],ty,pos,af,g⟩ (.agg cells):=fun w _=>by
  subst h0
  simp [execOp,run_build (parts:=#[(i,ev f x)]) hs hb]
theorem Y.build2 {x2:Operand} {i j:Nat} {v1 v2:Value} {cells:Array Value} (h0:ev f x=v1) (h1:ev f x2=v2) (hs:sizedO P t=true) (hb:buildO P t [(i,v1),(j,v2)] = some cells) :
    Y P C f ⟨d,.build t #[(i,x),(j,x2)],ty,pos,af,g⟩ (.agg cells):=fun w _=>by
  subst h0 h1
  simp [execOp,run_build (parts:=#[(i,ev f x),(j,ev f x2)]) hs hb]
end
end
section
open Go.RowKit
section
variable {P : Program} {ops : Array Oper} {C : World → Prop} {f : Nat → Value} {rest : List Oper} {Q : (Nat → Value) → World → Prop} {Qf : (Nat → Value) → Prop} {w : World}
variable {d : Option Tmp} {ty : TypeId} {pos : String} {af : Array Edge} {g : Option (Nat × Bool)} {x y : Operand} {u v : Value} {t t' : TypeId} {args : Array Operand} {vals : Array Value} {ats : Array TypeId} {gf : FuncId}
section
variable {x1 x2 x3 x4 x5 x6 : Operand} {v1 v2 v3 v4 v5 v6 : Value}
theorem am0:(#[] : Array Operand).map (ev f) = #[]:=by simp
theorem am1 (h1:ev f x1=v1) : #[x1].map (ev f) = #[v1]:=by simp [h1]
theorem am2 (h1:ev f x1=v1) (h2:ev f x2=v2) : #[x1,x2].map (ev f) = #[v1,v2]:=by simp [h1,h2]
theorem am3 (h1:ev f x1=v1) (h2:ev f x2=v2) (h3:ev f x3=v3) : #[x1,x2,x3].map (ev f) = #[v1,v2,v3]:=by simp [h1,h2,h3]
theorem pm0:(#[] : Array (Nat × Operand)).map (fun p=>(p.1,ev f p.2)) = #[]:=by simp
theorem pm1 {i1:Nat} (h1:ev f x1=v1) : #[(i1,x1)].map (fun p=>(p.1,ev f p.2)) = #[(i1,v1)]:=by simp [h1]
theorem pm2 {i1 i2:Nat} (h1:ev f x1=v1) (h2:ev f x2=v2) : #[(i1,x1),(i2,x2)].map (fun p=>(p.1,ev f p.2)) = #[(i1,v1),(i2,v2)]:=by simp [h1,h2]
end
def isGo (P:Program) (gf:FuncId):Bool:=match P.funcs[gf]? with|some fn=>!(fn.name == "runtime.NumGoroutine") && fn.body.isSome|none=>false
theorem Calls.arr {a b:Array Value} {R:Ending→World→Prop} (e:a=b) (h:Calls P gf a w R):Calls P gf b w R:=e ▸ h
theorem run_callFunc (h:isGo P gf=true):(callFunc gf vals).run P w=.ok (.enter gf vals) w:=by
  unfold isGo at h
  cases hf:P.funcs[gf]? with
  |none=>rw [hf] at h; cases h
  |some fn=>
    rw [hf] at h
    simp only [Bool.and_eq_true,Bool.not_eq_true'] at h
    obtain ⟨h1,h2⟩:=h
    have h3:fn.body.isNone=false:=by cases hb:fn.body with|none=>rw [hb] at h2; cases h2|some _=>rfl
    simp [callFunc,hf,h3]
    have h1':¬ fn.name = "runtime.NumGoroutine":=by simpa using h1
    simp [h1']
    intro hb
    rw [hb] at h2
    cases h2
theorem run_callV {caps:Array Value} {ov:Operand} (hv:ev f ov=.func (.func gf) #[] caps) (ha:args.map (ev f)=vals) (hgo:isGo P gf=true) :
    (execOp (ev f) ⟨d,.call ⟨.value ov,args,ats⟩,ty,pos,af,g⟩).run P w=.ok (.enter gf (vals ++ caps)) w:=by
  simp [execOp,resolve,hv,ha,Deferred.ofValue,invoke,run_callFunc hgo]
theorem run_call (ha:args.map (ev f)=vals) (hgo:isGo P gf=true) :
    (execOp (ev f) ⟨d,.call ⟨.value (.func gf),args,ats⟩,ty,pos,af,g⟩).run P w=.ok (.enter gf vals) w:=by
  have h:=run_callV (P:=P) (w:=w) (d:=d) (ty:=ty) (pos:=pos) (af:=af) (g:=g) (ats:=ats) (ov:=.func gf) (caps:=#[]) rfl ha hgo
  simpa using h
theorem RQ.call (hg:wantF f ops ⟨d,.call ⟨.value (.func gf),args,ats⟩,ty,pos,af,g⟩=true) (ha:args.map (ev f)=vals) (hgo:isGo P gf=true)
    (hc :∀w,C w→Calls P gf vals w fun e w'=>e=.returned v∧C w') (h:RQ P ops C Qf rest (upo f d v)):RQ P ops C Qf (⟨d,.call ⟨.value (.func gf),args,ats⟩,ty,pos,af,g⟩ :: rest) f:=
  ⟨v,.inl ⟨hg,fun w hw=>by rw [run_call ha hgo]; exact ⟨rfl,hc w hw⟩⟩,h⟩
theorem RQ.callV {ov:Operand} {caps:Array Value} (hg:wantF f ops ⟨d,.call ⟨.value ov,args,ats⟩,ty,pos,af,g⟩=true) (hv:ev f ov=.func (.func gf) #[] caps) (ha:args.map (ev f)=vals) (hgo:isGo P gf=true)
    (hc :∀w,C w→Calls P gf (vals ++ caps) w fun e w'=>e=.returned v∧C w') (h:RQ P ops C Qf rest (upo f d v)):RQ P ops C Qf (⟨d,.call ⟨.value ov,args,ats⟩,ty,pos,af,g⟩ :: rest) f:=
  ⟨v,.inl ⟨hg,fun w hw=>by rw [run_callV hv ha hgo]; exact ⟨rfl,hc w hw⟩⟩,h⟩
theorem RL.call (hg:wantF f ops ⟨d,.call ⟨.value (.func gf),args,ats⟩,ty,pos,af,g⟩=true) (ha:args.map (ev f)=vals) (hgo:isGo P gf=true)
    (hc:Calls P gf vals w fun e w'=>∃v,e=.returned v∧RL P ops Q rest (upo f d v) w'):RL P ops Q (⟨d,.call ⟨.value (.func gf),args,ats⟩,ty,pos,af,g⟩ :: rest) f w:=
  .inl ⟨hg,by rw [run_call ha hgo]; exact hc⟩
theorem RL.callV {ov:Operand} {caps:Array Value} (hg:wantF f ops ⟨d,.call ⟨.value ov,args,ats⟩,ty,pos,af,g⟩=true) (hv:ev f ov=.func (.func gf) #[] caps) (ha:args.map (ev f)=vals) (hgo:isGo P gf=true)
    (hc:Calls P gf (vals ++ caps) w fun e w'=>∃v,e=.returned v∧RL P ops Q rest (upo f d v) w'):RL P ops Q (⟨d,.call ⟨.value ov,args,ats⟩,ty,pos,af,g⟩ :: rest) f w:=
  .inl ⟨hg,by rw [run_callV hv ha hgo]; exact hc⟩
theorem Y.makeFunc {fn:Fn} {caps:Array Operand} (ha:caps.map (ev f)=vals):Y P C f ⟨d,.makeFunc fn #[] caps,ty,pos,af,g⟩ (.func fn #[] vals):=fun w _=>by
  subst ha; simp [execOp,Instr.makeFunc]
/-- A contract of a function that leaves old memory alone, in a region's class. -/
theorem bel {w:World} {K:Ending→Prop} (h :∀w',Below w.heap.size w w'→Calls P gf vals w' fun e w''=>e=.returned v∧Below w'.heap.size w' w'') :
    ∀w',Below w.heap.size w w'→Calls P gf vals w' fun e w''=>e=.returned v∧Below w.heap.size w w'':=
  fun w' hb=>(h w' hb).mono fun e w'' ⟨he,hb'⟩=>⟨he,hb.trans (hb'.mono hb.size)⟩
theorem Calls.same {R:Ending→World→Prop} (h:Calls P gf vals w fun e w'=>e=.returned v∧w=w'):Calls P gf vals w fun e w'=>e=.returned v∧Below w.heap.size w w':=
  h.mono fun e w' ⟨he,hw⟩=>⟨he,by subst hw; exact Below.refl _ _⟩
theorem below_alloc (w:World) (o:Obj):Below w.heap.size w (w.alloc o):=(Below.refl _ _).alloc (Nat.le_refl _) _
theorem RL.alloc {z:Value} (hg:wantF f ops ⟨d,.alloc t,ty,pos,af,g⟩=true) (hz:(P.info? t).bind (·.zero)=some z)
    (h :∀w1,Blk w1 w.heap.size t z.cells→Below w.heap.size w w1→w1.heap.size=w.heap.size+1→RL P ops Q rest (upo f d (.pointer (some ⟨w.heap.size,0,none⟩))) w1):RL P ops Q (⟨d,.alloc t,ty,pos,af,g⟩ :: rest) f w:=by
  refine .inl ⟨hg,?_⟩
  cases hi:P.info? t with
  |none=>rw [hi] at hz; cases hz
  |some inf=>
    rw [hi] at hz
    simp only [Option.bind_some] at hz
    have hr:(execOp (ev f) ⟨d,.alloc t,ty,pos,af,g⟩).run P w=.ok (.value (.pointer (some ⟨w.heap.size,0,none⟩))) (w.alloc (.cells z.cells t)):=by
      simp [execOp,Instr.alloc,zeroValue,typeInfo,hi,hz,newVar,newRow]
    rw [hr]
    exact h _ (Blk.new _ _ _) (below_alloc _ _) (World.size_alloc _ _)
theorem RL.box (hg:wantF f ops ⟨d,.box t x,ty,pos,af,g⟩=true) (hx:ev f x=v)
    (h :∀w1,Blk w1 w.heap.size t v.cells→Below w.heap.size w w1→w1.heap.size=w.heap.size+1→RL P ops Q rest (upo f d (.pointer (some ⟨w.heap.size,0,none⟩))) w1):RL P ops Q (⟨d,.box t x,ty,pos,af,g⟩ :: rest) f w:=by
  refine .inl ⟨hg,?_⟩
  have hr:(execOp (ev f) ⟨d,.box t x,ty,pos,af,g⟩).run P w=.ok (.value (.pointer (some ⟨w.heap.size,0,none⟩))) (w.alloc (.cells v.cells t)):=by
    simp [execOp,hx,Instr.box,newVar,newRow]
  rw [hr]
  exact h _ (Blk.new _ _ _) (below_alloc _ _) (World.size_alloc _ _)
theorem Blk.only_ {w w':World} {b:Nat} {e:TypeId} {cs:Array Value} {bs:List Nat} (h:Blk w b e cs) (ho:Only bs w w') (hb:b ∉ bs):Blk w' b e cs:=(ho.block b hb).trans h
theorem setRow_only (w:World) (b:Nat) (cs:Array Value):Only [b] w (w.setRow b cs):=
  ⟨rfl,rfl,rfl,by simp [World.setRow],fun k hk=>by
    have:¬ b=k:=fun e=>hk (by simp [e])
    simp [World.setRow,Array.getElem?_modify,this]⟩
theorem setRow_blk {w:World} {b:Nat} {e:TypeId} {cs cs':Array Value} (h:Blk w b e cs):Blk (w.setRow b cs') b e cs':=setRow_heap w b cs cs' e (0,0) h
/-- A store into a block of the call's own. -/
theorem RL.store {b o:Nat} {e:TypeId} {cs cs':Array Value} (hg:wantF f ops ⟨d,.store t x y,ty,pos,af,g⟩=true) (hx:ev f x=.pointer (some ⟨b,o,none⟩)) (hy:ev f y=v) (hb:Blk w b e cs)
    (hs:(P.info? t).map (·.size)=some v.cells.size) (h1:(v.cells.toList.all Value.oneCell')=true) (hl0:Nat.ble (o+v.cells.size) cs.size=true) (hcs:(cs.toList.take o ++ v.cells.toList ++ cs.toList.drop (o+v.cells.size)).toArray=cs')
    (h :∀w1,Blk w1 b e cs'→Only [b] w w1→RL P ops Q rest (upo f d undef) w1):RL P ops Q (⟨d,.store t x y,ty,pos,af,g⟩ :: rest) f w:=by
  have hl:=Nat.le_of_ble_eq_true hl0
  refine .inl ⟨hg,?_⟩
  cases hi:P.info? t with
  |none=>rw [hi] at hs; cases hs
  |some inf=>
    rw [hi] at hs
    simp only [Option.map_some,Option.some.injEq] at hs
    have hst:=run_storeCells_at (P:=P) b o e v.cells.toList 0 cs w hb (by simpa using hl) (fun u hu=>List.all_eq_true.1 h1 u hu)
    have hr:(execOp (ev f) ⟨d,.store t x y,ty,pos,af,g⟩).run P w=.ok .skip (w.setRow b cs'):=by
      subst hcs
      simp only [Nat.add_zero] at hst
      simp [execOp,hx,hy,Instr.storeAt,Instr.sureAddr,storeVar,sizeOf,typeInfo,hi,hs,hst]
    rw [hr]
    exact h _ (setRow_blk hb) (setRow_only _ _ _)
def bslO (P:Program) (t:TypeId) (len:Nat) (parts:List (Nat × Value)):Option (TypeId × Array Value):=
  match P.underlying t with
  |some (.slice e)=>match P.info? e with
    |some inf=>if len * inf.size > 16777216 then none else
      match (if len * inf.size=0 then some #[] else inf.zero.map (·.cells)) with
      |some zero=>(Instr.fill (fun i=>some (i * inf.size,inf.size)) ((Array.range (len * inf.size)).map (zero[· % zero.size]!)) parts).map fun cs=>(e,cs)
      |none=>none
    |none=>none
  |_=>none
theorem run_bsl {len:Nat} {parts:Array (Nat × Value)} {e:TypeId} {cells:Array Value} (hb:bslO P t len parts.toList=some (e,cells)):(Instr.buildSlice t len parts).run P w=.ok (.slice (some ⟨w.heap.size,0,none⟩) len len) (w.alloc (.cells cells e)):=by
  unfold bslO at hb
  cases hu:P.underlying t with
  |none=>rw [hu] at hb; cases hb
  |some u0=>
    rw [hu] at hb
    cases u0 <;> simp only at hb <;> try (cases hb; done)
    rename_i e'
    cases hi:P.info? e' with
    |none=>rw [hi] at hb; cases hb
    |some inf=>
      rw [hi] at hb
      simp only at hb
      split at hb
      · cases hb
      · rename_i hbig
        by_cases h0:len * inf.size=0
        · simp only [h0,if_true] at hb
          cases hf:Instr.fill (fun i=>some (i * inf.size,inf.size)) ((Array.range 0).map ((#[] : Array Value)[· % (#[] : Array Value).size]!)) parts.toList with
          |none=>rw [hf] at hb; cases hb
          |some cs=>
            rw [hf] at hb
            simp only [Option.map_some,Option.some.injEq,Prod.mk.injEq] at hb
            obtain ⟨rfl,rfl⟩:=hb
            simp at hf
            simp [Instr.buildSlice,run_underlying hu,sizeOf,typeInfo,hi,h0,newRow,hf]
        · simp only [h0,if_false] at hb
          cases hz:inf.zero with
          |none=>rw [hz] at hb; cases hb
          |some z=>
            rw [hz] at hb
            simp only [Option.map_some] at hb
            cases hf:Instr.fill (fun i=>some (i * inf.size,inf.size)) ((Array.range (len * inf.size)).map (z.cells[· % z.cells.size]!)) parts.toList with
            |none=>rw [hf] at hb; cases hb
            |some cs=>
              rw [hf] at hb
              simp only [Option.map_some,Option.some.injEq,Prod.mk.injEq] at hb
              obtain ⟨rfl,rfl⟩:=hb
              simp [Instr.buildSlice,run_underlying hu,sizeOf,typeInfo,hi,h0,hbig,zeroValue,hz,newRow,hf]
theorem RL.bslice {len:Nat} {parts:Array (Nat × Operand)} {pv:Array (Nat × Value)} {e:TypeId} {cells:Array Value} (hg:wantF f ops ⟨d,.buildSlice t len parts,ty,pos,af,g⟩=true)
    (hp:parts.map (fun p=>(p.1,ev f p.2))=pv) (hb:bslO P t len pv.toList=some (e,cells))
    (h :∀w1,Blk w1 w.heap.size e cells→Below w.heap.size w w1→w1.heap.size=w.heap.size+1→RL P ops Q rest (upo f d (.slice (some ⟨w.heap.size,0,none⟩) len len)) w1):RL P ops Q (⟨d,.buildSlice t len parts,ty,pos,af,g⟩ :: rest) f w:=by
  refine .inl ⟨hg,?_⟩
  have hr:(execOp (ev f) ⟨d,.buildSlice t len parts,ty,pos,af,g⟩).run P w=.ok (.value (.slice (some ⟨w.heap.size,0,none⟩) len len)) (w.alloc (.cells cells e)):=by
    have:=run_bsl (P:=P) (w:=w) (parts:=pv) hb
    subst hp
    simp [execOp,this]
  rw [hr]
  exact h _ (Blk.new _ _ _) (below_alloc _ _) (World.size_alloc _ _)
end
end
section
open Go.RowKit
section
variable {P : Program} {w : World} {f : Nat → Value} {n : Nat} {Q : Exit → Act → World → Prop} {K : Act → World → Prop} {a : Act} {x y : Code} {id id' : Nat} {c : Operand}
theorem then_n (h:K a w):Exit.then K Q .normal a w:=h
theorem then_r (h:Q .ret a w):Exit.then K Q .ret a w:=h
theorem then_x (h:Q (.exit id) a w):Exit.then K Q (.exit id) a w:=h
theorem blk_n (h:Q .normal a w):Exit.inBlock id Q .normal a w:=h
theorem blk_r (h:Q .ret a w):Exit.inBlock id Q .ret a w:=h
theorem blk_hit (h:Q .normal a w):Exit.inBlock id Q (.exit id) a w:=by simp only [Exit.inBlock,if_true]; exact h
theorem cond_t (hin:opIn n c=true) (hc:ev f c=.bool true) (h:x.wp P Q (Fr n f) w):(Code.cond c x y).wp P Q (Fr n f) w:=wp_cond_true ((Fr_eval hin).trans hc) h
theorem cond_f (hin:opIn n c=true) (hc:ev f c=.bool false) (h:y.wp P Q (Fr n f) w):(Code.cond c x y).wp P Q (Fr n f) w:=wp_cond_false ((Fr_eval hin).trans hc) h
theorem wp_loopF {cd:Code} (I:Nat→(Nat→Value)→World→Prop) (g0:Nat) (h0:I g0 f w)
    (round :∀g f w,I g f w→cd.wp P (Exit.then (fun a' w'=>∃g' f',g' < g∧a'=Fr n f'∧I g' f' w') Q) (Fr n f) w):(Code.loop cd).wp P Q (Fr n f) w:=by
  refine wp_loop_ghost (fun g a w=>∃f,a=Fr n f∧I g f w) g0 ⟨f,rfl,h0⟩ ?_
  rintro g a w ⟨f,rfl,h⟩
  refine Code.wp_mono ?_ (round g f w h)
  intro e a' w' hq
  cases e <;> first|exact hq|skip
  obtain ⟨g',f',h1,h2,h3⟩:=hq
  exact ⟨g',h1,f',h2,h3⟩
theorem enter {gf:FuncId} {fn:Func} {cd:Code} {args:Array Value} {R:Ending→World→Prop} (n:Nat) (hf:P.funcs[gf]? = some fn) (hb:fn.body=some cd) (hn:fn.ntmps=n) (hs:Nat.ble args.size n=true)
    (h :∀f,(∀i v,args[i]? = some v→f i=v)→cd.wp P (bodyPost P fn R) (Fr n f) w):Calls P gf args w R:=by
  refine calls_of_wp hf hb ?_
  have hs':args.size≤n:=Nat.le_of_ble_eq_true hs
  have e:({ tmps:=args ++ Array.replicate (fn.ntmps - args.size) undef,defers:=[] } : Act)=Fr n (fun i=>(args ++ Array.replicate (n - args.size) undef).getD i undef):=by
    rw [hn]
    simp only [Fr,Act.mk.injEq,and_true]
    apply Array.ext_getElem?
    intro i
    have hsz:(args ++ Array.replicate (n - args.size) undef).size=n:=by simp; omega
    by_cases hi:i < n
    · simp only [List.getElem?_toArray,List.getElem?_map,List.getElem?_range hi,Option.map_some]
      have h2:i < (args ++ Array.replicate (n - args.size) undef).size:=by rw [hsz]; exact hi
      rw [Array.getElem?_eq_getElem h2,Array.getD,dif_pos h2]
      rfl
    · have h2:(args ++ Array.replicate (n - args.size) undef).size≤i:=by rw [hsz]; omega
      rw [Array.getElem?_eq_none h2]
      simp [hi]
  rw [e]
  refine h _ fun i v hi=>?_
  have hlt:i < args.size:=(Array.getElem?_eq_some_iff.1 hi).1
  have h2:i < (args ++ Array.replicate (n - args.size) undef).size:=by simp; omega
  simp only [Array.getD,dif_pos h2]
  rw [Array.getElem?_eq_getElem hlt] at hi
  injection hi with hi
  show (args ++ Array.replicate (n - args.size) undef)[i] = v
  rw [Array.getElem_append_left hlt]
  exact hi
theorem ret1 {fn:Func} {R:Ending→World→Prop} {t:Tmp} {v:Value} (hr:fn.results = #[.tmp t]) (ht:Nat.blt t n=true) (hv:f t=v) (h:R (.returned v) w):bodyPost P fn R .ret (Fr n f) w:=
  ⟨rfl, v, by rw [results_tmp hr]; congr 1; have ht' : t < n := by simpa using ht
              simp [Fr,ht',hv],h⟩
theorem ret2 {fn:Func} {R:Ending→World→Prop} {t1 t2:Tmp} {v1 v2:Value} (hr:fn.results = #[.tmp t1,.tmp t2]) (ht:(Nat.blt t1 n && Nat.blt t2 n)=true) (hv1:f t1=v1) (hv2:f t2=v2) (h:R (.returned (.tuple #[v1,v2])) w):bodyPost P fn R .ret (Fr n f) w:=
  ⟨rfl,_,by
    rw [results_tmp2 hr]
    simp only [Bool.and_eq_true] at ht
    have h1:t1 < n:=by simpa using ht.1
    have h2:t2 < n:=by simpa using ht.2
    simp only [Fr,Array.getD_eq_getD_getElem?,List.getElem?_toArray,List.getElem?_map,List.getElem?_range h1,List.getElem?_range h2,Option.map_some,Option.getD_some,hv1,hv2],h⟩
/-- A result that lies in a variable in memory. -/
theorem retc {fn:Func} {R:Ending→World→Prop} {t:Tmp} {b o:Nat} {ty:TypeId} {cs:List Value} (hr:fn.results = #[.cell t ty]) (ht:Nat.blt t n=true) (hv:f t=.pointer (some ⟨b,o,none⟩)) (hag:aggO P ty=some cs.length)
    (hc :∀j v,cs[j]? = some v→w.cell? ⟨b,o+j,none⟩=some v) (h:R (.returned (.agg cs.toArray)) w):bodyPost P fn R .ret (Fr n f) w:=
  ⟨rfl,_,by
    have h1:t < n:=by simpa using ht
    have hl:=run_loadN (P:=P) (w:=w) hag hc
    simp only [Instr.loadAt,Instr.sureAddr,Sem.run_bind,Sem.run_pure,Result.andThen_ok,bind_pure_comp,pure_bind] at hl
    simp only [results,hr]
    simp [Fr,h1,hv,asAddr,hl],h⟩
end
section
variable {P : Program} {f : Nat → Value} {w : World} {n id : Nat} {l : List Oper} {Q : Exit → Act → World → Prop}
theorem RQ_mono {ops:Array Oper} {C:World→Prop} {Q Q':(Nat→Value)→Prop} (hq :∀f,Q f→Q' f) :∀{l:List Oper} {f:Nat→Value},RQ P ops C Q l f→RQ P ops C Q' l f
  |[],f,h=>hq f h
  |o :: rest,f,⟨v,h1,h2⟩=>⟨v,h1,RQ_mono hq h2⟩
/-- A region that only looks, at one world. -/
theorem wp_rs (hin:okAll n l=true) (h:RQ P l.toArray (· = w) (fun f'=>Q .normal (Fr n f') w) l f):(Code.region id l.toArray false).wp P Q (Fr n f) w:=
  wp_rq (· = w) rfl hin (RQ_mono (fun f' h w' e=>by rw [e]; exact h) h)
/-- A region whose calls leave old memory alone. -/
theorem wp_rb (hin:okAll n l=true) (h:RQ P l.toArray (Below w.heap.size w) (fun f'=>∀w',Below w.heap.size w w'→Q .normal (Fr n f') w') l f):(Code.region id l.toArray false).wp P Q (Fr n f) w:=
  wp_rq (Below w.heap.size w) (Below.refl _ _) hin h
theorem wp_rbd (hm:P.follows .mixedOrders=true) (hin:(okAll n l && Region.lexB .any l.toArray)=true) (h:RQ P l.toArray (Below w.heap.size w) (fun f'=>∀w',Below w.heap.size w w'→Q .normal (Fr n f') w') l f):(Code.region id l.toArray true).wp P Q (Fr n f) w:=
  wp_rq_draw (Below w.heap.size w) (Below.drew (Below.refl _ _)) hm hin h
end
end
section
open Go.RowKit
structure DPort where
  agent:Int
  slot:Int
deriving DecidableEq,Inhabited
def portRd:Rd DPort:=fun _ _ cs x=>cs=[.int .i64 x.agent,.int .i64 x.slot]
def portOw:Ow DPort:=fun _ cs x bs=>cs=[.int .i64 x.agent,.int .i64 x.slot]∧bs=[]
theorem portRd_ok:RdOk portRd 2:=⟨fun h=>by cases h; rfl,fun _ h=>h,fun _ h=>h⟩
theorem portOw_ok:OwOk portOw 2:=⟨fun h=>by rw [h.1]; rfl,fun _ h=>h⟩
theorem portOw_reads (B:Nat):Gives portOw portRd B:=fun _ _ _ _ h _=>h.1
theorem SlAt.port {w:World} {B n:Nat} {A:Option Addr} {xs:List DPort} (h:SlAt portRd 2 w B A n xs) {k:Nat} (hk:k < n) :
    ∃b off x,A=some ⟨b,off,none⟩∧b < B∧xs[k]? = some x∧w.cell? ⟨b,off+k * 2,none⟩=some (.int .i64 x.agent)∧w.cell? ⟨b,off+k * 2+1,none⟩=some (.int .i64 x.slot):=by
  obtain ⟨b,off,x,cs,e,hb,hx,rfl,hc⟩:=h.at_ hk
  exact ⟨b,off,x,e,hb,hx,(by simpa using hc 0 _ rfl),(by simpa using hc 1 _ rfl)⟩
structure DPair where
  a:Int
  b:Int
deriving DecidableEq,Inhabited
def pairRd:Rd DPair:=fun _ _ cs x=>cs=[.int .i64 x.a,.int .i64 x.b]
structure DWord where
  tag:Int
  at_:Int
deriving DecidableEq,Inhabited
def wordRd:Rd DWord:=fun _ _ cs x=>cs=[.int .i64 x.tag,.int .i64 x.at_]
structure DAgent where
  kind:Int
  level:Int
  value:Int
  data:List Int
  ports:List DPort
deriving DecidableEq,Inhabited
def agentRd:Rd DAgent:=fun w B cs x=>∃(A1:Option Addr) (n1 c1:Nat) (A2:Option Addr) (n2 c2:Nat),cs=[.int .i64 x.kind,.int .i64 x.level,.int .i64 x.value,.slice A1 n1 c1,.slice A2 n2 c2]∧(SlAt intRd 1 w B A1 n1 x.data∧n1≤c1∧c1≤maxLen)∧(SlAt portRd 2 w B A2 n2 x.ports∧n2≤c2∧c2≤maxLen)
def agentOw:Ow DAgent:=fun w cs x bs=>∃(A1:Option Addr) (n1 c1:Nat) (A2:Option Addr) (n2 c2:Nat) (b1 b2:List Nat),cs=[.int .i64 x.kind,.int .i64 x.level,.int .i64 x.value,.slice A1 n1 c1,.slice A2 n2 c2]∧(OwAt intOw 1 w A1 n1 x.data b1∧n1≤c1∧c1≤maxLen)∧(OwAt portOw 2 w A2 n2 x.ports b2∧n2≤c2∧c2≤maxLen)∧bs=b1 ++ b2
theorem agentRd_ok:RdOk agentRd 5:=
  ⟨fun ⟨A1, n1, c1, A2, n2, c2, e, _⟩ => by rw [e]; rfl,
   fun hk ⟨A1,n1,c1,A2,n2,c2,e,⟨h1,r1⟩,⟨h2,r2⟩⟩=>⟨A1,n1,c1,A2,n2,c2,e,⟨h1.keep intRd_ok hk,r1⟩,⟨h2.keep portRd_ok hk,r2⟩⟩,
   fun hB ⟨A1,n1,c1,A2,n2,c2,e,⟨h1,r1⟩,⟨h2,r2⟩⟩=>⟨A1,n1,c1,A2,n2,c2,e,⟨h1.more intRd_ok hB,r1⟩,⟨h2.more portRd_ok hB,r2⟩⟩⟩
theorem agentOw_ok:OwOk agentOw 5:=
  ⟨fun ⟨A1, n1, c1, A2, n2, c2, b1, b2, e, _⟩ => by rw [e]; rfl,
   fun hb ⟨A1,n1,c1,A2,n2,c2,b1,b2,e,⟨h1,r1⟩,⟨h2,r2⟩,eb⟩=>⟨A1,n1,c1,A2,n2,c2,b1,b2,e,⟨h1.keep intOw_ok (fun k hk=>hb k (by rw [eb]; simp [hk])),r1⟩,⟨h2.keep portOw_ok (fun k hk=>hb k (by rw [eb]; simp [hk])),r2⟩,eb⟩⟩
theorem agentOw_reads (B:Nat):Gives agentOw agentRd B:=fun _ _ _ _ ⟨A1,n1,c1,A2,n2,c2,b1,b2,e,⟨h1,r1⟩,⟨h2,r2⟩,eb⟩ hb=>⟨A1,n1,c1,A2,n2,c2,e,⟨h1.reads (intOw_reads B) (fun k hk=>hb k (by rw [eb]; simp [hk])),r1⟩,⟨h2.reads (portOw_reads B) (fun k hk=>hb k (by rw [eb]; simp [hk])),r2⟩⟩
theorem SlAt.agent {w:World} {B n:Nat} {A:Option Addr} {xs:List DAgent} (h:SlAt agentRd 5 w B A n xs) {k:Nat} (hk:k < n) :
    ∃b off x A1 n1 c1 A2 n2 c2,A=some ⟨b,off,none⟩∧b < B∧xs[k]? = some x∧w.cell? ⟨b,off+k * 5,none⟩=some (.int .i64 x.kind)∧w.cell? ⟨b,off+k * 5+1,none⟩=some (.int .i64 x.level)∧w.cell? ⟨b,off+k * 5+2,none⟩=some (.int .i64 x.value)∧w.cell? ⟨b,off+k * 5+3,none⟩=some (.slice A1 n1 c1)∧w.cell? ⟨b,off+k * 5+4,none⟩=some (.slice A2 n2 c2)∧(SlAt intRd 1 w B A1 n1 x.data∧n1≤c1∧c1≤maxLen)∧(SlAt portRd 2 w B A2 n2 x.ports∧n2≤c2∧c2≤maxLen):=by
  obtain ⟨b,off,x,cs,e,hb,hx,⟨A1,n1,c1,A2,n2,c2,rfl,h1,h2⟩,hc⟩:=h.at_ hk
  exact ⟨b,off,x,A1,n1,c1,A2,n2,c2,e,hb,hx,(by simpa using hc 0 _ rfl),(by simpa using hc 1 _ rfl),(by simpa using hc 2 _ rfl),(by simpa using hc 3 _ rfl),(by simpa using hc 4 _ rfl),h1,h2⟩
def szAgent (x:DAgent):Nat:=x.data.length+x.ports.length
def szAgentS (xs:List DAgent):Nat:=xs.length+(xs.map szAgent).sum
structure DNet where
  agents:List DAgent
deriving DecidableEq,Inhabited
def netRd:Rd DNet:=fun w B cs x=>∃(A1:Option Addr) (n1 c1:Nat),cs=[.slice A1 n1 c1]∧(SlAt agentRd 5 w B A1 n1 x.agents∧n1≤c1∧c1≤maxLen)
def netOw:Ow DNet:=fun w cs x bs=>∃(A1:Option Addr) (n1 c1:Nat) (b1:List Nat),cs=[.slice A1 n1 c1]∧(OwAt agentOw 5 w A1 n1 x.agents b1∧n1≤c1∧c1≤maxLen)∧bs=b1
theorem netRd_ok:RdOk netRd 1:=
  ⟨fun ⟨A1, n1, c1, e, _⟩ => by rw [e]; rfl,
   fun hk ⟨A1,n1,c1,e,⟨h1,r1⟩⟩=>⟨A1,n1,c1,e,⟨h1.keep agentRd_ok hk,r1⟩⟩,
   fun hB ⟨A1,n1,c1,e,⟨h1,r1⟩⟩=>⟨A1,n1,c1,e,⟨h1.more agentRd_ok hB,r1⟩⟩⟩
theorem netOw_ok:OwOk netOw 1:=
  ⟨fun ⟨A1, n1, c1, b1, e, _⟩ => by rw [e]; rfl,
   fun hb ⟨A1,n1,c1,b1,e,⟨h1,r1⟩,eb⟩=>⟨A1,n1,c1,b1,e,⟨h1.keep agentOw_ok (fun k hk=>hb k (by rw [eb]; simp [hk])),r1⟩,eb⟩⟩
theorem netOw_reads (B:Nat):Gives netOw netRd B:=fun _ _ _ _ ⟨A1,n1,c1,b1,e,⟨h1,r1⟩,eb⟩ hb=>⟨A1,n1,c1,e,⟨h1.reads (agentOw_reads B) (fun k hk=>hb k (by rw [eb]; simp [hk])),r1⟩⟩
theorem SlAt.net {w:World} {B n:Nat} {A:Option Addr} {xs:List DNet} (h:SlAt netRd 1 w B A n xs) {k:Nat} (hk:k < n) :
    ∃b off x A1 n1 c1,A=some ⟨b,off,none⟩∧b < B∧xs[k]? = some x∧w.cell? ⟨b,off+k,none⟩=some (.slice A1 n1 c1)∧(SlAt agentRd 5 w B A1 n1 x.agents∧n1≤c1∧c1≤maxLen):=by
  obtain ⟨b,off,x,cs,e,hb,hx,⟨A1,n1,c1,rfl,h1⟩,hc⟩:=h.at_ hk
  exact ⟨b,off,x,A1,n1,c1,e,hb,hx,(by simpa using hc 0 _ rfl),h1⟩
def szNet (x:DNet):Nat:=szAgentS x.agents
structure DCell where
  kind:Int
  level:Int
  value:Int
  data:List Int
  words:List DWord
deriving DecidableEq,Inhabited
def cellRd:Rd DCell:=fun w B cs x=>∃(A1:Option Addr) (n1 c1:Nat) (A2:Option Addr) (n2 c2:Nat),cs=[.int .i64 x.kind,.int .i64 x.level,.int .i64 x.value,.slice A1 n1 c1,.slice A2 n2 c2]∧(SlAt intRd 1 w B A1 n1 x.data∧n1≤c1∧c1≤maxLen)∧(SlAt wordRd 2 w B A2 n2 x.words∧n2≤c2∧c2≤maxLen)
theorem SlAt.cell {w:World} {B n:Nat} {A:Option Addr} {xs:List DCell} (h:SlAt cellRd 5 w B A n xs) {k:Nat} (hk:k < n) :
    ∃b off x A1 n1 c1 A2 n2 c2,A=some ⟨b,off,none⟩∧b < B∧xs[k]? = some x∧w.cell? ⟨b,off+k * 5,none⟩=some (.int .i64 x.kind)∧w.cell? ⟨b,off+k * 5+1,none⟩=some (.int .i64 x.level)∧w.cell? ⟨b,off+k * 5+2,none⟩=some (.int .i64 x.value)∧w.cell? ⟨b,off+k * 5+3,none⟩=some (.slice A1 n1 c1)∧w.cell? ⟨b,off+k * 5+4,none⟩=some (.slice A2 n2 c2)∧(SlAt intRd 1 w B A1 n1 x.data∧n1≤c1∧c1≤maxLen)∧(SlAt wordRd 2 w B A2 n2 x.words∧n2≤c2∧c2≤maxLen):=by
  obtain ⟨b,off,x,cs,e,hb,hx,⟨A1,n1,c1,A2,n2,c2,rfl,h1,h2⟩,hc⟩:=h.at_ hk
  exact ⟨b,off,x,A1,n1,c1,A2,n2,c2,e,hb,hx,(by simpa using hc 0 _ rfl),(by simpa using hc 1 _ rfl),(by simpa using hc 2 _ rfl),(by simpa using hc 3 _ rfl),(by simpa using hc 4 _ rfl),h1,h2⟩
structure DMemory where
  cells:List DCell
  free:Int
  root:DWord
  redexes:List DPair
deriving DecidableEq,Inhabited
def memoryRd:Rd DMemory:=fun w B cs x=>∃(A1:Option Addr) (n1 c1:Nat) (A2:Option Addr) (n2 c2:Nat),cs=[.slice A1 n1 c1,.int .i64 x.free,.int .i64 x.root.tag,.int .i64 x.root.at_,.slice A2 n2 c2]∧(SlAt cellRd 5 w B A1 n1 x.cells∧n1≤c1∧c1≤maxLen)∧(SlAt pairRd 2 w B A2 n2 x.redexes∧n2≤c2∧c2≤maxLen)
theorem SlAt.memory {w:World} {B n:Nat} {A:Option Addr} {xs:List DMemory} (h:SlAt memoryRd 5 w B A n xs) {k:Nat} (hk:k < n) :
    ∃b off x A1 n1 c1 A2 n2 c2,A=some ⟨b,off,none⟩∧b < B∧xs[k]? = some x∧w.cell? ⟨b,off+k * 5,none⟩=some (.slice A1 n1 c1)∧w.cell? ⟨b,off+k * 5+1,none⟩=some (.int .i64 x.free)∧w.cell? ⟨b,off+k * 5+2,none⟩=some (.int .i64 x.root.tag)∧w.cell? ⟨b,off+k * 5+3,none⟩=some (.int .i64 x.root.at_)∧w.cell? ⟨b,off+k * 5+4,none⟩=some (.slice A2 n2 c2)∧(SlAt cellRd 5 w B A1 n1 x.cells∧n1≤c1∧c1≤maxLen)∧(SlAt pairRd 2 w B A2 n2 x.redexes∧n2≤c2∧c2≤maxLen):=by
  obtain ⟨b,off,x,cs,e,hb,hx,⟨A1,n1,c1,A2,n2,c2,rfl,h1,h2⟩,hc⟩:=h.at_ hk
  exact ⟨b,off,x,A1,n1,c1,A2,n2,c2,e,hb,hx,(by simpa using hc 0 _ rfl),(by simpa using hc 1 _ rfl),(by simpa using hc 2 _ rfl),(by simpa using hc 3 _ rfl),(by simpa using hc 4 _ rfl),h1,h2⟩
end
section
open Go.RowKit
def getI {α:Type} (xs:List α) (i:Int):Option α:=if 0≤i then xs[i.toNat]? else none
theorem getI_some {α:Type} {xs:List α} {i:Int} {x:α} (h:getI xs i=some x) :∃k:Nat,i=(k:Int)∧k < xs.length∧xs[k]? = some x:=by
  unfold getI at h
  split at h
  · rename_i h0
    obtain ⟨k,rfl⟩:=Int.eq_ofNat_of_zero_le h0
    exact ⟨k,rfl,lt_of_some h,h⟩
  · cases h
theorem getI_nat {α:Type} {xs:List α} {k:Nat} {x:α} (h:xs[k]? = some x):getI xs (k:Int)=some x:=by simp [getI,h]
/-- A number that fits an int64. -/
def ck (n:Int):Option Int:=if -9223372036854775808≤n∧n≤9223372036854775807 then some n else none
theorem ck_some {n m:Int} (h:ck n=some m):m=n∧-9223372036854775808≤n∧n≤9223372036854775807:=by
  unfold ck at h
  split at h
  · rename_i h0; injection h with h; exact ⟨h.symm,h0⟩
  · cases h
theorem ck_ok {n:Int} (h:-9223372036854775808≤n∧n≤9223372036854775807):ck n=some n:=if_pos h
/-- What must hold. -/
def mustP (p:Prop) [Decidable p] : Option Unit:=if p then some () else none
theorem mustP_some {p:Prop} [Decidable p] {u:Unit} (h:mustP p=some u):p:=by
  unfold mustP at h
  split at h
  · assumption
  · cases h
theorem mustP_ok {p:Prop} [Decidable p] (h:p):mustP p=some ():=if_pos h
theorem bnd {α β:Type} {x:Option α} {k:α→Option β} {r:β} (h:x.bind k=some r) :∃a,x=some a∧k a=some r:=Option.bind_eq_some_iff.1 h
theorem cT {β:Type} {b:Bool} {x y:β} {r:β} (c:b=true) (h:(bif b then x else y)=r):x=r:=by rw [c] at h; exact h
theorem cF {β:Type} {b:Bool} {x y:β} {r:β} (c:b=false) (h:(bif b then x else y)=r):y=r:=by rw [c] at h; exact h
theorem wrap_ok {n:Int} (h:-9223372036854775808≤n∧n≤9223372036854775807):IntKind.i64.wrap n=n:=IntWalk.i64_in n h
theorem binI_add {m n:Int} (h:-9223372036854775808≤m+n∧m+n≤9223372036854775807):binI .add .i64 m n=some (.int .i64 (m+n)):=by unfold binI; simp only; rw [wrap_ok h]
theorem binI_sub {m n:Int} (h:-9223372036854775808≤m - n∧m - n≤9223372036854775807):binI .sub .i64 m n=some (.int .i64 (m - n)):=by unfold binI; simp only; rw [wrap_ok h]
theorem binI_mul {m n:Int} (h:-9223372036854775808≤m * n∧m * n≤9223372036854775807):binI .mul .i64 m n=some (.int .i64 (m * n)):=by unfold binI; simp only; rw [wrap_ok h]
section
variable {f : Nat → Value} {ops : Array Oper} {d : Option Tmp} {op : Op} {ty : TypeId} {pos : String} {af : Array Edge} {j dj : Nat} {want have_ : Bool}
theorem wantT (hj:(ops[j]?).bind (·.dst)=some dj) (hv:f dj=.bool want):wantF f ops ⟨d,op,ty,pos,af,some (j,want)⟩=true:=by
  simp only [wantF,gval,hj,hv]; simp
theorem wantN (hj:(ops[j]?).bind (·.dst)=some dj) (hv:f dj=.bool have_) (hne:(have_==want)=false):wantF f ops ⟨d,op,ty,pos,af,some (j,want)⟩=false:=by
  simp only [wantF,gval,hj,hv]
  cases have_ <;> cases want <;> first|rfl|cases hne
end
theorem bcases (b:Bool):b=false ∨ b=true:=by cases b <;> simp
theorem vb {v:Value} {b b':Bool} (h:v=.bool b) (c:b=b'):v=.bool b':=by rw [h,c]
theorem vbn {v:Value} {b b' b'':Bool} (h:v=.bool (!b)) (c:b=b') (e:(!b')=b''):v=.bool b'':=by rw [h,c,e]
section
variable {α : Type} {R : Rd α} {O : Ow α} {sz : Nat} {w w' : World} {v : Value} {xs : List α} {x : α}
theorem cellT {A:Addr} {u:Value} (T:Below w.heap.size w w') (h:w.cell? A=some u):w'.cell? A=some u:=(T.cell (World.block_lt_of_cell? w A h)).trans h
/-- At the present world: a slice, a struct, a pointer to a struct. -/
def Sl (R:Rd α) (sz:Nat) (w:World) (v:Value) (xs:List α):Prop:=RdS R sz w w.heap.size v xs
def St (R:Rd α) (w:World) (v:Value) (x:α):Prop:=RdT R w w.heap.size v x
def Pt (R:Rd α) (w:World) (v:Value) (x:α):Prop:=∃b o cs,v=.pointer (some ⟨b,o,none⟩)∧b < w.heap.size∧R w w.heap.size cs x∧∀j v,cs[j]? = some v→w.cell? ⟨b,o+j,none⟩=some v
theorem Sl.at_ (ok:RdOk R sz) (h:Sl R sz w v xs) (T:Below w.heap.size w w'):Sl R sz w' v xs:=(RdS.below ok h T).more ok T.size
theorem St.at_ (ok:RdOk R sz) (h:St R w v x) (T:Below w.heap.size w w'):St R w' v x:=(RdT.below ok h T).more ok T.size
theorem Pt.at_ (ok:RdOk R sz) (h:Pt R w v x) (T:Below w.heap.size w w'):Pt R w' v x:=by
  obtain ⟨b,o,cs,e,hb,hR,hc⟩:=h
  exact ⟨b,o,cs,e,Nat.lt_of_lt_of_le hb T.size,ok.more T.size (ok.keep (fun p hp=>T.cell hp) hR),fun j v hj=>cellT T (hc j v hj)⟩
theorem SlAt.addr {B n:Nat} {A:Option Addr} (h:SlAt R sz w B A n xs) (hn:0 < n) :∃b o,A=some ⟨b,o,none⟩∧b < B:=by
  obtain ⟨b,o,e,hb,_⟩:=h.2 hn
  exact ⟨b,o,e,hb⟩
theorem SlAt.el {B n b o:Nat} (h:SlAt R sz w B (some ⟨b,o,none⟩) n xs) {k:Nat} (hx:xs[k]? = some x) :∃cs,R w B cs x∧∀j v,cs[j]? = some v→w.cell? ⟨b,o+k * sz+j,none⟩=some v:=by
  have hl:=lt_of_some hx
  obtain ⟨b',o',e,hb,hc⟩:=h.2 (by have:=h.1; omega)
  injection e with e
  injection e with e1 e2
  subst e1 e2
  exact hc k x hx
theorem SlAt.now (ok:RdOk R sz) {B n:Nat} {A:Option Addr} (h:SlAt R sz w B A n xs) (hB:B≤w.heap.size) (T:Below w.heap.size w w'):SlAt R sz w' w'.heap.size A n xs:=
  (h.below ok (T.mono hB)).more ok (Nat.le_trans hB T.size)
/-- A slice that was read, as an argument. -/
theorem slArg (ok:RdOk R sz) {n c:Nat} {A:Option Addr} (h:SlAt R sz w w.heap.size A n xs) (r:n≤c∧c≤maxLen) (T:Below w.heap.size w w'):Sl R sz w' (.slice A n c) xs:=
  ⟨A,n,c,rfl,h.now ok (Nat.le_refl _) T,r⟩
theorem ptArg (ok:RdOk R sz) {b o:Nat} {cs:List Value} (hb:b < w.heap.size) (hR:R w w.heap.size cs x) (hc :∀j v,cs[j]? = some v→w.cell? ⟨b,o+j,none⟩=some v) (T:Below w.heap.size w w'):Pt R w' (.pointer (some ⟨b,o,none⟩)) x:=
  Pt.at_ ok ⟨b,o,cs,rfl,hb,hR,hc⟩ T
theorem ptBox {g:Nat} {t:TypeId} {cs:List Value} (hb:Blk w g t cs.toArray) (hR:R w w.heap.size cs x):Pt R w (.pointer (some ⟨g,0,none⟩)) x:=
  ⟨g,0,cs,rfl,hb.lt,hR,fun j v hj=>by rw [hb.cell]; simpa using hj⟩
theorem stArg {cs:List Value} (hR:R w w.heap.size cs x):St R w (.agg cs.toArray) x:=⟨cs,rfl,hR⟩
theorem len_le {n c:Nat} (r:n≤c∧c≤maxLen):n≤9223372036854775807:=by have:=r.1; have:=r.2; unfold maxLen at this; omega
theorem blkCell {g:Nat} {t:TypeId} {cs:Array Value} {i:Nat} {u:Value} (hb:Blk w g t cs) (hu:cs[i]? = some u):w.cell? ⟨g,0+i,none⟩=some u:=by rw [Nat.zero_add,hb.cell]; exact hu
theorem blkT {g:Nat} {t:TypeId} {cs:Array Value} (hb:Blk w g t cs) (T:Below w.heap.size w w'):Blk w' g t cs:=hb.below T hb.lt
theorem blkCells {g:Nat} {t:TypeId} {cs:List Value} (hb:Blk w g t cs.toArray) :∀j v,cs[j]? = some v→w.cell? ⟨g,0+j,none⟩=some v:=fun j v hj=>blkCell hb (by simpa using hj)
theorem Tt {w w1 w2:World} (T:Below w.heap.size w w1) (h:Below w1.heap.size w1 w2):Below w.heap.size w w2:=T.trans (h.mono T.size)
theorem callB {P:Program} {gf:FuncId} {vals:Array Value} {v:Value} (h:Calls P gf vals w fun e w'=>e=.returned v∧w=w'):Calls P gf vals w fun e w'=>e=.returned v∧Below w.heap.size w w':=h.mono fun e w' ⟨he,hw⟩=>⟨he,by subst hw; exact Below.refl _ _⟩
section
variable {C : World → Prop} {b o : Nat} {v0 v1 v2 v3 v4 : Value}
theorem cells1 (h0:CellIn C ⟨b,o+0,none⟩ v0):CellsIn C b o [v0]:=fun w hw j v hj=>by
  rcases j with _|j <;> simp at hj; subst hj; exact h0 w hw
theorem cells2 (h0:CellIn C ⟨b,o+0,none⟩ v0) (h1:CellIn C ⟨b,o+1,none⟩ v1):CellsIn C b o [v0,v1]:=fun w hw j v hj=>by
  rcases j with _|_|j <;> simp at hj <;> subst hj
  · exact h0 w hw
  · exact h1 w hw
theorem cells5 (h0:CellIn C ⟨b,o+0,none⟩ v0) (h1:CellIn C ⟨b,o+1,none⟩ v1) (h2:CellIn C ⟨b,o+2,none⟩ v2) (h3:CellIn C ⟨b,o+3,none⟩ v3) (h4:CellIn C ⟨b,o+4,none⟩ v4):CellsIn C b o [v0,v1,v2,v3,v4]:=fun w hw j v hj=>by
  rcases j with _|_|_|_|_|j <;> simp at hj <;> subst hj
  · exact h0 w hw
  · exact h1 w hw
  · exact h2 w hw
  · exact h3 w hw
  · exact h4 w hw
end
end
section
variable {P : Program} {w : World} {f : Nat → Value} {n xid id' : Nat} {Q : Exit → Act → World → Prop} {J : (Nat → Value) → World → Prop}
/-- What stands behind a loop's body: at the loop's own exit J is asked. -/
def hitJ (n xid:Nat) (J:(Nat→Value)→World→Prop) (Q:Exit→Act→World→Prop):Exit→Act→World→Prop
  |.exit id,a,w=>if id=xid then∃f,a=Fr n f∧J f w else Q (.exit id) a w
  |e,a,w=>Q e a w
theorem hit_r {a:Act} (h:Q .ret a w):hitJ n xid J Q .ret a w:=h
theorem hit_x {a:Act} (h :∃f,a=Fr n f∧J f w):hitJ n xid J Q (.exit xid) a w:=by simp only [hitJ,if_true]; exact h
theorem wp_loopX {cd:Code} (I:Nat→(Nat→Value)→World→Prop) (xid:Nat) (J:(Nat→Value)→World→Prop) (g0:Nat) (h0:I g0 f w) (hJ :∀f w,J f w→Q (.exit xid) (Fr n f) w)
    (round :∀g f w,I g f w→cd.wp P (Exit.then (fun a' w'=>∃g' f',g' < g∧a'=Fr n f'∧I g' f' w') (hitJ n xid J Q)) (Fr n f) w):(Code.loop cd).wp P Q (Fr n f) w:=by
  refine wp_loopF I g0 h0 fun g f w h=>Code.wp_mono ?_ (round g f w h)
  intro e a w hq
  cases e with
  |exit id=>
    have hq:hitJ n xid J Q (.exit id) a w:=hq
    show Q (.exit id) a w
    by_cases hid:id=xid
    · subst hid
      simp only [hitJ,if_true] at hq
      obtain ⟨f,rfl,hj⟩:=hq
      exact hJ f w hj
    · simp only [hitJ,hid,if_false] at hq
      exact hq
  |_=>exact hq
theorem retct {fn:Func} {R:Ending→World→Prop} {t t2:Tmp} {b o:Nat} {ty:TypeId} {cs:List Value} {v2:Value} (hr:fn.results = #[.cell t ty,.tmp t2]) (ht:(Nat.blt t n && Nat.blt t2 n)=true) (hv:f t=.pointer (some ⟨b,o,none⟩)) (hv2:f t2=v2) (hag:aggO P ty=some cs.length)
    (hc :∀j v,cs[j]? = some v→w.cell? ⟨b,o+j,none⟩=some v) (h:R (.returned (.tuple #[.agg cs.toArray,v2])) w):bodyPost P fn R .ret (Fr n f) w:=
  ⟨rfl,_,by
    simp only [Bool.and_eq_true] at ht
    have h1:t < n:=by simpa using ht.1
    have h2:t2 < n:=by simpa using ht.2
    have hl:=run_loadN (P:=P) (w:=w) hag hc
    simp only [Instr.loadAt,Instr.sureAddr,Sem.run_bind,Sem.run_pure,Result.andThen_ok,bind_pure_comp,pure_bind] at hl
    simp only [results,hr]
    simp [Fr,h1,h2,hv,hv2,asAddr,hl],h⟩
end
section
variable {P : Program} {C : World → Prop} {f : Nat → Value} {d : Option Tmp} {ty : TypeId} {pos : String} {af : Array Edge} {g : Option (Nat × Bool)} {x y : Operand} {t t' : TypeId} {us vs : Array Value} {b : Bool}
theorem Y.eqS (hx:ev f x=.agg us) (hy:ev f y=.agg vs) (he :∀w,(Op.equalIn 10000 t (.agg us) (.agg vs)).run P w=.ok b w) (hgd :∀w,(eqGuard .eql t x y (.agg us) (.agg vs)).run P w=.ok () w):Y P C f ⟨d,.binOp .eql t x y t',ty,pos,af,g⟩ (.bool b):=fun w _=>by
  simp only [execOp,hx,hy,Sem.run_bind,hgd w,Result.andThen_ok]
  simp [binOp,Op.equal,Op.maxDepth,he w]
theorem Y.neS (hx:ev f x=.agg us) (hy:ev f y=.agg vs) (he :∀w,(Op.equalIn 10000 t (.agg us) (.agg vs)).run P w=.ok b w) (hgd :∀w,(eqGuard .neq t x y (.agg us) (.agg vs)).run P w=.ok () w):Y P C f ⟨d,.binOp .neq t x y t',ty,pos,af,g⟩ (.bool (!b)):=fun w _=>by
  simp only [execOp,hx,hy,Sem.run_bind,hgd w,Result.andThen_ok]
  simp [binOp,Op.equal,Op.maxDepth,he w]
end
end
section
open Go.RowKit
def encI (x:Int):List Value:=[.int .i64 x]
def encS (x:ByteArray):List Value:=[.string x]
def encPort (x:DPort):List Value:=[.int .i64 x.agent,.int .i64 x.slot]
/-- How the elements of a type of plain cells are laid. -/
structure FlatT {α:Type} (R:Rd α) (O:Ow α) (enc:α→List Value) (sz:Nat):Prop where
  pos:0 < sz
  len :∀x,(enc x).length=sz
  rd :∀{w B cs x},R w B cs x↔cs=enc x
  ow :∀{w x},O w (enc x) x []
  one :∀x,∀v∈enc x,v.oneCell'=true
theorem fI:FlatT intRd intOw encI 1:=⟨by decide,fun _=>rfl,Iff.rfl,⟨rfl,rfl⟩,fun x v hv=>by simp [encI] at hv; subst hv; rfl⟩
theorem fS:FlatT strRd strOw encS 1:=⟨by decide,fun _=>rfl,Iff.rfl,⟨rfl,rfl⟩,fun x v hv=>by simp [encS] at hv; subst hv; rfl⟩
theorem fPort:FlatT portRd portOw encPort 2:=⟨by decide,fun _=>rfl,Iff.rfl,⟨rfl,rfl⟩,fun x v hv=>by simp [encPort] at hv; rcases hv with rfl|rfl <;> rfl⟩
section
variable {α : Type} {R : Rd α} {O : Ow α} {enc : α → List Value} {sz : Nat} {w w' : World} {lo lo' : Nat} {v : Value} {xs ys : List α} {e : TypeId}
theorem FlatT.flen (F:FlatT R O enc sz) :∀xs:List α,(xs.flatMap enc).length=xs.length * sz
  |[]=>by simp
  |x :: xs=>by simp [F.len,F.flen xs,Nat.add_mul]; omega
theorem FlatT.fone (F:FlatT R O enc sz) {xs:List α} :∀u∈xs.flatMap enc,u.oneCell'=true:=fun u hu=>by
  obtain ⟨x,_,hx⟩:=List.mem_flatMap.1 hu
  exact F.one x u hx
theorem FlatT.fget (F:FlatT R O enc sz) :∀{xs:List α} {i j:Nat} {x:α} {u:Value},xs[i]? = some x→(enc x)[j]? = some u→(xs.flatMap enc)[i * sz+j]? = some u
  |[],i,j,x,u,h,_=>by simp at h
  |y :: ys,0,j,x,u,h,hu=>by
    have:y=x:=by simpa using h
    subst this
    have hj:=lt_of_some hu
    simp only [Nat.zero_mul,Nat.zero_add,List.flatMap_cons]
    rw [List.getElem?_append_left hj]; exact hu
  |y :: ys,i+1,j,x,u,h,hu=>by
    have h':ys[i]? = some x:=by simpa using h
    have hl:(enc y).length=sz:=F.len y
    simp only [List.flatMap_cons]
    rw [List.getElem?_append_right (by rw [hl,Nat.add_mul]; omega),hl,show (i+1) * sz+j - sz=i * sz+j by rw [Nat.add_mul]; omega]
    exact F.fget h' hu
/-- A slice of the call's own from block lo on, whole (it may be appended to). -/
def OwF (e:TypeId) (enc:α→List Value) (sz:Nat) (w:World) (lo:Nat) (v:Value) (xs:List α):Prop:=w.ownsRow lo e sz v xs.length (xs.flatMap enc)
theorem OwF.below (h:OwF e enc sz w lo v xs) (hb:Below w.heap.size w w'):OwF e enc sz w' lo v xs:=by
  refine ⟨h.1,?_⟩
  rcases h.2 with h2|⟨g,cap,cur,hv,hg,hh,r⟩
  · exact .inl h2
  · exact .inr ⟨g,cap,cur,hv,hg,(hb.block g (Array.getElem?_eq_some_iff.1 hh).1).trans hh,r⟩
theorem OwF.mono (h:OwF e enc sz w lo v xs) (hl:lo'≤lo):OwF e enc sz w lo' v xs:=by
  refine ⟨h.1,?_⟩
  rcases h.2 with h2|⟨g,cap,cur,hv,hg,r⟩
  · exact .inl h2
  · exact .inr ⟨g,cap,cur,hv,by omega,r⟩
theorem OwF.nil:OwF e enc sz w lo (.slice none 0 0) ([] : List α):=⟨by simp,.inl ⟨rfl,rfl⟩⟩
theorem OwF.lit {g n:Nat} {cells:Array Value} (B:Blk w g e cells) (hg:lo≤g) (hc:cells.toList=xs.flatMap enc) (hn:n=xs.length) (hm:Nat.ble n 9223372036854775807=true) (hs:cells.size=n * sz):OwF e enc sz w lo (.slice (some ⟨g,0,none⟩) n n) xs:=by
  subst hn
  exact ⟨by rw [← hc]; simpa using hs,.inr ⟨g,xs.length,cells,rfl,hg,B,Nat.le_refl _,by have:=Nat.le_of_ble_eq_true hm; unfold maxLen; omega,hs,by rw [hc,List.take_of_length_le]; rw [← hc]; simp [hs]⟩⟩
theorem OwF.form (h:OwF e enc sz w lo v xs) :∃A c,v=.slice A xs.length c:=by
  rcases h.2 with ⟨rfl,h0⟩|⟨g,cap,cur,hv,_⟩
  · exact ⟨none,0,by rw [h0]⟩
  · exact ⟨_,_,hv⟩
theorem OwF.bound (h:OwF e enc sz w lo v xs):xs.length≤9223372036854775807:=by
  rcases h.2 with ⟨_,h0⟩|⟨g,cap,cur,hv,hg,hh,h1,h2,_⟩
  · omega
  · unfold maxLen at h2; omega
theorem OwF.own (F:FlatT R O enc sz) (h:OwF e enc sz w lo v xs):OwS O sz w v xs lo w.heap.size:=by
  rcases h.2 with ⟨rfl,h0⟩|⟨g,cap,cur,rfl,hg,hh,h1,h2,h3,h4⟩
  · have:xs=[]:=List.eq_nil_of_length_eq_zero h0
    subst this
    exact ⟨none,0,0,[],rfl,⟨rfl,.inl ⟨rfl,rfl⟩⟩,List.nodup_nil,fun b hb=>by simp at hb,Nat.le_refl _,Nat.zero_le _⟩
  · have hblk:Blk w g e cur:=hh
    refine ⟨some ⟨g,0,none⟩,_,cap,[g],rfl,⟨rfl,.inr ⟨g,0,[],rfl,rfl,?_⟩⟩,by simp,fun b hb=>by simp at hb; subst hb; exact ⟨hg,hblk.lt⟩,h1,h2⟩
    have key :∀(l:List α) (o:Nat),(∀j u,(l.flatMap enc)[j]? = some u→cur[o+j]? = some u)→ElAt O sz w g o l []:=by
      intro l
      induction l with
      |nil=>intro o _; rfl
      |cons x l ih=>
        intro o hl
        refine ⟨enc x,[],[],F.ow,hblk.csAt (fun j u hj=>hl j u ?_),rfl,ih (o+sz) (fun j u hj=>?_)⟩
        · simp only [List.flatMap_cons]
          rw [List.getElem?_append_left (lt_of_some hj)]; exact hj
        · have:=hl (sz+j) u (by
            simp only [List.flatMap_cons]
            rw [List.getElem?_append_right (by rw [F.len]; omega),F.len,show sz+j - sz=j by omega]; exact hj)
          rwa [show o+(sz+j)=o+sz+j by omega] at this
    refine key xs 0 (fun j u hj=>?_)
    rw [← h4,List.getElem?_take] at hj
    split at hj
    · simpa using hj
    · cases hj
theorem FlatT.gives (F:FlatT R O enc sz) (hO :∀{w cs x bs},O w cs x bs→cs=enc x) (B:Nat):Gives O R B:=fun w cs x bs h _=>F.rd.2 (hO h)
theorem OwF.rdS (F:FlatT R O enc sz) (h:OwF e enc sz w lo v xs):RdS R sz w w.heap.size v xs:=by
  rcases h.2 with ⟨rfl,h0⟩|⟨g,cap,cur,rfl,hg,hh,h1,h2,h3,h4⟩
  · have:xs=[]:=List.eq_nil_of_length_eq_zero h0
    subst this
    exact ⟨none,0,0,rfl,SlAt.none_,Nat.le_refl _,Nat.zero_le _⟩
  · have hblk:Blk w g e cur:=hh
    refine ⟨some ⟨g,0,none⟩,_,cap,rfl,⟨rfl,fun _=>⟨g,0,rfl,hblk.lt,fun i x hx=>⟨enc x,F.rd.2 rfl,fun j u hj=>?_⟩⟩⟩,h1,h2⟩
    have hk:=F.fget hx hj
    rw [← h4,List.getElem?_take] at hk
    split at hk
    · rw [hblk.cell,Nat.zero_add]; simpa using hk
    · cases hk
theorem OwF.arg (F:FlatT R O enc sz) (h:OwF e enc sz w lo v xs):Sl R sz w v xs:=h.rdS F
theorem OwF.lt (h:OwF e enc sz w lo v xs) :∀b,v.ownBlock=some b→lo≤b∧b < w.heap.size:=World.ownsRow.lt h
/-- Another slice of the call's own while row 'row' grows. -/
theorem OwF.kept {row:Option Nat} (h:OwF e enc sz w lo v xs) (hg:w.grownBy w' row) (hne:v.ownBlock=none ∨ v.ownBlock ≠ row):OwF e enc sz w' lo v xs:=World.ownsRow.kept h hg hne
theorem OwF.only {b:Nat} (h:OwF e enc sz w lo v xs) (ho:Only [b] w w') (hne:v.ownBlock ≠ some b):OwF e enc sz w' lo v xs:=by
  refine ⟨h.1,?_⟩
  rcases h.2 with h2|⟨g,cap,cur,hv,hg,hh,r⟩
  · exact .inl h2
  · exact .inr ⟨g,cap,cur,hv,hg,(ho.block g (by intro hin; simp at hin; subst hin; exact hne (by rw [hv]; rfl))).trans hh,r⟩
theorem OwF.far {b:Nat} (h:OwF e enc sz w lo v xs) (hb:w.heap.size≤b):v.ownBlock ≠ some b:=fun hv=>by have:=(h.lt b hv).2; omega
theorem SlAt.flat (F:FlatT R O enc sz) {B n b o:Nat} (h:SlAt R sz w B (some ⟨b,o,none⟩) n xs) :∀j u,(xs.flatMap enc)[j]? = some u→w.cell? ⟨b,o+j,none⟩=some u:=fun j u hj=>by
  have hp:=F.pos
  have hlt:=lt_of_some hj
  rw [F.flen] at hlt
  have hi:j / sz < xs.length:=(Nat.div_lt_iff_lt_mul hp).2 hlt
  have hx:xs[j / sz]? = some xs[j / sz]:=List.getElem?_eq_getElem hi
  obtain ⟨cs,hR,hc⟩:=h.el hx
  obtain rfl:=F.rd.1 hR
  have hm:j % sz < (enc xs[j / sz]).length:=by rw [F.len]; exact Nat.mod_lt _ hp
  have h2:=F.fget hx (List.getElem?_eq_getElem hm)
  have e:j / sz * sz+j % sz=j:=Nat.div_add_mod' j sz
  rw [e] at h2
  rw [h2] at hj
  injection hj with hj
  have h3:=hc (j % sz) _ (List.getElem?_eq_getElem hm)
  rw [Nat.add_assoc,e,hj] at h3
  exact h3
end
/-- What is asked of a slice type that is appended to. -/
structure AppT (P:Program) (t e:TypeId) (z:Value) (sz bb:Nat):Prop where
  und:P.underlying t=some (.slice e)
  info:(P.info? e).map (fun i=>(i.zero,i.size,i.bytes))=some (some z,sz,bb)
  zs:z.cells.size=sz
  bb:bb≤256
section
variable {P : Program} {t e : TypeId} {z : Value} {sz bb : Nat} {w : World} {base : Nat}
theorem append_own2 (A:AppT P t e z sz bb) (hsz:0 < sz) {v:Value} {k:Nat} {xs:List Value} (hown:w.ownsRow base e sz v k xs) (hb:base≤w.heap.size) (ad:Addr) (m c:Nat) (news:List Value) (hl:news.length=m * sz)
    (hnews :∀j u,news[j]? = some u→w.cell? (ad.add j)=some u) (h1 :∀u∈news,u.oneCell'=true) (hk:k+m≤4294967296) (ty:TypeId) :
    ∃v' w',(Builtin.append_ #[t,t] ty #[v,.slice (some ad) m c]).run P w=.ok v' w'∧w'.ownsRow base e sz v' (k+m) (xs ++ news)∧w.grownBy w' v.ownBlock∧(∀b,v'.ownBlock=some b→v.ownBlock=some b ∨ w.heap.size≤b):=by
  obtain ⟨i0,hi,hz0,hz1,hz2⟩:=info_parts A.info
  have hby:(k+m) * bb≤140737488355328:=Nat.le_trans (Nat.mul_le_mul hk A.bb) (by decide)
  have hsm:k+m≤9223372036854775807:=by omega
  obtain ⟨v',w',hr,h2,h3,_⟩:=run_append_own (P:=P) w base t ty e i0 z sz bb A.und hi hz0 hz1 hz2 A.zs hsz v k xs hown ad m c news hl hnews h1 (by unfold maxLen; omega) hby hb
  refine ⟨v',w',hr,h2,h3,?_⟩
  subst hz1
  subst hz2
  have hxl:=hown.1
  have hl':=hl
  rcases hown.2 with ⟨rfl,rfl⟩|⟨g,cap,cur,rfl,hbg,hg,hnc,hcm,hcs,htake⟩
  · by_cases hm:m=0
    · subst hm
      have hn:news=[]:=List.eq_nil_of_length_eq_zero (by simpa using hl)
      subst hn
      have hr2:(Builtin.append_ #[t,t] ty #[.slice none 0 0,.slice (some ad) 0 c]).run P w=.ok (.slice none 0 0) w:=by
        simp [Builtin.append_,run_underlying A.und,sizeOf,typeInfo,hi,Builtin.lenOf,Builtin.firstCells,loadCells,loadCellsFrom]
      rw [hr2] at hr
      injection hr with e1 e2
      subst e1
      intro b hbk; simp [Value.ownBlock] at hbk
    · have hr2:=run_append_nil (P:=P) w t ty e i0 z A.und hi hz0 ad m c news hl hnews (by omega) (by omega) (by have hb:=hby; simp only [Nat.zero_add] at hb; omega)
      rw [hr2] at hr
      injection hr with e1 e2
      subst e1
      intro b hbk
      simp [Value.ownBlock] at hbk
      exact .inr (by omega)
  · by_cases hroom:k+m≤cap
    · have hfit:k * i0.size+news.length≤cur.size:=by rw [hl,hcs,← Nat.add_mul]; exact Nat.mul_le_mul_right _ hroom
      have hr2:=run_append_room (P:=P) w t ty e i0 A.und hi g k cap cur hg ad m c news hl hnews h1 hroom hfit
      rw [hr2] at hr
      injection hr with e1 e2
      subst e1
      intro b hbk
      exact .inl hbk
    · have holds :∀j u,xs[j]? = some u→w.cell? ((⟨g,0,none⟩:Addr).add j)=some u:=hown.cells (g:=g) rfl
      have hr2:=run_append_grow (P:=P) w t ty e i0 z A.und hi hz0 ⟨g,0,none⟩ k cap xs hown.1 holds ad m c news hl hnews (by omega) (by omega) (growslice_fits (by omega) hby)
      rw [hr2] at hr
      injection hr with e1 e2
      subst e1
      intro b hbk
      simp [Value.ownBlock] at hbk
      exact .inr (by omega)
theorem append_none (A:AppT P t e z sz bb) {v:Value} {k c:Nat} {xs:List Value} (hown:w.ownsRow base e sz v k xs) (ty:TypeId):(Builtin.append_ #[t,t] ty #[v,.slice none 0 c]).run P w=.ok v w:=by
  obtain ⟨i0,hi,hz0,hz1,hz2⟩:=info_parts A.info
  rcases hown.2 with ⟨rfl,rfl⟩|⟨g,cap,cur,rfl,_,_,hnc,_⟩
  · simp [Builtin.append_,run_underlying A.und,sizeOf,typeInfo,hi,Builtin.lenOf,Builtin.firstCells]
  · simp [Builtin.append_,run_underlying A.und,sizeOf,typeInfo,hi,Builtin.lenOf,Builtin.firstCells,hnc,storeCells]
end
section
variable {P : Program} {ops : Array Oper} {f : Nat → Value} {rest : List Oper} {Q : (Nat → Value) → World → Prop} {w : World} {d : Option Tmp} {ty : TypeId} {pos : String} {af : Array Edge} {g : Option (Nat × Bool)} {x y : Operand} {t e : TypeId} {z : Value} {sz bb : Nat}
theorem RL.append {α:Type} {R:Rd α} {O:Ow α} {enc:α→List Value} {v vy:Value} {xs ys:List α} {lo:Nat} (F:FlatT R O enc sz) (A:AppT P t e z sz bb) (hg:wantF f ops ⟨d,.call ⟨.builtin .append,#[x,y],#[t,t]⟩,ty,pos,af,g⟩=true)
    (hx:ev f x=v) (hy:ev f y=vy) (hv:OwF e enc sz w lo v xs) (hr:Sl R sz w vy ys) (hlo:lo≤w.heap.size) (hk:xs.length+ys.length≤4294967296)
    (h :∀v' w1,OwF e enc sz w1 lo v' (xs ++ ys)→w.grownBy w1 v.ownBlock→Below lo w w1→(∀b,v'.ownBlock=some b→v.ownBlock=some b ∨ w.heap.size≤b)→RL P ops Q rest (upo f d v') w1):RL P ops Q (⟨d,.call ⟨.builtin .append,#[x,y],#[t,t]⟩,ty,pos,af,g⟩ :: rest) f w:=by
  have hrun :∀v' w1,(Builtin.append_ #[t,t] ty #[v,vy]).run P w=.ok v' w1→(execOp (ev f) ⟨d,.call ⟨.builtin .append,#[x,y],#[t,t]⟩,ty,pos,af,g⟩).run P w=.ok (.value v') w1:=fun v' w1 h0=>by
    simp [execOp,resolve,invoke,builtin,hx,hy,h0]
  obtain ⟨Ay,n,c,rfl,hs,hnc,hcm⟩:=hr
  obtain rfl:=hs.len
  cases Ay with
  |none=>
    have h0:ys=[]:=by
      cases ys with
      |nil=>rfl
      |cons y0 ys=>obtain ⟨b,o,e0,_⟩:=hs.addr (by simp); cases e0
    subst h0
    refine .inl ⟨hg,?_⟩
    rw [hrun v w (append_none A hv ty)]
    exact h v w (by simpa using hv) ⟨rfl,rfl,rfl,Nat.le_refl _,fun _ _ _=>rfl⟩ (Below.refl _ _) (fun b hb=>.inl hb)
  |some ad=>
    have hcells :∀j u,(ys.flatMap enc)[j]? = some u→w.cell? (ad.add j)=some u:=fun j u hj=>by
      have hlt:=lt_of_some hj
      rw [F.flen] at hlt
      have hpos:0 < ys.length:=by
        rcases Nat.eq_zero_or_pos ys.length with h0|h0
        · rw [h0] at hlt; simp at hlt
        · exact h0
      obtain ⟨b,o,e0,_⟩:=hs.addr hpos
      injection e0 with e0
      subst e0
      rw [Addr.add_eq]
      exact hs.flat F j u hj
    obtain ⟨v',w1,h0,h1,h2,h3⟩:=append_own2 A F.pos hv hlo ad ys.length c (ys.flatMap enc) (F.flen ys) hcells F.fone hk ty
    refine .inl ⟨hg,?_⟩
    rw [hrun v' w1 h0]
    refine h v' w1 ?_ h2 ?_ h3
    · unfold OwF
      rw [List.length_append,List.flatMap_append]
      exact h1
    · exact (Below.refl lo w).grown h2 hlo (fun b hb=>(hv.lt b hb).1)
end
section
variable {α : Type} {R : Rd α} {O : Ow α} {enc : α → List Value} {sz n c lo : Nat} {w w' : World} {v v' vx vy : Value} {xs ys : List α} {e : TypeId} {A : Option Addr}
theorem OwF.sl (F:FlatT R O enc sz) (h:OwF e enc sz w lo (.slice A n c) xs):SlAt R sz w w.heap.size A n xs∧n≤c∧c≤maxLen:=by
  obtain ⟨A',n',c',he,h1,h2⟩:=h.rdS F
  injection he with e1 e2 e3
  subst e1 e2 e3
  exact ⟨h1,h2⟩
theorem OwF.cell {b k j:Nat} {x:α} {u:Value} (F:FlatT R O enc sz) (h:OwF e enc sz w lo (.slice (some ⟨b,0,none⟩) n c) xs) (hx:xs[k]? = some x) (hu:(enc x)[j]? = some u):w.cell? ⟨b,0+k * sz+j,none⟩=some u:=by
  obtain ⟨cs,hR,hc⟩:=(h.sl F).1.el hx
  obtain rfl:=F.rd.1 hR
  exact hc j u hu
theorem OwF.addr0 (h:OwF e enc sz w lo (.slice A n c) xs) (hn:0 < n) :∃b,A=some ⟨b,0,none⟩:=by
  rcases h.2 with ⟨h0,_⟩|⟨g,cap,cur,hv,_⟩
  · injection h0 with h1 h2; omega
  · injection hv with h1; exact ⟨g,h1⟩
theorem OwF.ne {b:Nat} (h:OwF e enc sz w lo v xs) (hb:b < lo):v.ownBlock ≠ some b:=fun hv=>by have:=(h.lt b hv).1; omega
theorem ne_app {b m:Nat} (hn :∀b,v'.ownBlock=some b→v.ownBlock=some b ∨ m≤b) (h:v.ownBlock ≠ some b) (hb:b < m):v'.ownBlock ≠ some b:=fun hv=>by
  rcases hn b hv with h1|h1
  · exact h h1
  · omega
/-- Two slices of the call's own lie apart. -/
def Dj (v u:Value):Prop:=∀b,v.ownBlock=some b→u.ownBlock=some b→False
theorem Dj.symm (h:Dj vx vy):Dj vy vx:=fun b h1 h2=>h b h2 h1
theorem Dj.app {m:Nat} (h:Dj v vx) (hn :∀b,v'.ownBlock=some b→v.ownBlock=some b ∨ m≤b) (hx :∀b,vx.ownBlock=some b→b < m):Dj v' vx:=fun b h1 h2=>by
  rcases hn b h1 with h3|h3
  · exact h b h3 h2
  · have:=hx b h2; omega
theorem Dj.new {m:Nat} (hv :∀b,v.ownBlock=some b→m≤b) (hx :∀b,vx.ownBlock=some b→b < m):Dj v vx:=fun b h1 h2=>by have:=hv b h1; have:=hx b h2; omega
theorem Dj.nil:Dj (.slice none 0 0) vx:=fun b h1 _=>by simp [Value.ownBlock] at h1
theorem OwF.keptD (h:OwF e enc sz w lo v xs) (hg:w.grownBy w' vx.ownBlock) (hd:Dj v vx):OwF e enc sz w' lo v xs:=h.kept hg (by
  cases hv:v.ownBlock with
  |none=>exact .inl rfl
  |some b=>exact .inr (fun e=>hd b hv e.symm))
theorem Blk.kept {b:Nat} {t:TypeId} {cs:Array Value} (h:Blk w b t cs) (hg:w.grownBy w' v.ownBlock) (hn:v.ownBlock ≠ some b):Blk w' b t cs:=(hg.block b h.lt (fun e=>hn e.symm)).trans h
theorem litNe {b g n c:Nat} (h:b < g):(Value.slice (some ⟨g,0,none⟩) n c).ownBlock ≠ some b:=by intro e; simp [Value.ownBlock] at e; omega
theorem litGe {g n c:Nat} :∀b,(Value.slice (some ⟨g,0,none⟩) n c).ownBlock=some b→g≤b:=by intro b e; simp [Value.ownBlock] at e; omega
theorem nilNe {b:Nat} : (Value.slice none 0 0).ownBlock ≠ some b:=by simp [Value.ownBlock]
theorem OwF.hi (h:OwF e enc sz w lo v xs) :∀b,v.ownBlock=some b→b < w.heap.size:=fun b hb=>(h.lt b hb).2
theorem OwF.lo_ (h:OwF e enc sz w lo v xs) :∀b,v.ownBlock=some b→lo≤b:=fun b hb=>(h.lt b hb).1
end
end
section
open Go.RowKit
set_option maxHeartbeats 2000000 in
set_option maxRecDepth 100000 in
theorem bld_check0 (b:Nat) (w:World) (c0:w.cell? ⟨b,0,none⟩=some (.pointer none)) (hsh:w.shape? b=some (98,2)) (hfr:w.frozen? ⟨b,0,none⟩=false) :
    Calls Tryz.prog 103 #[.pointer (some ⟨b,0,none⟩)] w fun e w'=>e=.returned (.tuple #[])∧w'=w.setCell ⟨b,0,none⟩ (.pointer (some ⟨b,0,none⟩)):=by
  obtain ⟨j,hj,hjs⟩:=Option.map_eq_some_iff.1 (by kernel_rfl:(Tryz.prog.info? 98).map (·.size)=some 2)
  go_enter Tryz.func103,Tryz.ntmps103
  go_wp2
  rw [Lib.run_to_unsafe w ⟨b,0,none⟩ Tryz.underlying96 Tryz.underlying133 hj (by rw [hjs]; decide) hsh (Nat.zero_lt_succ 1)]
  simp only [Result.andThen]
  rw [Oper.upon_value]
  go_wp2
  rw [run_callFunc_extern (f:=118) (by kernel_rfl:Tryz.prog.funcs[118]? = some Tryz.f118) (by kernel_rfl) (by kernel_rfl) (by kernel_rfl) (e:=Extern.AbiNoEscape.same) (by kernel_rfl)]
  rw [Lib.run_noEscape]
  simp only [Result.andThen]
  rw [Oper.upon_value]
  go_wp2
  rw [Lib.run_from_unsafe w ⟨b,0,none⟩ Tryz.underlying133 Tryz.underlying96 hj hsh (by kernel_rfl)]
  simp only [Result.andThen]
  rw [Oper.upon_value]
  go_wp2
  go_end0
  exact ⟨rfl,rfl⟩
set_option maxHeartbeats 2000000 in
set_option maxRecDepth 100000 in
theorem bld_check1 (b:Nat) (w:World) (c0:w.cell? ⟨b,0,none⟩=some (.pointer (some ⟨b,0,none⟩))) :
    Calls Tryz.prog 103 #[.pointer (some ⟨b,0,none⟩)] w fun e w'=>e=.returned (.tuple #[])∧w'=w:=by
  obtain ⟨j,hj,hjs⟩:=Option.map_eq_some_iff.1 (by kernel_rfl:(Tryz.prog.info? 98).map (·.size)=some 2)
  go_enter Tryz.func103,Tryz.ntmps103
  go_wp2
  rw [Lib.run_neq_ptr_same w _ Tryz.underlying96 hj]
  go_wp2
  go_end0
  exact ⟨rfl,rfl⟩
theorem bld_check (b:Nat) (p v:Value) (w:World) (hbk:w.heap[b]? = some (.cells #[p,v] 98 (0,0))) (hp:p=.pointer none ∨ p=.pointer (some ⟨b,0,none⟩)) :
    Calls Tryz.prog 103 #[.pointer (some ⟨b,0,none⟩)] w fun e w'=>e=.returned (.tuple #[])∧w'.heap[b]? = some (.cells #[.pointer (some ⟨b,0,none⟩),v] 98 (0,0))∧w.grownBy w' (some b)∧Below b w w':=by
  rcases hp with rfl|rfl
  · refine (bld_check0 b w (by rw [Lib.cell_of_heap hbk]; rfl) (by simp [World.shape?,hbk]) (Lib.frozen_of_heap hbk 0)).mono ?_
    rintro e w' ⟨rfl,rfl⟩
    refine ⟨rfl,by simp [World.setCell,Array.getElem?_modify,hbk],⟨rfl,rfl,rfl,by simp [World.setCell],fun k _ hk=>Below.heap_setCell _ _ _ _ (fun e=>hk (by simp [e]))⟩,(Below.refl b w).setCell (p:=⟨b,0,none⟩) (Nat.le_refl _) _⟩
  · refine (bld_check1 b w (by rw [Lib.cell_of_heap hbk]; rfl)).mono ?_
    rintro e w' ⟨rfl,rfl⟩
    exact ⟨rfl,hbk,⟨rfl,rfl,rfl,Nat.le_refl _,fun _ _ _=>rfl⟩,Below.refl b _⟩
/-- A builder in a block of its own, which holds a string. -/
def OwB (w:World) (b:Nat) (s:ByteArray):Prop:=∃p v,w.heap[b]? = some (.cells #[p,v] 98 (0,0))∧(p=.pointer none ∨ p=.pointer (some ⟨b,0,none⟩))∧w.ownsRow b 5 1 v s.size (Lib.strCells s)
/-- Its bytes lie in another block than block k. -/
def BufNe (w:World) (b k:Nat):Prop:=∀p v,w.heap[b]? = some (.cells #[p,v] 98 (0,0))→v.ownBlock ≠ some k
/-- What a builder's text is behind a writing. -/
def wrS (a b:ByteArray):Option ByteArray:=if a.size+b.size≤140737488355328 then some (a ++ b) else none
section
variable {w w' : World} {b k : Nat} {s t r : ByteArray}
theorem OwB.lt (h:OwB w b s):b < w.heap.size:=by
  obtain ⟨p,v,hb,_⟩:=h
  exact (Array.getElem?_eq_some_iff.1 hb).1
theorem OwB.ne (h:OwB w b s):BufNe w b b:=fun p v hb=>by
  obtain ⟨p',v',hb',_,hown⟩:=h
  rw [hb'] at hb
  simp only [Option.some.injEq,Obj.cells.injEq,Array.mk.injEq,List.cons.injEq,and_true] at hb
  obtain ⟨rfl,rfl⟩:=hb
  exact Lib.ownBlock_ne hown hb' (by decide)
theorem OwB.far (h:OwB w b s) (hk:w.heap.size≤k):BufNe w b k:=fun p v hb=>by
  obtain ⟨p',v',hb',_,hown⟩:=h
  rw [hb'] at hb
  simp only [Option.some.injEq,Obj.cells.injEq,Array.mk.injEq,List.cons.injEq,and_true] at hb
  obtain ⟨rfl,rfl⟩:=hb
  intro e
  have:=(hown.lt k e).2
  omega
theorem BufNe.below (h:BufNe w b k) (hb:Below w.heap.size w w') (hl:b < w.heap.size):BufNe w' b k:=fun p v hv=>h p v (by rw [← hb.block b hl]; exact hv)
theorem BufNe.only {bs:List Nat} (h:BufNe w b k) (ho:Only bs w w') (hn:b ∉ bs):BufNe w' b k:=fun p v hv=>h p v (by rw [← ho.block b hn]; exact hv)
theorem OwB.below (h:OwB w b s) (hb:Below w.heap.size w w'):OwB w' b s:=by
  have hl:=h.lt
  obtain ⟨p,v,h1,h2,h3⟩:=h
  refine ⟨p,v,(hb.block b hl).trans h1,h2,h3.1,?_⟩
  rcases h3.2 with h4|⟨g,cap,cur,hv,hg,hh,r⟩
  · exact .inl h4
  · exact .inr ⟨g,cap,cur,hv,hg,(hb.block g (Array.getElem?_eq_some_iff.1 hh).1).trans hh,r⟩
theorem OwB.only (h:OwB w b s) (ho:Only [k] w w') (hn:b ∉ [k]) (hk:BufNe w b k):OwB w' b s:=by
  obtain ⟨p,v,h1,h2,h3⟩:=h
  refine ⟨p,v,(ho.block b hn).trans h1,h2,h3.1,?_⟩
  rcases h3.2 with h4|⟨g,cap,cur,hv,hg,hh,r⟩
  · exact .inl h4
  · refine .inr ⟨g,cap,cur,hv,hg,(ho.block g (fun e=>?_)).trans hh,r⟩
    have:=hk p v h1
    rw [hv] at this
    simp [Value.ownBlock] at this e
    try exact this e
theorem OwB.isB (h:OwB w b s):Lib.IsBuilder 98 5 b b (Lib.strCells s) w:=by
  have hn:=h.ne
  obtain ⟨p,v,h1,h2,h3⟩:=h
  have hl:(Lib.strCells s).length=s.size:=Lib.strCells_length s
  rcases h2 with rfl|rfl
  · exact .inl ⟨Nat.le_refl _,v,h1,by rw [hl]; exact h3,hn _ _ h1⟩
  · exact .inr ⟨Nat.le_refl _,v,h1,by rw [hl]; exact h3,hn _ _ h1⟩
end
theorem strCells_cat (a b:ByteArray):Lib.strCells (a ++ b)=Lib.strCells a ++ Lib.strCells b:=by
  unfold Lib.strCells
  rw [← List.map_append]
  congr 1
  try simp
set_option maxHeartbeats 2000000 in
set_option maxRecDepth 100000 in
theorem c_bldWrite {b:Nat} {s t r:ByteArray} {w:World} (h:OwB w b s) (he:wrS s t=some r) :
    Calls Tryz.prog 68 #[.pointer (some ⟨b,0,none⟩),.string t] w fun e w'=>e=.returned (.tuple #[.int .i64 t.size,.nilIface])∧OwB w' b r∧Below b w w'∧(∀k,k < w.heap.size→k ≠ b→BufNe w b k→w'.heap[k]? = w.heap[k]?):=by
  have hlen:s.size+t.size≤140737488355328∧s ++ t=r:=by
    unfold wrS at he
    split at he
    · rename_i h1
      injection he with he
      exact ⟨h1,he⟩
    · cases he
  obtain ⟨hlen,rfl⟩:=hlen
  clear he
  have hlt0:=h.lt
  have hself:=h.ne
  obtain ⟨p,v,hbk0,hp,hown0⟩:=h
  have hne:=hself p v hbk0
  obtain ⟨i0,hi,hz0,hz1,hz2⟩:=info_parts (by kernel_rfl:(Tryz.prog.info? 5).map (fun i=>(i.zero,i.size,i.bytes))=some (some (.int .u8 0),1,1))
  go_enter Tryz.func68,Tryz.ntmps68
  go_wp2_with (go_at_call 103; refine (bld_check b p v _ hbk0 hp).mono ?_)
  rintro e w1 ⟨rfl,hbk,hg1,hb1⟩
  have hown:w1.ownsRow b 5 1 v s.size (Lib.strCells s):=World.ownsRow.kept hown0 hg1 (.inr hne)
  have c0:w1.cell? ⟨b,0,none⟩=some (.pointer (some ⟨b,0,none⟩)):=by rw [Lib.cell_of_heap hbk]; rfl
  have c1:w1.cell? ⟨b,1,none⟩=some v:=by rw [Lib.cell_of_heap hbk]; rfl
  go_wp2_with (at_builtin; refine Lib.wpList_append_own_string _ rfl _ _ 63 9 rfl b 5 i0 Tryz.underlying63 Tryz.underlying9 hi hz0 hz1 hz2 _ _ _ rfl hown t rfl ?c3 ?c4 ?c5 ?_)
  case c3=>unfold maxLen; omega
  case c4=>omega
  case c5=>have:=hb1.size; omega
  intro v' w2 hown' hgrow _
  have hlt:b < w1.heap.size:=by
    rcases Nat.lt_or_ge b w1.heap.size with h'|h'
    · exact h'
    · simp [Array.getElem?_eq_none h'] at hbk
  have hb2:w2.heap[b]? = some (.cells #[.pointer (some ⟨b,0,none⟩),v] 98 (0,0)):=by
    rw [hgrow.block b hlt (fun e=>hne e.symm)]
    exact hbk
  have d0:w2.cell? ⟨b,0,none⟩=some (.pointer (some ⟨b,0,none⟩)):=by rw [Lib.cell_of_heap hb2]; rfl
  have d1:w2.cell? ⟨b,1,none⟩=some v:=by rw [Lib.cell_of_heap hb2]; rfl
  have f1:w2.frozen? ⟨b,1,none⟩=false:=Lib.frozen_of_heap hb2 1
  obtain ⟨ao,n',cap,rfl⟩ :∃ao n' cap,v'=.slice ao n' cap:=by
    rcases hown'.2 with ⟨hv,_⟩|⟨g,cap,cur,hv,_⟩
    · exact ⟨_,_,_,hv⟩
    · exact ⟨_,_,_,hv⟩
  go_wp2
  go_ret2
  have hl:(Lib.strCells (s ++ t)).length=(s ++ t).size:=Lib.strCells_length _
  have hst:(s ++ t).size=s.size+t.size:=by simp
  obtain ⟨_,v3,h31,h32,_⟩:=Lib.BuilderAt.put (T:=98) (e:=5) (Nat.le_refl b) hb2 (bs':=Lib.strCells (s ++ t)) (by rw [hl,hst,strCells_cat]; exact hown') (by decide)
  refine ⟨rfl,⟨_,v3,h31,.inr rfl,by rw [hl] at h32; exact h32⟩,?_,fun k hk hkb hkn=>?_⟩
  · exact (hb1.grown hgrow (by have:=hb1.size; omega) (fun k hk=>(hown.lt k hk).1)).setCell (p:=⟨b,1,none⟩) (Nat.le_refl _) _
  · have e1:=hg1.block k hk (fun e=>hkb (by simpa using e))
    have e2:=hgrow.block k (by have:=hb1.size; omega) (fun e=>hkn p v hbk0 e.symm)
    rw [Below.heap_setCell _ _ _ _ (fun e=>hkb (by simpa using e)),e2,e1]
end
section
open Go.RowKit Go.Shelf
def lays169_ren:Go.Shelf.Ren:=⟨fun|169=>75|n=>n,fun|70=>96|9=>9|0=>0|72=>98|37=>63|127=>124|3=>3|5=>5|n=>n,fun|n=>n⟩
theorem lays169:Go.Proofs.Lays.n169 Tryz.prog lays169_ren:={
  mixed:=by kernel_rfl
  f169:=Tryz.func75.trans (congrArg some (by kernel_rfl))
  t0:=Tryz.underlying0
  a0:=Tryz.isAgg0
  z0:=Tryz.sizeOf0
  v0:=Tryz.zeroValue0
  t3:=Tryz.underlying3
  a3:=Tryz.isAgg3
  z3:=Tryz.sizeOf3
  v3:=Tryz.zeroValue3
  t9:=Tryz.underlying9
  a9:=Tryz.isAgg9
  z9:=Tryz.sizeOf9
  v9:=Tryz.zeroValue9
  t37:=Tryz.underlying63
  a37:=Tryz.isAgg63
  z37:=Tryz.sizeOf63
  v37:=Tryz.zeroValue63
  t70:=Tryz.underlying96
  a70:=Tryz.isAgg96
  z70:=Tryz.sizeOf96
  v70:=Tryz.zeroValue96
  t72:=Tryz.underlying98
  a72:=Tryz.isAgg98
  z72:=Tryz.sizeOf98
  v72:=Tryz.zeroValue98
  t127:=Tryz.underlying124
  a127:=Tryz.isAgg124
  z127:=Tryz.sizeOf124
  v127:=Tryz.zeroValue124 }
theorem bldX_169:Builder.Extra Tryz.prog lays169_ren:={
  sizeBuilder:=by kernel_rfl
  liesBuilder:=by kernel_rfl
  t5:=Tryz.underlying5
  a5:=Tryz.isAgg5
  z5:=Tryz.sizeOf5
  v5:=Tryz.zeroValue5
  infoByte:=by kernel_rfl
  cellsByte:=by kernel_rfl
  sizeByte:=by kernel_rfl
  neB5:=by decide }
open Go.RowKit in
/-- (*strings.Builder).String: "String returns the accumulated string.": WHATEVER THE BUILDER HOLDS. (LAID: no walk: one application.) -/
theorem lib_String (B b:Nat) (l:List UInt8) (w:World) (h:Lib.IsBuilder 98 5 B b (Lib.byteCells l) w) (hBw:B≤w.heap.size) :
    Calls Tryz.prog 75 #[.pointer (some ⟨b,0,none⟩)] w fun e w'=>e=.returned (.string ⟨l.toArray⟩)∧Below B w w':=Any.Builder_String_any lays169 bldX_169 B b l w h hBw
def lays156_ren:Go.Shelf.Ren:=⟨fun|156=>39|165=>76|166=>68|169=>75|240=>103|241=>107|276=>118|277=>120|n=>n,fun|31=>44|9=>9|3=>3|4=>4|0=>0|20=>20|72=>98|76=>101|70=>96|37=>63|75=>100|127=>124|164=>133|5=>5|80=>104|n=>n,fun|n=>n⟩
theorem lays156:Go.Proofs.Lays.n156 Tryz.prog lays156_ren:={
  mixed:=by kernel_rfl
  f156:=Tryz.func39.trans (congrArg some (by kernel_rfl))
  f165:=Tryz.func76.trans (congrArg some (by kernel_rfl))
  f166:=Tryz.func68.trans (congrArg some (by kernel_rfl))
  f169:=Tryz.func75.trans (congrArg some (by kernel_rfl))
  f240:=Tryz.func103.trans (congrArg some (by kernel_rfl))
  f241:=Tryz.func107.trans (congrArg some (by kernel_rfl))
  f276:=Tryz.func118.trans (congrArg some (by kernel_rfl))
  f277:=Tryz.func120.trans (congrArg some (by kernel_rfl))
  t0:=Tryz.underlying0
  a0:=Tryz.isAgg0
  z0:=Tryz.sizeOf0
  v0:=Tryz.zeroValue0
  t3:=Tryz.underlying3
  a3:=Tryz.isAgg3
  z3:=Tryz.sizeOf3
  v3:=Tryz.zeroValue3
  t4:=Tryz.underlying4
  a4:=Tryz.isAgg4
  z4:=Tryz.sizeOf4
  v4:=Tryz.zeroValue4
  t9:=Tryz.underlying9
  a9:=Tryz.isAgg9
  z9:=Tryz.sizeOf9
  v9:=Tryz.zeroValue9
  t20:=Tryz.underlying20
  a20:=Tryz.isAgg20
  z20:=Tryz.sizeOf20
  v20:=Tryz.zeroValue20
  t31:=Tryz.underlying44
  a31:=Tryz.isAgg44
  z31:=Tryz.sizeOf44
  v31:=Tryz.zeroValue44
  t37:=Tryz.underlying63
  a37:=Tryz.isAgg63
  z37:=Tryz.sizeOf63
  v37:=Tryz.zeroValue63
  t70:=Tryz.underlying96
  a70:=Tryz.isAgg96
  z70:=Tryz.sizeOf96
  v70:=Tryz.zeroValue96
  t72:=Tryz.underlying98
  a72:=Tryz.isAgg98
  z72:=Tryz.sizeOf98
  v72:=Tryz.zeroValue98
  t75:=Tryz.underlying100
  a75:=Tryz.isAgg100
  z75:=Tryz.sizeOf100
  v75:=Tryz.zeroValue100
  t76:=Tryz.underlying101
  a76:=Tryz.isAgg101
  z76:=Tryz.sizeOf101
  v76:=Tryz.zeroValue101
  t127:=Tryz.underlying124
  a127:=Tryz.isAgg124
  z127:=Tryz.sizeOf124
  v127:=Tryz.zeroValue124
  t164:=Tryz.underlying133
  a164:=Tryz.isAgg133
  z164:=Tryz.sizeOf133
  v164:=Tryz.zeroValue133 }
theorem bldX_156:Builder.Extra Tryz.prog lays156_ren:={
  sizeBuilder:=by kernel_rfl
  liesBuilder:=by kernel_rfl
  t5:=Tryz.underlying5
  a5:=Tryz.isAgg5
  z5:=Tryz.sizeOf5
  v5:=Tryz.zeroValue5
  infoByte:=by kernel_rfl
  cellsByte:=by kernel_rfl
  sizeByte:=by kernel_rfl
  neB5:=by decide }
open Go.RowKit in
/-- No element: the empty string; the world is as it was. (Whatever the slice's address and capacity: a nil slice too.) (LAID: no walk: one application.) -/
theorem lib_Join_none (a:Option Addr) (c:Nat) (sep:ByteArray) (w:World) :
    Calls Tryz.prog 39 #[.slice a 0 c,.string sep] w fun e w'=>e=.returned (.string ⟨#[]⟩)∧w'=w:=Any.strings_Join_none lays156 bldX_156 a c sep w
open Go.RowKit in
/-- strings.Join: "Join concatenates the elements of its first argument to create a single string. The separator string sep is placed between elements in the resulting string.": HOWEVER MANY ELEMENTS. Below the heap's end the world is as it was. (LAID: no walk: one application.) -/
theorem lib_Join (bk o c:Nat) (xs:List ByteArray) (sep:ByteArray) (w:World) (hcells :∀(j:Nat) x,xs[j]? = some x→w.cell? ⟨bk,o+j,none⟩=some (.string x)) (hbk:bk < w.heap.size) (hN:xs.length≤140737488355328) (hcap:xs.length≤c) (hlen:(Lib.join (xs.map (·.data.toList)) sep.data.toList).length≤140737488355328) :
    Calls Tryz.prog 39 #[.slice (some ⟨bk,o,none⟩) xs.length c,.string sep] w fun e w'=>e=.returned (.string ⟨(Lib.join (xs.map (·.data.toList)) sep.data.toList).toArray⟩)∧Below w.heap.size w w':=Any.strings_Join lays156 bldX_156 bk o c xs sep w hcells hbk hN hcap hlen
def laysM173_ren:Go.Shelf.Ren:=⟨fun|173=>105|246=>119|283=>131|284=>132|285=>133|286=>134|129=>143|317=>142|318=>144|319=>145|320=>146|337=>148|338=>149|n=>n,fun|2=>2|3=>3|9=>9|4=>4|171=>146|0=>0|53=>139|37=>63|5=>5|173=>149|212=>164|51=>155|20=>20|213=>165|46=>137|232=>172|233=>173|n=>n,fun|17=>6|18=>7|19=>8|n=>n⟩
theorem laysM173:Go.Proofs.LaysM.n173 Tryz.prog laysM173_ren:={
  mixed:=by kernel_rfl
  f129:=Tryz.func143.trans (congrArg some (by kernel_rfl))
  f173:=Tryz.func105.trans (congrArg some (by kernel_rfl))
  f246:=Tryz.func119.trans (congrArg some (by kernel_rfl))
  f283:=Tryz.func131.trans (congrArg some (by kernel_rfl))
  f284:=Tryz.func132.trans (congrArg some (by kernel_rfl))
  f285:=Tryz.func133.trans (congrArg some (by kernel_rfl))
  f286:=Tryz.func134.trans (congrArg some (by kernel_rfl))
  f317:=Tryz.func142.trans (congrArg some (by kernel_rfl))
  f318:=Tryz.func144.trans (congrArg some (by kernel_rfl))
  f319:=Tryz.func145.trans (congrArg some (by kernel_rfl))
  f320:=Tryz.func146.trans (congrArg some (by kernel_rfl))
  f337:=Tryz.func148.trans (congrArg some (by kernel_rfl))
  f338:=Tryz.func149.trans (congrArg some (by kernel_rfl))
  t0:=Tryz.underlying0
  a0:=Tryz.isAgg0
  z0:=Tryz.sizeOf0
  v0:=Tryz.zeroValue0
  t2:=Tryz.underlying2
  a2:=Tryz.isAgg2
  z2:=Tryz.sizeOf2
  v2:=Tryz.zeroValue2
  t3:=Tryz.underlying3
  a3:=Tryz.isAgg3
  z3:=Tryz.sizeOf3
  v3:=Tryz.zeroValue3
  t4:=Tryz.underlying4
  a4:=Tryz.isAgg4
  z4:=Tryz.sizeOf4
  v4:=Tryz.zeroValue4
  t5:=Tryz.underlying5
  a5:=Tryz.isAgg5
  z5:=Tryz.sizeOf5
  v5:=Tryz.zeroValue5
  t9:=Tryz.underlying9
  a9:=Tryz.isAgg9
  z9:=Tryz.sizeOf9
  v9:=Tryz.zeroValue9
  t20:=Tryz.underlying20
  a20:=Tryz.isAgg20
  z20:=Tryz.sizeOf20
  v20:=Tryz.zeroValue20
  t37:=Tryz.underlying63
  a37:=Tryz.isAgg63
  z37:=Tryz.sizeOf63
  v37:=Tryz.zeroValue63
  t46:=Tryz.underlying137
  a46:=Tryz.isAgg137
  z46:=Tryz.sizeOf137
  v46:=Tryz.zeroValue137
  t51:=Tryz.underlying155
  a51:=Tryz.isAgg155
  z51:=Tryz.sizeOf155
  v51:=Tryz.zeroValue155
  t53:=Tryz.underlying139
  a53:=Tryz.isAgg139
  z53:=Tryz.sizeOf139
  v53:=Tryz.zeroValue139
  t171:=Tryz.underlying146
  a171:=Tryz.isAgg146
  z171:=Tryz.sizeOf146
  v171:=Tryz.zeroValue146
  t173:=Tryz.underlying149
  a173:=Tryz.isAgg149
  z173:=Tryz.sizeOf149
  v173:=Tryz.zeroValue149
  t212:=Tryz.underlying164
  a212:=Tryz.isAgg164
  z212:=Tryz.sizeOf164
  v212:=Tryz.zeroValue164
  t213:=Tryz.underlying165
  a213:=Tryz.isAgg165
  z213:=Tryz.sizeOf165
  t232:=Tryz.underlying172
  a232:=Tryz.isAgg172
  z232:=Tryz.sizeOf172
  v232:=Tryz.zeroValue172
  t233:=Tryz.underlying173
  a233:=Tryz.isAgg173
  z233:=Tryz.sizeOf173
  v233:=Tryz.zeroValue173
  g17:=by kernel_rfl
  g18:=by kernel_rfl
  g19:=by kernel_rfl
  i0:=by kernel_rfl
  i2:=by kernel_rfl
  i3:=by kernel_rfl
  i4:=by kernel_rfl
  i5:=by kernel_rfl
  i9:=by kernel_rfl
  i20:=by kernel_rfl
  i37:=by kernel_rfl
  i46:=by kernel_rfl
  i51:=by kernel_rfl
  i53:=by kernel_rfl
  i171:=by kernel_rfl
  i173:=by kernel_rfl
  i212:=by kernel_rfl
  i232:=by kernel_rfl
  i233:=by kernel_rfl
  m17:=by kernel_rfl
  m18:=by kernel_rfl
  m19:=by kernel_rfl }
open Go.RowKit Go.Sort Go.Lib in
/-- strconv.FormatInt: "FormatInt returns the string representation of i in the given base": AT BASE 10: i's decimal numeral, for every int64. (LAID: no walk: one application.) -/
theorem lib_FormatInt_10 (n:Int) (h0:-9223372036854775808≤n) (h1:n≤9223372036854775807) (w:World) (htab:Lib.TabIs Tryz.prog w "internal/strconv.uint64pow10" .u64 Lib.pow10Tab) :
    Calls Tryz.prog 105 #[.int .i64 n,.int .i64 10] w fun e w'=>e=.returned (.string ⟨(Lib.itoa n).toArray⟩)∧∃k os,w'=grow (w.drewN k) os:=Any.strconv_FormatInt_10 laysM173 n h0 h1 w htab
def lays145_ren:Go.Shelf.Ren:=⟨fun|145=>46|220=>85|219=>112|217=>122|225=>123|224=>124|267=>125|266=>135|314=>136|n=>n,fun|9=>9|4=>4|59=>80|3=>3|5=>5|46=>137|146=>156|51=>155|n=>n,fun|1=>1|n=>n⟩
theorem lays145:Go.Proofs.Lays.n145 Tryz.prog lays145_ren:={
  mixed:=by kernel_rfl
  f145:=Tryz.func46.trans (congrArg some (by kernel_rfl))
  f217:=Tryz.func122.trans (congrArg some (by kernel_rfl))
  f219:=Tryz.func112.trans (congrArg some (by kernel_rfl))
  f220:=Tryz.func85.trans (congrArg some (by kernel_rfl))
  f224:=Tryz.func124.trans (congrArg some (by kernel_rfl))
  f225:=Tryz.func123.trans (congrArg some (by kernel_rfl))
  f266:=Tryz.func135.trans (congrArg some (by kernel_rfl))
  f267:=Tryz.func125.trans (congrArg some (by kernel_rfl))
  f314:=Tryz.func136.trans (congrArg some (by kernel_rfl))
  t3:=Tryz.underlying3
  a3:=Tryz.isAgg3
  z3:=Tryz.sizeOf3
  v3:=Tryz.zeroValue3
  t4:=Tryz.underlying4
  a4:=Tryz.isAgg4
  z4:=Tryz.sizeOf4
  v4:=Tryz.zeroValue4
  t5:=Tryz.underlying5
  a5:=Tryz.isAgg5
  z5:=Tryz.sizeOf5
  v5:=Tryz.zeroValue5
  t9:=Tryz.underlying9
  a9:=Tryz.isAgg9
  z9:=Tryz.sizeOf9
  v9:=Tryz.zeroValue9
  t46:=Tryz.underlying137
  a46:=Tryz.isAgg137
  z46:=Tryz.sizeOf137
  v46:=Tryz.zeroValue137
  t51:=Tryz.underlying155
  a51:=Tryz.isAgg155
  z51:=Tryz.sizeOf155
  v51:=Tryz.zeroValue155
  t59:=Tryz.underlying80
  a59:=Tryz.isAgg80
  z59:=Tryz.sizeOf80
  v59:=Tryz.zeroValue80
  t146:=Tryz.underlying156
  a146:=Tryz.isAgg156
  z146:=Tryz.sizeOf156
  v146:=Tryz.zeroValue156
  g1:=by kernel_rfl }
open Go.RowKit Go.Lib in
/-- strings.Cut: "Cut slices s around the first instance of sep, returning the text before and after sep. The found result reports whether sep appears in s. If sep does not appear in s, cut returns s, "", false.": IT RETURNS 'Lib.cut s sep'; the world is as it was but for the count of draws. (LAID: no walk: one application.) -/
theorem lib_Cut (s sep:ByteArray) (m:Int) (w:World) (hs:s.size < 4294967281) (hm:w.cell? ⟨1,0,none⟩=some (.int .i64 m)) :
    Calls Tryz.prog 46 #[.string s,.string sep] w fun e w'=>e=.returned (.tuple #[.string ⟨(Lib.cut s.data.toList sep.data.toList).1.toArray⟩,.string ⟨(Lib.cut s.data.toList sep.data.toList).2.1.toArray⟩,.bool (Lib.cut s.data.toList sep.data.toList).2.2])∧∃n,w'=w.drewN n:=Any.strings_Cut lays145 s sep m w hs hm
def lays146_ren:Go.Shelf.Ren:=⟨fun|146=>23|221=>45|268=>82|138=>83|143=>84|195=>109|197=>110|218=>111|219=>112|260=>121|217=>122|225=>123|224=>124|267=>125|266=>135|314=>136|n=>n,fun|9=>9|31=>44|3=>3|4=>4|0=>0|105=>127|21=>21|5=>5|46=>137|119=>151|139=>154|138=>153|146=>156|51=>155|n=>n,fun|1=>1|3=>2|4=>3|n=>n⟩
theorem lays146:Go.Proofs.Lays.n146 Tryz.prog lays146_ren:={
  mixed:=by kernel_rfl
  f138:=Tryz.func83.trans (congrArg some (by kernel_rfl))
  f143:=Tryz.func84.trans (congrArg some (by kernel_rfl))
  f146:=Tryz.func23.trans (congrArg some (by kernel_rfl))
  f195:=Tryz.func109.trans (congrArg some (by kernel_rfl))
  f197:=Tryz.func110.trans (congrArg some (by kernel_rfl))
  f217:=Tryz.func122.trans (congrArg some (by kernel_rfl))
  f218:=Tryz.func111.trans (congrArg some (by kernel_rfl))
  f219:=Tryz.func112.trans (congrArg some (by kernel_rfl))
  f221:=Tryz.func45.trans (congrArg some (by kernel_rfl))
  f224:=Tryz.func124.trans (congrArg some (by kernel_rfl))
  f225:=Tryz.func123.trans (congrArg some (by kernel_rfl))
  f260:=Tryz.func121.trans (congrArg some (by kernel_rfl))
  f266:=Tryz.func135.trans (congrArg some (by kernel_rfl))
  f267:=Tryz.func125.trans (congrArg some (by kernel_rfl))
  f268:=Tryz.func82.trans (congrArg some (by kernel_rfl))
  f314:=Tryz.func136.trans (congrArg some (by kernel_rfl))
  t0:=Tryz.underlying0
  a0:=Tryz.isAgg0
  z0:=Tryz.sizeOf0
  v0:=Tryz.zeroValue0
  t3:=Tryz.underlying3
  a3:=Tryz.isAgg3
  z3:=Tryz.sizeOf3
  v3:=Tryz.zeroValue3
  t4:=Tryz.underlying4
  a4:=Tryz.isAgg4
  z4:=Tryz.sizeOf4
  v4:=Tryz.zeroValue4
  t5:=Tryz.underlying5
  a5:=Tryz.isAgg5
  z5:=Tryz.sizeOf5
  v5:=Tryz.zeroValue5
  t9:=Tryz.underlying9
  a9:=Tryz.isAgg9
  z9:=Tryz.sizeOf9
  v9:=Tryz.zeroValue9
  t21:=Tryz.underlying21
  a21:=Tryz.isAgg21
  z21:=Tryz.sizeOf21
  v21:=Tryz.zeroValue21
  t31:=Tryz.underlying44
  a31:=Tryz.isAgg44
  z31:=Tryz.sizeOf44
  v31:=Tryz.zeroValue44
  t46:=Tryz.underlying137
  a46:=Tryz.isAgg137
  z46:=Tryz.sizeOf137
  v46:=Tryz.zeroValue137
  t51:=Tryz.underlying155
  a51:=Tryz.isAgg155
  z51:=Tryz.sizeOf155
  v51:=Tryz.zeroValue155
  t105:=Tryz.underlying127
  a105:=Tryz.isAgg127
  z105:=Tryz.sizeOf127
  v105:=Tryz.zeroValue127
  t119:=Tryz.underlying151
  a119:=Tryz.isAgg151
  z119:=Tryz.sizeOf151
  t138:=Tryz.underlying153
  a138:=Tryz.isAgg153
  z138:=Tryz.sizeOf153
  v138:=Tryz.zeroValue153
  t139:=Tryz.underlying154
  a139:=Tryz.isAgg154
  z139:=Tryz.sizeOf154
  v139:=Tryz.zeroValue154
  t146:=Tryz.underlying156
  a146:=Tryz.isAgg156
  z146:=Tryz.sizeOf156
  v146:=Tryz.zeroValue156
  g1:=by kernel_rfl
  g3:=by kernel_rfl
  g4:=by kernel_rfl }
open Go.RowKit Go.Lib in
/-- strings.Split. (LAID: no walk: one application.) -/
theorem lib_Split (s sep:ByteArray) (m:Int) (w:World) (hs:s.size < 4294967281) (hm:w.cell? ⟨1,0,none⟩=some (.int .i64 m)) (h1:1≤sep.size) :
    Calls Tryz.prog 23 #[.string s,.string sep] w fun e w'=>
      e=.returned (.slice (some ⟨w.heap.size,0,none⟩) (Lib.countB s sep+1) (Lib.countB s sep+1))∧w'=w.alloc (.cells ((Lib.splitB sep 0 (Lib.countB s sep) s).map Value.string).toArray 9):=Any.strings_Split lays146 (by kernel_rfl) s sep m w hs hm h1
def lays155_ren:Go.Shelf.Ren:=⟨fun|155=>73|154=>106|138=>83|165=>76|143=>84|166=>68|197=>110|169=>75|195=>109|218=>111|240=>103|241=>107|219=>112|260=>121|276=>118|277=>120|217=>122|225=>123|224=>124|267=>125|266=>135|314=>136|n=>n,fun|9=>9|3=>3|4=>4|72=>98|0=>0|76=>101|105=>127|21=>21|5=>5|70=>96|20=>20|37=>63|75=>100|127=>124|164=>133|46=>137|119=>151|139=>154|138=>153|146=>156|51=>155|80=>104|n=>n,fun|1=>1|3=>2|4=>3|n=>n⟩
theorem lays155:Go.Proofs.Lays.n155 Tryz.prog lays155_ren:={
  mixed:=by kernel_rfl
  f138:=Tryz.func83.trans (congrArg some (by kernel_rfl))
  f143:=Tryz.func84.trans (congrArg some (by kernel_rfl))
  f154:=Tryz.func106.trans (congrArg some (by kernel_rfl))
  f155:=Tryz.func73.trans (congrArg some (by kernel_rfl))
  f165:=Tryz.func76.trans (congrArg some (by kernel_rfl))
  f166:=Tryz.func68.trans (congrArg some (by kernel_rfl))
  f169:=Tryz.func75.trans (congrArg some (by kernel_rfl))
  f195:=Tryz.func109.trans (congrArg some (by kernel_rfl))
  f197:=Tryz.func110.trans (congrArg some (by kernel_rfl))
  f217:=Tryz.func122.trans (congrArg some (by kernel_rfl))
  f218:=Tryz.func111.trans (congrArg some (by kernel_rfl))
  f219:=Tryz.func112.trans (congrArg some (by kernel_rfl))
  f224:=Tryz.func124.trans (congrArg some (by kernel_rfl))
  f225:=Tryz.func123.trans (congrArg some (by kernel_rfl))
  f240:=Tryz.func103.trans (congrArg some (by kernel_rfl))
  f241:=Tryz.func107.trans (congrArg some (by kernel_rfl))
  f260:=Tryz.func121.trans (congrArg some (by kernel_rfl))
  f266:=Tryz.func135.trans (congrArg some (by kernel_rfl))
  f267:=Tryz.func125.trans (congrArg some (by kernel_rfl))
  f276:=Tryz.func118.trans (congrArg some (by kernel_rfl))
  f277:=Tryz.func120.trans (congrArg some (by kernel_rfl))
  f314:=Tryz.func136.trans (congrArg some (by kernel_rfl))
  t0:=Tryz.underlying0
  a0:=Tryz.isAgg0
  z0:=Tryz.sizeOf0
  v0:=Tryz.zeroValue0
  t3:=Tryz.underlying3
  a3:=Tryz.isAgg3
  z3:=Tryz.sizeOf3
  v3:=Tryz.zeroValue3
  t4:=Tryz.underlying4
  a4:=Tryz.isAgg4
  z4:=Tryz.sizeOf4
  v4:=Tryz.zeroValue4
  t5:=Tryz.underlying5
  a5:=Tryz.isAgg5
  z5:=Tryz.sizeOf5
  v5:=Tryz.zeroValue5
  t9:=Tryz.underlying9
  a9:=Tryz.isAgg9
  z9:=Tryz.sizeOf9
  v9:=Tryz.zeroValue9
  t20:=Tryz.underlying20
  a20:=Tryz.isAgg20
  z20:=Tryz.sizeOf20
  v20:=Tryz.zeroValue20
  t21:=Tryz.underlying21
  a21:=Tryz.isAgg21
  z21:=Tryz.sizeOf21
  v21:=Tryz.zeroValue21
  t37:=Tryz.underlying63
  a37:=Tryz.isAgg63
  z37:=Tryz.sizeOf63
  v37:=Tryz.zeroValue63
  t46:=Tryz.underlying137
  a46:=Tryz.isAgg137
  z46:=Tryz.sizeOf137
  v46:=Tryz.zeroValue137
  t51:=Tryz.underlying155
  a51:=Tryz.isAgg155
  z51:=Tryz.sizeOf155
  v51:=Tryz.zeroValue155
  t70:=Tryz.underlying96
  a70:=Tryz.isAgg96
  z70:=Tryz.sizeOf96
  v70:=Tryz.zeroValue96
  t72:=Tryz.underlying98
  a72:=Tryz.isAgg98
  z72:=Tryz.sizeOf98
  v72:=Tryz.zeroValue98
  t75:=Tryz.underlying100
  a75:=Tryz.isAgg100
  z75:=Tryz.sizeOf100
  v75:=Tryz.zeroValue100
  t76:=Tryz.underlying101
  a76:=Tryz.isAgg101
  z76:=Tryz.sizeOf101
  v76:=Tryz.zeroValue101
  t105:=Tryz.underlying127
  a105:=Tryz.isAgg127
  z105:=Tryz.sizeOf127
  v105:=Tryz.zeroValue127
  t119:=Tryz.underlying151
  a119:=Tryz.isAgg151
  z119:=Tryz.sizeOf151
  t127:=Tryz.underlying124
  a127:=Tryz.isAgg124
  z127:=Tryz.sizeOf124
  v127:=Tryz.zeroValue124
  t138:=Tryz.underlying153
  a138:=Tryz.isAgg153
  z138:=Tryz.sizeOf153
  v138:=Tryz.zeroValue153
  t139:=Tryz.underlying154
  a139:=Tryz.isAgg154
  z139:=Tryz.sizeOf154
  v139:=Tryz.zeroValue154
  t146:=Tryz.underlying156
  a146:=Tryz.isAgg156
  z146:=Tryz.sizeOf156
  v146:=Tryz.zeroValue156
  t164:=Tryz.underlying133
  a164:=Tryz.isAgg133
  z164:=Tryz.sizeOf133
  v164:=Tryz.zeroValue133
  g1:=by kernel_rfl
  g3:=by kernel_rfl
  g4:=by kernel_rfl }
theorem bldX_155:Builder.Extra Tryz.prog lays155_ren:={
  sizeBuilder:=by kernel_rfl
  liesBuilder:=by kernel_rfl
  t5:=Tryz.underlying5
  a5:=Tryz.isAgg5
  z5:=Tryz.sizeOf5
  v5:=Tryz.zeroValue5
  infoByte:=by kernel_rfl
  cellsByte:=by kernel_rfl
  sizeByte:=by kernel_rfl
  neB5:=by decide }
open Go.RowKit Go.Lib in
/-- strings.ReplaceAll: "ReplaceAll returns a copy of the string s with all non-overlapping instances of old replaced by new.": AT AN old THAT IS NOT EMPTY: 'Lib.replaceAll s old new'. (LAID: no walk: one application.) -/
theorem lib_ReplaceAll (s old new:ByteArray) (m:Int) (w:World) (hs:s.size < 4294967281) (hm:w.cell? ⟨1,0,none⟩=some (.int .i64 m)) (h1:1≤old.size) (hlen:s.size+Lib.countB s old * new.size≤140737488355328) :
    Calls Tryz.prog 73 #[.string s,.string old,.string new] w fun e w'=>
      e=.returned (.string ⟨(Lib.replaceAll s.data.toList old.data.toList new.data.toList).toArray⟩)∧Below w.heap.size w w':=Any.strings_ReplaceAll lays155 bldX_155 s old new m w hs hm h1 hlen
end
section
open Go.RowKit
section
variable {P : Program} {ops : Array Oper} {S : World → Prop}
/-- Along an order: (number, does it only look?). -/
def RG (P:Program) (ops:Array Oper) (S:World→Prop) (Q:(Nat→Value)→World→Prop):List (Nat × Bool)→(Nat→Value)→World→Prop
  |[],f,w=>Q f w
  |(i,q) :: rest,f,w=>match ops[i]? with
    |none=>False
    |some o=>match q with
      |true=>∃v,((wantF f ops o=true∧∀w,S w→(execOp (ev f) o).run P w=.ok (.value v) w) ∨ (wantF f ops o=false∧v=undef))∧RG P ops S Q rest (upo f o.dst v) w
      |false=>(wantF f ops o=true∧OpX P (fun v w'=>S w'∧RG P ops S Q rest (upo f o.dst v) w') ((execOp (ev f) o).run P w)) ∨ (wantF f ops o=false∧S w∧RG P ops S Q rest (upo f o.dst undef) w)
def ordB (ops:Array Oper):List (Nat × Bool)→Array Bool→Bool
  |[],listed=>(Region.ready .any ops listed).isEmpty
  |(i,q) :: rest,listed=>(match q with
      |true=>(Region.ready .any ops listed).contains i && Region.free .any ops listed i
      |false=>decide (Region.ready .any ops listed=[i])) && ordB ops rest (listed.setIfInBounds i true)
theorem RG_H {n:Nat} {Q:(Nat→Value)→World→Prop} {Q':Exit→Act→World→Prop} (hQ :∀f w,Q f w→Q' .normal (Fr n f) w) (hP :∀c a w,¬ Q' (.panic c) a w) (hsel:Region.noSelect ops=true) (hok :∀(i:Nat) (o:Oper),ops[i]? = some o→okOp n ops o=true) :
    ∀(l:List (Nat × Bool)) (listed:Array Bool) (f:Nat→Value) (w:World),ordB ops l listed=true→S w→RG P ops S Q l f w→wpAnyH P .any ops Q' S l.length listed (Fr n f) w
  |[],listed,f,w,hB,hS,h=>⟨by simpa [ordB] using hB,hQ f w h⟩
  |(i,true) :: rest,listed,f,w,hB,hS,h=>by
    simp only [ordB,Bool.and_eq_true] at hB
    obtain ⟨⟨hr,hf⟩,hB⟩:=hB
    unfold RG at h
    cases ho:ops[i]? with
    |none=>rw [ho] at h; exact h.elim
    |some o=>
      rw [ho] at h
      obtain ⟨v,h1,h2⟩:=h
      have hk:=hok i o ho
      refine wpAnyH_take ho hsel hf hr (fun c a w h=>absurd h (hP c _ w)) ?_ hS (v:=v) ?_
      · rcases h1 with ⟨hw,h1⟩|⟨hw,e⟩
        · exact .inl ⟨by rw [Fr_wanted hk]; exact hw,fun w hw'=>by rw [Fr_exec hk]; exact h1 w hw'⟩
        · exact .inr ⟨by rw [Fr_wanted hk]; exact hw,e⟩
      · rw [Fr_put]
        exact RG_H hQ hP hsel hok rest _ _ w hB hS h2
  |(i,false) :: rest,listed,f,w,hB,hS,h=>by
    simp only [ordB,Bool.and_eq_true,decide_eq_true_eq] at hB
    obtain ⟨hr,hB⟩:=hB
    unfold RG at h
    cases ho:ops[i]? with
    |none=>rw [ho] at h; exact h.elim
    |some o=>
      rw [ho] at h
      have hk:=hok i o ho
      refine wpAnyH_all hr (by simp) fun j hj=>?_
      obtain rfl:j=i:=by simpa using hj
      unfold wpOp
      rw [ho]
      simp only
      rw [Fr_wanted hk]
      have key :∀v w',S w'∧RG P ops S Q rest (upo f o.dst v) w'→S w'∧wpAnyH P .any ops Q' S rest.length (listed.setIfInBounds j true) ((Fr n f).put o.dst v) w':=fun v w' ⟨h1,h2⟩=>
        ⟨h1,by rw [Fr_put]; exact RG_H hQ hP hsel hok rest _ _ w' hB h1 h2⟩
      rcases h with ⟨hw,h⟩|⟨hw,h1,h2⟩
      · rw [hw,if_pos rfl]
        left
        unfold Oper.wp
        rw [Fr_exec hk]
        refine OpX_wp ?_
        revert h
        generalize (execOp (ev f) o).run P w=r
        intro h
        cases r with
        |ok nx w'=>
          cases nx <;> simp only [OpX] at h ⊢ <;> try exact key _ _ h
          case enter g args=>exact h.mono fun e w'' ⟨v,he,hk⟩=>⟨v,he,key _ _ hk⟩
        |halt x w'=>simp only [OpX] at h
      · rw [hw,if_neg (by decide)]
        exact key _ _ ⟨h1,h2⟩
/-- Q, but 'False' at a panic. -/
def noP (Q:Exit→Act→World→Prop):Exit→Act→World→Prop
  |.panic _,_,_=>False
  |e,a,w=>Q e a w
theorem wp_rg {id n:Nat} {l:List Oper} {f:Nat→Value} {w:World} {Q:Exit→Act→World→Prop} (S:World→Prop) (ord:List (Nat × Bool)) (hm:P.follows .mixedOrders=true)
    (hin:(okAll n l && Region.noSelect l.toArray && decide (ord.length=l.length) && ordB l.toArray ord (Array.replicate l.length false))=true)
    (h :∀w1,Below w.heap.size w w1→w1.heap.size=w.heap.size→S w1∧RG P l.toArray S (fun f' w'=>Q .normal (Fr n f') w') ord f w1):(Code.region id l.toArray true).wp P Q (Fr n f) w:=by
  simp only [Bool.and_eq_true,decide_eq_true_eq] at hin
  obtain ⟨⟨⟨h1,h2⟩,h3⟩,h4⟩:=hin
  refine Code.wp_mono (Q:=noP Q) (fun e a w hq=>by cases e <;> first|exact hq|exact hq.elim) ?_
  refine wp_region_held (S:=S) hm ?_
  obtain ⟨hS,hR⟩:=h { w with drawn:=w.drawn+1 } ⟨rfl,rfl,rfl,Nat.le_refl _,fun _ _=>rfl⟩ rfl
  have:=RG_H (Q':=noP Q) (n:=n) (fun f w h=>h) (fun c a w h=>h) h2 (fun i o ho=>List.all_eq_true.1 h1 o (by
    have:l[i]? = some o:=by simpa using ho
    exact List.mem_of_getElem? this)) ord _ f _ h4 hS hR
  rw [h3] at this
  simpa using this
variable {Q : (Nat → Value) → World → Prop} {rest : List (Nat × Bool)} {f : Nat → Value} {w : World} {i : Nat} {o : Oper}
theorem RG.nil (h:Q f w):RG P ops S Q [] f w:=h
theorem RG.y {v:Value} (ho:ops[i]? = some o) (hg:wantF f ops o=true) (hy:Y P S f o v) (h:RG P ops S Q rest (upo f o.dst v) w):RG P ops S Q ((i,true) :: rest) f w:=by
  unfold RG; rw [ho]; exact ⟨v,.inl ⟨hg,hy⟩,h⟩
theorem RG.skip (ho:ops[i]? = some o) (hg:wantF f ops o=false) (h:RG P ops S Q rest (upo f o.dst undef) w):RG P ops S Q ((i,true) :: rest) f w:=by
  unfold RG; rw [ho]; exact ⟨undef,.inr ⟨hg,rfl⟩,h⟩
/-- An operation that acts: by its law for lists, what follows with S shown anew. -/
theorem RG.act (ho:ops[i]? = some o) (h:RL P ops (fun f' w'=>S w'∧RG P ops S Q rest f' w') [o] f w):RG P ops S Q ((i,false) :: rest) f w:=by
  unfold RG
  rw [ho]
  unfold RL at h
  rcases h with ⟨hw,h⟩|⟨hw,h⟩
  · exact .inl ⟨hw,h⟩
  · exact .inr ⟨hw,h.1,h.2⟩
end
end
section
open Go.RowKit
inductive OT where
  |nil|q (i:Nat) (r:OT)|a (i:Nat) (r:OT)|two (i:Nat) (r1:OT) (j:Nat) (r2:OT)
def OT.len:OT→Nat
  |.nil=>0
  |.q _ r=>r.len+1
  |.a _ r=>r.len+1
  |.two _ r1 _ _=>r1.len+1
section
variable {P : Program} {ops : Array Oper} {S : World → Prop}
def ActAt (P:Program) (ops:Array Oper) (K:(Nat→Value)→World→Prop) (i:Nat) (f:Nat→Value) (w:World):Prop:=
  match ops[i]? with
  |none=>False
  |some o=>(wantF f ops o=true∧OpX P (fun v w'=>K (upo f o.dst v) w') ((execOp (ev f) o).run P w)) ∨ (wantF f ops o=false∧K (upo f o.dst undef) w)
def RT (P:Program) (ops:Array Oper) (S:World→Prop) (Q:(Nat→Value)→World→Prop):OT→(Nat→Value)→World→Prop
  |.nil,f,w=>Q f w
  |.q i r,f,w=>match ops[i]? with
    |none=>False
    |some o=>∃v,((wantF f ops o=true∧∀w,S w→(execOp (ev f) o).run P w=.ok (.value v) w) ∨ (wantF f ops o=false∧v=undef))∧RT P ops S Q r (upo f o.dst v) w
  |.a i r,f,w=>ActAt P ops (fun f' w'=>S w'∧RT P ops S Q r f' w') i f w
  |.two i r1 j r2,f,w=>ActAt P ops (fun f' w'=>S w'∧RT P ops S Q r1 f' w') i f w∧ActAt P ops (fun f' w'=>S w'∧RT P ops S Q r2 f' w') j f w
variable {Q : (Nat → Value) → World → Prop} {rest r2 : OT} {f : Nat → Value} {w : World} {i j : Nat} {o o2 : Oper}
theorem RT.nil_ (h:Q f w):RT P ops S Q .nil f w:=h
theorem RT.y {v:Value} (ho:ops[i]? = some o) (hg:wantF f ops o=true) (hy:Y P S f o v) (h:RT P ops S Q rest (upo f o.dst v) w):RT P ops S Q (.q i rest) f w:=by
  unfold RT; rw [ho]; exact ⟨v,.inl ⟨hg,hy⟩,h⟩
theorem RT.skip (ho:ops[i]? = some o) (hg:wantF f ops o=false) (h:RT P ops S Q rest (upo f o.dst undef) w):RT P ops S Q (.q i rest) f w:=by
  unfold RT; rw [ho]; exact ⟨undef,.inr ⟨hg,rfl⟩,h⟩
theorem ActAt.of {K:(Nat→Value)→World→Prop} (ho:ops[i]? = some o) (h:RL P ops K [o] f w):ActAt P ops K i f w:=by
  unfold ActAt
  rw [ho]
  unfold RL at h
  exact h
theorem RT.act (ho:ops[i]? = some o) (h:RL P ops (fun f' w'=>S w'∧RT P ops S Q rest f' w') [o] f w):RT P ops S Q (.a i rest) f w:=ActAt.of ho h
end
end
section
open Go.RowKit Go.Maps
set_option linter.unusedSectionVars false
/-- A map as data: how often it was written, and what it holds. -/
structure MapM (κ β:Type) where
  n:Nat
  get:κ→Option β
section
variable {κ β : Type}
def MapM.empty:MapM κ β:=⟨0,fun _=>none⟩
def MapM.put [DecidableEq κ] (m:MapM κ β) (x:κ) (v:β):MapM κ β:=⟨m.n+1,fun y=>if y=x then some v else m.get y⟩
def rdVal (v:Value):Option (DataW Value × List MemPlace):=some (.held v,[])
/-- A map type: its keys, its elements' zero value. -/
structure MapT (P:Program) (t k:TypeId) (key:κ→Value) (lit:κ→Lit) (good:κ→Prop) (z:Value):Prop where
  keyed:Keyed P k
  ty :∃e,P.underlying t=some (.map k e)∧∀w,(zeroValue e).run P w=.ok z w
  of :∀x,good x→keyOf P k (key x)=some (lit x)
  inj :∀x y,lit x=lit y→x=y
def OwM (P:Program) (k:TypeId) (lit:κ→Lit) (enc:β→Value) (w:World) (lo b:Nat) (m:MapM κ β):Prop:=
  lo≤b∧∃D,w.ownsMap P k rdVal b m.n D∧∀x zd,D.atKey (lit x) zd=match m.get x with|some v=>.held (enc v)|none=>zd
variable {P : Program} {t k : TypeId} {key : κ → Value} {lit : κ → Lit} {good : κ → Prop} {z : Value} {enc : β → Value} {w w' : World} {lo b : Nat} {m : MapM κ β}
theorem OwM.lt (h:OwM P k lit enc w lo b m):b < w.heap.size:=by obtain ⟨_,D,h,_⟩:=h; exact h.lt
theorem OwM.keep (h:OwM P k lit enc w lo b m) (hb:w'.heap[b]? = w.heap[b]?):OwM P k lit enc w' lo b m:=by
  obtain ⟨h0,D,⟨es,clock,h1,F,hs,hD⟩,h2⟩:=h
  exact ⟨h0,D,⟨es,clock,hb.trans h1,F,hs,hD⟩,h2⟩
theorem OwM.below (h:OwM P k lit enc w lo b m) (hb:Below w.heap.size w w'):OwM P k lit enc w' lo b m:=h.keep (hb.block b h.lt)
theorem OwM.only {bs:List Nat} (h:OwM P k lit enc w lo b m) (ho:Only bs w w') (hn:b ∉ bs):OwM P k lit enc w' lo b m:=h.keep (ho.block b hn)
theorem OwM.grown {row:Option Nat} (h:OwM P k lit enc w lo b m) (hg:w.grownBy w' row) (hn:row ≠ some b):OwM P k lit enc w' lo b m:=h.keep (hg.block b h.lt (fun e=>hn e.symm))
theorem OwM.new:OwM P k lit enc (w.alloc (.map #[] 0)) w.heap.size w.heap.size (MapM.empty:MapM κ β):=
  ⟨Nat.le_refl _,.map [],World.ownsMap_made w P k rdVal,fun x zd=>rfl⟩
theorem OwM.set [DecidableEq κ] {v:β} (h:OwM P k lit enc w lo b m) (T:MapT P t k key lit good z) {x:κ} (hx:good x) (hn:m.n≤4294967296) :
    ∃w',(Instr.mapUpdate t (.map (some b)) (key x) (enc v)).run P w=.ok () w'∧OwM P k lit enc w' lo b (m.put x v)∧Only [b] w w':=by
  obtain ⟨h0,D,h1,h2⟩:=h
  obtain ⟨e,ht,hz⟩:=T.ty
  obtain ⟨w',hr,h3,h4⟩:=h1.store T.keyed ht (by unfold maxLen; omega) (T.of x hx) (d:=.held (enc v)) (ps:=[]) rfl
  refine ⟨w',hr,⟨h0,_,h3,fun y zd=>?_⟩,?_⟩
  · unfold MapM.put
    by_cases hy:y=x
    · subst hy
      simp only [if_true]
      exact atKey_put_same h1.isMap (T.keyed.key (T.of y hx)) _ _
    · simp only [if_neg hy]
      rw [atKey_put_other (fun e=>hy (T.inj _ _ e))]
      exact h2 y zd
  · obtain ⟨es,clock,es',clock',hb,rfl⟩:=h4
    refine ⟨rfl,rfl,rfl,by simp [ChangeMaps.setBlock],fun j hj=>?_⟩
    exact ChangeMaps.heap_setBlock_other hb _ (by simpa using hj)
end
section
variable {f : Nat → Value}
theorem pm6 {i1 i2 i3 i4 i5 i6:Nat} {x1 x2 x3 x4 x5 x6:Operand} {v1 v2 v3 v4 v5 v6:Value} (h1:ev f x1=v1) (h2:ev f x2=v2) (h3:ev f x3=v3) (h4:ev f x4=v4) (h5:ev f x5=v5) (h6:ev f x6=v6) : #[(i1,x1),(i2,x2),(i3,x3),(i4,x4),(i5,x5),(i6,x6)].map (fun p=>(p.1,ev f p.2)) = #[(i1,v1),(i2,v2),(i3,v3),(i4,v4),(i5,v5),(i6,v6)]:=by simp [h1,h2,h3,h4,h5,h6]
end
section
variable {P : Program} {C : World → Prop} {f : Nat → Value} {d : Option Tmp} {ty : TypeId} {pos : String} {af : Array Edge} {g : Option (Nat × Bool)} {x y : Operand} {ats : Array TypeId} {k : IntKind} {a b : Int}
theorem Y.max (hx:ev f x=.int k a) (hy:ev f y=.int k b):Y P C f ⟨d,.call ⟨.builtin .max,#[x,y],ats⟩,ty,pos,af,g⟩ (.int k (if b > a then b else a)):=fun w _=>by
  simp [execOp,resolve,invoke,builtin,hx,hy,Builtin.max_,Builtin.max2]
end
end
section
open Go.RowKit
/-- The block of a slice's row. -/
def fb (v:Value):List Nat:=v.ownBlock.toList
/-- Two lists of blocks lie apart. -/
def Ap (l m:List Nat):Prop:=∀b∈l,b ∉ m
section
variable {l m x l' l2 : List Nat} {k g : Nat} {v u v' : Value}
theorem mem_fb {b:Nat} : b∈fb v↔v.ownBlock=some b:=by simp [fb]
theorem Ap.symm (h:Ap l m):Ap m l:=fun b h1 h2=>h b h2 h1
theorem Ap.nil:Ap [] m:=fun b h=>by simp at h
theorem Ap.new (h1 :∀b∈l,k≤b) (h2 :∀b∈x,b < k):Ap l x:=fun b h h'=>by have:=h1 b h; have:=h2 b h'; omega
theorem Ap.one (h:Ap l [g]):g ∉ l:=fun hg=>h g hg (by simp)
theorem Ap.far (h :∀b∈l,b < g):Ap l [g]:=fun b hb h'=>by simp at h'; subst h'; exact absurd (h b hb) (Nat.lt_irrefl _)
theorem Ap.farL (h :∀b∈l,b < g):Ap [g] l:=(Ap.far h).symm
theorem Ap.app (hn :∀b∈l',b∈l ∨ b∈l2 ∨ k≤b) (h1:Ap l x) (h2:Ap l2 x) (hi :∀b∈x,b < k):Ap l' x:=fun b hb h'=>by
  rcases hn b hb with h3|h3|h3
  · exact h1 b h3 h'
  · exact h2 b h3 h'
  · have:=hi b h'; omega
theorem Ap.cons (h1:Ap [g] x) (h2:Ap l x):Ap (g :: l) x:=fun b hb h'=>by
  rcases List.mem_cons.1 hb with rfl|hb
  · exact h1 b (by simp) h'
  · exact h2 b hb h'
theorem Ap.append (h1:Ap l x) (h2:Ap m x):Ap (l ++ m) x:=fun b hb h'=>by
  rcases List.mem_append.1 hb with hb|hb
  · exact h1 b hb h'
  · exact h2 b hb h'
theorem Dj.ap (h:Dj v u):Ap (fb v) (fb u):=fun b h1 h2=>h b (mem_fb.1 h1) (mem_fb.1 h2)
theorem Ap.dj (h:Ap (fb v) (fb u)):Dj v u:=fun b h1 h2=>h b (mem_fb.2 h1) (mem_fb.2 h2)
theorem ne_ap (h:v.ownBlock ≠ some g):Ap (fb v) [g]:=fun b h1 h2=>by simp at h2; subst h2; exact h (mem_fb.1 h1)
theorem ap_ne (h:Ap (fb v) [g]):v.ownBlock ≠ some g:=fun h1=>h g (mem_fb.2 h1) (by simp)
end
/-- Elements one behind the other, with what they own. -/
def Parts {α:Type} (O:Ow α) (w:World):List Value→List α→List Nat→Prop
  |cells,[],ib=>cells=[]∧ib=[]
  |cells,x :: xs,ib=>∃cs rest b1 b2,cells=cs ++ rest∧O w cs x b1∧ib=b1 ++ b2∧Parts O w rest xs b2
/-- A slice of the call's own: its row from block lo on, its elements' blocks (no two alike, none the row's), all among bs. -/
def OwN {α:Type} (e:TypeId) (O:Ow α) (sz:Nat) (w:World) (lo:Nat) (v:Value) (xs:List α) (bs:List Nat):Prop:=
  ∃cells ib,w.ownsRow lo e sz v xs.length cells∧Parts O w cells xs ib∧ib.Nodup∧(∀b∈ib,b∈bs)∧(∀b,v.ownBlock=some b→b∈bs∧b ∉ ib)∧(∀b∈bs,lo≤b∧b < w.heap.size)
/-- What an element's cells are: one value each. -/
def OneC {α:Type} (O:Ow α):Prop:=∀{w cs x bs},O w cs x bs→∀u∈cs,u.oneCell'=true
theorem agentOw_one:OneC agentOw:=fun ⟨A1,n1,c1,A2,n2,c2,b1,b2,e,_⟩ u hu=>by rw [e] at hu; simp at hu; rcases hu with rfl|rfl|rfl|rfl|rfl <;> rfl
section
variable {α : Type} {O : Ow α} {R : Rd α} {sz : Nat} {w w' : World} {lo lo' : Nat} {v : Value} {xs ys : List α} {x : α} {bs : List Nat} {e : TypeId}
theorem Parts.keep (ok:OwOk O sz) :∀{xs:List α} {cells:List Value} {ib:List Nat},(∀b∈ib,w'.heap[b]? = w.heap[b]?)→Parts O w cells xs ib→Parts O w' cells xs ib
  |[],_,_,_,h=>h
  |x :: xs,_,_,hb,⟨cs,rest,b1,b2,e1,hO,e2,hr⟩=>by
    subst e1 e2
    exact ⟨cs,rest,b1,b2,rfl,ok.keep (fun b h=>hb b (by simp [h])) hO,rfl,Parts.keep ok (fun b h=>hb b (by simp [h])) hr⟩
theorem Parts.append :∀{xs ys:List α} {c1 c2:List Value} {i1 i2:List Nat},Parts O w c1 xs i1→Parts O w c2 ys i2→Parts O w (c1 ++ c2) (xs ++ ys) (i1 ++ i2)
  |[],_,_,_,_,_,⟨e1,e2⟩,h2=>by subst e1 e2; exact h2
  |x :: xs,_,_,_,_,_,⟨cs,rest,b1,b2,e1,hO,e2,hr⟩,h2=>by
    subst e1 e2
    exact ⟨cs,_,b1,_,by rw [List.append_assoc],hO,by rw [List.append_assoc],Parts.append hr h2⟩
theorem Parts.one {cs:List Value} {b:List Nat} (h:O w cs x b):Parts O w cs [x] b:=⟨cs,[],b,[],by simp,h,by simp,rfl,rfl⟩
theorem Parts.one_ (one:OneC O) :∀{xs:List α} {cells:List Value} {ib:List Nat},Parts O w cells xs ib→∀u∈cells,u.oneCell'=true
  |[],_,_,⟨e,_⟩,u,hu=>by rw [e] at hu; simp at hu
  |x :: xs,_,_,⟨cs,rest,b1,b2,e1,hO,e2,hr⟩,u,hu=>by
    subst e1
    rcases List.mem_append.1 hu with h|h
    · exact one hO u h
    · exact Parts.one_ one hr u h
theorem Parts.len (ok:OwOk O sz) :∀{xs:List α} {cells:List Value} {ib:List Nat},Parts O w cells xs ib→cells.length=xs.length * sz
  |[],_,_,⟨e,_⟩=>by rw [e]; simp
  |x :: xs,_,_,⟨cs,rest,b1,b2,e1,hO,e2,hr⟩=>by
    subst e1
    rw [List.length_append,ok.len hO,Parts.len ok hr,List.length_cons,Nat.add_mul]; omega
theorem Parts.elAt (ok:OwOk O sz) {g:Nat} {cur:Array Value} (hb:Blk w g e cur) :∀{xs:List α} {cells:List Value} {ib:List Nat} (o:Nat),(∀(j:Nat) (u:Value),cells[j]? = some u→cur[o+j]? = some u)→Parts O w cells xs ib→ElAt O sz w g o xs ib
  |[],_,_,o,_,⟨_,e⟩=>e
  |x :: xs,_,_,o,hc,⟨cs,rest,b1,b2,e1,hO,e2,hr⟩=>by
    subst e1 e2
    have hl:=ok.len hO
    refine ⟨cs,b1,b2,hO,hb.csAt (fun j u hj=>hc j u ?_),rfl,Parts.elAt ok hb (o+sz) (fun j u hj=>?_) hr⟩
    · rw [List.getElem?_append_left (lt_of_some hj)]; exact hj
    · have:=hc (sz+j) u (by rw [List.getElem?_append_right (by omega),hl,show sz+j - sz=j by omega]; exact hj)
      rwa [show o+(sz+j)=o+sz+j by omega] at this
/-- One element of many. -/
theorem Parts.split (ok:OwOk O sz) :∀{xs:List α} {cells:List Value} {ib:List Nat} {k:Nat} {x:α},Parts O w cells xs ib→xs[k]? = some x→
    ∃c1 cs c2 i1 b1 i2,cells=c1 ++ cs ++ c2∧c1.length=k * sz∧O w cs x b1∧ib=i1 ++ (b1 ++ i2)∧∀w' cs' x' b1',(∀b∈i1 ++ i2,w'.heap[b]? = w.heap[b]?)→O w' cs' x' b1'→Parts O w' (c1 ++ cs' ++ c2) (xs.set k x') (i1 ++ (b1' ++ i2))
  |[],_,_,_,_,_,h=>by simp at h
  |y :: ys,_,_,0,x,⟨cs,rest,b1,b2,e1,hO,e2,hr⟩,h=>by
    have:y=x:=by simpa using h
    subst this
    subst e1 e2
    exact ⟨[],cs,rest,[],b1,b2,by simp,by simp,hO,by simp,fun w' cs' x' b1' hb hO'=>⟨cs',rest,b1',b2,by simp,hO',by simp,Parts.keep ok (fun b h=>hb b (by simp [h])) hr⟩⟩
  |y :: ys,_,_,k+1,x,⟨cs,rest,b1,b2,e1,hO,e2,hr⟩,h=>by
    subst e1 e2
    obtain ⟨c1,cs2,c2,i1,b3,i2,f1,f2,f3,f4,f5⟩:=Parts.split ok hr (by simpa using h)
    subst f1 f4
    refine ⟨cs ++ c1,cs2,c2,b1 ++ i1,b3,i2,by simp,by rw [List.length_append,ok.len hO,f2,Nat.add_mul]; omega,f3,by simp,fun w' cs' x' b1' hb hO'=>?_⟩
    refine ⟨cs,_,b1,_,by simp [List.append_assoc],ok.keep (fun b h=>hb b (by simp [h])) hO,by simp [List.append_assoc],f5 w' cs' x' b1' (fun b h=>hb b (by simp at h ⊢; rcases h with h|h <;> simp [h])) hO'⟩
theorem OwN.keep (ok:OwOk O sz) (h:OwN e O sz w lo v xs bs) (hk :∀b∈bs,w'.heap[b]? = w.heap[b]?) (hs:w.heap.size≤w'.heap.size):OwN e O sz w' lo v xs bs:=by
  obtain ⟨cells,ib,h1,h2,h3,h4,h5,h6⟩:=h
  refine ⟨cells,ib,?_,h2.keep ok (fun b hb=>hk b (h4 b hb)),h3,h4,h5,fun b hb=>by have:=h6 b hb; omega⟩
  refine ⟨h1.1,?_⟩
  rcases h1.2 with h|⟨g,cap,cur,hv,hg,hh,r⟩
  · exact .inl h
  · exact .inr ⟨g,cap,cur,hv,hg,(hk g (h5 g (by rw [hv]; rfl)).1).trans hh,r⟩
theorem OwN.hi (h:OwN e O sz w lo v xs bs) :∀b∈bs,b < w.heap.size:=by obtain ⟨cells,ib,h1,h2,h3,h4,h5,h6⟩:=h; exact fun b hb=>(h6 b hb).2
theorem OwN.lo_ (h:OwN e O sz w lo v xs bs) :∀b∈bs,lo≤b:=by obtain ⟨cells,ib,h1,h2,h3,h4,h5,h6⟩:=h; exact fun b hb=>(h6 b hb).1
theorem OwN.row (h:OwN e O sz w lo v xs bs) {b:Nat} (hb:v.ownBlock=some b):b∈bs:=by obtain ⟨cells,ib,h1,h2,h3,h4,h5,h6⟩:=h; exact (h5 b hb).1
theorem OwN.below (ok:OwOk O sz) (h:OwN e O sz w lo v xs bs) (hb:Below w.heap.size w w'):OwN e O sz w' lo v xs bs:=h.keep ok (fun b hin=>hb.block b (h.hi b hin)) hb.size
theorem OwN.only {b:Nat} (ok:OwOk O sz) (h:OwN e O sz w lo v xs bs) (ho:Only [b] w w') (hn:b ∉ bs):OwN e O sz w' lo v xs bs:=h.keep ok (fun k hk=>ho.block k (by intro hin; simp at hin; subst hin; exact hn hk)) (Nat.le_of_eq ho.size.symm)
theorem OwN.grown {row:Option Nat} (ok:OwOk O sz) (h:OwN e O sz w lo v xs bs) (hg:w.grownBy w' row) (hn:Ap bs row.toList):OwN e O sz w' lo v xs bs:=h.keep ok (fun k hk=>hg.block k (h.hi k hk) (fun e=>hn k hk (by simp [← e]))) hg.size
theorem OwN.mono (h:OwN e O sz w lo v xs bs) (hl:lo'≤lo):OwN e O sz w lo' v xs bs:=by
  obtain ⟨cells,ib,h1,h2,h3,h4,h5,h6⟩:=h
  refine ⟨cells,ib,?_,h2,h3,h4,h5,fun b hb=>by have:=h6 b hb; omega⟩
  refine ⟨h1.1,?_⟩
  rcases h1.2 with h|⟨g,cap,cur,hv,hg,r⟩
  · exact .inl h
  · exact .inr ⟨g,cap,cur,hv,by omega,r⟩
theorem OwN.nil:OwN e O sz w lo (.slice none 0 0) ([] : List α) []:=⟨[],[],⟨by simp,.inl ⟨rfl,rfl⟩⟩,⟨rfl,rfl⟩,List.nodup_nil,fun b hb=>by simp at hb,fun b hb=>by simp [Value.ownBlock] at hb,fun b hb=>by simp at hb⟩
theorem OwN.form (h:OwN e O sz w lo v xs bs) :∃A c,v=.slice A xs.length c:=by
  obtain ⟨cells,ib,h1,_⟩:=h
  rcases h1.2 with ⟨rfl,h0⟩|⟨g,cap,cur,hv,_⟩
  · exact ⟨none,0,by rw [h0]⟩
  · exact ⟨_,_,hv⟩
theorem OwN.bound (h:OwN e O sz w lo v xs bs):xs.length≤9223372036854775807:=by
  obtain ⟨cells,ib,h1,_⟩:=h
  rcases h1.2 with ⟨_,h0⟩|⟨g,cap,cur,hv,hg,hh,h1,h2,_⟩
  · omega
  · unfold maxLen at h2; omega
theorem OwN.addr0 {A:Option Addr} {n c:Nat} (h:OwN e O sz w lo (.slice A n c) xs bs) (hn:0 < n) :∃b,A=some ⟨b,0,none⟩:=by
  obtain ⟨cells,ib,h1,_⟩:=h
  rcases h1.2 with ⟨h0,_⟩|⟨g,cap,cur,hv,_⟩
  · injection h0 with h1 h2; omega
  · injection hv with h1; exact ⟨g,h1⟩
theorem OwN.own1 (ok:OwOk O sz) (h:OwN e O sz w lo v xs bs) :∃A n c l,v=.slice A n c∧OwAt O sz w A n xs l∧l.Nodup∧(∀b∈l,b∈bs)∧n≤c∧c≤maxLen:=by
  obtain ⟨cells,ib,h1,h2,h3,h4,h5,h6⟩:=h
  rcases h1.2 with ⟨rfl,h0⟩|⟨g,cap,cur,rfl,hg,hh,k1,k2,k3,k4⟩
  · have:xs=[]:=List.eq_nil_of_length_eq_zero h0
    subst this
    exact ⟨none,0,0,[],rfl,⟨rfl,.inl ⟨rfl,rfl⟩⟩,List.nodup_nil,fun b hb=>by simp at hb,Nat.le_refl _,Nat.zero_le _⟩
  · obtain ⟨hg1,hg2⟩:=h5 g rfl
    refine ⟨some ⟨g,0,none⟩,_,cap,g :: ib,rfl,⟨rfl,.inr ⟨g,0,ib,rfl,rfl,?_⟩⟩,List.nodup_cons.2 ⟨hg2,h3⟩,fun b hb=>by
      rcases List.mem_cons.1 hb with rfl|hb
      · exact hg1
      · exact h4 b hb,k1,k2⟩
    refine h2.elAt (e:=e) ok (cur:=cur) hh 0 (fun j u hj=>?_)
    rw [← k4,List.getElem?_take] at hj
    split at hj
    · simpa using hj
    · cases hj
theorem OwN.own (ok:OwOk O sz) (h:OwN e O sz w lo v xs bs):OwS O sz w v xs lo w.heap.size:=by
  obtain ⟨A,n,c,l,e1,h1,h2,h3,r⟩:=h.own1 ok
  exact ⟨A,n,c,l,e1,h1,h2,fun b hb=>⟨h.lo_ b (h3 b hb),h.hi b (h3 b hb)⟩,r⟩
theorem OwN.rdS (ok:OwOk O sz) (hR:Gives O R w.heap.size) (h:OwN e O sz w lo v xs bs):RdS R sz w w.heap.size v xs:=(h.own ok).reads hR (Nat.le_refl _)
theorem OwN.arg (ok:OwOk O sz) (hR:Gives O R w.heap.size) (h:OwN e O sz w lo v xs bs):Sl R sz w v xs:=h.rdS ok hR
theorem OwN.sl {A:Option Addr} {n c:Nat} (ok:OwOk O sz) (hR:Gives O R w.heap.size) (h:OwN e O sz w lo (.slice A n c) xs bs):SlAt R sz w w.heap.size A n xs∧n≤c∧c≤maxLen:=by
  obtain ⟨A',n',c',he,h1,h2⟩:=h.rdS ok hR
  injection he with e1 e2 e3
  subst e1 e2 e3
  exact ⟨h1,h2⟩
/-- An element's cells. -/
theorem OwN.rd {b n c k:Nat} (ok:OwOk O sz) (hR:Gives O R w.heap.size) (h:OwN e O sz w lo (.slice (some ⟨b,0,none⟩) n c) xs bs) (hx:xs[k]? = some x) :∃cs,R w w.heap.size cs x∧∀j v,cs[j]? = some v→w.cell? ⟨b,0+k * sz+j,none⟩=some v:=(h.sl ok hR).1.el hx
theorem OwN.lit1 {g:Nat} {cells:Array Value} {b1 l:List Nat} (B:Blk w g e cells) (hg:lo≤g) (hO:O w cells.toList x b1) (ok:OwOk O sz) (nd:b1.Nodup) (hs :∀b∈b1,b∈l) (hl :∀b∈l,lo≤b∧b < g):OwN e O sz w lo (.slice (some ⟨g,0,none⟩) 1 1) [x] (g :: l):=by
  have hc:cells.size=1 * sz:=by rw [← Array.length_toList,ok.len hO]; omega
  have hgl:=B.lt
  refine ⟨cells.toList,b1,⟨by simpa using hc,.inr ⟨g,1,cells,rfl,hg,B,Nat.le_refl _,by unfold maxLen; omega,hc,?_⟩⟩,Parts.one hO,nd,fun b hb=>by simp [hs b hb],fun b hb=>?_,fun b hb=>?_⟩
  · rw [List.take_of_length_le]; simp [hc]
  · simp [Value.ownBlock] at hb; subst hb
    exact ⟨by simp,fun h=>by have:=hl _ (hs _ h); omega⟩
  · rcases List.mem_cons.1 hb with rfl|hb
    · exact ⟨hg,hgl⟩
    · have:=hl b hb; omega
theorem nodup2 {l1 l2 m1 m2:List Nat} (h1:l1.Nodup) (h2:l2.Nodup) (s1 :∀b∈l1,b∈m1) (s2 :∀b∈l2,b∈m2) (D:Ap m1 m2):(l1 ++ l2).Nodup:=List.nodup_append.2 ⟨h1,h2,fun a ha b hb e=>by subst e; exact D a (s1 a ha) (s2 a hb)⟩
theorem sub2 {l1 l2 m1 m2:List Nat} (s1 :∀b∈l1,b∈m1) (s2 :∀b∈l2,b∈m2) :∀b∈l1 ++ l2,b∈m1 ++ m2:=fun b hb=>by
  rcases List.mem_append.1 hb with h|h
  · simp [s1 b h]
  · simp [s2 b h]
theorem all2 {p:Nat→Prop} {l1 l2:List Nat} (s1 :∀b∈l1,p b) (s2 :∀b∈l2,p b) :∀b∈l1 ++ l2,p b:=fun b hb=>by
  rcases List.mem_append.1 hb with h|h
  · exact s1 b h
  · exact s2 b h
end
section
variable {α : Type} {R : Rd α} {O : Ow α} {enc : α → List Value} {sz : Nat} {w w' : World} {lo lo' : Nat} {v : Value} {xs ys : List α} {e : TypeId}
theorem OwF.own2 {A:Option Addr} {n c:Nat} (F:FlatT R O enc sz) (h:OwF e enc sz w lo (.slice A n c) xs) :∃l,OwAt O sz w A n xs l∧l.Nodup∧(∀b∈l,b∈fb (.slice A n c))∧n≤c∧c≤maxLen:=by
  rcases h.2 with ⟨hv,h0⟩|⟨g,cap,cur,hv,hg,hh,h1,h2,h3,h4⟩
  · injection hv with e1 e2 e3
    subst e1 e2 e3
    have:xs=[]:=List.eq_nil_of_length_eq_zero h0
    subst this
    exact ⟨[],⟨rfl,.inl ⟨rfl,rfl⟩⟩,List.nodup_nil,fun b hb=>by simp at hb,Nat.le_refl _,Nat.zero_le _⟩
  · injection hv with e1 e2 e3
    subst e1 e2 e3
    obtain ⟨A',n',c',l,he,hA,hn,hl,hc1,hc2⟩:=h.own F
    injection he with e1 e2 e3
    subst e1 e2 e3
    by_cases hx:xs=[]
    · subst hx; exact ⟨[],⟨rfl,.inl ⟨rfl,rfl⟩⟩,List.nodup_nil,fun b hb=>by simp at hb,hc1,hc2⟩
    · rcases hA.2 with ⟨h5,_⟩|⟨b,o,b2,h5,h6,h7⟩
      · exact absurd h5 hx
      · injection h5 with h5
        injection h5 with h5
        subst h5
        have hflat :∀(l:List α) (o:Nat) (k:List Nat),ElAt O sz w g o l k→k=[]→True:=fun _ _ _ _ _=>trivial
        refine ⟨[g],⟨hA.1,.inr ⟨g,0,[],rfl,rfl,?_⟩⟩,by simp,fun b hb=>by simpa [fb,Value.ownBlock] using hb,hc1,hc2⟩
        have hblk:Blk w g e cur:=hh
        have key :∀(l:List α) (o:Nat),(∀j u,(l.flatMap enc)[j]? = some u→cur[o+j]? = some u)→ElAt O sz w g o l []:=by
          intro l
          induction l with
          |nil=>intro o _; rfl
          |cons x l ih=>
            intro o hl
            refine ⟨enc x,[],[],F.ow,hblk.csAt (fun j u hj=>hl j u ?_),rfl,ih (o+sz) (fun j u hj=>?_)⟩
            · simp only [List.flatMap_cons]
              rw [List.getElem?_append_left (lt_of_some hj)]; exact hj
            · have:=hl (sz+j) u (by
                simp only [List.flatMap_cons]
                rw [List.getElem?_append_right (by rw [F.len]; omega),F.len,show sz+j - sz=j by omega]; exact hj)
              rwa [show o+(sz+j)=o+sz+j by omega] at this
        refine key xs 0 (fun j u hj=>?_)
        rw [← h4,List.getElem?_take] at hj
        split at hj
        · simpa using hj
        · cases hj
theorem OwF.fhi (h:OwF e enc sz w lo v xs) :∀b∈fb v,b < w.heap.size:=fun b hb=>h.hi b (mem_fb.1 hb)
theorem OwF.flo (h:OwF e enc sz w lo v xs) :∀b∈fb v,lo≤b:=fun b hb=>h.lo_ b (mem_fb.1 hb)
theorem OwF.fboth (h:OwF e enc sz w lo v xs) {g:Nat} (hg:w.heap.size≤g) :∀b∈fb v,lo≤b∧b < g:=fun b hb=>⟨h.flo b hb,Nat.lt_of_lt_of_le (h.fhi b hb) hg⟩
theorem one_hi {g:Nat} (h:g < w.heap.size) :∀b∈[g],b < w.heap.size:=fun b hb=>by simp at hb; subst hb; exact h
variable {O' : Ow α} {bs : List Nat} {u : Value}
/-- Another slice of the call's own, while the row of v grows or is written. -/
theorem OwN.dj (h:OwN e O' sz w lo v xs bs) (A:Ap bs (fb u)):Dj u v:=fun b h1 h2=>A b (h.row h2) (mem_fb.2 h1)
theorem OwN.neB {g:Nat} (h:OwN e O' sz w lo v xs bs) (A:Ap bs [g]):v.ownBlock ≠ some g:=fun h1=>A g (h.row h1) (by simp)
theorem OwN.apRow {bs2:List Nat} (h:OwN e O' sz w lo v xs bs) (A:Ap bs bs2):Ap bs2 (v.ownBlock.toList):=fun b h1 h2=>A b (h.row (by simpa using h2)) h1
end
section
variable {P : Program} {ops : Array Oper} {f : Nat → Value} {rest : List Oper} {Q : (Nat → Value) → World → Prop} {w : World} {d : Option Tmp} {ty : TypeId} {pos : String} {af : Array Edge} {g : Option (Nat × Bool)} {x y : Operand} {t e : TypeId} {z : Value} {sz bb : Nat}
theorem RL.appendN {α:Type} {O:Ow α} {v vy:Value} {xs ys:List α} {lo:Nat} {bs bs2:List Nat} (ok:OwOk O sz) (one:OneC O) (hp:0 < sz) (A:AppT P t e z sz bb) (hg:wantF f ops ⟨d,.call ⟨.builtin .append,#[x,y],#[t,t]⟩,ty,pos,af,g⟩=true)
    (hx:ev f x=v) (hy:ev f y=vy) (hv:OwN e O sz w lo v xs bs) (hr:OwN e O sz w lo vy ys bs2) (D:Ap bs bs2) (hlo:lo≤w.heap.size) (hk:xs.length+ys.length≤4294967296)
    (h :∀v' w1 bs',OwN e O sz w1 lo v' (xs ++ ys) bs'→w.grownBy w1 v.ownBlock→Below lo w w1→(∀b∈bs',b∈bs ∨ b∈bs2 ∨ w.heap.size≤b)→RL P ops Q rest (upo f d v') w1):RL P ops Q (⟨d,.call ⟨.builtin .append,#[x,y],#[t,t]⟩,ty,pos,af,g⟩ :: rest) f w:=by
  have hrun :∀v' w1,(Builtin.append_ #[t,t] ty #[v,vy]).run P w=.ok v' w1→(execOp (ev f) ⟨d,.call ⟨.builtin .append,#[x,y],#[t,t]⟩,ty,pos,af,g⟩).run P w=.ok (.value v') w1:=fun v' w1 h0=>by
    simp [execOp,resolve,invoke,builtin,hx,hy,h0]
  have hv0:=hv
  obtain ⟨cells,ib,h1,h2,h3,h4,h5,h6⟩:=hv
  obtain ⟨cells2,ib2,k1,k2,k3,k4,k5,k6⟩:=hr
  have hdis:(ib ++ ib2).Nodup:=List.nodup_append.2 ⟨h3,k3,fun a ha b hb e=>by subst e; exact D a (h4 a ha) (k4 a hb)⟩
  rcases k1.2 with ⟨rfl,h0⟩|⟨g2,cap2,cur2,rfl,hg2,hh2,m1,m2,m3,m4⟩
  · have:ys=[]:=List.eq_nil_of_length_eq_zero h0
    subst this
    refine .inl ⟨hg,?_⟩
    rw [hrun v w (append_none A h1 ty)]
    exact h v w bs (by simpa using hv0) ⟨rfl,rfl,rfl,Nat.le_refl _,fun _ _ _=>rfl⟩ (Below.refl _ _) (fun b hb=>.inl hb)
  · have hblk:Blk w g2 e cur2:=hh2
    have hcells :∀j u,cells2[j]? = some u→w.cell? ((⟨g2,0,none⟩:Addr).add j)=some u:=fun j u hj=>by
      rw [Addr.add_eq,Nat.zero_add,hblk.cell]
      rw [← m4,List.getElem?_take] at hj
      split at hj
      · simpa using hj
      · cases hj
    obtain ⟨v',w1,r1,r2,r3,r4⟩:=append_own2 A hp h1 hlo ⟨g2,0,none⟩ ys.length cap2 cells2 (k2.len ok) hcells (k2.one_ one) hk ty
    refine .inl ⟨hg,?_⟩
    rw [hrun v' w1 r1]
    have hkeep :∀b∈ib ++ ib2,b < w.heap.size∧some b ≠ v.ownBlock:=fun b hb=>by
      rcases List.mem_append.1 hb with hb|hb
      · exact ⟨(h6 b (h4 b hb)).2,fun e=>(h5 b e.symm).2 hb⟩
      · exact ⟨(k6 b (k4 b hb)).2,fun e=>D b (h5 b e.symm).1 (k4 b hb)⟩
    refine h v' w1 (fb v' ++ (ib ++ ib2)) ⟨cells ++ cells2,ib ++ ib2,?_,?_,hdis,fun b hb=>by simp at hb ⊢; exact .inr hb,fun b hb=>⟨by simp [mem_fb.2 hb],fun hin=>?_⟩,fun b hb=>?_⟩ r3 ?_ ?_
    · rw [List.length_append]; exact r2
    · exact (h2.keep ok (fun b hb=>r3.block b (hkeep b (by simp [hb])).1 (hkeep b (by simp [hb])).2)).append (k2.keep ok (fun b hb=>r3.block b (hkeep b (by simp [hb])).1 (hkeep b (by simp [hb])).2))
    · rcases r4 b hb with h7|h7
      · exact (hkeep b hin).2 h7.symm
      · have:=(hkeep b hin).1; omega
    · rcases List.mem_append.1 hb with h7|h7
      · exact ⟨(r2.lt b (mem_fb.1 h7)).1,(r2.lt b (mem_fb.1 h7)).2⟩
      · have h8:=(hkeep b h7).1
        have:=r3.size
        rcases List.mem_append.1 h7 with h7|h7
        · exact ⟨(h6 b (h4 b h7)).1,by omega⟩
        · exact ⟨(k6 b (k4 b h7)).1,by omega⟩
    · exact (Below.refl lo w).grown r3 hlo (fun b hb=>(h6 b (h5 b hb).1).1)
    · intro b hb
      rcases List.mem_append.1 hb with h7|h7
      · rcases r4 b (mem_fb.1 h7) with h8|h8
        · exact .inl (h5 b h8).1
        · exact .inr (.inr h8)
      · rcases List.mem_append.1 h7 with h7|h7
        · exact .inl (h4 b h7)
        · exact .inr (.inl (k4 b h7))
end
end
section
open Go.RowKit
section
variable {α : Type} {R : Rd α} {O : Ow α} {enc : α → List Value} {sz B n c l lo : Nat} {w w' : World} {A Av : Option Addr} {xs : List α} {bs : List Nat} {e : TypeId}
theorem SlAt.dropV (h:SlAt R sz w B A n xs) (r:n≤c∧c≤maxLen) (hl:l≤xs.length) (eA:(if c=l then A else A.map (·.add (l * sz)))=Av):SlAt R sz w B Av (xs.length - l) (xs.drop l)∧xs.length - l≤c - l∧c - l≤maxLen:=by
  have hn:=h.1
  refine ⟨⟨by rw [List.length_drop],fun h0=>?_⟩,by omega,by omega⟩
  obtain ⟨b,off,ea,hb,hc⟩:=h.2 (by omega)
  subst ea
  rw [if_neg (by omega)] at eA
  subst eA
  refine ⟨b,off+l * sz,by simp only [Option.map_some,Addr.add_eq],hb,fun i x hx=>?_⟩
  rw [List.getElem?_drop] at hx
  obtain ⟨cs,h1,h2⟩:=hc _ x hx
  refine ⟨cs,h1,fun j v hj=>?_⟩
  have:=h2 j v hj
  rwa [Nat.add_mul,← Nat.add_assoc] at this
theorem OwN.view (ok:OwOk O sz) (hR:Gives O R w.heap.size) (h:OwN e O sz w lo (.slice A n c) xs bs) (hl:l≤xs.length) (eA:(if c=l then A else A.map (·.add (l * sz)))=Av):SlAt R sz w w.heap.size Av (xs.length - l) (xs.drop l)∧xs.length - l≤c - l∧c - l≤maxLen:=
  SlAt.dropV (h.sl ok hR).1 (h.sl ok hR).2 hl eA
theorem OwF.view (F:FlatT R O enc sz) (h:OwF e enc sz w lo (.slice A n c) xs) (hl:l≤xs.length) (eA:(if c=l then A else A.map (·.add (l * sz)))=Av):SlAt R sz w w.heap.size Av (xs.length - l) (xs.drop l)∧xs.length - l≤c - l∧c - l≤maxLen:=
  SlAt.dropV (OwF.sl F h).1 (OwF.sl F h).2 hl eA
end
section
variable {P : Program} {C : World → Prop} {f : Nat → Value} {d : Option Tmp} {ty : TypeId} {pos : String} {af : Array Edge} {g : Option (Nat × Bool)} {x y : Operand} {t : TypeId} {A Av : Option Addr} {n c : Nat}
theorem Y.sliceL {l sz N:Nat} {k:IntKind} {j:Int} (hx:ev f x=.slice A N c) (hy:ev f y=.int k j) (hj:j=(l:Int)) (hl:l≤N) (ht:elemO P t=some sz) (eA:(if c=l then A else A.map (·.add (l * sz)))=Av) :
    Y P C f ⟨d,.slice t x (some y) none none,ty,pos,af,g⟩ (.slice Av (N - l) (c - l)):=fun w _=>by
  subst hj
  unfold elemO at ht
  split at ht
  · rename_i e hu
    cases hinf:P.info? e with
    |none=>rw [hinf] at ht; cases ht
    |some inf=>
      rw [hinf] at ht
      simp at ht
      subst ht
      have he:P.elem t=e:=by simp [Program.elem,hu]
      have hu':P.underlying t=some (.slice (P.elem t)):=by rw [he]; exact hu
      have:=run_slice_l (P:=P) (w:=w) t A N c hu' k (l:Int) (by omega) (by omega)
      simp [execOp,hx,hy,run_sliceAt_slice,hu',this,he,sizeOf,typeInfo,hinf,sliced,eA]
  · cases ht
end
end
section
open Go.RowKit
section
variable {P : Program} {C : World → Prop} {f : Nat → Value} {d : Option Tmp} {ty : TypeId} {pos : String} {af : Array Edge} {g : Option (Nat × Bool)} {x y : Operand} {t t' : TypeId} {a b : ByteArray}
theorem str_of {P:Program} {t:TypeId} (h:stringT P t=true):P.underlying t=some .string:=by
  unfold stringT at h
  split at h
  · assumption
  · cases h
theorem Y.eqStr (hx:ev f x=.string a) (hy:ev f y=.string b) (ht:stringT P t=true):Y P C f ⟨d,.binOp .eql t x y t',ty,pos,af,g⟩ (.bool (a.toList==b.toList)):=fun w _=>by
  simp only [execOp,hx,hy,Sem.run_bind,eqGuard,Result.andThen_ok]
  simp [binOp,Op.stringOp]
theorem Y.neStr (hx:ev f x=.string a) (hy:ev f y=.string b) (ht:stringT P t=true):Y P C f ⟨d,.binOp .neq t x y t',ty,pos,af,g⟩ (.bool (!(a.toList==b.toList))):=fun w _=>by
  simp only [execOp,hx,hy,Sem.run_bind,eqGuard,Result.andThen_ok]
  simp [binOp,Op.stringOp]
end
end
section
open Go.RowKit
theorem app_int64:AppT Tryz.prog 46 2 (.int .i64 0) 1 8:=⟨by kernel_rfl,by kernel_rfl,rfl,by decide⟩
theorem app_impl_Port:AppT Tryz.prog 47 61 (.agg #[.int .i64 0,.int .i64 0]) 2 16:=⟨by kernel_rfl,by kernel_rfl,rfl,by decide⟩
theorem app_impl_Agent:AppT Tryz.prog 27 49 (.agg #[.int .i64 0,.int .i64 0,.int .i64 0,.slice none 0 0,.slice none 0 0]) 5 72:=⟨by kernel_rfl,by kernel_rfl,rfl,by decide⟩
end
section
open Go.RowKit Go.Maps
def getB (s:ByteArray) (i:Int):Option Int:=if 0≤i then (s[i.toNat]?).map fun b=>(b.toNat:Int) else none
section
variable {P : Program} {C : World → Prop} {f : Nat → Value} {d : Option Tmp} {ty : TypeId} {pos : String} {af : Array Edge} {g : Option (Nat × Bool)} {x y : Operand} {t : TypeId} {a : ByteArray} {i b : Int}
theorem Y.idxStr (hx:ev f x=.string a) (hy:ev f y=.int .i64 i) (ht:stringT P t=true) (hb:getB a i=some b):Y P C f ⟨d,.index t x y,ty,pos,af,g⟩ (.int .u8 b):=fun w _=>by
  have hu:=str_of ht
  unfold getB at hb
  by_cases h0:0≤i
  · rw [if_pos h0] at hb
    obtain ⟨c,hc,rfl⟩:=Option.map_eq_some_iff.1 hb
    simp [execOp,hx,hy,Instr.index,asIntOf,run_underlying hu,h0,hc]
  · rw [if_neg h0] at hb
    cases hb
end
theorem app_string:AppT Tryz.prog 44 9 (.string ByteArray.empty) 1 16:=⟨by kernel_rfl,by kernel_rfl,rfl,by decide⟩
end
section
open Go.RowKit
/-- Only the rows of v1 and v2 may have turned, of what was there. -/
structure KeepV (v1 v2:Value) (w w':World):Prop where
  size:w.heap.size≤w'.heap.size
  block :∀b,b < w.heap.size→v1.ownBlock ≠ some b→v2.ownBlock ≠ some b→w'.heap[b]? = w.heap[b]?
section
variable {v1 v2 v : Value} {w w' w2 : World} {b : Nat}
theorem KeepV.refl (v1 v2:Value) (w:World):KeepV v1 v2 w w:=⟨Nat.le_refl _,fun _ _ _ _=>rfl⟩
theorem KeepV.below (K:KeepV v1 v2 w w') (hb:Below w'.heap.size w' w2):KeepV v1 v2 w w2:=⟨Nat.le_trans K.size hb.size,fun b h1 h2 h3=>(hb.block b (Nat.lt_of_lt_of_le h1 K.size)).trans (K.block b h1 h2 h3)⟩
theorem KeepV.far (K:KeepV v1 v2 w w') (ho:Only [b] w' w2) (hg:w.heap.size≤b):KeepV v1 v2 w w2:=⟨Nat.le_trans K.size (Nat.le_of_eq ho.size.symm),fun k h1 h2 h3=>(ho.block k (by simp; omega)).trans (K.block k h1 h2 h3)⟩
theorem KeepV.only1 (K:KeepV v1 v2 w w') (ho:Only [b] w' w2) (e:v1.ownBlock=some b):KeepV v1 v2 w w2:=⟨Nat.le_trans K.size (Nat.le_of_eq ho.size.symm),fun k h1 h2 h3=>(ho.block k (by intro hin; simp at hin; subst hin; exact h2 e)).trans (K.block k h1 h2 h3)⟩
theorem Blk.keepV {t:TypeId} {cs:Array Value} (h:Blk w b t cs) (K:KeepV v1 v2 w w') (h1:v1.ownBlock ≠ some b) (h2:v2.ownBlock ≠ some b):Blk w' b t cs:=(K.block b h.lt h1 h2).trans h
end
section
variable {α : Type} {enc : α → List Value} {O : Ow α} {sz lo : Nat} {v v1 v2 : Value} {xs : List α} {w w' : World} {e : TypeId} {bs : List Nat}
theorem OwF.keepV (h:OwF e enc sz w lo v xs) (K:KeepV v1 v2 w w') (d1:Dj v v1) (d2:Dj v v2):OwF e enc sz w' lo v xs:=by
  refine ⟨h.1,?_⟩
  rcases h.2 with h2|⟨g,cap,cur,hv,hg,hh,r⟩
  · exact .inl h2
  · have hb:v.ownBlock=some g:=by rw [hv]; rfl
    exact .inr ⟨g,cap,cur,hv,hg,(K.block g (h.lt g hb).2 (d1 g hb) (d2 g hb)).trans hh,r⟩
theorem OwN.keepV (ok:OwOk O sz) (h:OwN e O sz w lo v xs bs) (K:KeepV v1 v2 w w') (d1:Ap bs (fb v1)) (d2:Ap bs (fb v2)):OwN e O sz w' lo v xs bs:=
  h.keep ok (fun b hb=>K.block b (h.hi b hb) (fun e=>d1 b hb (mem_fb.2 e)) (fun e=>d2 b hb (mem_fb.2 e))) K.size
end
theorem OwM.keepV {κ β:Type} {P:Program} {k:TypeId} {lit:κ→Lit} {enc:β→Value} {lo b:Nat} {m:MapM κ β} {v1 v2:Value} {w w':World} (h:OwM P k lit enc w lo b m) (K:KeepV v1 v2 w w') (h1:v1.ownBlock ≠ some b) (h2:v2.ownBlock ≠ some b):OwM P k lit enc w' lo b m:=h.keep (K.block b h.lt h1 h2)
section
variable {P : Program} {C : World → Prop} {f : Nat → Value} {d : Option Tmp} {ty : TypeId} {pos : String} {af : Array Edge} {g : Option (Nat × Bool)} {x y : Operand} {t t' : TypeId} {m c : Int}
theorem Y.quo (hx:ev f x=.int .i64 m) (hy:ev f y=.int .i64 c) (hc:c ≠ 0) (hr:-9223372036854775808≤m.tdiv c∧m.tdiv c≤9223372036854775807):Y P C f ⟨d,.binOp .quo t x y t',ty,pos,af,g⟩ (.int .i64 (m.tdiv c)):=fun w _=>by
  simp only [execOp,hx,hy,Sem.run_bind,eqGuard_int,Result.andThen_ok]
  simp [binOp,Op.intDiv,hc,wrap_ok hr]
theorem Y.rem (hx:ev f x=.int .i64 m) (hy:ev f y=.int .i64 c) (hc:c ≠ 0):Y P C f ⟨d,.binOp .rem t x y t',ty,pos,af,g⟩ (.int .i64 (m.tmod c)):=fun w _=>by
  simp only [execOp,hx,hy,Sem.run_bind,eqGuard_int,Result.andThen_ok]
  simp [binOp,Op.intDiv,hc]
end
end
section
open Go.RowKit
def u8Rd:Rd Int:=fun _ _ cs n=>cs=[.int .u8 n]
def u8Ow:Ow Int:=fun _ cs n bs=>cs=[.int .u8 n]∧bs=[]
def encU (x:Int):List Value:=[.int .u8 x]
theorem fU:FlatT u8Rd u8Ow encU 1:=⟨by decide,fun _=>rfl,Iff.rfl,⟨rfl,rfl⟩,fun x v hv=>by simp [encU] at hv; subst hv; rfl⟩
theorem app_uint8:AppT Tryz.prog 63 5 (.int .u8 0) 1 1:=⟨by kernel_rfl,by kernel_rfl,rfl,by decide⟩
/-- An integer as a byte. -/
def u8w (n:Int):Int:=IntKind.u8.wrap n
/-- A string's bytes as numbers. -/
def nums (s:ByteArray):List Int:=s.data.toList.map fun b=>(b.toNat:Int)
/-- The string of some numbers. -/
def ofNums (xs:List Int):ByteArray:=strOfNums xs
theorem nums_length (s:ByteArray):(nums s).length=s.size:=by
  rw [nums,List.length_map,Array.length_toList]; rfl
theorem nums_cells (s:ByteArray):(nums s).flatMap encU=Lib.strCells s:=by
  unfold nums Lib.strCells
  induction s.data.toList with
  |nil=>rfl
  |cons b l ih=>simp only [List.map_cons,List.flatMap_cons,ih]; rfl
/-- Two strings put together. -/
def catS (a b:ByteArray):Option ByteArray:=if a.size+b.size≤9223372036854775807 then some (a ++ b) else none
/-- The negative of a number. -/
def negI (n:Int):Option Int:=if -9223372036854775807≤n∧n≤9223372036854775807 then some (-n) else none
/-- A part of a string. -/
def subS (s:ByteArray) (i j:Int):Option ByteArray:=if 0≤i∧i≤j∧j≤s.size then some (s.extract i.toNat j.toNat) else none
section
variable {P : Program} {C : World → Prop} {f : Nat → Value} {d : Option Tmp} {ty : TypeId} {pos : String} {af : Array Edge} {g : Option (Nat × Bool)} {x y z : Operand} {t t' : TypeId} {a b s : ByteArray} {i j n : Int}
theorem Y.catS (hx:ev f x=.string a) (hy:ev f y=.string b) (h:catS a b=some s):Y P C f ⟨d,.binOp .add t x y t',ty,pos,af,g⟩ (.string s):=fun w _=>by
  unfold Proofs.YtkfmlehhbanopaaGreatDoor.catS at h
  split at h
  · rename_i hs
    injection h with h
    subst h
    simp only [execOp,hx,hy,Sem.run_bind,eqGuard,Result.andThen_ok]
    have h':¬ (IntKind.i64.max < ((a.size:Int)+(b.size:Int))):=by
      have:IntKind.i64.max=9223372036854775807:=rfl
      omega
    simp [binOp,Op.stringOp,h']
    omega
  · cases h
theorem Y.subS {k k':IntKind} (hx:ev f x=.string a) (hy:ev f y=.int k i) (hz:ev f z=.int k' j) (ht:stringT P t=true) (h:subS a i j=some s):Y P C f ⟨d,.slice t x (some y) (some z) none,ty,pos,af,g⟩ (.string s):=fun w _=>by
  unfold Proofs.YtkfmlehhbanopaaGreatDoor.subS at h
  split at h
  · rename_i hs
    injection h with h
    subst h
    have:=run_slice_string (P:=P) (w:=w) t a k k' i j (str_of ht) hs.1 hs.2.1 hs.2.2
    simp [execOp,hx,hy,hz,Instr.sliceAt,run_underlying (str_of ht),this]
  · cases h
theorem Y.neg {m:Int} (hx:ev f x=.int .i64 n) (h:negI n=some m):Y P C f ⟨d,.unOp .neg t x,ty,pos,af,g⟩ (.int .i64 m):=fun w _=>by
  unfold negI at h
  split at h
  · rename_i hb
    injection h with h
    subst h
    have h0:IntKind.i64.wrap (0 - n)=0 - n:=wrap_ok ⟨by omega,by omega⟩
    rw [Int.zero_sub] at h0
    simp [execOp,hx,Op.unary,Op.intArith,h0]
  · cases h
theorem Y.toU8 (hx:ev f x=.int .i64 n) (hs:P.underlying t=some (.int .i64)) (hd:P.underlying t'=some (.int .u8)):Y P C f ⟨d,.convert t t' x,ty,pos,af,g⟩ (.int .u8 (u8w n)):=fun w _=>by
  simp [execOp,hx,convert,run_underlying hs,run_underlying hd,Conv.intToInt,u8w]
theorem run_b2s {P:Program} {w:World} {e:TypeId} {lo:Nat} {v:Value} {xs:List Int} (hs:P.underlying t=some (.slice e)) (he:P.underlying e=some (.int .u8)) (hd:P.underlying t'=some .string) (h:OwF e encU 1 w lo v xs) :
    (convert t t' v).run P w=.ok (.string (ofNums xs)) w:=by
  obtain ⟨A,n,c,rfl,hl,_⟩:=h.rdS fU
  cases A with
  |none=>
    have h0:xs=[]:=by
      have hn:=hl.len
      cases xs with
      |nil=>rfl
      |cons y0 ys=>obtain ⟨b,o,e0,_⟩:=hl.addr (by simp at hn; omega); cases e0
    subst h0
    rw [run_convert_bytes_nil w t e hs he n c t' hd]
    rfl
  |some ad=>
    have hn:=hl.len
    by_cases h0:0 < xs.length
    · obtain ⟨b,o,e0,_⟩:=hl.addr (by omega)
      injection e0 with e0
      subst e0
      refine run_convert_bytes_arg w t e hs he b o n c xs hn.symm (fun i hi=>?_) t' hd
      have hi':i < xs.length:=by omega
      have:=hl.flat fU i (.int .u8 xs[i]) (by
        have:=FlatT.fget fU (xs:=xs) (i:=i) (j:=0) (x:=xs[i]) (u:=.int .u8 xs[i]) (by simp) rfl
        simpa using this)
      simpa [List.getD,List.getElem?_eq_getElem hi'] using this
    · have h1:xs=[]:=List.eq_nil_of_length_eq_zero (by omega)
      subst h1
      have hn0:n=0:=by simpa using hn
      subst hn0
      rw [run_convert_bytes_string w t t' e _ _ _ hs he hd]
      simp [Conv.bytesToString,loadCells,loadCellsFrom]
      rfl
theorem Y.b2s {e:TypeId} {lo:Nat} {v:Value} {xs:List Int} (hx:ev f x=v) (hs:P.underlying t=some (.slice e)) (he:P.underlying e=some (.int .u8)) (hd:P.underlying t'=some .string) (h :∀w,C w→OwF e encU 1 w lo v xs) :
    Y P C f ⟨d,.convert t t' x,ty,pos,af,g⟩ (.string (ofNums xs)):=fun w hw=>by
  subst hx
  simp [execOp,run_b2s hs he hd (h w hw)]
end
section
variable {P : Program} {t u e : TypeId} {w : World} {base : Nat}
theorem append_str2 (ht:P.underlying t=some (.slice e)) (hu:P.underlying u=some .string) (hinf:(P.info? e).map (fun i=>(i.zero,i.size,i.bytes))=some (some (.int .u8 0),1,1)) {v:Value} {k:Nat} {xs:List Value} (hown:w.ownsRow base e 1 v k xs) (hb:base≤w.heap.size) (s:ByteArray) (hk:k+s.size≤4294967296) (ty:TypeId) :
    ∃v' w',(Builtin.append_ #[t,u] ty #[v,.string s]).run P w=.ok v' w'∧w'.ownsRow base e 1 v' (k+s.size) (xs ++ Lib.strCells s)∧w.grownBy w' v.ownBlock∧(∀b,v'.ownBlock=some b→v.ownBlock=some b ∨ w.heap.size≤b):=by
  obtain ⟨i0,hi,hz0,hz1,hz2⟩:=info_parts hinf
  obtain ⟨v',w',hr,h2,h3,_⟩:=Lib.run_append_own_string (P:=P) w base t u ty e i0 ht hu hi hz0 hz1 hz2 v k xs hown s (by unfold maxLen; omega) (by omega) hb
  refine ⟨v',w',hr,h2,h3,?_⟩
  rcases hown.2 with ⟨rfl,rfl⟩|⟨g,cap,cur,rfl,hbg,hg,hnc,hcm,hcs,htake⟩
  · by_cases hm:s.size=0
    · have hf:=Lib.run_firstCells_string (P:=P) w 1 s
      rw [hm] at hf
      have hr2:(Builtin.append_ #[t,u] ty #[.slice none 0 0,.string s]).run P w=.ok (.slice none 0 0) w:=by
        simp [Builtin.append_,run_underlying ht,run_underlying hu,sizeOf,typeInfo,hi,hz1,Builtin.lenOf,hm,hf]
      rw [hr2] at hr
      injection hr with e1 e2
      subst e1
      intro b hbk; simp [Value.ownBlock] at hbk
    · have hr2:=run_append_nil_string (P:=P) w t u ty e i0 (.int .u8 0) ht hu hi hz0 s (by omega) (by omega) (by rw [hz2]; omega)
      rw [hr2] at hr
      injection hr with e1 e2
      subst e1
      intro b hbk
      simp [Value.ownBlock] at hbk
      exact .inr (by omega)
  · by_cases hroom:k+s.size≤cap
    · have hr2:=Lib.run_append_room_string (P:=P) w t u ty e i0 ht hu hi hz1 g k cap cur hg s hroom (by omega)
      rw [hr2] at hr
      injection hr with e1 e2
      subst e1
      intro b hbk
      exact .inl hbk
    · have holds :∀j u,xs[j]? = some u→w.cell? ((⟨g,0,none⟩:Addr).add j)=some u:=hown.cells (g:=g) rfl
      have hr2:=Lib.run_append_grow_string (P:=P) w t u ty e i0 (.int .u8 0) ht hu hi hz0 ⟨g,0,none⟩ k cap xs (by rw [hz1]; exact hown.1) holds s (by omega) (by omega) (by rw [hz2]; exact growslice_fits (by omega) (by omega))
      rw [hr2] at hr
      injection hr with e1 e2
      subst e1
      intro b hbk
      simp [Value.ownBlock] at hbk
      exact .inr (by omega)
end
section
variable {P : Program} {ops : Array Oper} {f : Nat → Value} {rest : List Oper} {Q : (Nat → Value) → World → Prop} {w : World} {d : Option Tmp} {ty : TypeId} {pos : String} {af : Array Edge} {g : Option (Nat × Bool)} {x y : Operand} {t u e : TypeId}
theorem RL.appendS {v:Value} {xs:List Int} {s:ByteArray} {lo:Nat} (A:AppT P t e (.int .u8 0) 1 1) (hu:P.underlying u=some .string) (hg:wantF f ops ⟨d,.call ⟨.builtin .append,#[x,y],#[t,u]⟩,ty,pos,af,g⟩=true)
    (hx:ev f x=v) (hy:ev f y=.string s) (hv:OwF e encU 1 w lo v xs) (hlo:lo≤w.heap.size) (hk:xs.length+s.size≤4294967296)
    (h :∀v' w1,OwF e encU 1 w1 lo v' (xs ++ nums s)→w.grownBy w1 v.ownBlock→Below lo w w1→(∀b,v'.ownBlock=some b→v.ownBlock=some b ∨ w.heap.size≤b)→RL P ops Q rest (upo f d v') w1):RL P ops Q (⟨d,.call ⟨.builtin .append,#[x,y],#[t,u]⟩,ty,pos,af,g⟩ :: rest) f w:=by
  obtain ⟨v',w1,h0,h1,h2,h3⟩:=append_str2 A.und hu A.info hv hlo s hk ty
  have hrun:(execOp (ev f) ⟨d,.call ⟨.builtin .append,#[x,y],#[t,u]⟩,ty,pos,af,g⟩).run P w=.ok (.value v') w1:=by
    simp [execOp,resolve,invoke,builtin,hx,hy,h0]
  refine .inl ⟨hg,?_⟩
  rw [hrun]
  refine h v' w1 ?_ h2 ?_ h3
  · unfold OwF
    rw [List.length_append,List.flatMap_append,nums_length,nums_cells]
    exact h1
  · exact (Below.refl lo w).grown h2 hlo (fun b hb=>(hv.lt b hb).1)
end
end
section
open Go.RowKit Go.Sort
/-- The package variables that the walks read. -/
structure WD (w:World):Prop where
  kinds:KindsAt w
  tab:Lib.TabIs Tryz.prog w "internal/strconv.uint64pow10" .u64 Lib.pow10Tab
  mx :∃m,w.cell? ⟨1,0,none⟩=some (.int .i64 m)
theorem WD.below {w w':World} (h:WD w) (hb:Below w.heap.size w w'):WD w':=by
  refine ⟨h.kinds.below hb,?_,?_⟩
  · have h1:=h.tab
    unfold Lib.TabIs World.var? at h1 ⊢
    cases hg:Tryz.prog.globalNamed "internal/strconv.uint64pow10" with
    |none=>rw [hg] at h1; cases h1
    |some g=>
      rw [hg] at h1
      simp only [Option.bind_some] at h1 ⊢
      by_cases hl:g < w.heap.size
      · rw [hb.block g hl]; exact h1
      · rw [Array.getElem?_eq_none (by omega)] at h1
        cases h1
  · obtain ⟨m,hm⟩:=h.mx
    exact ⟨m,by rw [hb.cell (World.block_lt_of_cell? w _ hm)]; exact hm⟩
theorem Below.dn {a b:Nat} {w w':World} (h:Below b w w') (hab:a≤b):Below a w w':=⟨h.os,h.tape,h.output,h.size,fun k hk=>h.block k (by omega)⟩
theorem blkLt {g b:Nat} {w w':World} {t:TypeId} {cs:Array Value} (h:Blk w g t cs) (hb:Below b w w') (hl:g < b):Blk w' g t cs:=(hb.block g hl).trans h
def itoaB (n:Int):ByteArray:=⟨(Lib.itoa n).toArray⟩
def decM (n:Int):Option ByteArray:=if -9223372036854775808≤n∧n≤9223372036854775807 then some (itoaB n) else none
def fmtM (n b:Int):Option ByteArray:=if b=10 then decM n else none
theorem c_fmtM (n b:Int) (r:ByteArray) (hm:fmtM n b=some r) (w:World) (hW:WD w):Calls Tryz.prog 105 #[.int .i64 n,.int .i64 b] w fun e w'=>e=.returned (.string r)∧Below w.heap.size w w':=by
  unfold fmtM at hm
  split at hm
  · rename_i hb
    subst hb
    unfold decM at hm
    split at hm
    · rename_i hn
      injection hm with hm
      subst hm
      refine (lib_FormatInt_10 n hn.1 hn.2 w hW.tab).mono ?_
      rintro e w' ⟨rfl,k,os,rfl⟩
      refine ⟨rfl,?_⟩
      exact ⟨rfl,rfl,rfl,by simp [grow,World.drewN],fun j hj=>by
        show (w.heap ++ os)[j]? = w.heap[j]?
        exact Array.getElem?_append_left hj⟩
    · cases hm
  · cases hm
def joinB (xs:List ByteArray) (sep:ByteArray):ByteArray:=⟨(Lib.join (xs.map (·.data.toList)) sep.data.toList).toArray⟩
def joinM (xs:List ByteArray) (sep:ByteArray):Option ByteArray:=if xs.length≤140737488355328∧(joinB xs sep).size≤140737488355328 then some (joinB xs sep) else none
theorem c_joinM (xs:List ByteArray) (sep:ByteArray) (r:ByteArray) (hm:joinM xs sep=some r) (v:Value) (w:World) (hv:Sl strRd 1 w v xs):Calls Tryz.prog 39 #[v,.string sep] w fun e w'=>e=.returned (.string r)∧Below w.heap.size w w':=by
  unfold joinM at hm
  split at hm
  · rename_i hs
    injection hm with hm
    subst hm
    obtain ⟨A,n,c,rfl,hl,hnc,_⟩:=hv
    have hn:=hl.len
    by_cases h0:0 < xs.length
    · obtain ⟨b,o,e0,hb⟩:=hl.addr (by omega)
      subst e0
      subst hn
      refine (lib_Join b o c xs sep w (fun j x hx=>?_) ?_ hs.1 hnc (by simpa [joinB,ByteArray.size] using hs.2)).mono ?_
      · have:=hl.flat fS j (.string x) (by
          have:=FlatT.fget fS (j:=0) (u:=.string x) hx rfl
          simpa using this)
        exact this
      · obtain ⟨x,hx⟩ :∃x,xs[0]? = some x:=⟨_,List.getElem?_eq_getElem h0⟩
        have:=hl.flat fS 0 (.string x) (by
          have:=FlatT.fget fS (j:=0) (u:=.string x) hx rfl
          simpa using this)
        exact World.block_lt_of_cell? w _ this
      · rintro e w' ⟨rfl,hb'⟩
        exact ⟨rfl,hb'⟩
    · have h1:xs=[]:=List.eq_nil_of_length_eq_zero (by omega)
      subst h1
      have hn0:n=0:=by simpa using hn
      subst hn0
      refine (lib_Join_none A c sep w).mono ?_
      rintro e w' ⟨rfl,rfl⟩
      exact ⟨by simp [joinB,Lib.join],Below.refl _ _⟩
  · cases hm
def replB (s old new:ByteArray):ByteArray:=⟨(Lib.replaceAll s.data.toList old.data.toList new.data.toList).toArray⟩
def replM (s old new:ByteArray):Option ByteArray:=if s.size < 4294967281∧1≤old.size∧s.size+Lib.countB s old * new.size≤140737488355328 then some (replB s old new) else none
theorem c_replM (s old new:ByteArray) (r:ByteArray) (hm:replM s old new=some r) (w:World) (hW:WD w):Calls Tryz.prog 73 #[.string s,.string old,.string new] w fun e w'=>e=.returned (.string r)∧Below w.heap.size w w':=by
  unfold replM at hm
  split at hm
  · rename_i hs
    injection hm with hm
    subst hm
    obtain ⟨m,hmx⟩:=hW.mx
    exact lib_ReplaceAll s old new m w hs.1 hmx hs.2.1 hs.2.2
  · cases hm
theorem c_bldString {b:Nat} {s:ByteArray} {w:World} (h:OwB w b s):Calls Tryz.prog 75 #[.pointer (some ⟨b,0,none⟩)] w fun e w'=>e=.returned (.string s)∧Below b w w':=by
  have h1:=h.isB
  have h2:Lib.strCells s=Lib.byteCells s.data.toList:=Lib.strCells_eq s
  rw [h2] at h1
  refine (lib_String b b s.data.toList w h1 (Nat.le_of_lt h.lt)).mono ?_
  rintro e w' ⟨rfl,hb⟩
  exact ⟨by simp,hb⟩
section
variable {ops : Array Oper} {f : Nat → Value} {rest : List Oper} {Q : (Nat → Value) → World → Prop} {w : World} {d : Option Tmp} {ty : TypeId} {pos : String} {af : Array Edge} {g : Option (Nat × Bool)}
theorem RL.bldNew (hg:wantF f ops ⟨d,.alloc 98,ty,pos,af,g⟩=true)
    (h :∀w1,OwB w1 w.heap.size (ByteArray.mk #[])→Below w.heap.size w w1→w1.heap.size=w.heap.size+1→RL Tryz.prog ops Q rest (upo f d (.pointer (some ⟨w.heap.size,0,none⟩))) w1):RL Tryz.prog ops Q (⟨d,.alloc 98,ty,pos,af,g⟩ :: rest) f w:=by
  refine RL.alloc (z:=.agg #[.pointer none,.slice none 0 0]) hg (by kernel_rfl) (fun w1 hB hb hs=>h w1 ?_ hb hs)
  exact ⟨_,_,hB,.inl rfl,World.ownsRow_nil _ _ _ _⟩
end
end
section
open Go.ChangeShapes Go.WideShapes Go.ChangeAt Go.RowKit Go.WideElems Go.WideMaps
theorem own:ownKnob Tryz.prog.godebug=none:=by kernel_rfl
theorem laidOut:laidOutB Tryz.prog=true:=by kernel_rfl
abbrev kN:String:= "loop.example/g01074/impl.kindNames"
abbrev pN:String:= "internal/strconv.uint64pow10"
theorem gN:Tryz.prog.globalNamed kN=some 0:=by kernel_rfl
theorem tN:(Tryz.prog.globals[0]?).map (·.type)=some 112:=by kernel_rfl
theorem gP:Tryz.prog.globalNamed pN=some 6:=by kernel_rfl
theorem tP:(Tryz.prog.globals[6]?).map (·.type)=some 164:=by kernel_rfl
/-- What a listed variable reads as. -/
theorem laid_mem {P:Program} {w:World} {n:String} {d:DataW Unit} :∀{l:List (String × DataW Unit)} {ps:List MemPlace},DataW.LaidVars P w l ps→(n,d)∈l→
    ∃g t cs fuel p,P.globalNamed n=some g∧(P.globals[g]?).map (·.type)=some t∧w.var? P n=some cs∧DataW.trod (fun _=>()) P w 0 (fun _=>true) false fuel t cs.toList=some (d,p)
  |[],_,_,h=>by cases h
  |(n',d') :: r,ps,⟨g,t,cs,fuel,p,q,h1,h2,h3,h4,h5,_⟩,h=>by
    rcases List.mem_cons.1 h with e|h
    · cases e
      exact ⟨g,t,cs,fuel,p,h1,h2,h3,h4⟩
    · exact laid_mem h5 h
set_option maxRecDepth 100000 in
set_option maxHeartbeats 1000000 in
theorem kinds_of_laid {W:World} {l:List (String × DataW Unit)} {ps:List MemPlace} (h:DataW.LaidVars Tryz.prog W l ps) (hk:(kN,Rows.laid_loop_example_g01074_impl_kindNames)∈l):KindsAt W:=by
  obtain ⟨g0,t0,cs0,f0,p0,hg0,ht0,hv0,hd0⟩:=laid_mem h hk
  obtain rfl:=Option.some.inj (gN.symm.trans hg0)
  obtain rfl:=Option.some.inj (tN.symm.trans ht0)
  obtain ⟨xs,m1,rfl,hx1,hlen,hn,hel⟩:=DataW.trod_array Tryz.underlying112 hd0
  have c1:Tryz.prog.cellsOf 9=1:=by kernel_rfl
  intro j hj
  have hj':=hel j hj
  rw [c1,Nat.mul_one] at hj'
  have hx:=List.getElem?_eq_getElem (show j < xs.length by omega)
  rw [hx] at hj'
  obtain ⟨s,e1,e2,_⟩:=DataW.trod_string Tryz.underlying9 hj'
  have hc:=World.var?_cell hg0 hv0 j
  have hd:(cs0.toList.drop j)[0]? = some (.string s):=by
    cases hq:cs0.toList.drop j with
    |nil=>rw [hq] at e1; simp at e1
    |cons a r=>rw [hq] at e1; simp at e1; simp [e1]
  rw [List.getElem?_drop,Nat.add_zero,Array.getElem?_toList] at hd
  rw [hc,hd]
  have hA:(xs.map (·.1))[j]? = some (.lit (.string s.data.toList)):=by rw [List.getElem?_map,hx,e2]; rfl
  have hB:DataW.agg (xs.map (·.1))=(Rows.laid_loop_example_g01074_impl_kindNames:DataW Unit):=by
    simp only [Prod.mk.injEq] at hx1
    exact hx1.1.symm
  unfold Rows.laid_loop_example_g01074_impl_kindNames at hB
  injection hB with hB
  rw [hB] at hA
  have hs:s.data.toList=(kindName ((j:Int)+1)).data.toList:=by
    have hk:j=0 ∨ j=1 ∨ j=2 ∨ j=3 ∨ j=4 ∨ j=5 ∨ j=6 ∨ j=7 ∨ j=8 ∨ j=9 ∨ j=10 ∨ j=11:=by omega
    rcases hk with rfl|rfl|rfl|rfl|rfl|rfl|rfl|rfl|rfl|rfl|rfl|rfl
    all_goals
      simp only [List.getElem?_cons_succ,List.getElem?_cons_zero,Option.some.injEq,DataW.lit.injEq,Lit.string.injEq] at hA
      rw [← hA]
      rfl
  rw [bytes_inj hs]
theorem tab_of_laid {W:World} {l:List (String × DataW Unit)} {ps:List MemPlace} (h:DataW.LaidVars Tryz.prog W l ps) (hk:(pN,Rows.laid_internal_strconv_uint64pow10)∈l):Lib.TabIs Tryz.prog W pN .u64 Lib.pow10Tab:=by
  obtain ⟨g',t',cs,fuel,p,hg',ht',hvar,hd⟩:=laid_mem h hk
  obtain rfl:=Option.some.inj (gP.symm.trans hg')
  obtain rfl:=Option.some.inj (tP.symm.trans ht')
  have e:(Rows.laid_internal_strconv_uint64pow10:DataW Unit)=Lib.tabData .u64 Lib.pow10Tab:=by rfl
  rw [e] at hd
  unfold Lib.TabIs
  rw [hvar,← Lib.cells_of_tab Tryz.underlying164 Tryz.underlying139 (by kernel_rfl) (by kernel_rfl) hd]
theorem wd_of {W:World} {l:List (String × DataW Unit)} (hp:(l.all fun x=>x.2.handleName?.isNone)=true) (hk:(kN,Rows.laid_loop_example_g01074_impl_kindNames)∈l) (ht:(pN,Rows.laid_internal_strconv_uint64pow10)∈l) (h:laidMetH Tryz.prog l W) (hs:W.ShapedOpen Tryz.prog):WD W:=by
  rw [MakeChecks.laidMetH_plain _ _ _ hp] at h
  obtain ⟨ps,hl,_⟩:=h
  exact ⟨kinds_of_laid hl hk,tab_of_laid hl ht,cell_of_shapedOpen_int (g:=1) (t:=3) (zero:=#[.int .i64 0]) hs (of_decide_eq_true (by kernel_rfl)) (by kernel_rfl) rfl (by kernel_rfl) (by kernel_rfl) Tryz.underlying3⟩
section
variable {H : Type} {enc : TypeId × Value → H}
theorem trodAll_stays {W W':World} {sp:Nat→Bool} (hb:Below W.heap.size W W') :∀(ts:List TypeId) (vs:List Value) (ds:List (DataW H)) (ps:List MemPlace),
    (∀t∈ts,Tryz.prog.readableRec t=true∧t < Tryz.prog.types.size)→DataW.TrodAll enc Tryz.prog W 0 (fun _=>true) true ts vs ds ps→
    (∀x∈ps,x.block < W.heap.size)→(∀x∈ps,sp x.block=true)→DataW.TrodAll enc Tryz.prog W' 0 sp true ts vs ds ps
  |[],[],[],ps,_,h,_,_=>h
  |t :: ts,v :: vs,d :: ds,ps,hts,h,hlt,hsp=>by
    obtain ⟨p,q,h1,h2,rfl⟩:=h
    have ht:=hts t (by simp)
    exact ⟨p,q,Trod_stays laidOut ht.1 ht.2 h1 (fun x hx=>hb.same (hlt x (by simp [hx]))) (fun x hx=>hsp x (by simp [hx])),
      trodAll_stays hb ts vs ds q (fun t' h'=>hts t' (by simp [h'])) h2 (fun x hx=>hlt x (by simp [hx])) (fun x hx=>hsp x (by simp [hx])),rfl⟩
  |[],_ :: _,_,_,_,h,_,_=>h.elim
  |[],[],_ :: _,_,_,h,_,_=>h.elim
  |_ :: _,[],_,_,_,h,_,_=>h.elim
  |_ :: _,_ :: _,[],_,_,h,_,_=>h.elim
theorem trodVars_stays {W W':World} {sp:Nat→Bool} (hb:Below W.heap.size W W') {gs:List (DataW H)} {q:List MemPlace} (h:DataW.TrodVars enc Tryz.prog W (fun _=>true) [kN] gs q)
    (hlt :∀x∈q,x.block < W.heap.size) (hsp :∀x∈q,sp x.block=true):DataW.TrodVars enc Tryz.prog W' sp [kN] gs q:=by
  obtain ⟨g,t,cs,fuel,d,p,rfl,hg,ht,hv,hd,rfl⟩:=trodVars_one h
  obtain rfl:=Option.some.inj (gN.symm.trans hg)
  obtain rfl:=Option.some.inj (tN.symm.trans ht)
  refine trodVars_mk1 hg ht ?_ (DataW.trod_stays (kids_book laidOut (by kernel_rfl)) (book_sized (by kernel_rfl)) (fun h=>by cases h) ⟨by decide +kernel,book_self 112⟩ hd
    (fun x hx=>hb.same (hlt x (by simp [hx]))) (fun x hx=>hsp x (by simp [hx])))
  rw [← hv]
  unfold World.var?
  rw [hg]
  simp only [Option.bind_some]
  have h0:0 < W.heap.size:=by
    by_cases h2:0 < W.heap.size
    · exact h2
    · simp [World.var?,hg,show ¬ (0 < W.heap.size) from h2] at hv
  rw [hb.block 0 h0]
theorem post_lawV {f:Func} {s:ChangeSpec} {W W':World} {args:Array Value} {ds gs:List (DataW H)} {before:List MemPlace}
    (hv:s.vars=[kN]) (hr1:f.resultTypes = #[4])
    (hp0:(f.params.toList.all fun t=>Tryz.prog.readableRec t && decide (t < Tryz.prog.types.size))=true)
    (hres:(s.fn H (ds ++ gs)).results=[.lit (.bool true)]) (hargs:(s.fn H (ds ++ gs)).args=ds) (hvars:(s.fn H (ds ++ gs)).vars=gs)
    (hW:DataW.Whole enc Tryz.prog f.params.toList s.vars false W args.toList ds gs before)
    (hb:Below W.heap.size W W') :
    s.post enc Tryz.prog f false true false false W args (.bool true) W':=by
  have hp :∀t∈f.params.toList,Tryz.prog.readableRec t=true∧t < Tryz.prog.types.size:=fun t ht=>by simpa using List.all_eq_true.1 hp0 t ht
  have hlt :∀p∈before,p.block < W.heap.size:=fun p hp=>hW.lt p hp
  have hold :∀p∈before,(fun b=>decide (b < W.heap.size)) p.block=true:=fun p hp=>by simpa using hlt p hp
  have hWh:=hW
  obtain ⟨p,q,hA,hV,rfl,hfz,_⟩:=hWh
  rw [hv] at hV
  refine ⟨ds,gs,p ++ q,[],p,q,hW,?_,?_,?_,World.keptBut_mono (fun x hx=>⟨hx,?_⟩) (hb.frame (·∈p ++ q)),fun h=>by cases h⟩
  · rw [hres,hr1]
    exact trodAll_cons_mk (shut_bool Tryz.underlying4 _) trodAll_mk0
  · rw [hargs]
    exact trodAll_stays hb _ _ _ _ hp hA (fun x hx=>hlt x (by simp [hx])) (fun x hx=>hold x (by simp [hx]))
  · rw [hvars,hv]
    exact trodVars_stays hb hV (fun x hx=>hlt x (by simp [hx])) (fun x hx=>hold x (by simp [hx]))
  · rw [List.mem_append] at hx
    exact Or.inr hx
/-- A law's wrap that hands its contract the variables' condition and the world's shape. -/
theorem wrap_shaped {C:Checked} {os:Os} {f:FuncId} {fn:Func} {s:ChangeSpec} {conds:List PathCond} {apart fresh handsOn again:Bool} {l:List (String × DataW Unit)}
    (hown:ownKnob C.prog.godebug=none) (started:os.Started) (noInit:C.prog.inits.idxOf? f=none) (hfn:C.prog.funcs[f]? = some fn)
    (witness :∃(w:World) (tape:Tape) (i:Input),w.os=os∧(w.forCall tape i).Shaped C.prog∧i.vars=[]∧Input.okWide C.prog (w.forCall tape i) .any w.heap.size f i∧
      ((s.pre enc C.prog fn conds apart (w.forCall tape i).memory i.args∧laidMetH C.prog l (w.forCall tape i).memory)∧sizedMet enc C.prog fn (OpenSpec.ofChange s) apart (w.forCall tape i).memory i.args)∧({} : Assume).holds C.prog (lone (Frame.enter C.prog f i.args .normal) [] (w.forCall tape i)))
    (contract :∀(W:World) (base:Nat) (args:Array Value) (ds gs:List (DataW H)) (before:List MemPlace),
      (∀(j:Nat) t v,fn.params[j]? = some t→args[j]? = some v→Value.okWide C.prog W .any base t v)→
      DataW.Whole enc C.prog fn.params.toList s.vars apart W args.toList ds gs before→laidMetH C.prog l W→W.ShapedOpen C.prog→
      Calls C.prog f args W fun e W'=>∃v,e=.returned v∧s.post enc C.prog fn apart fresh handsOn again W args v W') :
    ReturnsInHanded {} C os f .any (fun w args=>(s.pre enc C.prog fn conds apart w args∧laidMetH C.prog l w)∧sizedMet enc C.prog fn (OpenSpec.ofChange s) apart w args) (s.post enc C.prog fn apart fresh handsOn again):=by
  refine returnsInHanded_of_calls hown started noInit witness ?_
  intro w tape i _ hsh _ hok hpre _
  obtain ⟨_,_,_,fn',hfn',_,_,_,_,hval⟩:=hok
  obtain rfl:fn'=fn:=Option.some.inj (hfn'.symm.trans hfn)
  obtain ⟨⟨⟨ds,gs,before,hw,_⟩,hx⟩,_⟩:=hpre
  have hw':=DataW.Whole.of_heap (w':=w.forCall tape i) (by rfl) hw
  refine (contract (w.forCall tape i) w.heap.size i.args ds gs before hval hw' (hx.of_heap (by rfl)) hsh).mono fun e W' ⟨v,he,hp⟩=>?_
  subst he
  exact ChangeSpec.post_blind hp
end
end
section
open Go.RowKit Go.Shelf
def laysC174_ren:Go.Shelf.Ren:=⟨fun|174=>86|247=>113|245=>114|287=>126|279=>127|280=>128|281=>129|282=>130|321=>137|322=>138|316=>139|171=>141|205=>140|243=>147|246=>119|283=>131|284=>132|285=>133|286=>134|129=>143|317=>142|318=>144|319=>145|320=>146|337=>148|338=>149|n=>n,fun|9=>9|3=>3|2=>2|75=>100|85=>113|4=>4|167=>138|5=>5|53=>139|175=>140|46=>137|168=>142|37=>63|0=>0|210=>161|21=>21|127=>124|145=>170|143=>168|171=>146|173=>149|212=>164|51=>155|20=>20|213=>165|232=>172|233=>173|80=>104|n=>n,fun|15=>4|16=>5|17=>6|18=>7|19=>8|n=>n⟩
theorem laysC174:Go.Proofs.LaysC.n174 Tryz.prog laysC174_ren:={
  mixed:=by kernel_rfl
  f129:=Tryz.func143.trans (congrArg some (by kernel_rfl))
  f171:=Tryz.func141.trans (congrArg some (by kernel_rfl))
  f174:=Tryz.func86.trans (congrArg some (by kernel_rfl))
  f205:=Tryz.func140.trans (congrArg some (by kernel_rfl))
  f243:=Tryz.func147.trans (congrArg some (by kernel_rfl))
  f245:=Tryz.func114.trans (congrArg some (by kernel_rfl))
  f246:=Tryz.func119.trans (congrArg some (by kernel_rfl))
  f247:=Tryz.func113.trans (congrArg some (by kernel_rfl))
  f279:=Tryz.func127.trans (congrArg some (by kernel_rfl))
  f280:=Tryz.func128.trans (congrArg some (by kernel_rfl))
  f281:=Tryz.func129.trans (congrArg some (by kernel_rfl))
  f282:=Tryz.func130.trans (congrArg some (by kernel_rfl))
  f283:=Tryz.func131.trans (congrArg some (by kernel_rfl))
  f284:=Tryz.func132.trans (congrArg some (by kernel_rfl))
  f285:=Tryz.func133.trans (congrArg some (by kernel_rfl))
  f286:=Tryz.func134.trans (congrArg some (by kernel_rfl))
  f287:=Tryz.func126.trans (congrArg some (by kernel_rfl))
  f316:=Tryz.func139.trans (congrArg some (by kernel_rfl))
  f317:=Tryz.func142.trans (congrArg some (by kernel_rfl))
  f318:=Tryz.func144.trans (congrArg some (by kernel_rfl))
  f319:=Tryz.func145.trans (congrArg some (by kernel_rfl))
  f320:=Tryz.func146.trans (congrArg some (by kernel_rfl))
  f321:=Tryz.func137.trans (congrArg some (by kernel_rfl))
  f322:=Tryz.func138.trans (congrArg some (by kernel_rfl))
  f337:=Tryz.func148.trans (congrArg some (by kernel_rfl))
  f338:=Tryz.func149.trans (congrArg some (by kernel_rfl))
  t0:=Tryz.underlying0
  a0:=Tryz.isAgg0
  z0:=Tryz.sizeOf0
  v0:=Tryz.zeroValue0
  t2:=Tryz.underlying2
  a2:=Tryz.isAgg2
  z2:=Tryz.sizeOf2
  v2:=Tryz.zeroValue2
  t3:=Tryz.underlying3
  a3:=Tryz.isAgg3
  z3:=Tryz.sizeOf3
  v3:=Tryz.zeroValue3
  t4:=Tryz.underlying4
  a4:=Tryz.isAgg4
  z4:=Tryz.sizeOf4
  v4:=Tryz.zeroValue4
  t5:=Tryz.underlying5
  a5:=Tryz.isAgg5
  z5:=Tryz.sizeOf5
  v5:=Tryz.zeroValue5
  t9:=Tryz.underlying9
  a9:=Tryz.isAgg9
  z9:=Tryz.sizeOf9
  v9:=Tryz.zeroValue9
  t20:=Tryz.underlying20
  a20:=Tryz.isAgg20
  z20:=Tryz.sizeOf20
  v20:=Tryz.zeroValue20
  t21:=Tryz.underlying21
  a21:=Tryz.isAgg21
  z21:=Tryz.sizeOf21
  v21:=Tryz.zeroValue21
  t37:=Tryz.underlying63
  a37:=Tryz.isAgg63
  z37:=Tryz.sizeOf63
  v37:=Tryz.zeroValue63
  t46:=Tryz.underlying137
  a46:=Tryz.isAgg137
  z46:=Tryz.sizeOf137
  v46:=Tryz.zeroValue137
  t51:=Tryz.underlying155
  a51:=Tryz.isAgg155
  z51:=Tryz.sizeOf155
  v51:=Tryz.zeroValue155
  t53:=Tryz.underlying139
  a53:=Tryz.isAgg139
  z53:=Tryz.sizeOf139
  v53:=Tryz.zeroValue139
  t75:=Tryz.underlying100
  a75:=Tryz.isAgg100
  z75:=Tryz.sizeOf100
  v75:=Tryz.zeroValue100
  t85:=Tryz.underlying113
  a85:=Tryz.isAgg113
  z85:=Tryz.sizeOf113
  v85:=Tryz.zeroValue113
  t127:=Tryz.underlying124
  a127:=Tryz.isAgg124
  z127:=Tryz.sizeOf124
  v127:=Tryz.zeroValue124
  t143:=Tryz.underlying168
  a143:=Tryz.isAgg168
  z143:=Tryz.sizeOf168
  v143:=Tryz.zeroValue168
  t145:=Tryz.underlying170
  a145:=Tryz.isAgg170
  z145:=Tryz.sizeOf170
  v145:=Tryz.zeroValue170
  t167:=Tryz.underlying138
  a167:=Tryz.isAgg138
  z167:=Tryz.sizeOf138
  v167:=Tryz.zeroValue138
  t168:=Tryz.underlying142
  a168:=Tryz.isAgg142
  z168:=Tryz.sizeOf142
  v168:=Tryz.zeroValue142
  t171:=Tryz.underlying146
  a171:=Tryz.isAgg146
  z171:=Tryz.sizeOf146
  v171:=Tryz.zeroValue146
  t173:=Tryz.underlying149
  a173:=Tryz.isAgg149
  z173:=Tryz.sizeOf149
  v173:=Tryz.zeroValue149
  t175:=Tryz.underlying140
  a175:=Tryz.isAgg140
  z175:=Tryz.sizeOf140
  v175:=Tryz.zeroValue140
  t210:=Tryz.underlying161
  a210:=Tryz.isAgg161
  z210:=Tryz.sizeOf161
  v210:=Tryz.zeroValue161
  t212:=Tryz.underlying164
  a212:=Tryz.isAgg164
  z212:=Tryz.sizeOf164
  v212:=Tryz.zeroValue164
  t213:=Tryz.underlying165
  a213:=Tryz.isAgg165
  z213:=Tryz.sizeOf165
  t232:=Tryz.underlying172
  a232:=Tryz.isAgg172
  z232:=Tryz.sizeOf172
  v232:=Tryz.zeroValue172
  t233:=Tryz.underlying173
  a233:=Tryz.isAgg173
  z233:=Tryz.sizeOf173
  v233:=Tryz.zeroValue173
  g15:=by kernel_rfl
  g16:=by kernel_rfl
  g17:=by kernel_rfl
  g18:=by kernel_rfl
  g19:=by kernel_rfl
  t80:=Tryz.underlying104
  a80:=Tryz.isAgg104
  z80:=Tryz.sizeOf104
  v80:=Tryz.zeroValue104
  i0:=by kernel_rfl
  i2:=by kernel_rfl
  i3:=by kernel_rfl
  i4:=by kernel_rfl
  i5:=by kernel_rfl
  i9:=by kernel_rfl
  i20:=by kernel_rfl
  i21:=by kernel_rfl
  i37:=by kernel_rfl
  i46:=by kernel_rfl
  i51:=by kernel_rfl
  i53:=by kernel_rfl
  i75:=by kernel_rfl
  i80:=by kernel_rfl
  i85:=by kernel_rfl
  i127:=by kernel_rfl
  i143:=by kernel_rfl
  i145:=by kernel_rfl
  i167:=by kernel_rfl
  i168:=by kernel_rfl
  i171:=by kernel_rfl
  i173:=by kernel_rfl
  i175:=by kernel_rfl
  i210:=by kernel_rfl
  i212:=by kernel_rfl
  i232:=by kernel_rfl
  i233:=by kernel_rfl
  m15:=by kernel_rfl
  m16:=by kernel_rfl
  m17:=by kernel_rfl
  m18:=by kernel_rfl
  m19:=by kernel_rfl
  c0:=by kernel_rfl
  c2:=by kernel_rfl
  c3:=by kernel_rfl
  c4:=by kernel_rfl
  c5:=by kernel_rfl
  c9:=by kernel_rfl
  c20:=by kernel_rfl
  c21:=by kernel_rfl
  c37:=by kernel_rfl
  c46:=by kernel_rfl
  c51:=by kernel_rfl
  c53:=by kernel_rfl
  c75:=by kernel_rfl
  c80:=by kernel_rfl
  c85:=by kernel_rfl
  c127:=by kernel_rfl
  c143:=by kernel_rfl
  c145:=by kernel_rfl
  c167:=by kernel_rfl
  c168:=by kernel_rfl
  c171:=by kernel_rfl
  c173:=by kernel_rfl
  c175:=by kernel_rfl
  c210:=by kernel_rfl
  c212:=by kernel_rfl
  c213:=by kernel_rfl
  c232:=by kernel_rfl
  c233:=by kernel_rfl }
open Go.RowKit in
/-- strconv.ParseInt(s, 10, 64), AT EVERY STRING THAT SPELLS AN int64 ('Lib.parseIntB 64 s.data.toList = .ok v'): v, AND NO ERROR. (LAID: no walk: one application.) -/
theorem lib_ParseInt_10_at64_ok (s:ByteArray) (hmax:s.size≤9223372036854775806) (v:Int) (h:Lib.parseIntB 64 s.data.toList=.ok v) (w:World) :
    Calls Tryz.prog 86 #[.string s,.int .i64 10,.int .i64 64] w fun e w'=>e=.returned (.tuple #[.int .i64 v,.nilIface])∧(w'=w ∨∃t,w'=Lib.bytesWorld w 5 t):=Any.strconv_ParseInt_10_at64_ok laysC174 s hmax v h w
open Go.RowKit in
/-- strconv.ParseInt(s, 10, 64), AT EVERY STRING THAT IS NO DECIMAL NUMERAL: 0, AND AN ERROR THAT IS NOT nil: a *NumError in a new block N: {Func: "ParseInt", Num: s's bytes, Err: what the variable ErrSyntax holds}. Of what was there nothing has turned. (LAID: no walk: one application.) -/
theorem lib_ParseInt_10_at64_bad (s:ByteArray) (hlim:s.size≤281474976710656) (h0 :∀v,Lib.parseIntB 64 s.data.toList ≠ .ok v) (h1:Lib.parseIntB 64 s.data.toList ≠ .range) (ev:Value) (w:World) (hv:w.cell? ⟨4,0,none⟩=some ev) (hev:ev=.nilIface ∨∃te pe,ev=.iface te pe) :
    Calls Tryz.prog 86 #[.string s,.int .i64 10,.int .i64 64] w fun e w'=>∃N,e=.returned (.tuple #[.int .i64 (0),.iface 142 (.pointer (some ⟨N,0,none⟩))])∧w.heap.size≤N∧w'.heap[N]? = some (.cells #[.string ⟨#[80,97,114,115,101,73,110,116]⟩,.string s,ev] 161 (0,0))∧Below w.heap.size w w':=Any.strconv_ParseInt_10_at64_syntax laysC174 s hlim (by revert h0 h1; cases Lib.parseIntB 64 s.data.toList <;> intro h0 h1 <;> first|rfl|exact absurd rfl (h0 _)|exact absurd rfl h1) ev w hv hev
open Go.RowKit in
/-- strconv.ParseInt(s, 10, 64), AT EVERY NUMERAL THAT NO int64 HOLDS: THE GREATEST OR THE LEAST int64, BY THE SIGN ('Lib.intSat 64'), AND AN ERROR THAT IS NOT nil: a *NumError in a new block N: {Func: "ParseInt", Num: s's bytes, Err: what the variable ErrRange holds}. Of what was there nothing has turned. (LAID: no walk: one application.) -/
theorem lib_ParseInt_10_at64_range (s:ByteArray) (hlim:s.size≤281474976710656) (h:Lib.parseIntB 64 s.data.toList=.range) (ev:Value) (w:World) (hv:w.cell? ⟨5,0,none⟩=some ev) (hev:ev=.nilIface ∨∃te pe,ev=.iface te pe) :
    Calls Tryz.prog 86 #[.string s,.int .i64 10,.int .i64 64] w fun e w'=>∃N,e=.returned (.tuple #[.int .i64 (Lib.intSat 64 s.data.toList),.iface 142 (.pointer (some ⟨N,0,none⟩))])∧w.heap.size≤N∧w'.heap[N]? = some (.cells #[.string ⟨#[80,97,114,115,101,73,110,116]⟩,.string s,ev] 161 (0,0))∧Below w.heap.size w w':=Any.strconv_ParseInt_10_at64_range laysC174 s hlim h ev w hv hev
end
section
open Go.RowKit
section
variable {P : Program} {C : World → Prop} {f : Nat → Value} {d : Option Tmp} {ty : TypeId} {pos : String} {af : Array Edge} {g : Option (Nat × Bool)} {x y z : Operand} {t t' : TypeId} {a b s : ByteArray} {i j n m : Int}
theorem Y.subLo {k:IntKind} (hx:ev f x=.string a) (hy:ev f y=.int k i) (ht:stringT P t=true) (h:Proofs.YtkfmlehhbanopaaGreatDoor.subS a i (a.size:Int)=some s):Y P C f ⟨d,.slice t x (some y) none none,ty,pos,af,g⟩ (.string s):=fun w _=>by
  unfold Proofs.YtkfmlehhbanopaaGreatDoor.subS at h
  split at h
  · rename_i hs
    injection h with h
    subst h
    have:=run_slice_string_from_if (P:=P) (w:=w) t a k i (str_of ht)
    rw [if_pos ⟨hs.1,hs.2.1⟩] at this
    simp [execOp,hx,hy,Instr.sliceAt,run_underlying (str_of ht),this]
  · cases h
theorem Y.subHi {k:IntKind} (hx:ev f x=.string a) (hy:ev f y=.int k j) (ht:stringT P t=true) (h:Proofs.YtkfmlehhbanopaaGreatDoor.subS a 0 j=some s):Y P C f ⟨d,.slice t x none (some y) none,ty,pos,af,g⟩ (.string s):=fun w _=>by
  unfold Proofs.YtkfmlehhbanopaaGreatDoor.subS at h
  split at h
  · rename_i hs
    injection h with h
    subst h
    have:=run_slice_string_to_if (P:=P) (w:=w) t a k j (str_of ht)
    rw [if_pos ⟨hs.2.1,hs.2.2⟩] at this
    simp [execOp,hx,hy,Instr.sliceAt,run_underlying (str_of ht),this]
  · cases h
theorem Y.ofU8 (hx:ev f x=.int .u8 n) (hs:P.underlying t=some (.int .u8)) (hd:P.underlying t'=some (.int .i64)) (h:m=n∧-9223372036854775808≤n∧n≤9223372036854775807):Y P C f ⟨d,.convert t t' x,ty,pos,af,g⟩ (.int .i64 m):=fun w _=>by
  obtain ⟨rfl,h1⟩:=h
  have h0:IntKind.i64.wrap m=m:=wrap_ok h1
  simp [execOp,hx,convert,run_underlying hs,run_underlying hd,Conv.intToInt,h0]
end
end
section
open Go.RowKit Go.Sort
/-- The package variables that the walks of reading read. -/
structure WR (w:World):Prop extends WD w where
  es :∃ev,w.cell? ⟨4,0,none⟩=some ev∧(ev=.nilIface ∨∃te pe,ev=.iface te pe)
  er :∃ev,w.cell? ⟨5,0,none⟩=some ev∧(ev=.nilIface ∨∃te pe,ev=.iface te pe)
theorem WR.below {w w':World} (h:WR w) (hb:Below w.heap.size w w'):WR w':=by
  refine ⟨h.toWD.below hb,?_,?_⟩
  · obtain ⟨ev,h1,h2⟩:=h.es
    exact ⟨ev,by rw [hb.cell (World.block_lt_of_cell? w _ h1)]; exact h1,h2⟩
  · obtain ⟨ev,h1,h2⟩:=h.er
    exact ⟨ev,by rw [hb.cell (World.block_lt_of_cell? w _ h1)]; exact h1,h2⟩
/-- strconv.ParseInt(s, 10, 64): the number and whether there is an error. -/
def parseB (s:ByteArray):Int × Bool:=match Lib.parseIntB 64 s.data.toList with
  |.ok v=>(v,false)
  |.range=>(Lib.intSat 64 s.data.toList,true)
  |_=>(0,true)
def parseM (s:ByteArray) (b n:Int):Option (Int × Bool):=if b=10∧n=64∧s.size≤281474976710656 then some (parseB s) else none
theorem c_parseM (s:ByteArray) (b n:Int) (r:Int × Bool) (hm:parseM s b n=some r) (w:World) (hW:WR w) :
    Calls Tryz.prog 86 #[.string s,.int .i64 b,.int .i64 n] w fun e w'=>(∃ev,e=.returned (.tuple #[.int .i64 r.1,ev])∧((ev=.nilIface∧r.2=false) ∨∃t p,ev=.iface t p∧r.2=true))∧Below w.heap.size w w':=by
  unfold parseM at hm
  split at hm
  · rename_i h
    obtain ⟨rfl,rfl,hs⟩:=h
    injection hm with hm
    subst hm
    unfold parseB
    cases hp:Lib.parseIntB 64 s.data.toList with
    |ok v=>
      refine (lib_ParseInt_10_at64_ok s (by omega) v hp w).mono ?_
      rintro e w' ⟨rfl,hw⟩
      refine ⟨⟨_,rfl,.inl ⟨rfl,rfl⟩⟩,?_⟩
      rcases hw with rfl|⟨t,rfl⟩
      · exact Below.refl _ _
      · exact ⟨rfl,rfl,rfl,by rw [Lib.bytesWorld_size]; omega,fun j hj=>Lib.bytesWorld_at_old _ _ _ j hj⟩
    |range=>
      obtain ⟨ev,h1,h2⟩:=hW.er
      refine (lib_ParseInt_10_at64_range s hs hp ev w h1 h2).mono ?_
      rintro e w' ⟨N,rfl,_,_,hb⟩
      exact ⟨⟨_,rfl,.inr ⟨_,_,rfl,rfl⟩⟩,hb⟩
    |_=>
      obtain ⟨ev,h1,h2⟩:=hW.es
      refine (lib_ParseInt_10_at64_bad s hs (fun v=>by rw [hp]; exact fun h=>by cases h) (by rw [hp]; exact fun h=>by cases h) ev w h1 h2).mono ?_
      rintro e w' ⟨N,rfl,_,_,hb⟩
      exact ⟨⟨_,rfl,.inr ⟨_,_,rfl,rfl⟩⟩,hb⟩
  · cases hm
section
variable {P : Program} {C : World → Prop} {f : Nat → Value} {d : Option Tmp} {ty : TypeId} {pos : String} {af : Array Edge} {g : Option (Nat × Bool)} {x y z : Operand} {t t' : TypeId}
def ifaceT (P:Program) (t:TypeId):Bool:=match P.underlying t with|some (.interface ..)=>true|_=>false
theorem Y.neNilI {v:Value} {r:Bool} (hx:ev f x=v) (hy:ev f (.const .nilIface)=.nilIface) (ht:ifaceT P t=true) (h:(v=.nilIface∧r=false) ∨∃t p,v=.iface t p∧r=true):Y P C f ⟨d,.binOp .neq t x (.const .nilIface) t',ty,pos,af,g⟩ (.bool r):=fun w _=>by
  unfold ifaceT at ht
  split at ht
  · rename_i hu
    rcases h with ⟨rfl,rfl⟩|⟨te,pe,rfl,rfl⟩
    · have h :∀d:Nat,(Op.equalIn (d+1) t .nilIface .nilIface).run P w=.ok true w:=fun d=>by simp [Op.equalIn,run_underlying hu]
      have h2:(binOp .neq t .nilIface .nilIface).run P w=.ok (.bool false) w:=by
        simp only [binOp]
        simp [Op.equal,Op.maxDepth,h 9999]
      simp only [execOp,hx,hy,Sem.run_bind]
      simp [eqGuard,h2]
    · have h :∀d:Nat,(Op.equalIn (d+1) t (.iface te pe) .nilIface).run P w=.ok false w:=fun d=>by simp [Op.equalIn,run_underlying hu]
      have h2:(binOp .neq t (.iface te pe) .nilIface).run P w=.ok (.bool true) w:=by
        simp only [binOp]
        simp [Op.equal,Op.maxDepth,h 9999]
      simp only [execOp,hx,hy,Sem.run_bind]
      simp [eqGuard,h2]
  · cases ht
end
def splitB1 (s sep:ByteArray):List ByteArray:=Lib.splitB sep 0 (Lib.countB s sep) s
def splitM (s sep:ByteArray):Option (List ByteArray):=if s.size < 4294967281∧1≤sep.size then some (splitB1 s sep) else none
theorem c_splitM (s sep:ByteArray) (r:List ByteArray) (hm:splitM s sep=some r) (w:World) (hW:WD w) :
    Calls Tryz.prog 23 #[.string s,.string sep] w fun e w'=>(∃(v0:Value),e=.returned (v0)∧OwF 9 encS 1 w' w.heap.size v0 r)∧Below w.heap.size w w':=by
  unfold splitM at hm
  split at hm
  · rename_i h
    injection hm with hm
    subst hm
    obtain ⟨m,hmx⟩:=hW.mx
    refine (lib_Split s sep m w h.1 hmx h.2).mono ?_
    rintro e w' ⟨rfl,rfl⟩
    have hl:(splitB1 s sep).length=Lib.countB s sep+1:=Lib.splitB_all sep h.2 0 _ s rfl
    have hc:Lib.countB s sep≤s.size:=Lib.countB_le sep h.2 _ s (Nat.le_refl _)
    refine ⟨⟨_,rfl,?_⟩,(Below.refl _ _).alloc (Nat.le_refl _) _⟩
    refine OwF.lit (enc:=encS) (sz:=1) (xs:=splitB1 s sep) (g:=w.heap.size) (cells:=((splitB1 s sep).map Value.string).toArray) (heap_alloc_new w _) (Nat.le_refl _) ?_ hl.symm (Nat.ble_eq_true_of_le (by omega)) (by simp [hl])
    simp only [List.toList_toArray]
    induction splitB1 s sep with
    |nil=>rfl
    |cons x xs ih=>simp only [List.map_cons,List.flatMap_cons,ih]; rfl
  · cases hm
def cutB1 (s sep:ByteArray):ByteArray × ByteArray × Bool:=(⟨(Lib.cut s.data.toList sep.data.toList).1.toArray⟩,⟨(Lib.cut s.data.toList sep.data.toList).2.1.toArray⟩,(Lib.cut s.data.toList sep.data.toList).2.2)
def cutM (s sep:ByteArray):Option (ByteArray × ByteArray × Bool):=if s.size < 4294967281 then some (cutB1 s sep) else none
theorem c_cutM (s sep:ByteArray) (r:ByteArray × ByteArray × Bool) (hm:cutM s sep=some r) (w:World) (hW:WD w) :
    Calls Tryz.prog 46 #[.string s,.string sep] w fun e w'=>e=.returned (.tuple #[.string r.1,.string r.2.1,.bool r.2.2])∧Below w.heap.size w w':=by
  unfold cutM at hm
  split at hm
  · rename_i h
    injection hm with hm
    subst hm
    obtain ⟨m,hmx⟩:=hW.mx
    refine (lib_Cut s sep m w h hmx).mono ?_
    rintro e w' ⟨rfl,n,rfl⟩
    exact ⟨rfl,⟨rfl,rfl,rfl,by simp [World.drewN],fun j hj=>rfl⟩⟩
  · cases hm
end
section
open Go.ChangeShapes Go.WideShapes Go.ChangeAt Go.RowKit Go.WideElems Go.WideMaps
/-- What the conditions on the variables give the walks of reading. -/
theorem wr_of {W:World} {l:List (String × DataW Unit)} (hp:(l.all fun x=>x.2.handleName?.isNone)=true) (hk:(kN,Rows.laid_loop_example_g01074_impl_kindNames)∈l) (ht:(pN,Rows.laid_internal_strconv_uint64pow10)∈l) (h:laidMetH Tryz.prog l W) (hs:W.ShapedOpen Tryz.prog)
    (he :∃d:DataW Unit,("strconv.ErrSyntax",d)∈l) (hr :∃d:DataW Unit,("strconv.ErrRange",d)∈l):WR W:=by
  have hwd:=wd_of hp hk ht h hs
  rw [MakeChecks.laidMetH_plain _ _ _ hp] at h
  obtain ⟨ps,hl,_⟩:=h
  have one :∀(n:String) (g:Nat) (d:DataW Unit),Tryz.prog.globalNamed n=some g→(Tryz.prog.globals[g]?).map (·.type)=some 100→(n,d)∈l→∃ev,W.cell? ⟨g,0,none⟩=some ev∧(ev=.nilIface ∨∃te pe,ev=.iface te pe):=fun n g d hg hty hm=>by
    obtain ⟨g',t',cs,fuel,p,hg',ht',hvar,hd⟩:=laid_mem hl hm
    obtain rfl:=Option.some.inj (hg.symm.trans hg')
    obtain rfl:=Option.some.inj (hty.symm.trans ht')
    have hc:=World.var?_cell hg' hvar 0
    rw [hc]
    have hx :∃x,cs.toList=[x]∧(x=.nilIface ∨∃te pe,x=.iface te pe):=by
      cases fuel with
      |zero=>simp [DataW.trod] at hd
      |succ fuel=>
        simp only [DataW.trod,Tryz.underlying100] at hd
        generalize cs.toList=L at hd
        rcases L with _|⟨x,_|⟨y,r⟩⟩
        · cases hd
        · cases x
          all_goals first|exact ⟨_,rfl,.inl rfl⟩|exact ⟨_,rfl,.inr ⟨_,_,rfl⟩⟩|(exfalso; simp at hd; done)|(exfalso; cases hd; done)
        · exfalso
          cases x <;> first|(simp at hd; done)|(cases hd; done)
    obtain ⟨x,h1,h2⟩:=hx
    refine ⟨x,?_,h2⟩
    rw [← Array.getElem?_toList,h1]
    rfl
  exact { toWD:=hwd,es:=by obtain ⟨d,hd⟩:=he; exact one _ 4 d (by kernel_rfl) (by kernel_rfl) hd,er:=by obtain ⟨d,hd⟩:=hr; exact one _ 5 d (by kernel_rfl) (by kernel_rfl) hd }
end
end Go.Proofs.YtkfmlehhbanopaaGreatDoor
