/- The data types of the laws: what their values read as, and what is the call's own. -/
import Derived.Test.YtampijkiidjcmaaVal
namespace Go.Proofs.Ytampijkiidjcmaa
open Go.RowKit
set_option linter.unusedVariables false
set_option linter.unusedSimpArgs false

structure DPort where
  agent : Int
  slot : Int
deriving DecidableEq, Inhabited
def portRd : Rd DPort := fun _ _ cs x => cs = [.int .i64 x.agent, .int .i64 x.slot]
def portOw : Ow DPort := fun _ cs x bs => cs = [.int .i64 x.agent, .int .i64 x.slot] ∧ bs = []
theorem portRd_ok : RdOk portRd 2 := ⟨fun h => by cases h; rfl, fun _ h => h, fun _ h => h⟩
theorem portOw_ok : OwOk portOw 2 := ⟨fun h => by rw [h.1]; rfl, fun _ h => h⟩
theorem portOw_reads (B : Nat) : Gives portOw portRd B := fun _ _ _ _ h _ => h.1
theorem SlAt.port {w : World} {B n : Nat} {A : Option Addr} {xs : List DPort} (h : SlAt portRd 2 w B A n xs) {k : Nat} (hk : k < n) :
    ∃ b off x , A = some ⟨b, off, none⟩ ∧ b < B ∧ xs[k]? = some x ∧ w.cell? ⟨b, off + k * 2, none⟩ = some (.int .i64 x.agent) ∧ w.cell? ⟨b, off + k * 2 + 1, none⟩ = some (.int .i64 x.slot) := by
  obtain ⟨b, off, x, cs, e, hb, hx, rfl, hc⟩ := h.at_ hk
  exact ⟨b, off, x, e, hb, hx, (by simpa using hc 0 _ rfl), (by simpa using hc 1 _ rfl)⟩


structure DPair where
  a : Int
  b : Int
deriving DecidableEq, Inhabited
def pairRd : Rd DPair := fun _ _ cs x => cs = [.int .i64 x.a, .int .i64 x.b]
def pairOw : Ow DPair := fun _ cs x bs => cs = [.int .i64 x.a, .int .i64 x.b] ∧ bs = []
theorem pairRd_ok : RdOk pairRd 2 := ⟨fun h => by cases h; rfl, fun _ h => h, fun _ h => h⟩
theorem pairOw_ok : OwOk pairOw 2 := ⟨fun h => by rw [h.1]; rfl, fun _ h => h⟩
theorem pairOw_reads (B : Nat) : Gives pairOw pairRd B := fun _ _ _ _ h _ => h.1
theorem SlAt.pair {w : World} {B n : Nat} {A : Option Addr} {xs : List DPair} (h : SlAt pairRd 2 w B A n xs) {k : Nat} (hk : k < n) :
    ∃ b off x , A = some ⟨b, off, none⟩ ∧ b < B ∧ xs[k]? = some x ∧ w.cell? ⟨b, off + k * 2, none⟩ = some (.int .i64 x.a) ∧ w.cell? ⟨b, off + k * 2 + 1, none⟩ = some (.int .i64 x.b) := by
  obtain ⟨b, off, x, cs, e, hb, hx, rfl, hc⟩ := h.at_ hk
  exact ⟨b, off, x, e, hb, hx, (by simpa using hc 0 _ rfl), (by simpa using hc 1 _ rfl)⟩


structure DWord where
  tag : Int
  at_ : Int
deriving DecidableEq, Inhabited
def wordRd : Rd DWord := fun _ _ cs x => cs = [.int .i64 x.tag, .int .i64 x.at_]
def wordOw : Ow DWord := fun _ cs x bs => cs = [.int .i64 x.tag, .int .i64 x.at_] ∧ bs = []
theorem wordRd_ok : RdOk wordRd 2 := ⟨fun h => by cases h; rfl, fun _ h => h, fun _ h => h⟩
theorem wordOw_ok : OwOk wordOw 2 := ⟨fun h => by rw [h.1]; rfl, fun _ h => h⟩
theorem wordOw_reads (B : Nat) : Gives wordOw wordRd B := fun _ _ _ _ h _ => h.1
theorem SlAt.word {w : World} {B n : Nat} {A : Option Addr} {xs : List DWord} (h : SlAt wordRd 2 w B A n xs) {k : Nat} (hk : k < n) :
    ∃ b off x , A = some ⟨b, off, none⟩ ∧ b < B ∧ xs[k]? = some x ∧ w.cell? ⟨b, off + k * 2, none⟩ = some (.int .i64 x.tag) ∧ w.cell? ⟨b, off + k * 2 + 1, none⟩ = some (.int .i64 x.at_) := by
  obtain ⟨b, off, x, cs, e, hb, hx, rfl, hc⟩ := h.at_ hk
  exact ⟨b, off, x, e, hb, hx, (by simpa using hc 0 _ rfl), (by simpa using hc 1 _ rfl)⟩


structure DWire where
  a : DPort
  b : DPort
deriving DecidableEq, Inhabited
def wireRd : Rd DWire := fun _ _ cs x => cs = [.int .i64 x.a.agent, .int .i64 x.a.slot, .int .i64 x.b.agent, .int .i64 x.b.slot]
def wireOw : Ow DWire := fun _ cs x bs => cs = [.int .i64 x.a.agent, .int .i64 x.a.slot, .int .i64 x.b.agent, .int .i64 x.b.slot] ∧ bs = []
theorem wireRd_ok : RdOk wireRd 4 := ⟨fun h => by cases h; rfl, fun _ h => h, fun _ h => h⟩
theorem wireOw_ok : OwOk wireOw 4 := ⟨fun h => by rw [h.1]; rfl, fun _ h => h⟩
theorem wireOw_reads (B : Nat) : Gives wireOw wireRd B := fun _ _ _ _ h _ => h.1
theorem SlAt.wire {w : World} {B n : Nat} {A : Option Addr} {xs : List DWire} (h : SlAt wireRd 4 w B A n xs) {k : Nat} (hk : k < n) :
    ∃ b off x , A = some ⟨b, off, none⟩ ∧ b < B ∧ xs[k]? = some x ∧ w.cell? ⟨b, off + k * 4, none⟩ = some (.int .i64 x.a.agent) ∧ w.cell? ⟨b, off + k * 4 + 1, none⟩ = some (.int .i64 x.a.slot) ∧ w.cell? ⟨b, off + k * 4 + 2, none⟩ = some (.int .i64 x.b.agent) ∧ w.cell? ⟨b, off + k * 4 + 3, none⟩ = some (.int .i64 x.b.slot) := by
  obtain ⟨b, off, x, cs, e, hb, hx, rfl, hc⟩ := h.at_ hk
  exact ⟨b, off, x, e, hb, hx, (by simpa using hc 0 _ rfl), (by simpa using hc 1 _ rfl), (by simpa using hc 2 _ rfl), (by simpa using hc 3 _ rfl)⟩


structure DAgent where
  kind : Int
  level : Int
  value : Int
  data : List Int
  ports : List DPort
deriving DecidableEq, Inhabited
def agentRd : Rd DAgent := fun w B cs x => ∃(A1 : Option Addr) (n1 c1 : Nat) (A2 : Option Addr) (n2 c2 : Nat), cs = [.int .i64 x.kind, .int .i64 x.level, .int .i64 x.value, .slice A1 n1 c1, .slice A2 n2 c2] ∧ (SlAt intRd 1 w B A1 n1 x.data ∧ n1 ≤ c1 ∧ c1 ≤ maxLen) ∧ (SlAt portRd 2 w B A2 n2 x.ports ∧ n2 ≤ c2 ∧ c2 ≤ maxLen)
def agentOw : Ow DAgent := fun w cs x bs => ∃ (A1 : Option Addr) (n1 c1 : Nat) (A2 : Option Addr) (n2 c2 : Nat) (b1 b2 : List Nat), cs = [.int .i64 x.kind, .int .i64 x.level, .int .i64 x.value, .slice A1 n1 c1, .slice A2 n2 c2] ∧ (OwAt intOw 1 w A1 n1 x.data b1 ∧ n1 ≤ c1 ∧ c1 ≤ maxLen) ∧ (OwAt portOw 2 w A2 n2 x.ports b2 ∧ n2 ≤ c2 ∧ c2 ≤ maxLen) ∧ bs = b1 ++ b2
theorem agentRd_ok : RdOk agentRd 5 :=
  ⟨fun ⟨A1, n1, c1, A2, n2, c2, e, _⟩ => by rw [e]; rfl,
   fun hk ⟨A1, n1, c1, A2, n2, c2, e, ⟨h1, r1⟩, ⟨h2, r2⟩⟩ => ⟨A1, n1, c1, A2, n2, c2, e, ⟨h1.keep intRd_ok hk, r1⟩, ⟨h2.keep portRd_ok hk, r2⟩⟩,
   fun hB ⟨A1, n1, c1, A2, n2, c2, e, ⟨h1, r1⟩, ⟨h2, r2⟩⟩ => ⟨A1, n1, c1, A2, n2, c2, e, ⟨h1.more intRd_ok hB, r1⟩, ⟨h2.more portRd_ok hB, r2⟩⟩⟩
theorem agentOw_ok : OwOk agentOw 5 :=
  ⟨fun ⟨A1, n1, c1, A2, n2, c2, b1, b2, e, _⟩ => by rw [e]; rfl,
   fun hb ⟨A1, n1, c1, A2, n2, c2, b1, b2, e, ⟨h1, r1⟩, ⟨h2, r2⟩, eb⟩ => ⟨A1, n1, c1, A2, n2, c2, b1, b2, e, ⟨h1.keep intOw_ok (fun k hk => hb k (by rw [eb]; simp [hk])), r1⟩, ⟨h2.keep portOw_ok (fun k hk => hb k (by rw [eb]; simp [hk])), r2⟩, eb⟩⟩
theorem agentOw_reads (B : Nat) : Gives agentOw agentRd B := fun _ _ _ _ ⟨A1, n1, c1, A2, n2, c2, b1, b2, e, ⟨h1, r1⟩, ⟨h2, r2⟩, eb⟩ hb => ⟨A1, n1, c1, A2, n2, c2, e, ⟨h1.reads (intOw_reads B) (fun k hk => hb k (by rw [eb]; simp [hk])), r1⟩, ⟨h2.reads (portOw_reads B) (fun k hk => hb k (by rw [eb]; simp [hk])), r2⟩⟩
theorem SlAt.agent {w : World} {B n : Nat} {A : Option Addr} {xs : List DAgent} (h : SlAt agentRd 5 w B A n xs) {k : Nat} (hk : k < n) :
    ∃ b off x A1 n1 c1 A2 n2 c2, A = some ⟨b, off, none⟩ ∧ b < B ∧ xs[k]? = some x ∧ w.cell? ⟨b, off + k * 5, none⟩ = some (.int .i64 x.kind) ∧ w.cell? ⟨b, off + k * 5 + 1, none⟩ = some (.int .i64 x.level) ∧ w.cell? ⟨b, off + k * 5 + 2, none⟩ = some (.int .i64 x.value) ∧ w.cell? ⟨b, off + k * 5 + 3, none⟩ = some (.slice A1 n1 c1) ∧ w.cell? ⟨b, off + k * 5 + 4, none⟩ = some (.slice A2 n2 c2) ∧ (SlAt intRd 1 w B A1 n1 x.data ∧ n1 ≤ c1 ∧ c1 ≤ maxLen) ∧ (SlAt portRd 2 w B A2 n2 x.ports ∧ n2 ≤ c2 ∧ c2 ≤ maxLen) := by
  obtain ⟨b, off, x, cs, e, hb, hx, ⟨A1, n1, c1, A2, n2, c2, rfl, h1, h2⟩, hc⟩ := h.at_ hk
  exact ⟨b, off, x, A1, n1, c1, A2, n2, c2, e, hb, hx, (by simpa using hc 0 _ rfl), (by simpa using hc 1 _ rfl), (by simpa using hc 2 _ rfl), (by simpa using hc 3 _ rfl), (by simpa using hc 4 _ rfl), h1, h2⟩
def szAgent (x : DAgent) : Nat := x.data.length + x.ports.length
def szAgentS (xs : List DAgent) : Nat := xs.length + (xs.map szAgent).sum

structure DNet where
  agents : List DAgent
deriving DecidableEq, Inhabited
def netRd : Rd DNet := fun w B cs x => ∃(A1 : Option Addr) (n1 c1 : Nat), cs = [.slice A1 n1 c1] ∧ (SlAt agentRd 5 w B A1 n1 x.agents ∧ n1 ≤ c1 ∧ c1 ≤ maxLen)
def netOw : Ow DNet := fun w cs x bs => ∃ (A1 : Option Addr) (n1 c1 : Nat) (b1 : List Nat), cs = [.slice A1 n1 c1] ∧ (OwAt agentOw 5 w A1 n1 x.agents b1 ∧ n1 ≤ c1 ∧ c1 ≤ maxLen) ∧ bs = b1
theorem netRd_ok : RdOk netRd 1 :=
  ⟨fun ⟨A1, n1, c1, e, _⟩ => by rw [e]; rfl,
   fun hk ⟨A1, n1, c1, e, ⟨h1, r1⟩⟩ => ⟨A1, n1, c1, e, ⟨h1.keep agentRd_ok hk, r1⟩⟩,
   fun hB ⟨A1, n1, c1, e, ⟨h1, r1⟩⟩ => ⟨A1, n1, c1, e, ⟨h1.more agentRd_ok hB, r1⟩⟩⟩
theorem netOw_ok : OwOk netOw 1 :=
  ⟨fun ⟨A1, n1, c1, b1, e, _⟩ => by rw [e]; rfl,
   fun hb ⟨A1, n1, c1, b1, e, ⟨h1, r1⟩, eb⟩ => ⟨A1, n1, c1, b1, e, ⟨h1.keep agentOw_ok (fun k hk => hb k (by rw [eb]; simp [hk])), r1⟩, eb⟩⟩
theorem netOw_reads (B : Nat) : Gives netOw netRd B := fun _ _ _ _ ⟨A1, n1, c1, b1, e, ⟨h1, r1⟩, eb⟩ hb => ⟨A1, n1, c1, e, ⟨h1.reads (agentOw_reads B) (fun k hk => hb k (by rw [eb]; simp [hk])), r1⟩⟩
theorem SlAt.net {w : World} {B n : Nat} {A : Option Addr} {xs : List DNet} (h : SlAt netRd 1 w B A n xs) {k : Nat} (hk : k < n) :
    ∃ b off x A1 n1 c1, A = some ⟨b, off, none⟩ ∧ b < B ∧ xs[k]? = some x ∧ w.cell? ⟨b, off + k, none⟩ = some (.slice A1 n1 c1) ∧ (SlAt agentRd 5 w B A1 n1 x.agents ∧ n1 ≤ c1 ∧ c1 ≤ maxLen) := by
  obtain ⟨b, off, x, cs, e, hb, hx, ⟨A1, n1, c1, rfl, h1⟩, hc⟩ := h.at_ hk
  exact ⟨b, off, x, A1, n1, c1, e, hb, hx, (by simpa using hc 0 _ rfl), h1⟩
def szNet (x : DNet) : Nat := szAgentS x.agents
def szNetS (xs : List DNet) : Nat := xs.length + (xs.map szNet).sum

structure DCell where
  kind : Int
  level : Int
  value : Int
  data : List Int
  words : List DWord
deriving DecidableEq, Inhabited
def cellRd : Rd DCell := fun w B cs x => ∃(A1 : Option Addr) (n1 c1 : Nat) (A2 : Option Addr) (n2 c2 : Nat), cs = [.int .i64 x.kind, .int .i64 x.level, .int .i64 x.value, .slice A1 n1 c1, .slice A2 n2 c2] ∧ (SlAt intRd 1 w B A1 n1 x.data ∧ n1 ≤ c1 ∧ c1 ≤ maxLen) ∧ (SlAt wordRd 2 w B A2 n2 x.words ∧ n2 ≤ c2 ∧ c2 ≤ maxLen)
def cellOw : Ow DCell := fun w cs x bs => ∃ (A1 : Option Addr) (n1 c1 : Nat) (A2 : Option Addr) (n2 c2 : Nat) (b1 b2 : List Nat), cs = [.int .i64 x.kind, .int .i64 x.level, .int .i64 x.value, .slice A1 n1 c1, .slice A2 n2 c2] ∧ (OwAt intOw 1 w A1 n1 x.data b1 ∧ n1 ≤ c1 ∧ c1 ≤ maxLen) ∧ (OwAt wordOw 2 w A2 n2 x.words b2 ∧ n2 ≤ c2 ∧ c2 ≤ maxLen) ∧ bs = b1 ++ b2
theorem cellRd_ok : RdOk cellRd 5 :=
  ⟨fun ⟨A1, n1, c1, A2, n2, c2, e, _⟩ => by rw [e]; rfl,
   fun hk ⟨A1, n1, c1, A2, n2, c2, e, ⟨h1, r1⟩, ⟨h2, r2⟩⟩ => ⟨A1, n1, c1, A2, n2, c2, e, ⟨h1.keep intRd_ok hk, r1⟩, ⟨h2.keep wordRd_ok hk, r2⟩⟩,
   fun hB ⟨A1, n1, c1, A2, n2, c2, e, ⟨h1, r1⟩, ⟨h2, r2⟩⟩ => ⟨A1, n1, c1, A2, n2, c2, e, ⟨h1.more intRd_ok hB, r1⟩, ⟨h2.more wordRd_ok hB, r2⟩⟩⟩
theorem cellOw_ok : OwOk cellOw 5 :=
  ⟨fun ⟨A1, n1, c1, A2, n2, c2, b1, b2, e, _⟩ => by rw [e]; rfl,
   fun hb ⟨A1, n1, c1, A2, n2, c2, b1, b2, e, ⟨h1, r1⟩, ⟨h2, r2⟩, eb⟩ => ⟨A1, n1, c1, A2, n2, c2, b1, b2, e, ⟨h1.keep intOw_ok (fun k hk => hb k (by rw [eb]; simp [hk])), r1⟩, ⟨h2.keep wordOw_ok (fun k hk => hb k (by rw [eb]; simp [hk])), r2⟩, eb⟩⟩
theorem cellOw_reads (B : Nat) : Gives cellOw cellRd B := fun _ _ _ _ ⟨A1, n1, c1, A2, n2, c2, b1, b2, e, ⟨h1, r1⟩, ⟨h2, r2⟩, eb⟩ hb => ⟨A1, n1, c1, A2, n2, c2, e, ⟨h1.reads (intOw_reads B) (fun k hk => hb k (by rw [eb]; simp [hk])), r1⟩, ⟨h2.reads (wordOw_reads B) (fun k hk => hb k (by rw [eb]; simp [hk])), r2⟩⟩
theorem SlAt.cell {w : World} {B n : Nat} {A : Option Addr} {xs : List DCell} (h : SlAt cellRd 5 w B A n xs) {k : Nat} (hk : k < n) :
    ∃ b off x A1 n1 c1 A2 n2 c2, A = some ⟨b, off, none⟩ ∧ b < B ∧ xs[k]? = some x ∧ w.cell? ⟨b, off + k * 5, none⟩ = some (.int .i64 x.kind) ∧ w.cell? ⟨b, off + k * 5 + 1, none⟩ = some (.int .i64 x.level) ∧ w.cell? ⟨b, off + k * 5 + 2, none⟩ = some (.int .i64 x.value) ∧ w.cell? ⟨b, off + k * 5 + 3, none⟩ = some (.slice A1 n1 c1) ∧ w.cell? ⟨b, off + k * 5 + 4, none⟩ = some (.slice A2 n2 c2) ∧ (SlAt intRd 1 w B A1 n1 x.data ∧ n1 ≤ c1 ∧ c1 ≤ maxLen) ∧ (SlAt wordRd 2 w B A2 n2 x.words ∧ n2 ≤ c2 ∧ c2 ≤ maxLen) := by
  obtain ⟨b, off, x, cs, e, hb, hx, ⟨A1, n1, c1, A2, n2, c2, rfl, h1, h2⟩, hc⟩ := h.at_ hk
  exact ⟨b, off, x, A1, n1, c1, A2, n2, c2, e, hb, hx, (by simpa using hc 0 _ rfl), (by simpa using hc 1 _ rfl), (by simpa using hc 2 _ rfl), (by simpa using hc 3 _ rfl), (by simpa using hc 4 _ rfl), h1, h2⟩
def szCell (x : DCell) : Nat := x.data.length + x.words.length
def szCellS (xs : List DCell) : Nat := xs.length + (xs.map szCell).sum

structure DMemory where
  cells : List DCell
  free : Int
  root : DWord
  redexes : List DPair
deriving DecidableEq, Inhabited
def memoryRd : Rd DMemory := fun w B cs x => ∃(A1 : Option Addr) (n1 c1 : Nat) (A2 : Option Addr) (n2 c2 : Nat), cs = [.slice A1 n1 c1, .int .i64 x.free, .int .i64 x.root.tag, .int .i64 x.root.at_, .slice A2 n2 c2] ∧ (SlAt cellRd 5 w B A1 n1 x.cells ∧ n1 ≤ c1 ∧ c1 ≤ maxLen) ∧ (SlAt pairRd 2 w B A2 n2 x.redexes ∧ n2 ≤ c2 ∧ c2 ≤ maxLen)
def memoryOw : Ow DMemory := fun w cs x bs => ∃ (A1 : Option Addr) (n1 c1 : Nat) (A2 : Option Addr) (n2 c2 : Nat) (b1 b2 : List Nat), cs = [.slice A1 n1 c1, .int .i64 x.free, .int .i64 x.root.tag, .int .i64 x.root.at_, .slice A2 n2 c2] ∧ (OwAt cellOw 5 w A1 n1 x.cells b1 ∧ n1 ≤ c1 ∧ c1 ≤ maxLen) ∧ (OwAt pairOw 2 w A2 n2 x.redexes b2 ∧ n2 ≤ c2 ∧ c2 ≤ maxLen) ∧ bs = b1 ++ b2
theorem memoryRd_ok : RdOk memoryRd 5 :=
  ⟨fun ⟨A1, n1, c1, A2, n2, c2, e, _⟩ => by rw [e]; rfl,
   fun hk ⟨A1, n1, c1, A2, n2, c2, e, ⟨h1, r1⟩, ⟨h2, r2⟩⟩ => ⟨A1, n1, c1, A2, n2, c2, e, ⟨h1.keep cellRd_ok hk, r1⟩, ⟨h2.keep pairRd_ok hk, r2⟩⟩,
   fun hB ⟨A1, n1, c1, A2, n2, c2, e, ⟨h1, r1⟩, ⟨h2, r2⟩⟩ => ⟨A1, n1, c1, A2, n2, c2, e, ⟨h1.more cellRd_ok hB, r1⟩, ⟨h2.more pairRd_ok hB, r2⟩⟩⟩
theorem memoryOw_ok : OwOk memoryOw 5 :=
  ⟨fun ⟨A1, n1, c1, A2, n2, c2, b1, b2, e, _⟩ => by rw [e]; rfl,
   fun hb ⟨A1, n1, c1, A2, n2, c2, b1, b2, e, ⟨h1, r1⟩, ⟨h2, r2⟩, eb⟩ => ⟨A1, n1, c1, A2, n2, c2, b1, b2, e, ⟨h1.keep cellOw_ok (fun k hk => hb k (by rw [eb]; simp [hk])), r1⟩, ⟨h2.keep pairOw_ok (fun k hk => hb k (by rw [eb]; simp [hk])), r2⟩, eb⟩⟩
theorem memoryOw_reads (B : Nat) : Gives memoryOw memoryRd B := fun _ _ _ _ ⟨A1, n1, c1, A2, n2, c2, b1, b2, e, ⟨h1, r1⟩, ⟨h2, r2⟩, eb⟩ hb => ⟨A1, n1, c1, A2, n2, c2, e, ⟨h1.reads (cellOw_reads B) (fun k hk => hb k (by rw [eb]; simp [hk])), r1⟩, ⟨h2.reads (pairOw_reads B) (fun k hk => hb k (by rw [eb]; simp [hk])), r2⟩⟩
theorem SlAt.memory {w : World} {B n : Nat} {A : Option Addr} {xs : List DMemory} (h : SlAt memoryRd 5 w B A n xs) {k : Nat} (hk : k < n) :
    ∃ b off x A1 n1 c1 A2 n2 c2, A = some ⟨b, off, none⟩ ∧ b < B ∧ xs[k]? = some x ∧ w.cell? ⟨b, off + k * 5, none⟩ = some (.slice A1 n1 c1) ∧ w.cell? ⟨b, off + k * 5 + 1, none⟩ = some (.int .i64 x.free) ∧ w.cell? ⟨b, off + k * 5 + 2, none⟩ = some (.int .i64 x.root.tag) ∧ w.cell? ⟨b, off + k * 5 + 3, none⟩ = some (.int .i64 x.root.at_) ∧ w.cell? ⟨b, off + k * 5 + 4, none⟩ = some (.slice A2 n2 c2) ∧ (SlAt cellRd 5 w B A1 n1 x.cells ∧ n1 ≤ c1 ∧ c1 ≤ maxLen) ∧ (SlAt pairRd 2 w B A2 n2 x.redexes ∧ n2 ≤ c2 ∧ c2 ≤ maxLen) := by
  obtain ⟨b, off, x, cs, e, hb, hx, ⟨A1, n1, c1, A2, n2, c2, rfl, h1, h2⟩, hc⟩ := h.at_ hk
  exact ⟨b, off, x, A1, n1, c1, A2, n2, c2, e, hb, hx, (by simpa using hc 0 _ rfl), (by simpa using hc 1 _ rfl), (by simpa using hc 2 _ rfl), (by simpa using hc 3 _ rfl), (by simpa using hc 4 _ rfl), h1, h2⟩
def szMemory (x : DMemory) : Nat := szCellS x.cells + x.redexes.length
def szMemoryS (xs : List DMemory) : Nat := xs.length + (xs.map szMemory).sum
end Go.Proofs.Ytampijkiidjcmaa
