/- Validity of nets (chapter 11), on data alone. -/
import Derived.Test.YtampijkiidjcmaaDat
import Derived.Test.YtampijkiidjcmaaTyp
namespace Go.Proofs.Ytampijkiidjcmaa
open Go.RowKit
set_option linter.unusedVariables false
def fieldsN (k : Int) (p : Nat) : Int := if k = 9 then (p : Int) - 1 else 0
def defIx (n : Int) : Bool := decide (0 ≤ n) && decide (n ≤ 23)
def int32B (n : Int) : Bool := decide (-2147483648 ≤ n) && decide (n ≤ 2147483647)
def operB (n : Int) : Bool := decide (1 ≤ n) && decide (n ≤ 6)
def content (k v : Int) (d : List Int) : Bool :=
  if k = 6 then decide (d.length = 0) && int32B v
  else if k = 7 then decide (d.length = 0) && operB v
  else if k = 8 then decide (d.length = 1) && operB v && int32B (d.getD 0 0)
  else if k = 9 then decide (d.length = 0) && (decide (0 ≤ v) && decide (v ≤ 3))
  else if k = 12 then decide (d.length = 0) && defIx v
  else if k = 10 then decide (v = 0) && (decide (1 ≤ d.length) && decide (d.length ≤ 4)) && d.all defIx
  else if k = 11 then decide (v = 0) && decide (d.length = 2) && d.all defIx
  else decide (v = 0) && decide (d.length = 0)
def agentOk (x : DAgent) : Bool := decide (0 < portsOf x.kind (fieldsN x.kind x.ports.length)) && decide ((x.ports.length : Int) = portsOf x.kind (fieldsN x.kind x.ports.length)) && allowed x.kind x.level && content x.kind x.value x.data
def AgentsOk (xs : List DAgent) : Prop := 1 ≤ xs.length ∧ xs.length ≤ 600 ∧ ∀ (i : Nat) (x : DAgent), xs[i]? = some x → agentOk x = true ∧ decide (x.kind = 1) = decide (i = 0)
open Classical in
noncomputable def agentsOk (xs : List DAgent) : Bool := decide (AgentsOk xs)
def agentAt (xs : List DAgent) (i : Int) : DAgent := xs.getD i.toNat default
def hasPort (xs : List DAgent) (p : DPort) : Bool := decide (0 ≤ p.agent) && decide (p.agent < xs.length) && decide (0 ≤ p.slot) && decide (p.slot < (agentAt xs p.agent).ports.length)
def peer (xs : List DAgent) (p : DPort) : DPort := (agentAt xs p.agent).ports.getD p.slot.toNat default
def badPort (xs : List DAgent) (p : DPort) : Bool := decide (peer xs p = p) || !hasPort xs (peer xs p) || !decide (peer xs (peer xs p) = p)
def PortsOk (xs : List DAgent) : Prop := ∀ (i : Nat) (x : DAgent), xs[i]? = some x → ∀ k : Nat, k < x.ports.length → badPort xs ⟨i, k⟩ = false
open Classical in
noncomputable def validNet (x : DNet) : Bool := decide (AgentsOk x.agents ∧ PortsOk x.agents)
/-- All ports in order. -/
def agentPorts (i : Nat) (x : DAgent) : List DPort := (List.range x.ports.length).map fun (k : Nat) => ⟨i, k⟩
def portsFrom : Nat → List DAgent → List DPort
  | _, [] => []
  | i, x :: xs => agentPorts i x ++ portsFrom (i + 1) xs
def allPorts (xs : List DAgent) : List DPort := portsFrom 0 xs
theorem portsFrom_append : ∀ (i : Nat) (xs ys : List DAgent), portsFrom i (xs ++ ys) = portsFrom i xs ++ portsFrom (i + xs.length) ys
  | i, [], ys => by simp [portsFrom]
  | i, x :: xs, ys => by simp [portsFrom, portsFrom_append (i + 1) xs ys, Nat.add_assoc, Nat.add_comm 1]
theorem allPorts_take {xs : List DAgent} {i : Nat} {x : DAgent} (h : xs[i]? = some x) : allPorts (xs.take (i + 1)) = allPorts (xs.take i) ++ agentPorts i x := by
  rw [take_succ_some h, allPorts, portsFrom_append]
  have hl : (xs.take i).length = i := by have := lt_of_some h; simp; omega
  simp [allPorts, portsFrom, hl]
theorem mem_portsFrom : ∀ {i : Nat} {xs : List DAgent} {p : DPort}, p ∈ portsFrom i xs ↔ ∃ (j : Nat) (x : DAgent) (k : Nat), xs[j]? = some x ∧ k < x.ports.length ∧ p = ⟨((i + j : Nat) : Int), (k : Nat)⟩
  | i, [], p => by simp [portsFrom]
  | i, y :: ys, p => by
    rw [portsFrom, List.mem_append, mem_portsFrom]
    constructor
    · rintro (h | ⟨j, x, k, h1, h2, h3⟩)
      · simp only [agentPorts, List.mem_map, List.mem_range] at h
        obtain ⟨k, hk, rfl⟩ := h
        exact ⟨0, y, k, rfl, hk, rfl⟩
      · exact ⟨j + 1, x, k, by simpa using h1, h2, by rw [h3]; congr 2; omega⟩
    · rintro ⟨j, x, k, h1, h2, h3⟩
      cases j with
      | zero =>
        have : y = x := by simpa using h1
        subst this
        exact .inl (by simp only [agentPorts, List.mem_map, List.mem_range]; exact ⟨k, h2, h3.symm⟩)
      | succ j => exact .inr ⟨j, x, k, by simpa using h1, h2, by rw [h3]; congr 2; omega⟩
theorem any_allPorts (xs : List DAgent) : (allPorts xs).any (badPort xs) = false ↔ PortsOk xs := by
  rw [List.any_eq_false]
  constructor
  · intro h i x hx k hk
    have := h ⟨i, k⟩ (mem_portsFrom.2 ⟨i, x, k, hx, hk, by simp⟩)
    simpa using this
  · intro h p hp
    obtain ⟨j, x, k, h1, h2, rfl⟩ := mem_portsFrom.1 hp
    have := h j x h1 k h2
    simpa using this
theorem hasPort_at {xs : List DAgent} {p : DPort} (h : hasPort xs p = true) : ∃ (i k : Nat) (x : DAgent), p = ⟨(i : Nat), (k : Nat)⟩ ∧ xs[i]? = some x ∧ k < x.ports.length ∧ agentAt xs p.agent = x := by
  obtain ⟨a, s⟩ := p
  simp only [hasPort, Bool.and_eq_true, decide_eq_true_eq] at h
  obtain ⟨⟨⟨h1, h2⟩, h3⟩, h4⟩ := h
  obtain ⟨i, rfl⟩ := Int.eq_ofNat_of_zero_le h1
  obtain ⟨k, rfl⟩ := Int.eq_ofNat_of_zero_le h3
  have hi : i < xs.length := by omega
  refine ⟨i, k, xs[i], rfl, by simp [hi], ?_, by simp [agentAt, List.getD, hi]⟩
  have : agentAt xs (i : Int) = xs[i] := by simp [agentAt, List.getD, hi]
  rw [this] at h4
  omega
theorem hasPort_of {xs : List DAgent} {i k : Nat} {x : DAgent} (h : xs[i]? = some x) (hk : k < x.ports.length) : hasPort xs ⟨i, k⟩ = true := by
  have hi := lt_of_some h
  have : agentAt xs (i : Int) = x := by simp [agentAt, List.getD, h]
  simp [hasPort, this]
  omega
theorem peer_of {xs : List DAgent} {i k : Nat} {x : DAgent} {q : DPort} (h : xs[i]? = some x) (hk : x.ports[k]? = some q) : peer xs ⟨i, k⟩ = q := by
  have : agentAt xs (i : Int) = x := by simp [agentAt, List.getD, h]
  simp [peer, this, List.getD, hk]
end Go.Proofs.Ytampijkiidjcmaa
