
/- The plain laws of layer 30: differences of worlds, and what they do. -/
import Derived.Test.YtmcdgepfhpakiaaGreatPure13
namespace Go.Proofs.YtmcdgepfhpakiaaGreat
set_option linter.unusedSimpArgs false
set_option linter.unusedVariables false
open Go Go.RowKit
set_option linter.unusedSectionVars false
set_option maxHeartbeats 1000000
structure DriftD where
  kind : Int
  host : Int
  service : Int
  was : Int
  is : Int
deriving DecidableEq
def driftC (x : DriftD) : List Value := [.int .u8 x.kind, intV x.host, intV x.service, intV x.was, intV x.is]
def driftV (x : DriftD) : Value := .agg (driftC x).toArray
/-- A difference that is one. -/
def realB (d : DriftD) : Bool := decide (d.kind = 1) || decide (d.kind = 2) || !decide (d.was = d.is)
def hostD (i : Nat) (x y : StateD) : List DriftD := [(⟨3, i, 0, x.phase, y.phase⟩ : DriftD), ⟨4, i, 0, x.firmware, y.firmware⟩].filter realB
def hostsD : Nat → List StateD → List StateD → List DriftD
  | i, x :: r, y :: s => hostD i x y ++ hostsD (i + 1) r s
  | _, _, _ => []
def mkD (k : Int) (p : ReplicaD) : DriftD := ⟨k, p.host, p.service, 0, 0⟩
def onlyL (here there : List ReplicaD) : List ReplicaD := here.filter fun p => !hasB there p
def diffL (a b : WorldD) : List DriftD := hostsD 0 a.hosts b.hosts ++ ((onlyL a.replicas b.replicas).map (mkD 1) ++ (onlyL b.replicas a.replicas).map (mkD 2))
def diffOk (a b : WorldD) : Bool := decide (a.hosts.length = b.hosts.length) && sortedB a.replicas && sortedB b.replicas
def diffE (a b : WorldD) : Int := if diffOk a b = true then 0 else 1
def stAt (x : WorldD) (h : Int) : StateD := x.hosts.getD h.toNat ⟨0, 0⟩
/-- What one difference does. -/
def hostE (x : WorldD) (h : Int) (ok : Bool) : Int := if h < 0 ∨ (x.hosts.length : Int) ≤ h then 1 else if ok = true then (if sortedB x.replicas = true then 0 else 1) else 8
def oneE (x : WorldD) (d : DriftD) : Int :=
  if d.kind = 3 then (if d.is < 0 ∨ 255 < d.is then 1 else hostE x d.host (decide ((stAt x d.host).phase = d.was)))
  else if d.kind = 4 then hostE x d.host (decide ((stAt x d.host).firmware = d.was))
  else if d.kind = 1 then stopE x ⟨d.service, d.host⟩
  else if d.kind = 2 then startE x ⟨d.service, d.host⟩ else 1
def oneW (x : WorldD) (d : DriftD) : WorldD :=
  if d.kind = 3 then ⟨x.hosts.set d.host.toNat ⟨d.is, (stAt x d.host).firmware⟩, x.replicas⟩
  else if d.kind = 4 then ⟨x.hosts.set d.host.toNat ⟨(stAt x d.host).phase, d.is⟩, x.replicas⟩
  else if d.kind = 1 then stopW x ⟨d.service, d.host⟩ else startW x ⟨d.service, d.host⟩
def patchG : WorldD → List DriftD → Int × WorldD
  | x, [] => (0, x)
  | x, d :: r => if oneE x d = 0 then patchG (oneW x d) r else (oneE x d, noW)
def patchR (x : WorldD) (l : List DriftD) : Int × WorldD := if sortedB x.replicas = true then patchG x l else (1, noW)
section
end
end Go.Proofs.YtmcdgepfhpakiaaGreat
