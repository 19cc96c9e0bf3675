
/- The document's answer, layer 13, and the layer world: ValidWish, Valid, Where, Runs, Has, Used. -/
import Derived.Test.YtcdeeoakoljlpaaRef13
namespace Go.Proofs.Ytcdeeoakoljlpaa
set_option linter.unusedSimpArgs false
set_option linter.unusedVariables false
open Go Go.RowKit
set_option maxRecDepth 100000
set_option linter.unusedSectionVars false
set_option maxHeartbeats 1000000
def stateB (x : StateD) : Bool := decide (x.phase ≤ 4) && btw x.firmware 0 1000000
def replB (n m : Int) (r : ReplicaD) : Bool := idx r.service n && idx r.host m
def validB (s : SiteD) (wl : List ServiceD) (x : WorldD) : Bool := siteB s && wishB wl && decide (x.hosts.length = s.hosts.length) && decide (x.replicas.length ≤ 24) && sortedB x.replicas && x.hosts.all stateB && x.replicas.all (replB wl.length s.hosts.length)
def whereF (svc : Int) (l : List ReplicaD) : List Int := (l.filter fun r => r.service == svc).map (·.host)
def whereL (x : WorldD) (svc : Int) : List Int := whereF svc x.replicas
def coresAt (wl : List ServiceD) (i : Int) : Int := ((wl[i.toNat]?).map (·.cores)).getD 0
def usedF (wl : List ServiceD) (host : Int) : Int → List ReplicaD → Int
  | acc, [] => acc
  | acc, r :: t => usedF wl host (if r.host = host ∧ idx r.service wl.length = true then IntKind.i64.wrap (acc + coresAt wl r.service) else acc) t
def usedI (wl : List ServiceD) (x : WorldD) (host : Int) : Int := usedF wl host 0 x.replicas
theorem asc_cons {n i c a : Int} {r : List Int} : ascB n i c (a :: r) = (decide (c < a) && decide (a < n) && !(a == i) && ascB n i a r) := rfl
def srvHead (x : ServiceD) : Bool := btw x.cores 1 1000 && btw x.replicas 0 24 && btw x.least 0 x.replicas && btw x.firmware 0 1000000 && spreadB x
theorem serviceB_eq (n i : Int) (x : ServiceD) : serviceB n i x = (srvHead x && ascB n i (-1) x.apart && ascB n i (-1) (x.near.map (·.service)) && x.near.all fun k => btw k.latency 0 1000000) := rfl
section
variable {w : World} {B : Nat} {u : SiteVs} {s : SiteD} {wv hv rv : Value} {l : List SrvV} {x : WorldD}
end
end Go.Proofs.Ytcdeeoakoljlpaa
