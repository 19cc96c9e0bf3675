/- The data of the layers, plainly. No program stands here. -/
import Derived.WalkKit
namespace Go.Proofs.YtgickfllblmhpaaDoor
set_option linter.unusedSimpArgs false
set_option linter.unusedVariables false
open Go
def intV (n : Int) : Value := .int .i64 n
structure FeedD where
  limit : Int
structure BreakerD where
  feed : Int
  limit : Int
  slow : Int
  fast : Int
structure LoopD where
  carry : Int
  delay : Int
structure RackD where
  row : Int
  breaker : Int
  loop : Int
  sw : Int
structure LinkD where
  a : Int
  b : Int
  latency : Int
structure HostD where
  rack : Int
  cores : Int
  idle : Int
  perCore : Int
structure SiteD where
  feeds : List FeedD
  breakers : List BreakerD
  loops : List LoopD
  racks : List RackD
  switches : Int
  links : List LinkD
  hosts : List HostD
structure NearD where
  service : Int
  latency : Int
structure ServiceD where
  cores : Int
  replicas : Int
  least : Int
  domain : Int
  spread : Int
  apart : List Int
  near : List NearD
  firmware : Int
structure StateD where
  phase : Int
  firmware : Int
deriving DecidableEq
structure ReplicaD where
  service : Int
  host : Int
deriving DecidableEq
structure WorldD where
  hosts : List StateD
  replicas : List ReplicaD
deriving DecidableEq
structure StepD where
  kind : Int
  host : Int
  service : Int
  version : Int
deriving DecidableEq
structure PlanD where
  steps : List StepD
  after : List (List Int)
deriving DecidableEq
def feedV (x : FeedD) : Value := .agg #[intV x.limit]
def breakerV (x : BreakerD) : Value := .agg #[intV x.feed, intV x.limit, intV x.slow, intV x.fast]
def loopV (x : LoopD) : Value := .agg #[intV x.carry, intV x.delay]
def rackV (x : RackD) : Value := .agg #[intV x.row, intV x.breaker, intV x.loop, intV x.sw]
def linkV (x : LinkD) : Value := .agg #[intV x.a, intV x.b, intV x.latency]
def hostV (x : HostD) : Value := .agg #[intV x.rack, intV x.cores, intV x.idle, intV x.perCore]
def nearV (x : NearD) : Value := .agg #[intV x.service, intV x.latency]
def stateV (x : StateD) : Value := .agg #[.int .u8 x.phase, intV x.firmware]
def replicaV (x : ReplicaD) : Value := .agg #[intV x.service, intV x.host]
def stepC (x : StepD) : List Value := [.int .u8 x.kind, intV x.host, intV x.service, intV x.version]
def stepV (x : StepD) : Value := .agg (stepC x).toArray

/- what the layers reckon -/
def btw (n lo hi : Int) : Bool := decide (lo ≤ n) && decide (n ≤ hi)
def idx (n len : Int) : Bool := decide (0 ≤ n) && decide (n < len)
def num (n : Int) : Bool := btw n 0 1000000
def feedB (x : FeedD) : Bool := num x.limit
def breakerB (s : SiteD) (x : BreakerD) : Bool := idx x.feed s.feeds.length && (num x.limit && num x.slow && num x.fast)
def loopB (x : LoopD) : Bool := num x.carry && btw x.delay 0 100
def rackB (s : SiteD) (x : RackD) : Bool := idx x.row 4 && idx x.breaker s.breakers.length && idx x.loop s.loops.length && idx x.sw s.switches
def linkB (s : SiteD) (x : LinkD) : Bool := idx x.a s.switches && idx x.b s.switches && !(x.a == x.b) && btw x.latency 1 1000000
def hostB (s : SiteD) (x : HostD) : Bool := idx x.rack s.racks.length && btw x.cores 1 1000 && btw x.idle 0 10000 && btw x.perCore 0 1000
def sizesB (s : SiteD) : Bool := btw s.feeds.length 1 4 && btw s.breakers.length 1 8 && btw s.loops.length 1 4 && btw s.switches 1 8 && btw s.racks.length 1 8 && decide ((s.links.length : Int) ≤ 16) && btw s.hosts.length 1 16
def siteB (s : SiteD) : Bool := sizesB s && s.feeds.all feedB && s.breakers.all (breakerB s) && s.loops.all loopB && s.racks.all (rackB s) && s.links.all (linkB s) && s.hosts.all (hostB s)
/-- What strictly ascends from last on, below bound, and leaves but out. -/
def ascB (bound but : Int) : Int → List Int → Bool
  | _, [] => true
  | last, n :: r => decide (last < n) && decide (n < bound) && !(n == but) && ascB bound but n r
def spreadB (x : ServiceD) : Bool := if x.domain = 0 then x.spread == 0 else decide (x.domain ≤ 5) && btw x.spread 1 24
def serviceB (n i : Int) (x : ServiceD) : Bool := btw x.cores 1 1000 && btw x.replicas 0 24 && btw x.least 0 x.replicas && btw x.firmware 0 1000000 && spreadB x &&
  ascB n i (-1) x.apart && ascB n i (-1) (x.near.map (·.service)) && x.near.all fun k => btw k.latency 0 1000000
def srvsB (n : Int) : Nat → List ServiceD → Bool
  | _, [] => true
  | i, x :: r => serviceB n i x && srvsB n (i + 1) r
def sumR : List ServiceD → Int
  | [] => 0
  | x :: r => x.replicas + sumR r
def wishB (l : List ServiceD) : Bool := decide ((l.length : Int) ≤ 8) && srvsB l.length 0 l && decide (sumR l ≤ 24)
/-- A step: r is the rule of its kind. -/
def stepOkB (s : SiteD) (wl : List ServiceD) (sv ver : Bool) (st : StepD) : Bool := siteB s && wishB wl && decide (0 ≤ st.host) && decide (st.host < (s.hosts.length : Int)) &&
  decide (0 ≤ st.service) && decide (st.service < if sv then (wl.length : Int) else 1) && decide (0 ≤ st.version) && decide (st.version ≤ if ver then 1000000 else 0)
end Go.Proofs.YtgickfllblmhpaaDoor
