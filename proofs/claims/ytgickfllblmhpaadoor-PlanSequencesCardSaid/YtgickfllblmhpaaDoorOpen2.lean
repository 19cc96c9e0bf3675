/- The layers' data, opened: site, wish, plan. -/
import Derived.Test.YtgickfllblmhpaaDoorOpen
import Derived.Test.YtgickfllblmhpaaDoorLive20b
namespace Go.Proofs.YtgickfllblmhpaaDoor
set_option linter.unusedSimpArgs false
set_option linter.unusedVariables false
open Go Go.RowKit
set_option maxRecDepth 100000
theorem decFeed {H : Type} {enc : TypeId × Value → H} {w : World} {base : Nat} {spare : Nat → Bool} {held : Bool} : Dec enc w base spare held 61 (fun x : FeedD => [intV x.limit]) (fun x => True) := by
  intro fuel cs x h
  obtain ⟨hl, m, hf⟩ := open_fields Tryd.underlying61 (by kernel_rfl) (by kernel_rfl) h
  obtain ⟨v0, y0, c0, t0⟩ := hf 0 _ rfl
  obtain ⟨a0, e0, p0⟩ := dec_int Tryd.underlying3 _ _ _ t0
  obtain rfl := List.head_eq_of_cons_eq e0
  obtain rfl := len1 (show cs.length = 1 from hl) c0
  exact ⟨⟨a0⟩, rfl, trivial⟩
theorem decBreaker {H : Type} {enc : TypeId × Value → H} {w : World} {base : Nat} {spare : Nat → Bool} {held : Bool} : Dec enc w base spare held 63 (fun x : BreakerD => [intV x.feed, intV x.limit, intV x.slow, intV x.fast]) (fun x => True) := by
  intro fuel cs x h
  obtain ⟨hl, m, hf⟩ := open_fields Tryd.underlying63 (by kernel_rfl) (by kernel_rfl) h
  obtain ⟨v0, y0, c0, t0⟩ := hf 0 _ rfl
  obtain ⟨a0, e0, p0⟩ := dec_int Tryd.underlying3 _ _ _ t0
  obtain rfl := List.head_eq_of_cons_eq e0
  obtain ⟨v1, y1, c1, t1⟩ := hf 1 _ rfl
  obtain ⟨a1, e1, p1⟩ := dec_int Tryd.underlying3 _ _ _ t1
  obtain rfl := List.head_eq_of_cons_eq e1
  obtain ⟨v2, y2, c2, t2⟩ := hf 2 _ rfl
  obtain ⟨a2, e2, p2⟩ := dec_int Tryd.underlying3 _ _ _ t2
  obtain rfl := List.head_eq_of_cons_eq e2
  obtain ⟨v3, y3, c3, t3⟩ := hf 3 _ rfl
  obtain ⟨a3, e3, p3⟩ := dec_int Tryd.underlying3 _ _ _ t3
  obtain rfl := List.head_eq_of_cons_eq e3
  obtain rfl := len4 (show cs.length = 4 from hl) c0 c1 c2 c3
  exact ⟨⟨a0, a1, a2, a3⟩, rfl, trivial⟩
theorem decLoop {H : Type} {enc : TypeId × Value → H} {w : World} {base : Nat} {spare : Nat → Bool} {held : Bool} : Dec enc w base spare held 65 (fun x : LoopD => [intV x.carry, intV x.delay]) (fun x => True) := by
  intro fuel cs x h
  obtain ⟨hl, m, hf⟩ := open_fields Tryd.underlying65 (by kernel_rfl) (by kernel_rfl) h
  obtain ⟨v0, y0, c0, t0⟩ := hf 0 _ rfl
  obtain ⟨a0, e0, p0⟩ := dec_int Tryd.underlying3 _ _ _ t0
  obtain rfl := List.head_eq_of_cons_eq e0
  obtain ⟨v1, y1, c1, t1⟩ := hf 1 _ rfl
  obtain ⟨a1, e1, p1⟩ := dec_int Tryd.underlying3 _ _ _ t1
  obtain rfl := List.head_eq_of_cons_eq e1
  obtain rfl := len2 (show cs.length = 2 from hl) c0 c1
  exact ⟨⟨a0, a1⟩, rfl, trivial⟩
theorem decRack {H : Type} {enc : TypeId × Value → H} {w : World} {base : Nat} {spare : Nat → Bool} {held : Bool} : Dec enc w base spare held 67 (fun x : RackD => [intV x.row, intV x.breaker, intV x.loop, intV x.sw]) (fun x => True) := by
  intro fuel cs x h
  obtain ⟨hl, m, hf⟩ := open_fields Tryd.underlying67 (by kernel_rfl) (by kernel_rfl) h
  obtain ⟨v0, y0, c0, t0⟩ := hf 0 _ rfl
  obtain ⟨a0, e0, p0⟩ := dec_int Tryd.underlying3 _ _ _ t0
  obtain rfl := List.head_eq_of_cons_eq e0
  obtain ⟨v1, y1, c1, t1⟩ := hf 1 _ rfl
  obtain ⟨a1, e1, p1⟩ := dec_int Tryd.underlying3 _ _ _ t1
  obtain rfl := List.head_eq_of_cons_eq e1
  obtain ⟨v2, y2, c2, t2⟩ := hf 2 _ rfl
  obtain ⟨a2, e2, p2⟩ := dec_int Tryd.underlying3 _ _ _ t2
  obtain rfl := List.head_eq_of_cons_eq e2
  obtain ⟨v3, y3, c3, t3⟩ := hf 3 _ rfl
  obtain ⟨a3, e3, p3⟩ := dec_int Tryd.underlying3 _ _ _ t3
  obtain rfl := List.head_eq_of_cons_eq e3
  obtain rfl := len4 (show cs.length = 4 from hl) c0 c1 c2 c3
  exact ⟨⟨a0, a1, a2, a3⟩, rfl, trivial⟩
theorem decLink {H : Type} {enc : TypeId × Value → H} {w : World} {base : Nat} {spare : Nat → Bool} {held : Bool} : Dec enc w base spare held 95 (fun x : LinkD => [intV x.a, intV x.b, intV x.latency]) (fun x => True) := by
  intro fuel cs x h
  obtain ⟨hl, m, hf⟩ := open_fields Tryd.underlying95 (by kernel_rfl) (by kernel_rfl) h
  obtain ⟨v0, y0, c0, t0⟩ := hf 0 _ rfl
  obtain ⟨a0, e0, p0⟩ := dec_int Tryd.underlying3 _ _ _ t0
  obtain rfl := List.head_eq_of_cons_eq e0
  obtain ⟨v1, y1, c1, t1⟩ := hf 1 _ rfl
  obtain ⟨a1, e1, p1⟩ := dec_int Tryd.underlying3 _ _ _ t1
  obtain rfl := List.head_eq_of_cons_eq e1
  obtain ⟨v2, y2, c2, t2⟩ := hf 2 _ rfl
  obtain ⟨a2, e2, p2⟩ := dec_int Tryd.underlying3 _ _ _ t2
  obtain rfl := List.head_eq_of_cons_eq e2
  obtain rfl := len3 (show cs.length = 3 from hl) c0 c1 c2
  exact ⟨⟨a0, a1, a2⟩, rfl, trivial⟩
theorem decHost {H : Type} {enc : TypeId × Value → H} {w : World} {base : Nat} {spare : Nat → Bool} {held : Bool} : Dec enc w base spare held 69 (fun x : HostD => [intV x.rack, intV x.cores, intV x.idle, intV x.perCore]) (fun x => True) := by
  intro fuel cs x h
  obtain ⟨hl, m, hf⟩ := open_fields Tryd.underlying69 (by kernel_rfl) (by kernel_rfl) h
  obtain ⟨v0, y0, c0, t0⟩ := hf 0 _ rfl
  obtain ⟨a0, e0, p0⟩ := dec_int Tryd.underlying3 _ _ _ t0
  obtain rfl := List.head_eq_of_cons_eq e0
  obtain ⟨v1, y1, c1, t1⟩ := hf 1 _ rfl
  obtain ⟨a1, e1, p1⟩ := dec_int Tryd.underlying3 _ _ _ t1
  obtain rfl := List.head_eq_of_cons_eq e1
  obtain ⟨v2, y2, c2, t2⟩ := hf 2 _ rfl
  obtain ⟨a2, e2, p2⟩ := dec_int Tryd.underlying3 _ _ _ t2
  obtain rfl := List.head_eq_of_cons_eq e2
  obtain ⟨v3, y3, c3, t3⟩ := hf 3 _ rfl
  obtain ⟨a3, e3, p3⟩ := dec_int Tryd.underlying3 _ _ _ t3
  obtain rfl := List.head_eq_of_cons_eq e3
  obtain rfl := len4 (show cs.length = 4 from hl) c0 c1 c2 c3
  exact ⟨⟨a0, a1, a2, a3⟩, rfl, trivial⟩
theorem decNear {H : Type} {enc : TypeId × Value → H} {w : World} {base : Nat} {spare : Nat → Bool} {held : Bool} : Dec enc w base spare held 109 (fun x : NearD => [intV x.service, intV x.latency]) (fun x => True) := by
  intro fuel cs x h
  obtain ⟨hl, m, hf⟩ := open_fields Tryd.underlying109 (by kernel_rfl) (by kernel_rfl) h
  obtain ⟨v0, y0, c0, t0⟩ := hf 0 _ rfl
  obtain ⟨a0, e0, p0⟩ := dec_int Tryd.underlying3 _ _ _ t0
  obtain rfl := List.head_eq_of_cons_eq e0
  obtain ⟨v1, y1, c1, t1⟩ := hf 1 _ rfl
  obtain ⟨a1, e1, p1⟩ := dec_int Tryd.underlying3 _ _ _ t1
  obtain rfl := List.head_eq_of_cons_eq e1
  obtain rfl := len2 (show cs.length = 2 from hl) c0 c1
  exact ⟨⟨a0, a1⟩, rfl, trivial⟩
theorem decStep {H : Type} {enc : TypeId × Value → H} {w : World} {base : Nat} {spare : Nat → Bool} {held : Bool} : Dec enc w base spare held 76 (fun x : StepD => stepC x) (fun x => (0 ≤ x.kind ∧ x.kind ≤ 255) ∧ (-9223372036854775808 ≤ x.host ∧ x.host ≤ 9223372036854775807) ∧ (-9223372036854775808 ≤ x.service ∧ x.service ≤ 9223372036854775807) ∧ -9223372036854775808 ≤ x.version ∧ x.version ≤ 9223372036854775807) := by
  intro fuel cs x h
  obtain ⟨hl, m, hf⟩ := open_fields Tryd.underlying76 (by kernel_rfl) (by kernel_rfl) h
  obtain ⟨v0, y0, c0, t0⟩ := hf 0 _ rfl
  obtain ⟨a0, e0, p0⟩ := dec_u8 Tryd.underlying74 _ _ _ t0
  obtain rfl := List.head_eq_of_cons_eq e0
  obtain ⟨v1, y1, c1, t1⟩ := hf 1 _ rfl
  obtain ⟨a1, e1, p1⟩ := dec_int Tryd.underlying3 _ _ _ t1
  obtain rfl := List.head_eq_of_cons_eq e1
  obtain ⟨v2, y2, c2, t2⟩ := hf 2 _ rfl
  obtain ⟨a2, e2, p2⟩ := dec_int Tryd.underlying3 _ _ _ t2
  obtain rfl := List.head_eq_of_cons_eq e2
  obtain ⟨v3, y3, c3, t3⟩ := hf 3 _ rfl
  obtain ⟨a3, e3, p3⟩ := dec_int Tryd.underlying3 _ _ _ t3
  obtain rfl := List.head_eq_of_cons_eq e3
  obtain rfl := len4 (show cs.length = 4 from hl) c0 c1 c2 c3
  exact ⟨⟨a0, a1, a2, a3⟩, rfl, ⟨p0, p1, p2, p3⟩⟩
theorem decService {H : Type} {enc : TypeId × Value → H} {w : World} {base : Nat} {spare : Nat → Bool} {held : Bool} : Dec enc w base spare held 73 (fun x : SrvV => srvC x) (fun x => Sl w w.heap.size none 1 x.a (x.x.apart.map intV) ∧ Sl w w.heap.size (some 2) 2 x.n (x.x.near.map nearV) ∧ 0 ≤ x.x.domain ∧ x.x.domain ≤ 255) := by
  intro fuel cs x h
  obtain ⟨hl, m, hf⟩ := open_fields Tryd.underlying73 (by kernel_rfl) (by kernel_rfl) h
  obtain ⟨v0, y0, c0, t0⟩ := hf 0 _ rfl
  obtain ⟨a0, e0, p0⟩ := dec_int Tryd.underlying3 _ _ _ t0
  obtain rfl := List.head_eq_of_cons_eq e0
  obtain ⟨v1, y1, c1, t1⟩ := hf 1 _ rfl
  obtain ⟨a1, e1, p1⟩ := dec_int Tryd.underlying3 _ _ _ t1
  obtain rfl := List.head_eq_of_cons_eq e1
  obtain ⟨v2, y2, c2, t2⟩ := hf 2 _ rfl
  obtain ⟨a2, e2, p2⟩ := dec_int Tryd.underlying3 _ _ _ t2
  obtain rfl := List.head_eq_of_cons_eq e2
  obtain ⟨v3, y3, c3, t3⟩ := hf 3 _ rfl
  obtain ⟨a3, e3, p3⟩ := dec_u8 Tryd.underlying70 _ _ _ t3
  obtain rfl := List.head_eq_of_cons_eq e3
  obtain ⟨v4, y4, c4, t4⟩ := hf 4 _ rfl
  obtain ⟨a4, e4, p4⟩ := dec_int Tryd.underlying3 _ _ _ t4
  obtain rfl := List.head_eq_of_cons_eq e4
  obtain ⟨v5, y5, c5, t5⟩ := hf 5 _ rfl
  obtain ⟨s5, l5, e5, p5, q5⟩ := open_sl1 Tryd.underlying39 (by kernel_rfl) (dec_int Tryd.underlying3) t5
  obtain rfl := List.head_eq_of_cons_eq e5
  obtain ⟨v6, y6, c6, t6⟩ := hf 6 _ rfl
  obtain ⟨s6, l6, e6, p6, q6⟩ := open_slN (k := 2) (g := nearV) Tryd.underlying71 (by kernel_rfl) (by decide) decNear (fun _ => rfl) t6
  obtain rfl := List.head_eq_of_cons_eq e6
  obtain ⟨v7, y7, c7, t7⟩ := hf 7 _ rfl
  obtain ⟨a7, e7, p7⟩ := dec_int Tryd.underlying3 _ _ _ t7
  obtain rfl := List.head_eq_of_cons_eq e7
  obtain rfl := len8 (show cs.length = 8 from hl) c0 c1 c2 c3 c4 c5 c6 c7
  exact ⟨⟨⟨a0, a1, a2, a3, a4, l5, l6, a7⟩, v5, v6⟩, rfl, ⟨p5, p6, p3⟩⟩
theorem decSite {H : Type} {enc : TypeId × Value → H} {w : World} {base : Nat} {spare : Nat → Bool} {held : Bool} : Dec enc w base spare held 29 (fun x : SiteVs × SiteD => siteC x.1 x.2) (fun x => SiteR w w.heap.size x.1 x.2) := by
  intro fuel cs x h
  obtain ⟨hl, m, hf⟩ := open_fields Tryd.underlying29 (by kernel_rfl) (by kernel_rfl) h
  obtain ⟨v0, y0, c0, t0⟩ := hf 0 _ rfl
  obtain ⟨s0, l0, e0, p0, q0⟩ := open_slN (k := 1) (g := feedV) Tryd.underlying22 (by kernel_rfl) (by decide) decFeed (fun _ => rfl) t0
  obtain rfl := List.head_eq_of_cons_eq e0
  obtain ⟨v1, y1, c1, t1⟩ := hf 1 _ rfl
  obtain ⟨s1, l1, e1, p1, q1⟩ := open_slN (k := 4) (g := breakerV) Tryd.underlying23 (by kernel_rfl) (by decide) decBreaker (fun _ => rfl) t1
  obtain rfl := List.head_eq_of_cons_eq e1
  obtain ⟨v2, y2, c2, t2⟩ := hf 2 _ rfl
  obtain ⟨s2, l2, e2, p2, q2⟩ := open_slN (k := 2) (g := loopV) Tryd.underlying24 (by kernel_rfl) (by decide) decLoop (fun _ => rfl) t2
  obtain rfl := List.head_eq_of_cons_eq e2
  obtain ⟨v3, y3, c3, t3⟩ := hf 3 _ rfl
  obtain ⟨s3, l3, e3, p3, q3⟩ := open_slN (k := 4) (g := rackV) Tryd.underlying25 (by kernel_rfl) (by decide) decRack (fun _ => rfl) t3
  obtain rfl := List.head_eq_of_cons_eq e3
  obtain ⟨v4, y4, c4, t4⟩ := hf 4 _ rfl
  obtain ⟨a4, e4, p4⟩ := dec_int Tryd.underlying3 _ _ _ t4
  obtain rfl := List.head_eq_of_cons_eq e4
  obtain ⟨v5, y5, c5, t5⟩ := hf 5 _ rfl
  obtain ⟨s5, l5, e5, p5, q5⟩ := open_slN (k := 3) (g := linkV) Tryd.underlying26 (by kernel_rfl) (by decide) decLink (fun _ => rfl) t5
  obtain rfl := List.head_eq_of_cons_eq e5
  obtain ⟨v6, y6, c6, t6⟩ := hf 6 _ rfl
  obtain ⟨s6, l6, e6, p6, q6⟩ := open_slN (k := 4) (g := hostV) Tryd.underlying27 (by kernel_rfl) (by decide) decHost (fun _ => rfl) t6
  obtain rfl := List.head_eq_of_cons_eq e6
  obtain rfl := len7 (show cs.length = 7 from hl) c0 c1 c2 c3 c4 c5 c6
  exact ⟨⟨⟨v0, v1, v2, v3, v5, v6⟩, ⟨l0, l1, l2, l3, a4, l5, l6⟩⟩, rfl, ⟨p0, p1, p2, p3, p5, p6⟩⟩
theorem decWish {H : Type} {enc : TypeId × Value → H} {w : World} {base : Nat} {spare : Nat → Bool} {held : Bool} : Dec enc w base spare held 32 (fun x : Value × List SrvV => [x.1]) (fun x => WishR w w.heap.size x.1 x.2 ∧ ∀ u ∈ x.2, 0 ≤ u.x.domain ∧ u.x.domain ≤ 255) := by
  intro fuel cs x h
  obtain ⟨hl, m, hf⟩ := open_fields Tryd.underlying32 (by kernel_rfl) (by kernel_rfl) h
  obtain ⟨v0, y0, c0, t0⟩ := hf 0 _ rfl
  obtain ⟨s0, l0, e0, p0, q0⟩ := open_slN (k := 8) (g := srvV) Tryd.underlying30 (by kernel_rfl) (by decide) decService (fun _ => rfl) t0
  obtain rfl := List.head_eq_of_cons_eq e0
  obtain rfl := len1 (show cs.length = 1 from hl) c0
  exact ⟨⟨v0, l0⟩, rfl, ⟨⟨p0, fun u hu => (q0 u hu).1, fun u hu => (q0 u hu).2.1⟩, fun u hu => (q0 u hu).2.2⟩⟩
theorem decInts {H : Type} {enc : TypeId × Value → H} {w : World} {base : Nat} {spare : Nat → Bool} {held : Bool} : Dec enc w base spare held 39 (fun x : Value × List Int => [x.1]) (fun x => Sl w w.heap.size none 1 x.1 (x.2.map intV)) := by
  intro fuel cs x h
  obtain ⟨v, l, e, p, _⟩ := open_sl1 Tryd.underlying39 (by kernel_rfl) (dec_int Tryd.underlying3) h
  exact ⟨(v, l), e, p⟩
theorem decPlan {H : Type} {enc : TypeId × Value → H} {w : World} {base : Nat} {spare : Nat → Bool} {held : Bool} : Dec enc w base spare held 36 (fun x : (Value × Value) × List Value × PlanD => [x.1.1, x.1.2]) (fun x => PlanR w w.heap.size x.1.1 x.1.2 x.2.1 x.2.2) := by
  intro fuel cs x h
  obtain ⟨hl, m, hf⟩ := open_fields Tryd.underlying36 (by kernel_rfl) (by kernel_rfl) h
  obtain ⟨v0, y0, c0, t0⟩ := hf 0 _ rfl
  obtain ⟨v1, y1, c1, t1⟩ := hf 1 _ rfl
  obtain ⟨s0, l0, e0, p0, q0⟩ := open_slN (k := 4) (g := stepV) Tryd.underlying33 (by kernel_rfl) (by decide) decStep (fun _ => rfl) t0
  obtain rfl := List.head_eq_of_cons_eq e0
  obtain ⟨s1, l1, e1, p1, q1⟩ := open_sl1 (f := fun x : Value × List Int => x.1) Tryd.underlying34 (by kernel_rfl) decInts t1
  obtain rfl := List.head_eq_of_cons_eq e1
  obtain rfl := len2 (show cs.length = 2 from hl) c0 c1
  refine ⟨⟨(_, _), l1.map (·.1), ⟨l0, l1.map (·.2)⟩⟩, rfl, ⟨p0, ⟨p1, by simp, fun i hi => ?_⟩⟩⟩
  simp only [List.length_map] at hi
  refine ⟨(l1[i]).1, by simp [List.getElem?_eq_getElem hi], ?_⟩
  simpa using q1 _ (List.getElem_mem hi)
end Go.Proofs.YtgickfllblmhpaaDoor
