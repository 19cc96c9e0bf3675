/- The bytes of layer 23, opened. -/
import Derived.Test.YtopfddchckdhgaaGreatOpen
import Derived.Test.YtopfddchckdhgaaGreatMadeH23
import Derived.OpenShut
namespace Go.Proofs.YtopfddchckdhgaaGreat
set_option linter.unusedSimpArgs false
set_option linter.unusedVariables false
open Go Go.RowKit Go.ChangeShapes Go.WideShapes Go.Deep
set_option maxRecDepth 100000
set_option linter.unusedSectionVars false
section
variable {H : Type} {enc : TypeId × Value → H} {w : World} {base : Nat} {spare : Nat → Bool} {held : Bool}
theorem dec_u16 {t : TypeId} (ht : Tryz.prog.underlying t = some (.int .u16)) : Dec enc w base spare held t (fun n : Int => [.int .u16 n]) fun n => 0 ≤ n ∧ n ≤ 65535 := by
  intro fuel cs x h
  obtain ⟨n, rfl, _, hw⟩ := DataW.trod_int ht h
  refine ⟨n, rfl, ?_⟩
  simp [Lit.wf, IntKind.min, IntKind.max, IntKind.signed, IntKind.bits] at hw
  omega
/-- A struct's fields, by their places. -/
theorem open_parts {t : TypeId} {fs : Array Field} {fuel : Nat} {cs : List Value} {x : DataW H × List MemPlace} (ht : Tryz.prog.underlying t = some (.struct fs)) (h : DataW.trod enc Tryz.prog w base spare held fuel t cs = some x) :
    cs.length = Tryz.prog.cellsOf t ∧ ∃ m, ∀ (j : Nat) (ty : TypeId) (off k : Nat), (fs[j]?.map fun f => (f.type, f.offset)) = some (ty, off) → Tryz.prog.cellsOf ty = k → ∃ y, DataW.trod enc Tryz.prog w base spare held m ty ((cs.drop off).take k) = some y := by
  obtain ⟨xs, n, _, _, hl, hlen, hf⟩ := DataW.trod_struct ht h
  refine ⟨hl, n, fun j ty off k hq hk => ?_⟩
  obtain ⟨f, hj, e⟩ := Option.map_eq_some_iff.1 hq
  obtain ⟨rfl, rfl⟩ := Prod.mk.inj e
  subst hk
  have hjl : j < xs.length := by rw [hlen]; exact (Array.getElem?_eq_some_iff.1 hj).1
  exact ⟨xs[j], (hf j f hj).trans (List.getElem?_eq_getElem hjl)⟩
theorem dec_array {t e : TypeId} {n : Nat} (ht : Tryz.prog.underlying t = some (.array n e)) (hC : Tryz.prog.cellsOf t = n) (he : Tryz.prog.cellsOf e = 1) (hu : Tryz.prog.underlying e = some (.int .u8)) {fuel : Nat} {cs : List Value} {x : DataW H × List MemPlace} (h : DataW.trod enc Tryz.prog w base spare held fuel t cs = some x) :
    cs.length = n ∧ ∀ i, i < n → ∃ k : Int, cs[i]? = some (.int .u8 k) ∧ b8 k := by
  obtain ⟨xs, m, _, _, hl, hlen, hf⟩ := DataW.trod_array ht h
  refine ⟨hl.trans hC, fun i hi => ?_⟩
  have h1 := hf i hi
  rw [he, Nat.mul_one] at h1
  have hic : i < cs.length := by rw [hl, hC]; exact hi
  have h2 : (cs.drop i).take 1 = [cs[i]] := by rw [List.drop_eq_getElem_cons hic]; rfl
  rw [h2, List.getElem?_eq_getElem (by rw [hlen]; exact hi)] at h1
  obtain ⟨k, hk, hb⟩ := dec_u8 hu _ _ _ h1
  exact ⟨k, by rw [List.getElem?_eq_getElem hic]; exact congrArg some (List.head_eq_of_cons_eq hk), hb⟩
theorem dec_quad : Dec enc w base spare held 93 (fun x : Int × Int × Int × Int => [b8V x.1, b8V x.2.1, b8V x.2.2.1, b8V x.2.2.2]) fun x => b8 x.1 ∧ b8 x.2.1 ∧ b8 x.2.2.1 ∧ b8 x.2.2.2 := by
  intro fuel cs x h
  obtain ⟨hl, ha⟩ := dec_array Tryz.underlying93 KR KR Tryz.underlying5 h
  obtain ⟨k0, e0, b0⟩ := ha 0 (by decide)
  obtain ⟨k1, e1, b1⟩ := ha 1 (by decide)
  obtain ⟨k2, e2, b2⟩ := ha 2 (by decide)
  obtain ⟨k3, e3, b3⟩ := ha 3 (by decide)
  exact ⟨(k0, k1, k2, k3), len4 hl e0 e1 e2 e3, b0, b1, b2, b3⟩
theorem decB8s : Dec enc w base spare held 50 (fun x : Value × List Int => [x.1]) (fun x => Sl w w.heap.size none 1 x.1 (x.2.map b8V) ∧ ∀ n ∈ x.2, b8 n) := by
  intro fuel cs x h
  obtain ⟨v, l, e, p, q⟩ := open_sl1 (f := fun n : Int => Value.int .u8 n) Tryz.underlying50 KR (dec_u8 Tryz.underlying5) h
  exact ⟨(v, l), e, p, q⟩
theorem decRaw : Dec enc w base spare held 55 rawC (fun r => RawR w w.heap.size r) := by
  intro fuel cs x h
  obtain ⟨hl, m, hf⟩ := open_parts Tryz.underlying55 h
  have c0 : Tryz.prog.cellsOf 55 = 18 := by kernel_rfl
  have c1 : Tryz.prog.cellsOf 50 = 1 := by kernel_rfl
  have c2 : Tryz.prog.cellsOf 51 = 1 := by kernel_rfl
  have c3 : Tryz.prog.cellsOf 52 = 8 := by kernel_rfl
  have c4 : Tryz.prog.cellsOf 53 = 1 := by kernel_rfl
  have c5 : Tryz.prog.cellsOf 5 = 1 := by kernel_rfl
  rw [c0] at hl
  match cs, hl with
  | [v0, v1, v2, u0, u1, u2, u3, u4, u5, u6, u7, v11, v12, v13, v14, v15, v16, v17], _ =>
    obtain ⟨y0, t0⟩ := (show ∃ y, DataW.trod enc Tryz.prog w base spare held m 50 [v0] = some y from hf 0 50 0 1 (by rfl) c1)
    obtain ⟨y1, t1⟩ := (show ∃ y, DataW.trod enc Tryz.prog w base spare held m 50 [v1] = some y from hf 1 50 1 1 (by rfl) c1)
    obtain ⟨y2, t2⟩ := (show ∃ y, DataW.trod enc Tryz.prog w base spare held m 51 [v2] = some y from hf 2 51 2 1 (by rfl) c2)
    obtain ⟨y3, t3⟩ := (show ∃ y, DataW.trod enc Tryz.prog w base spare held m 52 [u0, u1, u2, u3, u4, u5, u6, u7] = some y from hf 3 52 3 8 (by rfl) c3)
    obtain ⟨y4, t4⟩ := (show ∃ y, DataW.trod enc Tryz.prog w base spare held m 53 [v11] = some y from hf 4 53 11 1 (by rfl) c4)
    obtain ⟨y5, t5⟩ := (show ∃ y, DataW.trod enc Tryz.prog w base spare held m 50 [v12] = some y from hf 5 50 12 1 (by rfl) c1)
    obtain ⟨y6, t6⟩ := (show ∃ y, DataW.trod enc Tryz.prog w base spare held m 50 [v13] = some y from hf 6 50 13 1 (by rfl) c1)
    obtain ⟨y7, t7⟩ := (show ∃ y, DataW.trod enc Tryz.prog w base spare held m 5 [v14] = some y from hf 7 5 14 1 (by rfl) c5)
    obtain ⟨y8, t8⟩ := (show ∃ y, DataW.trod enc Tryz.prog w base spare held m 5 [v15] = some y from hf 8 5 15 1 (by rfl) c5)
    obtain ⟨y9, t9⟩ := (show ∃ y, DataW.trod enc Tryz.prog w base spare held m 5 [v16] = some y from hf 9 5 16 1 (by rfl) c5)
    obtain ⟨y10, t10⟩ := (show ∃ y, DataW.trod enc Tryz.prog w base spare held m 5 [v17] = some y from hf 10 5 17 1 (by rfl) c5)
    clear hf
    obtain ⟨⟨s0, l0⟩, e0, p0, q0⟩ := decB8s _ _ _ t0
    obtain rfl := List.head_eq_of_cons_eq e0
    obtain ⟨⟨s1, l1⟩, e1, p1, q1⟩ := decB8s _ _ _ t1
    obtain rfl := List.head_eq_of_cons_eq e1
    obtain ⟨s2, l2, e2, p2, q2⟩ := open_sl1 (f := fun n : Int => Value.int .u16 n) Tryz.underlying51 KR (dec_u16 Tryz.underlying64) t2
    obtain rfl := List.head_eq_of_cons_eq e2
    obtain ⟨_, ha⟩ := dec_array Tryz.underlying52 KR KR Tryz.underlying5 t3
    obtain ⟨k0, f0, g0⟩ := ha 0 (by decide)
    obtain ⟨k1, f1, g1⟩ := ha 1 (by decide)
    obtain ⟨k2, f2, g2⟩ := ha 2 (by decide)
    obtain ⟨k3, f3, g3⟩ := ha 3 (by decide)
    obtain ⟨k4, f4, g4⟩ := ha 4 (by decide)
    obtain ⟨k5, f5, g5⟩ := ha 5 (by decide)
    obtain ⟨k6, f6, g6⟩ := ha 6 (by decide)
    obtain ⟨k7, f7, g7⟩ := ha 7 (by decide)
    clear ha t3
    obtain rfl : u0 = _ := Option.some.inj f0
    obtain rfl : u1 = _ := Option.some.inj f1
    obtain rfl : u2 = _ := Option.some.inj f2
    obtain rfl : u3 = _ := Option.some.inj f3
    obtain rfl : u4 = _ := Option.some.inj f4
    obtain rfl : u5 = _ := Option.some.inj f5
    obtain rfl : u6 = _ := Option.some.inj f6
    obtain rfl : u7 = _ := Option.some.inj f7
    obtain ⟨s4, l4, e4, p4, q4⟩ := open_slN (k := 4) (g := quadV) Tryz.underlying53 KR (by decide) dec_quad (fun _ => rfl) t4
    obtain rfl := List.head_eq_of_cons_eq e4
    obtain ⟨⟨s5, l5⟩, e5, p5, q5⟩ := decB8s _ _ _ t5
    obtain rfl := List.head_eq_of_cons_eq e5
    obtain ⟨⟨s6, l6⟩, e6, p6, q6⟩ := decB8s _ _ _ t6
    obtain rfl := List.head_eq_of_cons_eq e6
    obtain ⟨n7, e7, p7⟩ := dec_u8 Tryz.underlying5 _ _ _ t7
    obtain rfl := List.head_eq_of_cons_eq e7
    obtain ⟨n8, e8, p8⟩ := dec_u8 Tryz.underlying5 _ _ _ t8
    obtain rfl := List.head_eq_of_cons_eq e8
    obtain ⟨n9, e9, p9⟩ := dec_u8 Tryz.underlying5 _ _ _ t9
    obtain rfl := List.head_eq_of_cons_eq e9
    obtain ⟨n10, e10, p10⟩ := dec_u8 Tryz.underlying5 _ _ _ t10
    obtain rfl := List.head_eq_of_cons_eq e10
    exact ⟨⟨v0, v1, v2, v11, v12, v13, l0, l1, l2, l5, l6, l4, k0, k1, k2, k3, k4, k5, k6, k7, n7, n8, n9, n10⟩, rfl, ⟨p0, q0, p1, q1, p2, q2, p4, q4, p5, q5, p6, q6, ⟨g0, g1, g2, g3, g4, g5, g6, g7⟩, ⟨p7, p8, p9, p10⟩⟩⟩
end
end Go.Proofs.YtopfddchckdhgaaGreat
/- Terms and plans of layer 23, opened. -/
namespace Go.Proofs.YtopfddchckdhgaaGreat
set_option linter.unusedSimpArgs false
set_option linter.unusedVariables false
open Go Go.RowKit Go.ChangeShapes Go.WideShapes Go.Deep
set_option maxRecDepth 100000
set_option linter.unusedSectionVars false
theorem decFeedM {H : Type} {enc : TypeId × Value → H} {w : World} {base : Nat} {spare : Nat → Bool} {held : Bool} : Dec enc w base spare held 134 (fun x : FeedD => [intV x.limit]) (fun x => True) := by
  intro fuel cs x h
  obtain ⟨hl, m, hf⟩ := open_fields Tryz.underlying134 KR KR h
  obtain ⟨v0, y0, c0, t0⟩ := hf 0 _ rfl
  obtain ⟨a0, e0, p0⟩ := dec_int Tryz.underlying3 _ _ _ t0
  obtain rfl := List.head_eq_of_cons_eq e0
  obtain rfl := len1 (show cs.length = 1 from hl) c0
  exact ⟨⟨a0⟩, rfl, trivial⟩
theorem decBreakerM {H : Type} {enc : TypeId × Value → H} {w : World} {base : Nat} {spare : Nat → Bool} {held : Bool} : Dec enc w base spare held 138 (fun x : BreakerD => [intV x.feed, intV x.limit, intV x.slow, intV x.fast]) (fun x => True) := by
  intro fuel cs x h
  obtain ⟨hl, m, hf⟩ := open_fields Tryz.underlying138 KR KR h
  obtain ⟨v0, y0, c0, t0⟩ := hf 0 _ rfl
  obtain ⟨a0, e0, p0⟩ := dec_int Tryz.underlying3 _ _ _ t0
  obtain rfl := List.head_eq_of_cons_eq e0
  obtain ⟨v1, y1, c1, t1⟩ := hf 1 _ rfl
  obtain ⟨a1, e1, p1⟩ := dec_int Tryz.underlying3 _ _ _ t1
  obtain rfl := List.head_eq_of_cons_eq e1
  obtain ⟨v2, y2, c2, t2⟩ := hf 2 _ rfl
  obtain ⟨a2, e2, p2⟩ := dec_int Tryz.underlying3 _ _ _ t2
  obtain rfl := List.head_eq_of_cons_eq e2
  obtain ⟨v3, y3, c3, t3⟩ := hf 3 _ rfl
  obtain ⟨a3, e3, p3⟩ := dec_int Tryz.underlying3 _ _ _ t3
  obtain rfl := List.head_eq_of_cons_eq e3
  obtain rfl := len4 (show cs.length = 4 from hl) c0 c1 c2 c3
  exact ⟨⟨a0, a1, a2, a3⟩, rfl, trivial⟩
theorem decLoopM {H : Type} {enc : TypeId × Value → H} {w : World} {base : Nat} {spare : Nat → Bool} {held : Bool} : Dec enc w base spare held 142 (fun x : LoopD => [intV x.carry, intV x.delay]) (fun x => True) := by
  intro fuel cs x h
  obtain ⟨hl, m, hf⟩ := open_fields Tryz.underlying142 KR KR h
  obtain ⟨v0, y0, c0, t0⟩ := hf 0 _ rfl
  obtain ⟨a0, e0, p0⟩ := dec_int Tryz.underlying3 _ _ _ t0
  obtain rfl := List.head_eq_of_cons_eq e0
  obtain ⟨v1, y1, c1, t1⟩ := hf 1 _ rfl
  obtain ⟨a1, e1, p1⟩ := dec_int Tryz.underlying3 _ _ _ t1
  obtain rfl := List.head_eq_of_cons_eq e1
  obtain rfl := len2 (show cs.length = 2 from hl) c0 c1
  exact ⟨⟨a0, a1⟩, rfl, trivial⟩
theorem decRackM {H : Type} {enc : TypeId × Value → H} {w : World} {base : Nat} {spare : Nat → Bool} {held : Bool} : Dec enc w base spare held 107 (fun x : RackD => [intV x.row, intV x.breaker, intV x.loop, intV x.sw]) (fun x => True) := by
  intro fuel cs x h
  obtain ⟨hl, m, hf⟩ := open_fields Tryz.underlying107 KR KR h
  obtain ⟨v0, y0, c0, t0⟩ := hf 0 _ rfl
  obtain ⟨a0, e0, p0⟩ := dec_int Tryz.underlying3 _ _ _ t0
  obtain rfl := List.head_eq_of_cons_eq e0
  obtain ⟨v1, y1, c1, t1⟩ := hf 1 _ rfl
  obtain ⟨a1, e1, p1⟩ := dec_int Tryz.underlying3 _ _ _ t1
  obtain rfl := List.head_eq_of_cons_eq e1
  obtain ⟨v2, y2, c2, t2⟩ := hf 2 _ rfl
  obtain ⟨a2, e2, p2⟩ := dec_int Tryz.underlying3 _ _ _ t2
  obtain rfl := List.head_eq_of_cons_eq e2
  obtain ⟨v3, y3, c3, t3⟩ := hf 3 _ rfl
  obtain ⟨a3, e3, p3⟩ := dec_int Tryz.underlying3 _ _ _ t3
  obtain rfl := List.head_eq_of_cons_eq e3
  obtain rfl := len4 (show cs.length = 4 from hl) c0 c1 c2 c3
  exact ⟨⟨a0, a1, a2, a3⟩, rfl, trivial⟩
theorem decLinkM {H : Type} {enc : TypeId × Value → H} {w : World} {base : Nat} {spare : Nat → Bool} {held : Bool} : Dec enc w base spare held 146 (fun x : LinkD => [intV x.a, intV x.b, intV x.latency]) (fun x => True) := by
  intro fuel cs x h
  obtain ⟨hl, m, hf⟩ := open_fields Tryz.underlying146 KR KR h
  obtain ⟨v0, y0, c0, t0⟩ := hf 0 _ rfl
  obtain ⟨a0, e0, p0⟩ := dec_int Tryz.underlying3 _ _ _ t0
  obtain rfl := List.head_eq_of_cons_eq e0
  obtain ⟨v1, y1, c1, t1⟩ := hf 1 _ rfl
  obtain ⟨a1, e1, p1⟩ := dec_int Tryz.underlying3 _ _ _ t1
  obtain rfl := List.head_eq_of_cons_eq e1
  obtain ⟨v2, y2, c2, t2⟩ := hf 2 _ rfl
  obtain ⟨a2, e2, p2⟩ := dec_int Tryz.underlying3 _ _ _ t2
  obtain rfl := List.head_eq_of_cons_eq e2
  obtain rfl := len3 (show cs.length = 3 from hl) c0 c1 c2
  exact ⟨⟨a0, a1, a2⟩, rfl, trivial⟩
theorem decHostM {H : Type} {enc : TypeId × Value → H} {w : World} {base : Nat} {spare : Nat → Bool} {held : Bool} : Dec enc w base spare held 109 (fun x : HostD => [intV x.rack, intV x.cores, intV x.idle, intV x.perCore]) (fun x => True) := by
  intro fuel cs x h
  obtain ⟨hl, m, hf⟩ := open_fields Tryz.underlying109 KR KR h
  obtain ⟨v0, y0, c0, t0⟩ := hf 0 _ rfl
  obtain ⟨a0, e0, p0⟩ := dec_int Tryz.underlying3 _ _ _ t0
  obtain rfl := List.head_eq_of_cons_eq e0
  obtain ⟨v1, y1, c1, t1⟩ := hf 1 _ rfl
  obtain ⟨a1, e1, p1⟩ := dec_int Tryz.underlying3 _ _ _ t1
  obtain rfl := List.head_eq_of_cons_eq e1
  obtain ⟨v2, y2, c2, t2⟩ := hf 2 _ rfl
  obtain ⟨a2, e2, p2⟩ := dec_int Tryz.underlying3 _ _ _ t2
  obtain rfl := List.head_eq_of_cons_eq e2
  obtain ⟨v3, y3, c3, t3⟩ := hf 3 _ rfl
  obtain ⟨a3, e3, p3⟩ := dec_int Tryz.underlying3 _ _ _ t3
  obtain rfl := List.head_eq_of_cons_eq e3
  obtain rfl := len4 (show cs.length = 4 from hl) c0 c1 c2 c3
  exact ⟨⟨a0, a1, a2, a3⟩, rfl, trivial⟩
theorem decSiteM {H : Type} {enc : TypeId × Value → H} {w : World} {base : Nat} {spare : Nat → Bool} {held : Bool} : Dec enc w base spare held 29 (fun x : SiteVs × SiteD => siteC x.1 x.2) (fun x => SiteR w w.heap.size x.1 x.2) := by
  intro fuel cs x h
  obtain ⟨hl, m, hf⟩ := open_fields Tryz.underlying29 KR KR h
  obtain ⟨v0, y0, c0, t0⟩ := hf 0 _ rfl
  obtain ⟨s0, l0, e0, p0, q0⟩ := open_slN (k := 1) (g := feedV) Tryz.underlying22 KR (by decide) decFeedM (fun _ => rfl) t0
  obtain rfl := List.head_eq_of_cons_eq e0
  obtain ⟨v1, y1, c1, t1⟩ := hf 1 _ rfl
  obtain ⟨s1, l1, e1, p1, q1⟩ := open_slN (k := 4) (g := breakerV) Tryz.underlying23 KR (by decide) decBreakerM (fun _ => rfl) t1
  obtain rfl := List.head_eq_of_cons_eq e1
  obtain ⟨v2, y2, c2, t2⟩ := hf 2 _ rfl
  obtain ⟨s2, l2, e2, p2, q2⟩ := open_slN (k := 2) (g := loopV) Tryz.underlying24 KR (by decide) decLoopM (fun _ => rfl) t2
  obtain rfl := List.head_eq_of_cons_eq e2
  obtain ⟨v3, y3, c3, t3⟩ := hf 3 _ rfl
  obtain ⟨s3, l3, e3, p3, q3⟩ := open_slN (k := 4) (g := rackV) Tryz.underlying25 KR (by decide) decRackM (fun _ => rfl) t3
  obtain rfl := List.head_eq_of_cons_eq e3
  obtain ⟨v4, y4, c4, t4⟩ := hf 4 _ rfl
  obtain ⟨a4, e4, p4⟩ := dec_int Tryz.underlying3 _ _ _ t4
  obtain rfl := List.head_eq_of_cons_eq e4
  obtain ⟨v5, y5, c5, t5⟩ := hf 5 _ rfl
  obtain ⟨s5, l5, e5, p5, q5⟩ := open_slN (k := 3) (g := linkV) Tryz.underlying26 KR (by decide) decLinkM (fun _ => rfl) t5
  obtain rfl := List.head_eq_of_cons_eq e5
  obtain ⟨v6, y6, c6, t6⟩ := hf 6 _ rfl
  obtain ⟨s6, l6, e6, p6, q6⟩ := open_slN (k := 4) (g := hostV) Tryz.underlying27 KR (by decide) decHostM (fun _ => rfl) t6
  obtain rfl := List.head_eq_of_cons_eq e6
  obtain rfl := len7 (show cs.length = 7 from hl) c0 c1 c2 c3 c4 c5 c6
  exact ⟨⟨⟨v0, v1, v2, v3, v5, v6⟩, ⟨l0, l1, l2, l3, a4, l5, l6⟩⟩, rfl, ⟨p0, p1, p2, p3, p5, p6⟩⟩
theorem decStepM {H : Type} {enc : TypeId × Value → H} {w : World} {base : Nat} {spare : Nat → Bool} {held : Bool} : Dec enc w base spare held 71 (fun x : StepD => stepC x) (fun x => 0 ≤ x.kind ∧ x.kind ≤ 255) := by
  intro fuel cs x h
  obtain ⟨hl, m, hf⟩ := open_fields Tryz.underlying71 KR KR h
  obtain ⟨v0, y0, c0, t0⟩ := hf 0 _ rfl
  obtain ⟨a0, e0, p0⟩ := dec_u8 Tryz.underlying69 _ _ _ t0
  obtain rfl := List.head_eq_of_cons_eq e0
  obtain ⟨v1, y1, c1, t1⟩ := hf 1 _ rfl
  obtain ⟨a1, e1, p1⟩ := dec_int Tryz.underlying3 _ _ _ t1
  obtain rfl := List.head_eq_of_cons_eq e1
  obtain ⟨v2, y2, c2, t2⟩ := hf 2 _ rfl
  obtain ⟨a2, e2, p2⟩ := dec_int Tryz.underlying3 _ _ _ t2
  obtain rfl := List.head_eq_of_cons_eq e2
  obtain ⟨v3, y3, c3, t3⟩ := hf 3 _ rfl
  obtain ⟨a3, e3, p3⟩ := dec_int Tryz.underlying3 _ _ _ t3
  obtain rfl := List.head_eq_of_cons_eq e3
  obtain rfl := len4 (show cs.length = 4 from hl) c0 c1 c2 c3
  exact ⟨⟨a0, a1, a2, a3⟩, rfl, p0⟩
theorem decWindowM {H : Type} {enc : TypeId × Value → H} {w : World} {base : Nat} {spare : Nat → Bool} {held : Bool} : Dec enc w base spare held 79 (fun x : WindowD => windowC x) (fun x => 0 ≤ x.domain ∧ x.domain ≤ 255) := by
  intro fuel cs x h
  obtain ⟨hl, m, hf⟩ := open_fields Tryz.underlying79 KR KR h
  obtain ⟨v0, y0, c0, t0⟩ := hf 0 _ rfl
  obtain ⟨a0, e0, p0⟩ := dec_u8 Tryz.underlying77 _ _ _ t0
  obtain rfl := List.head_eq_of_cons_eq e0
  obtain ⟨v1, y1, c1, t1⟩ := hf 1 _ rfl
  obtain ⟨a1, e1, p1⟩ := dec_int Tryz.underlying3 _ _ _ t1
  obtain rfl := List.head_eq_of_cons_eq e1
  obtain ⟨v2, y2, c2, t2⟩ := hf 2 _ rfl
  obtain ⟨a2, e2, p2⟩ := dec_int Tryz.underlying3 _ _ _ t2
  obtain rfl := List.head_eq_of_cons_eq e2
  obtain ⟨v3, y3, c3, t3⟩ := hf 3 _ rfl
  obtain ⟨a3, e3, p3⟩ := dec_int Tryz.underlying3 _ _ _ t3
  obtain rfl := List.head_eq_of_cons_eq e3
  obtain rfl := len4 (show cs.length = 4 from hl) c0 c1 c2 c3
  exact ⟨⟨a0, a1, a2, a3⟩, rfl, p0⟩
theorem decAreaM {H : Type} {enc : TypeId × Value → H} {w : World} {base : Nat} {spare : Nat → Bool} {held : Bool} : Dec enc w base spare held 81 (fun x : AreaD => areaC x) (fun x => 0 ≤ x.domain ∧ x.domain ≤ 255) := by
  intro fuel cs x h
  obtain ⟨hl, m, hf⟩ := open_fields Tryz.underlying81 KR KR h
  obtain ⟨v0, y0, c0, t0⟩ := hf 0 _ rfl
  obtain ⟨a0, e0, p0⟩ := dec_u8 Tryz.underlying77 _ _ _ t0
  obtain rfl := List.head_eq_of_cons_eq e0
  obtain ⟨v1, y1, c1, t1⟩ := hf 1 _ rfl
  obtain ⟨a1, e1, p1⟩ := dec_int Tryz.underlying3 _ _ _ t1
  obtain rfl := List.head_eq_of_cons_eq e1
  obtain rfl := len2 (show cs.length = 2 from hl) c0 c1
  exact ⟨⟨a0, a1⟩, rfl, p0⟩
section
variable {H : Type} {enc : TypeId × Value → H} {w : World} {base : Nat} {spare : Nat → Bool} {held : Bool}
theorem decIntsM : Dec enc w base spare held 39 (fun x : Value × List Int => [x.1]) (fun x => Sl w w.heap.size none 1 x.1 (x.2.map intV)) := by
  intro fuel cs x h
  obtain ⟨v, l, e, p, _⟩ := open_sl1 Tryz.underlying39 KR (dec_int Tryz.underlying3) h
  exact ⟨(v, l), e, p⟩
theorem decPlanM : Dec enc w base spare held 33 (fun x : (Value × Value) × List Value × PlanD => [x.1.1, x.1.2]) (fun x => PlanT w w.heap.size x.1.1 x.1.2 x.2.1 x.2.2 ∧ ∀ t ∈ x.2.2.steps, 0 ≤ t.kind ∧ t.kind ≤ 255) := by
  intro fuel cs x h
  obtain ⟨hl, m, hf⟩ := open_fields Tryz.underlying33 KR KR h
  obtain ⟨v0, y0, c0, t0⟩ := hf 0 _ rfl
  obtain ⟨v1, y1, c1, t1⟩ := hf 1 _ rfl
  obtain ⟨s0, l0, e0, p0, q0⟩ := open_slN (k := 4) (g := stepV) Tryz.underlying30 KR (by decide) decStepM (fun _ => rfl) t0
  obtain rfl := List.head_eq_of_cons_eq e0
  obtain ⟨s1, l1, e1, p1, q1⟩ := open_sl1 (f := fun x : Value × List Int => x.1) Tryz.underlying31 KR decIntsM t1
  obtain rfl := List.head_eq_of_cons_eq e1
  obtain rfl := len2 (show cs.length = 2 from hl) c0 c1
  refine ⟨((v0, v1), l1.map (·.1), ⟨l0, l1.map (·.2)⟩), rfl, ⟨p0, p1, by simp, fun i hi => ?_⟩, q0⟩
  have hi' : i < l1.length := by simpa using hi
  refine ⟨(l1[i]).1, by simp [List.getElem?_eq_getElem hi'], ?_⟩
  simpa using q1 _ (List.getElem_mem hi')
theorem decTermsM : Dec enc w base spare held 41 (fun x : TermsVs × TermsD => termsC x.1 x.2) (fun x => TermsT w w.heap.size x.1 x.2 ∧ (∀ y ∈ x.2.windows, 0 ≤ y.domain ∧ y.domain ≤ 255) ∧ ∀ y ∈ x.2.areas, 0 ≤ y.domain ∧ y.domain ≤ 255) := by
  intro fuel cs x h
  obtain ⟨hl, m, hf⟩ := open_parts Tryz.underlying41 h
  have c0 : Tryz.prog.cellsOf 41 = 8 := by kernel_rfl
  have c1 : Tryz.prog.cellsOf 38 = 4 := by kernel_rfl
  have c2 : Tryz.prog.cellsOf 39 = 1 := by kernel_rfl
  have c3 : Tryz.prog.cellsOf 3 = 1 := by kernel_rfl
  have c4 : Tryz.prog.cellsOf 34 = 1 := by kernel_rfl
  have c5 : Tryz.prog.cellsOf 35 = 1 := by kernel_rfl
  have c6 : Tryz.prog.cellsOf 36 = 1 := by kernel_rfl
  rw [c0] at hl
  match cs, hl with
  | [v0, v1, v2, v3, v4, v5, v6, v7], _ =>
    obtain ⟨y0, t0⟩ := (show ∃ y, DataW.trod enc Tryz.prog w base spare held m 38 [v0, v1, v2, v3] = some y from hf 0 38 0 4 (by rfl) c1)
    obtain ⟨y1, t1⟩ := (show ∃ y, DataW.trod enc Tryz.prog w base spare held m 39 [v4] = some y from hf 1 39 4 1 (by rfl) c2)
    obtain ⟨y2, t2⟩ := (show ∃ y, DataW.trod enc Tryz.prog w base spare held m 39 [v5] = some y from hf 2 39 5 1 (by rfl) c2)
    obtain ⟨y3, t3⟩ := (show ∃ y, DataW.trod enc Tryz.prog w base spare held m 3 [v6] = some y from hf 3 3 6 1 (by rfl) c3)
    obtain ⟨y4, t4⟩ := (show ∃ y, DataW.trod enc Tryz.prog w base spare held m 3 [v7] = some y from hf 4 3 7 1 (by rfl) c3)
    clear hf
    obtain ⟨_, m2, hf⟩ := open_parts Tryz.underlying38 t0
    obtain ⟨z0, u0⟩ := (show ∃ y, DataW.trod enc Tryz.prog w base spare held m2 34 [v0] = some y from hf 0 34 0 1 (by rfl) c4)
    obtain ⟨z1, u1⟩ := (show ∃ y, DataW.trod enc Tryz.prog w base spare held m2 35 [v1] = some y from hf 1 35 1 1 (by rfl) c5)
    obtain ⟨z2, u2⟩ := (show ∃ y, DataW.trod enc Tryz.prog w base spare held m2 3 [v2] = some y from hf 2 3 2 1 (by rfl) c3)
    obtain ⟨z3, u3⟩ := (show ∃ y, DataW.trod enc Tryz.prog w base spare held m2 36 [v3] = some y from hf 3 36 3 1 (by rfl) c6)
    clear hf
    obtain ⟨s0, l0, e0, p0, q0⟩ := open_slN (k := 4) (g := windowV) Tryz.underlying34 KR (by decide) decWindowM (fun _ => rfl) u0
    obtain rfl := List.head_eq_of_cons_eq e0
    obtain ⟨s1, l1, e1, p1, q1⟩ := open_slN (k := 2) (g := areaV) Tryz.underlying35 KR (by decide) decAreaM (fun _ => rfl) u1
    obtain rfl := List.head_eq_of_cons_eq e1
    obtain ⟨a2, e2, _⟩ := dec_int Tryz.underlying3 _ _ _ u2
    obtain rfl := List.head_eq_of_cons_eq e2
    have hc3 : v3.oneCell' = true := by
      rcases DataW.trod_slice Tryz.underlying36 u3 with ⟨e, _⟩ | ⟨a, len, cap, _, _, _, _, e, _⟩
      · rw [List.head_eq_of_cons_eq e]; rfl
      · rw [List.head_eq_of_cons_eq e]; rfl
    obtain ⟨⟨s4, l4⟩, e4, p4⟩ := decIntsM _ _ _ t1
    obtain rfl := List.head_eq_of_cons_eq e4
    obtain ⟨⟨s5, l5⟩, e5, p5⟩ := decIntsM _ _ _ t2
    obtain rfl := List.head_eq_of_cons_eq e5
    obtain ⟨a6, e6, _⟩ := dec_int Tryz.underlying3 _ _ _ t3
    obtain rfl := List.head_eq_of_cons_eq e6
    obtain ⟨a7, e7, _⟩ := dec_int Tryz.underlying3 _ _ _ t4
    obtain rfl := List.head_eq_of_cons_eq e7
    exact ⟨(⟨v0, v1, v3, v4, v5⟩, ⟨l0, l1, a2, l4, l5, a6, a7⟩), rfl, ⟨p0, p1, p4, p5, hc3⟩, q0, q1⟩
end
end Go.Proofs.YtopfddchckdhgaaGreat
