
/- The bytes of layer 23, opened. -/
import Derived.Test.YtopfddchckdhgaaGreatOpen
import Derived.Test.YtopfddchckdhgaaGreatMadeH23
import Derived.OpenShut
namespace Go.Proofs.YtopfddchckdhgaaGreat
set_option linter.unusedSimpArgs false
set_option linter.unusedVariables false
open Go Go.RowKit Go.ChangeShapes Go.WideShapes Go.Deep
set_option maxRecDepth 100000
set_option linter.unusedSectionVars false
section
variable {H : Type} {enc : TypeId × Value → H} {w : World} {base : Nat} {spare : Nat → Bool} {held : Bool}
theorem dec_u16 {t : TypeId} (ht : Tryz.prog.underlying t = some (.int .u16)) : Dec enc w base spare held t (fun n : Int => [.int .u16 n]) fun n => 0 ≤ n ∧ n ≤ 65535 := by
  intro fuel cs x h
  obtain ⟨n, rfl, _, hw⟩ := DataW.trod_int ht h
  refine ⟨n, rfl, ?_⟩
  simp [Lit.wf, IntKind.min, IntKind.max, IntKind.signed, IntKind.bits] at hw
  omega
/-- A struct's fields, by their places. -/
theorem open_parts {t : TypeId} {fs : Array Field} {fuel : Nat} {cs : List Value} {x : DataW H × List MemPlace} (ht : Tryz.prog.underlying t = some (.struct fs)) (h : DataW.trod enc Tryz.prog w base spare held fuel t cs = some x) :
    cs.length = Tryz.prog.cellsOf t ∧ ∃ m, ∀ (j : Nat) (ty : TypeId) (off k : Nat), (fs[j]?.map fun f => (f.type, f.offset)) = some (ty, off) → Tryz.prog.cellsOf ty = k → ∃ y, DataW.trod enc Tryz.prog w base spare held m ty ((cs.drop off).take k) = some y := by
  obtain ⟨xs, n, _, _, hl, hlen, hf⟩ := DataW.trod_struct ht h
  refine ⟨hl, n, fun j ty off k hq hk => ?_⟩
  obtain ⟨f, hj, e⟩ := Option.map_eq_some_iff.1 hq
  obtain ⟨rfl, rfl⟩ := Prod.mk.inj e
  subst hk
  have hjl : j < xs.length := by rw [hlen]; exact (Array.getElem?_eq_some_iff.1 hj).1
  exact ⟨xs[j], (hf j f hj).trans (List.getElem?_eq_getElem hjl)⟩
theorem dec_array {t e : TypeId} {n : Nat} (ht : Tryz.prog.underlying t = some (.array n e)) (hC : Tryz.prog.cellsOf t = n) (he : Tryz.prog.cellsOf e = 1) (hu : Tryz.prog.underlying e = some (.int .u8)) {fuel : Nat} {cs : List Value} {x : DataW H × List MemPlace} (h : DataW.trod enc Tryz.prog w base spare held fuel t cs = some x) :
    cs.length = n ∧ ∀ i, i < n → ∃ k : Int, cs[i]? = some (.int .u8 k) ∧ b8 k := by
  obtain ⟨xs, m, _, _, hl, hlen, hf⟩ := DataW.trod_array ht h
  refine ⟨hl.trans hC, fun i hi => ?_⟩
  have h1 := hf i hi
  rw [he, Nat.mul_one] at h1
  have hic : i < cs.length := by rw [hl, hC]; exact hi
  have h2 : (cs.drop i).take 1 = [cs[i]] := by rw [List.drop_eq_getElem_cons hic]; rfl
  rw [h2, List.getElem?_eq_getElem (by rw [hlen]; exact hi)] at h1
  obtain ⟨k, hk, hb⟩ := dec_u8 hu _ _ _ h1
  exact ⟨k, by rw [List.getElem?_eq_getElem hic]; exact congrArg some (List.head_eq_of_cons_eq hk), hb⟩
theorem dec_quad : Dec enc w base spare held 93 (fun x : Int × Int × Int × Int => [b8V x.1, b8V x.2.1, b8V x.2.2.1, b8V x.2.2.2]) fun x => b8 x.1 ∧ b8 x.2.1 ∧ b8 x.2.2.1 ∧ b8 x.2.2.2 := by
  intro fuel cs x h
  obtain ⟨hl, ha⟩ := dec_array Tryz.underlying93 KR KR Tryz.underlying5 h
  obtain ⟨k0, e0, b0⟩ := ha 0 (by decide)
  obtain ⟨k1, e1, b1⟩ := ha 1 (by decide)
  obtain ⟨k2, e2, b2⟩ := ha 2 (by decide)
  obtain ⟨k3, e3, b3⟩ := ha 3 (by decide)
  exact ⟨(k0, k1, k2, k3), len4 hl e0 e1 e2 e3, b0, b1, b2, b3⟩
theorem decB8s : Dec enc w base spare held 50 (fun x : Value × List Int => [x.1]) (fun x => Sl w w.heap.size none 1 x.1 (x.2.map b8V) ∧ ∀ n ∈ x.2, b8 n) := by
  intro fuel cs x h
  obtain ⟨v, l, e, p, q⟩ := open_sl1 (f := fun n : Int => Value.int .u8 n) Tryz.underlying50 KR (dec_u8 Tryz.underlying5) h
  exact ⟨(v, l), e, p, q⟩
theorem decRaw : Dec enc w base spare held 55 rawC (fun r => RawR w w.heap.size r) := by
  intro fuel cs x h
  obtain ⟨hl, m, hf⟩ := open_parts Tryz.underlying55 h
  have c0 : Tryz.prog.cellsOf 55 = 18 := by kernel_rfl
  have c1 : Tryz.prog.cellsOf 50 = 1 := by kernel_rfl
  have c2 : Tryz.prog.cellsOf 51 = 1 := by kernel_rfl
  have c3 : Tryz.prog.cellsOf 52 = 8 := by kernel_rfl
  have c4 : Tryz.prog.cellsOf 53 = 1 := by kernel_rfl
  have c5 : Tryz.prog.cellsOf 5 = 1 := by kernel_rfl
  rw [c0] at hl
  match cs, hl with
  | [v0, v1, v2, u0, u1, u2, u3, u4, u5, u6, u7, v11, v12, v13, v14, v15, v16, v17], _ =>
    obtain ⟨y0, t0⟩ := (show ∃ y, DataW.trod enc Tryz.prog w base spare held m 50 [v0] = some y from hf 0 50 0 1 (by rfl) c1)
    obtain ⟨y1, t1⟩ := (show ∃ y, DataW.trod enc Tryz.prog w base spare held m 50 [v1] = some y from hf 1 50 1 1 (by rfl) c1)
    obtain ⟨y2, t2⟩ := (show ∃ y, DataW.trod enc Tryz.prog w base spare held m 51 [v2] = some y from hf 2 51 2 1 (by rfl) c2)
    obtain ⟨y3, t3⟩ := (show ∃ y, DataW.trod enc Tryz.prog w base spare held m 52 [u0, u1, u2, u3, u4, u5, u6, u7] = some y from hf 3 52 3 8 (by rfl) c3)
    obtain ⟨y4, t4⟩ := (show ∃ y, DataW.trod enc Tryz.prog w base spare held m 53 [v11] = some y from hf 4 53 11 1 (by rfl) c4)
    obtain ⟨y5, t5⟩ := (show ∃ y, DataW.trod enc Tryz.prog w base spare held m 50 [v12] = some y from hf 5 50 12 1 (by rfl) c1)
    obtain ⟨y6, t6⟩ := (show ∃ y, DataW.trod enc Tryz.prog w base spare held m 50 [v13] = some y from hf 6 50 13 1 (by rfl) c1)
    obtain ⟨y7, t7⟩ := (show ∃ y, DataW.trod enc Tryz.prog w base spare held m 5 [v14] = some y from hf 7 5 14 1 (by rfl) c5)
    obtain ⟨y8, t8⟩ := (show ∃ y, DataW.trod enc Tryz.prog w base spare held m 5 [v15] = some y from hf 8 5 15 1 (by rfl) c5)
    obtain ⟨y9, t9⟩ := (show ∃ y, DataW.trod enc Tryz.prog w base spare held m 5 [v16] = some y from hf 9 5 16 1 (by rfl) c5)
    obtain ⟨y10, t10⟩ := (show ∃ y, DataW.trod enc Tryz.prog w base spare held m 5 [v17] = some y from hf 10 5 17 1 (by rfl) c5)
    clear hf
    obtain ⟨⟨s0, l0⟩, e0, p0, q0⟩ := decB8s _ _ _ t0
    obtain rfl := List.head_eq_of_cons_eq e0
    obtain ⟨⟨s1, l1⟩, e1, p1, q1⟩ := decB8s _ _ _ t1
    obtain rfl := List.head_eq_of_cons_eq e1
    obtain ⟨s2, l2, e2, p2, q2⟩ := open_sl1 (f := fun n : Int => Value.int .u16 n) Tryz.underlying51 KR (dec_u16 Tryz.underlying64) t2
    obtain rfl := List.head_eq_of_cons_eq e2
    obtain ⟨_, ha⟩ := dec_array Tryz.underlying52 KR KR Tryz.underlying5 t3
    obtain ⟨k0, f0, g0⟩ := ha 0 (by decide)
    obtain ⟨k1, f1, g1⟩ := ha 1 (by decide)
    obtain ⟨k2, f2, g2⟩ := ha 2 (by decide)
    obtain ⟨k3, f3, g3⟩ := ha 3 (by decide)
    obtain ⟨k4, f4, g4⟩ := ha 4 (by decide)
    obtain ⟨k5, f5, g5⟩ := ha 5 (by decide)
    obtain ⟨k6, f6, g6⟩ := ha 6 (by decide)
    obtain ⟨k7, f7, g7⟩ := ha 7 (by decide)
    clear ha t3
    obtain rfl : u0 = _ := Option.some.inj f0
    obtain rfl : u1 = _ := Option.some.inj f1
    obtain rfl : u2 = _ := Option.some.inj f2
    obtain rfl : u3 = _ := Option.some.inj f3
    obtain rfl : u4 = _ := Option.some.inj f4
    obtain rfl : u5 = _ := Option.some.inj f5
    obtain rfl : u6 = _ := Option.some.inj f6
    obtain rfl : u7 = _ := Option.some.inj f7
    obtain ⟨s4, l4, e4, p4, q4⟩ := open_slN (k := 4) (g := quadV) Tryz.underlying53 KR (by decide) dec_quad (fun _ => rfl) t4
    obtain rfl := List.head_eq_of_cons_eq e4
    obtain ⟨⟨s5, l5⟩, e5, p5, q5⟩ := decB8s _ _ _ t5
    obtain rfl := List.head_eq_of_cons_eq e5
    obtain ⟨⟨s6, l6⟩, e6, p6, q6⟩ := decB8s _ _ _ t6
    obtain rfl := List.head_eq_of_cons_eq e6
    obtain ⟨n7, e7, p7⟩ := dec_u8 Tryz.underlying5 _ _ _ t7
    obtain rfl := List.head_eq_of_cons_eq e7
    obtain ⟨n8, e8, p8⟩ := dec_u8 Tryz.underlying5 _ _ _ t8
    obtain rfl := List.head_eq_of_cons_eq e8
    obtain ⟨n9, e9, p9⟩ := dec_u8 Tryz.underlying5 _ _ _ t9
    obtain rfl := List.head_eq_of_cons_eq e9
    obtain ⟨n10, e10, p10⟩ := dec_u8 Tryz.underlying5 _ _ _ t10
    obtain rfl := List.head_eq_of_cons_eq e10
    exact ⟨⟨v0, v1, v2, v11, v12, v13, l0, l1, l2, l5, l6, l4, k0, k1, k2, k3, k4, k5, k6, k7, n7, n8, n9, n10⟩, rfl, ⟨p0, q0, p1, q1, p2, q2, p4, q4, p5, q5, p6, q6, ⟨g0, g1, g2, g3, g4, g5, g6, g7⟩, ⟨p7, p8, p9, p10⟩⟩⟩
end
end Go.Proofs.YtopfddchckdhgaaGreat
