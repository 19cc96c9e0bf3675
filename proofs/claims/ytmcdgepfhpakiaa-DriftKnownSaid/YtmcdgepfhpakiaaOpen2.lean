
/- The layers' data, opened: site, wish, plan, world. -/
import Derived.Test.YtmcdgepfhpakiaaOpen
import Derived.Test.YtmcdgepfhpakiaaSite
import Derived.Test.YtmcdgepfhpakiaaCopy13
namespace Go.Proofs.Ytmcdgepfhpakiaa
set_option linter.unusedSimpArgs false
set_option linter.unusedVariables false
open Go Go.RowKit
set_option maxRecDepth 100000
theorem decInts {H : Type} {enc : TypeId × Value → H} {w : World} {base : Nat} {spare : Nat → Bool} {held : Bool} : Dec enc w base spare held 85 (fun x : Value × List Int => [x.1]) (fun x => Sl w w.heap.size none 1 x.1 (x.2.map intV)) := by
  intro fuel cs x h
  obtain ⟨v, l, e, p, _⟩ := open_sl1 Try.underlying85 KR (dec_int Try.underlying3) h
  exact ⟨(v, l), e, p⟩
theorem decState {H : Type} {enc : TypeId × Value → H} {w : World} {base : Nat} {spare : Nat → Bool} {held : Bool} : Dec enc w base spare held 46 (fun x : StateD => stateC x) (fun x => (0 ≤ x.phase ∧ x.phase ≤ 255) ∧ -9223372036854775808 ≤ x.firmware ∧ x.firmware ≤ 9223372036854775807) := by
  intro fuel cs x h
  obtain ⟨hl, m, hf⟩ := open_fields Try.underlying46 KR KR h
  obtain ⟨v0, y0, c0, t0⟩ := hf 0 _ rfl
  obtain ⟨a0, e0, p0⟩ := dec_u8 Try.underlying44 _ _ _ t0
  obtain rfl := List.head_eq_of_cons_eq e0
  obtain ⟨v1, y1, c1, t1⟩ := hf 1 _ rfl
  obtain ⟨a1, e1, p1⟩ := dec_int Try.underlying3 _ _ _ t1
  obtain rfl := List.head_eq_of_cons_eq e1
  obtain rfl := len2 (show cs.length = 2 from hl) c0 c1
  exact ⟨⟨a0, a1⟩, rfl, ⟨p0, p1⟩⟩
theorem decReplica {H : Type} {enc : TypeId × Value → H} {w : World} {base : Nat} {spare : Nat → Bool} {held : Bool} : Dec enc w base spare held 49 (fun x : ReplicaD => replC x) (fun x => (-9223372036854775808 ≤ x.service ∧ x.service ≤ 9223372036854775807) ∧ -9223372036854775808 ≤ x.host ∧ x.host ≤ 9223372036854775807) := by
  intro fuel cs x h
  obtain ⟨hl, m, hf⟩ := open_fields Try.underlying49 KR KR h
  obtain ⟨v0, y0, c0, t0⟩ := hf 0 _ rfl
  obtain ⟨a0, e0, p0⟩ := dec_int Try.underlying3 _ _ _ t0
  obtain rfl := List.head_eq_of_cons_eq e0
  obtain ⟨v1, y1, c1, t1⟩ := hf 1 _ rfl
  obtain ⟨a1, e1, p1⟩ := dec_int Try.underlying3 _ _ _ t1
  obtain rfl := List.head_eq_of_cons_eq e1
  obtain rfl := len2 (show cs.length = 2 from hl) c0 c1
  exact ⟨⟨a0, a1⟩, rfl, ⟨p0, p1⟩⟩
theorem decWorld {H : Type} {enc : TypeId × Value → H} {w : World} {base : Nat} {spare : Nat → Bool} {held : Bool} : Dec enc w base spare held 25 (fun x : (Value × Value) × WorldD => [x.1.1, x.1.2]) (fun x => WorldR w w.heap.size x.1.1 x.1.2 x.2 ∧ (∀ h ∈ x.2.hosts, (0 ≤ h.phase ∧ h.phase ≤ 255) ∧ -9223372036854775808 ≤ h.firmware ∧ h.firmware ≤ 9223372036854775807) ∧ (∀ r ∈ x.2.replicas, (-9223372036854775808 ≤ r.service ∧ r.service ≤ 9223372036854775807) ∧ -9223372036854775808 ≤ r.host ∧ r.host ≤ 9223372036854775807)) := by
  intro fuel cs x h
  obtain ⟨hl, m, hf⟩ := open_fields Try.underlying25 KR KR h
  obtain ⟨v0, y0, c0, t0⟩ := hf 0 _ rfl
  obtain ⟨s0, l0, e0, p0, q0⟩ := open_slN (k := 2) (g := stateV) Try.underlying22 KR (by decide) decState (fun _ => rfl) t0
  obtain rfl := List.head_eq_of_cons_eq e0
  obtain ⟨v1, y1, c1, t1⟩ := hf 1 _ rfl
  obtain ⟨s1, l1, e1, p1, q1⟩ := open_slN (k := 2) (g := replicaV) Try.underlying23 KR (by decide) decReplica (fun _ => rfl) t1
  obtain rfl := List.head_eq_of_cons_eq e1
  obtain rfl := len2 (show cs.length = 2 from hl) c0 c1
  exact ⟨⟨(v0, v1), ⟨l0, l1⟩⟩, rfl, ⟨⟨p0, p1⟩, q0, q1⟩⟩
end Go.Proofs.Ytmcdgepfhpakiaa
