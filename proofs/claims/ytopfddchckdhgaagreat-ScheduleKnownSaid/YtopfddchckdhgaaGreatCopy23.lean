
/- copy within a row that is known whole. -/
import Derived.Test.YtopfddchckdhgaaGreatRow
import Derived.Test.YtopfddchckdhgaaGreatMid
namespace Go.Proofs.YtopfddchckdhgaaGreat
set_option linter.unusedSimpArgs false
set_option linter.unusedVariables false
open Go Go.RowKit
set_option maxRecDepth 100000
set_option linter.unusedSectionVars false
section
variable {w : World} {e sz : Nat}
theorem cut_loR {g n c l : Nat} (h : l < c) : cutV sz (.slice (some ⟨g, 0, none⟩) n c) l n c = .slice (some ⟨g, l * sz, none⟩) (n - l) (c - l) := by
  have : ¬ c = l := by omega
  simp only [cutV, if_neg this, Option.map_some, add_none, Nat.zero_add]
theorem cut_hiR {g n c m : Nat} : cutV sz (.slice (some ⟨g, 0, none⟩) n c) 0 m c = .slice (some ⟨g, 0, none⟩) m c := by
  by_cases h : c = 0 <;> simp [cutV, h, add_none]
theorem slice_loR {by_ g n c l : Nat} {f : Value → World → Prop} (h1 : l ≤ n) (h2 : n ≤ c) (h3 : l < c) (h : f (.slice (some ⟨g, l * sz, none⟩) (n - l) (c - l)) w) : sliceX (some (e, sz, by_)) (.slice (some ⟨g, 0, none⟩) n c) (some (.int .i64 (l : Nat))) none none w f := by
  simp only [sliceX, Int.toNat_natCast]
  refine need ⟨trivial, by omega, by simp only [lenN]; omega, h2⟩ ?_
  show f (cutV sz _ l n c) w
  rw [cut_loR h3]
  exact h
theorem slice_hiR {by_ g n c m : Nat} {f : Value → World → Prop} (h1 : m ≤ c) (h : f (.slice (some ⟨g, 0, none⟩) m c) w) : sliceX (some (e, sz, by_)) (.slice (some ⟨g, 0, none⟩) n c) none (some (.int .i64 (m : Nat))) none w f := by
  simp only [sliceX, Int.toNat_natCast]
  refine need ⟨trivial, by omega, by simp only [capN]; omega⟩ ?_
  show f (cutV sz _ 0 m c) w
  rw [cut_hiR]
  exact h
/-- copy into a block that is known whole, of cells that are known. -/
theorem copyB_kR {t ty by_ g o dLen dCap sLen sCap : Nat} {a : Addr} {cur cs : List Value} {k : Value → World → Prop} (hsl : slOf Tryz.prog t = some (e, sz, by_)) (hb : Blk w g e cur) (hcs : ∀ j u, cs[j]? = some u → w.cell? (a.add j) = some u) (hn : cs.length = min sLen dLen * sz) (hfit : o + cs.length ≤ cur.length) (h1 : ∀ u ∈ cs, u.oneCell' = true)
    (h : ∀ w', Now w' → Blk w' g e (cur.take o ++ cs ++ cur.drop (o + cs.length)) → Sc w w' g → Cg g w w' → k (.int .i64 (min sLen dLen : Nat)) w') : copyX Tryz.prog t t ty (.slice (some ⟨g, o, none⟩) dLen dCap) (.slice (some a) sLen sCap) w k := by
  obtain ⟨i, hu, hi, hs, hby'⟩ := slOf_parts hsl
  have hr := run_copy_rowN (P := Tryz.prog) w t t ty e g o dLen dCap a sLen sCap sz i cur.toArray e cs hu hi hs hb hn hcs (by simpa using hfit) h1
  have hcg := chg_row w g (cur.take o ++ cs ++ cur.drop (o + cs.length)).toArray
  exact runsV_ok hr (h _ trivial (setRow_heap w g _ _ e _ hb) hcg.sc hcg)
end
end Go.Proofs.YtopfddchckdhgaaGreat
