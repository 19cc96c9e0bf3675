
/- The layer schedule: within, every. -/
import Derived.Test.YtopfddchckdhgaaGreatSd23
namespace Go.Proofs.YtopfddchckdhgaaGreat
set_option linter.unusedSimpArgs false
set_option linter.unusedVariables false
open Go Go.RowKit
set_option maxRecDepth 100000
set_option linter.unusedSectionVars false
theorem schedWithin {w : World} {a b c : Int} : Ret Tryz.prog 32 #[intV a, intV b, intV c] w (.bool (btw a b c)) := by
  have hn : Now w := trivial
  have hx : Ext w w := Ext.refl w
  (refine callsV_of Tryz.func32 rfl KR KR ?_; rw [Tryz.results32])
  (repeat' first
    | with_reducible first | exact ⟨⟩ | (refine gB ?_; intros) | refine gT ?_ ?_
    | refine gs ?_
    | refine sx ?_)
  all_goals (simp_all [btw] <;> omega)
theorem every1_int {w : World} {cl b : Nat} {caps : List Value} {q : Int → Bool} {x : Int} (hc : callable Tryz.prog cl = true) (k : Blk w b 88 [.func (.func cl) #[] caps.toArray]) (hf : ∀ w', Ext w w' → Ret Tryz.prog cl (intV x :: caps).toArray w' (.bool (q x))) :
    Ret Tryz.prog 65 #[intV x, .pointer (some ⟨b, 0, none⟩)] w (.bool (!q x)) := by
  have hn : Now w := trivial
  have hx : Ext w w := Ext.refl w
  have k1 := k.bk
  replace hf : Hid _ := hf
  (refine callsV_of Tryz.func65 rfl KR KR ?_; rw [Tryz.results65])
  (repeat' first
    | with_reducible first | exact ⟨⟩ | (refine gB ?_; intros) | refine gT ?_ ?_
    | refine gs ?_
    | refine sx ?_)
  refine ret_k (hf.out w FR) fun w1 n1 s1 => ?_
  (repeat' first
    | with_reducible first | exact ⟨⟩ | (refine gB ?_; intros) | refine gT ?_ ?_
    | refine gs ?_
    | refine sx ?_)
theorem every_int {w : World} {B : Nat} {v : Value} {l : List Int} {cl : Nat} {caps : List Value} {q : Int → Bool} (hB : B ≤ w.heap.size) (hs : Sl w B none 1 v (l.map intV)) (hc : callable Tryz.prog cl = true)
    (hf : ∀ x ∈ l, ∀ w', Ext w w' → Ret Tryz.prog cl (intV x :: caps).toArray w' (.bool (q x))) : Ret Tryz.prog 30 #[v, .func (.func cl) #[] caps.toArray] w (.bool (l.all q)) := by
  have hn : Now w := trivial
  have hx : Ext w w := Ext.refl w
  have hcal : callable Tryz.prog 65 = true := by kernel_rfl
  have hct : Hid (∀ w' (_ : Ext w w') b (_ : Blk w' b 88 [.func (.func cl) #[] caps.toArray]), Ret Tryz.prog 38 #[v, .func (.func 65) #[] [Value.pointer (some ⟨b, 0, none⟩)].toArray] w' (.bool (!l.all q))) := fun w' h2 b k1 => containsNot_int (Nat.le_trans hB h2.size) (hs.ext h2 hB) hcal (caps := [.pointer (some ⟨b, 0, none⟩)]) fun x hx w'' hx2 => every1_int hc (k1.ext hx2) fun w3 hx3 => hf x hx w3 ((h2.trans hx2).trans hx3)
  clear hf hs
  (refine callsV_of Tryz.func30 rfl KR KR ?_; rw [Tryz.results30])
  (repeat' first
    | with_reducible first | exact ⟨⟩ | (refine gB ?_; intros) | refine gT ?_ ?_
    | refine gs ?_
    | ((with_reducible refine at_f 38 ?_); refine ret_k (hct.out _ FR _ FR) fun _ _ _ => ?_)
    | refine sx ?_)
  all_goals rw [Bool.not_not]
theorem every1_Step {w : World} {cl b : Nat} {caps : List Value} {q : StepD → Bool} {x : StepD} (hc : callable Tryz.prog cl = true) (k : Blk w b 104 [.func (.func cl) #[] caps.toArray]) (hf : ∀ w', Ext w w' → Ret Tryz.prog cl (stepV x :: caps).toArray w' (.bool (q x))) :
    Ret Tryz.prog 88 #[stepV x, .pointer (some ⟨b, 0, none⟩)] w (.bool (!q x)) := by
  have hn : Now w := trivial
  have hx : Ext w w := Ext.refl w
  have k1 := k.bk
  replace hf : Hid _ := hf
  (refine callsV_of Tryz.func88 rfl KR KR ?_; rw [Tryz.results88])
  (repeat' first
    | with_reducible first | exact ⟨⟩ | (refine gB ?_; intros) | refine gT ?_ ?_
    | refine gs ?_
    | simp (maxDischargeDepth := 3) only [↓X, ↓Y, ↓Q, S1, ↓reduceIte, Nat.reduceEqDiff, Nat.reduceAdd, Int.reduceLT, Int.reduceLE, Int.reduceNeg, Int.reduceBEq, Int.reduceBNe, Int.reduceEq, Nat.reduceLeDiff, Nat.reduceMul, Nat.reduceLT, *, stepV, stepC]
    | simp (singlePass := true) (maxDischargeDepth := 99) only [*, S2, Nat.reduceLT, stepV, stepC])
  rename_i b5 w5 n5 k5 s5 q5
  refine ret_k (hf.out w5 FR) fun w1 n1 s1 => ?_
  (repeat' first
    | with_reducible first | exact ⟨⟩ | (refine gB ?_; intros) | refine gT ?_ ?_
    | refine gs ?_
    | refine sx ?_)
theorem every_Step {w : World} {B : Nat} {v : Value} {l : List StepD} {cl : Nat} {caps : List Value} {q : StepD → Bool} (hB : B ≤ w.heap.size) (hs : Sl w B (some 4) 4 v (l.map stepV)) (hc : callable Tryz.prog cl = true)
    (hf : ∀ x ∈ l, ∀ w', Ext w w' → Ret Tryz.prog cl (stepV x :: caps).toArray w' (.bool (q x))) : Ret Tryz.prog 43 #[v, .func (.func cl) #[] caps.toArray] w (.bool (l.all q)) := by
  have hn : Now w := trivial
  have hx : Ext w w := Ext.refl w
  have hcal : callable Tryz.prog 88 = true := by kernel_rfl
  have hct : Hid (∀ w' (_ : Ext w w') b (_ : Blk w' b 104 [.func (.func cl) #[] caps.toArray]), Ret Tryz.prog 37 #[v, .func (.func 88) #[] [Value.pointer (some ⟨b, 0, none⟩)].toArray] w' (.bool (!l.all q))) := fun w' h2 b k1 => containsNot_Step (Nat.le_trans hB h2.size) (hs.ext h2 hB) hcal (caps := [.pointer (some ⟨b, 0, none⟩)]) fun x hx w'' hx2 => every1_Step hc (k1.ext hx2) fun w3 hx3 => hf x hx w3 ((h2.trans hx2).trans hx3)
  clear hf hs
  (refine callsV_of Tryz.func43 rfl KR KR ?_; rw [Tryz.results43])
  (repeat' first
    | with_reducible first | exact ⟨⟩ | (refine gB ?_; intros) | refine gT ?_ ?_
    | refine gs ?_
    | ((with_reducible refine at_f 37 ?_); refine ret_k (hct.out _ FR _ FR) fun _ _ _ => ?_)
    | refine sx ?_)
  all_goals rw [Bool.not_not]
theorem every1_Window {w : World} {cl b : Nat} {caps : List Value} {q : WindowD → Bool} {x : WindowD} (hc : callable Tryz.prog cl = true) (k : Blk w b 115 [.func (.func cl) #[] caps.toArray]) (hf : ∀ w', Ext w w' → Ret Tryz.prog cl (windowV x :: caps).toArray w' (.bool (q x))) :
    Ret Tryz.prog 90 #[windowV x, .pointer (some ⟨b, 0, none⟩)] w (.bool (!q x)) := by
  have hn : Now w := trivial
  have hx : Ext w w := Ext.refl w
  have k1 := k.bk
  replace hf : Hid _ := hf
  (refine callsV_of Tryz.func90 rfl KR KR ?_; rw [Tryz.results90])
  (repeat' first
    | with_reducible first | exact ⟨⟩ | (refine gB ?_; intros) | refine gT ?_ ?_
    | refine gs ?_
    | simp (maxDischargeDepth := 3) only [↓X, ↓Y, ↓Q, S1, ↓reduceIte, Nat.reduceEqDiff, Nat.reduceAdd, Int.reduceLT, Int.reduceLE, Int.reduceNeg, Int.reduceBEq, Int.reduceBNe, Int.reduceEq, Nat.reduceLeDiff, Nat.reduceMul, Nat.reduceLT, *, windowV]
    | simp (singlePass := true) (maxDischargeDepth := 99) only [*, S2, Nat.reduceLT, windowV])
  rename_i b5 w5 n5 k5 s5 q5
  refine ret_k (hf.out w5 FR) fun w1 n1 s1 => ?_
  (repeat' first
    | with_reducible first | exact ⟨⟩ | (refine gB ?_; intros) | refine gT ?_ ?_
    | refine gs ?_
    | refine sx ?_)
theorem every_Window {w : World} {B : Nat} {v : Value} {l : List WindowD} {cl : Nat} {caps : List Value} {q : WindowD → Bool} (hB : B ≤ w.heap.size) (hs : Sl w B (some 4) 4 v (l.map windowV)) (hc : callable Tryz.prog cl = true)
    (hf : ∀ x ∈ l, ∀ w', Ext w w' → Ret Tryz.prog cl (windowV x :: caps).toArray w' (.bool (q x))) : Ret Tryz.prog 47 #[v, .func (.func cl) #[] caps.toArray] w (.bool (l.all q)) := by
  have hn : Now w := trivial
  have hx : Ext w w := Ext.refl w
  have hcal : callable Tryz.prog 90 = true := by kernel_rfl
  have hct : Hid (∀ w' (_ : Ext w w') b (_ : Blk w' b 115 [.func (.func cl) #[] caps.toArray]), Ret Tryz.prog 89 #[v, .func (.func 90) #[] [Value.pointer (some ⟨b, 0, none⟩)].toArray] w' (.bool (!l.all q))) := fun w' h2 b k1 => containsNot_Window (Nat.le_trans hB h2.size) (hs.ext h2 hB) hcal (caps := [.pointer (some ⟨b, 0, none⟩)]) fun x hx w'' hx2 => every1_Window hc (k1.ext hx2) fun w3 hx3 => hf x hx w3 ((h2.trans hx2).trans hx3)
  clear hf hs
  (refine callsV_of Tryz.func47 rfl KR KR ?_; rw [Tryz.results47])
  (repeat' first
    | with_reducible first | exact ⟨⟩ | (refine gB ?_; intros) | refine gT ?_ ?_
    | refine gs ?_
    | ((with_reducible refine at_f 89 ?_); refine ret_k (hct.out _ FR _ FR) fun _ _ _ => ?_)
    | refine sx ?_)
  all_goals rw [Bool.not_not]
theorem every1_Area {w : World} {cl b : Nat} {caps : List Value} {q : AreaD → Bool} {x : AreaD} (hc : callable Tryz.prog cl = true) (k : Blk w b 117 [.func (.func cl) #[] caps.toArray]) (hf : ∀ w', Ext w w' → Ret Tryz.prog cl (areaV x :: caps).toArray w' (.bool (q x))) :
    Ret Tryz.prog 92 #[areaV x, .pointer (some ⟨b, 0, none⟩)] w (.bool (!q x)) := by
  have hn : Now w := trivial
  have hx : Ext w w := Ext.refl w
  have k1 := k.bk
  replace hf : Hid _ := hf
  (refine callsV_of Tryz.func92 rfl KR KR ?_; rw [Tryz.results92])
  (repeat' first
    | with_reducible first | exact ⟨⟩ | (refine gB ?_; intros) | refine gT ?_ ?_
    | refine gs ?_
    | simp (maxDischargeDepth := 3) only [↓X, ↓Y, ↓Q, S1, ↓reduceIte, Nat.reduceEqDiff, Nat.reduceAdd, Int.reduceLT, Int.reduceLE, Int.reduceNeg, Int.reduceBEq, Int.reduceBNe, Int.reduceEq, Nat.reduceLeDiff, Nat.reduceMul, Nat.reduceLT, *, areaV]
    | simp (singlePass := true) (maxDischargeDepth := 99) only [*, S2, Nat.reduceLT, areaV])
  rename_i b5 w5 n5 k5 s5 q5
  refine ret_k (hf.out w5 FR) fun w1 n1 s1 => ?_
  (repeat' first
    | with_reducible first | exact ⟨⟩ | (refine gB ?_; intros) | refine gT ?_ ?_
    | refine gs ?_
    | refine sx ?_)
theorem every_Area {w : World} {B : Nat} {v : Value} {l : List AreaD} {cl : Nat} {caps : List Value} {q : AreaD → Bool} (hB : B ≤ w.heap.size) (hs : Sl w B (some 2) 2 v (l.map areaV)) (hc : callable Tryz.prog cl = true)
    (hf : ∀ x ∈ l, ∀ w', Ext w w' → Ret Tryz.prog cl (areaV x :: caps).toArray w' (.bool (q x))) : Ret Tryz.prog 49 #[v, .func (.func cl) #[] caps.toArray] w (.bool (l.all q)) := by
  have hn : Now w := trivial
  have hx : Ext w w := Ext.refl w
  have hcal : callable Tryz.prog 92 = true := by kernel_rfl
  have hct : Hid (∀ w' (_ : Ext w w') b (_ : Blk w' b 117 [.func (.func cl) #[] caps.toArray]), Ret Tryz.prog 91 #[v, .func (.func 92) #[] [Value.pointer (some ⟨b, 0, none⟩)].toArray] w' (.bool (!l.all q))) := fun w' h2 b k1 => containsNot_Area (Nat.le_trans hB h2.size) (hs.ext h2 hB) hcal (caps := [.pointer (some ⟨b, 0, none⟩)]) fun x hx w'' hx2 => every1_Area hc (k1.ext hx2) fun w3 hx3 => hf x hx w3 ((h2.trans hx2).trans hx3)
  clear hf hs
  (refine callsV_of Tryz.func49 rfl KR KR ?_; rw [Tryz.results49])
  (repeat' first
    | with_reducible first | exact ⟨⟩ | (refine gB ?_; intros) | refine gT ?_ ?_
    | refine gs ?_
    | ((with_reducible refine at_f 91 ?_); refine ret_k (hct.out _ FR _ FR) fun _ _ _ => ?_)
    | refine sx ?_)
  all_goals rw [Bool.not_not]
end Go.Proofs.YtopfddchckdhgaaGreat
