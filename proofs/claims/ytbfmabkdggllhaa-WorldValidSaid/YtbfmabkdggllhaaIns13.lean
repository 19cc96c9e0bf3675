/- The library's Insert of one element into a row of the call's own. -/
import Derived.Test.YtbfmabkdggllhaaBs13
import Derived.Lib.Overlaps
import Derived.Laws.Externs
namespace Go.Proofs.Ytbfmabkdggllhaa
set_option linter.unusedSimpArgs false
set_option linter.unusedVariables false
open Go Go.RowKit
set_option maxRecDepth 100000
set_option linter.unusedSectionVars false
set_option maxHeartbeats 1000000
theorem ins_room {k i : Nat} {l : List (List Value)} {cur vs : List Value} (hl : ∀ c ∈ l, c.length = k) (hi : i < l.length) (hv : vs.length = k) (hc : cur.take (l.length * k) = l.flatten) (hcl : (l.length + 1) * k ≤ cur.length) (cur1 : List Value) (h1 : cur1 = cur.take ((i + 1) * k) ++ (l.drop i).flatten ++ cur.drop ((i + 1) * k + (l.drop i).flatten.length)) :
    (cur1.take (i * k) ++ vs ++ cur1.drop (i * k + vs.length)).take ((l.length + 1) * k) = (l.take i ++ vs :: l.drop i).flatten ∧ cur1.length = cur.length ∧ (cur1.take (i * k) ++ vs ++ cur1.drop (i * k + vs.length)).length = cur.length := by
  have hd : (l.drop i).flatten.length = (l.length - i) * k := by rw [flat_len _ (fun c hc => hl c (List.mem_of_mem_drop hc)), List.length_drop]
  have e0 : (i + 1) * k = i * k + k := Nat.succ_mul ..
  have e1 : (l.length + 1) * k = i * k + k + (l.length - i) * k := by
    rw [← Nat.succ_mul, ← Nat.add_mul]; congr 1; omega
  have hik : i * k ≤ l.length * k := Nat.mul_le_mul_right _ (Nat.le_of_lt hi)
  have hlk : l.length * k ≤ (l.length + 1) * k := Nat.mul_le_mul_right _ (by omega)
  have ht : cur.take (i * k) = (l.take i).flatten := by rw [← flat_take l i hl, ← hc, List.take_take, Nat.min_eq_left hik]
  have hlen1 : cur1.length = cur.length := by
    rw [h1, List.length_append, List.length_append, List.length_take, List.length_drop, hd]; omega
  have ht1 : cur1.take (i * k) = (l.take i).flatten := by
    rw [h1, List.append_assoc, List.take_append_of_le_length (by rw [List.length_take]; omega), List.take_take, Nat.min_eq_left (by omega), ht]
  have hd1 : cur1.drop (i * k + vs.length) = (l.drop i).flatten ++ cur.drop ((i + 1) * k + (l.drop i).flatten.length) := by
    rw [h1, List.append_assoc, hv, ← e0]
    exact List.drop_left' (by rw [List.length_take]; omega)
  refine ⟨?_, hlen1, ?_⟩
  · rw [ht1, hd1, List.flatten_append, List.flatten_cons, ← List.append_assoc, ← List.append_assoc]
    refine List.take_left' ?_
    rw [List.length_append, List.length_append, hv, hd, ← ht, List.length_take]
    omega
  · rw [List.length_append, List.length_append, List.length_take, List.length_drop, hlen1, hv]; omega
theorem ins_grow {k i : Nat} {l : List (List Value)} {cur vs : List Value} (hl : ∀ c ∈ l, c.length = k) (hi : i < l.length) (hv : vs.length = k) (hc : cur.take (i * k) = (l.take i).flatten) (hcl : (l.length + 1) * k ≤ cur.length) (cur1 : List Value) (h1 : cur1 = cur.take (i * k) ++ vs ++ cur.drop (i * k + vs.length)) :
    (cur1.take ((i + 1) * k) ++ (l.drop i).flatten ++ cur1.drop ((i + 1) * k + (l.drop i).flatten.length)).take ((l.length + 1) * k) = (l.take i ++ vs :: l.drop i).flatten ∧ cur1.length = cur.length ∧ (cur1.take ((i + 1) * k) ++ (l.drop i).flatten ++ cur1.drop ((i + 1) * k + (l.drop i).flatten.length)).length = cur.length := by
  have hd : (l.drop i).flatten.length = (l.length - i) * k := by rw [flat_len _ (fun c hc => hl c (List.mem_of_mem_drop hc)), List.length_drop]
  have e0 : (i + 1) * k = i * k + k := Nat.succ_mul ..
  have e1 : (l.length + 1) * k = i * k + k + (l.length - i) * k := by
    rw [← Nat.succ_mul, ← Nat.add_mul]; congr 1; omega
  have hlen1 : cur1.length = cur.length := by
    rw [h1, List.length_append, List.length_append, List.length_take, List.length_drop, hv]; omega
  have ht1 : cur1.take ((i + 1) * k) = (l.take i).flatten ++ vs := by
    rw [h1, hc]
    refine List.take_left' ?_
    rw [List.length_append, hv, ← hc, List.length_take]
    omega
  refine ⟨?_, hlen1, ?_⟩
  · rw [ht1, List.flatten_append, List.flatten_cons, ← List.append_assoc]
    refine List.take_left' ?_
    rw [List.length_append, List.length_append, hv, hd, ← hc, List.length_take]
    omega
  · rw [List.length_append, List.length_append, List.length_take, List.length_drop, hlen1, hd]; omega
section
variable {w : World} {B e sz : Nat} {v : Value}
theorem own_of_blk {g cap n : Nat} {cs : List (List Value)} {cur : List Value} (hb : Blk w g e cur) (hn : n = cs.length) (hnc : n ≤ cap) (hcap : cap ≤ maxLen) (hcur : cur.length = cap * sz) (ht : cur.take (n * sz) = cs.flatten) (hall : ∀ c ∈ cs, c.length = sz) (hB : B ≤ g) (hs : cs.length ≤ 140737488355328) : Own w B e sz (.slice (some ⟨g, 0, none⟩) n cap) cs := by
  subst hn
  exact ⟨⟨by rw [flat_len _ hall], .inr ⟨g, cap, cur.toArray, rfl, hB, hb, hnc, hcap, by simpa using hcur, by simpa using ht⟩⟩, hall, hs⟩
theorem cut_lo {g n c l : Nat} (h : l < c) : cutV sz (.slice (some ⟨g, 0, none⟩) n c) l n c = .slice (some ⟨g, l * sz, none⟩) (n - l) (c - l) := by
  have : ¬ c = l := by omega
  simp only [cutV, if_neg this, Option.map_some, add_none, Nat.zero_add]
theorem cut_hi {g n c m : Nat} : cutV sz (.slice (some ⟨g, 0, none⟩) n c) 0 m c = .slice (some ⟨g, 0, none⟩) m c := by
  by_cases h : c = 0 <;> simp [cutV, h, add_none]
theorem slice_lo {by_ g n c l : Nat} {f : Value → World → Prop} (h1 : l ≤ n) (h2 : n ≤ c) (h3 : l < c) (h : f (.slice (some ⟨g, l * sz, none⟩) (n - l) (c - l)) w) : sliceX (some (e, sz, by_)) (.slice (some ⟨g, 0, none⟩) n c) (some (.int .i64 (l : Nat))) none none w f := by
  simp only [sliceX, Int.toNat_natCast]
  refine need ⟨trivial, by omega, by simp only [lenN]; omega, h2⟩ ?_
  show f (cutV sz _ l n c) w
  rw [cut_lo h3]
  exact h
theorem slice_hi {by_ g n c m : Nat} {f : Value → World → Prop} (h1 : m ≤ c) (h : f (.slice (some ⟨g, 0, none⟩) m c) w) : sliceX (some (e, sz, by_)) (.slice (some ⟨g, 0, none⟩) n c) none (some (.int .i64 (m : Nat))) none w f := by
  simp only [sliceX, Int.toNat_natCast]
  refine need ⟨trivial, by omega, by simp only [capN]; omega⟩ ?_
  show f (cutV sz _ 0 m c) w
  rw [cut_hi]
  exact h
/-- copy into a block that is known whole, of cells that are known. -/
theorem copyB_k {t ty by_ g o dLen dCap sLen sCap : Nat} {a : Addr} {cur cs : List Value} {k : Value → World → Prop} (hsl : slOf Try.prog t = some (e, sz, by_)) (hb : Blk w g e cur) (hcs : ∀ j u, cs[j]? = some u → w.cell? (a.add j) = some u) (hn : cs.length = min sLen dLen * sz) (hfit : o + cs.length ≤ cur.length) (h1 : ∀ u ∈ cs, u.oneCell' = true)
    (h : ∀ w', Now w' → Blk w' g e (cur.take o ++ cs ++ cur.drop (o + cs.length)) → Sc w w' g → Cg g w w' → k (.int .i64 (min sLen dLen : Nat)) w') : copyX Try.prog t t ty (.slice (some ⟨g, o, none⟩) dLen dCap) (.slice (some a) sLen sCap) w k := by
  obtain ⟨i, hu, hi, hs, hby'⟩ := slOf_parts hsl
  have hr := run_copy_rowN (P := Try.prog) w t t ty e g o dLen dCap a sLen sCap sz i cur.toArray e cs hu hi hs hb hn hcs (by simpa using hfit) h1
  have hcg := chg_row w g (cur.take o ++ cs ++ cur.drop (o + cs.length)).toArray
  exact runsV_ok hr (h _ trivial (setRow_heap w g _ _ e _ hb) hcg.sc hcg)
/-- append of a make, where there is no room: a new row. -/
theorem append_zeros_k {t tn ty by_ sLen sCap n N : Nat} {k kn : IntKind} {z : Value} {b : Addr} {olds : List Value} {f : Value → World → Prop} (hsl : slOf Try.prog t = some (e, sz, by_)) (hz : zeroElt Try.prog t = some z) (hzs : z.cells.size = sz) (hsz : 0 < sz) (hby : by_ ≤ 64) (htn : Try.prog.underlying tn = some (.int kn))
    (hlo : olds.length = sLen * sz) (holds : ∀ j u, olds[j]? = some u → w.cell? (b.add j) = some u) (hg : sCap < sLen + n) (hn0 : 0 < n) (hN : N = sLen + n) (hsm : N ≤ 1000000000000)
    (h : ∀ g c w' ZZ, Now w' → Bk w' g e (olds ++ ZZ) → Blk w' g e (olds ++ ZZ) → St w w' → Nw w g → N ≤ c → c ≤ maxLen → (olds ++ ZZ).length = c * sz → f (.slice (some ⟨g, 0, none⟩) N c) w') : appX Try.prog t tn ty (.slice (some b) sLen sCap) (.int k n) w f := by
  subst hN
  obtain ⟨i, hu, hi, hs, hby'⟩ := slOf_parts hsl
  have hz' : i.zero = some z := by
    unfold zeroElt at hz
    rw [hsl] at hz
    simpa [zeroOf, hi] using hz
  subst hs
  have hbig : (sLen + n) * i.bytes ≤ 140737488355328 := by
    have : (sLen + n) * i.bytes ≤ 1000000000000 * 64 := Nat.mul_le_mul hsm (by omega)
    omega
  have hnb : n * i.bytes ≤ 1000000000000 * 64 := Nat.mul_le_mul (by omega) (by omega)
  have hfit := growslice_fits hg hbig
  have hn : ¬ (sLen + n ≤ sCap) := by omega
  have hw : IntKind.i64.wrap (n : Int) = n := by rw [IntKind.wrap_i64]; omega
  have h63' : ¬ (9223372036854775807 < ((sLen : Int) + (n : Int))) := by omega
  have h48' : ¬ (281474976710656 < Builtin.nextslicecap (sLen + n) sCap * i.bytes) := by omega
  have h48i : ¬ (281474976710656 < (n : Int) * (i.bytes : Int)) := by
    rw [← Int.natCast_mul]
    omega
  have hneg : ¬ ((n : Int) < 0) := by omega
  have hns : ¬ (n * i.size = 0) := Nat.mul_ne_zero (by omega) (by omega)
  have hf := run_firstCells_some (P := Try.prog) w.drew i.size sLen b sLen sCap olds hlo (by simpa using holds)
  have hr : (Builtin.append_ #[t, tn] ty #[.slice (some b) sLen sCap, .int k n]).run Try.prog w = .ok (.slice (some ⟨w.heap.size, 0, none⟩) (sLen + n) (grownCap w (sLen + n) sCap e)) (w.drew.alloc (.cells (olds.toArray ++ Builtin.zeroCells z.cells n ++ Builtin.zeroCells z.cells (grownCap w (sLen + n) sCap e - (sLen + n))) e)) := by
    simp [Builtin.append_, run_underlying hu, run_underlying htn, sizeOf, typeInfo, zeroValue, hi, hz', asInt, asIntOf, hw, hn, hneg, hns, h63', h48', h48i, Question.forced, hf, newRow, grownCap]
  have hge := grownCap_ge w (sLen + n) sCap e
  have hcm : grownCap w (sLen + n) sCap e ≤ maxLen := grownCap_le_maxLen w (sLen + n) sCap e (by simp only [maxLen]; omega)
  have hblk : Blk (w.drew.alloc (.cells (olds.toArray ++ Builtin.zeroCells z.cells n ++ Builtin.zeroCells z.cells (grownCap w (sLen + n) sCap e - (sLen + n))) e)) w.heap.size e (olds ++ ((Builtin.zeroCells z.cells n).toList ++ (Builtin.zeroCells z.cells (grownCap w (sLen + n) sCap e - (sLen + n))).toList)) := by
    have := heap_alloc_new w.drew (.cells (olds.toArray ++ Builtin.zeroCells z.cells n ++ Builtin.zeroCells z.cells (grownCap w (sLen + n) sCap e - (sLen + n))) e)
    unfold Blk
    rw [show w.heap.size = w.drew.heap.size from rfl, this]
    congr 2
    apply Array.ext'
    simp
  have hext : Ext w (w.drew.alloc (.cells (olds.toArray ++ Builtin.zeroCells z.cells n ++ Builtin.zeroCells z.cells (grownCap w (sLen + n) sCap e - (sLen + n))) e)) := (Ext.drawn w _).trans (Ext.alloc _ _)
  refine runsV_ok hr (h _ _ _ _ trivial hblk.bk hblk hext.st (Nw.of (Nat.le_refl _)) hge hcm ?_)
  simp only [List.length_append, hlo, zc_list, hzs, ← Nat.add_mul]
  congr 1
  omega
theorem overlaps_k {a b : Addr} {la ca lb cb tA tB : Nat} {xs ys : List Value} {k : Value → World → Prop} (hne : a.block ≠ b.block) (ha : Blk w a.block tA xs) (hb : Blk w b.block tB ys) (hy : ys ≠ []) (h : k (.bool false) w) : extnX Try.prog 90 #[.slice (some a) la ca, .slice (some b) lb cb] w k := by
  unfold extnX
  unfold Blk at ha hb
  rw [run_callFunc_extern (f := 90) (fn := _) (P := Try.prog) rfl (by kernel_rfl) (by kernel_rfl) (by kernel_rfl) (e := Extern.SlicesOverlaps.overlaps #[34, 34] #[4]) (by kernel_rfl)]
  have ht : Try.prog.underlying 34 = some (.slice 41) := by kernel_rfl
  obtain ⟨i, _, hi, hs, _⟩ := slOf_parts (P := Try.prog) (t := 34) (e := 41) (sz := 2) (by_ := 16) (by kernel_rfl)
  have hsz : ∀ w, (Go.sizeOf 41).run Try.prog w = .ok 2 w := fun w => by simp [sizeOf, typeInfo, hi, hs]
  rw [Lib.run_overlaps_apart w _ _ _ ht 2 hsz a b la ca lb cb hne tA tB xs.length ys.length (by simp [World.shape?, ha]) (by simp [World.shape?, hb]) (by simpa using hy) (by simp [World.frozen?, ha]) (by simp [World.frozen?, ha])]
  exact h
theorem grown_ext {w w' : World} {b : Option Nat} (h : Ext w w') : w.grownBy w' b := ⟨h.os, h.tape, h.output, h.size, fun k hk _ => h.block k hk⟩
theorem grown_chg {w w' : World} {b : Nat} (h : Cg b w w') : w.grownBy w' (some b) := ⟨h.os, h.tape, h.output, h.size, fun k hk hne => h.block k hk (fun e => hne (by rw [e]))⟩
theorem insertP {l : List ReplicaD} {r : ReplicaD} {i b : Nat} (hB : B ≤ w.heap.size) (hown : OwnP w B v l) (hb : Blk w b 41 (replC r)) (hne : ¬ blockOf v = some b) (hi : i ≤ l.length) (hlen : l.length ≤ 1000000) :
    CallsV Try.prog 58 #[v, .int .i64 i, .slice (some ⟨b, 0, none⟩) 1 1] w fun v' w' => w.grownBy w' (blockOf v) ∧ OwnP w' B v' (l.take i ++ r :: l.drop i) := by
  have hn : Now w := trivial
  have hx : Ext w w := Ext.refl w
  have hl := hown.l
  rw [List.length_map] at hl
  have hb0 : Bl B w w := Bl.refl hB
  have o := hown.o
  have kb := hb.bk
  have hs0 := hown.slN (f := replC)
  have h1c : ((1 : Nat) : Int) = 1 := rfl
  (refine callsV_of Try.func58 rfl (by kernel_rfl) (by kernel_rfl) ?_; rw [Try.results58])
  rcases Nat.lt_or_eq_of_le hi with hil | rfl
  · have hil' : ¬ (i : Int) = (l.length : Int) := by omega
    rcases hown.1.2 with ⟨rfl, hn0⟩ | ⟨g, cap, cur, rfl, hBg, hg, hnc, hcm, hcs, htake⟩
    · rw [List.length_map] at hn0
      omega
    · rw [List.length_map] at hnc htake
      have hn1 : IntKind.i64.wrap ((l.length : Int) + 1) = ((l.length + 1 : Nat) : Int) := by rw [wrap_i64_id] <;> omega
      have hi1 : IntKind.i64.wrap ((i : Int) + 1) = ((i + 1 : Nat) : Int) := by rw [wrap_i64_id] <;> omega
      have hk1 : IntKind.i64.wrap (((l.length + 1 : Nat) : Int) - (i : Int)) = ((l.length + 1 - i : Nat) : Int) := by rw [wrap_i64_id] <;> omega
      have hgb : ¬ g = b := fun h => hne (by rw [h]; rfl)
      have hbg : ¬ b = g := fun h => hgb h.symm
      have hall : ∀ c ∈ l.map replC, c.length = 2 := by
        intro c hc
        obtain ⟨y, _, rfl⟩ := List.mem_map.1 hc
        rfl
      have hone : ∀ u ∈ ((l.map replC).drop i).flatten, u.oneCell' = true := by
        intro u hu
        obtain ⟨c, hc, hu⟩ := List.mem_flatten.1 hu
        obtain ⟨y, _, rfl⟩ := List.mem_map.1 (List.mem_of_mem_drop hc)
        exact replC_one y u hu
      have hsrc : ∀ j u, ((l.map replC).drop i).flatten[j]? = some u → cur.toList[i * 2 + j]? = some u := by
        intro j u hj
        rw [← flat_drop _ _ hall, ← htake, List.getElem?_drop] at hj
        rcases Nat.lt_or_ge (i * 2 + j) (l.length * 2) with h9 | h9
        · rwa [List.getElem?_take_of_lt h9] at hj
        · rw [List.getElem?_take_eq_none h9] at hj; cases hj
      have hdl : ((l.map replC).drop i).flatten.length = (l.length - i) * 2 := by rw [flat_len _ (fun c hc => hall c (List.mem_of_mem_drop hc)), List.length_drop, List.length_map]
      have hres : ((l.map replC).take i ++ replC r :: (l.map replC).drop i) = (l.take i ++ r :: l.drop i).map replC := by simp
      have hall2 : ∀ c ∈ (l.take i ++ r :: l.drop i).map replC, c.length = 2 := by
        intro c hc
        obtain ⟨y, _, rfl⟩ := List.mem_map.1 hc
        rfl
      have hlen2 : ((l.take i ++ r :: l.drop i).map replC).length = l.length + 1 := by simp; omega
      have pure3 : Hid ((∀ c ∈ l.map replC, c.length = 2) ∧ (∀ u ∈ ((l.map replC).drop i).flatten, u.oneCell' = true) ∧ (∀ j u, ((l.map replC).drop i).flatten[j]? = some u → cur.toList[i * 2 + j]? = some u) ∧ ((l.map replC).drop i).flatten.length = (l.length - i) * 2 ∧ ((l.map replC).take i ++ replC r :: (l.map replC).drop i) = (l.take i ++ r :: l.drop i).map replC ∧ (∀ c ∈ (l.take i ++ r :: l.drop i).map replC, c.length = 2) ∧ ((l.take i ++ r :: l.drop i).map replC).length = l.length + 1 ∧ cur.toList.take (l.length * 2) = (l.map replC).flatten ∧ cur.toList.length = cap * 2) := ⟨hall, hone, hsrc, hdl, hres, hall2, hlen2, htake, by rw [Array.length_toList]; exact hcs⟩
      clear hall hone hsrc hdl hres hall2 hlen2
      have hcur : Blk w g 41 cur.toList := hg
      have kg := hcur.bk
      have hbq : ((i : Int) == (l.length : Int)) = false := by simp; omega
      have hin : ¬ i = l.length := by omega
      clear hil' hl hne
      rcases Nat.lt_or_ge cap (l.length + 1) with hcap | hcap
      · have hcap' : cap < l.length + 1 := hcap
        clear hg hcs htake o hs0 hown
        (repeat' first
    | with_reducible refine slice_hi (by omega) ?_
    | with_reducible refine slice_lo (by omega) (by omega) (by omega) ?_
    | with_reducible refine alloc_k fun _ _ _ _ _ _ => ?_
    | ((with_reducible refine at_row ?_); refine row1_k (by rfl) (by decide) fun _ _ _ _ _ _ _ => ?_)
    | with_reducible refine row_k fun _ _ _ _ _ _ => ?_
    | with_reducible refine fork (fun _ => ?_) (fun _ => ?_)
    | with_reducible refine forkp (fun _ => ?_) (fun _ => ?_)
    | with_reducible refine forke (fun _ => ?_) (fun _ _ => ?_)
    | with_reducible refine tail_k fun _ _ _ => ?_
    | with_reducible refine ext_k fun _ _ _ => ?_
    | with_reducible refine need (by first | kernel_rfl | omega | assumption) ?_
    | with_reducible refine st_agg (by kernel_rfl) rfl (by simp only [natV, intV, S3, *]) fun _ _ _ _ => ?_
    | with_reducible refine wpd_quiet_lit (by kernel_rfl) (by kernel_rfl) (by kernel_rfl) ?_
    | simp (maxDischargeDepth := 3) only [↓X, ↓Y, ↓Q, S1, ↓reduceIte, Nat.reduceEqDiff, Nat.reduceAdd, Int.reduceLT, Int.reduceLE, Int.reduceNeg, Int.reduceBEq, Int.reduceBNe, Int.reduceEq, Nat.reduceLeDiff, Nat.reduceMul, Nat.reduceLT, natV, intV, putAt, idxOk, flatP, *]
    | simp (singlePass := true) (maxDischargeDepth := 99) only [*, S2, Nat.reduceLT])
        obtain ⟨hall, hone, hsrc, hdl, hres, hall2, hlen2, htake, hcs⟩ := pure3.out
        have htk : (cur.toList.take (i * 2)).length = i * 2 := by rw [List.length_take, hcs]; omega
        refine append_zeros_k (e := 41) (sz := 2) (by_ := 16) (z := .agg #[.int .i64 0, .int .i64 0]) (N := l.length + 1) (olds := cur.toList.take (i * 2)) (by kernel_rfl) (by kernel_rfl) rfl (by decide) (by decide) (kn := .i64) (by kernel_rfl) htk (fun j u hj => by
          rw [add_none, Nat.zero_add, hcur.cell]
          rcases Nat.lt_or_ge j (i * 2) with h9 | h9
          · rwa [List.getElem?_take_of_lt h9] at hj
          · rw [List.getElem?_take_eq_none h9] at hj; cases hj) (by omega) (by omega) (by omega) (by omega) fun g2 c2 w2 ZZ n2 k2 hb2 s2 q2 hc1 hc2 hc3 => ?_
        clear hall hone hsrc hdl hres hall2 hlen2 htake hcs htk
        have hgg : ¬ g = g2 := (q2.1 g hcur.lt).1
        have hbg2 : ¬ b = g2 := (q2.1 b hb.lt).1
        (repeat' first
    | with_reducible refine slice_hi (by omega) ?_
    | with_reducible refine slice_lo (by omega) (by omega) (by omega) ?_
    | with_reducible refine alloc_k fun _ _ _ _ _ _ => ?_
    | ((with_reducible refine at_row ?_); refine row1_k (by rfl) (by decide) fun _ _ _ _ _ _ _ => ?_)
    | with_reducible refine row_k fun _ _ _ _ _ _ => ?_
    | with_reducible refine fork (fun _ => ?_) (fun _ => ?_)
    | with_reducible refine forkp (fun _ => ?_) (fun _ => ?_)
    | with_reducible refine forke (fun _ => ?_) (fun _ _ => ?_)
    | with_reducible refine tail_k fun _ _ _ => ?_
    | with_reducible refine ext_k fun _ _ _ => ?_
    | with_reducible refine need (by first | kernel_rfl | omega | assumption) ?_
    | with_reducible refine st_agg (by kernel_rfl) rfl (by simp only [natV, intV, S3, *]) fun _ _ _ _ => ?_
    | with_reducible refine wpd_quiet_lit (by kernel_rfl) (by kernel_rfl) (by kernel_rfl) ?_
    | simp (maxDischargeDepth := 3) only [↓X, ↓Y, ↓Q, S1, ↓reduceIte, Nat.reduceEqDiff, Nat.reduceAdd, Int.reduceLT, Int.reduceLE, Int.reduceNeg, Int.reduceBEq, Int.reduceBNe, Int.reduceEq, Nat.reduceLeDiff, Nat.reduceMul, Nat.reduceLT, natV, intV, putAt, idxOk, flatP, *]
    | simp (singlePass := true) (maxDischargeDepth := 99) only [*, S2, Nat.reduceLT])
        refine copyB_k (e := 41) (sz := 2) (by_ := 16) (cs := replC r) (sLen := 1) (dLen := l.length + 1 - i) (by kernel_rfl) hb2 (fun j u hj => by rw [add_none, Nat.zero_add, (kb.2.1 w2 FR).cell]; exact hj) (by rw [Nat.min_eq_left (by omega)]; rfl) (by rw [hc3]; show i * 2 + 2 ≤ _; omega) (replC_one r) fun w3 n3 hb3 s3 c3 => ?_
        generalize hcu1 : (cur.toList.take (i * 2) ++ ZZ).take (i * 2) ++ replC r ++ (cur.toList.take (i * 2) ++ ZZ).drop (i * 2 + (replC r).length) = cur1 at hb3
        (repeat' first
    | ((with_reducible refine wpd_at 11 ?_); refine wpd_hold ?_)
    | with_reducible refine alloc_k fun _ _ _ _ _ _ => ?_
    | ((with_reducible refine at_row ?_); refine row1_k (by rfl) (by decide) fun _ _ _ _ _ _ _ => ?_)
    | with_reducible refine row_k fun _ _ _ _ _ _ => ?_
    | with_reducible refine fork (fun _ => ?_) (fun _ => ?_)
    | with_reducible refine forkp (fun _ => ?_) (fun _ => ?_)
    | with_reducible refine forke (fun _ => ?_) (fun _ _ => ?_)
    | with_reducible refine tail_k fun _ _ _ => ?_
    | with_reducible refine ext_k fun _ _ _ => ?_
    | with_reducible refine need (by first | kernel_rfl | omega | assumption) ?_
    | with_reducible refine st_agg (by kernel_rfl) rfl (by simp only [natV, intV, S3, *]) fun _ _ _ _ => ?_
    | with_reducible refine wpd_quiet_lit (by kernel_rfl) (by kernel_rfl) (by kernel_rfl) ?_
    | simp (maxDischargeDepth := 3) only [↓X, ↓Y, ↓Q, S1, ↓reduceIte, Nat.reduceEqDiff, Nat.reduceAdd, Int.reduceLT, Int.reduceLE, Int.reduceNeg, Int.reduceBEq, Int.reduceBNe, Int.reduceEq, Nat.reduceLeDiff, Nat.reduceMul, Nat.reduceLT, natV, intV, putAt, idxOk, flatP, *]
    | simp (singlePass := true) (maxDischargeDepth := 99) only [*, S2, Nat.reduceLT])
        clear k2 hb2
        have k3 := hb3.bk
        unfold wpdH
        refine wpd_rel 8 (fun iI v w9 => match iI with
          | 0 => v = .slice (some ⟨g2, 0, none⟩) (l.length + 1) c2
          | 1 => v = .int .i64 i
          | 2 => v = .int .i64 1
          | 3 => v = .int .i64 ((i + 1 : Nat) : Int)
          | 4 => v = .slice (some ⟨g2, (i + 1) * 2, none⟩) (l.length + 1 - (i + 1)) (c2 - (i + 1))
          | 5 => v = .slice (some ⟨g, 0, none⟩) l.length cap
          | 6 => v = .int .i64 i
          | 7 => v = .slice (some ⟨g, i * 2, none⟩) (l.length - i) (cap - i)
          | _ => False) (by kernel_rfl) (by kernel_rfl) (by kernel_rfl) ?_ ?_ ?_
        · intro iI v w1 w2 hR hx9
          match iI, hR with
          | 0, h => exact h
          | 1, h => exact h
          | 2, h => exact h
          | 3, h => exact h
          | 4, h => exact h
          | 5, h => exact h
          | 6, h => exact h
          | 7, h => exact h
        · intro iI oO hi ho gF w9 hx9 hdep hag
          have s9 := hx9.st
          have n9 : Now w9 := trivial
          have r9 := Ext.refl w9
          have z9 := hx9.size
          rcases iI with _|_|_|_|_|_|_|_|iI
          · have e := Option.some.inj ho
            subst e
            have a9 := hag.at 9 (by kernel_rfl)
            simp only [U, ↓reduceIte, Nat.reduceEqDiff, initF, U2, List.getElem?_cons_zero, List.getElem?_cons_succ, *] at a9
            clear hag hdep ho
            simp only [relStep, guardOn, if_true]
            (repeat' first
    | with_reducible refine slice_hi (by omega) ?_
    | with_reducible refine slice_lo (by omega) (by omega) (by omega) ?_
    | with_reducible refine alloc_k fun _ _ _ _ _ _ => ?_
    | ((with_reducible refine at_row ?_); refine row1_k (by rfl) (by decide) fun _ _ _ _ _ _ _ => ?_)
    | with_reducible refine row_k fun _ _ _ _ _ _ => ?_
    | with_reducible refine fork (fun _ => ?_) (fun _ => ?_)
    | with_reducible refine forkp (fun _ => ?_) (fun _ => ?_)
    | with_reducible refine forke (fun _ => ?_) (fun _ _ => ?_)
    | with_reducible refine tail_k fun _ _ _ => ?_
    | with_reducible refine ext_k fun _ _ _ => ?_
    | with_reducible refine need (by first | kernel_rfl | omega | assumption) ?_
    | with_reducible refine st_agg (by kernel_rfl) rfl (by simp only [natV, intV, S3, *]) fun _ _ _ _ => ?_
    | with_reducible refine wpd_quiet_lit (by kernel_rfl) (by kernel_rfl) (by kernel_rfl) ?_
    | simp (maxDischargeDepth := 3) only [↓X, ↓Y, ↓Q, S1, ↓reduceIte, Nat.reduceEqDiff, Nat.reduceAdd, Int.reduceLT, Int.reduceLE, Int.reduceNeg, Int.reduceBEq, Int.reduceBNe, Int.reduceEq, Nat.reduceLeDiff, Nat.reduceMul, Nat.reduceLT, natV, intV, putAt, idxOk, flatP, *]
    | simp (singlePass := true) (maxDischargeDepth := 99) only [*, S2, Nat.reduceLT])
          · have e := Option.some.inj ho
            subst e
            have a1 := hag.at 1 (by kernel_rfl)
            simp only [U, ↓reduceIte, Nat.reduceEqDiff, initF, U2, List.getElem?_cons_zero, List.getElem?_cons_succ, *] at a1
            clear hag hdep ho
            simp only [relStep, guardOn, if_true]
            (repeat' first
    | with_reducible refine slice_hi (by omega) ?_
    | with_reducible refine slice_lo (by omega) (by omega) (by omega) ?_
    | with_reducible refine alloc_k fun _ _ _ _ _ _ => ?_
    | ((with_reducible refine at_row ?_); refine row1_k (by rfl) (by decide) fun _ _ _ _ _ _ _ => ?_)
    | with_reducible refine row_k fun _ _ _ _ _ _ => ?_
    | with_reducible refine fork (fun _ => ?_) (fun _ => ?_)
    | with_reducible refine forkp (fun _ => ?_) (fun _ => ?_)
    | with_reducible refine forke (fun _ => ?_) (fun _ _ => ?_)
    | with_reducible refine tail_k fun _ _ _ => ?_
    | with_reducible refine ext_k fun _ _ _ => ?_
    | with_reducible refine need (by first | kernel_rfl | omega | assumption) ?_
    | with_reducible refine st_agg (by kernel_rfl) rfl (by simp only [natV, intV, S3, *]) fun _ _ _ _ => ?_
    | with_reducible refine wpd_quiet_lit (by kernel_rfl) (by kernel_rfl) (by kernel_rfl) ?_
    | simp (maxDischargeDepth := 3) only [↓X, ↓Y, ↓Q, S1, ↓reduceIte, Nat.reduceEqDiff, Nat.reduceAdd, Int.reduceLT, Int.reduceLE, Int.reduceNeg, Int.reduceBEq, Int.reduceBNe, Int.reduceEq, Nat.reduceLeDiff, Nat.reduceMul, Nat.reduceLT, natV, intV, putAt, idxOk, flatP, *]
    | simp (singlePass := true) (maxDischargeDepth := 99) only [*, S2, Nat.reduceLT])
          · have e := Option.some.inj ho
            subst e
            have a7 := hag.at 7 (by kernel_rfl)
            simp only [U, ↓reduceIte, Nat.reduceEqDiff, initF, U2, List.getElem?_cons_zero, List.getElem?_cons_succ, *] at a7
            clear hag hdep ho
            simp only [relStep, guardOn, if_true]
            (repeat' first
    | with_reducible refine slice_hi (by omega) ?_
    | with_reducible refine slice_lo (by omega) (by omega) (by omega) ?_
    | with_reducible refine alloc_k fun _ _ _ _ _ _ => ?_
    | ((with_reducible refine at_row ?_); refine row1_k (by rfl) (by decide) fun _ _ _ _ _ _ _ => ?_)
    | with_reducible refine row_k fun _ _ _ _ _ _ => ?_
    | with_reducible refine fork (fun _ => ?_) (fun _ => ?_)
    | with_reducible refine forkp (fun _ => ?_) (fun _ => ?_)
    | with_reducible refine forke (fun _ => ?_) (fun _ _ => ?_)
    | with_reducible refine tail_k fun _ _ _ => ?_
    | with_reducible refine ext_k fun _ _ _ => ?_
    | with_reducible refine need (by first | kernel_rfl | omega | assumption) ?_
    | with_reducible refine st_agg (by kernel_rfl) rfl (by simp only [natV, intV, S3, *]) fun _ _ _ _ => ?_
    | with_reducible refine wpd_quiet_lit (by kernel_rfl) (by kernel_rfl) (by kernel_rfl) ?_
    | simp (maxDischargeDepth := 3) only [↓X, ↓Y, ↓Q, S1, ↓reduceIte, Nat.reduceEqDiff, Nat.reduceAdd, Int.reduceLT, Int.reduceLE, Int.reduceNeg, Int.reduceBEq, Int.reduceBNe, Int.reduceEq, Nat.reduceLeDiff, Nat.reduceMul, Nat.reduceLT, natV, intV, putAt, idxOk, flatP, *]
    | simp (singlePass := true) (maxDischargeDepth := 99) only [*, S2, Nat.reduceLT])
          · have e := Option.some.inj ho
            subst e
            have d1 : (gF 47) = .int .i64 i := hdep ⟨1, .data⟩ (by simp) rfl _ _ rfl rfl
            have d2 : (gF 48) = .int .i64 1 := hdep ⟨2, .data⟩ (by simp) rfl _ _ rfl rfl
            clear hag hdep ho
            simp only [relStep, guardOn, if_true]
            (repeat' first
    | with_reducible refine slice_hi (by omega) ?_
    | with_reducible refine slice_lo (by omega) (by omega) (by omega) ?_
    | with_reducible refine alloc_k fun _ _ _ _ _ _ => ?_
    | ((with_reducible refine at_row ?_); refine row1_k (by rfl) (by decide) fun _ _ _ _ _ _ _ => ?_)
    | with_reducible refine row_k fun _ _ _ _ _ _ => ?_
    | with_reducible refine fork (fun _ => ?_) (fun _ => ?_)
    | with_reducible refine forkp (fun _ => ?_) (fun _ => ?_)
    | with_reducible refine forke (fun _ => ?_) (fun _ _ => ?_)
    | with_reducible refine tail_k fun _ _ _ => ?_
    | with_reducible refine ext_k fun _ _ _ => ?_
    | with_reducible refine need (by first | kernel_rfl | omega | assumption) ?_
    | with_reducible refine st_agg (by kernel_rfl) rfl (by simp only [natV, intV, S3, *]) fun _ _ _ _ => ?_
    | with_reducible refine wpd_quiet_lit (by kernel_rfl) (by kernel_rfl) (by kernel_rfl) ?_
    | simp (maxDischargeDepth := 3) only [↓X, ↓Y, ↓Q, S1, ↓reduceIte, Nat.reduceEqDiff, Nat.reduceAdd, Int.reduceLT, Int.reduceLE, Int.reduceNeg, Int.reduceBEq, Int.reduceBNe, Int.reduceEq, Nat.reduceLeDiff, Nat.reduceMul, Nat.reduceLT, natV, intV, putAt, idxOk, flatP, *]
    | simp (singlePass := true) (maxDischargeDepth := 99) only [*, S2, Nat.reduceLT])
          · have e := Option.some.inj ho
            subst e
            have d0 : (gF 46) = .slice (some ⟨g2, 0, none⟩) (l.length + 1) c2 := hdep ⟨0, .data⟩ (by simp) rfl _ _ rfl rfl
            have d3 : (gF 49) = .int .i64 ((i + 1 : Nat) : Int) := hdep ⟨3, .data⟩ (by simp) rfl _ _ rfl rfl
            clear hag hdep ho
            simp only [relStep, guardOn, if_true]
            (repeat' first
    | with_reducible refine slice_hi (by omega) ?_
    | with_reducible refine slice_lo (by omega) (by omega) (by omega) ?_
    | with_reducible refine alloc_k fun _ _ _ _ _ _ => ?_
    | ((with_reducible refine at_row ?_); refine row1_k (by rfl) (by decide) fun _ _ _ _ _ _ _ => ?_)
    | with_reducible refine row_k fun _ _ _ _ _ _ => ?_
    | with_reducible refine fork (fun _ => ?_) (fun _ => ?_)
    | with_reducible refine forkp (fun _ => ?_) (fun _ => ?_)
    | with_reducible refine forke (fun _ => ?_) (fun _ _ => ?_)
    | with_reducible refine tail_k fun _ _ _ => ?_
    | with_reducible refine ext_k fun _ _ _ => ?_
    | with_reducible refine need (by first | kernel_rfl | omega | assumption) ?_
    | with_reducible refine st_agg (by kernel_rfl) rfl (by simp only [natV, intV, S3, *]) fun _ _ _ _ => ?_
    | with_reducible refine wpd_quiet_lit (by kernel_rfl) (by kernel_rfl) (by kernel_rfl) ?_
    | simp (maxDischargeDepth := 3) only [↓X, ↓Y, ↓Q, S1, ↓reduceIte, Nat.reduceEqDiff, Nat.reduceAdd, Int.reduceLT, Int.reduceLE, Int.reduceNeg, Int.reduceBEq, Int.reduceBNe, Int.reduceEq, Nat.reduceLeDiff, Nat.reduceMul, Nat.reduceLT, natV, intV, putAt, idxOk, flatP, *]
    | simp (singlePass := true) (maxDischargeDepth := 99) only [*, S2, Nat.reduceLT])
          · have e := Option.some.inj ho
            subst e
            have a0 := hag.at 0 (by kernel_rfl)
            simp only [U, ↓reduceIte, Nat.reduceEqDiff, initF, U2, List.getElem?_cons_zero, List.getElem?_cons_succ, *] at a0
            clear hag hdep ho
            simp only [relStep, guardOn, if_true]
            (repeat' first
    | with_reducible refine slice_hi (by omega) ?_
    | with_reducible refine slice_lo (by omega) (by omega) (by omega) ?_
    | with_reducible refine alloc_k fun _ _ _ _ _ _ => ?_
    | ((with_reducible refine at_row ?_); refine row1_k (by rfl) (by decide) fun _ _ _ _ _ _ _ => ?_)
    | with_reducible refine row_k fun _ _ _ _ _ _ => ?_
    | with_reducible refine fork (fun _ => ?_) (fun _ => ?_)
    | with_reducible refine forkp (fun _ => ?_) (fun _ => ?_)
    | with_reducible refine forke (fun _ => ?_) (fun _ _ => ?_)
    | with_reducible refine tail_k fun _ _ _ => ?_
    | with_reducible refine ext_k fun _ _ _ => ?_
    | with_reducible refine need (by first | kernel_rfl | omega | assumption) ?_
    | with_reducible refine st_agg (by kernel_rfl) rfl (by simp only [natV, intV, S3, *]) fun _ _ _ _ => ?_
    | with_reducible refine wpd_quiet_lit (by kernel_rfl) (by kernel_rfl) (by kernel_rfl) ?_
    | simp (maxDischargeDepth := 3) only [↓X, ↓Y, ↓Q, S1, ↓reduceIte, Nat.reduceEqDiff, Nat.reduceAdd, Int.reduceLT, Int.reduceLE, Int.reduceNeg, Int.reduceBEq, Int.reduceBNe, Int.reduceEq, Nat.reduceLeDiff, Nat.reduceMul, Nat.reduceLT, natV, intV, putAt, idxOk, flatP, *]
    | simp (singlePass := true) (maxDischargeDepth := 99) only [*, S2, Nat.reduceLT])
          · have e := Option.some.inj ho
            subst e
            have a1 := hag.at 1 (by kernel_rfl)
            simp only [U, ↓reduceIte, Nat.reduceEqDiff, initF, U2, List.getElem?_cons_zero, List.getElem?_cons_succ, *] at a1
            clear hag hdep ho
            simp only [relStep, guardOn, if_true]
            (repeat' first
    | with_reducible refine slice_hi (by omega) ?_
    | with_reducible refine slice_lo (by omega) (by omega) (by omega) ?_
    | with_reducible refine alloc_k fun _ _ _ _ _ _ => ?_
    | ((with_reducible refine at_row ?_); refine row1_k (by rfl) (by decide) fun _ _ _ _ _ _ _ => ?_)
    | with_reducible refine row_k fun _ _ _ _ _ _ => ?_
    | with_reducible refine fork (fun _ => ?_) (fun _ => ?_)
    | with_reducible refine forkp (fun _ => ?_) (fun _ => ?_)
    | with_reducible refine forke (fun _ => ?_) (fun _ _ => ?_)
    | with_reducible refine tail_k fun _ _ _ => ?_
    | with_reducible refine ext_k fun _ _ _ => ?_
    | with_reducible refine need (by first | kernel_rfl | omega | assumption) ?_
    | with_reducible refine st_agg (by kernel_rfl) rfl (by simp only [natV, intV, S3, *]) fun _ _ _ _ => ?_
    | with_reducible refine wpd_quiet_lit (by kernel_rfl) (by kernel_rfl) (by kernel_rfl) ?_
    | simp (maxDischargeDepth := 3) only [↓X, ↓Y, ↓Q, S1, ↓reduceIte, Nat.reduceEqDiff, Nat.reduceAdd, Int.reduceLT, Int.reduceLE, Int.reduceNeg, Int.reduceBEq, Int.reduceBNe, Int.reduceEq, Nat.reduceLeDiff, Nat.reduceMul, Nat.reduceLT, natV, intV, putAt, idxOk, flatP, *]
    | simp (singlePass := true) (maxDischargeDepth := 99) only [*, S2, Nat.reduceLT])
          · have e := Option.some.inj ho
            subst e
            have d5 : (gF 51) = .slice (some ⟨g, 0, none⟩) l.length cap := hdep ⟨5, .data⟩ (by simp) rfl _ _ rfl rfl
            have d6 : (gF 52) = .int .i64 i := hdep ⟨6, .data⟩ (by simp) rfl _ _ rfl rfl
            clear hag hdep ho
            simp only [relStep, guardOn, if_true]
            (repeat' first
    | with_reducible refine slice_hi (by omega) ?_
    | with_reducible refine slice_lo (by omega) (by omega) (by omega) ?_
    | with_reducible refine alloc_k fun _ _ _ _ _ _ => ?_
    | ((with_reducible refine at_row ?_); refine row1_k (by rfl) (by decide) fun _ _ _ _ _ _ _ => ?_)
    | with_reducible refine row_k fun _ _ _ _ _ _ => ?_
    | with_reducible refine fork (fun _ => ?_) (fun _ => ?_)
    | with_reducible refine forkp (fun _ => ?_) (fun _ => ?_)
    | with_reducible refine forke (fun _ => ?_) (fun _ _ => ?_)
    | with_reducible refine tail_k fun _ _ _ => ?_
    | with_reducible refine ext_k fun _ _ _ => ?_
    | with_reducible refine need (by first | kernel_rfl | omega | assumption) ?_
    | with_reducible refine st_agg (by kernel_rfl) rfl (by simp only [natV, intV, S3, *]) fun _ _ _ _ => ?_
    | with_reducible refine wpd_quiet_lit (by kernel_rfl) (by kernel_rfl) (by kernel_rfl) ?_
    | simp (maxDischargeDepth := 3) only [↓X, ↓Y, ↓Q, S1, ↓reduceIte, Nat.reduceEqDiff, Nat.reduceAdd, Int.reduceLT, Int.reduceLE, Int.reduceNeg, Int.reduceBEq, Int.reduceBNe, Int.reduceEq, Nat.reduceLeDiff, Nat.reduceMul, Nat.reduceLT, natV, intV, putAt, idxOk, flatP, *]
    | simp (singlePass := true) (maxDischargeDepth := 99) only [*, S2, Nat.reduceLT])
          · omega
        · intro g9 w9 hx9 hR hag
          have s9 := hx9.st
          have n9 : Now w9 := trivial
          have r9 := Ext.refl w9
          have z9 := hx9.size
          have d4 : (g9 50) = .slice (some ⟨g2, (i + 1) * 2, none⟩) (l.length + 1 - (i + 1)) (c2 - (i + 1)) := hR 4 _ _ (by decide) rfl rfl
          have d7 : (g9 53) = .slice (some ⟨g, i * 2, none⟩) (l.length - i) (cap - i) := hR 7 _ _ (by decide) rfl rfl
          have a9 := hag.at 9 (by kernel_rfl)
          simp only [U, ↓reduceIte, Nat.reduceEqDiff, initF, U2, List.getElem?_cons_zero, List.getElem?_cons_succ, *] at a9
          clear hag hR
          simp only [List.drop_succ_cons, List.drop_zero]
          (repeat' first
    | with_reducible refine alloc_k fun _ _ _ _ _ _ => ?_
    | ((with_reducible refine at_row ?_); refine row1_k (by rfl) (by decide) fun _ _ _ _ _ _ _ => ?_)
    | with_reducible refine row_k fun _ _ _ _ _ _ => ?_
    | with_reducible refine fork (fun _ => ?_) (fun _ => ?_)
    | with_reducible refine forkp (fun _ => ?_) (fun _ => ?_)
    | with_reducible refine forke (fun _ => ?_) (fun _ _ => ?_)
    | with_reducible refine tail_k fun _ _ _ => ?_
    | with_reducible refine ext_k fun _ _ _ => ?_
    | with_reducible refine need (by first | kernel_rfl | omega | assumption) ?_
    | with_reducible refine st_agg (by kernel_rfl) rfl (by simp only [natV, intV, S3, *]) fun _ _ _ _ => ?_
    | with_reducible refine wpd_quiet_lit (by kernel_rfl) (by kernel_rfl) (by kernel_rfl) ?_
    | simp (maxDischargeDepth := 3) only [↓X, ↓Y, ↓Q, S1, ↓reduceIte, Nat.reduceEqDiff, Nat.reduceAdd, Int.reduceLT, Int.reduceLE, Int.reduceNeg, Int.reduceBEq, Int.reduceBNe, Int.reduceEq, Nat.reduceLeDiff, Nat.reduceMul, Nat.reduceLT, natV, intV, putAt, idxOk, flatP, *]
    | simp (singlePass := true) (maxDischargeDepth := 99) only [*, S2, Nat.reduceLT])
          obtain ⟨hall, hone, hsrc, hdl, hres, hall2, hlen2, htake, hcs⟩ := pure3.out
          have hti : cur.toList.take (i * 2) = ((l.map replC).take i).flatten := by
            rw [← flat_take _ _ hall, ← htake, List.take_take, Nat.min_eq_left (by omega)]
          have hgr := ins_grow (k := 2) (i := i) (l := l.map replC) (cur := cur.toList.take (i * 2) ++ ZZ) (vs := replC r) hall (by simpa using hil) rfl (by rw [List.take_left' (by rw [List.length_take, hcs]; omega)]; exact hti) (by rw [hc3, List.length_map]; omega) cur1 hcu1.symm
          refine copyB_k (e := 41) (sz := 2) (by_ := 16) (cs := ((l.map replC).drop i).flatten) (sLen := l.length - i) (dLen := l.length + 1 - (i + 1)) (by kernel_rfl) (k3.2.1 w9 FR) (fun j u hj => by rw [add_none, (kg.2.1 w9 FR).cell]; exact hsrc j u hj) (by rw [hdl, Nat.min_eq_left (by omega)]) (by rw [hdl, hgr.2.1, hc3]; omega) hone fun w4 n4 hb4 s4 c4 => ?_
          have he : Ext w w4 := FR
          rw [List.length_map, hres] at hgr
          (repeat' first
    | with_reducible refine alloc_k fun _ _ _ _ _ _ => ?_
    | ((with_reducible refine at_row ?_); refine row1_k (by rfl) (by decide) fun _ _ _ _ _ _ _ => ?_)
    | with_reducible refine row_k fun _ _ _ _ _ _ => ?_
    | with_reducible refine fork (fun _ => ?_) (fun _ => ?_)
    | with_reducible refine forkp (fun _ => ?_) (fun _ => ?_)
    | with_reducible refine forke (fun _ => ?_) (fun _ _ => ?_)
    | with_reducible refine tail_k fun _ _ _ => ?_
    | with_reducible refine ext_k fun _ _ _ => ?_
    | with_reducible refine need (by first | kernel_rfl | omega | assumption) ?_
    | with_reducible refine st_agg (by kernel_rfl) rfl (by simp only [natV, intV, S3, *]) fun _ _ _ _ => ?_
    | with_reducible refine wpd_quiet_lit (by kernel_rfl) (by kernel_rfl) (by kernel_rfl) ?_
    | simp (maxDischargeDepth := 3) only [↓X, ↓Y, ↓Q, S1, ↓reduceIte, Nat.reduceEqDiff, Nat.reduceAdd, Int.reduceLT, Int.reduceLE, Int.reduceNeg, Int.reduceBEq, Int.reduceBNe, Int.reduceEq, Nat.reduceLeDiff, Nat.reduceMul, Nat.reduceLT, natV, intV, putAt, idxOk, flatP, *]
    | simp (singlePass := true) (maxDischargeDepth := 99) only [*, S2, Nat.reduceLT])
          exact ⟨grown_ext he, own_of_blk hb4 hlen2.symm hc1 hc2 (hgr.2.2.trans hc3) hgr.1 hall2 FR (by rw [hlen2]; omega)⟩
      · have hcap' : ¬ cap < l.length + 1 := by omega
        have cg0 : Cg g w w := Chg.refl' w g
        clear hg hcs htake o hs0 hown
        (repeat' first
    | with_reducible refine slice_hi (by omega) ?_
    | with_reducible refine slice_lo (by omega) (by omega) (by omega) ?_
    | with_reducible refine alloc_k fun _ _ _ _ _ _ => ?_
    | ((with_reducible refine at_row ?_); refine row1_k (by rfl) (by decide) fun _ _ _ _ _ _ _ => ?_)
    | with_reducible refine row_k fun _ _ _ _ _ _ => ?_
    | with_reducible refine fork (fun _ => ?_) (fun _ => ?_)
    | with_reducible refine forkp (fun _ => ?_) (fun _ => ?_)
    | with_reducible refine forke (fun _ => ?_) (fun _ _ => ?_)
    | with_reducible refine tail_k fun _ _ _ => ?_
    | with_reducible refine ext_k fun _ _ _ => ?_
    | with_reducible refine need (by first | kernel_rfl | omega | assumption) ?_
    | with_reducible refine st_agg (by kernel_rfl) rfl (by simp only [natV, intV, S3, *]) fun _ _ _ _ => ?_
    | with_reducible refine wpd_quiet_lit (by kernel_rfl) (by kernel_rfl) (by kernel_rfl) ?_
    | simp (maxDischargeDepth := 3) only [↓X, ↓Y, ↓Q, S1, ↓reduceIte, Nat.reduceEqDiff, Nat.reduceAdd, Int.reduceLT, Int.reduceLE, Int.reduceNeg, Int.reduceBEq, Int.reduceBNe, Int.reduceEq, Nat.reduceLeDiff, Nat.reduceMul, Nat.reduceLT, natV, intV, putAt, idxOk, flatP, *]
    | simp (singlePass := true) (maxDischargeDepth := 99) only [*, S2, Nat.reduceLT])
        refine overlaps_k (show b ≠ g from hbg) hb hcur (by
          have := pure3.out.2.2.2.2.2.2.2.2
          intro h
          rw [h] at this
          simp at this
          omega) ?_
        (repeat' first
    | ((with_reducible refine wpd_at 15 ?_); refine wpd_hold ?_)
    | with_reducible refine slice_hi (by omega) ?_
    | with_reducible refine slice_lo (by omega) (by omega) (by omega) ?_
    | with_reducible refine alloc_k fun _ _ _ _ _ _ => ?_
    | ((with_reducible refine at_row ?_); refine row1_k (by rfl) (by decide) fun _ _ _ _ _ _ _ => ?_)
    | with_reducible refine row_k fun _ _ _ _ _ _ => ?_
    | with_reducible refine fork (fun _ => ?_) (fun _ => ?_)
    | with_reducible refine forkp (fun _ => ?_) (fun _ => ?_)
    | with_reducible refine forke (fun _ => ?_) (fun _ _ => ?_)
    | with_reducible refine tail_k fun _ _ _ => ?_
    | with_reducible refine ext_k fun _ _ _ => ?_
    | with_reducible refine need (by first | kernel_rfl | omega | assumption) ?_
    | with_reducible refine st_agg (by kernel_rfl) rfl (by simp only [natV, intV, S3, *]) fun _ _ _ _ => ?_
    | with_reducible refine wpd_quiet_lit (by kernel_rfl) (by kernel_rfl) (by kernel_rfl) ?_
    | simp (maxDischargeDepth := 3) only [↓X, ↓Y, ↓Q, S1, ↓reduceIte, Nat.reduceEqDiff, Nat.reduceAdd, Int.reduceLT, Int.reduceLE, Int.reduceNeg, Int.reduceBEq, Int.reduceBNe, Int.reduceEq, Nat.reduceLeDiff, Nat.reduceMul, Nat.reduceLT, natV, intV, putAt, idxOk, flatP, *]
    | simp (singlePass := true) (maxDischargeDepth := 99) only [*, S2, Nat.reduceLT])
        unfold wpdH
        refine wpd_rel 8 (fun iI v w9 => match iI with
          | 0 => v = .slice (some ⟨g, 0, none⟩) (l.length + 1) cap
          | 1 => v = .int .i64 i
          | 2 => v = .int .i64 1
          | 3 => v = .int .i64 ((i + 1 : Nat) : Int)
          | 4 => v = .slice (some ⟨g, (i + 1) * 2, none⟩) (l.length + 1 - (i + 1)) (cap - (i + 1))
          | 5 => v = .slice (some ⟨g, 0, none⟩) (l.length + 1) cap
          | 6 => v = .int .i64 i
          | 7 => v = .slice (some ⟨g, i * 2, none⟩) ((l.length + 1) - i) (cap - i)
          | _ => False) (by kernel_rfl) (by kernel_rfl) (by kernel_rfl) ?_ ?_ ?_
        · intro iI v w1 w2 hR hx9
          match iI, hR with
          | 0, h => exact h
          | 1, h => exact h
          | 2, h => exact h
          | 3, h => exact h
          | 4, h => exact h
          | 5, h => exact h
          | 6, h => exact h
          | 7, h => exact h
        · intro iI oO hi ho gF w9 hx9 hdep hag
          have s9 := hx9.st
          have n9 : Now w9 := trivial
          have r9 := Ext.refl w9
          have z9 := hx9.size
          rcases iI with _|_|_|_|_|_|_|_|iI
          · have e := Option.some.inj ho
            subst e
            have a0 := hag.at 0 (by kernel_rfl)
            simp only [U, ↓reduceIte, Nat.reduceEqDiff, initF, U2, List.getElem?_cons_zero, List.getElem?_cons_succ, *] at a0
            clear hag hdep ho
            simp only [relStep, guardOn, if_true]
            (repeat' first
    | with_reducible refine slice_hi (by omega) ?_
    | with_reducible refine slice_lo (by omega) (by omega) (by omega) ?_
    | with_reducible refine alloc_k fun _ _ _ _ _ _ => ?_
    | ((with_reducible refine at_row ?_); refine row1_k (by rfl) (by decide) fun _ _ _ _ _ _ _ => ?_)
    | with_reducible refine row_k fun _ _ _ _ _ _ => ?_
    | with_reducible refine fork (fun _ => ?_) (fun _ => ?_)
    | with_reducible refine forkp (fun _ => ?_) (fun _ => ?_)
    | with_reducible refine forke (fun _ => ?_) (fun _ _ => ?_)
    | with_reducible refine tail_k fun _ _ _ => ?_
    | with_reducible refine ext_k fun _ _ _ => ?_
    | with_reducible refine need (by first | kernel_rfl | omega | assumption) ?_
    | with_reducible refine st_agg (by kernel_rfl) rfl (by simp only [natV, intV, S3, *]) fun _ _ _ _ => ?_
    | with_reducible refine wpd_quiet_lit (by kernel_rfl) (by kernel_rfl) (by kernel_rfl) ?_
    | simp (maxDischargeDepth := 3) only [↓X, ↓Y, ↓Q, S1, ↓reduceIte, Nat.reduceEqDiff, Nat.reduceAdd, Int.reduceLT, Int.reduceLE, Int.reduceNeg, Int.reduceBEq, Int.reduceBNe, Int.reduceEq, Nat.reduceLeDiff, Nat.reduceMul, Nat.reduceLT, natV, intV, putAt, idxOk, flatP, *]
    | simp (singlePass := true) (maxDischargeDepth := 99) only [*, S2, Nat.reduceLT])
          · have e := Option.some.inj ho
            subst e
            have a1 := hag.at 1 (by kernel_rfl)
            simp only [U, ↓reduceIte, Nat.reduceEqDiff, initF, U2, List.getElem?_cons_zero, List.getElem?_cons_succ, *] at a1
            clear hag hdep ho
            simp only [relStep, guardOn, if_true]
            (repeat' first
    | with_reducible refine slice_hi (by omega) ?_
    | with_reducible refine slice_lo (by omega) (by omega) (by omega) ?_
    | with_reducible refine alloc_k fun _ _ _ _ _ _ => ?_
    | ((with_reducible refine at_row ?_); refine row1_k (by rfl) (by decide) fun _ _ _ _ _ _ _ => ?_)
    | with_reducible refine row_k fun _ _ _ _ _ _ => ?_
    | with_reducible refine fork (fun _ => ?_) (fun _ => ?_)
    | with_reducible refine forkp (fun _ => ?_) (fun _ => ?_)
    | with_reducible refine forke (fun _ => ?_) (fun _ _ => ?_)
    | with_reducible refine tail_k fun _ _ _ => ?_
    | with_reducible refine ext_k fun _ _ _ => ?_
    | with_reducible refine need (by first | kernel_rfl | omega | assumption) ?_
    | with_reducible refine st_agg (by kernel_rfl) rfl (by simp only [natV, intV, S3, *]) fun _ _ _ _ => ?_
    | with_reducible refine wpd_quiet_lit (by kernel_rfl) (by kernel_rfl) (by kernel_rfl) ?_
    | simp (maxDischargeDepth := 3) only [↓X, ↓Y, ↓Q, S1, ↓reduceIte, Nat.reduceEqDiff, Nat.reduceAdd, Int.reduceLT, Int.reduceLE, Int.reduceNeg, Int.reduceBEq, Int.reduceBNe, Int.reduceEq, Nat.reduceLeDiff, Nat.reduceMul, Nat.reduceLT, natV, intV, putAt, idxOk, flatP, *]
    | simp (singlePass := true) (maxDischargeDepth := 99) only [*, S2, Nat.reduceLT])
          · have e := Option.some.inj ho
            subst e
            have a7 := hag.at 7 (by kernel_rfl)
            simp only [U, ↓reduceIte, Nat.reduceEqDiff, initF, U2, List.getElem?_cons_zero, List.getElem?_cons_succ, *] at a7
            clear hag hdep ho
            simp only [relStep, guardOn, if_true]
            (repeat' first
    | with_reducible refine slice_hi (by omega) ?_
    | with_reducible refine slice_lo (by omega) (by omega) (by omega) ?_
    | with_reducible refine alloc_k fun _ _ _ _ _ _ => ?_
    | ((with_reducible refine at_row ?_); refine row1_k (by rfl) (by decide) fun _ _ _ _ _ _ _ => ?_)
    | with_reducible refine row_k fun _ _ _ _ _ _ => ?_
    | with_reducible refine fork (fun _ => ?_) (fun _ => ?_)
    | with_reducible refine forkp (fun _ => ?_) (fun _ => ?_)
    | with_reducible refine forke (fun _ => ?_) (fun _ _ => ?_)
    | with_reducible refine tail_k fun _ _ _ => ?_
    | with_reducible refine ext_k fun _ _ _ => ?_
    | with_reducible refine need (by first | kernel_rfl | omega | assumption) ?_
    | with_reducible refine st_agg (by kernel_rfl) rfl (by simp only [natV, intV, S3, *]) fun _ _ _ _ => ?_
    | with_reducible refine wpd_quiet_lit (by kernel_rfl) (by kernel_rfl) (by kernel_rfl) ?_
    | simp (maxDischargeDepth := 3) only [↓X, ↓Y, ↓Q, S1, ↓reduceIte, Nat.reduceEqDiff, Nat.reduceAdd, Int.reduceLT, Int.reduceLE, Int.reduceNeg, Int.reduceBEq, Int.reduceBNe, Int.reduceEq, Nat.reduceLeDiff, Nat.reduceMul, Nat.reduceLT, natV, intV, putAt, idxOk, flatP, *]
    | simp (singlePass := true) (maxDischargeDepth := 99) only [*, S2, Nat.reduceLT])
          · have e := Option.some.inj ho
            subst e
            have d1 : (gF 70) = .int .i64 i := hdep ⟨1, .data⟩ (by simp) rfl _ _ rfl rfl
            have d2 : (gF 71) = .int .i64 1 := hdep ⟨2, .data⟩ (by simp) rfl _ _ rfl rfl
            clear hag hdep ho
            simp only [relStep, guardOn, if_true]
            (repeat' first
    | with_reducible refine slice_hi (by omega) ?_
    | with_reducible refine slice_lo (by omega) (by omega) (by omega) ?_
    | with_reducible refine alloc_k fun _ _ _ _ _ _ => ?_
    | ((with_reducible refine at_row ?_); refine row1_k (by rfl) (by decide) fun _ _ _ _ _ _ _ => ?_)
    | with_reducible refine row_k fun _ _ _ _ _ _ => ?_
    | with_reducible refine fork (fun _ => ?_) (fun _ => ?_)
    | with_reducible refine forkp (fun _ => ?_) (fun _ => ?_)
    | with_reducible refine forke (fun _ => ?_) (fun _ _ => ?_)
    | with_reducible refine tail_k fun _ _ _ => ?_
    | with_reducible refine ext_k fun _ _ _ => ?_
    | with_reducible refine need (by first | kernel_rfl | omega | assumption) ?_
    | with_reducible refine st_agg (by kernel_rfl) rfl (by simp only [natV, intV, S3, *]) fun _ _ _ _ => ?_
    | with_reducible refine wpd_quiet_lit (by kernel_rfl) (by kernel_rfl) (by kernel_rfl) ?_
    | simp (maxDischargeDepth := 3) only [↓X, ↓Y, ↓Q, S1, ↓reduceIte, Nat.reduceEqDiff, Nat.reduceAdd, Int.reduceLT, Int.reduceLE, Int.reduceNeg, Int.reduceBEq, Int.reduceBNe, Int.reduceEq, Nat.reduceLeDiff, Nat.reduceMul, Nat.reduceLT, natV, intV, putAt, idxOk, flatP, *]
    | simp (singlePass := true) (maxDischargeDepth := 99) only [*, S2, Nat.reduceLT])
          · have e := Option.some.inj ho
            subst e
            have d0 : (gF 69) = .slice (some ⟨g, 0, none⟩) (l.length + 1) cap := hdep ⟨0, .data⟩ (by simp) rfl _ _ rfl rfl
            have d3 : (gF 72) = .int .i64 ((i + 1 : Nat) : Int) := hdep ⟨3, .data⟩ (by simp) rfl _ _ rfl rfl
            clear hag hdep ho
            simp only [relStep, guardOn, if_true]
            (repeat' first
    | with_reducible refine slice_hi (by omega) ?_
    | with_reducible refine slice_lo (by omega) (by omega) (by omega) ?_
    | with_reducible refine alloc_k fun _ _ _ _ _ _ => ?_
    | ((with_reducible refine at_row ?_); refine row1_k (by rfl) (by decide) fun _ _ _ _ _ _ _ => ?_)
    | with_reducible refine row_k fun _ _ _ _ _ _ => ?_
    | with_reducible refine fork (fun _ => ?_) (fun _ => ?_)
    | with_reducible refine forkp (fun _ => ?_) (fun _ => ?_)
    | with_reducible refine forke (fun _ => ?_) (fun _ _ => ?_)
    | with_reducible refine tail_k fun _ _ _ => ?_
    | with_reducible refine ext_k fun _ _ _ => ?_
    | with_reducible refine need (by first | kernel_rfl | omega | assumption) ?_
    | with_reducible refine st_agg (by kernel_rfl) rfl (by simp only [natV, intV, S3, *]) fun _ _ _ _ => ?_
    | with_reducible refine wpd_quiet_lit (by kernel_rfl) (by kernel_rfl) (by kernel_rfl) ?_
    | simp (maxDischargeDepth := 3) only [↓X, ↓Y, ↓Q, S1, ↓reduceIte, Nat.reduceEqDiff, Nat.reduceAdd, Int.reduceLT, Int.reduceLE, Int.reduceNeg, Int.reduceBEq, Int.reduceBNe, Int.reduceEq, Nat.reduceLeDiff, Nat.reduceMul, Nat.reduceLT, natV, intV, putAt, idxOk, flatP, *]
    | simp (singlePass := true) (maxDischargeDepth := 99) only [*, S2, Nat.reduceLT])
          · have e := Option.some.inj ho
            subst e
            have a0 := hag.at 0 (by kernel_rfl)
            simp only [U, ↓reduceIte, Nat.reduceEqDiff, initF, U2, List.getElem?_cons_zero, List.getElem?_cons_succ, *] at a0
            clear hag hdep ho
            simp only [relStep, guardOn, if_true]
            (repeat' first
    | with_reducible refine slice_hi (by omega) ?_
    | with_reducible refine slice_lo (by omega) (by omega) (by omega) ?_
    | with_reducible refine alloc_k fun _ _ _ _ _ _ => ?_
    | ((with_reducible refine at_row ?_); refine row1_k (by rfl) (by decide) fun _ _ _ _ _ _ _ => ?_)
    | with_reducible refine row_k fun _ _ _ _ _ _ => ?_
    | with_reducible refine fork (fun _ => ?_) (fun _ => ?_)
    | with_reducible refine forkp (fun _ => ?_) (fun _ => ?_)
    | with_reducible refine forke (fun _ => ?_) (fun _ _ => ?_)
    | with_reducible refine tail_k fun _ _ _ => ?_
    | with_reducible refine ext_k fun _ _ _ => ?_
    | with_reducible refine need (by first | kernel_rfl | omega | assumption) ?_
    | with_reducible refine st_agg (by kernel_rfl) rfl (by simp only [natV, intV, S3, *]) fun _ _ _ _ => ?_
    | with_reducible refine wpd_quiet_lit (by kernel_rfl) (by kernel_rfl) (by kernel_rfl) ?_
    | simp (maxDischargeDepth := 3) only [↓X, ↓Y, ↓Q, S1, ↓reduceIte, Nat.reduceEqDiff, Nat.reduceAdd, Int.reduceLT, Int.reduceLE, Int.reduceNeg, Int.reduceBEq, Int.reduceBNe, Int.reduceEq, Nat.reduceLeDiff, Nat.reduceMul, Nat.reduceLT, natV, intV, putAt, idxOk, flatP, *]
    | simp (singlePass := true) (maxDischargeDepth := 99) only [*, S2, Nat.reduceLT])
          · have e := Option.some.inj ho
            subst e
            have a1 := hag.at 1 (by kernel_rfl)
            simp only [U, ↓reduceIte, Nat.reduceEqDiff, initF, U2, List.getElem?_cons_zero, List.getElem?_cons_succ, *] at a1
            clear hag hdep ho
            simp only [relStep, guardOn, if_true]
            (repeat' first
    | with_reducible refine slice_hi (by omega) ?_
    | with_reducible refine slice_lo (by omega) (by omega) (by omega) ?_
    | with_reducible refine alloc_k fun _ _ _ _ _ _ => ?_
    | ((with_reducible refine at_row ?_); refine row1_k (by rfl) (by decide) fun _ _ _ _ _ _ _ => ?_)
    | with_reducible refine row_k fun _ _ _ _ _ _ => ?_
    | with_reducible refine fork (fun _ => ?_) (fun _ => ?_)
    | with_reducible refine forkp (fun _ => ?_) (fun _ => ?_)
    | with_reducible refine forke (fun _ => ?_) (fun _ _ => ?_)
    | with_reducible refine tail_k fun _ _ _ => ?_
    | with_reducible refine ext_k fun _ _ _ => ?_
    | with_reducible refine need (by first | kernel_rfl | omega | assumption) ?_
    | with_reducible refine st_agg (by kernel_rfl) rfl (by simp only [natV, intV, S3, *]) fun _ _ _ _ => ?_
    | with_reducible refine wpd_quiet_lit (by kernel_rfl) (by kernel_rfl) (by kernel_rfl) ?_
    | simp (maxDischargeDepth := 3) only [↓X, ↓Y, ↓Q, S1, ↓reduceIte, Nat.reduceEqDiff, Nat.reduceAdd, Int.reduceLT, Int.reduceLE, Int.reduceNeg, Int.reduceBEq, Int.reduceBNe, Int.reduceEq, Nat.reduceLeDiff, Nat.reduceMul, Nat.reduceLT, natV, intV, putAt, idxOk, flatP, *]
    | simp (singlePass := true) (maxDischargeDepth := 99) only [*, S2, Nat.reduceLT])
          · have e := Option.some.inj ho
            subst e
            have d5 : (gF 74) = .slice (some ⟨g, 0, none⟩) (l.length + 1) cap := hdep ⟨5, .data⟩ (by simp) rfl _ _ rfl rfl
            have d6 : (gF 75) = .int .i64 i := hdep ⟨6, .data⟩ (by simp) rfl _ _ rfl rfl
            clear hag hdep ho
            simp only [relStep, guardOn, if_true]
            (repeat' first
    | with_reducible refine slice_hi (by omega) ?_
    | with_reducible refine slice_lo (by omega) (by omega) (by omega) ?_
    | with_reducible refine alloc_k fun _ _ _ _ _ _ => ?_
    | ((with_reducible refine at_row ?_); refine row1_k (by rfl) (by decide) fun _ _ _ _ _ _ _ => ?_)
    | with_reducible refine row_k fun _ _ _ _ _ _ => ?_
    | with_reducible refine fork (fun _ => ?_) (fun _ => ?_)
    | with_reducible refine forkp (fun _ => ?_) (fun _ => ?_)
    | with_reducible refine forke (fun _ => ?_) (fun _ _ => ?_)
    | with_reducible refine tail_k fun _ _ _ => ?_
    | with_reducible refine ext_k fun _ _ _ => ?_
    | with_reducible refine need (by first | kernel_rfl | omega | assumption) ?_
    | with_reducible refine st_agg (by kernel_rfl) rfl (by simp only [natV, intV, S3, *]) fun _ _ _ _ => ?_
    | with_reducible refine wpd_quiet_lit (by kernel_rfl) (by kernel_rfl) (by kernel_rfl) ?_
    | simp (maxDischargeDepth := 3) only [↓X, ↓Y, ↓Q, S1, ↓reduceIte, Nat.reduceEqDiff, Nat.reduceAdd, Int.reduceLT, Int.reduceLE, Int.reduceNeg, Int.reduceBEq, Int.reduceBNe, Int.reduceEq, Nat.reduceLeDiff, Nat.reduceMul, Nat.reduceLT, natV, intV, putAt, idxOk, flatP, *]
    | simp (singlePass := true) (maxDischargeDepth := 99) only [*, S2, Nat.reduceLT])
          · omega
        · intro g9 w9 hx9 hR hag
          have s9 := hx9.st
          have n9 : Now w9 := trivial
          have r9 := Ext.refl w9
          have z9 := hx9.size
          have d4 : (g9 73) = .slice (some ⟨g, (i + 1) * 2, none⟩) (l.length + 1 - (i + 1)) (cap - (i + 1)) := hR 4 _ _ (by decide) rfl rfl
          have d7 : (g9 76) = .slice (some ⟨g, i * 2, none⟩) ((l.length + 1) - i) (cap - i) := hR 7 _ _ (by decide) rfl rfl
          have a0 := hag.at 0 (by kernel_rfl)
          have a1 := hag.at 1 (by kernel_rfl)
          have a2 := hag.at 2 (by kernel_rfl)
          simp only [U, ↓reduceIte, Nat.reduceEqDiff, initF, U2, List.getElem?_cons_zero, List.getElem?_cons_succ, *] at a0 a1 a2
          clear hag hR
          simp only [List.drop_succ_cons, List.drop_zero]
          (repeat' first
    | with_reducible refine alloc_k fun _ _ _ _ _ _ => ?_
    | ((with_reducible refine at_row ?_); refine row1_k (by rfl) (by decide) fun _ _ _ _ _ _ _ => ?_)
    | with_reducible refine row_k fun _ _ _ _ _ _ => ?_
    | with_reducible refine fork (fun _ => ?_) (fun _ => ?_)
    | with_reducible refine forkp (fun _ => ?_) (fun _ => ?_)
    | with_reducible refine forke (fun _ => ?_) (fun _ _ => ?_)
    | with_reducible refine tail_k fun _ _ _ => ?_
    | with_reducible refine ext_k fun _ _ _ => ?_
    | with_reducible refine need (by first | kernel_rfl | omega | assumption) ?_
    | with_reducible refine st_agg (by kernel_rfl) rfl (by simp only [natV, intV, S3, *]) fun _ _ _ _ => ?_
    | with_reducible refine wpd_quiet_lit (by kernel_rfl) (by kernel_rfl) (by kernel_rfl) ?_
    | simp (maxDischargeDepth := 3) only [↓X, ↓Y, ↓Q, S1, ↓reduceIte, Nat.reduceEqDiff, Nat.reduceAdd, Int.reduceLT, Int.reduceLE, Int.reduceNeg, Int.reduceBEq, Int.reduceBNe, Int.reduceEq, Nat.reduceLeDiff, Nat.reduceMul, Nat.reduceLT, natV, intV, putAt, idxOk, flatP, *]
    | simp (singlePass := true) (maxDischargeDepth := 99) only [*, S2, Nat.reduceLT])
          obtain ⟨hall, hone, hsrc, hdl, hres, hall2, hlen2, htake, hcs⟩ := pure3.out
          generalize hcu1 : cur.toList.take ((i + 1) * 2) ++ ((l.map replC).drop i).flatten ++ cur.toList.drop ((i + 1) * 2 + ((l.map replC).drop i).flatten.length) = cur1
          have hro := ins_room (k := 2) (i := i) (l := l.map replC) (cur := cur.toList) (vs := replC r) hall (by simpa using hil) rfl (by rw [List.length_map]; exact htake) (by rw [List.length_map]; rw [hcs]; omega) cur1 hcu1.symm
          refine copyB_k (e := 41) (sz := 2) (by_ := 16) (cs := ((l.map replC).drop i).flatten) (sLen := l.length + 1 - i) (dLen := l.length + 1 - (i + 1)) (by kernel_rfl) (kg.2.1 w9 FR) (fun j u hj => by rw [add_none, (kg.2.1 w9 FR).cell]; exact hsrc j u hj) (by rw [hdl, Nat.min_eq_right (by omega)]; congr 1; omega) (by rw [hdl, hcs]; omega) hone fun w4 n4 hb4 s4 c4 => ?_
          rw [hcu1] at hb4
          clear kg
          have k4 := hb4.bk
          rw [List.length_map, hres] at hro
          (repeat' first
    | with_reducible refine slice_hi (by omega) ?_
    | with_reducible refine slice_lo (by omega) (by omega) (by omega) ?_
    | with_reducible refine alloc_k fun _ _ _ _ _ _ => ?_
    | ((with_reducible refine at_row ?_); refine row1_k (by rfl) (by decide) fun _ _ _ _ _ _ _ => ?_)
    | with_reducible refine row_k fun _ _ _ _ _ _ => ?_
    | with_reducible refine fork (fun _ => ?_) (fun _ => ?_)
    | with_reducible refine forkp (fun _ => ?_) (fun _ => ?_)
    | with_reducible refine forke (fun _ => ?_) (fun _ _ => ?_)
    | with_reducible refine tail_k fun _ _ _ => ?_
    | with_reducible refine ext_k fun _ _ _ => ?_
    | with_reducible refine need (by first | kernel_rfl | omega | assumption) ?_
    | with_reducible refine st_agg (by kernel_rfl) rfl (by simp only [natV, intV, S3, *]) fun _ _ _ _ => ?_
    | with_reducible refine wpd_quiet_lit (by kernel_rfl) (by kernel_rfl) (by kernel_rfl) ?_
    | simp (maxDischargeDepth := 3) only [↓X, ↓Y, ↓Q, S1, ↓reduceIte, Nat.reduceEqDiff, Nat.reduceAdd, Int.reduceLT, Int.reduceLE, Int.reduceNeg, Int.reduceBEq, Int.reduceBNe, Int.reduceEq, Nat.reduceLeDiff, Nat.reduceMul, Nat.reduceLT, natV, intV, putAt, idxOk, flatP, *]
    | simp (singlePass := true) (maxDischargeDepth := 99) only [*, S2, Nat.reduceLT])
          refine copyB_k (e := 41) (sz := 2) (by_ := 16) (cs := replC r) (sLen := 1) (dLen := l.length + 1 - i) (by kernel_rfl) hb4 (fun j u hj => by rw [add_none, Nat.zero_add, (kb.2.1 w4 FR).cell]; exact hj) (by rw [Nat.min_eq_left (by omega)]; rfl) (by rw [hro.2.1, hcs]; show i * 2 + 2 ≤ _; omega) (replC_one r) fun w5 n5 hb5 s5 c5 => ?_
          have he : Cg g w w5 := FR
          (repeat' first
    | with_reducible refine alloc_k fun _ _ _ _ _ _ => ?_
    | ((with_reducible refine at_row ?_); refine row1_k (by rfl) (by decide) fun _ _ _ _ _ _ _ => ?_)
    | with_reducible refine row_k fun _ _ _ _ _ _ => ?_
    | with_reducible refine fork (fun _ => ?_) (fun _ => ?_)
    | with_reducible refine forkp (fun _ => ?_) (fun _ => ?_)
    | with_reducible refine forke (fun _ => ?_) (fun _ _ => ?_)
    | with_reducible refine tail_k fun _ _ _ => ?_
    | with_reducible refine ext_k fun _ _ _ => ?_
    | with_reducible refine need (by first | kernel_rfl | omega | assumption) ?_
    | with_reducible refine st_agg (by kernel_rfl) rfl (by simp only [natV, intV, S3, *]) fun _ _ _ _ => ?_
    | with_reducible refine wpd_quiet_lit (by kernel_rfl) (by kernel_rfl) (by kernel_rfl) ?_
    | simp (maxDischargeDepth := 3) only [↓X, ↓Y, ↓Q, S1, ↓reduceIte, Nat.reduceEqDiff, Nat.reduceAdd, Int.reduceLT, Int.reduceLE, Int.reduceNeg, Int.reduceBEq, Int.reduceBNe, Int.reduceEq, Nat.reduceLeDiff, Nat.reduceMul, Nat.reduceLT, natV, intV, putAt, idxOk, flatP, *]
    | simp (singlePass := true) (maxDischargeDepth := 99) only [*, S2, Nat.reduceLT])
          exact ⟨grown_chg he, own_of_blk hb5 hlen2.symm hcap hcm (hro.2.2.trans hcs) hro.1 hall2 hBg (by rw [hlen2]; omega)⟩
  · (repeat' first
    | with_reducible refine alloc_k fun _ _ _ _ _ _ => ?_
    | ((with_reducible refine at_row ?_); refine row1_k (by rfl) (by decide) fun _ _ _ _ _ _ _ => ?_)
    | with_reducible refine row_k fun _ _ _ _ _ _ => ?_
    | with_reducible refine fork (fun _ => ?_) (fun _ => ?_)
    | with_reducible refine forkp (fun _ => ?_) (fun _ => ?_)
    | with_reducible refine forke (fun _ => ?_) (fun _ _ => ?_)
    | with_reducible refine tail_k fun _ _ _ => ?_
    | with_reducible refine ext_k fun _ _ _ => ?_
    | with_reducible refine need (by first | kernel_rfl | omega | assumption) ?_
    | with_reducible refine st_agg (by kernel_rfl) rfl (by simp only [natV, intV, S3, *]) fun _ _ _ _ => ?_
    | with_reducible refine wpd_quiet_lit (by kernel_rfl) (by kernel_rfl) (by kernel_rfl) ?_
    | simp (maxDischargeDepth := 3) only [↓X, ↓Y, ↓Q, S1, ↓reduceIte, Nat.reduceEqDiff, Nat.reduceAdd, Int.reduceLT, Int.reduceLE, Int.reduceNeg, Int.reduceBEq, Int.reduceBNe, Int.reduceEq, Nat.reduceLeDiff, Nat.reduceMul, Nat.reduceLT, natV, intV, putAt, idxOk, flatP, *]
    | simp (singlePass := true) (maxDischargeDepth := 99) only [*, S2, Nat.reduceLT])
    simp only [sliceX, Int.toNat_natCast]
    refine need ⟨o.2.2.2.2.2.1, by omega, by omega, by omega⟩ ?_
    (repeat' first
    | with_reducible refine alloc_k fun _ _ _ _ _ _ => ?_
    | ((with_reducible refine at_row ?_); refine row1_k (by rfl) (by decide) fun _ _ _ _ _ _ _ => ?_)
    | with_reducible refine row_k fun _ _ _ _ _ _ => ?_
    | with_reducible refine fork (fun _ => ?_) (fun _ => ?_)
    | with_reducible refine forkp (fun _ => ?_) (fun _ => ?_)
    | with_reducible refine forke (fun _ => ?_) (fun _ _ => ?_)
    | with_reducible refine tail_k fun _ _ _ => ?_
    | with_reducible refine ext_k fun _ _ _ => ?_
    | with_reducible refine need (by first | kernel_rfl | omega | assumption) ?_
    | with_reducible refine st_agg (by kernel_rfl) rfl (by simp only [natV, intV, S3, *]) fun _ _ _ _ => ?_
    | with_reducible refine wpd_quiet_lit (by kernel_rfl) (by kernel_rfl) (by kernel_rfl) ?_
    | simp (maxDischargeDepth := 3) only [↓X, ↓Y, ↓Q, S1, ↓reduceIte, Nat.reduceEqDiff, Nat.reduceAdd, Int.reduceLT, Int.reduceLE, Int.reduceNeg, Int.reduceBEq, Int.reduceBNe, Int.reduceEq, Nat.reduceLeDiff, Nat.reduceMul, Nat.reduceLT, natV, intV, putAt, idxOk, flatP, *, hl.1]
    | simp (singlePass := true) (maxDischargeDepth := 99) only [*, S2, Nat.reduceLT, hl.1])
    rw [hown.block]
    refine append_row (e := 41) (sz := 2) (by_ := 16) (z := .agg #[.int .i64 0, .int .i64 0]) (ns := [replC r]) (by kernel_rfl) (by kernel_rfl) rfl (by decide) hown (by simpa using hb) (by simp [replC]) (by simpa using replC_one r) rfl (by simp only [List.length_map, List.length_cons, List.length_nil]; omega) hB fun v' w' hown' hg _ _ => ?_
    have n' : Now w' := trivial
    (repeat' first
    | with_reducible refine alloc_k fun _ _ _ _ _ _ => ?_
    | ((with_reducible refine at_row ?_); refine row1_k (by rfl) (by decide) fun _ _ _ _ _ _ _ => ?_)
    | with_reducible refine row_k fun _ _ _ _ _ _ => ?_
    | with_reducible refine fork (fun _ => ?_) (fun _ => ?_)
    | with_reducible refine forkp (fun _ => ?_) (fun _ => ?_)
    | with_reducible refine forke (fun _ => ?_) (fun _ _ => ?_)
    | with_reducible refine tail_k fun _ _ _ => ?_
    | with_reducible refine ext_k fun _ _ _ => ?_
    | with_reducible refine need (by first | kernel_rfl | omega | assumption) ?_
    | with_reducible refine st_agg (by kernel_rfl) rfl (by simp only [natV, intV, S3, *]) fun _ _ _ _ => ?_
    | with_reducible refine wpd_quiet_lit (by kernel_rfl) (by kernel_rfl) (by kernel_rfl) ?_
    | simp (maxDischargeDepth := 3) only [↓X, ↓Y, ↓Q, S1, ↓reduceIte, Nat.reduceEqDiff, Nat.reduceAdd, Int.reduceLT, Int.reduceLE, Int.reduceNeg, Int.reduceBEq, Int.reduceBNe, Int.reduceEq, Nat.reduceLeDiff, Nat.reduceMul, Nat.reduceLT, natV, intV, putAt, idxOk, flatP, *]
    | simp (singlePass := true) (maxDischargeDepth := 99) only [*, S2, Nat.reduceLT])
    rw [List.take_of_length_le (Nat.le_refl _), List.drop_of_length_le (Nat.le_refl _)]
    simpa [OwnP] using hown'
end
end Go.Proofs.Ytbfmabkdggllhaa
