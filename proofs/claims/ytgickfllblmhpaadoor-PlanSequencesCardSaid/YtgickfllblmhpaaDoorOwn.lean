/- Slices that a call makes for itself and that grow; sets as bits. -/
import Derived.Test.YtgickfllblmhpaaDoorDraw
import Derived.Test.YtgickfllblmhpaaDoorTy
namespace Go.Proofs.YtgickfllblmhpaaDoor
set_option linter.unusedSimpArgs false
set_option linter.unusedVariables false
open Go Go.RowKit
set_option maxRecDepth 100000
/-- A row of the call's own (at B or above), element by element. -/
structure Own (w : World) (B : Nat) (e sz : Nat) (v : Value) (cs : List (List Value)) : Prop where
  row : w.ownsRow B e sz v cs.length cs.flatten
  each : ∀ c ∈ cs, c.length = sz
  small : cs.length ≤ 140737488355328
section
variable {P : Program} {w w' : World} {B e sz : Nat} {v : Value} {cs : List (List Value)}
theorem Own.nil (w : World) (B e sz : Nat) : Own w B e sz (.slice none 0 0) [] := ⟨World.ownsRow_nil _ _ _ _, by simp, by simp⟩
theorem Own.lt (h : Own w B e sz v cs) : ∀ k, v.ownBlock = some k → B ≤ k ∧ k < w.heap.size := World.ownsRow.lt h.1
theorem Own.keep (h : Own w B e sz v cs) (hk : ∀ b, v.ownBlock = some b → w'.heap[b]? = w.heap[b]?) : Own w' B e sz v cs := by
  refine ⟨⟨h.1.1, ?_⟩, h.each, h.small⟩
  rcases h.1.2 with hn | ⟨g, cap, cur, rfl, hb, hg, rest⟩
  · exact .inl hn
  · exact .inr ⟨g, cap, cur, rfl, hb, by rw [hk g rfl]; exact hg, rest⟩
theorem Own.ext (h : Own w B e sz v cs) (hx : Ext w w') : Own w' B e sz v cs := h.keep fun b hb => hx.block b (h.lt b hb).2
theorem Own.more {B' : Nat} (h : Own w B e sz v cs) (hB : B' ≤ B) : Own w B' e sz v cs := by
  refine ⟨⟨h.1.1, ?_⟩, h.each, h.small⟩
  rcases h.1.2 with hn | ⟨g, cap, cur, rfl, hb, hg, rest⟩
  · exact .inl hn
  · exact .inr ⟨g, cap, cur, rfl, by omega, hg, rest⟩
theorem Own.ne {b t : Nat} {l : List Value} (h : Own w B e sz v cs) (hb : Blk w b t l) (ht : t ≠ e) : v.ownBlock ≠ some b := by
  intro he
  rcases h.1.2 with ⟨rfl, _⟩ | ⟨g, cap, cur, rfl, _, hg, rest⟩
  · simp [Value.ownBlock] at he
  · simp [Value.ownBlock] at he
    subst he
    unfold Blk at hb
    rw [hb] at hg
    injection hg with hg
    injection hg with _ h2
    exact ht h2
theorem Own.chg {b : Nat} (h : Own w B e sz v cs) (hc : Chg w w' b) (hne : v.ownBlock ≠ some b) : Own w' B e sz v cs :=
  h.keep fun k hk => hc.block k (h.lt k hk).2 (by rintro rfl; exact hne hk)
theorem grown_below {row : Option Nat} (h : w.grownBy w' row) (hr : ∀ k, row = some k → B ≤ k) (hB : B ≤ w.heap.size) : Below B w w' :=
  ⟨h.os, h.tape, h.output, h.size, fun k hk => h.block k (by omega) (by intro he; have := hr k he.symm; omega)⟩
theorem grown_blk {row : Option Nat} {b t : Nat} {l : List Value} (h : w.grownBy w' row) (hb : Blk w b t l) (hne : row ≠ some b) : Blk w' b t l :=
  (h.block b hb.lt (Ne.symm hne)).trans hb
theorem Own.one (h : Own w B e sz v cs) : v.oneCell' = true := by
  rcases h.1.2 with ⟨rfl, _⟩ | ⟨g, cap, cur, rfl, _⟩ <;> rfl
theorem Own.block (h : Own w B e sz v cs) : blockOf v = v.ownBlock := by
  rcases h.1.2 with ⟨rfl, _⟩ | ⟨g, cap, cur, rfl, _⟩ <;> rfl
/-- append of one element, by a row that holds it. -/
theorem append_row {t ty by_ b bt m c : Nat} {z s : Value} {ns : List (List Value)} {k : Value → World → Prop} (hsl : slOf P t = some (e, sz, by_)) (hz : zeroElt P t = some z) (hzs : (cellsL z).length = sz) (hsz : 0 < sz)
    (hown : Own w B e sz s cs) (hb : Blk w b bt ns.flatten) (hns : ∀ c ∈ ns, c.length = sz) (h1 : ∀ c ∈ ns, ∀ v ∈ c, v.oneCell' = true) (hm : m = ns.length)
    (hbound : (cs.length + ns.length) * (by_ + 1) ≤ 140737488355328) (hB : B ≤ w.heap.size)
    (h : ∀ v' w', Own w' B e sz v' (cs ++ ns) → w.grownBy w' s.ownBlock → Below B w w' → (v'.ownBlock = s.ownBlock ∨ v'.ownBlock = some w.heap.size) → k v' w') : appX P t t ty s (.slice (some ⟨b, 0, none⟩) m c) w k := by
  obtain ⟨i, hu, hi, hs, hby⟩ := slOf_parts hsl
  have hz' : i.zero = some z := by
    unfold zeroElt at hz
    rw [hsl] at hz
    simpa [zeroOf, hi] using hz
  subst hm
  have hcells : z.cells.size = sz := by rw [← hzs, ← cellsL_eq]; simp
  have hfl : ns.flatten.length = ns.length * sz := by
    clear h hb hbound h1
    induction ns with
    | nil => simp
    | cons a r ih => simp only [List.flatten_cons, List.length_append, List.length_cons, ih (fun c hc => hns c (List.mem_cons_of_mem _ hc)), hns a (List.mem_cons_self ..)]; rw [Nat.succ_mul]; omega
  have hle : (cs.length + ns.length) * by_ ≤ 140737488355328 := Nat.le_trans (Nat.mul_le_mul_left _ (Nat.le_succ _)) hbound
  have hle1 : cs.length + ns.length ≤ 140737488355328 := Nat.le_trans (Nat.le_mul_of_pos_right _ (Nat.succ_pos _)) hbound
  obtain ⟨v', w', hr, h2, h3, _, h5⟩ := run_append_own_at (P := P) w B t ty e i z sz by_ hu hi hz' hs hby hcells hsz s cs.length cs.flatten hown.1 ⟨b, 0, none⟩ ns.length c ns.flatten hfl
    (fun j u hj => by rw [add_none, hb.cell, Nat.zero_add]; exact hj) (fun u hu => by obtain ⟨c, hc, huc⟩ := List.mem_flatten.1 hu; exact h1 c hc u huc) (by simp only [maxLen]; omega) hle hB
  refine runsV_ok hr (h v' w' ⟨by simpa using h2, fun c hc => ?_, by simpa using hle1⟩ h3 (grown_below h3 (fun k hk => (hown.lt k hk).1) hB) h5)
  rcases List.mem_append.1 hc with hc | hc
  · exact hown.each c hc
  · exact hns c hc
theorem flatten_get {k : Nat} : ∀ (l : List (List Value)) (i : Nat) (h : i < l.length), (∀ c ∈ l, c.length = k) → ∀ j, j < k → l.flatten[i * k + j]? = (l[i])[j]? := by
  intro l
  induction l with
  | nil => intro i h; exact absurd h (by simp)
  | cons c l ih =>
    intro i h hc j hj
    have h1 := hc c (List.mem_cons_self ..)
    cases i with
    | zero => simp only [List.flatten_cons, Nat.zero_mul, Nat.zero_add, List.getElem_cons_zero]; rw [List.getElem?_append_left (by omega)]
    | succ i =>
      simp only [List.flatten_cons, List.getElem_cons_succ]
      rw [List.getElem?_append_right (by rw [h1, Nat.succ_mul]; omega), h1, show (i + 1) * k + j - k = i * k + j by rw [Nat.succ_mul]; omega]
      exact ih i (by simpa using h) (fun c hc' => hc c (List.mem_cons_of_mem _ hc')) j hj
theorem Own.cell (h : Own w B e sz v cs) {i j : Nat} (hi : i < cs.length) (hj : j < sz) : ∃ g n c, v = .slice (some ⟨g, 0, none⟩) n c ∧ w.cell? ⟨g, i * sz + j, none⟩ = (cs[i])[j]? := by
  rcases h.1.2 with ⟨rfl, hn⟩ | ⟨g, cap, cur, rfl, hb, hg, hc1, hc2, hsz, htk⟩
  · omega
  · refine ⟨g, _, _, rfl, ?_⟩
    have hf := flatten_get cs i hi h.each j hj
    have hlt : i * sz + j < cs.length * sz := by
      have := Nat.mul_le_mul_right sz (Nat.succ_le_of_lt hi)
      rw [Nat.succ_mul] at this
      omega
    rw [← hf, ← htk, List.getElem?_take_of_lt hlt]
    simp [World.cell?, hg]
theorem Own.sl1 {α : Type} {l : List α} {f : α → Value} (h : Own w B e 1 v (l.map fun x => [f x])) : Sl w w.heap.size none 1 v (l.map f) := by
  have hc := fun i hi => h.cell (i := i) (j := 0) hi (by omega)
  have hl := h.small
  simp only [List.length_map] at hc hl
  rcases h.1.2 with ⟨rfl, hn⟩ | ⟨g, cap, cur, rfl, hb, hg, hc1, hc2, hsz, htk⟩
  · simp only [List.length_map] at hn
    have := List.eq_nil_of_length_eq_zero hn
    subst this
    exact Sl.nil _ _ _ _
  · simp only [List.length_map] at hc1
    refine ⟨trivial, by simp [lenN], by simp only [lenN, capN, List.length_map]; exact hc1, hc2, fun b' h _ => by simp only [blockOf, Option.some.injEq] at h; subst h; exact (Array.getElem?_eq_some_iff.1 hg).1, fun i hi => ?_⟩
    simp only [List.length_map] at hi
    obtain ⟨g', n', c', he, hcell⟩ := hc i hi
    injection he with he1 _ _
    injection he1 with he1
    injection he1 with he1
    subst he1
    simp only [elemAt, rdv, rd, add_none, Nat.zero_add, Nat.mul_one, Nat.add_zero] at hcell ⊢
    rw [hcell]
    simp
theorem Own.slN {α : Type} {l : List α} {f : α → List Value} (h : Own w B e sz v (l.map f)) : Sl w w.heap.size (some sz) sz v (l.map fun x => .agg (f x).toArray) := by
  have hc := fun i j hi hj => h.cell (i := i) (j := j) hi hj
  have hl := h.small
  simp only [List.length_map] at hc hl
  rcases h.1.2 with ⟨rfl, hn⟩ | ⟨g, cap, cur, rfl, hb, hg, hc1, hc2, hsz, htk⟩
  · simp only [List.length_map] at hn
    have := List.eq_nil_of_length_eq_zero hn
    subst this
    exact Sl.nil _ _ _ _
  · simp only [List.length_map] at hc1
    refine ⟨trivial, by simp [lenN], by simp only [lenN, capN, List.length_map]; exact hc1, hc2, fun b' h _ => by simp only [blockOf, Option.some.injEq] at h; subst h; exact (Array.getElem?_eq_some_iff.1 hg).1, fun i hi => ?_⟩
    simp only [List.length_map] at hi
    have hlen : (f l[i]).length = sz := h.each _ (List.mem_map.2 ⟨_, List.getElem_mem hi, rfl⟩)
    have hr : ∀ m o, m + o = sz → rdB w g (i * sz + o) m = some ((f l[i]).drop o) := by
      intro m
      induction m with
      | zero => intro o ho; rw [List.drop_eq_nil_of_le (by omega)]; rfl
      | succ m ih =>
        intro o ho
        rw [List.drop_eq_getElem_cons (by omega : o < (f l[i]).length)]
        obtain ⟨g', n', c', he, hcell⟩ := hc i o hi (by omega)
        injection he with he1 _ _
        injection he1 with he1
        injection he1 with he1
        subst he1
        simp only [List.getElem_map] at hcell
        simp only [rdB, hcell]
        rw [List.getElem?_eq_getElem (by omega)]
        have := ih (o + 1) (by omega)
        rw [show i * sz + (o + 1) = i * sz + o + 1 by omega] at this
        rw [this]
        rfl
    have := hr sz 0 (by omega)
    simp only [elemAt, rdv, add_none, Nat.zero_add, rd, rdN_rdB, List.getElem_map]
    simp only [Nat.add_zero] at this ⊢
    rw [this]
    rfl
end

theorem append_int {α : Type} {w : World} {B b cp : Nat} {s : Value} {c : α → List Value} {l : List α} {x : α} {k : Value → World → Prop} (hown : Own w B 3 1 s (l.map c)) (hb : Blk w b 3 (c x)) (hl : (c x).length = 1) (h1 : ∀ v ∈ c x, v.oneCell' = true)
    (hbound : l.length < 1000000000000) (hB : B ≤ w.heap.size)
    (h : ∀ v' w', Own w' B 3 1 v' ((l ++ [x]).map c) → w.grownBy w' s.ownBlock → Below B w w' → (v'.ownBlock = s.ownBlock ∨ v'.ownBlock = some w.heap.size) → k v' w') :
    appX Tryd.prog 39 39 39 s (.slice (some ⟨b, 0, none⟩) 1 cp) w k := by
  refine append_row (e := 3) (sz := 1) (by_ := 8) (z := .int .i64 0) (ns := [c x]) (by kernel_rfl) (by kernel_rfl) rfl (by decide) hown (by simpa using hb) (by simpa using hl) (by simpa using h1) rfl (by simp; omega) hB fun v' w' ho hg hbl hd => ?_
  exact h v' w' (by simpa using ho) hg hbl hd

/-- A row that has just been made reads as what was put in. -/
theorem row_sl {w : World} {b t n : Nat} {l : List Value} (hb : Blk w b t l) (hn : n = l.length) (hmax : l.length ≤ 9223372036854775807) : Sl w w.heap.size none 1 (.slice (some ⟨b, 0, none⟩) n n) l :=
  ⟨trivial, hn, Nat.le_refl _, by simp only [capN]; omega, fun b' h _ => by simp only [blockOf, Option.some.injEq] at h; subst h; exact hb.lt, fun i hi => by
    simp only [elemAt, rdv, rd, Nat.mul_one, add_none, Nat.zero_add, hb.cell]
    exact List.getElem?_eq_getElem hi⟩
theorem Own.sl {α : Type} {w : World} {B B' e : Nat} {v : Value} {l : List α} {f : α → Value} (h : Own w B e 1 v (l.map fun x => [f x])) (hb : ∀ b, v.ownBlock = some b → b < B') : Sl w B' none 1 v (l.map f) :=
  h.sl1.less fun b hb' => hb b (by rw [← h.block]; exact hb')
theorem cellsL_one {v : Value} (h : v.oneCell' = true) : cellsL v = [v] := by cases v <;> first | rfl | (simp [Value.oneCell'] at h)
theorem zrow_one (v : Value) : ∀ n, zrow [v] n = List.replicate n v
  | 0 => rfl
  | n + 1 => by rw [zrow, zrow_one v n, List.replicate_succ]; rfl
theorem mksl_int {w : World} {n : Nat} {f : Value → World → Prop} (hn : n ≤ 1000000) (h : ∀ b w', Blk w' b 3 (List.replicate n (.int .i64 0)) → Ext w w' → w.heap.size ≤ b → f (.slice (some ⟨b, 0, none⟩) n n) w') :
    mkslX (some (3, 1, 8)) (some (.int .i64 0)) (.int .i64 n) (.int .i64 n) w f := by
  refine need ⟨by omega, by omega, by omega, by omega, rfl, by decide⟩ ?_
  simp only [Int.toNat_natCast]
  have e : zrow (cellsL (.int .i64 0)) n = List.replicate n (.int .i64 0) := zrow_one _ _
  rw [e]
  exact h _ _ (Blk.new w _ _) (Ext.alloc w _) (Nat.le_refl _)

/- sets as bits -/
theorem bvOf (a : Nat) (n : Nat) : BitVec.ofInt n (a : Int) = BitVec.ofNat n a := by
  simp
theorem wrap_nat {n : Nat} (h : n < 9223372036854775808) : IntKind.i64.wrap (n : Int) = n := by rw [wrap_i64_id] <;> omega
theorem or_lt62 {a b : Nat} {k : Nat} (ha : a < 2 ^ k) (hb : b < 2 ^ k) : a ||| b < 2 ^ k := Nat.or_lt_two_pow ha hb
theorem orI_nat {a b : Nat} (ha : a < 4611686018427387904) (hb : b < 4611686018427387904) : orI .i64 (a : Int) (b : Int) = ((a ||| b : Nat) : Int) := by
  have h1 : a ||| b < 2 ^ 62 := Nat.or_lt_two_pow (by simpa using ha) (by simpa using hb)
  show IntKind.i64.wrap (((BitVec.ofInt 64 (a : Int) ||| BitVec.ofInt 64 (b : Int)).toNat : Nat) : Int) = _
  rw [bvOf, bvOf, BitVec.toNat_or, BitVec.toNat_ofNat, BitVec.toNat_ofNat]
  rw [Nat.mod_eq_of_lt (by omega), Nat.mod_eq_of_lt (by omega), wrap_nat (by omega)]
theorem andI_nat {a b : Nat} (ha : a < 4611686018427387904) (hb : b < 4611686018427387904) : andI .i64 (a : Int) (b : Int) = ((a &&& b : Nat) : Int) := by
  have h1 : a &&& b ≤ a := Nat.and_le_left
  show IntKind.i64.wrap (((BitVec.ofInt 64 (a : Int) &&& BitVec.ofInt 64 (b : Int)).toNat : Nat) : Int) = _
  rw [bvOf, bvOf, BitVec.toNat_and, BitVec.toNat_ofNat, BitVec.toNat_ofNat]
  rw [Nat.mod_eq_of_lt (by omega), Nat.mod_eq_of_lt (by omega), wrap_nat (by omega)]
/-- a without b -/
def sub (a b : Nat) : Nat := a ^^^ (a &&& b)
theorem testBit_sub (a b i : Nat) : (sub a b).testBit i = (a.testBit i && !b.testBit i) := by
  simp only [sub, Nat.testBit_xor, Nat.testBit_and]
  cases a.testBit i <;> cases b.testBit i <;> rfl
theorem sub_lt {a b k : Nat} (ha : a < 2 ^ k) : sub a b < 2 ^ k := Nat.xor_lt_two_pow ha (Nat.lt_of_le_of_lt Nat.and_le_left ha)
theorem andNotI_nat {a b : Nat} (ha : a < 4611686018427387904) (hb : b < 4611686018427387904) : andNotI .i64 (a : Int) (b : Int) = ((sub a b : Nat) : Int) := by
  have h1 : sub a b < 2 ^ 62 := sub_lt (by simpa using ha)
  have e : (BitVec.ofNat 64 a &&& ~~~BitVec.ofNat 64 b).toNat = sub a b := by
    apply Nat.eq_of_testBit_eq
    intro i
    rw [testBit_sub]
    have hx : (BitVec.ofNat 64 a &&& ~~~BitVec.ofNat 64 b).toNat.testBit i = (BitVec.ofNat 64 a &&& ~~~BitVec.ofNat 64 b).getLsbD i := rfl
    rw [hx]
    simp only [BitVec.getLsbD_and, BitVec.getLsbD_not, BitVec.getLsbD_ofNat]
    by_cases hi : i < 64
    · simp [hi]
    · have : a.testBit i = false := Nat.testBit_lt_two_pow (Nat.lt_of_lt_of_le ha (Nat.le_trans (by decide : 4611686018427387904 ≤ 2 ^ 64) (Nat.pow_le_pow_right (by decide) (by omega))))
      simp [hi, this]
  show IntKind.i64.wrap (((BitVec.ofInt 64 (a : Int) &&& ~~~BitVec.ofInt 64 (b : Int)).toNat : Nat) : Int) = _
  rw [bvOf, bvOf, e, wrap_nat (by omega)]
theorem shlI_nat {k : Nat} (hk : k < 62) : shlI .i64 1 (k : Int) = ((2 ^ k : Nat) : Int) := by
  have h1 : 2 ^ k < 2 ^ 62 := Nat.pow_lt_pow_right (by decide) hk
  simp only [shlI, IntKind.bits, Int.toNat_natCast, Int.one_mul]
  rw [Nat.min_eq_left (by omega), show ((2 : Int) ^ k) = ((2 ^ k : Nat) : Int) by simp, wrap_nat (by omega)]
theorem shrI_nat {a k : Nat} (hk : k < 62) : shrI .i64 (a : Int) (k : Int) = ((a / 2 ^ k : Nat) : Int) := by
  simp only [shrI, IntKind.bits, Int.toNat_natCast]
  rw [Nat.min_eq_left (by omega), show ((2 : Int) ^ k) = ((2 ^ k : Nat) : Int) by simp, Int.fdiv_eq_ediv_of_nonneg _ (Int.natCast_nonneg _)]
  rfl
theorem bit_nat {a k : Nat} (ha : a < 4611686018427387904) (hk : k < 62) : andI .i64 (shrI .i64 (a : Int) (k : Int)) 1 = if a.testBit k then 1 else 0 := by
  rw [shrI_nat hk, show (1 : Int) = ((1 : Nat) : Int) from rfl, andI_nat (Nat.lt_of_le_of_lt (Nat.div_le_self _ _) ha) (by decide), Nat.and_one_is_mod]
  rw [Nat.testBit_eq_decide_div_mod_eq]
  rcases Nat.mod_two_eq_zero_or_one (a / 2 ^ k) with h | h <;> simp [h]
theorem bit_eq0 {a k : Nat} (ha : a < 4611686018427387904) (hk : k < 62) : (andI .i64 (shrI .i64 (a : Int) (k : Int)) 1 == 0) = !a.testBit k := by
  rw [bit_nat ha hk]
  cases a.testBit k <;> rfl
theorem bit_eq1 {a k : Nat} (ha : a < 4611686018427387904) (hk : k < 62) : (andI .i64 (shrI .i64 (a : Int) (k : Int)) 1 == 1) = a.testBit k := by
  rw [bit_nat ha hk]
  cases a.testBit k <;> rfl
end Go.Proofs.YtgickfllblmhpaaDoor
