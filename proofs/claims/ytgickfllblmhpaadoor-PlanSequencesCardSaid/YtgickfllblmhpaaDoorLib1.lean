/- Library functions over slices: IndexFunc, ContainsFunc. -/
import Derived.Test.YtgickfllblmhpaaDoorTy
import Derived.Test.YtgickfllblmhpaaDoorDraw
namespace Go.Proofs.YtgickfllblmhpaaDoor
set_option linter.unusedSimpArgs false
set_option linter.unusedVariables false
open Go
set_option maxRecDepth 100000
def fidx {α : Type} (p : α → Bool) (xs : List α) : Int := match xs.findIdx? p with
  | some i => i
  | none => -1
theorem wrap_succ {k n : Nat} (h : k < n) (hn : n ≤ 9223372036854775807) : IntKind.i64.wrap ((k : Int) + 1) = ((k + 1 : Nat) : Int) := by
  rw [wrap_i64_id] <;> omega
section
variable {α : Type} {p : α → Bool} {xs : List α}
theorem fidx_found {k : Nat} (h : k < xs.length) (hp : p xs[k] = true) (hn : ∀ j (h : j < xs.length), j < k → p xs[j] = false) : fidx p xs = k := by
  have : xs.findIdx? p = some k := by
    rw [List.findIdx?_eq_some_iff_getElem]
    exact ⟨h, hp, fun j hj => by simpa using hn j (by omega) hj⟩
  simp [fidx, this]
theorem fidx_none (hn : ∀ j (h : j < xs.length), p xs[j] = false) : fidx p xs = -1 := by
  have : xs.findIdx? p = none := by
    rw [List.findIdx?_eq_none_iff]
    intro x hx
    obtain ⟨j, hj, rfl⟩ := List.getElem_of_mem hx
    exact hn j hj
  simp [fidx, this]
theorem fidx_any : decide (0 ≤ fidx p xs) = xs.any p := by
  unfold fidx
  cases h : xs.findIdx? p with
  | none =>
    rw [List.findIdx?_eq_none_iff] at h
    simp only
    rw [show xs.any p = false by rw [List.any_eq_false]; intro x hx; simp [h x hx]]
    rfl
  | some i =>
    rw [List.findIdx?_eq_some_iff_getElem] at h
    obtain ⟨hi, hp, _⟩ := h
    simp only
    rw [show xs.any p = true by rw [List.any_eq_true]; exact ⟨_, List.getElem_mem hi, hp⟩]
    simp
end
theorem any_not_all {α : Type} (l : List α) (p : α → Bool) : (l.any fun x => !p x) = !l.all p := by
  induction l with
  | nil => rfl
  | cons a l ih => simp [ih, Bool.not_and]
theorem Sl.at_ {α : Type} {w : World} {B sz : Nat} {k : Option Nat} {v : Value} {l : List α} {enc : α → Value} (h : Sl w B k sz v (l.map enc)) (i : Nat) (hi : i < l.length) : rdv k w (elemAt v sz i) = some (enc l[i]) := by
  have := h.rd i (by simpa using hi)
  simpa using this
theorem Sl.len_ {α : Type} {w : World} {B sz : Nat} {k : Option Nat} {v : Value} {l : List α} {enc : α → Value} (h : Sl w B k sz v (l.map enc)) : SlWf v ∧ isSl v ∧ lenN v = l.length := ⟨h.wf, h.sl, by simpa using h.len⟩
theorem Sl.max_ {α : Type} {w : World} {B sz : Nat} {k : Option Nat} {v : Value} {l : List α} {enc : α → Value} (h : Sl w B k sz v (l.map enc)) : l.length ≤ 9223372036854775807 := by simpa using h.maxLen
theorem indexFunc_int {α : Type} {w : World} {B : Nat} {v : Value} {l : List α} {enc : α → Value} {cl : Nat} {caps : List Value} {q : α → Bool} (hB : B ≤ w.heap.size) (hs : Sl w B none 1 v (l.map enc)) (hc : callable Tryd.prog cl = true)
    (hf : ∀ x ∈ l, ∀ w', Ext w w' → Ret Tryd.prog cl (enc x :: caps).toArray w' (.bool (q x))) : Ret Tryd.prog 21 #[v, .func (.func cl) #[] caps.toArray] w (.int .i64 (fidx q l)) := by
  refine callsV_of Tryd.func21 rfl (by kernel_rfl) (by kernel_rfl) ?_
  rw [Tryd.results21]
  simp only [↓X, ↓Y, V, U, Z, ↓Q, Tsl, Tarr, Ttk, Tfl, Tint, Tbool, Tbld, Tze, Tzel, Tcall, ↓reduceIte, Nat.reduceEqDiff, Nat.reduceAdd, Nat.add_zero, Nat.zero_add, Int.toNat_natCast, Int.natCast_nonneg, true_and, and_true, and_self, List.nil_append, List.cons_append, U2, List.getElem?_cons_zero, List.getElem?_cons_succ, List.append_nil, List.length_map, Bool.not_true, Bool.not_false, decide_true, decide_false, eq_self, ne_eq, not_false_eq_true, Int.reduceLT, Int.reduceLE, Int.reduceNeg, nat_lt0, now w, hs.len_]
  refine loopX_intro (fun m g w' => ∃ k : Nat, k + m = l.length ∧ g 8 = .int .i64 k ∧ g 7 = .int .i64 l.length ∧ g 0 = v ∧ g 1 = .func (.func cl) #[] caps.toArray ∧ (∀ j (h : j < l.length), j < k → q l[j] = false) ∧ Ext w w') l.length (by kernel_rfl) ?_ ?_
  · refine ⟨0, by omega, ?_⟩
    simp only [↓X, ↓Y, V, U, Z, ↓Q, Tsl, Tarr, Ttk, Tfl, Tint, Tbool, Tbld, Tze, Tzel, Tcall, ↓reduceIte, Nat.reduceEqDiff, Nat.reduceAdd, Nat.add_zero, Nat.zero_add, Int.toNat_natCast, Int.natCast_nonneg, true_and, and_true, and_self, List.nil_append, List.cons_append, U2, List.getElem?_cons_zero, List.getElem?_cons_succ, List.append_nil, List.length_map, Bool.not_true, Bool.not_false, decide_true, decide_false, eq_self, ne_eq, not_false_eq_true, Int.reduceLT, Int.reduceLE, Int.reduceNeg, nat_lt0]
    exact ⟨rfl, fun j _ h => absurd h (by omega), Ext.refl w⟩
  · rintro m g w1 ⟨k, hk, h8, h7, h0, h1, hp, hx⟩
    by_cases hm : k < l.length
    · simp only [↓X, ↓Y, V, U, Z, ↓Q, Tsl, Tarr, Ttk, Tfl, Tint, Tbool, Tbld, Tze, Tzel, Tcall, ↓reduceIte, Nat.reduceEqDiff, Nat.reduceAdd, Nat.add_zero, Nat.zero_add, Int.toNat_natCast, Int.natCast_nonneg, true_and, and_true, and_self, List.nil_append, List.cons_append, U2, List.getElem?_cons_zero, List.getElem?_cons_succ, List.append_nil, List.length_map, Bool.not_true, Bool.not_false, decide_true, decide_false, eq_self, ne_eq, not_false_eq_true, Int.reduceLT, Int.reduceLE, Int.reduceNeg, nat_lt0, now w1, h8, h7, h0, h1, Int.ofNat_lt, hm, hs.len_, (hs.ext hx hB).at_ k hm, hc]
      refine ret_bind (hf _ (List.getElem_mem hm) w1 hx) fun w2 hx2 => ?_
      cases hpk : q l[k] with
      | true =>
        simp only [↓X, ↓Y, V, U, Z, ↓Q, Tsl, Tarr, Ttk, Tfl, Tint, Tbool, Tbld, Tze, Tzel, Tcall, ↓reduceIte, Nat.reduceEqDiff, Nat.reduceAdd, Nat.add_zero, Nat.zero_add, Int.toNat_natCast, Int.natCast_nonneg, true_and, and_true, and_self, List.nil_append, List.cons_append, U2, List.getElem?_cons_zero, List.getElem?_cons_succ, List.append_nil, List.length_map, Bool.not_true, Bool.not_false, decide_true, decide_false, eq_self, ne_eq, not_false_eq_true, Int.reduceLT, Int.reduceLE, Int.reduceNeg, nat_lt0, now w2]
        exact ⟨by rw [fidx_found hm hpk hp], hx.trans hx2⟩
      | false =>
        simp only [↓X, ↓Y, V, U, Z, ↓Q, Tsl, Tarr, Ttk, Tfl, Tint, Tbool, Tbld, Tze, Tzel, Tcall, ↓reduceIte, Nat.reduceEqDiff, Nat.reduceAdd, Nat.add_zero, Nat.zero_add, Int.toNat_natCast, Int.natCast_nonneg, true_and, and_true, and_self, List.nil_append, List.cons_append, U2, List.getElem?_cons_zero, List.getElem?_cons_succ, List.append_nil, List.length_map, Bool.not_true, Bool.not_false, decide_true, decide_false, eq_self, ne_eq, not_false_eq_true, Int.reduceLT, Int.reduceLE, Int.reduceNeg, nat_lt0, now w2, h8, h7, h0, h1]
        refine ⟨m - 1, by omega, k + 1, by omega, by rw [wrap_succ hm hs.max_], fun j hj hjk => ?_, hx.trans hx2⟩
        rcases Nat.lt_or_eq_of_le (Nat.le_of_lt_succ hjk) with h | rfl
        · exact hp j hj h
        · exact hpk
    · simp only [↓X, ↓Y, V, U, Z, ↓Q, Tsl, Tarr, Ttk, Tfl, Tint, Tbool, Tbld, Tze, Tzel, Tcall, ↓reduceIte, Nat.reduceEqDiff, Nat.reduceAdd, Nat.add_zero, Nat.zero_add, Int.toNat_natCast, Int.natCast_nonneg, true_and, and_true, and_self, List.nil_append, List.cons_append, U2, List.getElem?_cons_zero, List.getElem?_cons_succ, List.append_nil, List.length_map, Bool.not_true, Bool.not_false, decide_true, decide_false, eq_self, ne_eq, not_false_eq_true, Int.reduceLT, Int.reduceLE, Int.reduceNeg, nat_lt0, now w1, h8, h7, Int.ofNat_lt, hm]
      exact ⟨by rw [fidx_none (fun j hj => hp j hj (by omega))], hx⟩
theorem indexFunc_Step {α : Type} {w : World} {B : Nat} {v : Value} {l : List α} {enc : α → Value} {cl : Nat} {caps : List Value} {q : α → Bool} (hB : B ≤ w.heap.size) (hs : Sl w B (some 4) 4 v (l.map enc)) (hc : callable Tryd.prog cl = true)
    (hf : ∀ x ∈ l, ∀ w', Ext w w' → Ret Tryd.prog cl (enc x :: caps).toArray w' (.bool (q x))) : Ret Tryd.prog 55 #[v, .func (.func cl) #[] caps.toArray] w (.int .i64 (fidx q l)) := by
  refine callsV_of Tryd.func55 rfl (by kernel_rfl) (by kernel_rfl) ?_
  rw [Tryd.results55]
  simp only [↓X, ↓Y, V, U, Z, ↓Q, Tsl, Tarr, Ttk, Tfl, Tint, Tbool, Tbld, Tze, Tzel, Tcall, ↓reduceIte, Nat.reduceEqDiff, Nat.reduceAdd, Nat.add_zero, Nat.zero_add, Int.toNat_natCast, Int.natCast_nonneg, true_and, and_true, and_self, List.nil_append, List.cons_append, U2, List.getElem?_cons_zero, List.getElem?_cons_succ, List.append_nil, List.length_map, Bool.not_true, Bool.not_false, decide_true, decide_false, eq_self, ne_eq, not_false_eq_true, Int.reduceLT, Int.reduceLE, Int.reduceNeg, nat_lt0, now w, hs.len_]
  refine loopX_intro (fun m g w' => ∃ k : Nat, k + m = l.length ∧ g 8 = .int .i64 k ∧ g 7 = .int .i64 l.length ∧ g 0 = v ∧ g 1 = .func (.func cl) #[] caps.toArray ∧ (∀ j (h : j < l.length), j < k → q l[j] = false) ∧ Ext w w') l.length (by kernel_rfl) ?_ ?_
  · refine ⟨0, by omega, ?_⟩
    simp only [↓X, ↓Y, V, U, Z, ↓Q, Tsl, Tarr, Ttk, Tfl, Tint, Tbool, Tbld, Tze, Tzel, Tcall, ↓reduceIte, Nat.reduceEqDiff, Nat.reduceAdd, Nat.add_zero, Nat.zero_add, Int.toNat_natCast, Int.natCast_nonneg, true_and, and_true, and_self, List.nil_append, List.cons_append, U2, List.getElem?_cons_zero, List.getElem?_cons_succ, List.append_nil, List.length_map, Bool.not_true, Bool.not_false, decide_true, decide_false, eq_self, ne_eq, not_false_eq_true, Int.reduceLT, Int.reduceLE, Int.reduceNeg, nat_lt0]
    exact ⟨rfl, fun j _ h => absurd h (by omega), Ext.refl w⟩
  · rintro m g w1 ⟨k, hk, h8, h7, h0, h1, hp, hx⟩
    by_cases hm : k < l.length
    · simp only [↓X, ↓Y, V, U, Z, ↓Q, Tsl, Tarr, Ttk, Tfl, Tint, Tbool, Tbld, Tze, Tzel, Tcall, ↓reduceIte, Nat.reduceEqDiff, Nat.reduceAdd, Nat.add_zero, Nat.zero_add, Int.toNat_natCast, Int.natCast_nonneg, true_and, and_true, and_self, List.nil_append, List.cons_append, U2, List.getElem?_cons_zero, List.getElem?_cons_succ, List.append_nil, List.length_map, Bool.not_true, Bool.not_false, decide_true, decide_false, eq_self, ne_eq, not_false_eq_true, Int.reduceLT, Int.reduceLE, Int.reduceNeg, nat_lt0, now w1, h8, h7, h0, h1, Int.ofNat_lt, hm, hs.len_, (hs.ext hx hB).at_ k hm, hc]
      refine ret_bind (hf _ (List.getElem_mem hm) w1 hx) fun w2 hx2 => ?_
      cases hpk : q l[k] with
      | true =>
        simp only [↓X, ↓Y, V, U, Z, ↓Q, Tsl, Tarr, Ttk, Tfl, Tint, Tbool, Tbld, Tze, Tzel, Tcall, ↓reduceIte, Nat.reduceEqDiff, Nat.reduceAdd, Nat.add_zero, Nat.zero_add, Int.toNat_natCast, Int.natCast_nonneg, true_and, and_true, and_self, List.nil_append, List.cons_append, U2, List.getElem?_cons_zero, List.getElem?_cons_succ, List.append_nil, List.length_map, Bool.not_true, Bool.not_false, decide_true, decide_false, eq_self, ne_eq, not_false_eq_true, Int.reduceLT, Int.reduceLE, Int.reduceNeg, nat_lt0, now w2]
        exact ⟨by rw [fidx_found hm hpk hp], hx.trans hx2⟩
      | false =>
        simp only [↓X, ↓Y, V, U, Z, ↓Q, Tsl, Tarr, Ttk, Tfl, Tint, Tbool, Tbld, Tze, Tzel, Tcall, ↓reduceIte, Nat.reduceEqDiff, Nat.reduceAdd, Nat.add_zero, Nat.zero_add, Int.toNat_natCast, Int.natCast_nonneg, true_and, and_true, and_self, List.nil_append, List.cons_append, U2, List.getElem?_cons_zero, List.getElem?_cons_succ, List.append_nil, List.length_map, Bool.not_true, Bool.not_false, decide_true, decide_false, eq_self, ne_eq, not_false_eq_true, Int.reduceLT, Int.reduceLE, Int.reduceNeg, nat_lt0, now w2, h8, h7, h0, h1]
        refine ⟨m - 1, by omega, k + 1, by omega, by rw [wrap_succ hm hs.max_], fun j hj hjk => ?_, hx.trans hx2⟩
        rcases Nat.lt_or_eq_of_le (Nat.le_of_lt_succ hjk) with h | rfl
        · exact hp j hj h
        · exact hpk
    · simp only [↓X, ↓Y, V, U, Z, ↓Q, Tsl, Tarr, Ttk, Tfl, Tint, Tbool, Tbld, Tze, Tzel, Tcall, ↓reduceIte, Nat.reduceEqDiff, Nat.reduceAdd, Nat.add_zero, Nat.zero_add, Int.toNat_natCast, Int.natCast_nonneg, true_and, and_true, and_self, List.nil_append, List.cons_append, U2, List.getElem?_cons_zero, List.getElem?_cons_succ, List.append_nil, List.length_map, Bool.not_true, Bool.not_false, decide_true, decide_false, eq_self, ne_eq, not_false_eq_true, Int.reduceLT, Int.reduceLE, Int.reduceNeg, nat_lt0, now w1, h8, h7, Int.ofNat_lt, hm]
      exact ⟨by rw [fidx_none (fun j hj => hp j hj (by omega))], hx⟩
theorem indexFunc_rule {α : Type} {w : World} {B : Nat} {v : Value} {l : List α} {enc : α → Value} {cl : Nat} {caps : List Value} {q : α → Bool} (hB : B ≤ w.heap.size) (hs : Sl w B (some 4) 4 v (l.map enc)) (hc : callable Tryd.prog cl = true)
    (hf : ∀ x ∈ l, ∀ w', Ext w w' → Ret Tryd.prog cl (enc x :: caps).toArray w' (.bool (q x))) : Ret Tryd.prog 60 #[v, .func (.func cl) #[] caps.toArray] w (.int .i64 (fidx q l)) := by
  refine callsV_of Tryd.func60 rfl (by kernel_rfl) (by kernel_rfl) ?_
  rw [Tryd.results60]
  simp only [↓X, ↓Y, V, U, Z, ↓Q, Tsl, Tarr, Ttk, Tfl, Tint, Tbool, Tbld, Tze, Tzel, Tcall, ↓reduceIte, Nat.reduceEqDiff, Nat.reduceAdd, Nat.add_zero, Nat.zero_add, Int.toNat_natCast, Int.natCast_nonneg, true_and, and_true, and_self, List.nil_append, List.cons_append, U2, List.getElem?_cons_zero, List.getElem?_cons_succ, List.append_nil, List.length_map, Bool.not_true, Bool.not_false, decide_true, decide_false, eq_self, ne_eq, not_false_eq_true, Int.reduceLT, Int.reduceLE, Int.reduceNeg, nat_lt0, now w, hs.len_]
  refine loopX_intro (fun m g w' => ∃ k : Nat, k + m = l.length ∧ g 8 = .int .i64 k ∧ g 7 = .int .i64 l.length ∧ g 0 = v ∧ g 1 = .func (.func cl) #[] caps.toArray ∧ (∀ j (h : j < l.length), j < k → q l[j] = false) ∧ Ext w w') l.length (by kernel_rfl) ?_ ?_
  · refine ⟨0, by omega, ?_⟩
    simp only [↓X, ↓Y, V, U, Z, ↓Q, Tsl, Tarr, Ttk, Tfl, Tint, Tbool, Tbld, Tze, Tzel, Tcall, ↓reduceIte, Nat.reduceEqDiff, Nat.reduceAdd, Nat.add_zero, Nat.zero_add, Int.toNat_natCast, Int.natCast_nonneg, true_and, and_true, and_self, List.nil_append, List.cons_append, U2, List.getElem?_cons_zero, List.getElem?_cons_succ, List.append_nil, List.length_map, Bool.not_true, Bool.not_false, decide_true, decide_false, eq_self, ne_eq, not_false_eq_true, Int.reduceLT, Int.reduceLE, Int.reduceNeg, nat_lt0]
    exact ⟨rfl, fun j _ h => absurd h (by omega), Ext.refl w⟩
  · rintro m g w1 ⟨k, hk, h8, h7, h0, h1, hp, hx⟩
    by_cases hm : k < l.length
    · simp only [↓X, ↓Y, V, U, Z, ↓Q, Tsl, Tarr, Ttk, Tfl, Tint, Tbool, Tbld, Tze, Tzel, Tcall, ↓reduceIte, Nat.reduceEqDiff, Nat.reduceAdd, Nat.add_zero, Nat.zero_add, Int.toNat_natCast, Int.natCast_nonneg, true_and, and_true, and_self, List.nil_append, List.cons_append, U2, List.getElem?_cons_zero, List.getElem?_cons_succ, List.append_nil, List.length_map, Bool.not_true, Bool.not_false, decide_true, decide_false, eq_self, ne_eq, not_false_eq_true, Int.reduceLT, Int.reduceLE, Int.reduceNeg, nat_lt0, now w1, h8, h7, h0, h1, Int.ofNat_lt, hm, hs.len_, (hs.ext hx hB).at_ k hm, hc]
      refine ret_bind (hf _ (List.getElem_mem hm) w1 hx) fun w2 hx2 => ?_
      cases hpk : q l[k] with
      | true =>
        simp only [↓X, ↓Y, V, U, Z, ↓Q, Tsl, Tarr, Ttk, Tfl, Tint, Tbool, Tbld, Tze, Tzel, Tcall, ↓reduceIte, Nat.reduceEqDiff, Nat.reduceAdd, Nat.add_zero, Nat.zero_add, Int.toNat_natCast, Int.natCast_nonneg, true_and, and_true, and_self, List.nil_append, List.cons_append, U2, List.getElem?_cons_zero, List.getElem?_cons_succ, List.append_nil, List.length_map, Bool.not_true, Bool.not_false, decide_true, decide_false, eq_self, ne_eq, not_false_eq_true, Int.reduceLT, Int.reduceLE, Int.reduceNeg, nat_lt0, now w2]
        exact ⟨by rw [fidx_found hm hpk hp], hx.trans hx2⟩
      | false =>
        simp only [↓X, ↓Y, V, U, Z, ↓Q, Tsl, Tarr, Ttk, Tfl, Tint, Tbool, Tbld, Tze, Tzel, Tcall, ↓reduceIte, Nat.reduceEqDiff, Nat.reduceAdd, Nat.add_zero, Nat.zero_add, Int.toNat_natCast, Int.natCast_nonneg, true_and, and_true, and_self, List.nil_append, List.cons_append, U2, List.getElem?_cons_zero, List.getElem?_cons_succ, List.append_nil, List.length_map, Bool.not_true, Bool.not_false, decide_true, decide_false, eq_self, ne_eq, not_false_eq_true, Int.reduceLT, Int.reduceLE, Int.reduceNeg, nat_lt0, now w2, h8, h7, h0, h1]
        refine ⟨m - 1, by omega, k + 1, by omega, by rw [wrap_succ hm hs.max_], fun j hj hjk => ?_, hx.trans hx2⟩
        rcases Nat.lt_or_eq_of_le (Nat.le_of_lt_succ hjk) with h | rfl
        · exact hp j hj h
        · exact hpk
    · simp only [↓X, ↓Y, V, U, Z, ↓Q, Tsl, Tarr, Ttk, Tfl, Tint, Tbool, Tbld, Tze, Tzel, Tcall, ↓reduceIte, Nat.reduceEqDiff, Nat.reduceAdd, Nat.add_zero, Nat.zero_add, Int.toNat_natCast, Int.natCast_nonneg, true_and, and_true, and_self, List.nil_append, List.cons_append, U2, List.getElem?_cons_zero, List.getElem?_cons_succ, List.append_nil, List.length_map, Bool.not_true, Bool.not_false, decide_true, decide_false, eq_self, ne_eq, not_false_eq_true, Int.reduceLT, Int.reduceLE, Int.reduceNeg, nat_lt0, now w1, h8, h7, Int.ofNat_lt, hm]
      exact ⟨by rw [fidx_none (fun j hj => hp j hj (by omega))], hx⟩
theorem indexFunc_Feed {α : Type} {w : World} {B : Nat} {v : Value} {l : List α} {enc : α → Value} {cl : Nat} {caps : List Value} {q : α → Bool} (hB : B ≤ w.heap.size) (hs : Sl w B (some 1) 1 v (l.map enc)) (hc : callable Tryd.prog cl = true)
    (hf : ∀ x ∈ l, ∀ w', Ext w w' → Ret Tryd.prog cl (enc x :: caps).toArray w' (.bool (q x))) : Ret Tryd.prog 64 #[v, .func (.func cl) #[] caps.toArray] w (.int .i64 (fidx q l)) := by
  refine callsV_of Tryd.func64 rfl (by kernel_rfl) (by kernel_rfl) ?_
  rw [Tryd.results64]
  simp only [↓X, ↓Y, V, U, Z, ↓Q, Tsl, Tarr, Ttk, Tfl, Tint, Tbool, Tbld, Tze, Tzel, Tcall, ↓reduceIte, Nat.reduceEqDiff, Nat.reduceAdd, Nat.add_zero, Nat.zero_add, Int.toNat_natCast, Int.natCast_nonneg, true_and, and_true, and_self, List.nil_append, List.cons_append, U2, List.getElem?_cons_zero, List.getElem?_cons_succ, List.append_nil, List.length_map, Bool.not_true, Bool.not_false, decide_true, decide_false, eq_self, ne_eq, not_false_eq_true, Int.reduceLT, Int.reduceLE, Int.reduceNeg, nat_lt0, now w, hs.len_]
  refine loopX_intro (fun m g w' => ∃ k : Nat, k + m = l.length ∧ g 8 = .int .i64 k ∧ g 7 = .int .i64 l.length ∧ g 0 = v ∧ g 1 = .func (.func cl) #[] caps.toArray ∧ (∀ j (h : j < l.length), j < k → q l[j] = false) ∧ Ext w w') l.length (by kernel_rfl) ?_ ?_
  · refine ⟨0, by omega, ?_⟩
    simp only [↓X, ↓Y, V, U, Z, ↓Q, Tsl, Tarr, Ttk, Tfl, Tint, Tbool, Tbld, Tze, Tzel, Tcall, ↓reduceIte, Nat.reduceEqDiff, Nat.reduceAdd, Nat.add_zero, Nat.zero_add, Int.toNat_natCast, Int.natCast_nonneg, true_and, and_true, and_self, List.nil_append, List.cons_append, U2, List.getElem?_cons_zero, List.getElem?_cons_succ, List.append_nil, List.length_map, Bool.not_true, Bool.not_false, decide_true, decide_false, eq_self, ne_eq, not_false_eq_true, Int.reduceLT, Int.reduceLE, Int.reduceNeg, nat_lt0]
    exact ⟨rfl, fun j _ h => absurd h (by omega), Ext.refl w⟩
  · rintro m g w1 ⟨k, hk, h8, h7, h0, h1, hp, hx⟩
    by_cases hm : k < l.length
    · simp only [↓X, ↓Y, V, U, Z, ↓Q, Tsl, Tarr, Ttk, Tfl, Tint, Tbool, Tbld, Tze, Tzel, Tcall, ↓reduceIte, Nat.reduceEqDiff, Nat.reduceAdd, Nat.add_zero, Nat.zero_add, Int.toNat_natCast, Int.natCast_nonneg, true_and, and_true, and_self, List.nil_append, List.cons_append, U2, List.getElem?_cons_zero, List.getElem?_cons_succ, List.append_nil, List.length_map, Bool.not_true, Bool.not_false, decide_true, decide_false, eq_self, ne_eq, not_false_eq_true, Int.reduceLT, Int.reduceLE, Int.reduceNeg, nat_lt0, now w1, h8, h7, h0, h1, Int.ofNat_lt, hm, hs.len_, (hs.ext hx hB).at_ k hm, hc]
      refine ret_bind (hf _ (List.getElem_mem hm) w1 hx) fun w2 hx2 => ?_
      cases hpk : q l[k] with
      | true =>
        simp only [↓X, ↓Y, V, U, Z, ↓Q, Tsl, Tarr, Ttk, Tfl, Tint, Tbool, Tbld, Tze, Tzel, Tcall, ↓reduceIte, Nat.reduceEqDiff, Nat.reduceAdd, Nat.add_zero, Nat.zero_add, Int.toNat_natCast, Int.natCast_nonneg, true_and, and_true, and_self, List.nil_append, List.cons_append, U2, List.getElem?_cons_zero, List.getElem?_cons_succ, List.append_nil, List.length_map, Bool.not_true, Bool.not_false, decide_true, decide_false, eq_self, ne_eq, not_false_eq_true, Int.reduceLT, Int.reduceLE, Int.reduceNeg, nat_lt0, now w2]
        exact ⟨by rw [fidx_found hm hpk hp], hx.trans hx2⟩
      | false =>
        simp only [↓X, ↓Y, V, U, Z, ↓Q, Tsl, Tarr, Ttk, Tfl, Tint, Tbool, Tbld, Tze, Tzel, Tcall, ↓reduceIte, Nat.reduceEqDiff, Nat.reduceAdd, Nat.add_zero, Nat.zero_add, Int.toNat_natCast, Int.natCast_nonneg, true_and, and_true, and_self, List.nil_append, List.cons_append, U2, List.getElem?_cons_zero, List.getElem?_cons_succ, List.append_nil, List.length_map, Bool.not_true, Bool.not_false, decide_true, decide_false, eq_self, ne_eq, not_false_eq_true, Int.reduceLT, Int.reduceLE, Int.reduceNeg, nat_lt0, now w2, h8, h7, h0, h1]
        refine ⟨m - 1, by omega, k + 1, by omega, by rw [wrap_succ hm hs.max_], fun j hj hjk => ?_, hx.trans hx2⟩
        rcases Nat.lt_or_eq_of_le (Nat.le_of_lt_succ hjk) with h | rfl
        · exact hp j hj h
        · exact hpk
    · simp only [↓X, ↓Y, V, U, Z, ↓Q, Tsl, Tarr, Ttk, Tfl, Tint, Tbool, Tbld, Tze, Tzel, Tcall, ↓reduceIte, Nat.reduceEqDiff, Nat.reduceAdd, Nat.add_zero, Nat.zero_add, Int.toNat_natCast, Int.natCast_nonneg, true_and, and_true, and_self, List.nil_append, List.cons_append, U2, List.getElem?_cons_zero, List.getElem?_cons_succ, List.append_nil, List.length_map, Bool.not_true, Bool.not_false, decide_true, decide_false, eq_self, ne_eq, not_false_eq_true, Int.reduceLT, Int.reduceLE, Int.reduceNeg, nat_lt0, now w1, h8, h7, Int.ofNat_lt, hm]
      exact ⟨by rw [fidx_none (fun j hj => hp j hj (by omega))], hx⟩
theorem indexFunc_Breaker {α : Type} {w : World} {B : Nat} {v : Value} {l : List α} {enc : α → Value} {cl : Nat} {caps : List Value} {q : α → Bool} (hB : B ≤ w.heap.size) (hs : Sl w B (some 4) 4 v (l.map enc)) (hc : callable Tryd.prog cl = true)
    (hf : ∀ x ∈ l, ∀ w', Ext w w' → Ret Tryd.prog cl (enc x :: caps).toArray w' (.bool (q x))) : Ret Tryd.prog 65 #[v, .func (.func cl) #[] caps.toArray] w (.int .i64 (fidx q l)) := by
  refine callsV_of Tryd.func65 rfl (by kernel_rfl) (by kernel_rfl) ?_
  rw [Tryd.results65]
  simp only [↓X, ↓Y, V, U, Z, ↓Q, Tsl, Tarr, Ttk, Tfl, Tint, Tbool, Tbld, Tze, Tzel, Tcall, ↓reduceIte, Nat.reduceEqDiff, Nat.reduceAdd, Nat.add_zero, Nat.zero_add, Int.toNat_natCast, Int.natCast_nonneg, true_and, and_true, and_self, List.nil_append, List.cons_append, U2, List.getElem?_cons_zero, List.getElem?_cons_succ, List.append_nil, List.length_map, Bool.not_true, Bool.not_false, decide_true, decide_false, eq_self, ne_eq, not_false_eq_true, Int.reduceLT, Int.reduceLE, Int.reduceNeg, nat_lt0, now w, hs.len_]
  refine loopX_intro (fun m g w' => ∃ k : Nat, k + m = l.length ∧ g 8 = .int .i64 k ∧ g 7 = .int .i64 l.length ∧ g 0 = v ∧ g 1 = .func (.func cl) #[] caps.toArray ∧ (∀ j (h : j < l.length), j < k → q l[j] = false) ∧ Ext w w') l.length (by kernel_rfl) ?_ ?_
  · refine ⟨0, by omega, ?_⟩
    simp only [↓X, ↓Y, V, U, Z, ↓Q, Tsl, Tarr, Ttk, Tfl, Tint, Tbool, Tbld, Tze, Tzel, Tcall, ↓reduceIte, Nat.reduceEqDiff, Nat.reduceAdd, Nat.add_zero, Nat.zero_add, Int.toNat_natCast, Int.natCast_nonneg, true_and, and_true, and_self, List.nil_append, List.cons_append, U2, List.getElem?_cons_zero, List.getElem?_cons_succ, List.append_nil, List.length_map, Bool.not_true, Bool.not_false, decide_true, decide_false, eq_self, ne_eq, not_false_eq_true, Int.reduceLT, Int.reduceLE, Int.reduceNeg, nat_lt0]
    exact ⟨rfl, fun j _ h => absurd h (by omega), Ext.refl w⟩
  · rintro m g w1 ⟨k, hk, h8, h7, h0, h1, hp, hx⟩
    by_cases hm : k < l.length
    · simp only [↓X, ↓Y, V, U, Z, ↓Q, Tsl, Tarr, Ttk, Tfl, Tint, Tbool, Tbld, Tze, Tzel, Tcall, ↓reduceIte, Nat.reduceEqDiff, Nat.reduceAdd, Nat.add_zero, Nat.zero_add, Int.toNat_natCast, Int.natCast_nonneg, true_and, and_true, and_self, List.nil_append, List.cons_append, U2, List.getElem?_cons_zero, List.getElem?_cons_succ, List.append_nil, List.length_map, Bool.not_true, Bool.not_false, decide_true, decide_false, eq_self, ne_eq, not_false_eq_true, Int.reduceLT, Int.reduceLE, Int.reduceNeg, nat_lt0, now w1, h8, h7, h0, h1, Int.ofNat_lt, hm, hs.len_, (hs.ext hx hB).at_ k hm, hc]
      refine ret_bind (hf _ (List.getElem_mem hm) w1 hx) fun w2 hx2 => ?_
      cases hpk : q l[k] with
      | true =>
        simp only [↓X, ↓Y, V, U, Z, ↓Q, Tsl, Tarr, Ttk, Tfl, Tint, Tbool, Tbld, Tze, Tzel, Tcall, ↓reduceIte, Nat.reduceEqDiff, Nat.reduceAdd, Nat.add_zero, Nat.zero_add, Int.toNat_natCast, Int.natCast_nonneg, true_and, and_true, and_self, List.nil_append, List.cons_append, U2, List.getElem?_cons_zero, List.getElem?_cons_succ, List.append_nil, List.length_map, Bool.not_true, Bool.not_false, decide_true, decide_false, eq_self, ne_eq, not_false_eq_true, Int.reduceLT, Int.reduceLE, Int.reduceNeg, nat_lt0, now w2]
        exact ⟨by rw [fidx_found hm hpk hp], hx.trans hx2⟩
      | false =>
        simp only [↓X, ↓Y, V, U, Z, ↓Q, Tsl, Tarr, Ttk, Tfl, Tint, Tbool, Tbld, Tze, Tzel, Tcall, ↓reduceIte, Nat.reduceEqDiff, Nat.reduceAdd, Nat.add_zero, Nat.zero_add, Int.toNat_natCast, Int.natCast_nonneg, true_and, and_true, and_self, List.nil_append, List.cons_append, U2, List.getElem?_cons_zero, List.getElem?_cons_succ, List.append_nil, List.length_map, Bool.not_true, Bool.not_false, decide_true, decide_false, eq_self, ne_eq, not_false_eq_true, Int.reduceLT, Int.reduceLE, Int.reduceNeg, nat_lt0, now w2, h8, h7, h0, h1]
        refine ⟨m - 1, by omega, k + 1, by omega, by rw [wrap_succ hm hs.max_], fun j hj hjk => ?_, hx.trans hx2⟩
        rcases Nat.lt_or_eq_of_le (Nat.le_of_lt_succ hjk) with h | rfl
        · exact hp j hj h
        · exact hpk
    · simp only [↓X, ↓Y, V, U, Z, ↓Q, Tsl, Tarr, Ttk, Tfl, Tint, Tbool, Tbld, Tze, Tzel, Tcall, ↓reduceIte, Nat.reduceEqDiff, Nat.reduceAdd, Nat.add_zero, Nat.zero_add, Int.toNat_natCast, Int.natCast_nonneg, true_and, and_true, and_self, List.nil_append, List.cons_append, U2, List.getElem?_cons_zero, List.getElem?_cons_succ, List.append_nil, List.length_map, Bool.not_true, Bool.not_false, decide_true, decide_false, eq_self, ne_eq, not_false_eq_true, Int.reduceLT, Int.reduceLE, Int.reduceNeg, nat_lt0, now w1, h8, h7, Int.ofNat_lt, hm]
      exact ⟨by rw [fidx_none (fun j hj => hp j hj (by omega))], hx⟩
theorem indexFunc_Loop {α : Type} {w : World} {B : Nat} {v : Value} {l : List α} {enc : α → Value} {cl : Nat} {caps : List Value} {q : α → Bool} (hB : B ≤ w.heap.size) (hs : Sl w B (some 2) 2 v (l.map enc)) (hc : callable Tryd.prog cl = true)
    (hf : ∀ x ∈ l, ∀ w', Ext w w' → Ret Tryd.prog cl (enc x :: caps).toArray w' (.bool (q x))) : Ret Tryd.prog 66 #[v, .func (.func cl) #[] caps.toArray] w (.int .i64 (fidx q l)) := by
  refine callsV_of Tryd.func66 rfl (by kernel_rfl) (by kernel_rfl) ?_
  rw [Tryd.results66]
  simp only [↓X, ↓Y, V, U, Z, ↓Q, Tsl, Tarr, Ttk, Tfl, Tint, Tbool, Tbld, Tze, Tzel, Tcall, ↓reduceIte, Nat.reduceEqDiff, Nat.reduceAdd, Nat.add_zero, Nat.zero_add, Int.toNat_natCast, Int.natCast_nonneg, true_and, and_true, and_self, List.nil_append, List.cons_append, U2, List.getElem?_cons_zero, List.getElem?_cons_succ, List.append_nil, List.length_map, Bool.not_true, Bool.not_false, decide_true, decide_false, eq_self, ne_eq, not_false_eq_true, Int.reduceLT, Int.reduceLE, Int.reduceNeg, nat_lt0, now w, hs.len_]
  refine loopX_intro (fun m g w' => ∃ k : Nat, k + m = l.length ∧ g 8 = .int .i64 k ∧ g 7 = .int .i64 l.length ∧ g 0 = v ∧ g 1 = .func (.func cl) #[] caps.toArray ∧ (∀ j (h : j < l.length), j < k → q l[j] = false) ∧ Ext w w') l.length (by kernel_rfl) ?_ ?_
  · refine ⟨0, by omega, ?_⟩
    simp only [↓X, ↓Y, V, U, Z, ↓Q, Tsl, Tarr, Ttk, Tfl, Tint, Tbool, Tbld, Tze, Tzel, Tcall, ↓reduceIte, Nat.reduceEqDiff, Nat.reduceAdd, Nat.add_zero, Nat.zero_add, Int.toNat_natCast, Int.natCast_nonneg, true_and, and_true, and_self, List.nil_append, List.cons_append, U2, List.getElem?_cons_zero, List.getElem?_cons_succ, List.append_nil, List.length_map, Bool.not_true, Bool.not_false, decide_true, decide_false, eq_self, ne_eq, not_false_eq_true, Int.reduceLT, Int.reduceLE, Int.reduceNeg, nat_lt0]
    exact ⟨rfl, fun j _ h => absurd h (by omega), Ext.refl w⟩
  · rintro m g w1 ⟨k, hk, h8, h7, h0, h1, hp, hx⟩
    by_cases hm : k < l.length
    · simp only [↓X, ↓Y, V, U, Z, ↓Q, Tsl, Tarr, Ttk, Tfl, Tint, Tbool, Tbld, Tze, Tzel, Tcall, ↓reduceIte, Nat.reduceEqDiff, Nat.reduceAdd, Nat.add_zero, Nat.zero_add, Int.toNat_natCast, Int.natCast_nonneg, true_and, and_true, and_self, List.nil_append, List.cons_append, U2, List.getElem?_cons_zero, List.getElem?_cons_succ, List.append_nil, List.length_map, Bool.not_true, Bool.not_false, decide_true, decide_false, eq_self, ne_eq, not_false_eq_true, Int.reduceLT, Int.reduceLE, Int.reduceNeg, nat_lt0, now w1, h8, h7, h0, h1, Int.ofNat_lt, hm, hs.len_, (hs.ext hx hB).at_ k hm, hc]
      refine ret_bind (hf _ (List.getElem_mem hm) w1 hx) fun w2 hx2 => ?_
      cases hpk : q l[k] with
      | true =>
        simp only [↓X, ↓Y, V, U, Z, ↓Q, Tsl, Tarr, Ttk, Tfl, Tint, Tbool, Tbld, Tze, Tzel, Tcall, ↓reduceIte, Nat.reduceEqDiff, Nat.reduceAdd, Nat.add_zero, Nat.zero_add, Int.toNat_natCast, Int.natCast_nonneg, true_and, and_true, and_self, List.nil_append, List.cons_append, U2, List.getElem?_cons_zero, List.getElem?_cons_succ, List.append_nil, List.length_map, Bool.not_true, Bool.not_false, decide_true, decide_false, eq_self, ne_eq, not_false_eq_true, Int.reduceLT, Int.reduceLE, Int.reduceNeg, nat_lt0, now w2]
        exact ⟨by rw [fidx_found hm hpk hp], hx.trans hx2⟩
      | false =>
        simp only [↓X, ↓Y, V, U, Z, ↓Q, Tsl, Tarr, Ttk, Tfl, Tint, Tbool, Tbld, Tze, Tzel, Tcall, ↓reduceIte, Nat.reduceEqDiff, Nat.reduceAdd, Nat.add_zero, Nat.zero_add, Int.toNat_natCast, Int.natCast_nonneg, true_and, and_true, and_self, List.nil_append, List.cons_append, U2, List.getElem?_cons_zero, List.getElem?_cons_succ, List.append_nil, List.length_map, Bool.not_true, Bool.not_false, decide_true, decide_false, eq_self, ne_eq, not_false_eq_true, Int.reduceLT, Int.reduceLE, Int.reduceNeg, nat_lt0, now w2, h8, h7, h0, h1]
        refine ⟨m - 1, by omega, k + 1, by omega, by rw [wrap_succ hm hs.max_], fun j hj hjk => ?_, hx.trans hx2⟩
        rcases Nat.lt_or_eq_of_le (Nat.le_of_lt_succ hjk) with h | rfl
        · exact hp j hj h
        · exact hpk
    · simp only [↓X, ↓Y, V, U, Z, ↓Q, Tsl, Tarr, Ttk, Tfl, Tint, Tbool, Tbld, Tze, Tzel, Tcall, ↓reduceIte, Nat.reduceEqDiff, Nat.reduceAdd, Nat.add_zero, Nat.zero_add, Int.toNat_natCast, Int.natCast_nonneg, true_and, and_true, and_self, List.nil_append, List.cons_append, U2, List.getElem?_cons_zero, List.getElem?_cons_succ, List.append_nil, List.length_map, Bool.not_true, Bool.not_false, decide_true, decide_false, eq_self, ne_eq, not_false_eq_true, Int.reduceLT, Int.reduceLE, Int.reduceNeg, nat_lt0, now w1, h8, h7, Int.ofNat_lt, hm]
      exact ⟨by rw [fidx_none (fun j hj => hp j hj (by omega))], hx⟩
theorem indexFunc_Rack {α : Type} {w : World} {B : Nat} {v : Value} {l : List α} {enc : α → Value} {cl : Nat} {caps : List Value} {q : α → Bool} (hB : B ≤ w.heap.size) (hs : Sl w B (some 4) 4 v (l.map enc)) (hc : callable Tryd.prog cl = true)
    (hf : ∀ x ∈ l, ∀ w', Ext w w' → Ret Tryd.prog cl (enc x :: caps).toArray w' (.bool (q x))) : Ret Tryd.prog 67 #[v, .func (.func cl) #[] caps.toArray] w (.int .i64 (fidx q l)) := by
  refine callsV_of Tryd.func67 rfl (by kernel_rfl) (by kernel_rfl) ?_
  rw [Tryd.results67]
  simp only [↓X, ↓Y, V, U, Z, ↓Q, Tsl, Tarr, Ttk, Tfl, Tint, Tbool, Tbld, Tze, Tzel, Tcall, ↓reduceIte, Nat.reduceEqDiff, Nat.reduceAdd, Nat.add_zero, Nat.zero_add, Int.toNat_natCast, Int.natCast_nonneg, true_and, and_true, and_self, List.nil_append, List.cons_append, U2, List.getElem?_cons_zero, List.getElem?_cons_succ, List.append_nil, List.length_map, Bool.not_true, Bool.not_false, decide_true, decide_false, eq_self, ne_eq, not_false_eq_true, Int.reduceLT, Int.reduceLE, Int.reduceNeg, nat_lt0, now w, hs.len_]
  refine loopX_intro (fun m g w' => ∃ k : Nat, k + m = l.length ∧ g 8 = .int .i64 k ∧ g 7 = .int .i64 l.length ∧ g 0 = v ∧ g 1 = .func (.func cl) #[] caps.toArray ∧ (∀ j (h : j < l.length), j < k → q l[j] = false) ∧ Ext w w') l.length (by kernel_rfl) ?_ ?_
  · refine ⟨0, by omega, ?_⟩
    simp only [↓X, ↓Y, V, U, Z, ↓Q, Tsl, Tarr, Ttk, Tfl, Tint, Tbool, Tbld, Tze, Tzel, Tcall, ↓reduceIte, Nat.reduceEqDiff, Nat.reduceAdd, Nat.add_zero, Nat.zero_add, Int.toNat_natCast, Int.natCast_nonneg, true_and, and_true, and_self, List.nil_append, List.cons_append, U2, List.getElem?_cons_zero, List.getElem?_cons_succ, List.append_nil, List.length_map, Bool.not_true, Bool.not_false, decide_true, decide_false, eq_self, ne_eq, not_false_eq_true, Int.reduceLT, Int.reduceLE, Int.reduceNeg, nat_lt0]
    exact ⟨rfl, fun j _ h => absurd h (by omega), Ext.refl w⟩
  · rintro m g w1 ⟨k, hk, h8, h7, h0, h1, hp, hx⟩
    by_cases hm : k < l.length
    · simp only [↓X, ↓Y, V, U, Z, ↓Q, Tsl, Tarr, Ttk, Tfl, Tint, Tbool, Tbld, Tze, Tzel, Tcall, ↓reduceIte, Nat.reduceEqDiff, Nat.reduceAdd, Nat.add_zero, Nat.zero_add, Int.toNat_natCast, Int.natCast_nonneg, true_and, and_true, and_self, List.nil_append, List.cons_append, U2, List.getElem?_cons_zero, List.getElem?_cons_succ, List.append_nil, List.length_map, Bool.not_true, Bool.not_false, decide_true, decide_false, eq_self, ne_eq, not_false_eq_true, Int.reduceLT, Int.reduceLE, Int.reduceNeg, nat_lt0, now w1, h8, h7, h0, h1, Int.ofNat_lt, hm, hs.len_, (hs.ext hx hB).at_ k hm, hc]
      refine ret_bind (hf _ (List.getElem_mem hm) w1 hx) fun w2 hx2 => ?_
      cases hpk : q l[k] with
      | true =>
        simp only [↓X, ↓Y, V, U, Z, ↓Q, Tsl, Tarr, Ttk, Tfl, Tint, Tbool, Tbld, Tze, Tzel, Tcall, ↓reduceIte, Nat.reduceEqDiff, Nat.reduceAdd, Nat.add_zero, Nat.zero_add, Int.toNat_natCast, Int.natCast_nonneg, true_and, and_true, and_self, List.nil_append, List.cons_append, U2, List.getElem?_cons_zero, List.getElem?_cons_succ, List.append_nil, List.length_map, Bool.not_true, Bool.not_false, decide_true, decide_false, eq_self, ne_eq, not_false_eq_true, Int.reduceLT, Int.reduceLE, Int.reduceNeg, nat_lt0, now w2]
        exact ⟨by rw [fidx_found hm hpk hp], hx.trans hx2⟩
      | false =>
        simp only [↓X, ↓Y, V, U, Z, ↓Q, Tsl, Tarr, Ttk, Tfl, Tint, Tbool, Tbld, Tze, Tzel, Tcall, ↓reduceIte, Nat.reduceEqDiff, Nat.reduceAdd, Nat.add_zero, Nat.zero_add, Int.toNat_natCast, Int.natCast_nonneg, true_and, and_true, and_self, List.nil_append, List.cons_append, U2, List.getElem?_cons_zero, List.getElem?_cons_succ, List.append_nil, List.length_map, Bool.not_true, Bool.not_false, decide_true, decide_false, eq_self, ne_eq, not_false_eq_true, Int.reduceLT, Int.reduceLE, Int.reduceNeg, nat_lt0, now w2, h8, h7, h0, h1]
        refine ⟨m - 1, by omega, k + 1, by omega, by rw [wrap_succ hm hs.max_], fun j hj hjk => ?_, hx.trans hx2⟩
        rcases Nat.lt_or_eq_of_le (Nat.le_of_lt_succ hjk) with h | rfl
        · exact hp j hj h
        · exact hpk
    · simp only [↓X, ↓Y, V, U, Z, ↓Q, Tsl, Tarr, Ttk, Tfl, Tint, Tbool, Tbld, Tze, Tzel, Tcall, ↓reduceIte, Nat.reduceEqDiff, Nat.reduceAdd, Nat.add_zero, Nat.zero_add, Int.toNat_natCast, Int.natCast_nonneg, true_and, and_true, and_self, List.nil_append, List.cons_append, U2, List.getElem?_cons_zero, List.getElem?_cons_succ, List.append_nil, List.length_map, Bool.not_true, Bool.not_false, decide_true, decide_false, eq_self, ne_eq, not_false_eq_true, Int.reduceLT, Int.reduceLE, Int.reduceNeg, nat_lt0, now w1, h8, h7, Int.ofNat_lt, hm]
      exact ⟨by rw [fidx_none (fun j hj => hp j hj (by omega))], hx⟩
theorem indexFunc_Link {α : Type} {w : World} {B : Nat} {v : Value} {l : List α} {enc : α → Value} {cl : Nat} {caps : List Value} {q : α → Bool} (hB : B ≤ w.heap.size) (hs : Sl w B (some 3) 3 v (l.map enc)) (hc : callable Tryd.prog cl = true)
    (hf : ∀ x ∈ l, ∀ w', Ext w w' → Ret Tryd.prog cl (enc x :: caps).toArray w' (.bool (q x))) : Ret Tryd.prog 68 #[v, .func (.func cl) #[] caps.toArray] w (.int .i64 (fidx q l)) := by
  refine callsV_of Tryd.func68 rfl (by kernel_rfl) (by kernel_rfl) ?_
  rw [Tryd.results68]
  simp only [↓X, ↓Y, V, U, Z, ↓Q, Tsl, Tarr, Ttk, Tfl, Tint, Tbool, Tbld, Tze, Tzel, Tcall, ↓reduceIte, Nat.reduceEqDiff, Nat.reduceAdd, Nat.add_zero, Nat.zero_add, Int.toNat_natCast, Int.natCast_nonneg, true_and, and_true, and_self, List.nil_append, List.cons_append, U2, List.getElem?_cons_zero, List.getElem?_cons_succ, List.append_nil, List.length_map, Bool.not_true, Bool.not_false, decide_true, decide_false, eq_self, ne_eq, not_false_eq_true, Int.reduceLT, Int.reduceLE, Int.reduceNeg, nat_lt0, now w, hs.len_]
  refine loopX_intro (fun m g w' => ∃ k : Nat, k + m = l.length ∧ g 8 = .int .i64 k ∧ g 7 = .int .i64 l.length ∧ g 0 = v ∧ g 1 = .func (.func cl) #[] caps.toArray ∧ (∀ j (h : j < l.length), j < k → q l[j] = false) ∧ Ext w w') l.length (by kernel_rfl) ?_ ?_
  · refine ⟨0, by omega, ?_⟩
    simp only [↓X, ↓Y, V, U, Z, ↓Q, Tsl, Tarr, Ttk, Tfl, Tint, Tbool, Tbld, Tze, Tzel, Tcall, ↓reduceIte, Nat.reduceEqDiff, Nat.reduceAdd, Nat.add_zero, Nat.zero_add, Int.toNat_natCast, Int.natCast_nonneg, true_and, and_true, and_self, List.nil_append, List.cons_append, U2, List.getElem?_cons_zero, List.getElem?_cons_succ, List.append_nil, List.length_map, Bool.not_true, Bool.not_false, decide_true, decide_false, eq_self, ne_eq, not_false_eq_true, Int.reduceLT, Int.reduceLE, Int.reduceNeg, nat_lt0]
    exact ⟨rfl, fun j _ h => absurd h (by omega), Ext.refl w⟩
  · rintro m g w1 ⟨k, hk, h8, h7, h0, h1, hp, hx⟩
    by_cases hm : k < l.length
    · simp only [↓X, ↓Y, V, U, Z, ↓Q, Tsl, Tarr, Ttk, Tfl, Tint, Tbool, Tbld, Tze, Tzel, Tcall, ↓reduceIte, Nat.reduceEqDiff, Nat.reduceAdd, Nat.add_zero, Nat.zero_add, Int.toNat_natCast, Int.natCast_nonneg, true_and, and_true, and_self, List.nil_append, List.cons_append, U2, List.getElem?_cons_zero, List.getElem?_cons_succ, List.append_nil, List.length_map, Bool.not_true, Bool.not_false, decide_true, decide_false, eq_self, ne_eq, not_false_eq_true, Int.reduceLT, Int.reduceLE, Int.reduceNeg, nat_lt0, now w1, h8, h7, h0, h1, Int.ofNat_lt, hm, hs.len_, (hs.ext hx hB).at_ k hm, hc]
      refine ret_bind (hf _ (List.getElem_mem hm) w1 hx) fun w2 hx2 => ?_
      cases hpk : q l[k] with
      | true =>
        simp only [↓X, ↓Y, V, U, Z, ↓Q, Tsl, Tarr, Ttk, Tfl, Tint, Tbool, Tbld, Tze, Tzel, Tcall, ↓reduceIte, Nat.reduceEqDiff, Nat.reduceAdd, Nat.add_zero, Nat.zero_add, Int.toNat_natCast, Int.natCast_nonneg, true_and, and_true, and_self, List.nil_append, List.cons_append, U2, List.getElem?_cons_zero, List.getElem?_cons_succ, List.append_nil, List.length_map, Bool.not_true, Bool.not_false, decide_true, decide_false, eq_self, ne_eq, not_false_eq_true, Int.reduceLT, Int.reduceLE, Int.reduceNeg, nat_lt0, now w2]
        exact ⟨by rw [fidx_found hm hpk hp], hx.trans hx2⟩
      | false =>
        simp only [↓X, ↓Y, V, U, Z, ↓Q, Tsl, Tarr, Ttk, Tfl, Tint, Tbool, Tbld, Tze, Tzel, Tcall, ↓reduceIte, Nat.reduceEqDiff, Nat.reduceAdd, Nat.add_zero, Nat.zero_add, Int.toNat_natCast, Int.natCast_nonneg, true_and, and_true, and_self, List.nil_append, List.cons_append, U2, List.getElem?_cons_zero, List.getElem?_cons_succ, List.append_nil, List.length_map, Bool.not_true, Bool.not_false, decide_true, decide_false, eq_self, ne_eq, not_false_eq_true, Int.reduceLT, Int.reduceLE, Int.reduceNeg, nat_lt0, now w2, h8, h7, h0, h1]
        refine ⟨m - 1, by omega, k + 1, by omega, by rw [wrap_succ hm hs.max_], fun j hj hjk => ?_, hx.trans hx2⟩
        rcases Nat.lt_or_eq_of_le (Nat.le_of_lt_succ hjk) with h | rfl
        · exact hp j hj h
        · exact hpk
    · simp only [↓X, ↓Y, V, U, Z, ↓Q, Tsl, Tarr, Ttk, Tfl, Tint, Tbool, Tbld, Tze, Tzel, Tcall, ↓reduceIte, Nat.reduceEqDiff, Nat.reduceAdd, Nat.add_zero, Nat.zero_add, Int.toNat_natCast, Int.natCast_nonneg, true_and, and_true, and_self, List.nil_append, List.cons_append, U2, List.getElem?_cons_zero, List.getElem?_cons_succ, List.append_nil, List.length_map, Bool.not_true, Bool.not_false, decide_true, decide_false, eq_self, ne_eq, not_false_eq_true, Int.reduceLT, Int.reduceLE, Int.reduceNeg, nat_lt0, now w1, h8, h7, Int.ofNat_lt, hm]
      exact ⟨by rw [fidx_none (fun j hj => hp j hj (by omega))], hx⟩
theorem indexFunc_Host {α : Type} {w : World} {B : Nat} {v : Value} {l : List α} {enc : α → Value} {cl : Nat} {caps : List Value} {q : α → Bool} (hB : B ≤ w.heap.size) (hs : Sl w B (some 4) 4 v (l.map enc)) (hc : callable Tryd.prog cl = true)
    (hf : ∀ x ∈ l, ∀ w', Ext w w' → Ret Tryd.prog cl (enc x :: caps).toArray w' (.bool (q x))) : Ret Tryd.prog 69 #[v, .func (.func cl) #[] caps.toArray] w (.int .i64 (fidx q l)) := by
  refine callsV_of Tryd.func69 rfl (by kernel_rfl) (by kernel_rfl) ?_
  rw [Tryd.results69]
  simp only [↓X, ↓Y, V, U, Z, ↓Q, Tsl, Tarr, Ttk, Tfl, Tint, Tbool, Tbld, Tze, Tzel, Tcall, ↓reduceIte, Nat.reduceEqDiff, Nat.reduceAdd, Nat.add_zero, Nat.zero_add, Int.toNat_natCast, Int.natCast_nonneg, true_and, and_true, and_self, List.nil_append, List.cons_append, U2, List.getElem?_cons_zero, List.getElem?_cons_succ, List.append_nil, List.length_map, Bool.not_true, Bool.not_false, decide_true, decide_false, eq_self, ne_eq, not_false_eq_true, Int.reduceLT, Int.reduceLE, Int.reduceNeg, nat_lt0, now w, hs.len_]
  refine loopX_intro (fun m g w' => ∃ k : Nat, k + m = l.length ∧ g 8 = .int .i64 k ∧ g 7 = .int .i64 l.length ∧ g 0 = v ∧ g 1 = .func (.func cl) #[] caps.toArray ∧ (∀ j (h : j < l.length), j < k → q l[j] = false) ∧ Ext w w') l.length (by kernel_rfl) ?_ ?_
  · refine ⟨0, by omega, ?_⟩
    simp only [↓X, ↓Y, V, U, Z, ↓Q, Tsl, Tarr, Ttk, Tfl, Tint, Tbool, Tbld, Tze, Tzel, Tcall, ↓reduceIte, Nat.reduceEqDiff, Nat.reduceAdd, Nat.add_zero, Nat.zero_add, Int.toNat_natCast, Int.natCast_nonneg, true_and, and_true, and_self, List.nil_append, List.cons_append, U2, List.getElem?_cons_zero, List.getElem?_cons_succ, List.append_nil, List.length_map, Bool.not_true, Bool.not_false, decide_true, decide_false, eq_self, ne_eq, not_false_eq_true, Int.reduceLT, Int.reduceLE, Int.reduceNeg, nat_lt0]
    exact ⟨rfl, fun j _ h => absurd h (by omega), Ext.refl w⟩
  · rintro m g w1 ⟨k, hk, h8, h7, h0, h1, hp, hx⟩
    by_cases hm : k < l.length
    · simp only [↓X, ↓Y, V, U, Z, ↓Q, Tsl, Tarr, Ttk, Tfl, Tint, Tbool, Tbld, Tze, Tzel, Tcall, ↓reduceIte, Nat.reduceEqDiff, Nat.reduceAdd, Nat.add_zero, Nat.zero_add, Int.toNat_natCast, Int.natCast_nonneg, true_and, and_true, and_self, List.nil_append, List.cons_append, U2, List.getElem?_cons_zero, List.getElem?_cons_succ, List.append_nil, List.length_map, Bool.not_true, Bool.not_false, decide_true, decide_false, eq_self, ne_eq, not_false_eq_true, Int.reduceLT, Int.reduceLE, Int.reduceNeg, nat_lt0, now w1, h8, h7, h0, h1, Int.ofNat_lt, hm, hs.len_, (hs.ext hx hB).at_ k hm, hc]
      refine ret_bind (hf _ (List.getElem_mem hm) w1 hx) fun w2 hx2 => ?_
      cases hpk : q l[k] with
      | true =>
        simp only [↓X, ↓Y, V, U, Z, ↓Q, Tsl, Tarr, Ttk, Tfl, Tint, Tbool, Tbld, Tze, Tzel, Tcall, ↓reduceIte, Nat.reduceEqDiff, Nat.reduceAdd, Nat.add_zero, Nat.zero_add, Int.toNat_natCast, Int.natCast_nonneg, true_and, and_true, and_self, List.nil_append, List.cons_append, U2, List.getElem?_cons_zero, List.getElem?_cons_succ, List.append_nil, List.length_map, Bool.not_true, Bool.not_false, decide_true, decide_false, eq_self, ne_eq, not_false_eq_true, Int.reduceLT, Int.reduceLE, Int.reduceNeg, nat_lt0, now w2]
        exact ⟨by rw [fidx_found hm hpk hp], hx.trans hx2⟩
      | false =>
        simp only [↓X, ↓Y, V, U, Z, ↓Q, Tsl, Tarr, Ttk, Tfl, Tint, Tbool, Tbld, Tze, Tzel, Tcall, ↓reduceIte, Nat.reduceEqDiff, Nat.reduceAdd, Nat.add_zero, Nat.zero_add, Int.toNat_natCast, Int.natCast_nonneg, true_and, and_true, and_self, List.nil_append, List.cons_append, U2, List.getElem?_cons_zero, List.getElem?_cons_succ, List.append_nil, List.length_map, Bool.not_true, Bool.not_false, decide_true, decide_false, eq_self, ne_eq, not_false_eq_true, Int.reduceLT, Int.reduceLE, Int.reduceNeg, nat_lt0, now w2, h8, h7, h0, h1]
        refine ⟨m - 1, by omega, k + 1, by omega, by rw [wrap_succ hm hs.max_], fun j hj hjk => ?_, hx.trans hx2⟩
        rcases Nat.lt_or_eq_of_le (Nat.le_of_lt_succ hjk) with h | rfl
        · exact hp j hj h
        · exact hpk
    · simp only [↓X, ↓Y, V, U, Z, ↓Q, Tsl, Tarr, Ttk, Tfl, Tint, Tbool, Tbld, Tze, Tzel, Tcall, ↓reduceIte, Nat.reduceEqDiff, Nat.reduceAdd, Nat.add_zero, Nat.zero_add, Int.toNat_natCast, Int.natCast_nonneg, true_and, and_true, and_self, List.nil_append, List.cons_append, U2, List.getElem?_cons_zero, List.getElem?_cons_succ, List.append_nil, List.length_map, Bool.not_true, Bool.not_false, decide_true, decide_false, eq_self, ne_eq, not_false_eq_true, Int.reduceLT, Int.reduceLE, Int.reduceNeg, nat_lt0, now w1, h8, h7, Int.ofNat_lt, hm]
      exact ⟨by rw [fidx_none (fun j hj => hp j hj (by omega))], hx⟩
theorem indexFunc_Near {α : Type} {w : World} {B : Nat} {v : Value} {l : List α} {enc : α → Value} {cl : Nat} {caps : List Value} {q : α → Bool} (hB : B ≤ w.heap.size) (hs : Sl w B (some 2) 2 v (l.map enc)) (hc : callable Tryd.prog cl = true)
    (hf : ∀ x ∈ l, ∀ w', Ext w w' → Ret Tryd.prog cl (enc x :: caps).toArray w' (.bool (q x))) : Ret Tryd.prog 70 #[v, .func (.func cl) #[] caps.toArray] w (.int .i64 (fidx q l)) := by
  refine callsV_of Tryd.func70 rfl (by kernel_rfl) (by kernel_rfl) ?_
  rw [Tryd.results70]
  simp only [↓X, ↓Y, V, U, Z, ↓Q, Tsl, Tarr, Ttk, Tfl, Tint, Tbool, Tbld, Tze, Tzel, Tcall, ↓reduceIte, Nat.reduceEqDiff, Nat.reduceAdd, Nat.add_zero, Nat.zero_add, Int.toNat_natCast, Int.natCast_nonneg, true_and, and_true, and_self, List.nil_append, List.cons_append, U2, List.getElem?_cons_zero, List.getElem?_cons_succ, List.append_nil, List.length_map, Bool.not_true, Bool.not_false, decide_true, decide_false, eq_self, ne_eq, not_false_eq_true, Int.reduceLT, Int.reduceLE, Int.reduceNeg, nat_lt0, now w, hs.len_]
  refine loopX_intro (fun m g w' => ∃ k : Nat, k + m = l.length ∧ g 8 = .int .i64 k ∧ g 7 = .int .i64 l.length ∧ g 0 = v ∧ g 1 = .func (.func cl) #[] caps.toArray ∧ (∀ j (h : j < l.length), j < k → q l[j] = false) ∧ Ext w w') l.length (by kernel_rfl) ?_ ?_
  · refine ⟨0, by omega, ?_⟩
    simp only [↓X, ↓Y, V, U, Z, ↓Q, Tsl, Tarr, Ttk, Tfl, Tint, Tbool, Tbld, Tze, Tzel, Tcall, ↓reduceIte, Nat.reduceEqDiff, Nat.reduceAdd, Nat.add_zero, Nat.zero_add, Int.toNat_natCast, Int.natCast_nonneg, true_and, and_true, and_self, List.nil_append, List.cons_append, U2, List.getElem?_cons_zero, List.getElem?_cons_succ, List.append_nil, List.length_map, Bool.not_true, Bool.not_false, decide_true, decide_false, eq_self, ne_eq, not_false_eq_true, Int.reduceLT, Int.reduceLE, Int.reduceNeg, nat_lt0]
    exact ⟨rfl, fun j _ h => absurd h (by omega), Ext.refl w⟩
  · rintro m g w1 ⟨k, hk, h8, h7, h0, h1, hp, hx⟩
    by_cases hm : k < l.length
    · simp only [↓X, ↓Y, V, U, Z, ↓Q, Tsl, Tarr, Ttk, Tfl, Tint, Tbool, Tbld, Tze, Tzel, Tcall, ↓reduceIte, Nat.reduceEqDiff, Nat.reduceAdd, Nat.add_zero, Nat.zero_add, Int.toNat_natCast, Int.natCast_nonneg, true_and, and_true, and_self, List.nil_append, List.cons_append, U2, List.getElem?_cons_zero, List.getElem?_cons_succ, List.append_nil, List.length_map, Bool.not_true, Bool.not_false, decide_true, decide_false, eq_self, ne_eq, not_false_eq_true, Int.reduceLT, Int.reduceLE, Int.reduceNeg, nat_lt0, now w1, h8, h7, h0, h1, Int.ofNat_lt, hm, hs.len_, (hs.ext hx hB).at_ k hm, hc]
      refine ret_bind (hf _ (List.getElem_mem hm) w1 hx) fun w2 hx2 => ?_
      cases hpk : q l[k] with
      | true =>
        simp only [↓X, ↓Y, V, U, Z, ↓Q, Tsl, Tarr, Ttk, Tfl, Tint, Tbool, Tbld, Tze, Tzel, Tcall, ↓reduceIte, Nat.reduceEqDiff, Nat.reduceAdd, Nat.add_zero, Nat.zero_add, Int.toNat_natCast, Int.natCast_nonneg, true_and, and_true, and_self, List.nil_append, List.cons_append, U2, List.getElem?_cons_zero, List.getElem?_cons_succ, List.append_nil, List.length_map, Bool.not_true, Bool.not_false, decide_true, decide_false, eq_self, ne_eq, not_false_eq_true, Int.reduceLT, Int.reduceLE, Int.reduceNeg, nat_lt0, now w2]
        exact ⟨by rw [fidx_found hm hpk hp], hx.trans hx2⟩
      | false =>
        simp only [↓X, ↓Y, V, U, Z, ↓Q, Tsl, Tarr, Ttk, Tfl, Tint, Tbool, Tbld, Tze, Tzel, Tcall, ↓reduceIte, Nat.reduceEqDiff, Nat.reduceAdd, Nat.add_zero, Nat.zero_add, Int.toNat_natCast, Int.natCast_nonneg, true_and, and_true, and_self, List.nil_append, List.cons_append, U2, List.getElem?_cons_zero, List.getElem?_cons_succ, List.append_nil, List.length_map, Bool.not_true, Bool.not_false, decide_true, decide_false, eq_self, ne_eq, not_false_eq_true, Int.reduceLT, Int.reduceLE, Int.reduceNeg, nat_lt0, now w2, h8, h7, h0, h1]
        refine ⟨m - 1, by omega, k + 1, by omega, by rw [wrap_succ hm hs.max_], fun j hj hjk => ?_, hx.trans hx2⟩
        rcases Nat.lt_or_eq_of_le (Nat.le_of_lt_succ hjk) with h | rfl
        · exact hp j hj h
        · exact hpk
    · simp only [↓X, ↓Y, V, U, Z, ↓Q, Tsl, Tarr, Ttk, Tfl, Tint, Tbool, Tbld, Tze, Tzel, Tcall, ↓reduceIte, Nat.reduceEqDiff, Nat.reduceAdd, Nat.add_zero, Nat.zero_add, Int.toNat_natCast, Int.natCast_nonneg, true_and, and_true, and_self, List.nil_append, List.cons_append, U2, List.getElem?_cons_zero, List.getElem?_cons_succ, List.append_nil, List.length_map, Bool.not_true, Bool.not_false, decide_true, decide_false, eq_self, ne_eq, not_false_eq_true, Int.reduceLT, Int.reduceLE, Int.reduceNeg, nat_lt0, now w1, h8, h7, Int.ofNat_lt, hm]
      exact ⟨by rw [fidx_none (fun j hj => hp j hj (by omega))], hx⟩
theorem indexFunc_Replica {α : Type} {w : World} {B : Nat} {v : Value} {l : List α} {enc : α → Value} {cl : Nat} {caps : List Value} {q : α → Bool} (hB : B ≤ w.heap.size) (hs : Sl w B (some 2) 2 v (l.map enc)) (hc : callable Tryd.prog cl = true)
    (hf : ∀ x ∈ l, ∀ w', Ext w w' → Ret Tryd.prog cl (enc x :: caps).toArray w' (.bool (q x))) : Ret Tryd.prog 93 #[v, .func (.func cl) #[] caps.toArray] w (.int .i64 (fidx q l)) := by
  refine callsV_of Tryd.func93 rfl (by kernel_rfl) (by kernel_rfl) ?_
  rw [Tryd.results93]
  simp only [↓X, ↓Y, V, U, Z, ↓Q, Tsl, Tarr, Ttk, Tfl, Tint, Tbool, Tbld, Tze, Tzel, Tcall, ↓reduceIte, Nat.reduceEqDiff, Nat.reduceAdd, Nat.add_zero, Nat.zero_add, Int.toNat_natCast, Int.natCast_nonneg, true_and, and_true, and_self, List.nil_append, List.cons_append, U2, List.getElem?_cons_zero, List.getElem?_cons_succ, List.append_nil, List.length_map, Bool.not_true, Bool.not_false, decide_true, decide_false, eq_self, ne_eq, not_false_eq_true, Int.reduceLT, Int.reduceLE, Int.reduceNeg, nat_lt0, now w, hs.len_]
  refine loopX_intro (fun m g w' => ∃ k : Nat, k + m = l.length ∧ g 8 = .int .i64 k ∧ g 7 = .int .i64 l.length ∧ g 0 = v ∧ g 1 = .func (.func cl) #[] caps.toArray ∧ (∀ j (h : j < l.length), j < k → q l[j] = false) ∧ Ext w w') l.length (by kernel_rfl) ?_ ?_
  · refine ⟨0, by omega, ?_⟩
    simp only [↓X, ↓Y, V, U, Z, ↓Q, Tsl, Tarr, Ttk, Tfl, Tint, Tbool, Tbld, Tze, Tzel, Tcall, ↓reduceIte, Nat.reduceEqDiff, Nat.reduceAdd, Nat.add_zero, Nat.zero_add, Int.toNat_natCast, Int.natCast_nonneg, true_and, and_true, and_self, List.nil_append, List.cons_append, U2, List.getElem?_cons_zero, List.getElem?_cons_succ, List.append_nil, List.length_map, Bool.not_true, Bool.not_false, decide_true, decide_false, eq_self, ne_eq, not_false_eq_true, Int.reduceLT, Int.reduceLE, Int.reduceNeg, nat_lt0]
    exact ⟨rfl, fun j _ h => absurd h (by omega), Ext.refl w⟩
  · rintro m g w1 ⟨k, hk, h8, h7, h0, h1, hp, hx⟩
    by_cases hm : k < l.length
    · simp only [↓X, ↓Y, V, U, Z, ↓Q, Tsl, Tarr, Ttk, Tfl, Tint, Tbool, Tbld, Tze, Tzel, Tcall, ↓reduceIte, Nat.reduceEqDiff, Nat.reduceAdd, Nat.add_zero, Nat.zero_add, Int.toNat_natCast, Int.natCast_nonneg, true_and, and_true, and_self, List.nil_append, List.cons_append, U2, List.getElem?_cons_zero, List.getElem?_cons_succ, List.append_nil, List.length_map, Bool.not_true, Bool.not_false, decide_true, decide_false, eq_self, ne_eq, not_false_eq_true, Int.reduceLT, Int.reduceLE, Int.reduceNeg, nat_lt0, now w1, h8, h7, h0, h1, Int.ofNat_lt, hm, hs.len_, (hs.ext hx hB).at_ k hm, hc]
      refine ret_bind (hf _ (List.getElem_mem hm) w1 hx) fun w2 hx2 => ?_
      cases hpk : q l[k] with
      | true =>
        simp only [↓X, ↓Y, V, U, Z, ↓Q, Tsl, Tarr, Ttk, Tfl, Tint, Tbool, Tbld, Tze, Tzel, Tcall, ↓reduceIte, Nat.reduceEqDiff, Nat.reduceAdd, Nat.add_zero, Nat.zero_add, Int.toNat_natCast, Int.natCast_nonneg, true_and, and_true, and_self, List.nil_append, List.cons_append, U2, List.getElem?_cons_zero, List.getElem?_cons_succ, List.append_nil, List.length_map, Bool.not_true, Bool.not_false, decide_true, decide_false, eq_self, ne_eq, not_false_eq_true, Int.reduceLT, Int.reduceLE, Int.reduceNeg, nat_lt0, now w2]
        exact ⟨by rw [fidx_found hm hpk hp], hx.trans hx2⟩
      | false =>
        simp only [↓X, ↓Y, V, U, Z, ↓Q, Tsl, Tarr, Ttk, Tfl, Tint, Tbool, Tbld, Tze, Tzel, Tcall, ↓reduceIte, Nat.reduceEqDiff, Nat.reduceAdd, Nat.add_zero, Nat.zero_add, Int.toNat_natCast, Int.natCast_nonneg, true_and, and_true, and_self, List.nil_append, List.cons_append, U2, List.getElem?_cons_zero, List.getElem?_cons_succ, List.append_nil, List.length_map, Bool.not_true, Bool.not_false, decide_true, decide_false, eq_self, ne_eq, not_false_eq_true, Int.reduceLT, Int.reduceLE, Int.reduceNeg, nat_lt0, now w2, h8, h7, h0, h1]
        refine ⟨m - 1, by omega, k + 1, by omega, by rw [wrap_succ hm hs.max_], fun j hj hjk => ?_, hx.trans hx2⟩
        rcases Nat.lt_or_eq_of_le (Nat.le_of_lt_succ hjk) with h | rfl
        · exact hp j hj h
        · exact hpk
    · simp only [↓X, ↓Y, V, U, Z, ↓Q, Tsl, Tarr, Ttk, Tfl, Tint, Tbool, Tbld, Tze, Tzel, Tcall, ↓reduceIte, Nat.reduceEqDiff, Nat.reduceAdd, Nat.add_zero, Nat.zero_add, Int.toNat_natCast, Int.natCast_nonneg, true_and, and_true, and_self, List.nil_append, List.cons_append, U2, List.getElem?_cons_zero, List.getElem?_cons_succ, List.append_nil, List.length_map, Bool.not_true, Bool.not_false, decide_true, decide_false, eq_self, ne_eq, not_false_eq_true, Int.reduceLT, Int.reduceLE, Int.reduceNeg, nat_lt0, now w1, h8, h7, Int.ofNat_lt, hm]
      exact ⟨by rw [fidx_none (fun j hj => hp j hj (by omega))], hx⟩
theorem containsFunc_Step {α : Type} {w : World} {B : Nat} {v : Value} {l : List α} {enc : α → Value} {cl : Nat} {caps : List Value} {q : α → Bool} (hB : B ≤ w.heap.size) (hs : Sl w B (some 4) 4 v (l.map enc)) (hc : callable Tryd.prog cl = true)
    (hf : ∀ x ∈ l, ∀ w', Ext w w' → Ret Tryd.prog cl (enc x :: caps).toArray w' (.bool (q x))) : Ret Tryd.prog 27 #[v, .func (.func cl) #[] caps.toArray] w (.bool (l.any q)) := by
  refine callsV_of Tryd.func27 rfl (by kernel_rfl) (by kernel_rfl) ?_
  rw [Tryd.results27]
  simp only [↓X, ↓Y, V, U, Z, ↓Q, Tsl, Tarr, Ttk, Tfl, Tint, Tbool, Tbld, Tze, Tzel, Tcall, ↓reduceIte, Nat.reduceEqDiff, Nat.reduceAdd, Nat.add_zero, Nat.zero_add, Int.toNat_natCast, Int.natCast_nonneg, true_and, and_true, and_self, List.nil_append, List.cons_append, U2, List.getElem?_cons_zero, List.getElem?_cons_succ, List.append_nil, List.length_map, Bool.not_true, Bool.not_false, decide_true, decide_false, eq_self, ne_eq, not_false_eq_true, Int.reduceLT, Int.reduceLE, Int.reduceNeg, nat_lt0, now w]
  refine ret_bind (indexFunc_Step hB hs hc hf) fun w1 hx => ?_
  simp only [↓X, ↓Y, V, U, Z, ↓Q, Tsl, Tarr, Ttk, Tfl, Tint, Tbool, Tbld, Tze, Tzel, Tcall, ↓reduceIte, Nat.reduceEqDiff, Nat.reduceAdd, Nat.add_zero, Nat.zero_add, Int.toNat_natCast, Int.natCast_nonneg, true_and, and_true, and_self, List.nil_append, List.cons_append, U2, List.getElem?_cons_zero, List.getElem?_cons_succ, List.append_nil, List.length_map, Bool.not_true, Bool.not_false, decide_true, decide_false, eq_self, ne_eq, not_false_eq_true, Int.reduceLT, Int.reduceLE, Int.reduceNeg, nat_lt0, now w1]
  exact ⟨by rw [fidx_any], hx⟩
theorem containsNot_Step {α : Type} {w : World} {B : Nat} {v : Value} {l : List α} {enc : α → Value} {cl : Nat} {caps : List Value} {q : α → Bool} (hB : B ≤ w.heap.size) (hs : Sl w B (some 4) 4 v (l.map enc)) (hc : callable Tryd.prog cl = true)
    (hf : ∀ x ∈ l, ∀ w', Ext w w' → Ret Tryd.prog cl (enc x :: caps).toArray w' (.bool (!q x))) : Ret Tryd.prog 27 #[v, .func (.func cl) #[] caps.toArray] w (.bool (!l.all q)) := by
  have := containsFunc_Step hB hs hc hf
  rwa [any_not_all] at this
theorem containsFunc_Feed {α : Type} {w : World} {B : Nat} {v : Value} {l : List α} {enc : α → Value} {cl : Nat} {caps : List Value} {q : α → Bool} (hB : B ≤ w.heap.size) (hs : Sl w B (some 1) 1 v (l.map enc)) (hc : callable Tryd.prog cl = true)
    (hf : ∀ x ∈ l, ∀ w', Ext w w' → Ret Tryd.prog cl (enc x :: caps).toArray w' (.bool (q x))) : Ret Tryd.prog 41 #[v, .func (.func cl) #[] caps.toArray] w (.bool (l.any q)) := by
  refine callsV_of Tryd.func41 rfl (by kernel_rfl) (by kernel_rfl) ?_
  rw [Tryd.results41]
  simp only [↓X, ↓Y, V, U, Z, ↓Q, Tsl, Tarr, Ttk, Tfl, Tint, Tbool, Tbld, Tze, Tzel, Tcall, ↓reduceIte, Nat.reduceEqDiff, Nat.reduceAdd, Nat.add_zero, Nat.zero_add, Int.toNat_natCast, Int.natCast_nonneg, true_and, and_true, and_self, List.nil_append, List.cons_append, U2, List.getElem?_cons_zero, List.getElem?_cons_succ, List.append_nil, List.length_map, Bool.not_true, Bool.not_false, decide_true, decide_false, eq_self, ne_eq, not_false_eq_true, Int.reduceLT, Int.reduceLE, Int.reduceNeg, nat_lt0, now w]
  refine ret_bind (indexFunc_Feed hB hs hc hf) fun w1 hx => ?_
  simp only [↓X, ↓Y, V, U, Z, ↓Q, Tsl, Tarr, Ttk, Tfl, Tint, Tbool, Tbld, Tze, Tzel, Tcall, ↓reduceIte, Nat.reduceEqDiff, Nat.reduceAdd, Nat.add_zero, Nat.zero_add, Int.toNat_natCast, Int.natCast_nonneg, true_and, and_true, and_self, List.nil_append, List.cons_append, U2, List.getElem?_cons_zero, List.getElem?_cons_succ, List.append_nil, List.length_map, Bool.not_true, Bool.not_false, decide_true, decide_false, eq_self, ne_eq, not_false_eq_true, Int.reduceLT, Int.reduceLE, Int.reduceNeg, nat_lt0, now w1]
  exact ⟨by rw [fidx_any], hx⟩
theorem containsNot_Feed {α : Type} {w : World} {B : Nat} {v : Value} {l : List α} {enc : α → Value} {cl : Nat} {caps : List Value} {q : α → Bool} (hB : B ≤ w.heap.size) (hs : Sl w B (some 1) 1 v (l.map enc)) (hc : callable Tryd.prog cl = true)
    (hf : ∀ x ∈ l, ∀ w', Ext w w' → Ret Tryd.prog cl (enc x :: caps).toArray w' (.bool (!q x))) : Ret Tryd.prog 41 #[v, .func (.func cl) #[] caps.toArray] w (.bool (!l.all q)) := by
  have := containsFunc_Feed hB hs hc hf
  rwa [any_not_all] at this
theorem containsFunc_Breaker {α : Type} {w : World} {B : Nat} {v : Value} {l : List α} {enc : α → Value} {cl : Nat} {caps : List Value} {q : α → Bool} (hB : B ≤ w.heap.size) (hs : Sl w B (some 4) 4 v (l.map enc)) (hc : callable Tryd.prog cl = true)
    (hf : ∀ x ∈ l, ∀ w', Ext w w' → Ret Tryd.prog cl (enc x :: caps).toArray w' (.bool (q x))) : Ret Tryd.prog 42 #[v, .func (.func cl) #[] caps.toArray] w (.bool (l.any q)) := by
  refine callsV_of Tryd.func42 rfl (by kernel_rfl) (by kernel_rfl) ?_
  rw [Tryd.results42]
  simp only [↓X, ↓Y, V, U, Z, ↓Q, Tsl, Tarr, Ttk, Tfl, Tint, Tbool, Tbld, Tze, Tzel, Tcall, ↓reduceIte, Nat.reduceEqDiff, Nat.reduceAdd, Nat.add_zero, Nat.zero_add, Int.toNat_natCast, Int.natCast_nonneg, true_and, and_true, and_self, List.nil_append, List.cons_append, U2, List.getElem?_cons_zero, List.getElem?_cons_succ, List.append_nil, List.length_map, Bool.not_true, Bool.not_false, decide_true, decide_false, eq_self, ne_eq, not_false_eq_true, Int.reduceLT, Int.reduceLE, Int.reduceNeg, nat_lt0, now w]
  refine ret_bind (indexFunc_Breaker hB hs hc hf) fun w1 hx => ?_
  simp only [↓X, ↓Y, V, U, Z, ↓Q, Tsl, Tarr, Ttk, Tfl, Tint, Tbool, Tbld, Tze, Tzel, Tcall, ↓reduceIte, Nat.reduceEqDiff, Nat.reduceAdd, Nat.add_zero, Nat.zero_add, Int.toNat_natCast, Int.natCast_nonneg, true_and, and_true, and_self, List.nil_append, List.cons_append, U2, List.getElem?_cons_zero, List.getElem?_cons_succ, List.append_nil, List.length_map, Bool.not_true, Bool.not_false, decide_true, decide_false, eq_self, ne_eq, not_false_eq_true, Int.reduceLT, Int.reduceLE, Int.reduceNeg, nat_lt0, now w1]
  exact ⟨by rw [fidx_any], hx⟩
theorem containsNot_Breaker {α : Type} {w : World} {B : Nat} {v : Value} {l : List α} {enc : α → Value} {cl : Nat} {caps : List Value} {q : α → Bool} (hB : B ≤ w.heap.size) (hs : Sl w B (some 4) 4 v (l.map enc)) (hc : callable Tryd.prog cl = true)
    (hf : ∀ x ∈ l, ∀ w', Ext w w' → Ret Tryd.prog cl (enc x :: caps).toArray w' (.bool (!q x))) : Ret Tryd.prog 42 #[v, .func (.func cl) #[] caps.toArray] w (.bool (!l.all q)) := by
  have := containsFunc_Breaker hB hs hc hf
  rwa [any_not_all] at this
theorem containsFunc_Loop {α : Type} {w : World} {B : Nat} {v : Value} {l : List α} {enc : α → Value} {cl : Nat} {caps : List Value} {q : α → Bool} (hB : B ≤ w.heap.size) (hs : Sl w B (some 2) 2 v (l.map enc)) (hc : callable Tryd.prog cl = true)
    (hf : ∀ x ∈ l, ∀ w', Ext w w' → Ret Tryd.prog cl (enc x :: caps).toArray w' (.bool (q x))) : Ret Tryd.prog 43 #[v, .func (.func cl) #[] caps.toArray] w (.bool (l.any q)) := by
  refine callsV_of Tryd.func43 rfl (by kernel_rfl) (by kernel_rfl) ?_
  rw [Tryd.results43]
  simp only [↓X, ↓Y, V, U, Z, ↓Q, Tsl, Tarr, Ttk, Tfl, Tint, Tbool, Tbld, Tze, Tzel, Tcall, ↓reduceIte, Nat.reduceEqDiff, Nat.reduceAdd, Nat.add_zero, Nat.zero_add, Int.toNat_natCast, Int.natCast_nonneg, true_and, and_true, and_self, List.nil_append, List.cons_append, U2, List.getElem?_cons_zero, List.getElem?_cons_succ, List.append_nil, List.length_map, Bool.not_true, Bool.not_false, decide_true, decide_false, eq_self, ne_eq, not_false_eq_true, Int.reduceLT, Int.reduceLE, Int.reduceNeg, nat_lt0, now w]
  refine ret_bind (indexFunc_Loop hB hs hc hf) fun w1 hx => ?_
  simp only [↓X, ↓Y, V, U, Z, ↓Q, Tsl, Tarr, Ttk, Tfl, Tint, Tbool, Tbld, Tze, Tzel, Tcall, ↓reduceIte, Nat.reduceEqDiff, Nat.reduceAdd, Nat.add_zero, Nat.zero_add, Int.toNat_natCast, Int.natCast_nonneg, true_and, and_true, and_self, List.nil_append, List.cons_append, U2, List.getElem?_cons_zero, List.getElem?_cons_succ, List.append_nil, List.length_map, Bool.not_true, Bool.not_false, decide_true, decide_false, eq_self, ne_eq, not_false_eq_true, Int.reduceLT, Int.reduceLE, Int.reduceNeg, nat_lt0, now w1]
  exact ⟨by rw [fidx_any], hx⟩
theorem containsNot_Loop {α : Type} {w : World} {B : Nat} {v : Value} {l : List α} {enc : α → Value} {cl : Nat} {caps : List Value} {q : α → Bool} (hB : B ≤ w.heap.size) (hs : Sl w B (some 2) 2 v (l.map enc)) (hc : callable Tryd.prog cl = true)
    (hf : ∀ x ∈ l, ∀ w', Ext w w' → Ret Tryd.prog cl (enc x :: caps).toArray w' (.bool (!q x))) : Ret Tryd.prog 43 #[v, .func (.func cl) #[] caps.toArray] w (.bool (!l.all q)) := by
  have := containsFunc_Loop hB hs hc hf
  rwa [any_not_all] at this
theorem containsFunc_Rack {α : Type} {w : World} {B : Nat} {v : Value} {l : List α} {enc : α → Value} {cl : Nat} {caps : List Value} {q : α → Bool} (hB : B ≤ w.heap.size) (hs : Sl w B (some 4) 4 v (l.map enc)) (hc : callable Tryd.prog cl = true)
    (hf : ∀ x ∈ l, ∀ w', Ext w w' → Ret Tryd.prog cl (enc x :: caps).toArray w' (.bool (q x))) : Ret Tryd.prog 44 #[v, .func (.func cl) #[] caps.toArray] w (.bool (l.any q)) := by
  refine callsV_of Tryd.func44 rfl (by kernel_rfl) (by kernel_rfl) ?_
  rw [Tryd.results44]
  simp only [↓X, ↓Y, V, U, Z, ↓Q, Tsl, Tarr, Ttk, Tfl, Tint, Tbool, Tbld, Tze, Tzel, Tcall, ↓reduceIte, Nat.reduceEqDiff, Nat.reduceAdd, Nat.add_zero, Nat.zero_add, Int.toNat_natCast, Int.natCast_nonneg, true_and, and_true, and_self, List.nil_append, List.cons_append, U2, List.getElem?_cons_zero, List.getElem?_cons_succ, List.append_nil, List.length_map, Bool.not_true, Bool.not_false, decide_true, decide_false, eq_self, ne_eq, not_false_eq_true, Int.reduceLT, Int.reduceLE, Int.reduceNeg, nat_lt0, now w]
  refine ret_bind (indexFunc_Rack hB hs hc hf) fun w1 hx => ?_
  simp only [↓X, ↓Y, V, U, Z, ↓Q, Tsl, Tarr, Ttk, Tfl, Tint, Tbool, Tbld, Tze, Tzel, Tcall, ↓reduceIte, Nat.reduceEqDiff, Nat.reduceAdd, Nat.add_zero, Nat.zero_add, Int.toNat_natCast, Int.natCast_nonneg, true_and, and_true, and_self, List.nil_append, List.cons_append, U2, List.getElem?_cons_zero, List.getElem?_cons_succ, List.append_nil, List.length_map, Bool.not_true, Bool.not_false, decide_true, decide_false, eq_self, ne_eq, not_false_eq_true, Int.reduceLT, Int.reduceLE, Int.reduceNeg, nat_lt0, now w1]
  exact ⟨by rw [fidx_any], hx⟩
theorem containsNot_Rack {α : Type} {w : World} {B : Nat} {v : Value} {l : List α} {enc : α → Value} {cl : Nat} {caps : List Value} {q : α → Bool} (hB : B ≤ w.heap.size) (hs : Sl w B (some 4) 4 v (l.map enc)) (hc : callable Tryd.prog cl = true)
    (hf : ∀ x ∈ l, ∀ w', Ext w w' → Ret Tryd.prog cl (enc x :: caps).toArray w' (.bool (!q x))) : Ret Tryd.prog 44 #[v, .func (.func cl) #[] caps.toArray] w (.bool (!l.all q)) := by
  have := containsFunc_Rack hB hs hc hf
  rwa [any_not_all] at this
theorem containsFunc_Link {α : Type} {w : World} {B : Nat} {v : Value} {l : List α} {enc : α → Value} {cl : Nat} {caps : List Value} {q : α → Bool} (hB : B ≤ w.heap.size) (hs : Sl w B (some 3) 3 v (l.map enc)) (hc : callable Tryd.prog cl = true)
    (hf : ∀ x ∈ l, ∀ w', Ext w w' → Ret Tryd.prog cl (enc x :: caps).toArray w' (.bool (q x))) : Ret Tryd.prog 45 #[v, .func (.func cl) #[] caps.toArray] w (.bool (l.any q)) := by
  refine callsV_of Tryd.func45 rfl (by kernel_rfl) (by kernel_rfl) ?_
  rw [Tryd.results45]
  simp only [↓X, ↓Y, V, U, Z, ↓Q, Tsl, Tarr, Ttk, Tfl, Tint, Tbool, Tbld, Tze, Tzel, Tcall, ↓reduceIte, Nat.reduceEqDiff, Nat.reduceAdd, Nat.add_zero, Nat.zero_add, Int.toNat_natCast, Int.natCast_nonneg, true_and, and_true, and_self, List.nil_append, List.cons_append, U2, List.getElem?_cons_zero, List.getElem?_cons_succ, List.append_nil, List.length_map, Bool.not_true, Bool.not_false, decide_true, decide_false, eq_self, ne_eq, not_false_eq_true, Int.reduceLT, Int.reduceLE, Int.reduceNeg, nat_lt0, now w]
  refine ret_bind (indexFunc_Link hB hs hc hf) fun w1 hx => ?_
  simp only [↓X, ↓Y, V, U, Z, ↓Q, Tsl, Tarr, Ttk, Tfl, Tint, Tbool, Tbld, Tze, Tzel, Tcall, ↓reduceIte, Nat.reduceEqDiff, Nat.reduceAdd, Nat.add_zero, Nat.zero_add, Int.toNat_natCast, Int.natCast_nonneg, true_and, and_true, and_self, List.nil_append, List.cons_append, U2, List.getElem?_cons_zero, List.getElem?_cons_succ, List.append_nil, List.length_map, Bool.not_true, Bool.not_false, decide_true, decide_false, eq_self, ne_eq, not_false_eq_true, Int.reduceLT, Int.reduceLE, Int.reduceNeg, nat_lt0, now w1]
  exact ⟨by rw [fidx_any], hx⟩
theorem containsNot_Link {α : Type} {w : World} {B : Nat} {v : Value} {l : List α} {enc : α → Value} {cl : Nat} {caps : List Value} {q : α → Bool} (hB : B ≤ w.heap.size) (hs : Sl w B (some 3) 3 v (l.map enc)) (hc : callable Tryd.prog cl = true)
    (hf : ∀ x ∈ l, ∀ w', Ext w w' → Ret Tryd.prog cl (enc x :: caps).toArray w' (.bool (!q x))) : Ret Tryd.prog 45 #[v, .func (.func cl) #[] caps.toArray] w (.bool (!l.all q)) := by
  have := containsFunc_Link hB hs hc hf
  rwa [any_not_all] at this
theorem containsFunc_Host {α : Type} {w : World} {B : Nat} {v : Value} {l : List α} {enc : α → Value} {cl : Nat} {caps : List Value} {q : α → Bool} (hB : B ≤ w.heap.size) (hs : Sl w B (some 4) 4 v (l.map enc)) (hc : callable Tryd.prog cl = true)
    (hf : ∀ x ∈ l, ∀ w', Ext w w' → Ret Tryd.prog cl (enc x :: caps).toArray w' (.bool (q x))) : Ret Tryd.prog 46 #[v, .func (.func cl) #[] caps.toArray] w (.bool (l.any q)) := by
  refine callsV_of Tryd.func46 rfl (by kernel_rfl) (by kernel_rfl) ?_
  rw [Tryd.results46]
  simp only [↓X, ↓Y, V, U, Z, ↓Q, Tsl, Tarr, Ttk, Tfl, Tint, Tbool, Tbld, Tze, Tzel, Tcall, ↓reduceIte, Nat.reduceEqDiff, Nat.reduceAdd, Nat.add_zero, Nat.zero_add, Int.toNat_natCast, Int.natCast_nonneg, true_and, and_true, and_self, List.nil_append, List.cons_append, U2, List.getElem?_cons_zero, List.getElem?_cons_succ, List.append_nil, List.length_map, Bool.not_true, Bool.not_false, decide_true, decide_false, eq_self, ne_eq, not_false_eq_true, Int.reduceLT, Int.reduceLE, Int.reduceNeg, nat_lt0, now w]
  refine ret_bind (indexFunc_Host hB hs hc hf) fun w1 hx => ?_
  simp only [↓X, ↓Y, V, U, Z, ↓Q, Tsl, Tarr, Ttk, Tfl, Tint, Tbool, Tbld, Tze, Tzel, Tcall, ↓reduceIte, Nat.reduceEqDiff, Nat.reduceAdd, Nat.add_zero, Nat.zero_add, Int.toNat_natCast, Int.natCast_nonneg, true_and, and_true, and_self, List.nil_append, List.cons_append, U2, List.getElem?_cons_zero, List.getElem?_cons_succ, List.append_nil, List.length_map, Bool.not_true, Bool.not_false, decide_true, decide_false, eq_self, ne_eq, not_false_eq_true, Int.reduceLT, Int.reduceLE, Int.reduceNeg, nat_lt0, now w1]
  exact ⟨by rw [fidx_any], hx⟩
theorem containsNot_Host {α : Type} {w : World} {B : Nat} {v : Value} {l : List α} {enc : α → Value} {cl : Nat} {caps : List Value} {q : α → Bool} (hB : B ≤ w.heap.size) (hs : Sl w B (some 4) 4 v (l.map enc)) (hc : callable Tryd.prog cl = true)
    (hf : ∀ x ∈ l, ∀ w', Ext w w' → Ret Tryd.prog cl (enc x :: caps).toArray w' (.bool (!q x))) : Ret Tryd.prog 46 #[v, .func (.func cl) #[] caps.toArray] w (.bool (!l.all q)) := by
  have := containsFunc_Host hB hs hc hf
  rwa [any_not_all] at this
theorem containsFunc_Near {α : Type} {w : World} {B : Nat} {v : Value} {l : List α} {enc : α → Value} {cl : Nat} {caps : List Value} {q : α → Bool} (hB : B ≤ w.heap.size) (hs : Sl w B (some 2) 2 v (l.map enc)) (hc : callable Tryd.prog cl = true)
    (hf : ∀ x ∈ l, ∀ w', Ext w w' → Ret Tryd.prog cl (enc x :: caps).toArray w' (.bool (q x))) : Ret Tryd.prog 53 #[v, .func (.func cl) #[] caps.toArray] w (.bool (l.any q)) := by
  refine callsV_of Tryd.func53 rfl (by kernel_rfl) (by kernel_rfl) ?_
  rw [Tryd.results53]
  simp only [↓X, ↓Y, V, U, Z, ↓Q, Tsl, Tarr, Ttk, Tfl, Tint, Tbool, Tbld, Tze, Tzel, Tcall, ↓reduceIte, Nat.reduceEqDiff, Nat.reduceAdd, Nat.add_zero, Nat.zero_add, Int.toNat_natCast, Int.natCast_nonneg, true_and, and_true, and_self, List.nil_append, List.cons_append, U2, List.getElem?_cons_zero, List.getElem?_cons_succ, List.append_nil, List.length_map, Bool.not_true, Bool.not_false, decide_true, decide_false, eq_self, ne_eq, not_false_eq_true, Int.reduceLT, Int.reduceLE, Int.reduceNeg, nat_lt0, now w]
  refine ret_bind (indexFunc_Near hB hs hc hf) fun w1 hx => ?_
  simp only [↓X, ↓Y, V, U, Z, ↓Q, Tsl, Tarr, Ttk, Tfl, Tint, Tbool, Tbld, Tze, Tzel, Tcall, ↓reduceIte, Nat.reduceEqDiff, Nat.reduceAdd, Nat.add_zero, Nat.zero_add, Int.toNat_natCast, Int.natCast_nonneg, true_and, and_true, and_self, List.nil_append, List.cons_append, U2, List.getElem?_cons_zero, List.getElem?_cons_succ, List.append_nil, List.length_map, Bool.not_true, Bool.not_false, decide_true, decide_false, eq_self, ne_eq, not_false_eq_true, Int.reduceLT, Int.reduceLE, Int.reduceNeg, nat_lt0, now w1]
  exact ⟨by rw [fidx_any], hx⟩
theorem containsNot_Near {α : Type} {w : World} {B : Nat} {v : Value} {l : List α} {enc : α → Value} {cl : Nat} {caps : List Value} {q : α → Bool} (hB : B ≤ w.heap.size) (hs : Sl w B (some 2) 2 v (l.map enc)) (hc : callable Tryd.prog cl = true)
    (hf : ∀ x ∈ l, ∀ w', Ext w w' → Ret Tryd.prog cl (enc x :: caps).toArray w' (.bool (!q x))) : Ret Tryd.prog 53 #[v, .func (.func cl) #[] caps.toArray] w (.bool (!l.all q)) := by
  have := containsFunc_Near hB hs hc hf
  rwa [any_not_all] at this
theorem containsFunc_int {α : Type} {w : World} {B : Nat} {v : Value} {l : List α} {enc : α → Value} {cl : Nat} {caps : List Value} {q : α → Bool} (hB : B ≤ w.heap.size) (hs : Sl w B none 1 v (l.map enc)) (hc : callable Tryd.prog cl = true)
    (hf : ∀ x ∈ l, ∀ w', Ext w w' → Ret Tryd.prog cl (enc x :: caps).toArray w' (.bool (q x))) : Ret Tryd.prog 57 #[v, .func (.func cl) #[] caps.toArray] w (.bool (l.any q)) := by
  refine callsV_of Tryd.func57 rfl (by kernel_rfl) (by kernel_rfl) ?_
  rw [Tryd.results57]
  simp only [↓X, ↓Y, V, U, Z, ↓Q, Tsl, Tarr, Ttk, Tfl, Tint, Tbool, Tbld, Tze, Tzel, Tcall, ↓reduceIte, Nat.reduceEqDiff, Nat.reduceAdd, Nat.add_zero, Nat.zero_add, Int.toNat_natCast, Int.natCast_nonneg, true_and, and_true, and_self, List.nil_append, List.cons_append, U2, List.getElem?_cons_zero, List.getElem?_cons_succ, List.append_nil, List.length_map, Bool.not_true, Bool.not_false, decide_true, decide_false, eq_self, ne_eq, not_false_eq_true, Int.reduceLT, Int.reduceLE, Int.reduceNeg, nat_lt0, now w]
  refine ret_bind (indexFunc_int hB hs hc hf) fun w1 hx => ?_
  simp only [↓X, ↓Y, V, U, Z, ↓Q, Tsl, Tarr, Ttk, Tfl, Tint, Tbool, Tbld, Tze, Tzel, Tcall, ↓reduceIte, Nat.reduceEqDiff, Nat.reduceAdd, Nat.add_zero, Nat.zero_add, Int.toNat_natCast, Int.natCast_nonneg, true_and, and_true, and_self, List.nil_append, List.cons_append, U2, List.getElem?_cons_zero, List.getElem?_cons_succ, List.append_nil, List.length_map, Bool.not_true, Bool.not_false, decide_true, decide_false, eq_self, ne_eq, not_false_eq_true, Int.reduceLT, Int.reduceLE, Int.reduceNeg, nat_lt0, now w1]
  exact ⟨by rw [fidx_any], hx⟩
theorem containsNot_int {α : Type} {w : World} {B : Nat} {v : Value} {l : List α} {enc : α → Value} {cl : Nat} {caps : List Value} {q : α → Bool} (hB : B ≤ w.heap.size) (hs : Sl w B none 1 v (l.map enc)) (hc : callable Tryd.prog cl = true)
    (hf : ∀ x ∈ l, ∀ w', Ext w w' → Ret Tryd.prog cl (enc x :: caps).toArray w' (.bool (!q x))) : Ret Tryd.prog 57 #[v, .func (.func cl) #[] caps.toArray] w (.bool (!l.all q)) := by
  have := containsFunc_int hB hs hc hf
  rwa [any_not_all] at this
theorem containsFunc_Replica {α : Type} {w : World} {B : Nat} {v : Value} {l : List α} {enc : α → Value} {cl : Nat} {caps : List Value} {q : α → Bool} (hB : B ≤ w.heap.size) (hs : Sl w B (some 2) 2 v (l.map enc)) (hc : callable Tryd.prog cl = true)
    (hf : ∀ x ∈ l, ∀ w', Ext w w' → Ret Tryd.prog cl (enc x :: caps).toArray w' (.bool (q x))) : Ret Tryd.prog 87 #[v, .func (.func cl) #[] caps.toArray] w (.bool (l.any q)) := by
  refine callsV_of Tryd.func87 rfl (by kernel_rfl) (by kernel_rfl) ?_
  rw [Tryd.results87]
  simp only [↓X, ↓Y, V, U, Z, ↓Q, Tsl, Tarr, Ttk, Tfl, Tint, Tbool, Tbld, Tze, Tzel, Tcall, ↓reduceIte, Nat.reduceEqDiff, Nat.reduceAdd, Nat.add_zero, Nat.zero_add, Int.toNat_natCast, Int.natCast_nonneg, true_and, and_true, and_self, List.nil_append, List.cons_append, U2, List.getElem?_cons_zero, List.getElem?_cons_succ, List.append_nil, List.length_map, Bool.not_true, Bool.not_false, decide_true, decide_false, eq_self, ne_eq, not_false_eq_true, Int.reduceLT, Int.reduceLE, Int.reduceNeg, nat_lt0, now w]
  refine ret_bind (indexFunc_Replica hB hs hc hf) fun w1 hx => ?_
  simp only [↓X, ↓Y, V, U, Z, ↓Q, Tsl, Tarr, Ttk, Tfl, Tint, Tbool, Tbld, Tze, Tzel, Tcall, ↓reduceIte, Nat.reduceEqDiff, Nat.reduceAdd, Nat.add_zero, Nat.zero_add, Int.toNat_natCast, Int.natCast_nonneg, true_and, and_true, and_self, List.nil_append, List.cons_append, U2, List.getElem?_cons_zero, List.getElem?_cons_succ, List.append_nil, List.length_map, Bool.not_true, Bool.not_false, decide_true, decide_false, eq_self, ne_eq, not_false_eq_true, Int.reduceLT, Int.reduceLE, Int.reduceNeg, nat_lt0, now w1]
  exact ⟨by rw [fidx_any], hx⟩
theorem containsNot_Replica {α : Type} {w : World} {B : Nat} {v : Value} {l : List α} {enc : α → Value} {cl : Nat} {caps : List Value} {q : α → Bool} (hB : B ≤ w.heap.size) (hs : Sl w B (some 2) 2 v (l.map enc)) (hc : callable Tryd.prog cl = true)
    (hf : ∀ x ∈ l, ∀ w', Ext w w' → Ret Tryd.prog cl (enc x :: caps).toArray w' (.bool (!q x))) : Ret Tryd.prog 87 #[v, .func (.func cl) #[] caps.toArray] w (.bool (!l.all q)) := by
  have := containsFunc_Replica hB hs hc hf
  rwa [any_not_all] at this
end Go.Proofs.YtgickfllblmhpaaDoor
