
/- What the statements of layer 23 make out of bytes, walked. -/
import Derived.Test.YtopfddchckdhgaaGreatMadeH23
import Derived.Test.YtopfddchckdhgaaGreatRelE
import Derived.Test.YtopfddchckdhgaaGreatJoin
namespace Go.Proofs.YtopfddchckdhgaaGreat
set_option linter.unusedSimpArgs false
set_option linter.unusedVariables false
open Go Go.RowKit
set_option maxRecDepth 100000
set_option linter.unusedSectionVars false
set_option maxHeartbeats 4000000
theorem sxMade231 {p q : Prop} (hq : q) (h : p = q := by first | (simp (maxDischargeDepth := 3) only [↓X, ↓Y, ↓Q, S1, ↓reduceIte, Nat.reduceEqDiff, Nat.reduceAdd, Int.reduceLT, Int.reduceLE, Int.reduceNeg, Int.reduceBEq, Int.reduceBNe, Int.reduceEq, Nat.reduceLeDiff, Nat.reduceMul, Nat.reduceLT, *, cutX]; try exact rfl) | (simp (singlePass := true) (maxDischargeDepth := 99) only [*, S2, Nat.reduceLT, cutX]; try exact rfl)) : p := h ▸ hq
theorem made_last {ln : Nat} (h : ln ≤ 255) : IntKind.i64.wrap (20 + (ln : Int)) = ((20 + ln : Nat) : Int) := by
  rw [wrap_i64_id] <;> omega
theorem made_blast {bn : Nat} : IntKind.i64.wrap ((bn : Int).tmod 5) = ((bn % 5 : Nat) : Int) := by
  have e : (bn : Int).tmod 5 = ((bn % 5 : Nat) : Int) := rfl
  rw [e, wrap_i64_id] <;> omega
theorem made_kind {kn : Nat} : IntKind.u8.wrap (1 + (kn : Int).tmod 7) = ((1 + kn % 7 : Nat) : Int) := by
  have e : (kn : Int).tmod 7 = ((kn % 7 : Nat) : Int) := rfl
  rw [e, IntKind.wrap_u8]
  omega
theorem made_host {hn : Nat} : IntKind.i64.wrap ((hn : Int).tmod 4) = ((hn % 4 : Nat) : Int) := by
  have e : (hn : Int).tmod 4 = ((hn % 4 : Nat) : Int) := rfl
  rw [e, wrap_i64_id] <;> omega
theorem bit16 {a k : Nat} (ha : a < 65536) (hk : k < 16) : (andI .u16 (shrI .u16 (a : Int) (k : Int)) 1 == 1) = a.testBit k := by
  have e1 : shrI .u16 (a : Int) (k : Int) = ((a / 2 ^ k : Nat) : Int) := by
    simp only [shrI, IntKind.bits, Int.toNat_natCast]
    rw [Nat.min_eq_left (by omega), show ((2 : Int) ^ k) = ((2 ^ k : Nat) : Int) by simp, Int.fdiv_eq_ediv_of_nonneg _ (Int.natCast_nonneg _)]
    rfl
  have h1 := Nat.div_le_self a (2 ^ k)
  have e2 : andI .u16 ((a / 2 ^ k : Nat) : Int) 1 = ((a / 2 ^ k % 2 : Nat) : Int) := by
    show IntKind.u16.wrap (((BitVec.ofInt 16 ((a / 2 ^ k : Nat) : Int) &&& BitVec.ofInt 16 ((1 : Nat) : Int)).toNat : Nat) : Int) = _
    rw [bvOf, bvOf, BitVec.toNat_and, BitVec.toNat_ofNat, BitVec.toNat_ofNat, Nat.mod_eq_of_lt (by omega), Nat.mod_eq_of_lt (by omega), Nat.and_one_is_mod, IntKind.wrap_u16]
    omega
  rw [e1, e2, Nat.testBit_eq_decide_div_mod_eq]
  rcases Nat.mod_two_eq_zero_or_one (a / 2 ^ k) with h | h <;> simp [h]
def aftF (r : RawD) (k j : Nat) : Bool := decide (k < r.os.length) && (r.os.getD k 0).toNat.testBit j
/-- What made returns. -/
def MadeV (w : World) (v : Value) : Prop := ∃ hv pv xv p x, v = .tuple #[hv, pv, xv] ∧ HouV w hv 4 ∧ PlnV w pv p ∧ TmsV w xv x ∧ MadeX p x ∧ x.first = 20 ∧ x.last ≤ 275
section
variable {w : World} {B : Nat} {r : RawD}
theorem law23made (hB : B ≤ w.heap.size) (hr : RawR w B r) : CallsV Tryz.prog 14 #[.agg (rawC r).toArray] w fun v w' => Ext w w' ∧ MadeV w' v := by
  have hn : Now w := trivial
  have hx : Ext w w := Ext.refl w
  have kk := hr.k.k hB
  have kh := hr.h.k hB
  have ka := hr.a.k hB
  have kw := hr.n.k hB
  have kp := hr.p.k hB
  have kd := hr.d.k hB
  have hmk := hr.k.max_
  obtain ⟨e1, e2, e3, e4⟩ := hr.e
  obtain ⟨bn, hbn⟩ : ∃ bn : Nat, r.bl = bn := ⟨r.bl.toNat, by have := e1.1; omega⟩
  obtain ⟨ln, hln⟩ : ∃ ln : Nat, r.la = ln := ⟨r.la.toNat, by have := e2.1; omega⟩
  have ha1 := kk.1
  have ha2 := kh.1
  have ha3 := ka.1
  obtain ⟨n, hn8⟩ : ∃ n : Nat, n = min r.ks.length 8 := ⟨_, rfl⟩
  have hmin : (if 8 < (r.ks.length : Int) then (8 : Int) else (r.ks.length : Int)) = (n : Int) := by split <;> omega
  have hnn : n ≤ 8 ∧ n ≤ r.ks.length ∧ (n = 8 ∨ n = r.ks.length) := by omega
  clear hn8
  have hb5 : IntKind.i64.wrap ((bn : Int).tmod 5) = ((bn % 5 : Nat) : Int) := made_blast
  have hlw : IntKind.i64.wrap (ln : Int) = (ln : Int) := wrap_nat (by have := e2.2; omega)
  have hl20 : IntKind.i64.wrap (20 + (ln : Int)) = ((20 + ln : Nat) : Int) := made_last (by have := e2.2; omega)
  (refine callsV_of Tryz.func14 rfl KR KR ?_; rw [Tryz.results14])
  (repeat' first
    | with_reducible first | exact ⟨⟩ | (refine gB ?_; intros) | refine gT ?_ ?_
    | refine gs ?_
    | simp (maxDischargeDepth := 3) only [↓X, ↓Y, ↓Q, S1, ↓reduceIte, Nat.reduceEqDiff, Nat.reduceAdd, Int.reduceLT, Int.reduceLE, Int.reduceNeg, Int.reduceBEq, Int.reduceBNe, Int.reduceEq, Nat.reduceLeDiff, Nat.reduceMul, Nat.reduceLT, *, rawC, hmin, hb5]
    | simp (singlePass := true) (maxDischargeDepth := 99) only [*, S2, Nat.reduceLT, rawC, hmin, hb5])
  rename_i b1 w1 n1 k1 s1 q1 b2 w2 n2 k2 s2 q2 c3 w3 n3 k3 s3 q3 b4 w4 n4 k4 s4 q4 b5 w5 n5 k5 s5 q5
  have hx5 : Ext w w5 := FR
  have n35 : ¬ c3 = b5 := by have h1 : c3 < w4.heap.size := FR; have h2 : w4.heap.size ≤ b5 := FR; omega
  have hT := law23termsW (w := w5) (n := n) (blast := ((bn % 5 : Nat) : Int)) (by omega)
  refine call_k hT ?_
  rintro _ w6 n6 s6 ⟨c7, apv, rfl, kc7, ho7, hc7n, hc7B⟩
  have hone7 := ho7.one
  clear hT
  (repeat' first
    | ((with_reducible refine wpd_at 3 ?_); refine wpd_hold ?_)
    | with_reducible first | exact ⟨⟩ | (refine gB ?_; intros) | refine gT ?_ ?_
    | refine gs ?_
    | refine sx ?_)
  rename_i b6 w7 n7 k7 s7 q7 w8 n8 k8 s8
  have K8 : Blk w8 b6 41 [.slice none 0 0, .slice none 0 0, .int .i64 ((bn % 5 : Nat) : Int), .slice none 0 0, .slice (some ⟨c7, 0, none⟩) 8 8, apv, .int .i64 0, .int .i64 100] := k8.2.1 _ k8.2.2.1
  have hRB : ∀ b ∈ [b6], b < w8.heap.size := by simp only [List.mem_cons, List.not_mem_nil, or_false, forall_eq_or_imp, forall_eq]; exact FR
  unfold wpdH
  refine wpd_relL 7 [b6] [(5, b6)] rfl (fun iI v w9 => match iI with
    | 0 => v = .pointer (some ⟨b1, 15, none⟩)
    | 1 => v = .int .u8 (ln : Nat)
    | 2 => v = .int .i64 (ln : Nat)
    | 3 => v = .int .i64 ((20 + ln : Nat) : Int)
    | 4 => v = .pointer (some ⟨b6, 6, none⟩)
    | 5 => Blk w9 b6 41 [.slice none 0 0, .slice none 0 0, .int .i64 ((bn % 5 : Nat) : Int), .slice none 0 0, .slice (some ⟨c7, 0, none⟩) 8 8, apv, .int .i64 20, .int .i64 100]
    | 6 => v = .pointer (some ⟨b6, 7, none⟩)
    | _ => False) KR KR KR hRB (by simp only [List.nodup_cons, List.mem_cons, List.not_mem_nil, or_false, not_or, List.nodup_nil, not_false_eq_true, and_true] <;> exact FR) ?_ ?_ ?_
  · intro iI v w1 w2 hR hx9
    match iI, hR with
    | 0, h => exact h
    | 1, h => exact h
    | 2, h => exact h
    | 3, h => exact h
    | 4, h => exact h
    | 5, h => exact h.tb hx9 (fun hX => hX.2 rfl)
    | 6, h => exact h
  · intro iI oO hi ho gF w9 hx9 hdep hag hun
    have s9 := hx9.sb
    simp only [Sb, List.mem_cons, List.not_mem_nil, or_false, forall_eq_or_imp, forall_eq] at s9
    have n9 : Now w9 := trivial
    have r9 := Ext.refl w9
    have z9 := hx9.size
    rcases iI with _|_|_|_|_|_|_|iI
    have e := Option.some.inj ho
    subst e
    have a1 := hag.at 1 KR
    simp only [S5, ↓reduceIte, Nat.reduceEqDiff, initF, *] at a1
    clear hag hdep ho hun
    refine ⟨fun _ => ?_, fun b hb => by simp [bkL] at hb⟩
    refine relStep_off rfl ?_
    rotate_left
    have e := Option.some.inj ho
    subst e
    have d0 : (gF 25) = .pointer (some ⟨b1, 15, none⟩) := hdep ⟨0, .data⟩ (by simp) rfl _ _ rfl rfl
    clear hag hdep ho hun
    refine ⟨fun _ => ?_, fun b hb => by simp [bkL] at hb⟩
    refine relStep_off rfl ?_
    rotate_left
    have e := Option.some.inj ho
    subst e
    have d1 : (gF 26) = .int .u8 (ln : Nat) := hdep ⟨1, .data⟩ (by simp) rfl _ _ rfl rfl
    clear hag hdep ho hun
    refine ⟨fun _ => ?_, fun b hb => by simp [bkL] at hb⟩
    refine relStep_off rfl ?_
    rotate_left
    have e := Option.some.inj ho
    subst e
    have d2 : (gF 27) = .int .i64 (ln : Nat) := hdep ⟨2, .data⟩ (by simp) rfl _ _ rfl rfl
    clear hag hdep ho hun
    refine ⟨fun _ => ?_, fun b hb => by simp [bkL] at hb⟩
    refine relStep_off rfl ?_
    rotate_left
    have e := Option.some.inj ho
    subst e
    have a6 := hag.at 6 KR
    simp only [S5, ↓reduceIte, Nat.reduceEqDiff, initF, *] at a6
    have un5 : Kp b6 w8 w9 := ⟨hRB _ (by simp), hun 5 _ (by decide) rfl KR⟩
    clear hag hdep ho hun
    refine ⟨fun _ => ?_, fun b hb => by simp [bkL] at hb⟩
    refine relStep_off rfl ?_
    rotate_left
    have e := Option.some.inj ho
    subst e
    have d4 : (gF 29) = .pointer (some ⟨b6, 6, none⟩) := hdep ⟨4, .data⟩ (by simp) rfl _ _ rfl rfl
    clear hag hdep ho hun
    refine ⟨fun h => by simp [bkL] at h, fun b hb hU => ?_⟩
    obtain rfl : b6 = b := by simpa [bkL] using hb
    refine relStep_off rfl ?_
    rotate_left
    have e := Option.some.inj ho
    subst e
    have a6 := hag.at 6 KR
    simp only [S5, ↓reduceIte, Nat.reduceEqDiff, initF, *] at a6
    clear hag hdep ho hun
    refine ⟨fun _ => ?_, fun b hb => by simp [bkL] at hb⟩
    refine relStep_off rfl ?_
    rotate_left
    · omega
    all_goals (repeat' first
    | with_reducible first | exact ⟨⟩ | (refine gB ?_; intros) | refine gT ?_ ?_
    | refine gs ?_
    | simp (maxDischargeDepth := 3) only [↓X, ↓Y, ↓Q, S1, ↓reduceIte, Nat.reduceEqDiff, Nat.reduceAdd, Int.reduceLT, Int.reduceLE, Int.reduceNeg, Int.reduceBEq, Int.reduceBNe, Int.reduceEq, Nat.reduceLeDiff, Nat.reduceMul, Nat.reduceLT, *, hlw, hl20]
    | simp (singlePass := true) (maxDischargeDepth := 99) only [*, S2, Nat.reduceLT, hlw, hl20])
    all_goals first
      | (exact store_intro (i := 6) KR (hU.trans K8) (by simp) rfl fun w' hb' hc' => ⟨hc', hb'⟩)
  · intro g9 w9 hx9 hR hS9 hag
    have s9 := hx9.sb
    simp only [Sb, List.mem_cons, List.not_mem_nil, or_false, forall_eq_or_imp, forall_eq] at s9
    have n9 : Now w9 := trivial
    have r9 := Ext.refl w9
    have z9 := hx9.size
    have d3 : (g9 28) = .int .i64 ((20 + ln : Nat) : Int) := hR 3 _ _ (by decide) rfl rfl
    have d4 : (g9 29) = .pointer (some ⟨b6, 6, none⟩) := hR 4 _ _ (by decide) rfl rfl
    obtain ⟨vs5, d5⟩ := hS9 5 _ (by decide) rfl
    replace d5 : Blk w9 b6 41 [.slice none 0 0, .slice none 0 0, .int .i64 ((bn % 5 : Nat) : Int), .slice none 0 0, .slice (some ⟨c7, 0, none⟩) 8 8, apv, .int .i64 20, .int .i64 100] := d5
    have d6 : (g9 30) = .pointer (some ⟨b6, 7, none⟩) := hR 6 _ _ (by decide) rfl rfl
    have a1 := hag.at 1 KR
    have a2 := hag.at 2 KR
    have a3 := hag.at 3 KR
    have a4 := hag.at 4 KR
    have a5 := hag.at 5 KR
    have a6 := hag.at 6 KR
    have a41 := hag.at 41 KR
    simp only [S5, ↓reduceIte, Nat.reduceEqDiff, initF, *] at a1 a2 a3 a4 a5 a6 a41
    clear hag hR hS9
    simp only [List.drop_succ_cons, List.drop_zero]
    have k59 : Bk w9 b6 41 [.slice none 0 0, .slice none 0 0, .int .i64 ((bn % 5 : Nat) : Int), .slice none 0 0, .slice (some ⟨c7, 0, none⟩) 8 8, apv, .int .i64 20, .int .i64 100] := d5.bk
    clear k8 K8
    (repeat' first
    | with_reducible first | exact ⟨⟩ | (refine gB ?_; intros) | refine gT ?_ ?_
    | refine gs ?_
    | refine sx ?_)
    refine st_one (i := 7) KR (by simp) rfl fun wz nz kz tz => ?_
    simp only [List.set_cons_zero, List.set_cons_succ] at kz
    have K16 : Blk w6 b1 55 (rawC r) := by
      simp only [rawC, hbn, hln]
      exact k1.2.1 _ FR
    have K26 : Blk w6 b2 29 [.slice none 0 0, .slice none 0 0, .slice none 0 0, .slice none 0 0, .int .i64 0, .slice none 0 0, .slice none 0 0] := k2.2.1 _ FR
    have K36 : Blk w6 c3 33 [.slice none 0 0, .slice none 0 0] := k3.2.1 _ FR
    have K46 : Blk w6 b4 41 [.slice none 0 0, .slice none 0 0, .int .i64 0, .slice none 0 0, .slice none 0 0, .slice none 0 0, .int .i64 0, .int .i64 0] := k4.2.1 _ FR
    have K56 : Blk w6 b5 33 [.slice none 0 0, .slice none 0 0] := k5.2.1 _ FR
    have K6 : Blk wz b6 41 [.slice none 0 0, .slice none 0 0, .int .i64 ((bn % 5 : Nat) : Int), .slice none 0 0, .slice (some ⟨c7, 0, none⟩) 8 8, apv, .int .i64 20, .int .i64 ((20 + ln : Nat) : Int)] := kz.2.1 _ kz.2.2.1
    have hw6 : w6.heap.size ≤ b6 := FR
    have hx6 : Ext w w6 := FR
    have r6 := Ext.refl w6
    have hx6z : Ext w6 wz := FR
    have hxz : Ext w wz := hx6.trans hx6z
    have K1 := K16.ext hx6z
    have K2 := K26.ext hx6z
    have K3 := K36.ext hx6z
    have K4 := K46.ext hx6z
    have K5 := K56.ext hx6z
    have K7 : Blk wz c7 3 takesV := kc7.ext hx6z
    have HO : Own wz w5.heap.size 3 1 apv ((List.replicate n (-1)).map intC) := ho7.ext hx6z
    have hw5 := hx5.size
    have hS : Hid (MdS w wz.heap.size w5.heap.size b1 b2 c3 b4 b5 b6 c7 apv) := ⟨⟨FR, FR, FR, FR, FR, by have := hx6.size; omega, by omega, hw5⟩, ⟨K1.lt, K2.lt, K3.lt, K4.lt, K5.lt, K6.lt, K7.lt⟩, n35, fun e => by have h46 := K46.lt; omega, fun b hb => ⟨(HO.lt b hb).2, fun e => hc7n (e ▸ hb)⟩⟩
    have hN1 : Hid (¬ b1 = b2 ∧ ¬ b1 = c3 ∧ ¬ b1 = b5) := ⟨K1.ne K2 (by decide), K1.ne K3 (by decide), K1.ne K5 (by decide)⟩
    have M0 : Hid (MdI w wz.heap.size w5.heap.size b1 b2 c3 b4 b5 b6 c7 apv r (bn % 5) ln n 0 0 0 wz) := ⟨hxz, K1, K2, K3, K4, Nat.le_refl _, ⟨_, _, [], [], [], K5, Own.nil _ _ _ _, Own.nil _ _ _ _, rfl, rfl, rfl, by simp, fun i hi => absurd hi (by omega)⟩, ⟨_, _, [], [], [0, 2, 2, 2, 2, 2, 2, 2], List.replicate n (-1), K6, Own.nil _ _ _ _, Own.nil _ _ _ _, K7, HO, rfl, rfl, by simp, by simp [takesOk], by simp, by simp, fun x hx => by rw [List.eq_of_mem_replicate hx]; omega⟩⟩
    clear k1 k2 k3 k4 k5 kz tz s1 s2 s3 s4 s5 s6 s7 s8 s9 q1 q2 q3 q4 q5 q7 k59 d5 d3 d4 d6 hx9 z9 r9 hRB kc7 ho7 hc7n hc7B hw5 n35 hx5 hx6 hx6z K16 K26 K36 K46 K56 r6 k7
    (repeat' first
    | with_reducible first | exact ⟨⟩ | (refine gB ?_; intros) | refine gT ?_ ?_
    | refine gs ?_
    | refine sx ?_)
    refine loop_cut 0 (fun g' w' => (g' 1 = .pointer (some ⟨b1, 0, none⟩) ∧ g' 2 = .pointer (some ⟨b2, 0, none⟩) ∧ g' 3 = .pointer (some ⟨c3, 0, none⟩) ∧ g' 4 = .pointer (some ⟨b4, 0, none⟩) ∧ g' 5 = .pointer (some ⟨b5, 0, none⟩) ∧ g' 6 = .pointer (some ⟨b6, 0, none⟩)) ∧ Hid (MdI w wz.heap.size w5.heap.size b1 b2 c3 b4 b5 b6 c7 apv r (bn % 5) ln n n 0 0 w')) ?_ ?_
    rotate_left
    · rintro g2 w2 ⟨⟨f1, f2, f3, f4, f5, f6⟩, hp2⟩
      have n2 : Now w2 := trivial
      have I2 : Hid (MdI w wz.heap.size w5.heap.size b1 b2 c3 b4 b5 b6 c7 apv r (bn % 5) ln n n 0 0 w2) := hp2
      have r2 := Ext.refl w2
      clear M0 K1 K2 K3 K4 K5 K6 K7 HO hp2
      (repeat' first
    | with_reducible first | exact ⟨⟩ | (refine gB ?_; intros) | refine gT ?_ ?_
    | refine gs ?_
    | refine sx ?_)
      refine loop_cut 4 (fun g' w' => (g' 1 = .pointer (some ⟨b1, 0, none⟩) ∧ g' 2 = .pointer (some ⟨b2, 0, none⟩) ∧ g' 3 = .pointer (some ⟨c3, 0, none⟩) ∧ g' 4 = .pointer (some ⟨b4, 0, none⟩) ∧ g' 5 = .pointer (some ⟨b5, 0, none⟩) ∧ g' 6 = .pointer (some ⟨b6, 0, none⟩)) ∧ Hid (MdI w wz.heap.size w5.heap.size b1 b2 c3 b4 b5 b6 c7 apv r (bn % 5) ln n n 0 0 w')) ?_ ?_
      rotate_left
      · rintro g2 w2 ⟨⟨f1, f2, f3, f4, f5, f6⟩, hp2⟩
        have n2 : Now w2 := trivial
        have I2 : Hid (MdI w wz.heap.size w5.heap.size b1 b2 c3 b4 b5 b6 c7 apv r (bn % 5) ln n n 0 0 w2) := hp2
        have r2 := Ext.refl w2
        clear hp2
        (repeat' first
    | with_reducible first | exact ⟨⟩ | (refine gB ?_; intros) | refine gT ?_ ?_
    | refine gs ?_
    | refine sx ?_)
        obtain ⟨nw, hnw8⟩ : ∃ nw : Nat, nw = min r.ws.length 6 := ⟨_, rfl⟩
        have hnw : nw ≤ 6 ∧ nw ≤ r.ws.length ∧ (nw = 6 ∨ nw = r.ws.length) := by omega
        clear hnw8
        refine loop_cut 6 (fun g' w' => (g' 1 = .pointer (some ⟨b1, 0, none⟩) ∧ g' 2 = .pointer (some ⟨b2, 0, none⟩) ∧ g' 3 = .pointer (some ⟨c3, 0, none⟩) ∧ g' 4 = .pointer (some ⟨b4, 0, none⟩) ∧ g' 5 = .pointer (some ⟨b5, 0, none⟩) ∧ g' 6 = .pointer (some ⟨b6, 0, none⟩)) ∧ Hid (MdI w wz.heap.size w5.heap.size b1 b2 c3 b4 b5 b6 c7 apv r (bn % 5) ln n n nw 0 w')) ?_ ?_
        rotate_left
        · rintro g2 w2 ⟨⟨f1, f2, f3, f4, f5, f6⟩, hp2⟩
          have n2 : Now w2 := trivial
          have I2 : Hid (MdI w wz.heap.size w5.heap.size b1 b2 c3 b4 b5 b6 c7 apv r (bn % 5) ln n n nw 0 w2) := hp2
          have r2 := Ext.refl w2
          clear hp2
          (repeat' first
    | with_reducible first | exact ⟨⟩ | (refine gB ?_; intros) | refine gT ?_ ?_
    | refine gs ?_
    | refine sx ?_)
          obtain ⟨na, hna8⟩ : ∃ na : Nat, na = min r.ps.length 4 := ⟨_, rfl⟩
          have hna : na ≤ 4 ∧ na ≤ r.ps.length ∧ (na = 4 ∨ na = r.ps.length) := by omega
          clear hna8
          refine loop_cut 8 (fun g' w' => (g' 1 = .pointer (some ⟨b1, 0, none⟩) ∧ g' 2 = .pointer (some ⟨b2, 0, none⟩) ∧ g' 3 = .pointer (some ⟨c3, 0, none⟩) ∧ g' 4 = .pointer (some ⟨b4, 0, none⟩) ∧ g' 5 = .pointer (some ⟨b5, 0, none⟩) ∧ g' 6 = .pointer (some ⟨b6, 0, none⟩)) ∧ Hid (MdI w wz.heap.size w5.heap.size b1 b2 c3 b4 b5 b6 c7 apv r (bn % 5) ln n n nw na w')) ?_ ?_
          rotate_left
          · rintro g2 w2 ⟨⟨f1, f2, f3, f4, f5, f6⟩, hp2⟩
            have n2 : Now w2 := trivial
            have I2 : Hid (MdI w wz.heap.size w5.heap.size b1 b2 c3 b4 b5 b6 c7 apv r (bn % 5) ln n n nw na w2) := hp2
            have r2 := Ext.refl w2
            clear hp2
            obtain ⟨sv, av, vs, steps, after, p1, p2, p3, p4, p5, p6, p7, p8⟩ := I2.out.p
            obtain ⟨wv, rv, wl, al, tk, aps, t1, t2, t3, t4, t5, t6⟩ := I2.out.t
            have kP := p1.bk
            have kT := (show Blk w2 b6 41 [wv, rv, .int .i64 ((bn % 5 : Nat) : Int), .slice none 0 0, .slice (some ⟨c7, 0, none⟩) 8 8, apv, .int .i64 20, .int .i64 ((20 + ln : Nat) : Int)] from t1).bk
            have k24 := (show Blk w2 b4 41 [.slice none 0 0, .slice none 0 0, .int .i64 0, .slice none 0 0, .slice none 0 0, .slice none 0 0, .int .i64 0, .int .i64 0] from I2.out.k4).bk
            have k2S := I2.out.k2
            have k3P := I2.out.k3
            have hb2l := k2S.lt
            have hb3l := k3P.lt
            have o1 := p2.one
            have o2 := p3.one
            have o3 := t2.one
            have o4 := t3.one
            have o5 := t5.one
            have x52 : ¬ b5 = b2 := k2S.ne p1 (by decide) ∘ Eq.symm
            have x53 : ¬ b5 = c3 := fun e => hS.out.n35 e.symm
            have x62 : ¬ b6 = b2 := t1.ne k2S (by decide)
            have x63 : ¬ b6 = c3 := t1.ne k3P (by decide)
            have x42 : ¬ b4 = b2 := I2.out.k4.ne k2S (by decide)
            have x43 : ¬ b4 = c3 := I2.out.k4.ne k3P (by decide)
            have x23 : ¬ b2 = c3 := k2S.ne k3P (by decide)
            have k2S' : Hid _ := k2S
            have k3P' : Hid _ := k3P
            have pp : Hid _ := And.intro p1 (And.intro p2 (And.intro p3 (And.intro p4 (And.intro p5 (And.intro p6 (And.intro p7 p8))))))
            have tt : Hid _ := And.intro t1 (And.intro t2 (And.intro t3 (And.intro t4 (And.intro t5 t6))))
            have hgr : w2.heap.size ≤ w2.heap.size := Nat.le_refl _
            clear p1 p2 p3 p4 p5 p6 p7 p8 t1 t2 t3 t4 t5 t6 k2S k3P
            (repeat' first
    | ((with_reducible refine wpd_at 33 ?_); refine wpd_hold ?_)
    | with_reducible first | exact ⟨⟩ | (refine gB ?_; intros) | refine gT ?_ ?_
    | refine gs ?_
    | refine sx ?_)
            have hRB : ∀ b ∈ [b2, c3], b < w2.heap.size := by simp only [List.mem_cons, List.not_mem_nil, or_false, forall_eq_or_imp, forall_eq]; exact FR
            unfold wpdH
            refine wpd_relL 5 [b2, c3] [(3, b2), (4, c3)] rfl (fun iI v w9 => match iI with
              | 0 => HouW w2.heap.size w9 v 4
              | 1 => v = .agg #[sv, av]
              | 2 => v = .agg #[wv, rv, .int .i64 ((bn % 5 : Nat) : Int), .slice none 0 0, .slice (some ⟨c7, 0, none⟩) 8 8, apv, .int .i64 20, .int .i64 ((20 + ln : Nat) : Int)]
              | 3 => ∃ y0 y1 y2 y5 yv, Blk w9 b2 29 (siteW y0 y1 y2 y5 yv) ∧ HouW w2.heap.size w9 (.agg (siteW y0 y1 y2 y5 yv).toArray) 4
              | 4 => Blk w9 c3 33 [sv, av]
              | _ => False) KR KR KR hRB (by simp only [List.nodup_cons, List.mem_cons, List.not_mem_nil, or_false, not_or, List.nodup_nil, not_false_eq_true, and_true] <;> exact FR) ?_ ?_ ?_
            · intro iI v w1 w2 hR hx9
              match iI, hR with
              | 0, h => exact HouW.tb h hx9 (fun b hX => hRB b hX.1)
              | 1, h => exact h
              | 2, h => exact h
              | 3, h => exact (let ⟨a, b, c, d, e, m1, m2⟩ := h; ⟨a, b, c, d, e, m1.tb hx9 (fun hX => hX.2 rfl), HouW.tb m2 hx9 (fun b hX => hRB b hX.1)⟩)
              | 4, h => exact h.tb hx9 (fun hX => hX.2 rfl)
            · intro iI oO hi ho gF w9 hx9 hdep hag hun
              have s9 := hx9.sb
              simp only [Sb, List.mem_cons, List.not_mem_nil, or_false, forall_eq_or_imp, forall_eq] at s9
              have n9 : Now w9 := trivial
              have r9 := Ext.refl w9
              have z9 := hx9.size
              rcases iI with _|_|_|_|_|iI
              have e := Option.some.inj ho
              subst e
              have un3 : Kp b2 w2 w9 := ⟨hRB _ (by simp), hun 3 _ (by decide) rfl KR⟩
              have un4 : Kp c3 w2 w9 := ⟨hRB _ (by simp), hun 4 _ (by decide) rfl KR⟩
              clear hag hdep ho hun
              refine ⟨fun _ => ?_, fun b hb => by simp [bkL] at hb⟩
              refine relStep_off rfl ?_
              rotate_left
              have e := Option.some.inj ho
              subst e
              have a5 := hag.at 5 KR
              simp only [S5, ↓reduceIte, Nat.reduceEqDiff, initF, *] at a5
              have un4 : Kp c3 w2 w9 := ⟨hRB _ (by simp), hun 4 _ (by decide) rfl KR⟩
              clear hag hdep ho hun
              refine ⟨fun _ => ?_, fun b hb => by simp [bkL] at hb⟩
              refine relStep_off rfl ?_
              rotate_left
              have e := Option.some.inj ho
              subst e
              have a6 := hag.at 6 KR
              simp only [S5, ↓reduceIte, Nat.reduceEqDiff, initF, *] at a6
              clear hag hdep ho hun
              refine ⟨fun _ => ?_, fun b hb => by simp [bkL] at hb⟩
              refine relStep_off rfl ?_
              rotate_left
              have e := Option.some.inj ho
              subst e
              have a2 := hag.at 2 KR
              simp only [S5, ↓reduceIte, Nat.reduceEqDiff, initF, *] at a2
              have d0 : HouW w2.heap.size w9 (gF 208) 4 := hdep ⟨0, .data⟩ (by simp) rfl _ _ rfl rfl
              obtain ⟨y0, y1, y2, y5, yv, ey, yy⟩ := d0
              have un4 : Kp c3 w2 w9 := ⟨hRB _ (by simp), hun 4 _ (by decide) rfl KR⟩
              clear hag hdep ho hun
              refine ⟨fun h => by simp [bkL] at h, fun b hb hU => ?_⟩
              obtain rfl : b2 = b := by simpa [bkL] using hb
              refine relStep_off rfl ?_
              rotate_left
              have e := Option.some.inj ho
              subst e
              have a3 := hag.at 3 KR
              simp only [S5, ↓reduceIte, Nat.reduceEqDiff, initF, *] at a3
              have d1 : (gF 209) = .agg #[sv, av] := hdep ⟨1, .data⟩ (by simp) rfl _ _ rfl rfl
              clear hag hdep ho hun
              refine ⟨fun h => by simp [bkL] at h, fun b hb hU => ?_⟩
              obtain rfl : c3 = b := by simpa [bkL] using hb
              refine relStep_off rfl ?_
              rotate_left
              · omega
              all_goals (repeat' first
    | with_reducible first | exact ⟨⟩ | (refine gB ?_; intros) | refine gT ?_ ?_
    | refine gs ?_
    | refine sx ?_)
              all_goals first
                | (refine CallsV.mono (law23houseW (n := 4) (by decide)) fun v w10 hh => ⟨hh.1, hh.2.more z9⟩)
                | (exact storeAgg_intro (t' := 29) (vs := siteW y0 y1 y2 y5 yv) KR (hU.trans k2S'.out) rfl (by simp [siteW, yy.2.2.2.2.1.one, one_int, one_slice]) fun w' hb' hc' => ⟨hc', y0, y1, y2, y5, yv, hb', HouW.tb ⟨y0, y1, y2, y5, yv, rfl, yy⟩ (TBn.of_chg (X := fun c => c = b2) hc' rfl) (fun b hX => by rw [hX]; exact hb2l)⟩)
                | (exact storeAgg_intro (t' := 33) (vs := [sv, av]) KR (hU.trans k3P'.out) rfl (by simp [o1, o2]) fun w' hb' hc' => ⟨hc', hb'⟩)
            · intro g9 w9 hx9 hR hS9 hag
              have s9 := hx9.sb
              simp only [Sb, List.mem_cons, List.not_mem_nil, or_false, forall_eq_or_imp, forall_eq] at s9
              have n9 : Now w9 := trivial
              have r9 := Ext.refl w9
              have z9 := hx9.size
              have d2 : (g9 210) = .agg #[wv, rv, .int .i64 ((bn % 5 : Nat) : Int), .slice none 0 0, .slice (some ⟨c7, 0, none⟩) 8 8, apv, .int .i64 20, .int .i64 ((20 + ln : Nat) : Int)] := hR 2 _ _ (by decide) rfl rfl
              obtain ⟨vs3, d3⟩ := hS9 3 _ (by decide) rfl
              replace d3 : ∃ y0 y1 y2 y5 yv, Blk w9 b2 29 (siteW y0 y1 y2 y5 yv) ∧ HouW w2.heap.size w9 (.agg (siteW y0 y1 y2 y5 yv).toArray) 4 := d3
              obtain ⟨vs4, d4⟩ := hS9 4 _ (by decide) rfl
              replace d4 : Blk w9 c3 33 [sv, av] := d4
              have a2 := hag.at 2 KR
              have a3 := hag.at 3 KR
              have a4 := hag.at 4 KR
              have a29 := hag.at 29 KR
              have a33 := hag.at 33 KR
              have a41 := hag.at 41 KR
              simp only [S5, ↓reduceIte, Nat.reduceEqDiff, initF, *] at a2 a3 a4 a29 a33 a41
              clear hag hR hS9
              simp only [List.drop_succ_cons, List.drop_zero]
              obtain ⟨y0, y1, y2, y5, yv, hb2, hW⟩ := d3
              have k92 := (show Blk w9 b2 29 [.slice (some ⟨y0, 0, none⟩) 1 1, .slice (some ⟨y1, 0, none⟩) 1 1, .slice (some ⟨y2, 0, none⟩) 1 1, .slice (some ⟨y5, 0, none⟩) 2 2, .int .i64 1, .slice none 0 0, yv] from hb2).bk
              have k93 := d4.bk
              have x24 : ¬ b2 = b4 := fun e => x42 e.symm
              have x34 : ¬ c3 = b4 := fun e => x43 e.symm
              have hxw2 : Ext w w2 := I2.out.ext
              have l2 : w.heap.size ≤ b2 := hS.out.h0.2.1
              have l3 : w.heap.size ≤ c3 := hS.out.h0.2.2.1
              have l4 : w.heap.size ≤ b4 := hS.out.h0.2.2.2.1
              have hx99 : Ext w w9 := FR
              have hW' : Hid _ := hW
              have hx9' : Hid (TBn (fun b => b ∈ [b2, c3]) w2 w9) := hx9
              have hb4l : Hid (b4 < w2.heap.size) := I2.out.k4.lt
              clear hW hx9 hb2 d4
              (repeat' first
    | with_reducible first | exact ⟨⟩ | (refine gB ?_; intros) | refine gT ?_ ?_
    | refine gs ?_
    | refine sx ?_)
              rename_i wC nC kC sC
              have hxE : Ext w wC := FR
              have hTC : TBn (fun c => c = b4) w9 wC := ⟨hxE.os.trans hx99.os.symm, hxE.tape.trans hx99.tape.symm, hxE.output.trans hx99.output.symm, sC.2.2.2.2.1 _ (Nat.le_refl _), fun c hc hn => (sC.1 c w9 ⟨hc, rfl⟩ hn).2⟩
              have hW9 : HouW w2.heap.size w9 (.agg (siteW y0 y1 y2 y5 yv).toArray) 4 := hW'.out
              have hWC := hW9.tb hTC (fun b hb => by rw [hb]; exact hb4l.out)
              obtain ⟨p, x, q1, q2, q3, q4, q5⟩ := MdI.fin (wE := wC) hS.out I2.out pp.out tt.out (fun c hc n1 n2 n3 => (sC.1 c w9 ⟨Nat.lt_of_lt_of_le hc hx9'.out.size, rfl⟩ n3).2.trans (hx9'.out.block c hc fun hm => by simp only [List.mem_cons, List.not_mem_nil, or_false] at hm; exact hm.elim n1 n2)) ⟨hnn.1, hnw.1, hna.1, by omega, by have := e2.2; omega⟩
              exact ⟨_, _, _, p, x, rfl, hWC.v, q1, q2, q3, q4, q5⟩
          refine loop_g na (fun g0 k g w' => g 15 = .int .i64 (k : Int) ∧ (g 1 = g0 1 ∧ g 2 = g0 2 ∧ g 3 = g0 3 ∧ g 4 = g0 4 ∧ g 5 = g0 5 ∧ g 6 = g0 6 ∧ g 29 = g0 29 ∧ g 33 = g0 33 ∧ g 41 = g0 41) ∧ Hid (MdI w wz.heap.size w5.heap.size b1 b2 c3 b4 b5 b6 c7 apv r (bn % 5) ln n n nw k w')) KR ?_ ?_ ?_
          · (repeat' first
    | with_reducible first | exact ⟨⟩ | (refine gB ?_; intros) | refine gT ?_ ?_
    | refine gs ?_
    | refine sx ?_)
            all_goals first | exact I2.out | rfl
          · rintro k m g3 w3 hk3 hlt n3 ⟨hi3, hf3, hp3⟩
            simp (maxDischargeDepth := 3) only [U, ↓reduceIte, Nat.reduceEqDiff, *] at hf3
            have I3 : Hid (MdI w wz.heap.size w5.heap.size b1 b2 c3 b4 b5 b6 c7 apv r (bn % 5) ln n n nw k w3) := hp3
            have r3 := Ext.refl w3
            have k31 := (show Blk w3 b1 55 [r.kv, r.hv, r.av, .int .u8 r.t0, .int .u8 r.t1, .int .u8 r.t2, .int .u8 r.t3, .int .u8 r.t4, .int .u8 r.t5, .int .u8 r.t6, .int .u8 r.t7, r.wv, r.pv, r.dv, .int .u8 r.bl, .int .u8 r.la, .int .u8 r.ea, .int .u8 r.fu] from I3.out.k1).bk
            have hx3 : Ext w w3 := I3.out.ext
            have s3 := hx3.st
            have hz3 : wz.heap.size ≤ w3.heap.size := I3.out.size
            have hw : IntKind.i64.wrap ((k : Int) + 1) = ((k + 1 : Nat) : Int) := by rw [wrap_i64_id] <;> omega
            have hkl : k < r.ps.length := by omega
            have hklI : (k : Int) < (r.ps.length : Int) := by omega
            have hk4I : (k : Int) < 4 := by omega
            obtain ⟨wv, rv, wl, al, tk, aps, t1, t2, t3, t4, t5, t6⟩ := I3.out.t
            have k36 := (show Blk w3 b6 41 [wv, rv, .int .i64 ((bn % 5 : Nat) : Int), .slice none 0 0, .slice (some ⟨c7, 0, none⟩) 8 8, apv, .int .i64 20, .int .i64 ((20 + ln : Nat) : Int)] from t1).bk
            have tt : Hid _ := And.intro t1 (And.intro t2 (And.intro t3 (And.intro t4 t5)))
            have t6' : Hid _ := t6
            obtain ⟨an, han⟩ : ∃ an : Nat, r.ps[k] = an := ⟨(r.ps[k]).toNat, by have := (hr.pb _ (List.getElem_mem hkl)).1; omega⟩
            have han8 : an ≤ 255 := by have := (hr.pb _ (List.getElem_mem hkl)).2; omega
            have hadom : IntKind.u8.wrap (1 + (an : Int).tmod 3) = ((1 + an % 3 : Nat) : Int) := by
              have e : (an : Int).tmod 3 = ((an % 3 : Nat) : Int) := rfl
              rw [e, IntKind.wrap_u8]; omega
            clear hp3 t1 t2 t3 t4 t5 t6
            have haidx : ((an / 3 : Nat) : Int).tmod 2 = ((an / 3 % 2 : Nat) : Int) := rfl
            have hadiv : IntKind.i64.wrap (IntKind.u8.wrap ((an : Int).tdiv 3)) = ((an / 3 : Nat) : Int) := by
              have e : (an : Int).tdiv 3 = ((an / 3 : Nat) : Int) := rfl
              rw [e, show IntKind.u8.wrap ((an / 3 : Nat) : Int) = ((an / 3 : Nat) : Int) by rw [IntKind.wrap_u8]; omega]; exact wrap_nat (by omega)
            (repeat' first
    | ((with_reducible refine wpd_at 32 ?_); refine wpd_hold ?_)
    | with_reducible first | exact ⟨⟩ | (refine gB ?_; intros) | refine gT ?_ ?_
    | refine gs ?_
    | refine sx ?_)
            unfold wpdH
            refine wpd_rel 20 (fun iI v w9 => match iI with
              | 0 => v = .pointer (some ⟨b6, 0, none⟩)
              | 1 => v = .pointer (some ⟨b6, 1, none⟩)
              | 2 => v = rv
              | 3 => v = .pointer (some ⟨b1, 12, none⟩)
              | 4 => v = r.pv
              | 5 => v = .int .i64 (k : Int)
              | 6 => v = elemAt r.pv 1 k
              | 7 => v = .int .u8 (an : Int)
              | 8 => v = .int .u8 ((an : Int).tmod 3)
              | 9 => v = .int .u8 ((1 + an % 3 : Nat) : Int)
              | 10 => v = .pointer (some ⟨b1, 12, none⟩)
              | 11 => v = r.pv
              | 12 => v = .int .i64 (k : Int)
              | 13 => v = elemAt r.pv 1 k
              | 14 => v = .int .u8 (an : Int)
              | 15 => v = .int .u8 (IntKind.u8.wrap ((an : Int).tdiv 3))
              | 16 => v = .int .i64 ((an / 3 : Nat) : Int)
              | 17 => v = .int .i64 ((an / 3 % 2 : Nat) : Int)
              | 18 => v = .agg #[.int .u8 ((1 + an % 3 : Nat) : Int), .int .i64 ((an / 3 % 2 : Nat) : Int)]
              | 19 => ∃ b, v = .slice (some ⟨b, 0, none⟩) 1 1 ∧ Blk w9 b 81 [.int .u8 ((1 + an % 3 : Nat) : Int), .int .i64 ((an / 3 % 2 : Nat) : Int)] ∧ w3.heap.size ≤ b
              | _ => False) KR KR KR ?_ ?_ ?_
            · intro iI v w1 w2 hR hx9
              match iI, hR with
              | 0, h => exact h
              | 1, h => exact h
              | 2, h => exact h
              | 3, h => exact h
              | 4, h => exact h
              | 5, h => exact h
              | 6, h => exact h
              | 7, h => exact h
              | 8, h => exact h
              | 9, h => exact h
              | 10, h => exact h
              | 11, h => exact h
              | 12, h => exact h
              | 13, h => exact h
              | 14, h => exact h
              | 15, h => exact h
              | 16, h => exact h
              | 17, h => exact h
              | 18, h => exact h
              | 19, ⟨b, e, h1, h2⟩ => exact ⟨b, e, h1.ext hx9, h2⟩
            · intro iI oO hi ho gF w9 hx9 hdep hag
              have s9 := hx9.st
              have n9 : Now w9 := trivial
              have r9 := Ext.refl w9
              have z9 := hx9.size
              rcases iI with _|_|_|_|_|_|_|_|_|_|_|_|_|_|_|_|_|_|_|_|iI
              have e := Option.some.inj ho
              subst e
              have a6 := hag.at 6 KR
              simp only [S5, ↓reduceIte, Nat.reduceEqDiff, initF, *] at a6
              clear hag hdep ho
              refine relStep_off rfl ?_
              rotate_left
              have e := Option.some.inj ho
              subst e
              have d0 : (gF 185) = .pointer (some ⟨b6, 0, none⟩) := hdep ⟨0, .data⟩ (by simp) rfl _ _ rfl rfl
              clear hag hdep ho
              refine relStep_off rfl ?_
              rotate_left
              have e := Option.some.inj ho
              subst e
              have d1 : (gF 186) = .pointer (some ⟨b6, 1, none⟩) := hdep ⟨1, .data⟩ (by simp) rfl _ _ rfl rfl
              clear hag hdep ho
              refine relStep_off rfl ?_
              rotate_left
              have e := Option.some.inj ho
              subst e
              have a1 := hag.at 1 KR
              simp only [S5, ↓reduceIte, Nat.reduceEqDiff, initF, *] at a1
              clear hag hdep ho
              refine relStep_off rfl ?_
              rotate_left
              have e := Option.some.inj ho
              subst e
              have d3 : (gF 188) = .pointer (some ⟨b1, 12, none⟩) := hdep ⟨3, .data⟩ (by simp) rfl _ _ rfl rfl
              clear hag hdep ho
              refine relStep_off rfl ?_
              rotate_left
              have e := Option.some.inj ho
              subst e
              have a15 := hag.at 15 KR
              simp only [S5, ↓reduceIte, Nat.reduceEqDiff, initF, *] at a15
              clear hag hdep ho
              refine relStep_off rfl ?_
              rotate_left
              have e := Option.some.inj ho
              subst e
              have d4 : (gF 189) = r.pv := hdep ⟨4, .data⟩ (by simp) rfl _ _ rfl rfl
              have d5 : (gF 190) = .int .i64 (k : Int) := hdep ⟨5, .data⟩ (by simp) rfl _ _ rfl rfl
              clear hag hdep ho
              refine relStep_off rfl ?_
              rotate_left
              have e := Option.some.inj ho
              subst e
              have d6 : (gF 191) = elemAt r.pv 1 k := hdep ⟨6, .data⟩ (by simp) rfl _ _ rfl rfl
              clear hag hdep ho
              refine relStep_off rfl ?_
              rotate_left
              have e := Option.some.inj ho
              subst e
              have d7 : (gF 192) = .int .u8 (an : Int) := hdep ⟨7, .data⟩ (by simp) rfl _ _ rfl rfl
              clear hag hdep ho
              refine relStep_off rfl ?_
              rotate_left
              have e := Option.some.inj ho
              subst e
              have d8 : (gF 193) = .int .u8 ((an : Int).tmod 3) := hdep ⟨8, .data⟩ (by simp) rfl _ _ rfl rfl
              clear hag hdep ho
              refine relStep_off rfl ?_
              rotate_left
              have e := Option.some.inj ho
              subst e
              have a1 := hag.at 1 KR
              simp only [S5, ↓reduceIte, Nat.reduceEqDiff, initF, *] at a1
              clear hag hdep ho
              refine relStep_off rfl ?_
              rotate_left
              have e := Option.some.inj ho
              subst e
              have d10 : (gF 195) = .pointer (some ⟨b1, 12, none⟩) := hdep ⟨10, .data⟩ (by simp) rfl _ _ rfl rfl
              clear hag hdep ho
              refine relStep_off rfl ?_
              rotate_left
              have e := Option.some.inj ho
              subst e
              have a15 := hag.at 15 KR
              simp only [S5, ↓reduceIte, Nat.reduceEqDiff, initF, *] at a15
              clear hag hdep ho
              refine relStep_off rfl ?_
              rotate_left
              have e := Option.some.inj ho
              subst e
              have d11 : (gF 196) = r.pv := hdep ⟨11, .data⟩ (by simp) rfl _ _ rfl rfl
              have d12 : (gF 197) = .int .i64 (k : Int) := hdep ⟨12, .data⟩ (by simp) rfl _ _ rfl rfl
              clear hag hdep ho
              refine relStep_off rfl ?_
              rotate_left
              have e := Option.some.inj ho
              subst e
              have d13 : (gF 198) = elemAt r.pv 1 k := hdep ⟨13, .data⟩ (by simp) rfl _ _ rfl rfl
              clear hag hdep ho
              refine relStep_off rfl ?_
              rotate_left
              have e := Option.some.inj ho
              subst e
              have d14 : (gF 199) = .int .u8 (an : Int) := hdep ⟨14, .data⟩ (by simp) rfl _ _ rfl rfl
              clear hag hdep ho
              refine relStep_off rfl ?_
              rotate_left
              have e := Option.some.inj ho
              subst e
              have d15 : (gF 200) = .int .u8 (IntKind.u8.wrap ((an : Int).tdiv 3)) := hdep ⟨15, .data⟩ (by simp) rfl _ _ rfl rfl
              clear hag hdep ho
              refine relStep_off rfl ?_
              rotate_left
              have e := Option.some.inj ho
              subst e
              have d16 : (gF 201) = .int .i64 ((an / 3 : Nat) : Int) := hdep ⟨16, .data⟩ (by simp) rfl _ _ rfl rfl
              clear hag hdep ho
              refine relStep_off rfl ?_
              rotate_left
              have e := Option.some.inj ho
              subst e
              have d9 : (gF 194) = .int .u8 ((1 + an % 3 : Nat) : Int) := hdep ⟨9, .data⟩ (by simp) rfl _ _ rfl rfl
              have d17 : (gF 202) = .int .i64 ((an / 3 % 2 : Nat) : Int) := hdep ⟨17, .data⟩ (by simp) rfl _ _ rfl rfl
              clear hag hdep ho
              refine relStep_off rfl ?_
              rotate_left
              · have e := Option.some.inj ho
                subst e
                have d18 : (gF 203) = .agg #[.int .u8 ((1 + an % 3 : Nat) : Int), .int .i64 ((an / 3 % 2 : Nat) : Int)] := hdep ⟨18, .data⟩ (by simp) rfl _ _ rfl rfl
                clear hag hdep ho
                refine relStep_off rfl ?_
                (repeat' first
    | with_reducible first | exact ⟨⟩ | (refine gB ?_; intros) | refine gT ?_ ?_
    | refine gs ?_
    | simp (maxDischargeDepth := 3) only [↓X, ↓Y, ↓Q, S1, ↓reduceIte, Nat.reduceEqDiff, Nat.reduceAdd, Int.reduceLT, Int.reduceLE, Int.reduceNeg, Int.reduceBEq, Int.reduceBNe, Int.reduceEq, Nat.reduceLeDiff, Nat.reduceMul, Nat.reduceLT, *, b8V, han, hadom, hadiv, haidx]
    | simp (singlePass := true) (maxDischargeDepth := 99) only [*, S2, Nat.reduceLT, b8V, han, hadom, hadiv, haidx])
                first
                  | (rename_i b10 w10 n10 k10 s10 q10; exact ⟨_, rfl, k10.2.1 _ k10.2.2.1, FR⟩)
                  | (rename_i b10 w10 n10 k10 s10 q10 l10; exact ⟨_, rfl, k10.2.1 _ k10.2.2.1, FR⟩)
              · omega
              all_goals (repeat' first
    | with_reducible first | exact ⟨⟩ | (refine gB ?_; intros) | refine gT ?_ ?_
    | refine gs ?_
    | simp (maxDischargeDepth := 3) only [↓X, ↓Y, ↓Q, S1, ↓reduceIte, Nat.reduceEqDiff, Nat.reduceAdd, Int.reduceLT, Int.reduceLE, Int.reduceNeg, Int.reduceBEq, Int.reduceBNe, Int.reduceEq, Nat.reduceLeDiff, Nat.reduceMul, Nat.reduceLT, *, b8V, han, hadom, hadiv, haidx]
    | simp (singlePass := true) (maxDischargeDepth := 99) only [*, S2, Nat.reduceLT, b8V, han, hadom, hadiv, haidx])
            · intro g9 w9 hx9 hR hag
              have s9 := hx9.st
              have n9 : Now w9 := trivial
              have r9 := Ext.refl w9
              have z9 := hx9.size
              have d2 : (g9 187) = rv := hR 2 _ _ (by decide) rfl rfl
              have d19 : ∃ b, (g9 204) = .slice (some ⟨b, 0, none⟩) 1 1 ∧ Blk w9 b 81 [.int .u8 ((1 + an % 3 : Nat) : Int), .int .i64 ((an / 3 % 2 : Nat) : Int)] ∧ w3.heap.size ≤ b := hR 19 _ _ (by decide) rfl rfl
              obtain ⟨b19, e19, hb19, q19⟩ := d19
              have k19 := hb19.bk
              have nw19 := Nw.of q19
              have a1 := hag.at 1 KR
              have a2 := hag.at 2 KR
              have a3 := hag.at 3 KR
              have a4 := hag.at 4 KR
              have a5 := hag.at 5 KR
              have a6 := hag.at 6 KR
              have a15 := hag.at 15 KR
              have a29 := hag.at 29 KR
              have a33 := hag.at 33 KR
              have a41 := hag.at 41 KR
              simp only [S5, ↓reduceIte, Nat.reduceEqDiff, initF, *] at a1 a2 a3 a4 a5 a6 a15 a29 a33 a41
              clear hag hR
              simp only [List.drop_succ_cons, List.drop_zero]
              (repeat' first
    | with_reducible first | exact ⟨⟩ | (refine gB ?_; intros) | refine gT ?_ ?_
    | refine gs ?_
    | refine sx ?_)
              have hxA : Ext w3 w9 := hx9
              have KB : Blk w9 b19 81 (areaC (AreaD.mk ((1 + an % 3 : Nat) : Int) ((an / 3 % 2 : Nat) : Int))) := hb19
              obtain ⟨t1, t2, t3, t4, t5⟩ := tt.out
              refine appG (e := 81) (sz := 2) (by_ := 16) (z := .agg #[.int .u8 0, .int .i64 0]) (c := areaC) (AreaD.mk ((1 + an % 3 : Nat) : Int) ((an / 3 % 2 : Nat) : Int)) KR KR rfl (by decide) (by decide) (t3.ext hxA) KB rfl (by intro v hv; simp only [areaC, List.mem_cons, List.not_mem_nil, or_false] at hv; rcases hv with rfl | rfl <;> rfl) (by have h9 := t6'.out.2.1; omega) (Nat.le_trans hz3 hxA.size) fun v' w10 n10 T10 ho10 => ?_
              have K10 : Blk w10 b6 41 [wv, rv, .int .i64 ((bn % 5 : Nat) : Int), .slice none 0 0, .slice (some ⟨c7, 0, none⟩) 8 8, apv, .int .i64 20, .int .i64 ((20 + ln : Nat) : Int)] := (T10.block b6 (t1.ext hxA).lt (t3.ne t1 (by decide))).trans (t1.ext hxA)
              have k10 := K10.bk
              have hv1 := ho10.one
              have F : Hid (∀ w11, Blk w11 b6 41 [wv, v', .int .i64 ((bn % 5 : Nat) : Int), .slice none 0 0, .slice (some ⟨c7, 0, none⟩) 8 8, apv, .int .i64 20, .int .i64 ((20 + ln : Nat) : Int)] → Chg w10 w11 b6 → MdI w wz.heap.size w5.heap.size b1 b2 c3 b4 b5 b6 c7 apv r (bn % 5) ln n n nw (k + 1) w11) := fun w11 h11 c11 => MdI.area hS.out (I3.out.ext_ hxA) (t1.ext hxA) (t2.ext hxA) (t3.ext hxA) (t4.ext hxA) (t5.ext hxA) t6'.out T10 ho10 c11 h11 ⟨by show ((1 + an % 3 : Nat) : Int) = 1 ∨ ((1 + an % 3 : Nat) : Int) = 2 ∨ ((1 + an % 3 : Nat) : Int) = 3; omega, by show (0 : Int) ≤ ((an / 3 % 2 : Nat) : Int); omega, by show ((an / 3 % 2 : Nat) : Int) ≤ 1; omega⟩
              clear T10 ho10 K10 tt t6' t1 t2 t3 t4 t5 k36 k31 I3 hxA s3
              (repeat' first
    | with_reducible first | exact ⟨⟩ | (refine gB ?_; intros) | refine gT ?_ ?_
    | refine gs ?_
    | refine sx ?_)
              refine fun hb => store_intro (i := 1) KR hb (by simp) hv1 fun w11 hb11 c11 => ?_
              have n11 : Now w11 := trivial
              simp only [List.set_cons_succ, List.set_cons_zero] at hb11
              have I6 : Hid (MdI w wz.heap.size w5.heap.size b1 b2 c3 b4 b5 b6 c7 apv r (bn % 5) ln n n nw (k + 1) w11) := F.out w11 hb11 c11
              clear hb11 c11 F k10
              (repeat' first
    | with_reducible first | exact ⟨⟩ | (refine gB ?_; intros) | refine gT ?_ ?_
    | refine gs ?_
    | refine sx ?_)
              refine next_g hk3 hlt ?_
              (repeat' first
    | with_reducible first | exact ⟨⟩ | (refine gB ?_; intros) | refine gT ?_ ?_
    | refine gs ?_
    | refine sx ?_)
              all_goals first | exact I6.out | rfl
          · rintro g3 w3 n3 ⟨hi3, hf3, hp3⟩
            simp (maxDischargeDepth := 3) only [U, ↓reduceIte, Nat.reduceEqDiff, *] at hf3
            have I3 : Hid (MdI w wz.heap.size w5.heap.size b1 b2 c3 b4 b5 b6 c7 apv r (bn % 5) ln n n nw na w3) := hp3
            have r3 := Ext.refl w3
            have k31 := (show Blk w3 b1 55 [r.kv, r.hv, r.av, .int .u8 r.t0, .int .u8 r.t1, .int .u8 r.t2, .int .u8 r.t3, .int .u8 r.t4, .int .u8 r.t5, .int .u8 r.t6, .int .u8 r.t7, r.wv, r.pv, r.dv, .int .u8 r.bl, .int .u8 r.la, .int .u8 r.ea, .int .u8 r.fu] from I3.out.k1).bk
            have hx3 : Ext w w3 := I3.out.ext
            have s3 := hx3.st
            have hz3 : wz.heap.size ≤ w3.heap.size := I3.out.size
            by_cases hc : na < r.ps.length
            · have hc1 : (na : Int) < (r.ps.length : Int) := by omega
              have hc2 : ¬ (na : Int) < 4 := by omega
              (repeat' first
    | with_reducible first | exact ⟨⟩ | (refine gB ?_; intros) | refine gT ?_ ?_
    | refine gs ?_
    | refine sxMade231 ?_)
              all_goals exact hp3.out
            · have hc1 : ¬ (na : Int) < (r.ps.length : Int) := by omega
              (repeat' first
    | with_reducible first | exact ⟨⟩ | (refine gB ?_; intros) | refine gT ?_ ?_
    | refine gs ?_
    | refine sxMade231 ?_)
              all_goals exact hp3.out
        refine loop_g nw (fun g0 k g w' => g 12 = .int .i64 (k : Int) ∧ (g 1 = g0 1 ∧ g 2 = g0 2 ∧ g 3 = g0 3 ∧ g 4 = g0 4 ∧ g 5 = g0 5 ∧ g 6 = g0 6 ∧ g 29 = g0 29 ∧ g 33 = g0 33 ∧ g 41 = g0 41) ∧ Hid (MdI w wz.heap.size w5.heap.size b1 b2 c3 b4 b5 b6 c7 apv r (bn % 5) ln n n k 0 w')) KR ?_ ?_ ?_
        · (repeat' first
    | with_reducible first | exact ⟨⟩ | (refine gB ?_; intros) | refine gT ?_ ?_
    | refine gs ?_
    | refine sx ?_)
          all_goals first | exact I2.out | rfl
        · rintro k m g3 w3 hk3 hlt n3 ⟨hi3, hf3, hp3⟩
          simp (maxDischargeDepth := 3) only [U, ↓reduceIte, Nat.reduceEqDiff, *] at hf3
          have I3 : Hid (MdI w wz.heap.size w5.heap.size b1 b2 c3 b4 b5 b6 c7 apv r (bn % 5) ln n n k 0 w3) := hp3
          have r3 := Ext.refl w3
          have k31 := (show Blk w3 b1 55 [r.kv, r.hv, r.av, .int .u8 r.t0, .int .u8 r.t1, .int .u8 r.t2, .int .u8 r.t3, .int .u8 r.t4, .int .u8 r.t5, .int .u8 r.t6, .int .u8 r.t7, r.wv, r.pv, r.dv, .int .u8 r.bl, .int .u8 r.la, .int .u8 r.ea, .int .u8 r.fu] from I3.out.k1).bk
          have hx3 : Ext w w3 := I3.out.ext
          have s3 := hx3.st
          have hz3 : wz.heap.size ≤ w3.heap.size := I3.out.size
          have hw : IntKind.i64.wrap ((k : Int) + 1) = ((k + 1 : Nat) : Int) := by rw [wrap_i64_id] <;> omega
          have hkl : k < r.ws.length := by omega
          have hklI : (k : Int) < (r.ws.length : Int) := by omega
          have hk6I : (k : Int) < 6 := by omega
          obtain ⟨wv, rv, wl, al, tk, aps, t1, t2, t3, t4, t5, t6⟩ := I3.out.t
          have k36 := (show Blk w3 b6 41 [wv, rv, .int .i64 ((bn % 5 : Nat) : Int), .slice none 0 0, .slice (some ⟨c7, 0, none⟩) 8 8, apv, .int .i64 20, .int .i64 ((20 + ln : Nat) : Int)] from t1).bk
          have tt : Hid _ := And.intro t1 (And.intro t2 (And.intro t3 (And.intro t4 t5)))
          have t6' : Hid _ := t6
          obtain ⟨y0, y1, y2, y3, hy, hy8⟩ : ∃ y0 y1 y2 y3 : Nat, r.ws[k] = ((y0 : Int), (y1 : Int), (y2 : Int), (y3 : Int)) ∧ (y0 ≤ 255 ∧ y1 ≤ 255 ∧ y2 ≤ 255 ∧ y3 ≤ 255) := by
            have hq := hr.wb _ (List.getElem_mem hkl)
            revert hq
            generalize r.ws[k] = q
            obtain ⟨q0, q1, q2, q3⟩ := q
            rintro ⟨⟨a0, a1⟩, ⟨a2, a3⟩, ⟨a4, a5⟩, ⟨a6, a7⟩⟩
            simp only at a0 a1 a2 a3 a4 a5 a6 a7
            exact ⟨q0.toNat, q1.toNat, q2.toNat, q3.toNat, by rw [Int.toNat_of_nonneg a0, Int.toNat_of_nonneg a2, Int.toNat_of_nonneg a4, Int.toNat_of_nonneg a6], by omega⟩
          have hdom : IntKind.u8.wrap (1 + (y0 : Int).tmod 3) = ((1 + y0 % 3 : Nat) : Int) := by
            have e : (y0 : Int).tmod 3 = ((y0 % 3 : Nat) : Int) := rfl
            rw [e, IntKind.wrap_u8]; omega
          have hidx : IntKind.i64.wrap ((y1 : Int).tmod 2) = ((y1 % 2 : Nat) : Int) := by
            have e : (y1 : Int).tmod 2 = ((y1 % 2 : Nat) : Int) := rfl
            rw [e]; exact wrap_nat (by omega)
          have hfrm : IntKind.i64.wrap (y2 : Int) = (y2 : Int) := wrap_nat (by omega)
          have hy3 : IntKind.i64.wrap (y3 : Int) = (y3 : Int) := wrap_nat (by omega)
          have hfr1 : IntKind.i64.wrap ((y2 : Int) + 1) = ((y2 + 1 : Nat) : Int) := by rw [wrap_i64_id] <;> omega
          have htil : IntKind.i64.wrap (((y2 + 1 : Nat) : Int) + (y3 : Int)) = ((y2 + 1 + y3 : Nat) : Int) := by rw [wrap_i64_id] <;> omega
          clear hp3 t1 t2 t3 t4 t5 t6
          have hz93 : zeroOf Tryz.prog 93 = some (.agg #[.int .u8 0, .int .u8 0, .int .u8 0, .int .u8 0]) := by kernel_rfl
          have hn0 : Int.toNat 0 = 0 := rfl
          have hn1 : Int.toNat 1 = 1 := rfl
          have hn2 : Int.toNat 2 = 2 := rfl
          have hn3 : Int.toNat 3 = 3 := rfl
          (repeat' first
    | with_reducible first | exact ⟨⟩ | (refine gB ?_; intros) | refine gT ?_ ?_
    | refine gs ?_
    | simp (maxDischargeDepth := 3) only [↓X, ↓Y, ↓Q, S1, ↓reduceIte, Nat.reduceEqDiff, Nat.reduceAdd, Int.reduceLT, Int.reduceLE, Int.reduceNeg, Int.reduceBEq, Int.reduceBNe, Int.reduceEq, Nat.reduceLeDiff, Nat.reduceMul, Nat.reduceLT, *, quadV, b8V, hy, hdom, hidx, hfrm, hy3, hfr1, htil, hz93, hn0, hn1, hn2, hn3]
    | simp (singlePass := true) (maxDischargeDepth := 99) only [*, S2, Nat.reduceLT, quadV, b8V, hy, hdom, hidx, hfrm, hy3, hfr1, htil, hz93, hn0, hn1, hn2, hn3])
          rename_i bA wA nA kA sA qA wA2 nA2 kA2 sA2 bB wB nB kB sB qB
          have KB : Blk wB bB 79 (windowC (WindowD.mk ((1 + y0 % 3 : Nat) : Int) ((y1 % 2 : Nat) : Int) (y2 : Int) ((y2 + 1 + y3 : Nat) : Int))) := kB.2.1 _ kB.2.2.1
          have hxA : Ext w3 wB := FR
          obtain ⟨t1, t2, t3, t4, t5⟩ := tt.out
          refine appG (e := 79) (sz := 4) (by_ := 32) (z := .agg #[.int .u8 0, .int .i64 0, .int .i64 0, .int .i64 0]) (c := windowC) (WindowD.mk ((1 + y0 % 3 : Nat) : Int) ((y1 % 2 : Nat) : Int) (y2 : Int) ((y2 + 1 + y3 : Nat) : Int)) KR KR rfl (by decide) (by decide) (t2.ext hxA) KB rfl (by intro v hv; simp only [windowC, List.mem_cons, List.not_mem_nil, or_false] at hv; rcases hv with rfl | rfl | rfl | rfl <;> rfl) (by have h9 := t6'.out.1; omega) (Nat.le_trans hz3 hxA.size) fun v' w10 n10 T10 ho10 => ?_
          have K10 : Blk w10 b6 41 [wv, rv, .int .i64 ((bn % 5 : Nat) : Int), .slice none 0 0, .slice (some ⟨c7, 0, none⟩) 8 8, apv, .int .i64 20, .int .i64 ((20 + ln : Nat) : Int)] := (T10.block b6 (t1.ext hxA).lt (t2.ne t1 (by decide))).trans (t1.ext hxA)
          have k10 := K10.bk
          have hv1 := ho10.one
          have F : Hid (∀ w11, Blk w11 b6 41 [v', rv, .int .i64 ((bn % 5 : Nat) : Int), .slice none 0 0, .slice (some ⟨c7, 0, none⟩) 8 8, apv, .int .i64 20, .int .i64 ((20 + ln : Nat) : Int)] → Chg w10 w11 b6 → MdI w wz.heap.size w5.heap.size b1 b2 c3 b4 b5 b6 c7 apv r (bn % 5) ln n n (k + 1) 0 w11) := fun w11 h11 c11 => MdI.win hS.out (I3.out.ext_ hxA) (t1.ext hxA) (t2.ext hxA) (t3.ext hxA) (t4.ext hxA) (t5.ext hxA) t6'.out T10 ho10 c11 h11 ⟨by show ((1 + y0 % 3 : Nat) : Int) = 1 ∨ ((1 + y0 % 3 : Nat) : Int) = 2 ∨ ((1 + y0 % 3 : Nat) : Int) = 3; omega, by show (0 : Int) ≤ ((y1 % 2 : Nat) : Int); omega, by show ((y1 % 2 : Nat) : Int) ≤ 1; omega, by show (0 : Int) ≤ (y2 : Int); omega, by show (y2 : Int) < ((y2 + 1 + y3 : Nat) : Int); omega, by show ((y2 + 1 + y3 : Nat) : Int) ≤ 600; omega⟩
          clear KB kA sA qA kA2 sA2 kB sB qB T10 ho10 K10 tt t6' t1 t2 t3 t4 t5 k36 k31 I3 hxA s3
          (repeat' first
    | with_reducible first | exact ⟨⟩ | (refine gB ?_; intros) | refine gT ?_ ?_
    | refine gs ?_
    | refine sx ?_)
          refine fun hb => store_intro (i := 0) KR hb (by simp) hv1 fun w11 hb11 c11 => ?_
          have n11 : Now w11 := trivial
          simp only [List.set_cons_zero] at hb11
          have I6 : Hid (MdI w wz.heap.size w5.heap.size b1 b2 c3 b4 b5 b6 c7 apv r (bn % 5) ln n n (k + 1) 0 w11) := F.out w11 hb11 c11
          clear hb11 c11 F k10
          (repeat' first
    | with_reducible first | exact ⟨⟩ | (refine gB ?_; intros) | refine gT ?_ ?_
    | refine gs ?_
    | refine sx ?_)
          refine next_g hk3 hlt ?_
          (repeat' first
    | with_reducible first | exact ⟨⟩ | (refine gB ?_; intros) | refine gT ?_ ?_
    | refine gs ?_
    | refine sx ?_)
          all_goals first | exact I6.out | rfl
        · rintro g3 w3 n3 ⟨hi3, hf3, hp3⟩
          simp (maxDischargeDepth := 3) only [U, ↓reduceIte, Nat.reduceEqDiff, *] at hf3
          have I3 : Hid (MdI w wz.heap.size w5.heap.size b1 b2 c3 b4 b5 b6 c7 apv r (bn % 5) ln n n nw 0 w3) := hp3
          have r3 := Ext.refl w3
          have k31 := (show Blk w3 b1 55 [r.kv, r.hv, r.av, .int .u8 r.t0, .int .u8 r.t1, .int .u8 r.t2, .int .u8 r.t3, .int .u8 r.t4, .int .u8 r.t5, .int .u8 r.t6, .int .u8 r.t7, r.wv, r.pv, r.dv, .int .u8 r.bl, .int .u8 r.la, .int .u8 r.ea, .int .u8 r.fu] from I3.out.k1).bk
          have hx3 : Ext w w3 := I3.out.ext
          have s3 := hx3.st
          have hz3 : wz.heap.size ≤ w3.heap.size := I3.out.size
          by_cases hc : nw < r.ws.length
          · have hc1 : (nw : Int) < (r.ws.length : Int) := by omega
            have hc2 : ¬ (nw : Int) < 6 := by omega
            (repeat' first
    | with_reducible first | exact ⟨⟩ | (refine gB ?_; intros) | refine gT ?_ ?_
    | refine gs ?_
    | refine sxMade231 ?_)
            all_goals exact hp3.out
          · have hc1 : ¬ (nw : Int) < (r.ws.length : Int) := by omega
            (repeat' first
    | with_reducible first | exact ⟨⟩ | (refine gB ?_; intros) | refine gT ?_ ?_
    | refine gs ?_
    | refine sxMade231 ?_)
            all_goals exact hp3.out
      refine loop_g 7 (fun g0 k g w' => g 11 = .int .i64 ((k + 1 : Nat) : Int) ∧ (g 1 = g0 1 ∧ g 2 = g0 2 ∧ g 3 = g0 3 ∧ g 4 = g0 4 ∧ g 5 = g0 5 ∧ g 6 = g0 6 ∧ g 29 = g0 29 ∧ g 33 = g0 33 ∧ g 41 = g0 41) ∧ Hid (MdI w wz.heap.size w5.heap.size b1 b2 c3 b4 b5 b6 c7 apv r (bn % 5) ln n n 0 0 w')) KR ?_ ?_ ?_
      · (repeat' first
    | with_reducible first | exact ⟨⟩ | (refine gB ?_; intros) | refine gT ?_ ?_
    | refine gs ?_
    | refine sx ?_)
        all_goals first | exact I2.out | rfl
      · rintro k m g3 w3 hk3 hlt n3 ⟨hi3, hf3, hp3⟩
        simp (maxDischargeDepth := 3) only [U, ↓reduceIte, Nat.reduceEqDiff, *] at hf3
        have I3 : Hid (MdI w wz.heap.size w5.heap.size b1 b2 c3 b4 b5 b6 c7 apv r (bn % 5) ln n n 0 0 w3) := hp3
        have r3 := Ext.refl w3
        have k31 := (show Blk w3 b1 55 [r.kv, r.hv, r.av, .int .u8 r.t0, .int .u8 r.t1, .int .u8 r.t2, .int .u8 r.t3, .int .u8 r.t4, .int .u8 r.t5, .int .u8 r.t6, .int .u8 r.t7, r.wv, r.pv, r.dv, .int .u8 r.bl, .int .u8 r.la, .int .u8 r.ea, .int .u8 r.fu] from I3.out.k1).bk
        obtain ⟨wv, rv, wl, al, tk, aps, t1, t2, t3, t4, t5, t6⟩ := I3.out.t
        have k36 := (show Blk w3 b6 41 [wv, rv, .int .i64 ((bn % 5 : Nat) : Int), .slice none 0 0, .slice (some ⟨c7, 0, none⟩) 8 8, apv, .int .i64 20, .int .i64 ((20 + ln : Nat) : Int)] from t1).bk
        have k37 := t4.bk
        have tt : Hid _ := And.intro t1 (And.intro t2 (And.intro t3 (And.intro t4 t5)))
        have t6' : Hid _ := t6
        have hw : IntKind.i64.wrap (((k + 1 : Nat) : Int) + 1) = ((k + 1 + 1 : Nat) : Int) := by rw [wrap_i64_id] <;> omega
        have hk8I : ((k + 1 : Nat) : Int) < 8 := by omega
        have htl : tk.length = 8 := (takes_len t6.2.2.2.1).1
        have htk : k + 1 < (tk.map intV).length := by rw [List.length_map]; omega
        obtain ⟨tn, htn, htn8⟩ : ∃ tn : Nat, [r.kv, r.hv, r.av, .int .u8 r.t0, .int .u8 r.t1, .int .u8 r.t2, .int .u8 r.t3, .int .u8 r.t4, .int .u8 r.t5, .int .u8 r.t6, .int .u8 r.t7, r.wv, r.pv, r.dv, .int .u8 (bn : Int), .int .u8 (ln : Int), .int .u8 r.ea, .int .u8 r.fu][3 + (k + 1)]? = some (.int .u8 (tn : Int)) ∧ tn ≤ 255 := by
          obtain ⟨e0, e1, e2, e3, e4, e5, e6, e7⟩ := hr.t
          rcases (by omega : k = 0 ∨ k = 1 ∨ k = 2 ∨ k = 3 ∨ k = 4 ∨ k = 5 ∨ k = 6) with rfl | rfl | rfl | rfl | rfl | rfl | rfl
          · exact ⟨r.t1.toNat, by rw [show ((r.t1.toNat : Nat) : Int) = r.t1 from Int.toNat_of_nonneg e1.1]; rfl, by have := e1.2; omega⟩
          · exact ⟨r.t2.toNat, by rw [show ((r.t2.toNat : Nat) : Int) = r.t2 from Int.toNat_of_nonneg e2.1]; rfl, by have := e2.2; omega⟩
          · exact ⟨r.t3.toNat, by rw [show ((r.t3.toNat : Nat) : Int) = r.t3 from Int.toNat_of_nonneg e3.1]; rfl, by have := e3.2; omega⟩
          · exact ⟨r.t4.toNat, by rw [show ((r.t4.toNat : Nat) : Int) = r.t4 from Int.toNat_of_nonneg e4.1]; rfl, by have := e4.2; omega⟩
          · exact ⟨r.t5.toNat, by rw [show ((r.t5.toNat : Nat) : Int) = r.t5 from Int.toNat_of_nonneg e5.1]; rfl, by have := e5.2; omega⟩
          · exact ⟨r.t6.toNat, by rw [show ((r.t6.toNat : Nat) : Int) = r.t6 from Int.toNat_of_nonneg e6.1]; rfl, by have := e6.2; omega⟩
          · exact ⟨r.t7.toNat, by rw [show ((r.t7.toNat : Nat) : Int) = r.t7 from Int.toNat_of_nonneg e7.1]; rfl, by have := e7.2; omega⟩
        clear hp3 t1 t2 t3 t4 t5 t6
        have htm : IntKind.i64.wrap ((tn : Int).tmod 16) = ((tn % 16 : Nat) : Int) := by
          have e : (tn : Int).tmod 16 = ((tn % 16 : Nat) : Int) := rfl
          rw [e]; exact wrap_nat (by omega)
        have hta : IntKind.i64.wrap (1 + ((tn % 16 : Nat) : Int)) = ((1 + tn % 16 : Nat) : Int) := by rw [wrap_i64_id] <;> omega
        (repeat' first
    | ((with_reducible refine wpd_at 22 ?_); refine wpd_tail 10 KR KR KR ?_)
    | with_reducible first | exact ⟨⟩ | (refine gB ?_; intros) | refine gT ?_ ?_
    | refine gs ?_
    | simp (maxDischargeDepth := 3) only [↓X, ↓Y, ↓Q, S1, ↓reduceIte, Nat.reduceEqDiff, Nat.reduceAdd, Int.reduceLT, Int.reduceLE, Int.reduceNeg, Int.reduceBEq, Int.reduceBNe, Int.reduceEq, Nat.reduceLeDiff, Nat.reduceMul, Nat.reduceLT, *, htn, htm, hta]
    | simp (singlePass := true) (maxDischargeDepth := 99) only [*, S2, Nat.reduceLT, htn, htm, hta])
        rename_i wC nC sC
        have hxC : Ext w3 wC := FR
        have I5 := I3.out.ext_ hxC
        obtain ⟨t1, t2, t3, t4, t5⟩ := tt.out
        refine fun hb => store_intro (i := k + 1) KR hb htk rfl fun wD hbD cD => ?_
        have nD : Now wD := trivial
        have I6 : Hid (MdI w wz.heap.size w5.heap.size b1 b2 c3 b4 b5 b6 c7 apv r (bn % 5) ln n n 0 0 wD) := MdI.take hS.out I5 (t1.ext hxC) (t2.ext hxC) (t3.ext hxC) (t4.ext hxC) (t5.ext hxC) t6'.out cD hbD (by omega) ⟨by omega, by omega⟩
        clear I5 t1 t2 t3 t4 t5 tt t6' hbD cD k36 k31 k37 sC I3 htk
        (repeat' first
    | with_reducible first | exact ⟨⟩ | (refine gB ?_; intros) | refine gT ?_ ?_
    | refine gs ?_
    | refine sx ?_)
        refine next_g hk3 hlt ?_
        (repeat' first
    | with_reducible first | exact ⟨⟩ | (refine gB ?_; intros) | refine gT ?_ ?_
    | refine gs ?_
    | refine sx ?_)
        all_goals first | exact I6.out | rfl
      · rintro g3 w3 n3 ⟨hi3, hf3, hp3⟩
        simp (maxDischargeDepth := 3) only [U, ↓reduceIte, Nat.reduceEqDiff, *] at hf3
        replace hi3 : g3 11 = .int .i64 8 := hi3
        (repeat' first
    | with_reducible first | exact ⟨⟩ | (refine gB ?_; intros) | refine gT ?_ ?_
    | refine gs ?_
    | refine sxMade231 ?_)
        all_goals exact hp3.out
    refine loop_g n (fun g0 k g w' => g 7 = .int .i64 (k : Int) ∧ (g 1 = g0 1 ∧ g 2 = g0 2 ∧ g 3 = g0 3 ∧ g 4 = g0 4 ∧ g 5 = g0 5 ∧ g 6 = g0 6 ∧ g 29 = g0 29) ∧ Hid (MdI w wz.heap.size w5.heap.size b1 b2 c3 b4 b5 b6 c7 apv r (bn % 5) ln n k 0 0 w')) KR ?_ ?_ ?_
    · (repeat' first
    | with_reducible first | exact ⟨⟩ | (refine gB ?_; intros) | refine gT ?_ ?_
    | refine gs ?_
    | refine sx ?_)
      all_goals exact M0.out
    · clear M0 K1 K2 K3 K4 K5 K6 K7 HO
      rintro k m g3 w3 hk3 hlt n3 ⟨hi3, hf3, hp3⟩
      simp (maxDischargeDepth := 3) only [U, ↓reduceIte, Nat.reduceEqDiff, *] at hf3
      have I3 : Hid (MdI w wz.heap.size w5.heap.size b1 b2 c3 b4 b5 b6 c7 apv r (bn % 5) ln n k 0 0 w3) := hp3
      have hx3 : Ext w w3 := I3.out.ext
      have s3 := hx3.st
      have r3 := Ext.refl w3
      have hkl : k < r.ks.length := by omega
      have hk8 : k < 8 := by omega
      have hklI : (k : Int) < (r.ks.length : Int) := by omega
      have hk8I : (k : Int) < 8 := by omega
      have k31 := (show Blk w3 b1 55 [r.kv, r.hv, r.av, .int .u8 r.t0, .int .u8 r.t1, .int .u8 r.t2, .int .u8 r.t3, .int .u8 r.t4, .int .u8 r.t5, .int .u8 r.t6, .int .u8 r.t7, r.wv, r.pv, r.dv, .int .u8 r.bl, .int .u8 r.la, .int .u8 r.ea, .int .u8 r.fu] from I3.out.k1).bk
      have hw : IntKind.i64.wrap ((k : Int) + 1) = ((k + 1 : Nat) : Int) := by rw [wrap_i64_id] <;> omega
      obtain ⟨kn, hkn⟩ : ∃ kn : Nat, r.ks[k] = kn := ⟨(r.ks[k]).toNat, by have := (hr.kb _ (List.getElem_mem hkl)).1; omega⟩
      have hkd := made_kind (kn := kn)
      clear hp3
      obtain ⟨z0, hz0⟩ : ∃ z, decide (k < r.hs.length) = z := ⟨_, rfl⟩
      (repeat' first
    | (with_reducible refine fork_hold z0 ?_)
    | with_reducible first | exact ⟨⟩ | (refine gB ?_; intros) | refine gT ?_ ?_
    | refine gs ?_
    | simp (maxDischargeDepth := 3) only [↓X, ↓Y, ↓Q, S1, ↓reduceIte, Nat.reduceEqDiff, Nat.reduceAdd, Int.reduceLT, Int.reduceLE, Int.reduceNeg, Int.reduceBEq, Int.reduceBNe, Int.reduceEq, Nat.reduceLeDiff, Nat.reduceMul, Nat.reduceLT, *, b8V, hkn, hkd]
    | simp (singlePass := true) (maxDischargeDepth := 99) only [*, S2, Nat.reduceLT, b8V, hkn, hkd])
      rename_i c8 wa4 n4 k4 s4 q4 wa5 n5 k5 s5
      have K85 : Blk wa5 c8 71 [.int .u8 ((1 + kn % 7 : Nat) : Int), .int .i64 0, .int .i64 0, .int .i64 0] := k5.2.1 _ k5.2.2.1
      have hx35 : Ext w3 wa5 := FR
      have hb83 : w3.heap.size ≤ c8 := FR
      refine fork_join (fun g' w' => (g' 1 = .pointer (some ⟨b1, 0, none⟩) ∧ g' 2 = .pointer (some ⟨b2, 0, none⟩) ∧ g' 3 = .pointer (some ⟨c3, 0, none⟩) ∧ g' 4 = .pointer (some ⟨b4, 0, none⟩) ∧ g' 5 = .pointer (some ⟨b5, 0, none⟩) ∧ g' 6 = .pointer (some ⟨b6, 0, none⟩) ∧ g' 29 = g9 29 ∧ g' 7 = .int .i64 k ∧ g' 8 = .pointer (some ⟨c8, 0, none⟩)) ∧ Hid (Ext w3 w' ∧ ∃ h : Nat, h ≤ 3 ∧ Blk w' c8 71 [.int .u8 ((1 + kn % 7 : Nat) : Int), .int .i64 (h : Int), .int .i64 0, .int .i64 0])) ?_ ?_ ?_
      · intro hz
        have hih : k < r.hs.length := by rw [← hz0] at hz; simpa using hz
        have hihI : (k : Int) < (r.hs.length : Int) := by omega
        obtain ⟨hn, hhn⟩ : ∃ hn : Nat, r.hs[k] = hn := ⟨(r.hs[k]).toNat, by have := (hr.hb _ (List.getElem_mem hih)).1; omega⟩
        have hhd := made_host (hn := hn)
        clear hz0 hz
        (repeat' first
    | with_reducible first | exact ⟨⟩ | (refine gB ?_; intros) | refine gT ?_ ?_
    | refine gs ?_
    | simp (maxDischargeDepth := 3) only [↓X, ↓Y, ↓Q, S1, ↓reduceIte, Nat.reduceEqDiff, Nat.reduceAdd, Int.reduceLT, Int.reduceLE, Int.reduceNeg, Int.reduceBEq, Int.reduceBNe, Int.reduceEq, Nat.reduceLeDiff, Nat.reduceMul, Nat.reduceLT, *, b8V, hkn, hkd, hhn, hhd]
    | simp (singlePass := true) (maxDischargeDepth := 99) only [*, S2, Nat.reduceLT, b8V, hkn, hkd, hhn, hhd])
        refine st_one (i := 1) KR (by simp) rfl fun wa na ka sa => ?_
        have F : Hid (Ext w3 wa ∧ ∃ h : Nat, h ≤ 3 ∧ Blk wa c8 71 [.int .u8 ((1 + kn % 7 : Nat) : Int), .int .i64 (h : Int), .int .i64 0, .int .i64 0]) := ⟨FR, hn % 4, by omega, ka.2.1 _ ka.2.2.1⟩
        (repeat' first
    | with_reducible first | exact ⟨⟩ | (refine gB ?_; intros) | refine gT ?_ ?_
    | refine gs ?_
    | refine sx ?_)
        all_goals first | exact F.out | exact F.out.2
      · intro hz
        have F : Hid (Ext w3 wa5 ∧ ∃ h : Nat, h ≤ 3 ∧ Blk wa5 c8 71 [.int .u8 ((1 + kn % 7 : Nat) : Int), .int .i64 (h : Int), .int .i64 0, .int .i64 0]) := ⟨hx35, 0, by omega, K85⟩
        clear hz0 hz
        (repeat' first
    | with_reducible first | exact ⟨⟩ | (refine gB ?_; intros) | refine gT ?_ ?_
    | refine gs ?_
    | refine sx ?_)
        all_goals first | exact F.out | exact F.out.2
      · rintro g4 w8 n8 ⟨⟨f1, f2, f3, f4, f5, f6, f29, f7, f8⟩, hp8⟩
        obtain ⟨hx38, hh, hh3, K8⟩ := hp8.out
        have s8 := hx38.st
        have r8 := Ext.refl w8
        have hwj : ∀ j : Nat, j < k → IntKind.i64.wrap ((j : Int) + 1) = ((j + 1 : Nat) : Int) := fun j hj => by rw [wrap_i64_id] <;> omega
        have K8' : Hid (Blk w8 c8 71 [.int .u8 ((1 + kn % 7 : Nat) : Int), .int .i64 (hh : Int), .int .i64 0, .int .i64 0]) := K8
        have hx38' : Hid (Ext w3 w8) := hx38
        have hb8 : w3.heap.size ≤ c8 := hb83
        clear n4 k4 s4 q4 n5 k5 s5 K85 hx35 hp8 hkd hz0 hkn K8
        (repeat' first
    | with_reducible first | exact ⟨⟩ | (refine gB ?_; intros) | refine gT ?_ ?_
    | refine gs ?_
    | refine sx ?_)
        refine loop_g k (fun g0 j g w' => g 10 = .int .i64 (j : Int) ∧ (g 1 = g0 1 ∧ g 2 = g0 2 ∧ g 3 = g0 3 ∧ g 4 = g0 4 ∧ g 5 = g0 5 ∧ g 6 = g0 6 ∧ g 7 = g0 7 ∧ g 8 = g0 8 ∧ g 29 = g0 29) ∧ ∃ tv, g 9 = tv ∧ Hid (Ext w8 w' ∧ Own w' w8.heap.size 3 1 tv ((((List.range j).filter (aftF r k)).map Int.ofNat).map intC))) KR ?_ ?_ ?_
        · (repeat' first
    | with_reducible first | exact ⟨⟩ | (refine gB ?_; intros) | refine gT ?_ ?_
    | refine gs ?_
    | refine sx ?_)
          exact ⟨_, rfl, Own.nil _ _ _ _⟩
        · rintro j m2 g5 wj hkj hltj nj ⟨hij, hfj, tv, h9, hpj⟩
          simp (maxDischargeDepth := 3) only [U, ↓reduceIte, Nat.reduceEqDiff, *] at hfj
          obtain ⟨hxj, hoj⟩ := hpj.out
          have sj := hxj.st
          have rj := Ext.refl wj
          have hwj1 := hwj j hltj
          have hltjI : (j : Int) < (k : Int) := by omega
          have hoj' : Hid (Own wj w8.heap.size 3 1 tv ((((List.range j).filter (aftF r k)).map Int.ofNat).map intC)) := hoj
          have hxj' : Hid (Ext w8 wj) := hxj
          have htv1 := hoj.one
          have hskip : Hid (aftF r k j = false → Own wj w8.heap.size 3 1 tv ((((List.range (j + 1)).filter (aftF r k)).map Int.ofNat).map intC)) := fun e => by
            rw [List.range_succ, List.filter_append, List.filter_cons, if_neg (by rw [e]; decide), List.filter_nil, List.append_nil]; exact hoj
          clear hpj hoj hwj
          by_cases hko : k < r.os.length
          · obtain ⟨an, han⟩ : ∃ an : Nat, r.os[k] = an := ⟨(r.os[k]).toNat, by have := (hr.ab _ (List.getElem_mem hko)).1; omega⟩
            have hkoI : (k : Int) < (r.os.length : Int) := by omega
            have han6 : an < 65536 := by have := (hr.ab _ (List.getElem_mem hko)).2; omega
            have hb := bit16 (a := an) (k := j) han6 (by omega)
            have hwu : IntKind.u64.wrap (j : Int) = (j : Int) := by rw [IntKind.wrap_u64]; omega
            have hj0 : (0 : Int) ≤ (j : Int) := Int.natCast_nonneg j
            have hF : aftF r k j = an.testBit j := by
              simp only [aftF, decide_eq_true hko, Bool.true_and, List.getD_eq_getElem?_getD, List.getElem?_eq_getElem hko, Option.getD_some, han, Int.toNat_natCast]
            cases hbit : an.testBit j
            · rw [hbit] at hb hF
              have hO : Hid _ := hskip.out hF
              clear hskip hF hbit han6
              (repeat' first
    | with_reducible first | exact ⟨⟩ | (refine gB ?_; intros) | refine gT ?_ ?_
    | refine gs ?_
    | simp (maxDischargeDepth := 3) only [↓X, ↓Y, ↓Q, S1, ↓reduceIte, Nat.reduceEqDiff, Nat.reduceAdd, Int.reduceLT, Int.reduceLE, Int.reduceNeg, Int.reduceBEq, Int.reduceBNe, Int.reduceEq, Nat.reduceLeDiff, Nat.reduceMul, Nat.reduceLT, *, b16V, han, hb, hwu]
    | simp (singlePass := true) (maxDischargeDepth := 99) only [*, S2, Nat.reduceLT, b16V, han, hb, hwu])
              refine next_g hkj hltj ?_
              (repeat' first
    | with_reducible first | exact ⟨⟩ | (refine gB ?_; intros) | refine gT ?_ ?_
    | refine gs ?_
    | refine sx ?_)
              all_goals exact ⟨_, rfl, hO.out⟩
            · rw [hbit] at hb hF
              have hO : Hid ((((List.range (j + 1)).filter (aftF r k)).map Int.ofNat) = ((List.range j).filter (aftF r k)).map Int.ofNat ++ [(j : Int)]) := by
                show (((List.range (j + 1)).filter (aftF r k)).map Int.ofNat) = _
                rw [List.range_succ, List.filter_append, List.filter_cons, if_pos hF, List.filter_nil, List.map_append]; rfl
              have hll : (((List.range j).filter (aftF r k)).map Int.ofNat).length < 1000000000000 := by
                rw [List.length_map]
                have := List.length_filter_le (aftF r k) (List.range j)
                rw [List.length_range] at this
                omega
              clear hskip hF hbit han6
              (repeat' first
    | with_reducible first | exact ⟨⟩ | (refine gB ?_; intros) | refine gT ?_ ?_
    | refine gs ?_
    | simp (maxDischargeDepth := 3) only [↓X, ↓Y, ↓Q, S1, ↓reduceIte, Nat.reduceEqDiff, Nat.reduceAdd, Int.reduceLT, Int.reduceLE, Int.reduceNeg, Int.reduceBEq, Int.reduceBNe, Int.reduceEq, Nat.reduceLeDiff, Nat.reduceMul, Nat.reduceLT, *, b16V, han, hb, hwu]
    | simp (singlePass := true) (maxDischargeDepth := 99) only [*, S2, Nat.reduceLT, b16V, han, hb, hwu])
              rename_i bx wx nx kx sx9 qx zx
              have Kx : Blk wx bx 3 (intC (j : Int)) := kx.2.1 _ kx.2.2.1
              have hxx : Ext wj wx := FR
              have hB8 : w8.heap.size ≤ wx.heap.size := FR
              refine append_k (e := 3) (sz := 1) (by_ := 8) (z := .int .i64 0) (c := intC) (j : Int) KR KR rfl (by decide) (by decide) (hoj'.out.ext hxx) Kx rfl (by simp [intC, intV, one_int]) hll hB8 fun v' w10 n10 s10 ho10 => ?_
              have hx10 : Ext w8 w10 := FR
              have ho11 : Hid (Own w10 w8.heap.size 3 1 v' ((((List.range (j + 1)).filter (aftF r k)).map Int.ofNat).map intC)) := by rw [hO.out]; exact ho10
              clear ho10 Kx kx
              (repeat' first
    | with_reducible first | exact ⟨⟩ | (refine gB ?_; intros) | refine gT ?_ ?_
    | refine gs ?_
    | refine sx ?_)
              refine next_g hkj hltj ?_
              (repeat' first
    | with_reducible first | exact ⟨⟩ | (refine gB ?_; intros) | refine gT ?_ ?_
    | refine gs ?_
    | refine sx ?_)
              all_goals exact ⟨_, rfl, ho11.out⟩
          · have hko' : ¬ (k : Int) < (r.os.length : Int) := by omega
            have hO : Hid _ := hskip.out (by simp only [aftF, decide_eq_false hko, Bool.false_and])
            clear hskip
            (repeat' first
    | with_reducible first | exact ⟨⟩ | (refine gB ?_; intros) | refine gT ?_ ?_
    | refine gs ?_
    | refine sx ?_)
            refine next_g hkj hltj ?_
            (repeat' first
    | with_reducible first | exact ⟨⟩ | (refine gB ?_; intros) | refine gT ?_ ?_
    | refine gs ?_
    | refine sx ?_)
            all_goals exact ⟨_, rfl, hO.out⟩
        · rintro g5 wj nj ⟨hij, hfj, tv, h9, hpj⟩
          simp (maxDischargeDepth := 3) only [U, ↓reduceIte, Nat.reduceEqDiff, *] at hfj
          obtain ⟨hxj, hoj⟩ := hpj.out
          have rj := Ext.refl wj
          have htv1 := hoj.one
          have hc1 := cellsL_one htv1
          obtain ⟨sv, av, vs, steps, after, p1, p2, p3, p4, p5, p6, p7, p8⟩ := I3.out.p
          have hxw : Ext w3 wj := hx38'.out.trans hxj
          obtain ⟨g1, hg1, hg1c, hg1l, hg1t⟩ := mo_block p2 I3.out.k2
          obtain ⟨g2, hg2, hg2c, hg2l, hg2t⟩ := mo_block p3 I3.out.k3
          have P1 : Blk wj b5 33 [sv, av] := p1.ext hxw
          have K8j : Blk wj c8 71 [.int .u8 ((1 + kn % 7 : Nat) : Int), .int .i64 (hh : Int), .int .i64 0, .int .i64 0] := K8'.out.ext hxj
          have kP := P1.bk
          have k8j := K8j.bk
          have P2 : Hid (Own wj wz.heap.size 71 4 sv (steps.map stepC)) := p2.ext hxw
          have P3 : Hid (Own wj wz.heap.size 39 1 av (vs.map fun v => [v])) := p3.ext hxw
          have K2j : Hid (Blk wj b2 29 zSite) := I3.out.k2.ext hxw
          have K3j : Hid (Blk wj c3 33 zPlan) := I3.out.k3.ext hxw
          have n12 : ¬ g1 = g2 := by
            rintro rfl
            rcases hg1t with ⟨_, h1⟩ | h1 <;> rcases hg2t with ⟨_, h2⟩ | h2 <;> exact absurd (h1.type h2) (by decide)
          have n5g1 : ¬ b5 = g1 := by
            rintro rfl
            rcases hg1t with ⟨_, h1⟩ | h1 <;> exact absurd (h1.type p1) (by decide)
          have n5g2 : ¬ b5 = g2 := by
            rintro rfl
            rcases hg2 with e | e
            · exact p3.ne p1 (by decide) e
            · exact hS.out.n35 e.symm
          have n8g1 : ¬ c8 = g1 := by omega
          have n8g2 : ¬ c8 = g2 := by omega
          have hw3j := hxw.size
          have hg1j : g1 < wj.heap.size := by omega
          have hg2j : g2 < wj.heap.size := by omega
          have hzj : Hid (wz.heap.size ≤ wj.heap.size) := Nat.le_trans I3.out.size hw3j
          have hl1 : Hid (steps.length < 1000000000000) := show steps.length < 1000000000000 by omega
          have hl2 : Hid (vs.length < 1000000000000) := show vs.length < 1000000000000 by omega
          have hgrow : Hid (∀ (w9 w10 w11 : World) (v1 v2 : Value), TBn (fun c => c = g1 ∨ c = g2) wj w9 → MoA w9 wj.heap.size wz.heap.size 71 4 g1 b2 29 zSite v1 ((steps ++ [(StepD.mk ((1 + kn % 7 : Nat) : Int) (hh : Int) 0 0)]).map stepC) → MoA w9 wj.heap.size wz.heap.size 39 1 g2 c3 33 zPlan v2 ((vs ++ [tv]).map fun v => [v]) → Chg w9 w10 b5 → Chg w10 w11 b5 → Blk w11 b5 33 [v1, v2] → MdI w wz.heap.size w5.heap.size b1 b2 c3 b4 b5 b6 c7 apv r (bn % 5) ln n (k + 1) 0 0 w11) := fun w9 w10 w11 v1 v2 hT m1 m2 c10 c11 kb => MdI.grow (f := aftF r k) (Bt := w8.heap.size) hS.out I3.out p1 p2 p3 p4 p5 p6 p7 p8 hxw (Nat.le_trans I3.out.size hx38'.out.size) hoj hT m1 m2 hg1 hg2 c10 c11 kb ⟨by show (1 : Int) ≤ ((1 + kn % 7 : Nat) : Int); omega, by show ((1 + kn % 7 : Nat) : Int) ≤ 7; omega, by show (0 : Int) ≤ (hh : Int); omega, by show (hh : Int) ≤ 3; omega⟩
          have hg1c' : Hid _ := hg1c
          have hg2c' : Hid _ := hg2c
          have hb2z : Hid (b2 < wz.heap.size ∧ c3 < wz.heap.size) := ⟨hS.out.h1.2.1, hS.out.h1.2.2.1⟩
          clear p1 p2 p3 p4 p5 p6 p7 p8 hg1t hg2t hpj hoj hxj hwj hx3 s3 r3 s8 r8 hx38 hg1 hg2 hg1c hg2c K8j hg1l hg2l
          (repeat' first
    | ((with_reducible refine wpd_at 16 ?_); refine wpd_hold ?_)
    | with_reducible first | exact ⟨⟩ | (refine gB ?_; intros) | refine gT ?_ ?_
    | refine gs ?_
    | refine sx ?_)
          have hRB : ∀ b ∈ [g1, g2], b < wj.heap.size := by simp only [List.mem_cons, List.not_mem_nil, or_false, forall_eq_or_imp, forall_eq]; exact FR
          unfold wpdH
          refine wpd_relL 11 [g1, g2] [(4, g1), (9, g2)] rfl (fun iI v w9 => match iI with
            | 0 => v = .pointer (some ⟨b5, 0, none⟩)
            | 1 => v = sv
            | 2 => v = .agg #[.int .u8 ((1 + kn % 7 : Nat) : Int), .int .i64 (hh : Int), .int .i64 0, .int .i64 0]
            | 3 => ∃ b, v = .slice (some ⟨b, 0, none⟩) 1 1 ∧ Blk w9 b 71 [.int .u8 ((1 + kn % 7 : Nat) : Int), .int .i64 (hh : Int), .int .i64 0, .int .i64 0] ∧ wj.heap.size ≤ b
            | 4 => MoA w9 wj.heap.size wz.heap.size 71 4 g1 b2 29 zSite v ((steps ++ [(StepD.mk ((1 + kn % 7 : Nat) : Int) (hh : Int) 0 0)]).map stepC)
            | 5 => v = .pointer (some ⟨b5, 1, none⟩)
            | 6 => v = av
            | 7 => v = tv
            | 8 => ∃ b, v = .slice (some ⟨b, 0, none⟩) 1 1 ∧ Blk w9 b 39 [tv] ∧ wj.heap.size ≤ b
            | 9 => MoA w9 wj.heap.size wz.heap.size 39 1 g2 c3 33 zPlan v ((vs ++ [tv]).map fun v => [v])
            | 10 => v = .pointer (some ⟨b5, 0, none⟩)
            | _ => False) KR KR KR hRB (by simp only [List.nodup_cons, List.mem_cons, List.not_mem_nil, or_false, not_or, List.nodup_nil, not_false_eq_true, and_true] <;> exact FR) ?_ ?_ ?_
          · intro iI v w1 w2 hR hx9
            match iI, hR with
            | 0, h => exact h
            | 1, h => exact h
            | 2, h => exact h
            | 3, ⟨b, e, h1, h2⟩ => exact ⟨b, e, h1.tb hx9 (fun hX => by have := hRB b hX.1; omega), h2⟩
            | 4, h => exact MoA.tb h hx9 (fun b hX => ⟨fun e => hX.2 (by rw [e]; rfl), hRB b hX.1⟩)
            | 5, h => exact h
            | 6, h => exact h
            | 7, h => exact h
            | 8, ⟨b, e, h1, h2⟩ => exact ⟨b, e, h1.tb hx9 (fun hX => by have := hRB b hX.1; omega), h2⟩
            | 9, h => exact MoA.tb h hx9 (fun b hX => ⟨fun e => hX.2 (by rw [e]; rfl), hRB b hX.1⟩)
            | 10, h => exact h
          · intro iI oO hi ho gF w9 hx9 hdep hag hun
            have s9 := hx9.sb
            simp only [Sb, List.mem_cons, List.not_mem_nil, or_false, forall_eq_or_imp, forall_eq] at s9
            have n9 : Now w9 := trivial
            have r9 := Ext.refl w9
            have z9 := hx9.size
            rcases iI with _|_|_|_|_|_|_|_|_|_|_|iI
            have e := Option.some.inj ho
            subst e
            have a5 := hag.at 5 KR
            simp only [S5, ↓reduceIte, Nat.reduceEqDiff, initF, *] at a5
            clear hag hdep ho hun
            refine ⟨fun _ => ?_, fun b hb => by simp [bkL] at hb⟩
            refine relStep_off rfl ?_
            rotate_left
            have e := Option.some.inj ho
            subst e
            have d0 : (gF 89) = .pointer (some ⟨b5, 0, none⟩) := hdep ⟨0, .data⟩ (by simp) rfl _ _ rfl rfl
            have un4 : Kp g1 wj w9 := ⟨hRB _ (by simp), hun 4 _ (by decide) rfl KR⟩
            clear hag hdep ho hun
            refine ⟨fun _ => ?_, fun b hb => by simp [bkL] at hb⟩
            refine relStep_off rfl ?_
            rotate_left
            have e := Option.some.inj ho
            subst e
            have a8 := hag.at 8 KR
            simp only [S5, ↓reduceIte, Nat.reduceEqDiff, initF, *] at a8
            clear hag hdep ho hun
            refine ⟨fun _ => ?_, fun b hb => by simp [bkL] at hb⟩
            refine relStep_off rfl ?_
            rotate_left
            have e := Option.some.inj ho
            subst e
            have d2 : (gF 91) = .agg #[.int .u8 ((1 + kn % 7 : Nat) : Int), .int .i64 (hh : Int), .int .i64 0, .int .i64 0] := hdep ⟨2, .data⟩ (by simp) rfl _ _ rfl rfl
            have un4 : Kp g1 wj w9 := ⟨hRB _ (by simp), hun 4 _ (by decide) rfl KR⟩
            clear hag hdep ho hun
            refine ⟨fun _ => ?_, fun b hb => by simp [bkL] at hb⟩
            refine relStep_off rfl ?_
            rotate_left
            have e := Option.some.inj ho
            subst e
            have d1 : (gF 90) = sv := hdep ⟨1, .data⟩ (by simp) rfl _ _ rfl rfl
            have d3 : ∃ b, (gF 92) = .slice (some ⟨b, 0, none⟩) 1 1 ∧ Blk w9 b 71 [.int .u8 ((1 + kn % 7 : Nat) : Int), .int .i64 (hh : Int), .int .i64 0, .int .i64 0] ∧ wj.heap.size ≤ b := hdep ⟨3, .data⟩ (by simp) rfl _ _ rfl rfl
            obtain ⟨b3, e3, hb3, q3⟩ := d3
            have k3 := hb3.bk
            have nw3 := Nw.of q3
            have un9 : Kp g2 wj w9 := ⟨hRB _ (by simp), hun 9 _ (by decide) rfl KR⟩
            clear hag hdep ho hun
            refine ⟨fun h => by simp [bkL] at h, fun b hb hU => ?_⟩
            obtain rfl : g1 = b := by simpa [bkL] using hb
            refine relStep_off rfl ?_
            rotate_left
            have e := Option.some.inj ho
            subst e
            have a5 := hag.at 5 KR
            simp only [S5, ↓reduceIte, Nat.reduceEqDiff, initF, *] at a5
            clear hag hdep ho hun
            refine ⟨fun _ => ?_, fun b hb => by simp [bkL] at hb⟩
            refine relStep_off rfl ?_
            rotate_left
            have e := Option.some.inj ho
            subst e
            have d5 : (gF 94) = .pointer (some ⟨b5, 1, none⟩) := hdep ⟨5, .data⟩ (by simp) rfl _ _ rfl rfl
            have un9 : Kp g2 wj w9 := ⟨hRB _ (by simp), hun 9 _ (by decide) rfl KR⟩
            clear hag hdep ho hun
            refine ⟨fun _ => ?_, fun b hb => by simp [bkL] at hb⟩
            refine relStep_off rfl ?_
            rotate_left
            have e := Option.some.inj ho
            subst e
            have a9 := hag.at 9 KR
            simp only [S5, ↓reduceIte, Nat.reduceEqDiff, initF, *] at a9
            clear hag hdep ho hun
            refine ⟨fun _ => ?_, fun b hb => by simp [bkL] at hb⟩
            refine relStep_off rfl ?_
            rotate_left
            have e := Option.some.inj ho
            subst e
            have d7 : (gF 96) = tv := hdep ⟨7, .data⟩ (by simp) rfl _ _ rfl rfl
            have un9 : Kp g2 wj w9 := ⟨hRB _ (by simp), hun 9 _ (by decide) rfl KR⟩
            clear hag hdep ho hun
            refine ⟨fun _ => ?_, fun b hb => by simp [bkL] at hb⟩
            refine relStep_off rfl ?_
            rotate_left
            have e := Option.some.inj ho
            subst e
            have d6 : (gF 95) = av := hdep ⟨6, .data⟩ (by simp) rfl _ _ rfl rfl
            have d8 : ∃ b, (gF 97) = .slice (some ⟨b, 0, none⟩) 1 1 ∧ Blk w9 b 39 [tv] ∧ wj.heap.size ≤ b := hdep ⟨8, .data⟩ (by simp) rfl _ _ rfl rfl
            obtain ⟨b8, e8, hb8, q8⟩ := d8
            have k8 := hb8.bk
            have nw8 := Nw.of q8
            clear hag hdep ho hun
            refine ⟨fun h => by simp [bkL] at h, fun b hb hU => ?_⟩
            obtain rfl : g2 = b := by simpa [bkL] using hb
            refine relStep_off rfl ?_
            rotate_left
            have e := Option.some.inj ho
            subst e
            have a5 := hag.at 5 KR
            simp only [S5, ↓reduceIte, Nat.reduceEqDiff, initF, *] at a5
            clear hag hdep ho hun
            refine ⟨fun _ => ?_, fun b hb => by simp [bkL] at hb⟩
            refine relStep_off rfl ?_
            rotate_left
            · omega
            all_goals (repeat' first
    | with_reducible first | exact ⟨⟩ | (refine gB ?_; intros) | refine gT ?_ ?_
    | refine gs ?_
    | refine sx ?_)
            all_goals first
              | (rename_i b10 w10 n10 k10 s10 q10; exact ⟨_, rfl, k10.2.1 _ k10.2.2.1, FR⟩)
              | (rename_i b10 w10 n10 k10 s10 q10 l10; exact ⟨_, rfl, k10.2.1 _ k10.2.2.1, FR⟩)
              | (exact MoA.app (e := 71) (sz := 4) (by_ := 32) (zz := .agg #[.int .u8 0, .int .i64 0, .int .i64 0, .int .i64 0]) (c := stepC) (StepD.mk ((1 + kn % 7 : Nat) : Int) (hh : Int) 0 0) KR KR rfl (by decide) (by decide) (P2.out.keep fun b hb => by obtain rfl := hg1c'.out b hb; exact hU) hg1c'.out hb2z.out.1 (fun e => (show w9.heap[b2]? = wj.heap[b2]? by rw [← e]; exact hU).trans K2j.out) (k3.2.1 _ FR) rfl (by simp [stepC, intV, one_int, Value.oneCell']) hl1.out (Nat.le_trans hzj.out z9) z9)
              | (exact MoA.app (e := 39) (sz := 1) (by_ := 24) (zz := .slice none 0 0) (c := fun v => [v]) tv KR KR rfl (by decide) (by decide) (P3.out.keep fun b hb => by obtain rfl := hg2c'.out b hb; exact hU) hg2c'.out hb2z.out.2 (fun e => (show w9.heap[c3]? = wj.heap[c3]? by rw [← e]; exact hU).trans K3j.out) (k8.2.1 _ FR) rfl (by simp [htv1]) hl2.out (Nat.le_trans hzj.out z9) z9)
          · intro g9 w9 hx9 hR hS9 hag
            have s9 := hx9.sb
            simp only [Sb, List.mem_cons, List.not_mem_nil, or_false, forall_eq_or_imp, forall_eq] at s9
            have n9 : Now w9 := trivial
            have r9 := Ext.refl w9
            have z9 := hx9.size
            have d4 : MoA w9 wj.heap.size wz.heap.size 71 4 g1 b2 29 zSite (g9 93) ((steps ++ [(StepD.mk ((1 + kn % 7 : Nat) : Int) (hh : Int) 0 0)]).map stepC) := hR 4 _ _ (by decide) rfl rfl
            have d9 : MoA w9 wj.heap.size wz.heap.size 39 1 g2 c3 33 zPlan (g9 98) ((vs ++ [tv]).map fun v => [v]) := hR 9 _ _ (by decide) rfl rfl
            have d10 : (g9 99) = .pointer (some ⟨b5, 0, none⟩) := hR 10 _ _ (by decide) rfl rfl
            have a1 := hag.at 1 KR
            have a2 := hag.at 2 KR
            have a3 := hag.at 3 KR
            have a4 := hag.at 4 KR
            have a5 := hag.at 5 KR
            have a6 := hag.at 6 KR
            have a7 := hag.at 7 KR
            have a29 := hag.at 29 KR
            simp only [S5, ↓reduceIte, Nat.reduceEqDiff, initF, *] at a1 a2 a3 a4 a5 a6 a7 a29
            clear hag hR hS9
            simp only [List.drop_succ_cons, List.drop_zero]
            have hT9 : TBn (fun c => c = g1 ∨ c = g2) wj w9 := ⟨hx9.os, hx9.tape, hx9.output, hx9.size, fun c hc hn => hx9.block c hc fun hm => hn (by simpa using hm)⟩
            have k9P := (P1.tb hT9 fun hm => hm.elim n5g1 n5g2).bk
            have hv1 := d4.own.one
            have hv2 := d9.own.one
            have hG : Hid (∀ w10 w11, Chg w9 w10 b5 → Chg w10 w11 b5 → Blk w11 b5 33 [g9 93, g9 98] → _) := fun w10 w11 => hgrow.out w9 w10 w11 _ _ hT9 d4 d9
            clear d4 d9 hgrow kP k8j P1 P2 P3 K2j K3j hx9 s9 r9 z9 hRB hT9 k31 I3 K8' hx38' hxw rj
            (repeat' first
    | with_reducible first | exact ⟨⟩ | (refine gB ?_; intros) | refine gT ?_ ?_
    | refine gs ?_
    | refine sx ?_)
            refine fun hb => store_intro (i := 0) KR hb (by simp) hv1 fun wA hbA cA => ?_
            have nA : Now wA := trivial
            simp only [List.set_cons_zero] at hbA
            have kA := hbA.bk
            clear k9P
            (repeat' first
    | with_reducible first | exact ⟨⟩ | (refine gB ?_; intros) | refine gT ?_ ?_
    | refine gs ?_
    | refine sx ?_)
            refine fun hb => store_intro (i := 1) KR hb (by simp) hv2 fun wB hbB cB => ?_
            have nB : Now wB := trivial
            simp only [List.set_cons_succ, List.set_cons_zero] at hbB
            have I4 : Hid (MdI w wz.heap.size w5.heap.size b1 b2 c3 b4 b5 b6 c7 apv r (bn % 5) ln n (k + 1) 0 0 wB) := hG.out _ _ cA cB hbB
            have hx4 : Ext w wB := I4.out.ext
            have s4 := hx4.st
            have rB := Ext.refl wB
            have k41 := (show Blk wB b1 55 [r.kv, r.hv, r.av, .int .u8 r.t0, .int .u8 r.t1, .int .u8 r.t2, .int .u8 r.t3, .int .u8 r.t4, .int .u8 r.t5, .int .u8 r.t6, .int .u8 r.t7, r.wv, r.pv, r.dv, .int .u8 r.bl, .int .u8 r.la, .int .u8 r.ea, .int .u8 r.fu] from I4.out.k1).bk
            obtain ⟨wv, rv, wl, al, tk, aps, t1, t2, t3, t4, t5, t6⟩ := I4.out.t
            have k46 := (show Blk wB b6 41 [wv, rv, .int .i64 ((bn % 5 : Nat) : Int), .slice none 0 0, .slice (some ⟨c7, 0, none⟩) 8 8, apv, .int .i64 20, .int .i64 ((20 + ln : Nat) : Int)] from t1).bk
            have tt : Hid _ := And.intro t1 (And.intro t2 (And.intro t3 (And.intro t4 t5)))
            have t6' : Hid _ := t6
            have hna : aps.length = n := t6.2.2.1
            have hka : k < aps.length := by omega
            have KA := (t5.sl1 (f := intV)).v (Nat.le_refl _)
            clear hG kA hbA hbB cA cB nA n12 n5g1 n5g2 n8g1 n8g2 hw3j hg1j hg2j hzj hl1 hl2 hg1c' hg2c' hb2z t1 t2 t3 t4 t5 t6 hna
            by_cases hkd : k < r.ds.length
            · obtain ⟨dn, hdn⟩ : ∃ dn : Nat, r.ds[k] = dn := ⟨(r.ds[k]).toNat, by have := (hr.db _ (List.getElem_mem hkd)).1; omega⟩
              have hdn8 : dn ≤ 255 := by have := (hr.db _ (List.getElem_mem hkd)).2; omega
              have hkdI : (k : Int) < (r.ds.length : Int) := by omega
              have hdw : IntKind.i64.wrap (dn : Int) = (dn : Int) := wrap_nat (by omega)
              have hd1 : IntKind.i64.wrap ((dn : Int) - 1) = (dn : Int) - 1 := by rw [wrap_i64_id] <;> omega
              (repeat' first
    | ((with_reducible refine wpd_at 18 ?_); refine wpd_tail 10 KR KR KR ?_)
    | with_reducible first | exact ⟨⟩ | (refine gB ?_; intros) | refine gT ?_ ?_
    | refine gs ?_
    | simp (maxDischargeDepth := 3) only [↓X, ↓Y, ↓Q, S1, ↓reduceIte, Nat.reduceEqDiff, Nat.reduceAdd, Int.reduceLT, Int.reduceLE, Int.reduceNeg, Int.reduceBEq, Int.reduceBNe, Int.reduceEq, Nat.reduceLeDiff, Nat.reduceMul, Nat.reduceLT, *, b8V, hdn, hdw, hd1]
    | simp (singlePass := true) (maxDischargeDepth := 99) only [*, S2, Nat.reduceLT, b8V, hdn, hdw, hd1])
              rename_i wC nC sC
              have hxC : Ext wB wC := FR
              have I5 := I4.out.ext_ hxC
              obtain ⟨t1, t2, t3, t4, t5⟩ := tt.out
              refine own_setE KR (t5.ext hxC) (by rw [List.length_map]; exact hka) rfl fun g wD nD hg _ _ hoD sD cD => ?_
              have I6 : Hid (MdI w wz.heap.size w5.heap.size b1 b2 c3 b4 b5 b6 c7 apv r (bn % 5) ln n (k + 1) 0 0 wD) := MdI.app hS.out I5 (t1.ext hxC) (t2.ext hxC) (t3.ext hxC) (t4.ext hxC) (t5.ext hxC) t6'.out hg cD hoD ⟨by omega, by omega⟩
              clear I5 t1 t2 t3 t4 t5 tt t6' hoD hg sD cD KA k46 k41 s4 sC hx4 I4
              (repeat' first
    | with_reducible first | exact ⟨⟩ | (refine gB ?_; intros) | refine gT ?_ ?_
    | refine gs ?_
    | refine sx ?_)
              refine next_g hk3 hlt ?_
              (repeat' first
    | with_reducible first | exact ⟨⟩ | (refine gB ?_; intros) | refine gT ?_ ?_
    | refine gs ?_
    | refine sx ?_)
              all_goals exact I6.out
            · have hkdI : ¬ (k : Int) < (r.ds.length : Int) := by omega
              clear tt t6' KA k46
              (repeat' first
    | with_reducible first | exact ⟨⟩ | (refine gB ?_; intros) | refine gT ?_ ?_
    | refine gs ?_
    | refine sx ?_)
              refine next_g hk3 hlt ?_
              (repeat' first
    | with_reducible first | exact ⟨⟩ | (refine gB ?_; intros) | refine gT ?_ ?_
    | refine gs ?_
    | refine sx ?_)
              all_goals exact I4.out
    · rintro g3 w3 n3 ⟨hi3, hf3, hp3⟩
      simp (maxDischargeDepth := 3) only [U, ↓reduceIte, Nat.reduceEqDiff, *] at hf3
      have I3 : Hid (MdI w wz.heap.size w5.heap.size b1 b2 c3 b4 b5 b6 c7 apv r (bn % 5) ln n n 0 0 w3) := hp3
      have r3 := Ext.refl w3
      have k31 := (show Blk w3 b1 55 [r.kv, r.hv, r.av, .int .u8 r.t0, .int .u8 r.t1, .int .u8 r.t2, .int .u8 r.t3, .int .u8 r.t4, .int .u8 r.t5, .int .u8 r.t6, .int .u8 r.t7, r.wv, r.pv, r.dv, .int .u8 r.bl, .int .u8 r.la, .int .u8 r.ea, .int .u8 r.fu] from I3.out.k1).bk
      have hx3 : Ext w w3 := I3.out.ext
      have s3 := hx3.st
      clear M0 K1 K2 K3 K4 K5 K6 K7 HO hp3
      by_cases hc : n < r.ks.length
      · have hc1 : (n : Int) < (r.ks.length : Int) := by omega
        have hc2 : ¬ (n : Int) < 8 := by omega
        (repeat' first
    | with_reducible first | exact ⟨⟩ | (refine gB ?_; intros) | refine gT ?_ ?_
    | refine gs ?_
    | refine sxMade231 ?_)
        all_goals exact I3.out
      · have hc1 : ¬ (n : Int) < (r.ks.length : Int) := by omega
        (repeat' first
    | with_reducible first | exact ⟨⟩ | (refine gB ?_; intros) | refine gT ?_ ?_
    | refine gs ?_
    | refine sxMade231 ?_)
        all_goals exact I3.out
end
end Go.Proofs.YtopfddchckdhgaaGreat
