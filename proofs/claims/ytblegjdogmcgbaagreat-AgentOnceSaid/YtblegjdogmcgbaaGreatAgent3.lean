
/- The layer agent: Handle. -/
import Derived.Test.YtblegjdogmcgbaaGreatAgent2
import Derived.Test.YtblegjdogmcgbaaGreatRow
import Derived.Test.YtblegjdogmcgbaaGreatRel3
namespace Go.Proofs.YtblegjdogmcgbaaGreat
set_option linter.unusedSimpArgs false
set_option linter.unusedVariables false
open Go Go.RowKit
set_option maxRecDepth 100000
set_option linter.unusedSectionVars false
set_option maxHeartbeats 2000000
def HandR (B : Nat) (v : Value) (w : World) (d : HandleD) : Prop := ∃ v0 a, v = .tuple #[v0, .agg #[a], replyV d.p, intV d.e] ∧ OwnW B v0 w d.w ∧ OwnA w B a d.a
section
variable {w : World} {B B' : Nat} {u : SiteVs} {s : SiteD} {wv hv rv av : Value} {sl : List SrvV} {wl : List ServiceD} {x : WorldD} {r : RequestD} {now : Int} {l : List ReplyD}
theorem hand_bad (h : validB s wl x = false ∨ stepB2 s wl r.step = false ∨ r.id < 1 ∨ r.lease < 0 ∨ now < 0) : handleD s wl x l r now = ⟨noW, [], ⟨0, 0⟩, 1⟩ := by
  have : handOk s wl x r now = false := by
    rw [← Bool.not_eq_true]
    intro h2
    simp only [handOk, Bool.and_eq_true, decide_eq_true_eq] at h2
    rcases h with h | h | h | h | h
    · rw [h] at h2; simp at h2
    · rw [h] at h2; simp at h2
    all_goals omega
  simp [handleD, this]
theorem hand_ok (h1 : validB s wl x = true) (h2 : stepB2 s wl r.step = true) (h3 : ¬ r.id < 1) (h4 : ¬ r.lease < 0) (h5 : ¬ now < 0) : (∀ p, knownO l r.id = some p → handleD s wl x l r now = ⟨x, l, p, 0⟩) ∧ (knownO l r.id = none → 400 ≤ l.length → handleD s wl x l r now = ⟨noW, [], ⟨0, 0⟩, 9⟩)
    ∧ (knownO l r.id = none → ¬ 400 ≤ l.length → handleD s wl x l r now = ⟨newW s wl x r now, l ++ [⟨r.id, ansI s wl x r now⟩], ⟨r.id, ansI s wl x r now⟩, 0⟩) := by
  have hk : handOk s wl x r now = true := by
    simp only [handOk, h1, h2, Bool.true_and, Bool.and_eq_true, decide_eq_true_eq]
    omega
  refine ⟨fun p hp => ?_, fun hp hl => ?_, fun hp hl => ?_⟩
  · unfold handleD; rw [if_pos hk, hp]
  · unfold handleD; rw [if_pos hk, hp]; simp [hl]
  · unfold handleD; rw [if_pos hk, hp]; simp [hl]
theorem hand_len (h1 : validB s wl x = true) : x.hosts.length ≤ 1000000 ∧ x.replicas.length ≤ 1000000 := by
  have b := valid_parts h1
  have d : s.hosts.length ≤ 16 := by
    have := b.1
    simp only [siteB, sizesB, btw, Bool.and_eq_true, decide_eq_true_eq] at this
    omega
  omega
/-- copy of a whole slice to the head of a row that is known. -/
theorem copyHead_k {α : Type} {e sz by_ t ty b n m : Nat} {cur : List Value} {v : Value} {c : α → List Value} {r : List α} {k : Value → World → Prop} (hsl : slOf Tryz.prog t = some (e, sz, by_)) (hsz : 0 < sz) (hb : Blk w b e cur) (hc : r.length * sz ≤ cur.length) (hn : r.length ≤ n)
    (hv : Sl w B' (some sz) sz v (r.map fun x => .agg (c x).toArray)) (hl : ∀ x, (c x).length = sz) (h1 : ∀ x, ∀ v ∈ c x, v.oneCell' = true)
    (h : ∀ w', Now w' → Blk w' b e ((r.map c).flatten ++ cur.drop (r.length * sz)) → Sc w w' b → Cg b w w' → k (.int .i64 r.length) w') : copyX Tryz.prog t t ty (.slice (some ⟨b, 0, none⟩) n m) v w k := by
  obtain ⟨i, hu, hi, hs, hby'⟩ := slOf_parts hsl
  have hall : ∀ x ∈ r.map c, x.length = sz := by
    intro x hx
    obtain ⟨y, _, rfl⟩ := List.mem_map.1 hx
    exact hl y
  have hlen : lenN v = r.length := by simpa using hv.len
  have hfl : (r.map c).flatten.length = r.length * sz := by rw [flat_len _ hall, List.length_map]
  have hwf := hv.wf
  match v, hv, hlen, hwf with
  | .slice (some a) q cc, hv, hlen, _ =>
    obtain rfl : q = r.length := hlen
    have hmin : Nat.min r.length n = r.length := Nat.min_eq_left hn
    have hr := run_copy_rowN (P := Tryz.prog) w t t ty e b 0 n m a r.length cc sz i cur.toArray e (r.map c).flatten hu hi hs hb (by rw [hfl, hmin]) (sl_cells hv hl hsz) (by rw [hfl]; simp; omega)
      (fun u hu => by obtain ⟨x, hx, hux⟩ := List.mem_flatten.1 hu; obtain ⟨y, _, rfl⟩ := List.mem_map.1 hx; exact h1 y u hux)
    have e1 : (List.take 0 cur.toArray.toList ++ (r.map c).flatten ++ List.drop (0 + (r.map c).flatten.length) cur.toArray.toList).toArray = ((r.map c).flatten ++ cur.drop (r.length * sz)).toArray := by
      rw [hfl, List.toList_toArray, List.take_zero, List.nil_append, Nat.zero_add]
    rw [e1, hmin] at hr
    have hcg := chg_row w b ((r.map c).flatten ++ cur.drop (r.length * sz)).toArray
    exact runsV_ok hr (h _ trivial (setRow_heap w b _ _ e _ hb) hcg.sc hcg)
  | .slice none q cc, hv, hlen, hwf =>
    obtain rfl : q = 0 := hwf
    have hr0 : r = [] := List.eq_nil_of_length_eq_zero hlen.symm
    subst hr0
    have hr : (Builtin.copy_ #[t, t] ty #[.slice (some ⟨b, 0, none⟩) n m, .slice none 0 cc]).run Tryz.prog w = .ok (goInt 0) w := by
      simp [Builtin.copy_, run_underlying hu, sizeOf, typeInfo, hi, Builtin.lenOf, Builtin.firstCells, storeCells]
    have hcg := Chg.refl' w b
    exact runsV_ok hr (h w trivial (by simpa using hb) hcg.sc hcg)
theorem grown_cells (l : List ReplyD) : (l.map replyC).flatten ++ ((List.replicate (l.length + 1) [Value.int .i64 0, .int .u8 0]).flatten).drop (l.length * 2) = ((l ++ [(⟨0, 0⟩ : ReplyD)]).map replyC).flatten := by
  rw [flat_drop (k := 2) _ l.length (by intro c hc; rw [List.eq_of_mem_replicate hc]; rfl), List.drop_replicate, Nat.add_sub_cancel_left, List.map_append, List.flatten_append]
  rfl
theorem agentHandle (hB : B ≤ w.heap.size) (hs : SiteR w B u s) (hl : WishR w B wv sl) (hx0 : WorldR w B hv rv x) (ha0 : Sl w B (some 2) 2 av (l.map replyV)) (hlen : l.length ≤ 1000000) : CallsV Tryz.prog 11 #[.agg (siteC u s).toArray, .agg #[wv], .agg #[hv, rv], .agg #[av], requestV r, intV now] w fun v w' => Ext w w' ∧ HandR w.heap.size v w' (handleD s (sl.map (·.x)) x l r now) := by
  have hn : Now w := trivial
  have hx : Ext w w := Ext.refl w
  obtain ⟨rid, rl, kd, hto, sv, vr⟩ := r
  have hs' := hs.sk hB
  have hl' := hl.sk hB
  have hx' := hx0.sk hB
  have ha' := ha0.k hB
  have hS := hs'.2.2.2.2.2.2
  have hW := hl'.2.2
  have hX := hx'.2.2.2.2
  have hA := ha'.2.2.2.2.2.2.1
  have hmax := ha0.max_
  have hv1 := fun w' (h1 : Bl B w w') (h3 : B ≤ w'.heap.size) => stepValid (st := ⟨kd, hto, sv, vr⟩) h3 (hS w' h1) (hW w' h1)
  simp only [stepB_eq] at hv1
  have hv2 := fun w' (h1 : Bl B w w') (h3 : B ≤ w'.heap.size) => worldValid h3 (hS w' h1) (hW w' h1) (hX w' h1)
  have hkn := fun w' (h1 : Bl B w w') (h3 : B ≤ w'.heap.size) => agentKnown (id := rid) h3 (hA w' h1)
  have hbad : (validB s (sl.map (·.x)) x = false ∨ stepB2 s (sl.map (·.x)) ⟨kd, hto, sv, vr⟩ = false ∨ rid < 1 ∨ rl < 0 ∨ now < 0) → Hid (handleD s (sl.map (·.x)) x l ⟨rid, rl, ⟨kd, hto, sv, vr⟩⟩ now = ⟨noW, [], ⟨0, 0⟩, 1⟩) := fun h => hand_bad h
  have hgood : validB s (sl.map (·.x)) x = true → stepB2 s (sl.map (·.x)) ⟨kd, hto, sv, vr⟩ = true → ¬ rid < 1 → ¬ rl < 0 → ¬ now < 0 → Hid _ := fun h1 h2 h3 h4 h5 => hand_ok (l := l) (r := ⟨rid, rl, ⟨kd, hto, sv, vr⟩⟩) h1 h2 h3 h4 h5
  have hpar : validB s (sl.map (·.x)) x = true → stepB2 s (sl.map (·.x)) ⟨kd, hto, sv, vr⟩ = true → Hid ((x.hosts.length ≤ 1000000 ∧ x.replicas.length ≤ 1000000) ∧ 0 ≤ hto ∧ hto < x.hosts.length) := fun h1 h2 => by
    have a := step_parts h2
    have b := valid_parts h1
    exact ⟨hand_len h1, a.2.2.2.1, by have := a.2.2.2.2.1; simp only at this; omega⟩
  generalize handleD s (sl.map (·.x)) x l ⟨rid, rl, ⟨kd, hto, sv, vr⟩⟩ now = D at *
  generalize stepB2 s (sl.map (·.x)) ⟨kd, hto, sv, vr⟩ = sb at *
  generalize validB s (sl.map (·.x)) x = vb at *
  replace hbad : Hid _ := hbad
  replace hgood : Hid _ := hgood
  replace hkn : Hid _ := hkn
  (refine callsV_of Tryz.func11 rfl KR KR ?_; rw [Tryz.results11])
  cases vb
  · obtain rfl := (hbad.out (.inl rfl)).out
    clear hbad hgood hpar
    (repeat' first
    | ((with_reducible refine at_row ?_); refine row1_a fun _ _ _ _ _ _ _ => ?_)
    | with_reducible first | (first | apply alloc_k | apply row_k); intro _ _ _ _ _ _ | (first | apply fork | apply forkp) <;> intro _ | refine forke (fun _ => ?_) fun _ _ => ?_ | refine tail_k fun _ _ _ => ?_ | refine ext_k fun _ _ _ => ?_ | refine need_a ?_ | refine st_agg KR rfl ON fun _ _ _ _ => ?_ | refine wpd_q_a ?_
    | ((with_reducible refine at_f 28 ?_); refine ret_k (hv2 _ FR FR) fun _ _ _ => ?_)
    | simp (maxDischargeDepth := 3) only [↓X, ↓Y, ↓Q, S1, ↓reduceIte, Nat.reduceEqDiff, Nat.reduceAdd, Int.reduceLT, Int.reduceLE, Int.reduceNeg, Int.reduceBEq, Int.reduceBNe, Int.reduceEq, Nat.reduceLeDiff, Nat.reduceMul, Nat.reduceLT, *, siteC, requestV, requestC]
    | simp (singlePass := true) (maxDischargeDepth := 99) only [*, S2, Nat.reduceLT, siteC, requestV, requestC])
    all_goals exact ⟨_, _, rfl, OwnW.none _ _, Own.nil _ _ _ _⟩
  cases sb
  · obtain rfl := (hbad.out (.inr (.inl rfl))).out
    clear hbad hgood hpar
    (repeat' first
    | ((with_reducible refine at_row ?_); refine row1_a fun _ _ _ _ _ _ _ => ?_)
    | with_reducible first | (first | apply alloc_k | apply row_k); intro _ _ _ _ _ _ | (first | apply fork | apply forkp) <;> intro _ | refine forke (fun _ => ?_) fun _ _ => ?_ | refine tail_k fun _ _ _ => ?_ | refine ext_k fun _ _ _ => ?_ | refine need_a ?_ | refine st_agg KR rfl ON fun _ _ _ _ => ?_ | refine wpd_q_a ?_
    | ((with_reducible refine at_f 28 ?_); refine ret_k (hv2 _ FR FR) fun _ _ _ => ?_)
    | ((with_reducible refine at_f 29 ?_); refine ret_k (hv1 _ FR FR) fun _ _ _ => ?_)
    | simp (maxDischargeDepth := 3) only [↓X, ↓Y, ↓Q, S1, ↓reduceIte, Nat.reduceEqDiff, Nat.reduceAdd, Int.reduceLT, Int.reduceLE, Int.reduceNeg, Int.reduceBEq, Int.reduceBNe, Int.reduceEq, Nat.reduceLeDiff, Nat.reduceMul, Nat.reduceLT, *, siteC, requestV, requestC]
    | simp (singlePass := true) (maxDischargeDepth := 99) only [*, S2, Nat.reduceLT, siteC, requestV, requestC])
    all_goals exact ⟨_, _, rfl, OwnW.none _ _, Own.nil _ _ _ _⟩
  have hp := hpar rfl rfl
  clear hpar
  (repeat' first
    | ((with_reducible refine at_row ?_); refine row1_a fun _ _ _ _ _ _ _ => ?_)
    | with_reducible first | (first | apply alloc_k | apply row_k); intro _ _ _ _ _ _ | (first | apply fork | apply forkp) <;> intro _ | refine forke (fun _ => ?_) fun _ _ => ?_ | refine tail_k fun _ _ _ => ?_ | refine ext_k fun _ _ _ => ?_ | refine need_a ?_ | refine st_agg KR rfl ON fun _ _ _ _ => ?_ | refine wpd_q_a ?_
    | ((with_reducible refine at_f 28 ?_); refine ret_k (hv2 _ FR FR) fun _ _ _ => ?_)
    | ((with_reducible refine at_f 29 ?_); refine ret_k (hv1 _ FR FR) fun _ _ _ => ?_)
    | simp (maxDischargeDepth := 3) only [↓X, ↓Y, ↓Q, S1, ↓reduceIte, Nat.reduceEqDiff, Nat.reduceAdd, Int.reduceLT, Int.reduceLE, Int.reduceNeg, Int.reduceBEq, Int.reduceBNe, Int.reduceEq, Nat.reduceLeDiff, Nat.reduceMul, Nat.reduceLT, *, siteC, requestV, requestC]
    | simp (singlePass := true) (maxDischargeDepth := 99) only [*, S2, Nat.reduceLT, siteC, requestV, requestC])
  all_goals first
    | (obtain rfl := (hbad.out (.inr (.inr (by omega)))).out
       exact ⟨_, _, rfl, OwnW.none _ _, Own.nil _ _ _ _⟩)
    | skip
  rename_i bx6 wx6 nx6 kx6 sx6 qx6 bx7 wx7 nx7 kx7 sx7 qx7 bx8 wx8 nx8 kx8 sx8 qx8 bx9 wx9 nx9 kx9 sx9 qx9 bx10 wx10 nx10 kx10 sx10 qx10 b12 w12 n12 k12 s12 q12 b13 w13 n13 k13 s13 q13 b14 w14 n14 k14 s14 q14 wv1 nv1 sv1 wv2 nv2 sv2 hid hrl hnow
  have hg : Hid _ := (hgood.out rfl rfl (by omega) (by omega) (by omega)).out
  clear hbad hgood
  refine ret_k (hkn.out _ FR FR) fun w3 n3 s3 => ?_
  rcases hko : knownO l rid with _ | p
  · by_cases h400 : 400 ≤ l.length
    · obtain rfl := hg.out.2.1 hko h400
      have h401 : (400 : Int) ≤ (l.length : Int) := by omega
      clear hg hko
      (repeat' first
    | ((with_reducible refine at_row ?_); refine row1_a fun _ _ _ _ _ _ _ => ?_)
    | with_reducible first | (first | apply alloc_k | apply row_k); intro _ _ _ _ _ _ | (first | apply fork | apply forkp) <;> intro _ | refine forke (fun _ => ?_) fun _ _ => ?_ | refine tail_k fun _ _ _ => ?_ | refine ext_k fun _ _ _ => ?_ | refine need_a ?_ | refine st_agg KR rfl ON fun _ _ _ _ => ?_ | refine wpd_q_a ?_
    | simp (maxDischargeDepth := 3) only [↓X, ↓Y, ↓Q, S1, ↓reduceIte, Nat.reduceEqDiff, Nat.reduceAdd, Int.reduceLT, Int.reduceLE, Int.reduceNeg, Int.reduceBEq, Int.reduceBNe, Int.reduceEq, Nat.reduceLeDiff, Nat.reduceMul, Nat.reduceLT, *, siteC, requestV, requestC, knownV]
    | simp (singlePass := true) (maxDischargeDepth := 99) only [*, S2, Nat.reduceLT, siteC, requestV, requestC, knownV])
      exact ⟨_, _, rfl, OwnW.none _ _, Own.nil _ _ _ _⟩
    · have hD := hg.out.2.2 hko h400
      have hnw : newW s (sl.map (·.x)) x ⟨rid, rl, ⟨kd, hto, sv, vr⟩⟩ now = if ansI s (sl.map (·.x)) x ⟨rid, rl, ⟨kd, hto, sv, vr⟩⟩ now = 1 then applyW s (sl.map (·.x)) x ⟨kd, hto, sv, vr⟩ else x := rfl
      have hans := fun w' (h1 : Bl B w w') (h3 : B ≤ w'.heap.size) => agentAnswer (r := ⟨rid, rl, ⟨kd, hto, sv, vr⟩⟩) (now := now) h3 (hS w' h1) (hW w' h1) (hX w' h1) hp.out.2
      rw [hnw] at hD
      generalize ansI s (sl.map (·.x)) x ⟨rid, rl, ⟨kd, hto, sv, vr⟩⟩ now = an at *
      subst hD
      replace hans : Hid _ := hans
      have hw1 : IntKind.i64.wrap ((l.length : Int) + 1) = ((l.length + 1 : Nat) : Int) := by rw [wrap_i64_id] <;> omega
      have h401 : ¬ (400 : Int) ≤ (l.length : Int) := by omega
      replace h400 : Hid _ := h400
      clear hg hko hnw
      by_cases han1 : an = 1
      · subst han1
        (repeat' first
    | ((with_reducible refine wpd_at 9 ?_); refine wpd_hold ?_)
    | ((with_reducible refine at_row ?_); refine row1_a fun _ _ _ _ _ _ _ => ?_)
    | with_reducible first | (first | apply alloc_k | apply row_k); intro _ _ _ _ _ _ | (first | apply fork | apply forkp) <;> intro _ | refine forke (fun _ => ?_) fun _ _ => ?_ | refine tail_k fun _ _ _ => ?_ | refine ext_k fun _ _ _ => ?_ | refine need_a ?_ | refine st_agg KR rfl ON fun _ _ _ _ => ?_ | refine wpd_q_a ?_
    | simp (maxDischargeDepth := 3) only [↓X, ↓Y, ↓Q, S1, ↓reduceIte, Nat.reduceEqDiff, Nat.reduceAdd, Int.reduceLT, Int.reduceLE, Int.reduceNeg, Int.reduceBEq, Int.reduceBNe, Int.reduceEq, Nat.reduceLeDiff, Nat.reduceMul, Nat.reduceLT, *, siteC, requestV, requestC, knownV]
    | simp (singlePass := true) (maxDischargeDepth := 99) only [*, S2, Nat.reduceLT, siteC, requestV, requestC, knownV])
        rename_i b16 w16 n16 k16 s16 q16 w5 n5 k5 s5
        unfold wpdH
        refine wpd_rel 9 (fun iI v w9 => match iI with
          | 0 => v = .pointer (some ⟨bx10, 0, none⟩)
          | 1 => v = intV rid
          | 2 => v = .agg (siteC u s).toArray
          | 3 => v = .agg #[wv]
          | 4 => v = .agg #[hv, rv]
          | 5 => v = requestV ⟨rid, rl, ⟨kd, hto, sv, vr⟩⟩
          | 6 => v = intV now
          | 7 => v = .int .u8 1
          | 8 => v = .agg #[intV rid, .int .u8 1]
          | _ => False) KR KR KR ?_ ?_ ?_
        · intro iI v w1 w2 hR hx9
          match iI, hR with
          | 0, h => exact h
          | 1, h => exact h
          | 2, h => exact h
          | 3, h => exact h
          | 4, h => exact h
          | 5, h => exact h
          | 6, h => exact h
          | 7, h => exact h
          | 8, h => exact h
        · intro iI oO hi ho gF w9 hx9 hdep hag
          have s9 := hx9.st
          have n9 : Now w9 := trivial
          have r9 := Ext.refl w9
          have z9 := hx9.size
          rcases iI with _|_|_|_|_|_|_|_|_|iI
          have e := Option.some.inj ho
          subst e
          have a10 := hag.at 10 KR
          simp only [S5, ↓reduceIte, Nat.reduceEqDiff, initF, *] at a10
          clear hag hdep ho
          refine relStep_off rfl ?_
          rotate_left
          have e := Option.some.inj ho
          subst e
          have d0 : (gF 74) = .pointer (some ⟨bx10, 0, none⟩) := hdep ⟨0, .data⟩ (by simp) rfl _ _ rfl rfl
          clear hag hdep ho
          refine relStep_off rfl ?_
          rotate_left
          have e := Option.some.inj ho
          subst e
          have a6 := hag.at 6 KR
          simp only [S5, ↓reduceIte, Nat.reduceEqDiff, initF, *] at a6
          clear hag hdep ho
          refine relStep_off rfl ?_
          rotate_left
          have e := Option.some.inj ho
          subst e
          have a7 := hag.at 7 KR
          simp only [S5, ↓reduceIte, Nat.reduceEqDiff, initF, *] at a7
          clear hag hdep ho
          refine relStep_off rfl ?_
          rotate_left
          have e := Option.some.inj ho
          subst e
          have a8 := hag.at 8 KR
          simp only [S5, ↓reduceIte, Nat.reduceEqDiff, initF, *] at a8
          clear hag hdep ho
          refine relStep_off rfl ?_
          rotate_left
          have e := Option.some.inj ho
          subst e
          have a10 := hag.at 10 KR
          simp only [S5, ↓reduceIte, Nat.reduceEqDiff, initF, *] at a10
          clear hag hdep ho
          refine relStep_off rfl ?_
          rotate_left
          have e := Option.some.inj ho
          subst e
          have a5 := hag.at 5 KR
          simp only [S5, ↓reduceIte, Nat.reduceEqDiff, initF, *] at a5
          clear hag hdep ho
          refine relStep_off rfl ?_
          rotate_left
          have e := Option.some.inj ho
          subst e
          have d2 : (gF 76) = .agg (siteC u s).toArray := hdep ⟨2, .data⟩ (by simp) rfl _ _ rfl rfl
          have d3 : (gF 77) = .agg #[wv] := hdep ⟨3, .data⟩ (by simp) rfl _ _ rfl rfl
          have d4 : (gF 78) = .agg #[hv, rv] := hdep ⟨4, .data⟩ (by simp) rfl _ _ rfl rfl
          have d5 : (gF 79) = requestV ⟨rid, rl, ⟨kd, hto, sv, vr⟩⟩ := hdep ⟨5, .data⟩ (by simp) rfl _ _ rfl rfl
          have d6 : (gF 80) = intV now := hdep ⟨6, .data⟩ (by simp) rfl _ _ rfl rfl
          clear hag hdep ho
          refine relStep_off rfl ?_
          rotate_left
          have e := Option.some.inj ho
          subst e
          have d1 : (gF 75) = intV rid := hdep ⟨1, .data⟩ (by simp) rfl _ _ rfl rfl
          have d7 : (gF 81) = .int .u8 1 := hdep ⟨7, .data⟩ (by simp) rfl _ _ rfl rfl
          clear hag hdep ho
          refine relStep_off rfl ?_
          rotate_left
          · omega
          all_goals (repeat' first
    | ((with_reducible refine at_row ?_); refine row1_a fun _ _ _ _ _ _ _ => ?_)
    | with_reducible first | (first | apply alloc_k | apply row_k); intro _ _ _ _ _ _ | (first | apply fork | apply forkp) <;> intro _ | refine forke (fun _ => ?_) fun _ _ => ?_ | refine tail_k fun _ _ _ => ?_ | refine ext_k fun _ _ _ => ?_ | refine need_a ?_ | refine st_agg KR rfl ON fun _ _ _ _ => ?_ | refine wpd_q_a ?_
    | ((with_reducible refine at_f 32 ?_); refine ret_k (hans.out _ FR FR) fun _ _ _ => ?_)
    | simp (maxDischargeDepth := 3) only [↓X, ↓Y, ↓Q, S1, ↓reduceIte, Nat.reduceEqDiff, Nat.reduceAdd, Int.reduceLT, Int.reduceLE, Int.reduceNeg, Int.reduceBEq, Int.reduceBNe, Int.reduceEq, Nat.reduceLeDiff, Nat.reduceMul, Nat.reduceLT, *, siteC, requestV, requestC]
    | simp (singlePass := true) (maxDischargeDepth := 99) only [*, S2, Nat.reduceLT, siteC, requestV, requestC])
        · intro g9 w9 hx9 hR hag
          have s9 := hx9.st
          have n9 : Now w9 := trivial
          have r9 := Ext.refl w9
          have z9 := hx9.size
          have d8 : (g9 82) = .agg #[intV rid, .int .u8 1] := hR 8 _ _ (by decide) rfl rfl
          have a6 := hag.at 6 KR
          have a7 := hag.at 7 KR
          have a8 := hag.at 8 KR
          have a9 := hag.at 9 KR
          have a10 := hag.at 10 KR
          have a12 := hag.at 12 KR
          have a13 := hag.at 13 KR
          have a14 := hag.at 14 KR
          have a16 := hag.at 16 KR
          have a18 := hag.at 18 KR
          have a36 := hag.at 36 KR
          have a39 := hag.at 39 KR
          have a50 := hag.at 50 KR
          simp only [S5, ↓reduceIte, Nat.reduceEqDiff, initF, *] at a6 a7 a8 a9 a10 a12 a13 a14 a16 a18 a36 a39 a50
          clear hag hR
          simp only [List.drop_succ_cons, List.drop_zero]
          (repeat' first
    | ((with_reducible refine at_row ?_); refine row1_a fun _ _ _ _ _ _ _ => ?_)
    | with_reducible first | (first | apply alloc_k | apply row_k); intro _ _ _ _ _ _ | (first | apply fork | apply forkp) <;> intro _ | refine forke (fun _ => ?_) fun _ _ => ?_ | refine tail_k fun _ _ _ => ?_ | refine ext_k fun _ _ _ => ?_ | refine need_a ?_ | refine st_agg KR rfl ON fun _ _ _ _ => ?_ | refine wpd_q_a ?_
    | simp (maxDischargeDepth := 3) only [↓X, ↓Y, ↓Q, S1, ↓reduceIte, Nat.reduceEqDiff, Nat.reduceAdd, Int.reduceLT, Int.reduceLE, Int.reduceNeg, Int.reduceBEq, Int.reduceBNe, Int.reduceEq, Nat.reduceLeDiff, Nat.reduceMul, Nat.reduceLT, *, siteC, requestV, requestC]
    | simp (singlePass := true) (maxDischargeDepth := 99) only [*, S2, Nat.reduceLT, siteC, requestV, requestC])
          refine call_k (agentOwn (B := B) FR (hX _ FR) hp.out.1) ?_
          rintro _ w6 n6 s6 ⟨h6, r6, rfl, oh6, or6⟩
          have a6 := oh6.one
          have c6 := or6.one
          clear oh6 or6
          (repeat' first
    | ((with_reducible refine at_row ?_); refine row1_a fun _ _ _ _ _ _ _ => ?_)
    | with_reducible first | (first | apply alloc_k | apply row_k); intro _ _ _ _ _ _ | (first | apply fork | apply forkp) <;> intro _ | refine forke (fun _ => ?_) fun _ _ => ?_ | refine tail_k fun _ _ _ => ?_ | refine ext_k fun _ _ _ => ?_ | refine need_a ?_ | refine st_agg KR rfl ON fun _ _ _ _ => ?_ | refine wpd_q_a ?_
    | simp (maxDischargeDepth := 3) only [↓X, ↓Y, ↓Q, S1, ↓reduceIte, Nat.reduceEqDiff, Nat.reduceAdd, Int.reduceLT, Int.reduceLE, Int.reduceNeg, Int.reduceBEq, Int.reduceBNe, Int.reduceEq, Nat.reduceLeDiff, Nat.reduceMul, Nat.reduceLT, *, siteC, requestV, requestC]
    | simp (singlePass := true) (maxDischargeDepth := 99) only [*, S2, Nat.reduceLT, siteC, requestV, requestC])
          refine call_k (stepApply (st := ⟨kd, hto, sv, vr⟩) (B := B) FR (hS _ FR) (hW _ FR) (hX _ FR)) ?_
          rintro _ w7 n7 s7 ⟨u7, rfl, o7⟩
          obtain ⟨h7, r7, rfl, oh7, or7⟩ := o7
          have H7 := oh7.o
          have R7 := or7.o
          clear oh7 or7
          (repeat' first
    | ((with_reducible refine at_row ?_); refine row1_a fun _ _ _ _ _ _ _ => ?_)
    | with_reducible first | (first | apply alloc_k | apply row_k); intro _ _ _ _ _ _ | (first | apply fork | apply forkp) <;> intro _ | refine forke (fun _ => ?_) fun _ _ => ?_ | refine tail_k fun _ _ _ => ?_ | refine ext_k fun _ _ _ => ?_ | refine need_a ?_ | refine st_agg KR rfl ON fun _ _ _ _ => ?_ | refine wpd_q_a ?_
    | simp (maxDischargeDepth := 3) only [↓X, ↓Y, ↓Q, S1, ↓reduceIte, Nat.reduceEqDiff, Nat.reduceAdd, Int.reduceLT, Int.reduceLE, Int.reduceNeg, Int.reduceBEq, Int.reduceBNe, Int.reduceEq, Nat.reduceLeDiff, Nat.reduceMul, Nat.reduceLT, *, siteC, requestV, requestC]
    | simp (singlePass := true) (maxDischargeDepth := 99) only [*, S2, Nat.reduceLT, siteC, requestV, requestC])
          rename_i wM nM kM sM
          refine mk_own_k (n := l.length + 1) (z := .agg #[.int .i64 0, .int .u8 0]) rfl (by decide) (by decide) (by have := h400.out; omega) fun b8 w8 n8 hb8 s8 nw8 => ?_
          have k8 := hb8.bk
          clear hb8
          (repeat' first
    | ((with_reducible refine at_row ?_); refine row1_a fun _ _ _ _ _ _ _ => ?_)
    | with_reducible first | (first | apply alloc_k | apply row_k); intro _ _ _ _ _ _ | (first | apply fork | apply forkp) <;> intro _ | refine forke (fun _ => ?_) fun _ _ => ?_ | refine tail_k fun _ _ _ => ?_ | refine ext_k fun _ _ _ => ?_ | refine need_a ?_ | refine st_agg KR rfl ON fun _ _ _ _ => ?_ | refine wpd_q_a ?_
    | simp (maxDischargeDepth := 3) only [↓X, ↓Y, ↓Q, S1, ↓reduceIte, Nat.reduceEqDiff, Nat.reduceAdd, Int.reduceLT, Int.reduceLE, Int.reduceNeg, Int.reduceBEq, Int.reduceBNe, Int.reduceEq, Nat.reduceLeDiff, Nat.reduceMul, Nat.reduceLT, *]
    | simp (singlePass := true) (maxDischargeDepth := 99) only [*, S2, Nat.reduceLT])
          refine copyHead_k (e := 50) (sz := 2) (by_ := 16) (c := replyC) (r := l) (B' := B) KR (by decide) (k8.2.1 _ FR) (by rw [flat_len (k := 2) _ (by intro c hc; rw [List.eq_of_mem_replicate hc]; rfl), List.length_replicate]; omega) (by omega) (hA _ FR) (fun _ => rfl) replyC_one fun w9 n9 hb9 s9 c9 => ?_
          have hown : OwnA w9 wM.heap.size (.slice (some ⟨b8, 0, none⟩) (l.length + 1) (l.length + 1)) (l ++ [⟨0, 0⟩]) := Own.ofBlkN (by simp) (by rw [← grown_cells]; exact hb9) (by intro c hc; obtain ⟨y, _, rfl⟩ := List.mem_map.1 hc; rfl) (nw8.2.1 _ (Nat.le_refl _)) (by simp; omega)
          have he8 : Value.pointer (some ⟨b8, l.length * 2, none⟩) = elemAt (.slice (some ⟨b8, 0, none⟩) (l.length + 1) (l.length + 1)) 2 l.length := by simp [elemAt, add_none]
          replace he8 : Hid _ := he8
          clear k8 hb9
          (repeat' first
    | ((with_reducible refine at_row ?_); refine row1_a fun _ _ _ _ _ _ _ => ?_)
    | with_reducible first | (first | apply alloc_k | apply row_k); intro _ _ _ _ _ _ | (first | apply fork | apply forkp) <;> intro _ | refine forke (fun _ => ?_) fun _ _ => ?_ | refine tail_k fun _ _ _ => ?_ | refine ext_k fun _ _ _ => ?_ | refine need_a ?_ | refine st_agg KR rfl ON fun _ _ _ _ => ?_ | refine wpd_q_a ?_
    | simp (maxDischargeDepth := 3) only [↓X, ↓Y, ↓Q, S1, ↓reduceIte, Nat.reduceEqDiff, Nat.reduceAdd, Int.reduceLT, Int.reduceLE, Int.reduceNeg, Int.reduceBEq, Int.reduceBNe, Int.reduceEq, Nat.reduceLeDiff, Nat.reduceMul, Nat.reduceLT, *]
    | simp (singlePass := true) (maxDischargeDepth := 99) only [*, S2, Nat.reduceLT])
          rw [he8.out]
          refine own_set (i := l.length) (vs := replyC ⟨rid, 1⟩) KR (by decide) hown (by simp) rfl (replyC_one _) fun b' w10 n10 e10 hb10 hl10 hown10 s10 c10 => ?_
          obtain rfl : b8 = b' := Option.some.inj e10
          have hset : ((l ++ [(⟨0, 0⟩ : ReplyD)]).map replyC).set l.length (replyC ⟨rid, 1⟩) = (l ++ [(⟨rid, 1⟩ : ReplyD)]).map replyC := by
            rw [← List.map_set, List.set_append_right _ _ (Nat.le_refl _), Nat.sub_self]
            rfl
          rw [hset] at hown10
          have O10 := hown10.o
          clear hown e10 hset he8
          (repeat' first
    | ((with_reducible refine wpd_at 16 ?_); refine wpd_hold ?_)
    | ((with_reducible refine at_row ?_); refine row1_a fun _ _ _ _ _ _ _ => ?_)
    | with_reducible first | (first | apply alloc_k | apply row_k); intro _ _ _ _ _ _ | (first | apply fork | apply forkp) <;> intro _ | refine forke (fun _ => ?_) fun _ _ => ?_ | refine tail_k fun _ _ _ => ?_ | refine ext_k fun _ _ _ => ?_ | refine need_a ?_ | refine st_agg KR rfl ON fun _ _ _ _ => ?_ | refine wpd_q_a ?_
    | simp (maxDischargeDepth := 3) only [↓X, ↓Y, ↓Q, S1, ↓reduceIte, Nat.reduceEqDiff, Nat.reduceAdd, Int.reduceLT, Int.reduceLE, Int.reduceNeg, Int.reduceBEq, Int.reduceBNe, Int.reduceEq, Nat.reduceLeDiff, Nat.reduceMul, Nat.reduceLT, *]
    | simp (singlePass := true) (maxDischargeDepth := 99) only [*, S2, Nat.reduceLT])
          have hRB : ∀ b ∈ [b12, b13, b14], b < w10.heap.size := by simp only [List.mem_cons, List.not_mem_nil, or_false, forall_eq_or_imp, forall_eq]; exact FR
          unfold wpdH
          refine wpd_relL 7 [b12, b13, b14] [(4, b12), (5, b13), (6, b14)] rfl (fun iI v w9 => match iI with
            | 0 => v = .agg #[h7, r7]
            | 1 => v = .slice (some ⟨b8, 0, none⟩) (l.length + 1) (l.length + 1)
            | 2 => v = .agg #[.slice (some ⟨b8, 0, none⟩) (l.length + 1) (l.length + 1)]
            | 3 => v = replyV ⟨rid, 1⟩
            | 4 => Blk w9 b12 36 [h7, r7]
            | 5 => Blk w9 b13 39 [.slice (some ⟨b8, 0, none⟩) (l.length + 1) (l.length + 1)]
            | 6 => Blk w9 b14 50 (replyC ⟨rid, 1⟩)
            | _ => False) KR KR KR hRB (by simp only [List.nodup_cons, List.mem_cons, List.not_mem_nil, or_false, not_or, List.nodup_nil, not_false_eq_true, and_true] <;> exact FR) ?_ ?_ ?_
          · intro iI v w1 w2 hR hx9
            match iI, hR with
            | 0, h => exact h
            | 1, h => exact h
            | 2, h => exact h
            | 3, h => exact h
            | 4, h => exact h.tb hx9 (fun hX => hX.2 rfl)
            | 5, h => exact h.tb hx9 (fun hX => hX.2 rfl)
            | 6, h => exact h.tb hx9 (fun hX => hX.2 rfl)
          · intro iI oO hi ho gF w9 hx9 hdep hag hun
            have s9 := hx9.sb
            simp only [Sb, List.mem_cons, List.not_mem_nil, or_false, forall_eq_or_imp, forall_eq] at s9
            have n9 : Now w9 := trivial
            have r9 := Ext.refl w9
            have z9 := hx9.size
            rcases iI with _|_|_|_|_|_|_|iI
            have e := Option.some.inj ho
            subst e
            have a19 := hag.at 19 KR
            simp only [S5, ↓reduceIte, Nat.reduceEqDiff, initF, *] at a19
            have un4 : Kp b12 w10 w9 := ⟨hRB _ (by simp), hun 4 _ (by decide) rfl KR⟩
            have un5 : Kp b13 w10 w9 := ⟨hRB _ (by simp), hun 5 _ (by decide) rfl KR⟩
            have un6 : Kp b14 w10 w9 := ⟨hRB _ (by simp), hun 6 _ (by decide) rfl KR⟩
            clear hag hdep ho hun
            refine ⟨fun _ => ?_, fun b hb => by simp [bkL] at hb⟩
            refine relStep_off rfl ?_
            rotate_left
            have e := Option.some.inj ho
            subst e
            have a20 := hag.at 20 KR
            simp only [S5, ↓reduceIte, Nat.reduceEqDiff, initF, *] at a20
            have un5 : Kp b13 w10 w9 := ⟨hRB _ (by simp), hun 5 _ (by decide) rfl KR⟩
            have un6 : Kp b14 w10 w9 := ⟨hRB _ (by simp), hun 6 _ (by decide) rfl KR⟩
            clear hag hdep ho hun
            refine ⟨fun _ => ?_, fun b hb => by simp [bkL] at hb⟩
            refine relStep_off rfl ?_
            rotate_left
            have e := Option.some.inj ho
            subst e
            have d1 : (gF 109) = .slice (some ⟨b8, 0, none⟩) (l.length + 1) (l.length + 1) := hdep ⟨1, .data⟩ (by simp) rfl _ _ rfl rfl
            have un5 : Kp b13 w10 w9 := ⟨hRB _ (by simp), hun 5 _ (by decide) rfl KR⟩
            have un6 : Kp b14 w10 w9 := ⟨hRB _ (by simp), hun 6 _ (by decide) rfl KR⟩
            clear hag hdep ho hun
            refine ⟨fun _ => ?_, fun b hb => by simp [bkL] at hb⟩
            refine relStep_off rfl ?_
            rotate_left
            have e := Option.some.inj ho
            subst e
            have a16 := hag.at 16 KR
            simp only [S5, ↓reduceIte, Nat.reduceEqDiff, initF, *] at a16
            have un6 : Kp b14 w10 w9 := ⟨hRB _ (by simp), hun 6 _ (by decide) rfl KR⟩
            clear hag hdep ho hun
            refine ⟨fun _ => ?_, fun b hb => by simp [bkL] at hb⟩
            refine relStep_off rfl ?_
            rotate_left
            have e := Option.some.inj ho
            subst e
            have a12 := hag.at 12 KR
            simp only [S5, ↓reduceIte, Nat.reduceEqDiff, initF, *] at a12
            have d0 : (gF 108) = .agg #[h7, r7] := hdep ⟨0, .data⟩ (by simp) rfl _ _ rfl rfl
            have un5 : Kp b13 w10 w9 := ⟨hRB _ (by simp), hun 5 _ (by decide) rfl KR⟩
            have un6 : Kp b14 w10 w9 := ⟨hRB _ (by simp), hun 6 _ (by decide) rfl KR⟩
            clear hag hdep ho hun
            refine ⟨fun h => by simp [bkL] at h, fun b hb hU => ?_⟩
            obtain rfl : b12 = b := by simpa [bkL] using hb
            refine relStep_off rfl ?_
            rotate_left
            have e := Option.some.inj ho
            subst e
            have a13 := hag.at 13 KR
            simp only [S5, ↓reduceIte, Nat.reduceEqDiff, initF, *] at a13
            have d2 : (gF 110) = .agg #[.slice (some ⟨b8, 0, none⟩) (l.length + 1) (l.length + 1)] := hdep ⟨2, .data⟩ (by simp) rfl _ _ rfl rfl
            have un6 : Kp b14 w10 w9 := ⟨hRB _ (by simp), hun 6 _ (by decide) rfl KR⟩
            clear hag hdep ho hun
            refine ⟨fun h => by simp [bkL] at h, fun b hb hU => ?_⟩
            obtain rfl : b13 = b := by simpa [bkL] using hb
            refine relStep_off rfl ?_
            rotate_left
            have e := Option.some.inj ho
            subst e
            have a14 := hag.at 14 KR
            simp only [S5, ↓reduceIte, Nat.reduceEqDiff, initF, *] at a14
            have d3 : (gF 111) = replyV ⟨rid, 1⟩ := hdep ⟨3, .data⟩ (by simp) rfl _ _ rfl rfl
            clear hag hdep ho hun
            refine ⟨fun h => by simp [bkL] at h, fun b hb hU => ?_⟩
            obtain rfl : b14 = b := by simpa [bkL] using hb
            refine relStep_off rfl ?_
            rotate_left
            · omega
            all_goals (repeat' first
    | ((with_reducible refine at_row ?_); refine row1_a fun _ _ _ _ _ _ _ => ?_)
    | with_reducible first | (first | apply alloc_k | apply row_k); intro _ _ _ _ _ _ | (first | apply fork | apply forkp) <;> intro _ | refine forke (fun _ => ?_) fun _ _ => ?_ | refine tail_k fun _ _ _ => ?_ | refine ext_k fun _ _ _ => ?_ | refine need_a ?_ | refine st_agg KR rfl ON fun _ _ _ _ => ?_ | refine wpd_q_a ?_
    | simp (maxDischargeDepth := 3) only [↓X, ↓Y, ↓Q, S1, ↓reduceIte, Nat.reduceEqDiff, Nat.reduceAdd, Int.reduceLT, Int.reduceLE, Int.reduceNeg, Int.reduceBEq, Int.reduceBNe, Int.reduceEq, Nat.reduceLeDiff, Nat.reduceMul, Nat.reduceLT, *, replyV, replyC]
    | simp (singlePass := true) (maxDischargeDepth := 99) only [*, S2, Nat.reduceLT, replyV, replyC])
            all_goals first
              | (exact stT_agg (vs := [h7, r7]) (k12.2.1 w10 FR) hU KR rfl (by simp [H7.2.2.2.1, R7.2.2.2.1]) fun w' hb' hc' => ⟨hc', hb'⟩)
              | (exact stT_agg (vs := [.slice (some ⟨b8, 0, none⟩) (l.length + 1) (l.length + 1)]) (k13.2.1 w10 FR) hU KR rfl (by simp [one_slice]) fun w' hb' hc' => ⟨hc', hb'⟩)
              | (exact stT_agg (vs := replyC ⟨rid, 1⟩) (k14.2.1 w10 FR) hU KR rfl (replyC_one _) fun w' hb' hc' => ⟨hc', hb'⟩)
          · intro g9 w9 hx9 hR hS9 hag
            have s9 := hx9.sb
            simp only [Sb, List.mem_cons, List.not_mem_nil, or_false, forall_eq_or_imp, forall_eq] at s9
            have n9 : Now w9 := trivial
            have r9 := Ext.refl w9
            have z9 := hx9.size
            obtain ⟨vs4, d4⟩ := hS9 4 _ (by decide) rfl
            replace d4 : Blk w9 b12 36 [h7, r7] := d4
            obtain ⟨vs5, d5⟩ := hS9 5 _ (by decide) rfl
            replace d5 : Blk w9 b13 39 [.slice (some ⟨b8, 0, none⟩) (l.length + 1) (l.length + 1)] := d5
            obtain ⟨vs6, d6⟩ := hS9 6 _ (by decide) rfl
            replace d6 : Blk w9 b14 50 (replyC ⟨rid, 1⟩) := d6
            have a12 := hag.at 12 KR
            have a13 := hag.at 13 KR
            have a14 := hag.at 14 KR
            have a36 := hag.at 36 KR
            have a39 := hag.at 39 KR
            have a50 := hag.at 50 KR
            simp only [S5, ↓reduceIte, Nat.reduceEqDiff, initF, *] at a12 a13 a14 a36 a39 a50
            clear hag hR hS9
            simp only [List.drop_succ_cons, List.drop_zero]
            have k4 := d4.bk
            have k5 := d5.bk
            have k6 := d6.bk
            clear d4 d5 d6
            (repeat' first
    | ((with_reducible refine at_row ?_); refine row1_a fun _ _ _ _ _ _ _ => ?_)
    | with_reducible first | (first | apply alloc_k | apply row_k); intro _ _ _ _ _ _ | (first | apply fork | apply forkp) <;> intro _ | refine forke (fun _ => ?_) fun _ _ => ?_ | refine tail_k fun _ _ _ => ?_ | refine ext_k fun _ _ _ => ?_ | refine need_a ?_ | refine st_agg KR rfl ON fun _ _ _ _ => ?_ | refine wpd_q_a ?_
    | simp (maxDischargeDepth := 3) only [↓X, ↓Y, ↓Q, S1, ↓reduceIte, Nat.reduceEqDiff, Nat.reduceAdd, Int.reduceLT, Int.reduceLE, Int.reduceNeg, Int.reduceBEq, Int.reduceBNe, Int.reduceEq, Nat.reduceLeDiff, Nat.reduceMul, Nat.reduceLT, *, replyV, replyC]
    | simp (singlePass := true) (maxDischargeDepth := 99) only [*, S2, Nat.reduceLT, replyV, replyC])
            exact ⟨_, _, rfl, ⟨_, _, rfl, (H7.1 _ FR).more FR, (R7.1 _ FR).more FR⟩, (O10.1 _ FR).more FR⟩
      · have han2 : (an == 1) = false := by simpa using han1
        rw [if_neg han1]
        (repeat' first
    | ((with_reducible refine wpd_at 9 ?_); refine wpd_hold ?_)
    | ((with_reducible refine at_row ?_); refine row1_a fun _ _ _ _ _ _ _ => ?_)
    | with_reducible first | (first | apply alloc_k | apply row_k); intro _ _ _ _ _ _ | (first | apply fork | apply forkp) <;> intro _ | refine forke (fun _ => ?_) fun _ _ => ?_ | refine tail_k fun _ _ _ => ?_ | refine ext_k fun _ _ _ => ?_ | refine need_a ?_ | refine st_agg KR rfl ON fun _ _ _ _ => ?_ | refine wpd_q_a ?_
    | simp (maxDischargeDepth := 3) only [↓X, ↓Y, ↓Q, S1, ↓reduceIte, Nat.reduceEqDiff, Nat.reduceAdd, Int.reduceLT, Int.reduceLE, Int.reduceNeg, Int.reduceBEq, Int.reduceBNe, Int.reduceEq, Nat.reduceLeDiff, Nat.reduceMul, Nat.reduceLT, *, siteC, requestV, requestC, knownV]
    | simp (singlePass := true) (maxDischargeDepth := 99) only [*, S2, Nat.reduceLT, siteC, requestV, requestC, knownV])
        rename_i b16 w16 n16 k16 s16 q16 w5 n5 k5 s5
        unfold wpdH
        refine wpd_rel 9 (fun iI v w9 => match iI with
          | 0 => v = .pointer (some ⟨bx10, 0, none⟩)
          | 1 => v = intV rid
          | 2 => v = .agg (siteC u s).toArray
          | 3 => v = .agg #[wv]
          | 4 => v = .agg #[hv, rv]
          | 5 => v = requestV ⟨rid, rl, ⟨kd, hto, sv, vr⟩⟩
          | 6 => v = intV now
          | 7 => v = .int .u8 an
          | 8 => v = .agg #[intV rid, .int .u8 an]
          | _ => False) KR KR KR ?_ ?_ ?_
        · intro iI v w1 w2 hR hx9
          match iI, hR with
          | 0, h => exact h
          | 1, h => exact h
          | 2, h => exact h
          | 3, h => exact h
          | 4, h => exact h
          | 5, h => exact h
          | 6, h => exact h
          | 7, h => exact h
          | 8, h => exact h
        · intro iI oO hi ho gF w9 hx9 hdep hag
          have s9 := hx9.st
          have n9 : Now w9 := trivial
          have r9 := Ext.refl w9
          have z9 := hx9.size
          rcases iI with _|_|_|_|_|_|_|_|_|iI
          have e := Option.some.inj ho
          subst e
          have a10 := hag.at 10 KR
          simp only [S5, ↓reduceIte, Nat.reduceEqDiff, initF, *] at a10
          clear hag hdep ho
          refine relStep_off rfl ?_
          rotate_left
          have e := Option.some.inj ho
          subst e
          have d0 : (gF 74) = .pointer (some ⟨bx10, 0, none⟩) := hdep ⟨0, .data⟩ (by simp) rfl _ _ rfl rfl
          clear hag hdep ho
          refine relStep_off rfl ?_
          rotate_left
          have e := Option.some.inj ho
          subst e
          have a6 := hag.at 6 KR
          simp only [S5, ↓reduceIte, Nat.reduceEqDiff, initF, *] at a6
          clear hag hdep ho
          refine relStep_off rfl ?_
          rotate_left
          have e := Option.some.inj ho
          subst e
          have a7 := hag.at 7 KR
          simp only [S5, ↓reduceIte, Nat.reduceEqDiff, initF, *] at a7
          clear hag hdep ho
          refine relStep_off rfl ?_
          rotate_left
          have e := Option.some.inj ho
          subst e
          have a8 := hag.at 8 KR
          simp only [S5, ↓reduceIte, Nat.reduceEqDiff, initF, *] at a8
          clear hag hdep ho
          refine relStep_off rfl ?_
          rotate_left
          have e := Option.some.inj ho
          subst e
          have a10 := hag.at 10 KR
          simp only [S5, ↓reduceIte, Nat.reduceEqDiff, initF, *] at a10
          clear hag hdep ho
          refine relStep_off rfl ?_
          rotate_left
          have e := Option.some.inj ho
          subst e
          have a5 := hag.at 5 KR
          simp only [S5, ↓reduceIte, Nat.reduceEqDiff, initF, *] at a5
          clear hag hdep ho
          refine relStep_off rfl ?_
          rotate_left
          have e := Option.some.inj ho
          subst e
          have d2 : (gF 76) = .agg (siteC u s).toArray := hdep ⟨2, .data⟩ (by simp) rfl _ _ rfl rfl
          have d3 : (gF 77) = .agg #[wv] := hdep ⟨3, .data⟩ (by simp) rfl _ _ rfl rfl
          have d4 : (gF 78) = .agg #[hv, rv] := hdep ⟨4, .data⟩ (by simp) rfl _ _ rfl rfl
          have d5 : (gF 79) = requestV ⟨rid, rl, ⟨kd, hto, sv, vr⟩⟩ := hdep ⟨5, .data⟩ (by simp) rfl _ _ rfl rfl
          have d6 : (gF 80) = intV now := hdep ⟨6, .data⟩ (by simp) rfl _ _ rfl rfl
          clear hag hdep ho
          refine relStep_off rfl ?_
          rotate_left
          have e := Option.some.inj ho
          subst e
          have d1 : (gF 75) = intV rid := hdep ⟨1, .data⟩ (by simp) rfl _ _ rfl rfl
          have d7 : (gF 81) = .int .u8 an := hdep ⟨7, .data⟩ (by simp) rfl _ _ rfl rfl
          clear hag hdep ho
          refine relStep_off rfl ?_
          rotate_left
          · omega
          all_goals (repeat' first
    | ((with_reducible refine at_row ?_); refine row1_a fun _ _ _ _ _ _ _ => ?_)
    | with_reducible first | (first | apply alloc_k | apply row_k); intro _ _ _ _ _ _ | (first | apply fork | apply forkp) <;> intro _ | refine forke (fun _ => ?_) fun _ _ => ?_ | refine tail_k fun _ _ _ => ?_ | refine ext_k fun _ _ _ => ?_ | refine need_a ?_ | refine st_agg KR rfl ON fun _ _ _ _ => ?_ | refine wpd_q_a ?_
    | ((with_reducible refine at_f 32 ?_); refine ret_k (hans.out _ FR FR) fun _ _ _ => ?_)
    | simp (maxDischargeDepth := 3) only [↓X, ↓Y, ↓Q, S1, ↓reduceIte, Nat.reduceEqDiff, Nat.reduceAdd, Int.reduceLT, Int.reduceLE, Int.reduceNeg, Int.reduceBEq, Int.reduceBNe, Int.reduceEq, Nat.reduceLeDiff, Nat.reduceMul, Nat.reduceLT, *, siteC, requestV, requestC]
    | simp (singlePass := true) (maxDischargeDepth := 99) only [*, S2, Nat.reduceLT, siteC, requestV, requestC])
        · intro g9 w9 hx9 hR hag
          have s9 := hx9.st
          have n9 : Now w9 := trivial
          have r9 := Ext.refl w9
          have z9 := hx9.size
          have d8 : (g9 82) = .agg #[intV rid, .int .u8 an] := hR 8 _ _ (by decide) rfl rfl
          have a6 := hag.at 6 KR
          have a7 := hag.at 7 KR
          have a8 := hag.at 8 KR
          have a9 := hag.at 9 KR
          have a10 := hag.at 10 KR
          have a12 := hag.at 12 KR
          have a13 := hag.at 13 KR
          have a14 := hag.at 14 KR
          have a16 := hag.at 16 KR
          have a18 := hag.at 18 KR
          have a36 := hag.at 36 KR
          have a39 := hag.at 39 KR
          have a50 := hag.at 50 KR
          simp only [S5, ↓reduceIte, Nat.reduceEqDiff, initF, *] at a6 a7 a8 a9 a10 a12 a13 a14 a16 a18 a36 a39 a50
          clear hag hR
          simp only [List.drop_succ_cons, List.drop_zero]
          (repeat' first
    | ((with_reducible refine at_row ?_); refine row1_a fun _ _ _ _ _ _ _ => ?_)
    | with_reducible first | (first | apply alloc_k | apply row_k); intro _ _ _ _ _ _ | (first | apply fork | apply forkp) <;> intro _ | refine forke (fun _ => ?_) fun _ _ => ?_ | refine tail_k fun _ _ _ => ?_ | refine ext_k fun _ _ _ => ?_ | refine need_a ?_ | refine st_agg KR rfl ON fun _ _ _ _ => ?_ | refine wpd_q_a ?_
    | simp (maxDischargeDepth := 3) only [↓X, ↓Y, ↓Q, S1, ↓reduceIte, Nat.reduceEqDiff, Nat.reduceAdd, Int.reduceLT, Int.reduceLE, Int.reduceNeg, Int.reduceBEq, Int.reduceBNe, Int.reduceEq, Nat.reduceLeDiff, Nat.reduceMul, Nat.reduceLT, *, siteC, requestV, requestC]
    | simp (singlePass := true) (maxDischargeDepth := 99) only [*, S2, Nat.reduceLT, siteC, requestV, requestC])
          refine call_k (agentOwn (B := B) FR (hX _ FR) hp.out.1) ?_
          rintro _ w6 n6 s6 ⟨h7, r7, rfl, oh7, or7⟩
          have H7 := oh7.o
          have R7 := or7.o
          clear oh7 or7
          (repeat' first
    | ((with_reducible refine at_row ?_); refine row1_a fun _ _ _ _ _ _ _ => ?_)
    | with_reducible first | (first | apply alloc_k | apply row_k); intro _ _ _ _ _ _ | (first | apply fork | apply forkp) <;> intro _ | refine forke (fun _ => ?_) fun _ _ => ?_ | refine tail_k fun _ _ _ => ?_ | refine ext_k fun _ _ _ => ?_ | refine need_a ?_ | refine st_agg KR rfl ON fun _ _ _ _ => ?_ | refine wpd_q_a ?_
    | simp (maxDischargeDepth := 3) only [↓X, ↓Y, ↓Q, S1, ↓reduceIte, Nat.reduceEqDiff, Nat.reduceAdd, Int.reduceLT, Int.reduceLE, Int.reduceNeg, Int.reduceBEq, Int.reduceBNe, Int.reduceEq, Nat.reduceLeDiff, Nat.reduceMul, Nat.reduceLT, *, siteC, requestV, requestC]
    | simp (singlePass := true) (maxDischargeDepth := 99) only [*, S2, Nat.reduceLT, siteC, requestV, requestC])
          rename_i wM nM kM sM
          refine mk_own_k (n := l.length + 1) (z := .agg #[.int .i64 0, .int .u8 0]) rfl (by decide) (by decide) (by have := h400.out; omega) fun b8 w8 n8 hb8 s8 nw8 => ?_
          have k8 := hb8.bk
          clear hb8
          (repeat' first
    | ((with_reducible refine at_row ?_); refine row1_a fun _ _ _ _ _ _ _ => ?_)
    | with_reducible first | (first | apply alloc_k | apply row_k); intro _ _ _ _ _ _ | (first | apply fork | apply forkp) <;> intro _ | refine forke (fun _ => ?_) fun _ _ => ?_ | refine tail_k fun _ _ _ => ?_ | refine ext_k fun _ _ _ => ?_ | refine need_a ?_ | refine st_agg KR rfl ON fun _ _ _ _ => ?_ | refine wpd_q_a ?_
    | simp (maxDischargeDepth := 3) only [↓X, ↓Y, ↓Q, S1, ↓reduceIte, Nat.reduceEqDiff, Nat.reduceAdd, Int.reduceLT, Int.reduceLE, Int.reduceNeg, Int.reduceBEq, Int.reduceBNe, Int.reduceEq, Nat.reduceLeDiff, Nat.reduceMul, Nat.reduceLT, *]
    | simp (singlePass := true) (maxDischargeDepth := 99) only [*, S2, Nat.reduceLT])
          refine copyHead_k (e := 50) (sz := 2) (by_ := 16) (c := replyC) (r := l) (B' := B) KR (by decide) (k8.2.1 _ FR) (by rw [flat_len (k := 2) _ (by intro c hc; rw [List.eq_of_mem_replicate hc]; rfl), List.length_replicate]; omega) (by omega) (hA _ FR) (fun _ => rfl) replyC_one fun w9 n9 hb9 s9 c9 => ?_
          have hown : OwnA w9 wM.heap.size (.slice (some ⟨b8, 0, none⟩) (l.length + 1) (l.length + 1)) (l ++ [⟨0, 0⟩]) := Own.ofBlkN (by simp) (by rw [← grown_cells]; exact hb9) (by intro c hc; obtain ⟨y, _, rfl⟩ := List.mem_map.1 hc; rfl) (nw8.2.1 _ (Nat.le_refl _)) (by simp; omega)
          have he8 : Value.pointer (some ⟨b8, l.length * 2, none⟩) = elemAt (.slice (some ⟨b8, 0, none⟩) (l.length + 1) (l.length + 1)) 2 l.length := by simp [elemAt, add_none]
          replace he8 : Hid _ := he8
          clear k8 hb9
          (repeat' first
    | ((with_reducible refine at_row ?_); refine row1_a fun _ _ _ _ _ _ _ => ?_)
    | with_reducible first | (first | apply alloc_k | apply row_k); intro _ _ _ _ _ _ | (first | apply fork | apply forkp) <;> intro _ | refine forke (fun _ => ?_) fun _ _ => ?_ | refine tail_k fun _ _ _ => ?_ | refine ext_k fun _ _ _ => ?_ | refine need_a ?_ | refine st_agg KR rfl ON fun _ _ _ _ => ?_ | refine wpd_q_a ?_
    | simp (maxDischargeDepth := 3) only [↓X, ↓Y, ↓Q, S1, ↓reduceIte, Nat.reduceEqDiff, Nat.reduceAdd, Int.reduceLT, Int.reduceLE, Int.reduceNeg, Int.reduceBEq, Int.reduceBNe, Int.reduceEq, Nat.reduceLeDiff, Nat.reduceMul, Nat.reduceLT, *]
    | simp (singlePass := true) (maxDischargeDepth := 99) only [*, S2, Nat.reduceLT])
          rw [he8.out]
          refine own_set (i := l.length) (vs := replyC ⟨rid, an⟩) KR (by decide) hown (by simp) rfl (replyC_one _) fun b' w10 n10 e10 hb10 hl10 hown10 s10 c10 => ?_
          obtain rfl : b8 = b' := Option.some.inj e10
          have hset : ((l ++ [(⟨0, 0⟩ : ReplyD)]).map replyC).set l.length (replyC ⟨rid, an⟩) = (l ++ [(⟨rid, an⟩ : ReplyD)]).map replyC := by
            rw [← List.map_set, List.set_append_right _ _ (Nat.le_refl _), Nat.sub_self]
            rfl
          rw [hset] at hown10
          have O10 := hown10.o
          clear hown e10 hset he8
          (repeat' first
    | ((with_reducible refine wpd_at 16 ?_); refine wpd_hold ?_)
    | ((with_reducible refine at_row ?_); refine row1_a fun _ _ _ _ _ _ _ => ?_)
    | with_reducible first | (first | apply alloc_k | apply row_k); intro _ _ _ _ _ _ | (first | apply fork | apply forkp) <;> intro _ | refine forke (fun _ => ?_) fun _ _ => ?_ | refine tail_k fun _ _ _ => ?_ | refine ext_k fun _ _ _ => ?_ | refine need_a ?_ | refine st_agg KR rfl ON fun _ _ _ _ => ?_ | refine wpd_q_a ?_
    | simp (maxDischargeDepth := 3) only [↓X, ↓Y, ↓Q, S1, ↓reduceIte, Nat.reduceEqDiff, Nat.reduceAdd, Int.reduceLT, Int.reduceLE, Int.reduceNeg, Int.reduceBEq, Int.reduceBNe, Int.reduceEq, Nat.reduceLeDiff, Nat.reduceMul, Nat.reduceLT, *]
    | simp (singlePass := true) (maxDischargeDepth := 99) only [*, S2, Nat.reduceLT])
          have hRB : ∀ b ∈ [b12, b13, b14], b < w10.heap.size := by simp only [List.mem_cons, List.not_mem_nil, or_false, forall_eq_or_imp, forall_eq]; exact FR
          unfold wpdH
          refine wpd_relL 7 [b12, b13, b14] [(4, b12), (5, b13), (6, b14)] rfl (fun iI v w9 => match iI with
            | 0 => v = .agg #[h7, r7]
            | 1 => v = .slice (some ⟨b8, 0, none⟩) (l.length + 1) (l.length + 1)
            | 2 => v = .agg #[.slice (some ⟨b8, 0, none⟩) (l.length + 1) (l.length + 1)]
            | 3 => v = replyV ⟨rid, an⟩
            | 4 => Blk w9 b12 36 [h7, r7]
            | 5 => Blk w9 b13 39 [.slice (some ⟨b8, 0, none⟩) (l.length + 1) (l.length + 1)]
            | 6 => Blk w9 b14 50 (replyC ⟨rid, an⟩)
            | _ => False) KR KR KR hRB (by simp only [List.nodup_cons, List.mem_cons, List.not_mem_nil, or_false, not_or, List.nodup_nil, not_false_eq_true, and_true] <;> exact FR) ?_ ?_ ?_
          · intro iI v w1 w2 hR hx9
            match iI, hR with
            | 0, h => exact h
            | 1, h => exact h
            | 2, h => exact h
            | 3, h => exact h
            | 4, h => exact h.tb hx9 (fun hX => hX.2 rfl)
            | 5, h => exact h.tb hx9 (fun hX => hX.2 rfl)
            | 6, h => exact h.tb hx9 (fun hX => hX.2 rfl)
          · intro iI oO hi ho gF w9 hx9 hdep hag hun
            have s9 := hx9.sb
            simp only [Sb, List.mem_cons, List.not_mem_nil, or_false, forall_eq_or_imp, forall_eq] at s9
            have n9 : Now w9 := trivial
            have r9 := Ext.refl w9
            have z9 := hx9.size
            rcases iI with _|_|_|_|_|_|_|iI
            have e := Option.some.inj ho
            subst e
            have a19 := hag.at 19 KR
            simp only [S5, ↓reduceIte, Nat.reduceEqDiff, initF, *] at a19
            have un4 : Kp b12 w10 w9 := ⟨hRB _ (by simp), hun 4 _ (by decide) rfl KR⟩
            have un5 : Kp b13 w10 w9 := ⟨hRB _ (by simp), hun 5 _ (by decide) rfl KR⟩
            have un6 : Kp b14 w10 w9 := ⟨hRB _ (by simp), hun 6 _ (by decide) rfl KR⟩
            clear hag hdep ho hun
            refine ⟨fun _ => ?_, fun b hb => by simp [bkL] at hb⟩
            refine relStep_off rfl ?_
            rotate_left
            have e := Option.some.inj ho
            subst e
            have a20 := hag.at 20 KR
            simp only [S5, ↓reduceIte, Nat.reduceEqDiff, initF, *] at a20
            have un5 : Kp b13 w10 w9 := ⟨hRB _ (by simp), hun 5 _ (by decide) rfl KR⟩
            have un6 : Kp b14 w10 w9 := ⟨hRB _ (by simp), hun 6 _ (by decide) rfl KR⟩
            clear hag hdep ho hun
            refine ⟨fun _ => ?_, fun b hb => by simp [bkL] at hb⟩
            refine relStep_off rfl ?_
            rotate_left
            have e := Option.some.inj ho
            subst e
            have d1 : (gF 109) = .slice (some ⟨b8, 0, none⟩) (l.length + 1) (l.length + 1) := hdep ⟨1, .data⟩ (by simp) rfl _ _ rfl rfl
            have un5 : Kp b13 w10 w9 := ⟨hRB _ (by simp), hun 5 _ (by decide) rfl KR⟩
            have un6 : Kp b14 w10 w9 := ⟨hRB _ (by simp), hun 6 _ (by decide) rfl KR⟩
            clear hag hdep ho hun
            refine ⟨fun _ => ?_, fun b hb => by simp [bkL] at hb⟩
            refine relStep_off rfl ?_
            rotate_left
            have e := Option.some.inj ho
            subst e
            have a16 := hag.at 16 KR
            simp only [S5, ↓reduceIte, Nat.reduceEqDiff, initF, *] at a16
            have un6 : Kp b14 w10 w9 := ⟨hRB _ (by simp), hun 6 _ (by decide) rfl KR⟩
            clear hag hdep ho hun
            refine ⟨fun _ => ?_, fun b hb => by simp [bkL] at hb⟩
            refine relStep_off rfl ?_
            rotate_left
            have e := Option.some.inj ho
            subst e
            have a12 := hag.at 12 KR
            simp only [S5, ↓reduceIte, Nat.reduceEqDiff, initF, *] at a12
            have d0 : (gF 108) = .agg #[h7, r7] := hdep ⟨0, .data⟩ (by simp) rfl _ _ rfl rfl
            have un5 : Kp b13 w10 w9 := ⟨hRB _ (by simp), hun 5 _ (by decide) rfl KR⟩
            have un6 : Kp b14 w10 w9 := ⟨hRB _ (by simp), hun 6 _ (by decide) rfl KR⟩
            clear hag hdep ho hun
            refine ⟨fun h => by simp [bkL] at h, fun b hb hU => ?_⟩
            obtain rfl : b12 = b := by simpa [bkL] using hb
            refine relStep_off rfl ?_
            rotate_left
            have e := Option.some.inj ho
            subst e
            have a13 := hag.at 13 KR
            simp only [S5, ↓reduceIte, Nat.reduceEqDiff, initF, *] at a13
            have d2 : (gF 110) = .agg #[.slice (some ⟨b8, 0, none⟩) (l.length + 1) (l.length + 1)] := hdep ⟨2, .data⟩ (by simp) rfl _ _ rfl rfl
            have un6 : Kp b14 w10 w9 := ⟨hRB _ (by simp), hun 6 _ (by decide) rfl KR⟩
            clear hag hdep ho hun
            refine ⟨fun h => by simp [bkL] at h, fun b hb hU => ?_⟩
            obtain rfl : b13 = b := by simpa [bkL] using hb
            refine relStep_off rfl ?_
            rotate_left
            have e := Option.some.inj ho
            subst e
            have a14 := hag.at 14 KR
            simp only [S5, ↓reduceIte, Nat.reduceEqDiff, initF, *] at a14
            have d3 : (gF 111) = replyV ⟨rid, an⟩ := hdep ⟨3, .data⟩ (by simp) rfl _ _ rfl rfl
            clear hag hdep ho hun
            refine ⟨fun h => by simp [bkL] at h, fun b hb hU => ?_⟩
            obtain rfl : b14 = b := by simpa [bkL] using hb
            refine relStep_off rfl ?_
            rotate_left
            · omega
            all_goals (repeat' first
    | ((with_reducible refine at_row ?_); refine row1_a fun _ _ _ _ _ _ _ => ?_)
    | with_reducible first | (first | apply alloc_k | apply row_k); intro _ _ _ _ _ _ | (first | apply fork | apply forkp) <;> intro _ | refine forke (fun _ => ?_) fun _ _ => ?_ | refine tail_k fun _ _ _ => ?_ | refine ext_k fun _ _ _ => ?_ | refine need_a ?_ | refine st_agg KR rfl ON fun _ _ _ _ => ?_ | refine wpd_q_a ?_
    | simp (maxDischargeDepth := 3) only [↓X, ↓Y, ↓Q, S1, ↓reduceIte, Nat.reduceEqDiff, Nat.reduceAdd, Int.reduceLT, Int.reduceLE, Int.reduceNeg, Int.reduceBEq, Int.reduceBNe, Int.reduceEq, Nat.reduceLeDiff, Nat.reduceMul, Nat.reduceLT, *, replyV, replyC]
    | simp (singlePass := true) (maxDischargeDepth := 99) only [*, S2, Nat.reduceLT, replyV, replyC])
            all_goals first
              | (exact stT_agg (vs := [h7, r7]) (k12.2.1 w10 FR) hU KR rfl (by simp [H7.2.2.2.1, R7.2.2.2.1]) fun w' hb' hc' => ⟨hc', hb'⟩)
              | (exact stT_agg (vs := [.slice (some ⟨b8, 0, none⟩) (l.length + 1) (l.length + 1)]) (k13.2.1 w10 FR) hU KR rfl (by simp [one_slice]) fun w' hb' hc' => ⟨hc', hb'⟩)
              | (exact stT_agg (vs := replyC ⟨rid, an⟩) (k14.2.1 w10 FR) hU KR rfl (replyC_one _) fun w' hb' hc' => ⟨hc', hb'⟩)
          · intro g9 w9 hx9 hR hS9 hag
            have s9 := hx9.sb
            simp only [Sb, List.mem_cons, List.not_mem_nil, or_false, forall_eq_or_imp, forall_eq] at s9
            have n9 : Now w9 := trivial
            have r9 := Ext.refl w9
            have z9 := hx9.size
            obtain ⟨vs4, d4⟩ := hS9 4 _ (by decide) rfl
            replace d4 : Blk w9 b12 36 [h7, r7] := d4
            obtain ⟨vs5, d5⟩ := hS9 5 _ (by decide) rfl
            replace d5 : Blk w9 b13 39 [.slice (some ⟨b8, 0, none⟩) (l.length + 1) (l.length + 1)] := d5
            obtain ⟨vs6, d6⟩ := hS9 6 _ (by decide) rfl
            replace d6 : Blk w9 b14 50 (replyC ⟨rid, an⟩) := d6
            have a12 := hag.at 12 KR
            have a13 := hag.at 13 KR
            have a14 := hag.at 14 KR
            have a36 := hag.at 36 KR
            have a39 := hag.at 39 KR
            have a50 := hag.at 50 KR
            simp only [S5, ↓reduceIte, Nat.reduceEqDiff, initF, *] at a12 a13 a14 a36 a39 a50
            clear hag hR hS9
            simp only [List.drop_succ_cons, List.drop_zero]
            have k4 := d4.bk
            have k5 := d5.bk
            have k6 := d6.bk
            clear d4 d5 d6
            (repeat' first
    | ((with_reducible refine at_row ?_); refine row1_a fun _ _ _ _ _ _ _ => ?_)
    | with_reducible first | (first | apply alloc_k | apply row_k); intro _ _ _ _ _ _ | (first | apply fork | apply forkp) <;> intro _ | refine forke (fun _ => ?_) fun _ _ => ?_ | refine tail_k fun _ _ _ => ?_ | refine ext_k fun _ _ _ => ?_ | refine need_a ?_ | refine st_agg KR rfl ON fun _ _ _ _ => ?_ | refine wpd_q_a ?_
    | simp (maxDischargeDepth := 3) only [↓X, ↓Y, ↓Q, S1, ↓reduceIte, Nat.reduceEqDiff, Nat.reduceAdd, Int.reduceLT, Int.reduceLE, Int.reduceNeg, Int.reduceBEq, Int.reduceBNe, Int.reduceEq, Nat.reduceLeDiff, Nat.reduceMul, Nat.reduceLT, *, replyV, replyC]
    | simp (singlePass := true) (maxDischargeDepth := 99) only [*, S2, Nat.reduceLT, replyV, replyC])
            exact ⟨_, _, rfl, ⟨_, _, rfl, (H7.1 _ FR).more FR, (R7.1 _ FR).more FR⟩, (O10.1 _ FR).more FR⟩
  · obtain rfl := hg.out.1 p hko
    clear hg hko
    (repeat' first
    | ((with_reducible refine wpd_at 5 ?_); refine wpd_hold ?_)
    | ((with_reducible refine at_row ?_); refine row1_a fun _ _ _ _ _ _ _ => ?_)
    | with_reducible first | (first | apply alloc_k | apply row_k); intro _ _ _ _ _ _ | (first | apply fork | apply forkp) <;> intro _ | refine forke (fun _ => ?_) fun _ _ => ?_ | refine tail_k fun _ _ _ => ?_ | refine ext_k fun _ _ _ => ?_ | refine need_a ?_ | refine st_agg KR rfl ON fun _ _ _ _ => ?_ | refine wpd_q_a ?_
    | simp (maxDischargeDepth := 3) only [↓X, ↓Y, ↓Q, S1, ↓reduceIte, Nat.reduceEqDiff, Nat.reduceAdd, Int.reduceLT, Int.reduceLE, Int.reduceNeg, Int.reduceBEq, Int.reduceBNe, Int.reduceEq, Nat.reduceLeDiff, Nat.reduceMul, Nat.reduceLT, *, siteC, requestV, requestC, knownV, replyV, replyC]
    | simp (singlePass := true) (maxDischargeDepth := 99) only [*, S2, Nat.reduceLT, siteC, requestV, requestC, knownV, replyV, replyC])
    rename_i b16 w16 n16 k16 s16 q16 w5 n5 k5 s5
    have hRB : ∀ b ∈ [b12, b13, b14], b < w5.heap.size := by simp only [List.mem_cons, List.not_mem_nil, or_false, forall_eq_or_imp, forall_eq]; exact FR
    unfold wpdH
    refine wpd_relL 10 [b12, b13, b14] [(7, b12), (8, b13), (9, b14)] rfl (fun iI v w9 => match iI with
      | 0 => v = .agg #[hv, rv]
      | 1 => OwnW w5.heap.size v w9 x
      | 2 => v = .pointer (some ⟨bx9, 0, none⟩)
      | 3 => v = av
      | 4 => OwnA w9 w5.heap.size v l
      | 5 => ∃ a, v = .agg #[a] ∧ OwnA w9 w5.heap.size a l
      | 6 => v = replyV p
      | 7 => ∃ h r, Blk w9 b12 36 [h, r] ∧ OwnH w9 w5.heap.size h x.hosts ∧ OwnP w9 w5.heap.size r x.replicas
      | 8 => ∃ a, Blk w9 b13 39 [a] ∧ OwnA w9 w5.heap.size a l
      | 9 => Blk w9 b14 50 (replyC p)
      | _ => False) KR KR KR hRB (by simp only [List.nodup_cons, List.mem_cons, List.not_mem_nil, or_false, not_or, List.nodup_nil, not_false_eq_true, and_true] <;> exact FR) ?_ ?_ ?_
    · intro iI v w1 w2 hR hx9
      match iI, hR with
      | 0, h => exact h
      | 1, h => exact h.tb hx9 (fun b hb => hRB b hb.1)
      | 2, h => exact h
      | 3, h => exact h
      | 4, h => exact Own.tb h hx9 (fun b hb => hRB b hb.1)
      | 5, h => exact (let ⟨a, e, o⟩ := h; ⟨a, e, Own.tb o hx9 (fun b hb => hRB b hb.1)⟩)
      | 6, h => exact h
      | 7, h => exact (let ⟨a, b, k, o1, o2⟩ := h; ⟨a, b, k.tb hx9 (fun hX => hX.2 rfl), Own.tb o1 hx9 (fun b hb => hRB b hb.1), Own.tb o2 hx9 (fun b hb => hRB b hb.1)⟩)
      | 8, h => exact (let ⟨a, k, o1⟩ := h; ⟨a, k.tb hx9 (fun hX => hX.2 rfl), Own.tb o1 hx9 (fun b hb => hRB b hb.1)⟩)
      | 9, h => exact h.tb hx9 (fun hX => hX.2 rfl)
    · intro iI oO hi ho gF w9 hx9 hdep hag hun
      have s9 := hx9.sb
      simp only [Sb, List.mem_cons, List.not_mem_nil, or_false, forall_eq_or_imp, forall_eq] at s9
      have n9 : Now w9 := trivial
      have r9 := Ext.refl w9
      have z9 := hx9.size
      rcases iI with _|_|_|_|_|_|_|_|_|_|iI
      have e := Option.some.inj ho
      subst e
      have a8 := hag.at 8 KR
      simp only [S5, ↓reduceIte, Nat.reduceEqDiff, initF, *] at a8
      have un7 : Kp b12 w5 w9 := ⟨hRB _ (by simp), hun 7 _ (by decide) rfl KR⟩
      have un8 : Kp b13 w5 w9 := ⟨hRB _ (by simp), hun 8 _ (by decide) rfl KR⟩
      have un9 : Kp b14 w5 w9 := ⟨hRB _ (by simp), hun 9 _ (by decide) rfl KR⟩
      clear hag hdep ho hun
      refine ⟨fun _ => ?_, fun b hb => by simp [bkL] at hb⟩
      refine relStep_off rfl ?_
      rotate_left
      have e := Option.some.inj ho
      subst e
      have d0 : (gF 59) = .agg #[hv, rv] := hdep ⟨0, .data⟩ (by simp) rfl _ _ rfl rfl
      have un7 : Kp b12 w5 w9 := ⟨hRB _ (by simp), hun 7 _ (by decide) rfl KR⟩
      have un8 : Kp b13 w5 w9 := ⟨hRB _ (by simp), hun 8 _ (by decide) rfl KR⟩
      have un9 : Kp b14 w5 w9 := ⟨hRB _ (by simp), hun 9 _ (by decide) rfl KR⟩
      clear hag hdep ho hun
      refine ⟨fun _ => ?_, fun b hb => by simp [bkL] at hb⟩
      refine relStep_off rfl ?_
      rotate_left
      have e := Option.some.inj ho
      subst e
      have a9 := hag.at 9 KR
      simp only [S5, ↓reduceIte, Nat.reduceEqDiff, initF, *] at a9
      have un8 : Kp b13 w5 w9 := ⟨hRB _ (by simp), hun 8 _ (by decide) rfl KR⟩
      have un9 : Kp b14 w5 w9 := ⟨hRB _ (by simp), hun 9 _ (by decide) rfl KR⟩
      clear hag hdep ho hun
      refine ⟨fun _ => ?_, fun b hb => by simp [bkL] at hb⟩
      refine relStep_off rfl ?_
      rotate_left
      have e := Option.some.inj ho
      subst e
      have d2 : (gF 61) = .pointer (some ⟨bx9, 0, none⟩) := hdep ⟨2, .data⟩ (by simp) rfl _ _ rfl rfl
      have un8 : Kp b13 w5 w9 := ⟨hRB _ (by simp), hun 8 _ (by decide) rfl KR⟩
      have un9 : Kp b14 w5 w9 := ⟨hRB _ (by simp), hun 9 _ (by decide) rfl KR⟩
      clear hag hdep ho hun
      refine ⟨fun _ => ?_, fun b hb => by simp [bkL] at hb⟩
      refine relStep_off rfl ?_
      rotate_left
      have e := Option.some.inj ho
      subst e
      have d3 : (gF 62) = av := hdep ⟨3, .data⟩ (by simp) rfl _ _ rfl rfl
      have un7 : Kp b12 w5 w9 := ⟨hRB _ (by simp), hun 7 _ (by decide) rfl KR⟩
      have un8 : Kp b13 w5 w9 := ⟨hRB _ (by simp), hun 8 _ (by decide) rfl KR⟩
      have un9 : Kp b14 w5 w9 := ⟨hRB _ (by simp), hun 9 _ (by decide) rfl KR⟩
      clear hag hdep ho hun
      refine ⟨fun _ => ?_, fun b hb => by simp [bkL] at hb⟩
      refine relStep_off rfl ?_
      rotate_left
      have e := Option.some.inj ho
      subst e
      have d4 : OwnA w9 w5.heap.size (gF 63) l := hdep ⟨4, .data⟩ (by simp) rfl _ _ rfl rfl
      have A4 := d4.o
      have un8 : Kp b13 w5 w9 := ⟨hRB _ (by simp), hun 8 _ (by decide) rfl KR⟩
      have un9 : Kp b14 w5 w9 := ⟨hRB _ (by simp), hun 9 _ (by decide) rfl KR⟩
      clear hag hdep ho hun
      refine ⟨fun _ => ?_, fun b hb => by simp [bkL] at hb⟩
      refine relStep_off rfl ?_
      rotate_left
      have e := Option.some.inj ho
      subst e
      have a16 := hag.at 16 KR
      simp only [S5, ↓reduceIte, Nat.reduceEqDiff, initF, *] at a16
      have un9 : Kp b14 w5 w9 := ⟨hRB _ (by simp), hun 9 _ (by decide) rfl KR⟩
      clear hag hdep ho hun
      refine ⟨fun _ => ?_, fun b hb => by simp [bkL] at hb⟩
      refine relStep_off rfl ?_
      rotate_left
      have e := Option.some.inj ho
      subst e
      have a12 := hag.at 12 KR
      simp only [S5, ↓reduceIte, Nat.reduceEqDiff, initF, *] at a12
      have d1 : OwnW w5.heap.size (gF 60) w9 x := hdep ⟨1, .data⟩ (by simp) rfl _ _ rfl rfl
      obtain ⟨h1, r1, e1, oh1, or1⟩ := d1
      have H1 := oh1.o
      have R1 := or1.o
      have un8 : Kp b13 w5 w9 := ⟨hRB _ (by simp), hun 8 _ (by decide) rfl KR⟩
      have un9 : Kp b14 w5 w9 := ⟨hRB _ (by simp), hun 9 _ (by decide) rfl KR⟩
      clear hag hdep ho hun
      refine ⟨fun h => by simp [bkL] at h, fun b hb hU => ?_⟩
      obtain rfl : b12 = b := by simpa [bkL] using hb
      refine relStep_off rfl ?_
      rotate_left
      have e := Option.some.inj ho
      subst e
      have a13 := hag.at 13 KR
      simp only [S5, ↓reduceIte, Nat.reduceEqDiff, initF, *] at a13
      have d5 : ∃ a, (gF 64) = .agg #[a] ∧ OwnA w9 w5.heap.size a l := hdep ⟨5, .data⟩ (by simp) rfl _ _ rfl rfl
      obtain ⟨a5, e5, oa5⟩ := d5
      have A5 := oa5.o
      have un9 : Kp b14 w5 w9 := ⟨hRB _ (by simp), hun 9 _ (by decide) rfl KR⟩
      clear hag hdep ho hun
      refine ⟨fun h => by simp [bkL] at h, fun b hb hU => ?_⟩
      obtain rfl : b13 = b := by simpa [bkL] using hb
      refine relStep_off rfl ?_
      rotate_left
      have e := Option.some.inj ho
      subst e
      have a14 := hag.at 14 KR
      simp only [S5, ↓reduceIte, Nat.reduceEqDiff, initF, *] at a14
      have d6 : (gF 65) = replyV p := hdep ⟨6, .data⟩ (by simp) rfl _ _ rfl rfl
      clear hag hdep ho hun
      refine ⟨fun h => by simp [bkL] at h, fun b hb hU => ?_⟩
      obtain rfl : b14 = b := by simpa [bkL] using hb
      refine relStep_off rfl ?_
      rotate_left
      · omega
      all_goals (repeat' first
    | ((with_reducible refine at_row ?_); refine row1_a fun _ _ _ _ _ _ _ => ?_)
    | with_reducible first | (first | apply alloc_k | apply row_k); intro _ _ _ _ _ _ | (first | apply fork | apply forkp) <;> intro _ | refine forke (fun _ => ?_) fun _ _ => ?_ | refine tail_k fun _ _ _ => ?_ | refine ext_k fun _ _ _ => ?_ | refine need_a ?_ | refine st_agg KR rfl ON fun _ _ _ _ => ?_ | refine wpd_q_a ?_
    | simp (maxDischargeDepth := 3) only [↓X, ↓Y, ↓Q, S1, ↓reduceIte, Nat.reduceEqDiff, Nat.reduceAdd, Int.reduceLT, Int.reduceLE, Int.reduceNeg, Int.reduceBEq, Int.reduceBNe, Int.reduceEq, Nat.reduceLeDiff, Nat.reduceMul, Nat.reduceLT, *, siteC, replyV, replyC]
    | simp (singlePass := true) (maxDischargeDepth := 99) only [*, S2, Nat.reduceLT, siteC, replyV, replyC])
      all_goals first
        | (refine CallsV.mono (agentOwn (B := B) FR (hX _ FR) hp.out.1) fun v w10 hh => ⟨hh.1, OwnW.more hh.2 z9⟩)
        | (refine CallsV.mono (slicesCloneA (B := B) FR (hA _ FR) hlen) fun v w10 hh => ⟨hh.1, Own.more hh.2 z9⟩)
        | (exact ⟨_, rfl, d4⟩)
        | (refine stT_agg (k12.2.1 w5 FR) hU KR rfl (by simp [H1.2.2.2.1, R1.2.2.2.1]) fun w' hb' hc' => ⟨hc', h1, r1, hb', oh1.keep fun c hc => hc'.block c (oh1.lt c hc).2 (fun e => by have := hRB b12 (by simp); have := (oh1.lt c hc).1; omega), or1.keep fun c hc => hc'.block c (or1.lt c hc).2 (fun e => by have := hRB b12 (by simp); have := (or1.lt c hc).1; omega)⟩)
        | (refine stT_agg (k13.2.1 w5 FR) hU KR rfl (by simp [A5.2.2.2.1]) fun w' hb' hc' => ⟨hc', a5, hb', oa5.keep fun c hc => hc'.block c (oa5.lt c hc).2 (fun e => by have := hRB b13 (by simp); have := (oa5.lt c hc).1; omega)⟩)
        | (exact stT_agg (vs := replyC p) (k14.2.1 w5 FR) hU KR rfl (replyC_one _) fun w' hb' hc' => ⟨hc', hb'⟩)
    · intro g9 w9 hx9 hR hS9 hag
      have s9 := hx9.sb
      simp only [Sb, List.mem_cons, List.not_mem_nil, or_false, forall_eq_or_imp, forall_eq] at s9
      have n9 : Now w9 := trivial
      have r9 := Ext.refl w9
      have z9 := hx9.size
      obtain ⟨vs7, d7⟩ := hS9 7 _ (by decide) rfl
      replace d7 : ∃ h r, Blk w9 b12 36 [h, r] ∧ OwnH w9 w5.heap.size h x.hosts ∧ OwnP w9 w5.heap.size r x.replicas := d7
      obtain ⟨vs8, d8⟩ := hS9 8 _ (by decide) rfl
      replace d8 : ∃ a, Blk w9 b13 39 [a] ∧ OwnA w9 w5.heap.size a l := d8
      obtain ⟨vs9, d9⟩ := hS9 9 _ (by decide) rfl
      replace d9 : Blk w9 b14 50 (replyC p) := d9
      have a12 := hag.at 12 KR
      have a13 := hag.at 13 KR
      have a14 := hag.at 14 KR
      have a36 := hag.at 36 KR
      have a39 := hag.at 39 KR
      have a50 := hag.at 50 KR
      simp only [S5, ↓reduceIte, Nat.reduceEqDiff, initF, *] at a12 a13 a14 a36 a39 a50
      clear hag hR hS9
      simp only [List.drop_succ_cons, List.drop_zero]
      obtain ⟨h7, r7, kb7, o7, p7⟩ := d7
      obtain ⟨a8, kb8, o8⟩ := d8
      have k7 := kb7.bk
      have k8 := kb8.bk
      have k9 := d9.bk
      have H7 := o7.o
      have R7 := p7.o
      have A8 := o8.o
      clear kb7 kb8 d9 o7 p7 o8
      (repeat' first
    | ((with_reducible refine at_row ?_); refine row1_a fun _ _ _ _ _ _ _ => ?_)
    | with_reducible first | (first | apply alloc_k | apply row_k); intro _ _ _ _ _ _ | (first | apply fork | apply forkp) <;> intro _ | refine forke (fun _ => ?_) fun _ _ => ?_ | refine tail_k fun _ _ _ => ?_ | refine ext_k fun _ _ _ => ?_ | refine need_a ?_ | refine st_agg KR rfl ON fun _ _ _ _ => ?_ | refine wpd_q_a ?_
    | simp (maxDischargeDepth := 3) only [↓X, ↓Y, ↓Q, S1, ↓reduceIte, Nat.reduceEqDiff, Nat.reduceAdd, Int.reduceLT, Int.reduceLE, Int.reduceNeg, Int.reduceBEq, Int.reduceBNe, Int.reduceEq, Nat.reduceLeDiff, Nat.reduceMul, Nat.reduceLT, *, replyV, replyC]
    | simp (singlePass := true) (maxDischargeDepth := 99) only [*, S2, Nat.reduceLT, replyV, replyC])
      exact ⟨_, _, rfl, ⟨_, _, rfl, (H7.1 _ FR).more FR, (R7.1 _ FR).more FR⟩, (A8.1 _ FR).more FR⟩
end
end Go.Proofs.YtblegjdogmcgbaaGreat
