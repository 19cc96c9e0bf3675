/- Rows that are made at once, and rows that are copied into. -/
import Derived.Test.YtbfmabkdggllhaaRow
namespace Go.Proofs.Ytbfmabkdggllhaa
set_option linter.unusedSimpArgs false
set_option linter.unusedVariables false
open Go Go.RowKit
set_option maxRecDepth 100000
set_option linter.unusedSectionVars false
set_option maxHeartbeats 1000000
theorem run_copy_rowN {P : Program} (w : World) (dT sT ty elem : TypeId) (g o dLen dCap : Nat) (a : Addr) (sLen sCap sz : Nat) (i : TypeInfo) (cur : Array Value) (t : TypeId) (cs : List Value)
    (hu : P.underlying dT = some (.slice elem)) (hi : P.info? elem = some i) (hs : i.size = sz)
    (hg : w.heap[g]? = some (.cells cur t (0, 0))) (hn : cs.length = Nat.min sLen dLen * sz)
    (hsrc : ∀ j v, cs[j]? = some v → w.cell? (a.add j) = some v) (hfit : o + cs.length ≤ cur.size) (h1 : ∀ v ∈ cs, v.oneCell' = true) :
    (Builtin.copy_ #[dT, sT] ty #[.slice (some ⟨g, o, none⟩) dLen dCap, .slice (some a) sLen sCap]).run P w =
      .ok (goInt (Nat.min sLen dLen)) (w.setRow g (cur.toList.take o ++ cs ++ cur.toList.drop (o + cs.length)).toArray) := by
  have hl := run_loadCells_list (P := P) w a cs hsrc
  have hst := run_storeCells_at P g o t cs 0 cur w hg (by simpa using hfit) h1
  simp [Builtin.copy_, run_underlying hu, Builtin.lenOf, Builtin.firstCells, sizeOf, typeInfo, hi, hs, ← hn, hl, hst]
theorem chg_row (w : World) (g : Nat) (cur : Array Value) : Chg w (w.setRow g cur) g :=
  ⟨rfl, rfl, rfl, by simp [World.setRow], fun k _ hk => setRow_other w g k _ hk⟩
theorem zrow_flat (z : List Value) : ∀ n, zrow z n = (List.replicate n z).flatten
  | 0 => rfl
  | n + 1 => by rw [zrow, zrow_flat z n, List.replicate_succ, List.flatten_cons]
section
variable {w : World} {B b cp e sz by_ t ty : Nat} {s z : Value}
/-- make of a slice of structs. -/
theorem mk_own_k {n : Nat} {f : Value → World → Prop} (hz : (cellsL z).length = sz) (hs : 0 < sz) (hb : by_ ≤ 64) (hn : n ≤ 1000000) (h : ∀ b w', Now w' → Blk w' b e (List.replicate n (cellsL z)).flatten → St w w' → Nw w b → f (.slice (some ⟨b, 0, none⟩) n n) w') :
    mkslX (some (e, sz, by_)) (some z) (.int .i64 n) (.int .i64 n) w f := by
  have hm : (by_ : Int) * n ≤ 64000000 := by
    have h2 : by_ * n ≤ 64 * 1000000 := Nat.mul_le_mul hb hn
    have h3 : ((by_ * n : Nat) : Int) ≤ 64000000 := by omega
    rw [Int.natCast_mul] at h3
    exact h3
  refine need ⟨by omega, by omega, by omega, by omega, hz, hs⟩ ?_
  simp only [Int.toNat_natCast]
  rw [zrow_flat]
  exact h _ _ trivial (Blk.new w _ _) (Ext.alloc w _).st (Nw.of (Nat.le_refl _))
/-- copy of a whole slice into a row of the same length that is known. -/
theorem copyAll_k {α : Type} {B' n m : Nat} {cur : List Value} {v : Value} {c : α → List Value} {r : List α} {k : Value → World → Prop} (hsl : slOf Try.prog t = some (e, sz, by_)) (hsz : 0 < sz) (hb : Blk w b e cur) (hc : cur.length = r.length * sz) (hn : n = r.length)
    (hv : Sl w B' (some sz) sz v (r.map fun x => .agg (c x).toArray)) (hl : ∀ x, (c x).length = sz) (h1 : ∀ x, ∀ v ∈ c x, v.oneCell' = true)
    (h : ∀ w', Now w' → Blk w' b e (r.map c).flatten → Sc w w' b → Cg b w w' → k (.int .i64 n) w') : copyX Try.prog t t ty (.slice (some ⟨b, 0, none⟩) n m) v w k := by
  subst hn
  obtain ⟨i, hu, hi, hs, hby'⟩ := slOf_parts hsl
  have hall : ∀ x ∈ r.map c, x.length = sz := by
    intro x hx
    obtain ⟨y, _, rfl⟩ := List.mem_map.1 hx
    exact hl y
  have hlen : lenN v = r.length := by simpa using hv.len
  have hfl : (r.map c).flatten.length = r.length * sz := by rw [flat_len _ hall, List.length_map]
  have hwf := hv.wf
  match v, hv, hlen, hwf with
  | .slice (some a) q cc, hv, hlen, _ =>
    obtain rfl : q = r.length := hlen
    have hr := run_copy_rowN (P := Try.prog) w t t ty e b 0 r.length m a r.length cc sz i cur.toArray e (r.map c).flatten hu hi hs hb (by rw [hfl]; simp [Nat.min_def]) (sl_cells hv hl hsz) (by rw [hfl]; simp; omega)
      (fun u hu => by obtain ⟨x, hx, hux⟩ := List.mem_flatten.1 hu; obtain ⟨y, _, rfl⟩ := List.mem_map.1 hx; exact h1 y u hux)
    have e1 : (List.take 0 cur.toArray.toList ++ (r.map c).flatten ++ List.drop (0 + (r.map c).flatten.length) cur.toArray.toList).toArray = (r.map c).flatten.toArray := by
      rw [hfl, List.toList_toArray, List.take_zero, List.nil_append, Nat.zero_add, ← hc, List.drop_length, List.append_nil]
    rw [e1] at hr
    have e2 : goInt (Nat.min r.length r.length) = .int .i64 r.length := by simp [goInt, Nat.min_def]
    rw [show ((Nat.min r.length r.length : Nat) : Int) = ((r.length : Nat) : Int) by simp [Nat.min_def]] at hr
    have hcg := chg_row w b (r.map c).flatten.toArray
    exact runsV_ok hr (h _ trivial (setRow_heap w b _ _ e _ hb) hcg.sc hcg)
  | .slice none q cc, hv, hlen, hwf =>
    obtain rfl : q = 0 := hwf
    have hr0 : r = [] := List.eq_nil_of_length_eq_zero hlen.symm
    subst hr0
    have hc0 : cur = [] := List.eq_nil_of_length_eq_zero (by simpa using hc)
    subst hc0
    have hr : (Builtin.copy_ #[t, t] ty #[.slice (some ⟨b, 0, none⟩) 0 m, .slice none 0 cc]).run Try.prog w = .ok (goInt 0) w := by
      simp [Builtin.copy_, run_underlying hu, sizeOf, typeInfo, hi, Builtin.lenOf, Builtin.firstCells, storeCells]
    have hcg := Chg.refl' w b
    exact runsV_ok hr (h w trivial hb hcg.sc hcg)
end
end Go.Proofs.Ytbfmabkdggllhaa
