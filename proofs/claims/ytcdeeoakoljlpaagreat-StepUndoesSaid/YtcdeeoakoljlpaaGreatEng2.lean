
/- The engine: what an operation asks is enough. -/
import Derived.Test.YtcdeeoakoljlpaaGreatEng1
import Derived.Laws.StructEq
namespace Go.Proofs.YtcdeeoakoljlpaaGreat
set_option linter.unusedSimpArgs false
set_option linter.unusedVariables false
open Go
section
variable {P : Program} {w : World}

theorem wp1_bare {o : Oper} {g : Fr} {k : Value → World → Prop} : wp1 P o g w k = wp1 P (bare o.op o.type) g w k := rfl

theorem eqGuard_int {op : BinOp} {t : TypeId} {x y : Operand} {j k : IntKind} {a b : Int} : (eqGuard op t x y (.int j a) (.int k b)).run P w = .ok () w := by
  unfold eqGuard
  cases op <;> rfl
theorem eqGuard_bool {op : BinOp} {t : TypeId} {x y : Operand} {a b : Bool} : (eqGuard op t x y (.bool a) (.bool b)).run P w = .ok () w := by
  unfold eqGuard
  cases op <;> rfl
theorem run_equalIn_bool {t : TypeId} {a b : Bool} (ht : P.underlying t = some .bool) (d : Nat) : (Op.equalIn (d + 1) t (.bool a) (.bool b)).run P w = .ok (a == b) w := by
  simp [Op.equalIn, run_underlying ht]
theorem run_binOp_eql_bool {t : TypeId} {a b : Bool} (ht : P.underlying t = some .bool) : (binOp .eql t (.bool a) (.bool b)).run P w = .ok (.bool (a == b)) w := by
  simp only [binOp]
  simp [Op.equal, Op.maxDepth, run_equalIn_bool ht 9999]
theorem run_binOp_neq_bool {t : TypeId} {a b : Bool} (ht : P.underlying t = some .bool) : (binOp .neq t (.bool a) (.bool b)).run P w = .ok (.bool (a != b)) w := by
  simp only [binOp]
  simp [Op.equal, Op.maxDepth, run_equalIn_bool ht 9999]
  cases a <;> cases b <;> rfl
theorem isBoolT_eq {t : TypeId} (h : isBoolT P t = true) : P.underlying t = some .bool := by
  unfold isBoolT at h
  split at h
  · assumption
  · cases h

theorem run_binOp_int {op : BinOp} {t : TypeId} {k : IntKind} {a b : Int} {f : Value → World → Prop} (h1 : op ≠ .shl) (h2 : op ≠ .shr) (h : intX op k a b w f) : ∃ v, (binOp op t (.int k a) (.int k b)).run P w = .ok v w ∧ f v w := by
  cases op <;> simp only [intX, needX] at h <;> first
    | exact absurd rfl h1
    | exact absurd rfl h2
    | exact h.elim
    | (refine ⟨_, ?_, h⟩; simp [binOp, Op.intArith]; done)
    | (refine ⟨_, ?_, h.2⟩; simp [binOp, Op.intDiv, h.1]; done)
    | (refine ⟨_, ?_, h⟩; simp [binOp, Op.intBits, andI, orI, xorI, andNotI]; done)
    | (refine ⟨_, ?_, h⟩; simp [binOp, Op.intCmp]; done)

theorem slOf_parts {t e sz by_ : Nat} (h : slOf P t = some (e, sz, by_)) : ∃ i, P.underlying t = some (.slice e) ∧ P.info? e = some i ∧ i.size = sz ∧ i.bytes = by_ := by
  unfold slOf at h
  split at h
  · rename_i e' ht
    cases hi : P.info? e' with
    | none => simp [hi] at h
    | some i =>
      simp [hi] at h
      obtain ⟨rfl, h2, h3⟩ := h
      exact ⟨i, ht, hi, h2, h3⟩
  · cases h
theorem eqFields_run (w : World) (xs ys : Array Value) (d : Nat) : ∀ (fs : List Field) (i : Nat) (ks : List (Option IntKind)) (us vs : List Value), ((fs.zipIdx i).mapM fun p => if p.1.name == "_" || p.1.offset != p.2 then none else match P.underlying p.1.type with
    | some (.int k) => some (some k)
    | some .bool => some none
    | _ => none) = some ks → fitsK ks us → fitsK ks vs → xs.toList.drop i = us → ys.toList.drop i = vs → (Op.eqFields (d + 1) xs ys fs).run P w = .ok (eqL us vs) w := by
  intro fs
  induction fs with
  | nil =>
    intro i ks us vs h hu hv _ _
    simp at h
    subst h
    cases us with
    | nil => rfl
    | cons u us => exact hu.elim
  | cons f fs ih =>
    intro i ks us vs h hu hv hx hy
    simp only [List.zipIdx_cons, List.mapM_cons, Option.bind_eq_bind, Option.bind_eq_some_iff, Option.pure_def, Option.some.injEq] at h
    obtain ⟨k, hk, r, hr, rfl⟩ := h
    split at hk
    · cases hk
    · rename_i hc
      simp only [Bool.or_eq_true, beq_iff_eq, bne_iff_ne, ne_eq, not_or, Decidable.not_not] at hc
      obtain ⟨hn, ho⟩ := hc
      have get : ∀ (zs : Array Value) (z : Value) (zr : List Value), zs.toList.drop i = z :: zr → zs[i]? = some z ∧ zs.toList.drop (i + 1) = zr := by
        intro zs z zr hz
        have h1 : zs.toList[i]? = some z := by
          have := congrArg (fun l => l[0]?) hz
          simpa [List.getElem?_drop] using this
        have h2 := congrArg List.tail hz
        rw [List.tail_drop] at h2
        exact ⟨by simpa using h1, h2⟩
      split at hk
      · rename_i kk hty
        obtain rfl : some kk = k := by simpa using hk
        cases us with
        | nil => exact hu.elim
        | cons u us => cases vs with
          | nil => exact hv.elim
          | cons v vs => cases u <;> cases v <;> simp only [fitsK] at hu hv <;> first | exact hu.elim | exact hv.elim | skip
                         rename_i k1 a k2 b
                         obtain ⟨rfl, hu⟩ := hu
                         obtain ⟨rfl, hv⟩ := hv
                         obtain ⟨gx, tx⟩ := get xs _ _ hx
                         obtain ⟨gy, ty⟩ := get ys _ _ hy
                         simp only [Op.eqFields, hn, ne_eq, not_false_eq_true, if_true, ho]
                         simp only [Sem.run_bind, part, isAgg, run_underlying hty, Sem.run_pure, Result.andThen_ok, Bool.false_eq_true, if_false, gx, gy, run_equalIn_int _ d f.type _ _ _ _ hty, eqL]
                         cases hab : a == b
                         · simp
                         · simpa using ih (i + 1) r us vs hr hu hv tx ty
      · rename_i hty
        obtain rfl : none = k := by simpa using hk
        cases us with
        | nil => exact hu.elim
        | cons u us => cases vs with
          | nil => exact hv.elim
          | cons v vs => cases u <;> cases v <;> simp only [fitsK] at hu hv <;> first | exact hu.elim | exact hv.elim | skip
                         rename_i a b
                         obtain ⟨gx, tx⟩ := get xs _ _ hx
                         obtain ⟨gy, ty⟩ := get ys _ _ hy
                         simp only [Op.eqFields, hn, ne_eq, not_false_eq_true, if_true, ho]
                         simp only [Sem.run_bind, part, isAgg, run_underlying hty, Sem.run_pure, Result.andThen_ok, Bool.false_eq_true, if_false, gx, gy, run_equalIn_bool' _ d f.type _ _ hty, eqL]
                         cases hab : a == b
                         · simp
                         · simpa using ih (i + 1) r us vs hr hu hv tx ty
      · cases hk
theorem eqKs_run (w : World) {t : TypeId} {ks : List (Option IntKind)} {xs ys : Array Value} (hk : eqKs P t = some ks) (hx : fitsK ks xs.toList) (hy : fitsK ks ys.toList) : P.eqGuardType P.depth t = false ∧ (Op.equalIn 10000 t (.agg xs) (.agg ys)).run P w = .ok (eqL xs.toList ys.toList) w := by
  unfold eqKs at hk
  split at hk
  · rename_i fs ht
    split at hk
    · cases hk
    · rename_i hc
      simp only [Bool.or_eq_true, not_or, Bool.not_eq_true] at hc
      have hf : P.fieldsOf t = fs := by unfold Program.fieldsOf; rw [ht]
      refine ⟨hc.2, ?_⟩
      rw [run_equalIn_struct w 9999 t xs ys (by rw [hf]; exact ht) hc.1, hf]
      exact eqFields_run w xs ys 9998 fs.toList 0 ks _ _ hk hx hy rfl rfl
  · cases hk
theorem eqY_run {op : BinOp} {neg : Bool} {t : TypeId} {cx cy : Operand} {xs ys : Array Value} {f : Value → World → Prop} (hop : (op = .eql ∧ neg = false) ∨ (op = .neq ∧ neg = true))
    (h : eqY (eqKs P t) neg xs.toList ys.toList w f (runsV P (do eqGuard op t cx cy (.agg xs) (.agg ys); binOp op t (.agg xs) (.agg ys)) w f)) : runsV P (do eqGuard op t cx cy (.agg xs) (.agg ys); binOp op t (.agg xs) (.agg ys)) w f := by
  unfold eqY at h
  split at h
  · rename_i ks hk
    obtain ⟨⟨hx, hy⟩, hf⟩ := h
    obtain ⟨hg, he⟩ := eqKs_run w hk hx hy
    refine runsV_ok ?_ hf
    rw [Sem.run_bind, run_eqGuard_agg w op t cx cy xs ys hg]
    rcases hop with ⟨rfl, rfl⟩ | ⟨rfl, rfl⟩
    · simp [run_eql_struct w t xs ys, he]
    · simp [run_neq_struct w t xs ys, he]
  · exact h
theorem run_equalIn_slnil (w : World) {t e : TypeId} {a : Option Addr} {m n c c' : Nat} (hu : P.underlying t = some (.slice e)) (d : Nat) : (Op.equalIn (d + 1) t (.slice a m c) (.slice none n c')).run P w = .ok a.isNone w := by
  cases a <;> simp [Op.equalIn, run_underlying hu]
theorem run_binOp_eql_slnil (w : World) {t e : TypeId} {a : Option Addr} {m n c c' : Nat} (hu : P.underlying t = some (.slice e)) : (binOp .eql t (.slice a m c) (.slice none n c')).run P w = .ok (.bool a.isNone) w := by
  simp only [binOp]
  simp [Op.equal, Op.maxDepth, run_equalIn_slnil w hu 9999]
theorem run_binOp_neq_slnil (w : World) {t e : TypeId} {a : Option Addr} {m n c c' : Nat} (hu : P.underlying t = some (.slice e)) : (binOp .neq t (.slice a m c) (.slice none n c')).run P w = .ok (.bool (!a.isNone)) w := by
  simp only [binOp]
  simp [Op.equal, Op.maxDepth, run_equalIn_slnil w hu 9999]
theorem run_eqGuard_sl (w : World) {op : BinOp} {t : TypeId} {cx cy : Operand} {a b : Option Addr} {m n c c' : Nat} : (eqGuard op t cx cy (.slice a m c) (.slice b n c')).run P w = .ok () w := by
  cases op <;> simp [eqGuard]
theorem nilX0_run {op : BinOp} {neg : Bool} {t : TypeId} {cx cy : Operand} {x : Value} {n c : Nat} {f : Value → World → Prop} (hop : (op = .eql ∧ neg = false) ∨ (op = .neq ∧ neg = true))
    (h : nilX0 (slOf P t) neg x w f) : runsV P (do eqGuard op t cx cy x (.slice none n c); binOp op t x (.slice none n c)) w f := by
  unfold nilX0 at h
  split at h
  · rename_i r hs
    obtain ⟨e, sz, by_⟩ := r
    obtain ⟨ti, hu, _⟩ := slOf_parts hs
    obtain ⟨hx, hf⟩ := h
    cases x with
    | slice a m d =>
      refine runsV_ok (w' := w) ?_ hf
      rw [Sem.run_bind, run_eqGuard_sl]
      rcases hop with ⟨rfl, rfl⟩ | ⟨rfl, rfl⟩
      · simp only [Result.andThen_ok, run_binOp_eql_slnil w hu]
        cases a <;> rfl
      · simp only [Result.andThen_ok, run_binOp_neq_slnil w hu]
        cases a <;> rfl
    | _ => exact hx.elim
  · exact h.elim
theorem binX_run {op : BinOp} {t : TypeId} {cx cy : Operand} {x y : Value} {f : Value → World → Prop} (h : binX P op t cx cy x y w f) : runsV P (do eqGuard op t cx cy x y; binOp op t x y) w f := by
  unfold binX at h
  split at h
  · obtain ⟨hb, hf⟩ := h
    refine runsV_ok ?_ hf
    rename_i k a j b
    have hn : ¬ b < 0 := by omega
    simp [eqGuard_int, binOp, Op.shift, hn, shlI]
  · obtain ⟨hb, hf⟩ := h
    refine runsV_ok ?_ hf
    rename_i k a j b
    have hn : ¬ b < 0 := by omega
    simp [eqGuard_int, binOp, Op.shift, hn, shrI]
  · rename_i k a k' b n1 n2
    obtain ⟨rfl, hf⟩ := h
    obtain ⟨v, hr, hv⟩ := run_binOp_int (P := P) (w := w) (t := t) n1 n2 hf
    exact runsV_ok (by rw [Sem.run_bind, eqGuard_int]; exact hr) hv
  · obtain ⟨hb, hf⟩ := h
    exact runsV_ok (by rw [Sem.run_bind, eqGuard_bool]; exact run_binOp_eql_bool (isBoolT_eq hb)) hf
  · obtain ⟨hb, hf⟩ := h
    exact runsV_ok (by rw [Sem.run_bind, eqGuard_bool]; exact run_binOp_neq_bool (isBoolT_eq hb)) hf
  · exact eqY_run (.inl ⟨rfl, rfl⟩) h
  · exact eqY_run (.inr ⟨rfl, rfl⟩) h
  · exact nilX0_run (.inl ⟨rfl, rfl⟩) h
  · exact nilX0_run (.inr ⟨rfl, rfl⟩) h
  · exact h

theorem unX_run {op : UnOp} {x : Value} {f : Value → World → Prop} (h : unX P op x w f) : runsV P (Op.unary op x) w f := by
  unfold unX at h
  split at h
  · exact runsV_ok (by simp [Op.unary]) h
  · exact runsV_ok (by simp [Op.unary, Op.intArith]) h
  · exact h

theorem run_sizeOf' {t : TypeId} {i : TypeInfo} (h : P.info? t = some i) : (sizeOf t).run P w = .ok i.size w := by
  simp [sizeOf, typeInfo, h]

theorem fldX_run {s i : Nat} {v : Value} {f : Value → World → Prop} (h : fldX (fldOf P s i) v w f) : runsV P (Instr.fieldAt s v i) w fun u w' => w' = w ∧ f u w := by
  unfold fldX at h
  split at h
  · rename_i off a ho
    unfold fldOf at ho
    split at ho
    · rename_i fs hs
      split at ho
      · rename_i fl hf
        split at ho
        · rename_i ti hti
          split at ho
          · cases ho
          · rename_i hz
            obtain rfl : fl.offset = off := by simpa using ho
            refine runsV_ok (w' := w) ?_ ⟨rfl, h⟩
            simp [Instr.fieldAt, run_underlying hs, hf, Instr.sureAddr, fieldPlace, run_sizeOf' hti, hz]
        · cases ho
      · cases ho
    · cases ho
  · exact h.elim

theorem idxX_run {t : TypeId} {x i : Value} {f : Value → World → Prop} (h : idxX (slOf P t) x i w f) : runsV P (Instr.indexAt t x i) w fun u w' => w' = w ∧ f u w := by
  unfold idxX at h
  split at h
  · rename_i e sz by_ k n hs
    obtain ⟨⟨hw, h0, hn⟩, hf⟩ := h
    obtain ⟨ti, hu, hi, hsz, _⟩ := slOf_parts hs
    cases x with
    | slice A len cap =>
      cases A with
      | none => simp only [SlWf] at hw; subst hw; simp [lenN] at hn; omega
      | some a =>
        refine runsV_ok (w' := w) ?_ ⟨rfl, hf⟩
        simp only [lenN] at hn
        simp [Instr.indexAt, asIntOf, run_underlying hu, h0, hn, run_sizeOf' hi, hsz, elemAt]
    | _ => exact hw.elim
  · exact h.elim

theorem idxY_run {t : TypeId} {x i : Value} {f : Value → World → Prop} (h : idxY (arrOf P t) (slOf P t) x i w f) : runsV P (Instr.indexAt t x i) w fun u w' => w' = w ∧ f u w := by
  unfold idxY at h
  split at h
  · exact idxX_run h
  · rename_i n sz ad k i ha
    obtain ⟨⟨h0, hn⟩, hf⟩ := h
    unfold arrOf at ha
    split at ha
    · rename_i n' e hu
      cases hi : P.info? e with
      | none => simp [hi] at ha
      | some ti =>
        simp [hi] at ha
        obtain ⟨rfl, rfl⟩ := ha
        refine runsV_ok (w' := w) ?_ ⟨rfl, hf⟩
        simp [Instr.indexAt, asIntOf, run_underlying hu, Instr.sureAddr, h0, hn, run_sizeOf' hi]
    · cases ha
  · exact h.elim
theorem lenX_run {t ty : TypeId} {x : Value} {f : Value → World → Prop} (h : lenX (slOf P t) x w f) : runsV P (Builtin.len_ #[t] ty #[x]) w fun u w' => w' = w ∧ f u w := by
  unfold lenX at h
  split at h
  · rename_i r hs
    obtain ⟨e, sz, by_⟩ := r
    obtain ⟨ti, hu, hi, hsz, _⟩ := slOf_parts hs
    obtain ⟨hx, hf⟩ := h
    cases x with
    | slice A len cap => exact runsV_ok (w' := w) (by simp [Builtin.len_, run_underlying hu, goInt]; rfl) ⟨rfl, hf⟩
    | _ => exact hx.elim
  · exact h.elim

theorem cap_run {t ty : TypeId} {x : Value} {f : Value → World → Prop} (h : capX (slOf P t) x w f) : runsV P (Builtin.cap_ #[t] ty #[x]) w fun u w' => w' = w ∧ f u w := by
  unfold capX at h
  split at h
  · rename_i r hs
    obtain ⟨e, sz, by_⟩ := r
    obtain ⟨ti, hu, hi, hsz, _⟩ := slOf_parts hs
    obtain ⟨hx, hf⟩ := h
    cases x with
    | slice A len cap => exact runsV_ok (w' := w) (by simp [Builtin.cap_, run_underlying hu, goInt]; rfl) ⟨rfl, hf⟩
    | _ => exact hx.elim
  · exact h.elim
theorem rdN_some {a : Addr} : ∀ {i n : Nat} {l : List Value}, rdN w a i n = some l → l.length = n ∧ ∀ j v, l[j]? = some v → w.cell? (a.add (i + j)) = some v := by
  intro i n
  induction n generalizing i with
  | zero => intro l h; simp [rdN] at h; subst h; simp
  | succ n ih =>
    intro l h
    unfold rdN at h
    split at h
    · rename_i v l' hv hl'
      obtain ⟨h1, h2⟩ := ih hl'
      obtain rfl : v :: l' = l := by simpa using h
      refine ⟨by simp [h1], fun j u hj => ?_⟩
      cases j with
      | zero => simp at hj; subst hj; exact hv
      | succ j => have := h2 j u (by simpa using hj); rwa [show i + (j + 1) = i + 1 + j by omega]
    · cases h

theorem loadX_run {t : TypeId} {v : Value} {f : Value → World → Prop} (h : loadX (tyK P t) w v f) : runsV P (Instr.loadAt t v) w fun u w' => w' = w ∧ f u w := by
  unfold loadX at h
  split at h
  · rename_i k hk
    unfold optX at h
    split at h
    · rename_i u hu
      unfold rdv at hu
      split at hu
      · rename_i a
        refine runsV_ok (w' := w) ?_ ⟨rfl, h⟩
        have agg : ∀ n d i, P.underlying t = some d → (d matches .struct _ | .array _ _) = true → P.info? t = some i → i.size = n → rd (some n) w a = some u → (Instr.loadAt t (.pointer (some a))).run P w = .ok u w := by
          intro n d i hd hm hi hn hr
          simp only [rd, Option.map_eq_some_iff] at hr
          obtain ⟨l, hl, rfl⟩ := hr
          obtain ⟨h1, h2⟩ := rdN_some hl
          have hc := run_loadCells_list (P := P) w a l (fun j v hj => by simpa using h2 j v hj)
          cases d <;> simp at hm <;> simp [Instr.loadAt, Instr.sureAddr, loadVar, isAgg, run_underlying hd, run_sizeOf' hi, hn, ← h1, hc]
        unfold tyK at hk
        split at hk
        · rename_i fs hd
          cases hi : P.info? t with
          | none => simp [hi] at hk
          | some i => simp [hi] at hk; subst hk; exact agg _ _ i hd rfl hi rfl hu
        · rename_i l e hd
          cases hi : P.info? t with
          | none => simp [hi] at hk
          | some i => simp [hi] at hk; subst hk; exact agg _ _ i hd rfl hi rfl hu
        · rename_i d hn1 hn2 hd
          split at hk
          · rename_i i hi
            split at hk
            · simp at hk; subst hk
              simp only [rd] at hu
              cases d <;> simp [Instr.loadAt, Instr.sureAddr, loadVar, isAgg, run_underlying hd, hu]
              · exact absurd rfl (hn2 _ _)
              · exact absurd rfl (hn1 _)
            · cases hk
          · cases hk
        · cases hk
      · cases hu
    · exact h.elim
  · exact h.elim

theorem cellsL_eq (v : Value) : v.cells.toList = cellsL v := by cases v <;> rfl
theorem alloc_run {f : Value → World → Prop} {t : TypeId} {v : Value} (h : allocX t (cellsL v) w f) : runsV P (Instr.box t v) w f := by
  unfold allocX at h
  rw [← cellsL_eq] at h
  exact runsV_ok (by simp [Instr.box, newVar, newRow]) h
theorem alloc0_run {f : Value → World → Prop} {t : TypeId} (h : alloc0X (zeroOf P t) t w f) : runsV P (Instr.alloc t true (.tuple #[])) w f := by
  unfold alloc0X at h
  split at h
  · rename_i z hz
    unfold zeroOf at hz
    cases hi : P.info? t with
    | none => simp [hi] at hz
    | some i =>
      simp [hi] at hz
      unfold allocX at h
      rw [← cellsL_eq] at h
      exact runsV_ok (by simp [Instr.alloc, zeroValue, typeInfo, hi, hz, newVar, newRow]) h
  · exact h.elim

theorem putAt_length : ∀ (cs z : List Value) (o : Nat), (putAt z o cs).length = z.length := by
  intro cs
  induction cs with
  | nil => intro z o; rfl
  | cons c cs ih => intro z o; simp [putAt, ih]
theorem foldl_putAt : ∀ (cs : List Value) (j o : Nat) (z : List Value), (cs.zipIdx j).foldl (fun (a : Array Value) (x : Value × Nat) => a.setIfInBounds (o + x.2) x.1) z.toArray = (putAt z (o + j) cs).toArray := by
  intro cs
  induction cs with
  | nil => intro j o z; simp [putAt]
  | cons c cs ih =>
    intro j o z
    simp only [List.zipIdx_cons, List.foldl_cons, putAt]
    rw [show z.toArray.setIfInBounds (o + j) c = (z.set (o + j) c).toArray by simp, ih]
    rfl

theorem fill_of_fillX {pl : List (Nat × Nat)} {place : Nat → Option (Nat × Nat)} (hp : ∀ i, place i = pl[i]?) {f : List Value → World → Prop} : ∀ (ps : List (Nat × Value)) (z : List Value), fillX pl z ps w f → ∃ cs, Instr.fill place z.toArray ps = some cs.toArray ∧ f cs w := by
  intro ps
  induction ps with
  | nil => intro z h; exact ⟨z, rfl, h⟩
  | cons p ps ih =>
    intro z h
    obtain ⟨i, v⟩ := p
    unfold fillX at h
    unfold Instr.fill
    rw [hp]
    split at h
    · rename_i off sz hi
      rw [hi]
      obtain ⟨⟨h1, h2⟩, h3⟩ := h
      obtain ⟨cs, hc, hf⟩ := ih _ h3
      refine ⟨cs, ?_, hf⟩
      have hsz : v.cells.size = sz := by rw [← h1, ← cellsL_eq]; simp
      have hle : ¬ (v.cells.size ≠ sz ∨ off + v.cells.size > z.length) := by omega
      simp only [List.size_toArray, Bool.or_eq_true, bne_iff_ne, decide_eq_true_eq, hsz, ne_eq, not_true_eq_false, false_or, gt_iff_lt, if_neg (by omega : ¬ z.length < off + sz)]
      rw [← hc]
      congr 1
      have := foldl_putAt v.cells.toList 0 off z
      rw [Nat.add_zero, cellsL_eq] at this
      rw [← this]
      rw [← Array.foldl_toList, Array.toList_zipIdx, cellsL_eq]
    · exact h.elim
theorem pairE_eq (g : Fr) : ∀ l : List (Nat × Operand), (l.map fun (p : Nat × Operand) => (p.1, ev g p.2)) = pairE g l := by
  intro l
  induction l with
  | nil => rfl
  | cons p l ih => obtain ⟨i, x⟩ := p; simp [pairE, ih]
theorem pairE_arr (g : Fr) (a : Array (Nat × Operand)) : (a.map fun (p : Nat × Operand) => (p.1, ev g p.2)) = (pairE g a.toList).toArray := by
  rw [← pairE_eq]
  apply Array.ext'
  simp
theorem mapE_eq (g : Fr) : ∀ l : List Operand, l.map (ev g) = mapE g l := by
  intro l
  induction l with
  | nil => rfl
  | cons p l ih => simp [mapE, ih]
theorem mapE_arr (g : Fr) (a : Array Operand) : a.map (ev g) = (mapE g a.toList).toArray := by
  rw [← mapE_eq]
  apply Array.ext'
  simp

theorem run_mapM_place {fs : List Field} {pl : List (Nat × Nat)} (h : (fs.mapM fun f => (P.info? f.type).map fun i => (f.offset, i.size)) = some pl) :
    (fs.mapM (m := Sem) fun f => Functor.map (Prod.mk f.offset) (sizeOf f.type)).run P w = .ok pl w := by
  induction fs generalizing pl with
  | nil => simp at h; subst h; simp
  | cons f fs ih =>
    simp only [List.mapM_cons, Option.bind_eq_bind, Option.bind_eq_some_iff, Option.pure_def, Option.some.injEq] at h
    obtain ⟨x, hx, y, hy, rfl⟩ := h
    cases hi : P.info? f.type with
    | none => simp [hi] at hx
    | some i =>
      simp [hi] at hx
      simp [List.mapM_cons, run_sizeOf' hi, ih hy, hx]

theorem build_run {f : Value → World → Prop} {t : TypeId} {ps : List (Nat × Value)} (h : buildX (bldOf P t) ps w f) : runsV P (Instr.build t ps.toArray) w fun u w' => w' = w ∧ f u w := by
  unfold buildX at h
  split at h
  · rename_i pl z hb
    unfold bldOf at hb
    split at hb
    · rename_i fs zv hu hz
      simp only [Option.map_eq_some_iff, Prod.mk.injEq] at hb
      obtain ⟨pl', hpl, rfl, rfl⟩ := hb
      obtain ⟨cs, hc, hf⟩ := fill_of_fillX (place := fun i => (pl'.toArray)[i]?) (fun i => by simp) ps _ h
      refine runsV_ok (w' := w) ?_ ⟨rfl, hf⟩
      unfold zeroOf at hz
      cases hi : P.info? t with
      | none => simp [hi] at hz
      | some i =>
        simp [hi] at hz
        have hm := run_mapM_place (P := P) (w := w) hpl
        have hm' : (fs.mapM (m := Sem) fun f => Functor.map (Prod.mk f.offset) (sizeOf f.type)).run P w = .ok pl'.toArray w := by
          rw [Array.mapM_eq_mapM_toList]
          simp only [Sem.run_map]
          rw [hm]
          rfl
        simp only [Array.toArray_toList] at hc
        have hc' : Instr.fill (fun x => pl'[x]?) zv.cells ps = some cs.toArray := by simpa using hc
        simp [Instr.build, zeroValue, typeInfo, hi, hz, run_underlying hu, hm', hc']
    · cases hb
  · exact h.elim

theorem idxOk_fill {e : Nat} : ∀ (ps : List (Nat × Value)) (i n : Nat) (pre post : List Value), idxOk ps i n e → pre.length = i * e → post.length = (n - i) * e → i ≤ n ∧
    Instr.fill (fun j => some (j * e, e)) (pre ++ post).toArray ps = some (pre ++ flatP ps).toArray ∧ (flatP ps).length = (n - i) * e := by
  intro ps
  induction ps with
  | nil =>
    intro i n pre post h h1 h2
    simp only [idxOk] at h
    subst h
    have : post = [] := List.eq_nil_of_length_eq_zero (by simpa using h2)
    subst this
    simp [Instr.fill, flatP]
  | cons p ps ih =>
    intro i n pre post h h1 h2
    obtain ⟨j, v⟩ := p
    simp only [idxOk] at h
    obtain ⟨rfl, hv, h⟩ := h
    have hle : j + 1 ≤ n := by
      have key : ∀ (l : List (Nat × Value)) i, idxOk l i n e → i ≤ n := by
        intro l
        induction l with
        | nil => intro i h; simp only [idxOk] at h; omega
        | cons p l ih => intro i h; obtain ⟨a, b⟩ := p; simp only [idxOk] at h; have := ih _ h.2.2; omega
      exact key _ _ h
    have hpost : e ≤ post.length := by rw [h2, show n - j = (n - (j + 1)) + 1 by omega, Nat.succ_mul]; omega
    have hput : putAt (pre ++ post) (j * e) (cellsL v) = (pre ++ cellsL v) ++ post.drop e := by
      have key : ∀ (cs pre post : List Value), cs.length ≤ post.length → putAt (pre ++ post) pre.length cs = (pre ++ cs) ++ post.drop cs.length := by
        intro cs
        induction cs with
        | nil => intro pre post _; simp [putAt]
        | cons c cs ih =>
          intro pre post hl
          cases post with
          | nil => simp at hl
          | cons q post =>
            simp only [putAt]
            have : (pre ++ q :: post).set pre.length c = (pre ++ [c]) ++ post := by simp
            rw [this]
            have hi := ih (pre ++ [c]) post (by simpa using hl)
            simp only [List.length_append, List.length_singleton] at hi
            rw [hi]
            simp
      rw [← h1, ← hv]
      exact key _ _ _ (by rw [hv]; exact hpost)
    obtain ⟨hn, hf, hl⟩ := ih (j + 1) n (pre ++ cellsL v) (post.drop e) h (by simp [h1, hv, Nat.succ_mul]) (by
      rw [List.length_drop, h2, show n - j = (n - (j + 1)) + 1 by omega, Nat.succ_mul]; omega)
    refine ⟨by omega, ?_, ?_⟩
    · unfold Instr.fill
      have hsz : v.cells.size = e := by rw [← hv, ← cellsL_eq]; simp
      have hb : ¬ (pre ++ post).length < j * e + e := by rw [List.length_append, h1]; omega
      simp only [List.size_toArray, hsz, bne_self_eq_false, ne_eq, not_true_eq_false, gt_iff_lt, hb, decide_false, Bool.or_self, if_false, Bool.false_eq_true, false_or]
      rw [← Array.foldl_toList, Array.toList_zipIdx, cellsL_eq]
      have hfo := foldl_putAt (cellsL v) 0 (j * e) (pre ++ post)
      rw [Nat.add_zero] at hfo
      rw [hfo, hput, hf]
      simp [flatP]
    · simp only [flatP, List.length_append, hv, hl]
      rw [show n - j = (n - (j + 1)) + 1 by omega, Nat.succ_mul]
      omega

theorem bsl_run {f : Value → World → Prop} {t n : Nat} {ps : List (Nat × Value)} (h : bslX (slOf P t) (zeroElt P t) n ps w f) : runsV P (Instr.buildSlice t n ps.toArray) w f := by
  unfold bslX at h
  split at h
  · rename_i e sz by_ zv hs hzz
    obtain ⟨⟨h1, h2, h0⟩, h3⟩ := h
    obtain ⟨ti, hu, hi, hsz, _⟩ := slOf_parts hs
    simp only [zeroElt, hs, zeroOf, hi, Option.bind_some] at hzz
    obtain ⟨z, hzv⟩ : ∃ z, ti.zero = some z := ⟨_, hzz⟩
    unfold rowX at h3
    refine runsV_ok ?_ h3
    have hn : ¬ (2 ^ 24 < n * sz) := by omega
    have key : ∀ cells : Array Value, cells.size = n * sz → Instr.fill (fun i => some (i * sz, sz)) cells ps = some (flatP ps).toArray := by
      intro cells hc
      have := (idxOk_fill ps 0 n [] cells.toList h1 (by simp) (by simpa using hc)).2.1
      simpa using this
    by_cases h0' : n * sz = 0
    · have := key ((Array.range (n * sz)).map (fun x => (#[] : Array Value)[x % 0]!)) (by simp)
      simp [Instr.buildSlice, run_underlying hu, run_sizeOf' hi, hsz, hn, h0', newRow] at this ⊢
      simp [this]
    · have := key ((Array.range (n * sz)).map (fun x => z.cells[x % z.cells.size]!)) (by simp)
      simp [Instr.buildSlice, run_underlying hu, run_sizeOf' hi, hsz, hn, h0', zeroValue, typeInfo, hi, hzv, newRow] at this ⊢
      simp [this]
  · exact h.elim

theorem ext_run {x : Value} {i : Nat} {f : Value → World → Prop} (h : extX x i w f) : runsV P (Instr.extract x i) w fun u w' => w' = w ∧ f u w := by
  unfold extX at h
  split at h
  · unfold optX at h
    split at h
    · rename_i vs v hv
      simp only [Array.getElem?_toList] at hv
      exact runsV_ok (w' := w) (by simp [Instr.extract, hv]) ⟨rfl, h⟩
    · exact h.elim
  · exact h.elim
theorem intOfT_eq {t : TypeId} {k : IntKind} (h : intOfT P t = some k) : P.underlying t = some (.int k) := by
  unfold intOfT at h
  split at h
  · simp at h; subst h; assumption
  · cases h
theorem conv_run {s d : TypeId} {x : Value} {f : Value → World → Prop} (h : convX (intOfT P s) (intOfT P d) x w f) : runsV P (convert s d x) w fun u w' => w' = w ∧ f u w := by
  unfold convX at h
  split at h
  · rename_i k1 k2 k n hs hd
    exact runsV_ok (w' := w) (by simp [convert, run_underlying (intOfT_eq hs), run_underlying (intOfT_eq hd), Conv.intToInt]) ⟨rfl, h⟩
  · exact h.elim
theorem call_run {fv : Value} {args : List Value} {k : Value → World → Prop} {o : Oper} {g : Fr} {f : Operand} {as : Array Operand} {ts : Array TypeId} (ho : o.op = .call ⟨.value f, as, ts⟩) (hf : ev g f = fv) (ha : mapE g as.toList = args)
    (h : callX P fv args w k) : wp1 P o g w k := by
  unfold callX at h
  split at h
  · rename_i n first cap
    have hargs : as.map (ev g) = args.toArray := by rw [mapE_arr, ha]
    have e : (first.toList ++ args ++ cap.toList).toArray = first ++ args.toArray ++ cap := by apply Array.ext'; simp
    rw [e] at h
    cases hb : callable P n with
    | true =>
      rw [hb] at h
      unfold callable at hb
      split at hb
      · rename_i fn hfn
        simp only [Bool.and_eq_true, Bool.not_eq_true'] at hb
        unfold wp1
        have h1 : ¬ fn.name = "runtime.NumGoroutine" := by simpa using hb.1
        have h2 : ¬ fn.body = none := by intro e; simp [e] at hb
        have : (execOp (ev g) o).run P w = .ok (.enter n ((first ++ args.toArray) ++ cap)) w := by
          simp [execOp, ho, resolve, hf, Deferred.ofValue, hargs, invoke, callFunc, hfn, h1, h2]
        rw [this]
        exact h
      · cases hb
    | false =>
      rw [hb] at h
      have h : extnX P n (first ++ args.toArray ++ cap) w k := h
      unfold extnX at h
      unfold wp1
      have : (execOp (ev g) o).run P w = (callFunc n ((first ++ args.toArray) ++ cap)).run P w := by
        simp [execOp, ho, resolve, hf, Deferred.ofValue, hargs, invoke]
      rw [this]
      split at h
      · rename_i v w' e; rw [e]; exact h
      · exact h.elim
  · exact h.elim
theorem isSl_form {x : Value} (h : isSl x) : x = .slice (match x with | .slice a _ _ => a | _ => none) (lenN x) (capN x) := by
  cases x <;> first | rfl | exact h.elim
theorem slice_run {t : TypeId} {x : Value} {lo hi mx : Option Value} {f : Value → World → Prop} (h : sliceX (slOf P t) x lo hi mx w f) : runsV P (Instr.sliceAt t x lo hi mx) w fun u w' => w' = w ∧ f u w := by
  unfold sliceX at h
  split at h
  · rename_i e sz by_ hs
    obtain ⟨⟨hx, h1⟩, hf⟩ := h
    obtain ⟨ti, hu, hi, hsz, _⟩ := slOf_parts hs
    cases x with
    | slice a n c => exact runsV_ok (w' := w) (by simp [Instr.sliceAt, run_underlying hu, Instr.slice, Instr.sliceBounds, run_sizeOf' hi, hsz, cutV, lenN, capN]) ⟨rfl, hf⟩
    | _ => exact hx.elim
  · rename_i e sz by_ k l hs
    obtain ⟨⟨hx, h1, h2, h3⟩, hf⟩ := h
    obtain ⟨ti, hu, hi, hsz, _⟩ := slOf_parts hs
    cases x with
    | slice a n c =>
      simp only [lenN, capN] at h2 h3
      exact runsV_ok (w' := w) (by simp [Instr.sliceAt, run_underlying hu, Instr.slice, Instr.sliceBounds, Instr.sliceBound, asIntOf, h1, h2, run_sizeOf' hi, hsz, cutV, lenN, capN] <;> congr) ⟨rfl, hf⟩
    | _ => exact hx.elim
  · rename_i e sz by_ k l hs
    obtain ⟨⟨hx, h1, h2⟩, hf⟩ := h
    obtain ⟨ti, hu, hi, hsz, _⟩ := slOf_parts hs
    cases x with
    | slice a n c =>
      simp only [capN] at h2
      exact runsV_ok (w' := w) (by simp [Instr.sliceAt, run_underlying hu, Instr.slice, Instr.sliceBounds, Instr.sliceBound, asIntOf, h1, h2, run_sizeOf' hi, hsz, cutV, lenN, capN]) ⟨rfl, hf⟩
    | _ => exact hx.elim
  · rename_i e sz by_ k l k' hh hs
    obtain ⟨⟨hx, h1, h2, h3⟩, hf⟩ := h
    obtain ⟨ti, hu, hi, hsz, _⟩ := slOf_parts hs
    have h4 : 0 ≤ hh := by omega
    cases x with
    | slice a n c =>
      simp only [capN] at h3
      have h5 : (l ≤ (hh.toNat : Int)) := by omega
      have h6 : l ≤ max hh 0 := by omega
      exact runsV_ok (w' := w) (by simp [Instr.sliceAt, run_underlying hu, Instr.slice, Instr.sliceBounds, Instr.sliceBound, asIntOf, h1, h3, h4, h6, run_sizeOf' hi, hsz, cutV, lenN, capN] <;> congr) ⟨rfl, hf⟩
    | _ => exact hx.elim
  · exact h.elim

theorem zrow_size (z : List Value) : ∀ n, (zrow z n).length = n * z.length := by
  intro n
  induction n with
  | zero => simp [zrow]
  | succ n ih => simp [zrow, ih, Nat.succ_mul]; omega
theorem zrow_get (z : List Value) (hz : 0 < z.length) : ∀ n j, j < n * z.length → (zrow z n)[j]? = z[j % z.length]? := by
  intro n
  induction n with
  | zero => intro j h; simp at h
  | succ n ih =>
    intro j h
    simp only [zrow]
    by_cases hj : j < z.length
    · rw [List.getElem?_append_left hj, Nat.mod_eq_of_lt hj]
    · rw [List.getElem?_append_right (by omega), ih (j - z.length) (by rw [Nat.succ_mul] at h; omega)]
      congr 1
      conv => rhs; rw [show j = (j - z.length) + z.length by omega, Nat.add_mod_right]
theorem zrow_eq (z : Array Value) (n : Nat) (hz : 0 < z.size) : (Array.range (n * z.size)).map (fun x => z[x % z.size]!) = (zrow z.toList n).toArray := by
  apply Array.ext'
  apply List.ext_getElem?
  intro j
  by_cases hj : j < n * z.size
  · have := zrow_get z.toList (by simpa using hz) n j (by simpa using hj)
    simp only [Array.length_toList] at this
    simp only [Array.toList_map, Array.toList_range, List.getElem?_map]
    rw [this, List.getElem?_range hj]
    have hm : j % z.size < z.size := Nat.mod_lt _ hz
    simp [hm]
  · rw [List.getElem?_eq_none (by simp; omega), List.getElem?_eq_none (by simp [zrow_size]; omega)]
theorem wrap_i64_id {x : Int} (h1 : -9223372036854775808 ≤ x) (h2 : x < 9223372036854775808) : IntKind.i64.wrap x = x := by
  rw [IntKind.wrap_i64]; omega
theorem mksl_run {t : TypeId} {l c : Value} {f : Value → World → Prop} (h : mkslX (slOf P t) (zeroElt P t) l c w f) : runsV P (Instr.makeSlice t l c) w f := by
  unfold mkslX at h
  split at h
  · rename_i e sz by_ z k1 l k2 c hs hz
    obtain ⟨⟨h1, h2, h3, h4, h5, h0⟩, hf⟩ := h
    obtain ⟨ti, hu, hi, hsz, hby⟩ := slOf_parts hs
    simp only [zeroElt, hs, zeroOf, hi, Option.bind_some] at hz
    have hzs : z.cells.size = sz := by rw [← h5, ← cellsL_eq]; simp
    refine runsV_ok ?_ hf
    have e1 := wrap_i64_id (x := l) (by omega) (by omega)
    have e2 := wrap_i64_id (x := c) (by omega) (by omega)
    have n1 : ¬ c < 0 := by omega
    have n2 : ¬ l < 0 := by omega
    have n3 : ¬ c < l := by omega
    have n4 : ¬ ((281474976710656 : Int) < by_ * c) := by omega
    have hrow := zrow_eq z.cells c.toNat (by omega)
    rw [cellsL_eq, hzs] at hrow
    by_cases hc0 : c.toNat * sz = 0
    · have hc00 : c.toNat = 0 := by
        rcases Nat.mul_eq_zero.1 hc0 with h | h
        · exact h
        · omega
      simp [Instr.makeSlice, run_underlying hu, asInt, asIntOf, typeInfo, hi, e1, e2, n1, n2, n3, n4, hby, run_sizeOf' hi, hsz, hc00, newRow, zrow]
      congr 2
      exact Array.eq_empty_of_size_eq_zero (by simp)
    · have hc1 : ¬ (c.toNat = 0 ∨ sz = 0) := by
        intro h
        exact hc0 (Nat.mul_eq_zero.2 h)
      simp [Instr.makeSlice, run_underlying hu, asInt, asIntOf, typeInfo, hi, e1, e2, n1, n2, n3, n4, hby, run_sizeOf' hi, hsz, hc1, newRow, zeroValue, hz, hzs]
      rw [hrow, if_neg hc0]
  · exact h.elim

theorem min_run {ts : Array TypeId} {ty : TypeId} {x y : Value} {f : Value → World → Prop} (h : minX x y w f) : runsV P (Builtin.min_ ts ty #[x, y]) w fun u w' => w' = w ∧ f u w := by
  unfold minX at h
  split at h
  · exact runsV_ok (w' := w) (by simp [Builtin.min_, Builtin.min2]) ⟨rfl, h⟩
  · exact h.elim
theorem max_run {ts : Array TypeId} {ty : TypeId} {x y : Value} {f : Value → World → Prop} (h : maxX x y w f) : runsV P (Builtin.max_ ts ty #[x, y]) w fun u w' => w' = w ∧ f u w := by
  unfold maxX at h
  split at h
  · exact runsV_ok (w' := w) (by simp [Builtin.max_, Builtin.max2]) ⟨rfl, h⟩
  · exact h.elim
theorem wp1_same {o : Oper} {g : Fr} {k : Value → World → Prop} {s : Sem Value} (h : execOp (ev g) o = (do let v ← s; pure (.value v))) (hr : runsV P s w fun u w' => w' = w ∧ k u w) : wp1 P o g w k := by
  refine wp1_run h ?_
  unfold runsV at *
  split
  · rename_i v w' e
    rw [e] at hr
    obtain ⟨rfl, hk⟩ := hr
    exact hk
  · rename_i hn
    split at hr
    · rename_i v w' e; exact absurd e (hn v w')
    · exact hr

theorem opX_sound {op : Op} {ty : TypeId} {g : Fr} {k : Value → World → Prop} (h : opX P op ty g w k) : wp1 P (bare op ty) g w k := by
  unfold opX at h
  split at h
  · exact h
  · exact h
  · rename_i c a b
    refine wp1_same (s := do pure (if ← asBool (ev g c) then ev g a else ev g b)) (by simp [execOp, bare]) ?_
    unfold pickX at h
    split at h
    · rename_i e; exact runsV_ok (w' := w) (by simp [e, asBool]) ⟨rfl, h⟩
    · rename_i e; exact runsV_ok (w' := w) (by simp [e, asBool]) ⟨rfl, h⟩
    · exact h.elim
  · exact wp1_run (by simp [execOp, bare]) (binX_run h)
  · exact wp1_run (by simp [execOp, bare]) (unX_run h)
  · exact wp1_same (by simp [execOp, bare]) (fldX_run h)
  · exact wp1_same (by simp [execOp, bare]) (idxY_run h)
  · exact wp1_same (by simp [execOp, bare]) (loadX_run h)
  · rename_i t a x
    unfold storeX at h
    unfold wp1
    have : execOp (ev g) (bare (.store t a x) ty) = (do Instr.storeAt t (ev g a) (ev g x); pure .skip) := by simp [execOp, bare]
    rw [this]
    simp only [Sem.run_bind, Sem.run_pure]
    split at h
    · rename_i u w' e; rw [e]; exact h
    · exact h.elim
  · exact wp1_run (by simp [execOp, bare]) (alloc0_run h)
  · exact wp1_run (by simp [execOp, bare]) (alloc_run h)
  · rename_i t ps
    refine wp1_same (s := Instr.build t (pairE g ps.toList).toArray) ?_ (build_run h)
    rw [← pairE_arr]
    simp [execOp, bare]
  · rename_i t n ps
    refine wp1_run (s := Instr.buildSlice t n (pairE g ps.toList).toArray) ?_ (bsl_run h)
    rw [← pairE_arr]
    simp [execOp, bare]
  · rename_i x
    unfold nilX at h
    split at h
    · rename_i a e
      unfold wp1
      have : execOp (ev g) (bare (.nilCheck x) ty) = pure (.value (.pointer (some a))) := by simp [execOp, bare, e]
      rw [this]
      exact h
    · exact h.elim
  · exact wp1_same (by simp [execOp, bare]) (conv_run h)
  · rename_i fn a b
    refine wp1_same (s := pure (.func fn (a.map (ev g)) (b.map (ev g)))) (by simp [execOp, bare, Instr.makeFunc]) ?_
    rw [mapE_arr, mapE_arr]
    exact runsV_ok (w' := w) (by simp) ⟨rfl, h⟩
  · exact wp1_run (by simp [execOp, bare]) (mksl_run h)
  · rename_i t x lo hi mx
    refine wp1_same (s := Instr.sliceAt t (ev g x) (optE g lo) (optE g hi) (optE g mx)) ?_ (slice_run h)
    have e : ∀ o : Option Operand, o.map (ev g) = optE g o := fun o => by cases o <;> rfl
    simp [execOp, bare, e]
  · exact wp1_same (by simp [execOp, bare]) (ext_run h)
  · exact call_run rfl rfl rfl h
  · rename_i b args ts
    unfold biX at h
    split at h
    · rename_i x t ha ht
      refine wp1_same (s := Builtin.len_ #[t] ty #[ev g x]) ?_ (lenX_run h)
      have h1 : args = #[x] := by apply Array.ext'; simpa using ha
      have h2 : ts = #[t] := by apply Array.ext'; simpa using ht
      subst h1; subst h2
      simp [execOp, bare, resolve, invoke, builtin]
    · rename_i x t ha ht
      refine wp1_same (s := Builtin.cap_ #[t] ty #[ev g x]) ?_ (cap_run h)
      have h1 : args = #[x] := by apply Array.ext'; simpa using ha
      have h2 : ts = #[t] := by apply Array.ext'; simpa using ht
      subst h1; subst h2
      simp [execOp, bare, resolve, invoke, builtin]
    · rename_i x t ha ht
      refine wp1_run (s := Builtin.clear_ #[t] ty #[ev g x]) ?_ h
      have h1 : args = #[x] := by apply Array.ext'; simpa using ha
      have h2 : ts = #[t] := by apply Array.ext'; simpa using ht
      subst h1; subst h2
      simp [execOp, bare, resolve, invoke, builtin]
    · rename_i s x t u ha ht
      refine wp1_run (s := Builtin.append_ #[t, u] ty #[ev g s, ev g x]) ?_ h
      have h1 : args = #[s, x] := by apply Array.ext'; simpa using ha
      have h2 : ts = #[t, u] := by apply Array.ext'; simpa using ht
      subst h1; subst h2
      simp [execOp, bare, resolve, invoke, builtin]
    · rename_i s x t u ha ht
      refine wp1_run (s := Builtin.copy_ #[t, u] ty #[ev g s, ev g x]) ?_ h
      have h1 : args = #[s, x] := by apply Array.ext'; simpa using ha
      have h2 : ts = #[t, u] := by apply Array.ext'; simpa using ht
      subst h1; subst h2
      simp [execOp, bare, resolve, invoke, builtin]
    · rename_i _ x y ha
      refine wp1_same (s := Builtin.min_ ts ty #[ev g x, ev g y]) ?_ (min_run h)
      have h1 : args = #[x, y] := by apply Array.ext'; simpa using ha
      subst h1
      simp [execOp, bare, resolve, invoke, builtin]
    · rename_i _ x y ha
      refine wp1_same (s := Builtin.max_ ts ty #[ev g x, ev g y]) ?_ (max_run h)
      have h1 : args = #[x, y] := by apply Array.ext'; simpa using ha
      subst h1
      simp [execOp, bare, resolve, invoke, builtin]
    · exact h
  · exact h
end
end Go.Proofs.YtcdeeoakoljlpaaGreat
