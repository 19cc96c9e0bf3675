
/- The engine's rules, in one bundle; what the simplifier may look into. -/
import Derived.Test.YtcdeeoakoljlpaaGreatEng3
namespace Go.Proofs.YtcdeeoakoljlpaaGreat
set_option linter.unusedSimpArgs false
set_option linter.unusedVariables false
open Go

def Now (_ : World) : Prop := True
theorem now (w : World) : Now w := trivial
def guardX (b : Option Nat) (g : Fr) (want : Bool) (w : World) (A B : World → Prop) : Prop := match b with
  | none => B w
  | some t => if boolOf (g t) = some want then A w else B w
def guardV (v : Value) (want : Bool) (w : World) (A B : World → Prop) : Prop := if boolOf v = some want then A w else B w
def gOn (b : Option Nat) (g : Fr) (want : Bool) : Bool := match b with
  | none => false
  | some t => decide (boolOf (g t) = some want)
@[congr] theorem c_up {g : Fr} {d t t' : Nat} {v : Value} (h : t = t') : up g d v t = up g d v t' := by rw [h]
def fillY (pl : List (Nat × Nat)) (o : Option (Nat × Nat)) (z : List Value) (v : Value) (rest : List (Nat × Value)) (w : World) (f : List Value → World → Prop) : Prop := match o with
  | some (off, sz) => needX ((cellsL v).length = sz ∧ off + sz ≤ z.length) w fun w => fillX pl (putAt z off (cellsL v)) rest w f
  | none => False
theorem wpl_cons {P : Program} {ops : Array Oper} {o : Oper} {rest : List Oper} {g : Fr} {w : World} {K : Fr → World → Prop} :
    wpl P ops (o :: rest) g w K = if guardOn ops g o then opX P o.op o.type g w fun v w' => wpl P ops rest (upo g o.dst v) w' K else wpl P ops rest (upo g o.dst undef) w K := rfl
theorem wpl_none {P : Program} {ops : Array Oper} {d : Option Tmp} {op : Op} {ty : TypeId} {pos : String} {af : Array Edge} {rest : List Oper} {g : Fr} {w : World} {K : Fr → World → Prop} :
    wpl P ops (⟨d, op, ty, pos, af, none⟩ :: rest) g w K = opX P op ty g w fun v w' => wpl P ops rest (upo g d v) w' K := by
  rw [wpl_cons]
  simp [guardOn]
theorem wpl_some {P : Program} {ops : Array Oper} {d : Option Tmp} {op : Op} {ty : TypeId} {pos : String} {af : Array Edge} {j : Nat} {want : Bool} {rest : List Oper} {g : Fr} {w : World} {K : Fr → World → Prop} :
    wpl P ops (⟨d, op, ty, pos, af, some (j, want)⟩ :: rest) g w K = guardX (guardTmp ops j) g want w (fun w => opX P op ty g w fun v w' => wpl P ops rest (upo g d v) w' K) (fun w => wpl P ops rest (upo g d undef) w K) := by
  have h : guardOn ops g ⟨d, op, ty, pos, af, some (j, want)⟩ = gOn (guardTmp ops j) g want := rfl
  rw [wpl_cons, h]
  generalize guardTmp ops j = x
  cases x with
  | none => rfl
  | some t => simp [gOn, guardX]
theorem guardV_true {b : Bool} {w : World} {A B : World → Prop} : guardV (.bool b) true w A B = forkX b w A B := by
  cases b <;> simp [guardV, boolOf, forkX]
theorem guardV_false {b : Bool} {w : World} {A B : World → Prop} : guardV (.bool b) false w A B = forkX b w B A := by
  cases b <;> simp [guardV, boolOf, forkX]
theorem forkX_true {w : World} {A B : World → Prop} : forkX true w A B = A w := by simp [forkX]
theorem forkX_false {w : World} {A B : World → Prop} : forkX false w A B = B w := by simp [forkX]
theorem needX_true {w : World} {A : World → Prop} : needX True w A = A w := by simp [needX]
theorem condX_bool {b : Bool} {w : World} {A B : World → Prop} : condX (.bool b) w A B = forkX b w A B := by simp [condX, forkX]
theorem guardTmp_zero {o : Oper} {l : List Oper} : guardTmp (o :: l).toArray 0 = o.dst := by simp [guardTmp]
theorem guardTmp_succ {o : Oper} {l : List Oper} {j : Nat} : guardTmp (o :: l).toArray (j + 1) = guardTmp l.toArray j := by simp [guardTmp]
theorem fork {c : Bool} {w : World} {A B : World → Prop} (h1 : c = true → A w) (h2 : c = false → B w) : forkX c w A B := ⟨h1, h2⟩
theorem need {c : Prop} {w : World} {A : World → Prop} (h1 : c) (h2 : A w) : needX c w A := ⟨h1, h2⟩

/-- The rules that go by the head of the goal. -/
theorem X :
    (∀ (P : Program) ops g w K, Now w → wpl P ops [] g w K = K g w) ∧
    (∀ (P : Program) ops d op ty pos af rest g w K, Now w → wpl P ops (⟨d, op, ty, pos, af, none⟩ :: rest) g w K = opX P op ty g w fun v w' => wpl P ops rest (upo g d v) w' K) ∧
    (∀ (P : Program) ops d op ty pos af j want rest g w K, Now w → wpl P ops (⟨d, op, ty, pos, af, some (j, want)⟩ :: rest) g w K = guardX (guardTmp ops j) g want w (fun w => opX P op ty g w fun v w' => wpl P ops rest (upo g d v) w' K) (fun w => wpl P ops rest (upo g d undef) w K)) ∧
    (∀ (o : Oper) l, guardTmp (o :: l).toArray 0 = o.dst) ∧
    (∀ (o : Oper) l j, guardTmp (o :: l).toArray (j + 1) = guardTmp l.toArray j) ∧
    (∀ (P : Program) (n : Nat) Q g w, Now w → wpx P n .skip Q g w = Q .normal g w) ∧
    (∀ (P : Program) (n : Nat) id (l : List Oper) Q g w, Now w → wpx P n (.region id l.toArray false) Q g w = wpl P l.toArray l g w (Q .normal)) ∧
    (∀ (P : Program) (n : Nat) id ops Q g w, Now w → wpx P n (.region id ops true) Q g w = wpd P n id ops g w (Q .normal)) ∧
    (∀ (P : Program) (n : Nat) x y Q g w, Now w → wpx P n (.seq x y) Q g w = wpx P n x (thenX (wpx P n y Q) Q) g w) ∧
    (∀ (P : Program) (n : Nat) c x y Q g w, Now w → wpx P n (.cond c x y) Q g w = condX (ev g c) w (wpx P n x Q g) (wpx P n y Q g)) ∧
    (∀ (P : Program) (n : Nat) id c Q g w, Now w → wpx P n (.block id c) Q g w = wpx P n c (blockX id Q) g w) ∧
    (∀ (P : Program) (n : Nat) c Q g w, Now w → wpx P n (.loop c) Q g w = loopX P n c Q g w) ∧
    (∀ (P : Program) (n : Nat) id Q g w, Now w → wpx P n (.exit id) Q g w = Q (.exit id) g w) ∧
    (∀ (P : Program) (n : Nat) Q g w, Now w → wpx P n .ret Q g w = Q .ret g w) ∧
    (∀ K Q g w, Now w → thenX K Q .normal g w = K g w) ∧
    (∀ K Q g w, Now w → thenX K Q .ret g w = Q .ret g w) ∧
    (∀ K Q i g w, Now w → thenX K Q (.exit i) g w = Q (.exit i) g w) ∧
    (∀ i Q g w, Now w → blockX i Q .normal g w = Q .normal g w) ∧
    (∀ i Q g w, Now w → blockX i Q .ret g w = Q .ret g w) ∧
    (∀ i Q j g w, Now w → blockX i Q (.exit j) g w = if j = i then Q .normal g w else Q (.exit j) g w) := by
  repeat' apply And.intro
  all_goals (intros; first | rfl | exact wpl_none | exact wpl_some | exact guardTmp_zero | exact guardTmp_succ)
theorem Y :
    (∀ (P : Program) x ty g w k, Now w → opX P (.move x) ty g w k = bindV (ev g x) w k) ∧
    (∀ (P : Program) x ty g w k, Now w → opX P (.assign x) ty g w k = bindV (ev g x) w k) ∧
    (∀ (P : Program) c a b ty g w k, Now w → opX P (.pick c a b) ty g w k = pickX (ev g c) (ev g a) (ev g b) w k) ∧
    (∀ (P : Program) op t x y yt ty g w k, Now w → opX P (.binOp op t x y yt) ty g w k = binX P op t x y (ev g x) (ev g y) w k) ∧
    (∀ (P : Program) op t x ty g w k, Now w → opX P (.unOp op t x) ty g w k = unX P op (ev g x) w k) ∧
    (∀ (P : Program) s x i ty g w k, Now w → opX P (.fieldAddr s x i) ty g w k = fldX (fldOf P s i) (ev g x) w k) ∧
    (∀ (P : Program) t x i ty g w k, Now w → opX P (.indexAddr t x i) ty g w k = idxY (arrOf P t) (slOf P t) (ev g x) (ev g i) w k) ∧
    (∀ (P : Program) t x ty g w k, Now w → opX P (.load t x) ty g w k = loadX (tyK P t) w (ev g x) k) ∧
    (∀ (P : Program) t a x ty g w k, Now w → opX P (.store t a x) ty g w k = storeX P t (ev g a) (ev g x) w fun w' => k undef w') ∧
    (∀ (P : Program) t ty g w k, Now w → opX P (.alloc t) ty g w k = alloc0X (zeroOf P t) t w k) ∧
    (∀ (P : Program) t x ty g w k, Now w → opX P (.box t x) ty g w k = allocX t (cellsL (ev g x)) w k) ∧
    (∀ (P : Program) t (l : List (Nat × Operand)) ty g w k, Now w → opX P (.build t l.toArray) ty g w k = buildX (bldOf P t) (pairE g l) w k) ∧
    (∀ (P : Program) t m (l : List (Nat × Operand)) ty g w k, Now w → opX P (.buildSlice t m l.toArray) ty g w k = bslX (slOf P t) (zeroElt P t) m (pairE g l) w k) ∧
    (∀ (P : Program) x ty g w k, Now w → opX P (.nilCheck x) ty g w k = nilX (ev g x) w k) ∧
    (∀ (P : Program) s d x ty g w k, Now w → opX P (.convert s d x) ty g w k = convX (intOfT P s) (intOfT P d) (ev g x) w k) ∧
    (∀ (P : Program) fn (a b : List Operand) ty g w k, Now w → opX P (.makeFunc fn a.toArray b.toArray) ty g w k = bindV (.func fn (mapE g a).toArray (mapE g b).toArray) w k) ∧
    (∀ (P : Program) t l c ty g w k, Now w → opX P (.makeSlice t l c) ty g w k = mkslX (slOf P t) (zeroElt P t) (ev g l) (ev g c) w k) ∧
    (∀ (P : Program) t x lo hi mx ty g w k, Now w → opX P (.slice t x lo hi mx) ty g w k = sliceX (slOf P t) (ev g x) (optE g lo) (optE g hi) (optE g mx) w k) ∧
    (∀ (P : Program) x i ty g w k, Now w → opX P (.extract x i) ty g w k = extX (ev g x) i w k) ∧
    (∀ (P : Program) f (args : List Operand) ts ty g w k, Now w → opX P (.call ⟨.value f, args.toArray, ts⟩) ty g w k = callX P (ev g f) (mapE g args) w k) ∧
    (∀ (P : Program) b (args : List Operand) (ts : List TypeId) ty g w k, Now w → opX P (.call ⟨.builtin b, args.toArray, ts.toArray⟩) ty g w k = biX P b ty args ts g w k) ∧
    (∀ (P : Program) x t ty g w k, Now w → biX P .len ty [x] [t] g w k = lenX (slOf P t) (ev g x) w k) ∧
    (∀ (P : Program) x t ty g w k, Now w → biX P .cap ty [x] [t] g w k = capX (slOf P t) (ev g x) w k) ∧
    (∀ (P : Program) x t ty g w k, Now w → biX P .clear ty [x] [t] g w k = clearX P t ty (ev g x) w k) ∧
    (∀ (P : Program) s x t u ty g w k, Now w → biX P .append ty [s, x] [t, u] g w k = appX P t u ty (ev g s) (ev g x) w k) ∧
    (∀ (P : Program) s x t u ty g w k, Now w → biX P .copy ty [s, x] [t, u] g w k = copyX P t u ty (ev g s) (ev g x) w k) ∧
    (∀ (P : Program) x y ts ty g w k, Now w → biX P .min ty [x, y] ts g w k = minX (ev g x) (ev g y) w k) ∧
    (∀ (P : Program) x y ts ty g w k, Now w → biX P .max ty [x, y] ts g w k = maxX (ev g x) (ev g y) w k) ∧
    (∀ k a k' b w f, minX (.int k a) (.int k' b) w f = f (.int k (if b < a then b else a)) w) ∧ (∀ k a k' b w f, maxX (.int k a) (.int k' b) w f = f (.int k (if b > a then b else a)) w) ∧
    (∀ g want w A B t, guardX (some t) g want w A B = guardV (g t) want w A B) ∧
    (∀ g want w A B, guardX none g want w A B = B w) ∧
    (∀ g d v, upo g (some d) v = up g d v) ∧ (∀ g v, upo g none v = g) ∧
    (∀ g t, ev g (.tmp t) = g t) ∧ (∀ g v, ev g (.const v) = v) ∧ (∀ g f, ev g (.func f) = .func (.func f) #[] #[]) ∧ (∀ g m, ev g (.global m) = .pointer (some ⟨m, 0, none⟩)) := by
  repeat' apply And.intro
  all_goals (intros; rfl)
/-- The rules that stand behind the values. -/
theorem V :
    (∀ v w f, Now w → bindV v w f = f v w) ∧
    (∀ b w A B, guardV (.bool b) true w A B = forkX b w A B) ∧ (∀ b w A B, guardV (.bool b) false w A B = forkX b w B A) ∧
    (∀ w A B, forkX true w A B = A w) ∧ (∀ w A B, forkX false w A B = B w) ∧ (∀ w A, needX True w A = A w) ∧ (∀ b w A B, condX (.bool b) w A B = forkX b w A B) ∧
    (∀ a b w f, pickX (.bool true) a b w f = bindV a w f) ∧ (∀ a b w f, pickX (.bool false) a b w f = bindV b w f) ∧
    (∀ (P : Program) t cx cy k a k' b w f, binX P .shl t cx cy (.int k a) (.int k' b) w f = needX (0 ≤ b) w (f (.int k (shlI k a b)))) ∧
    (∀ (P : Program) t cx cy k a k' b w f, binX P .shr t cx cy (.int k a) (.int k' b) w f = needX (0 ≤ b) w (f (.int k (shrI k a b)))) ∧
    (∀ (P : Program) t cx cy k a b w f, binX P .add t cx cy (.int k a) (.int k b) w f = f (.int k (k.wrap (a + b))) w) ∧
    (∀ (P : Program) t cx cy k a b w f, binX P .sub t cx cy (.int k a) (.int k b) w f = f (.int k (k.wrap (a - b))) w) ∧
    (∀ (P : Program) t cx cy k a b w f, binX P .mul t cx cy (.int k a) (.int k b) w f = f (.int k (k.wrap (a * b))) w) ∧
    (∀ (P : Program) t cx cy k a b w f, binX P .quo t cx cy (.int k a) (.int k b) w f = needX (b ≠ 0) w (f (.int k (k.wrap (a.tdiv b))))) ∧
    (∀ (P : Program) t cx cy k a b w f, binX P .rem t cx cy (.int k a) (.int k b) w f = needX (b ≠ 0) w (f (.int k (a.tmod b)))) ∧
    (∀ (P : Program) t cx cy k a b w f, binX P .and t cx cy (.int k a) (.int k b) w f = f (.int k (andI k a b)) w) ∧
    (∀ (P : Program) t cx cy k a b w f, binX P .or t cx cy (.int k a) (.int k b) w f = f (.int k (orI k a b)) w) ∧
    (∀ (P : Program) t cx cy k a b w f, binX P .xor t cx cy (.int k a) (.int k b) w f = f (.int k (xorI k a b)) w) ∧
    (∀ (P : Program) t cx cy k a b w f, binX P .andNot t cx cy (.int k a) (.int k b) w f = f (.int k (andNotI k a b)) w) ∧
    (∀ (P : Program) t cx cy k a b w f, binX P .eql t cx cy (.int k a) (.int k b) w f = f (.bool (a == b)) w) ∧
    (∀ (P : Program) t cx cy k a b w f, binX P .neq t cx cy (.int k a) (.int k b) w f = f (.bool (a != b)) w) ∧
    (∀ (P : Program) t cx cy k a b w f, binX P .lss t cx cy (.int k a) (.int k b) w f = f (.bool (decide (a < b))) w) ∧
    (∀ (P : Program) t cx cy k a b w f, binX P .leq t cx cy (.int k a) (.int k b) w f = f (.bool (decide (a ≤ b))) w) ∧
    (∀ (P : Program) t cx cy k a b w f, binX P .gtr t cx cy (.int k a) (.int k b) w f = f (.bool (decide (b < a))) w) ∧
    (∀ (P : Program) t cx cy k a b w f, binX P .geq t cx cy (.int k a) (.int k b) w f = f (.bool (decide (b ≤ a))) w) ∧
    (∀ (P : Program) t cx cy a b w f, binX P .eql t cx cy (.bool a) (.bool b) w f = needX (isBoolT P t = true) w (f (.bool (a == b)))) ∧
    (∀ (P : Program) t cx cy a b w f, binX P .neq t cx cy (.bool a) (.bool b) w f = needX (isBoolT P t = true) w (f (.bool (a != b)))) ∧
    (∀ (P : Program) b w f, unX P .not (.bool b) w f = f (.bool (!b)) w) ∧ (∀ (P : Program) k a w f, unX P .neg (.int k a) w f = f (.int k (k.wrap (-a))) w) ∧
    (∀ off a w f, fldX (some off) (.pointer (some a)) w f = f (.pointer (some (a.add off))) w) ∧
    (∀ s x i w f, idxY none s x i w f = idxX s x i w f) ∧
    (∀ n sz s ad k i w f, idxY (some (n, sz)) s (.pointer (some ad)) (.int k i) w f = needX (0 ≤ i ∧ i < n) w (f (.pointer (some (ad.add (i.toNat * sz)))))) ∧
    (∀ e sz by_ x k i w f, idxX (some (e, sz, by_)) x (.int k i) w f = needX (SlWf x ∧ 0 ≤ i ∧ i < lenN x) w (f (elemAt x sz i.toNat))) ∧
    (∀ r x w f, lenX (some r) x w f = needX (isSl x) w (f (.int .i64 (lenN x)))) ∧
    (∀ k w v f, loadX (some k) w v f = optX (rdv k w v) w f) ∧
    (∀ v w f, optX (some v) w f = bindV v w f) ∧
    (∀ k w a, rdv k w (.pointer (some a)) = rd k w a) ∧
    (∀ z t w f, alloc0X (some z) t w f = allocX t (cellsL z) w f) ∧
    (∀ (l : List Value) i w f, extX (.tuple l.toArray) i w f = optX l[i]? w f) ∧
    (∀ a w f, nilX (.pointer (some a)) w f = f (.pointer (some a)) w) ∧
    (∀ k j k' m w f, convX (some k) (some j) (.int k' m) w f = f (.int j (j.wrap m)) w) ∧
    (∀ (P : Program) m (a b : List Value) args w k, callX P (.func (.func m) a.toArray b.toArray) args w k = callY (callable P m) P m (a ++ args ++ b).toArray w k) ∧
    (∀ (P : Program) m args w k, callY true P m args w k = CallsV P m args w k) ∧ (∀ (P : Program) m args w k, callY false P m args w k = extnX P m args w k) ∧
    (∀ (P : Program) t cx cy (xs ys : List Value) w f, binX P .eql t cx cy (.agg xs.toArray) (.agg ys.toArray) w f = eqY (eqKs P t) false xs ys w f (runsV P (do eqGuard .eql t cx cy (.agg xs.toArray) (.agg ys.toArray); binOp .eql t (.agg xs.toArray) (.agg ys.toArray)) w f)) ∧
    (∀ (P : Program) t cx cy (xs ys : List Value) w f, binX P .neq t cx cy (.agg xs.toArray) (.agg ys.toArray) w f = eqY (eqKs P t) true xs ys w f (runsV P (do eqGuard .neq t cx cy (.agg xs.toArray) (.agg ys.toArray); binOp .neq t (.agg xs.toArray) (.agg ys.toArray)) w f)) ∧
    (∀ ks neg xs ys w f D, eqY (some ks) neg xs ys w f D = needX (fitsK ks xs ∧ fitsK ks ys) w (f (.bool (eqL xs ys != neg)))) ∧
    (∀ (P : Program) t cx cy x n c w f, binX P .eql t cx cy x (.slice none n c) w f = nilX0 (slOf P t) false x w f) ∧ (∀ (P : Program) t cx cy x n c w f, binX P .neq t cx cy x (.slice none n c) w f = nilX0 (slOf P t) true x w f) ∧
    (∀ r neg x w f, nilX0 (some r) neg x w f = needX (isSl x) w (f (.bool (nilB x != neg)))) ∧
    (∀ r x w f, capX (some r) x w f = needX (isSl x) w (f (.int .i64 (capN x)))) ∧
    (∀ pl z w f, fillX pl z [] w f = f z w) ∧
    (∀ pl z i v r w f, fillX pl z ((i, v) :: r) w f = fillY pl pl[i]? z v r w f) ∧
    (∀ pl off sz z v r w f, fillY pl (some (off, sz)) z v r w f = needX ((cellsL v).length = sz ∧ off + sz ≤ z.length) w fun w => fillX pl (putAt z off (cellsL v)) r w f) ∧
    (∀ pl z ps w f, buildX (some (pl, z)) ps w f = fillX pl z ps w fun cs w => f (.agg cs.toArray) w) ∧
    (∀ e sz by_ z m ps w f, bslX (some (e, sz, by_)) (some z) m ps w f = needX (idxOk ps 0 m sz ∧ m * sz ≤ 16777216 ∧ 0 < sz) w fun w => rowX e (flatP ps) m w f) := by
  repeat' apply And.intro
  all_goals (intros; first | rfl | exact guardV_true | exact guardV_false | exact forkX_true | exact forkX_false | exact needX_true | exact condX_bool | (simp [binX, intX, needX]; done))
/-- Small things on values. -/
theorem U : (∀ (g : Fr) d v t, up g d v t = if t = d then v else g t) ∧ (∀ v l, initF (v :: l) 0 = v) ∧ (∀ v l t, initF (v :: l) (t + 1) = initF l t) ∧
    (∀ g : Fr, mapE g [] = []) ∧ (∀ (g : Fr) x r, mapE g (x :: r) = ev g x :: mapE g r) ∧
    (∀ g : Fr, pairE g [] = []) ∧ (∀ (g : Fr) i x r, pairE g ((i, x) :: r) = (i, ev g x) :: pairE g r) ∧
    (∀ g : Fr, optE g none = none) ∧ (∀ (g : Fr) x, optE g (some x) = some (ev g x)) ∧
    (∀ k n, cellsL (.int k n) = [.int k n]) ∧ (∀ b, cellsL (.bool b) = [.bool b]) ∧ (∀ a, cellsL (.pointer a) = [.pointer a]) ∧ (∀ a n c, cellsL (.slice a n c) = [.slice a n c]) ∧ (∀ l : List Value, cellsL (.agg l.toArray) = l) ∧ (∀ f a b, cellsL (.func f a b) = [.func f a b]) ∧ (cellsL .nilFunc = [.nilFunc]) ∧ (∀ r, cellsL (.map r) = [.map r]) ∧
    (∀ b o s m, Addr.add ⟨b, o, s⟩ (m + 1) = ⟨b, o + (m + 1), none⟩) ∧ (∀ a, Addr.add a 0 = a) ∧
    (∀ w a, rd none w a = w.cell? a) ∧ (fitsK [] [] = True) ∧ (∀ k r k' n s, fitsK (some k :: r) (.int k' n :: s) = (k' = k ∧ fitsK r s)) ∧ (∀ r b s, fitsK (none :: r) (.bool b :: s) = fitsK r s) ∧ (∀ k a r k' b s, eqL (.int k a :: r) (.int k' b :: s) = ((a == b) && eqL r s)) ∧ (∀ a r b s, eqL (.bool a :: r) (.bool b :: s) = ((a == b) && eqL r s)) ∧ (eqL [] [] = true) ∧ (∀ b, (b != false) = b) ∧ (∀ b, (b != true) = !b) ∧
    (∀ n c, nilB (.slice none n c) = true) ∧ (∀ a n c, nilB (.slice (some a) n c) = false) ∧ (∀ a n c, capN (.slice a n c) = c) ∧
    (∀ a n c, lenN (.slice a n c) = n) ∧ (∀ a n c, isSl (.slice a n c) = True) ∧ (∀ a n c, SlWf (.slice (some a) n c) = True) ∧ (∀ c, SlWf (.slice none 0 c) = True) ∧
    (∀ a n c sz i, elemAt (.slice (some a) n c) sz i = .pointer (some (a.add (i * sz)))) := by
  repeat' apply And.intro
  all_goals (intros; first | rfl | (simp [Addr.add]; done) | (simp [SlWf]; done) | (simp [fitsK]; done) | (cases ‹Bool› <;> rfl))

/-- The results. -/
def resL (P : Program) : List ResultVar → Fr → World → (List Value → World → Prop) → Prop
  | [], _, w, f => f [] w
  | .tmp t :: r, g, w, f => bindV (g t) w fun v w => resL P r g w fun vs w => f (v :: vs) w
  | .cell a t :: r, g, w, f => loadX (tyK P t) w (g a) fun v w => resL P r g w fun vs w => f (v :: vs) w
def tupV : List Value → Value
  | [v] => v
  | vs => .tuple vs.toArray
def resY (P : Program) (rs : Array ResultVar) (g : Fr) (w : World) (R : Value → World → Prop) : Prop := resL P rs.toList g w fun vs w => R (tupV vs) w
theorem loadVar_run {P : Program} {w : World} {t : TypeId} {v : Value} {f : Value → World → Prop} (h : loadX (tyK P t) w v f) : ∃ a u, v = .pointer (some a) ∧ (loadVar t a).run P w = .ok u w ∧ f u w := by
  have h2 := loadX_run h
  have ha : ∃ a, v = .pointer (some a) := by
    unfold loadX at h
    split at h
    · cases v with
      | pointer a => cases a with
        | some a => exact ⟨a, rfl⟩
        | none => simp [rdv, optX] at h
      | _ => simp [rdv, optX] at h
    · exact h.elim
  obtain ⟨a, rfl⟩ := ha
  unfold runsV at h2
  simp only [Instr.loadAt, Instr.sureAddr, Sem.run_bind, Sem.run_pure, Result.andThen_ok] at h2
  cases hr : (loadVar t a).run P w with
  | ok u w' => rw [hr] at h2; obtain ⟨hw, hf⟩ := h2; subst hw; exact ⟨a, u, rfl, hr, hf⟩
  | halt x w' => rw [hr] at h2; exact h2.elim
def readR (tmps : Array Value) : ResultVar → Sem Value
  | .tmp t => pure (tmps.getD t undef)
  | .cell a t => do loadVar t (← asAddr (tmps.getD a undef))
theorem results_eq (fn : Func) (tmps : Array Value) : results fn tmps = (do let vs ← (Functor.map List.toArray (fn.results.toList.mapM (readR tmps))); pure (if h : vs.size = 1 then vs[0] else .tuple vs)) := by
  unfold results
  rw [Array.mapM_eq_mapM_toList]
  congr 2
theorem resL_run {P : Program} {g : Fr} {w : World} {tmps : Array Value} (ht : ∀ t, tmps.getD t undef = g t) : ∀ (rs : List ResultVar) (f : List Value → World → Prop), resL P rs g w f →
    ∃ vs, (rs.mapM (readR tmps)).run P w = .ok vs w ∧ f vs w := by
  intro rs
  induction rs with
  | nil => intro f h; exact ⟨[], rfl, h⟩
  | cons r rs ih =>
    intro f h
    cases r with
    | tmp t =>
      obtain ⟨vs, h1, h2⟩ := ih _ h
      refine ⟨g t :: vs, ?_, h2⟩
      rw [List.mapM_cons]
      simp only [readR, ht, Sem.run_bind, Sem.run_pure, Result.andThen_ok]
      rw [h1]
      rfl
    | cell a t =>
      obtain ⟨x, u, hx, hr, hf⟩ := loadVar_run h
      obtain ⟨vs, h1, h2⟩ := ih _ hf
      refine ⟨u :: vs, ?_, h2⟩
      rw [List.mapM_cons]
      simp only [readR, ht, hx, Sem.run_bind, asAddr, Sem.run_pure, Result.andThen_ok, hr]
      rw [h1]
      rfl
theorem resX_of_resY {P : Program} {fn : Func} {g : Fr} {w : World} {R : Value → World → Prop} (h : resY P fn.results g w R) : resX P fn g w R := by
  intro tmps ht
  obtain ⟨vs, h1, h2⟩ := resL_run ht _ _ h
  refine ⟨tupV vs, ?_, h2⟩
  rw [results_eq]
  simp only [Sem.run_bind, Sem.run_map, h1, Result.andThen_ok, Sem.run_pure]
  congr 1
  cases vs with
  | nil => rfl
  | cons x r => cases r <;> simp [tupV]
/-- What a function's end asks. -/
def bodyY (P : Program) (rs : Array ResultVar) (R : Value → World → Prop) : Exit → Fr → World → Prop
  | .normal, g, w => resY P rs g w R
  | .ret, g, w => resY P rs g w R
  | _, _, _ => False
theorem callsV_of {P : Program} {f : FuncId} {fn : Func} {c : Code} {args : Array Value} {w : World} {R : Value → World → Prop} (hf : P.funcs[f]? = some fn) (hb : fn.body = some c)
    (hd : dstsOk fn.ntmps c = true) (hn : decide (args.size ≤ fn.ntmps) = true) (h : wpx P fn.ntmps c (bodyY P fn.results R) (initF args.toList) w) : CallsV P f args w R := by
  refine calls_of_wp hf hb (Go.wp_mono (wpx_sound c _ _ w _ hd (agr_init args _ (of_decide_eq_true hn)) h) fun e a' w' ⟨g, ha, hq⟩ => ?_)
  cases e with
  | normal =>
    obtain ⟨v, h1, h2⟩ := resX_of_resY (fn := fn) hq a'.tmps ha.2.2
    exact ⟨ha.1, v, h1, v, rfl, h2⟩
  | ret =>
    obtain ⟨v, h1, h2⟩ := resX_of_resY (fn := fn) hq a'.tmps ha.2.2
    exact ⟨ha.1, v, h1, v, rfl, h2⟩
  | _ => exact hq.elim
theorem Z : (∀ (P : Program) rs R g w, Now w → bodyY P rs R .normal g w = resY P rs g w R) ∧ (∀ (P : Program) rs R g w, Now w → bodyY P rs R .ret g w = resY P rs g w R) ∧
    (∀ (P : Program) (l : List ResultVar) g w R, Now w → resY P l.toArray g w R = resL P l g w fun vs w => R (tupV vs) w) ∧
    (∀ (P : Program) g w f, Now w → resL P [] g w f = f [] w) ∧ (∀ (P : Program) t r g w f, Now w → resL P (.tmp t :: r) g w f = bindV (g t) w fun v w => resL P r g w fun vs w => f (v :: vs) w) ∧
    (∀ (P : Program) a t r g w f, Now w → resL P (.cell a t :: r) g w f = loadX (tyK P t) w (g a) fun v w => resL P r g w fun vs w => f (v :: vs) w) ∧
    (∀ v, tupV [v] = v) ∧ (tupV [] = .tuple #[]) ∧ (∀ a b r, tupV (a :: b :: r) = .tuple (a :: b :: r).toArray) := by
  repeat' apply And.intro
  all_goals (intros; rfl)
end Go.Proofs.YtcdeeoakoljlpaaGreat
